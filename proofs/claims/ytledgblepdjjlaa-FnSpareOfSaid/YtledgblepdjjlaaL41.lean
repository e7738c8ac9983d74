/-
  impl: badRing, the whole recursion.
-/
import Derived.Test.YtledgblepdjjlaaL40
import Derived.Lib.LazyBuf
namespace Go.Proofs.Ytledgblepdjjlaa
set_option linter.unusedVariables false
set_option linter.unusedSimpArgs false
open Go.RowKit Pp

/-- A row of numbers against nil. -/
theorem neq_nil (w : World) (a : Option Addr) (l c : Nat) : (binOp .neq 28 (.slice a l c) (.slice none 0 0)).run Try.prog w = .ok (.bool (!a.isNone)) w := run_neq_slice_nil w _ _ a l c Try.underlying28
attribute [local go_sem] neq_nil
theorem path_det {p : Pl} {i j k : Int} : ∀ {r : List Nat} {l : Int}, r ≠ [] → path p i j r → path p k l r → i = k ∧ j = l := by
  intro r
  induction r generalizing i k with
  | nil => intro l h; exact absurd rfl h
  | cons a r ih =>
    intro l _ h1 h2
    refine ⟨h1.2.1.symm.trans h2.2.1, ?_⟩
    cases r with
    | nil => exact (show _ = j from h1.2.2).symm.trans h2.2.2
    | cons b r => exact (ih (by simp) h1.2.2 h2.2.2).2
/-- What a search for bad rings hands back: nothing, and then there is none that goes on the head; or a bad ring. -/
def Found (p : Pl) (r : List Nat) (f many : Nat) (w : World) (v : Value) : Prop :=
  (v = .slice none 0 0 ∧ ∀ t : List Nat, t.length = f → (∃ k, path p k k (r ++ t)) → 0 ≤ sumR p (r ++ t)) ∨
  ∃ (rr : List Nat) (k : Int) (b o c : Nat), v = .slice (some ⟨b, o, none⟩) rr.length c ∧ rr.length = many ∧ path p k k rr ∧ sumR p rr < 0 ∧ IntsR w w.heap.size b o (some ⟨b, o, none⟩) (ints rr)
theorem news_ints {w : World} {B b o : Nat} {A : Option Addr} {r : List Nat} (h : IntsR w B b o A (ints r)) : NewsAt w A r.length ((ints r).map (Value.int .i64)) := by
  have e := h.news
  rw [ints_len] at e
  exact e

set_option maxHeartbeats 4000000 in
set_option maxRecDepth 100000 in
theorem badRing_q (n : Int) (bs : List Bd) (hp : planOk ⟨n, bs⟩ = true) (many : Nat) (h1 : 1 ≤ many) (h6 : many ≤ 6) (A : Option Addr) (b o c : Nat) : ∀ (f : Nat) (r : List Nat) (i j s : Int) (A' : Option Addr) (b' o' c' : Nat) (w : World), r.length + f = many → path ⟨n, bs⟩ i j r → sumR ⟨n, bs⟩ r = s → (-99 * (r.length : Int) ≤ s ∧ s ≤ 99 * (r.length : Int)) → BdsR w w.heap.size b o A bs → IntsR w w.heap.size b' o' A' (ints r) →
    Calls Try.prog 85 #[.agg #[.int .i64 n, .slice A bs.length c], .slice A' r.length c', .int .i64 s, .int .i64 many] w fun e w' => ∃ v, e = .returned v ∧ Found ⟨n, bs⟩ r f many w' v ∧ Below w.heap.size w w' := by
  intro f
  induction f with
  | zero =>
    intro r i j s A' b' o' c' w hm hr hs hsb hR hI
    have hD := po_new (t := 32) (n := n) (c := c) (Below.refl w.heap.size w) hR
    have hal : Below w.heap.size w (w.alloc (.cells #[.int .i64 n, .slice A bs.length c] 32)) := by go_grown
    have hX := (hI.below hal).more hal.size
    have h0 : 0 < r.length := by omega
    have hmz : (r.length : Int) = (many : Int) := by omega
    have hml : r.length = many := by omega
    have h16 : r.length ≤ 16 := by omega
    have hne : r ≠ [] := fun e => by subst e; simp at h0
    obtain rfl := hI.addr (by rw [ints_len]; exact h0)
    clear hR hI hal
    have Hr := hide hr
    have Hp := hide hp
    have Hs := hide hs
    have Hm := hide hml
    clear hr hs hp hml hm
    obtain ⟨q, hq⟩ : ∃ q, decide (i = j) = q := ⟨_, rfl⟩
    have Hq := hide hq
    have hno : (q = false ∨ ¬ s < 0) → ∀ t : List Nat, t.length = 0 → (∃ k, path ⟨n, bs⟩ k k (r ++ t)) → 0 ≤ sumR ⟨n, bs⟩ (r ++ t) := by
      rintro h t ht ⟨k, hk⟩
      obtain rfl := List.eq_nil_of_length_eq_zero ht
      rw [List.append_nil] at hk ⊢
      obtain ⟨e1, e2⟩ := path_det hne Hr.out hk
      rcases h with h | h
      · rw [← hq] at h; simp at h; exact absurd (e1.trans e2.symm) h
      · rw [Hs.out]; omega
    have Hno := hide hno
    clear hno
    have hmb : ((r.length : Int) == (many : Int)) = true := by simp [hmz]
    clear hmz
    go_enter Try.func85, Try.ntmps85
    go_upto_region 1 with fail
    generalize w.alloc (.cells #[.int .i64 n, .slice A bs.length c] 32) = W at hD hX ⊢
    have p0 := hD.c0
    have p1 := hD.c1
    cases q
    · clear hq
      go_wp2_with (go_at_call 86; go_fit (ringOk_c n bs r i j Hr.out h0 h16 Hp.out A _ b o c b' o' c' _ _ (Nat.le_refl _) hD.rd hX); rintro e w1 ⟨rfl, hb1⟩; rw [Hq.out]; replace hD := hD.below hb1)
      go_ret
      exact ⟨_, rfl, .inl ⟨rfl, Hno.out (.inl (by first | rfl | trivial))⟩, hD.bel⟩
    · obtain rfl : i = j := by simpa using hq
      clear hq
      by_cases hneg : s < 0
      · go_wp2_with (go_at_call 86; go_fit (ringOk_c n bs r i i Hr.out h0 h16 Hp.out A _ b o c b' o' c' _ _ (Nat.le_refl _) hD.rd hX); rintro e w1 ⟨rfl, hb1⟩; simp only [decide_true]; replace hD := hD.below hb1; replace hX := (hX.below hb1).more hb1.size)
        go_ret
        exact ⟨_, rfl, .inr ⟨r, i, b', o', c', rfl, Hm.out, Hr.out, by rw [Hs.out]; exact hneg, hX⟩, hD.bel⟩
      · go_wp2_with (go_at_call 86; go_fit (ringOk_c n bs r i i Hr.out h0 h16 Hp.out A _ b o c b' o' c' _ _ (Nat.le_refl _) hD.rd hX); rintro e w1 ⟨rfl, hb1⟩; simp only [decide_true]; replace hD := hD.below hb1)
        go_ret
        exact ⟨_, rfl, .inl ⟨rfl, Hno.out (.inr hneg)⟩, hD.bel⟩
  | succ f ih =>
    intro r i j s A' b' o' c' w hm hr hs hsb hR hI
    obtain ⟨i0, hi0, hz0, hz1, hz2⟩ := info_parts infoI
    have hD := po_new (t := 32) (n := n) (c := c) (Below.refl w.heap.size w) hR
    have hal : Below w.heap.size w (w.alloc (.cells #[.int .i64 n, .slice A bs.length c] 32)) := by go_grown
    have hX := (hI.below hal).more hal.size
    have hmz : ¬ (r.length : Int) = (many : Int) := by omega
    have hbl : bs.length ≤ 16 := (planOk_iff.1 hp).2.1
    have hbd : ∀ x ∈ bs, -99 ≤ x.m ∧ x.m ≤ 99 := fun x hx => (bdOk_iff.1 ((planOk_iff.1 hp).2.2 x hx)).2.2
    have hr6 : r.length ≤ 6 := by omega
    clear hR hI hal
    have Hr := hide hr
    have Hp := hide hp
    have Hs := hide hs
    have Hm := hide hm
    have Hb := hide hbd
    have Hl := hide (ints_len r)
    clear hr hs hp hm hbd
    have hmb : ((r.length : Int) == (many : Int)) = false := by simpa using hmz
    clear hmz
    go_enter Try.func85, Try.ntmps85
    go_upto_region 1 with fail
    generalize w.alloc (.cells #[.int .i64 n, .slice A bs.length c] 32) = W at hD hX ⊢
    have p0 := hD.c0
    have p1 := hD.c1
    go_wp2_with fail
    clear hmb
    go_loopg [28] bs.length (fun gh s28 wr => ∃ k : Nat, k ≤ bs.length ∧ gh = bs.length - k ∧ s28 = .int .i64 k ∧ Hid (∀ (a : Nat) (t : List Nat), a < k → t.length = f → (∃ u, path ⟨n, bs⟩ u u (r ++ a :: t)) → 0 ≤ sumR ⟨n, bs⟩ (r ++ a :: t)) ∧ PO w wr w.heap.size b o n A c bs ∧ IntsR wr wr.heap.size b' o' A' (ints r))
    case atStart => exact ⟨0, Nat.zero_le _, rfl, rfl, fun a t h => by omega, hD, hX⟩
    case round =>
      clear hD hX p0 p1
      obtain ⟨k, hk, rfl, rfl, Hno, hD, hX⟩ := hrel
      have p0 := hD.c0
      have p1 := hD.c1
      by_cases hlt : k < bs.length
      · have hlt' : (k : Int) < (bs.length : Int) := by omega
        obtain rfl := hD.rd.addr (by omega)
        have hka := bd_at (n := n) hlt
        have d0 := hD.rd.c0 k _ hka
        have d1 := hD.rd.c1 k _ hka
        have d2 := hD.rd.c2 k _ hka
        have hmb := Hb.out _ (List.mem_of_getElem? hka)
        obtain ⟨x, hx⟩ : ∃ x, bdAt ⟨n, bs⟩ k = x := ⟨_, rfl⟩
        rw [hx] at d0 d1 d2 hmb
        have Hx := hide hx
        clear hx hka
        go_upto_region 8 with fail
        have hD1 := hD.alloc (.cells #[.int .i64 x.f, .int .i64 x.t, .int .i64 x.m] 66)
        have hba : Below wr.heap.size wr (wr.alloc (.cells #[.int .i64 x.f, .int .i64 x.t, .int .i64 x.m] 66)) := by go_grown
        have hX1 := (hX.below hba).more hba.size
        have e0 : (wr.alloc (.cells #[.int .i64 x.f, .int .i64 x.t, .int .i64 x.m] 66)).cell? ⟨wr.heap.size, 0, none⟩ = some (.int .i64 x.f) := by simp [go_sem]
        have e2 : (wr.alloc (.cells #[.int .i64 x.f, .int .i64 x.t, .int .i64 x.m] 66)).cell? ⟨wr.heap.size, 2, none⟩ = some (.int .i64 x.m) := by simp [go_sem]
        have ex : wr.heap.size < (wr.alloc (.cells #[.int .i64 x.f, .int .i64 x.t, .int .i64 x.m] 66)).heap.size := by simp
        clear hD hX hba p0 p1 d0 d1 d2
        generalize wr.alloc (.cells #[.int .i64 x.f, .int .i64 x.t, .int .i64 x.m] 66) = W1 at hD1 hX1 e0 e2 ex ⊢
        generalize wr.heap.size = Q at e0 e2 ex ⊢
        have p0 := hD1.c0
        have p1 := hD1.c1
        rcases Nat.eq_zero_or_pos r.length with hr0 | hr0
        · have hrn := List.eq_nil_of_length_eq_zero hr0
          have hpath : Hid (∃ i2, path ⟨n, bs⟩ i2 x.t (r ++ [k])) := ⟨x.f, by rw [hrn]; exact ⟨hlt, by rw [Hx.out], by rw [Hx.out]; rfl⟩⟩
          have hz : ¬ (0 : Int) < (r.length : Int) := by omega
          have hzn : ¬ 0 < r.length := by omega
          clear hrn hr0
          go_quiet (fail)
          go_upto_region 9 with fail
          clear hzn hz
          have hd : Below W1.heap.size W1 (W1.drewN nq) := ⟨rfl, rfl, rfl, Nat.le_refl _, fun _ _ => rfl⟩
          have hD2 := hD1.below hd
          have hX2 := (hX1.below hd).more hd.size
          have f0 := ((bcell hd).1 Q 0 ex).trans e0
          have f2 := ((bcell hd).1 Q 2 ex).trans e2
          have fx := Nat.lt_of_lt_of_le ex hd.size
          clear hD1 hX1 e0 e2 ex p0 p1 hd
          generalize W1.drewN nq = W2 at hD2 hX2 f0 f2 fx ⊢
          have p0 := hD2.c0
          have p1 := hD2.c1
          have hlm : ((ints r).map (Value.int .i64)).length = r.length * 1 := by rw [List.length_map, ints_len, Nat.mul_one]
          have hnews := news_ints hX2
          go_upto_region 10 with (first
            | (at_builtin; refine app_list _ rfl (.const (.slice none 0 0)) (.tmp 52) _ rfl W2.heap.size 3 i0 _ 1 8 Try.underlying28 hi0 hz0 hz1 hz2 rfl (by omega) (.slice none 0 0) 0 [] rfl (World.ownsRow_nil _ _ _ _) _ r.length c' ((ints r).map (Value.int .i64)) rfl hlm hnews (ints_one _) (by omega) (by omega) (Nat.le_refl _) ?_; intro A4 c4 w4 hown4 hg4 hat4; simp only [Nat.zero_add, List.nil_append] at hown4 hat4 ⊢; have hb4 : Below W2.heap.size W2 w4 := below_app (Below.refl _ _) (World.ownsRow_nil W2 W2.heap.size 3 1) hg4 (Nat.le_refl _) (Nat.le_refl _); have hs4 := hb4.size)
            | (at_builtin; refine app_list _ rfl (.tmp 53) (.tmp 55) _ rfl W2.heap.size 3 i0 _ 1 8 Try.underlying28 hi0 hz0 hz1 hz2 rfl (by omega) (.slice A4 r.length c4) r.length ((ints r).map (Value.int .i64)) rfl (hown4.alloc _) _ 1 _ [.int .i64 (k : Int)] rfl rfl (NewsAt.block (cs := #[.int .i64 (k : Int)]) (at_new rfl)) (by simp [Value.oneCell']) (by omega) (by omega) (by simp only [World.size_alloc]; omega) ?_; intro A5 c5 w5 hown5 hg5 hat5))
          have hb5a : Below w4.heap.size w4 (w4.alloc (.cells #[.int .i64 (k : Int)] 3)) := by go_grown
          have hb5 : Below W2.heap.size W2 w5 := below_app (bthen hb4 hb5a) (hown4.alloc (.cells #[.int .i64 (k : Int)] 3)) hg5 (Nat.le_refl _) (Nat.le_trans hs4 hb5a.size)
          have hl2 : (ints (r ++ [k])).length = r.length + 1 := by rw [ints_len]; simp
          have hl3 : (r ++ [k]).length = r.length + 1 := by simp
          have hown6 : OwnI W2.heap.size w5 (.slice A5 (ints (r ++ [k])).length c5) (ints (r ++ [k])) := by
            have e : (ints (r ++ [k])).map (Value.int .i64) = (ints r).map (Value.int .i64) ++ [Value.int .i64 (k : Int)] := by unfold ints; simp
            unfold OwnI
            rw [e, hl2]
            exact hown5
          obtain ⟨g5, hr5⟩ := own_IntsR hown6
          have hD5 := hD2.below hb5
          have hX5 := (hX2.below hb5).more hb5.size
          have q2 := ((bcell hb5).1 Q 2 fx).trans f2
          have hwr : IntKind.i64.wrap (s + x.m) = s + x.m := IntWalk.i64_in _ (by omega)
          have hsum : sumR ⟨n, bs⟩ (r ++ [k]) = s + x.m := by rw [sumR_append, Hs.out]; simp only [sumR, Hx.out]; omega
          obtain ⟨i2, hp2⟩ := hpath.out
          have hm2 : (r ++ [k]).length + f = many := by have := Hm.out; omega
          have hcall := ih (r ++ [k]) i2 x.t (s + x.m) A5 g5 0 c5 w5 hm2 hp2 hsum (by rw [hl3]; omega) hD5.rd hr5
          rw [hl3] at hcall
          clear hl2 hl3 hown5 hown6 hown4 hg4 hg5 hat4 hat5 hnews hlm hb4 hb5 hb5a hs4 hD2 hX2 f0 f2 fx p0 p1 hsum hp2 hm2
          have p0 := hD5.c0
          have p1 := hD5.c1
          go_upto_region 11 with (go_at_call 85; refine hcall.mono ?_; clear hcall; rintro e w6 ⟨v, rfl, hF, hb6⟩)
          have hD6 := hD5.below hb6
          have hX6 := (hX5.below hb6).more hb6.size
          rcases hF with ⟨rfl, hno⟩ | ⟨rr, u, b9, o9, c9, rfl, q3, q4, q5, q6⟩
          · have hnext : Hid (∀ (a : Nat) (t : List Nat), a < k + 1 → t.length = f → (∃ u, path ⟨n, bs⟩ u u (r ++ a :: t)) → 0 ≤ sumR ⟨n, bs⟩ (r ++ a :: t)) := by
              rintro a t ha ht ⟨u, hu⟩
              by_cases e : a = k
              · subst e
                have h := hno t ht ⟨u, by simpa using hu⟩
                simpa using h
              · exact Hno.out a t (by omega) ht ⟨u, hu⟩
            clear hno
            go_wp2_with fail
            go_roundg (bs.length - (k + 1))
            case measure => go_light; omega
            case rel => go_light; exact ⟨k + 1, by omega, rfl, by go_num, hnext, hD6, hX6⟩
          · go_wp2_with fail
            go_ret
            exact ⟨_, rfl, .inr ⟨rr, u, b9, o9, c9, rfl, q3, q4, q5, q6⟩, hD6.bel⟩
        · have hz : (0 : Int) < (r.length : Int) := by omega
          obtain ⟨la, _, hla, hla2, _, _, hlt2⟩ := path_at Hr.out (show r.length - 1 < r.length by omega)
          have hlj : (bdAt ⟨n, bs⟩ la).t = j := by
            rw [List.drop_of_length_le (by omega)] at hlt2
            exact hlt2
          have hw1 : IntKind.i64.wrap ((r.length : Int) - 1) = ((r.length - 1 : Nat) : Int) := by rw [show ((r.length - 1 : Nat) : Int) = (r.length : Int) - 1 by omega]; exact IntWalk.i64_in _ (by omega)
          obtain rfl := hX1.addr (by rw [Hl.out]; exact hr0)
          have x0 := hX1.cell (r.length - 1) (by rw [Hl.out]; omega)
          rw [ints_at hla] at x0
          have y0 := hD1.rd.c1 la _ (bd_at (n := n) hla2)
          rw [hlj] at y0
          have hz1 : ((r.length - 1 : Nat) : Int) < (r.length : Int) := by omega
          have hz2 : (la : Int) < (bs.length : Int) := by dsimp only at hla2; omega
          by_cases hxj : x.f = j
          · have hpath : Hid (∃ i2, path ⟨n, bs⟩ i2 x.t (r ++ [k])) := ⟨i, path_append.2 ⟨j, Hr.out, hlt, by rw [Hx.out]; exact hxj, by rw [Hx.out]; rfl⟩⟩
            clear hla hla2 hlt2 hlj
            go_quiet (fail)
            clear x0 y0 hz1 hz2 hw1
            go_upto_region 9 with fail
            have hd : Below W1.heap.size W1 (W1.drewN nq) := ⟨rfl, rfl, rfl, Nat.le_refl _, fun _ _ => rfl⟩
            have hD2 := hD1.below hd
            have hX2 := (hX1.below hd).more hd.size
            have f0 := ((bcell hd).1 Q 0 ex).trans e0
            have f2 := ((bcell hd).1 Q 2 ex).trans e2
            have fx := Nat.lt_of_lt_of_le ex hd.size
            clear hD1 hX1 e0 e2 ex p0 p1 hd
            generalize W1.drewN nq = W2 at hD2 hX2 f0 f2 fx ⊢
            have p0 := hD2.c0
            have p1 := hD2.c1
            have hlm : ((ints r).map (Value.int .i64)).length = r.length * 1 := by rw [List.length_map, ints_len, Nat.mul_one]
            have hnews := news_ints hX2
            go_upto_region 10 with (first
              | (at_builtin; refine app_list _ rfl (.const (.slice none 0 0)) (.tmp 52) _ rfl W2.heap.size 3 i0 _ 1 8 Try.underlying28 hi0 hz0 hz1 hz2 rfl (by omega) (.slice none 0 0) 0 [] rfl (World.ownsRow_nil _ _ _ _) _ r.length c' ((ints r).map (Value.int .i64)) rfl hlm hnews (ints_one _) (by omega) (by omega) (Nat.le_refl _) ?_; intro A4 c4 w4 hown4 hg4 hat4; simp only [Nat.zero_add, List.nil_append] at hown4 hat4 ⊢; have hb4 : Below W2.heap.size W2 w4 := below_app (Below.refl _ _) (World.ownsRow_nil W2 W2.heap.size 3 1) hg4 (Nat.le_refl _) (Nat.le_refl _); have hs4 := hb4.size)
              | (at_builtin; refine app_list _ rfl (.tmp 53) (.tmp 55) _ rfl W2.heap.size 3 i0 _ 1 8 Try.underlying28 hi0 hz0 hz1 hz2 rfl (by omega) (.slice A4 r.length c4) r.length ((ints r).map (Value.int .i64)) rfl (hown4.alloc _) _ 1 _ [.int .i64 (k : Int)] rfl rfl (NewsAt.block (cs := #[.int .i64 (k : Int)]) (at_new rfl)) (by simp [Value.oneCell']) (by omega) (by omega) (by simp only [World.size_alloc]; omega) ?_; intro A5 c5 w5 hown5 hg5 hat5))
            have hb5a : Below w4.heap.size w4 (w4.alloc (.cells #[.int .i64 (k : Int)] 3)) := by go_grown
            have hb5 : Below W2.heap.size W2 w5 := below_app (bthen hb4 hb5a) (hown4.alloc (.cells #[.int .i64 (k : Int)] 3)) hg5 (Nat.le_refl _) (Nat.le_trans hs4 hb5a.size)
            have hl2 : (ints (r ++ [k])).length = r.length + 1 := by rw [ints_len]; simp
            have hl3 : (r ++ [k]).length = r.length + 1 := by simp
            have hown6 : OwnI W2.heap.size w5 (.slice A5 (ints (r ++ [k])).length c5) (ints (r ++ [k])) := by
              have e : (ints (r ++ [k])).map (Value.int .i64) = (ints r).map (Value.int .i64) ++ [Value.int .i64 (k : Int)] := by unfold ints; simp
              unfold OwnI
              rw [e, hl2]
              exact hown5
            obtain ⟨g5, hr5⟩ := own_IntsR hown6
            have hD5 := hD2.below hb5
            have hX5 := (hX2.below hb5).more hb5.size
            have q2 := ((bcell hb5).1 Q 2 fx).trans f2
            have hwr : IntKind.i64.wrap (s + x.m) = s + x.m := IntWalk.i64_in _ (by omega)
            have hsum : sumR ⟨n, bs⟩ (r ++ [k]) = s + x.m := by rw [sumR_append, Hs.out]; simp only [sumR, Hx.out]; omega
            obtain ⟨i2, hp2⟩ := hpath.out
            have hm2 : (r ++ [k]).length + f = many := by have := Hm.out; omega
            have hcall := ih (r ++ [k]) i2 x.t (s + x.m) A5 g5 0 c5 w5 hm2 hp2 hsum (by rw [hl3]; omega) hD5.rd hr5
            rw [hl3] at hcall
            clear hl2 hl3 hown5 hown6 hown4 hg4 hg5 hat4 hat5 hnews hlm hb4 hb5 hb5a hs4 hD2 hX2 f0 f2 fx p0 p1 hsum hp2 hm2
            have p0 := hD5.c0
            have p1 := hD5.c1
            go_upto_region 11 with (go_at_call 85; refine hcall.mono ?_; clear hcall; rintro e w6 ⟨v, rfl, hF, hb6⟩)
            have hD6 := hD5.below hb6
            have hX6 := (hX5.below hb6).more hb6.size
            rcases hF with ⟨rfl, hno⟩ | ⟨rr, u, b9, o9, c9, rfl, q3, q4, q5, q6⟩
            · have hnext : Hid (∀ (a : Nat) (t : List Nat), a < k + 1 → t.length = f → (∃ u, path ⟨n, bs⟩ u u (r ++ a :: t)) → 0 ≤ sumR ⟨n, bs⟩ (r ++ a :: t)) := by
                rintro a t ha ht ⟨u, hu⟩
                by_cases e : a = k
                · subst e
                  have h := hno t ht ⟨u, by simpa using hu⟩
                  simpa using h
                · exact Hno.out a t (by omega) ht ⟨u, hu⟩
              clear hno
              go_wp2_with fail
              go_roundg (bs.length - (k + 1))
              case measure => go_light; omega
              case rel => go_light; exact ⟨k + 1, by omega, rfl, by go_num, hnext, hD6, hX6⟩
            · go_wp2_with fail
              go_ret
              exact ⟨_, rfl, .inr ⟨rr, u, b9, o9, c9, rfl, q3, q4, q5, q6⟩, hD6.bel⟩
          · have hskip : Hid (∀ (a : Nat) (t : List Nat), a < k + 1 → t.length = f → (∃ u, path ⟨n, bs⟩ u u (r ++ a :: t)) → 0 ≤ sumR ⟨n, bs⟩ (r ++ a :: t)) := by
              rintro a t ha ht ⟨u, hu⟩
              by_cases e : a = k
              · subst e
                obtain ⟨v, q1, q2⟩ := path_append.1 hu
                have hv := (path_det (fun e => by subst e; simp at hr0) Hr.out q1).2
                have := q2.2.1
                rw [Hx.out, ← hv] at this
                exact absurd this hxj
              · exact Hno.out a t (by omega) ht ⟨u, hu⟩
            have hne : (x.f == j) = false := by simpa using hxj
            clear hla hla2 hlt2 hlj
            go_quiet (fail)
            clear x0 y0 hz1 hz2 hw1
            go_wp2_with fail
            have hd : Below W1.heap.size W1 (W1.drewN nq) := ⟨rfl, rfl, rfl, Nat.le_refl _, fun _ _ => rfl⟩
            go_roundg (bs.length - (k + 1))
            case measure => go_light; omega
            case rel => go_light; exact ⟨k + 1, by omega, rfl, by go_num, hskip, hD1.below hd, (hX1.below hd).more hd.size⟩
      · have hkl : k = bs.length := by omega
        have hall : ∀ t : List Nat, t.length = f + 1 → (∃ u, path ⟨n, bs⟩ u u (r ++ t)) → 0 ≤ sumR ⟨n, bs⟩ (r ++ t) := by
          rintro t ht ⟨u, hu⟩
          cases t with
          | nil => simp at ht
          | cons a t =>
            obtain ⟨v, _, h2, _⟩ := path_append.1 hu
            exact Hno.out a t (by rw [hkl]; exact h2) (by simpa using ht) ⟨u, hu⟩
        have Hall := hide hall
        clear hall
        go_wp2_with fail
        go_ret
        exact ⟨_, rfl, .inl ⟨rfl, Hall.out⟩, hD.bel⟩
end Go.Proofs.Ytledgblepdjjlaa
