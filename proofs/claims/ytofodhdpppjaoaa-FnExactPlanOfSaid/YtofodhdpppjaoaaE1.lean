/-
  What the exact laws share: plans that are made, compared, marked and held.
-/
import Derived.Test.YtofodhdpppjaoaaL11a
import Derived.Test.YtofodhdpppjaoaaL2
namespace Go.Proofs.Ytofodhdpppjaoaa
set_option linter.unusedVariables false
set_option linter.unusedSimpArgs false
open Go.RowKit Pp

theorem gr_trans {w w1 w2 : World} {row : Option Nat} (h : w.grownBy w1 row) (h2 : w1.grownBy w2 row) : w.grownBy w2 row :=
  ⟨h2.os.trans h.os, h2.tape.trans h.tape, h2.output.trans h.output, Nat.le_trans h.size h2.size, fun k hk hne => (h2.block k (Nat.lt_of_lt_of_le hk h.size) hne).trans (h.block k hk hne)⟩
def rowF (bs : List Bd) (k : Nat) : Nat → Value := fun j => if j < k * 3 then (bdCs bs)[j]?.getD default else .int .i64 0
theorem rowF_step {bs : List Bd} {k : Nat} {x : Bd} (hx : bs[k]? = some x) (j : Nat) :
    (if j = k * 3 + 2 then Value.int .i64 x.m else if j = k * 3 + 1 then .int .i64 x.t else if j = k * 3 then .int .i64 x.f else rowF bs k j) = rowF bs (k + 1) j := by
  obtain ⟨g0, g1, g2⟩ := bdCs_get bs k x hx
  unfold rowF
  by_cases h2 : j = k * 3 + 2
  · subst h2; rw [if_pos rfl, if_pos (by omega), g2]; rfl
  · rw [if_neg h2]
    by_cases h1 : j = k * 3 + 1
    · subst h1; rw [if_pos rfl, if_pos (by omega), g1]; rfl
    · rw [if_neg h1]
      by_cases h0 : j = k * 3
      · subst h0; rw [if_pos rfl, if_pos (by omega), g0]; rfl
      · rw [if_neg h0]
        by_cases h : j < k * 3
        · rw [if_pos h, if_pos (by omega)]
        · rw [if_neg h, if_neg (by omega)]

set_option maxHeartbeats 1000000 in
set_option maxRecDepth 100000 in
theorem eqBound_yes (x : Bd) (w : World) : Calls Try.prog 76 #[.agg #[.int .i64 x.f, .int .i64 x.t, .int .i64 x.m], .agg #[.int .i64 x.f, .int .i64 x.t, .int .i64 x.m]] w fun e w' => e = .returned (.bool true) ∧ Below w.heap.size w w' := by
  have hW : Below w.heap.size w ((w.alloc (.cells #[.int .i64 x.f, .int .i64 x.t, .int .i64 x.m] 75)).alloc (.cells #[.int .i64 x.f, .int .i64 x.t, .int .i64 x.m] 75)) := by go_grown
  go_enter Try.func76, Try.ntmps76
  go_wp2_with fail
  go_ret
  exact ⟨rfl, hW⟩

set_option maxHeartbeats 4000000 in
set_option maxRecDepth 100000 in
theorem eqBoundS_yes (bs : List Bd) (A A' : Option Addr) (b o c b' o' c' B : Nat) (w : World) (hn : bs.length ≤ 2000000) (hB : B ≤ w.heap.size) (hR : BdsR w B b o A bs) (hR' : BdsR w B b' o' A' bs) :
    Calls Try.prog 48 #[.slice A bs.length c, .slice A' bs.length c'] w fun e w' => e = .returned (.bool true) ∧ Below w.heap.size w w' := by
  go_enter Try.func48, Try.ntmps48
  go_wp2_with fail
  go_loopg [5] bs.length (fun gh i wr => ∃ k : Nat, k ≤ bs.length ∧ gh = bs.length - k ∧ i = .int .i64 k ∧ Below w.heap.size w wr)
  case atStart => exact ⟨0, Nat.zero_le _, rfl, rfl, Below.refl _ _⟩
  case round =>
    obtain ⟨k, hk, rfl, rfl, hW⟩ := hrel
    by_cases hlt : k < bs.length
    · have hz : (k : Int) < (bs.length : Int) := by omega
      have hz0 : (0 : Int) ≤ (k : Int) := by omega
      obtain rfl := hR.addr (by omega)
      obtain rfl := hR'.addr (by omega)
      have hx := List.getElem?_eq_getElem hlt
      have hRw := hR.below (hW.mono hB)
      have hRw' := hR'.below (hW.mono hB)
      have d0 := hRw.c0 k _ hx
      have d1 := hRw.c1 k _ hx
      have d2 := hRw.c2 k _ hx
      have e0 := hRw'.c0 k _ hx
      have e1 := hRw'.c1 k _ hx
      have e2 := hRw'.c2 k _ hx
      have hb1 : b < wr.heap.size := Nat.lt_of_lt_of_le (hR.lt (by omega)) (Nat.le_trans hB hW.size)
      have hb2 : b' < wr.heap.size := Nat.lt_of_lt_of_le (hR'.lt (by omega)) (Nat.le_trans hB hW.size)
      generalize bs[k] = x at d0 d1 d2 e0 e1 e2
      clear hx hRw hRw'
      go_upto_region 6 with fail
      go_region_held3 (fun w' => w'.cell? ⟨b, o + k * 3, none⟩ = some (.int .i64 x.f) ∧ w'.cell? ⟨b, o + k * 3 + 1, none⟩ = some (.int .i64 x.t) ∧ w'.cell? ⟨b, o + k * 3 + 2, none⟩ = some (.int .i64 x.m) ∧ w'.cell? ⟨b', o' + k * 3, none⟩ = some (.int .i64 x.f) ∧ w'.cell? ⟨b', o' + k * 3 + 1, none⟩ = some (.int .i64 x.t) ∧ w'.cell? ⟨b', o' + k * 3 + 2, none⟩ = some (.int .i64 x.m))
        (first
          | (go_split_ands; (repeat' apply And.intro) <;> first | assumption | exact ((bcell hb5).1 _ _ (by simp only [World.size_drew]; omega)).trans (by assumption))
          | (go_keep; done))
        ((go_at_call 76; go_fit (eqBound_yes x _); rintro e w5 ⟨rfl, hb5⟩; have hW5 : Below w.heap.size w w5 := bthen hW.drew hb5))
      go_wp2_with fail
      go_roundg (bs.length - (k + 1))
      case measure => go_light; omega
      case rel => go_light; exact ⟨k + 1, by omega, rfl, by go_num, hW5⟩
    · go_wp2_with fail
      go_ret
      exact ⟨rfl, hW⟩

set_option maxHeartbeats 1000000 in
set_option maxRecDepth 100000 in
theorem eqPlan_yes (n : Int) (bs : List Bd) (A A' : Option Addr) (b o c b' o' c' B : Nat) (w : World) (hn : bs.length ≤ 2000000) (hB : B ≤ w.heap.size) (hR : BdsR w B b o A bs) (hR' : BdsR w B b' o' A' bs) :
    Calls Try.prog 16 #[.agg #[.int .i64 n, .slice A bs.length c], .agg #[.int .i64 n, .slice A' bs.length c']] w fun e w' => e = .returned (.bool true) ∧ Below w.heap.size w w' := by
  have hW : Below w.heap.size w ((w.alloc (.cells #[.int .i64 n, .slice A bs.length c] 29)).alloc (.cells #[.int .i64 n, .slice A' bs.length c'] 29)) := by go_grown
  go_enter Try.func16, Try.ntmps16
  go_wp2_with (go_at_call 48; go_fit (eqBoundS_yes bs A A' b o c b' o' c' B _ hn (Nat.le_trans hB hW.size) (hR.below (hW.mono hB)) (hR'.below (hW.mono hB))); rintro e w5 ⟨rfl, hb5⟩)
  go_ret
  exact ⟨rfl, bthen hW hb5⟩

/-- What marks a row of bounds. -/
def marks (k : Int) (n : Nat) : List Bd := (List.range n).map fun (i : Nat) => (⟨k + 3 * (i : Int), k + 3 * (i : Int) + 1, k + 3 * (i : Int) + 2⟩ : Bd)
theorem marks_length (k : Int) (n : Nat) : (marks k n).length = n := by simp [marks]
theorem marks_get (k : Int) (n i : Nat) (h : i < n) : (marks k n)[i]? = some ⟨k + 3 * i, k + 3 * i + 1, k + 3 * i + 2⟩ := by simp [marks, h]
theorem marks_cell (k : Int) (n j : Nat) (h : j < n * 3) : (bdCs (marks k n))[j]? = some (.int .i64 (k + j)) := by
  have hi : j / 3 < n := by omega
  obtain ⟨g0, g1, g2⟩ := bdCs_get _ _ _ (marks_get k n (j / 3) hi)
  have hr : j = j / 3 * 3 ∨ j = j / 3 * 3 + 1 ∨ j = j / 3 * 3 + 2 := by omega
  dsimp only at g0 g1 g2
  rcases hr with e | e | e
  · rw [← e] at g0; rw [g0]; congr 2; omega
  · rw [← e] at g1; rw [g1]; congr 2; omega
  · rw [← e] at g2; rw [g2]; congr 2; omega

set_option maxHeartbeats 4000000 in
set_option maxRecDepth 100000 in
theorem markBoundS_c (k0 : Int) (base : Nat) (A : Option Addr) (c : Nat) (bs : List Bd) (w : World) (hk : 0 ≤ k0 ∧ k0 ≤ 1000000000000) (hn : bs.length ≤ 2000000) (hown : OwnB base w (.slice A bs.length c) bs) (hw : base ≤ w.heap.size) :
    Calls Try.prog 50 #[.slice A bs.length c, .int .i64 k0] w fun e w' => e = .returned (.int .i64 (k0 + 3 * bs.length)) ∧ OwnB base w' (.slice A bs.length c) (marks k0 bs.length) ∧ w.grownBy w' (Value.slice A bs.length c).ownBlock := by
  obtain ⟨hk0, hk1⟩ := hk
  rcases Nat.eq_zero_or_pos bs.length with h0 | h0
  · have e : bs = [] := List.eq_nil_of_length_eq_zero h0
    subst e
    go_enter Try.func50, Try.ntmps50
    go_wp2_with fail
    go_loopg [1, 5] 0 (fun gh s1 s5 wr => wr = w ∧ s1 = .int .i64 k0 ∧ s5 = .int .i64 0)
    case atStart => exact ⟨rfl, rfl, rfl⟩
    case round =>
      obtain ⟨rfl, rfl, rfl⟩ := hrel
      go_wp2_with fail
      go_ret
      exact ⟨by simp, by simpa [marks] using hown, World.grownBy.refl _ _⟩
  · obtain ⟨A1, g, c1, hv, h1, h2, _⟩ := own_form hown
    injection hv with e1 _ e3
    subst e1; subst e3
    obtain rfl := h1 h0
    obtain ⟨f, hf, hx, hb, hnc, hcm⟩ := own_row hown
    obtain ⟨n, hn'⟩ : ∃ n, bs.length = n := ⟨_, rfl⟩
    rw [hn'] at hn h0 hnc ⊢
    clear hown h1 h2 hx hn' hw
    go_enter Try.func50, Try.ntmps50
    go_wp2_with fail
    go_loopg [1, 5] n (fun gh s1 s5 wr => ∃ i : Nat, ∃ v : Int, i ≤ n ∧ gh = n - i ∧ s1 = .int .i64 v ∧ s5 = .int .i64 i ∧ Hid (v = k0 + 3 * i) ∧ w.grownBy wr (some g) ∧ wr.rowIs g 75 (c * 3) (fun j => if j < i * 3 then .int .i64 (k0 + j) else f j))
    case atStart => exact ⟨0, k0, Nat.zero_le _, rfl, rfl, rfl, by simp [Hid], World.grownBy.refl _ _, hf.congr (fun j _ => by rw [if_neg (by omega)])⟩
    case round =>
      clear hf
      obtain ⟨i, v, hi, rfl, rfl, rfl, Hv, hG, hrow⟩ := hrel
      have hv0 : 0 ≤ v ∧ v ≤ 1000010000000 := by have := Hv.out; omega
      obtain ⟨hv1, hv2⟩ := hv0
      by_cases hlt : i < n
      · have hlt' : (i : Int) < (n : Int) := by omega
        have t0 := hrow.cell (i := i * 3) (by omega)
        have t1 := hrow.cell (i := i * 3 + 1) (by omega)
        have t2 := hrow.cell (i := i * 3 + 2) (by omega)
        have tf0 := hrow.frozen (i * 3)
        have tf1 := hrow.frozen (i * 3 + 1)
        have tf2 := hrow.frozen (i * 3 + 2)
        have hstep := ((hrow.set (i * 3) (.int .i64 v)).set (i * 3 + 1) (.int .i64 (v + 1))).set (i * 3 + 2) (.int .i64 (v + 1 + 1))
        have hG3 : w.grownBy (((wr.setCell ⟨g, i * 3, none⟩ (.int .i64 v)).setCell ⟨g, i * 3 + 1, none⟩ (.int .i64 (v + 1))).setCell ⟨g, i * 3 + 2, none⟩ (.int .i64 (v + 1 + 1))) (some g) := grown_cells [.int .i64 v, .int .i64 (v + 1), .int .i64 (v + 1 + 1)] (i * 3) wr hG
        have HS := hide hstep
        clear hstep
        go_wp2_with fail
        go_roundg (n - (i + 1))
        case measure => go_light; omega
        case rel =>
          go_light
          refine ⟨i + 1, _, by omega, rfl, rfl, by go_num, ?_, hG3, HS.out.congr (fun j _ => ?_)⟩
          · have := Hv.out; unfold Hid; omega
          · have hvv := Hv.out
            by_cases e2 : j = i * 3 + 2
            · subst e2; rw [if_pos rfl, if_pos (by omega)]; congr 1; omega
            · rw [if_neg e2]
              by_cases e1 : j = i * 3 + 1
              · subst e1; rw [if_pos rfl, if_pos (by omega)]; congr 1; omega
              · rw [if_neg e1]
                by_cases e0 : j = i * 3
                · subst e0; rw [if_pos rfl, if_pos (by omega)]; congr 1; omega
                · rw [if_neg e0]
                  by_cases h : j < i * 3
                  · rw [if_pos h, if_pos (by omega)]
                  · rw [if_neg h, if_neg (by omega)]
      · obtain rfl : i = n := by omega
        go_wp2_with fail
        go_ret
        have hm := marks_length k0 i
        refine ⟨by rw [Hv.out]; rfl, ?_, hG⟩
        have h := row_own (n := i) (base := base) (xs := bdCs (marks k0 i)) hrow (fun j hj => by rw [marks_cell k0 i j hj, if_pos hj]) (by rw [bdCs_length, hm]) hb hnc hcm
        unfold OwnB
        rw [hm]
        exact h

set_option maxHeartbeats 4000000 in
set_option maxRecDepth 100000 in
theorem heldBoundS_c (k0 : Int) (A : Option Addr) (b o c n B : Nat) (w : World) (hk : 0 ≤ k0 ∧ k0 ≤ 1000000000000) (hn : n ≤ 2000000) (hR : BdsR w B b o A (marks k0 n)) :
    Calls Try.prog 51 #[.slice A n c, .int .i64 k0] w fun e w' => e = .returned (.int .i64 (k0 + 3 * n)) ∧ w = w' := by
  obtain ⟨hk0, hk1⟩ := hk
  have hm := marks_length k0 n
  go_enter Try.func51, Try.ntmps51
  go_wp2_with fail
  go_loopg [1, 5] n (fun gh s1 s5 wr => wr = w ∧ ∃ i : Nat, ∃ v : Int, i ≤ n ∧ gh = n - i ∧ s1 = .int .i64 v ∧ s5 = .int .i64 i ∧ Hid (v = k0 + 3 * i))
  case atStart => exact ⟨rfl, 0, k0, Nat.zero_le _, rfl, rfl, rfl, by simp [Hid]⟩
  case round =>
    obtain ⟨rfl, i, v, hi, rfl, rfl, rfl, Hv⟩ := hrel
    have hv0 : 0 ≤ v ∧ v ≤ 1000010000000 := by have := Hv.out; omega
    obtain ⟨hv1, hv2⟩ := hv0
    by_cases hlt : i < n
    · have hlt' : (i : Int) < (n : Int) := by omega
      obtain rfl := hR.addr (by omega)
      have hx := marks_get k0 n i hlt
      have d0 := hR.c0 i _ hx
      have d1 := hR.c1 i _ hx
      have d2 := hR.c2 i _ hx
      rw [← Hv.out] at d0 d1 d2
      dsimp only at d0 d1 d2
      rw [show v + 2 = v + 1 + 1 by omega] at d2
      clear hx hm
      go_wp2_with fail
      go_roundg (n - (i + 1))
      case measure => go_light; omega
      case rel =>
        go_light
        refine ⟨rfl, i + 1, _, by omega, rfl, rfl, by go_num, ?_⟩
        have := Hv.out; unfold Hid; omega
    · obtain rfl : i = n := by omega
      go_wp2_with fail
      go_ret
      exact ⟨by rw [Hv.out]; rfl, rfl⟩

set_option maxHeartbeats 1000000 in
set_option maxRecDepth 100000 in
theorem markPlan_c (n k0 : Int) (base : Nat) (A : Option Addr) (c : Nat) (bs : List Bd) (w : World) (hk : 0 ≤ k0 ∧ k0 ≤ 1000000000000) (hn : bs.length ≤ 2000000) (hown : OwnB base w (.slice A bs.length c) bs) (hw : base ≤ w.heap.size) :
    Calls Try.prog 19 #[.agg #[.int .i64 n, .slice A bs.length c], .int .i64 k0] w fun e w' => e = .returned (.int .i64 (k0 + 3 * bs.length)) ∧ OwnB base w' (.slice A bs.length c) (marks k0 bs.length) ∧ w.grownBy w' (Value.slice A bs.length c).ownBlock := by
  have hown2 : OwnB base (w.alloc (.cells #[.int .i64 n, .slice A bs.length c] 29)) (.slice A bs.length c) bs := hown.alloc _
  have hG1 : w.grownBy (w.alloc (.cells #[.int .i64 n, .slice A bs.length c] 29)) (Value.slice A bs.length c).ownBlock := World.grownBy_alloc w _ _
  have hw2 : base ≤ (w.alloc (.cells #[.int .i64 n, .slice A bs.length c] 29)).heap.size := by simp; omega
  go_enter Try.func19, Try.ntmps19
  go_wp2_with (go_at_call 50; go_fit (markBoundS_c k0 base A c bs _ hk hn hown2 hw2); rintro e w2 ⟨rfl, ho, hG⟩)
  go_ret
  exact ⟨rfl, ho, gr_trans hG1 hG⟩

set_option maxHeartbeats 1000000 in
set_option maxRecDepth 100000 in
theorem heldPlan_c (m k0 : Int) (A : Option Addr) (b o c n B : Nat) (w : World) (hk : 0 ≤ k0 ∧ k0 ≤ 1000000000000) (hn : n ≤ 2000000) (hB : B ≤ w.heap.size) (hR : BdsR w B b o A (marks k0 n)) :
    Calls Try.prog 20 #[.agg #[.int .i64 m, .slice A n c], .int .i64 k0] w fun e w' => e = .returned (.int .i64 (k0 + 3 * n)) ∧ Below w.heap.size w w' := by
  have hW : Below w.heap.size w (w.alloc (.cells #[.int .i64 m, .slice A n c] 29)) := by go_grown
  have h0 : ¬ k0 + 3 * (n : Int) < 0 := by omega
  go_enter Try.func20, Try.ntmps20
  go_wp2_with (go_at_call 51; go_fit (heldBoundS_c k0 A b o c n B _ hk hn (hR.below (hW.mono hB))); rintro e w2 ⟨rfl, rfl⟩)
  go_ret
  exact ⟨rfl, hW⟩

/-- A plan in a box, that is read. -/
structure RP (W : World) (X b o : Nat) (n : Int) (A : Option Addr) (c : Nat) (bs : List Bd) : Prop where
  ex : X < W.heap.size
  c0 : W.cell? ⟨X, 0, none⟩ = some (.int .i64 n)
  c1 : W.cell? ⟨X, 1, none⟩ = some (.slice A bs.length c)
  rd : BdsR W W.heap.size b o A bs
theorem BdsR.grown {W W' : World} {B b o : Nat} {A : Option Addr} {bs : List Bd} {row : Option Nat} (h : BdsR W B b o A bs) (hg : W.grownBy W' row) (hb : 0 < bs.length → some b ≠ row) : BdsR W' B b o A bs := by
  have hl : ∀ {j : Nat} {x : Bd}, bs[j]? = some x → some b ≠ row := fun {j x} hx => hb (by have := (List.getElem?_eq_some_iff.1 hx).1; omega)
  exact ⟨h.addr, h.lt, fun j x hx => hg.cell (h.c0 j x hx) (hl hx), fun j x hx => hg.cell (h.c1 j x hx) (hl hx), fun j x hx => hg.cell (h.c2 j x hx) (hl hx)⟩
theorem RP.grown {W W' : World} {X b o : Nat} {n : Int} {A : Option Addr} {c : Nat} {bs : List Bd} {row : Option Nat} (h : RP W X b o n A c bs) (hg : W.grownBy W' row) (hX : some X ≠ row) (hb : 0 < bs.length → some b ≠ row) : RP W' X b o n A c bs :=
  ⟨Nat.lt_of_lt_of_le h.ex hg.size, hg.cell h.c0 hX, hg.cell h.c1 hX, (h.rd.grown hg hb).more hg.size⟩
theorem RP.below {W W' : World} {X b o : Nat} {n : Int} {A : Option Addr} {c : Nat} {bs : List Bd} (h : RP W X b o n A c bs) (hb : Below W.heap.size W W') : RP W' X b o n A c bs :=
  h.grown (bel_grown hb) (by simp) (by simp)
theorem RP.alloc {W : World} {X b o : Nat} {n : Int} {A : Option Addr} {c : Nat} {bs : List Bd} (h : RP W X b o n A c bs) (x : Obj) : RP (W.alloc x) X b o n A c bs := h.below (by go_grown)
theorem RP.drew {W : World} {X b o : Nat} {n : Int} {A : Option Addr} {c : Nat} {bs : List Bd} (h : RP W X b o n A c bs) : RP W.drew X b o n A c bs := h.below (by go_grown)
theorem rp_new {W : World} {b o : Nat} {n : Int} {A : Option Addr} {c : Nat} {bs : List Bd} {t : TypeId} (hrd : BdsR W W.heap.size b o A bs) : RP (W.alloc (.cells #[.int .i64 n, .slice A bs.length c] t)) W.heap.size b o n A c bs := by
  have hb : Below W.heap.size W (W.alloc (.cells #[.int .i64 n, .slice A bs.length c] t)) := by go_grown
  exact ⟨by simp, by simp [go_sem], by simp [go_sem], (hrd.below hb).more hb.size⟩
theorem own_at {W : World} {base b : Nat} {A : Option Addr} {c : Nat} {bs : List Bd} (h : OwnB base W (.slice A bs.length c) bs) (hr : BdsR W W.heap.size b 0 A bs) (h0 : 0 < bs.length) : base ≤ b ∧ b < W.heap.size := by
  obtain rfl := hr.addr h0
  exact h.lt b rfl
end Go.Proofs.Ytofodhdpppjaoaa
