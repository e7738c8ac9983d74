/-
  (impl.Case).ways: the iterator's contract.
-/
import Derived.Test.YtledgblepdjjlaaZ5
import Derived.Test.YtledgblepdjjlaaL52
import Derived.Test.YtledgblepdjjlaaL2c
import Derived.Laws.EntriesVeiled
namespace Go.Proofs.Ytledgblepdjjlaa
set_option linter.unusedVariables false
set_option linter.unusedSimpArgs false
open Go Go.RowKit Go.Shelf Pp

set_option maxHeartbeats 1000000 in
set_option maxRecDepth 100000 in
theorem cloneI_c (xs : List Int) (A : Option Addr) (b o c B : Nat) (w : World) (hn : xs.length ≤ 2000000) (hB : B ≤ w.heap.size) (hR : IntsR w B b o A xs) :
    Calls Try.prog 125 #[.slice A xs.length c] w fun e w' => ∃ A1 c1, e = .returned (.slice A1 xs.length c1) ∧ OwnI w.heap.size w' (.slice A1 xs.length c1) xs ∧ Below w.heap.size w w' := by
  obtain ⟨i0, hi0, hz0, hz1, hz2⟩ := info_parts infoI
  cases A with
  | none =>
    have e : xs = [] := by
      rcases Nat.eq_zero_or_pos xs.length with h | h
      · exact List.eq_nil_of_length_eq_zero h
      · have := hR.addr h; cases this
    subst e
    have hnil := fun W => Go.Lib.run_eql_slice_nil (P := Try.prog) W 28 3 none 0 c 0 0 Try.underlying28
    go_enter Try.func125, Try.ntmps125
    go_wp2_with fail
    go_ret
    exact ⟨none, 0, rfl, World.ownsRow_nil _ _ _ _, Below.refl _ _⟩
  | some a =>
    have hnil := fun W => Go.Lib.run_eql_slice_nil (P := Try.prog) W 28 3 (some a) xs.length c 0 0 Try.underlying28
    go_enter Try.func125, Try.ntmps125
    go_wp2_with (at_builtin; refine app_list _ rfl (.tmp 5) (.tmp 6) _ rfl w.heap.size 3 i0 _ 1 8 Try.underlying28 hi0 hz0 hz1 hz2 rfl (by omega) (.slice (some ⟨w.heap.size, 0, none⟩) 0 0) 0 [] rfl (own_empty (at_new rfl) (Nat.le_refl _)) (some a) xs.length c (xs.map (Value.int .i64)) rfl (by simp) (hR.below ((show Below w.heap.size w (w.alloc (.cells #[] 3)) by go_grown).mono hB)).news (ints_one xs) (by omega) (by omega) (by simp only [World.size_alloc, World.size_drew]; omega) ?_; intro A4 c4 w4 hown4 hg4 hat4)
    simp only [Nat.zero_add, List.nil_append] at hown4 hat4 ⊢
    go_ret
    refine ⟨A4, c4, rfl, hown4, ?_⟩
    exact (show Below w.heap.size w (w.alloc (.cells #[] 3)) by go_grown).grown hg4 (by simp only [World.size_alloc, World.size_drew]; omega) (fun q hq => by have e := Option.some.inj hq; subst e; dsimp only; omega)

theorem BdsR.kzB {Z : World → Nat → Prop} {B : Nat} (hZB : ∀ W k, Z W k → B ≤ k) {W W' : World} {b o : Nat} {A : Option Addr} {xs : List Bd} (h : BdsR W B b o A xs) (hk : KZ Z W W') : BdsR W' B b o A xs := by
  have hb : 0 < xs.length → ¬ Z W b := fun hx hz => by have := hZB _ _ hz; have := h.lt hx; omega
  exact ⟨h.addr, h.lt, fun j x hj => hk.cell (h.c0 j x hj) (hb (by have := (List.getElem?_eq_some_iff.1 hj).1; omega)), fun j x hj => hk.cell (h.c1 j x hj) (hb (by have := (List.getElem?_eq_some_iff.1 hj).1; omega)), fun j x hj => hk.cell (h.c2 j x hj) (hb (by have := (List.getElem?_eq_some_iff.1 hj).1; omega))⟩
theorem ChR.kzB {Z : World → Nat → Prop} {B : Nat} (hZB : ∀ W k, Z W k → B ≤ k) {W W' : World} {b o : Nat} {A : Option Addr} {cs : List (List Bd)} (h : ChR W B b o A cs) (hk : KZ Z W W') : ChR W' B b o A cs :=
  ⟨h.addr, h.lt, fun j l hl => by
    obtain ⟨A', b', o', c', h1, h2⟩ := h.row j l hl
    exact ⟨A', b', o', c', hk.cell h1 (fun hz => by have := hZB _ _ hz; have := h.lt (by have := (List.getElem?_eq_some_iff.1 hl).1; omega); dsimp only at *; omega), h2.kzB hZB hk⟩⟩

/-- The boxes of the iterator: the case's, yield's, the walk's. -/
structure IW (Z : World → Nat → Prop) (W : World) (D Y V l : Nat) (n : Int) (A : Option Addr) (c : Nat) (bs : List Bd) (A2 : Option Addr) (c2 : Nat) (cs : List (List Bd)) (B b o b2 o2 : Nat) : Prop where
  dx : D < W.heap.size
  yx : Y < W.heap.size
  vx : V < W.heap.size
  dz : ¬ Z W D
  yz : ¬ Z W Y
  vz : ¬ Z W V
  d0 : W.cell? ⟨D, 0, none⟩ = some (.int .i64 n)
  d1 : W.cell? ⟨D, 1, none⟩ = some (.slice A bs.length c)
  d2 : W.cell? ⟨D, 2, none⟩ = some (.slice A2 cs.length c2)
  y0 : W.cell? ⟨Y, 0, none⟩ = some (.func (.yield l) #[] #[])
  v0 : W.cell? ⟨V, 0, none⟩ = some (.func (.func 124) #[] #[.pointer (some ⟨D, 0, none⟩), .pointer (some ⟨Y, 0, none⟩), .pointer (some ⟨V, 0, none⟩)])
  rd : BdsR W B b o A bs
  rc : ChR W B b2 o2 A2 cs
theorem IW.kz {Z : World → Nat → Prop} {W W' : World} {D Y V l : Nat} {n : Int} {A : Option Addr} {c : Nat} {bs : List Bd} {A2 : Option Addr} {c2 : Nat} {cs : List (List Bd)} {B b o b2 o2 : Nat} (h : IW Z W D Y V l n A c bs A2 c2 cs B b o b2 o2) (hZB : ∀ W k, Z W k → B ≤ k) (hk : KZ Z W W') : IW Z W' D Y V l n A c bs A2 c2 cs B b o b2 o2 :=
  ⟨Nat.lt_of_lt_of_le h.dx hk.size, Nat.lt_of_lt_of_le h.yx hk.size, Nat.lt_of_lt_of_le h.vx hk.size, hk.no h.dx h.dz, hk.no h.yx h.yz, hk.no h.vx h.vz, hk.cell h.d0 h.dz, hk.cell h.d1 h.dz, hk.cell h.d2 h.dz, hk.cell h.y0 h.yz, hk.cell h.v0 h.vz, h.rd.kzB hZB hk, h.rc.kzB hZB hk⟩

/-- What an iterator is told of its rounds. -/
structure YZ (Z : World → Nat → Prop) (B B0 m l : Nat) (F : List Int → Pl) (Ok : List Int → Prop) (Inv Stop : List (List Int) → World → Prop) : Prop where
  y : YieldZ B m l Z F Ok Inv Stop
  st : ∀ pre A B, Inv pre A → KC A B → Below B0 A B → Inv pre B
  sz : ∀ pre A, Inv pre A → ∀ k, Z A k → k < A.heap.size
  low : ZLow B0 Z
  zb : ∀ W k, Z W k → B ≤ k
  hb : B ≤ B0

set_option maxHeartbeats 2000000 in
set_option maxRecDepth 100000 in
theorem way0_c (n : Int) (bs : List Bd) (cs : List (List Bd)) (hc : caseOk ⟨n, bs⟩ cs = true) (ks : List Int) (hks : picksOk cs ks = true) (Z : World → Nat → Prop) (B B0 m l : Nat) (Inv Stop : List (List Int) → World → Prop) (hY : YZ Z B B0 m l (wayP ⟨n, bs⟩ cs) (fun ls => picksOk cs ls = true ∧ fitsW ⟨n, bs⟩ cs ls = true) Inv Stop) (pre : List (List Int)) (D Y V b o b2 o2 b3 o3 c3 c c2 : Nat) (A A2 A3 : Option Addr) (W : World)
    (hI : IW Z W D Y V l n A c bs A2 c2 cs B b o b2 o2) (hV : Inv pre W) (hR : IntsR W W.heap.size b3 o3 A3 ks) (hz : 0 < ks.length → ¬ Z W b3) (hoz : OZ B Z W A3 c3 ks) (hB0 : B0 ≤ W.heap.size) :
    Calls Try.prog 124 #[.slice A3 ks.length c3, .pointer (some ⟨D, 0, none⟩), .pointer (some ⟨Y, 0, none⟩), .pointer (some ⟨V, 0, none⟩)] W fun e W' =>
      (e = .returned (.bool true) ∧ Inv (pre ++ waysF ⟨n, bs⟩ cs 0 ks) W' ∧ KZ Z W W') ∨ (e = .returned (.bool false) ∧ (∃ pre', Stop pre' W' ∧ pre' <+: pre ++ waysF ⟨n, bs⟩ cs 0 ks) ∧ KZ Z W W') := by
  refine (callsIn_wide (n := 2)).1 ?_
  obtain ⟨h10, h12, h4, hlo⟩ := caseOk_iff.1 hc
  dsimp only at h12
  have hkl := (picksOk_iff.1 hks).1
  have hm : ((ks.length : Int) == (cs.length : Int)) = true := by simp [hkl]
  have d0 := hI.d0
  have d1 := hI.d1
  have d2 := hI.d2
  have dx := hI.dx
  have yx := hI.yx
  have hq : wayOf ⟨n, bs⟩ cs ks = (wayP ⟨n, bs⟩ cs ks, true) := by unfold wayOf; rw [hc, hks]; rfl
  have hql : (wayP ⟨n, bs⟩ cs ks).bs.length ≤ 2000000 := by have := picked_length cs ks (by omega); simp only [wayP, List.length_append]; omega
  have hqn : (wayP ⟨n, bs⟩ cs ks).n = n := rfl
  have hn3 : ∀ x ∈ cs, x.length ≤ 2000000 := fun x hx => by have := (listOk_iff.1 (hlo x hx)).1; omega
  have hway := wayOf_q n bs cs ks _ _ hq A A2 A3 b o c b2 o2 c2 b3 o3 c3 W.heap.size W (by omega) (by omega) hn3 (by omega) (Nat.le_refl _) (hI.rd.more (Nat.le_trans hY.hb hB0)) (hI.rc.more (Nat.le_trans hY.hb hB0)) hR
  have hF0 : waysF ⟨n, bs⟩ cs 0 ks = if fitsW ⟨n, bs⟩ cs ks then [ks] else [] := by simp [waysF, allW, List.filter_cons]
  have hok : fitsW ⟨n, bs⟩ cs ks = true → (fun ls => picksOk cs ls = true ∧ fitsW ⟨n, bs⟩ cs ls = true) ks := fun h => ⟨hks, h⟩
  have hYy := hY.y pre ks
  generalize hQ : wayP ⟨n, bs⟩ cs ks = Q at hway hql hqn hYy
  have hfq : fitsW ⟨n, bs⟩ cs ks = fits Q := by unfold fitsW; rw [hQ]
  rw [hfq] at hF0 hok
  have HF0 := hide hF0
  have Hok := hide hok
  have HYy := hide hYy
  clear hc hks hlo h10 h12 h4 hkl hq hQ hfq hF0 hok hYy hn3
  obtain ⟨nq, bq⟩ := Q
  dsimp only at hway hql hqn
  obtain rfl := hqn
  cases hf : fits ⟨nq, bq⟩
  · have Hf := hide hf
    clear hf
    refine callsIn_of_wp Try.func124 rfl trivial ?_ rfl
    simp only [Try.ntmps124, List.size_toArray, List.length_cons, List.length_nil, Nat.reduceAdd, Nat.reduceSub, Array.replicate_succ, Array.replicate_zero, List.push_toArray, List.append_toArray, List.nil_append, List.cons_append]
    gi_wp2_with (first
      | (refine ⟨trivial, ?_⟩; gi_at_call 19; refine (callsIn_wide.2 hway).mono ?_; rintro e w4 ⟨A1, c1, g1, rfl, hr4, own4, hb4⟩; have hb5 : Below W.heap.size W (w4.alloc (.cells #[.int .i64 nq, .slice A1 bq.length c1] 32)) := bthen hb4 (by go_grown); have hr5 := (hr4.below (show Below w4.heap.size w4 (w4.alloc (.cells #[.int .i64 nq, .slice A1 bq.length c1] 32)) by go_grown)))
      | (refine ⟨trivial, ?_⟩; gi_at_call 30; refine (callsIn_wide.2 (fitsOk_c ⟨nq, bq⟩ A1 g1 0 c1 _ _ hql (by simp) hr5)).mono ?_; rintro e w6 ⟨rfl, hb6a⟩; rw [Hf.out]; have hb6 := bthen hb5 hb6a))
    refine ⟨fun _ _ => trivial, ?_⟩
    gi_wp2_with fail
    go_ret
    have e := HF0.out
    rw [Hf.out, if_neg (by simp)] at e
    exact .inl ⟨rfl, by rw [e, List.append_nil]; exact hY.st _ _ _ hV (KC.below hb6) (hb6.mono hB0), KZ.below hY.low hB0 hb6⟩
  · have Hf := hide hf
    clear hf
    refine callsIn_of_wp Try.func124 rfl trivial ?_ rfl
    simp only [Try.ntmps124, List.size_toArray, List.length_cons, List.length_nil, Nat.reduceAdd, Nat.reduceSub, Array.replicate_succ, Array.replicate_zero, List.push_toArray, List.append_toArray, List.nil_append, List.cons_append]
    gi_wp2_with (
        (refine ⟨trivial, ?_⟩; gi_at_call 19; refine (callsIn_wide.2 hway).mono ?_; rintro e w4 ⟨A1, c1, g1, rfl, hr4, own4, hb4⟩; have hb5 : Below W.heap.size W (w4.alloc (.cells #[.int .i64 nq, .slice A1 bq.length c1] 32)) := bthen hb4 (by go_grown); have hr5 := (hr4.below (show Below w4.heap.size w4 (w4.alloc (.cells #[.int .i64 nq, .slice A1 bq.length c1] 32)) by go_grown)); have hx5 : w4.heap.size < (w4.alloc (.cells #[.int .i64 nq, .slice A1 bq.length c1] 32)).heap.size := by simp))
    refine ⟨trivial, ?_⟩
    gi_at_call 30
    refine (callsIn_wide.2 (fitsOk_c ⟨nq, bq⟩ A1 g1 0 c1 _ _ hql (by simp) hr5)).mono ?_
    rintro e w6 ⟨rfl, hb6a⟩
    rw [Hf.out]
    have hb6 := bthen hb5 hb6a
    have hI6 := hI.kz hY.zb (KZ.below hY.low hB0 hb6)
    have y0 := hI6.y0
    have p0 : w6.cell? ⟨w4.heap.size, 0, none⟩ = some (.int .i64 nq) := ((bcell hb6a).1 w4.heap.size 0 hx5).trans (by simp [go_sem])
    have p1 : w6.cell? ⟨w4.heap.size, 1, none⟩ = some (.slice A1 bq.length c1) := ((bcell hb6a).1 w4.heap.size 1 hx5).trans (by simp [go_sem])
    have hr6 := (hr5.below (hb6a.mono (by simp))).more (Nat.le_trans (by simp) hb6a.size)
    obtain ⟨hR6, hz6⟩ := hR.kz (KZ.below hY.low hB0 hb6) hz
    have hg1 : 0 < bq.length → ¬ Z w6 g1 := fun hx hzz => by
      have h0 := hr4.addr hx
      have h1 := own4.lt g1 (by rw [h0]; rfl)
      have h2 := hY.low W w6 hB0 (fun k hk => hb6.block k (Nat.lt_of_lt_of_le hk hB0)) _ hzz
      have h3 := hY.sz _ _ hV _ h2
      omega
    obtain ⟨fn, tmps, assign, body, hy, hRd⟩ := yieldAt_any 1 (HYy.out A3 b3 o3 c3 A1 g1 0 c1 w6 (hY.st _ _ _ hV (KC.below hb6) (hb6.mono hB0)) (Hok.out Hf.out) hR6 hz6 hr6 hg1 (hoz.kz (KZ.below hY.low hB0 hb6)))
    gi_wp2_with fail
    refine hRd.mono ?_
    have e9 := HF0.out
    rw [Hf.out, if_pos rfl] at e9
    rintro e W' (⟨rfl, hi, hk⟩ | ⟨rfl, hs, hk⟩)
    · gi_wp2
      go_ret
      exact .inl ⟨rfl, by rw [e9]; exact hi, (KZ.below hY.low hB0 hb6).trans hk⟩
    · gi_wp2
      go_ret
      exact .inr ⟨rfl, ⟨_, hs, by rw [e9]; exact List.prefix_refl _⟩, (KZ.below hY.low hB0 hb6).trans hk⟩

theorem valid_snoc {cs : List (List Bd)} {ks : List Int} {l : List Bd} {k : Nat} (h : ∀ (i : Nat) (l : List Bd) (k : Int), cs[i]? = some l → ks[i]? = some k → 0 ≤ k ∧ k ≤ (l.length : Int) - 1) (hl : cs[ks.length]? = some l) (hk : k < l.length) :
    ∀ (i : Nat) (l : List Bd) (v : Int), cs[i]? = some l → (ks ++ [(k : Int)])[i]? = some v → 0 ≤ v ∧ v ≤ (l.length : Int) - 1 := by
  intro i l' v hi hv
  by_cases e : i < ks.length
  · rw [List.getElem?_append_left e] at hv; exact h i l' v hi hv
  · rw [List.getElem?_append_right (by omega)] at hv
    have e0 : i - ks.length = 0 := by
      have := (List.getElem?_eq_some_iff.1 hv).1
      simpa using this
    rw [e0] at hv
    simp at hv
    have : i = ks.length := by omega
    subst this
    rw [hl] at hi
    cases hi
    omega
set_option maxHeartbeats 4000000 in
set_option maxRecDepth 100000 in
theorem way_c (n : Int) (bs : List Bd) (cs : List (List Bd)) (hc : caseOk ⟨n, bs⟩ cs = true) (Z : World → Nat → Prop) (B B0 M l : Nat) (Inv Stop : List (List Int) → World → Prop) (hY : YZ Z B B0 M l (wayP ⟨n, bs⟩ cs) (fun ls => picksOk cs ls = true ∧ fitsW ⟨n, bs⟩ cs ls = true) Inv Stop) (D Y V b o b2 o2 c c2 : Nat) (A A2 : Option Addr) :
    ∀ (m : Nat) (ks : List Int) (pre : List (List Int)) (b3 o3 c3 : Nat) (A3 : Option Addr) (W : World), ks.length + m = cs.length →
    (∀ (i : Nat) (l : List Bd) (k : Int), cs[i]? = some l → ks[i]? = some k → 0 ≤ k ∧ k ≤ (l.length : Int) - 1) → IW Z W D Y V l n A c bs A2 c2 cs B b o b2 o2 → Inv pre W → IntsR W W.heap.size b3 o3 A3 ks → (0 < ks.length → ¬ Z W b3) → OZ B Z W A3 c3 ks → B0 ≤ W.heap.size →
    Calls Try.prog 124 #[.slice A3 ks.length c3, .pointer (some ⟨D, 0, none⟩), .pointer (some ⟨Y, 0, none⟩), .pointer (some ⟨V, 0, none⟩)] W fun e W' =>
      (e = .returned (.bool true) ∧ Inv (pre ++ waysF ⟨n, bs⟩ cs m ks) W' ∧ KZ Z W W') ∨ (e = .returned (.bool false) ∧ (∃ pre', Stop pre' W' ∧ pre' <+: pre ++ waysF ⟨n, bs⟩ cs m ks) ∧ KZ Z W W') := by
  intro m
  induction m with
  | zero =>
    intro ks pre b3 o3 c3 A3 W hm hv hI hV hR hz hoz hBW
    exact way0_c n bs cs hc ks (picksOk_iff.2 ⟨by omega, hv⟩) Z B B0 M l Inv Stop hY pre D Y V b o b2 o2 b3 o3 c3 c c2 A A2 A3 W hI hV hR hz hoz hBW
  | succ m ih =>
    intro ks pre b3 o3 c3 A3 W hm hv hI hV hR hz hoz hBW
    obtain ⟨i0, hi0, hz0, hz1, hz2⟩ := info_parts infoI
    have hlt : ks.length < cs.length := by omega
    have hmf : ((ks.length : Int) == (cs.length : Int)) = false := by simp; omega
    have hlt' : (ks.length : Int) < (cs.length : Int) := by omega
    obtain rfl := hI.rc.addr (by omega)
    have hx := List.getElem?_eq_getElem hlt
    have h4 := (caseOk_iff.1 hc).2.2.1
    have hl3 := (listOk_iff.1 ((caseOk_iff.1 hc).2.2.2 _ (List.mem_of_getElem? hx))).1
    obtain ⟨A4, b4, o4, c4, r0, hrd⟩ := hI.rc.row _ _ hx
    have hcF : Hid (waysF ⟨n, bs⟩ cs (m + 1) ks = waysK ⟨n, bs⟩ cs m ks cs[ks.length].length) := waysF_succ m hx
    generalize cs[ks.length] = l2 at hx hl3 r0 hrd hcF
    have d2 := hI.d2
    go_enter Try.func124, Try.ntmps124
    go_upto_region 5 with fail
    clear hmf r0 d2 hoz
    go_loopg [37] l2.length (fun gh s wr => ∃ k : Nat, k ≤ l2.length ∧ gh = l2.length - k ∧ s = .int .i64 k ∧ Inv (pre ++ waysK ⟨n, bs⟩ cs m ks k) wr ∧ KZ Z W wr ∧ IW Z wr D Y V l n A c bs (some ⟨b2, o2, none⟩) c2 cs B b o b2 o2 ∧ IntsR wr wr.heap.size b3 o3 A3 ks ∧ (0 < ks.length → ¬ Z wr b3))
    case atStart => exact ⟨0, Nat.zero_le _, rfl, rfl, by simpa [waysK, allK] using hV, KZ.refl _ _, hI, hR, hz⟩
    case round =>
      clear hI hV hR hz hrd
      obtain ⟨k, hk, rfl, rfl, hV, hkx, hI, hR, hz⟩ := hrel
      have v0 := hI.v0
      have hVl := hI.vx
      have hBw : B0 ≤ wr.heap.size := by have := hkx.size; omega
      by_cases hlk : k < l2.length
      · have hc' : (k : Int) < (l2.length : Int) := by omega
        go_upto_region 7 with fail
        refine wp_regionE (fun w' => w'.cell? ⟨V, 0, none⟩ = some (.func (.func 124) #[] #[.pointer (some ⟨D, 0, none⟩), .pointer (some ⟨Y, 0, none⟩), .pointer (some ⟨V, 0, none⟩)])) 6 (by kernel_rfl) ?_
        change wpE _ _ _ _ _ _ 8 #[false, false, false, false, false, false, false, false] _ _
        have hS0 : wr.drew.cell? ⟨V, 0, none⟩ = some (.func (.func 124) #[] #[.pointer (some ⟨D, 0, none⟩), .pointer (some ⟨Y, 0, none⟩), .pointer (some ⟨V, 0, none⟩)]) := v0
        refine wpE_take' (v := ?_) 0 [6] (of_decide_eq_true (by kernel_rfl)) (by kernel_rfl) (by kernel_rfl) (by kernel_rfl) (by kernel_rfl) (fun _ _ _ h => h) (by kernel_rfl) ?_ hS0 ?_
        rotate_left
        · intro w' hSw
          simp only [List.getElem_toArray, List.getElem_cons_succ, List.getElem_cons_zero]
          go_simp
          all_goals with_reducible rfl
        simp only [List.getElem_toArray, List.getElem_cons_succ, List.getElem_cons_zero, Act.put, List.setIfInBounds_toArray, List.set_cons_zero, List.set_cons_succ]
        refine wpE_take' (v := ?_) 1 [2, 5, 6] (of_decide_eq_true (by kernel_rfl)) (by kernel_rfl) (by kernel_rfl) (by kernel_rfl) (by kernel_rfl) (fun _ _ _ h => h) (by kernel_rfl) ?_ hS0 ?_
        rotate_left
        · intro w' hSw
          simp only [List.getElem_toArray, List.getElem_cons_succ, List.getElem_cons_zero]
          go_simp
          all_goals with_reducible rfl
        simp only [List.getElem_toArray, List.getElem_cons_succ, List.getElem_cons_zero, Act.put, List.setIfInBounds_toArray, List.set_cons_zero, List.set_cons_succ]
        refine wpE_take' (v := ?_) 3 [4, 5, 6] (of_decide_eq_true (by kernel_rfl)) (by kernel_rfl) (by kernel_rfl) (by kernel_rfl) (by kernel_rfl) (fun _ _ _ h => h) (by kernel_rfl) ?_ hS0 ?_
        rotate_left
        · intro w' hSw
          simp only [List.getElem_toArray, List.getElem_cons_succ, List.getElem_cons_zero]
          go_simp
          all_goals with_reducible rfl
        simp only [List.getElem_toArray, List.getElem_cons_succ, List.getElem_cons_zero, Act.put, List.setIfInBounds_toArray, List.set_cons_zero, List.set_cons_succ]
        refine wpE_two 2 4 (of_decide_eq_true (by kernel_rfl)) (of_decide_eq_true (by kernel_rfl)) (by kernel_rfl) (by kernel_rfl) (by kernel_rfl) (fun K hK => ?_) (fun K hK => ?_)
        · simp only [List.getElem_toArray, List.getElem_cons_succ, List.getElem_cons_zero]
          have hbd : Below wr.heap.size wr wr.drew := by go_grown
          go_simp
          go_at_call 125
          go_fit (cloneI_c ks A3 b3 o3 c3 _ wr.drew (by omega) (by simp) (hR.below hbd))
          rintro e w4 ⟨A4, c4, rfl, hown4a, hb4a⟩
          have hb40 := bthen hbd hb4a
          have hown4 : w4.ownsRow wr.heap.size 3 1 (.slice A4 ks.length c4) ks.length (ks.map (Value.int .i64)) := own_less hown4a (by simp)
          refine hK.out _ _ (.inr (((bcell hb40).1 _ 0 hVl).trans v0)) ?_
          clear hK K
          simp only [Act.put, List.setIfInBounds_toArray, List.set_cons_zero, List.set_cons_succ]
          refine wpE_step' 4 (of_decide_eq_true (by kernel_rfl)) (by kernel_rfl) (by kernel_rfl) (fun K hK => ?_)
          simp only [List.getElem_toArray, List.getElem_cons_succ, List.getElem_cons_zero]
          go_simp
          have hb4 : Below wr.heap.size wr (w4.alloc (.cells #[.int .i64 (k : Int)] 3)) := bthen hb40 (by go_grown)
          have hownB := hown4.alloc (.cells #[.int .i64 (k : Int)] 3)
          have hs4 := hb4.size
          refine hK.out _ _ (.inr (((bcell hb4).1 _ 0 hVl).trans v0)) ?_
          clear hK K
          simp only [Act.put, List.setIfInBounds_toArray, List.set_cons_zero, List.set_cons_succ]
          refine wpE_step' 5 (of_decide_eq_true (by kernel_rfl)) (by kernel_rfl) (by kernel_rfl) (fun K hK => ?_)
          simp only [List.getElem_toArray, List.getElem_cons_succ, List.getElem_cons_zero]
          refine app_wp _ (.tmp 42) (.tmp 44) _ rfl wr.heap.size 3 i0 _ 1 8 Try.underlying28 hi0 hz0 hz1 hz2 rfl (by omega) (.slice A4 ks.length c4) ks.length (ks.map (Value.int .i64)) rfl hownB _ 1 _ [.int .i64 (k : Int)] rfl rfl (NewsAt.block (cs := #[.int .i64 (k : Int)]) (at_new rfl)) (by simp [Value.oneCell']) (by omega) (by omega) hs4 ?_
          intro A5 c5 w5 hown5 hg5 hat5
          have hb5 : Below wr.heap.size wr w5 := below_app hb4 hownB hg5 (Nat.le_refl _) hs4
          have hlen5 : (ks ++ [(k : Int)]).length = ks.length + 1 := by simp
          have hI9 : OwnI wr.heap.size w5 (.slice A5 (ks ++ [(k : Int)]).length c5) (ks ++ [(k : Int)]) := by unfold OwnI; rw [hlen5, List.map_append]; exact hown5
          obtain ⟨g5, hr5⟩ := own_IntsR hI9
          have hg5b : wr.heap.size ≤ g5 := by obtain rfl := hr5.addr (by simp); exact (hI9.lt g5 rfl).1
          have hk5 : KZ Z wr w5 := KZ.below hY.low hBw hb5
          have hg5z : ¬ Z w5 g5 := fun hzz => by
            rcases hk5.own _ hzz with h1 | h1
            · have := hY.sz _ _ hV _ h1; omega
            · have h2 := hY.low wr w5 hBw (fun k hk => hb5.block k (Nat.lt_of_lt_of_le hk hBw)) _ hzz
              have := hY.sz _ _ hV _ h2; omega
          have hoz5 : OZ B Z w5 A5 c5 (ks ++ [(k : Int)]) := ⟨own_less hI9 (Nat.le_trans hY.hb hBw), fun q hq hzz => by
            have hq1 := hI9.lt q hq
            rcases hk5.own _ hzz with h1 | h1
            · have := hY.sz _ _ hV _ h1; omega
            · have h2 := hY.low wr w5 hBw (fun k hk => hb5.block k (Nat.lt_of_lt_of_le hk hBw)) _ hzz
              have := hY.sz _ _ hV _ h2; omega⟩
          have hI5 := hI.kz hY.zb hk5
          have hV5 := hY.st _ _ _ hV (KC.below hb5) (hb5.mono hBw)
          have hv5 := hI5.v0
          refine hK.out _ _ (.inr hv5) ?_
          clear hK K
          simp only [Act.put, List.setIfInBounds_toArray, List.set_cons_zero, List.set_cons_succ]
          refine wpE_step' 6 (of_decide_eq_true (by kernel_rfl)) (by kernel_rfl) (by kernel_rfl) (fun K hK => ?_)
          simp only [List.getElem_toArray, List.getElem_cons_succ, List.getElem_cons_zero]
          go_simp
          go_at_call 124
          have hcall := ih (ks ++ [(k : Int)]) (pre ++ waysK ⟨n, bs⟩ cs m ks k) g5 0 c5 A5 w5 (by simp; omega) (valid_snoc hv hx hlk) hI5 hV5 hr5 (fun _ h => hg5z h) hoz5 (by have := hb5.size; omega)
          rw [hlen5] at hcall
          refine hcall.mono ?_
          clear hcall
          rintro e W6 (⟨rfl, hi6, hk6⟩ | ⟨rfl, ⟨pre', hs6, hp6⟩, hk6⟩)
          · have hI6 := hI5.kz hY.zb hk6
            have hv6 := hI6.v0
            refine hK.out _ _ (.inl rfl) ?_
            clear hK K
            simp only [Act.put, List.setIfInBounds_toArray, List.set_cons_zero, List.set_cons_succ]
            refine wpE_step' 7 (of_decide_eq_true (by kernel_rfl)) (by kernel_rfl) (by kernel_rfl) (fun K hK => ?_)
            simp only [List.getElem_toArray, List.getElem_cons_succ, List.getElem_cons_zero]
            go_simp
            refine hK.out _ _ (.inr hv6) ?_
            clear hK K
            simp only [Act.put, List.setIfInBounds_toArray, List.set_cons_zero, List.set_cons_succ]
            refine wpE_done (by kernel_rfl) ?_ _
            have hk7 := hk5.trans hk6
            obtain ⟨hR6, hz6⟩ := hR.kz hk7 hz
            have hV6 : Inv (pre ++ waysK ⟨n, bs⟩ cs m ks (k + 1)) W6 := by rw [waysK_succ, ← List.append_assoc]; exact hi6
            have hk8 := hkx.trans hk7
            clear hI5 hV5 hr5 hi6
            go_wp2_with fail
            go_roundg (l2.length - (k + 1))
            case measure => go_light; omega
            case rel => go_light; exact ⟨k + 1, by omega, rfl, by go_num, hV6, hk8, hI6, hR6, hz6⟩
          · have hI6 := hI5.kz hY.zb hk6
            have hv6 := hI6.v0
            refine hK.out _ _ (.inl rfl) ?_
            clear hK K
            simp only [Act.put, List.setIfInBounds_toArray, List.set_cons_zero, List.set_cons_succ]
            refine wpE_step' 7 (of_decide_eq_true (by kernel_rfl)) (by kernel_rfl) (by kernel_rfl) (fun K hK => ?_)
            simp only [List.getElem_toArray, List.getElem_cons_succ, List.getElem_cons_zero]
            go_simp
            refine hK.out _ _ (.inr hv6) ?_
            clear hK K
            simp only [Act.put, List.setIfInBounds_toArray, List.set_cons_zero, List.set_cons_succ]
            refine wpE_done (by kernel_rfl) ?_ _
            have hk8 := (hkx.trans hk5).trans hk6
            have hp7 : pre' <+: pre ++ waysK ⟨n, bs⟩ cs m ks l2.length := by
              rw [List.append_assoc, ← waysK_succ] at hp6
              exact hp6.trans ((List.prefix_append_right_inj pre).2 (waysK_le _ cs m ks (k + 1) l2.length (by omega)))
            clear hp6
            clear hI5 hV5 hr5
            go_wp2_with fail
            go_ret
            exact .inr ⟨rfl, ⟨pre', hs6, by rw [hcF.out]; exact hp7⟩, hk8⟩
        · simp only [List.getElem_toArray, List.getElem_cons_succ, List.getElem_cons_zero]
          go_simp
          have hb40 : Below wr.heap.size wr (wr.alloc (.cells #[.int .i64 (k : Int)] 3)).drew := by go_grown
          refine hK.out _ _ (.inr (((bcell hb40).1 _ 0 hVl).trans v0)) ?_
          clear hK K
          simp only [Act.put, List.setIfInBounds_toArray, List.set_cons_zero, List.set_cons_succ]
          refine wpE_step' 2 (of_decide_eq_true (by kernel_rfl)) (by kernel_rfl) (by kernel_rfl) (fun K hK => ?_)
          simp only [List.getElem_toArray, List.getElem_cons_succ, List.getElem_cons_zero]
          go_simp
          go_at_call 125
          go_fit (cloneI_c ks A3 b3 o3 c3 _ _ (by omega) hb40.size (hR.below hb40))
          rintro e w4 ⟨A4, c4, rfl, hown4a, hb4a⟩
          have hb4 := bthen hb40 hb4a
          have hownB : w4.ownsRow wr.heap.size 3 1 (.slice A4 ks.length c4) ks.length (ks.map (Value.int .i64)) := own_less hown4a (by simp)
          have hs4 := hb4.size
          have hnew : w4.heap[wr.heap.size]? = some (.cells #[.int .i64 (k : Int)] 3 (0, 0)) := (hb4a.block _ (by simp)).trans (at_new (w := wr) rfl)
          refine hK.out _ _ (.inr (((bcell hb4).1 _ 0 hVl).trans v0)) ?_
          clear hK K
          simp only [Act.put, List.setIfInBounds_toArray, List.set_cons_zero, List.set_cons_succ]
          refine wpE_step' 5 (of_decide_eq_true (by kernel_rfl)) (by kernel_rfl) (by kernel_rfl) (fun K hK => ?_)
          simp only [List.getElem_toArray, List.getElem_cons_succ, List.getElem_cons_zero]
          refine app_wp _ (.tmp 42) (.tmp 44) _ rfl wr.heap.size 3 i0 _ 1 8 Try.underlying28 hi0 hz0 hz1 hz2 rfl (by omega) (.slice A4 ks.length c4) ks.length (ks.map (Value.int .i64)) rfl hownB _ 1 _ [.int .i64 (k : Int)] rfl rfl (NewsAt.block (cs := #[.int .i64 (k : Int)]) hnew) (by simp [Value.oneCell']) (by omega) (by omega) hs4 ?_
          intro A5 c5 w5 hown5 hg5 hat5
          have hb5 : Below wr.heap.size wr w5 := below_app hb4 hownB hg5 (Nat.le_refl _) hs4
          have hlen5 : (ks ++ [(k : Int)]).length = ks.length + 1 := by simp
          have hI9 : OwnI wr.heap.size w5 (.slice A5 (ks ++ [(k : Int)]).length c5) (ks ++ [(k : Int)]) := by unfold OwnI; rw [hlen5, List.map_append]; exact hown5
          obtain ⟨g5, hr5⟩ := own_IntsR hI9
          have hg5b : wr.heap.size ≤ g5 := by obtain rfl := hr5.addr (by simp); exact (hI9.lt g5 rfl).1
          have hk5 : KZ Z wr w5 := KZ.below hY.low hBw hb5
          have hg5z : ¬ Z w5 g5 := fun hzz => by
            rcases hk5.own _ hzz with h1 | h1
            · have := hY.sz _ _ hV _ h1; omega
            · have h2 := hY.low wr w5 hBw (fun k hk => hb5.block k (Nat.lt_of_lt_of_le hk hBw)) _ hzz
              have := hY.sz _ _ hV _ h2; omega
          have hoz5 : OZ B Z w5 A5 c5 (ks ++ [(k : Int)]) := ⟨own_less hI9 (Nat.le_trans hY.hb hBw), fun q hq hzz => by
            have hq1 := hI9.lt q hq
            rcases hk5.own _ hzz with h1 | h1
            · have := hY.sz _ _ hV _ h1; omega
            · have h2 := hY.low wr w5 hBw (fun k hk => hb5.block k (Nat.lt_of_lt_of_le hk hBw)) _ hzz
              have := hY.sz _ _ hV _ h2; omega⟩
          have hI5 := hI.kz hY.zb hk5
          have hV5 := hY.st _ _ _ hV (KC.below hb5) (hb5.mono hBw)
          have hv5 := hI5.v0
          refine hK.out _ _ (.inr hv5) ?_
          clear hK K
          simp only [Act.put, List.setIfInBounds_toArray, List.set_cons_zero, List.set_cons_succ]
          refine wpE_step' 6 (of_decide_eq_true (by kernel_rfl)) (by kernel_rfl) (by kernel_rfl) (fun K hK => ?_)
          simp only [List.getElem_toArray, List.getElem_cons_succ, List.getElem_cons_zero]
          go_simp
          go_at_call 124
          have hcall := ih (ks ++ [(k : Int)]) (pre ++ waysK ⟨n, bs⟩ cs m ks k) g5 0 c5 A5 w5 (by simp; omega) (valid_snoc hv hx hlk) hI5 hV5 hr5 (fun _ h => hg5z h) hoz5 (by have := hb5.size; omega)
          rw [hlen5] at hcall
          refine hcall.mono ?_
          clear hcall
          rintro e W6 (⟨rfl, hi6, hk6⟩ | ⟨rfl, ⟨pre', hs6, hp6⟩, hk6⟩)
          · have hI6 := hI5.kz hY.zb hk6
            have hv6 := hI6.v0
            refine hK.out _ _ (.inl rfl) ?_
            clear hK K
            simp only [Act.put, List.setIfInBounds_toArray, List.set_cons_zero, List.set_cons_succ]
            refine wpE_step' 7 (of_decide_eq_true (by kernel_rfl)) (by kernel_rfl) (by kernel_rfl) (fun K hK => ?_)
            simp only [List.getElem_toArray, List.getElem_cons_succ, List.getElem_cons_zero]
            go_simp
            refine hK.out _ _ (.inr hv6) ?_
            clear hK K
            simp only [Act.put, List.setIfInBounds_toArray, List.set_cons_zero, List.set_cons_succ]
            refine wpE_done (by kernel_rfl) ?_ _
            have hk7 := hk5.trans hk6
            obtain ⟨hR6, hz6⟩ := hR.kz hk7 hz
            have hV6 : Inv (pre ++ waysK ⟨n, bs⟩ cs m ks (k + 1)) W6 := by rw [waysK_succ, ← List.append_assoc]; exact hi6
            have hk8 := hkx.trans hk7
            clear hI5 hV5 hr5 hi6
            go_wp2_with fail
            go_roundg (l2.length - (k + 1))
            case measure => go_light; omega
            case rel => go_light; exact ⟨k + 1, by omega, rfl, by go_num, hV6, hk8, hI6, hR6, hz6⟩
          · have hI6 := hI5.kz hY.zb hk6
            have hv6 := hI6.v0
            refine hK.out _ _ (.inl rfl) ?_
            clear hK K
            simp only [Act.put, List.setIfInBounds_toArray, List.set_cons_zero, List.set_cons_succ]
            refine wpE_step' 7 (of_decide_eq_true (by kernel_rfl)) (by kernel_rfl) (by kernel_rfl) (fun K hK => ?_)
            simp only [List.getElem_toArray, List.getElem_cons_succ, List.getElem_cons_zero]
            go_simp
            refine hK.out _ _ (.inr hv6) ?_
            clear hK K
            simp only [Act.put, List.setIfInBounds_toArray, List.set_cons_zero, List.set_cons_succ]
            refine wpE_done (by kernel_rfl) ?_ _
            have hk8 := (hkx.trans hk5).trans hk6
            have hp7 : pre' <+: pre ++ waysK ⟨n, bs⟩ cs m ks l2.length := by
              rw [List.append_assoc, ← waysK_succ] at hp6
              exact hp6.trans ((List.prefix_append_right_inj pre).2 (waysK_le _ cs m ks (k + 1) l2.length (by omega)))
            clear hp6
            clear hI5 hV5 hr5
            go_wp2_with fail
            go_ret
            exact .inr ⟨rfl, ⟨pre', hs6, by rw [hcF.out]; exact hp7⟩, hk8⟩
      · obtain rfl : k = l2.length := by omega
        rw [← hcF.out] at hV
        go_wp2_with fail
        go_ret
        exact .inl ⟨rfl, hV, hkx⟩

set_option maxHeartbeats 2000000 in
set_option maxRecDepth 100000 in
theorem ways_c (n : Int) (bs : List Bd) (cs : List (List Bd)) (Z : World → Nat → Prop) (B M l : Nat) (Inv Stop : List (List Int) → World → Prop) (b o b2 o2 c c2 : Nat) (A A2 : Option Addr) (W : World) (hn : bs.length ≤ 2000000) (hn2 : cs.length ≤ 2000000) (hn3 : ∀ l ∈ cs, l.length ≤ 2000000) (hY : YZ Z B W.heap.size M l (wayP ⟨n, bs⟩ cs) (fun ls => picksOk cs ls = true ∧ fitsW ⟨n, bs⟩ cs ls = true) Inv Stop) (hV : Inv [] W) (hR : BdsR W B b o A bs) (hC : ChR W B b2 o2 A2 cs) :
    Calls Try.prog 97 #[.agg #[.int .i64 n, .slice A bs.length c, .slice A2 cs.length c2], .func (.yield l) #[] #[]] W fun e W' => (∃ v, e = .returned v) ∧ ((∃ xs, xs = Pp.ways ⟨n, bs⟩ cs ∧ Inv xs W') ∨ (∃ pre, pre <+: Pp.ways ⟨n, bs⟩ cs ∧ Stop pre W')) := by
  obtain ⟨W3, hW3⟩ : ∃ W3, ((W.alloc (.cells #[.int .i64 n, .slice A bs.length c, .slice A2 cs.length c2] 37)).alloc (.cells #[.func (.yield l) #[] #[]] 125)).alloc (.cells #[.func (.func 124) #[] #[.pointer (some ⟨W.heap.size, 0, none⟩), .pointer (some ⟨W.heap.size + 1, 0, none⟩), .pointer (some ⟨W.heap.size + 1 + 1, 0, none⟩)]] 79) = W3 := ⟨_, rfl⟩
  have hb : Below W.heap.size W W3 := by rw [← hW3]; go_grown
  have hs3 : W3.heap.size = W.heap.size + 3 := by rw [← hW3]; simp
  have hnz : ∀ k, W.heap.size ≤ k → ¬ Z W3 k := fun k hk hz => by
    have h2 := hY.low W W3 (Nat.le_refl _) (fun k hk => hb.block k hk) _ hz
    have := hY.sz _ _ hV _ h2; omega
  have hIB : IW Z W3 W.heap.size (W.heap.size + 1) (W.heap.size + 1 + 1) l n A c bs A2 c2 cs B b o b2 o2 := by
    refine ⟨by omega, by omega, by omega, hnz _ (by omega), hnz _ (by omega), hnz _ (by omega), ?_, ?_, ?_, ?_, ?_, hR.below (hb.mono hY.hb), hC.below (hb.mono hY.hb)⟩ <;> rw [← hW3] <;> simp [go_sem]
  have hI3 := hY.st _ _ _ hV (KC.below hb) hb
  have hsz := hb.size
  have hBW := hY.hb
  have d0 := hIB.d0
  have d1 := hIB.d1
  have d2 := hIB.d2
  have hx3 := hIB.dx
  have H3 := hide hn3
  clear hn3
  cases hc : caseOk ⟨n, bs⟩ cs
  · have Hw : Hid (Pp.ways ⟨n, bs⟩ cs = []) := by unfold Hid Pp.ways; rw [hc]; rfl
    have Hc := hide hc
    clear hc
    go_enter Try.func97, Try.ntmps97
    go_wp2_with (go_at_call 44; go_fit (caseOk_c n bs cs A A2 b o c b2 o2 c2 _ _ hn hn2 H3.out (Nat.le_refl _) (hIB.rd.more (by omega)) (hIB.rc.more (by omega))); rintro e w5 ⟨rfl, hb5⟩; rw [Hc.out])
    go_end0
    exact ⟨⟨_, rfl⟩, .inl ⟨_, rfl, by rw [Hw.out]; exact hY.st _ _ _ hI3 (KC.below hb5) (hb5.mono hsz)⟩⟩
  · have Hw : Hid (Pp.ways ⟨n, bs⟩ cs = waysF ⟨n, bs⟩ cs cs.length []) := by unfold Hid Pp.ways; rw [hc]; rfl
    have Hc := hide hc
    clear hc
    go_enter Try.func97, Try.ntmps97
    go_upto_region 4 with (go_at_call 44; go_fit (caseOk_c n bs cs A A2 b o c b2 o2 c2 _ _ hn hn2 H3.out (Nat.le_refl _) (hIB.rd.more (by omega)) (hIB.rc.more (by omega))); rintro e w5 ⟨rfl, hb5⟩; rw [Hc.out])
    have hk5 : KZ Z W3 w5 := KZ.below hY.low hsz hb5
    have hI5 := hIB.kz hY.zb hk5
    have hV5 := hY.st _ _ _ hI3 (KC.below hb5) (hb5.mono hsz)
    have hs5 := hb5.size
    have v0 := hI5.v0
    go_wp2_with fail
    go_at_call 124
    refine (way_c n bs cs Hc.out Z B W.heap.size M l Inv Stop hY _ _ _ b o b2 o2 c c2 A A2 cs.length [] [] 0 0 0 none w5 (by simp) (by simp) hI5 hV5 ⟨fun h => absurd h (by simp), fun h => absurd h (by simp), fun j hj => absurd hj (by simp)⟩ (fun h => absurd h (by simp)) ⟨⟨rfl, .inl ⟨rfl, rfl⟩⟩, fun q hq => by cases hq⟩ (by omega)).mono ?_
    rintro e W4 (⟨rfl, hi, hk⟩ | ⟨rfl, ⟨pre, hs, hp⟩, hk⟩)
    · go_wp2_with fail
      go_end0
      exact ⟨⟨_, rfl⟩, .inl ⟨_, rfl, by rw [Hw.out]; simpa using hi⟩⟩
    · go_wp2_with fail
      go_end0
      exact ⟨⟨_, rfl⟩, .inr ⟨pre, by rw [Hw.out]; simpa using hp, hs⟩⟩
end Go.Proofs.Ytledgblepdjjlaa
