/-
  Cases that are made, counted, compared and marked.
-/
import Derived.Test.YtledgblepdjjlaaR51
import Derived.Test.YtledgblepdjjlaaE1
import Derived.Test.YtledgblepdjjlaaE2a
namespace Go.Proofs.Ytledgblepdjjlaa
set_option linter.unusedVariables false
set_option linter.unusedSimpArgs false
open Go.RowKit Pp

/-- What is left for rows of rows. -/
def szV (l : Int) (cs : List (List Bd)) : Int := if l - (cs.length : Int) - (sumL cs : Int) < 0 then -1 else l - (cs.length : Int) - (sumL cs : Int)

set_option maxHeartbeats 2000000 in
set_option maxRecDepth 100000 in
theorem szBoundSS_c (l : Int) (A : Option Addr) (b o c B : Nat) (cs : List (List Bd)) (w : World) (hl : 0 ≤ l ∧ l ≤ 1048576) (hn : cs.length ≤ 9223372036854775807) (hn3 : ∀ x ∈ cs, x.length ≤ 9223372036854775807) (hB : B ≤ w.heap.size) (hR : ChR w B b o A cs) :
    Calls Try.prog 65 #[.slice A cs.length c, .int .i64 l] w fun e w' => e = .returned (.int .i64 (szV l cs)) ∧ w = w' := by
  obtain ⟨hl0, hl1⟩ := hl
  obtain ⟨r, hr⟩ : ∃ r, szV l cs = r := ⟨_, rfl⟩
  have Hr := hide hr
  rw [hr]
  clear hr
  by_cases h : l - (cs.length : Int) < 0
  · have H2 : r = -1 := by rw [← Hr.out]; exact if_pos (by omega)
    subst H2
    go_enter Try.func65, Try.ntmps65
    go_wp2_with fail
    go_ret
    exact ⟨rfl, rfl⟩
  · go_enter Try.func65, Try.ntmps65
    go_wp2_with fail
    go_loopg [1, 5] cs.length (fun gh s1 s5 wr => wr = w ∧ ∃ k : Nat, ∃ v : Int, k ≤ cs.length ∧ gh = cs.length - k ∧ s1 = .int .i64 v ∧ s5 = .int .i64 k ∧ Hid (v = l - (cs.length : Int) - (sumL (cs.take k) : Int)) ∧ 0 ≤ v ∧ v ≤ 1048576)
    case atStart => exact ⟨rfl, 0, _, Nat.zero_le _, rfl, rfl, rfl, by simp [Hid, sumL], by omega, by omega⟩
    case round =>
      obtain ⟨rfl, k, v, hk, rfl, rfl, rfl, Hv, hv0, hv1⟩ := hrel
      by_cases hlt : k < cs.length
      · have hlt' : (k : Int) < (cs.length : Int) := by omega
        obtain rfl := hR.addr (by omega)
        have hx := List.getElem?_eq_getElem hlt
        have hs1 := sumL_step hx
        have hs2 := sumL_le cs (k + 1)
        have hm := hn3 _ (List.mem_of_getElem? hx)
        obtain ⟨A', b', o', c', d0, _⟩ := hR.row k _ hx
        generalize cs[k] = x at d0 hs1 hm
        clear hx
        by_cases hneg : v - (x.length : Int) < 0
        · have H : Hid ((if v - (x.length : Int) < 0 then -1 else v - (x.length : Int)) = -1) := if_pos hneg
          have H2 : r = -1 := by have := Hv.out; rw [← Hr.out]; exact if_pos (by omega)
          subst H2
          have hs := hide (And.intro hs1 hs2)
          clear hs1 hs2 hneg
          go_wp2_with (go_at_call 111; go_fit (szBoundS_c v A' x.length c' _ ⟨hv0, hv1⟩ hm); rintro e w2 ⟨rfl, rfl⟩; rw [H.out])
          go_ret
          exact ⟨rfl, rfl⟩
        · obtain ⟨z, hz⟩ : ∃ z, v - (x.length : Int) = z := ⟨_, rfl⟩
          have H : Hid ((if v - (x.length : Int) < 0 then -1 else v - (x.length : Int)) = z) := by rw [← hz]; exact if_neg hneg
          have hz0 : 0 ≤ z ∧ z ≤ 1048576 := by omega
          have hz1 : ¬ z < 0 := by omega
          have Hs : Hid (z = l - (cs.length : Int) - (sumL (cs.take (k + 1)) : Int)) := by have := Hv.out; unfold Hid; omega
          clear hs1 hs2 hneg hz
          go_wp2_with (go_at_call 111; go_fit (szBoundS_c v A' x.length c' _ ⟨hv0, hv1⟩ hm); rintro e w2 ⟨rfl, rfl⟩; rw [H.out])
          go_roundg (cs.length - (k + 1))
          case measure => go_light; omega
          case rel => go_light; exact ⟨rfl, k + 1, z, by omega, rfl, rfl, by go_num, Hs, hz0.1, hz0.2⟩
      · obtain rfl : k = cs.length := by omega
        have hrv : v = r := by
          have h1 := Hv.out
          rw [List.take_length] at h1
          rw [h1, ← Hr.out]
          unfold szV
          rw [if_neg (by omega)]
        subst hrv
        clear Hr
        go_wp2_with fail
        go_ret
        exact ⟨rfl, rfl⟩

set_option maxHeartbeats 1000000 in
set_option maxRecDepth 100000 in
theorem szCase_c (l n : Int) (A A2 : Option Addr) (b o c b2 o2 c2 B : Nat) (bs : List Bd) (cs : List (List Bd)) (w : World) (hl : 0 ≤ l ∧ l ≤ 1048576) (hn : bs.length ≤ 9223372036854775807) (hn2 : cs.length ≤ 9223372036854775807) (hn3 : ∀ x ∈ cs, x.length ≤ 9223372036854775807) (hB : B ≤ w.heap.size) (hR : BdsR w B b o A bs) (hC : ChR w B b2 o2 A2 cs) :
    Calls Try.prog 15 #[.agg #[.int .i64 n, .slice A bs.length c, .slice A2 cs.length c2], .int .i64 l] w fun e w' => e = .returned (.int .i64 (if l - (bs.length : Int) < 0 then -1 else szV (l - bs.length) cs)) ∧ Below w.heap.size w w' := by
  obtain ⟨R, hRq⟩ : ∃ R : Int, (if l - (bs.length : Int) < 0 then -1 else szV (l - bs.length) cs) = R := ⟨_, rfl⟩
  rw [hRq]
  have h1 := cc_new (n := n) (c := c) (c2 := c2) (t := 27) hB hR hC
  by_cases h : l - (bs.length : Int) < 0
  · have H : Hid ((if l - (bs.length : Int) < 0 then -1 else l - (bs.length : Int)) = -1) := if_pos h
    have H2 : R = -1 := by rw [← hRq]; exact if_pos h
    subst H2
    clear h hRq
    go_enter Try.func15, Try.ntmps15
    go_upto_region 1 with fail
    generalize w.alloc (.cells #[.int .i64 n, .slice A bs.length c, .slice A2 cs.length c2] 27) = W at h1 ⊢
    have p0 := h1.r.c0
    have p1 := h1.r.c1
    go_wp2_with (go_at_call 64; go_fit (szPlan_c l n A bs.length c _ hl hn); rintro e w2 ⟨rfl, hb⟩; rw [H.out])
    go_ret
    exact ⟨rfl, bthen h1.bel hb⟩
  · obtain ⟨r, hr⟩ : ∃ r, l - (bs.length : Int) = r := ⟨_, rfl⟩
    have H : Hid ((if l - (bs.length : Int) < 0 then -1 else l - (bs.length : Int)) = r) := by rw [← hr]; exact if_neg h
    have hr0 : 0 ≤ r ∧ r ≤ 1048576 := by omega
    have hrn : ¬ r < 0 := by omega
    rw [hr] at hRq
    have H2 : Hid (szV r cs = R) := by
      rw [if_neg hrn] at hRq
      exact hRq
    clear hr h hRq
    have hR0 : R = -1 ∨ 0 ≤ R := by rw [← H2.out]; unfold szV; split <;> omega
    rcases hR0 with hs0 | hs0
    · subst hs0
      go_enter Try.func15, Try.ntmps15
      go_upto_region 1 with fail
      generalize w.alloc (.cells #[.int .i64 n, .slice A bs.length c, .slice A2 cs.length c2] 27) = W at h1 ⊢
      have p0 := h1.r.c0
      have p1 := h1.r.c1
      have p2 := h1.r.c2
      go_wp2_with (first
        | (go_at_call 64; go_fit (szPlan_c l n A bs.length c _ hl hn); rintro e w2 ⟨rfl, hb⟩; rw [H.out]; replace h1 := h1.below hb; clear p0 p1 p2; have p2 := h1.r.c2)
        | (go_at_call 65; go_fit (szBoundSS_c r A2 b2 o2 c2 _ cs _ hr0 hn2 hn3 (Nat.le_refl _) h1.r.rc); rintro e w3 ⟨rfl, rfl⟩; rw [H2.out]))
      go_ret
      exact ⟨rfl, h1.bel⟩
    · have hs1 : ¬ R < 0 := by omega
      go_enter Try.func15, Try.ntmps15
      go_upto_region 1 with fail
      generalize w.alloc (.cells #[.int .i64 n, .slice A bs.length c, .slice A2 cs.length c2] 27) = W at h1 ⊢
      have p0 := h1.r.c0
      have p1 := h1.r.c1
      have p2 := h1.r.c2
      go_wp2_with (first
        | (go_at_call 64; go_fit (szPlan_c l n A bs.length c _ hl hn); rintro e w2 ⟨rfl, hb⟩; rw [H.out]; replace h1 := h1.below hb; clear p0 p1 p2; have p2 := h1.r.c2)
        | (go_at_call 65; go_fit (szBoundSS_c r A2 b2 o2 c2 _ cs _ hr0 hn2 hn3 (Nat.le_refl _) h1.r.rc); rintro e w3 ⟨rfl, rfl⟩; rw [H2.out]))
      go_ret
      exact ⟨rfl, h1.bel⟩

/-- What szCase tells of a case's size. -/
theorem szCase_cases (bs : List Bd) (cs : List (List Bd)) (R : Int) (h : (if (1048576 : Int) - (bs.length : Int) < 0 then -1 else szV (1048576 - bs.length) cs) = R) :
    R = -1 ∨ (0 ≤ R ∧ bs.length ≤ 2000000 ∧ cs.length ≤ 2000000 ∧ (∀ l ∈ cs, l.length ≤ 2000000) ∧ bs.length + sumL cs ≤ 1048576) := by
  by_cases h0 : (1048576 : Int) - (bs.length : Int) < 0
  · rw [if_pos h0] at h; exact .inl h.symm
  · rw [if_neg h0] at h
    unfold szV at h
    split at h
    · exact .inl h.symm
    · refine .inr ⟨by omega, by omega, by omega, fun l hl => ?_, by omega⟩
      have := sumL_mem hl
      omega

theorem infoSB : (Try.prog.info? 30).map (fun i => (i.zero, i.size, i.bytes)) = some (some (.slice none 0 0), 1, 24) := by kernel_rfl

set_option maxHeartbeats 2000000 in
set_option maxRecDepth 100000 in
theorem toBoundSS_c (A : Option Addr) (b o c B : Nat) (cs : List (List Bd)) (w : World) (hn : cs.length ≤ 2000000) (hn3 : ∀ x ∈ cs, x.length ≤ 2000000) (hB : B ≤ w.heap.size) (hR : ChR w B b o A cs) :
    Calls Try.prog 69 #[.slice A cs.length c] w fun e w' => ∃ A1 c1 g1 F1, e = .returned (.slice A1 cs.length c1) ∧ ChO w.heap.size w'.heap.size w' g1 F1 A1 cs ∧ Below w.heap.size w w' := by
  obtain ⟨i0, hi0, hz0, hz1, hz2⟩ := info_parts infoSB
  have hmk := fun W => run_make (P := Try.prog) W 35 30 i0 (.slice none 0 0) Try.underlying35 hi0 hz0 .i64 .i64 cs.length cs.length (by omega) (Int.le_refl _) (by rw [hz2]; omega) (by omega)
  simp only [Int.toNat_natCast, hz1] at hmk
  have hrow : (w.alloc (.cells (madeCells #[.slice none 0 0] cs.length) 30)).rowIs w.heap.size 30 cs.length (fun _ => .slice none 0 0) := by
    have h := World.rowIs_alloc w (madeCells #[.slice none 0 0] cs.length) 30 (fun _ => .slice none 0 0) (fun i hi => by
      rw [size_madeCells] at hi
      simp only [madeCells, Array.getElem?_map]
      rw [Array.getElem?_eq_getElem (by simpa using hi)]
      simp
      rw [Nat.mod_one]; rfl)
    rwa [size_madeCells] at h
  go_enter Try.func69, Try.ntmps69
  go_wp2_with fail
  have hW0 : Below w.heap.size w (w.alloc (.cells (madeCells #[.slice none 0 0] cs.length) 30)) := by go_grown
  generalize w.alloc (.cells (madeCells #[.slice none 0 0] cs.length) 30) = W at hrow hW0 ⊢
  clear hmk
  go_loopg [4] cs.length (fun gh s wr => ∃ k : Nat, ∃ F : Nat → Value, k ≤ cs.length ∧ gh = cs.length - k ∧ s = .int .i64 k ∧ Below w.heap.size w wr ∧ wr.rowIs w.heap.size 30 cs.length F ∧ RowsX (w.heap.size + 1) wr.heap.size 0 k wr F cs)
  case atStart => exact ⟨0, _, Nat.zero_le _, rfl, rfl, hW0, hrow, RowsX.nil _ _ _ _ _⟩
  case round =>
    clear hW0 hrow
    obtain ⟨k, F, hk, rfl, rfl, hW, hrow, hrows⟩ := hrel
    have hHw := hrow.lt
    by_cases hlt : k < cs.length
    · have hlt' : (k : Int) < (cs.length : Int) := by omega
      obtain rfl := hR.addr (by omega)
      have hx := List.getElem?_eq_getElem hlt
      have hR2 := hR.below (hW.mono hB)
      have hm := hn3 _ (List.mem_of_getElem? hx)
      obtain ⟨A', b', o', c', d0, hrd⟩ := hR2.row k _ hx
      generalize cs[k] = x at d0 hx hm hrd
      clear hR2
      have hBw : B ≤ wr.heap.size := Nat.le_trans hB hW.size
      have Hx := hide hx
      clear hx
      go_wp2_with (go_at_call 112; go_fit (toBoundS_c A' b' o' c' B x _ hm hBw hrd); rintro e w2 ⟨A1, c1, rfl, ho, hb2⟩; have hrow2 := rowIs_below hrow hb2 hHw; have hW2 : Below w.heap.size w w2 := bthen hW hb2; have hrows2 := hrows.push Hx.out (by omega) hb2 ho; have t0 := hrow2.cell (i := k) (by omega); have tf0 := hrow2.frozen k)
      go_roundg (cs.length - (k + 1))
      case measure => go_light; omega
      case rel => go_light; exact ⟨k + 1, _, by omega, rfl, by go_num, hW2.setCell (Nat.le_refl _) _, hrow2.set k _, by rw [World.size_setCell]; exact hrows2.set (p := ⟨w.heap.size, k, none⟩) (Nat.lt_succ_self _) _⟩
    · obtain rfl : k = cs.length := by omega
      go_wp2_with fail
      go_ret
      exact ⟨_, _, w.heap.size, F, rfl, ⟨fun _ => rfl, Nat.le_refl _, hHw, Nat.le_refl _, hrow, hrows⟩, hW⟩

set_option maxHeartbeats 4000000 in
set_option maxRecDepth 100000 in
theorem eqBoundSS_yes (cs : List (List Bd)) (A A' : Option Addr) (b o c b' o' c' B : Nat) (w : World) (hn : cs.length ≤ 2000000) (hn3 : ∀ x ∈ cs, x.length ≤ 2000000) (hB : B ≤ w.heap.size) (hR : ChR w B b o A cs) (hR' : ChR w B b' o' A' cs) :
    Calls Try.prog 74 #[.slice A cs.length c, .slice A' cs.length c'] w fun e w' => e = .returned (.bool true) ∧ Below w.heap.size w w' := by
  go_enter Try.func74, Try.ntmps74
  go_wp2_with fail
  go_loopg [5] cs.length (fun gh i wr => ∃ k : Nat, k ≤ cs.length ∧ gh = cs.length - k ∧ i = .int .i64 k ∧ Below w.heap.size w wr)
  case atStart => exact ⟨0, Nat.zero_le _, rfl, rfl, Below.refl _ _⟩
  case round =>
    obtain ⟨k, hk, rfl, rfl, hW⟩ := hrel
    by_cases hlt : k < cs.length
    · have hz : (k : Int) < (cs.length : Int) := by omega
      have hz0 : (0 : Int) ≤ (k : Int) := by omega
      obtain rfl := hR.addr (by omega)
      obtain rfl := hR'.addr (by omega)
      have hx := List.getElem?_eq_getElem hlt
      have hBw : B ≤ wr.heap.size := Nat.le_trans hB hW.size
      have hm := hn3 _ (List.mem_of_getElem? hx)
      obtain ⟨Ax, bx, ox, cx, d0, hrd⟩ := (hR.below (hW.mono hB)).row k _ hx
      obtain ⟨Ay, by', oy, cy, e0, hre⟩ := (hR'.below (hW.mono hB)).row k _ hx
      have hb1 : b < wr.heap.size := Nat.lt_of_lt_of_le (hR.lt (by omega)) hBw
      have hb2 : b' < wr.heap.size := Nat.lt_of_lt_of_le (hR'.lt (by omega)) hBw
      generalize cs[k] = x at d0 e0 hm hrd hre
      clear hx
      have hBd : B ≤ wr.drew.heap.size := hBw
      have hrd2 : BdsR wr.drew B bx ox Ax x := hrd.below (show Below B wr wr.drew by go_grown)
      have hre2 : BdsR wr.drew B by' oy Ay x := hre.below (show Below B wr wr.drew by go_grown)
      go_upto_region 6 with fail
      go_region_held3 (fun w' => w'.cell? ⟨b, o + k, none⟩ = some (.slice Ax x.length cx) ∧ w'.cell? ⟨b', o' + k, none⟩ = some (.slice Ay x.length cy))
        (first
          | (go_split_ands; (repeat' apply And.intro) <;> first | assumption | exact ((bcell hb5).1 _ _ (by simp only [World.size_drew]; omega)).trans (by assumption))
          | (go_keep; done))
        ((go_at_call 73; go_fit (eqBoundS_yes x Ax Ay bx ox cx by' oy cy B _ hm hBd hrd2 hre2); rintro e w5 ⟨rfl, hb5⟩; have hW5 : Below w.heap.size w w5 := bthen hW.drew hb5))
      go_wp2_with fail
      go_roundg (cs.length - (k + 1))
      case measure => go_light; omega
      case rel => go_light; exact ⟨k + 1, by omega, rfl, by go_num, hW5⟩
    · go_wp2_with fail
      go_ret
      exact ⟨rfl, hW⟩

set_option maxHeartbeats 4000000 in
set_option maxRecDepth 100000 in
theorem markBoundSS_c (k0 : Int) (lo hi g : Nat) (F : Nat → Value) (A : Option Addr) (c : Nat) (cs : List (List Bd)) (w : World) (hk : 0 ≤ k0 ∧ k0 ≤ 100000000) (hn : cs.length ≤ 2000000) (hn3 : ∀ x ∈ cs, x.length ≤ 2000000) (hs : sumL cs ≤ 2000000) (hC : ChO lo hi w g F A cs) :
    Calls Try.prog 75 #[.slice A cs.length c, .int .i64 k0] w fun e w' => e = .returned (.int .i64 (k0 + 3 * (sumL cs : Int))) ∧ GIn lo hi w w' := by
  obtain ⟨hk0, hk1⟩ := hk
  obtain ⟨hA, hlo, hhi, htop, hrow, hrows⟩ := hC
  go_enter Try.func75, Try.ntmps75
  go_wp2_with fail
  go_loopg [1, 5] cs.length (fun gh s1 s5 wr => ∃ k : Nat, ∃ v : Int, k ≤ cs.length ∧ gh = cs.length - k ∧ s1 = .int .i64 v ∧ s5 = .int .i64 k ∧ Hid (v = k0 + 3 * (sumL (cs.take k) : Int)) ∧ GIn (g + 1) hi w wr ∧ RowsX (g + 1) hi k cs.length wr F cs)
  case atStart => exact ⟨0, k0, Nat.zero_le _, rfl, rfl, rfl, by simp [Hid, sumL], GIn.refl _ _ _, hrows⟩
  case round =>
    clear hrows
    obtain ⟨k, v, hk, rfl, rfl, rfl, Hv, hG, hrows⟩ := hrel
    have hv0 : 0 ≤ v ∧ v ≤ 1000000000 := by have := Hv.out; have := sumL_le cs k; omega
    obtain ⟨hv1, hv2⟩ := hv0
    by_cases hlt : k < cs.length
    · have hlt' : (k : Int) < (cs.length : Int) := by omega
      obtain rfl := hA (by omega)
      have hx := List.getElem?_eq_getElem hlt
      have hm := hn3 _ (List.mem_of_getElem? hx)
      have hs1 := sumL_step hx
      obtain ⟨Ax, cx, eF, ho⟩ := hrows.row k _ (Nat.le_refl _) hlt hx
      have d0 := hG.cell (hrow.cell (i := k) hlt) (by omega)
      rw [eF] at d0
      have hgw : g + 1 ≤ wr.heap.size := by have := hG.size; omega
      generalize cs[k] = x at hx hm hs1 eF ho d0
      have Hs : Hid (v + 3 * (x.length : Int) = k0 + 3 * (sumL (cs.take (k + 1)) : Int)) := by have := Hv.out; unfold Hid; omega
      clear hs1 hx
      have HF := hide eF
      clear eF
      go_wp2_with (go_at_call 76; go_fit (markBoundS_c v (g + 1) Ax cx x _ ⟨hv1, by omega⟩ hm ho hgw); rintro e w2 ⟨rfl, ho2, hg2⟩; have hrows2 := hrows.mark (by rw [HF.out]; exact hg2) hlt; have hG2 : GIn (g + 1) hi w w2 := hG.trans (gin_grown hg2 (fun q hq => hrows.hi k q (Nat.le_refl _) hlt (by rw [HF.out]; exact hq))))
      go_roundg (cs.length - (k + 1))
      case measure => go_light; omega
      case rel => go_light; exact ⟨k + 1, _, by omega, rfl, rfl, by go_num, Hs, hG2, hrows2⟩
    · obtain rfl : k = cs.length := by omega
      go_wp2_with fail
      go_ret
      refine ⟨by rw [Hv.out, List.take_length]; rfl, ⟨hG.os, hG.tape, hG.output, hG.size, fun q hq hn => hG.block q hq (by omega)⟩⟩

set_option maxHeartbeats 2000000 in
set_option maxRecDepth 100000 in
theorem eqCase_yes (n : Int) (bs : List Bd) (cs : List (List Bd)) (A A' A2 A2' : Option Addr) (b o c b' o' c' b2 o2 c2 b2' o2' c2' B : Nat) (w : World) (hn : bs.length ≤ 2000000) (hn2 : cs.length ≤ 2000000) (hn3 : ∀ x ∈ cs, x.length ≤ 2000000) (hB : B ≤ w.heap.size)
    (hR : BdsR w B b o A bs) (hR' : BdsR w B b' o' A' bs) (hC : ChR w B b2 o2 A2 cs) (hC' : ChR w B b2' o2' A2' cs) :
    Calls Try.prog 21 #[.agg #[.int .i64 n, .slice A bs.length c, .slice A2 cs.length c2], .agg #[.int .i64 n, .slice A' bs.length c', .slice A2' cs.length c2']] w fun e w' => e = .returned (.bool true) ∧ Below w.heap.size w w' := by
  have hD1 := (cc_new (n := n) (c := c) (c2 := c2) (t := 37) hB hR hC).alloc (.cells #[.int .i64 n, .slice A' bs.length c', .slice A2' cs.length c2'] 37)
  have hb1 : Below w.heap.size w (w.alloc (.cells #[.int .i64 n, .slice A bs.length c, .slice A2 cs.length c2] 37)) := by go_grown
  have hD2 : RC ((w.alloc (.cells #[.int .i64 n, .slice A bs.length c, .slice A2 cs.length c2] 37)).alloc (.cells #[.int .i64 n, .slice A' bs.length c', .slice A2' cs.length c2'] 37)) (w.heap.size + 1) b' o' n A' c' bs b2' o2' A2' c2' cs := by
    have h := rc_new (n := n) (c := c') (c2 := c2') (t := 37) ((hR'.more hB).below hb1 |>.more hb1.size) ((hC'.more hB).below hb1 |>.more hb1.size)
    simpa using h
  go_enter Try.func21, Try.ntmps21
  go_upto_region 1 with fail
  generalize (w.alloc (.cells #[.int .i64 n, .slice A bs.length c, .slice A2 cs.length c2] 37)).alloc (.cells #[.int .i64 n, .slice A' bs.length c', .slice A2' cs.length c2'] 37) = W at hD1 hD2 ⊢
  have p0 := hD1.r.c0
  have p1 := hD1.r.c1
  have p2 := hD1.r.c2
  have q0 := hD2.c0
  have q1 := hD2.c1
  have q2 := hD2.c2
  go_wp2_with (first
    | (go_at_call 20; go_fit (eqPlan_yes n bs A A' b o c b' o' c' _ _ hn (Nat.le_refl _) hD1.r.rd hD2.rd); rintro e w5 ⟨rfl, hb5⟩; replace hD1 := hD1.below hb5; replace hD2 := hD2.below hb5; clear p0 p1 p2 q0 q1 q2; have p2 := hD1.r.c2; have q2 := hD2.c2)
    | (go_at_call 74; go_fit (eqBoundSS_yes cs A2 A2' b2 o2 c2 b2' o2' c2' _ _ hn2 hn3 (Nat.le_refl _) hD1.r.rc hD2.rc); rintro e w6 ⟨rfl, hb6⟩; replace hD1 := hD1.below hb6))
  go_ret
  exact ⟨rfl, hD1.bel⟩

set_option maxHeartbeats 2000000 in
set_option maxRecDepth 100000 in
theorem toCase_q (n : Int) (bs : List Bd) (cs : List (List Bd)) (A A2 : Option Addr) (b o c b2 o2 c2 B : Nat) (w : World) (hn : bs.length ≤ 2000000) (hn2 : cs.length ≤ 2000000) (hn3 : ∀ x ∈ cs, x.length ≤ 2000000) (hB : B ≤ w.heap.size) (hR : BdsR w B b o A bs) (hC : ChR w B b2 o2 A2 cs) :
    Calls Try.prog 17 #[.agg #[.int .i64 n, .slice A bs.length c, .slice A2 cs.length c2]] w fun e w' => ∃ A1 c1 g1 A3 c3 g3 F, e = .returned (.agg #[.int .i64 n, .slice A1 bs.length c1, .slice A3 cs.length c3]) ∧
      BdsR w' w'.heap.size g1 0 A1 bs ∧ OwnB w.heap.size w' (.slice A1 bs.length c1) bs ∧ ChR w' w'.heap.size g3 0 A3 cs ∧ ChO w.heap.size w'.heap.size w' g3 F A3 cs ∧ (∀ q, (Value.slice A1 bs.length c1).ownBlock = some q → q < g3) ∧ Below w.heap.size w w' := by
  have hb0 : Below w.heap.size w (w.alloc (.cells #[.int .i64 n, .slice A bs.length c, .slice A2 cs.length c2] 27)) := by go_grown
  have hb1 : Below w.heap.size w ((w.alloc (.cells #[.int .i64 n, .slice A bs.length c, .slice A2 cs.length c2] 27)).alloc (.cells #[.int .i64 0, .slice none 0 0, .slice none 0 0] 37)) := by go_grown
  have hW : Below w.heap.size w (((w.alloc (.cells #[.int .i64 n, .slice A bs.length c, .slice A2 cs.length c2] 27)).alloc (.cells #[.int .i64 0, .slice none 0 0, .slice none 0 0] 37)).alloc (.cells #[.int .i64 0, .slice none 0 0, .slice none 0 0] 37)) := by go_grown
  have hD : CB (((w.alloc (.cells #[.int .i64 n, .slice A bs.length c, .slice A2 cs.length c2] 27)).alloc (.cells #[.int .i64 0, .slice none 0 0, .slice none 0 0] 37)).alloc (.cells #[.int .i64 0, .slice none 0 0, .slice none 0 0] 37)) w.heap.size [.int .i64 n, .slice A bs.length c, .slice A2 cs.length c2] := ((cb_new w _ _).alloc _).alloc _
  have hY : ZD w (((w.alloc (.cells #[.int .i64 n, .slice A bs.length c, .slice A2 cs.length c2] 27)).alloc (.cells #[.int .i64 0, .slice none 0 0, .slice none 0 0] 37)).alloc (.cells #[.int .i64 0, .slice none 0 0, .slice none 0 0] 37)) (w.heap.size + 1) [.int .i64 0, .slice none 0 0, .slice none 0 0] := by
    have h := zd_new (t := 37) [.int .i64 0, .slice none 0 0, .slice none 0 0] hb0.size
    simp only [World.size_alloc] at h
    exact h.below (by go_grown)
  have hX : ZD w (((w.alloc (.cells #[.int .i64 n, .slice A bs.length c, .slice A2 cs.length c2] 27)).alloc (.cells #[.int .i64 0, .slice none 0 0, .slice none 0 0] 37)).alloc (.cells #[.int .i64 0, .slice none 0 0, .slice none 0 0] 37)) (w.heap.size + 1 + 1) [.int .i64 0, .slice none 0 0, .slice none 0 0] := by
    have h := zd_new (t := 37) [.int .i64 0, .slice none 0 0, .slice none 0 0] hb1.size
    simp only [World.size_alloc] at h
    exact h
  go_enter Try.func17, Try.ntmps17
  go_upto_region 2 with fail
  generalize (((w.alloc (.cells #[.int .i64 n, .slice A bs.length c, .slice A2 cs.length c2] 27)).alloc (.cells #[.int .i64 0, .slice none 0 0, .slice none 0 0] 37)).alloc (.cells #[.int .i64 0, .slice none 0 0, .slice none 0 0] 37)) = W at hD hW hY hX ⊢
  have hDX : w.heap.size ≠ w.heap.size + 1 + 1 := by omega
  have hDY : w.heap.size ≠ w.heap.size + 1 := by omega
  have hXY : w.heap.size + 1 ≠ w.heap.size + 1 + 1 := by omega
  generalize w.heap.size + 1 + 1 = X at hX hXY hDX ⊢
  generalize w.heap.size + 1 = Y at hY hXY hDY ⊢
  clear hb0 hb1
  have p0 := hD.c 0 _ rfl
  have p1 := hD.c 1 _ rfl
  have x0 := hX.b.c 0 _ rfl
  have x1 := hX.b.c 1 _ rfl
  have xf0 := hX.zf 0
  have xf1 := hX.zf 1
  have hXl := hX.b.ex
  have hYl := hY.b.ex
  have hRW := hR.below (hW.mono hB)
  go_upto_region 3 with (go_at_call 68; go_fit (toPlan_q n bs A b o c B W hn (Nat.le_trans hB hW.size) hRW); rintro e w2 ⟨A1, c1, g1, rfl, hr1, own1, hb2⟩; replace hW := bthen hW hb2; replace hD := hD.below hb2; replace hX := hX.below hb2; replace hY := hY.below hb2; clear p0 p1 x0 x1 xf0 xf1; have x0 := hX.b.c 0 _ rfl; have x1 := hX.b.c 1 _ rfl; have xf0 := hX.zf 0; have xf1 := hX.zf 1)
  have nX : (Value.slice A1 bs.length c1).ownBlock ≠ some X := fun e => by have := (own1.lt _ e).1; omega
  have nY : (Value.slice A1 bs.length c1).ownBlock ≠ some Y := fun e => by have := (own1.lt _ e).1; omega
  have own2 : OwnB w.heap.size w2 (.slice A1 bs.length c1) bs := own_less own1 (by have := hX.lo; omega)
  have own3 : OwnB w.heap.size ((w2.setCell ⟨X, 0, none⟩ (.int .i64 n)).setCell ⟨X, 1, none⟩ (.slice A1 bs.length c1)) (.slice A1 bs.length c1) bs := own_set (own_set own2 nX _) nX _
  have hX3 : ZD w ((w2.setCell ⟨X, 0, none⟩ (.int .i64 n)).setCell ⟨X, 1, none⟩ (.slice A1 bs.length c1)) X [.int .i64 n, .slice A1 bs.length c1, .slice none 0 0] := (hX.put 0 (.int .i64 n) (by simp)).put 1 (.slice A1 bs.length c1) (by simp)
  have hg1 := grown_set w2 ⟨X, 0, none⟩ (.int .i64 n)
  have hg2 := grown_set (w2.setCell ⟨X, 0, none⟩ (.int .i64 n)) ⟨X, 1, none⟩ (.slice A1 bs.length c1)
  have hY3 : ZD w ((w2.setCell ⟨X, 0, none⟩ (.int .i64 n)).setCell ⟨X, 1, none⟩ (.slice A1 bs.length c1)) Y [.int .i64 0, .slice none 0 0, .slice none 0 0] := (hY.grown hg1 (by simpa using hXY)).grown hg2 (by simpa using hXY)
  have hD3 : CB ((w2.setCell ⟨X, 0, none⟩ (.int .i64 n)).setCell ⟨X, 1, none⟩ (.slice A1 bs.length c1)) w.heap.size [.int .i64 n, .slice A bs.length c, .slice A2 cs.length c2] := (hD.grown hg1 (by simpa using hDX)).grown hg2 (by simpa using hDX)
  have hW3 : Below w.heap.size w ((w2.setCell ⟨X, 0, none⟩ (.int .i64 n)).setCell ⟨X, 1, none⟩ (.slice A1 bs.length c1)) := (hW.setCell (p := ⟨X, 0, none⟩) hX.lo _).setCell (p := ⟨X, 1, none⟩) hX.lo _
  have hq1 : ∀ q, (Value.slice A1 bs.length c1).ownBlock = some q → q < ((w2.setCell ⟨X, 0, none⟩ (.int .i64 n)).setCell ⟨X, 1, none⟩ (.slice A1 bs.length c1)).heap.size := fun q hq => (own3.lt q hq).2
  generalize (w2.setCell ⟨X, 0, none⟩ (.int .i64 n)).setCell ⟨X, 1, none⟩ (.slice A1 bs.length c1) = W3 at hX3 hY3 hD3 hW3 own3 hq1 ⊢
  clear own2 own1 hr1 hg1 hg2 hX hY hD hW hb2 x0 x1 xf0 xf1 hXl hYl hRW
  have p2 := hD3.c 2 _ rfl
  have x2 := hX3.b.c 2 _ rfl
  have xf2 := hX3.zf 2
  have hXl := hX3.b.ex
  have hYl := hY3.b.ex
  have hPW := hC.below (hW3.mono hB)
  have hX3w : w.heap.size ≤ W3.heap.size := hW3.size
  have hXlo : X < W3.heap.size := hXl
  have hYlo : Y < W3.heap.size := hYl
  go_upto_region 4 with (go_at_call 69; go_fit (toBoundSS_c A2 b2 o2 c2 B cs W3 hn2 hn3 (Nat.le_trans hB hW3.size) hPW); rintro e w4 ⟨A3, c3, g3, F3, rfl, hO, hb4⟩; replace hW3 := bthen hW3 hb4; replace own3 := own_below own3 hb4; replace hX3 := hX3.below hb4; replace hY3 := hY3.below hb4; clear p2 x2 xf2; have x2 := hX3.b.c 2 _ rfl; have xf2 := hX3.zf 2)
  have hX5 : ZD w (w4.setCell ⟨X, 2, none⟩ (.slice A3 cs.length c3)) X [.int .i64 n, .slice A1 bs.length c1, .slice A3 cs.length c3] := hX3.put 2 (.slice A3 cs.length c3) (by simp)
  have hY5 : ZD w (w4.setCell ⟨X, 2, none⟩ (.slice A3 cs.length c3)) Y [.int .i64 0, .slice none 0 0, .slice none 0 0] := hY3.grown (grown_set w4 ⟨X, 2, none⟩ _) (by simpa using hXY)
  have hW5 : Below w.heap.size w (w4.setCell ⟨X, 2, none⟩ (.slice A3 cs.length c3)) := hW3.setCell (p := ⟨X, 2, none⟩) hX3.lo _
  have own5 : OwnB w.heap.size (w4.setCell ⟨X, 2, none⟩ (.slice A3 cs.length c3)) (.slice A1 bs.length c1) bs := own_set own3 nX _
  have hO5 : ChO W3.heap.size w4.heap.size (w4.setCell ⟨X, 2, none⟩ (.slice A3 cs.length c3)) g3 F3 A3 cs := hO.grown (grown_set w4 ⟨X, 2, none⟩ _) (fun k hk => by injection hk with hk; subst hk; exact .inl hXlo)
  have hs5 : (w4.setCell ⟨X, 2, none⟩ (.slice A3 cs.length c3)).heap.size = w4.heap.size := World.size_setCell ..
  generalize w4.setCell ⟨X, 2, none⟩ (.slice A3 cs.length c3) = W5 at hX5 hY5 hW5 own5 hO5 hs5 ⊢
  rw [← hs5] at hO5
  clear x2 xf2 hX3 hY3 hW3 own3 hO hb4 hXl hYl hD3 hPW hs5
  have x0 := hX5.b.c 0 _ rfl
  have x1 := hX5.b.c 1 _ rfl
  have x2 := hX5.b.c 2 _ rfl
  have y0 := hY5.b.c 0 _ rfl
  have y1 := hY5.b.c 1 _ rfl
  have y2 := hY5.b.c 2 _ rfl
  have yf0 := hY5.zf 0
  have yf1 := hY5.zf 1
  have yf2 := hY5.zf 2
  go_wp2_with fail
  have hY6 := ((hY5.put 0 (.int .i64 n) (by simp)).put 1 (.slice A1 bs.length c1) (by simp)).put 2 (.slice A3 cs.length c3) (by simp)
  have r0 := hY6.b.c 0 _ rfl
  have r1 := hY6.b.c 1 _ rfl
  have r2 := hY6.b.c 2 _ rfl
  have ho : OwnB w.heap.size _ (.slice A1 bs.length c1) bs := own_set (own_set (own_set own5 (p := ⟨Y, 0, none⟩) nY (.int .i64 n)) (p := ⟨Y, 1, none⟩) nY (.slice A1 bs.length c1)) (p := ⟨Y, 2, none⟩) nY (.slice A3 cs.length c3)
  have hk : ∀ k, some Y = some k → k < W3.heap.size ∨ W5.heap.size ≤ k := fun k hk => by injection hk with hk; subst hk; exact .inl hYlo
  have hO6 := ((hO5.grown (grown_set W5 ⟨Y, 0, none⟩ (.int .i64 n)) hk).grown (grown_set _ ⟨Y, 1, none⟩ (.slice A1 bs.length c1)) hk).grown (grown_set _ ⟨Y, 2, none⟩ (.slice A3 cs.length c3)) hk
  have hb7 : Below w.heap.size w _ := ((hW5.setCell (p := ⟨Y, 0, none⟩) hY5.lo (.int .i64 n)).setCell (p := ⟨Y, 1, none⟩) hY5.lo (.slice A1 bs.length c1)).setCell (p := ⟨Y, 2, none⟩) hY5.lo (.slice A3 cs.length c3)
  refine bodyPost_ret (v := .agg #[.int .i64 n, .slice A1 bs.length c1, .slice A3 cs.length c3]) (by simp [results, Try.results17, go_sem, r0, r1, r2]) rfl ?_
  obtain ⟨g, hr⟩ := OwnB.readsA ho
  exact ⟨A1, c1, g, A3, c3, g3, F3, rfl, hr, ho, hO6.reads, ⟨hO6.addr, Nat.le_trans hX3w hO6.lob, Nat.lt_of_lt_of_le hO6.hib hO6.top, Nat.le_refl _, hO6.outer, ⟨hO6.rows.row, fun j q h1 h2 h3 => ⟨(hO6.rows.hi j q h1 h2 h3).1, Nat.lt_of_lt_of_le (hO6.rows.hi j q h1 h2 h3).2 hO6.top⟩, hO6.rows.dif⟩⟩, fun q hq => Nat.lt_of_lt_of_le (hq1 q hq) hO6.lob, hb7⟩

set_option maxHeartbeats 1000000 in
set_option maxRecDepth 100000 in
theorem markCase_c (n k0 : Int) (lo hi g : Nat) (F : Nat → Value) (A A2 : Option Addr) (c c2 : Nat) (bs : List Bd) (cs : List (List Bd)) (w : World) (hk : 0 ≤ k0 ∧ k0 ≤ 1000000) (hn : bs.length ≤ 2000000) (hn2 : cs.length ≤ 2000000) (hn3 : ∀ x ∈ cs, x.length ≤ 2000000) (hs : sumL cs ≤ 2000000) (hown : OwnB lo w (.slice A bs.length c) bs) (hq : ∀ q, (Value.slice A bs.length c).ownBlock = some q → q < g) (hO : ChO lo hi w g F A2 cs) :
    Calls Try.prog 23 #[.agg #[.int .i64 n, .slice A bs.length c, .slice A2 cs.length c2], .int .i64 k0] w fun e w' => e = .returned (.int .i64 (k0 + 3 * bs.length + 3 * (sumL cs : Int))) ∧ GIn lo hi w w' := by
  obtain ⟨hk0, hk1⟩ := hk
  have hD := cb_new w [.int .i64 n, .slice A bs.length c, .slice A2 cs.length c2] 37
  have hb : Below w.heap.size w (w.alloc (.cells #[.int .i64 n, .slice A bs.length c, .slice A2 cs.length c2] 37)) := by go_grown
  have hG0 : GIn lo hi w (w.alloc (.cells #[.int .i64 n, .slice A bs.length c, .slice A2 cs.length c2] 37)) := GIn.of_below hb
  have htop := hO.top
  have hgl := hO.lob
  have hgh := hO.hib
  have hown2 := own_below hown hb
  have hX0 : ∀ q, (Value.slice A bs.length c).ownBlock = some q → w.heap.size ≠ q := fun q e => by have := hq q e; omega
  -- the rows stay where the plan's bounds are marked
  have hsp : ChO g hi w g F A2 cs := ⟨hO.addr, Nat.le_refl _, hO.hib, hO.top, hO.outer, hO.rows⟩
  have hsp2 := hsp.below hb
  go_enter Try.func23, Try.ntmps23
  go_upto_region 1 with fail
  generalize w.alloc (.cells #[.int .i64 n, .slice A bs.length c, .slice A2 cs.length c2] 37) = W at hD hG0 hown2 hsp2 ⊢
  have p0 := hD.c 0 _ rfl
  have p1 := hD.c 1 _ rfl
  have p2 := hD.c 2 _ rfl
  have hlW : lo ≤ W.heap.size := Nat.le_trans (by omega) hG0.size
  clear hown hsp hb hO
  go_wp2_with (first
    | (go_at_call 25; go_fit (markPlan_c n k0 lo A c bs _ ⟨hk0, by omega⟩ hn hown2 hlW); rintro e w2 ⟨rfl, ho, hG⟩; clear p0 p1 p2; replace hD := hD.grown hG (fun e => hX0 _ e.symm rfl); have p2 := hD.c 2 _ rfl; replace hsp2 := hsp2.grown hG (fun k hk => .inl (hq k hk)); replace hG0 := hG0.trans (gin_grown hG (fun k hk => ⟨(hown2.lt k hk).1, by have := hq k hk; omega⟩)))
    | (go_at_call 75; go_fit (markBoundSS_c (k0 + 3 * bs.length) g hi g F A2 c2 cs _ ⟨by omega, by omega⟩ hn2 hn3 hs hsp2); rintro e w3 ⟨rfl, hG3⟩))
  go_ret
  exact ⟨rfl, hG0.trans ⟨hG3.os, hG3.tape, hG3.output, hG3.size, fun k hk hn => hG3.block k hk (by omega)⟩⟩
end Go.Proofs.Ytledgblepdjjlaa
