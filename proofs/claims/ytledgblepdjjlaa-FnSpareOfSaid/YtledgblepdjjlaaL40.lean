/-
  impl: RingOk, RingSum.
-/
import Derived.Test.YtledgblepdjjlaaP22
import Derived.Test.YtledgblepdjjlaaL5a
import Derived.Test.YtledgblepdjjlaaI3
namespace Go.Proofs.Ytledgblepdjjlaa
set_option linter.unusedVariables false
set_option linter.unusedSimpArgs false
open Go.RowKit Pp

def ints (r : List Nat) : List Int := r.map fun k : Nat => (k : Int)
theorem ints_len (r : List Nat) : (ints r).length = r.length := by unfold ints; simp
theorem ints_at {r : List Nat} {k a : Nat} (h : r[k]? = some a) : (ints r).getD k 0 = (a : Int) := by unfold ints; rw [List.getD_eq_getElem?_getD, List.getElem?_map, h]; rfl
theorem path_all {p : Pl} {i j : Int} : ∀ {r : List Nat}, path p i j r → ∀ a ∈ r, a < p.bs.length := by
  intro r
  induction r generalizing i with
  | nil => intro _ a ha; cases ha
  | cons b r ih =>
    rintro ⟨h1, _, h3⟩ a ha
    rcases List.mem_cons.1 ha with rfl | ha
    · exact h1
    · exact ih h3 a ha
theorem path_at {p : Pl} {i j : Int} {r : List Nat} (h : path p i j r) {k : Nat} (hk : k < r.length) : ∃ a u, r[k]? = some a ∧ a < p.bs.length ∧ (bdAt p a).f = u ∧ path p i u (r.take k) ∧ path p (bdAt p a).t j (r.drop (k + 1)) := by
  have e : r = r.take k ++ (r[k] :: r.drop (k + 1)) := by rw [← List.drop_eq_getElem_cons hk, List.take_append_drop]
  rw [e] at h
  obtain ⟨u, h1, h2, h3, h4⟩ := path_append.1 h
  exact ⟨r[k], u, List.getElem?_eq_getElem hk, h2, h3, h1, h4⟩
theorem bd_at {n : Int} {bs : List Bd} {a : Nat} (h : a < bs.length) : bs[a]? = some (bdAt ⟨n, bs⟩ a) := by unfold bdAt; rw [List.getD_eq_getElem?_getD, List.getElem?_eq_getElem h]; rfl
theorem allIn_l (xs : List Int) (len : Nat) (hlen : xs.length = len) (lo hi : Int) (v : Bool) (hv : (xs.all fun x => inB x lo hi) = v) (A : Option Addr) (b o c B : Nat) (w : World) (hn : len ≤ 2000000) (hB : B ≤ w.heap.size) (hR : IntsR w B b o A xs) :
    Calls Try.prog 118 #[.slice A len c, .int .i64 lo, .int .i64 hi] w fun e w' => e = .returned (.bool v) ∧ Below w.heap.size w w' := by
  subst hlen; subst hv
  exact allIn_c xs lo hi A b o c B w hn hB hR

set_option maxHeartbeats 2000000 in
set_option maxRecDepth 100000 in
theorem ringOk_c (n : Int) (bs : List Bd) (r : List Nat) (i j : Int) (hr : path ⟨n, bs⟩ i j r) (h0 : 0 < r.length) (h16 : r.length ≤ 16) (hp : planOk ⟨n, bs⟩ = true) (A A' : Option Addr) (b o c b' o' c' B : Nat) (w : World) (hB : B ≤ w.heap.size) (hR : BdsR w B b o A bs) (hI : IntsR w B b' o' A' (ints r)) :
    Calls Try.prog 86 #[.agg #[.int .i64 n, .slice A bs.length c], .slice A' r.length c'] w fun e w' => e = .returned (.bool (decide (i = j))) ∧ Below w.heap.size w w' := by
  have hD := po_new (t := 32) (n := n) (c := c) (Below.refl w.heap.size w) (hR.more hB)
  have hX := (hI.below ((show Below w.heap.size w (w.alloc (.cells #[.int .i64 n, .slice A bs.length c] 32)) by go_grown).mono hB)).more (Nat.le_trans hB hD.bel.size)
  clear hR hI hB
  have hl := ints_len r
  have hbl : bs.length ≤ 16 := (planOk_iff.1 hp).2.1
  have hbl2 : bs.length ≤ 2000000 := by omega
  obtain rfl := hX.addr (by omega)
  have h1 : inB (r.length : Int) 1 16 = true := inB_iff.2 ⟨by omega, by omega⟩
  have hw0 : IntKind.i64.wrap ((bs.length : Int) - 1) = (bs.length : Int) - 1 := IntWalk.i64_in _ (by omega)
  have h2 : ((ints r).all fun x => inB x 0 ((bs.length : Int) - 1)) = true := by
    rw [List.all_eq_true]
    intro x hx
    obtain ⟨a, ha, rfl⟩ := List.mem_map.1 hx
    have := path_all hr a ha
    dsimp only at this
    exact inB_iff.2 ⟨by omega, by omega⟩
  have hw1 : IntKind.i64.wrap ((r.length : Int) - 1) = ((r.length - 1 : Nat) : Int) := by rw [show ((r.length - 1 : Nat) : Int) = (r.length : Int) - 1 by omega]; exact IntWalk.i64_in _ (by omega)
  obtain ⟨la, _, hla, hla2, _, _, hlt⟩ := path_at hr (show r.length - 1 < r.length by omega)
  have hlj : (bdAt ⟨n, bs⟩ la).t = j := by
    rw [List.drop_of_length_le (by omega)] at hlt
    exact hlt
  have hz : (r.length - 1 : Nat) < (r.length : Nat) := by omega
  have hz1 : ((r.length - 1 : Nat) : Int) < (r.length : Int) := by omega
  have hz2 : (la : Int) < (bs.length : Int) := by dsimp only at hla2; omega
  have Hp := hide hp
  have H1 := hide h1
  have H2 := hide h2
  have Hl := hide hl
  have Hr := hide hr
  clear hp h1 h2 hl hr hlt
  go_enter Try.func86, Try.ntmps86
  go_upto_region 1 with fail
  generalize w.alloc (.cells #[.int .i64 n, .slice A bs.length c] 32) = W at hD hX ⊢
  have p0 := hD.c0
  have p1 := hD.c1
  go_upto_region 3 with (first
    | (go_at_call 38; go_fit (planOk_c ⟨n, bs⟩ A b o c _ _ hbl2 (Nat.le_refl _) hD.rd); rintro e w1 ⟨rfl, hb1⟩; rw [Hp.out]; replace hD := hD.below hb1; replace hX := (hX.below hb1).more hb1.size; clear p0 p1; have p0 := hD.c0; have p1 := hD.c1)
    | (go_at_call 71; go_fit (in_c _ _ _ _); rintro e w2 ⟨rfl, rfl⟩; rw [H1.out])
    | (go_at_call 118; go_fit (allIn_l (ints r) r.length Hl.out 0 ((bs.length : Int) - 1) true H2.out _ b' o' c' _ _ (by omega) (Nat.le_refl _) hX); rintro e w3 ⟨rfl, hb3⟩; replace hD := hD.below hb3; replace hX := (hX.below hb3).more hb3.size; clear p0 p1; have p0 := hD.c0; have p1 := hD.c1))
  obtain rfl := hD.rd.addr (by omega)
  have x0 := hX.cell (r.length - 1) (by rw [Hl.out]; omega)
  rw [ints_at hla] at x0
  have y0 := hD.rd.c1 la _ (bd_at (n := n) hla2)
  rw [hlj] at y0
  go_quiet (fail)
  have hd : Below w3.heap.size w3 (w3.drewN nq) := ⟨rfl, rfl, rfl, Nat.le_refl _, fun _ _ => rfl⟩
  replace hD := hD.below hd
  replace hX := (hX.below hd).more hd.size
  generalize w3.drewN nq = w4 at hD hX ⊢
  clear p0 p1 x0 y0 hd hla hla2 hlj hz hz1 hz2 hw1 hw0
  by_cases hij : i = j
  · subst hij
    go_wp2_with fail
    go_loopg [5, 39] r.length (fun gh s5 s39 wr => ∃ (k : Nat) (u : Int), k ≤ r.length ∧ gh = r.length - k ∧ s39 = .int .i64 k ∧ s5 = .int .i64 u ∧ Hid (path ⟨n, bs⟩ u i (r.drop k)) ∧ PO w wr w.heap.size b o n (some ⟨b, o, none⟩) c bs ∧ IntsR wr wr.heap.size b' o' (some ⟨b', o', none⟩) (ints r))
    case atStart => exact ⟨0, i, Nat.zero_le _, rfl, rfl, rfl, Hr.out, hD, hX⟩
    case round =>
      clear hD hX
      obtain ⟨k, u, hk, rfl, rfl, rfl, Hu, hD, hX⟩ := hrel
      by_cases hlt : k < r.length
      · have hlt' : (k : Int) < (r.length : Int) := by omega
        have hu := Hu.out
        rw [List.drop_eq_getElem_cons hlt] at hu
        obtain ⟨ha1, ha2, ha3⟩ := hu
        have hat : r[k]? = some r[k] := List.getElem?_eq_getElem hlt
        have x0 := hX.cell k (by rw [Hl.out]; exact hlt)
        rw [ints_at hat] at x0
        generalize r[k] = a at ha1 ha2 ha3 hat x0
        have haz : (a : Int) < (bs.length : Int) := by dsimp only at ha1; omega
        have y0 := hD.rd.c0 a _ (bd_at (n := n) ha1)
        have y1 := hD.rd.c1 a _ (bd_at (n := n) ha1)
        rw [ha2] at y0
        obtain ⟨v, hv⟩ : ∃ v, (bdAt ⟨n, bs⟩ a).t = v := ⟨_, rfl⟩
        rw [hv] at y1 ha3
        have p0 := hD.c0
        have p1 := hD.c1
        have H3 := hide ha3
        clear hv ha2 ha3 hat
        go_wp2_with fail
        go_roundg (r.length - (k + 1))
        case measure => go_light; omega
        case rel => go_light; exact ⟨k + 1, v, by omega, rfl, by go_num, rfl, H3, hD, hX⟩
      · go_wp2_with fail
        go_ret
        exact ⟨by simp, hD.bel⟩
  · go_wp2_with fail
    go_loopg [5, 39] r.length (fun gh s5 s39 wr => s39 = .int .i64 0 ∧ s5 = .int .i64 j ∧ PO w wr w.heap.size b o n (some ⟨b, o, none⟩) c bs ∧ IntsR wr wr.heap.size b' o' (some ⟨b', o', none⟩) (ints r))
    case atStart => exact ⟨rfl, rfl, hD, hX⟩
    case round =>
      clear hD hX
      obtain ⟨rfl, rfl, hD, hX⟩ := hrel
      have hlt' : (0 : Int) < (r.length : Int) := by omega
      have hu := Hr.out
      rw [← List.drop_zero (l := r), List.drop_eq_getElem_cons h0] at hu
      obtain ⟨ha1, ha2, ha3⟩ := hu
      have hat : r[0]? = some r[0] := List.getElem?_eq_getElem h0
      have x0 := hX.cell 0 (by rw [Hl.out]; exact h0)
      rw [ints_at hat] at x0
      generalize r[0] = a at ha1 ha2 ha3 hat x0
      have haz : (a : Int) < (bs.length : Int) := by dsimp only at ha1; omega
      have y0 := hD.rd.c0 a _ (bd_at (n := n) ha1)
      rw [ha2] at y0
      simp only [Nat.add_zero] at x0
      have p0 := hD.c0
      have p1 := hD.c1
      have hij' : (i == j) = false := by simpa using hij
      clear ha2 ha3 hat
      go_wp2_with fail
      go_ret
      exact ⟨by simp [hij], hD.bel⟩

set_option maxHeartbeats 2000000 in
set_option maxRecDepth 100000 in
theorem ringSum_c (n : Int) (bs : List Bd) (r : List Nat) (i : Int) (s : Int) (hs : sumR ⟨n, bs⟩ r = s) (hr : path ⟨n, bs⟩ i i r) (h0 : 0 < r.length) (h16 : r.length ≤ 16) (hp : planOk ⟨n, bs⟩ = true) (A A' : Option Addr) (b o c b' o' c' B : Nat) (w : World) (hB : B ≤ w.heap.size) (hR : BdsR w B b o A bs) (hI : IntsR w B b' o' A' (ints r)) :
    Calls Try.prog 34 #[.agg #[.int .i64 n, .slice A bs.length c], .slice A' r.length c'] w fun e w' => e = .returned (.tuple #[.int .i64 s, .bool true]) ∧ Below w.heap.size w w' := by
  have hD := po_new (t := 32) (n := n) (c := c) (Below.refl w.heap.size w) (hR.more hB)
  have hX := (hI.below ((show Below w.heap.size w (w.alloc (.cells #[.int .i64 n, .slice A bs.length c] 32)) by go_grown).mono hB)).more (Nat.le_trans hB hD.bel.size)
  clear hR hI hB
  have hl := ints_len r
  have hbl : bs.length ≤ 16 := (planOk_iff.1 hp).2.1
  obtain rfl := hX.addr (by omega)
  have hbd : ∀ x ∈ bs, -99 ≤ x.m ∧ x.m ≤ 99 := fun x hx => (bdOk_iff.1 ((planOk_iff.1 hp).2.2 x hx)).2.2
  have Hp := hide hp
  have Hl := hide hl
  have Hr := hide hr
  have Hs := hide hs
  have Hb := hide hbd
  clear hp hl hr hs hbd
  go_enter Try.func34, Try.ntmps34
  go_upto_region 1 with fail
  generalize w.alloc (.cells #[.int .i64 n, .slice A bs.length c] 32) = W at hD hX ⊢
  have p0 := hD.c0
  have p1 := hD.c1
  go_upto_region 5 with (go_at_call 86; go_fit (ringOk_c n bs r i i Hr.out h0 h16 Hp.out A _ b o c b' o' c' _ _ (Nat.le_refl _) hD.rd hX); rintro e w1 ⟨rfl, hb1⟩; simp only [decide_true]; replace hD := hD.below hb1; replace hX := (hX.below hb1).more hb1.size)
  clear p0 p1
  go_loopg [6, 15] r.length (fun gh s6 s15 wr => ∃ (k : Nat) (v : Int), k ≤ r.length ∧ gh = r.length - k ∧ s15 = .int .i64 k ∧ s6 = .int .i64 v ∧ Hid (v + sumR ⟨n, bs⟩ (r.drop k) = s) ∧ (-99 * (k : Int) ≤ v ∧ v ≤ 99 * (k : Int)) ∧ PO w wr w.heap.size b o n A c bs ∧ IntsR wr wr.heap.size b' o' (some ⟨b', o', none⟩) (ints r))
  case atStart => exact ⟨0, 0, Nat.zero_le _, rfl, rfl, rfl, by unfold Hid; rw [List.drop_zero, Hs.out]; omega, by omega, hD, hX⟩
  case round =>
    clear hD hX
    obtain ⟨k, v, hk, rfl, rfl, rfl, Hv, ⟨hv1, hv2⟩, hD, hX⟩ := hrel
    by_cases hlt : k < r.length
    · have hlt' : (k : Int) < (r.length : Int) := by omega
      have hv := Hv.out
      rw [List.drop_eq_getElem_cons hlt] at hv
      simp only [sumR] at hv
      have hat : r[k]? = some r[k] := List.getElem?_eq_getElem hlt
      have ha1 := path_all Hr.out r[k] (List.getElem_mem hlt)
      have x0 := hX.cell k (by rw [Hl.out]; exact hlt)
      rw [ints_at hat] at x0
      generalize r[k] = a at ha1 hat x0 hv
      dsimp only at ha1
      have haz : (a : Int) < (bs.length : Int) := by omega
      obtain rfl := hD.rd.addr (by omega)
      have hba := bd_at (n := n) ha1
      have y2 := hD.rd.c2 a _ hba
      have hm := Hb.out _ (List.mem_of_getElem? hba)
      generalize (bdAt ⟨n, bs⟩ a).m = m at y2 hm hv
      have hwr : IntKind.i64.wrap (v + m) = v + m := IntWalk.i64_in _ (by omega)
      have p0 := hD.c0
      have p1 := hD.c1
      have HV : Hid (v + m + sumR ⟨n, bs⟩ (r.drop (k + 1)) = s) := by unfold Hid; omega
      clear hv hat hba
      go_wp2_with fail
      go_roundg (r.length - (k + 1))
      case measure => go_light; omega
      case rel => go_light; exact ⟨k + 1, v + m, by omega, rfl, by go_num, by first | rfl | rw [hwr], HV, by omega, hD, hX⟩
    · have hv : v = s := by
        have := Hv.out
        rw [List.drop_of_length_le (by omega)] at this
        simp only [sumR] at this
        omega
      subst hv
      go_wp2_with fail
      go_ret2
      exact ⟨rfl, hD.bel⟩
end Go.Proofs.Ytledgblepdjjlaa
