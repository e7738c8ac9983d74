/-
  impl: BadRing of a plan that does not fit.
-/
import Derived.Test.YtledgblepdjjlaaL41
import Derived.Test.YtledgblepdjjlaaL44
import Derived.Test.YtledgblepdjjlaaL2c
namespace Go.Proofs.Ytledgblepdjjlaa
set_option linter.unusedVariables false
set_option linter.unusedSimpArgs false
open Go.RowKit Pp

attribute [local go_sem] neq_nil
set_option maxHeartbeats 4000000 in
set_option maxRecDepth 100000 in
theorem badRing2_q (n : Int) (bs : List Bd) (hp : planOk ⟨n, bs⟩ = true) (hf : fits ⟨n, bs⟩ = false) (A : Option Addr) (b o c B : Nat) (w : World) (hB : B ≤ w.heap.size) (hR : BdsR w B b o A bs) :
    Calls Try.prog 33 #[.agg #[.int .i64 n, .slice A bs.length c]] w fun e w' => ∃ (r : List Nat) (k : Int) (b' o' c' : Nat), e = .returned (.tuple #[.slice (some ⟨b', o', none⟩) r.length c', .bool true]) ∧ path ⟨n, bs⟩ k k r ∧ sumR ⟨n, bs⟩ r < 0 ∧ (0 < r.length ∧ r.length ≤ 6) ∧ IntsR w' w'.heap.size b' o' (some ⟨b', o', none⟩) (ints r) ∧ Below w.heap.size w w' := by
  obtain ⟨N, rfl⟩ : ∃ N : Nat, n = (N : Int) := ⟨n.toNat, by have := (planOk_iff.1 hp).1; dsimp only at this; omega⟩
  have hbl : bs.length ≤ 16 := (planOk_iff.1 hp).2.1
  have hbl2 : bs.length ≤ 2000000 := by omega
  have hD := po_new (t := 32) (n := (N : Int)) (c := c) (Below.refl w.heap.size w) (hR.more hB)
  have Hp := hide hp
  have Hf := hide hf
  clear hR hB hp hf
  go_enter Try.func33, Try.ntmps33
  go_upto_region 1 with fail
  generalize w.alloc (.cells #[.int .i64 (N : Int), .slice A bs.length c] 32) = W at hD ⊢
  have p0 := hD.c0
  have p1 := hD.c1
  go_upto_region 3 with (first
    | (go_at_call 38; go_fit (planOk_c ⟨(N : Int), bs⟩ A b o c _ _ hbl2 (Nat.le_refl _) hD.rd); rintro e w2 ⟨rfl, hb⟩; rw [Hp.out]; replace hD := hD.below hb; clear p0 p1; have p0 := hD.c0; have p1 := hD.c1)
    | (go_at_call 30; go_fit (fitsOk_c ⟨(N : Int), bs⟩ A b o c _ _ hbl2 (Nat.le_refl _) hD.rd); rintro e w3 ⟨rfl, hb⟩; rw [Hf.out]; replace hD := hD.below hb))
  clear p0 p1
  go_wp2_with fail
  go_loopg [4] 7 (fun gh s wr => ∃ L : Nat, 1 ≤ L ∧ L ≤ 7 ∧ gh = 8 - L ∧ s = .int .i64 L ∧ PO w wr w.heap.size b o (N : Int) A c bs ∧ Hid (∀ (l : Nat) (i : Int) (r : List Nat), 1 ≤ l → l < L → r.length = l → path ⟨(N : Int), bs⟩ i i r → 0 ≤ sumR ⟨(N : Int), bs⟩ r))
  case atStart => exact ⟨1, Nat.le_refl _, by omega, rfl, rfl, hD, fun l i r h1 h2 => by omega⟩
  case round =>
    clear hD
    obtain ⟨L, hL1, hL7, rfl, rfl, hD, HN⟩ := hrel
    have p0 := hD.c0
    have p1 := hD.c1
    go_upto_region 6 with (go_at_call 84; go_fit (fewestBad_c N bs Hp.out A b o c _ _ (Nat.le_refl _) hD.rd); rintro e w4 ⟨m, rfl, hm, hb⟩; replace hD := hD.below hb; have hLm : L ≤ m := (by
      apply Classical.byContradiction
      intro hno
      exact rings_all Hp.out Hf.out hm (fun l i r h1 h2 h3 h4 => HN.out l i r h1 (by omega) h3 h4)); have hm6 : m ≤ 6 := hm.2.1; have Hm := hide hm; clear hm)
    have hL6 : L ≤ 6 := by omega
    clear p0 p1 hb
    have p0 := hD.c0
    have p1 := hD.c1
    go_upto_region 7 with (go_at_call 85; go_fit (badRing_q (N : Int) bs Hp.out L hL1 hL6 A b o c L [] 0 0 0 none 0 0 0 _ (by simp) rfl rfl (by simp) hD.rd (IntsR.nil _ _ _)); rintro e w5 ⟨v, rfl, hv, hb⟩; replace hD := hD.below hb)
    clear p0 p1 hb
    rcases hv with ⟨rfl, hno⟩ | ⟨rr, k, b', o', c', rfl, r1, r2, r3, r4⟩
    · have HN2 : Hid (∀ (l : Nat) (i : Int) (r : List Nat), 1 ≤ l → l < L + 1 → r.length = l → path ⟨(N : Int), bs⟩ i i r → 0 ≤ sumR ⟨(N : Int), bs⟩ r) := by
        intro l i r h1 h2 h3 h4
        by_cases e : l < L
        · exact HN.out l i r h1 e h3 h4
        · have := hno r (by omega) ⟨i, by simpa using h4⟩
          simpa using this
      clear hno
      go_wp2_with fail
      go_roundg (8 - (L + 1))
      case measure => go_light; omega
      case rel => go_light; exact ⟨L + 1, by omega, by omega, rfl, by go_num, hD, HN2⟩
    · have hrl : 0 < rr.length ∧ rr.length ≤ 6 := by omega
      have R2 := hide r2
      have R3 := hide r3
      have R1 := hide r1
      clear r1 r2 r3
      go_wp2_with fail
      go_ret2
      exact ⟨rr, k, b', o', c', rfl, R2.out, R3.out, hrl, r4, hD.bel⟩
end Go.Proofs.Ytledgblepdjjlaa
