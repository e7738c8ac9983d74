/-
 impl.DeskOk.
-/
import Derived.Test.YtmnajkhoacogjaaGreatDoorR73
import Derived.Test.YtmnajkhoacogjaaGreatDoorL1
namespace Go.Proofs.YtmnajkhoacogjaaGreatDoor
set_option linter.unusedVariables false
set_option linter.unusedSimpArgs false
open Go Go.RowKit Pp

theorem desk_bad' {d : Dk} {k : Nat} {p : Pl} (hx : d.past[k]? = some p) (hp : planOk p = false) : deskOk d = false := by
 rw [Bool.eq_false_iff]
 intro h
 have := (deskOk_iff.1 h).1 p (List.mem_of_getElem? hx)
 rw [hp] at this
 cases this
theorem desk_all' {d : Dk} (h : ∀ p ∈ d.past, planOk p = true) : deskOk d = (planOk d.now && decide (d.past.length ≤ 8)) := by
 unfold deskOk
 rw [show d.past.all planOk = true from List.all_eq_true.2 h, Bool.true_and]
set_option maxHeartbeats 4000000 in
set_option maxRecDepth 100000 in
theorem deskOk_c (n : Int) (bs : List Bd) (ps : List Pl) (A A2 : Option Addr) (b o c b2 o2 c2 B : Nat) (w : World) (h16 : bs.length ≤ 2000000) (hps : ps.length ≤ 2000000) (hpl : ∀ p ∈ ps, p.bs.length ≤ 2000000) (hB : B ≤ w.heap.size) (hR : BdsR w B b o A bs) (hP : PlsR w B b2 o2 A2 ps) :
  Calls Tryz.prog 23 #[.agg #[.int .i64 n, .slice A bs.length c, .slice A2 ps.length c2]] w fun e w' => e = .returned (.bool (deskOk ⟨⟨n, bs⟩, ps⟩)) ∧ Below w.heap.size w w' := by
 have hD := dkb_new (t := 37) (n := n) (c := c) (c2 := c2) (Below.refl w.heap.size w) (hR.more hB) (hP.more hB)
 have Hpl := hide hpl
 clear hR hP hB hpl
 obtain ⟨r, hr⟩ : ∃ r, deskOk ⟨⟨n, bs⟩, ps⟩ = r := ⟨_, rfl⟩
 rw [hr]
 have Hr := hide hr
 clear hr
 go_enter Tryz.func23, Tryz.ntmps23
 go_upto_region 1 with fail
 generalize w.alloc (.cells #[.int .i64 n, .slice A bs.length c, .slice A2 ps.length c2] 37) = W at hD ⊢
 have e2 := hD.c2
 go_wp2_with fail
 clear e2
 go_loopg [8] (ps.length + 1) (fun gh s wr => ∃ (k : Nat), k ≤ ps.length ∧ gh = ps.length + 1 - k ∧ s = .int .i64 k ∧ Hid (∀ p ∈ ps.take k, planOk p = true) ∧ DkB w wr w.heap.size n b o A c bs b2 o2 A2 c2 ps)
 case atStart => exact ⟨0, Nat.zero_le _, rfl, rfl, (fun p hp => by simp at hp), hD⟩
 case round =>
  clear hD
  obtain ⟨k, hk, rfl, rfl, HA, hD⟩ := hrel
  have p2 := hD.c2
  by_cases hlt : k < ps.length
  ·have hx := List.getElem?_eq_getElem hlt
   obtain rfl := hD.rp.addr (by omega)
   have hlt2 := hD.rp.lt (by omega)
   obtain ⟨Ap, bp, op, cp, d0, d1, hrp⟩ := hD.rp.row k _ hx
   have hpl := Hpl.out _ (List.mem_of_getElem? hx)
   have htk : ps.take (k + 1) = ps.take k ++ [ps[k]] := by rw [List.take_add_one, hx]; rfl
   have Htk := hide (And.intro htk hx)
   have hkz : (k : Int) < (ps.length : Int) := by omega
   clear htk hx
   generalize ps[k] = q at d0 d1 hrp hpl Htk
   have hal : Below wr.heap.size wr (wr.alloc (.cells #[.int .i64 q.n, .slice Ap q.bs.length cp] 34)) := by go_grown
   have hD3 := hD.below hal
   have hrp3 := (hrp.below hal).more hal.size
   cases hq : planOk q
   ·have hf : deskOk ⟨⟨n, bs⟩, ps⟩ = false := desk_bad' Htk.out.2 hq
    obtain rfl : r = false := Hr.out.symm.trans hf
    have Hq := hide hq
    clear hq hf
    go_wp2_with (go_at_call 58; go_fit (planOk_c q Ap bp op cp _ _ hpl (Nat.le_refl _) hrp3); rintro e w2 ⟨rfl, hb⟩; rw [Hq.out])
    go_ret
    exact ⟨rfl, bthen hD3.bel hb⟩
   ·have HA2 : Hid (∀ p ∈ ps.take (k + 1), planOk p = true) := fun p hp => by
     rw [Htk.out.1] at hp
     rcases List.mem_append.1 hp with h | h
     ·exact HA.out p h
     ·rw [List.mem_singleton.1 h]; exact hq
    have Hq := hide hq
    clear hq
    go_wp2_with (go_at_call 58; go_fit (planOk_c q Ap bp op cp _ _ hpl (Nat.le_refl _) hrp3); rintro e w2 ⟨rfl, hb⟩; rw [Hq.out]; have hD2 := hD3.below hb)
    go_roundg (ps.length + 1 - (k + 1))
    case measure => go_light; omega
    case rel => go_light; exact ⟨k + 1, by omega, rfl, by go_num, HA2, hD2⟩
  ·obtain rfl : k = ps.length := by omega
   have hA := HA.out
   rw [List.take_length] at hA
   have hf := desk_all' (d := ⟨⟨n, bs⟩, ps⟩) hA
   rw [Hr.out] at hf
   dsimp only at hf
   have p0 := hD.c0
   have p1 := hD.c1
   cases hq : planOk ⟨n, bs⟩
   ·rw [hq] at hf
    obtain rfl : r = false := hf
    have Hq := hide hq
    clear hq hA
    go_wp2_with (go_at_call 58; go_fit (planOk_c ⟨n, bs⟩ A b o c _ _ h16 (Nat.le_refl _) hD.rd); rintro e w2 ⟨rfl, hb⟩; rw [Hq.out]; have hD2 := hD.below hb)
    go_ret
    exact ⟨rfl, hD2.bel⟩
   ·rw [hq, Bool.true_and] at hf
    have Hf := hide hf
    have Hq := hide hq
    clear hq hf hA
    by_cases h8 : ps.length ≤ 8
    ·have h8z : (ps.length : Int) ≤ 8 := by omega
     go_wp2_with (go_at_call 58; go_fit (planOk_c ⟨n, bs⟩ A b o c _ _ h16 (Nat.le_refl _) hD.rd); rintro e w2 ⟨rfl, hb⟩; rw [Hq.out]; have hD2 := hD.below hb; have p2' := hD2.c2)
     go_ret
     exact ⟨by rw [Hf.out, decide_eq_true h8]; rfl, hD2.bel⟩
    ·have h8z : ¬ (ps.length : Int) ≤ 8 := by omega
     go_wp2_with (go_at_call 58; go_fit (planOk_c ⟨n, bs⟩ A b o c _ _ h16 (Nat.le_refl _) hD.rd); rintro e w2 ⟨rfl, hb⟩; rw [Hq.out]; have hD2 := hD.below hb; have p2' := hD2.c2)
     go_ret
     exact ⟨by rw [Hf.out, decide_eq_false h8]; show Ending.returned (.bool (decide ((ps.length : Int) ≤ 8))) = _; rw [decide_eq_false (show ¬ (ps.length : Int) ≤ 8 by omega)], hD2.bel⟩
end Go.Proofs.YtmnajkhoacogjaaGreatDoor
