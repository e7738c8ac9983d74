/-
  Projects that are counted, made and compared.
-/
import Derived.Test.YtmgikoaeomieeaaE3a
import Derived.Test.YtmgikoaeomieeaaR60
namespace Go.Proofs.Ytmgikoaeomieeaa
set_option linter.unusedVariables false
set_option linter.unusedSimpArgs false
open Go.RowKit Pp

theorem szIntP_c (l : Int) (A : Option Addr) (n c : Nat) (w : World) (hl : 0 ≤ l ∧ l ≤ 1048576) (hn : n ≤ 9223372036854775807) :
    Calls Try.prog 56 #[.slice A n c, .int .i64 l] w fun e w' => e = .returned (.int .i64 (if l - n < 0 then -1 else l - n)) ∧ w = w' := by
  obtain ⟨hl0, hl1⟩ := hl
  by_cases h : l - (n : Int) < 0
  · rw [if_pos h]
    go_enter Try.func56, Try.ntmps56
    go_wp2_with fail
    go_ret
    exact ⟨rfl, rfl⟩
  · rw [if_neg h]
    go_enter Try.func56, Try.ntmps56
    go_wp2_with fail
    go_ret
    exact ⟨rfl, rfl⟩
/-- What is left of a size. -/
def szV (l : Int) (n m : Nat) : Int := if l - (n : Int) < 0 then -1 else if l - (n : Int) - (m : Int) < 0 then -1 else l - (n : Int) - (m : Int)
theorem szProject_c (l : Int) (A A2 : Option Addr) (n c m c2 : Nat) (w : World) (hl : 0 ≤ l ∧ l ≤ 1048576) (hn : n ≤ 9223372036854775807) (hm : m ≤ 9223372036854775807) :
    Calls Try.prog 22 #[.agg #[.slice A n c, .slice A2 m c2], .int .i64 l] w fun e w' => e = .returned (.int .i64 (szV l n m)) ∧ Below w.heap.size w w' := by
  by_cases h : l - (n : Int) < 0
  · have hv : szV l n m = -1 := by unfold szV; rw [if_pos h]
    rw [hv]
    have H : Hid ((if l - (n : Int) < 0 then -1 else l - (n : Int)) = -1) := if_pos h
    clear h hv
    go_enter Try.func22, Try.ntmps22
    go_wp2_with (go_at_call 56; go_fit (szIntP_c l A n c _ hl hn); rintro e w2 ⟨rfl, rfl⟩; rw [H.out])
    go_ret
    exact ⟨rfl, by go_grown⟩
  · obtain ⟨r, hr⟩ : ∃ r, l - (n : Int) = r := ⟨_, rfl⟩
    have H : Hid ((if l - (n : Int) < 0 then -1 else l - (n : Int)) = r) := by rw [← hr]; exact if_neg h
    have hv : szV l n m = if r - (m : Int) < 0 then -1 else r - (m : Int) := by unfold szV; rw [if_neg h, hr]
    rw [hv]
    rw [hr] at h
    have hrb : 0 ≤ r ∧ r ≤ 1048576 := by omega
    clear hr hv
    by_cases h2 : r - (m : Int) < 0
    · rw [if_pos h2]
      have H2 : Hid ((if r - (m : Int) < 0 then -1 else r - (m : Int)) = -1) := if_pos h2
      clear h2
      go_enter Try.func22, Try.ntmps22
      go_wp2_with (first
        | (go_at_call 56; go_fit (szIntP_c l A n c _ hl hn); rintro e w2 ⟨rfl, rfl⟩; rw [H.out])
        | (go_at_call 56; go_fit (szIntP_c r A2 m c2 _ hrb hm); rintro e w3 ⟨rfl, rfl⟩; rw [H2.out]))
      go_ret
      exact ⟨rfl, by go_grown⟩
    · rw [if_neg h2]
      obtain ⟨r2, hr2⟩ : ∃ r2, r - (m : Int) = r2 := ⟨_, rfl⟩
      have H2 : Hid ((if r - (m : Int) < 0 then -1 else r - (m : Int)) = r2) := by rw [← hr2]; exact if_neg h2
      rw [hr2] at h2 ⊢
      clear hr2
      go_enter Try.func22, Try.ntmps22
      go_wp2_with (first
        | (go_at_call 56; go_fit (szIntP_c l A n c _ hl hn); rintro e w2 ⟨rfl, rfl⟩; rw [H.out])
        | (go_at_call 56; go_fit (szIntP_c r A2 m c2 _ hrb hm); rintro e w3 ⟨rfl, rfl⟩; rw [H2.out]))
      go_ret
      exact ⟨rfl, by go_grown⟩

set_option maxHeartbeats 2000000 in
set_option maxRecDepth 100000 in
theorem toProject_q (L F : List Int) (AL AF : Option Addr) (bl ol cl bf of' cf B : Nat) (w : World) (hll : L.length ≤ 2000000) (hlf : F.length ≤ 2000000) (hB : B ≤ w.heap.size) (hl : IntsR w B bl ol AL L) (hf : IntsR w B bf of' AF F) :
    Calls Try.prog 24 #[.agg #[.slice AL L.length cl, .slice AF F.length cf]] w fun e w' => ∃ A1 c1 g1 A3 c3 g3, e = .returned (.agg #[.slice A1 L.length c1, .slice A3 F.length c3]) ∧ IntsR w' w'.heap.size g1 0 A1 L ∧ IntsR w' w'.heap.size g3 0 A3 F ∧ Below w.heap.size w w' := by
  have hD := pj_new (t := 41) (cl := cl) (cf := cf) hB hl hf
  obtain ⟨Wb, hWb⟩ : ∃ Wb, w.alloc (.cells #[.slice AL L.length cl, .slice AF F.length cf] 41) = Wb := ⟨_, rfl⟩
  rw [hWb] at hD
  have hWs : Wb.heap.size = w.heap.size + 1 := by rw [← hWb]; simp
  have hb : Below Wb.heap.size Wb ((Wb.alloc (.cells #[.slice none 0 0, .slice none 0 0] 25)).alloc (.cells #[.slice none 0 0, .slice none 0 0] 25)) := by go_grown
  obtain ⟨W, hW⟩ : ∃ W, (Wb.alloc (.cells #[.slice none 0 0, .slice none 0 0] 25)).alloc (.cells #[.slice none 0 0, .slice none 0 0] 25) = W := ⟨_, rfl⟩
  have y0 : W.cell? ⟨Wb.heap.size, 0, none⟩ = some (.slice none 0 0) := by rw [← hW]; simp [go_sem]
  have y1 : W.cell? ⟨Wb.heap.size, 1, none⟩ = some (.slice none 0 0) := by rw [← hW]; simp [go_sem]
  have yf : ∀ i, W.frozen? ⟨Wb.heap.size, i, none⟩ = false := fun i => by rw [← hW]; simp [go_sem]
  have x0 : W.cell? ⟨Wb.heap.size + 1, 0, none⟩ = some (.slice none 0 0) := by rw [← hW]; simp [go_sem]
  have x1 : W.cell? ⟨Wb.heap.size + 1, 1, none⟩ = some (.slice none 0 0) := by rw [← hW]; simp [go_sem]
  have xf : ∀ i, W.frozen? ⟨Wb.heap.size + 1, i, none⟩ = false := fun i => by rw [← hW]; simp [go_sem]
  have hXl : Wb.heap.size + 1 < W.heap.size := by rw [← hW]; simp
  rw [hW] at hb
  rw [hWs] at y0 y1 yf x0 x1 xf hXl
  have Hb := hide hb
  rw [hWs] at hb
  have hWe : ((w.alloc (.cells #[.slice AL L.length cl, .slice AF F.length cf] 41)).alloc (.cells #[.slice none 0 0, .slice none 0 0] 25)).alloc (.cells #[.slice none 0 0, .slice none 0 0] 25) = W := by rw [hWb]; exact hW
  have hDW := hD.below Hb.out
  have hBW : Below (w.heap.size + 1) Wb W := hb
  clear hl hf hB hWb hW hb
  go_enter Try.func24, Try.ntmps24
  go_upto_region 2 with fail
  try rw [hWe]
  clear hWe
  have hDX : w.heap.size ≠ w.heap.size + 1 + 1 := by omega
  have hXY : w.heap.size + 1 ≠ w.heap.size + 1 + 1 := by omega
  have hYw : w.heap.size + 1 ≤ w.heap.size + 1 := by omega
  have hXw : w.heap.size + 1 ≤ w.heap.size + 1 + 1 := by omega
  generalize w.heap.size + 1 + 1 = X at x0 x1 xf hXl hDX hXY hXw ⊢
  have p0 := hDW.c0
  go_upto_region 3 with (go_at_call 59; go_fit (toIntS_q AL bl ol cl _ L _ hll (Nat.le_refl _) hDW.rl); rintro e w2 ⟨A1, c1, g1, rfl, hr1, own1, hb2⟩; have v0 := ((bcell hb2).1 X 0 hXl).trans x0; have vf0 := ((bcell hb2).2 X 0 hXl).trans (xf 0))
  have hn1 : ∀ q, (Value.slice A1 L.length c1).ownBlock = some q → W.heap.size ≤ q := fun q h => (own1.lt q h).1
  have hneX1 : (Value.slice A1 L.length c1).ownBlock ≠ some X := fun e => by have := hn1 _ e; omega
  have hneY1 : (Value.slice A1 L.length c1).ownBlock ≠ some (w.heap.size + 1) := fun e => by have := hn1 _ e; omega
  have hB2 := hBW.trans (hb2.mono (by omega))
  have hB3 := hB2.setCell (p := ⟨X, 0, none⟩) hXw (.slice A1 L.length c1)
  have own3 : OwnI W.heap.size (w2.setCell ⟨X, 0, none⟩ (.slice A1 L.length c1)) (.slice A1 L.length c1) L := own_set (p := ⟨X, 0, none⟩) own1 hneX1 _
  have u0 : (w2.setCell ⟨X, 0, none⟩ (.slice A1 L.length c1)).cell? ⟨X, 0, none⟩ = some (.slice A1 L.length c1) := World.cell?_setCell_same _ _ _ v0
  have u1 : (w2.setCell ⟨X, 0, none⟩ (.slice A1 L.length c1)).cell? ⟨X, 1, none⟩ = some (.slice none 0 0) := (World.cell?_setCell_other (h := by simp) ..).trans (((bcell hb2).1 X 1 hXl).trans x1)
  have uf1 : (w2.setCell ⟨X, 0, none⟩ (.slice A1 L.length c1)).frozen? ⟨X, 1, none⟩ = false := by
    have := ((bcell hb2).2 X 1 hXl).trans (xf 1)
    rw [← this]; simp
  have hYs : w.heap.size + 1 < W.heap.size := by omega
  have t0 : (w2.setCell ⟨X, 0, none⟩ (.slice A1 L.length c1)).cell? ⟨w.heap.size + 1, 0, none⟩ = some (.slice none 0 0) := (set_other (by dsimp only; omega)).trans (((bcell hb2).1 _ 0 hYs).trans y0)
  have t1 : (w2.setCell ⟨X, 0, none⟩ (.slice A1 L.length c1)).cell? ⟨w.heap.size + 1, 1, none⟩ = some (.slice none 0 0) := (set_other (by dsimp only; omega)).trans (((bcell hb2).1 _ 1 hYs).trans y1)
  have tf : ∀ i, (w2.setCell ⟨X, 0, none⟩ (.slice A1 L.length c1)).frozen? ⟨w.heap.size + 1, i, none⟩ = false := fun i => by
    have := ((bcell hb2).2 _ i hYs).trans (yf i)
    rw [← this]; simp
  have hs3 : W.heap.size ≤ (w2.setCell ⟨X, 0, none⟩ (.slice A1 L.length c1)).heap.size := by have := hb2.size; simpa using this
  have HB3 := hide hB3
  clear hB2 hB3 hr1 hDW p0 hBW x0 x1 xf y0 y1 yf v0 vf0 hb2 own1
  generalize w2.setCell ⟨X, 0, none⟩ (.slice A1 L.length c1) = w3 at HB3 own3 u0 u1 uf1 t0 t1 tf hs3 ⊢
  have hD3 := hD.below (show Below Wb.heap.size Wb w3 by rw [hWs]; exact HB3.out)
  have p1 := hD3.c1
  have hX3 : X < w3.heap.size := by omega
  have hY3 : w.heap.size + 1 < w3.heap.size := by omega
  go_upto_region 4 with (go_at_call 59; go_fit (toIntS_q AF bf of' cf _ F _ hlf (Nat.le_refl _) hD3.rf); rintro e w4 ⟨A3, c3, g3, rfl, hr3, own4, hb4⟩; have v0 := ((bcell hb4).1 X 0 hX3).trans u0; have v1 := ((bcell hb4).1 X 1 hX3).trans u1; have vf1 := ((bcell hb4).2 X 1 hX3).trans uf1)
  have hn3 : ∀ q, (Value.slice A3 F.length c3).ownBlock = some q → w3.heap.size ≤ q := fun q h => (own4.lt q h).1
  have hneX3 : (Value.slice A3 F.length c3).ownBlock ≠ some X := fun e => by have := hn3 _ e; omega
  have hneY3 : (Value.slice A3 F.length c3).ownBlock ≠ some (w.heap.size + 1) := fun e => by have := hn3 _ e; omega
  have s0 : (w4.setCell ⟨X, 1, none⟩ (.slice A3 F.length c3)).cell? ⟨X, 0, none⟩ = some (.slice A1 L.length c1) := (World.cell?_setCell_other (h := by simp) ..).trans v0
  have s1 : (w4.setCell ⟨X, 1, none⟩ (.slice A3 F.length c3)).cell? ⟨X, 1, none⟩ = some (.slice A3 F.length c3) := World.cell?_setCell_same _ _ _ v1
  have q0 : (w4.setCell ⟨X, 1, none⟩ (.slice A3 F.length c3)).cell? ⟨w.heap.size + 1, 0, none⟩ = some (.slice none 0 0) := (set_other (by dsimp only; omega)).trans (((bcell hb4).1 _ 0 hY3).trans t0)
  have q1 : (w4.setCell ⟨X, 1, none⟩ (.slice A3 F.length c3)).cell? ⟨w.heap.size + 1, 1, none⟩ = some (.slice none 0 0) := (set_other (by dsimp only; omega)).trans (((bcell hb4).1 _ 1 hY3).trans t1)
  have qf : ∀ i, (w4.setCell ⟨X, 1, none⟩ (.slice A3 F.length c3)).frozen? ⟨w.heap.size + 1, i, none⟩ = false := fun i => by
    have := ((bcell hb4).2 _ i hY3).trans (tf i)
    rw [← this]; simp
  have qf0 := qf 0
  have qf1 := qf 1
  have o1 : OwnI W.heap.size (w4.setCell ⟨X, 1, none⟩ (.slice A3 F.length c3)) (.slice A1 L.length c1) L := own_set (p := ⟨X, 1, none⟩) (own_below own3 hb4) hneX1 _
  have o3 : OwnI w3.heap.size (w4.setCell ⟨X, 1, none⟩ (.slice A3 F.length c3)) (.slice A3 F.length c3) F := own_set (p := ⟨X, 1, none⟩) own4 hneX3 _
  have hB5 := (HB3.out.trans (hb4.mono (by omega))).setCell (p := ⟨X, 1, none⟩) hXw (.slice A3 F.length c3)
  have HB5 := hide hB5
  clear own3 own4 hr3 hb4 v0 v1 vf1 hD3 p1 t0 t1 tf u0 u1 uf1 qf hB5
  generalize w4.setCell ⟨X, 1, none⟩ (.slice A3 F.length c3) = w5 at s0 s1 q0 q1 qf0 qf1 o1 o3 HB5 ⊢
  obtain ⟨r0, r1⟩ := two_cells (a := .slice A1 L.length c1) (b := .slice A3 F.length c3) q0 q1
  have o1' := own_set (p := ⟨w.heap.size + 1, 1, none⟩) (own_set (p := ⟨w.heap.size + 1, 0, none⟩) o1 hneY1 (.slice A1 L.length c1)) hneY1 (.slice A3 F.length c3)
  have o3' := own_set (p := ⟨w.heap.size + 1, 1, none⟩) (own_set (p := ⟨w.heap.size + 1, 0, none⟩) o3 hneY3 (.slice A1 L.length c1)) hneY3 (.slice A3 F.length c3)
  have hB7 := (HB5.out.setCell (p := ⟨w.heap.size + 1, 0, none⟩) hYw (.slice A1 L.length c1)).setCell (p := ⟨w.heap.size + 1, 1, none⟩) hYw (.slice A3 F.length c3)
  have HB7 := hide (hD.bel.trans (hB7.mono (by omega)))
  clear hB7
  go_wp2_with fail
  refine bodyPost_ret (v := .agg #[.slice A1 L.length c1, .slice A3 F.length c3]) (by simp [results, Try.results24, go_sem, r0, r1]) rfl ?_
  obtain ⟨g1, hr1⟩ := own_IntsR o1'
  obtain ⟨g3, hr3⟩ := own_IntsR o3'
  first | exact ⟨A1, c1, g1, A3, c3, g3, rfl, hr1, hr3, HB7.out⟩ | exact ⟨A1, c1, A3, c3, rfl, ⟨g1, hr1⟩, ⟨g3, hr3⟩, HB7.out⟩ | exact ⟨A1, c1, g1, A3, c3, rfl, hr1, ⟨g3, hr3⟩, HB7.out⟩

set_option maxHeartbeats 2000000 in
set_option maxRecDepth 100000 in
theorem eqProject_yes (L F : List Int) (AL AF AL' AF' : Option Addr) (bl ol cl bf of' cf bl' ol' cl' bf' of'' cf' B : Nat) (w : World) (hll : L.length ≤ 2000000) (hlf : F.length ≤ 2000000) (hB : B ≤ w.heap.size) (hl : IntsR w B bl ol AL L) (hf : IntsR w B bf of' AF F) (hl' : IntsR w B bl' ol' AL' L) (hf' : IntsR w B bf' of'' AF' F) :
    Calls Try.prog 26 #[.agg #[.slice AL L.length cl, .slice AF F.length cf], .agg #[.slice AL' L.length cl', .slice AF' F.length cf']] w fun e w' => e = .returned (.bool true) ∧ Below w.heap.size w w' := by
  have hD := (pj_new (t := 25) (cl := cl) (cf := cf) hB hl hf).alloc (.cells #[.slice AL' L.length cl', .slice AF' F.length cf'] 25)
  have hbel0 : Below w.heap.size w (w.alloc (.cells #[.slice AL L.length cl, .slice AF F.length cf] 25)) := by go_grown
  have hE := pj_law (t := 25) (cl := cl') (cf := cf') hbel0 ((hl'.more hB).below hbel0 |>.more hbel0.size) ((hf'.more hB).below hbel0 |>.more hbel0.size)
  rw [show (w.alloc (.cells #[.slice AL L.length cl, .slice AF F.length cf] 25)).heap.size = w.heap.size + 1 by simp] at hE
  clear hl hf hl' hf' hB hbel0
  go_enter Try.func26, Try.ntmps26
  go_upto_region 1 with fail
  generalize (w.alloc (.cells #[.slice AL L.length cl, .slice AF F.length cf] 25)).alloc (.cells #[.slice AL' L.length cl', .slice AF' F.length cf'] 25) = W at hD hE ⊢
  generalize w.heap.size + 1 = X at hE ⊢
  have p0 := hD.c0
  have e0 := hE.c0
  go_upto_region 3 with (go_at_call 63; go_fit (eqIntS_yes L AL AL' bl ol cl bl' ol' cl' _ _ hll (Nat.le_refl _) hD.rl hE.rl); rintro e w2 ⟨rfl, hb2⟩)
  have hD2 := hD.below hb2
  have hE2 := hE.below hb2
  clear hD hE p0 e0 hb2
  have p1 := hD2.c1
  have e1 := hE2.c1
  go_wp2_with (go_at_call 63; go_fit (eqIntS_yes F AF AF' bf of' cf bf' of'' cf' _ _ hlf (Nat.le_refl _) hD2.rf hE2.rf); rintro e w3 ⟨rfl, hb3⟩)
  go_ret
  exact ⟨rfl, bthen hD2.bel hb3⟩
end Go.Proofs.Ytmgikoaeomieeaa
