/-
  Chapter 2 of the reference: the closed table, made anew for each third point.
-/
import Derived.Test.YtledgblepdjjlaaS2
namespace Go.Proofs.Ytledgblepdjjlaa
set_option linter.unusedVariables false
set_option linter.unusedSimpArgs false
open Go.RowKit Pp

set_option maxHeartbeats 8000000 in
set_option maxRecDepth 100000 in
theorem l2Closed_c (m : Nat) (bs : List Bd) (A : Option Addr) (b o c B : Nat) (w : World) (hm1 : 1 ≤ m) (hm2 : m ≤ 100) (hn : bs.length ≤ 2000000) (hB : B ≤ w.heap.size) (hR : BdsR w B b o A bs)
    (hlow : ∀ k, k ≤ m → Low m (clo (tab0 bs) k)) :
    Calls Try.prog 116 #[.agg #[.int .i64 m, .slice A bs.length c]] w fun e w' => ∃ ob c1 rb rc, e = .returned (.slice (some ⟨ob, 0, none⟩) m c1) ∧ TabR w' w'.heap.size ob rb rc m (clo (tab0 bs) m) ∧ Below w.heap.size w w' := by
  obtain ⟨i0, hi0, hz0, hz1, hz2⟩ := info_parts infoI
  obtain ⟨i1, hi1, hy0, hy1, hy2⟩ := info_parts infoS'
  have Hlow := hide hlow
  clear hlow
  go_enter Try.func116, Try.ntmps116
  have hbox := BoxP.new w m A bs.length c 32
  go_wp2_with (go_at_call 136; refine (l2Table_c m bs A b o c B _ hm1 hm2 hn (by simp only [World.size_alloc, World.size_drew]; omega) (hR.below ((show Below w.heap.size w _ by go_grown).mono hB))).mono ?_; rintro e W ⟨A1, c1, rb, rc, rfl, hO, hb⟩)
  obtain ⟨ob, rfl, hT⟩ := hO.tab (by omega)
  have hbx := hbox.below hb (by simp)
  have hW0 : Below w.heap.size w W := bthen (by go_grown) hb
  have hsz : w.heap.size < W.heap.size := by have := hb.size; simp only [World.size_alloc] at this; omega
  clear hbox hO hb
  go_loopg [3, 4] m (fun g s kv wr => ∃ k : Nat, k ≤ m ∧ g = m - k ∧ kv = .int .i64 k ∧ Below W.heap.size W wr ∧ ∃ ob c1 rb rc, s = .slice (some ⟨ob, 0, none⟩) m c1 ∧ TabR wr wr.heap.size ob rb rc m (clo (tab0 bs) k))
  case atStart => exact ⟨0, Nat.zero_le _, rfl, rfl, Below.refl _ _, ob, c1, rb, rc, rfl, hT⟩
  case round =>
    clear hT
    obtain ⟨k, hk, rfl, rfl, hb, ob, c1, rb, rc, rfl, hT⟩ := hrel
    obtain ⟨wo, rfl⟩ : ∃ wo : World, wo = wr := ⟨_, rfl⟩
    have hwo := hb.size
    obtain ⟨x0, x1⟩ := hbx.below hb hsz
    by_cases hlt : k < m
    · have hz : (k : Int) < (m : Int) := by omega
      have hL := Hlow.out k hk
      have hle : ∀ i j, clo (tab0 bs) k i j ≤ Far := fun i j => Int.le_trans (clo_le _ _ i j) (tab0_le _ i j).1
      have hrx : Hid (clo (tab0 bs) (k + 1) = relax k (clo (tab0 bs) k)) := rfl
      generalize clo (tab0 bs) k = X at *
      have HL := hide hL
      have Hle := hide hle
      clear hL hle
      go_wp2_with fail
      have hO := rows_none wo.heap.size wo #[] (Nat.le_refl _) rfl m (relax k X)
      go_loopg [5, 6] m (fun g s iv wm => ∃ i : Nat, i ≤ m ∧ g = m - i ∧ iv = .int .i64 i ∧ Below wo.heap.size wo wm ∧ ∃ A2 c2 rb2 rc2, s = .slice A2 i c2 ∧ RowsO wo.heap.size wm A2 c2 i m rb2 rc2 (relax k X))
      case atStart => exact ⟨0, Nat.zero_le _, rfl, rfl, by go_grown, _, _, _, _, rfl, hO⟩
      case round =>
        clear hO
        obtain ⟨i, hi, rfl, rfl, hbm, A2, c2, rb2, rc2, rfl, hO⟩ := hrel
        obtain ⟨wm, rfl⟩ : ∃ wm : World, wm = wr := ⟨_, rfl⟩
        have hwm := hbm.size
        have y0 : wm.cell? ⟨w.heap.size, 0, none⟩ = some (.int .i64 m) := (hbm.cell (p := ⟨w.heap.size, 0, none⟩) (by show w.heap.size < _; omega)).trans x0
        by_cases hlti : i < m
        · have hzi : (i : Int) < (m : Int) := by omega
          have hgl : w.heap.size < wm.heap.size := by omega
          go_wp2_with fail
          go_loopg [7, 8] m (fun g s jv wj => ∃ j : Nat, j ≤ m ∧ g = m - j ∧ jv = .int .i64 j ∧ Below wm.heap.size wm wj ∧ ∃ A3 c3, s = .slice A3 j c3 ∧ wj.ownsRow wm.heap.size 3 1 (.slice A3 j c3) j ((List.range j).map fun q => .int .i64 (relax k X i q)))
          case atStart => exact ⟨0, Nat.zero_le _, rfl, rfl, by go_grown, _, _, rfl, World.ownsRow_made wm #[] 0 (Nat.le_refl _) (by unfold maxLen; omega) rfl⟩
          case round =>
            obtain ⟨j, hj, rfl, rfl, hbj, A3, c3, rfl, hrow⟩ := hrel
            obtain ⟨wj, rfl⟩ : ∃ wj : World, wj = wr := ⟨_, rfl⟩
            have hwj := hbj.size
            have z0 : wj.cell? ⟨w.heap.size, 0, none⟩ = some (.int .i64 m) := (hbj.cell (p := ⟨w.heap.size, 0, none⟩) hgl).trans y0
            have hT' := hT.below (hbm.trans (hbj.mono hwm))
            by_cases hltj : j < m
            · have hzj : (j : Int) < (m : Int) := by omega
              have t1 := hT'.top i hlti
              have t2 := hT'.top k hlt
              have t3 := hT'.row i j hlti hltj
              have t4 := hT'.row i k hlti hlt
              have t5 := hT'.row k j hlt hltj
              have l1 := HL.out i k hlti hlt
              have l2 := HL.out k j hlt hltj
              have l3 := Hle.out i k
              have l4 := Hle.out k j
              have hrv : relax k X i j = if X i k < 100000 ∧ X k j < 100000 then min (X i j) (X i k + X k j) else X i j := rfl
              unfold Far at l3 l4
              clear hT' y0
              generalize X i k = p at *
              generalize X k j = q at *
              generalize X i j = r at *
              have Hrv := hide hrv
              clear hrv
              by_cases g1 : p < 100000
              · by_cases g2 : q < 100000
                · go_wp2_with fail
                  go_region
                  go_wp2_with (at_builtin; refine app_list _ rfl (.tmp 74) (.tmp 76) _ rfl wm.heap.size 3 i0 _ 1 8 Try.underlying28 hi0 hz0 hz1 hz2 rfl (by omega) _ _ _ rfl ((hrow.alloc _).drew) (some ⟨wj.heap.size, 0, none⟩) 1 1 [.int .i64 _] rfl rfl (NewsAt.block (heap_alloc_new wj _)) (by simp [Value.oneCell']) (by omega) (by omega) (by simp; omega) ?_; intro A4 c4 w2 hown2 hg2 hat2)
                  all_goals
                    go_roundg (m - (j + 1))
                    case measure => go_light; omega
                    case rel =>
                      go_light
                      refine ⟨j + 1, by omega, rfl, by go_num, below_app (hbj.alloc hwj _).drew ((hrow.alloc _).drew) hg2 (Nat.le_refl _) (by simp; omega), A4, c4, rfl, ?_⟩
                      rw [List.range_succ, List.map_append, List.map_singleton, Hrv.out, if_pos ⟨g1, g2⟩]
                      have hm : min r (p + q) = if p + q < r then p + q else r := by split <;> omega
                      rw [hm]; exact hown2
                · have g2' : decide (q < 100000) = false := by simp; omega
                  go_wp2_with (at_builtin; refine app_list _ rfl (.tmp 74) (.tmp 76) _ rfl wm.heap.size 3 i0 _ 1 8 Try.underlying28 hi0 hz0 hz1 hz2 rfl (by omega) _ _ _ rfl (hrow.alloc _) (some ⟨wj.heap.size, 0, none⟩) 1 1 [.int .i64 r] rfl rfl (NewsAt.block (heap_alloc_new wj _)) (by simp [Value.oneCell']) (by omega) (by omega) (by simp; omega) ?_; intro A4 c4 w2 hown2 hg2 hat2)
                  go_roundg (m - (j + 1))
                  case measure => go_light; omega
                  case rel =>
                    go_light
                    refine ⟨j + 1, by omega, rfl, by go_num, below_app (hbj.alloc hwj _) (hrow.alloc _) hg2 (Nat.le_refl _) (by simp; omega), A4, c4, rfl, ?_⟩
                    rw [List.range_succ, List.map_append, List.map_singleton, Hrv.out, if_neg (by omega)]
                    exact hown2
              · have g1' : decide (p < 100000) = false := by simp; omega
                go_wp2_with (at_builtin; refine app_list _ rfl (.tmp 74) (.tmp 76) _ rfl wm.heap.size 3 i0 _ 1 8 Try.underlying28 hi0 hz0 hz1 hz2 rfl (by omega) _ _ _ rfl (hrow.alloc _) (some ⟨wj.heap.size, 0, none⟩) 1 1 [.int .i64 r] rfl rfl (NewsAt.block (heap_alloc_new wj _)) (by simp [Value.oneCell']) (by omega) (by omega) (by simp; omega) ?_; intro A4 c4 w2 hown2 hg2 hat2)
                go_roundg (m - (j + 1))
                case measure => go_light; omega
                case rel =>
                  go_light
                  refine ⟨j + 1, by omega, rfl, by go_num, below_app (hbj.alloc hwj _) (hrow.alloc _) hg2 (Nat.le_refl _) (by simp; omega), A4, c4, rfl, ?_⟩
                  rw [List.range_succ, List.map_append, List.map_singleton, Hrv.out, if_neg (by omega)]
                  exact hown2
            · obtain rfl : m = j := by omega
              have hO' := hO.below hbj
              clear hT'
              go_wp2_with (at_builtin; refine app_list _ rfl (.tmp 78) (.tmp 80) _ rfl wo.heap.size 28 i1 _ 1 24 Try.underlying96 hi1 hy0 hy1 hy2 rfl (by omega) _ _ _ rfl (hO'.own.alloc _) (some ⟨wj.heap.size, 0, none⟩) 1 1 [.slice A3 m c3] rfl rfl (NewsAt.block (heap_alloc_new wj _)) (by simp [Value.oneCell']) (by omega) (by omega) (by simp; omega) ?_; intro A4 c4 w2 hown2 hg2 hat2)
              go_roundg (m - (i + 1))
              case measure => go_light; omega
              case rel =>
                go_light
                obtain ⟨g, _, hP⟩ := hO'.push hwm hm1 _ hrow rfl hown2 hg2 hat2
                exact ⟨i + 1, by omega, rfl, by go_num, below_app ((hbm.trans (hbj.mono hwm)).alloc (by omega) _) (hO'.own.alloc _) hg2 (Nat.le_refl _) (by simp; omega), A4, c4, _, _, rfl, hP⟩
        · obtain rfl : m = i := by omega
          obtain ⟨ob2, rfl, hT2⟩ := hO.tab hm1
          go_wp2
          go_roundg (m - (k + 1))
          case measure => go_light; omega
          case rel =>
            go_light
            refine ⟨k + 1, by omega, rfl, by go_num, hb.trans (hbm.mono hwo), ob2, c2, rb2, rc2, rfl, ?_⟩
            rw [hrx.out]; exact hT2
    · obtain rfl : m = k := by omega
      go_wp2
      go_ret
      exact ⟨ob, c1, rb, rc, rfl, hT, hW0.trans (hb.mono (by omega))⟩
end Go.Proofs.Ytledgblepdjjlaa
