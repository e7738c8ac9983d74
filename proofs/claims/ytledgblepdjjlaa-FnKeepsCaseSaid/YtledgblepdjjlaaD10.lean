/-
  The draws of the reference: a plan with few points.
-/
import Derived.Test.YtledgblepdjjlaaD3
import Derived.Test.YtledgblepdjjlaaD2
namespace Go.Proofs.Ytledgblepdjjlaa
set_option linter.unusedVariables false
set_option linter.unusedSimpArgs false
open Go.RowKit Pp

set_option maxHeartbeats 4000000 in
set_option maxRecDepth 100000 in
theorem few_c (g : Nat) (K m : Int) (w : World) (hK : 0 ≤ K ∧ K ≤ 10000000) (hm : 0 ≤ m ∧ m ≤ 100) (hR : RdO w g K) :
    Calls Try.prog 119 #[.pointer (some ⟨g, 0, none⟩), .int .i64 m] w fun e w' =>
      ∃ n A c bs, e = .returned (.agg #[.int .i64 n, .slice A bs.length c]) ∧ (0 ≤ n ∧ n ≤ 7) ∧ bs.length ≤ 9 ∧ (∀ x ∈ bs, Sm x) ∧ OwnB w.heap.size w' (.slice A bs.length c) bs ∧ RdO w' g (K + 200) ∧ w.grownBy w' (some g) := by
  obtain ⟨hK0, hK1⟩ := hK
  obtain ⟨hm0, hm1⟩ := hm
  have hg := hR.lt
  obtain ⟨j0, hj0, hy0, hy1, hy2⟩ := info_parts infoB
  go_enter Try.func119, Try.ntmps119
  go_upto_region 2 with (go_at_call 78; go_fit (plan_c g K m _ ⟨hK0, by omega⟩ ⟨hm0, hm1⟩ (hR.alloc _)); rintro e w1 ⟨n, A, c, bs, rfl, ⟨hn0, hn7⟩, hlen, hsm, hown, hR1, G1⟩)
  have hJ := js_new (n := n) (t := 32) G1 hg hR1 hown
  generalize w1.alloc (.cells #[.int .i64 n, .slice A bs.length c] 32) = wa at hJ ⊢
  generalize w1.heap.size = P at hJ ⊢
  clear hown hR1 G1 hR
  go_cut [18] (fun s wx => (s = .bool false ∨ s = .bool true) ∧ JS w wx g P (K + 101) n A c bs)
  case first =>
    have p0 := hJ.c0
    by_cases h4 : (4 : Int) < n
    · go_wp2_with (go_at_call 88; go_fit (pick_js _ _ hJ (by omega) (by omega)); rintro e w6 ⟨v, rfl, c1, c2, _, hJ2, _, _⟩; have c2' := c2 (by omega))
      go_meet
      case rel =>
        refine ⟨?_, hJ2.more (by omega)⟩
        by_cases hv : 0 < v
        · simp [hv]
        · simp [hv]
    · go_wp2_with fail
      go_meet
      case rel => exact ⟨.inl rfl, hJ.more (by omega)⟩
  case rest =>
    clear hJ
    obtain ⟨hs, hJ⟩ := hcut
    have z0 := hJ.z0
    have z1 := hJ.z1
    have zf0 := hJ.zf 0
    have zf1 := hJ.zf 1
    have p0 := hJ.c0
    have p1 := hJ.c1
    rcases hs with rfl | rfl
    · go_wp2_with fail
      obtain ⟨r0, r1, ho, hr, hgr⟩ := hJ.fin
      refine bodyPost_ret (v := .agg #[.int .i64 n, .slice A bs.length c]) (by simp [results, Try.results119, go_sem, r0, r1]) rfl ?_
      exact ⟨_, _, _, _, rfl, ⟨by omega, by omega⟩, hlen, hsm, ho, hr.more (by omega), hgr⟩
    · go_wp2_with fail
      have hlt : ∀ q, (Value.slice A bs.length c).ownBlock = some q → q < wc.heap.size := fun q hq => (hJ.own.lt q hq).2
      have hPc := hJ.P1
      have hP0 := hJ.P0
      have hE : OwnB wc.heap.size (wc.alloc (.cells #[] 66)) (.slice (some ⟨wc.heap.size, 0, none⟩) 0 0) [] := own_empty (at_new rfl) (Nat.le_refl _)
      have hJa := hJ.alloc (.cells #[] 66)
      have hszc : wc.heap.size ≤ (wc.alloc (.cells #[] 66)).heap.size := by simp
      generalize wc.alloc (.cells #[] 66) = W at hE hJa hszc ⊢
      generalize wc.heap.size = T at hlt hPc hE hszc ⊢
      clear hJ z0 z1 zf0 zf1 p0 p1
      go_loopg [6, 7] bs.length (fun gh s6 s7 wr => ∃ k : Nat, k ≤ bs.length ∧ gh = bs.length - k ∧ s7 = .int .i64 k ∧ ∃ A3 c3, ∃ bs3 : List Bd, s6 = .slice A3 bs3.length c3 ∧ bs3.length ≤ k ∧ (∀ x ∈ bs3, Sm x) ∧ OwnB T wr (.slice A3 bs3.length c3) bs3 ∧ JS w wr g P (K + 101) n A c bs ∧ T ≤ wr.heap.size)
      case atStart => exact ⟨0, Nat.zero_le _, rfl, rfl, _, _, [], rfl, Nat.le_refl _, by simp, hE, hJa, hszc⟩
      case round =>
        clear hE hJa hszc
        obtain ⟨k, hk, rfl, rfl, A3, c3, bs3, rfl, hl3, hsm3, hE, hJ, hszc⟩ := hrel
        have p0 := hJ.c0
        have p1 := hJ.c1
        by_cases hkl : k < bs.length
        · have hkl' : (k : Int) < (bs.length : Int) := by omega
          obtain ⟨b, hrd⟩ := hJ.reads
          have hx := List.getElem?_eq_getElem hkl
          obtain rfl := hrd.addr (by omega)
          have d0 := hrd.c0 k _ hx
          have d1 := hrd.c1 k _ hx
          have d2 := hrd.c2 k _ hx
          have hsx := hsm _ (List.getElem_mem hkl)
          simp only [Nat.zero_add] at d0 d1 d2
          have hbT := hlt b rfl
          generalize bs[k] = x at d0 d1 d2 hsx
          clear hx hrd
          by_cases hxf : x.f < 4
          · by_cases hxt : x.t < 4
            · have hE2 := hide hE
              go_wp2_with (at_builtin; refine app_list _ rfl (.tmp 43) (.tmp 49) _ rfl T 66 j0 _ 3 24 Try.underlying30 hj0 hy0 hy1 hy2 rfl (by omega) (.slice A3 bs3.length c3) bs3.length (bdCs bs3) rfl (hE2.out.alloc _) _ 1 _ [.int .i64 x.f, .int .i64 x.t, .int .i64 x.m] rfl rfl (NewsAt.block (cs := #[.int .i64 x.f, .int .i64 x.t, .int .i64 x.m]) (at_new rfl)) (by simp [Value.oneCell']) (by omega) (by omega) (by simp only [World.size_alloc]; omega) ?_; intro A4 c4 w4 hown4 hg4 hat4)
              go_roundg (bs.length - (k + 1))
              case measure => go_light; omega
              case rel =>
                go_light
                refine ⟨k + 1, by omega, rfl, by go_num, A4, c4, bs3 ++ [x], by simp, by simp; omega, ?_, ?_, ?_, ?_⟩
                · intro y hy
                  rcases List.mem_append.1 hy with hy | hy
                  · exact hsm3 y hy
                  · simp only [List.mem_singleton] at hy; subst hy; exact hsx
                · have : OwnB T w4 (.slice A4 (bs3.length + 1) c4) (bs3 ++ [x]) := by unfold OwnB; rw [bdCs_append]; simpa [bdCs] using hown4
                  simpa using this
                · exact (hJ.alloc _).other hg4 (fun q hq => ⟨by have := (hE.lt q hq).1; omega, fun e => by have := hlt q e; have := (hE.lt q hq).1; omega⟩)
                · have := hg4.size; simp only [World.size_alloc] at this; omega
            · go_wp2_with fail
              go_roundg (bs.length - (k + 1))
              case measure => go_light; omega
              case rel => go_light; exact ⟨k + 1, by omega, rfl, by go_num, A3, c3, bs3, rfl, by omega, hsm3, hE, hJ, hszc⟩
          · go_wp2_with fail
            go_roundg (bs.length - (k + 1))
            case measure => go_light; omega
            case rel => go_light; exact ⟨k + 1, by omega, rfl, by go_num, A3, c3, bs3, rfl, by omega, hsm3, hE, hJ, hszc⟩
        · have z0 := hJ.z0
          have z1 := hJ.z1
          have zf0 := hJ.zf 0
          have zf1 := hJ.zf 1
          go_wp2_with fail
          obtain ⟨r0, r1, ho, hr, hgr⟩ := hJ.fin2 (n' := 4) (own_less hE (by omega)) (fun e => by have := (hE.lt _ e).1; omega)
          refine bodyPost_ret (v := .agg #[.int .i64 4, .slice A3 bs3.length c3]) (by simp [results, Try.results119, go_sem, r0, r1]) rfl ?_
          exact ⟨4, A3, c3, bs3, rfl, ⟨by omega, by omega⟩, by omega, hsm3, ho, hr.more (by omega), hgr⟩
end Go.Proofs.Ytledgblepdjjlaa
