/-
  impl.StrongTimes.
-/
import Derived.Test.YtdijfkpccbkdfaaP13
import Derived.Test.YtdijfkpccbkdfaaL26
import Derived.Test.YtdijfkpccbkdfaaL24
import Derived.Test.YtdijfkpccbkdfaaL23
import Derived.Test.YtdijfkpccbkdfaaL11a
import Derived.BigRegion
namespace Go.Proofs.Ytdijfkpccbkdfaa
set_option linter.unusedVariables false
set_option linter.unusedSimpArgs false
open Go.RowKit Pp

noncomputable def strongTimes (p : Pl) (ps : List Pr) (ls : List Int) : List Int × Bool :=
  if (strongPlan p ps).2 = true ∧ lastsOk p ps ls = true ∧ (timesFor (strongPlan p ps).1).2 = true then (setT ps ls (timesFor (strongPlan p ps).1).1, true) else ([], false)

/-- What holds where it is told. -/
theorem strong_facts {p : Pl} {ps : List Pr} {ls ys : List Int} {q : Pl} (h1 : strongPlan p ps = (q, true)) (h2 : lastsOk p ps ls = true) (h3 : timesFor q = (ys, true)) :
    (∀ (i : Nat) (x : Pr), ps[i]? = some x → ∃ f t : Nat, x.f = f ∧ x.t = t ∧ f < ys.length ∧ t < ys.length) ∧ AbsTo ys 4000 ∧ (∀ (i : Nat) (l : Int), ls[i]? = some l → 0 ≤ l ∧ l ≤ 12) ∧ ls.length = ps.length ∧ ps.length ≤ 2 ∧ ys.length ≤ 6 ∧ strongTimes p ps ls = (setT ps ls ys, true) := by
  have hl := lastsOk_iff.1 h2
  have hd := hl.1
  have hq : q.n = p.n := by
    unfold strongPlan at h1
    rw [dealOk_iff.2 hd, if_pos rfl] at h1
    obtain ⟨e1, e2⟩ := Prod.mk.inj h1
    rw [← e1]; unfold toldP; rw [e2]; rfl
  have hys : ys.length = nn q := by
    unfold timesFor at h3
    split at h3
    · rw [← (Prod.mk.inj h3).1, endT_length]; simp
    · cases (Prod.mk.inj h3).2
  have hn := nn_ok hd.1
  have hqn : ys.length = nn p := by rw [hys]; unfold nn; rw [hq]
  refine ⟨fun i x hx => ?_, ?_, lasts_small hl, hl.2.1, hd.2.2.1, by omega, ?_⟩
  · have hp := (hd.2.2.2 i x (List.getElem?_eq_some_iff.1 hx).1 hx).1
    obtain ⟨⟨f0, f1⟩, ⟨t0, t1⟩, _⟩ := hp
    exact ⟨x.f.toNat, x.t.toNat, by omega, by omega, by omega, by omega⟩
  · have := timesFor_abs q
    rw [h3] at this
    exact this
  · unfold strongTimes
    rw [h1, h3, if_pos ⟨rfl, h2, rfl⟩]

set_option maxHeartbeats 4000000 in
set_option maxRecDepth 100000 in
theorem strongTimes_q (n : Int) (bs : List Bd) (ps : List Pr) (ls zs : List Int) (r : Bool) (hq : strongTimes ⟨n, bs⟩ ps ls = (zs, r)) (A A2 A3 : Option Addr) (b o c b2 o2 c2 b3 o3 c3 B : Nat) (w : World) (hn : bs.length ≤ 2000000) (hn2 : ps.length ≤ 2000000) (hn3 : ls.length ≤ 2000000) (hB : B ≤ w.heap.size) (hR : BdsR w B b o A bs) (hP : CsR w B b2 o2 A2 ps.length (prCs ps)) (hL : IntsR w B b3 o3 A3 ls) :
    Calls Try.prog 48 #[.agg #[.int .i64 n, .slice A bs.length c, .slice A2 ps.length c2], .slice A3 ls.length c3] w fun e w' => ∃ A1 c1, e = .returned (.tuple #[.slice A1 zs.length c1, .bool r]) ∧ OwnI w.heap.size w' (.slice A1 zs.length c1) zs ∧ Below w.heap.size w w' := by
  have hb0 : 0 < bs.length → b < w.heap.size := fun h => Nat.lt_of_lt_of_le (hR.lt h) hB
  have hb20 : 0 < ps.length → b2 < w.heap.size := fun h => Nat.lt_of_lt_of_le (hP.lt h) hB
  have hD := pd_new (n := n) (c := c) (c2 := c2) (t := 28) hB hR hP
  clear hR hP
  obtain ⟨q, r1, hq1⟩ : ∃ q r1, strongPlan ⟨n, bs⟩ ps = (q, r1) := ⟨_, _, rfl⟩
  obtain ⟨ys, r3, hq3⟩ : ∃ ys r3, timesFor q = (ys, r3) := ⟨_, _, rfl⟩
  have hql : q.bs.length ≤ 2000000 := by
    have h : (strongPlan ⟨n, bs⟩ ps).1.bs.length ≤ 16 := by
      unfold strongPlan
      split
      · dsimp only
        unfold toldP
        split
        · rename_i h; exact (planOk_iff.1 h).2.1
        · exact Nat.zero_le _
      · exact Nat.zero_le _
    rw [hq1] at h; dsimp only at h; omega
  have hno : (r1 = false ∨ lastsOk ⟨n, bs⟩ ps ls = false ∨ r3 = false) → zs = [] ∧ r = false := fun h => by
    unfold strongTimes at hq
    rw [hq1, hq3, if_neg (fun hh => by rcases h with h | h | h <;> simp_all)] at hq
    simpa [eq_comm] using hq
  have Hq1 := hide hq1
  have Hq3 := hide hq3
  cases h1 : r1
  · obtain ⟨rfl, rfl⟩ := hno (.inl h1)
    subst h1
    clear hno hq hq1 hq3 hL hB
    go_enter Try.func48, Try.ntmps48
    go_upto_region 1 with fail
    generalize w.alloc (.cells #[.int .i64 n, .slice A bs.length c, .slice A2 ps.length c2] 28) = W at hD ⊢
    have p0 := hD.r.c0
    have p1 := hD.r.c1
    have p2 := hD.r.c2
    go_wp2_with (go_at_call 35; go_fit (strongPlan_q n bs ps q false Hq1.out A A2 b o c b2 o2 c2 _ _ hn hn2 (Nat.le_refl _) hD.r.rd hD.r.rp); rintro e w2 ⟨A1, c1, g1, rfl, hr1, own1, hb⟩; replace hD := hD.below hb; clear p0 p1 p2; have p0 := hD.r.c0; have p1 := hD.r.c1; have p2 := hD.r.c2)
    go_ret2
    exact ⟨none, 0, rfl, World.ownsRow_nil _ _ _ _, (hD.alloc _).bel⟩
  subst h1
  cases h2 : lastsOk ⟨n, bs⟩ ps ls
  · obtain ⟨rfl, rfl⟩ := hno (.inr (.inl h2))
    have H2 := hide h2
    clear hno hq hq1 hq3 h2
    go_enter Try.func48, Try.ntmps48
    go_upto_region 1 with fail
    generalize w.alloc (.cells #[.int .i64 n, .slice A bs.length c, .slice A2 ps.length c2] 28) = W at hD ⊢
    have p0 := hD.r.c0
    have p1 := hD.r.c1
    have p2 := hD.r.c2
    have hLW := (hL.below (hD.bel.mono hB)).more (Nat.le_trans hB hD.bel.size)
    go_wp2_with (first
      | (go_at_call 35; go_fit (strongPlan_q n bs ps q true Hq1.out A A2 b o c b2 o2 c2 _ _ hn hn2 (Nat.le_refl _) hD.r.rd hD.r.rp); rintro e w2 ⟨A1, c1, g1, rfl, hr1, own1, hb⟩; replace hD := hD.below hb; clear p0 p1 p2; have p0 := hD.r.c0; have p1 := hD.r.c1; have p2 := hD.r.c2; replace hD := hD.alloc (.cells #[.int .i64 q.n, .slice A1 q.bs.length c1] 25); replace hLW := (hL.below (hD.bel.mono hB)).more (Nat.le_trans hB hD.bel.size); clear p0 p1 p2; have p0 := hD.r.c0; have p1 := hD.r.c1; have p2 := hD.r.c2)
      | (go_at_call 55; go_fit (lastsOk_c n bs ps ls A A2 A3 b o c b2 o2 c2 b3 o3 c3 _ _ hn hn2 hn3 (Nat.le_refl _) hD.r.rd hD.r.rp hLW); rintro e w3 ⟨rfl, hb3⟩; rw [H2.out]; replace hD := hD.below hb3; clear p0 p1 p2; have p0 := hD.r.c0; have p1 := hD.r.c1; have p2 := hD.r.c2))
    go_ret2
    exact ⟨none, 0, rfl, World.ownsRow_nil _ _ _ _, hD.bel⟩
  have H2 := hide h2
  go_enter Try.func48, Try.ntmps48
  go_upto_region 1 with fail
  generalize w.alloc (.cells #[.int .i64 n, .slice A bs.length c, .slice A2 ps.length c2] 28) = W at hD ⊢
  have p0 := hD.r.c0
  have p1 := hD.r.c1
  have p2 := hD.r.c2
  have hLW := (hL.below (hD.bel.mono hB)).more (Nat.le_trans hB hD.bel.size)
  have hws0 := hD.r.ex
  go_upto_region 2 with (go_at_call 35; go_fit (strongPlan_q n bs ps q true Hq1.out A A2 b o c b2 o2 c2 _ _ hn hn2 (Nat.le_refl _) hD.r.rd hD.r.rp); rintro e w2 ⟨A1, c1, g1, rfl, hr1, own1, hb⟩; replace hD := hD.below hb; clear p0 p1 p2; have p0 := hD.r.c0; have p1 := hD.r.c1; have p2 := hD.r.c2)
  have hPp := po_new (t := 25) (n := q.n) (c := c1) hD.bel hr1
  replace hD := hD.alloc (.cells #[.int .i64 q.n, .slice A1 q.bs.length c1] 25)
  generalize w2.alloc (.cells #[.int .i64 q.n, .slice A1 q.bs.length c1] 25) = W2 at hD hPp ⊢
  generalize w2.heap.size = P0 at hPp ⊢
  clear p0 p1 p2 hr1 own1 hb hLW
  have p0 := hD.r.c0
  have p1 := hD.r.c1
  have p2 := hD.r.c2
  have hLW := (hL.below (hD.bel.mono hB)).more (Nat.le_trans hB hD.bel.size)
  go_upto_region 4 with (go_at_call 55; go_fit (lastsOk_c n bs ps ls A A2 A3 b o c b2 o2 c2 b3 o3 c3 _ _ hn hn2 hn3 (Nat.le_refl _) hD.r.rd hD.r.rp hLW); rintro e w3 ⟨rfl, hb3⟩; rw [H2.out]; replace hD := hD.below hb3; clear p0 p1 p2; have p0 := hD.r.c0; have p1 := hD.r.c1; have p2 := hD.r.c2; replace hPp := hPp.below hb3)
  have pp0 := hPp.c0
  have pp1 := hPp.c1
  cases h3 : r3
  · obtain ⟨rfl, rfl⟩ := hno (.inr (.inr h3))
    subst h3
    clear hno hq hq1 hq3 h2
    go_wp2_with (go_at_call 88; go_fit (timesFor_q q ys false Hq3.out A1 g1 0 c1 _ _ hql (Nat.le_refl _) hPp.rd); rintro e w4 ⟨A5, c5, rfl, own5, hb5⟩; replace hD := hD.below hb5)
    go_ret2
    exact ⟨none, 0, rfl, World.ownsRow_nil _ _ _ _, hD.bel⟩
  subst h3
  obtain ⟨f1, f2, f3, f4, f5, f6, f7⟩ := strong_facts hq1 h2 hq3
  rw [hq] at f7
  obtain ⟨rfl, rfl⟩ := Prod.mk.inj f7
  have F1 := hide f1
  have F2 := hide f2
  have F3 := hide f3
  have hll1 : ls.length ≤ ps.length := by omega
  have hll2 : ps.length ≤ ls.length := by omega
  clear hno hq hq1 hq3 h2 f1 f2 f3 f4 f7
  have hbase : w.heap.size < w3.heap.size := hD.r.ex
  go_upto_region 8 with (go_at_call 88; go_fit (timesFor_q q ys true Hq3.out A1 g1 0 c1 _ _ hql (Nat.le_refl _) hPp.rd); rintro e w4 ⟨A5, c5, rfl, own5, hb5⟩; replace hD := hD.below hb5; clear p0 p1 p2; have p0 := hD.r.c0; have p1 := hD.r.c1; have p2 := hD.r.c2)
  clear hPp pp0 pp1 hLW hb5
  go_loopg [34] ps.length (fun gh i wr => ∃ (k : Nat) (vs : List Int), k ≤ ps.length ∧ gh = ps.length - k ∧ i = .int .i64 k ∧ Hid (vs = setT (ps.take k) (ls.take k) ys) ∧ Hid (AbsTo vs (4000 + 12 * k)) ∧ PD w wr w.heap.size b o n A c bs b2 o2 A2 c2 ps ∧ wr.ownsRow w3.heap.size 3 1 (.slice A5 ys.length c5) ys.length (vs.map (Value.int .i64)))
  case atStart => exact ⟨0, ys, Nat.zero_le _, rfl, rfl, by simp [Hid, setT], by have := F2.out; simpa [Hid] using this, hD, own5⟩
  case round =>
    clear hD own5 p0 p1 p2
    obtain ⟨k, vs, hk, rfl, rfl, Hvs, Ha, hD, own⟩ := hrel
    have p2 := hD.r.c2
    by_cases hlt : k < ps.length
    · have hlt' : (k : Int) < (ps.length : Int) := by omega
      have hltl : (k : Int) < (ls.length : Int) := by omega
      have hk0 : (0 : Int) ≤ (k : Int) := by omega
      obtain rfl := hD.r.rp.addr (by omega)
      obtain rfl := hL.addr (by omega)
      have hx := List.getElem?_eq_getElem hlt
      obtain ⟨d0, d1, d2, d3⟩ := pr_cells hD.r.rp hx
      have hl := List.getElem?_eq_getElem (show k < ls.length by omega)
      have hsm := F3.out k _ hl
      obtain ⟨f, t, hf, ht, hfl, htl⟩ := F1.out k _ hx
      have hLr := (hL.below (hD.bel.mono hB)).more (Nat.le_trans hB hD.bel.size)
      have hst := setT_step ps ls k _ _ ys hx hl
      have l0 := hLr.cell k (by omega)
      rw [List.getD_eq_getElem?_getD, hl] at l0
      dsimp only [Option.getD_some] at l0
      have hlb := hLr.lt (by omega)
      have hlw : b3 < w.heap.size := Nat.lt_of_lt_of_le (hL.lt (by omega)) hB
      generalize ps[k] = x at hx d0 d1 d2 d3 hst hf ht
      generalize ls[k] = l at hl l0 hst hsm
      rw [hf] at d0
      rw [ht] at d1
      rw [hf, ht, ← Hvs.out] at hst
      simp only [Int.toNat_natCast] at hst
      clear hx hl hLr
      have hvl : vs.length = ys.length := by rw [Hvs.out, setT_length]
      have hown : OwnI w3.heap.size wr (.slice A5 vs.length c5) vs := by unfold OwnI; rw [hvl]; exact own
      obtain ⟨A6, g, c6, hv, h1, _, _⟩ := own_form own
      injection hv with e1 _ e3
      subst e1; subst e3
      obtain rfl := h1 (by omega)
      have hgb := (own.lt g (by simp [Value.ownBlock])).1
      have hgw := (own.lt g (by simp [Value.ownBlock])).2
      obtain ⟨z, hz⟩ : ∃ z, vs.getD f 0 = z := ⟨_, rfl⟩
      have hza := Ha.out f
      rw [hz] at hza hst
      obtain ⟨hza1, hza2⟩ := hza
      obtain ⟨hsm1, hsm2⟩ := hsm
      have Hst : Hid (vs.set t (z + l) = setT (ps.take (k + 1)) (ls.take (k + 1)) ys) := hst.symm
      have HA2 : Hid (AbsTo (vs.set t (z + l)) (4000 + 12 * (k + 1 : Nat))) := by
        have h := absTo_set (t := t) (v := z + l) Ha.out (by omega) (by omega)
        intro i
        have := h i
        omega
      have hal : Below wr.heap.size wr (wr.alloc (.cells #[.int .i64 f, .int .i64 t, .int .i64 x.l, .int .i64 x.h] 40)) := by go_grown
      have hV := cb_new wr [.int .i64 f, .int .i64 t, .int .i64 x.l, .int .i64 x.h] 40
      have hVg : ¬ wr.heap.size = g := by omega
      have hownV := own_below hown hal
      replace hD := hD.below hal
      have l1 := ((bcell hal).1 _ _ hlb).trans l0
      obtain ⟨hownS, kt, ktf⟩ := own_setI (k := t) (z + l) hownV (by omega)
      obtain ⟨_, kf, _⟩ := own_setI (k := f) 0 hownV (by omega)
      rw [hz] at kf
      clear hz hst h1 hownV hown own Hvs Ha
      go_upto_region 10 with fail
      generalize wr.alloc (.cells #[.int .i64 f, .int .i64 t, .int .i64 x.l, .int .i64 x.h] 40) = Wv at hD hV l1 hownS kt ktf kf ⊢
      generalize wr.heap.size = V at hV hVg hgw hlb ⊢
      clear p2 d0 d1 d2 d3 l0 hal
      have v0 := hV.c 0 _ rfl
      have v1 := hV.c 1 _ rfl
      have hfi : (f : Int) < (ys.length : Int) := by omega
      have hti : (t : Int) < (ys.length : Int) := by omega
      have hf0 : (0 : Int) ≤ (f : Int) := by omega
      have ht0 : (0 : Int) ≤ (t : Int) := by omega
      have hw1 : IntKind.i64.wrap (z + l) = z + l := by rw [IntWalk.i64_left, IntWalk.wrap64_in _ (by omega)]
      have hD1 := (hD.set (g := g) t (.int .i64 (z + l)) (by omega) (by omega) (fun h => by have := hb0 h; omega) (fun h => by have := hb20 h; omega)).drew
      have hown1 : (Wv.setCell ⟨g, t, none⟩ (.int .i64 (z + l))).drew.ownsRow w3.heap.size 3 1 (.slice (some ⟨g, 0, none⟩) ys.length c5) ys.length ((vs.set t (z + l)).map (Value.int .i64)) := by
        have h := own_below hownS (show Below _ _ (Wv.setCell ⟨g, t, none⟩ (.int .i64 (z + l))).drew by go_grown)
        unfold OwnI at h
        rw [List.length_set, hvl] at h
        exact h
      clear hvl
      go_region
      clear hw1
      go_wp2_with fail
      go_roundg (ps.length - (k + 1))
      case measure => go_light; omega
      case rel => go_light; exact ⟨k + 1, vs.set t (z + l), by omega, rfl, by go_num, Hst, HA2, hD1, hown1⟩
    · obtain rfl : k = ps.length := by omega
      have e : Hid (vs = setT ps ls ys) := by unfold Hid; rw [Hvs.out, List.take_length, List.take_of_length_le (by omega)]
      have hsl : Hid ((setT ps ls ys).length = ys.length) := setT_length ps ls ys
      clear hll1 hll2
      go_wp2_with fail
      go_ret2
      refine ⟨A5, c5, by rw [hsl.out]; rfl, ?_, hD.bel⟩
      unfold OwnI
      rw [hsl.out, ← e.out]
      exact own_less own (by omega)
end Go.Proofs.Ytdijfkpccbkdfaa
