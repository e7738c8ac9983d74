/-
  The draws of the reference: l20Doing.
-/
import Derived.Test.YtjlaljnffmncpaaW7
import Derived.Test.YtjlaljnffmncpaaS11
import Derived.Deep.CutBlock
namespace Go.Proofs.Ytjlaljnffmncpaa
set_option linter.unusedVariables false
set_option linter.unusedSimpArgs false
open Go.RowKit Pp

/-- What the loop of l20Doing keeps: only the reader's block g has turned of what was there. -/
structure DS (w0 wr : World) (g : Nat) (K : Int) (T X Z b gt : Nat) (n : Int) (A : Option Addr) (c : Nat) (bs : List Bd) (s : St) (At : Option Addr) (ct : Nat) : Prop where
  gr : w0.grownBy wr (some g)
  rd : RdO wr g K
  pl : RP wr X b 0 n A c bs
  os : OS T wr Z gt s.now At ct s.done
  y1 : ZB w0 wr w0.heap.size
  y2 : ZB w0 wr (w0.heap.size + 1)
  own : OwnB (w0.heap.size + 2) wr (.slice A bs.length c) bs
section
variable {w0 wr w' : World} {g : Nat} {K K' : Int} {T X Z b gt : Nat} {n : Int} {A : Option Addr} {c : Nat} {bs : List Bd} {s : St} {At : Option Addr} {ct : Nat}
theorem drew_bel3 (w : World) : Below w.heap.size w w.drew := by go_grown
theorem DS.below (h : DS w0 wr g K T X Z b gt n A c bs s At ct) (hb : Below wr.heap.size wr w') : DS w0 w' g K T X Z b gt n A c bs s At ct :=
  ⟨gr_below h.gr hb, h.rd.below hb, h.pl.below hb, h.os.below hb, h.y1.below hb, h.y2.below hb, own_below h.own hb⟩
theorem DS.more (h : DS w0 wr g K T X Z b gt n A c bs s At ct) (hK : K ≤ K') : DS w0 wr g K' T X Z b gt n A c bs s At ct := ⟨h.gr, h.rd.more hK, h.pl, h.os, h.y1, h.y2, h.own⟩
theorem OS.grown {row : Option Nat} {now : Int} {xs : List Int} (h : OS T wr Z gt now At ct xs) (hg : wr.grownBy w' row) (hr : ∀ k, row = some k → k < T) : OS T w' Z gt now At ct xs := by
  have hZ : some Z ≠ row := fun e => by have := hr _ e.symm; have := h.lo; omega
  refine ⟨h.lo, h.rs.grown hg hZ (fun h0 e => ?_), fun i => (hg.frozen_far ⟨Z, i, none⟩ h.rs.ex hZ).trans (h.fz i), h.own.kept hg ?_, h.ne⟩
  · have h1 := hr _ e.symm
    have hA := h.rs.rd.addr h0
    have ho := h.own
    rw [hA] at ho
    have := (ho.lt gt rfl).1
    omega
  · cases hk : (Value.slice At xs.length ct).ownBlock with
    | none => exact .inl rfl
    | some k => exact .inr (fun e => by have := hr k e.symm; have := (h.own.lt k hk).1; omega)
theorem DS.pick (h : DS w0 wr g K T X Z b gt n A c bs s At ct) (hgw : g < w0.heap.size) (hXT : X < T) (hwX : w0.heap.size + 1 < X) (hR : RdO w' g K') (G : wr.grownBy w' (some g)) : DS w0 w' g K' T X Z b gt n A c bs s At ct :=
  ⟨gr_pick h.gr G, hR, h.pl.grown G (fun e => by injection e with e; omega) (fun h0 e => by
      injection e with e
      have hA := h.pl.rd.addr h0
      have ho := h.own
      rw [hA] at ho
      have := (ho.lt b rfl).1
      omega),
    h.os.grown G (fun k e => by injection e with e; omega), h.y1.grown G (fun k e => by injection e with e; omega), h.y2.grown G (fun k e => by injection e with e; omega), own_far h.own G (by omega)⟩
/-- A state of its own is put into the state's box. -/
theorem DS.put {q : St} {A2 : Option Addr} {c2 : Nat} (h : DS w0 wr g K T X Z b gt n A c bs s At ct) (hgw : g < w0.heap.size) (hXT : X < T) (hwX : w0.heap.size + 1 < X) (hbX : ∀ k, (Value.slice A bs.length c).ownBlock = some k → k < X)
    (own : OwnI T wr (.slice A2 q.done.length c2) q.done) (ne : (Value.slice A2 q.done.length c2).ownBlock ≠ some Z) :
    ∃ g2, DS w0 ((wr.setCell ⟨Z, 0, none⟩ (.int .i64 q.now)).setCell ⟨Z, 1, none⟩ (.slice A2 q.done.length c2)) g K T X Z b g2 n A c bs q A2 c2 := by
  have hlo := h.os.lo
  have hb : 0 < bs.length → b < X := fun h0 => hbX b (by have hA := h.pl.rd.addr h0; rw [hA]; rfl)
  obtain ⟨g2, hO⟩ := h.os.renew (n2 := q.now) own ne
  have hne : (Value.slice A bs.length c).ownBlock ≠ some Z := fun e => by have := hbX _ e; omega
  have hG : wr.grownBy ((wr.setCell ⟨Z, 0, none⟩ (.int .i64 q.now)).setCell ⟨Z, 1, none⟩ (.slice A2 q.done.length c2)) (some Z) := gr_trans (grown_set wr ⟨Z, 0, none⟩ _) (grown_set _ ⟨Z, 1, none⟩ _)
  have hs := h.gr.size
  exact ⟨g2, gr_then h.gr hG (fun k e => by injection e with e; exact .inl (by omega)), h.rd.other hG (fun k e => by injection e with e; omega), h.pl.grown hG (fun e => by injection e with e; omega) (fun h0 e => by injection e with e; have := hb h0; omega), hO,
    h.y1.grown hG (fun k e => by injection e with e; omega), h.y2.grown hG (fun k e => by injection e with e; omega), own_set (own_set h.own hne _) hne _⟩

theorem DS.setNow {v : Int} (h : DS w0 wr g K T X Z b gt n A c bs s At ct) (hgw : g < w0.heap.size) (hXT : X < T) (hwX : w0.heap.size + 1 < X) (hbX : ∀ k, (Value.slice A bs.length c).ownBlock = some k → k < X) :
    DS w0 (wr.setCell ⟨Z, 0, none⟩ (.int .i64 v)) g K T X Z b gt n A c bs ⟨v, s.done⟩ At ct := by
  have hlo := h.os.lo
  have hb : 0 < bs.length → b < X := fun h0 => hbX b (by have hA := h.pl.rd.addr h0; rw [hA]; rfl)
  have hne : (Value.slice A bs.length c).ownBlock ≠ some Z := fun e => by have := hbX _ e; omega
  have hG : wr.grownBy (wr.setCell ⟨Z, 0, none⟩ (.int .i64 v)) (some Z) := grown_set wr ⟨Z, 0, none⟩ _
  have hs := h.gr.size
  have hgt : 0 < s.done.length → gt ≠ Z := fun h0 e => by have hA := h.os.rs.rd.addr h0; have := h.os.ne; rw [hA] at this; exact this (by rw [e]; rfl)
  have hO : OS T (wr.setCell ⟨Z, 0, none⟩ (.int .i64 v)) Z gt v At ct s.done :=
    ⟨hlo, ⟨by simpa using h.os.rs.ex, World.cell?_setCell_same _ _ _ h.os.rs.c0, by rw [World.cell?_setCell_other _ _ _ _ (by simp)]; exact h.os.rs.c1, (h.os.rs.rd.grown hG (fun h0 e => by injection e with e; exact hgt h0 e)).more hG.size⟩,
     fun i => by rw [← h.os.fz i]; simp, own_set h.os.own h.os.ne _, h.os.ne⟩
  exact ⟨gr_then h.gr hG (fun k e => by injection e with e; exact .inl (by omega)), h.rd.other hG (fun k e => by injection e with e; omega), h.pl.grown hG (fun e => by injection e with e; omega) (fun h0 e => by injection e with e; have := hb h0; omega), hO,
    h.y1.grown hG (fun k e => by injection e with e; omega), h.y2.grown hG (fun k e => by injection e with e; omega), own_set h.own hne _⟩
theorem DS.setDone {v : Int} {k : Nat} (h : DS w0 wr g K T X Z b gt n A c bs s At ct) (hgw : g < w0.heap.size) (hXT : X < T) (hwX : w0.heap.size + 1 < X) (hbX : ∀ k, (Value.slice A bs.length c).ownBlock = some k → k < X) (hk : k < s.done.length) :
    At = some ⟨gt, 0, none⟩ ∧ wr.cell? ⟨gt, k, none⟩ = some (.int .i64 (s.done.getD k 0)) ∧ wr.frozen? ⟨gt, k, none⟩ = false ∧
    DS w0 (wr.setCell ⟨gt, k, none⟩ (.int .i64 v)) g K T X Z b gt n A c bs ⟨s.now, s.done.set k v⟩ At ct := by
  have hA := h.os.rs.rd.addr (by omega)
  have hlo := h.os.lo
  have ho := h.os.own
  have hne := h.os.ne
  rw [hA] at ho hne
  have hgT : T ≤ gt := (ho.lt gt rfl).1
  have hgZ : gt ≠ Z := fun e => hne (by rw [e]; rfl)
  obtain ⟨o2, c2, f2⟩ := own_setI (k := k) v ho hk
  have hb : 0 < bs.length → b < X := fun h0 => hbX b (by have hA := h.pl.rd.addr h0; rw [hA]; rfl)
  have hneb : (Value.slice A bs.length c).ownBlock ≠ some gt := fun e => by have := hbX _ e; omega
  have hG : wr.grownBy (wr.setCell ⟨gt, k, none⟩ (.int .i64 v)) (some gt) := grown_set wr ⟨gt, k, none⟩ _
  have hs := h.gr.size
  have hs2 := hlo
  have hlen : (s.done.set k v).length = s.done.length := List.length_set
  obtain ⟨g2, hr2⟩ := own_IntsR o2
  have hg2 : g2 = gt := by
    have h2 := hr2.addr (by rw [hlen]; omega)
    injection h2 with h2
    injection h2 with h2
    exact h2.symm
  subst hg2
  have hW : w0.heap.size ≤ g2 := by omega
  refine ⟨hA, c2, f2, gr_then h.gr hG (fun k e => by injection e with e; exact .inl (by omega)), h.rd.other hG (fun k e => by injection e with e; omega), h.pl.grown hG (fun e => by injection e with e; omega) (fun h0 e => by injection e with e; have := hb h0; omega), ?_,
    h.y1.grown hG (fun k e => by injection e with e; omega), h.y2.grown hG (fun k e => by injection e with e; omega), own_set h.own hneb _⟩
  refine ⟨hlo, ⟨by simpa using h.os.rs.ex, ?_, ?_, by rw [hA]; exact hr2⟩, fun i => by rw [← h.os.fz i]; simp, by rw [hA]; exact o2, by dsimp only; rw [hlen]; exact h.os.ne⟩
  · exact (set_other (by dsimp only; exact hgZ)).trans h.os.rs.c0
  · dsimp only; rw [hlen]; exact (set_other (by dsimp only; exact hgZ)).trans h.os.rs.c1

/-- A number is put behind the state's list, and the list back into the box. -/
theorem DS.app {w4 : World} {o : Obj} {x : Int} {A4 : Option Addr} {c4 : Nat} (h : DS w0 wr g K T X Z b gt n A c bs s At ct) (hgw : g < w0.heap.size) (hXT : X < T) (hwX : w0.heap.size + 1 < X) (hbX : ∀ k, (Value.slice A bs.length c).ownBlock = some k → k < X)
    (hg : (wr.alloc o).grownBy w4 (Value.slice At s.done.length ct).ownBlock) (own : w4.ownsRow T 3 1 (.slice A4 (s.done.length + 1) c4) (s.done.length + 1) (s.done.map (Value.int .i64) ++ [.int .i64 x]))
    (hat : (Value.slice A4 (s.done.length + 1) c4).ownBlock = (Value.slice At s.done.length ct).ownBlock ∨ (Value.slice A4 (s.done.length + 1) c4).ownBlock = some (wr.alloc o).heap.size) :
    w4.cell? ⟨Z, 0, none⟩ = some (.int .i64 s.now) ∧ w4.cell? ⟨Z, 1, none⟩ = some (.slice At s.done.length ct) ∧ w4.frozen? ⟨Z, 1, none⟩ = false ∧
    ∃ g', DS w0 (w4.setCell ⟨Z, 1, none⟩ (.slice A4 (s.done.length + 1) c4)) g K T X Z b g' n A c bs ⟨s.now, s.done ++ [x]⟩ A4 c4 := by
  obtain ⟨c0, c1, f1, g', hO⟩ := h.os.app hg own hat
  have hlo := h.os.lo
  have hb : 0 < bs.length → b < X := fun h0 => hbX b (by have hA := h.pl.rd.addr h0; rw [hA]; rfl)
  have hk : ∀ k, (Value.slice At s.done.length ct).ownBlock = some k → T ≤ k := fun k e => (h.os.own.lt k e).1
  have hba : Below wr.heap.size wr (wr.alloc o) := by go_grown
  have hs := h.gr.size
  have hne : (Value.slice A bs.length c).ownBlock ≠ some Z := fun e => by have := hbX _ e; omega
  have hwT : w0.heap.size ≤ T := by omega
  have gr4 : w0.grownBy w4 (some g) := gr_then (gr_below h.gr hba) hg (fun k e => .inl (by have := hk k e; omega))
  have rd4 : RdO w4 g K := (h.rd.below hba).other hg (fun k e => by have := hk k e; omega)
  have pl4 : RP w4 X b 0 n A c bs := (h.pl.below hba).grown hg (fun e => by have := hk _ e.symm; omega) (fun h0 e => by have := hk _ e.symm; have := hb h0; omega)
  have y14 : ZB w0 w4 w0.heap.size := (h.y1.below hba).grown hg (fun k e => by have := hk k e; omega)
  have y24 : ZB w0 w4 (w0.heap.size + 1) := (h.y2.below hba).grown hg (fun k e => by have := hk k e; omega)
  have own4 : OwnB (w0.heap.size + 2) w4 (.slice A bs.length c) bs := (own_below h.own hba).kept hg (by
    cases e : (Value.slice A bs.length c).ownBlock with
    | none => exact .inl rfl
    | some k => exact .inr (fun e2 => by have := hk k e2.symm; have := hbX k e; omega))
  exact ⟨c0, c1, f1, g', gr_set gr4 _ (.inl (by dsimp only; omega)) _, rd4.set _ (by dsimp only; omega) _, pl4.set (by omega) (fun h0 => by have := hb h0; omega), hO, y14.set (by omega), y24.set (by omega), own_set (p := ⟨Z, 1, none⟩) own4 hne _⟩

/-- The two results are put into their boxes. -/
theorem DS.fin {q : Int} {xs : List Int} {A2 : Option Addr} {c2 : Nat} (hgr : w0.grownBy wr (some g)) (hrd : RdO wr g K) (y1 : ZB w0 wr w0.heap.size) (y2 : ZB w0 wr (w0.heap.size + 1)) (own : OwnB (w0.heap.size + 2) wr (.slice A bs.length c) bs) (hgw : g < w0.heap.size)
    (own2 : OwnI (w0.heap.size + 2) wr (.slice A2 xs.length c2) xs) :
    let w1 := (wr.setCell ⟨w0.heap.size, 0, none⟩ (.int .i64 n)).setCell ⟨w0.heap.size, 1, none⟩ (.slice A bs.length c)
    let w2 := (w1.setCell ⟨w0.heap.size + 1, 0, none⟩ (.int .i64 q)).setCell ⟨w0.heap.size + 1, 1, none⟩ (.slice A2 xs.length c2)
    w2.cell? ⟨w0.heap.size, 0, none⟩ = some (.int .i64 n) ∧ w2.cell? ⟨w0.heap.size, 1, none⟩ = some (.slice A bs.length c) ∧ w2.cell? ⟨w0.heap.size + 1, 0, none⟩ = some (.int .i64 q) ∧ w2.cell? ⟨w0.heap.size + 1, 1, none⟩ = some (.slice A2 xs.length c2) ∧
    OwnB w0.heap.size w2 (.slice A bs.length c) bs ∧ OwnI w0.heap.size w2 (.slice A2 xs.length c2) xs ∧ RdO w2 g K ∧ w0.grownBy w2 (some g) := by
  intro w1 w2
  obtain ⟨r0, r1⟩ := two_cells (a := .int .i64 n) (b := .slice A bs.length c) y1.z0 y1.z1
  have hne : w0.heap.size ≠ w0.heap.size + 1 := by omega
  have y2' : ZB w0 w1 (w0.heap.size + 1) := (y2.set hne).set hne
  obtain ⟨u0, u1⟩ := two_cells (a := .int .i64 q) (b := .slice A2 xs.length c2) y2'.z0 y2'.z1
  have f : ∀ a : Addr, a.block = w0.heap.size → w2.cell? a = w1.cell? a := fun a ha => (set_other (by rw [ha]; dsimp only; omega)).trans (set_other (by rw [ha]; dsimp only; omega))
  have lowB : ∀ {W : World} (p : Addr) (v : Value), p.block < w0.heap.size + 2 → OwnB (w0.heap.size + 2) W (.slice A bs.length c) bs → OwnB (w0.heap.size + 2) (W.setCell p v) (.slice A bs.length c) bs := fun p v hp h => own_set_low h hp v
  have lowI : ∀ {W : World} (p : Addr) (v : Value), p.block < w0.heap.size + 2 → OwnI (w0.heap.size + 2) W (.slice A2 xs.length c2) xs → OwnI (w0.heap.size + 2) (W.setCell p v) (.slice A2 xs.length c2) xs := fun p v hp h => own_set_low h hp v
  refine ⟨(f _ rfl).trans r0, (f _ rfl).trans r1, u0, u1, ?_, ?_, ?_, ?_⟩
  · exact own_less (lowB _ _ (by dsimp only; omega) (lowB _ _ (by dsimp only; omega) (lowB _ _ (by dsimp only; omega) (lowB _ _ (by dsimp only; omega) own)))) (by omega)
  · exact own_less (lowI _ _ (by dsimp only; omega) (lowI _ _ (by dsimp only; omega) (lowI _ _ (by dsimp only; omega) (lowI _ _ (by dsimp only; omega) own2)))) (by omega)
  · exact (((hrd.set _ (by dsimp only; omega) _).set _ (by dsimp only; omega) _).set _ (by dsimp only; omega) _).set _ (by dsimp only; omega) _
  · exact gr_set (gr_set (gr_set (gr_set hgr _ (.inl (by dsimp only; omega)) _) _ (.inl (by dsimp only; omega)) _) _ (.inl (by dsimp only; omega)) _) _ (.inl (by dsimp only; omega)) _
end

set_option maxHeartbeats 8000000 in
set_option maxRecDepth 100000 in
theorem doing_c (g : Nat) (K m : Int) (w : World) (hK : 0 ≤ K ∧ K ≤ 1000000) (hm : 0 ≤ m ∧ m ≤ 100) (hR : RdO w g K) :
    Calls Try.prog 154 #[.pointer (some ⟨g, 0, none⟩), .int .i64 m] w fun e w' =>
      ∃ n A c bs now At ct xs, e = .returned (.tuple #[.agg #[.int .i64 n, .slice A bs.length c], .agg #[.int .i64 now, .slice At xs.length ct]]) ∧ (0 ≤ n ∧ n ≤ 7) ∧ bs.length ≤ 16 ∧ (0 ≤ now ∧ now ≤ 3000) ∧ xs.length ≤ 8 ∧
        OwnB w.heap.size w' (.slice A bs.length c) bs ∧ OwnI w.heap.size w' (.slice At xs.length ct) xs ∧ RdO w' g (K + 400) ∧ w.grownBy w' (some g) := by
  obtain ⟨hK0, hK1⟩ := hK
  obtain ⟨hm0, hm1⟩ := hm
  have hgw := hR.lt
  obtain ⟨i0, hi0, hz0, hz1, hz2⟩ := info_parts infoI
  have hY1 : ZB w ((w.alloc (.cells #[.int .i64 0, .slice none 0 0] 25)).alloc (.cells #[.int .i64 0, .slice none 0 0] 70)) w.heap.size := (zb_new (w0 := w) (W := w) (t := 25) (Nat.le_refl _)).below (by go_grown)
  have hY2 : ZB w ((w.alloc (.cells #[.int .i64 0, .slice none 0 0] 25)).alloc (.cells #[.int .i64 0, .slice none 0 0] 70)) (w.heap.size + 1) := by
    have h := zb_new (w0 := w) (W := w.alloc (.cells #[.int .i64 0, .slice none 0 0] 25)) (t := 70) (by simp)
    simp only [World.size_alloc] at h
    exact h
  have hRW := (hR.alloc (.cells #[.int .i64 0, .slice none 0 0] 25)).alloc (.cells #[.int .i64 0, .slice none 0 0] 70)
  have hGW := gr_alloc (gr_new w (.cells #[.int .i64 0, .slice none 0 0] 25) (some g)) (.cells #[.int .i64 0, .slice none 0 0] 70)
  have hsW : ((w.alloc (.cells #[.int .i64 0, .slice none 0 0] 25)).alloc (.cells #[.int .i64 0, .slice none 0 0] 70)).heap.size = w.heap.size + 2 := by simp
  clear hR
  go_enter Try.func154, Try.ntmps154
  go_upto_region 1 with fail
  generalize (w.alloc (.cells #[.int .i64 0, .slice none 0 0] 25)).alloc (.cells #[.int .i64 0, .slice none 0 0] 70) = W at hY1 hY2 hRW hGW hsW ⊢
  go_upto_region 2 with (go_at_call 88; go_fit (joined_c g K 12 _ (by omega) (by omega) hRW); rintro e w1 ⟨n, A, c, bs, rfl, hn, hlen, _, hown, hR1, G1⟩)
  rw [hsW] at hown
  have hbX : ∀ k, (Value.slice A bs.length c).ownBlock = some k → k < w1.heap.size := fun k hk => (hown.lt k hk).2
  have hwX : w.heap.size + 1 < w1.heap.size := by have := G1.size; omega
  obtain ⟨b, hrd⟩ := OwnB.readsA hown
  have hb2 : Below w1.heap.size w1 (w1.alloc (.cells #[.int .i64 n, .slice A bs.length c] 25)) := by go_grown
  have hP := rp_new (n := n) (c := c) (t := 25) hrd
  have hG2 := gr_below (gr_pick hGW G1) hb2
  have hR2 := hR1.below hb2
  have hY12 := (hY1.grown G1 (fun q e => by injection e with e; omega)).below hb2
  have hY22 := (hY2.grown G1 (fun q e => by injection e with e; omega)).below hb2
  have hown2 := own_below hown hb2
  have hXT : w1.heap.size < (w1.alloc (.cells #[.int .i64 n, .slice A bs.length c] 25)).heap.size := by simp
  clear hY1 hY2 hRW hGW hsW hown hR1 G1 hrd hb2
  generalize w1.alloc (.cells #[.int .i64 n, .slice A bs.length c] 25) = W2 at hP hG2 hR2 hY12 hY22 hown2 hXT ⊢
  generalize w1.heap.size = X at hP hbX hwX hXT ⊢
  have p0 := hP.c0
  have p1 := hP.c1
  have hbl : bs.length ≤ 2000000 := by omega
  obtain ⟨s0, ok, hs0⟩ : ∃ s0 ok, stateNew ⟨n, bs⟩ = (s0, ok) := ⟨_, _, rfl⟩
  have Hs0 := hide hs0
  go_upto_region 3 with (go_at_call 140; go_fit (sNew_c ⟨n, bs⟩ s0 ok Hs0.out A b 0 c _ _ hbl (Nat.le_refl _) hP.rd); rintro e w3 ⟨A3, c3, g3, rfl, hr3, hown3, hb3⟩)
  obtain ⟨hO, hbO⟩ := os_new (t := 70) (now := s0.now) hb3.size hr3 hown3
  have hb4 := bthen hb3 hbO
  have hD : DS w _ g (K + 200) W2.heap.size X w3.heap.size b g3 n A c bs s0 A3 c3 := ⟨gr_below hG2 hb4, hR2.below hb4, hP.below hb4, hO, hY12.below hb4, hY22.below hb4, own_below hown2 hb4⟩
  clear hb3 hb4 hbO hO hr3 hown3 hP hG2 hR2 hY12 hY22 hown2 p0 p1
  generalize w3.alloc (.cells #[.int .i64 s0.now, .slice A3 s0.done.length c3] 70) = W4 at hD ⊢
  generalize w3.heap.size = Z at hD ⊢
  generalize W2.heap.size = T at hD hXT ⊢
  cases hf : fits ⟨n, bs⟩
  · have e : (s0, ok) = (⟨0, []⟩, false) := by rw [← hs0]; unfold stateNew; rw [hf]; rfl
    injection e with e1 e2
    subst e1 e2
    clear hf hs0 Hs0
    have p0 := hD.pl.c0
    have p1 := hD.pl.c1
    have hXx := hD.pl.ex
    have hsz := hD.gr.size
    have hsz2 := hD.y2.ex
    have hb5 : Below W4.heap.size W4 (W4.alloc (.cells #[.int .i64 0] 3)) := by go_grown
    have hD5 := hD.below hb5
    have ho5 : OwnI (w.heap.size + 2) (W4.alloc (.cells #[.int .i64 0] 3)) (.slice (some ⟨W4.heap.size, 0, none⟩) 1 1) [0] := own_one (by omega)
    obtain ⟨r0, r1, u0, u1, q1, q2, q3, q4⟩ := DS.fin (q := 0) (xs := [0]) (A2 := some ⟨W4.heap.size, 0, none⟩) (c2 := 1) (n := n) hD5.gr hD5.rd hD5.y1 hD5.y2 hD5.own hgw ho5
    have y10 := hD5.y1.z0
    have y11 := hD5.y1.z1
    have y1f0 := hD5.y1.zf 0
    have y1f1 := hD5.y1.zf 1
    have y20 := hD5.y2.z0
    have y21 := hD5.y2.z1
    have y2f0 := hD5.y2.zf 0
    have y2f1 := hD5.y2.zf 1
    have x10 := hD.y1.z0
    have x11 := hD.y1.z1
    have x1f0 := hD.y1.zf 0
    have x1f1 := hD.y1.zf 1
    have x20 := hD.y2.z0
    have x21 := hD.y2.z1
    have x2f0 := hD.y2.zf 0
    have x2f1 := hD.y2.zf 1
    have y1x := hD.y1.ex
    have hfx : w.heap.size < W4.heap.size := y1x
    have hfx2 : w.heap.size + 1 < W4.heap.size := hsz2
    have hE : ∀ a b c d : Value, (((((W4.alloc (.cells #[.int .i64 0] 3)).setCell ⟨w.heap.size, 0, none⟩ a).setCell ⟨w.heap.size, 1, none⟩ b).setCell ⟨w.heap.size + 1, 0, none⟩ c).setCell ⟨w.heap.size + 1, 1, none⟩ d) = ((((W4.setCell ⟨w.heap.size, 0, none⟩ a).setCell ⟨w.heap.size, 1, none⟩ b).setCell ⟨w.heap.size + 1, 0, none⟩ c).setCell ⟨w.heap.size + 1, 1, none⟩ d).alloc (.cells #[.int .i64 0] 3) := by
      intro a b c d
      rw [World.setCell_alloc_past (hn := hfx), World.setCell_alloc_past (hn := by simpa using hfx), World.setCell_alloc_past (hn := by simpa using hfx2), World.setCell_alloc_past (hn := by simpa using hfx2)]
    dsimp only [List.length_cons, List.length_nil, Nat.zero_add] at r0 r1 u0 u1 q1 q2 q3 q4
    rw [hE] at r0 r1 u0 u1 q1 q2 q3 q4
    clear hE
    go_wp2_with fail
    refine bodyPost_ret (v := .tuple #[.agg #[.int .i64 n, .slice A bs.length c], .agg #[.int .i64 0, .slice (some ⟨W4.heap.size, 0, none⟩) 1 1]]) (by simp [results, Try.results154, go_sem, r0, r1, u0, u1]) rfl ?_
    exact ⟨n, A, c, bs, 0, some ⟨W4.heap.size, 0, none⟩, 1, [0], rfl, hn, hlen, by omega, by simp, q1, q2, q3.more (by omega), q4⟩
  · have e : ok = true := by have h := hs0; unfold stateNew at h; rw [hf] at h; injection h with _ h2; exact h2.symm
    subst e
    have Hso0 : Hid (stateOk ⟨n, bs⟩ s0 = true) := by unfold Hid; have h := stateNew_ok hf; rw [hs0] at h; exact h
    have hl2000 : ∀ q : St, stateOk ⟨n, bs⟩ q = true → q.done.length ≤ 6 ∧ 1 ≤ q.done.length ∧ 0 ≤ q.now ∧ q.now ≤ 2000 := fun q h => by
      have h1 := (stateOk_iff.1 h).len
      have h6 := nn_ok (planOk_of_fits hf)
      have h2 := (stateOk_iff.1 h).now
      omega
    have Hl := hide hl2000
    clear hf hs0 Hs0 hl2000
    have p0 := hD.pl.c0
    go_wp2_with (go_at_call 89; go_fit (pick_c g (K + 200) _ _ (by omega) (by omega) hD.rd); rintro e w5 ⟨v0, rfl, a1, a2, _, hR5, G5, _⟩)
    have a3 := a2 (by omega)
    obtain ⟨jn, rfl⟩ := Int.eq_ofNat_of_zero_le a1
    have hD5 := hD.pick hgw hXT hwX hR5 G5
    clear hD hR5 G5 a1 a2 p0
    go_loopg [9] (jn + 1) (fun gh s9 wr => ∃ (j : Nat) (s : St) (At : Option Addr) (ct gt : Nat), gh = j + 1 ∧ s9 = .int .i64 j ∧ j ≤ 5 ∧ Hid (stateOk ⟨n, bs⟩ s = true) ∧ DS w wr g (K + 300 - 10 * (j : Int)) T X Z b gt n A c bs s At ct)
    case atStart => exact ⟨jn, s0, A3, c3, g3, rfl, rfl, by omega, Hso0, ⟨hD5.gr, hD5.rd.more (by omega), hD5.pl, hD5.os, hD5.y1, hD5.y2, hD5.own⟩⟩
    case round =>
      clear hD5 a3 Hso0
      obtain ⟨j, s, At, ct, gt, rfl, rfl, hj5, Hso, hD⟩ := hrel
      obtain ⟨hsl, hsl1, hnow0, hnow1⟩ := Hl.out s Hso.out
      have hsl' : s.done.length ≤ 2000000 := by omega
      have p0 := hD.pl.c0
      have p1 := hD.pl.c1
      have s0 := hD.os.rs.c0
      have s1 := hD.os.rs.c1
      by_cases hj : j = 0
      · subst hj
--BEGIN t
        clear p0 p1 s0 s1
        go_upto_region 16 with fail
        go_cut [82] (fun s82 wx => (s82 = .bool true ∨ s82 = .bool false) ∧ DS w wx g (K + 301) T X Z b gt n A c bs s At ct)
        case first =>
          go_wp2_with (go_at_call 151; go_fit (odd_c g (K + 300 - 10 * ((0 : Nat) : Int)) m _ (by omega) (by omega) hD.rd); rintro e w6 ⟨v, rfl, hR6, G6, _⟩; replace hD := hD.pick hgw hXT hwX hR6 G6)
          go_meet
          case rel => exact ⟨by cases v <;> simp, hD.more (by omega)⟩
        case rest =>
          clear hD
          obtain ⟨hv, hD⟩ := hcut
          go_upto_if 82 with fail
          go_cut [] (fun wx => ∃ (s : St) (At : Option Addr) (ct gt : Nat), (0 ≤ s.now ∧ s.now ≤ 3000) ∧ s.done.length ≤ 8 ∧ DS w wx g (K + 310) T X Z b gt n A c bs s At ct)
          case first =>
            rcases hv with rfl | rfl
            · go_upto_region 17 with fail
              go_cut [84] (fun s84 wx => (s84 = .int .i64 0 ∨ s84 = .int .i64 1 ∨ s84 = .int .i64 2 ∨ s84 = .int .i64 3) ∧ DS w wx g (K + 302) T X Z b gt n A c bs s At ct)
              case first =>
                go_wp2_with (go_at_call 89; go_fit (pick_c g (K + 301) _ _ (by omega) (by omega) hD.rd); rintro e w8 ⟨v4, rfl, d1, d2, _, hR8, G8, _⟩; replace hD := hD.pick hgw hXT hwX hR8 G8; have d3 := d2 (by omega))
                go_meet
                case rel =>
                  have h4 : v4 = 0 ∨ v4 = 1 ∨ v4 = 2 ∨ v4 = 3 := by omega
                  refine ⟨?_, hD.more (by omega)⟩
                  rcases h4 with rfl | rfl | rfl | rfl <;> simp
              case rest =>
                clear hD
                obtain ⟨hv, hD⟩ := hcut
                have p0 := hD.pl.c0
                have p1 := hD.pl.c1
                have s0 := hD.os.rs.c0
                have s1 := hD.os.rs.c1
                have sf0 := hD.os.fz 0
                have sf1 := hD.os.fz 1
                rcases hv with rfl | rfl | rfl | rfl
                · go_upto_region 20 with fail
                  go_region_with (go_at_call 89; go_fit (pick_c g (K + 302) _ _ (by omega) (by omega) hD.rd.drew); rintro e w9 ⟨v5, rfl, e1, e2, _, hR9, G9, _⟩; have hD9 := (hD.below (show Below wc.heap.size wc wc.drew by go_grown)).pick hgw hXT hwX hR9 G9; have u0 := hD9.os.rs.c0; have uf0 := hD9.os.fz 0)
                  all_goals (
                    have e3 := e2 (by omega)
                    have hwr : IntKind.i64.wrap (s.now + v5) = s.now + v5 := IntWalk.i64_in _ (by omega)
                    rw [hwr]
                    have hD10 := hD9.setNow (v := s.now + v5) hgw hXT hwX hbX
                    go_wp2_with fail
                    clear u0 uf0 G9 p0 p1 s0 s1 sf0 sf1 hD hD9
                    generalize w9.setCell ⟨Z, 0, none⟩ (.int .i64 (s.now + v5)) = W9 at hD10 ⊢
                    have hnB0 : 0 ≤ s.now + v5 ∧ s.now + v5 ≤ 3000 := by omega
                    have hxB0 : s.done.length ≤ 8 := by omega
                    clear hwr Hso hsl hsl' hsl1 hnow0 hnow1
                    have hDn := hD10
                    go_meet
                    case rel => exact ⟨⟨s.now + v5, s.done⟩, _, _, _, hnB0, hxB0, hDn.more (by omega)⟩
                  )
--BEGIN c1
                · obtain ⟨hA, d0, df0, hD2⟩ := hD.setDone (v := 1) (k := 0) hgw hXT hwX hbX hsl1
                  subst hA
                  have hsz : (0 : Int) < (s.done.length : Int) := by omega
                  go_wp2_with fail
                  have hnB0 : 0 ≤ s.now ∧ s.now ≤ 3000 := by omega
                  have hxB0 : (s.done.set 0 1).length ≤ 8 := by rw [List.length_set]; omega
                  clear p0 p1 s0 s1 sf0 sf1 hD d0 df0 hsz Hso hsl hsl' hsl1 hnow0 hnow1
                  generalize wc.setCell ⟨gt, 0, none⟩ (.int .i64 1) = W9 at hD2 ⊢
                  obtain ⟨At, hAt⟩ : ∃ x, x = some (⟨gt, 0, none⟩ : Addr) := ⟨_, rfl⟩
                  rw [← hAt] at hD2
                  clear hAt
                  have hDn := hD2
                  go_meet
                  case rel => exact ⟨⟨s.now, s.done.set 0 1⟩, _, _, _, hnB0, hxB0, hDn.more (by omega)⟩
--END c1
--BEGIN c2
                · have hOx := hD.os.rs.ex
                  have hTz := hD.os.lo
                  have hl6 : s.done.length ≤ 6 := hsl
                  go_wp2_with (at_builtin; refine app_list _ rfl (.tmp 111) (.tmp 112) _ rfl T 3 i0 _ 1 8 Try.underlying44 hi0 hz0 hz1 hz2 rfl (by omega) (.slice At s.done.length ct) s.done.length (s.done.map (Value.int .i64)) rfl (hD.os.own.alloc _) _ 1 _ [.int .i64 0] rfl rfl (NewsAt.block (cs := #[.int .i64 0]) (at_new rfl)) (by simp [Value.oneCell']) (by omega) (by omega) (by simp only [World.size_alloc]; omega) ?_; intro A4 c4 w4 hown4 hg4 hat4; obtain ⟨k0, k1, kf1, g5, hD5⟩ := hD.app hgw hXT hwX hbX hg4 hown4 hat4)
                  have hnB0 : 0 ≤ s.now ∧ s.now ≤ 3000 := by omega
                  have hxB0 : (s.done ++ [(0 : Int)]).length ≤ 8 := by rw [List.length_append]; simp; omega
                  clear p0 p1 s0 s1 sf0 sf1 hD Hso hsl hsl' hsl1 hnow0 hnow1 k0 k1 kf1 hown4 hg4 hat4 hOx hTz hl6
                  generalize w4.setCell ⟨Z, 1, none⟩ (.slice A4 (s.done.length + 1) c4) = W9 at hD5 ⊢
                  obtain ⟨At, hAt⟩ : ∃ x, x = A4 := ⟨_, rfl⟩
                  obtain ⟨ct, hct⟩ : ∃ x, x = c4 := ⟨_, rfl⟩
                  rw [← hAt, ← hct] at hD5
                  clear hAt hct
                  have hDn := hD5
                  go_meet
                  case rel => exact ⟨⟨s.now, s.done ++ [(0 : Int)]⟩, _, _, _, hnB0, hxB0, hDn.more (by omega)⟩
--END c2
--BEGIN c3
                · have hA := hD.os.rs.rd.addr (by omega)
                  subst hA
                  have hlz : (s.done.length : Int) ≤ 6 := by omega
                  have hlz1 : (1 : Int) ≤ (s.done.length : Int) := by omega
                  go_upto_region 18 with fail
                  go_region_with (first
                    | (go_at_call 89; go_fit (pick_c g (K + 302) _ _ (by omega) (by omega) hD.rd.drew); rintro e w9 ⟨v6, rfl, f1, f2, _, hR9, G9, _⟩; have hD9 := (hD.below (show Below wc.heap.size wc wc.drew by go_grown)).pick hgw hXT hwX hR9 G9; have f3 := f2 (by omega); obtain ⟨k6, rfl⟩ := Int.eq_ofNat_of_zero_le f1; have u1 := hD9.os.rs.c1)
                    | (go_at_call 89; go_fit (pick_c g (K + 302 + 1) _ _ (by omega) (by omega) hR9); rintro e w10 ⟨v7, rfl, h1, h2, _, hR10, G10, _⟩; have hD10 := hD9.pick hgw hXT hwX hR10 G10; have h3 := h2 (by omega); have x1 := hD10.os.rs.c1; obtain ⟨_, d0, df0, hD11⟩ := hD10.setDone (v := v7) (k := k6) hgw hXT hwX hbX (by omega)))
                  all_goals (
                    go_wp2_with fail
                    have hnB0 : 0 ≤ s.now ∧ s.now ≤ 3000 := by omega
                    have hxB0 : (s.done.set k6 v7).length ≤ 8 := by rw [List.length_set]; omega
                    clear p0 p1 s0 s1 sf0 sf1 hD d0 df0 Hso hsl hsl' hsl1 hnow0 hnow1 hD9 hD10 u1 x1 G9 G10 hlz hlz1
                    generalize w10.setCell ⟨gt, k6, none⟩ (.int .i64 v7) = W9 at hD11 ⊢
                    obtain ⟨At, hAt⟩ : ∃ x, x = some (⟨gt, 0, none⟩ : Addr) := ⟨_, rfl⟩
                    rw [← hAt] at hD11
                    clear hAt
                    have hDn := hD11
                    go_meet
                    case rel => exact ⟨⟨s.now, s.done.set k6 v7⟩, _, _, _, hnB0, hxB0, hDn.more (by omega)⟩)
--END c3
            · have hnB0 : 0 ≤ s.now ∧ s.now ≤ 3000 := by omega
              have hxB0 : s.done.length ≤ 8 := by omega
              go_wp2_with fail
              go_meet
              case rel => exact ⟨s, _, _, _, hnB0, hxB0, hD.more (by omega)⟩
          case rest =>
            clear hD Hso hsl hsl' hsl1 hnow0 hnow1
            obtain ⟨s, At, ct, gt, hnB, hxB, hD⟩ := hcut
            go_upto_region 25 with fail
            have hZw : w.heap.size + 1 < Z := by have := hD.os.lo; omega
            have p0 := hD.pl.c0
            have p1 := hD.pl.c1
            have s0 := hD.os.rs.c0
            have s1 := hD.os.rs.c1
            have y10 := hD.y1.z0
            have y11 := hD.y1.z1
            have y1f0 := hD.y1.zf 0
            have y1f1 := hD.y1.zf 1
            have y20 := hD.y2.z0
            have y21 := hD.y2.z1
            have y2f0 := hD.y2.zf 0
            have y2f1 := hD.y2.zf 1
            have n1 : ¬ Z = w.heap.size := by omega
            have n2 : ¬ Z = w.heap.size + 1 := by omega
            have n3 : ¬ X = w.heap.size := by omega
            have n4 : ¬ X = w.heap.size + 1 := by omega
            have n5 : ¬ w.heap.size = Z := by omega
            have n6 : ¬ w.heap.size + 1 = Z := by omega
            have n7 : ¬ w.heap.size = X := by omega
            have n8 : ¬ w.heap.size + 1 = X := by omega
            go_region
            have hT2 : w.heap.size + 2 ≤ T := by omega
            obtain ⟨r0, r1, u0, u1, q1, q2, q3, q4⟩ := DS.fin (q := s.now) (xs := s.done) (A2 := At) (c2 := ct) (n := n) hD.gr hD.rd hD.y1 hD.y2 hD.own hgw (own_less hD.os.own hT2)
            replace q1 := own_below q1 (drew_bel3 _)
            replace q2 := own_below q2 (drew_bel3 _)
            replace q3 := q3.drew
            replace q4 := gr_below q4 (drew_bel3 _)
            go_wp2_with fail
            refine bodyPost_ret (v := .tuple #[.agg #[.int .i64 n, .slice A bs.length c], .agg #[.int .i64 s.now, .slice At s.done.length ct]]) (by simp [results, Try.results154, go_sem, r0, r1, u0, u1]) rfl ?_
            exact ⟨n, A, c, bs, s.now, At, ct, s.done, rfl, hn, hlen, hnB, hxB, q1, q2, q3.more (by omega), q4⟩
--END t
      · skip
--BEGIN r
        have hjz : (0 : Int) < (j : Int) := by omega
        obtain ⟨j', rfl⟩ : ∃ j', j = j' + 1 := ⟨j - 1, by omega⟩
        go_upto_region 11 with (first
          | (go_at_call 89; go_fit (pick_c g (K + 300 - 10 * ((j' + 1 : Nat) : Int)) _ _ (by omega) (by omega) hD.rd); rintro e w6 ⟨v1, rfl, b1, b2, _, hR6, G6, _⟩; replace hD := hD.pick hgw hXT hwX hR6 G6; clear p0 p1 s0 s1 hR6 G6; have p0 := hD.pl.c0; have p1 := hD.pl.c1; have s0 := hD.os.rs.c0; have s1 := hD.os.rs.c1)
          | (go_at_call 127; go_fit (sWindowOf_c ⟨n, bs⟩ s v1 A At b 0 c gt 0 ct _ _ hbl hsl' (Nat.le_refl _) hD.pl.rd hD.os.rs.rd); rintro e w7 ⟨rfl, hb7⟩; replace hD := hD.below hb7; clear p0 p1 s0 s1 hb7; have p0 := hD.pl.c0; have p1 := hD.pl.c1; have s0 := hD.os.rs.c0; have s1 := hD.os.rs.c1))
        have hwa := window_abs (p := ⟨n, bs⟩) (s := s) (pt := v1)
        generalize (window ⟨n, bs⟩ s v1).1 = lo at hwa ⊢
        generalize (window ⟨n, bs⟩ s v1).2.1 = hi at hwa ⊢
        generalize (window ⟨n, bs⟩ s v1).2.2 = ok at hwa ⊢
        obtain ⟨⟨lo1, lo2⟩, hi1, hi2⟩ := hwa
        go_cut [61] from 31 to 79 (fun s61 wx => ((s61 = .bool true ∧ hi - lo < 100 ∧ lo ≤ hi) ∨ s61 = .bool false) ∧ DS w wx g (K + 300 - 10 * ((j' + 1 : Nat) : Int) + 2) T X Z b gt n A c bs s At ct)
        case first =>
          go_wp2_with (go_at_call 89; go_fit (pick_c g (K + 300 - 10 * ((j' + 1 : Nat) : Int) + 1) _ _ (by omega) (by omega) hD.rd); rintro e w8 ⟨v2, rfl, d1, d2, _, hR8, G8, _⟩; replace hD := hD.pick hgw hXT hwX hR8 G8; clear p0 p1 s0 s1 hR8 G8)
          all_goals (
            go_meet
            case rel =>
              refine ⟨?_, hD.more (by omega)⟩
              first | exact .inr rfl | (by_cases hlh : lo ≤ hi <;> first | exact .inl ⟨by simp [hlh], by omega, hlh⟩ | exact .inr (by simp [hlh])))
        case rest =>
          clear hD p0 p1 s0 s1
          obtain ⟨hb61, hD⟩ := hcut
          have p0 := hD.pl.c0
          have p1 := hD.pl.c1
          have s0 := hD.os.rs.c0
          have s1 := hD.os.rs.c1
          rcases hb61 with ⟨rfl, hr1, hr2⟩ | rfl
          · go_upto_region 13 with (go_at_call 89; go_fit (pick_c g (K + 300 - 10 * ((j' + 1 : Nat) : Int) + 2) _ _ (by omega) (by omega) hD.rd); rintro e w9 ⟨v3, rfl, e1, e2, _, hR9, G9, _⟩; replace hD := hD.pick hgw hXT hwX hR9 G9; clear p0 p1 s0 s1 hR9 G9; have p0 := hD.pl.c0; have p1 := hD.pl.c1; have s0 := hD.os.rs.c0; have s1 := hD.os.rs.c1)
            have e3 := e2 (by omega)
            obtain ⟨t, ht⟩ : ∃ t, lo + v3 = t := ⟨_, rfl⟩
            rw [ht]
            clear ht
            obtain ⟨q, dn, hd⟩ : ∃ q dn, doAt ⟨n, bs⟩ s v1 t = (q, dn) := ⟨_, _, rfl⟩
            have Hd := hide hd
            cases dn
            · clear hd
              go_wp2_with (go_at_call 62; go_fit (sDoAt_c ⟨n, bs⟩ s v1 t q false Hd.out A At b 0 c gt 0 ct _ _ hbl hsl' (Nat.le_refl _) hD.pl.rd hD.os.rs.rd); rintro e w10 ⟨A6, c6, g6, rfl, _, _, hb10⟩)
              have hD2 := hD.below (bthen hb10 (show Below w10.heap.size w10 (w10.alloc (.cells #[.int .i64 q.now, .slice A6 q.done.length c6] 70)) by go_grown))
              go_roundg (j' + 1)
              case measure => go_light; omega
              case rel => go_light; exact ⟨j', s, At, ct, gt, rfl, by go_num, by omega, Hso, hD2.more (by omega)⟩
            · have Hqo : Hid (stateOk ⟨n, bs⟩ q = true) := doAt_ok hd
              clear hd
              go_wp2_with (go_at_call 62; go_fit (sDoAt_c ⟨n, bs⟩ s v1 t q true Hd.out A At b 0 c gt 0 ct _ _ hbl hsl' (Nat.le_refl _) hD.pl.rd hD.os.rs.rd); rintro e w10 ⟨A6, c6, g6, rfl, _, hown6, hb10⟩; have hD6 := hD.below hb10; have hZx := hD6.os.rs.ex; have x0 := hD6.os.rs.c0; have x1 := hD6.os.rs.c1; have xf0 := hD6.os.fz 0; have xf1 := hD6.os.fz 1; have hD7 := hD6.below (show Below w10.heap.size w10 (w10.alloc (.cells #[.int .i64 q.now, .slice A6 q.done.length c6] 70)) by go_grown); have y0 := hD7.os.rs.c0; have y1 := hD7.os.rs.c1; have yf0 := hD7.os.fz 0; have yf1 := hD7.os.fz 1)
              have hZl := hD.os.lo
              have hZw := hD.os.rs.ex
              obtain ⟨g7, hD8⟩ := hD6.put (q := q) (A2 := A6) (c2 := c6) hgw hXT hwX hbX (own_less hown6 (by omega)) (fun e => by have h1 := (hown6.lt _ e).1; omega)
              have hD9 := hD8.below (show Below _ _ (((w10.setCell ⟨Z, 0, none⟩ (.int .i64 q.now)).setCell ⟨Z, 1, none⟩ (.slice A6 q.done.length c6)).alloc (.cells #[.int .i64 q.now, .slice A6 q.done.length c6] 70)) by go_grown)
              go_roundg (j' + 1)
              case measure => go_light; omega
              case rel => go_light; exact ⟨j', q, A6, c6, g7, rfl, by go_num, by omega, Hqo, hD9.more (by omega)⟩
          · go_upto_region 13 with fail
            generalize lo = t
            obtain ⟨q, dn, hd⟩ : ∃ q dn, doAt ⟨n, bs⟩ s v1 t = (q, dn) := ⟨_, _, rfl⟩
            have Hd := hide hd
            cases dn
            · clear hd
              go_wp2_with (go_at_call 62; go_fit (sDoAt_c ⟨n, bs⟩ s v1 t q false Hd.out A At b 0 c gt 0 ct _ _ hbl hsl' (Nat.le_refl _) hD.pl.rd hD.os.rs.rd); rintro e w10 ⟨A6, c6, g6, rfl, _, _, hb10⟩)
              have hD2 := hD.below (bthen hb10 (show Below w10.heap.size w10 (w10.alloc (.cells #[.int .i64 q.now, .slice A6 q.done.length c6] 70)) by go_grown))
              go_roundg (j' + 1)
              case measure => go_light; omega
              case rel => go_light; exact ⟨j', s, At, ct, gt, rfl, by go_num, by omega, Hso, hD2.more (by omega)⟩
            · have Hqo : Hid (stateOk ⟨n, bs⟩ q = true) := doAt_ok hd
              clear hd
              go_wp2_with (go_at_call 62; go_fit (sDoAt_c ⟨n, bs⟩ s v1 t q true Hd.out A At b 0 c gt 0 ct _ _ hbl hsl' (Nat.le_refl _) hD.pl.rd hD.os.rs.rd); rintro e w10 ⟨A6, c6, g6, rfl, _, hown6, hb10⟩; have hD6 := hD.below hb10; have hZx := hD6.os.rs.ex; have x0 := hD6.os.rs.c0; have x1 := hD6.os.rs.c1; have xf0 := hD6.os.fz 0; have xf1 := hD6.os.fz 1; have hD7 := hD6.below (show Below w10.heap.size w10 (w10.alloc (.cells #[.int .i64 q.now, .slice A6 q.done.length c6] 70)) by go_grown); have y0 := hD7.os.rs.c0; have y1 := hD7.os.rs.c1; have yf0 := hD7.os.fz 0; have yf1 := hD7.os.fz 1)
              have hZl := hD.os.lo
              have hZw := hD.os.rs.ex
              obtain ⟨g7, hD8⟩ := hD6.put (q := q) (A2 := A6) (c2 := c6) hgw hXT hwX hbX (own_less hown6 (by omega)) (fun e => by have h1 := (hown6.lt _ e).1; omega)
              have hD9 := hD8.below (show Below _ _ (((w10.setCell ⟨Z, 0, none⟩ (.int .i64 q.now)).setCell ⟨Z, 1, none⟩ (.slice A6 q.done.length c6)).alloc (.cells #[.int .i64 q.now, .slice A6 q.done.length c6] 70)) by go_grown)
              go_roundg (j' + 1)
              case measure => go_light; omega
              case rel => go_light; exact ⟨j', q, A6, c6, g7, rfl, by go_num, by omega, Hqo, hD9.more (by omega)⟩
--END r
end Go.Proofs.Ytjlaljnffmncpaa
