/-
  spec: l12Lengths, LengthsOf.
-/
import Derived.Test.YtofodhdpppjaoaaS81
namespace Go.Proofs.Ytofodhdpppjaoaa
set_option linter.unusedVariables false
set_option linter.unusedSimpArgs false
open Go Go.RowKit Pp

/-- A part in a row of marks: its last mark, and what lies before it. -/
theorem mk_app {w : World} {B b o : Nat} {A : Option Addr} {t1 t2 : List Mk} (h : MkR w B b o A (t1 ++ t2)) : MkR w B b o A t1 ∧ MkR w B b (o + t1.length * 3) (some ⟨b, o + t1.length * 3, none⟩) t2 := by
  have h1 := h.take t1.length
  have h2 := h.drop t1.length (A' := some ⟨b, o + t1.length * 3, none⟩) (fun _ => rfl)
  rw [List.take_left] at h1
  rw [List.drop_left] at h2
  exact ⟨h1, h2⟩
theorem mk_end {w : World} {B b o : Nat} {A : Option Addr} {t1 : List Mk} {m : Mk} (h : MkR w B b o A (t1 ++ [m])) :
    A = some ⟨b, o, none⟩ ∧ b < B ∧ w.cell? ⟨b, o + t1.length * 3, none⟩ = some (.int .i64 m.k) ∧ w.cell? ⟨b, o + t1.length * 3 + 1, none⟩ = some (.int .i64 m.l) ∧ w.cell? ⟨b, o + t1.length * 3 + 2, none⟩ = some (.int .i64 m.h) := by
  have hx : (t1 ++ [m])[t1.length]? = some m := by simp
  exact ⟨h.addr (by simp), h.lt (by simp), mk_cells h hx⟩

theorem lenV_dec {x y : Int} {o : Option (Int × Int)} {p : Prop} [Decidable p] (h : o = if p then some (x, y) else none) : LenV o (.tuple #[.int .i64 x, .int .i64 y, .bool (decide p)]) := by
  by_cases h1 : p
  · rw [if_pos h1] at h; rw [decide_eq_true h1]; exact lenV_yes h
  · rw [if_neg h1] at h; rw [decide_eq_false h1]; exact lenV_no _ _ h
def lens2thn (x y u v : Int) : Option (Int × Int) := some (x + u, y + v)
def lens2bth (x y u v : Int) : Option (Int × Int) := if max x u ≤ min y v then some (max x u, min y v) else none
set_option maxHeartbeats 4000000 in
set_option maxRecDepth 100000 in
theorem l12Lengths_q : ∀ (a : Tm) (A : Option Addr) (b o c : Nat) (w : World), a.fine → a.size ≤ 20 → a.marks.length ≤ c → MkR w w.heap.size b o A a.marks →
    Calls Try.prog 61 #[.slice A a.marks.length c] w fun e w' => ∃ v, e = .returned v ∧ LenV a.lens v ∧ Below w.heap.size w w' := by
  intro a
  induction a with
  | step l h =>
    intro A b o c w hf hs hc hR
    have hR' : MkR w w.heap.size b o A ([] ++ [⟨0, l, h⟩]) := hR
    obtain ⟨rfl, hbl, d0, d1, d2⟩ := mk_end hR'
    simp only [List.length_nil, Nat.zero_mul, Nat.add_zero] at d0 d1 d2
    rw [show (Tm.step l h).marks.length = 0 + 1 from rfl]
    clear hR hR' hc
    have hal : Below w.heap.size w (w.alloc (.cells #[.int .i64 0, .int .i64 l, .int .i64 h] 43)) := by go_grown
    have hM := mb_new w ⟨0, l, h⟩ 43
    have hRa2 : True := trivial
    go_enter Try.func61, Try.ntmps61
    go_upto_region 3 with fail
    generalize w.alloc (.cells #[.int .i64 0, .int .i64 l, .int .i64 h] 43) = W at hal hM hRa2 ⊢
    generalize w.heap.size = V at hM ⊢
    have v0 := hM.c0
    have v1 := hM.c1
    have v2 := hM.c2
    dsimp only at v0 v1 v2
    go_upto_region 4 with fail
    go_region
    go_wp2_with fail
    go_ret3
    exact ⟨_, rfl, lenV_yes rfl, bthen hal (by go_grown)⟩
  | wth a h ih0 =>
    intro A b o c w hf hs hc hR
    obtain ⟨hf0, hh1, hh2⟩ := hf
    have hR' : MkR w w.heap.size b o A (a.marks ++ [⟨3, 0, h⟩]) := hR
    obtain ⟨rfl, hbl, d0, d1, d2⟩ := mk_end hR'
    have hRa := (mk_app hR').1
    have hml := a.marks_len
    obtain ⟨n, hn⟩ : ∃ n, a.marks.length = n := ⟨_, rfl⟩
    have hn20 : n ≤ 20 := by rw [← hn, hml]; simp only [Tm.size] at hs; omega
    have hlen : (Tm.wth a h).marks.length = n + 1 := by simp [Tm.marks, hn]
    rw [hlen] at hc ⊢
    rw [hn] at d0 d1 d2
    have hcall := fun wq hq => ih0 (some ⟨b, o, none⟩) b o c wq hf0 (by simp only [Tm.size] at hs; omega) (by omega) hq
    rw [hn] at hcall
    have Hc := hide hcall
    have Hl : Hid ((Tm.wth a h).lens = match a.lens with | some (x, y) => if x ≤ h then some (x, min y h) else none | none => none) := rfl
    clear hR hR' hml hn hlen hcall ih0
    have hal : Below w.heap.size w (w.alloc (.cells #[.int .i64 3, .int .i64 0, .int .i64 h] 43)) := by go_grown
    have hM := mb_new w ⟨3, 0, h⟩ 43
    have hRa2 := (hRa.below hal).more hal.size
    clear hRa
    go_enter Try.func61, Try.ntmps61
    go_upto_region 3 with fail
    generalize w.alloc (.cells #[.int .i64 3, .int .i64 0, .int .i64 h] 43) = W at hal hM hRa2 ⊢
    generalize w.heap.size = V at hM ⊢
    have v0 := hM.c0
    have v1 := hM.c1
    have v2 := hM.c2
    dsimp only at v0 v1 v2
    cases hl : a.lens with
    | none =>
      have Hr : Hid ((Tm.wth a h).lens = none) := by rw [Hid, Hl.out, hl]
      have Ha0 := hide hl
      clear hl Hl
      go_upto_region 7 with (go_at_call 61; refine (Hc.out _ hRa2).mono ?_; rintro e w2 ⟨v, rfl, ⟨x0, y0, rfl, hxy⟩, hb0⟩; rw [Ha0.out])
      have hM2 := hM.below hb0
      clear v0 v1 v2
      have v2 := hM2.c2
      dsimp only at v2
      obtain ⟨mn, hmn⟩ : ∃ mn, (if h < y0 then h else y0) = mn := ⟨_, rfl⟩
      have Hxy := hide hxy
      clear hxy
      go_quiet (fail)
      go_wp2_with fail
      go_ret3
      exact ⟨_, rfl, lenV_no _ _ Hr.out, bthen hal (bthen hb0 (bel_drewN _ _))⟩
    | some uv =>
      obtain ⟨u, v⟩ := uv
      obtain ⟨mn, hmn⟩ : ∃ mn, (if h < v then h else v) = mn := ⟨_, rfl⟩
      have Hr : Hid ((Tm.wth a h).lens = if u ≤ h then some (u, mn) else none) := by
        rw [Hid, Hl.out, hl]
        dsimp only
        rw [show min v h = mn by rw [← hmn]; split <;> omega]
      have Ha0 := hide hl
      clear hl Hl
      go_upto_region 7 with (go_at_call 61; refine (Hc.out _ hRa2).mono ?_; rintro e w2 ⟨v, rfl, ⟨x0, y0, rfl, hxy⟩, hb0⟩; rw [Ha0.out]; obtain ⟨rfl, rfl⟩ := hxy _ _ Ha0.out; clear hxy)
      have hM2 := hM.below hb0
      clear v0 v1 v2
      have v2 := hM2.c2
      dsimp only at v2
      go_quiet (fail)
      go_wp2_with fail
      go_ret3
      exact ⟨_, rfl, lenV_dec Hr.out, bthen hal (bthen hb0 (bel_drewN _ _))⟩
  | thn a a' ih0 ih1 =>
    intro A b o c w hf hs hc hR
    obtain ⟨hf0, hf1⟩ := hf
    have hR' : MkR w w.heap.size b o A ((a.marks ++ a'.marks) ++ [⟨1, 0, 0⟩]) := hR
    obtain ⟨rfl, hbl, d0, d1, d2⟩ := mk_end hR'
    obtain ⟨hRa, hRb⟩ := mk_app (mk_app hR').1
    have hml := a.marks_len
    have hml' := a'.marks_len
    obtain ⟨n, hn⟩ : ∃ n, a.marks.length = n := ⟨_, rfl⟩
    obtain ⟨n', hn'⟩ : ∃ n, a'.marks.length = n := ⟨_, rfl⟩
    have hn20 : n + n' ≤ 20 := by rw [← hn, hml, ← hn', hml']; simp only [Tm.size] at hs; omega
    have hn1 : 1 ≤ n ∧ 1 ≤ n' := by rw [← hn, hml, ← hn', hml']; cases a <;> cases a' <;> simp [Tm.size]
    have hlen : (Tm.thn a a').marks.length = n + n' + 1 := by simp [Tm.marks, hn, hn']; omega
    rw [hlen] at hc ⊢
    rw [List.length_append, hn, hn'] at d0 d1 d2
    rw [hn] at hRb
    have hcall := fun wq hq => ih0 (some ⟨b, o, none⟩) b o c wq hf0 (by simp only [Tm.size] at hs; omega) (by omega) hq
    rw [hn] at hcall
    have hcall1 := fun wq hq => ih1 (some ⟨b, o + n * 3, none⟩) b (o + n * 3) (c - n) wq hf1 (by simp only [Tm.size] at hs; omega) (by omega) hq
    rw [hn'] at hcall1
    have hst := fun wq hq => l11Starts_c a' (Tm.thn a a').marks n (fun j x hx => by
      show ((a.marks ++ a'.marks) ++ [_])[n + j]? = some x
      rw [List.append_assoc, List.getElem?_append_right (by omega), hn, Nat.add_sub_cancel_left, List.getElem?_append_left (List.getElem?_eq_some_iff.1 hx).1]; exact hx) (by simp only [Tm.size] at hs; omega) (((n + n' : Nat) : Int) - 1) (by rw [← hml', hn']; omega) (some ⟨b, o, none⟩) b o c _ wq (Nat.le_refl _) hq (by rw [hlen]; omega)
    rw [hlen] at hst
    obtain ⟨hn1a, hn1b⟩ := hn1
    have Hst := hide hst
    have Hc := hide hcall
    have Hc1 := hide hcall1
    have Hl : Hid ((Tm.thn a a').lens = match a.lens, a'.lens with | some (x, y), some (u, v) => some (x + u, y + v) | _, _ => none) := rfl
    have hal : Below w.heap.size w (w.alloc (.cells #[.int .i64 1, .int .i64 0, .int .i64 0] 43)) := by go_grown
    have hM := mb_new w ⟨1, 0, 0⟩ 43
    have hRa2 := (hRa.below hal).more hal.size
    have hRb2 := (hRb.below hal).more hal.size
    have hRt2 := (hR.below hal).more hal.size
    clear hR hR' hml hml' hn hn' hlen hcall hcall1 hst ih0 ih1 hRa hRb
    go_enter Try.func61, Try.ntmps61
    go_upto_region 3 with fail
    generalize w.alloc (.cells #[.int .i64 1, .int .i64 0, .int .i64 0] 43) = W at hal hM hRa2 hRb2 hRt2 ⊢
    generalize w.heap.size = V at hM ⊢
    have v0 := hM.c0
    have v1 := hM.c1
    have v2 := hM.c2
    dsimp only at v0 v1 v2
    go_upto_region 9 with (go_at_call 74; refine (Hst.out _ hRt2).mono ?_; rintro e w9 ⟨rfl, rfl⟩)
    cases hl : a.lens with
    | none =>
      have Hr : Hid ((Tm.thn a a').lens = none) := by rw [Hid, Hl.out, hl]
      have Ha0 := hide hl
      clear hl Hl
      go_upto_region 10 with (go_at_call 61; refine (Hc.out _ hRa2).mono ?_; rintro e w2 ⟨v, rfl, ⟨x0, y0, rfl, hxy⟩, hb0⟩; rw [Ha0.out])
      have hM2 := hM.below hb0
      have hRb3 := (CsR.below hRb2 hb0).more hb0.size
      clear v0 v1 v2
      go_upto_region 11 with (go_at_call 61; refine (Hc1.out _ hRb3).mono ?_; rintro e w3 ⟨v, rfl, ⟨x1, y1, rfl, hxy1⟩, hb1⟩)
      have hM3 := hM2.below hb1
      have v0 := hM3.c0
      dsimp only at v0
      obtain ⟨mx, hmx⟩ : ∃ mx, (if x0 < x1 then x1 else x0) = mx := ⟨_, rfl⟩
      obtain ⟨mi, hmi⟩ : ∃ mi, (if y1 < y0 then y1 else y0) = mi := ⟨_, rfl⟩
      go_wp2_with fail
      go_ret3
      exact ⟨_, rfl, lenV_no _ _ Hr.out, bthen hal (bthen hb0 hb1)⟩
    | some uv =>
      obtain ⟨u, v⟩ := uv
      have Ha0 := hide hl
      cases hl1 : a'.lens with
      | none =>
        have Hr : Hid ((Tm.thn a a').lens = none) := by rw [Hid, Hl.out, hl, hl1]
        have Ha1 := hide hl1
        clear hl Hl hl1
        go_upto_region 10 with (go_at_call 61; refine (Hc.out _ hRa2).mono ?_; rintro e w2 ⟨v, rfl, ⟨x0, y0, rfl, hxy⟩, hb0⟩; rw [Ha0.out])
        have hM2 := hM.below hb0
        have hRb3 := (CsR.below hRb2 hb0).more hb0.size
        clear v0 v1 v2
        go_upto_region 11 with (go_at_call 61; refine (Hc1.out _ hRb3).mono ?_; rintro e w3 ⟨v, rfl, ⟨x1, y1, rfl, hxy1⟩, hb1⟩; rw [Ha1.out])
        have hM3 := hM2.below hb1
        have v0 := hM3.c0
        dsimp only at v0
        obtain ⟨mx, hmx⟩ : ∃ mx, (if x0 < x1 then x1 else x0) = mx := ⟨_, rfl⟩
        obtain ⟨mi, hmi⟩ : ∃ mi, (if y1 < y0 then y1 else y0) = mi := ⟨_, rfl⟩
        go_wp2_with fail
        go_ret3
        exact ⟨_, rfl, lenV_no _ _ Hr.out, bthen hal (bthen hb0 hb1)⟩
      | some uv1 =>
        obtain ⟨u1, v1'⟩ := uv1
        have hsm := lens_small hf0 (by simp only [Tm.size] at hs; omega) hl
        have hsm1 := lens_small hf1 (by simp only [Tm.size] at hs; omega) hl1
        have Ha1 := hide hl1
        have HL2 : Hid ((Tm.thn a a').lens = lens2thn u v u1 v1') := by rw [Hid, Hl.out, hl, hl1]; rfl
        clear hl Hl hl1
        go_upto_region 10 with (go_at_call 61; refine (Hc.out _ hRa2).mono ?_; rintro e w2 ⟨v, rfl, ⟨x0, y0, rfl, hxy⟩, hb0⟩; rw [Ha0.out]; obtain ⟨rfl, rfl⟩ := hxy _ _ Ha0.out; clear hxy)
        have hM2 := hM.below hb0
        have hRb3 := (CsR.below hRb2 hb0).more hb0.size
        clear v0 v1 v2
        go_upto_region 11 with (go_at_call 61; refine (Hc1.out _ hRb3).mono ?_; rintro e w3 ⟨v, rfl, ⟨x1, y1, rfl, hxy1⟩, hb1⟩; rw [Ha1.out]; obtain ⟨rfl, rfl⟩ := hxy1 _ _ Ha1.out; clear hxy1)
        have hM3 := hM2.below hb1
        have v0 := hM3.c0
        dsimp only at v0
        obtain ⟨mx, hmx⟩ : ∃ mx, (if x0 < x1 then x1 else x0) = mx := ⟨_, rfl⟩
        obtain ⟨mi, hmi⟩ : ∃ mi, (if y1 < y0 then y1 else y0) = mi := ⟨_, rfl⟩
        have hw1 : IntKind.i64.wrap (x0 + x1) = x0 + x1 := IntWalk.i64_in _ (by omega)
        have hw2 : IntKind.i64.wrap (y0 + y1) = y0 + y1 := IntWalk.i64_in _ (by omega)
        go_wp2_with fail
        go_ret3
        exact ⟨_, rfl, lenV_yes HL2.out, bthen hal (bthen hb0 hb1)⟩
  | bth a a' ih0 ih1 =>
    intro A b o c w hf hs hc hR
    obtain ⟨hf0, hf1⟩ := hf
    have hR' : MkR w w.heap.size b o A ((a.marks ++ a'.marks) ++ [⟨2, 0, 0⟩]) := hR
    obtain ⟨rfl, hbl, d0, d1, d2⟩ := mk_end hR'
    obtain ⟨hRa, hRb⟩ := mk_app (mk_app hR').1
    have hml := a.marks_len
    have hml' := a'.marks_len
    obtain ⟨n, hn⟩ : ∃ n, a.marks.length = n := ⟨_, rfl⟩
    obtain ⟨n', hn'⟩ : ∃ n, a'.marks.length = n := ⟨_, rfl⟩
    have hn20 : n + n' ≤ 20 := by rw [← hn, hml, ← hn', hml']; simp only [Tm.size] at hs; omega
    have hn1 : 1 ≤ n ∧ 1 ≤ n' := by rw [← hn, hml, ← hn', hml']; cases a <;> cases a' <;> simp [Tm.size]
    have hlen : (Tm.bth a a').marks.length = n + n' + 1 := by simp [Tm.marks, hn, hn']; omega
    rw [hlen] at hc ⊢
    rw [List.length_append, hn, hn'] at d0 d1 d2
    rw [hn] at hRb
    have hcall := fun wq hq => ih0 (some ⟨b, o, none⟩) b o c wq hf0 (by simp only [Tm.size] at hs; omega) (by omega) hq
    rw [hn] at hcall
    have hcall1 := fun wq hq => ih1 (some ⟨b, o + n * 3, none⟩) b (o + n * 3) (c - n) wq hf1 (by simp only [Tm.size] at hs; omega) (by omega) hq
    rw [hn'] at hcall1
    have hst := fun wq hq => l11Starts_c a' (Tm.bth a a').marks n (fun j x hx => by
      show ((a.marks ++ a'.marks) ++ [_])[n + j]? = some x
      rw [List.append_assoc, List.getElem?_append_right (by omega), hn, Nat.add_sub_cancel_left, List.getElem?_append_left (List.getElem?_eq_some_iff.1 hx).1]; exact hx) (by simp only [Tm.size] at hs; omega) (((n + n' : Nat) : Int) - 1) (by rw [← hml', hn']; omega) (some ⟨b, o, none⟩) b o c _ wq (Nat.le_refl _) hq (by rw [hlen]; omega)
    rw [hlen] at hst
    obtain ⟨hn1a, hn1b⟩ := hn1
    have Hst := hide hst
    have Hc := hide hcall
    have Hc1 := hide hcall1
    have Hl : Hid ((Tm.bth a a').lens = match a.lens, a'.lens with | some (x, y), some (u, v) => if max x u ≤ min y v then some (max x u, min y v) else none | _, _ => none) := rfl
    have hal : Below w.heap.size w (w.alloc (.cells #[.int .i64 2, .int .i64 0, .int .i64 0] 43)) := by go_grown
    have hM := mb_new w ⟨2, 0, 0⟩ 43
    have hRa2 := (hRa.below hal).more hal.size
    have hRb2 := (hRb.below hal).more hal.size
    have hRt2 := (hR.below hal).more hal.size
    clear hR hR' hml hml' hn hn' hlen hcall hcall1 hst ih0 ih1 hRa hRb
    go_enter Try.func61, Try.ntmps61
    go_upto_region 3 with fail
    generalize w.alloc (.cells #[.int .i64 2, .int .i64 0, .int .i64 0] 43) = W at hal hM hRa2 hRb2 hRt2 ⊢
    generalize w.heap.size = V at hM ⊢
    have v0 := hM.c0
    have v1 := hM.c1
    have v2 := hM.c2
    dsimp only at v0 v1 v2
    go_upto_region 9 with (go_at_call 74; refine (Hst.out _ hRt2).mono ?_; rintro e w9 ⟨rfl, rfl⟩)
    cases hl : a.lens with
    | none =>
      have Hr : Hid ((Tm.bth a a').lens = none) := by rw [Hid, Hl.out, hl]
      have Ha0 := hide hl
      clear hl Hl
      go_upto_region 10 with (go_at_call 61; refine (Hc.out _ hRa2).mono ?_; rintro e w2 ⟨v, rfl, ⟨x0, y0, rfl, hxy⟩, hb0⟩; rw [Ha0.out])
      have hM2 := hM.below hb0
      have hRb3 := (CsR.below hRb2 hb0).more hb0.size
      clear v0 v1 v2
      go_upto_region 11 with (go_at_call 61; refine (Hc1.out _ hRb3).mono ?_; rintro e w3 ⟨v, rfl, ⟨x1, y1, rfl, hxy1⟩, hb1⟩)
      have hM3 := hM2.below hb1
      have v0 := hM3.c0
      dsimp only at v0
      obtain ⟨mx, hmx⟩ : ∃ mx, (if x0 < x1 then x1 else x0) = mx := ⟨_, rfl⟩
      obtain ⟨mi, hmi⟩ : ∃ mi, (if y1 < y0 then y1 else y0) = mi := ⟨_, rfl⟩
      go_wp2_with fail
      go_ret3
      exact ⟨_, rfl, lenV_no _ _ Hr.out, bthen hal (bthen hb0 hb1)⟩
    | some uv =>
      obtain ⟨u, v⟩ := uv
      have Ha0 := hide hl
      cases hl1 : a'.lens with
      | none =>
        have Hr : Hid ((Tm.bth a a').lens = none) := by rw [Hid, Hl.out, hl, hl1]
        have Ha1 := hide hl1
        clear hl Hl hl1
        go_upto_region 10 with (go_at_call 61; refine (Hc.out _ hRa2).mono ?_; rintro e w2 ⟨v, rfl, ⟨x0, y0, rfl, hxy⟩, hb0⟩; rw [Ha0.out])
        have hM2 := hM.below hb0
        have hRb3 := (CsR.below hRb2 hb0).more hb0.size
        clear v0 v1 v2
        go_upto_region 11 with (go_at_call 61; refine (Hc1.out _ hRb3).mono ?_; rintro e w3 ⟨v, rfl, ⟨x1, y1, rfl, hxy1⟩, hb1⟩; rw [Ha1.out])
        have hM3 := hM2.below hb1
        have v0 := hM3.c0
        dsimp only at v0
        obtain ⟨mx, hmx⟩ : ∃ mx, (if x0 < x1 then x1 else x0) = mx := ⟨_, rfl⟩
        obtain ⟨mi, hmi⟩ : ∃ mi, (if y1 < y0 then y1 else y0) = mi := ⟨_, rfl⟩
        go_wp2_with fail
        go_ret3
        exact ⟨_, rfl, lenV_no _ _ Hr.out, bthen hal (bthen hb0 hb1)⟩
      | some uv1 =>
        obtain ⟨u1, v1'⟩ := uv1
        have hsm := lens_small hf0 (by simp only [Tm.size] at hs; omega) hl
        have hsm1 := lens_small hf1 (by simp only [Tm.size] at hs; omega) hl1
        have Ha1 := hide hl1
        have HL2 : Hid ((Tm.bth a a').lens = lens2bth u v u1 v1') := by rw [Hid, Hl.out, hl, hl1]; rfl
        clear hl Hl hl1
        go_upto_region 10 with (go_at_call 61; refine (Hc.out _ hRa2).mono ?_; rintro e w2 ⟨v, rfl, ⟨x0, y0, rfl, hxy⟩, hb0⟩; rw [Ha0.out]; obtain ⟨rfl, rfl⟩ := hxy _ _ Ha0.out; clear hxy)
        have hM2 := hM.below hb0
        have hRb3 := (CsR.below hRb2 hb0).more hb0.size
        clear v0 v1 v2
        go_upto_region 11 with (go_at_call 61; refine (Hc1.out _ hRb3).mono ?_; rintro e w3 ⟨v, rfl, ⟨x1, y1, rfl, hxy1⟩, hb1⟩; rw [Ha1.out]; obtain ⟨rfl, rfl⟩ := hxy1 _ _ Ha1.out; clear hxy1)
        have hM3 := hM2.below hb1
        have v0 := hM3.c0
        dsimp only at v0
        obtain ⟨mx, hmx⟩ : ∃ mx, (if x0 < x1 then x1 else x0) = mx := ⟨_, rfl⟩
        obtain ⟨mi, hmi⟩ : ∃ mi, (if y1 < y0 then y1 else y0) = mi := ⟨_, rfl⟩
        have HL3 : Hid ((Tm.bth a a').lens = if mx ≤ mi then some (mx, mi) else none) := by
          rw [Hid, HL2.out, lens2bth, show max x0 x1 = mx by rw [← hmx]; split <;> omega, show min y0 y1 = mi by rw [← hmi]; split <;> omega]
        go_wp2_with fail
        go_ret3
        exact ⟨_, rfl, lenV_if HL3.out, bthen hal (bthen hb0 hb1)⟩
set_option maxHeartbeats 2000000 in
theorem sLengthsOf_c (t : List Mk) (A : Option Addr) (b o c B : Nat) (w : World) (hc : t.length ≤ c) (hB : B ≤ w.heap.size) (hR : MkR w B b o A t) (hn : t.length ≤ 2000000) :
    Calls Try.prog 29 #[.slice A t.length c] w fun e w' => e = .returned (.tuple #[.int .i64 ((lensOf t).getD (0, 0)).1, .int .i64 ((lensOf t).getD (0, 0)).2, .bool (lensOf t).isSome]) ∧ Below w.heap.size w w' := by
  cases ht : termOf t with
  | none =>
    have hl : lensOf t = none := by unfold lensOf; rw [ht]; rfl
    have hk : termOk t = false := by unfold termOk; rw [ht]; rfl
    rw [hl]
    have Hk := hide hk
    clear ht hl hk
    go_enter Try.func29, Try.ntmps29
    go_wp2_with (go_at_call 30; go_fit (sTermOk_c t A b o c B w hB hR hn); rintro e w2 ⟨rfl, hb⟩; rw [Hk.out])
    go_ret3
    exact ⟨rfl, hb⟩
  | some a =>
    have hl : lensOf t = a.lens := by unfold lensOf; rw [ht]; rfl
    have hk : termOk t = true := by unfold termOk; rw [ht]; rfl
    rw [hl]
    obtain ⟨hf, hm, h11⟩ := term_back ht
    have hsz : a.size ≤ 20 := by rw [← Tm.marks_len, hm]; omega
    have hcall := fun wq hq => l12Lengths_q a A b o c wq hf hsz (by rw [hm]; exact hc) hq
    rw [hm] at hcall
    have Hc := hide hcall
    have Hk := hide hk
    clear ht hl hm h11 hk hcall
    cases hl : a.lens with
    | none =>
      have Hl := hide hl
      clear hl
      go_enter Try.func29, Try.ntmps29
      go_wp2_with (first
        | (go_at_call 30; go_fit (sTermOk_c t A b o c B w hB hR hn); rintro e w2 ⟨rfl, hb⟩; rw [Hk.out])
        | (go_at_call 61; refine (Hc.out _ (((hR.more hB).below hb).more hb.size)).mono ?_; rintro e w3 ⟨v, rfl, ⟨x, y, rfl, hxy⟩, hb3⟩; rw [Hl.out]))
      go_ret3
      exact ⟨rfl, bthen hb hb3⟩
    | some uv =>
      obtain ⟨u, v⟩ := uv
      have Hl := hide hl
      clear hl
      go_enter Try.func29, Try.ntmps29
      go_wp2_with (first
        | (go_at_call 30; go_fit (sTermOk_c t A b o c B w hB hR hn); rintro e w2 ⟨rfl, hb⟩; rw [Hk.out])
        | (go_at_call 61; refine (Hc.out _ (((hR.more hB).below hb).more hb.size)).mono ?_; rintro e w3 ⟨v, rfl, ⟨x, y, rfl, hxy⟩, hb3⟩; rw [Hl.out]; obtain ⟨rfl, rfl⟩ := hxy _ _ Hl.out))
      go_ret3
      exact ⟨rfl, bthen hb hb3⟩
end Go.Proofs.Ytofodhdpppjaoaa
