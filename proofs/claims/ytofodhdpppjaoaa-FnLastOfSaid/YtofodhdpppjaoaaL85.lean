/-
  impl: the marks of a part.
-/
import Derived.Test.YtofodhdpppjaoaaL81
namespace Go.Proofs.Ytofodhdpppjaoaa
set_option linter.unusedVariables false
set_option linter.unusedSimpArgs false
open Go Go.RowKit Pp

namespace Pp
/-- The marks of the first kids. -/
def kidsM (a : Tm) (j : Nat) : List Mk := ((a.kids.take j).map Tm.marks).flatten
theorem kidsM_succ {a k : Tm} {j : Nat} (h : a.kids[j]? = some k) : kidsM a (j + 1) = kidsM a j ++ k.marks := by
  obtain ⟨hj, rfl⟩ := List.getElem?_eq_some_iff.1 h
  unfold kidsM
  rw [List.take_succ_eq_append_getElem hj, List.map_append, List.flatten_append]
  simp
theorem kidsM_all (a : Tm) : kidsM a a.kids.length ++ [a.mark] = a.marks := by unfold kidsM; rw [List.take_length, ← Tm.marks_kids]
end Pp
theorem mk_blk {w : World} {g : Nat} {x : Mk} {t : TypeId} (h : w.heap[g]? = some (.cells #[.int .i64 x.k, .int .i64 x.l, .int .i64 x.h] t (0, 0))) : NewsAt w (some ⟨g, 0, none⟩) 1 (mkCs [x]) :=
  NewsAt.block (cs := #[.int .i64 x.k, .int .i64 x.l, .int .i64 x.h]) h
set_option maxHeartbeats 4000000 in
set_option maxRecDepth 100000 in
theorem marks_q : ∀ (n : Nat) (a : Tm), a.size ≤ n → n ≤ 20 → ∀ (p : Nat) (w : World), PtR w w.heap.size a p →
    Calls Try.prog 41 #[.pointer (some ⟨p, 0, none⟩)] w fun e w' => ∃ A1 c1, e = .returned (.slice A1 a.marks.length c1) ∧ OwnM w.heap.size w' (.slice A1 a.marks.length c1) a.marks ∧ Below w.heap.size w w' := by
  intro n
  induction n with
  | zero => intro a hs; cases a <;> simp [Tm.size] at hs
  | succ n ih =>
    intro a hs hn20 p w hP
    obtain ⟨i0, hi0, hz0, hz1, hz2⟩ := info_parts infoM
    obtain ⟨A, c, b, o, ⟨hat, c0, c1, c2, c3⟩, hA, hk⟩ := hP.opened
    have hkl := a.kids_len
    have hml := a.marks_len
    obtain ⟨m, hm⟩ : ∃ m, a.kids.length = m := ⟨_, rfl⟩
    obtain ⟨x, hxm⟩ : ∃ x, a.mark = x := ⟨_, rfl⟩
    have hKA := kidsM_all a
    rw [hm, hxm] at hKA
    rw [hm] at hA hkl c3
    rw [hxm] at c0 c1 c2
    have Hm := hide hm
    have Hml := hide hml
    have HKA := hide hKA
    have Hk := hide hk
    clear hm hxm hml hKA hk hP
    go_enter Try.func41, Try.ntmps41
    go_wp2_with fail
    go_loopg [3, 11] m (fun gh s3 s11 wr => ∃ (k : Nat) (A1 : Option Addr) (c1 : Nat) (ts : List Mk), k ≤ m ∧ gh = m - k ∧ s11 = .int .i64 k ∧ s3 = .slice A1 ts.length c1 ∧ ts.length ≤ 20 * k ∧ Hid (ts = kidsM a k) ∧ OwnM w.heap.size wr (.slice A1 ts.length c1) ts ∧ Below w.heap.size w wr)
    case atStart => exact ⟨0, none, 0, [], Nat.zero_le _, rfl, rfl, rfl, Nat.le_refl _, rfl, World.ownsRow_nil _ _ _ _, Below.refl _ _⟩
    case round =>
      obtain ⟨k, A1, c1', ts, hkm, rfl, rfl, rfl, htl, HT, hown, hW⟩ := hrel
      have e0 := ((bcell hW).1 _ _ hat).trans c0
      have e1 := ((bcell hW).1 _ _ hat).trans c1
      have e2 := ((bcell hW).1 _ _ hat).trans c2
      by_cases hlt : k < m
      · obtain ⟨rfl, hbS⟩ := hA (by omega)
        have hkid : a.kids[k]? = some (a.kids[k]'(by rw [Hm.out]; exact hlt)) := List.getElem?_eq_getElem _
        obtain ⟨q, hq, hPq⟩ := Hk.out _ _ hkid
        have hsz := Tm.kid_size hkid
        have hsu := kidsM_succ hkid
        generalize a.kids[k]'(by rw [Hm.out]; exact hlt) = kt at hkid hPq hsz hsu
        replace hq := ((bcell hW).1 _ _ hbS).trans hq
        dsimp only [ptr] at hq
        have hkz : (k : Int) < (m : Int) := by omega
        have hPq' := (PtR.below hPq hW).more hW.size
        have hml2 := kt.marks_len
        obtain ⟨ms, hms⟩ : ∃ ms, kt.marks = ms := ⟨_, rfl⟩
        rw [hms] at hml2
        have hcall := ih kt (by omega) (by omega) q wr hPq'
        rw [hms] at hcall hsu
        have Hsu := hide hsu
        have hml3 : ms.length ≤ 20 := by omega
        clear hsu hkid hPq hms hml2
        go_wp2_with (first
          | (go_at_call 41; refine hcall.mono ?_; clear hcall; rintro e w2 ⟨A2, c2', rfl, own2, hb2⟩; obtain ⟨g2, hr2⟩ := own2.reads; have hown2 := own_below hown hb2)
          | (at_builtin; refine app_list _ rfl (.tmp 15) (.tmp 17) _ rfl w.heap.size 43 i0 _ 3 24 Try.underlying23 hi0 hz0 hz1 hz2 rfl (by omega) (.slice A1 ts.length c1') ts.length (mkCs ts) rfl hown2 A2 ms.length c2' (mkCs ms) rfl (mkCs_length ms) hr2.news (mkCs_one ms) (by omega) (by omega) (bthen hW hb2).size ?_; intro A4 c4 w4 hown4 hg4 hat4))
        have hW4 : Below w.heap.size w w4 := below_app (bthen hW hb2) hown2 hg4 (Nat.le_refl _) (bthen hW hb2).size
        obtain ⟨ts2, hts2⟩ : ∃ t, ts ++ ms = t := ⟨_, rfl⟩
        have hl2 : ts2.length = ts.length + ms.length := by rw [← hts2]; simp
        have hown5 : OwnM w.heap.size w4 (.slice A4 ts2.length c4) ts2 := by unfold OwnM; rw [hl2, ← hts2, mkCs_append]; exact hown4
        have Hl2 := hide hl2
        have HT2 : Hid (ts2 = kidsM a (k + 1)) := by rw [Hsu.out, ← HT.out]; exact hts2.symm
        clear hl2 hts2 hown4 hown2 hg4 hat4 hr2 own2
        go_roundg (m - (k + 1))
        case measure => go_light; omega
        case rel => go_light; exact ⟨k + 1, A4, c4, ts2, by omega, rfl, by go_num, by rw [Hl2.out], by rw [Hl2.out]; omega, HT2, hown5, hW4⟩
      · obtain rfl : k = m := by omega
        have hal : Below wr.heap.size wr (wr.alloc (.cells #[.int .i64 x.k, .int .i64 x.l, .int .i64 x.h] 43)) := by go_grown
        have hnew : (wr.alloc (.cells #[.int .i64 x.k, .int .i64 x.l, .int .i64 x.h] 43)).heap[wr.heap.size]? = some (.cells #[.int .i64 x.k, .int .i64 x.l, .int .i64 x.h] 43 (0, 0)) := at_new rfl
        have hown2 := own_below hown hal
        have hsz2 := (bthen hW hal).size
        go_wp2_with (at_builtin; refine app_list _ rfl (.tmp 20) (.tmp 25) _ rfl w.heap.size 43 i0 _ 3 24 Try.underlying23 hi0 hz0 hz1 hz2 rfl (by omega) (.slice A1 ts.length c1') ts.length (mkCs ts) rfl hown2 (some ⟨wr.heap.size, 0, none⟩) 1 _ (mkCs [x]) rfl rfl (mk_blk hnew) (mkCs_one _) (by omega) (by omega) hsz2 ?_; intro A4 c4 w4 hown4 hg4 hat4)
        have hW4 : Below w.heap.size w w4 := below_app (bthen hW hal) hown2 hg4 (Nat.le_refl _) hsz2
        have hl2 : a.marks.length = ts.length + 1 := by rw [← HKA.out, ← HT.out]; simp
        have hown5 : OwnM w.heap.size w4 (.slice A4 a.marks.length c4) a.marks := by
          unfold OwnM; rw [hl2, ← HKA.out, ← HT.out, mkCs_append]; exact hown4
        have Hl2 := hide hl2
        clear hl2 hown4 hown2 hg4 hat4
        go_ret
        exact ⟨A4, c4, by rw [Hl2.out]; rfl, hown5, hW4⟩
theorem marks_c {a : Tm} (hs : a.size ≤ 20) (p : Nat) (w : World) (hP : PtR w w.heap.size a p) :
    Calls Try.prog 41 #[.pointer (some ⟨p, 0, none⟩)] w fun e w' => ∃ A1 c1, e = .returned (.slice A1 a.marks.length c1) ∧ OwnM w.heap.size w' (.slice A1 a.marks.length c1) a.marks ∧ Below w.heap.size w w' :=
  marks_q 20 a hs (Nat.le_refl _) p w hP
end Go.Proofs.Ytofodhdpppjaoaa
