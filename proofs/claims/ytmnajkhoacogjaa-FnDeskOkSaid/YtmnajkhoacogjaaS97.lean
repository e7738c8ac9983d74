/-
  spec: ReadTerm.
-/
import Derived.Test.YtmnajkhoacogjaaS95
import Derived.Test.YtmnajkhoacogjaaS91
namespace Go.Proofs.Ytmnajkhoacogjaa
set_option linter.unusedVariables false
set_option linter.unusedSimpArgs false
open Go Go.RowKit Pp

theorem then_all (s : ByteArray) (L : List UInt8) (hL : s.data.toList = L) (hl : s.size ≤ 120) : ∀ (N i : Nat), s.size - i ≤ N → i ≤ s.size → CallsRd 42 .thn s L i := by
  intro N
  induction N with
  | zero => exact fun i h1 h2 => then_q s L hL hl i h2 fun j hj hj2 => both_q s L hL hl j hj2 fun k hk hk2 => atom_q s L hL hl k hk2 fun l hl1 hl2 => absurd hl2 (by omega)
  | succ N ih => exact fun i h1 h2 => then_q s L hL hl i h2 fun j hj hj2 => both_q s L hL hl j hj2 fun k hk hk2 => atom_q s L hL hl k hk2 fun l hl1 hl2 => ih l (by omega) hl2
namespace Pp
def RtV (rt : List UInt8 → Option (List Mk)) (L : List UInt8) (w w' : World) (v : Value) : Prop := ∃ A c, ∃ t : List Mk, v = .tuple #[.slice A t.length c, .bool (rt L).isSome] ∧ OwnM w.heap.size w' (.slice A t.length c) t ∧ t = (rt L).getD [] ∧ t.length ≤ 200
end Pp
theorem str_eq {s : ByteArray} {L : List UInt8} (hL : s.data.toList = L) : s = ⟨L.toArray⟩ := by
  subst hL
  apply ByteArray.ext
  simp
theorem str_list {s : ByteArray} {L : List UInt8} (hL : s.data.toList = L) : s.toList = L := by
  subst hL
  exact ByteArray.toList_eq s
theorem str_inj {a b : List UInt8} (h : (⟨a.toArray⟩ : ByteArray) = ⟨b.toArray⟩) : a = b := by
  have := congrArg (fun x : ByteArray => x.data.toList) h
  simpa using this
set_option maxHeartbeats 2000000 in
theorem sReadTerm_q (rt : List UInt8 → Option (List Mk)) (hrt : IsRead rt) (s : ByteArray) (L : List UInt8) (hL : s.data.toList = L) (w : World) :
    Calls Try.prog 36 #[.string s] w fun e w' => ∃ v, e = .returned v ∧ RtV rt L w w' v ∧ Below w.heap.size w w' := by
  have hsz := str_size hL
  by_cases hl : s.size ≤ 120
  · have hz : ¬ (120 : Int) < (s.size : Int) := by omega
    have hc := then_all s L hL hl s.size 0 (by omega) (by omega)
    unfold CallsRd at hc
    rw [show ((0 : Nat) : Int) = 0 from rfl] at hc
    have Hc := hide hc
    clear hc
    have Hsz := hide hsz
    have Hss := hide (str_eq hL)
    clear hsz
    go_enter Try.func36, Try.ntmps36
    go_upto_region 4 with (go_at_call 42; refine (Hc.out w).mono ?_; rintro e w3 ⟨v, rfl, ⟨A1, c1, t, n1, rfl, own1, hSp⟩, hb3⟩)
    have hr := hSp.rng (.inr (by have := Hsz.out; omega))
    have htl : t.length ≤ 200 := by have := Hsz.out; simp only [List.length_nil] at hr; omega
    have hdet : ∀ t', rt L = some t' → t' = t ∧ n1 = (L.length : Int) := fun t' h => by
      obtain ⟨-, a, h1, h2⟩ := (hrt L t').1 h
      have h3 := sp_text h1
      rw [h2] at h3
      have := h3.det hSp
      exact ⟨this.1, this.2.symm⟩
    have hcap := own_capM own1
    obtain ⟨g1, hr1⟩ := OwnM.reads own1
    clear hSp hr
    by_cases hn : n1 = (s.size : Int)
    · have hne : (n1 != (s.size : Int)) = false := by simp [hn]
      cases ht : termOf t with
      | none =>
        have hk : termOk t = false := by unfold termOk; rw [ht]; rfl
        have hno : rt L = none := by
          cases hr : rt L with
          | none => rfl
          | some t' =>
            obtain ⟨-, a, h1, h2⟩ := (hrt L t').1 hr
            rw [(hdet t' hr).1, ht] at h1
            cases h1
        have HV : ∀ w' g, Hid (OwnM w.heap.size w' (.slice (some ⟨g, 0, none⟩) 0 0) []) → Hid (RtV rt L w w' (.tuple #[.slice (some ⟨g, 0, none⟩) 0 0, .bool false])) := fun w' g h => ⟨_, _, [], by rw [hno]; rfl, h.out, by rw [hno]; rfl, by simp⟩
        have Hk := hide hk
        clear hk hno hdet ht hn
        go_wp2_with (go_at_call 39; go_fit (sTermOk_c t A1 g1 0 c1 _ _ (Nat.le_refl _) hr1 (by omega)); rintro e w4 ⟨rfl, hb4⟩; rw [Hk.out])
        go_ret2
        exact ⟨_, rfl, (HV _ _ (own_empty (at_new rfl) (Nat.le_trans hb3.size (hb4).size))).out, bthen (bthen hb3 hb4) (by go_grown)⟩
      | some a =>
        have hk : termOk t = true := by unfold termOk; rw [ht]; rfl
        obtain ⟨hf, hm, h11⟩ := term_back ht
        have hszz : a.size ≤ 20 := by rw [← Tm.marks_len, hm]; omega
        have hcall := fun wq hq => l11Text_q a A1 g1 0 c1 wq hf hszz (by rw [hm]; exact hcap) hq
        rw [hm] at hcall
        have Hcall := hide hcall
        have Hk := hide hk
        by_cases htx : a.text = L
        · have hyes : rt L = some t := (hrt L t).2 ⟨by have := Hsz.out; omega, a, ht, htx⟩
          have HV : ∀ w', Hid (OwnM w.heap.size w' (.slice A1 t.length c1) t) → Hid (RtV rt L w w' (.tuple #[.slice A1 t.length c1, .bool true])) := fun w' h => ⟨_, _, t, by rw [hyes]; rfl, h.out, by rw [hyes]; rfl, htl⟩
          have hcmp : (a.text == s.toList) = true := by rw [str_list hL]; simp [htx]
          clear hk hdet ht hn hf hm h11 hcall htx hyes
          generalize a.text = tx at hcmp Hcall
          go_wp2_with (first
            | (go_at_call 39; go_fit (sTermOk_c t A1 g1 0 c1 _ _ (Nat.le_refl _) hr1 (by omega)); rintro e w4 ⟨rfl, hb4⟩; rw [Hk.out])
            | (go_at_call 40; refine (Hcall.out _ ((CsR.below hr1 hb4).more hb4.size)).mono ?_; rintro e w5 ⟨rfl, hb5⟩; unfold txt))
          go_ret2
          exact ⟨_, rfl, (HV _ (own_below own1 (bthen hb4 hb5))).out, bthen hb3 (bthen hb4 hb5)⟩
        · have hno : rt L = none := by
            cases hr : rt L with
            | none => rfl
            | some t' =>
              obtain ⟨-, a', h1, h2⟩ := (hrt L t').1 hr
              rw [(hdet t' hr).1, ht] at h1
              injection h1 with h1
              rw [h1] at htx
              exact absurd h2 htx
          have HV : ∀ w' g, Hid (OwnM w.heap.size w' (.slice (some ⟨g, 0, none⟩) 0 0) []) → Hid (RtV rt L w w' (.tuple #[.slice (some ⟨g, 0, none⟩) 0 0, .bool false])) := fun w' g h => ⟨_, _, [], by rw [hno]; rfl, h.out, by rw [hno]; rfl, by simp⟩
          have hcmp : (a.text == s.toList) = false := by rw [str_list hL]; simp [htx]
          clear hk hdet ht hn hf hm h11 hcall htx hno
          generalize a.text = tx at hcmp Hcall
          go_wp2_with (first
            | (go_at_call 39; go_fit (sTermOk_c t A1 g1 0 c1 _ _ (Nat.le_refl _) hr1 (by omega)); rintro e w4 ⟨rfl, hb4⟩; rw [Hk.out])
            | (go_at_call 40; refine (Hcall.out _ ((CsR.below hr1 hb4).more hb4.size)).mono ?_; rintro e w5 ⟨rfl, hb5⟩; unfold txt))
          go_ret2
          exact ⟨_, rfl, (HV _ _ (own_empty (at_new rfl) (Nat.le_trans hb3.size ((bthen hb4 hb5)).size))).out, bthen (bthen hb3 (bthen hb4 hb5)) (by go_grown)⟩
    · have hne : (n1 != (s.size : Int)) = true := by simp [hn]
      have hno : rt L = none := by
        cases hr : rt L with
        | none => rfl
        | some t' =>
          have := (hdet t' hr).2
          have h2 := Hsz.out
          omega
      have HV : ∀ w' g, Hid (OwnM w.heap.size w' (.slice (some ⟨g, 0, none⟩) 0 0) []) → Hid (RtV rt L w w' (.tuple #[.slice (some ⟨g, 0, none⟩) 0 0, .bool false])) := fun w' g h => ⟨_, _, [], by rw [hno]; rfl, h.out, by rw [hno]; rfl, by simp⟩
      clear hno hdet hn
      have hb4 : Below w3.heap.size w3 w3 := Below.refl _ _
      go_wp2_with fail
      go_ret2
      exact ⟨_, rfl, (HV _ _ (own_empty (at_new rfl) (Nat.le_trans hb3.size (hb4).size))).out, bthen (bthen hb3 hb4) (by go_grown)⟩
  · have hz : (120 : Int) < (s.size : Int) := by omega
    have hno : rt L = none := by
      cases hr : rt L with
      | none => rfl
      | some t' =>
        obtain ⟨h1, -⟩ := (hrt L t').1 hr
        omega
    have own4 : Hid (OwnM w.heap.size (w.alloc (.cells #[] 72)) (.slice (some ⟨w.heap.size, 0, none⟩) 0 0) []) := own_empty (at_new rfl) (Nat.le_refl _)
    have hal4 : Below w.heap.size w (w.alloc (.cells #[] 72)) := by go_grown
    have HR : Hid (RtV rt L w (w.alloc (.cells #[] 72)) (.tuple #[.slice (some ⟨w.heap.size, 0, none⟩) 0 0, .bool false])) := ⟨_, _, [], by rw [hno]; rfl, own4.out, by rw [hno]; rfl, by simp⟩
    clear hsz hno own4
    go_enter Try.func36, Try.ntmps36
    go_wp2_with fail
    go_ret2
    exact ⟨_, rfl, HR.out, hal4⟩
end Go.Proofs.Ytmnajkhoacogjaa
