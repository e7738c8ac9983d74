/-
 impl: the parts of a mark, slices.Clone of parts, build.
 impl: build.
-/
import Derived.Test.YtmnajkhoacogjaaGreatDoorR70
import Derived.Test.YtmnajkhoacogjaaGreatDoorL1
import Derived.Test.YtmnajkhoacogjaaGreatDoorZ1
import Derived.Test.YtmnajkhoacogjaaGreatDoorL11a
import Derived.Lib.SliceRun
import Derived.Deep.CutBlock
namespace Go.Proofs.YtmnajkhoacogjaaGreatDoor
set_option linter.unusedVariables false
set_option linter.unusedSimpArgs false
open Go Go.RowKit Pp

def partsN (m : Mk) : Int :=
 if m.k = 0 ∧ inB m.h 0 19 = true ∧ inB m.l 0 m.h = true then 0
 else if (m.k = 1 ∨ m.k = 2) ∧ m.l = 0 ∧ m.h = 0 then 2
 else if m.k = 3 ∧ m.l = 0 ∧ inB m.h 0 19 = true then 1 else -1
set_option maxHeartbeats 2000000 in
theorem parts_c (m : Mk) (w : World) : Calls Tryz.prog 122 #[.agg #[.int .i64 m.k, .int .i64 m.l, .int .i64 m.h]] w fun e w' => e = .returned (.int .i64 (partsN m)) ∧ Below w.heap.size w w' := by
 obtain ⟨k, l, h⟩ := m
 dsimp only
 by_cases k0 : k = 0
 ·subst k0
  obtain ⟨a, ha⟩ : ∃ a, inB h 0 19 = a := ⟨_, rfl⟩
  obtain ⟨b, hb⟩ : ∃ b, inB l 0 h = b := ⟨_, rfl⟩
  have hR : Hid (partsN ⟨0, l, h⟩ = if a = true ∧ b = true then 0 else -1) := by
   unfold Hid partsN
   simp only [ha, hb]
   cases a <;> cases b <;> simp
  have Ha := hide ha
  have Hb := hide hb
  clear ha hb
  cases a
  ·rw [hR.out, if_neg (by simp)]
   clear hR
   go_enter Tryz.func122, Tryz.ntmps122
   go_wp2_with (go_at_call 89; refine (in_c _ _ _ _).mono ?_; rintro e w' ⟨rfl, rfl⟩; first | rw [Ha.out] | rw [Hb.out])
   go_ret
   exact ⟨rfl, by go_grown⟩
  ·cases b
   ·rw [hR.out, if_neg (by simp)]
    clear hR
    go_enter Tryz.func122, Tryz.ntmps122
    go_wp2_with (go_at_call 89; refine (in_c _ _ _ _).mono ?_; rintro e w' ⟨rfl, rfl⟩; first | rw [Ha.out] | rw [Hb.out])
    go_ret
    exact ⟨rfl, by go_grown⟩
   ·rw [hR.out, if_pos ⟨rfl, rfl⟩]
    clear hR
    go_enter Tryz.func122, Tryz.ntmps122
    go_wp2_with (go_at_call 89; refine (in_c _ _ _ _).mono ?_; rintro e w' ⟨rfl, rfl⟩; first | rw [Ha.out] | rw [Hb.out])
    go_ret
    exact ⟨rfl, by go_grown⟩
 ·have k0' : (k == 0) = false := by simpa using k0
  by_cases k12 : k = 1 ∨ k = 2
  ·have hR : Hid (partsN ⟨k, l, h⟩ = if l = 0 ∧ h = 0 then 2 else -1) := by
    unfold Hid partsN
    rw [if_neg (fun h => k0 h.1)]
    by_cases hl : l = 0 ∧ h = 0
    ·rw [if_pos ⟨k12, hl⟩, if_pos hl]
    ·rw [if_neg (fun h => hl h.2), if_neg hl, if_neg (by rintro ⟨rfl, -⟩; simp at k12)]
   rw [hR.out]
   clear hR k0 k0'
   by_cases hl : l = 0
   ·subst hl
    by_cases hh : h = 0
    ·subst hh
     rw [if_pos ⟨rfl, rfl⟩]
     rcases k12 with rfl | rfl
     ·go_enter Tryz.func122, Tryz.ntmps122
      go_wp2
      go_ret
      exact ⟨rfl, by go_grown⟩
     ·go_enter Tryz.func122, Tryz.ntmps122
      go_wp2
      go_ret
      exact ⟨rfl, by go_grown⟩
    ·have hh' : (h == 0) = false := by simpa using hh
     rw [if_neg (fun x => hh x.2)]
     rcases k12 with rfl | rfl
     ·go_enter Tryz.func122, Tryz.ntmps122
      go_wp2
      go_ret
      exact ⟨rfl, by go_grown⟩
     ·go_enter Tryz.func122, Tryz.ntmps122
      go_wp2
      go_ret
      exact ⟨rfl, by go_grown⟩
   ·have hl' : (l == 0) = false := by simpa using hl
    rw [if_neg (fun x => hl x.1)]
    rcases k12 with rfl | rfl
    ·go_enter Tryz.func122, Tryz.ntmps122
     go_wp2
     go_ret
     exact ⟨rfl, by go_grown⟩
    ·go_enter Tryz.func122, Tryz.ntmps122
     go_wp2
     go_ret
     exact ⟨rfl, by go_grown⟩
  ·have k1' : (k == 1) = false := by simp; exact fun e => k12 (.inl e)
   have k2' : (k == 2) = false := by simp; exact fun e => k12 (.inr e)
   by_cases k3 : k = 3
   ·subst k3
    clear k0 k0' k12 k1' k2'
    obtain ⟨a, ha⟩ : ∃ a, inB h 0 19 = a := ⟨_, rfl⟩
    have hR : Hid (partsN ⟨3, l, h⟩ = if l = 0 ∧ a = true then 1 else -1) := by
     unfold Hid partsN
     simp only [ha]
     simp
    have Ha := hide ha
    clear ha
    have Hb : Hid (true = true) := rfl
    by_cases hl : l = 0
    ·subst hl
     cases a
     ·rw [hR.out, if_neg (by simp)]
      clear hR
      go_enter Tryz.func122, Tryz.ntmps122
      go_wp2_with (go_at_call 89; refine (in_c _ _ _ _).mono ?_; rintro e w' ⟨rfl, rfl⟩; first | rw [Ha.out] | rw [Hb.out])
      go_ret
      exact ⟨rfl, by go_grown⟩
     ·rw [hR.out, if_pos ⟨rfl, rfl⟩]
      clear hR
      go_enter Tryz.func122, Tryz.ntmps122
      go_wp2_with (go_at_call 89; refine (in_c _ _ _ _).mono ?_; rintro e w' ⟨rfl, rfl⟩; first | rw [Ha.out] | rw [Hb.out])
      go_ret
      exact ⟨rfl, by go_grown⟩
    ·have hl' : (l == 0) = false := by simpa using hl
     rw [hR.out, if_neg (fun x => hl x.1)]
     clear hR
     go_enter Tryz.func122, Tryz.ntmps122
     go_wp2_with (go_at_call 89; refine (in_c _ _ _ _).mono ?_; rintro e w' ⟨rfl, rfl⟩; first | rw [Ha.out] | rw [Hb.out])
     go_ret
     exact ⟨rfl, by go_grown⟩
   ·have k3' : (k == 3) = false := by simpa using k3
    have hR : partsN ⟨k, l, h⟩ = -1 := by
     unfold partsN
     rw [if_neg (fun h => k0 h.1), if_neg (fun h => k12 h.1), if_neg (fun h => k3 h.1)]
    rw [hR]
    clear hR k12
    go_enter Tryz.func122, Tryz.ntmps122
    go_wp2
    go_ret
    exact ⟨rfl, by go_grown⟩

theorem infoP : (Tryz.prog.info? 131).map (fun i => (i.zero, i.size, i.bytes)) = some (some (.pointer none), 1, 8) := by kernel_rfl
theorem ptr_one (qs : List Nat) : ∀ u ∈ qs.map ptr, u.oneCell' = true := by
 intro u hu
 obtain ⟨n, _, rfl⟩ := List.mem_map.1 hu
 rfl
set_option maxHeartbeats 1000000 in
set_option maxRecDepth 100000 in
theorem cloneP_c (qs : List Nat) (A : Option Addr) (b o c B : Nat) (w : World) (hn : qs.length ≤ 2000000) (hB : B ≤ w.heap.size) (hR : CsR w B b o A qs.length (qs.map ptr)) :
  Calls Tryz.prog 123 #[.slice A qs.length c] w fun e w' => ∃ A1 c1, e = .returned (.slice A1 qs.length c1) ∧ w'.ownsRow w.heap.size 131 1 (.slice A1 qs.length c1) qs.length (qs.map ptr) ∧ Below w.heap.size w w' := by
 obtain ⟨i0, hi0, hz0, hz1, hz2⟩ := info_parts infoP
 cases A with
 | none =>
   have e : qs = [] := by
    rcases Nat.eq_zero_or_pos qs.length with h | h
    ·exact List.eq_nil_of_length_eq_zero h
    ·have := hR.addr h; cases this
   subst e
   have hnil := fun W => Go.Lib.run_eql_slice_nil (P := Tryz.prog) W 146 131 none 0 c 0 0 Tryz.underlying146
   go_enter Tryz.func123, Tryz.ntmps123
   go_wp2_with fail
   go_ret
   exact ⟨none, 0, rfl, World.ownsRow_nil _ _ _ _, Below.refl _ _⟩
 | some a =>
   have hnil := fun W => Go.Lib.run_eql_slice_nil (P := Tryz.prog) W 146 131 (some a) qs.length c 0 0 Tryz.underlying146
   have hR' := hR.below ((show Below w.heap.size w (w.alloc (.cells #[] 131)) by go_grown).mono hB)
   have hnw : NewsAt (w.alloc (.cells #[] 131)) (some a) qs.length (qs.map ptr) := fun hm => ⟨_, hR'.addr hm, fun j u hu => by rw [add_zero_off]; exact hR'.cell j u hu⟩
   go_enter Tryz.func123, Tryz.ntmps123
   go_wp2_with (at_builtin; refine app_list _ rfl (.tmp 5) (.tmp 6) _ rfl w.heap.size 131 i0 _ 1 8 Tryz.underlying146 hi0 hz0 hz1 hz2 rfl (by omega) (.slice (some ⟨w.heap.size, 0, none⟩) 0 0) 0 [] rfl (own_empty (at_new rfl) (Nat.le_refl _)) (some a) qs.length c (qs.map ptr) rfl (by simp) hnw (ptr_one qs) (by omega) (by omega) (by simp only [World.size_alloc, World.size_drew]; omega) ?_; intro A4 c4 w4 hown4 hg4 hat4)
   simp only [Nat.zero_add, List.nil_append] at hown4 hat4 ⊢
   go_ret
   refine ⟨A4, c4, rfl, hown4, ?_⟩
   exact (show Below w.heap.size w (w.alloc (.cells #[] 131)) by go_grown).grown hg4 (by simp only [World.size_alloc, World.size_drew]; omega) (fun q hq => by have e := Option.some.inj hq; subst e; dsimp only; omega)

theorem parts_le (m : Mk) : -1 ≤ partsN m ∧ partsN m ≤ 2 := by
 unfold partsN
 split
 ·omega
 ·split
  ·omega
  ·split <;> omega
/-- One mark, in the order of the program's stack. -/
theorem push_no {L : List Tm} {m : Mk} (h : partsN m < 0 ∨ (L.length : Int) - partsN m < 0) : pushM L.reverse m = none := by
 obtain ⟨R, rfl⟩ : ∃ R : List Tm, L = R.reverse := ⟨L.reverse, by simp⟩
 rw [List.reverse_reverse]
 rw [List.length_reverse] at h
 obtain ⟨k, l, u⟩ := m
 unfold partsN at h
 unfold pushM
 simp only [inB, Bool.and_eq_true, decide_eq_true_eq] at h ⊢
 by_cases k0 : k = 0
 ·subst k0
  rw [if_pos rfl]
  by_cases hc : 0 ≤ l ∧ l ≤ u ∧ u ≤ 19
  ·rw [if_pos ⟨rfl, by omega, by omega⟩] at h; omega
  ·rw [if_neg hc]
 ·rw [if_neg k0]
  rw [if_neg (fun h => k0 h.1)] at h
  by_cases k3 : k = 3
  ·subst k3
   rw [if_pos rfl]
   rw [if_neg (by rintro ⟨h1, -⟩; omega)] at h
   by_cases hc : l = 0 ∧ 0 ≤ u ∧ u ≤ 19
   ·rw [if_pos ⟨rfl, hc.1, by omega, by omega⟩] at h
    rw [if_pos hc]
    cases R with
    | nil => rfl
    | cons a R => simp at h; omega
   ·rw [if_neg hc]
  ·rw [if_neg k3]
   by_cases hc : l = 0 ∧ u = 0
   ·by_cases k1 : k = 1
    ·subst k1
     rw [if_pos ⟨.inl rfl, hc⟩] at h
     rw [if_pos rfl, if_pos hc]
     match R, h with
     | [], _ => rfl
     | [a], _ => rfl
     | a :: b :: R, h => simp at h; omega
    ·rw [if_neg k1]
     by_cases k2 : k = 2
     ·subst k2
      rw [if_pos ⟨.inr rfl, hc⟩] at h
      rw [if_pos rfl, if_pos hc]
      match R, h with
      | [], _ => rfl
      | [a], _ => rfl
      | a :: b :: R, h => simp at h; omega
     ·rw [if_neg k2]
   ·by_cases k1 : k = 1
    ·rw [if_pos k1, if_neg hc]
    ·rw [if_neg k1]
     by_cases k2 : k = 2
     ·rw [if_pos k2, if_neg hc]
     ·rw [if_neg k2]
theorem push_yes {L : List Tm} {m : Mk} {n : Nat} (h0 : 0 ≤ partsN m) (hn : (L.length : Int) - partsN m = n) : ∃ a : Tm, pushM L.reverse m = some (L.take n ++ [a]).reverse ∧ a.mark = m ∧ a.kids = L.drop n := by
 obtain ⟨R, rfl⟩ : ∃ R : List Tm, L = R.reverse := ⟨L.reverse, by simp⟩
 rw [List.reverse_reverse]
 rw [List.length_reverse] at hn
 obtain ⟨k, l, u⟩ := m
 unfold partsN at h0 hn
 unfold pushM
 simp only [inB, Bool.and_eq_true, decide_eq_true_eq] at h0 hn ⊢
 by_cases k0 : k = 0 ∧ (0 ≤ u ∧ u ≤ 19) ∧ 0 ≤ l ∧ l ≤ u
 ·rw [if_pos k0] at h0 hn
  obtain ⟨rfl, h1, h2⟩ := k0
  obtain rfl : n = R.length := by omega
  rw [if_pos rfl, if_pos ⟨by omega, by omega, by omega⟩]
  refine ⟨.step l u, ?_, rfl, ?_⟩
  ·rw [List.take_of_length_le (by simp)]; simp
  ·rw [List.drop_eq_nil_of_le (by simp)]; rfl
 ·rw [if_neg k0] at h0 hn
  by_cases k12 : (k = 1 ∨ k = 2) ∧ l = 0 ∧ u = 0
  ·rw [if_pos k12] at h0 hn
   obtain ⟨k12, rfl, rfl⟩ := k12
   match R, hn with
   | [], hn => simp at hn <;> omega
   | [a], hn => simp at hn <;> omega
   | b :: a :: R, hn =>
     obtain rfl : n = R.reverse.length := by simp at hn ⊢ <;> omega
     have e1 : (b :: a :: R).reverse = R.reverse ++ [a, b] := by simp
     rw [e1, List.take_left, List.drop_left]
     rcases k12 with rfl | rfl
     ·exact ⟨.thn a b, by simp, rfl, rfl⟩
     ·exact ⟨.bth a b, by simp, rfl, rfl⟩
  ·rw [if_neg k12] at h0 hn
   by_cases k3 : k = 3 ∧ l = 0 ∧ 0 ≤ u ∧ u ≤ 19
   ·rw [if_pos k3] at h0 hn
    obtain ⟨rfl, rfl, hc⟩ := k3
    match R, hn with
    | [], hn => simp at hn <;> omega
    | a :: R, hn =>
      obtain rfl : n = R.reverse.length := by simp at hn ⊢ <;> omega
      have e1 : (a :: R).reverse = R.reverse ++ [a] := by simp
      rw [e1, List.take_left, List.drop_left]
      rw [if_neg (by omega), if_pos rfl, if_pos ⟨rfl, hc⟩]
      exact ⟨.wth a u, by simp, rfl, rfl⟩
   ·rw [if_neg k3] at h0; omega

/-- The program's stack. -/
structure SK (w0 wr : World) (A : Option Addr) (c : Nat) (L : List Tm) (qs : List Nat) : Prop where
 bel : Below w0.heap.size w0 wr
 own : wr.ownsRow w0.heap.size 131 1 (.slice A qs.length c) qs.length (qs.map ptr)
 len : qs.length = L.length
 kid : ∀ (j : Nat) (a : Tm), L[j]? = some a → ∃ q, qs[j]? = some q ∧ PartAt wr (fun x => x < wr.heap.size ∧ (Value.slice A qs.length c).ownBlock ≠ some x) a q
theorem SK.below {w0 wr w' : World} {A : Option Addr} {c : Nat} {L : List Tm} {qs : List Nat} (h : SK w0 wr A c L qs) (hb : Below wr.heap.size wr w') : SK w0 w' A c L qs :=
 ⟨bthen h.bel hb, own_below h.own hb, h.len, fun j a ha => by
  obtain ⟨q, h1, h2⟩ := h.kid j a ha
  exact ⟨q, h1, h2.kept (fun x hx => ⟨Nat.lt_of_lt_of_le hx.1 hb.size, hx.2⟩) (fun b o v hx hv => (hb.cell (p := ⟨b, o, none⟩) hx.1).trans hv)⟩⟩
theorem own_len (A : Option Addr) (n m c c' : Nat) : (Value.slice A n c).ownBlock = (Value.slice A m c').ownBlock := by cases A <;> rfl
theorem CsR.drop1 {w : World} {B b o : Nat} {A A' : Option Addr} {qs : List Nat} (h : CsR w B b o A qs.length (qs.map ptr)) (n : Nat) (hA : n < qs.length → A' = some ⟨b, o + n, Option.none⟩) : CsR w B b (o + n) A' (qs.drop n).length ((qs.drop n).map ptr) := by
 have hl : (qs.drop n).length = qs.length - n := List.length_drop
 refine ⟨fun hx => hA (by omega), fun hx => h.lt (by omega), fun j u hu => ?_, fun h0 => by rw [List.eq_nil_of_length_eq_zero h0]; rfl⟩
 rw [List.map_drop, List.getElem?_drop] at hu
 have := h.cell _ u hu
 rwa [← Nat.add_assoc] at this
theorem own_take1 {base : Nat} {w : World} {e : TypeId} {A : Option Addr} {c n : Nat} {qs : List Nat} (h : w.ownsRow base e 1 (.slice A qs.length c) qs.length (qs.map ptr)) (hn : n ≤ qs.length) : w.ownsRow base e 1 (.slice A n c) n ((qs.take n).map ptr) := by
 rcases h.2 with ⟨hv, hx⟩ | ⟨g, cap, cur, hv, _⟩
 ·injection hv with e1 e2 e3
  subst e1; subst e3
  obtain rfl : n = 0 := by omega
  simpa using World.ownsRow_nil w base e 1
 ·injection hv with e1 e2 e3
  subst e1
  obtain ⟨f, hf, hxx, hb, hnc, hcm⟩ := own_row h
  refine row_own hf (fun j hj => ?_) (by simp; omega) hb (by omega) hcm
  rw [List.map_take, List.getElem?_take, if_pos (by omega)]
  exact hxx j (by omega)
theorem SK.push {w0 W W1 w5 : World} {A A3 A5 : Option Addr} {c c3 c5 n : Nat} {L : List Tm} {qs : List Nat} {x : Mk} {a : Tm} {ty ty' : TypeId} (h : SK w0 W A c L qs) (hn : n ≤ qs.length) (hb1 : Below W.heap.size W W1)
  (own3 : W1.ownsRow W.heap.size 131 1 (.slice A3 (qs.drop n).length c3) (qs.drop n).length ((qs.drop n).map ptr)) (hm : a.mark = x) (hk : a.kids = L.drop n)
  (hown5 : w5.ownsRow w0.heap.size 131 1 (.slice A5 (n + 1) c5) (n + 1) ((qs.take n).map ptr ++ [ptr W1.heap.size]))
  (hg5 : ((W1.alloc (.cells #[.int .i64 x.k, .int .i64 x.l, .int .i64 x.h, .slice A3 (qs.drop n).length c3] ty)).alloc (.cells #[ptr W1.heap.size] ty')).grownBy w5 (Value.slice A n c).ownBlock)
  (hat5 : (Value.slice A5 (n + 1) c5).ownBlock = (Value.slice A n c).ownBlock ∨ (Value.slice A5 (n + 1) c5).ownBlock = some (W1.heap.size + 2)) :
  SK w0 w5 A5 c5 (L.take n ++ [a]) (qs.take n ++ [W1.heap.size]) := by
 have hb2 : Below W1.heap.size W1 ((W1.alloc (.cells #[.int .i64 x.k, .int .i64 x.l, .int .i64 x.h, .slice A3 (qs.drop n).length c3] ty)).alloc (.cells #[ptr W1.heap.size] ty')) := by go_grown
 have c0 : ∀ i v, #[Value.int .i64 x.k, .int .i64 x.l, .int .i64 x.h, .slice A3 (qs.drop n).length c3][i]? = some v → ((W1.alloc (.cells #[.int .i64 x.k, .int .i64 x.l, .int .i64 x.h, .slice A3 (qs.drop n).length c3] ty)).alloc (.cells #[ptr W1.heap.size] ty')).cell? ⟨W1.heap.size, i, none⟩ = some v := fun i v hi => by
  simp [go_sem, hi, -List.length_drop]
 have hsz : ((W1.alloc (.cells #[.int .i64 x.k, .int .i64 x.l, .int .i64 x.h, .slice A3 (qs.drop n).length c3] ty)).alloc (.cells #[ptr W1.heap.size] ty')).heap.size = W1.heap.size + 2 := by simp
 generalize (W1.alloc (.cells #[.int .i64 x.k, .int .i64 x.l, .int .i64 x.h, .slice A3 (qs.drop n).length c3] ty)).alloc (.cells #[ptr W1.heap.size] ty') = W3 at hb2 c0 hsz hg5
 have hq : (Value.slice A n c).ownBlock = (Value.slice A qs.length c).ownBlock := own_len _ _ _ _ _
 have hlo : ∀ k, (Value.slice A n c).ownBlock = some k → w0.heap.size ≤ k ∧ k < W.heap.size := fun k hk => h.own.lt k (hq ▸ hk)
 have hs1 := hb1.size
 have hs5 := hg5.size
 have hl : (qs.take n ++ [W1.heap.size]).length = n + 1 := by simp; omega
 have hLn : n ≤ L.length := by rw [← h.len]; exact hn
 have hbel := h.bel.size
 -- what lay there before stays
 have keep : ∀ b o v, (b < W1.heap.size ∧ (Value.slice A n c).ownBlock ≠ some b) → W1.cell? ⟨b, o, none⟩ = some v → w5.cell? ⟨b, o, none⟩ = some v := fun b o v hx hv =>
  hg5.cell (a := ⟨b, o, none⟩) ((hb2.cell (p := ⟨b, o, none⟩) hx.1).trans hv) (fun e => hx.2 e.symm)
 have keepS : ∀ b, (b < W1.heap.size ∧ (Value.slice A n c).ownBlock ≠ some b) → b < w5.heap.size ∧ (Value.slice A5 (qs.take n ++ [W1.heap.size]).length c5).ownBlock ≠ some b := fun b hx => by
  refine ⟨by omega, fun e => ?_⟩
  rw [hl] at e
  rcases hat5 with e1 | e1
  ·exact hx.2 (e1 ▸ e)
  ·rw [e1] at e; injection e with e; omega
 have old : ∀ (j : Nat) (k : Tm), L[j]? = some k → ∃ q, qs[j]? = some q ∧ PartAt W1 (fun b => b < W1.heap.size ∧ (Value.slice A n c).ownBlock ≠ some b) k q := fun j k hj => by
  obtain ⟨q, h1, h2⟩ := h.kid j k hj
  exact ⟨q, h1, h2.kept (fun x hx => ⟨Nat.lt_of_lt_of_le hx.1 hs1, hq ▸ hx.2⟩) (fun b o v hx hv => (hb1.cell (p := ⟨b, o, none⟩) hx.1).trans hv)⟩
 have hbW1 : Below w0.heap.size w0 W3 := bthen (bthen h.bel hb1) hb2
 refine ⟨hbW1.grown hg5 (by omega) (fun k hk => (hlo k hk).1), ?_, by simp; omega, fun j k hj => ?_⟩
 ·rw [hl, List.map_append]; exact hown5
 ·by_cases hjn : j < n
  ·rw [List.getElem?_append_left (by simp; omega), List.getElem?_take, if_pos hjn] at hj
   obtain ⟨q, h1, h2⟩ := old j k hj
   refine ⟨q, ?_, h2.kept keepS keep⟩
   rw [List.getElem?_append_left (by simp; omega), List.getElem?_take, if_pos hjn]; exact h1
  ·have hjn' : j = n := by
    have := (List.getElem?_eq_some_iff.1 hj).1
    simp at this; omega
   subst hjn'
   rw [List.getElem?_append_right (by simp; omega)] at hj
   have e0 : j - (L.take j).length = 0 := by simp; omega
   rw [e0] at hj
   simp at hj
   subst hj
   refine ⟨W1.heap.size, ?_, ?_⟩
   ·rw [List.getElem?_append_right (by simp; omega)]
    have e0 : j - (qs.take j).length = 0 := by simp; omega
    rw [e0]; rfl
   ·have hAt : W1.heap.size < w5.heap.size ∧ (Value.slice A5 (qs.take j ++ [W1.heap.size]).length c5).ownBlock ≠ some W1.heap.size := by
     refine ⟨by omega, fun e => ?_⟩
     rw [hl] at e
     rcases hat5 with e1 | e1
     ·have := hlo _ (e1 ▸ e); omega
     ·rw [e1] at e; injection e with e; omega
    have hcell : ∀ i v, #[Value.int .i64 x.k, .int .i64 x.l, .int .i64 x.h, .slice A3 (qs.drop j).length c3][i]? = some v → w5.cell? ⟨W1.heap.size, i, none⟩ = some v := fun i v hi =>
     hg5.cell (a := ⟨W1.heap.size, i, none⟩) (c0 i v hi) (fun e => by have h9 := hlo _ e.symm; dsimp only at h9; omega)
    obtain ⟨A3', g3, c3', hv3, g1, g2, g3c⟩ := own_form own3
    injection hv3 with e1 e2 e3
    subst e1; subst e3
    have hkl : a.kids.length = (qs.drop j).length := by rw [hk]; simp [h.len]
    have hdl : (qs.drop j).length = qs.length - j := List.length_drop
    refine PartAt.made (A := A3) (c := c3) (b := g3) (o := 0) ?_ (fun h0 => ⟨g1 (by omega), ?_⟩) (fun i k hi => ?_)
    ·rw [hm, hkl]
     exact ⟨hAt, hcell 0 _ rfl, hcell 1 _ rfl, hcell 2 _ rfl, hcell 3 _ rfl⟩
    ·have h2 := g2 (by omega)
     exact keepS g3 ⟨h2.2, fun e => by have := hlo _ e; omega⟩
    ·rw [hk, List.getElem?_drop] at hi
     obtain ⟨q, h1, h2⟩ := old _ k hi
     refine ⟨q, ?_, h2.kept keepS keep⟩
     have hil : i < qs.length - j := by have := (List.getElem?_eq_some_iff.1 h1).1; omega
     have h3 := g2 (by omega)
     rw [Nat.zero_add]
     refine keep g3 i _ ⟨h3.2, fun e => by have := hlo _ e; omega⟩ (g3c i _ ?_)
     rw [List.getElem?_map, List.getElem?_drop, h1]; rfl
/-- What build hands back. -/
def Built (w : World) (o : Option Tm) (v : Value) : Prop := match o with
 | none => v = .pointer none
 | some a => ∃ p, v = ptr p ∧ PtR w w.heap.size a p
theorem sk_nil {w : World} : SK w w none 0 [] [] := ⟨Below.refl _ _, World.ownsRow_nil _ _ _ _, rfl, fun j a h => by simp at h⟩
theorem run_dead {t : List Mk} {k : Nat} (h : runM (t.take k) [] = none) : runM t [] = none := by
 rw [← List.take_append_drop k t, runM_append, h]; rfl

/-- A mark in a box. -/
structure MB (W : World) (V : Nat) (x : Mk) : Prop where
 ex : V < W.heap.size
 c0 : W.cell? ⟨V, 0, none⟩ = some (.int .i64 x.k)
 c1 : W.cell? ⟨V, 1, none⟩ = some (.int .i64 x.l)
 c2 : W.cell? ⟨V, 2, none⟩ = some (.int .i64 x.h)
theorem MB.below {W W' : World} {V : Nat} {x : Mk} (h : MB W V x) (hb : Below W.heap.size W W') : MB W' V x :=
 ⟨Nat.lt_of_lt_of_le h.ex hb.size, ((bcell hb).1 _ _ h.ex).trans h.c0, ((bcell hb).1 _ _ h.ex).trans h.c1, ((bcell hb).1 _ _ h.ex).trans h.c2⟩
theorem mb_new (W : World) (x : Mk) (t : TypeId) : MB (W.alloc (.cells #[.int .i64 x.k, .int .i64 x.l, .int .i64 x.h] t)) W.heap.size x :=
 ⟨by simp, by simp [go_sem], by simp [go_sem], by simp [go_sem]⟩

set_option maxHeartbeats 4000000 in
set_option maxRecDepth 100000 in
theorem build_q (t : List Mk) (A : Option Addr) (b o c B : Nat) (w : World) (hB : B ≤ w.heap.size) (hR : MkR w B b o A t) (hn : t.length ≤ 2000000) :
  Calls Tryz.prog 107 #[.slice A t.length c] w fun e w' => ∃ v, e = .returned v ∧ Built w' (termOf t) v ∧ Below w.heap.size w w' := by
 obtain ⟨i0, hi0, hz0, hz1, hz2⟩ := info_parts infoP
 obtain ⟨q, hq⟩ : ∃ q, inB (t.length : Int) 1 11 = q := ⟨_, rfl⟩
 have Hq := hide hq
 cases q
 ·have hN : termOf t = none := by
   unfold termOf
   split
   ·rename_i h11
    have h0 : t = [] := by
     apply List.eq_nil_of_length_eq_zero
     simp [inB] at hq
     omega
    subst h0; rfl
   ·rfl
  rw [hN]
  clear hN hq
  go_enter Tryz.func107, Tryz.ntmps107
  go_wp2_with (go_at_call 89; refine (in_c _ _ _ _).mono ?_; rintro e w' ⟨rfl, rfl⟩; rw [Hq.out])
  go_ret
  exact ⟨_, rfl, rfl, Below.refl _ _⟩
 ·have h11 : 1 ≤ t.length ∧ t.length ≤ 11 := by simp [inB] at hq; omega
  have HT : Hid (termOf t = match runM t [] with | some [a] => some a | _ => none) := by unfold Hid termOf; rw [if_pos h11.2]; rfl
  obtain ⟨h1, h11⟩ := h11
  clear hq
  have hR0 := hR.more hB
  clear hR hB
  go_enter Tryz.func107, Tryz.ntmps107
  go_wp2_with (go_at_call 89; refine (in_c _ _ _ _).mono ?_; rintro e w' ⟨rfl, rfl⟩; rw [Hq.out])
  go_loopg [3, 13] t.length (fun gh s3 s13 wr => ∃ (k : Nat) (L : List Tm) (A1 : Option Addr) (c1 : Nat) (qs : List Nat), k ≤ t.length ∧ gh = t.length - k ∧ s13 = .int .i64 k ∧ s3 = .slice A1 qs.length c1 ∧ qs.length ≤ k ∧ Hid (runM (t.take k) [] = some L.reverse) ∧ SK w wr A1 c1 L qs)
  case atStart => exact ⟨0, [], none, 0, [], Nat.zero_le _, rfl, rfl, rfl, Nat.le_refl _, rfl, sk_nil⟩
  case round =>
   obtain ⟨k, L, A1, c1, qs, hk, rfl, rfl, rfl, hqk, HL, hK⟩ := hrel
   by_cases hlt : k < t.length
   ·have hx := List.getElem?_eq_getElem hlt
    have hRr := (hR0.below hK.bel).more hK.bel.size
    obtain rfl := hRr.addr (by omega)
    obtain ⟨d0, d1, d2⟩ := mk_cells hRr hx
    have hT : Hid (runM t [] = (pushM L.reverse t[k]).bind (runM (t.drop (k + 1)))) := by
     unfold Hid
     have e : t = t.take k ++ t[k] :: t.drop (k + 1) := by rw [← List.drop_eq_getElem_cons hlt, List.take_append_drop]
     generalize t[k] = x at e ⊢
     generalize t.drop (k + 1) = r at e ⊢
     have h9 := HL.out
     generalize t.take k = l at e h9
     rw [e, runM_append, h9]
     simp only [Option.bind_some, runM]
     cases pushM L.reverse x <;> rfl
    have hT1 : Hid (runM (t.take (k + 1)) [] = pushM L.reverse t[k]) := by
     unfold Hid
     rw [List.take_succ_eq_append_getElem hlt, runM_append, HL.out]
     simp only [Option.bind_some, runM]
     cases pushM L.reverse t[k] <;> rfl
    generalize t[k] = x at hx d0 d1 d2 hT hT1
    have hkz : (k : Int) < (t.length : Int) := by omega
    have hPl := parts_le x
    obtain ⟨p, hp⟩ : ∃ p, partsN x = p := ⟨_, rfl⟩
    rw [hp] at hPl
    obtain ⟨hp1, hp2⟩ := hPl
    have Hp := hide hp
    have hLl := hK.len
    have HLl := hide hLl
    clear hx hRr hp hLl
    have hK1 := hK.below (show Below wr.heap.size wr (wr.alloc (.cells #[.int .i64 x.k, .int .i64 x.l, .int .i64 x.h] 139)) by go_grown)
    have hM := mb_new wr x 139
    have hw : IntKind.i64.wrap ((qs.length : Int) - p) = (qs.length : Int) - p := IntWalk.i64_in _ (by omega)
    have hVk : ∀ k, (Value.slice A1 qs.length c1).ownBlock = some k → k < wr.heap.size := fun k hk => (hK.own.lt k hk).2
    have HVk := hide hVk
    clear hVk
    go_upto_region 7 with fail
    generalize wr.alloc (.cells #[.int .i64 x.k, .int .i64 x.l, .int .i64 x.h] 139) = W at hK1 hM ⊢
    generalize wr.heap.size = V at hM HVk ⊢
    have v0 := hM.c0
    have v1 := hM.c1
    have v2 := hM.c2
    clear d0 d1 d2 hK
    by_cases hneg : p < 0
    ·have hN : termOf t = none := by
      rw [HT.out, hT.out, push_no (.inl (by rw [Hp.out]; exact hneg))]; rfl
     have HN := hide hN
     clear hN
     go_wp2_with (go_at_call 122; go_fit (parts_c x _); rintro e w2 ⟨rfl, hb⟩; rw [Hp.out]; replace hK1 := hK1.below hb; replace hM := hM.below hb; clear v0 v1 v2 hb; have v0 := hM.c0; have v1 := hM.c1; have v2 := hM.c2)
     go_ret
     rw [HN.out]
     exact ⟨_, rfl, rfl, hK1.bel⟩
    ·by_cases hn2 : (qs.length : Int) - p < 0
     ·have hN : termOf t = none := by
       rw [HT.out, hT.out, push_no (.inr (by rw [Hp.out, ← HLl.out]; exact hn2))]; rfl
      have HN := hide hN
      clear hN
      go_wp2_with (go_at_call 122; go_fit (parts_c x _); rintro e w2 ⟨rfl, hb⟩; rw [Hp.out]; replace hK1 := hK1.below hb; replace hM := hM.below hb; clear v0 v1 v2 hb; have v0 := hM.c0; have v1 := hM.c1; have v2 := hM.c2)
      go_ret
      rw [HN.out]
      exact ⟨_, rfl, rfl, hK1.bel⟩
     ·obtain ⟨n, hn⟩ : ∃ n : Nat, (qs.length : Int) - p = n := ⟨((qs.length : Int) - p).toNat, by omega⟩
      obtain ⟨a, ha1, ha2, ha3⟩ := push_yes (L := L) (m := x) (n := n) (by rw [Hp.out]; omega) (by rw [Hp.out, ← HLl.out]; exact hn)
      have hnq : n ≤ qs.length := by omega
      have Hn := hide hn
      have Ha := hide (And.intro ha2 ha3)
      have HN1 : Hid (runM (t.take (k + 1)) [] = some (L.take n ++ [a]).reverse) := by rw [hT1.out]; exact ha1
      clear hn ha1 ha2 ha3 hT hT1
      go_upto_region 10 with (go_at_call 122; go_fit (parts_c x _); rintro e w2 ⟨rfl, hb⟩; rw [Hp.out]; replace hK1 := hK1.below hb; replace hM := hM.below hb; clear v0 v1 v2 hb; have v0 := hM.c0; have v1 := hM.c1; have v2 := hM.c2)
      rw [Hn.out]
      have hdl : (qs.drop n).length = qs.length - n := List.length_drop
      have hcap := own_capM hK1.own
      have hnc : n ≤ c1 := by omega
      obtain ⟨g, hg⟩ := own_csR hK1.own
      obtain ⟨A2, hA2⟩ : ∃ A2, (if c1 = n then A1 else A1.map (fun x => x.add n)) = A2 := ⟨_, rfl⟩
      have hcs := hg.drop1 (A' := A2) n (fun h => by rw [← hA2, if_neg (by omega), hg.addr (by omega)]; simp [add_zero_off])
      have hown0 := own_take1 hK1.own hnq
      have HA2 := hide hA2
      have Hdl := hide hdl
      clear hA2 hneg hn2 hw hg hdl
      refine wp_regionE (fun w' => w'.cell? ⟨V, 0, none⟩ = some (.int .i64 x.k) ∧ w'.cell? ⟨V, 1, none⟩ = some (.int .i64 x.l) ∧ w'.cell? ⟨V, 2, none⟩ = some (.int .i64 x.h)) 12 (by kernel_rfl) ?_
      change wpE _ _ _ _ _ _ 13 #[false, false, false, false, false, false, false, false, false, false, false, false, false] _ _
      have hdr : Below w2.heap.size w2 w2.drew := by go_grown
      replace hcs := (hcs.below hdr).more hdr.size
      replace hK1 := hK1.below hdr
      replace hM := hM.below hdr
      replace hown0 := own_below hown0 hdr
      clear v0 v1 v2 hdr
      generalize w2.drew = wd at hcs hK1 hM hown0 ⊢
      have hS0 : wd.cell? ⟨V, 0, none⟩ = some (.int .i64 x.k) ∧ wd.cell? ⟨V, 1, none⟩ = some (.int .i64 x.l) ∧ wd.cell? ⟨V, 2, none⟩ = some (.int .i64 x.h) := ⟨hM.c0, hM.c1, hM.c2⟩
      refine wpE_tk (v := ?_) 0 [12] (hy := ?_) (hS := hS0) (h := ?_)
      rotate_left
      ·intro w' hSw
       simp only [xg0, xg1, xg2]
       go_simp
       all_goals with_reducible rfl
      simp only [xg0, xg1, xg2, Act.put, xs0, xs1, xs2]
      refine wpE_tk (v := ?_) 1 [12] (hy := ?_) (hS := hS0) (h := ?_)
      rotate_left
      ·intro w' hSw
       simp only [xg0, xg1, xg2]
       go_simp
       all_goals with_reducible rfl
      simp only [xg0, xg1, xg2, Act.put, xs0, xs1, xs2]
      refine wpE_tk (v := ?_) 2 [12] (hy := ?_) (hS := hS0) (h := ?_)
      rotate_left
      ·intro w' hSw
       simp only [xg0, xg1, xg2]
       go_simp
       all_goals with_reducible rfl
      simp only [xg0, xg1, xg2, Act.put, xs0, xs1, xs2]
      refine wpE_tk (v := ?_) 3 [12] (hy := ?_) (hS := hS0) (h := ?_)
      rotate_left
      ·intro w' hSw
       simp only [xg0, xg1, xg2]
       go_simp
       all_goals with_reducible rfl
      simp only [xg0, xg1, xg2, Act.put, xs0, xs1, xs2]
      refine wpE_tk (v := ?_) 4 [12] (hy := ?_) (hS := hS0) (h := ?_)
      rotate_left
      ·intro w' hSw
       simp only [xg0, xg1, xg2]
       go_simp
       all_goals with_reducible rfl
      simp only [xg0, xg1, xg2, Act.put, xs0, xs1, xs2]
      refine wpE_tk (v := ?_) 5 [12] (hy := ?_) (hS := hS0) (h := ?_)
      rotate_left
      ·intro w' hSw
       simp only [xg0, xg1, xg2]
       go_simp
       all_goals with_reducible rfl
      simp only [xg0, xg1, xg2, Act.put, xs0, xs1, xs2]
      refine wpE_tk (v := ?_) 6 [12] (hy := ?_) (hS := hS0) (h := ?_)
      rotate_left
      ·intro w' hSw
       simp only [xg0, xg1, xg2]
       go_simp
       all_goals with_reducible rfl
      simp only [xg0, xg1, xg2, Act.put, xs0, xs1, xs2]
      rw [HA2.out]
      refine wpE_step' 7 (of_decide_eq_true (by kernel_rfl)) (by kernel_rfl) (by kernel_rfl) (fun K hK => ?_)
      simp only [xg0, xg1, xg2]
      go_simp
      go_at_call 123
      have hcall := cloneP_c (qs.drop n) A2 g (0 + n) (c1 - n) _ wd (by rw [Hdl.out]; omega) (Nat.le_refl _) hcs
      rw [Hdl.out] at hcall
      refine hcall.mono ?_
      clear hcall hcs
      rintro e w3 ⟨A3, c3, rfl, own3, hb3⟩
      have hM3 := hM.below hb3
      refine hK.out _ _ (.inr ⟨hM3.c0, hM3.c1, hM3.c2⟩) ?_
      clear hK K hS0
      have hS0 : w3.cell? ⟨V, 0, none⟩ = some (.int .i64 x.k) ∧ w3.cell? ⟨V, 1, none⟩ = some (.int .i64 x.l) ∧ w3.cell? ⟨V, 2, none⟩ = some (.int .i64 x.h) := ⟨hM3.c0, hM3.c1, hM3.c2⟩
      simp only [Act.put, xs0, xs1, xs2]
      refine wpE_tk (v := ?_) 8 [12] (hy := ?_) (hS := hS0) (h := ?_)
      rotate_left
      ·intro w' hSw
       simp only [xg0, xg1, xg2]
       go_simp
       all_goals with_reducible rfl
      simp only [xg0, xg1, xg2, Act.put, xs0, xs1, xs2]
      have hb4 : Below w3.heap.size w3 (w3.alloc (.cells #[.int .i64 x.k, .int .i64 x.l, .int .i64 x.h, .slice A3 (qs.length - n) c3] 150)) := by go_grown
      have hM4 := hM3.below hb4
      refine wpE_step' 9 (of_decide_eq_true (by kernel_rfl)) (by kernel_rfl) (by kernel_rfl) (fun K hK => ?_)
      simp only [xg0, xg1, xg2]
      go_simp
      refine hK.out _ _ (.inr ⟨hM4.c0, hM4.c1, hM4.c2⟩) ?_
      clear hK K hS0
      simp only [Act.put, xs0, xs1, xs2]
      have hb5 : Below (w3.alloc (.cells #[.int .i64 x.k, .int .i64 x.l, .int .i64 x.h, .slice A3 (qs.length - n) c3] 150)).heap.size (w3.alloc (.cells #[.int .i64 x.k, .int .i64 x.l, .int .i64 x.h, .slice A3 (qs.length - n) c3] 150)) ((w3.alloc (.cells #[.int .i64 x.k, .int .i64 x.l, .int .i64 x.h, .slice A3 (qs.length - n) c3] 150)).alloc (.cells #[ptr w3.heap.size] 131)) := by go_grown
      have hM5 := hM4.below hb5
      have hwn : ((w3.alloc (.cells #[.int .i64 x.k, .int .i64 x.l, .int .i64 x.h, .slice A3 (qs.length - n) c3] 150)).alloc (.cells #[ptr w3.heap.size] 131)).heap[w3.heap.size + 1]? = some (.cells #[ptr w3.heap.size] 131 (0, 0)) := at_new (by simp)
      have hown5 := own_below (own_below (own_below hown0 hb3) hb4) hb5
      have hsz5 : w.heap.size ≤ ((w3.alloc (.cells #[.int .i64 x.k, .int .i64 x.l, .int .i64 x.h, .slice A3 (qs.length - n) c3] 150)).alloc (.cells #[ptr w3.heap.size] 131)).heap.size := by
       have h1 := hK1.bel.size
       have h2 := hb3.size
       have h3 := hb4.size
       have h4 := hb5.size
       omega
      have hsp : ((w3.alloc (.cells #[.int .i64 x.k, .int .i64 x.l, .int .i64 x.h, .slice A3 (qs.length - n) c3] 150)).alloc (.cells #[ptr w3.heap.size] 131)).heap.size = w3.heap.size + 2 := by simp
      refine wpE_step' 10 (of_decide_eq_true (by kernel_rfl)) (by kernel_rfl) (by kernel_rfl) (fun K hK => ?_)
      simp only [xg0, xg1, xg2]
      go_simp
      refine hK.out _ _ (.inr ⟨hM5.c0, hM5.c1, hM5.c2⟩) ?_
      clear hK K
      simp only [Act.put, xs0, xs1, xs2]
      have Hg : Hid (∃ wq, wq = (w3.alloc (.cells #[.int .i64 x.k, .int .i64 x.l, .int .i64 x.h, .slice A3 (qs.length - n) c3] 150)).alloc (.cells #[ptr w3.heap.size] 131)) := ⟨_, rfl⟩
      obtain ⟨wq, hwq⟩ := Hg.out
      have e0 : (Value.pointer (some { block := w3.heap.size, off := 0 })) = ptr w3.heap.size := rfl
      rw [e0]
      rw [← hwq] at hwn hown5 hsz5 hM5 hsp ⊢
      clear Hg
      refine wpE_step' 11 (of_decide_eq_true (by kernel_rfl)) (by kernel_rfl) (by kernel_rfl) (fun K hK => ?_)
      simp only [xg0, xg1, xg2]
      refine app_wp _ (.tmp 31) (.tmp 39) _ rfl w.heap.size 131 i0 _ 1 8 Tryz.underlying146 hi0 hz0 hz1 hz2 rfl (by omega) (.slice A1 n c1) n ((qs.take n).map ptr) rfl hown5 (some ⟨w3.heap.size + 1, 0, none⟩) 1 _ [ptr w3.heap.size] rfl rfl (NewsAt.block (cs := #[ptr w3.heap.size]) hwn) (by simp [ptr, Value.oneCell']) (by omega) (by omega) hsz5 ?_
      intro A5 c5 w5 hown6 hg5 hat5
      rw [hsp] at hat5
      have hMq : w5.cell? ⟨V, 0, none⟩ = some (.int .i64 x.k) ∧ w5.cell? ⟨V, 1, none⟩ = some (.int .i64 x.l) ∧ w5.cell? ⟨V, 2, none⟩ = some (.int .i64 x.h) := by
       have hne : some V ≠ (Value.slice A1 n c1).ownBlock := fun e => by
        have := HVk.out V (by rw [own_len A1 qs.length n c1 c1]; exact e.symm); omega
       exact ⟨hg5.cell (a := ⟨V, 0, none⟩) hM5.c0 hne, hg5.cell (a := ⟨V, 1, none⟩) hM5.c1 hne, hg5.cell (a := ⟨V, 2, none⟩) hM5.c2 hne⟩
      refine hK.out _ _ (.inr hMq) ?_
      clear hK K hMq
      simp only [Act.put, xs0, xs1, xs2]
      refine wpE_step' 12 (of_decide_eq_true (by kernel_rfl)) (by kernel_rfl) (by kernel_rfl) (fun K hK => ?_)
      simp only [xg0, xg1, xg2]
      go_simp
      refine hK.out _ _ (.inl rfl) ?_
      clear hK K
      simp only [Act.put, xs0, xs1, xs2]
      refine wpE_done (by kernel_rfl) ?_ _
      have HK2 : Hid (SK w w5 A5 c5 (L.take n ++ [a]) (qs.take n ++ [w3.heap.size])) := by
       rw [hwq, ← Hdl.out] at hg5
       rw [← Hdl.out] at own3
       exact hK1.push hnq hb3 own3 Ha.out.1 Ha.out.2 hown6 hg5 hat5
      obtain ⟨qs2, hqs2⟩ : ∃ q, qs.take n ++ [w3.heap.size] = q := ⟨_, rfl⟩
      have hl2 : qs2.length = n + 1 := by rw [← hqs2]; simp; omega
      rw [hqs2] at HK2
      have HL2 := hide hl2
      clear hqs2 hl2 hown6 hg5 hat5 own3 hown5 hown0 hK1 hM hM3 hM4 hM5 hb3 hb4 hb5 hwn hsz5 hsp hwq e0 HL
      go_wp2_with fail
      go_roundg (t.length - (k + 1))
      case measure => go_light; omega
      case rel => go_light; exact ⟨k + 1, L.take n ++ [a], A5, c5, qs2, by omega, rfl, by go_num, by rw [HL2.out], by rw [HL2.out]; omega, HN1, HK2.out⟩
   ·obtain rfl : k = t.length := by omega
    have hrun : runM t [] = some L.reverse := by have := HL.out; rwa [List.take_length] at this
    have hll := hK.len
    by_cases h1q : qs.length = 1
    ·obtain ⟨a, rfl⟩ : ∃ a, L = [a] := by
      rw [h1q] at hll
      match L, hll with
      | [], h => simp at h
      | [a], _ => exact ⟨a, rfl⟩
      | a :: b :: L, h => simp at h
     have hN : termOf t = some a := by rw [HT.out, hrun]; rfl
     have HN := hide hN
     obtain ⟨q, h1, h2⟩ := hK.kid 0 a rfl
     obtain ⟨g, hg⟩ := own_csR hK.own
     obtain rfl := hg.addr (by omega)
     have p0 := hg.cell 0 (ptr q) (by rw [List.getElem?_map, h1]; rfl)
     have hz : (qs.length : Int) = 1 := by rw [h1q]; rfl
     have hbel := hK.bel
     clear hN hrun hll hg hK HL HT h1 hR0
     rw [h1q]
     clear hz
     go_wp2_with fail
     go_ret
     exact ⟨ptr q, rfl, by rw [HN.out]; exact ⟨q, rfl, h2.mono (fun x hx => hx.1)⟩, hbel⟩
    ·have hN : termOf t = none := by
      rw [HT.out, hrun]
      match L, hll with
      | [], _ => rfl
      | [a], h => exact absurd h h1q
      | a :: b :: L, _ =>
        simp only [List.reverse_cons, List.append_assoc]
        generalize L.reverse = r
        match r with
        | [] => rfl
        | x :: [] => rfl
        | x :: y :: r => rfl
     have HN := hide hN
     have hne : ((qs.length : Int) == 1) = false := by simp; omega
     have hbel := hK.bel
     clear hN hrun hll hK HL HT
     go_wp2_with fail
     go_ret
     exact ⟨_, rfl, by rw [HN.out]; rfl, hbel⟩
theorem build_yes {a : Tm} (t : List Mk) (ht : termOf t = some a) (A : Option Addr) (b o c B : Nat) (w : World) (hB : B ≤ w.heap.size) (hR : MkR w B b o A t) (hn : t.length ≤ 2000000) :
  Calls Tryz.prog 107 #[.slice A t.length c] w fun e w' => ∃ p, e = .returned (ptr p) ∧ PtR w' w'.heap.size a p ∧ Below w.heap.size w w' := by
 refine (build_q t A b o c B w hB hR hn).mono ?_
 rintro e w' ⟨v, rfl, h, hb⟩
 rw [ht] at h
 obtain ⟨p, rfl, hp⟩ := h
 exact ⟨p, rfl, hp, hb⟩
theorem build_no (t : List Mk) (ht : termOf t = none) (A : Option Addr) (b o c B : Nat) (w : World) (hB : B ≤ w.heap.size) (hR : MkR w B b o A t) (hn : t.length ≤ 2000000) :
  Calls Tryz.prog 107 #[.slice A t.length c] w fun e w' => e = .returned (.pointer none) ∧ Below w.heap.size w w' := by
 refine (build_q t A b o c B w hB hR hn).mono ?_
 rintro e w' ⟨v, rfl, h, hb⟩
 rw [ht] at h
 obtain rfl : v = .pointer none := h
 exact ⟨rfl, hb⟩
end Go.Proofs.YtmnajkhoacogjaaGreatDoor
