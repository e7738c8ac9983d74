/-
  spec: l11Both, l11Then.
  spec: l11Atom.
-/
import Derived.Test.YtmnajkhoacogjaaS92
import Derived.Test.YtmnajkhoacogjaaD70
namespace Go.Proofs.Ytmnajkhoacogjaa
set_option linter.unusedVariables false
set_option linter.unusedSimpArgs false
open Go Go.RowKit Pp

open Go Go.RowKit Pp

namespace Pp
/-- What a reader of the reference returns. -/
def RdV (L : List UInt8) (md : Md) (w w' : World) (n : Int) (v : Value) : Prop := ∃ A1 c1, ∃ t : List Mk, ∃ n' : Int, v = .tuple #[.slice A1 t.length c1, .int .i64 n'] ∧ OwnM w.heap.size w' (.slice A1 t.length c1) t ∧ Sp L md [] n t n'
def CallsRd (f : FuncId) (md : Md) (s : ByteArray) (L : List UInt8) (i : Nat) : Prop := ∀ w : World, Calls Try.prog f #[.string s, .int .i64 (i : Int)] w fun e w' => ∃ v, e = .returned v ∧ RdV L md w w' (i : Int) v ∧ Below w.heap.size w w'
/-- How far a loop has come. -/
def lefts (n : Int) (m : Nat) : Nat := if n < 0 then 0 else m + 1 - n.toNat
def rngP (i m : Nat) (n : Int) (l : Nat) : Prop := (n = -1 ∧ l ≤ m - i) ∨ ((i : Int) ≤ n ∧ n ≤ m ∧ (l : Int) ≤ n - i)
end Pp
theorem ch_cases {L : List UInt8} {m : Nat} {n : Int} {c : UInt8} (hm : m = L.length) (hn : n = -1 ∨ (0 ≤ n ∧ n ≤ (m : Int))) :
    (ch L n c = true ∧ ∃ (k : Nat) (d : UInt8), n = k ∧ k < m ∧ L[k]? = some d ∧ d = c) ∨ (ch L n c = false ∧ ((n < 0) ∨ (0 ≤ n ∧ (m : Int) ≤ n) ∨ ∃ (k : Nat) (d : UInt8), n = k ∧ k < m ∧ L[k]? = some d ∧ d ≠ c)) := by
  subst hm
  by_cases h : ch L n c = true
  · left
    refine ⟨h, ?_⟩
    unfold ch at h
    obtain ⟨h0, h1⟩ := of_decide_eq_true h
    exact ⟨n.toNat, c, by omega, (List.getElem?_eq_some_iff.1 h1).1, h1, rfl⟩
  · right
    refine ⟨by simpa using h, ?_⟩
    rcases hn with hn | hn
    · exact .inl (by omega)
    · by_cases h2 : n < (L.length : Int)
      · right; right
        have hk : n.toNat < L.length := by omega
        refine ⟨n.toNat, L[n.toNat], by omega, hk, List.getElem?_eq_getElem hk, fun e => h ?_⟩
        unfold ch
        rw [decide_eq_true_eq]
        exact ⟨by omega, by rw [List.getElem?_eq_getElem hk, e]⟩
      · exact .inr (.inl (by omega))
theorem toNat_is {d c : UInt8} {k : Nat} (h : d = c) (hk : c.toNat = k) : ((d.toNat : Int) == (k : Int)) = true := by subst h; simp [hk]
theorem toNat_not {d c : UInt8} {k : Nat} (h : d ≠ c) (hk : c.toNat = k) : ((d.toNat : Int) == (k : Int)) = false := by
  simp
  intro e
  exact h (UInt8.toNat_inj.1 (by omega))
set_option maxHeartbeats 2000000 in
set_option maxRecDepth 100000 in
theorem both_q (s : ByteArray) (L : List UInt8) (hL : s.data.toList = L) (hl : s.size ≤ 120) (i : Nat) (hi : i ≤ s.size) (hI : ∀ j, i ≤ j → j ≤ s.size → CallsRd 51 .atm s L j) : CallsRd 48 .bth s L i := by
  intro w
  have Hsz := hide (str_size hL)
  obtain ⟨i0, hi0, hz0, hz1, hz2⟩ := info_parts infoM
  have HI := hide hI
  clear hI
  go_enter Try.func48, Try.ntmps48
  go_upto_region 2 with (go_at_call 51; refine (HI.out i (Nat.le_refl _) hi w).mono ?_; rintro e w2 ⟨v, rfl, ⟨A1, c1, t, n1, rfl, own1, hSp⟩, hb⟩)
  have hr := hSp.rng (by have := Hsz.out; omega)
  have hrng : Hid (rngP i s.size n1 t.length) := by
    unfold Hid rngP
    have := Hsz.out
    simp only [List.length_nil] at hr
    omega
  have HS : Hid (∀ t' n', Sp L .bthL t n1 t' n' → Sp L .bth [] i t' n') := fun t' n' h => .bth hSp h
  clear hr hSp
  go_loopg [6, 7] (lefts n1 s.size) (fun gh s6 s7 wr => ∃ (t : List Mk) (n : Int) (A : Option Addr) (c : Nat), gh = lefts n s.size ∧ s6 = .slice A t.length c ∧ s7 = .int .i64 n ∧ Hid (rngP i s.size n t.length) ∧ Hid (∀ t' n', Sp L .bthL t n t' n' → Sp L .bth [] i t' n') ∧ OwnM w.heap.size wr (.slice A t.length c) t ∧ Below w.heap.size w wr)
  case atStart => exact ⟨t, n1, A1, c1, rfl, rfl, rfl, hrng, HS, own1, hb⟩
  case round =>
    clear hrng HS own1 hb
    obtain ⟨t, n, A, c, rfl, rfl, rfl, hrng, HS, own, hb⟩ := hrel
    have hrn := hrng.out
    unfold rngP at hrn
    rcases ch_cases (c := 38) (m := s.size) Hsz.out (show n = -1 ∨ (0 ≤ n ∧ n ≤ (s.size : Int)) by omega) with ⟨hch, k, d, rfl, hk, hx, hd⟩ | ⟨hch, hcs⟩
    · obtain ⟨-, hget'⟩ := str_get hL hx
      have hdd : ((d.toNat : Int) == 38) = true := toNat_is (k := 38) hd rfl
      have hkz : (k : Int) < (s.size : Int) := by omega
      have hw : IntKind.i64.wrap ((k : Int) + 1) = (k : Int) + 1 := IntWalk.i64_in _ (by omega)
      have hc1 := HI.out (k + 1) (by omega) (by omega)
      unfold CallsRd at hc1
      rw [show ((k + 1 : Nat) : Int) = (k : Int) + 1 by omega] at hc1
      have Hc1 := hide hc1
      clear hc1
      have htl : t.length ≤ 200 := by omega
      have Hch := hide hch
      clear hx hd hch hrn
      go_upto_region 4 with (go_at_call 51; refine (Hc1.out wr).mono ?_; rintro e w3 ⟨v, rfl, ⟨A1, c1, t1, n1, rfl, own1, hSp⟩, hb3⟩)
      have hr := hSp.rng (by have := Hsz.out; omega)
      have hl1 : t1.length ≤ 200 := by have := Hsz.out; simp only [List.length_nil] at hr; omega
      have hrng2 : Hid (rngP i s.size n1 (t ++ t1 ++ [(⟨2, 0, 0⟩ : Mk)]).length) := by
        have h1 := hrng.out
        unfold Hid
        unfold rngP at h1 ⊢
        have := Hsz.out
        simp only [List.length_append, List.length_cons, List.length_nil] at hr ⊢
        omega
      have hlf : lefts n1 s.size < lefts (k : Int) s.size := by
        have := Hsz.out
        unfold lefts
        split <;> split <;> omega
      have HS2 : Hid (∀ t' n', Sp L .bthL (t ++ t1 ++ [⟨2, 0, 0⟩]) n1 t' n' → Sp L .bth [] i t' n') := fun t' n' h => HS.out t' n' (.bthM Hch.out hSp h)
      have own3 := own_below own hb3
      obtain ⟨g3, hr3⟩ := OwnM.reads own3
      obtain ⟨g1, hr1⟩ := OwnM.reads own1
      have hB3 := bthen hb hb3
      have hal4 : Below w3.heap.size w3 (w3.alloc (.cells #[] 72)) := by go_grown
      have own4 : (w3.alloc (.cells #[] 72)).ownsRow w3.heap.size 72 3 (.slice (some ⟨w3.heap.size, 0, none⟩) 0 0) 0 [] := own_empty (at_new rfl) (Nat.le_refl _)
      have hr4 := CsR.below hr3 hal4
      clear own own1 own3 hb hrng HS Hch hr hSp hr3
      go_upto_region 5 with (first
        | (at_builtin; refine app_list _ rfl (.tmp 37) (.tmp 38) _ rfl w3.heap.size 72 i0 _ 3 24 Try.underlying61 hi0 hz0 hz1 hz2 rfl (by omega) (.slice (some ⟨w3.heap.size, 0, none⟩) 0 0) 0 [] rfl own4 A t.length c (mkCs t) rfl (mkCs_length t) (csr_news1 hr4) (mkCs_one t) (by omega) (by omega) hal4.size ?_
           intro A5 c5 w5 hown5 hg5 hat5
           simp only [Nat.zero_add, List.nil_append] at hown5 hat5 ⊢
           have hb5 : Below w3.heap.size w3 w5 := below_app hal4 own4 hg5 (Nat.le_refl _) hal4.size)
        | (at_builtin; refine app_list _ rfl (.tmp 39) (.tmp 40) _ rfl w3.heap.size 72 i0 _ 3 24 Try.underlying61 hi0 hz0 hz1 hz2 rfl (by omega) (.slice A5 t.length c5) t.length (mkCs t) rfl hown5 A1 t1.length c1 (mkCs t1) rfl (mkCs_length t1) (csr_news1 (CsR.below hr1 hb5)) (mkCs_one t1) (by omega) (by omega) hb5.size ?_
           intro A6 c6 w6 hown6 hg6 hat6
           have hb6 : Below w3.heap.size w3 w6 := below_app hb5 hown5 hg6 (Nat.le_refl _) hb5.size
           have hal8 : Below w6.heap.size w6 (w6.alloc (.cells #[.int .i64 2, .int .i64 0, .int .i64 0] 72)) := by go_grown
           have own8 := own_below hown6 hal8
           have hnew8 : (w6.alloc (.cells #[.int .i64 2, .int .i64 0, .int .i64 0] 72)).heap[w6.heap.size]? = some (.cells #[.int .i64 2, .int .i64 0, .int .i64 0] 72 (0, 0)) := at_new rfl
           have hb8 := bthen hb6 hal8)
        | (at_builtin; refine app_list _ rfl (.tmp 41) (.tmp 43) _ rfl w3.heap.size 72 i0 _ 3 24 Try.underlying61 hi0 hz0 hz1 hz2 rfl (by omega) (.slice A6 (t.length + t1.length) c6) (t.length + t1.length) (mkCs t ++ mkCs t1) rfl own8 (some ⟨w6.heap.size, 0, none⟩) 1 _ (mkCs [⟨2, 0, 0⟩]) rfl rfl (mk_news1 hnew8) (mkCs_one _) (by omega) (by omega) hb8.size ?_
           intro A9 c9 w9 hown9 hg9 hat9
           have hb9 : Below w3.heap.size w3 w9 := below_app hb8 own8 hg9 (Nat.le_refl _) hb8.size))
      have hl9 : (t ++ t1 ++ [(⟨2, 0, 0⟩ : Mk)]).length = t.length + t1.length + 1 := by simp; omega
      have own9 : OwnM w.heap.size w9 (.slice A9 (t.length + t1.length + 1) c9) (t ++ t1 ++ [⟨2, 0, 0⟩]) := by
        unfold OwnM
        rw [hl9, mkCs_append, mkCs_append]
        exact own_less hown9 hB3.size
      have Hl9 := hide hl9
      have hB9 := bthen hB3 hb9
      clear hl9 hown9 hg9 hat9 hb9 own8 hnew8 hal8 hb8 hown6 hg6 hat6 hb6 hown5 hg5 hat5 hb5 hr4 own4 hal4 hr1 hb3 hB3
      go_wp2_with fail
      go_roundg (lefts n1 s.size)
      case measure => go_light; exact hlf
      case rel => go_light; exact ⟨t ++ t1 ++ [⟨2, 0, 0⟩], n1, A9, c9, rfl, by rw [Hl9.out], rfl, hrng2, HS2, by rw [Hl9.out]; exact own9, hB9⟩
    · have HE := hide (HS.out t n (.bthD hch))
      clear HS hrng
      rcases hcs with hn | ⟨hn0, hn⟩ | ⟨k, d, rfl, hk, hx, hd⟩
      · clear hch
        go_wp2_with fail
        go_ret2
        exact ⟨_, rfl, ⟨A, c, t, n, rfl, own, HE.out⟩, hb⟩
      · clear hch
        go_wp2_with fail
        go_ret2
        exact ⟨_, rfl, ⟨A, c, t, n, rfl, own, HE.out⟩, hb⟩
      · obtain ⟨-, hget'⟩ := str_get hL hx
        have hdd : ((d.toNat : Int) == 38) = false := toNat_not (k := 38) hd rfl
        have hkz : (k : Int) < (s.size : Int) := by omega
        clear hx hd hch
        go_wp2_with fail
        go_ret2
        exact ⟨_, rfl, ⟨A, c, t, (k : Int), rfl, own, HE.out⟩, hb⟩
set_option maxHeartbeats 2000000 in
set_option maxRecDepth 100000 in
theorem then_q (s : ByteArray) (L : List UInt8) (hL : s.data.toList = L) (hl : s.size ≤ 120) (i : Nat) (hi : i ≤ s.size) (hI : ∀ j, i ≤ j → j ≤ s.size → CallsRd 48 .bth s L j) : CallsRd 42 .thn s L i := by
  intro w
  have Hsz := hide (str_size hL)
  obtain ⟨i0, hi0, hz0, hz1, hz2⟩ := info_parts infoM
  have HI := hide hI
  clear hI
  go_enter Try.func42, Try.ntmps42
  go_upto_region 2 with (go_at_call 48; refine (HI.out i (Nat.le_refl _) hi w).mono ?_; rintro e w2 ⟨v, rfl, ⟨A1, c1, t, n1, rfl, own1, hSp⟩, hb⟩)
  have hr := hSp.rng (by have := Hsz.out; omega)
  have hrng : Hid (rngP i s.size n1 t.length) := by
    unfold Hid rngP
    have := Hsz.out
    simp only [List.length_nil] at hr
    omega
  have HS : Hid (∀ t' n', Sp L .thnL t n1 t' n' → Sp L .thn [] i t' n') := fun t' n' h => .thn hSp h
  clear hr hSp
  go_loopg [6, 7] (lefts n1 s.size) (fun gh s6 s7 wr => ∃ (t : List Mk) (n : Int) (A : Option Addr) (c : Nat), gh = lefts n s.size ∧ s6 = .slice A t.length c ∧ s7 = .int .i64 n ∧ Hid (rngP i s.size n t.length) ∧ Hid (∀ t' n', Sp L .thnL t n t' n' → Sp L .thn [] i t' n') ∧ OwnM w.heap.size wr (.slice A t.length c) t ∧ Below w.heap.size w wr)
  case atStart => exact ⟨t, n1, A1, c1, rfl, rfl, rfl, hrng, HS, own1, hb⟩
  case round =>
    clear hrng HS own1 hb
    obtain ⟨t, n, A, c, rfl, rfl, rfl, hrng, HS, own, hb⟩ := hrel
    have hrn := hrng.out
    unfold rngP at hrn
    rcases ch_cases (c := 59) (m := s.size) Hsz.out (show n = -1 ∨ (0 ≤ n ∧ n ≤ (s.size : Int)) by omega) with ⟨hch, k, d, rfl, hk, hx, hd⟩ | ⟨hch, hcs⟩
    · obtain ⟨-, hget'⟩ := str_get hL hx
      have hdd : ((d.toNat : Int) == 59) = true := toNat_is (k := 59) hd rfl
      have hkz : (k : Int) < (s.size : Int) := by omega
      have hw : IntKind.i64.wrap ((k : Int) + 1) = (k : Int) + 1 := IntWalk.i64_in _ (by omega)
      have hc1 := HI.out (k + 1) (by omega) (by omega)
      unfold CallsRd at hc1
      rw [show ((k + 1 : Nat) : Int) = (k : Int) + 1 by omega] at hc1
      have Hc1 := hide hc1
      clear hc1
      have htl : t.length ≤ 200 := by omega
      have Hch := hide hch
      clear hx hd hch hrn
      go_upto_region 4 with (go_at_call 48; refine (Hc1.out wr).mono ?_; rintro e w3 ⟨v, rfl, ⟨A1, c1, t1, n1, rfl, own1, hSp⟩, hb3⟩)
      have hr := hSp.rng (by have := Hsz.out; omega)
      have hl1 : t1.length ≤ 200 := by have := Hsz.out; simp only [List.length_nil] at hr; omega
      have hrng2 : Hid (rngP i s.size n1 (t ++ t1 ++ [(⟨1, 0, 0⟩ : Mk)]).length) := by
        have h1 := hrng.out
        unfold Hid
        unfold rngP at h1 ⊢
        have := Hsz.out
        simp only [List.length_append, List.length_cons, List.length_nil] at hr ⊢
        omega
      have hlf : lefts n1 s.size < lefts (k : Int) s.size := by
        have := Hsz.out
        unfold lefts
        split <;> split <;> omega
      have HS2 : Hid (∀ t' n', Sp L .thnL (t ++ t1 ++ [⟨1, 0, 0⟩]) n1 t' n' → Sp L .thn [] i t' n') := fun t' n' h => HS.out t' n' (.thnM Hch.out hSp h)
      have own3 := own_below own hb3
      obtain ⟨g3, hr3⟩ := OwnM.reads own3
      obtain ⟨g1, hr1⟩ := OwnM.reads own1
      have hB3 := bthen hb hb3
      have hal4 : Below w3.heap.size w3 (w3.alloc (.cells #[] 72)) := by go_grown
      have own4 : (w3.alloc (.cells #[] 72)).ownsRow w3.heap.size 72 3 (.slice (some ⟨w3.heap.size, 0, none⟩) 0 0) 0 [] := own_empty (at_new rfl) (Nat.le_refl _)
      have hr4 := CsR.below hr3 hal4
      clear own own1 own3 hb hrng HS Hch hr hSp hr3
      go_upto_region 5 with (first
        | (at_builtin; refine app_list _ rfl (.tmp 37) (.tmp 38) _ rfl w3.heap.size 72 i0 _ 3 24 Try.underlying61 hi0 hz0 hz1 hz2 rfl (by omega) (.slice (some ⟨w3.heap.size, 0, none⟩) 0 0) 0 [] rfl own4 A t.length c (mkCs t) rfl (mkCs_length t) (csr_news1 hr4) (mkCs_one t) (by omega) (by omega) hal4.size ?_
           intro A5 c5 w5 hown5 hg5 hat5
           simp only [Nat.zero_add, List.nil_append] at hown5 hat5 ⊢
           have hb5 : Below w3.heap.size w3 w5 := below_app hal4 own4 hg5 (Nat.le_refl _) hal4.size)
        | (at_builtin; refine app_list _ rfl (.tmp 39) (.tmp 40) _ rfl w3.heap.size 72 i0 _ 3 24 Try.underlying61 hi0 hz0 hz1 hz2 rfl (by omega) (.slice A5 t.length c5) t.length (mkCs t) rfl hown5 A1 t1.length c1 (mkCs t1) rfl (mkCs_length t1) (csr_news1 (CsR.below hr1 hb5)) (mkCs_one t1) (by omega) (by omega) hb5.size ?_
           intro A6 c6 w6 hown6 hg6 hat6
           have hb6 : Below w3.heap.size w3 w6 := below_app hb5 hown5 hg6 (Nat.le_refl _) hb5.size
           have hal8 : Below w6.heap.size w6 (w6.alloc (.cells #[.int .i64 1, .int .i64 0, .int .i64 0] 72)) := by go_grown
           have own8 := own_below hown6 hal8
           have hnew8 : (w6.alloc (.cells #[.int .i64 1, .int .i64 0, .int .i64 0] 72)).heap[w6.heap.size]? = some (.cells #[.int .i64 1, .int .i64 0, .int .i64 0] 72 (0, 0)) := at_new rfl
           have hb8 := bthen hb6 hal8)
        | (at_builtin; refine app_list _ rfl (.tmp 41) (.tmp 43) _ rfl w3.heap.size 72 i0 _ 3 24 Try.underlying61 hi0 hz0 hz1 hz2 rfl (by omega) (.slice A6 (t.length + t1.length) c6) (t.length + t1.length) (mkCs t ++ mkCs t1) rfl own8 (some ⟨w6.heap.size, 0, none⟩) 1 _ (mkCs [⟨1, 0, 0⟩]) rfl rfl (mk_news1 hnew8) (mkCs_one _) (by omega) (by omega) hb8.size ?_
           intro A9 c9 w9 hown9 hg9 hat9
           have hb9 : Below w3.heap.size w3 w9 := below_app hb8 own8 hg9 (Nat.le_refl _) hb8.size))
      have hl9 : (t ++ t1 ++ [(⟨1, 0, 0⟩ : Mk)]).length = t.length + t1.length + 1 := by simp; omega
      have own9 : OwnM w.heap.size w9 (.slice A9 (t.length + t1.length + 1) c9) (t ++ t1 ++ [⟨1, 0, 0⟩]) := by
        unfold OwnM
        rw [hl9, mkCs_append, mkCs_append]
        exact own_less hown9 hB3.size
      have Hl9 := hide hl9
      have hB9 := bthen hB3 hb9
      clear hl9 hown9 hg9 hat9 hb9 own8 hnew8 hal8 hb8 hown6 hg6 hat6 hb6 hown5 hg5 hat5 hb5 hr4 own4 hal4 hr1 hb3 hB3
      go_wp2_with fail
      go_roundg (lefts n1 s.size)
      case measure => go_light; exact hlf
      case rel => go_light; exact ⟨t ++ t1 ++ [⟨1, 0, 0⟩], n1, A9, c9, rfl, by rw [Hl9.out], rfl, hrng2, HS2, by rw [Hl9.out]; exact own9, hB9⟩
    · have HE := hide (HS.out t n (.thnD hch))
      clear HS hrng
      rcases hcs with hn | ⟨hn0, hn⟩ | ⟨k, d, rfl, hk, hx, hd⟩
      · clear hch
        go_wp2_with fail
        go_ret2
        exact ⟨_, rfl, ⟨A, c, t, n, rfl, own, HE.out⟩, hb⟩
      · clear hch
        go_wp2_with fail
        go_ret2
        exact ⟨_, rfl, ⟨A, c, t, n, rfl, own, HE.out⟩, hb⟩
      · obtain ⟨-, hget'⟩ := str_get hL hx
        have hdd : ((d.toNat : Int) == 59) = false := toNat_not (k := 59) hd rfl
        have hkz : (k : Int) < (s.size : Int) := by omega
        clear hx hd hch
        go_wp2_with fail
        go_ret2
        exact ⟨_, rfl, ⟨A, c, t, (k : Int), rfl, own, HE.out⟩, hb⟩

set_option maxHeartbeats 2000000 in
set_option maxRecDepth 100000 in
theorem atom_q (s : ByteArray) (L : List UInt8) (hL : s.data.toList = L) (hl : s.size ≤ 120) (i : Nat) (hi : i ≤ s.size) (hI : ∀ j, i < j → j ≤ s.size → CallsRd 42 .thn s L j) : CallsRd 51 .atm s L i := by
  intro w
  have Hsz := hide (str_size hL)
  obtain ⟨i0, hi0, hz0, hz1, hz2⟩ := info_parts infoM
  have HI := hide hI
  clear hI
  by_cases hend : i < s.size
  · have hz : (i : Int) < (s.size : Int) := by omega
    go_enter Try.func51, Try.ntmps51
    go_upto_block 0 with fail
    have hal4 : Below w.heap.size w (w.alloc (.cells #[] 72)) := by go_grown
    generalize w.alloc (.cells #[] 72) = W at hal4 ⊢
    go_cut [6, 7] (fun s6 s7 wx => ∃ (t : List Mk) (n : Int) (A : Option Addr) (c : Nat), s6 = .slice A t.length c ∧ s7 = .int .i64 n ∧ Hid (rngP i s.size n t.length) ∧ Hid (∀ t' n', Sp L .atmL t n t' n' → Sp L .atm [] i t' n') ∧ OwnM w.heap.size wx (.slice A t.length c) t ∧ Below w.heap.size w wx)
    case first =>
      rcases ch_cases (L := L) (c := 40) (m := s.size) (n := (i : Int)) Hsz.out (by omega) with ⟨hch, k, d, hki, hk, hx, hd⟩ | ⟨hch, hcs⟩
      · obtain rfl : i = k := by omega
        obtain ⟨-, hget'⟩ := str_get hL hx
        have hdd : ((d.toNat : Int) == 40) = true := toNat_is (k := 40) hd rfl
        have hw : IntKind.i64.wrap ((i : Int) + 1) = (i : Int) + 1 := IntWalk.i64_in _ (by omega)
        have hc1 := HI.out (i + 1) (by omega) (by omega)
        unfold CallsRd at hc1
        rw [show ((i + 1 : Nat) : Int) = (i : Int) + 1 by omega] at hc1
        have Hc1 := hide hc1
        have Hch := hide hch
        clear hc1 hx hd hch hki
        go_upto_region 13 with (go_at_call 42; refine (Hc1.out W).mono ?_; rintro e w3 ⟨v, rfl, ⟨A1, c1, t1, n1, rfl, own1, hSp⟩, hb3⟩)
        have hr := hSp.rng (by have := Hsz.out; omega)
        simp only [List.length_nil] at hr
        have hB3 := bthen hal4 hb3
        have own3 : Hid (OwnM w.heap.size w3 (.slice A1 t1.length c1) t1) := own_less own1 hal4.size
        rcases ch_cases (L := L) (c := 41) (m := s.size) (n := n1) Hsz.out (by have := Hsz.out; omega) with ⟨hch1, k, d1, rfl, hk1, hx1, hd1⟩ | ⟨hch1, hcs⟩
        · obtain ⟨-, hget1⟩ := str_get hL hx1
          have hdd1 : ((d1.toNat : Int) == 41) = true := toNat_is (k := 41) hd1 rfl
          have hdn1 : ((d1.toNat : Int) != 41) = false := by rw [bne, hdd1]; rfl
          have hkz : (k : Int) < (s.size : Int) := by omega
          have hw1 : IntKind.i64.wrap ((k : Int) + 1) = (k : Int) + 1 := IntWalk.i64_in _ (by omega)
          have HS : Hid (∀ t' n', Sp L .atmL t1 ((k : Int) + 1) t' n' → Sp L .atm [] i t' n') := fun t' n' h => .atmB Hch.out hSp hch1 h
          have hrng : Hid (rngP i s.size ((k : Int) + 1) t1.length) := by
            unfold Hid rngP
            have := Hsz.out
            omega
          clear hr hSp hx1 hd1 hch1 own1
          go_wp2_with fail
          go_meet
          case rel => exact ⟨t1, (k : Int) + 1, A1, c1, rfl, rfl, hrng, HS, own3.out, hB3⟩
        · have HE : Hid (Sp L .atm [] i t1 (-1)) := .atmF Hch.out hSp hch1
          clear hr hSp hch1 own1
          rcases hcs with hn | ⟨hn0, hn⟩ | ⟨k, d1, rfl, hk1, hx1, hd1⟩
          · go_wp2_with fail
            go_ret2
            exact ⟨_, rfl, ⟨A1, c1, t1, _, rfl, own3.out, HE.out⟩, hB3⟩
          · have hn2 : ¬ n1 < 0 := by omega
            go_wp2_with fail
            go_ret2
            exact ⟨_, rfl, ⟨A1, c1, t1, _, rfl, own3.out, HE.out⟩, hB3⟩
          · obtain ⟨-, hget1⟩ := str_get hL hx1
            have hdd1 : ((d1.toNat : Int) == 41) = false := toNat_not (k := 41) hd1 rfl
            have hdn1 : ((d1.toNat : Int) != 41) = true := by rw [bne, hdd1]; rfl
            have hkz : (k : Int) < (s.size : Int) := by omega
            clear hx1 hd1
            go_wp2_with fail
            go_ret2
            exact ⟨_, rfl, ⟨A1, c1, t1, _, rfl, own3.out, HE.out⟩, hB3⟩
      · obtain ⟨d, hx, hd⟩ : ∃ d, L[i]? = some d ∧ d ≠ 40 := by
          rcases hcs with h | ⟨_, h⟩ | ⟨k, d, h1, h2, h3, h4⟩
          · omega
          · omega
          · obtain rfl : i = k := by omega
            exact ⟨d, h3, h4⟩
        obtain ⟨-, hget'⟩ := str_get hL hx
        have hdd : ((d.toNat : Int) == 40) = false := toNat_not (k := 40) hd rfl
        have hn := fun wq => number_c s L hL hl i hi wq
        obtain ⟨l0, hl0⟩ : ∃ l0, (numA L (i : Int)).1 = l0 := ⟨_, rfl⟩
        obtain ⟨e0, he0⟩ : ∃ e0, (numA L (i : Int)).2 = e0 := ⟨_, rfl⟩
        have hrg := numA_rng (s := L) (n := (i : Int)) (by have := Hsz.out; omega)
        rw [he0] at hrg
        rw [hl0, he0] at hn
        have Hn := hide hn
        have hna : numA L (i : Int) = (l0, e0) := by rw [← hl0, ← he0]
        have hstep := fun t' n' => Sp.atmN (s := L) (n := (i : Int)) (t' := t') (n' := n') ⟨by omega, by have := Hsz.out; omega⟩ hch
        rw [hna] at hstep
        dsimp only at hstep
        clear hn hl0 he0 hna hx hd hch hcs
        go_upto_region 5 with (go_at_call 55; refine (Hn.out W).mono ?_; rintro e w8 ⟨rfl, hw8⟩; obtain rfl := hw8.symm; clear hw8)
        rcases ch_cases (L := L) (c := 45) (m := s.size) (n := e0) Hsz.out (by have := Hsz.out; omega) with ⟨hch1, k, d1, rfl, hk1, hx1, hd1⟩ | ⟨hch1, hcs⟩
        · obtain ⟨-, hget1⟩ := str_get hL hx1
          have hdd1 : ((d1.toNat : Int) == 45) = true := toNat_is (k := 45) hd1 rfl
          have hkz : (k : Int) < (s.size : Int) := by omega
          have hk0 : (0 : Int) < (k : Int) := by omega
          have hw1 : IntKind.i64.wrap ((k : Int) + 1) = (k : Int) + 1 := IntWalk.i64_in _ (by omega)
          have hn := fun wq => number_c s L hL hl (k + 1) (by omega) wq
          rw [show ((k + 1 : Nat) : Int) = (k : Int) + 1 by omega] at hn
          have hhi : hiA L (l0, (k : Int)) = numA L ((k : Int) + 1) := by
            unfold hiA
            rw [if_pos ⟨hk0, hch1⟩]
          obtain ⟨h0, hh0⟩ : ∃ h0, (numA L ((k : Int) + 1)).1 = h0 := ⟨_, rfl⟩
          obtain ⟨e1, he1⟩ : ∃ e1, (numA L ((k : Int) + 1)).2 = e1 := ⟨_, rfl⟩
          have hrg1 := numA_rng (s := L) (n := (k : Int) + 1) (by have := Hsz.out; omega)
          rw [he1] at hrg1
          rw [hh0, he1] at hn
          rw [hhi, hh0, he1] at hstep
          have Hn1 := hide hn
          have HS : Hid (∀ t' n', Sp L .atmL [⟨0, l0, h0⟩] e1 t' n' → Sp L .atm [] i t' n') := hstep
          have hrng : Hid (rngP i s.size e1 [(⟨0, l0, h0⟩ : Mk)].length) := by
            unfold Hid rngP
            have := Hsz.out
            simp only [List.length_cons, List.length_nil]
            omega
          clear hn hh0 he1 hhi hstep hx1 hd1 hch1 hrg1 hrg
          go_upto_region 7 with (go_at_call 55; refine (Hn1.out W).mono ?_; rintro e w8 ⟨rfl, hw8⟩; obtain rfl := hw8.symm; clear hw8)
          have hal5 : Below W.heap.size W (W.alloc (.cells #[.int .i64 0, .int .i64 l0, .int .i64 h0] 72)) := by go_grown
          have own5 : Hid (OwnM w.heap.size (W.alloc (.cells #[.int .i64 0, .int .i64 l0, .int .i64 h0] 72)) (.slice (some ⟨W.heap.size, 0, none⟩) 1 1) [⟨0, l0, h0⟩]) := own_blk0 (n := 1) (cs := #[.int .i64 0, .int .i64 l0, .int .i64 h0]) (at_new rfl) hal4.size rfl (by unfold maxLen; omega)
          have hB5 := bthen hal4 hal5
          go_wp2_with fail
          go_meet
          case rel => exact ⟨[⟨0, l0, h0⟩], e1, _, 1, rfl, rfl, hrng, HS, own5.out, hB5⟩
        · have hhi : hiA L (l0, e0) = (l0, e0) := by
            unfold hiA
            rw [if_neg]
            rintro ⟨-, h⟩
            rw [show ((l0, e0) : Int × Int).2 = e0 from rfl, hch1] at h
            cases h
          rw [hhi] at hstep
          have HS : Hid (∀ t' n', Sp L .atmL [⟨0, l0, l0⟩] e0 t' n' → Sp L .atm [] i t' n') := hstep
          have hrng : Hid (rngP i s.size e0 [(⟨0, l0, l0⟩ : Mk)].length) := by
            clear hcs
            unfold Hid rngP
            have := Hsz.out
            simp only [List.length_cons, List.length_nil]
            omega
          clear hhi hstep hch1
          rcases hcs with hn | ⟨hn0, hn⟩ | ⟨k, d1, rfl, hk1, hx1, hd1⟩
          · have hn2 : ¬ (0 : Int) < e0 := Int.not_lt.2 (Int.le_of_lt hn)
            clear hrg
            have hal5 : Below W.heap.size W (W.alloc (.cells #[.int .i64 0, .int .i64 l0, .int .i64 l0] 72)) := by go_grown
            have own5 : Hid (OwnM w.heap.size (W.alloc (.cells #[.int .i64 0, .int .i64 l0, .int .i64 l0] 72)) (.slice (some ⟨W.heap.size, 0, none⟩) 1 1) [⟨0, l0, l0⟩]) := own_blk0 (n := 1) (cs := #[.int .i64 0, .int .i64 l0, .int .i64 l0]) (at_new rfl) hal4.size rfl (by unfold maxLen; omega)
            have hB5 := bthen hal4 hal5
            go_wp2_with fail
            go_meet
            case rel => exact ⟨[⟨0, l0, l0⟩], e0, _, 1, rfl, rfl, hrng, HS, own5.out, hB5⟩
          · have hn2 : (0 : Int) < e0 := Int.lt_of_lt_of_le (Int.lt_of_le_of_lt (Int.natCast_nonneg i) hz) hn
            have hn3 : ¬ e0 < (s.size : Int) := Int.not_lt.2 hn
            clear hrg
            have hal5 : Below W.heap.size W (W.alloc (.cells #[.int .i64 0, .int .i64 l0, .int .i64 l0] 72)) := by go_grown
            have own5 : Hid (OwnM w.heap.size (W.alloc (.cells #[.int .i64 0, .int .i64 l0, .int .i64 l0] 72)) (.slice (some ⟨W.heap.size, 0, none⟩) 1 1) [⟨0, l0, l0⟩]) := own_blk0 (n := 1) (cs := #[.int .i64 0, .int .i64 l0, .int .i64 l0]) (at_new rfl) hal4.size rfl (by unfold maxLen; omega)
            have hB5 := bthen hal4 hal5
            go_wp2_with fail
            go_meet
            case rel => exact ⟨[⟨0, l0, l0⟩], e0, _, 1, rfl, rfl, hrng, HS, own5.out, hB5⟩
          · obtain ⟨-, hget1⟩ := str_get hL hx1
            have hdd1 : ((d1.toNat : Int) == 45) = false := toNat_not (k := 45) hd1 rfl
            have hkz : (k : Int) < (s.size : Int) := by omega
            have hk0 : (0 : Int) < (k : Int) := by omega
            clear hx1 hd1 hrg
            have hal5 : Below W.heap.size W (W.alloc (.cells #[.int .i64 0, .int .i64 l0, .int .i64 l0] 72)) := by go_grown
            have own5 : Hid (OwnM w.heap.size (W.alloc (.cells #[.int .i64 0, .int .i64 l0, .int .i64 l0] 72)) (.slice (some ⟨W.heap.size, 0, none⟩) 1 1) [⟨0, l0, l0⟩]) := own_blk0 (n := 1) (cs := #[.int .i64 0, .int .i64 l0, .int .i64 l0]) (at_new rfl) hal4.size rfl (by unfold maxLen; omega)
            have hB5 := bthen hal4 hal5
            go_wp2_with fail
            go_meet
            case rel => exact ⟨[⟨0, l0, l0⟩], (k : Int), _, 1, rfl, rfl, hrng, HS, own5.out, hB5⟩
    case rest =>
      clear hal4
      obtain ⟨t0, n0, A0, c0, rfl, rfl, hrng, HS, own0, hb0⟩ := hcut
      go_wp2_with fail
      go_loopg [6, 7] (lefts n0 s.size) (fun gh s6 s7 wr => ∃ (t : List Mk) (n : Int) (A : Option Addr) (c : Nat), gh = lefts n s.size ∧ s6 = .slice A t.length c ∧ s7 = .int .i64 n ∧ Hid (rngP i s.size n t.length) ∧ Hid (∀ t' n', Sp L .atmL t n t' n' → Sp L .atm [] i t' n') ∧ OwnM w.heap.size wr (.slice A t.length c) t ∧ Below w.heap.size w wr)
      case atStart => exact ⟨t0, n0, A0, c0, rfl, rfl, rfl, hrng, HS, own0, hb0⟩
      case round =>
        clear hrng HS own0 hb0
        obtain ⟨t, n, A, c, rfl, rfl, rfl, hrng, HS, own, hb⟩ := hrel
        have hrn := hrng.out
        unfold rngP at hrn
        rcases ch_cases (L := L) (c := 60) (m := s.size) (n := n) Hsz.out (by omega) with ⟨hch, k, d, rfl, hk, hx, hd⟩ | ⟨hch, hcs⟩
        · obtain ⟨-, hget'⟩ := str_get hL hx
          have hdd : ((d.toNat : Int) == 60) = true := toNat_is (k := 60) hd rfl
          have hkz : (k : Int) < (s.size : Int) := by omega
          have hw : IntKind.i64.wrap ((k : Int) + 1) = (k : Int) + 1 := IntWalk.i64_in _ (by omega)
          have htl : t.length ≤ 200 := by omega
          have hn := fun wq => number_c s L hL hl (k + 1) (by omega) wq
          rw [show ((k + 1 : Nat) : Int) = (k : Int) + 1 by omega] at hn
          obtain ⟨h0, hh0⟩ : ∃ h0, (numA L ((k : Int) + 1)).1 = h0 := ⟨_, rfl⟩
          obtain ⟨e1, he1⟩ : ∃ e1, (numA L ((k : Int) + 1)).2 = e1 := ⟨_, rfl⟩
          have hrg1 := numA_rng (s := L) (n := (k : Int) + 1) (by have := Hsz.out; omega)
          have hstep := fun t' n' => Sp.atmM (s := L) (t := t) (n := (k : Int)) (t' := t') (n' := n') hch
          rw [hh0, he1] at hstep
          rw [he1] at hrg1
          rw [hh0, he1] at hn
          have Hn1 := hide hn
          have HS2 : Hid (∀ t' n', Sp L .atmL (t ++ [⟨3, 0, h0⟩]) e1 t' n' → Sp L .atm [] i t' n') := fun t' n' h => HS.out t' n' (hstep t' n' h)
          have hrng2 : Hid (rngP i s.size e1 (t ++ [(⟨3, 0, h0⟩ : Mk)]).length) := by
            have h1 := hrng.out
            unfold Hid
            unfold rngP at h1 ⊢
            have := Hsz.out
            simp only [List.length_append, List.length_cons, List.length_nil]
            omega
          have hlf : lefts e1 s.size < lefts (k : Int) s.size := by
            have := Hsz.out
            unfold lefts
            split <;> split <;> omega
          obtain ⟨g3, hr3⟩ := OwnM.reads own
          have hal4 : Below wr.heap.size wr (wr.alloc (.cells #[] 72)) := by go_grown
          have own4 : (wr.alloc (.cells #[] 72)).ownsRow wr.heap.size 72 3 (.slice (some ⟨wr.heap.size, 0, none⟩) 0 0) 0 [] := own_empty (at_new rfl) (Nat.le_refl _)
          have hr4 := CsR.below hr3 hal4
          clear hn hh0 he1 hstep hx hd hch hrn hrg1 own hrng HS hr3
          go_upto_region 18 with (go_at_call 55; refine (Hn1.out wr).mono ?_; rintro e w8 ⟨rfl, hw8⟩; obtain rfl := hw8.symm; clear hw8)
          go_upto_region 19 with (first
            | (at_builtin; refine app_list _ rfl (.tmp 107) (.tmp 108) _ rfl wr.heap.size 72 i0 _ 3 24 Try.underlying61 hi0 hz0 hz1 hz2 rfl (by omega) (.slice (some ⟨wr.heap.size, 0, none⟩) 0 0) 0 [] rfl own4 A t.length c (mkCs t) rfl (mkCs_length t) (csr_news1 hr4) (mkCs_one t) (by omega) (by omega) hal4.size ?_
               intro A5 c5 w5 hown5 hg5 hat5
               simp only [Nat.zero_add, List.nil_append] at hown5 hat5 ⊢
               have hb5 : Below wr.heap.size wr w5 := below_app hal4 own4 hg5 (Nat.le_refl _) hal4.size
               have hal8 : Below w5.heap.size w5 (w5.alloc (.cells #[.int .i64 3, .int .i64 0, .int .i64 h0] 72)) := by go_grown
               have own8 := own_below hown5 hal8
               have hnew8 : (w5.alloc (.cells #[.int .i64 3, .int .i64 0, .int .i64 h0] 72)).heap[w5.heap.size]? = some (.cells #[.int .i64 3, .int .i64 0, .int .i64 h0] 72 (0, 0)) := at_new rfl
               have hb8 := bthen hb5 hal8)
            | (at_builtin; refine app_list _ rfl (.tmp 109) (.tmp 112) _ rfl wr.heap.size 72 i0 _ 3 24 Try.underlying61 hi0 hz0 hz1 hz2 rfl (by omega) (.slice A5 t.length c5) t.length (mkCs t) rfl own8 (some ⟨w5.heap.size, 0, none⟩) 1 _ (mkCs [⟨3, 0, h0⟩]) rfl rfl (mk_news1 hnew8) (mkCs_one _) (by omega) (by omega) hb8.size ?_
               intro A9 c9 w9 hown9 hg9 hat9
               have hb9 : Below wr.heap.size wr w9 := below_app hb8 own8 hg9 (Nat.le_refl _) hb8.size))
          have hl9 : (t ++ [(⟨3, 0, h0⟩ : Mk)]).length = t.length + 1 := by simp
          have own9 : OwnM w.heap.size w9 (.slice A9 (t.length + 1) c9) (t ++ [⟨3, 0, h0⟩]) := by
            unfold OwnM
            rw [hl9, mkCs_append]
            exact own_less hown9 hb.size
          have Hl9 := hide hl9
          have hB9 := bthen hb hb9
          clear hl9 hown9 hg9 hat9 hb9 own8 hnew8 hal8 hb8 hown5 hg5 hat5 hb5 hr4 own4 hal4 hb
          go_wp2_with fail
          go_roundg (lefts e1 s.size)
          case measure => go_light; exact hlf
          case rel => go_light; exact ⟨t ++ [⟨3, 0, h0⟩], e1, A9, c9, rfl, by rw [Hl9.out], rfl, hrng2, HS2, by rw [Hl9.out]; exact own9, hB9⟩
        · have HE := hide (HS.out t n (.atmD hch))
          clear HS hrng
          rcases hcs with hn | ⟨hn0, hn⟩ | ⟨k, d, rfl, hk, hx, hd⟩
          · clear hch
            go_wp2_with fail
            go_ret2
            exact ⟨_, rfl, ⟨A, c, t, n, rfl, own, HE.out⟩, hb⟩
          · clear hch
            go_wp2_with fail
            go_ret2
            exact ⟨_, rfl, ⟨A, c, t, n, rfl, own, HE.out⟩, hb⟩
          · obtain ⟨-, hget'⟩ := str_get hL hx
            have hdd : ((d.toNat : Int) == 60) = false := toNat_not (k := 60) hd rfl
            have hkz : (k : Int) < (s.size : Int) := by omega
            clear hx hd hch
            go_wp2_with fail
            go_ret2
            exact ⟨_, rfl, ⟨A, c, t, (k : Int), rfl, own, HE.out⟩, hb⟩
  · have hz : ¬ (i : Int) < (s.size : Int) := by omega
    have hS : Hid (Sp L .atm [] (i : Int) [] (-1)) := .atmX (.inr (by have := Hsz.out; omega))
    have own4 : Hid (OwnM w.heap.size (w.alloc (.cells #[] 72)) (.slice (some ⟨w.heap.size, 0, none⟩) 0 0) []) := own_empty (at_new rfl) (Nat.le_refl _)
    have hal4 : Below w.heap.size w (w.alloc (.cells #[] 72)) := by go_grown
    go_enter Try.func51, Try.ntmps51
    go_wp2_with fail
    go_ret2
    exact ⟨_, rfl, ⟨_, _, [], _, rfl, own4.out, hS.out⟩, hal4⟩
end Go.Proofs.Ytmnajkhoacogjaa
