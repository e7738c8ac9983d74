/-
  spec.l7All.
-/
import Derived.Test.YtledgblepdjjlaaR50
namespace Go.Proofs.Ytledgblepdjjlaa
set_option linter.unusedVariables false
set_option linter.unusedSimpArgs false
open Go.RowKit Pp

/-- Rows of numbers that are read. -/
structure KsR (w : World) (B b o : Nat) (A : Option Addr) (xs : List (List Int)) : Prop where
  addr : 0 < xs.length → A = some ⟨b, o, none⟩
  lt : 0 < xs.length → b < B
  row : ∀ (j : Nat) (l : List Int), xs[j]? = some l → ∃ (A' : Option Addr) (b' o' c' : Nat), w.cell? ⟨b, o + j, none⟩ = some (.slice A' l.length c') ∧ IntsR w B b' o' A' l
theorem KsR.below {w w' : World} {B b o : Nat} {A : Option Addr} {xs : List (List Int)} (h : KsR w B b o A xs) (hb : Below B w w') : KsR w' B b o A xs :=
  ⟨h.addr, h.lt, fun j l hl => by
    obtain ⟨A', b', o', c', h1, h2⟩ := h.row j l hl
    exact ⟨A', b', o', c', (hb.cell (p := ⟨b, _, none⟩) (h.lt (by have := (List.getElem?_eq_some_iff.1 hl).1; omega))).trans h1, h2.below hb⟩⟩
theorem KsR.more {w : World} {B B' b o : Nat} {A : Option Addr} {xs : List (List Int)} (h : KsR w B b o A xs) (hB : B ≤ B') : KsR w B' b o A xs :=
  ⟨h.addr, fun hx => Nat.lt_of_lt_of_le (h.lt hx) hB, fun j l hl => by
    obtain ⟨A', b', o', c', h1, h2⟩ := h.row j l hl
    exact ⟨A', b', o', c', h1, h2.more hB⟩⟩
/-- .. that a call makes. -/
def RW (base : Nat) (w : World) (A : Option Addr) (c : Nat) (xs : List (List Int)) : Prop :=
  ∃ cells : List Value, w.ownsRow base 28 1 (.slice A xs.length c) xs.length cells ∧ ∀ (j : Nat) (l : List Int), xs[j]? = some l → ∃ (A' : Option Addr) (b' o' c' : Nat), cells[j]? = some (.slice A' l.length c') ∧ IntsR w w.heap.size b' o' A' l ∧ (0 < l.length → (Value.slice A xs.length c).ownBlock ≠ some b')
theorem RW.below {base : Nat} {w w' : World} {A : Option Addr} {c : Nat} {xs : List (List Int)} (h : RW base w A c xs) (hb : Below w.heap.size w w') : RW base w' A c xs := by
  obtain ⟨cells, h1, h2⟩ := h
  exact ⟨cells, own_below h1 hb, fun j l hl => by
    obtain ⟨A', b', o', c', e1, e2, e3⟩ := h2 j l hl
    exact ⟨A', b', o', c', e1, (e2.below hb).more hb.size, e3⟩⟩
theorem RW.less {base base' : Nat} {w : World} {A : Option Addr} {c : Nat} {xs : List (List Int)} (h : RW base w A c xs) (hb : base' ≤ base) : RW base' w A c xs := by
  obtain ⟨cells, h1, h2⟩ := h
  exact ⟨cells, own_less h1 hb, h2⟩
theorem RW.reads {base : Nat} {w : World} {A : Option Addr} {c : Nat} {xs : List (List Int)} (h : RW base w A c xs) : ∃ g, KsR w w.heap.size g 0 A xs := by
  obtain ⟨cells, h1, h2⟩ := h
  obtain ⟨g, hg⟩ := own_csR h1
  exact ⟨g, hg.addr, hg.lt, fun j l hl => by
    obtain ⟨A', b', o', c', e1, e2, _⟩ := h2 j l hl
    exact ⟨A', b', o', c', hg.cell _ _ e1, e2⟩⟩
theorem RW.push {base : Nat} {W w7 : World} {A A5 A7 : Option Addr} {c c5 c7 g5 o5 : Nat} {xs : List (List Int)} {l : List Int} {cells : List Value} (h : RW base W A c xs) (hc : W.ownsRow base 28 1 (.slice A xs.length c) xs.length cells) (hcl : ∀ (j : Nat) (l : List Int), xs[j]? = some l → ∃ (A' : Option Addr) (b' o' c' : Nat), cells[j]? = some (.slice A' l.length c') ∧ IntsR W W.heap.size b' o' A' l ∧ (0 < l.length → (Value.slice A xs.length c).ownBlock ≠ some b'))
    (hl5 : IntsR W W.heap.size g5 o5 A5 l) (hne : 0 < l.length → (Value.slice A xs.length c).ownBlock ≠ some g5) (hg : W.grownBy w7 (Value.slice A xs.length c).ownBlock) (hat : (Value.slice A7 (xs.length + 1) c7).ownBlock = (Value.slice A xs.length c).ownBlock ∨ (Value.slice A7 (xs.length + 1) c7).ownBlock = some W.heap.size)
    (hown : w7.ownsRow base 28 1 (.slice A7 (xs.length + 1) c7) (xs.length + 1) (cells ++ [.slice A5 l.length c5])) : RW base w7 A7 c7 (xs ++ [l]) := by
  have hlen : (xs ++ [l]).length = xs.length + 1 := by simp
  have hcn : cells.length = xs.length := by have := hc.1; omega
  have key : ∀ (l' : List Int) (A' : Option Addr) (b' o' : Nat), IntsR W W.heap.size b' o' A' l' → (0 < l'.length → (Value.slice A xs.length c).ownBlock ≠ some b') → IntsR w7 w7.heap.size b' o' A' l' ∧ (0 < l'.length → (Value.slice A7 (xs.length + 1) c7).ownBlock ≠ some b') := by
    intro l' A' b' o' h1 h2
    refine ⟨⟨h1.addr, fun hx => Nat.lt_of_lt_of_le (h1.lt hx) hg.size, fun j hj => hg.cell (h1.cell j hj) (fun e => h2 (by omega) e.symm)⟩, fun hx e => ?_⟩
    rcases hat with h | h
    · rw [h] at e; exact h2 hx e
    · rw [h] at e; have := Option.some.inj e; have := h1.lt hx; omega
  refine ⟨cells ++ [.slice A5 l.length c5], by rw [hlen]; exact hown, fun j l' hj => ?_⟩
  rw [hlen]
  by_cases e : j < xs.length
  · rw [List.getElem?_append_left e] at hj
    obtain ⟨A', b', o', c', e1, e2, e3⟩ := hcl j l' hj
    obtain ⟨f1, f2⟩ := key l' A' b' o' e2 e3
    exact ⟨A', b', o', c', by rw [List.getElem?_append_left (by omega)]; exact e1, f1, f2⟩
  · have hj2 := (List.getElem?_eq_some_iff.1 hj).1
    rw [hlen] at hj2
    obtain rfl : j = xs.length := by omega
    rw [List.getElem?_append_right (Nat.le_refl _), Nat.sub_self] at hj
    obtain rfl : l = l' := by simpa using hj
    obtain ⟨f1, f2⟩ := key l A5 g5 o5 hl5 hne
    exact ⟨A5, g5, o5, c5, by rw [List.getElem?_append_right (by omega), hcn, Nat.sub_self]; rfl, f1, f2⟩
theorem infoSS : (Try.prog.info? 28).map (fun i => (i.zero, i.size, i.bytes)) = some (some (.slice none 0 0), 1, 24) := by kernel_rfl
theorem rw_empty {base g : Nat} {w : World} (h : w.heap[g]? = some (.cells #[] 28 (0, 0))) (hb : base ≤ g) : RW base w (some ⟨g, 0, none⟩) 0 [] := ⟨[], own_empty h hb, by simp⟩

set_option maxHeartbeats 4000000 in
set_option maxRecDepth 100000 in
theorem l7All_q (n : Int) (bs : List Bd) (cs : List (List Bd)) (h4 : cs.length ≤ 4) (h3 : ∀ (i : Nat) (l : List Bd), cs[i]? = some l → l.length ≤ 3) (A A2 : Option Addr) (b o c b2 o2 c2 B : Nat) (w : World) (hB : B ≤ w.heap.size) (hR : BdsR w B b o A bs) (hC : ChR w B b2 o2 A2 cs) (zs : List (List Int)) (hz : allB cs cs.length = zs) :
    Calls Try.prog 98 #[.agg #[.int .i64 n, .slice A bs.length c, .slice A2 cs.length c2]] w fun e w' => ∃ A1 c1 g1, e = .returned (.slice A1 zs.length c1) ∧ KsR w' w'.heap.size g1 0 A1 zs ∧ Below w.heap.size w w' := by
  obtain ⟨i0, hi0, hz0, hz1, hz2⟩ := info_parts infoI
  obtain ⟨j0, hj0, hy0, hy1, hy2⟩ := info_parts infoSS
  have hD := cc_new (n := n) (c := c) (c2 := c2) (t := 37) hB hR hC
  have H3 := hide h3
  have Hz := hide hz
  clear hR hC hB h3 hz
  go_enter Try.func98, Try.ntmps98
  go_upto_region 1 with fail
  generalize w.alloc (.cells #[.int .i64 n, .slice A bs.length c, .slice A2 cs.length c2] 37) = W at hD ⊢
  have p0 := hD.r.c0
  have p1 := hD.r.c1
  have p2 := hD.r.c2
  go_upto_region 3 with fail
  have hKs : KsR ((W.alloc (.cells #[] 3)).alloc (.cells #[.slice (some ⟨W.heap.size, 0, none⟩) 0 0] 28)) ((W.alloc (.cells #[] 3)).alloc (.cells #[.slice (some ⟨W.heap.size, 0, none⟩) 0 0] 28)).heap.size (W.heap.size + 1) 0 (some ⟨W.heap.size + 1, 0, none⟩) [[]] := by
    refine ⟨fun _ => rfl, fun _ => by simp, fun j l hj => ?_⟩
    have : j = 0 := by
      have := (List.getElem?_eq_some_iff.1 hj).1
      simp at this; omega
    subst this
    obtain rfl : [] = l := by simpa using hj
    exact ⟨some ⟨W.heap.size, 0, none⟩, 0, 0, 0, by simp [go_sem], IntsR.nil _ _ _⟩
  have hD3 := (hD.alloc (.cells #[] 3)).alloc (.cells #[.slice (some ⟨W.heap.size, 0, none⟩) 0 0] 28)
  generalize (W.alloc (.cells #[] 3)).alloc (.cells #[.slice (some ⟨W.heap.size, 0, none⟩) 0 0] 28) = W3 at hKs hD3 ⊢
  generalize W.heap.size + 1 = G3 at hKs ⊢
  clear hD p0 p1 p2
  go_loopg [4, 3] cs.length (fun gh s4 s3 wr => ∃ (k : Nat) (xs : List (List Int)) (A3 : Option Addr) (c3 g3 : Nat), k ≤ cs.length ∧ gh = cs.length - k ∧ s4 = .int .i64 k ∧ s3 = .slice A3 xs.length c3 ∧ Hid (xs = allB cs k) ∧ CC w wr w.heap.size b o n A c bs b2 o2 A2 c2 cs ∧ KsR wr wr.heap.size g3 0 A3 xs)
  case atStart => exact ⟨0, [[]], some ⟨G3, 0, none⟩, 1, G3, Nat.zero_le _, rfl, rfl, rfl, rfl, hD3, hKs⟩
  case round =>
    clear hD3 hKs
    obtain ⟨k, xs, A3, c3, g3, hk, rfl, rfl, rfl, Hxs, hD, hKs⟩ := hrel
    have p2 := hD.r.c2
    by_cases hlt : k < cs.length
    · have hlt' : (k : Int) < (cs.length : Int) := by omega
      obtain rfl := hD.r.rc.addr (by omega)
      have hx := List.getElem?_eq_getElem hlt
      have hl3 := H3.out _ _ hx
      have Hx : Hid (cs[k]? = some cs[k]) := hx
      have hxl : xs.length ≤ 81 := by
        have h1 := allB_le (cs := cs) H3.out k
        have h2 : (3 : Nat) ^ k ≤ 3 ^ 4 := Nat.pow_le_pow_right (by omega) (by omega)
        rw [Hxs.out]; omega
      have Hxl : Hid (∀ l ∈ xs, l.length = k) := by intro l hl; rw [Hxs.out] at hl; exact allB_len1 cs k l hl
      have HN : Hid (allB cs (k + 1) = xs.flatMap fun ks => (List.range cs[k].length).map fun (i : Nat) => ks ++ [(i : Int)]) := by
        unfold Hid
        rw [allB, Hxs.out, List.getD_eq_getElem?_getD, hx]; rfl
      generalize cs[k] = l at hl3 Hx HN
      clear hx
      go_upto_region 7 with fail
      have hRW : RW wr.heap.size (wr.alloc (.cells #[] 28)) (some ⟨wr.heap.size, 0, none⟩) 0 [] := rw_empty (at_new rfl) (Nat.le_refl _)
      have hbW : Below wr.heap.size wr (wr.alloc (.cells #[] 28)) := by go_grown
      obtain ⟨W0, hW0e⟩ : ∃ W0, wr = W0 := ⟨_, rfl⟩
      rw [hW0e] at hRW hbW hKs hD p2 ⊢
      clear hW0e wr
      have hD1 := hD.below hbW
      go_loopg [6, 5] xs.length (fun gh s6 s5 wr => ∃ (j : Nat) (ys : List (List Int)) (An : Option Addr) (cn : Nat), j ≤ xs.length ∧ gh = xs.length - j ∧ s6 = .int .i64 j ∧ s5 = .slice An ys.length cn ∧ Hid (ys = (xs.take j).flatMap fun ks => (List.range l.length).map fun (i : Nat) => ks ++ [(i : Int)]) ∧ ys.length ≤ j * 3 ∧ CC w wr w.heap.size b o n A c bs b2 o2 (some ⟨b2, o2, none⟩) c2 cs ∧ Below W0.heap.size W0 wr ∧ RW W0.heap.size wr An cn ys)
      case atStart => exact ⟨0, [], _, 0, Nat.zero_le _, rfl, rfl, rfl, by simp [Hid], by simp, hD1, hbW, hRW⟩
      case round =>
        clear hRW hbW hD1 p2
        obtain ⟨j, ys, An, cn, hj, rfl, rfl, rfl, Hys, hyl, hD2, hbW, hRW⟩ := hrel
        have p2 := hD2.r.c2
        by_cases hjl : j < xs.length
        · have hjl' : (j : Int) < (xs.length : Int) := by omega
          have hKs2 := (hKs.below hbW).more hbW.size
          have hk2 := List.getElem?_eq_getElem hjl
          have hkl := Hxl.out _ (List.getElem_mem hjl)
          have HT : Hid (xs.take (j + 1) = xs.take j ++ [xs[j]]) := by rw [List.take_succ_eq_append_getElem hjl]; rfl
          have Hk2 : Hid (xs[j]? = some xs[j]) := hk2
          generalize xs[j] = ks at hkl HT Hk2
          clear hk2
          have hk4 : ks.length ≤ 4 := by omega
          clear hkl
          go_upto_region 10 with fail
          go_loopg [7, 5] l.length (fun gh s7 s5 wr => ∃ (i : Nat) (zs : List (List Int)) (An : Option Addr) (cn : Nat), i ≤ l.length ∧ gh = l.length - i ∧ s7 = .int .i64 i ∧ s5 = .slice An zs.length cn ∧ Hid (zs = ys ++ (List.range i).map fun (i : Nat) => ks ++ [(i : Int)]) ∧ zs.length ≤ ys.length + i ∧ CC w wr w.heap.size b o n A c bs b2 o2 (some ⟨b2, o2, none⟩) c2 cs ∧ Below W0.heap.size W0 wr ∧ RW W0.heap.size wr An cn zs)
          case atStart => exact ⟨0, ys, An, cn, Nat.zero_le _, rfl, rfl, rfl, by simp [Hid], Nat.le_refl _, hD2, hbW, hRW⟩
          case round =>
            clear hD2 hbW hRW p2 hKs2
            obtain ⟨i, zs', An, cn, hi, rfl, rfl, rfl, Hzs, hzl, hD2, hbW, hRW⟩ := hrel
            have p2 := hD2.r.c2
            obtain ⟨A8, b8, o8, c8, r0, hrd8⟩ := hD2.r.rc.row _ _ Hx.out
            by_cases hil : i < l.length
            · have hil' : (i : Int) < (l.length : Int) := by omega
              have hKs2 := (hKs.below hbW).more hbW.size
              obtain ⟨A4, b4, o4, c4, k0, hrk⟩ := hKs2.row _ _ Hk2.out
              obtain rfl := hKs2.addr (by omega)
              have hg3 := hKs2.lt (by omega)
              have hW0 := hbW.size
              simp only [Nat.zero_add] at k0
              obtain ⟨ys', hys'⟩ : ∃ ys', zs' = ys' := ⟨_, rfl⟩
              rw [hys'] at hRW Hzs hzl ⊢
              clear hys'
              have hzl2 : ys'.length ≤ 300 := by omega
              obtain ⟨cells0, hcells0, _⟩ := id hRW
              go_wp2_with (first
                | (at_builtin; refine app_list _ rfl (.tmp 35) (.tmp 39) _ rfl wr.heap.size 3 i0 _ 1 8 Try.underlying28 hi0 hz0 hz1 hz2 rfl (by omega) (.slice (some ⟨wr.heap.size, 0, none⟩) 0 0) 0 [] rfl (own_empty (at_new rfl) (Nat.le_refl _)) A4 ks.length c4 (ks.map (Value.int .i64)) rfl (by simp) ((hrk.below (show Below wr.heap.size wr (wr.alloc (.cells #[] 3)) by go_grown)).news) (ints_one ks) (by omega) (by omega) (by simp) ?_; intro A5 c5 w5 hown5 hg5 hat5; simp only [Nat.zero_add, List.nil_append] at hown5 ⊢; have hb5 : Below wr.heap.size wr w5 := below_app (show Below wr.heap.size wr (wr.alloc (.cells #[] 3)) by go_grown) (own_empty (size := 1) (at_new rfl) (Nat.le_refl _)) hg5 (Nat.le_refl _) (by simp); have hown5a := hown5.alloc (.cells #[.int .i64 (i : Int)] 3); have hb5a := bthen hb5 (show Below w5.heap.size w5 (w5.alloc (.cells #[.int .i64 (i : Int)] 3)) by go_grown); have hs5a := hb5a.size)
                | (at_builtin; refine app_list _ rfl (.tmp 40) (.tmp 42) _ rfl wr.heap.size 3 i0 _ 1 8 Try.underlying28 hi0 hz0 hz1 hz2 rfl (by omega) (.slice A5 ks.length c5) ks.length (ks.map (Value.int .i64)) rfl hown5a _ 1 _ [.int .i64 (i : Int)] rfl rfl (NewsAt.block (cs := #[.int .i64 (i : Int)]) (at_new rfl)) (by simp [Value.oneCell']) (by omega) (by omega) hs5a ?_; intro A6 c6 w6 hown6 hg6 hat6; have hb6 : Below wr.heap.size wr w6 := below_app hb5a hown5a hg6 (Nat.le_refl _) hs5a; have hRW6 := (hRW.below hb6).below (show Below w6.heap.size w6 (w6.alloc (.cells #[.slice A6 (ks.length + 1) c6] 28)) by go_grown); obtain ⟨cells, hcl1, hcl2⟩ := hRW6; have hb6a := bthen hb6 (show Below w6.heap.size w6 (w6.alloc (.cells #[.slice A6 (ks.length + 1) c6] 28)) by go_grown); have hs6a := hb6a.size)
                | (at_builtin; refine app_list _ rfl (.tmp 34) (.tmp 44) _ rfl W0.heap.size 28 j0 _ 1 24 Try.underlying96 hj0 hy0 hy1 hy2 rfl (by omega) (.slice An ys'.length cn) ys'.length cells rfl hcl1 _ 1 _ [.slice A6 (ks.length + 1) c6] rfl rfl (NewsAt.block (cs := #[.slice A6 (ks.length + 1) c6]) (at_new rfl)) (by simp [Value.oneCell']) (by omega) (by omega) (Nat.le_trans hW0 hs6a) ?_; intro A7 c7 w7 hown7 hg7 hat7))
              have hlen6 : (ks ++ [(i : Int)]).length = ks.length + 1 := by simp
              have hI9 : OwnI wr.heap.size w6 (.slice A6 (ks ++ [(i : Int)]).length c6) (ks ++ [(i : Int)]) := by unfold OwnI; rw [hlen6, List.map_append]; exact hown6
              obtain ⟨g6, hr6⟩ := own_IntsR hI9
              have hg6b : wr.heap.size ≤ g6 := by obtain rfl := hr6.addr (by simp); exact (hI9.lt g6 rfl).1
              have hal6 : Below w6.heap.size w6 (w6.alloc (.cells #[.slice A6 (ks.length + 1) c6] 28)) := by go_grown
              have hr6a := (hr6.below hal6).more hal6.size
              have hne6 : 0 < (ks ++ [(i : Int)]).length → (Value.slice An ys'.length cn).ownBlock ≠ some g6 := fun _ e => by have := (hcells0.lt _ e).2; omega
              have hb7 : Below W0.heap.size W0 w7 := below_app (hbW.trans (hb6a.mono hW0)) hcl1 hg7 (Nat.le_refl _) (Nat.le_trans hW0 hs6a)
              have hRW7 := RW.push (l := ks ++ [(i : Int)]) ⟨cells, hcl1, hcl2⟩ hcl1 hcl2 hr6a hne6 hg7 hat7 (by rw [hlen6]; exact hown7)
              have hD7 := hD.below hb7
              have HzN : Hid (ys' ++ [ks ++ [(i : Int)]] = ys ++ (List.range (i + 1)).map fun (i : Nat) => ks ++ [(i : Int)]) := by unfold Hid; rw [Hzs.out]; simp [List.range_succ]
              have hlN : (ys' ++ [ks ++ [(i : Int)]]).length ≤ ys.length + (i + 1) := by rw [List.length_append]; simp only [List.length_cons, List.length_nil]; omega
              have HlE : Hid ((ys' ++ [ks ++ [(i : Int)]]).length = ys'.length + 1) := by simp [Hid]
              clear hr6a hr6 hI9 hlen6 hown7 hg7 hat7 hcl1 hcl2 hcells0 hne6
              go_roundg (l.length - (i + 1))
              case measure => go_light; omega
              case rel => go_light; exact ⟨i + 1, ys' ++ [ks ++ [(i : Int)]], A7, c7, by omega, rfl, by go_num, by rw [HlE.out], HzN, hlN, hD7, hb7, hRW7⟩
            · obtain rfl : i = l.length := by omega
              have HyN : Hid (zs' = (xs.take (j + 1)).flatMap fun ks => (List.range l.length).map fun (i : Nat) => ks ++ [(i : Int)]) := by
                unfold Hid
                rw [HT.out, List.flatMap_append, ← Hys.out, Hzs.out]
                simp
              go_wp2_with fail
              go_roundg (xs.length - (j + 1))
              case measure => go_light; omega
              case rel => go_light; exact ⟨j + 1, zs', An, cn, by omega, rfl, by go_num, rfl, HyN, by omega, hD2, hbW, hRW⟩
        · obtain rfl : j = xs.length := by omega
          have HN2 : Hid (ys = allB cs (k + 1)) := by unfold Hid; rw [HN.out, Hys.out, List.take_length]
          obtain ⟨gn, hKn⟩ := hRW.reads
          go_wp2_with fail
          go_roundg (cs.length - (k + 1))
          case measure => go_light; omega
          case rel => go_light; exact ⟨k + 1, ys, An, cn, gn, by omega, rfl, by go_num, rfl, HN2, hD2, hKn⟩
    · obtain rfl : k = cs.length := by omega
      have HE : Hid (xs = zs) := by unfold Hid; rw [Hxs.out, Hz.out]
      go_wp2_with fail
      go_ret
      have e := HE.out
      subst e
      exact ⟨A3, c3, g3, rfl, hKs, hD.bel⟩
end Go.Proofs.Ytledgblepdjjlaa
