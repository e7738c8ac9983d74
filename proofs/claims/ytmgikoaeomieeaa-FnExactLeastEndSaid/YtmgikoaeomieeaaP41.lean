/-
  Projects, plain: begins that are made one by one, by an order.
-/
import Derived.Test.YtmgikoaeomieeaaP40
namespace Go.Proofs.Ytmgikoaeomieeaa.Pp

/-- All tasks after which a task comes have begun. -/
def frOk (F b : List Int) (i : Nat) : Nat → Bool
  | 0 => true
  | k + 1 => frOk F b i k && (!aft F i k || decide (0 ≤ b.getD k 0))
theorem frOk_iff {F b : List Int} {i : Nat} : ∀ {n : Nat}, frOk F b i n = true ↔ ∀ k, k < n → aft F i k = true → 0 ≤ b.getD k 0
  | 0 => by simp [frOk]
  | n + 1 => by
    simp only [frOk, Bool.and_eq_true, frOk_iff (n := n), Bool.or_eq_true, Bool.not_eq_true', decide_eq_true_eq]
    constructor
    · rintro ⟨h1, h2⟩ k hk ha
      by_cases e : k = n
      · subst e
        rcases h2 with h | h
        · rw [ha] at h; cases h
        · exact h
      · exact h1 k (by omega) ha
    · intro h
      refine ⟨fun k hk ha => h k (by omega) ha, ?_⟩
      cases ha : aft F i n
      · exact .inl rfl
      · exact .inr (h n (by omega) ha)
/-- A hand is free as long as the task lasts (so many times on). -/
def freeN (L b : List Int) (h : Int) (t : Int) : Nat → Bool
  | 0 => true
  | k + 1 => freeN L b h t k && decide ((busyN L b (t + k) : Int) < h)
theorem freeN_iff {L b : List Int} {h t : Int} : ∀ {n : Nat}, freeN L b h t n = true ↔ ∀ k : Nat, k < n → (busyN L b (t + k) : Int) < h
  | 0 => by simp [freeN]
  | n + 1 => by
    simp only [freeN, Bool.and_eq_true, freeN_iff (n := n), decide_eq_true_eq]
    constructor
    · rintro ⟨h1, h2⟩ k hk
      by_cases e : k = n
      · subst e; exact h2
      · exact h1 k (by omega)
    · intro hh
      exact ⟨fun k hk => hh k (by omega), hh n (by omega)⟩
def freeAt (L b : List Int) (h : Int) (i : Nat) (t : Int) : Bool := freeN L b h t (L.getD i 0).toNat
/-- The least time from t on at which a hand is free. -/
def findT (L b : List Int) (h : Int) (i : Nat) : Nat → Int → Int
  | 0, t => t
  | f + 1, t => if freeAt L b h i t then t else findT L b h i f (t + 1)
theorem findT_ge (L b : List Int) (h : Int) (i : Nat) : ∀ f t, t ≤ findT L b h i f t ∧ findT L b h i f t ≤ t + f
  | 0, t => by simp [findT]
  | f + 1, t => by
    simp only [findT]
    split
    · omega
    · have := findT_ge L b h i f (t + 1); omega
theorem findT_free {L b : List Int} {h : Int} {i : Nat} : ∀ {f : Nat} {t u : Int}, t ≤ u → u ≤ t + f → freeAt L b h i u = true → freeAt L b h i (findT L b h i f t) = true ∧ findT L b h i f t ≤ u
  | 0, t, u, h1, h2, h3 => by
    have e : u = t := by omega
    subst e
    exact ⟨h3, Int.le_refl _⟩
  | f + 1, t, u, h1, h2, h3 => by
    simp only [findT]
    split
    · rename_i hf
      exact ⟨hf, h1⟩
    · rename_i hf
      have hne : t ≠ u := fun e => hf (e ▸ h3)
      exact findT_free (by omega) (by omega) h3

/-- The first task of an order that may begin does so. -/
def stepBy (L F : List Int) (h : Int) (b : List Int) : List Int → List Int
  | [] => b
  | v :: os => if b.getD v.toNat 0 = -1 ∧ frOk F b v.toNat v.toNat = true then b.set v.toNat (findT L b h v.toNat 200 (erl L F b v.toNat v.toNat)) else stepBy L F h b os
def runBy (L F : List Int) (h : Int) (order : List Int) : Nat → List Int → List Int
  | 0, b => b
  | k + 1, b => runBy L F h order k (stepBy L F h b order)
def noneB (n : Nat) : List Int := List.replicate n (-1)
def beginsBy (L F : List Int) (h : Int) (order : List Int) : List Int := runBy L F h order order.length (noneB L.length)
/-- An order of all tasks. -/
def IsOrder (n : Nat) (order : List Int) : Prop := order.length = n ∧ order.Nodup ∧ ∀ v ∈ order, 0 ≤ v ∧ v < n

theorem getD_set {b : List Int} {i j : Nat} {v : Int} (hi : i < b.length) : (b.set i v).getD j 0 = if j = i then v else b.getD j 0 := by
  rw [List.getD_eq_getElem?_getD, List.getD_eq_getElem?_getD]
  by_cases e : j = i
  · subst e; rw [List.getElem?_set_self hi, if_pos rfl]; rfl
  · rw [List.getElem?_set_ne (fun x => e x.symm), if_neg e]
theorem getD_none {n i : Nat} (h : i < n) : (noneB n).getD i 0 = -1 := by
  unfold noneB
  rw [List.getD_eq_getElem?_getD, List.getElem?_replicate, if_pos h]; rfl
theorem cnt_zero {f : Nat → Bool} : ∀ {n : Nat}, (∀ k, k < n → f k = false) → cnt f n = 0
  | 0, _ => rfl
  | n + 1, h => by simp only [cnt]; rw [cnt_zero (fun k hk => h k (by omega)), h n (by omega)]; rfl
theorem cnt_all {f : Nat → Bool} : ∀ {n : Nat}, cnt f n = n → ∀ k, k < n → f k = true
  | n + 1, h, k, hk => by
    simp only [cnt] at h
    have hb := cnt_bound f n
    have hn : f n = true := by
      cases e : f n
      · rw [e] at h; simp at h; omega
      · rfl
    rw [hn] at h
    simp at h
    by_cases e : k = n
    · subst e; exact hn
    · exact cnt_all h k (by omega)
theorem cnt_some {f : Nat → Bool} : ∀ {n : Nat}, cnt f n < n → ∃ k, k < n ∧ f k = false
  | n + 1, h => by
    simp only [cnt] at h
    by_cases e : f n = true
    · rw [if_pos e] at h
      obtain ⟨k, hk, hf⟩ := cnt_some (f := f) (n := n) (by omega)
      exact ⟨k, by omega, hf⟩
    · exact ⟨n, by omega, by simpa using e⟩
theorem cnt_one {f g : Nat → Bool} {i : Nat} (hf : f i = false) (hg : g i = true) : ∀ {n : Nat}, i < n → (∀ k, k < n → k ≠ i → f k = g k) → cnt g n = cnt f n + 1
  | n + 1, hi, h => by
    simp only [cnt]
    by_cases e : i = n
    · subst e
      have h1 : ∀ {m : Nat}, m ≤ i → cnt g m = cnt f m := by
        intro m
        induction m with
        | zero => intro _; rfl
        | succ m ih => intro hm; simp only [cnt]; rw [ih (by omega), h m (by omega) (by omega)]
      rw [h1 (Nat.le_refl _), hf, hg]
      simp
    · rw [cnt_one hf hg (n := n) (by omega) (fun k hk => h k (by omega)), h n (by omega) (fun x => e x.symm)]
      omega
def begun (b : List Int) (i : Nat) : Bool := decide (0 ≤ b.getD i 0)
/-- What holds of begins that are being made, of so many tasks. -/
structure Made (L F : List Int) (h : Int) (m : Nat) (b : List Int) : Prop where
  len : b.length = L.length
  num : cnt (begun b) b.length = m
  val : ∀ i, i < b.length → b.getD i 0 = -1 ∨ (0 ≤ b.getD i 0 ∧ b.getD i 0 + L.getD i 0 ≤ 20 * (m : Int))
  pre : ∀ i, i < b.length → 0 ≤ b.getD i 0 → ∀ k, k < i → aft F i k = true → 0 ≤ b.getD k 0 ∧ b.getD k 0 + L.getD k 0 ≤ b.getD i 0
  few : ∀ t, (busyN L b t : Int) ≤ h
theorem made_none {L F : List Int} {h : Int} (h0 : 0 ≤ h) : Made L F h 0 (noneB L.length) := by
  have hl : (noneB L.length).length = L.length := by simp [noneB]
  refine ⟨hl, cnt_zero (fun k hk => ?_), fun i hi => .inl (getD_none (by omega)), fun i hi hb => ?_, fun t => ?_⟩
  · unfold begun; rw [getD_none (by omega)]; rfl
  · rw [getD_none (by omega)] at hb; omega
  · have : busyN L (noneB L.length) t = 0 := cnt_zero (fun k hk => by
      unfold isBusy
      rw [getD_none (by omega)]
      simp)
    omega
section
variable {L F : List Int} {h : Int} {m i : Nat} {b : List Int}
theorem Made.late (hM : Made L F h m b) (h1 : 1 ≤ h) (k : Nat) : (busyN L b (20 * (m : Int) + k) : Int) < h := by
  have : busyN L b (20 * (m : Int) + k) = 0 := cnt_zero (fun j hj => by
    have := hM.val j hj
    exact decide_eq_false (fun ⟨h1, h2, h3⟩ => by rcases this with e | e <;> omega))
  omega
theorem made_set (hp : projOk L F = true) (hM : Made L F h m b) (h1 : 1 ≤ h) (hm : m < 6) (hi : i < b.length) (hb : b.getD i 0 = -1) (hf : frOk F b i i = true) :
    Made L F h (m + 1) (b.set i (findT L b h i 200 (erl L F b i i))) ∧ 0 ≤ findT L b h i 200 (erl L F b i i) ∧ erl L F b i i ≤ findT L b h i 200 (erl L F b i i) ∧ ∀ u, erl L F b i i ≤ u → u ≤ 120 → freeAt L b h i u = true → findT L b h i 200 (erl L F b i i) ≤ u := by
  have hLi := long_at hp (show i < L.length by rw [← hM.len]; exact hi)
  have hfr := frOk_iff.1 hf
  have e0 := erl_nonneg L F b i i
  have e1 : erl L F b i i ≤ 20 * (m : Int) := erl_le (by omega) (fun k hk ha => by
    have := hM.val k (by omega)
    have := hfr k hk ha
    omega)
  have hfree : freeAt L b h i (20 * (m : Int)) = true := freeN_iff.2 (fun k _ => hM.late h1 k)
  obtain ⟨g1, g2⟩ := findT_free (f := 200) e1 (by omega) hfree
  have g3 := (findT_ge L b h i 200 (erl L F b i i)).1
  obtain ⟨v, hv⟩ : ∃ v, findT L b h i 200 (erl L F b i i) = v := ⟨_, rfl⟩
  rw [hv] at g1 g2 g3 ⊢
  have hlen : (b.set i v).length = b.length := List.length_set
  have hat : ∀ j, (b.set i v).getD j 0 = if j = i then v else b.getD j 0 := fun j => getD_set hi
  refine ⟨⟨by rw [hlen]; exact hM.len, ?_, fun j hj => ?_, fun j hj hbj k hk ha => ?_, fun t => ?_⟩, by omega, g3, fun u h2 h3 h4 => ?_⟩
  · rw [hlen, cnt_one (f := begun b) (g := begun (b.set i v)) (i := i) (by unfold begun; rw [hb]; rfl) (by unfold begun; rw [hat, if_pos rfl]; simp; omega) hi (fun k _ hk => by unfold begun; rw [hat, if_neg hk]), hM.num]
  · rw [hat]
    split
    · rename_i e
      subst e
      exact .inr ⟨by omega, by omega⟩
    · have := hM.val j (by omega)
      omega
  · rw [hat] at hbj ⊢
    rw [hat]
    by_cases ej : j = i
    · subst ej
      rw [if_neg (by omega), if_pos rfl]
      have := erl_ge (L := L) (e := b) hk ha
      exact ⟨hfr k hk ha, by omega⟩
    · rw [if_neg ej] at hbj ⊢
      have := hM.pre j (by omega) hbj k hk ha
      have : k ≠ i := fun e => by subst e; omega
      rw [if_neg this]
      assumption
  · have hset := cnt_set (f := isBusy L b t) (g := isBusy L (b.set i v) t) (i := i) (n := b.length) (fun k _ hk => by unfold isBusy; rw [hat, if_neg hk])
    unfold busyN
    rw [hlen]
    have hfew := hM.few t
    unfold busyN at hfew
    by_cases hb2 : isBusy L (b.set i v) t i = true
    · rw [if_pos hb2] at hset
      unfold isBusy at hb2
      rw [hat, if_pos rfl, decide_eq_true_eq] at hb2
      have := freeN_iff.1 g1 (t - v).toNat (by omega)
      rw [show v + ((t - v).toNat : Int) = t by omega] at this
      unfold busyN at this
      omega
    · rw [if_neg hb2] at hset
      omega
  · have := (findT_free (L := L) (b := b) (h := h) (i := i) (f := 200) h2 (by omega) h4).2
    omega
/-- Who may begin. -/
def elig (F b : List Int) (v : Int) : Prop := b.getD v.toNat 0 = -1 ∧ frOk F b v.toNat v.toNat = true
theorem stepBy_first (L F : List Int) (h : Int) (b : List Int) : ∀ {order : List Int}, (∃ v ∈ order, elig F b v) → ∃ v pre post, order = pre ++ v :: post ∧ (∀ u ∈ pre, ¬ elig F b u) ∧ elig F b v ∧ stepBy L F h b order = b.set v.toNat (findT L b h v.toNat 200 (erl L F b v.toNat v.toNat))
  | [], ⟨v, hv, _⟩ => by simp at hv
  | w :: os, hex => by
    by_cases hw : elig F b w
    · exact ⟨w, [], os, rfl, by simp, hw, by simp only [stepBy]; exact if_pos hw⟩
    · obtain ⟨v, hv, he⟩ := hex
      have hv2 : v ∈ os := by
        rcases List.mem_cons.1 hv with e | e
        · subst e; exact absurd he hw
        · exact e
      obtain ⟨u, pre, post, e1, e2, e3, e4⟩ := stepBy_first L F h b (order := os) ⟨v, hv2, he⟩
      refine ⟨u, w :: pre, post, by rw [e1]; rfl, fun x hx => ?_, e3, by simp only [stepBy]; exact (if_neg hw).trans e4⟩
      rcases List.mem_cons.1 hx with e | e
      · subst e; exact hw
      · exact e2 x e
theorem elig_some (hM : Made L F h m b) (hm : m < b.length) : ∃ i, i < b.length ∧ b.getD i 0 = -1 ∧ frOk F b i i = true := by
  obtain ⟨k, hk, hf⟩ := cnt_some (f := begun b) (n := b.length) (by rw [hM.num]; exact hm)
  -- the least one
  have key : ∀ n, (∃ k, k < n ∧ k < b.length ∧ begun b k = false) → ∃ k, k < b.length ∧ begun b k = false ∧ ∀ j, j < k → begun b j = true := by
    intro n
    induction n with
    | zero => rintro ⟨k, h, _⟩; omega
    | succ n ih =>
      rintro ⟨k, h1, h2, h3⟩
      by_cases hex : ∃ k, k < n ∧ k < b.length ∧ begun b k = false
      · exact ih hex
      · refine ⟨k, h2, h3, fun j hj => ?_⟩
        cases e : begun b j
        · exact absurd ⟨j, by omega, by omega, e⟩ hex
        · rfl
  obtain ⟨i, hi, h1, h2⟩ := key b.length ⟨k, hk, hk, hf⟩
  refine ⟨i, hi, ?_, frOk_iff.2 (fun j hj _ => ?_)⟩
  · have := hM.val i hi
    have h3 := of_decide_eq_false h1
    rcases this with e | e
    · exact e
    · exact absurd e.1 h3
  · exact of_decide_eq_true (h2 j hj)
end
theorem order_mem {n : Nat} {order : List Int} (ho : IsOrder n order) {i : Nat} (hi : i < n) : (i : Int) ∈ order := by
  obtain ⟨h1, h2, h3⟩ := ho
  apply Classical.byContradiction
  intro hno
  have hsub : order.Nodup ∧ ∀ v ∈ (i : Int) :: order, 0 ≤ v ∧ v < n := ⟨h2, fun v hv => by
    rcases List.mem_cons.1 hv with e | e
    · subst e; omega
    · exact h3 v e⟩
  have hnd : ((i : Int) :: order).Nodup := List.nodup_cons.2 ⟨hno, h2⟩
  have key : ∀ (n : Nat) (l : List Int), l.Nodup → (∀ x ∈ l, 0 ≤ x ∧ x < n) → l.length ≤ n := by
    intro n
    induction n with
    | zero =>
      intro l _ h
      cases l with
      | nil => exact Nat.le_refl _
      | cons a l => have := h a (by simp); omega
    | succ n ih =>
      intro l hd h
      by_cases hm : (n : Int) ∈ l
      · have h1 := ih (l.erase n) (hd.erase _) (fun x hx => by
          have h2 := (hd.mem_erase_iff).1 hx
          have := h x h2.2
          have := h2.1
          omega)
        rw [List.length_erase_of_mem hm] at h1
        omega
      · exact Nat.le_succ_of_le (ih l hd (fun x hx => by
          have := h x hx
          have : x ≠ n := fun e => hm (e ▸ hx)
          omega))
  have := key n _ hnd hsub.2
  simp at this
  omega
theorem run_made {L F : List Int} {h : Int} {order : List Int} (hp : projOk L F = true) (h1 : 1 ≤ h) (ho : IsOrder L.length order) : ∀ (k m : Nat) (b : List Int), Made L F h m b → m + k ≤ L.length → Made L F h (m + k) (runBy L F h order k b)
  | 0, m, b, hM, _ => hM
  | k + 1, m, b, hM, hk => by
    simp only [runBy]
    have hl := hM.len
    have h6 := (projOk_iff.1 hp).1
    obtain ⟨i, hi, hb, hf⟩ := elig_some hM (by omega)
    obtain ⟨v, _, _, _, _, he, e⟩ := stepBy_first L F h b (order := order) ⟨(i : Int), order_mem ho (by omega), by unfold elig; rw [Int.toNat_natCast]; exact ⟨hb, hf⟩⟩
    rw [e]
    have hv : v.toNat < b.length := by
      apply Classical.byContradiction
      intro hno
      have := he.1
      rw [List.getD_eq_getElem?_getD, List.getElem?_eq_none (by omega)] at this
      simp at this
    have hM2 := (made_set hp hM h1 (by omega) hv he.1 he.2).1
    have := run_made hp h1 ho k (m + 1) _ hM2 (by omega)
    rw [show m + (k + 1) = m + 1 + k by omega]
    exact this
theorem by_made {L F : List Int} {h : Int} {order : List Int} (hp : projOk L F = true) (h1 : 1 ≤ h) (ho : IsOrder L.length order) : Made L F h L.length (beginsBy L F h order) := by
  have := run_made hp h1 ho order.length 0 _ (made_none (by omega)) (by rw [ho.1]; omega)
  unfold beginsBy
  rw [ho.1]
  rwa [Nat.zero_add, ho.1] at this
theorem Made.all {L F : List Int} {h : Int} {b : List Int} (hp : projOk L F = true) (hM : Made L F h L.length b) {i : Nat} (hi : i < L.length) : 0 ≤ b.getD i 0 ∧ b.getD i 0 + L.getD i 0 ≤ 120 := by
  have h6 := (projOk_iff.1 hp).1
  have hl := hM.len
  have h1 := cnt_all (f := begun b) (n := b.length) (by rw [hM.num, hl]) i (by omega)
  unfold begun at h1
  rw [decide_eq_true_eq] at h1
  have := hM.val i (by omega)
  omega
/-- Begins by an order are right. -/
theorem by_ok {L F : List Int} {h : Int} {order : List Int} (hp : projOk L F = true) (h1 : 1 ≤ h ∧ h ≤ 3) (ho : IsOrder L.length order) : beginsOk L F h (beginsBy L F h order) = true := by
  have hM := by_made hp h1.1 ho
  have hl := hM.len
  refine beginsOk_iff.2 ⟨hp, hl, fun v hv => ?_, h1, fun i hi => ⟨fun k hk ha => (hM.pre i hi (hM.all hp (by omega)).1 k hk ha).2, hM.few _⟩⟩
  obtain ⟨i, hi, e⟩ := List.getElem_of_mem hv
  have a := hM.all hp (show i < L.length by omega)
  have c := long_at hp (show i < L.length by omega)
  have ev : (beginsBy L F h order).getD i 0 = v := by rw [List.getD_eq_getElem?_getD, List.getElem?_eq_getElem hi, e]; rfl
  rw [ev] at a
  omega
end Go.Proofs.Ytmgikoaeomieeaa.Pp
