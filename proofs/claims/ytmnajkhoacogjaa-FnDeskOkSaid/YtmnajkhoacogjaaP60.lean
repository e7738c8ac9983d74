/-
  Plain: desks, and what a deed does.
  Plain: what was done can be undone; runs of deeds.
-/
import Derived.Test.YtmnajkhoacogjaaP57
import Derived.Test.YtmnajkhoacogjaaP8
import Derived.Test.YtmnajkhoacogjaaL1
import Derived.Test.YtmnajkhoacogjaaL88
namespace Go.Proofs.Ytmnajkhoacogjaa
set_option linter.unusedVariables false
set_option linter.unusedSimpArgs false

namespace Pp

structure Dk where
  now : Pl
  past : List Pl
structure Dd where
  k : Int
  a : Int
  b : Int
  c : Int
  ws : List UInt8
def deskOk (d : Dk) : Bool := d.past.all planOk && planOk d.now && decide (d.past.length ≤ 8)
def swapP (p : Pl) : Pl := ⟨p.n, p.bs.map fun b => ⟨b.t, b.f, b.m⟩⟩
def lessP (p : Pl) (a : Int) : Pl := if planOk p && inB a 0 ((p.bs.length : Int) - 1) then ⟨p.n, del p.bs a.toNat⟩ else ⟨0, []⟩
/-- What a deed makes of a plan; rt reads terms. -/
def madeP (rt : List UInt8 → Option (List Mk)) (p : Pl) (d : Dd) : Pl :=
  if d.k = 0 ∧ d.a = 0 ∧ d.b = 0 ∧ d.c = 0 ∧ d.ws = [] then ⟨p.n + 1, p.bs⟩
  else if d.k = 1 ∧ d.ws = [] then toldP ⟨p.n, p.bs ++ [⟨d.a, d.b, d.c⟩]⟩
  else if d.k = 2 ∧ d.b = 0 ∧ d.c = 0 ∧ d.ws = [] then lessP p d.a
  else if d.k = 3 ∧ d.a = 0 ∧ d.b = 0 ∧ d.c = 0 ∧ d.ws = [] then trim p
  else if d.k = 4 ∧ d.a = 0 ∧ d.b = 0 ∧ d.c = 0 ∧ d.ws = [] then swapP p
  else if d.k = 5 ∧ d.a = 0 ∧ d.b = 0 ∧ d.c = 0 then planOf ((rt d.ws).getD [])
  else ⟨0, []⟩
def pushP (past : List Pl) (p : Pl) : List Pl := if 8 < (past ++ [p]).length then (past ++ [p]).drop 1 else past ++ [p]
def deskDo (rt : List UInt8 → Option (List Mk)) (d : Dk) (a : Dd) : Dk × Bool :=
  if deskOk d then
    if (a.k = 6 ∧ a.a = 0 ∧ a.b = 0 ∧ a.c = 0 ∧ a.ws = []) ∧ 0 < d.past.length then (⟨d.past.getLastD ⟨0, []⟩, d.past.dropLast⟩, true)
    else if planOk (madeP rt d.now a) = true ∧ planText (madeP rt d.now a) ≠ planText d.now then (⟨madeP rt d.now a, pushP d.past d.now⟩, true)
    else (d, false)
  else (⟨⟨0, []⟩, []⟩, false)

theorem deskOk_iff {d : Dk} : deskOk d = true ↔ (∀ p ∈ d.past, planOk p = true) ∧ planOk d.now = true ∧ d.past.length ≤ 8 := by
  unfold deskOk
  simp [List.all_eq_true, and_assoc]
theorem deskDo_ok (rt : List UInt8 → Option (List Mk)) {d : Dk} (a : Dd) (h : deskOk d = true) : deskOk (deskDo rt d a).1 = true := by
  obtain ⟨h1, h2, h3⟩ := deskOk_iff.1 h
  unfold deskDo
  rw [if_pos h]
  split
  · rename_i hb
    obtain ⟨-, hl⟩ := hb
    rw [deskOk_iff]
    refine ⟨fun p hp => h1 p (List.dropLast_subset _ hp), ?_, by simp; omega⟩
    have hne : d.past ≠ [] := fun e => by rw [e] at hl; simp at hl
    rw [List.getLastD_eq_getLast?, List.getLast?_eq_some_getLast hne]
    exact h1 _ (List.getLast_mem hne)
  · split
    · rename_i hm
      rw [deskOk_iff]
      refine ⟨fun p hp => ?_, hm.1, ?_⟩
      · have hp' : p ∈ d.past ++ [d.now] := by
          unfold pushP at hp
          dsimp only at hp
          split at hp
          · exact List.mem_of_mem_drop hp
          · exact hp
        rcases List.mem_append.1 hp' with h4 | h4
        · exact h1 p h4
        · rw [List.mem_singleton.1 h4]; exact h2
      · unfold pushP
        dsimp only
        split
        · simp; omega
        · rename_i h4; simp at h4 ⊢; omega
    · exact h
end Pp

namespace Pp

def backD : Dd := ⟨6, 0, 0, 0, []⟩
/-- What a deed makes, by its kind, if it is a plan. -/
theorem made_k {rt : List UInt8 → Option (List Mk)} {p : Pl} {a : Dd} (h : planOk (madeP rt p a) = true) :
    (a.k = 0 ∧ madeP rt p a = ⟨p.n + 1, p.bs⟩) ∨ (a.k = 1 ∧ madeP rt p a = toldP ⟨p.n, p.bs ++ [⟨a.a, a.b, a.c⟩]⟩) ∨ (a.k = 2 ∧ madeP rt p a = lessP p a.a) ∨ (a.k = 3 ∧ madeP rt p a = trim p) ∨ (a.k = 4 ∧ madeP rt p a = swapP p) ∨ (a.k = 5 ∧ madeP rt p a = planOf ((rt a.ws).getD [])) := by
  unfold madeP at h ⊢
  by_cases h0 : a.k = 0 ∧ a.a = 0 ∧ a.b = 0 ∧ a.c = 0 ∧ a.ws = []
  · rw [if_pos h0]; exact .inl ⟨h0.1, rfl⟩
  rw [if_neg h0] at h ⊢
  by_cases h1 : a.k = 1 ∧ a.ws = []
  · rw [if_pos h1]; exact .inr (.inl ⟨h1.1, rfl⟩)
  rw [if_neg h1] at h ⊢
  by_cases h2 : a.k = 2 ∧ a.b = 0 ∧ a.c = 0 ∧ a.ws = []
  · rw [if_pos h2]; exact .inr (.inr (.inl ⟨h2.1, rfl⟩))
  rw [if_neg h2] at h ⊢
  by_cases h3 : a.k = 3 ∧ a.a = 0 ∧ a.b = 0 ∧ a.c = 0 ∧ a.ws = []
  · rw [if_pos h3]; exact .inr (.inr (.inr (.inl ⟨h3.1, rfl⟩)))
  rw [if_neg h3] at h ⊢
  by_cases h4 : a.k = 4 ∧ a.a = 0 ∧ a.b = 0 ∧ a.c = 0 ∧ a.ws = []
  · rw [if_pos h4]; exact .inr (.inr (.inr (.inr (.inl ⟨h4.1, rfl⟩))))
  rw [if_neg h4] at h ⊢
  by_cases h5 : a.k = 5 ∧ a.a = 0 ∧ a.b = 0 ∧ a.c = 0
  · rw [if_pos h5]; exact .inr (.inr (.inr (.inr (.inr ⟨h5.1, rfl⟩))))
  rw [if_neg h5] at h
  exact absurd h (by decide)
/-- A deed that is done, other than DkBack. -/
theorem do_yes {rt : List UInt8 → Option (List Mk)} {d : Dk} {a : Dd} (h : (deskDo rt d a).2 = true) (hk : a.k ≠ 6) :
    deskOk d = true ∧ planOk (madeP rt d.now a) = true ∧ deskDo rt d a = (⟨madeP rt d.now a, pushP d.past d.now⟩, true) := by
  unfold deskDo at h ⊢
  by_cases hd : deskOk d = true
  · rw [if_pos hd] at h ⊢
    rw [if_neg (fun hx => hk hx.1.1)] at h ⊢
    by_cases hm : planOk (madeP rt d.now a) = true ∧ planText (madeP rt d.now a) ≠ planText d.now
    · rw [if_pos hm]; exact ⟨hd, hm.1, rfl⟩
    · rw [if_neg hm] at h; cases h
  · rw [if_neg hd] at h; cases h
theorem do_no {rt : List UInt8 → Option (List Mk)} {d : Dk} {a : Dd} (h : (deskDo rt d a).2 = false) (hd : deskOk d = true) : deskDo rt d a = (d, false) := by
  unfold deskDo at h ⊢
  rw [if_pos hd] at h ⊢
  split at h
  · cases h
  · rename_i h1
    rw [if_neg h1]
    split at h
    · cases h
    · rename_i h2
      rw [if_neg h2]
theorem do_bad {rt : List UInt8 → Option (List Mk)} {d : Dk} {a : Dd} (hd : deskOk d = false) : deskDo rt d a = (⟨⟨0, []⟩, []⟩, false) := by
  unfold deskDo
  rw [if_neg (by rw [hd]; decide)]
/-- What was done can be undone. -/
theorem do_back {rt : List UInt8 → Option (List Mk)} {d : Dk} {a : Dd} (h : (deskDo rt d a).2 = true) (hk : a.k ≠ 6) (h8 : d.past.length < 8) : deskDo rt (deskDo rt d a).1 backD = (d, true) := by
  obtain ⟨hd, hm, he⟩ := do_yes h hk
  have hok := deskDo_ok rt a hd
  rw [he] at hok ⊢
  have hp : pushP d.past d.now = d.past ++ [d.now] := by
    unfold pushP
    rw [if_neg (by simp; omega)]
  dsimp only at hok ⊢
  rw [hp] at hok ⊢
  unfold deskDo
  rw [if_pos hok, if_pos ⟨⟨rfl, rfl, rfl, rfl, rfl⟩, by simp⟩]
  dsimp only
  rw [List.dropLast_concat, List.getLastD_concat]
theorem toldP_ok {p : Pl} (h : planOk (toldP p) = true) : planOk p = true ∧ toldP p = p := by
  cases hp : planOk p
  · unfold toldP at h
    rw [hp, if_neg (by decide)] at h
    exact absurd h (by decide)
  · unfold toldP
    rw [hp]
    exact ⟨rfl, rfl⟩
theorem kept_trim {rt : List UInt8 → Option (List Mk)} {d : Dk} {a : Dd} (h : (deskDo rt d a).2 = true) (hk : a.k = 3) : alike (deskDo rt d a).1.now d.now = true := by
  obtain ⟨hd, hm, he⟩ := do_yes h (by omega)
  rw [he]
  dsimp only
  rcases made_k hm with ⟨h1, h2⟩ | ⟨h1, h2⟩ | ⟨h1, h2⟩ | ⟨h1, h2⟩ | ⟨h1, h2⟩ | ⟨h1, h2⟩ <;> first | omega | skip
  rw [h2]
  exact (trim_ok (deskOk_iff.1 hd).2.1).2.2.2.1
theorem swap_turn {p : Pl} (h : planOk p = true) : swapP p = turn p := by
  unfold turn swapP
  rw [if_pos h]
theorem swap_swap (p : Pl) : swapP (swapP p) = p := by
  unfold swapP
  dsimp only
  rw [List.map_map]
  have : ((fun b : Bd => (⟨b.t, b.f, b.m⟩ : Bd)) ∘ fun b : Bd => (⟨b.t, b.f, b.m⟩ : Bd)) = id := by funext b; rfl
  rw [this, List.map_id]
theorem swap_fits {p : Pl} (h : planOk p = true) : fits (swapP p) = fits p := by
  have hs : planOk (swapP p) = true := by rw [swap_turn h]; exact (turn_ok h).1
  cases hf : fits p
  · cases hg : fits (swapP p)
    · rfl
    · have := turn_fits hg
      rw [← swap_turn hs, swap_swap, hf] at this
      cases this
  · rw [swap_turn h]; exact turn_fits hf
theorem kept_turn {rt : List UInt8 → Option (List Mk)} {d : Dk} {a : Dd} (h : (deskDo rt d a).2 = true) (hk : a.k = 4) : fits (deskDo rt d a).1.now = fits d.now := by
  obtain ⟨hd, hm, he⟩ := do_yes h (by omega)
  rw [he]
  dsimp only
  rcases made_k hm with ⟨h1, h2⟩ | ⟨h1, h2⟩ | ⟨h1, h2⟩ | ⟨h1, h2⟩ | ⟨h1, h2⟩ | ⟨h1, h2⟩ <;> first | omega | skip
  rw [h2]
  exact swap_fits (deskOk_iff.1 hd).2.1
theorem kept_bound {rt : List UInt8 → Option (List Mk)} {d : Dk} {a : Dd} (h : (deskDo rt d a).2 = true) (hk : a.k = 1) : implies (deskDo rt d a).1.now d.now = true := by
  obtain ⟨hd, hm, he⟩ := do_yes h (by omega)
  rw [he]
  dsimp only
  have hok := (deskOk_iff.1 hd).2.1
  rcases made_k hm with ⟨h1, h2⟩ | ⟨h1, h2⟩ | ⟨h1, h2⟩ | ⟨h1, h2⟩ | ⟨h1, h2⟩ | ⟨h1, h2⟩ <;> first | omega | skip
  rw [h2] at hm ⊢
  obtain ⟨h3, h4⟩ := toldP_ok hm
  rw [h4]
  exact (implies_iff h3 hok rfl).2 fun y hy b hb => hy b (List.mem_append_left _ hb)
theorem kept_loose {rt : List UInt8 → Option (List Mk)} {d : Dk} {a : Dd} (h : (deskDo rt d a).2 = true) (hk : a.k = 2) : implies d.now (deskDo rt d a).1.now = true := by
  obtain ⟨hd, hm, he⟩ := do_yes h (by omega)
  rw [he]
  dsimp only
  have hok := (deskOk_iff.1 hd).2.1
  rcases made_k hm with ⟨h1, h2⟩ | ⟨h1, h2⟩ | ⟨h1, h2⟩ | ⟨h1, h2⟩ | ⟨h1, h2⟩ | ⟨h1, h2⟩ <;> first | omega | skip
  rw [h2] at hm ⊢
  unfold lessP at hm ⊢
  split at hm
  · rename_i h5
    rw [if_pos h5]
    exact (implies_iff hok hm rfl).2 fun y hy => del_sol hy
  · exact absurd hm (by decide)

/-! ### Runs. -/
def runD (rt : List UInt8 → Option (List Mk)) : Dk → List Dd → Dk × Nat
  | d, [] => (d, 0)
  | d, a :: l => ((runD rt (deskDo rt d a).1 l).1, (if (deskDo rt d a).2 then 1 else 0) + (runD rt (deskDo rt d a).1 l).2)
theorem runD_app (rt : List UInt8 → Option (List Mk)) : ∀ (l1 l2 : List Dd) (d : Dk), runD rt d (l1 ++ l2) = ((runD rt (runD rt d l1).1 l2).1, (runD rt d l1).2 + (runD rt (runD rt d l1).1 l2).2)
  | [], l2, d => by simp [runD]
  | a :: l1, l2, d => by
    simp only [List.cons_append, runD]
    rw [runD_app rt l1 l2]
    simp only [Nat.add_assoc]
theorem runD_snoc (rt : List UInt8 → Option (List Mk)) (l : List Dd) (a : Dd) (d : Dk) : runD rt d (l ++ [a]) = ((deskDo rt (runD rt d l).1 a).1, (runD rt d l).2 + if (deskDo rt (runD rt d l).1 a).2 then 1 else 0) := by
  rw [runD_app]
  simp [runD]
theorem runD_ok (rt : List UInt8 → Option (List Mk)) : ∀ (l : List Dd) (d : Dk), deskOk d = true → deskOk (runD rt d l).1 = true
  | [], d, h => h
  | a :: l, d, h => runD_ok rt l _ (deskDo_ok rt a h)
theorem runD_le (rt : List UInt8 → Option (List Mk)) : ∀ (l : List Dd) (d : Dk), (runD rt d l).2 ≤ l.length
  | [], d => Nat.le_refl _
  | a :: l, d => by
    have := runD_le rt l (deskDo rt d a).1
    simp only [runD, List.length_cons]
    split <;> omega
/-- What DeskRun returns. -/
def deskRun (rt : List UInt8 → Option (List Mk)) (d : Dk) (l : List Dd) : Dk × Nat := if deskOk d = true ∧ l.length ≤ 40 then runD rt d l else (⟨⟨0, []⟩, []⟩, 0)
theorem deskRun_two (rt : List UInt8 → Option (List Mk)) {d : Dk} {l : List Dd} (h : deskOk d = true) (hl : l.length ≤ 40) (k : Nat) :
    deskOk (deskRun rt d l).1 = true ∧ (deskRun rt (deskRun rt d (l.take k)).1 (l.drop k)).1 = (deskRun rt d l).1 ∧ (deskRun rt d (l.take k)).2 + (deskRun rt (deskRun rt d (l.take k)).1 (l.drop k)).2 = (deskRun rt d l).2 := by
  have h1 : deskRun rt d l = runD rt d l := by unfold deskRun; rw [if_pos ⟨h, hl⟩]
  have h2 : deskRun rt d (l.take k) = runD rt d (l.take k) := by unfold deskRun; rw [if_pos ⟨h, by rw [List.length_take]; omega⟩]
  have h3 : deskRun rt (runD rt d (l.take k)).1 (l.drop k) = runD rt (runD rt d (l.take k)).1 (l.drop k) := by unfold deskRun; rw [if_pos ⟨runD_ok rt _ _ h, by rw [List.length_drop]; omega⟩]
  rw [h1, h2, h3]
  have h4 := runD_app rt (l.take k) (l.drop k) d
  rw [List.take_append_drop] at h4
  rw [h4]
  exact ⟨runD_ok rt _ _ (runD_ok rt _ _ h), rfl, rfl⟩
end Pp
end Go.Proofs.Ytmnajkhoacogjaa
