/- The breadth first search of floor.spread, plainly: what its distances are. -/
import Derived.Test.YtmnncmpmhbfpcaaS3
namespace Go.Proofs.Ytmnncmpmhbfpcaa.P
set_option linter.unusedVariables false
set_option linter.unusedSimpArgs false
open Go.RowKit Go.Proofs.YtmnncmpmhbfpcaaW.PrintWords Go.Proofs.YtmnncmpmhbfpcaaW.PrintLast Go.Proofs.YtmnncmpmhbfpcaaW.PrintMore
open Go.Proofs.Ytmnncmpmhbfpcaa.A Go.Proofs.Ytmnncmpmhbfpcaa.H Go.Proofs.Ytmnncmpmhbfpcaa.S

def ou (s : St) (c : Nat) : Int := s.1.getD c 0
def op (s : St) (c : Nat) : Bool := s.2.1.getD c false
theorem getD_set {α : Type} (l : List α) (i j : Nat) (a z : α) (hi : i < l.length) : (l.set i a).getD j z = if i = j then a else l.getD j z := by
  rw [List.getD_eq_getElem?_getD, List.getElem?_set, List.getD_eq_getElem?_getD]
  by_cases h : i = j
  · rw [if_pos h, if_pos h, if_pos (h ▸ hi)]
    rfl
  · rw [if_neg h, if_neg h]
section
variable (n : Nat) (MV : Int → Int → Option (Int × Bool)) (o0 : List Bool) (fr : Nat → Prop)
def Adj (c m : Nat) : Prop := ∃ d : Nat, d < 6 ∧ MV c d = some ((m : Int), true)
def Nb (s : St) (c : Nat) : Prop := ∀ m, m < n → Adj MV c m → o0.getD m false = true → 0 ≤ ou s m ∧ ou s m ≤ ou s c + 1
structure B0 (s : St) : Prop where
  l1 : s.1.length = n
  l2 : s.2.1.length = n
  b2 : ∀ c, c < n → op s c = true → o0.getD c false = true
  b3 : ∀ c, c < n → (0 ≤ ou s c ↔ o0.getD c false = true ∧ op s c = false)
  b3' : ∀ c, c < n → ¬ 0 ≤ ou s c → ou s c = -1
  b4 : ∀ c, c < n → (ou s c = 0 ↔ o0.getD c false = true ∧ fr c)
  b5 : ∀ c, c < n → 0 < ou s c → ∃ p, p < n ∧ ou s p = ou s c - 1 ∧ Adj MV p c
  b6 : ∀ x ∈ s.2.2, ∃ c : Nat, c < n ∧ x = (c : Int) ∧ 0 ≤ ou s c
structure Bk (s : St) (k : Int) (X : Nat → Prop) : Prop extends B0 n MV o0 fr s where
  b7 : ∃ q1 q2, s.2.2 = q1 ++ q2 ∧ (∀ c : Nat, (c : Int) ∈ q1 → ou s c = k) ∧ (∀ c : Nat, (c : Int) ∈ q2 → ou s c = k + 1)
  b8 : ∀ c, c < n → ou s c ≤ k + 1
  b9 : ∀ c, c < n → 0 ≤ ou s c → (c : Int) ∉ s.2.2 → ¬ X c → Nb n MV o0 s c
variable {n MV o0 fr}
theorem op_iff {s : St} {m : Nat} (hm : m < s.2.1.length) : s.2.1[m]? = some true ↔ op s m = true := by
  unfold op
  rw [List.getD_eq_getElem?_getD, List.getElem?_eq_getElem hm]
  simp
theorem reach_meas {s : St} {m : Nat} {x : Int} : (reachP m x s).2.2.length + (reachP m x s).2.1.count true = s.2.2.length + s.2.1.count true := by
  unfold reachP
  split
  · rename_i h
    have := count_set_true h
    simp only [List.length_append, List.length_singleton]
    omega
  · rfl
theorem reach_step {s : St} {k : Int} {c m : Nat} {X : Nat → Prop} (h : Bk n MV o0 fr s k X) (hk : 0 ≤ k) (hc : c < n) (hck : ou s c = k) (hm : m < n) (ha : Adj MV c m) :
    Bk n MV o0 fr (reachP m (k + 1) s) k X ∧ ou (reachP m (k + 1) s) c = k ∧ (o0.getD m false = true → 0 ≤ ou (reachP m (k + 1) s) m ∧ ou (reachP m (k + 1) s) m ≤ k + 1) ∧ (∀ x, x < n → 0 ≤ ou s x → ou (reachP m (k + 1) s) x = ou s x) := by
  unfold reachP
  by_cases ho : s.2.1[m]? = some true
  · rw [if_pos ho]
    rw [op_iff (by rw [h.l2]; exact hm)] at ho
    have hom := h.b2 m hm ho
    have hneg : ¬ 0 ≤ ou s m := fun hh => by
      have := ((h.b3 m hm).1 hh).2
      rw [ho] at this
      cases this
    have hou : ∀ x, ou (s.1.set m (k + 1), s.2.1.set m false, s.2.2 ++ [(m : Int)]) x = if m = x then k + 1 else ou s x := fun x => getD_set _ _ _ _ _ (by rw [h.l1]; exact hm)
    have hop : ∀ x, op (s.1.set m (k + 1), s.2.1.set m false, s.2.2 ++ [(m : Int)]) x = if m = x then false else op s x := fun x => getD_set _ _ _ _ _ (by rw [h.l2]; exact hm)
    have hold : ∀ x, x < n → 0 ≤ ou s x → ou (s.1.set m (k + 1), s.2.1.set m false, s.2.2 ++ [(m : Int)]) x = ou s x := fun x hx h0 => by
      rw [hou, if_neg]
      intro e
      subst e
      exact hneg h0
    refine ⟨⟨⟨by simp [h.l1], by simp [h.l2], ?_, ?_, ?_, ?_, ?_, ?_⟩, ?_, ?_, ?_⟩, ?_, ?_, hold⟩
    · intro x hx hh
      rw [hop] at hh
      split at hh
      · cases hh
      · exact h.b2 x hx hh
    · intro x hx
      rw [hou, hop]
      by_cases e : m = x
      · subst e
        rw [if_pos rfl, if_pos rfl]
        exact ⟨fun _ => ⟨hom, rfl⟩, fun _ => by omega⟩
      · rw [if_neg e, if_neg e]
        exact h.b3 x hx
    · intro x hx hh
      rw [hou] at hh ⊢
      by_cases e : m = x
      · rw [if_pos e] at hh
        omega
      · rw [if_neg e] at hh ⊢
        exact h.b3' x hx hh
    · intro x hx
      rw [hou]
      by_cases e : m = x
      · subst e
        rw [if_pos rfl]
        constructor
        · intro hh
          omega
        · intro hh
          have := (h.b4 m hm).2 hh
          omega
      · rw [if_neg e]
        exact h.b4 x hx
    · intro x hx hh
      rw [hou] at hh
      by_cases e : m = x
      · subst e
        refine ⟨c, hc, ?_, ha⟩
        rw [hold c hc (by omega), hou, if_pos rfl, hck]
        omega
      · rw [if_neg e] at hh
        obtain ⟨p, hp, hpe, hpa⟩ := h.b5 x hx hh
        refine ⟨p, hp, ?_, hpa⟩
        rw [hold p hp (by omega), hou, if_neg e, hpe]
    · intro x hx
      simp only [List.mem_append, List.mem_singleton] at hx
      rcases hx with hx | rfl
      · obtain ⟨y, hy, rfl, h0⟩ := h.b6 x hx
        exact ⟨y, hy, rfl, by rw [hold y hy h0]; exact h0⟩
      · exact ⟨m, hm, rfl, by rw [hou, if_pos rfl]; omega⟩
    · obtain ⟨q1, q2, e, h1, h2⟩ := h.b7
      have hin : ∀ y : Nat, (y : Int) ∈ s.2.2 → ou (s.1.set m (k + 1), s.2.1.set m false, s.2.2 ++ [(m : Int)]) y = ou s y := fun y hy => by
        obtain ⟨z, hz, hzy, h0⟩ := h.b6 _ hy
        have : y = z := by omega
        subst this
        exact hold y hz h0
      refine ⟨q1, q2 ++ [(m : Int)], by simp [e], fun y hy => ?_, fun y hy => ?_⟩
      · rw [hin y (by rw [e]; exact List.mem_append_left _ hy)]
        exact h1 y hy
      · simp only [List.mem_append, List.mem_singleton] at hy
        rcases hy with hy | hy
        · rw [hin y (by rw [e]; exact List.mem_append_right _ hy)]
          exact h2 y hy
        · have : y = m := by omega
          subst this
          rw [hou, if_pos rfl]
    · intro x hx
      rw [hou]
      split
      · omega
      · exact h.b8 x hx
    · intro x hx h0 hnq hX
      simp only [List.mem_append, List.mem_singleton, not_or] at hnq
      have e : m ≠ x := fun e => hnq.2 (by rw [e])
      rw [hou, if_neg e] at h0
      have hnb := h.b9 x hx h0 hnq.1 hX
      intro y hy hay hoy
      have h1 := hnb y hy hay hoy
      rw [hold x hx h0, hold y hy h1.1]
      exact h1
    · rw [hold c hc (by omega)]
      exact hck
    · intro _
      rw [hou, if_pos rfl]
      omega
  · rw [if_neg ho]
    refine ⟨h, hck, fun hom => ?_, fun _ _ _ => rfl⟩
    have hof : op s m = false := by
      cases hb : op s m
      · rfl
      · exact absurd ((op_iff (by rw [h.l2]; exact hm)).2 hb) ho
    exact ⟨(h.b3 m hm).2 ⟨hom, hof⟩, h.b8 m hm⟩
end
end Go.Proofs.Ytmnncmpmhbfpcaa.P
