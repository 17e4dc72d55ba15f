/- The breadth first search of floor.spread, plainly: its loops. -/
import Derived.Test.YtmnncmpmhbfpcaaP4
namespace Go.Proofs.Ytmnncmpmhbfpcaa.P
set_option linter.unusedVariables false
set_option linter.unusedSimpArgs false
open Go.RowKit Go.Proofs.YtmnncmpmhbfpcaaW.PrintWords Go.Proofs.YtmnncmpmhbfpcaaW.PrintLast Go.Proofs.YtmnncmpmhbfpcaaW.PrintMore
open Go.Proofs.Ytmnncmpmhbfpcaa.A Go.Proofs.Ytmnncmpmhbfpcaa.H Go.Proofs.Ytmnncmpmhbfpcaa.S
section
variable {n : Nat} {MV : Int → Int → Option (Int × Bool)} {o0 : List Bool} {fr : Nat → Prop}
def Moves (n : Nat) (MV : Int → Int → Option (Int × Bool)) : Prop := ∀ (c d : Nat), c < n → d < 6 → ∃ m ok, MV c d = some (m, ok) ∧ (ok = true → 0 ≤ m ∧ m < (n : Int))
theorem wsm' (x : Int) (h1 : -9223372036854775808 ≤ x) (h2 : x ≤ 9223372036854775807) : wrap64 x = x := by unfold wrap64; omega
def meas (s : St) : Nat := s.2.2.length + s.2.1.count true
theorem dirs_all (hMV : Moves n MV) {k : Int} (hk : 0 ≤ k) (hk2 : k ≤ 1000000000) {c : Nat} (hc : c < n) {X : Nat → Prop} : ∀ (j d : Nat) (s : St), d + j = 6 → Bk n MV o0 fr s k X → ou s c = k →
    (∀ d' : Nat, d' < d → ∀ m : Nat, m < n → MV c d' = some ((m : Int), true) → o0.getD m false = true → 0 ≤ ou s m ∧ ou s m ≤ k + 1) →
    ∃ s', dirsP MV n c j d s = some s' ∧ Bk n MV o0 fr s' k X ∧ ou s' c = k ∧ Nb n MV o0 s' c ∧ meas s' = meas s := by
  intro j
  induction j with
  | zero =>
    intro d s hd h hck hN
    refine ⟨s, rfl, h, hck, ?_, rfl⟩
    intro m hm ⟨d', hd', ha⟩ ho
    rw [hck]
    exact hN d' (by omega) m hm ha ho
  | succ j ih =>
    intro d s hd h hck hN
    obtain ⟨m, ok, hmv, hok⟩ := hMV c d hc (by omega)
    rw [dirsP, hmv]
    simp only [Option.bind_some]
    cases ok with
    | false =>
      rw [if_neg (by decide)]
      obtain ⟨s', h1, h2⟩ := ih (d + 1) s (by omega) h hck (fun d' hd' m' hm' ha ho => by
        by_cases e : d' = d
        · subst e
          rw [hmv] at ha
          simp at ha
        · exact hN d' (by omega) m' hm' ha ho)
      exact ⟨s', h1, h2⟩
    | true =>
      have hr := hok rfl
      obtain ⟨m, rfl⟩ : ∃ mn : Nat, m = mn := ⟨m.toNat, by omega⟩
      have hmn : m < n := by omega
      rw [if_pos rfl, if_pos hr]
      rw [show s.1.getD ((c : Int)).toNat 0 = k from hck, Int.toNat_natCast, wsm' _ (by omega) (by omega)]
      obtain ⟨r1, r2, r3, r4⟩ := reach_step h hk hc hck hmn ⟨d, by omega, hmv⟩
      obtain ⟨s', h1, h2, h3, h4, h5⟩ := ih (d + 1) (reachP m (k + 1) s) (by omega) r1 r2 (fun d' hd' m' hm' ha ho => by
        by_cases e : d' = d
        · subst e
          rw [hmv] at ha
          simp at ha
          have : m = m' := by omega
          subst this
          exact r3 ho
        · have := hN d' (by omega) m' hm' ha ho
          rw [r4 m' hm' this.1]
          exact this)
      refine ⟨s', h1, h2, h3, h4, h5.trans ?_⟩
      exact reach_meas
theorem pop_step {s : St} {k : Int} {c : Int} {q : List Int} (h : Bk n MV o0 fr s k (fun _ => False)) (hk : 0 ≤ k) (hq : s.2.2 = c :: q) :
    ∃ cn : Nat, c = (cn : Int) ∧ cn < n ∧ ∃ k1, (k1 = k ∨ k1 = k + 1) ∧ ou s cn = k1 ∧ Bk n MV o0 fr (s.1, s.2.1, q) k1 (fun x => x = cn) := by
  obtain ⟨cn, hcn, rfl, h0⟩ := h.b6 c (by rw [hq]; exact List.mem_cons_self ..)
  have base : B0 n MV o0 fr (s.1, s.2.1, q) := ⟨h.l1, h.l2, h.b2, h.b3, h.b3', h.b4, h.b5, fun x hx => h.b6 x (by rw [hq]; exact List.mem_cons_of_mem _ hx)⟩
  have b9 : ∀ x, x < n → 0 ≤ ou (s.1, s.2.1, q) x → (x : Int) ∉ q → ¬ x = cn → Nb n MV o0 (s.1, s.2.1, q) x := fun x hx hx0 hxq hxc => h.b9 x hx hx0 (by
    rw [hq]
    intro hh
    rcases List.mem_cons.1 hh with hh | hh
    · exact hxc (by omega)
    · exact hxq hh) (fun hh => hh)
  obtain ⟨q1, q2, e, h1, h2⟩ := h.b7
  rw [hq] at e
  refine ⟨cn, rfl, hcn, ?_⟩
  cases q1 with
  | cons y q1 =>
    rw [List.cons_append, List.cons.injEq] at e
    obtain ⟨e1, e2⟩ := e
    subst e1
    exact ⟨k, .inl rfl, h1 cn (List.mem_cons_self ..), base, ⟨q1, q2, e2, fun y hy => h1 y (List.mem_cons_of_mem _ hy), h2⟩, h.b8, b9⟩
  | nil =>
    rw [List.nil_append] at e
    subst e
    exact ⟨k + 1, .inr rfl, h2 cn (List.mem_cons_self ..), base, ⟨q, [], by simp, fun y hy => h2 y (List.mem_cons_of_mem _ hy), fun y hy => by cases hy⟩, fun x hx => by have := h.b8 x hx; show ou s x ≤ _; omega, b9⟩
theorem bfs_all (hMV : Moves n MV) : ∀ (fuel : Nat) (s : St) (k : Int), Bk n MV o0 fr s k (fun _ => False) → 0 ≤ k → k + fuel ≤ 1000000000 → meas s + 1 ≤ fuel →
    ∃ s' k', bfsP MV n fuel s = some s'.1 ∧ Bk n MV o0 fr s' k' (fun _ => False) ∧ s'.2.2 = [] ∧ k' ≤ k + fuel := by
  intro fuel
  induction fuel with
  | zero => intro s k _ _ _ h; omega
  | succ fuel ih =>
    intro s k h hk hkf hm
    rw [bfsP]
    cases hq : s.2.2 with
    | nil => exact ⟨s, k, rfl, h, hq, by omega⟩
    | cons c q =>
      obtain ⟨cn, rfl, hcn, k1, hk1, hck, hB⟩ := pop_step h hk hq
      obtain ⟨s2, h1, h2, h3, h4, h5⟩ := dirs_all hMV (k := k1) (by omega) (by omega) hcn 6 0 (s.1, s.2.1, q) (by omega) hB hck (fun d' hd' => by omega)
      dsimp only
      rw [h1]
      simp only [Option.bind_some]
      have hB2 : Bk n MV o0 fr s2 k1 (fun _ => False) := ⟨h2.toB0, h2.b7, h2.b8, fun x hx hx0 hxq _ => by
        by_cases e : x = cn
        · subst e
          exact h4
        · exact h2.b9 x hx hx0 hxq e⟩
      obtain ⟨s', k', g1, g2, g3, g4⟩ := ih s2 k1 hB2 (by omega) (by omega) (by
        rw [h5]
        unfold meas at hm ⊢
        rw [hq] at hm
        simp only [List.length_cons] at hm
        show q.length + s.2.1.count true + 1 ≤ fuel
        omega)
      exact ⟨s', k', g1, g2, g3, by omega⟩

/-- Through the loop over the cells to begin with. -/
structure Fk (n : Nat) (o0 : List Bool) (l : List Int) (s : St) : Prop where
  l1 : s.1.length = n
  l2 : s.2.1.length = n
  b2 : ∀ c, c < n → op s c = true → o0.getD c false = true
  b3 : ∀ c, c < n → (0 ≤ ou s c ↔ o0.getD c false = true ∧ op s c = false)
  b3' : ∀ c, c < n → ¬ 0 ≤ ou s c → ou s c = -1
  b4 : ∀ c, c < n → (ou s c = 0 ↔ o0.getD c false = true ∧ (c : Int) ∈ l)
  z : ∀ c, c < n → 0 ≤ ou s c → ou s c = 0 ∧ (c : Int) ∈ s.2.2
  b6 : ∀ x ∈ s.2.2, ∃ c : Nat, c < n ∧ x = (c : Int) ∧ 0 ≤ ou s c
theorem from_one {l : List Int} {s : St} (h : Fk n o0 l s) (y : Int) : Fk n o0 (l ++ [y]) (if 0 ≤ y ∧ y < (n : Int) then reachP y.toNat 0 s else s) ∧ meas (if 0 ≤ y ∧ y < (n : Int) then reachP y.toNat 0 s else s) = meas s := by
  by_cases hy : 0 ≤ y ∧ y < (n : Int)
  · rw [if_pos hy]
    refine ⟨?_, reach_meas⟩
    obtain ⟨m, rfl⟩ : ∃ mn : Nat, y = mn := ⟨y.toNat, by omega⟩
    have hm : m < n := by omega
    rw [Int.toNat_natCast]
    unfold reachP
    by_cases ho : s.2.1[m]? = some true
    · rw [if_pos ho]
      rw [op_iff (by rw [h.l2]; exact hm)] at ho
      have hom := h.b2 m hm ho
      have hneg : ¬ 0 ≤ ou s m := fun hh => by
        have := ((h.b3 m hm).1 hh).2
        rw [ho] at this
        cases this
      have hou : ∀ x, ou (s.1.set m 0, s.2.1.set m false, s.2.2 ++ [(m : Int)]) x = if m = x then 0 else ou s x := fun x => getD_set _ _ _ _ _ (by rw [h.l1]; exact hm)
      have hop : ∀ x, op (s.1.set m 0, s.2.1.set m false, s.2.2 ++ [(m : Int)]) x = if m = x then false else op s x := fun x => getD_set _ _ _ _ _ (by rw [h.l2]; exact hm)
      refine ⟨by simp [h.l1], by simp [h.l2], ?_, ?_, ?_, ?_, ?_, ?_⟩
      · intro x hx hh
        rw [hop] at hh
        split at hh
        · cases hh
        · exact h.b2 x hx hh
      · intro x hx
        rw [hou, hop]
        by_cases e : m = x
        · subst e
          rw [if_pos rfl, if_pos rfl]
          exact ⟨fun _ => ⟨hom, rfl⟩, fun _ => by omega⟩
        · rw [if_neg e, if_neg e]
          exact h.b3 x hx
      · intro x hx hh
        rw [hou] at hh ⊢
        by_cases e : m = x
        · rw [if_pos e] at hh
          omega
        · rw [if_neg e] at hh ⊢
          exact h.b3' x hx hh
      · intro x hx
        rw [hou]
        by_cases e : m = x
        · subst e
          rw [if_pos rfl]
          exact ⟨fun _ => ⟨hom, List.mem_append_right _ (List.mem_singleton.2 rfl)⟩, fun _ => rfl⟩
        · rw [if_neg e, h.b4 x hx]
          constructor
          · exact fun hh => ⟨hh.1, List.mem_append_left _ hh.2⟩
          · intro hh
            refine ⟨hh.1, ?_⟩
            rcases List.mem_append.1 hh.2 with h1 | h1
            · exact h1
            · exact absurd (by have := List.mem_singleton.1 h1; omega) e
      · intro x hx hh
        rw [hou] at hh ⊢
        by_cases e : m = x
        · subst e
          rw [if_pos rfl]
          exact ⟨rfl, List.mem_append_right _ (List.mem_singleton.2 rfl)⟩
        · rw [if_neg e] at hh ⊢
          have := h.z x hx hh
          exact ⟨this.1, List.mem_append_left _ this.2⟩
      · intro x hx
        rcases List.mem_append.1 hx with h1 | h1
        · obtain ⟨z, hz, rfl, h0⟩ := h.b6 x h1
          refine ⟨z, hz, rfl, ?_⟩
          rw [hou]
          split
          · omega
          · exact h0
        · refine ⟨m, hm, List.mem_singleton.1 h1, ?_⟩
          rw [hou, if_pos rfl]
          omega
    · rw [if_neg ho]
      have hof : op s m = false := by
        cases hb : op s m
        · rfl
        · exact absurd ((op_iff (by rw [h.l2]; exact hm)).2 hb) ho
      refine ⟨h.l1, h.l2, h.b2, h.b3, h.b3', fun x hx => ?_, h.z, h.b6⟩
      rw [h.b4 x hx]
      constructor
      · exact fun hh => ⟨hh.1, List.mem_append_left _ hh.2⟩
      · intro hh
        refine ⟨hh.1, ?_⟩
        rcases List.mem_append.1 hh.2 with h1 | h1
        · exact h1
        · have : x = m := by have := List.mem_singleton.1 h1; omega
          subst this
          have h0 := (h.b3 x hx).2 ⟨hh.1, hof⟩
          exact ((h.b4 x hx).1 (h.z x hx h0).1).2
  · rw [if_neg hy]
    refine ⟨⟨h.l1, h.l2, h.b2, h.b3, h.b3', fun x hx => ?_, h.z, h.b6⟩, rfl⟩
    rw [h.b4 x hx]
    constructor
    · exact fun hh => ⟨hh.1, List.mem_append_left _ hh.2⟩
    · intro hh
      refine ⟨hh.1, ?_⟩
      rcases List.mem_append.1 hh.2 with h1 | h1
      · exact h1
      · have := List.mem_singleton.1 h1
        omega
theorem from_all : ∀ (l2 l : List Int) (s : St), Fk n o0 l s → Fk n o0 (l ++ l2) (fromP n s l2) ∧ meas (fromP n s l2) = meas s := by
  intro l2
  induction l2 with
  | nil => intro l s h; exact ⟨by simpa [fromP] using h, rfl⟩
  | cons y l2 ih =>
    intro l s h
    have h1 := from_one h y
    have h2 := ih (l ++ [y]) _ h1.1
    rw [List.append_assoc] at h2
    exact ⟨h2.1, h2.2.trans h1.2⟩
theorem Fk.start (ho : o0.length = n) : Fk n o0 [] (List.replicate n (-1), o0, []) := by
  have hou : ∀ x, x < n → ou (List.replicate n (-1), o0, []) x = -1 := fun x hx => by
    unfold ou
    rw [List.getD_eq_getElem?_getD, List.getElem?_replicate, if_pos hx]
    rfl
  refine ⟨by simp, ho, fun c hc h => h, fun c hc => ?_, fun c hc _ => hou c hc, fun c hc => ?_, fun c hc h => ?_, fun x hx => by cases hx⟩
  · rw [hou c hc]
    constructor
    · intro h; omega
    · intro h
      exfalso
      have h1 := h.1
      have h2 : o0.getD c false = false := h.2
      rw [h1] at h2
      cases h2
  · rw [hou c hc]
    constructor
    · intro h; omega
    · intro h; cases h.2
  · rw [hou c hc] at h
    omega
/-- What the distances are. -/
structure DistOf (n : Nat) (MV : Int → Int → Option (Int × Bool)) (o0 : List Bool) (from_ : List Int) (r : List Int) : Prop where
  len : r.length = n
  small : ∀ c, c < n → r.getD c 0 ≤ n + 2
  neg : ∀ c, c < n → ¬ 0 ≤ r.getD c 0 → r.getD c 0 = -1
  shut : ∀ c, c < n → 0 ≤ r.getD c 0 → o0.getD c false = true
  zero : ∀ c, c < n → (r.getD c 0 = 0 ↔ o0.getD c false = true ∧ (c : Int) ∈ from_)
  next : ∀ c m, c < n → m < n → 0 ≤ r.getD c 0 → Adj MV c m → o0.getD m false = true → 0 ≤ r.getD m 0 ∧ r.getD m 0 ≤ r.getD c 0 + 1
  prev : ∀ c, c < n → 0 < r.getD c 0 → ∃ p, p < n ∧ r.getD p 0 = r.getD c 0 - 1 ∧ Adj MV p c
theorem spread_dist (hMV : Moves n MV) (hn : n ≤ 1000000) (K from_ avoid : List Int) (hK : K.length = n) :
    ∃ r, spreadP MV (n + 1) n K from_ avoid = some r ∧ DistOf n MV (avoidP n (openP K) avoid) from_ r := by
  have ho : (avoidP n (openP K) avoid).length = n := by rw [avoidP_length]; simp [openP, hK]
  have hs := from_all from_ [] _ (Fk.start (n := n) ho)
  rw [List.nil_append] at hs
  obtain ⟨hF, hM⟩ := hs
  have hm0 : meas ((List.replicate n (-1), avoidP n (openP K) avoid, []) : St) ≤ n := by
    have := List.count_le_length (a := true) (l := avoidP n (openP K) avoid)
    unfold meas
    simp only [List.length_nil]
    omega
  have hB : Bk n MV (avoidP n (openP K) avoid) (fun c => (c : Int) ∈ from_) (fromP n (List.replicate n (-1), avoidP n (openP K) avoid, []) from_) 0 (fun _ => False) := by
    refine ⟨⟨hF.l1, hF.l2, hF.b2, hF.b3, hF.b3', hF.b4, fun c hc h => ?_, hF.b6⟩, ⟨_, [], (List.append_nil _).symm, fun c hc => ?_, fun c hc => by cases hc⟩, fun c hc => ?_, fun c hc h0 hq _ => absurd (hF.z c hc h0).2 hq⟩
    · have := (hF.z c hc (by omega)).1
      omega
    · obtain ⟨z, hz, e, h0⟩ := hF.b6 _ hc
      have : c = z := by omega
      subst this
      exact (hF.z c hz h0).1
    · by_cases h0 : 0 ≤ ou (fromP n (List.replicate n (-1), avoidP n (openP K) avoid, []) from_) c
      · have := (hF.z c hc h0).1
        omega
      · omega
  obtain ⟨s', k', h1, h2, h3, h4⟩ := bfs_all hMV (n + 1) _ 0 hB (by omega) (by omega) (by omega)
  refine ⟨s'.1, ?_, h2.l1, fun c hc => by have := h2.b8 c hc; unfold ou at this; omega, h2.b3', fun c hc h => ((h2.b3 c hc).1 h).1, h2.b4, fun c m hc hm h0 ha hom => h2.b9 c hc h0 (by rw [h3]; exact List.not_mem_nil) (fun h => h) m hm ha hom, h2.b5⟩
  unfold spreadP
  rw [List.map_replicate]
  exact h1
end
end Go.Proofs.Ytmnncmpmhbfpcaa.P
