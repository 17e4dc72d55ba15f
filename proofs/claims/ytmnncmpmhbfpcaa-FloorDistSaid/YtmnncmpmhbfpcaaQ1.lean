/- Plainly: what is asked of the distances holds, by Next (Dist). -/
import Derived.Test.YtmnncmpmhbfpcaaP5
import Derived.Test.YtmnncmpmhbfpcaaG
namespace Go.Proofs.Ytmnncmpmhbfpcaa.P
set_option linter.unusedVariables false
set_option linter.unusedSimpArgs false
open Go.RowKit Go.Proofs.YtmnncmpmhbfpcaaW.PrintWords Go.Proofs.YtmnncmpmhbfpcaaW.PrintLast Go.Proofs.YtmnncmpmhbfpcaaW.PrintMore
open Go.Proofs.Ytmnncmpmhbfpcaa.A Go.Proofs.Ytmnncmpmhbfpcaa.H Go.Proofs.Ytmnncmpmhbfpcaa.B Go.Proofs.Ytmnncmpmhbfpcaa.S Go.Proofs.Ytmnncmpmhbfpcaa.C Go.Proofs.Ytmnncmpmhbfpcaa.D Go.Proofs.Ytmnncmpmhbfpcaa.F Go.Proofs.Ytmnncmpmhbfpcaa.G

theorem has_loop (l : List Int) (x : Int) (hl : l.length ≤ 1000000) : ∀ (m i k : Nat), i + m = l.length → m + 1 ≤ k → taquinlaw07_has.l0 k l x (i : Int) = some (decide (x ∈ l.drop i)) := by
  intro m
  induction m with
  | zero =>
    intro i k hi hk
    obtain ⟨k, rfl⟩ : ∃ j, k = j + 1 := ⟨k - 1, by omega⟩
    rw [taquinlaw07_has.l0, if_neg (by omega), List.drop_of_length_le (by omega)]
    simp
  | succ m ih =>
    intro i k hi hk
    obtain ⟨k, rfl⟩ : ∃ j, k = j + 1 := ⟨k - 1, by omega⟩
    have hlt : i < l.length := by omega
    have hrd : rd l (i : Int) = l[i] := by
      unfold rd
      rw [Int.toNat_natCast, List.getD_eq_getElem?_getD, List.getElem?_eq_getElem hlt]
      rfl
    rw [taquinlaw07_has.l0, if_pos (by omega), if_pos (by omega), hrd, List.drop_eq_getElem_cons hlt]
    by_cases h : l[i] = x
    · rw [if_pos h]
      simp [h]
    · rw [if_neg h, show wrap64 ((i : Int) + 1) = ((i + 1 : Nat) : Int) by rw [wsm _ (by omega) (by omega)]; rfl, ih (i + 1) k (by omega) (by omega)]
      have h' : ¬ x = l[i] := fun e => h e.symm
      congr 1
      rw [decide_eq_decide, List.mem_cons]
      exact ⟨fun hh => .inr hh, fun hh => hh.resolve_left h'⟩
theorem has_said (l : List Int) (x : Int) (hl : l.length ≤ 30) : taquinlaw07_has.f 5000 l x = some (decide (x ∈ l)) := by
  have := has_loop l x (by omega) l.length 0 5000 (by omega) (by omega)
  rw [List.drop_zero] at this
  exact this

theorem avoid_at (n : Nat) (avoid : List Int) : ∀ (o : List Bool), o.length = n → ∀ c, c < n → ((avoidP n o avoid).getD c false = true ↔ o.getD c false = true ∧ (c : Int) ∉ avoid) := by
  induction avoid with
  | nil => intro o ho c hc; simp [avoidP]
  | cons a l ih =>
    intro o ho c hc
    unfold avoidP
    rw [List.foldl_cons]
    by_cases ha : 0 ≤ a ∧ a < (n : Int)
    · rw [if_pos ha]
      have := ih (o.set a.toNat false) (by simpa using ho) c hc
      unfold avoidP at this
      rw [this, getD_set _ _ _ _ _ (by omega)]
      by_cases e : a.toNat = c
      · rw [if_pos e]
        have : (c : Int) = a := by omega
        simp [this]
      · rw [if_neg e]
        have : ¬ (c : Int) = a := by omega
        simp [this]
    · rw [if_neg ha]
      have := ih o ho c hc
      unfold avoidP at this
      rw [this]
      have : ¬ (c : Int) = a := by omega
      simp [this]
theorem open_at (K : List Int) (c : Nat) (hc : c < K.length) : ((openP K).getD c false = true ↔ K.getD c 0 ≠ 0) := by
  unfold openP
  rw [List.getD_eq_getElem?_getD, List.getD_eq_getElem?_getD, List.getElem?_map, List.getElem?_eq_getElem hc]
  simp
theorem mask_at (K avoid : List Int) (c : Nat) (hc : c < K.length) : ((avoidP K.length (openP K) avoid).getD c false = true ↔ K.getD c 0 ≠ 0 ∧ (c : Int) ∉ avoid) := by
  rw [avoid_at K.length avoid (openP K) (by simp [openP]) c hc, open_at K c hc]

theorem fnd_base {rc : Int} {r : List Int} {bk : Nat → Int × Bool} (h : rc ≤ 0) : ∀ d, fnd rc r bk d = true
  | 0 => decide_eq_true h
  | d + 1 => by rw [fnd, fnd_base h d]; rfl
theorem fnd_at {rc : Int} {r : List Int} {bk : Nat → Int × Bool} {j : Nat} (h1 : (bk j).2 = true) (h2 : r.getD (bk j).1.toNat 0 = wrap64 (rc - 1)) : ∀ d, j < d → fnd rc r bk d = true
  | 0, h => by omega
  | d + 1, h => by
    rw [fnd]
    by_cases e : j = d
    · subst e
      rw [h1, decide_eq_true h2]
      simp
    · rw [fnd_at h1 h2 d (by omega)]
      rfl

section
variable {W H D : Int} {K O : List Int}
theorem next_adj (G : Good W H D K O) {c d m : Int} (h : floor_Next.f 1 W H D K O c d = some (m, true)) : floor_beside.f W H D K O c d = some m ∧ 0 ≤ m ∧ okM K O c m d ∧ 0 ≤ c ∧ c < (K.length : Int) ∧ m < (K.length : Int) ∧ 0 ≤ d ∧ d < 6 ∧ m ≠ c := by
  obtain ⟨r, hb, _⟩ := beside_total G c d
  rw [next_good G 0 hb] at h
  by_cases hk : 0 ≤ r ∧ okM K O c r d
  · rw [if_pos hk] at h
    simp only [Option.some.injEq, Prod.mk.injEq, and_true] at h
    subst h
    have := beside_back G hb hk.1
    exact ⟨hb, hk.1, hk.2, this.1, this.2.1, this.2.2.1, this.2.2.2.1, this.2.2.2.2.1, this.2.2.2.2.2.1⟩
  · rw [if_neg hk] at h
    simp at h
theorem back_adj (G : Good W H D K O) {c d m : Int} (h : floor_Back.f 1 W H D K O c d = some (m, true)) : floor_Next.f 1 W H D K O m d = some (c, true) := by
  obtain ⟨r, hb, _⟩ := beside_total G c (oppI d)
  rw [back_good G 0 hb] at h
  by_cases hk : 0 ≤ r ∧ okM K O r c d
  · rw [if_pos hk] at h
    simp only [Option.some.injEq, Prod.mk.injEq, and_true] at h
    subst h
    obtain ⟨c0, c1, r1, d0, d1, _, hb2⟩ := beside_back G hb hk.1
    have hd : 0 ≤ d ∧ d < 6 := by
      refine Decidable.byContradiction fun hh => ?_
      rw [opp_out hh] at d0
      omega
    rw [(opp_steps hd.1 hd.2).2.2.2.2.2.1] at hb2
    have hn := next_good G 0 hb2
    rw [if_pos ⟨c0, hk.2⟩] at hn
    exact hn
  · rw [if_neg hk] at h
    simp at h
theorem adj_back (G : Good W H D K O) {c d m : Int} (h : floor_Next.f 1 W H D K O c d = some (m, true)) : floor_Back.f 1 W H D K O m d = some (c, true) := by
  obtain ⟨hb, m0, hok, c0, _, _, d0, d1, _⟩ := next_adj G h
  have hb2 := (beside_back G hb m0).2.2.2.2.2.2
  have := back_good G 0 (c := m) (d := d) hb2
  rw [if_pos ⟨c0, hok⟩] at this
  exact this
theorem next_total (G : Good W H D K O) (c d : Int) : ∃ m ok, floor_Next.f 1 W H D K O c d = some (m, ok) := by
  obtain ⟨r, hb, _⟩ := beside_total G c d
  rw [next_good G 0 hb]
  by_cases hk : 0 ≤ r ∧ okM K O c r d
  · rw [if_pos hk]; exact ⟨_, _, rfl⟩
  · rw [if_neg hk]; exact ⟨_, _, rfl⟩
theorem back_total (G : Good W H D K O) (c d : Int) : ∃ m ok, floor_Back.f 1 W H D K O c d = some (m, ok) := by
  obtain ⟨r, hb, _⟩ := beside_total G c (oppI d)
  rw [back_good G 0 hb]
  by_cases hk : 0 ≤ r ∧ okM K O r c d
  · rw [if_pos hk]; exact ⟨_, _, rfl⟩
  · rw [if_neg hk]; exact ⟨_, _, rfl⟩
theorem moves_next (G : Good W H D K O) : Moves K.length (floor_Next.f 1 W H D K O) := by
  intro c d hc hd
  obtain ⟨m, ok, h⟩ := next_total G c d
  refine ⟨m, ok, h, fun e => ?_⟩
  subst e
  have := next_adj G h
  exact ⟨this.2.1, this.2.2.2.2.2.1⟩
theorem moves_back (G : Good W H D K O) : Moves K.length (floor_Back.f 1 W H D K O) := by
  intro c d hc hd
  obtain ⟨m, ok, h⟩ := back_total G c d
  refine ⟨m, ok, h, fun e => ?_⟩
  subst e
  have := next_adj G (back_adj G h)
  exact ⟨by omega, by omega⟩
theorem Good.len1 (G : Good W H D K O) : 1 ≤ K.length := by
  have := Int.mul_le_mul G.wh.1 G.d1 (by omega) (by have := G.wh; omega)
  have := G.n
  omega
theorem rd_nat (l : List Int) (c : Nat) : rd l (c : Int) = l.getD c 0 := by unfold rd; rw [Int.toNat_natCast]

/-- The distances of Dist. -/
theorem dist_good (G : Good W H D K O) (l1 l2 : List Int) : ∃ r, floor_Dist.f W H D K O l1 l2 = some r ∧ DistOf K.length (floor_Next.f 1 W H D K O) (avoidP K.length (openP K) l2) l1 r := by
  have hn := G.n2
  obtain ⟨r, h1, h2⟩ := spread_dist (moves_next G) (by omega) K l1 l2 rfl
  refine ⟨r, ?_, h2⟩
  unfold floor_Dist.f floor_spreadNext.f
  rw [if_pos ⟨G.len1, by omega, size_good G⟩, h1]
  rfl
theorem asked (G : Good W H D K O) (l1 l2 : List Int) (r : List Int) (h : DistOf K.length (floor_Next.f 1 W H D K O) (avoidP K.length (openP K) l2) l1 r) : Asked W H D K O l1 l2 r := by
  have hn := G.n2
  refine ⟨h.len, fun c hc => ?_, fun c hc => ?_, fun c hc hno => ?_, fun c d hc hd => ?_, fun c hc => ?_⟩
  · have := h.small c hc
    have := h.neg c hc
    omega
  · rw [h.zero c hc, mask_at K l2 c hc, and_assoc]
  · refine h.neg c hc fun h0 => hno ?_
    exact (mask_at K l2 c hc).1 (h.shut c hc h0)
  · obtain ⟨m, ok, hm⟩ := next_total G c d
    refine ⟨(m, ok), hm, fun e => ?_⟩
    have e' : ok = true := e
    subst e'
    obtain ⟨_, m0, hok, _, _, m1, _⟩ := next_adj G hm
    obtain ⟨mn, rfl⟩ : ∃ mn : Nat, m = mn := ⟨m.toNat, by omega⟩
    refine ⟨mn, rfl, by omega, fun h0 hav => h.next c mn hc (by omega) h0 ⟨d, hd, hm⟩ ((mask_at K l2 mn (by omega)).2 ⟨?_, hav⟩)⟩
    have := hok.2.1
    rwa [rd_nat] at this
  · refine ⟨fun d => (floor_Back.f 1 W H D K O c d).getD (0, false), fun d hd => ?_, ?_⟩
    · obtain ⟨m, ok, hm⟩ := back_total G c d
      dsimp only
      rw [hm]
      refine ⟨rfl, fun e => ?_⟩
      have e' : ok = true := e
      subst e'
      have := next_adj G (back_adj G hm)
      exact ⟨m.toNat, by simp only [Option.getD_some]; omega, by omega⟩
    · by_cases h0 : r.getD c 0 ≤ 0
      · exact fnd_base h0 6
      · obtain ⟨p, hp, hpr, d, hd, ha⟩ := h.prev c hc (by omega)
        have hb := adj_back G ha
        refine fnd_at (j := d) ?_ ?_ 6 hd
        · rw [hb]
          rfl
        · rw [hb]
          simp only [Option.getD_some, Int.toNat_natCast]
          have := h.small c hc
          rw [hpr, wsm _ (by omega) (by omega)]
end
end Go.Proofs.Ytmnncmpmhbfpcaa.P
