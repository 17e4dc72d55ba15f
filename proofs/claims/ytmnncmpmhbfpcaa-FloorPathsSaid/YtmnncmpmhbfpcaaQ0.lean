/- Plainly: has; what is open; Next and Back as adjacency; the distances of Dist; the way that Path returns. -/
import Derived.Test.YtmnncmpmhbfpcaaP5
import Derived.Test.YtmnncmpmhbfpcaaF
import Derived.Test.YtmnncmpmhbfpcaaP2
namespace Go.Proofs.Ytmnncmpmhbfpcaa.P
set_option linter.unusedVariables false
set_option linter.unusedSimpArgs false
open Go.RowKit Go.Proofs.YtmnncmpmhbfpcaaW.PrintWords Go.Proofs.YtmnncmpmhbfpcaaW.PrintLast Go.Proofs.YtmnncmpmhbfpcaaW.PrintMore
open Go.Proofs.Ytmnncmpmhbfpcaa.A Go.Proofs.Ytmnncmpmhbfpcaa.H Go.Proofs.Ytmnncmpmhbfpcaa.B Go.Proofs.Ytmnncmpmhbfpcaa.S Go.Proofs.Ytmnncmpmhbfpcaa.C Go.Proofs.Ytmnncmpmhbfpcaa.D Go.Proofs.Ytmnncmpmhbfpcaa.F

theorem has_loop (l : List Int) (x : Int) (hl : l.length ≤ 1000000) : ∀ (m i k : Nat), i + m = l.length → m + 1 ≤ k → taquinlaw07_has.l0 k l x (i : Int) = some (decide (x ∈ l.drop i)) := by
  intro m
  induction m with
  | zero =>
    intro i k hi hk
    obtain ⟨k, rfl⟩ : ∃ j, k = j + 1 := ⟨k - 1, by omega⟩
    rw [taquinlaw07_has.l0, if_neg (by omega), List.drop_of_length_le (by omega)]
    simp
  | succ m ih =>
    intro i k hi hk
    obtain ⟨k, rfl⟩ : ∃ j, k = j + 1 := ⟨k - 1, by omega⟩
    have hlt : i < l.length := by omega
    have hrd : rd l (i : Int) = l[i] := by
      unfold rd
      rw [Int.toNat_natCast, List.getD_eq_getElem?_getD, List.getElem?_eq_getElem hlt]
      rfl
    rw [taquinlaw07_has.l0, if_pos (by omega), if_pos (by omega), hrd, List.drop_eq_getElem_cons hlt]
    by_cases h : l[i] = x
    · rw [if_pos h]
      simp [h]
    · rw [if_neg h, show wrap64 ((i : Int) + 1) = ((i + 1 : Nat) : Int) by rw [wsm _ (by omega) (by omega)]; rfl, ih (i + 1) k (by omega) (by omega)]
      have h' : ¬ x = l[i] := fun e => h e.symm
      congr 1
      rw [decide_eq_decide, List.mem_cons]
      exact ⟨fun hh => .inr hh, fun hh => hh.resolve_left h'⟩
theorem has_said (l : List Int) (x : Int) (hl : l.length ≤ 30) : taquinlaw07_has.f 5000 l x = some (decide (x ∈ l)) := by
  have := has_loop l x (by omega) l.length 0 5000 (by omega) (by omega)
  rw [List.drop_zero] at this
  exact this

theorem avoid_at (n : Nat) (avoid : List Int) : ∀ (o : List Bool), o.length = n → ∀ c, c < n → ((avoidP n o avoid).getD c false = true ↔ o.getD c false = true ∧ (c : Int) ∉ avoid) := by
  induction avoid with
  | nil => intro o ho c hc; simp [avoidP]
  | cons a l ih =>
    intro o ho c hc
    unfold avoidP
    rw [List.foldl_cons]
    by_cases ha : 0 ≤ a ∧ a < (n : Int)
    · rw [if_pos ha]
      have := ih (o.set a.toNat false) (by simpa using ho) c hc
      unfold avoidP at this
      rw [this, getD_set _ _ _ _ _ (by omega)]
      by_cases e : a.toNat = c
      · rw [if_pos e]
        have : (c : Int) = a := by omega
        simp [this]
      · rw [if_neg e]
        have : ¬ (c : Int) = a := by omega
        simp [this]
    · rw [if_neg ha]
      have := ih o ho c hc
      unfold avoidP at this
      rw [this]
      have : ¬ (c : Int) = a := by omega
      simp [this]
theorem open_at (K : List Int) (c : Nat) (hc : c < K.length) : ((openP K).getD c false = true ↔ K.getD c 0 ≠ 0) := by
  unfold openP
  rw [List.getD_eq_getElem?_getD, List.getD_eq_getElem?_getD, List.getElem?_map, List.getElem?_eq_getElem hc]
  simp
theorem mask_at (K avoid : List Int) (c : Nat) (hc : c < K.length) : ((avoidP K.length (openP K) avoid).getD c false = true ↔ K.getD c 0 ≠ 0 ∧ (c : Int) ∉ avoid) := by
  rw [avoid_at K.length avoid (openP K) (by simp [openP]) c hc, open_at K c hc]

section
variable {W H D : Int} {K O : List Int}
theorem next_adj (G : Good W H D K O) {c d m : Int} (h : floor_Next.f 1 W H D K O c d = some (m, true)) : floor_beside.f W H D K O c d = some m ∧ 0 ≤ m ∧ okM K O c m d ∧ 0 ≤ c ∧ c < (K.length : Int) ∧ m < (K.length : Int) ∧ 0 ≤ d ∧ d < 6 ∧ m ≠ c := by
  obtain ⟨r, hb, _⟩ := beside_total G c d
  rw [next_good G 0 hb] at h
  by_cases hk : 0 ≤ r ∧ okM K O c r d
  · rw [if_pos hk] at h
    simp only [Option.some.injEq, Prod.mk.injEq, and_true] at h
    subst h
    have := beside_back G hb hk.1
    exact ⟨hb, hk.1, hk.2, this.1, this.2.1, this.2.2.1, this.2.2.2.1, this.2.2.2.2.1, this.2.2.2.2.2.1⟩
  · rw [if_neg hk] at h
    simp at h
theorem back_adj (G : Good W H D K O) {c d m : Int} (h : floor_Back.f 1 W H D K O c d = some (m, true)) : floor_Next.f 1 W H D K O m d = some (c, true) := by
  obtain ⟨r, hb, _⟩ := beside_total G c (oppI d)
  rw [back_good G 0 hb] at h
  by_cases hk : 0 ≤ r ∧ okM K O r c d
  · rw [if_pos hk] at h
    simp only [Option.some.injEq, Prod.mk.injEq, and_true] at h
    subst h
    obtain ⟨c0, c1, r1, d0, d1, _, hb2⟩ := beside_back G hb hk.1
    have hd : 0 ≤ d ∧ d < 6 := by
      refine Decidable.byContradiction fun hh => ?_
      rw [opp_out hh] at d0
      omega
    rw [(opp_steps hd.1 hd.2).2.2.2.2.2.1] at hb2
    have hn := next_good G 0 hb2
    rw [if_pos ⟨c0, hk.2⟩] at hn
    exact hn
  · rw [if_neg hk] at h
    simp at h
theorem adj_back (G : Good W H D K O) {c d m : Int} (h : floor_Next.f 1 W H D K O c d = some (m, true)) : floor_Back.f 1 W H D K O m d = some (c, true) := by
  obtain ⟨hb, m0, hok, c0, _, _, d0, d1, _⟩ := next_adj G h
  have hb2 := (beside_back G hb m0).2.2.2.2.2.2
  have := back_good G 0 (c := m) (d := d) hb2
  rw [if_pos ⟨c0, hok⟩] at this
  exact this
theorem next_total (G : Good W H D K O) (c d : Int) : ∃ m ok, floor_Next.f 1 W H D K O c d = some (m, ok) := by
  obtain ⟨r, hb, _⟩ := beside_total G c d
  rw [next_good G 0 hb]
  by_cases hk : 0 ≤ r ∧ okM K O c r d
  · rw [if_pos hk]; exact ⟨_, _, rfl⟩
  · rw [if_neg hk]; exact ⟨_, _, rfl⟩
theorem back_total (G : Good W H D K O) (c d : Int) : ∃ m ok, floor_Back.f 1 W H D K O c d = some (m, ok) := by
  obtain ⟨r, hb, _⟩ := beside_total G c (oppI d)
  rw [back_good G 0 hb]
  by_cases hk : 0 ≤ r ∧ okM K O r c d
  · rw [if_pos hk]; exact ⟨_, _, rfl⟩
  · rw [if_neg hk]; exact ⟨_, _, rfl⟩
theorem moves_next (G : Good W H D K O) : Moves K.length (floor_Next.f 1 W H D K O) := by
  intro c d hc hd
  obtain ⟨m, ok, h⟩ := next_total G c d
  refine ⟨m, ok, h, fun e => ?_⟩
  subst e
  have := next_adj G h
  exact ⟨this.2.1, this.2.2.2.2.2.1⟩
theorem moves_back (G : Good W H D K O) : Moves K.length (floor_Back.f 1 W H D K O) := by
  intro c d hc hd
  obtain ⟨m, ok, h⟩ := back_total G c d
  refine ⟨m, ok, h, fun e => ?_⟩
  subst e
  have := next_adj G (back_adj G h)
  exact ⟨by omega, by omega⟩
theorem Good.len1 (G : Good W H D K O) : 1 ≤ K.length := by
  have := Int.mul_le_mul G.wh.1 G.d1 (by omega) (by have := G.wh; omega)
  have := G.n
  omega
theorem rd_nat (l : List Int) (c : Nat) : rd l (c : Int) = l.getD c 0 := by unfold rd; rw [Int.toNat_natCast]

/-- The distances of Dist. -/
theorem dist_good (G : Good W H D K O) (l1 l2 : List Int) : ∃ r, floor_Dist.f W H D K O l1 l2 = some r ∧ DistOf K.length (floor_Next.f 1 W H D K O) (avoidP K.length (openP K) l2) l1 r := by
  have hn := G.n2
  obtain ⟨r, h1, h2⟩ := spread_dist (moves_next G) (by omega) K l1 l2 rfl
  refine ⟨r, ?_, h2⟩
  unfold floor_Dist.f floor_spreadNext.f
  rw [if_pos ⟨G.len1, by omega, size_good G⟩, h1]
  rfl
end
section
variable {n : Nat} {MV MV' : Int → Int → Option (Int × Bool)} {o0 : List Bool} {s t : Nat} {r r' : List Int}
theorem dist_dual (h : DistOf n MV o0 [(s : Int)] r) (h' : DistOf n MV' o0 [(t : Int)] r') (hadj : ∀ c m, c < n → m < n → Adj MV c m → Adj MV' m c) : ∀ (k c : Nat), c < n → r.getD c 0 = k → 0 ≤ r'.getD c 0 → 0 ≤ r'.getD s 0 ∧ r'.getD s 0 ≤ r'.getD c 0 + k := by
  intro k
  induction k with
  | zero =>
    intro c hc h0 h1
    have := ((h.zero c hc).1 h0).2
    rw [List.mem_singleton] at this
    have : c = s := by omega
    subst this
    exact ⟨h1, by omega⟩
  | succ k ih =>
    intro c hc h0 h1
    obtain ⟨p, hp, hpr, ha⟩ := h.prev c hc (by omega)
    have hop := h.shut p hp (by omega)
    obtain ⟨g1, g2⟩ := h'.next c p hc hp h1 (hadj p c hp hc ha) hop
    obtain ⟨g3, g4⟩ := ih p hp (by omega) g1
    exact ⟨g3, by omega⟩
theorem dual_le (hs : s < n) (ht : t < n) (h : DistOf n MV o0 [(s : Int)] r) (h' : DistOf n MV' o0 [(t : Int)] r') (hadj : ∀ c m, c < n → m < n → Adj MV c m → Adj MV' m c) (h0 : 0 ≤ r.getD t 0) : 0 ≤ r'.getD s 0 ∧ r'.getD s 0 ≤ r.getD t 0 := by
  have ho := h.shut t ht h0
  have hz := (h'.zero t ht).2 ⟨ho, by simp⟩
  have := dist_dual h h' hadj (r.getD t 0).toNat t ht (by omega) (by omega)
  omega
theorem dual_eq (hs : s < n) (ht : t < n) (h : DistOf n MV o0 [(s : Int)] r) (h' : DistOf n MV' o0 [(t : Int)] r') (hadj : ∀ c m, c < n → m < n → Adj MV c m → Adj MV' m c) (hadj' : ∀ c m, c < n → m < n → Adj MV' c m → Adj MV m c) : r.getD t 0 = r'.getD s 0 := by
  by_cases h0 : 0 ≤ r.getD t 0
  · have h1 := dual_le hs ht h h' hadj h0
    have h2 := dual_le ht hs h' h hadj' h1.1
    omega
  · by_cases h1 : 0 ≤ r'.getD s 0
    · exact absurd (dual_le ht hs h' h hadj' h1).1 h0
    · rw [h.neg t ht h0, h'.neg s hs h1]
end

section
variable {W H D : Int} {K O : List Int}
theorem next_any (G : Good W H D K O) (k : Nat) (c d : Int) : floor_Next.f (k + 1) W H D K O c d = floor_Next.f 1 W H D K O c d := by
  obtain ⟨r, hb, _⟩ := beside_total G c d
  rw [next_good G k hb, next_good G 0 hb]
theorem adj_nb (G : Good W H D K O) {c m : Nat} (h : Adj (floor_Next.f 1 W H D K O) c m) : Adj (floor_Back.f 1 W H D K O) m c := by
  obtain ⟨d, hd, h⟩ := h
  exact ⟨d, hd, adj_back G h⟩
theorem adj_bn (G : Good W H D K O) {c m : Nat} (h : Adj (floor_Back.f 1 W H D K O) c m) : Adj (floor_Next.f 1 W H D K O) m c := by
  obtain ⟨d, hd, h⟩ := h
  exact ⟨d, hd, back_adj G h⟩

/-- A step of the way: by the least direction that leads one nearer. -/
def Step (W H D : Int) (K O left : List Int) (c m : Int) : Prop :=
  0 ≤ m ∧ m < (K.length : Int) ∧ left.getD m.toNat 0 = left.getD c.toNat 0 - 1 ∧
  ∃ d0 : Nat, d0 < 6 ∧ floor_Next.f 1 W H D K O c d0 = some (m, true) ∧ ∀ d : Nat, d < d0 → ∀ m' : Int, floor_Next.f 1 W H D K O c d = some (m', true) → left.getD m'.toNat 0 ≠ left.getD c.toNat 0 - 1
def WayP (W H D : Int) (K O left : List Int) : Int → List Int → Prop
  | c, [] => left.getD c.toNat 0 = 0
  | c, m :: q => Step W H D K O left c m ∧ WayP W H D K O left m q

theorem path_dirs (G : Good W H D K O) {left : List Int} (hlen : left.length = K.length) (hsm : ∀ c, c < K.length → -1 ≤ left.getD c 0 ∧ left.getD c 0 ≤ 1000000) {c : Nat} (hc : c < K.length) (pre : List Int) (hpre : pre.length < 17592186044416) :
    ∀ (m d k : Nat), d + m = 6 → m + 3 ≤ k →
    (∀ d' : Nat, d' < d → ∀ m' : Int, floor_Next.f 1 W H D K O c d' = some (m', true) → left.getD m'.toNat 0 ≠ left.getD c 0 - 1) →
    (∃ d' : Nat, d' < 6 ∧ ∃ m' : Int, floor_Next.f 1 W H D K O c d' = some (m', true) ∧ left.getD m'.toNat 0 = left.getD c 0 - 1) →
    ∃ x k', k ≤ k' + m + 1 ∧ Step W H D K O left c x ∧ floor_Path.l1 k left pre c d W H D K O = floor_Path.l0 k' left (pre ++ [x]) x W H D K O := by
  intro m
  induction m with
  | zero =>
    intro d k hd hmk hno hex
    obtain ⟨d', hd', m', h1, h2⟩ := hex
    exact absurd h2 (hno d' (by omega) m' h1)
  | succ m ih =>
    intro d k hd hmk hno hex
    obtain ⟨k, rfl⟩ : ∃ j, k = j + 1 + 1 := ⟨k - 2, by omega⟩
    have hd6 : (d : Int) < 6 := by omega
    have hd60 : (0 : Int) ≤ d := by omega
    have hq1 : d + 1 + m = 6 := by omega
    have hq2 : m + 3 ≤ k + 1 := by omega
    have hup : Hid (wrap64 ((d : Int) + 1) = ((d + 1 : Nat) : Int)) := Lib.hid (by rw [wsm _ (by omega) (by omega)]; rfl)
    rw [floor_Path.l1, if_pos hd6, next_any G k]
    obtain ⟨m', ok, hN⟩ := next_total G c d
    rw [hN]
    simp only [Option.bind_some]
    have again : (∀ m'' : Int, floor_Next.f 1 W H D K O c d = some (m'', true) → left.getD m''.toNat 0 ≠ left.getD c 0 - 1) → ∃ x k', k + 1 + 1 ≤ k' + (m + 1) + 1 ∧ Step W H D K O left c x ∧ floor_Path.l1 (k + 1) left pre c (wrap64 ((d : Int) + 1)) W H D K O = floor_Path.l0 k' left (pre ++ [x]) x W H D K O := by
      intro hn
      rw [hup.out]
      have hno' : ∀ d' : Nat, d' < d + 1 → ∀ m' : Int, floor_Next.f 1 W H D K O c d' = some (m', true) → left.getD m'.toNat 0 ≠ left.getD c 0 - 1 := by
        intro d' hd' m'' h
        by_cases e : d' = d
        · rw [e] at h
          exact hn m'' h
        · exact hno d' (by omega) m'' h
      obtain ⟨x, k', h1, h2, h3⟩ := ih (d + 1) (k + 1) hq1 hq2 hno' hex
      exact ⟨x, k', by omega, h2, h3⟩
    cases ok with
    | false =>
      rw [if_neg (by simp)]
      exact again (fun m'' h => by rw [hN] at h; simp at h)
    | true =>
      have ha := next_adj G hN
      rw [if_pos rfl, if_pos ha.2.1, if_pos (by rw [hlen]; exact ha.2.2.2.2.2.1), if_pos (by omega), if_pos (by omega)]
      have hs := hsm c hc
      have hr1 : rd left (c : Int) = left.getD c 0 := rd_nat _ _
      rw [hr1, wsm (left.getD c 0 - 1) (by omega) (by omega)]
      by_cases e : rd left m' = left.getD c 0 - 1
      · rw [if_pos e, if_pos hpre]
        refine ⟨m', k + 1, by omega, ⟨ha.2.1, ha.2.2.2.2.2.1, by rw [Int.toNat_natCast]; exact e, d, by omega, hN, fun d' hd' m'' h => ?_⟩, rfl⟩
        rw [Int.toNat_natCast]
        exact hno d' hd' m'' h
      · rw [if_neg e]
        refine again (fun m'' h => ?_)
        rw [hN] at h
        simp only [Option.some.injEq, Prod.mk.injEq, and_true] at h
        subst h
        exact e

theorem path_loop (G : Good W H D K O) {left : List Int} {b : Nat} {o0 : List Bool} (hleft : DistOf K.length (floor_Back.f 1 W H D K O) o0 [(b : Int)] left) :
    ∀ (j : Nat) (c : Nat) (pre : List Int) (k : Nat), c < K.length → left.getD c 0 = j → 10 * (j + 1) + 10 ≤ k → pre.length + j < 17592186044416 →
    ∃ q, floor_Path.l0 k left pre c W H D K O = some (pre ++ q) ∧ q.length = j ∧ WayP W H D K O left c q := by
  have hn := G.n2
  have hsm : ∀ c, c < K.length → -1 ≤ left.getD c 0 ∧ left.getD c 0 ≤ 1000000 := fun c hc => by
    have := hleft.small c hc
    have := hleft.neg c hc
    omega
  intro j
  induction j with
  | zero =>
    intro c pre k hc h0 hk hp
    obtain ⟨k, rfl⟩ : ∃ j, k = j + 1 := ⟨k - 1, by omega⟩
    rw [floor_Path.l0, if_pos (by omega), if_pos (by rw [hleft.len]; omega), rd_nat, if_neg (by omega)]
    exact ⟨[], by simp, rfl, by rw [WayP, Int.toNat_natCast]; omega⟩
  | succ j ih =>
    intro c pre k hc h0 hk hp
    obtain ⟨k, rfl⟩ : ∃ j, k = j + 1 := ⟨k - 1, by omega⟩
    rw [floor_Path.l0, if_pos (by omega), if_pos (by rw [hleft.len]; omega), rd_nat, if_pos (by omega)]
    obtain ⟨p, hpn, hpr, ha⟩ := hleft.prev c hc (by omega)
    obtain ⟨d, hd, hN⟩ := adj_bn G ha
    obtain ⟨x, k', hk', hst, he⟩ := path_dirs G hleft.len hsm hc pre (by omega) 6 0 k (by omega) (by omega) (fun d' hd' => by omega) ⟨d, hd, p, hN, by rw [Int.toNat_natCast]; exact hpr⟩
    have he' : floor_Path.l1 k left pre (c : Int) 0 W H D K O = floor_Path.l0 k' left (pre ++ [x]) x W H D K O := he
    rw [he']
    obtain ⟨xn, rfl⟩ : ∃ xn : Nat, x = xn := ⟨x.toNat, by have := hst.1; omega⟩
    have hx := hst.2.2.1
    rw [Int.toNat_natCast, Int.toNat_natCast] at hx
    obtain ⟨q, h1, h2, h3⟩ := ih xn (pre ++ [(xn : Int)]) k' (by have := hst.2.1; omega) (by omega) (by omega) (by simp; omega)
    exact ⟨(xn : Int) :: q, by rw [h1]; simp, by simp [h2], hst, h3⟩

theorem way_at {left : List Int} : ∀ (q : List Int) (c : Int), WayP W H D K O left c q → (∀ i, i < q.length → Step W H D K O left ((c :: q).getD i 0) ((c :: q).getD (i + 1) 0)) ∧ (∀ i, i ≤ q.length → left.getD ((c :: q).getD i 0).toNat 0 = (q.length : Int) - i) := by
  intro q
  induction q with
  | nil =>
    intro c h
    refine ⟨fun i hi => by simp at hi, fun i hi => ?_⟩
    obtain rfl : i = 0 := by simpa using hi
    simpa [WayP] using h
  | cons m q ih =>
    intro c h
    obtain ⟨h1, h2⟩ := h
    obtain ⟨g1, g2⟩ := ih m h2
    refine ⟨fun i hi => ?_, fun i hi => ?_⟩
    · cases i with
      | zero => simpa using h1
      | succ i =>
        have := g1 i (by simp at hi; omega)
        simpa using this
    · cases i with
      | zero =>
        have e := h1.2.2.1
        have := g2 0 (by omega)
        simp only [List.getD_cons_zero, List.length_cons] at this ⊢
        rw [e] at this
        push_cast at this ⊢
        omega
      | succ i =>
        have := g2 i (by simp at hi; omega)
        simp only [List.getD_cons_succ, List.length_cons] at this ⊢
        rw [this]
        push_cast
        omega
end
end Go.Proofs.Ytmnncmpmhbfpcaa.P
