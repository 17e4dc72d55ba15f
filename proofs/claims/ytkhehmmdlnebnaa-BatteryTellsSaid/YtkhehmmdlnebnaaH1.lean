/- Contracts of the small functions of battery: Base, Cost, Laden, isCharge, Spend, After. Conditions: an action is a number of the kind int. -/
import Derived.Test.YtkhehmmdlnebnaaProg
import Derived.Test.YtkhehmmdlnebnaaWWords
import Derived.Test.YtkhehmmdlnebnaaWMore
import Derived.WalkKit
import Derived.Lib.Hide
import Derived.Outline
namespace Go.Proofs.Ytkhehmmdlnebnaa.H
set_option linter.unusedVariables false
set_option linter.unusedSimpArgs false
open Go.RowKit Go.Proofs.YtkhehmmdlnebnaaW.PrintWords Go.Proofs.YtkhehmmdlnebnaaW.PrintLast Go.Proofs.YtkhehmmdlnebnaaW.PrintMore
attribute [local go_sem] max2_int min2_int max_two min_two max_three min_three max_four min_four

/-- The base of an action. -/
def baseI (a : Int) (l : Bool) : Int :=
  if a = 0 ∨ a = 8 then 1 else if a = 7 then 3 else
  if a = 1 ∨ a = 2 ∨ a = 3 ∨ a = 4 then (if l then 4 else 2) else
  if a = 5 then (if l then 7 else 5) else if a = 6 then (if l then 3 else 1) else 0

theorem baseI_range (a : Int) (l : Bool) : 0 ≤ baseI a l ∧ baseI a l ≤ 7 := by
  unfold baseI
  cases l <;> simp <;> (repeat' split) <;> omega

/-- The age at a tick. -/
def ageI (t : Int) : Int := (if t < 0 then 0 else if t > 20000 then 20000 else t) / 1000
theorem ageI_range (t : Int) : 0 ≤ ageI t ∧ ageI t ≤ 20 := by
  unfold ageI
  split
  · omega
  · split <;> omega
/-- The cost of an action at a tick. -/
def costI (t a : Int) (l : Bool) : Int := (baseI a l * (10 + ageI t) + 9) / 10

theorem ret_int {k : IntKind} {a b : Int} (h : a = b) : Ending.returned (.int k a) = .returned (.int k b) := by rw [h]
theorem ret_bool {a b : Bool} (h : a = b) : Ending.returned (.bool a) = .returned (.bool b) := by rw [h]

/-- A number of Go's int. -/
def isI (a : Int) : Prop := -9223372036854775808 ≤ a ∧ a ≤ 9223372036854775807
instance (a : Int) : Decidable (isI a) := inferInstanceAs (Decidable (_ ∧ _))
theorem isI_wf {a : Int} (h : (Lit.int .i64 a).wf = true) : isI a := by
  simp [Lit.wf] at h
  exact h

set_option maxHeartbeats 1000000 in
theorem base_any (a : Int) (l : Bool) (ha : isI a) (w : World) : Calls Try.prog 17 #[.int .i64 a, .bool l] w fun e w' => e = .returned (.int .i64 (baseI a l)) ∧ w = w' := by
  have hb : -9223372036854775808 ≤ a ∧ a ≤ 9223372036854775807 := ha
  obtain ⟨h1, h2⟩ := hb
  by_cases h : 0 ≤ a ∧ a ≤ 8
  · obtain ⟨i0, i1⟩ := h
    obtain ⟨n, rfl⟩ : ∃ n : Nat, a = n := ⟨a.toNat, by omega⟩
    have hn : n ≤ 8 := by omega
    clear ha h1 h2 i0 i1
    cases l <;> (rcases n with _ | _ | _ | _ | _ | _ | _ | _ | _ | n) <;> first | omega | (
      go_enter Try.func17, Try.ntmps17
      go_wp2
      go_ret
      exact ⟨rfl, rfl⟩)
  · have e : baseI a l = 0 := by
      unfold baseI
      repeat (rw [if_neg (by omega)])
    rw [e]
    have f : ∀ k : Int, 0 ≤ k → k ≤ 8 → (a == k) = false := fun k _ _ => beq_eq_false_iff_ne.2 (by omega)
    have g : ∀ k : Int, 0 ≤ k → k ≤ 5 → (wrap64 (a - 1) == k) = false := fun k _ _ => beq_eq_false_iff_ne.2 (by unfold wrap64; omega)
    have f0 := f 0 (by omega) (by omega)
    have f7 := f 7 (by omega) (by omega)
    have f8 := f 8 (by omega) (by omega)
    have g0 := g 0 (by omega) (by omega)
    have g1 := g 1 (by omega) (by omega)
    have g2 := g 2 (by omega) (by omega)
    have g3 := g 3 (by omega) (by omega)
    have g4 := g 4 (by omega) (by omega)
    have g5 := g 5 (by omega) (by omega)
    clear f g e h ha h1 h2
    cases l <;> (
      go_enter Try.func17, Try.ntmps17
      go_wp2
      go_ret
      exact ⟨rfl, rfl⟩)

theorem costI_range (t a : Int) (l : Bool) : 0 ≤ costI t a l ∧ costI t a l ≤ 21 := by
  have h1 := baseI_range a l
  have h2 := ageI_range t
  unfold costI
  have h3 : 0 ≤ baseI a l * (10 + ageI t) := Int.mul_nonneg h1.1 (by omega)
  have h4 : baseI a l * (10 + ageI t) ≤ 7 * 30 := Int.mul_le_mul h1.2 (by omega) (by omega) (by omega)
  omega

theorem cost_fin (t a b q : Int) (l : Bool) (hb : baseI a l = b) (hq : ageI t = q) (h0 : 0 ≤ b) (h1 : b ≤ 7) (q0 : 0 ≤ q) (q1 : q ≤ 20) :
    costI t a l = wrap64 (Int.tdiv (wrap64 (wrap64 (b * (10 + q)) + 9)) 10) := by
  unfold costI
  rw [hb, hq]
  have h3 : 0 ≤ b * (10 + q) := Int.mul_nonneg h0 (by omega)
  have h4 : b * (10 + q) ≤ 7 * 30 := Int.mul_le_mul h1 (by omega) (by omega) (by omega)
  generalize b * (10 + q) = x at *
  unfold wrap64
  rw [Int.tdiv_eq_ediv_of_nonneg (by omega)]
  omega
set_option maxHeartbeats 1000000 in
theorem cost_any (t a : Int) (l : Bool) (ha : isI a) (w : World) : Calls Try.prog 9 #[.int .i64 t, .int .i64 a, .bool l] w fun e w' => e = .returned (.int .i64 (costI t a l)) ∧ w = w' := by
  have h1 := baseI_range a l
  have h2 := ageI_range t
  obtain ⟨b, hb⟩ : ∃ b, baseI a l = b := ⟨_, rfl⟩
  obtain ⟨q, hq⟩ : ∃ q, ageI t = q := ⟨_, rfl⟩
  rw [hb] at h1
  rw [hq] at h2
  have fin := cost_fin t a b q l hb hq h1.1 h1.2 h2.1 h2.2
  have fin2 : costI t a l = (b * (10 + q) + 9) / 10 := by unfold costI; rw [hb, hq]
  have FIN := Lib.hid fin
  have FIN2 := Lib.hid fin2
  have hc := base_any a l ha
  rw [hb] at hc
  have HC := Lib.hid hc
  obtain ⟨b0, b1⟩ := h1
  obtain ⟨q0, q1⟩ := h2
  clear hc fin fin2 hb ha
  by_cases t0 : t < 0
  · have : q = 0 := by rw [← hq]; unfold ageI; rw [if_pos t0]; rfl
    subst this
    clear hq
    go_enter Try.func9, Try.ntmps9
    go_wp2_with (first | (go_at_call 17; refine (HC.out _).mono ?_; rintro e w' ⟨rfl, rfl⟩))
    go_ret
    exact ⟨ret_int (by rw [FIN2.out]; omega), rfl⟩
  · by_cases t1 : 20000 < t
    · have : q = 20 := by rw [← hq]; unfold ageI; rw [if_neg t0, if_pos (by omega)]; rfl
      subst this
      clear hq
      go_enter Try.func9, Try.ntmps9
      go_wp2_with (first | (go_at_call 17; refine (HC.out _).mono ?_; rintro e w' ⟨rfl, rfl⟩))
      go_ret
      exact ⟨ret_int (by rw [FIN2.out]; omega), rfl⟩
    · have : q = t / 1000 := by rw [← hq]; unfold ageI; rw [if_neg t0, if_neg (by omega)]
      subst this
      clear hq
      go_enter Try.func9, Try.ntmps9
      go_wp2_with (first | (go_at_call 17; refine (HC.out _).mono ?_; rintro e w' ⟨rfl, rfl⟩))
      go_ret
      exact ⟨ret_int (by rw [FIN.out]), rfl⟩

/-- Whether a robot is laden behind an action. -/
def ladenI (a : Int) (l : Bool) : Bool := decide (a = 7) || (l && !decide (a = 8))

set_option maxHeartbeats 1000000 in
theorem laden_any (a : Int) (l : Bool) (w : World) : Calls Try.prog 14 #[.int .i64 a, .bool l] w fun e w' => e = .returned (.bool (ladenI a l)) ∧ w = w' := by
  unfold ladenI
  by_cases h7 : a = 7
  · subst h7
    cases l <;> (
      go_enter Try.func14, Try.ntmps14
      go_wp2
      go_ret
      exact ⟨rfl, rfl⟩)
  · by_cases h8 : a = 8
    · subst h8
      cases l <;> (
        go_enter Try.func14, Try.ntmps14
        go_wp2
        go_ret
        exact ⟨rfl, rfl⟩)
    · have f7 : (a == 7) = false := beq_eq_false_iff_ne.2 h7
      have f8 : (a == 8) = false := beq_eq_false_iff_ne.2 h8
      have g8 : (a != 8) = true := bne_iff_ne.2 h8
      rw [decide_eq_false h7, decide_eq_false h8]
      clear h7 h8
      cases l <;> (
        go_enter Try.func14, Try.ntmps14
        go_wp2
        go_ret
        exact ⟨rfl, rfl⟩)

set_option maxHeartbeats 1000000 in
theorem isCharge_any (n : Int) (w : World) : Calls Try.prog 30 #[.int .i64 n] w fun e w' => e = .returned (.bool (decide (0 ≤ n ∧ n ≤ 1000000))) ∧ w = w' := by
  by_cases h0 : 0 ≤ n
  · by_cases h1 : n ≤ 1000000
    · have e : decide (0 ≤ n ∧ n ≤ 1000000) = true := by simp; omega
      rw [e]
      go_enter Try.func30, Try.ntmps30
      go_wp2
      go_ret
      exact ⟨ret_bool (by first | rfl | (simp; done) | (simp; omega)), rfl⟩
    · have e : decide (0 ≤ n ∧ n ≤ 1000000) = false := by simp; omega
      rw [e]
      go_enter Try.func30, Try.ntmps30
      go_wp2
      go_ret
      exact ⟨ret_bool (by first | rfl | (simp; done) | (simp; omega)), rfl⟩
  · have e : decide (0 ≤ n ∧ n ≤ 1000000) = false := by simp; omega
    rw [e]
    go_enter Try.func30, Try.ntmps30
    go_wp2
    go_ret
    exact ⟨ret_bool rfl, rfl⟩

theorem ret_two {k j : IntKind} {a b c d : Int} (h : a = b) (h' : c = d) : Ending.returned (.tuple #[.int k a, .int j c]) = .returned (.tuple #[.int k b, .int j d]) := by rw [h, h']

/-- A charge less a cost: what is left, and whether it went. -/
def spendI (c x : Int) : Int × Int := if ¬ (0 ≤ c ∧ c ≤ 1000000) ∨ x < 0 then (c, 1) else if c < x then (c, 16) else (c - x, 0)

theorem wrap_small {n : Int} (h0 : 0 ≤ n) (h1 : n ≤ 9223372036854775807) : wrap64 n = n := by unfold wrap64; omega

set_option maxHeartbeats 1000000 in
theorem spend_any (c x : Int) (w : World) : Calls Try.prog 22 #[.int .i64 c, .int .i64 x] w fun e w' => e = .returned (.tuple #[.int .i64 (spendI c x).1, .int .i64 (spendI c x).2]) ∧ w = w' := by
  have hc := isCharge_any c
  by_cases h : 0 ≤ c ∧ c ≤ 1000000
  · rw [decide_eq_true h] at hc
    have HC := Lib.hid hc
    clear hc
    obtain ⟨h0, h1⟩ := h
    by_cases hx : x < 0
    · have F := Lib.hid (show spendI c x = (c, 1) from by unfold spendI; rw [if_pos (.inr hx)])
      go_enter Try.func22, Try.ntmps22
      go_wp2_with (first | (go_at_call 30; refine (HC.out _).mono ?_; rintro e w' ⟨rfl, rfl⟩))
      go_ret2
      exact ⟨by rw [F.out]; first | done | rfl, rfl⟩
    · by_cases hl : c < x
      · have F := Lib.hid (show spendI c x = (c, 16) from by unfold spendI; rw [if_neg (by omega), if_pos hl])
        go_enter Try.func22, Try.ntmps22
        go_wp2_with (first | (go_at_call 30; refine (HC.out _).mono ?_; rintro e w' ⟨rfl, rfl⟩))
        go_ret2
        exact ⟨by rw [F.out]; first | done | rfl, rfl⟩
      · have F := Lib.hid (show spendI c x = (c - x, 0) from by unfold spendI; rw [if_neg (by omega), if_neg hl])
        go_enter Try.func22, Try.ntmps22
        go_wp2_with (first | (go_at_call 30; refine (HC.out _).mono ?_; rintro e w' ⟨rfl, rfl⟩))
        go_ret2
        exact ⟨by rw [F.out]; exact ret_two (by first | rfl | (unfold wrap64; omega)) rfl, rfl⟩
  · rw [decide_eq_false h] at hc
    have HC := Lib.hid hc
    clear hc
    have F := Lib.hid (show spendI c x = (c, 1) from by unfold spendI; rw [if_pos (.inl h)])
    clear h
    go_enter Try.func22, Try.ntmps22
    go_wp2_with (first | (go_at_call 30; refine (HC.out _).mono ?_; rintro e w' ⟨rfl, rfl⟩))
    go_ret2
    exact ⟨by rw [F.out]; first | done | rfl, rfl⟩

/-- The charge after an action, and whether it went. -/
def afterI (t c a : Int) (l : Bool) : Int × Int :=
  if ¬ (0 ≤ c ∧ c ≤ 1000000) ∨ a < 0 ∨ 10 ≤ a then (c, 1) else if a = 9 then ((if 1000000 < c + 20 then 1000000 else c + 20), 0) else spendI c (costI t a l)

set_option maxHeartbeats 1000000 in
theorem after_any (t c a : Int) (l : Bool) (ha : isI a) (w : World) :
    Calls Try.prog 16 #[.int .i64 t, .int .i64 c, .int .i64 a, .bool l] w fun e w' => e = .returned (.tuple #[.int .i64 (afterI t c a l).1, .int .i64 (afterI t c a l).2]) ∧ w = w' := by
  have hc := isCharge_any c
  by_cases h : 0 ≤ c ∧ c ≤ 1000000
  · rw [decide_eq_true h] at hc
    have HC := Lib.hid hc
    clear hc
    obtain ⟨h0, h1⟩ := h
    by_cases hx : a < 0
    · have F := Lib.hid (show afterI t c a l = (c, 1) from by unfold afterI; rw [if_pos (.inr (.inl hx))])
      clear ha
      go_enter Try.func16, Try.ntmps16
      go_wp2_with (first | (go_at_call 30; refine (HC.out _).mono ?_; rintro e w' ⟨rfl, rfl⟩))
      go_ret2
      exact ⟨by rw [F.out]; first | done | rfl, rfl⟩
    · by_cases hl : 10 ≤ a
      · have F := Lib.hid (show afterI t c a l = (c, 1) from by unfold afterI; rw [if_pos (.inr (.inr hl))])
        clear ha
        go_enter Try.func16, Try.ntmps16
        go_wp2_with (first | (go_at_call 30; refine (HC.out _).mono ?_; rintro e w' ⟨rfl, rfl⟩))
        go_ret2
        exact ⟨by rw [F.out]; first | done | rfl, rfl⟩
      · by_cases h9 : a = 9
        · subst h9
          by_cases hm : 1000000 < c + 20
          · have F := Lib.hid (show afterI t c 9 l = (1000000, 0) from by unfold afterI; rw [if_neg (by omega), if_pos rfl, if_pos hm])
            clear ha hx hl
            go_enter Try.func16, Try.ntmps16
            go_wp2_with (first | (go_at_call 30; refine (HC.out _).mono ?_; rintro e w' ⟨rfl, rfl⟩))
            go_ret2
            exact ⟨by rw [F.out]; first | done | rfl, rfl⟩
          · have F := Lib.hid (show afterI t c 9 l = (c + 20, 0) from by unfold afterI; rw [if_neg (by omega), if_pos rfl, if_neg hm])
            clear ha hx hl
            go_enter Try.func16, Try.ntmps16
            go_wp2_with (first | (go_at_call 30; refine (HC.out _).mono ?_; rintro e w' ⟨rfl, rfl⟩))
            go_ret2
            exact ⟨by rw [F.out]; first | done | rfl, rfl⟩
        · have F := Lib.hid (show afterI t c a l = spendI c (costI t a l) from by unfold afterI; rw [if_neg (by omega), if_neg h9])
          have f9 : (a == 9) = false := beq_eq_false_iff_ne.2 h9
          have HK := Lib.hid (fun w => cost_any t a l ha w)
          have HS := Lib.hid (fun w => spend_any c (costI t a l) w)
          clear h9 ha
          go_enter Try.func16, Try.ntmps16
          go_wp2_with (first | (go_at_call 30; refine (HC.out _).mono ?_; rintro e w' ⟨rfl, rfl⟩) | (go_at_call 9; refine (HK.out _).mono ?_; rintro e w' ⟨rfl, rfl⟩) | (go_at_call 22; refine (HS.out _).mono ?_; rintro e w' ⟨rfl, rfl⟩))
          go_ret2
          exact ⟨by rw [F.out]; first | done | rfl, rfl⟩
  · rw [decide_eq_false h] at hc
    have HC := Lib.hid hc
    clear hc
    have F := Lib.hid (show afterI t c a l = (c, 1) from by unfold afterI; rw [if_pos (.inl h)])
    clear h ha
    go_enter Try.func16, Try.ntmps16
    go_wp2_with (first | (go_at_call 30; refine (HC.out _).mono ?_; rintro e w' ⟨rfl, rfl⟩))
    go_ret2
    exact ⟨by rw [F.out]; first | done | rfl, rfl⟩
end Go.Proofs.Ytkhehmmdlnebnaa.H
