/- Plain facts on sums of costs and on runs. -/
import Derived.Test.YtkhehmmdlnebnaaM
namespace Go.Proofs.Ytkhehmmdlnebnaa.M
set_option linter.unusedVariables false
set_option linter.unusedSimpArgs false
open Go.RowKit Go.Proofs.YtkhehmmdlnebnaaW.PrintWords Go.Proofs.YtkhehmmdlnebnaaW.PrintLast Go.Proofs.YtkhehmmdlnebnaaW.PrintMore
open Go.Proofs.Ytkhehmmdlnebnaa.H Go.Proofs.Ytkhehmmdlnebnaa.B

theorem w64 {n : Int} (h0 : 0 ≤ n) (h1 : n ≤ 9223372036854775807) : wrap64 n = n := by unfold wrap64; omega

def sumZ (L : List Stp) : Int := (L.map fun x => costI x.1 x.2.1 x.2.2).sum
theorem sumZ_cons (x : Stp) (L : List Stp) : sumZ (x :: L) = costI x.1 x.2.1 x.2.2 + sumZ L := by simp [sumZ]
theorem sumZ_append (A B : List Stp) : sumZ (A ++ B) = sumZ A + sumZ B := by simp [sumZ]
theorem sumZ_range : ∀ L : List Stp, 0 ≤ sumZ L ∧ sumZ L ≤ 21 * L.length
  | [] => by simp [sumZ]
  | x :: L => by
    have h := sumZ_range L
    have hc := costI_range x.1 x.2.1 x.2.2
    rw [sumZ_cons, List.length_cons]
    omega
theorem foldl_sum (L : List Stp) : ∀ s : Int, 0 ≤ s → s + 21 * L.length ≤ 1000000 → List.foldl (fun s (x : Stp) => wrap64 (s + costI x.1 x.2.1 x.2.2)) s L = s + sumZ L := by
  induction L with
  | nil => intro s h0 h1; simp [sumZ]
  | cons x L ih =>
    intro s h0 h1
    have hc := costI_range x.1 x.2.1 x.2.2
    rw [List.length_cons] at h1
    rw [List.foldl_cons, sumZ_cons, w64 (by omega) (by omega), ih _ (by omega) (by omega)]
    omega
theorem sumL_sumZ {L : List Stp} (h : L.length ≤ 1000) : sumL L = sumZ L := by
  unfold sumL
  rw [foldl_sum L 0 (by omega) (by omega)]
  omega

theorem stepsL_length (t : Int) (xs : List Int) : ∀ (k : Nat) (l : Bool), (stepsL t k xs l).length = xs.length := by
  induction xs with
  | nil => intro k l; rfl
  | cons a r ih => intro k l; simp [stepsL, ih]
/-- Laden behind all of the acts. -/
def ladenAll (xs : List Int) (l : Bool) : Bool := xs.foldl (fun l a => ladenI a l) l
theorem stepsL_append (t : Int) (xs ys : List Int) : ∀ (k : Nat) (l : Bool), stepsL t k (xs ++ ys) l = stepsL t k xs l ++ stepsL t (k + xs.length) ys (ladenAll xs l) := by
  induction xs with
  | nil => intro k l; simp [stepsL, ladenAll]
  | cons a r ih =>
    intro k l
    simp only [List.cons_append, stepsL, ih, List.length_cons]
    rw [show k + 1 + r.length = k + (r.length + 1) by omega]
    rfl
theorem stepsL_shift (t : Int) (m : Nat) (ys : List Int) : ∀ (k : Nat) (l : Bool), stepsL t (k + m) ys l = stepsL (wrap64 (t + m)) k ys l := by
  induction ys with
  | nil => intro k l; rfl
  | cons a r ih =>
    intro k l
    simp only [stepsL]
    rw [show k + m + 1 = (k + 1) + m by omega, ih]
    have e : wrap64 (t + ((k + m : Nat) : Int)) = wrap64 (wrap64 (t + m) + k) := by
      unfold wrap64
      omega
    rw [e]

theorem runL_cons (x : Stp) (r : List Stp) (c d : Int) : runL (x :: r) c d = if (afterI x.1 c x.2.1 x.2.2).2 = 0 then runL r (afterI x.1 c x.2.1 x.2.2).1 (wrap64 (d + 1)) else (c, d) := rfl
theorem runL_done (L : List Stp) : ∀ (c d : Int), 0 ≤ d → d + L.length ≤ 1000000 → d ≤ (runL L c d).2 ∧ (runL L c d).2 ≤ d + L.length := by
  induction L with
  | nil => intro c d h0 h1; simp [runL]
  | cons x L ih =>
    intro c d h0 h1
    rw [List.length_cons] at h1 ⊢
    rw [runL_cons]
    split
    · rw [w64 (n := d + 1) (by omega) (by omega)]
      have := ih (afterI x.1 c x.2.1 x.2.2).1 (d + 1) (by omega) (by omega)
      omega
    · simp only
      omega
theorem runL_shift (L : List Stp) : ∀ (c d e : Int), 0 ≤ d → 0 ≤ e → d + e + L.length ≤ 1000000 → runL L c (d + e) = ((runL L c d).1, (runL L c d).2 + e) := by
  induction L with
  | nil => intro c d e h0 h1 h2; simp [runL]
  | cons x L ih =>
    intro c d e h0 h1 h2
    rw [List.length_cons] at h2
    rw [runL_cons, runL_cons]
    split
    · rw [w64 (n := d + e + 1) (by omega) (by omega), w64 (n := d + 1) (by omega) (by omega), show d + e + 1 = (d + 1) + e by omega, ih _ _ _ (by omega) h1 (by omega)]
    · rfl
theorem runL_append (A B : List Stp) : ∀ (c d : Int), 0 ≤ d → d + A.length ≤ 1000000 →
    runL (A ++ B) c d = if (runL A c d).2 = d + A.length then runL B (runL A c d).1 (d + A.length) else runL A c d := by
  induction A with
  | nil => intro c d h0 h1; simp [runL]
  | cons x A ih =>
    intro c d h0 h1
    rw [List.length_cons] at h1 ⊢
    rw [List.cons_append, runL_cons, runL_cons]
    split
    · rw [w64 (n := d + 1) (by omega) (by omega), ih _ _ (by omega) (by omega)]
      rw [show d + 1 + (A.length : Int) = d + ((A.length + 1 : Nat) : Int) by omega]
    · rw [if_neg (by simp only; omega)]

theorem after_ok {t c a : Int} {l : Bool} (h0 : 0 ≤ c) (h1 : c ≤ 1000000) (ha0 : 0 ≤ a) (ha1 : a < 10) :
    afterI t c a l = if a = 9 then ((if 1000000 < c + 20 then 1000000 else c + 20), 0) else if c < costI t a l then (c, 16) else (c - costI t a l, 0) := by
  have hc := costI_range t a l
  unfold afterI
  rw [if_neg (by omega)]
  split
  · rfl
  · unfold spendI
    rw [if_neg (by omega)]

/-- How often the acts charge. -/
def charges (xs : List Int) : Int := (xs.filter fun a => decide (a = 9)).length
theorem charges_cons (a : Int) (r : List Int) : charges (a :: r) = (if a = 9 then 1 else 0) + charges r := by
  unfold charges
  rw [List.filter_cons]
  by_cases h : a = 9
  · simp [h]; omega
  · simp [h]
theorem charges_nonneg (xs : List Int) : 0 ≤ charges xs := by unfold charges; omega

theorem run_bounds (t : Int) (xs : List Int) (hv : ∀ a ∈ xs, 0 ≤ a ∧ a < 10) : ∀ (k : Nat) (l : Bool) (c d : Int), 0 ≤ c → c ≤ 1000000 → 0 ≤ d → d + xs.length ≤ 1000000 →
    0 ≤ (runL (stepsL t k xs l) c d).1 ∧ (runL (stepsL t k xs l) c d).1 ≤ 1000000 ∧ (runL (stepsL t k xs l) c d).1 ≤ c + charges xs * 20 := by
  induction xs with
  | nil => intro k l c d h0 h1 h2 h3; simp [stepsL, runL, charges]; omega
  | cons a r ih =>
    intro k l c d h0 h1 h2 h3
    rw [List.length_cons] at h3
    obtain ⟨ha0, ha1⟩ := hv a (by simp)
    have hc := costI_range (wrap64 (t + (k : Int))) a l
    have hn := charges_nonneg r
    have ih' := ih (fun b hb => hv b (by simp [hb]))
    simp only [stepsL]
    rw [runL_cons, charges_cons]
    simp only
    rw [after_ok h0 h1 ha0 ha1]
    by_cases h9 : a = 9
    · rw [if_pos h9, if_pos rfl, if_pos h9]
      have := ih' (k + 1) (ladenI a l) (if 1000000 < c + 20 then 1000000 else c + 20) (wrap64 (d + 1)) (by split <;> omega) (by split <;> omega) (by rw [w64 (by omega) (by omega)]; omega) (by rw [w64 (by omega) (by omega)]; omega)
      refine ⟨this.1, this.2.1, ?_⟩
      have h4 := this.2.2
      simp only at h4 ⊢
      have h5 : (if 1000000 < c + 20 then 1000000 else c + 20) ≤ c + 20 := by split <;> omega
      omega
    · rw [if_neg h9, if_neg h9]
      by_cases hl : c < costI (wrap64 (t + (k : Int))) a l
      · rw [if_pos hl, if_neg (show ¬ ((16 : Int) = 0) by decide)]
        simp only
        omega
      · rw [if_neg hl, if_pos rfl]
        have := ih' (k + 1) (ladenI a l) (c - costI (wrap64 (t + (k : Int))) a l) (wrap64 (d + 1)) (by omega) (by omega) (by rw [w64 (by omega) (by omega)]; omega) (by rw [w64 (by omega) (by omega)]; omega)
        refine ⟨this.1, this.2.1, ?_⟩
        have h4 := this.2.2
        simp only at h4 ⊢
        omega

/-- Without charging: what is left is the difference; it is enough for all exactly if it is at least the sum; else less than the next act's cost is left. -/
theorem run_exact (t : Int) (xs : List Int) (hv : ∀ a ∈ xs, 0 ≤ a ∧ a < 10 ∧ a ≠ 9) : ∀ (k : Nat) (l : Bool) (c : Int) (d : Nat), 0 ≤ c → c ≤ 1000000 → d + xs.length ≤ 1000000 →
    ∃ m : Nat, m ≤ xs.length ∧ runL (stepsL t k xs l) c d = (c - sumZ (stepsL t k (xs.take m) l), ((d + m : Nat) : Int)) ∧ (m = xs.length ↔ sumZ (stepsL t k xs l) ≤ c) ∧
      (m < xs.length → c - sumZ (stepsL t k (xs.take m) l) < costI (wrap64 (t + ((k + m : Nat) : Int))) (xs.getD m 0) (ladenAll (xs.take m) l)) := by
  induction xs with
  | nil => intro k l c d h0 h1 h2; exact ⟨0, by simp, by simp [stepsL, runL, sumZ], by simp [stepsL, sumZ, h0], by simp⟩
  | cons a r ih =>
    intro k l c d h0 h1 h2
    rw [List.length_cons] at h2
    obtain ⟨ha0, ha1, h9⟩ := hv a (by simp)
    have hc := costI_range (wrap64 (t + (k : Int))) a l
    have hr := sumZ_range (stepsL t (k + 1) r (ladenI a l))
    simp only [stepsL]
    rw [runL_cons]
    simp only
    rw [after_ok h0 h1 ha0 ha1, if_neg h9]
    by_cases hl : c < costI (wrap64 (t + (k : Int))) a l
    · rw [if_pos hl, if_neg (show ¬ ((16 : Int) = 0) by decide)]
      refine ⟨0, by omega, by simp [stepsL, sumZ], ?_, fun _ => by simpa [stepsL, sumZ, ladenAll] using hl⟩
      rw [sumZ_cons]
      simp only [List.length_cons]
      constructor
      · intro h
        omega
      · intro h
        omega
    · rw [if_neg hl, if_pos rfl]
      obtain ⟨m, hm, h3, h4, h5⟩ := ih (fun b hb => hv b (by simp [hb])) (k + 1) (ladenI a l) (c - costI (wrap64 (t + (k : Int))) a l) (d + 1) (by omega) (by omega) (by omega)
      refine ⟨m + 1, by simp only [List.length_cons]; omega, ?_, ?_, ?_⟩
      · simp only
        rw [w64 (n := (d : Int) + 1) (by omega) (by omega), show (d : Int) + 1 = ((d + 1 : Nat) : Int) by omega, h3]
        simp only [List.take_succ_cons, stepsL, sumZ_cons]
        rw [show d + 1 + m = d + (m + 1) by omega, Int.sub_sub]
      · rw [sumZ_cons]
        simp only [List.length_cons]
        omega
      · intro h
        have h6 := h5 (by simp only [List.length_cons] at h; omega)
        simp only [List.take_succ_cons, stepsL, sumZ_cons]
        rw [show k + (m + 1) = k + 1 + m by omega, List.getD_cons_succ]
        simp only [ladenAll, List.foldl_cons]
        simp only [ladenAll] at h6
        omega
end Go.Proofs.Ytkhehmmdlnebnaa.M
