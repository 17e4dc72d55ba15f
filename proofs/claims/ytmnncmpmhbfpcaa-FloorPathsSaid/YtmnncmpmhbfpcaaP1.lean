/- The plain geometry of a right floor: cells and places, the neighbours, Next and Back. No program in sight. -/
import Derived.Test.YtmnncmpmhbfpcaaC
namespace Go.Proofs.Ytmnncmpmhbfpcaa.P
set_option linter.unusedVariables false
set_option linter.unusedSimpArgs false
open Go.RowKit Go.Proofs.YtmnncmpmhbfpcaaW.PrintWords Go.Proofs.YtmnncmpmhbfpcaaW.PrintLast Go.Proofs.YtmnncmpmhbfpcaaW.PrintMore
open Go.Proofs.Ytmnncmpmhbfpcaa.A Go.Proofs.Ytmnncmpmhbfpcaa.H Go.Proofs.Ytmnncmpmhbfpcaa.B Go.Proofs.Ytmnncmpmhbfpcaa.S Go.Proofs.Ytmnncmpmhbfpcaa.C

structure Good (W H D : Int) (K O : List Int) : Prop where
  w1 : 1 ≤ W
  w2 : W ≤ 4096
  h1 : 1 ≤ H
  h2 : H ≤ 4096
  d1 : 1 ≤ D
  d2 : D ≤ 4
  n : W * H * D = (K.length : Int)
  n2 : K.length ≤ 4096
  nO : O.length = K.length
  k : ∀ i, i < K.length → 0 ≤ K.getD i 0 ∧ K.getD i 0 < 7
  o : ∀ i, i < K.length → 0 ≤ O.getD i 0 ∧ O.getD i 0 ≤ 63

theorem wsm (x : Int) (h1 : -9223372036854775808 ≤ x) (h2 : x ≤ 9223372036854775807) : wrap64 x = x := by unfold wrap64; omega

def Pos (W H D c x y z : Int) : Prop := 0 ≤ x ∧ x < W ∧ 0 ≤ y ∧ y < H ∧ 0 ≤ z ∧ z < D ∧ c = (z * H + y) * W + x

section
variable {W H D : Int} {K O : List Int}
theorem Good.wh (G : Good W H D K O) : 1 ≤ W * H ∧ W * H ≤ 16777216 := by
  have h1 := Int.mul_le_mul G.w2 G.h2 (by have := G.h1; omega) (by omega)
  have h2 := Int.mul_le_mul G.w1 G.h1 (by omega) (by have := G.w1; omega)
  omega
theorem Good.pos (G : Good W H D K O) {c : Int} (h0 : 0 ≤ c) (h1 : c < (K.length : Int)) : ∃ x y z, Pos W H D c x y z := by
  have hW := G.w1
  have hH := G.h1
  refine ⟨c % W, c / W % H, c / W / H, Int.emod_nonneg _ (by omega), Int.emod_lt_of_pos _ (by omega), Int.emod_nonneg _ (by omega), Int.emod_lt_of_pos _ (by omega), Int.ediv_nonneg (Int.ediv_nonneg h0 (by omega)) (by omega), ?_, ?_⟩
  · apply Int.ediv_lt_of_lt_mul (by omega)
    apply Int.ediv_lt_of_lt_mul (by omega)
    have := G.n
    rw [show D * H * W = W * H * D by rw [Int.mul_comm D H, Int.mul_comm _ W, Int.mul_assoc]]
    omega
  · have e1 := Int.mul_ediv_add_emod c W
    have e2 := Int.mul_ediv_add_emod (c / W) H
    rw [show c / W / H * H + c / W % H = c / W by rw [Int.mul_comm]; exact e2, Int.mul_comm]
    exact e1.symm
theorem Pos.range (G : Good W H D K O) {c x y z : Int} (h : Pos W H D c x y z) : 0 ≤ c ∧ c < (K.length : Int) ∧ 0 ≤ z * H ∧ z * H + y < D * H ∧ 0 ≤ (z * H + y) * W ∧ D * H ≤ 16384 := by
  obtain ⟨x0, x1, y0, y1, z0, z1, rfl⟩ := h
  have hW := G.w1
  have hH := G.h1
  have a1 := Int.mul_nonneg z0 (show 0 ≤ H by omega)
  have a2 := Int.mul_le_mul_of_nonneg_right (show z ≤ D - 1 by omega) (show 0 ≤ H by omega)
  rw [Int.sub_mul, Int.one_mul] at a2
  have a3 := Int.mul_nonneg (show 0 ≤ z * H + y by omega) (show 0 ≤ W by omega)
  have a4 := Int.mul_le_mul_of_nonneg_right (show z * H + y ≤ D * H - 1 by omega) (show 0 ≤ W by omega)
  rw [Int.sub_mul, Int.one_mul] at a4
  have a5 : D * H * W = W * H * D := by rw [Int.mul_comm D H, Int.mul_comm _ W, Int.mul_assoc]
  have a6 := Int.mul_le_mul G.d2 G.h2 (by omega) (by omega)
  have := G.n
  refine ⟨by omega, by omega, a1, by omega, a3, by omega⟩
theorem Pos.parts (G : Good W H D K O) {c x y z : Int} (h : Pos W H D c x y z) : c / W = z * H + y ∧ c % W = x ∧ (z * H + y) / H = z ∧ (z * H + y) % H = y ∧ c / (W * H) = z := by
  obtain ⟨x0, x1, y0, y1, z0, z1, rfl⟩ := h
  have hW := G.w1
  have hH := G.h1
  have e1 := (Int.ediv_emod_unique (a := (z * H + y) * W + x) (b := W) (r := x) (q := z * H + y) (by omega)).2 ⟨by rw [Int.mul_comm W]; omega, x0, x1⟩
  have e2 := (Int.ediv_emod_unique (a := z * H + y) (b := H) (r := y) (q := z) (by omega)).2 ⟨by rw [Int.mul_comm H]; omega, y0, y1⟩
  have a1 := Int.mul_nonneg y0 (show 0 ≤ W by omega)
  have a2 := Int.mul_le_mul_of_nonneg_right (show y ≤ H - 1 by omega) (show 0 ≤ W by omega)
  rw [Int.sub_mul, Int.one_mul] at a2
  have e3 := (Int.ediv_emod_unique (a := (z * H + y) * W + x) (b := W * H) (r := y * W + x) (q := z) (by have := G.wh; omega)).2 ⟨by rw [Int.add_mul, show W * H * z = z * H * W by rw [Int.mul_comm (W * H), Int.mul_comm W, Int.mul_assoc]]; omega, by omega, by rw [Int.mul_comm W H]; omega⟩
  exact ⟨e1.1, e1.2, e2.1, e2.2, e3.1⟩
theorem size_good (G : Good W H D K O) : floor_size.f W H D K O = some (K.length : Int) := by
  have h := G.wh
  have := G.n
  have := G.n2
  unfold floor_size.f
  rw [wsm (W * H) (by omega) (by omega), wsm _ (by omega) (by omega), G.n]
theorem is_good (G : Good W H D K O) (c : Int) : floor_is.f W H D K O c = some (decide (0 ≤ c ∧ c < (K.length : Int))) := is_of_size (size_good G) c
theorem at_good (G : Good W H D K O) {c x y z : Int} (h : Pos W H D c x y z) : floor_At.f W H D K O c = some (x, y, z) := by
  have hr := h.range G
  have hp := h.parts G
  have hw := G.wh
  have := G.n2
  have := G.w1
  have := G.h1
  unfold floor_At.f
  rw [is_good G, decide_eq_true ⟨hr.1, hr.2.1⟩]
  simp only [Option.bind_some, if_true]
  rw [if_neg (by omega), if_neg (by omega), wsm (W * H) (by omega) (by omega), if_neg (by omega)]
  rw [Int.tmod_eq_emod_of_nonneg hr.1, Int.tdiv_eq_ediv_of_nonneg hr.1, Int.tdiv_eq_ediv_of_nonneg hr.1, hp.2.1, hp.1, hp.2.2.2.2]
  have hz := h.2.2.2.2
  have hy := h.2.2
  have := G.d2
  rw [wsm _ (by omega) (by omega), wsm z (by omega) (by omega), Int.tmod_eq_emod_of_nonneg (by omega), hp.2.2.2.1]
theorem cell_in (G : Good W H D K O) {c x y z : Int} (h : Pos W H D c x y z) : floor_Cell.f W H D K O x y z = some c := by
  have hr := h.range G
  have := G.n2
  obtain ⟨x0, x1, y0, y1, z0, z1, hc⟩ := h
  unfold floor_Cell.f
  rw [if_neg (by unfold mn; split <;> split <;> omega), if_neg (by omega), if_neg (by omega), if_neg (by omega)]
  rw [wsm (z * H) (by omega) (by omega), wsm (z * H + y) (by omega) (by omega), wsm ((z * H + y) * W) (by omega) (by omega), ← hc, wsm _ (by omega) (by omega)]
theorem cell_out {x y z : Int} (h : ¬ (0 ≤ x ∧ x < W ∧ 0 ≤ y ∧ y < H ∧ 0 ≤ z ∧ z < D)) : floor_Cell.f W H D K O x y z = some (-1) := by
  unfold floor_Cell.f
  by_cases h0 : mn (mn x y) z < 0
  · rw [if_pos h0]
  · rw [if_neg h0]
    have hx : 0 ≤ x ∧ 0 ≤ y ∧ 0 ≤ z := by
      unfold mn at h0
      split at h0 <;> split at h0 <;> omega
    by_cases h1 : x ≥ W
    · rw [if_pos h1]
    · rw [if_neg h1]
      by_cases h2 : y ≥ H
      · rw [if_pos h2]
      · rw [if_neg h2, if_pos (by omega)]
theorem beside_out (G : Good W H D K O) {c d : Int} (h : ¬ (0 ≤ c ∧ c < (K.length : Int) ∧ 0 ≤ d ∧ d < 6)) : floor_beside.f W H D K O c d = some (-1) := by
  unfold floor_beside.f
  rw [is_good G]
  simp only [Option.bind_some]
  by_cases hc : 0 ≤ c ∧ c < (K.length : Int)
  · rw [decide_eq_true hc, if_pos rfl]
    by_cases h0 : d < 0
    · rw [if_pos h0]
    · rw [if_neg h0, if_pos (by omega)]
  · rw [decide_eq_false hc, if_neg (by decide)]
theorem steps_small (d : Int) : -1 ≤ dxI d ∧ dxI d ≤ 1 ∧ -1 ≤ dyI d ∧ dyI d ≤ 1 ∧ -1 ≤ dzI d ∧ dzI d ≤ 1 := by
  unfold dxI dyI dzI
  refine ⟨?_, ?_, ?_, ?_, ?_, ?_⟩ <;> split <;> (try split) <;> omega
theorem beside_in (G : Good W H D K O) {c d x y z : Int} (h : Pos W H D c x y z) (d0 : 0 ≤ d) (d1 : d < 6) : floor_beside.f W H D K O c d = floor_Cell.f W H D K O (x + dxI d) (y + dyI d) (z + dzI d) := by
  have hr := h.range G
  have hs := steps_small d
  unfold floor_beside.f
  rw [is_good G, decide_eq_true ⟨hr.1, hr.2.1⟩]
  simp only [Option.bind_some, if_true]
  rw [if_neg (by omega), if_neg (by omega), at_good G h]
  simp only [Option.bind_some]
  have hx := h.1
  have hx1 := h.2.1
  have hy := h.2.2.1
  have hy1 := h.2.2.2.1
  have hz := h.2.2.2.2.1
  have hz1 := h.2.2.2.2.2.1
  have := G.w2
  have := G.h2
  have := G.d2
  rw [wsm (x + dxI d) (by omega) (by omega), wsm (y + dyI d) (by omega) (by omega), wsm (z + dzI d) (by omega) (by omega)]
theorem pos_in {x y z : Int} (h : 0 ≤ x ∧ x < W ∧ 0 ≤ y ∧ y < H ∧ 0 ≤ z ∧ z < D) : Pos W H D ((z * H + y) * W + x) x y z := ⟨h.1, h.2.1, h.2.2.1, h.2.2.2.1, h.2.2.2.2.1, h.2.2.2.2.2, rfl⟩
/-- The neighbour of a cell: there is one exactly if its place lies in the floor. -/
theorem beside_any (G : Good W H D K O) (c d : Int) : (∃ x y z r, 0 ≤ d ∧ d < 6 ∧ Pos W H D c x y z ∧ Pos W H D r (x + dxI d) (y + dyI d) (z + dzI d) ∧ floor_beside.f W H D K O c d = some r) ∨ floor_beside.f W H D K O c d = some (-1) := by
  by_cases h : 0 ≤ c ∧ c < (K.length : Int) ∧ 0 ≤ d ∧ d < 6
  · obtain ⟨x, y, z, hp⟩ := G.pos h.1 h.2.1
    rw [beside_in G hp h.2.2.1 h.2.2.2]
    by_cases hin : 0 ≤ x + dxI d ∧ x + dxI d < W ∧ 0 ≤ y + dyI d ∧ y + dyI d < H ∧ 0 ≤ z + dzI d ∧ z + dzI d < D
    · exact .inl ⟨x, y, z, _, h.2.2.1, h.2.2.2, hp, pos_in hin, cell_in G (pos_in hin)⟩
    · exact .inr (cell_out hin)
  · exact .inr (beside_out G h)
theorem opp_steps {d : Int} (d0 : 0 ≤ d) (d1 : d < 6) : 0 ≤ oppI d ∧ oppI d < 6 ∧ dxI (oppI d) = - dxI d ∧ dyI (oppI d) = - dyI d ∧ dzI (oppI d) = - dzI d ∧ oppI (oppI d) = d ∧ oppI d ≠ d ∧ (dxI d ≠ 0 ∨ dyI d ≠ 0 ∨ dzI d ≠ 0) := by
  have : d = 0 ∨ d = 1 ∨ d = 2 ∨ d = 3 ∨ d = 4 ∨ d = 5 := by omega
  rcases this with rfl | rfl | rfl | rfl | rfl | rfl <;> decide
theorem opp_out {d : Int} (h : ¬ (0 ≤ d ∧ d < 6)) : oppI d = -1 := by
  unfold oppI
  repeat (rw [if_neg (by omega)])
theorem beside_back (G : Good W H D K O) {c d r : Int} (h : floor_beside.f W H D K O c d = some r) (h0 : 0 ≤ r) : 0 ≤ c ∧ c < (K.length : Int) ∧ r < (K.length : Int) ∧ 0 ≤ d ∧ d < 6 ∧ r ≠ c ∧ floor_beside.f W H D K O r (oppI d) = some c := by
  rcases beside_any G c d with ⟨x, y, z, r', d0, d1, hc, hr, he⟩ | he
  · rw [h] at he
    obtain rfl := Option.some.inj he
    have hcr := hc.range G
    have hrr := hr.range G
    have ho := opp_steps d0 d1
    refine ⟨hcr.1, hcr.2.1, hrr.2.1, d0, d1, ?_, ?_⟩
    · intro e
      rw [e] at hr
      have p1 := hc.parts G
      have p2 := hr.parts G
      have e2 := p1.1.symm.trans p2.1
      have e3 := p2.2.2.1
      have e4 := p2.2.2.2.1
      rw [← e2] at e3 e4
      have e5 := p1.2.2.1
      have e6 := p1.2.2.2.1
      have e7 := p1.2.1
      have e8 := p2.2.1
      have e9 := ho.2.2.2.2.2.2.2
      rw [e5] at e3
      rw [e6] at e4
      rw [e7] at e8
      omega
    · rw [beside_in G hr ho.1 ho.2.1, ho.2.2.1, ho.2.2.2.1, ho.2.2.2.2.1]
      rw [show x + dxI d + -dxI d = x by omega, show y + dyI d + -dyI d = y by omega, show z + dzI d + -dzI d = z by omega]
      exact cell_in G hc
  · rw [h] at he
    obtain rfl := Option.some.inj he
    omega
theorem beside_total (G : Good W H D K O) (c d : Int) : ∃ r, floor_beside.f W H D K O c d = some r ∧ (r = -1 ∨ 0 ≤ r) := by
  rcases beside_any G c d with ⟨x, y, z, r, _, _, _, hr, he⟩ | he
  · exact ⟨r, he, .inr (hr.range G).1⟩
  · exact ⟨_, he, .inl rfl⟩

def okM (K O : List Int) (c r d : Int) : Prop := rd K c ≠ 0 ∧ rd K r ≠ 0 ∧ Go.bits .and .i64 (shr .i64 (rd O c) d) 1 ≠ 0 ∧ ((d = 4 ∨ d = 5) → rd K c = 6 ∧ rd K r = 6)
instance (K O : List Int) (c r d : Int) : Decidable (okM K O c r d) := by unfold okM; infer_instance
theorem next_good (G : Good W H D K O) (k : Nat) {c d r : Int} (h : floor_beside.f W H D K O c d = some r) : floor_Next.f (k + 1) W H D K O c d = some (if 0 ≤ r ∧ okM K O c r d then (r, true) else (0, false)) := by
  unfold floor_Next.f
  rw [h]
  simp only [Option.bind_some, floor_Next.j0]
  by_cases h0 : r < 0
  · have h1 : ¬ (0 ≤ r) := by omega
    simp [h0, h1]
  · rw [if_neg h0]
    obtain ⟨c0, c1, r1, d0, d1, _, _⟩ := beside_back G h (by omega)
    have hnO := G.nO
    unfold okM
    have e0 : (0 ≤ r) = True := eq_true (by omega)
    have e1 : (0 ≤ c) = True := eq_true c0
    have e2 : (c < (K.length : Int)) = True := eq_true c1
    have e3 : (r < (K.length : Int)) = True := eq_true r1
    have e4 : (c < (O.length : Int)) = True := eq_true (by omega)
    have e5 : (0 ≤ d) = True := eq_true d0
    simp only [e0, e1, e2, e3, e4, e5, if_true, true_and]
    by_cases k1 : rd K c = 0
    · simp [k1]
    · by_cases k2 : rd K r = 0
      · simp [k1, k2]
      · by_cases k3 : Go.bits .and .i64 (shr .i64 (rd O c) d) 1 = 0
        · simp [k1, k2, k3]
        · by_cases k4 : d = 4
          · subst k4
            by_cases k5 : rd K c = 6 <;> by_cases k6 : rd K r = 6 <;> simp [k1, k2, k3, k5, k6]
          · by_cases k7 : d = 5
            · subst k7
              by_cases k5 : rd K c = 6 <;> by_cases k6 : rd K r = 6 <;> simp [k1, k2, k3, k5, k6]
            · simp [k1, k2, k3, k4, k7]
theorem back_good (G : Good W H D K O) (k : Nat) {c d r : Int} (h : floor_beside.f W H D K O c (oppI d) = some r) : floor_Back.f (k + 1) W H D K O c d = some (if 0 ≤ r ∧ okM K O r c d then (r, true) else (0, false)) := by
  unfold floor_Back.f floor_Opposite.f
  simp only [Option.bind_some]
  rw [h]
  simp only [Option.bind_some]
  by_cases h0 : r < 0
  · rw [if_pos h0, if_neg (by omega)]
  · rw [if_neg h0]
    obtain ⟨c0, c1, r1, d0, d1, _, hb⟩ := beside_back G h (by omega)
    have hd : 0 ≤ d ∧ d < 6 := by
      refine Decidable.byContradiction fun hh => ?_
      rw [opp_out hh] at d0
      omega
    rw [(opp_steps hd.1 hd.2).2.2.2.2.2.1] at hb
    rw [next_good G k hb]
    simp only [Option.bind_some]
    have h1 : 0 ≤ r := by omega
    have e : floor_beside.f W H D K O r d = some c := hb
    by_cases hk : okM K O r c d
    · simp [hk, h1, (beside_back G e (by have := (beside_back G h h1).1; omega)).1, (beside_back G h h1).1]
    · simp [hk]
end
end Go.Proofs.Ytmnncmpmhbfpcaa.P
