/- The law FloorPaths, whole: what it asks holds, the walk where it answers at once, and all of it. -/
import Derived.Test.YtmnncmpmhbfpcaaQ0
import Derived.Test.YtmnncmpmhbfpcaaK
import Derived.Test.YtmnncmpmhbfpcaaR
namespace Go.Proofs.Ytmnncmpmhbfpcaa.P
set_option linter.unusedVariables false
set_option linter.unusedSimpArgs false
open Go.RowKit Go.Proofs.YtmnncmpmhbfpcaaW.PrintWords Go.Proofs.YtmnncmpmhbfpcaaW.PrintLast Go.Proofs.YtmnncmpmhbfpcaaW.PrintMore
open Go.Proofs.Ytmnncmpmhbfpcaa.A Go.Proofs.Ytmnncmpmhbfpcaa.H Go.Proofs.Ytmnncmpmhbfpcaa.B Go.Proofs.Ytmnncmpmhbfpcaa.S Go.Proofs.Ytmnncmpmhbfpcaa.C Go.Proofs.Ytmnncmpmhbfpcaa.D Go.Proofs.Ytmnncmpmhbfpcaa.F Go.Proofs.Ytmnncmpmhbfpcaa.G
section
variable {W H D : Int} {K O : List Int}
theorem path_out (G : Good W H D K O) (a b : Int) (l2 : List Int) (h : ¬ (0 ≤ a ∧ a < (K.length : Int) ∧ 0 ≤ b ∧ b < (K.length : Int))) : floor_Path.f 5000 W H D K O a b l2 = some [] := by
  have hj : floor_Path.j0 5000 a b l2 true W H D K O = some [] := by
    rw [floor_Path.j0, if_pos rfl]
  unfold floor_Path.f
  rw [is_good G]
  simp only [Option.bind_some]
  by_cases ha : 0 ≤ a ∧ a < (K.length : Int)
  · rw [decide_eq_true ha, if_pos rfl, is_good G]
    simp only [Option.bind_some]
    rw [decide_eq_false (fun hb => h ⟨ha.1, ha.2, hb.1, hb.2⟩)]
    exact hj
  · rw [decide_eq_false ha, if_neg (by simp)]
    exact hj
theorem path_in (G : Good W H D K O) (hn : K.length ≤ 300) (a b : Nat) (ha : a < K.length) (hb : b < K.length) (l2 : List Int) :
    ∃ left, DistOf K.length (floor_Back.f 1 W H D K O) (avoidP K.length (openP K) l2) [(b : Int)] left ∧
      ((left.getD a 0 < 0 ∧ floor_Path.f 5000 W H D K O a b l2 = some []) ∨ ∃ q, floor_Path.f 5000 W H D K O a b l2 = some ((a : Int) :: q) ∧ (q.length : Int) = left.getD a 0 ∧ WayP W H D K O left a q) := by
  obtain ⟨left, h1, h2⟩ := spread_dist (moves_back G) (by omega) K [(b : Int)] l2 rfl
  refine ⟨left, h2, ?_⟩
  have hs : floor_spreadBack.f W H D K O [(b : Int)] l2 = some left := by
    unfold floor_spreadBack.f
    rw [if_pos ⟨G.len1, by omega, size_good G⟩, h1]
  have hP : floor_Path.f 5000 W H D K O a b l2 = floor_Path.j0 5000 a b l2 false W H D K O := by
    unfold floor_Path.f
    rw [is_good G, is_good G, decide_eq_true ⟨by omega, by omega⟩]
    simp only [Option.bind_some, if_true]
    rw [decide_eq_true ⟨by omega, by omega⟩]
    rfl
  rw [hP, floor_Path.j0, if_neg (by simp), hs]
  simp only [Option.bind_some]
  rw [if_pos (by omega), if_pos (by rw [h2.len]; omega), rd_nat]
  by_cases h0 : left.getD a 0 < 0
  · rw [if_pos h0]
    exact .inl ⟨h0, rfl⟩
  · rw [if_neg h0]
    have hsm := h2.small a ha
    obtain ⟨q, g1, g2, g3⟩ := path_loop G h2 (left.getD a 0).toNat a [(a : Int)] 4999 ha (by omega) (by omega) (by show 1 + _ < _; omega)
    exact .inr ⟨q, g1, by omega, g3⟩

theorem asked_paths (G : Good W H D K O) (hn : K.length ≤ 300) (a b : Int) (l2 far : List Int) (hfar : DistOf K.length (floor_Next.f 1 W H D K O) (avoidP K.length (openP K) l2) [a] far) :
    ∃ p, floor_Path.f 5000 W H D K O a b l2 = some p ∧ AskedP W H D K O a b l2 p far := by
  by_cases hin : 0 ≤ a ∧ a < (K.length : Int) ∧ 0 ≤ b ∧ b < (K.length : Int)
  rotate_left
  · refine ⟨[], path_out G a b l2 hin, hfar.len, fun _ => rfl, fun bn h1 h2 h3 h4 => absurd ⟨h3, h4, by omega, by omega⟩ hin, fun i hi => by simp at hi, fun h => by simp at h, fun i h => by simp at h, fun i h => by simp at h⟩
  obtain ⟨a0, a1, b0, b1⟩ := hin
  obtain ⟨an, rfl⟩ : ∃ n : Nat, a = n := ⟨a.toNat, by omega⟩
  obtain ⟨bn, rfl⟩ : ∃ n : Nat, b = n := ⟨b.toNat, by omega⟩
  have ha : an < K.length := by omega
  have hb : bn < K.length := by omega
  obtain ⟨left, hl, hp⟩ := path_in G hn an bn ha hb l2
  have heq : far.getD bn 0 = left.getD an 0 := dual_eq ha hb hfar hl (fun c m _ _ h => adj_nb G h) (fun c m _ _ h => adj_bn G h)
  have hsm := hfar.small bn hb
  rcases hp with ⟨h0, hp⟩ | ⟨q, hp, hq, hw⟩
  · refine ⟨[], hp, hfar.len, fun _ => rfl, fun bn' h1 h2 h3 h4 => ?_, fun i hi => by simp at hi, fun h => by simp at h, fun i h => by simp at h, fun i h => by simp at h⟩
    have : bn' = bn := by omega
    subst this
    have := hfar.neg bn' hb (by omega)
    constructor
    · rw [this]; rfl
    · omega
  · obtain ⟨g1, g2⟩ := way_at q an hw
    have hcell : ∀ i, i < ((an : Int) :: q).length → ∃ c : Nat, ((an : Int) :: q).getD i 0 = c ∧ c < K.length ∧ left.getD c 0 = (q.length : Int) - i := by
      intro i hi
      have hr : 0 ≤ ((an : Int) :: q).getD i 0 ∧ ((an : Int) :: q).getD i 0 < (K.length : Int) := by
        cases i with
        | zero => simp; exact ha
        | succ i =>
          have := g1 i (by simp at hi; omega)
          exact ⟨this.1, this.2.1⟩
      have h2 := g2 i (by simp at hi; omega)
      refine ⟨(((an : Int) :: q).getD i 0).toNat, by omega, by omega, h2⟩
    refine ⟨(an : Int) :: q, hp, hfar.len, fun h => absurd ⟨a0, a1, b0, b1⟩ h, fun bn' h1 h2 h3 h4 => ?_, fun i hi => ?_, fun h => rfl, fun i hi => ?_, fun i hi => ?_⟩
    · have : bn' = bn := by omega
      subst this
      constructor
      · simp only [List.length_cons]
        push_cast
        omega
      · omega
    · obtain ⟨c, hc, hcn, hv⟩ := hcell i hi
      refine ⟨c, hc, hcn, ?_⟩
      have := hl.shut c hcn (by simp at hi; omega)
      exact ((mask_at K l2 c hcn).1 this).2
    · obtain ⟨c, hc, hcn, hv⟩ := hcell i (by omega)
      rw [hc]
      have h0 : left.getD c 0 = 0 := by
        rw [hv]
        simp at hi
        omega
      have := ((hl.zero c hcn).1 h0).2
      exact List.mem_singleton.1 this
    · have hi' : i < q.length := by simp at hi; omega
      obtain ⟨hm0, hm1, hmv, d0, hd0, hN, hlow⟩ := g1 i hi'
      obtain ⟨c, hc, hcn, hv⟩ := hcell i (by omega)
      rw [hc] at hN hlow hmv ⊢
      rw [Int.toNat_natCast] at hlow hmv
      refine ⟨d0, hd0, hN, fun d hd => ?_⟩
      obtain ⟨m, ok, hm⟩ := next_total G c d
      refine ⟨m, ok, hm, fun e => ?_⟩
      subst e
      have hne := hlow d hd m hm
      refine ⟨fun e => hne (by rw [e]; exact hmv), ?_⟩
      have hadj := next_adj G hm
      obtain ⟨mn, rfl⟩ : ∃ mn : Nat, m = mn := ⟨m.toNat, by omega⟩
      have hmn : mn < K.length := by omega
      obtain ⟨rest, hr1, hr2⟩ := dist_good G [(mn : Int)] l2
      refine ⟨rest, hr1, hr2.len, fun bn' h1 h2 => ?_⟩
      have : bn' = bn := by omega
      subst this
      have he : rest.getD bn' 0 = left.getD mn 0 := dual_eq hmn hb hr2 hl (fun c m _ _ h => adj_nb G h) (fun c m _ _ h => adj_bn G h)
      rw [he] at h2
      have hmask := hl.shut c hcn (by omega)
      have hnx := hl.next mn c hmn hcn h2.1 ⟨d, by omega, adj_back G hm⟩ hmask
      rw [Int.toNat_natCast] at hne
      have h22 := h2.2
      simp only [List.length_cons] at h22
      push_cast at h22
      omega
end
end Go.Proofs.Ytmnncmpmhbfpcaa.P
namespace Go.Proofs.Ytmnncmpmhbfpcaa.G
set_option linter.unusedVariables false
set_option linter.unusedSimpArgs false
open Go.RowKit Go.Proofs.YtmnncmpmhbfpcaaW.PrintWords Go.Proofs.YtmnncmpmhbfpcaaW.PrintLast Go.Proofs.YtmnncmpmhbfpcaaW.PrintMore
open Go.Proofs.Ytmnncmpmhbfpcaa.A Go.Proofs.Ytmnncmpmhbfpcaa.H Go.Proofs.Ytmnncmpmhbfpcaa.B Go.Proofs.Ytmnncmpmhbfpcaa.S Go.Proofs.Ytmnncmpmhbfpcaa.C Go.Proofs.Ytmnncmpmhbfpcaa.D Go.Proofs.Ytmnncmpmhbfpcaa.F Go.Proofs.Ytmnncmpmhbfpcaa.P


set_option maxRecDepth 100000 in
set_option maxHeartbeats 8000000 in
theorem paths_early (a0_0 : Int) (a0_1 : Int) (a0_2 : Int) (A0_3 : Option Addr) (c0_3 : Nat) (l0_3 : List Int) (A0_4 : Option Addr) (c0_4 : Nat) (l0_4 : List Int) (a1 : Int) (a2 : Int) (A3 : Option Addr) (c3 : Nat) (l3 : List Int) (w : World)
    (hr0_3 : Kd.C (Kd.int .i64) w A0_3 l0_3.length l0_3) (hc0_3 : l0_3.length ≤ c0_3) (hr0_4 : Kd.C (Kd.int .i64) w A0_4 l0_4.length l0_4) (hc0_4 : l0_4.length ≤ c0_4)
    (hr3 : Kd.C (Kd.int .i64) w A3 l3.length l3) (hc3 : l3.length ≤ c3)
    (b : Bool) (hfair : taquinlaw07_fair.f 5000 a0_0 a0_1 a0_2 l0_3 l0_4 300 = some b) (hl3 : l3.length ≤ 9223372036854775807) (hq : b = false ∨ 30 < l3.length) :
    Calls Try.prog 5 #[.agg #[.int .i64 a0_0, .int .i64 a0_1, .int .i64 a0_2, .slice A0_3 l0_3.length c0_3, .slice A0_4 l0_4.length c0_4], .int .i64 a1, .int .i64 a2, .slice A3 l3.length c3] w fun e w' => e = .returned (.bool true) ∧ Below w.heap.size w w' := by
  have HSM := Lib.hid (fun W => taquinlaw07_small.calls 100 true W small_holds)
  have HFA := Lib.hid (fun W (h : Below w.heap.size w W) => taquinlaw07_fair.calls 5000 a0_0 a0_1 a0_2 A0_3 c0_3 l0_3 A0_4 c0_4 l0_4 300 b W (Kd.C_below hr0_3 h) hc0_3 (Kd.C_below hr0_4 h) hc0_4 hfair)
  have HFB := Lib.hid (FBox.new w #[.int .i64 a0_0, .int .i64 a0_1, .int .i64 a0_2, .slice A0_3 l0_3.length c0_3, .slice A0_4 l0_4.length c0_4])
  have HBa := Lib.hid ((Below.refl w.heap.size w).alloc (Nat.le_refl _) (.cells #[.int .i64 a0_0, .int .i64 a0_1, .int .i64 a0_2, .slice A0_3 l0_3.length c0_3, .slice A0_4 l0_4.length c0_4] 24))
  clear hfair hr0_3 hr0_4 hr3
  go_enter Try.func5, Try.ntmps5
  go_wp2_with fail
  refine (HSM.out _).mono ?_
  rintro e w1 ⟨rfl, hb1⟩
  have HB1 := Lib.hid (HBa.out.trans (hb1.mono HBa.out.size))
  have hf1 := HFB.out.below hb1 (by simp)
  have HF1 := Lib.hid hf1
  obtain ⟨e0, e1, e2, e3, e4⟩ := hf1.cells
  clear hb1 hf1 HFB HBa
  go_wp2_with fail
  refine (HFA.out _ HB1.out).mono ?_
  rintro e w2 ⟨rfl, hb2⟩
  have HB2 := Lib.hid (HB1.out.trans (hb2.mono HB1.out.size))
  clear hb2 HB1
  cases b with
  | false =>
    go_wp2_with fail
    go_ret
    exact ⟨rfl, HB2.out⟩
  | true =>
    have h2 : 30 < l3.length := by
      rcases hq with h | h
      · cases h
      · exact h
    have d2 : decide ((l3.length : Int) > 30) = true := decide_eq_true (by omega)
    go_wp2_with fail
    go_ret
    exact ⟨rfl, HB2.out⟩

theorem floorPaths_all (a0_0 : Int) (a0_1 : Int) (a0_2 : Int) (A0_3 : Option Addr) (c0_3 : Nat) (l0_3 : List Int) (A0_4 : Option Addr) (c0_4 : Nat) (l0_4 : List Int) (a1 : Int) (a2 : Int) (A3 : Option Addr) (c3 : Nat) (l3 : List Int) (w : World)
    (hr0_3 : Kd.C (Kd.int .i64) w A0_3 l0_3.length l0_3) (hc0_3 : l0_3.length ≤ c0_3) (hr0_4 : Kd.C (Kd.int .i64) w A0_4 l0_4.length l0_4) (hc0_4 : l0_4.length ≤ c0_4)
    (hr3 : Kd.C (Kd.int .i64) w A3 l3.length l3) (hc3 : l3.length ≤ c3) (hl3 : l3.length ≤ 9223372036854775807) :
    Calls Try.prog 5 #[.agg #[.int .i64 a0_0, .int .i64 a0_1, .int .i64 a0_2, .slice A0_3 l0_3.length c0_3, .slice A0_4 l0_4.length c0_4], .int .i64 a1, .int .i64 a2, .slice A3 l3.length c3] w fun e w' => e = .returned (.bool true) ∧ Below w.heap.size w w' := by
  obtain ⟨b, hb, hb2⟩ := fair_said a0_0 a0_1 a0_2 l0_3 l0_4 300 5000 (by omega) (by omega)
  by_cases hq : b = false ∨ 30 < l3.length
  · exact paths_early a0_0 a0_1 a0_2 A0_3 c0_3 l0_3 A0_4 c0_4 l0_4 a1 a2 A3 c3 l3 w hr0_3 hc0_3 hr0_4 hc0_4 hr3 hc3 b hb hl3 hq
  · have hbt : b = true := by cases b <;> simp_all
    subst hbt
    obtain ⟨G, hn⟩ := hb2.1 rfl
    have h30 : l3.length ≤ 30 := by omega
    obtain ⟨far, h1, h2⟩ := dist_good G [a1] l3
    obtain ⟨p, h3, h4⟩ := asked_paths G (by omega) a1 a2 l3 far h2
    exact paths_walk a0_0 a0_1 a0_2 A0_3 c0_3 l0_3 A0_4 c0_4 l0_4 a1 a2 A3 c3 l3 w hr0_3 hc0_3 hr0_4 hc0_4 hr3 hc3 hb h30 G.len1 (by omega) p far h3 h1 h4 (fun l x hl => has_said l x hl)
end Go.Proofs.Ytmnncmpmhbfpcaa.G
