/- FloorTells: part 5 of 6: the texts of this claim, merged, without what they do not name (by pack.py, a program of this session). -/
import Derived.Test.YtmnncmpmhbfpcaaZt4
section
namespace Go.Proofs.Ytmnncmpmhbfpcaa.J
open Go.Proofs.Ytmnncmpmhbfpcaa.A
open Go.Proofs.Ytmnncmpmhbfpcaa.H
open Go.Proofs.Ytmnncmpmhbfpcaa.B
open Go.Proofs.Ytmnncmpmhbfpcaa.S
open Go.Proofs.Ytmnncmpmhbfpcaa.C
open Go.Proofs.Ytmnncmpmhbfpcaa.D
open Go.RowKit Go.Proofs.YtmnncmpmhbfpcaaW.PrintWords Go.Proofs.YtmnncmpmhbfpcaaW.PrintLast Go.Proofs.YtmnncmpmhbfpcaaW.PrintMore
attribute [local go_sem] max2_int min2_int max_two min_two max_three min_three max_four min_four   -- for this text's walks alone
set_option linter.unusedVariables false
set_option linter.unusedSimpArgs false
mutual
def taquinref07_spread.l0 : Nat → List Int → List Int → Bool → List Bool → Int → Int → Int → Int → List Int → List Int → Option (List Int)
  | 0, _, _, _, _, _, _, _, _, _, _ => none
  | k + 1, x1, x2, x3, x9, x10, x236000, x236001, x236002, x236003, x236004 => if x10 < (x2.length : Int) then (if 0 ≤ x10 then ((taquinref07_Is.f x236000 x236001 x236002 x236003 x236004 (rd x2 x10)).bind fun t241 => (if t241 = true then (if 0 ≤ (rd x2 x10) then (if (rd x2 x10) < (x9.length : Int) then (taquinref07_spread.l0 k x1 x2 x3 (x9.set ((rd x2 x10) : Int).toNat true) (wrap64 (x10 + 1)) x236000 x236001 x236002 x236003 x236004) else (none)) else (none)) else (taquinref07_spread.l0 k x1 x2 x3 x9 (wrap64 (x10 + 1)) x236000 x236001 x236002 x236003 x236004))) else (none)) else ((taquinref07_Size.f x236000 x236001 x236002 x236003 x236004).bind fun t244 => (if 0 ≤ t244 then (if (t244 : Int).toNat ≤ 35184372088832 then (taquinref07_spread.l1 k x1 x3 x9 (List.replicate (t244 : Int).toNat 0) 0 x236000 x236001 x236002 x236003 x236004) else (none)) else (none)))
def taquinref07_spread.l1 : Nat → List Int → Bool → List Bool → List Int → Int → Int → Int → Int → List Int → List Int → Option (List Int)
  | 0, _, _, _, _, _, _, _, _, _, _ => none
  | k + 1, x1, x3, x9, x11, x12, x236000, x236001, x236002, x236003, x236004 => if x12 < (x11.length : Int) then (if 0 ≤ x12 then ((some (x11.set (x12 : Int).toNat (-1) : List Int)).bind fun y248 => (if x12 < (x9.length : Int) then (if rdOf false x9 x12 = true then (taquinref07_spread.l1 k x1 x3 (x9.set (x12 : Int).toNat true) y248 (wrap64 (x12 + 1)) x236000 x236001 x236002 x236003 x236004) else (if x12 < (x236003.length : Int) then (taquinref07_spread.l1 k x1 x3 (x9.set (x12 : Int).toNat ((rd x236003 x12) == 0)) y248 (wrap64 (x12 + 1)) x236000 x236001 x236002 x236003 x236004) else (none))) else (none))) else (none)) else (taquinref07_spread.l2 k x1 x3 x9 x11 ([] : List Int) 0 x236000 x236001 x236002 x236003 x236004)
def taquinref07_spread.l2 : Nat → List Int → Bool → List Bool → List Int → List Int → Int → Int → Int → Int → List Int → List Int → Option (List Int)
  | 0, _, _, _, _, _, _, _, _, _, _, _ => none
  | k + 1, x1, x3, x9, x11, x13, x14, x236000, x236001, x236002, x236003, x236004 => if x14 < (x1.length : Int) then (if 0 ≤ x14 then ((taquinref07_Is.f x236000 x236001 x236002 x236003 x236004 (rd x1 x14)).bind fun t254 => (if t254 = true then (if 0 ≤ (mx 0 (mn (rd x1 x14) (wrap64 ((x9.length : Int) - 1)))) then (if (mx 0 (mn (rd x1 x14) (wrap64 ((x9.length : Int) - 1)))) < (x9.length : Int) then (if (rdOf false x9 (mx 0 (mn (rd x1 x14) (wrap64 ((x9.length : Int) - 1)))) = true) then (taquinref07_spread.j3 k x1 x3 x9 x11 x13 x14 (rd x1 x14) false x236000 x236001 x236002 x236003 x236004) else (if 0 ≤ (mx 0 (mn (rd x1 x14) (wrap64 ((x11.length : Int) - 1)))) then (if (mx 0 (mn (rd x1 x14) (wrap64 ((x11.length : Int) - 1)))) < (x11.length : Int) then (taquinref07_spread.j3 k x1 x3 x9 x11 x13 x14 (rd x1 x14) (decide ((rd x11 (mx 0 (mn (rd x1 x14) (wrap64 ((x11.length : Int) - 1))))) < 0)) x236000 x236001 x236002 x236003 x236004) else (none)) else (none))) else (none)) else (none)) else (taquinref07_spread.j3 k x1 x3 x9 x11 x13 x14 (rd x1 x14) false x236000 x236001 x236002 x236003 x236004))) else (none)) else (taquinref07_spread.l3 k x3 x9 x11 x13 0 x236000 x236001 x236002 x236003 x236004)
def taquinref07_spread.j3 : Nat → List Int → Bool → List Bool → List Int → List Int → Int → Int → Bool → Int → Int → Int → List Int → List Int → Option (List Int)
  | 0, _, _, _, _, _, _, _, _, _, _, _, _, _ => none
  | k + 1, x1, x3, x9, x11, x13, x14, x15, x105, x236000, x236001, x236002, x236003, x236004 => if x105 = true then (if 0 ≤ x15 then (if x15 < (x11.length : Int) then (if x13.length < 17592186044416 then (taquinref07_spread.l2 k x1 x3 x9 (x11.set (x15 : Int).toNat 0) (x13 ++ [x15]) (wrap64 (x14 + 1)) x236000 x236001 x236002 x236003 x236004) else (none)) else (none)) else (none)) else (taquinref07_spread.l2 k x1 x3 x9 x11 x13 (wrap64 (x14 + 1)) x236000 x236001 x236002 x236003 x236004)
def taquinref07_spread.l3 : Nat → Bool → List Bool → List Int → List Int → Int → Int → Int → Int → List Int → List Int → Option (List Int)
  | 0, _, _, _, _, _, _, _, _, _, _ => none
  | k + 1, x3, x9, x11, x13, x16, x236000, x236001, x236002, x236003, x236004 => if x16 < (x13.length : Int) then (if 0 ≤ x16 then (taquinref07_spread.l4 k x3 x9 x11 x13 x16 (rd x13 x16) 0 x236000 x236001 x236002 x236003 x236004) else (none)) else (some x11)
def taquinref07_spread.l4 : Nat → Bool → List Bool → List Int → List Int → Int → Int → Int → Int → Int → Int → List Int → List Int → Option (List Int)
  | 0, _, _, _, _, _, _, _, _, _, _, _, _ => none
  | k + 1, x3, x9, x11, x13, x16, x17, x18, x236000, x236001, x236002, x236003, x236004 => if x18 < 6 then ((taquinref07_Next.f k x236000 x236001 x236002 x236003 x236004 x17 x18).bind fun bt262 => (if x3 = true then ((taquinref07_Back.f k x236000 x236001 x236002 x236003 x236004 x17 x18).bind fun bt264 => (taquinref07_spread.j6 k x3 x9 x11 x13 x16 x17 x18 bt264.1 bt264.2 x236000 x236001 x236002 x236003 x236004)) else (taquinref07_spread.j6 k x3 x9 x11 x13 x16 x17 x18 bt262.1 bt262.2 x236000 x236001 x236002 x236003 x236004))) else (taquinref07_spread.l3 k x3 x9 x11 x13 (wrap64 (x16 + 1)) x236000 x236001 x236002 x236003 x236004)
def taquinref07_spread.j6 : Nat → Bool → List Bool → List Int → List Int → Int → Int → Int → Int → Bool → Int → Int → Int → List Int → List Int → Option (List Int)
  | 0, _, _, _, _, _, _, _, _, _, _, _, _, _, _ => none
  | k + 1, x3, x9, x11, x13, x16, x17, x18, x19, x20, x236000, x236001, x236002, x236003, x236004 => if x20 = true then (if 0 ≤ x19 then (if x19 < (x9.length : Int) then (if rdOf false x9 x19 = true then (taquinref07_spread.j7 k x3 x9 x11 x13 x16 x17 x18 x19 false x236000 x236001 x236002 x236003 x236004) else (if x19 < (x11.length : Int) then (taquinref07_spread.j7 k x3 x9 x11 x13 x16 x17 x18 x19 (decide ((rd x11 x19) < 0)) x236000 x236001 x236002 x236003 x236004) else (none))) else (none)) else (none)) else (taquinref07_spread.j7 k x3 x9 x11 x13 x16 x17 x18 x19 false x236000 x236001 x236002 x236003 x236004)
def taquinref07_spread.j7 : Nat → Bool → List Bool → List Int → List Int → Int → Int → Int → Int → Bool → Int → Int → Int → List Int → List Int → Option (List Int)
  | 0, _, _, _, _, _, _, _, _, _, _, _, _, _, _ => none
  | k + 1, x3, x9, x11, x13, x16, x17, x18, x19, x156, x236000, x236001, x236002, x236003, x236004 => if x156 = true then (if 0 ≤ x17 then (if x17 < (x11.length : Int) then (if 0 ≤ x19 then (if x19 < (x11.length : Int) then (if x13.length < 17592186044416 then (taquinref07_spread.l4 k x3 x9 (x11.set (x19 : Int).toNat (wrap64 ((rd x11 x17) + 1))) (x13 ++ [x19]) x16 x17 (wrap64 (x18 + 1)) x236000 x236001 x236002 x236003 x236004) else (none)) else (none)) else (none)) else (none)) else (none)) else (taquinref07_spread.l4 k x3 x9 x11 x13 x16 x17 (wrap64 (x18 + 1)) x236000 x236001 x236002 x236003 x236004)
end
def taquinref07_spread.f (k : Nat) (a0_0 : Int) (a0_1 : Int) (a0_2 : Int) (l0_3 : List Int) (l0_4 : List Int) (l1 : List Int) (l2 : List Int) (a3 : Bool) : Option (List Int) := (taquinref07_Size.f a0_0 a0_1 a0_2 l0_3 l0_4).bind fun t236 => (if 0 ≤ t236 then (if (t236 : Int).toNat ≤ 281474976710656 then (taquinref07_spread.l0 k l1 l2 a3 (List.replicate (t236 : Int).toNat false) 0 a0_0 a0_1 a0_2 l0_3 l0_4) else (none)) else (none))
set_option maxHeartbeats 8000000 in
set_option maxRecDepth 100000 in
theorem taquinref07_spread.calls (k : Nat) (a0_0 : Int) (a0_1 : Int) (a0_2 : Int) (A0_3 : Option Addr) (c0_3 : Nat) (l0_3 : List Int) (A0_4 : Option Addr) (c0_4 : Nat) (l0_4 : List Int) (A1 : Option Addr) (c1 : Nat) (l1 : List Int) (A2 : Option Addr) (c2 : Nat) (l2 : List Int) (a3 : Bool) (r : List Int) (w : World) (hr0_3 : Kd.C (Kd.int .i64) w A0_3 l0_3.length l0_3) (hc0_3 : l0_3.length ≤ c0_3) (hr0_4 : Kd.C (Kd.int .i64) w A0_4 l0_4.length l0_4) (hc0_4 : l0_4.length ≤ c0_4) (hr1 : Kd.C (Kd.int .i64) w A1 l1.length l1) (hc1 : l1.length ≤ c1) (hr2 : Kd.C (Kd.int .i64) w A2 l2.length l2) (hc2 : l2.length ≤ c2) (h : taquinref07_spread.f k a0_0 a0_1 a0_2 l0_3 l0_4 l1 l2 a3 = some r) :
    Calls Try.prog 70 #[.agg #[.int .i64 a0_0, .int .i64 a0_1, .int .i64 a0_2, .slice A0_3 l0_3.length c0_3, .slice A0_4 l0_4.length c0_4], .slice A1 l1.length c1, .slice A2 l2.length c2, .bool a3] w fun e w' => ∃ v0_ : Value, e = .returned (v0_) ∧ Kd.R (Kd.int .i64) 3 w' w.heap.size (fun _ => True) v0_ r ∧ Below w.heap.size w w' := by
  have hu24 := Try.underlying24
  have HR0_3 := Aside0.mk hr0_3
  have HC0_3 := Aside0.mk hc0_3
  clear hr0_3 hc0_3
  have HR0_4 := Aside0.mk hr0_4
  have HC0_4 := Aside0.mk hc0_4
  clear hr0_4 hc0_4
  have HR1 := Aside0.mk hr1
  have HC1 := Aside0.mk hc1
  clear hr1 hc1
  have HR2 := Aside0.mk hr2
  have HC2 := Aside0.mk hc2
  clear hr2 hc2
  have HB := Aside0.mk (Below.refl w.heap.size w)
  have H : ((taquinref07_Size.f a0_0 a0_1 a0_2 l0_3 l0_4).bind fun t236 => (if 0 ≤ t236 then (if (t236 : Int).toNat ≤ 281474976710656 then (taquinref07_spread.l0 k l1 l2 a3 (List.replicate (t236 : Int).toNat false) 0 a0_0 a0_1 a0_2 l0_3 l0_4) else (none)) else (none))) = some r := h
  clear h
  replace H := Option.bind_eq_some_iff.mp H
  obtain ⟨t236, A50, H⟩ := H
  replace H : (if 0 ≤ t236 then (if (t236 : Int).toNat ≤ 281474976710656 then (taquinref07_spread.l0 k l1 l2 a3 (List.replicate (t236 : Int).toNat false) 0 a0_0 a0_1 a0_2 l0_3 l0_4) else (none)) else (none)) = some r := H
  have A5 := Aside0.mk A50
  clear A50
  by_cases c6 : 0 ≤ t236
  · rw [if_pos c6] at H
    have c6b0 := eq_true c6
    have c6b1 : decide (0 ≤ t236) = true := decide_eq_true c6
    clear c6
    by_cases c7 : (t236 : Int).toNat ≤ 281474976710656
    · rw [if_pos c7] at H
      have c7b0 := eq_true c7
      have c7b1 : decide ((t236 : Int).toNat ≤ 281474976710656) = true := decide_eq_true c7
      clear c7
      obtain ⟨y237, hy237⟩ : ∃ y_ : List Bool, y_ = (List.replicate (t236 : Int).toNat false) := ⟨_, rfl⟩
      replace H : (taquinref07_spread.l0 k l1 l2 a3 y237 0 a0_0 a0_1 a0_2 l0_3 l0_4) = some r := by first | (rw [hy237]; with_reducible exact H) | (have H2_ := (Option.bind_some _ _).symm.trans H; rw [hy237]; with_reducible exact H2_) | (have H2_ := (Option.bind_some _ _).symm.trans H; with_reducible exact H2_) | with_reducible exact H | (rw [hy237]; exact H) | exact H
      have Ny237 := Aside0.mk hy237
      clear hy237
      have H' := Aside0.mk H
      clear H
      go_enter Try.func70, Try.ntmps70
      go_wp2_with (first | ((with_reducible refine gate_dst (N := 4) rfl ?_); (try (refine gate_guard (by rfl) ?_; dsimp only)); refine box_event ?hg (N := 4) ?hd (cs := #[.int .i64 a0_0, .int .i64 a0_1, .int .i64 a0_2, .slice A0_3 l0_3.length c0_3, .slice A0_4 l0_4.length c0_4]) (t := 24) ?hr ?_; (case hd => rfl); (case hg => rfl); (case hr => first | (go_simp; done) | (go_simp; rfl)); intro gb235 hg w8 hbox hb; have n0_ := Aside0.mk (below_step (by repeat (first | (with_reducible first | exact HB.out | apply below_alloc | apply pw_below_drewN | apply below_drew1) | exact HB.out)) hb); have n1_ := Aside0.mk (hbox); have n2_ := Aside0.mk ((by rw [hg]; exact (below_size (by repeat (first | (with_reducible first | exact HB.out | apply below_alloc | apply pw_below_drewN | apply below_drew1) | exact HB.out))) : w.heap.size ≤ gb235)); have n3_ := Aside0.mk ((by rw [hg]; exact (below_size (by repeat (first | (with_reducible first | exact HB.out | apply below_alloc | apply pw_below_drewN | apply below_drew1) | exact HB.out))) : w.heap.size ≤ gb235)); clear HB; have HB := n0_; have BK235 := n1_; have GW235 := n2_; have GE235 := n3_; clear n0_ n1_ n2_ n3_; clear hb hbox hg; have hcz9_0 : w8.cell? ⟨gb235, 0, none⟩ = some (.int .i64 a0_0) := (blk_cell BK235.out 0).trans rfl; have hcz9_1 : w8.cell? ⟨gb235, 1, none⟩ = some (.int .i64 a0_1) := (blk_cell BK235.out 1).trans rfl; have hcz9_2 : w8.cell? ⟨gb235, 2, none⟩ = some (.int .i64 a0_2) := (blk_cell BK235.out 2).trans rfl; have hcz9_3 : w8.cell? ⟨gb235, 3, none⟩ = some (.slice A0_3 l0_3.length c0_3) := (blk_cell BK235.out 3).trans rfl; have hcz9_4 : w8.cell? ⟨gb235, 4, none⟩ = some (.slice A0_4 l0_4.length c0_4) := (blk_cell BK235.out 4).trans rfl; have hfz9_0 := blk_frozen BK235.out 0; have hfz9_1 := blk_frozen BK235.out 1; have hfz9_2 := blk_frozen BK235.out 2; have hfz9_3 := blk_frozen BK235.out 3; have hfz9_4 := blk_frozen BK235.out 4) | ((with_reducible refine gate_callee (f := 88) rfl ?_); refine goesL_ (some 22) rfl rfl Try.func88 (by kernel_rfl) rfl #[.agg #[.int .i64 a0_0, .int .i64 a0_1, .int .i64 a0_2, .slice A0_3 l0_3.length c0_3, .slice A0_4 l0_4.length c0_4]] rfl (by (try simp only [List.map_toArray, List.map_cons, List.map_nil]); first | done | rfl | (simp only [List.length_drop, List.length_take]; rfl)) ?_; (with_reducible refine (taquinref07_Size.calls a0_0 a0_1 a0_2 _ _ l0_3 _ _ l0_4 t236 _ ?side1 ?side2 ?side3 ?side4 A5.out).mono ?_); (case side1 => repeat (first | exact (Kd.C_below HR0_3.out HB.out) | (with_reducible refine Kd.C_alloc ?_ _) | (with_reducible refine Kd.C_drewN ?_ _) | (with_reducible refine Kd.C_drew ?_))); (case side2 => exact HC0_3.out); (case side3 => repeat (first | exact (Kd.C_below HR0_4.out HB.out) | (with_reducible refine Kd.C_alloc ?_ _) | (with_reducible refine Kd.C_drewN ?_ _) | (with_reducible refine Kd.C_drew ?_))); (case side4 => exact HC0_4.out); rintro e w10 ⟨rfl, hb⟩; refine ⟨_, rfl, ?_⟩; have n0_ := Aside0.mk (blk_below (g := gb235) (o := .cells #[.int .i64 a0_0, .int .i64 a0_1, .int .i64 a0_2, .slice A0_3 l0_3.length c0_3, .slice A0_4 l0_4.length c0_4] 24 (0, 0)) (by (with_reducible repeat (first | refine blk_drewN ?_ _ | refine blk_drew ?_ | refine blk_alloc ?_ _)); exact BK235.out) hb); have n1_ := Aside0.mk (below_step (by repeat (first | (with_reducible first | exact HB.out | apply below_alloc | apply pw_below_drewN | apply below_drew1 | refine below_set ?_ GE235.out) | exact HB.out)) hb); clear BK235; clear HB; have BK235 := n0_; have HB := n1_; clear n0_ n1_; (try clear hb); (try clear hb2); (try clear hk); (try clear hi)) | ((with_reducible refine gate_dst (N := 23) rfl ?_); (try (refine gate_guard (by rfl) ?_; dsimp only)); refine Kd.R_make Kd.bool _ 4 rfl (N := 23) rfl 73 _ _ rfl t236 rfl rfl Try.underlying73 (.bool false) 1 info4 rfl (by decide) (by omega) false (ok := fun _ => True) (okp := fun _ => True) rfl (fun _ hk => hk) trivial (of_decide_eq_true (by first | (with_reducible assumption) | assumption)) (Nat.le_trans (Nat.mul_le_mul_right _ (of_decide_eq_true (by first | (with_reducible assumption) | assumption) : t236.toNat ≤ 281474976710656)) (by omega)) (Below.refl _ _) (Nat.le_refl _) ?_; intro v238 w11 ho12 hb hg_ hnew_; clear hg_ hnew_; (first | rw [← Ny237.out] at ho12 | (simp only [Int.reduceToNat] at ho12; rw [← Ny237.out] at ho12)); have n0_ := Aside0.mk (Kd.R_lower ho12 (below_size (by repeat (first | (with_reducible first | exact HB.out | apply below_alloc | apply pw_below_drewN | apply below_drew1 | refine below_set ?_ GE235.out) | exact HB.out)))); have n1_ := Aside0.mk (blk_below (g := gb235) (o := .cells #[.int .i64 a0_0, .int .i64 a0_1, .int .i64 a0_2, .slice A0_3 l0_3.length c0_3, .slice A0_4 l0_4.length c0_4] 24 (0, 0)) (by (with_reducible repeat (first | refine blk_drewN ?_ _ | refine blk_drew ?_ | refine blk_alloc ?_ _)); exact BK235.out) hb); have n2_ := Aside0.mk (below_step (by repeat (first | (with_reducible first | exact HB.out | apply below_alloc | apply pw_below_drewN | apply below_drew1 | refine below_set ?_ GE235.out) | exact HB.out)) hb); clear BK235; clear HB; have HO239 := n0_; have BK235 := n1_; have HB := n2_; clear n0_ n1_ n2_; clear hb ho12))
      go_loopg [10] k (fun kq v10 w' => ∃ (x9_1 : List Bool) (x10_1 : Int), v10 = .int .i64 x10_1 ∧ Aside0 (taquinref07_spread.l0 kq l1 l2 a3 x9_1 x10_1 a0_0 a0_1 a0_2 l0_3 l0_4 = some r) ∧ Aside0 (kq ≤ k) ∧ Aside0 (Kd.R Kd.bool 4 w' w.heap.size (fun _ => True) v238 x9_1) ∧ Aside0 (w'.heap[gb235]? = some (.cells #[.int .i64 a0_0, .int .i64 a0_1, .int .i64 a0_2, (.slice A0_3 l0_3.length c0_3), (.slice A0_4 l0_4.length c0_4)] 24 (0, 0))) ∧ Aside0 (Below w.heap.size w w'))
      case atStart => exact ⟨(y237), (0), (by first | rfl | (simp; done) | (simp [*]; done)), H', ⟨Nat.le_refl _⟩, ⟨by (with_reducible repeat (first | apply Kd.R_alloc | apply Kd.R_drewN | apply Kd.R_drew)); exact HO239.out⟩, ⟨by (with_reducible repeat (first | refine blk_drewN ?_ _ | refine blk_drew ?_ | refine blk_alloc ?_ _)); exact BK235.out⟩, ⟨by repeat (first | (with_reducible first | exact HB.out | apply below_alloc | apply pw_below_drewN | apply below_drew1 | refine below_set ?_ GE235.out) | exact HB.out)⟩⟩
      case round =>
        clear H'
        try clear c1
        try clear c2
        try clear p2
        try clear c6
        try clear c6b0
        try clear c6b1
        try clear c7
        try clear c7b0
        try clear c7b1
        try clear c8
        try clear hcz9_0
        try clear hcz9_1
        try clear hcz9_2
        try clear hcz9_3
        try clear hcz9_4
        try clear hfz9_0
        try clear hfz9_1
        try clear hfz9_2
        try clear hfz9_3
        try clear hfz9_4
        obtain ⟨x9_1, x10_1, rfl, HA, HK1, HO_9, BK235, HB⟩ := hrel
        cases gk with
        | zero => exact absurd HA.out (by simp [taquinref07_spread.l0])
        | succ k1 =>
          have H := HA.out
          clear HA
          simp only [taquinref07_spread.l0] at H
          by_cases c13 : x10_1 < (l2.length : Int)
          · rw [if_pos c13] at H
            have c13b0 : decide (x10_1 < (l2.length : Int)) = true := decide_eq_true c13
            clear c13
            by_cases c14 : 0 ≤ x10_1
            · rw [if_pos c14] at H
              have c14b0 : decide (0 ≤ x10_1) = true := decide_eq_true c14
              clear c14
              replace H := Option.bind_eq_some_iff.mp H
              obtain ⟨t241, A150, H⟩ := H
              replace H : (if t241 = true then (if 0 ≤ (rd l2 x10_1) then (if (rd l2 x10_1) < (x9_1.length : Int) then (taquinref07_spread.l0 k1 l1 l2 a3 (x9_1.set ((rd l2 x10_1) : Int).toNat true) (wrap64 (x10_1 + 1)) a0_0 a0_1 a0_2 l0_3 l0_4) else (none)) else (none)) else (taquinref07_spread.l0 k1 l1 l2 a3 x9_1 (wrap64 (x10_1 + 1)) a0_0 a0_1 a0_2 l0_3 l0_4)) = some r := H
              have A15 := Aside0.mk A150
              clear A150
              by_cases c16 : t241 = true
              · subst c16
                have H1 : (if 0 ≤ (rd l2 x10_1) then (if (rd l2 x10_1) < (x9_1.length : Int) then (taquinref07_spread.l0 k1 l1 l2 a3 (x9_1.set ((rd l2 x10_1) : Int).toNat true) (wrap64 (x10_1 + 1)) a0_0 a0_1 a0_2 l0_3 l0_4) else (none)) else (none)) = some r := by rw [if_pos rfl] at H; exact H
                clear H
                have H := H1
                clear H1
                by_cases c17 : 0 ≤ (rd l2 x10_1)
                · rw [if_pos c17] at H
                  have c17b0 : decide (0 ≤ (rd l2 x10_1)) = true := decide_eq_true c17
                  clear c17
                  by_cases c18 : (rd l2 x10_1) < (x9_1.length : Int)
                  · rw [if_pos c18] at H
                    have c18b0 : decide ((rd l2 x10_1) < (x9_1.length : Int)) = true := decide_eq_true c18
                    clear c18
                    obtain ⟨y243, hy243⟩ : ∃ y_ : List Bool, y_ = (x9_1.set ((rd l2 x10_1) : Int).toNat true) := ⟨_, rfl⟩
                    replace H : (taquinref07_spread.l0 k1 l1 l2 a3 y243 (wrap64 (x10_1 + 1)) a0_0 a0_1 a0_2 l0_3 l0_4) = some r := by first | (rw [hy243]; with_reducible exact H) | (have H2_ := (Option.bind_some _ _).symm.trans H; rw [hy243]; with_reducible exact H2_) | (have H2_ := (Option.bind_some _ _).symm.trans H; with_reducible exact H2_) | with_reducible exact H | (rw [hy243]; exact H) | exact H
                    have Ny243 := Aside0.mk hy243
                    clear hy243
                    have H' := Aside0.mk H
                    clear H
                    try go_wp2
                    have n0_ := Aside0.mk (Kd.R_drew HO_9.out)
                    have n1_ := Aside0.mk (blk_drew BK235.out)
                    have n2_ := Aside0.mk (below_drew1 HB.out)
                    clear HO_9
                    clear BK235
                    clear HB
                    have HO_9 := n0_
                    have BK235 := n1_
                    have HB := n2_
                    clear n0_ n1_ n2_
                    have p240 : 0 ≤ (x10_1 : Int) := of_decide_eq_true (by first | (with_reducible assumption) | assumption)
                    have q240 : x10_1 < (l2.length : Int) := of_decide_eq_true (by first | (with_reducible assumption) | assumption)
                    obtain ⟨ad240, e240, hx240_0⟩ := Kd.at_int HR2.out x10_1 p240 q240
                    have hw240_0 := hx240_0
                    cases e240
                    replace hx240_0 := (HB.out.cell (World.block_lt_of_cell? w _ hx240_0)).trans hx240_0
                    replace p240 := eq_true p240
                    replace q240 := eq_true q240
                    refine start_ (n := 6) (S := fun w' => w'.cell? ⟨gb235, 0, none⟩ = some (.int .i64 a0_0) ∧ w'.cell? ⟨gb235, 1, none⟩ = some (.int .i64 a0_1) ∧ w'.cell? ⟨gb235, 2, none⟩ = some (.int .i64 a0_2) ∧ w'.cell? ⟨gb235, 3, none⟩ = some (.slice A0_3 l0_3.length c0_3) ∧ w'.cell? ⟨gb235, 4, none⟩ = some (.slice A0_4 l0_4.length c0_4) ∧ w'.cell? (ad240.add (x10_1).toNat) = some (.int .i64 (rd l2 x10_1))) (ds := []) #[false, false, false, false, false, false] (by kernel_rfl) rfl rfl ⟨(blk_cell BK235.out 0).trans rfl, (blk_cell BK235.out 1).trans rfl, (blk_cell BK235.out 2).trans rfl, (blk_cell BK235.out 3).trans rfl, (blk_cell BK235.out 4).trans rfl, ((HB.out.cell (World.block_lt_of_cell? w _ hw240_0)).trans hw240_0)⟩ (fun hHeld => ?_)
                    generalize wr.drew = w20 at HO_9 BK235 HB hx240_0 hHeld ⊢
                    refine pure_ (i := 1) (N := some 31) (v := ?_) (a' := ?_) #[false, true, false, false, false, false] rfl rfl (by kernel_rfl) (fun _ _ _ h => h) (Or.inl ⟨by rfl, ?_⟩) ?_ ?_
                    rotate_left
                    · intro w'
                      go_simp
                      with_reducible rfl
                    rotate_left
                    · simp only [Act.put, List.setIfInBounds_toArray, List.set_cons_zero, List.set_cons_succ, i64_w, i32_w]
                      rfl
                    refine pure_ (i := 2) (N := some 32) (v := ?_) (a' := ?_) #[false, true, true, false, false, false] rfl rfl (by kernel_rfl) (fun _ _ _ h => h) (Or.inl ⟨by rfl, ?_⟩) ?_ ?_
                    rotate_left
                    · intro w'
                      go_simp
                      with_reducible rfl
                    rotate_left
                    · simp only [Act.put, List.setIfInBounds_toArray, List.set_cons_zero, List.set_cons_succ, i64_w, i32_w]
                      rfl
                    refine pure_ (i := 3) (N := some 33) (v := ?_) (a' := ?_) #[false, true, true, true, false, false] rfl rfl (by kernel_rfl) (fun _ _ _ h => h) (Or.inl ⟨by rfl, ?_⟩) ?_ ?_
                    rotate_left
                    · intro w'
                      go_simp
                      with_reducible rfl
                    rotate_left
                    · simp only [Act.put, List.setIfInBounds_toArray, List.set_cons_zero, List.set_cons_succ, i64_w, i32_w]
                      rfl
                    refine take_ (i := 0) (N := some 30) (v := ?_) (a' := ?_) #[true, true, true, true, false, false] rfl rfl (by kernel_rfl) (fun _ _ _ h => h) (Or.inl ⟨by rfl, ?_⟩) hHeld ?_ ?_
                    rotate_left
                    · rintro w' ⟨s0, s1, s2, s3, s4, s5⟩
                      go_simp
                      with_reducible rfl
                    rotate_left
                    · simp only [Act.put, List.setIfInBounds_toArray, List.set_cons_zero, List.set_cons_succ, i64_w, i32_w]
                      rfl
                    refine take_ (i := 4) (N := some 34) (v := ?_) (a' := ?_) #[true, true, true, true, true, false] rfl rfl (by kernel_rfl) (fun _ _ _ h => h) (Or.inl ⟨by rfl, ?_⟩) hHeld ?_ ?_
                    rotate_left
                    · rintro w' ⟨s0, s1, s2, s3, s4, s5⟩
                      go_simp
                      with_reducible rfl
                    rotate_left
                    · simp only [Act.put, List.setIfInBounds_toArray, List.set_cons_zero, List.set_cons_succ, i64_w, i32_w]
                      rfl
                    refine one_ (i := 5) (N := some 35) #[true, true, true, true, true, true] rfl rfl (by kernel_rfl) (by decide) (fun K hK => ?_)
                    refine goes_ Try.func68 (by kernel_rfl) rfl #[.agg #[.int .i64 a0_0, .int .i64 a0_1, .int .i64 a0_2, .slice A0_3 l0_3.length c0_3, .slice A0_4 l0_4.length c0_4], .int .i64 (rd l2 x10_1)] (by rfl) rfl rfl (by (try simp only [List.map_toArray, List.map_cons, List.map_nil]); first | done | rfl | (simp only [List.length_drop, List.length_take]; rfl)) ?_
                    with_reducible refine (taquinref07_Is.calls a0_0 a0_1 a0_2 _ _ l0_3 _ _ l0_4 (rd l2 x10_1) true _ ?side1 ?side2 ?side3 ?side4 A15.out).mono ?_
                    (case side1 => repeat (first | exact (Kd.C_below HR0_3.out HB.out) | (with_reducible refine Kd.C_alloc ?_ _) | (with_reducible refine Kd.C_drewN ?_ _) | (with_reducible refine Kd.C_drew ?_)))
                    (case side2 => exact HC0_3.out)
                    (case side3 => repeat (first | exact (Kd.C_below HR0_4.out HB.out) | (with_reducible refine Kd.C_alloc ?_ _) | (with_reducible refine Kd.C_drewN ?_ _) | (with_reducible refine Kd.C_drew ?_)))
                    (case side4 => exact HC0_4.out)
                    rintro e w21 ⟨rfl, hb⟩
                    refine ⟨_, rfl, ?_⟩
                    have n0_ := Aside0.mk (Kd.R_below (by (with_reducible repeat (first | apply Kd.R_alloc | apply Kd.R_drewN | apply Kd.R_drew)); exact HO_9.out) hb)
                    have n1_ := Aside0.mk (blk_below (g := gb235) (o := .cells #[.int .i64 a0_0, .int .i64 a0_1, .int .i64 a0_2, .slice A0_3 l0_3.length c0_3, .slice A0_4 l0_4.length c0_4] 24 (0, 0)) (by (with_reducible repeat (first | refine blk_drewN ?_ _ | refine blk_drew ?_ | refine blk_alloc ?_ _)); exact BK235.out) hb)
                    have n2_ := Aside0.mk (below_step (by repeat (first | (with_reducible first | exact HB.out | apply below_alloc | apply pw_below_drewN | apply below_drew1 | refine below_set ?_ GE235.out) | exact HB.out)) hb)
                    clear HO_9
                    clear BK235
                    clear HB
                    have HO_9 := n0_
                    have BK235 := n1_
                    have HB := n2_
                    clear n0_ n1_ n2_
                    (try clear hb)
                    (try clear hb2)
                    (try clear hk)
                    (try clear hi)
                    refine hK.out _ _ ⟨(blk_cell BK235.out 0).trans rfl, (blk_cell BK235.out 1).trans rfl, (blk_cell BK235.out 2).trans rfl, (blk_cell BK235.out 3).trans rfl, (blk_cell BK235.out 4).trans rfl, ((HB.out.cell (World.block_lt_of_cell? w _ hw240_0)).trans hw240_0)⟩ (fun hHeld => ?_)
                    clear hK K
                    refine norm_ (a' := ?_) ?_ ?_
                    rotate_left
                    · show Act.put _ (some 35) _ = _
                      simp only [Act.put, List.setIfInBounds_toArray, List.set_cons_zero, List.set_cons_succ, i64_w, i32_w]
                      rfl
                    refine done_ (by kernel_rfl) ?_
                    have p242 : 0 ≤ (x10_1 : Int) := of_decide_eq_true (by first | (with_reducible assumption) | assumption)
                    have q242 : x10_1 < (l2.length : Int) := of_decide_eq_true (by first | (with_reducible assumption) | assumption)
                    obtain ⟨ad242, e242, hx242_0⟩ := Kd.at_int HR2.out x10_1 p242 q242
                    obtain rfl : ad240 = ad242 := (by injection e242)
                    replace hx242_0 := (HB.out.cell (World.block_lt_of_cell? w _ hx242_0)).trans hx242_0
                    replace p242 := eq_true p242
                    replace q242 := eq_true q242
                    have p19 : 0 ≤ ((rd l2 x10_1) : Int) := of_decide_eq_true (by first | (with_reducible assumption) | assumption)
                    have q19 : ((rd l2 x10_1) : Int) < ((x9_1.length : Int) : Int) := of_decide_eq_true (by first | (with_reducible assumption) | assumption)
                    obtain ⟨go19, co19, eo19, gb19, gl19, cl19, HG19⟩ := Kd.R_form HO_9.out (by omega)
                    (first | cases eo19 | (injection eo19 with ea_ en_ ec_; (first | subst ea_ | (injection ea_ with ea_; subst ea_)); subst ec_; clear en_))
                    have GB19 := Aside0.mk gb19
                    have GG19 := Aside0.mk HG19
                    clear gb19 gl19 HG19
                    obtain ⟨hx19_0, hf19_0⟩ := Kd.R_celln false HO_9.out ((rd l2 x10_1) : Int) p19 q19
                    replace p19 := eq_true p19
                    replace q19 := eq_true q19
                    obtain ⟨hy22_, hz22_⟩ := Kd.R_celln false HO_9.out ((rd l2 x10_1) : Int) (of_decide_eq_true (by first | (with_reducible assumption) | assumption)) (of_decide_eq_true (by first | (with_reducible assumption) | assumption))
                    have HP22 := Kd.R_putg HO_9.out ((rd l2 x10_1) : Int) true
                    try go_wp2_with (first | ((with_reducible refine gate_store (t := 4) (p := 41) rfl ?_); refine store_event (t := 4) (p := 41) (v := ?vo_w23) (w1 := (w21.setCell ⟨go19, ((rd l2 x10_1) : Int).toNat, none⟩ (.bool true))) ?hg ?ho ?hn ?hr ?_; (case ho => rfl); (case hg => rfl); (case hn => rfl); (case hr => first | (go_simp; done) | (go_simp; rfl)); intro w23 hw; have hg : w21.grownBy w23 (some go19) := (by rw [hw]; exact HP22.2); have hp_ : Kd.R Kd.bool 4 w23 w.heap.size (fun _ => True) (.slice (some ⟨go19, 0, none⟩) x9_1.length co19) y243 := (by rw [hw, Ny243.out]; exact HP22.1); clear HP22; have n0_ := Aside0.mk (hp_); have n1_ := Aside0.mk (blk_grown (g := gb235) (o := .cells #[.int .i64 a0_0, .int .i64 a0_1, .int .i64 a0_2, .slice A0_3 l0_3.length c0_3, .slice A0_4 l0_4.length c0_4] 24 (0, 0)) (by (with_reducible repeat (first | refine blk_drewN ?_ _ | refine blk_drew ?_ | refine blk_alloc ?_ _)); exact BK235.out) hg (Kd.R_ne HO_9.out BK235.out (by decide))); have n2_ := Aside0.mk ((by rw [hw]; exact below_set (HB.out) GB19.out : Below w.heap.size w w23)); clear HO_9; clear BK235; clear HB; have HO_9 := n0_; have BK235 := n1_; have HB := n2_; clear n0_ n1_ n2_; clear hg hw hp_))
                    go_roundg k1
                    case measure => have := HK1.out; omega
                    case rel => exact ⟨(y243), (wrap64 (x10_1 + 1)), (by first | rfl | (simp; done) | (simp [*]; done)), H', ⟨by have := HK1.out; omega⟩, ⟨by (with_reducible repeat (first | apply Kd.R_alloc | apply Kd.R_drewN | apply Kd.R_drew)); exact HO_9.out⟩, ⟨by (with_reducible repeat (first | refine blk_drewN ?_ _ | refine blk_drew ?_ | refine blk_alloc ?_ _)); exact BK235.out⟩, ⟨by repeat (first | (with_reducible first | exact HB.out | apply below_alloc | apply pw_below_drewN | apply below_drew1 | refine below_set ?_ GE235.out) | exact HB.out)⟩⟩
                  · rw [if_neg c18] at H
                    exact absurd H (by simp)
                · rw [if_neg c17] at H
                  exact absurd H (by simp)
              · replace c16 := Bool.eq_false_iff.mpr c16
                subst c16
                have H1 : (taquinref07_spread.l0 k1 l1 l2 a3 x9_1 (wrap64 (x10_1 + 1)) a0_0 a0_1 a0_2 l0_3 l0_4) = some r := by rw [if_neg (show ¬ (false = true) by decide)] at H; exact H
                clear H
                have H := H1
                clear H1
                have H' := Aside0.mk H
                clear H
                try go_wp2
                have n0_ := Aside0.mk (Kd.R_drew HO_9.out)
                have n1_ := Aside0.mk (blk_drew BK235.out)
                have n2_ := Aside0.mk (below_drew1 HB.out)
                clear HO_9
                clear BK235
                clear HB
                have HO_9 := n0_
                have BK235 := n1_
                have HB := n2_
                clear n0_ n1_ n2_
                have p240 : 0 ≤ (x10_1 : Int) := of_decide_eq_true (by first | (with_reducible assumption) | assumption)
                have q240 : x10_1 < (l2.length : Int) := of_decide_eq_true (by first | (with_reducible assumption) | assumption)
                obtain ⟨ad240, e240, hx240_0⟩ := Kd.at_int HR2.out x10_1 p240 q240
                have hw240_0 := hx240_0
                cases e240
                replace hx240_0 := (HB.out.cell (World.block_lt_of_cell? w _ hx240_0)).trans hx240_0
                replace p240 := eq_true p240
                replace q240 := eq_true q240
                refine start_ (n := 6) (S := fun w' => w'.cell? ⟨gb235, 0, none⟩ = some (.int .i64 a0_0) ∧ w'.cell? ⟨gb235, 1, none⟩ = some (.int .i64 a0_1) ∧ w'.cell? ⟨gb235, 2, none⟩ = some (.int .i64 a0_2) ∧ w'.cell? ⟨gb235, 3, none⟩ = some (.slice A0_3 l0_3.length c0_3) ∧ w'.cell? ⟨gb235, 4, none⟩ = some (.slice A0_4 l0_4.length c0_4) ∧ w'.cell? (ad240.add (x10_1).toNat) = some (.int .i64 (rd l2 x10_1))) (ds := []) #[false, false, false, false, false, false] (by kernel_rfl) rfl rfl ⟨(blk_cell BK235.out 0).trans rfl, (blk_cell BK235.out 1).trans rfl, (blk_cell BK235.out 2).trans rfl, (blk_cell BK235.out 3).trans rfl, (blk_cell BK235.out 4).trans rfl, ((HB.out.cell (World.block_lt_of_cell? w _ hw240_0)).trans hw240_0)⟩ (fun hHeld => ?_)
                generalize wr.drew = w24 at HO_9 BK235 HB hx240_0 hHeld ⊢
                refine pure_ (i := 1) (N := some 31) (v := ?_) (a' := ?_) #[false, true, false, false, false, false] rfl rfl (by kernel_rfl) (fun _ _ _ h => h) (Or.inl ⟨by rfl, ?_⟩) ?_ ?_
                rotate_left
                · intro w'
                  go_simp
                  with_reducible rfl
                rotate_left
                · simp only [Act.put, List.setIfInBounds_toArray, List.set_cons_zero, List.set_cons_succ, i64_w, i32_w]
                  rfl
                refine pure_ (i := 2) (N := some 32) (v := ?_) (a' := ?_) #[false, true, true, false, false, false] rfl rfl (by kernel_rfl) (fun _ _ _ h => h) (Or.inl ⟨by rfl, ?_⟩) ?_ ?_
                rotate_left
                · intro w'
                  go_simp
                  with_reducible rfl
                rotate_left
                · simp only [Act.put, List.setIfInBounds_toArray, List.set_cons_zero, List.set_cons_succ, i64_w, i32_w]
                  rfl
                refine pure_ (i := 3) (N := some 33) (v := ?_) (a' := ?_) #[false, true, true, true, false, false] rfl rfl (by kernel_rfl) (fun _ _ _ h => h) (Or.inl ⟨by rfl, ?_⟩) ?_ ?_
                rotate_left
                · intro w'
                  go_simp
                  with_reducible rfl
                rotate_left
                · simp only [Act.put, List.setIfInBounds_toArray, List.set_cons_zero, List.set_cons_succ, i64_w, i32_w]
                  rfl
                refine take_ (i := 0) (N := some 30) (v := ?_) (a' := ?_) #[true, true, true, true, false, false] rfl rfl (by kernel_rfl) (fun _ _ _ h => h) (Or.inl ⟨by rfl, ?_⟩) hHeld ?_ ?_
                rotate_left
                · rintro w' ⟨s0, s1, s2, s3, s4, s5⟩
                  go_simp
                  with_reducible rfl
                rotate_left
                · simp only [Act.put, List.setIfInBounds_toArray, List.set_cons_zero, List.set_cons_succ, i64_w, i32_w]
                  rfl
                refine take_ (i := 4) (N := some 34) (v := ?_) (a' := ?_) #[true, true, true, true, true, false] rfl rfl (by kernel_rfl) (fun _ _ _ h => h) (Or.inl ⟨by rfl, ?_⟩) hHeld ?_ ?_
                rotate_left
                · rintro w' ⟨s0, s1, s2, s3, s4, s5⟩
                  go_simp
                  with_reducible rfl
                rotate_left
                · simp only [Act.put, List.setIfInBounds_toArray, List.set_cons_zero, List.set_cons_succ, i64_w, i32_w]
                  rfl
                refine one_ (i := 5) (N := some 35) #[true, true, true, true, true, true] rfl rfl (by kernel_rfl) (by decide) (fun K hK => ?_)
                refine goes_ Try.func68 (by kernel_rfl) rfl #[.agg #[.int .i64 a0_0, .int .i64 a0_1, .int .i64 a0_2, .slice A0_3 l0_3.length c0_3, .slice A0_4 l0_4.length c0_4], .int .i64 (rd l2 x10_1)] (by rfl) rfl rfl (by (try simp only [List.map_toArray, List.map_cons, List.map_nil]); first | done | rfl | (simp only [List.length_drop, List.length_take]; rfl)) ?_
                with_reducible refine (taquinref07_Is.calls a0_0 a0_1 a0_2 _ _ l0_3 _ _ l0_4 (rd l2 x10_1) false _ ?side1 ?side2 ?side3 ?side4 A15.out).mono ?_
                (case side1 => repeat (first | exact (Kd.C_below HR0_3.out HB.out) | (with_reducible refine Kd.C_alloc ?_ _) | (with_reducible refine Kd.C_drewN ?_ _) | (with_reducible refine Kd.C_drew ?_)))
                (case side2 => exact HC0_3.out)
                (case side3 => repeat (first | exact (Kd.C_below HR0_4.out HB.out) | (with_reducible refine Kd.C_alloc ?_ _) | (with_reducible refine Kd.C_drewN ?_ _) | (with_reducible refine Kd.C_drew ?_)))
                (case side4 => exact HC0_4.out)
                rintro e w25 ⟨rfl, hb⟩
                refine ⟨_, rfl, ?_⟩
                have n0_ := Aside0.mk (Kd.R_below (by (with_reducible repeat (first | apply Kd.R_alloc | apply Kd.R_drewN | apply Kd.R_drew)); exact HO_9.out) hb)
                have n1_ := Aside0.mk (blk_below (g := gb235) (o := .cells #[.int .i64 a0_0, .int .i64 a0_1, .int .i64 a0_2, .slice A0_3 l0_3.length c0_3, .slice A0_4 l0_4.length c0_4] 24 (0, 0)) (by (with_reducible repeat (first | refine blk_drewN ?_ _ | refine blk_drew ?_ | refine blk_alloc ?_ _)); exact BK235.out) hb)
                have n2_ := Aside0.mk (below_step (by repeat (first | (with_reducible first | exact HB.out | apply below_alloc | apply pw_below_drewN | apply below_drew1 | refine below_set ?_ GE235.out) | exact HB.out)) hb)
                clear HO_9
                clear BK235
                clear HB
                have HO_9 := n0_
                have BK235 := n1_
                have HB := n2_
                clear n0_ n1_ n2_
                (try clear hb)
                (try clear hb2)
                (try clear hk)
                (try clear hi)
                refine hK.out _ _ ⟨(blk_cell BK235.out 0).trans rfl, (blk_cell BK235.out 1).trans rfl, (blk_cell BK235.out 2).trans rfl, (blk_cell BK235.out 3).trans rfl, (blk_cell BK235.out 4).trans rfl, ((HB.out.cell (World.block_lt_of_cell? w _ hw240_0)).trans hw240_0)⟩ (fun hHeld => ?_)
                clear hK K
                refine norm_ (a' := ?_) ?_ ?_
                rotate_left
                · show Act.put _ (some 35) _ = _
                  simp only [Act.put, List.setIfInBounds_toArray, List.set_cons_zero, List.set_cons_succ, i64_w, i32_w]
                  rfl
                refine done_ (by kernel_rfl) ?_
                try go_wp2
                go_roundg k1
                case measure => have := HK1.out; omega
                case rel => exact ⟨(x9_1), (wrap64 (x10_1 + 1)), (by first | rfl | (simp; done) | (simp [*]; done)), H', ⟨by have := HK1.out; omega⟩, ⟨by (with_reducible repeat (first | apply Kd.R_alloc | apply Kd.R_drewN | apply Kd.R_drew)); exact HO_9.out⟩, ⟨by (with_reducible repeat (first | refine blk_drewN ?_ _ | refine blk_drew ?_ | refine blk_alloc ?_ _)); exact BK235.out⟩, ⟨by repeat (first | (with_reducible first | exact HB.out | apply below_alloc | apply pw_below_drewN | apply below_drew1 | refine below_set ?_ GE235.out) | exact HB.out)⟩⟩
            · rw [if_neg c14] at H
              exact absurd H (by simp)
          · rw [if_neg c13] at H
            have c13b0 : decide (x10_1 < (l2.length : Int)) = false := decide_eq_false c13
            clear c13
            replace H := Option.bind_eq_some_iff.mp H
            obtain ⟨t244, A260, H⟩ := H
            replace H : (if 0 ≤ t244 then (if (t244 : Int).toNat ≤ 35184372088832 then (taquinref07_spread.l1 k1 l1 a3 x9_1 (List.replicate (t244 : Int).toNat 0) 0 a0_0 a0_1 a0_2 l0_3 l0_4) else (none)) else (none)) = some r := H
            have A26 := Aside0.mk A260
            clear A260
            by_cases c27 : 0 ≤ t244
            · rw [if_pos c27] at H
              have c27b0 := eq_true c27
              have c27b1 : decide (0 ≤ t244) = true := decide_eq_true c27
              clear c27
              by_cases c28 : (t244 : Int).toNat ≤ 35184372088832
              · rw [if_pos c28] at H
                have c28b0 := eq_true c28
                have c28b1 : decide ((t244 : Int).toNat ≤ 35184372088832) = true := decide_eq_true c28
                clear c28
                obtain ⟨y245, hy245⟩ : ∃ y_ : List Int, y_ = (List.replicate (t244 : Int).toNat 0) := ⟨_, rfl⟩
                replace H : (taquinref07_spread.l1 k1 l1 a3 x9_1 y245 0 a0_0 a0_1 a0_2 l0_3 l0_4) = some r := by first | (rw [hy245]; with_reducible exact H) | (have H2_ := (Option.bind_some _ _).symm.trans H; rw [hy245]; with_reducible exact H2_) | (have H2_ := (Option.bind_some _ _).symm.trans H; with_reducible exact H2_) | with_reducible exact H | (rw [hy245]; exact H) | exact H
                have Ny245 := Aside0.mk hy245
                clear hy245
                have H' := Aside0.mk H
                clear H
                have hcz29_0 : wr.cell? ⟨gb235, 0, none⟩ = some (.int .i64 a0_0) := (blk_cell BK235.out 0).trans rfl
                have hcz29_1 : wr.cell? ⟨gb235, 1, none⟩ = some (.int .i64 a0_1) := (blk_cell BK235.out 1).trans rfl
                have hcz29_2 : wr.cell? ⟨gb235, 2, none⟩ = some (.int .i64 a0_2) := (blk_cell BK235.out 2).trans rfl
                have hcz29_3 : wr.cell? ⟨gb235, 3, none⟩ = some (.slice A0_3 l0_3.length c0_3) := (blk_cell BK235.out 3).trans rfl
                have hcz29_4 : wr.cell? ⟨gb235, 4, none⟩ = some (.slice A0_4 l0_4.length c0_4) := (blk_cell BK235.out 4).trans rfl
                have hfz29_0 := blk_frozen BK235.out 0
                have hfz29_1 := blk_frozen BK235.out 1
                have hfz29_2 := blk_frozen BK235.out 2
                have hfz29_3 := blk_frozen BK235.out 3
                have hfz29_4 := blk_frozen BK235.out 4
                go_wp2_with (first | ((with_reducible refine gate_callee (f := 88) rfl ?_); refine goesL_ (some 43) rfl rfl Try.func88 (by kernel_rfl) rfl #[.agg #[.int .i64 a0_0, .int .i64 a0_1, .int .i64 a0_2, .slice A0_3 l0_3.length c0_3, .slice A0_4 l0_4.length c0_4]] rfl (by (try simp only [List.map_toArray, List.map_cons, List.map_nil]); first | done | rfl | (simp only [List.length_drop, List.length_take]; rfl)) ?_; (with_reducible refine (taquinref07_Size.calls a0_0 a0_1 a0_2 _ _ l0_3 _ _ l0_4 t244 _ ?side1 ?side2 ?side3 ?side4 A26.out).mono ?_); (case side1 => repeat (first | exact (Kd.C_below HR0_3.out HB.out) | (with_reducible refine Kd.C_alloc ?_ _) | (with_reducible refine Kd.C_drewN ?_ _) | (with_reducible refine Kd.C_drew ?_))); (case side2 => exact HC0_3.out); (case side3 => repeat (first | exact (Kd.C_below HR0_4.out HB.out) | (with_reducible refine Kd.C_alloc ?_ _) | (with_reducible refine Kd.C_drewN ?_ _) | (with_reducible refine Kd.C_drew ?_))); (case side4 => exact HC0_4.out); rintro e w30 ⟨rfl, hb⟩; refine ⟨_, rfl, ?_⟩; have n0_ := Aside0.mk (Kd.R_below (by (with_reducible repeat (first | apply Kd.R_alloc | apply Kd.R_drewN | apply Kd.R_drew)); exact HO_9.out) hb); have n1_ := Aside0.mk (blk_below (g := gb235) (o := .cells #[.int .i64 a0_0, .int .i64 a0_1, .int .i64 a0_2, .slice A0_3 l0_3.length c0_3, .slice A0_4 l0_4.length c0_4] 24 (0, 0)) (by (with_reducible repeat (first | refine blk_drewN ?_ _ | refine blk_drew ?_ | refine blk_alloc ?_ _)); exact BK235.out) hb); have n2_ := Aside0.mk (below_step (by repeat (first | (with_reducible first | exact HB.out | apply below_alloc | apply pw_below_drewN | apply below_drew1 | refine below_set ?_ GE235.out) | exact HB.out)) hb); clear HO_9; clear BK235; clear HB; have HO_9 := n0_; have BK235 := n1_; have HB := n2_; clear n0_ n1_ n2_; (try clear hb); (try clear hb2); (try clear hk); (try clear hi)) | ((with_reducible refine gate_dst (N := 44) rfl ?_); (try (refine gate_guard (by rfl) ?_; dsimp only)); refine Kd.R_make (Kd.int .i64) _ 3 rfl (N := 44) rfl 22 _ _ rfl t244 rfl rfl Try.underlying22 (.int .i64 0) 8 info3 rfl (by decide) (by omega) 0 (ok := fun _ => True) (okp := fun _ => True) rfl (fun _ hk => hk) trivial (of_decide_eq_true (by first | (with_reducible assumption) | assumption)) (Nat.le_trans (Nat.mul_le_mul_right _ (of_decide_eq_true (by first | (with_reducible assumption) | assumption) : t244.toNat ≤ 35184372088832)) (by omega)) (Below.refl _ _) (Nat.le_refl _) ?_; intro v246 w31 ho32 hb hg_ hnew_; clear hg_ hnew_; (first | rw [← Ny245.out] at ho32 | (simp only [Int.reduceToNat] at ho32; rw [← Ny245.out] at ho32)); have n0_ := Aside0.mk (Kd.R_below (by (with_reducible repeat (first | apply Kd.R_alloc | apply Kd.R_drewN | apply Kd.R_drew)); exact HO_9.out) hb); have n1_ := Aside0.mk (Kd.R_lower ho32 (below_size (by repeat (first | (with_reducible first | exact HB.out | apply below_alloc | apply pw_below_drewN | apply below_drew1 | refine below_set ?_ GE235.out) | exact HB.out)))); have n2_ := Aside0.mk (blk_below (g := gb235) (o := .cells #[.int .i64 a0_0, .int .i64 a0_1, .int .i64 a0_2, .slice A0_3 l0_3.length c0_3, .slice A0_4 l0_4.length c0_4] 24 (0, 0)) (by (with_reducible repeat (first | refine blk_drewN ?_ _ | refine blk_drew ?_ | refine blk_alloc ?_ _)); exact BK235.out) hb); have n3_ := Aside0.mk (below_step (by repeat (first | (with_reducible first | exact HB.out | apply below_alloc | apply pw_below_drewN | apply below_drew1 | refine below_set ?_ GE235.out) | exact HB.out)) hb); clear HO_9; clear BK235; clear HB; have HO_9 := n0_; have HO247 := n1_; have BK235 := n2_; have HB := n3_; clear n0_ n1_ n2_ n3_; clear hb ho32))
                go_loopg [12] k1 (fun kq v12 w' => ∃ (x9_2 : List Bool) (x11_2 : List Int) (x12_2 : Int), v12 = .int .i64 x12_2 ∧ Aside0 (taquinref07_spread.l1 kq l1 a3 x9_2 x11_2 x12_2 a0_0 a0_1 a0_2 l0_3 l0_4 = some r) ∧ Aside0 (kq ≤ k1) ∧ Aside0 (Kd.R Kd.bool 4 w' w.heap.size (fun _ => True) v238 x9_2) ∧ Aside0 (Kd.R (Kd.int .i64) 3 w' w.heap.size (fun _ => True) v246 x11_2) ∧ Aside0 (w'.heap[gb235]? = some (.cells #[.int .i64 a0_0, .int .i64 a0_1, .int .i64 a0_2, (.slice A0_3 l0_3.length c0_3), (.slice A0_4 l0_4.length c0_4)] 24 (0, 0))) ∧ Aside0 (Below w.heap.size w w'))
                case atStart => exact ⟨(x9_1), (y245), (0), (by first | rfl | (simp; done) | (simp [*]; done)), H', ⟨Nat.le_refl _⟩, ⟨by (with_reducible repeat (first | apply Kd.R_alloc | apply Kd.R_drewN | apply Kd.R_drew)); exact HO_9.out⟩, ⟨by (with_reducible repeat (first | apply Kd.R_alloc | apply Kd.R_drewN | apply Kd.R_drew)); exact HO247.out⟩, ⟨by (with_reducible repeat (first | refine blk_drewN ?_ _ | refine blk_drew ?_ | refine blk_alloc ?_ _)); exact BK235.out⟩, ⟨by repeat (first | (with_reducible first | exact HB.out | apply below_alloc | apply pw_below_drewN | apply below_drew1 | refine below_set ?_ GE235.out) | exact HB.out)⟩⟩
                case round =>
                  clear H'
                  try clear c1
                  try clear p1
                  try clear q1
                  try clear hx1
                  try clear c2
                  try clear p2
                  try clear q2
                  try clear hx2
                  try clear c6
                  try clear c6b0
                  try clear c6b1
                  try clear p6
                  try clear c7
                  try clear c7b0
                  try clear c7b1
                  try clear c8
                  try clear c13
                  try clear c13b0
                  try clear c14
                  try clear c14b0
                  try clear c16
                  try clear c17
                  try clear c17b0
                  try clear c18
                  try clear c18b0
                  try clear p19
                  try clear q19
                  try clear hx19
                  try clear hf19
                  try clear p24
                  try clear q24
                  try clear hx24
                  try clear c27
                  try clear c27b0
                  try clear c27b1
                  try clear c28
                  try clear c28b0
                  try clear c28b1
                  try clear hcz29_0
                  try clear hcz29_1
                  try clear hcz29_2
                  try clear hcz29_3
                  try clear hcz29_4
                  try clear hcz9_0
                  try clear hcz9_1
                  try clear hcz9_2
                  try clear hcz9_3
                  try clear hcz9_4
                  try clear hfz29_0
                  try clear hfz29_1
                  try clear hfz29_2
                  try clear hfz29_3
                  try clear hfz29_4
                  try clear hfz9_0
                  try clear hfz9_1
                  try clear hfz9_2
                  try clear hfz9_3
                  try clear hfz9_4
                  try clear hx19_0
                  try clear hx240_0
                  try clear hx242_0
                  try clear p19
                  try clear p2
                  try clear p240
                  try clear p242
                  try clear q19
                  try clear q240
                  try clear q242
                  obtain ⟨x9_2, x11_2, x12_2, rfl, HA, HK2, HO_9, HO_11, BK235, HB⟩ := hrel
                  cases gk with
                  | zero => exact absurd HA.out (by simp [taquinref07_spread.l1])
                  | succ k2 =>
                    have H := HA.out
                    clear HA
                    simp only [taquinref07_spread.l1] at H
                    by_cases c33 : x12_2 < (x11_2.length : Int)
                    · rw [if_pos c33] at H
                      have c33b0 : decide (x12_2 < (x11_2.length : Int)) = true := decide_eq_true c33
                      clear c33
                      by_cases c34 : 0 ≤ x12_2
                      · rw [if_pos c34] at H
                        have c34b0 : decide (0 ≤ x12_2) = true := decide_eq_true c34
                        clear c34
                        obtain ⟨y248, hy248⟩ : ∃ y_ : List Int, y_ = (x11_2.set (x12_2 : Int).toNat (-1)) := ⟨_, rfl⟩
                        replace H : (if x12_2 < (x9_2.length : Int) then (if rdOf false x9_2 x12_2 = true then (taquinref07_spread.l1 k2 l1 a3 (x9_2.set (x12_2 : Int).toNat true) y248 (wrap64 (x12_2 + 1)) a0_0 a0_1 a0_2 l0_3 l0_4) else (if x12_2 < (l0_3.length : Int) then (taquinref07_spread.l1 k2 l1 a3 (x9_2.set (x12_2 : Int).toNat ((rd l0_3 x12_2) == 0)) y248 (wrap64 (x12_2 + 1)) a0_0 a0_1 a0_2 l0_3 l0_4) else (none))) else (none)) = some r := by first | (rw [hy248]; with_reducible exact H) | (have H2_ := (Option.bind_some _ _).symm.trans H; rw [hy248]; with_reducible exact H2_) | (have H2_ := (Option.bind_some _ _).symm.trans H; with_reducible exact H2_) | with_reducible exact H | (rw [hy248]; exact H) | exact H
                        have Ny248 := Aside0.mk hy248
                        clear hy248
                        by_cases c36 : x12_2 < (x9_2.length : Int)
                        · rw [if_pos c36] at H
                          have c36b0 : decide (x12_2 < (x9_2.length : Int)) = true := decide_eq_true c36
                          clear c36
                          obtain ⟨bq37, hbq37⟩ : ∃ b_ : Bool, b_ = (rdOf false x9_2 x12_2) := ⟨_, rfl⟩
                          replace H : (if bq37 = true then (taquinref07_spread.l1 k2 l1 a3 (x9_2.set (x12_2 : Int).toNat true) y248 (wrap64 (x12_2 + 1)) a0_0 a0_1 a0_2 l0_3 l0_4) else (if x12_2 < (l0_3.length : Int) then (taquinref07_spread.l1 k2 l1 a3 (x9_2.set (x12_2 : Int).toNat ((rd l0_3 x12_2) == 0)) y248 (wrap64 (x12_2 + 1)) a0_0 a0_1 a0_2 l0_3 l0_4) else (none))) = some r := by rw [← hbq37] at H; exact H
                          have Nbq37 := Aside0.mk hbq37
                          clear hbq37
                          by_cases c38 : bq37 = true
                          · subst c38
                            have H1 : (taquinref07_spread.l1 k2 l1 a3 (x9_2.set (x12_2 : Int).toNat true) y248 (wrap64 (x12_2 + 1)) a0_0 a0_1 a0_2 l0_3 l0_4) = some r := by rw [if_pos rfl] at H; exact H
                            clear H
                            have H := H1
                            clear H1
                            obtain ⟨y250, hy250⟩ : ∃ y_ : List Bool, y_ = (x9_2.set (x12_2 : Int).toNat true) := ⟨_, rfl⟩
                            replace H : (taquinref07_spread.l1 k2 l1 a3 y250 y248 (wrap64 (x12_2 + 1)) a0_0 a0_1 a0_2 l0_3 l0_4) = some r := by first | (rw [hy250]; with_reducible exact H) | (have H2_ := (Option.bind_some _ _).symm.trans H; rw [hy250]; with_reducible exact H2_) | (have H2_ := (Option.bind_some _ _).symm.trans H; with_reducible exact H2_) | with_reducible exact H | (rw [hy250]; exact H) | exact H
                            have Ny250 := Aside0.mk hy250
                            clear hy250
                            have H' := Aside0.mk H
                            clear H
                            obtain ⟨Ao40, co40, eo40⟩ := Kd.R_slice HO_11.out
                            subst eo40
                            have p35 : 0 ≤ (x12_2 : Int) := of_decide_eq_true (by first | (with_reducible assumption) | assumption)
                            have q35 : (x12_2 : Int) < ((x11_2.length : Int) : Int) := of_decide_eq_true (by first | (with_reducible assumption) | assumption)
                            obtain ⟨go35, co35, eo35, gb35, gl35, cl35, HG35⟩ := Kd.R_form HO_11.out (by omega)
                            (first | cases eo35 | (injection eo35 with ea_ en_ ec_; (first | subst ea_ | (injection ea_ with ea_; subst ea_)); subst ec_; clear en_))
                            have GB35 := Aside0.mk gb35
                            have GG35 := Aside0.mk HG35
                            clear gb35 gl35 HG35
                            obtain ⟨hx35_0, hf35_0⟩ := Kd.R_celln 0 HO_11.out (x12_2 : Int) p35 q35
                            replace p35 := eq_true p35
                            replace q35 := eq_true q35
                            have HP41 := Kd.R_putg HO_11.out (x12_2 : Int) (-1)
                            go_wp2_with (first | ((with_reducible refine gate_store (t := 3) (p := 53) rfl ?_); refine store_event (t := 3) (p := 53) (v := ?vo_w42) (w1 := (wr.setCell ⟨go35, (x12_2 : Int).toNat, none⟩ (.int .i64 (-1)))) ?hg ?ho ?hn ?hr ?_; (case ho => rfl); (case hg => rfl); (case hn => rfl); (case hr => first | (go_simp; done) | (go_simp; rfl)); intro w42 hw; have hg : wr.grownBy w42 (some go35) := (by rw [hw]; exact HP41.2); have hp_ : Kd.R (Kd.int .i64) 3 w42 w.heap.size (fun _ => True) (.slice (some ⟨go35, 0, none⟩) x11_2.length co40) y248 := (by rw [hw, Ny248.out]; exact HP41.1); clear HP41; have n0_ := Aside0.mk (Kd.R_over' (v := (.slice (some ⟨go35, 0, none⟩) x11_2.length co40)) (by (with_reducible repeat (first | apply Kd.R_alloc | apply Kd.R_drewN | apply Kd.R_drew)); exact HO_9.out) (Kd.R_typed HO_11.out) (by decide) hg); have n1_ := Aside0.mk (hp_); have n2_ := Aside0.mk (blk_grown (g := gb235) (o := .cells #[.int .i64 a0_0, .int .i64 a0_1, .int .i64 a0_2, .slice A0_3 l0_3.length c0_3, .slice A0_4 l0_4.length c0_4] 24 (0, 0)) (by (with_reducible repeat (first | refine blk_drewN ?_ _ | refine blk_drew ?_ | refine blk_alloc ?_ _)); exact BK235.out) hg (Kd.R_ne HO_11.out BK235.out (by decide))); have n3_ := Aside0.mk ((by rw [hw]; exact below_set (HB.out) GB35.out : Below w.heap.size w w42)); clear HO_9; clear HO_11; clear BK235; clear HB; have HO_9 := n0_; have HO_11 := n1_; have BK235 := n2_; have HB := n3_; clear n0_ n1_ n2_ n3_; clear hg hw hp_; obtain ⟨Ao43, co43, eo43⟩ := Kd.R_slice HO_9.out; subst eo43; have p249 : 0 ≤ (x12_2 : Int) := of_decide_eq_true (by first | (with_reducible assumption) | assumption); have q249 : x12_2 < (x9_2.length : Int) := of_decide_eq_true (by first | (with_reducible assumption) | assumption); obtain ⟨ad249, e249, hx249_0⟩ := Kd.at_bool (Kd.R_reads' HO_9.out).2.2 x12_2 p249 q249; (try rw [← Nbq37.out] at hx249_0); cases e249; replace p249 := eq_true p249; replace q249 := eq_true q249; have p39 : 0 ≤ (x12_2 : Int) := of_decide_eq_true (by first | (with_reducible assumption) | assumption); have q39 : (x12_2 : Int) < ((x9_2.length : Int) : Int) := of_decide_eq_true (by first | (with_reducible assumption) | assumption); obtain ⟨go39, co39, eo39, gb39, gl39, cl39, HG39⟩ := Kd.R_form HO_9.out (by omega); (first | cases eo39 | (injection eo39 with ea_ en_ ec_; (first | subst ea_ | (injection ea_ with ea_; subst ea_)); subst ec_; clear en_)); have GB39 := Aside0.mk gb39; have GG39 := Aside0.mk HG39; clear gb39 gl39 HG39; (first | simp only [add_plain] at hx249_0 | skip); obtain ⟨hx39_0, hf39_0⟩ := Kd.R_celln false HO_9.out (x12_2 : Int) p39 q39; replace p39 := eq_true p39; replace q39 := eq_true q39; obtain ⟨hy44_, hz44_⟩ := Kd.R_celln false HO_9.out (x12_2 : Int) (of_decide_eq_true (by first | (with_reducible assumption) | assumption)) (of_decide_eq_true (by first | (with_reducible assumption) | assumption)); have HP44 := Kd.R_putg HO_9.out (x12_2 : Int) true) | ((with_reducible refine gate_store (t := 4) (p := 68) rfl ?_); refine store_event (t := 4) (p := 68) (v := ?vo_w45) (w1 := (w42.setCell ⟨go39, (x12_2 : Int).toNat, none⟩ (.bool true))) ?hg ?ho ?hn ?hr ?_; (case ho => rfl); (case hg => rfl); (case hn => rfl); (case hr => first | (go_simp; done) | (go_simp; rfl)); intro w45 hw; have hg : w42.grownBy w45 (some go39) := (by rw [hw]; exact HP44.2); have hp_ : Kd.R Kd.bool 4 w45 w.heap.size (fun _ => True) (.slice (some ⟨go39, 0, none⟩) x9_2.length co43) y250 := (by rw [hw, Ny250.out]; exact HP44.1); clear HP44; have n0_ := Aside0.mk (hp_); have n1_ := Aside0.mk (Kd.R_over' (v := (.slice (some ⟨go39, 0, none⟩) x9_2.length co43)) (by (with_reducible repeat (first | apply Kd.R_alloc | apply Kd.R_drewN | apply Kd.R_drew)); exact HO_11.out) (Kd.R_typed HO_9.out) (by decide) hg); have n2_ := Aside0.mk (blk_grown (g := gb235) (o := .cells #[.int .i64 a0_0, .int .i64 a0_1, .int .i64 a0_2, .slice A0_3 l0_3.length c0_3, .slice A0_4 l0_4.length c0_4] 24 (0, 0)) (by (with_reducible repeat (first | refine blk_drewN ?_ _ | refine blk_drew ?_ | refine blk_alloc ?_ _)); exact BK235.out) hg (Kd.R_ne HO_9.out BK235.out (by decide))); have n3_ := Aside0.mk ((by rw [hw]; exact below_set (HB.out) GB39.out : Below w.heap.size w w45)); clear HO_9; clear HO_11; clear BK235; clear HB; have HO_9 := n0_; have HO_11 := n1_; have BK235 := n2_; have HB := n3_; clear n0_ n1_ n2_ n3_; clear hg hw hp_))
                            go_roundg k2
                            case measure => have := HK1.out; have := HK2.out; omega
                            case rel => exact ⟨(y250), (y248), (wrap64 (x12_2 + 1)), (by first | rfl | (simp; done) | (simp [*]; done)), H', ⟨by have := HK1.out; have := HK2.out; omega⟩, ⟨by (with_reducible repeat (first | apply Kd.R_alloc | apply Kd.R_drewN | apply Kd.R_drew)); exact HO_9.out⟩, ⟨by (with_reducible repeat (first | apply Kd.R_alloc | apply Kd.R_drewN | apply Kd.R_drew)); exact HO_11.out⟩, ⟨by (with_reducible repeat (first | refine blk_drewN ?_ _ | refine blk_drew ?_ | refine blk_alloc ?_ _)); exact BK235.out⟩, ⟨by repeat (first | (with_reducible first | exact HB.out | apply below_alloc | apply pw_below_drewN | apply below_drew1 | refine below_set ?_ GE235.out) | exact HB.out)⟩⟩
                          · replace c38 := Bool.eq_false_iff.mpr c38
                            subst c38
                            have H1 : (if x12_2 < (l0_3.length : Int) then (taquinref07_spread.l1 k2 l1 a3 (x9_2.set (x12_2 : Int).toNat ((rd l0_3 x12_2) == 0)) y248 (wrap64 (x12_2 + 1)) a0_0 a0_1 a0_2 l0_3 l0_4) else (none)) = some r := by rw [if_neg (show ¬ (false = true) by decide)] at H; exact H
                            clear H
                            have H := H1
                            clear H1
                            by_cases c46 : x12_2 < (l0_3.length : Int)
                            · rw [if_pos c46] at H
                              have c46b0 : decide (x12_2 < (l0_3.length : Int)) = true := decide_eq_true c46
                              clear c46
                              obtain ⟨y252, hy252⟩ : ∃ y_ : List Bool, y_ = (x9_2.set (x12_2 : Int).toNat ((rd l0_3 x12_2) == 0)) := ⟨_, rfl⟩
                              replace H : (taquinref07_spread.l1 k2 l1 a3 y252 y248 (wrap64 (x12_2 + 1)) a0_0 a0_1 a0_2 l0_3 l0_4) = some r := by first | (rw [hy252]; with_reducible exact H) | (have H2_ := (Option.bind_some _ _).symm.trans H; rw [hy252]; with_reducible exact H2_) | (have H2_ := (Option.bind_some _ _).symm.trans H; with_reducible exact H2_) | with_reducible exact H | (rw [hy252]; exact H) | exact H
                              have Ny252 := Aside0.mk hy252
                              clear hy252
                              have H' := Aside0.mk H
                              clear H
                              obtain ⟨Ao48, co48, eo48⟩ := Kd.R_slice HO_11.out
                              subst eo48
                              have p35 : 0 ≤ (x12_2 : Int) := of_decide_eq_true (by first | (with_reducible assumption) | assumption)
                              have q35 : (x12_2 : Int) < ((x11_2.length : Int) : Int) := of_decide_eq_true (by first | (with_reducible assumption) | assumption)
                              obtain ⟨go35, co35, eo35, gb35, gl35, cl35, HG35⟩ := Kd.R_form HO_11.out (by omega)
                              (first | cases eo35 | (injection eo35 with ea_ en_ ec_; (first | subst ea_ | (injection ea_ with ea_; subst ea_)); subst ec_; clear en_))
                              have GB35 := Aside0.mk gb35
                              have GG35 := Aside0.mk HG35
                              clear gb35 gl35 HG35
                              obtain ⟨hx35_0, hf35_0⟩ := Kd.R_celln 0 HO_11.out (x12_2 : Int) p35 q35
                              replace p35 := eq_true p35
                              replace q35 := eq_true q35
                              have HP49 := Kd.R_putg HO_11.out (x12_2 : Int) (-1)
                              go_wp2_with (first | ((with_reducible refine gate_store (t := 3) (p := 53) rfl ?_); refine store_event (t := 3) (p := 53) (v := ?vo_w50) (w1 := (wr.setCell ⟨go35, (x12_2 : Int).toNat, none⟩ (.int .i64 (-1)))) ?hg ?ho ?hn ?hr ?_; (case ho => rfl); (case hg => rfl); (case hn => rfl); (case hr => first | (go_simp; done) | (go_simp; rfl)); intro w50 hw; have hg : wr.grownBy w50 (some go35) := (by rw [hw]; exact HP49.2); have hp_ : Kd.R (Kd.int .i64) 3 w50 w.heap.size (fun _ => True) (.slice (some ⟨go35, 0, none⟩) x11_2.length co48) y248 := (by rw [hw, Ny248.out]; exact HP49.1); clear HP49; have n0_ := Aside0.mk (Kd.R_over' (v := (.slice (some ⟨go35, 0, none⟩) x11_2.length co48)) (by (with_reducible repeat (first | apply Kd.R_alloc | apply Kd.R_drewN | apply Kd.R_drew)); exact HO_9.out) (Kd.R_typed HO_11.out) (by decide) hg); have n1_ := Aside0.mk (hp_); have n2_ := Aside0.mk (blk_grown (g := gb235) (o := .cells #[.int .i64 a0_0, .int .i64 a0_1, .int .i64 a0_2, .slice A0_3 l0_3.length c0_3, .slice A0_4 l0_4.length c0_4] 24 (0, 0)) (by (with_reducible repeat (first | refine blk_drewN ?_ _ | refine blk_drew ?_ | refine blk_alloc ?_ _)); exact BK235.out) hg (Kd.R_ne HO_11.out BK235.out (by decide))); have n3_ := Aside0.mk ((by rw [hw]; exact below_set (HB.out) GB35.out : Below w.heap.size w w50)); clear HO_9; clear HO_11; clear BK235; clear HB; have HO_9 := n0_; have HO_11 := n1_; have BK235 := n2_; have HB := n3_; clear n0_ n1_ n2_ n3_; clear hg hw hp_; obtain ⟨Ao51, co51, eo51⟩ := Kd.R_slice HO_9.out; subst eo51; have p249 : 0 ≤ (x12_2 : Int) := of_decide_eq_true (by first | (with_reducible assumption) | assumption); have q249 : x12_2 < (x9_2.length : Int) := of_decide_eq_true (by first | (with_reducible assumption) | assumption); obtain ⟨ad249, e249, hx249_0⟩ := Kd.at_bool (Kd.R_reads' HO_9.out).2.2 x12_2 p249 q249; (try rw [← Nbq37.out] at hx249_0); cases e249; replace p249 := eq_true p249; replace q249 := eq_true q249; have hcz52_0 : w50.cell? ⟨gb235, 0, none⟩ = some (.int .i64 a0_0) := (blk_cell BK235.out 0).trans rfl; have hcz52_1 : w50.cell? ⟨gb235, 1, none⟩ = some (.int .i64 a0_1) := (blk_cell BK235.out 1).trans rfl; have hcz52_2 : w50.cell? ⟨gb235, 2, none⟩ = some (.int .i64 a0_2) := (blk_cell BK235.out 2).trans rfl; have hcz52_3 : w50.cell? ⟨gb235, 3, none⟩ = some (.slice A0_3 l0_3.length c0_3) := (blk_cell BK235.out 3).trans rfl; have hcz52_4 : w50.cell? ⟨gb235, 4, none⟩ = some (.slice A0_4 l0_4.length c0_4) := (blk_cell BK235.out 4).trans rfl; have hfz52_0 := blk_frozen BK235.out 0; have hfz52_1 := blk_frozen BK235.out 1; have hfz52_2 := blk_frozen BK235.out 2; have hfz52_3 := blk_frozen BK235.out 3; have hfz52_4 := blk_frozen BK235.out 4; have p251 : 0 ≤ (x12_2 : Int) := of_decide_eq_true (by first | (with_reducible assumption) | assumption); have q251 : x12_2 < (l0_3.length : Int) := of_decide_eq_true (by first | (with_reducible assumption) | assumption); obtain ⟨ad251, e251, hx251_0⟩ := Kd.at_int HR0_3.out x12_2 p251 q251; cases e251; replace hx251_0 := (HB.out.cell (World.block_lt_of_cell? w _ hx251_0)).trans hx251_0; replace p251 := eq_true p251; replace q251 := eq_true q251; have p47 : 0 ≤ (x12_2 : Int) := of_decide_eq_true (by first | (with_reducible assumption) | assumption); have q47 : (x12_2 : Int) < ((x9_2.length : Int) : Int) := of_decide_eq_true (by first | (with_reducible assumption) | assumption); obtain ⟨go47, co47, eo47, gb47, gl47, cl47, HG47⟩ := Kd.R_form HO_9.out (by omega); (first | cases eo47 | (injection eo47 with ea_ en_ ec_; (first | subst ea_ | (injection ea_ with ea_; subst ea_)); subst ec_; clear en_)); have GB47 := Aside0.mk gb47; have GG47 := Aside0.mk HG47; clear gb47 gl47 HG47; (first | simp only [add_plain] at hx249_0 | skip); obtain ⟨hx47_0, hf47_0⟩ := Kd.R_celln false HO_9.out (x12_2 : Int) p47 q47; replace p47 := eq_true p47; replace q47 := eq_true q47; obtain ⟨hy53_, hz53_⟩ := Kd.R_celln false HO_9.out (x12_2 : Int) (of_decide_eq_true (by first | (with_reducible assumption) | assumption)) (of_decide_eq_true (by first | (with_reducible assumption) | assumption)); have HP53 := Kd.R_putg HO_9.out (x12_2 : Int) ((rd l0_3 x12_2) == 0)) | ((with_reducible refine gate_store (t := 4) (p := 68) rfl ?_); refine store_event (t := 4) (p := 68) (v := ?vo_w54) (w1 := (w50.setCell ⟨go47, (x12_2 : Int).toNat, none⟩ (.bool ((rd l0_3 x12_2) == 0)))) ?hg ?ho ?hn ?hr ?_; (case ho => rfl); (case hg => rfl); (case hn => rfl); (case hr => first | (go_simp; done) | (go_simp; rfl)); intro w54 hw; have hg : w50.grownBy w54 (some go47) := (by rw [hw]; exact HP53.2); have hp_ : Kd.R Kd.bool 4 w54 w.heap.size (fun _ => True) (.slice (some ⟨go47, 0, none⟩) x9_2.length co51) y252 := (by rw [hw, Ny252.out]; exact HP53.1); clear HP53; have n0_ := Aside0.mk (hp_); have n1_ := Aside0.mk (Kd.R_over' (v := (.slice (some ⟨go47, 0, none⟩) x9_2.length co51)) (by (with_reducible repeat (first | apply Kd.R_alloc | apply Kd.R_drewN | apply Kd.R_drew)); exact HO_11.out) (Kd.R_typed HO_9.out) (by decide) hg); have n2_ := Aside0.mk (blk_grown (g := gb235) (o := .cells #[.int .i64 a0_0, .int .i64 a0_1, .int .i64 a0_2, .slice (some ad251) l0_3.length c0_3, .slice A0_4 l0_4.length c0_4] 24 (0, 0)) (by (with_reducible repeat (first | refine blk_drewN ?_ _ | refine blk_drew ?_ | refine blk_alloc ?_ _)); exact BK235.out) hg (Kd.R_ne HO_9.out BK235.out (by decide))); have n3_ := Aside0.mk ((by rw [hw]; exact below_set (HB.out) GB47.out : Below w.heap.size w w54)); clear HO_9; clear HO_11; clear BK235; clear HB; have HO_9 := n0_; have HO_11 := n1_; have BK235 := n2_; have HB := n3_; clear n0_ n1_ n2_ n3_; clear hg hw hp_))
                              go_roundg k2
                              case measure => have := HK1.out; have := HK2.out; omega
                              case rel => exact ⟨(y252), (y248), (wrap64 (x12_2 + 1)), (by first | rfl | (simp; done) | (simp [*]; done)), H', ⟨by have := HK1.out; have := HK2.out; omega⟩, ⟨by (with_reducible repeat (first | apply Kd.R_alloc | apply Kd.R_drewN | apply Kd.R_drew)); exact HO_9.out⟩, ⟨by (with_reducible repeat (first | apply Kd.R_alloc | apply Kd.R_drewN | apply Kd.R_drew)); exact HO_11.out⟩, ⟨by (with_reducible repeat (first | refine blk_drewN ?_ _ | refine blk_drew ?_ | refine blk_alloc ?_ _)); exact BK235.out⟩, ⟨by repeat (first | (with_reducible first | exact HB.out | apply below_alloc | apply pw_below_drewN | apply below_drew1 | refine below_set ?_ GE235.out) | exact HB.out)⟩⟩
                            · rw [if_neg c46] at H
                              exact absurd H (by simp)
                        · rw [if_neg c36] at H
                          exact absurd H (by simp)
                      · rw [if_neg c34] at H
                        exact absurd H (by simp)
                    · rw [if_neg c33] at H
                      have c33b0 : decide (x12_2 < (x11_2.length : Int)) = false := decide_eq_false c33
                      clear c33
                      have H' := Aside0.mk H
                      clear H
                      obtain ⟨Ao55, co55, eo55⟩ := Kd.R_slice HO_11.out
                      subst eo55
                      go_wp2
                      go_loopg [13, 14] k2 (fun kq v13 v14 w' => ∃ (x11_3 : List Int) (x13_3 : List Int) (x14_3 : Int), v14 = .int .i64 x14_3 ∧ Aside0 (taquinref07_spread.l2 kq l1 a3 x9_2 x11_3 x13_3 x14_3 a0_0 a0_1 a0_2 l0_3 l0_4 = some r) ∧ Aside0 (kq ≤ k2) ∧ Aside0 (Kd.R Kd.bool 4 w' w.heap.size (fun _ => True) v238 x9_2) ∧ Aside0 (Kd.R (Kd.int .i64) 3 w' w.heap.size (fun k_ => some k_ ≠ (v13 : Value).ownBlock) (.slice Ao55 x11_2.length co55) x11_3) ∧ Aside0 (Kd.R (Kd.int .i64) 3 w' w.heap.size (fun k_ => some k_ ≠ ((.slice Ao55 x11_2.length co55) : Value).ownBlock) v13 x13_3) ∧ Aside0 (w'.heap[gb235]? = some (.cells #[.int .i64 a0_0, .int .i64 a0_1, .int .i64 a0_2, (.slice A0_3 l0_3.length c0_3), (.slice A0_4 l0_4.length c0_4)] 24 (0, 0))) ∧ Aside0 (Below w.heap.size w w'))
                      case atStart => exact ⟨(x11_2), (([] : List Int)), (0), (by first | rfl | (simp; done) | (simp [*]; done)), H', ⟨Nat.le_refl _⟩, ⟨by (with_reducible repeat (first | apply Kd.R_alloc | apply Kd.R_drewN | apply Kd.R_drew)); exact HO_9.out⟩, ⟨by (with_reducible repeat (first | apply Kd.R_alloc | apply Kd.R_drewN | apply Kd.R_drew)); exact Kd.R_mono HO_11.out (fun _ hk => (by simp [Value.ownBlock]))⟩, ⟨by first | exact Kd.R_nil _ _ _ _ _ | exact Kd.N_nil _ _ _ _ _ | exact Kd.V_nil _ _ _ _ _ | exact Kd.Q_nil _ _ _ _ _ | exact Kd.S_nil _ _ _ _ _⟩, ⟨by (with_reducible repeat (first | refine blk_drewN ?_ _ | refine blk_drew ?_ | refine blk_alloc ?_ _)); exact BK235.out⟩, ⟨by repeat (first | (with_reducible first | exact HB.out | apply below_alloc | apply pw_below_drewN | apply below_drew1 | refine below_set ?_ GE235.out) | exact HB.out)⟩⟩
                      case round =>
                        clear H'
                        try clear c1
                        try clear p1
                        try clear q1
                        try clear hx1
                        try clear c2
                        try clear p2
                        try clear q2
                        try clear hx2
                        try clear c3
                        try clear p3
                        try clear q3
                        try clear hx3
                        try clear c4
                        try clear p4
                        try clear q4
                        try clear hx4
                        try clear hf4
                        try clear c6
                        try clear c6b0
                        try clear c6b1
                        try clear p6
                        try clear c7
                        try clear c7b0
                        try clear c7b1
                        try clear c8
                        try clear c13
                        try clear c13b0
                        try clear c14
                        try clear c14b0
                        try clear c16
                        try clear c17
                        try clear c17b0
                        try clear c18
                        try clear c18b0
                        try clear p19
                        try clear q19
                        try clear hx19
                        try clear hf19
                        try clear p24
                        try clear q24
                        try clear hx24
                        try clear p25
                        try clear q25
                        try clear hx25
                        try clear c27
                        try clear c27b0
                        try clear c27b1
                        try clear c28
                        try clear c28b0
                        try clear c28b1
                        try clear c33
                        try clear c33b0
                        try clear c34
                        try clear c34b0
                        try clear p35
                        try clear q35
                        try clear hx35
                        try clear hf35
                        try clear c36
                        try clear c36b0
                        try clear q37
                        try clear c38
                        try clear p39
                        try clear q39
                        try clear hx39
                        try clear hf39
                        try clear c46
                        try clear c46b0
                        try clear p47
                        try clear q47
                        try clear hx47
                        try clear hf47
                        try clear hcz29_0
                        try clear hcz29_1
                        try clear hcz29_2
                        try clear hcz29_3
                        try clear hcz29_4
                        try clear hcz52_0
                        try clear hcz52_1
                        try clear hcz52_2
                        try clear hcz52_3
                        try clear hcz52_4
                        try clear hcz9_0
                        try clear hcz9_1
                        try clear hcz9_2
                        try clear hcz9_3
                        try clear hcz9_4
                        try clear hfz29_0
                        try clear hfz29_1
                        try clear hfz29_2
                        try clear hfz29_3
                        try clear hfz29_4
                        try clear hfz52_0
                        try clear hfz52_1
                        try clear hfz52_2
                        try clear hfz52_3
                        try clear hfz52_4
                        try clear hfz9_0
                        try clear hfz9_1
                        try clear hfz9_2
                        try clear hfz9_3
                        try clear hfz9_4
                        try clear hx19_0
                        try clear hx240_0
                        try clear hx242_0
                        try clear hx249_0
                        try clear hx251_0
                        try clear hx35_0
                        try clear hx39_0
                        try clear hx47_0
                        try clear p1
                        try clear p19
                        try clear p2
                        try clear p24
                        try clear p240
                        try clear p242
                        try clear p249
                        try clear p251
                        try clear p35
                        try clear p39
                        try clear p47
                        try clear p6
                        try clear q1
                        try clear q19
                        try clear q2
                        try clear q24
                        try clear q240
                        try clear q242
                        try clear q249
                        try clear q251
                        try clear q35
                        try clear q39
                        try clear q47
                        obtain ⟨x11_3, x13_3, x14_3, rfl, HA, HK3, HO_9, HO_11, HO_13, BK235, HB⟩ := hrel
                        have hl11_3 := (Kd.R_reads' HO_11.out).1
                        rw [hl11_3] at HO_11
                        (try simp only [hl11_3])
                        (try simp only [hl11_3] at BK235)
                        (try simp only [hl11_3] at HO_9)
                        (try simp only [hl11_3] at HO_13)
                        cases gk with
                        | zero => exact absurd HA.out (by simp [taquinref07_spread.l2])
                        | succ k3 =>
                          have H := HA.out
                          clear HA
                          simp only [taquinref07_spread.l2] at H
                          by_cases c56 : x14_3 < (l1.length : Int)
                          · rw [if_pos c56] at H
                            have c56b0 : decide (x14_3 < (l1.length : Int)) = true := decide_eq_true c56
                            clear c56
                            by_cases c57 : 0 ≤ x14_3
                            · rw [if_pos c57] at H
                              have c57b0 : decide (0 ≤ x14_3) = true := decide_eq_true c57
                              clear c57
                              have HC58 := Aside0.mk H
                              clear H
                              have p253 : 0 ≤ (x14_3 : Int) := of_decide_eq_true (by first | (with_reducible assumption) | assumption)
                              have q253 : x14_3 < (l1.length : Int) := of_decide_eq_true (by first | (with_reducible assumption) | assumption)
                              obtain ⟨ad253, e253, hx253_0⟩ := Kd.at_int HR1.out x14_3 p253 q253
                              cases e253
                              replace hx253_0 := (HB.out.cell (World.block_lt_of_cell? w _ hx253_0)).trans hx253_0
                              replace p253 := eq_true p253
                              replace q253 := eq_true q253
                              go_upto_region 18 with (fail)
                              go_cut [105] (fun v105 wc => ∃ (kq : Nat) (x105_57 : Bool), v105 = .bool x105_57 ∧ Aside0 (taquinref07_spread.j3 kq l1 a3 x9_2 x11_3 x13_3 x14_3 (rd l1 x14_3) x105_57 a0_0 a0_1 a0_2 l0_3 l0_4 = some r) ∧ Aside0 (kq ≤ k3) ∧ Aside0 (Kd.R Kd.bool 4 wc w.heap.size (fun _ => True) v238 x9_2) ∧ Aside0 (Kd.R (Kd.int .i64) 3 wc w.heap.size (fun k_ => some k_ ≠ (u13 : Value).ownBlock) (.slice Ao55 x11_3.length co55) x11_3) ∧ Aside0 (Kd.R (Kd.int .i64) 3 wc w.heap.size (fun k_ => some k_ ≠ ((.slice Ao55 x11_3.length co55) : Value).ownBlock) u13 x13_3) ∧ Aside0 (wc.heap[gb235]? = some (.cells #[.int .i64 a0_0, .int .i64 a0_1, .int .i64 a0_2, (.slice A0_3 l0_3.length c0_3), (.slice A0_4 l0_4.length c0_4)] 24 (0, 0))) ∧ Aside0 (Below w.heap.size w wc))
                              case first =>
                                have H := HC58.out
                                clear HC58
                                replace H := Option.bind_eq_some_iff.mp H
                                obtain ⟨t254, A590, H⟩ := H
                                replace H : (if t254 = true then (if 0 ≤ (mx 0 (mn (rd l1 x14_3) (wrap64 ((x9_2.length : Int) - 1)))) then (if (mx 0 (mn (rd l1 x14_3) (wrap64 ((x9_2.length : Int) - 1)))) < (x9_2.length : Int) then (if (rdOf false x9_2 (mx 0 (mn (rd l1 x14_3) (wrap64 ((x9_2.length : Int) - 1)))) = true) then (taquinref07_spread.j3 k3 l1 a3 x9_2 x11_3 x13_3 x14_3 (rd l1 x14_3) false a0_0 a0_1 a0_2 l0_3 l0_4) else (if 0 ≤ (mx 0 (mn (rd l1 x14_3) (wrap64 ((x11_3.length : Int) - 1)))) then (if (mx 0 (mn (rd l1 x14_3) (wrap64 ((x11_3.length : Int) - 1)))) < (x11_3.length : Int) then (taquinref07_spread.j3 k3 l1 a3 x9_2 x11_3 x13_3 x14_3 (rd l1 x14_3) (decide ((rd x11_3 (mx 0 (mn (rd l1 x14_3) (wrap64 ((x11_3.length : Int) - 1))))) < 0)) a0_0 a0_1 a0_2 l0_3 l0_4) else (none)) else (none))) else (none)) else (none)) else (taquinref07_spread.j3 k3 l1 a3 x9_2 x11_3 x13_3 x14_3 (rd l1 x14_3) false a0_0 a0_1 a0_2 l0_3 l0_4)) = some r := H
                                have A59 := Aside0.mk A590
                                clear A590
                                by_cases c60 : t254 = true
                                · subst c60
                                  have H1 : (if 0 ≤ (mx 0 (mn (rd l1 x14_3) (wrap64 ((x9_2.length : Int) - 1)))) then (if (mx 0 (mn (rd l1 x14_3) (wrap64 ((x9_2.length : Int) - 1)))) < (x9_2.length : Int) then (if (rdOf false x9_2 (mx 0 (mn (rd l1 x14_3) (wrap64 ((x9_2.length : Int) - 1)))) = true) then (taquinref07_spread.j3 k3 l1 a3 x9_2 x11_3 x13_3 x14_3 (rd l1 x14_3) false a0_0 a0_1 a0_2 l0_3 l0_4) else (if 0 ≤ (mx 0 (mn (rd l1 x14_3) (wrap64 ((x11_3.length : Int) - 1)))) then (if (mx 0 (mn (rd l1 x14_3) (wrap64 ((x11_3.length : Int) - 1)))) < (x11_3.length : Int) then (taquinref07_spread.j3 k3 l1 a3 x9_2 x11_3 x13_3 x14_3 (rd l1 x14_3) (decide ((rd x11_3 (mx 0 (mn (rd l1 x14_3) (wrap64 ((x11_3.length : Int) - 1))))) < 0)) a0_0 a0_1 a0_2 l0_3 l0_4) else (none)) else (none))) else (none)) else (none)) = some r := by rw [if_pos rfl] at H; exact H
                                  clear H
                                  have H := H1
                                  clear H1
                                  obtain ⟨ji61, hji61⟩ : ∃ j_ : Int, (mn (rd l1 x14_3) (wrap64 ((x9_2.length : Int) - 1))) = j_ := ⟨_, rfl⟩
                                  replace H : (if 0 ≤ (mx 0 (ji61)) then (if (mx 0 (ji61)) < (x9_2.length : Int) then (if (rdOf false x9_2 (mx 0 (ji61)) = true) then (taquinref07_spread.j3 k3 l1 a3 x9_2 x11_3 x13_3 x14_3 (rd l1 x14_3) false a0_0 a0_1 a0_2 l0_3 l0_4) else (if 0 ≤ (mx 0 (mn (rd l1 x14_3) (wrap64 ((x11_3.length : Int) - 1)))) then (if (mx 0 (mn (rd l1 x14_3) (wrap64 ((x11_3.length : Int) - 1)))) < (x11_3.length : Int) then (taquinref07_spread.j3 k3 l1 a3 x9_2 x11_3 x13_3 x14_3 (rd l1 x14_3) (decide ((rd x11_3 (mx 0 (mn (rd l1 x14_3) (wrap64 ((x11_3.length : Int) - 1))))) < 0)) a0_0 a0_1 a0_2 l0_3 l0_4) else (none)) else (none))) else (none)) else (none)) = some r := by first | (rw [hji61] at H; exact H) | (simp only [hji61] at H ⊢; exact H)
                                  (try rw [hji61] at A59)
                                  have hji61_ : (if (wrap64 ((x9_2.length : Int) - 1)) < (rd l1 x14_3) then (wrap64 ((x9_2.length : Int) - 1)) else (rd l1 x14_3)) = ji61 := hji61
                                  obtain ⟨ji62, hji62⟩ : ∃ j_ : Int, (mx 0 (ji61)) = j_ := ⟨_, rfl⟩
                                  replace H : (if 0 ≤ (ji62) then (if (ji62) < (x9_2.length : Int) then (if (rdOf false x9_2 (ji62) = true) then (taquinref07_spread.j3 k3 l1 a3 x9_2 x11_3 x13_3 x14_3 (rd l1 x14_3) false a0_0 a0_1 a0_2 l0_3 l0_4) else (if 0 ≤ (mx 0 (mn (rd l1 x14_3) (wrap64 ((x11_3.length : Int) - 1)))) then (if (mx 0 (mn (rd l1 x14_3) (wrap64 ((x11_3.length : Int) - 1)))) < (x11_3.length : Int) then (taquinref07_spread.j3 k3 l1 a3 x9_2 x11_3 x13_3 x14_3 (rd l1 x14_3) (decide ((rd x11_3 (mx 0 (mn (rd l1 x14_3) (wrap64 ((x11_3.length : Int) - 1))))) < 0)) a0_0 a0_1 a0_2 l0_3 l0_4) else (none)) else (none))) else (none)) else (none)) = some r := by first | (rw [hji62] at H; exact H) | (simp only [hji62] at H ⊢; exact H)
                                  (try rw [hji62] at A59)
                                  have hji62_ : (if 0 < (ji61) then (ji61) else 0) = ji62 := hji62
                                  by_cases c63 : 0 ≤ (ji62)
                                  · rw [if_pos c63] at H
                                    have c63b0 : decide (0 ≤ (ji62)) = true := decide_eq_true c63
                                    clear c63
                                    (first | rw [c63b0] | (simp only [i64_w, i32_w]; rw [c63b0]) | skip)
                                    by_cases c64 : (ji62) < (x9_2.length : Int)
                                    · rw [if_pos c64] at H
                                      have c64b0 : decide ((ji62) < (x9_2.length : Int)) = true := decide_eq_true c64
                                      clear c64
                                      obtain ⟨bq65, hbq65⟩ : ∃ b_ : Bool, b_ = (rdOf false x9_2 (ji62)) := ⟨_, rfl⟩
                                      replace H : (if (bq65 = true) then (taquinref07_spread.j3 k3 l1 a3 x9_2 x11_3 x13_3 x14_3 (rd l1 x14_3) false a0_0 a0_1 a0_2 l0_3 l0_4) else (if 0 ≤ (mx 0 (mn (rd l1 x14_3) (wrap64 ((x11_3.length : Int) - 1)))) then (if (mx 0 (mn (rd l1 x14_3) (wrap64 ((x11_3.length : Int) - 1)))) < (x11_3.length : Int) then (taquinref07_spread.j3 k3 l1 a3 x9_2 x11_3 x13_3 x14_3 (rd l1 x14_3) (decide ((rd x11_3 (mx 0 (mn (rd l1 x14_3) (wrap64 ((x11_3.length : Int) - 1))))) < 0)) a0_0 a0_1 a0_2 l0_3 l0_4) else (none)) else (none))) = some r := by rw [← hbq65] at H; exact H
                                      have Nbq65 := Aside0.mk hbq65
                                      clear hbq65
                                      by_cases c66 : (bq65 = true)
                                      · subst c66
                                        have H1 : (taquinref07_spread.j3 k3 l1 a3 x9_2 x11_3 x13_3 x14_3 (rd l1 x14_3) false a0_0 a0_1 a0_2 l0_3 l0_4) = some r := by rw [if_pos rfl] at H; exact H
                                        clear H
                                        have H := H1
                                        clear H1
                                        have H' := Aside0.mk H
                                        clear H
                                        have hcz67_0 : wr.cell? ⟨gb235, 0, none⟩ = some (.int .i64 a0_0) := (blk_cell BK235.out 0).trans rfl
                                        have hcz67_1 : wr.cell? ⟨gb235, 1, none⟩ = some (.int .i64 a0_1) := (blk_cell BK235.out 1).trans rfl
                                        have hcz67_2 : wr.cell? ⟨gb235, 2, none⟩ = some (.int .i64 a0_2) := (blk_cell BK235.out 2).trans rfl
                                        have hcz67_3 : wr.cell? ⟨gb235, 3, none⟩ = some (.slice A0_3 l0_3.length c0_3) := (blk_cell BK235.out 3).trans rfl
                                        have hcz67_4 : wr.cell? ⟨gb235, 4, none⟩ = some (.slice A0_4 l0_4.length c0_4) := (blk_cell BK235.out 4).trans rfl
                                        have hfz67_0 := blk_frozen BK235.out 0
                                        have hfz67_1 := blk_frozen BK235.out 1
                                        have hfz67_2 := blk_frozen BK235.out 2
                                        have hfz67_3 := blk_frozen BK235.out 3
                                        have hfz67_4 := blk_frozen BK235.out 4
                                        go_wp2_with (first | ((with_reducible refine gate_callee (f := 68) rfl ?_); refine goesL_ (some 81) rfl rfl Try.func68 (by kernel_rfl) rfl #[.agg #[.int .i64 a0_0, .int .i64 a0_1, .int .i64 a0_2, .slice A0_3 l0_3.length c0_3, .slice A0_4 l0_4.length c0_4], .int .i64 (rd l1 x14_3)] rfl (by (try simp only [List.map_toArray, List.map_cons, List.map_nil]); first | done | rfl | (simp only [List.length_drop, List.length_take]; rfl)) ?_; (with_reducible refine (taquinref07_Is.calls a0_0 a0_1 a0_2 _ _ l0_3 _ _ l0_4 (rd l1 x14_3) true _ ?side1 ?side2 ?side3 ?side4 A59.out).mono ?_); (case side1 => repeat (first | exact (Kd.C_below HR0_3.out HB.out) | (with_reducible refine Kd.C_alloc ?_ _) | (with_reducible refine Kd.C_drewN ?_ _) | (with_reducible refine Kd.C_drew ?_))); (case side2 => exact HC0_3.out); (case side3 => repeat (first | exact (Kd.C_below HR0_4.out HB.out) | (with_reducible refine Kd.C_alloc ?_ _) | (with_reducible refine Kd.C_drewN ?_ _) | (with_reducible refine Kd.C_drew ?_))); (case side4 => exact HC0_4.out); rintro e w68 ⟨rfl, hb⟩; refine ⟨_, rfl, ?_⟩; have n0_ := Aside0.mk (Kd.R_below (by (with_reducible repeat (first | apply Kd.R_alloc | apply Kd.R_drewN | apply Kd.R_drew)); exact HO_9.out) hb); have n1_ := Aside0.mk (Kd.R_below (by (with_reducible repeat (first | apply Kd.R_alloc | apply Kd.R_drewN | apply Kd.R_drew)); exact HO_11.out) hb); have n2_ := Aside0.mk (Kd.R_below (by (with_reducible repeat (first | apply Kd.R_alloc | apply Kd.R_drewN | apply Kd.R_drew)); exact HO_13.out) hb); have n3_ := Aside0.mk (blk_below (g := gb235) (o := .cells #[.int .i64 a0_0, .int .i64 a0_1, .int .i64 a0_2, .slice A0_3 l0_3.length c0_3, .slice A0_4 l0_4.length c0_4] 24 (0, 0)) (by (with_reducible repeat (first | refine blk_drewN ?_ _ | refine blk_drew ?_ | refine blk_alloc ?_ _)); exact BK235.out) hb); have n4_ := Aside0.mk (below_step (by repeat (first | (with_reducible first | exact HB.out | apply below_alloc | apply pw_below_drewN | apply below_drew1 | refine below_set ?_ GE235.out) | exact HB.out)) hb); clear HO_9; clear HO_11; clear HO_13; clear BK235; clear HB; have HO_9 := n0_; have HO_11 := n1_; have HO_13 := n2_; have BK235 := n3_; have HB := n4_; clear n0_ n1_ n2_ n3_ n4_; (try clear hb); (try clear hb2); (try clear hk); (try clear hi); obtain ⟨Ao69, co69, eo69⟩ := Kd.R_slice HO_9.out; subst eo69; have p255 : 0 ≤ ((ji62) : Int) := of_decide_eq_true (by first | (with_reducible assumption) | assumption); have q255 : (ji62) < (x9_2.length : Int) := of_decide_eq_true (by first | (with_reducible assumption) | assumption); obtain ⟨ad255, e255, hx255_0⟩ := Kd.at_bool (Kd.R_reads' HO_9.out).2.2 (ji62) p255 q255; (try rw [← Nbq65.out] at hx255_0); cases e255; replace p255 := eq_true p255; replace q255 := eq_true q255))
                                        go_meet
                                        case rel => exact ⟨_, (false), (by first | rfl | (simp; done) | (simp [*]; done)), H', ⟨by have := HK1.out; have := HK2.out; have := HK3.out; first | omega | exact Nat.le_refl _⟩, ⟨by (try simp only [hl11_3]); (with_reducible repeat (first | apply Kd.R_alloc | apply Kd.R_drewN | apply Kd.R_drew)); exact HO_9.out⟩, ⟨by (try simp only [hl11_3]); (with_reducible repeat (first | apply Kd.R_alloc | apply Kd.R_drewN | apply Kd.R_drew)); exact HO_11.out⟩, ⟨by (try simp only [hl11_3]); (with_reducible repeat (first | apply Kd.R_alloc | apply Kd.R_drewN | apply Kd.R_drew)); exact HO_13.out⟩, ⟨by (try simp only [hl11_3]); (with_reducible repeat (first | refine blk_drewN ?_ _ | refine blk_drew ?_ | refine blk_alloc ?_ _)); exact BK235.out⟩, ⟨by repeat (first | (with_reducible first | exact HB.out | apply below_alloc | apply pw_below_drewN | apply below_drew1 | refine below_set ?_ GE235.out) | exact HB.out)⟩⟩
                                      · replace c66 := Bool.eq_false_iff.mpr c66
                                        subst c66
                                        have H1 : (if 0 ≤ (mx 0 (mn (rd l1 x14_3) (wrap64 ((x11_3.length : Int) - 1)))) then (if (mx 0 (mn (rd l1 x14_3) (wrap64 ((x11_3.length : Int) - 1)))) < (x11_3.length : Int) then (taquinref07_spread.j3 k3 l1 a3 x9_2 x11_3 x13_3 x14_3 (rd l1 x14_3) (decide ((rd x11_3 (mx 0 (mn (rd l1 x14_3) (wrap64 ((x11_3.length : Int) - 1))))) < 0)) a0_0 a0_1 a0_2 l0_3 l0_4) else (none)) else (none)) = some r := by rw [if_neg (show ¬ (false = true) by decide)] at H; exact H
                                        clear H
                                        have H := H1
                                        clear H1
                                        obtain ⟨ji70, hji70⟩ : ∃ j_ : Int, (mn (rd l1 x14_3) (wrap64 ((x11_3.length : Int) - 1))) = j_ := ⟨_, rfl⟩
                                        replace H : (if 0 ≤ (mx 0 (ji70)) then (if (mx 0 (ji70)) < (x11_3.length : Int) then (taquinref07_spread.j3 k3 l1 a3 x9_2 x11_3 x13_3 x14_3 (rd l1 x14_3) (decide ((rd x11_3 (mx 0 (ji70))) < 0)) a0_0 a0_1 a0_2 l0_3 l0_4) else (none)) else (none)) = some r := by first | (rw [hji70] at H; exact H) | (simp only [hji70] at H ⊢; exact H)
                                        (try rw [hji70] at A59)
                                        have hji70_ : (if (wrap64 ((x11_3.length : Int) - 1)) < (rd l1 x14_3) then (wrap64 ((x11_3.length : Int) - 1)) else (rd l1 x14_3)) = ji70 := hji70
                                        obtain ⟨ji71, hji71⟩ : ∃ j_ : Int, (mx 0 (ji70)) = j_ := ⟨_, rfl⟩
                                        replace H : (if 0 ≤ (ji71) then (if (ji71) < (x11_3.length : Int) then (taquinref07_spread.j3 k3 l1 a3 x9_2 x11_3 x13_3 x14_3 (rd l1 x14_3) (decide ((rd x11_3 (ji71)) < 0)) a0_0 a0_1 a0_2 l0_3 l0_4) else (none)) else (none)) = some r := by first | (rw [hji71] at H; exact H) | (simp only [hji71] at H ⊢; exact H)
                                        (try rw [hji71] at A59)
                                        have hji71_ : (if 0 < (ji70) then (ji70) else 0) = ji71 := hji71
                                        by_cases c72 : 0 ≤ (ji71)
                                        · rw [if_pos c72] at H
                                          have c72b0 : decide (0 ≤ (ji71)) = true := decide_eq_true c72
                                          clear c72
                                          by_cases c73 : (ji71) < (x11_3.length : Int)
                                          · rw [if_pos c73] at H
                                            have c73b0 : decide ((ji71) < (x11_3.length : Int)) = true := decide_eq_true c73
                                            clear c73
                                            have H' := Aside0.mk H
                                            clear H
                                            have hcz74_0 : wr.cell? ⟨gb235, 0, none⟩ = some (.int .i64 a0_0) := (blk_cell BK235.out 0).trans rfl
                                            have hcz74_1 : wr.cell? ⟨gb235, 1, none⟩ = some (.int .i64 a0_1) := (blk_cell BK235.out 1).trans rfl
                                            have hcz74_2 : wr.cell? ⟨gb235, 2, none⟩ = some (.int .i64 a0_2) := (blk_cell BK235.out 2).trans rfl
                                            have hcz74_3 : wr.cell? ⟨gb235, 3, none⟩ = some (.slice A0_3 l0_3.length c0_3) := (blk_cell BK235.out 3).trans rfl
                                            have hcz74_4 : wr.cell? ⟨gb235, 4, none⟩ = some (.slice A0_4 l0_4.length c0_4) := (blk_cell BK235.out 4).trans rfl
                                            have hfz74_0 := blk_frozen BK235.out 0
                                            have hfz74_1 := blk_frozen BK235.out 1
                                            have hfz74_2 := blk_frozen BK235.out 2
                                            have hfz74_3 := blk_frozen BK235.out 3
                                            have hfz74_4 := blk_frozen BK235.out 4
                                            go_wp2_with (first | ((with_reducible refine gate_callee (f := 68) rfl ?_); refine goesL_ (some 81) rfl rfl Try.func68 (by kernel_rfl) rfl #[.agg #[.int .i64 a0_0, .int .i64 a0_1, .int .i64 a0_2, .slice A0_3 l0_3.length c0_3, .slice A0_4 l0_4.length c0_4], .int .i64 (rd l1 x14_3)] rfl (by (try simp only [List.map_toArray, List.map_cons, List.map_nil]); first | done | rfl | (simp only [List.length_drop, List.length_take]; rfl)) ?_; (with_reducible refine (taquinref07_Is.calls a0_0 a0_1 a0_2 _ _ l0_3 _ _ l0_4 (rd l1 x14_3) true _ ?side1 ?side2 ?side3 ?side4 A59.out).mono ?_); (case side1 => repeat (first | exact (Kd.C_below HR0_3.out HB.out) | (with_reducible refine Kd.C_alloc ?_ _) | (with_reducible refine Kd.C_drewN ?_ _) | (with_reducible refine Kd.C_drew ?_))); (case side2 => exact HC0_3.out); (case side3 => repeat (first | exact (Kd.C_below HR0_4.out HB.out) | (with_reducible refine Kd.C_alloc ?_ _) | (with_reducible refine Kd.C_drewN ?_ _) | (with_reducible refine Kd.C_drew ?_))); (case side4 => exact HC0_4.out); rintro e w75 ⟨rfl, hb⟩; refine ⟨_, rfl, ?_⟩; have n0_ := Aside0.mk (Kd.R_below (by (with_reducible repeat (first | apply Kd.R_alloc | apply Kd.R_drewN | apply Kd.R_drew)); exact HO_9.out) hb); have n1_ := Aside0.mk (Kd.R_below (by (with_reducible repeat (first | apply Kd.R_alloc | apply Kd.R_drewN | apply Kd.R_drew)); exact HO_11.out) hb); have n2_ := Aside0.mk (Kd.R_below (by (with_reducible repeat (first | apply Kd.R_alloc | apply Kd.R_drewN | apply Kd.R_drew)); exact HO_13.out) hb); have n3_ := Aside0.mk (blk_below (g := gb235) (o := .cells #[.int .i64 a0_0, .int .i64 a0_1, .int .i64 a0_2, .slice A0_3 l0_3.length c0_3, .slice A0_4 l0_4.length c0_4] 24 (0, 0)) (by (with_reducible repeat (first | refine blk_drewN ?_ _ | refine blk_drew ?_ | refine blk_alloc ?_ _)); exact BK235.out) hb); have n4_ := Aside0.mk (below_step (by repeat (first | (with_reducible first | exact HB.out | apply below_alloc | apply pw_below_drewN | apply below_drew1 | refine below_set ?_ GE235.out) | exact HB.out)) hb); clear HO_9; clear HO_11; clear HO_13; clear BK235; clear HB; have HO_9 := n0_; have HO_11 := n1_; have HO_13 := n2_; have BK235 := n3_; have HB := n4_; clear n0_ n1_ n2_ n3_ n4_; (try clear hb); (try clear hb2); (try clear hk); (try clear hi); obtain ⟨Ao76, co76, eo76⟩ := Kd.R_slice HO_9.out; subst eo76; have p255 : 0 ≤ ((ji62) : Int) := of_decide_eq_true (by first | (with_reducible assumption) | assumption); have q255 : (ji62) < (x9_2.length : Int) := of_decide_eq_true (by first | (with_reducible assumption) | assumption); obtain ⟨ad255, e255, hx255_0⟩ := Kd.at_bool (Kd.R_reads' HO_9.out).2.2 (ji62) p255 q255; (try rw [← Nbq65.out] at hx255_0); cases e255; replace p255 := eq_true p255; replace q255 := eq_true q255; have p256 : 0 ≤ ((ji71) : Int) := of_decide_eq_true (by first | (with_reducible assumption) | assumption); have q256 : (ji71) < (x11_3.length : Int) := of_decide_eq_true (by first | (with_reducible assumption) | assumption); obtain ⟨ad256, e256, hx256_0⟩ := Kd.at_int (Kd.R_reads' HO_11.out).2.2 (ji71) p256 q256; cases e256; replace p256 := eq_true p256; replace q256 := eq_true q256))
                                            go_meet
                                            case rel => exact ⟨_, (decide ((rd x11_3 (ji71)) < 0)), (by first | rfl | (simp; done) | (simp only [← hji71] <;> (first | rfl | simp)) | (simp [*]; done)), H', ⟨by have := HK1.out; have := HK2.out; have := HK3.out; first | omega | exact Nat.le_refl _⟩, ⟨by (try simp only [hl11_3]); (with_reducible repeat (first | apply Kd.R_alloc | apply Kd.R_drewN | apply Kd.R_drew)); exact HO_9.out⟩, ⟨by (try simp only [hl11_3]); (with_reducible repeat (first | apply Kd.R_alloc | apply Kd.R_drewN | apply Kd.R_drew)); exact HO_11.out⟩, ⟨by (try simp only [hl11_3]); (with_reducible repeat (first | apply Kd.R_alloc | apply Kd.R_drewN | apply Kd.R_drew)); exact HO_13.out⟩, ⟨by (try simp only [hl11_3]); (with_reducible repeat (first | refine blk_drewN ?_ _ | refine blk_drew ?_ | refine blk_alloc ?_ _)); exact BK235.out⟩, ⟨by repeat (first | (with_reducible first | exact HB.out | apply below_alloc | apply pw_below_drewN | apply below_drew1 | refine below_set ?_ GE235.out) | exact HB.out)⟩⟩
                                          · rw [if_neg c73] at H
                                            exact absurd H (by simp)
                                        · rw [if_neg c72] at H
                                          exact absurd H (by simp)
                                    · rw [if_neg c64] at H
                                      exact absurd H (by simp)
                                  · rw [if_neg c63] at H
                                    exact absurd H (by simp)
                                · replace c60 := Bool.eq_false_iff.mpr c60
                                  subst c60
                                  have H1 : (taquinref07_spread.j3 k3 l1 a3 x9_2 x11_3 x13_3 x14_3 (rd l1 x14_3) false a0_0 a0_1 a0_2 l0_3 l0_4) = some r := by rw [if_neg (show ¬ (false = true) by decide)] at H; exact H
                                  clear H
                                  have H := H1
                                  clear H1
                                  have H' := Aside0.mk H
                                  clear H
                                  have hcz77_0 : wr.cell? ⟨gb235, 0, none⟩ = some (.int .i64 a0_0) := (blk_cell BK235.out 0).trans rfl
                                  have hcz77_1 : wr.cell? ⟨gb235, 1, none⟩ = some (.int .i64 a0_1) := (blk_cell BK235.out 1).trans rfl
                                  have hcz77_2 : wr.cell? ⟨gb235, 2, none⟩ = some (.int .i64 a0_2) := (blk_cell BK235.out 2).trans rfl
                                  have hcz77_3 : wr.cell? ⟨gb235, 3, none⟩ = some (.slice A0_3 l0_3.length c0_3) := (blk_cell BK235.out 3).trans rfl
                                  have hcz77_4 : wr.cell? ⟨gb235, 4, none⟩ = some (.slice A0_4 l0_4.length c0_4) := (blk_cell BK235.out 4).trans rfl
                                  have hfz77_0 := blk_frozen BK235.out 0
                                  have hfz77_1 := blk_frozen BK235.out 1
                                  have hfz77_2 := blk_frozen BK235.out 2
                                  have hfz77_3 := blk_frozen BK235.out 3
                                  have hfz77_4 := blk_frozen BK235.out 4
                                  go_wp2_with (first | ((with_reducible refine gate_callee (f := 68) rfl ?_); refine goesL_ (some 81) rfl rfl Try.func68 (by kernel_rfl) rfl #[.agg #[.int .i64 a0_0, .int .i64 a0_1, .int .i64 a0_2, .slice A0_3 l0_3.length c0_3, .slice A0_4 l0_4.length c0_4], .int .i64 (rd l1 x14_3)] rfl (by (try simp only [List.map_toArray, List.map_cons, List.map_nil]); first | done | rfl | (simp only [List.length_drop, List.length_take]; rfl)) ?_; (with_reducible refine (taquinref07_Is.calls a0_0 a0_1 a0_2 _ _ l0_3 _ _ l0_4 (rd l1 x14_3) false _ ?side1 ?side2 ?side3 ?side4 A59.out).mono ?_); (case side1 => repeat (first | exact (Kd.C_below HR0_3.out HB.out) | (with_reducible refine Kd.C_alloc ?_ _) | (with_reducible refine Kd.C_drewN ?_ _) | (with_reducible refine Kd.C_drew ?_))); (case side2 => exact HC0_3.out); (case side3 => repeat (first | exact (Kd.C_below HR0_4.out HB.out) | (with_reducible refine Kd.C_alloc ?_ _) | (with_reducible refine Kd.C_drewN ?_ _) | (with_reducible refine Kd.C_drew ?_))); (case side4 => exact HC0_4.out); rintro e w78 ⟨rfl, hb⟩; refine ⟨_, rfl, ?_⟩; have n0_ := Aside0.mk (Kd.R_below (by (with_reducible repeat (first | apply Kd.R_alloc | apply Kd.R_drewN | apply Kd.R_drew)); exact HO_9.out) hb); have n1_ := Aside0.mk (Kd.R_below (by (with_reducible repeat (first | apply Kd.R_alloc | apply Kd.R_drewN | apply Kd.R_drew)); exact HO_11.out) hb); have n2_ := Aside0.mk (Kd.R_below (by (with_reducible repeat (first | apply Kd.R_alloc | apply Kd.R_drewN | apply Kd.R_drew)); exact HO_13.out) hb); have n3_ := Aside0.mk (blk_below (g := gb235) (o := .cells #[.int .i64 a0_0, .int .i64 a0_1, .int .i64 a0_2, .slice A0_3 l0_3.length c0_3, .slice A0_4 l0_4.length c0_4] 24 (0, 0)) (by (with_reducible repeat (first | refine blk_drewN ?_ _ | refine blk_drew ?_ | refine blk_alloc ?_ _)); exact BK235.out) hb); have n4_ := Aside0.mk (below_step (by repeat (first | (with_reducible first | exact HB.out | apply below_alloc | apply pw_below_drewN | apply below_drew1 | refine below_set ?_ GE235.out) | exact HB.out)) hb); clear HO_9; clear HO_11; clear HO_13; clear BK235; clear HB; have HO_9 := n0_; have HO_11 := n1_; have HO_13 := n2_; have BK235 := n3_; have HB := n4_; clear n0_ n1_ n2_ n3_ n4_; (try clear hb); (try clear hb2); (try clear hk); (try clear hi)))
                                  go_meet
                                  case rel => exact ⟨_, (false), (by first | rfl | (simp; done) | (simp [*]; done)), H', ⟨by have := HK1.out; have := HK2.out; have := HK3.out; first | omega | exact Nat.le_refl _⟩, ⟨by (try simp only [hl11_3]); (with_reducible repeat (first | apply Kd.R_alloc | apply Kd.R_drewN | apply Kd.R_drew)); exact HO_9.out⟩, ⟨by (try simp only [hl11_3]); (with_reducible repeat (first | apply Kd.R_alloc | apply Kd.R_drewN | apply Kd.R_drew)); exact HO_11.out⟩, ⟨by (try simp only [hl11_3]); (with_reducible repeat (first | apply Kd.R_alloc | apply Kd.R_drewN | apply Kd.R_drew)); exact HO_13.out⟩, ⟨by (try simp only [hl11_3]); (with_reducible repeat (first | refine blk_drewN ?_ _ | refine blk_drew ?_ | refine blk_alloc ?_ _)); exact BK235.out⟩, ⟨by repeat (first | (with_reducible first | exact HB.out | apply below_alloc | apply pw_below_drewN | apply below_drew1 | refine below_set ?_ GE235.out) | exact HB.out)⟩⟩
                              case rest =>
                                clear HC58
                                try clear c1
                                try clear p1
                                try clear q1
                                try clear hx1
                                try clear c2
                                try clear p2
                                try clear q2
                                try clear hx2
                                try clear c3
                                try clear p3
                                try clear q3
                                try clear hx3
                                try clear c4
                                try clear p4
                                try clear q4
                                try clear hx4
                                try clear hf4
                                try clear c5
                                try clear c6
                                try clear c6b0
                                try clear c6b1
                                try clear p6
                                try clear q6
                                try clear c7
                                try clear c7b0
                                try clear c7b1
                                try clear c8
                                try clear c13
                                try clear c13b0
                                try clear c14
                                try clear c14b0
                                try clear c16
                                try clear c17
                                try clear c17b0
                                try clear c18
                                try clear c18b0
                                try clear p19
                                try clear q19
                                try clear hx19
                                try clear hf19
                                try clear p24
                                try clear q24
                                try clear hx24
                                try clear p25
                                try clear q25
                                try clear hx25
                                try clear c27
                                try clear c27b0
                                try clear c27b1
                                try clear c28
                                try clear c28b0
                                try clear c28b1
                                try clear c33
                                try clear c33b0
                                try clear c34
                                try clear c34b0
                                try clear p35
                                try clear q35
                                try clear hx35
                                try clear hf35
                                try clear c36
                                try clear c36b0
                                try clear q37
                                try clear c38
                                try clear p39
                                try clear q39
                                try clear hx39
                                try clear hf39
                                try clear c46
                                try clear c46b0
                                try clear p47
                                try clear q47
                                try clear hx47
                                try clear hf47
                                try clear c56
                                try clear c56b0
                                try clear c57
                                try clear c57b0
                                try clear c60
                                try clear c63
                                try clear c63b0
                                try clear c64
                                try clear c64b0
                                try clear p64
                                try clear q65
                                try clear c66
                                try clear c68
                                try clear c72
                                try clear c72b0
                                try clear c73
                                try clear c73b0
                                try clear hcz29_0
                                try clear hcz29_1
                                try clear hcz29_2
                                try clear hcz29_3
                                try clear hcz29_4
                                try clear hcz52_0
                                try clear hcz52_1
                                try clear hcz52_2
                                try clear hcz52_3
                                try clear hcz52_4
                                try clear hcz67_0
                                try clear hcz67_1
                                try clear hcz67_2
                                try clear hcz67_3
                                try clear hcz67_4
                                try clear hcz74_0
                                try clear hcz74_1
                                try clear hcz74_2
                                try clear hcz74_3
                                try clear hcz74_4
                                try clear hcz77_0
                                try clear hcz77_1
                                try clear hcz77_2
                                try clear hcz77_3
                                try clear hcz77_4
                                try clear hcz9_0
                                try clear hcz9_1
                                try clear hcz9_2
                                try clear hcz9_3
                                try clear hcz9_4
                                try clear hfz29_0
                                try clear hfz29_1
                                try clear hfz29_2
                                try clear hfz29_3
                                try clear hfz29_4
                                try clear hfz52_0
                                try clear hfz52_1
                                try clear hfz52_2
                                try clear hfz52_3
                                try clear hfz52_4
                                try clear hfz67_0
                                try clear hfz67_1
                                try clear hfz67_2
                                try clear hfz67_3
                                try clear hfz67_4
                                try clear hfz74_0
                                try clear hfz74_1
                                try clear hfz74_2
                                try clear hfz74_3
                                try clear hfz74_4
                                try clear hfz77_0
                                try clear hfz77_1
                                try clear hfz77_2
                                try clear hfz77_3
                                try clear hfz77_4
                                try clear hfz9_0
                                try clear hfz9_1
                                try clear hfz9_2
                                try clear hfz9_3
                                try clear hfz9_4
                                try clear hx19_0
                                try clear hx240_0
                                try clear hx242_0
                                try clear hx249_0
                                try clear hx251_0
                                try clear hx253_0
                                try clear hx255_0
                                try clear hx256_0
                                try clear hx35_0
                                try clear hx39_0
                                try clear hx47_0
                                try clear p1
                                try clear p19
                                try clear p2
                                try clear p24
                                try clear p240
                                try clear p242
                                try clear p249
                                try clear p25
                                try clear p251
                                try clear p253
                                try clear p255
                                try clear p256
                                try clear p3
                                try clear p35
                                try clear p39
                                try clear p4
                                try clear p47
                                try clear p6
                                try clear q1
                                try clear q19
                                try clear q2
                                try clear q24
                                try clear q240
                                try clear q242
                                try clear q249
                                try clear q25
                                try clear q251
                                try clear q253
                                try clear q255
                                try clear q256
                                try clear q3
                                try clear q35
                                try clear q37
                                try clear q39
                                try clear q4
                                try clear q47
                                obtain ⟨kq, x105_57, rfl, HA, HJ57, HO_9, HO_11, HO_13, BK235, HB⟩ := hcut
                                cases kq with
                                | zero => exact absurd HA.out (by simp [taquinref07_spread.j3])
                                | succ kj57 =>
                                  have H := HA.out
                                  clear HA
                                  simp only [taquinref07_spread.j3] at H
                                  by_cases c79 : x105_57 = true
                                  · subst c79
                                    have H1 : (if 0 ≤ (rd l1 x14_3) then (if (rd l1 x14_3) < (x11_3.length : Int) then (if x13_3.length < 17592186044416 then (taquinref07_spread.l2 kj57 l1 a3 x9_2 (x11_3.set ((rd l1 x14_3) : Int).toNat 0) (x13_3 ++ [(rd l1 x14_3)]) (wrap64 (x14_3 + 1)) a0_0 a0_1 a0_2 l0_3 l0_4) else (none)) else (none)) else (none)) = some r := by rw [if_pos rfl] at H; exact H
                                    clear H
                                    have H := H1
                                    clear H1
                                    by_cases c80 : 0 ≤ (rd l1 x14_3)
                                    · rw [if_pos c80] at H
                                      have c80b0 : decide (0 ≤ (rd l1 x14_3)) = true := decide_eq_true c80
                                      clear c80
                                      by_cases c81 : (rd l1 x14_3) < (x11_3.length : Int)
                                      · rw [if_pos c81] at H
                                        have c81b0 : decide ((rd l1 x14_3) < (x11_3.length : Int)) = true := decide_eq_true c81
                                        clear c81
                                        obtain ⟨y257, hy257⟩ : ∃ y_ : List Int, y_ = (x11_3.set ((rd l1 x14_3) : Int).toNat 0) := ⟨_, rfl⟩
                                        replace H : (if x13_3.length < 17592186044416 then (taquinref07_spread.l2 kj57 l1 a3 x9_2 y257 (x13_3 ++ [(rd l1 x14_3)]) (wrap64 (x14_3 + 1)) a0_0 a0_1 a0_2 l0_3 l0_4) else (none)) = some r := by first | (rw [hy257]; with_reducible exact H) | (have H2_ := (Option.bind_some _ _).symm.trans H; rw [hy257]; with_reducible exact H2_) | (have H2_ := (Option.bind_some _ _).symm.trans H; with_reducible exact H2_) | with_reducible exact H | (rw [hy257]; exact H) | exact H
                                        have Ny257 := Aside0.mk hy257
                                        clear hy257
                                        by_cases c83 : x13_3.length < 17592186044416
                                        · rw [if_pos c83] at H
                                          have LMc83 := Aside0.mk c83
                                          clear c83
                                          obtain ⟨y258, hy258⟩ : ∃ y_ : List Int, y_ = (x13_3 ++ [(rd l1 x14_3)]) := ⟨_, rfl⟩
                                          replace H : (taquinref07_spread.l2 kj57 l1 a3 x9_2 y257 y258 (wrap64 (x14_3 + 1)) a0_0 a0_1 a0_2 l0_3 l0_4) = some r := by first | (rw [hy258]; with_reducible exact H) | (have H2_ := (Option.bind_some _ _).symm.trans H; rw [hy258]; with_reducible exact H2_) | (have H2_ := (Option.bind_some _ _).symm.trans H; with_reducible exact H2_) | with_reducible exact H | (rw [hy258]; exact H) | exact H
                                          have Ny258 := Aside0.mk hy258
                                          clear hy258
                                          have H' := Aside0.mk H
                                          clear H
                                          have p82 : 0 ≤ ((rd l1 x14_3) : Int) := of_decide_eq_true (by first | (with_reducible assumption) | assumption)
                                          have q82 : ((rd l1 x14_3) : Int) < ((x11_3.length : Int) : Int) := of_decide_eq_true (by first | (with_reducible assumption) | assumption)
                                          obtain ⟨go82, co82, eo82, gb82, gl82, cl82, HG82⟩ := Kd.R_form HO_11.out (by omega)
                                          (first | cases eo82 | (injection eo82 with ea_ en_ ec_; (first | subst ea_ | (injection ea_ with ea_; subst ea_)); subst ec_; clear en_))
                                          have GB82 := Aside0.mk gb82
                                          have GG82 := Aside0.mk HG82
                                          clear gb82 gl82 HG82
                                          obtain ⟨hx82_0, hf82_0⟩ := Kd.R_celln 0 HO_11.out ((rd l1 x14_3) : Int) p82 q82
                                          replace p82 := eq_true p82
                                          replace q82 := eq_true q82
                                          have HP84 := Kd.R_putg HO_11.out ((rd l1 x14_3) : Int) 0
                                          go_wp2_with (first | ((with_reducible refine gate_store (t := 3) (p := 108) rfl ?_); refine store_event (t := 3) (p := 108) (v := ?vo_w85) (w1 := (wc.setCell ⟨go82, ((rd l1 x14_3) : Int).toNat, none⟩ (.int .i64 0))) ?hg ?ho ?hn ?hr ?_; (case ho => rfl); (case hg => rfl); (case hn => rfl); (case hr => first | (go_simp; done) | (go_simp; rfl)); intro w85 hw; have hg : wc.grownBy w85 (some go82) := (by rw [hw]; exact HP84.2); have hp_ : Kd.R (Kd.int .i64) 3 w85 w.heap.size (fun k_ => some k_ ≠ (u13 : Value).ownBlock) (.slice (some ⟨go82, 0, none⟩) x11_3.length co55) y257 := (by rw [hw, Ny257.out]; exact HP84.1); clear HP84; have n0_ := Aside0.mk (Kd.R_over' (v := (.slice (some ⟨go82, 0, none⟩) x11_3.length co55)) (by (with_reducible repeat (first | apply Kd.R_alloc | apply Kd.R_drewN | apply Kd.R_drew)); exact HO_9.out) (Kd.R_typed HO_11.out) (by decide) hg); have n1_ := Aside0.mk (hp_); have n2_ := Aside0.mk (Kd.R_after (v := (.slice (some ⟨go82, 0, none⟩) x11_3.length co55)) (v1 := (.slice (some ⟨go82, 0, none⟩) x11_3.length co55)) (ok := (fun _ => True)) (by (with_reducible repeat (first | apply Kd.R_alloc | apply Kd.R_drewN | apply Kd.R_drew)); exact Kd.R_mono HO_13.out (fun _ hk => ⟨trivial, hk⟩)) hg (.inl rfl)); have n3_ := Aside0.mk (blk_grown (g := gb235) (o := .cells #[.int .i64 a0_0, .int .i64 a0_1, .int .i64 a0_2, .slice A0_3 l0_3.length c0_3, .slice A0_4 l0_4.length c0_4] 24 (0, 0)) (by (with_reducible repeat (first | refine blk_drewN ?_ _ | refine blk_drew ?_ | refine blk_alloc ?_ _)); exact BK235.out) hg (Kd.R_ne HO_11.out BK235.out (by decide))); have n4_ := Aside0.mk ((by rw [hw]; exact below_set (HB.out) GB82.out : Below w.heap.size w w85)); clear HO_9; clear HO_11; clear HO_13; clear BK235; clear HB; have HO_9 := n0_; have HO_11 := n1_; have HO_13 := n2_; have BK235 := n3_; have HB := n4_; clear n0_ n1_ n2_ n3_ n4_; clear hg hw hp_) | ((with_reducible refine gate_builtin (b := .append) (xs := #[.tmp 109, .tmp 111]) rfl ?_); (try (refine gate_guard (by rfl) ?_; dsimp only)); at_builtin; refine Kd.R_append (Kd.int .i64) (w0 := w) w.heap.size rfl (.tmp 109) (.tmp 111) 22 3 (.int .i64 0) 8 rfl Try.underlying22 info3 rfl (by decide) (by omega) u13 x13_3 (rd l1 x14_3) [.int .i64 (rd l1 x14_3)] (fun k_ => some k_ ≠ (.slice (some ⟨go82, 0, none⟩) x11_3.length co55 : Value).ownBlock) (fun _ => False) rfl rfl ?aP (fun _ hk => hk.elim) ?aF ?aO ?aB ?aS ?aL ?_; (case aP => exact rfl); (case aB => exact (by repeat (first | (with_reducible first | exact HB.out | apply below_alloc | apply pw_below_drewN | apply below_drew1 | refine below_set ?_ GE235.out) | exact HB.out))); (case aF => exact (fun k_ hk => Kd.fresh' (Kd.R_lt (by (with_reducible repeat (first | apply Kd.R_alloc | apply Kd.R_drewN | apply Kd.R_drew)); exact HO_11.out)) k_ hk)); (case aO => exact (by (with_reducible repeat (first | apply Kd.R_alloc | apply Kd.R_drewN | apply Kd.R_drew)); exact Kd.R_mono HO_13.out (fun _ hk => hk.2))); (case aS => exact (below_size (by repeat (first | (with_reducible first | exact HB.out | apply below_alloc | apply pw_below_drewN | apply below_drew1 | refine below_set ?_ GE235.out) | exact HB.out)))); (case aL => have := LMc83.out; omega); intro v259 w86 ho hb hg hat; rw [← Ny258.out] at ho; have n0_ := Aside0.mk (Kd.R_over' (by (with_reducible repeat (first | apply Kd.R_alloc | apply Kd.R_drewN | apply Kd.R_drew)); exact HO_9.out) (Kd.R_typed (by (with_reducible repeat (first | apply Kd.R_alloc | apply Kd.R_drewN | apply Kd.R_drew)); exact HO_13.out)) (by decide) hg); have n1_ := Aside0.mk (Kd.R_after (ok := (fun _ => True)) (by (with_reducible repeat (first | apply Kd.R_alloc | apply Kd.R_drewN | apply Kd.R_drew)); exact Kd.R_mono HO_11.out (fun _ hk => ⟨trivial, hk⟩)) hg hat); have n2_ := Aside0.mk (blk_grown (g := gb235) (o := .cells #[.int .i64 a0_0, .int .i64 a0_1, .int .i64 a0_2, .slice A0_3 l0_3.length c0_3, .slice A0_4 l0_4.length c0_4] 24 (0, 0)) (by (with_reducible repeat (first | refine blk_drewN ?_ _ | refine blk_drew ?_ | refine blk_alloc ?_ _)); exact BK235.out) hg (Kd.R_ne HO_13.out BK235.out (by decide))); have n3_ := Aside0.mk (hb); have n4_ := Aside0.mk (ho); clear HO_9; clear HO_11; clear BK235; clear HB; clear HO_13; have HO_9 := n0_; have HO_11 := n1_; have BK235 := n2_; have HB := n3_; have HO260 := n4_; clear n0_ n1_ n2_ n3_ n4_; clear ho hb hg hat))
                                          (try simp only [← hl11_3])
                                          go_roundg kj57
                                          case measure => have := HK1.out; have := HK2.out; have := HK3.out; have := HJ57.out; omega
                                          case rel => exact ⟨(y257), (y258), (wrap64 (x14_3 + 1)), (by first | rfl | (simp; done) | (simp [*]; done)), H', ⟨by have := HK1.out; have := HK2.out; have := HK3.out; have := HJ57.out; omega⟩, ⟨by (try simp only [hl11_3]); (with_reducible repeat (first | apply Kd.R_alloc | apply Kd.R_drewN | apply Kd.R_drew)); exact HO_9.out⟩, ⟨by (try simp only [hl11_3]); (with_reducible repeat (first | apply Kd.R_alloc | apply Kd.R_drewN | apply Kd.R_drew)); exact Kd.R_mono HO_11.out (fun _ hk => hk.2)⟩, ⟨by (try simp only [hl11_3]); (with_reducible repeat (first | apply Kd.R_alloc | apply Kd.R_drewN | apply Kd.R_drew)); exact HO260.out⟩, ⟨by (try simp only [hl11_3]); (with_reducible repeat (first | refine blk_drewN ?_ _ | refine blk_drew ?_ | refine blk_alloc ?_ _)); exact BK235.out⟩, ⟨by repeat (first | (with_reducible first | exact HB.out | apply below_alloc | apply pw_below_drewN | apply below_drew1 | refine below_set ?_ GE235.out) | exact HB.out)⟩⟩
                                        · rw [if_neg c83] at H
                                          exact absurd H (by simp)
                                      · rw [if_neg c81] at H
                                        exact absurd H (by simp)
                                    · rw [if_neg c80] at H
                                      exact absurd H (by simp)
                                  · replace c79 := Bool.eq_false_iff.mpr c79
                                    subst c79
                                    have H1 : (taquinref07_spread.l2 kj57 l1 a3 x9_2 x11_3 x13_3 (wrap64 (x14_3 + 1)) a0_0 a0_1 a0_2 l0_3 l0_4) = some r := by rw [if_neg (show ¬ (false = true) by decide)] at H; exact H
                                    clear H
                                    have H := H1
                                    clear H1
                                    have H' := Aside0.mk H
                                    clear H
                                    go_wp2
                                    (try simp only [← hl11_3])
                                    go_roundg kj57
                                    case measure => have := HK1.out; have := HK2.out; have := HK3.out; have := HJ57.out; omega
                                    case rel => exact ⟨(x11_3), (x13_3), (wrap64 (x14_3 + 1)), (by first | rfl | (simp; done) | (simp [*]; done)), H', ⟨by have := HK1.out; have := HK2.out; have := HK3.out; have := HJ57.out; omega⟩, ⟨by (try simp only [hl11_3]); (with_reducible repeat (first | apply Kd.R_alloc | apply Kd.R_drewN | apply Kd.R_drew)); exact HO_9.out⟩, ⟨by (try simp only [hl11_3]); (with_reducible repeat (first | apply Kd.R_alloc | apply Kd.R_drewN | apply Kd.R_drew)); exact HO_11.out⟩, ⟨by (try simp only [hl11_3]); (with_reducible repeat (first | apply Kd.R_alloc | apply Kd.R_drewN | apply Kd.R_drew)); exact HO_13.out⟩, ⟨by (try simp only [hl11_3]); (with_reducible repeat (first | refine blk_drewN ?_ _ | refine blk_drew ?_ | refine blk_alloc ?_ _)); exact BK235.out⟩, ⟨by repeat (first | (with_reducible first | exact HB.out | apply below_alloc | apply pw_below_drewN | apply below_drew1 | refine below_set ?_ GE235.out) | exact HB.out)⟩⟩
                            · rw [if_neg c57] at H
                              exact absurd H (by simp)
                          · rw [if_neg c56] at H
                            have c56b0 : decide (x14_3 < (l1.length : Int)) = false := decide_eq_false c56
                            clear c56
                            have H' := Aside0.mk H
                            clear H
                            go_wp2
                            go_loopg [13, 16] k3 (fun kq v13 v16 w' => ∃ (x11_4 : List Int) (x13_4 : List Int) (x16_4 : Int), v16 = .int .i64 x16_4 ∧ Aside0 (taquinref07_spread.l3 kq a3 x9_2 x11_4 x13_4 x16_4 a0_0 a0_1 a0_2 l0_3 l0_4 = some r) ∧ Aside0 (kq ≤ k3) ∧ Aside0 (Kd.R Kd.bool 4 w' w.heap.size (fun _ => True) v238 x9_2) ∧ Aside0 (Kd.R (Kd.int .i64) 3 w' w.heap.size (fun k_ => some k_ ≠ (v13 : Value).ownBlock) (.slice Ao55 x11_3.length co55) x11_4) ∧ Aside0 (Kd.R (Kd.int .i64) 3 w' w.heap.size (fun k_ => some k_ ≠ ((.slice Ao55 x11_3.length co55) : Value).ownBlock) v13 x13_4) ∧ Aside0 (w'.heap[gb235]? = some (.cells #[.int .i64 a0_0, .int .i64 a0_1, .int .i64 a0_2, (.slice A0_3 l0_3.length c0_3), (.slice A0_4 l0_4.length c0_4)] 24 (0, 0))) ∧ Aside0 (Below w.heap.size w w'))
                            case atStart => exact ⟨(x11_3), (x13_3), (0), (by first | rfl | (simp; done) | (simp [*]; done)), H', ⟨Nat.le_refl _⟩, ⟨by (try simp only [hl11_3]); (with_reducible repeat (first | apply Kd.R_alloc | apply Kd.R_drewN | apply Kd.R_drew)); exact HO_9.out⟩, ⟨by (try simp only [hl11_3]); (with_reducible repeat (first | apply Kd.R_alloc | apply Kd.R_drewN | apply Kd.R_drew)); exact HO_11.out⟩, ⟨by (try simp only [hl11_3]); (with_reducible repeat (first | apply Kd.R_alloc | apply Kd.R_drewN | apply Kd.R_drew)); exact HO_13.out⟩, ⟨by (try simp only [hl11_3]); (with_reducible repeat (first | refine blk_drewN ?_ _ | refine blk_drew ?_ | refine blk_alloc ?_ _)); exact BK235.out⟩, ⟨by repeat (first | (with_reducible first | exact HB.out | apply below_alloc | apply pw_below_drewN | apply below_drew1 | refine below_set ?_ GE235.out) | exact HB.out)⟩⟩
                            case round =>
                              clear H'
                              try clear c1
                              try clear p1
                              try clear q1
                              try clear hx1
                              try clear c2
                              try clear p2
                              try clear q2
                              try clear hx2
                              try clear c3
                              try clear p3
                              try clear q3
                              try clear hx3
                              try clear c4
                              try clear p4
                              try clear q4
                              try clear hx4
                              try clear hf4
                              try clear c5
                              try clear c6
                              try clear c6b0
                              try clear c6b1
                              try clear p6
                              try clear q6
                              try clear c7
                              try clear c7b0
                              try clear c7b1
                              try clear c8
                              try clear p8
                              try clear q8
                              try clear hx8
                              try clear hf8
                              try clear c13
                              try clear c13b0
                              try clear c14
                              try clear c14b0
                              try clear c16
                              try clear c17
                              try clear c17b0
                              try clear c18
                              try clear c18b0
                              try clear p19
                              try clear q19
                              try clear hx19
                              try clear hf19
                              try clear p24
                              try clear q24
                              try clear hx24
                              try clear p25
                              try clear q25
                              try clear hx25
                              try clear c27
                              try clear c27b0
                              try clear c27b1
                              try clear c28
                              try clear c28b0
                              try clear c28b1
                              try clear c33
                              try clear c33b0
                              try clear c34
                              try clear c34b0
                              try clear p35
                              try clear q35
                              try clear hx35
                              try clear hf35
                              try clear c36
                              try clear c36b0
                              try clear q37
                              try clear c38
                              try clear p39
                              try clear q39
                              try clear hx39
                              try clear hf39
                              try clear c46
                              try clear c46b0
                              try clear p47
                              try clear q47
                              try clear hx47
                              try clear hf47
                              try clear c56
                              try clear c56b0
                              try clear c57
                              try clear c57b0
                              try clear c60
                              try clear c63
                              try clear c63b0
                              try clear c64
                              try clear c64b0
                              try clear p64
                              try clear q65
                              try clear c66
                              try clear c68
                              try clear c72
                              try clear c72b0
                              try clear c73
                              try clear c73b0
                              try clear c79
                              try clear c80
                              try clear c80b0
                              try clear c81
                              try clear c81b0
                              try clear p82
                              try clear q82
                              try clear hx82
                              try clear hf82
                              try clear c83
                              try clear hcz29_0
                              try clear hcz29_1
                              try clear hcz29_2
                              try clear hcz29_3
                              try clear hcz29_4
                              try clear hcz52_0
                              try clear hcz52_1
                              try clear hcz52_2
                              try clear hcz52_3
                              try clear hcz52_4
                              try clear hcz67_0
                              try clear hcz67_1
                              try clear hcz67_2
                              try clear hcz67_3
                              try clear hcz67_4
                              try clear hcz74_0
                              try clear hcz74_1
                              try clear hcz74_2
                              try clear hcz74_3
                              try clear hcz74_4
                              try clear hcz77_0
                              try clear hcz77_1
                              try clear hcz77_2
                              try clear hcz77_3
                              try clear hcz77_4
                              try clear hcz9_0
                              try clear hcz9_1
                              try clear hcz9_2
                              try clear hcz9_3
                              try clear hcz9_4
                              try clear hfz29_0
                              try clear hfz29_1
                              try clear hfz29_2
                              try clear hfz29_3
                              try clear hfz29_4
                              try clear hfz52_0
                              try clear hfz52_1
                              try clear hfz52_2
                              try clear hfz52_3
                              try clear hfz52_4
                              try clear hfz67_0
                              try clear hfz67_1
                              try clear hfz67_2
                              try clear hfz67_3
                              try clear hfz67_4
                              try clear hfz74_0
                              try clear hfz74_1
                              try clear hfz74_2
                              try clear hfz74_3
                              try clear hfz74_4
                              try clear hfz77_0
                              try clear hfz77_1
                              try clear hfz77_2
                              try clear hfz77_3
                              try clear hfz77_4
                              try clear hfz9_0
                              try clear hfz9_1
                              try clear hfz9_2
                              try clear hfz9_3
                              try clear hfz9_4
                              try clear hx19_0
                              try clear hx240_0
                              try clear hx242_0
                              try clear hx249_0
                              try clear hx251_0
                              try clear hx253_0
                              try clear hx255_0
                              try clear hx256_0
                              try clear hx35_0
                              try clear hx39_0
                              try clear hx47_0
                              try clear hx82_0
                              try clear p1
                              try clear p19
                              try clear p2
                              try clear p24
                              try clear p240
                              try clear p242
                              try clear p249
                              try clear p25
                              try clear p251
                              try clear p253
                              try clear p255
                              try clear p256
                              try clear p3
                              try clear p35
                              try clear p39
                              try clear p4
                              try clear p47
                              try clear p6
                              try clear p64
                              try clear p82
                              try clear q1
                              try clear q19
                              try clear q2
                              try clear q24
                              try clear q240
                              try clear q242
                              try clear q249
                              try clear q25
                              try clear q251
                              try clear q253
                              try clear q255
                              try clear q256
                              try clear q3
                              try clear q35
                              try clear q37
                              try clear q39
                              try clear q4
                              try clear q47
                              try clear q6
                              try clear q65
                              try clear q82
                              obtain ⟨x11_4, x13_4, x16_4, rfl, HA, HK4, HO_9, HO_11, HO_13, BK235, HB⟩ := hrel
                              have hl11_4 := (Kd.R_reads' HO_11.out).1
                              rw [hl11_4] at HO_11
                              (try simp only [hl11_4])
                              (try simp only [hl11_4] at BK235)
                              (try simp only [hl11_4] at HO_9)
                              (try simp only [hl11_4] at HO_13)
                              cases gk with
                              | zero => exact absurd HA.out (by simp [taquinref07_spread.l3])
                              | succ k4 =>
                                have H := HA.out
                                clear HA
                                simp only [taquinref07_spread.l3] at H
                                by_cases c87 : x16_4 < (x13_4.length : Int)
                                · rw [if_pos c87] at H
                                  have c87b0 : decide (x16_4 < (x13_4.length : Int)) = true := decide_eq_true c87
                                  clear c87
                                  by_cases c88 : 0 ≤ x16_4
                                  · rw [if_pos c88] at H
                                    have c88b0 : decide (0 ≤ x16_4) = true := decide_eq_true c88
                                    clear c88
                                    have H' := Aside0.mk H
                                    clear H
                                    obtain ⟨Ao89, co89, eo89⟩ := Kd.R_slice HO_13.out
                                    subst eo89
                                    have p261 : 0 ≤ (x16_4 : Int) := of_decide_eq_true (by first | (with_reducible assumption) | assumption)
                                    have q261 : x16_4 < (x13_4.length : Int) := of_decide_eq_true (by first | (with_reducible assumption) | assumption)
                                    obtain ⟨ad261, e261, hx261_0⟩ := Kd.at_int (Kd.R_reads' HO_13.out).2.2 x16_4 p261 q261
                                    cases e261
                                    replace p261 := eq_true p261
                                    replace q261 := eq_true q261
                                    go_wp2
                                    go_loopg [13, 18] k4 (fun kq v13 v18 w' => ∃ (x11_5 : List Int) (x13_5 : List Int) (x18_5 : Int), v18 = .int .i64 x18_5 ∧ Aside0 (taquinref07_spread.l4 kq a3 x9_2 x11_5 x13_5 x16_4 (rd x13_4 x16_4) x18_5 a0_0 a0_1 a0_2 l0_3 l0_4 = some r) ∧ Aside0 (kq ≤ k4) ∧ Aside0 (Kd.R Kd.bool 4 w' w.heap.size (fun _ => True) v238 x9_2) ∧ Aside0 (Kd.R (Kd.int .i64) 3 w' w.heap.size (fun k_ => some k_ ≠ (v13 : Value).ownBlock) (.slice Ao55 x11_4.length co55) x11_5) ∧ Aside0 (Kd.R (Kd.int .i64) 3 w' w.heap.size (fun k_ => some k_ ≠ ((.slice Ao55 x11_4.length co55) : Value).ownBlock) v13 x13_5) ∧ Aside0 (w'.heap[gb235]? = some (.cells #[.int .i64 a0_0, .int .i64 a0_1, .int .i64 a0_2, (.slice A0_3 l0_3.length c0_3), (.slice A0_4 l0_4.length c0_4)] 24 (0, 0))) ∧ Aside0 (Below w.heap.size w w'))
                                    case atStart => exact ⟨(x11_4), (x13_4), (0), (by first | rfl | (simp; done) | (simp [*]; done)), H', ⟨Nat.le_refl _⟩, ⟨by (try simp only [hl11_3]); (try simp only [hl11_4]); (with_reducible repeat (first | apply Kd.R_alloc | apply Kd.R_drewN | apply Kd.R_drew)); exact HO_9.out⟩, ⟨by (try simp only [hl11_3]); (try simp only [hl11_4]); (with_reducible repeat (first | apply Kd.R_alloc | apply Kd.R_drewN | apply Kd.R_drew)); exact HO_11.out⟩, ⟨by (try simp only [hl11_3]); (try simp only [hl11_4]); (with_reducible repeat (first | apply Kd.R_alloc | apply Kd.R_drewN | apply Kd.R_drew)); exact HO_13.out⟩, ⟨by (try simp only [hl11_3]); (try simp only [hl11_4]); (with_reducible repeat (first | refine blk_drewN ?_ _ | refine blk_drew ?_ | refine blk_alloc ?_ _)); exact BK235.out⟩, ⟨by repeat (first | (with_reducible first | exact HB.out | apply below_alloc | apply pw_below_drewN | apply below_drew1 | refine below_set ?_ GE235.out) | exact HB.out)⟩⟩
                                    case round =>
                                      clear H'
                                      try clear c1
                                      try clear p1
                                      try clear q1
                                      try clear hx1
                                      try clear c2
                                      try clear p2
                                      try clear q2
                                      try clear hx2
                                      try clear c3
                                      try clear p3
                                      try clear q3
                                      try clear hx3
                                      try clear c4
                                      try clear p4
                                      try clear q4
                                      try clear hx4
                                      try clear hf4
                                      try clear c5
                                      try clear c6
                                      try clear c6b0
                                      try clear c6b1
                                      try clear p6
                                      try clear q6
                                      try clear c7
                                      try clear c7b0
                                      try clear c7b1
                                      try clear c8
                                      try clear p8
                                      try clear q8
                                      try clear hx8
                                      try clear hf8
                                      try clear c13
                                      try clear c13b0
                                      try clear c14
                                      try clear c14b0
                                      try clear c16
                                      try clear c17
                                      try clear c17b0
                                      try clear c18
                                      try clear c18b0
                                      try clear p19
                                      try clear q19
                                      try clear hx19
                                      try clear hf19
                                      try clear p24
                                      try clear q24
                                      try clear hx24
                                      try clear p25
                                      try clear q25
                                      try clear hx25
                                      try clear p26
                                      try clear q26
                                      try clear hx26
                                      try clear c27
                                      try clear c27b0
                                      try clear c27b1
                                      try clear c28
                                      try clear c28b0
                                      try clear c28b1
                                      try clear c33
                                      try clear c33b0
                                      try clear c34
                                      try clear c34b0
                                      try clear p35
                                      try clear q35
                                      try clear hx35
                                      try clear hf35
                                      try clear c36
                                      try clear c36b0
                                      try clear q37
                                      try clear c38
                                      try clear p39
                                      try clear q39
                                      try clear hx39
                                      try clear hf39
                                      try clear c46
                                      try clear c46b0
                                      try clear p47
                                      try clear q47
                                      try clear hx47
                                      try clear hf47
                                      try clear c56
                                      try clear c56b0
                                      try clear c57
                                      try clear c57b0
                                      try clear c60
                                      try clear c63
                                      try clear c63b0
                                      try clear c64
                                      try clear c64b0
                                      try clear p64
                                      try clear q65
                                      try clear c66
                                      try clear c68
                                      try clear c72
                                      try clear c72b0
                                      try clear c73
                                      try clear c73b0
                                      try clear c79
                                      try clear c80
                                      try clear c80b0
                                      try clear c81
                                      try clear c81b0
                                      try clear p82
                                      try clear q82
                                      try clear hx82
                                      try clear hf82
                                      try clear c83
                                      try clear c87
                                      try clear c87b0
                                      try clear c88
                                      try clear c88b0
                                      try clear hcz29_0
                                      try clear hcz29_1
                                      try clear hcz29_2
                                      try clear hcz29_3
                                      try clear hcz29_4
                                      try clear hcz52_0
                                      try clear hcz52_1
                                      try clear hcz52_2
                                      try clear hcz52_3
                                      try clear hcz52_4
                                      try clear hcz67_0
                                      try clear hcz67_1
                                      try clear hcz67_2
                                      try clear hcz67_3
                                      try clear hcz67_4
                                      try clear hcz74_0
                                      try clear hcz74_1
                                      try clear hcz74_2
                                      try clear hcz74_3
                                      try clear hcz74_4
                                      try clear hcz77_0
                                      try clear hcz77_1
                                      try clear hcz77_2
                                      try clear hcz77_3
                                      try clear hcz77_4
                                      try clear hcz9_0
                                      try clear hcz9_1
                                      try clear hcz9_2
                                      try clear hcz9_3
                                      try clear hcz9_4
                                      try clear hfz29_0
                                      try clear hfz29_1
                                      try clear hfz29_2
                                      try clear hfz29_3
                                      try clear hfz29_4
                                      try clear hfz52_0
                                      try clear hfz52_1
                                      try clear hfz52_2
                                      try clear hfz52_3
                                      try clear hfz52_4
                                      try clear hfz67_0
                                      try clear hfz67_1
                                      try clear hfz67_2
                                      try clear hfz67_3
                                      try clear hfz67_4
                                      try clear hfz74_0
                                      try clear hfz74_1
                                      try clear hfz74_2
                                      try clear hfz74_3
                                      try clear hfz74_4
                                      try clear hfz77_0
                                      try clear hfz77_1
                                      try clear hfz77_2
                                      try clear hfz77_3
                                      try clear hfz77_4
                                      try clear hfz9_0
                                      try clear hfz9_1
                                      try clear hfz9_2
                                      try clear hfz9_3
                                      try clear hfz9_4
                                      try clear hx19_0
                                      try clear hx240_0
                                      try clear hx242_0
                                      try clear hx249_0
                                      try clear hx251_0
                                      try clear hx253_0
                                      try clear hx255_0
                                      try clear hx256_0
                                      try clear hx261_0
                                      try clear hx35_0
                                      try clear hx39_0
                                      try clear hx47_0
                                      try clear hx82_0
                                      try clear p1
                                      try clear p19
                                      try clear p2
                                      try clear p24
                                      try clear p240
                                      try clear p242
                                      try clear p249
                                      try clear p25
                                      try clear p251
                                      try clear p253
                                      try clear p255
                                      try clear p256
                                      try clear p261
                                      try clear p3
                                      try clear p35
                                      try clear p39
                                      try clear p4
                                      try clear p47
                                      try clear p6
                                      try clear p64
                                      try clear p8
                                      try clear p82
                                      try clear q1
                                      try clear q19
                                      try clear q2
                                      try clear q24
                                      try clear q240
                                      try clear q242
                                      try clear q249
                                      try clear q25
                                      try clear q251
                                      try clear q253
                                      try clear q255
                                      try clear q256
                                      try clear q261
                                      try clear q3
                                      try clear q35
                                      try clear q37
                                      try clear q39
                                      try clear q4
                                      try clear q47
                                      try clear q6
                                      try clear q65
                                      try clear q8
                                      try clear q82
                                      obtain ⟨x11_5, x13_5, x18_5, rfl, HA, HK5, HO_9, HO_11, HO_13, BK235, HB⟩ := hrel
                                      have hl11_5 := (Kd.R_reads' HO_11.out).1
                                      rw [hl11_5] at HO_11
                                      (try simp only [hl11_5])
                                      (try simp only [hl11_5] at BK235)
                                      (try simp only [hl11_5] at HO_9)
                                      (try simp only [hl11_5] at HO_13)
                                      cases gk with
                                      | zero => exact absurd HA.out (by simp [taquinref07_spread.l4])
                                      | succ k5 =>
                                        have H := HA.out
                                        clear HA
                                        simp only [taquinref07_spread.l4] at H
                                        by_cases c90 : x18_5 < 6
                                        · rw [if_pos c90] at H
                                          have c90b0 : decide (x18_5 < 6) = true := decide_eq_true c90
                                          clear c90
                                          replace H := Option.bind_eq_some_iff.mp H
                                          obtain ⟨⟨t262, t263⟩, A910, H⟩ := H
                                          replace H : (if a3 = true then ((taquinref07_Back.f k5 a0_0 a0_1 a0_2 l0_3 l0_4 (rd x13_4 x16_4) x18_5).bind fun bt264 => (taquinref07_spread.j6 k5 a3 x9_2 x11_5 x13_5 x16_4 (rd x13_4 x16_4) x18_5 bt264.1 bt264.2 a0_0 a0_1 a0_2 l0_3 l0_4)) else (taquinref07_spread.j6 k5 a3 x9_2 x11_5 x13_5 x16_4 (rd x13_4 x16_4) x18_5 t262 t263 a0_0 a0_1 a0_2 l0_3 l0_4)) = some r := H
                                          have A91 := Aside0.mk A910
                                          clear A910
                                          have HC92 := Aside0.mk H
                                          clear H
                                          have hcz93_0 : wr.cell? ⟨gb235, 0, none⟩ = some (.int .i64 a0_0) := (blk_cell BK235.out 0).trans rfl
                                          have hcz93_1 : wr.cell? ⟨gb235, 1, none⟩ = some (.int .i64 a0_1) := (blk_cell BK235.out 1).trans rfl
                                          have hcz93_2 : wr.cell? ⟨gb235, 2, none⟩ = some (.int .i64 a0_2) := (blk_cell BK235.out 2).trans rfl
                                          have hcz93_3 : wr.cell? ⟨gb235, 3, none⟩ = some (.slice A0_3 l0_3.length c0_3) := (blk_cell BK235.out 3).trans rfl
                                          have hcz93_4 : wr.cell? ⟨gb235, 4, none⟩ = some (.slice A0_4 l0_4.length c0_4) := (blk_cell BK235.out 4).trans rfl
                                          have hfz93_0 := blk_frozen BK235.out 0
                                          have hfz93_1 := blk_frozen BK235.out 1
                                          have hfz93_2 := blk_frozen BK235.out 2
                                          have hfz93_3 := blk_frozen BK235.out 3
                                          have hfz93_4 := blk_frozen BK235.out 4
                                          go_upto_if 134 with (first | ((with_reducible refine gate_callee (f := 27) rfl ?_); refine goesL_ (some 131) rfl rfl Try.func27 (by kernel_rfl) rfl #[.agg #[.int .i64 a0_0, .int .i64 a0_1, .int .i64 a0_2, .slice A0_3 l0_3.length c0_3, .slice A0_4 l0_4.length c0_4], .int .i64 (rd x13_4 x16_4), .int .i64 x18_5] rfl (by (try simp only [List.map_toArray, List.map_cons, List.map_nil]); first | done | rfl | (simp only [List.length_drop, List.length_take]; rfl)) ?_; (with_reducible refine (taquinref07_Next.calls k5 a0_0 a0_1 a0_2 _ _ l0_3 _ _ l0_4 (rd x13_4 x16_4) x18_5 t262 t263 _ ?side1 ?side2 ?side3 ?side4 A91.out).mono ?_); (case side1 => repeat (first | exact (Kd.C_below HR0_3.out HB.out) | (with_reducible refine Kd.C_alloc ?_ _) | (with_reducible refine Kd.C_drewN ?_ _) | (with_reducible refine Kd.C_drew ?_))); (case side2 => exact HC0_3.out); (case side3 => repeat (first | exact (Kd.C_below HR0_4.out HB.out) | (with_reducible refine Kd.C_alloc ?_ _) | (with_reducible refine Kd.C_drewN ?_ _) | (with_reducible refine Kd.C_drew ?_))); (case side4 => exact HC0_4.out); rintro e w94 ⟨rfl, hb⟩; refine ⟨_, rfl, ?_⟩; have n0_ := Aside0.mk (Kd.R_below (by (with_reducible repeat (first | apply Kd.R_alloc | apply Kd.R_drewN | apply Kd.R_drew)); exact HO_9.out) hb); have n1_ := Aside0.mk (Kd.R_below (by (with_reducible repeat (first | apply Kd.R_alloc | apply Kd.R_drewN | apply Kd.R_drew)); exact HO_11.out) hb); have n2_ := Aside0.mk (Kd.R_below (by (with_reducible repeat (first | apply Kd.R_alloc | apply Kd.R_drewN | apply Kd.R_drew)); exact HO_13.out) hb); have n3_ := Aside0.mk (blk_below (g := gb235) (o := .cells #[.int .i64 a0_0, .int .i64 a0_1, .int .i64 a0_2, .slice A0_3 l0_3.length c0_3, .slice A0_4 l0_4.length c0_4] 24 (0, 0)) (by (with_reducible repeat (first | refine blk_drewN ?_ _ | refine blk_drew ?_ | refine blk_alloc ?_ _)); exact BK235.out) hb); have n4_ := Aside0.mk (below_step (by repeat (first | (with_reducible first | exact HB.out | apply below_alloc | apply pw_below_drewN | apply below_drew1 | refine below_set ?_ GE235.out) | exact HB.out)) hb); clear HO_9; clear HO_11; clear HO_13; clear BK235; clear HB; have HO_9 := n0_; have HO_11 := n1_; have HO_13 := n2_; have BK235 := n3_; have HB := n4_; clear n0_ n1_ n2_ n3_ n4_; (try clear hb); (try clear hb2); (try clear hk); (try clear hi)))
                                          (try simp only [Act.put, List.setIfInBounds_toArray, List.set_cons_zero, List.set_cons_succ])
                                          go_cut [19, 20] (fun v19 v20 wc => ∃ (kq : Nat) (x19_91 : Int) (x20_91 : Bool), v19 = .int .i64 x19_91 ∧ v20 = .bool x20_91 ∧ Aside0 (taquinref07_spread.j6 kq a3 x9_2 x11_5 x13_5 x16_4 (rd x13_4 x16_4) x18_5 x19_91 x20_91 a0_0 a0_1 a0_2 l0_3 l0_4 = some r) ∧ Aside0 (kq ≤ k5) ∧ Aside0 (Kd.R Kd.bool 4 wc w.heap.size (fun _ => True) v238 x9_2) ∧ Aside0 (Kd.R (Kd.int .i64) 3 wc w.heap.size (fun k_ => some k_ ≠ (u13 : Value).ownBlock) (.slice Ao55 x11_5.length co55) x11_5) ∧ Aside0 (Kd.R (Kd.int .i64) 3 wc w.heap.size (fun k_ => some k_ ≠ ((.slice Ao55 x11_5.length co55) : Value).ownBlock) u13 x13_5) ∧ Aside0 (wc.heap[gb235]? = some (.cells #[.int .i64 a0_0, .int .i64 a0_1, .int .i64 a0_2, (.slice A0_3 l0_3.length c0_3), (.slice A0_4 l0_4.length c0_4)] 24 (0, 0))) ∧ Aside0 (Below w.heap.size w wc))
                                          case first =>
                                            have H := HC92.out
                                            clear HC92
                                            by_cases c95 : a3 = true
                                            · subst c95
                                              have H1 : ((taquinref07_Back.f k5 a0_0 a0_1 a0_2 l0_3 l0_4 (rd x13_4 x16_4) x18_5).bind fun bt264 => (taquinref07_spread.j6 k5 true x9_2 x11_5 x13_5 x16_4 (rd x13_4 x16_4) x18_5 bt264.1 bt264.2 a0_0 a0_1 a0_2 l0_3 l0_4)) = some r := by rw [if_pos rfl] at H; exact H
                                              clear H
                                              have H := H1
                                              clear H1
                                              replace H := Option.bind_eq_some_iff.mp H
                                              obtain ⟨⟨t264, t265⟩, A960, H⟩ := H
                                              replace H : (taquinref07_spread.j6 k5 true x9_2 x11_5 x13_5 x16_4 (rd x13_4 x16_4) x18_5 t264 t265 a0_0 a0_1 a0_2 l0_3 l0_4) = some r := H
                                              have A96 := Aside0.mk A960
                                              clear A960
                                              have H' := Aside0.mk H
                                              clear H
                                              have hcz97_0 : w94.cell? ⟨gb235, 0, none⟩ = some (.int .i64 a0_0) := (blk_cell BK235.out 0).trans rfl
                                              have hcz97_1 : w94.cell? ⟨gb235, 1, none⟩ = some (.int .i64 a0_1) := (blk_cell BK235.out 1).trans rfl
                                              have hcz97_2 : w94.cell? ⟨gb235, 2, none⟩ = some (.int .i64 a0_2) := (blk_cell BK235.out 2).trans rfl
                                              have hcz97_3 : w94.cell? ⟨gb235, 3, none⟩ = some (.slice A0_3 l0_3.length c0_3) := (blk_cell BK235.out 3).trans rfl
                                              have hcz97_4 : w94.cell? ⟨gb235, 4, none⟩ = some (.slice A0_4 l0_4.length c0_4) := (blk_cell BK235.out 4).trans rfl
                                              have hfz97_0 := blk_frozen BK235.out 0
                                              have hfz97_1 := blk_frozen BK235.out 1
                                              have hfz97_2 := blk_frozen BK235.out 2
                                              have hfz97_3 := blk_frozen BK235.out 3
                                              have hfz97_4 := blk_frozen BK235.out 4
                                              go_wp2_with (first | ((with_reducible refine gate_callee (f := 28) rfl ?_); refine goesL_ (some 139) rfl rfl Try.func28 (by kernel_rfl) rfl #[.agg #[.int .i64 a0_0, .int .i64 a0_1, .int .i64 a0_2, .slice A0_3 l0_3.length c0_3, .slice A0_4 l0_4.length c0_4], .int .i64 (rd x13_4 x16_4), .int .i64 x18_5] rfl (by (try simp only [List.map_toArray, List.map_cons, List.map_nil]); first | done | rfl | (simp only [List.length_drop, List.length_take]; rfl)) ?_; (with_reducible refine (taquinref07_Back.calls k5 a0_0 a0_1 a0_2 _ _ l0_3 _ _ l0_4 (rd x13_4 x16_4) x18_5 t264 t265 _ ?side1 ?side2 ?side3 ?side4 A96.out).mono ?_); (case side1 => repeat (first | exact (Kd.C_below HR0_3.out HB.out) | (with_reducible refine Kd.C_alloc ?_ _) | (with_reducible refine Kd.C_drewN ?_ _) | (with_reducible refine Kd.C_drew ?_))); (case side2 => exact HC0_3.out); (case side3 => repeat (first | exact (Kd.C_below HR0_4.out HB.out) | (with_reducible refine Kd.C_alloc ?_ _) | (with_reducible refine Kd.C_drewN ?_ _) | (with_reducible refine Kd.C_drew ?_))); (case side4 => exact HC0_4.out); rintro e w98 ⟨rfl, hb⟩; refine ⟨_, rfl, ?_⟩; have n0_ := Aside0.mk (Kd.R_below (by (with_reducible repeat (first | apply Kd.R_alloc | apply Kd.R_drewN | apply Kd.R_drew)); exact HO_9.out) hb); have n1_ := Aside0.mk (Kd.R_below (by (with_reducible repeat (first | apply Kd.R_alloc | apply Kd.R_drewN | apply Kd.R_drew)); exact HO_11.out) hb); have n2_ := Aside0.mk (Kd.R_below (by (with_reducible repeat (first | apply Kd.R_alloc | apply Kd.R_drewN | apply Kd.R_drew)); exact HO_13.out) hb); have n3_ := Aside0.mk (blk_below (g := gb235) (o := .cells #[.int .i64 a0_0, .int .i64 a0_1, .int .i64 a0_2, .slice A0_3 l0_3.length c0_3, .slice A0_4 l0_4.length c0_4] 24 (0, 0)) (by (with_reducible repeat (first | refine blk_drewN ?_ _ | refine blk_drew ?_ | refine blk_alloc ?_ _)); exact BK235.out) hb); have n4_ := Aside0.mk (below_step (by repeat (first | (with_reducible first | exact HB.out | apply below_alloc | apply pw_below_drewN | apply below_drew1 | refine below_set ?_ GE235.out) | exact HB.out)) hb); clear HO_9; clear HO_11; clear HO_13; clear BK235; clear HB; have HO_9 := n0_; have HO_11 := n1_; have HO_13 := n2_; have BK235 := n3_; have HB := n4_; clear n0_ n1_ n2_ n3_ n4_; (try clear hb); (try clear hb2); (try clear hk); (try clear hi)))
                                              go_meet
                                              case rel => exact ⟨_, (t264), (t265), (by first | rfl | (simp; done) | (simp [*]; done)), (by first | rfl | (simp; done) | (simp [*]; done)), H', ⟨by have := HK1.out; have := HK2.out; have := HK3.out; have := HK4.out; have := HK5.out; first | omega | exact Nat.le_refl _⟩, ⟨by (try simp only [hl11_3]); (try simp only [hl11_4]); (try simp only [hl11_5]); (with_reducible repeat (first | apply Kd.R_alloc | apply Kd.R_drewN | apply Kd.R_drew)); exact HO_9.out⟩, ⟨by (try simp only [hl11_3]); (try simp only [hl11_4]); (try simp only [hl11_5]); (with_reducible repeat (first | apply Kd.R_alloc | apply Kd.R_drewN | apply Kd.R_drew)); exact HO_11.out⟩, ⟨by (try simp only [hl11_3]); (try simp only [hl11_4]); (try simp only [hl11_5]); (with_reducible repeat (first | apply Kd.R_alloc | apply Kd.R_drewN | apply Kd.R_drew)); exact HO_13.out⟩, ⟨by (try simp only [hl11_3]); (try simp only [hl11_4]); (try simp only [hl11_5]); (with_reducible repeat (first | refine blk_drewN ?_ _ | refine blk_drew ?_ | refine blk_alloc ?_ _)); exact BK235.out⟩, ⟨by repeat (first | (with_reducible first | exact HB.out | apply below_alloc | apply pw_below_drewN | apply below_drew1 | refine below_set ?_ GE235.out) | exact HB.out)⟩⟩
                                            · replace c95 := Bool.eq_false_iff.mpr c95
                                              subst c95
                                              have H1 : (taquinref07_spread.j6 k5 false x9_2 x11_5 x13_5 x16_4 (rd x13_4 x16_4) x18_5 t262 t263 a0_0 a0_1 a0_2 l0_3 l0_4) = some r := by rw [if_neg (show ¬ (false = true) by decide)] at H; exact H
                                              clear H
                                              have H := H1
                                              clear H1
                                              have H' := Aside0.mk H
                                              clear H
                                              go_wp2
                                              go_meet
                                              case rel => exact ⟨_, (t262), (t263), (by first | rfl | (simp; done) | (simp [*]; done)), (by first | rfl | (simp; done) | (simp [*]; done)), H', ⟨by have := HK1.out; have := HK2.out; have := HK3.out; have := HK4.out; have := HK5.out; first | omega | exact Nat.le_refl _⟩, ⟨by (try simp only [hl11_3]); (try simp only [hl11_4]); (try simp only [hl11_5]); (with_reducible repeat (first | apply Kd.R_alloc | apply Kd.R_drewN | apply Kd.R_drew)); exact HO_9.out⟩, ⟨by (try simp only [hl11_3]); (try simp only [hl11_4]); (try simp only [hl11_5]); (with_reducible repeat (first | apply Kd.R_alloc | apply Kd.R_drewN | apply Kd.R_drew)); exact HO_11.out⟩, ⟨by (try simp only [hl11_3]); (try simp only [hl11_4]); (try simp only [hl11_5]); (with_reducible repeat (first | apply Kd.R_alloc | apply Kd.R_drewN | apply Kd.R_drew)); exact HO_13.out⟩, ⟨by (try simp only [hl11_3]); (try simp only [hl11_4]); (try simp only [hl11_5]); (with_reducible repeat (first | refine blk_drewN ?_ _ | refine blk_drew ?_ | refine blk_alloc ?_ _)); exact BK235.out⟩, ⟨by repeat (first | (with_reducible first | exact HB.out | apply below_alloc | apply pw_below_drewN | apply below_drew1 | refine below_set ?_ GE235.out) | exact HB.out)⟩⟩
                                          case rest =>
                                            clear HC92
                                            try clear c1
                                            try clear p1
                                            try clear q1
                                            try clear hx1
                                            try clear c2
                                            try clear p2
                                            try clear q2
                                            try clear hx2
                                            try clear c3
                                            try clear p3
                                            try clear q3
                                            try clear hx3
                                            try clear c4
                                            try clear p4
                                            try clear q4
                                            try clear hx4
                                            try clear hf4
                                            try clear c5
                                            try clear c6
                                            try clear c6b0
                                            try clear c6b1
                                            try clear p6
                                            try clear q6
                                            try clear c7
                                            try clear c7b0
                                            try clear c7b1
                                            try clear c8
                                            try clear p8
                                            try clear q8
                                            try clear hx8
                                            try clear hf8
                                            try clear c9
                                            try clear c13
                                            try clear c13b0
                                            try clear c14
                                            try clear c14b0
                                            try clear c16
                                            try clear c17
                                            try clear c17b0
                                            try clear c18
                                            try clear c18b0
                                            try clear p19
                                            try clear q19
                                            try clear hx19
                                            try clear hf19
                                            try clear p24
                                            try clear q24
                                            try clear hx24
                                            try clear p25
                                            try clear q25
                                            try clear hx25
                                            try clear p26
                                            try clear q26
                                            try clear hx26
                                            try clear c27
                                            try clear c27b0
                                            try clear c27b1
                                            try clear c28
                                            try clear c28b0
                                            try clear c28b1
                                            try clear c33
                                            try clear c33b0
                                            try clear c34
                                            try clear c34b0
                                            try clear p35
                                            try clear q35
                                            try clear hx35
                                            try clear hf35
                                            try clear c36
                                            try clear c36b0
                                            try clear q37
                                            try clear c38
                                            try clear p39
                                            try clear q39
                                            try clear hx39
                                            try clear hf39
                                            try clear c46
                                            try clear c46b0
                                            try clear p47
                                            try clear q47
                                            try clear hx47
                                            try clear hf47
                                            try clear c56
                                            try clear c56b0
                                            try clear c57
                                            try clear c57b0
                                            try clear c60
                                            try clear c63
                                            try clear c63b0
                                            try clear c64
                                            try clear c64b0
                                            try clear p64
                                            try clear q65
                                            try clear c66
                                            try clear c68
                                            try clear c72
                                            try clear c72b0
                                            try clear c73
                                            try clear c73b0
                                            try clear c79
                                            try clear c80
                                            try clear c80b0
                                            try clear c81
                                            try clear c81b0
                                            try clear p82
                                            try clear q82
                                            try clear hx82
                                            try clear hf82
                                            try clear c83
                                            try clear c87
                                            try clear c87b0
                                            try clear c88
                                            try clear c88b0
                                            try clear c90
                                            try clear c90b0
                                            try clear c95
                                            try clear hcz29_0
                                            try clear hcz29_1
                                            try clear hcz29_2
                                            try clear hcz29_3
                                            try clear hcz29_4
                                            try clear hcz52_0
                                            try clear hcz52_1
                                            try clear hcz52_2
                                            try clear hcz52_3
                                            try clear hcz52_4
                                            try clear hcz67_0
                                            try clear hcz67_1
                                            try clear hcz67_2
                                            try clear hcz67_3
                                            try clear hcz67_4
                                            try clear hcz74_0
                                            try clear hcz74_1
                                            try clear hcz74_2
                                            try clear hcz74_3
                                            try clear hcz74_4
                                            try clear hcz77_0
                                            try clear hcz77_1
                                            try clear hcz77_2
                                            try clear hcz77_3
                                            try clear hcz77_4
                                            try clear hcz93_0
                                            try clear hcz93_1
                                            try clear hcz93_2
                                            try clear hcz93_3
                                            try clear hcz93_4
                                            try clear hcz97_0
                                            try clear hcz97_1
                                            try clear hcz97_2
                                            try clear hcz97_3
                                            try clear hcz97_4
                                            try clear hcz9_0
                                            try clear hcz9_1
                                            try clear hcz9_2
                                            try clear hcz9_3
                                            try clear hcz9_4
                                            try clear hfz29_0
                                            try clear hfz29_1
                                            try clear hfz29_2
                                            try clear hfz29_3
                                            try clear hfz29_4
                                            try clear hfz52_0
                                            try clear hfz52_1
                                            try clear hfz52_2
                                            try clear hfz52_3
                                            try clear hfz52_4
                                            try clear hfz67_0
                                            try clear hfz67_1
                                            try clear hfz67_2
                                            try clear hfz67_3
                                            try clear hfz67_4
                                            try clear hfz74_0
                                            try clear hfz74_1
                                            try clear hfz74_2
                                            try clear hfz74_3
                                            try clear hfz74_4
                                            try clear hfz77_0
                                            try clear hfz77_1
                                            try clear hfz77_2
                                            try clear hfz77_3
                                            try clear hfz77_4
                                            try clear hfz93_0
                                            try clear hfz93_1
                                            try clear hfz93_2
                                            try clear hfz93_3
                                            try clear hfz93_4
                                            try clear hfz97_0
                                            try clear hfz97_1
                                            try clear hfz97_2
                                            try clear hfz97_3
                                            try clear hfz97_4
                                            try clear hfz9_0
                                            try clear hfz9_1
                                            try clear hfz9_2
                                            try clear hfz9_3
                                            try clear hfz9_4
                                            try clear hx19_0
                                            try clear hx240_0
                                            try clear hx242_0
                                            try clear hx249_0
                                            try clear hx251_0
                                            try clear hx253_0
                                            try clear hx255_0
                                            try clear hx256_0
                                            try clear hx261_0
                                            try clear hx35_0
                                            try clear hx39_0
                                            try clear hx47_0
                                            try clear hx82_0
                                            try clear p1
                                            try clear p19
                                            try clear p2
                                            try clear p24
                                            try clear p240
                                            try clear p242
                                            try clear p249
                                            try clear p25
                                            try clear p251
                                            try clear p253
                                            try clear p255
                                            try clear p256
                                            try clear p26
                                            try clear p261
                                            try clear p3
                                            try clear p35
                                            try clear p39
                                            try clear p4
                                            try clear p47
                                            try clear p6
                                            try clear p64
                                            try clear p8
                                            try clear p82
                                            try clear q1
                                            try clear q19
                                            try clear q2
                                            try clear q24
                                            try clear q240
                                            try clear q242
                                            try clear q249
                                            try clear q25
                                            try clear q251
                                            try clear q253
                                            try clear q255
                                            try clear q256
                                            try clear q26
                                            try clear q261
                                            try clear q3
                                            try clear q35
                                            try clear q37
                                            try clear q39
                                            try clear q4
                                            try clear q47
                                            try clear q6
                                            try clear q65
                                            try clear q8
                                            try clear q82
                                            obtain ⟨kq, x19_91, x20_91, rfl, rfl, HA, HJ91, HO_9, HO_11, HO_13, BK235, HB⟩ := hcut
                                            cases kq with
                                            | zero => exact absurd HA.out (by simp [taquinref07_spread.j6])
                                            | succ kj91 =>
                                              have H := HA.out
                                              clear HA
                                              simp only [taquinref07_spread.j6] at H
                                              have HC99 := Aside0.mk H
                                              clear H
                                              go_upto_region 31 with (fail)
                                              go_cut [156] (fun v156 wc => ∃ (kq : Nat) (x156_98 : Bool), v156 = .bool x156_98 ∧ Aside0 (taquinref07_spread.j7 kq a3 x9_2 x11_5 x13_5 x16_4 (rd x13_4 x16_4) x18_5 x19_91 x156_98 a0_0 a0_1 a0_2 l0_3 l0_4 = some r) ∧ Aside0 (kq ≤ kj91) ∧ Aside0 (Kd.R Kd.bool 4 wc w.heap.size (fun _ => True) v238 x9_2) ∧ Aside0 (Kd.R (Kd.int .i64) 3 wc w.heap.size (fun k_ => some k_ ≠ (u13 : Value).ownBlock) (.slice Ao55 x11_5.length co55) x11_5) ∧ Aside0 (Kd.R (Kd.int .i64) 3 wc w.heap.size (fun k_ => some k_ ≠ ((.slice Ao55 x11_5.length co55) : Value).ownBlock) u13 x13_5) ∧ Aside0 (wc.heap[gb235]? = some (.cells #[.int .i64 a0_0, .int .i64 a0_1, .int .i64 a0_2, (.slice A0_3 l0_3.length c0_3), (.slice A0_4 l0_4.length c0_4)] 24 (0, 0))) ∧ Aside0 (Below w.heap.size w wc))
                                              case first =>
                                                have H := HC99.out
                                                clear HC99
                                                by_cases c100 : x20_91 = true
                                                · subst c100
                                                  have H1 : (if 0 ≤ x19_91 then (if x19_91 < (x9_2.length : Int) then (if rdOf false x9_2 x19_91 = true then (taquinref07_spread.j7 kj91 a3 x9_2 x11_5 x13_5 x16_4 (rd x13_4 x16_4) x18_5 x19_91 false a0_0 a0_1 a0_2 l0_3 l0_4) else (if x19_91 < (x11_5.length : Int) then (taquinref07_spread.j7 kj91 a3 x9_2 x11_5 x13_5 x16_4 (rd x13_4 x16_4) x18_5 x19_91 (decide ((rd x11_5 x19_91) < 0)) a0_0 a0_1 a0_2 l0_3 l0_4) else (none))) else (none)) else (none)) = some r := by rw [if_pos rfl] at H; exact H
                                                  clear H
                                                  have H := H1
                                                  clear H1
                                                  by_cases c101 : 0 ≤ x19_91
                                                  · rw [if_pos c101] at H
                                                    have c101b0 : decide (0 ≤ x19_91) = true := decide_eq_true c101
                                                    clear c101
                                                    (first | rw [c101b0] | (simp only [i64_w, i32_w]; rw [c101b0]) | skip)
                                                    by_cases c102 : x19_91 < (x9_2.length : Int)
                                                    · rw [if_pos c102] at H
                                                      have c102b0 : decide (x19_91 < (x9_2.length : Int)) = true := decide_eq_true c102
                                                      clear c102
                                                      obtain ⟨bq103, hbq103⟩ : ∃ b_ : Bool, b_ = (rdOf false x9_2 x19_91) := ⟨_, rfl⟩
                                                      replace H : (if bq103 = true then (taquinref07_spread.j7 kj91 a3 x9_2 x11_5 x13_5 x16_4 (rd x13_4 x16_4) x18_5 x19_91 false a0_0 a0_1 a0_2 l0_3 l0_4) else (if x19_91 < (x11_5.length : Int) then (taquinref07_spread.j7 kj91 a3 x9_2 x11_5 x13_5 x16_4 (rd x13_4 x16_4) x18_5 x19_91 (decide ((rd x11_5 x19_91) < 0)) a0_0 a0_1 a0_2 l0_3 l0_4) else (none))) = some r := by rw [← hbq103] at H; exact H
                                                      have Nbq103 := Aside0.mk hbq103
                                                      clear hbq103
                                                      by_cases c104 : bq103 = true
                                                      · subst c104
                                                        have H1 : (taquinref07_spread.j7 kj91 a3 x9_2 x11_5 x13_5 x16_4 (rd x13_4 x16_4) x18_5 x19_91 false a0_0 a0_1 a0_2 l0_3 l0_4) = some r := by rw [if_pos rfl] at H; exact H
                                                        clear H
                                                        have H := H1
                                                        clear H1
                                                        have H' := Aside0.mk H
                                                        clear H
                                                        obtain ⟨Ao105, co105, eo105⟩ := Kd.R_slice HO_9.out
                                                        subst eo105
                                                        have p266 : 0 ≤ (x19_91 : Int) := of_decide_eq_true (by first | (with_reducible assumption) | assumption)
                                                        have q266 : x19_91 < (x9_2.length : Int) := of_decide_eq_true (by first | (with_reducible assumption) | assumption)
                                                        obtain ⟨ad266, e266, hx266_0⟩ := Kd.at_bool (Kd.R_reads' HO_9.out).2.2 x19_91 p266 q266
                                                        (try rw [← Nbq103.out] at hx266_0)
                                                        cases e266
                                                        replace p266 := eq_true p266
                                                        replace q266 := eq_true q266
                                                        go_wp2
                                                        go_meet
                                                        case rel => exact ⟨_, (false), (by first | rfl | (simp; done) | (simp [*]; done)), H', ⟨by have := HK1.out; have := HK2.out; have := HK3.out; have := HK4.out; have := HK5.out; have := HJ91.out; first | omega | exact Nat.le_refl _⟩, ⟨by (try simp only [hl11_3]); (try simp only [hl11_4]); (try simp only [hl11_5]); (with_reducible repeat (first | apply Kd.R_alloc | apply Kd.R_drewN | apply Kd.R_drew)); exact HO_9.out⟩, ⟨by (try simp only [hl11_3]); (try simp only [hl11_4]); (try simp only [hl11_5]); (with_reducible repeat (first | apply Kd.R_alloc | apply Kd.R_drewN | apply Kd.R_drew)); exact HO_11.out⟩, ⟨by (try simp only [hl11_3]); (try simp only [hl11_4]); (try simp only [hl11_5]); (with_reducible repeat (first | apply Kd.R_alloc | apply Kd.R_drewN | apply Kd.R_drew)); exact HO_13.out⟩, ⟨by (try simp only [hl11_3]); (try simp only [hl11_4]); (try simp only [hl11_5]); (with_reducible repeat (first | refine blk_drewN ?_ _ | refine blk_drew ?_ | refine blk_alloc ?_ _)); exact BK235.out⟩, ⟨by repeat (first | (with_reducible first | exact HB.out | apply below_alloc | apply pw_below_drewN | apply below_drew1 | refine below_set ?_ GE235.out) | exact HB.out)⟩⟩
                                                      · replace c104 := Bool.eq_false_iff.mpr c104
                                                        subst c104
                                                        have H1 : (if x19_91 < (x11_5.length : Int) then (taquinref07_spread.j7 kj91 a3 x9_2 x11_5 x13_5 x16_4 (rd x13_4 x16_4) x18_5 x19_91 (decide ((rd x11_5 x19_91) < 0)) a0_0 a0_1 a0_2 l0_3 l0_4) else (none)) = some r := by rw [if_neg (show ¬ (false = true) by decide)] at H; exact H
                                                        clear H
                                                        have H := H1
                                                        clear H1
                                                        by_cases c106 : x19_91 < (x11_5.length : Int)
                                                        · rw [if_pos c106] at H
                                                          have c106b0 : decide (x19_91 < (x11_5.length : Int)) = true := decide_eq_true c106
                                                          clear c106
                                                          have H' := Aside0.mk H
                                                          clear H
                                                          obtain ⟨Ao107, co107, eo107⟩ := Kd.R_slice HO_9.out
                                                          subst eo107
                                                          have p266 : 0 ≤ (x19_91 : Int) := of_decide_eq_true (by first | (with_reducible assumption) | assumption)
                                                          have q266 : x19_91 < (x9_2.length : Int) := of_decide_eq_true (by first | (with_reducible assumption) | assumption)
                                                          obtain ⟨ad266, e266, hx266_0⟩ := Kd.at_bool (Kd.R_reads' HO_9.out).2.2 x19_91 p266 q266
                                                          (try rw [← Nbq103.out] at hx266_0)
                                                          cases e266
                                                          replace p266 := eq_true p266
                                                          replace q266 := eq_true q266
                                                          have p267 : 0 ≤ (x19_91 : Int) := of_decide_eq_true (by first | (with_reducible assumption) | assumption)
                                                          have q267 : x19_91 < (x11_5.length : Int) := of_decide_eq_true (by first | (with_reducible assumption) | assumption)
                                                          obtain ⟨ad267, e267, hx267_0⟩ := Kd.at_int (Kd.R_reads' HO_11.out).2.2 x19_91 p267 q267
                                                          cases e267
                                                          replace p267 := eq_true p267
                                                          replace q267 := eq_true q267
                                                          go_wp2
                                                          go_meet
                                                          case rel => exact ⟨_, (decide ((rd x11_5 x19_91) < 0)), (by first | rfl | (simp; done) | (simp [*]; done)), H', ⟨by have := HK1.out; have := HK2.out; have := HK3.out; have := HK4.out; have := HK5.out; have := HJ91.out; first | omega | exact Nat.le_refl _⟩, ⟨by (try simp only [hl11_3]); (try simp only [hl11_4]); (try simp only [hl11_5]); (with_reducible repeat (first | apply Kd.R_alloc | apply Kd.R_drewN | apply Kd.R_drew)); exact HO_9.out⟩, ⟨by (try simp only [hl11_3]); (try simp only [hl11_4]); (try simp only [hl11_5]); (with_reducible repeat (first | apply Kd.R_alloc | apply Kd.R_drewN | apply Kd.R_drew)); exact HO_11.out⟩, ⟨by (try simp only [hl11_3]); (try simp only [hl11_4]); (try simp only [hl11_5]); (with_reducible repeat (first | apply Kd.R_alloc | apply Kd.R_drewN | apply Kd.R_drew)); exact HO_13.out⟩, ⟨by (try simp only [hl11_3]); (try simp only [hl11_4]); (try simp only [hl11_5]); (with_reducible repeat (first | refine blk_drewN ?_ _ | refine blk_drew ?_ | refine blk_alloc ?_ _)); exact BK235.out⟩, ⟨by repeat (first | (with_reducible first | exact HB.out | apply below_alloc | apply pw_below_drewN | apply below_drew1 | refine below_set ?_ GE235.out) | exact HB.out)⟩⟩
                                                        · rw [if_neg c106] at H
                                                          exact absurd H (by simp)
                                                    · rw [if_neg c102] at H
                                                      exact absurd H (by simp)
                                                  · rw [if_neg c101] at H
                                                    exact absurd H (by simp)
                                                · replace c100 := Bool.eq_false_iff.mpr c100
                                                  subst c100
                                                  have H1 : (taquinref07_spread.j7 kj91 a3 x9_2 x11_5 x13_5 x16_4 (rd x13_4 x16_4) x18_5 x19_91 false a0_0 a0_1 a0_2 l0_3 l0_4) = some r := by rw [if_neg (show ¬ (false = true) by decide)] at H; exact H
                                                  clear H
                                                  have H := H1
                                                  clear H1
                                                  have H' := Aside0.mk H
                                                  clear H
                                                  go_wp2
                                                  go_meet
                                                  case rel => exact ⟨_, (false), (by first | rfl | (simp; done) | (simp [*]; done)), H', ⟨by have := HK1.out; have := HK2.out; have := HK3.out; have := HK4.out; have := HK5.out; have := HJ91.out; first | omega | exact Nat.le_refl _⟩, ⟨by (try simp only [hl11_3]); (try simp only [hl11_4]); (try simp only [hl11_5]); (with_reducible repeat (first | apply Kd.R_alloc | apply Kd.R_drewN | apply Kd.R_drew)); exact HO_9.out⟩, ⟨by (try simp only [hl11_3]); (try simp only [hl11_4]); (try simp only [hl11_5]); (with_reducible repeat (first | apply Kd.R_alloc | apply Kd.R_drewN | apply Kd.R_drew)); exact HO_11.out⟩, ⟨by (try simp only [hl11_3]); (try simp only [hl11_4]); (try simp only [hl11_5]); (with_reducible repeat (first | apply Kd.R_alloc | apply Kd.R_drewN | apply Kd.R_drew)); exact HO_13.out⟩, ⟨by (try simp only [hl11_3]); (try simp only [hl11_4]); (try simp only [hl11_5]); (with_reducible repeat (first | refine blk_drewN ?_ _ | refine blk_drew ?_ | refine blk_alloc ?_ _)); exact BK235.out⟩, ⟨by repeat (first | (with_reducible first | exact HB.out | apply below_alloc | apply pw_below_drewN | apply below_drew1 | refine below_set ?_ GE235.out) | exact HB.out)⟩⟩
                                              case rest =>
                                                clear HC99
                                                try clear c1
                                                try clear p1
                                                try clear q1
                                                try clear hx1
                                                try clear c2
                                                try clear p2
                                                try clear q2
                                                try clear hx2
                                                try clear c3
                                                try clear p3
                                                try clear q3
                                                try clear hx3
                                                try clear c4
                                                try clear p4
                                                try clear q4
                                                try clear hx4
                                                try clear hf4
                                                try clear c5
                                                try clear c6
                                                try clear c6b0
                                                try clear c6b1
                                                try clear p6
                                                try clear q6
                                                try clear c7
                                                try clear c7b0
                                                try clear c7b1
                                                try clear c8
                                                try clear p8
                                                try clear q8
                                                try clear hx8
                                                try clear hf8
                                                try clear c9
                                                try clear c10
                                                try clear q10
                                                try clear c13
                                                try clear c13b0
                                                try clear c14
                                                try clear c14b0
                                                try clear c16
                                                try clear c17
                                                try clear c17b0
                                                try clear c18
                                                try clear c18b0
                                                try clear p19
                                                try clear q19
                                                try clear hx19
                                                try clear hf19
                                                try clear p24
                                                try clear q24
                                                try clear hx24
                                                try clear p25
                                                try clear q25
                                                try clear hx25
                                                try clear p26
                                                try clear q26
                                                try clear hx26
                                                try clear c27
                                                try clear c27b0
                                                try clear c27b1
                                                try clear c28
                                                try clear c28b0
                                                try clear c28b1
                                                try clear c33
                                                try clear c33b0
                                                try clear c34
                                                try clear c34b0
                                                try clear p35
                                                try clear q35
                                                try clear hx35
                                                try clear hf35
                                                try clear c36
                                                try clear c36b0
                                                try clear q37
                                                try clear c38
                                                try clear p39
                                                try clear q39
                                                try clear hx39
                                                try clear hf39
                                                try clear c46
                                                try clear c46b0
                                                try clear p47
                                                try clear q47
                                                try clear hx47
                                                try clear hf47
                                                try clear c56
                                                try clear c56b0
                                                try clear c57
                                                try clear c57b0
                                                try clear c60
                                                try clear c63
                                                try clear c63b0
                                                try clear c64
                                                try clear c64b0
                                                try clear p64
                                                try clear q65
                                                try clear c66
                                                try clear c68
                                                try clear c72
                                                try clear c72b0
                                                try clear c73
                                                try clear c73b0
                                                try clear c79
                                                try clear c80
                                                try clear c80b0
                                                try clear c81
                                                try clear c81b0
                                                try clear p82
                                                try clear q82
                                                try clear hx82
                                                try clear hf82
                                                try clear c83
                                                try clear c87
                                                try clear c87b0
                                                try clear c88
                                                try clear c88b0
                                                try clear c90
                                                try clear c90b0
                                                try clear c95
                                                try clear c100
                                                try clear c101
                                                try clear c101b0
                                                try clear c102
                                                try clear c102b0
                                                try clear q103
                                                try clear c104
                                                try clear c106
                                                try clear c106b0
                                                try clear hcz29_0
                                                try clear hcz29_1
                                                try clear hcz29_2
                                                try clear hcz29_3
                                                try clear hcz29_4
                                                try clear hcz52_0
                                                try clear hcz52_1
                                                try clear hcz52_2
                                                try clear hcz52_3
                                                try clear hcz52_4
                                                try clear hcz67_0
                                                try clear hcz67_1
                                                try clear hcz67_2
                                                try clear hcz67_3
                                                try clear hcz67_4
                                                try clear hcz74_0
                                                try clear hcz74_1
                                                try clear hcz74_2
                                                try clear hcz74_3
                                                try clear hcz74_4
                                                try clear hcz77_0
                                                try clear hcz77_1
                                                try clear hcz77_2
                                                try clear hcz77_3
                                                try clear hcz77_4
                                                try clear hcz93_0
                                                try clear hcz93_1
                                                try clear hcz93_2
                                                try clear hcz93_3
                                                try clear hcz93_4
                                                try clear hcz97_0
                                                try clear hcz97_1
                                                try clear hcz97_2
                                                try clear hcz97_3
                                                try clear hcz97_4
                                                try clear hcz9_0
                                                try clear hcz9_1
                                                try clear hcz9_2
                                                try clear hcz9_3
                                                try clear hcz9_4
                                                try clear hfz29_0
                                                try clear hfz29_1
                                                try clear hfz29_2
                                                try clear hfz29_3
                                                try clear hfz29_4
                                                try clear hfz52_0
                                                try clear hfz52_1
                                                try clear hfz52_2
                                                try clear hfz52_3
                                                try clear hfz52_4
                                                try clear hfz67_0
                                                try clear hfz67_1
                                                try clear hfz67_2
                                                try clear hfz67_3
                                                try clear hfz67_4
                                                try clear hfz74_0
                                                try clear hfz74_1
                                                try clear hfz74_2
                                                try clear hfz74_3
                                                try clear hfz74_4
                                                try clear hfz77_0
                                                try clear hfz77_1
                                                try clear hfz77_2
                                                try clear hfz77_3
                                                try clear hfz77_4
                                                try clear hfz93_0
                                                try clear hfz93_1
                                                try clear hfz93_2
                                                try clear hfz93_3
                                                try clear hfz93_4
                                                try clear hfz97_0
                                                try clear hfz97_1
                                                try clear hfz97_2
                                                try clear hfz97_3
                                                try clear hfz97_4
                                                try clear hfz9_0
                                                try clear hfz9_1
                                                try clear hfz9_2
                                                try clear hfz9_3
                                                try clear hfz9_4
                                                try clear hx19_0
                                                try clear hx240_0
                                                try clear hx242_0
                                                try clear hx249_0
                                                try clear hx251_0
                                                try clear hx253_0
                                                try clear hx255_0
                                                try clear hx256_0
                                                try clear hx261_0
                                                try clear hx266_0
                                                try clear hx267_0
                                                try clear hx35_0
                                                try clear hx39_0
                                                try clear hx47_0
                                                try clear hx82_0
                                                try clear p1
                                                try clear p19
                                                try clear p2
                                                try clear p24
                                                try clear p240
                                                try clear p242
                                                try clear p249
                                                try clear p25
                                                try clear p251
                                                try clear p253
                                                try clear p255
                                                try clear p256
                                                try clear p26
                                                try clear p261
                                                try clear p266
                                                try clear p267
                                                try clear p3
                                                try clear p35
                                                try clear p39
                                                try clear p4
                                                try clear p47
                                                try clear p6
                                                try clear p64
                                                try clear p8
                                                try clear p82
                                                try clear q1
                                                try clear q19
                                                try clear q2
                                                try clear q24
                                                try clear q240
                                                try clear q242
                                                try clear q249
                                                try clear q25
                                                try clear q251
                                                try clear q253
                                                try clear q255
                                                try clear q256
                                                try clear q26
                                                try clear q261
                                                try clear q266
                                                try clear q267
                                                try clear q3
                                                try clear q35
                                                try clear q37
                                                try clear q39
                                                try clear q4
                                                try clear q47
                                                try clear q6
                                                try clear q65
                                                try clear q8
                                                try clear q82
                                                obtain ⟨kq, x156_98, rfl, HA, HJ98, HO_9, HO_11, HO_13, BK235, HB⟩ := hcut
                                                cases kq with
                                                | zero => exact absurd HA.out (by simp [taquinref07_spread.j7])
                                                | succ kj98 =>
                                                  have H := HA.out
                                                  clear HA
                                                  simp only [taquinref07_spread.j7] at H
                                                  by_cases c108 : x156_98 = true
                                                  · subst c108
                                                    have H1 : (if 0 ≤ (rd x13_4 x16_4) then (if (rd x13_4 x16_4) < (x11_5.length : Int) then (if 0 ≤ x19_91 then (if x19_91 < (x11_5.length : Int) then (if x13_5.length < 17592186044416 then (taquinref07_spread.l4 kj98 a3 x9_2 (x11_5.set (x19_91 : Int).toNat (wrap64 ((rd x11_5 (rd x13_4 x16_4)) + 1))) (x13_5 ++ [x19_91]) x16_4 (rd x13_4 x16_4) (wrap64 (x18_5 + 1)) a0_0 a0_1 a0_2 l0_3 l0_4) else (none)) else (none)) else (none)) else (none)) else (none)) = some r := by rw [if_pos rfl] at H; exact H
                                                    clear H
                                                    have H := H1
                                                    clear H1
                                                    by_cases c109 : 0 ≤ (rd x13_4 x16_4)
                                                    · rw [if_pos c109] at H
                                                      have c109b0 : decide (0 ≤ (rd x13_4 x16_4)) = true := decide_eq_true c109
                                                      clear c109
                                                      by_cases c110 : (rd x13_4 x16_4) < (x11_5.length : Int)
                                                      · rw [if_pos c110] at H
                                                        have c110b0 : decide ((rd x13_4 x16_4) < (x11_5.length : Int)) = true := decide_eq_true c110
                                                        clear c110
                                                        by_cases c111 : 0 ≤ x19_91
                                                        · rw [if_pos c111] at H
                                                          have c111b0 : decide (0 ≤ x19_91) = true := decide_eq_true c111
                                                          clear c111
                                                          by_cases c112 : x19_91 < (x11_5.length : Int)
                                                          · rw [if_pos c112] at H
                                                            have c112b0 : decide (x19_91 < (x11_5.length : Int)) = true := decide_eq_true c112
                                                            clear c112
                                                            obtain ⟨y269, hy269⟩ : ∃ y_ : List Int, y_ = (x11_5.set (x19_91 : Int).toNat (wrap64 ((rd x11_5 (rd x13_4 x16_4)) + 1))) := ⟨_, rfl⟩
                                                            replace H : (if x13_5.length < 17592186044416 then (taquinref07_spread.l4 kj98 a3 x9_2 y269 (x13_5 ++ [x19_91]) x16_4 (rd x13_4 x16_4) (wrap64 (x18_5 + 1)) a0_0 a0_1 a0_2 l0_3 l0_4) else (none)) = some r := by first | (rw [hy269]; with_reducible exact H) | (have H2_ := (Option.bind_some _ _).symm.trans H; rw [hy269]; with_reducible exact H2_) | (have H2_ := (Option.bind_some _ _).symm.trans H; with_reducible exact H2_) | with_reducible exact H | (rw [hy269]; exact H) | exact H
                                                            have Ny269 := Aside0.mk hy269
                                                            clear hy269
                                                            by_cases c114 : x13_5.length < 17592186044416
                                                            · rw [if_pos c114] at H
                                                              have LMc114 := Aside0.mk c114
                                                              clear c114
                                                              obtain ⟨y270, hy270⟩ : ∃ y_ : List Int, y_ = (x13_5 ++ [x19_91]) := ⟨_, rfl⟩
                                                              replace H : (taquinref07_spread.l4 kj98 a3 x9_2 y269 y270 x16_4 (rd x13_4 x16_4) (wrap64 (x18_5 + 1)) a0_0 a0_1 a0_2 l0_3 l0_4) = some r := by first | (rw [hy270]; with_reducible exact H) | (have H2_ := (Option.bind_some _ _).symm.trans H; rw [hy270]; with_reducible exact H2_) | (have H2_ := (Option.bind_some _ _).symm.trans H; with_reducible exact H2_) | with_reducible exact H | (rw [hy270]; exact H) | exact H
                                                              have Ny270 := Aside0.mk hy270
                                                              clear hy270
                                                              have H' := Aside0.mk H
                                                              clear H
                                                              have p268 : 0 ≤ ((rd x13_4 x16_4) : Int) := of_decide_eq_true (by first | (with_reducible assumption) | assumption)
                                                              have q268 : (rd x13_4 x16_4) < (x11_5.length : Int) := of_decide_eq_true (by first | (with_reducible assumption) | assumption)
                                                              obtain ⟨ad268, e268, hx268_0⟩ := Kd.at_int (Kd.R_reads' HO_11.out).2.2 (rd x13_4 x16_4) p268 q268
                                                              cases e268
                                                              replace p268 := eq_true p268
                                                              replace q268 := eq_true q268
                                                              have p113 : 0 ≤ (x19_91 : Int) := of_decide_eq_true (by first | (with_reducible assumption) | assumption)
                                                              have q113 : (x19_91 : Int) < ((x11_5.length : Int) : Int) := of_decide_eq_true (by first | (with_reducible assumption) | assumption)
                                                              obtain ⟨go113, co113, eo113, gb113, gl113, cl113, HG113⟩ := Kd.R_form HO_11.out (by omega)
                                                              (first | cases eo113 | (injection eo113 with ea_ en_ ec_; (first | subst ea_ | (injection ea_ with ea_; subst ea_)); subst ec_; clear en_))
                                                              have GB113 := Aside0.mk gb113
                                                              have GG113 := Aside0.mk HG113
                                                              clear gb113 gl113 HG113
                                                              (first | simp only [add_plain] at hx268_0 | skip)
                                                              obtain ⟨hx113_0, hf113_0⟩ := Kd.R_celln 0 HO_11.out (x19_91 : Int) p113 q113
                                                              replace p113 := eq_true p113
                                                              replace q113 := eq_true q113
                                                              have HP115 := Kd.R_putg HO_11.out (x19_91 : Int) (wrap64 ((rd x11_5 (rd x13_4 x16_4)) + 1))
                                                              go_wp2_with (first | ((with_reducible refine gate_store (t := 3) (p := 164) rfl ?_); refine store_event (t := 3) (p := 164) (v := ?vo_w116) (w1 := (wc.setCell ⟨go113, (x19_91 : Int).toNat, none⟩ (.int .i64 (wrap64 ((rd x11_5 (rd x13_4 x16_4)) + 1))))) ?hg ?ho ?hn ?hr ?_; (case ho => rfl); (case hg => rfl); (case hn => rfl); (case hr => first | (go_simp; done) | (go_simp; rfl)); intro w116 hw; have hg : wc.grownBy w116 (some go113) := (by rw [hw]; exact HP115.2); have hp_ : Kd.R (Kd.int .i64) 3 w116 w.heap.size (fun k_ => some k_ ≠ (u13 : Value).ownBlock) (.slice (some ⟨go113, 0, none⟩) x11_5.length co55) y269 := (by rw [hw, Ny269.out]; exact HP115.1); clear HP115; have n0_ := Aside0.mk (Kd.R_over' (v := (.slice (some ⟨go113, 0, none⟩) x11_5.length co55)) (by (with_reducible repeat (first | apply Kd.R_alloc | apply Kd.R_drewN | apply Kd.R_drew)); exact HO_9.out) (Kd.R_typed HO_11.out) (by decide) hg); have n1_ := Aside0.mk (hp_); have n2_ := Aside0.mk (Kd.R_after (v := (.slice (some ⟨go113, 0, none⟩) x11_5.length co55)) (v1 := (.slice (some ⟨go113, 0, none⟩) x11_5.length co55)) (ok := (fun _ => True)) (by (with_reducible repeat (first | apply Kd.R_alloc | apply Kd.R_drewN | apply Kd.R_drew)); exact Kd.R_mono HO_13.out (fun _ hk => ⟨trivial, hk⟩)) hg (.inl rfl)); have n3_ := Aside0.mk (blk_grown (g := gb235) (o := .cells #[.int .i64 a0_0, .int .i64 a0_1, .int .i64 a0_2, .slice A0_3 l0_3.length c0_3, .slice A0_4 l0_4.length c0_4] 24 (0, 0)) (by (with_reducible repeat (first | refine blk_drewN ?_ _ | refine blk_drew ?_ | refine blk_alloc ?_ _)); exact BK235.out) hg (Kd.R_ne HO_11.out BK235.out (by decide))); have n4_ := Aside0.mk ((by rw [hw]; exact below_set (HB.out) GB113.out : Below w.heap.size w w116)); clear HO_9; clear HO_11; clear HO_13; clear BK235; clear HB; have HO_9 := n0_; have HO_11 := n1_; have HO_13 := n2_; have BK235 := n3_; have HB := n4_; clear n0_ n1_ n2_ n3_ n4_; clear hg hw hp_) | ((with_reducible refine gate_builtin (b := .append) (xs := #[.tmp 165, .tmp 167]) rfl ?_); (try (refine gate_guard (by rfl) ?_; dsimp only)); at_builtin; refine Kd.R_append (Kd.int .i64) (w0 := w) w.heap.size rfl (.tmp 165) (.tmp 167) 22 3 (.int .i64 0) 8 rfl Try.underlying22 info3 rfl (by decide) (by omega) u13 x13_5 x19_91 [.int .i64 x19_91] (fun k_ => some k_ ≠ (.slice (some ⟨go113, 0, none⟩) x11_5.length co55 : Value).ownBlock) (fun _ => False) rfl rfl ?aP (fun _ hk => hk.elim) ?aF ?aO ?aB ?aS ?aL ?_; (case aP => exact rfl); (case aB => exact (by repeat (first | (with_reducible first | exact HB.out | apply below_alloc | apply pw_below_drewN | apply below_drew1 | refine below_set ?_ GE235.out) | exact HB.out))); (case aF => exact (fun k_ hk => Kd.fresh' (Kd.R_lt (by (with_reducible repeat (first | apply Kd.R_alloc | apply Kd.R_drewN | apply Kd.R_drew)); exact HO_11.out)) k_ hk)); (case aO => exact (by (with_reducible repeat (first | apply Kd.R_alloc | apply Kd.R_drewN | apply Kd.R_drew)); exact Kd.R_mono HO_13.out (fun _ hk => hk.2))); (case aS => exact (below_size (by repeat (first | (with_reducible first | exact HB.out | apply below_alloc | apply pw_below_drewN | apply below_drew1 | refine below_set ?_ GE235.out) | exact HB.out)))); (case aL => have := LMc114.out; omega); intro v271 w117 ho hb hg hat; rw [← Ny270.out] at ho; have n0_ := Aside0.mk (Kd.R_over' (by (with_reducible repeat (first | apply Kd.R_alloc | apply Kd.R_drewN | apply Kd.R_drew)); exact HO_9.out) (Kd.R_typed (by (with_reducible repeat (first | apply Kd.R_alloc | apply Kd.R_drewN | apply Kd.R_drew)); exact HO_13.out)) (by decide) hg); have n1_ := Aside0.mk (Kd.R_after (ok := (fun _ => True)) (by (with_reducible repeat (first | apply Kd.R_alloc | apply Kd.R_drewN | apply Kd.R_drew)); exact Kd.R_mono HO_11.out (fun _ hk => ⟨trivial, hk⟩)) hg hat); have n2_ := Aside0.mk (blk_grown (g := gb235) (o := .cells #[.int .i64 a0_0, .int .i64 a0_1, .int .i64 a0_2, .slice A0_3 l0_3.length c0_3, .slice A0_4 l0_4.length c0_4] 24 (0, 0)) (by (with_reducible repeat (first | refine blk_drewN ?_ _ | refine blk_drew ?_ | refine blk_alloc ?_ _)); exact BK235.out) hg (Kd.R_ne HO_13.out BK235.out (by decide))); have n3_ := Aside0.mk (hb); have n4_ := Aside0.mk (ho); clear HO_9; clear HO_11; clear BK235; clear HB; clear HO_13; have HO_9 := n0_; have HO_11 := n1_; have BK235 := n2_; have HB := n3_; have HO272 := n4_; clear n0_ n1_ n2_ n3_ n4_; clear ho hb hg hat))
                                                              (try simp only [← hl11_5])
                                                              go_roundg kj98
                                                              case measure => have := HK1.out; have := HK2.out; have := HK3.out; have := HK4.out; have := HK5.out; have := HJ91.out; have := HJ98.out; omega
                                                              case rel => exact ⟨(y269), (y270), (wrap64 (x18_5 + 1)), (by first | rfl | (simp; done) | (simp [*]; done)), H', ⟨by have := HK1.out; have := HK2.out; have := HK3.out; have := HK4.out; have := HK5.out; have := HJ91.out; have := HJ98.out; omega⟩, ⟨by (try simp only [hl11_3]); (try simp only [hl11_4]); (try simp only [hl11_5]); (with_reducible repeat (first | apply Kd.R_alloc | apply Kd.R_drewN | apply Kd.R_drew)); exact HO_9.out⟩, ⟨by (try simp only [hl11_3]); (try simp only [hl11_4]); (try simp only [hl11_5]); (with_reducible repeat (first | apply Kd.R_alloc | apply Kd.R_drewN | apply Kd.R_drew)); exact Kd.R_mono HO_11.out (fun _ hk => hk.2)⟩, ⟨by (try simp only [hl11_3]); (try simp only [hl11_4]); (try simp only [hl11_5]); (with_reducible repeat (first | apply Kd.R_alloc | apply Kd.R_drewN | apply Kd.R_drew)); exact HO272.out⟩, ⟨by (try simp only [hl11_3]); (try simp only [hl11_4]); (try simp only [hl11_5]); (with_reducible repeat (first | refine blk_drewN ?_ _ | refine blk_drew ?_ | refine blk_alloc ?_ _)); exact BK235.out⟩, ⟨by repeat (first | (with_reducible first | exact HB.out | apply below_alloc | apply pw_below_drewN | apply below_drew1 | refine below_set ?_ GE235.out) | exact HB.out)⟩⟩
                                                            · rw [if_neg c114] at H
                                                              exact absurd H (by simp)
                                                          · rw [if_neg c112] at H
                                                            exact absurd H (by simp)
                                                        · rw [if_neg c111] at H
                                                          exact absurd H (by simp)
                                                      · rw [if_neg c110] at H
                                                        exact absurd H (by simp)
                                                    · rw [if_neg c109] at H
                                                      exact absurd H (by simp)
                                                  · replace c108 := Bool.eq_false_iff.mpr c108
                                                    subst c108
                                                    have H1 : (taquinref07_spread.l4 kj98 a3 x9_2 x11_5 x13_5 x16_4 (rd x13_4 x16_4) (wrap64 (x18_5 + 1)) a0_0 a0_1 a0_2 l0_3 l0_4) = some r := by rw [if_neg (show ¬ (false = true) by decide)] at H; exact H
                                                    clear H
                                                    have H := H1
                                                    clear H1
                                                    have H' := Aside0.mk H
                                                    clear H
                                                    go_wp2
                                                    (try simp only [← hl11_5])
                                                    go_roundg kj98
                                                    case measure => have := HK1.out; have := HK2.out; have := HK3.out; have := HK4.out; have := HK5.out; have := HJ91.out; have := HJ98.out; omega
                                                    case rel => exact ⟨(x11_5), (x13_5), (wrap64 (x18_5 + 1)), (by first | rfl | (simp; done) | (simp [*]; done)), H', ⟨by have := HK1.out; have := HK2.out; have := HK3.out; have := HK4.out; have := HK5.out; have := HJ91.out; have := HJ98.out; omega⟩, ⟨by (try simp only [hl11_3]); (try simp only [hl11_4]); (try simp only [hl11_5]); (with_reducible repeat (first | apply Kd.R_alloc | apply Kd.R_drewN | apply Kd.R_drew)); exact HO_9.out⟩, ⟨by (try simp only [hl11_3]); (try simp only [hl11_4]); (try simp only [hl11_5]); (with_reducible repeat (first | apply Kd.R_alloc | apply Kd.R_drewN | apply Kd.R_drew)); exact HO_11.out⟩, ⟨by (try simp only [hl11_3]); (try simp only [hl11_4]); (try simp only [hl11_5]); (with_reducible repeat (first | apply Kd.R_alloc | apply Kd.R_drewN | apply Kd.R_drew)); exact HO_13.out⟩, ⟨by (try simp only [hl11_3]); (try simp only [hl11_4]); (try simp only [hl11_5]); (with_reducible repeat (first | refine blk_drewN ?_ _ | refine blk_drew ?_ | refine blk_alloc ?_ _)); exact BK235.out⟩, ⟨by repeat (first | (with_reducible first | exact HB.out | apply below_alloc | apply pw_below_drewN | apply below_drew1 | refine below_set ?_ GE235.out) | exact HB.out)⟩⟩
                                        · rw [if_neg c90] at H
                                          have c90b0 : decide (x18_5 < 6) = false := decide_eq_false c90
                                          clear c90
                                          have H' := Aside0.mk H
                                          clear H
                                          go_wp2
                                          (try simp only [← hl11_4, ← hl11_5])
                                          go_roundg k5
                                          case measure => have := HK1.out; have := HK2.out; have := HK3.out; have := HK4.out; have := HK5.out; omega
                                          case rel => exact ⟨(x11_5), (x13_5), (wrap64 (x16_4 + 1)), (by first | rfl | (simp; done) | (simp [*]; done)), H', ⟨by have := HK1.out; have := HK2.out; have := HK3.out; have := HK4.out; have := HK5.out; omega⟩, ⟨by (try simp only [hl11_3]); (try simp only [hl11_4]); (try simp only [hl11_5]); (with_reducible repeat (first | apply Kd.R_alloc | apply Kd.R_drewN | apply Kd.R_drew)); exact HO_9.out⟩, ⟨by (try simp only [hl11_3]); (try simp only [hl11_4]); (try simp only [hl11_5]); (with_reducible repeat (first | apply Kd.R_alloc | apply Kd.R_drewN | apply Kd.R_drew)); exact HO_11.out⟩, ⟨by (try simp only [hl11_3]); (try simp only [hl11_4]); (try simp only [hl11_5]); (with_reducible repeat (first | apply Kd.R_alloc | apply Kd.R_drewN | apply Kd.R_drew)); exact HO_13.out⟩, ⟨by (try simp only [hl11_3]); (try simp only [hl11_4]); (try simp only [hl11_5]); (with_reducible repeat (first | refine blk_drewN ?_ _ | refine blk_drew ?_ | refine blk_alloc ?_ _)); exact BK235.out⟩, ⟨by repeat (first | (with_reducible first | exact HB.out | apply below_alloc | apply pw_below_drewN | apply below_drew1 | refine below_set ?_ GE235.out) | exact HB.out)⟩⟩
                                  · rw [if_neg c88] at H
                                    exact absurd H (by simp)
                                · rw [if_neg c87] at H
                                  have c87b0 : decide (x16_4 < (x13_4.length : Int)) = false := decide_eq_false c87
                                  clear c87
                                  obtain rfl := Option.some.inj H
                                  obtain ⟨Ao118, co118, eo118⟩ := Kd.R_slice HO_13.out
                                  subst eo118
                                  go_wp2
                                  go_ret
                                  exact ⟨_, by first | rfl | (simp [errW_none, errW_some] <;> rfl) | (simp [*, errW_none, errW_some] <;> rfl), by (with_reducible repeat (first | apply Kd.R_alloc | apply Kd.R_drewN | apply Kd.R_drew)); exact Kd.R_mono HO_11.out (fun _ hk => trivial), by repeat (first | (with_reducible first | exact HB.out | apply below_alloc | apply pw_below_drewN | apply below_drew1 | refine below_set ?_ GE235.out) | exact HB.out)⟩
              · rw [if_neg c28] at H
                exact absurd H (by simp)
            · rw [if_neg c27] at H
              exact absurd H (by simp)
    · rw [if_neg c7] at H
      exact absurd H (by simp)
  · rw [if_neg c6] at H
    exact absurd H (by simp)
end Go.Proofs.Ytmnncmpmhbfpcaa.J
end
section
namespace Go.Proofs.Ytmnncmpmhbfpcaa.P
set_option linter.unusedVariables false
set_option linter.unusedSimpArgs false
open Go.RowKit Go.Proofs.YtmnncmpmhbfpcaaW.PrintWords Go.Proofs.YtmnncmpmhbfpcaaW.PrintLast Go.Proofs.YtmnncmpmhbfpcaaW.PrintMore
open Go.Proofs.Ytmnncmpmhbfpcaa.A Go.Proofs.Ytmnncmpmhbfpcaa.H Go.Proofs.Ytmnncmpmhbfpcaa.B Go.Proofs.Ytmnncmpmhbfpcaa.S Go.Proofs.Ytmnncmpmhbfpcaa.C Go.Proofs.Ytmnncmpmhbfpcaa.D Go.Proofs.Ytmnncmpmhbfpcaa.F Go.Proofs.Ytmnncmpmhbfpcaa.J
structure Rl (n : Nat) (sh : List Bool) (out qu : List Int) (i : Nat) (s : St) : Prop where
  o : s.1 = out
  lo : out.length = n
  ls : sh.length = n
  lp : s.2.1.length = n
  op : ∀ c, c < n → s.2.1.getD c false = (!sh.getD c false && decide (out.getD c 0 < 0))
  bd : ∀ c, c < n → -1 ≤ out.getD c 0 ∧ out.getD c 0 ≤ qu.length
  q : s.2.2 = qu.drop i
  iq : i ≤ qu.length
  qn : ∀ x ∈ qu, ∃ c : Nat, x = c ∧ c < n
  cnt : qu.length + s.2.1.count true ≤ n
theorem getD_lt {α : Type} (l : List α) (z : α) {c : Nat} (h : c < l.length) : l[c]? = some (l.getD c z) := by
  rw [List.getD_eq_getElem?_getD, List.getElem?_eq_getElem h]
  rfl
theorem Rl.reach {n : Nat} {sh : List Bool} {out qu : List Int} {i : Nat} {s : St} (h : Rl n sh out qu i s) {m : Nat} {v : Int} (hm : m < n) (hv0 : 0 ≤ v) (hv1 : v ≤ (qu.length : Int) + 1) (h1 : sh.getD m false = false) (h2 : out.getD m 0 < 0) :
    Rl n sh (out.set m v) (qu ++ [(m : Int)]) i (reachP m v s) := by
  have ho : s.2.1[m]? = some true := by
    rw [getD_lt _ false (by rw [h.lp]; exact hm), h.op m hm, h1, decide_eq_true h2]
    rfl
  have hc := count_set_true ho
  unfold reachP
  rw [if_pos ho]
  refine ⟨by rw [← h.o], by simp [h.lo], h.ls, by simp [h.lp], fun c hc => ?_, fun c hc => ?_, ?_, ?_, fun x hx => ?_, ?_⟩
  · rw [getD_set _ _ _ _ _ (by rw [h.lp]; exact hm), getD_set _ _ _ _ _ (by rw [h.lo]; exact hm)]
    by_cases e : m = c
    · rw [if_pos e, if_pos e, decide_eq_false (by omega)]
      simp
    · rw [if_neg e, if_neg e]
      exact h.op c hc
  · rw [getD_set _ _ _ _ _ (by rw [h.lo]; exact hm)]
    have := h.bd c hc
    simp only [List.length_append, List.length_singleton]
    split <;> omega
  · show s.2.2 ++ [(m : Int)] = _
    rw [List.drop_append_of_le_length h.iq, h.q]
  · have := h.iq
    simp only [List.length_append, List.length_singleton]
    omega
  · rcases List.mem_append.1 hx with hx | hx
    · exact h.qn x hx
    · exact ⟨m, List.mem_singleton.1 hx, hm⟩
  · have := h.cnt
    simp only [List.length_append, List.length_singleton]
    omega
theorem Rl.shut {n : Nat} {sh : List Bool} {out qu : List Int} {i : Nat} {s : St} (h : Rl n sh out qu i s) {m : Nat} {v : Int} (hm : m < n) (h1 : ¬ (sh.getD m false = false ∧ out.getD m 0 < 0)) : reachP m v s = s := by
  unfold reachP
  rw [if_neg]
  rw [getD_lt _ false (by rw [h.lp]; exact hm), h.op m hm]
  intro e
  simp only [Option.some.injEq, Bool.and_eq_true, Bool.not_eq_true', decide_eq_true_eq] at e
  exact h1 e
section
variable {W H D : Int} {K O : List Int}
def MVb (W H D : Int) (K O : List Int) (back : Bool) : Int → Int → Option (Int × Bool) := if back = true then floor_Back.f 1 W H D K O else floor_Next.f 1 W H D K O
theorem MVb_moves (G : Good W H D K O) (back : Bool) : Moves K.length (MVb W H D K O back) := by
  cases back
  · exact moves_next G
  · exact moves_back G
theorem rdOf_nat (l : List Bool) (c : Nat) : rdOf false l (c : Int) = l.getD c false := by unfold rdOf; rw [Int.toNat_natCast]
theorem rs_dir (G : Good W H D K O) (back : Bool) {sh : List Bool} {out qu : List Int} {i1 : Nat} {s : St} (h : Rl K.length sh out qu i1 s) {c d : Nat} (hc : c < K.length) (hd : d < 6) {m : Int} {ok : Bool} (hmv : MVb W H D K O back c d = some (m, ok)) (hm : ok = true → 0 ≤ m ∧ m < (K.length : Int)) (k : Nat) (i : Int) :
    ∃ out' qu', taquinref07_spread.l4 (k + 6) back sh out qu i c d W H D K O = taquinref07_spread.l4 (k + 3) back sh out' qu' i c ((d + 1 : Nat) : Int) W H D K O ∧
      Rl K.length sh out' qu' i1 (if ok = true then reachP m.toNat (wrap64 (s.1.getD c 0 + 1)) s else s) := by
  have hn := G.n2
  have hq := h.cnt
  have hbc := h.bd c hc
  have hd1 : ((d : Nat) : Int) < 6 := by omega
  have hup : Hid (wrap64 ((d : Int) + 1) = ((d + 1 : Nat) : Int)) := Lib.hid (by rw [wsm _ (by omega) (by omega)]; rfl)
  have hw : Hid (wrap64 (out.getD c 0 + 1) = out.getD c 0 + 1) := Lib.hid (wsm _ (by omega) (by omega))
  have hj6 : taquinref07_spread.l4 (k + 6) back sh out qu i c d W H D K O = taquinref07_spread.j6 (k + 5) back sh out qu i c d m ok W H D K O := by
    rw [taquinref07_spread.l4, if_pos hd1, rnext G (k + 2)]
    obtain ⟨m', ok', hN⟩ := next_total G c d
    rw [hN]
    simp only [Option.bind_some]
    cases back with
    | true =>
      rw [if_pos rfl, rback G (k + 2)]
      have e : floor_Back.f 1 W H D K O c d = some (m, ok) := hmv
      rw [e]
      rfl
    | false =>
      rw [if_neg (by simp)]
      have e : floor_Next.f 1 W H D K O c d = some (m, ok) := hmv
      rw [hN] at e
      simp only [Option.some.injEq, Prod.mk.injEq] at e
      rw [e.1, e.2]
  have hj7 : taquinref07_spread.j7 (k + 4) back sh out qu i c d m false W H D K O = taquinref07_spread.l4 (k + 3) back sh out qu i c ((d + 1 : Nat) : Int) W H D K O := by
    rw [taquinref07_spread.j7, if_neg (by simp), hup.out]
  rw [hj6]
  cases ok with
  | false =>
    refine ⟨out, qu, ?_, h⟩
    rw [taquinref07_spread.j6, if_neg (by simp), hj7]
  | true =>
    obtain ⟨m0, m1⟩ := hm rfl
    obtain ⟨mn, rfl⟩ : ∃ mn : Nat, m = mn := ⟨m.toNat, by omega⟩
    have hmn : mn < K.length := by omega
    rw [if_pos rfl, Int.toNat_natCast, h.o]
    by_cases ho : sh.getD mn false = false ∧ out.getD mn 0 < 0
    · refine ⟨out.set mn (wrap64 (out.getD c 0 + 1)), qu ++ [(mn : Int)], ?_, ?_⟩
      · rw [taquinref07_spread.j6, if_pos rfl, if_pos m0, if_pos (by rw [h.ls]; exact m1), rdOf_nat, ho.1, if_neg (by simp), if_pos (by rw [h.lo]; exact m1), rd_nat, decide_eq_true ho.2]
        rw [taquinref07_spread.j7, if_pos rfl, if_pos (by omega), if_pos (by rw [h.lo]; omega), if_pos m0, if_pos (by rw [h.lo]; exact m1), if_pos (by omega), hup.out, rd_nat, Int.toNat_natCast]
      · rw [hw.out]
        exact h.reach hmn (by omega) (by omega) ho.1 ho.2
    · rw [h.shut hmn ho]
      refine ⟨out, qu, ?_, h⟩
      rw [taquinref07_spread.j6, if_pos rfl, if_pos m0, if_pos (by rw [h.ls]; exact m1), rdOf_nat]
      by_cases e1 : sh.getD mn false = true
      · rw [if_pos e1, hj7]
      · rw [if_neg e1, if_pos (by rw [h.lo]; exact m1), rd_nat, decide_eq_false (fun hh => ho ⟨by simpa using e1, hh⟩), hj7]
theorem rs_dirs (G : Good W H D K O) (back : Bool) {sh : List Bool} {i c : Nat} (hc : c < K.length) : ∀ (j d k : Nat) (s : St) (out qu : List Int), d + j = 6 → Rl K.length sh out qu (i + 1) s → 3 * j + 8 ≤ k →
    ∀ s', dirsP (MVb W H D K O back) K.length c j d s = some s' → ∃ out' qu' k', taquinref07_spread.l4 k back sh out qu (i : Int) c d W H D K O = taquinref07_spread.l3 k' back sh out' qu' ((i + 1 : Nat) : Int) W H D K O ∧ k ≤ k' + 3 * j + 1 ∧ Rl K.length sh out' qu' (i + 1) s' := by
  intro j
  induction j with
  | zero =>
    intro d k s out qu hd h hk s' hs
    obtain ⟨k, rfl⟩ : ∃ j, k = j + 1 := ⟨k - 1, by omega⟩
    have hq := h.cnt
    have hn := G.n2
    have hiq := h.iq
    rw [dirsP] at hs
    cases hs
    refine ⟨out, qu, k, ?_, by omega, h⟩
    rw [taquinref07_spread.l4, if_neg (by omega), show wrap64 ((i : Int) + 1) = ((i + 1 : Nat) : Int) by rw [wsm _ (by omega) (by omega)]; rfl]
  | succ j ih =>
    intro d k s out qu hd h hk s' hs
    obtain ⟨k, rfl⟩ : ∃ j, k = j + 6 := ⟨k - 6, by omega⟩
    obtain ⟨m, ok, hmv, hm⟩ := MVb_moves G back c d hc (by omega)
    obtain ⟨out', qu', h1, h2⟩ := rs_dir G back h hc (by omega) hmv hm k i
    rw [dirsP, hmv] at hs
    simp only [Option.bind_some] at hs
    have hs' : dirsP (MVb W H D K O back) K.length c j (d + 1) (if ok = true then reachP m.toNat (wrap64 (s.1.getD c 0 + 1)) s else s) = some s' := by
      cases ok with
      | false => simpa using hs
      | true =>
        rw [if_pos rfl, if_pos (hm rfl), Int.toNat_natCast] at hs
        exact hs
    obtain ⟨o2, q2, k2, g1, g2, g3⟩ := ih (d + 1) (k + 3) _ out' qu' (by omega) h2 (by omega) s' hs'
    exact ⟨o2, q2, k2, by rw [h1, g1], by omega, g3⟩
theorem rs_bfs (G : Good W H D K O) (back : Bool) {sh : List Bool} : ∀ (F k : Nat) (s : St) (out qu : List Int) (i : Nat), Rl K.length sh out qu i s → 30 * F + 30 ≤ k →
    ∀ r, bfsP (MVb W H D K O back) K.length F s = some r → taquinref07_spread.l3 k back sh out qu (i : Int) W H D K O = some r := by
  intro F
  induction F with
  | zero => intro k s out qu i h hk r hr; rw [bfsP] at hr; cases hr
  | succ F ih =>
    intro k s out qu i h hk r hr
    obtain ⟨k, rfl⟩ : ∃ j, k = j + 1 := ⟨k - 1, by omega⟩
    rw [bfsP, h.q] at hr
    rw [taquinref07_spread.l3]
    by_cases hi : i < qu.length
    · rw [List.drop_eq_getElem_cons hi] at hr
      dsimp only at hr
      obtain ⟨cn, hcn, hcl⟩ := h.qn qu[i] (List.getElem_mem hi)
      rw [hcn] at hr
      have hR : Rl K.length sh out qu (i + 1) (s.1, s.2.1, qu.drop (i + 1)) := ⟨h.o, h.lo, h.ls, h.lp, h.op, h.bd, rfl, hi, h.qn, h.cnt⟩
      obtain ⟨s', hs1, hs2⟩ := Option.bind_eq_some_iff.1 hr
      obtain ⟨o2, q2, k2, g1, g2, g3⟩ := rs_dirs G back hcl 6 0 k _ out qu (by omega) hR (by omega) s' hs1
      have hrd : rd qu (i : Int) = (cn : Int) := by rw [rd_nat, List.getD_eq_getElem?_getD, List.getElem?_eq_getElem hi, hcn]; rfl
      rw [if_pos (by omega), if_pos (by omega), hrd]
      have g1' : taquinref07_spread.l4 k back sh out qu (i : Int) cn 0 W H D K O = taquinref07_spread.l3 k2 back sh o2 q2 ((i + 1 : Nat) : Int) W H D K O := g1
      rw [g1']
      exact ih k2 s' o2 q2 (i + 1) g3 (by omega) r hs2
    · rw [List.drop_of_length_le (by omega)] at hr
      rw [if_neg (by omega), ← hr]
      show some out = some s.1
      rw [h.o]
theorem rs_from (G : Good W H D K O) (back : Bool) {sh : List Bool} (l1 : List Int) (hl : l1.length ≤ 1000000) : ∀ (m i k : Nat) (s : St) (out qu : List Int), i + m = l1.length → Rl K.length sh out qu 0 s → 3 * m + 2 ≤ k →
    ∃ out' qu' k', taquinref07_spread.l2 k l1 back sh out qu (i : Int) W H D K O = taquinref07_spread.l3 k' back sh out' qu' 0 W H D K O ∧ k ≤ k' + 2 * m + 1 ∧ Rl K.length sh out' qu' 0 (fromP K.length s (l1.drop i)) := by
  intro m
  induction m with
  | zero =>
    intro i k s out qu hi h hk
    obtain ⟨k, rfl⟩ : ∃ j, k = j + 1 := ⟨k - 1, by omega⟩
    refine ⟨out, qu, k, ?_, by omega, ?_⟩
    · rw [taquinref07_spread.l2, if_neg (by omega)]
    · rw [List.drop_of_length_le (by omega)]
      exact h
  | succ m ih =>
    intro i k s out qu hi h hk
    obtain ⟨k, rfl⟩ : ∃ j, k = j + 1 + 1 := ⟨k - 2, by omega⟩
    have hn := G.n2
    have hn1 := G.len1
    have hq := h.cnt
    have hlt : i < l1.length := by omega
    have hup : Hid (wrap64 ((i : Int) + 1) = ((i + 1 : Nat) : Int)) := Lib.hid (by rw [wsm _ (by omega) (by omega)]; rfl)
    have hrd : rd l1 (i : Int) = l1[i] := by rw [rd_nat, List.getD_eq_getElem?_getD, List.getElem?_eq_getElem hlt]; rfl
    have hj : ∀ (x : Int), taquinref07_spread.j3 (k + 1) l1 back sh out qu (i : Int) x false W H D K O = taquinref07_spread.l2 k l1 back sh out qu ((i + 1 : Nat) : Int) W H D K O := fun x => by
      rw [taquinref07_spread.j3, if_neg (by simp), hup.out]
    rw [taquinref07_spread.l2, if_pos (by omega), if_pos (by omega), hrd, ris G, List.drop_eq_getElem_cons hlt]
    simp only [Option.bind_some]
    have hf : fromP K.length s (l1[i] :: l1.drop (i + 1)) = fromP K.length (if 0 ≤ l1[i] ∧ l1[i] < (K.length : Int) then reachP l1[i].toNat 0 s else s) (l1.drop (i + 1)) := rfl
    rw [hf]
    generalize l1[i] = x at *
    by_cases hx : 0 ≤ x ∧ x < (K.length : Int)
    · obtain ⟨xn, rfl⟩ : ∃ xn : Nat, x = xn := ⟨x.toNat, by omega⟩
      have hxn : xn < K.length := by omega
      rw [decide_eq_true hx, if_pos rfl, if_pos hx, Int.toNat_natCast, h.ls, h.lo]
      have hmm : mx 0 (mn (xn : Int) (wrap64 ((K.length : Int) - 1))) = (xn : Int) := by
        rw [wsm _ (by omega) (by omega)]
        unfold mx mn
        split <;> split <;> omega
      rw [hmm, if_pos (by omega), if_pos (by omega), rdOf_nat]
      by_cases ho : sh.getD xn false = false ∧ out.getD xn 0 < 0
      · have hR := h.reach (v := 0) hxn (by omega) (by omega) ho.1 ho.2
        obtain ⟨o2, q2, k2, g1, g2, g3⟩ := ih (i + 1) k _ _ _ (by omega) hR (by omega)
        refine ⟨o2, q2, k2, ?_, by omega, g3⟩
        rw [ho.1, if_neg (by simp), if_pos (by omega), if_pos (by omega), rd_nat, decide_eq_true ho.2, taquinref07_spread.j3, if_pos rfl, if_pos (by omega), if_pos (by rw [h.lo]; omega), if_pos (by omega), hup.out, Int.toNat_natCast, g1]
      · rw [h.shut hxn ho]
        obtain ⟨o2, q2, k2, g1, g2, g3⟩ := ih (i + 1) k s out qu (by omega) h (by omega)
        refine ⟨o2, q2, k2, ?_, by omega, g3⟩
        by_cases e1 : sh.getD xn false = true
        · rw [if_pos e1, hj, g1]
        · rw [if_neg e1, if_pos (by omega), if_pos (by omega), rd_nat, decide_eq_false (fun hh => ho ⟨by simpa using e1, hh⟩), hj, g1]
    · rw [decide_eq_false hx, if_neg (by simp), if_neg hx, hj]
      obtain ⟨o2, q2, k2, g1, g2, g3⟩ := ih (i + 1) k s out qu (by omega) h (by omega)
      exact ⟨o2, q2, k2, g1, by omega, g3⟩
theorem rs_init (G : Good W H D K O) (back : Bool) (l1 : List Int) : ∀ (m i k : Nat) (sh : List Bool) (out : List Int), i + m = K.length → sh.length = K.length → out.length = K.length → m + 1 ≤ k →
    ∃ sh' out' k', taquinref07_spread.l1 k l1 back sh out (i : Int) W H D K O = taquinref07_spread.l2 k' l1 back sh' out' [] 0 W H D K O ∧ k ≤ k' + m + 1 ∧ sh'.length = K.length ∧ out'.length = K.length ∧
      (∀ c, c < K.length → sh'.getD c false = if i ≤ c then (sh.getD c false || (K.getD c 0 == 0)) else sh.getD c false) ∧ (∀ c, c < K.length → out'.getD c 0 = if i ≤ c then -1 else out.getD c 0) := by
  intro m
  induction m with
  | zero =>
    intro i k sh out hi hs ho hk
    obtain ⟨k, rfl⟩ : ∃ j, k = j + 1 := ⟨k - 1, by omega⟩
    refine ⟨sh, out, k, ?_, by omega, hs, ho, fun c hc => by rw [if_neg (by omega)], fun c hc => by rw [if_neg (by omega)]⟩
    rw [taquinref07_spread.l1, if_neg (by omega)]
  | succ m ih =>
    intro i k sh out hi hs ho hk
    obtain ⟨k, rfl⟩ : ∃ j, k = j + 1 := ⟨k - 1, by omega⟩
    have hn := G.n2
    have hlt : i < K.length := by omega
    have hup : Hid (wrap64 ((i : Int) + 1) = ((i + 1 : Nat) : Int)) := Lib.hid (by rw [wsm _ (by omega) (by omega)]; rfl)
    have fin : ∀ sh1 : List Bool, sh1.length = K.length → (∀ c, c < K.length → sh1.getD c false = if i = c then (sh.getD c false || (K.getD c 0 == 0)) else sh.getD c false) → ∃ sh' out' k', taquinref07_spread.l1 k l1 back sh1 (out.set i (-1)) ((i + 1 : Nat) : Int) W H D K O = taquinref07_spread.l2 k' l1 back sh' out' [] 0 W H D K O ∧ k + 1 ≤ k' + (m + 1) + 1 ∧ sh'.length = K.length ∧ out'.length = K.length ∧
      (∀ c, c < K.length → sh'.getD c false = if i ≤ c then (sh.getD c false || (K.getD c 0 == 0)) else sh.getD c false) ∧ (∀ c, c < K.length → out'.getD c 0 = if i ≤ c then -1 else out.getD c 0) := by
      intro sh1 hs1 hsv
      obtain ⟨sh', out', k', g1, g2, g3, g4, g5, g6⟩ := ih (i + 1) k sh1 (out.set i (-1)) (by omega) hs1 (by simpa using ho) (by omega)
      refine ⟨sh', out', k', g1, by omega, g3, g4, fun c hc => ?_, fun c hc => ?_⟩
      · rw [g5 c hc, hsv c hc]
        by_cases e : i = c
        · subst e
          rw [if_neg (by omega), if_pos rfl, if_pos (by omega)]
        · rw [if_neg e]
          by_cases e2 : i ≤ c
          · rw [if_pos (by omega), if_pos e2]
          · rw [if_neg (by omega), if_neg e2]
      · rw [g6 c hc, getD_set _ _ _ _ _ (by rw [ho]; exact hlt)]
        by_cases e : i = c
        · subst e
          rw [if_neg (by omega), if_pos rfl, if_pos (by omega)]
        · rw [if_neg e]
          by_cases e2 : i ≤ c
          · rw [if_pos (by omega), if_pos e2]
          · rw [if_neg (by omega), if_neg e2]
    rw [taquinref07_spread.l1, if_pos (by rw [ho]; omega), if_pos (by omega)]
    simp only [Option.bind_some]
    rw [if_pos (by rw [hs]; omega), rdOf_nat, hup.out, Int.toNat_natCast]
    by_cases e1 : sh.getD i false = true
    · rw [if_pos e1]
      refine fin _ (by simpa using hs) (fun c hc => ?_)
      rw [getD_set _ _ _ _ _ (by rw [hs]; exact hlt)]
      by_cases e : i = c
      · subst e
        rw [if_pos rfl, if_pos rfl, e1]
        rfl
      · rw [if_neg e, if_neg e]
    · rw [if_neg e1, if_pos (by omega), rd_nat]
      refine fin _ (by simpa using hs) (fun c hc => ?_)
      rw [getD_set _ _ _ _ _ (by rw [hs]; exact hlt)]
      by_cases e : i = c
      · subst e
        have : sh.getD i false = false := by simpa using e1
        rw [if_pos rfl, if_pos rfl, this]
        rfl
      · rw [if_neg e, if_neg e]
theorem rs_avoid (G : Good W H D K O) (back : Bool) (l1 l2 : List Int) (hl : l2.length ≤ 1000000) : ∀ (m i k : Nat) (sh : List Bool), i + m = l2.length → sh.length = K.length → m + 1 ≤ k →
    ∃ sh' k', taquinref07_spread.l0 k l1 l2 back sh (i : Int) W H D K O = taquinref07_spread.l1 k' l1 back sh' (List.replicate K.length 0) 0 W H D K O ∧ k ≤ k' + m + 1 ∧ sh'.length = K.length ∧
      (∀ c : Nat, c < K.length → sh'.getD c false = (sh.getD c false || decide ((c : Int) ∈ l2.drop i))) := by
  have hn := G.n2
  intro m
  induction m with
  | zero =>
    intro i k sh hi hs hk
    obtain ⟨k, rfl⟩ : ∃ j, k = j + 1 := ⟨k - 1, by omega⟩
    refine ⟨sh, k, ?_, by omega, hs, fun c hc => ?_⟩
    · rw [taquinref07_spread.l0, if_neg (by omega), rsize G]
      simp only [Option.bind_some]
      rw [if_pos (by omega), Int.toNat_natCast, if_pos (by omega)]
    · rw [List.drop_of_length_le (by omega)]
      simp
  | succ m ih =>
    intro i k sh hi hs hk
    obtain ⟨k, rfl⟩ : ∃ j, k = j + 1 := ⟨k - 1, by omega⟩
    have hlt : i < l2.length := by omega
    have hup : Hid (wrap64 ((i : Int) + 1) = ((i + 1 : Nat) : Int)) := Lib.hid (by rw [wsm _ (by omega) (by omega)]; rfl)
    have hrd : rd l2 (i : Int) = l2[i] := by rw [rd_nat, List.getD_eq_getElem?_getD, List.getElem?_eq_getElem hlt]; rfl
    rw [taquinref07_spread.l0, if_pos (by omega), if_pos (by omega), hrd, ris G, hup.out, List.drop_eq_getElem_cons hlt]
    simp only [Option.bind_some]
    generalize l2[i] = x at *
    by_cases hx : 0 ≤ x ∧ x < (K.length : Int)
    · obtain ⟨xn, rfl⟩ : ∃ xn : Nat, x = xn := ⟨x.toNat, by omega⟩
      have hxn : xn < K.length := by omega
      rw [decide_eq_true hx, if_pos rfl, if_pos (by omega), if_pos (by rw [hs]; omega), Int.toNat_natCast]
      obtain ⟨sh', k', g1, g2, g3, g4⟩ := ih (i + 1) k (sh.set xn true) (by omega) (by simpa using hs) (by omega)
      refine ⟨sh', k', g1, by omega, g3, fun c hc => ?_⟩
      rw [g4 c hc, getD_set _ _ _ _ _ (by rw [hs]; exact hxn)]
      by_cases e : xn = c
      · subst e
        rw [if_pos rfl, Bool.true_or, decide_eq_true (List.mem_cons_self ..), Bool.or_true]
      · rw [if_neg e]
        congr 1
        rw [decide_eq_decide, List.mem_cons]
        exact ⟨fun hh => .inr hh, fun hh => hh.resolve_left (by omega)⟩
    · rw [decide_eq_false hx, if_neg (by simp)]
      obtain ⟨sh', k', g1, g2, g3, g4⟩ := ih (i + 1) k sh (by omega) hs (by omega)
      refine ⟨sh', k', g1, by omega, g3, fun c hc => ?_⟩
      rw [g4 c hc]
      congr 1
      rw [decide_eq_decide, List.mem_cons]
      exact ⟨fun hh => .inr hh, fun hh => hh.resolve_left (by omega)⟩
theorem rspread (G : Good W H D K O) (hn3 : K.length ≤ 300) (back : Bool) (l1 l2 : List Int) (hl1 : l1.length ≤ 30) (hl2 : l2.length ≤ 30) (k : Nat) (hk : 15000 ≤ k) (r : List Int) (hr : spreadP (MVb W H D K O back) (K.length + 1) K.length K l1 l2 = some r) :
    taquinref07_spread.f k W H D K O l1 l2 back = some r := by
  unfold taquinref07_spread.f
  rw [rsize G]
  simp only [Option.bind_some]
  rw [if_pos (by omega), Int.toNat_natCast, if_pos (by omega)]
  obtain ⟨sh0, k0, a1, a2, a3, a4⟩ := rs_avoid G back l1 l2 (by omega) l2.length 0 k (List.replicate K.length false) (by omega) (by simp) (by omega)
  obtain ⟨sh1, o1, k1, b1, b2, b3, b4, b5, b6⟩ := rs_init G back l1 K.length 0 k0 sh0 (List.replicate K.length 0) (by omega) a3 (by simp) (by omega)
  have hR : Rl K.length sh1 o1 [] 0 (o1, avoidP K.length (openP K) l2, []) := by
    refine ⟨rfl, b4, b3, by rw [avoidP_length]; simp [openP], fun c hc => ?_, fun c hc => ?_, rfl, Nat.le_refl _, fun x hx => (by cases hx), ?_⟩
    · rw [b5 c hc, b6 c hc, if_pos (Nat.zero_le _), if_pos (Nat.zero_le _), a4 c hc]
      have hm := mask_at K l2 c hc
      have hrep : (List.replicate K.length false).getD c false = false := by
        rw [List.getD_eq_getElem?_getD, List.getElem?_replicate]
        split <;> rfl
      rw [hrep, Bool.false_or, List.drop_zero, show decide ((-1 : Int) < 0) = true from rfl, Bool.and_true]
      by_cases hq : K.getD c 0 ≠ 0 ∧ (c : Int) ∉ l2
      · rw [hm.2 hq, decide_eq_false hq.2]
        simpa using hq.1
      · have : (avoidP K.length (openP K) l2).getD c false = false := by
          cases hv : (avoidP K.length (openP K) l2).getD c false with
          | false => rfl
          | true => exact absurd (hm.1 hv) hq
        rw [this]
        by_cases hq2 : (c : Int) ∈ l2
        · rw [decide_eq_true hq2]
          rfl
        · have : K.getD c 0 = 0 := Decidable.byContradiction fun hh => hq ⟨hh, hq2⟩
          rw [decide_eq_false hq2, this]
          rfl
    · rw [b6 c hc, if_pos (Nat.zero_le _)]
      simp
    · have := List.count_le_length (a := true) (l := avoidP K.length (openP K) l2)
      have hl : (avoidP K.length (openP K) l2).length = K.length := by rw [avoidP_length]; simp [openP]
      simp only [List.length_nil]
      omega
  have ho1 : o1 = List.replicate K.length (-1) := by
    apply List.ext_getElem?
    intro c
    by_cases hc : c < K.length
    · rw [getD_lt o1 0 (by omega), b6 c hc, if_pos (Nat.zero_le _), List.getElem?_replicate, if_pos hc]
    · rw [List.getElem?_eq_none (by omega), List.getElem?_eq_none (by simp; omega)]
  obtain ⟨o2, q2, k2, c1, c2, c3⟩ := rs_from G back l1 (by omega) l1.length 0 k1 _ o1 [] (by omega) hR (by omega)
  have a1' : taquinref07_spread.l0 k l1 l2 back (List.replicate K.length false) 0 W H D K O = taquinref07_spread.l1 k0 l1 back sh0 (List.replicate K.length 0) 0 W H D K O := a1
  have b1' : taquinref07_spread.l1 k0 l1 back sh0 (List.replicate K.length 0) 0 W H D K O = taquinref07_spread.l2 k1 l1 back sh1 o1 [] 0 W H D K O := b1
  have c1' : taquinref07_spread.l2 k1 l1 back sh1 o1 [] 0 W H D K O = taquinref07_spread.l3 k2 back sh1 o2 q2 0 W H D K O := c1
  rw [a1', b1', c1']
  rw [List.drop_zero] at c3
  refine rs_bfs G back (K.length + 1) k2 _ o2 q2 0 c3 (by omega) r ?_
  rw [ho1]
  unfold spreadP at hr
  rw [List.map_replicate] at hr
  exact hr
end
end Go.Proofs.Ytmnncmpmhbfpcaa.P
end
