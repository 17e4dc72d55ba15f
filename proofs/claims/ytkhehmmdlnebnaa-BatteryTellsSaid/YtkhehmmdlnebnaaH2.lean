/- Contracts of battery.Sum and battery.Run: range over the iterator that battery.steps makes. -/
import Derived.Test.YtkhehmmdlnebnaaH1
import Derived.Test.YtkhehmmdlnebnaaSeq
import Derived.RangeFuncBox
import Derived.Shelf.Abstract
import Derived.Shelf.RegionOpen
import Derived.OwnWalkIn
import Derived.TacticsInMore
import Derived.LoopNIn
import Derived.LoopIn
namespace Go.Proofs.Ytkhehmmdlnebnaa.H
set_option linter.unusedVariables false
set_option linter.unusedSimpArgs false
open Go.RowKit Go.Shelf Go.Proofs.YtkhehmmdlnebnaaW.PrintWords Go.Proofs.YtkhehmmdlnebnaaW.PrintLast Go.Proofs.YtkhehmmdlnebnaaW.PrintMore
open Go.Proofs.Ytkhehmmdlnebnaa.Seq
attribute [local go_sem] Oper.semAt_some

abbrev Stp := Int × Int × Bool
def encS (x : Stp) : Array Value := #[.agg #[.int .i64 x.1, .int .i64 x.2.1, .bool x.2.2]]
/-- The steps of acts: the tick, the act, whether the robot is laden before it. -/
def stepsL (t : Int) : Nat → List Int → Bool → List Stp
  | _, [], _ => []
  | k, a :: r, l => (wrap64 (t + (k : Int)), a, l) :: stepsL t (k + 1) r (ladenI a l)

/-- Whatever lay below n₀ lies as it lay, but for the blocks Wr. -/
structure KeepX (Wr : Nat → Prop) (n₀ : Nat) (W W' : World) : Prop where
  size : W.heap.size ≤ W'.heap.size
  same : ∀ k, k < n₀ → ¬ Wr k → W'.heap[k]? = W.heap[k]?
theorem KeepX.refl (Wr : Nat → Prop) (n₀ : Nat) (W : World) : KeepX Wr n₀ W W := ⟨Nat.le_refl _, fun _ _ _ => rfl⟩
theorem KeepX.trans {Wr : Nat → Prop} {n₀ : Nat} {A B C : World} (h : KeepX Wr n₀ A B) (k : KeepX Wr n₀ B C) : KeepX Wr n₀ A C :=
  ⟨Nat.le_trans h.size k.size, fun i hi hw => (k.same i hi hw).trans (h.same i hi hw)⟩
theorem KeepX.more {Wr Wr' : Nat → Prop} {n₀ : Nat} {A B : World} (h : KeepX Wr n₀ A B) (hw : ∀ k, Wr k → Wr' k) : KeepX Wr' n₀ A B :=
  ⟨h.size, fun i hi hn => h.same i hi (fun e => hn (hw i e))⟩
theorem KeepX.cell {Wr : Nat → Prop} {n₀ : Nat} {A B : World} (h : KeepX Wr n₀ A B) {p : Addr} (hp : p.block < n₀) (hw : ¬ Wr p.block) : B.cell? p = A.cell? p := World.cell?_of_block (h.same _ hp hw)
theorem KeepX.frozen {Wr : Nat → Prop} {n₀ : Nat} {A B : World} (h : KeepX Wr n₀ A B) {p : Addr} (hp : p.block < n₀) (hw : ¬ Wr p.block) : B.frozen? p = A.frozen? p := World.frozen?_of_block (h.same _ hp hw)
theorem KeepX.setCell {Wr : Nat → Prop} {n₀ : Nat} {A B : World} (h : KeepX Wr n₀ A B) {p : Addr} (hp : Wr p.block) (v : Value) : KeepX Wr n₀ A (B.setCell p v) :=
  ⟨by simpa [World.setCell] using h.size, fun k hk hw => (Below.heap_setCell B p v k (fun e => hw (e ▸ hp))).trans (h.same k hk hw)⟩
theorem KeepX.alloc {Wr : Nat → Prop} {n₀ : Nat} {A B : World} (h : KeepX Wr n₀ A B) (hB : n₀ ≤ B.heap.size) (o : Obj) : KeepX Wr n₀ A (B.alloc o) :=
  ⟨Nat.le_trans h.size (by simp), fun k hk hw => (Below.heap_alloc B o k (by omega)).trans (h.same k hk hw)⟩
theorem KeepX.drew {Wr : Nat → Prop} {n₀ : Nat} {A B : World} (h : KeepX Wr n₀ A B) : KeepX Wr n₀ A B.drew := ⟨h.size, h.same⟩
theorem KeepX.drewN {Wr : Nat → Prop} {n₀ : Nat} {A B : World} (h : KeepX Wr n₀ A B) (m : Nat) : KeepX Wr n₀ A (B.drewN m) := ⟨h.size, h.same⟩

set_option maxHeartbeats 1000000 in
theorem steps_any (t : Int) (A : Option Addr) (n c : Nat) (l : Bool) (w : World) :
    Calls Try.prog 29 #[.int .i64 t, .slice A n c, .bool l] w fun e w' =>
      e = .returned (.func (.func 32) #[] #[.pointer (some ⟨w.heap.size + 1, 0, none⟩), .pointer (some ⟨w.heap.size, 0, none⟩), .pointer (some ⟨w.heap.size + 2, 0, none⟩)]) ∧
      ((w.alloc (.cells #[.int .i64 t] 3)).alloc (.cells #[.slice A n c] 26)).alloc (.cells #[.bool l] 4) = w' := by
  go_enter Try.func29, Try.ntmps29
  go_wp2
  go_ret
  exact ⟨rfl, rfl⟩

theorem block_of_add' (p : Addr) (j : Nat) : (p.add j).block = p.block := by unfold Addr.add; split <;> rfl

theorem stepsL_cons {t : Int} {k : Nat} {xs : List Int} {l : Bool} (h : k < xs.length) :
    stepsL t k (xs.drop k) l = (wrap64 (t + (k : Int)), xs[k]?.getD 0, l) :: stepsL t (k + 1) (xs.drop (k + 1)) (ladenI (xs[k]?.getD 0) l) := by
  rw [List.drop_eq_getElem_cons h]
  simp [stepsL, h]

set_option maxRecDepth 100000 in
set_option maxHeartbeats 4000000 in
theorem steps_in (n : Nat) (hn : 3 ≤ n) (lp bA bT bL n₀ : Nat) (Wr : Nat → Prop) (t : Int) (ad : Addr) (c : Nat) (xs : List Int) (l0 : Bool) (hmax : xs.length ≤ 9223372036854775807)
    (hA : bA < n₀ ∧ ¬ Wr bA ∧ bA ≠ bL) (hT : bT < n₀ ∧ ¬ Wr bT ∧ bT ≠ bL) (hL : bL < n₀ ∧ ¬ Wr bL) (hb : ad.block < n₀ ∧ ¬ Wr ad.block ∧ ad.block ≠ bL)
    (J Jx : List Stp → World → Prop) (W : World) (hJ : AbS (fun r => r = bL) W.heap.size J)
    (hY : ∀ pre x W1, J pre W1 → (pre ++ [x]) <+: stepsL t 0 xs l0 → YieldAt Fence.wide (n - 1) Try.prog lp (encS x) W1 fun e W' =>
      (e = .returned (.bool true) ∧ J (pre ++ [x]) W' ∧ KeepX Wr n₀ W1 W') ∨ (e = .returned (.bool false) ∧ Jx (pre ++ [x]) W'))
    (cA : W.cell? ⟨bA, 0, none⟩ = some (.slice (some ad) xs.length c)) (cT : W.cell? ⟨bT, 0, none⟩ = some (.int .i64 t)) (cL : W.cell? ⟨bL, 0, none⟩ = some (.bool l0)) (fL : W.frozen? ⟨bL, 0, none⟩ = false)
    (hc : ∀ j, j < xs.length → W.cell? (ad.add j) = some (.int .i64 (xs[j]?.getD 0))) (h0 : J [] W) :
    CallsIn Fence.wide n Try.prog 32 (#[.func (.yield lp) #[] #[], .pointer (some ⟨bA, 0, none⟩), .pointer (some ⟨bT, 0, none⟩), .pointer (some ⟨bL, 0, none⟩)]) W fun e W' =>
      (∃ v, e = .returned v) ∧ (J (stepsL t 0 xs l0) W' ∨ (∃ pre, pre <+: stepsL t 0 xs l0 ∧ Jx pre W')) := by
  have h1n : 1 ≤ n := by omega
  have hl0 := laden_any
  have HLA := Lib.hid hl0
  clear hl0
  refine callsIn_of_wp Try.func32 rfl trivial ?_ rfl
  simp only [Try.ntmps32, List.size_toArray, List.length_cons, List.length_nil, Nat.reduceAdd, Nat.reduceSub, Array.replicate_succ, Array.replicate_zero, List.push_toArray, List.append_toArray, List.nil_append, List.cons_append]
  gi_wp2
  gi_loopw [9] (fun i wr => ∃ (k : Nat) (l : Bool) (pre : List Stp), k ≤ xs.length ∧ i = .int .i64 k ∧ J pre wr ∧ Hid (stepsL t 0 xs l0 = pre ++ stepsL t k (xs.drop k) l) ∧
      wr.cell? ⟨bL, 0, none⟩ = some (.bool l) ∧ wr.frozen? ⟨bL, 0, none⟩ = false ∧ KeepX (fun k => Wr k ∨ k = bL) n₀ W wr)
    (fun i _ => xs.length - (intOf i).toNat)
  case atStart => exact ⟨0, l0, [], Nat.zero_le _, rfl, h0, Lib.hid (by simp), cL, fL, KeepX.refl _ _ _⟩
  case round =>
    obtain ⟨k, l, pre, hk, rfl, hJs, hfull, hcl, hfl, hkx⟩ := hrel
    by_cases hlt : k < xs.length
    · have hcx : wr.cell? (ad.add k) = some (.int .i64 (xs[k]?.getD 0)) := by
        refine (hkx.cell (p := ad.add k) ?_ ?_).trans (hc k hlt)
        · rw [block_of_add']; exact hb.1
        · rw [block_of_add']; simp [hb.2.1, hb.2.2]
      have hca : wr.cell? ⟨bA, 0, none⟩ = some (.slice (some ad) xs.length c) := (hkx.cell (p := ⟨bA, 0, none⟩) hA.1 (by simp [hA.2.1, hA.2.2])).trans cA
      have hct : wr.cell? ⟨bT, 0, none⟩ = some (.int .i64 t) := (hkx.cell (p := ⟨bT, 0, none⟩) hT.1 (by simp [hT.2.1, hT.2.2])).trans cT
      obtain ⟨a, ha⟩ : ∃ a, xs[k]?.getD 0 = a := ⟨_, rfl⟩
      have hstep := stepsL_cons (t := t) (l := l) hlt
      rw [ha] at hcx hstep
      have hfull2 : stepsL t 0 xs l0 = (pre ++ [(wrap64 (t + (k : Int)), a, l)]) ++ stepsL t (k + 1) (xs.drop (k + 1)) (ladenI a l) := by rw [hfull.out, hstep]; simp
      obtain ⟨fn, tmps, assign, body, hy, hR⟩ := hY pre (wrap64 (t + (k : Int)), a, l) wr hJs ⟨_, hfull2.symm⟩
      have HF := Lib.hid hfull2
      clear hfull2 hfull hstep ha hc cA cT cL fL hY
      simp only [encS] at hy
      gi_wp2
      refine hR.mono ?_
      rintro e W3 (⟨rfl, hJ3, hk3⟩ | ⟨rfl, hJx3⟩)
      · have hcl3 : W3.cell? ⟨bL, 0, none⟩ = some (.bool l) := (hk3.cell (p := ⟨bL, 0, none⟩) hL.1 hL.2).trans hcl
        have hfl3 : W3.frozen? ⟨bL, 0, none⟩ = false := (hk3.frozen (p := ⟨bL, 0, none⟩) hL.1 hL.2).trans hfl
        clear hcx hca hct hcl hfl hR hy
        gi_wp2_with (first | (refine ⟨trivial, ?_⟩; gi_at_call 14; refine (callsIn_wide.2 (HLA.out _ _ _)).mono ?_; rintro e w' ⟨rfl, rfl⟩))
        go_roundw
        case rel =>
          exact ⟨k + 1, ladenI a l, pre ++ [(wrap64 (t + (k : Int)), a, l)], by omega, by go_num, hJ _ W3 _ (some bL) hJ3 (grownBy_setCell' _ _ _) (fun r e => .inl (by cases e; rfl)), HF,
            World.cell?_setCell_same' _ _ _ (by rw [hcl3]; rfl), by rw [World.frozen?_setCell]; exact hfl3, (hkx.trans (hk3.more (fun _ h => .inl h))).setCell (p := ⟨bL, 0, none⟩) (.inr rfl) _⟩
        case measure => simp [intOf]; omega
      · gi_wp2
        refine bodyPost_ret (results_none rfl _ _ _) rfl ?_
        exact ⟨⟨_, rfl⟩, .inr ⟨_, ⟨_, HF.out.symm⟩, hJx3⟩⟩
    · obtain rfl : k = xs.length := by omega
      have hd : stepsL t 0 xs l0 = pre := by rw [hfull.out, List.drop_length]; simp [stepsL]
      clear hfull
      have hJ2 : J (stepsL t 0 xs l0) wr := by rw [hd]; exact hJs
      clear hd hJs hY
      gi_wp2
      go_end0
      exact ⟨⟨_, rfl⟩, .inl hJ2⟩

set_option maxRecDepth 100000 in
set_option maxHeartbeats 1000000 in
theorem steps_in_nil (n : Nat) (lp bA bT bL : Nat) (A : Option Addr) (c : Nat) (J : List Stp → World → Prop) (W : World)
    (cA : W.cell? ⟨bA, 0, none⟩ = some (.slice A 0 c)) (h0 : J [] W) :
    CallsIn Fence.wide n Try.prog 32 (#[.func (.yield lp) #[] #[], .pointer (some ⟨bA, 0, none⟩), .pointer (some ⟨bT, 0, none⟩), .pointer (some ⟨bL, 0, none⟩)]) W fun e W' =>
      (∃ v, e = .returned v) ∧ J [] W' := by
  refine callsIn_of_wp Try.func32 rfl trivial ?_ rfl
  simp only [Try.ntmps32, List.size_toArray, List.length_cons, List.length_nil, Nat.reduceAdd, Nat.reduceSub, Array.replicate_succ, Array.replicate_zero, List.push_toArray, List.append_toArray, List.nil_append, List.cons_append]
  gi_wp2
  gi_loopw [9] (fun i wr => i = .int .i64 0 ∧ J [] wr) (fun _ _ => 0)
  case atStart => exact ⟨rfl, h0⟩
  case round =>
    obtain ⟨rfl, hJs⟩ := hrel
    gi_wp2
    go_end0
    exact ⟨⟨_, rfl⟩, hJs⟩

theorem steps_seq (n : Nat) (hn : 3 ≤ n) (bA bT bL n₀ : Nat) (Wr : Nat → Prop) (t : Int) (A : Option Addr) (c : Nat) (xs : List Int) (l0 : Bool) (hmax : xs.length ≤ 9223372036854775807) (w : World) (hsz : n₀ ≤ w.heap.size)
    (hA : bA < n₀ ∧ ¬ Wr bA ∧ bA ≠ bL) (hT : bT < n₀ ∧ ¬ Wr bT ∧ bT ≠ bL) (hL : bL < n₀ ∧ ¬ Wr bL)
    (cA : w.cell? ⟨bA, 0, none⟩ = some (.slice A xs.length c)) (cT : w.cell? ⟨bT, 0, none⟩ = some (.int .i64 t)) (cL : w.cell? ⟨bL, 0, none⟩ = some (.bool l0)) (fL : w.frozen? ⟨bL, 0, none⟩ = false)
    (hc : 0 < xs.length → ∃ ad : Addr, A = some ad ∧ (ad.block < n₀ ∧ ¬ Wr ad.block ∧ ad.block ≠ bL) ∧ ∀ j, j < xs.length → w.cell? (ad.add j) = some (.int .i64 (xs[j]?.getD 0))) :
    SeqS Fence.wide n Try.prog 32 #[.pointer (some ⟨bA, 0, none⟩), .pointer (some ⟨bT, 0, none⟩), .pointer (some ⟨bL, 0, none⟩)] encS (KeepX Wr n₀) (stepsL t 0 xs l0) (fun r => r = bL) w := by
  intro lp J Jx W hW hJ _ hY h0
  have hcA := (hW.cell (p := ⟨bA, 0, none⟩) (by have := hA.1; show bA < _; omega)).trans cA
  have hcT := (hW.cell (p := ⟨bT, 0, none⟩) (by have := hT.1; show bT < _; omega)).trans cT
  have hcL := (hW.cell (p := ⟨bL, 0, none⟩) (by have := hL.1; show bL < _; omega)).trans cL
  have hfL := (hW.frozen (p := ⟨bL, 0, none⟩) (by have := hL.1; show bL < _; omega)).trans fL
  rcases Nat.eq_zero_or_pos xs.length with hz | hp
  · obtain rfl : xs = [] := List.eq_nil_of_length_eq_zero hz
    exact (steps_in_nil n lp bA bT bL A c J W hcA h0).mono fun e W' ⟨he, hj⟩ => ⟨he, .inl hj⟩
  · obtain ⟨ad, rfl, hb, hcell⟩ := hc hp
    exact steps_in n hn lp bA bT bL n₀ Wr t ad c xs l0 hmax hA hT hL hb J Jx W hJ hY hcA hcT hcL hfL
      (fun j hj => (hW.cell (p := ad.add j) (by rw [block_of_add']; have := hb.1; omega)).trans (hcell j hj)) h0
end Go.Proofs.Ytkhehmmdlnebnaa.H
