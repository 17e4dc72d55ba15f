/- Contract of battery.Sum: what the iterator yields is summed. Conditions: each action is a number of the kind int. -/
import Derived.Test.YtkhehmmdlnebnaaH2
namespace Go.Proofs.Ytkhehmmdlnebnaa.H
set_option linter.unusedVariables false
set_option linter.unusedSimpArgs false
open Go.RowKit Go.Shelf Go.Proofs.YtkhehmmdlnebnaaW.PrintWords Go.Proofs.YtkhehmmdlnebnaaW.PrintLast Go.Proofs.YtkhehmmdlnebnaaW.PrintMore
open Go.Proofs.Ytkhehmmdlnebnaa.Seq
attribute [local go_sem] Oper.semAt_some

/-- The sum of the costs of steps, as Go reckons it. -/
def sumL : List Stp → Int := List.foldl (fun s x => wrap64 (s + costI x.1 x.2.1 x.2.2)) 0
theorem sumL_snoc (pre : List Stp) (x : Stp) : sumL (pre ++ [x]) = wrap64 (sumL pre + costI x.1 x.2.1 x.2.2) := by simp [sumL]
theorem stepsL_isI {t : Int} {xs : List Int} (hx : ∀ a ∈ xs, isI a) : ∀ (k : Nat) (l : Bool), ∀ x ∈ stepsL t k xs l, isI x.2.1 := by
  induction xs with
  | nil => intro k l x h; simp [stepsL] at h
  | cons a r ih =>
    intro k l x h
    simp only [stepsL, List.mem_cons] at h
    rcases h with rfl | h
    · exact hx a (by simp)
    · exact ih (fun b hb => hx b (by simp [hb])) (k + 1) _ x h

theorem reads_at {w : World} {A : Option Addr} {xs : List Int} (hr : Kd.C (Kd.int .i64) w A xs.length xs) (hp : 0 < xs.length) :
    ∃ ad : Addr, A = some ad ∧ ad.block < w.heap.size ∧ ∀ j, j < xs.length → w.cell? (ad.add j) = some (.int .i64 (xs[j]?.getD 0)) := by
  obtain ⟨_, _, h⟩ := Kd.reads_of_C (d := (0 : Int)) (h1 := fun _ => rfl) hr
  obtain ⟨ad, e, hc⟩ := h hp
  have hc' : ∀ j, j < xs.length → w.cell? (ad.add j) = some (.int .i64 (xs[j]?.getD 0)) := fun j hj => by rw [hc j hj]; simp [List.getD_eq_getElem?_getD]
  refine ⟨ad, e, ?_, hc'⟩
  have := World.block_lt_of_cell? w _ (hc' 0 hp)
  rwa [block_of_add'] at this

/-- A boxed struct of three. -/
def Box3 (W : World) (B : Nat) (x : Stp) : Prop := W.heap[B]? = some (.cells #[.int .i64 x.1, .int .i64 x.2.1, .bool x.2.2] 47)

/-- The world in which the loop begins: a variable's box, then the iterator's three. -/
theorem start_facts (w : World) (v : Value) (tv : TypeId) (t : Int) (A : Option Addr) (n c : Nat) (l0 : Bool) :
    Below w.heap.size w ((((w.alloc (.cells #[v] tv)).alloc (.cells #[.int .i64 t] 3)).alloc (.cells #[.slice A n c] 26)).alloc (.cells #[.bool l0] 4)) ∧
    Boxed ((((w.alloc (.cells #[v] tv)).alloc (.cells #[.int .i64 t] 3)).alloc (.cells #[.slice A n c] 26)).alloc (.cells #[.bool l0] 4)) w.heap.size tv v ∧
    ((((w.alloc (.cells #[v] tv)).alloc (.cells #[.int .i64 t] 3)).alloc (.cells #[.slice A n c] 26)).alloc (.cells #[.bool l0] 4)).cell? ⟨w.heap.size + 1 + 1, 0, none⟩ = some (.slice A n c) ∧
    ((((w.alloc (.cells #[v] tv)).alloc (.cells #[.int .i64 t] 3)).alloc (.cells #[.slice A n c] 26)).alloc (.cells #[.bool l0] 4)).cell? ⟨w.heap.size + 1, 0, none⟩ = some (.int .i64 t) ∧
    ((((w.alloc (.cells #[v] tv)).alloc (.cells #[.int .i64 t] 3)).alloc (.cells #[.slice A n c] 26)).alloc (.cells #[.bool l0] 4)).cell? ⟨w.heap.size + 1 + 2, 0, none⟩ = some (.bool l0) ∧
    ((((w.alloc (.cells #[v] tv)).alloc (.cells #[.int .i64 t] 3)).alloc (.cells #[.slice A n c] 26)).alloc (.cells #[.bool l0] 4)).frozen? ⟨w.heap.size + 1 + 2, 0, none⟩ = false ∧
    ((((w.alloc (.cells #[v] tv)).alloc (.cells #[.int .i64 t] 3)).alloc (.cells #[.slice A n c] 26)).alloc (.cells #[.bool l0] 4)).heap.size = w.heap.size + 4 := by
  have b1 := Boxed.new w tv v
  have b2 := Boxed.new (w.alloc (.cells #[v] tv)) 3 (.int .i64 t)
  have b3 := Boxed.new ((w.alloc (.cells #[v] tv)).alloc (.cells #[.int .i64 t] 3)) 26 (.slice A n c)
  have b4 := Boxed.new (((w.alloc (.cells #[v] tv)).alloc (.cells #[.int .i64 t] 3)).alloc (.cells #[.slice A n c] 26)) 4 (.bool l0)
  simp only [World.size_alloc] at b2 b3 b4
  exact ⟨((((Below.refl _ _).alloc (Nat.le_refl _) _).alloc (by simp) _).alloc (by simp; omega) _).alloc (by simp; omega) _, ((b1.alloc _).alloc _).alloc _,
    (b3.alloc _).cell, ((b2.alloc _).alloc _).cell, b4.cell, b4.frozen, by simp⟩

set_option maxRecDepth 100000 in
set_option maxHeartbeats 4000000 in
theorem sum_any (t : Int) (A : Option Addr) (c : Nat) (xs : List Int) (l0 : Bool) (hx : ∀ a ∈ xs, isI a) (w : World) (hr : Kd.C (Kd.int .i64) w A xs.length xs) :
    Calls Try.prog 13 #[.int .i64 t, .slice A xs.length c, .bool l0] w fun e w' => e = .returned (.int .i64 (sumL (stepsL t 0 xs l0))) ∧ Below w.heap.size w w' := by
  have hst := steps_any
  have HST := Lib.hid hst
  clear hst
  refine (callsIn_wide (n := 9)).1 ?_
  refine callsIn_of_wp_marks Try.func13 rfl trivial ?_ rfl
  simp only [Try.ntmps13, List.size_toArray, List.length_cons, List.length_nil, Nat.reduceAdd, Nat.reduceSub, Array.replicate_succ, Array.replicate_zero, List.push_toArray, List.append_toArray, List.nil_append, List.cons_append]
  gi_wp2_with (first | (refine ⟨trivial, ?_⟩; gi_at_call 29; refine (callsIn_wide.2 (HST.out _ _ _ _ _ _)).mono ?_; rintro e w' ⟨rfl, rfl⟩))
  obtain ⟨hB0, hbx, cA, cT, cL, fL, hsz⟩ := start_facts w (.int .i64 0) 3 t A xs.length c l0
  generalize ((((w.alloc (.cells #[.int .i64 0] 3)).alloc (.cells #[.int .i64 t] 3)).alloc (.cells #[.slice A xs.length c] 26)).alloc (.cells #[.bool l0] 4)) = W0 at *
  have hseq : SeqS Fence.wide 8 Try.prog 32 _ encS (KeepX (fun k => k = w.heap.size) (w.heap.size + 4)) (stepsL t 0 xs l0) (fun r => r = w.heap.size + 1 + 2) W0 :=
    steps_seq 8 (by omega) (w.heap.size + 1 + 1) (w.heap.size + 1) (w.heap.size + 1 + 2) (w.heap.size + 4) (fun k => k = w.heap.size) t A c xs l0 hr.2.1 W0 (by omega) ⟨by omega, by omega, by omega⟩ ⟨by omega, by omega, by omega⟩ ⟨by omega, by omega⟩
      cA cT cL fL (fun hp => by
        obtain ⟨ad, e, hb, hc⟩ := reads_at hr hp
        exact ⟨ad, e, ⟨by omega, by omega, by omega⟩, fun j hj => (hB0.cell (p := ad.add j) (by rw [block_of_add']; exact hb)).trans (hc j hj)⟩)
  refine wpIn_rangeFunc_S rfl (by omega) (gf := 32) (lb := #[.pointer (some ⟨w.heap.size + 1 + 1, 0, none⟩), .pointer (some ⟨w.heap.size + 1, 0, none⟩), .pointer (some ⟨w.heap.size + 1 + 2, 0, none⟩)]) rfl trivial (enters_of Try.func32 (by kernel_rfl) rfl)
    (St := fun r => r = w.heap.size + 1 + 2) (by intro r h; subst h; omega)
    hseq (fun h k => h.trans k) ?kb (Below.refl _ _) (fun _ => rfl)
    (fun pre W => Boxed W w.heap.size 3 (.int .i64 (sumL pre)) ∧ Below w.heap.size w W ∧ w.heap.size + 4 ≤ W.heap.size) (fun _ _ _ => False) ?abI (fun _ _ _ _ _ hs _ _ => hs) ⟨hbx, hB0, by omega⟩
    (fun x a' W => ∃ Bx, w.heap.size + 4 ≤ Bx ∧ Box3 W Bx x ∧ a' = { tmps := #[.int .i64 t, .slice A xs.length c, .bool l0, undef, undef, undef, .int .i64 0, .pointer (some ⟨w.heap.size, 0, none⟩), .pointer (some ⟨Bx, 0, none⟩), .int .i64 t, .slice A xs.length c, .bool l0,
          .func (.func 32) #[] #[.pointer (some ⟨w.heap.size + 1 + 1, 0, none⟩), .pointer (some ⟨w.heap.size + 1, 0, none⟩), .pointer (some ⟨w.heap.size + 1 + 2, 0, none⟩)],
          .agg #[.int .i64 x.1, .int .i64 x.2.1, .bool x.2.2], undef, undef, undef, undef, undef, undef, undef, undef, undef, undef], defers := [] }) ?ax ?assign ?body ?done ?stop
  case kb =>
    intro W l o o' hl h _ _
    exact ⟨by simp [World.putObj], fun k hk hw => World.putObj_heap_other (by omega)⟩
  case abI =>
    rintro s X Y row ⟨h1, h2, h4⟩ hg hrow
    have hgs := hg.size
    refine ⟨h1.kept hg (fun e => ?_), h2.grown hg h2.size (fun k e => ?_), by omega⟩
    · rcases hrow _ e.symm with h | ⟨h, _⟩
      · omega
      · omega
    · rcases hrow _ e with h | ⟨h, _⟩
      · omega
      · omega
  case ax =>
    rintro x a' s X Y row ⟨Bx, hb, h3, rfl⟩ hg hrow
    refine ⟨Bx, hb, ?_, rfl⟩
    refine (hg.block Bx (Array.getElem?_eq_some_iff.1 h3).1 (fun e => ?_)).trans h3
    obtain ⟨_, o, ho, hc⟩ := hrow _ e.symm
    rw [h3] at ho
    cases ho
    cases hc
  case assign =>
    rintro l pre x W K ⟨h1, h2, h4⟩ hK
    simp only [encS]
    gi_wp2
    exact hK _ _ ((KeepsOthers.alloc _ _).from _) ((KeepX.refl _ _ _).alloc h4 _) ⟨h1.alloc _, h2.alloc h2.size _, by simp; omega⟩ ⟨W.heap.size, h4, World.alloc_heap_new W _, rfl⟩
  case body =>
    rintro l pre x a' W hl ⟨r, hrl⟩ ⟨h1, h2, h4⟩ ⟨Bx, hb, h3, rfl⟩ hpre
    have hxi : isI x.2.1 := stepsL_isI hx 0 l0 x (by obtain ⟨z, hz⟩ := hpre; rw [← hz]; simp)
    have hmx : Try.prog.follows .mixedOrders = true := by kernel_rfl
    have hcost := cost_any x.1 x.2.1 x.2.2 hxi
    have HCO := Lib.hid hcost
    have hc1 := h1.cell
    have hf1 := h1.frozen
    have hx0 : W.cell? ⟨Bx, 0, none⟩ = some (.int .i64 x.1) := by simp [World.cell?, show W.heap[Bx]? = _ from h3]
    have hx1 : W.cell? ⟨Bx, 1, none⟩ = some (.int .i64 x.2.1) := by simp [World.cell?, show W.heap[Bx]? = _ from h3]
    have hx2 : W.cell? ⟨Bx, 2, none⟩ = some (.bool x.2.2) := by simp [World.cell?, show W.heap[Bx]? = _ from h3]
    clear hcost cA cT cL fL hseq hbx hB0 hpre hrl
    gi_wp2
    refine wpIn_region_still_tail 9 hmx (by kernel_rfl) (by kernel_rfl) ?hq ?_
    case hq => exact fun a w h => h
    simp only [List.take_succ_cons, List.take_zero, List.drop_succ_cons, List.drop_zero]
    repeat still_step
    still_call ((HCO.out _).mono fun e w' ⟨he, hw⟩ => ⟨he, hw.symm⟩)
    repeat still_step
    refine wpStill_nil ?_
    go_wp2
    refine ⟨((KeepsOthers.setCell _ _ _).trans (KeepsOthers.drew _)).from _, ((KeepX.refl (fun k => k = w.heap.size) _ _).setCell (p := ⟨w.heap.size, 0, none⟩) rfl _).drew, ?_, (h2.setCell (p := ⟨w.heap.size, 0, none⟩) (Nat.le_refl _) _).drew, ?_⟩
    · rw [sumL_snoc]
      exact h1.set _
    · show _ ≤ (World.setCell _ _ _).heap.size
      simpa [World.setCell] using h4
  case done =>
    rintro D W hD ⟨h1, h2, h4⟩ hK
    have hc1 := h1.cell
    gi_wp2
    refine ⟨by simp, .inl ⟨_, _, rfl, run_takeDeferred hK, ?_⟩⟩
    exact ⟨_, results_tmp rfl _ _ _, rfl, h2.trans (belowK_b (w := w) (Nat.le_refl _) W D _ _ (by omega) hK rfl rfl)⟩
  case stop =>
    rintro D c pre W _ _ h _
    exact h.elim
end Go.Proofs.Ytkhehmmdlnebnaa.H
