/- Contract of battery.Run: the acts are done as long as the charge is enough. Conditions: each action is a number of the kind int. -/
import Derived.Test.YtkhehmmdlnebnaaH3
namespace Go.Proofs.Ytkhehmmdlnebnaa.H
set_option linter.unusedVariables false
set_option linter.unusedSimpArgs false
open Go.RowKit Go.Shelf Go.Proofs.YtkhehmmdlnebnaaW.PrintWords Go.Proofs.YtkhehmmdlnebnaaW.PrintLast Go.Proofs.YtkhehmmdlnebnaaW.PrintMore
open Go.Proofs.Ytkhehmmdlnebnaa.Seq
attribute [local go_sem] Oper.semAt_some

/-- What is left of a charge after steps, and how many were done. -/
def runL : List Stp → Int → Int → Int × Int
  | [], c, d => (c, d)
  | x :: r, c, d => if (afterI x.1 c x.2.1 x.2.2).2 = 0 then runL r (afterI x.1 c x.2.1 x.2.2).1 (wrap64 (d + 1)) else (c, d)

theorem start_facts2 (w : World) (v u : Value) (tv tu : TypeId) (t : Int) (A : Option Addr) (n c : Nat) (l0 : Bool) (W0 : World)
    (h0 : W0 = (((((w.alloc (.cells #[v] tv)).alloc (.cells #[u] tu)).alloc (.cells #[.int .i64 t] 3)).alloc (.cells #[.slice A n c] 26)).alloc (.cells #[.bool l0] 4))) :
    Below w.heap.size w W0 ∧ Boxed W0 w.heap.size tv v ∧ Boxed W0 (w.heap.size + 1) tu u ∧
    W0.cell? ⟨w.heap.size + 1 + 1 + 1, 0, none⟩ = some (.slice A n c) ∧ W0.cell? ⟨w.heap.size + 1 + 1, 0, none⟩ = some (.int .i64 t) ∧
    W0.cell? ⟨w.heap.size + 1 + 1 + 2, 0, none⟩ = some (.bool l0) ∧ W0.frozen? ⟨w.heap.size + 1 + 1 + 2, 0, none⟩ = false ∧ W0.heap.size = w.heap.size + 5 := by
  have b1 := Boxed.new w tv v
  obtain ⟨a1, a2, a3, a4, a5, a6, a7⟩ := start_facts (w.alloc (.cells #[v] tv)) u tu t A n c l0
  subst h0
  simp only [World.size_alloc] at a1 a2 a3 a4 a5 a6 a7
  exact ⟨((Below.refl _ _).alloc (Nat.le_refl _) _).trans (a1.mono (by omega)), ((((b1.alloc _).alloc _).alloc _).alloc _), a2, a3, a4, a5, a6, by simp⟩

/-- What stands at Run's end. -/
theorem run_end {full : List Stp} {c0 cv dv : Int} {w W W0 : World} {D : Nat} {T : Array Value} (HFIN : Hid (runL full c0 0 = (cv, dv))) (h2 : Boxed W (w.heap.size + 1) 3 (.int .i64 dv)) (h4 : Below w.heap.size w W) (hD : W0.heap.size ≤ D) (hsz : W0.heap.size = w.heap.size + 5)
    (hK : W.heap[D]? = some (.deferred (some []))) (hT8 : T[8]?.getD undef = .int .i64 cv := by rfl) (hT9 : T[9]?.getD undef = .pointer (some ⟨w.heap.size + 1, 0, none⟩) := by rfl) :
    bodyPostM Fence.wide 9 Try.prog Try.f12 (fun e w' => e = .returned (.tuple #[.int .i64 (runL full c0 0).1, .int .i64 (runL full c0 0).2]) ∧ Below w.heap.size w w') .ret
      { tmps := T, defers := [{ target := .collected D, args := #[] }] } (W.setCell ⟨w.heap.size + 1, 0, none⟩ (.int .i64 dv)).drew := by
  have hK2 : (W.setCell ⟨w.heap.size + 1, 0, none⟩ (.int .i64 dv)).drew.heap[D]? = some (.deferred (some [])) := (KeepsOthers.setCell W ⟨w.heap.size + 1, 0, none⟩ (.int .i64 dv)).same D _ hK rfl
  have hb2 : Boxed (W.setCell ⟨w.heap.size + 1, 0, none⟩ (.int .i64 dv)).drew (w.heap.size + 1) 3 (.int .i64 dv) := h2.set _
  have hb3 := hb2.kept (grownBy_putObj' _ D (.deferred none)) (by intro e; cases e; omega)
  have hbe : Below w.heap.size w (W.setCell ⟨w.heap.size + 1, 0, none⟩ (.int .i64 dv)).drew := (h4.setCell (p := ⟨w.heap.size + 1, 0, none⟩) (by simp) _).drew
  have hcell := hb3.cell
  refine ⟨by simp, .inl ⟨_, _, rfl, run_takeDeferred hK2, ?_⟩⟩
  refine ⟨.tuple #[.int .i64 cv, .int .i64 dv], ?_, by rw [HFIN.out], hbe.trans (belowK_b (w := w) (Nat.le_refl _) _ D _ _ (by omega) hK2 rfl rfl)⟩
  simp only [results, Try.results12]
  simp [go_sem, hcell, hT8, hT9]

set_option maxRecDepth 100000 in
set_option maxHeartbeats 4000000 in
theorem run_any (t c0 : Int) (A : Option Addr) (c : Nat) (xs : List Int) (l0 : Bool) (hx : ∀ a ∈ xs, isI a) (w : World) (hr : Kd.C (Kd.int .i64) w A xs.length xs) :
    Calls Try.prog 12 #[.int .i64 t, .int .i64 c0, .slice A xs.length c, .bool l0] w fun e w' =>
      e = .returned (.tuple #[.int .i64 (runL (stepsL t 0 xs l0) c0 0).1, .int .i64 (runL (stepsL t 0 xs l0) c0 0).2]) ∧ Below w.heap.size w w' := by
  have hst := steps_any
  have HST := Lib.hid hst
  clear hst
  refine (callsIn_wide (n := 9)).1 ?_
  refine callsIn_of_wp_marks Try.func12 rfl trivial ?_ rfl
  simp only [Try.ntmps12, List.size_toArray, List.length_cons, List.length_nil, Nat.reduceAdd, Nat.reduceSub, Array.replicate_succ, Array.replicate_zero, List.push_toArray, List.append_toArray, List.nil_append, List.cons_append]
  gi_wp2_with (first | (refine ⟨trivial, ?_⟩; gi_at_call 29; refine (callsIn_wide.2 (HST.out _ _ _ _ _ _)).mono ?_; rintro e w' ⟨rfl, rfl⟩))
  obtain ⟨hB0, hbx, hby, cA, cT, cL, fL, hsz⟩ := start_facts2 w (.int .i64 c0) (.int .i64 0) 3 3 t A xs.length c l0 _ rfl
  generalize ((((w.alloc (.cells #[.int .i64 c0] 3)).alloc (.cells #[.int .i64 0] 3)).alloc (.cells #[.int .i64 t] 3)).alloc (.cells #[.slice A xs.length c] 26)).alloc (.cells #[.bool l0] 4) = W0 at *
  have hseq : SeqS Fence.wide 8 Try.prog 32 _ encS (KeepX (fun k => k = w.heap.size ∨ k = w.heap.size + 1) (w.heap.size + 5)) (stepsL t 0 xs l0) (fun r => r = w.heap.size + 1 + 1 + 2) W0 :=
    steps_seq 8 (by omega) (w.heap.size + 1 + 1 + 1) (w.heap.size + 1 + 1) (w.heap.size + 1 + 1 + 2) (w.heap.size + 5) (fun k => k = w.heap.size ∨ k = w.heap.size + 1) t A c xs l0 hr.2.1 W0 (by omega) ⟨by omega, by omega, by omega⟩ ⟨by omega, by omega, by omega⟩ ⟨by omega, by omega⟩
      cA cT cL fL (fun hp => by
        obtain ⟨ad, e, hb, hc⟩ := reads_at hr hp
        exact ⟨ad, e, ⟨by omega, by omega, by omega⟩, fun j hj => (hB0.cell (p := ad.add j) (by rw [block_of_add']; exact hb)).trans (hc j hj)⟩)
  refine wpIn_rangeFunc_S rfl (by omega) (gf := 32) (lb := #[.pointer (some ⟨w.heap.size + 1 + 1 + 1, 0, none⟩), .pointer (some ⟨w.heap.size + 1 + 1, 0, none⟩), .pointer (some ⟨w.heap.size + 1 + 1 + 2, 0, none⟩)]) rfl trivial (enters_of Try.func32 (by kernel_rfl) rfl)
    (St := fun r => r = w.heap.size + 1 + 1 + 2) (by intro r h; subst h; omega)
    hseq (fun h k => h.trans k) ?kb (Below.refl _ _) (fun _ => rfl)
    (fun pre W => ∃ cv dv, Boxed W w.heap.size 3 (.int .i64 cv) ∧ Boxed W (w.heap.size + 1) 3 (.int .i64 dv) ∧ (∀ r, runL (pre ++ r) c0 0 = runL r cv dv) ∧ Below w.heap.size w W ∧ w.heap.size + 5 ≤ W.heap.size)
    (fun cd pre W => cd = .exit 0 ∧ ∃ cv dv, Boxed W w.heap.size 3 (.int .i64 cv) ∧ Boxed W (w.heap.size + 1) 3 (.int .i64 dv) ∧ (∀ r, runL (pre ++ r) c0 0 = (cv, dv)) ∧ Below w.heap.size w W) ?abI ?abX ⟨c0, 0, hbx, hby, fun r => rfl, hB0, by omega⟩
    (fun x a' W => ∃ Bx, w.heap.size + 5 ≤ Bx ∧ Box3 W Bx x ∧ a' = { tmps := #[.int .i64 t, .int .i64 c0, .slice A xs.length c, .bool l0, undef, .pointer (some ⟨w.heap.size, 0, none⟩), undef, undef, .int .i64 0, .pointer (some ⟨w.heap.size + 1, 0, none⟩), .pointer (some ⟨Bx, 0, none⟩), undef, undef, .int .i64 t, .slice A xs.length c, .bool l0,
          .func (.func 32) #[] #[.pointer (some ⟨w.heap.size + 1 + 1 + 1, 0, none⟩), .pointer (some ⟨w.heap.size + 1 + 1, 0, none⟩), .pointer (some ⟨w.heap.size + 1 + 1 + 2, 0, none⟩)],
          .agg #[.int .i64 x.1, .int .i64 x.2.1, .bool x.2.2], undef, undef, undef, undef, undef, undef, undef, undef, undef, undef, undef, undef, undef, undef, undef, undef, undef, undef], defers := [] }) ?ax ?assign ?body ?done ?stop
  case kb =>
    intro W l o o' hl h _ _
    exact ⟨by simp [World.putObj], fun k hk hw => World.putObj_heap_other (by omega)⟩
  case abI =>
    rintro s X Y row ⟨cv, dv, h1, h2, h3, h4, h5⟩ hg hrow
    have hgs := hg.size
    have hne : ∀ k, row = some k → w.heap.size + 1 < k := fun k e => by
      rcases hrow _ e with h | ⟨h, _⟩ <;> omega
    exact ⟨cv, dv, h1.kept hg (fun e => by have := hne _ e.symm; omega), h2.kept hg (fun e => by have := hne _ e.symm; omega), h3, h4.grown hg h4.size (fun k e => by have := hne _ e; omega), by omega⟩
  case abX =>
    rintro cd s X Y row ⟨hcd, cv, dv, h1, h2, h3, h4⟩ hg hrow
    have hgs := hg.size
    have hne : ∀ k, row = some k → w.heap.size + 1 < k := fun k e => by
      rcases hrow _ e with h | ⟨h, _⟩ <;> omega
    exact ⟨hcd, cv, dv, h1.kept hg (fun e => by have := hne _ e.symm; omega), h2.kept hg (fun e => by have := hne _ e.symm; omega), h3, h4.grown hg h4.size (fun k e => by have := hne _ e; omega)⟩
  case ax =>
    rintro x a' s X Y row ⟨Bx, hb, h3, rfl⟩ hg hrow
    refine ⟨Bx, hb, ?_, rfl⟩
    refine (hg.block Bx (Array.getElem?_eq_some_iff.1 h3).1 (fun e => ?_)).trans h3
    obtain ⟨_, o, ho, hc⟩ := hrow _ e.symm
    rw [h3] at ho
    cases ho
    cases hc
  case assign =>
    rintro l pre x W K ⟨cv, dv, h1, h2, h3, h4, h5⟩ hK
    simp only [encS]
    gi_wp2
    exact hK _ _ ((KeepsOthers.alloc _ _).from _) ((KeepX.refl _ _ _).alloc h5 _) ⟨cv, dv, h1.alloc _, h2.alloc _, h3, h4.alloc h4.size _, by simp; omega⟩ ⟨W.heap.size, h5, World.alloc_heap_new W _, rfl⟩
  case body =>
    rintro l pre x a' W hl ⟨r, hrl⟩ ⟨cv, dv, h1, h2, hrun, h4, h5⟩ ⟨Bx, hb, h3, rfl⟩ hpre
    have hxi : isI x.2.1 := stepsL_isI hx 0 l0 x (by obtain ⟨z, hz⟩ := hpre; rw [← hz]; simp)
    have haft := after_any x.1 cv x.2.1 x.2.2 hxi
    have hne : w.heap.size ≠ w.heap.size + 1 := by omega
    have hc1 := h1.cell
    have hf1 := h1.frozen
    have hc2 := h2.cell
    have hf2 := h2.frozen
    have hx0 : W.cell? ⟨Bx, 0, none⟩ = some (.int .i64 x.1) := by simp [World.cell?, show W.heap[Bx]? = _ from h3]
    have hx1 : W.cell? ⟨Bx, 1, none⟩ = some (.int .i64 x.2.1) := by simp [World.cell?, show W.heap[Bx]? = _ from h3]
    have hx2 : W.cell? ⟨Bx, 2, none⟩ = some (.bool x.2.2) := by simp [World.cell?, show W.heap[Bx]? = _ from h3]
    have hone : ∀ r, runL (pre ++ [x] ++ r) c0 0 = if (afterI x.1 cv x.2.1 x.2.2).2 = 0 then runL r (afterI x.1 cv x.2.1 x.2.2).1 (wrap64 (dv + 1)) else (cv, dv) := fun r => by
      rw [List.append_assoc, hrun]
      rfl
    generalize afterI x.1 cv x.2.1 x.2.2 = p at haft hone
    obtain ⟨p1, p2⟩ := p
    dsimp only at haft hone
    have HAF := Lib.hid haft
    have HONE := Lib.hid hone
    clear haft hone hrun cA cT cL fL hseq hbx hby hB0 hpre hrl
    by_cases hp : p2 = 0
    · subst hp
      gi_wp2_with (first | (refine ⟨trivial, ?_⟩; gi_at_call 16; refine (CallsIn.inRound l (callsIn_wide.2 (HAF.out _))).mono ?_; rintro e w' ⟨rfl, rfl⟩))
      refine ⟨((KeepsOthers.setCell _ _ _).trans (KeepsOthers.setCell _ _ _)).from _,
        ((KeepX.refl (fun k => k = w.heap.size ∨ k = w.heap.size + 1) _ _).setCell (p := ⟨w.heap.size, 0, none⟩) (.inl rfl) _).setCell (p := ⟨w.heap.size + 1, 0, none⟩) (.inr rfl) _,
        p1, wrap64 (dv + 1), (h1.set _).other hne _, (h2.other hne.symm _).set _, fun r => by rw [HONE.out, if_pos trivial], (h4.setCell (p := ⟨w.heap.size, 0, none⟩) (Nat.le_refl _) _).setCell (p := ⟨w.heap.size + 1, 0, none⟩) (by simp) _, ?_⟩
      show _ ≤ (World.setCell _ _ _).heap.size
      simpa [World.setCell] using h5
    · have hpb : (p2 != 0) = true := bne_iff_ne.2 hp
      have hone : ∀ r, runL (pre ++ [x] ++ r) c0 0 = (cv, dv) := fun r => by rw [HONE.out, if_neg hp]
      have HONE2 := Lib.hid hone
      clear hone hp HONE
      gi_wp2_with (first | (refine ⟨trivial, ?_⟩; gi_at_call 16; refine (CallsIn.inRound l (callsIn_wide.2 (HAF.out _))).mono ?_; rintro e w' ⟨rfl, rfl⟩))
      exact ⟨(KeepsOthers.refl _).from _, rfl, cv, dv, h1, h2, HONE2.out, h4⟩
  case done =>
    rintro D W hD ⟨cv, dv, h1, h2, h3, h4, h5⟩ hK
    have hfin : runL (stepsL t 0 xs l0) c0 0 = (cv, dv) := by
      have := h3 []
      rw [List.append_nil] at this
      exact this
    have HFIN := Lib.hid hfin
    have hc1 := h1.cell
    have hf1 := h1.frozen
    have hc2 := h2.cell
    have hf2 := h2.frozen
    clear hfin h3 cA cT cL fL hseq hbx hby
    have hmx : Try.prog.follows .mixedOrders = true := by kernel_rfl
    gi_wp2
    gi_region
    all_goals gi_wp2
    exact run_end HFIN h2 h4 hD hsz hK
  case stop =>
    rintro D cd pre W hD hpre ⟨rfl, cv, dv, h1, h2, h3, h4⟩ hK
    have hfin : runL (stepsL t 0 xs l0) c0 0 = (cv, dv) := by
      obtain ⟨r, hr⟩ := hpre
      rw [← hr]
      exact h3 r
    have HFIN := Lib.hid hfin
    have hc1 := h1.cell
    have hf1 := h1.frozen
    have hc2 := h2.cell
    have hf2 := h2.frozen
    clear hfin h3 cA cT cL fL hseq hbx hby hpre
    have hmx : Try.prog.follows .mixedOrders = true := by kernel_rfl
    gi_wp2
    gi_region
    all_goals gi_wp2
    exact run_end HFIN h2 h4 hD hsz hK
end Go.Proofs.Ytkhehmmdlnebnaa.H
