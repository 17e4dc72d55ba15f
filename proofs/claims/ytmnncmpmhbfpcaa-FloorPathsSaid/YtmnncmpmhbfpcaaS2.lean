/- The inner function of floor.spread: a cell that is open gets its distance, is shut, and joins the queue. -/
import Derived.Test.YtmnncmpmhbfpcaaS1
import Derived.RegionTactic
namespace Go.Proofs.Ytmnncmpmhbfpcaa.S
set_option linter.unusedVariables false
set_option linter.unusedSimpArgs false
open Go.RowKit Go.Proofs.YtmnncmpmhbfpcaaW.PrintWords Go.Proofs.YtmnncmpmhbfpcaaW.PrintLast Go.Proofs.YtmnncmpmhbfpcaaW.PrintMore
open Go.Proofs.Ytmnncmpmhbfpcaa.A Go.Proofs.Ytmnncmpmhbfpcaa.H

theorem tinfo3 : (Try.prog.info? 3).map (fun i => (i.zero, i.size, i.bytes)) = some (some (.int .i64 0), 1, 8) := by kernel_rfl

set_option maxHeartbeats 2000000 in
theorem reach_no (N : Names) (flr : Array Value) (n : Nat) (w W : World) (out : List Int) (opn : List Bool) (v : Value) (q : List Int) (c : Nat) (m : Int) (h : Sq N flr n w W out opn v q) (hc : c < n) (hn : n ≤ 1000000) (ho : opn[c]? = some false) :
    Calls Try.prog 87 #[.int .i64 c, .int .i64 m, .pointer (some ⟨N.gPb, 0, none⟩), .pointer (some ⟨N.gOb, 0, none⟩), .pointer (some ⟨N.gQb, 0, none⟩)] W fun e w' => e = .returned (.tuple #[]) ∧ W = w' := by
  have c1 := h.sp.pb.cell
  have c2 := h.sp.p.cell ho
  clear h ho
  go_enter Try.func87, Try.ntmps87
  go_wp2
  go_outline
  go_end0
  exact ⟨rfl, rfl⟩

theorem Kd.Q_slice' {α : Type} {d : Kd α} {e : Nat} {w : World} {base : Nat} {ok : Nat → Prop} {v : Value} {xs : List α} (h : d.Q e w base ok v xs) : ∃ A m c, v = .slice A m c := by
  obtain ⟨A, c, hv, _⟩ := Kd.Q_slice h
  exact ⟨A, _, c, hv⟩

/-- Behind the append: the queue's variable still holds the old row; the new one is stored into it. -/
theorem queue_end {N : Names} {flr : Array Value} {n : Nat} {w W w1 : World} {out : List Int} {opn : List Bool} {v v1 : Value} {q q1 : List Int} (h : Sq N flr n w W out opn v q)
    (hq1 : (Kd.int .i64).Q 3 w1 w.heap.size (fun k => k ≠ N.gO) v1 q1) (hb1 : Below w.heap.size w w1) (hg1 : W.grownBy w1 v.ownBlock) (hat1 : v1.ownBlock = v.ownBlock ∨ ∃ b, v1.ownBlock = some b ∧ W.heap.size ≤ b) :
    w1.cell? ⟨N.gQb, 0, none⟩ = some v ∧ w1.frozen? ⟨N.gQb, 0, none⟩ = false ∧ Sq N flr n w (w1.setCell ⟨N.gQb, 0, none⟩ v1) out opn v1 q1 := by
  have hlt := h.sp.lt
  have hb1' := h.sp.b1
  have hb2' := h.sp.b2
  have hb3' := h.sp.b3
  have hb4' := h.sp.b4
  have hb5' := h.sp.b5
  have ht := Kd.Q_typed h.q
  have ne : ∀ k o, W.heap[k]? = some o → (∀ cells, o ≠ Obj.cells cells 3 (0, 0)) → w1.heap[k]? = W.heap[k]? := fun k o ho hne => hg1.block k (Array.getElem?_eq_some_iff.1 ho).1 (fun e => by
    obtain ⟨cells, hc⟩ := ht k e.symm
    rw [ho] at hc
    injection hc with hc
    exact hne cells hc)
  have kF := ne N.gF _ h.sp.fb (fun cells e => by injection e with _ e2; cases e2)
  have kOb := ne N.gOb _ h.sp.ob (fun cells e => by injection e with _ e2; cases e2)
  have kP := ne N.gP _ h.sp.p (fun cells e => by injection e with _ e2; cases e2)
  have kPb := ne N.gPb _ h.sp.pb (fun cells e => by injection e with _ e2; cases e2)
  have kQ := ne N.gQb _ h.qb (fun cells e => by injection e with _ e2; cases e2)
  have kO : w1.heap[N.gO]? = W.heap[N.gO]? := hg1.block N.gO h.sp.o.lt (fun e => h.q.1 N.gO e.symm rfl)
  have hsp : Sp N flr n w w1 out opn := ⟨kF.trans h.sp.fb, h.sp.o.keep kO, kOb.trans h.sp.ob, h.sp.p.keep kP, kPb.trans h.sp.pb, h.sp.lo, h.sp.lp, hb1, h.sp.b1, h.sp.b2, h.sp.b3, h.sp.b4, h.sp.b5⟩
  have hqb : Boxed w1 N.gQb 22 v := kQ.trans h.qb
  exact ⟨hqb.cell, hqb.frozen, hsp.far (p := ⟨N.gQb, 0, none⟩) h.b6 v1, hqb.set v1, Kd.Q_set hq1 hqb (by decide) 0 v1, h.b6⟩

set_option maxHeartbeats 4000000 in
theorem reach_yes (N : Names) (flr : Array Value) (n : Nat) (w W : World) (out : List Int) (opn : List Bool) (v : Value) (q : List Int) (c : Nat) (m : Int) (h : Sq N flr n w W out opn v q) (hc : c < n) (hn : n ≤ 1000000) (hq : q.length ≤ 1000000) (ho : opn[c]? = some true) :
    Calls Try.prog 87 #[.int .i64 c, .int .i64 m, .pointer (some ⟨N.gPb, 0, none⟩), .pointer (some ⟨N.gOb, 0, none⟩), .pointer (some ⟨N.gQb, 0, none⟩)] W fun e w' => e = .returned (.tuple #[]) ∧ ∃ v', Sq N flr n w w' (out.set c m) (opn.set c false) v' (q ++ [(c : Int)]) := by
  have c1 := h.sp.pb.cell
  have c2 := h.sp.p.cell ho
  have c3 := h.sp.ob.cell
  have f2 := h.sp.p.frozen c
  obtain ⟨x, hx⟩ : ∃ x, out[c]? = some x := ⟨_, List.getElem?_eq_getElem (by rw [h.sp.lo]; exact hc)⟩
  have c4 := h.sp.o.cell hx
  have f4 := h.sp.o.frozen c
  have hne1 : N.gO ≠ N.gP := by have := h.sp.b3; have := h.sp.b4; omega
  have hne2 : N.gP ≠ N.gO := fun e => hne1 e.symm
  have hne3 : N.gOb ≠ N.gP := by have := h.sp.b4; omega
  have hne4 : N.gP ≠ N.gOb := fun e => hne3 e.symm
  have hne5 : N.gOb ≠ N.gO := by have := h.sp.b3; omega
  have hne6 : N.gO ≠ N.gOb := fun e => hne5 e.symm
  have hne7 : N.gPb ≠ N.gP := by have := h.sp.b5; omega
  have hne8 : N.gP ≠ N.gPb := fun e => hne7 e.symm
  have hne9 : N.gPb ≠ N.gO := by have := h.sp.b5; have := h.sp.b4; have := h.sp.b3; omega
  have hne10 : N.gO ≠ N.gPb := fun e => hne9 e.symm
  have HS := Lib.hid h
  clear h ho hx
  go_enter Try.func87, Try.ntmps87
  go_wp2
  go_region
  have hs2 := Lib.hid (((HS.out.setOpen c false).setOut c m).below (Below.refl _ _).drew)
  have cq := hs2.out.qb.cell
  have fq := hs2.out.qb.frozen
  clear c1 c2 c3 c4 f2 f4 hne1 hne2 hne3 hne4 hne5 hne6 hne7 hne8 hne9 hne10
  generalize ((W.setCell ⟨N.gP, c, none⟩ (.bool false)).setCell ⟨N.gO, c, none⟩ (.int .i64 m)).drew = W2 at hs2 cq fq ⊢
  have hlq := hs2.out.qb.lt
  go_wp2_with (first | (at_builtin; refine Kd.Q_append (Kd.int .i64) (w0 := w) w.heap.size rfl (.tmp 18) (.tmp 20) 22 3 (.int .i64 0) 8 rfl Try.underlying22 tinfo3 rfl (by decide) (by decide) v q (c : Int) [.int .i64 c] (fun k => k ≠ N.gO) (fun _ => False) rfl rfl ?hp ?hokp ?hfresh hs2.out.q hs2.out.sp.be ?hbase ?hl ?_; (case hp => rfl); (case hokp => intro k hk; exact hk.elim); (case hfresh => intro k hk e; have := hs2.out.sp.o.lt; omega); (case hbase => exact hs2.out.sp.be.size); (case hl => omega); intro v1 w1 hq1 hb1 hg1 hat1; have hfin := queue_end hs2.out hq1 hb1 hg1 hat1; obtain ⟨A1, m1, cc1, hv1⟩ := Kd.Q_slice' hq1; subst hv1; have cq1 := hfin.1; have fq1 := hfin.2.1; have HF := Lib.hid hfin.2.2; clear hfin hq1 hb1 hg1 hat1 cq fq))
  go_end0
  exact ⟨rfl, _, HF.out⟩
end Go.Proofs.Ytmnncmpmhbfpcaa.S
