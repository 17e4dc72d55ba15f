/- The memory of floor.spread: the rows of distances and of open cells, the variables that the inner function captures, the queue. -/
import Derived.Test.YtmnncmpmhbfpcaaH3
import Derived.RangeFuncBox
namespace Go.Proofs.Ytmnncmpmhbfpcaa.S
set_option linter.unusedVariables false
set_option linter.unusedSimpArgs false
open Go.RowKit Go.Proofs.YtmnncmpmhbfpcaaW.PrintWords Go.Proofs.YtmnncmpmhbfpcaaW.PrintLast Go.Proofs.YtmnncmpmhbfpcaaW.PrintMore
open Go.Proofs.Ytmnncmpmhbfpcaa.A Go.Proofs.Ytmnncmpmhbfpcaa.H

/-- A row of elements of one cell, a block of its own. -/
def Row1 {α : Type} (enc : α → Value) (t : Nat) (W : World) (g : Nat) (xs : List α) : Prop := W.heap[g]? = some (.cells (xs.map enc).toArray t (0, 0))
section
variable {α : Type} {enc : α → Value} {t : Nat} {W W1 : World} {g : Nat} {xs : List α}
theorem Row1.lt (h : Row1 enc t W g xs) : g < W.heap.size := (Array.getElem?_eq_some_iff.1 h).1
theorem Row1.keep (h : Row1 enc t W g xs) (hk : W1.heap[g]? = W.heap[g]?) : Row1 enc t W1 g xs := hk.trans h
theorem Row1.below {B : Nat} (h : Row1 enc t W g xs) (hb : Below B W W1) (hg : g < B) : Row1 enc t W1 g xs := h.keep (hb.block g hg)
theorem Row1.cell (h : Row1 enc t W g xs) {i : Nat} {x : α} (hi : xs[i]? = some x) : W.cell? ⟨g, i, none⟩ = some (enc x) := by
  rw [cell_of_row W g i _ t (0, 0) h]
  simp [hi]
theorem Row1.frozen (h : Row1 enc t W g xs) (i : Nat) : W.frozen? ⟨g, i, none⟩ = false := frozen_of_row W g i _ t h
theorem Row1.set (h : Row1 enc t W g xs) (i : Nat) (x : α) : Row1 enc t (W.setCell ⟨g, i, none⟩ (enc x)) g (xs.set i x) := by
  unfold Row1 at *
  rw [heap_setCell_same W g i _ t _ h]
  simp [List.map_set]
theorem Row1.far (h : Row1 enc t W g xs) {p : Addr} (hp : g ≠ p.block) (u : Value) : Row1 enc t (W.setCell p u) g xs := h.keep (Below.heap_setCell W p u g hp)
end
abbrev RowI := Row1 (Value.int .i64) 3
abbrev RowB := Row1 Value.bool 4

structure Names where
  gF : Nat
  gO : Nat
  gOb : Nat
  gP : Nat
  gPb : Nat
  gQb : Nat

structure Sp (N : Names) (flr : Array Value) (n : Nat) (w W : World) (out : List Int) (opn : List Bool) : Prop where
  fb : FBox W N.gF flr
  o : RowI W N.gO out
  ob : Boxed W N.gOb 22 (.slice (some ⟨N.gO, 0, none⟩) n n)
  p : RowB W N.gP opn
  pb : Boxed W N.gPb 73 (.slice (some ⟨N.gP, 0, none⟩) n n)
  lo : out.length = n
  lp : opn.length = n
  be : Below w.heap.size w W
  b1 : w.heap.size ≤ N.gF
  b2 : N.gF < N.gO
  b3 : N.gO < N.gOb
  b4 : N.gOb < N.gP
  b5 : N.gP < N.gPb

section
variable {N : Names} {flr : Array Value} {n : Nat} {w W W1 : World} {out : List Int} {opn : List Bool}
theorem Sp.keep (h : Sp N flr n w W out opn) (hb : Below w.heap.size w W1) (hk : ∀ k, k ≤ N.gPb → w.heap.size ≤ k → W1.heap[k]? = W.heap[k]?) : Sp N flr n w W1 out opn :=
  have b1 := h.b1
  have b2 := h.b2
  have b3 := h.b3
  have b4 := h.b4
  have b5 := h.b5
  ⟨(hk _ (by omega) (by omega)).trans h.fb, h.o.keep (hk _ (by omega) (by omega)), (hk _ (by omega) (by omega)).trans h.ob, h.p.keep (hk _ (by omega) (by omega)), (hk _ (by omega) (by omega)).trans h.pb, h.lo, h.lp, hb, h.b1, h.b2, h.b3, h.b4, h.b5⟩
theorem Sp.lt (h : Sp N flr n w W out opn) : N.gPb < W.heap.size := h.pb.lt
theorem Sp.below (h : Sp N flr n w W out opn) (hb : Below W.heap.size W W1) : Sp N flr n w W1 out opn :=
  h.keep (h.be.trans (hb.mono h.be.size)) (fun k hk _ => hb.block k (by have := h.lt; omega))
theorem Sp.setOut (h : Sp N flr n w W out opn) (i : Nat) (x : Int) : Sp N flr n w (W.setCell ⟨N.gO, i, none⟩ (.int .i64 x)) (out.set i x) opn :=
  have b1 := h.b1
  have b2 := h.b2
  have b3 := h.b3
  have b4 := h.b4
  have b5 := h.b5
  have far : ∀ k, k ≠ N.gO → (W.setCell ⟨N.gO, i, none⟩ (.int .i64 x)).heap[k]? = W.heap[k]? := fun k hk => Below.heap_setCell W _ _ k hk
  ⟨(far _ (by omega)).trans h.fb, h.o.set i x, (far _ (by omega)).trans h.ob, h.p.keep (far _ (by omega)), (far _ (by omega)).trans h.pb, by rw [List.length_set]; exact h.lo, h.lp, h.be.setCell (p := ⟨N.gO, i, none⟩) (by show _ ≤ N.gO; omega) _, h.b1, h.b2, h.b3, h.b4, h.b5⟩
theorem Sp.setOpen (h : Sp N flr n w W out opn) (i : Nat) (x : Bool) : Sp N flr n w (W.setCell ⟨N.gP, i, none⟩ (.bool x)) out (opn.set i x) :=
  have b1 := h.b1
  have b2 := h.b2
  have b3 := h.b3
  have b4 := h.b4
  have b5 := h.b5
  have far : ∀ k, k ≠ N.gP → (W.setCell ⟨N.gP, i, none⟩ (.bool x)).heap[k]? = W.heap[k]? := fun k hk => Below.heap_setCell W _ _ k hk
  ⟨(far _ (by omega)).trans h.fb, h.o.keep (far _ (by omega)), (far _ (by omega)).trans h.ob, h.p.set i x, (far _ (by omega)).trans h.pb, h.lo, by rw [List.length_set]; exact h.lp, h.be.setCell (p := ⟨N.gP, i, none⟩) (by show _ ≤ N.gP; omega) _, h.b1, h.b2, h.b3, h.b4, h.b5⟩
theorem Sp.far (h : Sp N flr n w W out opn) {p : Addr} (hp : N.gPb < p.block) (u : Value) : Sp N flr n w (W.setCell p u) out opn :=
  h.keep (h.be.setCell (p := p) (by have := h.b1; have := h.b2; have := h.b3; have := h.b4; have := h.b5; omega) u) (fun k hk _ => Below.heap_setCell W p u k (by omega))

/-- With the queue: its variable's box, and its row. -/
structure Sq (N : Names) (flr : Array Value) (n : Nat) (w W : World) (out : List Int) (opn : List Bool) (v : Value) (q : List Int) : Prop where
  sp : Sp N flr n w W out opn
  qb : Boxed W N.gQb 22 v
  q : (Kd.int .i64).Q 3 W w.heap.size (fun k => k ≠ N.gO) v q
  b6 : N.gPb < N.gQb
variable {v : Value} {q : List Int}
theorem Sq.below (h : Sq N flr n w W out opn v q) (hb : Below W.heap.size W W1) : Sq N flr n w W1 out opn v q :=
  ⟨h.sp.below hb, (hb.block _ h.qb.lt).trans h.qb, Kd.Q_below h.q hb, h.b6⟩
theorem Sq.setOut (h : Sq N flr n w W out opn v q) (i : Nat) (x : Int) : Sq N flr n w (W.setCell ⟨N.gO, i, none⟩ (.int .i64 x)) (out.set i x) opn v q :=
  have b6 := h.b6
  have b5 := h.sp.b5
  have b4 := h.sp.b4
  have b3 := h.sp.b3
  ⟨h.sp.setOut i x, (Below.heap_setCell W _ _ _ (by show N.gQb ≠ N.gO; omega)).trans h.qb, Kd.Q_far h.q (fun k hk => hk) _, h.b6⟩
theorem Sq.setOpen (h : Sq N flr n w W out opn v q) (i : Nat) (x : Bool) : Sq N flr n w (W.setCell ⟨N.gP, i, none⟩ (.bool x)) out (opn.set i x) v q :=
  have b6 := h.b6
  have b5 := h.sp.b5
  ⟨h.sp.setOpen i x, (Below.heap_setCell W _ _ _ (by show N.gQb ≠ N.gP; omega)).trans h.qb, Kd.Q_set h.q h.sp.p (by decide) i _, h.b6⟩
end
end Go.Proofs.Ytmnncmpmhbfpcaa.S
