/- floor.spread as a plain function, and what its memory is before its first loop. -/
import Derived.Test.YtmnncmpmhbfpcaaS2
import Derived.Deep.CutBlock
import Derived.Deep.DeepCutAuto
namespace Go.Proofs.Ytmnncmpmhbfpcaa.S
set_option linter.unusedVariables false
set_option linter.unusedSimpArgs false
open Go.RowKit Go.Proofs.YtmnncmpmhbfpcaaW.PrintWords Go.Proofs.YtmnncmpmhbfpcaaW.PrintLast Go.Proofs.YtmnncmpmhbfpcaaW.PrintMore
open Go.Proofs.Ytmnncmpmhbfpcaa.A Go.Proofs.Ytmnncmpmhbfpcaa.H

/-- Distances, open cells, the queue. -/
abbrev St := List Int × List Bool × List Int
def reachP (c : Nat) (m : Int) (s : St) : St := if s.2.1[c]? = some true then (s.1.set c m, s.2.1.set c false, s.2.2 ++ [(c : Int)]) else s
def openP (K : List Int) : List Bool := K.map fun k => k != 0
def avoidP (n : Nat) (opn : List Bool) (avoid : List Int) : List Bool := avoid.foldl (fun o (c : Int) => if 0 ≤ c ∧ c < (n : Int) then o.set c.toNat false else o) opn
def fromP (n : Nat) (s : St) (from_ : List Int) : St := from_.foldl (fun s (c : Int) => if 0 ≤ c ∧ c < (n : Int) then reachP c.toNat 0 s else s) s
def dirsP (MV : Int → Int → Option (Int × Bool)) (n : Nat) (c : Int) : Nat → Nat → St → Option St
  | 0, _, s => some s
  | m + 1, d, s => (MV c d).bind fun p => if p.2 = true then (if 0 ≤ p.1 ∧ p.1 < (n : Int) then dirsP MV n c m (d + 1) (reachP p.1.toNat (wrap64 (s.1.getD c.toNat 0 + 1)) s) else none) else dirsP MV n c m (d + 1) s
def bfsP (MV : Int → Int → Option (Int × Bool)) (n : Nat) : Nat → St → Option (List Int)
  | 0, _ => none
  | k + 1, s => match s.2.2 with
    | [] => some s.1
    | c :: q => (dirsP MV n c 6 0 (s.1, s.2.1, q)).bind (bfsP MV n k)
def spreadP (MV : Int → Int → Option (Int × Bool)) (k n : Nat) (K from_ avoid : List Int) : Option (List Int) :=
  bfsP MV n k (fromP n (List.replicate n 0 |>.map (fun _ => (-1 : Int)), avoidP n (openP K) avoid, []) from_)

theorem block_of_add' (p : Addr) (j : Nat) : (p.add j).block = p.block := by unfold Addr.add; split <;> rfl
theorem reads_at {w : World} {A : Option Addr} {xs : List Int} (hr : Kd.C (Kd.int .i64) w A xs.length xs) (hp : 0 < xs.length) :
    ∃ ad : Addr, A = some ad ∧ ad.block < w.heap.size ∧ ∀ j, j < xs.length → w.cell? (ad.add j) = some (.int .i64 (xs[j]?.getD 0)) := by
  obtain ⟨_, _, h⟩ := Kd.reads_of_C (d := (0 : Int)) (h1 := fun _ => rfl) hr
  obtain ⟨ad, e, hc⟩ := h hp
  have hc' : ∀ j, j < xs.length → w.cell? (ad.add j) = some (.int .i64 (xs[j]?.getD 0)) := fun j hj => by rw [hc j hj]; simp [List.getD_eq_getElem?_getD]
  refine ⟨ad, e, ?_, hc'⟩
  have := World.block_lt_of_cell? w _ (hc' 0 hp)
  rwa [block_of_add'] at this

theorem make22 (n : Nat) (hn : n ≤ 1000000) : ∀ W : World, (Instr.makeSlice 22 (.int .i64 (n : Int)) (.int .i64 (n : Int))).run Try.prog W = .ok (.slice (some ⟨W.heap.size, 0, none⟩) n n) (W.alloc (.cells (madeCells #[.int .i64 0] n) 3)) :=
  print_make 22 3 .i64 8 Try.underlying22 tinfo3 (by omega) n (by omega)
theorem tinfo4 : (Try.prog.info? 4).map (fun i => (i.zero, i.size, i.bytes)) = some (some (.bool false), 1, 1) := by kernel_rfl
theorem make73 (n : Nat) (hn : n ≤ 1000000) : ∀ W : World, (Instr.makeSlice 73 (.int .i64 (n : Int)) (.int .i64 (n : Int))).run Try.prog W = .ok (.slice (some ⟨W.heap.size, 0, none⟩) n n) (W.alloc (.cells (madeCells #[.bool false] n) 4)) :=
  fun W => run_make_row' 73 4 (.bool false) 1 Try.underlying73 tinfo4 rfl .i64 .i64 n (by omega) (by omega) W
theorem made_row {α : Type} (enc : α → Value) (z : α) (n : Nat) : madeCells #[enc z] n = ((List.replicate n z).map enc).toArray := by
  apply Array.ext
  · simp [madeCells]
  · intro i h1 h2
    simp [madeCells, Nat.mod_one]

/-- Behind the second call of size: what lies in memory so far. -/
structure Half (flr : Array Value) (n : Nat) (w W : World) (gF gO gOb : Nat) : Prop where
  fb : FBox W gF flr
  o : RowI W gO (List.replicate n 0)
  ob : Boxed W gOb 22 (.slice (some ⟨gO, 0, none⟩) n n)
  be : Below w.heap.size w W
  b1 : w.heap.size ≤ gF
  b2 : gF < gO
  b3 : gO < gOb
theorem start_two {flr : Array Value} {n : Nat} {w w1 w2 : World} {gF : Nat}
    (hb2 : Below ((w1.alloc (.cells (madeCells #[.int .i64 0] n) 3)).alloc (.cells #[.slice (some ⟨w1.heap.size, 0, none⟩) n n] 22)).heap.size ((w1.alloc (.cells (madeCells #[.int .i64 0] n) 3)).alloc (.cells #[.slice (some ⟨w1.heap.size, 0, none⟩) n n] 22)) w2)
    (hB1 : Below w.heap.size w w1) (hF : FBox w1 gF flr) (h1 : w.heap.size ≤ gF) (hlt : gF < w1.heap.size) : Half flr n w w2 gF w1.heap.size (w1.heap.size + 1) := by
  have ho : RowI (w1.alloc (.cells (madeCells #[.int .i64 0] n) 3)) w1.heap.size (List.replicate n 0) := by
    unfold RowI Row1
    rw [← made_row (Value.int .i64) (0 : Int) n]
    exact heap_alloc_new w1 _
  have hob := Boxed.new (w1.alloc (.cells (madeCells #[.int .i64 0] n) 3)) 22 (.slice (some ⟨w1.heap.size, 0, none⟩) n n)
  rw [World.size_alloc] at hob
  have hbe := (hB1.alloc hB1.size (.cells (madeCells #[.int .i64 0] n) 3)).alloc ((hB1.alloc hB1.size (.cells (madeCells #[.int .i64 0] n) 3))).size (.cells #[.slice (some ⟨w1.heap.size, 0, none⟩) n n] 22)
  refine ⟨?_, ?_, ?_, hbe.trans (hb2.mono hbe.size), h1, hlt, by omega⟩
  · exact (hb2.block gF (by simp; omega)).trans (blk_alloc (blk_alloc hF _) _)
  · exact (hb2.block _ (by simp; omega)).trans (blk_alloc ho _)
  · exact (hb2.block _ (by simp)).trans hob

theorem start_sp {flr : Array Value} {n : Nat} {w w2 : World} {gF gO gOb : Nat} (h : Half flr n w w2 gF gO gOb) :
    Sp ⟨gF, gO, gOb, w2.heap.size, w2.heap.size + 1, 0⟩ flr n w ((w2.alloc (.cells (madeCells #[.bool false] n) 4)).alloc (.cells #[.slice (some ⟨w2.heap.size, 0, none⟩) n n] 73)) (List.replicate n 0) (List.replicate n false) := by
  have hp : RowB (w2.alloc (.cells (madeCells #[.bool false] n) 4)) w2.heap.size (List.replicate n false) := by
    unfold RowB Row1
    rw [← made_row Value.bool false n]
    exact heap_alloc_new w2 _
  have hpb := Boxed.new (w2.alloc (.cells (madeCells #[.bool false] n) 4)) 73 (.slice (some ⟨w2.heap.size, 0, none⟩) n n)
  rw [World.size_alloc] at hpb
  have hlt := h.ob.lt
  exact ⟨blk_alloc (blk_alloc h.fb _) _, blk_alloc (blk_alloc h.o _) _, blk_alloc (blk_alloc h.ob _) _, blk_alloc hp _, hpb, by simp, by simp, (h.be.alloc h.be.size _).alloc (h.be.alloc h.be.size _).size _, h.b1, h.b2, h.b3, hlt, by simp⟩

theorem is_of_size {a0_0 a0_1 a0_2 : Int} {l0_3 l0_4 : List Int} {n : Nat} (hsz : floor_size.f a0_0 a0_1 a0_2 l0_3 l0_4 = some (n : Int)) (c : Int) : floor_is.f a0_0 a0_1 a0_2 l0_3 l0_4 c = some (decide (0 ≤ c ∧ c < (n : Int))) := by
  unfold floor_is.f
  by_cases h : c ≥ 0
  · rw [if_pos h, hsz]
    simp only [Option.bind_some]
    congr 1
    simp
    omega
  · rw [if_neg h, decide_eq_false (by omega)]
theorem avoid_step {n k : Nat} {opn : List Bool} {l : List Int} (hk : k < l.length) :
    avoidP n opn (l.take (k + 1)) = if 0 ≤ l[k]?.getD 0 ∧ l[k]?.getD 0 < (n : Int) then (avoidP n opn (l.take k)).set (l[k]?.getD 0).toNat false else avoidP n opn (l.take k) := by
  unfold avoidP
  rw [List.take_succ_eq_append_getElem hk, List.foldl_append, List.getElem?_eq_getElem hk]
  rfl
theorem set_mid {α : Type} (A : List α) (z x : α) (m : Nat) (hm : 0 < m) : (A ++ List.replicate m z).set A.length x = (A ++ [x]) ++ List.replicate (m - 1) z := by
  obtain ⟨m, rfl⟩ : ∃ j, m = j + 1 := ⟨m - 1, by omega⟩
  rw [List.set_append_right _ _ (Nat.le_refl _), Nat.sub_self, List.replicate_succ, List.set_cons_zero]
  simp
theorem init_step {K : List Int} {n k : Nat} (hk : k < n) (hl : K.length = n) :
    (List.replicate k (-1 : Int) ++ List.replicate (n - k) 0).set k (-1) = List.replicate (k + 1) (-1) ++ List.replicate (n - (k + 1)) 0 ∧
    ((openP K).take k ++ List.replicate (n - k) false).set k (K[k]?.getD 0 != 0) = (openP K).take (k + 1) ++ List.replicate (n - (k + 1)) false := by
  constructor
  · have h := set_mid (List.replicate k (-1 : Int)) 0 (-1) (n - k) (by omega)
    rw [List.length_replicate] at h
    rw [h, List.replicate_succ', show n - k - 1 = n - (k + 1) by omega]
  · have hlo : (openP K).length = n := by simp [openP, hl]
    have h := set_mid ((openP K).take k) false (K[k]?.getD 0 != 0) (n - k) (by omega)
    rw [List.length_take, hlo, show min k n = k by omega] at h
    rw [h, show n - k - 1 = n - (k + 1) by omega, List.take_succ_eq_append_getElem (by omega)]
    simp [openP, List.getElem?_eq_getElem (show k < K.length by omega)]

/-- What holds of distances, open cells and queue at all times. -/
structure Inv (n : Nat) (s : St) : Prop where
  lo : s.1.length = n
  lp : s.2.1.length = n
  q : ∀ x ∈ s.2.2, 0 ≤ x ∧ x < (n : Int)
  m : s.2.2.length + s.2.1.count true ≤ n
theorem count_set_true {l : List Bool} {c : Nat} (h : l[c]? = some true) : (l.set c false).count true + 1 = l.count true := by
  induction l generalizing c with
  | nil => simp at h
  | cons x l ih =>
    cases c with
    | zero =>
      simp only [List.getElem?_cons_zero, Option.some.injEq] at h
      subst h
      simp [List.count_cons]
    | succ c =>
      simp only [List.getElem?_cons_succ] at h
      have := ih h
      rw [List.set_cons_succ, List.count_cons, List.count_cons]
      omega
theorem Inv.reach {n : Nat} {s : St} (h : Inv n s) {c : Nat} (hc : c < n) (m : Int) : Inv n (reachP c m s) := by
  unfold reachP
  split
  · rename_i ho
    have hcount := count_set_true ho
    refine ⟨by simp [h.lo], by simp [h.lp], ?_, ?_⟩
    · intro x hx
      simp only [List.mem_append, List.mem_singleton] at hx
      rcases hx with hx | rfl
      · exact h.q x hx
      · omega
    · have := h.m
      simp only [List.length_append, List.length_singleton]
      omega
  · exact h
theorem avoidP_length (n : Nat) (opn : List Bool) (l : List Int) : (avoidP n opn l).length = opn.length := by
  unfold avoidP
  induction l generalizing opn with
  | nil => rfl
  | cons c l ih =>
    rw [List.foldl_cons, ih]
    split <;> simp
theorem Inv.start (n : Nat) (opn : List Bool) (h : opn.length = n) : Inv n (List.replicate n (-1), opn, []) := by
  refine ⟨by simp, h, by simp, ?_⟩
  have := List.count_le_length (a := true) (l := opn)
  simp only [List.length_nil]
  omega
theorem from_step {n k : Nat} {s : St} {l : List Int} (hk : k < l.length) :
    fromP n s (l.take (k + 1)) = if 0 ≤ l[k]?.getD 0 ∧ l[k]?.getD 0 < (n : Int) then reachP (l[k]?.getD 0).toNat 0 (fromP n s (l.take k)) else fromP n s (l.take k) := by
  unfold fromP
  rw [List.take_succ_eq_append_getElem hk, List.foldl_append, List.getElem?_eq_getElem hk]
  rfl
theorem start_sq {N : Names} {flr : Array Value} {n : Nat} {w W : World} {out : List Int} {opn : List Bool} (h : Sp N flr n w W out opn) :
    Sq ⟨N.gF, N.gO, N.gOb, N.gP, N.gPb, W.heap.size⟩ flr n w (W.alloc (.cells #[.slice none 0 0] 22)) out opn (.slice none 0 0) [] := by
  have h2 := h.below ((Below.refl _ _).alloc (Nat.le_refl _) (.cells #[.slice none 0 0] 22))
  exact ⟨⟨h2.fb, h2.o, h2.ob, h2.p, h2.pb, h2.lo, h2.lp, h2.be, h2.b1, h2.b2, h2.b3, h2.b4, h2.b5⟩, Boxed.new _ _ _, Kd.Q_nil _ _ _ _ _, h.lt⟩
/-- The call of the inner function, whatever the cell is. -/
theorem reach_any (N : Names) (flr : Array Value) (n : Nat) (w W : World) (s : St) (v : Value) (c : Nat) (m : Int) (h : Sq N flr n w W s.1 s.2.1 v s.2.2) (hi : Inv n s) (hc : c < n) (hn : n ≤ 1000000) :
    Calls Try.prog 87 #[.int .i64 c, .int .i64 m, .pointer (some ⟨N.gPb, 0, none⟩), .pointer (some ⟨N.gOb, 0, none⟩), .pointer (some ⟨N.gQb, 0, none⟩)] W fun e w' => e = .returned (.tuple #[]) ∧ ∃ v', Sq N flr n w w' (reachP c m s).1 (reachP c m s).2.1 v' (reachP c m s).2.2 := by
  obtain ⟨b, hb⟩ : ∃ b, s.2.1[c]? = some b := ⟨_, List.getElem?_eq_getElem (by rw [hi.lp]; exact hc)⟩
  unfold reachP
  cases b
  · rw [if_neg (by rw [hb]; simp)]
    exact (reach_no N flr n w W s.1 s.2.1 v s.2.2 c m h hc hn hb).mono (fun e w' he => ⟨he.1, v, he.2 ▸ h⟩)
  · rw [if_pos hb]
    exact reach_yes N flr n w W s.1 s.2.1 v s.2.2 c m h hc hn (by have := hi.m; omega) hb

theorem queue_cut {N : Names} {flr : Array Value} {n : Nat} {w W : World} {out : List Int} {opn : List Bool} {v : Value} {c : Int} {q : List Int} (h : Sq N flr n w W out opn v (c :: q)) :
    ∃ ad cap A' c', v = .slice (some ad) (q.length + 1) cap ∧ q.length + 1 ≤ cap ∧ W.cell? ad = some (.int .i64 c) ∧ (∀ W, (Instr.slice 22 (.slice (some ad) (q.length + 1) cap) (some (.int .i64 1)) none none).run Try.prog W = .ok (.slice A' q.length c') W) ∧
      Sq N flr n w (W.setCell ⟨N.gQb, 0, none⟩ (.slice A' q.length c')) out opn (.slice A' q.length c') q := by
  obtain ⟨A, cap, rfl, hc, hC⟩ := Kd.Q_reads h.q
  obtain ⟨ad, rfl, _, hcell⟩ := reads_at hC (by simp)
  have h0 := hcell 0 (by simp)
  have hq2 := Kd.Q_drop h.q (k := 1) (by simp)
  simp only [List.drop_succ_cons, List.drop_zero] at hq2
  obtain ⟨i3, hi3, hsz⟩ : ∃ i, Try.prog.info? 3 = some i ∧ i.size = 1 := by
    have := tinfo3
    cases h : Try.prog.info? 3 with
    | none => rw [h] at this; cases this
    | some i =>
      rw [h] at this
      simp only [Option.map_some, Option.some.injEq, Prod.mk.injEq] at this
      exact ⟨i, rfl, this.2.1⟩
  have hcut := cut_from (P := Try.prog) 22 3 .i64 Try.underlying22 hi3 1 hsz (some ad) (q.length + 1) cap 1 (by omega) (by omega)
  refine ⟨ad, cap, _, _, rfl, by simpa using hc, ?_, hcut, ?_⟩
  · have hz : ad.add 0 = ad := by
      unfold Addr.add
      split <;> simp_all
    rw [hz] at h0
    simpa using h0
  · have hQ : (Kd.int .i64).Q 3 W w.heap.size (fun k => k ≠ N.gO) (.slice (if cap = (1 : Int).toNat then some ad else (some ad).map (·.add ((1 : Int).toNat * 1))) (q.length + 1 - (1 : Int).toNat) (cap - (1 : Int).toNat)) q := hq2
    exact ⟨h.sp.far (p := ⟨N.gQb, 0, none⟩) h.b6 _, h.qb.set _, Kd.Q_set hQ h.qb (by decide) 0 _, h.b6⟩
theorem Inv.tail {n : Nat} {o : List Int} {p : List Bool} {c : Int} {q : List Int} (h : Inv n (o, p, c :: q)) : Inv n (o, p, q) :=
  ⟨h.lo, h.lp, fun x hx => h.q x (List.mem_cons_of_mem _ hx), by have := h.m; simp only [List.length_cons] at this; show q.length + p.count true ≤ n; omega⟩
theorem final_R {N : Names} {flr : Array Value} {n : Nat} {w W : World} {out : List Int} {opn : List Bool} (h : Sp N flr n w W out opn) (hn : n ≤ 1000000) :
    Kd.R (Kd.int .i64) 3 W w.heap.size (fun _ => True) (.slice (some ⟨N.gO, 0, none⟩) n n) out := by
  have ho : W.ownsRow w.heap.size 3 1 (.slice (some ⟨N.gO, 0, none⟩) n n) n (encs (Value.int .i64) out) := by
    refine ⟨by simp [encs, h.lo], .inr ⟨N.gO, n, _, rfl, ?_, h.o, Nat.le_refl _, ?_, ?_, ?_⟩⟩
    · have := h.b1
      have := h.b2
      omega
    · simp only [maxLen]
      omega
    · simp [h.lo]
    · simp [encs, List.take_of_length_le, h.lo]
  have := h.lo
  subst this
  exact Kd.R_of_own ho (fun _ _ => trivial)
def moveOk (MV : Int → Int → Option (Int × Bool)) (mv : Nat) (flr : Array Value) (n : Nat) (w : World) : Prop :=
  ∀ (c : Int) (d : Nat) (p : Int × Bool) (W : World), Below w.heap.size w W → d < 6 → 0 ≤ c → c < (n : Int) → MV c d = some p → Calls Try.prog mv #[.agg flr, .int .i64 c, .int .i64 d] W (fun e w' => e = .returned (.tuple #[.int .i64 p.1, .bool p.2]) ∧ Below W.heap.size W w')

set_option maxRecDepth 100000 in
set_option maxHeartbeats 8000000 in
theorem spread_start (mv : Nat) (a0_0 : Int) (a0_1 : Int) (a0_2 : Int) (A0_3 : Option Addr) (c0_3 : Nat) (l0_3 : List Int) (A0_4 : Option Addr) (c0_4 : Nat) (l0_4 : List Int) (A1 : Option Addr) (c1 : Nat) (l1 : List Int) (A2 : Option Addr) (c2 : Nat) (l2 : List Int) (w : World)
    (hr0_3 : Kd.C (Kd.int .i64) w A0_3 l0_3.length l0_3) (hc0_3 : l0_3.length ≤ c0_3) (hr0_4 : Kd.C (Kd.int .i64) w A0_4 l0_4.length l0_4) (hc0_4 : l0_4.length ≤ c0_4)
    (hr1 : Kd.C (Kd.int .i64) w A1 l1.length l1) (hr2 : Kd.C (Kd.int .i64) w A2 l2.length l2) (n : Nat) (hn1 : 1 ≤ n) (hn : n ≤ 1000000) (hsz : floor_size.f a0_0 a0_1 a0_2 l0_3 l0_4 = some (n : Int)) (hK : l0_3.length = n) (hmv12 : mv = 15 ∨ mv = 16) (MV : Int → Int → Option (Int × Bool)) (HMV : Hid (moveOk MV mv #[.int .i64 a0_0, .int .i64 a0_1, .int .i64 a0_2, .slice A0_3 l0_3.length c0_3, .slice A0_4 l0_4.length c0_4] n w)) (r : List Int) (fuel : Nat) (hres : Hid (spreadP MV fuel n l0_3 l1 l2 = some r)) :
    Calls Try.prog 65 #[.agg #[.int .i64 a0_0, .int .i64 a0_1, .int .i64 a0_2, .slice A0_3 l0_3.length c0_3, .slice A0_4 l0_4.length c0_4], .slice A1 l1.length c1, .slice A2 l2.length c2, .func (.func mv) #[] #[]] w fun e w' => ∃ v0_ : Value, e = .returned v0_ ∧ Kd.R (Kd.int .i64) 3 w' w.heap.size (fun _ => True) v0_ r ∧ Below w.heap.size w w' := by
  obtain ⟨ad, rfl, hadlt, hcell⟩ := reads_at hr0_3 (by omega)
  subst hK
  have HCE := Lib.hid hcell
  clear hcell
  have HSZ := Lib.hid (fun W (h : Below w.heap.size w W) => floor_size.calls a0_0 a0_1 a0_2 (some ad) c0_3 l0_3 A0_4 c0_4 l0_4 l0_3.length W (Kd.C_below hr0_3 h) hc0_3 (Kd.C_below hr0_4 h) hc0_4 hsz)
  have hB : Below w.heap.size w (w.alloc (.cells #[.int .i64 a0_0, .int .i64 a0_1, .int .i64 a0_2, .slice (some ad) l0_3.length c0_3, .slice A0_4 l0_4.length c0_4] 24)) := (Below.refl _ _).alloc (Nat.le_refl _) _
  have HB := Lib.hid hB
  clear hB
  have HFB := Lib.hid (FBox.new w #[.int .i64 a0_0, .int .i64 a0_1, .int .i64 a0_2, .slice (some ad) l0_3.length c0_3, .slice A0_4 l0_4.length c0_4])
  have hR3 := Lib.hid hr0_3
  have hR4 := Lib.hid hr0_4
  have HISt := Lib.hid (fun (c : Int) (hc : 0 ≤ c ∧ c < (l0_3.length : Int)) W (h : Below w.heap.size w W) => floor_is.calls a0_0 a0_1 a0_2 (some ad) c0_3 l0_3 A0_4 c0_4 l0_4 c true W (Kd.C_below hr0_3 h) hc0_3 (Kd.C_below hr0_4 h) hc0_4 (by rw [is_of_size hsz, decide_eq_true hc]))
  have HISf := Lib.hid (fun (c : Int) (hc : ¬ (0 ≤ c ∧ c < (l0_3.length : Int))) W (h : Below w.heap.size w W) => floor_is.calls a0_0 a0_1 a0_2 (some ad) c0_3 l0_3 A0_4 c0_4 l0_4 c false W (Kd.C_below hr0_3 h) hc0_3 (Kd.C_below hr0_4 h) hc0_4 (by rw [is_of_size hsz, decide_eq_false hc]))
  have HR1 := Lib.hid hr1
  have HR2 := Lib.hid hr2
  clear hr1 hr2 hsz hr0_3 hr0_4
  have m1 := make22 l0_3.length hn
  have m2 := make73 l0_3.length hn
  go_enter Try.func65, Try.ntmps65
  go_wp2_with fail
  refine (HSZ.out _ HB.out).mono ?_
  rintro e w1 ⟨rfl, hb1⟩
  have HB1 := Lib.hid (HB.out.trans (hb1.mono HB.out.size))
  have hf1 := HFB.out.below hb1 (by simp)
  have HF1 := Lib.hid hf1
  obtain ⟨e0, e1, e2, e3, e4⟩ := hf1.cells
  have hlt := hf1.lt
  clear hb1 hf1
  go_wp2_with fail
  have HB1b := Lib.hid ((HB1.out.alloc HB1.out.size (.cells (madeCells #[.int .i64 0] l0_3.length) 3)).alloc ((HB1.out.alloc HB1.out.size (.cells (madeCells #[.int .i64 0] l0_3.length) 3))).size (.cells #[.slice (some ⟨w1.heap.size, 0, none⟩) l0_3.length l0_3.length] 22))
  refine (HSZ.out _ HB1b.out).mono ?_
  rintro e w2 ⟨rfl, hb2⟩
  have HH := Lib.hid (start_two hb2 HB1.out HF1.out (Nat.le_refl _) hlt)
  clear e0 e1 e2 e3 e4 hlt
  obtain ⟨e0, e1, e2, e3, e4⟩ := HH.out.fb.cells
  have hlt := HH.out.fb.lt
  clear hb2
  go_upto_block 0 with (fail)
  have HS := Lib.hid (start_sp HH.out)
  clear e0 e1 e2 e3 e4 hlt HH HB1 HB1b HF1 HB HFB m1 m2
  generalize (w2.alloc (.cells (madeCells #[.bool false] l0_3.length) 4)).alloc (.cells #[.slice (some ⟨w2.heap.size, 0, none⟩) l0_3.length l0_3.length] 73) = W3 at HS ⊢
  generalize w1.heap.size = gO at HS ⊢
  generalize w2.heap.size = gP at HS ⊢
  generalize hgF : w.heap.size = gF at HS ⊢
  have HGF := Lib.hid hgF
  clear hgF
  generalize gO + 1 = gOb at HS ⊢
  generalize gP + 1 = gPb at HS ⊢
  clear w1 w2
  go_cut [] (fun wc => Hid (Sp ⟨gF, gO, gOb, gP, gPb, 0⟩ #[.int .i64 a0_0, .int .i64 a0_1, .int .i64 a0_2, .slice (some ad) l0_3.length c0_3, .slice A0_4 l0_4.length c0_4] l0_3.length w wc (List.replicate l0_3.length (-1)) (openP l0_3)))
  case first =>
    go_wp2_with fail
    go_loopw [32] (fun i wr => ∃ k : Nat, k ≤ l0_3.length ∧ i = .int .i64 k ∧ Hid (Sp ⟨gF, gO, gOb, gP, gPb, 0⟩ #[.int .i64 a0_0, .int .i64 a0_1, .int .i64 a0_2, .slice (some ad) l0_3.length c0_3, .slice A0_4 l0_4.length c0_4] l0_3.length w wr
      (List.replicate k (-1) ++ List.replicate (l0_3.length - k) 0) ((openP l0_3).take k ++ List.replicate (l0_3.length - k) false))) (fun i _ => l0_3.length - (intOf i).toNat)
    case atStart => exact ⟨0, Nat.zero_le _, rfl, by simpa using HS⟩
    case round =>
      obtain ⟨k, hk, rfl, HR⟩ := hrel
      clear HS
      by_cases hlt : k < l0_3.length
      · have hck : wr.cell? (ad.add k) = some (.int .i64 (l0_3[k]?.getD 0)) := (HR.out.be.cell (p := ad.add k) (by rw [block_of_add']; exact hadlt)).trans (HCE.out k (by omega))
        have HE := Lib.hid (init_step hlt rfl)
        generalize l0_3[k]?.getD 0 = kv at hck HE
        have c9 : wr.cell? ⟨gOb, 0, none⟩ = some (.slice (some ⟨gO, 0, none⟩) l0_3.length l0_3.length) := HR.out.ob.cell
        have c10 : wr.cell? ⟨gPb, 0, none⟩ = some (.slice (some ⟨gP, 0, none⟩) l0_3.length l0_3.length) := HR.out.pb.cell
        obtain ⟨x, hx⟩ : ∃ x, wr.cell? ⟨gO, k, none⟩ = some x := ⟨_, HR.out.o.cell (List.getElem?_eq_getElem (by rw [HR.out.lo]; exact hlt))⟩
        obtain ⟨y, hy⟩ : ∃ y, wr.cell? ⟨gP, k, none⟩ = some y := ⟨_, HR.out.p.cell (List.getElem?_eq_getElem (by rw [HR.out.lp]; exact hlt))⟩
        have f1 : wr.frozen? ⟨gO, k, none⟩ = false := HR.out.o.frozen k
        have f2 : wr.frozen? ⟨gP, k, none⟩ = false := HR.out.p.frozen k
        have o1 : gO < gOb := HR.out.b3
        have o2 : gOb < gP := HR.out.b4
        have o3 : gP < gPb := HR.out.b5
        have hne1 : gO ≠ gP := by omega
        have hne2 : gP ≠ gO := by omega
        have hne3 : gOb ≠ gP := by omega
        have hne4 : gP ≠ gOb := by omega
        have hne5 : gOb ≠ gO := by omega
        have hne6 : gO ≠ gOb := by omega
        have hne7 : gPb ≠ gP := by omega
        have hne8 : gP ≠ gPb := by omega
        have hne9 : gPb ≠ gO := by omega
        have hne10 : gO ≠ gPb := by omega
        clear o1 o2 o3
        go_wp2
        go_region
        all_goals go_wp2
        go_roundw
        case rel =>
          have h2 := (HR.out.setOut k (-1)).setOpen k (kv != 0)
          rw [HE.out.1, HE.out.2] at h2
          exact ⟨k + 1, by omega, by go_num, Lib.hid (h2.below (Below.refl _ _).drew)⟩
        case measure => simp [intOf]; omega
      · obtain rfl : k = l0_3.length := by omega
        go_wp2
        go_meet
        case rel =>
          have h2 := HR.out
          rw [Nat.sub_self, List.replicate_zero, List.replicate_zero, List.append_nil, List.append_nil, List.take_of_length_le (by simp [openP])] at h2
          exact Lib.hid h2
  case rest =>
    clear HS
    have HT := hcut
    clear hcut
    go_upto_block 2 with (fail)
    go_cut [] (fun wc => Hid (Sp ⟨gF, gO, gOb, gP, gPb, 0⟩ #[.int .i64 a0_0, .int .i64 a0_1, .int .i64 a0_2, .slice (some ad) l0_3.length c0_3, .slice A0_4 l0_4.length c0_4] l0_3.length w wc (List.replicate l0_3.length (-1)) (avoidP l0_3.length (openP l0_3) l2)))
    case first =>
      go_wp2_with fail
      go_loopw [48] (fun i wr => ∃ k : Nat, k ≤ l2.length ∧ i = .int .i64 k ∧ Hid (Sp ⟨gF, gO, gOb, gP, gPb, 0⟩ #[.int .i64 a0_0, .int .i64 a0_1, .int .i64 a0_2, .slice (some ad) l0_3.length c0_3, .slice A0_4 l0_4.length c0_4] l0_3.length w wr
        (List.replicate l0_3.length (-1)) (avoidP l0_3.length (openP l0_3) (l2.take k)))) (fun i _ => l2.length - (intOf i).toNat)
      case atStart => exact ⟨0, Nat.zero_le _, rfl, HT⟩
      case round =>
        obtain ⟨k, hk, rfl, HR⟩ := hrel
        clear HT
        have hmx2 : l2.length ≤ 9223372036854775807 := HR2.out.2.1
        by_cases hlt : k < l2.length
        · obtain ⟨ad2, hA2, hadlt2, hcell2⟩ := reads_at HR2.out (by omega)
          subst hA2
          have hck : wr.cell? (ad2.add k) = some (.int .i64 (l2[k]?.getD 0)) := (HR.out.be.cell (p := ad2.add k) (by rw [block_of_add']; exact hadlt2)).trans (hcell2 k hlt)
          have HE := Lib.hid (avoid_step (n := l0_3.length) (opn := openP l0_3) hlt)
          generalize l2[k]?.getD 0 = cv at hck HE
          obtain ⟨e0, e1, e2, e3, e4⟩ := HR.out.fb.cells
          dsimp only at e0 e1 e2 e3 e4
          clear hcell2 hadlt2
          by_cases hin : 0 ≤ cv ∧ cv < (l0_3.length : Int)
          · have he2 := HE.out
            rw [if_pos hin] at he2
            obtain ⟨cn, rfl⟩ : ∃ cn : Nat, cv = cn := ⟨cv.toNat, by omega⟩
            rw [Int.toNat_natCast] at he2
            have HE2 := Lib.hid he2
            have HIN := Lib.hid hin
            have hcn : cn < l0_3.length := by omega
            clear he2 HE hin
            go_wp2_with fail
            refine (HISt.out _ HIN.out _ HR.out.be).mono ?_
            rintro e w5 ⟨rfl, hb5⟩
            have HR5 := Lib.hid (HR.out.below hb5)
            have c10 : w5.cell? ⟨gPb, 0, none⟩ = some (.slice (some ⟨gP, 0, none⟩) l0_3.length l0_3.length) := HR5.out.pb.cell
            obtain ⟨y, hy⟩ : ∃ y, w5.cell? ⟨gP, cn, none⟩ = some y := ⟨_, HR5.out.p.cell (List.getElem?_eq_getElem (by rw [HR5.out.lp]; exact hcn))⟩
            have f2 : w5.frozen? ⟨gP, cn, none⟩ = false := HR5.out.p.frozen cn
            clear hb5 hck e0 e1 e2 e3 e4 HR
            go_wp2
            go_roundw
            case rel =>
              have h2 := HR5.out.setOpen cn false
              rw [← HE2.out] at h2
              exact ⟨k + 1, by omega, by go_num, Lib.hid h2⟩
            case measure => simp [intOf]; omega
          · have he2 := HE.out
            rw [if_neg hin] at he2
            have HE2 := Lib.hid he2
            have HIN := Lib.hid hin
            clear he2 HE hin
            go_wp2_with fail
            refine (HISf.out _ HIN.out _ HR.out.be).mono ?_
            rintro e w5 ⟨rfl, hb5⟩
            have HR5 := Lib.hid (HR.out.below hb5)
            clear hb5 hck e0 e1 e2 e3 e4 HR
            go_wp2
            go_roundw
            case rel =>
              have h2 := HR5.out
              rw [← HE2.out] at h2
              exact ⟨k + 1, by omega, by go_num, Lib.hid h2⟩
            case measure => simp [intOf]; omega
        · obtain rfl : k = l2.length := by omega
          go_wp2
          go_meet
          case rel =>
            have h2 := HR.out
            rw [List.take_length] at h2
            exact Lib.hid h2
    case rest =>
      clear HT
      have HT := hcut
      clear hcut
      go_upto_block 4 with (fail)
      have HS := Lib.hid (start_sq HT.out)
      have HI := Lib.hid (Inv.start l0_3.length (avoidP l0_3.length (openP l0_3) l2) (by rw [avoidP_length]; simp [openP]))
      clear HT
      generalize hs0 : ((List.replicate l0_3.length (-1), avoidP l0_3.length (openP l0_3) l2, []) : St) = s0 at HI
      have HS0 := Lib.hid hs0
      replace HS : Hid (∃ v, Sq ⟨gF, gO, gOb, gP, gPb, wc.heap.size⟩ #[.int .i64 a0_0, .int .i64 a0_1, .int .i64 a0_2, .slice (some ad) l0_3.length c0_3, .slice A0_4 l0_4.length c0_4] l0_3.length w (wc.alloc (.cells #[.slice none 0 0] 22)) s0.1 s0.2.1 v s0.2.2) := by
        subst hs0
        exact Lib.hid ⟨_, HS.out⟩
      clear hs0
      generalize wc.alloc (.cells #[.slice none 0 0] 22) = W4 at HS ⊢
      generalize wc.heap.size = gQb at HS ⊢
      clear wc
      go_cut [] (fun wc => Hid (∃ v, Sq ⟨gF, gO, gOb, gP, gPb, gQb⟩ #[.int .i64 a0_0, .int .i64 a0_1, .int .i64 a0_2, .slice (some ad) l0_3.length c0_3, .slice A0_4 l0_4.length c0_4] l0_3.length w wc (fromP l0_3.length s0 l1).1 (fromP l0_3.length s0 l1).2.1 v (fromP l0_3.length s0 l1).2.2) ∧ Hid (Inv l0_3.length (fromP l0_3.length s0 l1)))
      case first =>
        go_wp2_with fail
        go_loopw [62] (fun i wr => ∃ k : Nat, k ≤ l1.length ∧ i = .int .i64 k ∧ Hid (∃ v, Sq ⟨gF, gO, gOb, gP, gPb, gQb⟩ #[.int .i64 a0_0, .int .i64 a0_1, .int .i64 a0_2, .slice (some ad) l0_3.length c0_3, .slice A0_4 l0_4.length c0_4] l0_3.length w wr (fromP l0_3.length s0 (l1.take k)).1 (fromP l0_3.length s0 (l1.take k)).2.1 v (fromP l0_3.length s0 (l1.take k)).2.2) ∧ Hid (Inv l0_3.length (fromP l0_3.length s0 (l1.take k)))) (fun i _ => l1.length - (intOf i).toNat)
        case atStart => exact ⟨0, Nat.zero_le _, rfl, HS, HI⟩
        case round =>
          obtain ⟨k, hk, rfl, HR, HJ⟩ := hrel
          clear HS HI
          have hmx1 : l1.length ≤ 9223372036854775807 := HR1.out.2.1
          by_cases hlt : k < l1.length
          · obtain ⟨ad2, hA2, hadlt2, hcell2⟩ := reads_at HR1.out (by omega)
            subst hA2
            obtain ⟨v, hv⟩ := HR.out
            have HV := Lib.hid hv
            clear HR hv
            have hck : wr.cell? (ad2.add k) = some (.int .i64 (l1[k]?.getD 0)) := (HV.out.sp.be.cell (p := ad2.add k) (by rw [block_of_add']; exact hadlt2)).trans (hcell2 k hlt)
            have HE := Lib.hid (from_step (n := l0_3.length) (s := s0) hlt)
            generalize l1[k]?.getD 0 = cv at hck HE
            obtain ⟨e0, e1, e2, e3, e4⟩ := HV.out.sp.fb.cells
            dsimp only at e0 e1 e2 e3 e4
            clear hcell2 hadlt2
            by_cases hin : 0 ≤ cv ∧ cv < (l0_3.length : Int)
            · have he2 := HE.out
              rw [if_pos hin] at he2
              obtain ⟨cn, rfl⟩ : ∃ cn : Nat, cv = cn := ⟨cv.toNat, by omega⟩
              rw [Int.toNat_natCast] at he2
              have HE2 := Lib.hid he2
              have HIN := Lib.hid hin
              have hcn : cn < l0_3.length := by omega
              clear he2 HE hin
              go_wp2_with fail
              refine (HISt.out _ HIN.out _ HV.out.sp.be).mono ?_
              rintro e w5 ⟨rfl, hb5⟩
              have HR5 := Lib.hid (HV.out.below hb5)
              clear hb5 hck e0 e1 e2 e3 e4 HV
              go_wp2_with fail
              refine (reach_any _ _ _ w w5 _ v cn 0 HR5.out HJ.out hcn hn).mono ?_
              rintro e w6 ⟨rfl, h6⟩
              have HR6 := Lib.hid h6
              have HJ6 := Lib.hid (HJ.out.reach hcn 0)
              clear h6 HR5 HJ
              go_wp2
              go_roundw
              case rel =>
                refine ⟨k + 1, by omega, by go_num, ?_, ?_⟩
                · rw [HE2.out]
                  exact HR6
                · rw [HE2.out]
                  exact HJ6
              case measure => simp [intOf]; omega
            · have he2 := HE.out
              rw [if_neg hin] at he2
              have HE2 := Lib.hid he2
              have HIN := Lib.hid hin
              clear he2 HE hin
              go_wp2_with fail
              refine (HISf.out _ HIN.out _ HV.out.sp.be).mono ?_
              rintro e w5 ⟨rfl, hb5⟩
              have HR5 := Lib.hid (HV.out.below hb5)
              clear hb5 hck e0 e1 e2 e3 e4 HV
              go_wp2
              go_roundw
              case rel =>
                refine ⟨k + 1, by omega, by go_num, ?_, ?_⟩
                · rw [HE2.out]
                  exact Lib.hid ⟨_, HR5.out⟩
                · rw [HE2.out]
                  exact HJ
              case measure => simp [intOf]; omega
          · obtain rfl : k = l1.length := by omega
            go_wp2
            go_meet
            case rel =>
              rw [List.take_length] at HR HJ
              exact ⟨HR, HJ⟩
      case rest =>
        clear HS HI
        obtain ⟨HR, HJ⟩ := hcut
        replace hres : Hid (bfsP MV l0_3.length fuel (fromP l0_3.length s0 l1) = some r) := Lib.hid (by
          have h := hres.out
          unfold spreadP at h
          rw [← HS0.out]
          simpa [List.map_replicate] using h)
        generalize fromP l0_3.length s0 l1 = s1 at HR HJ hres
        go_upto_block 6 with (fail)
        go_cut [] (fun wc => Hid (∃ opn v q, Sq ⟨gF, gO, gOb, gP, gPb, gQb⟩ #[.int .i64 a0_0, .int .i64 a0_1, .int .i64 a0_2, .slice (some ad) l0_3.length c0_3, .slice A0_4 l0_4.length c0_4] l0_3.length w wc r opn v q))
        case first =>
          go_wp2_with fail
          go_loopg [] fuel (fun k wr => ∃ s : St, Hid (∃ v, Sq ⟨gF, gO, gOb, gP, gPb, gQb⟩ #[.int .i64 a0_0, .int .i64 a0_1, .int .i64 a0_2, .slice (some ad) l0_3.length c0_3, .slice A0_4 l0_4.length c0_4] l0_3.length w wr s.1 s.2.1 v s.2.2) ∧ Hid (Inv l0_3.length s) ∧ Hid (bfsP MV l0_3.length k s = some r))
          case atStart => exact ⟨s1, HR, HJ, hres⟩
          case round =>
            clear HR HJ hres HS0
            obtain ⟨s, HR, HJ, HB⟩ := hrel
            cases gk with
            | zero => exact absurd HB.out (by unfold bfsP; simp)
            | succ k =>
            obtain ⟨out, opn, q⟩ := s
            obtain ⟨v, hv⟩ := HR.out
            have HV := Lib.hid hv
            clear HR hv
            dsimp only at HV
            cases q with
            | nil =>
              obtain ⟨A, cap, hvv, _, _⟩ := Kd.Q_reads HV.out.q
              have hcq : wr.cell? ⟨gQb, 0, none⟩ = some (.slice A 0 cap) := by
                have h := HV.out.qb.cell
                rw [hvv] at h
                exact h
              clear hvv
              go_wp2
              go_meet
              case rel =>
                have hb := HB.out
                unfold bfsP at hb
                simp only [Option.some.injEq] at hb
                subst hb
                exact Lib.hid ⟨_, _, _, HV.out⟩
            | cons c q =>
              obtain ⟨qa, cap, A', c', hvv, hcap, hqc, hcutq, hq'⟩ := queue_cut HV.out
              subst hvv
              have hcq := HV.out.qb.cell
              have hfq := HV.out.qb.frozen
              have HQ := Lib.hid hq'
              have hci := HJ.out.q c (List.mem_cons_self ..)
              have HJ2 := Lib.hid HJ.out.tail
              have hb := HB.out
              unfold bfsP at hb
              dsimp only at hb
              rw [Option.bind_eq_some_iff] at hb
              obtain ⟨s2, hd, hb2⟩ := hb
              have HD := Lib.hid hd
              have HB2 := Lib.hid hb2
              have hcap2 : (0 : Nat) < cap := by omega
              clear hq' hd hb2 HB HV HJ
              dsimp only at hcq hfq
              go_wp2_with fail
              replace HQ : Hid (∃ v, Sq ⟨gF, gO, gOb, gP, gPb, gQb⟩ #[.int .i64 a0_0, .int .i64 a0_1, .int .i64 a0_2, .slice (some ad) l0_3.length c0_3, .slice A0_4 l0_4.length c0_4] l0_3.length w (wr.setCell ⟨gQb, 0, none⟩ (.slice A' q.length c')) out opn v q) := Lib.hid ⟨_, HQ.out⟩
              clear hcq hfq hqc hcutq
              generalize wr.setCell ⟨gQb, 0, none⟩ (.slice A' q.length c') = W5 at HQ ⊢
              obtain ⟨cn, rfl⟩ : ∃ cn : Nat, c = cn := ⟨c.toNat, by omega⟩
              go_loopw [81] (fun i wr => ∃ d : Nat, d ≤ 6 ∧ i = .int .i64 d ∧ ∃ s : St, Hid (∃ v, Sq ⟨gF, gO, gOb, gP, gPb, gQb⟩ #[.int .i64 a0_0, .int .i64 a0_1, .int .i64 a0_2, .slice (some ad) l0_3.length c0_3, .slice A0_4 l0_4.length c0_4] l0_3.length w wr s.1 s.2.1 v s.2.2) ∧ Hid (Inv l0_3.length s) ∧ Hid (dirsP MV l0_3.length cn (6 - d) d s = some s2)) (fun i _ => 6 - (intOf i).toNat)
              case atStart => exact ⟨0, by omega, rfl, (out, opn, q), HQ, HJ2, HD⟩
              case round =>
                clear HQ HJ2 HD
                obtain ⟨d, hd6, rfl, s, HR, HJ, HD⟩ := hrel
                by_cases hlt : d < 6
                · obtain ⟨v, hv⟩ := HR.out
                  have HV := Lib.hid hv
                  clear HR hv
                  have hd := HD.out
                  rw [show 6 - d = (6 - (d + 1)) + 1 by omega] at hd
                  unfold dirsP at hd
                  rw [Option.bind_eq_some_iff] at hd
                  obtain ⟨⟨m, ok⟩, hmv, hd2⟩ := hd
                  have HM := Lib.hid hmv
                  have HD2 := Lib.hid hd2
                  have HCI := Lib.hid hci
                  have hcn : cn < l0_3.length := by omega
                  clear hd2 hmv HD
                  obtain ⟨e0, e1, e2, e3, e4⟩ := HV.out.sp.fb.cells
                  dsimp only at e0 e1 e2 e3 e4
                  rcases hmv12 with rfl | rfl
                  all_goals
                    go_wp2_with fail
                    refine (HMV.out cn d (m, ok) _ HV.out.sp.be hlt hci.1 hci.2 HM.out).mono ?_
                    rintro e w5 ⟨rfl, hb5⟩
                    have HR5 := Lib.hid (HV.out.below hb5)
                    clear hb5 e0 e1 e2 e3 e4 HV
                    dsimp only
                    cases ok with
                    | false =>
                      have h2 := HD2.out
                      rw [if_neg (by decide)] at h2
                      have HD3 := Lib.hid h2
                      clear h2 HD2
                      go_wp2
                      go_roundw
                      case rel => exact ⟨d + 1, by omega, by go_num, s, Lib.hid ⟨_, HR5.out⟩, HJ, HD3⟩
                      case measure => simp [intOf]; omega
                    | true =>
                      have h2 := HD2.out
                      rw [if_pos rfl] at h2
                      by_cases hin : 0 ≤ m ∧ m < (l0_3.length : Int)
                      · rw [if_pos hin] at h2
                        obtain ⟨mn, rfl⟩ : ∃ mn : Nat, m = mn := ⟨m.toNat, by omega⟩
                        have hmn : mn < l0_3.length := by omega
                        rw [Int.toNat_natCast, Int.toNat_natCast] at h2
                        have HD3 := Lib.hid h2
                        clear h2 HD2 hin
                        have hob := HR5.out.sp.ob.cell
                        have hgo := HR5.out.sp.o.cell (i := cn) (x := s.1.getD cn 0) (by rw [List.getD_eq_getElem?_getD, List.getElem?_eq_getElem (by rw [HJ.out.lo]; exact hcn)]; rfl)
                        dsimp only at hob hgo
                        generalize s.1.getD cn 0 = x at hgo HD3
                        go_wp2_with fail
                        refine (reach_any _ _ _ w w5 s _ mn (wrap64 (x + 1)) HR5.out HJ.out hmn hn).mono ?_
                        rintro e w6 ⟨rfl, h6⟩
                        have HR6 := Lib.hid h6
                        have HJ6 := Lib.hid (HJ.out.reach hmn (wrap64 (x + 1)))
                        clear h6 HR5 HJ hob hgo
                        go_wp2
                        go_roundw
                        case rel => exact ⟨d + 1, by omega, by go_num, _, HR6, HJ6, HD3⟩
                        case measure => simp [intOf]; omega
                      · rw [if_neg hin] at h2
                        cases h2
                · obtain rfl : d = 6 := by omega
                  have hd := HD.out
                  rw [Nat.sub_self] at hd
                  unfold dirsP at hd
                  simp only [Option.some.injEq] at hd
                  subst hd
                  go_wp2
                  go_roundg k
                  case measure => omega
                  case rel => exact ⟨s, HR, HJ, HB2⟩
        case rest =>
          obtain ⟨opn, v, q, hq⟩ := hcut.out
          have HR := Lib.hid hq
          clear hq hcut
          have hco := HR.out.sp.ob.cell
          dsimp only at hco
          go_wp2
          go_ret
          exact ⟨_, rfl, final_R HR.out.sp hn, HR.out.sp.be⟩
end Go.Proofs.Ytmnncmpmhbfpcaa.S
