/- RegionParts: part 4 of 4: the texts of this claim, merged, without what they do not name (by pack.py, a program of this session). -/
import Derived.Test.YtmnncmpmhbfpcaaZp3
section
namespace Go.Proofs.Ytmnncmpmhbfpcaa.Y
set_option linter.unusedVariables false
set_option linter.unusedSimpArgs false
open Go.RowKit Go.Proofs.YtmnncmpmhbfpcaaW.PrintWords Go.Proofs.YtmnncmpmhbfpcaaW.PrintLast Go.Proofs.YtmnncmpmhbfpcaaW.PrintMore
open Go.Proofs.Ytmnncmpmhbfpcaa.A Go.Proofs.Ytmnncmpmhbfpcaa.H Go.Proofs.Ytmnncmpmhbfpcaa.B Go.Proofs.Ytmnncmpmhbfpcaa.S Go.Proofs.Ytmnncmpmhbfpcaa.P Go.Proofs.Ytmnncmpmhbfpcaa.V Go.Proofs.Ytmnncmpmhbfpcaa.U Go.Proofs.Ytmnncmpmhbfpcaa.X Go.Proofs.Ytmnncmpmhbfpcaa.C Go.Proofs.Ytmnncmpmhbfpcaa.D
def Ed (MV : Int → Int → Option (Int × Bool)) (a b : Int) : Prop := ∃ d : Nat, d < 6 ∧ MV a d = some (b, true)
inductive Way (E : Int → Int → Prop) (r : List Int) : Int → Int → Prop
  | refl {a : Int} : a ∈ r → Way E r a a
  | step {a b c : Int} : Way E r a b → E b c → c ∈ r → Way E r a c
section
variable {E : Int → Int → Prop} {r : List Int} {a b c : Int}
theorem Way.mem (h : Way E r a b) : a ∈ r ∧ b ∈ r := by
  induction h with
  | refl h => exact ⟨h, h⟩
  | step _ _ h ih => exact ⟨ih.1, h⟩
theorem Way.trans (h : Way E r a b) (h2 : Way E r b c) : Way E r a c := by
  induction h2 with
  | refl _ => exact h
  | step _ e m ih => exact .step ih e m
theorem Way.head (ha : a ∈ r) (e : E a b) (h : Way E r b c) : Way E r a c := (Way.step (.refl ha) e h.mem.1).trans h
theorem Way.rev (h : Way E r a b) : Way (fun x y => E y x) r b a := by
  induction h with
  | refl h => exact .refl h
  | step h e m ih => exact Way.head m e ih
theorem Way.imp {F : Int → Int → Prop} {s : List Int} (h : Way E r a b) (he : ∀ x y, E x y → F x y) (hs : ∀ x ∈ r, x ∈ s) : Way F s a b := by
  induction h with
  | refl h => exact .refl (hs _ h)
  | step _ e m ih => exact .step ih (he _ _ e) (hs _ m)
end
theorem reach_iff {n : Nat} {MV : Int → Int → Option (Int × Bool)} {K r D : List Int} {c : Int} (hE : ∀ a b, Ed MV a b → (0 ≤ a ∧ a < n) ∧ 0 ≤ b ∧ b < n)
    (h : DistOf n MV (opR r n) ([c].filter (goodC n K)) D) (x : Nat) (hx : x < n) : 0 ≤ D.getD x 0 ↔ goodC n K c = true ∧ Way (Ed MV) r c x := by
  have opn : ∀ m : Nat, m < n → ((opR r n).getD m false = true ↔ (m : Int) ∈ r) := fun m hm => by
    rw [openR_at hm, decide_eq_true_eq]
  constructor
  · have go : ∀ (k x : Nat), x < n → D.getD x 0 = k → goodC n K c = true ∧ Way (Ed MV) r c x := by
      intro k
      induction k with
      | zero =>
        intro x hx e
        obtain ⟨h1, h2⟩ := (h.zero x hx).1 e
        obtain ⟨h3, h4⟩ := List.mem_filter.1 h2
        have h5 : (x : Int) = c := List.mem_singleton.1 h3
        rw [h5] at h4
        refine ⟨h4, ?_⟩
        rw [h5]
        exact .refl (h5 ▸ (opn x hx).1 h1)
      | succ k ih =>
        intro x hx e
        obtain ⟨p, hp, e2, ha⟩ := h.prev x hx (by omega)
        obtain ⟨h1, h2⟩ := ih p hp (by omega)
        exact ⟨h1, .step h2 ha ((opn x hx).1 (h.shut x hx (by omega)))⟩
    intro h0
    exact go (D.getD x 0).toNat x hx (by omega)
  · rintro ⟨hg, hw⟩
    have go : ∀ y : Int, Way (Ed MV) r c y → ∀ x : Nat, x < n → y = x → 0 ≤ D.getD x 0 := by
      intro y hy
      induction hy with
      | refl hm =>
        intro x hx e
        have : D.getD x 0 = 0 := (h.zero x hx).2 ⟨(opn x hx).2 (e ▸ hm), List.mem_filter.2 ⟨List.mem_singleton.2 e.symm, e ▸ hg⟩⟩
        omega
      | step hw e hm ih =>
        rename_i b z
        intro x hx ez
        have hb := (hE _ _ e).1
        have h1 := ih b.toNat (by omega) (by omega)
        have hbb : ((b.toNat : Nat) : Int) = b := Int.toNat_of_nonneg hb.1
        refine (h.next b.toNat x (by omega) hx h1 ?_ ((opn x hx).2 (ez ▸ hm))).1
        obtain ⟨d, hd, hdd⟩ := e
        refine ⟨d, hd, ?_⟩
        rw [hbb, hdd, ez]
    exact go x hw x hx rfl
section
variable {W H D : Int} {K O : List Int}
abbrev Nx (W H D : Int) (K O : List Int) : Int → Int → Prop := Ed (floor_Next.f 1 W H D K O)
theorem nx_ok (G : P.Good W H D K O) {a b : Int} (h : Nx W H D K O a b) : ((0 ≤ a ∧ a < K.length) ∧ 0 ≤ b ∧ b < K.length) ∧ goodC K.length K b = true := by
  obtain ⟨d, hd, e⟩ := h
  obtain ⟨_, h1, h2, h3, h4, h5, _⟩ := next_adj G e
  refine ⟨⟨⟨h3, h4⟩, h1, h5⟩, ?_⟩
  unfold goodC
  have := h2.2.1
  unfold rd at this
  simp only [Bool.and_eq_true, decide_eq_true_eq, bne_iff_ne]
  exact ⟨⟨h1, h5⟩, this⟩
theorem bk_iff (G : P.Good W H D K O) {a b : Int} : Ed (floor_Back.f 1 W H D K O) a b ↔ Nx W H D K O b a :=
  ⟨fun ⟨d, hd, e⟩ => ⟨d, hd, back_adj G e⟩, fun ⟨d, hd, e⟩ => ⟨d, hd, adj_back G e⟩⟩
def Mu (W H D : Int) (K O r : List Int) (a b : Int) : Prop := Way (Nx W H D K O) r a b ∧ Way (Nx W H D K O) r b a
theorem Mu.symm {r : List Int} {a b : Int} (h : Mu W H D K O r a b) : Mu W H D K O r b a := ⟨h.2, h.1⟩
theorem Mu.trans {r : List Int} {a b c : Int} (h : Mu W H D K O r a b) (h2 : Mu W H D K O r b c) : Mu W H D K O r a c := ⟨h.1.trans h2.1, h2.2.trans h.2⟩
theorem way_good (G : P.Good W H D K O) {r : List Int} {a b : Int} (h : Way (Nx W H D K O) r a b) (hg : goodC K.length K a = true) : goodC K.length K b = true := by
  induction h with
  | refl _ => exact hg
  | step _ e _ _ => exact (nx_ok G e).2
theorem good_range {n : Nat} {c : Int} (h : goodC n K c = true) : 0 ≤ c ∧ c < n := by
  unfold goodC at h
  simp only [Bool.and_eq_true, decide_eq_true_eq] at h
  exact h.1
theorem mem_pt (G : P.Good W H D K O) {r : List Int} {c x : Int} : x ∈ ptL W H D K O r c ↔ goodC K.length K c = true ∧ Mu W H D K O r c x := by
  have hn := G.n2
  have hN := (span_ok (moves_next G) (by omega) K r [c]).2
  have hB := (span_ok (moves_back G) (by omega) K r [c]).2
  have rN := reach_iff (fun a b h => (nx_ok G h).1) hN
  have rB := reach_iff (fun a b h => by have := (nx_ok G ((bk_iff G).1 h)).1; exact ⟨this.2, this.1⟩) hB
  have hbk : ∀ x, Way (Ed (floor_Back.f 1 W H D K O)) r c x ↔ Way (Nx W H D K O) r x c := fun x =>
    ⟨fun h => h.rev.imp (fun _ _ e => (bk_iff G).1 e) (fun _ h => h), fun h => h.rev.imp (fun _ _ e => (bk_iff G).2 e) (fun _ h => h)⟩
  unfold ptL
  rw [List.mem_filter, inM_iff]
  constructor
  · rintro ⟨hx, h0, h1, h2, h3⟩
    obtain ⟨m, rfl⟩ : ∃ m : Nat, x = m := ⟨x.toNat, by omega⟩
    rw [Int.toNat_natCast] at h2 h3
    obtain ⟨g, w1⟩ := (rN m (by omega)).1 h2
    exact ⟨g, w1, (hbk m).1 ((rB m (by omega)).1 h3).2⟩
  · rintro ⟨g, w1, w2⟩
    have hr := good_range (way_good G w1 g)
    obtain ⟨m, rfl⟩ : ∃ m : Nat, x = m := ⟨x.toNat, by omega⟩
    refine ⟨w1.mem.2, hr.1, hr.2, ?_, ?_⟩
    · rw [Int.toNat_natCast]
      exact (rN m (by omega)).2 ⟨g, w1⟩
    · rw [Int.toNat_natCast]
      exact (rB m (by omega)).2 ⟨g, (hbk m).2 w2⟩
theorem pt_srt {r : List Int} (hs : Srt r) (c : Int) : Srt (ptL W H D K O r c) := List.Pairwise.filter _ hs
theorem pt_good (G : P.Good W H D K O) {r : List Int} {c x : Int} (h : x ∈ ptL W H D K O r c) : goodC K.length K x = true := by
  obtain ⟨g, w1, _⟩ := (mem_pt G).1 h
  exact way_good G w1 g
theorem pt_same (G : P.Good W H D K O) {r : List Int} (hs : Srt r) {c x : Int} (h : x ∈ ptL W H D K O r c) : ptL W H D K O r x = ptL W H D K O r c := by
  have hg := pt_good G h
  obtain ⟨g, m⟩ := (mem_pt G).1 h
  refine srt_ext (pt_srt hs _) (pt_srt hs _) fun y => ?_
  rw [mem_pt G, mem_pt G]
  exact ⟨fun h => ⟨g, m.trans h.2⟩, fun h => ⟨hg, m.symm.trans h.2⟩⟩
def isRep (W H D : Int) (K O r : List Int) (c : Int) : Bool := decide (ptL W H D K O r c ≠ []) && (ptL W H D K O r c).all (fun x => decide (c ≤ x))
theorem rep_iff {r : List Int} {c : Int} : isRep W H D K O r c = true ↔ ptL W H D K O r c ≠ [] ∧ ∀ x ∈ ptL W H D K O r c, c ≤ x := by
  unfold isRep
  rw [Bool.and_eq_true, decide_eq_true_eq, List.all_eq_true]
  simp only [decide_eq_true_eq]
theorem filter_same {l : List Int} {p q : Int → Bool} (h : ∀ x ∈ l, p x = q x) : l.filter p = l.filter q := List.filter_congr h
theorem parts_reps (G : P.Good W H D K O) {r : List Int} (hr : Srt r) : ∀ (k : Nat) (left : List Int), left.length ≤ k → Srt left → (∀ x ∈ left, ∀ y ∈ ptL W H D K O r x, y ∈ left) →
    partsL (ptL W H D K O r) k left = (left.filter (isRep W H D K O r)).map (ptL W H D K O r)
  | 0, left, hk, _, _ => by
    obtain rfl := List.length_eq_zero_iff.1 (by omega : left.length = 0)
    rfl
  | k + 1, [], _, _, _ => rfl
  | k + 1, c :: lf, hk, hs, hc => by
    have hs' := List.pairwise_cons.1 hs
    by_cases hp : ptL W H D K O r c = []
    · have hrep : isRep W H D K O r c = false := by
        cases h : isRep W H D K O r c with
        | false => rfl
        | true => exact absurd hp (rep_iff.1 h).1
      rw [partsL_skip hp, List.filter_cons_of_neg (by rw [hrep]; simp)]
      refine parts_reps G hr k lf (by simp at hk; omega) hs'.2 fun x hx y hy => ?_
      rcases List.mem_cons.1 (hc x (List.mem_cons_of_mem _ hx) y hy) with e | h
      · subst e
        have := pt_same G hr hy
        rw [hp] at this
        rw [← this] at hy
        cases hy
      · exact h
    · obtain ⟨hcc, _⟩ := pt_self G hp
      have hrep : isRep W H D K O r c = true := by
        refine rep_iff.2 ⟨hp, fun x hx => ?_⟩
        rcases List.mem_cons.1 (hc c (List.mem_cons_self ..) x hx) with e | h
        · omega
        · have := hs'.1 x h
          omega
      rw [partsL_take hp, List.filter_cons_of_pos hrep, List.map_cons]
      congr 1
      have hd : outD (mergeL ((c :: lf).length + (ptL W H D K O r c).length) (c :: lf) (ptL W H D K O r c)) = lf.filter (fun x => !decide (x ∈ ptL W H D K O r c)) := by
        have := diff_eq hs (pt_srt (W := W) (H := H) (D := D) (K := K) (O := O) hr c)
        unfold diffL at this
        rw [this, List.filter_cons_of_neg (by simp [hcc])]
      rw [hd, parts_reps G hr k _ (by have := List.length_filter_le (fun x => !decide (x ∈ ptL W H D K O r c)) lf; simp at hk; omega) (List.Pairwise.filter _ hs'.2) (fun x hx y hy => ?_), List.filter_filter]
      · congr 1
        refine filter_same fun x hx => ?_
        cases h : isRep W H D K O r x with
        | false => rfl
        | true =>
          by_cases hm : x ∈ ptL W H D K O r c
          · have h1 := (rep_iff.1 h).2 c (by rw [pt_same G hr hm]; exact hcc)
            have h2 := hs'.1 x hx
            omega
          · simp [hm]
      · obtain ⟨h1, h2⟩ := List.mem_filter.1 hx
        have h2' : x ∉ ptL W H D K O r c := by simpa using h2
        have hyn : y ∉ ptL W H D K O r c := fun h => by
          have e1 := pt_same G hr hy
          have e2 := pt_same G hr h
          refine h2' ?_
          rw [← e2, e1]
          exact (pt_self G (List.ne_nil_of_mem hy)).1
        refine List.mem_filter.2 ⟨?_, by simp [hyn]⟩
        rcases List.mem_cons.1 (hc x (List.mem_cons_of_mem _ h1) y hy) with e | h
        · subst e
          exact absurd hcc hyn
        · exact h
def repsL (W H D : Int) (K O r : List Int) : List Int := r.filter (isRep W H D K O r)
theorem part_reps (G : P.Good W H D K O) {r : List Int} (hr : Srt r) : partL W H D K O r = (repsL W H D K O r).map (ptL W H D K O r) :=
  parts_reps G hr r.length r (Nat.le_refl _) hr fun x _ y hy => ((mem_pt G).1 hy).2.1.mem.2
theorem way_in (G : P.Good W H D K O) {r s : List Int} {a b : Int} (h : Way (Nx W H D K O) r a b) : (∀ x, Mu W H D K O r a x → x ∈ s) → Way (Nx W H D K O) r b a → Way (Nx W H D K O) s a b := by
  induction h with
  | refl hm => intro hs _; exact .refl (hs _ ⟨.refl hm, .refl hm⟩)
  | step hw e hm ih =>
    rename_i b' z
    intro hs hback
    have hb : Way (Nx W H D K O) r b' _ := Way.head hw.mem.2 e hback
    exact .step (ih hs hb) e (hs _ ⟨.step hw e hm, hback⟩)
theorem pt_full (G : P.Good W H D K O) {r : List Int} {c a : Int} (ha : a ∈ ptL W H D K O r c) : ptL W H D K O (ptL W H D K O r c) a = ptL W H D K O r c := by
  refine List.filter_eq_self.2 fun x hx => ?_
  have hga := pt_good G ha
  obtain ⟨g, ma⟩ := (mem_pt G).1 ha
  obtain ⟨_, mx⟩ := (mem_pt G).1 hx
  have hin : ∀ b, Mu W H D K O r c b → ∀ y, Mu W H D K O r b y → y ∈ ptL W H D K O r c := fun b hb y hy => (mem_pt G).2 ⟨g, hb.trans hy⟩
  have hax := ma.symm.trans mx
  have hm : x ∈ ptL W H D K O (ptL W H D K O r c) a := (mem_pt G).2 ⟨hga, way_in G hax.1 (hin a ma) hax.2, way_in G hax.2 (hin x mx) hax.1⟩
  exact (List.mem_filter.1 hm).2
end
end Go.Proofs.Ytmnncmpmhbfpcaa.Y
end
section
namespace Go.Proofs.YtmnncmpmhbfpcaaW.PrintWords
open Go.ChangeShapes Go.WideShapes
end Go.Proofs.YtmnncmpmhbfpcaaW.PrintWords
end
section
namespace Go.Proofs.Ytmnncmpmhbfpcaa.R
open Go.ChangeShapes Go.WideShapes Go.ChangeAt Go.RowKit Go.Joins Go.Deep
open Go.ChangeMaps (open_string shut_string)
open Go.Proofs.YtmnncmpmhbfpcaaW.PrintWords
set_option linter.unusedVariables false
set_option linter.unusedSimpArgs false
def IsRow (k : IntKind) (w : World) (a : Option Addr) (len cap : Nat) (zs : List Int) : Prop :=
  (a = none ∧ len = 0 ∧ cap = 0 ∧ zs = []) ∨
  ∃ x, a = some x ∧ len ≤ cap ∧ cap ≤ maxLen ∧ zs.length = cap ∧ (∀ i, i < zs.length → w.cell? (x.add i) = some (.int k (zs.getD i 0))) ∧ ∀ n ∈ zs, (Lit.int k n).wf = true
section
variable {H : Type} {enc : TypeId × Value → H} {W : World} {base : Nat} {held : Bool}
theorem row_of {fuel : Nat} {v : Value} {x : DataW H × List MemPlace} (h : DataW.trod enc Try.prog W base (fun _ => true) held fuel 22 [v] = some x) :
    ∃ A c l, v = .slice A (l : List Int).length c ∧ Kd.C (Kd.int .i64) W A l.length l ∧ l.length ≤ 9223372036854775807 ∧ (∀ n ∈ l, (Lit.int .i64 n).wf = true) ∧ l.length ≤ c := by
  obtain ⟨a, len, cap, zs, rfl, hz⟩ : ∃ a len cap zs, v = .slice a len cap ∧ IsRow .i64 W a len cap zs := by
    rcases open_ints Try.underlying22 Try.underlying3 (by kernel_rfl) h with ⟨hcs, _⟩ | ⟨x, l, c, zs, hcs, _, hl, hm, hz, _, hcell, hwz⟩
    · simp at hcs
      exact ⟨none, 0, 0, [], hcs, .inl ⟨rfl, rfl, rfl, rfl⟩⟩
    · simp at hcs
      exact ⟨_, _, _, zs, hcs, .inr ⟨_, rfl, hl, hm, by simpa using hz, hcell, hwz⟩⟩
  obtain ⟨l, rfl, hr, hm, hw, hc⟩ := ReadsInt.ofRowC hz
  exact ⟨a, cap, l, rfl, Kd.C_of_reads (d := (0 : Int)) (h1 := fun _ => rfl) hr, hm, hw, hc⟩
set_option maxRecDepth 100000 in
theorem open_row {r : Reach} {b0 : Nat} {v : Value} {d : DataW H} {p : List MemPlace} (hv : Value.okWide Try.prog W r b0 22 v) (h : DataW.Trod enc Try.prog W base (fun _ => true) held 22 v d p) :
    ∃ A c l, v = .slice A (l : List Int).length c ∧ Kd.C (Kd.int .i64) W A l.length l ∧ l.length ≤ 9223372036854775807 ∧ (∀ n ∈ l, (Lit.int .i64 n).wf = true) ∧ l.length ≤ c := by
  obtain ⟨a0, len0, cap0, rfl⟩ := okWide_slice Try.underlying22 hv
  obtain ⟨fuel, hf⟩ := h
  exact row_of hf
set_option maxRecDepth 100000 in
theorem open_floor {r : Reach} {b0 : Nat} {v : Value} {d : DataW H} {p : List MemPlace} (hv : Value.okWide Try.prog W r b0 24 v) (h : DataW.Trod enc Try.prog W base (fun _ => true) held 24 v d p) :
    ∃ (a0 a1 a2 : Int) (A3 : Option Addr) (c3 : Nat) (l3 : List Int) (A4 : Option Addr) (c4 : Nat) (l4 : List Int), v = .agg #[.int .i64 a0, .int .i64 a1, .int .i64 a2, .slice A3 l3.length c3, .slice A4 l4.length c4] ∧
      ((Lit.int .i64 a0).wf = true ∧ (Lit.int .i64 a1).wf = true ∧ (Lit.int .i64 a2).wf = true) ∧
      (Kd.C (Kd.int .i64) W A3 l3.length l3 ∧ l3.length ≤ 9223372036854775807 ∧ (∀ n ∈ l3, (Lit.int .i64 n).wf = true) ∧ l3.length ≤ c3) ∧
      (Kd.C (Kd.int .i64) W A4 l4.length l4 ∧ l4.length ≤ 9223372036854775807 ∧ (∀ n ∈ l4, (Lit.int .i64 n).wf = true) ∧ l4.length ≤ c4) := by
  obtain ⟨cs, rfl, hsz⟩ := okWide_struct Try.underlying24 hv
  obtain ⟨l⟩ := cs
  have hC : Try.prog.cellsOf 24 = 5 := by kernel_rfl
  match l, hsz.trans hC with
  | [c0, c1, c2, c3, c4], _ =>
    obtain ⟨fuel, hf⟩ := h
    obtain ⟨xs, n, _, _, _, hlen, hg⟩ := DataW.trod_struct Try.underlying24 hf
    have hc3 : Try.prog.cellsOf 3 = 1 := by kernel_rfl
    have hc22 : Try.prog.cellsOf 22 = 1 := by kernel_rfl
    have g0 : DataW.trod enc Try.prog W base (fun _ => true) held n 3 (List.take (Try.prog.cellsOf 3) (List.drop 0 [c0, c1, c2, c3, c4])) = xs[0]? := hg 0 _ rfl
    rw [hc3] at g0
    obtain ⟨y0, hy0⟩ : ∃ y, xs[0]? = some y := ⟨_, List.getElem?_eq_getElem (by rw [hlen]; decide)⟩
    rw [hy0] at g0
    simp only [List.drop_zero, List.drop_succ_cons, List.take_succ_cons, List.take_zero] at g0
    have g1 : DataW.trod enc Try.prog W base (fun _ => true) held n 3 (List.take (Try.prog.cellsOf 3) (List.drop 1 [c0, c1, c2, c3, c4])) = xs[1]? := hg 1 _ rfl
    rw [hc3] at g1
    obtain ⟨y1, hy1⟩ : ∃ y, xs[1]? = some y := ⟨_, List.getElem?_eq_getElem (by rw [hlen]; decide)⟩
    rw [hy1] at g1
    simp only [List.drop_zero, List.drop_succ_cons, List.take_succ_cons, List.take_zero] at g1
    have g2 : DataW.trod enc Try.prog W base (fun _ => true) held n 3 (List.take (Try.prog.cellsOf 3) (List.drop 2 [c0, c1, c2, c3, c4])) = xs[2]? := hg 2 _ rfl
    rw [hc3] at g2
    obtain ⟨y2, hy2⟩ : ∃ y, xs[2]? = some y := ⟨_, List.getElem?_eq_getElem (by rw [hlen]; decide)⟩
    rw [hy2] at g2
    simp only [List.drop_zero, List.drop_succ_cons, List.take_succ_cons, List.take_zero] at g2
    have g3 : DataW.trod enc Try.prog W base (fun _ => true) held n 22 (List.take (Try.prog.cellsOf 22) (List.drop 3 [c0, c1, c2, c3, c4])) = xs[3]? := hg 3 _ rfl
    rw [hc22] at g3
    obtain ⟨y3, hy3⟩ : ∃ y, xs[3]? = some y := ⟨_, List.getElem?_eq_getElem (by rw [hlen]; decide)⟩
    rw [hy3] at g3
    simp only [List.drop_zero, List.drop_succ_cons, List.take_succ_cons, List.take_zero] at g3
    have g4 : DataW.trod enc Try.prog W base (fun _ => true) held n 22 (List.take (Try.prog.cellsOf 22) (List.drop 4 [c0, c1, c2, c3, c4])) = xs[4]? := hg 4 _ rfl
    rw [hc22] at g4
    obtain ⟨y4, hy4⟩ : ∃ y, xs[4]? = some y := ⟨_, List.getElem?_eq_getElem (by rw [hlen]; decide)⟩
    rw [hy4] at g4
    simp only [List.drop_zero, List.drop_succ_cons, List.take_succ_cons, List.take_zero] at g4
    obtain ⟨a0, e0, _, w0⟩ := DataW.trod_int Try.underlying3 g0
    obtain ⟨a1, e1, _, w1⟩ := DataW.trod_int Try.underlying3 g1
    obtain ⟨a2, e2, _, w2⟩ := DataW.trod_int Try.underlying3 g2
    obtain ⟨A3, k3, l3, e3, w3⟩ := row_of g3
    obtain ⟨A4, k4, l4, e4, w4⟩ := row_of g4
    simp at e0 e1 e2
    subst e0 e1 e2 e3 e4
    exact ⟨a0, a1, a2, A3, k3, l3, A4, k4, l4, rfl, ⟨w0, w1, w2⟩, w3, w4⟩
end
end Go.Proofs.Ytmnncmpmhbfpcaa.R
end
section
namespace Go.Proofs.Ytmnncmpmhbfpcaa.Y
set_option linter.unusedVariables false
set_option linter.unusedSimpArgs false
open Go.RowKit Go.Proofs.YtmnncmpmhbfpcaaW.PrintWords Go.Proofs.YtmnncmpmhbfpcaaW.PrintLast Go.Proofs.YtmnncmpmhbfpcaaW.PrintMore
open Go.Proofs.Ytmnncmpmhbfpcaa.A Go.Proofs.Ytmnncmpmhbfpcaa.H Go.Proofs.Ytmnncmpmhbfpcaa.B Go.Proofs.Ytmnncmpmhbfpcaa.S Go.Proofs.Ytmnncmpmhbfpcaa.P Go.Proofs.Ytmnncmpmhbfpcaa.V Go.Proofs.Ytmnncmpmhbfpcaa.U Go.Proofs.Ytmnncmpmhbfpcaa.X Go.Proofs.Ytmnncmpmhbfpcaa.C Go.Proofs.Ytmnncmpmhbfpcaa.D
section
variable {W H D : Int} {K O : List Int}
theorem mapL_getD (l : List Int) (f : Int → List Int) {i : Nat} (h : i < l.length) : (l.map f).getD i [] = f (l.getD i 0) := by
  rw [List.getD_eq_getElem?_getD, List.getD_eq_getElem?_getD, List.getElem?_map, List.getElem?_eq_getElem h]
  rfl
theorem srt_head {l : List Int} (hs : Srt l) (h : l ≠ []) : l.getD 0 0 ∈ l ∧ ∀ x ∈ l, l.getD 0 0 ≤ x := by
  cases l with
  | nil => exact absurd rfl h
  | cons c l =>
    refine ⟨List.mem_cons_self .., fun x hx => ?_⟩
    show c ≤ x
    rcases List.mem_cons.1 hx with e | hx
    · omega
    · have := (List.pairwise_cons.1 hs).1 x hx
      omega
theorem rep_uniq (G : P.Good W H D K O) {r : List Int} (hs : Srt r) {a b : Int} (ha : isRep W H D K O r a = true) (hb : isRep W H D K O r b = true) (h : b ∈ ptL W H D K O r a) : a = b := by
  have e := pt_same G hs h
  have ma := (pt_self G (rep_iff.1 ha).1).1
  have h1 := (rep_iff.1 ha).2 b h
  have h2 := (rep_iff.1 hb).2 a (by rw [e]; exact ma)
  omega
theorem mem_allU {L : List (List Int)} (hs : ∀ i, i < L.length → Srt (L.getD i [])) : ∀ i, i ≤ L.length → Srt (allU L i) ∧ ∀ x, x ∈ allU L i ↔ ∃ k, k < i ∧ x ∈ L.getD k []
  | 0, _ => ⟨List.Pairwise.nil, fun x => ⟨(fun h => by cases h), (fun ⟨k, h, _⟩ => by omega)⟩⟩
  | i + 1, h => by
    obtain ⟨h1, h2⟩ := mem_allU hs i (by omega)
    have h3 := hs i (by omega)
    refine ⟨union_srt h1 h3, fun x => ?_⟩
    rw [allU, union_mem h1 h3, h2]
    constructor
    · rintro (⟨k, h4, h5⟩ | h4)
      · exact ⟨k, by omega, h5⟩
      · exact ⟨i, by omega, h4⟩
    · rintro ⟨k, h4, h5⟩
      by_cases e : k = i
      · subst e
        exact .inr h5
      · exact .inl ⟨k, by omega, h5⟩
theorem rg_allU {L : List (List Int)} (hs : ∀ i, i < L.length → Rg (L.getD i [])) : ∀ i, i ≤ L.length → Rg (allU L i)
  | 0, _ => Rg.nil
  | i + 1, h => (rg_allU hs i (by omega)).union (hs i (by omega))
theorem ok_good {r : List Int} (hs : Rg r) {c : Int} (h : c ∈ r) : okC K c = goodC K.length K c := by
  have := (hs.lo c h).1
  unfold okC goodC
  by_cases h1 : c < K.length
  · rw [decide_eq_true h1, decide_eq_true (⟨this, h1⟩ : 0 ≤ c ∧ c < (K.length : Int))]
    generalize K.getD c.toNat 0 = q
    by_cases h2 : q = 0
    · subst h2
      rfl
    · rw [decide_eq_true h2, Bool.true_and, Bool.true_and]
      exact (bne_iff_ne.2 h2).symm
  · rw [decide_eq_false h1, decide_eq_false (by omega : ¬ (0 ≤ c ∧ c < (K.length : Int)))]
    simp
theorem askP (G : P.Good W H D K O) {r : List Int} (hr : Rg r) : AskP W H D K O r (partL W H D K O r) := by
  have hs := hr.srt
  rw [part_reps G hs]
  have hR : ∀ c, c ∈ repsL W H D K O r ↔ c ∈ r ∧ isRep W H D K O r c = true := fun c => List.mem_filter
  have hRs : Srt (repsL W H D K O r) := List.Pairwise.filter _ hs
  have hRl : (repsL W H D K O r).length ≤ r.length := List.length_filter_le _ _
  generalize repsL W H D K O r = R at hR hRs hRl
  have at_ : ∀ i, i < (R.map (ptL W H D K O r)).length → (R.map (ptL W H D K O r)).getD i [] = ptL W H D K O r (R.getD i 0) ∧ R.getD i 0 ∈ r ∧ isRep W H D K O r (R.getD i 0) = true := fun i hi => by
    rw [List.length_map] at hi
    have h1 := (hR _).1 (getD_mem hi)
    exact ⟨mapL_getD R _ hi, h1.1, h1.2⟩
  have hrg : ∀ i, i < (R.map (ptL W H D K O r)).length → Rg ((R.map (ptL W H D K O r)).getD i []) := fun i hi => by
    rw [(at_ i hi).1]
    exact hr.filter _
  have hdis : ∀ i k, i < (R.map (ptL W H D K O r)).length → k < (R.map (ptL W H D K O r)).length → ∀ x, x ∈ ptL W H D K O r (R.getD i 0) → x ∈ ptL W H D K O r (R.getD k 0) → R.getD i 0 = R.getD k 0 := fun i k hi hk x h1 h2 => by
    refine rep_uniq G hs (at_ i hi).2.2 (at_ k hk).2.2 ?_
    rw [← pt_same G hs h1, pt_same G hs h2]
    exact (pt_self G (rep_iff.1 (at_ k hk).2.2).1).1
  have hasc : ∀ i k, k < i → i < R.length → R.getD k 0 < R.getD i 0 := fun i k h1 h2 => srt_asc hRs k i h1 h2
  have hhead : ∀ i, i < (R.map (ptL W H D K O r)).length → ((R.map (ptL W H D K O r)).getD i []).getD 0 0 = R.getD i 0 := fun i hi => by
    rw [(at_ i hi).1]
    have h1 := rep_iff.1 (at_ i hi).2.2
    have h2 := srt_head (pt_srt (W := W) (H := H) (D := D) (K := K) (O := O) hs (R.getD i 0)) h1.1
    have h3 := h1.2 _ h2.1
    have h4 := h2.2 _ (pt_self G h1.1).1
    omega
  have hall := mem_allU (L := R.map (ptL W H D K O r)) (fun i hi => (hrg i hi).srt)
  refine ⟨by rw [List.length_map]; exact hRl, hrg, fun i hi => ?_, fun i hi => ?_, rg_allU hrg, fun i hi => ?_, fun i hi => ?_, fun i k hi hk => ?_, ?_, ?_⟩
  · rw [(at_ i hi).1]
    exact (rep_iff.1 (at_ i hi).2.2).1
  · rw [(at_ i hi).1]
    have hne := (rep_iff.1 (at_ i hi).2.2).1
    unfold linkedL
    rw [pt_full G (srt_head (pt_srt hs _) hne).1]
    simp
  · obtain ⟨h1, h2⟩ := hall i (by omega)
    rw [inter_eq h1 (hrg i hi).srt, List.filter_eq_nil_iff]
    intro x hx hxi
    obtain ⟨k, hk, hxk⟩ := (h2 x).1 hx
    have hxi' : x ∈ (R.map (ptL W H D K O r)).getD i [] := of_decide_eq_true hxi
    rw [(at_ i hi).1] at hxi'
    rw [(at_ k (by omega)).1] at hxk
    have e := hdis k i (by omega) hi x hxk hxi'
    have := hasc i k hk (by rw [List.length_map] at hi; exact hi)
    omega
  · rw [hhead i (by omega), hhead (i + 1) hi]
    exact hasc (i + 1) i (by omega) (by rw [List.length_map] at hi; exact hi)
  · rw [(at_ i hi).1, (at_ k (by omega)).1]
    have hsi := pt_srt (W := W) (H := H) (D := D) (K := K) (O := O) hs (R.getD i 0)
    have hsk := pt_srt (W := W) (H := H) (D := D) (K := K) (O := O) hs (R.getD k 0)
    have mi := (pt_self G (rep_iff.1 (at_ i hi).2.2).1).1
    have mk := (pt_self G (rep_iff.1 (at_ k (by omega)).2.2).1).1
    have hU := union_mem hsi hsk
    generalize unionL (ptL W H D K O r (R.getD i 0)) (ptL W H D K O r (R.getD k 0)) = U at hU
    have mi2 := (hU _).2 (.inl mi)
    have mk2 := (hU _).2 (.inr mk)
    cases hl : linkedL W H D K O U with
    | false => rfl
    | true =>
      exfalso
      unfold linkedL at hl
      rw [decide_eq_false (List.ne_nil_of_mem mi2), Bool.false_or, decide_eq_true_eq] at hl
      rw [← hl] at mi2 mk2
      obtain ⟨_, m1⟩ := (mem_pt G).1 mi2
      obtain ⟨_, m2⟩ := (mem_pt G).1 mk2
      have hsub : ∀ x ∈ U, x ∈ r := fun x hx => by
        rcases (hU x).1 hx with h | h
        · exact ((mem_pt G).1 h).2.1.mem.2
        · exact ((mem_pt G).1 h).2.1.mem.2
      have m3 := m1.symm.trans m2
      have m4 : Mu W H D K O r (R.getD i 0) (R.getD k 0) := ⟨m3.1.imp (fun _ _ e => e) hsub, m3.2.imp (fun _ _ e => e) hsub⟩
      have h5 : R.getD k 0 ∈ ptL W H D K O r (R.getD i 0) := (mem_pt G).2 ⟨pt_good G mi, m4⟩
      have e := hdis i k hi (by omega) _ h5 mk
      have := hasc i k hk (by rw [List.length_map] at hi; exact hi)
      omega
  · obtain ⟨h1, h2⟩ := hall _ (Nat.le_refl _)
    refine srt_ext h1 (List.Pairwise.filter _ hs) fun x => ?_
    rw [h2]
    constructor
    · rintro ⟨k, hk, hx⟩
      rw [(at_ k hk).1] at hx
      have hxr := ((mem_pt G).1 hx).2.1.mem.2
      exact List.mem_filter.2 ⟨hxr, by rw [ok_good hr hxr]; exact pt_good G hx⟩
    · intro hx
      obtain ⟨hxr, hok⟩ := List.mem_filter.1 hx
      rw [ok_good hr hxr] at hok
      have hxx : x ∈ ptL W H D K O r x := (mem_pt G).2 ⟨hok, .refl hxr, .refl hxr⟩
      obtain ⟨h3, h4⟩ := srt_head (pt_srt (W := W) (H := H) (D := D) (K := K) (O := O) hs x) (List.ne_nil_of_mem hxx)
      have e := pt_same G hs h3
      have hrep : isRep W H D K O r ((ptL W H D K O r x).getD 0 0) = true := rep_iff.2 ⟨by rw [e]; exact List.ne_nil_of_mem hxx, by rw [e]; exact h4⟩
      obtain ⟨k, hk, ek⟩ := mem_getD.1 ((hR _).2 ⟨((mem_pt G).1 h3).2.1.mem.2, hrep⟩)
      refine ⟨k, by rw [List.length_map]; exact hk, ?_⟩
      rw [mapL_getD R _ hk, ek, e]
      exact hxx
  · by_cases hn : r = []
    · subst hn
      simp [linkedL]
    · unfold linkedL
      rw [decide_eq_false hn, Bool.false_or, Bool.false_or, Bool.eq_iff_iff, Bool.and_eq_true, decide_eq_true_eq, decide_eq_true_eq, decide_eq_true_eq]
      obtain ⟨h1, h2⟩ := srt_head hs hn
      constructor
      · intro h
        have hrep : isRep W H D K O r (r.getD 0 0) = true := rep_iff.2 ⟨by rw [h]; exact hn, by rw [h]; exact h2⟩
        have hm := (hR _).2 ⟨h1, hrep⟩
        obtain ⟨k, hk, ek⟩ := mem_getD.1 hm
        have one : ∀ i, i < R.length → R.getD i 0 = r.getD 0 0 := fun i hi => by
          have h3 := (hR _).1 (getD_mem hi)
          exact (rep_uniq G hs hrep h3.2 (by rw [h]; exact h3.1)).symm
        have hl : R.length = 1 := by
          by_cases h3 : 1 < R.length
          · have h4 := hasc 1 0 (by omega) h3
            rw [one 0 (by omega), one 1 h3] at h4
            omega
          · omega
        refine ⟨by rw [List.length_map]; exact hl, ?_⟩
        rw [mapL_getD R _ (by omega), one 0 (by omega), h]
      · rintro ⟨h3, h4⟩
        rw [List.length_map] at h3
        rw [mapL_getD R _ (by omega)] at h4
        have h5 : r.getD 0 0 ∈ ptL W H D K O r (R.getD 0 0) := by rw [h4]; exact h1
        rw [pt_same G hs h5, h4]
end
set_option maxRecDepth 100000 in
set_option maxHeartbeats 8000000 in
theorem parts_early (a0_0 : Int) (a0_1 : Int) (a0_2 : Int) (A0_3 : Option Addr) (c0_3 : Nat) (l0_3 : List Int) (A0_4 : Option Addr) (c0_4 : Nat) (l0_4 : List Int) (A1 : Option Addr) (c1 : Nat) (l1 : List Int) (w : World)
    (hr0_3 : Kd.C (Kd.int .i64) w A0_3 l0_3.length l0_3) (hc0_3 : l0_3.length ≤ c0_3) (hr0_4 : Kd.C (Kd.int .i64) w A0_4 l0_4.length l0_4) (hc0_4 : l0_4.length ≤ c0_4)
    (hr1 : Kd.C (Kd.int .i64) w A1 l1.length l1) (hc1 : l1.length ≤ c1) (hfit : taquinlaw08_fits.f 5000 a0_0 a0_1 a0_2 l0_3 l0_4 l1 60 = some false) :
    Calls Try.prog 10 #[.agg #[.int .i64 a0_0, .int .i64 a0_1, .int .i64 a0_2, .slice A0_3 l0_3.length c0_3, .slice A0_4 l0_4.length c0_4], .slice A1 l1.length c1] w fun e w' => e = .returned (.bool true) ∧ Below w.heap.size w w' := by
  have HSM := Lib.hid small_any
  have HFI := Lib.hid (fun W (h : Below w.heap.size w W) => taquinlaw08_fits.calls 5000 a0_0 a0_1 a0_2 A0_3 c0_3 l0_3 A0_4 c0_4 l0_4 A1 c1 l1 60 false W (Kd.C_below hr0_3 h) hc0_3 (Kd.C_below hr0_4 h) hc0_4 (Kd.C_below hr1 h) hc1 hfit)
  have HFB := Lib.hid (FBox.new w #[.int .i64 a0_0, .int .i64 a0_1, .int .i64 a0_2, .slice A0_3 l0_3.length c0_3, .slice A0_4 l0_4.length c0_4])
  have HBa := Lib.hid ((Below.refl w.heap.size w).alloc (Nat.le_refl _) (.cells #[.int .i64 a0_0, .int .i64 a0_1, .int .i64 a0_2, .slice A0_3 l0_3.length c0_3, .slice A0_4 l0_4.length c0_4] 24))
  clear hfit hr0_3 hr0_4 hr1
  go_enter Try.func10, Try.ntmps10
  go_wp2_with fail
  refine (HSM.out _).mono ?_
  rintro e w1 ⟨rfl, hb1⟩
  have HB1 := Lib.hid (HBa.out.trans (hb1.mono HBa.out.size))
  have hf1 := HFB.out.below hb1 (by simp)
  obtain ⟨e0, e1, e2, e3, e4⟩ := hf1.cells
  clear hb1 hf1 HFB HBa
  go_wp2_with fail
  refine (HFI.out _ HB1.out).mono ?_
  rintro e w2 ⟨rfl, hb2⟩
  have HB2 := Lib.hid (HB1.out.trans (hb2.mono HB1.out.size))
  clear e0 e1 e2 e3 e4 hb2 HB1
  go_wp2_with fail
  go_ret
  exact ⟨rfl, HB2.out⟩
theorem regionParts_all (a0_0 : Int) (a0_1 : Int) (a0_2 : Int) (A0_3 : Option Addr) (c0_3 : Nat) (l0_3 : List Int) (A0_4 : Option Addr) (c0_4 : Nat) (l0_4 : List Int) (A1 : Option Addr) (c1 : Nat) (l1 : List Int) (w : World)
    (hr0_3 : Kd.C (Kd.int .i64) w A0_3 l0_3.length l0_3) (hc0_3 : l0_3.length ≤ c0_3) (hr0_4 : Kd.C (Kd.int .i64) w A0_4 l0_4.length l0_4) (hc0_4 : l0_4.length ≤ c0_4)
    (hr1 : Kd.C (Kd.int .i64) w A1 l1.length l1) (hc1 : l1.length ≤ c1) (hl1 : l1.length ≤ 9223372036854775807) :
    Calls Try.prog 10 #[.agg #[.int .i64 a0_0, .int .i64 a0_1, .int .i64 a0_2, .slice A0_3 l0_3.length c0_3, .slice A0_4 l0_4.length c0_4], .slice A1 l1.length c1] w fun e w' => e = .returned (.bool true) ∧ Below w.heap.size w w' := by
  obtain ⟨b, hb, hb2⟩ := fits_said a0_0 a0_1 a0_2 l0_3 l0_4 l1
  cases b with
  | false => exact parts_early a0_0 a0_1 a0_2 A0_3 c0_3 l0_3 A0_4 c0_4 l0_4 A1 c1 l1 w hr0_3 hc0_3 hr0_4 hc0_4 hr1 hc1 hb
  | true =>
    obtain ⟨G, hn, hl, hs⟩ := hb2.1 rfl
    exact parts_walk a0_0 a0_1 a0_2 A0_3 c0_3 l0_3 A0_4 c0_4 l0_4 A1 c1 l1 w ⟨⟨hr0_3, hc0_3⟩, ⟨hr0_4, hc0_4⟩, G⟩ ⟨hr1, hc1⟩ hs hb hl hn (askP G hs)
end Go.Proofs.Ytmnncmpmhbfpcaa.Y
end
section
namespace Go.Proofs.Ytmnncmpmhbfpcaa.regionParts
open Go.ChangeShapes Go.WideShapes Go.ChangeAt Go.RowKit
open Go.ChangeMaps (open_string shut_string)
set_option linter.unusedVariables false
theorem own : ownKnob Try.prog.godebug = none := by kernel_rfl
theorem laidOut : laidOutB Try.prog = true := by kernel_rfl
set_option maxRecDepth 100000 in
theorem lifted (os : Os) (started : os.Started) (H : Type) (enc : TypeId × Value → H) :
    ReturnsInHanded {} Try.checked os 10 .any (Rows.regionPartsSpec.pre6 enc Try.prog Try.f10 Rows.regionPartsRow.domain false) (Rows.regionPartsSpec.post enc Try.prog Try.f10 false true false false) := by
  refine returnsInHanded_of_change_sized (C := Try.checked) own started (by kernel_rfl) Try.func10
    (ChangeSpec.witness6 (enc := enc) (C := Try.checked) false ⟨#[], #[.agg #[.int .i64 0, .int .i64 0, .int .i64 0, .slice none 0 0, .slice none 0 0], .slice none 0 0], []⟩ 8 (by kernel_rfl) (by kernel_rfl) (by kernel_rfl) (by kernel_rfl)) ?_
  intro W base args ds gs before hval0 hW hcnd hsz0 _
  have hval : ∀ (j : Nat) t v, Try.f10.params[j]? = some t → args[j]? = some v → Value.okWide Try.prog W .any base t v := hval0
  have hW' := hW
  obtain ⟨p, q, hA0, hV, rfl, hfz, hnd⟩ := hW
  have hA : DataW.TrodAll enc Try.prog W 0 (fun _ => true) true Try.f10.params.toList args.toList ds p := hA0
  rw [Try.params10] at hA hval
  obtain ⟨v0, vs0, d0, ds0, p0, q0, hargs, rfl, rfl, h0, r0⟩ := trodAll_cons hA
  obtain ⟨v1, vs1, d1, ds1, p1, q1, rfl, rfl, rfl, h1, r1⟩ := trodAll_cons r0
  obtain ⟨rfl, rfl, rfl⟩ := trodAll_nil r1
  obtain rfl : args = #[v0, v1] := by cases args; simp_all
  obtain ⟨rfl, rfl⟩ := trodVars_none hV
  have k0 := h0
  have lt0 : ∀ x ∈ p0, x.block < W.heap.size := by obtain ⟨m, hm⟩ := k0; exact DataW.trod_lt m _ _ _ hm
  obtain ⟨a0_0, a0_1, a0_2, A0_3, c0_3, l0_3, A0_4, c0_4, l0_4, rfl, z0, ⟨hr0_3, hm0_3, hw0_3, hc0_3⟩, ⟨hr0_4, hm0_4, hw0_4, hc0_4⟩⟩ := R.open_floor (hval 0 24 v0 rfl rfl) h0
  have k1 := h1
  have lt1 : ∀ x ∈ p1, x.block < W.heap.size := by obtain ⟨m, hm⟩ := k1; exact DataW.trod_lt m _ _ _ hm
  obtain ⟨A1, c1, l1, rfl, hr1, hm1, hw1, hc1⟩ := R.open_row (hval 1 22 v1 rfl rfl) h1
  clear hA0 hval0 hsz0
  refine (Y.regionParts_all a0_0 a0_1 a0_2 A0_3 c0_3 l0_3 A0_4 c0_4 l0_4 A1 c1 l1 W hr0_3 hc0_3 hr0_4 hc0_4 hr1 hc1 hm1).mono fun e W' ⟨he, bel⟩ => ?_
  subst he
  exact ⟨_, rfl, _, _, _, [], _, [], hW', trodAll_mk1 (shut_bool Try.underlying4 _), (trodAll_cons_mk (Below.trod laidOut (by kernel_rfl) (of_decide_eq_true (by kernel_rfl)) k0 bel lt0) (trodAll_cons_mk (Below.trod laidOut (by kernel_rfl) (of_decide_eq_true (by kernel_rfl)) k1 bel lt1) trodAll_mk0)), rfl, bel.frame _, fun h => by cases h⟩
theorem over : Rows.regionPartsRow.holds Try.pinned (OpenSpec.ofChange Rows.regionPartsSpec) :=
  OpenClaim.holds_of_wide 10 Try.f10 rfl rfl rfl rfl rfl rfl rfl ⟨rfl, rfl, rfl, rfl, rfl⟩ rfl rfl rfl rfl rfl (by kernel_rfl) Try.func10 (by kernel_rfl)
    (of_decide_eq_true (by kernel_rfl)) (by unfold Func.isWrapper; first | (rw [if_pos (by decide +kernel)]; kernel_rfl) | (rw [if_neg (by decide +kernel)]; exact ⟨rfl, rfl⟩))
    (fun os started H enc _ => lifted os started H enc)
theorem proved : Rows.RegionPartsSaid := over
#print axioms proved
end Go.Proofs.Ytmnncmpmhbfpcaa.regionParts
namespace Go.Proofs.Ytmnncmpmhbfpcaa
theorem regionParts_holds : Rows.RegionPartsSaid := regionParts.proved
end Go.Proofs.Ytmnncmpmhbfpcaa
end
