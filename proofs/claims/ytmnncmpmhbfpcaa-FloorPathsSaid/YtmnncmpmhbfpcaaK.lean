/- The walk of the law FloorPaths, where all that it asks holds; and what it asks. -/
import Derived.Test.YtmnncmpmhbfpcaaF
import Derived.Test.YtmnncmpmhbfpcaaP2
import Derived.Deep.QuietTactic
import Derived.Deep.LoopGhost
namespace Go.Proofs.Ytmnncmpmhbfpcaa.G
set_option linter.unusedVariables false
set_option linter.unusedSimpArgs false
open Go.RowKit Go.Proofs.YtmnncmpmhbfpcaaW.PrintWords Go.Proofs.YtmnncmpmhbfpcaaW.PrintLast Go.Proofs.YtmnncmpmhbfpcaaW.PrintMore
open Go.Proofs.Ytmnncmpmhbfpcaa.A Go.Proofs.Ytmnncmpmhbfpcaa.H Go.Proofs.Ytmnncmpmhbfpcaa.B Go.Proofs.Ytmnncmpmhbfpcaa.S Go.Proofs.Ytmnncmpmhbfpcaa.C Go.Proofs.Ytmnncmpmhbfpcaa.D Go.Proofs.Ytmnncmpmhbfpcaa.F Go.Proofs.Ytmnncmpmhbfpcaa.P

structure AskedP (W H D : Int) (K O : List Int) (a b : Int) (l2 p far : List Int) : Prop where
  lenf : far.length = K.length
  out : ¬ (0 ≤ a ∧ a < (K.length : Int) ∧ 0 ≤ b ∧ b < (K.length : Int)) → p = []
  len : ∀ bn : Nat, b = bn → bn < K.length → 0 ≤ a → a < (K.length : Int) → (p.length : Int) = far.getD bn 0 + 1 ∧ far.getD bn 0 ≤ 1000000
  cells : ∀ i, i < p.length → ∃ c : Nat, p.getD i 0 = c ∧ c < K.length ∧ (c : Int) ∉ l2
  first : 0 < p.length → p.getD 0 0 = a
  last : ∀ i, i + 1 = p.length → p.getD i 0 = b
  step : ∀ i, i + 1 < p.length → ∃ d0 : Nat, d0 < 6 ∧ floor_Next.f 1 W H D K O (p.getD i 0) d0 = some (p.getD (i + 1) 0, true) ∧
    ∀ d : Nat, d < d0 → ∃ m ok, floor_Next.f 1 W H D K O (p.getD i 0) d = some (m, ok) ∧ (ok = true → m ≠ p.getD (i + 1) 0 ∧
      ∃ rest, floor_Dist.f W H D K O [m] l2 = some rest ∧ rest.length = K.length ∧ ∀ bn : Nat, b = bn → ¬ (0 ≤ rest.getD bn 0 ∧ rest.getD bn 0 ≤ (p.length : Int) - 2 - i))

def T24 : Bool × List (List Nat × List Nat) := (true, [([], []), ([], []), ([], []), ([1, 2], [1, 2]), ([3], [3]), ([], []), ([0, 4, 5], [0, 4, 5]), ([6], [6]), ([7], [7]), ([7], [7]), ([8, 6, 0, 1, 2, 3, 4, 5, 6, 7, 8], [8]), ([9, 10, 0, 1, 2, 3, 4, 5, 6, 7, 8, 9, 10], [9])])
def B24 : List Nat := [0, 0, 0, 6, 14, 0, 63, 127, 255, 255, 511, 2047]
theorem tab24 : rtab .any (opsOf Try.f5 24) = T24 := by kernel_rfl
theorem bits24 : waitsOk T24.2 B24 = true := by kernel_rfl

set_option maxRecDepth 100000 in
set_option maxHeartbeats 8000000 in
theorem paths_walk (a0_0 : Int) (a0_1 : Int) (a0_2 : Int) (A0_3 : Option Addr) (c0_3 : Nat) (l0_3 : List Int) (A0_4 : Option Addr) (c0_4 : Nat) (l0_4 : List Int) (a1 : Int) (a2 : Int) (A3 : Option Addr) (c3 : Nat) (l3 : List Int) (w : World)
    (hr0_3 : Kd.C (Kd.int .i64) w A0_3 l0_3.length l0_3) (hc0_3 : l0_3.length ≤ c0_3) (hr0_4 : Kd.C (Kd.int .i64) w A0_4 l0_4.length l0_4) (hc0_4 : l0_4.length ≤ c0_4)
    (hr3 : Kd.C (Kd.int .i64) w A3 l3.length l3) (hc3 : l3.length ≤ c3)
    (hfair : taquinlaw07_fair.f 5000 a0_0 a0_1 a0_2 l0_3 l0_4 300 = some true) (hl3 : l3.length ≤ 30) (hn1 : 0 < l0_3.length) (hn2 : l0_3.length ≤ 300)
    (p far : List Int) (hpath : floor_Path.f 5000 a0_0 a0_1 a0_2 l0_3 l0_4 a1 a2 l3 = some p) (hdist : floor_Dist.f a0_0 a0_1 a0_2 l0_3 l0_4 [a1] l3 = some far) (hask : AskedP a0_0 a0_1 a0_2 l0_3 l0_4 a1 a2 l3 p far)
    (hhas : ∀ (l : List Int) (x : Int), l.length ≤ 30 → taquinlaw07_has.f 5000 l x = some (decide (x ∈ l))) :
    Calls Try.prog 5 #[.agg #[.int .i64 a0_0, .int .i64 a0_1, .int .i64 a0_2, .slice A0_3 l0_3.length c0_3, .slice A0_4 l0_4.length c0_4], .int .i64 a1, .int .i64 a2, .slice A3 l3.length c3] w fun e w' => e = .returned (.bool true) ∧ Below w.heap.size w w' := by
  have HSM := Lib.hid (fun W => taquinlaw07_small.calls 100 true W small_holds)
  have HFA := Lib.hid (fun W (h : Below w.heap.size w W) => taquinlaw07_fair.calls 5000 a0_0 a0_1 a0_2 A0_3 c0_3 l0_3 A0_4 c0_4 l0_4 300 true W (Kd.C_below hr0_3 h) hc0_3 (Kd.C_below hr0_4 h) hc0_4 hfair)
  have HPA := Lib.hid (fun W (h : Below w.heap.size w W) => floor_Path.calls 5000 a0_0 a0_1 a0_2 A0_3 c0_3 l0_3 A0_4 c0_4 l0_4 a1 a2 A3 c3 l3 p W (Kd.C_below hr0_3 h) hc0_3 (Kd.C_below hr0_4 h) hc0_4 (Kd.C_below hr3 h) hc3 hpath)
  have HDI := Lib.hid (fun (A : Option Addr) (c : Nat) (x : Int) (r : List Int) (hd : floor_Dist.f a0_0 a0_1 a0_2 l0_3 l0_4 [x] l3 = some r) W (h : Below w.heap.size w W) (hA : Kd.C (Kd.int .i64) W A [x].length [x]) (hc : [x].length ≤ c) => floor_Dist.calls a0_0 a0_1 a0_2 A0_3 c0_3 l0_3 A0_4 c0_4 l0_4 A c [x] A3 c3 l3 r W (Kd.C_below hr0_3 h) hc0_3 (Kd.C_below hr0_4 h) hc0_4 hA hc (Kd.C_below hr3 h) hc3 hd)
  have HNX := Lib.hid (fun (c d : Int) (p : Int × Bool) (hp : floor_Next.f 1 a0_0 a0_1 a0_2 l0_3 l0_4 c d = some p) W (h : Below w.heap.size w W) => floor_Next.calls 1 a0_0 a0_1 a0_2 A0_3 c0_3 l0_3 A0_4 c0_4 l0_4 c d p.1 p.2 W (Kd.C_below hr0_3 h) hc0_3 (Kd.C_below hr0_4 h) hc0_4 hp)
  have HH2 := Lib.hid (fun (x : Int) (b : Bool) (hb : decide (x ∈ l3) = b) W (h : Below w.heap.size w W) => taquinlaw07_has.calls 5000 A3 c3 l3 x b W (Kd.C_below hr3 h) hc3 (by rw [hhas l3 x hl3, hb]))
  have HASK := Lib.hid hask
  have HFB := Lib.hid (FBox.new w #[.int .i64 a0_0, .int .i64 a0_1, .int .i64 a0_2, .slice A0_3 l0_3.length c0_3, .slice A0_4 l0_4.length c0_4])
  have HBa := Lib.hid ((Below.refl w.heap.size w).alloc (Nat.le_refl _) (.cells #[.int .i64 a0_0, .int .i64 a0_1, .int .i64 a0_2, .slice A0_3 l0_3.length c0_3, .slice A0_4 l0_4.length c0_4] 24))
  have HD0 := Lib.hid hdist
  clear hfair hdist hpath hask hhas hr0_3 hr0_4 hr3
  go_enter Try.func5, Try.ntmps5
  go_wp2_with fail
  refine (HSM.out _).mono ?_
  rintro e w1 ⟨rfl, hb1⟩
  have HB1 := Lib.hid (HBa.out.trans (hb1.mono HBa.out.size))
  have hf1 := HFB.out.below hb1 (by simp)
  have HF1 := Lib.hid hf1
  obtain ⟨e0, e1, e2, e3, e4⟩ := hf1.cells
  clear hb1 hf1 HFB HBa
  go_wp2_with fail
  refine (HFA.out _ HB1.out).mono ?_
  rintro e w2 ⟨rfl, hb2⟩
  have HB2 := Lib.hid (HB1.out.trans (hb2.mono HB1.out.size))
  have hf2 := HF1.out.below hb2 HF1.out.lt
  have HF2 := Lib.hid hf2
  clear e0 e1 e2 e3 e4
  obtain ⟨e0, e1, e2, e3, e4⟩ := hf2.cells
  clear hb2 hf2 HF1 HB1
  have d1 : decide ((l3.length : Int) > 30) = false := decide_eq_false (by omega)
  go_wp2_with fail
  refine (HPA.out _ HB2.out).mono ?_
  rintro e w3 ⟨v0, rfl, hRp, hb3⟩
  have HB3 := Lib.hid (HB2.out.trans (hb3.mono HB2.out.size))
  have hf3 := HF2.out.below hb3 HF2.out.lt
  have HF3 := Lib.hid hf3
  clear e0 e1 e2 e3 e4 d1
  obtain ⟨e0, e1, e2, e3, e4⟩ := hf3.cells
  clear hb3 hf3 HF2 HB2
  obtain ⟨Ap, capp, rfl, _, hCp⟩ := Kd.R_reads hRp
  have HCp := Lib.hid hCp
  clear hRp hCp
  go_wp2_with (first | ((with_reducible refine gate_dst (N := 35) rfl ?_); refine Kd.R_lit (Kd.int .i64) _ 3 ?hg (N := 35) ?hd (xs := ([a1] : List Int)) (inner := [.int .i64 a1]) (ok := fun _ => True) (okp := fun _ => True) ?hr ?hp (fun _ hk => hk) trivial (Below.refl _ _) (Nat.le_refl _) (by simp) ?_; (case hd => rfl); (case hg => rfl); (case hr => first | (go_simp; done) | (go_simp; rfl)); (case hp => exact (Reps.one (show Kd.M (Kd.int .i64) _ _ _ a1 [.int .i64 a1] from rfl) (Reps.none _ _))); intro vl wl hol hbl hg_ hnew_; clear hg_ hnew_))
  obtain ⟨Al, cl, hvl⟩ := Kd.R_slice hol
  rw [show ([a1] : List Int).length = 1 from rfl] at hvl
  subst hvl
  have HBl := Lib.hid (HB3.out.trans (hbl.mono HB3.out.size))
  have hfl := HF3.out.below hbl HF3.out.lt
  refine (HDI.out Al cl a1 far HD0.out wl HBl.out (Kd.R_reads' hol).2.2 (Kd.R_reads' hol).2.1).mono ?_
  rintro e w4 ⟨v0, rfl, hR, hb4⟩
  have HB4 := Lib.hid (HBl.out.trans (hb4.mono HBl.out.size))
  have HQ := Lib.hid (hbl.trans (hb4.mono hbl.size))
  have hf4 := hfl.below hb4 hfl.lt
  have HF4 := Lib.hid hf4
  clear e0 e1 e2 e3 e4
  obtain ⟨e0, e1, e2, e3, e4⟩ := hf4.cells
  obtain ⟨A, cap, rfl, _, hC⟩ := Kd.R_reads hR
  obtain ⟨ar, rfl, harlt, hrc⟩ := reads_at hC (by rw [HASK.out.lenf]; exact hn1)
  have HRC := Lib.hid hrc
  clear hR hC hrc hf4 hfl hb4 hbl hol HBl HF3 HB3
  rw [HASK.out.lenf]
  dsimp only
  by_cases hin : 0 ≤ a1 ∧ a1 < (l0_3.length : Int) ∧ 0 ≤ a2 ∧ a2 < (l0_3.length : Int)
  · obtain ⟨b0, b1, b2, b3⟩ := hin
    obtain ⟨bn, rfl⟩ : ∃ bn : Nat, a2 = bn := ⟨a2.toNat, by omega⟩
    obtain ⟨hpl, hfb⟩ := HASK.out.len bn rfl (by omega) b0 b1
    have hcb : w4.cell? (ar.add bn) = some (.int .i64 (far[bn]?.getD 0)) := HRC.out bn (by rw [HASK.out.lenf]; omega)
    rw [← List.getD_eq_getElem?_getD] at hcb
    generalize far.getD bn 0 = fb at hcb hpl hfb
    have q1 : decide ((bn : Int) < 0) = false := decide_eq_false (by omega)
    have q2 : decide ((bn : Int) ≥ (l0_3.length : Int)) = false := decide_eq_false (by omega)
    have q2n : decide (l0_3.length ≤ bn) = false := decide_eq_false (by omega)
    have q3 : decide (a1 < 0) = false := decide_eq_false (by omega)
    have q4 : decide (a1 ≥ (l0_3.length : Int)) = false := decide_eq_false (by omega)
    have q5 : ((bn : Int) < (l0_3.length : Int)) = True := eq_true (by omega)
    have q6 : ((p.length : Int) != fb + 1) = false := by simp [hpl]
    have q7 : decide ((p.length : Int) = fb + 1) = true := decide_eq_true hpl
    have q8 : ((p.length : Int) == fb + 1) = true := by simp [hpl]
    have hw0 : wrap64 (fb + 1) = fb + 1 := wsm _ (by omega) (by omega)
    go_wp2_with fail
    clear q1 q2 q2n q3 q4 q6 q7 q8 hw0 hcb e0 e1 e2 e3 e4
    have HPL := Lib.hid (And.intro hpl hfb)
    have hpl2 : p.length ≤ 1000001 := by omega
    clear hpl hfb
    go_loopw [12] (fun i wr => ∃ c : Nat, c ≤ p.length ∧ i = .int .i64 c ∧ Hid (Below w4.heap.size w4 wr)) (fun i _ => p.length - (intOf i).toNat)
    case atStart => exact ⟨0, by omega, rfl, Lib.hid (Below.refl _ _)⟩
    case round =>
      obtain ⟨c, hcn, rfl, HR⟩ := hrel
      by_cases hlt : c < p.length
      · obtain ⟨ap, rfl, haplt, hpc⟩ := reads_at HCp.out (by omega)
        have HPC := Lib.hid (fun j (hj : j < p.length) => (show w3.cell? (ap.add j) = some (.int .i64 (p.getD j 0)) by rw [hpc j hj, ← List.getD_eq_getElem?_getD]))
        clear hpc
        obtain ⟨cc, hcc, hccn, hcav⟩ := HASK.out.cells c hlt
        have HPCc := Lib.hid (HPC.out c hlt)
        rw [hcc] at HPCc
        have hck : wr.cell? (ap.add c) = some (.int .i64 cc) := ((HQ.out.trans (HR.out.mono HQ.out.size)).cell (p := ap.add c) (by rw [block_of_add']; exact haplt)).trans HPCc.out
        have HCC := Lib.hid hcc
        clear hcc
        have hb : decide ((cc : Int) ∈ l3) = false := decide_eq_false hcav
        go_upto_region 15 with (fail)
        go_cut [121] (fun v121 wc => v121 = .bool false ∧ Hid (Below w4.heap.size w4 wc))
        case first =>
          have q1 : decide ((cc : Int) < 0) = false := decide_eq_false (by omega)
          have q2 : decide ((cc : Int) ≥ (l0_3.length : Int)) = false := decide_eq_false (by omega)
          have q2n : decide (l0_3.length ≤ cc) = false := decide_eq_false (by omega)
          have hw0 : Hid (wrap64 ((p.length : Int) - 1) = (p.length : Int) - 1) := Lib.hid (wsm _ (by omega) (by omega))
          by_cases hc0 : c = 0
          · have hca : (cc : Int) = a1 := by
              have := HASK.out.first (by omega)
              rw [← this, ← HCC.out, hc0]
            subst hc0
            subst hca
            have hck0 : wr.cell? ap = some (.int .i64 cc) := hck
            have e00 : ((0 : Nat) : Int) = 0 := rfl
            rw [e00]
            by_cases hcl : 0 + 1 = p.length
            · have hcb : cc = bn := by have := HASK.out.last 0 hcl; rw [HCC.out] at this; omega
              subst hcb
              have hw1 : wrap64 ((p.length : Int) - 1) = 0 := by rw [hw0.out]; omega
              have hw2 : IntKind.i64.wrap ((p.length : Int) - 1) = 0 := by rw [i64_w]; exact hw1
              clear hw0
              go_wp2_with fail
              go_meet
              case rel => exact ⟨rfl, HR⟩
            · have hne : ¬ (0 : Int) = (p.length : Int) - 1 := by omega
              obtain ⟨j1, hj1⟩ : ∃ j1, (p.length : Int) - 1 = j1 := ⟨_, rfl⟩
              have r1 : ((0 : Int) == j1) = false := by
                rw [beq_eq_false_iff_ne, ← hj1]
                exact hne
              have hw1 : wrap64 ((p.length : Int) - 1) = j1 := by rw [hw0.out, hj1]
              have hw2 : IntKind.i64.wrap ((p.length : Int) - 1) = j1 := by rw [i64_w]; exact hw1
              clear hw0 hj1 hne
              go_wp2_with fail
              go_meet
              case rel => exact ⟨rfl, HR⟩
          · have q3 : ((c : Int) == 0) = false := by
              rw [beq_eq_false_iff_ne]
              omega
            by_cases hcl : c + 1 = p.length
            · have hcb : cc = bn := by have := HASK.out.last c hcl; rw [HCC.out] at this; omega
              subst hcb
              have hw1 : wrap64 ((p.length : Int) - 1) = (c : Int) := by rw [hw0.out]; omega
              have hw2 : IntKind.i64.wrap ((p.length : Int) - 1) = (c : Int) := by rw [i64_w]; exact hw1
              clear hw0
              go_wp2_with fail
              go_meet
              case rel => exact ⟨rfl, HR⟩
            · have hne : ¬ (c : Int) = (p.length : Int) - 1 := by omega
              obtain ⟨j1, hj1⟩ : ∃ j1, (p.length : Int) - 1 = j1 := ⟨_, rfl⟩
              have r1 : ((c : Int) == j1) = false := by
                rw [beq_eq_false_iff_ne, ← hj1]
                exact hne
              have hw1 : wrap64 ((p.length : Int) - 1) = j1 := by rw [hw0.out, hj1]
              have hw2 : IntKind.i64.wrap ((p.length : Int) - 1) = j1 := by rw [i64_w]; exact hw1
              clear hw0 hj1 hne
              go_wp2_with fail
              go_meet
              case rel => exact ⟨rfl, HR⟩
        case rest =>
          clear hck HR
          obtain ⟨rfl, HR⟩ := hcut
          have hck : wc.cell? (ap.add c) = some (.int .i64 cc) := ((HQ.out.trans (HR.out.mono HQ.out.size)).cell (p := ap.add c) (by rw [block_of_add']; exact haplt)).trans HPCc.out
          have HBr := Lib.hid (HB4.out.trans (HR.out.mono HB4.out.size))
          go_wp2_with fail
          refine (HH2.out _ _ hb _ HBr.out).mono ?_
          rintro e w5 ⟨rfl, ⟨nd, rfl⟩⟩
          have HR5 := Lib.hid (pw_below_drewN HR.out nd)
          clear HR HBr hck
          have hck : (wc.drewN nd).cell? (ap.add c) = some (.int .i64 cc) := ((HQ.out.trans (HR5.out.mono HQ.out.size)).cell (p := ap.add c) (by rw [block_of_add']; exact haplt)).trans HPCc.out
          have HBr := Lib.hid (HB4.out.trans (HR5.out.mono HB4.out.size))
          generalize wc.drewN nd = w5 at hck HBr HR5 ⊢
          by_cases hcl : c + 1 = p.length
          · have hw0 : wrap64 ((p.length : Int) - 1) = (c : Int) := by rw [wsm _ (by omega) (by omega)]; omega
            have hw2 : IntKind.i64.wrap ((p.length : Int) - 1) = (c : Int) := by rw [i64_w]; exact hw0
            clear hcl
            go_wp2_with fail
            refine (HH2.out _ _ hb _ HBr.out).mono ?_
            rintro e w6 ⟨rfl, ⟨nd2, rfl⟩⟩
            clear hw0 hw2
            go_wp2_with fail
            go_roundw
            case rel => exact ⟨c + 1, by omega, by go_num, Lib.hid (pw_below_drewN HR5.out nd2)⟩
            case measure => simp [intOf]; omega
          · have hne : ¬ (c : Int) = (p.length : Int) - 1 := by omega
            obtain ⟨j1, hj1⟩ : ∃ j1, (p.length : Int) - 1 = j1 := ⟨_, rfl⟩
            have r1 : ((c : Int) == j1) = false := by
              rw [beq_eq_false_iff_ne, ← hj1]
              exact hne
            have hw1 : wrap64 ((p.length : Int) - 1) = j1 := by rw [wsm _ (by omega) (by omega), hj1]
            have hw2 : IntKind.i64.wrap ((p.length : Int) - 1) = j1 := by rw [i64_w]; exact hw1
            clear hj1 hne
            go_wp2_with fail
            clear r1 hw1 hw2 hck HBr
            obtain ⟨d0, hd0, hN0, hlow⟩ := HASK.out.step c (by omega)
            rw [HCC.out] at hN0 hlow
            have HN0 := Lib.hid hN0
            have HLOW := Lib.hid hlow
            clear hN0 hlow
            go_loopw [13, 14] (fun m d wr2 => ∃ dn : Nat, dn ≤ d0 + 1 ∧ d = .int .i64 dn ∧ m = .bool (decide (d0 < dn)) ∧ Hid (Below w4.heap.size w4 wr2)) (fun _ d _ => 7 - (intOf d).toNat)
            case atStart => exact ⟨0, by omega, rfl, by simp, HR5⟩
            case round =>
              obtain ⟨dn, hdn, rfl, rfl, HR2⟩ := hrel
              by_cases hmet : d0 < dn
              · have q1 : decide (d0 < dn) = true := decide_eq_true hmet
                rw [q1]
                by_cases hd6 : dn < 6
                · go_wp2_with fail
                  go_roundw
                  case rel => exact ⟨c + 1, by omega, by go_num, HR2⟩
                  case measure => simp [intOf]; omega
                · have q2 : decide ((dn : Int) < 6) = false := decide_eq_false (by omega)
                  go_wp2_with fail
                  go_roundw
                  case rel => exact ⟨c + 1, by omega, by go_num, HR2⟩
                  case measure => simp [intOf]; omega
              · have q1 : decide (d0 < dn) = false := decide_eq_false hmet
                rw [q1]
                have q2 : decide ((dn : Int) < 6) = true := decide_eq_true (by omega)
                obtain ⟨m, ok, hN⟩ : ∃ m ok, Hid (floor_Next.f 1 a0_0 a0_1 a0_2 l0_3 l0_4 cc dn = some (m, ok)) := by
                  by_cases hdd : dn = d0
                  · rw [hdd]
                    exact ⟨_, _, HN0⟩
                  · obtain ⟨m, ok, h, _⟩ := HLOW.out dn (by omega)
                    exact ⟨m, ok, Lib.hid h⟩
                have p153 : (0 ≤ (c : Int)) = True := eq_true (by omega)
                have q153 : ((c : Int) < (p.length : Int)) = True := eq_true (by omega)
                go_upto_region 24 with (fail)
                have HR2d := Lib.hid (below_drew1 HR2.out)
                have hckd : wr.drew.cell? (ap.add c) = some (.int .i64 cc) := ((HQ.out.trans (HR2d.out.mono HQ.out.size)).cell (p := ap.add c) (by rw [block_of_add']; exact haplt)).trans HPCc.out
                have hfd := HF4.out.below HR2d.out HF4.out.lt
                obtain ⟨e0, e1, e2, e3, e4⟩ := hfd.cells
                clear hfd
                have HBd := Lib.hid (HB4.out.trans (HR2d.out.mono HB4.out.size))
                refine start_ (n := 12) (S := fun w' => w'.cell? ⟨w.heap.size, 0, none⟩ = some (.int .i64 a0_0) ∧ w'.cell? ⟨w.heap.size, 1, none⟩ = some (.int .i64 a0_1) ∧ w'.cell? ⟨w.heap.size, 2, none⟩ = some (.int .i64 a0_2) ∧ w'.cell? ⟨w.heap.size, 3, none⟩ = some (.slice A0_3 l0_3.length c0_3) ∧ w'.cell? ⟨w.heap.size, 4, none⟩ = some (.slice A0_4 l0_4.length c0_4) ∧ w'.cell? (ap.add c) = some (.int .i64 cc)) (ds := []) #[false, false, false, false, false, false, false, false, false, false, false, false] (by kernel_rfl) rfl rfl ⟨e0, e1, e2, e3, e4, hckd⟩ (fun hHeld => ?_); refine with_tabW tab24 bits24 (fun HT_ HW_ => ?_)
                clear e0 e1 e2 e3 e4 hckd
                generalize wr.drew = w67 at HR2d HBd hHeld ⊢
                refine pure_ (i := 1) (N := some 151) (v := ?_) (a' := ?_) #[false, true, false, false, false, false, false, false, false, false, false, false] rfl rfl (any_of HT_.out (by kernel_rfl)) (fun _ _ _ h => h) (Or.inl ⟨by rfl, ?_⟩) ?_ ?_
                rotate_left
                · intro w'
                  go_simp
                  with_reducible rfl
                rotate_left
                · simp only [Act.put, List.setIfInBounds_toArray, List.set_cons_zero, List.set_cons_succ, i64_w, i32_w]
                  rfl
                refine pure_ (i := 2) (N := some 152) (v := ?_) (a' := ?_) #[false, true, true, false, false, false, false, false, false, false, false, false] rfl rfl (any_of HT_.out (by kernel_rfl)) (fun _ _ _ h => h) (Or.inl ⟨by rfl, ?_⟩) ?_ ?_
                rotate_left
                · intro w'
                  go_simp
                  with_reducible rfl
                rotate_left
                · simp only [Act.put, List.setIfInBounds_toArray, List.set_cons_zero, List.set_cons_succ, i64_w, i32_w]
                  rfl
                refine pure_ (i := 3) (N := some 153) (v := ?_) (a' := ?_) #[false, true, true, true, false, false, false, false, false, false, false, false] rfl rfl (any_of HT_.out (by kernel_rfl)) (fun _ _ _ h => h) (Or.inl ⟨by rfl, ?_⟩) ?_ ?_
                rotate_left
                · intro w'
                  go_simp
                  with_reducible rfl
                rotate_left
                · simp only [Act.put, List.setIfInBounds_toArray, List.set_cons_zero, List.set_cons_succ, i64_w, i32_w]
                  rfl
                refine pure_ (i := 5) (N := some 155) (v := ?_) (a' := ?_) #[false, true, true, true, false, true, false, false, false, false, false, false] rfl rfl (any_of HT_.out (by kernel_rfl)) (fun _ _ _ h => h) (Or.inl ⟨by rfl, ?_⟩) ?_ ?_
                rotate_left
                · intro w'
                  go_simp
                  with_reducible rfl
                rotate_left
                · simp only [Act.put, List.setIfInBounds_toArray, List.set_cons_zero, List.set_cons_succ, i64_w, i32_w]
                  rfl
                refine take_ (i := 0) (N := some 150) (v := ?_) (a' := ?_) #[true, true, true, true, false, true, false, false, false, false, false, false] rfl rfl (take_ofW HT_.out HW_.out (by kernel_rfl)) (fun _ _ _ h => h) (Or.inl ⟨by rfl, ?_⟩) hHeld ?_ ?_
                rotate_left
                · rintro w' ⟨s0, s1, s2, s3, s4, s5⟩
                  go_simp
                  with_reducible rfl
                rotate_left
                · simp only [Act.put, List.setIfInBounds_toArray, List.set_cons_zero, List.set_cons_succ, i64_w, i32_w]
                  rfl
                refine take_ (i := 4) (N := some 154) (v := ?_) (a' := ?_) #[true, true, true, true, true, true, false, false, false, false, false, false] rfl rfl (take_ofW HT_.out HW_.out (by kernel_rfl)) (fun _ _ _ h => h) (Or.inl ⟨by rfl, ?_⟩) hHeld ?_ ?_
                rotate_left
                · rintro w' ⟨s0, s1, s2, s3, s4, s5⟩
                  go_simp
                  with_reducible rfl
                rotate_left
                · simp only [Act.put, List.setIfInBounds_toArray, List.set_cons_zero, List.set_cons_succ, i64_w, i32_w]
                  rfl
                refine one_ (i := 6) (N := some 156) #[true, true, true, true, true, true, true, false, false, false, false, false] rfl rfl (one_of HT_.out (by kernel_rfl)) (by decide) (fun K hK => ?_)
                refine goes_ Try.func15 (by kernel_rfl) rfl #[.agg #[.int .i64 a0_0, .int .i64 a0_1, .int .i64 a0_2, .slice A0_3 l0_3.length c0_3, .slice A0_4 l0_4.length c0_4], .int .i64 cc, .int .i64 dn] (by rfl) rfl rfl (by (try simp only [List.map_toArray, List.map_cons, List.map_nil]); first | done | rfl) ?_
                refine (HNX.out cc dn (m, ok) hN.out _ HBd.out).mono ?_
                rintro e w68 ⟨rfl, hb68⟩
                refine ⟨_, rfl, ?_⟩
                have HR8 := Lib.hid (HR2d.out.trans (hb68.mono HR2d.out.size))
                clear hHeld
                have hck8 : w68.cell? (ap.add c) = some (.int .i64 cc) := ((HQ.out.trans (HR8.out.mono HQ.out.size)).cell (p := ap.add c) (by rw [block_of_add']; exact haplt)).trans HPCc.out
                have hf8 := HF4.out.below HR8.out HF4.out.lt
                obtain ⟨e0, e1, e2, e3, e4⟩ := hf8.cells
                clear hb68 hf8 HBd HR2d
                have HB8 := Lib.hid (HB4.out.trans (HR8.out.mono HB4.out.size))
                refine hK.out _ _ ⟨e0, e1, e2, e3, e4, hck8⟩ (fun hHeld => ?_)
                clear hK K
                refine norm_ (a' := ?_) ?_ ?_
                rotate_left
                · show Act.put _ (some 156) _ = _
                  simp only [Act.put, List.setIfInBounds_toArray, List.set_cons_zero, List.set_cons_succ, i64_w, i32_w]
                  rfl
                refine pure_ (i := 7) (N := some 149) (v := ?_) (a' := ?_) #[true, true, true, true, true, true, true, true, false, false, false, false] rfl rfl (any_of HT_.out (by kernel_rfl)) (fun _ _ _ h => h) (Or.inl ⟨by rfl, ?_⟩) ?_ ?_
                rotate_left
                · intro w'
                  go_simp
                  with_reducible rfl
                rotate_left
                · simp only [Act.put, List.setIfInBounds_toArray, List.set_cons_zero, List.set_cons_succ, i64_w, i32_w]
                  rfl
                refine pure_ (i := 8) (N := some 157) (v := ?_) (a' := ?_) #[true, true, true, true, true, true, true, true, true, false, false, false] rfl rfl (any_of HT_.out (by kernel_rfl)) (fun _ _ _ h => h) (Or.inl ⟨by rfl, ?_⟩) ?_ ?_
                rotate_left
                · intro w'
                  go_simp
                  with_reducible rfl
                rotate_left
                · simp only [Act.put, List.setIfInBounds_toArray, List.set_cons_zero, List.set_cons_succ, i64_w, i32_w]
                  rfl
                refine pure_ (i := 9) (N := some 158) (v := ?_) (a' := ?_) #[true, true, true, true, true, true, true, true, true, true, false, false] rfl rfl (any_of HT_.out (by kernel_rfl)) (fun _ _ _ h => h) (Or.inl ⟨by rfl, ?_⟩) ?_ ?_
                rotate_left
                · intro w'
                  go_simp
                  with_reducible rfl
                rotate_left
                · simp only [Act.put, List.setIfInBounds_toArray, List.set_cons_zero, List.set_cons_succ, i64_w, i32_w]
                  rfl
                refine pure_ (i := 10) (N := some 15) (v := ?_) (a' := ?_) #[true, true, true, true, true, true, true, true, true, true, true, false] rfl rfl (any_of HT_.out (by kernel_rfl)) (fun _ _ _ h => h) (Or.inl ⟨by rfl, ?_⟩) ?_ ?_
                rotate_left
                · intro w'
                  go_simp
                  with_reducible rfl
                rotate_left
                · simp only [Act.put, List.setIfInBounds_toArray, List.set_cons_zero, List.set_cons_succ, i64_w, i32_w]
                  rfl
                refine pure_ (i := 11) (N := some 16) (v := ?_) (a' := ?_) #[true, true, true, true, true, true, true, true, true, true, true, true] rfl rfl (any_of HT_.out (by kernel_rfl)) (fun _ _ _ h => h) (Or.inl ⟨by rfl, ?_⟩) ?_ ?_
                rotate_left
                · intro w'
                  go_simp
                  with_reducible rfl
                rotate_left
                · simp only [Act.put, List.setIfInBounds_toArray, List.set_cons_zero, List.set_cons_succ, i64_w, i32_w]
                  rfl
                refine done_ (done_of HT_.out (by kernel_rfl)) ?_
                clear HT_ HW_ hHeld hck8
                have hdle : dn ≤ d0 := by omega
                clear q1 p153 q153 hmet
                obtain ⟨c2, hc2, hc2n, _⟩ := HASK.out.cells (c + 1) (by omega)
                have hck2 : w68.cell? (ap.add (c + 1)) = some (.int .i64 c2) := ((HQ.out.trans (HR8.out.mono HQ.out.size)).cell (p := ap.add (c + 1)) (by rw [block_of_add']; exact haplt)).trans (by rw [← hc2]; exact HPC.out (c + 1) (by omega))
                obtain ⟨j, hj⟩ : ∃ j : Int, (c : Int) + 1 = j := ⟨_, rfl⟩
                have pj : (0 ≤ j) = True := eq_true (by omega)
                have qj : (j < (p.length : Int)) = True := eq_true (by omega)
                have hckj : w68.cell? (ap.add j.toNat) = some (.int .i64 c2) := by rw [show j.toNat = c + 1 by omega]; exact hck2
                have HJ : Hid (wrap64 ((c : Int) + 1) = j) := Lib.hid (by rw [wsm _ (by omega) (by omega)]; exact hj)
                clear hck2 hj
                by_cases hdd : dn = d0
                · have e1 : m = c2 ∧ ok = true := by
                    have h1 := hN.out
                    rw [hdd, HN0.out, hc2] at h1
                    simp only [Option.some.injEq, Prod.mk.injEq] at h1
                    exact ⟨h1.1.symm, h1.2.symm⟩
                  obtain ⟨e1, e2⟩ := e1
                  subst e1
                  subst e2
                  have hdd' := Lib.hid hdd
                  clear hdd
                  have hj1 := HJ.out
                  have hj2 : IntKind.i64.wrap ((c : Int) + 1) = j := by rw [i64_w]; exact hj1
                  go_wp2_with fail
                  clear hj1 hj2
                  go_roundw
                  case rel => exact ⟨dn + 1, by have := hdd'.out; omega, by go_num, by rw [decide_eq_true (by have := hdd'.out; omega)], HR8⟩
                  case measure => simp [intOf]; omega
                · obtain ⟨m', ok', h', hl⟩ := HLOW.out dn (by omega)
                  have e1 : m' = m ∧ ok' = ok := by
                    have h1 := hN.out
                    rw [h'] at h1
                    simp only [Option.some.injEq, Prod.mk.injEq] at h1
                    exact h1
                  obtain ⟨e1, e2⟩ := e1
                  subst e1
                  subst e2
                  have hlt' : dn < d0 := by omega
                  have HL := Lib.hid hl
                  clear h' hl hdd
                  cases ok' with
                  | false =>
                    go_wp2_with fail
                    go_roundw
                    case rel => exact ⟨dn + 1, by omega, by go_num, by rw [decide_eq_false (by omega)], HR8⟩
                    case measure => simp [intOf]; omega
                  | true =>
                    obtain ⟨hne, rest, hrd, hrl, hrb⟩ := HL.out rfl
                    rw [hc2] at hne
                    have qm : (m' == (c2 : Int)) = false := by rw [beq_eq_false_iff_ne]; exact hne
                    have hj1 := HJ.out
                    have hj2 : IntKind.i64.wrap ((c : Int) + 1) = j := by rw [i64_w]; exact hj1
                    have HRD := Lib.hid hrd
                    have HRB := Lib.hid (hrb bn rfl)
                    clear hrd hrb HL hne
                    go_wp2_with (first | ((with_reducible refine gate_dst (N := 176) rfl ?_); refine Kd.R_lit (Kd.int .i64) _ 3 ?hg (N := 176) ?hd (xs := ([m'] : List Int)) (inner := [.int .i64 m']) (ok := fun _ => True) (okp := fun _ => True) ?hr ?hp (fun _ hk => hk) trivial (Below.refl _ _) (Nat.le_refl _) (by simp) ?_; (case hd => rfl); (case hg => rfl); (case hr => first | (go_simp; done) | (go_simp; rfl)); (case hp => exact (Reps.one (show Kd.M (Kd.int .i64) _ _ _ m' [.int .i64 m'] from rfl) (Reps.none _ _))); intro vlm wlm holm hblm hg_ hnew_; clear hg_ hnew_))
                    clear hj1 hj2 qm e0 e1 e2 e3 e4 hckj
                    obtain ⟨Am, cm, hvm⟩ := Kd.R_slice holm
                    rw [show ([m'] : List Int).length = 1 from rfl] at hvm
                    subst hvm
                    have HBm := Lib.hid (HB8.out.trans (hblm.mono HB8.out.size))
                    have HRm := Lib.hid (HR8.out.trans (hblm.mono HR8.out.size))
                    refine (HDI.out Am cm m' rest HRD.out wlm HBm.out (Kd.R_reads' holm).2.2 (Kd.R_reads' holm).2.1).mono ?_
                    rintro e w7 ⟨v7, rfl, hR7, hb7⟩
                    have HR7 := Lib.hid (HRm.out.trans (hb7.mono HRm.out.size))
                    obtain ⟨A7, cap7, rfl, _, hC7⟩ := Kd.R_reads hR7
                    obtain ⟨ar7, rfl, h7lt, hrc7⟩ := reads_at hC7 (by rw [hrl]; exact hn1)
                    have hcb7 : w7.cell? (ar7.add bn) = some (.int .i64 (rest[bn]?.getD 0)) := hrc7 bn (by rw [hrl]; omega)
                    rw [← List.getD_eq_getElem?_getD] at hcb7
                    rw [hrl]
                    dsimp only
                    have hrb := HRB.out
                    generalize rest.getD bn 0 = rb at hcb7 hrb
                    have HF7 := HF4.out.below HR7.out HF4.out.lt
                    obtain ⟨e0, e1, e2, e3, e4⟩ := HF7.cells
                    clear hrc7 hC7 hR7 hb7 HRm HBm hblm holm HRD HRB HR8 HB8 hrl HF7
                    obtain ⟨k1, hk1⟩ : ∃ k1 : Int, (p.length : Int) - 2 = k1 := ⟨_, rfl⟩
                    obtain ⟨k2, hk2⟩ : ∃ k2 : Int, k1 - (c : Int) = k2 := ⟨_, rfl⟩
                    have hrb' : ¬ (0 ≤ rb ∧ rb ≤ k2) := by omega
                    have HK1 : Hid (wrap64 ((p.length : Int) - 2) = k1) := Lib.hid (by rw [wsm _ (by omega) (by omega)]; exact hk1)
                    have HK2 : Hid (wrap64 (k1 - (c : Int)) = k2) := Lib.hid (by rw [wsm _ (by omega) (by omega)]; exact hk2)
                    clear hk1 hk2 hrb
                    by_cases h0 : 0 ≤ rb
                    · have q3 : decide (rb ≥ 0) = true := decide_eq_true h0
                      have q4 : decide (rb ≤ k2) = false := decide_eq_false (fun h => hrb' ⟨h0, h⟩)
                      have k3 := HK1.out
                      have k4 := HK2.out
                      have k5 : IntKind.i64.wrap ((p.length : Int) - 2) = k1 := by rw [i64_w]; exact k3
                      have k6 : IntKind.i64.wrap (k1 - (c : Int)) = k2 := by rw [i64_w]; exact k4
                      clear hrb'
                      go_wp2_with fail
                      clear k3 k4 k5 k6
                      go_roundw
                      case rel => exact ⟨dn + 1, by omega, by go_num, by rw [decide_eq_false (by omega)], HR7⟩
                      case measure => simp [intOf]; omega
                    · have q3 : decide (rb ≥ 0) = false := decide_eq_false h0
                      clear hrb'
                      go_wp2_with fail
                      go_roundw
                      case rel => exact ⟨dn + 1, by omega, by go_num, by rw [decide_eq_false (by omega)], HR7⟩
                      case measure => simp [intOf]; omega
      · obtain rfl : c = p.length := by omega
        go_wp2_with fail
        go_ret
        exact ⟨rfl, HB4.out.trans (HR.out.mono HB4.out.size)⟩
  · have hp0 := HASK.out.out hin
    subst hp0
    clear HCp
    by_cases c1 : a2 < 0
    · have q1 : decide (a2 < 0) = true := decide_eq_true c1
      go_wp2_with fail
      go_ret
      exact ⟨rfl, HB4.out⟩
    · have q1 : decide (a2 < 0) = false := decide_eq_false c1
      by_cases c2 : a2 ≥ (l0_3.length : Int)
      · have q2 : decide (a2 ≥ (l0_3.length : Int)) = true := decide_eq_true c2
        go_wp2_with fail
        go_ret
        exact ⟨rfl, HB4.out⟩
      · have q2 : decide (a2 ≥ (l0_3.length : Int)) = false := decide_eq_false c2
        by_cases c3 : a1 < 0
        · have q3 : decide (a1 < 0) = true := decide_eq_true c3
          go_wp2_with fail
          go_ret
          exact ⟨rfl, HB4.out⟩
        · have q3 : decide (a1 < 0) = false := decide_eq_false c3
          have c4 : a1 ≥ (l0_3.length : Int) := by omega
          have q4 : decide (a1 ≥ (l0_3.length : Int)) = true := decide_eq_true c4
          clear hin c2
          go_wp2_with fail
          go_ret
          exact ⟨rfl, HB4.out⟩
end Go.Proofs.Ytmnncmpmhbfpcaa.G
