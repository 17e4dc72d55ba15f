/- The walk of the law FloorDist, where all that it asks holds. -/
import Derived.Test.YtmnncmpmhbfpcaaF
import Derived.Test.YtmnncmpmhbfpcaaP2
import Derived.Deep.QuietTactic
import Derived.Deep.LoopGhost
namespace Go.Proofs.Ytmnncmpmhbfpcaa.G
set_option linter.unusedVariables false
set_option linter.unusedSimpArgs false
open Go.RowKit Go.Proofs.YtmnncmpmhbfpcaaW.PrintWords Go.Proofs.YtmnncmpmhbfpcaaW.PrintLast Go.Proofs.YtmnncmpmhbfpcaaW.PrintMore
open Go.Proofs.Ytmnncmpmhbfpcaa.A Go.Proofs.Ytmnncmpmhbfpcaa.H Go.Proofs.Ytmnncmpmhbfpcaa.B Go.Proofs.Ytmnncmpmhbfpcaa.S Go.Proofs.Ytmnncmpmhbfpcaa.C Go.Proofs.Ytmnncmpmhbfpcaa.D Go.Proofs.Ytmnncmpmhbfpcaa.F Go.Proofs.Ytmnncmpmhbfpcaa.P

def fnd (rc : Int) (r : List Int) (bk : Nat → Int × Bool) : Nat → Bool
  | 0 => decide (rc ≤ 0)
  | d + 1 => fnd rc r bk d || ((bk d).2 && decide (r.getD (bk d).1.toNat 0 = wrap64 (rc - 1)))

/-- What the loops ask of the distances. -/
structure Asked (W H D : Int) (K O l1 l2 r : List Int) : Prop where
  len : r.length = K.length
  small : ∀ c, c < K.length → -1 ≤ r.getD c 0 ∧ r.getD c 0 ≤ 1000000000
  zero : ∀ c, c < K.length → (r.getD c 0 = 0 ↔ K.getD c 0 ≠ 0 ∧ (c : Int) ∉ l2 ∧ (c : Int) ∈ l1)
  shut : ∀ c, c < K.length → ¬ (K.getD c 0 ≠ 0 ∧ (c : Int) ∉ l2) → r.getD c 0 = -1
  nx : ∀ c d : Nat, c < K.length → d < 6 → ∃ p, floor_Next.f 1 W H D K O c d = some p ∧ (p.2 = true → ∃ m : Nat, p.1 = m ∧ m < K.length ∧ (0 ≤ r.getD c 0 → (m : Int) ∉ l2 → 0 ≤ r.getD m 0 ∧ r.getD m 0 ≤ r.getD c 0 + 1))
  bk : ∀ c : Nat, c < K.length → ∃ bk : Nat → Int × Bool, (∀ d : Nat, d < 6 → floor_Back.f 1 W H D K O c d = some (bk d) ∧ ((bk d).2 = true → ∃ m : Nat, (bk d).1 = m ∧ m < K.length)) ∧ fnd (r.getD c 0) r bk 6 = true

set_option maxRecDepth 100000 in
set_option maxHeartbeats 8000000 in
theorem dist_walk (a0_0 : Int) (a0_1 : Int) (a0_2 : Int) (A0_3 : Option Addr) (c0_3 : Nat) (l0_3 : List Int) (A0_4 : Option Addr) (c0_4 : Nat) (l0_4 : List Int) (A1 : Option Addr) (c1 : Nat) (l1 : List Int) (A2 : Option Addr) (c2 : Nat) (l2 : List Int) (w : World)
    (hr0_3 : Kd.C (Kd.int .i64) w A0_3 l0_3.length l0_3) (hc0_3 : l0_3.length ≤ c0_3) (hr0_4 : Kd.C (Kd.int .i64) w A0_4 l0_4.length l0_4) (hc0_4 : l0_4.length ≤ c0_4)
    (hr1 : Kd.C (Kd.int .i64) w A1 l1.length l1) (hc1 : l1.length ≤ c1) (hr2 : Kd.C (Kd.int .i64) w A2 l2.length l2) (hc2 : l2.length ≤ c2)
    (hfair : taquinlaw07_fair.f 5000 a0_0 a0_1 a0_2 l0_3 l0_4 300 = some true) (hl1 : l1.length ≤ 30) (hl2 : l2.length ≤ 30) (hn1 : 0 < l0_3.length) (hn2 : l0_3.length ≤ 300)
    (r : List Int) (hdist : floor_Dist.f a0_0 a0_1 a0_2 l0_3 l0_4 l1 l2 = some r) (hask : Asked a0_0 a0_1 a0_2 l0_3 l0_4 l1 l2 r) (hhas : ∀ (l : List Int) (x : Int), l.length ≤ 30 → taquinlaw07_has.f 5000 l x = some (decide (x ∈ l))) :
    Calls Try.prog 4 #[.agg #[.int .i64 a0_0, .int .i64 a0_1, .int .i64 a0_2, .slice A0_3 l0_3.length c0_3, .slice A0_4 l0_4.length c0_4], .slice A1 l1.length c1, .slice A2 l2.length c2] w fun e w' => e = .returned (.bool true) ∧ Below w.heap.size w w' := by
  obtain ⟨ad, rfl, hadlt, hcell⟩ := reads_at hr0_3 hn1
  have HCE := Lib.hid hcell
  have HSM := Lib.hid (fun W => taquinlaw07_small.calls 100 true W small_holds)
  have HFA := Lib.hid (fun W (h : Below w.heap.size w W) => taquinlaw07_fair.calls 5000 a0_0 a0_1 a0_2 (some ad) c0_3 l0_3 A0_4 c0_4 l0_4 300 true W (Kd.C_below hr0_3 h) hc0_3 (Kd.C_below hr0_4 h) hc0_4 hfair)
  have HDI := Lib.hid (fun W (h : Below w.heap.size w W) => floor_Dist.calls a0_0 a0_1 a0_2 (some ad) c0_3 l0_3 A0_4 c0_4 l0_4 A1 c1 l1 A2 c2 l2 r W (Kd.C_below hr0_3 h) hc0_3 (Kd.C_below hr0_4 h) hc0_4 (Kd.C_below hr1 h) hc1 (Kd.C_below hr2 h) hc2 hdist)
  have HNX := Lib.hid (fun (c d : Int) (p : Int × Bool) (hp : floor_Next.f 1 a0_0 a0_1 a0_2 l0_3 l0_4 c d = some p) W (h : Below w.heap.size w W) => floor_Next.calls 1 a0_0 a0_1 a0_2 (some ad) c0_3 l0_3 A0_4 c0_4 l0_4 c d p.1 p.2 W (Kd.C_below hr0_3 h) hc0_3 (Kd.C_below hr0_4 h) hc0_4 hp)
  have HBK := Lib.hid (fun (c d : Int) (p : Int × Bool) (hp : floor_Back.f 1 a0_0 a0_1 a0_2 l0_3 l0_4 c d = some p) W (h : Below w.heap.size w W) => floor_Back.calls 1 a0_0 a0_1 a0_2 (some ad) c0_3 l0_3 A0_4 c0_4 l0_4 c d p.1 p.2 W (Kd.C_below hr0_3 h) hc0_3 (Kd.C_below hr0_4 h) hc0_4 hp)
  have HH1 := Lib.hid (fun (x : Int) (b : Bool) (hb : decide (x ∈ l1) = b) W (h : Below w.heap.size w W) => taquinlaw07_has.calls 5000 A1 c1 l1 x b W (Kd.C_below hr1 h) hc1 (by rw [hhas l1 x hl1, hb]))
  have HH2 := Lib.hid (fun (x : Int) (b : Bool) (hb : decide (x ∈ l2) = b) W (h : Below w.heap.size w W) => taquinlaw07_has.calls 5000 A2 c2 l2 x b W (Kd.C_below hr2 h) hc2 (by rw [hhas l2 x hl2, hb]))
  have HASK := Lib.hid hask
  have HB := Lib.hid (Below.refl w.heap.size w)
  have HFB := Lib.hid (FBox.new w #[.int .i64 a0_0, .int .i64 a0_1, .int .i64 a0_2, .slice (some ad) l0_3.length c0_3, .slice A0_4 l0_4.length c0_4])
  have HBa := Lib.hid ((Below.refl w.heap.size w).alloc (Nat.le_refl _) (.cells #[.int .i64 a0_0, .int .i64 a0_1, .int .i64 a0_2, .slice (some ad) l0_3.length c0_3, .slice A0_4 l0_4.length c0_4] 24))
  clear hcell hfair hdist hask hhas hr0_3 hr0_4 hr1 hr2 HB
  go_enter Try.func4, Try.ntmps4
  go_wp2_with fail
  refine (HSM.out _).mono ?_
  rintro e w1 ⟨rfl, hb1⟩
  have HB1 := Lib.hid (HBa.out.trans (hb1.mono HBa.out.size))
  have hf1 := HFB.out.below hb1 (by simp)
  have HF1 := Lib.hid hf1
  obtain ⟨e0, e1, e2, e3, e4⟩ := hf1.cells
  clear hb1 hf1 HFB HBa
  go_wp2_with fail
  refine (HFA.out _ HB1.out).mono ?_
  rintro e w2 ⟨rfl, hb2⟩
  have HB2 := Lib.hid (HB1.out.trans (hb2.mono HB1.out.size))
  have hf2 := HF1.out.below hb2 HF1.out.lt
  have HF2 := Lib.hid hf2
  clear e0 e1 e2 e3 e4
  obtain ⟨e0, e1, e2, e3, e4⟩ := hf2.cells
  clear hb2 hf2 HF1 HB1
  have d1 : decide ((l1.length : Int) > 30) = false := decide_eq_false (by omega)
  have d2 : decide ((l2.length : Int) > 30) = false := decide_eq_false (by omega)
  go_wp2_with fail
  refine (HDI.out _ HB2.out).mono ?_
  rintro e w3 ⟨v0, rfl, hR, hb3⟩
  have HB3 := Lib.hid (HB2.out.trans (hb3.mono HB2.out.size))
  have hf3 := HF2.out.below hb3 HF2.out.lt
  have HF3 := Lib.hid hf3
  clear e0 e1 e2 e3 e4 d1 d2
  obtain ⟨e0, e1, e2, e3, e4⟩ := hf3.cells
  clear hb3 hf3 HF2 HB2
  obtain ⟨A, cap, rfl, _, hC⟩ := Kd.R_reads hR
  obtain ⟨ar, rfl, harlt, hrc⟩ := reads_at hC (by rw [HASK.out.len]; exact hn1)
  have HRC := Lib.hid hrc
  clear hR hC hrc
  rw [HASK.out.len]
  dsimp only
  clear HDI HFA HSM
  go_upto_block 0 with (fail)
  go_wp2_with fail
  clear e0 e1 e2 e3 e4
  go_loopw [9] (fun i wr => ∃ c : Nat, c ≤ l0_3.length ∧ i = .int .i64 c ∧ Hid (Below w3.heap.size w3 wr)) (fun i _ => l0_3.length - (intOf i).toNat)
  case atStart => exact ⟨0, by omega, rfl, Lib.hid (Below.refl _ _)⟩
  case round =>
    obtain ⟨c, hcn, rfl, HR⟩ := hrel
    have HBr := Lib.hid (HB3.out.trans (HR.out.mono HB3.out.size))
    have hfr := HF3.out.below HR.out HF3.out.lt
    obtain ⟨e0, e1, e2, e3, e4⟩ := hfr.cells
    have HFr := Lib.hid hfr
    clear hfr
    by_cases hlt : c < l0_3.length
    · have hck : wr.cell? (ad.add c) = some (.int .i64 (l0_3[c]?.getD 0)) := (HBr.out.cell (p := ad.add c) (by rw [block_of_add']; exact hadlt)).trans (HCE.out c hlt)
      have hcr : wr.cell? (ar.add c) = some (.int .i64 (r[c]?.getD 0)) := (HR.out.cell (p := ar.add c) (by rw [block_of_add']; exact harlt)).trans (HRC.out c (by rw [HASK.out.len]; exact hlt))
      rw [← List.getD_eq_getElem?_getD] at hck hcr
      have HRCc := Lib.hid (HRC.out c (by rw [HASK.out.len]; exact hlt))
      rw [← List.getD_eq_getElem?_getD] at HRCc
      have HS := Lib.hid (HASK.out.small c hlt)
      have HZ := Lib.hid (HASK.out.zero c hlt)
      have HU := Lib.hid (HASK.out.shut c hlt)
      obtain ⟨bk, hbk⟩ := HASK.out.bk c hlt
      have HBK2 := Lib.hid hbk
      have HNX2 := Lib.hid (fun d => HASK.out.nx c d hlt)
      clear hbk
      generalize r.getD c 0 = rc at hcr HRCc HS HZ HU HBK2 HNX2
      generalize l0_3.getD c 0 = kc at hck HZ HU
      go_upto_region 10 with (fail)
      go_cut [10] (fun v10 wc => v10 = .bool (decide (kc ≠ 0 ∧ (c : Int) ∉ l2)) ∧ Hid (Below w3.heap.size w3 wc))
      case first =>
        by_cases hk0 : kc = 0
        · subst hk0
          go_wp2_with fail
          go_meet
          case rel => exact ⟨by simp, HR⟩
        · have q1 : (kc != 0) = true := by simpa using hk0
          have q2 : decide (kc = 0) = false := decide_eq_false hk0
          have q3 : (kc == 0) = false := by simpa using hk0
          cases hb : decide ((c : Int) ∈ l2)
          · go_wp2_with fail
            refine (HH2.out _ _ hb _ HBr.out).mono ?_
            rintro e w5 ⟨rfl, ⟨nd, rfl⟩⟩
            go_wp2_with fail
            go_meet
            case rel =>
              have : ¬ ((c : Int) ∈ l2) := of_decide_eq_false hb
              exact ⟨by simp [hk0, this], Lib.hid (pw_below_drewN HR.out nd)⟩
          · go_wp2_with fail
            refine (HH2.out _ _ hb _ HBr.out).mono ?_
            rintro e w5 ⟨rfl, ⟨nd, rfl⟩⟩
            go_wp2_with fail
            go_meet
            case rel =>
              have : (c : Int) ∈ l2 := of_decide_eq_true hb
              exact ⟨by simp [hk0, this], Lib.hid (pw_below_drewN HR.out nd)⟩
      case rest =>
        clear hck HBr HR HFr hcr e0 e1 e2 e3 e4
        obtain ⟨rfl, HR⟩ := hcut
        have HO : Hid ((rc = 0 ↔ decide (kc ≠ 0 ∧ (c : Int) ∉ l2) = true ∧ (c : Int) ∈ l1) ∧ (decide (kc ≠ 0 ∧ (c : Int) ∉ l2) = false → rc = -1)) := Lib.hid (by
          have h1 := HZ.out
          have h2 := HU.out
          constructor
          · rw [decide_eq_true_iff, h1, and_assoc]
          · intro h
            exact h2 (of_decide_eq_false h))
        clear HZ HU
        generalize decide (kc ≠ 0 ∧ (c : Int) ∉ l2) = opn at HO ⊢
        have HBr := Lib.hid (HB3.out.trans (HR.out.mono HB3.out.size))
        have hfr := HF3.out.below HR.out HF3.out.lt
        obtain ⟨e0, e1, e2, e3, e4⟩ := hfr.cells
        clear hfr
        have hcr : wc.cell? (ar.add c) = some (.int .i64 rc) := (HR.out.cell (p := ar.add c) (by rw [block_of_add']; exact harlt)).trans HRCc.out
        go_upto_region 11 with (fail)
        go_cut [89] (fun v89 wc => v89 = .bool false ∧ Hid (Below w3.heap.size w3 wc))
        case first =>
          cases opn with
          | false =>
            have hrc := HO.out.2 rfl
            subst hrc
            go_quiet (fail)
            go_wp2_with fail
            go_meet
            case rel => exact ⟨rfl, Lib.hid (pw_below_drewN HR.out _)⟩
          | true =>
            cases hb : decide ((c : Int) ∈ l1)
            · have hz : ¬ rc = 0 := fun h => by
                have := (HO.out.1.1 h).2
                exact absurd this (of_decide_eq_false hb)
              have q1 : (rc == 0) = false := by simpa using hz
              have q2 : decide (rc < -1) = false := decide_eq_false (by have := HS.out.1; omega)
              have q3 : decide (rc = 0) = false := decide_eq_false hz
              go_quiet (first | (go_at_call 19; refine Calls.quiet_of ((HH1.out _ _ hb _ (pw_below_drewN HBr.out _)).mono (fun e w' h => ⟨h.1, h.2.out⟩))))
              go_wp2_with fail
              go_meet
              case rel => exact ⟨rfl, Lib.hid (pw_below_drewN HR.out _)⟩
            · have hz : rc = 0 := HO.out.1.2 ⟨rfl, of_decide_eq_true hb⟩
              subst hz
              go_quiet (first | (go_at_call 19; refine Calls.quiet_of ((HH1.out _ _ hb _ (pw_below_drewN HBr.out _)).mono (fun e w' h => ⟨h.1, h.2.out⟩))))
              go_wp2_with fail
              go_meet
              case rel => exact ⟨rfl, Lib.hid (pw_below_drewN HR.out _)⟩
        case rest =>
          clear hcr HBr HR e0 e1 e2 e3 e4 HO
          obtain ⟨rfl, HR⟩ := hcut
          have hcr : wc.cell? (ar.add c) = some (.int .i64 rc) := (HR.out.cell (p := ar.add c) (by rw [block_of_add']; exact harlt)).trans HRCc.out
          go_wp2_with fail
          clear hcr
          have HF0 := Lib.hid (show decide (rc ≤ 0) = fnd rc r bk 0 from rfl)
          go_loopw [11, 12] (fun f i wr => ∃ d : Nat, d ≤ 6 ∧ i = .int .i64 d ∧ f = .bool (fnd rc r bk d) ∧ Hid (Below w3.heap.size w3 wr)) (fun _ i _ => 6 - (intOf i).toNat)
          case atStart => exact ⟨0, by omega, rfl, rfl, HR⟩
          case round =>
            obtain ⟨d, hd6, rfl, rfl, HR2⟩ := hrel
            by_cases hdlt : d < 6
            · have HBr := Lib.hid (HB3.out.trans (HR2.out.mono HB3.out.size))
              have hfr := HF3.out.below HR2.out HF3.out.lt
              obtain ⟨e0, e1, e2, e3, e4⟩ := hfr.cells
              clear hfr
              obtain ⟨p, hp, hpm⟩ := HNX2.out d hdlt
              have HP := Lib.hid hpm
              have HP0 := Lib.hid hp
              clear hp hpm
              go_wp2_with fail
              refine (HNX.out c d p HP0.out _ HBr.out).mono ?_
              rintro e w5 ⟨rfl, hb5⟩
              have HR5 := Lib.hid (HR2.out.trans (hb5.mono HR2.out.size))
              clear hb5 e0 e1 e2 e3 e4 HBr
              have hcr : w5.cell? (ar.add c) = some (.int .i64 rc) := (HR5.out.cell (p := ar.add c) (by rw [block_of_add']; exact harlt)).trans HRCc.out
              obtain ⟨pm, ok⟩ := p
              dsimp only at HP ⊢
              go_upto_region 18 with (fail)
              go_cut [138] (fun v138 wc => v138 = .bool false ∧ Hid (Below w3.heap.size w3 wc))
              case first =>
                cases ok with
                | false =>
                  go_quiet (fail)
                  go_wp2_with fail
                  go_meet
                  case rel => exact ⟨rfl, Lib.hid (pw_below_drewN HR5.out _)⟩
                | true =>
                  obtain ⟨m, hm, hmlt, hmm⟩ := HP.out rfl
                  have hm' : pm = (m : Int) := hm
                  subst hm'
                  have hcm : w5.cell? (ar.add m) = some (.int .i64 (r[m]?.getD 0)) := (HR5.out.cell (p := ar.add m) (by rw [block_of_add']; exact harlt)).trans (HRC.out m (by rw [HASK.out.len]; exact hmlt))
                  rw [← List.getD_eq_getElem?_getD] at hcm
                  have HBr := Lib.hid (HB3.out.trans (HR5.out.mono HB3.out.size))
                  have hS := HS.out
                  generalize r.getD m 0 = rm at hcm hmm
                  clear HP hm
                  by_cases h0 : 0 ≤ rc
                  · have q1 : decide (rc ≥ 0) = true := decide_eq_true h0
                    cases hb : decide ((m : Int) ∈ l2)
                    · have hq := hmm h0 (of_decide_eq_false hb)
                      have q2 : decide (rm < 0) = false := decide_eq_false (by omega)
                      have hwr : wrap64 (rc + 1) = rc + 1 := wsm _ (by omega) (by omega)
                      have q3 : decide (rm > rc + 1) = false := decide_eq_false (by omega)
                      go_quiet (first | (go_at_call 19; refine Calls.quiet_of ((HH2.out _ _ hb _ (pw_below_drewN HBr.out _)).mono (fun e w' h => ⟨h.1, h.2.out⟩))))
                      go_wp2_with fail
                      go_meet
                      case rel => exact ⟨rfl, Lib.hid (pw_below_drewN HR5.out _)⟩
                    · go_quiet (first | (go_at_call 19; refine Calls.quiet_of ((HH2.out _ _ hb _ (pw_below_drewN HBr.out _)).mono (fun e w' h => ⟨h.1, h.2.out⟩))))
                      go_wp2_with fail
                      go_meet
                      case rel => exact ⟨rfl, Lib.hid (pw_below_drewN HR5.out _)⟩
                  · have q1 : decide (rc ≥ 0) = false := decide_eq_false h0
                    go_quiet (fail)
                    go_wp2_with fail
                    go_meet
                    case rel => exact ⟨rfl, Lib.hid (pw_below_drewN HR5.out _)⟩
              case rest =>
                clear hcr HP HR5
                obtain ⟨rfl, HR5⟩ := hcut
                have HBr := Lib.hid (HB3.out.trans (HR5.out.mono HB3.out.size))
                have hfr := HF3.out.below HR5.out HF3.out.lt
                obtain ⟨e0, e1, e2, e3, e4⟩ := hfr.cells
                clear hfr
                obtain ⟨hp, hpm⟩ := HBK2.out.1 d hdlt
                have HP := Lib.hid hpm
                have HP0 := Lib.hid hp
                clear hp hpm
                go_wp2_with fail
                refine (HBK.out c d (bk d) HP0.out _ HBr.out).mono ?_
                rintro e w6 ⟨rfl, hb6⟩
                have HR6 := Lib.hid (HR5.out.trans (hb6.mono HR5.out.size))
                clear hb6 e0 e1 e2 e3 e4 HBr
                have hcr : w6.cell? (ar.add c) = some (.int .i64 rc) := (HR6.out.cell (p := ar.add c) (by rw [block_of_add']; exact harlt)).trans HRCc.out
                have HG := Lib.hid (show fnd rc r bk (d + 1) = (fnd rc r bk d || ((bk d).2 && decide (r.getD (bk d).1.toNat 0 = wrap64 (rc - 1)))) from rfl)
                obtain ⟨f1, hf1⟩ : ∃ f1, f1 = fnd rc r bk (d + 1) := ⟨_, rfl⟩
                rw [← hf1] at HG
                have HF1 := Lib.hid hf1
                clear hf1
                generalize fnd rc r bk d = f0 at HG ⊢
                generalize bk d = pb at HG HP ⊢
                obtain ⟨pm2, ok2⟩ := pb
                dsimp only at HP HG ⊢
                go_upto_region 21 with (fail)
                cases f0 with
                | true =>
                  have hg := HG.out
                  simp only [Bool.true_or] at hg
                  go_quiet (fail)
                  go_wp2_with fail
                  go_roundw
                  case rel => exact ⟨d + 1, by omega, by go_num, by rw [← HF1.out, hg], Lib.hid (pw_below_drewN HR6.out _)⟩
                  case measure => simp [intOf]; omega
                | false =>
                  cases ok2 with
                  | false =>
                    have hg := HG.out
                    simp only [Bool.false_or, Bool.false_and] at hg
                    go_quiet (fail)
                    go_wp2_with fail
                    go_roundw
                    case rel => exact ⟨d + 1, by omega, by go_num, by rw [← HF1.out, hg], Lib.hid (pw_below_drewN HR6.out _)⟩
                    case measure => simp [intOf]; omega
                  | true =>
                    have hg := HG.out
                    simp only [Bool.false_or, Bool.true_and] at hg
                    obtain ⟨m, hm, hmlt⟩ := HP.out rfl
                    have hm' : pm2 = (m : Int) := hm
                    subst hm'
                    rw [Int.toNat_natCast] at hg
                    have hcm : w6.cell? (ar.add m) = some (.int .i64 (r[m]?.getD 0)) := (HR6.out.cell (p := ar.add m) (by rw [block_of_add']; exact harlt)).trans (HRC.out m (by rw [HASK.out.len]; exact hmlt))
                    rw [← List.getD_eq_getElem?_getD] at hcm
                    generalize r.getD m 0 = rm at hcm hg
                    clear HG HP hm
                    go_quiet (fail)
                    go_wp2_with fail
                    go_roundw
                    case rel => exact ⟨d + 1, by omega, by go_num, by rw [← HF1.out, hg]; by_cases hx : rm = wrap64 (rc - 1) <;> simp [hx], Lib.hid (pw_below_drewN HR6.out _)⟩
                    case measure => simp [intOf]; omega
            · obtain rfl : d = 6 := by omega
              rw [HBK2.out.2]
              go_wp2_with fail
              go_roundw
              case rel => exact ⟨c + 1, by omega, by go_num, HR2⟩
              case measure => simp [intOf]; omega
    · obtain rfl : c = l0_3.length := by omega
      go_wp2
      go_ret
      exact ⟨rfl, HBr.out⟩
end Go.Proofs.Ytmnncmpmhbfpcaa.G
