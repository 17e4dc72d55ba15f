/- PermGroup: part 3 of 3: the texts of this claim, merged, without what they do not name (by pack.py, a program of this session). -/
import Derived.Test.YtmhmlknfcdodlaaZg2
section
namespace Go.Proofs.Ytmhmlknfcdodlaa.B
open Go.Proofs.Ytmhmlknfcdodlaa.A
open Go.Proofs.Ytmhmlknfcdodlaa.H
open Go.RowKit Go.Proofs.YtmhmlknfcdodlaaW.PrintWords Go.Proofs.YtmhmlknfcdodlaaW.PrintLast Go.Proofs.YtmhmlknfcdodlaaW.PrintMore
attribute [local go_sem] max2_int min2_int max_two min_two max_three min_three max_four min_four   -- for this text's walks alone
set_option linter.unusedVariables false
set_option linter.unusedSimpArgs false
def perm_Inverse.l0 : Nat → List Int → List Int → Int → Int → Option (List Int)
  | 0, _, _, _, _ => none
  | k + 1, x3, x11, x12, x13 => if x13 < x12 then (if 0 ≤ x13 then (if x13 < (x11.length : Int) then (if 0 ≤ (rd x11 x13) then (if (rd x11 x13) < (x3.length : Int) then (perm_Inverse.l0 k (x3.set ((rd x11 x13) : Int).toNat x13) x11 x12 (wrap64 (x13 + 1))) else (none)) else (none)) else (none)) else (none)) else (some x3)
def perm_Inverse.f (k : Nat) (l0 : List Int) : Option (List Int) := (perm_Right.f l0).bind fun t246 => (if t246 = true then ((slices_Clone_int_int.f l0).bind fun t247 => (perm_Inverse.l0 k t247 l0 (l0.length : Int) 0)) else (some ([] : List Int)))
set_option maxHeartbeats 8000000 in
set_option maxRecDepth 100000 in
theorem perm_Inverse.calls (k : Nat) (A0 : Option Addr) (c0 : Nat) (l0 : List Int) (r : List Int) (w : World) (hr0 : Kd.C (Kd.int .i64) w A0 l0.length l0) (hc0 : l0.length ≤ c0) (h : perm_Inverse.f k l0 = some r) :
    Calls Try.prog 19 #[.slice A0 l0.length c0] w fun e w' => ∃ v0_ : Value, e = .returned (v0_) ∧ Kd.R (Kd.int .i64) 3 w' w.heap.size (fun _ => True) v0_ r ∧ Below w.heap.size w w' := by
  have HR0 := Aside0.mk hr0
  have HC0 := Aside0.mk hc0
  clear hr0 hc0
  have HB := Aside0.mk (Below.refl w.heap.size w)
  have H : ((perm_Right.f l0).bind fun t246 => (if t246 = true then ((slices_Clone_int_int.f l0).bind fun t247 => (perm_Inverse.l0 k t247 l0 (l0.length : Int) 0)) else (some ([] : List Int)))) = some r := h
  clear h
  replace H := Option.bind_eq_some_iff.mp H
  obtain ⟨t246, A20, H⟩ := H
  replace H : (if t246 = true then ((slices_Clone_int_int.f l0).bind fun t247 => (perm_Inverse.l0 k t247 l0 (l0.length : Int) 0)) else (some ([] : List Int))) = some r := H
  have A2 := Aside0.mk A20
  clear A20
  by_cases c3 : t246 = true
  · subst c3
    have H1 : ((slices_Clone_int_int.f l0).bind fun t247 => (perm_Inverse.l0 k t247 l0 (l0.length : Int) 0)) = some r := by rw [if_pos rfl] at H; exact H
    clear H
    have H := H1
    clear H1
    replace H := Option.bind_eq_some_iff.mp H
    obtain ⟨t247, A40, H⟩ := H
    replace H : (perm_Inverse.l0 k t247 l0 (l0.length : Int) 0) = some r := H
    have A4 := Aside0.mk A40
    clear A40
    have H' := Aside0.mk H
    clear H
    go_enter Try.func19, Try.ntmps19
    go_wp2_with (first | ((with_reducible refine gate_callee (f := 9) rfl ?_); refine goesL_ (some 7) rfl rfl Try.func9 (by kernel_rfl) rfl #[.slice A0 l0.length c0] rfl (by (try simp only [List.map_toArray, List.map_cons, List.map_nil]); first | done | rfl | (simp only [List.length_drop, List.length_take]; rfl)) ?_; (with_reducible refine (perm_Right.calls _ _ l0 true _ ?side1 ?side2 A2.out).mono ?_); (case side1 => repeat (first | exact HR0.out | (with_reducible refine Kd.C_alloc ?_ _) | (with_reducible refine Kd.C_drewN ?_ _) | (with_reducible refine Kd.C_drew ?_))); (case side2 => exact HC0.out); rintro e w5 ⟨rfl, hb⟩; refine ⟨_, rfl, ?_⟩; have n0_ := Aside0.mk (below_step (by repeat (first | (with_reducible first | exact HB.out | apply below_alloc | apply pw_below_drewN | apply below_drew1) | exact HB.out)) hb); clear HB; have HB := n0_; clear n0_; (try clear hb); (try clear hb2); (try clear hk); (try clear hi)) | ((with_reducible refine gate_callee (f := 38) rfl ?_); refine goesL_ (some 10) rfl rfl Try.func38 (by kernel_rfl) rfl #[.slice A0 l0.length c0] rfl (by (try simp only [List.map_toArray, List.map_cons, List.map_nil]); first | done | rfl | (simp only [List.length_drop, List.length_take]; rfl)) ?_; (with_reducible refine (slices_Clone_int_int.calls _ _ l0 t247 _ ?side1 ?side2 A4.out).mono ?_); (case side1 => repeat (first | exact (Kd.C_below HR0.out HB.out) | (with_reducible refine Kd.C_alloc ?_ _) | (with_reducible refine Kd.C_drewN ?_ _) | (with_reducible refine Kd.C_drew ?_))); (case side2 => exact HC0.out); rintro e w6 ⟨v248, rfl, ho0, hb⟩; refine ⟨_, rfl, ?_⟩; have n0_ := Aside0.mk (Kd.R_lower ho0 (below_size (by repeat (first | (with_reducible first | exact HB.out | apply below_alloc | apply pw_below_drewN | apply below_drew1) | exact HB.out)))); have n1_ := Aside0.mk (below_step (by repeat (first | (with_reducible first | exact HB.out | apply below_alloc | apply pw_below_drewN | apply below_drew1) | exact HB.out)) hb); clear HB; have HO249 := n0_; have HB := n1_; clear n0_ n1_; (try clear hb); (try clear hb2); (try clear hk); (try clear hi); (try clear ho0)))
    go_loopg [13] k (fun kq v13 w' => ∃ (x3_1 : List Int) (x13_1 : Int), v13 = .int .i64 x13_1 ∧ Aside0 (perm_Inverse.l0 kq x3_1 l0 (l0.length : Int) x13_1 = some r) ∧ Aside0 (kq ≤ k) ∧ Aside0 (Kd.R (Kd.int .i64) 3 w' w.heap.size (fun _ => True) v248 x3_1) ∧ Aside0 (Below w.heap.size w w'))
    case atStart => exact ⟨(t247), (0), (by first | rfl | (simp; done) | (simp [*]; done)), H', ⟨Nat.le_refl _⟩, ⟨by (with_reducible repeat (first | apply Kd.R_alloc | apply Kd.R_drewN | apply Kd.R_drew)); exact HO249.out⟩, ⟨by repeat (first | (with_reducible first | exact HB.out | apply below_alloc | apply pw_below_drewN | apply below_drew1) | exact HB.out)⟩⟩
    case round =>
      clear H'
      try clear c1
      try clear p2
      try clear c3
      obtain ⟨x3_1, x13_1, rfl, HA, HK1, HO_3, HB⟩ := hrel
      cases gk with
      | zero => exact absurd HA.out (by simp [perm_Inverse.l0])
      | succ k1 =>
        have H := HA.out
        clear HA
        simp only [perm_Inverse.l0] at H
        by_cases c7 : x13_1 < (l0.length : Int)
        · rw [if_pos c7] at H
          have c7b0 : decide (x13_1 < (l0.length : Int)) = true := decide_eq_true c7
          clear c7
          by_cases c8 : 0 ≤ x13_1
          · rw [if_pos c8] at H
            have c8b0 : decide (0 ≤ x13_1) = true := decide_eq_true c8
            clear c8
            by_cases c9 : x13_1 < (l0.length : Int)
            · rw [if_pos c9] at H
              have c9b0 : decide (x13_1 < (l0.length : Int)) = true := decide_eq_true c9
              clear c9
              by_cases c10 : 0 ≤ (rd l0 x13_1)
              · rw [if_pos c10] at H
                have c10b0 : decide (0 ≤ (rd l0 x13_1)) = true := decide_eq_true c10
                clear c10
                by_cases c11 : (rd l0 x13_1) < (x3_1.length : Int)
                · rw [if_pos c11] at H
                  have c11b0 : decide ((rd l0 x13_1) < (x3_1.length : Int)) = true := decide_eq_true c11
                  clear c11
                  obtain ⟨y251, hy251⟩ : ∃ y_ : List Int, y_ = (x3_1.set ((rd l0 x13_1) : Int).toNat x13_1) := ⟨_, rfl⟩
                  replace H : (perm_Inverse.l0 k1 y251 l0 (l0.length : Int) (wrap64 (x13_1 + 1))) = some r := by first | (rw [hy251]; with_reducible exact H) | (have H2_ := (Option.bind_some _ _).symm.trans H; rw [hy251]; with_reducible exact H2_) | (have H2_ := (Option.bind_some _ _).symm.trans H; with_reducible exact H2_) | with_reducible exact H | (rw [hy251]; exact H) | exact H
                  have Ny251 := Aside0.mk hy251
                  clear hy251
                  have H' := Aside0.mk H
                  clear H
                  have p250 : 0 ≤ (x13_1 : Int) := of_decide_eq_true (by first | (with_reducible assumption) | assumption)
                  have q250 : x13_1 < (l0.length : Int) := of_decide_eq_true (by first | (with_reducible assumption) | assumption)
                  obtain ⟨ad250, e250, hx250_0⟩ := Kd.at_int HR0.out x13_1 p250 q250
                  cases e250
                  replace hx250_0 := (HB.out.cell (World.block_lt_of_cell? w _ hx250_0)).trans hx250_0
                  replace p250 := eq_true p250
                  replace q250 := eq_true q250
                  have p12 : 0 ≤ ((rd l0 x13_1) : Int) := of_decide_eq_true (by first | (with_reducible assumption) | assumption)
                  have q12 : ((rd l0 x13_1) : Int) < ((x3_1.length : Int) : Int) := of_decide_eq_true (by first | (with_reducible assumption) | assumption)
                  obtain ⟨go12, co12, eo12, gb12, gl12, cl12, HG12⟩ := Kd.R_form HO_3.out (by omega)
                  (first | cases eo12 | (injection eo12 with ea_ en_ ec_; (first | subst ea_ | (injection ea_ with ea_; subst ea_)); subst ec_; clear en_))
                  have GB12 := Aside0.mk gb12
                  have GG12 := Aside0.mk HG12
                  clear gb12 gl12 HG12
                  obtain ⟨hx12_0, hf12_0⟩ := Kd.R_celln 0 HO_3.out ((rd l0 x13_1) : Int) p12 q12
                  replace p12 := eq_true p12
                  replace q12 := eq_true q12
                  have HP13 := Kd.R_putg HO_3.out ((rd l0 x13_1) : Int) x13_1
                  go_wp2_with (first | ((with_reducible refine gate_store (t := 3) (p := 21) rfl ?_); refine store_event (t := 3) (p := 21) (v := ?vo_w14) (w1 := (wr.setCell ⟨go12, ((rd l0 x13_1) : Int).toNat, none⟩ (.int .i64 x13_1))) ?hg ?ho ?hn ?hr ?_; (case ho => rfl); (case hg => rfl); (case hn => rfl); (case hr => first | (go_simp; done) | (go_simp; rfl)); intro w14 hw; have hg : wr.grownBy w14 (some go12) := (by rw [hw]; exact HP13.2); have hp_ : Kd.R (Kd.int .i64) 3 w14 w.heap.size (fun _ => True) (.slice (some ⟨go12, 0, none⟩) x3_1.length co12) y251 := (by rw [hw, Ny251.out]; exact HP13.1); clear HP13; have n0_ := Aside0.mk (hp_); have n1_ := Aside0.mk ((by rw [hw]; exact below_set (HB.out) GB12.out : Below w.heap.size w w14)); clear HO_3; clear HB; have HO_3 := n0_; have HB := n1_; clear n0_ n1_; clear hg hw hp_))
                  go_roundg k1
                  case measure => have := HK1.out; omega
                  case rel => exact ⟨(y251), (wrap64 (x13_1 + 1)), (by first | rfl | (simp; done) | (simp [*]; done)), H', ⟨by have := HK1.out; omega⟩, ⟨by (with_reducible repeat (first | apply Kd.R_alloc | apply Kd.R_drewN | apply Kd.R_drew)); exact HO_3.out⟩, ⟨by repeat (first | (with_reducible first | exact HB.out | apply below_alloc | apply pw_below_drewN | apply below_drew1) | exact HB.out)⟩⟩
                · rw [if_neg c11] at H
                  exact absurd H (by simp)
              · rw [if_neg c10] at H
                exact absurd H (by simp)
            · rw [if_neg c9] at H
              exact absurd H (by simp)
          · rw [if_neg c8] at H
            exact absurd H (by simp)
        · rw [if_neg c7] at H
          have c7b0 : decide (x13_1 < (l0.length : Int)) = false := decide_eq_false c7
          clear c7
          obtain rfl := Option.some.inj H
          go_wp2
          go_ret
          exact ⟨_, by first | rfl | (simp [errW_none, errW_some] <;> rfl) | (simp [*, errW_none, errW_some] <;> rfl), by (with_reducible repeat (first | apply Kd.R_alloc | apply Kd.R_drewN | apply Kd.R_drew)); exact HO_3.out, by repeat (first | (with_reducible first | exact HB.out | apply below_alloc | apply pw_below_drewN | apply below_drew1) | exact HB.out)⟩
  · replace c3 := Bool.eq_false_iff.mpr c3
    subst c3
    have H1 : (some ([] : List Int)) = some r := by rw [if_neg (show ¬ (false = true) by decide)] at H; exact H
    clear H
    have H := H1
    clear H1
    obtain rfl := Option.some.inj H
    go_enter Try.func19, Try.ntmps19
    go_wp2_with (first | ((with_reducible refine gate_callee (f := 9) rfl ?_); refine goesL_ (some 7) rfl rfl Try.func9 (by kernel_rfl) rfl #[.slice A0 l0.length c0] rfl (by (try simp only [List.map_toArray, List.map_cons, List.map_nil]); first | done | rfl | (simp only [List.length_drop, List.length_take]; rfl)) ?_; (with_reducible refine (perm_Right.calls _ _ l0 false _ ?side1 ?side2 A2.out).mono ?_); (case side1 => repeat (first | exact HR0.out | (with_reducible refine Kd.C_alloc ?_ _) | (with_reducible refine Kd.C_drewN ?_ _) | (with_reducible refine Kd.C_drew ?_))); (case side2 => exact HC0.out); rintro e w15 ⟨rfl, hb⟩; refine ⟨_, rfl, ?_⟩; have n0_ := Aside0.mk (below_step (by repeat (first | (with_reducible first | exact HB.out | apply below_alloc | apply pw_below_drewN | apply below_drew1) | exact HB.out)) hb); clear HB; have HB := n0_; clear n0_; (try clear hb); (try clear hb2); (try clear hk); (try clear hi)))
    go_ret
    exact ⟨_, by first | rfl | (simp [errW_none, errW_some] <;> rfl) | (simp [*, errW_none, errW_some] <;> rfl), by first | exact Kd.R_nil _ _ _ _ _ | exact Kd.N_nil _ _ _ _ _ | exact Kd.V_nil _ _ _ _ _ | exact Kd.Q_nil _ _ _ _ _ | exact Kd.S_nil _ _ _ _ _, by repeat (first | (with_reducible first | exact HB.out | apply below_alloc | apply pw_below_drewN | apply below_drew1) | exact HB.out)⟩
mutual
def taquinlaw37_PermGroup.j0 : Nat → List Int → List Int → List Int → Bool → Int → Bool → Option (Bool)
  | 0, _, _, _, _, _, _ => none
  | k + 1, x0, x1, x2, x7, x8, x45 => if x45 = true then (some x7) else ((some (([] : List Int) : List Int)).bind fun y256 => (if y256.length + x0.length < 17592186044416 then ((some (y256 ++ x0 : List Int)).bind fun y259 => ((perm_Compose.f k x0 x1).bind fun t262 => ((perm_Identity.f k x8).bind fun t265 => ((perm_Compose.f k t262 x2).bind fun t268 => ((perm_Compose.f k x1 x2).bind fun t271 => ((perm_Compose.f k x0 t271).bind fun t274 => ((taquinref37_Same.f k t268 t274).bind fun t277 => (if t277 = true then ((perm_Compose.f k x0 t265).bind fun t278 => ((taquinref37_Same.f k t278 x0).bind fun t281 => (if t281 = true then ((perm_Compose.f k t265 x0).bind fun t282 => ((taquinref37_Same.f k t282 x0).bind fun t285 => (taquinlaw37_PermGroup.j1 k x0 x1 x7 y259 t262 t265 t285))) else (taquinlaw37_PermGroup.j1 k x0 x1 x7 y259 t262 t265 false)))) else (taquinlaw37_PermGroup.j1 k x0 x1 x7 y259 t262 t265 false))))))))) else (none)))
def taquinlaw37_PermGroup.j1 : Nat → List Int → List Int → Bool → List Int → List Int → List Int → Bool → Option (Bool)
  | 0, _, _, _, _, _, _, _ => none
  | k + 1, x0, x1, x7, x9, x10, x11, x12 => (perm_Inverse.f k x0).bind fun t286 => ((perm_Compose.f k x0 t286).bind fun t289 => ((taquinref37_Same.f k t289 x11).bind fun t292 => (if t292 = true then ((perm_Inverse.f k x0).bind fun t293 => ((perm_Compose.f k t293 x0).bind fun t296 => ((taquinref37_Same.f k t296 x11).bind fun t299 => (if t299 = true then ((perm_Inverse.f k x10).bind fun t300 => ((perm_Inverse.f k x1).bind fun t303 => ((perm_Inverse.f k x0).bind fun t306 => ((perm_Compose.f k t303 t306).bind fun t309 => ((taquinref37_Same.f k t300 t309).bind fun t312 => (taquinlaw37_PermGroup.j2 k x0 x1 x7 x9 x10 x12 t312)))))) else (taquinlaw37_PermGroup.j2 k x0 x1 x7 x9 x10 x12 false))))) else (taquinlaw37_PermGroup.j2 k x0 x1 x7 x9 x10 x12 false))))
def taquinlaw37_PermGroup.j2 : Nat → List Int → List Int → Bool → List Int → List Int → Bool → Bool → Option (Bool)
  | 0, _, _, _, _, _, _, _ => none
  | k + 1, x0, x1, x7, x9, x10, x12, x13 => if x7 = true then (if x12 = true then (if x13 = true then ((perm_Right.f x10).bind fun t313 => (if t313 = true then ((perm_Odd.f k x10).bind fun t314 => ((perm_Odd.f k x0).bind fun t315 => ((perm_Odd.f k x1).bind fun t316 => (if (t314 == (t315 != t316)) = true then ((taquinref37_Same.f k x0 x9).bind fun t317 => (some t317)) else (some false))))) else (some false))) else (some false)) else (some false)) else (some false)
end
def taquinlaw37_PermGroup.f (k : Nat) (l0 : List Int) (l1 : List Int) (l2 : List Int) : Option (Bool) := (taquinlaw37_small.f k).bind fun t252 => (if (l0.length : Int) > 40 then (taquinlaw37_PermGroup.j0 k l0 l1 l2 t252 (l0.length : Int) true) else (if (l1.length : Int) = (l0.length : Int) then (if (l2.length : Int) = (l0.length : Int) then ((perm_Right.f l0).bind fun t253 => (if t253 = true then ((perm_Right.f l1).bind fun t254 => (if t254 = true then ((perm_Right.f l2).bind fun t255 => (taquinlaw37_PermGroup.j0 k l0 l1 l2 t252 (l0.length : Int) (!t255))) else (taquinlaw37_PermGroup.j0 k l0 l1 l2 t252 (l0.length : Int) true))) else (taquinlaw37_PermGroup.j0 k l0 l1 l2 t252 (l0.length : Int) true))) else (taquinlaw37_PermGroup.j0 k l0 l1 l2 t252 (l0.length : Int) true)) else (taquinlaw37_PermGroup.j0 k l0 l1 l2 t252 (l0.length : Int) true)))
set_option maxHeartbeats 8000000 in
set_option maxRecDepth 100000 in
theorem taquinlaw37_PermGroup.calls (k : Nat) (A0 : Option Addr) (c0 : Nat) (l0 : List Int) (A1 : Option Addr) (c1 : Nat) (l1 : List Int) (A2 : Option Addr) (c2 : Nat) (l2 : List Int) (r : Bool) (w : World) (hr0 : Kd.C (Kd.int .i64) w A0 l0.length l0) (hc0 : l0.length ≤ c0) (hr1 : Kd.C (Kd.int .i64) w A1 l1.length l1) (hc1 : l1.length ≤ c1) (hr2 : Kd.C (Kd.int .i64) w A2 l2.length l2) (hc2 : l2.length ≤ c2) (h : taquinlaw37_PermGroup.f k l0 l1 l2 = some r) :
    Calls Try.prog 5 #[.slice A0 l0.length c0, .slice A1 l1.length c1, .slice A2 l2.length c2] w fun e w' => e = .returned (.bool r) ∧ Below w.heap.size w w' := by
  have HR0 := Aside0.mk hr0
  have HC0 := Aside0.mk hc0
  clear hr0 hc0
  have HR1 := Aside0.mk hr1
  have HC1 := Aside0.mk hc1
  clear hr1 hc1
  have HR2 := Aside0.mk hr2
  have HC2 := Aside0.mk hc2
  clear hr2 hc2
  have HB := Aside0.mk (Below.refl w.heap.size w)
  have H : ((taquinlaw37_small.f k).bind fun t252 => (if (l0.length : Int) > 40 then (taquinlaw37_PermGroup.j0 k l0 l1 l2 t252 (l0.length : Int) true) else (if (l1.length : Int) = (l0.length : Int) then (if (l2.length : Int) = (l0.length : Int) then ((perm_Right.f l0).bind fun t253 => (if t253 = true then ((perm_Right.f l1).bind fun t254 => (if t254 = true then ((perm_Right.f l2).bind fun t255 => (taquinlaw37_PermGroup.j0 k l0 l1 l2 t252 (l0.length : Int) (!t255))) else (taquinlaw37_PermGroup.j0 k l0 l1 l2 t252 (l0.length : Int) true))) else (taquinlaw37_PermGroup.j0 k l0 l1 l2 t252 (l0.length : Int) true))) else (taquinlaw37_PermGroup.j0 k l0 l1 l2 t252 (l0.length : Int) true)) else (taquinlaw37_PermGroup.j0 k l0 l1 l2 t252 (l0.length : Int) true)))) = some r := h
  clear h
  replace H := Option.bind_eq_some_iff.mp H
  obtain ⟨t252, A40, H⟩ := H
  replace H : (if (l0.length : Int) > 40 then (taquinlaw37_PermGroup.j0 k l0 l1 l2 t252 (l0.length : Int) true) else (if (l1.length : Int) = (l0.length : Int) then (if (l2.length : Int) = (l0.length : Int) then ((perm_Right.f l0).bind fun t253 => (if t253 = true then ((perm_Right.f l1).bind fun t254 => (if t254 = true then ((perm_Right.f l2).bind fun t255 => (taquinlaw37_PermGroup.j0 k l0 l1 l2 t252 (l0.length : Int) (!t255))) else (taquinlaw37_PermGroup.j0 k l0 l1 l2 t252 (l0.length : Int) true))) else (taquinlaw37_PermGroup.j0 k l0 l1 l2 t252 (l0.length : Int) true))) else (taquinlaw37_PermGroup.j0 k l0 l1 l2 t252 (l0.length : Int) true)) else (taquinlaw37_PermGroup.j0 k l0 l1 l2 t252 (l0.length : Int) true))) = some r := H
  have A4 := Aside0.mk A40
  clear A40
  have HC5 := Aside0.mk H
  clear H
  go_enter Try.func5, Try.ntmps5
  go_upto_region 3 with (first | ((with_reducible refine gate_callee (f := 8) rfl ?_); refine goesL_ (some 14) rfl rfl Try.func8 (by kernel_rfl) rfl #[] rfl (by (try simp only [List.map_toArray, List.map_cons, List.map_nil]); first | done | rfl | (simp only [List.length_drop, List.length_take]; rfl)) ?_; (with_reducible refine (taquinlaw37_small.calls k  t252 _ A4.out).mono ?_); rintro e w6 ⟨rfl, hb⟩; refine ⟨_, rfl, ?_⟩; have n0_ := Aside0.mk (below_step (by repeat (first | (with_reducible first | exact HB.out | apply below_alloc | apply pw_below_drewN | apply below_drew1) | exact HB.out)) hb); clear HB; have HB := n0_; clear n0_; (try clear hb); (try clear hb2); (try clear hk); (try clear hi)))
  (try simp only [Act.put, List.setIfInBounds_toArray, List.set_cons_zero, List.set_cons_succ])
  go_cut [45] (fun v45 wc => ∃ (kq : Nat) (x45_4 : Bool), v45 = .bool x45_4 ∧ Aside0 (taquinlaw37_PermGroup.j0 kq l0 l1 l2 t252 (l0.length : Int) x45_4 = some r) ∧ Aside0 (kq ≤ k) ∧ Aside0 (Below w.heap.size w wc))
  case first =>
    have H := HC5.out
    clear HC5
    by_cases c7 : (l0.length : Int) > 40
    · rw [if_pos c7] at H
      have c7b0 : decide (40 < (l0.length : Int)) = true := decide_eq_true c7
      have c7b1 : decide (40 < l0.length) = true := decide_eq_true (by omega)
      clear c7
      (first | rw [c7b0] | (simp only [i64_w, i32_w]; rw [c7b0]) | skip)
      have H' := Aside0.mk H
      clear H
      go_wp2
      go_meet
      case rel => exact ⟨_, (true), (by first | rfl | (simp; done) | (simp [*]; done)), H', ⟨by first | omega | exact Nat.le_refl _⟩, ⟨by repeat (first | (with_reducible first | exact HB.out | apply below_alloc | apply pw_below_drewN | apply below_drew1) | exact HB.out)⟩⟩
    · rw [if_neg c7] at H
      have c7b0 : decide (40 < (l0.length : Int)) = false := decide_eq_false c7
      have c7b1 : decide (40 < l0.length) = false := decide_eq_false (by omega)
      clear c7
      (first | rw [c7b0] | (simp only [i64_w, i32_w]; rw [c7b0]) | skip)
      by_cases c8 : (l1.length : Int) = (l0.length : Int)
      · rw [if_pos c8] at H
        have c8b0 : ((l1.length : Int) == (l0.length : Int)) = true := beq_iff_eq.mpr c8
        have c8b1 : ((l1.length : Int) != (l0.length : Int)) = false := bne_eq_false_iff_eq.mpr c8
        have c8b2 : (l1.length == l0.length) = true := by first | simpa using c8 | (simp at c8 ⊢; omega)
        clear c8
        by_cases c9 : (l2.length : Int) = (l0.length : Int)
        · rw [if_pos c9] at H
          have c9b0 : ((l2.length : Int) == (l0.length : Int)) = true := beq_iff_eq.mpr c9
          have c9b1 : ((l2.length : Int) != (l0.length : Int)) = false := bne_eq_false_iff_eq.mpr c9
          have c9b2 : (l2.length == l0.length) = true := by first | simpa using c9 | (simp at c9 ⊢; omega)
          clear c9
          replace H := Option.bind_eq_some_iff.mp H
          obtain ⟨t253, A100, H⟩ := H
          replace H : (if t253 = true then ((perm_Right.f l1).bind fun t254 => (if t254 = true then ((perm_Right.f l2).bind fun t255 => (taquinlaw37_PermGroup.j0 k l0 l1 l2 t252 (l0.length : Int) (!t255))) else (taquinlaw37_PermGroup.j0 k l0 l1 l2 t252 (l0.length : Int) true))) else (taquinlaw37_PermGroup.j0 k l0 l1 l2 t252 (l0.length : Int) true)) = some r := H
          have A10 := Aside0.mk A100
          clear A100
          by_cases c11 : t253 = true
          · subst c11
            have H1 : ((perm_Right.f l1).bind fun t254 => (if t254 = true then ((perm_Right.f l2).bind fun t255 => (taquinlaw37_PermGroup.j0 k l0 l1 l2 t252 (l0.length : Int) (!t255))) else (taquinlaw37_PermGroup.j0 k l0 l1 l2 t252 (l0.length : Int) true))) = some r := by rw [if_pos rfl] at H; exact H
            clear H
            have H := H1
            clear H1
            replace H := Option.bind_eq_some_iff.mp H
            obtain ⟨t254, A120, H⟩ := H
            replace H : (if t254 = true then ((perm_Right.f l2).bind fun t255 => (taquinlaw37_PermGroup.j0 k l0 l1 l2 t252 (l0.length : Int) (!t255))) else (taquinlaw37_PermGroup.j0 k l0 l1 l2 t252 (l0.length : Int) true)) = some r := H
            have A12 := Aside0.mk A120
            clear A120
            by_cases c13 : t254 = true
            · subst c13
              have H1 : ((perm_Right.f l2).bind fun t255 => (taquinlaw37_PermGroup.j0 k l0 l1 l2 t252 (l0.length : Int) (!t255))) = some r := by rw [if_pos rfl] at H; exact H
              clear H
              have H := H1
              clear H1
              replace H := Option.bind_eq_some_iff.mp H
              obtain ⟨t255, A140, H⟩ := H
              replace H : (taquinlaw37_PermGroup.j0 k l0 l1 l2 t252 (l0.length : Int) (!t255)) = some r := H
              have A14 := Aside0.mk A140
              clear A140
              have H' := Aside0.mk H
              clear H
              go_wp2_with (first | (go_at_call 9; (with_reducible refine (perm_Right.calls _ _ l0 true _ ?side1 ?side2 A10.out).mono ?_); (case side1 => repeat (first | exact (Kd.C_below HR0.out HB.out) | (with_reducible refine Kd.C_alloc ?_ _) | (with_reducible refine Kd.C_drewN ?_ _) | (with_reducible refine Kd.C_drew ?_))); (case side2 => exact HC0.out); rintro e w15 ⟨rfl, hb⟩; have n0_ := Aside0.mk (below_step (by repeat (first | (with_reducible first | exact HB.out | apply below_alloc | apply pw_below_drewN | apply below_drew1) | exact HB.out)) hb); clear HB; have HB := n0_; clear n0_; (try clear hb); (try clear hb2); (try clear hk); (try clear hi)) | (go_at_call 9; (with_reducible refine (perm_Right.calls _ _ l1 true _ ?side1 ?side2 A12.out).mono ?_); (case side1 => repeat (first | exact (Kd.C_below HR1.out HB.out) | (with_reducible refine Kd.C_alloc ?_ _) | (with_reducible refine Kd.C_drewN ?_ _) | (with_reducible refine Kd.C_drew ?_))); (case side2 => exact HC1.out); rintro e w16 ⟨rfl, hb⟩; have n0_ := Aside0.mk (below_step (by repeat (first | (with_reducible first | exact HB.out | apply below_alloc | apply pw_below_drewN | apply below_drew1) | exact HB.out)) hb); clear HB; have HB := n0_; clear n0_; (try clear hb); (try clear hb2); (try clear hk); (try clear hi)) | (go_at_call 9; (with_reducible refine (perm_Right.calls _ _ l2 t255 _ ?side1 ?side2 A14.out).mono ?_); (case side1 => repeat (first | exact (Kd.C_below HR2.out HB.out) | (with_reducible refine Kd.C_alloc ?_ _) | (with_reducible refine Kd.C_drewN ?_ _) | (with_reducible refine Kd.C_drew ?_))); (case side2 => exact HC2.out); rintro e w17 ⟨rfl, hb⟩; have n0_ := Aside0.mk (below_step (by repeat (first | (with_reducible first | exact HB.out | apply below_alloc | apply pw_below_drewN | apply below_drew1) | exact HB.out)) hb); clear HB; have HB := n0_; clear n0_; (try clear hb); (try clear hb2); (try clear hk); (try clear hi)))
              go_meet
              case rel => exact ⟨_, (!t255), (by first | rfl | (simp; done) | (simp [*]; done)), H', ⟨by first | omega | exact Nat.le_refl _⟩, ⟨by repeat (first | (with_reducible first | exact HB.out | apply below_alloc | apply pw_below_drewN | apply below_drew1) | exact HB.out)⟩⟩
            · replace c13 := Bool.eq_false_iff.mpr c13
              subst c13
              have H1 : (taquinlaw37_PermGroup.j0 k l0 l1 l2 t252 (l0.length : Int) true) = some r := by rw [if_neg (show ¬ (false = true) by decide)] at H; exact H
              clear H
              have H := H1
              clear H1
              have H' := Aside0.mk H
              clear H
              go_wp2_with (first | (go_at_call 9; (with_reducible refine (perm_Right.calls _ _ l0 true _ ?side1 ?side2 A10.out).mono ?_); (case side1 => repeat (first | exact (Kd.C_below HR0.out HB.out) | (with_reducible refine Kd.C_alloc ?_ _) | (with_reducible refine Kd.C_drewN ?_ _) | (with_reducible refine Kd.C_drew ?_))); (case side2 => exact HC0.out); rintro e w18 ⟨rfl, hb⟩; have n0_ := Aside0.mk (below_step (by repeat (first | (with_reducible first | exact HB.out | apply below_alloc | apply pw_below_drewN | apply below_drew1) | exact HB.out)) hb); clear HB; have HB := n0_; clear n0_; (try clear hb); (try clear hb2); (try clear hk); (try clear hi)) | (go_at_call 9; (with_reducible refine (perm_Right.calls _ _ l1 false _ ?side1 ?side2 A12.out).mono ?_); (case side1 => repeat (first | exact (Kd.C_below HR1.out HB.out) | (with_reducible refine Kd.C_alloc ?_ _) | (with_reducible refine Kd.C_drewN ?_ _) | (with_reducible refine Kd.C_drew ?_))); (case side2 => exact HC1.out); rintro e w19 ⟨rfl, hb⟩; have n0_ := Aside0.mk (below_step (by repeat (first | (with_reducible first | exact HB.out | apply below_alloc | apply pw_below_drewN | apply below_drew1) | exact HB.out)) hb); clear HB; have HB := n0_; clear n0_; (try clear hb); (try clear hb2); (try clear hk); (try clear hi)))
              go_meet
              case rel => exact ⟨_, (true), (by first | rfl | (simp; done) | (simp [*]; done)), H', ⟨by first | omega | exact Nat.le_refl _⟩, ⟨by repeat (first | (with_reducible first | exact HB.out | apply below_alloc | apply pw_below_drewN | apply below_drew1) | exact HB.out)⟩⟩
          · replace c11 := Bool.eq_false_iff.mpr c11
            subst c11
            have H1 : (taquinlaw37_PermGroup.j0 k l0 l1 l2 t252 (l0.length : Int) true) = some r := by rw [if_neg (show ¬ (false = true) by decide)] at H; exact H
            clear H
            have H := H1
            clear H1
            have H' := Aside0.mk H
            clear H
            go_wp2_with (first | (go_at_call 9; (with_reducible refine (perm_Right.calls _ _ l0 false _ ?side1 ?side2 A10.out).mono ?_); (case side1 => repeat (first | exact (Kd.C_below HR0.out HB.out) | (with_reducible refine Kd.C_alloc ?_ _) | (with_reducible refine Kd.C_drewN ?_ _) | (with_reducible refine Kd.C_drew ?_))); (case side2 => exact HC0.out); rintro e w20 ⟨rfl, hb⟩; have n0_ := Aside0.mk (below_step (by repeat (first | (with_reducible first | exact HB.out | apply below_alloc | apply pw_below_drewN | apply below_drew1) | exact HB.out)) hb); clear HB; have HB := n0_; clear n0_; (try clear hb); (try clear hb2); (try clear hk); (try clear hi)))
            go_meet
            case rel => exact ⟨_, (true), (by first | rfl | (simp; done) | (simp [*]; done)), H', ⟨by first | omega | exact Nat.le_refl _⟩, ⟨by repeat (first | (with_reducible first | exact HB.out | apply below_alloc | apply pw_below_drewN | apply below_drew1) | exact HB.out)⟩⟩
        · rw [if_neg c9] at H
          have c9b0 : ((l2.length : Int) == (l0.length : Int)) = false := beq_eq_false_iff_ne.mpr c9
          have c9b1 : ((l2.length : Int) != (l0.length : Int)) = true := bne_iff_ne.mpr c9
          have c9b2 : (l2.length == l0.length) = false := by first | simpa using c9 | (simp at c9 ⊢; omega)
          have H' := Aside0.mk H
          clear H
          go_wp2
          go_meet
          case rel => exact ⟨_, (true), (by first | rfl | (simp; done) | (simp [*]; done)), H', ⟨by first | omega | exact Nat.le_refl _⟩, ⟨by repeat (first | (with_reducible first | exact HB.out | apply below_alloc | apply pw_below_drewN | apply below_drew1) | exact HB.out)⟩⟩
      · rw [if_neg c8] at H
        have c8b0 : ((l1.length : Int) == (l0.length : Int)) = false := beq_eq_false_iff_ne.mpr c8
        have c8b1 : ((l1.length : Int) != (l0.length : Int)) = true := bne_iff_ne.mpr c8
        have c8b2 : (l1.length == l0.length) = false := by first | simpa using c8 | (simp at c8 ⊢; omega)
        have H' := Aside0.mk H
        clear H
        go_wp2
        go_meet
        case rel => exact ⟨_, (true), (by first | rfl | (simp; done) | (simp [*]; done)), H', ⟨by first | omega | exact Nat.le_refl _⟩, ⟨by repeat (first | (with_reducible first | exact HB.out | apply below_alloc | apply pw_below_drewN | apply below_drew1) | exact HB.out)⟩⟩
  case rest =>
    clear HC5
    try clear c1
    try clear c2
    try clear p2
    try clear c5
    try clear c7
    try clear c7b0
    try clear c7b1
    try clear c8
    try clear c8b0
    try clear c8b1
    try clear c8b2
    try clear c9
    try clear c9b0
    try clear c9b1
    try clear c9b2
    try clear c11
    try clear c13
    obtain ⟨kq, x45_4, rfl, HA, HJ4, HB⟩ := hcut
    cases kq with
    | zero => exact absurd HA.out (by simp [taquinlaw37_PermGroup.j0])
    | succ kj4 =>
      have H := HA.out
      clear HA
      simp only [taquinlaw37_PermGroup.j0] at H
      by_cases c21 : x45_4 = true
      · subst c21
        have H1 : (some t252) = some r := by rw [if_pos rfl] at H; exact H
        clear H
        have H := H1
        clear H1
        obtain rfl := Option.some.inj H
        go_wp2
        go_ret
        exact ⟨by first | rfl | (simp [errW_none, errW_some] <;> rfl) | (simp [*, errW_none, errW_some] <;> rfl), by repeat (first | (with_reducible first | exact HB.out | apply below_alloc | apply pw_below_drewN | apply below_drew1) | exact HB.out)⟩
      · replace c21 := Bool.eq_false_iff.mpr c21
        subst c21
        have H1 : ((some (([] : List Int) : List Int)).bind fun y256 => (if y256.length + l0.length < 17592186044416 then ((some (y256 ++ l0 : List Int)).bind fun y259 => ((perm_Compose.f kj4 l0 l1).bind fun t262 => ((perm_Identity.f kj4 (l0.length : Int)).bind fun t265 => ((perm_Compose.f kj4 t262 l2).bind fun t268 => ((perm_Compose.f kj4 l1 l2).bind fun t271 => ((perm_Compose.f kj4 l0 t271).bind fun t274 => ((taquinref37_Same.f kj4 t268 t274).bind fun t277 => (if t277 = true then ((perm_Compose.f kj4 l0 t265).bind fun t278 => ((taquinref37_Same.f kj4 t278 l0).bind fun t281 => (if t281 = true then ((perm_Compose.f kj4 t265 l0).bind fun t282 => ((taquinref37_Same.f kj4 t282 l0).bind fun t285 => (taquinlaw37_PermGroup.j1 kj4 l0 l1 t252 y259 t262 t265 t285))) else (taquinlaw37_PermGroup.j1 kj4 l0 l1 t252 y259 t262 t265 false)))) else (taquinlaw37_PermGroup.j1 kj4 l0 l1 t252 y259 t262 t265 false))))))))) else (none))) = some r := by rw [if_neg (show ¬ (false = true) by decide)] at H; exact H
        clear H
        have H := H1
        clear H1
        obtain ⟨y256, hy256⟩ : ∃ y_ : List Int, y_ = (([] : List Int)) := ⟨_, rfl⟩
        replace H : (if y256.length + l0.length < 17592186044416 then ((some (y256 ++ l0 : List Int)).bind fun y259 => ((perm_Compose.f kj4 l0 l1).bind fun t262 => ((perm_Identity.f kj4 (l0.length : Int)).bind fun t265 => ((perm_Compose.f kj4 t262 l2).bind fun t268 => ((perm_Compose.f kj4 l1 l2).bind fun t271 => ((perm_Compose.f kj4 l0 t271).bind fun t274 => ((taquinref37_Same.f kj4 t268 t274).bind fun t277 => (if t277 = true then ((perm_Compose.f kj4 l0 t265).bind fun t278 => ((taquinref37_Same.f kj4 t278 l0).bind fun t281 => (if t281 = true then ((perm_Compose.f kj4 t265 l0).bind fun t282 => ((taquinref37_Same.f kj4 t282 l0).bind fun t285 => (taquinlaw37_PermGroup.j1 kj4 l0 l1 t252 y259 t262 t265 t285))) else (taquinlaw37_PermGroup.j1 kj4 l0 l1 t252 y259 t262 t265 false)))) else (taquinlaw37_PermGroup.j1 kj4 l0 l1 t252 y259 t262 t265 false))))))))) else (none)) = some r := by first | (rw [hy256]; with_reducible exact H) | (have H2_ := (Option.bind_some _ _).symm.trans H; rw [hy256]; with_reducible exact H2_) | (have H2_ := (Option.bind_some _ _).symm.trans H; with_reducible exact H2_) | with_reducible exact H | (rw [hy256]; exact H) | exact H
        have Ny256 := Aside0.mk hy256
        clear hy256
        by_cases c22 : y256.length + l0.length < 17592186044416
        · rw [if_pos c22] at H
          have LMc22 := Aside0.mk c22
          clear c22
          obtain ⟨y259, hy259⟩ : ∃ y_ : List Int, y_ = (y256 ++ l0) := ⟨_, rfl⟩
          replace H : ((perm_Compose.f kj4 l0 l1).bind fun t262 => ((perm_Identity.f kj4 (l0.length : Int)).bind fun t265 => ((perm_Compose.f kj4 t262 l2).bind fun t268 => ((perm_Compose.f kj4 l1 l2).bind fun t271 => ((perm_Compose.f kj4 l0 t271).bind fun t274 => ((taquinref37_Same.f kj4 t268 t274).bind fun t277 => (if t277 = true then ((perm_Compose.f kj4 l0 t265).bind fun t278 => ((taquinref37_Same.f kj4 t278 l0).bind fun t281 => (if t281 = true then ((perm_Compose.f kj4 t265 l0).bind fun t282 => ((taquinref37_Same.f kj4 t282 l0).bind fun t285 => (taquinlaw37_PermGroup.j1 kj4 l0 l1 t252 y259 t262 t265 t285))) else (taquinlaw37_PermGroup.j1 kj4 l0 l1 t252 y259 t262 t265 false)))) else (taquinlaw37_PermGroup.j1 kj4 l0 l1 t252 y259 t262 t265 false)))))))) = some r := by first | (rw [hy259]; with_reducible exact H) | (have H2_ := (Option.bind_some _ _).symm.trans H; rw [hy259]; with_reducible exact H2_) | (have H2_ := (Option.bind_some _ _).symm.trans H; with_reducible exact H2_) | with_reducible exact H | (rw [hy259]; exact H) | exact H
          have Ny259 := Aside0.mk hy259
          clear hy259
          replace H := Option.bind_eq_some_iff.mp H
          obtain ⟨t262, A230, H⟩ := H
          replace H : ((perm_Identity.f kj4 (l0.length : Int)).bind fun t265 => ((perm_Compose.f kj4 t262 l2).bind fun t268 => ((perm_Compose.f kj4 l1 l2).bind fun t271 => ((perm_Compose.f kj4 l0 t271).bind fun t274 => ((taquinref37_Same.f kj4 t268 t274).bind fun t277 => (if t277 = true then ((perm_Compose.f kj4 l0 t265).bind fun t278 => ((taquinref37_Same.f kj4 t278 l0).bind fun t281 => (if t281 = true then ((perm_Compose.f kj4 t265 l0).bind fun t282 => ((taquinref37_Same.f kj4 t282 l0).bind fun t285 => (taquinlaw37_PermGroup.j1 kj4 l0 l1 t252 y259 t262 t265 t285))) else (taquinlaw37_PermGroup.j1 kj4 l0 l1 t252 y259 t262 t265 false)))) else (taquinlaw37_PermGroup.j1 kj4 l0 l1 t252 y259 t262 t265 false))))))) = some r := H
          have A23 := Aside0.mk A230
          clear A230
          replace H := Option.bind_eq_some_iff.mp H
          obtain ⟨t265, A240, H⟩ := H
          replace H : ((perm_Compose.f kj4 t262 l2).bind fun t268 => ((perm_Compose.f kj4 l1 l2).bind fun t271 => ((perm_Compose.f kj4 l0 t271).bind fun t274 => ((taquinref37_Same.f kj4 t268 t274).bind fun t277 => (if t277 = true then ((perm_Compose.f kj4 l0 t265).bind fun t278 => ((taquinref37_Same.f kj4 t278 l0).bind fun t281 => (if t281 = true then ((perm_Compose.f kj4 t265 l0).bind fun t282 => ((taquinref37_Same.f kj4 t282 l0).bind fun t285 => (taquinlaw37_PermGroup.j1 kj4 l0 l1 t252 y259 t262 t265 t285))) else (taquinlaw37_PermGroup.j1 kj4 l0 l1 t252 y259 t262 t265 false)))) else (taquinlaw37_PermGroup.j1 kj4 l0 l1 t252 y259 t262 t265 false)))))) = some r := H
          have A24 := Aside0.mk A240
          clear A240
          have HC25 := Aside0.mk H
          clear H
          go_upto_region 8 with (first | ((with_reducible refine gate_dst (N := 47) rfl ?_); (try (refine gate_guard (by rfl) ?_; dsimp only)); refine Kd.R_lit (Kd.int .i64) _ 3 ?hg (N := 47) ?hd (xs := ([] : List Int)) (inner := []) (ok := fun _ => True) (okp := fun _ => True) ?hr ?hp (fun _ hk => hk) trivial (Below.refl _ _) (Nat.le_refl _) (by simp) ?_; (case hd => rfl); (case hg => rfl); (case hr => first | (go_simp; done) | (go_simp; rfl)); (case hp => exact (Reps.none _ _)); intro v257 w26 ho27 hb hg_ hnew_; clear hg_ hnew_; (first | rw [← Ny256.out] at ho27 | (simp only [Int.reduceToNat] at ho27; rw [← Ny256.out] at ho27)); have n0_ := Aside0.mk (Kd.R_lower ho27 (below_size (by repeat (first | (with_reducible first | exact HB.out | apply below_alloc | apply pw_below_drewN | apply below_drew1) | exact HB.out)))); have n1_ := Aside0.mk (below_step (by repeat (first | (with_reducible first | exact HB.out | apply below_alloc | apply pw_below_drewN | apply below_drew1) | exact HB.out)) hb); clear HB; have HO258 := n0_; have HB := n1_; clear n0_ n1_; clear hb ho27) | ((with_reducible refine gate_builtin (b := .append) (xs := #[.tmp 47, .tmp 48]) rfl ?_); (try (refine gate_guard (by rfl) ?_; dsimp only)); at_builtin; refine Kd.R_append_rows (Kd.int .i64) (w0 := w) w.heap.size rfl (.tmp 47) (.tmp 48) 22 3 (.int .i64 0) 8 rfl Try.underlying22 info3 rfl (by decide) (by omega) v257 y256 l0 _ _ _ (fun _ => True) (fun _ => False) rfl rfl ?aO ?aR (fun _ _ h => h) (fun _ h => h.elim) ?aF ?aB ?aS ?aL ?_; (case aR => repeat (first | exact (Kd.C_below HR0.out HB.out) | (with_reducible refine Kd.C_alloc ?_ _) | (with_reducible refine Kd.C_drewN ?_ _) | (with_reducible refine Kd.C_drew ?_))); (case aB => exact (by repeat (first | (with_reducible first | exact HB.out | apply below_alloc | apply pw_below_drewN | apply below_drew1) | exact HB.out))); (case aF => exact (fun _ _ => trivial)); (case aO => exact (by (with_reducible repeat (first | apply Kd.R_alloc | apply Kd.R_drewN | apply Kd.R_drew)); exact HO258.out)); (case aS => exact (below_size (by repeat (first | (with_reducible first | exact HB.out | apply below_alloc | apply pw_below_drewN | apply below_drew1) | exact HB.out)))); (case aL => have := LMc22.out; omega); intro v260 w28 ho hb hg hat; rw [← Ny259.out] at ho; have n0_ := Aside0.mk (hb); have n1_ := Aside0.mk (ho); clear HB; clear HO258; have HB := n0_; have HO261 := n1_; clear n0_ n1_; clear ho hb hg hat) | ((with_reducible refine gate_callee (f := 18) rfl ?_); refine goesL_ (some 52) rfl rfl Try.func18 (by kernel_rfl) rfl #[.slice A0 l0.length c0, .slice A1 l1.length c1] rfl (by (try simp only [List.map_toArray, List.map_cons, List.map_nil]); first | done | rfl | (simp only [List.length_drop, List.length_take]; rfl)) ?_; (with_reducible refine (perm_Compose.calls kj4 _ _ l0 _ _ l1 t262 _ ?side1 ?side2 ?side3 ?side4 A23.out).mono ?_); (case side1 => repeat (first | exact (Kd.C_below HR0.out HB.out) | (with_reducible refine Kd.C_alloc ?_ _) | (with_reducible refine Kd.C_drewN ?_ _) | (with_reducible refine Kd.C_drew ?_))); (case side2 => exact HC0.out); (case side3 => repeat (first | exact (Kd.C_below HR1.out HB.out) | (with_reducible refine Kd.C_alloc ?_ _) | (with_reducible refine Kd.C_drewN ?_ _) | (with_reducible refine Kd.C_drew ?_))); (case side4 => exact HC1.out); rintro e w29 ⟨v263, rfl, ho0, hb⟩; refine ⟨_, rfl, ?_⟩; have n0_ := Aside0.mk (Kd.R_elder' (by (with_reducible repeat (first | apply Kd.R_alloc | apply Kd.R_drewN | apply Kd.R_drew)); exact HO261.out) (Kd.R_base ho0) hb); have n1_ := Aside0.mk (Kd.R_lower (Kd.R_new' ho0 (Kd.R_lt (by (with_reducible repeat (first | apply Kd.R_alloc | apply Kd.R_drewN | apply Kd.R_drew)); exact HO261.out))) (below_size (by repeat (first | (with_reducible first | exact HB.out | apply below_alloc | apply pw_below_drewN | apply below_drew1) | exact HB.out)))); have n2_ := Aside0.mk (below_step (by repeat (first | (with_reducible first | exact HB.out | apply below_alloc | apply pw_below_drewN | apply below_drew1) | exact HB.out)) hb); clear HO261; clear HB; have HO261 := n0_; have HO264 := n1_; have HB := n2_; clear n0_ n1_ n2_; (try clear hb); (try clear hb2); (try clear hk); (try clear hi); (try clear ho0)) | ((with_reducible refine gate_callee (f := 15) rfl ?_); refine goesL_ (some 54) rfl rfl Try.func15 (by kernel_rfl) rfl #[.int .i64 (l0.length : Int)] rfl (by (try simp only [List.map_toArray, List.map_cons, List.map_nil]); first | done | rfl | (simp only [List.length_drop, List.length_take]; rfl)) ?_; (with_reducible refine (perm_Identity.calls kj4 (l0.length : Int) t265 _ A24.out).mono ?_); rintro e w30 ⟨v266, rfl, ho0, hb⟩; refine ⟨_, rfl, ?_⟩; have n0_ := Aside0.mk (Kd.R_elder' (by (with_reducible repeat (first | apply Kd.R_alloc | apply Kd.R_drewN | apply Kd.R_drew)); exact HO261.out) (Kd.R_base ho0) hb); have n1_ := Aside0.mk (Kd.R_elder' (by (with_reducible repeat (first | apply Kd.R_alloc | apply Kd.R_drewN | apply Kd.R_drew)); exact HO264.out) (Kd.R_base ho0) hb); have n2_ := Aside0.mk (Kd.R_lower (Kd.R_new' (Kd.R_new' ho0 (Kd.R_lt (by (with_reducible repeat (first | apply Kd.R_alloc | apply Kd.R_drewN | apply Kd.R_drew)); exact HO261.out))) (Kd.R_lt (by (with_reducible repeat (first | apply Kd.R_alloc | apply Kd.R_drewN | apply Kd.R_drew)); exact HO264.out))) (below_size (by repeat (first | (with_reducible first | exact HB.out | apply below_alloc | apply pw_below_drewN | apply below_drew1) | exact HB.out)))); have n3_ := Aside0.mk (below_step (by repeat (first | (with_reducible first | exact HB.out | apply below_alloc | apply pw_below_drewN | apply below_drew1) | exact HB.out)) hb); clear HO261; clear HO264; clear HB; have HO261 := n0_; have HO264 := n1_; have HO267 := n2_; have HB := n3_; clear n0_ n1_ n2_ n3_; (try clear hb); (try clear hb2); (try clear hk); (try clear hi); (try clear ho0)))
          (try simp only [Act.put, List.setIfInBounds_toArray, List.set_cons_zero, List.set_cons_succ])
          go_cut [12] (fun v12 wc => ∃ (kq : Nat) (x12_24 : Bool), v12 = .bool x12_24 ∧ Aside0 (taquinlaw37_PermGroup.j1 kq l0 l1 t252 y259 t262 t265 x12_24 = some r) ∧ Aside0 (kq ≤ kj4) ∧ Aside0 (Kd.R (Kd.int .i64) 3 wc w.heap.size (fun k_ => some k_ ≠ (v263 : Value).ownBlock ∧ some k_ ≠ (v266 : Value).ownBlock) v260 y259) ∧ Aside0 (Kd.R (Kd.int .i64) 3 wc w.heap.size (fun k_ => some k_ ≠ (v260 : Value).ownBlock ∧ some k_ ≠ (v266 : Value).ownBlock) v263 t262) ∧ Aside0 (Kd.R (Kd.int .i64) 3 wc w.heap.size (fun k_ => some k_ ≠ (v260 : Value).ownBlock ∧ some k_ ≠ (v263 : Value).ownBlock) v266 t265) ∧ Aside0 (Below w.heap.size w wc))
          case first =>
            have H := HC25.out
            clear HC25
            replace H := Option.bind_eq_some_iff.mp H
            obtain ⟨t268, A310, H⟩ := H
            replace H : ((perm_Compose.f kj4 l1 l2).bind fun t271 => ((perm_Compose.f kj4 l0 t271).bind fun t274 => ((taquinref37_Same.f kj4 t268 t274).bind fun t277 => (if t277 = true then ((perm_Compose.f kj4 l0 t265).bind fun t278 => ((taquinref37_Same.f kj4 t278 l0).bind fun t281 => (if t281 = true then ((perm_Compose.f kj4 t265 l0).bind fun t282 => ((taquinref37_Same.f kj4 t282 l0).bind fun t285 => (taquinlaw37_PermGroup.j1 kj4 l0 l1 t252 y259 t262 t265 t285))) else (taquinlaw37_PermGroup.j1 kj4 l0 l1 t252 y259 t262 t265 false)))) else (taquinlaw37_PermGroup.j1 kj4 l0 l1 t252 y259 t262 t265 false))))) = some r := H
            have A31 := Aside0.mk A310
            clear A310
            replace H := Option.bind_eq_some_iff.mp H
            obtain ⟨t271, A320, H⟩ := H
            replace H : ((perm_Compose.f kj4 l0 t271).bind fun t274 => ((taquinref37_Same.f kj4 t268 t274).bind fun t277 => (if t277 = true then ((perm_Compose.f kj4 l0 t265).bind fun t278 => ((taquinref37_Same.f kj4 t278 l0).bind fun t281 => (if t281 = true then ((perm_Compose.f kj4 t265 l0).bind fun t282 => ((taquinref37_Same.f kj4 t282 l0).bind fun t285 => (taquinlaw37_PermGroup.j1 kj4 l0 l1 t252 y259 t262 t265 t285))) else (taquinlaw37_PermGroup.j1 kj4 l0 l1 t252 y259 t262 t265 false)))) else (taquinlaw37_PermGroup.j1 kj4 l0 l1 t252 y259 t262 t265 false)))) = some r := H
            have A32 := Aside0.mk A320
            clear A320
            replace H := Option.bind_eq_some_iff.mp H
            obtain ⟨t274, A330, H⟩ := H
            replace H : ((taquinref37_Same.f kj4 t268 t274).bind fun t277 => (if t277 = true then ((perm_Compose.f kj4 l0 t265).bind fun t278 => ((taquinref37_Same.f kj4 t278 l0).bind fun t281 => (if t281 = true then ((perm_Compose.f kj4 t265 l0).bind fun t282 => ((taquinref37_Same.f kj4 t282 l0).bind fun t285 => (taquinlaw37_PermGroup.j1 kj4 l0 l1 t252 y259 t262 t265 t285))) else (taquinlaw37_PermGroup.j1 kj4 l0 l1 t252 y259 t262 t265 false)))) else (taquinlaw37_PermGroup.j1 kj4 l0 l1 t252 y259 t262 t265 false))) = some r := H
            have A33 := Aside0.mk A330
            clear A330
            replace H := Option.bind_eq_some_iff.mp H
            obtain ⟨t277, A340, H⟩ := H
            replace H : (if t277 = true then ((perm_Compose.f kj4 l0 t265).bind fun t278 => ((taquinref37_Same.f kj4 t278 l0).bind fun t281 => (if t281 = true then ((perm_Compose.f kj4 t265 l0).bind fun t282 => ((taquinref37_Same.f kj4 t282 l0).bind fun t285 => (taquinlaw37_PermGroup.j1 kj4 l0 l1 t252 y259 t262 t265 t285))) else (taquinlaw37_PermGroup.j1 kj4 l0 l1 t252 y259 t262 t265 false)))) else (taquinlaw37_PermGroup.j1 kj4 l0 l1 t252 y259 t262 t265 false)) = some r := H
            have A34 := Aside0.mk A340
            clear A340
            by_cases c35 : t277 = true
            · subst c35
              have H1 : ((perm_Compose.f kj4 l0 t265).bind fun t278 => ((taquinref37_Same.f kj4 t278 l0).bind fun t281 => (if t281 = true then ((perm_Compose.f kj4 t265 l0).bind fun t282 => ((taquinref37_Same.f kj4 t282 l0).bind fun t285 => (taquinlaw37_PermGroup.j1 kj4 l0 l1 t252 y259 t262 t265 t285))) else (taquinlaw37_PermGroup.j1 kj4 l0 l1 t252 y259 t262 t265 false)))) = some r := by rw [if_pos rfl] at H; exact H
              clear H
              have H := H1
              clear H1
              replace H := Option.bind_eq_some_iff.mp H
              obtain ⟨t278, A360, H⟩ := H
              replace H : ((taquinref37_Same.f kj4 t278 l0).bind fun t281 => (if t281 = true then ((perm_Compose.f kj4 t265 l0).bind fun t282 => ((taquinref37_Same.f kj4 t282 l0).bind fun t285 => (taquinlaw37_PermGroup.j1 kj4 l0 l1 t252 y259 t262 t265 t285))) else (taquinlaw37_PermGroup.j1 kj4 l0 l1 t252 y259 t262 t265 false))) = some r := H
              have A36 := Aside0.mk A360
              clear A360
              replace H := Option.bind_eq_some_iff.mp H
              obtain ⟨t281, A370, H⟩ := H
              replace H : (if t281 = true then ((perm_Compose.f kj4 t265 l0).bind fun t282 => ((taquinref37_Same.f kj4 t282 l0).bind fun t285 => (taquinlaw37_PermGroup.j1 kj4 l0 l1 t252 y259 t262 t265 t285))) else (taquinlaw37_PermGroup.j1 kj4 l0 l1 t252 y259 t262 t265 false)) = some r := H
              have A37 := Aside0.mk A370
              clear A370
              by_cases c38 : t281 = true
              · subst c38
                have H1 : ((perm_Compose.f kj4 t265 l0).bind fun t282 => ((taquinref37_Same.f kj4 t282 l0).bind fun t285 => (taquinlaw37_PermGroup.j1 kj4 l0 l1 t252 y259 t262 t265 t285))) = some r := by rw [if_pos rfl] at H; exact H
                clear H
                have H := H1
                clear H1
                replace H := Option.bind_eq_some_iff.mp H
                obtain ⟨t282, A390, H⟩ := H
                replace H : ((taquinref37_Same.f kj4 t282 l0).bind fun t285 => (taquinlaw37_PermGroup.j1 kj4 l0 l1 t252 y259 t262 t265 t285)) = some r := H
                have A39 := Aside0.mk A390
                clear A390
                replace H := Option.bind_eq_some_iff.mp H
                obtain ⟨t285, A400, H⟩ := H
                replace H : (taquinlaw37_PermGroup.j1 kj4 l0 l1 t252 y259 t262 t265 t285) = some r := H
                have A40 := Aside0.mk A400
                clear A400
                have H' := Aside0.mk H
                clear H
                obtain ⟨Ao41, co41, eo41⟩ := Kd.R_slice HO264.out
                subst eo41
                go_wp2_with (first | ((with_reducible refine gate_callee (f := 18) rfl ?_); refine goesL_ (some 57) rfl rfl Try.func18 (by kernel_rfl) rfl #[.slice Ao41 t262.length co41, .slice A2 l2.length c2] rfl (by (try simp only [List.map_toArray, List.map_cons, List.map_nil]); first | done | rfl | (simp only [List.length_drop, List.length_take]; rfl)) ?_; (with_reducible refine (perm_Compose.calls kj4 _ _ t262 _ _ l2 t268 _ ?side1 ?side2 ?side3 ?side4 A31.out).mono ?_); (case side1 => repeat (first | exact (Kd.R_reads' HO264.out).2.2 | (with_reducible refine Kd.C_alloc ?_ _) | (with_reducible refine Kd.C_drewN ?_ _) | (with_reducible refine Kd.C_drew ?_))); (case side2 => exact (Kd.R_reads' HO264.out).2.1); (case side3 => repeat (first | exact (Kd.C_below HR2.out HB.out) | (with_reducible refine Kd.C_alloc ?_ _) | (with_reducible refine Kd.C_drewN ?_ _) | (with_reducible refine Kd.C_drew ?_))); (case side4 => exact HC2.out); rintro e w42 ⟨v269, rfl, ho0, hb⟩; refine ⟨_, rfl, ?_⟩; have n0_ := Aside0.mk (Kd.R_elder' (by (with_reducible repeat (first | apply Kd.R_alloc | apply Kd.R_drewN | apply Kd.R_drew)); exact HO261.out) (Kd.R_base ho0) hb); have n1_ := Aside0.mk (Kd.R_elder' (by (with_reducible repeat (first | apply Kd.R_alloc | apply Kd.R_drewN | apply Kd.R_drew)); exact HO264.out) (Kd.R_base ho0) hb); have n2_ := Aside0.mk (Kd.R_elder' (by (with_reducible repeat (first | apply Kd.R_alloc | apply Kd.R_drewN | apply Kd.R_drew)); exact HO267.out) (Kd.R_base ho0) hb); have n3_ := Aside0.mk (Kd.R_lower (Kd.R_new' (Kd.R_new' (Kd.R_new' ho0 (Kd.R_lt (by (with_reducible repeat (first | apply Kd.R_alloc | apply Kd.R_drewN | apply Kd.R_drew)); exact HO261.out))) (Kd.R_lt (by (with_reducible repeat (first | apply Kd.R_alloc | apply Kd.R_drewN | apply Kd.R_drew)); exact HO264.out))) (Kd.R_lt (by (with_reducible repeat (first | apply Kd.R_alloc | apply Kd.R_drewN | apply Kd.R_drew)); exact HO267.out))) (below_size (by repeat (first | (with_reducible first | exact HB.out | apply below_alloc | apply pw_below_drewN | apply below_drew1) | exact HB.out)))); have n4_ := Aside0.mk (below_step (by repeat (first | (with_reducible first | exact HB.out | apply below_alloc | apply pw_below_drewN | apply below_drew1) | exact HB.out)) hb); clear HO261; clear HO264; clear HO267; clear HB; have HO261 := n0_; have HO264 := n1_; have HO267 := n2_; have HO270 := n3_; have HB := n4_; clear n0_ n1_ n2_ n3_ n4_; (try clear hb); (try clear hb2); (try clear hk); (try clear hi); (try clear ho0)) | ((with_reducible refine gate_callee (f := 18) rfl ?_); refine goesL_ (some 61) rfl rfl Try.func18 (by kernel_rfl) rfl #[.slice A1 l1.length c1, .slice A2 l2.length c2] rfl (by (try simp only [List.map_toArray, List.map_cons, List.map_nil]); first | done | rfl | (simp only [List.length_drop, List.length_take]; rfl)) ?_; (with_reducible refine (perm_Compose.calls kj4 _ _ l1 _ _ l2 t271 _ ?side1 ?side2 ?side3 ?side4 A32.out).mono ?_); (case side1 => repeat (first | exact (Kd.C_below HR1.out HB.out) | (with_reducible refine Kd.C_alloc ?_ _) | (with_reducible refine Kd.C_drewN ?_ _) | (with_reducible refine Kd.C_drew ?_))); (case side2 => exact HC1.out); (case side3 => repeat (first | exact (Kd.C_below HR2.out HB.out) | (with_reducible refine Kd.C_alloc ?_ _) | (with_reducible refine Kd.C_drewN ?_ _) | (with_reducible refine Kd.C_drew ?_))); (case side4 => exact HC2.out); rintro e w43 ⟨v272, rfl, ho0, hb⟩; refine ⟨_, rfl, ?_⟩; have n0_ := Aside0.mk (Kd.R_elder' (by (with_reducible repeat (first | apply Kd.R_alloc | apply Kd.R_drewN | apply Kd.R_drew)); exact HO261.out) (Kd.R_base ho0) hb); have n1_ := Aside0.mk (Kd.R_elder' (by (with_reducible repeat (first | apply Kd.R_alloc | apply Kd.R_drewN | apply Kd.R_drew)); exact HO264.out) (Kd.R_base ho0) hb); have n2_ := Aside0.mk (Kd.R_elder' (by (with_reducible repeat (first | apply Kd.R_alloc | apply Kd.R_drewN | apply Kd.R_drew)); exact HO267.out) (Kd.R_base ho0) hb); have n3_ := Aside0.mk (Kd.R_elder' (by (with_reducible repeat (first | apply Kd.R_alloc | apply Kd.R_drewN | apply Kd.R_drew)); exact HO270.out) (Kd.R_base ho0) hb); have n4_ := Aside0.mk (Kd.R_lower (Kd.R_new' (Kd.R_new' (Kd.R_new' (Kd.R_new' ho0 (Kd.R_lt (by (with_reducible repeat (first | apply Kd.R_alloc | apply Kd.R_drewN | apply Kd.R_drew)); exact HO261.out))) (Kd.R_lt (by (with_reducible repeat (first | apply Kd.R_alloc | apply Kd.R_drewN | apply Kd.R_drew)); exact HO264.out))) (Kd.R_lt (by (with_reducible repeat (first | apply Kd.R_alloc | apply Kd.R_drewN | apply Kd.R_drew)); exact HO267.out))) (Kd.R_lt (by (with_reducible repeat (first | apply Kd.R_alloc | apply Kd.R_drewN | apply Kd.R_drew)); exact HO270.out))) (below_size (by repeat (first | (with_reducible first | exact HB.out | apply below_alloc | apply pw_below_drewN | apply below_drew1) | exact HB.out)))); have n5_ := Aside0.mk (below_step (by repeat (first | (with_reducible first | exact HB.out | apply below_alloc | apply pw_below_drewN | apply below_drew1) | exact HB.out)) hb); clear HO261; clear HO264; clear HO267; clear HO270; clear HB; have HO261 := n0_; have HO264 := n1_; have HO267 := n2_; have HO270 := n3_; have HO273 := n4_; have HB := n5_; clear n0_ n1_ n2_ n3_ n4_ n5_; (try clear hb); (try clear hb2); (try clear hk); (try clear hi); (try clear ho0); obtain ⟨Ao44, co44, eo44⟩ := Kd.R_slice HO273.out; subst eo44) | ((with_reducible refine gate_callee (f := 18) rfl ?_); refine goesL_ (some 62) rfl rfl Try.func18 (by kernel_rfl) rfl #[.slice A0 l0.length c0, .slice Ao44 t271.length co44] rfl (by (try simp only [List.map_toArray, List.map_cons, List.map_nil]); first | done | rfl | (simp only [List.length_drop, List.length_take]; rfl)) ?_; (with_reducible refine (perm_Compose.calls kj4 _ _ l0 _ _ t271 t274 _ ?side1 ?side2 ?side3 ?side4 A33.out).mono ?_); (case side1 => repeat (first | exact (Kd.C_below HR0.out HB.out) | (with_reducible refine Kd.C_alloc ?_ _) | (with_reducible refine Kd.C_drewN ?_ _) | (with_reducible refine Kd.C_drew ?_))); (case side2 => exact HC0.out); (case side3 => repeat (first | exact (Kd.R_reads' HO273.out).2.2 | (with_reducible refine Kd.C_alloc ?_ _) | (with_reducible refine Kd.C_drewN ?_ _) | (with_reducible refine Kd.C_drew ?_))); (case side4 => exact (Kd.R_reads' HO273.out).2.1); rintro e w45 ⟨v275, rfl, ho0, hb⟩; refine ⟨_, rfl, ?_⟩; have n0_ := Aside0.mk (Kd.R_elder' (by (with_reducible repeat (first | apply Kd.R_alloc | apply Kd.R_drewN | apply Kd.R_drew)); exact HO261.out) (Kd.R_base ho0) hb); have n1_ := Aside0.mk (Kd.R_elder' (by (with_reducible repeat (first | apply Kd.R_alloc | apply Kd.R_drewN | apply Kd.R_drew)); exact HO264.out) (Kd.R_base ho0) hb); have n2_ := Aside0.mk (Kd.R_elder' (by (with_reducible repeat (first | apply Kd.R_alloc | apply Kd.R_drewN | apply Kd.R_drew)); exact HO267.out) (Kd.R_base ho0) hb); have n3_ := Aside0.mk (Kd.R_elder' (by (with_reducible repeat (first | apply Kd.R_alloc | apply Kd.R_drewN | apply Kd.R_drew)); exact HO270.out) (Kd.R_base ho0) hb); have n4_ := Aside0.mk (Kd.R_elder' (by (with_reducible repeat (first | apply Kd.R_alloc | apply Kd.R_drewN | apply Kd.R_drew)); exact HO273.out) (Kd.R_base ho0) hb); have n5_ := Aside0.mk (Kd.R_lower (Kd.R_new' (Kd.R_new' (Kd.R_new' (Kd.R_new' (Kd.R_new' ho0 (Kd.R_lt (by (with_reducible repeat (first | apply Kd.R_alloc | apply Kd.R_drewN | apply Kd.R_drew)); exact HO261.out))) (Kd.R_lt (by (with_reducible repeat (first | apply Kd.R_alloc | apply Kd.R_drewN | apply Kd.R_drew)); exact HO264.out))) (Kd.R_lt (by (with_reducible repeat (first | apply Kd.R_alloc | apply Kd.R_drewN | apply Kd.R_drew)); exact HO267.out))) (Kd.R_lt (by (with_reducible repeat (first | apply Kd.R_alloc | apply Kd.R_drewN | apply Kd.R_drew)); exact HO270.out))) (Kd.R_lt (by (with_reducible repeat (first | apply Kd.R_alloc | apply Kd.R_drewN | apply Kd.R_drew)); exact HO273.out))) (below_size (by repeat (first | (with_reducible first | exact HB.out | apply below_alloc | apply pw_below_drewN | apply below_drew1) | exact HB.out)))); have n6_ := Aside0.mk (below_step (by repeat (first | (with_reducible first | exact HB.out | apply below_alloc | apply pw_below_drewN | apply below_drew1) | exact HB.out)) hb); clear HO261; clear HO264; clear HO267; clear HO270; clear HO273; clear HB; have HO261 := n0_; have HO264 := n1_; have HO267 := n2_; have HO270 := n3_; have HO273 := n4_; have HO276 := n5_; have HB := n6_; clear n0_ n1_ n2_ n3_ n4_ n5_ n6_; (try clear hb); (try clear hb2); (try clear hk); (try clear hi); (try clear ho0); obtain ⟨Ao46, co46, eo46⟩ := Kd.R_slice HO270.out; subst eo46; obtain ⟨Ao47, co47, eo47⟩ := Kd.R_slice HO276.out; subst eo47) | ((with_reducible refine gate_callee (f := 12) rfl ?_); refine goesL_ (some 63) rfl rfl Try.func12 (by kernel_rfl) rfl #[.slice Ao46 t268.length co46, .slice Ao47 t274.length co47] rfl (by (try simp only [List.map_toArray, List.map_cons, List.map_nil]); first | done | rfl | (simp only [List.length_drop, List.length_take]; rfl)) ?_; (with_reducible refine (taquinref37_Same.calls kj4 _ _ t268 _ _ t274 true _ ?side1 ?side2 ?side3 ?side4 A34.out).mono ?_); (case side1 => repeat (first | exact (Kd.R_reads' HO270.out).2.2 | (with_reducible refine Kd.C_alloc ?_ _) | (with_reducible refine Kd.C_drewN ?_ _) | (with_reducible refine Kd.C_drew ?_))); (case side2 => exact (Kd.R_reads' HO270.out).2.1); (case side3 => repeat (first | exact (Kd.R_reads' HO276.out).2.2 | (with_reducible refine Kd.C_alloc ?_ _) | (with_reducible refine Kd.C_drewN ?_ _) | (with_reducible refine Kd.C_drew ?_))); (case side4 => exact (Kd.R_reads' HO276.out).2.1); rintro e w' ⟨rfl, ⟨nd, rfl⟩⟩; refine ⟨_, rfl, ?_⟩; obtain ⟨Ao48, co48, eo48⟩ := Kd.R_slice HO267.out; subst eo48) | (go_at_call 18; (with_reducible refine (perm_Compose.calls kj4 _ _ l0 _ _ t265 t278 _ ?side1 ?side2 ?side3 ?side4 A36.out).mono ?_); (case side1 => repeat (first | exact (Kd.C_below HR0.out (by repeat (first | (with_reducible first | exact HB.out | apply below_alloc | apply pw_below_drewN | apply below_drew1) | exact HB.out))) | (with_reducible refine Kd.C_alloc ?_ _) | (with_reducible refine Kd.C_drewN ?_ _) | (with_reducible refine Kd.C_drew ?_))); (case side2 => exact HC0.out); (case side3 => repeat (first | exact (Kd.R_reads' HO267.out).2.2 | (with_reducible refine Kd.C_alloc ?_ _) | (with_reducible refine Kd.C_drewN ?_ _) | (with_reducible refine Kd.C_drew ?_))); (case side4 => exact (Kd.R_reads' HO267.out).2.1); rintro e w49 ⟨v279, rfl, ho0, hb⟩; have n0_ := Aside0.mk (Kd.R_elder' (by (with_reducible repeat (first | apply Kd.R_alloc | apply Kd.R_drewN | apply Kd.R_drew)); exact HO261.out) (Kd.R_base ho0) hb); have n1_ := Aside0.mk (Kd.R_elder' (by (with_reducible repeat (first | apply Kd.R_alloc | apply Kd.R_drewN | apply Kd.R_drew)); exact HO264.out) (Kd.R_base ho0) hb); have n2_ := Aside0.mk (Kd.R_elder' (by (with_reducible repeat (first | apply Kd.R_alloc | apply Kd.R_drewN | apply Kd.R_drew)); exact HO267.out) (Kd.R_base ho0) hb); have n3_ := Aside0.mk (Kd.R_elder' (by (with_reducible repeat (first | apply Kd.R_alloc | apply Kd.R_drewN | apply Kd.R_drew)); exact HO270.out) (Kd.R_base ho0) hb); have n4_ := Aside0.mk (Kd.R_elder' (by (with_reducible repeat (first | apply Kd.R_alloc | apply Kd.R_drewN | apply Kd.R_drew)); exact HO273.out) (Kd.R_base ho0) hb); have n5_ := Aside0.mk (Kd.R_elder' (by (with_reducible repeat (first | apply Kd.R_alloc | apply Kd.R_drewN | apply Kd.R_drew)); exact HO276.out) (Kd.R_base ho0) hb); have n6_ := Aside0.mk (Kd.R_lower (Kd.R_new' (Kd.R_new' (Kd.R_new' (Kd.R_new' (Kd.R_new' (Kd.R_new' ho0 (Kd.R_lt (by (with_reducible repeat (first | apply Kd.R_alloc | apply Kd.R_drewN | apply Kd.R_drew)); exact HO261.out))) (Kd.R_lt (by (with_reducible repeat (first | apply Kd.R_alloc | apply Kd.R_drewN | apply Kd.R_drew)); exact HO264.out))) (Kd.R_lt (by (with_reducible repeat (first | apply Kd.R_alloc | apply Kd.R_drewN | apply Kd.R_drew)); exact HO267.out))) (Kd.R_lt (by (with_reducible repeat (first | apply Kd.R_alloc | apply Kd.R_drewN | apply Kd.R_drew)); exact HO270.out))) (Kd.R_lt (by (with_reducible repeat (first | apply Kd.R_alloc | apply Kd.R_drewN | apply Kd.R_drew)); exact HO273.out))) (Kd.R_lt (by (with_reducible repeat (first | apply Kd.R_alloc | apply Kd.R_drewN | apply Kd.R_drew)); exact HO276.out))) (below_size (by repeat (first | (with_reducible first | exact HB.out | apply below_alloc | apply pw_below_drewN | apply below_drew1) | exact HB.out)))); have n7_ := Aside0.mk (below_step (by repeat (first | (with_reducible first | exact HB.out | apply below_alloc | apply pw_below_drewN | apply below_drew1) | exact HB.out)) hb); clear HO261; clear HO264; clear HO267; clear HO270; clear HO273; clear HO276; clear HB; have HO261 := n0_; have HO264 := n1_; have HO267 := n2_; have HO270 := n3_; have HO273 := n4_; have HO276 := n5_; have HO280 := n6_; have HB := n7_; clear n0_ n1_ n2_ n3_ n4_ n5_ n6_ n7_; (try clear hb); (try clear hb2); (try clear hk); (try clear hi); (try clear ho0); obtain ⟨Ao50, co50, eo50⟩ := Kd.R_slice HO280.out; subst eo50) | (go_at_call 12; (with_reducible refine (taquinref37_Same.calls kj4 _ _ t278 _ _ l0 true _ ?side1 ?side2 ?side3 ?side4 A37.out).mono ?_); (case side1 => repeat (first | exact (Kd.R_reads' HO280.out).2.2 | (with_reducible refine Kd.C_alloc ?_ _) | (with_reducible refine Kd.C_drewN ?_ _) | (with_reducible refine Kd.C_drew ?_))); (case side2 => exact (Kd.R_reads' HO280.out).2.1); (case side3 => repeat (first | exact (Kd.C_below HR0.out HB.out) | (with_reducible refine Kd.C_alloc ?_ _) | (with_reducible refine Kd.C_drewN ?_ _) | (with_reducible refine Kd.C_drew ?_))); (case side4 => exact HC0.out); rintro e w' ⟨rfl, ⟨nd, rfl⟩⟩) | (go_at_call 18; (with_reducible refine (perm_Compose.calls kj4 _ _ t265 _ _ l0 t282 _ ?side1 ?side2 ?side3 ?side4 A39.out).mono ?_); (case side1 => repeat (first | exact (Kd.R_reads' HO267.out).2.2 | (with_reducible refine Kd.C_alloc ?_ _) | (with_reducible refine Kd.C_drewN ?_ _) | (with_reducible refine Kd.C_drew ?_))); (case side2 => exact (Kd.R_reads' HO267.out).2.1); (case side3 => repeat (first | exact (Kd.C_below HR0.out (by repeat (first | (with_reducible first | exact HB.out | apply below_alloc | apply pw_below_drewN | apply below_drew1) | exact HB.out))) | (with_reducible refine Kd.C_alloc ?_ _) | (with_reducible refine Kd.C_drewN ?_ _) | (with_reducible refine Kd.C_drew ?_))); (case side4 => exact HC0.out); rintro e w51 ⟨v283, rfl, ho0, hb⟩; have n0_ := Aside0.mk (Kd.R_elder' (by (with_reducible repeat (first | apply Kd.R_alloc | apply Kd.R_drewN | apply Kd.R_drew)); exact HO261.out) (Kd.R_base ho0) hb); have n1_ := Aside0.mk (Kd.R_elder' (by (with_reducible repeat (first | apply Kd.R_alloc | apply Kd.R_drewN | apply Kd.R_drew)); exact HO264.out) (Kd.R_base ho0) hb); have n2_ := Aside0.mk (Kd.R_elder' (by (with_reducible repeat (first | apply Kd.R_alloc | apply Kd.R_drewN | apply Kd.R_drew)); exact HO267.out) (Kd.R_base ho0) hb); have n3_ := Aside0.mk (Kd.R_elder' (by (with_reducible repeat (first | apply Kd.R_alloc | apply Kd.R_drewN | apply Kd.R_drew)); exact HO270.out) (Kd.R_base ho0) hb); have n4_ := Aside0.mk (Kd.R_elder' (by (with_reducible repeat (first | apply Kd.R_alloc | apply Kd.R_drewN | apply Kd.R_drew)); exact HO273.out) (Kd.R_base ho0) hb); have n5_ := Aside0.mk (Kd.R_elder' (by (with_reducible repeat (first | apply Kd.R_alloc | apply Kd.R_drewN | apply Kd.R_drew)); exact HO276.out) (Kd.R_base ho0) hb); have n6_ := Aside0.mk (Kd.R_elder' (by (with_reducible repeat (first | apply Kd.R_alloc | apply Kd.R_drewN | apply Kd.R_drew)); exact HO280.out) (Kd.R_base ho0) hb); have n7_ := Aside0.mk (Kd.R_lower (Kd.R_new' (Kd.R_new' (Kd.R_new' (Kd.R_new' (Kd.R_new' (Kd.R_new' (Kd.R_new' ho0 (Kd.R_lt (by (with_reducible repeat (first | apply Kd.R_alloc | apply Kd.R_drewN | apply Kd.R_drew)); exact HO261.out))) (Kd.R_lt (by (with_reducible repeat (first | apply Kd.R_alloc | apply Kd.R_drewN | apply Kd.R_drew)); exact HO264.out))) (Kd.R_lt (by (with_reducible repeat (first | apply Kd.R_alloc | apply Kd.R_drewN | apply Kd.R_drew)); exact HO267.out))) (Kd.R_lt (by (with_reducible repeat (first | apply Kd.R_alloc | apply Kd.R_drewN | apply Kd.R_drew)); exact HO270.out))) (Kd.R_lt (by (with_reducible repeat (first | apply Kd.R_alloc | apply Kd.R_drewN | apply Kd.R_drew)); exact HO273.out))) (Kd.R_lt (by (with_reducible repeat (first | apply Kd.R_alloc | apply Kd.R_drewN | apply Kd.R_drew)); exact HO276.out))) (Kd.R_lt (by (with_reducible repeat (first | apply Kd.R_alloc | apply Kd.R_drewN | apply Kd.R_drew)); exact HO280.out))) (below_size (by repeat (first | (with_reducible first | exact HB.out | apply below_alloc | apply pw_below_drewN | apply below_drew1) | exact HB.out)))); have n8_ := Aside0.mk (below_step (by repeat (first | (with_reducible first | exact HB.out | apply below_alloc | apply pw_below_drewN | apply below_drew1) | exact HB.out)) hb); clear HO261; clear HO264; clear HO267; clear HO270; clear HO273; clear HO276; clear HO280; clear HB; have HO261 := n0_; have HO264 := n1_; have HO267 := n2_; have HO270 := n3_; have HO273 := n4_; have HO276 := n5_; have HO280 := n6_; have HO284 := n7_; have HB := n8_; clear n0_ n1_ n2_ n3_ n4_ n5_ n6_ n7_ n8_; (try clear hb); (try clear hb2); (try clear hk); (try clear hi); (try clear ho0); obtain ⟨Ao52, co52, eo52⟩ := Kd.R_slice HO284.out; subst eo52) | (go_at_call 12; (with_reducible refine (taquinref37_Same.calls kj4 _ _ t282 _ _ l0 t285 _ ?side1 ?side2 ?side3 ?side4 A40.out).mono ?_); (case side1 => repeat (first | exact (Kd.R_reads' HO284.out).2.2 | (with_reducible refine Kd.C_alloc ?_ _) | (with_reducible refine Kd.C_drewN ?_ _) | (with_reducible refine Kd.C_drew ?_))); (case side2 => exact (Kd.R_reads' HO284.out).2.1); (case side3 => repeat (first | exact (Kd.C_below HR0.out HB.out) | (with_reducible refine Kd.C_alloc ?_ _) | (with_reducible refine Kd.C_drewN ?_ _) | (with_reducible refine Kd.C_drew ?_))); (case side4 => exact HC0.out); rintro e w' ⟨rfl, ⟨nd, rfl⟩⟩))
                go_meet
                case rel => exact ⟨_, (t285), (by first | rfl | (simp; done) | (simp [*]; done)), H', ⟨by have := HJ4.out; first | omega | exact Nat.le_refl _⟩, ⟨by (with_reducible repeat (first | apply Kd.R_alloc | apply Kd.R_drewN | apply Kd.R_drew)); exact Kd.R_mono HO261.out (fun _ hk => ⟨hk.1.1.1.1.1.1.2, hk.1.1.1.1.1.2⟩)⟩, ⟨by (with_reducible repeat (first | apply Kd.R_alloc | apply Kd.R_drewN | apply Kd.R_drew)); exact Kd.R_mono HO264.out (fun _ hk => ⟨hk.1.1.1.1.1.1.2, hk.1.1.1.1.1.2⟩)⟩, ⟨by (with_reducible repeat (first | apply Kd.R_alloc | apply Kd.R_drewN | apply Kd.R_drew)); exact Kd.R_mono HO267.out (fun _ hk => ⟨hk.1.1.1.1.1.1.2, hk.1.1.1.1.1.2⟩)⟩, ⟨by repeat (first | (with_reducible first | exact HB.out | apply below_alloc | apply pw_below_drewN | apply below_drew1) | exact HB.out)⟩⟩
              · replace c38 := Bool.eq_false_iff.mpr c38
                subst c38
                have H1 : (taquinlaw37_PermGroup.j1 kj4 l0 l1 t252 y259 t262 t265 false) = some r := by rw [if_neg (show ¬ (false = true) by decide)] at H; exact H
                clear H
                have H := H1
                clear H1
                have H' := Aside0.mk H
                clear H
                obtain ⟨Ao53, co53, eo53⟩ := Kd.R_slice HO264.out
                subst eo53
                go_wp2_with (first | ((with_reducible refine gate_callee (f := 18) rfl ?_); refine goesL_ (some 57) rfl rfl Try.func18 (by kernel_rfl) rfl #[.slice Ao53 t262.length co53, .slice A2 l2.length c2] rfl (by (try simp only [List.map_toArray, List.map_cons, List.map_nil]); first | done | rfl | (simp only [List.length_drop, List.length_take]; rfl)) ?_; (with_reducible refine (perm_Compose.calls kj4 _ _ t262 _ _ l2 t268 _ ?side1 ?side2 ?side3 ?side4 A31.out).mono ?_); (case side1 => repeat (first | exact (Kd.R_reads' HO264.out).2.2 | (with_reducible refine Kd.C_alloc ?_ _) | (with_reducible refine Kd.C_drewN ?_ _) | (with_reducible refine Kd.C_drew ?_))); (case side2 => exact (Kd.R_reads' HO264.out).2.1); (case side3 => repeat (first | exact (Kd.C_below HR2.out HB.out) | (with_reducible refine Kd.C_alloc ?_ _) | (with_reducible refine Kd.C_drewN ?_ _) | (with_reducible refine Kd.C_drew ?_))); (case side4 => exact HC2.out); rintro e w54 ⟨v269, rfl, ho0, hb⟩; refine ⟨_, rfl, ?_⟩; have n0_ := Aside0.mk (Kd.R_elder' (by (with_reducible repeat (first | apply Kd.R_alloc | apply Kd.R_drewN | apply Kd.R_drew)); exact HO261.out) (Kd.R_base ho0) hb); have n1_ := Aside0.mk (Kd.R_elder' (by (with_reducible repeat (first | apply Kd.R_alloc | apply Kd.R_drewN | apply Kd.R_drew)); exact HO264.out) (Kd.R_base ho0) hb); have n2_ := Aside0.mk (Kd.R_elder' (by (with_reducible repeat (first | apply Kd.R_alloc | apply Kd.R_drewN | apply Kd.R_drew)); exact HO267.out) (Kd.R_base ho0) hb); have n3_ := Aside0.mk (Kd.R_lower (Kd.R_new' (Kd.R_new' (Kd.R_new' ho0 (Kd.R_lt (by (with_reducible repeat (first | apply Kd.R_alloc | apply Kd.R_drewN | apply Kd.R_drew)); exact HO261.out))) (Kd.R_lt (by (with_reducible repeat (first | apply Kd.R_alloc | apply Kd.R_drewN | apply Kd.R_drew)); exact HO264.out))) (Kd.R_lt (by (with_reducible repeat (first | apply Kd.R_alloc | apply Kd.R_drewN | apply Kd.R_drew)); exact HO267.out))) (below_size (by repeat (first | (with_reducible first | exact HB.out | apply below_alloc | apply pw_below_drewN | apply below_drew1) | exact HB.out)))); have n4_ := Aside0.mk (below_step (by repeat (first | (with_reducible first | exact HB.out | apply below_alloc | apply pw_below_drewN | apply below_drew1) | exact HB.out)) hb); clear HO261; clear HO264; clear HO267; clear HB; have HO261 := n0_; have HO264 := n1_; have HO267 := n2_; have HO270 := n3_; have HB := n4_; clear n0_ n1_ n2_ n3_ n4_; (try clear hb); (try clear hb2); (try clear hk); (try clear hi); (try clear ho0)) | ((with_reducible refine gate_callee (f := 18) rfl ?_); refine goesL_ (some 61) rfl rfl Try.func18 (by kernel_rfl) rfl #[.slice A1 l1.length c1, .slice A2 l2.length c2] rfl (by (try simp only [List.map_toArray, List.map_cons, List.map_nil]); first | done | rfl | (simp only [List.length_drop, List.length_take]; rfl)) ?_; (with_reducible refine (perm_Compose.calls kj4 _ _ l1 _ _ l2 t271 _ ?side1 ?side2 ?side3 ?side4 A32.out).mono ?_); (case side1 => repeat (first | exact (Kd.C_below HR1.out HB.out) | (with_reducible refine Kd.C_alloc ?_ _) | (with_reducible refine Kd.C_drewN ?_ _) | (with_reducible refine Kd.C_drew ?_))); (case side2 => exact HC1.out); (case side3 => repeat (first | exact (Kd.C_below HR2.out HB.out) | (with_reducible refine Kd.C_alloc ?_ _) | (with_reducible refine Kd.C_drewN ?_ _) | (with_reducible refine Kd.C_drew ?_))); (case side4 => exact HC2.out); rintro e w55 ⟨v272, rfl, ho0, hb⟩; refine ⟨_, rfl, ?_⟩; have n0_ := Aside0.mk (Kd.R_elder' (by (with_reducible repeat (first | apply Kd.R_alloc | apply Kd.R_drewN | apply Kd.R_drew)); exact HO261.out) (Kd.R_base ho0) hb); have n1_ := Aside0.mk (Kd.R_elder' (by (with_reducible repeat (first | apply Kd.R_alloc | apply Kd.R_drewN | apply Kd.R_drew)); exact HO264.out) (Kd.R_base ho0) hb); have n2_ := Aside0.mk (Kd.R_elder' (by (with_reducible repeat (first | apply Kd.R_alloc | apply Kd.R_drewN | apply Kd.R_drew)); exact HO267.out) (Kd.R_base ho0) hb); have n3_ := Aside0.mk (Kd.R_elder' (by (with_reducible repeat (first | apply Kd.R_alloc | apply Kd.R_drewN | apply Kd.R_drew)); exact HO270.out) (Kd.R_base ho0) hb); have n4_ := Aside0.mk (Kd.R_lower (Kd.R_new' (Kd.R_new' (Kd.R_new' (Kd.R_new' ho0 (Kd.R_lt (by (with_reducible repeat (first | apply Kd.R_alloc | apply Kd.R_drewN | apply Kd.R_drew)); exact HO261.out))) (Kd.R_lt (by (with_reducible repeat (first | apply Kd.R_alloc | apply Kd.R_drewN | apply Kd.R_drew)); exact HO264.out))) (Kd.R_lt (by (with_reducible repeat (first | apply Kd.R_alloc | apply Kd.R_drewN | apply Kd.R_drew)); exact HO267.out))) (Kd.R_lt (by (with_reducible repeat (first | apply Kd.R_alloc | apply Kd.R_drewN | apply Kd.R_drew)); exact HO270.out))) (below_size (by repeat (first | (with_reducible first | exact HB.out | apply below_alloc | apply pw_below_drewN | apply below_drew1) | exact HB.out)))); have n5_ := Aside0.mk (below_step (by repeat (first | (with_reducible first | exact HB.out | apply below_alloc | apply pw_below_drewN | apply below_drew1) | exact HB.out)) hb); clear HO261; clear HO264; clear HO267; clear HO270; clear HB; have HO261 := n0_; have HO264 := n1_; have HO267 := n2_; have HO270 := n3_; have HO273 := n4_; have HB := n5_; clear n0_ n1_ n2_ n3_ n4_ n5_; (try clear hb); (try clear hb2); (try clear hk); (try clear hi); (try clear ho0); obtain ⟨Ao56, co56, eo56⟩ := Kd.R_slice HO273.out; subst eo56) | ((with_reducible refine gate_callee (f := 18) rfl ?_); refine goesL_ (some 62) rfl rfl Try.func18 (by kernel_rfl) rfl #[.slice A0 l0.length c0, .slice Ao56 t271.length co56] rfl (by (try simp only [List.map_toArray, List.map_cons, List.map_nil]); first | done | rfl | (simp only [List.length_drop, List.length_take]; rfl)) ?_; (with_reducible refine (perm_Compose.calls kj4 _ _ l0 _ _ t271 t274 _ ?side1 ?side2 ?side3 ?side4 A33.out).mono ?_); (case side1 => repeat (first | exact (Kd.C_below HR0.out HB.out) | (with_reducible refine Kd.C_alloc ?_ _) | (with_reducible refine Kd.C_drewN ?_ _) | (with_reducible refine Kd.C_drew ?_))); (case side2 => exact HC0.out); (case side3 => repeat (first | exact (Kd.R_reads' HO273.out).2.2 | (with_reducible refine Kd.C_alloc ?_ _) | (with_reducible refine Kd.C_drewN ?_ _) | (with_reducible refine Kd.C_drew ?_))); (case side4 => exact (Kd.R_reads' HO273.out).2.1); rintro e w57 ⟨v275, rfl, ho0, hb⟩; refine ⟨_, rfl, ?_⟩; have n0_ := Aside0.mk (Kd.R_elder' (by (with_reducible repeat (first | apply Kd.R_alloc | apply Kd.R_drewN | apply Kd.R_drew)); exact HO261.out) (Kd.R_base ho0) hb); have n1_ := Aside0.mk (Kd.R_elder' (by (with_reducible repeat (first | apply Kd.R_alloc | apply Kd.R_drewN | apply Kd.R_drew)); exact HO264.out) (Kd.R_base ho0) hb); have n2_ := Aside0.mk (Kd.R_elder' (by (with_reducible repeat (first | apply Kd.R_alloc | apply Kd.R_drewN | apply Kd.R_drew)); exact HO267.out) (Kd.R_base ho0) hb); have n3_ := Aside0.mk (Kd.R_elder' (by (with_reducible repeat (first | apply Kd.R_alloc | apply Kd.R_drewN | apply Kd.R_drew)); exact HO270.out) (Kd.R_base ho0) hb); have n4_ := Aside0.mk (Kd.R_elder' (by (with_reducible repeat (first | apply Kd.R_alloc | apply Kd.R_drewN | apply Kd.R_drew)); exact HO273.out) (Kd.R_base ho0) hb); have n5_ := Aside0.mk (Kd.R_lower (Kd.R_new' (Kd.R_new' (Kd.R_new' (Kd.R_new' (Kd.R_new' ho0 (Kd.R_lt (by (with_reducible repeat (first | apply Kd.R_alloc | apply Kd.R_drewN | apply Kd.R_drew)); exact HO261.out))) (Kd.R_lt (by (with_reducible repeat (first | apply Kd.R_alloc | apply Kd.R_drewN | apply Kd.R_drew)); exact HO264.out))) (Kd.R_lt (by (with_reducible repeat (first | apply Kd.R_alloc | apply Kd.R_drewN | apply Kd.R_drew)); exact HO267.out))) (Kd.R_lt (by (with_reducible repeat (first | apply Kd.R_alloc | apply Kd.R_drewN | apply Kd.R_drew)); exact HO270.out))) (Kd.R_lt (by (with_reducible repeat (first | apply Kd.R_alloc | apply Kd.R_drewN | apply Kd.R_drew)); exact HO273.out))) (below_size (by repeat (first | (with_reducible first | exact HB.out | apply below_alloc | apply pw_below_drewN | apply below_drew1) | exact HB.out)))); have n6_ := Aside0.mk (below_step (by repeat (first | (with_reducible first | exact HB.out | apply below_alloc | apply pw_below_drewN | apply below_drew1) | exact HB.out)) hb); clear HO261; clear HO264; clear HO267; clear HO270; clear HO273; clear HB; have HO261 := n0_; have HO264 := n1_; have HO267 := n2_; have HO270 := n3_; have HO273 := n4_; have HO276 := n5_; have HB := n6_; clear n0_ n1_ n2_ n3_ n4_ n5_ n6_; (try clear hb); (try clear hb2); (try clear hk); (try clear hi); (try clear ho0); obtain ⟨Ao58, co58, eo58⟩ := Kd.R_slice HO270.out; subst eo58; obtain ⟨Ao59, co59, eo59⟩ := Kd.R_slice HO276.out; subst eo59) | ((with_reducible refine gate_callee (f := 12) rfl ?_); refine goesL_ (some 63) rfl rfl Try.func12 (by kernel_rfl) rfl #[.slice Ao58 t268.length co58, .slice Ao59 t274.length co59] rfl (by (try simp only [List.map_toArray, List.map_cons, List.map_nil]); first | done | rfl | (simp only [List.length_drop, List.length_take]; rfl)) ?_; (with_reducible refine (taquinref37_Same.calls kj4 _ _ t268 _ _ t274 true _ ?side1 ?side2 ?side3 ?side4 A34.out).mono ?_); (case side1 => repeat (first | exact (Kd.R_reads' HO270.out).2.2 | (with_reducible refine Kd.C_alloc ?_ _) | (with_reducible refine Kd.C_drewN ?_ _) | (with_reducible refine Kd.C_drew ?_))); (case side2 => exact (Kd.R_reads' HO270.out).2.1); (case side3 => repeat (first | exact (Kd.R_reads' HO276.out).2.2 | (with_reducible refine Kd.C_alloc ?_ _) | (with_reducible refine Kd.C_drewN ?_ _) | (with_reducible refine Kd.C_drew ?_))); (case side4 => exact (Kd.R_reads' HO276.out).2.1); rintro e w' ⟨rfl, ⟨nd, rfl⟩⟩; refine ⟨_, rfl, ?_⟩; obtain ⟨Ao60, co60, eo60⟩ := Kd.R_slice HO267.out; subst eo60) | (go_at_call 18; (with_reducible refine (perm_Compose.calls kj4 _ _ l0 _ _ t265 t278 _ ?side1 ?side2 ?side3 ?side4 A36.out).mono ?_); (case side1 => repeat (first | exact (Kd.C_below HR0.out (by repeat (first | (with_reducible first | exact HB.out | apply below_alloc | apply pw_below_drewN | apply below_drew1) | exact HB.out))) | (with_reducible refine Kd.C_alloc ?_ _) | (with_reducible refine Kd.C_drewN ?_ _) | (with_reducible refine Kd.C_drew ?_))); (case side2 => exact HC0.out); (case side3 => repeat (first | exact (Kd.R_reads' HO267.out).2.2 | (with_reducible refine Kd.C_alloc ?_ _) | (with_reducible refine Kd.C_drewN ?_ _) | (with_reducible refine Kd.C_drew ?_))); (case side4 => exact (Kd.R_reads' HO267.out).2.1); rintro e w61 ⟨v279, rfl, ho0, hb⟩; have n0_ := Aside0.mk (Kd.R_elder' (by (with_reducible repeat (first | apply Kd.R_alloc | apply Kd.R_drewN | apply Kd.R_drew)); exact HO261.out) (Kd.R_base ho0) hb); have n1_ := Aside0.mk (Kd.R_elder' (by (with_reducible repeat (first | apply Kd.R_alloc | apply Kd.R_drewN | apply Kd.R_drew)); exact HO264.out) (Kd.R_base ho0) hb); have n2_ := Aside0.mk (Kd.R_elder' (by (with_reducible repeat (first | apply Kd.R_alloc | apply Kd.R_drewN | apply Kd.R_drew)); exact HO267.out) (Kd.R_base ho0) hb); have n3_ := Aside0.mk (Kd.R_elder' (by (with_reducible repeat (first | apply Kd.R_alloc | apply Kd.R_drewN | apply Kd.R_drew)); exact HO270.out) (Kd.R_base ho0) hb); have n4_ := Aside0.mk (Kd.R_elder' (by (with_reducible repeat (first | apply Kd.R_alloc | apply Kd.R_drewN | apply Kd.R_drew)); exact HO273.out) (Kd.R_base ho0) hb); have n5_ := Aside0.mk (Kd.R_elder' (by (with_reducible repeat (first | apply Kd.R_alloc | apply Kd.R_drewN | apply Kd.R_drew)); exact HO276.out) (Kd.R_base ho0) hb); have n6_ := Aside0.mk (Kd.R_lower (Kd.R_new' (Kd.R_new' (Kd.R_new' (Kd.R_new' (Kd.R_new' (Kd.R_new' ho0 (Kd.R_lt (by (with_reducible repeat (first | apply Kd.R_alloc | apply Kd.R_drewN | apply Kd.R_drew)); exact HO261.out))) (Kd.R_lt (by (with_reducible repeat (first | apply Kd.R_alloc | apply Kd.R_drewN | apply Kd.R_drew)); exact HO264.out))) (Kd.R_lt (by (with_reducible repeat (first | apply Kd.R_alloc | apply Kd.R_drewN | apply Kd.R_drew)); exact HO267.out))) (Kd.R_lt (by (with_reducible repeat (first | apply Kd.R_alloc | apply Kd.R_drewN | apply Kd.R_drew)); exact HO270.out))) (Kd.R_lt (by (with_reducible repeat (first | apply Kd.R_alloc | apply Kd.R_drewN | apply Kd.R_drew)); exact HO273.out))) (Kd.R_lt (by (with_reducible repeat (first | apply Kd.R_alloc | apply Kd.R_drewN | apply Kd.R_drew)); exact HO276.out))) (below_size (by repeat (first | (with_reducible first | exact HB.out | apply below_alloc | apply pw_below_drewN | apply below_drew1) | exact HB.out)))); have n7_ := Aside0.mk (below_step (by repeat (first | (with_reducible first | exact HB.out | apply below_alloc | apply pw_below_drewN | apply below_drew1) | exact HB.out)) hb); clear HO261; clear HO264; clear HO267; clear HO270; clear HO273; clear HO276; clear HB; have HO261 := n0_; have HO264 := n1_; have HO267 := n2_; have HO270 := n3_; have HO273 := n4_; have HO276 := n5_; have HO280 := n6_; have HB := n7_; clear n0_ n1_ n2_ n3_ n4_ n5_ n6_ n7_; (try clear hb); (try clear hb2); (try clear hk); (try clear hi); (try clear ho0); obtain ⟨Ao62, co62, eo62⟩ := Kd.R_slice HO280.out; subst eo62) | (go_at_call 12; (with_reducible refine (taquinref37_Same.calls kj4 _ _ t278 _ _ l0 false _ ?side1 ?side2 ?side3 ?side4 A37.out).mono ?_); (case side1 => repeat (first | exact (Kd.R_reads' HO280.out).2.2 | (with_reducible refine Kd.C_alloc ?_ _) | (with_reducible refine Kd.C_drewN ?_ _) | (with_reducible refine Kd.C_drew ?_))); (case side2 => exact (Kd.R_reads' HO280.out).2.1); (case side3 => repeat (first | exact (Kd.C_below HR0.out HB.out) | (with_reducible refine Kd.C_alloc ?_ _) | (with_reducible refine Kd.C_drewN ?_ _) | (with_reducible refine Kd.C_drew ?_))); (case side4 => exact HC0.out); rintro e w' ⟨rfl, ⟨nd, rfl⟩⟩))
                go_meet
                case rel => exact ⟨_, (false), (by first | rfl | (simp; done) | (simp [*]; done)), H', ⟨by have := HJ4.out; first | omega | exact Nat.le_refl _⟩, ⟨by (with_reducible repeat (first | apply Kd.R_alloc | apply Kd.R_drewN | apply Kd.R_drew)); exact Kd.R_mono HO261.out (fun _ hk => ⟨hk.1.1.1.1.1.2, hk.1.1.1.1.2⟩)⟩, ⟨by (with_reducible repeat (first | apply Kd.R_alloc | apply Kd.R_drewN | apply Kd.R_drew)); exact Kd.R_mono HO264.out (fun _ hk => ⟨hk.1.1.1.1.1.2, hk.1.1.1.1.2⟩)⟩, ⟨by (with_reducible repeat (first | apply Kd.R_alloc | apply Kd.R_drewN | apply Kd.R_drew)); exact Kd.R_mono HO267.out (fun _ hk => ⟨hk.1.1.1.1.1.2, hk.1.1.1.1.2⟩)⟩, ⟨by repeat (first | (with_reducible first | exact HB.out | apply below_alloc | apply pw_below_drewN | apply below_drew1) | exact HB.out)⟩⟩
            · replace c35 := Bool.eq_false_iff.mpr c35
              subst c35
              have H1 : (taquinlaw37_PermGroup.j1 kj4 l0 l1 t252 y259 t262 t265 false) = some r := by rw [if_neg (show ¬ (false = true) by decide)] at H; exact H
              clear H
              have H := H1
              clear H1
              have H' := Aside0.mk H
              clear H
              obtain ⟨Ao63, co63, eo63⟩ := Kd.R_slice HO264.out
              subst eo63
              go_wp2_with (first | ((with_reducible refine gate_callee (f := 18) rfl ?_); refine goesL_ (some 57) rfl rfl Try.func18 (by kernel_rfl) rfl #[.slice Ao63 t262.length co63, .slice A2 l2.length c2] rfl (by (try simp only [List.map_toArray, List.map_cons, List.map_nil]); first | done | rfl | (simp only [List.length_drop, List.length_take]; rfl)) ?_; (with_reducible refine (perm_Compose.calls kj4 _ _ t262 _ _ l2 t268 _ ?side1 ?side2 ?side3 ?side4 A31.out).mono ?_); (case side1 => repeat (first | exact (Kd.R_reads' HO264.out).2.2 | (with_reducible refine Kd.C_alloc ?_ _) | (with_reducible refine Kd.C_drewN ?_ _) | (with_reducible refine Kd.C_drew ?_))); (case side2 => exact (Kd.R_reads' HO264.out).2.1); (case side3 => repeat (first | exact (Kd.C_below HR2.out HB.out) | (with_reducible refine Kd.C_alloc ?_ _) | (with_reducible refine Kd.C_drewN ?_ _) | (with_reducible refine Kd.C_drew ?_))); (case side4 => exact HC2.out); rintro e w64 ⟨v269, rfl, ho0, hb⟩; refine ⟨_, rfl, ?_⟩; have n0_ := Aside0.mk (Kd.R_elder' (by (with_reducible repeat (first | apply Kd.R_alloc | apply Kd.R_drewN | apply Kd.R_drew)); exact HO261.out) (Kd.R_base ho0) hb); have n1_ := Aside0.mk (Kd.R_elder' (by (with_reducible repeat (first | apply Kd.R_alloc | apply Kd.R_drewN | apply Kd.R_drew)); exact HO264.out) (Kd.R_base ho0) hb); have n2_ := Aside0.mk (Kd.R_elder' (by (with_reducible repeat (first | apply Kd.R_alloc | apply Kd.R_drewN | apply Kd.R_drew)); exact HO267.out) (Kd.R_base ho0) hb); have n3_ := Aside0.mk (Kd.R_lower (Kd.R_new' (Kd.R_new' (Kd.R_new' ho0 (Kd.R_lt (by (with_reducible repeat (first | apply Kd.R_alloc | apply Kd.R_drewN | apply Kd.R_drew)); exact HO261.out))) (Kd.R_lt (by (with_reducible repeat (first | apply Kd.R_alloc | apply Kd.R_drewN | apply Kd.R_drew)); exact HO264.out))) (Kd.R_lt (by (with_reducible repeat (first | apply Kd.R_alloc | apply Kd.R_drewN | apply Kd.R_drew)); exact HO267.out))) (below_size (by repeat (first | (with_reducible first | exact HB.out | apply below_alloc | apply pw_below_drewN | apply below_drew1) | exact HB.out)))); have n4_ := Aside0.mk (below_step (by repeat (first | (with_reducible first | exact HB.out | apply below_alloc | apply pw_below_drewN | apply below_drew1) | exact HB.out)) hb); clear HO261; clear HO264; clear HO267; clear HB; have HO261 := n0_; have HO264 := n1_; have HO267 := n2_; have HO270 := n3_; have HB := n4_; clear n0_ n1_ n2_ n3_ n4_; (try clear hb); (try clear hb2); (try clear hk); (try clear hi); (try clear ho0)) | ((with_reducible refine gate_callee (f := 18) rfl ?_); refine goesL_ (some 61) rfl rfl Try.func18 (by kernel_rfl) rfl #[.slice A1 l1.length c1, .slice A2 l2.length c2] rfl (by (try simp only [List.map_toArray, List.map_cons, List.map_nil]); first | done | rfl | (simp only [List.length_drop, List.length_take]; rfl)) ?_; (with_reducible refine (perm_Compose.calls kj4 _ _ l1 _ _ l2 t271 _ ?side1 ?side2 ?side3 ?side4 A32.out).mono ?_); (case side1 => repeat (first | exact (Kd.C_below HR1.out HB.out) | (with_reducible refine Kd.C_alloc ?_ _) | (with_reducible refine Kd.C_drewN ?_ _) | (with_reducible refine Kd.C_drew ?_))); (case side2 => exact HC1.out); (case side3 => repeat (first | exact (Kd.C_below HR2.out HB.out) | (with_reducible refine Kd.C_alloc ?_ _) | (with_reducible refine Kd.C_drewN ?_ _) | (with_reducible refine Kd.C_drew ?_))); (case side4 => exact HC2.out); rintro e w65 ⟨v272, rfl, ho0, hb⟩; refine ⟨_, rfl, ?_⟩; have n0_ := Aside0.mk (Kd.R_elder' (by (with_reducible repeat (first | apply Kd.R_alloc | apply Kd.R_drewN | apply Kd.R_drew)); exact HO261.out) (Kd.R_base ho0) hb); have n1_ := Aside0.mk (Kd.R_elder' (by (with_reducible repeat (first | apply Kd.R_alloc | apply Kd.R_drewN | apply Kd.R_drew)); exact HO264.out) (Kd.R_base ho0) hb); have n2_ := Aside0.mk (Kd.R_elder' (by (with_reducible repeat (first | apply Kd.R_alloc | apply Kd.R_drewN | apply Kd.R_drew)); exact HO267.out) (Kd.R_base ho0) hb); have n3_ := Aside0.mk (Kd.R_elder' (by (with_reducible repeat (first | apply Kd.R_alloc | apply Kd.R_drewN | apply Kd.R_drew)); exact HO270.out) (Kd.R_base ho0) hb); have n4_ := Aside0.mk (Kd.R_lower (Kd.R_new' (Kd.R_new' (Kd.R_new' (Kd.R_new' ho0 (Kd.R_lt (by (with_reducible repeat (first | apply Kd.R_alloc | apply Kd.R_drewN | apply Kd.R_drew)); exact HO261.out))) (Kd.R_lt (by (with_reducible repeat (first | apply Kd.R_alloc | apply Kd.R_drewN | apply Kd.R_drew)); exact HO264.out))) (Kd.R_lt (by (with_reducible repeat (first | apply Kd.R_alloc | apply Kd.R_drewN | apply Kd.R_drew)); exact HO267.out))) (Kd.R_lt (by (with_reducible repeat (first | apply Kd.R_alloc | apply Kd.R_drewN | apply Kd.R_drew)); exact HO270.out))) (below_size (by repeat (first | (with_reducible first | exact HB.out | apply below_alloc | apply pw_below_drewN | apply below_drew1) | exact HB.out)))); have n5_ := Aside0.mk (below_step (by repeat (first | (with_reducible first | exact HB.out | apply below_alloc | apply pw_below_drewN | apply below_drew1) | exact HB.out)) hb); clear HO261; clear HO264; clear HO267; clear HO270; clear HB; have HO261 := n0_; have HO264 := n1_; have HO267 := n2_; have HO270 := n3_; have HO273 := n4_; have HB := n5_; clear n0_ n1_ n2_ n3_ n4_ n5_; (try clear hb); (try clear hb2); (try clear hk); (try clear hi); (try clear ho0); obtain ⟨Ao66, co66, eo66⟩ := Kd.R_slice HO273.out; subst eo66) | ((with_reducible refine gate_callee (f := 18) rfl ?_); refine goesL_ (some 62) rfl rfl Try.func18 (by kernel_rfl) rfl #[.slice A0 l0.length c0, .slice Ao66 t271.length co66] rfl (by (try simp only [List.map_toArray, List.map_cons, List.map_nil]); first | done | rfl | (simp only [List.length_drop, List.length_take]; rfl)) ?_; (with_reducible refine (perm_Compose.calls kj4 _ _ l0 _ _ t271 t274 _ ?side1 ?side2 ?side3 ?side4 A33.out).mono ?_); (case side1 => repeat (first | exact (Kd.C_below HR0.out HB.out) | (with_reducible refine Kd.C_alloc ?_ _) | (with_reducible refine Kd.C_drewN ?_ _) | (with_reducible refine Kd.C_drew ?_))); (case side2 => exact HC0.out); (case side3 => repeat (first | exact (Kd.R_reads' HO273.out).2.2 | (with_reducible refine Kd.C_alloc ?_ _) | (with_reducible refine Kd.C_drewN ?_ _) | (with_reducible refine Kd.C_drew ?_))); (case side4 => exact (Kd.R_reads' HO273.out).2.1); rintro e w67 ⟨v275, rfl, ho0, hb⟩; refine ⟨_, rfl, ?_⟩; have n0_ := Aside0.mk (Kd.R_elder' (by (with_reducible repeat (first | apply Kd.R_alloc | apply Kd.R_drewN | apply Kd.R_drew)); exact HO261.out) (Kd.R_base ho0) hb); have n1_ := Aside0.mk (Kd.R_elder' (by (with_reducible repeat (first | apply Kd.R_alloc | apply Kd.R_drewN | apply Kd.R_drew)); exact HO264.out) (Kd.R_base ho0) hb); have n2_ := Aside0.mk (Kd.R_elder' (by (with_reducible repeat (first | apply Kd.R_alloc | apply Kd.R_drewN | apply Kd.R_drew)); exact HO267.out) (Kd.R_base ho0) hb); have n3_ := Aside0.mk (Kd.R_elder' (by (with_reducible repeat (first | apply Kd.R_alloc | apply Kd.R_drewN | apply Kd.R_drew)); exact HO270.out) (Kd.R_base ho0) hb); have n4_ := Aside0.mk (Kd.R_elder' (by (with_reducible repeat (first | apply Kd.R_alloc | apply Kd.R_drewN | apply Kd.R_drew)); exact HO273.out) (Kd.R_base ho0) hb); have n5_ := Aside0.mk (Kd.R_lower (Kd.R_new' (Kd.R_new' (Kd.R_new' (Kd.R_new' (Kd.R_new' ho0 (Kd.R_lt (by (with_reducible repeat (first | apply Kd.R_alloc | apply Kd.R_drewN | apply Kd.R_drew)); exact HO261.out))) (Kd.R_lt (by (with_reducible repeat (first | apply Kd.R_alloc | apply Kd.R_drewN | apply Kd.R_drew)); exact HO264.out))) (Kd.R_lt (by (with_reducible repeat (first | apply Kd.R_alloc | apply Kd.R_drewN | apply Kd.R_drew)); exact HO267.out))) (Kd.R_lt (by (with_reducible repeat (first | apply Kd.R_alloc | apply Kd.R_drewN | apply Kd.R_drew)); exact HO270.out))) (Kd.R_lt (by (with_reducible repeat (first | apply Kd.R_alloc | apply Kd.R_drewN | apply Kd.R_drew)); exact HO273.out))) (below_size (by repeat (first | (with_reducible first | exact HB.out | apply below_alloc | apply pw_below_drewN | apply below_drew1) | exact HB.out)))); have n6_ := Aside0.mk (below_step (by repeat (first | (with_reducible first | exact HB.out | apply below_alloc | apply pw_below_drewN | apply below_drew1) | exact HB.out)) hb); clear HO261; clear HO264; clear HO267; clear HO270; clear HO273; clear HB; have HO261 := n0_; have HO264 := n1_; have HO267 := n2_; have HO270 := n3_; have HO273 := n4_; have HO276 := n5_; have HB := n6_; clear n0_ n1_ n2_ n3_ n4_ n5_ n6_; (try clear hb); (try clear hb2); (try clear hk); (try clear hi); (try clear ho0); obtain ⟨Ao68, co68, eo68⟩ := Kd.R_slice HO270.out; subst eo68; obtain ⟨Ao69, co69, eo69⟩ := Kd.R_slice HO276.out; subst eo69) | ((with_reducible refine gate_callee (f := 12) rfl ?_); refine goesL_ (some 63) rfl rfl Try.func12 (by kernel_rfl) rfl #[.slice Ao68 t268.length co68, .slice Ao69 t274.length co69] rfl (by (try simp only [List.map_toArray, List.map_cons, List.map_nil]); first | done | rfl | (simp only [List.length_drop, List.length_take]; rfl)) ?_; (with_reducible refine (taquinref37_Same.calls kj4 _ _ t268 _ _ t274 false _ ?side1 ?side2 ?side3 ?side4 A34.out).mono ?_); (case side1 => repeat (first | exact (Kd.R_reads' HO270.out).2.2 | (with_reducible refine Kd.C_alloc ?_ _) | (with_reducible refine Kd.C_drewN ?_ _) | (with_reducible refine Kd.C_drew ?_))); (case side2 => exact (Kd.R_reads' HO270.out).2.1); (case side3 => repeat (first | exact (Kd.R_reads' HO276.out).2.2 | (with_reducible refine Kd.C_alloc ?_ _) | (with_reducible refine Kd.C_drewN ?_ _) | (with_reducible refine Kd.C_drew ?_))); (case side4 => exact (Kd.R_reads' HO276.out).2.1); rintro e w' ⟨rfl, ⟨nd, rfl⟩⟩; refine ⟨_, rfl, ?_⟩))
              go_meet
              case rel => exact ⟨_, (false), (by first | rfl | (simp; done) | (simp [*]; done)), H', ⟨by have := HJ4.out; first | omega | exact Nat.le_refl _⟩, ⟨by (with_reducible repeat (first | apply Kd.R_alloc | apply Kd.R_drewN | apply Kd.R_drew)); exact Kd.R_mono HO261.out (fun _ hk => ⟨hk.1.1.1.1.2, hk.1.1.1.2⟩)⟩, ⟨by (with_reducible repeat (first | apply Kd.R_alloc | apply Kd.R_drewN | apply Kd.R_drew)); exact Kd.R_mono HO264.out (fun _ hk => ⟨hk.1.1.1.1.2, hk.1.1.1.2⟩)⟩, ⟨by (with_reducible repeat (first | apply Kd.R_alloc | apply Kd.R_drewN | apply Kd.R_drew)); exact Kd.R_mono HO267.out (fun _ hk => ⟨hk.1.1.1.1.2, hk.1.1.1.2⟩)⟩, ⟨by repeat (first | (with_reducible first | exact HB.out | apply below_alloc | apply pw_below_drewN | apply below_drew1) | exact HB.out)⟩⟩
          case rest =>
            clear HC25
            try clear c1
            try clear c2
            try clear p2
            try clear c3
            try clear c5
            try clear c7
            try clear c7b0
            try clear c7b1
            try clear c8
            try clear c8b0
            try clear c8b1
            try clear c8b2
            try clear c9
            try clear c9b0
            try clear c9b1
            try clear c9b2
            try clear c11
            try clear c12
            try clear c13
            try clear c15
            try clear c18
            try clear c21
            try clear c22
            try clear c35
            try clear c38
            try clear p2
            obtain ⟨kq, x12_24, rfl, HA, HJ24, HO_9, HO_10, HO_11, HB⟩ := hcut
            cases kq with
            | zero => exact absurd HA.out (by simp [taquinlaw37_PermGroup.j1])
            | succ kj24 =>
              have H := HA.out
              clear HA
              simp only [taquinlaw37_PermGroup.j1] at H
              have HC70 := Aside0.mk H
              clear H
              go_upto_region 9 with (fail)
              go_cut [13] (fun v13 wc => ∃ (kq : Nat) (x13_69 : Bool), v13 = .bool x13_69 ∧ Aside0 (taquinlaw37_PermGroup.j2 kq l0 l1 t252 y259 t262 x12_24 x13_69 = some r) ∧ Aside0 (kq ≤ kj24) ∧ Aside0 (Kd.R (Kd.int .i64) 3 wc w.heap.size (fun k_ => some k_ ≠ (v263 : Value).ownBlock) v260 y259) ∧ Aside0 (Kd.R (Kd.int .i64) 3 wc w.heap.size (fun k_ => some k_ ≠ (v260 : Value).ownBlock) v263 t262) ∧ Aside0 (Below w.heap.size w wc))
              case first =>
                have H := HC70.out
                clear HC70
                replace H := Option.bind_eq_some_iff.mp H
                obtain ⟨t286, A710, H⟩ := H
                replace H : ((perm_Compose.f kj24 l0 t286).bind fun t289 => ((taquinref37_Same.f kj24 t289 t265).bind fun t292 => (if t292 = true then ((perm_Inverse.f kj24 l0).bind fun t293 => ((perm_Compose.f kj24 t293 l0).bind fun t296 => ((taquinref37_Same.f kj24 t296 t265).bind fun t299 => (if t299 = true then ((perm_Inverse.f kj24 t262).bind fun t300 => ((perm_Inverse.f kj24 l1).bind fun t303 => ((perm_Inverse.f kj24 l0).bind fun t306 => ((perm_Compose.f kj24 t303 t306).bind fun t309 => ((taquinref37_Same.f kj24 t300 t309).bind fun t312 => (taquinlaw37_PermGroup.j2 kj24 l0 l1 t252 y259 t262 x12_24 t312)))))) else (taquinlaw37_PermGroup.j2 kj24 l0 l1 t252 y259 t262 x12_24 false))))) else (taquinlaw37_PermGroup.j2 kj24 l0 l1 t252 y259 t262 x12_24 false)))) = some r := H
                have A71 := Aside0.mk A710
                clear A710
                replace H := Option.bind_eq_some_iff.mp H
                obtain ⟨t289, A720, H⟩ := H
                replace H : ((taquinref37_Same.f kj24 t289 t265).bind fun t292 => (if t292 = true then ((perm_Inverse.f kj24 l0).bind fun t293 => ((perm_Compose.f kj24 t293 l0).bind fun t296 => ((taquinref37_Same.f kj24 t296 t265).bind fun t299 => (if t299 = true then ((perm_Inverse.f kj24 t262).bind fun t300 => ((perm_Inverse.f kj24 l1).bind fun t303 => ((perm_Inverse.f kj24 l0).bind fun t306 => ((perm_Compose.f kj24 t303 t306).bind fun t309 => ((taquinref37_Same.f kj24 t300 t309).bind fun t312 => (taquinlaw37_PermGroup.j2 kj24 l0 l1 t252 y259 t262 x12_24 t312)))))) else (taquinlaw37_PermGroup.j2 kj24 l0 l1 t252 y259 t262 x12_24 false))))) else (taquinlaw37_PermGroup.j2 kj24 l0 l1 t252 y259 t262 x12_24 false))) = some r := H
                have A72 := Aside0.mk A720
                clear A720
                replace H := Option.bind_eq_some_iff.mp H
                obtain ⟨t292, A730, H⟩ := H
                replace H : (if t292 = true then ((perm_Inverse.f kj24 l0).bind fun t293 => ((perm_Compose.f kj24 t293 l0).bind fun t296 => ((taquinref37_Same.f kj24 t296 t265).bind fun t299 => (if t299 = true then ((perm_Inverse.f kj24 t262).bind fun t300 => ((perm_Inverse.f kj24 l1).bind fun t303 => ((perm_Inverse.f kj24 l0).bind fun t306 => ((perm_Compose.f kj24 t303 t306).bind fun t309 => ((taquinref37_Same.f kj24 t300 t309).bind fun t312 => (taquinlaw37_PermGroup.j2 kj24 l0 l1 t252 y259 t262 x12_24 t312)))))) else (taquinlaw37_PermGroup.j2 kj24 l0 l1 t252 y259 t262 x12_24 false))))) else (taquinlaw37_PermGroup.j2 kj24 l0 l1 t252 y259 t262 x12_24 false)) = some r := H
                have A73 := Aside0.mk A730
                clear A730
                by_cases c74 : t292 = true
                · subst c74
                  have H1 : ((perm_Inverse.f kj24 l0).bind fun t293 => ((perm_Compose.f kj24 t293 l0).bind fun t296 => ((taquinref37_Same.f kj24 t296 t265).bind fun t299 => (if t299 = true then ((perm_Inverse.f kj24 t262).bind fun t300 => ((perm_Inverse.f kj24 l1).bind fun t303 => ((perm_Inverse.f kj24 l0).bind fun t306 => ((perm_Compose.f kj24 t303 t306).bind fun t309 => ((taquinref37_Same.f kj24 t300 t309).bind fun t312 => (taquinlaw37_PermGroup.j2 kj24 l0 l1 t252 y259 t262 x12_24 t312)))))) else (taquinlaw37_PermGroup.j2 kj24 l0 l1 t252 y259 t262 x12_24 false))))) = some r := by rw [if_pos rfl] at H; exact H
                  clear H
                  have H := H1
                  clear H1
                  replace H := Option.bind_eq_some_iff.mp H
                  obtain ⟨t293, A750, H⟩ := H
                  replace H : ((perm_Compose.f kj24 t293 l0).bind fun t296 => ((taquinref37_Same.f kj24 t296 t265).bind fun t299 => (if t299 = true then ((perm_Inverse.f kj24 t262).bind fun t300 => ((perm_Inverse.f kj24 l1).bind fun t303 => ((perm_Inverse.f kj24 l0).bind fun t306 => ((perm_Compose.f kj24 t303 t306).bind fun t309 => ((taquinref37_Same.f kj24 t300 t309).bind fun t312 => (taquinlaw37_PermGroup.j2 kj24 l0 l1 t252 y259 t262 x12_24 t312)))))) else (taquinlaw37_PermGroup.j2 kj24 l0 l1 t252 y259 t262 x12_24 false)))) = some r := H
                  have A75 := Aside0.mk A750
                  clear A750
                  replace H := Option.bind_eq_some_iff.mp H
                  obtain ⟨t296, A760, H⟩ := H
                  replace H : ((taquinref37_Same.f kj24 t296 t265).bind fun t299 => (if t299 = true then ((perm_Inverse.f kj24 t262).bind fun t300 => ((perm_Inverse.f kj24 l1).bind fun t303 => ((perm_Inverse.f kj24 l0).bind fun t306 => ((perm_Compose.f kj24 t303 t306).bind fun t309 => ((taquinref37_Same.f kj24 t300 t309).bind fun t312 => (taquinlaw37_PermGroup.j2 kj24 l0 l1 t252 y259 t262 x12_24 t312)))))) else (taquinlaw37_PermGroup.j2 kj24 l0 l1 t252 y259 t262 x12_24 false))) = some r := H
                  have A76 := Aside0.mk A760
                  clear A760
                  replace H := Option.bind_eq_some_iff.mp H
                  obtain ⟨t299, A770, H⟩ := H
                  replace H : (if t299 = true then ((perm_Inverse.f kj24 t262).bind fun t300 => ((perm_Inverse.f kj24 l1).bind fun t303 => ((perm_Inverse.f kj24 l0).bind fun t306 => ((perm_Compose.f kj24 t303 t306).bind fun t309 => ((taquinref37_Same.f kj24 t300 t309).bind fun t312 => (taquinlaw37_PermGroup.j2 kj24 l0 l1 t252 y259 t262 x12_24 t312)))))) else (taquinlaw37_PermGroup.j2 kj24 l0 l1 t252 y259 t262 x12_24 false)) = some r := H
                  have A77 := Aside0.mk A770
                  clear A770
                  by_cases c78 : t299 = true
                  · subst c78
                    have H1 : ((perm_Inverse.f kj24 t262).bind fun t300 => ((perm_Inverse.f kj24 l1).bind fun t303 => ((perm_Inverse.f kj24 l0).bind fun t306 => ((perm_Compose.f kj24 t303 t306).bind fun t309 => ((taquinref37_Same.f kj24 t300 t309).bind fun t312 => (taquinlaw37_PermGroup.j2 kj24 l0 l1 t252 y259 t262 x12_24 t312)))))) = some r := by rw [if_pos rfl] at H; exact H
                    clear H
                    have H := H1
                    clear H1
                    replace H := Option.bind_eq_some_iff.mp H
                    obtain ⟨t300, A790, H⟩ := H
                    replace H : ((perm_Inverse.f kj24 l1).bind fun t303 => ((perm_Inverse.f kj24 l0).bind fun t306 => ((perm_Compose.f kj24 t303 t306).bind fun t309 => ((taquinref37_Same.f kj24 t300 t309).bind fun t312 => (taquinlaw37_PermGroup.j2 kj24 l0 l1 t252 y259 t262 x12_24 t312))))) = some r := H
                    have A79 := Aside0.mk A790
                    clear A790
                    replace H := Option.bind_eq_some_iff.mp H
                    obtain ⟨t303, A800, H⟩ := H
                    replace H : ((perm_Inverse.f kj24 l0).bind fun t306 => ((perm_Compose.f kj24 t303 t306).bind fun t309 => ((taquinref37_Same.f kj24 t300 t309).bind fun t312 => (taquinlaw37_PermGroup.j2 kj24 l0 l1 t252 y259 t262 x12_24 t312)))) = some r := H
                    have A80 := Aside0.mk A800
                    clear A800
                    replace H := Option.bind_eq_some_iff.mp H
                    obtain ⟨t306, A810, H⟩ := H
                    replace H : ((perm_Compose.f kj24 t303 t306).bind fun t309 => ((taquinref37_Same.f kj24 t300 t309).bind fun t312 => (taquinlaw37_PermGroup.j2 kj24 l0 l1 t252 y259 t262 x12_24 t312))) = some r := H
                    have A81 := Aside0.mk A810
                    clear A810
                    replace H := Option.bind_eq_some_iff.mp H
                    obtain ⟨t309, A820, H⟩ := H
                    replace H : ((taquinref37_Same.f kj24 t300 t309).bind fun t312 => (taquinlaw37_PermGroup.j2 kj24 l0 l1 t252 y259 t262 x12_24 t312)) = some r := H
                    have A82 := Aside0.mk A820
                    clear A820
                    replace H := Option.bind_eq_some_iff.mp H
                    obtain ⟨t312, A830, H⟩ := H
                    replace H : (taquinlaw37_PermGroup.j2 kj24 l0 l1 t252 y259 t262 x12_24 t312) = some r := H
                    have A83 := Aside0.mk A830
                    clear A830
                    have H' := Aside0.mk H
                    clear H
                    have mk_t293_ : True := trivial
                    have mk_t306_ : True := trivial
                    go_wp2_with (first | ((with_reducible refine gate_callee (f := 19) rfl ?_); refine goesL_ (some 80) rfl rfl Try.func19 (by kernel_rfl) rfl #[.slice A0 l0.length c0] rfl (by (try simp only [List.map_toArray, List.map_cons, List.map_nil]); first | done | rfl | (simp only [List.length_drop, List.length_take]; rfl)) ?_; (with_reducible refine (perm_Inverse.calls kj24 _ _ l0 t286 _ ?side1 ?side2 A71.out).mono ?_); (case side1 => repeat (first | exact (Kd.C_below HR0.out HB.out) | (with_reducible refine Kd.C_alloc ?_ _) | (with_reducible refine Kd.C_drewN ?_ _) | (with_reducible refine Kd.C_drew ?_))); (case side2 => exact HC0.out); rintro e w84 ⟨v287, rfl, ho0, hb⟩; refine ⟨_, rfl, ?_⟩; have n0_ := Aside0.mk (Kd.R_elder' (by (with_reducible repeat (first | apply Kd.R_alloc | apply Kd.R_drewN | apply Kd.R_drew)); exact HO_9.out) (Kd.R_base ho0) hb); have n1_ := Aside0.mk (Kd.R_elder' (by (with_reducible repeat (first | apply Kd.R_alloc | apply Kd.R_drewN | apply Kd.R_drew)); exact HO_10.out) (Kd.R_base ho0) hb); have n2_ := Aside0.mk (Kd.R_elder' (by (with_reducible repeat (first | apply Kd.R_alloc | apply Kd.R_drewN | apply Kd.R_drew)); exact HO_11.out) (Kd.R_base ho0) hb); have n3_ := Aside0.mk (Kd.R_lower (Kd.R_new' (Kd.R_new' (Kd.R_new' ho0 (Kd.R_lt (by (with_reducible repeat (first | apply Kd.R_alloc | apply Kd.R_drewN | apply Kd.R_drew)); exact HO_9.out))) (Kd.R_lt (by (with_reducible repeat (first | apply Kd.R_alloc | apply Kd.R_drewN | apply Kd.R_drew)); exact HO_10.out))) (Kd.R_lt (by (with_reducible repeat (first | apply Kd.R_alloc | apply Kd.R_drewN | apply Kd.R_drew)); exact HO_11.out))) (below_size (by repeat (first | (with_reducible first | exact HB.out | apply below_alloc | apply pw_below_drewN | apply below_drew1) | exact HB.out)))); have n4_ := Aside0.mk (below_step (by repeat (first | (with_reducible first | exact HB.out | apply below_alloc | apply pw_below_drewN | apply below_drew1) | exact HB.out)) hb); clear HO_9; clear HO_10; clear HO_11; clear HB; have HO_9 := n0_; have HO_10 := n1_; have HO_11 := n2_; have HO288 := n3_; have HB := n4_; clear n0_ n1_ n2_ n3_ n4_; (try clear hb); (try clear hb2); (try clear hk); (try clear hi); (try clear ho0); obtain ⟨Ao85, co85, eo85⟩ := Kd.R_slice HO288.out; subst eo85) | ((with_reducible refine gate_callee (f := 18) rfl ?_); refine goesL_ (some 81) rfl rfl Try.func18 (by kernel_rfl) rfl #[.slice A0 l0.length c0, .slice Ao85 t286.length co85] rfl (by (try simp only [List.map_toArray, List.map_cons, List.map_nil]); first | done | rfl | (simp only [List.length_drop, List.length_take]; rfl)) ?_; (with_reducible refine (perm_Compose.calls kj24 _ _ l0 _ _ t286 t289 _ ?side1 ?side2 ?side3 ?side4 A72.out).mono ?_); (case side1 => repeat (first | exact (Kd.C_below HR0.out HB.out) | (with_reducible refine Kd.C_alloc ?_ _) | (with_reducible refine Kd.C_drewN ?_ _) | (with_reducible refine Kd.C_drew ?_))); (case side2 => exact HC0.out); (case side3 => repeat (first | exact (Kd.R_reads' HO288.out).2.2 | (with_reducible refine Kd.C_alloc ?_ _) | (with_reducible refine Kd.C_drewN ?_ _) | (with_reducible refine Kd.C_drew ?_))); (case side4 => exact (Kd.R_reads' HO288.out).2.1); rintro e w86 ⟨v290, rfl, ho0, hb⟩; refine ⟨_, rfl, ?_⟩; have n0_ := Aside0.mk (Kd.R_elder' (by (with_reducible repeat (first | apply Kd.R_alloc | apply Kd.R_drewN | apply Kd.R_drew)); exact HO_9.out) (Kd.R_base ho0) hb); have n1_ := Aside0.mk (Kd.R_elder' (by (with_reducible repeat (first | apply Kd.R_alloc | apply Kd.R_drewN | apply Kd.R_drew)); exact HO_10.out) (Kd.R_base ho0) hb); have n2_ := Aside0.mk (Kd.R_elder' (by (with_reducible repeat (first | apply Kd.R_alloc | apply Kd.R_drewN | apply Kd.R_drew)); exact HO_11.out) (Kd.R_base ho0) hb); have n3_ := Aside0.mk (Kd.R_elder' (by (with_reducible repeat (first | apply Kd.R_alloc | apply Kd.R_drewN | apply Kd.R_drew)); exact HO288.out) (Kd.R_base ho0) hb); have n4_ := Aside0.mk (Kd.R_lower (Kd.R_new' (Kd.R_new' (Kd.R_new' (Kd.R_new' ho0 (Kd.R_lt (by (with_reducible repeat (first | apply Kd.R_alloc | apply Kd.R_drewN | apply Kd.R_drew)); exact HO_9.out))) (Kd.R_lt (by (with_reducible repeat (first | apply Kd.R_alloc | apply Kd.R_drewN | apply Kd.R_drew)); exact HO_10.out))) (Kd.R_lt (by (with_reducible repeat (first | apply Kd.R_alloc | apply Kd.R_drewN | apply Kd.R_drew)); exact HO_11.out))) (Kd.R_lt (by (with_reducible repeat (first | apply Kd.R_alloc | apply Kd.R_drewN | apply Kd.R_drew)); exact HO288.out))) (below_size (by repeat (first | (with_reducible first | exact HB.out | apply below_alloc | apply pw_below_drewN | apply below_drew1) | exact HB.out)))); have n5_ := Aside0.mk (below_step (by repeat (first | (with_reducible first | exact HB.out | apply below_alloc | apply pw_below_drewN | apply below_drew1) | exact HB.out)) hb); clear HO_9; clear HO_10; clear HO_11; clear HO288; clear HB; have HO_9 := n0_; have HO_10 := n1_; have HO_11 := n2_; have HO288 := n3_; have HO291 := n4_; have HB := n5_; clear n0_ n1_ n2_ n3_ n4_ n5_; (try clear hb); (try clear hb2); (try clear hk); (try clear hi); (try clear ho0); obtain ⟨Ao87, co87, eo87⟩ := Kd.R_slice HO291.out; subst eo87; obtain ⟨Ao88, co88, eo88⟩ := Kd.R_slice HO_11.out; subst eo88) | ((with_reducible refine gate_callee (f := 12) rfl ?_); refine goesL_ (some 83) rfl rfl Try.func12 (by kernel_rfl) rfl #[.slice Ao87 t289.length co87, .slice Ao88 t265.length co88] rfl (by (try simp only [List.map_toArray, List.map_cons, List.map_nil]); first | done | rfl | (simp only [List.length_drop, List.length_take]; rfl)) ?_; (with_reducible refine (taquinref37_Same.calls kj24 _ _ t289 _ _ t265 true _ ?side1 ?side2 ?side3 ?side4 A73.out).mono ?_); (case side1 => repeat (first | exact (Kd.R_reads' HO291.out).2.2 | (with_reducible refine Kd.C_alloc ?_ _) | (with_reducible refine Kd.C_drewN ?_ _) | (with_reducible refine Kd.C_drew ?_))); (case side2 => exact (Kd.R_reads' HO291.out).2.1); (case side3 => repeat (first | exact (Kd.R_reads' HO_11.out).2.2 | (with_reducible refine Kd.C_alloc ?_ _) | (with_reducible refine Kd.C_drewN ?_ _) | (with_reducible refine Kd.C_drew ?_))); (case side4 => exact (Kd.R_reads' HO_11.out).2.1); rintro e w' ⟨rfl, ⟨nd, rfl⟩⟩; refine ⟨_, rfl, ?_⟩) | (go_at_call 19; clear mk_t293_; (with_reducible refine (perm_Inverse.calls kj24 _ _ l0 t293 _ ?side1 ?side2 A75.out).mono ?_); (case side1 => repeat (first | exact (Kd.C_below HR0.out (by repeat (first | (with_reducible first | exact HB.out | apply below_alloc | apply pw_below_drewN | apply below_drew1) | exact HB.out))) | (with_reducible refine Kd.C_alloc ?_ _) | (with_reducible refine Kd.C_drewN ?_ _) | (with_reducible refine Kd.C_drew ?_))); (case side2 => exact HC0.out); rintro e w89 ⟨v294, rfl, ho0, hb⟩; have n0_ := Aside0.mk (Kd.R_elder' (by (with_reducible repeat (first | apply Kd.R_alloc | apply Kd.R_drewN | apply Kd.R_drew)); exact HO_9.out) (Kd.R_base ho0) hb); have n1_ := Aside0.mk (Kd.R_elder' (by (with_reducible repeat (first | apply Kd.R_alloc | apply Kd.R_drewN | apply Kd.R_drew)); exact HO_10.out) (Kd.R_base ho0) hb); have n2_ := Aside0.mk (Kd.R_elder' (by (with_reducible repeat (first | apply Kd.R_alloc | apply Kd.R_drewN | apply Kd.R_drew)); exact HO_11.out) (Kd.R_base ho0) hb); have n3_ := Aside0.mk (Kd.R_elder' (by (with_reducible repeat (first | apply Kd.R_alloc | apply Kd.R_drewN | apply Kd.R_drew)); exact HO288.out) (Kd.R_base ho0) hb); have n4_ := Aside0.mk (Kd.R_elder' (by (with_reducible repeat (first | apply Kd.R_alloc | apply Kd.R_drewN | apply Kd.R_drew)); exact HO291.out) (Kd.R_base ho0) hb); have n5_ := Aside0.mk (Kd.R_lower (Kd.R_new' (Kd.R_new' (Kd.R_new' (Kd.R_new' (Kd.R_new' ho0 (Kd.R_lt (by (with_reducible repeat (first | apply Kd.R_alloc | apply Kd.R_drewN | apply Kd.R_drew)); exact HO_9.out))) (Kd.R_lt (by (with_reducible repeat (first | apply Kd.R_alloc | apply Kd.R_drewN | apply Kd.R_drew)); exact HO_10.out))) (Kd.R_lt (by (with_reducible repeat (first | apply Kd.R_alloc | apply Kd.R_drewN | apply Kd.R_drew)); exact HO_11.out))) (Kd.R_lt (by (with_reducible repeat (first | apply Kd.R_alloc | apply Kd.R_drewN | apply Kd.R_drew)); exact HO288.out))) (Kd.R_lt (by (with_reducible repeat (first | apply Kd.R_alloc | apply Kd.R_drewN | apply Kd.R_drew)); exact HO291.out))) (below_size (by repeat (first | (with_reducible first | exact HB.out | apply below_alloc | apply pw_below_drewN | apply below_drew1) | exact HB.out)))); have n6_ := Aside0.mk (below_step (by repeat (first | (with_reducible first | exact HB.out | apply below_alloc | apply pw_below_drewN | apply below_drew1) | exact HB.out)) hb); clear HO_9; clear HO_10; clear HO_11; clear HO288; clear HO291; clear HB; have HO_9 := n0_; have HO_10 := n1_; have HO_11 := n2_; have HO288 := n3_; have HO291 := n4_; have HO295 := n5_; have HB := n6_; clear n0_ n1_ n2_ n3_ n4_ n5_ n6_; (try clear hb); (try clear hb2); (try clear hk); (try clear hi); (try clear ho0); obtain ⟨Ao90, co90, eo90⟩ := Kd.R_slice HO295.out; subst eo90) | (go_at_call 18; (with_reducible refine (perm_Compose.calls kj24 _ _ t293 _ _ l0 t296 _ ?side1 ?side2 ?side3 ?side4 A76.out).mono ?_); (case side1 => repeat (first | exact (Kd.R_reads' HO295.out).2.2 | (with_reducible refine Kd.C_alloc ?_ _) | (with_reducible refine Kd.C_drewN ?_ _) | (with_reducible refine Kd.C_drew ?_))); (case side2 => exact (Kd.R_reads' HO295.out).2.1); (case side3 => repeat (first | exact (Kd.C_below HR0.out HB.out) | (with_reducible refine Kd.C_alloc ?_ _) | (with_reducible refine Kd.C_drewN ?_ _) | (with_reducible refine Kd.C_drew ?_))); (case side4 => exact HC0.out); rintro e w91 ⟨v297, rfl, ho0, hb⟩; have n0_ := Aside0.mk (Kd.R_elder' (by (with_reducible repeat (first | apply Kd.R_alloc | apply Kd.R_drewN | apply Kd.R_drew)); exact HO_9.out) (Kd.R_base ho0) hb); have n1_ := Aside0.mk (Kd.R_elder' (by (with_reducible repeat (first | apply Kd.R_alloc | apply Kd.R_drewN | apply Kd.R_drew)); exact HO_10.out) (Kd.R_base ho0) hb); have n2_ := Aside0.mk (Kd.R_elder' (by (with_reducible repeat (first | apply Kd.R_alloc | apply Kd.R_drewN | apply Kd.R_drew)); exact HO_11.out) (Kd.R_base ho0) hb); have n3_ := Aside0.mk (Kd.R_elder' (by (with_reducible repeat (first | apply Kd.R_alloc | apply Kd.R_drewN | apply Kd.R_drew)); exact HO288.out) (Kd.R_base ho0) hb); have n4_ := Aside0.mk (Kd.R_elder' (by (with_reducible repeat (first | apply Kd.R_alloc | apply Kd.R_drewN | apply Kd.R_drew)); exact HO291.out) (Kd.R_base ho0) hb); have n5_ := Aside0.mk (Kd.R_elder' (by (with_reducible repeat (first | apply Kd.R_alloc | apply Kd.R_drewN | apply Kd.R_drew)); exact HO295.out) (Kd.R_base ho0) hb); have n6_ := Aside0.mk (Kd.R_lower (Kd.R_new' (Kd.R_new' (Kd.R_new' (Kd.R_new' (Kd.R_new' (Kd.R_new' ho0 (Kd.R_lt (by (with_reducible repeat (first | apply Kd.R_alloc | apply Kd.R_drewN | apply Kd.R_drew)); exact HO_9.out))) (Kd.R_lt (by (with_reducible repeat (first | apply Kd.R_alloc | apply Kd.R_drewN | apply Kd.R_drew)); exact HO_10.out))) (Kd.R_lt (by (with_reducible repeat (first | apply Kd.R_alloc | apply Kd.R_drewN | apply Kd.R_drew)); exact HO_11.out))) (Kd.R_lt (by (with_reducible repeat (first | apply Kd.R_alloc | apply Kd.R_drewN | apply Kd.R_drew)); exact HO288.out))) (Kd.R_lt (by (with_reducible repeat (first | apply Kd.R_alloc | apply Kd.R_drewN | apply Kd.R_drew)); exact HO291.out))) (Kd.R_lt (by (with_reducible repeat (first | apply Kd.R_alloc | apply Kd.R_drewN | apply Kd.R_drew)); exact HO295.out))) (below_size (by repeat (first | (with_reducible first | exact HB.out | apply below_alloc | apply pw_below_drewN | apply below_drew1) | exact HB.out)))); have n7_ := Aside0.mk (below_step (by repeat (first | (with_reducible first | exact HB.out | apply below_alloc | apply pw_below_drewN | apply below_drew1) | exact HB.out)) hb); clear HO_9; clear HO_10; clear HO_11; clear HO288; clear HO291; clear HO295; clear HB; have HO_9 := n0_; have HO_10 := n1_; have HO_11 := n2_; have HO288 := n3_; have HO291 := n4_; have HO295 := n5_; have HO298 := n6_; have HB := n7_; clear n0_ n1_ n2_ n3_ n4_ n5_ n6_ n7_; (try clear hb); (try clear hb2); (try clear hk); (try clear hi); (try clear ho0); obtain ⟨Ao92, co92, eo92⟩ := Kd.R_slice HO298.out; subst eo92) | (go_at_call 12; (with_reducible refine (taquinref37_Same.calls kj24 _ _ t296 _ _ t265 true _ ?side1 ?side2 ?side3 ?side4 A77.out).mono ?_); (case side1 => repeat (first | exact (Kd.R_reads' HO298.out).2.2 | (with_reducible refine Kd.C_alloc ?_ _) | (with_reducible refine Kd.C_drewN ?_ _) | (with_reducible refine Kd.C_drew ?_))); (case side2 => exact (Kd.R_reads' HO298.out).2.1); (case side3 => repeat (first | exact (Kd.R_reads' HO_11.out).2.2 | (with_reducible refine Kd.C_alloc ?_ _) | (with_reducible refine Kd.C_drewN ?_ _) | (with_reducible refine Kd.C_drew ?_))); (case side4 => exact (Kd.R_reads' HO_11.out).2.1); rintro e w' ⟨rfl, ⟨nd, rfl⟩⟩; obtain ⟨Ao93, co93, eo93⟩ := Kd.R_slice HO_10.out; subst eo93) | (go_at_call 19; (with_reducible refine (perm_Inverse.calls kj24 _ _ t262 t300 _ ?side1 ?side2 A79.out).mono ?_); (case side1 => repeat (first | exact (Kd.R_reads' HO_10.out).2.2 | (with_reducible refine Kd.C_alloc ?_ _) | (with_reducible refine Kd.C_drewN ?_ _) | (with_reducible refine Kd.C_drew ?_))); (case side2 => exact (Kd.R_reads' HO_10.out).2.1); rintro e w94 ⟨v301, rfl, ho0, hb⟩; have n0_ := Aside0.mk (Kd.R_elder' (by (with_reducible repeat (first | apply Kd.R_alloc | apply Kd.R_drewN | apply Kd.R_drew)); exact HO_9.out) (Kd.R_base ho0) hb); have n1_ := Aside0.mk (Kd.R_elder' (by (with_reducible repeat (first | apply Kd.R_alloc | apply Kd.R_drewN | apply Kd.R_drew)); exact HO_10.out) (Kd.R_base ho0) hb); have n2_ := Aside0.mk (Kd.R_elder' (by (with_reducible repeat (first | apply Kd.R_alloc | apply Kd.R_drewN | apply Kd.R_drew)); exact HO_11.out) (Kd.R_base ho0) hb); have n3_ := Aside0.mk (Kd.R_elder' (by (with_reducible repeat (first | apply Kd.R_alloc | apply Kd.R_drewN | apply Kd.R_drew)); exact HO288.out) (Kd.R_base ho0) hb); have n4_ := Aside0.mk (Kd.R_elder' (by (with_reducible repeat (first | apply Kd.R_alloc | apply Kd.R_drewN | apply Kd.R_drew)); exact HO291.out) (Kd.R_base ho0) hb); have n5_ := Aside0.mk (Kd.R_elder' (by (with_reducible repeat (first | apply Kd.R_alloc | apply Kd.R_drewN | apply Kd.R_drew)); exact HO295.out) (Kd.R_base ho0) hb); have n6_ := Aside0.mk (Kd.R_elder' (by (with_reducible repeat (first | apply Kd.R_alloc | apply Kd.R_drewN | apply Kd.R_drew)); exact HO298.out) (Kd.R_base ho0) hb); have n7_ := Aside0.mk (Kd.R_lower (Kd.R_new' (Kd.R_new' (Kd.R_new' (Kd.R_new' (Kd.R_new' (Kd.R_new' (Kd.R_new' ho0 (Kd.R_lt (by (with_reducible repeat (first | apply Kd.R_alloc | apply Kd.R_drewN | apply Kd.R_drew)); exact HO_9.out))) (Kd.R_lt (by (with_reducible repeat (first | apply Kd.R_alloc | apply Kd.R_drewN | apply Kd.R_drew)); exact HO_10.out))) (Kd.R_lt (by (with_reducible repeat (first | apply Kd.R_alloc | apply Kd.R_drewN | apply Kd.R_drew)); exact HO_11.out))) (Kd.R_lt (by (with_reducible repeat (first | apply Kd.R_alloc | apply Kd.R_drewN | apply Kd.R_drew)); exact HO288.out))) (Kd.R_lt (by (with_reducible repeat (first | apply Kd.R_alloc | apply Kd.R_drewN | apply Kd.R_drew)); exact HO291.out))) (Kd.R_lt (by (with_reducible repeat (first | apply Kd.R_alloc | apply Kd.R_drewN | apply Kd.R_drew)); exact HO295.out))) (Kd.R_lt (by (with_reducible repeat (first | apply Kd.R_alloc | apply Kd.R_drewN | apply Kd.R_drew)); exact HO298.out))) (below_size (by repeat (first | (with_reducible first | exact HB.out | apply below_alloc | apply pw_below_drewN | apply below_drew1) | exact HB.out)))); have n8_ := Aside0.mk (below_step (by repeat (first | (with_reducible first | exact HB.out | apply below_alloc | apply pw_below_drewN | apply below_drew1) | exact HB.out)) hb); clear HO_9; clear HO_10; clear HO_11; clear HO288; clear HO291; clear HO295; clear HO298; clear HB; have HO_9 := n0_; have HO_10 := n1_; have HO_11 := n2_; have HO288 := n3_; have HO291 := n4_; have HO295 := n5_; have HO298 := n6_; have HO302 := n7_; have HB := n8_; clear n0_ n1_ n2_ n3_ n4_ n5_ n6_ n7_ n8_; (try clear hb); (try clear hb2); (try clear hk); (try clear hi); (try clear ho0)) | (go_at_call 19; (with_reducible refine (perm_Inverse.calls kj24 _ _ l1 t303 _ ?side1 ?side2 A80.out).mono ?_); (case side1 => repeat (first | exact (Kd.C_below HR1.out HB.out) | (with_reducible refine Kd.C_alloc ?_ _) | (with_reducible refine Kd.C_drewN ?_ _) | (with_reducible refine Kd.C_drew ?_))); (case side2 => exact HC1.out); rintro e w95 ⟨v304, rfl, ho0, hb⟩; have n0_ := Aside0.mk (Kd.R_elder' (by (with_reducible repeat (first | apply Kd.R_alloc | apply Kd.R_drewN | apply Kd.R_drew)); exact HO_9.out) (Kd.R_base ho0) hb); have n1_ := Aside0.mk (Kd.R_elder' (by (with_reducible repeat (first | apply Kd.R_alloc | apply Kd.R_drewN | apply Kd.R_drew)); exact HO_10.out) (Kd.R_base ho0) hb); have n2_ := Aside0.mk (Kd.R_elder' (by (with_reducible repeat (first | apply Kd.R_alloc | apply Kd.R_drewN | apply Kd.R_drew)); exact HO_11.out) (Kd.R_base ho0) hb); have n3_ := Aside0.mk (Kd.R_elder' (by (with_reducible repeat (first | apply Kd.R_alloc | apply Kd.R_drewN | apply Kd.R_drew)); exact HO288.out) (Kd.R_base ho0) hb); have n4_ := Aside0.mk (Kd.R_elder' (by (with_reducible repeat (first | apply Kd.R_alloc | apply Kd.R_drewN | apply Kd.R_drew)); exact HO291.out) (Kd.R_base ho0) hb); have n5_ := Aside0.mk (Kd.R_elder' (by (with_reducible repeat (first | apply Kd.R_alloc | apply Kd.R_drewN | apply Kd.R_drew)); exact HO295.out) (Kd.R_base ho0) hb); have n6_ := Aside0.mk (Kd.R_elder' (by (with_reducible repeat (first | apply Kd.R_alloc | apply Kd.R_drewN | apply Kd.R_drew)); exact HO298.out) (Kd.R_base ho0) hb); have n7_ := Aside0.mk (Kd.R_elder' (by (with_reducible repeat (first | apply Kd.R_alloc | apply Kd.R_drewN | apply Kd.R_drew)); exact HO302.out) (Kd.R_base ho0) hb); have n8_ := Aside0.mk (Kd.R_lower (Kd.R_new' (Kd.R_new' (Kd.R_new' (Kd.R_new' (Kd.R_new' (Kd.R_new' (Kd.R_new' (Kd.R_new' ho0 (Kd.R_lt (by (with_reducible repeat (first | apply Kd.R_alloc | apply Kd.R_drewN | apply Kd.R_drew)); exact HO_9.out))) (Kd.R_lt (by (with_reducible repeat (first | apply Kd.R_alloc | apply Kd.R_drewN | apply Kd.R_drew)); exact HO_10.out))) (Kd.R_lt (by (with_reducible repeat (first | apply Kd.R_alloc | apply Kd.R_drewN | apply Kd.R_drew)); exact HO_11.out))) (Kd.R_lt (by (with_reducible repeat (first | apply Kd.R_alloc | apply Kd.R_drewN | apply Kd.R_drew)); exact HO288.out))) (Kd.R_lt (by (with_reducible repeat (first | apply Kd.R_alloc | apply Kd.R_drewN | apply Kd.R_drew)); exact HO291.out))) (Kd.R_lt (by (with_reducible repeat (first | apply Kd.R_alloc | apply Kd.R_drewN | apply Kd.R_drew)); exact HO295.out))) (Kd.R_lt (by (with_reducible repeat (first | apply Kd.R_alloc | apply Kd.R_drewN | apply Kd.R_drew)); exact HO298.out))) (Kd.R_lt (by (with_reducible repeat (first | apply Kd.R_alloc | apply Kd.R_drewN | apply Kd.R_drew)); exact HO302.out))) (below_size (by repeat (first | (with_reducible first | exact HB.out | apply below_alloc | apply pw_below_drewN | apply below_drew1) | exact HB.out)))); have n9_ := Aside0.mk (below_step (by repeat (first | (with_reducible first | exact HB.out | apply below_alloc | apply pw_below_drewN | apply below_drew1) | exact HB.out)) hb); clear HO_9; clear HO_10; clear HO_11; clear HO288; clear HO291; clear HO295; clear HO298; clear HO302; clear HB; have HO_9 := n0_; have HO_10 := n1_; have HO_11 := n2_; have HO288 := n3_; have HO291 := n4_; have HO295 := n5_; have HO298 := n6_; have HO302 := n7_; have HO305 := n8_; have HB := n9_; clear n0_ n1_ n2_ n3_ n4_ n5_ n6_ n7_ n8_ n9_; (try clear hb); (try clear hb2); (try clear hk); (try clear hi); (try clear ho0)) | (go_at_call 19; clear mk_t306_; (with_reducible refine (perm_Inverse.calls kj24 _ _ l0 t306 _ ?side1 ?side2 A81.out).mono ?_); (case side1 => repeat (first | exact (Kd.C_below HR0.out HB.out) | (with_reducible refine Kd.C_alloc ?_ _) | (with_reducible refine Kd.C_drewN ?_ _) | (with_reducible refine Kd.C_drew ?_))); (case side2 => exact HC0.out); rintro e w96 ⟨v307, rfl, ho0, hb⟩; have n0_ := Aside0.mk (Kd.R_elder' (by (with_reducible repeat (first | apply Kd.R_alloc | apply Kd.R_drewN | apply Kd.R_drew)); exact HO_9.out) (Kd.R_base ho0) hb); have n1_ := Aside0.mk (Kd.R_elder' (by (with_reducible repeat (first | apply Kd.R_alloc | apply Kd.R_drewN | apply Kd.R_drew)); exact HO_10.out) (Kd.R_base ho0) hb); have n2_ := Aside0.mk (Kd.R_elder' (by (with_reducible repeat (first | apply Kd.R_alloc | apply Kd.R_drewN | apply Kd.R_drew)); exact HO_11.out) (Kd.R_base ho0) hb); have n3_ := Aside0.mk (Kd.R_elder' (by (with_reducible repeat (first | apply Kd.R_alloc | apply Kd.R_drewN | apply Kd.R_drew)); exact HO288.out) (Kd.R_base ho0) hb); have n4_ := Aside0.mk (Kd.R_elder' (by (with_reducible repeat (first | apply Kd.R_alloc | apply Kd.R_drewN | apply Kd.R_drew)); exact HO291.out) (Kd.R_base ho0) hb); have n5_ := Aside0.mk (Kd.R_elder' (by (with_reducible repeat (first | apply Kd.R_alloc | apply Kd.R_drewN | apply Kd.R_drew)); exact HO295.out) (Kd.R_base ho0) hb); have n6_ := Aside0.mk (Kd.R_elder' (by (with_reducible repeat (first | apply Kd.R_alloc | apply Kd.R_drewN | apply Kd.R_drew)); exact HO298.out) (Kd.R_base ho0) hb); have n7_ := Aside0.mk (Kd.R_elder' (by (with_reducible repeat (first | apply Kd.R_alloc | apply Kd.R_drewN | apply Kd.R_drew)); exact HO302.out) (Kd.R_base ho0) hb); have n8_ := Aside0.mk (Kd.R_elder' (by (with_reducible repeat (first | apply Kd.R_alloc | apply Kd.R_drewN | apply Kd.R_drew)); exact HO305.out) (Kd.R_base ho0) hb); have n9_ := Aside0.mk (Kd.R_lower (Kd.R_new' (Kd.R_new' (Kd.R_new' (Kd.R_new' (Kd.R_new' (Kd.R_new' (Kd.R_new' (Kd.R_new' (Kd.R_new' ho0 (Kd.R_lt (by (with_reducible repeat (first | apply Kd.R_alloc | apply Kd.R_drewN | apply Kd.R_drew)); exact HO_9.out))) (Kd.R_lt (by (with_reducible repeat (first | apply Kd.R_alloc | apply Kd.R_drewN | apply Kd.R_drew)); exact HO_10.out))) (Kd.R_lt (by (with_reducible repeat (first | apply Kd.R_alloc | apply Kd.R_drewN | apply Kd.R_drew)); exact HO_11.out))) (Kd.R_lt (by (with_reducible repeat (first | apply Kd.R_alloc | apply Kd.R_drewN | apply Kd.R_drew)); exact HO288.out))) (Kd.R_lt (by (with_reducible repeat (first | apply Kd.R_alloc | apply Kd.R_drewN | apply Kd.R_drew)); exact HO291.out))) (Kd.R_lt (by (with_reducible repeat (first | apply Kd.R_alloc | apply Kd.R_drewN | apply Kd.R_drew)); exact HO295.out))) (Kd.R_lt (by (with_reducible repeat (first | apply Kd.R_alloc | apply Kd.R_drewN | apply Kd.R_drew)); exact HO298.out))) (Kd.R_lt (by (with_reducible repeat (first | apply Kd.R_alloc | apply Kd.R_drewN | apply Kd.R_drew)); exact HO302.out))) (Kd.R_lt (by (with_reducible repeat (first | apply Kd.R_alloc | apply Kd.R_drewN | apply Kd.R_drew)); exact HO305.out))) (below_size (by repeat (first | (with_reducible first | exact HB.out | apply below_alloc | apply pw_below_drewN | apply below_drew1) | exact HB.out)))); have n10_ := Aside0.mk (below_step (by repeat (first | (with_reducible first | exact HB.out | apply below_alloc | apply pw_below_drewN | apply below_drew1) | exact HB.out)) hb); clear HO_9; clear HO_10; clear HO_11; clear HO288; clear HO291; clear HO295; clear HO298; clear HO302; clear HO305; clear HB; have HO_9 := n0_; have HO_10 := n1_; have HO_11 := n2_; have HO288 := n3_; have HO291 := n4_; have HO295 := n5_; have HO298 := n6_; have HO302 := n7_; have HO305 := n8_; have HO308 := n9_; have HB := n10_; clear n0_ n1_ n2_ n3_ n4_ n5_ n6_ n7_ n8_ n9_ n10_; (try clear hb); (try clear hb2); (try clear hk); (try clear hi); (try clear ho0); obtain ⟨Ao97, co97, eo97⟩ := Kd.R_slice HO305.out; subst eo97; obtain ⟨Ao98, co98, eo98⟩ := Kd.R_slice HO308.out; subst eo98) | (go_at_call 18; (with_reducible refine (perm_Compose.calls kj24 _ _ t303 _ _ t306 t309 _ ?side1 ?side2 ?side3 ?side4 A82.out).mono ?_); (case side1 => repeat (first | exact (Kd.R_reads' HO305.out).2.2 | (with_reducible refine Kd.C_alloc ?_ _) | (with_reducible refine Kd.C_drewN ?_ _) | (with_reducible refine Kd.C_drew ?_))); (case side2 => exact (Kd.R_reads' HO305.out).2.1); (case side3 => repeat (first | exact (Kd.R_reads' HO308.out).2.2 | (with_reducible refine Kd.C_alloc ?_ _) | (with_reducible refine Kd.C_drewN ?_ _) | (with_reducible refine Kd.C_drew ?_))); (case side4 => exact (Kd.R_reads' HO308.out).2.1); rintro e w99 ⟨v310, rfl, ho0, hb⟩; have n0_ := Aside0.mk (Kd.R_elder' (by (with_reducible repeat (first | apply Kd.R_alloc | apply Kd.R_drewN | apply Kd.R_drew)); exact HO_9.out) (Kd.R_base ho0) hb); have n1_ := Aside0.mk (Kd.R_elder' (by (with_reducible repeat (first | apply Kd.R_alloc | apply Kd.R_drewN | apply Kd.R_drew)); exact HO_10.out) (Kd.R_base ho0) hb); have n2_ := Aside0.mk (Kd.R_elder' (by (with_reducible repeat (first | apply Kd.R_alloc | apply Kd.R_drewN | apply Kd.R_drew)); exact HO_11.out) (Kd.R_base ho0) hb); have n3_ := Aside0.mk (Kd.R_elder' (by (with_reducible repeat (first | apply Kd.R_alloc | apply Kd.R_drewN | apply Kd.R_drew)); exact HO288.out) (Kd.R_base ho0) hb); have n4_ := Aside0.mk (Kd.R_elder' (by (with_reducible repeat (first | apply Kd.R_alloc | apply Kd.R_drewN | apply Kd.R_drew)); exact HO291.out) (Kd.R_base ho0) hb); have n5_ := Aside0.mk (Kd.R_elder' (by (with_reducible repeat (first | apply Kd.R_alloc | apply Kd.R_drewN | apply Kd.R_drew)); exact HO295.out) (Kd.R_base ho0) hb); have n6_ := Aside0.mk (Kd.R_elder' (by (with_reducible repeat (first | apply Kd.R_alloc | apply Kd.R_drewN | apply Kd.R_drew)); exact HO298.out) (Kd.R_base ho0) hb); have n7_ := Aside0.mk (Kd.R_elder' (by (with_reducible repeat (first | apply Kd.R_alloc | apply Kd.R_drewN | apply Kd.R_drew)); exact HO302.out) (Kd.R_base ho0) hb); have n8_ := Aside0.mk (Kd.R_elder' (by (with_reducible repeat (first | apply Kd.R_alloc | apply Kd.R_drewN | apply Kd.R_drew)); exact HO305.out) (Kd.R_base ho0) hb); have n9_ := Aside0.mk (Kd.R_elder' (by (with_reducible repeat (first | apply Kd.R_alloc | apply Kd.R_drewN | apply Kd.R_drew)); exact HO308.out) (Kd.R_base ho0) hb); have n10_ := Aside0.mk (Kd.R_lower (Kd.R_new' (Kd.R_new' (Kd.R_new' (Kd.R_new' (Kd.R_new' (Kd.R_new' (Kd.R_new' (Kd.R_new' (Kd.R_new' (Kd.R_new' ho0 (Kd.R_lt (by (with_reducible repeat (first | apply Kd.R_alloc | apply Kd.R_drewN | apply Kd.R_drew)); exact HO_9.out))) (Kd.R_lt (by (with_reducible repeat (first | apply Kd.R_alloc | apply Kd.R_drewN | apply Kd.R_drew)); exact HO_10.out))) (Kd.R_lt (by (with_reducible repeat (first | apply Kd.R_alloc | apply Kd.R_drewN | apply Kd.R_drew)); exact HO_11.out))) (Kd.R_lt (by (with_reducible repeat (first | apply Kd.R_alloc | apply Kd.R_drewN | apply Kd.R_drew)); exact HO288.out))) (Kd.R_lt (by (with_reducible repeat (first | apply Kd.R_alloc | apply Kd.R_drewN | apply Kd.R_drew)); exact HO291.out))) (Kd.R_lt (by (with_reducible repeat (first | apply Kd.R_alloc | apply Kd.R_drewN | apply Kd.R_drew)); exact HO295.out))) (Kd.R_lt (by (with_reducible repeat (first | apply Kd.R_alloc | apply Kd.R_drewN | apply Kd.R_drew)); exact HO298.out))) (Kd.R_lt (by (with_reducible repeat (first | apply Kd.R_alloc | apply Kd.R_drewN | apply Kd.R_drew)); exact HO302.out))) (Kd.R_lt (by (with_reducible repeat (first | apply Kd.R_alloc | apply Kd.R_drewN | apply Kd.R_drew)); exact HO305.out))) (Kd.R_lt (by (with_reducible repeat (first | apply Kd.R_alloc | apply Kd.R_drewN | apply Kd.R_drew)); exact HO308.out))) (below_size (by repeat (first | (with_reducible first | exact HB.out | apply below_alloc | apply pw_below_drewN | apply below_drew1) | exact HB.out)))); have n11_ := Aside0.mk (below_step (by repeat (first | (with_reducible first | exact HB.out | apply below_alloc | apply pw_below_drewN | apply below_drew1) | exact HB.out)) hb); clear HO_9; clear HO_10; clear HO_11; clear HO288; clear HO291; clear HO295; clear HO298; clear HO302; clear HO305; clear HO308; clear HB; have HO_9 := n0_; have HO_10 := n1_; have HO_11 := n2_; have HO288 := n3_; have HO291 := n4_; have HO295 := n5_; have HO298 := n6_; have HO302 := n7_; have HO305 := n8_; have HO308 := n9_; have HO311 := n10_; have HB := n11_; clear n0_ n1_ n2_ n3_ n4_ n5_ n6_ n7_ n8_ n9_ n10_ n11_; (try clear hb); (try clear hb2); (try clear hk); (try clear hi); (try clear ho0); obtain ⟨Ao100, co100, eo100⟩ := Kd.R_slice HO302.out; subst eo100; obtain ⟨Ao101, co101, eo101⟩ := Kd.R_slice HO311.out; subst eo101) | (go_at_call 12; (with_reducible refine (taquinref37_Same.calls kj24 _ _ t300 _ _ t309 t312 _ ?side1 ?side2 ?side3 ?side4 A83.out).mono ?_); (case side1 => repeat (first | exact (Kd.R_reads' HO302.out).2.2 | (with_reducible refine Kd.C_alloc ?_ _) | (with_reducible refine Kd.C_drewN ?_ _) | (with_reducible refine Kd.C_drew ?_))); (case side2 => exact (Kd.R_reads' HO302.out).2.1); (case side3 => repeat (first | exact (Kd.R_reads' HO311.out).2.2 | (with_reducible refine Kd.C_alloc ?_ _) | (with_reducible refine Kd.C_drewN ?_ _) | (with_reducible refine Kd.C_drew ?_))); (case side4 => exact (Kd.R_reads' HO311.out).2.1); rintro e w' ⟨rfl, ⟨nd, rfl⟩⟩))
                    go_meet
                    case rel => exact ⟨_, (t312), (by first | rfl | (simp; done) | (simp [*]; done)), H', ⟨by have := HJ4.out; have := HJ24.out; first | omega | exact Nat.le_refl _⟩, ⟨by (with_reducible repeat (first | apply Kd.R_alloc | apply Kd.R_drewN | apply Kd.R_drew)); exact Kd.R_mono HO_9.out (fun _ hk => hk.1.1.1.1.1.1.1.1.1)⟩, ⟨by (with_reducible repeat (first | apply Kd.R_alloc | apply Kd.R_drewN | apply Kd.R_drew)); exact Kd.R_mono HO_10.out (fun _ hk => hk.1.1.1.1.1.1.1.1.1)⟩, ⟨by repeat (first | (with_reducible first | exact HB.out | apply below_alloc | apply pw_below_drewN | apply below_drew1) | exact HB.out)⟩⟩
                  · replace c78 := Bool.eq_false_iff.mpr c78
                    subst c78
                    have H1 : (taquinlaw37_PermGroup.j2 kj24 l0 l1 t252 y259 t262 x12_24 false) = some r := by rw [if_neg (show ¬ (false = true) by decide)] at H; exact H
                    clear H
                    have H := H1
                    clear H1
                    have H' := Aside0.mk H
                    clear H
                    go_wp2_with (first | ((with_reducible refine gate_callee (f := 19) rfl ?_); refine goesL_ (some 80) rfl rfl Try.func19 (by kernel_rfl) rfl #[.slice A0 l0.length c0] rfl (by (try simp only [List.map_toArray, List.map_cons, List.map_nil]); first | done | rfl | (simp only [List.length_drop, List.length_take]; rfl)) ?_; (with_reducible refine (perm_Inverse.calls kj24 _ _ l0 t286 _ ?side1 ?side2 A71.out).mono ?_); (case side1 => repeat (first | exact (Kd.C_below HR0.out HB.out) | (with_reducible refine Kd.C_alloc ?_ _) | (with_reducible refine Kd.C_drewN ?_ _) | (with_reducible refine Kd.C_drew ?_))); (case side2 => exact HC0.out); rintro e w102 ⟨v287, rfl, ho0, hb⟩; refine ⟨_, rfl, ?_⟩; have n0_ := Aside0.mk (Kd.R_elder' (by (with_reducible repeat (first | apply Kd.R_alloc | apply Kd.R_drewN | apply Kd.R_drew)); exact HO_9.out) (Kd.R_base ho0) hb); have n1_ := Aside0.mk (Kd.R_elder' (by (with_reducible repeat (first | apply Kd.R_alloc | apply Kd.R_drewN | apply Kd.R_drew)); exact HO_10.out) (Kd.R_base ho0) hb); have n2_ := Aside0.mk (Kd.R_elder' (by (with_reducible repeat (first | apply Kd.R_alloc | apply Kd.R_drewN | apply Kd.R_drew)); exact HO_11.out) (Kd.R_base ho0) hb); have n3_ := Aside0.mk (Kd.R_lower (Kd.R_new' (Kd.R_new' (Kd.R_new' ho0 (Kd.R_lt (by (with_reducible repeat (first | apply Kd.R_alloc | apply Kd.R_drewN | apply Kd.R_drew)); exact HO_9.out))) (Kd.R_lt (by (with_reducible repeat (first | apply Kd.R_alloc | apply Kd.R_drewN | apply Kd.R_drew)); exact HO_10.out))) (Kd.R_lt (by (with_reducible repeat (first | apply Kd.R_alloc | apply Kd.R_drewN | apply Kd.R_drew)); exact HO_11.out))) (below_size (by repeat (first | (with_reducible first | exact HB.out | apply below_alloc | apply pw_below_drewN | apply below_drew1) | exact HB.out)))); have n4_ := Aside0.mk (below_step (by repeat (first | (with_reducible first | exact HB.out | apply below_alloc | apply pw_below_drewN | apply below_drew1) | exact HB.out)) hb); clear HO_9; clear HO_10; clear HO_11; clear HB; have HO_9 := n0_; have HO_10 := n1_; have HO_11 := n2_; have HO288 := n3_; have HB := n4_; clear n0_ n1_ n2_ n3_ n4_; (try clear hb); (try clear hb2); (try clear hk); (try clear hi); (try clear ho0); obtain ⟨Ao103, co103, eo103⟩ := Kd.R_slice HO288.out; subst eo103) | ((with_reducible refine gate_callee (f := 18) rfl ?_); refine goesL_ (some 81) rfl rfl Try.func18 (by kernel_rfl) rfl #[.slice A0 l0.length c0, .slice Ao103 t286.length co103] rfl (by (try simp only [List.map_toArray, List.map_cons, List.map_nil]); first | done | rfl | (simp only [List.length_drop, List.length_take]; rfl)) ?_; (with_reducible refine (perm_Compose.calls kj24 _ _ l0 _ _ t286 t289 _ ?side1 ?side2 ?side3 ?side4 A72.out).mono ?_); (case side1 => repeat (first | exact (Kd.C_below HR0.out HB.out) | (with_reducible refine Kd.C_alloc ?_ _) | (with_reducible refine Kd.C_drewN ?_ _) | (with_reducible refine Kd.C_drew ?_))); (case side2 => exact HC0.out); (case side3 => repeat (first | exact (Kd.R_reads' HO288.out).2.2 | (with_reducible refine Kd.C_alloc ?_ _) | (with_reducible refine Kd.C_drewN ?_ _) | (with_reducible refine Kd.C_drew ?_))); (case side4 => exact (Kd.R_reads' HO288.out).2.1); rintro e w104 ⟨v290, rfl, ho0, hb⟩; refine ⟨_, rfl, ?_⟩; have n0_ := Aside0.mk (Kd.R_elder' (by (with_reducible repeat (first | apply Kd.R_alloc | apply Kd.R_drewN | apply Kd.R_drew)); exact HO_9.out) (Kd.R_base ho0) hb); have n1_ := Aside0.mk (Kd.R_elder' (by (with_reducible repeat (first | apply Kd.R_alloc | apply Kd.R_drewN | apply Kd.R_drew)); exact HO_10.out) (Kd.R_base ho0) hb); have n2_ := Aside0.mk (Kd.R_elder' (by (with_reducible repeat (first | apply Kd.R_alloc | apply Kd.R_drewN | apply Kd.R_drew)); exact HO_11.out) (Kd.R_base ho0) hb); have n3_ := Aside0.mk (Kd.R_elder' (by (with_reducible repeat (first | apply Kd.R_alloc | apply Kd.R_drewN | apply Kd.R_drew)); exact HO288.out) (Kd.R_base ho0) hb); have n4_ := Aside0.mk (Kd.R_lower (Kd.R_new' (Kd.R_new' (Kd.R_new' (Kd.R_new' ho0 (Kd.R_lt (by (with_reducible repeat (first | apply Kd.R_alloc | apply Kd.R_drewN | apply Kd.R_drew)); exact HO_9.out))) (Kd.R_lt (by (with_reducible repeat (first | apply Kd.R_alloc | apply Kd.R_drewN | apply Kd.R_drew)); exact HO_10.out))) (Kd.R_lt (by (with_reducible repeat (first | apply Kd.R_alloc | apply Kd.R_drewN | apply Kd.R_drew)); exact HO_11.out))) (Kd.R_lt (by (with_reducible repeat (first | apply Kd.R_alloc | apply Kd.R_drewN | apply Kd.R_drew)); exact HO288.out))) (below_size (by repeat (first | (with_reducible first | exact HB.out | apply below_alloc | apply pw_below_drewN | apply below_drew1) | exact HB.out)))); have n5_ := Aside0.mk (below_step (by repeat (first | (with_reducible first | exact HB.out | apply below_alloc | apply pw_below_drewN | apply below_drew1) | exact HB.out)) hb); clear HO_9; clear HO_10; clear HO_11; clear HO288; clear HB; have HO_9 := n0_; have HO_10 := n1_; have HO_11 := n2_; have HO288 := n3_; have HO291 := n4_; have HB := n5_; clear n0_ n1_ n2_ n3_ n4_ n5_; (try clear hb); (try clear hb2); (try clear hk); (try clear hi); (try clear ho0); obtain ⟨Ao105, co105, eo105⟩ := Kd.R_slice HO291.out; subst eo105; obtain ⟨Ao106, co106, eo106⟩ := Kd.R_slice HO_11.out; subst eo106) | ((with_reducible refine gate_callee (f := 12) rfl ?_); refine goesL_ (some 83) rfl rfl Try.func12 (by kernel_rfl) rfl #[.slice Ao105 t289.length co105, .slice Ao106 t265.length co106] rfl (by (try simp only [List.map_toArray, List.map_cons, List.map_nil]); first | done | rfl | (simp only [List.length_drop, List.length_take]; rfl)) ?_; (with_reducible refine (taquinref37_Same.calls kj24 _ _ t289 _ _ t265 true _ ?side1 ?side2 ?side3 ?side4 A73.out).mono ?_); (case side1 => repeat (first | exact (Kd.R_reads' HO291.out).2.2 | (with_reducible refine Kd.C_alloc ?_ _) | (with_reducible refine Kd.C_drewN ?_ _) | (with_reducible refine Kd.C_drew ?_))); (case side2 => exact (Kd.R_reads' HO291.out).2.1); (case side3 => repeat (first | exact (Kd.R_reads' HO_11.out).2.2 | (with_reducible refine Kd.C_alloc ?_ _) | (with_reducible refine Kd.C_drewN ?_ _) | (with_reducible refine Kd.C_drew ?_))); (case side4 => exact (Kd.R_reads' HO_11.out).2.1); rintro e w' ⟨rfl, ⟨nd, rfl⟩⟩; refine ⟨_, rfl, ?_⟩) | (go_at_call 19; (with_reducible refine (perm_Inverse.calls kj24 _ _ l0 t293 _ ?side1 ?side2 A75.out).mono ?_); (case side1 => repeat (first | exact (Kd.C_below HR0.out (by repeat (first | (with_reducible first | exact HB.out | apply below_alloc | apply pw_below_drewN | apply below_drew1) | exact HB.out))) | (with_reducible refine Kd.C_alloc ?_ _) | (with_reducible refine Kd.C_drewN ?_ _) | (with_reducible refine Kd.C_drew ?_))); (case side2 => exact HC0.out); rintro e w107 ⟨v294, rfl, ho0, hb⟩; have n0_ := Aside0.mk (Kd.R_elder' (by (with_reducible repeat (first | apply Kd.R_alloc | apply Kd.R_drewN | apply Kd.R_drew)); exact HO_9.out) (Kd.R_base ho0) hb); have n1_ := Aside0.mk (Kd.R_elder' (by (with_reducible repeat (first | apply Kd.R_alloc | apply Kd.R_drewN | apply Kd.R_drew)); exact HO_10.out) (Kd.R_base ho0) hb); have n2_ := Aside0.mk (Kd.R_elder' (by (with_reducible repeat (first | apply Kd.R_alloc | apply Kd.R_drewN | apply Kd.R_drew)); exact HO_11.out) (Kd.R_base ho0) hb); have n3_ := Aside0.mk (Kd.R_elder' (by (with_reducible repeat (first | apply Kd.R_alloc | apply Kd.R_drewN | apply Kd.R_drew)); exact HO288.out) (Kd.R_base ho0) hb); have n4_ := Aside0.mk (Kd.R_elder' (by (with_reducible repeat (first | apply Kd.R_alloc | apply Kd.R_drewN | apply Kd.R_drew)); exact HO291.out) (Kd.R_base ho0) hb); have n5_ := Aside0.mk (Kd.R_lower (Kd.R_new' (Kd.R_new' (Kd.R_new' (Kd.R_new' (Kd.R_new' ho0 (Kd.R_lt (by (with_reducible repeat (first | apply Kd.R_alloc | apply Kd.R_drewN | apply Kd.R_drew)); exact HO_9.out))) (Kd.R_lt (by (with_reducible repeat (first | apply Kd.R_alloc | apply Kd.R_drewN | apply Kd.R_drew)); exact HO_10.out))) (Kd.R_lt (by (with_reducible repeat (first | apply Kd.R_alloc | apply Kd.R_drewN | apply Kd.R_drew)); exact HO_11.out))) (Kd.R_lt (by (with_reducible repeat (first | apply Kd.R_alloc | apply Kd.R_drewN | apply Kd.R_drew)); exact HO288.out))) (Kd.R_lt (by (with_reducible repeat (first | apply Kd.R_alloc | apply Kd.R_drewN | apply Kd.R_drew)); exact HO291.out))) (below_size (by repeat (first | (with_reducible first | exact HB.out | apply below_alloc | apply pw_below_drewN | apply below_drew1) | exact HB.out)))); have n6_ := Aside0.mk (below_step (by repeat (first | (with_reducible first | exact HB.out | apply below_alloc | apply pw_below_drewN | apply below_drew1) | exact HB.out)) hb); clear HO_9; clear HO_10; clear HO_11; clear HO288; clear HO291; clear HB; have HO_9 := n0_; have HO_10 := n1_; have HO_11 := n2_; have HO288 := n3_; have HO291 := n4_; have HO295 := n5_; have HB := n6_; clear n0_ n1_ n2_ n3_ n4_ n5_ n6_; (try clear hb); (try clear hb2); (try clear hk); (try clear hi); (try clear ho0); obtain ⟨Ao108, co108, eo108⟩ := Kd.R_slice HO295.out; subst eo108) | (go_at_call 18; (with_reducible refine (perm_Compose.calls kj24 _ _ t293 _ _ l0 t296 _ ?side1 ?side2 ?side3 ?side4 A76.out).mono ?_); (case side1 => repeat (first | exact (Kd.R_reads' HO295.out).2.2 | (with_reducible refine Kd.C_alloc ?_ _) | (with_reducible refine Kd.C_drewN ?_ _) | (with_reducible refine Kd.C_drew ?_))); (case side2 => exact (Kd.R_reads' HO295.out).2.1); (case side3 => repeat (first | exact (Kd.C_below HR0.out HB.out) | (with_reducible refine Kd.C_alloc ?_ _) | (with_reducible refine Kd.C_drewN ?_ _) | (with_reducible refine Kd.C_drew ?_))); (case side4 => exact HC0.out); rintro e w109 ⟨v297, rfl, ho0, hb⟩; have n0_ := Aside0.mk (Kd.R_elder' (by (with_reducible repeat (first | apply Kd.R_alloc | apply Kd.R_drewN | apply Kd.R_drew)); exact HO_9.out) (Kd.R_base ho0) hb); have n1_ := Aside0.mk (Kd.R_elder' (by (with_reducible repeat (first | apply Kd.R_alloc | apply Kd.R_drewN | apply Kd.R_drew)); exact HO_10.out) (Kd.R_base ho0) hb); have n2_ := Aside0.mk (Kd.R_elder' (by (with_reducible repeat (first | apply Kd.R_alloc | apply Kd.R_drewN | apply Kd.R_drew)); exact HO_11.out) (Kd.R_base ho0) hb); have n3_ := Aside0.mk (Kd.R_elder' (by (with_reducible repeat (first | apply Kd.R_alloc | apply Kd.R_drewN | apply Kd.R_drew)); exact HO288.out) (Kd.R_base ho0) hb); have n4_ := Aside0.mk (Kd.R_elder' (by (with_reducible repeat (first | apply Kd.R_alloc | apply Kd.R_drewN | apply Kd.R_drew)); exact HO291.out) (Kd.R_base ho0) hb); have n5_ := Aside0.mk (Kd.R_elder' (by (with_reducible repeat (first | apply Kd.R_alloc | apply Kd.R_drewN | apply Kd.R_drew)); exact HO295.out) (Kd.R_base ho0) hb); have n6_ := Aside0.mk (Kd.R_lower (Kd.R_new' (Kd.R_new' (Kd.R_new' (Kd.R_new' (Kd.R_new' (Kd.R_new' ho0 (Kd.R_lt (by (with_reducible repeat (first | apply Kd.R_alloc | apply Kd.R_drewN | apply Kd.R_drew)); exact HO_9.out))) (Kd.R_lt (by (with_reducible repeat (first | apply Kd.R_alloc | apply Kd.R_drewN | apply Kd.R_drew)); exact HO_10.out))) (Kd.R_lt (by (with_reducible repeat (first | apply Kd.R_alloc | apply Kd.R_drewN | apply Kd.R_drew)); exact HO_11.out))) (Kd.R_lt (by (with_reducible repeat (first | apply Kd.R_alloc | apply Kd.R_drewN | apply Kd.R_drew)); exact HO288.out))) (Kd.R_lt (by (with_reducible repeat (first | apply Kd.R_alloc | apply Kd.R_drewN | apply Kd.R_drew)); exact HO291.out))) (Kd.R_lt (by (with_reducible repeat (first | apply Kd.R_alloc | apply Kd.R_drewN | apply Kd.R_drew)); exact HO295.out))) (below_size (by repeat (first | (with_reducible first | exact HB.out | apply below_alloc | apply pw_below_drewN | apply below_drew1) | exact HB.out)))); have n7_ := Aside0.mk (below_step (by repeat (first | (with_reducible first | exact HB.out | apply below_alloc | apply pw_below_drewN | apply below_drew1) | exact HB.out)) hb); clear HO_9; clear HO_10; clear HO_11; clear HO288; clear HO291; clear HO295; clear HB; have HO_9 := n0_; have HO_10 := n1_; have HO_11 := n2_; have HO288 := n3_; have HO291 := n4_; have HO295 := n5_; have HO298 := n6_; have HB := n7_; clear n0_ n1_ n2_ n3_ n4_ n5_ n6_ n7_; (try clear hb); (try clear hb2); (try clear hk); (try clear hi); (try clear ho0); obtain ⟨Ao110, co110, eo110⟩ := Kd.R_slice HO298.out; subst eo110) | (go_at_call 12; (with_reducible refine (taquinref37_Same.calls kj24 _ _ t296 _ _ t265 false _ ?side1 ?side2 ?side3 ?side4 A77.out).mono ?_); (case side1 => repeat (first | exact (Kd.R_reads' HO298.out).2.2 | (with_reducible refine Kd.C_alloc ?_ _) | (with_reducible refine Kd.C_drewN ?_ _) | (with_reducible refine Kd.C_drew ?_))); (case side2 => exact (Kd.R_reads' HO298.out).2.1); (case side3 => repeat (first | exact (Kd.R_reads' HO_11.out).2.2 | (with_reducible refine Kd.C_alloc ?_ _) | (with_reducible refine Kd.C_drewN ?_ _) | (with_reducible refine Kd.C_drew ?_))); (case side4 => exact (Kd.R_reads' HO_11.out).2.1); rintro e w' ⟨rfl, ⟨nd, rfl⟩⟩))
                    go_meet
                    case rel => exact ⟨_, (false), (by first | rfl | (simp; done) | (simp [*]; done)), H', ⟨by have := HJ4.out; have := HJ24.out; first | omega | exact Nat.le_refl _⟩, ⟨by (with_reducible repeat (first | apply Kd.R_alloc | apply Kd.R_drewN | apply Kd.R_drew)); exact Kd.R_mono HO_9.out (fun _ hk => hk.1.1.1.1.1)⟩, ⟨by (with_reducible repeat (first | apply Kd.R_alloc | apply Kd.R_drewN | apply Kd.R_drew)); exact Kd.R_mono HO_10.out (fun _ hk => hk.1.1.1.1.1)⟩, ⟨by repeat (first | (with_reducible first | exact HB.out | apply below_alloc | apply pw_below_drewN | apply below_drew1) | exact HB.out)⟩⟩
                · replace c74 := Bool.eq_false_iff.mpr c74
                  subst c74
                  have H1 : (taquinlaw37_PermGroup.j2 kj24 l0 l1 t252 y259 t262 x12_24 false) = some r := by rw [if_neg (show ¬ (false = true) by decide)] at H; exact H
                  clear H
                  have H := H1
                  clear H1
                  have H' := Aside0.mk H
                  clear H
                  go_wp2_with (first | ((with_reducible refine gate_callee (f := 19) rfl ?_); refine goesL_ (some 80) rfl rfl Try.func19 (by kernel_rfl) rfl #[.slice A0 l0.length c0] rfl (by (try simp only [List.map_toArray, List.map_cons, List.map_nil]); first | done | rfl | (simp only [List.length_drop, List.length_take]; rfl)) ?_; (with_reducible refine (perm_Inverse.calls kj24 _ _ l0 t286 _ ?side1 ?side2 A71.out).mono ?_); (case side1 => repeat (first | exact (Kd.C_below HR0.out HB.out) | (with_reducible refine Kd.C_alloc ?_ _) | (with_reducible refine Kd.C_drewN ?_ _) | (with_reducible refine Kd.C_drew ?_))); (case side2 => exact HC0.out); rintro e w111 ⟨v287, rfl, ho0, hb⟩; refine ⟨_, rfl, ?_⟩; have n0_ := Aside0.mk (Kd.R_elder' (by (with_reducible repeat (first | apply Kd.R_alloc | apply Kd.R_drewN | apply Kd.R_drew)); exact HO_9.out) (Kd.R_base ho0) hb); have n1_ := Aside0.mk (Kd.R_elder' (by (with_reducible repeat (first | apply Kd.R_alloc | apply Kd.R_drewN | apply Kd.R_drew)); exact HO_10.out) (Kd.R_base ho0) hb); have n2_ := Aside0.mk (Kd.R_elder' (by (with_reducible repeat (first | apply Kd.R_alloc | apply Kd.R_drewN | apply Kd.R_drew)); exact HO_11.out) (Kd.R_base ho0) hb); have n3_ := Aside0.mk (Kd.R_lower (Kd.R_new' (Kd.R_new' (Kd.R_new' ho0 (Kd.R_lt (by (with_reducible repeat (first | apply Kd.R_alloc | apply Kd.R_drewN | apply Kd.R_drew)); exact HO_9.out))) (Kd.R_lt (by (with_reducible repeat (first | apply Kd.R_alloc | apply Kd.R_drewN | apply Kd.R_drew)); exact HO_10.out))) (Kd.R_lt (by (with_reducible repeat (first | apply Kd.R_alloc | apply Kd.R_drewN | apply Kd.R_drew)); exact HO_11.out))) (below_size (by repeat (first | (with_reducible first | exact HB.out | apply below_alloc | apply pw_below_drewN | apply below_drew1) | exact HB.out)))); have n4_ := Aside0.mk (below_step (by repeat (first | (with_reducible first | exact HB.out | apply below_alloc | apply pw_below_drewN | apply below_drew1) | exact HB.out)) hb); clear HO_9; clear HO_10; clear HO_11; clear HB; have HO_9 := n0_; have HO_10 := n1_; have HO_11 := n2_; have HO288 := n3_; have HB := n4_; clear n0_ n1_ n2_ n3_ n4_; (try clear hb); (try clear hb2); (try clear hk); (try clear hi); (try clear ho0); obtain ⟨Ao112, co112, eo112⟩ := Kd.R_slice HO288.out; subst eo112) | ((with_reducible refine gate_callee (f := 18) rfl ?_); refine goesL_ (some 81) rfl rfl Try.func18 (by kernel_rfl) rfl #[.slice A0 l0.length c0, .slice Ao112 t286.length co112] rfl (by (try simp only [List.map_toArray, List.map_cons, List.map_nil]); first | done | rfl | (simp only [List.length_drop, List.length_take]; rfl)) ?_; (with_reducible refine (perm_Compose.calls kj24 _ _ l0 _ _ t286 t289 _ ?side1 ?side2 ?side3 ?side4 A72.out).mono ?_); (case side1 => repeat (first | exact (Kd.C_below HR0.out HB.out) | (with_reducible refine Kd.C_alloc ?_ _) | (with_reducible refine Kd.C_drewN ?_ _) | (with_reducible refine Kd.C_drew ?_))); (case side2 => exact HC0.out); (case side3 => repeat (first | exact (Kd.R_reads' HO288.out).2.2 | (with_reducible refine Kd.C_alloc ?_ _) | (with_reducible refine Kd.C_drewN ?_ _) | (with_reducible refine Kd.C_drew ?_))); (case side4 => exact (Kd.R_reads' HO288.out).2.1); rintro e w113 ⟨v290, rfl, ho0, hb⟩; refine ⟨_, rfl, ?_⟩; have n0_ := Aside0.mk (Kd.R_elder' (by (with_reducible repeat (first | apply Kd.R_alloc | apply Kd.R_drewN | apply Kd.R_drew)); exact HO_9.out) (Kd.R_base ho0) hb); have n1_ := Aside0.mk (Kd.R_elder' (by (with_reducible repeat (first | apply Kd.R_alloc | apply Kd.R_drewN | apply Kd.R_drew)); exact HO_10.out) (Kd.R_base ho0) hb); have n2_ := Aside0.mk (Kd.R_elder' (by (with_reducible repeat (first | apply Kd.R_alloc | apply Kd.R_drewN | apply Kd.R_drew)); exact HO_11.out) (Kd.R_base ho0) hb); have n3_ := Aside0.mk (Kd.R_elder' (by (with_reducible repeat (first | apply Kd.R_alloc | apply Kd.R_drewN | apply Kd.R_drew)); exact HO288.out) (Kd.R_base ho0) hb); have n4_ := Aside0.mk (Kd.R_lower (Kd.R_new' (Kd.R_new' (Kd.R_new' (Kd.R_new' ho0 (Kd.R_lt (by (with_reducible repeat (first | apply Kd.R_alloc | apply Kd.R_drewN | apply Kd.R_drew)); exact HO_9.out))) (Kd.R_lt (by (with_reducible repeat (first | apply Kd.R_alloc | apply Kd.R_drewN | apply Kd.R_drew)); exact HO_10.out))) (Kd.R_lt (by (with_reducible repeat (first | apply Kd.R_alloc | apply Kd.R_drewN | apply Kd.R_drew)); exact HO_11.out))) (Kd.R_lt (by (with_reducible repeat (first | apply Kd.R_alloc | apply Kd.R_drewN | apply Kd.R_drew)); exact HO288.out))) (below_size (by repeat (first | (with_reducible first | exact HB.out | apply below_alloc | apply pw_below_drewN | apply below_drew1) | exact HB.out)))); have n5_ := Aside0.mk (below_step (by repeat (first | (with_reducible first | exact HB.out | apply below_alloc | apply pw_below_drewN | apply below_drew1) | exact HB.out)) hb); clear HO_9; clear HO_10; clear HO_11; clear HO288; clear HB; have HO_9 := n0_; have HO_10 := n1_; have HO_11 := n2_; have HO288 := n3_; have HO291 := n4_; have HB := n5_; clear n0_ n1_ n2_ n3_ n4_ n5_; (try clear hb); (try clear hb2); (try clear hk); (try clear hi); (try clear ho0); obtain ⟨Ao114, co114, eo114⟩ := Kd.R_slice HO291.out; subst eo114; obtain ⟨Ao115, co115, eo115⟩ := Kd.R_slice HO_11.out; subst eo115) | ((with_reducible refine gate_callee (f := 12) rfl ?_); refine goesL_ (some 83) rfl rfl Try.func12 (by kernel_rfl) rfl #[.slice Ao114 t289.length co114, .slice Ao115 t265.length co115] rfl (by (try simp only [List.map_toArray, List.map_cons, List.map_nil]); first | done | rfl | (simp only [List.length_drop, List.length_take]; rfl)) ?_; (with_reducible refine (taquinref37_Same.calls kj24 _ _ t289 _ _ t265 false _ ?side1 ?side2 ?side3 ?side4 A73.out).mono ?_); (case side1 => repeat (first | exact (Kd.R_reads' HO291.out).2.2 | (with_reducible refine Kd.C_alloc ?_ _) | (with_reducible refine Kd.C_drewN ?_ _) | (with_reducible refine Kd.C_drew ?_))); (case side2 => exact (Kd.R_reads' HO291.out).2.1); (case side3 => repeat (first | exact (Kd.R_reads' HO_11.out).2.2 | (with_reducible refine Kd.C_alloc ?_ _) | (with_reducible refine Kd.C_drewN ?_ _) | (with_reducible refine Kd.C_drew ?_))); (case side4 => exact (Kd.R_reads' HO_11.out).2.1); rintro e w' ⟨rfl, ⟨nd, rfl⟩⟩; refine ⟨_, rfl, ?_⟩))
                  go_meet
                  case rel => exact ⟨_, (false), (by first | rfl | (simp; done) | (simp [*]; done)), H', ⟨by have := HJ4.out; have := HJ24.out; first | omega | exact Nat.le_refl _⟩, ⟨by (with_reducible repeat (first | apply Kd.R_alloc | apply Kd.R_drewN | apply Kd.R_drew)); exact Kd.R_mono HO_9.out (fun _ hk => hk.1.1.1)⟩, ⟨by (with_reducible repeat (first | apply Kd.R_alloc | apply Kd.R_drewN | apply Kd.R_drew)); exact Kd.R_mono HO_10.out (fun _ hk => hk.1.1.1)⟩, ⟨by repeat (first | (with_reducible first | exact HB.out | apply below_alloc | apply pw_below_drewN | apply below_drew1) | exact HB.out)⟩⟩
              case rest =>
                clear HC70
                try clear c1
                try clear c2
                try clear p2
                try clear c3
                try clear c5
                try clear c7
                try clear c7b0
                try clear c7b1
                try clear c8
                try clear c8b0
                try clear c8b1
                try clear c8b2
                try clear c9
                try clear c9b0
                try clear c9b1
                try clear c9b2
                try clear c11
                try clear c12
                try clear c13
                try clear c15
                try clear c18
                try clear c19
                try clear c21
                try clear c22
                try clear c35
                try clear c38
                try clear c74
                try clear c78
                try clear p2
                obtain ⟨kq, x13_69, rfl, HA, HJ69, HO_9, HO_10, HB⟩ := hcut
                cases kq with
                | zero => exact absurd HA.out (by simp [taquinlaw37_PermGroup.j2])
                | succ kj69 =>
                  have H := HA.out
                  clear HA
                  simp only [taquinlaw37_PermGroup.j2] at H
                  by_cases c116 : t252 = true
                  · subst c116
                    have H1 : (if x12_24 = true then (if x13_69 = true then ((perm_Right.f t262).bind fun t313 => (if t313 = true then ((perm_Odd.f kj69 t262).bind fun t314 => ((perm_Odd.f kj69 l0).bind fun t315 => ((perm_Odd.f kj69 l1).bind fun t316 => (if (t314 == (t315 != t316)) = true then ((taquinref37_Same.f kj69 l0 y259).bind fun t317 => (some t317)) else (some false))))) else (some false))) else (some false)) else (some false)) = some r := by rw [if_pos rfl] at H; exact H
                    clear H
                    have H := H1
                    clear H1
                    by_cases c117 : x12_24 = true
                    · subst c117
                      have H1 : (if x13_69 = true then ((perm_Right.f t262).bind fun t313 => (if t313 = true then ((perm_Odd.f kj69 t262).bind fun t314 => ((perm_Odd.f kj69 l0).bind fun t315 => ((perm_Odd.f kj69 l1).bind fun t316 => (if (t314 == (t315 != t316)) = true then ((taquinref37_Same.f kj69 l0 y259).bind fun t317 => (some t317)) else (some false))))) else (some false))) else (some false)) = some r := by rw [if_pos rfl] at H; exact H
                      clear H
                      have H := H1
                      clear H1
                      by_cases c118 : x13_69 = true
                      · subst c118
                        have H1 : ((perm_Right.f t262).bind fun t313 => (if t313 = true then ((perm_Odd.f kj69 t262).bind fun t314 => ((perm_Odd.f kj69 l0).bind fun t315 => ((perm_Odd.f kj69 l1).bind fun t316 => (if (t314 == (t315 != t316)) = true then ((taquinref37_Same.f kj69 l0 y259).bind fun t317 => (some t317)) else (some false))))) else (some false))) = some r := by rw [if_pos rfl] at H; exact H
                        clear H
                        have H := H1
                        clear H1
                        replace H := Option.bind_eq_some_iff.mp H
                        obtain ⟨t313, A1190, H⟩ := H
                        replace H : (if t313 = true then ((perm_Odd.f kj69 t262).bind fun t314 => ((perm_Odd.f kj69 l0).bind fun t315 => ((perm_Odd.f kj69 l1).bind fun t316 => (if (t314 == (t315 != t316)) = true then ((taquinref37_Same.f kj69 l0 y259).bind fun t317 => (some t317)) else (some false))))) else (some false)) = some r := H
                        have A119 := Aside0.mk A1190
                        clear A1190
                        by_cases c120 : t313 = true
                        · subst c120
                          have H1 : ((perm_Odd.f kj69 t262).bind fun t314 => ((perm_Odd.f kj69 l0).bind fun t315 => ((perm_Odd.f kj69 l1).bind fun t316 => (if (t314 == (t315 != t316)) = true then ((taquinref37_Same.f kj69 l0 y259).bind fun t317 => (some t317)) else (some false))))) = some r := by rw [if_pos rfl] at H; exact H
                          clear H
                          have H := H1
                          clear H1
                          replace H := Option.bind_eq_some_iff.mp H
                          obtain ⟨t314, A1210, H⟩ := H
                          replace H : ((perm_Odd.f kj69 l0).bind fun t315 => ((perm_Odd.f kj69 l1).bind fun t316 => (if (t314 == (t315 != t316)) = true then ((taquinref37_Same.f kj69 l0 y259).bind fun t317 => (some t317)) else (some false)))) = some r := H
                          have A121 := Aside0.mk A1210
                          clear A1210
                          replace H := Option.bind_eq_some_iff.mp H
                          obtain ⟨t315, A1220, H⟩ := H
                          replace H : ((perm_Odd.f kj69 l1).bind fun t316 => (if (t314 == (t315 != t316)) = true then ((taquinref37_Same.f kj69 l0 y259).bind fun t317 => (some t317)) else (some false))) = some r := H
                          have A122 := Aside0.mk A1220
                          clear A1220
                          replace H := Option.bind_eq_some_iff.mp H
                          obtain ⟨t316, A1230, H⟩ := H
                          replace H : (if (t314 == (t315 != t316)) = true then ((taquinref37_Same.f kj69 l0 y259).bind fun t317 => (some t317)) else (some false)) = some r := H
                          have A123 := Aside0.mk A1230
                          clear A1230
                          by_cases c124 : (t314 == (t315 != t316)) = true
                          · rw [if_pos c124] at H
                            have c124b0 : (t314 == (t315 != t316)) = true := c124
                            have c124n : (t314 == !(t315 == t316)) = true := by cases t314 <;> cases t315 <;> cases t316 <;> simp_all
                            (try (have c124b1 : decide (t314 = (t315 != t316)) = true := by simpa using c124))
                            (try (have c124b2 : (t314 == (t315 != t316)) = true := by simpa using c124))
                            clear c124
                            replace H := Option.bind_eq_some_iff.mp H
                            obtain ⟨t317, A1250, H⟩ := H
                            replace H : (some t317) = some r := H
                            have A125 := Aside0.mk A1250
                            clear A1250
                            obtain rfl := Option.some.inj H
                            obtain ⟨Ao126, co126, eo126⟩ := Kd.R_slice HO_10.out
                            subst eo126
                            go_wp2_with (first | (go_at_call 9; (with_reducible refine (perm_Right.calls _ _ t262 true _ ?side1 ?side2 A119.out).mono ?_); (case side1 => repeat (first | exact (Kd.R_reads' HO_10.out).2.2 | (with_reducible refine Kd.C_alloc ?_ _) | (with_reducible refine Kd.C_drewN ?_ _) | (with_reducible refine Kd.C_drew ?_))); (case side2 => exact (Kd.R_reads' HO_10.out).2.1); rintro e w127 ⟨rfl, hb⟩; have n0_ := Aside0.mk (Kd.R_below (by (with_reducible repeat (first | apply Kd.R_alloc | apply Kd.R_drewN | apply Kd.R_drew)); exact HO_9.out) hb); have n1_ := Aside0.mk (Kd.R_below (by (with_reducible repeat (first | apply Kd.R_alloc | apply Kd.R_drewN | apply Kd.R_drew)); exact HO_10.out) hb); have n2_ := Aside0.mk (below_step (by repeat (first | (with_reducible first | exact HB.out | apply below_alloc | apply pw_below_drewN | apply below_drew1) | exact HB.out)) hb); clear HO_9; clear HO_10; clear HB; have HO_9 := n0_; have HO_10 := n1_; have HB := n2_; clear n0_ n1_ n2_; (try clear hb); (try clear hb2); (try clear hk); (try clear hi)) | (go_at_call 17; (with_reducible refine (perm_Odd.calls kj69 _ _ t262 t314 _ ?side1 ?side2 A121.out).mono ?_); (case side1 => repeat (first | exact (Kd.R_reads' HO_10.out).2.2 | (with_reducible refine Kd.C_alloc ?_ _) | (with_reducible refine Kd.C_drewN ?_ _) | (with_reducible refine Kd.C_drew ?_))); (case side2 => exact (Kd.R_reads' HO_10.out).2.1); rintro e w128 ⟨rfl, hb⟩; have n0_ := Aside0.mk (Kd.R_below (by (with_reducible repeat (first | apply Kd.R_alloc | apply Kd.R_drewN | apply Kd.R_drew)); exact HO_9.out) hb); have n1_ := Aside0.mk (Kd.R_below (by (with_reducible repeat (first | apply Kd.R_alloc | apply Kd.R_drewN | apply Kd.R_drew)); exact HO_10.out) hb); have n2_ := Aside0.mk (below_step (by repeat (first | (with_reducible first | exact HB.out | apply below_alloc | apply pw_below_drewN | apply below_drew1) | exact HB.out)) hb); clear HO_9; clear HO_10; clear HB; have HO_9 := n0_; have HO_10 := n1_; have HB := n2_; clear n0_ n1_ n2_; (try clear hb); (try clear hb2); (try clear hk); (try clear hi)) | (go_at_call 17; (with_reducible refine (perm_Odd.calls kj69 _ _ l0 t315 _ ?side1 ?side2 A122.out).mono ?_); (case side1 => repeat (first | exact (Kd.C_below HR0.out HB.out) | (with_reducible refine Kd.C_alloc ?_ _) | (with_reducible refine Kd.C_drewN ?_ _) | (with_reducible refine Kd.C_drew ?_))); (case side2 => exact HC0.out); rintro e w129 ⟨rfl, hb⟩; have n0_ := Aside0.mk (Kd.R_below (by (with_reducible repeat (first | apply Kd.R_alloc | apply Kd.R_drewN | apply Kd.R_drew)); exact HO_9.out) hb); have n1_ := Aside0.mk (Kd.R_below (by (with_reducible repeat (first | apply Kd.R_alloc | apply Kd.R_drewN | apply Kd.R_drew)); exact HO_10.out) hb); have n2_ := Aside0.mk (below_step (by repeat (first | (with_reducible first | exact HB.out | apply below_alloc | apply pw_below_drewN | apply below_drew1) | exact HB.out)) hb); clear HO_9; clear HO_10; clear HB; have HO_9 := n0_; have HO_10 := n1_; have HB := n2_; clear n0_ n1_ n2_; (try clear hb); (try clear hb2); (try clear hk); (try clear hi)) | (go_at_call 17; (with_reducible refine (perm_Odd.calls kj69 _ _ l1 t316 _ ?side1 ?side2 A123.out).mono ?_); (case side1 => repeat (first | exact (Kd.C_below HR1.out HB.out) | (with_reducible refine Kd.C_alloc ?_ _) | (with_reducible refine Kd.C_drewN ?_ _) | (with_reducible refine Kd.C_drew ?_))); (case side2 => exact HC1.out); rintro e w130 ⟨rfl, hb⟩; have n0_ := Aside0.mk (Kd.R_below (by (with_reducible repeat (first | apply Kd.R_alloc | apply Kd.R_drewN | apply Kd.R_drew)); exact HO_9.out) hb); have n1_ := Aside0.mk (Kd.R_below (by (with_reducible repeat (first | apply Kd.R_alloc | apply Kd.R_drewN | apply Kd.R_drew)); exact HO_10.out) hb); have n2_ := Aside0.mk (below_step (by repeat (first | (with_reducible first | exact HB.out | apply below_alloc | apply pw_below_drewN | apply below_drew1) | exact HB.out)) hb); clear HO_9; clear HO_10; clear HB; have HO_9 := n0_; have HO_10 := n1_; have HB := n2_; clear n0_ n1_ n2_; (try clear hb); (try clear hb2); (try clear hk); (try clear hi); obtain ⟨Ao131, co131, eo131⟩ := Kd.R_slice HO_9.out; subst eo131) | (go_at_call 12; (with_reducible refine (taquinref37_Same.calls kj69 _ _ l0 _ _ y259 t317 _ ?side1 ?side2 ?side3 ?side4 A125.out).mono ?_); (case side1 => repeat (first | exact (Kd.C_below HR0.out HB.out) | (with_reducible refine Kd.C_alloc ?_ _) | (with_reducible refine Kd.C_drewN ?_ _) | (with_reducible refine Kd.C_drew ?_))); (case side2 => exact HC0.out); (case side3 => repeat (first | exact (Kd.R_reads' HO_9.out).2.2 | (with_reducible refine Kd.C_alloc ?_ _) | (with_reducible refine Kd.C_drewN ?_ _) | (with_reducible refine Kd.C_drew ?_))); (case side4 => exact (Kd.R_reads' HO_9.out).2.1); rintro e w' ⟨rfl, ⟨nd, rfl⟩⟩))
                            go_ret
                            exact ⟨by first | rfl | (simp [errW_none, errW_some] <;> rfl) | (simp [*, errW_none, errW_some] <;> rfl), by repeat (first | (with_reducible first | exact HB.out | apply below_alloc | apply pw_below_drewN | apply below_drew1) | exact HB.out)⟩
                          · rw [if_neg c124] at H
                            have c124b0 : (t314 == (t315 != t316)) = false := by simpa using c124
                            have c124n : (t314 == !(t315 == t316)) = false := by cases t314 <;> cases t315 <;> cases t316 <;> simp_all
                            (try (have c124b1 : decide (t314 = (t315 != t316)) = false := by simpa using c124))
                            (try (have c124b2 : (t314 == (t315 != t316)) = false := by simpa using c124))
                            (try (have c124b3 : ¬ (t314 = (t315 != t316)) := by simpa using c124))
                            clear c124
                            obtain rfl := Option.some.inj H
                            obtain ⟨Ao132, co132, eo132⟩ := Kd.R_slice HO_10.out
                            subst eo132
                            go_wp2_with (first | (go_at_call 9; (with_reducible refine (perm_Right.calls _ _ t262 true _ ?side1 ?side2 A119.out).mono ?_); (case side1 => repeat (first | exact (Kd.R_reads' HO_10.out).2.2 | (with_reducible refine Kd.C_alloc ?_ _) | (with_reducible refine Kd.C_drewN ?_ _) | (with_reducible refine Kd.C_drew ?_))); (case side2 => exact (Kd.R_reads' HO_10.out).2.1); rintro e w133 ⟨rfl, hb⟩; have n0_ := Aside0.mk (Kd.R_below (by (with_reducible repeat (first | apply Kd.R_alloc | apply Kd.R_drewN | apply Kd.R_drew)); exact HO_9.out) hb); have n1_ := Aside0.mk (Kd.R_below (by (with_reducible repeat (first | apply Kd.R_alloc | apply Kd.R_drewN | apply Kd.R_drew)); exact HO_10.out) hb); have n2_ := Aside0.mk (below_step (by repeat (first | (with_reducible first | exact HB.out | apply below_alloc | apply pw_below_drewN | apply below_drew1) | exact HB.out)) hb); clear HO_9; clear HO_10; clear HB; have HO_9 := n0_; have HO_10 := n1_; have HB := n2_; clear n0_ n1_ n2_; (try clear hb); (try clear hb2); (try clear hk); (try clear hi)) | (go_at_call 17; (with_reducible refine (perm_Odd.calls kj69 _ _ t262 t314 _ ?side1 ?side2 A121.out).mono ?_); (case side1 => repeat (first | exact (Kd.R_reads' HO_10.out).2.2 | (with_reducible refine Kd.C_alloc ?_ _) | (with_reducible refine Kd.C_drewN ?_ _) | (with_reducible refine Kd.C_drew ?_))); (case side2 => exact (Kd.R_reads' HO_10.out).2.1); rintro e w134 ⟨rfl, hb⟩; have n0_ := Aside0.mk (Kd.R_below (by (with_reducible repeat (first | apply Kd.R_alloc | apply Kd.R_drewN | apply Kd.R_drew)); exact HO_9.out) hb); have n1_ := Aside0.mk (Kd.R_below (by (with_reducible repeat (first | apply Kd.R_alloc | apply Kd.R_drewN | apply Kd.R_drew)); exact HO_10.out) hb); have n2_ := Aside0.mk (below_step (by repeat (first | (with_reducible first | exact HB.out | apply below_alloc | apply pw_below_drewN | apply below_drew1) | exact HB.out)) hb); clear HO_9; clear HO_10; clear HB; have HO_9 := n0_; have HO_10 := n1_; have HB := n2_; clear n0_ n1_ n2_; (try clear hb); (try clear hb2); (try clear hk); (try clear hi)) | (go_at_call 17; (with_reducible refine (perm_Odd.calls kj69 _ _ l0 t315 _ ?side1 ?side2 A122.out).mono ?_); (case side1 => repeat (first | exact (Kd.C_below HR0.out HB.out) | (with_reducible refine Kd.C_alloc ?_ _) | (with_reducible refine Kd.C_drewN ?_ _) | (with_reducible refine Kd.C_drew ?_))); (case side2 => exact HC0.out); rintro e w135 ⟨rfl, hb⟩; have n0_ := Aside0.mk (Kd.R_below (by (with_reducible repeat (first | apply Kd.R_alloc | apply Kd.R_drewN | apply Kd.R_drew)); exact HO_9.out) hb); have n1_ := Aside0.mk (Kd.R_below (by (with_reducible repeat (first | apply Kd.R_alloc | apply Kd.R_drewN | apply Kd.R_drew)); exact HO_10.out) hb); have n2_ := Aside0.mk (below_step (by repeat (first | (with_reducible first | exact HB.out | apply below_alloc | apply pw_below_drewN | apply below_drew1) | exact HB.out)) hb); clear HO_9; clear HO_10; clear HB; have HO_9 := n0_; have HO_10 := n1_; have HB := n2_; clear n0_ n1_ n2_; (try clear hb); (try clear hb2); (try clear hk); (try clear hi)) | (go_at_call 17; (with_reducible refine (perm_Odd.calls kj69 _ _ l1 t316 _ ?side1 ?side2 A123.out).mono ?_); (case side1 => repeat (first | exact (Kd.C_below HR1.out HB.out) | (with_reducible refine Kd.C_alloc ?_ _) | (with_reducible refine Kd.C_drewN ?_ _) | (with_reducible refine Kd.C_drew ?_))); (case side2 => exact HC1.out); rintro e w136 ⟨rfl, hb⟩; have n0_ := Aside0.mk (Kd.R_below (by (with_reducible repeat (first | apply Kd.R_alloc | apply Kd.R_drewN | apply Kd.R_drew)); exact HO_9.out) hb); have n1_ := Aside0.mk (Kd.R_below (by (with_reducible repeat (first | apply Kd.R_alloc | apply Kd.R_drewN | apply Kd.R_drew)); exact HO_10.out) hb); have n2_ := Aside0.mk (below_step (by repeat (first | (with_reducible first | exact HB.out | apply below_alloc | apply pw_below_drewN | apply below_drew1) | exact HB.out)) hb); clear HO_9; clear HO_10; clear HB; have HO_9 := n0_; have HO_10 := n1_; have HB := n2_; clear n0_ n1_ n2_; (try clear hb); (try clear hb2); (try clear hk); (try clear hi)))
                            go_ret
                            exact ⟨by first | rfl | (simp [errW_none, errW_some] <;> rfl) | (simp [*, errW_none, errW_some] <;> rfl), by repeat (first | (with_reducible first | exact HB.out | apply below_alloc | apply pw_below_drewN | apply below_drew1) | exact HB.out)⟩
                        · replace c120 := Bool.eq_false_iff.mpr c120
                          subst c120
                          have H1 : (some false) = some r := by rw [if_neg (show ¬ (false = true) by decide)] at H; exact H
                          clear H
                          have H := H1
                          clear H1
                          obtain rfl := Option.some.inj H
                          obtain ⟨Ao137, co137, eo137⟩ := Kd.R_slice HO_10.out
                          subst eo137
                          go_wp2_with (first | (go_at_call 9; (with_reducible refine (perm_Right.calls _ _ t262 false _ ?side1 ?side2 A119.out).mono ?_); (case side1 => repeat (first | exact (Kd.R_reads' HO_10.out).2.2 | (with_reducible refine Kd.C_alloc ?_ _) | (with_reducible refine Kd.C_drewN ?_ _) | (with_reducible refine Kd.C_drew ?_))); (case side2 => exact (Kd.R_reads' HO_10.out).2.1); rintro e w138 ⟨rfl, hb⟩; have n0_ := Aside0.mk (Kd.R_below (by (with_reducible repeat (first | apply Kd.R_alloc | apply Kd.R_drewN | apply Kd.R_drew)); exact HO_9.out) hb); have n1_ := Aside0.mk (Kd.R_below (by (with_reducible repeat (first | apply Kd.R_alloc | apply Kd.R_drewN | apply Kd.R_drew)); exact HO_10.out) hb); have n2_ := Aside0.mk (below_step (by repeat (first | (with_reducible first | exact HB.out | apply below_alloc | apply pw_below_drewN | apply below_drew1) | exact HB.out)) hb); clear HO_9; clear HO_10; clear HB; have HO_9 := n0_; have HO_10 := n1_; have HB := n2_; clear n0_ n1_ n2_; (try clear hb); (try clear hb2); (try clear hk); (try clear hi)))
                          go_ret
                          exact ⟨by first | rfl | (simp [errW_none, errW_some] <;> rfl) | (simp [*, errW_none, errW_some] <;> rfl), by repeat (first | (with_reducible first | exact HB.out | apply below_alloc | apply pw_below_drewN | apply below_drew1) | exact HB.out)⟩
                      · replace c118 := Bool.eq_false_iff.mpr c118
                        subst c118
                        have H1 : (some false) = some r := by rw [if_neg (show ¬ (false = true) by decide)] at H; exact H
                        clear H
                        have H := H1
                        clear H1
                        obtain rfl := Option.some.inj H
                        go_wp2
                        go_ret
                        exact ⟨by first | rfl | (simp [errW_none, errW_some] <;> rfl) | (simp [*, errW_none, errW_some] <;> rfl), by repeat (first | (with_reducible first | exact HB.out | apply below_alloc | apply pw_below_drewN | apply below_drew1) | exact HB.out)⟩
                    · replace c117 := Bool.eq_false_iff.mpr c117
                      subst c117
                      have H1 : (some false) = some r := by rw [if_neg (show ¬ (false = true) by decide)] at H; exact H
                      clear H
                      have H := H1
                      clear H1
                      obtain rfl := Option.some.inj H
                      go_wp2
                      go_ret
                      exact ⟨by first | rfl | (simp [errW_none, errW_some] <;> rfl) | (simp [*, errW_none, errW_some] <;> rfl), by repeat (first | (with_reducible first | exact HB.out | apply below_alloc | apply pw_below_drewN | apply below_drew1) | exact HB.out)⟩
                  · replace c116 := Bool.eq_false_iff.mpr c116
                    subst c116
                    have H1 : (some false) = some r := by rw [if_neg (show ¬ (false = true) by decide)] at H; exact H
                    clear H
                    have H := H1
                    clear H1
                    obtain rfl := Option.some.inj H
                    go_wp2
                    go_ret
                    exact ⟨by first | rfl | (simp [errW_none, errW_some] <;> rfl) | (simp [*, errW_none, errW_some] <;> rfl), by repeat (first | (with_reducible first | exact HB.out | apply below_alloc | apply pw_below_drewN | apply below_drew1) | exact HB.out)⟩
        · rw [if_neg c22] at H
          exact absurd H (by simp)
def taquinlaw37_PermGroup.Pure : Prop := ∀ (l0 : List Int) (l1 : List Int) (l2 : List Int), l0.length ≤ maxLen → l0.length * 8 ≤ 140737488351232 → (∀ x ∈ l0, (Lit.int .i64 x).wf = true) → l1.length ≤ maxLen → l1.length * 8 ≤ 140737488351232 → (∀ x ∈ l1, (Lit.int .i64 x).wf = true) → l2.length ≤ maxLen → l2.length * 8 ≤ 140737488351232 → (∀ x ∈ l2, (Lit.int .i64 x).wf = true) → ∃ k, taquinlaw37_PermGroup.f k l0 l1 l2 = some true
theorem taquinlaw37_PermGroup.walk (P : taquinlaw37_PermGroup.Pure) (a0 : Option Addr) (len0 cap0 : Nat) (z0 : List Int) (a1 : Option Addr) (len1 cap1 : Nat) (z1 : List Int) (a2 : Option Addr) (len2 cap2 : Nat) (z2 : List Int) (w : World) (w0 : (a0 = none ∧ len0 = 0 ∧ cap0 = 0 ∧ z0 = []) ∨ ∃ x, a0 = some x ∧ len0 ≤ cap0 ∧ cap0 ≤ maxLen ∧ z0.length = cap0 ∧ (∀ i, i < z0.length → w.cell? (x.add i) = some (.int .i64 (z0.getD i 0))) ∧ ∀ n ∈ z0, (Lit.int .i64 n).wf = true) (y0 : len0 * 8 ≤ 140737488351232) (w1 : (a1 = none ∧ len1 = 0 ∧ cap1 = 0 ∧ z1 = []) ∨ ∃ x, a1 = some x ∧ len1 ≤ cap1 ∧ cap1 ≤ maxLen ∧ z1.length = cap1 ∧ (∀ i, i < z1.length → w.cell? (x.add i) = some (.int .i64 (z1.getD i 0))) ∧ ∀ n ∈ z1, (Lit.int .i64 n).wf = true) (y1 : len1 * 8 ≤ 140737488351232) (w2 : (a2 = none ∧ len2 = 0 ∧ cap2 = 0 ∧ z2 = []) ∨ ∃ x, a2 = some x ∧ len2 ≤ cap2 ∧ cap2 ≤ maxLen ∧ z2.length = cap2 ∧ (∀ i, i < z2.length → w.cell? (x.add i) = some (.int .i64 (z2.getD i 0))) ∧ ∀ n ∈ z2, (Lit.int .i64 n).wf = true) (y2 : len2 * 8 ≤ 140737488351232) :
    Calls Try.prog 5 #[.slice a0 len0 cap0, .slice a1 len1 cap1, .slice a2 len2 cap2] w fun e w' => e = .returned (.bool true) ∧ Below w.heap.size w w' := by
  obtain ⟨l0, rfl, hr0, hm0, hw0, hc0⟩ := ReadsInt.ofRowC w0
  obtain ⟨l1, rfl, hr1, hm1, hw1, hc1⟩ := ReadsInt.ofRowC w1
  obtain ⟨l2, rfl, hr2, hm2, hw2, hc2⟩ := ReadsInt.ofRowC w2
  obtain ⟨k, h⟩ := P l0 l1 l2 hm0 y0 hw0 hm1 y1 hw1 hm2 y2 hw2
  refine (taquinlaw37_PermGroup.calls k _ _ l0 _ _ l1 _ _ l2 true w (Kd.C_of_reads (d := (0 : Int)) (h1 := fun _ => rfl) hr0) hc0 (Kd.C_of_reads (d := (0 : Int)) (h1 := fun _ => rfl) hr1) hc1 (Kd.C_of_reads (d := (0 : Int)) (h1 := fun _ => rfl) hr2) hc2 h).mono ?_
  rintro e w' ⟨rfl, hd⟩
  exact ⟨rfl, hd⟩
end Go.Proofs.Ytmhmlknfcdodlaa.B
end
section
namespace Go.Proofs.Ytmhmlknfcdodlaa.P
set_option linter.unusedVariables false
set_option linter.unusedSimpArgs false
open Go.RowKit Go.Proofs.YtmhmlknfcdodlaaW.PrintWords Go.Proofs.YtmhmlknfcdodlaaW.PrintLast Go.Proofs.YtmhmlknfcdodlaaW.PrintMore
open Go.Proofs.Ytmhmlknfcdodlaa.A Go.Proofs.Ytmhmlknfcdodlaa.H
abbrev Srt (l : List Int) : Prop := l.Pairwise (· < ·)
theorem idL_srt (n : Nat) : Srt (idL n) := by
  unfold idL
  rw [Srt, List.pairwise_map]
  exact List.Pairwise.imp (fun h => by omega) List.pairwise_lt_range
theorem idL_mem {n : Nat} {x : Int} : x ∈ idL n ↔ 0 ≤ x ∧ x < n := by
  unfold idL
  rw [List.mem_map]
  constructor
  · rintro ⟨c, hc, rfl⟩
    have := List.mem_range.1 hc
    omega
  · intro h
    exact ⟨x.toNat, List.mem_range.2 (by omega), by omega⟩
theorem srt_eq : ∀ {a b : List Int}, Srt a → Srt b → a.Perm b → a = b
  | [], b, _, _, h => (List.nil_perm.1 h).symm ▸ rfl
  | x :: a, b, ha, hb, h => by
    obtain ⟨y, b, rfl⟩ : ∃ y t, b = y :: t := by
      cases b with
      | nil => exact absurd h.length_eq (by simp)
      | cons y t => exact ⟨y, t, rfl⟩
    have ha' := List.pairwise_cons.1 ha
    have hb' := List.pairwise_cons.1 hb
    have e : x = y := by
      have h1 : x ∈ y :: b := h.mem_iff.1 (List.mem_cons_self ..)
      have h2 : y ∈ x :: a := h.mem_iff.2 (List.mem_cons_self ..)
      rcases List.mem_cons.1 h1 with e | h1
      · exact e
      · rcases List.mem_cons.1 h2 with e | h2
        · exact e.symm
        · have := hb'.1 x h1
          have := ha'.1 y h2
          omega
    subst e
    rw [srt_eq ha'.2 hb'.2 (List.perm_cons x |>.1 h)]
theorem isPerm_iff {l : List Int} : isPerm l = true ↔ l.Perm (idL l.length) := by
  unfold isPerm sortL
  rw [decide_eq_true_eq]
  have hp : (l.mergeSort fun x y => decide (x ≤ y)).Perm l := List.mergeSort_perm l _
  constructor
  · intro h
    rw [h] at hp
    exact hp.symm
  · intro h
    have h1 := hp.trans h
    have h2 : (l.mergeSort fun x y => decide (x ≤ y)).Pairwise (fun x y => (decide (x ≤ y)) = true) := List.pairwise_mergeSort (by intro a b c h1 h2; simp at *; omega) (by intro a b; simp; omega) l
    have hnd : (l.mergeSort fun x y => decide (x ≤ y)).Nodup := h1.symm.nodup (List.Pairwise.imp (fun h => by omega) (idL_srt l.length))
    have hs : Srt (l.mergeSort fun x y => decide (x ≤ y)) := List.Pairwise.imp₂ (fun a b h1 h2 => by simp at h1; omega) h2 hnd
    exact srt_eq hs (idL_srt _) h1
structure Pm (l : List Int) : Prop where
  nd : l.Nodup
  mem : ∀ x, x ∈ l ↔ 0 ≤ x ∧ x < l.length
theorem isPerm_pm {l : List Int} (h : isPerm l = true) : Pm l := by
  have h := isPerm_iff.1 h
  refine ⟨h.symm.nodup (List.Pairwise.imp (fun h => by omega) (idL_srt l.length)), fun x => ?_⟩
  rw [h.mem_iff, idL_mem]
def lessL (x : Int) (l : List Int) : Nat := l.countP (fun y => decide (y < x))
theorem less_perm {a b : List Int} (h : a.Perm b) (x : Int) : lessL x a = lessL x b := h.countP_eq _
end Go.Proofs.Ytmhmlknfcdodlaa.P
end
section
namespace Go.Proofs.Ytmhmlknfcdodlaa.B
open Go.Proofs.Ytmhmlknfcdodlaa.A
open Go.Proofs.Ytmhmlknfcdodlaa.H
open Go.RowKit Go.Proofs.YtmhmlknfcdodlaaW.PrintWords Go.Proofs.YtmhmlknfcdodlaaW.PrintLast Go.Proofs.YtmhmlknfcdodlaaW.PrintMore
attribute [local go_sem] max2_int min2_int max_two min_two max_three min_three max_four min_four   -- for this text's walks alone
set_option linter.unusedVariables false
set_option linter.unusedSimpArgs false
end Go.Proofs.Ytmhmlknfcdodlaa.B
end
section
namespace Go.Proofs.Ytmhmlknfcdodlaa.P
set_option linter.unusedVariables false
set_option linter.unusedSimpArgs false
open Go.RowKit Go.Proofs.YtmhmlknfcdodlaaW.PrintWords Go.Proofs.YtmhmlknfcdodlaaW.PrintLast Go.Proofs.YtmhmlknfcdodlaaW.PrintMore
open Go.Proofs.Ytmhmlknfcdodlaa.A Go.Proofs.Ytmhmlknfcdodlaa.H Go.Proofs.Ytmhmlknfcdodlaa.B
theorem wup {i : Nat} (h : i ≤ 1000000000) : wrap64 ((i : Int) + 1) = ((i + 1 : Nat) : Int) := by rw [wsm _ (by omega) (by omega)]; rfl
theorem right_said {l : List Int} (h : l.length ≤ 17592186043904) : perm_Right.f l = some (isPerm l) := by unfold perm_Right.f; rw [if_pos h]
theorem getD_at {l : List Int} {i : Nat} (h : i < l.length) : l.getD i 0 = l[i] := by rw [List.getD_eq_getElem?_getD, List.getElem?_eq_getElem h]; rfl
theorem same_loop (a b : List Int) (hl : a.length ≤ 1000000) (hab : a.length = b.length) : ∀ (m i k : Nat), i + m = a.length → m + 1 ≤ k →
    taquinref37_Same.l0 k a b (i : Int) = some (decide (a.drop i = b.drop i)) := by
  intro m
  induction m with
  | zero =>
    intro i k hi hk
    obtain ⟨k, rfl⟩ : ∃ q, k = q + 1 := ⟨k - 1, by omega⟩
    rw [taquinref37_Same.l0, if_neg (by omega), List.drop_eq_nil_of_le (by omega), List.drop_eq_nil_of_le (by omega)]
    simp
  | succ m ih =>
    intro i k hi hk
    obtain ⟨k, rfl⟩ : ∃ q, k = q + 1 := ⟨k - 1, by omega⟩
    have HUP : Hid (wrap64 ((i : Int) + 1) = ((i + 1 : Nat) : Int)) := Lib.hid (wup (by omega))
    have h1 := ih (i + 1) k (by omega) (by omega)
    have ha : i < a.length := by omega
    have hb : i < b.length := by omega
    rw [taquinref37_Same.l0, if_pos (by omega), if_pos (by omega), if_pos (by omega), rd_nat, rd_nat, HUP.out, h1, List.drop_eq_getElem_cons ha, List.drop_eq_getElem_cons hb, getD_at ha, getD_at hb]
    by_cases e : a[i] = b[i]
    · rw [if_pos e]
      congr 1
      exact decide_eq_decide.2 ⟨fun h => by rw [e, h], fun h => (List.cons.inj h).2⟩
    · rw [if_neg e]
      congr 1
      exact (decide_eq_false (fun h => e (List.cons.inj h).1)).symm
theorem same_said (a b : List Int) (hl : a.length ≤ 1000000) (k : Nat) (hk : a.length + 1 ≤ k) : taquinref37_Same.f k a b = some (decide (a = b)) := by
  unfold taquinref37_Same.f
  by_cases h : a.length = b.length
  · have := same_loop a b hl h a.length 0 k (by omega) hk
    rw [if_pos (by omega)]
    exact this
  · rw [if_neg (by omega)]
    congr 1
    exact (decide_eq_false (fun e => h (by rw [e]))).symm
end Go.Proofs.Ytmhmlknfcdodlaa.P
end
section
namespace Go.Proofs.Ytmhmlknfcdodlaa.P
set_option linter.unusedVariables false
set_option linter.unusedSimpArgs false
open Go.RowKit Go.Proofs.YtmhmlknfcdodlaaW.PrintWords Go.Proofs.YtmhmlknfcdodlaaW.PrintLast Go.Proofs.YtmhmlknfcdodlaaW.PrintMore
open Go.Proofs.Ytmhmlknfcdodlaa.A Go.Proofs.Ytmhmlknfcdodlaa.H Go.Proofs.Ytmhmlknfcdodlaa.B
theorem perm_of_dec {l : List Int} (h : (l.isPerm (idL l.length)) = true) : isPerm l = true := isPerm_iff.2 (List.isPerm_iff.1 h)
theorem ex1 : perm_Right.f [1, 2, 0] = some true := by rw [right_said (by decide), perm_of_dec (by decide)]
theorem ex2 : perm_Right.f [0, 2, 1] = some true := by rw [right_said (by decide), perm_of_dec (by decide)]
theorem ex3 : perm_Right.f [2, 0, 1] = some true := by rw [right_said (by decide), perm_of_dec (by decide)]
theorem ex4 : perm_Right.f [1, 0, 2, 4, 3] = some true := by rw [right_said (by decide), perm_of_dec (by decide)]
theorem small_at (k : Nat) (hk : 100 ≤ k) : taquinlaw37_small.f k = some true := by
  have h1 : taquinlaw37_small.f 100 = some true := by
    have e1 : perm_Compose.f 100 [1, 2, 0] [0, 2, 1] = some [1, 0, 2] := by
      unfold perm_Compose.f
      rw [ex1, ex2]
      decide +kernel
    have e2 : perm_Rank.f 100 [2, 0, 1] = some 4 := by
      unfold perm_Rank.f
      rw [ex3]
      decide +kernel
    have e3 : perm_Cycles.f 100 [1, 0, 2, 4, 3] = some [[0, 1], [3, 4]] := by
      unfold perm_Cycles.f
      rw [ex4]
      decide +kernel
    unfold taquinlaw37_small.f
    rw [e1, e2, e3]
    decide +kernel
  exact at_rounds (g := fun k => taquinlaw37_small.f k) taquinlaw37_small.mono hk h1
end Go.Proofs.Ytmhmlknfcdodlaa.P
end
section
namespace Go.Proofs.Ytmhmlknfcdodlaa.P
set_option linter.unusedVariables false
set_option linter.unusedSimpArgs false
open Go.RowKit Go.Proofs.Ytmhmlknfcdodlaa.H
def oddN (n : Nat) : Bool := decide (n % 2 = 1)
theorem oddN_succ (n : Nat) : oddN (n + 1) = !oddN n := by
  unfold oddN
  by_cases h : n % 2 = 1
  · rw [decide_eq_true h, decide_eq_false (by omega)]
    rfl
  · rw [decide_eq_false h, decide_eq_true (by omega)]
    rfl
theorem oddN_add (a b : Nat) : oddN (a + b) = (oddN a != oddN b) := by
  induction b with
  | zero => simp [oddN]
  | succ b ih =>
    rw [← Nat.add_assoc, oddN_succ, ih, oddN_succ]
    cases oddN a <;> cases oddN b <;> rfl
def invB : List Int → Bool
  | [] => false
  | x :: l => oddN (lessL x l) != invB l
theorem lessL_cons (x y : Int) (l : List Int) : lessL x (y :: l) = (if y < x then 1 else 0) + lessL x l := by
  unfold lessL
  by_cases h : y < x
  · rw [List.countP_cons_of_pos (by simpa using h), if_pos h, Nat.add_comm]
  · rw [List.countP_cons_of_neg (by simpa using h), if_neg h, Nat.zero_add]
theorem inv_adj {x y : Int} (h : x ≠ y) (l : List Int) : invB (y :: x :: l) = !invB (x :: y :: l) := by
  unfold invB
  unfold invB
  rw [lessL_cons, lessL_cons, oddN_add, oddN_add]
  by_cases hxy : x < y
  · rw [if_pos hxy, if_neg (by omega)]
    generalize oddN (lessL x l) = a
    generalize oddN (lessL y l) = b
    generalize invB l = c
    cases a <;> cases b <;> cases c <;> rfl
  · rw [if_neg hxy, if_pos (by omega)]
    generalize oddN (lessL x l) = a
    generalize oddN (lessL y l) = b
    generalize invB l = c
    cases a <;> cases b <;> cases c <;> rfl
theorem set_perm : ∀ (l : List Int) (b : Nat) (x : Int), b < l.length → (l.getD b 0 :: l.set b x).Perm (x :: l)
  | [], b, x, h => by simp at h
  | y :: l, 0, x, _ => List.Perm.swap _ _ _
  | y :: l, b + 1, x, h => by
    have ih := set_perm l b x (by simpa using h)
    show (l.getD b 0 :: y :: l.set b x).Perm (x :: y :: l)
    exact (List.Perm.swap _ _ _).trans ((List.Perm.cons y ih).trans (List.Perm.swap _ _ _))
theorem inv_head : ∀ (l : List Int) (b : Nat) (x : Int), b < l.length → (x :: l).Nodup → invB (l.getD b 0 :: l.set b x) = !invB (x :: l)
  | [], b, x, h, _ => by simp at h
  | y :: l, 0, x, _, hn => by
    have : x ≠ y := fun e => by
      rw [List.nodup_cons] at hn
      exact hn.1 (e ▸ List.mem_cons_self ..)
    exact inv_adj this l
  | z :: l, b + 1, x, h, hn => by
    have hb : b < l.length := by simpa using h
    rw [List.nodup_cons, List.nodup_cons] at hn
    obtain ⟨h1, h2, h3⟩ := hn
    have hx : x ∉ l := fun hm => h1 (List.mem_cons_of_mem _ hm)
    have hxz : x ≠ z := fun e => h1 (e ▸ List.mem_cons_self ..)
    have ih := inv_head l b x hb (List.nodup_cons.2 ⟨hx, h3⟩)
    have hm : l.getD b 0 ∈ l := by
      rw [List.getD_eq_getElem?_getD, List.getElem?_eq_getElem hb]
      exact List.getElem_mem hb
    have hz : z ≠ l.getD b 0 := fun e => h2 (e ▸ hm)
    have hp := set_perm l b x hb
    show invB (l.getD b 0 :: z :: l.set b x) = !invB (x :: z :: l)
    rw [inv_adj hz, inv_adj (fun e => hxz e.symm : z ≠ x)]
    rw [show invB (z :: l.getD b 0 :: l.set b x) = (oddN (lessL z (l.getD b 0 :: l.set b x)) != invB (l.getD b 0 :: l.set b x)) from rfl, show invB (z :: x :: l) = (oddN (lessL z (x :: l)) != invB (x :: l)) from rfl, less_perm hp, ih]
    generalize oddN (lessL z (x :: l)) = a
    generalize invB (x :: l) = c
    cases a <;> cases c <;> rfl
def swpL (l : List Int) (a b : Nat) : List Int := (l.set a (l.getD b 0)).set b (l.getD a 0)
theorem swp_perm : ∀ (l : List Int) (a b : Nat), a < b → b < l.length → (swpL l a b).Perm l
  | [], a, b, _, h => by simp at h
  | x :: l, 0, b + 1, _, h => set_perm l b x (by simpa using h)
  | x :: l, a + 1, b + 1, hab, h => List.Perm.cons x (swp_perm l a b (by omega) (by simpa using h))
  | x :: l, a, 0, hab, _ => by omega
theorem inv_swp_lt : ∀ (l : List Int) (a b : Nat), l.Nodup → a < b → b < l.length → invB (swpL l a b) = !invB l
  | [], a, b, _, _, h => by simp at h
  | x :: l, 0, b + 1, hn, _, h => inv_head l b x (by simpa using h) hn
  | x :: l, a + 1, b + 1, hn, hab, h => by
    have hb : b < l.length := by simpa using h
    have ih := inv_swp_lt l a b (List.nodup_cons.1 hn).2 (by omega) hb
    have hp := swp_perm l a b (by omega) hb
    show (oddN (lessL x (swpL l a b)) != invB (swpL l a b)) = !(oddN (lessL x l) != invB l)
    rw [less_perm hp, ih]
    generalize oddN (lessL x l) = p
    generalize invB l = q
    cases p <;> cases q <;> rfl
  | x :: l, a, 0, _, hab, _ => by omega
theorem swp_comm (l : List Int) {a b : Nat} (h : a ≠ b) : swpL l a b = swpL l b a := by
  unfold swpL
  exact List.set_comm _ _ h
theorem inv_swp {l : List Int} {a b : Nat} (hn : l.Nodup) (ha : a < l.length) (hb : b < l.length) (h : a ≠ b) : invB (swpL l a b) = !invB l := by
  by_cases hab : a < b
  · exact inv_swp_lt l a b hn hab hb
  · rw [swp_comm l h]
    exact inv_swp_lt l b a hn (by omega) ha
theorem swp_len (l : List Int) (a b : Nat) : (swpL l a b).length = l.length := by simp [swpL]
theorem swp_at {l : List Int} {a b i : Nat} (ha : a < l.length) (hb : b < l.length) : (swpL l a b).getD i 0 = if i = b then l.getD a 0 else if i = a then l.getD b 0 else l.getD i 0 := by
  unfold swpL
  rw [List.getD_eq_getElem?_getD, List.getElem?_set, List.length_set, List.getElem?_set]
  by_cases h1 : b = i
  · rw [if_pos h1, if_pos h1.symm, if_pos hb]
    rfl
  · rw [if_neg h1]
    by_cases h2 : a = i
    · rw [if_pos h2, if_pos ha, if_neg (fun e => h1 e.symm), if_pos h2.symm]
      rfl
    · rw [if_neg h2, if_neg (fun e => h1 e.symm), if_neg (fun e => h2 e.symm), List.getD_eq_getElem?_getD]
theorem swp_perm' {l : List Int} {a b : Nat} (ha : a < l.length) (hb : b < l.length) (h : a ≠ b) : (swpL l a b).Perm l := by
  by_cases hab : a < b
  · exact swp_perm l a b hab hb
  · rw [swp_comm l h]
    exact swp_perm l b a (by omega) ha
theorem inv_srt : ∀ {l : List Int}, Srt l → invB l = false
  | [], _ => rfl
  | x :: l, h => by
    have h' := List.pairwise_cons.1 h
    have h0 : lessL x l = 0 := by
      unfold lessL
      rw [List.countP_eq_zero]
      intro y hy
      have := h'.1 y hy
      simp
      omega
    show (oddN (lessL x l) != invB l) = false
    rw [h0, inv_srt h'.2]
    rfl
theorem inv_id (n : Nat) : invB (idL n) = false := inv_srt (idL_srt n)
end Go.Proofs.Ytmhmlknfcdodlaa.P
end
section
namespace Go.Proofs.Ytmhmlknfcdodlaa.P
set_option linter.unusedVariables false
set_option linter.unusedSimpArgs false
open Go.RowKit Go.Proofs.Ytmhmlknfcdodlaa.H
def swC : List Int → List Int → List Int
  | x, [] => x
  | x, [_] => x
  | x, a :: b :: r => swC (swpL x a.toNat b.toNat) (b :: r)
def av (x : List Int) (i : Int) : Int := x.getD i.toNat 0
theorem av_swp {x : List Int} {a b y : Int} (ha : 0 ≤ a ∧ a < x.length) (hb : 0 ≤ b ∧ b < x.length) (hy : 0 ≤ y) : av (swpL x a.toNat b.toNat) y = if y = b then av x a else if y = a then av x b else av x y := by
  unfold av
  rw [swp_at (by omega) (by omega)]
  by_cases h : y = b
  · rw [if_pos h, if_pos (by rw [h])]
  · rw [if_neg h, if_neg (by omega)]
    by_cases h2 : y = a
    · rw [if_pos h2, if_pos (by rw [h2])]
    · rw [if_neg h2, if_neg (by omega)]
theorem swC_said : ∀ (r : List Int) (x : List Int) (a h : Int), x.Nodup → (a :: r).Nodup → (∀ y, y ∈ a :: r → 0 ≤ y ∧ y < x.length) → av x a = h → (∀ y, y ∈ r → av x y = y) →
    (swC x (a :: r)).Perm x ∧ (∀ y, 0 ≤ y → y ∉ a :: r → av (swC x (a :: r)) y = av x y) ∧
    (∀ i, i < (a :: r).length → av (swC x (a :: r)) ((a :: r).getD i 0) = if i + 1 < (a :: r).length then (a :: r).getD (i + 1) 0 else h) ∧ invB (swC x (a :: r)) = (invB x != oddN r.length)
  | [], x, a, h, hn, _, _, ha, _ => by
    refine ⟨List.Perm.refl _, fun y _ _ => rfl, fun i hi => ?_, ?_⟩
    · have : i = 0 := by simpa using hi
      subst this
      exact ha
    · show invB x = _
      simp [oddN]
  | b :: r, x, a, h, hn, hc, hr, ha, hid => by
    have hra := hr a (List.mem_cons_self ..)
    have hrb := hr b (List.mem_cons_of_mem _ (List.mem_cons_self ..))
    have hc' := List.nodup_cons.1 hc
    have hab : a ≠ b := fun e => hc'.1 (e ▸ List.mem_cons_self ..)
    have hp : (swpL x a.toNat b.toNat).Perm x := swp_perm' (by omega) (by omega) (by omega)
    have hlen : (swpL x a.toNat b.toNat).length = x.length := swp_len _ _ _
    have hb' := List.nodup_cons.1 hc'.2
    obtain ⟨i1, i2, i3, i4⟩ := swC_said r (swpL x a.toNat b.toNat) b h (hp.nodup_iff.2 hn) hc'.2 (fun y hy => by rw [hlen]; exact hr y (List.mem_cons_of_mem _ hy))
      (by rw [av_swp hra hrb hrb.1, if_pos rfl, ha])
      (fun y hy => by
        have hry := hr y (List.mem_cons_of_mem _ (List.mem_cons_of_mem _ hy))
        rw [av_swp hra hrb hry.1, if_neg (fun e : y = b => hb'.1 (e ▸ hy)), if_neg (fun e : y = a => hc'.1 (e ▸ List.mem_cons_of_mem _ hy))]
        exact hid y (List.mem_cons_of_mem _ hy))
    refine ⟨i1.trans hp, fun y h0 hy => ?_, fun i hi => ?_, ?_⟩
    · show av (swC (swpL x a.toNat b.toNat) (b :: r)) y = _
      rw [i2 y h0 (fun hm => hy (List.mem_cons_of_mem _ hm)), av_swp hra hrb h0, if_neg (fun e : y = b => hy (e ▸ List.mem_cons_of_mem _ (List.mem_cons_self ..))), if_neg (fun e : y = a => hy (e ▸ List.mem_cons_self ..))]
    · show av (swC (swpL x a.toNat b.toNat) (b :: r)) _ = _
      cases i with
      | zero =>
        show av (swC (swpL x a.toNat b.toNat) (b :: r)) a = _
        rw [i2 a hra.1 hc'.1, av_swp hra hrb hra.1, if_neg hab, if_pos rfl, if_pos (by simp), hid b (List.mem_cons_self ..)]
        rfl
      | succ i =>
        have := i3 i (by simpa using hi)
        simp only [List.getD_cons_succ]
        rw [this]
        simp
    · show invB (swC (swpL x a.toNat b.toNat) (b :: r)) = _
      rw [i4, inv_swp hn (by omega) (by omega) (by omega), List.length_cons, oddN_succ]
      cases invB x <;> cases oddN r.length <;> rfl
structure Cy (p : List Int) (c : List Int) : Prop where
  two : 2 ≤ c.length
  le : c.length ≤ p.length
  rng : ∀ y, y ∈ c → 0 ≤ y ∧ y < p.length ∧ c.getD 0 0 ≤ y
  nd : c.Nodup
  fol : ∀ i, i < c.length → av p (c.getD i 0) = c.getD ((i + 1) % c.length) 0
theorem swC_cy {p c x : List Int} (h : Cy p c) (hx : x.Nodup) (hl : x.length = p.length) (hid : ∀ y, y ∈ c → av x y = y) :
    (swC x c).Perm x ∧ (∀ y, 0 ≤ y → y ∉ c → av (swC x c) y = av x y) ∧ (∀ y, y ∈ c → av (swC x c) y = av p y) ∧ invB (swC x c) = (invB x != oddN (c.length - 1)) := by
  cases c with
  | nil => have := h.two; simp at this
  | cons a r =>
    obtain ⟨h1, h2, h3, h4⟩ := swC_said r x a a hx h.nd (fun y hy => by have := h.rng y hy; omega) (hid a (List.mem_cons_self ..)) (fun y hy => hid y (List.mem_cons_of_mem _ hy))
    refine ⟨h1, h2, fun y hy => ?_, h4⟩
    obtain ⟨i, hi, rfl⟩ := List.getElem_of_mem hy
    have e : (a :: r).getD i 0 = (a :: r)[i] := by rw [List.getD_eq_getElem?_getD, List.getElem?_eq_getElem hi]; rfl
    have e1 := h3 i hi
    have e2 := h.fol i hi
    rw [e] at e1 e2
    rw [e1, e2]
    by_cases hl : i + 1 < (a :: r).length
    · rw [if_pos hl, Nat.mod_eq_of_lt hl]
    · rw [if_neg hl, show i + 1 = (a :: r).length from by omega, Nat.mod_self]
      rfl
def parL : List (List Int) → Bool
  | [] => false
  | c :: L => oddN (c.length - 1) != parL L
theorem av_ext {x p : List Int} (hl : x.length = p.length) (h : ∀ y : Int, 0 ≤ y → y < p.length → av x y = av p y) : x = p := by
  apply List.ext_getElem hl
  intro i h1 h2
  have := h (i : Int) (by omega) (by omega)
  unfold av at this
  rw [Int.toNat_natCast, List.getD_eq_getElem?_getD, List.getD_eq_getElem?_getD, List.getElem?_eq_getElem h1, List.getElem?_eq_getElem h2] at this
  exact this
theorem swF_said {p : List Int} : ∀ (L : List (List Int)) (x : List Int), (∀ c, c ∈ L → Cy p c) → L.flatten.Nodup → x.Nodup → x.length = p.length → (∀ y, y ∈ L.flatten → av x y = y) →
    (∀ y : Int, 0 ≤ y → y < p.length → y ∉ L.flatten → av x y = av p y) → L.foldl swC x = p ∧ invB p = (invB x != parL L)
  | [], x, _, _, _, hl, _, hf => by
    have : x = p := av_ext hl (fun y h0 h1 => hf y h0 h1 (by simp))
    subst this
    refine ⟨rfl, ?_⟩
    cases invB x <;> rfl
  | c :: L, x, hC, hN, hx, hl, hi, hf => by
    rw [List.flatten_cons, List.nodup_append] at hN
    obtain ⟨n1, n2, n3⟩ := hN
    have hcy := hC c (List.mem_cons_self ..)
    obtain ⟨h1, h2, h3, h4⟩ := swC_cy hcy hx hl (fun y hy => hi y (by rw [List.flatten_cons]; exact List.mem_append_left _ hy))
    have h0 : ∀ y, y ∈ L.flatten → 0 ≤ y := fun y hy => by
      obtain ⟨d, hd, hy⟩ := List.mem_flatten.1 hy
      exact ((hC d (List.mem_cons_of_mem _ hd)).rng y hy).1
    have hx' : (swC x c).length = p.length := by rw [h1.length_eq, hl]
    obtain ⟨i1, i2⟩ := swF_said L (swC x c) (fun d hd => hC d (List.mem_cons_of_mem _ hd)) n2 (h1.nodup_iff.2 hx) hx'
      (fun y hy => by
        rw [h2 y (h0 y hy) (fun hm => n3 y hm y hy rfl)]
        exact hi y (by rw [List.flatten_cons]; exact List.mem_append_right _ hy))
      (fun y hy0 hy1 hy => by
        by_cases hm : y ∈ c
        · exact h3 y hm
        · rw [h2 y hy0 hm]
          exact hf y hy0 hy1 (by rw [List.flatten_cons, List.mem_append]; exact fun h => h.elim hm hy))
    refine ⟨i1, ?_⟩
    rw [i2, h4]
    show _ = (invB x != (oddN (c.length - 1) != parL L))
    generalize oddN (c.length - 1) = o
    generalize parL L = q
    cases invB x <;> cases o <;> cases q <;> rfl
structure CyL (p : List Int) (L : List (List Int)) : Prop where
  cy : ∀ c, c ∈ L → Cy p c
  asc : L.Pairwise (fun c d => c.getD 0 0 < d.getD 0 0)
  nd : L.flatten.Nodup
  fix : ∀ y : Int, 0 ≤ y → y < p.length → y ∉ L.flatten → av p y = y
theorem av_id {n : Nat} {y : Int} (h0 : 0 ≤ y) (h1 : y < n) : av (idL n) y = y := by
  unfold av
  have hl := idL_len n
  rw [List.getD_eq_getElem?_getD, List.getElem?_eq_getElem (by omega)]
  simp [idL]
  omega
theorem srt_nodup {l : List Int} (h : Srt l) : l.Nodup := List.Pairwise.imp (fun h e => by omega) h
theorem id_nodup (n : Nat) : (idL n).Nodup := srt_nodup (idL_srt n)
theorem cyL_said {p : List Int} {L : List (List Int)} (h : CyL p L) : L.foldl swC (idL p.length) = p ∧ invB p = parL L := by
  obtain ⟨h1, h2⟩ := swF_said L (idL p.length) h.cy h.nd (id_nodup _) (idL_len _)
    (fun y hy => by
      obtain ⟨c, hc, hy⟩ := List.mem_flatten.1 hy
      have := (h.cy c hc).rng y hy
      exact av_id this.1 this.2.1)
    (fun y h0 h1 hy => by rw [av_id h0 h1, h.fix y h0 h1 hy])
  refine ⟨h1, ?_⟩
  rw [h2, inv_id]
  cases parL L <;> rfl
end Go.Proofs.Ytmhmlknfcdodlaa.P
end
section
namespace Go.Proofs.Ytmhmlknfcdodlaa.P
set_option linter.unusedVariables false
set_option linter.unusedSimpArgs false
open Go.RowKit Go.Proofs.YtmhmlknfcdodlaaW.PrintWords Go.Proofs.YtmhmlknfcdodlaaW.PrintLast Go.Proofs.YtmhmlknfcdodlaaW.PrintMore
open Go.Proofs.Ytmhmlknfcdodlaa.A Go.Proofs.Ytmhmlknfcdodlaa.H Go.Proofs.Ytmhmlknfcdodlaa.B
def sv (v : List Bool) (y : Int) : Bool := v.getD y.toNat false
theorem sv_set {v : List Bool} {x y : Int} (hx : 0 ≤ x ∧ x < v.length) (hy : 0 ≤ y) : sv (v.set x.toNat true) y = if y = x then true else sv v y := by
  unfold sv
  rw [List.getD_eq_getElem?_getD, List.getElem?_set]
  by_cases h : y = x
  · rw [if_pos (by rw [h]), if_pos h, if_pos (by omega)]
    rfl
  · rw [if_neg (by omega), if_neg h, List.getD_eq_getElem?_getD]
theorem cnt_set : ∀ (v : List Bool) (i : Nat), i < v.length → v.getD i false = false → (v.set i true).count false + 1 = v.count false
  | [], i, h, _ => by simp at h
  | b :: v, 0, _, h => by
    have : b = false := h
    subst this
    simp [List.set]
  | b :: v, i + 1, h, h2 => by
    have ih := cnt_set v i (by simpa using h) h2
    show (b :: v.set i true).count false + 1 = (b :: v).count false
    rw [List.count_cons, List.count_cons]
    omega
theorem av_mem {p : List Int} {y : Int} (h : 0 ≤ y ∧ y < p.length) : av p y ∈ p := by
  unfold av
  rw [getD_at (by omega)]
  exact List.getElem_mem _
theorem av_rng {p : List Int} (hp : Pm p) {y : Int} (h : 0 ≤ y ∧ y < p.length) : 0 ≤ av p y ∧ av p y < p.length := (hp.mem _).1 (av_mem h)
theorem av_inj {p : List Int} (hp : Pm p) {x y : Int} (hx : 0 ≤ x ∧ x < p.length) (hy : 0 ≤ y ∧ y < p.length) (e : av p x = av p y) : x = y := by
  unfold av at e
  rw [getD_at (by omega), getD_at (by omega)] at e
  have := (List.getElem_inj hp.nd).1 e
  omega
theorem gl {a b : List Int} {i : Nat} (h : i < a.length) : (a ++ b).getD i 0 = a.getD i 0 := by
  rw [List.getD_eq_getElem?_getD, List.getElem?_append_left h, List.getD_eq_getElem?_getD]
theorem gr {a : List Int} {x : Int} : (a ++ [x]).getD a.length 0 = x := by
  rw [List.getD_eq_getElem?_getD, List.getElem?_append_right (Nat.le_refl _)]
  simp
theorem nd_at {c : List Int} (h : c.Nodup) {i j : Nat} (hi : i < c.length) (hj : j < c.length) (e : c.getD i 0 = c.getD j 0) : i = j := by
  rw [getD_at hi, getD_at hj] at e
  exact (List.getElem_inj h).1 e
theorem mem_getD {c : List Int} {i : Nat} (hi : i < c.length) : c.getD i 0 ∈ c := by
  rw [getD_at hi]
  exact List.getElem_mem _
structure In (p : List Int) (v0 : List Bool) (s : Int) (v : List Bool) (c : List Int) (x : Int) : Prop where
  len : v.length = p.length
  nd : c.Nodup
  rng : ∀ y, y ∈ c → 0 ≤ y ∧ y < p.length ∧ sv v0 y = false
  xr : 0 ≤ x ∧ x < p.length
  seen : ∀ y : Int, 0 ≤ y → (sv v y = true ↔ sv v0 y = true ∨ y ∈ c)
  hd : (c ++ [x]).getD 0 0 = s
  fol : ∀ i, i < c.length → av p ((c ++ [x]).getD i 0) = (c ++ [x]).getD (i + 1) 0
  cnt : c.length + v.count false ≤ p.length
theorem in_step {p : List Int} {v0 v : List Bool} {s x : Int} {c : List Int} (hp : Pm p) (h : In p v0 s v c x) (hx : sv v x = false) : In p v0 s (v.set x.toNat true) (c ++ [x]) (av p x) := by
  have hxc : x ∉ c := fun hm => by
    have := (h.seen x h.xr.1).2 (.inr hm)
    rw [hx] at this
    simp at this
  have hx0 : sv v0 x = false := by
    cases e : sv v0 x with
    | false => rfl
    | true =>
      have := (h.seen x h.xr.1).2 (.inl e)
      rw [hx] at this
      simp at this
  have hlen := h.len
  have hxr := h.xr
  constructor
  · rw [List.length_set, h.len]
  · rw [List.nodup_append]
    refine ⟨h.nd, by simp, fun a ha b hb e => ?_⟩
    simp at hb
    exact hxc (by rw [← hb, ← e]; exact ha)
  · intro y hy
    rcases List.mem_append.1 hy with hy | hy
    · exact h.rng y hy
    · have : y = x := by simpa using hy
      subst this
      exact ⟨hxr.1, hxr.2, hx0⟩
  · exact av_rng hp hxr
  · intro y hy
    rw [sv_set (by omega) hy, List.mem_append]
    by_cases e : y = x
    · rw [if_pos e]
      exact ⟨fun _ => .inr (.inr (by simp [e])), fun _ => rfl⟩
    · rw [if_neg e, h.seen y hy]
      simp [e]
  · rw [gl (by simp)]
    exact h.hd
  · intro i hi
    rw [List.length_append, List.length_singleton] at hi
    have e0 : ((c ++ [x]) ++ [av p x]).getD i 0 = (c ++ [x]).getD i 0 := gl (by rw [List.length_append, List.length_singleton]; omega)
    rw [e0]
    by_cases e : i < c.length
    · have e1 : ((c ++ [x]) ++ [av p x]).getD (i + 1) 0 = (c ++ [x]).getD (i + 1) 0 := gl (by rw [List.length_append, List.length_singleton]; omega)
      rw [e1]
      exact h.fol i e
    · have : i = c.length := by omega
      subst this
      rw [gr, show c.length + 1 = (c ++ [x]).length from by simp, gr]
  · have := cnt_set v x.toNat (by omega) hx
    have := h.cnt
    rw [List.length_append, List.length_singleton]
    omega
theorem in_end {p : List Int} {v0 v : List Bool} {s x : Int} {c : List Int} (hp : Pm p) (h : In p v0 s v c x) (hs : 0 ≤ s) (hs0 : sv v0 s = false) (clo : ∀ y : Int, 0 ≤ y → y < p.length → (sv v0 y = true ↔ sv v0 (av p y) = true))
    (hx : sv v x = true) : x = s ∧ 0 < c.length ∧ c.getD 0 0 = s ∧ ∀ i, i < c.length → av p (c.getD i 0) = c.getD ((i + 1) % c.length) 0 := by
  have hc : 0 < c.length := by
    cases hc : c with
    | cons a r => simp
    | nil =>
      subst hc
      have h1 : x = s := h.hd
      have := (h.seen x h.xr.1).1 hx
      rw [h1, hs0] at this
      simp at this
  have hh : c.getD 0 0 = s := by rw [← h.hd, gl hc]
  have hlast := h.fol (c.length - 1) (by omega)
  rw [gl (by omega), show c.length - 1 + 1 = c.length from by omega, gr] at hlast
  have hlm := h.rng _ (mem_getD (show c.length - 1 < c.length by omega))
  have hxc : x ∈ c := by
    rcases (h.seen x h.xr.1).1 hx with e | e
    · rw [← hlast] at e
      have := (clo _ hlm.1 hlm.2.1).2 e
      rw [hlm.2.2] at this
      simp at this
    · exact e
  obtain ⟨i, hi, e⟩ := List.getElem_of_mem hxc
  have ei : c.getD i 0 = x := by rw [getD_at hi, e]
  have i0 : i = 0 := by
    cases i with
    | zero => rfl
    | succ i =>
      exfalso
      have h2 := h.fol i (by omega)
      rw [gl (by omega), gl hi, ei, ← hlast] at h2
      have hr := h.rng _ (mem_getD (show i < c.length by omega))
      have := av_inj hp ⟨hr.1, hr.2.1⟩ ⟨hlm.1, hlm.2.1⟩ h2
      have := nd_at h.nd (by omega) (by omega) this
      omega
  subst i0
  refine ⟨by rw [← ei, hh], hc, hh, fun i hi => ?_⟩
  by_cases hl : i + 1 < c.length
  · have := h.fol i hi
    rw [gl hi, gl hl] at this
    rw [this, Nat.mod_eq_of_lt hl]
  · have : i = c.length - 1 := by omega
    subst this
    rw [show c.length - 1 + 1 = c.length from by omega, Nat.mod_self, hlast, ei]
theorem inner_loop {p : List Int} (hp : Pm p) (hn : p.length ≤ 1000000) (v0 : List Bool) (s : Int) (L : List (List Int)) (n : Int) : ∀ (f : Nat) (v : List Bool) (c : List Int) (x : Int) (k : Nat), v.count false = f → f + 1 ≤ k → In p v0 s v c x →
    ∃ v' c' x' k', In p v0 s v' c' x' ∧ sv v' x' = true ∧ k' + v.count false = k - 1 + v'.count false ∧ perm_Cycles.l1 k p L v c x n s =
      (if (c'.length : Int) > 1 then (if L.length < 5864062014805 then (perm_Cycles.l0 k' p (L ++ [c']) v' n (wrap64 (s + 1))) else (none)) else (perm_Cycles.l0 k' p L v' n (wrap64 (s + 1)))) := by
  intro f
  induction f with
  | zero =>
    intro v c x k hf hk h
    obtain ⟨k, rfl⟩ : ∃ q, k = q + 1 := ⟨k - 1, by omega⟩
    have hlen := h.len
    have hxr := h.xr
    have hx : sv v x = true := by
      cases e : sv v x with
      | true => rfl
      | false =>
        have := cnt_set v x.toNat (by omega) e
        omega
    refine ⟨v, c, x, k, h, hx, by omega, ?_⟩
    rw [perm_Cycles.l1, if_pos hxr.1, if_pos (by omega), if_pos (show rdOf false v x = true from hx)]
  | succ f ih =>
    intro v c x k hf hk h
    obtain ⟨k, rfl⟩ : ∃ q, k = q + 1 := ⟨k - 1, by omega⟩
    have hlen := h.len
    have hxr := h.xr
    cases hx : sv v x with
    | true =>
      refine ⟨v, c, x, k, h, hx, by omega, ?_⟩
      rw [perm_Cycles.l1, if_pos hxr.1, if_pos (by omega), if_pos (show rdOf false v x = true from hx)]
    | false =>
      have hc := cnt_set v x.toNat (by omega) hx
      have hcn := h.cnt
      obtain ⟨v', c', x', k', h1, h2, h3, h4⟩ := ih (v.set x.toNat true) (c ++ [x]) (av p x) k (by omega) (by omega) (in_step hp h hx)
      refine ⟨v', c', x', k', h1, h2, by omega, ?_⟩
      rw [perm_Cycles.l1, if_pos hxr.1, if_pos (by omega), if_neg (by rw [show rdOf false v x = false from hx]; simp), if_pos (by omega), if_pos (by omega)]
      exact h4
structure Out (p : List Int) (s : Nat) (v : List Bool) (L : List (List Int)) : Prop where
  len : v.length = p.length
  clo : ∀ y : Int, 0 ≤ y → y < p.length → (sv v y = true ↔ sv v (av p y) = true)
  past : ∀ y : Int, 0 ≤ y → y < s → sv v y = true
  cy : ∀ c, c ∈ L → Cy p c
  hd : ∀ c, c ∈ L → c.getD 0 0 < s
  asc : L.Pairwise (fun c d => c.getD 0 0 < d.getD 0 0)
  nd : L.flatten.Nodup
  mem : ∀ y, y ∈ L.flatten → sv v y = true
  fix : ∀ y : Int, 0 ≤ y → y < p.length → sv v y = true → y ∉ L.flatten → av p y = y
  cnt : L.length ≤ s
theorem out_step {p : List Int} (hp : Pm p) {s : Nat} {v0 v : List Bool} {L : List (List Int)} {c : List Int} {x : Int} (hs : s < p.length) (h : Out p s v0 L) (hs0 : sv v0 (s : Int) = false) (hi : In p v0 s v c x) (hx : sv v x = true) :
    Out p (s + 1) v (if (c.length : Int) > 1 then L ++ [c] else L) := by
  obtain ⟨e1, e2, e3, e4⟩ := in_end hp hi (by omega) hs0 h.clo hx
  have clo : ∀ y : Int, 0 ≤ y → y < p.length → (sv v y = true ↔ sv v (av p y) = true) := by
    intro y h0 h1
    have hr := av_rng hp ⟨h0, h1⟩
    rw [hi.seen y h0, hi.seen _ hr.1, h.clo y h0 h1]
    have : y ∈ c ↔ av p y ∈ c := by
      constructor
      · intro hy
        obtain ⟨i, hi', e⟩ := List.getElem_of_mem hy
        have ei : c.getD i 0 = y := by rw [getD_at hi', e]
        rw [← ei, e4 i hi']
        exact mem_getD (Nat.mod_lt _ e2)
      · intro hy
        obtain ⟨i, hi', e⟩ := List.getElem_of_mem hy
        have ei : c.getD i 0 = av p y := by rw [getD_at hi', e]
        have key : ∃ j, j < c.length ∧ (j + 1) % c.length = i := by
          cases i with
          | zero => exact ⟨c.length - 1, by omega, by rw [show c.length - 1 + 1 = c.length from by omega, Nat.mod_self]⟩
          | succ i => exact ⟨i, by omega, Nat.mod_eq_of_lt hi'⟩
        obtain ⟨j, hj, hji⟩ := key
        have h5 := e4 j hj
        rw [hji, ei] at h5
        have hr2 := hi.rng _ (mem_getD hj)
        rw [← av_inj hp ⟨hr2.1, hr2.2.1⟩ ⟨h0, h1⟩ h5]
        exact mem_getD hj
    rw [this]
  have past : ∀ y : Int, 0 ≤ y → y < ((s + 1 : Nat) : Int) → sv v y = true := by
    intro y h0 h1
    rw [hi.seen y h0]
    by_cases e : y = s
    · exact .inr (by rw [e, ← e3]; exact mem_getD e2)
    · exact .inl (h.past y h0 (by omega))
  have sub : ∀ y, y ∈ L.flatten → 0 ≤ y := fun y hy => by
    obtain ⟨d, hd, hy⟩ := List.mem_flatten.1 hy
    exact ((h.cy d hd).rng y hy).1
  by_cases hc : (c.length : Int) > 1
  · rw [if_pos hc]
    have hcy : Cy p c := ⟨by omega, by have := hi.cnt; omega, fun y hy => by
      have hr := hi.rng y hy
      refine ⟨hr.1, hr.2.1, ?_⟩
      rw [e3]
      by_cases hlt : y < s
      · have := h.past y hr.1 hlt
        rw [hr.2.2] at this
        simp at this
      · omega, hi.nd, e4⟩
    constructor
    · exact hi.len
    · exact clo
    · exact past
    · intro d hd
      rcases List.mem_append.1 hd with hd | hd
      · exact h.cy d hd
      · rw [List.mem_singleton.1 hd]
        exact hcy
    · intro d hd
      rcases List.mem_append.1 hd with hd | hd
      · have := h.hd d hd
        omega
      · rw [List.mem_singleton.1 hd, e3]
        omega
    · rw [List.pairwise_append]
      refine ⟨h.asc, by simp, fun a ha b hb => ?_⟩
      rw [List.mem_singleton.1 hb, e3]
      exact h.hd a ha
    · rw [List.flatten_append, List.nodup_append]
      refine ⟨h.nd, by simpa using hi.nd, fun a ha b hb e => ?_⟩
      have hb' : b ∈ c := by simpa using hb
      have := h.mem a ha
      rw [e, (hi.rng b hb').2.2] at this
      simp at this
    · intro y hy
      rw [List.flatten_append, List.mem_append] at hy
      rcases hy with hy | hy
      · exact (hi.seen y (sub y hy)).2 (.inl (h.mem y hy))
      · have hy : y ∈ c := by simpa using hy
        exact (hi.seen y (hi.rng y hy).1).2 (.inr hy)
    · intro y h0 h1 hsv hy
      rw [List.flatten_append, List.mem_append] at hy
      rcases (hi.seen y h0).1 hsv with hh | hh
      · exact h.fix y h0 h1 hh (fun hm => hy (.inl hm))
      · exact absurd (.inr (by simpa using hh)) hy
    · have := h.cnt
      rw [List.length_append, List.length_singleton]
      omega
  · rw [if_neg hc]
    have hc1 : c.length = 1 := by omega
    constructor
    · exact hi.len
    · exact clo
    · exact past
    · exact h.cy
    · intro d hd
      have := h.hd d hd
      omega
    · exact h.asc
    · exact h.nd
    · intro y hy
      exact (hi.seen y (sub y hy)).2 (.inl (h.mem y hy))
    · intro y h0 h1 hsv hy
      rcases (hi.seen y h0).1 hsv with hh | hh
      · exact h.fix y h0 h1 hh hy
      · have h4 := e4 0 e2
        rw [hc1] at h4
        obtain ⟨a, rfl⟩ := List.length_eq_one_iff.1 hc1
        have : y = a := by simpa using hh
        subst this
        exact h4
    · have := h.cnt
      omega
theorem out_skip {p : List Int} {s : Nat} {v0 : List Bool} {L : List (List Int)} (h : Out p s v0 L) (hs0 : sv v0 (s : Int) = true) : Out p (s + 1) v0 L :=
  ⟨h.len, h.clo, fun y h0 h1 => by
    by_cases e : y = s
    · rw [e, hs0]
    · exact h.past y h0 (by omega), h.cy, fun c hc => by have := h.hd c hc; omega, h.asc, h.nd, h.mem, h.fix, by have := h.cnt; omega⟩
theorem outer_loop {p : List Int} (hp : Pm p) (hn : p.length ≤ 1000000) : ∀ (m s : Nat) (v : List Bool) (L : List (List Int)) (k : Nat), s + m = p.length → v.count false + 2 * m + 1 ≤ k → Out p s v L →
    ∃ L', perm_Cycles.l0 k p L v (p.length : Int) (s : Int) = some L' ∧ CyL p L' ∧ L'.length ≤ p.length := by
  intro m
  induction m with
  | zero =>
    intro s v L k hs hk h
    obtain ⟨k, rfl⟩ : ∃ q, k = q + 1 := ⟨k - 1, by omega⟩
    have hsn : s = p.length := by omega
    refine ⟨L, ?_, ⟨h.cy, h.asc, h.nd, fun y h0 h1 hy => h.fix y h0 h1 (h.past y h0 (by omega)) hy⟩, by have := h.cnt; omega⟩
    rw [perm_Cycles.l0, if_neg (by omega)]
  | succ m ih =>
    intro s v L k hs hk h
    obtain ⟨k, rfl⟩ : ∃ q, k = q + 1 := ⟨k - 1, by omega⟩
    have HUP : Hid (wrap64 ((s : Int) + 1) = ((s + 1 : Nat) : Int)) := Lib.hid (wup (by omega))
    have hcnt := h.cnt
    have hlen := h.len
    have hi0 : In p v (s : Int) v [] (s : Int) := ⟨h.len, by simp, fun y hy => by simp at hy, by omega, fun y _ => by simp, rfl, fun i hi => by simp at hi, by have := List.count_le_length (a := false) (l := v); simp; omega⟩
    rw [perm_Cycles.l0, if_pos (by omega)]
    cases hs0 : sv v (s : Int) with
    | true =>
      obtain ⟨k, rfl⟩ : ∃ q, k = q + 1 := ⟨k - 1, by omega⟩
      rw [perm_Cycles.l1, if_pos (by omega), if_pos (by omega), if_pos (show rdOf false v (s : Int) = true from hs0), if_neg (by simp), HUP.out]
      exact ih (s + 1) v L k (by omega) (by omega) (out_skip h hs0)
    | false =>
      obtain ⟨v', c', x', k', h1, h2, h3, h4⟩ := inner_loop hp hn v (s : Int) L (p.length : Int) (v.count false) v [] (s : Int) k rfl (by omega) hi0
      have ho := out_step hp (by omega) h hs0 h1 h2
      rw [h4, HUP.out]
      by_cases hc : (c'.length : Int) > 1
      · rw [if_pos hc] at ho ⊢
        rw [if_pos (by omega)]
        exact ih (s + 1) v' _ k' (by omega) (by omega) ho
      · rw [if_neg hc] at ho ⊢
        exact ih (s + 1) v' _ k' (by omega) (by omega) ho
theorem sv_rep (n : Nat) (y : Int) : sv (List.replicate n false) y = false := by
  unfold sv
  rw [List.getD_eq_getElem?_getD, List.getElem?_replicate]
  by_cases h : y.toNat < n
  · rw [if_pos h]
    rfl
  · rw [if_neg h]
    rfl
theorem cycles_said {p : List Int} (hp : isPerm p = true) (hn : p.length ≤ 1000000) (k : Nat) (hk : 3 * p.length + 1 ≤ k) : ∃ L, perm_Cycles.f k p = some L ∧ CyL p L ∧ L.length ≤ p.length := by
  unfold perm_Cycles.f
  rw [right_said (by omega), hp, Option.bind_some, if_pos rfl, if_pos (by omega), if_pos (by omega), Int.toNat_natCast]
  refine outer_loop (isPerm_pm hp) hn p.length 0 _ _ k (by omega) (by rw [List.count_replicate_self]; omega) ?_
  exact ⟨by simp, fun y _ _ => by rw [sv_rep, sv_rep], fun y h0 h1 => by omega, fun c hc => by simp at hc, fun c hc => by simp at hc, List.Pairwise.nil, by simp, fun y hy => by simp at hy, fun y _ _ h => by rw [sv_rep] at h; simp at h, by simp⟩
theorem odd_loop {L : List (List Int)} (hL : L.length ≤ 1000000) (hC : ∀ c, c ∈ L → 2 ≤ c.length) : ∀ (m i k : Nat) (b : Bool), i + m = L.length → m + 1 ≤ k →
    perm_Odd.l0 k b L (L.length : Int) (i : Int) = some (b != parL (L.drop i)) := by
  intro m
  induction m with
  | zero =>
    intro i k b hi hk
    obtain ⟨k, rfl⟩ : ∃ q, k = q + 1 := ⟨k - 1, by omega⟩
    rw [perm_Odd.l0, if_neg (by omega), List.drop_eq_nil_of_le (by omega)]
    cases b <;> rfl
  | succ m ih =>
    intro i k b hi hk
    obtain ⟨k, rfl⟩ : ∃ q, k = q + 1 := ⟨k - 1, by omega⟩
    have HUP : Hid (wrap64 ((i : Int) + 1) = ((i + 1 : Nat) : Int)) := Lib.hid (wup (by omega))
    have hiL : i < L.length := by omega
    have e : B.rd_L1 L (i : Int) = L[i] := by unfold B.rd_L1; rw [Int.toNat_natCast, List.getD_eq_getElem?_getD, List.getElem?_eq_getElem hiL]; rfl
    have h2 := hC L[i] (List.getElem_mem hiL)
    rw [perm_Odd.l0, if_pos (by omega), if_pos (by omega), if_pos (by omega), HUP.out, ih (i + 1) k _ (by omega) (by omega), List.drop_eq_getElem_cons hiL, e]
    have ho : ((((L[i].length : Int) % 2) == 0)) = oddN (L[i].length - 1) := by
      unfold oddN
      by_cases hh : L[i].length % 2 = 0
      · rw [decide_eq_true (by omega)]
        simp
        omega
      · rw [decide_eq_false (by omega)]
        simp
        omega
    rw [ho]
    show _ = some (b != (oddN (L[i].length - 1) != parL (L.drop (i + 1))))
    generalize oddN (L[i].length - 1) = o
    generalize parL (L.drop (i + 1)) = q
    cases b <;> cases o <;> cases q <;> rfl
theorem odd_said {p : List Int} (hp : isPerm p = true) (hn : p.length ≤ 1000000) (k : Nat) (hk : 3 * p.length + 1 ≤ k) : perm_Odd.f k p = some (invB p) := by
  obtain ⟨L, h1, h2, h3⟩ := cycles_said hp hn k hk
  unfold perm_Odd.f
  have := odd_loop (L := L) (by omega) (fun c hc => (h2.cy c hc).two) L.length 0 k false (by omega) (by omega)
  rw [h1, Option.bind_some]
  refine this.trans ?_
  rw [List.drop_zero, (cyL_said h2).2]
  cases parL L <;> rfl
end Go.Proofs.Ytmhmlknfcdodlaa.P
end
section
namespace Go.Proofs.Ytmhmlknfcdodlaa.P
set_option linter.unusedVariables false
set_option linter.unusedSimpArgs false
open Go.RowKit Go.Proofs.YtmhmlknfcdodlaaW.PrintWords Go.Proofs.YtmhmlknfcdodlaaW.PrintLast Go.Proofs.YtmhmlknfcdodlaaW.PrintMore
open Go.Proofs.Ytmhmlknfcdodlaa.A Go.Proofs.Ytmhmlknfcdodlaa.H Go.Proofs.Ytmhmlknfcdodlaa.B
def cmp (p q : List Int) : List Int := q.map (av p)
theorem cmp_len (p q : List Int) : (cmp p q).length = q.length := by simp [cmp]
theorem av_cmp {p q : List Int} {y : Int} (h : 0 ≤ y ∧ y < q.length) : av (cmp p q) y = av p (av q y) := by
  unfold cmp
  show (q.map (av p)).getD y.toNat 0 = av p (q.getD y.toNat 0)
  have : y.toNat < q.length := by omega
  rw [getD_at (by simpa using this), getD_at this, List.getElem_map]
theorem map_id (p : List Int) : (idL p.length).map (av p) = p := av_ext (by simp [idL_len]) fun y h0 h1 => by
  have := av_cmp (p := p) (q := idL p.length) (y := y) (by rw [idL_len]; omega)
  rw [av_id h0 h1] at this
  exact this
theorem cmp_perm {p q : List Int} (hq : isPerm q = true) (hl : q.length = p.length) : (cmp p q).Perm p := by
  have h := (isPerm_iff.1 hq).map (av p)
  rw [hl, map_id] at h
  exact h
theorem cmp_isPerm {p q : List Int} (hp : isPerm p = true) (hq : isPerm q = true) (hl : q.length = p.length) : isPerm (cmp p q) = true :=
  isPerm_iff.2 (by rw [cmp_len, hl]; exact (cmp_perm hq hl).trans (isPerm_iff.1 hp))
theorem set_at {l : List Int} {i j : Nat} {x : Int} (h : i < l.length) : (l.set i x).getD j 0 = if j = i then x else l.getD j 0 := by
  rw [List.getD_eq_getElem?_getD, List.getElem?_set]
  by_cases e : i = j
  · rw [if_pos e, if_pos h, if_pos e.symm]
    rfl
  · rw [if_neg e, if_neg (fun h => e h.symm), List.getD_eq_getElem?_getD]
theorem av_set {l : List Int} {i j x : Int} (h : 0 ≤ i ∧ i < l.length) (hj : 0 ≤ j) : av (l.set i.toNat x) j = if j = i then x else av l j := by
  unfold av
  rw [set_at (by omega)]
  by_cases e : j = i
  · rw [if_pos (by rw [e]), if_pos e]
  · rw [if_neg (by omega), if_neg e]
theorem compose_loop {p q : List Int} (hp : Pm p) (hq : Pm q) (hn : p.length ≤ 1000000) (hl : q.length = p.length) : ∀ (m i k : Nat) (x : List Int), i + m = q.length → m + 1 ≤ k → x.length = q.length → (∀ y : Int, 0 ≤ y → y < i → av x y = av p (av q y)) →
    perm_Compose.l0 k p x q (q.length : Int) (i : Int) = some (cmp p q) := by
  intro m
  induction m with
  | zero =>
    intro i k x hi hk hx h
    obtain ⟨k, rfl⟩ : ∃ z, k = z + 1 := ⟨k - 1, by omega⟩
    rw [perm_Compose.l0, if_neg (by omega)]
    congr 1
    exact av_ext (by rw [hx, cmp_len]) fun y h0 h1 => by rw [cmp_len] at h1; rw [h y h0 (by omega), av_cmp ⟨h0, h1⟩]
  | succ m ih =>
    intro i k x hi hk hx h
    obtain ⟨k, rfl⟩ : ∃ z, k = z + 1 := ⟨k - 1, by omega⟩
    have HUP : Hid (wrap64 ((i : Int) + 1) = ((i + 1 : Nat) : Int)) := Lib.hid (wup (by omega))
    have hr := av_rng hq (y := (i : Int)) (by omega)
    have e1 : rd q (i : Int) = av q (i : Int) := rfl
    have e2 : rd p (av q (i : Int)) = av p (av q (i : Int)) := rfl
    rw [perm_Compose.l0, if_pos (by omega), if_pos (by omega), if_pos (by omega), e1, if_pos hr.1, if_pos (by omega), if_pos (by omega), HUP.out, e2]
    refine ih (i + 1) k _ (by omega) (by omega) (by rw [List.length_set, hx]) fun y h0 h1 => ?_
    rw [av_set (by omega) h0]
    by_cases e : y = i
    · rw [if_pos e, e]
    · rw [if_neg e]
      exact h y h0 (by omega)
theorem compose_said {p q : List Int} (hp : isPerm p = true) (hq : isPerm q = true) (hn : p.length ≤ 1000000) (hl : q.length = p.length) (k : Nat) (hk : p.length + 2 ≤ k) : perm_Compose.f k p q = some (cmp p q) := by
  obtain ⟨k, rfl⟩ : ∃ z, k = z + 1 := ⟨k - 1, by omega⟩
  unfold perm_Compose.f
  have h0 : ((p.length : Int) != (q.length : Int)) = false := by rw [hl]; simp
  rw [right_said (by omega), hp, Option.bind_some, if_pos rfl, right_said (by omega), hq, Option.bind_some, if_pos rfl, h0, perm_Compose.j0, if_neg (by simp)]
  unfold slices_Clone_int_int.f
  rw [if_pos (by omega), Option.bind_some]
  exact compose_loop (isPerm_pm hp) (isPerm_pm hq) hn hl q.length 0 k q (by omega) (by omega) rfl (fun y h0 h1 => by omega)
structure IsInv (p q : List Int) : Prop where
  len : q.length = p.length
  un : ∀ y : Int, 0 ≤ y → y < p.length → av q (av p y) = y
theorem inverse_loop {p : List Int} (hp : Pm p) (hn : p.length ≤ 1000000) : ∀ (m i k : Nat) (x : List Int), i + m = p.length → m + 1 ≤ k → x.length = p.length → (∀ y : Int, 0 ≤ y → y < i → av x (av p y) = y) →
    ∃ q, perm_Inverse.l0 k x p (p.length : Int) (i : Int) = some q ∧ IsInv p q := by
  intro m
  induction m with
  | zero =>
    intro i k x hi hk hx h
    obtain ⟨k, rfl⟩ : ∃ z, k = z + 1 := ⟨k - 1, by omega⟩
    rw [perm_Inverse.l0, if_neg (by omega)]
    exact ⟨x, rfl, hx, fun y h0 h1 => h y h0 (by omega)⟩
  | succ m ih =>
    intro i k x hi hk hx h
    obtain ⟨k, rfl⟩ : ∃ z, k = z + 1 := ⟨k - 1, by omega⟩
    have HUP : Hid (wrap64 ((i : Int) + 1) = ((i + 1 : Nat) : Int)) := Lib.hid (wup (by omega))
    have hr := av_rng hp (y := (i : Int)) (by omega)
    have e1 : rd p (i : Int) = av p (i : Int) := rfl
    rw [perm_Inverse.l0, if_pos (by omega), if_pos (by omega), if_pos (by omega), e1, if_pos hr.1, if_pos (by omega), HUP.out]
    refine ih (i + 1) k _ (by omega) (by omega) (by rw [List.length_set, hx]) fun y h0 h1 => ?_
    have hr2 := av_rng hp (y := y) (by omega)
    rw [av_set (by omega) hr2.1]
    by_cases e : av p y = av p (i : Int)
    · rw [if_pos e]
      exact (av_inj hp (by omega) (by omega) e).symm
    · rw [if_neg e]
      refine h y h0 ?_
      have : y ≠ i := fun e2 => e (by rw [e2])
      omega
theorem inverse_said {p : List Int} (hp : isPerm p = true) (hn : p.length ≤ 1000000) (k : Nat) (hk : p.length + 2 ≤ k) : ∃ q, perm_Inverse.f k p = some q ∧ IsInv p q := by
  unfold perm_Inverse.f slices_Clone_int_int.f
  rw [right_said (by omega), hp, Option.bind_some, if_pos rfl, if_pos (by omega), Option.bind_some]
  exact inverse_loop (isPerm_pm hp) hn p.length 0 k p (by omega) (by omega) rfl (fun y h0 h1 => by omega)
theorem surj {p : List Int} (hp : Pm p) {y : Int} (h0 : 0 ≤ y) (h1 : y < p.length) : ∃ i : Int, 0 ≤ i ∧ i < p.length ∧ av p i = y := by
  obtain ⟨i, hi, e⟩ := List.getElem_of_mem ((hp.mem y).2 ⟨h0, h1⟩)
  refine ⟨(i : Int), by omega, by omega, ?_⟩
  unfold av
  rw [Int.toNat_natCast, getD_at hi, e]
theorem inv_isPerm {p q : List Int} (hp : isPerm p = true) (h : IsInv p q) : isPerm q = true := by
  have h1 := (isPerm_iff.1 hp).map (av q)
  rw [← h.len, map_id] at h1
  have h2 : p.map (av q) = idL q.length := av_ext (by rw [List.length_map, idL_len, h.len]) fun y h0 h1 => by
    rw [idL_len, h.len] at h1
    have := av_cmp (p := q) (q := p) (y := y) ⟨h0, h1⟩
    rw [av_id h0 (by rw [h.len]; exact h1)]
    exact this.trans (h.un y h0 h1)
  rw [h2] at h1
  exact isPerm_iff.2 h1.symm
theorem inv_uniq {p q r : List Int} (hp : isPerm p = true) (h : IsInv p q) (h' : IsInv p r) : q = r := av_ext (by rw [h.len, h'.len]) fun y h0 h1 => by
  obtain ⟨i, i0, i1, rfl⟩ := surj (isPerm_pm hp) h0 (by rw [← h'.len]; exact h1)
  rw [h.un i i0 i1, h'.un i i0 i1]
theorem cmp_assoc {p q r : List Int} (hr : isPerm r = true) (hl : r.length = q.length) : cmp (cmp p q) r = cmp p (cmp q r) := av_ext (by rw [cmp_len, cmp_len, cmp_len]) fun y h0 h1 => by
  rw [cmp_len, cmp_len] at h1
  have hrr := av_rng (isPerm_pm hr) ⟨h0, h1⟩
  rw [av_cmp ⟨h0, h1⟩, av_cmp (by omega), av_cmp (by rw [cmp_len]; omega), av_cmp ⟨h0, h1⟩]
theorem cmp_id (p : List Int) : cmp p (idL p.length) = p := map_id p
theorem id_cmp {p : List Int} (hp : isPerm p = true) : cmp (idL p.length) p = p := av_ext (cmp_len _ _) fun y h0 h1 => by
  have := av_rng (isPerm_pm hp) ⟨h0, h1⟩
  rw [av_cmp ⟨h0, h1⟩, av_id this.1 this.2]
theorem inv_left {p q : List Int} (hp : isPerm p = true) (h : IsInv p q) : cmp q p = idL p.length := av_ext (by rw [cmp_len, idL_len]) fun y h0 h1 => by
  rw [idL_len] at h1
  rw [av_cmp ⟨h0, h1⟩, h.un y h0 h1, av_id h0 h1]
theorem inv_right {p q : List Int} (hp : isPerm p = true) (h : IsInv p q) : cmp p q = idL p.length := av_ext (by rw [cmp_len, idL_len, h.len]) fun y h0 h1 => by
  rw [idL_len] at h1
  obtain ⟨i, i0, i1, rfl⟩ := surj (isPerm_pm hp) h0 h1
  rw [av_cmp (by rw [h.len]; exact ⟨h0, h1⟩), h.un i i0 i1, av_id h0 h1]
theorem inv_cmp {p q p' q' : List Int} (hp : isPerm p = true) (hq : isPerm q = true) (hl : q.length = p.length) (h : IsInv p p') (h' : IsInv q q') : IsInv (cmp p q) (cmp q' p') := by
  constructor
  · rw [cmp_len, cmp_len, h.len, hl]
  · intro y h0 h1
    rw [cmp_len] at h1
    have hr := av_rng (isPerm_pm hq) ⟨h0, h1⟩
    have hr2 := av_rng (isPerm_pm hp) (y := av q y) (by omega)
    rw [av_cmp ⟨h0, h1⟩, av_cmp (by rw [h.len]; exact hr2), h.un _ hr.1 (by omega), h'.un y h0 h1]
theorem cmp_swp (p x : List Int) {a b : Nat} (ha : a < x.length) (hb : b < x.length) : cmp p (swpL x a b) = swpL (cmp p x) a b := by
  unfold cmp swpL
  rw [List.map_set, List.map_set, getD_at ha, getD_at hb, getD_at (by simpa using hb), getD_at (by simpa using ha), List.getElem_map, List.getElem_map]
theorem swC_any : ∀ (r : List Int) (x : List Int) (a : Int), x.Nodup → (a :: r).Nodup → (∀ y, y ∈ a :: r → 0 ≤ y ∧ y < x.length) →
    (swC x (a :: r)).Perm x ∧ invB (swC x (a :: r)) = (invB x != oddN r.length) ∧ ∀ p, cmp p (swC x (a :: r)) = swC (cmp p x) (a :: r)
  | [], x, a, _, _, _ => ⟨List.Perm.refl _, by show invB x = _; simp [oddN], fun p => rfl⟩
  | b :: r, x, a, hn, hc, hr => by
    have hra := hr a (List.mem_cons_self ..)
    have hrb := hr b (List.mem_cons_of_mem _ (List.mem_cons_self ..))
    have hc' := List.nodup_cons.1 hc
    have hab : a ≠ b := fun e => hc'.1 (e ▸ List.mem_cons_self ..)
    have hp : (swpL x a.toNat b.toNat).Perm x := swp_perm' (by omega) (by omega) (by omega)
    have hlen : (swpL x a.toNat b.toNat).length = x.length := swp_len _ _ _
    obtain ⟨i1, i2, i3⟩ := swC_any r (swpL x a.toNat b.toNat) b (hp.nodup_iff.2 hn) hc'.2 (fun y hy => by rw [hlen]; exact hr y (List.mem_cons_of_mem _ hy))
    refine ⟨i1.trans hp, ?_, fun p => ?_⟩
    · show invB (swC (swpL x a.toNat b.toNat) (b :: r)) = _
      rw [i2, inv_swp hn (by omega) (by omega) (by omega), List.length_cons, oddN_succ]
      cases invB x <;> cases oddN r.length <;> rfl
    · show cmp p (swC (swpL x a.toNat b.toNat) (b :: r)) = swC (swpL (cmp p x) a.toNat b.toNat) (b :: r)
      rw [i3, cmp_swp p x (by omega) (by omega)]
theorem swF_any {q : List Int} : ∀ (L : List (List Int)) (x : List Int), (∀ c, c ∈ L → Cy q c) → x.Nodup → x.length = q.length → invB (L.foldl swC x) = (invB x != parL L) ∧ ((∀ p, cmp p (L.foldl swC x) = L.foldl swC (cmp p x)))
  | [], x, _, _, _ => ⟨by show invB x = (invB x != false); cases invB x <;> rfl, fun p => rfl⟩
  | c :: L, x, hC, hx, hl => by
    have hcy := hC c (List.mem_cons_self ..)
    have hc : (swC x c).Perm x ∧ invB (swC x c) = (invB x != oddN (c.length - 1)) ∧ ∀ p, cmp p (swC x c) = swC (cmp p x) c := by
      cases c with
      | nil => have := hcy.two; simp at this
      | cons a r => exact swC_any r x a hx hcy.nd (fun y hy => by have := hcy.rng y hy; omega)
    obtain ⟨h1, h2, h3⟩ := hc
    obtain ⟨i1, i2⟩ := swF_any L (swC x c) (fun d hd => hC d (List.mem_cons_of_mem _ hd)) (h1.nodup_iff.2 hx) (by rw [h1.length_eq, hl])
    refine ⟨?_, fun p => ?_⟩
    · rw [List.foldl_cons, i1, h2]
      show _ = (invB x != (oddN (c.length - 1) != parL L))
      generalize oddN (c.length - 1) = o
      generalize parL L = z
      cases invB x <;> cases o <;> cases z <;> rfl
    · rw [List.foldl_cons, i2, h3, List.foldl_cons]
theorem inv_cmpB {p q : List Int} (hp : isPerm p = true) (hq : isPerm q = true) (hn : q.length ≤ 1000000) (hl : q.length = p.length) : invB (cmp p q) = (invB p != invB q) := by
  obtain ⟨L, h1, h2, h3⟩ := cycles_said hq hn (3 * q.length + 1) (Nat.le_refl _)
  obtain ⟨e1, e2⟩ := cyL_said h2
  have c1 := (swF_any L (idL q.length) h2.cy (id_nodup _) (idL_len _)).2 p
  rw [e1, hl, cmp_id] at c1
  rw [c1, (swF_any L p h2.cy (isPerm_pm hp).nd hl.symm).1, e2]
set_option maxHeartbeats 1000000 in
theorem grp_j0 {p q r : List Int} (hp : isPerm p = true) (hq : isPerm q = true) (hr : isPerm r = true) (hn : p.length ≤ 40) (h1 : q.length = p.length) (h2 : r.length = p.length) :
    taquinlaw37_PermGroup.j0 1000 p q r true (p.length : Int) false = some true := by
  have hid : isPerm (idL p.length) = true := isPerm_iff.2 (by rw [idL_len])
  have hpq := cmp_isPerm hp hq h1
  have hqr := cmp_isPerm hq hr (by omega)
  have lpq := cmp_len p q
  have lqr := cmp_len q r
  have lid := idL_len p.length
  obtain ⟨p', P1, P2⟩ := inverse_said hp (by omega) 998 (by omega)
  obtain ⟨q', Q1, Q2⟩ := inverse_said hq (by omega) 998 (by omega)
  obtain ⟨s, S1, S2⟩ := inverse_said hpq (by omega) 998 (by omega)
  have hp' := inv_isPerm hp P2
  have hq' := inv_isPerm hq Q2
  have hs := inv_uniq hpq S2 (inv_cmp hp hq h1 P2 Q2)
  have lp' := P2.len
  have lq' := Q2.len
  rw [taquinlaw37_PermGroup.j0, if_neg (by simp), Option.bind_some, if_pos (by simp; omega), Option.bind_some, compose_said hp hq (by omega) h1 _ (by omega), Option.bind_some, ident_said _ (by omega) _ (by omega), Option.bind_some, Int.toNat_natCast,
    compose_said hpq hr (by omega) (by omega) _ (by omega), Option.bind_some, compose_said hq hr (by omega) (by omega) _ (by omega), Option.bind_some, compose_said hp hqr (by omega) (by omega) _ (by omega), Option.bind_some,
    same_said _ _ (by rw [cmp_len]; omega) _ (by rw [cmp_len]; omega), Option.bind_some, decide_eq_true (cmp_assoc hr (by omega)), if_pos rfl,
    compose_said hp hid (by omega) (by omega) _ (by omega), Option.bind_some, cmp_id, same_said _ _ (by omega) _ (by omega), Option.bind_some, decide_eq_true rfl, if_pos rfl,
    compose_said hid hp (by omega) (by omega) _ (by omega), Option.bind_some, id_cmp hp, same_said _ _ (by omega) _ (by omega), Option.bind_some, decide_eq_true rfl,
    taquinlaw37_PermGroup.j1, P1, Option.bind_some, compose_said hp hp' (by omega) (by omega) _ (by omega), Option.bind_some, inv_right hp P2, same_said _ _ (by omega) _ (by omega), Option.bind_some, decide_eq_true rfl, if_pos rfl,
    Option.bind_some, compose_said hp' hp (by omega) (by omega) _ (by omega), Option.bind_some, inv_left hp P2, same_said _ _ (by omega) _ (by omega), Option.bind_some, decide_eq_true rfl, if_pos rfl,
    S1, Option.bind_some, Q1, Option.bind_some, Option.bind_some, compose_said hq' hp' (by omega) (by omega) _ (by omega), Option.bind_some, same_said _ _ (by have := S2.len; omega) _ (by have := S2.len; omega), Option.bind_some, decide_eq_true hs,
    taquinlaw37_PermGroup.j2, if_pos rfl, if_pos rfl, if_pos rfl, right_said (by omega), hpq, Option.bind_some, if_pos rfl, odd_said hpq (by omega) _ (by omega), Option.bind_some, odd_said hp (by omega) _ (by omega), Option.bind_some, odd_said hq (by omega) _ (by omega), Option.bind_some,
    inv_cmpB hp hq (by omega) h1, if_pos (by simp), same_said _ _ (by omega) _ (by omega), Option.bind_some]
  simp
theorem permGroup_at (p q r : List Int) (h0 : p.length ≤ 17592186043904) (h1 : q.length ≤ 17592186043904) (h2 : r.length ≤ 17592186043904) : taquinlaw37_PermGroup.f 1000 p q r = some true := by
  unfold taquinlaw37_PermGroup.f
  rw [small_at 1000 (by omega), Option.bind_some]
  have early : taquinlaw37_PermGroup.j0 1000 p q r true (p.length : Int) true = some true := by rw [taquinlaw37_PermGroup.j0, if_pos rfl]
  by_cases hn : (p.length : Int) > 40
  · rw [if_pos hn]
    exact early
  · rw [if_neg hn]
    by_cases hq : (q.length : Int) = (p.length : Int)
    · rw [if_pos hq]
      by_cases hr : (r.length : Int) = (p.length : Int)
      · rw [if_pos hr, right_said h0, Option.bind_some]
        cases e0 : isPerm p with
        | false =>
          rw [if_neg (by simp)]
          exact early
        | true =>
          rw [if_pos rfl, right_said h1, Option.bind_some]
          cases e1 : isPerm q with
          | false =>
            rw [if_neg (by simp)]
            exact early
          | true =>
            rw [if_pos rfl, right_said h2, Option.bind_some]
            cases e2 : isPerm r with
            | false => exact early
            | true => exact grp_j0 e0 e1 e2 (by omega) (by omega) (by omega)
      · rw [if_neg hr]
        exact early
    · rw [if_neg hq]
      exact early
end Go.Proofs.Ytmhmlknfcdodlaa.P
end
section
namespace Go.Proofs.Ytmhmlknfcdodlaa.Pure
open Go.RowKit Go.Proofs.Ytmhmlknfcdodlaa.B Go.Proofs.YtmhmlknfcdodlaaW.PrintWords Go.Proofs.YtmhmlknfcdodlaaW.PrintLast
theorem PermGroup : taquinlaw37_PermGroup.Pure := fun l0 l1 l2 _ h0 _ _ h1 _ _ h2 _ => ⟨1000, P.permGroup_at l0 l1 l2 (by omega) (by omega) (by omega)⟩
end Go.Proofs.Ytmhmlknfcdodlaa.Pure
end
section
namespace Go.Proofs.YtmhmlknfcdodlaaW.PrintWords
open Go.ChangeShapes Go.WideShapes
theorem sized_ints {H : Type} {enc : TypeId × Value → H} {P : Program} {W : World} {base : Nat} {spare : Nat → Bool} {held : Bool} {t e : TypeId} {k : IntKind} {a : Option Addr} {len cap : Nat} {d : DataW H} {ps : List MemPlace} {ts : List TypeId} {ds : List (DataW H)} {j : Nat}
    (hsz : (DataW.weightsEach P ts ds).all (· ≤ reachBytes) = true) (ht : ts[j]? = some t) (hd : ds[j]? = some d) (hu : P.underlying t = some (.slice e)) (he : P.underlying e = some (.int k)) (hc : P.cellsOf e = 1) {B : Nat} (hB : P.bytesOf e = B)
    (h : DataW.Trod enc P W base spare held t (.slice a len cap) d ps) : len * B ≤ 140737488351232 := by
  obtain ⟨fuel, hf⟩ := h
  rcases open_ints hu he hc hf with ⟨hcs, _⟩ | ⟨x, l, c, zs, hcs, _, hl, _, hz, hx, _, _⟩
  · simp [Value.cells] at hcs
    obtain ⟨rfl, rfl, rfl⟩ := hcs
    simp
  · simp [Value.cells] at hcs
    obtain ⟨rfl, rfl, rfl⟩ := hcs
    obtain ⟨hx, _⟩ := Prod.mk.inj hx
    subst hx
    have z := sized_slice hsz ht hd hu
    rw [hB] at z
    have hl2 : len ≤ zs.length := by
      rw [hz]
      split
      · exact hl
      · exact Nat.le_refl _
    have h1 : (lits (H := H) k (zs.take len)).length + (lits (H := H) k (zs.drop len)).length = zs.length := by
      simp [lits]
      omega
    rw [h1] at z
    exact Nat.le_trans (Nat.mul_le_mul_right _ hl2) z
end Go.Proofs.YtmhmlknfcdodlaaW.PrintWords
end
section
namespace Go.Proofs.Ytmhmlknfcdodlaa.permGroup
open Go.ChangeShapes Go.WideShapes Go.ChangeAt Go.RowKit
open Go.ChangeMaps (open_string shut_string)
set_option linter.unusedVariables false
theorem own : ownKnob Try.prog.godebug = none := by kernel_rfl
theorem laidOut : laidOutB Try.prog = true := by kernel_rfl
def IsRow (k : IntKind) (w : World) (a : Option Addr) (len cap : Nat) (zs : List Int) : Prop :=
  (a = none ∧ len = 0 ∧ cap = 0 ∧ zs = []) ∨
  ∃ x, a = some x ∧ len ≤ cap ∧ cap ≤ maxLen ∧ zs.length = cap ∧ (∀ i, i < zs.length → w.cell? (x.add i) = some (.int k (zs.getD i 0))) ∧ ∀ n ∈ zs, (Lit.int k n).wf = true
set_option maxRecDepth 100000 in
theorem lifted (os : Os) (started : os.Started) (H : Type) (enc : TypeId × Value → H) :
    ReturnsInHanded {} Try.checked os 5 .any (Rows.permGroupSpec.pre6 enc Try.prog Try.f5 Rows.permGroupRow.domain false) (Rows.permGroupSpec.post enc Try.prog Try.f5 false true false false) := by
  refine returnsInHanded_of_change_sized (C := Try.checked) own started (by kernel_rfl) Try.func5
    (ChangeSpec.witness6 (enc := enc) (C := Try.checked) false ⟨#[], #[.slice none 0 0, .slice none 0 0, .slice none 0 0], []⟩ 8 (by kernel_rfl) (by kernel_rfl) (by kernel_rfl) (by kernel_rfl)) ?_
  intro W base args ds gs before hval0 hW hcnd hsz0 _
  have hsz : (DataW.weightsEach Try.prog (Try.f5.params.toList ++ Rows.permGroupSpec.plain.varTypes Try.prog) (ds ++ gs)).all (· ≤ reachBytes) = true := hsz0
  have hval : ∀ (j : Nat) t v, Try.f5.params[j]? = some t → args[j]? = some v → Value.okWide Try.prog W .any base t v := hval0
  have hW' := hW
  obtain ⟨p, q, hA0, hV, rfl, hfz, hnd⟩ := hW
  have hA : DataW.TrodAll enc Try.prog W 0 (fun _ => true) true Try.f5.params.toList args.toList ds p := hA0
  rw [Try.params5] at hA hval hsz
  obtain ⟨v0, vs0, d0, ds0, p0, q0, hargs, rfl, rfl, h0, r0⟩ := trodAll_cons hA
  obtain ⟨v1, vs1, d1, ds1, p1, q1, rfl, rfl, rfl, h1, r1⟩ := trodAll_cons r0
  obtain ⟨v2, vs2, d2, ds2, p2, q2, rfl, rfl, rfl, h2, r2⟩ := trodAll_cons r1
  obtain ⟨rfl, rfl, rfl⟩ := trodAll_nil r2
  obtain rfl : args = #[v0, v1, v2] := by cases args; simp_all
  obtain ⟨rfl, rfl⟩ := trodVars_none hV
  obtain ⟨a0, len0, cap0, rfl⟩ := okWide_slice Try.underlying22 (hval 0 22 v0 rfl rfl)
  have k0 := h0
  have lt0 : ∀ x ∈ p0, x.block < W.heap.size := by obtain ⟨m, hm⟩ := k0; exact DataW.trod_lt m _ _ _ hm
  obtain ⟨z0, w0⟩ : ∃ zs, IsRow .i64 W a0 len0 cap0 zs := by
    obtain ⟨fuel, hf⟩ := h0
    rcases open_ints Try.underlying22 Try.underlying3 (by kernel_rfl) hf with ⟨hcs, _⟩ | ⟨x, l, c, zs, hcs, _, hl, hm, hz, _, hcell, hwz⟩
    · simp [Value.cells] at hcs
      obtain ⟨rfl, rfl, rfl⟩ := hcs
      exact ⟨[], .inl ⟨rfl, rfl, rfl, rfl⟩⟩
    · simp [Value.cells] at hcs
      obtain ⟨rfl, rfl, rfl⟩ := hcs
      exact ⟨zs, .inr ⟨_, rfl, hl, hm, by simpa using hz, hcell, hwz⟩⟩
  have y0 : len0 * 8 ≤ 140737488351232 := Go.Proofs.YtmhmlknfcdodlaaW.PrintWords.sized_ints hsz (j := 0) (t := 22) rfl rfl Try.underlying22 Try.underlying3 (by kernel_rfl) (by kernel_rfl) h0
  obtain ⟨a1, len1, cap1, rfl⟩ := okWide_slice Try.underlying22 (hval 1 22 v1 rfl rfl)
  have k1 := h1
  have lt1 : ∀ x ∈ p1, x.block < W.heap.size := by obtain ⟨m, hm⟩ := k1; exact DataW.trod_lt m _ _ _ hm
  obtain ⟨z1, w1⟩ : ∃ zs, IsRow .i64 W a1 len1 cap1 zs := by
    obtain ⟨fuel, hf⟩ := h1
    rcases open_ints Try.underlying22 Try.underlying3 (by kernel_rfl) hf with ⟨hcs, _⟩ | ⟨x, l, c, zs, hcs, _, hl, hm, hz, _, hcell, hwz⟩
    · simp [Value.cells] at hcs
      obtain ⟨rfl, rfl, rfl⟩ := hcs
      exact ⟨[], .inl ⟨rfl, rfl, rfl, rfl⟩⟩
    · simp [Value.cells] at hcs
      obtain ⟨rfl, rfl, rfl⟩ := hcs
      exact ⟨zs, .inr ⟨_, rfl, hl, hm, by simpa using hz, hcell, hwz⟩⟩
  have y1 : len1 * 8 ≤ 140737488351232 := Go.Proofs.YtmhmlknfcdodlaaW.PrintWords.sized_ints hsz (j := 1) (t := 22) rfl rfl Try.underlying22 Try.underlying3 (by kernel_rfl) (by kernel_rfl) h1
  obtain ⟨a2, len2, cap2, rfl⟩ := okWide_slice Try.underlying22 (hval 2 22 v2 rfl rfl)
  have k2 := h2
  have lt2 : ∀ x ∈ p2, x.block < W.heap.size := by obtain ⟨m, hm⟩ := k2; exact DataW.trod_lt m _ _ _ hm
  obtain ⟨z2, w2⟩ : ∃ zs, IsRow .i64 W a2 len2 cap2 zs := by
    obtain ⟨fuel, hf⟩ := h2
    rcases open_ints Try.underlying22 Try.underlying3 (by kernel_rfl) hf with ⟨hcs, _⟩ | ⟨x, l, c, zs, hcs, _, hl, hm, hz, _, hcell, hwz⟩
    · simp [Value.cells] at hcs
      obtain ⟨rfl, rfl, rfl⟩ := hcs
      exact ⟨[], .inl ⟨rfl, rfl, rfl, rfl⟩⟩
    · simp [Value.cells] at hcs
      obtain ⟨rfl, rfl, rfl⟩ := hcs
      exact ⟨zs, .inr ⟨_, rfl, hl, hm, by simpa using hz, hcell, hwz⟩⟩
  have y2 : len2 * 8 ≤ 140737488351232 := Go.Proofs.YtmhmlknfcdodlaaW.PrintWords.sized_ints hsz (j := 2) (t := 22) rfl rfl Try.underlying22 Try.underlying3 (by kernel_rfl) (by kernel_rfl) h2
  clear hA0 hval0 hsz0 hsz
  refine (B.taquinlaw37_PermGroup.walk Pure.PermGroup a0 len0 cap0 z0 a1 len1 cap1 z1 a2 len2 cap2 z2 W w0 y0 w1 y1 w2 y2).mono fun e W' ⟨he, bel⟩ => ?_
  subst he
  exact ⟨_, rfl, _, _, _, [], _, [], hW', trodAll_mk1 (shut_bool Try.underlying4 _), (trodAll_cons_mk (Below.trod laidOut (by kernel_rfl) (of_decide_eq_true (by kernel_rfl)) k0 bel lt0) (trodAll_cons_mk (Below.trod laidOut (by kernel_rfl) (of_decide_eq_true (by kernel_rfl)) k1 bel lt1) (trodAll_cons_mk (Below.trod laidOut (by kernel_rfl) (of_decide_eq_true (by kernel_rfl)) k2 bel lt2) trodAll_mk0))), rfl, bel.frame _, fun h => by cases h⟩
theorem over : Rows.permGroupRow.holds Try.pinned (OpenSpec.ofChange Rows.permGroupSpec) :=
  OpenClaim.holds_of_wide 5 Try.f5 rfl rfl rfl rfl rfl rfl rfl ⟨rfl, rfl, rfl, rfl, rfl⟩ rfl rfl rfl rfl rfl (by kernel_rfl) Try.func5 (by kernel_rfl)
    (of_decide_eq_true (by kernel_rfl)) (by unfold Func.isWrapper; first | (rw [if_pos (by decide +kernel)]; kernel_rfl) | (rw [if_neg (by decide +kernel)]; exact ⟨rfl, rfl⟩))
    (fun os started H enc _ => lifted os started H enc)
theorem proved : Rows.PermGroupSaid := over
#print axioms proved
end Go.Proofs.Ytmhmlknfcdodlaa.permGroup
namespace Go.Proofs.Ytmhmlknfcdodlaa
theorem permGroup_holds : Rows.PermGroupSaid := permGroup.proved
end Go.Proofs.Ytmhmlknfcdodlaa
end
