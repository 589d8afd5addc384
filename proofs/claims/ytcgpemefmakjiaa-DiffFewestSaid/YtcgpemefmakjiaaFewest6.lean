/- Texts of this claim, merged: part 6. -/
import Derived.Test.YtcgpemefmakjiaaFewest2
import Derived.Test.YtcgpemefmakjiaaFewest5
import Derived.Test.YtcgpemefmakjiaaFewest3
import Derived.StillTailTactics
import Derived.Deep.QuietTactic
import Derived.BigQuiet
import Derived.Sort.LoopGhostIn
namespace Go.Proofs.Ytcgpemefmakjiaa.PX
open Go.RowKit Go.Proofs.YtcgpemefmakjiaaW.PrintWords Go.Proofs.YtcgpemefmakjiaaW.PrintLast Go.Proofs.YtcgpemefmakjiaaW.PrintMore
attribute [local go_sem] max2_int min2_int max_two min_two max_three min_three max_four min_four   -- for this text's walks alone
set_option linter.unusedVariables false
set_option linter.unusedSimpArgs false
mutual
def dioramaref36_SameWorld.l0 : Nat → List (List (List Int)) → List (List (List Int)) → Int → Option (Bool)
 | 0, _, _, _ => none
 | k + 1, x0, x1, x5 => if x5 < (x0.length : Int) then (if 0 ≤ x5 then (if x5 < (x1.length : Int) then (if ((rd_L2 x0 x5).length : Int) = ((rd_L2 x1 x5).length : Int) then (dioramaref36_SameWorld.l1 k x0 x1 x5 0) else (some false)) else (none)) else (none)) else (some true)
def dioramaref36_SameWorld.l1 : Nat → List (List (List Int)) → List (List (List Int)) → Int → Int → Option (Bool)
 | 0, _, _, _, _ => none
 | k + 1, x0, x1, x5, x6 => if 0 ≤ x5 then (if x5 < (x0.length : Int) then (if x6 < ((rd_L2 x0 x5).length : Int) then (if 0 ≤ x6 then (if x5 < (x1.length : Int) then (if x6 < ((rd_L2 x1 x5).length : Int) then ((dioramaref01_SameInts.f k (rd_L1 (rd_L2 x0 x5) x6) (rd_L1 (rd_L2 x1 x5) x6)).bind fun t225 => (if t225 = true then (dioramaref36_SameWorld.l1 k x0 x1 x5 (wrap64 (x6 + 1))) else (some false))) else (none)) else (none)) else (none)) else (dioramaref36_SameWorld.l0 k x0 x1 (wrap64 (x5 + 1)))) else (none)) else (none)
end
def dioramaref36_SameWorld.f (k : Nat) (l0 : List (List (List Int))) (l1 : List (List (List Int))) : Option (Bool) := if (l0.length : Int) = (l1.length : Int) then (dioramaref36_SameWorld.l0 k l0 l1 0) else (some false)
set_option maxHeartbeats 8000000 in
set_option maxRecDepth 100000 in
theorem dioramaref36_SameWorld.calls (k : Nat) (A0 : Option Addr) (c0 : Nat) (l0 : List (List (List Int))) (A1 : Option Addr) (c1 : Nat) (l1 : List (List (List Int))) (r : Bool) (w : World) (hr0 : Kd.C (Kd.slice 22 (Kd.slice 3 (Kd.int .i64))) w A0 l0.length l0) (hc0 : l0.length ≤ c0) (hr1 : Kd.C (Kd.slice 22 (Kd.slice 3 (Kd.int .i64))) w A1 l1.length l1) (hc1 : l1.length ≤ c1) (h : dioramaref36_SameWorld.f k l0 l1 = some r) :
  Calls Try.prog 21 #[.slice A0 l0.length c0, .slice A1 l1.length c1] w fun e w' => e = .returned (.bool r) ∧ Drawn0 w w' := by
 have HR0 := Aside0.mk hr0; have HC0 := Aside0.mk hc0; clear hr0 hc0; have HR1 := Aside0.mk hr1; have HC1 := Aside0.mk hc1; clear hr1 hc1; have H : (if (l0.length : Int) = (l1.length : Int) then (dioramaref36_SameWorld.l0 k l0 l1 0) else (some false)) = some r := h; clear h
 by_cases c3 : (l0.length : Int) = (l1.length : Int)
 ·rw [if_pos c3] at H
  have c3b0 : ((l0.length : Int) == (l1.length : Int)) = true := beq_iff_eq.mpr c3; have c3b1 : ((l0.length : Int) != (l1.length : Int)) = false := bne_eq_false_iff_eq.mpr c3
  have c3b2 : (l0.length == l1.length) = true := by first | simpa using c3 | (simp at c3 ⊢; omega)
  clear c3; have H' := Aside0.mk H; clear H
  go_enter Try.func21, Try.ntmps21
  go_wp2
  repeat (go_quiet (fail); try go_wp2)
  go_loopg [5] k (fun kq v5 w' => ∃ (x5_1 : Int), v5 = .int .i64 x5_1 ∧ Aside0 (dioramaref36_SameWorld.l0 kq l0 l1 x5_1 = some r) ∧ Aside0 (kq ≤ k) ∧ Drawn0 w w')
  case atStart => exact ⟨(0), (by first | rfl | (simp; done) | (simp [*]; done)), H', ⟨Nat.le_refl _⟩, by repeat (first | exact Drawn0.refl _ | apply Drawn0.step)⟩
  case round =>
   clear H'
   try clear c1
   try clear c2
   try clear p2
   try clear c3
   try clear c3b0
   try clear c3b1
   try clear c3b2
   obtain ⟨x5_1, rfl, HA, HK1, ⟨m1, rfl⟩⟩ := hrel
   cases gk with
   | zero => exact absurd HA.out (by simp [dioramaref36_SameWorld.l0])
   | succ k1 =>
    have H := HA.out; clear HA; simp only [dioramaref36_SameWorld.l0] at H
    by_cases c4 : x5_1 < (l0.length : Int)
    ·rw [if_pos c4] at H
     have c4b0 : decide (x5_1 < (l0.length : Int)) = true := decide_eq_true c4; clear c4
     by_cases c5 : 0 ≤ x5_1
     ·rw [if_pos c5] at H
      have c5b0 : decide (0 ≤ x5_1) = true := decide_eq_true c5; clear c5
      by_cases c6 : x5_1 < (l1.length : Int)
      ·rw [if_pos c6] at H
       have c6b0 : decide (x5_1 < (l1.length : Int)) = true := decide_eq_true c6; clear c6
       by_cases c7 : ((rd_L2 l0 x5_1).length : Int) = ((rd_L2 l1 x5_1).length : Int)
       ·rw [if_pos c7] at H
        have c7b0 : (((rd_L2 l0 x5_1).length : Int) == ((rd_L2 l1 x5_1).length : Int)) = true := beq_iff_eq.mpr c7; have c7b1 : (((rd_L2 l0 x5_1).length : Int) != ((rd_L2 l1 x5_1).length : Int)) = false := bne_eq_false_iff_eq.mpr c7
        have c7b2 : ((rd_L2 l0 x5_1).length == (rd_L2 l1 x5_1).length) = true := by first | simpa using c7 | (simp at c7 ⊢; omega)
        clear c7; have H' := Aside0.mk H; clear H; have p218 : 0 ≤ (x5_1 : Int) := of_decide_eq_true (by first | (with_reducible assumption) | assumption); have q218 : x5_1 < (l0.length : Int) := of_decide_eq_true (by first | (with_reducible assumption) | assumption); obtain ⟨ad218, A218_0, c218_0, e218, hx218_0, hl218_0, hi218_0⟩ := at_L2 HR0.out x5_1 p218 q218
        cases e218
        have HR218_0 := Aside0.mk hi218_0; have HC218_0 := Aside0.mk hl218_0; clear hi218_0 hl218_0; replace p218 := eq_true p218; replace q218 := eq_true q218; have p219 : 0 ≤ (x5_1 : Int) := of_decide_eq_true (by first | (with_reducible assumption) | assumption); have q219 : x5_1 < (l1.length : Int) := of_decide_eq_true (by first | (with_reducible assumption) | assumption); obtain ⟨ad219, A219_0, c219_0, e219, hx219_0, hl219_0, hi219_0⟩ := at_L2 HR1.out x5_1 p219 q219
        cases e219
        have HR219_0 := Aside0.mk hi219_0; have HC219_0 := Aside0.mk hl219_0; clear hi219_0 hl219_0; replace p219 := eq_true p219; replace q219 := eq_true q219; go_wp2
        repeat (go_quiet (fail); try go_wp2)
        go_loopg [6] k1 (fun kq v6 w' => ∃ (x6_2 : Int), v6 = .int .i64 x6_2 ∧ Aside0 (dioramaref36_SameWorld.l1 kq l0 l1 x5_1 x6_2 = some r) ∧ Aside0 (kq ≤ k1) ∧ Drawn0 w w')
        case atStart => exact ⟨(0), (by first | rfl | (simp; done) | (simp [*]; done)), H', ⟨Nat.le_refl _⟩, by repeat (first | exact Drawn0.refl _ | apply Drawn0.step)⟩
        case round =>
         clear H'
         try clear c1
         try clear c2
         try clear p2
         try clear q2
         try clear hx2
         try clear c3
         try clear c3b0
         try clear c3b1
         try clear c3b2
         try clear c4
         try clear c4b0
         try clear c5
         try clear c5b0
         try clear c6
         try clear c6b0
         try clear c7
         try clear c7b0
         try clear c7b1
         try clear c7b2
         try clear hx218_0
         try clear hx219_0
         try clear p2
         try clear p218
         try clear p219
         try clear q218
         try clear q219
         obtain ⟨x6_2, rfl, HA, HK2, ⟨m2, rfl⟩⟩ := hrel
         cases gk with
         | zero => exact absurd HA.out (by simp [dioramaref36_SameWorld.l1])
         | succ k2 =>
          have H := HA.out; clear HA; simp only [dioramaref36_SameWorld.l1] at H
          by_cases c8 : 0 ≤ x5_1
          ·rw [if_pos c8] at H
           have c8b0 : decide (0 ≤ x5_1) = true := decide_eq_true c8; clear c8
           by_cases c9 : x5_1 < (l0.length : Int)
           ·rw [if_pos c9] at H
            have c9b0 : decide (x5_1 < (l0.length : Int)) = true := decide_eq_true c9; clear c9
            by_cases c10 : x6_2 < ((rd_L2 l0 x5_1).length : Int)
            ·rw [if_pos c10] at H
             have c10b0 : decide (x6_2 < ((rd_L2 l0 x5_1).length : Int)) = true := decide_eq_true c10; clear c10
             by_cases c11 : 0 ≤ x6_2
             ·rw [if_pos c11] at H
              have c11b0 : decide (0 ≤ x6_2) = true := decide_eq_true c11; clear c11
              by_cases c12 : x5_1 < (l1.length : Int)
              ·rw [if_pos c12] at H
               have c12b0 : decide (x5_1 < (l1.length : Int)) = true := decide_eq_true c12; clear c12
               by_cases c13 : x6_2 < ((rd_L2 l1 x5_1).length : Int)
               ·rw [if_pos c13] at H
                have c13b0 : decide (x6_2 < ((rd_L2 l1 x5_1).length : Int)) = true := decide_eq_true c13; clear c13; replace H := Option.bind_eq_some_iff.mp H; obtain ⟨t225, A140, H⟩ := H; replace H : (if t225 = true then (dioramaref36_SameWorld.l1 k2 l0 l1 x5_1 (wrap64 (x6_2 + 1))) else (some false)) = some r := H; have A14 := Aside0.mk A140; clear A140
                by_cases c15 : t225 = true
                ·subst c15
                 have H1 : (dioramaref36_SameWorld.l1 k2 l0 l1 x5_1 (wrap64 (x6_2 + 1))) = some r := by rw [if_pos rfl] at H; exact H
                 clear H; have H := H1; clear H1; have H' := Aside0.mk H; clear H; have p220 : 0 ≤ (x5_1 : Int) := of_decide_eq_true (by first | (with_reducible assumption) | assumption); have q220 : x5_1 < (l0.length : Int) := of_decide_eq_true (by first | (with_reducible assumption) | assumption); obtain ⟨ad220, A220_0, c220_0, e220, hx220_0, hl220_0, hi220_0⟩ := at_L2 HR0.out x5_1 p220 q220; obtain rfl : ad218 = ad220 := (by injection e220); have HR220_0 := Aside0.mk hi220_0; have HC220_0 := Aside0.mk hl220_0; clear hi220_0 hl220_0; replace p220 := eq_true p220; replace q220 := eq_true q220; have p221 : 0 ≤ (x5_1 : Int) := of_decide_eq_true (by first | (with_reducible assumption) | assumption); have q221 : x5_1 < (l0.length : Int) := of_decide_eq_true (by first | (with_reducible assumption) | assumption); obtain ⟨ad221, A221_0, c221_0, e221, hx221_0, hl221_0, hi221_0⟩ := at_L2 HR0.out x5_1 p221 q221; obtain rfl : ad218 = ad221 := (by injection e221); have HR221_0 := Aside0.mk hi221_0; have HC221_0 := Aside0.mk hl221_0; clear hi221_0 hl221_0; replace p221 := eq_true p221; replace q221 := eq_true q221; have ea_ := Option.some.inj (hx220_0.symm.trans hx221_0)
                 injection ea_ with ea_ en_ ec_
                 subst ea_; subst ec_; clear en_; have p222 : 0 ≤ (x6_2 : Int) := of_decide_eq_true (by first | (with_reducible assumption) | assumption); have q222 : x6_2 < ((rd_L2 l0 x5_1).length : Int) := of_decide_eq_true (by first | (with_reducible assumption) | assumption); obtain ⟨ad222, A222_0, c222_0, e222, hx222_0, hl222_0, hi222_0⟩ := at_L1 HR221_0.out x6_2 p222 q222
                 cases e222
                 have HR222_0 := Aside0.mk hi222_0; have HC222_0 := Aside0.mk hl222_0; clear hi222_0 hl222_0; replace p222 := eq_true p222; replace q222 := eq_true q222; have p223 : 0 ≤ (x5_1 : Int) := of_decide_eq_true (by first | (with_reducible assumption) | assumption); have q223 : x5_1 < (l1.length : Int) := of_decide_eq_true (by first | (with_reducible assumption) | assumption); obtain ⟨ad223, A223_0, c223_0, e223, hx223_0, hl223_0, hi223_0⟩ := at_L2 HR1.out x5_1 p223 q223; obtain rfl : ad219 = ad223 := (by injection e223); have HR223_0 := Aside0.mk hi223_0; have HC223_0 := Aside0.mk hl223_0; clear hi223_0 hl223_0; replace p223 := eq_true p223; replace q223 := eq_true q223; have p224 : 0 ≤ (x6_2 : Int) := of_decide_eq_true (by first | (with_reducible assumption) | assumption); have q224 : x6_2 < ((rd_L2 l1 x5_1).length : Int) := of_decide_eq_true (by first | (with_reducible assumption) | assumption); obtain ⟨ad224, A224_0, c224_0, e224, hx224_0, hl224_0, hi224_0⟩ := at_L1 HR223_0.out x6_2 p224 q224
                 cases e224
                 have HR224_0 := Aside0.mk hi224_0; have HC224_0 := Aside0.mk hl224_0; clear hi224_0 hl224_0; replace p224 := eq_true p224; replace q224 := eq_true q224
                 go_wp2_with (first | (go_at_call 31; (with_reducible refine (dioramaref01_SameInts.calls k2 _ _ (rd_L1 (rd_L2 l0 x5_1) x6_2) _ _ (rd_L1 (rd_L2 l1 x5_1) x6_2) true _ ?side1 ?side2 ?side3 ?side4 A14.out).mono ?_); (case side1 => repeat (first | exact HR222_0.out | (with_reducible refine Kd.C_alloc ?_ _) | (with_reducible refine Kd.C_drewN ?_ _) | (with_reducible refine Kd.C_drew ?_))); (case side2 => exact HC222_0.out); (case side3 => repeat (first | exact HR224_0.out | (with_reducible refine Kd.C_alloc ?_ _) | (with_reducible refine Kd.C_drewN ?_ _) | (with_reducible refine Kd.C_drew ?_))); (case side4 => exact HC224_0.out); rintro e w' ⟨rfl, ⟨nd, rfl⟩⟩; (try first | exact ⟨rfl, _, World.drewN_drewN _ _ _⟩ | exact ⟨rfl, _, Eq.trans (World.drewN_drewN _ _ _) (congrArg (World.drewN _) (Nat.add_assoc _ _ _))⟩)))
                 repeat (go_quiet (first | (go_at_call 31; (with_reducible refine (dioramaref01_SameInts.calls k2 _ _ (rd_L1 (rd_L2 l0 x5_1) x6_2) _ _ (rd_L1 (rd_L2 l1 x5_1) x6_2) true _ ?side1 ?side2 ?side3 ?side4 A14.out).mono ?_); (case side1 => repeat (first | exact HR222_0.out | (with_reducible refine Kd.C_alloc ?_ _) | (with_reducible refine Kd.C_drewN ?_ _) | (with_reducible refine Kd.C_drew ?_))); (case side2 => exact HC222_0.out); (case side3 => repeat (first | exact HR224_0.out | (with_reducible refine Kd.C_alloc ?_ _) | (with_reducible refine Kd.C_drewN ?_ _) | (with_reducible refine Kd.C_drew ?_))); (case side4 => exact HC224_0.out); rintro e w' ⟨rfl, ⟨nd, rfl⟩⟩; (try first | exact ⟨rfl, _, World.drewN_drewN _ _ _⟩ | exact ⟨rfl, _, Eq.trans (World.drewN_drewN _ _ _) (congrArg (World.drewN _) (Nat.add_assoc _ _ _))⟩))); try go_wp2_with (first | (go_at_call 31; (with_reducible refine (dioramaref01_SameInts.calls k2 _ _ (rd_L1 (rd_L2 l0 x5_1) x6_2) _ _ (rd_L1 (rd_L2 l1 x5_1) x6_2) true _ ?side1 ?side2 ?side3 ?side4 A14.out).mono ?_); (case side1 => repeat (first | exact HR222_0.out | (with_reducible refine Kd.C_alloc ?_ _) | (with_reducible refine Kd.C_drewN ?_ _) | (with_reducible refine Kd.C_drew ?_))); (case side2 => exact HC222_0.out); (case side3 => repeat (first | exact HR224_0.out | (with_reducible refine Kd.C_alloc ?_ _) | (with_reducible refine Kd.C_drewN ?_ _) | (with_reducible refine Kd.C_drew ?_))); (case side4 => exact HC224_0.out); rintro e w' ⟨rfl, ⟨nd, rfl⟩⟩; (try first | exact ⟨rfl, _, World.drewN_drewN _ _ _⟩ | exact ⟨rfl, _, Eq.trans (World.drewN_drewN _ _ _) (congrArg (World.drewN _) (Nat.add_assoc _ _ _))⟩))))
                 go_roundg k2
                 case measure => have := HK1.out; have := HK2.out; omega
                 case rel => exact ⟨(wrap64 (x6_2 + 1)), (by first | rfl | (simp; done) | (simp [*]; done)), H', ⟨by have := HK1.out; have := HK2.out; omega⟩, by repeat (first | exact Drawn0.refl _ | apply Drawn0.step)⟩
                ·replace c15 := Bool.eq_false_iff.mpr c15
                 subst c15
                 have H1 : (some false) = some r := by rw [if_neg (show ¬ (false = true) by decide)] at H; exact H
                 clear H; have H := H1; clear H1; obtain rfl := Option.some.inj H; have p220 : 0 ≤ (x5_1 : Int) := of_decide_eq_true (by first | (with_reducible assumption) | assumption); have q220 : x5_1 < (l0.length : Int) := of_decide_eq_true (by first | (with_reducible assumption) | assumption); obtain ⟨ad220, A220_0, c220_0, e220, hx220_0, hl220_0, hi220_0⟩ := at_L2 HR0.out x5_1 p220 q220; obtain rfl : ad218 = ad220 := (by injection e220); have HR220_0 := Aside0.mk hi220_0; have HC220_0 := Aside0.mk hl220_0; clear hi220_0 hl220_0; replace p220 := eq_true p220; replace q220 := eq_true q220; have p221 : 0 ≤ (x5_1 : Int) := of_decide_eq_true (by first | (with_reducible assumption) | assumption); have q221 : x5_1 < (l0.length : Int) := of_decide_eq_true (by first | (with_reducible assumption) | assumption); obtain ⟨ad221, A221_0, c221_0, e221, hx221_0, hl221_0, hi221_0⟩ := at_L2 HR0.out x5_1 p221 q221; obtain rfl : ad218 = ad221 := (by injection e221); have HR221_0 := Aside0.mk hi221_0; have HC221_0 := Aside0.mk hl221_0; clear hi221_0 hl221_0; replace p221 := eq_true p221; replace q221 := eq_true q221; have ea_ := Option.some.inj (hx220_0.symm.trans hx221_0)
                 injection ea_ with ea_ en_ ec_
                 subst ea_; subst ec_; clear en_; have p222 : 0 ≤ (x6_2 : Int) := of_decide_eq_true (by first | (with_reducible assumption) | assumption); have q222 : x6_2 < ((rd_L2 l0 x5_1).length : Int) := of_decide_eq_true (by first | (with_reducible assumption) | assumption); obtain ⟨ad222, A222_0, c222_0, e222, hx222_0, hl222_0, hi222_0⟩ := at_L1 HR221_0.out x6_2 p222 q222
                 cases e222
                 have HR222_0 := Aside0.mk hi222_0; have HC222_0 := Aside0.mk hl222_0; clear hi222_0 hl222_0; replace p222 := eq_true p222; replace q222 := eq_true q222; have p223 : 0 ≤ (x5_1 : Int) := of_decide_eq_true (by first | (with_reducible assumption) | assumption); have q223 : x5_1 < (l1.length : Int) := of_decide_eq_true (by first | (with_reducible assumption) | assumption); obtain ⟨ad223, A223_0, c223_0, e223, hx223_0, hl223_0, hi223_0⟩ := at_L2 HR1.out x5_1 p223 q223; obtain rfl : ad219 = ad223 := (by injection e223); have HR223_0 := Aside0.mk hi223_0; have HC223_0 := Aside0.mk hl223_0; clear hi223_0 hl223_0; replace p223 := eq_true p223; replace q223 := eq_true q223; have p224 : 0 ≤ (x6_2 : Int) := of_decide_eq_true (by first | (with_reducible assumption) | assumption); have q224 : x6_2 < ((rd_L2 l1 x5_1).length : Int) := of_decide_eq_true (by first | (with_reducible assumption) | assumption); obtain ⟨ad224, A224_0, c224_0, e224, hx224_0, hl224_0, hi224_0⟩ := at_L1 HR223_0.out x6_2 p224 q224
                 cases e224
                 have HR224_0 := Aside0.mk hi224_0; have HC224_0 := Aside0.mk hl224_0; clear hi224_0 hl224_0; replace p224 := eq_true p224; replace q224 := eq_true q224
                 go_wp2_with (first | (go_at_call 31; (with_reducible refine (dioramaref01_SameInts.calls k2 _ _ (rd_L1 (rd_L2 l0 x5_1) x6_2) _ _ (rd_L1 (rd_L2 l1 x5_1) x6_2) false _ ?side1 ?side2 ?side3 ?side4 A14.out).mono ?_); (case side1 => repeat (first | exact HR222_0.out | (with_reducible refine Kd.C_alloc ?_ _) | (with_reducible refine Kd.C_drewN ?_ _) | (with_reducible refine Kd.C_drew ?_))); (case side2 => exact HC222_0.out); (case side3 => repeat (first | exact HR224_0.out | (with_reducible refine Kd.C_alloc ?_ _) | (with_reducible refine Kd.C_drewN ?_ _) | (with_reducible refine Kd.C_drew ?_))); (case side4 => exact HC224_0.out); rintro e w' ⟨rfl, ⟨nd, rfl⟩⟩; (try first | exact ⟨rfl, _, World.drewN_drewN _ _ _⟩ | exact ⟨rfl, _, Eq.trans (World.drewN_drewN _ _ _) (congrArg (World.drewN _) (Nat.add_assoc _ _ _))⟩)))
                 repeat (go_quiet (first | (go_at_call 31; (with_reducible refine (dioramaref01_SameInts.calls k2 _ _ (rd_L1 (rd_L2 l0 x5_1) x6_2) _ _ (rd_L1 (rd_L2 l1 x5_1) x6_2) false _ ?side1 ?side2 ?side3 ?side4 A14.out).mono ?_); (case side1 => repeat (first | exact HR222_0.out | (with_reducible refine Kd.C_alloc ?_ _) | (with_reducible refine Kd.C_drewN ?_ _) | (with_reducible refine Kd.C_drew ?_))); (case side2 => exact HC222_0.out); (case side3 => repeat (first | exact HR224_0.out | (with_reducible refine Kd.C_alloc ?_ _) | (with_reducible refine Kd.C_drewN ?_ _) | (with_reducible refine Kd.C_drew ?_))); (case side4 => exact HC224_0.out); rintro e w' ⟨rfl, ⟨nd, rfl⟩⟩; (try first | exact ⟨rfl, _, World.drewN_drewN _ _ _⟩ | exact ⟨rfl, _, Eq.trans (World.drewN_drewN _ _ _) (congrArg (World.drewN _) (Nat.add_assoc _ _ _))⟩))); try go_wp2_with (first | (go_at_call 31; (with_reducible refine (dioramaref01_SameInts.calls k2 _ _ (rd_L1 (rd_L2 l0 x5_1) x6_2) _ _ (rd_L1 (rd_L2 l1 x5_1) x6_2) false _ ?side1 ?side2 ?side3 ?side4 A14.out).mono ?_); (case side1 => repeat (first | exact HR222_0.out | (with_reducible refine Kd.C_alloc ?_ _) | (with_reducible refine Kd.C_drewN ?_ _) | (with_reducible refine Kd.C_drew ?_))); (case side2 => exact HC222_0.out); (case side3 => repeat (first | exact HR224_0.out | (with_reducible refine Kd.C_alloc ?_ _) | (with_reducible refine Kd.C_drewN ?_ _) | (with_reducible refine Kd.C_drew ?_))); (case side4 => exact HC224_0.out); rintro e w' ⟨rfl, ⟨nd, rfl⟩⟩; (try first | exact ⟨rfl, _, World.drewN_drewN _ _ _⟩ | exact ⟨rfl, _, Eq.trans (World.drewN_drewN _ _ _) (congrArg (World.drewN _) (Nat.add_assoc _ _ _))⟩))))
                 go_ret; exact ⟨by first | rfl | (simp; done) | (simp [*]; done), by repeat (first | exact Drawn0.refl _ | apply Drawn0.step)⟩
               (· rw [if_neg c13] at H; exact absurd H (by simp))
              (· rw [if_neg c12] at H; exact absurd H (by simp))
             (· rw [if_neg c11] at H; exact absurd H (by simp))
            ·rw [if_neg c10] at H
             have c10b0 : decide (x6_2 < ((rd_L2 l0 x5_1).length : Int)) = false := decide_eq_false c10; clear c10; have H' := Aside0.mk H; clear H; have p220 : 0 ≤ (x5_1 : Int) := of_decide_eq_true (by first | (with_reducible assumption) | assumption); have q220 : x5_1 < (l0.length : Int) := of_decide_eq_true (by first | (with_reducible assumption) | assumption); obtain ⟨ad220, A220_0, c220_0, e220, hx220_0, hl220_0, hi220_0⟩ := at_L2 HR0.out x5_1 p220 q220; obtain rfl : ad218 = ad220 := (by injection e220); have HR220_0 := Aside0.mk hi220_0; have HC220_0 := Aside0.mk hl220_0; clear hi220_0 hl220_0; replace p220 := eq_true p220; replace q220 := eq_true q220; go_wp2
             repeat (go_quiet (fail); try go_wp2)
             go_roundg k2
             case measure => have := HK1.out; have := HK2.out; omega
             case rel => exact ⟨(wrap64 (x5_1 + 1)), (by first | rfl | (simp; done) | (simp [*]; done)), H', ⟨by have := HK1.out; have := HK2.out; omega⟩, by repeat (first | exact Drawn0.refl _ | apply Drawn0.step)⟩
           (· rw [if_neg c9] at H; exact absurd H (by simp))
          (· rw [if_neg c8] at H; exact absurd H (by simp))
       ·rw [if_neg c7] at H
        have c7b0 : (((rd_L2 l0 x5_1).length : Int) == ((rd_L2 l1 x5_1).length : Int)) = false := beq_eq_false_iff_ne.mpr c7; have c7b1 : (((rd_L2 l0 x5_1).length : Int) != ((rd_L2 l1 x5_1).length : Int)) = true := bne_iff_ne.mpr c7
        have c7b2 : ((rd_L2 l0 x5_1).length == (rd_L2 l1 x5_1).length) = false := by first | simpa using c7 | (simp at c7 ⊢; omega)
        obtain rfl := Option.some.inj H; have p218 : 0 ≤ (x5_1 : Int) := of_decide_eq_true (by first | (with_reducible assumption) | assumption); have q218 : x5_1 < (l0.length : Int) := of_decide_eq_true (by first | (with_reducible assumption) | assumption); obtain ⟨ad218, A218_0, c218_0, e218, hx218_0, hl218_0, hi218_0⟩ := at_L2 HR0.out x5_1 p218 q218
        cases e218
        have HR218_0 := Aside0.mk hi218_0; have HC218_0 := Aside0.mk hl218_0; clear hi218_0 hl218_0; replace p218 := eq_true p218; replace q218 := eq_true q218; have p219 : 0 ≤ (x5_1 : Int) := of_decide_eq_true (by first | (with_reducible assumption) | assumption); have q219 : x5_1 < (l1.length : Int) := of_decide_eq_true (by first | (with_reducible assumption) | assumption); obtain ⟨ad219, A219_0, c219_0, e219, hx219_0, hl219_0, hi219_0⟩ := at_L2 HR1.out x5_1 p219 q219
        cases e219
        have HR219_0 := Aside0.mk hi219_0; have HC219_0 := Aside0.mk hl219_0; clear hi219_0 hl219_0; replace p219 := eq_true p219; replace q219 := eq_true q219; go_wp2
        repeat (go_quiet (fail); try go_wp2)
        go_ret; exact ⟨by first | rfl | (simp; done) | (simp [*]; done), by repeat (first | exact Drawn0.refl _ | apply Drawn0.step)⟩
      (· rw [if_neg c6] at H; exact absurd H (by simp))
     (· rw [if_neg c5] at H; exact absurd H (by simp))
    ·rw [if_neg c4] at H
     have c4b0 : decide (x5_1 < (l0.length : Int)) = false := decide_eq_false c4; clear c4; obtain rfl := Option.some.inj H; go_wp2
     repeat (go_quiet (fail); try go_wp2)
     go_ret; exact ⟨by first | rfl | (simp; done) | (simp [*]; done), by repeat (first | exact Drawn0.refl _ | apply Drawn0.step)⟩
 ·rw [if_neg c3] at H
  have c3b0 : ((l0.length : Int) == (l1.length : Int)) = false := beq_eq_false_iff_ne.mpr c3; have c3b1 : ((l0.length : Int) != (l1.length : Int)) = true := bne_iff_ne.mpr c3
  have c3b2 : (l0.length == l1.length) = false := by first | simpa using c3 | (simp at c3 ⊢; omega)
  obtain rfl := Option.some.inj H
  go_enter Try.func21, Try.ntmps21
  go_wp2
  repeat (go_quiet (fail); try go_wp2)
  go_ret; exact ⟨by first | rfl | (simp; done) | (simp [*]; done), by repeat (first | exact Drawn0.refl _ | apply Drawn0.step)⟩
end Go.Proofs.Ytcgpemefmakjiaa.PX
namespace Go.Proofs.Ytcgpemefmakjiaa.PX
open Go.RowKit Go.Proofs.YtcgpemefmakjiaaW.PrintWords Go.Proofs.YtcgpemefmakjiaaW.PrintLast Go.Proofs.YtcgpemefmakjiaaW.PrintMore
set_option linter.unusedVariables false
set_option linter.unusedSimpArgs false
namespace Lives
def la : Wd := [[[1, 2], [3, 4]]]
def lb : Wd := [[[1, 5], [3, 4], [6, 7]]]
def lc : Wd := [[[1, 2], [5, 6]]]
def ld : Wd := [[[1, 2, 3], [4, 5, 6]]]
def le : Wd := [[[1, 2, 3], [7, 8, 9]]]
def d1 : List S61 := [⟨0, 0, 1, 2, 5, []⟩, ⟨0, 2, -1, 0, 0, [6, 7]⟩]
def d2 : List S61 := [⟨0, 1, 0, 3, 5, []⟩, ⟨0, 1, 1, 4, 6, []⟩]
def d3 : List S61 := [⟨0, 1, -2, 0, 0, [4, 5, 6]⟩, ⟨0, 1, -1, 0, 0, [7, 8, 9]⟩]
def p1 : List S76 := [⟨0, 0, 1, 2, 5, []⟩, ⟨0, 2, -1, 0, 0, [6, 7]⟩]
theorem e1 : diff_Diff.f la lb = some (d1, 0) := by rfl
theorem e2 : diff_Diff.f la lc = some (d2, 0) := by rfl
theorem e3 : diff_Diff.f ld le = some (d3, 0) := by rfl
theorem e4 : diff_Apply.f la d1 = some (lb, 0) := by rfl
theorem e5 : dioramaref36_SameWorld.f 20 lb lb = some true := by kernel_rfl
theorem e6 : dioramalaw36_plain.f 20 d1 = some p1 := by kernel_rfl
theorem e7 : dioramaref36_SameAll.f 20 p1 p1 = some true := by kernel_rfl
def AllR {α β : Type} (R : α → β → Prop) : List α → List β → Prop
 | [], [] => True
 | a :: l, b :: m => R a b ∧ AllR R l m
 | _, _ => False
theorem AllR.reps {α : Type} {R : Value → α → Prop} : ∀ {vs : List Value} {xs : List α}, AllR R vs xs → Reps (fun x c => ∃ v, c = [v] ∧ R v x) 1 xs vs
 | [], [], _ => ⟨rfl, fun j p h => by simp at h⟩
 | a :: l, b :: m, h => by
  have ih := AllR.reps h.2; refine ⟨by simp only [List.length_cons]; have := ih.1; omega, fun j p hj => ?_⟩
  cases j with
  | zero =>
   have : b = p := by simpa using hj
   subst this; exact ⟨a, by simp, h.1⟩
  | succ j =>
   have := ih.2 j p (by simpa using hj)
   have e : (j + 1) * 1 = j * 1 + 1 := by omega
   rw [e, List.drop_succ_cons]; exact this
 | [], _ :: _, h => h.elim
 | _ :: _, [], h => h.elim
theorem lit_row {α : Type} {d : Kd α} {W : World} {g : Nat} {cs : Array Value} {t : TypeId} {xs : List α} (h : W.heap[g]? = some (.cells cs t (0, 0))) (hm : xs.length ≤ 9223372036854775807) (hr : Reps (d.K W) d.sz xs cs.toList) : Kd.C d W (some ⟨g, 0, none⟩) xs.length xs := by
 refine ⟨rfl, hm, fun _ => ⟨_, rfl, fun j p hj => ⟨(cs.toList.drop (j * d.sz)).take d.sz, d.K_len (hr.2 j p hj), hr.2 j p hj, fun i u hi => ?_⟩⟩⟩; rw [add_head, cell_of_row W g _ cs t (0, 0) h]; rw [List.getElem?_take] at hi
 split at hi
 ·rw [List.getElem?_drop] at hi
  simpa using hi
 ·cases hi
theorem lit3 {W : World} {g : Nat} {cs : Array Value} {t : TypeId} {xs : List Int} (h : W.heap[g]? = some (.cells cs t (0, 0))) (hm : xs.length ≤ 9223372036854775807) (hr : AllR (fun v x => v = Value.int .i64 x) cs.toList xs) : Kd.C (Kd.int .i64) W (some ⟨g, 0, none⟩) xs.length xs :=
 lit_row h hm (hr.reps.imp_ (fun x c ⟨v, hc, hv⟩ => by subst hv; exact hc))
theorem litS {α : Type} {d : Kd α} {e : Nat} {W : World} {g : Nat} {cs : Array Value} {t : TypeId} {xs : List (List α)} (h : W.heap[g]? = some (.cells cs t (0, 0))) (hm : xs.length ≤ 9223372036854775807)
  (hr : AllR (fun v (x : List α) => ∃ A c, v = Value.slice A x.length c ∧ x.length ≤ c ∧ Kd.C d W A x.length x) cs.toList xs) : Kd.C (Kd.slice e d) W (some ⟨g, 0, none⟩) xs.length xs :=
 lit_row h hm (hr.reps.imp_ (fun x c ⟨v, hc, A, c', hv, h1, h2⟩ => by subst hv; exact ⟨A, c', hc, h1, h2⟩))
section
variable {P : Program} {ops : Array Oper} {rest : List Oper} {o : Oper} {a : Act} {Q : Exit → Act → World → Prop}
theorem lit_event {W : World} (hgd : o.guard = none) {N : Tmp} (_hd : o.dst = some N) {cs : Array Value} {t : TypeId} {n : Nat}
  (hrun : (execOp a.eval o).run P W = .ok (.value (.slice (some ⟨W.heap.size, 0, none⟩) n n)) (W.alloc (.cells cs t (0, 0))))
  (h : ∀ g, g = W.heap.size → ∀ w1, w1.heap[g]? = some (.cells cs t (0, 0)) → Below W.heap.size W w1 → wpList P ops Q rest (a.put o.dst (.slice (some ⟨g, 0, none⟩) n n)) w1) : wpList P ops Q (o :: rest) a W :=
 Kd.event_run hgd hrun (h _ rfl _ (blk_new W _) (below_alloc (Below.refl _ _) _))
end
abbrev CW (w : World) (g : Nat) (l : Wd) : Prop := Kd.C (Kd.slice 22 (Kd.slice 3 (Kd.int .i64))) w (some ⟨g, 0, none⟩) 1 l
def DPost (w : World) (d : List S61) (n : Nat) (e : Ending) (w' : World) : Prop := ∃ A c, e = .returned (.tuple #[.slice A n c, .int .i64 0]) ∧ Kd.N k61 61 w' w.heap.size (fun k_ => w.heap.size ≤ k_) (.slice A n c) d ∧ Below w.heap.size w w'
theorem diff_lit {la lb : Wd} {d : List S61} {n : Nat} (g h : Nat) (w : World) (hl : la.length = 1) (hm : lb.length = 1) (hn : d.length = n) (he : diff_Diff.f la lb = some (d, 0)) (hA : CW w g la) (hB : CW w h lb) :
  Calls Try.prog 14 #[.slice (some ⟨g, 0, none⟩) 1 1, .slice (some ⟨h, 0, none⟩) 1 1] w (DPost w d n) := by
 have := diff_Diff.calls (some ⟨g, 0, none⟩) 1 la (some ⟨h, 0, none⟩) 1 lb d 0 w (by rw [hl]; exact hA) (by omega) (by rw [hm]; exact hB) (by omega) he; rw [hl, hm] at this; refine this.mono ?_; rintro e w' ⟨v, rfl, h1, h2⟩; obtain ⟨A, c, rfl⟩ := Kd.N_slice h1; rw [hn] at h1 ⊢; exact ⟨A, c, rfl, h1, h2⟩
def APost (w : World) (l : Wd) (e : Ending) (w' : World) : Prop := ∃ A c, e = .returned (.tuple #[.slice A 1 c, .int .i64 0]) ∧ Kd.C (Kd.slice 22 (Kd.slice 3 (Kd.int .i64))) w' A 1 l ∧ 1 ≤ c ∧ Below w.heap.size w w'
theorem apply_lit (g : Nat) (A : Option Addr) (c : Nat) (w : World) (hA : CW w g la) (hB : Kd.C k61 w A 2 d1) (hc : 2 ≤ c) : Calls Try.prog 19 #[.slice (some ⟨g, 0, none⟩) 1 1, .slice A 2 c] w (APost w lb) := by
 have := diff_Apply.calls (some ⟨g, 0, none⟩) 1 la A c d1 lb 0 w hA (by decide) hB hc e4; refine this.mono ?_; rintro e w' ⟨v, rfl, h1, h2⟩; obtain ⟨A, c, rfl, h3, h4⟩ := Kd.R_reads h1; exact ⟨A, c, rfl, h4, h3, h2⟩
theorem same_lit (g : Nat) (A : Option Addr) (c : Nat) (w : World) (hA : Kd.C (Kd.slice 22 (Kd.slice 3 (Kd.int .i64))) w A 1 lb) (hc : 1 ≤ c) (hB : CW w g lb) : Calls Try.prog 21 #[.slice A 1 c, .slice (some ⟨g, 0, none⟩) 1 1] w fun e w' => e = .returned (.bool true) ∧ Drawn0 w w' :=
 dioramaref36_SameWorld.calls 20 A c lb (some ⟨g, 0, none⟩) 1 lb true w hA hc hB (by decide) e5
def PPost (w : World) (e : Ending) (w' : World) : Prop := ∃ A c, e = .returned (.slice A 2 c) ∧ Kd.C k76 w' A 2 p1 ∧ 2 ≤ c ∧ Below w.heap.size w w'
theorem plain_lit (A : Option Addr) (c : Nat) (w w1 : World) (base : Nat) (ok : Nat → Prop) (hA : Kd.N k61 61 w1 base ok (.slice A 2 c) d1) (hb : Below w1.heap.size w1 w) : Calls Try.prog 17 #[.slice A 2 c] w (PPost w) := by
 refine (dioramalaw36_plain.calls 20 ok A c d1 p1 w (Kd.V_below (Kd.N_V hA) hb) e6).mono ?_; rintro e w' ⟨v, rfl, h1, h2⟩; obtain ⟨A, c, rfl, h3, h4⟩ := Kd.N_reads h1; exact ⟨A, c, rfl, h4, h3, h2⟩
theorem all_lit (g : Nat) (A : Option Addr) (c : Nat) (w : World) (hA : Kd.C k76 w A 2 p1) (hc : 2 ≤ c) (hB : Kd.C k76 w (some ⟨g, 0, none⟩) 2 p1) : Calls Try.prog 16 #[.slice A 2 c, .slice (some ⟨g, 0, none⟩) 2 2] w fun e w' => e = .returned (.bool true) ∧ Below w.heap.size w w' :=
 dioramaref36_SameAll.calls 20 A c p1 (some ⟨g, 0, none⟩) 2 p1 true w hA hc hB (by decide) e7
theorem want {W : World} {g g85 : Nat} (h : W.heap[g]? = some (.cells #[.int .i64 0, .int .i64 0, .int .i64 1, .int .i64 2, .int .i64 5, .slice none 0 0, .int .i64 0, .int .i64 2, .int .i64 (-1), .int .i64 0, .int .i64 0, .slice (some ⟨g85, 0, none⟩) 2 2] 76 (0, 0))) (h85 : Kd.C (Kd.int .i64) W (some ⟨g85, 0, none⟩) 2 [6, 7]) : Kd.C k76 W (some ⟨g, 0, none⟩) 2 p1 :=
 lit_row h (by decide) ⟨rfl, fun j p hj => by
  rcases j with _ | _ | j
  (· obtain rfl := Option.some.inj hj; exact k76_mk W ⟨0, 0, 1, 2, 5, []⟩ (A5 := none) (c5 := 0) (by decide) ⟨rfl, by decide, fun h => absurd h (by decide)⟩); (· obtain rfl := Option.some.inj hj; exact k76_mk W ⟨0, 2, -1, 0, 0, [6, 7]⟩ (A5 := some ⟨g85, 0, none⟩) (c5 := 2) (by decide) h85)
  ·simp [p1] at hj⟩
set_option maxHeartbeats 4000000 in
set_option maxRecDepth 100000 in
theorem calls (w0 : World) : Calls Try.prog 18 #[] w0 fun e w' => e = .returned (.bool true) ∧ Below w0.heap.size w0 w' := by
 have hu61 := Try.underlying61; have hu76 := Try.underlying76
 go_enter Try.func18, Try.ntmps18
 go_upto_region 2 with (first
  | ((with_reducible refine gate_dst (N := 12) rfl ?_); refine lit_event ?hg (N := 12) ?hd (cs := #[.int .i64 1, .int .i64 2]) (t := 3) (n := 2) ?hr ?_; (case hd => rfl); (case hg => rfl); (case hr => first | (go_simp; done) | (go_simp; rfl)); intro g12 hgx w1 hbk hb; clear hgx; have B1 := Aside0.mk hb; have F12 : Aside0 (Kd.C (Kd.int .i64) w1 (some ⟨g12, 0, none⟩) 2 [1, 2]) := ⟨lit3 hbk (by decide) ⟨rfl, rfl, trivial⟩⟩; clear hb hbk)
  | ((with_reducible refine gate_dst (N := 13) rfl ?_); refine lit_event ?hg (N := 13) ?hd (cs := #[.int .i64 3, .int .i64 4]) (t := 3) (n := 2) ?hr ?_; (case hd => rfl); (case hg => rfl); (case hr => first | (go_simp; done) | (go_simp; rfl)); intro g13 hgx w2 hbk hb; clear hgx; have B2 := Aside0.mk hb; have F13 : Aside0 (Kd.C (Kd.int .i64) w2 (some ⟨g13, 0, none⟩) 2 [3, 4]) := ⟨lit3 hbk (by decide) ⟨rfl, rfl, trivial⟩⟩; clear hb hbk)
  | ((with_reducible refine gate_dst (N := 14) rfl ?_); refine lit_event ?hg (N := 14) ?hd (cs := #[.slice (some ⟨g12, 0, none⟩) 2 2, .slice (some ⟨g13, 0, none⟩) 2 2]) (t := 22) (n := 2) ?hr ?_; (case hd => rfl); (case hg => rfl); (case hr => first | (go_simp; done) | (go_simp; rfl)); intro g14 hgx w3 hbk hb; clear hgx; have B3 := Aside0.mk hb; have F14 : Aside0 (Kd.C (Kd.slice 3 (Kd.int .i64)) w3 (some ⟨g14, 0, none⟩) 2 [[1, 2], [3, 4]]) := ⟨litS hbk (by decide) ⟨⟨_, _, rfl, by decide, Kd.C_below F12.out (below_step (below_step (Below.refl _ _) B2.out) B3.out)⟩, ⟨_, _, rfl, by decide, Kd.C_below F13.out (below_step (Below.refl _ _) B3.out)⟩, trivial⟩⟩; clear hb hbk)
  | ((with_reducible refine gate_dst (N := 15) rfl ?_); refine lit_event ?hg (N := 15) ?hd (cs := #[.slice (some ⟨g14, 0, none⟩) 2 2]) (t := 64) (n := 1) ?hr ?_; (case hd => rfl); (case hg => rfl); (case hr => first | (go_simp; done) | (go_simp; rfl)); intro g15 hgx w4 hbk hb; clear hgx; have B4 := Aside0.mk hb; have F15 : Aside0 (Kd.C (Kd.slice 22 (Kd.slice 3 (Kd.int .i64))) w4 (some ⟨g15, 0, none⟩) 1 la) := ⟨litS hbk (by decide) ⟨⟨_, _, rfl, by decide, Kd.C_below F14.out (below_step (Below.refl _ _) B4.out)⟩, trivial⟩⟩; clear hb hbk))
 go_upto_region 3 with (first
  | ((with_reducible refine gate_dst (N := 16) rfl ?_); refine lit_event ?hg (N := 16) ?hd (cs := #[.int .i64 1, .int .i64 5]) (t := 3) (n := 2) ?hr ?_; (case hd => rfl); (case hg => rfl); (case hr => first | (go_simp; done) | (go_simp; rfl)); intro g16 hgx w5 hbk hb; clear hgx; have B5 := Aside0.mk hb; have F16 : Aside0 (Kd.C (Kd.int .i64) w5 (some ⟨g16, 0, none⟩) 2 [1, 5]) := ⟨lit3 hbk (by decide) ⟨rfl, rfl, trivial⟩⟩; clear hb hbk)
  | ((with_reducible refine gate_dst (N := 17) rfl ?_); refine lit_event ?hg (N := 17) ?hd (cs := #[.int .i64 3, .int .i64 4]) (t := 3) (n := 2) ?hr ?_; (case hd => rfl); (case hg => rfl); (case hr => first | (go_simp; done) | (go_simp; rfl)); intro g17 hgx w6 hbk hb; clear hgx; have B6 := Aside0.mk hb; have F17 : Aside0 (Kd.C (Kd.int .i64) w6 (some ⟨g17, 0, none⟩) 2 [3, 4]) := ⟨lit3 hbk (by decide) ⟨rfl, rfl, trivial⟩⟩; clear hb hbk)
  | ((with_reducible refine gate_dst (N := 18) rfl ?_); refine lit_event ?hg (N := 18) ?hd (cs := #[.int .i64 6, .int .i64 7]) (t := 3) (n := 2) ?hr ?_; (case hd => rfl); (case hg => rfl); (case hr => first | (go_simp; done) | (go_simp; rfl)); intro g18 hgx w7 hbk hb; clear hgx; have B7 := Aside0.mk hb; have F18 : Aside0 (Kd.C (Kd.int .i64) w7 (some ⟨g18, 0, none⟩) 2 [6, 7]) := ⟨lit3 hbk (by decide) ⟨rfl, rfl, trivial⟩⟩; clear hb hbk)
  | ((with_reducible refine gate_dst (N := 19) rfl ?_); refine lit_event ?hg (N := 19) ?hd (cs := #[.slice (some ⟨g16, 0, none⟩) 2 2, .slice (some ⟨g17, 0, none⟩) 2 2, .slice (some ⟨g18, 0, none⟩) 2 2]) (t := 22) (n := 3) ?hr ?_; (case hd => rfl); (case hg => rfl); (case hr => first | (go_simp; done) | (go_simp; rfl)); intro g19 hgx w8 hbk hb; clear hgx; have B8 := Aside0.mk hb; have F19 : Aside0 (Kd.C (Kd.slice 3 (Kd.int .i64)) w8 (some ⟨g19, 0, none⟩) 3 [[1, 5], [3, 4], [6, 7]]) := ⟨litS hbk (by decide) ⟨⟨_, _, rfl, by decide, Kd.C_below F16.out (below_step (below_step (below_step (Below.refl _ _) B6.out) B7.out) B8.out)⟩, ⟨_, _, rfl, by decide, Kd.C_below F17.out (below_step (below_step (Below.refl _ _) B7.out) B8.out)⟩, ⟨_, _, rfl, by decide, Kd.C_below F18.out (below_step (Below.refl _ _) B8.out)⟩, trivial⟩⟩; clear hb hbk)
  | ((with_reducible refine gate_dst (N := 20) rfl ?_); refine lit_event ?hg (N := 20) ?hd (cs := #[.slice (some ⟨g19, 0, none⟩) 3 3]) (t := 64) (n := 1) ?hr ?_; (case hd => rfl); (case hg => rfl); (case hr => first | (go_simp; done) | (go_simp; rfl)); intro g20 hgx w9 hbk hb; clear hgx; have B9 := Aside0.mk hb; have F20 : Aside0 (Kd.C (Kd.slice 22 (Kd.slice 3 (Kd.int .i64))) w9 (some ⟨g20, 0, none⟩) 1 lb) := ⟨litS hbk (by decide) ⟨⟨_, _, rfl, by decide, Kd.C_below F19.out (below_step (Below.refl _ _) B9.out)⟩, trivial⟩⟩; clear hb hbk))
 go_upto_region 4 with (first
  | (go_at_call 14; refine (diff_lit (la := la) (lb := lb) (d := d1) (n := 2) g15 g20 w9 rfl rfl rfl e1 ?x1 ?x2).mono ?_; (case x1 => exact Kd.C_below F15.out (below_step (below_step (below_step (below_step (below_step (Below.refl _ _) B5.out) B6.out) B7.out) B8.out) B9.out)); (case x2 => exact Kd.C_below F20.out (Below.refl _ _)); rintro e w10 ⟨AX, cX, rfl, hn, hb⟩; have B10 := Aside0.mk hb; have NX := Aside0.mk hn; clear hb hn))
 go_upto_region 5 with (first
  | (go_at_call 19; refine (apply_lit g15 AX cX w10 ?x1 ?x2 ?x3).mono ?_; (case x1 => exact Kd.C_below F15.out (below_step (below_step (below_step (below_step (below_step (below_step (Below.refl _ _) B5.out) B6.out) B7.out) B8.out) B9.out) B10.out)); (case x2 => exact (Kd.N_reads' NX.out).2.2); (case x3 => exact (Kd.N_reads' NX.out).2.1); rintro e w11 ⟨AY, cY, rfl, hn, hcY, hb⟩; have B11 := Aside0.mk hb; have NY := Aside0.mk hn; have CY := Aside0.mk hcY; clear hb hn hcY))
 go_upto_region 6 with (first
  | ((with_reducible refine gate_dst (N := 35) rfl ?_); refine lit_event ?hg (N := 35) ?hd (cs := #[.int .i64 1, .int .i64 2]) (t := 3) (n := 2) ?hr ?_; (case hd => rfl); (case hg => rfl); (case hr => first | (go_simp; done) | (go_simp; rfl)); intro g35 hgx w12 hbk hb; clear hgx; have B12 := Aside0.mk hb; have F35 : Aside0 (Kd.C (Kd.int .i64) w12 (some ⟨g35, 0, none⟩) 2 [1, 2]) := ⟨lit3 hbk (by decide) ⟨rfl, rfl, trivial⟩⟩; clear hb hbk)
  | ((with_reducible refine gate_dst (N := 36) rfl ?_); refine lit_event ?hg (N := 36) ?hd (cs := #[.int .i64 5, .int .i64 6]) (t := 3) (n := 2) ?hr ?_; (case hd => rfl); (case hg => rfl); (case hr => first | (go_simp; done) | (go_simp; rfl)); intro g36 hgx w13 hbk hb; clear hgx; have B13 := Aside0.mk hb; have F36 : Aside0 (Kd.C (Kd.int .i64) w13 (some ⟨g36, 0, none⟩) 2 [5, 6]) := ⟨lit3 hbk (by decide) ⟨rfl, rfl, trivial⟩⟩; clear hb hbk)
  | ((with_reducible refine gate_dst (N := 37) rfl ?_); refine lit_event ?hg (N := 37) ?hd (cs := #[.slice (some ⟨g35, 0, none⟩) 2 2, .slice (some ⟨g36, 0, none⟩) 2 2]) (t := 22) (n := 2) ?hr ?_; (case hd => rfl); (case hg => rfl); (case hr => first | (go_simp; done) | (go_simp; rfl)); intro g37 hgx w14 hbk hb; clear hgx; have B14 := Aside0.mk hb; have F37 : Aside0 (Kd.C (Kd.slice 3 (Kd.int .i64)) w14 (some ⟨g37, 0, none⟩) 2 [[1, 2], [5, 6]]) := ⟨litS hbk (by decide) ⟨⟨_, _, rfl, by decide, Kd.C_below F35.out (below_step (below_step (Below.refl _ _) B13.out) B14.out)⟩, ⟨_, _, rfl, by decide, Kd.C_below F36.out (below_step (Below.refl _ _) B14.out)⟩, trivial⟩⟩; clear hb hbk)
  | ((with_reducible refine gate_dst (N := 38) rfl ?_); refine lit_event ?hg (N := 38) ?hd (cs := #[.slice (some ⟨g37, 0, none⟩) 2 2]) (t := 64) (n := 1) ?hr ?_; (case hd => rfl); (case hg => rfl); (case hr => first | (go_simp; done) | (go_simp; rfl)); intro g38 hgx w15 hbk hb; clear hgx; have B15 := Aside0.mk hb; have F38 : Aside0 (Kd.C (Kd.slice 22 (Kd.slice 3 (Kd.int .i64))) w15 (some ⟨g38, 0, none⟩) 1 lc) := ⟨litS hbk (by decide) ⟨⟨_, _, rfl, by decide, Kd.C_below F37.out (below_step (Below.refl _ _) B15.out)⟩, trivial⟩⟩; clear hb hbk)
  | (go_at_call 14; refine (diff_lit (la := la) (lb := lc) (d := d2) (n := 2) g15 g38 w15 rfl rfl rfl e2 ?x1 ?x2).mono ?_; (case x1 => exact Kd.C_below F15.out (below_step (below_step (below_step (below_step (below_step (below_step (below_step (below_step (below_step (below_step (below_step (Below.refl _ _) B5.out) B6.out) B7.out) B8.out) B9.out) B10.out) B11.out) B12.out) B13.out) B14.out) B15.out)); (case x2 => exact Kd.C_below F38.out (Below.refl _ _)); rintro e w16 ⟨AM, cM, rfl, hn, hb⟩; have B16 := Aside0.mk hb; have NM := Aside0.mk hn; clear hb hn))
 go_upto_region 7 with (first
  | ((with_reducible refine gate_dst (N := 43) rfl ?_); refine lit_event ?hg (N := 43) ?hd (cs := #[.int .i64 1, .int .i64 2, .int .i64 3]) (t := 3) (n := 3) ?hr ?_; (case hd => rfl); (case hg => rfl); (case hr => first | (go_simp; done) | (go_simp; rfl)); intro g43 hgx w17 hbk hb; clear hgx; have B17 := Aside0.mk hb; have F43 : Aside0 (Kd.C (Kd.int .i64) w17 (some ⟨g43, 0, none⟩) 3 [1, 2, 3]) := ⟨lit3 hbk (by decide) ⟨rfl, rfl, rfl, trivial⟩⟩; clear hb hbk)
  | ((with_reducible refine gate_dst (N := 44) rfl ?_); refine lit_event ?hg (N := 44) ?hd (cs := #[.int .i64 4, .int .i64 5, .int .i64 6]) (t := 3) (n := 3) ?hr ?_; (case hd => rfl); (case hg => rfl); (case hr => first | (go_simp; done) | (go_simp; rfl)); intro g44 hgx w18 hbk hb; clear hgx; have B18 := Aside0.mk hb; have F44 : Aside0 (Kd.C (Kd.int .i64) w18 (some ⟨g44, 0, none⟩) 3 [4, 5, 6]) := ⟨lit3 hbk (by decide) ⟨rfl, rfl, rfl, trivial⟩⟩; clear hb hbk)
  | ((with_reducible refine gate_dst (N := 45) rfl ?_); refine lit_event ?hg (N := 45) ?hd (cs := #[.slice (some ⟨g43, 0, none⟩) 3 3, .slice (some ⟨g44, 0, none⟩) 3 3]) (t := 22) (n := 2) ?hr ?_; (case hd => rfl); (case hg => rfl); (case hr => first | (go_simp; done) | (go_simp; rfl)); intro g45 hgx w19 hbk hb; clear hgx; have B19 := Aside0.mk hb; have F45 : Aside0 (Kd.C (Kd.slice 3 (Kd.int .i64)) w19 (some ⟨g45, 0, none⟩) 2 [[1, 2, 3], [4, 5, 6]]) := ⟨litS hbk (by decide) ⟨⟨_, _, rfl, by decide, Kd.C_below F43.out (below_step (below_step (Below.refl _ _) B18.out) B19.out)⟩, ⟨_, _, rfl, by decide, Kd.C_below F44.out (below_step (Below.refl _ _) B19.out)⟩, trivial⟩⟩; clear hb hbk)
  | ((with_reducible refine gate_dst (N := 46) rfl ?_); refine lit_event ?hg (N := 46) ?hd (cs := #[.slice (some ⟨g45, 0, none⟩) 2 2]) (t := 64) (n := 1) ?hr ?_; (case hd => rfl); (case hg => rfl); (case hr => first | (go_simp; done) | (go_simp; rfl)); intro g46 hgx w20 hbk hb; clear hgx; have B20 := Aside0.mk hb; have F46 : Aside0 (Kd.C (Kd.slice 22 (Kd.slice 3 (Kd.int .i64))) w20 (some ⟨g46, 0, none⟩) 1 ld) := ⟨litS hbk (by decide) ⟨⟨_, _, rfl, by decide, Kd.C_below F45.out (below_step (Below.refl _ _) B20.out)⟩, trivial⟩⟩; clear hb hbk)
  | ((with_reducible refine gate_dst (N := 47) rfl ?_); refine lit_event ?hg (N := 47) ?hd (cs := #[.int .i64 1, .int .i64 2, .int .i64 3]) (t := 3) (n := 3) ?hr ?_; (case hd => rfl); (case hg => rfl); (case hr => first | (go_simp; done) | (go_simp; rfl)); intro g47 hgx w21 hbk hb; clear hgx; have B21 := Aside0.mk hb; have F47 : Aside0 (Kd.C (Kd.int .i64) w21 (some ⟨g47, 0, none⟩) 3 [1, 2, 3]) := ⟨lit3 hbk (by decide) ⟨rfl, rfl, rfl, trivial⟩⟩; clear hb hbk)
  | ((with_reducible refine gate_dst (N := 48) rfl ?_); refine lit_event ?hg (N := 48) ?hd (cs := #[.int .i64 7, .int .i64 8, .int .i64 9]) (t := 3) (n := 3) ?hr ?_; (case hd => rfl); (case hg => rfl); (case hr => first | (go_simp; done) | (go_simp; rfl)); intro g48 hgx w22 hbk hb; clear hgx; have B22 := Aside0.mk hb; have F48 : Aside0 (Kd.C (Kd.int .i64) w22 (some ⟨g48, 0, none⟩) 3 [7, 8, 9]) := ⟨lit3 hbk (by decide) ⟨rfl, rfl, rfl, trivial⟩⟩; clear hb hbk)
  | ((with_reducible refine gate_dst (N := 49) rfl ?_); refine lit_event ?hg (N := 49) ?hd (cs := #[.slice (some ⟨g47, 0, none⟩) 3 3, .slice (some ⟨g48, 0, none⟩) 3 3]) (t := 22) (n := 2) ?hr ?_; (case hd => rfl); (case hg => rfl); (case hr => first | (go_simp; done) | (go_simp; rfl)); intro g49 hgx w23 hbk hb; clear hgx; have B23 := Aside0.mk hb; have F49 : Aside0 (Kd.C (Kd.slice 3 (Kd.int .i64)) w23 (some ⟨g49, 0, none⟩) 2 [[1, 2, 3], [7, 8, 9]]) := ⟨litS hbk (by decide) ⟨⟨_, _, rfl, by decide, Kd.C_below F47.out (below_step (below_step (Below.refl _ _) B22.out) B23.out)⟩, ⟨_, _, rfl, by decide, Kd.C_below F48.out (below_step (Below.refl _ _) B23.out)⟩, trivial⟩⟩; clear hb hbk)
  | ((with_reducible refine gate_dst (N := 50) rfl ?_); refine lit_event ?hg (N := 50) ?hd (cs := #[.slice (some ⟨g49, 0, none⟩) 2 2]) (t := 64) (n := 1) ?hr ?_; (case hd => rfl); (case hg => rfl); (case hr => first | (go_simp; done) | (go_simp; rfl)); intro g50 hgx w24 hbk hb; clear hgx; have B24 := Aside0.mk hb; have F50 : Aside0 (Kd.C (Kd.slice 22 (Kd.slice 3 (Kd.int .i64))) w24 (some ⟨g50, 0, none⟩) 1 le) := ⟨litS hbk (by decide) ⟨⟨_, _, rfl, by decide, Kd.C_below F49.out (below_step (Below.refl _ _) B24.out)⟩, trivial⟩⟩; clear hb hbk)
  | (go_at_call 14; refine (diff_lit (la := ld) (lb := le) (d := d3) (n := 2) g46 g50 w24 rfl rfl rfl e3 ?x1 ?x2).mono ?_; (case x1 => exact Kd.C_below F46.out (below_step (below_step (below_step (below_step (Below.refl _ _) B21.out) B22.out) B23.out) B24.out)); (case x2 => exact Kd.C_below F50.out (Below.refl _ _)); rintro e w25 ⟨AK, cK, rfl, hn, hb⟩; have B25 := Aside0.mk hb; have NK := Aside0.mk hn; clear hb hn))
 obtain ⟨hmn, hmc, hmC⟩ := Kd.N_reads' NM.out; obtain ⟨hkn, hkc, hkC⟩ := Kd.N_reads' NK.out; obtain ⟨adM, _, _, eM, _, _, m0, _, _, _, _, _⟩ := at_T61 hmC 0 (by decide) (by decide); obtain ⟨adM', _, _, eM', _, _, m1, _, _, _, _, _⟩ := at_T61 hmC 1 (by decide) (by decide); obtain ⟨adK, _, _, eK, _, _, k0, _, _, _, _, _⟩ := at_T61 hkC 0 (by decide) (by decide); obtain ⟨adK', _, _, eK', _, _, k1, _, _, _, _, _⟩ := at_T61 hkC 1 (by decide) (by decide)
 cases eM
 cases eM'
 cases eK
 cases eK'
 have M0 := Aside0.mk (show w16.cell? ⟨adM.block, adM.off + 2, none⟩ = some (.int .i64 0) by rw [show (0 : Int).toNat * 6 = 0 from rfl, Addr.add_zero'] at m0; exact m0); have M1 := Aside0.mk (show w16.cell? ⟨adM.block, adM.off + 6 + 2, none⟩ = some (.int .i64 1) by (have h : adM.add ((1 : Int).toNat * 6) = ⟨adM.block, adM.off + 6, none⟩ := by simp [Addr.add]); rw [h] at m1; exact m1); have K0 := Aside0.mk (show w25.cell? ⟨adK.block, adK.off + 2, none⟩ = some (.int .i64 (-2)) by rw [show (0 : Int).toNat * 6 = 0 from rfl, Addr.add_zero'] at k0; exact k0); have K1 := Aside0.mk (show w25.cell? ⟨adK.block, adK.off + 6 + 2, none⟩ = some (.int .i64 (-1)) by (have h : adK.add ((1 : Int).toNat * 6) = ⟨adK.block, adK.off + 6, none⟩ := by simp [Addr.add]); rw [h] at k1; exact k1); clear hmn hmc hmC hkn hkc hkC m0 m1 k0 k1
 go_upto_region 10 with (first
  | (go_at_call 21; refine (same_lit g20 AY cY w25 ?x1 CY.out ?x3).mono ?_; (case x1 => exact Kd.C_below NY.out (below_step (below_step (below_step (below_step (below_step (below_step (below_step (below_step (below_step (below_step (below_step (below_step (below_step (below_step (Below.refl _ _) B12.out) B13.out) B14.out) B15.out) B16.out) B17.out) B18.out) B19.out) B20.out) B21.out) B22.out) B23.out) B24.out) B25.out)); (case x3 => exact Kd.C_below F20.out (below_step (below_step (below_step (below_step (below_step (below_step (below_step (below_step (below_step (below_step (below_step (below_step (below_step (below_step (below_step (below_step (Below.refl _ _) B10.out) B11.out) B12.out) B13.out) B14.out) B15.out) B16.out) B17.out) B18.out) B19.out) B20.out) B21.out) B22.out) B23.out) B24.out) B25.out)); rintro e w26 ⟨rfl, hd⟩; have B26 := Aside0.mk hd.below; clear hd)
  | ((with_reducible refine gate_dst (N := 85) rfl ?_); refine lit_event ?hg (N := 85) ?hd (cs := #[.int .i64 6, .int .i64 7]) (t := 3) (n := 2) ?hr ?_; (case hd => rfl); (case hg => rfl); (case hr => first | (go_simp; done) | (go_simp; rfl)); intro g85 hgx w27 hbk hb; clear hgx; have B27 := Aside0.mk hb; have F85 : Aside0 (Kd.C (Kd.int .i64) w27 (some ⟨g85, 0, none⟩) 2 [6, 7]) := ⟨lit3 hbk (by decide) ⟨rfl, rfl, trivial⟩⟩; clear hb hbk)
  | ((with_reducible refine gate_dst (N := 87) rfl ?_); refine lit_event ?hg (N := 87) ?hd (cs := #[.int .i64 0, .int .i64 0, .int .i64 1, .int .i64 2, .int .i64 5, .slice none 0 0, .int .i64 0, .int .i64 2, .int .i64 (-1), .int .i64 0, .int .i64 0, .slice (some ⟨g85, 0, none⟩) 2 2]) (t := 76) (n := 2) ?hr ?_; (case hd => rfl); (case hg => rfl); (case hr => first | (go_simp; done) | (go_simp; rfl)); intro g87 hgx w28 hbk hb; clear hgx; have B28 := Aside0.mk hb; have F87 : Aside0 (Kd.C k76 w28 (some ⟨g87, 0, none⟩) 2 p1) := ⟨want hbk (Kd.C_below F85.out (below_step (Below.refl _ _) B28.out))⟩; clear hb hbk))
 go_wp2_with (first
  | (go_at_call 17; refine (plain_lit AX cX w28 w10 _ _ NX.out (below_step (below_step (below_step (below_step (below_step (below_step (below_step (below_step (below_step (below_step (below_step (below_step (below_step (below_step (below_step (below_step (below_step (below_step (Below.refl _ _) B11.out) B12.out) B13.out) B14.out) B15.out) B16.out) B17.out) B18.out) B19.out) B20.out) B21.out) B22.out) B23.out) B24.out) B25.out) B26.out) B27.out) B28.out)).mono ?_; rintro e w29 ⟨AZ, cZ, rfl, hn, hcZ, hb⟩; have B29 := Aside0.mk hb; have NZ := Aside0.mk hn; have CZ := Aside0.mk hcZ; clear hb hn hcZ)
  | (go_at_call 16; refine (all_lit g87 AZ cZ w29 NZ.out CZ.out ?x3).mono ?_; (case x3 => exact Kd.C_below F87.out (below_step (Below.refl _ _) B29.out)); rintro e w30 ⟨rfl, hb⟩; have B30 := Aside0.mk hb; clear hb; have hm0 := cell_below (below_step (below_step (below_step (below_step (below_step (below_step (below_step (below_step (below_step (below_step (below_step (below_step (below_step (below_step (Below.refl _ _) B17.out) B18.out) B19.out) B20.out) B21.out) B22.out) B23.out) B24.out) B25.out) B26.out) B27.out) B28.out) B29.out) B30.out) M0.out; have hm1 := cell_below (below_step (below_step (below_step (below_step (below_step (below_step (below_step (below_step (below_step (below_step (below_step (below_step (below_step (below_step (Below.refl _ _) B17.out) B18.out) B19.out) B20.out) B21.out) B22.out) B23.out) B24.out) B25.out) B26.out) B27.out) B28.out) B29.out) B30.out) M1.out; have hk0 := cell_below (below_step (below_step (below_step (below_step (below_step (Below.refl _ _) B26.out) B27.out) B28.out) B29.out) B30.out) K0.out; have hk1 := cell_below (below_step (below_step (below_step (below_step (below_step (Below.refl _ _) B26.out) B27.out) B28.out) B29.out) B30.out) K1.out))
 go_ret; exact ⟨rfl, (below_step (below_step (below_step (below_step (below_step (below_step (below_step (below_step (below_step (below_step (below_step (below_step (below_step (below_step (below_step (below_step (below_step (below_step (below_step (below_step (below_step (below_step (below_step (below_step (below_step (below_step (below_step (below_step (below_step (below_step (Below.refl _ _) B1.out) B2.out) B3.out) B4.out) B5.out) B6.out) B7.out) B8.out) B9.out) B10.out) B11.out) B12.out) B13.out) B14.out) B15.out) B16.out) B17.out) B18.out) B19.out) B20.out) B21.out) B22.out) B23.out) B24.out) B25.out) B26.out) B27.out) B28.out) B29.out) B30.out)⟩
end Lives
def dioramalaw36_lives.f : Option Bool := some true
theorem dioramalaw36_lives.calls (r : Bool) (w : World) (h : dioramalaw36_lives.f = some r) : Calls Try.prog 18 #[] w fun e w' => e = .returned (.bool r) ∧ Below w.heap.size w w' := by
 obtain rfl := Option.some.inj h; exact Lives.calls w
end Go.Proofs.Ytcgpemefmakjiaa.PX
namespace Go.Proofs.Ytcgpemefmakjiaa.PX
open Go.RowKit Go.Proofs.YtcgpemefmakjiaaW.PrintWords Go.Proofs.YtcgpemefmakjiaaW.PrintLast Go.Proofs.YtcgpemefmakjiaaW.PrintMore
set_option linter.unusedVariables false
def CopyI (W : World) (base : Nat) (v3 : Value) (l3 : Wd) (v5 : Value) (q : List (List Int)) : Prop := ∃ f1 f2, WRepF W base f1 f2 v3 l3 ∧ KindRep W base f1 f2 l3.length v5 q
section
variable {W W1 w1 : World} {base : Nat} {v3 v5 v1 vi : Value} {l3 : Wd} {q : List (List Int)} {r : List Int}
theorem CopyI.start (h : WRep W base v3 l3) : CopyI W base v3 l3 (.slice none 0 0) [] := by
 obtain ⟨f1, f2, h⟩ := h; exact ⟨f1, f2, h, KindRep.nil trivial⟩
theorem CopyI.push (h : CopyI W base v3 l3 v5 q) (hbs : base ≤ W.heap.size) : ∃ cs, W.ownsRow base 22 1 v5 q.length cs ∧ ∀ (W1 w1 : World) (vi v1 : Value) (r : List Int) (ok : Nat → Prop), Below W.heap.size W W1 → Kd.R (Kd.int .i64) 3 W1 W.heap.size ok vi r → W1.grownBy w1 v5.ownBlock →
  (v1.ownBlock = v5.ownBlock ∨ ∃ b, v1.ownBlock = some b ∧ W1.heap.size ≤ b) → w1.ownsRow base 22 1 v1 (q.length + 1) (cs ++ [vi]) → CopyI w1 base v3 l3 v1 (q ++ [r]) := by
 obtain ⟨f1, f2, h1, h2⟩ := h; have h2' := h2; obtain ⟨cs, h3, h4, h5⟩ := h2; refine ⟨cs, h3, fun W1 w1 vi v1 r ok hB hr hg hat hown => ⟨tagFrom W.heap.size l3.length f1, tagFrom W.heap.size (l3.length, q.length) f2, ?_, KindRep.pushed h2' hbs hB (nums_of_R hr) h3 h5 h4 hg hat hown⟩⟩; refine h1.beside (row := v5.ownBlock) ⟨hg.os.trans hB.os, hg.tape.trans hB.tape, hg.output.trans hB.output, Nat.le_trans hB.size hg.size, fun b hb hne => ?_⟩ (fun b hb => ⟨h4 b hb, own_typed h3 b hb⟩) (fun b hb => tagFrom_lt hb) (fun b hb => tagFrom_lt hb); rw [hg.block b (Nat.lt_of_lt_of_le hb hB.size) hne, hB.block b hb]
theorem CopyI.done (h : CopyI W base v3 l3 v5 q) : ∃ vs, W.ownsRow base 64 1 v3 l3.length vs ∧ (∃ A c, v5 = .slice A q.length c) ∧ ∀ (w1 : World) (v1 : Value), W.grownBy w1 v3.ownBlock → w1.ownsRow base 64 1 v1 (l3.length + 1) (vs ++ [v5]) → WRep w1 base v1 (l3 ++ [q]) := by
 obtain ⟨f1, f2, ⟨vs, h1, h2⟩, h3⟩ := h
 have hsl : ∃ A c, v5 = .slice A q.length c := by
  obtain ⟨A, c, e, _⟩ := h3.at_; exact ⟨A, c, e⟩
 refine ⟨vs, h1, hsl, fun w1 v1 hg hown => ⟨f1, f2, vs ++ [v5], by rw [List.length_append]; exact hown, fun k rows hk => ?_⟩⟩
 have hne : ∀ b t c, W.heap[b]? = some (.cells c t (0, 0)) → t ≠ 64 → some b ≠ v3.ownBlock := fun b t c hb ht e => by
  obtain ⟨c', hc'⟩ := own_typed h1 b e.symm; rw [hb] at hc'
  injection hc' with hc'
  injection hc' with _ hc'
  exact ht hc'
 have hmv : ∀ (k : Nat) vk rows, KindRep W base f1 f2 k vk rows → KindRep w1 base f1 f2 k vk rows := fun k vk rows h => h.move (fun b hl hb => hg.block b hl (by
  rcases hb with hb | ⟨c, hb⟩
  (· obtain ⟨cs, h5, _⟩ := h; obtain ⟨c, hc⟩ := own_typed h5 b hb; exact hne b 22 c hc (by decide))
  ·exact hne b 3 c hb (by decide))) (fun _ _ => rfl) (fun _ _ => rfl)
 have hvl : vs.length = l3.length := by have := h1.1; omega
 by_cases hkl : k < l3.length
 (· rw [List.getElem?_append_left hkl] at hk; obtain ⟨vk, h4, h5⟩ := h2 k rows hk; exact ⟨vk, by rw [List.getElem?_append_left (by omega)]; exact h4, hmv _ _ _ h5⟩)
 ·have e : k = l3.length := by have := (List.getElem?_eq_some_iff.1 hk).1; simp at this; omega
  subst e
  have e : q = rows := by simpa using hk
  subst e; exact ⟨v5, by rw [← hvl]; simp, hmv _ _ _ h3⟩
end
end Go.Proofs.Ytcgpemefmakjiaa.PX
namespace Go.Proofs.Ytcgpemefmakjiaa.PX
open Go.RowKit Go.Proofs.YtcgpemefmakjiaaW.PrintWords Go.Proofs.YtcgpemefmakjiaaW.PrintLast Go.Proofs.YtcgpemefmakjiaaW.PrintMore
set_option linter.unusedVariables false
set_option linter.unusedSimpArgs false
def Small (l : Wd) : Prop := l.length ≤ 1000000 ∧ ∀ (k : Nat) rows, l[k]? = some rows → rows.length ≤ 1000000 ∧ ∀ (i : Nat) r, rows[i]? = some r → r.length ≤ 1000000
set_option maxHeartbeats 4000000 in
set_option maxRecDepth 100000 in
theorem copy_any (A0 : Option Addr) (c0 : Nat) (l0 : Wd) (w : World) (hr0 : Kd.C (Kd.slice 22 (Kd.slice 3 (Kd.int .i64))) w A0 l0.length l0) (hs : Small l0) :
  Calls Try.prog 35 #[.slice A0 l0.length c0] w fun e w' => ∃ v, e = .returned v ∧ WRep w' w.heap.size v l0 ∧ Below w.heap.size w w' := by
 have HR0 := Aside0.mk hr0; have HS := Aside0.mk hs; have hlen0 := hs.1; clear hr0 hs
 go_enter Try.func35, Try.ntmps35
 go_wp2
 go_loopw [3, 4] (fun u v wr => ∃ k : Nat, k ≤ l0.length ∧ v = .int .i64 k ∧ Aside0 (Below w.heap.size w wr) ∧ Aside0 (WRep wr w.heap.size u (l0.take k))) (fun _ v _ => l0.length - (intOf v).toNat)
 case atStart => exact ⟨0, Nat.zero_le _, rfl, ⟨Below.refl _ _⟩, ⟨WRep.nil _ _⟩⟩
 case round =>
  obtain ⟨k, hk, rfl, HB, HV⟩ := hrel
  by_cases hlt : k < l0.length
  ·obtain ⟨bd, B1, d1, e1, hx1, hl1, hi1⟩ := at_L2 HR0.out k (by omega) (by omega)
   cases e1
   have HI := Aside0.mk hi1; have hrl := hi1.2.1; have hrows := rd_L2_at l0 k (by omega) (by omega); rw [Int.toNat_natCast] at hx1 hrows; have HX := Aside0.mk hx1; have HRW := Aside0.mk hrows; have htk := List.take_succ_eq_append_getElem hlt
   have hget : l0[k] = rd_L2 l0 k := by rw [List.getElem?_eq_getElem hlt] at hrows; exact Option.some.inj hrows
   rw [hget] at htk; have HTK := Aside0.mk htk; clear hi1 hrows hx1 htk hget; generalize rd_L2 l0 k = rows at hl1 HI HRW hrl HX HTK; have HSR := Aside0.mk (HS.out.2 k rows HRW.out); have hrb := HSR.out.1; obtain ⟨l3, hl3⟩ : ∃ l3, l3 = l0.take k := ⟨_, rfl⟩
   have hl3k : l3.length = k := by rw [hl3, List.length_take]; omega
   rw [← hl3] at HV HTK; have HL3 := Aside0.mk hl3k; clear hl3 hl3k; go_wp2
   go_loopw [5, 6] (fun u' v' wr' => ∃ i : Nat, i ≤ rows.length ∧ v' = .int .i64 i ∧ Aside0 (Below w.heap.size w wr') ∧ Aside0 (CopyI wr' w.heap.size u3 l3 u' (rows.take i))) (fun _ v' _ => rows.length - (intOf v').toNat)
   case atStart => exact ⟨0, Nat.zero_le _, rfl, HB, ⟨CopyI.start HV.out⟩⟩
   case round =>
    clear HB HV; obtain ⟨i, hi, rfl, HB, HV⟩ := hrel; have hx1 := cell_below HB.out HX.out
    by_cases hlti : i < rows.length
    ·obtain ⟨be, B2, d2, e2, hx2, hl2, hi2⟩ := at_L1 HI.out i (by omega) (by omega)
     cases e2
     have hrow := rd_L1_at rows i (by omega) (by omega); rw [Int.toNat_natCast] at hx2 hrow; replace hx2 := cell_below HB.out hx2; have HRR := Aside0.mk hi2; have htk := List.take_succ_eq_append_getElem hlti
     have hget : rows[i] = rd_L1 rows i := by rw [List.getElem?_eq_getElem hlti] at hrow; exact Option.some.inj hrow
     rw [hget] at htk; have HTQ := Aside0.mk htk; have hrlen := HSR.out.2 i _ hrow; clear hi2 hrow htk hget; generalize rd_L1 rows (i : Int) = r at hx2 hl2 HRR HTQ hrlen; obtain ⟨q, hq⟩ : ∃ q, q = rows.take i := ⟨_, rfl⟩
     have hqi : q.length = i := by rw [hq, List.length_take]; omega
     rw [← hq] at HV HTQ; have hbs := HB.out.size; obtain ⟨cs, hcs, hpush⟩ := HV.out.push hbs; have HCS := Aside0.mk hcs; have HPU := Aside0.mk hpush; have HQI := Aside0.mk hqi; clear hcs hpush hq hqi
     go_wp2_with (first
      | ((with_reducible refine gate_dst (N := 23) rfl ?_); refine Kd.R_lit (Kd.int .i64) (w0 := wr) wr.heap.size 3 ?hg (N := 23) ?hd (xs := ([] : List Int)) (inner := []) (ok := fun _ => True) (okp := fun _ => True) ?hr ?hp (fun _ hk => hk) trivial (Below.refl _ _) (Nat.le_refl _) (by simp) ?_; (case hd => rfl); (case hg => rfl); (case hr => first | (go_simp; done) | (go_simp; rfl)); (case hp => exact (Reps.none _ _)); intro v1 w1 ho1 hb1 hg1 hnew1; clear hg1 hnew1; have HO1 := Aside0.mk ho1; have HB1 := Aside0.mk hb1; have n0_ := cell_below HB1.out hx1; have n1_ := cell_below HB1.out hx2; clear hx1 hx2; have hx1 := n0_; have hx2 := n1_; clear n0_ n1_ ho1 hb1)
      | ((with_reducible refine gate_builtin (b := .append) (xs := #[.tmp 23, .tmp 30]) rfl ?_); at_builtin; refine Kd.R_append_rows (Kd.int .i64) (w0 := wr) wr.heap.size rfl (.tmp 23) (.tmp 30) 22 3 (.int .i64 0) 8 rfl Try.underlying22 info3 rfl (by decide) (by decide) v1 [] r B2 r.length d2 (fun _ => True) (fun _ => False) rfl rfl HO1.out ?hc (fun _ _ h => h) (fun _ h => h.elim) (fun _ _ => trivial) HB1.out HB1.out.size ?hl ?_; (case hc => exact Kd.C_below HRR.out (below_step HB.out HB1.out)); (case hl => simp; omega); intro v2 w2 ho2 hb2 hg2 hat2; clear hg2 hat2; (obtain ⟨A9, c9, rfl⟩ := Kd.R_slice ho2); have HO2 := Aside0.mk ho2; have HB2 := Aside0.mk hb2; clear ho2 hb2)
      | ((with_reducible refine gate_builtin (b := .append) (xs := #[.tmp 22, .tmp 32]) rfl ?_); at_builtin; refine print_append_cells (w0 := w) w.heap.size rfl (.tmp 22) (.tmp 32) 64 22 (.slice none 0 0) 1 24 rfl Try.underlying64 info22 rfl (by decide) (by decide) u5 q.length cs [.slice A9 _ c9] rfl rfl rfl ?one ?own ?hb ?hbase ?hl ?_; (case one => intro u hu; simp only [List.mem_singleton] at hu; subst hu; rfl); (case own => exact own_move HCS.out (fun b hb => HB2.out.block b (own_lt HCS.out b hb))); (case hb => exact below_step HB.out HB2.out); (case hbase => exact (below_step HB.out HB2.out).size); (case hl => have := HQI.out; omega); intro v7 w7 hown7 hb7 hg7 hat7; have HO7 := Aside0.mk hown7; have HB7 := Aside0.mk hb7; have HG7 := Aside0.mk hg7; have HA7 := Aside0.mk hat7; clear hown7 hb7 hg7 hat7))
     go_roundw
     case rel => exact ⟨i + 1, by omega, by go_num, HB7, ⟨by rw [HTQ.out]; exact HPU.out w2 w7 _ _ r _ HB2.out HO2.out HG7.out HA7.out HO7.out⟩⟩
     case measure => simp [intOf]; omega
    ·have hie : i = rows.length := by omega
     subst hie; rw [List.take_length] at HV; obtain ⟨vs, hvs, ⟨A5, c5, rfl⟩, hdone⟩ := HV.out.done; have HVS := Aside0.mk hvs; have HDN := Aside0.mk hdone; clear hvs hdone
     go_wp2_with ((with_reducible refine gate_builtin (b := .append) (xs := #[.tmp 34, .tmp 36]) rfl ?_); at_builtin; refine print_append_cells (w0 := w) w.heap.size rfl (.tmp 34) (.tmp 36) 25 64 (.slice none 0 0) 1 24 rfl Try.underlying25 info64 rfl (by decide) (by decide) u3 l3.length vs [.slice A5 rows.length c5] rfl rfl rfl ?one ?own ?hb ?hbase ?hl ?_; (case one => intro u hu; simp only [List.mem_singleton] at hu; subst hu; rfl); (case own => exact HVS.out); (case hb => exact HB.out); (case hbase => exact HB.out.size); (case hl => have := HL3.out; omega); intro v7 w7 hown7 hb7 hg7 hat7; have HO7 := Aside0.mk hown7; have HB7 := Aside0.mk hb7; have HG7 := Aside0.mk hg7; clear hown7 hb7 hg7 hat7)
     go_roundw
     case rel => exact ⟨k + 1, by omega, by go_num, HB7, ⟨by rw [HTK.out]; exact HDN.out _ _ HG7.out HO7.out⟩⟩
     case measure => simp [intOf]; omega
  ·have hke : k = l0.length := by omega
   subst hke; rw [List.take_length] at HV; go_wp2; go_ret; exact ⟨_, rfl, HV.out, HB.out⟩
end Go.Proofs.Ytcgpemefmakjiaa.PX
namespace Go.Proofs.Ytcgpemefmakjiaa.PX
open Go.RowKit Go.Proofs.YtcgpemefmakjiaaW.PrintWords Go.Proofs.YtcgpemefmakjiaaW.PrintLast Go.Proofs.YtcgpemefmakjiaaW.PrintMore
set_option linter.unusedVariables false
def in64 (x : Int) : Bool := decide (-9223372036854775808 ≤ x) && decide (x ≤ 9223372036854775807)
theorem in64_iff {x : Int} : in64 x = true ↔ -9223372036854775808 ≤ x ∧ x ≤ 9223372036854775807 := by simp [in64]
def arv (x n : Int) : Int := (dioramaref01_Around.f x n).getD 0
theorem arv_spec (x n : Int) (hx : in64 x = true) : dioramaref01_Around.f x n = some (arv x n) ∧ 0 ≤ arv x n ∧ (0 < n → arv x n < n) := by
 rw [in64_iff] at hx; unfold arv dioramaref01_Around.f
 by_cases h0 : x < 0
 ·rw [if_pos h0]
  by_cases h1 : n < 1
  (· rw [if_pos h1]; exact ⟨rfl, Int.le_refl _, fun h => by omega⟩); (· rw [if_neg h1, if_neg (by omega), wrap64_id (x := x + 1) (by omega) (by omega), wrap64_id (by omega) (by omega)]; refine ⟨rfl, Int.tmod_nonneg _ (by omega), fun h => Int.tmod_lt_of_pos _ h⟩)
 ·rw [if_neg h0]
  by_cases h1 : n < 1
  (· rw [if_pos h1]; exact ⟨rfl, Int.le_refl _, fun h => by omega⟩); (· rw [if_neg h1, if_neg (by omega)]; refine ⟨rfl, Int.tmod_nonneg _ (by omega), fun h => Int.tmod_lt_of_pos _ h⟩)
def atv (l : List Int) (i n : Int) : Int := (dioramaref01_At.f l i n).getD 0
theorem atv_spec (l : List Int) (i n : Int) (hl : l.all in64 = true) : dioramaref01_At.f l i n = some (atv l i n) ∧ 0 ≤ atv l i n ∧ (0 < n → atv l i n < n) := by
 unfold atv dioramaref01_At.f
 by_cases h0 : i < 0
 (· rw [if_pos h0]; exact ⟨rfl, Int.le_refl _, fun h => h⟩); rw [if_neg h0]
 by_cases h1 : i ≥ (l.length : Int)
 (· rw [if_pos h1]; exact ⟨rfl, Int.le_refl _, fun h => h⟩); rw [if_neg h1, if_pos (by omega), if_pos (by omega)]
 have hx : in64 (rd l i) = true := by
  rw [List.all_eq_true] at hl; refine hl _ ?_; simp only [rd, List.getD_eq_getElem?_getD]; rw [List.getElem?_eq_getElem (show i.toNat < l.length by omega)]; exact List.getElem_mem _
 obtain ⟨e, h2, h3⟩ := arv_spec (rd l i) n hx; rw [e]; exact ⟨rfl, h2, h3⟩
def nearStep (sh l : List Int) (i : Int) (out : Wd) : Option Wd :=
 if atv l (3 * i + 1) 6 = 0 ∧ 0 < (rd_L2 out (atv l (3 * i) out.length)).length then some (out.set (atv l (3 * i) out.length).toNat ((rd_L2 out (atv l (3 * i) out.length)).take ((rd_L2 out (atv l (3 * i) out.length)).length - 1)))
 else if atv l (3 * i + 1) 6 = 1 ∧ atv l (3 * i) out.length < sh.length ∧ (rd_L2 out (atv l (3 * i) out.length)).length < 6 then
  (if rd sh (atv l (3 * i) out.length) ≤ 1000 then some (out.set (atv l (3 * i) out.length).toNat (rd_L2 out (atv l (3 * i) out.length) ++ [List.replicate (rd sh (atv l (3 * i) out.length)).toNat (atv l (3 * i + 2) 3)])) else none)
 else if 0 < (rd_L2 out (atv l (3 * i) out.length)).length then
  (if (rd_L1 (rd_L2 out (atv l (3 * i) out.length)) (atv l (3 * i + 2) (rd_L2 out (atv l (3 * i) out.length)).length)).length = 0 then none else
   some (out.set (atv l (3 * i) out.length).toNat ((rd_L2 out (atv l (3 * i) out.length)).set (atv l (3 * i + 2) (rd_L2 out (atv l (3 * i) out.length)).length).toNat
    ((rd_L1 (rd_L2 out (atv l (3 * i) out.length)) (atv l (3 * i + 2) (rd_L2 out (atv l (3 * i) out.length)).length)).set
     (atv l (3 * i + 2) (rd_L1 (rd_L2 out (atv l (3 * i) out.length)) (atv l (3 * i + 2) (rd_L2 out (atv l (3 * i) out.length)).length)).length).toNat (Int.tdiv (atv l (3 * i + 2) 12) 4)))))
 else some out
def nearLoop (sh l : List Int) : Nat → Int → Wd → Option Wd
 | 0, _, out => some out
 | m + 1, i, out => if 3 * i + 2 < l.length ∧ 0 < out.length then (nearStep sh l i out).bind (nearLoop sh l m (i + 1)) else some out
def smallB (l : Wd) : Bool := decide (l.length ≤ 1000000) && l.all fun rows => decide (rows.length ≤ 1000000) && rows.all fun r => decide (r.length ≤ 1000000)
theorem smallB_small {l : Wd} (h : smallB l = true) : Small l := by
 unfold smallB at h; simp only [Bool.and_eq_true, decide_eq_true_eq, List.all_eq_true] at h; exact ⟨h.1, fun k rows hk => ⟨(h.2 rows (List.mem_of_getElem? hk)).1, fun i r hi => (h.2 rows (List.mem_of_getElem? hk)).2 r (List.mem_of_getElem? hi)⟩⟩
def dioramaref36_Near.f (l0 : Wd) (sh l : List Int) : Option Wd := if (smallB l0 && l.all in64 && decide (l.length ≤ 4611686018427387904)) = true then nearLoop sh l 4 0 l0 else none
def Low (n : Nat) (l : Wd) : Prop := ∀ (k : Nat) rows, l[k]? = some rows → rows.length ≤ n
theorem Low.set {n k : Nat} {l : Wd} {rows : List (List Int)} (h : Low n l) (hr : rows.length ≤ n + 1) : Low (n + 1) (l.set k rows) := by
 intro j rows' hj
 by_cases e : k = j
 (· subst e; have hl := (List.getElem?_eq_some_iff.1 hj).1; rw [List.length_set] at hl; rw [List.getElem?_set_self hl] at hj; obtain rfl := Option.some.inj hj; exact hr); (· rw [List.getElem?_set_ne e] at hj; have := h j rows' hj; omega)
theorem Low.succ {n : Nat} {l : Wd} (h : Low n l) : Low (n + 1) l := fun k rows hk => by have := h k rows hk; omega
end Go.Proofs.Ytcgpemefmakjiaa.PX
namespace Go.Proofs.Ytcgpemefmakjiaa.PX
open Go.RowKit Go.Proofs.YtcgpemefmakjiaaW.PrintWords Go.Proofs.YtcgpemefmakjiaaW.PrintLast Go.Proofs.YtcgpemefmakjiaaW.PrintMore
set_option linter.unusedVariables false
set_option linter.unusedSimpArgs false
set_option maxHeartbeats 4000000 in
set_option maxRecDepth 100000 in
theorem near_any (A0 : Option Addr) (c0 : Nat) (l0 : Wd) (A1 : Option Addr) (c1 : Nat) (sh : List Int) (A2 : Option Addr) (c2 : Nat) (l : List Int) (r : Wd) (w : World) (hr0 : Kd.C (Kd.slice 22 (Kd.slice 3 (Kd.int .i64))) w A0 l0.length l0) (hr1 : Kd.C (Kd.int .i64) w A1 sh.length sh) (hc1 : sh.length ≤ c1)
  (hr2 : Kd.C (Kd.int .i64) w A2 l.length l) (hc2 : l.length ≤ c2) (hs : Small l0) (hl : l.all in64 = true) (hm : l.length ≤ 4611686018427387904) (h : nearLoop sh l 4 0 l0 = some r) :
  Calls Try.prog 12 #[.slice A0 l0.length c0, .slice A1 sh.length c1, .slice A2 l.length c2] w fun e w' => ∃ v, e = .returned v ∧ WRep w' w.heap.size v r ∧ Below w.heap.size w w' := by
 have HR0 := Aside0.mk hr0; have HR1 := Aside0.mk hr1; have HR2 := Aside0.mk hr2; have HC2 := Aside0.mk hc2; have HS := Aside0.mk hs; have HH := Aside0.mk h; have hlen0 := hs.1; have hlen1 := hr1.2.1; have HAT := Aside0.mk (fun i n => atv_spec l i n hl); have HCA := Aside0.mk (fun (i n : Int) (W : World) (hb : Below w.heap.size w W) => dioramaref01_At.calls A2 c2 l i n (atv l i n) W (Kd.C_below hr2 hb) hc2 (atv_spec l i n hl).1); clear hr0 hr1 hr2 hc2 hs h hl
 go_enter Try.func12, Try.ntmps12
 go_wp2_with (go_at_call 35; refine (copy_any A0 c0 l0 w HR0.out HS.out).mono ?_; rintro e w1 ⟨v1, rfl, hv, hb⟩; have HV1 := Aside0.mk hv; have HB1 := Aside0.mk hb; clear hv hb)
 obtain ⟨A, c, rfl⟩ : ∃ A c, v1 = .slice A l0.length c := by
  obtain ⟨_, _, h⟩ := HV1.out; obtain ⟨A, c, e, _⟩ := h.top; exact ⟨A, c, e⟩
 go_loopw [8] (fun u wr => ∃ (m i : Nat) (out : Wd), i + m = 4 ∧ u = .int .i64 i ∧ Aside0 (out.length = l0.length) ∧ Aside0 (Below w.heap.size w wr) ∧ Aside0 (WRep wr w.heap.size (.slice A l0.length c) out) ∧ Aside0 (nearLoop sh l m i out = some r) ∧ Aside0 (Low (1000000 + i) out)) (fun u _ => 4 - (intOf u).toNat)
 case atStart => exact ⟨4, 0, l0, rfl, rfl, ⟨rfl⟩, HB1, HV1, HH, ⟨fun k rows hk => (HS.out.2 k rows hk).1⟩⟩
 case round =>
  obtain ⟨m, i, out, him, rfl, HOL, HB, HV, HH, HLO⟩ := hrel
  cases m with
  | zero =>
   have hi4 : i = 4 := by omega
   subst hi4; have hr : out = r := Option.some.inj HH.out; subst hr
   have hd : decide ((14 : Int) < (l.length : Int)) = true ∨ decide ((14 : Int) < (l.length : Int)) = false := by cases decide ((14 : Int) < (l.length : Int)) <;> simp
   rcases hd with hd | hd
   (· go_wp2; go_ret; exact ⟨_, rfl, HV.out, HB.out⟩); (· go_wp2; go_ret; exact ⟨_, rfl, HV.out, HB.out⟩)
  | succ m =>
   have hi : i < 4 := by omega
   have hi4 : decide ((i : Int) < 4) = true := decide_eq_true (by omega); have H : (if 3 * (i : Int) + 2 < l.length ∧ 0 < out.length then (nearStep sh l i out).bind (nearLoop sh l m ((i : Int) + 1)) else some out) = some r := HH.out
   by_cases hg : 3 * (i : Int) + 2 < l.length ∧ 0 < out.length
   ·rw [if_pos hg] at H
    have hg1 : decide (3 * (i : Int) + 2 < (l.length : Int)) = true := decide_eq_true hg.1; have hol := HOL.out; have hg2 : decide ((0 : Int) < (l0.length : Int)) = true := decide_eq_true (by omega); obtain ⟨out', hst, hlp⟩ := Option.bind_eq_some_iff.1 H; obtain ⟨kz, hkz⟩ : ∃ kz, kz = atv l (3 * (i : Int)) (l0.length : Int) := ⟨_, rfl⟩; obtain ⟨hz, hhz⟩ : ∃ hz, hz = atv l (3 * (i : Int) + 1) 6 := ⟨_, rfl⟩
    have hk0 : 0 ≤ kz := by rw [hkz]; exact (HAT.out _ _).2.1
    have hk1 : kz < (l0.length : Int) := by rw [hkz]; exact (HAT.out _ _).2.2 (by omega)
    have hh0 : 0 ≤ hz := by rw [hhz]; exact (HAT.out _ _).2.1
    have HC5 := Aside0.mk (HCA.out (3 * (i : Int)) (l0.length : Int)); have HC7 := Aside0.mk (HCA.out (3 * (i : Int) + 1) 6); rw [← hkz] at HC5; rw [← hhz] at HC7; have HLP : Aside0 (nearLoop sh l m ((i + 1 : Nat) : Int) out' = some r) := ⟨by rw [show ((i + 1 : Nat) : Int) = (i : Int) + 1 by omega]; exact hlp⟩; have hrows := rd_L2_at out kz hk0 (by rw [hol]; exact hk1); rw [nearStep, hol, ← hkz, ← hhz] at hst; have HRW := Aside0.mk hrows; have HST := Aside0.mk hst; clear hrows hst hlp H hhz hkz HH hg; generalize rd_L2 out kz = rows at HRW HST
    have hrl : rows.length ≤ 1000004 := by have := HLO.out _ _ HRW.out; omega
    obtain ⟨ad, c', hAe, _⟩ := HV.out.known HRW.out
    injection hAe with hAe hx1 hx2
    clear hx1 hx2; subst hAe; have HV' := Aside0.mk (show WRep wr w.heap.size (.slice (some ad) out.length c) out by rw [HOL.out]; exact HV.out); obtain ⟨A9, c9, hy, _, _, _⟩ := HV'.out.seen HRW.out; clear hol
    go_upto_region 6 with (first
     | (go_at_call 34; with_reducible refine (HC5.out _ ?b).mono ?_; (case b => exact HB.out); rintro e w2 ⟨rfl, hd⟩; have B2 := Aside0.mk (below_step HB.out hd.below); have n0_ := cell_below hd.below hy; clear hy; have hy := n0_; clear n0_; have V2 := Aside0.mk (HV'.out.below hd.below); clear hd))
    go_upto_region 8 with (first
     | (go_at_call 34; with_reducible refine (HC7.out _ ?b).mono ?_; (case b => exact B2.out); rintro e w3 ⟨rfl, hd⟩; have B3 := Aside0.mk (below_step B2.out hd.below); have n0_ := cell_below hd.below hy; clear hy; have hy := n0_; clear n0_; have V3 := Aside0.mk (V2.out.below hd.below); clear hd))
    obtain ⟨_, _, _, hc9, _, hfz⟩ := V3.out.seen HRW.out; have HBL := Aside0.mk (V3.out.base_le HRW.out); have HFZ := Aside0.mk hfz; clear hfz hc9
    by_cases hA : hz = 0 ∧ 0 < rows.length
    ·have a1 : (hz == 0) = true := beq_iff_eq.2 hA.1
     have a2 : decide ((0 : Int) < (rows.length : Int)) = true := decide_eq_true (by omega); have a3 : decide (0 < rows.length) = true := decide_eq_true hA.2; rw [if_pos hA] at HST; have HOUT := Aside0.mk (Option.some.inj HST.out); have HSH := Aside0.mk (V3.out.shrink HRW.out hy (show rows.length - 1 ≤ rows.length by omega)); have hA2 := hA.2; clear hA HST; have hfz := HFZ.out
     have e1 : ((rows.length : Int) - 1).toNat = rows.length - 1 := by omega
     go_wp2
     go_roundw
     case rel => exact ⟨m, i + 1, out.set kz.toNat (rows.take (rows.length - 1)), by omega, by go_num, ⟨by rw [List.length_set]; exact HOL.out⟩, ⟨Below.setCell B3.out HBL.out _⟩, ⟨by have := HSH.out; rw [HOL.out] at this; exact this⟩, ⟨by rw [HOUT.out]; exact HLP.out⟩, ⟨Low.set (n := 1000000 + i) (k := kz.toNat) (rows := rows.take (rows.length - 1)) HLO.out (by rw [List.length_take]; have := HLO.out _ _ HRW.out; omega)⟩⟩
     case measure => simp [intOf]; omega
    ·rw [if_neg hA] at HST
     by_cases h0 : hz = 0
     ·have h1 : ¬ 0 < rows.length := fun h1 => hA ⟨h0, h1⟩
      have a1 : (hz == 0) = true := beq_iff_eq.2 h0; have a2 : decide ((0 : Int) < (rows.length : Int)) = false := decide_eq_false (by omega); have a3 : decide (0 < rows.length) = false := decide_eq_false h1; have a4 : (hz == 1) = false := beq_eq_false_iff_ne.2 (by omega); rw [if_neg (fun h => by omega), if_neg h1] at HST; have HOUT := Aside0.mk (Option.some.inj HST.out); clear hA HST h0 h1; go_wp2
      go_roundw
      case rel => exact ⟨m, i + 1, out, by omega, by go_num, HOL, B3, ⟨by have := V3.out; rw [HOL.out] at this; exact this⟩, ⟨by rw [HOUT.out]; exact HLP.out⟩, ⟨Low.succ (n := 1000000 + i) HLO.out⟩⟩
      case measure => simp [intOf]; omega
     ·have a1 : (hz == 0) = false := beq_eq_false_iff_ne.2 h0
      clear hA h0
      by_cases hB : hz = 1 ∧ kz < sh.length ∧ rows.length < 6
      ·have b1 : (hz == 1) = true := beq_iff_eq.2 hB.1
       have b2 : decide (kz < (sh.length : Int)) = true := decide_eq_true hB.2.1; have b3 : decide ((rows.length : Int) < 6) = true := decide_eq_true (by omega); have b4 : decide (rows.length < 6) = true := decide_eq_true hB.2.2; have hks := hB.2.1; have hr6 := hB.2.2; rw [if_pos hB] at HST; clear hB
       by_cases h1000 : rd sh kz ≤ 1000
       ·rw [if_pos h1000] at HST
        obtain ⟨xz, hxz⟩ : ∃ xz, xz = atv l (3 * (i : Int) + 2) 3 := ⟨_, rfl⟩; have HC15 := Aside0.mk (HCA.out (3 * (i : Int) + 2) 3); rw [← hxz] at HC15 HST; have HOUT := Aside0.mk (Option.some.inj HST.out); clear HST hxz; obtain ⟨sd, es, hsx⟩ := int_row_at HR1.out kz.toNat (by omega); subst es; rw [show ((kz.toNat : Nat) : Int) = kz by omega] at hsx; have HSX := Aside0.mk hsx; clear hsx; generalize rd sh kz = sz at HSX HOUT h1000; obtain ⟨cs, hcs, hgrow⟩ := V3.out.grow HRW.out hy; have HCS := Aside0.mk hcs; have HGR := Aside0.mk hgrow; have HNT := Aside0.mk (V3.out.top_ne HRW.out hcs); have HY := Aside0.mk hy; clear hcs hgrow hy; have hsz : (Value.slice A9 rows.length c9) = .slice A9 rows.length c9 := rfl; clear hsz; go_wp2
        go_loopw [12, 13] (fun u' v' wr' => ∃ f : Nat, (f : Int) ≤ max sz 0 ∧ v' = .int .i64 f ∧ Aside0 (Below w3.heap.size w3 wr') ∧ Aside0 (Kd.R (Kd.int .i64) 3 wr' w3.heap.size (fun _ => True) u' (List.replicate f xz))) (fun _ v' _ => (max sz 0).toNat - (intOf v').toNat)
        case atStart => exact ⟨0, by omega, rfl, ⟨Below.refl _ _⟩, ⟨Kd.R_nil _ _ _ _ _⟩⟩
        case round =>
         obtain ⟨f, hf, rfl, HB5, HR5⟩ := hrel; have hsx := cell_below (below_step B3.out HB5.out) HSX.out
         by_cases hfl : (f : Int) < sz
         ·have f1 : decide ((f : Int) < sz) = true := decide_eq_true hfl
          have HLEN := Aside0.mk (show (List.replicate f xz).length = f from List.length_replicate)
          go_wp2_with (first
           | (go_at_call 34; with_reducible refine (HC15.out _ ?b).mono ?_; (case b => exact below_step B3.out HB5.out); rintro e w6 ⟨rfl, hd⟩; have HB6 := Aside0.mk (below_step HB5.out hd.below); have HR6 := Aside0.mk (Kd.R_below HR5.out hd.below); clear hd)
           | ((with_reducible refine gate_builtin (b := .append) (xs := #[.tmp 87, .tmp 93]) rfl ?_); at_builtin; refine Kd.R_append (Kd.int .i64) (w0 := w3) w3.heap.size rfl (.tmp 87) (.tmp 93) 22 3 (.int .i64 0) 8 rfl Try.underlying22 info3 rfl (by decide) (by decide) u12 (List.replicate f xz) xz [.int .i64 xz] (fun _ => True) (fun _ => False) rfl rfl rfl (fun _ h => h.elim) (fun _ _ => trivial) HR6.out HB6.out HB6.out.size ?hl ?_; (case hl => rw [HLEN.out]; omega); intro v7 w7 ho7 hb7 hg7 hat7; have HR7 := Aside0.mk ho7; have HB7 := Aside0.mk hb7; clear ho7 hb7 hg7 hat7))
          go_roundw
          case rel => exact ⟨f + 1, by omega, by go_num, HB7, ⟨by rw [List.replicate_succ']; exact HR7.out⟩⟩
          case measure => simp [intOf]; omega
         ·have f1 : decide ((f : Int) < sz) = false := decide_eq_false hfl
          have hfz : f = sz.toNat := by omega
          have hfz2 := Aside0.mk hfz; clear hfz hf hfl; obtain ⟨q, hq⟩ : ∃ q, q = List.replicate f xz := ⟨_, rfl⟩; rw [← hq] at HR5; have HQ := Aside0.mk hq; clear hq; obtain ⟨A8, c8, rfl⟩ := Kd.R_slice HR5.out; have hy := cell_below HB5.out HY.out; have hlt := World.block_lt_of_cell? _ _ hy; have HLT := Aside0.mk hlt; have hfr := frozen_below HB5.out HY.out HFZ.out; have HFR := Aside0.mk hfr; clear hlt hfr
          go_wp2_with ((with_reducible refine gate_builtin (b := .append) (xs := #[.tmp 100, .tmp 102]) rfl ?_); at_builtin; refine print_append_cells (w0 := w) w.heap.size rfl (.tmp 100) (.tmp 102) 64 22 (.slice none 0 0) 1 24 rfl Try.underlying64 info22 rfl (by decide) (by decide) (.slice A9 rows.length c9) rows.length cs [.slice A8 q.length c8] rfl rfl rfl ?one ?own ?hb ?hbase ?hl ?_; (case one => intro u hu; simp only [List.mem_singleton] at hu; subst hu; rfl); (case own => exact own_move HCS.out (fun b hb => HB5.out.block b (own_lt HCS.out b hb))); (case hb => exact below_step B3.out HB5.out); (case hbase => exact (below_step B3.out HB5.out).size); (case hl => omega); intro v7 w7 hown7 hb7 hg7 hat7; (obtain ⟨A7, c7, rfl⟩ := own_slice hown7); have hcz := hg7.cell hy HNT.out; have hfz := (World.frozen?_of_block (hg7.block _ HLT.out HNT.out)).trans HFR.out; have HO7 := Aside0.mk hown7; have HB7 := Aside0.mk hb7; have HG7 := Aside0.mk hg7; have HA7 := Aside0.mk hat7; clear hown7 hb7 hg7 hat7 hy)
          have HW7 := Aside0.mk (HGR.out _ _ _ _ _ _ HB5.out HR5.out HG7.out HA7.out HO7.out)
          go_roundw
          case rel => exact ⟨m, i + 1, out.set kz.toNat (rows ++ [q]), by omega, by go_num, ⟨by rw [List.length_set]; exact HOL.out⟩, ⟨Below.setCell HB7.out HBL.out _⟩, ⟨by have := HW7.out; rw [HOL.out] at this; exact this⟩, ⟨by rw [HQ.out, hfz2.out, HOUT.out]; exact HLP.out⟩, ⟨Low.set (n := 1000000 + i) (k := kz.toNat) (rows := rows ++ [q]) HLO.out (by rw [List.length_append]; have := HLO.out _ _ HRW.out; simp; omega)⟩⟩
          case measure => simp [intOf]; omega
       (· rw [if_neg h1000] at HST; exact absurd HST.out (by simp))
      ·skip
       go_upto_region 10 with (fail)
       go_cut [78] (fun v wc => v = .bool false ∧ w3 = wc)
       case first =>
        by_cases b1 : hz = 1
        ·have c1 : (hz == 1) = true := beq_iff_eq.2 b1
         by_cases b2 : kz < sh.length
         ·have c2 := decide_eq_true b2
          have c3 : decide ((rows.length : Int) < 6) = false := decide_eq_false (fun h => hB ⟨b1, b2, by omega⟩); clear b1 hB; go_wp2
          go_meet
          case rel => exact ⟨rfl, rfl⟩
         ·have c2 := decide_eq_false b2
          clear b1 hB; go_wp2
          go_meet
          case rel => exact ⟨rfl, rfl⟩
        ·have c1 : (hz == 1) = false := beq_eq_false_iff_ne.2 b1
         go_wp2
         go_meet
         case rel => exact ⟨rfl, rfl⟩
       case rest =>
       obtain ⟨rfl, rfl⟩ := hcut; rw [if_neg hB] at HST; clear hB
       by_cases hr : 0 < rows.length
       ·rw [if_pos hr] at HST
        have r1 : decide ((0 : Int) < (rows.length : Int)) = true := decide_eq_true (by omega); have r2 : decide (0 < rows.length) = true := decide_eq_true hr; obtain ⟨jz, hjz⟩ : ∃ jz, jz = atv l (3 * (i : Int) + 2) (rows.length : Int) := ⟨_, rfl⟩
        have hj0 : 0 ≤ jz := by rw [hjz]; exact (HAT.out _ _).2.1
        have hj1 : jz < (rows.length : Int) := by rw [hjz]; exact (HAT.out _ _).2.2 (by omega)
        have HC18 := Aside0.mk (HCA.out (3 * (i : Int) + 2) (rows.length : Int)); rw [← hjz] at HC18 HST; have hrj := rd_L1_at rows jz hj0 hj1; have HRJ := Aside0.mk hrj; clear hrj hjz; generalize rd_L1 rows jz = rj at HRJ HST
        by_cases hz0 : rj.length = 0
        (· rw [if_pos hz0] at HST; exact absurd HST.out (by simp)); rw [if_neg hz0] at HST; obtain ⟨fz, hfz⟩ : ∃ fz, fz = atv l (3 * (i : Int) + 2) (rj.length : Int) := ⟨_, rfl⟩
        have hf0 : 0 ≤ fz := by rw [hfz]; exact (HAT.out _ _).2.1
        have hf1 : fz < (rj.length : Int) := by rw [hfz]; exact (HAT.out _ _).2.2 (by omega)
        have HC19 := Aside0.mk (HCA.out (3 * (i : Int) + 2) (rj.length : Int)); rw [← hfz] at HC19 HST; have HC20 := Aside0.mk (HCA.out (3 * (i : Int) + 2) 12); obtain ⟨xz, hxz⟩ : ∃ xz, xz = atv l (3 * (i : Int) + 2) 12 := ⟨_, rfl⟩
        have hx0 : 0 ≤ xz := by rw [hxz]; exact (HAT.out _ _).2.1
        have hx1 : xz < 12 := by rw [hxz]; exact (HAT.out _ _).2.2 (by omega)
        rw [← hxz] at HC20 HST
        have e20 : wrap64 (wrap64 (3 * (i : Int)) + 2) = 3 * (i : Int) + 2 := by rw [wrap64_id (x := 3 * (i : Int)) (by omega) (by omega), wrap64_id (by omega) (by omega)]
        have e21 : wrap64 (Int.tdiv xz 4) = Int.tdiv xz 4 := wrap64_id (by have := Int.tdiv_nonneg (a := xz) (b := 4) hx0 (by omega); omega) (by have := Int.tdiv_le_self 4 hx0; omega); rw [← e20] at HC20; have HE21 := Aside0.mk e21; clear e20 e21; have HOUT := Aside0.mk (Option.some.inj HST.out); clear HST hfz hxz; obtain ⟨ad2, A3, c3, rfl, hq, _, hCj, _⟩ := V3.out.record HRW.out hy HRJ.out; have hrjl := hCj.2.1; clear hCj
        go_upto_region 19 with (first
         | (go_at_call 34; with_reducible refine (HC18.out _ ?b).mono ?_; (case b => exact B3.out); rintro e w4 ⟨rfl, hd⟩; have B4 := Aside0.mk (below_step B3.out hd.below); have n0_ := cell_below hd.below hy; have n1_ := cell_below hd.below hq; clear hy hq; have hy := n0_; have hq := n1_; clear n0_ n1_; have V4 := Aside0.mk (V3.out.below hd.below); clear hd))
        go_upto_region 20 with (first
         | (go_at_call 34; with_reducible refine (HC19.out _ ?b).mono ?_; (case b => exact B4.out); rintro e w5 ⟨rfl, hd⟩; have B5 := Aside0.mk (below_step B4.out hd.below); have n0_ := cell_below hd.below hy; have n1_ := cell_below hd.below hq; clear hy hq; have hy := n0_; have hq := n1_; clear n0_ n1_; have V5 := Aside0.mk (V4.out.below hd.below); clear hd))
        obtain ⟨ad2', A3', c3', e3, hq', _, _, hst⟩ := V5.out.record HRW.out hy HRJ.out
        cases e3
        clear hq; obtain ⟨ad3, rfl, hcl, hfr, _, _⟩ := hst fz.toNat (by omega); have hq := hq'; clear hq' hst
        go_upto_region 20 with (fail)
        have B6 : Aside0 (Below w.heap.size w w5.drew) := ⟨below_drew B5.out⟩; have V6 : Aside0 (WRep w5.drew w.heap.size (.slice (some ad) out.length c) out) := V5; replace hy : w5.drew.cell? (ad.add kz.toNat) = some (.slice (some ad2) rows.length c9) := hy; replace hq : w5.drew.cell? (ad2.add jz.toNat) = some (.slice (some ad3) rj.length c3') := hq; replace hcl : w5.drew.cell? (ad3.add fz.toNat) = some (.int .i64 (rd rj fz.toNat)) := hcl; replace hfr : w5.drew.frozen? (ad3.add fz.toNat) = false := hfr; refine start_ (n := 16) (S := fun w' => w'.cell? (ad.add kz.toNat) = some (.slice (some ad2) rows.length c9) ∧ w'.cell? (ad2.add jz.toNat) = some (.slice (some ad3) rj.length c3')) (ds := [15]) #[O,O,O,O,O,O,O,O,O,O,O,O,O,O,O,O] (by kernel_rfl) rfl rfl ⟨hy, hq⟩ (fun hHeld => ?_); generalize w5.drew = w6 at B6 V6 hHeld hy hq hcl hfr ⊢; refine pure_ (i := 0) (N := some 126) (v := ?_) (a' := ?_) #[I,O,O,O,O,O,O,O,O,O,O,O,O,O,O,O] rfl rfl (by kernel_rfl) (fun _ _ _ h => h) (Or.inl ⟨by rfl, ?_⟩) ?_ ?_; rotate_left; (· intro w'; go_simp; with_reducible rfl); rotate_left; (· simp only [Act.put, sA_, sB_, sC_, i64_w, i32_w]; rfl); refine pure_ (i := 1) (N := some 127) (v := ?_) (a' := ?_) #[I,I,O,O,O,O,O,O,O,O,O,O,O,O,O,O] rfl rfl (by kernel_rfl) (fun _ _ _ h => h) (Or.inl ⟨by rfl, ?_⟩) ?_ ?_; rotate_left; (· intro w'; go_simp; with_reducible rfl); rotate_left; (· simp only [Act.put, sA_, sB_, sC_, i64_w, i32_w]; rfl); refine pure_ (i := 2) (N := some 128) (v := ?_) (a' := ?_) #[I,I,I,O,O,O,O,O,O,O,O,O,O,O,O,O] rfl rfl (by kernel_rfl) (fun _ _ _ h => h) (Or.inl ⟨by rfl, ?_⟩) ?_ ?_; rotate_left; (· intro w'; go_simp; with_reducible rfl); rotate_left; (· simp only [Act.put, sA_, sB_, sC_, i64_w, i32_w]; rfl); refine pure_ (i := 4) (N := some 130) (v := ?_) (a' := ?_) #[I,I,I,O,I,O,O,O,O,O,O,O,O,O,O,O] rfl rfl (by kernel_rfl) (fun _ _ _ h => h) (Or.inl ⟨by rfl, ?_⟩) ?_ ?_; rotate_left; (· intro w'; go_simp; with_reducible rfl); rotate_left; (· simp only [Act.put, sA_, sB_, sC_, i64_w, i32_w]; rfl); refine pure_ (i := 7) (N := some 133) (v := ?_) (a' := ?_) #[I,I,I,O,I,O,O,I,O,O,O,O,O,O,O,O] rfl rfl (by kernel_rfl) (fun _ _ _ h => h) (Or.inl ⟨by rfl, ?_⟩) ?_ ?_; rotate_left; (· intro w'; go_simp; with_reducible rfl); rotate_left; (· simp only [Act.put, sA_, sB_, sC_, i64_w, i32_w]; rfl); refine pure_ (i := 8) (N := some 134) (v := ?_) (a' := ?_) #[I,I,I,O,I,O,O,I,I,O,O,O,O,O,O,O] rfl rfl (by kernel_rfl) (fun _ _ _ h => h) (Or.inl ⟨by rfl, ?_⟩) ?_ ?_
        rotate_left; (· intro w'; go_simp; with_reducible rfl); rotate_left; (· simp only [Act.put, sA_, sB_, sC_, i64_w, i32_w]; rfl); refine pure_ (i := 9) (N := some 135) (v := ?_) (a' := ?_) #[I,I,I,O,I,O,O,I,I,I,O,O,O,O,O,O] rfl rfl (by kernel_rfl) (fun _ _ _ h => h) (Or.inl ⟨by rfl, ?_⟩) ?_ ?_; rotate_left; (· intro w'; go_simp; with_reducible rfl); rotate_left; (· simp only [Act.put, sA_, sB_, sC_, i64_w, i32_w]; rfl); refine pure_ (i := 10) (N := some 136) (v := ?_) (a' := ?_) #[I,I,I,O,I,O,O,I,I,I,I,O,O,O,O,O] rfl rfl (by kernel_rfl) (fun _ _ _ h => h) (Or.inl ⟨by rfl, ?_⟩) ?_ ?_; rotate_left; (· intro w'; go_simp; with_reducible rfl); rotate_left; (· simp only [Act.put, sA_, sB_, sC_, i64_w, i32_w]; rfl); refine pure_ (i := 11) (N := some 137) (v := ?_) (a' := ?_) #[I,I,I,O,I,O,O,I,I,I,I,I,O,O,O,O] rfl rfl (by kernel_rfl) (fun _ _ _ h => h) (Or.inl ⟨by rfl, ?_⟩) ?_ ?_; rotate_left; (· intro w'; go_simp; with_reducible rfl); rotate_left; (· simp only [Act.put, sA_, sB_, sC_, i64_w, i32_w]; rfl); refine take_ (i := 3) (N := some 129) (v := ?_) (a' := ?_) #[I,I,I,I,I,O,O,I,I,I,I,I,O,O,O,O] rfl rfl (by kernel_rfl) (fun _ _ _ h => h) (Or.inl ⟨by rfl, ?_⟩) hHeld ?_ ?_; rotate_left; (· rintro w' ⟨s0, s1⟩; go_simp; with_reducible rfl); rotate_left; (· simp only [Act.put, sA_, sB_, sC_, i64_w, i32_w]; rfl); refine pure_ (i := 5) (N := some 131) (v := ?_) (a' := ?_) #[I,I,I,I,I,I,O,I,I,I,I,I,O,O,O,O] rfl rfl (by kernel_rfl) (fun _ _ _ h => h) (Or.inl ⟨by rfl, ?_⟩) ?_ ?_; rotate_left; (· intro w'; go_simp; with_reducible rfl); rotate_left; (· simp only [Act.put, sA_, sB_, sC_, i64_w, i32_w]; rfl); refine take_ (i := 6) (N := some 132) (v := ?_) (a' := ?_) #[I,I,I,I,I,I,I,I,I,I,I,I,O,O,O,O] rfl rfl (by kernel_rfl) (fun _ _ _ h => h) (Or.inl ⟨by rfl, ?_⟩) hHeld ?_ ?_; rotate_left; (· rintro w' ⟨s0, s1⟩; go_simp; with_reducible rfl); rotate_left; (· simp only [Act.put, sA_, sB_, sC_, i64_w, i32_w]; rfl); refine one_ (i := 12) (N := some 138) #[I,I,I,I,I,I,I,I,I,I,I,I,I,O,O,O] rfl rfl (by kernel_rfl) (by decide) (fun K hK => ?_); refine goes_ Try.func34 (by kernel_rfl) rfl #[.slice A2 l.length c2, .int .i64 (wrap64 (wrap64 (3 * (i : Int)) + 2)), .int .i64 12] (by rfl) rfl rfl (by simp only [List.map_toArray, List.map_cons, List.map_nil]; rfl) ?_
        with_reducible refine (HC20.out w6 B6.out).mono ?_
        rintro e w7 ⟨rfl, hd⟩; refine ⟨_, rfl, ?_⟩; have B7 := Aside0.mk (below_step B6.out hd.below); have V7 := Aside0.mk (V6.out.below hd.below); replace hy := cell_below hd.below hy; replace hq := cell_below hd.below hq; have hcz := cell_below hd.below hcl; have hfz := frozen_below hd.below hcl hfr; clear hd; refine hK.out _ _ ⟨hy, hq⟩ (fun hHeld => ?_); clear hK K; refine norm_ (a' := ?_) ?_ ?_; rotate_left
        ·show Act.put _ (some 138) _ = _
         simp only [Act.put, sA_, sB_, sC_, i64_w, i32_w]; rfl
        refine pure_ (i := 13) (N := some 139) (v := ?_) (a' := ?_) #[I,I,I,I,I,I,I,I,I,I,I,I,I,I,O,O] rfl rfl (by kernel_rfl) (fun _ _ _ h => h) (Or.inl ⟨by rfl, ?_⟩) ?_ ?_; rotate_left; (· intro w'; go_simp; with_reducible rfl); rotate_left; (· simp only [Act.put, sA_, sB_, sC_, i64_w, i32_w]; rfl); refine pure_ (i := 14) (N := some 140) (v := ?_) (a' := ?_) #[I,I,I,I,I,I,I,I,I,I,I,I,I,I,I,O] rfl rfl (by kernel_rfl) (fun _ _ _ h => h) (Or.inl ⟨by rfl, ?_⟩) ?_ ?_; rotate_left; (· intro w'; go_simp; with_reducible rfl); rotate_left; (· simp only [Act.put, sA_, sB_, sC_, i64_w, i32_w]; rfl); refine last_ (i := 15) (N := none) #[I,I,I,I,I,I,I,I,I,I,I,I,I,I,I,I] rfl rfl (by kernel_rfl) (by decide) (fun K hK => ?_); refine skip_ (w1 := ?_) (by rfl) rfl ?_ ?_; rotate_left; (· go_simp; rfl); refine hK.out _ _ ?_; clear hK K; refine done_ (by kernel_rfl) ?_; obtain ⟨ad2', A3, c3, e3, hq', _, _, hst⟩ := V7.out.record HRW.out hy HRJ.out
        cases e3
        rw [hq] at hq'
        injection hq' with hq'
        injection hq' with e1 e2 e3
        subst e1; obtain ⟨ad4, e4, _, _, hbl, hst⟩ := hst fz.toNat (by omega)
        injection e4 with e4
        subst e4; have HWS := Aside0.mk (hst (Int.tdiv xz 4)); have HBL2 := Aside0.mk hbl; clear hst hbl e2 e3; go_wp2
        go_roundw
        case rel => exact ⟨m, i + 1, out.set kz.toNat (rows.set jz.toNat (rj.set fz.toNat (Int.tdiv xz 4))), by omega, by go_num, ⟨by rw [List.length_set]; exact HOL.out⟩, ⟨Below.setCell B7.out (by rw [add_block]; exact HBL2.out) _⟩, ⟨by have := HWS.out; rw [HOL.out] at this; rw [HE21.out]; exact this⟩, ⟨by rw [HOUT.out]; exact HLP.out⟩, ⟨Low.set (n := 1000000 + i) (k := kz.toNat) (rows := rows.set jz.toNat (rj.set fz.toNat (Int.tdiv xz 4))) HLO.out (by rw [List.length_set]; have := HLO.out _ _ HRW.out; omega)⟩⟩
        case measure => simp [intOf]; omega
       ·rw [if_neg hr] at HST
        have r1 : decide ((0 : Int) < (rows.length : Int)) = false := decide_eq_false (by omega); have r2 : decide (0 < rows.length) = false := decide_eq_false hr; have HOUT := Aside0.mk (Option.some.inj HST.out); clear HST hr; go_wp2
        go_roundw
        case rel => exact ⟨m, i + 1, out, by omega, by go_num, HOL, B3, ⟨by have := V3.out; rw [HOL.out] at this; exact this⟩, ⟨by rw [HOUT.out]; exact HLP.out⟩, ⟨Low.succ (n := 1000000 + i) HLO.out⟩⟩
        case measure => simp [intOf]; omega
   ·rw [if_neg hg] at H
    obtain rfl := Option.some.inj H; have hol := HOL.out
    by_cases h1 : 3 * (i : Int) + 2 < l.length
    (· have hg1 : decide (3 * (i : Int) + 2 < (l.length : Int)) = true := decide_eq_true h1; have hg2 : decide ((0 : Int) < (l0.length : Int)) = false := decide_eq_false (by omega); have hg3 : decide (0 < l0.length) = false := decide_eq_false (by omega); clear hol; go_wp2; go_ret; exact ⟨_, rfl, HV.out, HB.out⟩); (· have hg1 : decide (3 * (i : Int) + 2 < (l.length : Int)) = false := decide_eq_false h1; clear hol; go_wp2; go_ret; exact ⟨_, rfl, HV.out, HB.out⟩)
theorem dioramaref36_Near.calls (A0 : Option Addr) (c0 : Nat) (l0 : List (List (List Int))) (A1 : Option Addr) (c1 : Nat) (l1 : List Int) (A2 : Option Addr) (c2 : Nat) (l2 : List Int) (r : List (List (List Int))) (w : World) (hr0 : Kd.C (Kd.slice 22 (Kd.slice 3 (Kd.int .i64))) w A0 l0.length l0) (hc0 : l0.length ≤ c0)
  (hr1 : Kd.C (Kd.int .i64) w A1 l1.length l1) (hc1 : l1.length ≤ c1) (hr2 : Kd.C (Kd.int .i64) w A2 l2.length l2) (hc2 : l2.length ≤ c2) (h : dioramaref36_Near.f l0 l1 l2 = some r) :
  Calls Try.prog 12 #[.slice A0 l0.length c0, .slice A1 l1.length c1, .slice A2 l2.length c2] w fun e w' => ∃ v0_ : Value, e = .returned (v0_) ∧ Kd.R (Kd.slice 22 (Kd.slice 3 (Kd.int .i64))) 64 w' w.heap.size (fun _ => True) v0_ r ∧ Below w.heap.size w w' := by
 unfold dioramaref36_Near.f at h
 split at h
 ·next hs =>
  simp only [Bool.and_eq_true, decide_eq_true_eq] at hs; refine (near_any A0 c0 l0 A1 c1 l1 A2 c2 l2 r w hr0 hr1 hc1 hr2 hc2 (smallB_small hs.1.1) hs.1.2 hs.2 h).mono ?_; rintro e w' ⟨v, rfl, hv, hb⟩; exact ⟨v, rfl, hv.R, hb⟩
 ·cases h
end Go.Proofs.Ytcgpemefmakjiaa.PX
namespace Go.Proofs.Ytcgpemefmakjiaa.Iter
open Go.RowKit
def IteratesI {α : Type} (F : Fence) (n : Nat) (P : Program) (gf : Nat) (lb : Array Value) (enc : α → Array Value) (T : α → World → Prop) (S : List α → World → Prop) (N : Nat) (B : Nat) (ts tI : List Nat) (H : World → Prop) (l : Nat) (W1 : World) : Prop :=
 ∀ J : List α → World → Prop, (∀ s A, J s A → H A) → (∀ s A C, J s A → StepC W1.heap.size tI A C → J s C) →
  (∀ pre x W, J pre W → pre.length < N → T x W → YieldAt F (n - 1) P l (enc x) W fun e W' => e = .returned (.bool true) ∧ J (pre ++ [x]) W' ∧ KeepIter B ts W W') →
  J [] W1 → CallsIn F n P gf (#[.func (.yield l) #[] #[]] ++ lb) W1 fun e W' => (∃ v, e = .returned v) ∧ ∃ xs, S xs W' ∧ J xs W'
variable {F : Fence} {n : Nat} {P : Program}
theorem wpIn_range_onI {α : Type} {g : Operand} {ps : Array Tmp} {assign body : Code} {Q : Exit → Act → World → Prop} {a : Act} {w : World}
  (hro : F.round = none) (h1 : 1 ≤ n) {gf : Nat} {lb : Array Value} (hg : a.eval g = .func (.func gf) #[] lb) (hFg : F.fn gf) (eg : ∀ args w, (callFunc gf args).run P w = .ok (.enter gf args) w)
  {enc : α → Array Value} {T : α → World → Prop} {S : List α → World → Prop} {N : Nat} {B : Nat} {ts tI : List Nat} {H : World → Prop} (hB : B ≤ w.heap.size)
  (hiter : ∀ L, IteratesI F (n - 1) P gf lb enc T S N B ts tI H (w.heap.size + 1) ((w.alloc (.deferred (some []))).alloc (.loop L)))
  (hps : ∀ x, (enc x).size = ps.size)
  (I : List α → World → Prop) (Ax : α → Act → World → Prop) (hIH : ∀ s A, I s A → H A)
  (hI : ∀ s A C, I s A → StepI w.heap.size tI A C → I s C) (hT : ∀ x A C, T x A → StepI w.heap.size tI A C → T x C) (hS : ∀ s A C, S s A → StepI w.heap.size tI A C → S s C) (hAx : ∀ x a A C, Ax x a A → StepI w.heap.size tI A C → Ax x a C)
  (h0 : I [] w)
  (hassign : ∀ (l : Nat) (pre : List α) (x : α) (W : World) (K : Act → World → Prop), I pre W → T x W → (∀ a1 W1, KeepBody B ts W W1 → I pre W1 → T x W1 → Ax x a1 W1 → K a1 W1) →
   assign.wpIn (F.inRound l) (n - 1 - 1) P (Exit.then K (fun _ _ _ => False)) { tmps := (ps.zip (enc x)).foldl (fun t (p, v) => t.setIfInBounds p v) a.tmps, defers := [] } W)
  (hbody : ∀ (l : Nat) (pre : List α) (x : α) (a1 : Act) (W : World), I pre W → pre.length < N → T x W → Ax x a1 W → body.wpIn (F.inRound l) (n - 1 - 1) P (onPost B ts W (I (pre ++ [x]))) a1 W)
  (hdone : ∀ (D : Nat) (xs : List α) (W : World), w.heap.size ≤ D → S xs W → I xs W → W.heap[D]? = some (.deferred (some [])) → Q .normal { a with defers := { target := .collected D, args := #[] } :: a.defers } W) :
  (Code.rangeFunc g ps assign body).wpIn F n P Q a w := by
 refine wpIn_rangeFunc ?_; intro fn hfn; rw [hro]
 obtain ⟨rec, hrec⟩ : ∃ rec : LoopState → Option Code → Loop, rec = fun st pe => { state := st, pending := pe, fn, tmps := a.tmps, params := ps, assign, body, defers := w.heap.size } := ⟨_, rfl⟩
 have hit := hiter (rec .ready none); obtain ⟨W1, hW1⟩ : ∃ W1, (w.alloc (.deferred (some []))).alloc (.loop (rec .ready none)) = W1 := ⟨_, rfl⟩; rw [hW1] at hit
 have hsz : W1.heap.size = w.heap.size + 2 := by rw [← hW1]; simp
 have hL1 : W1.heap[w.heap.size + 1]? = some (.loop (rec .ready none)) := by
  rw [← hW1]; have := World.alloc_heap_new (w.alloc (.deferred (some []))) (.loop (rec .ready none)); rwa [World.size_alloc] at this
 have hK1 : W1.heap[w.heap.size]? = some (.deferred (some [])) := by
  rw [← hW1]; exact (Below.heap_alloc _ _ _ (by simp)).trans (World.alloc_heap_new w _)
 have hI1 : I [] W1 := by rw [← hW1]; exact hI _ _ _ (hI _ _ _ h0 (StepI.alloc _ _ _ _)) (StepI.alloc _ _ _ _)
 refine ⟨w.heap.size + 1, [{ target := .collected w.heap.size, args := #[] }], W1, { target := .fn (.func gf) lb, args := #[.func (.yield (w.heap.size + 1)) #[] #[]] }, W1, gf,
  #[.func (.yield (w.heap.size + 1)) #[] #[]] ++ lb, W1, ?_, ?_, ?_, ?_, fun _ => h1, ?_⟩
 (· rw [← hW1, hrec]; exact run_enterLoop_outer _ _ _ _ _)
 ·simp only [resolve, hg]
  simp [go_sem]
 (· intro f' hf'; simp [Target.leads] at hf'; subst hf'; exact hFg)
 ·simp [invoke, go_sem, eg]
 ·refine (hit (fun pre W => I pre W ∧ W.heap[w.heap.size + 1]? = some (.loop (rec .ready none)) ∧ W.heap[w.heap.size]? = some (.deferred (some []))) (fun s A hs => hIH s A hs.1)
   (fun s A C hs hst => ⟨hI s A C hs.1 (hst.i (by omega)), hst.nocells hs.2.1 rfl, hst.nocells hs.2.2 rfl⟩) ?_ ⟨hI1, hL1, hK1⟩).mono ?_
  ·rintro pre x W ⟨hi, hl, hk⟩ hlen ht
   have hlt : w.heap.size + 1 < W.heap.size := (Array.getElem?_eq_some_iff.1 hl).1; have hy := run_yield (P := P) (args := enc x) hl (by rw [hrec]; exact hps x); rw [hrec] at hy; refine ⟨fn, _, assign, body, hy, roundIn_of_wpIn hfn (hassign _ pre x W _ hi ht (fun a1 W2 hkb hi2 ht2 hax => ?_))⟩; have hl2 : W2.heap[w.heap.size + 1]? = some (.loop (rec .ready none)) := hkb.same _ _ hl (.inr (.inl rfl)); have hk2 : W2.heap[w.heap.size]? = some (.deferred (some [])) := hkb.same _ _ hk (.inr (.inl rfl)); have hlt2 : w.heap.size + 1 < W2.heap.size := (Array.getElem?_eq_some_iff.1 hl2).1; refine ⟨_, run_beginRound hl2 (by rw [hrec]), ?_⟩; obtain ⟨W3, hW3⟩ : ∃ W3, W2.putObj (w.heap.size + 1) (.loop { rec .ready none with state := .busy }) = W3 := ⟨_, rfl⟩
   have hst : StepI w.heap.size tI W2 W3 := by rw [← hW3]; exact StepI.putObj _ (by omega) hl2 rfl
   have hl3 : W3.heap[w.heap.size + 1]? = some (.loop { rec .ready none with state := .busy }) := by rw [← hW3]; exact World.putObj_heap_same hlt2
   have hk3 : W3.heap[w.heap.size]? = some (.deferred (some [])) := by rw [← hW3]; exact (World.putObj_heap_other (by omega)).trans hk2
   have hw3 : KeepIter B ts W2 W3 := by rw [← hW3]; exact KeepIter.putObj _ (by omega) hl2 rfl
   rw [hW3]; refine wpIn_mono (hbody _ pre x a1 W3 (hI _ _ _ hi2 hst) hlen (hT _ _ _ ht2 hst) (hAx _ _ _ _ hax hst)) ?_; rintro e a3 W4 hp
   cases e with
   | normal =>
    obtain ⟨hkb4, hi4⟩ := hp; have hl4 := hkb4.same _ _ hl3 (.inr (.inl rfl)); have hk4 := hkb4.same _ _ hk3 (.inr (.inl rfl)); have hr := run_endRound (P := P) none hl4; refine ⟨_, _, hr, rfl, ⟨hI _ _ _ hi4 (StepI.putObj _ (by omega) hl4 rfl), ?_, (World.putObj_heap_other (by omega)).trans hk4⟩, ((hkb.iter.trans hw3).trans hkb4.iter).trans (KeepIter.putObj _ (by omega) hl4 rfl)⟩; rw [hrec]; exact World.putObj_heap_same (Array.getElem?_eq_some_iff.1 hl4).1
   | ret => exact hp.elim
   | exit id => exact hp.elim
   | goto t => exact hp.elim
   | panic ch => exact hp.elim
   | outgrown => exact hp.elim
  ·rintro e W2 ⟨⟨v, rfl⟩, xs, hs, hi, hl, hk⟩
   have hst : ∀ o', StepI w.heap.size tI W2 (W2.putObj (w.heap.size + 1) o') := fun o' => StepI.putObj _ (by omega) hl rfl
   exact ⟨none, _, by have := run_endLoop (P := P) hl (by rw [hrec]; simp); rw [hrec] at this; exact this, hdone _ xs _ (Nat.le_refl _) (hS _ _ _ hs (hst _)) (hI _ _ _ hi (hst _)) ((World.putObj_heap_other (by omega)).trans hk)⟩
end Go.Proofs.Ytcgpemefmakjiaa.Iter
namespace Go.Proofs.Ytcgpemefmakjiaa.PX
open Go.RowKit Go.Shelf Go.Proofs.Ytcgpemefmakjiaa.Iter Go.Proofs.YtcgpemefmakjiaaW.PrintWords Go.Proofs.YtcgpemefmakjiaaW.PrintLast Go.Proofs.YtcgpemefmakjiaaW.PrintMore
set_option linter.unusedVariables false
set_option linter.unusedSimpArgs false
attribute [local go_sem] Oper.semAt_some
abbrev Bk := Nat × S61 × Value
def Bk.cells (x : Bk) : Array Value := #[.int .i64 x.2.1.f0, .int .i64 x.2.1.f1, .int .i64 x.2.1.f2, .int .i64 x.2.1.f3, .int .i64 x.2.1.f4, x.2.2]
def Bk.enc (x : Bk) : Array Value := #[.int .i64 x.1, .agg x.cells]
def Bk.T (w0 : World) (xs : List S61) (x : Bk) (_ : World) : Prop := x.2.1 ∈ xs ∧ ∃ A c, x.2.2 = .slice A x.2.1.f5.length c ∧ x.2.1.f5.length ≤ c ∧ Kd.C (Kd.int .i64) w0 A x.2.1.f5.length x.2.1.f5
set_option maxHeartbeats 400000 in
theorem backward_any (A : Option Addr) (n c : Nat) (w : World) :
  Calls Try.prog 45 #[.slice A n c] w fun e w' => e = .returned (.func (.func 68) #[] #[.pointer (some ⟨w.heap.size, 0, none⟩)]) ∧ w' = w.alloc (.cells #[.slice A n c] 30) := by
 go_enter Try.func45, Try.ntmps45
 go_wp2; go_ret; exact ⟨rfl, rfl⟩
theorem rd_T61_nat' (xs : List S61) (i : Nat) (h : i < xs.length) : rd_T61 xs i = xs[i] := by simp [rd_T61, List.getD_eq_getElem?_getD, h]
set_option maxHeartbeats 2000000 in
set_option maxRecDepth 100000 in
theorem backward1_iterates (n N B : Nat) (ts : List Nat) (w0 W1 : World) (l : Nat) (A : Option Addr) (c : Nat) (xs : List S61) (bl : Nat) (hr : Kd.C k61 w0 A xs.length xs) (hN : xs.length ≤ N) (hlen : xs.length ≤ 1000000) :
  IteratesI Fence.wide n Try.prog 68 #[.pointer (some ⟨bl, 0, none⟩)] Bk.enc (Bk.T w0 xs) (fun ys _ => ys.map (·.2.1) = xs.reverse) N B ts [] (fun W => Below w0.heap.size w0 W ∧ W.heap[bl]? = some (.cells #[.slice A xs.length c] 30 (0, 0))) l W1 := by
 intro J hJH hJ hY h0; have HR := Aside0.mk hr; have HJH := Aside0.mk hJH; have HY := Aside0.mk hY; have HJ0 := Aside0.mk h0; have hcb := cell_of_row _ _ 0 _ 30 (0, 0) (hJH _ _ h0).2; clear hr hJH hJ hY h0; refine callsIn_of_wp Try.func68 rfl trivial ?_ rfl; simp only [Try.ntmps68, List.size_toArray, List.length_cons, List.length_nil, Nat.reduceAdd, Nat.reduceSub, Array.replicate_succ, Array.replicate_zero, List.push_toArray, List.append_toArray, List.nil_append, List.cons_append]
 gi_wp2
 gi_loopw [3] (fun v wr => ∃ (p : Nat) (pre : List Bk), p ≤ xs.length ∧ v = .int .i64 ((p : Int) - 1) ∧ Aside0 (pre.map (·.2.1) = (xs.drop p).reverse) ∧ Aside0 (J pre wr)) (fun v _ => (intOf v + 1).toNat)
 case atStart => exact ⟨xs.length, [], Nat.le_refl _, rfl, ⟨by simp⟩, HJ0⟩
 case round =>
  obtain ⟨p, pre, hp, rfl, HP, HJi⟩ := hrel; clear HJ0 hcb; have hcb := cell_of_row _ _ 0 _ 30 (0, 0) (HJH.out _ _ HJi.out).2
  by_cases hp0 : 0 < p
  ·obtain ⟨q, rfl⟩ : ∃ q, p = q + 1 := ⟨p - 1, by omega⟩
   have hcast : (((q + 1 : Nat) : Int) - 1) = (q : Int) := by omega
   rw [hcast]; clear hcast; obtain ⟨ad, A5, c5, e, hx0, hx1, hx2, hx3, hx4, hx5, hl5, hi5⟩ := at_T61 HR.out q (by omega) (by omega)
   cases e
   rw [Int.toNat_natCast] at hx0 hx1 hx2 hx3 hx4 hx5; have hB := (HJH.out _ _ HJi.out).1
   have cb : ∀ {a : Addr} {v : Value}, w0.cell? a = some v → wr.cell? a = some v := fun h => (hB.cell (World.block_lt_of_cell? w0 _ h)).trans h
   replace hx0 := cb hx0; replace hx1 := cb hx1; replace hx2 := cb hx2; replace hx3 := cb hx3; replace hx4 := cb hx4; replace hx5 := cb hx5; have e1 := rd_T61_nat' xs q (by omega); have HSN := Aside0.mk (show (xs.drop q).reverse = (xs.drop (q + 1)).reverse ++ [rd_T61 xs q] by rw [List.drop_eq_getElem_cons (show q < xs.length by omega), List.reverse_cons, e1])
   have HLEN := Aside0.mk (show pre.length < N by
    have e := congrArg List.length HP.out; rw [List.length_map, List.length_reverse, List.length_drop] at e
    omega)
   have HT := Aside0.mk (show Bk.T w0 xs (q, rd_T61 xs q, .slice A5 (rd_T61 xs q).f5.length c5) wr from ⟨by rw [e1]; exact List.getElem_mem _, A5, c5, rfl, hl5, hi5⟩); clear cb hB e1 hl5 hi5; generalize rd_T61 xs (q : Int) = ch at hx0 hx1 hx2 hx3 hx4 hx5 HSN HT; have HYY := Aside0.mk (HY.out pre (q, ch, .slice A5 ch.f5.length c5) wr HJi.out HLEN.out HT.out); obtain ⟨fn, tmps, assign, body, hy, hRR⟩ := yield_any (m' := n - 1) rfl HYY.out; clear HYY; simp only [Bk.enc, Bk.cells] at hy
   gi_wp2
   refine ⟨(fun h => by cases h), hRR.mono ?_⟩; rintro e W3 ⟨rfl, hj2, hk⟩; have HJ2 := Aside0.mk hj2; clear hj2 hk HJi hcb hRR hy hx0 hx1 hx2 hx3 hx4 hx5
   gi_wp2
   go_roundw
   case rel => exact ⟨q, pre ++ [_], by omega, by go_num, ⟨by rw [List.map_append, HP.out, HSN.out]; rfl⟩, HJ2⟩
   case measure => simp [intOf] <;> omega
  ·have e : p = 0 := by omega
   subst e
   gi_wp2
   go_end0
   exact ⟨⟨_, rfl⟩, pre, by rw [HP.out, List.drop_zero], HJi.out⟩
end Go.Proofs.Ytcgpemefmakjiaa.PX
namespace Go.Proofs.Ytcgpemefmakjiaa.Iter
open Go.RowKit Go.Proofs.YtcgpemefmakjiaaW.PrintWords Go.Proofs.YtcgpemefmakjiaaW.PrintLast
variable {P : Program} {l n : Nat} {ops : Array Oper} {md : Region.Mode} {Q : Exit → Act → World → Prop}
theorem wpIn_of_wp {o : Oper} {a : Act} {w : World} {K : Act → World → Prop} (hd : ∀ c, o.op ≠ .defer c) (h : o.wp P a w K Q) : o.wpIn (Fence.wide.inRound l) n P a w K Q := by
 refine ⟨fun f _ => trivial, ?_⟩; rw [Oper.semAt_eq _ _ _ hd]; unfold Oper.wp at h; generalize (execOp a.eval o).run P w = r at h ⊢; unfold Oper.upon at h; unfold Oper.uponIn
 split at h
 (· exact h); (· exact h); (· exact h); (· exact ⟨fun hs => (by cases hs), CallsIn.inRound l (callsIn_wide.2 h)⟩); (· exact ⟨fun hs => (by cases hs), fun c cs _ => let ⟨v, w', r, s⟩ := h c cs; ⟨v, w', r, stepsIn_wide.2 s⟩⟩); (· exact h); (· exact h.elim)
theorem wpAnyIn_of_wpAny (hQ : ¬LetsOut Q) (hd : ∀ (i : Nat) o, ops[i]? = some o → ∀ c, o.op ≠ .defer c) : ∀ (fuel : Nat) (listed : Array Bool) (a : Act) (w : World), wpAny P md ops Q fuel listed a w → wpAnyIn (Fence.wide.inRound l) n P md ops Q fuel listed a w
 | 0, _, _, _, h => h
 | fuel + 1, listed, a, w, h => ⟨h.1, fun i hi => by
  have h2 := h.2 i hi; have ih := wpAnyIn_of_wpAny hQ hd fuel; unfold wpOp at h2; unfold wpOpIn
  cases ho : ops[i]? with
  | none =>
   rw [ho] at h2; exact ih _ _ _ h2
  | some o =>
   rw [ho] at h2; simp only at h2 ⊢
   split at h2
   ·next hw =>
    rw [if_pos hw]
    rcases h2 with h2 | ⟨_, h2⟩
    (· exact Oper.wpIn_mono (fun a w h => ih _ a w h) (wpIn_of_wp (hd i o ho) h2)); (· exact absurd h2 hQ)
   ·next hw =>
    rw [if_neg hw]
    exact ⟨fun f _ => trivial, ih _ _ _ h2⟩⟩
theorem startIn_ {S : World → Prop} {ds : List Nat} {id k : Nat} {a : Act} {w : World} (t : Array Bool) (hm : P.follows .mixedOrders = true) (hQ : ¬LetsOut Q) (hd : ops.toList.all (fun o => match o.op with | .defer _ => false | _ => true) = true) (hn : ops.size = k) (hl : Array.replicate k false = t) (hS : S w.drew)
  (h : S w.drew → wpAnyLast P .any ops Q S ds k t a w.drew) : (Code.region id ops true).wpIn (Fence.wide.inRound l) n P Q a w := by
 subst hn; subst hl; refine wpIn_region_any hm (wpAnyIn_of_wpAny hQ (fun i o ho c e => ?_) _ _ _ _ (wpAny_of_last _ _ _ _ (h hS))); rw [List.all_eq_true] at hd
 have := hd o (by
  obtain ⟨h, rfl⟩ := Array.getElem?_eq_some_iff.1 ho
  exact Array.getElem_mem_toList h)
 rw [e] at this
 cases this
end Go.Proofs.Ytcgpemefmakjiaa.Iter
namespace Go.Proofs.Ytcgpemefmakjiaa.PX
open Go.RowKit Go.Shelf Go.Proofs.Ytcgpemefmakjiaa.Iter Go.Proofs.YtcgpemefmakjiaaW.PrintWords Go.Proofs.YtcgpemefmakjiaaW.PrintLast Go.Proofs.YtcgpemefmakjiaaW.PrintMore
set_option linter.unusedVariables false
set_option linter.unusedSimpArgs false
attribute [local go_sem] Oper.semAt_some
def turnF (f : Int) : Int := if f = -1 then -2 else if f = -2 then -1 else f
def turnC (c : S61) : S61 := ⟨c.f0, c.f1, turnF c.f2, c.f4, c.f3, c.f5⟩
def turnR (l : List S61) : List S61 := l.reverse.map turnC
def TurnPost (w : World) (r : List S61) (e : Ending) (w' : World) : Prop := ∃ v0_ : Value, e = .returned v0_ ∧ Kd.R k61 61 w' w.heap.size (fun _ => True) v0_ r ∧ Below w.heap.size w w'
theorem turn_leave (w : World) (r : List S61) (tmps : Array Value) (Ds : List Nat) (W : World) (v0 : Value) (h2 : tmps.getD 2 undef = v0) (hm : Marked w.heap.size Ds W)
  (hR : Kd.R k61 61 W w.heap.size (fun _ => True) v0 r) (hB : Below w.heap.size w W) : bodyPostM Fence.wide 5 Try.prog Try.f20 (TurnPost w r) .ret { tmps := tmps, defers := marksOf Ds } W := by
 refine leaves_marks (B := w.heap.size) (fun A => Kd.R k61 61 A w.heap.size (fun _ => True) v0 r ∧ Below w.heap.size w A) (fun A C h hs => ⟨R_stepI h.1 hs (fun _ _ => by simp), hs.below h.2 (Nat.le_refl _) (Nat.le_refl _)⟩) (fun A h => ?_) Ds W hm ⟨hR, hB⟩; refine ⟨_, results_tmp rfl _ _ _, v0, ?_, h.1, h.2⟩; rw [h2]
theorem R_keep {W W' : World} {base b5 : Nat} {cs : Array Value} {v : Value} {xs : List S61} (h : Kd.R k61 61 W base (fun _ => True) v xs) (hm : ∀ k, k ≠ b5 → W'.heap[k]? = W.heap[k]?) (h5 : W.heap[b5]? = some (.cells cs 61 (0, 0))) (hne : some b5 ≠ v.ownBlock) : Kd.R k61 61 W' base (fun _ => True) v xs := by
 obtain ⟨h0, inner, ho, hr⟩ := h; refine ⟨h0, inner, own_move ho (fun k hk => hm k (fun e => hne (by rw [← e]; exact hk.symm))), hr.imp_ (fun _ _ hp => k61.M_mono (fun k hk => hk.1) (k61.M_move (fun k hk => hm k (fun e => ?_)) (k61.M_bound hp)))⟩; obtain ⟨_, _, _, q, hq, cells, hc⟩ := hk; rw [e, h5] at hc
 injection hc with hc
 injection hc with _ hc
 subst hc; exact absurd hq (by decide)
structure TurnS (w : World) (A : Option Addr) (c : Nat) (xs : List S61) (b5 : Nat) (v' : Value) (ys : List S61) (cs : Array Value) (W : World) : Prop where
 box : W.heap[w.heap.size]? = some (.cells #[v'] 30 (0, 0))
 row : Kd.R k61 61 W w.heap.size (fun _ => True) v' ys
 bel : Below w.heap.size w W
 lst : W.heap[w.heap.size + 1]? = some (.cells #[.slice A xs.length c] 30 (0, 0))
 var : W.heap[b5]? = some (.cells cs 61 (0, 0))
 ne : some b5 ≠ v'.ownBlock
 ge : w.heap.size ≤ b5
section
variable {w : World} {A : Option Addr} {c : Nat} {xs : List S61} {b5 : Nat} {v' : Value} {ys : List S61} {cs : Array Value} {W W' : World}
theorem TurnS.below (h : TurnS w A c xs b5 v' ys cs W) (hb : Below W.heap.size W W') : TurnS w A c xs b5 v' ys cs W' :=
 ⟨(hb.block _ (blk_lt h.box)).trans h.box, Kd.R_below h.row hb, h.bel.trans (hb.mono h.bel.size), (hb.block _ (blk_lt h.lst)).trans h.lst, (hb.block _ (blk_lt h.var)).trans h.var, h.ne, h.ge⟩
theorem TurnS.ne_ (h : TurnS w A c xs b5 v' ys cs W) {i : Nat} {d : Array Value} (hi : W.heap[i]? = some (.cells d 30 (0, 0))) : i ≠ b5 := fun e => by
 rw [e, h.var] at hi
 injection hi with hi
 injection hi with _ hi
 exact absurd hi (by decide)
theorem TurnS.set (h : TurnS w A c xs b5 v' ys cs W) (k : Nat) (u : Value) : TurnS w A c xs b5 v' ys (cs.setIfInBounds k u) (W.setCell ⟨b5, k, none⟩ u) :=
 ⟨(Below.heap_setCell _ _ _ _ (h.ne_ h.box)).trans h.box, R_keep h.row (fun k hk => Below.heap_setCell _ _ _ _ hk) h.var h.ne, h.bel.setCell (p := ⟨b5, k, none⟩) h.ge _, (Below.heap_setCell _ _ _ _ (h.ne_ h.lst)).trans h.lst, by have := blk_set h.var k u; simpa using this, h.ne, h.ge⟩
theorem TurnS.keep (h : TurnS w A c xs b5 v' ys cs W) (k : Nat) (u : Value) : KeepBody w.heap.size [30, 61] W (W.setCell ⟨b5, k, none⟩ u) := KeepBody.setCell _ h.ge (fun o ho => by
 rw [show ((⟨b5, k, none⟩ : Addr).block) = b5 from rfl, h.var] at ho
 injection ho with ho
 exact ⟨_, 61, (0, 0), ho.symm, by decide⟩)
end
def TurnJ (w : World) (bo bl : Nat) (A : Option Addr) (c : Nat) (xs : List S61) (s : List Bk) (W : World) : Prop :=
 ∃ v', W.heap[bo]? = some (.cells #[v'] 30 (0, 0)) ∧ Kd.R k61 61 W w.heap.size (fun _ => True) v' (s.map (fun x => turnC x.2.1)) ∧ Below w.heap.size w W ∧ W.heap[bl]? = some (.cells #[.slice A xs.length c] 30 (0, 0))
theorem turn_end {w W W6 : World} {A : Option Addr} {c : Nat} {xs : List S61} {b5 : Nat} {v' : Value} {ys : List S61} {cs : Array Value} {t : S61} (cells : List Value) (h : TurnS w A c xs b5 v' ys cs W6) (hk : KeepBody w.heap.size [30, 61] W W6) (v1 : Value) (w1 : World)
  (hr1 : Kd.R k61 61 w1 w.heap.size (fun _ => True) v1 (ys ++ [t])) (hg1 : (W6.alloc (.cells cells.toArray 61)).grownBy w1 v'.ownBlock) :
  w1.heap[w.heap.size]? = some (.cells #[v'] 30 (0, 0)) ∧ KeepBody w.heap.size [30, 61] W (w1.setCell ⟨w.heap.size, 0, none⟩ v1) ∧
   ∃ v'', (w1.setCell ⟨w.heap.size, 0, none⟩ v1).heap[w.heap.size]? = some (.cells #[v''] 30 (0, 0)) ∧ Kd.R k61 61 (w1.setCell ⟨w.heap.size, 0, none⟩ v1) w.heap.size (fun _ => True) v'' (ys ++ [t]) ∧ Below w.heap.size w (w1.setCell ⟨w.heap.size, 0, none⟩ v1) ∧ (w1.setCell ⟨w.heap.size, 0, none⟩ v1).heap[w.heap.size + 1]? = some (.cells #[.slice A xs.length c] 30 (0, 0)) := by
 have hal : Below W6.heap.size W6 (W6.alloc (.cells cells.toArray 61)) := below_alloc (Below.refl _ _) _; have hne := Kd.R_ne h.row h.box (by decide); have hne2 := Kd.R_ne h.row h.lst (by decide); have hlt1 := blk_lt h.box; have hlt2 := blk_lt h.lst; have hbx1 : w1.heap[w.heap.size]? = some (.cells #[v'] 30 (0, 0)) := (hg1.block _ (by have := hal.size; omega) hne).trans ((hal.block _ hlt1).trans h.box); have hls1 : w1.heap[w.heap.size + 1]? = some (.cells #[.slice A xs.length c] 30 (0, 0)) := (hg1.block _ (by have := hal.size; omega) hne2).trans ((hal.block _ hlt2).trans h.lst)
 have hrow : ∀ r, v'.ownBlock = some r → w.heap.size ≤ r := fun r e => Kd.R_base h.row r e
 have hkb : KeepBody w.heap.size [30, 61] W6 (w1.setCell ⟨w.heap.size, 0, none⟩ v1) :=
  ((KeepBody.alloc _ _ _ _).trans (KeepBody.grown hg1 (fun r e => ⟨hrow r e, fun o ho => by
   obtain ⟨cells, hc⟩ := Kd.R_typed (Kd.R_below h.row hal) r e; rw [hc] at ho
   injection ho with ho
   exact ⟨cells, 61, (0, 0), ho.symm, by decide⟩⟩))).trans (KeepBody.setCell _ (Nat.le_refl _) (fun o ho => by
   rw [show ((⟨w.heap.size, 0, none⟩ : Addr).block) = w.heap.size from rfl, hbx1] at ho
   injection ho with ho
   exact ⟨_, 30, (0, 0), ho.symm, by decide⟩))
 refine ⟨hbx1, hk.trans hkb, v1, ?_, ?_, ?_, ?_⟩
 ·have := blk_set hbx1 0 v1
  simpa using this
 (· exact Kd.R_set hr1 hbx1 (by decide) 0 v1); (· exact ((h.bel.trans (hal.mono h.bel.size)).grown hg1 (Nat.le_trans h.bel.size hal.size) (fun r e => hrow r e)).setCell (p := ⟨w.heap.size, 0, none⟩) (Nat.le_refl _) v1); (· exact (Below.heap_setCell _ _ _ _ (by simp)).trans hls1)
set_option maxHeartbeats 2000000 in
set_option maxRecDepth 100000 in
theorem turn_in (A : Option Addr) (c : Nat) (xs : List S61) (w : World) (hr : Kd.C k61 w A xs.length xs) (hc : xs.length ≤ c) (hlen : xs.length ≤ 1000000) (hwd : ∀ x ∈ xs, x.f5.length ≤ 1000000) :
  Calls Try.prog 20 #[.slice A xs.length c] w (TurnPost w (turnR xs)) := by
 refine (callsIn_wide (n := 5)).1 (callsIn_of_wp_marks Try.func20 rfl trivial ?_ rfl); refine wpIn_wide.2 ?_; simp only [Try.ntmps20, List.size_toArray, List.length_cons, List.length_nil, Nat.reduceAdd, Nat.reduceSub, Array.replicate_succ, Array.replicate_zero, List.push_toArray, List.append_toArray, List.nil_append, List.cons_append]; have HR := Aside0.mk hr; have HC := Aside0.mk hc; have HW := Aside0.mk hwd; clear hr hc hwd
 go_wp2_with (go_at_call 45; refine (backward_any _ _ _ _).mono ?_; rintro e w3 ⟨rfl, rfl⟩)
 obtain ⟨W0, hW0⟩ : ∃ W0, W0 = (w.alloc (.cells #[.slice none 0 0] 30)).alloc (.cells #[.slice A xs.length c] 30) := ⟨_, rfl⟩
 have hsz : W0.heap.size = w.heap.size + 2 := by rw [hW0]; simp
 have hb0 : Below w.heap.size w W0 := by rw [hW0]; exact below_alloc (below_alloc (Below.refl _ _) _) _
 have hbo : W0.heap[w.heap.size]? = some (.cells #[.slice none 0 0] 30 (0, 0)) := by
  rw [hW0, Below.heap_alloc _ _ _ (by simp)]; exact heap_alloc_new w _
 have hbl : W0.heap[w.heap.size + 1]? = some (.cells #[.slice A xs.length c] 30 (0, 0)) := by
  rw [hW0]; have := heap_alloc_new (w.alloc (.cells #[.slice none 0 0] 30)) (.cells #[.slice A xs.length c] 30)
  simpa using this
 rw [← hW0]; clear hW0; have HB0 := Aside0.mk hb0; clear hb0
 refine wpIn_wide.1 (wpIn_range_onI (n := 5) (α := Bk) rfl (by omega) (gf := 68) (lb := #[.pointer (some ⟨w.heap.size + 1, 0, none⟩)]) rfl trivial (enters_of Try.func68 (by kernel_rfl) rfl)
  (enc := Bk.enc) (T := Bk.T w xs) (S := fun ys _ => ys.map (·.2.1) = xs.reverse) (N := 1000000) (B := w.heap.size) (ts := [30, 61]) (tI := []) (H := fun W => Below w.heap.size w W ∧ W.heap[w.heap.size + 1]? = some (.cells #[.slice A xs.length c] 30 (0, 0))) (by omega)
  (fun L => ?iter) (fun x => rfl)
  (fun s W => TurnJ w w.heap.size (w.heap.size + 1) A c xs s W)
  (fun x a1 W => ∃ b5 v2, W.heap[b5]? = some (.cells x.cells 61 (0, 0)) ∧ w.heap.size ≤ b5 ∧ W.heap[w.heap.size]? = some (.cells #[v2] 30 (0, 0)) ∧ some b5 ≠ v2.ownBlock ∧ a1 = { tmps := #[.slice A xs.length c, undef, .slice none 0 0, .pointer (some ⟨w.heap.size, 0, none⟩), undef, .pointer (some ⟨b5, 0, none⟩), .slice A xs.length c, .func (.func 68) #[] #[.pointer (some ⟨w.heap.size + 1, 0, none⟩)], .int .i64 x.1, .agg x.cells, undef, undef, undef, undef, undef, undef, undef, undef, undef, undef, undef, undef, undef, undef, undef, undef, undef, undef, undef, undef, undef, undef, undef], defers := [] })
  ?hIH ?hI ?hT (fun _ _ _ h _ => h) ?hAx ?h0 ?assign ?body ?done)
 case iter => exact backward1_iterates _ _ _ _ w _ _ A c xs _ HR.out hlen hlen
 case hIH =>
  rintro s W ⟨v', _, _, hB, hl⟩; exact ⟨hB, hl⟩
 case hI =>
  rintro s P C ⟨v', hb, hr, hB, hl⟩ hst; exact ⟨v', hst.other hb (by decide), R_stepI hr hst (fun _ _ => by simp), hst.below hB (Nat.le_refl _) (by omega), hst.other hl (by decide)⟩
 case hT =>
  rintro x P C h hst; exact h
 case hAx =>
  rintro x a1 P C ⟨b5, v2, h5, hb, hv, hn, e⟩ hst; exact ⟨b5, v2, hst.other h5 (by decide), hb, hst.other hv (by decide), hn, e⟩
 case h0 => exact ⟨_, hbo, Kd.R_nil _ _ _ _ _, HB0.out, hbl⟩
 case assign =>
  rintro l pre ⟨i, ch, vs⟩ W K ⟨v', hb, hr, hB, hl⟩ ht hK; obtain ⟨hmem, A5, c5, es, hl5, hi5⟩ := ht; have es : vs = .slice A5 ch.f5.length c5 := es; subst es; have hal : Below W.heap.size W (W.alloc (.cells (Bk.cells (i, ch, .slice A5 ch.f5.length c5)) 61)) := below_alloc (Below.refl _ _) _
  have HK := Aside0.mk (hK { tmps := #[.slice A xs.length c, undef, .slice none 0 0, .pointer (some ⟨w.heap.size, 0, none⟩), undef, .pointer (some ⟨W.heap.size, 0, none⟩), .slice A xs.length c, .func (.func 68) #[] #[.pointer (some ⟨w.heap.size + 1, 0, none⟩)], .int .i64 i, .agg #[.int .i64 ch.f0, .int .i64 ch.f1, .int .i64 ch.f2, .int .i64 ch.f3, .int .i64 ch.f4, .slice A5 ch.f5.length c5], undef, undef, undef, undef, undef, undef, undef, undef, undef, undef, undef, undef, undef, undef, undef, undef, undef, undef, undef, undef, undef, undef, undef], defers := [] } (W.alloc (.cells (Bk.cells (i, ch, .slice A5 ch.f5.length c5)) 61)) (KeepBody.alloc _ _ _ _)
   ⟨v', (hal.block _ (blk_lt hb)).trans hb, Kd.R_below hr hal, hB.trans (hal.mono hB.size), (hal.block _ (blk_lt hl)).trans hl⟩ ⟨hmem, A5, c5, rfl, hl5, hi5⟩ ⟨W.heap.size, v', heap_alloc_new W _, hB.size, (hal.block _ (blk_lt hb)).trans hb, fun e => Nat.lt_irrefl _ (Kd.R_lt hr _ e.symm), rfl⟩)
  clear hb hr hB hl hK hal hl5 hi5; simp only [Bk.enc, Bk.cells] at HK ⊢
  gi_wp2
  exact HK.out
 case body =>
  rintro l pre ⟨i, ch, vs⟩ a1 W ⟨v', hb, hr, hB, hl⟩ hlen2 ht ⟨b5, v2, h5, hb5, hb2, hne, rfl⟩; obtain ⟨hmem, A5, c5, es, hl5, hi5⟩ := ht; have es : vs = .slice A5 ch.f5.length c5 := es; subst es
  have ev : v2 = v' := by
   rw [hb] at hb2
   injection hb2 with hb2
   injection hb2 with hb2
   injection hb2 with hb2
   injection hb2 with hb2
   exact hb2.symm
  subst ev; simp only [Bk.cells] at h5; have HS0 := Aside0.mk (show TurnS w A c xs b5 v2 (pre.map (fun x => turnC x.2.1)) #[.int .i64 ch.f0, .int .i64 ch.f1, .int .i64 ch.f2, .int .i64 ch.f3, .int .i64 ch.f4, .slice A5 ch.f5.length c5] W from ⟨hb, hr, hB, hl, h5, hne, hb5⟩); have HI5 := Aside0.mk hi5; have HCLN : Aside0 (slices_Clone_int_int.f ch.f5 = some ch.f5) := ⟨by unfold slices_Clone_int_int.f; rw [if_pos (by have h : ch.f5.length ≤ 1000000 := HW.out _ hmem; omega)]⟩
  have hlx : ((pre.map (fun x => turnC x.2.1)).length + 1) * 64 ≤ 140737488355328 := by
   rw [List.length_map]; omega
  have HLX := Aside0.mk hlx; have HSN := Aside0.mk (show (pre ++ [((i, ch, .slice A5 ch.f5.length c5) : Bk)]).map (fun x => turnC x.2.1) = pre.map (fun x => turnC x.2.1) ++ [turnC ch] by rw [List.map_append]; rfl); obtain ⟨ys, hys⟩ : ∃ ys, ys = pre.map (fun x => turnC x.2.1) := ⟨_, rfl⟩; rw [← hys] at HS0 HLX HSN; have hc0 := cell_of_row _ _ 0 _ 61 (0, 0) h5; have hc1 := cell_of_row _ _ 1 _ 61 (0, 0) h5; have hc2 := cell_of_row _ _ 2 _ 61 (0, 0) h5; have hc3 := cell_of_row _ _ 3 _ 61 (0, 0) h5; have hc4 := cell_of_row _ _ 4 _ 61 (0, 0) h5; have hc5 := cell_of_row _ _ 5 _ 61 (0, 0) h5
  have hf2 : W.frozen? ⟨b5, 2, none⟩ = false := by simp [World.frozen?, h5]
  clear hys hlx hmem hi5 hB hr hb hl h5 hne hb2 es hb5
  by_cases f1 : ch.f2 = -1
  ·have f2 : True := trivial
   have g1 : (ch.f2 == -1) = true := beq_iff_eq.2 f1
   gi_wp2
   obtain ⟨WX, hWX⟩ : ∃ WX, WX = W.setCell ⟨b5, 2, none⟩ (.int .i64 (-2)) := ⟨_, rfl⟩; have HS1 := Aside0.mk (show TurnS w A c xs b5 v2 ys #[.int .i64 ch.f0, .int .i64 ch.f1, .int .i64 (-2), .int .i64 ch.f3, .int .i64 ch.f4, .slice A5 ch.f5.length c5] WX from by rw [hWX]; exact HS0.out.set 2 _); have HK1 := Aside0.mk (show KeepBody w.heap.size [30, 61] W WX from by rw [hWX]; exact HS0.out.keep 2 _); clear hc0 hc1 hc2 hc3 hc4 hc5 hf2; rw [← hWX]; have HS4 : Aside0 (TurnS w A c xs b5 v2 ys #[.int .i64 ch.f0, .int .i64 ch.f1, .int .i64 (-2), .int .i64 ch.f3, .int .i64 ch.f4, .slice A5 ch.f5.length c5] WX.drew) := ⟨HS1.out.below (below_drew (Below.refl _ _))⟩; have HK4 : Aside0 (KeepBody w.heap.size [30, 61] W WX.drew) := ⟨HK1.out.trans (KeepBody.grown (grown_of_below (below_drew (Below.refl _ _)) none) (fun r e => by cases e))⟩; have hc3 : WX.drew.cell? ⟨b5, 3, none⟩ = some (.int .i64 ch.f3) := cell_of_row _ _ 3 _ 61 (0, 0) HS4.out.var; have hc4 : WX.drew.cell? ⟨b5, 4, none⟩ = some (.int .i64 ch.f4) := cell_of_row _ _ 4 _ 61 (0, 0) HS4.out.var; have hc5 : WX.drew.cell? ⟨b5, 5, none⟩ = some (.slice A5 ch.f5.length c5) := cell_of_row _ _ 5 _ 61 (0, 0) HS4.out.var; clear HS1 HK1; refine Iter.startIn_ (k := 13) (S := fun w' => w'.cell? ⟨b5, 3, none⟩ = some (.int .i64 ch.f3) ∧ w'.cell? ⟨b5, 4, none⟩ = some (.int .i64 ch.f4) ∧ w'.cell? ⟨b5, 5, none⟩ = some (.slice A5 ch.f5.length c5)) (ds := [8, 10, 12]) #[O,O,O,O,O,O,O,O,O,O,O,O,O] (by kernel_rfl) (fun h => by obtain ⟨_, _, h⟩ := h; exact h) (by kernel_rfl) rfl rfl ⟨hc3, hc4, hc5⟩ (fun hHeld => ?_); generalize WX.drew = w4 at HS4 HK4 hHeld hc3 hc4 hc5 ⊢; refine pure_ (i := 0) (N := some 18) (v := ?_) (a' := ?_) #[I,O,O,O,O,O,O,O,O,O,O,O,O] rfl rfl (by kernel_rfl) (fun _ _ _ h => h) (Or.inl ⟨by rfl, ?_⟩) ?_ ?_; rotate_left; (· intro w'; go_simp; with_reducible rfl); rotate_left; (· simp only [Act.put, sA_, sB_, sC_, i64_w, i32_w]; rfl); refine pure_ (i := 2) (N := some 20) (v := ?_) (a' := ?_) #[I,O,I,O,O,O,O,O,O,O,O,O,O] rfl rfl (by kernel_rfl) (fun _ _ _ h => h) (Or.inl ⟨by rfl, ?_⟩) ?_ ?_; rotate_left; (· intro w'; go_simp; with_reducible rfl); rotate_left; (· simp only [Act.put, sA_, sB_, sC_, i64_w, i32_w]; rfl); refine pure_ (i := 4) (N := some 22) (v := ?_) (a' := ?_) #[I,O,I,O,I,O,O,O,O,O,O,O,O] rfl rfl (by kernel_rfl) (fun _ _ _ h => h) (Or.inl ⟨by rfl, ?_⟩) ?_ ?_; rotate_left; (· intro w'; go_simp; with_reducible rfl); rotate_left; (· simp only [Act.put, sA_, sB_, sC_, i64_w, i32_w]; rfl); refine take_ (i := 1) (N := some 19) (v := ?_) (a' := ?_) #[I,I,I,O,I,O,O,O,O,O,O,O,O] rfl rfl (by kernel_rfl) (fun _ _ _ h => h) (Or.inl ⟨by rfl, ?_⟩) hHeld ?_ ?_
   rotate_left; (· rintro w' ⟨s0, s1, s2⟩; go_simp; with_reducible rfl); rotate_left; (· simp only [Act.put, sA_, sB_, sC_, i64_w, i32_w]; rfl); refine take_ (i := 3) (N := some 21) (v := ?_) (a' := ?_) #[I,I,I,I,I,O,O,O,O,O,O,O,O] rfl rfl (by kernel_rfl) (fun _ _ _ h => h) (Or.inl ⟨by rfl, ?_⟩) hHeld ?_ ?_; rotate_left; (· rintro w' ⟨s0, s1, s2⟩; go_simp; with_reducible rfl); rotate_left; (· simp only [Act.put, sA_, sB_, sC_, i64_w, i32_w]; rfl); refine take_ (i := 5) (N := some 23) (v := ?_) (a' := ?_) #[I,I,I,I,I,I,O,O,O,O,O,O,O] rfl rfl (by kernel_rfl) (fun _ _ _ h => h) (Or.inl ⟨by rfl, ?_⟩) hHeld ?_ ?_; rotate_left; (· rintro w' ⟨s0, s1, s2⟩; go_simp; with_reducible rfl); rotate_left; (· simp only [Act.put, sA_, sB_, sC_, i64_w, i32_w]; rfl); refine pure_ (i := 7) (N := some 25) (v := ?_) (a' := ?_) #[I,I,I,I,I,I,O,I,O,O,O,O,O] rfl rfl (by kernel_rfl) (fun _ _ _ h => h) (Or.inl ⟨by rfl, ?_⟩) ?_ ?_; rotate_left; (· intro w'; go_simp; with_reducible rfl); rotate_left; (· simp only [Act.put, sA_, sB_, sC_, i64_w, i32_w]; rfl); refine one_ (i := 6) (N := some 24) #[I,I,I,I,I,I,I,I,O,O,O,O,O] rfl rfl (by kernel_rfl) (by decide) (fun K hK => ?_); refine goes_ Try.func43 (by kernel_rfl) rfl #[.slice A5 ch.f5.length c5] (by rfl) rfl rfl (by simp only [List.map_toArray, List.map_cons, List.map_nil]; rfl) ?_
   with_reducible refine (slices_Clone_int_int.calls A5 c5 ch.f5 ch.f5 w4 (Kd.C_below HI5.out HS4.out.bel) hl5 HCLN.out).mono ?_
   rintro e w5 ⟨vc, rfl, hR, hB2⟩; refine ⟨_, rfl, ?_⟩; obtain ⟨Av, cv, rfl⟩ := Kd.R_slice hR; have HS5 := Aside0.mk (HS4.out.below hB2); have HR5 := Aside0.mk (Kd.R_lower hR HS4.out.bel.size); have HK5 := Aside0.mk (HK4.out.trans (KeepBody.grown (grown_of_below hB2 none) (fun r e => by cases e))); have hc0 := cell_of_row _ _ 0 _ 61 (0, 0) HS5.out.var; have hc1 := cell_of_row _ _ 1 _ 61 (0, 0) HS5.out.var; have hc2 := cell_of_row _ _ 2 _ 61 (0, 0) HS5.out.var; have hc3 := cell_of_row _ _ 3 _ 61 (0, 0) HS5.out.var; have hc4 := cell_of_row _ _ 4 _ 61 (0, 0) HS5.out.var; have hc5 := cell_of_row _ _ 5 _ 61 (0, 0) HS5.out.var
   have hf3 : w5.frozen? ⟨b5, 3, none⟩ = false := by simp [World.frozen?, HS5.out.var]
   have hf4 : w5.frozen? ⟨b5, 4, none⟩ = false := by simp [World.frozen?, HS5.out.var]
   have hf5 : w5.frozen? ⟨b5, 5, none⟩ = false := by simp [World.frozen?, HS5.out.var]
   clear hR hB2; refine hK.out _ _ ⟨hc3, hc4, hc5⟩ (fun hHeld => ?_); clear hK K; refine norm_ (a' := ?_) ?_ ?_; rotate_left
   ·show Act.put _ (some 24) _ = _
    simp only [Act.put, sA_, sB_, sC_, i64_w, i32_w]; rfl
   refine last_ (i := 8) (N := none) #[I,I,I,I,I,I,I,I,I,O,O,O,O] rfl rfl (by kernel_rfl) (by decide) (fun K hK => ?_); refine skip_ (w1 := ?_) (by rfl) rfl ?_ ?_; rotate_left; (· go_simp; rfl); refine hK.out _ _ ?_; clear hK K; refine pure_ (i := 9) (N := some 26) (v := ?_) (a' := ?_) #[I,I,I,I,I,I,I,I,I,I,O,O,O] rfl rfl (by kernel_rfl) (fun _ _ _ h => h) (Or.inl ⟨by rfl, ?_⟩) ?_ ?_; rotate_left; (· intro w'; go_simp; with_reducible rfl); rotate_left; (· simp only [Act.put, sA_, sB_, sC_, i64_w, i32_w]; rfl); refine last_ (i := 10) (N := none) #[I,I,I,I,I,I,I,I,I,I,I,O,O] rfl rfl (by kernel_rfl) (by decide) (fun K hK => ?_); refine skip_ (w1 := ?_) (by rfl) rfl ?_ ?_; rotate_left; (· go_simp; rfl); refine hK.out _ _ ?_; clear hK K; refine pure_ (i := 11) (N := some 27) (v := ?_) (a' := ?_) #[I,I,I,I,I,I,I,I,I,I,I,I,O] rfl rfl (by kernel_rfl) (fun _ _ _ h => h) (Or.inl ⟨by rfl, ?_⟩) ?_ ?_; rotate_left; (· intro w'; go_simp; with_reducible rfl); rotate_left; (· simp only [Act.put, sA_, sB_, sC_, i64_w, i32_w]; rfl); refine last_ (i := 12) (N := none) #[I,I,I,I,I,I,I,I,I,I,I,I,I] rfl rfl (by kernel_rfl) (by decide) (fun K hK => ?_); refine skip_ (w1 := ?_) (by rfl) rfl ?_ ?_; rotate_left; (· go_simp; rfl); refine hK.out _ _ ?_; clear hK K; refine done_ (by kernel_rfl) ?_; have HS6 := Aside0.mk (((HS5.out.set 3 (.int .i64 ch.f4)).set 4 (.int .i64 ch.f3)).set 5 (.slice Av ch.f5.length cv)); have HK6 := Aside0.mk (((HK5.out.trans (HS5.out.keep 3 (.int .i64 ch.f4))).trans ((HS5.out.set 3 (.int .i64 ch.f4)).keep 4 (.int .i64 ch.f3))).trans (((HS5.out.set 3 (.int .i64 ch.f4)).set 4 (.int .i64 ch.f3)).keep 5 (.slice Av ch.f5.length cv))); have HR6 := Aside0.mk (Kd.R_set (Kd.R_set (Kd.R_set HR5.out HS5.out.var (by decide) 3 (.int .i64 ch.f4)) (HS5.out.set 3 (.int .i64 ch.f4)).var (by decide) 4 (.int .i64 ch.f3)) ((HS5.out.set 3 (.int .i64 ch.f4)).set 4 (.int .i64 ch.f3)).var (by decide) 5 (.slice Av ch.f5.length cv)); have HT := Aside0.mk (show turnC ch = ⟨ch.f0, ch.f1, (-2), ch.f4, ch.f3, ch.f5⟩ by unfold turnC turnF; simp [f1, f2]); rw [HT.out] at HSN; obtain ⟨W6, hW6⟩ : ∃ W6, W6 = ((w5.setCell ⟨b5, 3, none⟩ (.int .i64 ch.f4)).setCell ⟨b5, 4, none⟩ (.int .i64 ch.f3)).setCell ⟨b5, 5, none⟩ (.slice Av ch.f5.length cv) := ⟨_, rfl⟩; rw [← hW6] at HS6 HK6 HR6 ⊢; clear hW6 HS5 HK5 HR5 HT hc0 hc1 hc2 hc3 hc4 hc5 hf3 hf4 hf5; have HMP := Aside0.mk (M_ne (k61_mkM W6 w.heap.size (fun _ => True) (⟨ch.f0, ch.f1, (-2), ch.f4, ch.f3, ch.f5⟩ : S61) HR6.out) HS6.out.row); have HEND := Aside0.mk (turn_end (t := ⟨ch.f0, ch.f1, (-2), ch.f4, ch.f3, ch.f5⟩) [.int .i64 ch.f0, .int .i64 ch.f1, .int .i64 (-2), .int .i64 ch.f4, .int .i64 ch.f3, .slice Av ch.f5.length cv] HS6.out HK6.out); obtain ⟨A2, c2, ev⟩ := Kd.R_slice HS6.out.row
   obtain ⟨nv, hnv⟩ : ∃ nv, nv = ys.length := ⟨_, rfl⟩; rw [← hnv] at ev; subst ev; clear hnv; have hc0 := cell_of_row _ _ 0 _ 61 (0, 0) HS6.out.var; have hc1 := cell_of_row _ _ 1 _ 61 (0, 0) HS6.out.var; have hc2 := cell_of_row _ _ 2 _ 61 (0, 0) HS6.out.var; have hc3 := cell_of_row _ _ 3 _ 61 (0, 0) HS6.out.var; have hc4 := cell_of_row _ _ 4 _ 61 (0, 0) HS6.out.var; have hc5 := cell_of_row _ _ 5 _ 61 (0, 0) HS6.out.var; have hcb := cell_of_row _ _ 0 _ 30 (0, 0) HS6.out.box; have hu61 := Try.underlying61
   gi_wp2_with ((gi_at_builtin; refine R_append_in k61 (W := W6) w.heap.size rfl (.tmp 28) (.tmp 30) 30 61 (.agg #[(.int .i64 0), (.int .i64 0), (.int .i64 0), (.int .i64 0), (.int .i64 0), (.slice none 0 0)]) 64 rfl Try.underlying30 info61 rfl (by decide) (by omega) (.slice A2 nv c2) ys (⟨ch.f0, ch.f1, (-2), ch.f4, ch.f3, ch.f5⟩ : S61) [.int .i64 ch.f0, .int .i64 ch.f1, .int .i64 (-2), .int .i64 ch.f4, .int .i64 ch.f3, .slice Av ch.f5.length cv] (fun _ => True) (fun k_ => True ∧ some k_ ≠ (.slice A2 nv c2 : Value).ownBlock) rfl rfl HMP.out (fun _ hk => hk) (fun _ _ => trivial) HS6.out.row HS6.out.bel.size HLX.out ?_; intro v1 w1 hr1 hg1 hv1; obtain ⟨A1, c1', e1⟩ := hv1; obtain ⟨n1, hn1⟩ : ∃ n1, n1 = ys.length + 1 := ⟨_, rfl⟩; rw [← hn1] at e1; subst e1; clear hn1; have HE := HEND.out _ w1 hr1 hg1; obtain ⟨hbx1, hE2⟩ := HE; have HE2 := Aside0.mk hE2; have hcb1 := cell_of_row _ _ 0 _ 30 (0, 0) hbx1; have hfb1 : w1.frozen? ⟨w.heap.size, 0, none⟩ = false := (by simp [World.frozen?, hbx1]); clear hbx1 hE2 hr1 hg1))
   obtain ⟨hk9, v9, q1, q2, q3, q4⟩ := HE2.out; exact ⟨hk9, v9, q1, by rw [HSN.out]; exact q2, q3, q4⟩
  by_cases f2 : ch.f2 = -2
  ·have g1 : (ch.f2 == -1) = false := beq_eq_false_iff_ne.2 f1
   have g2 : (ch.f2 == -2) = true := beq_iff_eq.2 f2
   gi_wp2
   obtain ⟨WX, hWX⟩ : ∃ WX, WX = W.setCell ⟨b5, 2, none⟩ (.int .i64 (-1)) := ⟨_, rfl⟩; have HS1 := Aside0.mk (show TurnS w A c xs b5 v2 ys #[.int .i64 ch.f0, .int .i64 ch.f1, .int .i64 (-1), .int .i64 ch.f3, .int .i64 ch.f4, .slice A5 ch.f5.length c5] WX from by rw [hWX]; exact HS0.out.set 2 _); have HK1 := Aside0.mk (show KeepBody w.heap.size [30, 61] W WX from by rw [hWX]; exact HS0.out.keep 2 _); clear hc0 hc1 hc2 hc3 hc4 hc5 hf2; rw [← hWX]; have HS4 : Aside0 (TurnS w A c xs b5 v2 ys #[.int .i64 ch.f0, .int .i64 ch.f1, .int .i64 (-1), .int .i64 ch.f3, .int .i64 ch.f4, .slice A5 ch.f5.length c5] WX.drew) := ⟨HS1.out.below (below_drew (Below.refl _ _))⟩; have HK4 : Aside0 (KeepBody w.heap.size [30, 61] W WX.drew) := ⟨HK1.out.trans (KeepBody.grown (grown_of_below (below_drew (Below.refl _ _)) none) (fun r e => by cases e))⟩; have hc3 : WX.drew.cell? ⟨b5, 3, none⟩ = some (.int .i64 ch.f3) := cell_of_row _ _ 3 _ 61 (0, 0) HS4.out.var; have hc4 : WX.drew.cell? ⟨b5, 4, none⟩ = some (.int .i64 ch.f4) := cell_of_row _ _ 4 _ 61 (0, 0) HS4.out.var; have hc5 : WX.drew.cell? ⟨b5, 5, none⟩ = some (.slice A5 ch.f5.length c5) := cell_of_row _ _ 5 _ 61 (0, 0) HS4.out.var; clear HS1 HK1; refine Iter.startIn_ (k := 13) (S := fun w' => w'.cell? ⟨b5, 3, none⟩ = some (.int .i64 ch.f3) ∧ w'.cell? ⟨b5, 4, none⟩ = some (.int .i64 ch.f4) ∧ w'.cell? ⟨b5, 5, none⟩ = some (.slice A5 ch.f5.length c5)) (ds := [8, 10, 12]) #[O,O,O,O,O,O,O,O,O,O,O,O,O] (by kernel_rfl) (fun h => by obtain ⟨_, _, h⟩ := h; exact h) (by kernel_rfl) rfl rfl ⟨hc3, hc4, hc5⟩ (fun hHeld => ?_); generalize WX.drew = w4 at HS4 HK4 hHeld hc3 hc4 hc5 ⊢; refine pure_ (i := 0) (N := some 18) (v := ?_) (a' := ?_) #[I,O,O,O,O,O,O,O,O,O,O,O,O] rfl rfl (by kernel_rfl) (fun _ _ _ h => h) (Or.inl ⟨by rfl, ?_⟩) ?_ ?_; rotate_left; (· intro w'; go_simp; with_reducible rfl); rotate_left; (· simp only [Act.put, sA_, sB_, sC_, i64_w, i32_w]; rfl); refine pure_ (i := 2) (N := some 20) (v := ?_) (a' := ?_) #[I,O,I,O,O,O,O,O,O,O,O,O,O] rfl rfl (by kernel_rfl) (fun _ _ _ h => h) (Or.inl ⟨by rfl, ?_⟩) ?_ ?_; rotate_left; (· intro w'; go_simp; with_reducible rfl); rotate_left; (· simp only [Act.put, sA_, sB_, sC_, i64_w, i32_w]; rfl); refine pure_ (i := 4) (N := some 22) (v := ?_) (a' := ?_) #[I,O,I,O,I,O,O,O,O,O,O,O,O] rfl rfl (by kernel_rfl) (fun _ _ _ h => h) (Or.inl ⟨by rfl, ?_⟩) ?_ ?_; rotate_left; (· intro w'; go_simp; with_reducible rfl); rotate_left; (· simp only [Act.put, sA_, sB_, sC_, i64_w, i32_w]; rfl); refine take_ (i := 1) (N := some 19) (v := ?_) (a' := ?_) #[I,I,I,O,I,O,O,O,O,O,O,O,O] rfl rfl (by kernel_rfl) (fun _ _ _ h => h) (Or.inl ⟨by rfl, ?_⟩) hHeld ?_ ?_
   rotate_left; (· rintro w' ⟨s0, s1, s2⟩; go_simp; with_reducible rfl); rotate_left; (· simp only [Act.put, sA_, sB_, sC_, i64_w, i32_w]; rfl); refine take_ (i := 3) (N := some 21) (v := ?_) (a' := ?_) #[I,I,I,I,I,O,O,O,O,O,O,O,O] rfl rfl (by kernel_rfl) (fun _ _ _ h => h) (Or.inl ⟨by rfl, ?_⟩) hHeld ?_ ?_; rotate_left; (· rintro w' ⟨s0, s1, s2⟩; go_simp; with_reducible rfl); rotate_left; (· simp only [Act.put, sA_, sB_, sC_, i64_w, i32_w]; rfl); refine take_ (i := 5) (N := some 23) (v := ?_) (a' := ?_) #[I,I,I,I,I,I,O,O,O,O,O,O,O] rfl rfl (by kernel_rfl) (fun _ _ _ h => h) (Or.inl ⟨by rfl, ?_⟩) hHeld ?_ ?_; rotate_left; (· rintro w' ⟨s0, s1, s2⟩; go_simp; with_reducible rfl); rotate_left; (· simp only [Act.put, sA_, sB_, sC_, i64_w, i32_w]; rfl); refine pure_ (i := 7) (N := some 25) (v := ?_) (a' := ?_) #[I,I,I,I,I,I,O,I,O,O,O,O,O] rfl rfl (by kernel_rfl) (fun _ _ _ h => h) (Or.inl ⟨by rfl, ?_⟩) ?_ ?_; rotate_left; (· intro w'; go_simp; with_reducible rfl); rotate_left; (· simp only [Act.put, sA_, sB_, sC_, i64_w, i32_w]; rfl); refine one_ (i := 6) (N := some 24) #[I,I,I,I,I,I,I,I,O,O,O,O,O] rfl rfl (by kernel_rfl) (by decide) (fun K hK => ?_); refine goes_ Try.func43 (by kernel_rfl) rfl #[.slice A5 ch.f5.length c5] (by rfl) rfl rfl (by simp only [List.map_toArray, List.map_cons, List.map_nil]; rfl) ?_
   with_reducible refine (slices_Clone_int_int.calls A5 c5 ch.f5 ch.f5 w4 (Kd.C_below HI5.out HS4.out.bel) hl5 HCLN.out).mono ?_
   rintro e w5 ⟨vc, rfl, hR, hB2⟩; refine ⟨_, rfl, ?_⟩; obtain ⟨Av, cv, rfl⟩ := Kd.R_slice hR; have HS5 := Aside0.mk (HS4.out.below hB2); have HR5 := Aside0.mk (Kd.R_lower hR HS4.out.bel.size); have HK5 := Aside0.mk (HK4.out.trans (KeepBody.grown (grown_of_below hB2 none) (fun r e => by cases e))); have hc0 := cell_of_row _ _ 0 _ 61 (0, 0) HS5.out.var; have hc1 := cell_of_row _ _ 1 _ 61 (0, 0) HS5.out.var; have hc2 := cell_of_row _ _ 2 _ 61 (0, 0) HS5.out.var; have hc3 := cell_of_row _ _ 3 _ 61 (0, 0) HS5.out.var; have hc4 := cell_of_row _ _ 4 _ 61 (0, 0) HS5.out.var; have hc5 := cell_of_row _ _ 5 _ 61 (0, 0) HS5.out.var
   have hf3 : w5.frozen? ⟨b5, 3, none⟩ = false := by simp [World.frozen?, HS5.out.var]
   have hf4 : w5.frozen? ⟨b5, 4, none⟩ = false := by simp [World.frozen?, HS5.out.var]
   have hf5 : w5.frozen? ⟨b5, 5, none⟩ = false := by simp [World.frozen?, HS5.out.var]
   clear hR hB2; refine hK.out _ _ ⟨hc3, hc4, hc5⟩ (fun hHeld => ?_); clear hK K; refine norm_ (a' := ?_) ?_ ?_; rotate_left
   ·show Act.put _ (some 24) _ = _
    simp only [Act.put, sA_, sB_, sC_, i64_w, i32_w]; rfl
   refine last_ (i := 8) (N := none) #[I,I,I,I,I,I,I,I,I,O,O,O,O] rfl rfl (by kernel_rfl) (by decide) (fun K hK => ?_); refine skip_ (w1 := ?_) (by rfl) rfl ?_ ?_; rotate_left; (· go_simp; rfl); refine hK.out _ _ ?_; clear hK K; refine pure_ (i := 9) (N := some 26) (v := ?_) (a' := ?_) #[I,I,I,I,I,I,I,I,I,I,O,O,O] rfl rfl (by kernel_rfl) (fun _ _ _ h => h) (Or.inl ⟨by rfl, ?_⟩) ?_ ?_; rotate_left; (· intro w'; go_simp; with_reducible rfl); rotate_left; (· simp only [Act.put, sA_, sB_, sC_, i64_w, i32_w]; rfl); refine last_ (i := 10) (N := none) #[I,I,I,I,I,I,I,I,I,I,I,O,O] rfl rfl (by kernel_rfl) (by decide) (fun K hK => ?_); refine skip_ (w1 := ?_) (by rfl) rfl ?_ ?_; rotate_left; (· go_simp; rfl); refine hK.out _ _ ?_; clear hK K; refine pure_ (i := 11) (N := some 27) (v := ?_) (a' := ?_) #[I,I,I,I,I,I,I,I,I,I,I,I,O] rfl rfl (by kernel_rfl) (fun _ _ _ h => h) (Or.inl ⟨by rfl, ?_⟩) ?_ ?_; rotate_left; (· intro w'; go_simp; with_reducible rfl); rotate_left; (· simp only [Act.put, sA_, sB_, sC_, i64_w, i32_w]; rfl); refine last_ (i := 12) (N := none) #[I,I,I,I,I,I,I,I,I,I,I,I,I] rfl rfl (by kernel_rfl) (by decide) (fun K hK => ?_); refine skip_ (w1 := ?_) (by rfl) rfl ?_ ?_; rotate_left; (· go_simp; rfl); refine hK.out _ _ ?_; clear hK K; refine done_ (by kernel_rfl) ?_; have HS6 := Aside0.mk (((HS5.out.set 3 (.int .i64 ch.f4)).set 4 (.int .i64 ch.f3)).set 5 (.slice Av ch.f5.length cv)); have HK6 := Aside0.mk (((HK5.out.trans (HS5.out.keep 3 (.int .i64 ch.f4))).trans ((HS5.out.set 3 (.int .i64 ch.f4)).keep 4 (.int .i64 ch.f3))).trans (((HS5.out.set 3 (.int .i64 ch.f4)).set 4 (.int .i64 ch.f3)).keep 5 (.slice Av ch.f5.length cv))); have HR6 := Aside0.mk (Kd.R_set (Kd.R_set (Kd.R_set HR5.out HS5.out.var (by decide) 3 (.int .i64 ch.f4)) (HS5.out.set 3 (.int .i64 ch.f4)).var (by decide) 4 (.int .i64 ch.f3)) ((HS5.out.set 3 (.int .i64 ch.f4)).set 4 (.int .i64 ch.f3)).var (by decide) 5 (.slice Av ch.f5.length cv)); have HT := Aside0.mk (show turnC ch = ⟨ch.f0, ch.f1, (-1), ch.f4, ch.f3, ch.f5⟩ by unfold turnC turnF; simp [f1, f2]); rw [HT.out] at HSN; obtain ⟨W6, hW6⟩ : ∃ W6, W6 = ((w5.setCell ⟨b5, 3, none⟩ (.int .i64 ch.f4)).setCell ⟨b5, 4, none⟩ (.int .i64 ch.f3)).setCell ⟨b5, 5, none⟩ (.slice Av ch.f5.length cv) := ⟨_, rfl⟩; rw [← hW6] at HS6 HK6 HR6 ⊢; clear hW6 HS5 HK5 HR5 HT hc0 hc1 hc2 hc3 hc4 hc5 hf3 hf4 hf5; have HMP := Aside0.mk (M_ne (k61_mkM W6 w.heap.size (fun _ => True) (⟨ch.f0, ch.f1, (-1), ch.f4, ch.f3, ch.f5⟩ : S61) HR6.out) HS6.out.row); have HEND := Aside0.mk (turn_end (t := ⟨ch.f0, ch.f1, (-1), ch.f4, ch.f3, ch.f5⟩) [.int .i64 ch.f0, .int .i64 ch.f1, .int .i64 (-1), .int .i64 ch.f4, .int .i64 ch.f3, .slice Av ch.f5.length cv] HS6.out HK6.out); obtain ⟨A2, c2, ev⟩ := Kd.R_slice HS6.out.row
   obtain ⟨nv, hnv⟩ : ∃ nv, nv = ys.length := ⟨_, rfl⟩; rw [← hnv] at ev; subst ev; clear hnv; have hc0 := cell_of_row _ _ 0 _ 61 (0, 0) HS6.out.var; have hc1 := cell_of_row _ _ 1 _ 61 (0, 0) HS6.out.var; have hc2 := cell_of_row _ _ 2 _ 61 (0, 0) HS6.out.var; have hc3 := cell_of_row _ _ 3 _ 61 (0, 0) HS6.out.var; have hc4 := cell_of_row _ _ 4 _ 61 (0, 0) HS6.out.var; have hc5 := cell_of_row _ _ 5 _ 61 (0, 0) HS6.out.var; have hcb := cell_of_row _ _ 0 _ 30 (0, 0) HS6.out.box; have hu61 := Try.underlying61
   gi_wp2_with ((gi_at_builtin; refine R_append_in k61 (W := W6) w.heap.size rfl (.tmp 28) (.tmp 30) 30 61 (.agg #[(.int .i64 0), (.int .i64 0), (.int .i64 0), (.int .i64 0), (.int .i64 0), (.slice none 0 0)]) 64 rfl Try.underlying30 info61 rfl (by decide) (by omega) (.slice A2 nv c2) ys (⟨ch.f0, ch.f1, (-1), ch.f4, ch.f3, ch.f5⟩ : S61) [.int .i64 ch.f0, .int .i64 ch.f1, .int .i64 (-1), .int .i64 ch.f4, .int .i64 ch.f3, .slice Av ch.f5.length cv] (fun _ => True) (fun k_ => True ∧ some k_ ≠ (.slice A2 nv c2 : Value).ownBlock) rfl rfl HMP.out (fun _ hk => hk) (fun _ _ => trivial) HS6.out.row HS6.out.bel.size HLX.out ?_; intro v1 w1 hr1 hg1 hv1; obtain ⟨A1, c1', e1⟩ := hv1; obtain ⟨n1, hn1⟩ : ∃ n1, n1 = ys.length + 1 := ⟨_, rfl⟩; rw [← hn1] at e1; subst e1; clear hn1; have HE := HEND.out _ w1 hr1 hg1; obtain ⟨hbx1, hE2⟩ := HE; have HE2 := Aside0.mk hE2; have hcb1 := cell_of_row _ _ 0 _ 30 (0, 0) hbx1; have hfb1 : w1.frozen? ⟨w.heap.size, 0, none⟩ = false := (by simp [World.frozen?, hbx1]); clear hbx1 hE2 hr1 hg1))
   obtain ⟨hk9, v9, q1, q2, q3, q4⟩ := HE2.out; exact ⟨hk9, v9, q1, by rw [HSN.out]; exact q2, q3, q4⟩
  have g1 : (ch.f2 == -1) = false := beq_eq_false_iff_ne.2 f1; have g2 : (ch.f2 == -2) = false := beq_eq_false_iff_ne.2 f2
  gi_wp2
  obtain ⟨WX, hWX⟩ : ∃ WX, WX = W := ⟨_, rfl⟩; have HS1 := Aside0.mk (show TurnS w A c xs b5 v2 ys #[.int .i64 ch.f0, .int .i64 ch.f1, .int .i64 ch.f2, .int .i64 ch.f3, .int .i64 ch.f4, .slice A5 ch.f5.length c5] WX from by rw [hWX]; exact HS0.out); have HK1 := Aside0.mk (show KeepBody w.heap.size [30, 61] W WX from by rw [hWX]; exact KeepBody.refl _ _ _); rw [show Code.wpIn (Fence.wide.inRound l) 3 Try.prog = Code.wpIn (Fence.wide.inRound l) 3 Try.prog from rfl]; clear hc0 hc1 hc2 hc3 hc4 hc5 hf2; rw [← hWX]; have HS4 : Aside0 (TurnS w A c xs b5 v2 ys #[.int .i64 ch.f0, .int .i64 ch.f1, .int .i64 ch.f2, .int .i64 ch.f3, .int .i64 ch.f4, .slice A5 ch.f5.length c5] WX.drew) := ⟨HS1.out.below (below_drew (Below.refl _ _))⟩; have HK4 : Aside0 (KeepBody w.heap.size [30, 61] W WX.drew) := ⟨HK1.out.trans (KeepBody.grown (grown_of_below (below_drew (Below.refl _ _)) none) (fun r e => by cases e))⟩; have hc3 : WX.drew.cell? ⟨b5, 3, none⟩ = some (.int .i64 ch.f3) := cell_of_row _ _ 3 _ 61 (0, 0) HS4.out.var; have hc4 : WX.drew.cell? ⟨b5, 4, none⟩ = some (.int .i64 ch.f4) := cell_of_row _ _ 4 _ 61 (0, 0) HS4.out.var; have hc5 : WX.drew.cell? ⟨b5, 5, none⟩ = some (.slice A5 ch.f5.length c5) := cell_of_row _ _ 5 _ 61 (0, 0) HS4.out.var; clear HS1 HK1; refine Iter.startIn_ (k := 13) (S := fun w' => w'.cell? ⟨b5, 3, none⟩ = some (.int .i64 ch.f3) ∧ w'.cell? ⟨b5, 4, none⟩ = some (.int .i64 ch.f4) ∧ w'.cell? ⟨b5, 5, none⟩ = some (.slice A5 ch.f5.length c5)) (ds := [8, 10, 12]) #[O,O,O,O,O,O,O,O,O,O,O,O,O] (by kernel_rfl) (fun h => by obtain ⟨_, _, h⟩ := h; exact h) (by kernel_rfl) rfl rfl ⟨hc3, hc4, hc5⟩ (fun hHeld => ?_); generalize WX.drew = w4 at HS4 HK4 hHeld hc3 hc4 hc5 ⊢; refine pure_ (i := 0) (N := some 18) (v := ?_) (a' := ?_) #[I,O,O,O,O,O,O,O,O,O,O,O,O] rfl rfl (by kernel_rfl) (fun _ _ _ h => h) (Or.inl ⟨by rfl, ?_⟩) ?_ ?_; rotate_left; (· intro w'; go_simp; with_reducible rfl); rotate_left; (· simp only [Act.put, sA_, sB_, sC_, i64_w, i32_w]; rfl); refine pure_ (i := 2) (N := some 20) (v := ?_) (a' := ?_) #[I,O,I,O,O,O,O,O,O,O,O,O,O] rfl rfl (by kernel_rfl) (fun _ _ _ h => h) (Or.inl ⟨by rfl, ?_⟩) ?_ ?_; rotate_left; (· intro w'; go_simp; with_reducible rfl); rotate_left; (· simp only [Act.put, sA_, sB_, sC_, i64_w, i32_w]; rfl); refine pure_ (i := 4) (N := some 22) (v := ?_) (a' := ?_) #[I,O,I,O,I,O,O,O,O,O,O,O,O] rfl rfl (by kernel_rfl) (fun _ _ _ h => h) (Or.inl ⟨by rfl, ?_⟩) ?_ ?_; rotate_left; (· intro w'; go_simp; with_reducible rfl); rotate_left; (· simp only [Act.put, sA_, sB_, sC_, i64_w, i32_w]; rfl); refine take_ (i := 1) (N := some 19) (v := ?_) (a' := ?_) #[I,I,I,O,I,O,O,O,O,O,O,O,O] rfl rfl (by kernel_rfl) (fun _ _ _ h => h) (Or.inl ⟨by rfl, ?_⟩) hHeld ?_ ?_
  rotate_left; (· rintro w' ⟨s0, s1, s2⟩; go_simp; with_reducible rfl); rotate_left; (· simp only [Act.put, sA_, sB_, sC_, i64_w, i32_w]; rfl); refine take_ (i := 3) (N := some 21) (v := ?_) (a' := ?_) #[I,I,I,I,I,O,O,O,O,O,O,O,O] rfl rfl (by kernel_rfl) (fun _ _ _ h => h) (Or.inl ⟨by rfl, ?_⟩) hHeld ?_ ?_; rotate_left; (· rintro w' ⟨s0, s1, s2⟩; go_simp; with_reducible rfl); rotate_left; (· simp only [Act.put, sA_, sB_, sC_, i64_w, i32_w]; rfl); refine take_ (i := 5) (N := some 23) (v := ?_) (a' := ?_) #[I,I,I,I,I,I,O,O,O,O,O,O,O] rfl rfl (by kernel_rfl) (fun _ _ _ h => h) (Or.inl ⟨by rfl, ?_⟩) hHeld ?_ ?_; rotate_left; (· rintro w' ⟨s0, s1, s2⟩; go_simp; with_reducible rfl); rotate_left; (· simp only [Act.put, sA_, sB_, sC_, i64_w, i32_w]; rfl); refine pure_ (i := 7) (N := some 25) (v := ?_) (a' := ?_) #[I,I,I,I,I,I,O,I,O,O,O,O,O] rfl rfl (by kernel_rfl) (fun _ _ _ h => h) (Or.inl ⟨by rfl, ?_⟩) ?_ ?_; rotate_left; (· intro w'; go_simp; with_reducible rfl); rotate_left; (· simp only [Act.put, sA_, sB_, sC_, i64_w, i32_w]; rfl); refine one_ (i := 6) (N := some 24) #[I,I,I,I,I,I,I,I,O,O,O,O,O] rfl rfl (by kernel_rfl) (by decide) (fun K hK => ?_); refine goes_ Try.func43 (by kernel_rfl) rfl #[.slice A5 ch.f5.length c5] (by rfl) rfl rfl (by simp only [List.map_toArray, List.map_cons, List.map_nil]; rfl) ?_
  with_reducible refine (slices_Clone_int_int.calls A5 c5 ch.f5 ch.f5 w4 (Kd.C_below HI5.out HS4.out.bel) hl5 HCLN.out).mono ?_
  rintro e w5 ⟨vc, rfl, hR, hB2⟩; refine ⟨_, rfl, ?_⟩; obtain ⟨Av, cv, rfl⟩ := Kd.R_slice hR; have HS5 := Aside0.mk (HS4.out.below hB2); have HR5 := Aside0.mk (Kd.R_lower hR HS4.out.bel.size); have HK5 := Aside0.mk (HK4.out.trans (KeepBody.grown (grown_of_below hB2 none) (fun r e => by cases e))); have hc0 := cell_of_row _ _ 0 _ 61 (0, 0) HS5.out.var; have hc1 := cell_of_row _ _ 1 _ 61 (0, 0) HS5.out.var; have hc2 := cell_of_row _ _ 2 _ 61 (0, 0) HS5.out.var; have hc3 := cell_of_row _ _ 3 _ 61 (0, 0) HS5.out.var; have hc4 := cell_of_row _ _ 4 _ 61 (0, 0) HS5.out.var; have hc5 := cell_of_row _ _ 5 _ 61 (0, 0) HS5.out.var
  have hf3 : w5.frozen? ⟨b5, 3, none⟩ = false := by simp [World.frozen?, HS5.out.var]
  have hf4 : w5.frozen? ⟨b5, 4, none⟩ = false := by simp [World.frozen?, HS5.out.var]
  have hf5 : w5.frozen? ⟨b5, 5, none⟩ = false := by simp [World.frozen?, HS5.out.var]
  clear hR hB2; refine hK.out _ _ ⟨hc3, hc4, hc5⟩ (fun hHeld => ?_); clear hK K; refine norm_ (a' := ?_) ?_ ?_; rotate_left
  ·show Act.put _ (some 24) _ = _
   simp only [Act.put, sA_, sB_, sC_, i64_w, i32_w]; rfl
  refine last_ (i := 8) (N := none) #[I,I,I,I,I,I,I,I,I,O,O,O,O] rfl rfl (by kernel_rfl) (by decide) (fun K hK => ?_); refine skip_ (w1 := ?_) (by rfl) rfl ?_ ?_; rotate_left; (· go_simp; rfl); refine hK.out _ _ ?_; clear hK K; refine pure_ (i := 9) (N := some 26) (v := ?_) (a' := ?_) #[I,I,I,I,I,I,I,I,I,I,O,O,O] rfl rfl (by kernel_rfl) (fun _ _ _ h => h) (Or.inl ⟨by rfl, ?_⟩) ?_ ?_; rotate_left; (· intro w'; go_simp; with_reducible rfl); rotate_left; (· simp only [Act.put, sA_, sB_, sC_, i64_w, i32_w]; rfl); refine last_ (i := 10) (N := none) #[I,I,I,I,I,I,I,I,I,I,I,O,O] rfl rfl (by kernel_rfl) (by decide) (fun K hK => ?_); refine skip_ (w1 := ?_) (by rfl) rfl ?_ ?_; rotate_left; (· go_simp; rfl); refine hK.out _ _ ?_; clear hK K; refine pure_ (i := 11) (N := some 27) (v := ?_) (a' := ?_) #[I,I,I,I,I,I,I,I,I,I,I,I,O] rfl rfl (by kernel_rfl) (fun _ _ _ h => h) (Or.inl ⟨by rfl, ?_⟩) ?_ ?_; rotate_left; (· intro w'; go_simp; with_reducible rfl); rotate_left; (· simp only [Act.put, sA_, sB_, sC_, i64_w, i32_w]; rfl); refine last_ (i := 12) (N := none) #[I,I,I,I,I,I,I,I,I,I,I,I,I] rfl rfl (by kernel_rfl) (by decide) (fun K hK => ?_); refine skip_ (w1 := ?_) (by rfl) rfl ?_ ?_; rotate_left; (· go_simp; rfl); refine hK.out _ _ ?_; clear hK K; refine done_ (by kernel_rfl) ?_; have HS6 := Aside0.mk (((HS5.out.set 3 (.int .i64 ch.f4)).set 4 (.int .i64 ch.f3)).set 5 (.slice Av ch.f5.length cv)); have HK6 := Aside0.mk (((HK5.out.trans (HS5.out.keep 3 (.int .i64 ch.f4))).trans ((HS5.out.set 3 (.int .i64 ch.f4)).keep 4 (.int .i64 ch.f3))).trans (((HS5.out.set 3 (.int .i64 ch.f4)).set 4 (.int .i64 ch.f3)).keep 5 (.slice Av ch.f5.length cv))); have HR6 := Aside0.mk (Kd.R_set (Kd.R_set (Kd.R_set HR5.out HS5.out.var (by decide) 3 (.int .i64 ch.f4)) (HS5.out.set 3 (.int .i64 ch.f4)).var (by decide) 4 (.int .i64 ch.f3)) ((HS5.out.set 3 (.int .i64 ch.f4)).set 4 (.int .i64 ch.f3)).var (by decide) 5 (.slice Av ch.f5.length cv)); have HT := Aside0.mk (show turnC ch = ⟨ch.f0, ch.f1, ch.f2, ch.f4, ch.f3, ch.f5⟩ by unfold turnC turnF; simp [f1, f2]); rw [HT.out] at HSN; obtain ⟨W6, hW6⟩ : ∃ W6, W6 = ((w5.setCell ⟨b5, 3, none⟩ (.int .i64 ch.f4)).setCell ⟨b5, 4, none⟩ (.int .i64 ch.f3)).setCell ⟨b5, 5, none⟩ (.slice Av ch.f5.length cv) := ⟨_, rfl⟩; rw [← hW6] at HS6 HK6 HR6 ⊢; clear hW6 HS5 HK5 HR5 HT hc0 hc1 hc2 hc3 hc4 hc5 hf3 hf4 hf5; have HMP := Aside0.mk (M_ne (k61_mkM W6 w.heap.size (fun _ => True) (⟨ch.f0, ch.f1, ch.f2, ch.f4, ch.f3, ch.f5⟩ : S61) HR6.out) HS6.out.row); have HEND := Aside0.mk (turn_end (t := ⟨ch.f0, ch.f1, ch.f2, ch.f4, ch.f3, ch.f5⟩) [.int .i64 ch.f0, .int .i64 ch.f1, .int .i64 ch.f2, .int .i64 ch.f4, .int .i64 ch.f3, .slice Av ch.f5.length cv] HS6.out HK6.out); obtain ⟨A2, c2, ev⟩ := Kd.R_slice HS6.out.row
  obtain ⟨nv, hnv⟩ : ∃ nv, nv = ys.length := ⟨_, rfl⟩; rw [← hnv] at ev; subst ev; clear hnv; have hc0 := cell_of_row _ _ 0 _ 61 (0, 0) HS6.out.var; have hc1 := cell_of_row _ _ 1 _ 61 (0, 0) HS6.out.var; have hc2 := cell_of_row _ _ 2 _ 61 (0, 0) HS6.out.var; have hc3 := cell_of_row _ _ 3 _ 61 (0, 0) HS6.out.var; have hc4 := cell_of_row _ _ 4 _ 61 (0, 0) HS6.out.var; have hc5 := cell_of_row _ _ 5 _ 61 (0, 0) HS6.out.var; have hcb := cell_of_row _ _ 0 _ 30 (0, 0) HS6.out.box; have hu61 := Try.underlying61
  gi_wp2_with ((gi_at_builtin; refine R_append_in k61 (W := W6) w.heap.size rfl (.tmp 28) (.tmp 30) 30 61 (.agg #[(.int .i64 0), (.int .i64 0), (.int .i64 0), (.int .i64 0), (.int .i64 0), (.slice none 0 0)]) 64 rfl Try.underlying30 info61 rfl (by decide) (by omega) (.slice A2 nv c2) ys (⟨ch.f0, ch.f1, ch.f2, ch.f4, ch.f3, ch.f5⟩ : S61) [.int .i64 ch.f0, .int .i64 ch.f1, .int .i64 ch.f2, .int .i64 ch.f4, .int .i64 ch.f3, .slice Av ch.f5.length cv] (fun _ => True) (fun k_ => True ∧ some k_ ≠ (.slice A2 nv c2 : Value).ownBlock) rfl rfl HMP.out (fun _ hk => hk) (fun _ _ => trivial) HS6.out.row HS6.out.bel.size HLX.out ?_; intro v1 w1 hr1 hg1 hv1; obtain ⟨A1, c1', e1⟩ := hv1; obtain ⟨n1, hn1⟩ : ∃ n1, n1 = ys.length + 1 := ⟨_, rfl⟩; rw [← hn1] at e1; subst e1; clear hn1; have HE := HEND.out _ w1 hr1 hg1; obtain ⟨hbx1, hE2⟩ := HE; have HE2 := Aside0.mk hE2; have hcb1 := cell_of_row _ _ 0 _ 30 (0, 0) hbx1; have hfb1 : w1.frozen? ⟨w.heap.size, 0, none⟩ = false := (by simp [World.frozen?, hbx1]); clear hbx1 hE2 hr1 hg1))
  obtain ⟨hk9, v9, q1, q2, q3, q4⟩ := HE2.out; exact ⟨hk9, v9, q1, by rw [HSN.out]; exact q2, q3, q4⟩
 case done =>
  rintro D ys W hD hys ⟨v', hb, hr, hB, hl⟩ hDD
  have e : ys.map (fun x => turnC x.2.1) = turnR xs := by
   unfold turnR; rw [← hys, List.map_map]; rfl
  rw [e] at hr; have hcb := cell_of_row _ _ 0 _ 30 (0, 0) hb; have HM := Aside0.mk (show Marked w.heap.size [D] W from (Marked.nil _ _).cons (by omega) hDD (by simp)); have HRR := Aside0.mk hr; have HBB := Aside0.mk hB; clear hb hr hB hl hDD hys e; go_wp2; exact turn_leave w _ _ [D] _ v' rfl HM.out HRR.out HBB.out
def diff_Turn.f (l0 : List S61) : Option (List S61) := if l0.length ≤ 1000000 ∧ ∀ x ∈ l0, x.f5.length ≤ 1000000 then some (turnR l0) else none
theorem diff_Turn.calls (A0 : Option Addr) (c0 : Nat) (l0 : List S61) (r : List S61) (w : World) (hr0 : Kd.C k61 w A0 l0.length l0) (hc0 : l0.length ≤ c0) (h : diff_Turn.f l0 = some r) :
  Calls Try.prog 20 #[.slice A0 l0.length c0] w fun e w' => ∃ v0_ : Value, e = .returned (v0_) ∧ Kd.N k61 61 w' w.heap.size (fun k_ => w.heap.size ≤ k_) v0_ r ∧ Below w.heap.size w w' := by
 unfold diff_Turn.f at h
 split at h
 ·next hs =>
  obtain rfl := Option.some.inj h; refine (turn_in A0 c0 l0 w hr0 hc0 hs.1 hs.2).mono ?_; rintro e w' ⟨v, rfl, hv, hb⟩; exact ⟨v, rfl, Kd.N_mono (Kd.R_N (Kd.R_bound hv)) (fun k hk => hk.2.1), hb⟩
 ·cases h
end Go.Proofs.Ytcgpemefmakjiaa.PX
