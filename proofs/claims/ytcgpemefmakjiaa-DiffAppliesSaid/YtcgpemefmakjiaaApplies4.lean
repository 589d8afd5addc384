/- Texts of this claim, merged: part 4. -/
import Derived.Test.YtcgpemefmakjiaaApplies2
import Derived.Test.YtcgpemefmakjiaaApplies3
import Derived.StillTailTactics
import Derived.Deep.QuietTactic
import Derived.BigQuiet
import Derived.RangeFuncNested
import Derived.RangeFuncBound
import Derived.RangeFuncCalls
import Derived.RangeFuncLeaves
import Derived.Shelf.Abstract
import Derived.Shelf.RegionOpen
import Derived.WalkKit
import Derived.OwnWalkIn
import Derived.TacticsInMore
import Derived.LoopNIn
import Derived.LoopIn
import Derived.Lib.Hide
import Derived.LoopTactic
set_option linter.unusedVariables false
set_option linter.unusedSimpArgs false
namespace Go.Proofs.Ytcgpemefmakjiaa.PX
open Go.RowKit Go.Proofs.YtcgpemefmakjiaaW.PrintWords Go.Proofs.YtcgpemefmakjiaaW.PrintLast Go.Proofs.YtcgpemefmakjiaaW.PrintMore
attribute [local go_sem] max2_int min2_int max_two min_two max_three min_three max_four min_four   -- for this text's walks alone
def diff_Encode.l0 : Nat → List Int → List (S61) → Int → Int → Option (List Int)
 | 0, _, _, _, _ => none
 | k + 1, x3, x9, x10, x11 => if x11 < x10 then (if 0 ≤ x11 then (if x11 < (x9.length : Int) then ((wire_Ints.f k (([(rd_T61 x9 x11).f0, (rd_T61 x9 x11).f1, (rd_T61 x9 x11).f2, (rd_T61 x9 x11).f3, (rd_T61 x9 x11).f4] : List Int))).bind fun t472 => ((wire_Ints.f k ((rd_T61 x9 x11).f5)).bind fun t475 => ((slices_Concat_byte.f (([x3, t472, t475] : List (List Int)))).bind fun t481 => (diff_Encode.l0 k t481 x9 x10 (wrap64 (x11 + 1)))))) else (none)) else (none)) else (some x3)
def diff_Encode.f (k : Nat) (l0 : List (S61)) : Option (List Int) := (wire_Int.f (l0.length : Int)).bind fun t464 => (diff_Encode.l0 k t464 l0 (l0.length : Int) 0)
def diff_Encode.T5 : Bool × List (List Nat × List Nat) := (true, [([], []), ([], []), ([1], [1]), ([], []), ([3], [3]), ([], []), ([5], [5]), ([], []), ([7], [7]), ([], []), ([9], [9]), ([2, 4, 6, 8, 10], [2, 4, 6, 8, 10]), ([11], [11]), ([], []), ([13], [13]), ([14, 12], [14]), ([0, 12, 15], [0, 12, 15]), ([16, 15], [16]), ([17, 17, 0, 1, 2, 3, 4, 5, 6, 7, 8, 9, 10, 11, 12, 13, 14, 15, 16, 17], [0, 17])])
def diff_Encode.B5 : List Nat := [0, 0, 2, 0, 8, 0, 32, 0, 128, 0, 512, 2046, 4094, 0, 8192, 32766, 65535, 131071, 262143]
theorem diff_Encode.tab5 : rtab .any (opsOf Try.f27 5) = diff_Encode.T5 := by kernel_rfl
theorem diff_Encode.bits5 : waitsOk diff_Encode.T5.2 diff_Encode.B5 = true := by kernel_rfl
set_option maxHeartbeats 8000000 in
set_option maxRecDepth 100000 in
theorem diff_Encode.calls (k : Nat) (A0 : Option Addr) (c0 : Nat) (l0 : List (S61)) (r : List Int) (w : World) (hr0 : Kd.C k61 w A0 l0.length l0) (hc0 : l0.length ≤ c0) (h : diff_Encode.f k l0 = some r) :
  Calls Try.prog 27 #[.slice A0 l0.length c0] w fun e w' => ∃ v0_ : Value, e = .returned (v0_) ∧ Kd.R (Kd.int .u8) 5 w' w.heap.size (fun _ => True) v0_ r ∧ Below w.heap.size w w' := by
 have hu61 := Try.underlying61; have HR0 := A_ hr0; have HC0 := A_ hc0; clear hr0 hc0; have HB := A_ (Below.refl w.heap.size w); have H : ((wire_Int.f (l0.length : Int)).bind fun t464 => (diff_Encode.l0 k t464 l0 (l0.length : Int) 0)) = some r := h; clear h; replace H := Option.bind_eq_some_iff.mp H; obtain ⟨t464, A20, H⟩ := H
 (try dsimp only at H)
 have A2 := A_ A20; clear A20; have H' := A_ H; clear H
 go_enter Try.func27, Try.ntmps27
 go_wp2_with (first | ((with_reducible refine gate_callee (f := 47) rfl ?_); refine goesL_ (some 8) rfl rfl Try.func47 (by kernel_rfl) rfl #[.int .i64 (l0.length : Int)] rfl lm_ ?_; (with_reducible refine (wire_Int.calls (l0.length : Int) t464 _ A2.out).mono ?_); rintro e w3 ⟨v465, rfl, ho0, hb⟩; refine ⟨_, rfl, ?_⟩; have HO466 := A_ (Kd.R_lower ho0 (below_size (bx_ HB))); replace HB := A_ (below_step (bx_ HB) hb); (try clear hb); (try clear hb2); (try clear hk); (try clear hi); (try clear ho0)))
 go_loopg [3, 11] k (fun kq v3 v11 w' => ∃ (x3_1 : List Int) (x11_1 : Int), v11 = .int .i64 x11_1 ∧ Aside0 (diff_Encode.l0 kq x3_1 l0 (l0.length : Int) x11_1 = some r) ∧ Aside0 (kq ≤ k) ∧ Aside0 (Kd.R (Kd.int .u8) 5 w' w.heap.size (fun _ => True) v3 x3_1) ∧ Aside0 (Below w.heap.size w w'))
 case atStart => exact ⟨(t464), (0), rf_, H', ⟨Nat.le_refl _⟩, ⟨by (with_reducible repeat (first | apply Kd.R_alloc | apply Kd.R_drewN | apply Kd.R_drew)); exact HO466.out⟩, ⟨bx_ HB⟩⟩
 case round =>
  clear H'; obtain ⟨x3_1, x11_1, rfl, HA, HK1, HO_3, HB⟩ := hrel
  cases gk with
  | zero => exact absurd HA.out (by simp [diff_Encode.l0])
  | succ k1 =>
   have H := HA.out; clear HA; simp only [diff_Encode.l0] at H
   by_cases c4 : x11_1 < (l0.length : Int)
   ·rw [if_pos c4] at H
    have c4b0 := decide_eq_true c4; clear c4
    by_cases c5 : 0 ≤ x11_1
    ·rw [if_pos c5] at H
     have c5b0 := decide_eq_true c5; clear c5
     by_cases c6 : x11_1 < (l0.length : Int)
     ·rw [if_pos c6] at H
      have c6b0 := decide_eq_true c6; clear c6; obtain ⟨y469, hy469⟩ : ∃ y_ : List Int, y_ = (([(rd_T61 l0 x11_1).f0, (rd_T61 l0 x11_1).f1, (rd_T61 l0 x11_1).f2, (rd_T61 l0 x11_1).f3, (rd_T61 l0 x11_1).f4] : List Int)) := ⟨_, rfl⟩; replace H : ((wire_Ints.f k1 y469).bind fun t472 => ((wire_Ints.f k1 ((rd_T61 l0 x11_1).f5)).bind fun t475 => ((slices_Concat_byte.f (([x3_1, t472, t475] : List (List Int)))).bind fun t481 => (diff_Encode.l0 k1 t481 l0 (l0.length : Int) (wrap64 (x11_1 + 1)))))) = some r := rh_ hy469 H; have Ny469 := A_ hy469; clear hy469; replace H := Option.bind_eq_some_iff.mp H; obtain ⟨t472, A70, H⟩ := H
      (try dsimp only at H)
      have A7 := A_ A70; clear A70; replace H := Option.bind_eq_some_iff.mp H; obtain ⟨t475, A80, H⟩ := H
      (try dsimp only at H)
      have A8 := A_ A80; clear A80; obtain ⟨y478, hy478⟩ : ∃ y_ : List (List Int), y_ = (([x3_1, t472, t475] : List (List Int))) := ⟨_, rfl⟩; replace H : ((slices_Concat_byte.f y478).bind fun t481 => (diff_Encode.l0 k1 t481 l0 (l0.length : Int) (wrap64 (x11_1 + 1)))) = some r := rh_ hy478 H; have Ny478 := A_ hy478; clear hy478; replace H := Option.bind_eq_some_iff.mp H; obtain ⟨t481, A90, H⟩ := H
      (try dsimp only at H)
      have A9 := A_ A90; clear A90; have H' := A_ H; clear H; have p467 : 0 ≤ (x11_1 : Int) := od_; have q467 : x11_1 < (l0.length : Int) := od_; obtain ⟨ad467, A467_5, c467_5, e467, hx467_0, hx467_1, hx467_2, hx467_3, hx467_4, hx467_5, hl467_5, hi467_5⟩ := at_T61 HR0.out x11_1 p467 q467
      cases e467
      replace hx467_0 := hc_ HB hx467_0; replace hx467_1 := hc_ HB hx467_1; replace hx467_2 := hc_ HB hx467_2; replace hx467_3 := hc_ HB hx467_3; replace hx467_4 := hc_ HB hx467_4; replace hx467_5 := hc_ HB hx467_5; have HR467_5 := A_ hi467_5; have HC467_5 := A_ hl467_5; clear hi467_5 hl467_5; replace p467 := eq_true p467; replace q467 := eq_true q467
      try go_wp2_with (first | ((with_reducible refine gate_dst (N := 5) rfl ?_); refine box_event ?hg (N := 5) ?hd (cs := #[.int .i64 0, .int .i64 0, .int .i64 0, .int .i64 0, .int .i64 0, .slice none 0 0]) (t := 61) ?hr ?_; (case hd => rfl); (case hg => rfl); (case hr => first | (go_simp; done) | (go_simp; rfl)); intro gb468 hg w10 hbox hb; replace HO_3 := A_ (Kd.R_below (rx_ HO_3) hb); have BK468 := A_ (hbox); have GW468 := A_ ((by rw [hg]; exact (below_size (bx_ HB)) : w.heap.size ≤ gb468)); have GE468 := A_ ((by rw [hg]; exact (below_size (bx_ HB)) : w.heap.size ≤ gb468)); replace HB := A_ (below_step (bx_ HB) hb); clear hb hbox hg; obtain ⟨hcz11_0, hcz11_1, hcz11_2, hcz11_3, hcz11_4, hcz11_5⟩ := k6_ BK468; obtain ⟨hfz11_0, hfz11_1, hfz11_2, hfz11_3, hfz11_4, hfz11_5⟩ := f6_ BK468))
      have n0_ : Aside0 (Kd.R (Kd.int .u8) 5 ((((((w10.setCell ⟨gb468, 0, none⟩ (.int .i64 ((rd_T61 l0 x11_1).f0))).setCell ⟨gb468, 1, none⟩ (.int .i64 ((rd_T61 l0 x11_1).f1))).setCell ⟨gb468, 2, none⟩ (.int .i64 ((rd_T61 l0 x11_1).f2))).setCell ⟨gb468, 3, none⟩ (.int .i64 ((rd_T61 l0 x11_1).f3))).setCell ⟨gb468, 4, none⟩ (.int .i64 ((rd_T61 l0 x11_1).f4))).setCell ⟨gb468, 5, none⟩ (.slice A467_5 ((rd_T61 l0 x11_1).f5).length c467_5)) w.heap.size (fun _ => True) u3 x3_1) := ⟨by (with_reducible repeat (first | apply Kd.R_alloc | apply Kd.R_drewN | apply Kd.R_drew)); exact Kd.R_mono (Kd.R_far (p := ⟨gb468, 5, none⟩) (Kd.R_far (p := ⟨gb468, 4, none⟩) (Kd.R_far (p := ⟨gb468, 3, none⟩) (Kd.R_far (p := ⟨gb468, 2, none⟩) (Kd.R_far (p := ⟨gb468, 1, none⟩) (Kd.R_far (p := ⟨gb468, 0, none⟩) (Kd.R_types HO_3.out BK468.out (by decide)) (fun _ hk => hk.2) (.int .i64 ((rd_T61 l0 x11_1).f0))) (fun _ hk => hk.2) (.int .i64 ((rd_T61 l0 x11_1).f1))) (fun _ hk => hk.2) (.int .i64 ((rd_T61 l0 x11_1).f2))) (fun _ hk => hk.2) (.int .i64 ((rd_T61 l0 x11_1).f3))) (fun _ hk => hk.2) (.int .i64 ((rd_T61 l0 x11_1).f4))) (fun _ hk => hk.2) (.slice A467_5 ((rd_T61 l0 x11_1).f5).length c467_5)) (fun _ hk => trivial)⟩; have n1_ : Aside0 (((((((w10.setCell ⟨gb468, 0, none⟩ (.int .i64 ((rd_T61 l0 x11_1).f0))).setCell ⟨gb468, 1, none⟩ (.int .i64 ((rd_T61 l0 x11_1).f1))).setCell ⟨gb468, 2, none⟩ (.int .i64 ((rd_T61 l0 x11_1).f2))).setCell ⟨gb468, 3, none⟩ (.int .i64 ((rd_T61 l0 x11_1).f3))).setCell ⟨gb468, 4, none⟩ (.int .i64 ((rd_T61 l0 x11_1).f4))).setCell ⟨gb468, 5, none⟩ (.slice A467_5 ((rd_T61 l0 x11_1).f5).length c467_5)).heap[gb468]? = some (.cells #[.int .i64 ((rd_T61 l0 x11_1).f0), .int .i64 ((rd_T61 l0 x11_1).f1), .int .i64 ((rd_T61 l0 x11_1).f2), .int .i64 ((rd_T61 l0 x11_1).f3), .int .i64 ((rd_T61 l0 x11_1).f4), .slice A467_5 ((rd_T61 l0 x11_1).f5).length c467_5] 61 (0, 0))) := ⟨by (with_reducible repeat (first | refine blk_drewN ?_ _ | refine blk_drew ?_ | refine blk_alloc ?_ _)); refine blk_put (cs := #[.int .i64 ((rd_T61 l0 x11_1).f0), .int .i64 ((rd_T61 l0 x11_1).f1), .int .i64 ((rd_T61 l0 x11_1).f2), .int .i64 ((rd_T61 l0 x11_1).f3), .int .i64 ((rd_T61 l0 x11_1).f4), .slice none 0 0]) ?_ 5 _ rfl; (with_reducible repeat (first | refine blk_drewN ?_ _ | refine blk_drew ?_ | refine blk_alloc ?_ _)); refine blk_put (cs := #[.int .i64 ((rd_T61 l0 x11_1).f0), .int .i64 ((rd_T61 l0 x11_1).f1), .int .i64 ((rd_T61 l0 x11_1).f2), .int .i64 ((rd_T61 l0 x11_1).f3), .int .i64 0, .slice none 0 0]) ?_ 4 _ rfl; (with_reducible repeat (first | refine blk_drewN ?_ _ | refine blk_drew ?_ | refine blk_alloc ?_ _)); refine blk_put (cs := #[.int .i64 ((rd_T61 l0 x11_1).f0), .int .i64 ((rd_T61 l0 x11_1).f1), .int .i64 ((rd_T61 l0 x11_1).f2), .int .i64 0, .int .i64 0, .slice none 0 0]) ?_ 3 _ rfl; (with_reducible repeat (first | refine blk_drewN ?_ _ | refine blk_drew ?_ | refine blk_alloc ?_ _)); refine blk_put (cs := #[.int .i64 ((rd_T61 l0 x11_1).f0), .int .i64 ((rd_T61 l0 x11_1).f1), .int .i64 0, .int .i64 0, .int .i64 0, .slice none 0 0]) ?_ 2 _ rfl; (with_reducible repeat (first | refine blk_drewN ?_ _ | refine blk_drew ?_ | refine blk_alloc ?_ _)); refine blk_put (cs := #[.int .i64 ((rd_T61 l0 x11_1).f0), .int .i64 0, .int .i64 0, .int .i64 0, .int .i64 0, .slice none 0 0]) ?_ 1 _ rfl; (with_reducible repeat (first | refine blk_drewN ?_ _ | refine blk_drew ?_ | refine blk_alloc ?_ _)); refine blk_put (cs := #[.int .i64 0, .int .i64 0, .int .i64 0, .int .i64 0, .int .i64 0, .slice none 0 0]) ?_ 0 _ rfl; (with_reducible repeat (first | refine blk_drewN ?_ _ | refine blk_drew ?_ | refine blk_alloc ?_ _)); exact BK468.out⟩
      have n2_ : Aside0 (Below w.heap.size w ((((((w10.setCell ⟨gb468, 0, none⟩ (.int .i64 ((rd_T61 l0 x11_1).f0))).setCell ⟨gb468, 1, none⟩ (.int .i64 ((rd_T61 l0 x11_1).f1))).setCell ⟨gb468, 2, none⟩ (.int .i64 ((rd_T61 l0 x11_1).f2))).setCell ⟨gb468, 3, none⟩ (.int .i64 ((rd_T61 l0 x11_1).f3))).setCell ⟨gb468, 4, none⟩ (.int .i64 ((rd_T61 l0 x11_1).f4))).setCell ⟨gb468, 5, none⟩ (.slice A467_5 ((rd_T61 l0 x11_1).f5).length c467_5))) := ⟨by repeat (first | (with_reducible first | exact HB.out | apply below_alloc | apply pw_below_drewN | apply below_drew1 | refine below_set ?_ GE468.out) | exact HB.out)⟩
      (try clear HO_3)
      (try clear BK468)
      (try clear HB)
      generalize ((((((w10.setCell ⟨gb468, 0, none⟩ (.int .i64 ((rd_T61 l0 x11_1).f0))).setCell ⟨gb468, 1, none⟩ (.int .i64 ((rd_T61 l0 x11_1).f1))).setCell ⟨gb468, 2, none⟩ (.int .i64 ((rd_T61 l0 x11_1).f2))).setCell ⟨gb468, 3, none⟩ (.int .i64 ((rd_T61 l0 x11_1).f3))).setCell ⟨gb468, 4, none⟩ (.int .i64 ((rd_T61 l0 x11_1).f4))).setCell ⟨gb468, 5, none⟩ (.slice A467_5 ((rd_T61 l0 x11_1).f5).length c467_5)) = w12 at n0_ n1_ n2_ ⊢; have HO_3 := n0_; have BK468 := n1_; have HB := n2_; clear n0_ n1_ n2_; replace HO_3 := A_ (Kd.R_drew HO_3.out); replace BK468 := A_ (blk_drew BK468.out); replace HB := A_ (below_drew1 HB.out); refine start_ (n := 19) (S := fun w' => w'.cell? ⟨gb468, 0, none⟩ = some (.int .i64 ((rd_T61 l0 x11_1).f0)) ∧ w'.cell? ⟨gb468, 1, none⟩ = some (.int .i64 ((rd_T61 l0 x11_1).f1)) ∧ w'.cell? ⟨gb468, 2, none⟩ = some (.int .i64 ((rd_T61 l0 x11_1).f2)) ∧ w'.cell? ⟨gb468, 3, none⟩ = some (.int .i64 ((rd_T61 l0 x11_1).f3)) ∧ w'.cell? ⟨gb468, 4, none⟩ = some (.int .i64 ((rd_T61 l0 x11_1).f4)) ∧ w'.cell? ⟨gb468, 5, none⟩ = some (.slice A467_5 ((rd_T61 l0 x11_1).f5).length c467_5)) (ds := []) (B_ 19 0) (by kernel_rfl) rfl rfl ⟨(blk_cell BK468.out 0).trans rfl, (blk_cell BK468.out 1).trans rfl, (blk_cell BK468.out 2).trans rfl, (blk_cell BK468.out 3).trans rfl, (blk_cell BK468.out 4).trans rfl, (blk_cell BK468.out 5).trans rfl⟩ (fun hHeld => ?_); refine with_tabW diff_Encode.tab5 diff_Encode.bits5 (fun HT_ HW_ => ?_); generalize w12.drew = w13 at HO_3 BK468 HB hHeld ⊢; refine pT_ 0 15 (B_ 19 1) HT_ ?_; refine pT_ 1 16 (B_ 19 3) HT_ ?_; refine pT_ 3 18 (B_ 19 11) HT_ ?_; refine pT_ 5 20 (B_ 19 43) HT_ ?_; refine pT_ 7 22 (B_ 19 171) HT_ ?_; refine pT_ 9 24 (B_ 19 683) HT_ ?_; refine pT_ 13 28 (B_ 19 8875) HT_ ?_; refine tT_ 2 17 (B_ 19 8879) HT_ HW_ hHeld ?_; refine tT_ 4 19 (B_ 19 8895) HT_ HW_ hHeld ?_; refine tT_ 6 21 (B_ 19 8959) HT_ HW_ hHeld ?_; refine tT_ 8 23 (B_ 19 9215) HT_ HW_ hHeld ?_; refine tT_ 10 25 (B_ 19 10239) HT_ HW_ hHeld ?_; refine tT_ 14 29 (B_ 19 26623) HT_ HW_ hHeld ?_; refine one_ (i := 11) (N := some 26) (B_ 19 28671) rfl rfl (one_of HT_.out (by kernel_rfl)) (by decide) (fun K hK => ?_); refine Kd.R_lit_step (Kd.int .i64) _ 3 ?hg (N := 26) ?hd (xs := ([(rd_T61 l0 x11_1).f0, (rd_T61 l0 x11_1).f1, (rd_T61 l0 x11_1).f2, (rd_T61 l0 x11_1).f3, (rd_T61 l0 x11_1).f4] : List Int)) (inner := [.int .i64 ((rd_T61 l0 x11_1).f0), .int .i64 ((rd_T61 l0 x11_1).f1), .int .i64 ((rd_T61 l0 x11_1).f2), .int .i64 ((rd_T61 l0 x11_1).f3), .int .i64 ((rd_T61 l0 x11_1).f4)]) (ok := fun _ => True) (okp := fun _ => True) ?hr ?hp (fun _ hk => hk) trivial (Below.refl _ _) (Nat.le_refl _) (by simp) ?_; (case hd => rfl); (case hg => rfl); (case hr => first | (go_simp; done) | (go_simp; rfl)); (case hp => exact (Reps.one (show Kd.M (Kd.int .i64) _ _ _ ((rd_T61 l0 x11_1).f0) [.int .i64 ((rd_T61 l0 x11_1).f0)] from rfl) (Reps.one (show Kd.M (Kd.int .i64) _ _ _ ((rd_T61 l0 x11_1).f1) [.int .i64 ((rd_T61 l0 x11_1).f1)] from rfl) (Reps.one (show Kd.M (Kd.int .i64) _ _ _ ((rd_T61 l0 x11_1).f2) [.int .i64 ((rd_T61 l0 x11_1).f2)] from rfl) (Reps.one (show Kd.M (Kd.int .i64) _ _ _ ((rd_T61 l0 x11_1).f3) [.int .i64 ((rd_T61 l0 x11_1).f3)] from rfl) (Reps.one (show Kd.M (Kd.int .i64) _ _ _ ((rd_T61 l0 x11_1).f4) [.int .i64 ((rd_T61 l0 x11_1).f4)] from rfl) (Reps.none _ _)))))))
      intro v470 w14 ho15 hb hg_ hnew_; clear hg_ hnew_
      (first | rw [← Ny469.out] at ho15 | (simp only [Int.reduceToNat] at ho15; rw [← Ny469.out] at ho15))
      have n0_ := A_ (Kd.R_below (rx_ HO_3) hb); have n1_ := A_ (Kd.R_lower ho15 (below_size (by repeat (first | (with_reducible first | exact HB.out | apply below_alloc | apply pw_below_drewN | apply below_drew1 | refine below_set ?_ GE468.out) | exact HB.out)))); have n2_ := A_ (blk_below (g := gb468) (o := .cells #[.int .i64 ((rd_T61 l0 x11_1).f0), .int .i64 ((rd_T61 l0 x11_1).f1), .int .i64 ((rd_T61 l0 x11_1).f2), .int .i64 ((rd_T61 l0 x11_1).f3), .int .i64 ((rd_T61 l0 x11_1).f4), .slice A467_5 ((rd_T61 l0 x11_1).f5).length c467_5] 61 (0, 0)) (kx_ BK468) hb); have n3_ := A_ (below_step (by repeat (first | (with_reducible first | exact HB.out | apply below_alloc | apply pw_below_drewN | apply below_drew1 | refine below_set ?_ GE468.out) | exact HB.out)) hb); clear HO_3 BK468 HB; have HO_3 := n0_; have HO471 := n1_; have BK468 := n2_; have HB := n3_; clear n0_ n1_ n2_ n3_ hb ho15; obtain ⟨Ao16, co16, eo16⟩ := Kd.R_slice HO471.out
      (first | subst eo16 | (injection eo16 with f1_ f2_ f3_; have f4_ := f1_.symm; have f5_ := f3_.symm; clear f1_ f2_ f3_; subst f4_; subst f5_))
      refine hK.out _ _ ⟨(blk_cell BK468.out 0).trans rfl, (blk_cell BK468.out 1).trans rfl, (blk_cell BK468.out 2).trans rfl, (blk_cell BK468.out 3).trans rfl, (blk_cell BK468.out 4).trans rfl, (blk_cell BK468.out 5).trans rfl⟩ (fun hHeld => ?_); clear hK K; refine norm_ (a' := ?_) ?_ ?_; rotate_left
      ·show Act.put _ (some 26) _ = _
       simp only [Act.put, sA_, sB_, sC_, i64_w, i32_w]; rfl
      refine one_ (i := 12) (N := some 27) (B_ 19 32767) rfl rfl (one_of HT_.out (by kernel_rfl)) (by decide) (fun K hK => ?_); refine goes_ Try.func49 (by kernel_rfl) rfl #[.slice Ao16 y469.length co16] (by rfl) rfl rfl lm_ ?_
      with_reducible refine (wire_Ints.calls k1 _ _ y469 t472 _ ?side1 ?side2 A7.out).mono ?_
      (case side1 => repeat (first | exact (Kd.R_reads' HO471.out).2.2 | (with_reducible refine Kd.C_alloc ?_ _) | (with_reducible refine Kd.C_drewN ?_ _) | (with_reducible refine Kd.C_drew ?_)))
      (case side2 => exact (Kd.R_reads' HO471.out).2.1)
      rintro e w17 ⟨v473, rfl, ho0, hb⟩; refine ⟨_, rfl, ?_⟩; replace HO471 := A_ (Kd.R_below (rx_ HO471) hb); have HO474 := A_ (Kd.R_lower (Kd.R_new' ho0 (Kd.R_lt (rx_ HO_3))) (below_size (by repeat (first | (with_reducible first | exact HB.out | apply below_alloc | apply pw_below_drewN | apply below_drew1 | refine below_set ?_ GE468.out) | exact HB.out)))); replace HO_3 := A_ (Kd.R_elder' (rx_ HO_3) (Kd.R_base ho0) hb); replace BK468 := A_ (blk_below (g := gb468) (o := .cells #[.int .i64 ((rd_T61 l0 x11_1).f0), .int .i64 ((rd_T61 l0 x11_1).f1), .int .i64 ((rd_T61 l0 x11_1).f2), .int .i64 ((rd_T61 l0 x11_1).f3), .int .i64 ((rd_T61 l0 x11_1).f4), .slice A467_5 ((rd_T61 l0 x11_1).f5).length c467_5] 61 (0, 0)) (kx_ BK468) hb); replace HB := A_ (below_step (by repeat (first | (with_reducible first | exact HB.out | apply below_alloc | apply pw_below_drewN | apply below_drew1 | refine below_set ?_ GE468.out) | exact HB.out)) hb)
      (try clear hb)
      (try clear hb2)
      (try clear hk)
      (try clear hi)
      (try clear ho0)
      refine hK.out _ _ ⟨(blk_cell BK468.out 0).trans rfl, (blk_cell BK468.out 1).trans rfl, (blk_cell BK468.out 2).trans rfl, (blk_cell BK468.out 3).trans rfl, (blk_cell BK468.out 4).trans rfl, (blk_cell BK468.out 5).trans rfl⟩ (fun hHeld => ?_); clear hK K; refine norm_ (a' := ?_) ?_ ?_; rotate_left
      ·show Act.put _ (some 27) _ = _
       simp only [Act.put, sA_, sB_, sC_, i64_w, i32_w]; rfl
      refine one_ (i := 15) (N := some 30) (B_ 19 65535) rfl rfl (one_of HT_.out (by kernel_rfl)) (by decide) (fun K hK => ?_); refine goes_ Try.func49 (by kernel_rfl) rfl #[.slice A467_5 ((rd_T61 l0 x11_1).f5).length c467_5] (by rfl) rfl rfl lm_ ?_
      with_reducible refine (wire_Ints.calls k1 _ _ ((rd_T61 l0 x11_1).f5) t475 _ ?side1 ?side2 A8.out).mono ?_
      (case side1 => repeat (first | exact (Kd.C_below HR467_5.out HB.out) | (with_reducible refine Kd.C_alloc ?_ _) | (with_reducible refine Kd.C_drewN ?_ _) | (with_reducible refine Kd.C_drew ?_)))
      (case side2 => exact HC467_5.out)
      rintro e w18 ⟨v476, rfl, ho0, hb⟩; refine ⟨_, rfl, ?_⟩; replace HO471 := A_ (Kd.R_below (rx_ HO471) hb); have HO477 := A_ (Kd.R_lower (Kd.R_new' (Kd.R_new' ho0 (Kd.R_lt (rx_ HO_3))) (Kd.R_lt (rx_ HO474))) (below_size (by repeat (first | (with_reducible first | exact HB.out | apply below_alloc | apply pw_below_drewN | apply below_drew1 | refine below_set ?_ GE468.out) | exact HB.out)))); replace HO_3 := A_ (Kd.R_elder' (rx_ HO_3) (Kd.R_base ho0) hb); replace HO474 := A_ (Kd.R_elder' (rx_ HO474) (Kd.R_base ho0) hb); replace BK468 := A_ (blk_below (g := gb468) (o := .cells #[.int .i64 ((rd_T61 l0 x11_1).f0), .int .i64 ((rd_T61 l0 x11_1).f1), .int .i64 ((rd_T61 l0 x11_1).f2), .int .i64 ((rd_T61 l0 x11_1).f3), .int .i64 ((rd_T61 l0 x11_1).f4), .slice A467_5 ((rd_T61 l0 x11_1).f5).length c467_5] 61 (0, 0)) (kx_ BK468) hb); replace HB := A_ (below_step (by repeat (first | (with_reducible first | exact HB.out | apply below_alloc | apply pw_below_drewN | apply below_drew1 | refine below_set ?_ GE468.out) | exact HB.out)) hb)
      (try clear hb)
      (try clear hb2)
      (try clear hk)
      (try clear hi)
      (try clear ho0)
      obtain ⟨Ao19, co19, eo19⟩ := Kd.R_slice HO_3.out
      (first | subst eo19 | (injection eo19 with f1_ f2_ f3_; have f4_ := f1_.symm; have f5_ := f3_.symm; clear f1_ f2_ f3_; subst f4_; subst f5_))
      obtain ⟨Ao20, co20, eo20⟩ := Kd.R_slice HO474.out
      (first | subst eo20 | (injection eo20 with f1_ f2_ f3_; have f4_ := f1_.symm; have f5_ := f3_.symm; clear f1_ f2_ f3_; subst f4_; subst f5_))
      obtain ⟨Ao21, co21, eo21⟩ := Kd.R_slice HO477.out
      (first | subst eo21 | (injection eo21 with f1_ f2_ f3_; have f4_ := f1_.symm; have f5_ := f3_.symm; clear f1_ f2_ f3_; subst f4_; subst f5_))
      refine hK.out _ _ ⟨(blk_cell BK468.out 0).trans rfl, (blk_cell BK468.out 1).trans rfl, (blk_cell BK468.out 2).trans rfl, (blk_cell BK468.out 3).trans rfl, (blk_cell BK468.out 4).trans rfl, (blk_cell BK468.out 5).trans rfl⟩ (fun hHeld => ?_); clear hK K; refine norm_ (a' := ?_) ?_ ?_; rotate_left
      ·show Act.put _ (some 30) _ = _
       simp only [Act.put, sA_, sB_, sC_, i64_w, i32_w]; rfl
      refine one_ (i := 16) (N := some 31) (B_ 19 131071) rfl rfl (one_of HT_.out (by kernel_rfl)) (by decide) (fun K hK => ?_); refine Kd.N_lit_step (Kd.slice 5 (Kd.int .u8)) _ 53 ?hg (N' := 31) ?hd (xs := ([x3_1, t472, t475] : List (List Int))) (inner := [.slice Ao19 x3_1.length co19, .slice Ao20 t472.length co20, .slice Ao21 t475.length co21]) (ok := (fun k_ => some k_ ≠ (.slice Ao16 y469.length co16 : Value).ownBlock ∧ k_ ≠ gb468)) (okp := (fun k_ => some k_ ≠ (.slice Ao16 y469.length co16 : Value).ownBlock ∧ k_ ≠ gb468)) ?hr ?hp (fun _ hk => hk) ((show ∀ k_, w18.heap.size ≤ k_ → (fun k_ => some k_ ≠ (.slice Ao16 y469.length co16 : Value).ownBlock ∧ k_ ≠ gb468) k_ from fun k_ hk => ⟨Kd.fresh' (Kd.R_lt (rx_ HO471)) k_ hk, Kd.freshB (g := gb468) (o := .cells #[.int .i64 ((rd_T61 l0 x11_1).f0), .int .i64 ((rd_T61 l0 x11_1).f1), .int .i64 ((rd_T61 l0 x11_1).f2), .int .i64 ((rd_T61 l0 x11_1).f3), .int .i64 ((rd_T61 l0 x11_1).f4), .slice A467_5 ((rd_T61 l0 x11_1).f5).length c467_5] 61 (0, 0)) (kx_ BK468) k_ hk⟩) _ (Nat.le_refl _)) (Below.refl _ _) (Nat.le_refl _) (by simp) ?_; (case hd => rfl); (case hg => rfl); (case hr => first | (go_simp; done) | (go_simp; rfl)); (case hp => exact (Reps.one (show Kd.FK (Kd.slice 5 (Kd.int .u8)) _ _ x3_1 [.slice Ao19 x3_1.length co19] from (Kd.FK_slice_mk (Kd.R_reads' (Kd.R_mono (ok' := (fun k_ => some k_ ≠ (.slice Ao16 y469.length co16 : Value).ownBlock ∧ k_ ≠ gb468)) (Kd.R_types (Kd.R_apart' (HO_3.out) (Kd.R_typed HO471.out) (by decide)) BK468.out (by decide)) (fun k_ hk => ⟨hk.1.2, hk.2⟩))).2.1 (Kd.R_F (Kd.R_mono (ok' := (fun k_ => some k_ ≠ (.slice Ao16 y469.length co16 : Value).ownBlock ∧ k_ ≠ gb468)) (Kd.R_types (Kd.R_apart' (HO_3.out) (Kd.R_typed HO471.out) (by decide)) BK468.out (by decide)) (fun k_ hk => ⟨hk.1.2, hk.2⟩))))) (Reps.one (show Kd.FK (Kd.slice 5 (Kd.int .u8)) _ _ t472 [.slice Ao20 t472.length co20] from (Kd.FK_slice_mk (Kd.R_reads' (Kd.R_mono (ok' := (fun k_ => some k_ ≠ (.slice Ao16 y469.length co16 : Value).ownBlock ∧ k_ ≠ gb468)) (Kd.R_types (Kd.R_apart' (HO474.out) (Kd.R_typed HO471.out) (by decide)) BK468.out (by decide)) (fun k_ hk => ⟨hk.1.2, hk.2⟩))).2.1 (Kd.R_F (Kd.R_mono (ok' := (fun k_ => some k_ ≠ (.slice Ao16 y469.length co16 : Value).ownBlock ∧ k_ ≠ gb468)) (Kd.R_types (Kd.R_apart' (HO474.out) (Kd.R_typed HO471.out) (by decide)) BK468.out (by decide)) (fun k_ hk => ⟨hk.1.2, hk.2⟩))))) (Reps.one (show Kd.FK (Kd.slice 5 (Kd.int .u8)) _ _ t475 [.slice Ao21 t475.length co21] from (Kd.FK_slice_mk (Kd.R_reads' (Kd.R_mono (ok' := (fun k_ => some k_ ≠ (.slice Ao16 y469.length co16 : Value).ownBlock ∧ k_ ≠ gb468)) (Kd.R_types (Kd.R_apart' (HO477.out) (Kd.R_typed HO471.out) (by decide)) BK468.out (by decide)) (fun k_ hk => ⟨hk.1.2, hk.2⟩))).2.1 (Kd.R_F (Kd.R_mono (ok' := (fun k_ => some k_ ≠ (.slice Ao16 y469.length co16 : Value).ownBlock ∧ k_ ≠ gb468)) (Kd.R_types (Kd.R_apart' (HO477.out) (Kd.R_typed HO471.out) (by decide)) BK468.out (by decide)) (fun k_ hk => ⟨hk.1.2, hk.2⟩))))) (Reps.none _ _)))))
      intro v479 w22 ho23 hb hg_ hnew_; clear hg_ hnew_
      (first | rw [← Ny478.out] at ho23 | (simp only [Int.reduceToNat] at ho23; rw [← Ny478.out] at ho23))
      have n0_ := A_ (Kd.R_below (rx_ HO471) hb); have n1_ := A_ (Kd.N_lower ho23 (below_size (by repeat (first | (with_reducible first | exact HB.out | apply below_alloc | apply pw_below_drewN | apply below_drew1 | refine below_set ?_ GE468.out) | exact HB.out)))); have n2_ := A_ (blk_below (g := gb468) (o := .cells #[.int .i64 ((rd_T61 l0 x11_1).f0), .int .i64 ((rd_T61 l0 x11_1).f1), .int .i64 ((rd_T61 l0 x11_1).f2), .int .i64 ((rd_T61 l0 x11_1).f3), .int .i64 ((rd_T61 l0 x11_1).f4), .slice A467_5 ((rd_T61 l0 x11_1).f5).length c467_5] 61 (0, 0)) (kx_ BK468) hb); have n3_ := A_ (below_step (by repeat (first | (with_reducible first | exact HB.out | apply below_alloc | apply pw_below_drewN | apply below_drew1 | refine below_set ?_ GE468.out) | exact HB.out)) hb); clear HO471 BK468 HB HO474 HO477 HO_3; have HO471 := n0_; have HO480 := n1_; have BK468 := n2_; have HB := n3_; clear n0_ n1_ n2_ n3_ hb ho23; obtain ⟨Ao24, co24, eo24⟩ := Kd.N_slice HO480.out
      (first | subst eo24 | (injection eo24 with f1_ f2_ f3_; have f4_ := f1_.symm; have f5_ := f3_.symm; clear f1_ f2_ f3_; subst f4_; subst f5_))
      refine hK.out _ _ ⟨(blk_cell BK468.out 0).trans rfl, (blk_cell BK468.out 1).trans rfl, (blk_cell BK468.out 2).trans rfl, (blk_cell BK468.out 3).trans rfl, (blk_cell BK468.out 4).trans rfl, (blk_cell BK468.out 5).trans rfl⟩ (fun hHeld => ?_); clear hK K; refine norm_ (a' := ?_) ?_ ?_; rotate_left
      ·show Act.put _ (some 31) _ = _
       simp only [Act.put, sA_, sB_, sC_, i64_w, i32_w]; rfl
      refine one_ (i := 17) (N := some 32) (B_ 19 262143) rfl rfl (one_of HT_.out (by kernel_rfl)) (by decide) (fun K hK => ?_); refine goes_ Try.func48 (by kernel_rfl) rfl #[.slice Ao24 y478.length co24] (by rfl) rfl rfl lm_ ?_
      with_reducible refine (slices_Concat_byte.calls _ _ y478 t481 _ ?side1 ?side2 A9.out).mono ?_
      (case side1 => repeat (first | exact (Kd.N_reads' HO480.out).2.2 | (with_reducible refine Kd.C_alloc ?_ _) | (with_reducible refine Kd.C_drewN ?_ _) | (with_reducible refine Kd.C_drew ?_)))
      (case side2 => exact (Kd.N_reads' HO480.out).2.1)
      rintro e w25 ⟨v482, rfl, ho0, hb⟩; refine ⟨_, rfl, ?_⟩; replace HO471 := A_ (Kd.R_below (rx_ HO471) hb); replace HO480 := A_ (Kd.N_elder' (nx_ HO480) (Kd.R_base ho0) hb); have HO483 := A_ (Kd.R_lower ho0 (below_size (by repeat (first | (with_reducible first | exact HB.out | apply below_alloc | apply pw_below_drewN | apply below_drew1 | refine below_set ?_ GE468.out) | exact HB.out)))); replace BK468 := A_ (blk_below (g := gb468) (o := .cells #[.int .i64 ((rd_T61 l0 x11_1).f0), .int .i64 ((rd_T61 l0 x11_1).f1), .int .i64 ((rd_T61 l0 x11_1).f2), .int .i64 ((rd_T61 l0 x11_1).f3), .int .i64 ((rd_T61 l0 x11_1).f4), .slice A467_5 ((rd_T61 l0 x11_1).f5).length c467_5] 61 (0, 0)) (kx_ BK468) hb); replace HB := A_ (below_step (by repeat (first | (with_reducible first | exact HB.out | apply below_alloc | apply pw_below_drewN | apply below_drew1 | refine below_set ?_ GE468.out) | exact HB.out)) hb)
      (try clear hb)
      (try clear hb2)
      (try clear hk)
      (try clear hi)
      (try clear ho0)
      refine hK.out _ _ ⟨(blk_cell BK468.out 0).trans rfl, (blk_cell BK468.out 1).trans rfl, (blk_cell BK468.out 2).trans rfl, (blk_cell BK468.out 3).trans rfl, (blk_cell BK468.out 4).trans rfl, (blk_cell BK468.out 5).trans rfl⟩ (fun hHeld => ?_); clear hK K; refine norm_ (a' := ?_) ?_ ?_; rotate_left
      ·show Act.put _ (some 32) _ = _
       simp only [Act.put, sA_, sB_, sC_, i64_w, i32_w]; rfl
      refine pT_ 18 3 (B_ 19 524287) HT_ ?_; refine done_ (done_of HT_.out (by kernel_rfl)) ?_
      try go_wp2
      go_roundg k1
      case measure => have := HK1.out; omega
      case rel => exact ⟨(t481), (wrap64 (x11_1 + 1)), rf_, H', ⟨by have := HK1.out; omega⟩, ⟨by (with_reducible repeat (first | apply Kd.R_alloc | apply Kd.R_drewN | apply Kd.R_drew)); exact HO483.out⟩, ⟨by repeat (first | (with_reducible first | exact HB.out | apply below_alloc | apply pw_below_drewN | apply below_drew1 | refine below_set ?_ GE468.out) | exact HB.out)⟩⟩
     (· rw [if_neg c6] at H; exact absurd H (by simp))
    (· rw [if_neg c5] at H; exact absurd H (by simp))
   (· rw [if_neg c4] at H; have c4b0 := decide_eq_false c4; clear c4; obtain rfl := Option.some.inj H; go_wp2; go_ret; exact ⟨_, ew_, by (with_reducible repeat (first | apply Kd.R_alloc | apply Kd.R_drewN | apply Kd.R_drew)); exact HO_3.out, bx_ HB⟩)
mutual
def dioramaref01_Int.j0 : Nat → Int → Int → Option (List Int)
 | 0, _, _ => none
 | k + 1, x0, x3 => dioramaref01_Int.l0 k x0 x3 ([] : List Int)
def dioramaref01_Int.l0 : Nat → Int → Int → List Int → Option (List Int)
 | 0, _, _, _ => none
 | k + 1, x0, x3, x4 => if x3 > 0 then (if x4.length < 140737488355328 then (dioramaref01_Int.l0 k x0 (wrap64 (Int.tdiv x3 256)) (x4 ++ [(Int.tmod x3 256) % 256])) else (none)) else (if x0 ≥ 0 then (if ([] : List Int).length < 140737488355328 then (dioramaref01_Int.j2 k x0 x4 (x4.length : Int) (([] : List Int) ++ [(wrap64 (128 + (x4.length : Int))) % 256])) else (none)) else (if ([] : List Int).length < 140737488355328 then (dioramaref01_Int.j2 k x0 x4 (x4.length : Int) (([] : List Int) ++ [(wrap64 (127 - (x4.length : Int))) % 256])) else (none)))
def dioramaref01_Int.j2 : Nat → Int → List Int → Int → List Int → Option (List Int)
 | 0, _, _, _, _ => none
 | k + 1, x0, x4, x5, x6 => dioramaref01_Int.l1 k x0 x4 x6 (wrap64 (x5 - 1))
def dioramaref01_Int.l1 : Nat → Int → List Int → List Int → Int → Option (List Int)
 | 0, _, _, _, _ => none
 | k + 1, x0, x4, x6, x7 => if x7 ≥ 0 then (if 0 ≤ x7 then (if x7 < (x4.length : Int) then (if x0 < 0 then (if x6.length < 140737488355328 then (dioramaref01_Int.l1 k x0 x4 (x6 ++ [(255 - (rd x4 x7)) % 256]) (wrap64 (x7 - 1))) else (none)) else (if x6.length < 140737488355328 then (dioramaref01_Int.l1 k x0 x4 (x6 ++ [rd x4 x7]) (wrap64 (x7 - 1))) else (none))) else (none)) else (none)) else (some x6)
end
def dioramaref01_Int.f (k : Nat) (a0 : Int) : Option (List Int) := if a0 < 0 then (dioramaref01_Int.j0 k a0 (wrap64 ((-1) - a0))) else (dioramaref01_Int.j0 k a0 a0)
set_option maxHeartbeats 8000000 in
set_option maxRecDepth 100000 in
theorem dioramaref01_Int.calls (k : Nat) (a0 : Int) (r : List Int) (w : World) (h : dioramaref01_Int.f k a0 = some r) :
  Calls Try.prog 50 #[.int .i64 a0] w fun e w' => ∃ v0_ : Value, e = .returned (v0_) ∧ Kd.R (Kd.int .u8) 5 w' w.heap.size (fun _ => True) v0_ r ∧ Below w.heap.size w w' := by
 have HB := A_ (Below.refl w.heap.size w); have H : (if a0 < 0 then (dioramaref01_Int.j0 k a0 (wrap64 ((-1) - a0))) else (dioramaref01_Int.j0 k a0 a0)) = some r := h; clear h; have HC2 := A_ H; clear H
 go_enter Try.func50, Try.ntmps50
 go_upto_if 11 with (fail)
 go_cut [3] (fun v3 wc => ∃ (kq : Nat) (x3_1 : Int), v3 = .int .i64 x3_1 ∧ Aside0 (dioramaref01_Int.j0 kq a0 x3_1 = some r) ∧ Aside0 (kq ≤ k) ∧ Aside0 (Below w.heap.size w wc))
 case first =>
  have H := HC2.out; clear HC2
  by_cases c3 : a0 < 0
  ·rw [if_pos c3] at H
   have c3b0 := decide_eq_true c3; clear c3
   (first | rw [c3b0] | (simp only [i64_w, i32_w]; rw [c3b0]) | skip)
   have H' := A_ H; clear H; go_wp2
   go_meet
   case rel => exact ⟨_, (wrap64 ((-1) - a0)), rf_, H', ⟨by first | omega | exact Nat.le_refl _⟩, ⟨bx_ HB⟩⟩
  ·rw [if_neg c3] at H
   have c3b0 := decide_eq_false c3; clear c3
   (first | rw [c3b0] | (simp only [i64_w, i32_w]; rw [c3b0]) | skip)
   have H' := A_ H; clear H; go_wp2
   go_meet
   case rel => exact ⟨_, (a0), rf_, H', ⟨by first | omega | exact Nat.le_refl _⟩, ⟨bx_ HB⟩⟩
 case rest =>
  clear HC2; obtain ⟨kq, x3_1, rfl, HA, HJ1, HB⟩ := hcut
  cases kq with
  | zero => exact absurd HA.out (by simp [dioramaref01_Int.j0])
  | succ kj1 =>
   have H := HA.out; clear HA; simp only [dioramaref01_Int.j0] at H; have H' := A_ H; clear H; go_wp2
   go_loopg [3, 4] kj1 (fun kq v3 v4 w' => ∃ (x3_2 : Int) (x4_2 : List Int), v3 = .int .i64 x3_2 ∧ Aside0 (dioramaref01_Int.l0 kq a0 x3_2 x4_2 = some r) ∧ Aside0 (kq ≤ kj1) ∧ Aside0 (Kd.R (Kd.int .u8) 5 w' w.heap.size (fun _ => True) v4 x4_2) ∧ Aside0 (Below w.heap.size w w'))
   case atStart => exact ⟨(x3_1), (([] : List Int)), rf_, H', ⟨Nat.le_refl _⟩, ⟨by first | exact Kd.R_nil _ _ _ _ _ | exact Kd.N_nil _ _ _ _ _ | exact Kd.V_nil _ _ _ _ _ | exact Kd.Q_nil _ _ _ _ _ | exact Kd.S_nil _ _ _ _ _⟩, ⟨bx_ HB⟩⟩
   case round =>
    clear H'; obtain ⟨x3_2, x4_2, rfl, HA, HK2, HO_4, HB⟩ := hrel
    cases gk with
    | zero => exact absurd HA.out (by simp [dioramaref01_Int.l0])
    | succ k2 =>
     have H := HA.out; clear HA; simp only [dioramaref01_Int.l0] at H
     by_cases c4 : x3_2 > 0
     ·rw [if_pos c4] at H
      have c4b0 : decide (0 < x3_2) = true := decide_eq_true c4; clear c4
      by_cases c5 : x4_2.length < 140737488355328
      ·rw [if_pos c5] at H
       have LMc5 := A_ c5; clear c5; obtain ⟨y484, hy484⟩ : ∃ y_ : List Int, y_ = (x4_2 ++ [(Int.tmod x3_2 256) % 256]) := ⟨_, rfl⟩; replace H : (dioramaref01_Int.l0 k2 a0 (wrap64 (Int.tdiv x3_2 256)) y484) = some r := rh_ hy484 H; have Ny484 := A_ hy484; clear hy484; have H' := A_ H; clear H
       go_wp2_with (first | ((with_reducible refine gate_builtin (b := .append) (xs := #[.tmp 16, .tmp 20]) rfl ?_); at_builtin; refine Kd.R_append (Kd.int .u8) (w0 := w) w.heap.size rfl (.tmp 16) (.tmp 20) 53 5 (.int .u8 0) 1 rfl Try.underlying53 info5 rfl (by decide) (by omega) u4 x4_2 ((Int.tmod x3_2 256) % 256) [.int .u8 ((Int.tmod x3_2 256) % 256)] (fun _ => True) (fun _ => False) rfl rfl ?aP (fun _ hk => hk.elim) ?aF ?aO ?aB ?aS ?aL ?_; (case aP => exact rfl); (case aB => exact (bx_ HB)); (case aF => exact (fun _ _ => trivial)); (case aO => exact (rx_ HO_4)); (case aS => exact (below_size (bx_ HB))); (case aL => have := LMc5.out; omega); intro v485 w6 ho hb hg hat; rw [← Ny484.out] at ho; have n0_ := A_ (hb); have n1_ := A_ (ho); clear HB HO_4; have HB := n0_; have HO486 := n1_; clear n0_ n1_; clear ho hb hg hat))
       go_roundg k2
       case measure => have := HJ1.out; have := HK2.out; omega
       case rel => exact ⟨(wrap64 (Int.tdiv x3_2 256)), (y484), rf_, H', ⟨by have := HJ1.out; have := HK2.out; omega⟩, ⟨by (with_reducible repeat (first | apply Kd.R_alloc | apply Kd.R_drewN | apply Kd.R_drew)); exact HO486.out⟩, ⟨bx_ HB⟩⟩
      (· rw [if_neg c5] at H; exact absurd H (by simp))
     ·rw [if_neg c4] at H
      have c4b0 : decide (0 < x3_2) = false := decide_eq_false c4; clear c4; have HC7 := A_ H; clear H; obtain ⟨Ao8, co8, eo8⟩ := Kd.R_slice HO_4.out; subst eo8
      go_upto_if 27 with (fail)
      go_cut [6] (fun v6 wc => ∃ (kq : Nat) (x6_6 : List Int), Aside0 (dioramaref01_Int.j2 kq a0 x4_2 (x4_2.length : Int) x6_6 = some r) ∧ Aside0 (kq ≤ k2) ∧ Aside0 (Kd.R (Kd.int .u8) 5 wc w.heap.size (fun k_ => some k_ ≠ (v6 : Value).ownBlock) (.slice Ao8 x4_2.length co8) x4_2) ∧ Aside0 (Kd.R (Kd.int .u8) 5 wc w.heap.size (fun k_ => some k_ ≠ ((.slice Ao8 x4_2.length co8) : Value).ownBlock) v6 x6_6) ∧ Aside0 (Below w.heap.size w wc))
      case first =>
       have H := HC7.out; clear HC7
       by_cases c9 : a0 ≥ 0
       ·rw [if_pos c9] at H
        have c9b0 : decide (0 ≤ a0) = true := decide_eq_true c9; clear c9
        (first | rw [c9b0] | (simp only [i64_w, i32_w]; rw [c9b0]) | skip)
        by_cases c10 : ([] : List Int).length < 140737488355328
        ·rw [if_pos c10] at H
         have LMc10 := A_ c10; clear c10; obtain ⟨y487, hy487⟩ : ∃ y_ : List Int, y_ = (([] : List Int) ++ [(wrap64 (128 + (x4_2.length : Int))) % 256]) := ⟨_, rfl⟩; replace H : (dioramaref01_Int.j2 k2 a0 x4_2 (x4_2.length : Int) y487) = some r := rh_ hy487 H; have Ny487 := A_ hy487; clear hy487; have H' := A_ H; clear H
         go_wp2_with (first | ((with_reducible refine gate_builtin (b := .append) (xs := #[.tmp 28, .tmp 32]) rfl ?_); at_builtin; refine Kd.R_append (Kd.int .u8) (w0 := w) w.heap.size rfl (.tmp 28) (.tmp 32) 53 5 (.int .u8 0) 1 rfl Try.underlying53 info5 rfl (by decide) (by omega) (.slice none 0 0) ([] : List Int) ((wrap64 (128 + (x4_2.length : Int))) % 256) [.int .u8 ((wrap64 (128 + (x4_2.length : Int))) % 256)] (fun k_ => some k_ ≠ (.slice Ao8 x4_2.length co8 : Value).ownBlock) (fun _ => False) rfl rfl ?aP (fun _ hk => hk.elim) ?aF ?aO ?aB ?aS ?aL ?_; (case aP => exact rfl); (case aB => exact (bx_ HB)); (case aF => exact (fun k_ hk => Kd.fresh' (Kd.R_lt (rx_ HO_4)) k_ hk)); (case aO => exact ((Kd.R_nil _ _ _ _ (fun k_ => some k_ ≠ (.slice Ao8 x4_2.length co8 : Value).ownBlock)))); (case aS => exact (below_size (bx_ HB))); (case aL => have := LMc10.out; omega); intro v488 w11 ho hb hg hat; rw [← Ny487.out] at ho; replace HO_4 := A_ (Kd.R_after (Kd.R_apart_nil (rx_ HO_4)) hg hat); replace HB := A_ (hb); have HO489 := A_ (ho); clear ho hb hg hat))
         go_meet
         case rel => exact ⟨_, (y487), H', ⟨by have := HJ1.out; have := HK2.out; first | omega | exact Nat.le_refl _⟩, ⟨by (with_reducible repeat (first | apply Kd.R_alloc | apply Kd.R_drewN | apply Kd.R_drew)); exact Kd.R_mono HO_4.out (fun _ hk => hk.2)⟩, ⟨by (with_reducible repeat (first | apply Kd.R_alloc | apply Kd.R_drewN | apply Kd.R_drew)); exact HO489.out⟩, ⟨bx_ HB⟩⟩
        (· rw [if_neg c10] at H; exact absurd H (by simp))
       ·rw [if_neg c9] at H
        have c9b0 : decide (0 ≤ a0) = false := decide_eq_false c9; clear c9
        (first | rw [c9b0] | (simp only [i64_w, i32_w]; rw [c9b0]) | skip)
        by_cases c12 : ([] : List Int).length < 140737488355328
        ·rw [if_pos c12] at H
         have LMc12 := A_ c12; clear c12; obtain ⟨y490, hy490⟩ : ∃ y_ : List Int, y_ = (([] : List Int) ++ [(wrap64 (127 - (x4_2.length : Int))) % 256]) := ⟨_, rfl⟩; replace H : (dioramaref01_Int.j2 k2 a0 x4_2 (x4_2.length : Int) y490) = some r := rh_ hy490 H; have Ny490 := A_ hy490; clear hy490; have H' := A_ H; clear H
         go_wp2_with (first | ((with_reducible refine gate_builtin (b := .append) (xs := #[.tmp 34, .tmp 38]) rfl ?_); at_builtin; refine Kd.R_append (Kd.int .u8) (w0 := w) w.heap.size rfl (.tmp 34) (.tmp 38) 53 5 (.int .u8 0) 1 rfl Try.underlying53 info5 rfl (by decide) (by omega) (.slice none 0 0) ([] : List Int) ((wrap64 (127 - (x4_2.length : Int))) % 256) [.int .u8 ((wrap64 (127 - (x4_2.length : Int))) % 256)] (fun k_ => some k_ ≠ (.slice Ao8 x4_2.length co8 : Value).ownBlock) (fun _ => False) rfl rfl ?aP (fun _ hk => hk.elim) ?aF ?aO ?aB ?aS ?aL ?_; (case aP => exact rfl); (case aB => exact (bx_ HB)); (case aF => exact (fun k_ hk => Kd.fresh' (Kd.R_lt (rx_ HO_4)) k_ hk)); (case aO => exact ((Kd.R_nil _ _ _ _ (fun k_ => some k_ ≠ (.slice Ao8 x4_2.length co8 : Value).ownBlock)))); (case aS => exact (below_size (bx_ HB))); (case aL => have := LMc12.out; omega); intro v491 w13 ho hb hg hat; rw [← Ny490.out] at ho; replace HO_4 := A_ (Kd.R_after (Kd.R_apart_nil (rx_ HO_4)) hg hat); replace HB := A_ (hb); have HO492 := A_ (ho); clear ho hb hg hat))
         go_meet
         case rel => exact ⟨_, (y490), H', ⟨by have := HJ1.out; have := HK2.out; first | omega | exact Nat.le_refl _⟩, ⟨by (with_reducible repeat (first | apply Kd.R_alloc | apply Kd.R_drewN | apply Kd.R_drew)); exact Kd.R_mono HO_4.out (fun _ hk => hk.2)⟩, ⟨by (with_reducible repeat (first | apply Kd.R_alloc | apply Kd.R_drewN | apply Kd.R_drew)); exact HO492.out⟩, ⟨bx_ HB⟩⟩
        (· rw [if_neg c12] at H; exact absurd H (by simp))
      case rest =>
       clear HC7
       try clear c4
       try clear c4b0
       obtain ⟨kq, x6_6, HA, HJ6, HO_4, HO_6, HB⟩ := hcut
       cases kq with
       | zero => exact absurd HA.out (by simp [dioramaref01_Int.j2])
       | succ kj6 =>
        have H := HA.out; clear HA; simp only [dioramaref01_Int.j2] at H; have H' := A_ H; clear H; go_wp2
        go_loopg [6, 7] kj6 (fun kq v6 v7 w' => ∃ (x6_4 : List Int) (x7_4 : Int), v7 = .int .i64 x7_4 ∧ Aside0 (dioramaref01_Int.l1 kq a0 x4_2 x6_4 x7_4 = some r) ∧ Aside0 (kq ≤ kj6) ∧ Aside0 (Kd.R (Kd.int .u8) 5 w' w.heap.size (fun k_ => some k_ ≠ (v6 : Value).ownBlock) (.slice Ao8 x4_2.length co8) x4_2) ∧ Aside0 (Kd.R (Kd.int .u8) 5 w' w.heap.size (fun k_ => some k_ ≠ ((.slice Ao8 x4_2.length co8) : Value).ownBlock) v6 x6_4) ∧ Aside0 (Below w.heap.size w w'))
        case atStart => exact ⟨(x6_6), (wrap64 ((x4_2.length : Int) - 1)), rf_, H', ⟨Nat.le_refl _⟩, ⟨by (with_reducible repeat (first | apply Kd.R_alloc | apply Kd.R_drewN | apply Kd.R_drew)); exact HO_4.out⟩, ⟨by (with_reducible repeat (first | apply Kd.R_alloc | apply Kd.R_drewN | apply Kd.R_drew)); exact HO_6.out⟩, ⟨bx_ HB⟩⟩
        case round =>
         clear H'
         try clear c4
         try clear c4b0
         obtain ⟨x6_4, x7_4, rfl, HA, HK4, HO_4, HO_6, HB⟩ := hrel
         cases gk with
         | zero => exact absurd HA.out (by simp [dioramaref01_Int.l1])
         | succ k4 =>
          have H := HA.out; clear HA; simp only [dioramaref01_Int.l1] at H
          by_cases c14 : x7_4 ≥ 0
          ·rw [if_pos c14] at H
           have c14b0 : decide (0 ≤ x7_4) = true := decide_eq_true c14; clear c14
           by_cases c15 : 0 ≤ x7_4
           ·rw [if_pos c15] at H
            have c15b0 := decide_eq_true c15; clear c15
            by_cases c16 : x7_4 < (x4_2.length : Int)
            ·rw [if_pos c16] at H
             have c16b0 := decide_eq_true c16; clear c16
             by_cases c17 : a0 < 0
             ·rw [if_pos c17] at H
              have c17b0 := decide_eq_true c17; clear c17
              by_cases c18 : x6_4.length < 140737488355328
              ·rw [if_pos c18] at H
               have LMc18 := A_ c18; clear c18; obtain ⟨y494, hy494⟩ : ∃ y_ : List Int, y_ = (x6_4 ++ [(255 - (rd x4_2 x7_4)) % 256]) := ⟨_, rfl⟩; replace H : (dioramaref01_Int.l1 k4 a0 x4_2 y494 (wrap64 (x7_4 - 1))) = some r := rh_ hy494 H; have Ny494 := A_ hy494; clear hy494; have H' := A_ H; clear H; have p493 : 0 ≤ (x7_4 : Int) := od_; have q493 : x7_4 < (x4_2.length : Int) := od_; obtain ⟨ad493, e493, hx493_0⟩ := Kd.at_int (Kd.R_reads' HO_4.out).2.2 x7_4 p493 q493
               cases e493
               replace p493 := eq_true p493; replace q493 := eq_true q493
               go_wp2_with (first | ((with_reducible refine gate_builtin (b := .append) (xs := #[.tmp 54, .tmp 56]) rfl ?_); at_builtin; refine Kd.R_append (Kd.int .u8) (w0 := w) w.heap.size rfl (.tmp 54) (.tmp 56) 53 5 (.int .u8 0) 1 rfl Try.underlying53 info5 rfl (by decide) (by omega) u6 x6_4 ((255 - (rd x4_2 x7_4)) % 256) [.int .u8 ((255 - (rd x4_2 x7_4)) % 256)] (fun k_ => some k_ ≠ (.slice (some ad493) x4_2.length co8 : Value).ownBlock) (fun _ => False) rfl rfl ?aP (fun _ hk => hk.elim) ?aF ?aO ?aB ?aS ?aL ?_; (case aP => exact rfl); (case aB => exact (bx_ HB)); (case aF => exact (fun k_ hk => Kd.fresh' (Kd.R_lt (rx_ HO_4)) k_ hk)); (case aO => exact (rx_ HO_6)); (case aS => exact (below_size (bx_ HB))); (case aL => have := LMc18.out; omega); intro v495 w19 ho hb hg hat; rw [← Ny494.out] at ho; have n0_ := A_ (Kd.R_after (ok := (fun _ => True)) (by (with_reducible repeat (first | apply Kd.R_alloc | apply Kd.R_drewN | apply Kd.R_drew)); exact Kd.R_mono HO_4.out (fun _ hk => ⟨trivial, hk⟩)) hg hat); have n1_ := A_ (hb); have n2_ := A_ (ho); clear HO_4 HB HO_6; have HO_4 := n0_; have HB := n1_; have HO496 := n2_; clear n0_ n1_ n2_; clear ho hb hg hat))
               go_roundg k4
               case measure => have := HJ1.out; have := HK2.out; have := HJ6.out; have := HK4.out; omega
               case rel => exact ⟨(y494), (wrap64 (x7_4 - 1)), rf_, H', ⟨by have := HJ1.out; have := HK2.out; have := HJ6.out; have := HK4.out; omega⟩, ⟨by (with_reducible repeat (first | apply Kd.R_alloc | apply Kd.R_drewN | apply Kd.R_drew)); exact Kd.R_mono HO_4.out (fun _ hk => hk.2)⟩, ⟨by (with_reducible repeat (first | apply Kd.R_alloc | apply Kd.R_drewN | apply Kd.R_drew)); exact HO496.out⟩, ⟨bx_ HB⟩⟩
              (· rw [if_neg c18] at H; exact absurd H (by simp))
             ·rw [if_neg c17] at H
              have c17b0 := decide_eq_false c17; clear c17
              by_cases c20 : x6_4.length < 140737488355328
              ·rw [if_pos c20] at H
               have LMc20 := A_ c20; clear c20; obtain ⟨y497, hy497⟩ : ∃ y_ : List Int, y_ = (x6_4 ++ [rd x4_2 x7_4]) := ⟨_, rfl⟩; replace H : (dioramaref01_Int.l1 k4 a0 x4_2 y497 (wrap64 (x7_4 - 1))) = some r := rh_ hy497 H; have Ny497 := A_ hy497; clear hy497; have H' := A_ H; clear H; have p493 : 0 ≤ (x7_4 : Int) := od_; have q493 : x7_4 < (x4_2.length : Int) := od_; obtain ⟨ad493, e493, hx493_0⟩ := Kd.at_int (Kd.R_reads' HO_4.out).2.2 x7_4 p493 q493
               cases e493
               replace p493 := eq_true p493; replace q493 := eq_true q493
               go_wp2_with (first | ((with_reducible refine gate_builtin (b := .append) (xs := #[.tmp 54, .tmp 56]) rfl ?_); at_builtin; refine Kd.R_append (Kd.int .u8) (w0 := w) w.heap.size rfl (.tmp 54) (.tmp 56) 53 5 (.int .u8 0) 1 rfl Try.underlying53 info5 rfl (by decide) (by omega) u6 x6_4 (rd x4_2 x7_4) [.int .u8 (rd x4_2 x7_4)] (fun k_ => some k_ ≠ (.slice (some ad493) x4_2.length co8 : Value).ownBlock) (fun _ => False) rfl rfl ?aP (fun _ hk => hk.elim) ?aF ?aO ?aB ?aS ?aL ?_; (case aP => exact rfl); (case aB => exact (bx_ HB)); (case aF => exact (fun k_ hk => Kd.fresh' (Kd.R_lt (rx_ HO_4)) k_ hk)); (case aO => exact (rx_ HO_6)); (case aS => exact (below_size (bx_ HB))); (case aL => have := LMc20.out; omega); intro v498 w21 ho hb hg hat; rw [← Ny497.out] at ho; have n0_ := A_ (Kd.R_after (ok := (fun _ => True)) (by (with_reducible repeat (first | apply Kd.R_alloc | apply Kd.R_drewN | apply Kd.R_drew)); exact Kd.R_mono HO_4.out (fun _ hk => ⟨trivial, hk⟩)) hg hat); have n1_ := A_ (hb); have n2_ := A_ (ho); clear HO_4 HB HO_6; have HO_4 := n0_; have HB := n1_; have HO499 := n2_; clear n0_ n1_ n2_; clear ho hb hg hat))
               go_roundg k4
               case measure => have := HJ1.out; have := HK2.out; have := HJ6.out; have := HK4.out; omega
               case rel => exact ⟨(y497), (wrap64 (x7_4 - 1)), rf_, H', ⟨by have := HJ1.out; have := HK2.out; have := HJ6.out; have := HK4.out; omega⟩, ⟨by (with_reducible repeat (first | apply Kd.R_alloc | apply Kd.R_drewN | apply Kd.R_drew)); exact Kd.R_mono HO_4.out (fun _ hk => hk.2)⟩, ⟨by (with_reducible repeat (first | apply Kd.R_alloc | apply Kd.R_drewN | apply Kd.R_drew)); exact HO499.out⟩, ⟨bx_ HB⟩⟩
              (· rw [if_neg c20] at H; exact absurd H (by simp))
            (· rw [if_neg c16] at H; exact absurd H (by simp))
           (· rw [if_neg c15] at H; exact absurd H (by simp))
          (· rw [if_neg c14] at H; have c14b0 : decide (0 ≤ x7_4) = false := decide_eq_false c14; clear c14; obtain rfl := Option.some.inj H; go_wp2; go_ret; exact ⟨_, ew_, by (with_reducible repeat (first | apply Kd.R_alloc | apply Kd.R_drewN | apply Kd.R_drew)); exact Kd.R_mono HO_6.out (fun _ hk => trivial), bx_ HB⟩)
def dioramaref01_Ints.l0 : Nat → List Int → List Int → Int → Option (List Int)
 | 0, _, _, _ => none
 | k + 1, x0, x3, x4 => if x4 < (x0.length : Int) then (if 0 ≤ x4 then ((dioramaref01_Int.f k (rd x0 x4)).bind fun t504 => (if x3.length + t504.length < 140737488355328 then (dioramaref01_Ints.l0 k x0 (x3 ++ t504) (wrap64 (x4 + 1))) else (none))) else (none)) else (some x3)
def dioramaref01_Ints.f (k : Nat) (l0 : List Int) : Option (List Int) := (dioramaref01_Int.f k (l0.length : Int)).bind fun t500 => (dioramaref01_Ints.l0 k l0 t500 0)
set_option maxHeartbeats 8000000 in
set_option maxRecDepth 100000 in
theorem dioramaref01_Ints.calls (k : Nat) (A0 : Option Addr) (c0 : Nat) (l0 : List Int) (r : List Int) (w : World) (hr0 : Kd.C (Kd.int .i64) w A0 l0.length l0) (hc0 : l0.length ≤ c0) (h : dioramaref01_Ints.f k l0 = some r) :
  Calls Try.prog 51 #[.slice A0 l0.length c0] w fun e w' => ∃ v0_ : Value, e = .returned (v0_) ∧ Kd.R (Kd.int .u8) 5 w' w.heap.size (fun _ => True) v0_ r ∧ Below w.heap.size w w' := by
 have HR0 := A_ hr0; have HC0 := A_ hc0; clear hr0 hc0; have HB := A_ (Below.refl w.heap.size w); have H : ((dioramaref01_Int.f k (l0.length : Int)).bind fun t500 => (dioramaref01_Ints.l0 k l0 t500 0)) = some r := h; clear h; replace H := Option.bind_eq_some_iff.mp H; obtain ⟨t500, A20, H⟩ := H
 (try dsimp only at H)
 have A2 := A_ A20; clear A20; have H' := A_ H; clear H
 go_enter Try.func51, Try.ntmps51
 go_wp2_with (first | ((with_reducible refine gate_callee (f := 50) rfl ?_); refine goesL_ (some 7) rfl rfl Try.func50 (by kernel_rfl) rfl #[.int .i64 (l0.length : Int)] rfl lm_ ?_; (with_reducible refine (dioramaref01_Int.calls k (l0.length : Int) t500 _ A2.out).mono ?_); rintro e w3 ⟨v501, rfl, ho0, hb⟩; refine ⟨_, rfl, ?_⟩; have HO502 := A_ (Kd.R_lower ho0 (below_size (bx_ HB))); replace HB := A_ (below_step (bx_ HB) hb); (try clear hb); (try clear hb2); (try clear hk); (try clear hi); (try clear ho0)))
 go_loopg [3, 4] k (fun kq v3 v4 w' => ∃ (x3_1 : List Int) (x4_1 : Int), v4 = .int .i64 x4_1 ∧ Aside0 (dioramaref01_Ints.l0 kq l0 x3_1 x4_1 = some r) ∧ Aside0 (kq ≤ k) ∧ Aside0 (Kd.R (Kd.int .u8) 5 w' w.heap.size (fun _ => True) v3 x3_1) ∧ Aside0 (Below w.heap.size w w'))
 case atStart => exact ⟨(t500), (0), rf_, H', ⟨Nat.le_refl _⟩, ⟨by (with_reducible repeat (first | apply Kd.R_alloc | apply Kd.R_drewN | apply Kd.R_drew)); exact HO502.out⟩, ⟨bx_ HB⟩⟩
 case round =>
  clear H'; obtain ⟨x3_1, x4_1, rfl, HA, HK1, HO_3, HB⟩ := hrel
  cases gk with
  | zero => exact absurd HA.out (by simp [dioramaref01_Ints.l0])
  | succ k1 =>
   have H := HA.out; clear HA; simp only [dioramaref01_Ints.l0] at H
   by_cases c4 : x4_1 < (l0.length : Int)
   ·rw [if_pos c4] at H
    have c4b0 := decide_eq_true c4; clear c4
    by_cases c5 : 0 ≤ x4_1
    ·rw [if_pos c5] at H
     have c5b0 := decide_eq_true c5; clear c5; replace H := Option.bind_eq_some_iff.mp H; obtain ⟨t504, A60, H⟩ := H
     (try dsimp only at H)
     have A6 := A_ A60; clear A60
     by_cases c7 : x3_1.length + t504.length < 140737488355328
     ·rw [if_pos c7] at H
      have LMc7 := A_ c7; clear c7; obtain ⟨y507, hy507⟩ : ∃ y_ : List Int, y_ = (x3_1 ++ t504) := ⟨_, rfl⟩; replace H : (dioramaref01_Ints.l0 k1 l0 y507 (wrap64 (x4_1 + 1))) = some r := rh_ hy507 H; have Ny507 := A_ hy507; clear hy507; have H' := A_ H; clear H; have p503 : 0 ≤ (x4_1 : Int) := od_; have q503 : x4_1 < (l0.length : Int) := od_; obtain ⟨ad503, e503, hx503_0⟩ := Kd.at_int HR0.out x4_1 p503 q503
      cases e503
      replace hx503_0 := hc_ HB hx503_0; replace p503 := eq_true p503; replace q503 := eq_true q503
      go_wp2_with (first | ((with_reducible refine gate_callee (f := 50) rfl ?_); refine goesL_ (some 19) rfl rfl Try.func50 (by kernel_rfl) rfl #[.int .i64 (rd l0 x4_1)] rfl lm_ ?_; (with_reducible refine (dioramaref01_Int.calls k1 (rd l0 x4_1) t504 _ A6.out).mono ?_); rintro e w8 ⟨v505, rfl, ho0, hb⟩; refine ⟨_, rfl, ?_⟩; have HO506 := A_ (Kd.R_lower (Kd.R_new' ho0 (Kd.R_lt (rx_ HO_3))) (below_size (bx_ HB))); replace HO_3 := A_ (Kd.R_elder' (rx_ HO_3) (Kd.R_base ho0) hb); replace HB := A_ (below_step (bx_ HB) hb); (try clear hb); (try clear hb2); (try clear hk); (try clear hi); (try clear ho0); obtain ⟨Ao10, co10, eo10⟩ := Kd.R_slice HO506.out; subst eo10) | ((with_reducible refine gate_builtin (b := .append) (xs := #[.tmp 14, .tmp 19]) rfl ?_); at_builtin; refine Kd.R_append_rows (Kd.int .u8) (w0 := w) w.heap.size rfl (.tmp 14) (.tmp 19) 53 5 (.int .u8 0) 1 rfl Try.underlying53 info5 rfl (by decide) (by omega) u3 x3_1 t504 _ _ _ (fun k_ => some k_ ≠ (.slice Ao10 t504.length co10 : Value).ownBlock) (fun _ => False) rfl rfl ?aO ?aR (fun _ _ h => h) (fun _ h => h.elim) ?aF ?aB ?aS ?aL ?_; (case aR => repeat (first | exact (Kd.R_reads' HO506.out).2.2 | (with_reducible refine Kd.C_alloc ?_ _) | (with_reducible refine Kd.C_drewN ?_ _) | (with_reducible refine Kd.C_drew ?_))); (case aB => exact (bx_ HB)); (case aF => exact (fun k_ hk => Kd.fresh' (Kd.R_lt (rx_ HO506)) k_ hk)); (case aO => exact (by (with_reducible repeat (first | apply Kd.R_alloc | apply Kd.R_drewN | apply Kd.R_drew)); exact Kd.R_mono HO_3.out (fun _ hk => hk.2))); (case aS => exact (below_size (bx_ HB))); (case aL => have := LMc7.out; omega); intro v508 w9 ho hb hg hat; rw [← Ny507.out] at ho; have n0_ := A_ (Kd.R_after (ok := (fun _ => True)) (rx_ HO506) hg hat); have n1_ := A_ (hb); have n2_ := A_ (ho); clear HO506 HB HO_3; have HO506 := n0_; have HB := n1_; have HO509 := n2_; clear n0_ n1_ n2_; clear ho hb hg hat))
      go_roundg k1
      case measure => have := HK1.out; omega
      case rel => exact ⟨(y507), (wrap64 (x4_1 + 1)), rf_, H', ⟨by have := HK1.out; omega⟩, ⟨by (with_reducible repeat (first | apply Kd.R_alloc | apply Kd.R_drewN | apply Kd.R_drew)); exact Kd.R_mono HO509.out (fun _ hk => trivial)⟩, ⟨bx_ HB⟩⟩
     (· rw [if_neg c7] at H; exact absurd H (by simp))
    (· rw [if_neg c5] at H; exact absurd H (by simp))
   (· rw [if_neg c4] at H; have c4b0 := decide_eq_false c4; clear c4; obtain rfl := Option.some.inj H; go_wp2; go_ret; exact ⟨_, ew_, by (with_reducible repeat (first | apply Kd.R_alloc | apply Kd.R_drewN | apply Kd.R_drew)); exact HO_3.out, bx_ HB⟩)
def dioramaref36_Encode.l0 : Nat → List (S76) → List Int → Int → Option (List Int)
 | 0, _, _, _ => none
 | k + 1, x0, x3, x4 => if x4 < (x0.length : Int) then (if 0 ≤ x4 then ((dioramaref01_Ints.f k (([(rd_T76 x0 x4).f0, (rd_T76 x0 x4).f1, (rd_T76 x0 x4).f2, (rd_T76 x0 x4).f3, (rd_T76 x0 x4).f4] : List Int))).bind fun t521 => (if x3.length + t521.length < 140737488355328 then ((some (x3 ++ t521 : List Int)).bind fun y524 => ((dioramaref01_Ints.f k ((rd_T76 x0 x4).f5)).bind fun t528 => (if y524.length + t528.length < 140737488355328 then (dioramaref36_Encode.l0 k x0 (y524 ++ t528) (wrap64 (x4 + 1))) else (none)))) else (none))) else (none)) else (some x3)
def dioramaref36_Encode.f (k : Nat) (l0 : List (S76)) : Option (List Int) := (dioramaref01_Int.f k (l0.length : Int)).bind fun t510 => (dioramaref36_Encode.l0 k l0 t510 0)
def dioramaref36_Encode.T5 : Bool × List (List Nat × List Nat) := (true, [([], []), ([], []), ([], []), ([1, 2], [1, 2]), ([3], [3]), ([4], [4]), ([], []), ([], []), ([6, 7], [6, 7]), ([8], [8]), ([9], [9]), ([], []), ([], []), ([11, 12], [11, 12]), ([13], [13]), ([14], [14]), ([], []), ([], []), ([16, 17], [16, 17]), ([18], [18]), ([19], [19]), ([], []), ([], []), ([21, 22], [21, 22]), ([23], [23]), ([24], [24]), ([5, 10, 15, 20, 25], [5, 10, 15, 20, 25]), ([26], [26]), ([0, 27, 27], [0, 27]), ([28, 28, 0, 1, 2, 3, 4, 5, 6, 7, 8, 9, 10, 11, 12, 13, 14, 15, 16, 17, 18, 19, 20, 21, 22, 23, 24, 25, 26, 27, 28], [0, 28])])
def dioramaref36_Encode.B5 : List Nat := [0, 0, 0, 6, 14, 30, 0, 0, 192, 448, 960, 0, 0, 6144, 14336, 30720, 0, 0, 196608, 458752, 983040, 0, 0, 6291456, 14680064, 31457280, 67108862, 134217726, 268435455, 536870911]
theorem dioramaref36_Encode.tab5 : rtab .any (opsOf Try.f28 5) = dioramaref36_Encode.T5 := by kernel_rfl
theorem dioramaref36_Encode.bits5 : waitsOk dioramaref36_Encode.T5.2 dioramaref36_Encode.B5 = true := by kernel_rfl
set_option maxHeartbeats 8000000 in
set_option maxRecDepth 100000 in
theorem dioramaref36_Encode.calls (k : Nat) (A0 : Option Addr) (c0 : Nat) (l0 : List (S76)) (r : List Int) (w : World) (hr0 : Kd.C k76 w A0 l0.length l0) (hc0 : l0.length ≤ c0) (h : dioramaref36_Encode.f k l0 = some r) :
  Calls Try.prog 28 #[.slice A0 l0.length c0] w fun e w' => ∃ v0_ : Value, e = .returned (v0_) ∧ Kd.R (Kd.int .u8) 5 w' w.heap.size (fun _ => True) v0_ r ∧ Below w.heap.size w w' := by
 have HR0 := A_ hr0; have HC0 := A_ hc0; clear hr0 hc0; have HB := A_ (Below.refl w.heap.size w); have H : ((dioramaref01_Int.f k (l0.length : Int)).bind fun t510 => (dioramaref36_Encode.l0 k l0 t510 0)) = some r := h; clear h; replace H := Option.bind_eq_some_iff.mp H; obtain ⟨t510, A20, H⟩ := H
 (try dsimp only at H)
 have A2 := A_ A20; clear A20; have H' := A_ H; clear H
 go_enter Try.func28, Try.ntmps28
 go_wp2_with (first | ((with_reducible refine gate_callee (f := 50) rfl ?_); refine goesL_ (some 7) rfl rfl Try.func50 (by kernel_rfl) rfl #[.int .i64 (l0.length : Int)] rfl lm_ ?_; (with_reducible refine (dioramaref01_Int.calls k (l0.length : Int) t510 _ A2.out).mono ?_); rintro e w3 ⟨v511, rfl, ho0, hb⟩; refine ⟨_, rfl, ?_⟩; have HO512 := A_ (Kd.R_lower ho0 (below_size (bx_ HB))); replace HB := A_ (below_step (bx_ HB) hb); (try clear hb); (try clear hb2); (try clear hk); (try clear hi); (try clear ho0)))
 go_loopg [3, 4] k (fun kq v3 v4 w' => ∃ (x3_1 : List Int) (x4_1 : Int), v4 = .int .i64 x4_1 ∧ Aside0 (dioramaref36_Encode.l0 kq l0 x3_1 x4_1 = some r) ∧ Aside0 (kq ≤ k) ∧ Aside0 (Kd.R (Kd.int .u8) 5 w' w.heap.size (fun _ => True) v3 x3_1) ∧ Aside0 (Below w.heap.size w w'))
 case atStart => exact ⟨(t510), (0), rf_, H', ⟨Nat.le_refl _⟩, ⟨by (with_reducible repeat (first | apply Kd.R_alloc | apply Kd.R_drewN | apply Kd.R_drew)); exact HO512.out⟩, ⟨bx_ HB⟩⟩
 case round =>
  clear H'; obtain ⟨x3_1, x4_1, rfl, HA, HK1, HO_3, HB⟩ := hrel
  cases gk with
  | zero => exact absurd HA.out (by simp [dioramaref36_Encode.l0])
  | succ k1 =>
   have H := HA.out; clear HA; simp only [dioramaref36_Encode.l0] at H
   by_cases c4 : x4_1 < (l0.length : Int)
   ·rw [if_pos c4] at H
    have c4b0 := decide_eq_true c4; clear c4
    by_cases c5 : 0 ≤ x4_1
    ·rw [if_pos c5] at H
     have c5b0 := decide_eq_true c5; clear c5; obtain ⟨y518, hy518⟩ : ∃ y_ : List Int, y_ = (([(rd_T76 l0 x4_1).f0, (rd_T76 l0 x4_1).f1, (rd_T76 l0 x4_1).f2, (rd_T76 l0 x4_1).f3, (rd_T76 l0 x4_1).f4] : List Int)) := ⟨_, rfl⟩; replace H : ((dioramaref01_Ints.f k1 y518).bind fun t521 => (if x3_1.length + t521.length < 140737488355328 then ((some (x3_1 ++ t521 : List Int)).bind fun y524 => ((dioramaref01_Ints.f k1 ((rd_T76 l0 x4_1).f5)).bind fun t528 => (if y524.length + t528.length < 140737488355328 then (dioramaref36_Encode.l0 k1 l0 (y524 ++ t528) (wrap64 (x4_1 + 1))) else (none)))) else (none))) = some r := rh_ hy518 H; have Ny518 := A_ hy518; clear hy518; replace H := Option.bind_eq_some_iff.mp H; obtain ⟨t521, A60, H⟩ := H
     (try dsimp only at H)
     have A6 := A_ A60; clear A60
     by_cases c7 : x3_1.length + t521.length < 140737488355328
     ·rw [if_pos c7] at H
      have LMc7 := A_ c7; clear c7; obtain ⟨y524, hy524⟩ : ∃ y_ : List Int, y_ = (x3_1 ++ t521) := ⟨_, rfl⟩; replace H : ((dioramaref01_Ints.f k1 ((rd_T76 l0 x4_1).f5)).bind fun t528 => (if y524.length + t528.length < 140737488355328 then (dioramaref36_Encode.l0 k1 l0 (y524 ++ t528) (wrap64 (x4_1 + 1))) else (none))) = some r := rh_ hy524 H; have Ny524 := A_ hy524; clear hy524; replace H := Option.bind_eq_some_iff.mp H; obtain ⟨t528, A80, H⟩ := H
      (try dsimp only at H)
      have A8 := A_ A80; clear A80
      by_cases c9 : y524.length + t528.length < 140737488355328
      ·rw [if_pos c9] at H
       have LMc9 := A_ c9; clear c9; obtain ⟨y531, hy531⟩ : ∃ y_ : List Int, y_ = (y524 ++ t528) := ⟨_, rfl⟩; replace H : (dioramaref36_Encode.l0 k1 l0 y531 (wrap64 (x4_1 + 1))) = some r := rh_ hy531 H; have Ny531 := A_ hy531; clear hy531; have H' := A_ H; clear H
       try go_wp2
       replace HO_3 := A_ (Kd.R_drew HO_3.out); replace HB := A_ (below_drew1 HB.out); have p513 : 0 ≤ (x4_1 : Int) := od_; have q513 : x4_1 < (l0.length : Int) := od_; obtain ⟨ad513, A513_5, c513_5, e513, hx513_0, hx513_1, hx513_2, hx513_3, hx513_4, hx513_5, hl513_5, hi513_5⟩ := at_T76 HR0.out x4_1 p513 q513; have hw513_5 := hx513_5; have hw513_4 := hx513_4; have hw513_3 := hx513_3; have hw513_2 := hx513_2; have hw513_1 := hx513_1; have hw513_0 := hx513_0
       cases e513
       replace hx513_0 := hc_ HB hx513_0; replace hx513_1 := hc_ HB hx513_1; replace hx513_2 := hc_ HB hx513_2; replace hx513_3 := hc_ HB hx513_3; replace hx513_4 := hc_ HB hx513_4; replace hx513_5 := hc_ HB hx513_5; have HR513_5 := A_ hi513_5; have HC513_5 := A_ hl513_5; clear hi513_5 hl513_5; replace p513 := eq_true p513; replace q513 := eq_true q513; have p514 : 0 ≤ (x4_1 : Int) := od_; have q514 : x4_1 < (l0.length : Int) := od_; obtain ⟨ad514, A514_5, c514_5, e514, hx514_0, hx514_1, hx514_2, hx514_3, hx514_4, hx514_5, hl514_5, hi514_5⟩ := at_T76 HR0.out x4_1 p514 q514; have hw514_5 := hx514_5; have hw514_4 := hx514_4; have hw514_3 := hx514_3; have hw514_2 := hx514_2; have hw514_1 := hx514_1; have hw514_0 := hx514_0; obtain rfl : ad513 = ad514 := (by injection e514); replace hx514_0 := hc_ HB hx514_0; replace hx514_1 := hc_ HB hx514_1; replace hx514_2 := hc_ HB hx514_2; replace hx514_3 := hc_ HB hx514_3; replace hx514_4 := hc_ HB hx514_4; replace hx514_5 := hc_ HB hx514_5; have HR514_5 := A_ hi514_5; have HC514_5 := A_ hl514_5; clear hi514_5 hl514_5; replace p514 := eq_true p514; replace q514 := eq_true q514; have ea_ := Option.some.inj (hx513_5.symm.trans hx514_5)
       injection ea_ with ea_ en_ ec_
       subst ea_; subst ec_; clear en_; have p515 : 0 ≤ (x4_1 : Int) := od_; have q515 : x4_1 < (l0.length : Int) := od_; obtain ⟨ad515, A515_5, c515_5, e515, hx515_0, hx515_1, hx515_2, hx515_3, hx515_4, hx515_5, hl515_5, hi515_5⟩ := at_T76 HR0.out x4_1 p515 q515; have hw515_5 := hx515_5; have hw515_4 := hx515_4; have hw515_3 := hx515_3; have hw515_2 := hx515_2; have hw515_1 := hx515_1; have hw515_0 := hx515_0; obtain rfl : ad513 = ad515 := (by injection e515); replace hx515_0 := hc_ HB hx515_0; replace hx515_1 := hc_ HB hx515_1; replace hx515_2 := hc_ HB hx515_2; replace hx515_3 := hc_ HB hx515_3; replace hx515_4 := hc_ HB hx515_4; replace hx515_5 := hc_ HB hx515_5; have HR515_5 := A_ hi515_5; have HC515_5 := A_ hl515_5; clear hi515_5 hl515_5; replace p515 := eq_true p515; replace q515 := eq_true q515; have ea_ := Option.some.inj (hx513_5.symm.trans hx515_5)
       injection ea_ with ea_ en_ ec_
       subst ea_; subst ec_; clear en_; have p516 : 0 ≤ (x4_1 : Int) := od_; have q516 : x4_1 < (l0.length : Int) := od_; obtain ⟨ad516, A516_5, c516_5, e516, hx516_0, hx516_1, hx516_2, hx516_3, hx516_4, hx516_5, hl516_5, hi516_5⟩ := at_T76 HR0.out x4_1 p516 q516; have hw516_5 := hx516_5; have hw516_4 := hx516_4; have hw516_3 := hx516_3; have hw516_2 := hx516_2; have hw516_1 := hx516_1; have hw516_0 := hx516_0; obtain rfl : ad513 = ad516 := (by injection e516); replace hx516_0 := hc_ HB hx516_0; replace hx516_1 := hc_ HB hx516_1; replace hx516_2 := hc_ HB hx516_2; replace hx516_3 := hc_ HB hx516_3; replace hx516_4 := hc_ HB hx516_4; replace hx516_5 := hc_ HB hx516_5; have HR516_5 := A_ hi516_5; have HC516_5 := A_ hl516_5; clear hi516_5 hl516_5; replace p516 := eq_true p516; replace q516 := eq_true q516; have ea_ := Option.some.inj (hx513_5.symm.trans hx516_5)
       injection ea_ with ea_ en_ ec_
       subst ea_; subst ec_; clear en_; have p517 : 0 ≤ (x4_1 : Int) := od_; have q517 : x4_1 < (l0.length : Int) := od_; obtain ⟨ad517, A517_5, c517_5, e517, hx517_0, hx517_1, hx517_2, hx517_3, hx517_4, hx517_5, hl517_5, hi517_5⟩ := at_T76 HR0.out x4_1 p517 q517; have hw517_5 := hx517_5; have hw517_4 := hx517_4; have hw517_3 := hx517_3; have hw517_2 := hx517_2; have hw517_1 := hx517_1; have hw517_0 := hx517_0; obtain rfl : ad513 = ad517 := (by injection e517); replace hx517_0 := hc_ HB hx517_0; replace hx517_1 := hc_ HB hx517_1; replace hx517_2 := hc_ HB hx517_2; replace hx517_3 := hc_ HB hx517_3; replace hx517_4 := hc_ HB hx517_4; replace hx517_5 := hc_ HB hx517_5; have HR517_5 := A_ hi517_5; have HC517_5 := A_ hl517_5; clear hi517_5 hl517_5; replace p517 := eq_true p517; replace q517 := eq_true q517; have ea_ := Option.some.inj (hx513_5.symm.trans hx517_5)
       injection ea_ with ea_ en_ ec_
       subst ea_; subst ec_; clear en_; refine start_ (n := 30) (S := fun w' => w'.cell? (ad513.add ((x4_1).toNat * 6)) = some (.int .i64 ((rd_T76 l0 x4_1).f0)) ∧ w'.cell? ⟨(ad513.add ((x4_1).toNat * 6)).block, (ad513.add ((x4_1).toNat * 6)).off + 1, none⟩ = some (.int .i64 ((rd_T76 l0 x4_1).f1)) ∧ w'.cell? ⟨(ad513.add ((x4_1).toNat * 6)).block, (ad513.add ((x4_1).toNat * 6)).off + 2, none⟩ = some (.int .i64 ((rd_T76 l0 x4_1).f2)) ∧ w'.cell? ⟨(ad513.add ((x4_1).toNat * 6)).block, (ad513.add ((x4_1).toNat * 6)).off + 3, none⟩ = some (.int .i64 ((rd_T76 l0 x4_1).f3)) ∧ w'.cell? ⟨(ad513.add ((x4_1).toNat * 6)).block, (ad513.add ((x4_1).toNat * 6)).off + 4, none⟩ = some (.int .i64 ((rd_T76 l0 x4_1).f4)) ∧ w'.cell? ⟨(ad513.add ((x4_1).toNat * 6)).block, (ad513.add ((x4_1).toNat * 6)).off + 5, none⟩ = some (.slice A513_5 ((rd_T76 l0 x4_1).f5).length c513_5) ∧ w'.cell? (ad513.add ((x4_1).toNat * 6)) = some (.int .i64 ((rd_T76 l0 x4_1).f0)) ∧ w'.cell? ⟨(ad513.add ((x4_1).toNat * 6)).block, (ad513.add ((x4_1).toNat * 6)).off + 1, none⟩ = some (.int .i64 ((rd_T76 l0 x4_1).f1)) ∧ w'.cell? ⟨(ad513.add ((x4_1).toNat * 6)).block, (ad513.add ((x4_1).toNat * 6)).off + 2, none⟩ = some (.int .i64 ((rd_T76 l0 x4_1).f2)) ∧ w'.cell? ⟨(ad513.add ((x4_1).toNat * 6)).block, (ad513.add ((x4_1).toNat * 6)).off + 3, none⟩ = some (.int .i64 ((rd_T76 l0 x4_1).f3)) ∧ w'.cell? ⟨(ad513.add ((x4_1).toNat * 6)).block, (ad513.add ((x4_1).toNat * 6)).off + 4, none⟩ = some (.int .i64 ((rd_T76 l0 x4_1).f4)) ∧ w'.cell? ⟨(ad513.add ((x4_1).toNat * 6)).block, (ad513.add ((x4_1).toNat * 6)).off + 5, none⟩ = some (.slice A513_5 ((rd_T76 l0 x4_1).f5).length c513_5) ∧ w'.cell? (ad513.add ((x4_1).toNat * 6)) = some (.int .i64 ((rd_T76 l0 x4_1).f0)) ∧ w'.cell? ⟨(ad513.add ((x4_1).toNat * 6)).block, (ad513.add ((x4_1).toNat * 6)).off + 1, none⟩ = some (.int .i64 ((rd_T76 l0 x4_1).f1)) ∧ w'.cell? ⟨(ad513.add ((x4_1).toNat * 6)).block, (ad513.add ((x4_1).toNat * 6)).off + 2, none⟩ = some (.int .i64 ((rd_T76 l0 x4_1).f2)) ∧ w'.cell? ⟨(ad513.add ((x4_1).toNat * 6)).block, (ad513.add ((x4_1).toNat * 6)).off + 3, none⟩ = some (.int .i64 ((rd_T76 l0 x4_1).f3)) ∧ w'.cell? ⟨(ad513.add ((x4_1).toNat * 6)).block, (ad513.add ((x4_1).toNat * 6)).off + 4, none⟩ = some (.int .i64 ((rd_T76 l0 x4_1).f4)) ∧ w'.cell? ⟨(ad513.add ((x4_1).toNat * 6)).block, (ad513.add ((x4_1).toNat * 6)).off + 5, none⟩ = some (.slice A513_5 ((rd_T76 l0 x4_1).f5).length c513_5) ∧ w'.cell? (ad513.add ((x4_1).toNat * 6)) = some (.int .i64 ((rd_T76 l0 x4_1).f0)) ∧ w'.cell? ⟨(ad513.add ((x4_1).toNat * 6)).block, (ad513.add ((x4_1).toNat * 6)).off + 1, none⟩ = some (.int .i64 ((rd_T76 l0 x4_1).f1)) ∧ w'.cell? ⟨(ad513.add ((x4_1).toNat * 6)).block, (ad513.add ((x4_1).toNat * 6)).off + 2, none⟩ = some (.int .i64 ((rd_T76 l0 x4_1).f2)) ∧ w'.cell? ⟨(ad513.add ((x4_1).toNat * 6)).block, (ad513.add ((x4_1).toNat * 6)).off + 3, none⟩ = some (.int .i64 ((rd_T76 l0 x4_1).f3)) ∧ w'.cell? ⟨(ad513.add ((x4_1).toNat * 6)).block, (ad513.add ((x4_1).toNat * 6)).off + 4, none⟩ = some (.int .i64 ((rd_T76 l0 x4_1).f4)) ∧ w'.cell? ⟨(ad513.add ((x4_1).toNat * 6)).block, (ad513.add ((x4_1).toNat * 6)).off + 5, none⟩ = some (.slice A513_5 ((rd_T76 l0 x4_1).f5).length c513_5) ∧ w'.cell? (ad513.add ((x4_1).toNat * 6)) = some (.int .i64 ((rd_T76 l0 x4_1).f0)) ∧ w'.cell? ⟨(ad513.add ((x4_1).toNat * 6)).block, (ad513.add ((x4_1).toNat * 6)).off + 1, none⟩ = some (.int .i64 ((rd_T76 l0 x4_1).f1)) ∧ w'.cell? ⟨(ad513.add ((x4_1).toNat * 6)).block, (ad513.add ((x4_1).toNat * 6)).off + 2, none⟩ = some (.int .i64 ((rd_T76 l0 x4_1).f2)) ∧ w'.cell? ⟨(ad513.add ((x4_1).toNat * 6)).block, (ad513.add ((x4_1).toNat * 6)).off + 3, none⟩ = some (.int .i64 ((rd_T76 l0 x4_1).f3)) ∧ w'.cell? ⟨(ad513.add ((x4_1).toNat * 6)).block, (ad513.add ((x4_1).toNat * 6)).off + 4, none⟩ = some (.int .i64 ((rd_T76 l0 x4_1).f4)) ∧ w'.cell? ⟨(ad513.add ((x4_1).toNat * 6)).block, (ad513.add ((x4_1).toNat * 6)).off + 5, none⟩ = some (.slice A513_5 ((rd_T76 l0 x4_1).f5).length c513_5)) (ds := []) (B_ 30 0) (by kernel_rfl) rfl rfl ⟨(hc_ HB hw513_0), (hc_ HB hw513_1), (hc_ HB hw513_2), (hc_ HB hw513_3), (hc_ HB hw513_4), (hc_ HB hw513_5), (hc_ HB hw514_0), (hc_ HB hw514_1), (hc_ HB hw514_2), (hc_ HB hw514_3), (hc_ HB hw514_4), (hc_ HB hw514_5), (hc_ HB hw515_0), (hc_ HB hw515_1), (hc_ HB hw515_2), (hc_ HB hw515_3), (hc_ HB hw515_4), (hc_ HB hw515_5), (hc_ HB hw516_0), (hc_ HB hw516_1), (hc_ HB hw516_2), (hc_ HB hw516_3), (hc_ HB hw516_4), (hc_ HB hw516_5), (hc_ HB hw517_0), (hc_ HB hw517_1), (hc_ HB hw517_2), (hc_ HB hw517_3), (hc_ HB hw517_4), (hc_ HB hw517_5)⟩ (fun hHeld => ?_); refine with_tabW dioramaref36_Encode.tab5 dioramaref36_Encode.bits5 (fun HT_ HW_ => ?_)
       generalize wr.drew = w10 at HO_3 HB HR513_5 HR514_5 HR515_5 HR516_5 HR517_5 hx513_0 hx513_1 hx513_2 hx513_3 hx513_4 hx513_5 hx514_0 hx514_1 hx514_2 hx514_3 hx514_4 hx514_5 hx515_0 hx515_1 hx515_2 hx515_3 hx515_4 hx515_5 hx516_0 hx516_1 hx516_2 hx516_3 hx516_4 hx516_5 hx517_0 hx517_1 hx517_2 hx517_3 hx517_4 hx517_5 hHeld ⊢; refine pT_ 0 14 (B_ 30 1) HT_ ?_; refine pT_ 1 15 (B_ 30 3) HT_ ?_; refine pT_ 2 16 (B_ 30 7) HT_ ?_; refine pT_ 3 17 (B_ 30 15) HT_ ?_; refine pT_ 4 18 (B_ 30 31) HT_ ?_; refine pT_ 6 20 (B_ 30 95) HT_ ?_; refine pT_ 7 21 (B_ 30 223) HT_ ?_; refine pT_ 8 22 (B_ 30 479) HT_ ?_; refine pT_ 9 23 (B_ 30 991) HT_ ?_; refine pT_ 11 25 (B_ 30 3039) HT_ ?_; refine pT_ 12 26 (B_ 30 7135) HT_ ?_; refine pT_ 13 27 (B_ 30 15327) HT_ ?_; refine pT_ 14 28 (B_ 30 31711) HT_ ?_; refine pT_ 16 30 (B_ 30 97247) HT_ ?_; refine pT_ 17 31 (B_ 30 228319) HT_ ?_; refine pT_ 18 32 (B_ 30 490463) HT_ ?_; refine pT_ 19 33 (B_ 30 1014751) HT_ ?_; refine pT_ 21 35 (B_ 30 3111903) HT_ ?_; refine pT_ 22 36 (B_ 30 7306207) HT_ ?_; refine pT_ 23 37 (B_ 30 15694815) HT_ ?_; refine pT_ 24 38 (B_ 30 32472031) HT_ ?_; refine tT_ 5 19 (B_ 30 32472063) HT_ HW_ hHeld ?_; refine tT_ 10 24 (B_ 30 32473087) HT_ HW_ hHeld ?_; refine tT_ 15 29 (B_ 30 32505855) HT_ HW_ hHeld ?_; refine tT_ 20 34 (B_ 30 33554431) HT_ HW_ hHeld ?_; refine tT_ 25 39 (B_ 30 67108863) HT_ HW_ hHeld ?_; refine one_ (i := 26) (N := some 40) (B_ 30 134217727) rfl rfl (one_of HT_.out (by kernel_rfl)) (by decide) (fun K hK => ?_); refine Kd.R_lit_step (Kd.int .i64) _ 3 ?hg (N := 40) ?hd (xs := ([(rd_T76 l0 x4_1).f0, (rd_T76 l0 x4_1).f1, (rd_T76 l0 x4_1).f2, (rd_T76 l0 x4_1).f3, (rd_T76 l0 x4_1).f4] : List Int)) (inner := [.int .i64 ((rd_T76 l0 x4_1).f0), .int .i64 ((rd_T76 l0 x4_1).f1), .int .i64 ((rd_T76 l0 x4_1).f2), .int .i64 ((rd_T76 l0 x4_1).f3), .int .i64 ((rd_T76 l0 x4_1).f4)]) (ok := fun _ => True) (okp := fun _ => True) ?hr ?hp (fun _ hk => hk) trivial (Below.refl _ _) (Nat.le_refl _) (by simp) ?_; (case hd => rfl); (case hg => rfl); (case hr => first | (go_simp; done) | (go_simp; rfl)); (case hp => exact (Reps.one (show Kd.M (Kd.int .i64) _ _ _ ((rd_T76 l0 x4_1).f0) [.int .i64 ((rd_T76 l0 x4_1).f0)] from rfl) (Reps.one (show Kd.M (Kd.int .i64) _ _ _ ((rd_T76 l0 x4_1).f1) [.int .i64 ((rd_T76 l0 x4_1).f1)] from rfl) (Reps.one (show Kd.M (Kd.int .i64) _ _ _ ((rd_T76 l0 x4_1).f2) [.int .i64 ((rd_T76 l0 x4_1).f2)] from rfl) (Reps.one (show Kd.M (Kd.int .i64) _ _ _ ((rd_T76 l0 x4_1).f3) [.int .i64 ((rd_T76 l0 x4_1).f3)] from rfl) (Reps.one (show Kd.M (Kd.int .i64) _ _ _ ((rd_T76 l0 x4_1).f4) [.int .i64 ((rd_T76 l0 x4_1).f4)] from rfl) (Reps.none _ _))))))); intro v519 w11 ho12 hb hg_ hnew_; clear hg_ hnew_
       (first | rw [← Ny518.out] at ho12 | (simp only [Int.reduceToNat] at ho12; rw [← Ny518.out] at ho12))
       have n0_ := A_ (Kd.R_below (rx_ HO_3) hb); have n1_ := A_ (Kd.R_lower ho12 (below_size (bx_ HB))); have n2_ := A_ (below_step (bx_ HB) hb); clear HO_3 HB; have HO_3 := n0_; have HO520 := n1_; have HB := n2_; clear n0_ n1_ n2_ hb ho12; obtain ⟨Ao13, co13, eo13⟩ := Kd.R_slice HO520.out
       (first | subst eo13 | (injection eo13 with f1_ f2_ f3_; have f4_ := f1_.symm; have f5_ := f3_.symm; clear f1_ f2_ f3_; subst f4_; subst f5_))
       refine hK.out _ _ ⟨(hc_ HB hw513_0), (hc_ HB hw513_1), (hc_ HB hw513_2), (hc_ HB hw513_3), (hc_ HB hw513_4), (hc_ HB hw513_5), (hc_ HB hw514_0), (hc_ HB hw514_1), (hc_ HB hw514_2), (hc_ HB hw514_3), (hc_ HB hw514_4), (hc_ HB hw514_5), (hc_ HB hw515_0), (hc_ HB hw515_1), (hc_ HB hw515_2), (hc_ HB hw515_3), (hc_ HB hw515_4), (hc_ HB hw515_5), (hc_ HB hw516_0), (hc_ HB hw516_1), (hc_ HB hw516_2), (hc_ HB hw516_3), (hc_ HB hw516_4), (hc_ HB hw516_5), (hc_ HB hw517_0), (hc_ HB hw517_1), (hc_ HB hw517_2), (hc_ HB hw517_3), (hc_ HB hw517_4), (hc_ HB hw517_5)⟩ (fun hHeld => ?_); clear hK K; refine norm_ (a' := ?_) ?_ ?_; rotate_left
       ·show Act.put _ (some 40) _ = _
        simp only [Act.put, sA_, sB_, sC_, i64_w, i32_w]; rfl
       refine one_ (i := 27) (N := some 41) (B_ 30 268435455) rfl rfl (one_of HT_.out (by kernel_rfl)) (by decide) (fun K hK => ?_); refine goes_ Try.func51 (by kernel_rfl) rfl #[.slice Ao13 y518.length co13] (by rfl) rfl rfl lm_ ?_
       with_reducible refine (dioramaref01_Ints.calls k1 _ _ y518 t521 _ ?side1 ?side2 A6.out).mono ?_
       (case side1 => repeat (first | exact (Kd.R_reads' HO520.out).2.2 | (with_reducible refine Kd.C_alloc ?_ _) | (with_reducible refine Kd.C_drewN ?_ _) | (with_reducible refine Kd.C_drew ?_)))
       (case side2 => exact (Kd.R_reads' HO520.out).2.1)
       rintro e w14 ⟨v522, rfl, ho0, hb⟩; refine ⟨_, rfl, ?_⟩; replace HO520 := A_ (Kd.R_below (rx_ HO520) hb); have HO523 := A_ (Kd.R_lower (Kd.R_new' ho0 (Kd.R_lt (rx_ HO_3))) (below_size (bx_ HB))); replace HO_3 := A_ (Kd.R_elder' (rx_ HO_3) (Kd.R_base ho0) hb); replace HB := A_ (below_step (bx_ HB) hb)
       (try clear hb)
       (try clear hb2)
       (try clear hk)
       (try clear hi)
       (try clear ho0)
       obtain ⟨Ao16, co16, eo16⟩ := Kd.R_slice HO523.out
       (first | subst eo16 | (injection eo16 with f1_ f2_ f3_; have f4_ := f1_.symm; have f5_ := f3_.symm; clear f1_ f2_ f3_; subst f4_; subst f5_))
       refine hK.out _ _ ⟨(hc_ HB hw513_0), (hc_ HB hw513_1), (hc_ HB hw513_2), (hc_ HB hw513_3), (hc_ HB hw513_4), (hc_ HB hw513_5), (hc_ HB hw514_0), (hc_ HB hw514_1), (hc_ HB hw514_2), (hc_ HB hw514_3), (hc_ HB hw514_4), (hc_ HB hw514_5), (hc_ HB hw515_0), (hc_ HB hw515_1), (hc_ HB hw515_2), (hc_ HB hw515_3), (hc_ HB hw515_4), (hc_ HB hw515_5), (hc_ HB hw516_0), (hc_ HB hw516_1), (hc_ HB hw516_2), (hc_ HB hw516_3), (hc_ HB hw516_4), (hc_ HB hw516_5), (hc_ HB hw517_0), (hc_ HB hw517_1), (hc_ HB hw517_2), (hc_ HB hw517_3), (hc_ HB hw517_4), (hc_ HB hw517_5)⟩ (fun hHeld => ?_); clear hK K; refine norm_ (a' := ?_) ?_ ?_; rotate_left
       ·show Act.put _ (some 41) _ = _
        simp only [Act.put, sA_, sB_, sC_, i64_w, i32_w]; rfl
       refine one_ (i := 28) (N := some 42) (B_ 30 536870911) rfl rfl (one_of HT_.out (by kernel_rfl)) (by decide) (fun K hK => ?_); refine Kd.R_append_rows_step (Kd.int .u8) (w0 := w) w.heap.size (by rfl) (.tmp 14) (.tmp 41) 53 5 (.int .u8 0) 1 rfl Try.underlying53 info5 rfl (by decide) (by omega) u3 x3_1 t521 _ _ _ (fun k_ => some k_ ≠ (.slice Ao16 t521.length co16 : Value).ownBlock) (fun _ => False) rfl rfl ?aO ?aR (fun _ _ h => h) (fun _ h => h.elim) ?aF ?aB ?aS ?aL ?_
       (case aR => repeat (first | exact (Kd.R_reads' HO523.out).2.2 | (with_reducible refine Kd.C_alloc ?_ _) | (with_reducible refine Kd.C_drewN ?_ _) | (with_reducible refine Kd.C_drew ?_)))
       (case aB => exact (bx_ HB))
       (case aF => exact (fun k_ hk => Kd.fresh' (Kd.R_lt (rx_ HO523)) k_ hk))
       (case aO => exact (by (with_reducible repeat (first | apply Kd.R_alloc | apply Kd.R_drewN | apply Kd.R_drew)); exact Kd.R_mono HO_3.out (fun _ hk => hk.2)))
       (case aS => exact (below_size (bx_ HB)))
       (case aL => have := LMc7.out; omega)
       intro v525 w15 ho hb hg hat; rw [← Ny524.out] at ho; have n0_ := A_ (Kd.R_over' (rx_ HO520) (Kd.R_typed (rx_ HO_3)) (by decide) hg); have n1_ := A_ (Kd.R_after (ok := (fun _ => True)) (rx_ HO523) hg hat); have n2_ := A_ (hb); have n3_ := A_ (ho); clear HO520 HO523 HB HO_3; have HO520 := n0_; have HO523 := n1_; have HB := n2_; have HO526 := n3_; clear n0_ n1_ n2_ n3_ ho hb hg hat; refine hK.out _ _ ⟨(hc_ HB hw513_0), (hc_ HB hw513_1), (hc_ HB hw513_2), (hc_ HB hw513_3), (hc_ HB hw513_4), (hc_ HB hw513_5), (hc_ HB hw514_0), (hc_ HB hw514_1), (hc_ HB hw514_2), (hc_ HB hw514_3), (hc_ HB hw514_4), (hc_ HB hw514_5), (hc_ HB hw515_0), (hc_ HB hw515_1), (hc_ HB hw515_2), (hc_ HB hw515_3), (hc_ HB hw515_4), (hc_ HB hw515_5), (hc_ HB hw516_0), (hc_ HB hw516_1), (hc_ HB hw516_2), (hc_ HB hw516_3), (hc_ HB hw516_4), (hc_ HB hw516_5), (hc_ HB hw517_0), (hc_ HB hw517_1), (hc_ HB hw517_2), (hc_ HB hw517_3), (hc_ HB hw517_4), (hc_ HB hw517_5)⟩ (fun hHeld => ?_); clear hK K; refine norm_ (a' := ?_) ?_ ?_; rotate_left
       ·show Act.put _ (some 42) _ = _
        simp only [Act.put, sA_, sB_, sC_, i64_w, i32_w]; rfl
       refine pT_ 29 3 (B_ 30 1073741823) HT_ ?_; refine done_ (done_of HT_.out (by kernel_rfl)) ?_; have p527 : 0 ≤ (x4_1 : Int) := od_; have q527 : x4_1 < (l0.length : Int) := od_; obtain ⟨ad527, A527_5, c527_5, e527, hx527_0, hx527_1, hx527_2, hx527_3, hx527_4, hx527_5, hl527_5, hi527_5⟩ := at_T76 HR0.out x4_1 p527 q527; obtain rfl : ad513 = ad527 := (by injection e527); have ea_ := Option.some.inj (hw513_5.symm.trans hx527_5)
       injection ea_ with ea_ _ eb_
       subst ea_; subst eb_; replace hx527_0 := hc_ HB hx527_0; replace hx527_1 := hc_ HB hx527_1; replace hx527_2 := hc_ HB hx527_2; replace hx527_3 := hc_ HB hx527_3; replace hx527_4 := hc_ HB hx527_4; replace hx527_5 := hc_ HB hx527_5; have HR527_5 := A_ hi527_5; have HC527_5 := A_ hl527_5; clear hi527_5 hl527_5; replace p527 := eq_true p527; replace q527 := eq_true q527
       try go_wp2_with (first | ((with_reducible refine gate_callee (f := 51) rfl ?_); refine goesL_ (some 49) rfl rfl Try.func51 (by kernel_rfl) rfl #[.slice A513_5 ((rd_T76 l0 x4_1).f5).length c513_5] rfl lm_ ?_; (with_reducible refine (dioramaref01_Ints.calls k1 _ _ ((rd_T76 l0 x4_1).f5) t528 _ ?side1 ?side2 A8.out).mono ?_); (case side1 => repeat (first | exact (Kd.C_below HR527_5.out HB.out) | (with_reducible refine Kd.C_alloc ?_ _) | (with_reducible refine Kd.C_drewN ?_ _) | (with_reducible refine Kd.C_drew ?_))); (case side2 => exact HC527_5.out); rintro e w17 ⟨v529, rfl, ho0, hb⟩; refine ⟨_, rfl, ?_⟩; replace HO520 := A_ (Kd.R_below (rx_ HO520) hb); have HO530 := A_ (Kd.R_lower (Kd.R_new' (Kd.R_new' ho0 (Kd.R_lt (rx_ HO523))) (Kd.R_lt (rx_ HO526))) (below_size (bx_ HB))); replace HO523 := A_ (Kd.R_elder' (rx_ HO523) (Kd.R_base ho0) hb); replace HO526 := A_ (Kd.R_elder' (rx_ HO526) (Kd.R_base ho0) hb); replace HB := A_ (below_step (bx_ HB) hb); (try clear hb); (try clear hb2); (try clear hk); (try clear hi); (try clear ho0); obtain ⟨Ao19, co19, eo19⟩ := Kd.R_slice HO530.out; subst eo19) | ((with_reducible refine gate_builtin (b := .append) (xs := #[.tmp 43, .tmp 49]) rfl ?_); at_builtin; refine Kd.R_append_rows (Kd.int .u8) (w0 := w) w.heap.size rfl (.tmp 43) (.tmp 49) 53 5 (.int .u8 0) 1 rfl Try.underlying53 info5 rfl (by decide) (by omega) v525 y524 t528 _ _ _ (fun k_ => some k_ ≠ (.slice Ao16 t521.length co16 : Value).ownBlock ∧ some k_ ≠ (.slice Ao19 t528.length co19 : Value).ownBlock) (fun _ => False) rfl rfl ?aO ?aR (fun _ _ h => h) (fun _ h => h.elim) ?aF ?aB ?aS ?aL ?_; (case aR => repeat (first | exact (Kd.R_reads' HO530.out).2.2 | (with_reducible refine Kd.C_alloc ?_ _) | (with_reducible refine Kd.C_drewN ?_ _) | (with_reducible refine Kd.C_drew ?_))); (case aB => exact (bx_ HB)); (case aF => exact (fun k_ hk => ⟨Kd.fresh' (Kd.R_lt (rx_ HO523)) k_ hk, Kd.fresh' (Kd.R_lt (rx_ HO530)) k_ hk⟩)); (case aO => exact (rx_ HO526)); (case aS => exact (below_size (bx_ HB))); (case aL => have := LMc9.out; omega); intro v532 w18 ho hb hg hat; rw [← Ny531.out] at ho; have n0_ := A_ (Kd.R_over' (rx_ HO520) (Kd.R_typed (rx_ HO526)) (by decide) hg); have n1_ := A_ (Kd.R_after (ok := (fun k_ => some k_ ≠ (.slice Ao19 t528.length co19 : Value).ownBlock)) (by (with_reducible repeat (first | apply Kd.R_alloc | apply Kd.R_drewN | apply Kd.R_drew)); exact Kd.R_mono HO523.out (fun _ hk => ⟨hk.2, hk.1.2⟩)) hg hat); have n2_ := A_ (Kd.R_after (ok := (fun k_ => some k_ ≠ (.slice Ao16 t521.length co16 : Value).ownBlock)) (by (with_reducible repeat (first | apply Kd.R_alloc | apply Kd.R_drewN | apply Kd.R_drew)); exact Kd.R_mono HO530.out (fun _ hk => ⟨hk.1.2, hk.2⟩)) hg hat); have n3_ := A_ (hb); have n4_ := A_ (ho); clear HO520 HO523 HO530 HB HO526; have HO520 := n0_; have HO523 := n1_; have HO530 := n2_; have HB := n3_; have HO533 := n4_; clear n0_ n1_ n2_ n3_ n4_; clear ho hb hg hat))
       go_roundg k1
       case measure => have := HK1.out; omega
       case rel => exact ⟨(y531), (wrap64 (x4_1 + 1)), rf_, H', ⟨by have := HK1.out; omega⟩, ⟨by (with_reducible repeat (first | apply Kd.R_alloc | apply Kd.R_drewN | apply Kd.R_drew)); exact Kd.R_mono HO533.out (fun _ hk => trivial)⟩, ⟨bx_ HB⟩⟩
      (· rw [if_neg c9] at H; exact absurd H (by simp))
     (· rw [if_neg c7] at H; exact absurd H (by simp))
    (· rw [if_neg c5] at H; exact absurd H (by simp))
   (· rw [if_neg c4] at H; have c4b0 := decide_eq_false c4; clear c4; obtain rfl := Option.some.inj H; go_wp2; go_ret; exact ⟨_, ew_, by (with_reducible repeat (first | apply Kd.R_alloc | apply Kd.R_drewN | apply Kd.R_drew)); exact HO_3.out, bx_ HB⟩)
end Go.Proofs.Ytcgpemefmakjiaa.PX
namespace Go.Proofs.Ytcgpemefmakjiaa.PX
open Go.RowKit Go.Proofs.YtcgpemefmakjiaaW.PrintWords Go.Proofs.YtcgpemefmakjiaaW.PrintLast Go.Proofs.YtcgpemefmakjiaaW.PrintMore
set_option maxHeartbeats 4000000 in
set_option maxRecDepth 100000 in
theorem apply_bad (w W : World) (v : Value) (l : Wd) (f0 f1 f2 f3 f4 : Int) (A5 : Option Addr) (c5 : Nat) (f5 : List Int) (hB : Below w.heap.size w W) (hv : WRep W w.heap.size v l) (hr : Kd.C (Kd.int .i64) w A5 f5.length f5) (hc : f5.length ≤ c5)
  (hf : formedB f2 f3 f4 f5 = false) :
  Calls Try.prog 44 #[v, .agg #[.int .i64 f0, .int .i64 f1, .int .i64 f2, .int .i64 f3, .int .i64 f4, .slice A5 f5.length c5]] W fun e W' => e = .returned (.int .i64 2) ∧ WRep W' w.heap.size v l ∧ Below w.heap.size w W' := by
 have hu61 := Try.underlying61; have HB := A_ hB; have HR := A_ hr; have HC := A_ hc; have HV := A_ hv
 obtain ⟨A, c, rfl, hlen, htop⟩ : ∃ A c, v = .slice A l.length c ∧ l.length ≤ 9223372036854775807 ∧ True := by
  obtain ⟨_, _, h⟩ := hv; obtain ⟨A, c, e, hl, _⟩ := h.top; exact ⟨A, c, e, hl, trivial⟩
 clear htop hB hr hc hv; have HF := A_ ((formedB_f f0 f1 f2 f3 f4 f5).trans (congrArg some hf)); clear hf
 go_enter Try.func44, Try.ntmps44
 go_upto_region 1 with (first | ((with_reducible refine gate_dst (N := 3) rfl ?_); (try (refine gate_guard (by rfl) ?_; dsimp only)); refine box_event ?hg (N := 3) ?hd (cs := #[.int .i64 f0, .int .i64 f1, .int .i64 f2, .int .i64 f3, .int .i64 f4, .slice A5 f5.length c5]) (t := 61) ?hr ?_; (case hd => rfl); (case hg => rfl); (case hr => first | (go_simp; done) | (go_simp; rfl)); intro gb hg w1 hbox hb1; have n0_ := A_ (below_step HB.out hb1); have n1_ := A_ (HV.out.below hb1); have n2_ := A_ (show gb < w1.heap.size from (Array.getElem?_eq_some_iff.1 hbox).1);  clear HB HV; have HB := n0_; have HV := n1_; have GL := n2_; clear n0_ n1_ n2_; obtain ⟨hz0, hz1, hz2, hz3, hz4, hz5⟩ := k6_ (A_ hbox); clear hb1 hbox hg))
 go_cut [5] (fun v5 wc => v5 = .bool (decide (0 ≤ f0) && decide (f0 < (l.length : Int))) ∧ w1 = wc)
 case first =>
  by_cases h1 : 0 ≤ f0
  ·have h1b := decide_eq_true h1
   go_wp2
   go_meet
   case rel => exact ⟨by rw [h1b]; rfl, rfl⟩
  ·have h1b := decide_eq_false h1
   go_wp2
   go_meet
   case rel => exact ⟨by rw [h1b]; rfl, rfl⟩
 case rest =>
  obtain ⟨rfl, rfl⟩ := hcut
  go_upto_region 2 with (fail)
  replace HB : Aside0 (Below w.heap.size w w1.drew) := ⟨below_drew HB.out⟩; replace HV : Aside0 (WRep w1.drew w.heap.size (.slice (A) l.length c) l) := HV; replace GL : Aside0 (gb < w1.drew.heap.size) := GL; replace hz0 := dr_ hz0; replace hz1 := dr_ hz1; replace hz2 := dr_ hz2; replace hz3 := dr_ hz3; replace hz4 := dr_ hz4; replace hz5 := dr_ hz5; refine start_ (n := 34) (S := fun w' => w'.cell? ⟨gb, 0, none⟩ = some (.int .i64 f0) ∧ w'.cell? ⟨gb, 1, none⟩ = some (.int .i64 f1) ∧ w'.cell? ⟨gb, 2, none⟩ = some (.int .i64 f2) ∧ w'.cell? ⟨gb, 3, none⟩ = some (.int .i64 f3) ∧ w'.cell? ⟨gb, 4, none⟩ = some (.int .i64 f4) ∧ w'.cell? ⟨gb, 5, none⟩ = some (.slice A5 f5.length c5)) (ds := []) (B_ 34 0) (by kernel_rfl) rfl rfl ⟨hz0, hz1, hz2, hz3, hz4, hz5⟩ (fun hHeld => ?_); generalize w1.drew = w2 at HB HV GL hHeld hz0 hz1 hz2 hz3 hz4 hz5 ⊢; refine t_ 0 17 (B_ 34 1) hHeld ?_; refine one_ (i := 1) (N := some 18) (B_ 34 3) rfl rfl (by kernel_rfl) (by decide) (fun K hK => ?_); refine goes_ Try.func66 (by kernel_rfl) rfl #[.agg #[.int .i64 f0, .int .i64 f1, .int .i64 f2, .int .i64 f3, .int .i64 f4, .slice A5 f5.length c5]] (by rfl) rfl rfl (by simp only [List.map_toArray, List.map_cons, List.map_nil]; rfl) ?_
  with_reducible refine (diff_Change_formed.calls f0 f1 f2 f3 f4 A5 c5 f5 false w2 (Kd.C_below HR.out HB.out) HC.out HF.out).mono ?_
  rintro e w3 ⟨rfl, hb⟩; refine ⟨_, rfl, ?_⟩; replace HB := A_ (below_step HB.out hb); replace HV := A_ (HV.out.below hb); replace GL := A_ (Nat.lt_of_lt_of_le GL.out hb.size); replace hz0 := cell_below hb hz0; replace hz1 := cell_below hb hz1; replace hz2 := cell_below hb hz2; replace hz3 := cell_below hb hz3; replace hz4 := cell_below hb hz4; replace hz5 := cell_below hb hz5; clear hb; refine hK.out _ _ ⟨hz0, hz1, hz2, hz3, hz4, hz5⟩ (fun hHeld => ?_); clear hK K; refine norm_ (a' := ?_) ?_ ?_; rotate_left
  ·show Act.put _ (some 18) _ = _
   simp only [Act.put, sA_, sB_, sC_, i64_w, i32_w]; rfl
  refine p_ 2 19 (B_ 34 7) ?_; refine p_ 3 20 (B_ 34 15) ?_; refine q_ 4 21 (B_ 34 31) ?_; refine q_ 5 22 (B_ 34 63) ?_; refine q_ 6 23 (B_ 34 127) ?_; refine q_ 7 24 (B_ 34 255) ?_; refine q_ 8 25 (B_ 34 511) ?_; refine q_ 9 26 (B_ 34 1023) ?_; refine q_ 10 27 (B_ 34 2047) ?_; refine q_ 11 28 (B_ 34 4095) ?_; refine q_ 12 29 (B_ 34 8191) ?_; refine q_ 13 30 (B_ 34 16383) ?_; refine q_ 14 31 (B_ 34 32767) ?_; refine q_ 15 32 (B_ 34 65535) ?_; refine q_ 16 33 (B_ 34 131071) ?_; refine q_ 17 34 (B_ 34 262143) ?_; refine q_ 18 35 (B_ 34 524287) ?_; refine q_ 19 36 (B_ 34 1048575) ?_; refine q_ 20 37 (B_ 34 2097151) ?_; refine q_ 21 38 (B_ 34 4194303) ?_; refine q_ 22 39 (B_ 34 8388607) ?_; refine q_ 23 40 (B_ 34 16777215) ?_; refine q_ 24 41 (B_ 34 33554431) ?_; refine q_ 25 42 (B_ 34 67108863) ?_; refine q_ 26 43 (B_ 34 134217727) ?_; refine q_ 27 44 (B_ 34 268435455) ?_; refine q_ 28 45 (B_ 34 536870911) ?_; refine q_ 29 46 (B_ 34 1073741823) ?_; refine q_ 30 47 (B_ 34 2147483647) ?_; refine q_ 31 48 (B_ 34 4294967295) ?_; refine q_ 32 49 (B_ 34 8589934591) ?_; refine p_ 33 50 (B_ 34 17179869183) ?_; refine done_ (by kernel_rfl) ?_; go_wp2; go_ret; exact ⟨rfl, HV.out, HB.out⟩
set_option maxHeartbeats 4000000 in
set_option maxRecDepth 100000 in
theorem apply_unknown_set (w W : World) (v : Value) (l : Wd) (f0 f1 f2 f3 f4 : Int) (A5 : Option Addr) (c5 : Nat) (f5 : List Int) (hB : Below w.heap.size w W) (hv : WRep W w.heap.size v l) (hr : Kd.C (Kd.int .i64) w A5 f5.length f5) (hc : f5.length ≤ c5)
  (hf : formedB f2 f3 f4 f5 = true) (hun : f0 < 0 ∨ (l.length : Int) ≤ f0) (h2 : 0 ≤ f2) :
  Calls Try.prog 44 #[v, .agg #[.int .i64 f0, .int .i64 f1, .int .i64 f2, .int .i64 f3, .int .i64 f4, .slice A5 f5.length c5]] W fun e W' => e = .returned (.int .i64 5) ∧ WRep W' w.heap.size v l ∧ Below w.heap.size w W' := by
 have hu61 := Try.underlying61; have HB := A_ hB; have HR := A_ hr; have HC := A_ hc; have HV := A_ hv
 obtain ⟨A, c, rfl, hlen, htop⟩ : ∃ A c, v = .slice A l.length c ∧ l.length ≤ 9223372036854775807 ∧ True := by
  obtain ⟨_, _, h⟩ := hv; obtain ⟨A, c, e, hl, _⟩ := h.top; exact ⟨A, c, e, hl, trivial⟩
 clear htop hB hr hc hv; have HF := A_ ((formedB_f f0 f1 f2 f3 f4 f5).trans (congrArg some hf))
 have hkn : (decide (0 ≤ f0) && decide (f0 < (l.length : Int))) = false := by
  rcases hun with h | h
  ·simp [Int.not_le.2 h]
  ·simp [Int.not_lt.2 h]
 clear hf hun; have hd2 : decide (f2 < 0) = false := decide_eq_false (by omega)
 go_enter Try.func44, Try.ntmps44
 go_upto_region 1 with (first | ((with_reducible refine gate_dst (N := 3) rfl ?_); (try (refine gate_guard (by rfl) ?_; dsimp only)); refine box_event ?hg (N := 3) ?hd (cs := #[.int .i64 f0, .int .i64 f1, .int .i64 f2, .int .i64 f3, .int .i64 f4, .slice A5 f5.length c5]) (t := 61) ?hr ?_; (case hd => rfl); (case hg => rfl); (case hr => first | (go_simp; done) | (go_simp; rfl)); intro gb hg w1 hbox hb1; have n0_ := A_ (below_step HB.out hb1); have n1_ := A_ (HV.out.below hb1); have n2_ := A_ (show gb < w1.heap.size from (Array.getElem?_eq_some_iff.1 hbox).1);  clear HB HV; have HB := n0_; have HV := n1_; have GL := n2_; clear n0_ n1_ n2_; obtain ⟨hz0, hz1, hz2, hz3, hz4, hz5⟩ := k6_ (A_ hbox); clear hb1 hbox hg))
 go_cut [5] (fun v5 wc => v5 = .bool (decide (0 ≤ f0) && decide (f0 < (l.length : Int))) ∧ w1 = wc)
 case first =>
  by_cases h1 : 0 ≤ f0
  ·have h1b := decide_eq_true h1
   go_wp2
   go_meet
   case rel => exact ⟨by rw [h1b]; rfl, rfl⟩
  ·have h1b := decide_eq_false h1
   go_wp2
   go_meet
   case rel => exact ⟨by rw [h1b]; rfl, rfl⟩
 case rest =>
  obtain ⟨rfl, rfl⟩ := hcut; rw [hkn]
  go_upto_region 2 with (fail)
  replace HB : Aside0 (Below w.heap.size w w1.drew) := ⟨below_drew HB.out⟩; replace HV : Aside0 (WRep w1.drew w.heap.size (.slice (A) l.length c) l) := HV; replace GL : Aside0 (gb < w1.drew.heap.size) := GL; replace hz0 := dr_ hz0; replace hz1 := dr_ hz1; replace hz2 := dr_ hz2; replace hz3 := dr_ hz3; replace hz4 := dr_ hz4; replace hz5 := dr_ hz5; refine start_ (n := 34) (S := fun w' => w'.cell? ⟨gb, 0, none⟩ = some (.int .i64 f0) ∧ w'.cell? ⟨gb, 1, none⟩ = some (.int .i64 f1) ∧ w'.cell? ⟨gb, 2, none⟩ = some (.int .i64 f2) ∧ w'.cell? ⟨gb, 3, none⟩ = some (.int .i64 f3) ∧ w'.cell? ⟨gb, 4, none⟩ = some (.int .i64 f4) ∧ w'.cell? ⟨gb, 5, none⟩ = some (.slice A5 f5.length c5)) (ds := []) (B_ 34 0) (by kernel_rfl) rfl rfl ⟨hz0, hz1, hz2, hz3, hz4, hz5⟩ (fun hHeld => ?_); generalize w1.drew = w2 at HB HV GL hHeld hz0 hz1 hz2 hz3 hz4 hz5 ⊢; refine t_ 0 17 (B_ 34 1) hHeld ?_; refine one_ (i := 1) (N := some 18) (B_ 34 3) rfl rfl (by kernel_rfl) (by decide) (fun K hK => ?_); refine goes_ Try.func66 (by kernel_rfl) rfl #[.agg #[.int .i64 f0, .int .i64 f1, .int .i64 f2, .int .i64 f3, .int .i64 f4, .slice A5 f5.length c5]] (by rfl) rfl rfl (by simp only [List.map_toArray, List.map_cons, List.map_nil]; rfl) ?_
  with_reducible refine (diff_Change_formed.calls f0 f1 f2 f3 f4 A5 c5 f5 true w2 (Kd.C_below HR.out HB.out) HC.out HF.out).mono ?_
  rintro e w3 ⟨rfl, hb⟩; refine ⟨_, rfl, ?_⟩; replace HB := A_ (below_step HB.out hb); replace HV := A_ (HV.out.below hb); replace GL := A_ (Nat.lt_of_lt_of_le GL.out hb.size); replace hz0 := cell_below hb hz0; replace hz1 := cell_below hb hz1; replace hz2 := cell_below hb hz2; replace hz3 := cell_below hb hz3; replace hz4 := cell_below hb hz4; replace hz5 := cell_below hb hz5; clear hb; refine hK.out _ _ ⟨hz0, hz1, hz2, hz3, hz4, hz5⟩ (fun hHeld => ?_); clear hK K; refine norm_ (a' := ?_) ?_ ?_; rotate_left
  ·show Act.put _ (some 18) _ = _
   simp only [Act.put, sA_, sB_, sC_, i64_w, i32_w]; rfl
  refine p_ 2 19 (B_ 34 7) ?_; refine p_ 3 20 (B_ 34 15) ?_; refine p_ 4 21 (B_ 34 31) ?_; refine t_ 5 22 (B_ 34 63) hHeld ?_; refine p_ 6 23 (B_ 34 127) ?_; refine p_ 7 24 (B_ 34 255) ?_; refine q_ 8 25 (B_ 34 511) ?_; refine p_ 9 26 (B_ 34 1023) ?_; refine p_ 10 27 (B_ 34 2047) ?_; refine q_ 11 28 (B_ 34 4095) ?_; refine q_ 12 29 (B_ 34 8191) ?_; refine q_ 13 30 (B_ 34 16383) ?_; refine q_ 14 31 (B_ 34 32767) ?_; refine q_ 15 32 (B_ 34 65535) ?_; refine q_ 16 33 (B_ 34 131071) ?_; refine q_ 17 34 (B_ 34 262143) ?_; refine p_ 18 35 (B_ 34 524287) ?_; refine p_ 19 36 (B_ 34 1048575) ?_; refine q_ 20 37 (B_ 34 2097151) ?_; refine q_ 21 38 (B_ 34 4194303) ?_; refine q_ 22 39 (B_ 34 8388607) ?_; refine q_ 23 40 (B_ 34 16777215) ?_; refine q_ 24 41 (B_ 34 33554431) ?_; refine q_ 25 42 (B_ 34 67108863) ?_; refine q_ 26 43 (B_ 34 134217727) ?_; refine q_ 27 44 (B_ 34 268435455) ?_; refine q_ 28 45 (B_ 34 536870911) ?_; refine q_ 29 46 (B_ 34 1073741823) ?_; refine q_ 30 47 (B_ 34 2147483647) ?_; refine q_ 31 48 (B_ 34 4294967295) ?_; refine p_ 32 49 (B_ 34 8589934591) ?_; refine p_ 33 50 (B_ 34 17179869183) ?_; refine done_ (by kernel_rfl) ?_; go_wp2; go_ret; exact ⟨rfl, HV.out, HB.out⟩
set_option maxHeartbeats 4000000 in
set_option maxRecDepth 100000 in
theorem apply_unknown_neg (w W : World) (v : Value) (l : Wd) (f0 f1 f2 f3 f4 : Int) (A5 : Option Addr) (c5 : Nat) (f5 : List Int) (hB : Below w.heap.size w W) (hv : WRep W w.heap.size v l) (hr : Kd.C (Kd.int .i64) w A5 f5.length f5) (hc : f5.length ≤ c5)
  (hf : formedB f2 f3 f4 f5 = true) (hun : f0 < 0 ∨ (l.length : Int) ≤ f0) (h2 : f2 < 0) :
  Calls Try.prog 44 #[v, .agg #[.int .i64 f0, .int .i64 f1, .int .i64 f2, .int .i64 f3, .int .i64 f4, .slice A5 f5.length c5]] W fun e W' => e = .returned (.int .i64 5) ∧ WRep W' w.heap.size v l ∧ Below w.heap.size w W' := by
 have hu61 := Try.underlying61; have HB := A_ hB; have HR := A_ hr; have HC := A_ hc; have HV := A_ hv
 obtain ⟨A, c, rfl, hlen, htop⟩ : ∃ A c, v = .slice A l.length c ∧ l.length ≤ 9223372036854775807 ∧ True := by
  obtain ⟨_, _, h⟩ := hv; obtain ⟨A, c, e, hl, _⟩ := h.top; exact ⟨A, c, e, hl, trivial⟩
 clear htop hB hr hc hv; have HF := A_ ((formedB_f f0 f1 f2 f3 f4 f5).trans (congrArg some hf))
 have hkn : (decide (0 ≤ f0) && decide (f0 < (l.length : Int))) = false := by
  rcases hun with h | h
  ·simp [Int.not_le.2 h]
  ·simp [Int.not_lt.2 h]
 clear hf hun; have hd2 : decide (f2 < 0) = true := decide_eq_true h2
 go_enter Try.func44, Try.ntmps44
 go_upto_region 1 with (first | ((with_reducible refine gate_dst (N := 3) rfl ?_); (try (refine gate_guard (by rfl) ?_; dsimp only)); refine box_event ?hg (N := 3) ?hd (cs := #[.int .i64 f0, .int .i64 f1, .int .i64 f2, .int .i64 f3, .int .i64 f4, .slice A5 f5.length c5]) (t := 61) ?hr ?_; (case hd => rfl); (case hg => rfl); (case hr => first | (go_simp; done) | (go_simp; rfl)); intro gb hg w1 hbox hb1; have n0_ := A_ (below_step HB.out hb1); have n1_ := A_ (HV.out.below hb1); have n2_ := A_ (show gb < w1.heap.size from (Array.getElem?_eq_some_iff.1 hbox).1);  clear HB HV; have HB := n0_; have HV := n1_; have GL := n2_; clear n0_ n1_ n2_; obtain ⟨hz0, hz1, hz2, hz3, hz4, hz5⟩ := k6_ (A_ hbox); clear hb1 hbox hg))
 go_cut [5] (fun v5 wc => v5 = .bool (decide (0 ≤ f0) && decide (f0 < (l.length : Int))) ∧ w1 = wc)
 case first =>
  by_cases h1 : 0 ≤ f0
  ·have h1b := decide_eq_true h1
   go_wp2
   go_meet
   case rel => exact ⟨by rw [h1b]; rfl, rfl⟩
  ·have h1b := decide_eq_false h1
   go_wp2
   go_meet
   case rel => exact ⟨by rw [h1b]; rfl, rfl⟩
 case rest =>
  obtain ⟨rfl, rfl⟩ := hcut; rw [hkn]
  go_upto_region 2 with (fail)
  replace HB : Aside0 (Below w.heap.size w w1.drew) := ⟨below_drew HB.out⟩; replace HV : Aside0 (WRep w1.drew w.heap.size (.slice (A) l.length c) l) := HV; replace GL : Aside0 (gb < w1.drew.heap.size) := GL; replace hz0 := dr_ hz0; replace hz1 := dr_ hz1; replace hz2 := dr_ hz2; replace hz3 := dr_ hz3; replace hz4 := dr_ hz4; replace hz5 := dr_ hz5; refine start_ (n := 34) (S := fun w' => w'.cell? ⟨gb, 0, none⟩ = some (.int .i64 f0) ∧ w'.cell? ⟨gb, 1, none⟩ = some (.int .i64 f1) ∧ w'.cell? ⟨gb, 2, none⟩ = some (.int .i64 f2) ∧ w'.cell? ⟨gb, 3, none⟩ = some (.int .i64 f3) ∧ w'.cell? ⟨gb, 4, none⟩ = some (.int .i64 f4) ∧ w'.cell? ⟨gb, 5, none⟩ = some (.slice A5 f5.length c5)) (ds := []) (B_ 34 0) (by kernel_rfl) rfl rfl ⟨hz0, hz1, hz2, hz3, hz4, hz5⟩ (fun hHeld => ?_); generalize w1.drew = w2 at HB HV GL hHeld hz0 hz1 hz2 hz3 hz4 hz5 ⊢; refine t_ 0 17 (B_ 34 1) hHeld ?_; refine one_ (i := 1) (N := some 18) (B_ 34 3) rfl rfl (by kernel_rfl) (by decide) (fun K hK => ?_); refine goes_ Try.func66 (by kernel_rfl) rfl #[.agg #[.int .i64 f0, .int .i64 f1, .int .i64 f2, .int .i64 f3, .int .i64 f4, .slice A5 f5.length c5]] (by rfl) rfl rfl (by simp only [List.map_toArray, List.map_cons, List.map_nil]; rfl) ?_
  with_reducible refine (diff_Change_formed.calls f0 f1 f2 f3 f4 A5 c5 f5 true w2 (Kd.C_below HR.out HB.out) HC.out HF.out).mono ?_
  rintro e w3 ⟨rfl, hb⟩; refine ⟨_, rfl, ?_⟩; replace HB := A_ (below_step HB.out hb); replace HV := A_ (HV.out.below hb); replace GL := A_ (Nat.lt_of_lt_of_le GL.out hb.size); replace hz0 := cell_below hb hz0; replace hz1 := cell_below hb hz1; replace hz2 := cell_below hb hz2; replace hz3 := cell_below hb hz3; replace hz4 := cell_below hb hz4; replace hz5 := cell_below hb hz5; clear hb; refine hK.out _ _ ⟨hz0, hz1, hz2, hz3, hz4, hz5⟩ (fun hHeld => ?_); clear hK K; refine norm_ (a' := ?_) ?_ ?_; rotate_left
  ·show Act.put _ (some 18) _ = _
   simp only [Act.put, sA_, sB_, sC_, i64_w, i32_w]; rfl
  refine p_ 2 19 (B_ 34 7) ?_; refine p_ 3 20 (B_ 34 15) ?_; refine p_ 4 21 (B_ 34 31) ?_; refine t_ 5 22 (B_ 34 63) hHeld ?_; refine p_ 6 23 (B_ 34 127) ?_; refine p_ 7 24 (B_ 34 255) ?_; refine p_ 8 25 (B_ 34 511) ?_; refine p_ 9 26 (B_ 34 1023) ?_; refine p_ 10 27 (B_ 34 2047) ?_; refine q_ 11 28 (B_ 34 4095) ?_; refine q_ 12 29 (B_ 34 8191) ?_; refine q_ 13 30 (B_ 34 16383) ?_; refine q_ 14 31 (B_ 34 32767) ?_; refine q_ 15 32 (B_ 34 65535) ?_; refine q_ 16 33 (B_ 34 131071) ?_; refine q_ 17 34 (B_ 34 262143) ?_; refine p_ 18 35 (B_ 34 524287) ?_; refine p_ 19 36 (B_ 34 1048575) ?_; refine q_ 20 37 (B_ 34 2097151) ?_; refine q_ 21 38 (B_ 34 4194303) ?_; refine q_ 22 39 (B_ 34 8388607) ?_; refine q_ 23 40 (B_ 34 16777215) ?_; refine q_ 24 41 (B_ 34 33554431) ?_; refine q_ 25 42 (B_ 34 67108863) ?_; refine q_ 26 43 (B_ 34 134217727) ?_; refine q_ 27 44 (B_ 34 268435455) ?_; refine q_ 28 45 (B_ 34 536870911) ?_; refine q_ 29 46 (B_ 34 1073741823) ?_; refine q_ 30 47 (B_ 34 2147483647) ?_; refine q_ 31 48 (B_ 34 4294967295) ?_; refine p_ 32 49 (B_ 34 8589934591) ?_; refine p_ 33 50 (B_ 34 17179869183) ?_; refine done_ (by kernel_rfl) ?_; go_wp2; go_ret; exact ⟨rfl, HV.out, HB.out⟩
set_option maxHeartbeats 4000000 in
set_option maxRecDepth 100000 in
theorem apply_set5a (w W : World) (v : Value) (l : Wd) (f0 f1 f2 f3 f4 : Int) (A5 : Option Addr) (c5 : Nat) (f5 : List Int) (hB : Below w.heap.size w W) (hv : WRep W w.heap.size v l) (hr : Kd.C (Kd.int .i64) w A5 f5.length f5) (hc : f5.length ≤ c5)
  (hform : formedB f2 f3 f4 f5 = true) (hf0 : 0 ≤ f0) (hf1 : f0 < l.length) (rows : List (List Int)) (hk : l[f0.toNat]? = some rows) (hn : rows.length < 5864062014805) (hW : ∀ (i : Nat) r, rows[i]? = some r → r.length = (rd_L1 rows 0).length) (h2 : 0 ≤ f2) (hbad : f1 < 0) :
  Calls Try.prog 44 #[v, .agg #[.int .i64 f0, .int .i64 f1, .int .i64 f2, .int .i64 f3, .int .i64 f4, .slice A5 f5.length c5]] W fun e W' => e = .returned (.int .i64 5) ∧ WRep W' w.heap.size v l ∧ Below w.heap.size w W' := by
 have hu61 := Try.underlying61; have HB := A_ hB; have HR := A_ hr; have HC := A_ hc; have HV := A_ hv; obtain ⟨ad, c, rfl, hg⟩ := hv.known hk; have HG := A_ hg
 have hlen : l.length ≤ 9223372036854775807 := by
  obtain ⟨_, _, h⟩ := hv; obtain ⟨A, c, e, hl, _⟩ := h.top; exact hl
 obtain ⟨A2, c2, hy, hc2, hrows, hfy⟩ := hv.seen hk; have HC2 := A_ hc2
 have HOW := A_ (show ∀ b, (Value.slice A2 rows.length c2).ownBlock = some b → b < W.heap.size from by
  obtain ⟨cs, h, _⟩ := hv.grow hk hy
  exact own_lt h)
 have HW := A_ hW; have HK := A_ hk; have hfr := A_ hfy; have hb0 := decide_eq_true hf0; have hb1 := decide_eq_true hf1; have HF := A_ ((formedB_f f0 f1 f2 f3 f4 f5).trans (congrArg some hform)); obtain ⟨kn, hkn⟩ : ∃ k, k = f0.toNat := ⟨_, rfl⟩; clear hB hr hc hv hg hfy hc2 hW hk hform; have hd2 : decide (f2 < 0) = false := decide_eq_false (by omega); have he1 : (f2 == -1) = false := beq_eq_false_iff_ne.2 (by omega); have he2 : (f2 == -2) = false := beq_eq_false_iff_ne.2 (by omega); have hdb : decide (f1 < 0) = true := decide_eq_true hbad
 go_enter Try.func44, Try.ntmps44
 go_upto_region 1 with (first | ((with_reducible refine gate_dst (N := 3) rfl ?_); (try (refine gate_guard (by rfl) ?_; dsimp only)); refine box_event ?hg (N := 3) ?hd (cs := #[.int .i64 f0, .int .i64 f1, .int .i64 f2, .int .i64 f3, .int .i64 f4, .slice A5 f5.length c5]) (t := 61) ?hr ?_; (case hd => rfl); (case hg => rfl); (case hr => first | (go_simp; done) | (go_simp; rfl)); intro gb hg w1 hbox hb1; have n0_ := A_ (below_step HB.out hb1); have n1_ := A_ (HV.out.below hb1); have n2_ := A_ (show gb < w1.heap.size from (Array.getElem?_eq_some_iff.1 hbox).1);  have n3_ := cell_below hb1 hy; clear hy; have hy := n3_; clear n3_; have HNG := A_ (fun b (hb : (Value.slice A2 rows.length c2).ownBlock = some b) => (by have := HOW.out b hb; omega : b ≠ gb)); clear HB HV; have HB := n0_; have HV := n1_; have GL := n2_; clear n0_ n1_ n2_; obtain ⟨hz0, hz1, hz2, hz3, hz4, hz5⟩ := k6_ (A_ hbox); clear hb1 hbox hg))
 go_cut [5] (fun v5 wc => v5 = .bool true ∧ w1 = wc)
 case first =>
  go_wp2
  go_meet
  case rel => exact ⟨rfl, rfl⟩
 case rest =>
  obtain ⟨rfl, rfl⟩ := hcut
  go_upto_region 2 with (fail)
  replace HB : Aside0 (Below w.heap.size w w1.drew) := ⟨below_drew HB.out⟩; replace HV : Aside0 (WRep w1.drew w.heap.size (.slice (some ad) l.length c) l) := HV; replace GL : Aside0 (gb < w1.drew.heap.size) := GL; replace hz0 := dr_ hz0; replace hz1 := dr_ hz1; replace hz2 := dr_ hz2; replace hz3 := dr_ hz3; replace hz4 := dr_ hz4; replace hz5 := dr_ hz5; replace hy := dr_ hy; refine start_ (n := 34) (S := fun w' => w'.cell? ⟨gb, 0, none⟩ = some (.int .i64 f0) ∧ w'.cell? ⟨gb, 1, none⟩ = some (.int .i64 f1) ∧ w'.cell? ⟨gb, 2, none⟩ = some (.int .i64 f2) ∧ w'.cell? ⟨gb, 3, none⟩ = some (.int .i64 f3) ∧ w'.cell? ⟨gb, 4, none⟩ = some (.int .i64 f4) ∧ w'.cell? ⟨gb, 5, none⟩ = some (.slice A5 f5.length c5) ∧ w'.cell? (ad.add f0.toNat) = some (.slice A2 rows.length c2)) (ds := []) (B_ 34 0) (by kernel_rfl) rfl rfl ⟨hz0, hz1, hz2, hz3, hz4, hz5, hy⟩ (fun hHeld => ?_); generalize w1.drew = w2 at HB HV GL hHeld hz0 hz1 hz2 hz3 hz4 hz5 hy ⊢; refine t_ 0 17 (B_ 34 1) hHeld ?_; refine one_ (i := 1) (N := some 18) (B_ 34 3) rfl rfl (by kernel_rfl) (by decide) (fun K hK => ?_); refine goes_ Try.func66 (by kernel_rfl) rfl #[.agg #[.int .i64 f0, .int .i64 f1, .int .i64 f2, .int .i64 f3, .int .i64 f4, .slice A5 f5.length c5]] (by rfl) rfl rfl (by simp only [List.map_toArray, List.map_cons, List.map_nil]; rfl) ?_
  with_reducible refine (diff_Change_formed.calls f0 f1 f2 f3 f4 A5 c5 f5 true w2 (Kd.C_below HR.out HB.out) HC.out HF.out).mono ?_
  rintro e w3 ⟨rfl, hb⟩; refine ⟨_, rfl, ?_⟩; replace HB := A_ (below_step HB.out hb); replace HV := A_ (HV.out.below hb); replace GL := A_ (Nat.lt_of_lt_of_le GL.out hb.size); replace hz0 := cell_below hb hz0; replace hz1 := cell_below hb hz1; replace hz2 := cell_below hb hz2; replace hz3 := cell_below hb hz3; replace hz4 := cell_below hb hz4; replace hz5 := cell_below hb hz5; replace hy := cell_below hb hy; clear hb; refine hK.out _ _ ⟨hz0, hz1, hz2, hz3, hz4, hz5, hy⟩ (fun hHeld => ?_); clear hK K; refine norm_ (a' := ?_) ?_ ?_; rotate_left
  ·show Act.put _ (some 18) _ = _
   simp only [Act.put, sA_, sB_, sC_, i64_w, i32_w]; rfl
  refine p_ 2 19 (B_ 34 7) ?_; refine p_ 3 20 (B_ 34 15) ?_; refine p_ 4 21 (B_ 34 31) ?_; refine t_ 5 22 (B_ 34 63) hHeld ?_; refine p_ 6 23 (B_ 34 127) ?_; refine p_ 7 24 (B_ 34 255) ?_; refine q_ 8 25 (B_ 34 511) ?_; refine p_ 9 26 (B_ 34 1023) ?_; refine p_ 10 27 (B_ 34 2047) ?_; refine q_ 11 28 (B_ 34 4095) ?_; refine q_ 12 29 (B_ 34 8191) ?_; refine q_ 13 30 (B_ 34 16383) ?_; refine q_ 14 31 (B_ 34 32767) ?_; refine q_ 15 32 (B_ 34 65535) ?_; refine q_ 16 33 (B_ 34 131071) ?_; refine q_ 17 34 (B_ 34 262143) ?_; refine p_ 18 35 (B_ 34 524287) ?_; refine p_ 19 36 (B_ 34 1048575) ?_; refine q_ 20 37 (B_ 34 2097151) ?_; refine q_ 21 38 (B_ 34 4194303) ?_; refine q_ 22 39 (B_ 34 8388607) ?_; refine q_ 23 40 (B_ 34 16777215) ?_; refine q_ 24 41 (B_ 34 33554431) ?_; refine q_ 25 42 (B_ 34 67108863) ?_; refine q_ 26 43 (B_ 34 134217727) ?_; refine q_ 27 44 (B_ 34 268435455) ?_; refine q_ 28 45 (B_ 34 536870911) ?_; refine q_ 29 46 (B_ 34 1073741823) ?_; refine q_ 30 47 (B_ 34 2147483647) ?_; refine q_ 31 48 (B_ 34 4294967295) ?_; refine p_ 32 49 (B_ 34 8589934591) ?_; refine p_ 33 50 (B_ 34 17179869183) ?_; refine done_ (by kernel_rfl) ?_
  go_upto_region 8 with (fail)
  go_quiet (fail)
  go_wp2; go_ret; exact ⟨rfl, HV.out, by first | exact HB.out | exact pw_below_drewN HB.out _ | exact pw_below_drewN (pw_below_drewN HB.out _) _⟩
set_option maxHeartbeats 4000000 in
set_option maxRecDepth 100000 in
theorem apply_set5b (w W : World) (v : Value) (l : Wd) (f0 f1 f2 f3 f4 : Int) (A5 : Option Addr) (c5 : Nat) (f5 : List Int) (hB : Below w.heap.size w W) (hv : WRep W w.heap.size v l) (hr : Kd.C (Kd.int .i64) w A5 f5.length f5) (hc : f5.length ≤ c5)
  (hform : formedB f2 f3 f4 f5 = true) (hf0 : 0 ≤ f0) (hf1 : f0 < l.length) (rows : List (List Int)) (hk : l[f0.toNat]? = some rows) (hn : rows.length < 5864062014805) (hW : ∀ (i : Nat) r, rows[i]? = some r → r.length = (rd_L1 rows 0).length) (h2 : 0 ≤ f2) (h1 : 0 ≤ f1) (hbad : rows.length ≤ f1) :
  Calls Try.prog 44 #[v, .agg #[.int .i64 f0, .int .i64 f1, .int .i64 f2, .int .i64 f3, .int .i64 f4, .slice A5 f5.length c5]] W fun e W' => e = .returned (.int .i64 5) ∧ WRep W' w.heap.size v l ∧ Below w.heap.size w W' := by
 have hu61 := Try.underlying61; have HB := A_ hB; have HR := A_ hr; have HC := A_ hc; have HV := A_ hv; obtain ⟨ad, c, rfl, hg⟩ := hv.known hk; have HG := A_ hg
 have hlen : l.length ≤ 9223372036854775807 := by
  obtain ⟨_, _, h⟩ := hv; obtain ⟨A, c, e, hl, _⟩ := h.top; exact hl
 obtain ⟨A2, c2, hy, hc2, hrows, hfy⟩ := hv.seen hk; have HC2 := A_ hc2
 have HOW := A_ (show ∀ b, (Value.slice A2 rows.length c2).ownBlock = some b → b < W.heap.size from by
  obtain ⟨cs, h, _⟩ := hv.grow hk hy
  exact own_lt h)
 have HW := A_ hW; have HK := A_ hk; have hfr := A_ hfy; have hb0 := decide_eq_true hf0; have hb1 := decide_eq_true hf1; have HF := A_ ((formedB_f f0 f1 f2 f3 f4 f5).trans (congrArg some hform)); obtain ⟨kn, hkn⟩ : ∃ k, k = f0.toNat := ⟨_, rfl⟩; clear hB hr hc hv hg hfy hc2 hW hk hform; have hd2 : decide (f2 < 0) = false := decide_eq_false (by omega); have he1 : (f2 == -1) = false := beq_eq_false_iff_ne.2 (by omega); have he2 : (f2 == -2) = false := beq_eq_false_iff_ne.2 (by omega); have hda : decide (f1 < 0) = false := decide_eq_false (by omega); have hdb : decide ((rows.length : Int) ≤ f1) = true := decide_eq_true hbad
 go_enter Try.func44, Try.ntmps44
 go_upto_region 1 with (first | ((with_reducible refine gate_dst (N := 3) rfl ?_); (try (refine gate_guard (by rfl) ?_; dsimp only)); refine box_event ?hg (N := 3) ?hd (cs := #[.int .i64 f0, .int .i64 f1, .int .i64 f2, .int .i64 f3, .int .i64 f4, .slice A5 f5.length c5]) (t := 61) ?hr ?_; (case hd => rfl); (case hg => rfl); (case hr => first | (go_simp; done) | (go_simp; rfl)); intro gb hg w1 hbox hb1; have n0_ := A_ (below_step HB.out hb1); have n1_ := A_ (HV.out.below hb1); have n2_ := A_ (show gb < w1.heap.size from (Array.getElem?_eq_some_iff.1 hbox).1);  have n3_ := cell_below hb1 hy; clear hy; have hy := n3_; clear n3_; have HNG := A_ (fun b (hb : (Value.slice A2 rows.length c2).ownBlock = some b) => (by have := HOW.out b hb; omega : b ≠ gb)); clear HB HV; have HB := n0_; have HV := n1_; have GL := n2_; clear n0_ n1_ n2_; obtain ⟨hz0, hz1, hz2, hz3, hz4, hz5⟩ := k6_ (A_ hbox); clear hb1 hbox hg))
 go_cut [5] (fun v5 wc => v5 = .bool true ∧ w1 = wc)
 case first =>
  go_wp2
  go_meet
  case rel => exact ⟨rfl, rfl⟩
 case rest =>
  obtain ⟨rfl, rfl⟩ := hcut
  go_upto_region 2 with (fail)
  replace HB : Aside0 (Below w.heap.size w w1.drew) := ⟨below_drew HB.out⟩; replace HV : Aside0 (WRep w1.drew w.heap.size (.slice (some ad) l.length c) l) := HV; replace GL : Aside0 (gb < w1.drew.heap.size) := GL; replace hz0 := dr_ hz0; replace hz1 := dr_ hz1; replace hz2 := dr_ hz2; replace hz3 := dr_ hz3; replace hz4 := dr_ hz4; replace hz5 := dr_ hz5; replace hy := dr_ hy; refine start_ (n := 34) (S := fun w' => w'.cell? ⟨gb, 0, none⟩ = some (.int .i64 f0) ∧ w'.cell? ⟨gb, 1, none⟩ = some (.int .i64 f1) ∧ w'.cell? ⟨gb, 2, none⟩ = some (.int .i64 f2) ∧ w'.cell? ⟨gb, 3, none⟩ = some (.int .i64 f3) ∧ w'.cell? ⟨gb, 4, none⟩ = some (.int .i64 f4) ∧ w'.cell? ⟨gb, 5, none⟩ = some (.slice A5 f5.length c5) ∧ w'.cell? (ad.add f0.toNat) = some (.slice A2 rows.length c2)) (ds := []) (B_ 34 0) (by kernel_rfl) rfl rfl ⟨hz0, hz1, hz2, hz3, hz4, hz5, hy⟩ (fun hHeld => ?_); generalize w1.drew = w2 at HB HV GL hHeld hz0 hz1 hz2 hz3 hz4 hz5 hy ⊢; refine t_ 0 17 (B_ 34 1) hHeld ?_; refine one_ (i := 1) (N := some 18) (B_ 34 3) rfl rfl (by kernel_rfl) (by decide) (fun K hK => ?_); refine goes_ Try.func66 (by kernel_rfl) rfl #[.agg #[.int .i64 f0, .int .i64 f1, .int .i64 f2, .int .i64 f3, .int .i64 f4, .slice A5 f5.length c5]] (by rfl) rfl rfl (by simp only [List.map_toArray, List.map_cons, List.map_nil]; rfl) ?_
  with_reducible refine (diff_Change_formed.calls f0 f1 f2 f3 f4 A5 c5 f5 true w2 (Kd.C_below HR.out HB.out) HC.out HF.out).mono ?_
  rintro e w3 ⟨rfl, hb⟩; refine ⟨_, rfl, ?_⟩; replace HB := A_ (below_step HB.out hb); replace HV := A_ (HV.out.below hb); replace GL := A_ (Nat.lt_of_lt_of_le GL.out hb.size); replace hz0 := cell_below hb hz0; replace hz1 := cell_below hb hz1; replace hz2 := cell_below hb hz2; replace hz3 := cell_below hb hz3; replace hz4 := cell_below hb hz4; replace hz5 := cell_below hb hz5; replace hy := cell_below hb hy; clear hb; refine hK.out _ _ ⟨hz0, hz1, hz2, hz3, hz4, hz5, hy⟩ (fun hHeld => ?_); clear hK K; refine norm_ (a' := ?_) ?_ ?_; rotate_left
  ·show Act.put _ (some 18) _ = _
   simp only [Act.put, sA_, sB_, sC_, i64_w, i32_w]; rfl
  refine p_ 2 19 (B_ 34 7) ?_; refine p_ 3 20 (B_ 34 15) ?_; refine p_ 4 21 (B_ 34 31) ?_; refine t_ 5 22 (B_ 34 63) hHeld ?_; refine p_ 6 23 (B_ 34 127) ?_; refine p_ 7 24 (B_ 34 255) ?_; refine q_ 8 25 (B_ 34 511) ?_; refine p_ 9 26 (B_ 34 1023) ?_; refine p_ 10 27 (B_ 34 2047) ?_; refine q_ 11 28 (B_ 34 4095) ?_; refine q_ 12 29 (B_ 34 8191) ?_; refine q_ 13 30 (B_ 34 16383) ?_; refine q_ 14 31 (B_ 34 32767) ?_; refine q_ 15 32 (B_ 34 65535) ?_; refine q_ 16 33 (B_ 34 131071) ?_; refine q_ 17 34 (B_ 34 262143) ?_; refine p_ 18 35 (B_ 34 524287) ?_; refine p_ 19 36 (B_ 34 1048575) ?_; refine q_ 20 37 (B_ 34 2097151) ?_; refine q_ 21 38 (B_ 34 4194303) ?_; refine q_ 22 39 (B_ 34 8388607) ?_; refine q_ 23 40 (B_ 34 16777215) ?_; refine q_ 24 41 (B_ 34 33554431) ?_; refine q_ 25 42 (B_ 34 67108863) ?_; refine q_ 26 43 (B_ 34 134217727) ?_; refine q_ 27 44 (B_ 34 268435455) ?_; refine q_ 28 45 (B_ 34 536870911) ?_; refine q_ 29 46 (B_ 34 1073741823) ?_; refine q_ 30 47 (B_ 34 2147483647) ?_; refine q_ 31 48 (B_ 34 4294967295) ?_; refine p_ 32 49 (B_ 34 8589934591) ?_; refine p_ 33 50 (B_ 34 17179869183) ?_; refine done_ (by kernel_rfl) ?_
  go_upto_region 8 with (fail)
  go_quiet (fail)
  go_wp2; go_ret; exact ⟨rfl, HV.out, by first | exact HB.out | exact pw_below_drewN HB.out _ | exact pw_below_drewN (pw_below_drewN HB.out _) _⟩
set_option maxHeartbeats 4000000 in
set_option maxRecDepth 100000 in
theorem apply_set5c (w W : World) (v : Value) (l : Wd) (f0 f1 f2 f3 f4 : Int) (A5 : Option Addr) (c5 : Nat) (f5 : List Int) (hB : Below w.heap.size w W) (hv : WRep W w.heap.size v l) (hr : Kd.C (Kd.int .i64) w A5 f5.length f5) (hc : f5.length ≤ c5)
  (hform : formedB f2 f3 f4 f5 = true) (hf0 : 0 ≤ f0) (hf1 : f0 < l.length) (rows : List (List Int)) (hk : l[f0.toNat]? = some rows) (hn : rows.length < 5864062014805) (hW : ∀ (i : Nat) r, rows[i]? = some r → r.length = (rd_L1 rows 0).length) (h2 : 0 ≤ f2) (h1 : 0 ≤ f1) (h1b : f1 < rows.length) (hbad : (rd_L1 rows 0).length ≤ f2) :
  Calls Try.prog 44 #[v, .agg #[.int .i64 f0, .int .i64 f1, .int .i64 f2, .int .i64 f3, .int .i64 f4, .slice A5 f5.length c5]] W fun e W' => e = .returned (.int .i64 5) ∧ WRep W' w.heap.size v l ∧ Below w.heap.size w W' := by
 have hu61 := Try.underlying61; have HB := A_ hB; have HR := A_ hr; have HC := A_ hc; have HV := A_ hv; obtain ⟨ad, c, rfl, hg⟩ := hv.known hk; have HG := A_ hg
 have hlen : l.length ≤ 9223372036854775807 := by
  obtain ⟨_, _, h⟩ := hv; obtain ⟨A, c, e, hl, _⟩ := h.top; exact hl
 obtain ⟨A2, c2, hy, hc2, hrows, hfy⟩ := hv.seen hk; have HC2 := A_ hc2
 have HOW := A_ (show ∀ b, (Value.slice A2 rows.length c2).ownBlock = some b → b < W.heap.size from by
  obtain ⟨cs, h, _⟩ := hv.grow hk hy
  exact own_lt h)
 have HW := A_ hW; have HK := A_ hk; have hfr := A_ hfy; have hb0 := decide_eq_true hf0; have hb1 := decide_eq_true hf1; have HF := A_ ((formedB_f f0 f1 f2 f3 f4 f5).trans (congrArg some hform)); obtain ⟨kn, hkn⟩ : ∃ k, k = f0.toNat := ⟨_, rfl⟩; clear hB hr hc hv hg hfy hc2 hW hk hform; have hd2 : decide (f2 < 0) = false := decide_eq_false (by omega); have he1 : (f2 == -1) = false := beq_eq_false_iff_ne.2 (by omega); have he2 : (f2 == -2) = false := beq_eq_false_iff_ne.2 (by omega); have hda : decide (f1 < 0) = false := decide_eq_false (by omega); have hdb : decide ((rows.length : Int) ≤ f1) = false := decide_eq_false (by omega); have hdc : decide (((rd_L1 rows 0).length : Int) ≤ f2) = true := decide_eq_true hbad
 go_enter Try.func44, Try.ntmps44
 go_upto_region 1 with (first | ((with_reducible refine gate_dst (N := 3) rfl ?_); (try (refine gate_guard (by rfl) ?_; dsimp only)); refine box_event ?hg (N := 3) ?hd (cs := #[.int .i64 f0, .int .i64 f1, .int .i64 f2, .int .i64 f3, .int .i64 f4, .slice A5 f5.length c5]) (t := 61) ?hr ?_; (case hd => rfl); (case hg => rfl); (case hr => first | (go_simp; done) | (go_simp; rfl)); intro gb hg w1 hbox hb1; have n0_ := A_ (below_step HB.out hb1); have n1_ := A_ (HV.out.below hb1); have n2_ := A_ (show gb < w1.heap.size from (Array.getElem?_eq_some_iff.1 hbox).1);  have n3_ := cell_below hb1 hy; clear hy; have hy := n3_; clear n3_; have HNG := A_ (fun b (hb : (Value.slice A2 rows.length c2).ownBlock = some b) => (by have := HOW.out b hb; omega : b ≠ gb)); clear HB HV; have HB := n0_; have HV := n1_; have GL := n2_; clear n0_ n1_ n2_; obtain ⟨hz0, hz1, hz2, hz3, hz4, hz5⟩ := k6_ (A_ hbox); clear hb1 hbox hg))
 go_cut [5] (fun v5 wc => v5 = .bool true ∧ w1 = wc)
 case first =>
  go_wp2
  go_meet
  case rel => exact ⟨rfl, rfl⟩
 case rest =>
  obtain ⟨rfl, rfl⟩ := hcut
  go_upto_region 2 with (fail)
  replace HB : Aside0 (Below w.heap.size w w1.drew) := ⟨below_drew HB.out⟩; replace HV : Aside0 (WRep w1.drew w.heap.size (.slice (some ad) l.length c) l) := HV; replace GL : Aside0 (gb < w1.drew.heap.size) := GL; replace hz0 := dr_ hz0; replace hz1 := dr_ hz1; replace hz2 := dr_ hz2; replace hz3 := dr_ hz3; replace hz4 := dr_ hz4; replace hz5 := dr_ hz5; replace hy := dr_ hy; refine start_ (n := 34) (S := fun w' => w'.cell? ⟨gb, 0, none⟩ = some (.int .i64 f0) ∧ w'.cell? ⟨gb, 1, none⟩ = some (.int .i64 f1) ∧ w'.cell? ⟨gb, 2, none⟩ = some (.int .i64 f2) ∧ w'.cell? ⟨gb, 3, none⟩ = some (.int .i64 f3) ∧ w'.cell? ⟨gb, 4, none⟩ = some (.int .i64 f4) ∧ w'.cell? ⟨gb, 5, none⟩ = some (.slice A5 f5.length c5) ∧ w'.cell? (ad.add f0.toNat) = some (.slice A2 rows.length c2)) (ds := []) (B_ 34 0) (by kernel_rfl) rfl rfl ⟨hz0, hz1, hz2, hz3, hz4, hz5, hy⟩ (fun hHeld => ?_); generalize w1.drew = w2 at HB HV GL hHeld hz0 hz1 hz2 hz3 hz4 hz5 hy ⊢; refine t_ 0 17 (B_ 34 1) hHeld ?_; refine one_ (i := 1) (N := some 18) (B_ 34 3) rfl rfl (by kernel_rfl) (by decide) (fun K hK => ?_); refine goes_ Try.func66 (by kernel_rfl) rfl #[.agg #[.int .i64 f0, .int .i64 f1, .int .i64 f2, .int .i64 f3, .int .i64 f4, .slice A5 f5.length c5]] (by rfl) rfl rfl (by simp only [List.map_toArray, List.map_cons, List.map_nil]; rfl) ?_
  with_reducible refine (diff_Change_formed.calls f0 f1 f2 f3 f4 A5 c5 f5 true w2 (Kd.C_below HR.out HB.out) HC.out HF.out).mono ?_
  rintro e w3 ⟨rfl, hb⟩; refine ⟨_, rfl, ?_⟩; replace HB := A_ (below_step HB.out hb); replace HV := A_ (HV.out.below hb); replace GL := A_ (Nat.lt_of_lt_of_le GL.out hb.size); replace hz0 := cell_below hb hz0; replace hz1 := cell_below hb hz1; replace hz2 := cell_below hb hz2; replace hz3 := cell_below hb hz3; replace hz4 := cell_below hb hz4; replace hz5 := cell_below hb hz5; replace hy := cell_below hb hy; clear hb; refine hK.out _ _ ⟨hz0, hz1, hz2, hz3, hz4, hz5, hy⟩ (fun hHeld => ?_); clear hK K; refine norm_ (a' := ?_) ?_ ?_; rotate_left
  ·show Act.put _ (some 18) _ = _
   simp only [Act.put, sA_, sB_, sC_, i64_w, i32_w]; rfl
  refine p_ 2 19 (B_ 34 7) ?_; refine p_ 3 20 (B_ 34 15) ?_; refine p_ 4 21 (B_ 34 31) ?_; refine t_ 5 22 (B_ 34 63) hHeld ?_; refine p_ 6 23 (B_ 34 127) ?_; refine p_ 7 24 (B_ 34 255) ?_; refine q_ 8 25 (B_ 34 511) ?_; refine p_ 9 26 (B_ 34 1023) ?_; refine p_ 10 27 (B_ 34 2047) ?_; refine q_ 11 28 (B_ 34 4095) ?_; refine q_ 12 29 (B_ 34 8191) ?_; refine q_ 13 30 (B_ 34 16383) ?_; refine q_ 14 31 (B_ 34 32767) ?_; refine q_ 15 32 (B_ 34 65535) ?_; refine q_ 16 33 (B_ 34 131071) ?_; refine q_ 17 34 (B_ 34 262143) ?_; refine p_ 18 35 (B_ 34 524287) ?_; refine p_ 19 36 (B_ 34 1048575) ?_; refine q_ 20 37 (B_ 34 2097151) ?_; refine q_ 21 38 (B_ 34 4194303) ?_; refine q_ 22 39 (B_ 34 8388607) ?_; refine q_ 23 40 (B_ 34 16777215) ?_; refine q_ 24 41 (B_ 34 33554431) ?_; refine q_ 25 42 (B_ 34 67108863) ?_; refine q_ 26 43 (B_ 34 134217727) ?_; refine q_ 27 44 (B_ 34 268435455) ?_; refine q_ 28 45 (B_ 34 536870911) ?_; refine q_ 29 46 (B_ 34 1073741823) ?_; refine q_ 30 47 (B_ 34 2147483647) ?_; refine q_ 31 48 (B_ 34 4294967295) ?_; refine p_ 32 49 (B_ 34 8589934591) ?_; refine p_ 33 50 (B_ 34 17179869183) ?_; refine done_ (by kernel_rfl) ?_; obtain ⟨r0, hr0⟩ : ∃ r0, rows[0]? = some r0 := ⟨_, List.getElem?_eq_getElem (l := rows) (i := 0) (by omega)⟩; obtain ⟨ad2, A3, c3, rfl, hq, hc3, _⟩ := HV.out.record HK.out hy hr0
  have hrd : rd_L1 rows 0 = r0 := by simp [rd_L1, List.getD_eq_getElem?_getD, hr0]
  have hq0 : w3.cell? ad2 = some (.slice A3 r0.length c3) := by rw [Addr.add_zero'] at hq; exact hq
  have qi : (0 < rows.length) = True := eq_true (by omega); have HC3 := A_ hc3; clear hc3 hq; rw [hrd] at hdc
  go_upto_region 8 with (fail)
  go_quiet (fail)
  go_wp2; go_ret; exact ⟨rfl, HV.out, by first | exact HB.out | exact pw_below_drewN HB.out _ | exact pw_below_drewN (pw_below_drewN HB.out _) _⟩
set_option maxHeartbeats 4000000 in
set_option maxRecDepth 100000 in
theorem apply_set16 (w W : World) (v : Value) (l : Wd) (f0 f1 f2 f3 f4 : Int) (A5 : Option Addr) (c5 : Nat) (f5 : List Int) (hB : Below w.heap.size w W) (hv : WRep W w.heap.size v l) (hr : Kd.C (Kd.int .i64) w A5 f5.length f5) (hc : f5.length ≤ c5)
  (hform : formedB f2 f3 f4 f5 = true) (hf0 : 0 ≤ f0) (hf1 : f0 < l.length) (rows : List (List Int)) (hk : l[f0.toNat]? = some rows) (hn : rows.length < 5864062014805) (hW : ∀ (i : Nat) r, rows[i]? = some r → r.length = (rd_L1 rows 0).length) (h2 : 0 ≤ f2) (h1 : 0 ≤ f1) (h1b : f1 < rows.length) (h3 : f2 < (rd_L1 rows 0).length) (hbad : rd (rd_L1 rows f1) f2 ≠ f3) :
  Calls Try.prog 44 #[v, .agg #[.int .i64 f0, .int .i64 f1, .int .i64 f2, .int .i64 f3, .int .i64 f4, .slice A5 f5.length c5]] W fun e W' => e = .returned (.int .i64 16) ∧ WRep W' w.heap.size v l ∧ Below w.heap.size w W' := by
 have hu61 := Try.underlying61; have HB := A_ hB; have HR := A_ hr; have HC := A_ hc; have HV := A_ hv; obtain ⟨ad, c, rfl, hg⟩ := hv.known hk; have HG := A_ hg
 have hlen : l.length ≤ 9223372036854775807 := by
  obtain ⟨_, _, h⟩ := hv; obtain ⟨A, c, e, hl, _⟩ := h.top; exact hl
 obtain ⟨A2, c2, hy, hc2, hrows, hfy⟩ := hv.seen hk; have HC2 := A_ hc2
 have HOW := A_ (show ∀ b, (Value.slice A2 rows.length c2).ownBlock = some b → b < W.heap.size from by
  obtain ⟨cs, h, _⟩ := hv.grow hk hy
  exact own_lt h)
 have HW := A_ hW; have HK := A_ hk; have hfr := A_ hfy; have hb0 := decide_eq_true hf0; have hb1 := decide_eq_true hf1; have HF := A_ ((formedB_f f0 f1 f2 f3 f4 f5).trans (congrArg some hform)); obtain ⟨kn, hkn⟩ : ∃ k, k = f0.toNat := ⟨_, rfl⟩; clear hB hr hc hv hg hfy hc2 hW hk hform; have hd2 : decide (f2 < 0) = false := decide_eq_false (by omega); have he1 : (f2 == -1) = false := beq_eq_false_iff_ne.2 (by omega); have he2 : (f2 == -2) = false := beq_eq_false_iff_ne.2 (by omega); have hda : decide (f1 < 0) = false := decide_eq_false (by omega); have hdb : decide ((rows.length : Int) ≤ f1) = false := decide_eq_false (by omega); have hdc : decide (((rd_L1 rows 0).length : Int) ≤ f2) = false := decide_eq_false (by omega)
 go_enter Try.func44, Try.ntmps44
 go_upto_region 1 with (first | ((with_reducible refine gate_dst (N := 3) rfl ?_); (try (refine gate_guard (by rfl) ?_; dsimp only)); refine box_event ?hg (N := 3) ?hd (cs := #[.int .i64 f0, .int .i64 f1, .int .i64 f2, .int .i64 f3, .int .i64 f4, .slice A5 f5.length c5]) (t := 61) ?hr ?_; (case hd => rfl); (case hg => rfl); (case hr => first | (go_simp; done) | (go_simp; rfl)); intro gb hg w1 hbox hb1; have n0_ := A_ (below_step HB.out hb1); have n1_ := A_ (HV.out.below hb1); have n2_ := A_ (show gb < w1.heap.size from (Array.getElem?_eq_some_iff.1 hbox).1);  have n3_ := cell_below hb1 hy; clear hy; have hy := n3_; clear n3_; have HNG := A_ (fun b (hb : (Value.slice A2 rows.length c2).ownBlock = some b) => (by have := HOW.out b hb; omega : b ≠ gb)); clear HB HV; have HB := n0_; have HV := n1_; have GL := n2_; clear n0_ n1_ n2_; obtain ⟨hz0, hz1, hz2, hz3, hz4, hz5⟩ := k6_ (A_ hbox); clear hb1 hbox hg))
 go_cut [5] (fun v5 wc => v5 = .bool true ∧ w1 = wc)
 case first =>
  go_wp2
  go_meet
  case rel => exact ⟨rfl, rfl⟩
 case rest =>
  obtain ⟨rfl, rfl⟩ := hcut
  go_upto_region 2 with (fail)
  replace HB : Aside0 (Below w.heap.size w w1.drew) := ⟨below_drew HB.out⟩; replace HV : Aside0 (WRep w1.drew w.heap.size (.slice (some ad) l.length c) l) := HV; replace GL : Aside0 (gb < w1.drew.heap.size) := GL; replace hz0 := dr_ hz0; replace hz1 := dr_ hz1; replace hz2 := dr_ hz2; replace hz3 := dr_ hz3; replace hz4 := dr_ hz4; replace hz5 := dr_ hz5; replace hy := dr_ hy; refine start_ (n := 34) (S := fun w' => w'.cell? ⟨gb, 0, none⟩ = some (.int .i64 f0) ∧ w'.cell? ⟨gb, 1, none⟩ = some (.int .i64 f1) ∧ w'.cell? ⟨gb, 2, none⟩ = some (.int .i64 f2) ∧ w'.cell? ⟨gb, 3, none⟩ = some (.int .i64 f3) ∧ w'.cell? ⟨gb, 4, none⟩ = some (.int .i64 f4) ∧ w'.cell? ⟨gb, 5, none⟩ = some (.slice A5 f5.length c5) ∧ w'.cell? (ad.add f0.toNat) = some (.slice A2 rows.length c2)) (ds := []) (B_ 34 0) (by kernel_rfl) rfl rfl ⟨hz0, hz1, hz2, hz3, hz4, hz5, hy⟩ (fun hHeld => ?_); generalize w1.drew = w2 at HB HV GL hHeld hz0 hz1 hz2 hz3 hz4 hz5 hy ⊢; refine t_ 0 17 (B_ 34 1) hHeld ?_; refine one_ (i := 1) (N := some 18) (B_ 34 3) rfl rfl (by kernel_rfl) (by decide) (fun K hK => ?_); refine goes_ Try.func66 (by kernel_rfl) rfl #[.agg #[.int .i64 f0, .int .i64 f1, .int .i64 f2, .int .i64 f3, .int .i64 f4, .slice A5 f5.length c5]] (by rfl) rfl rfl (by simp only [List.map_toArray, List.map_cons, List.map_nil]; rfl) ?_
  with_reducible refine (diff_Change_formed.calls f0 f1 f2 f3 f4 A5 c5 f5 true w2 (Kd.C_below HR.out HB.out) HC.out HF.out).mono ?_
  rintro e w3 ⟨rfl, hb⟩; refine ⟨_, rfl, ?_⟩; replace HB := A_ (below_step HB.out hb); replace HV := A_ (HV.out.below hb); replace GL := A_ (Nat.lt_of_lt_of_le GL.out hb.size); replace hz0 := cell_below hb hz0; replace hz1 := cell_below hb hz1; replace hz2 := cell_below hb hz2; replace hz3 := cell_below hb hz3; replace hz4 := cell_below hb hz4; replace hz5 := cell_below hb hz5; replace hy := cell_below hb hy; clear hb; refine hK.out _ _ ⟨hz0, hz1, hz2, hz3, hz4, hz5, hy⟩ (fun hHeld => ?_); clear hK K; refine norm_ (a' := ?_) ?_ ?_; rotate_left
  ·show Act.put _ (some 18) _ = _
   simp only [Act.put, sA_, sB_, sC_, i64_w, i32_w]; rfl
  refine p_ 2 19 (B_ 34 7) ?_; refine p_ 3 20 (B_ 34 15) ?_; refine p_ 4 21 (B_ 34 31) ?_; refine t_ 5 22 (B_ 34 63) hHeld ?_; refine p_ 6 23 (B_ 34 127) ?_; refine p_ 7 24 (B_ 34 255) ?_; refine q_ 8 25 (B_ 34 511) ?_; refine p_ 9 26 (B_ 34 1023) ?_; refine p_ 10 27 (B_ 34 2047) ?_; refine q_ 11 28 (B_ 34 4095) ?_; refine q_ 12 29 (B_ 34 8191) ?_; refine q_ 13 30 (B_ 34 16383) ?_; refine q_ 14 31 (B_ 34 32767) ?_; refine q_ 15 32 (B_ 34 65535) ?_; refine q_ 16 33 (B_ 34 131071) ?_; refine q_ 17 34 (B_ 34 262143) ?_; refine p_ 18 35 (B_ 34 524287) ?_; refine p_ 19 36 (B_ 34 1048575) ?_; refine q_ 20 37 (B_ 34 2097151) ?_; refine q_ 21 38 (B_ 34 4194303) ?_; refine q_ 22 39 (B_ 34 8388607) ?_; refine q_ 23 40 (B_ 34 16777215) ?_; refine q_ 24 41 (B_ 34 33554431) ?_; refine q_ 25 42 (B_ 34 67108863) ?_; refine q_ 26 43 (B_ 34 134217727) ?_; refine q_ 27 44 (B_ 34 268435455) ?_; refine q_ 28 45 (B_ 34 536870911) ?_; refine q_ 29 46 (B_ 34 1073741823) ?_; refine q_ 30 47 (B_ 34 2147483647) ?_; refine q_ 31 48 (B_ 34 4294967295) ?_; refine p_ 32 49 (B_ 34 8589934591) ?_; refine p_ 33 50 (B_ 34 17179869183) ?_; refine done_ (by kernel_rfl) ?_; obtain ⟨r0, hr0⟩ : ∃ r0, rows[0]? = some r0 := ⟨_, List.getElem?_eq_getElem (l := rows) (i := 0) (by omega)⟩; obtain ⟨ad2, A3, c3, rfl, hq, hc3, _⟩ := HV.out.record HK.out hy hr0
  have hrd : rd_L1 rows 0 = r0 := by simp [rd_L1, List.getD_eq_getElem?_getD, hr0]
  have hq0 : w3.cell? ad2 = some (.slice A3 r0.length c3) := by rw [Addr.add_zero'] at hq; exact hq
  have qi : (0 < rows.length) = True := eq_true (by omega); have HC3 := A_ hc3; clear hc3 hq; rw [hrd] at hdc; rw [hrd] at h3; obtain ⟨r1, hr1⟩ : ∃ r1, rows[f1.toNat]? = some r1 := ⟨_, List.getElem?_eq_getElem (l := rows) (i := f1.toNat) (by omega)⟩
  have hl1 : r1.length = r0.length := by rw [HW.out _ _ hr1, hrd]
  have hrd1 : rd_L1 rows f1 = r1 := by simp [rd_L1, List.getD_eq_getElem?_getD, hr1]
  obtain ⟨ad2', A4, c4, e4, hq4, hc4, _, hst⟩ := HV.out.record HK.out hy hr1
  cases e4
  obtain ⟨ad4, rfl, hq5, hf5, hb5, hst⟩ := hst f2.toNat (by omega)
  have hrd2 : rd (rd_L1 rows f1) f2 = rd r1 f2 := by rw [hrd1]
  have hq6 : w3.cell? (ad4.add f2.toNat) = some (.int .i64 (rd r1 f2)) := by
   rw [hq5]
   have : ((f2.toNat : Nat) : Int) = f2 := by omega
   rw [this]
  have HC4 := A_ hc4; have HF5 := A_ hf5; have HB5 := A_ hb5; have HST := A_ hst; clear hq5 hf5 hb5 hst hc4
  have hne : (rd r1 f2 != f3) = true := by rw [hrd2] at hbad; exact bne_iff_ne.2 hbad
  go_upto_region 8 with (fail)
  go_quiet (fail)
  go_upto_region 10 with (fail)
  go_quiet (fail)
  go_wp2; go_ret; exact ⟨rfl, HV.out, by first | exact HB.out | exact pw_below_drewN HB.out _ | exact pw_below_drewN (pw_below_drewN HB.out _) _⟩
set_option maxHeartbeats 4000000 in
set_option maxRecDepth 100000 in
theorem apply_set0 (w W : World) (v : Value) (l : Wd) (f0 f1 f2 f3 f4 : Int) (A5 : Option Addr) (c5 : Nat) (f5 : List Int) (hB : Below w.heap.size w W) (hv : WRep W w.heap.size v l) (hr : Kd.C (Kd.int .i64) w A5 f5.length f5) (hc : f5.length ≤ c5)
  (hform : formedB f2 f3 f4 f5 = true) (hf0 : 0 ≤ f0) (hf1 : f0 < l.length) (rows : List (List Int)) (hk : l[f0.toNat]? = some rows) (hn : rows.length < 5864062014805) (hW : ∀ (i : Nat) r, rows[i]? = some r → r.length = (rd_L1 rows 0).length) (h2 : 0 ≤ f2) (h1 : 0 ≤ f1) (h1b : f1 < rows.length) (h3 : f2 < (rd_L1 rows 0).length) (hok : rd (rd_L1 rows f1) f2 = f3) :
  Calls Try.prog 44 #[v, .agg #[.int .i64 f0, .int .i64 f1, .int .i64 f2, .int .i64 f3, .int .i64 f4, .slice A5 f5.length c5]] W fun e W' => e = .returned (.int .i64 0) ∧ WRep W' w.heap.size v (l.set f0.toNat (rows.set f1.toNat ((rd_L1 rows f1).set f2.toNat f4))) ∧ Below w.heap.size w W' := by
 have hu61 := Try.underlying61; have HB := A_ hB; have HR := A_ hr; have HC := A_ hc; have HV := A_ hv; obtain ⟨ad, c, rfl, hg⟩ := hv.known hk; have HG := A_ hg
 have hlen : l.length ≤ 9223372036854775807 := by
  obtain ⟨_, _, h⟩ := hv; obtain ⟨A, c, e, hl, _⟩ := h.top; exact hl
 obtain ⟨A2, c2, hy, hc2, hrows, hfy⟩ := hv.seen hk; have HC2 := A_ hc2
 have HOW := A_ (show ∀ b, (Value.slice A2 rows.length c2).ownBlock = some b → b < W.heap.size from by
  obtain ⟨cs, h, _⟩ := hv.grow hk hy
  exact own_lt h)
 have HW := A_ hW; have HK := A_ hk; have hfr := A_ hfy; have hb0 := decide_eq_true hf0; have hb1 := decide_eq_true hf1; have HF := A_ ((formedB_f f0 f1 f2 f3 f4 f5).trans (congrArg some hform)); obtain ⟨kn, hkn⟩ : ∃ k, k = f0.toNat := ⟨_, rfl⟩; clear hB hr hc hv hg hfy hc2 hW hk hform; have hd2 : decide (f2 < 0) = false := decide_eq_false (by omega); have he1 : (f2 == -1) = false := beq_eq_false_iff_ne.2 (by omega); have he2 : (f2 == -2) = false := beq_eq_false_iff_ne.2 (by omega); have hda : decide (f1 < 0) = false := decide_eq_false (by omega); have hdb : decide ((rows.length : Int) ≤ f1) = false := decide_eq_false (by omega); have hdc : decide (((rd_L1 rows 0).length : Int) ≤ f2) = false := decide_eq_false (by omega)
 go_enter Try.func44, Try.ntmps44
 go_upto_region 1 with (first | ((with_reducible refine gate_dst (N := 3) rfl ?_); (try (refine gate_guard (by rfl) ?_; dsimp only)); refine box_event ?hg (N := 3) ?hd (cs := #[.int .i64 f0, .int .i64 f1, .int .i64 f2, .int .i64 f3, .int .i64 f4, .slice A5 f5.length c5]) (t := 61) ?hr ?_; (case hd => rfl); (case hg => rfl); (case hr => first | (go_simp; done) | (go_simp; rfl)); intro gb hg w1 hbox hb1; have n0_ := A_ (below_step HB.out hb1); have n1_ := A_ (HV.out.below hb1); have n2_ := A_ (show gb < w1.heap.size from (Array.getElem?_eq_some_iff.1 hbox).1);  have n3_ := cell_below hb1 hy; clear hy; have hy := n3_; clear n3_; have HNG := A_ (fun b (hb : (Value.slice A2 rows.length c2).ownBlock = some b) => (by have := HOW.out b hb; omega : b ≠ gb)); clear HB HV; have HB := n0_; have HV := n1_; have GL := n2_; clear n0_ n1_ n2_; obtain ⟨hz0, hz1, hz2, hz3, hz4, hz5⟩ := k6_ (A_ hbox); clear hb1 hbox hg))
 go_cut [5] (fun v5 wc => v5 = .bool true ∧ w1 = wc)
 case first =>
  go_wp2
  go_meet
  case rel => exact ⟨rfl, rfl⟩
 case rest =>
  obtain ⟨rfl, rfl⟩ := hcut
  go_upto_region 2 with (fail)
  replace HB : Aside0 (Below w.heap.size w w1.drew) := ⟨below_drew HB.out⟩; replace HV : Aside0 (WRep w1.drew w.heap.size (.slice (some ad) l.length c) l) := HV; replace GL : Aside0 (gb < w1.drew.heap.size) := GL; replace hz0 := dr_ hz0; replace hz1 := dr_ hz1; replace hz2 := dr_ hz2; replace hz3 := dr_ hz3; replace hz4 := dr_ hz4; replace hz5 := dr_ hz5; replace hy := dr_ hy; refine start_ (n := 34) (S := fun w' => w'.cell? ⟨gb, 0, none⟩ = some (.int .i64 f0) ∧ w'.cell? ⟨gb, 1, none⟩ = some (.int .i64 f1) ∧ w'.cell? ⟨gb, 2, none⟩ = some (.int .i64 f2) ∧ w'.cell? ⟨gb, 3, none⟩ = some (.int .i64 f3) ∧ w'.cell? ⟨gb, 4, none⟩ = some (.int .i64 f4) ∧ w'.cell? ⟨gb, 5, none⟩ = some (.slice A5 f5.length c5) ∧ w'.cell? (ad.add f0.toNat) = some (.slice A2 rows.length c2)) (ds := []) (B_ 34 0) (by kernel_rfl) rfl rfl ⟨hz0, hz1, hz2, hz3, hz4, hz5, hy⟩ (fun hHeld => ?_); generalize w1.drew = w2 at HB HV GL hHeld hz0 hz1 hz2 hz3 hz4 hz5 hy ⊢; refine t_ 0 17 (B_ 34 1) hHeld ?_; refine one_ (i := 1) (N := some 18) (B_ 34 3) rfl rfl (by kernel_rfl) (by decide) (fun K hK => ?_); refine goes_ Try.func66 (by kernel_rfl) rfl #[.agg #[.int .i64 f0, .int .i64 f1, .int .i64 f2, .int .i64 f3, .int .i64 f4, .slice A5 f5.length c5]] (by rfl) rfl rfl (by simp only [List.map_toArray, List.map_cons, List.map_nil]; rfl) ?_
  with_reducible refine (diff_Change_formed.calls f0 f1 f2 f3 f4 A5 c5 f5 true w2 (Kd.C_below HR.out HB.out) HC.out HF.out).mono ?_
  rintro e w3 ⟨rfl, hb⟩; refine ⟨_, rfl, ?_⟩; replace HB := A_ (below_step HB.out hb); replace HV := A_ (HV.out.below hb); replace GL := A_ (Nat.lt_of_lt_of_le GL.out hb.size); replace hz0 := cell_below hb hz0; replace hz1 := cell_below hb hz1; replace hz2 := cell_below hb hz2; replace hz3 := cell_below hb hz3; replace hz4 := cell_below hb hz4; replace hz5 := cell_below hb hz5; replace hy := cell_below hb hy; clear hb; refine hK.out _ _ ⟨hz0, hz1, hz2, hz3, hz4, hz5, hy⟩ (fun hHeld => ?_); clear hK K; refine norm_ (a' := ?_) ?_ ?_; rotate_left
  ·show Act.put _ (some 18) _ = _
   simp only [Act.put, sA_, sB_, sC_, i64_w, i32_w]; rfl
  refine p_ 2 19 (B_ 34 7) ?_; refine p_ 3 20 (B_ 34 15) ?_; refine p_ 4 21 (B_ 34 31) ?_; refine t_ 5 22 (B_ 34 63) hHeld ?_; refine p_ 6 23 (B_ 34 127) ?_; refine p_ 7 24 (B_ 34 255) ?_; refine q_ 8 25 (B_ 34 511) ?_; refine p_ 9 26 (B_ 34 1023) ?_; refine p_ 10 27 (B_ 34 2047) ?_; refine q_ 11 28 (B_ 34 4095) ?_; refine q_ 12 29 (B_ 34 8191) ?_; refine q_ 13 30 (B_ 34 16383) ?_; refine q_ 14 31 (B_ 34 32767) ?_; refine q_ 15 32 (B_ 34 65535) ?_; refine q_ 16 33 (B_ 34 131071) ?_; refine q_ 17 34 (B_ 34 262143) ?_; refine p_ 18 35 (B_ 34 524287) ?_; refine p_ 19 36 (B_ 34 1048575) ?_; refine q_ 20 37 (B_ 34 2097151) ?_; refine q_ 21 38 (B_ 34 4194303) ?_; refine q_ 22 39 (B_ 34 8388607) ?_; refine q_ 23 40 (B_ 34 16777215) ?_; refine q_ 24 41 (B_ 34 33554431) ?_; refine q_ 25 42 (B_ 34 67108863) ?_; refine q_ 26 43 (B_ 34 134217727) ?_; refine q_ 27 44 (B_ 34 268435455) ?_; refine q_ 28 45 (B_ 34 536870911) ?_; refine q_ 29 46 (B_ 34 1073741823) ?_; refine q_ 30 47 (B_ 34 2147483647) ?_; refine q_ 31 48 (B_ 34 4294967295) ?_; refine p_ 32 49 (B_ 34 8589934591) ?_; refine p_ 33 50 (B_ 34 17179869183) ?_; refine done_ (by kernel_rfl) ?_; obtain ⟨r0, hr0⟩ : ∃ r0, rows[0]? = some r0 := ⟨_, List.getElem?_eq_getElem (l := rows) (i := 0) (by omega)⟩; obtain ⟨ad2, A3, c3, rfl, hq, hc3, _⟩ := HV.out.record HK.out hy hr0
  have hrd : rd_L1 rows 0 = r0 := by simp [rd_L1, List.getD_eq_getElem?_getD, hr0]
  have hq0 : w3.cell? ad2 = some (.slice A3 r0.length c3) := by rw [Addr.add_zero'] at hq; exact hq
  have qi : (0 < rows.length) = True := eq_true (by omega); have HC3 := A_ hc3; clear hc3 hq; rw [hrd] at hdc; rw [hrd] at h3; obtain ⟨r1, hr1⟩ : ∃ r1, rows[f1.toNat]? = some r1 := ⟨_, List.getElem?_eq_getElem (l := rows) (i := f1.toNat) (by omega)⟩
  have hl1 : r1.length = r0.length := by rw [HW.out _ _ hr1, hrd]
  have hrd1 : rd_L1 rows f1 = r1 := by simp [rd_L1, List.getD_eq_getElem?_getD, hr1]
  obtain ⟨ad2', A4, c4, e4, hq4, hc4, _, hst⟩ := HV.out.record HK.out hy hr1
  cases e4
  obtain ⟨ad4, rfl, hq5, hf5, hb5, hst⟩ := hst f2.toNat (by omega)
  have hrd2 : rd (rd_L1 rows f1) f2 = rd r1 f2 := by rw [hrd1]
  have hq6 : w3.cell? (ad4.add f2.toNat) = some (.int .i64 (rd r1 f2)) := by
   rw [hq5]
   have : ((f2.toNat : Nat) : Int) = f2 := by omega
   rw [this]
  have HC4 := A_ hc4; have HF5 := A_ hf5; have HB5 := A_ hb5; have HST := A_ hst; clear hq5 hf5 hb5 hst hc4
  have hne : (rd r1 f2 != f3) = false := by rw [hrd2] at hok; exact bne_eq_false_iff_eq.2 hok
  go_upto_region 8 with (fail)
  go_quiet (fail)
  go_upto_region 10 with (fail)
  go_quiet (fail)
  go_upto_region 12 with (fail)
  have hfz := HF5.out
  go_region
  go_wp2; go_ret; refine ⟨rfl, ?_, ?_⟩; (· rw [hrd1]; exact HST.out f4); (· exact Below.setCell (pw_below_drewN HB.out _) (by rw [add_block]; exact HB5.out) _)
set_option maxHeartbeats 4000000 in
set_option maxRecDepth 100000 in
theorem apply_take5_e (w W : World) (v : Value) (l : Wd) (f0 f1 f2 f3 f4 : Int) (A5 : Option Addr) (c5 : Nat) (f5 : List Int) (hB : Below w.heap.size w W) (hv : WRep W w.heap.size v l) (hr : Kd.C (Kd.int .i64) w A5 f5.length f5) (hc : f5.length ≤ c5)
  (hform : formedB f2 f3 f4 f5 = true) (hf0 : 0 ≤ f0) (hf1 : f0 < l.length) (rows : List (List Int)) (hk : l[f0.toNat]? = some rows) (hn : rows.length < 5864062014805) (hW : ∀ (i : Nat) r, rows[i]? = some r → r.length = (rd_L1 rows 0).length) (hz : rows.length = 0) (h2 : f2 = -2) :
  Calls Try.prog 44 #[v, .agg #[.int .i64 f0, .int .i64 f1, .int .i64 f2, .int .i64 f3, .int .i64 f4, .slice A5 f5.length c5]] W fun e W' => e = .returned (.int .i64 5) ∧ WRep W' w.heap.size v l ∧ Below w.heap.size w W' := by
 have hu61 := Try.underlying61; have HB := A_ hB; have HR := A_ hr; have HC := A_ hc; have HV := A_ hv; obtain ⟨ad, c, rfl, hg⟩ := hv.known hk; have HG := A_ hg
 have hlen : l.length ≤ 9223372036854775807 := by
  obtain ⟨_, _, h⟩ := hv; obtain ⟨A, c, e, hl, _⟩ := h.top; exact hl
 obtain ⟨A2, c2, hy, hc2, hrows, hfy⟩ := hv.seen hk; have HC2 := A_ hc2
 have HOW := A_ (show ∀ b, (Value.slice A2 rows.length c2).ownBlock = some b → b < W.heap.size from by
  obtain ⟨cs, h, _⟩ := hv.grow hk hy
  exact own_lt h)
 have HW := A_ hW; have HK := A_ hk; have hfr := A_ hfy; have hb0 := decide_eq_true hf0; have hb1 := decide_eq_true hf1; have HF := A_ ((formedB_f f0 f1 f2 f3 f4 f5).trans (congrArg some hform)); obtain ⟨kn, hkn⟩ : ∃ k, k = f0.toNat := ⟨_, rfl⟩; clear hB hr hc hv hg hfy hc2 hW hk hform; have hd2 : decide (f2 < 0) = true := decide_eq_true (by omega); have hp0 : decide (0 < (rows.length : Int)) = false := decide_eq_false (by omega); have hp1 : decide (0 < rows.length) = false := decide_eq_false (by omega); have he1 : (f2 == -1) = false := beq_eq_false_iff_ne.2 (by omega); have he2 : (f2 == -2) = true := beq_iff_eq.2 h2; have hl0 : ((rows.length : Int) == 0) = true := beq_iff_eq.2 (by omega); have Ah2 := A_ h2; clear h2; have Ahz := A_ hz; clear hz
 go_enter Try.func44, Try.ntmps44
 go_upto_region 1 with (first | ((with_reducible refine gate_dst (N := 3) rfl ?_); (try (refine gate_guard (by rfl) ?_; dsimp only)); refine box_event ?hg (N := 3) ?hd (cs := #[.int .i64 f0, .int .i64 f1, .int .i64 f2, .int .i64 f3, .int .i64 f4, .slice A5 f5.length c5]) (t := 61) ?hr ?_; (case hd => rfl); (case hg => rfl); (case hr => first | (go_simp; done) | (go_simp; rfl)); intro gb hg w1 hbox hb1; have n0_ := A_ (below_step HB.out hb1); have n1_ := A_ (HV.out.below hb1); have n2_ := A_ (show gb < w1.heap.size from (Array.getElem?_eq_some_iff.1 hbox).1);  have n3_ := cell_below hb1 hy; clear hy; have hy := n3_; clear n3_; have HNG := A_ (fun b (hb : (Value.slice A2 rows.length c2).ownBlock = some b) => (by have := HOW.out b hb; omega : b ≠ gb)); clear HB HV; have HB := n0_; have HV := n1_; have GL := n2_; clear n0_ n1_ n2_; obtain ⟨hz0, hz1, hz2, hz3, hz4, hz5⟩ := k6_ (A_ hbox); clear hb1 hbox hg))
 go_cut [5] (fun v5 wc => v5 = .bool true ∧ w1 = wc)
 case first =>
  go_wp2
  go_meet
  case rel => exact ⟨rfl, rfl⟩
 case rest =>
  obtain ⟨rfl, rfl⟩ := hcut
  go_upto_region 2 with (fail)
  replace HB : Aside0 (Below w.heap.size w w1.drew) := ⟨below_drew HB.out⟩; replace HV : Aside0 (WRep w1.drew w.heap.size (.slice (some ad) l.length c) l) := HV; replace GL : Aside0 (gb < w1.drew.heap.size) := GL; replace hz0 := dr_ hz0; replace hz1 := dr_ hz1; replace hz2 := dr_ hz2; replace hz3 := dr_ hz3; replace hz4 := dr_ hz4; replace hz5 := dr_ hz5; replace hy := dr_ hy; refine start_ (n := 34) (S := fun w' => w'.cell? ⟨gb, 0, none⟩ = some (.int .i64 f0) ∧ w'.cell? ⟨gb, 1, none⟩ = some (.int .i64 f1) ∧ w'.cell? ⟨gb, 2, none⟩ = some (.int .i64 f2) ∧ w'.cell? ⟨gb, 3, none⟩ = some (.int .i64 f3) ∧ w'.cell? ⟨gb, 4, none⟩ = some (.int .i64 f4) ∧ w'.cell? ⟨gb, 5, none⟩ = some (.slice A5 f5.length c5) ∧ w'.cell? (ad.add f0.toNat) = some (.slice A2 rows.length c2)) (ds := []) (B_ 34 0) (by kernel_rfl) rfl rfl ⟨hz0, hz1, hz2, hz3, hz4, hz5, hy⟩ (fun hHeld => ?_); generalize w1.drew = w2 at HB HV GL hHeld hz0 hz1 hz2 hz3 hz4 hz5 hy ⊢; refine t_ 0 17 (B_ 34 1) hHeld ?_; refine one_ (i := 1) (N := some 18) (B_ 34 3) rfl rfl (by kernel_rfl) (by decide) (fun K hK => ?_); refine goes_ Try.func66 (by kernel_rfl) rfl #[.agg #[.int .i64 f0, .int .i64 f1, .int .i64 f2, .int .i64 f3, .int .i64 f4, .slice A5 f5.length c5]] (by rfl) rfl rfl (by simp only [List.map_toArray, List.map_cons, List.map_nil]; rfl) ?_
  with_reducible refine (diff_Change_formed.calls f0 f1 f2 f3 f4 A5 c5 f5 true w2 (Kd.C_below HR.out HB.out) HC.out HF.out).mono ?_
  rintro e w3 ⟨rfl, hb⟩; refine ⟨_, rfl, ?_⟩; replace HB := A_ (below_step HB.out hb); replace HV := A_ (HV.out.below hb); replace GL := A_ (Nat.lt_of_lt_of_le GL.out hb.size); replace hz0 := cell_below hb hz0; replace hz1 := cell_below hb hz1; replace hz2 := cell_below hb hz2; replace hz3 := cell_below hb hz3; replace hz4 := cell_below hb hz4; replace hz5 := cell_below hb hz5; replace hy := cell_below hb hy; clear hb; refine hK.out _ _ ⟨hz0, hz1, hz2, hz3, hz4, hz5, hy⟩ (fun hHeld => ?_); clear hK K; refine norm_ (a' := ?_) ?_ ?_; rotate_left
  ·show Act.put _ (some 18) _ = _
   simp only [Act.put, sA_, sB_, sC_, i64_w, i32_w]; rfl
  refine p_ 2 19 (B_ 34 7) ?_; refine p_ 3 20 (B_ 34 15) ?_; refine p_ 4 21 (B_ 34 31) ?_; refine t_ 5 22 (B_ 34 63) hHeld ?_; refine p_ 6 23 (B_ 34 127) ?_; refine p_ 7 24 (B_ 34 255) ?_; refine p_ 8 25 (B_ 34 511) ?_; refine p_ 9 26 (B_ 34 1023) ?_; refine p_ 10 27 (B_ 34 2047) ?_; refine p_ 11 28 (B_ 34 4095) ?_; refine p_ 12 29 (B_ 34 8191) ?_; refine t_ 13 30 (B_ 34 16383) hHeld ?_; refine p_ 14 31 (B_ 34 32767) ?_; refine t_ 15 32 (B_ 34 65535) hHeld ?_; refine p_ 16 33 (B_ 34 131071) ?_; refine p_ 17 34 (B_ 34 262143) ?_; refine p_ 18 35 (B_ 34 524287) ?_; refine p_ 19 36 (B_ 34 1048575) ?_; refine q_ 20 37 (B_ 34 2097151) ?_; refine q_ 21 38 (B_ 34 4194303) ?_; refine q_ 22 39 (B_ 34 8388607) ?_; refine q_ 23 40 (B_ 34 16777215) ?_; refine q_ 24 41 (B_ 34 33554431) ?_; refine q_ 25 42 (B_ 34 67108863) ?_; refine q_ 26 43 (B_ 34 134217727) ?_; refine q_ 27 44 (B_ 34 268435455) ?_; refine q_ 28 45 (B_ 34 536870911) ?_; refine q_ 29 46 (B_ 34 1073741823) ?_; refine q_ 30 47 (B_ 34 2147483647) ?_; refine q_ 31 48 (B_ 34 4294967295) ?_; refine p_ 32 49 (B_ 34 8589934591) ?_; refine p_ 33 50 (B_ 34 17179869183) ?_; refine done_ (by kernel_rfl) ?_; go_wp2; go_ret; exact ⟨rfl, HV.out, by first | exact HB.out | exact pw_below_drewN HB.out _ | exact pw_below_drewN (pw_below_drewN HB.out _) _⟩
set_option maxHeartbeats 4000000 in
set_option maxRecDepth 100000 in
theorem apply_take5_f (w W : World) (v : Value) (l : Wd) (f0 f1 f2 f3 f4 : Int) (A5 : Option Addr) (c5 : Nat) (f5 : List Int) (hB : Below w.heap.size w W) (hv : WRep W w.heap.size v l) (hr : Kd.C (Kd.int .i64) w A5 f5.length f5) (hc : f5.length ≤ c5)
  (hform : formedB f2 f3 f4 f5 = true) (hf0 : 0 ≤ f0) (hf1 : f0 < l.length) (rows : List (List Int)) (hk : l[f0.toNat]? = some rows) (hn : rows.length < 5864062014805) (hW : ∀ (i : Nat) r, rows[i]? = some r → r.length = (rd_L1 rows 0).length) (hz : 0 < rows.length) (hlen5 : f5.length = (rd_L1 rows 0).length) (h2 : f2 = -2) (hbad : f1 ≠ rows.length - 1) :
  Calls Try.prog 44 #[v, .agg #[.int .i64 f0, .int .i64 f1, .int .i64 f2, .int .i64 f3, .int .i64 f4, .slice A5 f5.length c5]] W fun e W' => e = .returned (.int .i64 5) ∧ WRep W' w.heap.size v l ∧ Below w.heap.size w W' := by
 have hu61 := Try.underlying61; have HB := A_ hB; have HR := A_ hr; have HC := A_ hc; have HV := A_ hv; obtain ⟨ad, c, rfl, hg⟩ := hv.known hk; have HG := A_ hg
 have hlen : l.length ≤ 9223372036854775807 := by
  obtain ⟨_, _, h⟩ := hv; obtain ⟨A, c, e, hl, _⟩ := h.top; exact hl
 obtain ⟨A2, c2, hy, hc2, hrows, hfy⟩ := hv.seen hk; have HC2 := A_ hc2
 have HOW := A_ (show ∀ b, (Value.slice A2 rows.length c2).ownBlock = some b → b < W.heap.size from by
  obtain ⟨cs, h, _⟩ := hv.grow hk hy
  exact own_lt h)
 have HW := A_ hW; have HK := A_ hk; have hfr := A_ hfy; have hb0 := decide_eq_true hf0; have hb1 := decide_eq_true hf1; have HF := A_ ((formedB_f f0 f1 f2 f3 f4 f5).trans (congrArg some hform)); obtain ⟨kn, hkn⟩ : ∃ k, k = f0.toNat := ⟨_, rfl⟩; clear hB hr hc hv hg hfy hc2 hW hk hform; have hd2 : decide (f2 < 0) = true := decide_eq_true (by omega); have hp0 : decide (0 < (rows.length : Int)) = true := decide_eq_true (by omega); have hp1 : decide (0 < rows.length) = true := decide_eq_true (by omega); have he1 : (f2 == -1) = false := beq_eq_false_iff_ne.2 (by omega); have he2 : (f2 == -2) = true := beq_iff_eq.2 h2; have hl0 : ((rows.length : Int) == 0) = false := beq_eq_false_iff_ne.2 (by omega); have hne : (f1 != (rows.length : Int) - 1) = true := bne_iff_ne.2 hbad; obtain ⟨r0, hr0⟩ : ∃ r0, rows[0]? = some r0 := ⟨_, List.getElem?_eq_getElem (l := rows) (i := 0) (by omega)⟩; obtain ⟨ad2, A3, c3, rfl, hq, hc3, _⟩ := HV.out.record HK.out hy hr0
 have hrd : r0 = rd_L1 rows 0 := by simp [rd_L1, List.getD_eq_getElem?_getD, hr0]
 have HC3 := A_ hc3; clear hc3; have hl50 : (f5.length != r0.length) = false := bne_eq_false_iff_eq.2 (by rw [hrd]; exact hlen5); have hl51 : ((f5.length : Int) != (r0.length : Int)) = false := bne_eq_false_iff_eq.2 (by rw [hrd, hlen5]); rw [Addr.add_zero'] at hq; have qi : (0 < rows.length) = True := eq_true (by omega); clear hlen5 hrd; have Ah2 := A_ h2; clear h2; have Ahz := A_ hz; clear hz; have Ahbad := A_ hbad; clear hbad
 go_enter Try.func44, Try.ntmps44
 go_upto_region 1 with (first | ((with_reducible refine gate_dst (N := 3) rfl ?_); (try (refine gate_guard (by rfl) ?_; dsimp only)); refine box_event ?hg (N := 3) ?hd (cs := #[.int .i64 f0, .int .i64 f1, .int .i64 f2, .int .i64 f3, .int .i64 f4, .slice A5 f5.length c5]) (t := 61) ?hr ?_; (case hd => rfl); (case hg => rfl); (case hr => first | (go_simp; done) | (go_simp; rfl)); intro gb hg w1 hbox hb1; have n0_ := A_ (below_step HB.out hb1); have n1_ := A_ (HV.out.below hb1); have n2_ := A_ (show gb < w1.heap.size from (Array.getElem?_eq_some_iff.1 hbox).1);  have n3_ := cell_below hb1 hy; clear hy; have hy := n3_; clear n3_; have HNG := A_ (fun b (hb : (Value.slice (some ad2) rows.length c2).ownBlock = some b) => (by have := HOW.out b hb; omega : b ≠ gb)); have n3_ := cell_below hb1 hq; clear hq; have hq := n3_; clear n3_; clear HB HV; have HB := n0_; have HV := n1_; have GL := n2_; clear n0_ n1_ n2_; obtain ⟨hz0, hz1, hz2, hz3, hz4, hz5⟩ := k6_ (A_ hbox); clear hb1 hbox hg))
 go_cut [5] (fun v5 wc => v5 = .bool true ∧ w1 = wc)
 case first =>
  go_wp2
  go_meet
  case rel => exact ⟨rfl, rfl⟩
 case rest =>
  obtain ⟨rfl, rfl⟩ := hcut
  go_upto_region 2 with (fail)
  replace HB : Aside0 (Below w.heap.size w w1.drew) := ⟨below_drew HB.out⟩; replace HV : Aside0 (WRep w1.drew w.heap.size (.slice (some ad) l.length c) l) := HV; replace GL : Aside0 (gb < w1.drew.heap.size) := GL; replace hz0 := dr_ hz0; replace hz1 := dr_ hz1; replace hz2 := dr_ hz2; replace hz3 := dr_ hz3; replace hz4 := dr_ hz4; replace hz5 := dr_ hz5; replace hy := dr_ hy; replace hq := dr_ hq; refine start_ (n := 34) (S := fun w' => w'.cell? ⟨gb, 0, none⟩ = some (.int .i64 f0) ∧ w'.cell? ⟨gb, 1, none⟩ = some (.int .i64 f1) ∧ w'.cell? ⟨gb, 2, none⟩ = some (.int .i64 f2) ∧ w'.cell? ⟨gb, 3, none⟩ = some (.int .i64 f3) ∧ w'.cell? ⟨gb, 4, none⟩ = some (.int .i64 f4) ∧ w'.cell? ⟨gb, 5, none⟩ = some (.slice A5 f5.length c5) ∧ w'.cell? (ad.add f0.toNat) = some (.slice (some ad2) rows.length c2) ∧ w'.cell? ad2 = some (.slice A3 r0.length c3)) (ds := []) (B_ 34 0) (by kernel_rfl) rfl rfl ⟨hz0, hz1, hz2, hz3, hz4, hz5, hy, hq⟩ (fun hHeld => ?_); generalize w1.drew = w2 at HB HV GL hHeld hz0 hz1 hz2 hz3 hz4 hz5 hy hq ⊢; refine t_ 0 17 (B_ 34 1) hHeld ?_; refine one_ (i := 1) (N := some 18) (B_ 34 3) rfl rfl (by kernel_rfl) (by decide) (fun K hK => ?_); refine goes_ Try.func66 (by kernel_rfl) rfl #[.agg #[.int .i64 f0, .int .i64 f1, .int .i64 f2, .int .i64 f3, .int .i64 f4, .slice A5 f5.length c5]] (by rfl) rfl rfl (by simp only [List.map_toArray, List.map_cons, List.map_nil]; rfl) ?_
  with_reducible refine (diff_Change_formed.calls f0 f1 f2 f3 f4 A5 c5 f5 true w2 (Kd.C_below HR.out HB.out) HC.out HF.out).mono ?_
  rintro e w3 ⟨rfl, hb⟩; refine ⟨_, rfl, ?_⟩; replace HB := A_ (below_step HB.out hb); replace HV := A_ (HV.out.below hb); replace GL := A_ (Nat.lt_of_lt_of_le GL.out hb.size); replace hz0 := cell_below hb hz0; replace hz1 := cell_below hb hz1; replace hz2 := cell_below hb hz2; replace hz3 := cell_below hb hz3; replace hz4 := cell_below hb hz4; replace hz5 := cell_below hb hz5; replace hy := cell_below hb hy; replace hq := cell_below hb hq; clear hb; refine hK.out _ _ ⟨hz0, hz1, hz2, hz3, hz4, hz5, hy, hq⟩ (fun hHeld => ?_); clear hK K; refine norm_ (a' := ?_) ?_ ?_; rotate_left
  ·show Act.put _ (some 18) _ = _
   simp only [Act.put, sA_, sB_, sC_, i64_w, i32_w]; rfl
  refine p_ 2 19 (B_ 34 7) ?_; refine p_ 3 20 (B_ 34 15) ?_; refine p_ 4 21 (B_ 34 31) ?_; refine t_ 5 22 (B_ 34 63) hHeld ?_; refine p_ 6 23 (B_ 34 127) ?_; refine p_ 7 24 (B_ 34 255) ?_; refine p_ 8 25 (B_ 34 511) ?_; refine p_ 9 26 (B_ 34 1023) ?_; refine p_ 10 27 (B_ 34 2047) ?_; refine p_ 11 28 (B_ 34 4095) ?_; refine p_ 12 29 (B_ 34 8191) ?_; refine t_ 13 30 (B_ 34 16383) hHeld ?_; refine p_ 14 31 (B_ 34 32767) ?_; refine t_ 15 32 (B_ 34 65535) hHeld ?_; refine p_ 16 33 (B_ 34 131071) ?_; refine p_ 17 34 (B_ 34 262143) ?_; refine p_ 18 35 (B_ 34 524287) ?_; refine p_ 19 36 (B_ 34 1048575) ?_; refine p_ 20 37 (B_ 34 2097151) ?_; refine p_ 23 40 (B_ 34 10485759) ?_; refine p_ 24 41 (B_ 34 27262975) ?_; refine t_ 21 38 (B_ 34 29360127) hHeld ?_; refine p_ 22 39 (B_ 34 33554431) ?_; refine t_ 25 42 (B_ 34 67108863) hHeld ?_; refine p_ 26 43 (B_ 34 134217727) ?_; refine t_ 27 44 (B_ 34 268435455) hHeld ?_; refine p_ 28 45 (B_ 34 536870911) ?_; refine t_ 29 46 (B_ 34 1073741823) hHeld ?_; refine p_ 30 47 (B_ 34 2147483647) ?_; refine p_ 31 48 (B_ 34 4294967295) ?_; refine p_ 32 49 (B_ 34 8589934591) ?_; refine p_ 33 50 (B_ 34 17179869183) ?_; refine done_ (by kernel_rfl) ?_; go_wp2; go_ret; exact ⟨rfl, HV.out, by first | exact HB.out | exact pw_below_drewN HB.out _ | exact pw_below_drewN (pw_below_drewN HB.out _) _⟩
set_option maxHeartbeats 4000000 in
set_option maxRecDepth 100000 in
theorem apply_add5_e (w W : World) (v : Value) (l : Wd) (f0 f1 f2 f3 f4 : Int) (A5 : Option Addr) (c5 : Nat) (f5 : List Int) (hB : Below w.heap.size w W) (hv : WRep W w.heap.size v l) (hr : Kd.C (Kd.int .i64) w A5 f5.length f5) (hc : f5.length ≤ c5)
  (hform : formedB f2 f3 f4 f5 = true) (hf0 : 0 ≤ f0) (hf1 : f0 < l.length) (rows : List (List Int)) (hk : l[f0.toNat]? = some rows) (hn : rows.length < 5864062014805) (hW : ∀ (i : Nat) r, rows[i]? = some r → r.length = (rd_L1 rows 0).length) (hz : rows.length = 0) (h2 : f2 = -1) (hbad : f1 ≠ rows.length) :
  Calls Try.prog 44 #[v, .agg #[.int .i64 f0, .int .i64 f1, .int .i64 f2, .int .i64 f3, .int .i64 f4, .slice A5 f5.length c5]] W fun e W' => e = .returned (.int .i64 5) ∧ WRep W' w.heap.size v l ∧ Below w.heap.size w W' := by
 have hu61 := Try.underlying61; have HB := A_ hB; have HR := A_ hr; have HC := A_ hc; have HV := A_ hv; obtain ⟨ad, c, rfl, hg⟩ := hv.known hk; have HG := A_ hg
 have hlen : l.length ≤ 9223372036854775807 := by
  obtain ⟨_, _, h⟩ := hv; obtain ⟨A, c, e, hl, _⟩ := h.top; exact hl
 obtain ⟨A2, c2, hy, hc2, hrows, hfy⟩ := hv.seen hk; have HC2 := A_ hc2
 have HOW := A_ (show ∀ b, (Value.slice A2 rows.length c2).ownBlock = some b → b < W.heap.size from by
  obtain ⟨cs, h, _⟩ := hv.grow hk hy
  exact own_lt h)
 have HW := A_ hW; have HK := A_ hk; have hfr := A_ hfy; have hb0 := decide_eq_true hf0; have hb1 := decide_eq_true hf1; have HF := A_ ((formedB_f f0 f1 f2 f3 f4 f5).trans (congrArg some hform)); obtain ⟨kn, hkn⟩ : ∃ k, k = f0.toNat := ⟨_, rfl⟩; clear hB hr hc hv hg hfy hc2 hW hk hform; have hd2 : decide (f2 < 0) = true := decide_eq_true (by omega); have hp0 : decide (0 < (rows.length : Int)) = false := decide_eq_false (by omega); have hp1 : decide (0 < rows.length) = false := decide_eq_false (by omega); have he1 : (f2 == -1) = true := beq_iff_eq.2 h2; have hne : (f1 != (rows.length : Int)) = true := bne_iff_ne.2 hbad; have Ah2 := A_ h2; clear h2; have Ahz := A_ hz; clear hz; have Ahbad := A_ hbad; clear hbad
 go_enter Try.func44, Try.ntmps44
 go_upto_region 1 with (first | ((with_reducible refine gate_dst (N := 3) rfl ?_); (try (refine gate_guard (by rfl) ?_; dsimp only)); refine box_event ?hg (N := 3) ?hd (cs := #[.int .i64 f0, .int .i64 f1, .int .i64 f2, .int .i64 f3, .int .i64 f4, .slice A5 f5.length c5]) (t := 61) ?hr ?_; (case hd => rfl); (case hg => rfl); (case hr => first | (go_simp; done) | (go_simp; rfl)); intro gb hg w1 hbox hb1; have n0_ := A_ (below_step HB.out hb1); have n1_ := A_ (HV.out.below hb1); have n2_ := A_ (show gb < w1.heap.size from (Array.getElem?_eq_some_iff.1 hbox).1);  have n3_ := cell_below hb1 hy; clear hy; have hy := n3_; clear n3_; have HNG := A_ (fun b (hb : (Value.slice A2 rows.length c2).ownBlock = some b) => (by have := HOW.out b hb; omega : b ≠ gb)); clear HB HV; have HB := n0_; have HV := n1_; have GL := n2_; clear n0_ n1_ n2_; obtain ⟨hz0, hz1, hz2, hz3, hz4, hz5⟩ := k6_ (A_ hbox); clear hb1 hbox hg))
 go_cut [5] (fun v5 wc => v5 = .bool true ∧ w1 = wc)
 case first =>
  go_wp2
  go_meet
  case rel => exact ⟨rfl, rfl⟩
 case rest =>
  obtain ⟨rfl, rfl⟩ := hcut
  go_upto_region 2 with (fail)
  replace HB : Aside0 (Below w.heap.size w w1.drew) := ⟨below_drew HB.out⟩; replace HV : Aside0 (WRep w1.drew w.heap.size (.slice (some ad) l.length c) l) := HV; replace GL : Aside0 (gb < w1.drew.heap.size) := GL; replace hz0 := dr_ hz0; replace hz1 := dr_ hz1; replace hz2 := dr_ hz2; replace hz3 := dr_ hz3; replace hz4 := dr_ hz4; replace hz5 := dr_ hz5; replace hy := dr_ hy; refine start_ (n := 34) (S := fun w' => w'.cell? ⟨gb, 0, none⟩ = some (.int .i64 f0) ∧ w'.cell? ⟨gb, 1, none⟩ = some (.int .i64 f1) ∧ w'.cell? ⟨gb, 2, none⟩ = some (.int .i64 f2) ∧ w'.cell? ⟨gb, 3, none⟩ = some (.int .i64 f3) ∧ w'.cell? ⟨gb, 4, none⟩ = some (.int .i64 f4) ∧ w'.cell? ⟨gb, 5, none⟩ = some (.slice A5 f5.length c5) ∧ w'.cell? (ad.add f0.toNat) = some (.slice A2 rows.length c2)) (ds := []) (B_ 34 0) (by kernel_rfl) rfl rfl ⟨hz0, hz1, hz2, hz3, hz4, hz5, hy⟩ (fun hHeld => ?_); generalize w1.drew = w2 at HB HV GL hHeld hz0 hz1 hz2 hz3 hz4 hz5 hy ⊢; refine t_ 0 17 (B_ 34 1) hHeld ?_; refine one_ (i := 1) (N := some 18) (B_ 34 3) rfl rfl (by kernel_rfl) (by decide) (fun K hK => ?_); refine goes_ Try.func66 (by kernel_rfl) rfl #[.agg #[.int .i64 f0, .int .i64 f1, .int .i64 f2, .int .i64 f3, .int .i64 f4, .slice A5 f5.length c5]] (by rfl) rfl rfl (by simp only [List.map_toArray, List.map_cons, List.map_nil]; rfl) ?_
  with_reducible refine (diff_Change_formed.calls f0 f1 f2 f3 f4 A5 c5 f5 true w2 (Kd.C_below HR.out HB.out) HC.out HF.out).mono ?_
  rintro e w3 ⟨rfl, hb⟩; refine ⟨_, rfl, ?_⟩; replace HB := A_ (below_step HB.out hb); replace HV := A_ (HV.out.below hb); replace GL := A_ (Nat.lt_of_lt_of_le GL.out hb.size); replace hz0 := cell_below hb hz0; replace hz1 := cell_below hb hz1; replace hz2 := cell_below hb hz2; replace hz3 := cell_below hb hz3; replace hz4 := cell_below hb hz4; replace hz5 := cell_below hb hz5; replace hy := cell_below hb hy; clear hb; refine hK.out _ _ ⟨hz0, hz1, hz2, hz3, hz4, hz5, hy⟩ (fun hHeld => ?_); clear hK K; refine norm_ (a' := ?_) ?_ ?_; rotate_left
  ·show Act.put _ (some 18) _ = _
   simp only [Act.put, sA_, sB_, sC_, i64_w, i32_w]; rfl
  refine p_ 2 19 (B_ 34 7) ?_; refine p_ 3 20 (B_ 34 15) ?_; refine p_ 4 21 (B_ 34 31) ?_; refine t_ 5 22 (B_ 34 63) hHeld ?_; refine p_ 6 23 (B_ 34 127) ?_; refine p_ 7 24 (B_ 34 255) ?_; refine p_ 8 25 (B_ 34 511) ?_; refine p_ 9 26 (B_ 34 1023) ?_; refine p_ 10 27 (B_ 34 2047) ?_; refine p_ 11 28 (B_ 34 4095) ?_; refine p_ 12 29 (B_ 34 8191) ?_; refine t_ 13 30 (B_ 34 16383) hHeld ?_; refine p_ 14 31 (B_ 34 32767) ?_; refine t_ 15 32 (B_ 34 65535) hHeld ?_; refine p_ 16 33 (B_ 34 131071) ?_; refine p_ 17 34 (B_ 34 262143) ?_; refine p_ 18 35 (B_ 34 524287) ?_; refine p_ 19 36 (B_ 34 1048575) ?_; refine q_ 20 37 (B_ 34 2097151) ?_; refine q_ 21 38 (B_ 34 4194303) ?_; refine q_ 22 39 (B_ 34 8388607) ?_; refine q_ 23 40 (B_ 34 16777215) ?_; refine q_ 24 41 (B_ 34 33554431) ?_; refine q_ 25 42 (B_ 34 67108863) ?_; refine q_ 26 43 (B_ 34 134217727) ?_; refine q_ 27 44 (B_ 34 268435455) ?_; refine q_ 28 45 (B_ 34 536870911) ?_; refine q_ 29 46 (B_ 34 1073741823) ?_; refine q_ 30 47 (B_ 34 2147483647) ?_; refine q_ 31 48 (B_ 34 4294967295) ?_; refine p_ 32 49 (B_ 34 8589934591) ?_; refine p_ 33 50 (B_ 34 17179869183) ?_; refine done_ (by kernel_rfl) ?_; go_wp2; go_ret; exact ⟨rfl, HV.out, by first | exact HB.out | exact pw_below_drewN HB.out _ | exact pw_below_drewN (pw_below_drewN HB.out _) _⟩
set_option maxHeartbeats 4000000 in
set_option maxRecDepth 100000 in
theorem apply_add5_f (w W : World) (v : Value) (l : Wd) (f0 f1 f2 f3 f4 : Int) (A5 : Option Addr) (c5 : Nat) (f5 : List Int) (hB : Below w.heap.size w W) (hv : WRep W w.heap.size v l) (hr : Kd.C (Kd.int .i64) w A5 f5.length f5) (hc : f5.length ≤ c5)
  (hform : formedB f2 f3 f4 f5 = true) (hf0 : 0 ≤ f0) (hf1 : f0 < l.length) (rows : List (List Int)) (hk : l[f0.toNat]? = some rows) (hn : rows.length < 5864062014805) (hW : ∀ (i : Nat) r, rows[i]? = some r → r.length = (rd_L1 rows 0).length) (hz : 0 < rows.length) (hlen5 : f5.length = (rd_L1 rows 0).length) (h2 : f2 = -1) (hbad : f1 ≠ rows.length) :
  Calls Try.prog 44 #[v, .agg #[.int .i64 f0, .int .i64 f1, .int .i64 f2, .int .i64 f3, .int .i64 f4, .slice A5 f5.length c5]] W fun e W' => e = .returned (.int .i64 5) ∧ WRep W' w.heap.size v l ∧ Below w.heap.size w W' := by
 have hu61 := Try.underlying61; have HB := A_ hB; have HR := A_ hr; have HC := A_ hc; have HV := A_ hv; obtain ⟨ad, c, rfl, hg⟩ := hv.known hk; have HG := A_ hg
 have hlen : l.length ≤ 9223372036854775807 := by
  obtain ⟨_, _, h⟩ := hv; obtain ⟨A, c, e, hl, _⟩ := h.top; exact hl
 obtain ⟨A2, c2, hy, hc2, hrows, hfy⟩ := hv.seen hk; have HC2 := A_ hc2
 have HOW := A_ (show ∀ b, (Value.slice A2 rows.length c2).ownBlock = some b → b < W.heap.size from by
  obtain ⟨cs, h, _⟩ := hv.grow hk hy
  exact own_lt h)
 have HW := A_ hW; have HK := A_ hk; have hfr := A_ hfy; have hb0 := decide_eq_true hf0; have hb1 := decide_eq_true hf1; have HF := A_ ((formedB_f f0 f1 f2 f3 f4 f5).trans (congrArg some hform)); obtain ⟨kn, hkn⟩ : ∃ k, k = f0.toNat := ⟨_, rfl⟩; clear hB hr hc hv hg hfy hc2 hW hk hform; have hd2 : decide (f2 < 0) = true := decide_eq_true (by omega); have hp0 : decide (0 < (rows.length : Int)) = true := decide_eq_true (by omega); have hp1 : decide (0 < rows.length) = true := decide_eq_true (by omega); have he1 : (f2 == -1) = true := beq_iff_eq.2 h2; have hne : (f1 != (rows.length : Int)) = true := bne_iff_ne.2 hbad; obtain ⟨r0, hr0⟩ : ∃ r0, rows[0]? = some r0 := ⟨_, List.getElem?_eq_getElem (l := rows) (i := 0) (by omega)⟩; obtain ⟨ad2, A3, c3, rfl, hq, hc3, _⟩ := HV.out.record HK.out hy hr0
 have hrd : r0 = rd_L1 rows 0 := by simp [rd_L1, List.getD_eq_getElem?_getD, hr0]
 have HC3 := A_ hc3; clear hc3; have hl50 : (f5.length != r0.length) = false := bne_eq_false_iff_eq.2 (by rw [hrd]; exact hlen5); have hl51 : ((f5.length : Int) != (r0.length : Int)) = false := bne_eq_false_iff_eq.2 (by rw [hrd, hlen5]); rw [Addr.add_zero'] at hq; have qi : (0 < rows.length) = True := eq_true (by omega); clear hlen5 hrd; have Ah2 := A_ h2; clear h2; have Ahz := A_ hz; clear hz; have Ahbad := A_ hbad; clear hbad
 go_enter Try.func44, Try.ntmps44
 go_upto_region 1 with (first | ((with_reducible refine gate_dst (N := 3) rfl ?_); (try (refine gate_guard (by rfl) ?_; dsimp only)); refine box_event ?hg (N := 3) ?hd (cs := #[.int .i64 f0, .int .i64 f1, .int .i64 f2, .int .i64 f3, .int .i64 f4, .slice A5 f5.length c5]) (t := 61) ?hr ?_; (case hd => rfl); (case hg => rfl); (case hr => first | (go_simp; done) | (go_simp; rfl)); intro gb hg w1 hbox hb1; have n0_ := A_ (below_step HB.out hb1); have n1_ := A_ (HV.out.below hb1); have n2_ := A_ (show gb < w1.heap.size from (Array.getElem?_eq_some_iff.1 hbox).1);  have n3_ := cell_below hb1 hy; clear hy; have hy := n3_; clear n3_; have HNG := A_ (fun b (hb : (Value.slice (some ad2) rows.length c2).ownBlock = some b) => (by have := HOW.out b hb; omega : b ≠ gb)); have n3_ := cell_below hb1 hq; clear hq; have hq := n3_; clear n3_; clear HB HV; have HB := n0_; have HV := n1_; have GL := n2_; clear n0_ n1_ n2_; obtain ⟨hz0, hz1, hz2, hz3, hz4, hz5⟩ := k6_ (A_ hbox); clear hb1 hbox hg))
 go_cut [5] (fun v5 wc => v5 = .bool true ∧ w1 = wc)
 case first =>
  go_wp2
  go_meet
  case rel => exact ⟨rfl, rfl⟩
 case rest =>
  obtain ⟨rfl, rfl⟩ := hcut
  go_upto_region 2 with (fail)
  replace HB : Aside0 (Below w.heap.size w w1.drew) := ⟨below_drew HB.out⟩; replace HV : Aside0 (WRep w1.drew w.heap.size (.slice (some ad) l.length c) l) := HV; replace GL : Aside0 (gb < w1.drew.heap.size) := GL; replace hz0 := dr_ hz0; replace hz1 := dr_ hz1; replace hz2 := dr_ hz2; replace hz3 := dr_ hz3; replace hz4 := dr_ hz4; replace hz5 := dr_ hz5; replace hy := dr_ hy; replace hq := dr_ hq; refine start_ (n := 34) (S := fun w' => w'.cell? ⟨gb, 0, none⟩ = some (.int .i64 f0) ∧ w'.cell? ⟨gb, 1, none⟩ = some (.int .i64 f1) ∧ w'.cell? ⟨gb, 2, none⟩ = some (.int .i64 f2) ∧ w'.cell? ⟨gb, 3, none⟩ = some (.int .i64 f3) ∧ w'.cell? ⟨gb, 4, none⟩ = some (.int .i64 f4) ∧ w'.cell? ⟨gb, 5, none⟩ = some (.slice A5 f5.length c5) ∧ w'.cell? (ad.add f0.toNat) = some (.slice (some ad2) rows.length c2) ∧ w'.cell? ad2 = some (.slice A3 r0.length c3)) (ds := []) (B_ 34 0) (by kernel_rfl) rfl rfl ⟨hz0, hz1, hz2, hz3, hz4, hz5, hy, hq⟩ (fun hHeld => ?_); generalize w1.drew = w2 at HB HV GL hHeld hz0 hz1 hz2 hz3 hz4 hz5 hy hq ⊢; refine t_ 0 17 (B_ 34 1) hHeld ?_; refine one_ (i := 1) (N := some 18) (B_ 34 3) rfl rfl (by kernel_rfl) (by decide) (fun K hK => ?_); refine goes_ Try.func66 (by kernel_rfl) rfl #[.agg #[.int .i64 f0, .int .i64 f1, .int .i64 f2, .int .i64 f3, .int .i64 f4, .slice A5 f5.length c5]] (by rfl) rfl rfl (by simp only [List.map_toArray, List.map_cons, List.map_nil]; rfl) ?_
  with_reducible refine (diff_Change_formed.calls f0 f1 f2 f3 f4 A5 c5 f5 true w2 (Kd.C_below HR.out HB.out) HC.out HF.out).mono ?_
  rintro e w3 ⟨rfl, hb⟩; refine ⟨_, rfl, ?_⟩; replace HB := A_ (below_step HB.out hb); replace HV := A_ (HV.out.below hb); replace GL := A_ (Nat.lt_of_lt_of_le GL.out hb.size); replace hz0 := cell_below hb hz0; replace hz1 := cell_below hb hz1; replace hz2 := cell_below hb hz2; replace hz3 := cell_below hb hz3; replace hz4 := cell_below hb hz4; replace hz5 := cell_below hb hz5; replace hy := cell_below hb hy; replace hq := cell_below hb hq; clear hb; refine hK.out _ _ ⟨hz0, hz1, hz2, hz3, hz4, hz5, hy, hq⟩ (fun hHeld => ?_); clear hK K; refine norm_ (a' := ?_) ?_ ?_; rotate_left
  ·show Act.put _ (some 18) _ = _
   simp only [Act.put, sA_, sB_, sC_, i64_w, i32_w]; rfl
  refine p_ 2 19 (B_ 34 7) ?_; refine p_ 3 20 (B_ 34 15) ?_; refine p_ 4 21 (B_ 34 31) ?_; refine t_ 5 22 (B_ 34 63) hHeld ?_; refine p_ 6 23 (B_ 34 127) ?_; refine p_ 7 24 (B_ 34 255) ?_; refine p_ 8 25 (B_ 34 511) ?_; refine p_ 9 26 (B_ 34 1023) ?_; refine p_ 10 27 (B_ 34 2047) ?_; refine p_ 11 28 (B_ 34 4095) ?_; refine p_ 12 29 (B_ 34 8191) ?_; refine t_ 13 30 (B_ 34 16383) hHeld ?_; refine p_ 14 31 (B_ 34 32767) ?_; refine t_ 15 32 (B_ 34 65535) hHeld ?_; refine p_ 16 33 (B_ 34 131071) ?_; refine p_ 17 34 (B_ 34 262143) ?_; refine p_ 18 35 (B_ 34 524287) ?_; refine p_ 19 36 (B_ 34 1048575) ?_; refine p_ 20 37 (B_ 34 2097151) ?_; refine p_ 23 40 (B_ 34 10485759) ?_; refine p_ 24 41 (B_ 34 27262975) ?_; refine t_ 21 38 (B_ 34 29360127) hHeld ?_; refine p_ 22 39 (B_ 34 33554431) ?_; refine t_ 25 42 (B_ 34 67108863) hHeld ?_; refine p_ 26 43 (B_ 34 134217727) ?_; refine t_ 27 44 (B_ 34 268435455) hHeld ?_; refine p_ 28 45 (B_ 34 536870911) ?_; refine t_ 29 46 (B_ 34 1073741823) hHeld ?_; refine p_ 30 47 (B_ 34 2147483647) ?_; refine p_ 31 48 (B_ 34 4294967295) ?_; refine p_ 32 49 (B_ 34 8589934591) ?_; refine p_ 33 50 (B_ 34 17179869183) ?_; refine done_ (by kernel_rfl) ?_; go_wp2; go_ret; exact ⟨rfl, HV.out, by first | exact HB.out | exact pw_below_drewN HB.out _ | exact pw_below_drewN (pw_below_drewN HB.out _) _⟩
set_option maxHeartbeats 4000000 in
set_option maxRecDepth 100000 in
theorem apply_add0_e (w W : World) (v : Value) (l : Wd) (f0 f1 f2 f3 f4 : Int) (A5 : Option Addr) (c5 : Nat) (f5 : List Int) (hB : Below w.heap.size w W) (hv : WRep W w.heap.size v l) (hr : Kd.C (Kd.int .i64) w A5 f5.length f5) (hc : f5.length ≤ c5)
  (hform : formedB f2 f3 f4 f5 = true) (hf0 : 0 ≤ f0) (hf1 : f0 < l.length) (rows : List (List Int)) (hk : l[f0.toNat]? = some rows) (hn : rows.length < 5864062014805) (hW : ∀ (i : Nat) r, rows[i]? = some r → r.length = (rd_L1 rows 0).length) (hz : rows.length = 0) (h5 : f5.length ≤ 10) (h2 : f2 = -1) (hok : f1 = rows.length) :
  Calls Try.prog 44 #[v, .agg #[.int .i64 f0, .int .i64 f1, .int .i64 f2, .int .i64 f3, .int .i64 f4, .slice A5 f5.length c5]] W fun e W' => e = .returned (.int .i64 0) ∧ WRep W' w.heap.size v (l.set f0.toNat (rows ++ [f5])) ∧ Below w.heap.size w W' := by
 have hu61 := Try.underlying61; have HB := A_ hB; have HR := A_ hr; have HC := A_ hc; have HV := A_ hv; obtain ⟨ad, c, rfl, hg⟩ := hv.known hk; have HG := A_ hg
 have hlen : l.length ≤ 9223372036854775807 := by
  obtain ⟨_, _, h⟩ := hv; obtain ⟨A, c, e, hl, _⟩ := h.top; exact hl
 obtain ⟨A2, c2, hy, hc2, hrows, hfy⟩ := hv.seen hk; have HC2 := A_ hc2
 have HOW := A_ (show ∀ b, (Value.slice A2 rows.length c2).ownBlock = some b → b < W.heap.size from by
  obtain ⟨cs, h, _⟩ := hv.grow hk hy
  exact own_lt h)
 have HW := A_ hW; have HK := A_ hk; have hfr := A_ hfy; have hb0 := decide_eq_true hf0; have hb1 := decide_eq_true hf1; have HF := A_ ((formedB_f f0 f1 f2 f3 f4 f5).trans (congrArg some hform)); obtain ⟨kn, hkn⟩ : ∃ k, k = f0.toNat := ⟨_, rfl⟩; clear hB hr hc hv hg hfy hc2 hW hk hform; have hd2 : decide (f2 < 0) = true := decide_eq_true (by omega); have hp0 : decide (0 < (rows.length : Int)) = false := decide_eq_false (by omega); have hp1 : decide (0 < rows.length) = false := decide_eq_false (by omega); have he1 : (f2 == -1) = true := beq_iff_eq.2 h2; have hne : (f1 != (rows.length : Int)) = false := bne_eq_false_iff_eq.2 hok; have HL5 := A_ h5; have Ah2 := A_ h2; clear h2; have Ahz := A_ hz; clear hz; have Ahok := A_ hok; clear hok
 go_enter Try.func44, Try.ntmps44
 go_upto_region 1 with (first | ((with_reducible refine gate_dst (N := 3) rfl ?_); (try (refine gate_guard (by rfl) ?_; dsimp only)); refine box_event ?hg (N := 3) ?hd (cs := #[.int .i64 f0, .int .i64 f1, .int .i64 f2, .int .i64 f3, .int .i64 f4, .slice A5 f5.length c5]) (t := 61) ?hr ?_; (case hd => rfl); (case hg => rfl); (case hr => first | (go_simp; done) | (go_simp; rfl)); intro gb hg w1 hbox hb1; have n0_ := A_ (below_step HB.out hb1); have n1_ := A_ (HV.out.below hb1); have n2_ := A_ (show gb < w1.heap.size from (Array.getElem?_eq_some_iff.1 hbox).1);  have n3_ := cell_below hb1 hy; clear hy; have hy := n3_; clear n3_; have HNG := A_ (fun b (hb : (Value.slice A2 rows.length c2).ownBlock = some b) => (by have := HOW.out b hb; omega : b ≠ gb)); clear HB HV; have HB := n0_; have HV := n1_; have GL := n2_; clear n0_ n1_ n2_; obtain ⟨hz0, hz1, hz2, hz3, hz4, hz5⟩ := k6_ (A_ hbox); clear hb1 hbox hg))
 go_cut [5] (fun v5 wc => v5 = .bool true ∧ w1 = wc)
 case first =>
  go_wp2
  go_meet
  case rel => exact ⟨rfl, rfl⟩
 case rest =>
  obtain ⟨rfl, rfl⟩ := hcut
  go_upto_region 2 with (fail)
  replace HB : Aside0 (Below w.heap.size w w1.drew) := ⟨below_drew HB.out⟩; replace HV : Aside0 (WRep w1.drew w.heap.size (.slice (some ad) l.length c) l) := HV; replace GL : Aside0 (gb < w1.drew.heap.size) := GL; replace hz0 := dr_ hz0; replace hz1 := dr_ hz1; replace hz2 := dr_ hz2; replace hz3 := dr_ hz3; replace hz4 := dr_ hz4; replace hz5 := dr_ hz5; replace hy := dr_ hy; refine start_ (n := 34) (S := fun w' => w'.cell? ⟨gb, 0, none⟩ = some (.int .i64 f0) ∧ w'.cell? ⟨gb, 1, none⟩ = some (.int .i64 f1) ∧ w'.cell? ⟨gb, 2, none⟩ = some (.int .i64 f2) ∧ w'.cell? ⟨gb, 3, none⟩ = some (.int .i64 f3) ∧ w'.cell? ⟨gb, 4, none⟩ = some (.int .i64 f4) ∧ w'.cell? ⟨gb, 5, none⟩ = some (.slice A5 f5.length c5) ∧ w'.cell? (ad.add f0.toNat) = some (.slice A2 rows.length c2)) (ds := []) (B_ 34 0) (by kernel_rfl) rfl rfl ⟨hz0, hz1, hz2, hz3, hz4, hz5, hy⟩ (fun hHeld => ?_); generalize w1.drew = w2 at HB HV GL hHeld hz0 hz1 hz2 hz3 hz4 hz5 hy ⊢; refine t_ 0 17 (B_ 34 1) hHeld ?_; refine one_ (i := 1) (N := some 18) (B_ 34 3) rfl rfl (by kernel_rfl) (by decide) (fun K hK => ?_); refine goes_ Try.func66 (by kernel_rfl) rfl #[.agg #[.int .i64 f0, .int .i64 f1, .int .i64 f2, .int .i64 f3, .int .i64 f4, .slice A5 f5.length c5]] (by rfl) rfl rfl (by simp only [List.map_toArray, List.map_cons, List.map_nil]; rfl) ?_
  with_reducible refine (diff_Change_formed.calls f0 f1 f2 f3 f4 A5 c5 f5 true w2 (Kd.C_below HR.out HB.out) HC.out HF.out).mono ?_
  rintro e w3 ⟨rfl, hb⟩; refine ⟨_, rfl, ?_⟩; replace HB := A_ (below_step HB.out hb); replace HV := A_ (HV.out.below hb); replace GL := A_ (Nat.lt_of_lt_of_le GL.out hb.size); replace hz0 := cell_below hb hz0; replace hz1 := cell_below hb hz1; replace hz2 := cell_below hb hz2; replace hz3 := cell_below hb hz3; replace hz4 := cell_below hb hz4; replace hz5 := cell_below hb hz5; replace hy := cell_below hb hy; clear hb; refine hK.out _ _ ⟨hz0, hz1, hz2, hz3, hz4, hz5, hy⟩ (fun hHeld => ?_); clear hK K; refine norm_ (a' := ?_) ?_ ?_; rotate_left
  ·show Act.put _ (some 18) _ = _
   simp only [Act.put, sA_, sB_, sC_, i64_w, i32_w]; rfl
  refine p_ 2 19 (B_ 34 7) ?_; refine p_ 3 20 (B_ 34 15) ?_; refine p_ 4 21 (B_ 34 31) ?_; refine t_ 5 22 (B_ 34 63) hHeld ?_; refine p_ 6 23 (B_ 34 127) ?_; refine p_ 7 24 (B_ 34 255) ?_; refine p_ 8 25 (B_ 34 511) ?_; refine p_ 9 26 (B_ 34 1023) ?_; refine p_ 10 27 (B_ 34 2047) ?_; refine p_ 11 28 (B_ 34 4095) ?_; refine p_ 12 29 (B_ 34 8191) ?_; refine t_ 13 30 (B_ 34 16383) hHeld ?_; refine p_ 14 31 (B_ 34 32767) ?_; refine t_ 15 32 (B_ 34 65535) hHeld ?_; refine p_ 16 33 (B_ 34 131071) ?_; refine p_ 17 34 (B_ 34 262143) ?_; refine p_ 18 35 (B_ 34 524287) ?_; refine p_ 19 36 (B_ 34 1048575) ?_; refine q_ 20 37 (B_ 34 2097151) ?_; refine q_ 21 38 (B_ 34 4194303) ?_; refine q_ 22 39 (B_ 34 8388607) ?_; refine q_ 23 40 (B_ 34 16777215) ?_; refine q_ 24 41 (B_ 34 33554431) ?_; refine q_ 25 42 (B_ 34 67108863) ?_; refine q_ 26 43 (B_ 34 134217727) ?_; refine q_ 27 44 (B_ 34 268435455) ?_; refine q_ 28 45 (B_ 34 536870911) ?_; refine q_ 29 46 (B_ 34 1073741823) ?_; refine q_ 30 47 (B_ 34 2147483647) ?_; refine q_ 31 48 (B_ 34 4294967295) ?_; refine p_ 32 49 (B_ 34 8589934591) ?_; refine p_ 33 50 (B_ 34 17179869183) ?_; refine done_ (by kernel_rfl) ?_; obtain ⟨cs, hcs, hgrow⟩ := WRep.grow (W := w3.drew) HV.out HK.out hy; obtain ⟨_, _, _, _, _, hfy⟩ := WRep.seen (W := w3.drew) HV.out HK.out; have HBL := A_ (HV.out.base_le HK.out); have HCS := A_ hcs; have HGR := A_ hgrow; have HFY := A_ hfy; have HCL : Aside0 (slices_Clone_int_int.f f5 = some f5) := ⟨by unfold slices_Clone_int_int.f; rw [if_pos (by have := HL5.out; omega)]⟩; have HB4 : Aside0 (Below w.heap.size w w3.drew) := ⟨below_drew HB.out⟩; have HV4 : Aside0 (WRep w3.drew w.heap.size (.slice (some ad) l.length c) l) := HV; have hy4 : w3.drew.cell? (ad.add f0.toNat) = some (.slice A2 rows.length c2) := hy; have HNB : Aside0 (some gb ≠ (Value.slice A2 rows.length c2).ownBlock) := ⟨fun e => HNG.out gb e.symm rfl⟩; have HNT : Aside0 (some (ad.add f0.toNat).block ≠ (Value.slice A2 rows.length c2).ownBlock) := ⟨HV.out.top_ne HK.out hcs⟩; clear hcs hgrow hfy hy
  go_upto_region 16 with (fail)
  replace hz0 := dr_ hz0; replace hz1 := dr_ hz1; replace hz2 := dr_ hz2; replace hz3 := dr_ hz3; replace hz4 := dr_ hz4; replace hz5 := dr_ hz5; refine start_ (n := 11) (S := fun w' => w'.cell? ⟨gb, 0, none⟩ = some (.int .i64 f0) ∧ w'.cell? ⟨gb, 1, none⟩ = some (.int .i64 f1) ∧ w'.cell? ⟨gb, 2, none⟩ = some (.int .i64 f2) ∧ w'.cell? ⟨gb, 3, none⟩ = some (.int .i64 f3) ∧ w'.cell? ⟨gb, 4, none⟩ = some (.int .i64 f4) ∧ w'.cell? ⟨gb, 5, none⟩ = some (.slice A5 f5.length c5)) (ds := [10]) (B_ 11 0) (by kernel_rfl) rfl rfl ⟨hz0, hz1, hz2, hz3, hz4, hz5⟩ (fun hHeld => ?_); generalize w3.drew = w4 at HV4 HB4 HCS HGR HFY hHeld hz0 hz1 hz2 hz3 hz4 hz5 hy4 ⊢; refine p_ 0 108 (B_ 11 1) ?_; refine p_ 1 109 (B_ 11 3) ?_; refine p_ 3 111 (B_ 11 11) ?_; refine p_ 4 112 (B_ 11 27) ?_; refine t_ 2 110 (B_ 11 31) hHeld ?_; refine t_ 5 113 (B_ 11 63) hHeld ?_; refine one_ (i := 6) (N := some 114) (B_ 11 127) rfl rfl (by kernel_rfl) (by decide) (fun K hK => ?_); refine goes_ Try.func43 (by kernel_rfl) rfl #[.slice A5 f5.length c5] (by rfl) rfl rfl (by simp only [List.map_toArray, List.map_cons, List.map_nil]; rfl) ?_
  with_reducible refine (slices_Clone_int_int.calls A5 c5 f5 f5 w4 (Kd.C_below HR.out HB4.out) HC.out HCL.out).mono ?_
  rintro e w5 ⟨v5, rfl, hr5, hb5⟩; refine ⟨_, rfl, ?_⟩; obtain ⟨A9, c9, rfl⟩ := Kd.R_slice hr5; have HR5 := A_ hr5; have HB5 := A_ hb5; have HB6 := A_ (below_step HB4.out hb5); replace hz0 := cell_below hb5 hz0; replace hz1 := cell_below hb5 hz1; replace hz2 := cell_below hb5 hz2; replace hz3 := cell_below hb5 hz3; replace hz4 := cell_below hb5 hz4; replace hz5 := cell_below hb5 hz5; clear hr5 hb5; refine hK.out _ _ ⟨hz0, hz1, hz2, hz3, hz4, hz5⟩ (fun hHeld => ?_); clear hK K; refine norm_ (a' := ?_) ?_ ?_; rotate_left
  ·show Act.put _ (some 114) _ = _
   simp only [Act.put, sA_, sB_, sC_, i64_w, i32_w]; rfl
  refine one_ (i := 7) (N := some 115) (B_ 11 255) rfl rfl (by kernel_rfl) (by decide) (fun K hK => ?_); refine value_ (w1 := ?_) (v := ?_) (by rfl) rfl ?_ ?_; rotate_left 2
  ·go_simp
   constructor; (· rfl); (· rfl)
  refine hK.out _ _ ⟨cell_below (below_alloc (Below.refl _ _) _) hz0, cell_below (below_alloc (Below.refl _ _) _) hz1, cell_below (below_alloc (Below.refl _ _) _) hz2, cell_below (below_alloc (Below.refl _ _) _) hz3, cell_below (below_alloc (Below.refl _ _) _) hz4, cell_below (below_alloc (Below.refl _ _) _) hz5⟩ (fun hHeld => ?_); clear hK K; refine norm_ (a' := ?_) ?_ ?_; rotate_left
  ·show Act.put _ (some 115) _ = _
   simp only [Act.put, sA_, sB_, sC_, i64_w, i32_w]; rfl
  refine one_ (i := 8) (N := some 116) (B_ 11 511) rfl rfl (by kernel_rfl) (by decide) (fun K hK => ?_); refine step_append_cells (w0 := w) w.heap.size (by rfl) (.tmp 111) (.tmp 115) 64 22 (.slice none 0 0) 1 24 rfl Try.underlying64 info22 rfl (by decide) (by decide) (.slice A2 rows.length c2) rows.length cs [.slice A9 f5.length c9] rfl rfl rfl (by intro u hu; simp only [List.mem_singleton] at hu; subst hu; rfl) (own_move HCS.out (fun b hb => HB5.out.block b (own_lt HCS.out b hb))) HB6.out HB6.out.size (by omega) ?_; intro v7 w7 hown7 hb7 hg7 hat7; obtain ⟨A8, c8, rfl⟩ := own_slice hown7; have HO7 := A_ hown7; have HB7 := A_ hb7; have HG7 := A_ hg7; have HA7 := A_ hat7; clear hown7 hb7 hat7; have hcz : ∃ v, w7.cell? (ad.add f0.toNat) = some v := ⟨_, hg7.cell (cell_below HB5.out hy4) (HNT.out)⟩; obtain ⟨vz, hcz⟩ := hcz; have hfz : w7.frozen? (ad.add f0.toNat) = false := (World.frozen?_of_block (hg7.block _ (World.block_lt_of_cell? _ _ (cell_below HB5.out hy4)) HNT.out)).trans (frozen_below HB5.out hy4 HFY.out); refine hK.out _ _ ⟨hg7.cell hz0 HNB.out, hg7.cell hz1 HNB.out, hg7.cell hz2 HNB.out, hg7.cell hz3 HNB.out, hg7.cell hz4 HNB.out, hg7.cell hz5 HNB.out⟩ (fun hHeld => ?_); clear hK K; refine norm_ (a' := ?_) ?_ ?_; rotate_left
  ·show Act.put _ (some 116) _ = _
   simp only [Act.put, sA_, sB_, sC_, i64_w, i32_w]; rfl
  refine p_ 9 117 (B_ 11 1023) ?_; refine last_ (i := 10) (N := none) (B_ 11 2047) rfl rfl (by kernel_rfl) (by decide) (fun K hK => ?_); refine skip_ (w1 := ?_) (by rfl) rfl ?_ ?_; rotate_left; (· go_simp; rfl); refine hK.out _ _ ?_; clear hK K; refine done_ (by kernel_rfl) ?_; go_wp2; go_ret; exact ⟨rfl, HGR.out _ _ _ _ _ _ HB5.out HR5.out HG7.out HA7.out HO7.out, Below.setCell HB7.out HBL.out _⟩
set_option maxHeartbeats 4000000 in
set_option maxRecDepth 100000 in
theorem apply_add0_f (w W : World) (v : Value) (l : Wd) (f0 f1 f2 f3 f4 : Int) (A5 : Option Addr) (c5 : Nat) (f5 : List Int) (hB : Below w.heap.size w W) (hv : WRep W w.heap.size v l) (hr : Kd.C (Kd.int .i64) w A5 f5.length f5) (hc : f5.length ≤ c5)
  (hform : formedB f2 f3 f4 f5 = true) (hf0 : 0 ≤ f0) (hf1 : f0 < l.length) (rows : List (List Int)) (hk : l[f0.toNat]? = some rows) (hn : rows.length < 5864062014805) (hW : ∀ (i : Nat) r, rows[i]? = some r → r.length = (rd_L1 rows 0).length) (hz : 0 < rows.length) (hlen5 : f5.length = (rd_L1 rows 0).length) (h5 : f5.length ≤ 10) (h2 : f2 = -1) (hok : f1 = rows.length) :
  Calls Try.prog 44 #[v, .agg #[.int .i64 f0, .int .i64 f1, .int .i64 f2, .int .i64 f3, .int .i64 f4, .slice A5 f5.length c5]] W fun e W' => e = .returned (.int .i64 0) ∧ WRep W' w.heap.size v (l.set f0.toNat (rows ++ [f5])) ∧ Below w.heap.size w W' := by
 have hu61 := Try.underlying61; have HB := A_ hB; have HR := A_ hr; have HC := A_ hc; have HV := A_ hv; obtain ⟨ad, c, rfl, hg⟩ := hv.known hk; have HG := A_ hg
 have hlen : l.length ≤ 9223372036854775807 := by
  obtain ⟨_, _, h⟩ := hv; obtain ⟨A, c, e, hl, _⟩ := h.top; exact hl
 obtain ⟨A2, c2, hy, hc2, hrows, hfy⟩ := hv.seen hk; have HC2 := A_ hc2
 have HOW := A_ (show ∀ b, (Value.slice A2 rows.length c2).ownBlock = some b → b < W.heap.size from by
  obtain ⟨cs, h, _⟩ := hv.grow hk hy
  exact own_lt h)
 have HW := A_ hW; have HK := A_ hk; have hfr := A_ hfy; have hb0 := decide_eq_true hf0; have hb1 := decide_eq_true hf1; have HF := A_ ((formedB_f f0 f1 f2 f3 f4 f5).trans (congrArg some hform)); obtain ⟨kn, hkn⟩ : ∃ k, k = f0.toNat := ⟨_, rfl⟩; clear hB hr hc hv hg hfy hc2 hW hk hform; have hd2 : decide (f2 < 0) = true := decide_eq_true (by omega); have hp0 : decide (0 < (rows.length : Int)) = true := decide_eq_true (by omega); have hp1 : decide (0 < rows.length) = true := decide_eq_true (by omega); have he1 : (f2 == -1) = true := beq_iff_eq.2 h2; have hne : (f1 != (rows.length : Int)) = false := bne_eq_false_iff_eq.2 hok; have HL5 := A_ h5; obtain ⟨r0, hr0⟩ : ∃ r0, rows[0]? = some r0 := ⟨_, List.getElem?_eq_getElem (l := rows) (i := 0) (by omega)⟩; obtain ⟨ad2, A3, c3, rfl, hq, hc3, _⟩ := HV.out.record HK.out hy hr0
 have hrd : r0 = rd_L1 rows 0 := by simp [rd_L1, List.getD_eq_getElem?_getD, hr0]
 have HC3 := A_ hc3; clear hc3; have hl50 : (f5.length != r0.length) = false := bne_eq_false_iff_eq.2 (by rw [hrd]; exact hlen5); have hl51 : ((f5.length : Int) != (r0.length : Int)) = false := bne_eq_false_iff_eq.2 (by rw [hrd, hlen5]); rw [Addr.add_zero'] at hq; have qi : (0 < rows.length) = True := eq_true (by omega); clear hlen5 hrd; have Ah2 := A_ h2; clear h2; have Ahz := A_ hz; clear hz; have Ahok := A_ hok; clear hok
 go_enter Try.func44, Try.ntmps44
 go_upto_region 1 with (first | ((with_reducible refine gate_dst (N := 3) rfl ?_); (try (refine gate_guard (by rfl) ?_; dsimp only)); refine box_event ?hg (N := 3) ?hd (cs := #[.int .i64 f0, .int .i64 f1, .int .i64 f2, .int .i64 f3, .int .i64 f4, .slice A5 f5.length c5]) (t := 61) ?hr ?_; (case hd => rfl); (case hg => rfl); (case hr => first | (go_simp; done) | (go_simp; rfl)); intro gb hg w1 hbox hb1; have n0_ := A_ (below_step HB.out hb1); have n1_ := A_ (HV.out.below hb1); have n2_ := A_ (show gb < w1.heap.size from (Array.getElem?_eq_some_iff.1 hbox).1);  have n3_ := cell_below hb1 hy; clear hy; have hy := n3_; clear n3_; have HNG := A_ (fun b (hb : (Value.slice (some ad2) rows.length c2).ownBlock = some b) => (by have := HOW.out b hb; omega : b ≠ gb)); have n3_ := cell_below hb1 hq; clear hq; have hq := n3_; clear n3_; clear HB HV; have HB := n0_; have HV := n1_; have GL := n2_; clear n0_ n1_ n2_; obtain ⟨hz0, hz1, hz2, hz3, hz4, hz5⟩ := k6_ (A_ hbox); clear hb1 hbox hg))
 go_cut [5] (fun v5 wc => v5 = .bool true ∧ w1 = wc)
 case first =>
  go_wp2
  go_meet
  case rel => exact ⟨rfl, rfl⟩
 case rest =>
  obtain ⟨rfl, rfl⟩ := hcut
  go_upto_region 2 with (fail)
  replace HB : Aside0 (Below w.heap.size w w1.drew) := ⟨below_drew HB.out⟩; replace HV : Aside0 (WRep w1.drew w.heap.size (.slice (some ad) l.length c) l) := HV; replace GL : Aside0 (gb < w1.drew.heap.size) := GL; replace hz0 := dr_ hz0; replace hz1 := dr_ hz1; replace hz2 := dr_ hz2; replace hz3 := dr_ hz3; replace hz4 := dr_ hz4; replace hz5 := dr_ hz5; replace hy := dr_ hy; replace hq := dr_ hq; refine start_ (n := 34) (S := fun w' => w'.cell? ⟨gb, 0, none⟩ = some (.int .i64 f0) ∧ w'.cell? ⟨gb, 1, none⟩ = some (.int .i64 f1) ∧ w'.cell? ⟨gb, 2, none⟩ = some (.int .i64 f2) ∧ w'.cell? ⟨gb, 3, none⟩ = some (.int .i64 f3) ∧ w'.cell? ⟨gb, 4, none⟩ = some (.int .i64 f4) ∧ w'.cell? ⟨gb, 5, none⟩ = some (.slice A5 f5.length c5) ∧ w'.cell? (ad.add f0.toNat) = some (.slice (some ad2) rows.length c2) ∧ w'.cell? ad2 = some (.slice A3 r0.length c3)) (ds := []) (B_ 34 0) (by kernel_rfl) rfl rfl ⟨hz0, hz1, hz2, hz3, hz4, hz5, hy, hq⟩ (fun hHeld => ?_); generalize w1.drew = w2 at HB HV GL hHeld hz0 hz1 hz2 hz3 hz4 hz5 hy hq ⊢; refine t_ 0 17 (B_ 34 1) hHeld ?_; refine one_ (i := 1) (N := some 18) (B_ 34 3) rfl rfl (by kernel_rfl) (by decide) (fun K hK => ?_); refine goes_ Try.func66 (by kernel_rfl) rfl #[.agg #[.int .i64 f0, .int .i64 f1, .int .i64 f2, .int .i64 f3, .int .i64 f4, .slice A5 f5.length c5]] (by rfl) rfl rfl (by simp only [List.map_toArray, List.map_cons, List.map_nil]; rfl) ?_
  with_reducible refine (diff_Change_formed.calls f0 f1 f2 f3 f4 A5 c5 f5 true w2 (Kd.C_below HR.out HB.out) HC.out HF.out).mono ?_
  rintro e w3 ⟨rfl, hb⟩; refine ⟨_, rfl, ?_⟩; replace HB := A_ (below_step HB.out hb); replace HV := A_ (HV.out.below hb); replace GL := A_ (Nat.lt_of_lt_of_le GL.out hb.size); replace hz0 := cell_below hb hz0; replace hz1 := cell_below hb hz1; replace hz2 := cell_below hb hz2; replace hz3 := cell_below hb hz3; replace hz4 := cell_below hb hz4; replace hz5 := cell_below hb hz5; replace hy := cell_below hb hy; replace hq := cell_below hb hq; clear hb; refine hK.out _ _ ⟨hz0, hz1, hz2, hz3, hz4, hz5, hy, hq⟩ (fun hHeld => ?_); clear hK K; refine norm_ (a' := ?_) ?_ ?_; rotate_left
  ·show Act.put _ (some 18) _ = _
   simp only [Act.put, sA_, sB_, sC_, i64_w, i32_w]; rfl
  refine p_ 2 19 (B_ 34 7) ?_; refine p_ 3 20 (B_ 34 15) ?_; refine p_ 4 21 (B_ 34 31) ?_; refine t_ 5 22 (B_ 34 63) hHeld ?_; refine p_ 6 23 (B_ 34 127) ?_; refine p_ 7 24 (B_ 34 255) ?_; refine p_ 8 25 (B_ 34 511) ?_; refine p_ 9 26 (B_ 34 1023) ?_; refine p_ 10 27 (B_ 34 2047) ?_; refine p_ 11 28 (B_ 34 4095) ?_; refine p_ 12 29 (B_ 34 8191) ?_; refine t_ 13 30 (B_ 34 16383) hHeld ?_; refine p_ 14 31 (B_ 34 32767) ?_; refine t_ 15 32 (B_ 34 65535) hHeld ?_; refine p_ 16 33 (B_ 34 131071) ?_; refine p_ 17 34 (B_ 34 262143) ?_; refine p_ 18 35 (B_ 34 524287) ?_; refine p_ 19 36 (B_ 34 1048575) ?_; refine p_ 20 37 (B_ 34 2097151) ?_; refine p_ 23 40 (B_ 34 10485759) ?_; refine p_ 24 41 (B_ 34 27262975) ?_; refine t_ 21 38 (B_ 34 29360127) hHeld ?_; refine p_ 22 39 (B_ 34 33554431) ?_; refine t_ 25 42 (B_ 34 67108863) hHeld ?_; refine p_ 26 43 (B_ 34 134217727) ?_; refine t_ 27 44 (B_ 34 268435455) hHeld ?_; refine p_ 28 45 (B_ 34 536870911) ?_; refine t_ 29 46 (B_ 34 1073741823) hHeld ?_; refine p_ 30 47 (B_ 34 2147483647) ?_; refine p_ 31 48 (B_ 34 4294967295) ?_; refine p_ 32 49 (B_ 34 8589934591) ?_; refine p_ 33 50 (B_ 34 17179869183) ?_; refine done_ (by kernel_rfl) ?_; obtain ⟨cs, hcs, hgrow⟩ := WRep.grow (W := w3.drew) HV.out HK.out hy; obtain ⟨_, _, _, _, _, hfy⟩ := WRep.seen (W := w3.drew) HV.out HK.out; have HBL := A_ (HV.out.base_le HK.out); have HCS := A_ hcs; have HGR := A_ hgrow; have HFY := A_ hfy; have HCL : Aside0 (slices_Clone_int_int.f f5 = some f5) := ⟨by unfold slices_Clone_int_int.f; rw [if_pos (by have := HL5.out; omega)]⟩; have HB4 : Aside0 (Below w.heap.size w w3.drew) := ⟨below_drew HB.out⟩; have HV4 : Aside0 (WRep w3.drew w.heap.size (.slice (some ad) l.length c) l) := HV; have hy4 : w3.drew.cell? (ad.add f0.toNat) = some (.slice (some ad2) rows.length c2) := hy; have HNB : Aside0 (some gb ≠ (Value.slice (some ad2) rows.length c2).ownBlock) := ⟨fun e => HNG.out gb e.symm rfl⟩; have HNT : Aside0 (some (ad.add f0.toNat).block ≠ (Value.slice (some ad2) rows.length c2).ownBlock) := ⟨HV.out.top_ne HK.out hcs⟩; clear hcs hgrow hfy hy
  go_upto_region 16 with (fail)
  replace hz0 := dr_ hz0; replace hz1 := dr_ hz1; replace hz2 := dr_ hz2; replace hz3 := dr_ hz3; replace hz4 := dr_ hz4; replace hz5 := dr_ hz5; refine start_ (n := 11) (S := fun w' => w'.cell? ⟨gb, 0, none⟩ = some (.int .i64 f0) ∧ w'.cell? ⟨gb, 1, none⟩ = some (.int .i64 f1) ∧ w'.cell? ⟨gb, 2, none⟩ = some (.int .i64 f2) ∧ w'.cell? ⟨gb, 3, none⟩ = some (.int .i64 f3) ∧ w'.cell? ⟨gb, 4, none⟩ = some (.int .i64 f4) ∧ w'.cell? ⟨gb, 5, none⟩ = some (.slice A5 f5.length c5)) (ds := [10]) (B_ 11 0) (by kernel_rfl) rfl rfl ⟨hz0, hz1, hz2, hz3, hz4, hz5⟩ (fun hHeld => ?_); generalize w3.drew = w4 at HV4 HB4 HCS HGR HFY hHeld hz0 hz1 hz2 hz3 hz4 hz5 hy4 ⊢; refine p_ 0 108 (B_ 11 1) ?_; refine p_ 1 109 (B_ 11 3) ?_; refine p_ 3 111 (B_ 11 11) ?_; refine p_ 4 112 (B_ 11 27) ?_; refine t_ 2 110 (B_ 11 31) hHeld ?_; refine t_ 5 113 (B_ 11 63) hHeld ?_; refine one_ (i := 6) (N := some 114) (B_ 11 127) rfl rfl (by kernel_rfl) (by decide) (fun K hK => ?_); refine goes_ Try.func43 (by kernel_rfl) rfl #[.slice A5 f5.length c5] (by rfl) rfl rfl (by simp only [List.map_toArray, List.map_cons, List.map_nil]; rfl) ?_
  with_reducible refine (slices_Clone_int_int.calls A5 c5 f5 f5 w4 (Kd.C_below HR.out HB4.out) HC.out HCL.out).mono ?_
  rintro e w5 ⟨v5, rfl, hr5, hb5⟩; refine ⟨_, rfl, ?_⟩; obtain ⟨A9, c9, rfl⟩ := Kd.R_slice hr5; have HR5 := A_ hr5; have HB5 := A_ hb5; have HB6 := A_ (below_step HB4.out hb5); replace hz0 := cell_below hb5 hz0; replace hz1 := cell_below hb5 hz1; replace hz2 := cell_below hb5 hz2; replace hz3 := cell_below hb5 hz3; replace hz4 := cell_below hb5 hz4; replace hz5 := cell_below hb5 hz5; clear hr5 hb5; refine hK.out _ _ ⟨hz0, hz1, hz2, hz3, hz4, hz5⟩ (fun hHeld => ?_); clear hK K; refine norm_ (a' := ?_) ?_ ?_; rotate_left
  ·show Act.put _ (some 114) _ = _
   simp only [Act.put, sA_, sB_, sC_, i64_w, i32_w]; rfl
  refine one_ (i := 7) (N := some 115) (B_ 11 255) rfl rfl (by kernel_rfl) (by decide) (fun K hK => ?_); refine value_ (w1 := ?_) (v := ?_) (by rfl) rfl ?_ ?_; rotate_left 2
  ·go_simp
   constructor; (· rfl); (· rfl)
  refine hK.out _ _ ⟨cell_below (below_alloc (Below.refl _ _) _) hz0, cell_below (below_alloc (Below.refl _ _) _) hz1, cell_below (below_alloc (Below.refl _ _) _) hz2, cell_below (below_alloc (Below.refl _ _) _) hz3, cell_below (below_alloc (Below.refl _ _) _) hz4, cell_below (below_alloc (Below.refl _ _) _) hz5⟩ (fun hHeld => ?_); clear hK K; refine norm_ (a' := ?_) ?_ ?_; rotate_left
  ·show Act.put _ (some 115) _ = _
   simp only [Act.put, sA_, sB_, sC_, i64_w, i32_w]; rfl
  refine one_ (i := 8) (N := some 116) (B_ 11 511) rfl rfl (by kernel_rfl) (by decide) (fun K hK => ?_); refine step_append_cells (w0 := w) w.heap.size (by rfl) (.tmp 111) (.tmp 115) 64 22 (.slice none 0 0) 1 24 rfl Try.underlying64 info22 rfl (by decide) (by decide) (.slice (some ad2) rows.length c2) rows.length cs [.slice A9 f5.length c9] rfl rfl rfl (by intro u hu; simp only [List.mem_singleton] at hu; subst hu; rfl) (own_move HCS.out (fun b hb => HB5.out.block b (own_lt HCS.out b hb))) HB6.out HB6.out.size (by omega) ?_; intro v7 w7 hown7 hb7 hg7 hat7; obtain ⟨A8, c8, rfl⟩ := own_slice hown7; have HO7 := A_ hown7; have HB7 := A_ hb7; have HG7 := A_ hg7; have HA7 := A_ hat7; clear hown7 hb7 hat7; have hcz : ∃ v, w7.cell? (ad.add f0.toNat) = some v := ⟨_, hg7.cell (cell_below HB5.out hy4) (HNT.out)⟩; obtain ⟨vz, hcz⟩ := hcz; have hfz : w7.frozen? (ad.add f0.toNat) = false := (World.frozen?_of_block (hg7.block _ (World.block_lt_of_cell? _ _ (cell_below HB5.out hy4)) HNT.out)).trans (frozen_below HB5.out hy4 HFY.out); refine hK.out _ _ ⟨hg7.cell hz0 HNB.out, hg7.cell hz1 HNB.out, hg7.cell hz2 HNB.out, hg7.cell hz3 HNB.out, hg7.cell hz4 HNB.out, hg7.cell hz5 HNB.out⟩ (fun hHeld => ?_); clear hK K; refine norm_ (a' := ?_) ?_ ?_; rotate_left
  ·show Act.put _ (some 116) _ = _
   simp only [Act.put, sA_, sB_, sC_, i64_w, i32_w]; rfl
  refine p_ 9 117 (B_ 11 1023) ?_; refine last_ (i := 10) (N := none) (B_ 11 2047) rfl rfl (by kernel_rfl) (by decide) (fun K hK => ?_); refine skip_ (w1 := ?_) (by rfl) rfl ?_ ?_; rotate_left; (· go_simp; rfl); refine hK.out _ _ ?_; clear hK K; refine done_ (by kernel_rfl) ?_; go_wp2; go_ret; exact ⟨rfl, HGR.out _ _ _ _ _ _ HB5.out HR5.out HG7.out HA7.out HO7.out, Below.setCell HB7.out HBL.out _⟩
set_option maxHeartbeats 4000000 in
set_option maxRecDepth 100000 in
theorem apply_take16 (w W : World) (v : Value) (l : Wd) (f0 f1 f2 f3 f4 : Int) (A5 : Option Addr) (c5 : Nat) (f5 : List Int) (hB : Below w.heap.size w W) (hv : WRep W w.heap.size v l) (hr : Kd.C (Kd.int .i64) w A5 f5.length f5) (hc : f5.length ≤ c5)
  (hform : formedB f2 f3 f4 f5 = true) (hf0 : 0 ≤ f0) (hf1 : f0 < l.length) (rows : List (List Int)) (hk : l[f0.toNat]? = some rows) (hn : rows.length < 5864062014805) (hW : ∀ (i : Nat) r, rows[i]? = some r → r.length = (rd_L1 rows 0).length) (h5 : f5.length ≤ 10) (hz : 0 < rows.length) (hlen5 : f5.length = (rd_L1 rows 0).length) (h2 : f2 = -2) (hok : f1 = rows.length - 1) (heq : rd_L1 rows f1 ≠ f5) :
  Calls Try.prog 44 #[v, .agg #[.int .i64 f0, .int .i64 f1, .int .i64 f2, .int .i64 f3, .int .i64 f4, .slice A5 f5.length c5]] W fun e W' => e = .returned (.int .i64 16) ∧ WRep W' w.heap.size v l ∧ Below w.heap.size w W' := by
 have hu61 := Try.underlying61; have HB := A_ hB; have HR := A_ hr; have HC := A_ hc; have HV := A_ hv; obtain ⟨ad, c, rfl, hg⟩ := hv.known hk; have HG := A_ hg
 have hlen : l.length ≤ 9223372036854775807 := by
  obtain ⟨_, _, h⟩ := hv; obtain ⟨A, c, e, hl, _⟩ := h.top; exact hl
 obtain ⟨A2, c2, hy, hc2, hrows, hfy⟩ := hv.seen hk; have HC2 := A_ hc2
 have HOW := A_ (show ∀ b, (Value.slice A2 rows.length c2).ownBlock = some b → b < W.heap.size from by
  obtain ⟨cs, h, _⟩ := hv.grow hk hy
  exact own_lt h)
 have HW := A_ hW; have HK := A_ hk; have hfr := A_ hfy; have hb0 := decide_eq_true hf0; have hb1 := decide_eq_true hf1; have HF := A_ ((formedB_f f0 f1 f2 f3 f4 f5).trans (congrArg some hform)); obtain ⟨kn, hkn⟩ : ∃ k, k = f0.toNat := ⟨_, rfl⟩; clear hB hr hc hv hg hfy hc2 hW hk hform; have hd2 : decide (f2 < 0) = true := decide_eq_true (by omega); have hp0 : decide (0 < (rows.length : Int)) = true := decide_eq_true (by omega); have hp1 : decide (0 < rows.length) = true := decide_eq_true (by omega); have he1 : (f2 == -1) = false := beq_eq_false_iff_ne.2 (by omega); have he2 : (f2 == -2) = true := beq_iff_eq.2 h2; have hl0 : ((rows.length : Int) == 0) = false := beq_eq_false_iff_ne.2 (by omega); have HL5 := A_ h5; have ALEN := A_ hlen5; have hne : (f1 != (rows.length : Int) - 1) = false := bne_eq_false_iff_eq.2 hok
 have h1 : 0 ≤ f1 := by omega
 have h1b : f1 < rows.length := by omega
 obtain ⟨r0, hr0⟩ : ∃ r0, rows[0]? = some r0 := ⟨_, List.getElem?_eq_getElem (l := rows) (i := 0) (by omega)⟩; obtain ⟨ad2, A3, c3, rfl, hq, hc3, _⟩ := HV.out.record HK.out hy hr0
 have hrd : r0 = rd_L1 rows 0 := by simp [rd_L1, List.getD_eq_getElem?_getD, hr0]
 have HC3 := A_ hc3; clear hc3; have hl50 : (f5.length != r0.length) = false := bne_eq_false_iff_eq.2 (by rw [hrd]; exact hlen5); have hl51 : ((f5.length : Int) != (r0.length : Int)) = false := bne_eq_false_iff_eq.2 (by rw [hrd, hlen5]); rw [Addr.add_zero'] at hq; have qi : (0 < rows.length) = True := eq_true (by omega); clear hlen5 hrd; have Ah2 := A_ h2; clear h2; have Ahz := A_ hz; clear hz; have Ahok := A_ hok; clear hok
 go_enter Try.func44, Try.ntmps44
 go_upto_region 1 with (first | ((with_reducible refine gate_dst (N := 3) rfl ?_); (try (refine gate_guard (by rfl) ?_; dsimp only)); refine box_event ?hg (N := 3) ?hd (cs := #[.int .i64 f0, .int .i64 f1, .int .i64 f2, .int .i64 f3, .int .i64 f4, .slice A5 f5.length c5]) (t := 61) ?hr ?_; (case hd => rfl); (case hg => rfl); (case hr => first | (go_simp; done) | (go_simp; rfl)); intro gb hg w1 hbox hb1; have n0_ := A_ (below_step HB.out hb1); have n1_ := A_ (HV.out.below hb1); have n2_ := A_ (show gb < w1.heap.size from (Array.getElem?_eq_some_iff.1 hbox).1);  have n3_ := cell_below hb1 hy; clear hy; have hy := n3_; clear n3_; have HNG := A_ (fun b (hb : (Value.slice (some ad2) rows.length c2).ownBlock = some b) => (by have := HOW.out b hb; omega : b ≠ gb)); have n3_ := cell_below hb1 hq; clear hq; have hq := n3_; clear n3_; clear HB HV; have HB := n0_; have HV := n1_; have GL := n2_; clear n0_ n1_ n2_; obtain ⟨hz0, hz1, hz2, hz3, hz4, hz5⟩ := k6_ (A_ hbox); clear hb1 hbox hg))
 go_cut [5] (fun v5 wc => v5 = .bool true ∧ w1 = wc)
 case first =>
  go_wp2
  go_meet
  case rel => exact ⟨rfl, rfl⟩
 case rest =>
  obtain ⟨rfl, rfl⟩ := hcut
  go_upto_region 2 with (fail)
  replace HB : Aside0 (Below w.heap.size w w1.drew) := ⟨below_drew HB.out⟩; replace HV : Aside0 (WRep w1.drew w.heap.size (.slice (some ad) l.length c) l) := HV; replace GL : Aside0 (gb < w1.drew.heap.size) := GL; replace hz0 := dr_ hz0; replace hz1 := dr_ hz1; replace hz2 := dr_ hz2; replace hz3 := dr_ hz3; replace hz4 := dr_ hz4; replace hz5 := dr_ hz5; replace hy := dr_ hy; replace hq := dr_ hq; refine start_ (n := 34) (S := fun w' => w'.cell? ⟨gb, 0, none⟩ = some (.int .i64 f0) ∧ w'.cell? ⟨gb, 1, none⟩ = some (.int .i64 f1) ∧ w'.cell? ⟨gb, 2, none⟩ = some (.int .i64 f2) ∧ w'.cell? ⟨gb, 3, none⟩ = some (.int .i64 f3) ∧ w'.cell? ⟨gb, 4, none⟩ = some (.int .i64 f4) ∧ w'.cell? ⟨gb, 5, none⟩ = some (.slice A5 f5.length c5) ∧ w'.cell? (ad.add f0.toNat) = some (.slice (some ad2) rows.length c2) ∧ w'.cell? ad2 = some (.slice A3 r0.length c3)) (ds := []) (B_ 34 0) (by kernel_rfl) rfl rfl ⟨hz0, hz1, hz2, hz3, hz4, hz5, hy, hq⟩ (fun hHeld => ?_); generalize w1.drew = w2 at HB HV GL hHeld hz0 hz1 hz2 hz3 hz4 hz5 hy hq ⊢; refine t_ 0 17 (B_ 34 1) hHeld ?_; refine one_ (i := 1) (N := some 18) (B_ 34 3) rfl rfl (by kernel_rfl) (by decide) (fun K hK => ?_); refine goes_ Try.func66 (by kernel_rfl) rfl #[.agg #[.int .i64 f0, .int .i64 f1, .int .i64 f2, .int .i64 f3, .int .i64 f4, .slice A5 f5.length c5]] (by rfl) rfl rfl (by simp only [List.map_toArray, List.map_cons, List.map_nil]; rfl) ?_
  with_reducible refine (diff_Change_formed.calls f0 f1 f2 f3 f4 A5 c5 f5 true w2 (Kd.C_below HR.out HB.out) HC.out HF.out).mono ?_
  rintro e w3 ⟨rfl, hb⟩; refine ⟨_, rfl, ?_⟩; replace HB := A_ (below_step HB.out hb); replace HV := A_ (HV.out.below hb); replace GL := A_ (Nat.lt_of_lt_of_le GL.out hb.size); replace hz0 := cell_below hb hz0; replace hz1 := cell_below hb hz1; replace hz2 := cell_below hb hz2; replace hz3 := cell_below hb hz3; replace hz4 := cell_below hb hz4; replace hz5 := cell_below hb hz5; replace hy := cell_below hb hy; replace hq := cell_below hb hq; clear hb; refine hK.out _ _ ⟨hz0, hz1, hz2, hz3, hz4, hz5, hy, hq⟩ (fun hHeld => ?_); clear hK K; refine norm_ (a' := ?_) ?_ ?_; rotate_left
  ·show Act.put _ (some 18) _ = _
   simp only [Act.put, sA_, sB_, sC_, i64_w, i32_w]; rfl
  refine p_ 2 19 (B_ 34 7) ?_; refine p_ 3 20 (B_ 34 15) ?_; refine p_ 4 21 (B_ 34 31) ?_; refine t_ 5 22 (B_ 34 63) hHeld ?_; refine p_ 6 23 (B_ 34 127) ?_; refine p_ 7 24 (B_ 34 255) ?_; refine p_ 8 25 (B_ 34 511) ?_; refine p_ 9 26 (B_ 34 1023) ?_; refine p_ 10 27 (B_ 34 2047) ?_; refine p_ 11 28 (B_ 34 4095) ?_; refine p_ 12 29 (B_ 34 8191) ?_; refine t_ 13 30 (B_ 34 16383) hHeld ?_; refine p_ 14 31 (B_ 34 32767) ?_; refine t_ 15 32 (B_ 34 65535) hHeld ?_; refine p_ 16 33 (B_ 34 131071) ?_; refine p_ 17 34 (B_ 34 262143) ?_; refine p_ 18 35 (B_ 34 524287) ?_; refine p_ 19 36 (B_ 34 1048575) ?_; refine p_ 20 37 (B_ 34 2097151) ?_; refine p_ 23 40 (B_ 34 10485759) ?_; refine p_ 24 41 (B_ 34 27262975) ?_; refine t_ 21 38 (B_ 34 29360127) hHeld ?_; refine p_ 22 39 (B_ 34 33554431) ?_; refine t_ 25 42 (B_ 34 67108863) hHeld ?_; refine p_ 26 43 (B_ 34 134217727) ?_; refine t_ 27 44 (B_ 34 268435455) hHeld ?_; refine p_ 28 45 (B_ 34 536870911) ?_; refine t_ 29 46 (B_ 34 1073741823) hHeld ?_; refine p_ 30 47 (B_ 34 2147483647) ?_; refine p_ 31 48 (B_ 34 4294967295) ?_; refine p_ 32 49 (B_ 34 8589934591) ?_; refine p_ 33 50 (B_ 34 17179869183) ?_; refine done_ (by kernel_rfl) ?_; obtain ⟨r1, hr1⟩ : ∃ r1, rows[f1.toNat]? = some r1 := ⟨_, List.getElem?_eq_getElem (l := rows) (i := f1.toNat) (by omega)⟩
  have hrd1 : rd_L1 rows f1 = r1 := by simp [rd_L1, List.getD_eq_getElem?_getD, hr1]
  obtain ⟨ad2', A4, c4, e4, hq4, hc4, hC4, _⟩ := HV.out.record HK.out hy hr1
  cases e4
  have HC4 := A_ hc4; have HC1 : Aside0 (Kd.C (Kd.int .i64) w3.drew A4 r1.length r1) := A_ hC4; clear hc4 hC4; have HEQ : Aside0 (slices_Equal_int_int.f (r1.length + 1) r1 f5 = some false) := ⟨by rw [slEq_f r1 f5 (by rw [HW.out _ _ hr1]; have := ALEN.out; have := HL5.out; omega)]; rw [hrd1] at heq; simp [heq]⟩; clear heq
  go_upto_region 20 with (fail)
  replace HB : Aside0 (Below w.heap.size w w3.drew) := ⟨below_drew HB.out⟩; replace HV : Aside0 (WRep w3.drew w.heap.size (.slice (some ad) l.length c) l) := HV; replace hz0 := dr_ hz0; replace hz1 := dr_ hz1; replace hz2 := dr_ hz2; replace hz3 := dr_ hz3; replace hz4 := dr_ hz4; replace hz5 := dr_ hz5; replace hy := dr_ hy; replace hq4 := dr_ hq4; refine start_ (n := 9) (S := fun w' => w'.cell? ⟨gb, 0, none⟩ = some (.int .i64 f0) ∧ w'.cell? ⟨gb, 1, none⟩ = some (.int .i64 f1) ∧ w'.cell? ⟨gb, 2, none⟩ = some (.int .i64 f2) ∧ w'.cell? ⟨gb, 3, none⟩ = some (.int .i64 f3) ∧ w'.cell? ⟨gb, 4, none⟩ = some (.int .i64 f4) ∧ w'.cell? ⟨gb, 5, none⟩ = some (.slice A5 f5.length c5) ∧ w'.cell? (ad.add f0.toNat) = some (.slice (some ad2) rows.length c2) ∧ w'.cell? (ad2.add f1.toNat) = some (.slice A4 r1.length c4)) (ds := []) (B_ 9 0) (by kernel_rfl) rfl rfl ⟨hz0, hz1, hz2, hz3, hz4, hz5, hy, hq4⟩ (fun hHeld => ?_); generalize w3.drew = w4 at HV HB HC1 hHeld hz0 hz1 hz2 hz3 hz4 hz5 hy hq4 ⊢; refine p_ 0 131 (B_ 9 1) ?_; refine p_ 1 132 (B_ 9 3) ?_; refine p_ 5 136 (B_ 9 35) ?_; refine t_ 2 133 (B_ 9 39) hHeld ?_; refine p_ 3 134 (B_ 9 47) ?_; refine t_ 4 135 (B_ 9 63) hHeld ?_; refine t_ 6 137 (B_ 9 127) hHeld ?_; refine one_ (i := 7) (N := some 138) (B_ 9 255) rfl rfl (by kernel_rfl) (by decide) (fun K hK => ?_); refine goes_ Try.func67 (by kernel_rfl) rfl #[.slice A4 r1.length c4, .slice A5 f5.length c5] (by rfl) rfl rfl (by simp only [List.map_toArray, List.map_cons, List.map_nil]; rfl) ?_
  with_reducible refine (slices_Equal_int_int.calls (r1.length + 1) A4 c4 r1 A5 c5 f5 false w4 HC1.out HC4.out (Kd.C_below HR.out HB.out) HC.out HEQ.out).mono ?_
  rintro e w5 ⟨rfl, hb5⟩; refine ⟨_, rfl, ?_⟩; replace HB := A_ (below_step HB.out (Drawn0.below hb5)); replace HV := A_ (HV.out.below (Drawn0.below hb5)); replace hz0 := cell_below (Drawn0.below hb5) hz0; replace hz1 := cell_below (Drawn0.below hb5) hz1; replace hz2 := cell_below (Drawn0.below hb5) hz2; replace hz3 := cell_below (Drawn0.below hb5) hz3; replace hz4 := cell_below (Drawn0.below hb5) hz4; replace hz5 := cell_below (Drawn0.below hb5) hz5; replace hy := cell_below (Drawn0.below hb5) hy; replace hq4 := cell_below (Drawn0.below hb5) hq4; clear hb5; refine hK.out _ _ ⟨hz0, hz1, hz2, hz3, hz4, hz5, hy, hq4⟩ (fun hHeld => ?_); clear hK K; refine norm_ (a' := ?_) ?_ ?_; rotate_left
  ·show Act.put _ (some 138) _ = _
   simp only [Act.put, sA_, sB_, sC_, i64_w, i32_w]; rfl
  refine p_ 8 139 (B_ 9 511) ?_; refine done_ (by kernel_rfl) ?_; go_wp2; go_ret; exact ⟨rfl, HV.out, by first | exact HB.out | exact pw_below_drewN HB.out _ | exact pw_below_drewN (pw_below_drewN HB.out _) _⟩
set_option maxHeartbeats 4000000 in
set_option maxRecDepth 100000 in
theorem apply_take0 (w W : World) (v : Value) (l : Wd) (f0 f1 f2 f3 f4 : Int) (A5 : Option Addr) (c5 : Nat) (f5 : List Int) (hB : Below w.heap.size w W) (hv : WRep W w.heap.size v l) (hr : Kd.C (Kd.int .i64) w A5 f5.length f5) (hc : f5.length ≤ c5)
  (hform : formedB f2 f3 f4 f5 = true) (hf0 : 0 ≤ f0) (hf1 : f0 < l.length) (rows : List (List Int)) (hk : l[f0.toNat]? = some rows) (hn : rows.length < 5864062014805) (hW : ∀ (i : Nat) r, rows[i]? = some r → r.length = (rd_L1 rows 0).length) (h5 : f5.length ≤ 10) (hz : 0 < rows.length) (hlen5 : f5.length = (rd_L1 rows 0).length) (h2 : f2 = -2) (hok : f1 = rows.length - 1) (heq : rd_L1 rows f1 = f5) :
  Calls Try.prog 44 #[v, .agg #[.int .i64 f0, .int .i64 f1, .int .i64 f2, .int .i64 f3, .int .i64 f4, .slice A5 f5.length c5]] W fun e W' => e = .returned (.int .i64 0) ∧ WRep W' w.heap.size v (l.set f0.toNat (rows.take f1.toNat)) ∧ Below w.heap.size w W' := by
 have hu61 := Try.underlying61; have HB := A_ hB; have HR := A_ hr; have HC := A_ hc; have HV := A_ hv; obtain ⟨ad, c, rfl, hg⟩ := hv.known hk; have HG := A_ hg
 have hlen : l.length ≤ 9223372036854775807 := by
  obtain ⟨_, _, h⟩ := hv; obtain ⟨A, c, e, hl, _⟩ := h.top; exact hl
 obtain ⟨A2, c2, hy, hc2, hrows, hfy⟩ := hv.seen hk; have HC2 := A_ hc2
 have HOW := A_ (show ∀ b, (Value.slice A2 rows.length c2).ownBlock = some b → b < W.heap.size from by
  obtain ⟨cs, h, _⟩ := hv.grow hk hy
  exact own_lt h)
 have HW := A_ hW; have HK := A_ hk; have hfr := A_ hfy; have hb0 := decide_eq_true hf0; have hb1 := decide_eq_true hf1; have HF := A_ ((formedB_f f0 f1 f2 f3 f4 f5).trans (congrArg some hform)); obtain ⟨kn, hkn⟩ : ∃ k, k = f0.toNat := ⟨_, rfl⟩; clear hB hr hc hv hg hfy hc2 hW hk hform; have hd2 : decide (f2 < 0) = true := decide_eq_true (by omega); have hp0 : decide (0 < (rows.length : Int)) = true := decide_eq_true (by omega); have hp1 : decide (0 < rows.length) = true := decide_eq_true (by omega); have he1 : (f2 == -1) = false := beq_eq_false_iff_ne.2 (by omega); have he2 : (f2 == -2) = true := beq_iff_eq.2 h2; have hl0 : ((rows.length : Int) == 0) = false := beq_eq_false_iff_ne.2 (by omega); have HL5 := A_ h5; have ALEN := A_ hlen5; have hne : (f1 != (rows.length : Int) - 1) = false := bne_eq_false_iff_eq.2 hok
 have h1 : 0 ≤ f1 := by omega
 have h1b : f1 < rows.length := by omega
 obtain ⟨r0, hr0⟩ : ∃ r0, rows[0]? = some r0 := ⟨_, List.getElem?_eq_getElem (l := rows) (i := 0) (by omega)⟩; obtain ⟨ad2, A3, c3, rfl, hq, hc3, _⟩ := HV.out.record HK.out hy hr0
 have hrd : r0 = rd_L1 rows 0 := by simp [rd_L1, List.getD_eq_getElem?_getD, hr0]
 have HC3 := A_ hc3; clear hc3; have hl50 : (f5.length != r0.length) = false := bne_eq_false_iff_eq.2 (by rw [hrd]; exact hlen5); have hl51 : ((f5.length : Int) != (r0.length : Int)) = false := bne_eq_false_iff_eq.2 (by rw [hrd, hlen5]); rw [Addr.add_zero'] at hq; have qi : (0 < rows.length) = True := eq_true (by omega); clear hlen5 hrd; have Ah2 := A_ h2; clear h2; have Ahz := A_ hz; clear hz; have Ahok := A_ hok; clear hok
 go_enter Try.func44, Try.ntmps44
 go_upto_region 1 with (first | ((with_reducible refine gate_dst (N := 3) rfl ?_); (try (refine gate_guard (by rfl) ?_; dsimp only)); refine box_event ?hg (N := 3) ?hd (cs := #[.int .i64 f0, .int .i64 f1, .int .i64 f2, .int .i64 f3, .int .i64 f4, .slice A5 f5.length c5]) (t := 61) ?hr ?_; (case hd => rfl); (case hg => rfl); (case hr => first | (go_simp; done) | (go_simp; rfl)); intro gb hg w1 hbox hb1; have n0_ := A_ (below_step HB.out hb1); have n1_ := A_ (HV.out.below hb1); have n2_ := A_ (show gb < w1.heap.size from (Array.getElem?_eq_some_iff.1 hbox).1);  have n3_ := cell_below hb1 hy; clear hy; have hy := n3_; clear n3_; have HNG := A_ (fun b (hb : (Value.slice (some ad2) rows.length c2).ownBlock = some b) => (by have := HOW.out b hb; omega : b ≠ gb)); have n3_ := cell_below hb1 hq; clear hq; have hq := n3_; clear n3_; clear HB HV; have HB := n0_; have HV := n1_; have GL := n2_; clear n0_ n1_ n2_; obtain ⟨hz0, hz1, hz2, hz3, hz4, hz5⟩ := k6_ (A_ hbox); clear hb1 hbox hg))
 go_cut [5] (fun v5 wc => v5 = .bool true ∧ w1 = wc)
 case first =>
  go_wp2
  go_meet
  case rel => exact ⟨rfl, rfl⟩
 case rest =>
  obtain ⟨rfl, rfl⟩ := hcut
  go_upto_region 2 with (fail)
  replace HB : Aside0 (Below w.heap.size w w1.drew) := ⟨below_drew HB.out⟩; replace HV : Aside0 (WRep w1.drew w.heap.size (.slice (some ad) l.length c) l) := HV; replace GL : Aside0 (gb < w1.drew.heap.size) := GL; replace hz0 := dr_ hz0; replace hz1 := dr_ hz1; replace hz2 := dr_ hz2; replace hz3 := dr_ hz3; replace hz4 := dr_ hz4; replace hz5 := dr_ hz5; replace hy := dr_ hy; replace hq := dr_ hq; refine start_ (n := 34) (S := fun w' => w'.cell? ⟨gb, 0, none⟩ = some (.int .i64 f0) ∧ w'.cell? ⟨gb, 1, none⟩ = some (.int .i64 f1) ∧ w'.cell? ⟨gb, 2, none⟩ = some (.int .i64 f2) ∧ w'.cell? ⟨gb, 3, none⟩ = some (.int .i64 f3) ∧ w'.cell? ⟨gb, 4, none⟩ = some (.int .i64 f4) ∧ w'.cell? ⟨gb, 5, none⟩ = some (.slice A5 f5.length c5) ∧ w'.cell? (ad.add f0.toNat) = some (.slice (some ad2) rows.length c2) ∧ w'.cell? ad2 = some (.slice A3 r0.length c3)) (ds := []) (B_ 34 0) (by kernel_rfl) rfl rfl ⟨hz0, hz1, hz2, hz3, hz4, hz5, hy, hq⟩ (fun hHeld => ?_); generalize w1.drew = w2 at HB HV GL hHeld hz0 hz1 hz2 hz3 hz4 hz5 hy hq ⊢; refine t_ 0 17 (B_ 34 1) hHeld ?_; refine one_ (i := 1) (N := some 18) (B_ 34 3) rfl rfl (by kernel_rfl) (by decide) (fun K hK => ?_); refine goes_ Try.func66 (by kernel_rfl) rfl #[.agg #[.int .i64 f0, .int .i64 f1, .int .i64 f2, .int .i64 f3, .int .i64 f4, .slice A5 f5.length c5]] (by rfl) rfl rfl (by simp only [List.map_toArray, List.map_cons, List.map_nil]; rfl) ?_
  with_reducible refine (diff_Change_formed.calls f0 f1 f2 f3 f4 A5 c5 f5 true w2 (Kd.C_below HR.out HB.out) HC.out HF.out).mono ?_
  rintro e w3 ⟨rfl, hb⟩; refine ⟨_, rfl, ?_⟩; replace HB := A_ (below_step HB.out hb); replace HV := A_ (HV.out.below hb); replace GL := A_ (Nat.lt_of_lt_of_le GL.out hb.size); replace hz0 := cell_below hb hz0; replace hz1 := cell_below hb hz1; replace hz2 := cell_below hb hz2; replace hz3 := cell_below hb hz3; replace hz4 := cell_below hb hz4; replace hz5 := cell_below hb hz5; replace hy := cell_below hb hy; replace hq := cell_below hb hq; clear hb; refine hK.out _ _ ⟨hz0, hz1, hz2, hz3, hz4, hz5, hy, hq⟩ (fun hHeld => ?_); clear hK K; refine norm_ (a' := ?_) ?_ ?_; rotate_left
  ·show Act.put _ (some 18) _ = _
   simp only [Act.put, sA_, sB_, sC_, i64_w, i32_w]; rfl
  refine p_ 2 19 (B_ 34 7) ?_; refine p_ 3 20 (B_ 34 15) ?_; refine p_ 4 21 (B_ 34 31) ?_; refine t_ 5 22 (B_ 34 63) hHeld ?_; refine p_ 6 23 (B_ 34 127) ?_; refine p_ 7 24 (B_ 34 255) ?_; refine p_ 8 25 (B_ 34 511) ?_; refine p_ 9 26 (B_ 34 1023) ?_; refine p_ 10 27 (B_ 34 2047) ?_; refine p_ 11 28 (B_ 34 4095) ?_; refine p_ 12 29 (B_ 34 8191) ?_; refine t_ 13 30 (B_ 34 16383) hHeld ?_; refine p_ 14 31 (B_ 34 32767) ?_; refine t_ 15 32 (B_ 34 65535) hHeld ?_; refine p_ 16 33 (B_ 34 131071) ?_; refine p_ 17 34 (B_ 34 262143) ?_; refine p_ 18 35 (B_ 34 524287) ?_; refine p_ 19 36 (B_ 34 1048575) ?_; refine p_ 20 37 (B_ 34 2097151) ?_; refine p_ 23 40 (B_ 34 10485759) ?_; refine p_ 24 41 (B_ 34 27262975) ?_; refine t_ 21 38 (B_ 34 29360127) hHeld ?_; refine p_ 22 39 (B_ 34 33554431) ?_; refine t_ 25 42 (B_ 34 67108863) hHeld ?_; refine p_ 26 43 (B_ 34 134217727) ?_; refine t_ 27 44 (B_ 34 268435455) hHeld ?_; refine p_ 28 45 (B_ 34 536870911) ?_; refine t_ 29 46 (B_ 34 1073741823) hHeld ?_; refine p_ 30 47 (B_ 34 2147483647) ?_; refine p_ 31 48 (B_ 34 4294967295) ?_; refine p_ 32 49 (B_ 34 8589934591) ?_; refine p_ 33 50 (B_ 34 17179869183) ?_; refine done_ (by kernel_rfl) ?_; obtain ⟨r1, hr1⟩ : ∃ r1, rows[f1.toNat]? = some r1 := ⟨_, List.getElem?_eq_getElem (l := rows) (i := f1.toNat) (by omega)⟩
  have hrd1 : rd_L1 rows f1 = r1 := by simp [rd_L1, List.getD_eq_getElem?_getD, hr1]
  obtain ⟨ad2', A4, c4, e4, hq4, hc4, hC4, _⟩ := HV.out.record HK.out hy hr1
  cases e4
  have HC4 := A_ hc4; have HC1 : Aside0 (Kd.C (Kd.int .i64) w3.drew A4 r1.length r1) := A_ hC4; clear hc4 hC4; have HEQ : Aside0 (slices_Equal_int_int.f (r1.length + 1) r1 f5 = some true) := ⟨by rw [slEq_f r1 f5 (by rw [HW.out _ _ hr1]; have := ALEN.out; have := HL5.out; omega)]; rw [hrd1] at heq; simp [heq]⟩; clear heq
  go_upto_region 20 with (fail)
  replace HB : Aside0 (Below w.heap.size w w3.drew) := ⟨below_drew HB.out⟩; replace HV : Aside0 (WRep w3.drew w.heap.size (.slice (some ad) l.length c) l) := HV; replace hz0 := dr_ hz0; replace hz1 := dr_ hz1; replace hz2 := dr_ hz2; replace hz3 := dr_ hz3; replace hz4 := dr_ hz4; replace hz5 := dr_ hz5; replace hy := dr_ hy; replace hq4 := dr_ hq4; refine start_ (n := 9) (S := fun w' => w'.cell? ⟨gb, 0, none⟩ = some (.int .i64 f0) ∧ w'.cell? ⟨gb, 1, none⟩ = some (.int .i64 f1) ∧ w'.cell? ⟨gb, 2, none⟩ = some (.int .i64 f2) ∧ w'.cell? ⟨gb, 3, none⟩ = some (.int .i64 f3) ∧ w'.cell? ⟨gb, 4, none⟩ = some (.int .i64 f4) ∧ w'.cell? ⟨gb, 5, none⟩ = some (.slice A5 f5.length c5) ∧ w'.cell? (ad.add f0.toNat) = some (.slice (some ad2) rows.length c2) ∧ w'.cell? (ad2.add f1.toNat) = some (.slice A4 r1.length c4)) (ds := []) (B_ 9 0) (by kernel_rfl) rfl rfl ⟨hz0, hz1, hz2, hz3, hz4, hz5, hy, hq4⟩ (fun hHeld => ?_); generalize w3.drew = w4 at HV HB HC1 hHeld hz0 hz1 hz2 hz3 hz4 hz5 hy hq4 ⊢; refine p_ 0 131 (B_ 9 1) ?_; refine p_ 1 132 (B_ 9 3) ?_; refine p_ 5 136 (B_ 9 35) ?_; refine t_ 2 133 (B_ 9 39) hHeld ?_; refine p_ 3 134 (B_ 9 47) ?_; refine t_ 4 135 (B_ 9 63) hHeld ?_; refine t_ 6 137 (B_ 9 127) hHeld ?_; refine one_ (i := 7) (N := some 138) (B_ 9 255) rfl rfl (by kernel_rfl) (by decide) (fun K hK => ?_); refine goes_ Try.func67 (by kernel_rfl) rfl #[.slice A4 r1.length c4, .slice A5 f5.length c5] (by rfl) rfl rfl (by simp only [List.map_toArray, List.map_cons, List.map_nil]; rfl) ?_
  with_reducible refine (slices_Equal_int_int.calls (r1.length + 1) A4 c4 r1 A5 c5 f5 true w4 HC1.out HC4.out (Kd.C_below HR.out HB.out) HC.out HEQ.out).mono ?_
  rintro e w5 ⟨rfl, hb5⟩; refine ⟨_, rfl, ?_⟩; replace HB := A_ (below_step HB.out (Drawn0.below hb5)); replace HV := A_ (HV.out.below (Drawn0.below hb5)); replace hz0 := cell_below (Drawn0.below hb5) hz0; replace hz1 := cell_below (Drawn0.below hb5) hz1; replace hz2 := cell_below (Drawn0.below hb5) hz2; replace hz3 := cell_below (Drawn0.below hb5) hz3; replace hz4 := cell_below (Drawn0.below hb5) hz4; replace hz5 := cell_below (Drawn0.below hb5) hz5; replace hy := cell_below (Drawn0.below hb5) hy; replace hq4 := cell_below (Drawn0.below hb5) hq4; clear hb5; refine hK.out _ _ ⟨hz0, hz1, hz2, hz3, hz4, hz5, hy, hq4⟩ (fun hHeld => ?_); clear hK K; refine norm_ (a' := ?_) ?_ ?_; rotate_left
  ·show Act.put _ (some 138) _ = _
   simp only [Act.put, sA_, sB_, sC_, i64_w, i32_w]; rfl
  refine p_ 8 139 (B_ 9 511) ?_; refine done_ (by kernel_rfl) ?_; have hfz := (HV.out.seen HK.out); obtain ⟨_, _, _, hc2', _, hfz⟩ := hfz; have hc2 := HC2.out; have HSH := A_ (HV.out.shrink HK.out hy (show f1.toNat ≤ rows.length by omega)); have HBL := A_ (HV.out.base_le HK.out)
  go_upto_region 22 with (fail)
  go_region
  go_wp2; go_ret; exact ⟨rfl, HSH.out, Below.setCell (below_drew HB.out) HBL.out _⟩
set_option maxHeartbeats 4000000 in
set_option maxRecDepth 100000 in
theorem apply_len2 (w W : World) (v : Value) (l : Wd) (f0 f1 f2 f3 f4 : Int) (A5 : Option Addr) (c5 : Nat) (f5 : List Int) (hB : Below w.heap.size w W) (hv : WRep W w.heap.size v l) (hr : Kd.C (Kd.int .i64) w A5 f5.length f5) (hc : f5.length ≤ c5)
  (hform : formedB f2 f3 f4 f5 = true) (hf0 : 0 ≤ f0) (hf1 : f0 < l.length) (rows : List (List Int)) (hk : l[f0.toNat]? = some rows) (hn : rows.length < 5864062014805) (hW : ∀ (i : Nat) r, rows[i]? = some r → r.length = (rd_L1 rows 0).length) (hz : 0 < rows.length) (hlen5 : f5.length ≠ (rd_L1 rows 0).length) (h2 : f2 < 0) :
  Calls Try.prog 44 #[v, .agg #[.int .i64 f0, .int .i64 f1, .int .i64 f2, .int .i64 f3, .int .i64 f4, .slice A5 f5.length c5]] W fun e W' => e = .returned (.int .i64 2) ∧ WRep W' w.heap.size v l ∧ Below w.heap.size w W' := by
 have hu61 := Try.underlying61; have HB := A_ hB; have HR := A_ hr; have HC := A_ hc; have HV := A_ hv; obtain ⟨ad, c, rfl, hg⟩ := hv.known hk; have HG := A_ hg
 have hlen : l.length ≤ 9223372036854775807 := by
  obtain ⟨_, _, h⟩ := hv; obtain ⟨A, c, e, hl, _⟩ := h.top; exact hl
 obtain ⟨A2, c2, hy, hc2, hrows, hfy⟩ := hv.seen hk; have HC2 := A_ hc2
 have HOW := A_ (show ∀ b, (Value.slice A2 rows.length c2).ownBlock = some b → b < W.heap.size from by
  obtain ⟨cs, h, _⟩ := hv.grow hk hy
  exact own_lt h)
 have HW := A_ hW; have HK := A_ hk; have hfr := A_ hfy; have hb0 := decide_eq_true hf0; have hb1 := decide_eq_true hf1; have HF := A_ ((formedB_f f0 f1 f2 f3 f4 f5).trans (congrArg some hform)); obtain ⟨kn, hkn⟩ : ∃ k, k = f0.toNat := ⟨_, rfl⟩; clear hB hr hc hv hg hfy hc2 hW hk hform; have hd2 : decide (f2 < 0) = true := decide_eq_true (by omega); have hp0 : decide (0 < (rows.length : Int)) = true := decide_eq_true (by omega); have hp1 : decide (0 < rows.length) = true := decide_eq_true (by omega); obtain ⟨r0, hr0⟩ : ∃ r0, rows[0]? = some r0 := ⟨_, List.getElem?_eq_getElem (l := rows) (i := 0) (by omega)⟩; obtain ⟨ad2, A3, c3, rfl, hq, hc3, _⟩ := HV.out.record HK.out hy hr0
 have hrd : r0 = rd_L1 rows 0 := by simp [rd_L1, List.getD_eq_getElem?_getD, hr0]
 have HC3 := A_ hc3; clear hc3; have hl50 : (f5.length != r0.length) = true := bne_iff_ne.2 (by rw [hrd]; exact hlen5); have hl51 : ((f5.length : Int) != (r0.length : Int)) = true := bne_iff_ne.2 (by rw [hrd]; omega); rw [Addr.add_zero'] at hq; have qi : (0 < rows.length) = True := eq_true (by omega); clear hlen5 hrd
 go_enter Try.func44, Try.ntmps44
 go_upto_region 1 with (first | ((with_reducible refine gate_dst (N := 3) rfl ?_); (try (refine gate_guard (by rfl) ?_; dsimp only)); refine box_event ?hg (N := 3) ?hd (cs := #[.int .i64 f0, .int .i64 f1, .int .i64 f2, .int .i64 f3, .int .i64 f4, .slice A5 f5.length c5]) (t := 61) ?hr ?_; (case hd => rfl); (case hg => rfl); (case hr => first | (go_simp; done) | (go_simp; rfl)); intro gb hg w1 hbox hb1; have n0_ := A_ (below_step HB.out hb1); have n1_ := A_ (HV.out.below hb1); have n2_ := A_ (show gb < w1.heap.size from (Array.getElem?_eq_some_iff.1 hbox).1);  have n3_ := cell_below hb1 hy; clear hy; have hy := n3_; clear n3_; have HNG := A_ (fun b (hb : (Value.slice (some ad2) rows.length c2).ownBlock = some b) => (by have := HOW.out b hb; omega : b ≠ gb)); have n3_ := cell_below hb1 hq; clear hq; have hq := n3_; clear n3_; clear HB HV; have HB := n0_; have HV := n1_; have GL := n2_; clear n0_ n1_ n2_; obtain ⟨hz0, hz1, hz2, hz3, hz4, hz5⟩ := k6_ (A_ hbox); clear hb1 hbox hg))
 go_cut [5] (fun v5 wc => v5 = .bool true ∧ w1 = wc)
 case first =>
  go_wp2
  go_meet
  case rel => exact ⟨rfl, rfl⟩
 case rest =>
  obtain ⟨rfl, rfl⟩ := hcut
  go_upto_region 2 with (fail)
  replace HB : Aside0 (Below w.heap.size w w1.drew) := ⟨below_drew HB.out⟩; replace HV : Aside0 (WRep w1.drew w.heap.size (.slice (some ad) l.length c) l) := HV; replace GL : Aside0 (gb < w1.drew.heap.size) := GL; replace hz0 := dr_ hz0; replace hz1 := dr_ hz1; replace hz2 := dr_ hz2; replace hz3 := dr_ hz3; replace hz4 := dr_ hz4; replace hz5 := dr_ hz5; replace hy := dr_ hy; replace hq := dr_ hq; refine start_ (n := 34) (S := fun w' => w'.cell? ⟨gb, 0, none⟩ = some (.int .i64 f0) ∧ w'.cell? ⟨gb, 1, none⟩ = some (.int .i64 f1) ∧ w'.cell? ⟨gb, 2, none⟩ = some (.int .i64 f2) ∧ w'.cell? ⟨gb, 3, none⟩ = some (.int .i64 f3) ∧ w'.cell? ⟨gb, 4, none⟩ = some (.int .i64 f4) ∧ w'.cell? ⟨gb, 5, none⟩ = some (.slice A5 f5.length c5) ∧ w'.cell? (ad.add f0.toNat) = some (.slice (some ad2) rows.length c2) ∧ w'.cell? ad2 = some (.slice A3 r0.length c3)) (ds := []) (B_ 34 0) (by kernel_rfl) rfl rfl ⟨hz0, hz1, hz2, hz3, hz4, hz5, hy, hq⟩ (fun hHeld => ?_); generalize w1.drew = w2 at HB HV GL hHeld hz0 hz1 hz2 hz3 hz4 hz5 hy hq ⊢; refine t_ 0 17 (B_ 34 1) hHeld ?_; refine one_ (i := 1) (N := some 18) (B_ 34 3) rfl rfl (by kernel_rfl) (by decide) (fun K hK => ?_); refine goes_ Try.func66 (by kernel_rfl) rfl #[.agg #[.int .i64 f0, .int .i64 f1, .int .i64 f2, .int .i64 f3, .int .i64 f4, .slice A5 f5.length c5]] (by rfl) rfl rfl (by simp only [List.map_toArray, List.map_cons, List.map_nil]; rfl) ?_
  with_reducible refine (diff_Change_formed.calls f0 f1 f2 f3 f4 A5 c5 f5 true w2 (Kd.C_below HR.out HB.out) HC.out HF.out).mono ?_
  rintro e w3 ⟨rfl, hb⟩; refine ⟨_, rfl, ?_⟩; replace HB := A_ (below_step HB.out hb); replace HV := A_ (HV.out.below hb); replace GL := A_ (Nat.lt_of_lt_of_le GL.out hb.size); replace hz0 := cell_below hb hz0; replace hz1 := cell_below hb hz1; replace hz2 := cell_below hb hz2; replace hz3 := cell_below hb hz3; replace hz4 := cell_below hb hz4; replace hz5 := cell_below hb hz5; replace hy := cell_below hb hy; replace hq := cell_below hb hq; clear hb; refine hK.out _ _ ⟨hz0, hz1, hz2, hz3, hz4, hz5, hy, hq⟩ (fun hHeld => ?_); clear hK K; refine norm_ (a' := ?_) ?_ ?_; rotate_left
  ·show Act.put _ (some 18) _ = _
   simp only [Act.put, sA_, sB_, sC_, i64_w, i32_w]; rfl
  refine p_ 2 19 (B_ 34 7) ?_; refine p_ 3 20 (B_ 34 15) ?_; refine p_ 4 21 (B_ 34 31) ?_; refine t_ 5 22 (B_ 34 63) hHeld ?_; refine p_ 6 23 (B_ 34 127) ?_; refine p_ 7 24 (B_ 34 255) ?_; refine p_ 8 25 (B_ 34 511) ?_; refine p_ 9 26 (B_ 34 1023) ?_; refine p_ 10 27 (B_ 34 2047) ?_; refine p_ 11 28 (B_ 34 4095) ?_; refine p_ 12 29 (B_ 34 8191) ?_; refine t_ 13 30 (B_ 34 16383) hHeld ?_; refine p_ 14 31 (B_ 34 32767) ?_; refine t_ 15 32 (B_ 34 65535) hHeld ?_; refine p_ 16 33 (B_ 34 131071) ?_; refine p_ 17 34 (B_ 34 262143) ?_; refine p_ 18 35 (B_ 34 524287) ?_; refine p_ 19 36 (B_ 34 1048575) ?_; refine p_ 20 37 (B_ 34 2097151) ?_; refine p_ 23 40 (B_ 34 10485759) ?_; refine p_ 24 41 (B_ 34 27262975) ?_; refine t_ 21 38 (B_ 34 29360127) hHeld ?_; refine p_ 22 39 (B_ 34 33554431) ?_; refine t_ 25 42 (B_ 34 67108863) hHeld ?_; refine p_ 26 43 (B_ 34 134217727) ?_; refine t_ 27 44 (B_ 34 268435455) hHeld ?_; refine p_ 28 45 (B_ 34 536870911) ?_; refine t_ 29 46 (B_ 34 1073741823) hHeld ?_; refine p_ 30 47 (B_ 34 2147483647) ?_; refine p_ 31 48 (B_ 34 4294967295) ?_; refine p_ 32 49 (B_ 34 8589934591) ?_; refine p_ 33 50 (B_ 34 17179869183) ?_; refine done_ (by kernel_rfl) ?_; go_wp2; go_ret; exact ⟨rfl, HV.out, by first | exact HB.out | exact pw_below_drewN HB.out _ | exact pw_below_drewN (pw_below_drewN HB.out _) _⟩
theorem formed_neg {f2 f3 f4 : Int} {f5 : List Int} (h : formedB f2 f3 f4 f5 = true) (h2 : f2 < 0) : -2 ≤ f2 ∧ f5.length ≤ 10 := by
 unfold formedB at h; rw [if_neg (by omega)] at h; simp only [Bool.and_eq_true, decide_eq_true_eq] at h; exact ⟨h.1.1.1.1, h.2⟩
theorem apply_step (w W : World) (v : Value) (l : Wd) (f0 f1 f2 f3 f4 : Int) (A5 : Option Addr) (c5 : Nat) (f5 : List Int) (hB : Below w.heap.size w W) (hv : WRep W w.heap.size v l) (hr : Kd.C (Kd.int .i64) w A5 f5.length f5) (hc : f5.length ≤ c5)
  {n : Nat} (hG : Good n l) (hn : n < 5864062014805) :
  Calls Try.prog 44 #[v, .agg #[.int .i64 f0, .int .i64 f1, .int .i64 f2, .int .i64 f3, .int .i64 f4, .slice A5 f5.length c5]] W fun e W' => e = .returned (.int .i64 (stepW l f0 f1 f2 f3 f4 f5).2) ∧ WRep W' w.heap.size v (stepW l f0 f1 f2 f3 f4 f5).1 ∧ Below w.heap.size w W' := by
 unfold stepW
 by_cases hf : formedB f2 f3 f4 f5 = false
 (· rw [if_pos hf]; exact apply_bad w W v l f0 f1 f2 f3 f4 A5 c5 f5 hB hv hr hc hf); rw [if_neg hf]
 have hf : formedB f2 f3 f4 f5 = true := by simpa using hf
 by_cases hk : f0 < 0 ∨ (l.length : Int) ≤ f0
 ·rw [if_pos hk]
  by_cases h2 : 0 ≤ f2
  (· exact apply_unknown_set w W v l f0 f1 f2 f3 f4 A5 c5 f5 hB hv hr hc hf hk h2); (· exact apply_unknown_neg w W v l f0 f1 f2 f3 f4 A5 c5 f5 hB hv hr hc hf hk (by omega))
 rw [if_neg hk]
 have hk1 : 0 ≤ f0 := by omega
 have hk2 : f0 < l.length := by omega
 have hrows := rd_L2_at l f0 hk1 hk2; obtain ⟨hm, hW⟩ := hG _ _ hrows
 have hm : (rd_L2 l f0).length < 5864062014805 := by omega
 generalize rd_L2 l f0 = rows at hrows hm hW; unfold stepK
 by_cases hl : f2 < 0 ∧ 0 < rows.length ∧ f5.length ≠ (rd_L1 rows 0).length
 (· rw [if_pos hl]; exact apply_len2 w W v l f0 f1 f2 f3 f4 A5 c5 f5 hB hv hr hc hf hk1 hk2 rows hrows hm hW hl.2.1 hl.2.2 hl.1); rw [if_neg hl]
 have hl5 : f2 < 0 → 0 < rows.length → f5.length = (rd_L1 rows 0).length := fun a b => Decidable.byContradiction (fun e => hl ⟨a, b, e⟩)
 by_cases ha : f2 = -1
 ·rw [if_pos ha]
  obtain ⟨_, h5⟩ := formed_neg hf (by omega)
  rcases Nat.eq_zero_or_pos rows.length with hz | hz
  ·by_cases h1 : f1 = rows.length
   (· rw [if_pos h1]; exact apply_add0_e w W v l f0 f1 f2 f3 f4 A5 c5 f5 hB hv hr hc hf hk1 hk2 rows hrows hm hW hz h5 ha h1); (· rw [if_neg h1]; exact apply_add5_e w W v l f0 f1 f2 f3 f4 A5 c5 f5 hB hv hr hc hf hk1 hk2 rows hrows hm hW hz ha h1)
  ·by_cases h1 : f1 = rows.length
   (· rw [if_pos h1]; exact apply_add0_f w W v l f0 f1 f2 f3 f4 A5 c5 f5 hB hv hr hc hf hk1 hk2 rows hrows hm hW hz (hl5 (by omega) hz) h5 ha h1); (· rw [if_neg h1]; exact apply_add5_f w W v l f0 f1 f2 f3 f4 A5 c5 f5 hB hv hr hc hf hk1 hk2 rows hrows hm hW hz (hl5 (by omega) hz) ha h1)
 rw [if_neg ha]
 by_cases ht : f2 = -2
 ·rw [if_pos ht]
  obtain ⟨_, h5⟩ := formed_neg hf (by omega)
  by_cases h1 : rows.length = 0 ∨ f1 ≠ rows.length - 1
  ·rw [if_pos h1]
   rcases Nat.eq_zero_or_pos rows.length with hz | hz
   (· exact apply_take5_e w W v l f0 f1 f2 f3 f4 A5 c5 f5 hB hv hr hc hf hk1 hk2 rows hrows hm hW hz ht); (· exact apply_take5_f w W v l f0 f1 f2 f3 f4 A5 c5 f5 hB hv hr hc hf hk1 hk2 rows hrows hm hW hz (hl5 (by omega) hz) ht (h1.resolve_left (by omega)))
  ·rw [if_neg h1]
   have hz : 0 < rows.length := by omega
   have h1b : f1 = rows.length - 1 := by omega
   by_cases he : rd_L1 rows f1 = f5
   (· rw [if_pos he]; exact apply_take0 w W v l f0 f1 f2 f3 f4 A5 c5 f5 hB hv hr hc hf hk1 hk2 rows hrows hm hW h5 hz (hl5 (by omega) hz) ht h1b he); (· rw [if_neg he]; exact apply_take16 w W v l f0 f1 f2 f3 f4 A5 c5 f5 hB hv hr hc hf hk1 hk2 rows hrows hm hW h5 hz (hl5 (by omega) hz) ht h1b he)
 rw [if_neg ht]
 have h2 : 0 ≤ f2 := by
  by_cases h2 : 0 ≤ f2
  (· exact h2); (· have := (formed_neg hf (by omega)).1; omega)
 by_cases hb : f1 < 0 ∨ rows.length ≤ f1 ∨ (rd_L1 rows 0).length ≤ f2
 ·rw [if_pos hb]
  by_cases h1 : f1 < 0
  (· exact apply_set5a w W v l f0 f1 f2 f3 f4 A5 c5 f5 hB hv hr hc hf hk1 hk2 rows hrows hm hW h2 h1)
  ·by_cases h1b : rows.length ≤ f1
   (· exact apply_set5b w W v l f0 f1 f2 f3 f4 A5 c5 f5 hB hv hr hc hf hk1 hk2 rows hrows hm hW h2 (by omega) h1b); (· exact apply_set5c w W v l f0 f1 f2 f3 f4 A5 c5 f5 hB hv hr hc hf hk1 hk2 rows hrows hm hW h2 (by omega) (by omega) (by omega))
 rw [if_neg hb]
 by_cases ho : rd (rd_L1 rows f1) f2 = f3
 (· rw [if_neg (by simpa using ho)]; exact apply_set0 w W v l f0 f1 f2 f3 f4 A5 c5 f5 hB hv hr hc hf hk1 hk2 rows hrows hm hW h2 (by omega) (by omega) (by omega) ho); (· rw [if_pos ho]; exact apply_set16 w W v l f0 f1 f2 f3 f4 A5 c5 f5 hB hv hr hc hf hk1 hk2 rows hrows hm hW h2 (by omega) (by omega) (by omega) ho)
theorem raw_zero (W : World) (b : Nat) (ok : Nat → Prop) : (Kd.raw 1).M W b ok [Value.slice none 0 0] (Value.slice none 0 0).cells.toList := ⟨rfl, rfl, fun u hu => by
 have : u = .slice none 0 0 := by simpa [Value.cells] using hu
 subst this
 rfl⟩
def ApplyPost (w : World) (r : Wd × Int) (e : Ending) (w' : World) : Prop := ∃ v0_ : Value, e = .returned (.tuple #[v0_, .int .i64 r.2]) ∧ Kd.R (Kd.slice 22 (Kd.slice 3 (Kd.int .i64))) 64 w' w.heap.size (fun _ => True) v0_ r.1 ∧ Below w.heap.size w w'
set_option maxHeartbeats 4000000 in
set_option maxRecDepth 100000 in
theorem apply_any (A0 : Option Addr) (c0 : Nat) (l0 : Wd) (A1 : Option Addr) (c1 : Nat) (l1 : List S61) (w : World) (hr0 : Kd.C (Kd.slice 22 (Kd.slice 3 (Kd.int .i64))) w A0 l0.length l0) (hc0 : l0.length ≤ c0)
  (hr1 : Kd.C k61 w A1 l1.length l1) (hc1 : l1.length ≤ c1) (hs0 : sumLen l0 < 4611686018427387904) : Calls Try.prog 19 #[.slice A0 l0.length c0, .slice A1 l1.length c1] w (ApplyPost w (applyR l0 l1)) := by
 have hu61 := Try.underlying61; have hlen0 := hr0.2.1; have hlen1 := hr1.2.1; have H0 := A_ (diff_shaped.calls A0 c0 l0 (shapedB l0) w hr0 hc0 (if_pos hs0)); have HR0 := A_ hr0; have HR1 := A_ hr1; clear hr0 hr1 hc0 hc1 hs0; generalize hb0 : shapedB l0 = b0 at H0; have HB0 := Lib.hid hb0; clear hb0
 go_enter Try.func19, Try.ntmps19
 cases b0 with
 | false =>
  go_wp2_with (go_at_call 37; refine H0.out.mono ?_; rintro e w1 ⟨rfl, hb⟩; have HB := A_ hb; clear hb)
  go_ret2; exact ⟨.slice none 0 0, by unfold applyR; rw [HB0.out]; rfl, by unfold applyR; rw [HB0.out]; exact Kd.R_nil _ _ _ _ _, HB.out⟩
 | true =>
  by_cases hll : 8192 < l1.length
  ·have hll2 : (8192 : Int) < (l1.length : Int) := by omega
   have hll3 := decide_eq_true hll2
   go_wp2_with (go_at_call 37; refine H0.out.mono ?_; rintro e w1 ⟨rfl, hb⟩; have HB := A_ hb; clear hb)
   go_ret2; exact ⟨.slice none 0 0, by unfold applyR; rw [HB0.out, if_neg (by simp), if_pos hll]; rfl, by unfold applyR; rw [HB0.out, if_neg (by simp), if_pos hll]; exact Kd.R_nil _ _ _ _ _, HB.out⟩
  ·have hll2 : ¬ (8192 : Int) < (l1.length : Int) := by omega
   have hll3 := decide_eq_false hll2; have HS6 := A_ (shaped_small HB0.out); have hs6 := HS6.out.1
   have hl6 : l0.length * 24 ≤ 281474976710656 := by omega
   go_upto_region 5 with (first
    | (go_at_call 37; refine H0.out.mono ?_; rintro e w1 ⟨rfl, hb⟩; have HB1 := A_ hb; clear hb))
   go_upto_region 6 with ((with_reducible refine gate_dst (N := 23) rfl ?_); refine Kd.R_make (Kd.raw 1) (w0 := w) (ok := fun _ => True) (okp := fun _ => True) w.heap.size 64 ?m1 (N := 23) ?m2 25 (.tmp 22) (.tmp 22) ?m3 (l0.length : Int) ?m4 ?m5 Try.underlying25 (.slice none 0 0) 24 info64 rfl (by decide) (by decide) [.slice none 0 0] ?m6 ?m7 ?m8 ?m9 ?m10 ?m11 ?m12 ?_; (case m1 => rfl); (case m2 => rfl); (case m3 => rfl); (case m4 => rfl); (case m5 => rfl); (case m6 => exact raw_zero _ _ _); (case m7 => exact fun _ h => h); (case m8 => exact trivial); (case m9 => omega); (case m10 => rw [Int.toNat_natCast]; omega); (case m11 => exact HB1.out); (case m12 => exact HB1.out.size); intro v2 w2 hv2 hb2 _ _; rw [Int.toNat_natCast] at hv2; have HV2 := A_ (WRep.made hv2); have HB2 := A_ hb2; clear hv2 hb2)
   clear H0
   obtain ⟨A, c, rfl⟩ : ∃ A c, v2 = .slice A l0.length c := by
    obtain ⟨_, _, h⟩ := HV2.out; obtain ⟨A, c, e, _⟩ := h.top; rw [List.length_replicate] at e; exact ⟨A, c, e⟩
   go_wp2
   go_loopw [26] (fun u wr => ∃ k : Nat, k ≤ l0.length ∧ u = .int .i64 k ∧ Aside0 (Below w.heap.size w wr) ∧ Aside0 (WRep wr w.heap.size (.slice A l0.length c) (cp l0 k 0))) (fun u _ => l0.length - (intOf u).toNat)
   case atStart => exact ⟨0, Nat.zero_le _, rfl, ⟨HB2.out⟩, ⟨by rw [cp_zero]; exact HV2.out⟩⟩
   case round =>
    obtain ⟨k, hk, rfl, HB, HV⟩ := hrel
    by_cases hlt : k < l0.length
    ·obtain ⟨bd, B1, d1, e1, hx1, hl1, hi1⟩ := at_L2 HR0.out k (by omega) (by omega)
     cases e1
     have HI := A_ hi1; have hrl := hi1.2.1; have hrows := rd_L2_at l0 k (by omega) (by omega); rw [Int.toNat_natCast] at hx1 hrows; replace hx1 := cell_below HB.out hx1; have HRW := A_ hrows; clear hi1 hrows; generalize rd_L2 l0 k = rows at hx1 hl1 HI HRW hrl; have hr512 := (HS6.out.2.2 k rows HRW.out).1; go_wp2; have HXW := A_ hx1; have HBk := A_ HB.out; clear hx1 HB
     go_loopw [34] (fun u wr' => ∃ i : Nat, i ≤ rows.length ∧ u = .int .i64 i ∧ Aside0 (Below w.heap.size w wr') ∧ Aside0 (WRep wr' w.heap.size (.slice A l0.length c) (cp l0 k i))) (fun u _ => rows.length - (intOf u).toNat)
     case atStart => exact ⟨0, Nat.zero_le _, rfl, ⟨HBk.out⟩, ⟨HV.out⟩⟩
     case round =>
      clear HV; obtain ⟨i, hi, rfl, HB, HV⟩ := hrel
      by_cases hlti : i < rows.length
      ·obtain ⟨q, hq⟩ : ∃ q, q = rows.take i := ⟨_, rfl⟩
       have hql : q.length = i := by rw [hq, List.length_take]; omega
       have hcpq : (cp l0 k i)[k]? = some q := by rw [hq]; exact cp_at l0 k i rows HRW.out
       obtain ⟨lc, hlc⟩ : ∃ lc, lc = cp l0 k i := ⟨_, rfl⟩
       have hlcl : lc.length = l0.length := by rw [hlc, cp_length]
       rw [← hlc] at hcpq HV; obtain ⟨ad, c', hAe, _⟩ := HV.out.known hcpq
       injection hAe with hAe _ _
       subst hAe; have HV := A_ (show WRep wr w.heap.size (.slice (some ad) lc.length c) lc by rw [hlcl]; exact HV.out); have HK := A_ hcpq; obtain ⟨A2, c2, hy, _, _, _⟩ := HV.out.seen HK.out; obtain ⟨be, B2, d2, e2, hx2, hl2, hi2⟩ := at_L1 HI.out i (by omega) (by omega)
       cases e2
       have hrow := rd_L1_at rows i (by omega) (by omega); rw [Int.toNat_natCast] at hx2 hrow; replace hx2 := cell_below HB.out hx2; have HRR := A_ hi2; have HRC := A_ hl2; have HROW := A_ hrow; clear hi2 hl2 hrow; generalize rd_L1 rows (i : Int) = r at hx2 HRR HRC HROW; have hr10 := (shaped_wide HB0.out k rows HRW.out i r HROW.out).2; have HCL : Aside0 (slices_Clone_int_int.f r = some r) := ⟨by unfold slices_Clone_int_int.f; rw [if_pos (by omega)]⟩; have HLN := A_ (show q.length ≤ 512 by omega); have HQ := A_ hq; have HLC := A_ hlc; have HLL := A_ hlcl; have HQL := A_ hql
       have hkl : k < lc.length := by omega
       clear hq hlc hlcl hql hcpq; obtain ⟨cs, hcs, hgrow⟩ := WRep.grow (W := wr.drew) HV.out HK.out hy; obtain ⟨_, _, _, _, _, hfy⟩ := WRep.seen (W := wr.drew) HV.out HK.out; have HBL := A_ (HV.out.base_le HK.out); have HCS := A_ hcs; have HGR := A_ hgrow; have HFY := A_ hfy; have HLT := A_ (show (ad.add k).block < wr.drew.heap.size from World.block_lt_of_cell? _ _ hy); have HB4 : Aside0 (Below w.heap.size w wr.drew) := ⟨below_drew HB.out⟩; have hy4 : wr.drew.cell? (ad.add k) = some (.slice A2 q.length c2) := hy; have HNT : Aside0 (some (ad.add k).block ≠ (Value.slice A2 q.length c2).ownBlock) := ⟨HV.out.top_ne HK.out hcs⟩; clear hcs hgrow hfy hy
       go_upto_region 12 with (fail)
       refine start_ (n := 12) (S := fun w' => w'.cell? (ad.add k) = some (.slice A2 q.length c2)) (ds := [11]) (B_ 12 0) (by kernel_rfl) rfl rfl (hy4) (fun hHeld => ?_); generalize wr.drew = w4 at HB4 HCS HGR HFY HLT hHeld hy4 ⊢; refine p_ 0 38 (B_ 12 1) ?_; refine p_ 1 39 (B_ 12 3) ?_; refine p_ 2 40 (B_ 12 7) ?_; refine p_ 3 41 (B_ 12 15) ?_; refine p_ 4 42 (B_ 12 31) ?_; refine p_ 6 44 (B_ 12 95) ?_; refine t_ 5 43 (B_ 12 127) hHeld ?_; refine one_ (i := 7) (N := some 45) (B_ 12 255) rfl rfl (by kernel_rfl) (by decide) (fun K hK => ?_); refine goes_ Try.func43 (by kernel_rfl) rfl #[.slice B2 r.length d2] (by rfl) rfl rfl (by simp only [List.map_toArray, List.map_cons, List.map_nil]; rfl) ?_
       with_reducible refine (slices_Clone_int_int.calls B2 d2 r r w4 (Kd.C_below HRR.out HB4.out) HRC.out HCL.out).mono ?_
       rintro e w5 ⟨v5, rfl, hr5, hb5⟩; refine ⟨_, rfl, ?_⟩; obtain ⟨A9, c9, rfl⟩ := Kd.R_slice hr5; have HR5 := A_ hr5; have HB5 := A_ hb5; have HB6 := A_ (below_step HB4.out hb5); replace hy4 := cell_below hb5 hy4; clear hr5 hb5; refine hK.out _ _ (hy4) (fun hHeld => ?_); clear hK K; refine norm_ (a' := ?_) ?_ ?_; rotate_left
       ·show Act.put _ (some 45) _ = _
        simp only [Act.put, sA_, sB_, sC_, i64_w, i32_w]; rfl
       refine one_ (i := 8) (N := some 46) (B_ 12 511) rfl rfl (by kernel_rfl) (by decide) (fun K hK => ?_); refine value_ (w1 := ?_) (v := ?_) (by rfl) rfl ?_ ?_; rotate_left 2
       ·go_simp
        constructor; (· rfl); (· rfl)
       refine hK.out _ _ (cell_below (below_alloc (Below.refl _ _) _) hy4) (fun hHeld => ?_); clear hK K; refine norm_ (a' := ?_) ?_ ?_; rotate_left
       ·show Act.put _ (some 46) _ = _
        simp only [Act.put, sA_, sB_, sC_, i64_w, i32_w]; rfl
       refine one_ (i := 9) (N := some 47) (B_ 12 1023) rfl rfl (by kernel_rfl) (by decide) (fun K hK => ?_); refine step_append_cells (w0 := w) w.heap.size (by rfl) (.tmp 43) (.tmp 46) 64 22 (.slice none 0 0) 1 24 rfl Try.underlying64 info22 rfl (by decide) (by decide) (.slice A2 q.length c2) q.length cs [.slice A9 r.length c9] rfl rfl rfl (by intro u hu; simp only [List.mem_singleton] at hu; subst hu; rfl) (own_move HCS.out (fun b hb => HB5.out.block b (own_lt HCS.out b hb))) HB6.out HB6.out.size (by have := HLN.out; omega) ?_; intro v7 w7 hown7 hb7 hg7 hat7; obtain ⟨A8, c8, rfl⟩ := own_slice hown7; have HO7 := A_ hown7; have HB7 := A_ hb7; have HG7 := A_ hg7; have HA7 := A_ hat7; clear hown7 hb7 hat7; have hcz : ∃ v, w7.cell? (ad.add k) = some v := ⟨_, hg7.cell hy4 (HNT.out)⟩; obtain ⟨vz, hcz⟩ := hcz; have hfz : w7.frozen? (ad.add k) = false := (World.frozen?_of_block (hg7.block _ (World.block_lt_of_cell? _ _ hy4) HNT.out)).trans ((World.frozen?_of_block (HB5.out.block _ HLT.out)).trans HFY.out); refine hK.out _ _ (hg7.cell hy4 HNT.out) (fun hHeld => ?_); clear hK K; refine norm_ (a' := ?_) ?_ ?_; rotate_left
       ·show Act.put _ (some 47) _ = _
        simp only [Act.put, sA_, sB_, sC_, i64_w, i32_w]; rfl
       refine p_ 10 48 (B_ 12 2047) ?_; refine last_ (i := 11) (N := none) (B_ 12 4095) rfl rfl (by kernel_rfl) (by decide) (fun K hK => ?_); refine skip_ (w1 := ?_) (by rfl) rfl ?_ ?_; rotate_left; (· go_simp; rfl); refine hK.out _ _ ?_; clear hK K; refine done_ (by kernel_rfl) ?_; go_wp2; have HE := A_ (show (lc.set k (q ++ [r])) = cp l0 k (i + 1) by rw [HLC.out, HQ.out]; exact cp_push l0 k i rows r HRW.out HROW.out); have HW9 := HGR.out _ _ _ _ _ _ HB5.out HR5.out HG7.out HA7.out HO7.out; rw [HE.out, HLL.out] at HW9
       go_roundw
       case rel => exact ⟨i + 1, by omega, by go_num, ⟨Below.setCell HB7.out HBL.out _⟩, ⟨HW9⟩⟩
       case measure => simp [intOf]; omega
      ·have hie : i = rows.length := by omega
       subst hie; have HN := A_ (cp_next l0 k rows HRW.out); go_wp2
       go_roundw
       case rel => exact ⟨k + 1, by omega, by go_num, HB, ⟨by rw [← HN.out]; exact HV.out⟩⟩
       case measure => simp [intOf]; omega
    ·have hke : k = l0.length := by omega
     subst hke; rw [cp_all] at HV; go_wp2
     go_loopw [53] (fun u wr => ∃ (i : Nat) (lw : Wd), i ≤ l1.length ∧ u = .int .i64 i ∧ Aside0 (Below w.heap.size w wr) ∧ Aside0 (WRep wr w.heap.size (.slice A l0.length c) lw) ∧ Aside0 (stepsW l0 (l1.take i) = (lw, 0))) (fun u _ => l1.length - (intOf u).toNat)
     case atStart => exact ⟨0, l0, Nat.zero_le _, rfl, HB, HV, ⟨rfl⟩⟩
     case round =>
      clear HB HV; obtain ⟨i, lw, hi, rfl, HB, HV, HST⟩ := hrel; have HGD := A_ (stepsW_good l0 (l1.take i) HS6.out.2.2)
      by_cases hlti : i < l1.length
      ·obtain ⟨be, B2, d2, e2, hx0, hx1, hx2, hx3, hx4, hx5, hl2, hi2⟩ := at_T61 HR1.out i (by omega) (by omega)
       cases e2
       rw [Int.toNat_natCast] at hx0 hx1 hx2 hx3 hx4 hx5; replace hx0 := cell_below HB.out hx0; replace hx1 := cell_below HB.out hx1; replace hx2 := cell_below HB.out hx2; replace hx3 := cell_below HB.out hx3; replace hx4 := cell_below HB.out hx4; replace hx5 := cell_below HB.out hx5; have HRR := A_ hi2; have HRC := A_ hl2; have HCI : Aside0 (l1.take (i + 1) = l1.take i ++ [rd_T61 l1 (i : Int)]) := ⟨by rw [List.take_succ_eq_append_getElem hlti]; congr 2; simp [rd_T61, List.getD_eq_getElem?_getD, hlti]⟩; clear hi2 hl2; generalize rd_T61 l1 (i : Int) = ch at hx0 hx1 hx2 hx3 hx4 hx5 HRR HRC HCI
       have HSN : Aside0 (stepsW l0 (l1.take (i + 1)) = stepE lw ch) := ⟨by
        have := stepsW_snoc (l1.take i) l0 ch (by rw [HST.out]); rw [HST.out] at this
        rw [HCI.out]; exact this⟩
       have HCT := A_ (fun (W : World) (hb : Below w.heap.size w W) (hv : WRep W w.heap.size (.slice A l0.length c) lw) => apply_step w W (.slice A l0.length c) lw ch.f0 ch.f1 ch.f2 ch.f3 ch.f4 B2 d2 ch.f5 hb hv HRR.out HRC.out (n := 512 + (l1.take i).length) (by have := HGD.out.1; rw [HST.out] at this; exact this) (by rw [List.length_take]; omega))
       by_cases he : (stepS lw ch).2 = 0
       ·have heb : (stepW lw ch.f0 ch.f1 ch.f2 ch.f3 ch.f4 ch.f5).2 = 0 := he
        rw [heb] at HCT; have HE := A_ he; clear he heb
        go_wp2_with (go_at_call 44; refine (HCT.out _ ?b1 ?b2).mono ?_; (case b1 => exact below_alloc HB.out _); (case b2 => exact HV.out.below (below_alloc (Below.refl _ _) _)); rintro e w9 ⟨rfl, hv9, hb9⟩; have HV9 := A_ hv9; have HB9 := A_ hb9; clear hv9 hb9)
        go_roundw
        case rel => exact ⟨i + 1, (stepS lw ch).1, by omega, by go_num, HB9, HV9, ⟨by rw [HSN.out]; unfold stepE; rw [if_pos HE.out]⟩⟩
        case measure => simp [intOf]; omega
       ·have heb : (stepW lw ch.f0 ch.f1 ch.f2 ch.f3 ch.f4 ch.f5).2 ≠ 0 := he
        obtain ⟨er, her⟩ : ∃ er, er = (stepW lw ch.f0 ch.f1 ch.f2 ch.f3 ch.f4 ch.f5).2 := ⟨_, rfl⟩; rw [← her] at HCT heb; have hnb : (er != 0) = true := bne_iff_ne.2 heb
        have HAP : Aside0 (applyR l0 l1 = ([], er)) := ⟨by
         have h1 : (stepsW l0 (l1.take (i + 1))).2 = er := by rw [HSN.out]; unfold stepE; rw [if_neg he]; exact her.symm
         have h2 : (stepsW l0 l1).2 = er := by
          have := stepsW_stop (l1.take (i + 1)) (l1.drop (i + 1)) l0 (by rw [h1]; exact heb); rw [List.take_append_drop] at this; rw [this, h1]
         unfold applyR
         rw [HB0.out, if_neg (by simp), if_neg hll, if_pos (by rw [h2]; exact heb), h2]⟩
        clear he heb her
        go_wp2_with (go_at_call 44; refine (HCT.out _ ?b1 ?b2).mono ?_; (case b1 => exact below_alloc HB.out _); (case b2 => exact HV.out.below (below_alloc (Below.refl _ _) _)); rintro e w9 ⟨rfl, hv9, hb9⟩; have HV9 := A_ hv9; have HB9 := A_ hb9; clear hv9 hb9)
        go_ret2; exact ⟨.slice none 0 0, by rw [HAP.out]; rfl, by rw [HAP.out]; exact Kd.R_nil _ _ _ _ _, HB9.out⟩
      ·have hie : i = l1.length := by omega
       subst hie; rw [List.take_length] at HST HGD; have hsum := HGD.out.1.sum; rw [HGD.out.2, HST.out] at hsum; have hbig : sumLen lw ≤ 6 * (512 + 8192) := Nat.le_trans hsum (Nat.mul_le_mul (by omega) (by omega))
       have hlw : lw.length = l0.length := by have := HGD.out.2; rw [HST.out] at this; exact this
       have HLW := A_ hlw; clear hsum hlw; go_wp2
       go_loopw [66, 13] (fun u v wr' => ∃ k : Nat, k ≤ l0.length ∧ u = .int .i64 k ∧ v = .int .i64 (sumLen (lw.take k) : Nat) ∧ Aside0 (wr' = wr)) (fun u _ _ => l0.length - (intOf u).toNat)
       case atStart => exact ⟨0, Nat.zero_le _, rfl, rfl, ⟨rfl⟩⟩
       case round =>
        obtain ⟨k, hk, rfl, rfl, HWR⟩ := hrel; obtain ⟨HWR⟩ := HWR; subst HWR
        by_cases hltk' : k < l0.length
        ·have hltk : k < lw.length := by have := HLW.out; omega
         have hkr : lw[k]? = some lw[k] := List.getElem?_eq_getElem hltk; obtain ⟨ad, c', hAe, _⟩ := HV.out.known hkr
         injection hAe with hAe _ _
         subst hAe; obtain ⟨A2, c2, hy, _, hrw, _⟩ := WRep.seen (show WRep wr w.heap.size (.slice (some ad) lw.length c) lw by rw [HLW.out]; exact HV.out) hkr; have hsn := sumLen_snoc lw k hltk; have hst := sumLen_take lw (k + 1)
         have hb1 : ((sumLen (lw.take k) : Nat) : Int) + (lw[k].length : Int) < 4611686018427387904 := by omega
         have HSN := A_ hsn; clear hsn hst hkr; go_wp2
         go_roundw
         case rel => exact ⟨k + 1, by omega, by go_num, by rw [HSN.out]; rfl, by first | exact ⟨rfl⟩ | exact ⟨trivial⟩⟩
         case measure => simp [intOf]; omega
        ·have hke : k = l0.length := by omega
         subst hke
         have htk : lw.take l0.length = lw := by rw [← HLW.out]; exact List.take_length
         rw [htk]; clear htk
         have HAP : Aside0 (applyR l0 l1 = if 512 < (sumLen lw : Int) then ([], 4) else (lw, 0)) := ⟨by
          unfold applyR; rw [HB0.out, if_neg (by simp), if_neg hll, HST.out, if_neg (by simp)]
          rfl⟩
         by_cases hbg : (512 : Int) < (sumLen lw : Int)
         (· have hbb := decide_eq_true hbg; rw [if_pos hbg] at HAP; go_wp2; go_ret2; exact ⟨.slice none 0 0, by rw [HAP.out]; rfl, by rw [HAP.out]; exact Kd.R_nil _ _ _ _ _, HB.out⟩); (· have hbb := decide_eq_false hbg; rw [if_neg hbg] at HAP; go_wp2; go_ret2; exact ⟨.slice A l0.length c, by rw [HAP.out]; rfl, by rw [HAP.out]; exact HV.out.R, HB.out⟩)
def diff_Apply.f (l0 : Wd) (l1 : List S61) : Option (Wd × Int) := if sumLen l0 < 4611686018427387904 then some (applyR l0 l1) else none
theorem diff_Apply.calls (A0 : Option Addr) (c0 : Nat) (l0 : List (List (List Int))) (A1 : Option Addr) (c1 : Nat) (l1 : List S61) (r1 : List (List (List Int))) (r2 : Int) (w : World) (hr0 : Kd.C (Kd.slice 22 (Kd.slice 3 (Kd.int .i64))) w A0 l0.length l0) (hc0 : l0.length ≤ c0)
  (hr1 : Kd.C k61 w A1 l1.length l1) (hc1 : l1.length ≤ c1) (h : diff_Apply.f l0 l1 = some (r1, r2)) : Calls Try.prog 19 #[.slice A0 l0.length c0, .slice A1 l1.length c1] w fun e w' => ∃ v0_ : Value, e = .returned (.tuple #[v0_, .int .i64 r2]) ∧ Kd.R (Kd.slice 22 (Kd.slice 3 (Kd.int .i64))) 64 w' w.heap.size (fun _ => True) v0_ r1 ∧ Below w.heap.size w w' := by
 unfold diff_Apply.f at h
 split at h
 ·next hs =>
  have e := Option.some.inj h; have := apply_any A0 c0 l0 A1 c1 l1 w hr0 hc0 hr1 hc1 hs; rw [e] at this; exact this
 ·cases h
end Go.Proofs.Ytcgpemefmakjiaa.PX
namespace Go.Proofs.Ytcgpemefmakjiaa.Iter
open Go.RowKit
structure KeepBody (B : Nat) (ts : List Nat) (W W' : World) : Prop where
 os : W'.os = W.os
 tape : W'.tape = W.tape
 output : W'.output = W.output
 size : W.heap.size ≤ W'.heap.size
 same : ∀ (i : Nat) (o : Obj), W.heap[i]? = some o → (i < B ∨ o.isCells = false ∨ ∃ c t fr, o = .cells c t fr ∧ t ∉ ts) → W'.heap[i]? = some o
structure KeepIter (B : Nat) (ts : List Nat) (W W' : World) : Prop where
 os : W'.os = W.os
 tape : W'.tape = W.tape
 output : W'.output = W.output
 size : W.heap.size ≤ W'.heap.size
 same : ∀ (i : Nat) (o : Obj), W.heap[i]? = some o → (i < B ∨ ∃ c t fr, o = .cells c t fr ∧ t ∉ ts) → W'.heap[i]? = some o
variable {B : Nat} {ts : List Nat} {W W' W1 W2 : World}
theorem KeepBody.refl (B : Nat) (ts : List Nat) (W : World) : KeepBody B ts W W := ⟨rfl, rfl, rfl, Nat.le_refl _, fun _ _ h _ => h⟩
theorem KeepBody.trans (h : KeepBody B ts W W1) (k : KeepBody B ts W1 W2) : KeepBody B ts W W2 := ⟨k.os.trans h.os, k.tape.trans h.tape, k.output.trans h.output, Nat.le_trans h.size k.size, fun i o hi ho => k.same i o (h.same i o hi ho) ho⟩
theorem KeepBody.alloc (B : Nat) (ts : List Nat) (W : World) (o : Obj) : KeepBody B ts W (W.alloc o) := ⟨rfl, rfl, rfl, by simp, fun k o' hk _ => (Below.heap_alloc W o k (Array.getElem?_eq_some_iff.1 hk).1).trans hk⟩
theorem KeepBody.grown {row : Option Nat} (hg : W.grownBy W' row) (hr : ∀ r, row = some r → B ≤ r ∧ ∀ o, W.heap[r]? = some o → ∃ c t fr, o = .cells c t fr ∧ t ∈ ts) : KeepBody B ts W W' :=
 ⟨hg.os, hg.tape, hg.output, hg.size, fun i o hi ho => (hg.block i (Array.getElem?_eq_some_iff.1 hi).1 (fun e => by
  obtain ⟨h1, h2⟩ := hr i e.symm; obtain ⟨c, t, fr, h3, h4⟩ := h2 o hi; subst h3
  rcases ho with ho | ho | ⟨c', t', fr', ho, hn⟩
  (· omega)
  ·simp [Obj.isCells] at ho
  ·injection ho with _ ho
   exact hn (ho ▸ h4))).trans hi⟩
theorem KeepBody.setCell {p : Addr} (u : Value) (hp : B ≤ p.block) (ht : ∀ o, W.heap[p.block]? = some o → ∃ c t fr, o = .cells c t fr ∧ t ∈ ts) : KeepBody B ts W (W.setCell p u) :=
 ⟨rfl, rfl, rfl, by show W.heap.size ≤ (W.heap.modify _ _).size; rw [Array.size_modify]; exact Nat.le_refl _, fun i o hi ho => (Below.heap_setCell W p u i (fun e => by
  subst e; obtain ⟨c, t, fr, h3, h4⟩ := ht o hi; subst h3
  rcases ho with ho | ho | ⟨c', t', fr', ho, hn⟩
  (· omega)
  ·simp [Obj.isCells] at ho
  ·injection ho with _ ho
   exact hn (ho ▸ h4))).trans hi⟩
theorem KeepBody.iter (h : KeepBody B ts W W') : KeepIter B ts W W' := ⟨h.os, h.tape, h.output, h.size, fun i o hi ho => h.same i o hi (ho.imp id (fun h => .inr h))⟩
theorem KeepIter.trans (h : KeepIter B ts W W1) (k : KeepIter B ts W1 W2) : KeepIter B ts W W2 := ⟨k.os.trans h.os, k.tape.trans h.tape, k.output.trans h.output, Nat.le_trans h.size k.size, fun i o hi ho => k.same i o (h.same i o hi ho) ho⟩
theorem KeepIter.below (h : KeepIter B ts W W') (hB : B ≤ W.heap.size) : Below B W W' :=
 ⟨h.os, h.tape, h.output, h.size, fun k hk => by
  have hk' : k < W.heap.size := by omega
  rw [Array.getElem?_eq_getElem hk']
  exact h.same k _ (Array.getElem?_eq_getElem hk') (.inl hk)⟩
theorem KeepIter.putObj {l : Nat} {o : Obj} (o' : Obj) (hB : B ≤ l) (hl : W.heap[l]? = some o) (ho : o.isCells = false) : KeepIter B ts W (W.putObj l o') :=
 ⟨rfl, rfl, rfl, by simp, fun i o2 hi h2 => (World.putObj_heap_other (fun e => by
  subst e; rw [hl] at hi
  injection hi with hi
  subst hi
  rcases h2 with h2 | ⟨c, t, fr, h2, _⟩
  (· omega)
  ·subst h2; simp [Obj.isCells] at ho)).trans hi⟩
def StepI (B : Nat) (tI : List Nat) (W W' : World) : Prop := ∃ row, W.grownBy W' row ∧ ∀ r, row = some r → B ≤ r ∧ ∃ o, W.heap[r]? = some o ∧ (o.isCells = false ∨ ∃ c t fr, o = .cells c t fr ∧ t ∈ tI)
def StepC (B : Nat) (tI : List Nat) (W W' : World) : Prop := ∃ row, W.grownBy W' row ∧ ∀ r, row = some r → B ≤ r ∧ ∃ c t fr, W.heap[r]? = some (.cells c t fr) ∧ t ∈ tI
theorem StepC.i {B B' : Nat} {tI : List Nat} (h : StepC B tI W W') (hB : B' ≤ B) : StepI B' tI W W' := by
 obtain ⟨row, hg, hr⟩ := h; refine ⟨row, hg, fun r e => ?_⟩; obtain ⟨h1, c, t, fr, h2, h3⟩ := hr r e; exact ⟨by omega, _, h2, .inr ⟨c, t, fr, rfl, h3⟩⟩
theorem StepI.putObj {tI : List Nat} {l : Nat} {o : Obj} (o' : Obj) (hB : B ≤ l) (hl : W.heap[l]? = some o) (ho : o.isCells = false) : StepI B tI W (W.putObj l o') :=
 ⟨some l, grownBy_putObj' W l o', fun r e => by cases e; exact ⟨hB, o, hl, .inl ho⟩⟩
theorem StepI.alloc (B : Nat) (tI : List Nat) (W : World) (o : Obj) : StepI B tI W (W.alloc o) := ⟨none, World.grownBy_alloc W o none, fun r e => by cases e⟩
theorem StepC.alloc (B : Nat) (tI : List Nat) (W : World) (o : Obj) : StepC B tI W (W.alloc o) := ⟨none, World.grownBy_alloc W o none, fun r e => by cases e⟩
theorem StepI.other {tI : List Nat} (h : StepI B tI W W') {i : Nat} {c : Array Value} {t : Nat} {fr : Nat × Nat} (hi : W.heap[i]? = some (.cells c t fr)) (ht : t ∉ tI) : W'.heap[i]? = some (.cells c t fr) := by
 obtain ⟨row, hg, hr⟩ := h; refine (hg.block i (Array.getElem?_eq_some_iff.1 hi).1 (fun e => ?_)).trans hi; obtain ⟨_, o, ho, hc⟩ := hr i e.symm; rw [hi] at ho
 injection ho with ho
 subst ho
 rcases hc with hc | ⟨c', t', fr', he, hm⟩
 ·simp [Obj.isCells] at hc
 ·injection he with _ he
  exact ht (he ▸ hm)
theorem StepI.below {tI : List Nat} {n0 : Nat} {w : World} (h : StepI B tI W W') (hb : Below n0 w W) (hn : n0 ≤ w.heap.size) (hB : n0 ≤ B) : Below n0 w W' := by
 obtain ⟨row, hg, hr⟩ := h; exact hb.grown hg (Nat.le_trans hn hb.size) (fun k e => Nat.le_trans hB (hr k e).1)
theorem StepC.nocells {tI : List Nat} (h : StepC B tI W W') {i : Nat} {o : Obj} (hi : W.heap[i]? = some o) (ho : o.isCells = false) : W'.heap[i]? = some o := by
 obtain ⟨row, hg, hr⟩ := h; refine (hg.block i (Array.getElem?_eq_some_iff.1 hi).1 (fun e => ?_)).trans hi; obtain ⟨_, c, t, fr, h2, _⟩ := hr i e.symm; rw [hi] at h2
 injection h2 with h2
 subst h2
 simp [Obj.isCells] at ho
def onPost (B : Nat) (ts : List Nat) (W : World) (R : World → Prop) : Exit → Act → World → Prop
 | .normal, _, W' => KeepBody B ts W W' ∧ R W'
 | _, _, _ => False
def Iterates {α : Type} (F : Fence) (n : Nat) (P : Program) (gf : Nat) (lb : Array Value) (enc : α → Array Value) (T : α → World → Prop) (S : List α → World → Prop) (N : Nat) (B : Nat) (ts tI : List Nat) (l : Nat) (W1 : World) : Prop :=
 ∀ J : List α → World → Prop, (∀ s A C, J s A → StepC W1.heap.size tI A C → J s C) →
  (∀ pre x W, J pre W → pre.length < N → T x W → YieldAt F (n - 1) P l (enc x) W fun e W' => e = .returned (.bool true) ∧ J (pre ++ [x]) W' ∧ KeepIter B ts W W') →
  J [] W1 → CallsIn F n P gf (#[.func (.yield l) #[] #[]] ++ lb) W1 fun e W' => (∃ v, e = .returned v) ∧ ∃ xs, S xs W' ∧ J xs W'
variable {F : Fence} {n : Nat} {P : Program}
theorem wpIn_range_on {α : Type} {g : Operand} {ps : Array Tmp} {assign body : Code} {Q : Exit → Act → World → Prop} {a : Act} {w : World}
  (hro : F.round = none) (h1 : 1 ≤ n) {gf : Nat} {lb : Array Value} (hg : a.eval g = .func (.func gf) #[] lb) (hFg : F.fn gf) (eg : ∀ args w, (callFunc gf args).run P w = .ok (.enter gf args) w)
  {enc : α → Array Value} {T : α → World → Prop} {S : List α → World → Prop} {N : Nat} {B : Nat} {ts tI : List Nat} (hB : B ≤ w.heap.size)
  (hiter : ∀ L, Iterates F (n - 1) P gf lb enc T S N B ts tI (w.heap.size + 1) ((w.alloc (.deferred (some []))).alloc (.loop L)))
  (hps : ∀ x, (enc x).size = ps.size)
  (I : List α → World → Prop) (Ax : α → Act → World → Prop)
  (hI : ∀ s A C, I s A → StepI w.heap.size tI A C → I s C) (hT : ∀ x A C, T x A → StepI w.heap.size tI A C → T x C) (hS : ∀ s A C, S s A → StepI w.heap.size tI A C → S s C) (hAx : ∀ x a A C, Ax x a A → StepI w.heap.size tI A C → Ax x a C)
  (h0 : I [] w)
  (hassign : ∀ (l : Nat) (pre : List α) (x : α) (W : World) (K : Act → World → Prop), I pre W → T x W → (∀ a1 W1, KeepBody B ts W W1 → I pre W1 → T x W1 → Ax x a1 W1 → K a1 W1) →
   assign.wpIn (F.inRound l) (n - 1 - 1) P (Exit.then K (fun _ _ _ => False)) { tmps := (ps.zip (enc x)).foldl (fun t (p, v) => t.setIfInBounds p v) a.tmps, defers := [] } W)
  (hbody : ∀ (l : Nat) (pre : List α) (x : α) (a1 : Act) (W : World), I pre W → pre.length < N → T x W → Ax x a1 W → body.wpIn (F.inRound l) (n - 1 - 1) P (onPost B ts W (I (pre ++ [x]))) a1 W)
  (hdone : ∀ (D : Nat) (xs : List α) (W : World), w.heap.size ≤ D → S xs W → I xs W → W.heap[D]? = some (.deferred (some [])) → Q .normal { a with defers := { target := .collected D, args := #[] } :: a.defers } W) :
  (Code.rangeFunc g ps assign body).wpIn F n P Q a w := by
 refine wpIn_rangeFunc ?_; intro fn hfn; rw [hro]
 obtain ⟨rec, hrec⟩ : ∃ rec : LoopState → Option Code → Loop, rec = fun st pe => { state := st, pending := pe, fn, tmps := a.tmps, params := ps, assign, body, defers := w.heap.size } := ⟨_, rfl⟩
 have hit := hiter (rec .ready none); obtain ⟨W1, hW1⟩ : ∃ W1, (w.alloc (.deferred (some []))).alloc (.loop (rec .ready none)) = W1 := ⟨_, rfl⟩; rw [hW1] at hit
 have hsz : W1.heap.size = w.heap.size + 2 := by rw [← hW1]; simp
 have hL1 : W1.heap[w.heap.size + 1]? = some (.loop (rec .ready none)) := by
  rw [← hW1]; have := World.alloc_heap_new (w.alloc (.deferred (some []))) (.loop (rec .ready none)); rwa [World.size_alloc] at this
 have hK1 : W1.heap[w.heap.size]? = some (.deferred (some [])) := by
  rw [← hW1]; exact (Below.heap_alloc _ _ _ (by simp)).trans (World.alloc_heap_new w _)
 have hI1 : I [] W1 := by rw [← hW1]; exact hI _ _ _ (hI _ _ _ h0 (StepI.alloc _ _ _ _)) (StepI.alloc _ _ _ _)
 refine ⟨w.heap.size + 1, [{ target := .collected w.heap.size, args := #[] }], W1, { target := .fn (.func gf) lb, args := #[.func (.yield (w.heap.size + 1)) #[] #[]] }, W1, gf,
  #[.func (.yield (w.heap.size + 1)) #[] #[]] ++ lb, W1, ?_, ?_, ?_, ?_, fun _ => h1, ?_⟩
 (· rw [← hW1, hrec]; exact run_enterLoop_outer _ _ _ _ _)
 ·simp only [resolve, hg]
  simp [go_sem]
 (· intro f' hf'; simp [Target.leads] at hf'; subst hf'; exact hFg)
 ·simp [invoke, go_sem, eg]
 ·refine (hit (fun pre W => I pre W ∧ W.heap[w.heap.size + 1]? = some (.loop (rec .ready none)) ∧ W.heap[w.heap.size]? = some (.deferred (some [])))
   (fun s A C hs hst => ⟨hI s A C hs.1 (hst.i (by omega)), hst.nocells hs.2.1 rfl, hst.nocells hs.2.2 rfl⟩) ?_ ⟨hI1, hL1, hK1⟩).mono ?_
  ·rintro pre x W ⟨hi, hl, hk⟩ hlen ht
   have hlt : w.heap.size + 1 < W.heap.size := (Array.getElem?_eq_some_iff.1 hl).1; have hy := run_yield (P := P) (args := enc x) hl (by rw [hrec]; exact hps x); rw [hrec] at hy; refine ⟨fn, _, assign, body, hy, roundIn_of_wpIn hfn (hassign _ pre x W _ hi ht (fun a1 W2 hkb hi2 ht2 hax => ?_))⟩; have hl2 : W2.heap[w.heap.size + 1]? = some (.loop (rec .ready none)) := hkb.same _ _ hl (.inr (.inl rfl)); have hk2 : W2.heap[w.heap.size]? = some (.deferred (some [])) := hkb.same _ _ hk (.inr (.inl rfl)); have hlt2 : w.heap.size + 1 < W2.heap.size := (Array.getElem?_eq_some_iff.1 hl2).1; refine ⟨_, run_beginRound hl2 (by rw [hrec]), ?_⟩; obtain ⟨W3, hW3⟩ : ∃ W3, W2.putObj (w.heap.size + 1) (.loop { rec .ready none with state := .busy }) = W3 := ⟨_, rfl⟩
   have hst : StepI w.heap.size tI W2 W3 := by rw [← hW3]; exact StepI.putObj _ (by omega) hl2 rfl
   have hl3 : W3.heap[w.heap.size + 1]? = some (.loop { rec .ready none with state := .busy }) := by rw [← hW3]; exact World.putObj_heap_same hlt2
   have hk3 : W3.heap[w.heap.size]? = some (.deferred (some [])) := by rw [← hW3]; exact (World.putObj_heap_other (by omega)).trans hk2
   have hw3 : KeepIter B ts W2 W3 := by rw [← hW3]; exact KeepIter.putObj _ (by omega) hl2 rfl
   rw [hW3]; refine wpIn_mono (hbody _ pre x a1 W3 (hI _ _ _ hi2 hst) hlen (hT _ _ _ ht2 hst) (hAx _ _ _ _ hax hst)) ?_; rintro e a3 W4 hp
   cases e with
   | normal =>
    obtain ⟨hkb4, hi4⟩ := hp; have hl4 := hkb4.same _ _ hl3 (.inr (.inl rfl)); have hk4 := hkb4.same _ _ hk3 (.inr (.inl rfl)); have hr := run_endRound (P := P) none hl4; refine ⟨_, _, hr, rfl, ⟨hI _ _ _ hi4 (StepI.putObj _ (by omega) hl4 rfl), ?_, (World.putObj_heap_other (by omega)).trans hk4⟩, ((hkb.iter.trans hw3).trans hkb4.iter).trans (KeepIter.putObj _ (by omega) hl4 rfl)⟩; rw [hrec]; exact World.putObj_heap_same (Array.getElem?_eq_some_iff.1 hl4).1
   | ret => exact hp.elim
   | exit id => exact hp.elim
   | goto t => exact hp.elim
   | panic ch => exact hp.elim
   | outgrown => exact hp.elim
  ·rintro e W2 ⟨⟨v, rfl⟩, xs, hs, hi, hl, hk⟩
   have hst : ∀ o', StepI w.heap.size tI W2 (W2.putObj (w.heap.size + 1) o') := fun o' => StepI.putObj _ (by omega) hl rfl
   exact ⟨none, _, by have := run_endLoop (P := P) hl (by rw [hrec]; simp); rw [hrec] at this; exact this, hdone _ xs _ (Nat.le_refl _) (hS _ _ _ hs (hst _)) (hI _ _ _ hi (hst _)) ((World.putObj_heap_other (by omega)).trans hk)⟩
end Go.Proofs.Ytcgpemefmakjiaa.Iter
namespace Go.Proofs.Ytcgpemefmakjiaa.PX
open Go.RowKit Go.Shelf Go.Proofs.Ytcgpemefmakjiaa.Iter Go.Proofs.YtcgpemefmakjiaaW.PrintWords Go.Proofs.YtcgpemefmakjiaaW.PrintLast Go.Proofs.YtcgpemefmakjiaaW.PrintMore
attribute [local go_sem] Oper.semAt_some
theorem room_none {F : Fence} (hd : F.depth = none) (k : Nat) : F.room k := fun d h => by rw [hd] at h; cases h
theorem round_any {F : Fence} (hd : F.depth = none) {m m' : Nat} {P : Program} {l : Nat} {f : FuncId} {tmps : Array Value} {assign body : Code} {w : World} {R : Ending → World → Prop}
  (h : RoundIn F m P l f tmps assign body w R) : RoundIn F m' P l f tmps assign body w R := ⟨h.1, fun c cs _ => h.2 c cs (room_none hd _)⟩
theorem yield_any {F : Fence} (hd : F.depth = none) {m : Nat} (m' : Nat) {P : Program} {l : Nat} {args : Array Value} {W : World} {R : Ending → World → Prop} (h : YieldAt F m P l args W R) : YieldAt F m' P l args W R := by
 obtain ⟨fn, tmps, assign, body, hy, hR⟩ := h; exact ⟨fn, tmps, assign, body, hy, round_any hd hR⟩
set_option maxHeartbeats 1000000 in
theorem say_in (n l : Nat) (k i f o nw : Int) (v : Value) (bm by_ : Nat) (W : World) (R : World → Prop)
  (hm : W.cell? ⟨bm, 0, none⟩ = some (.bool true)) (hyb : W.cell? ⟨by_, 0, none⟩ = some (.func (.yield l) #[] #[])) (hv : v.oneCell' = true)
  (hY : YieldAt Fence.wide n Try.prog l #[.agg #[.int .i64 k, .int .i64 i, .int .i64 f, .int .i64 o, .int .i64 nw, v]] (W.alloc (.cells #[.int .i64 k, .int .i64 i, .int .i64 f, .int .i64 o, .int .i64 nw, v] 61)) fun e W' => e = .returned (.bool true) ∧ R W')
  (hR : ∀ W', R W' → W'.cell? ⟨bm, 0, none⟩ = some (.bool true) ∧ W'.frozen? ⟨bm, 0, none⟩ = false) :
  CallsIn Fence.wide n Try.prog 65 #[.agg #[.int .i64 k, .int .i64 i, .int .i64 f, .int .i64 o, .int .i64 nw, v], .pointer (some ⟨bm, 0, none⟩), .pointer (some ⟨by_, 0, none⟩)] W fun e W' =>
   (∃ v, e = .returned v) ∧ ∃ W2, R W2 ∧ W' = W2.setCell ⟨bm, 0, none⟩ (.bool true) := by
 refine callsIn_of_wp Try.func65 rfl trivial ?_ rfl; simp only [Try.ntmps65, List.size_toArray, List.length_cons, List.length_nil, Nat.reduceAdd, Nat.reduceSub, Array.replicate_succ, Array.replicate_zero, List.push_toArray, List.append_toArray, List.nil_append, List.cons_append]; obtain ⟨fn, tmps, assign, body, hy, hRR⟩ := yield_any (m' := n - 1) rfl hY; clear hY; have hm1 := World.cell?_alloc_lt W (.cells #[.int .i64 k, .int .i64 i, .int .i64 f, .int .i64 o, .int .i64 nw, v] 61) ⟨bm, 0, none⟩ (World.block_lt_of_cell? W _ hm); have hy1 := World.cell?_alloc_lt W (.cells #[.int .i64 k, .int .i64 i, .int .i64 f, .int .i64 o, .int .i64 nw, v] 61) ⟨by_, 0, none⟩ (World.block_lt_of_cell? W _ hyb); rw [hm] at hm1; rw [hyb] at hy1; clear hm hyb
 gi_wp2
 refine ⟨(fun h => by cases h), hRR.mono ?_⟩; rintro e W3 ⟨rfl, hr⟩; obtain ⟨hm3, hf3⟩ := hR W3 hr; have HR := Lib.hid hr; clear hr hR hy hRR
 gi_wp2
 go_end0
 exact ⟨⟨_, rfl⟩, W3, HR.out, rfl⟩
def setAt (kind : Int) (i : Nat) (ra rb : List Int) (k : Nat) : List S61 := if rd rb k = rd ra k then [] else [⟨kind, i, k, rd ra k, rd rb k, []⟩]
def setRow (kind : Int) (i : Nat) (ra rb : List Int) (n : Nat) : List S61 := (List.range n).flatMap (setAt kind i ra rb)
def setAll (kind : Int) (a b : List (List Int)) (m : Nat) : List S61 := (List.range m).flatMap fun i => setRow kind i (rd_L1 a i) (rd_L1 b i) (rd_L1 a i).length
def takeL (kind : Int) (a : List (List Int)) (j : Nat) : List S61 := (List.range j).map fun (q : Nat) => ⟨kind, (a.length : Int) - 1 - q, -2, 0, 0, rd_L1 a ((a.length : Int) - 1 - q)⟩
def addL (kind : Int) (b : List (List Int)) (m j : Nat) : List S61 := (List.range j).map fun (q : Nat) => ⟨kind, (m : Int) + q, -1, 0, 0, rd_L1 b ((m : Int) + q)⟩
def chgs (kind : Int) (a b : List (List Int)) (m : Nat) : List S61 := setAll kind a b m ++ takeL kind a (a.length - m) ++ addL kind b m (b.length - m)
theorem setRow_snoc (kind : Int) (i : Nat) (ra rb : List Int) (n : Nat) : setRow kind i ra rb (n + 1) = setRow kind i ra rb n ++ setAt kind i ra rb n := by simp [setRow, List.range_succ, List.flatMap_append]
theorem setAll_snoc (kind : Int) (a b : List (List Int)) (m : Nat) : setAll kind a b (m + 1) = setAll kind a b m ++ setRow kind m (rd_L1 a m) (rd_L1 b m) (rd_L1 a m).length := by simp [setAll, List.range_succ, List.flatMap_append]
theorem takeL_snoc (kind : Int) (a : List (List Int)) (j : Nat) : takeL kind a (j + 1) = takeL kind a j ++ [⟨kind, (a.length : Int) - 1 - j, -2, 0, 0, rd_L1 a ((a.length : Int) - 1 - j)⟩] := by simp [takeL, List.range_succ]
theorem addL_snoc (kind : Int) (b : List (List Int)) (m j : Nat) : addL kind b m (j + 1) = addL kind b m j ++ [⟨kind, (m : Int) + j, -1, 0, 0, rd_L1 b ((m : Int) + j)⟩] := by simp [addL, List.range_succ]
abbrev Yd := S61 × Value
def Yd.cells (x : Yd) : Array Value := #[.int .i64 x.1.f0, .int .i64 x.1.f1, .int .i64 x.1.f2, .int .i64 x.1.f3, .int .i64 x.1.f4, x.2]
def Yd.enc (x : Yd) : Array Value := #[.agg x.cells]
def Yd.T (B : Nat) (x : Yd) (W : World) : Prop := Kd.R (Kd.int .i64) 3 W B (fun _ => True) x.2 x.1.f5
theorem Yd.T_one {B : Nat} {x : Yd} {W : World} (h : x.T B W) : x.2.oneCell' = true := by
 obtain ⟨A, c, e⟩ := Kd.R_slice h; rw [e]; rfl
structure Ctx (w0 : World) (l : Nat) (kind : Int) (m : Nat) (A Ab : Option Addr) (ca cb : Nat) (a b : List (List Int)) (bm ba bb bk gm gy : Nat) (wr : World) : Prop where
 m_ : wr.heap[bm]? = some (.cells #[.int .i64 m] 3 (0, 0))
 a_ : wr.heap[ba]? = some (.cells #[.slice A a.length ca] 64 (0, 0))
 b_ : wr.heap[bb]? = some (.cells #[.slice Ab b.length cb] 64 (0, 0))
 k_ : wr.heap[bk]? = some (.cells #[.int .i64 kind] 3 (0, 0))
 more : wr.heap[gm]? = some (.cells #[.bool true] 4 (0, 0))
 yb : wr.heap[gy]? = some (.cells #[.func (.yield l) #[] #[]] 104 (0, 0))
 bel : Below w0.heap.size w0 wr
section
variable {w0 : World} {l : Nat} {kind : Int} {m : Nat} {A Ab : Option Addr} {ca cb : Nat} {a b : List (List Int)} {bm ba bb bk gm gy : Nat} {wr wr' : World}
theorem Ctx.later (h : Ctx w0 l kind m A Ab ca cb a b bm ba bb bk gm gy wr) (hb : Below wr.heap.size wr wr') : Ctx w0 l kind m A Ab ca cb a b bm ba bb bk gm gy wr' := by
 have q : ∀ i o, wr.heap[i]? = some o → wr'.heap[i]? = some o := fun i o hi => (hb.block i (Array.getElem?_eq_some_iff.1 hi).1).trans hi
 exact ⟨q _ _ h.m_, q _ _ h.a_, q _ _ h.b_, q _ _ h.k_, q _ _ h.more, q _ _ h.yb, h.bel.trans (hb.mono h.bel.size)⟩
theorem Ctx.keep (h : Ctx w0 l kind m A Ab ca cb a b bm ba bb bk gm gy wr) (hb : KeepIter w0.heap.size [30, 61] wr wr') : Ctx w0 l kind m A Ab ca cb a b bm ba bb bk gm gy wr' := by
 have q : ∀ (i : Nat) (c : Array Value) (t : Nat), wr.heap[i]? = some (Obj.cells c t (0, 0)) → t ∉ [30, 61] → wr'.heap[i]? = some (.cells c t (0, 0)) := fun i c t hi ht => hb.same _ _ hi (.inr ⟨c, t, _, rfl, ht⟩)
 exact ⟨q _ _ _ h.m_ (by decide), q _ _ _ h.a_ (by decide), q _ _ _ h.b_ (by decide), q _ _ _ h.k_ (by decide), q _ _ _ h.more (by decide), q _ _ _ h.yb (by decide), h.bel.trans (hb.below h.bel.size)⟩
theorem Ctx.set (h : Ctx w0 l kind m A Ab ca cb a b bm ba bb bk gm gy wr) (hg : w0.heap.size ≤ gm) : Ctx w0 l kind m A Ab ca cb a b bm ba bb bk gm gy (wr.setCell ⟨gm, 0, none⟩ (.bool true)) := by
 have q : ∀ (i : Nat) (c : Array Value) (t : Nat), wr.heap[i]? = some (Obj.cells c t (0, 0)) → t ≠ 4 → (wr.setCell ⟨gm, 0, none⟩ (.bool true)).heap[i]? = some (.cells c t (0, 0)) := fun i c t hi ht => (Below.heap_setCell wr _ _ i (fun e => by
  subst e; have := h.more; rw [hi] at this
  injection this with this
  injection this with _ this
  exact ht this)).trans hi
 refine ⟨q _ _ _ h.m_ (by decide), q _ _ _ h.a_ (by decide), q _ _ _ h.b_ (by decide), q _ _ _ h.k_ (by decide), ?_, q _ _ _ h.yb (by decide), h.bel.setCell (p := ⟨gm, 0, none⟩) hg _⟩; have := blk_set h.more 0 (.bool true)
 simpa using this
theorem say_step {n N : Nat} {B1 : Nat} (J : List Yd → World → Prop) (hJ : ∀ s A C, J s A → StepC B1 [4] A C → J s C)
  (hY : ∀ pre x W, J pre W → pre.length < N → x.T w0.heap.size W → YieldAt Fence.wide (n - 1) Try.prog l x.enc W fun e W' => e = .returned (.bool true) ∧ J (pre ++ [x]) W' ∧ KeepIter w0.heap.size [30, 61] W W')
  (hg1 : B1 ≤ gm) (hB : w0.heap.size ≤ B1) (pre : List Yd) (x : Yd) (W : World) (hj : J pre W) (hlen : pre.length < N) (hc : Ctx w0 l kind m A Ab ca cb a b bm ba bb bk gm gy W) (ht : x.T w0.heap.size W) (n' : Nat) :
  CallsIn Fence.wide n' Try.prog 65 #[.agg #[.int .i64 x.1.f0, .int .i64 x.1.f1, .int .i64 x.1.f2, .int .i64 x.1.f3, .int .i64 x.1.f4, x.2], .pointer (some ⟨gm, 0, none⟩), .pointer (some ⟨gy, 0, none⟩)] W fun e W' =>
   (∃ v, e = .returned v) ∧ J (pre ++ [x]) W' ∧ Ctx w0 l kind m A Ab ca cb a b bm ba bb bk gm gy W' := by
 have hal : Below W.heap.size W (W.alloc (.cells x.cells 61)) := below_alloc (Below.refl _ _) _
 have h1 := say_in n' l x.1.f0 x.1.f1 x.1.f2 x.1.f3 x.1.f4 x.2 gm gy W (fun W2 => J (pre ++ [x]) W2 ∧ Ctx w0 l kind m A Ab ca cb a b bm ba bb bk gm gy W2)
  (cell_of_row _ _ 0 _ 4 (0, 0) hc.more) (cell_of_row _ _ 0 _ 104 (0, 0) hc.yb) (Yd.T_one ht)
  (by
   obtain ⟨fn, tmps, assign, body, hy, hR⟩ := yield_any (F := Fence.wide) rfl n' (hY pre x _ (hJ _ _ _ hj (StepC.alloc B1 [4] W (.cells x.cells 61))) hlen (Kd.R_below ht hal))
   exact ⟨fn, tmps, assign, body, hy, hR.mono (fun e W2 hp => ⟨hp.1, hp.2.1, (hc.later hal).keep hp.2.2⟩)⟩)
  (fun W2 hp => ⟨cell_of_row _ _ 0 _ 4 (0, 0) hp.2.more, by have := hp.2.more; simp [World.frozen?, this]⟩)
 refine h1.mono ?_; rintro e W' ⟨hv, W2, ⟨hj2, hc2⟩, rfl⟩; refine ⟨hv, hJ _ _ _ hj2 ⟨some gm, ?_, fun r e => ?_⟩, hc2.set (by omega)⟩; (· exact ⟨rfl, rfl, rfl, by simp [World.setCell], fun k _ hk => Below.heap_setCell _ _ _ _ (fun e => hk (by rw [e]))⟩)
 ·cases e
  exact ⟨hg1, _, 4, (0, 0), hc2.more, by decide⟩
end
end Go.Proofs.Ytcgpemefmakjiaa.PX
namespace Go.Proofs.Ytcgpemefmakjiaa.PX
open Go.RowKit Go.Shelf Go.Proofs.Ytcgpemefmakjiaa.Iter Go.Proofs.YtcgpemefmakjiaaW.PrintWords Go.Proofs.YtcgpemefmakjiaaW.PrintLast Go.Proofs.YtcgpemefmakjiaaW.PrintMore
theorem int_row_at {w : World} {A : Option Addr} {n : Nat} {xs : List Int} (h : Kd.C (Kd.int .i64) w A n xs) (k : Nat) (hk : k < n) : ∃ ad, A = some ad ∧ w.cell? (ad.add k) = some (.int .i64 (rd xs k)) := by
 obtain ⟨ad, c, e, _, hK, hc0⟩ := Kd.C_get h (0 : Int) (k : Int) (by omega) (by omega); have hK' : c = [.int .i64 (rd xs k)] := hK; subst hK'; have := hc0 0 _ rfl; exact ⟨ad, e, by simpa [Kd.int, Kd.scalar] using this⟩
set_option maxHeartbeats 400000 in
theorem changes_any (kind m : Int) (A Ab : Option Addr) (na ca nb cb : Nat) (w : World) :
  Calls Try.prog 38 #[.int .i64 kind, .slice A na ca, .slice Ab nb cb, .int .i64 m] w fun e w' =>
   e = .returned (.func (.func 64) #[] #[.pointer (some ⟨w.heap.size + 3, 0, none⟩), .pointer (some ⟨w.heap.size + 1, 0, none⟩), .pointer (some ⟨w.heap.size + 2, 0, none⟩), .pointer (some ⟨w.heap.size, 0, none⟩)]) ∧
   w' = (((w.alloc (.cells #[.int .i64 kind] 3)).alloc (.cells #[.slice A na ca] 64)).alloc (.cells #[.slice Ab nb cb] 64)).alloc (.cells #[.int .i64 m] 3) := by
 go_enter Try.func38, Try.ntmps38
 go_wp2; go_ret; exact ⟨rfl, rfl⟩
def setsN (a b : List (List Int)) (i : Nat) : Nat := (setAll 0 a b i).length
theorem setAt_len (kind kind' : Int) (i i' : Nat) (ra rb : List Int) (k : Nat) : (setAt kind i ra rb k).length = (setAt kind' i' ra rb k).length := by unfold setAt; split <;> rfl
theorem setRow_len (kind kind' : Int) (i i' : Nat) (ra rb : List Int) (n : Nat) : (setRow kind i ra rb n).length = (setRow kind' i' ra rb n).length := by
 induction n with
 | zero => rfl
 | succ n ih => rw [setRow_snoc, setRow_snoc, List.length_append, List.length_append, ih, setAt_len kind kind' i i']
theorem setRow_le (kind : Int) (i : Nat) (ra rb : List Int) (n : Nat) : (setRow kind i ra rb n).length ≤ n := by
 induction n with
 | zero => simp [setRow]
 | succ n ih =>
  rw [setRow_snoc, List.length_append]
  have : (setAt kind i ra rb n).length ≤ 1 := by unfold setAt; split <;> simp
  omega
theorem setAll_len (kind kind' : Int) (a b : List (List Int)) (m : Nat) : (setAll kind a b m).length = (setAll kind' a b m).length := by
 induction m with
 | zero => rfl
 | succ m ih => rw [setAll_snoc, setAll_snoc, List.length_append, List.length_append, ih, setRow_len kind kind' m m]
def bestOf (a b : List (List Int)) : Nat → Int × Nat
 | 0 => ((a.length : Int) + b.length, 0)
 | i + 1 => if (setsN a b (i + 1) : Int) + a.length + b.length - 2 * ((i : Int) + 1) ≤ (bestOf a b i).1 then ((setsN a b (i + 1) : Int) + a.length + b.length - 2 * ((i : Int) + 1), i + 1) else bestOf a b i
def sameM (a b : List (List Int)) : Nat := (bestOf a b (min a.length b.length)).2
theorem bestOf_succ (a b : List (List Int)) (i : Nat) : bestOf a b (i + 1) = if (setsN a b (i + 1) : Int) + a.length + b.length - 2 * ((i : Int) + 1) ≤ (bestOf a b i).1 then ((setsN a b (i + 1) : Int) + a.length + b.length - 2 * ((i : Int) + 1), i + 1) else bestOf a b i := rfl
theorem bestOf_le (a b : List (List Int)) (n : Nat) : (bestOf a b n).2 ≤ n := by
 induction n with
 | zero => exact Nat.le_refl _
 | succ n ih =>
  rw [bestOf_succ]
  split
  (· simp only; omega); (· omega)
theorem bestOf_bd (a b : List (List Int)) (n : Nat) : (bestOf a b n).1 ≤ (a.length : Int) + b.length := by
 induction n with
 | zero => exact Int.le_refl _
 | succ n ih =>
  rw [bestOf_succ]
  split
  (· simp only; omega); (· omega)
theorem bestOf_lo (a b : List (List Int)) (n : Nat) : - 2 * (n : Int) ≤ (bestOf a b n).1 := by
 induction n with
 | zero => simp [bestOf]; omega
 | succ n ih =>
  rw [bestOf_succ]
  split
  (· simp only; omega); (· omega)
theorem setsN_snoc (a b : List (List Int)) (i : Nat) : setsN a b (i + 1) = setsN a b i + (setRow 0 i (rd_L1 a i) (rd_L1 b i) (rd_L1 a i).length).length := by simp [setsN, setAll_snoc]
set_option maxHeartbeats 2000000 in
set_option maxRecDepth 100000 in
theorem same_any (A Ab : Option Addr) (ca cb : Nat) (a b : List (List Int)) (w : World) (ha : Kd.C (Kd.slice 3 (Kd.int .i64)) w A a.length a) (hb : Kd.C (Kd.slice 3 (Kd.int .i64)) w Ab b.length b)
  (hla : a.length ≤ 100000) (hlb : b.length ≤ 100000) (hrow : ∀ i : Nat, i < a.length → i < b.length → (rd_L1 a i).length ≤ 100000 ∧ (rd_L1 a i).length ≤ (rd_L1 b i).length) :
  Calls Try.prog 39 #[.slice A a.length ca, .slice Ab b.length cb] w fun e w' => e = .returned (.int .i64 (sameM a b)) ∧ w = w' := by
 have HRA := A_ ha; have HRB := A_ hb; have HROW := A_ hrow; clear ha hb hrow; obtain ⟨mm, hmm, hm1, hm2⟩ : ∃ mm : Nat, mm = min a.length b.length ∧ mm ≤ a.length ∧ mm ≤ b.length := ⟨_, rfl, Nat.min_le_left _ _, Nat.min_le_right _ _⟩
 have HF : Hid (sameM a b = (bestOf a b mm).2) := by unfold Hid sameM; rw [hmm]
 have hm3 : b.length ≤ mm ∨ a.length ≤ mm := by omega
 clear hmm
 have hsum : ∀ i : Nat, i ≤ mm → setsN a b i ≤ 100000 * i := by
  intro i
  induction i with
  | zero => intro _; simp [setsN, setAll]
  | succ i ih =>
   intro hi; rw [setsN_snoc]; have h1 := setRow_le 0 i (rd_L1 a i) (rd_L1 b i) (rd_L1 a i).length; have h2 := HROW.out i (by omega) (by omega); have h3 := ih (by omega); omega
 have HSUM := Lib.hid hsum; clear hsum
 by_cases hba : b.length < a.length
 all_goals
  skip
  go_enter Try.func39, Try.ntmps39
  go_wp2
  go_loop [22, 5, 6, 7] (fun v22 v5 v6 v7 => ∃ i : Nat, i ≤ mm ∧ v22 = .int .i64 i ∧ v5 = .int .i64 (bestOf a b i).1 ∧ v6 = .int .i64 ((bestOf a b i).2 : Nat) ∧ v7 = .int .i64 (setsN a b i : Nat)) (fun v22 _ _ _ => mm - (intOf v22).toNat)
  case atStart => exact ⟨0, Nat.zero_le _, rfl, rfl, rfl, by simp [setsN, setAll]⟩
  case round =>
   obtain ⟨i, hi, rfl, rfl, rfl, rfl⟩ := hrel
   by_cases hlt : i < mm
   ·obtain ⟨ad, A0, c0, e0, hx0, hl0, hi0⟩ := at_L1 HRA.out i (by omega) (by omega)
    obtain ⟨bd, B0, d0, f0, hy0, hm0, hj0⟩ := at_L1 HRB.out i (by omega) (by omega)
    cases e0
    cases f0
    rw [Int.toNat_natCast] at hx0 hy0; obtain ⟨hr1, hr2⟩ := HROW.out i (by omega) (by omega); have hs0 := HSUM.out i hi; have hrb := hj0.2.1; have hbl := bestOf_lo a b i; have hbb := bestOf_bd a b i; have HI0 := A_ hi0; have HJ0 := A_ hj0; clear hl0 hm0 hi0 hj0; have HSN := Lib.hid (setsN_snoc a b i); have HBS := Lib.hid (bestOf_succ a b i)
    have hia : i < a.length := by omega
    have hib : i < b.length := by omega
    go_wp2
    go_loop [30, 7] (fun v30 v7 => ∃ k : Nat, k ≤ (rd_L1 a i).length ∧ v30 = .int .i64 k ∧ v7 = .int .i64 ((setsN a b i + (setRow 0 i (rd_L1 a i) (rd_L1 b i) k).length : Nat) : Int)) (fun v30 _ => (rd_L1 a i).length - (intOf v30).toNat)
    case atStart => exact ⟨0, Nat.zero_le _, rfl, by simp [setRow]⟩
    case round =>
     obtain ⟨k, hk, rfl, rfl⟩ := hrel; have hsr := setRow_le 0 i (rd_L1 a i) (rd_L1 b i) k
     by_cases hkl : k < (rd_L1 a i).length
     ·obtain ⟨ak, rfl, hak⟩ := int_row_at HI0.out k hkl
      obtain ⟨bk, rfl, hbk⟩ := int_row_at HJ0.out k (by omega); have HRS := Lib.hid (setRow_snoc 0 i (rd_L1 a i) (rd_L1 b i) k)
      by_cases hd : rd (rd_L1 b i) k = rd (rd_L1 a i) k
      ·have HE : Hid (setAt 0 i (rd_L1 a i) (rd_L1 b i) k = []) := if_pos hd
       have hd1 : (rd (rd_L1 b i) (k : Int) != rd (rd_L1 a i) (k : Int)) = false := by rw [hd]; simp
       clear hd; go_wp2
       go_round
       case rel => exact ⟨k + 1, by omega, by go_num, by rw [HRS.out, HE.out, List.append_nil]⟩
       case measure => simp [intOf] <;> omega
      ·have HE : Hid (setAt 0 i (rd_L1 a i) (rd_L1 b i) k = [⟨0, i, k, rd (rd_L1 a i) k, rd (rd_L1 b i) k, []⟩]) := if_neg hd
       have hd1 : (rd (rd_L1 b i) (k : Int) != rd (rd_L1 a i) (k : Int)) = true := by simpa using hd
       clear hd
       have hadd : ((setsN a b i + (setRow 0 i (rd_L1 a i) (rd_L1 b i) k).length : Nat) : Int) ≤ 100000000000 := by omega
       go_wp2
       go_round
       case rel => exact ⟨k + 1, by omega, by go_num, by rw [HRS.out, HE.out, List.length_append, List.length_singleton]; go_num⟩
       case measure => simp [intOf] <;> omega
     ·have hkk : k = (rd_L1 a i).length := by omega
      subst hkk; have hs1 := HSUM.out (i + 1) (by omega); rw [← HSN.out]; generalize hsn : setsN a b (i + 1) = sn at HBS hs1 ⊢; have HSNE := Lib.hid hsn; clear hsn HSN hsr
      by_cases hle : (sn : Int) + (a.length : Int) + (b.length : Int) - 2 * ((i : Int) + 1) ≤ (bestOf a b i).1
      ·have HB1 : Hid (bestOf a b (i + 1) = ((sn : Int) + a.length + b.length - 2 * ((i : Int) + 1), i + 1)) := HBS.out.trans (if_pos hle)
       go_wp2
       go_round
       case rel => exact ⟨i + 1, by omega, by go_num, by rw [HB1.out], by rw [HB1.out]; go_num, by rw [HSNE.out]⟩
       case measure => simp [intOf] <;> omega
      ·have HB1 : Hid (bestOf a b (i + 1) = bestOf a b i) := HBS.out.trans (if_neg hle)
       go_wp2
       go_round
       case rel => exact ⟨i + 1, by omega, by go_num, by rw [HB1.out], by rw [HB1.out], by rw [HSNE.out]⟩
       case measure => simp [intOf] <;> omega
   ·have hii : i = mm := by omega
    subst hii
    have hnb : ¬ ((i : Int) < (if b.length < a.length then (b.length : Int) else (a.length : Int))) := by split <;> omega
    clear hnb; have hn1 : b.length ≤ i ∨ a.length ≤ i := hm3; go_wp2; go_ret; exact ⟨by rw [HF.out]; rfl, rfl⟩
end Go.Proofs.Ytcgpemefmakjiaa.PX
