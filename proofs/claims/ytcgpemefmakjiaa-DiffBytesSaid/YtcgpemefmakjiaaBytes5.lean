/- Texts of this claim, merged: part 5. -/
import Derived.Test.YtcgpemefmakjiaaBytes2
import Derived.Test.YtcgpemefmakjiaaBytes4
import Derived.Test.YtcgpemefmakjiaaBytes3
import Derived.Sort.LoopGhostIn
namespace Go.Proofs.Ytcgpemefmakjiaa.PX
open Go.RowKit Go.Proofs.YtcgpemefmakjiaaW.PrintWords Go.Proofs.YtcgpemefmakjiaaW.PrintLast Go.Proofs.YtcgpemefmakjiaaW.PrintMore
attribute [local go_sem] max2_int min2_int max_two min_two max_three min_three max_four min_four   -- for this text's walks alone
set_option linter.unusedVariables false
set_option linter.unusedSimpArgs false
def dioramaref36_SameAll.l0 : Nat → List (S76) → List (S76) → Int → Option (Bool)
 | 0, _, _, _ => none
 | k + 1, x0, x1, x5 => if x5 < (x0.length : Int) then (if 0 ≤ x5 then (if x5 < (x1.length : Int) then ((dioramaref36_Same.f k ((rd_T76 x0 x5).f0) ((rd_T76 x0 x5).f1) ((rd_T76 x0 x5).f2) ((rd_T76 x0 x5).f3) ((rd_T76 x0 x5).f4) ((rd_T76 x0 x5).f5) ((rd_T76 x1 x5).f0) ((rd_T76 x1 x5).f1) ((rd_T76 x1 x5).f2) ((rd_T76 x1 x5).f3) ((rd_T76 x1 x5).f4) ((rd_T76 x1 x5).f5)).bind fun t199 => (if t199 = true then (dioramaref36_SameAll.l0 k x0 x1 (wrap64 (x5 + 1))) else (some false))) else (none)) else (none)) else (some true)
def dioramaref36_SameAll.f (k : Nat) (l0 : List (S76)) (l1 : List (S76)) : Option (Bool) := if (l0.length : Int) = (l1.length : Int) then (dioramaref36_SameAll.l0 k l0 l1 0) else (some false)
def dioramaref36_SameAll.T6 : Bool × List (List Nat × List Nat) := (true, [([], []), ([], []), ([0, 1], [0, 1]), ([2], [2]), ([], []), ([], []), ([4, 5], [4, 5]), ([6], [6]), ([3, 7], [3, 7]), ([8], [8])])
def dioramaref36_SameAll.B6 : List Nat := [0, 0, 3, 7, 0, 0, 48, 112, 255, 511]
theorem dioramaref36_SameAll.tab6 : rtab .any (opsOf Try.f16 6) = dioramaref36_SameAll.T6 := by kernel_rfl
theorem dioramaref36_SameAll.bits6 : waitsOk dioramaref36_SameAll.T6.2 dioramaref36_SameAll.B6 = true := by kernel_rfl
set_option maxHeartbeats 8000000 in
set_option maxRecDepth 100000 in
theorem dioramaref36_SameAll.calls (k : Nat) (A0 : Option Addr) (c0 : Nat) (l0 : List (S76)) (A1 : Option Addr) (c1 : Nat) (l1 : List (S76)) (r : Bool) (w : World) (hr0 : Kd.C k76 w A0 l0.length l0) (hc0 : l0.length ≤ c0) (hr1 : Kd.C k76 w A1 l1.length l1) (hc1 : l1.length ≤ c1) (h : dioramaref36_SameAll.f k l0 l1 = some r) :
  Calls Try.prog 16 #[.slice A0 l0.length c0, .slice A1 l1.length c1] w fun e w' => e = .returned (.bool r) ∧ Below w.heap.size w w' := by
 have hu76 := Try.underlying76; have HR0 := Aside0.mk hr0; have HC0 := Aside0.mk hc0; clear hr0 hc0; have HR1 := Aside0.mk hr1; have HC1 := Aside0.mk hc1; clear hr1 hc1; have HB := Aside0.mk (Below.refl w.heap.size w); have H : (if (l0.length : Int) = (l1.length : Int) then (dioramaref36_SameAll.l0 k l0 l1 0) else (some false)) = some r := h; clear h
 by_cases c3 : (l0.length : Int) = (l1.length : Int)
 ·rw [if_pos c3] at H
  have c3b0 : ((l0.length : Int) == (l1.length : Int)) = true := beq_iff_eq.mpr c3; have c3b1 : ((l0.length : Int) != (l1.length : Int)) = false := bne_eq_false_iff_eq.mpr c3
  have c3b2 : (l0.length == l1.length) = true := by first | simpa using c3 | (simp at c3 ⊢; omega)
  clear c3; have H' := Aside0.mk H; clear H
  go_enter Try.func16, Try.ntmps16
  go_wp2
  go_loopg [5] k (fun kq v5 w' => ∃ (x5_1 : Int), v5 = .int .i64 x5_1 ∧ Aside0 (dioramaref36_SameAll.l0 kq l0 l1 x5_1 = some r) ∧ Aside0 (kq ≤ k) ∧ Aside0 (Below w.heap.size w w'))
  case atStart => exact ⟨(0), (by first | rfl | (simp; done) | (simp [*]; done)), H', ⟨Nat.le_refl _⟩, ⟨by repeat (first | (with_reducible first | exact HB.out | apply below_alloc | apply pw_below_drewN | apply below_drew1) | exact HB.out)⟩⟩
  case round =>
   clear H'
   try clear c1
   try clear p2
   try clear c3
   try clear c3b0
   try clear c3b1
   try clear c3b2
   obtain ⟨x5_1, rfl, HA, HK1, HB⟩ := hrel
   cases gk with
   | zero => exact absurd HA.out (by simp [dioramaref36_SameAll.l0])
   | succ k1 =>
    have H := HA.out; clear HA; simp only [dioramaref36_SameAll.l0] at H
    by_cases c4 : x5_1 < (l0.length : Int)
    ·rw [if_pos c4] at H
     have c4b0 : decide (x5_1 < (l0.length : Int)) = true := decide_eq_true c4; clear c4
     by_cases c5 : 0 ≤ x5_1
     ·rw [if_pos c5] at H
      have c5b0 : decide (0 ≤ x5_1) = true := decide_eq_true c5; clear c5
      by_cases c6 : x5_1 < (l1.length : Int)
      ·rw [if_pos c6] at H
       have c6b0 : decide (x5_1 < (l1.length : Int)) = true := decide_eq_true c6; clear c6; replace H := Option.bind_eq_some_iff.mp H; obtain ⟨t199, A70, H⟩ := H; replace H : (if t199 = true then (dioramaref36_SameAll.l0 k1 l0 l1 (wrap64 (x5_1 + 1))) else (some false)) = some r := H; have A7 := Aside0.mk A70; clear A70
       by_cases c8 : t199 = true
       ·subst c8
        have H1 : (dioramaref36_SameAll.l0 k1 l0 l1 (wrap64 (x5_1 + 1))) = some r := by rw [if_pos rfl] at H; exact H
        clear H; have H := H1; clear H1; have H' := Aside0.mk H; clear H
        try go_wp2
        have n0_ := Aside0.mk (below_drew1 HB.out); clear HB; have HB := n0_; clear n0_; have p197 : 0 ≤ (x5_1 : Int) := of_decide_eq_true (by first | (with_reducible assumption) | assumption); have q197 : x5_1 < (l0.length : Int) := of_decide_eq_true (by first | (with_reducible assumption) | assumption); obtain ⟨ad197, A197_5, c197_5, e197, hx197_0, hx197_1, hx197_2, hx197_3, hx197_4, hx197_5, hl197_5, hi197_5⟩ := at_T76 HR0.out x5_1 p197 q197; have hw197_5 := hx197_5; have hw197_4 := hx197_4; have hw197_3 := hx197_3; have hw197_2 := hx197_2; have hw197_1 := hx197_1; have hw197_0 := hx197_0
        cases e197
        replace hx197_0 := (HB.out.cell (World.block_lt_of_cell? w _ hx197_0)).trans hx197_0; replace hx197_1 := (HB.out.cell (World.block_lt_of_cell? w _ hx197_1)).trans hx197_1; replace hx197_2 := (HB.out.cell (World.block_lt_of_cell? w _ hx197_2)).trans hx197_2; replace hx197_3 := (HB.out.cell (World.block_lt_of_cell? w _ hx197_3)).trans hx197_3; replace hx197_4 := (HB.out.cell (World.block_lt_of_cell? w _ hx197_4)).trans hx197_4; replace hx197_5 := (HB.out.cell (World.block_lt_of_cell? w _ hx197_5)).trans hx197_5; have HR197_5 := Aside0.mk hi197_5; have HC197_5 := Aside0.mk hl197_5; clear hi197_5 hl197_5; replace p197 := eq_true p197; replace q197 := eq_true q197; have p198 : 0 ≤ (x5_1 : Int) := of_decide_eq_true (by first | (with_reducible assumption) | assumption); have q198 : x5_1 < (l1.length : Int) := of_decide_eq_true (by first | (with_reducible assumption) | assumption); obtain ⟨ad198, A198_5, c198_5, e198, hx198_0, hx198_1, hx198_2, hx198_3, hx198_4, hx198_5, hl198_5, hi198_5⟩ := at_T76 HR1.out x5_1 p198 q198; have hw198_5 := hx198_5; have hw198_4 := hx198_4; have hw198_3 := hx198_3; have hw198_2 := hx198_2; have hw198_1 := hx198_1; have hw198_0 := hx198_0
        cases e198
        replace hx198_0 := (HB.out.cell (World.block_lt_of_cell? w _ hx198_0)).trans hx198_0; replace hx198_1 := (HB.out.cell (World.block_lt_of_cell? w _ hx198_1)).trans hx198_1; replace hx198_2 := (HB.out.cell (World.block_lt_of_cell? w _ hx198_2)).trans hx198_2; replace hx198_3 := (HB.out.cell (World.block_lt_of_cell? w _ hx198_3)).trans hx198_3; replace hx198_4 := (HB.out.cell (World.block_lt_of_cell? w _ hx198_4)).trans hx198_4; replace hx198_5 := (HB.out.cell (World.block_lt_of_cell? w _ hx198_5)).trans hx198_5; have HR198_5 := Aside0.mk hi198_5; have HC198_5 := Aside0.mk hl198_5; clear hi198_5 hl198_5; replace p198 := eq_true p198; replace q198 := eq_true q198; refine start_ (n := 10) (S := fun w' => w'.cell? (ad197.add ((x5_1).toNat * 6)) = some (.int .i64 ((rd_T76 l0 x5_1).f0)) ∧ w'.cell? ⟨(ad197.add ((x5_1).toNat * 6)).block, (ad197.add ((x5_1).toNat * 6)).off + 1, none⟩ = some (.int .i64 ((rd_T76 l0 x5_1).f1)) ∧ w'.cell? ⟨(ad197.add ((x5_1).toNat * 6)).block, (ad197.add ((x5_1).toNat * 6)).off + 2, none⟩ = some (.int .i64 ((rd_T76 l0 x5_1).f2)) ∧ w'.cell? ⟨(ad197.add ((x5_1).toNat * 6)).block, (ad197.add ((x5_1).toNat * 6)).off + 3, none⟩ = some (.int .i64 ((rd_T76 l0 x5_1).f3)) ∧ w'.cell? ⟨(ad197.add ((x5_1).toNat * 6)).block, (ad197.add ((x5_1).toNat * 6)).off + 4, none⟩ = some (.int .i64 ((rd_T76 l0 x5_1).f4)) ∧ w'.cell? ⟨(ad197.add ((x5_1).toNat * 6)).block, (ad197.add ((x5_1).toNat * 6)).off + 5, none⟩ = some (.slice A197_5 ((rd_T76 l0 x5_1).f5).length c197_5) ∧ w'.cell? (ad198.add ((x5_1).toNat * 6)) = some (.int .i64 ((rd_T76 l1 x5_1).f0)) ∧ w'.cell? ⟨(ad198.add ((x5_1).toNat * 6)).block, (ad198.add ((x5_1).toNat * 6)).off + 1, none⟩ = some (.int .i64 ((rd_T76 l1 x5_1).f1)) ∧ w'.cell? ⟨(ad198.add ((x5_1).toNat * 6)).block, (ad198.add ((x5_1).toNat * 6)).off + 2, none⟩ = some (.int .i64 ((rd_T76 l1 x5_1).f2)) ∧ w'.cell? ⟨(ad198.add ((x5_1).toNat * 6)).block, (ad198.add ((x5_1).toNat * 6)).off + 3, none⟩ = some (.int .i64 ((rd_T76 l1 x5_1).f3)) ∧ w'.cell? ⟨(ad198.add ((x5_1).toNat * 6)).block, (ad198.add ((x5_1).toNat * 6)).off + 4, none⟩ = some (.int .i64 ((rd_T76 l1 x5_1).f4)) ∧ w'.cell? ⟨(ad198.add ((x5_1).toNat * 6)).block, (ad198.add ((x5_1).toNat * 6)).off + 5, none⟩ = some (.slice A198_5 ((rd_T76 l1 x5_1).f5).length c198_5)) (ds := []) #[O,O,O,O,O,O,O,O,O,O] (by kernel_rfl) rfl rfl ⟨((HB.out.cell (World.block_lt_of_cell? w _ hw197_0)).trans hw197_0), ((HB.out.cell (World.block_lt_of_cell? w _ hw197_1)).trans hw197_1), ((HB.out.cell (World.block_lt_of_cell? w _ hw197_2)).trans hw197_2), ((HB.out.cell (World.block_lt_of_cell? w _ hw197_3)).trans hw197_3), ((HB.out.cell (World.block_lt_of_cell? w _ hw197_4)).trans hw197_4), ((HB.out.cell (World.block_lt_of_cell? w _ hw197_5)).trans hw197_5), ((HB.out.cell (World.block_lt_of_cell? w _ hw198_0)).trans hw198_0), ((HB.out.cell (World.block_lt_of_cell? w _ hw198_1)).trans hw198_1), ((HB.out.cell (World.block_lt_of_cell? w _ hw198_2)).trans hw198_2), ((HB.out.cell (World.block_lt_of_cell? w _ hw198_3)).trans hw198_3), ((HB.out.cell (World.block_lt_of_cell? w _ hw198_4)).trans hw198_4), ((HB.out.cell (World.block_lt_of_cell? w _ hw198_5)).trans hw198_5)⟩ (fun hHeld => ?_); refine with_tabW dioramaref36_SameAll.tab6 dioramaref36_SameAll.bits6 (fun HT_ HW_ => ?_)
        generalize wr.drew = w9 at HB HR197_5 HR198_5 hx197_0 hx197_1 hx197_2 hx197_3 hx197_4 hx197_5 hx198_0 hx198_1 hx198_2 hx198_3 hx198_4 hx198_5 hHeld ⊢; refine pure_ (i := 0) (N := some 17) (v := ?_) (a' := ?_) #[I,O,O,O,O,O,O,O,O,O] rfl rfl (any_of HT_.out (by kernel_rfl)) (fun _ _ _ h => h) (Or.inl ⟨by rfl, ?_⟩) ?_ ?_; rotate_left; (· intro w'; go_simp; with_reducible rfl); rotate_left; (· simp only [Act.put, sA_, sB_, sC_, i64_w, i32_w]; rfl); refine pure_ (i := 1) (N := some 18) (v := ?_) (a' := ?_) #[I,I,O,O,O,O,O,O,O,O] rfl rfl (any_of HT_.out (by kernel_rfl)) (fun _ _ _ h => h) (Or.inl ⟨by rfl, ?_⟩) ?_ ?_; rotate_left; (· intro w'; go_simp; with_reducible rfl); rotate_left; (· simp only [Act.put, sA_, sB_, sC_, i64_w, i32_w]; rfl); refine pure_ (i := 2) (N := some 19) (v := ?_) (a' := ?_) #[I,I,I,O,O,O,O,O,O,O] rfl rfl (any_of HT_.out (by kernel_rfl)) (fun _ _ _ h => h) (Or.inl ⟨by rfl, ?_⟩) ?_ ?_; rotate_left; (· intro w'; go_simp; with_reducible rfl); rotate_left; (· simp only [Act.put, sA_, sB_, sC_, i64_w, i32_w]; rfl); refine pure_ (i := 4) (N := some 21) (v := ?_) (a' := ?_) #[I,I,I,O,I,O,O,O,O,O] rfl rfl (any_of HT_.out (by kernel_rfl)) (fun _ _ _ h => h) (Or.inl ⟨by rfl, ?_⟩) ?_ ?_; rotate_left; (· intro w'; go_simp; with_reducible rfl); rotate_left; (· simp only [Act.put, sA_, sB_, sC_, i64_w, i32_w]; rfl); refine pure_ (i := 5) (N := some 22) (v := ?_) (a' := ?_) #[I,I,I,O,I,I,O,O,O,O] rfl rfl (any_of HT_.out (by kernel_rfl)) (fun _ _ _ h => h) (Or.inl ⟨by rfl, ?_⟩) ?_ ?_; rotate_left; (· intro w'; go_simp; with_reducible rfl); rotate_left; (· simp only [Act.put, sA_, sB_, sC_, i64_w, i32_w]; rfl); refine pure_ (i := 6) (N := some 23) (v := ?_) (a' := ?_) #[I,I,I,O,I,I,I,O,O,O] rfl rfl (any_of HT_.out (by kernel_rfl)) (fun _ _ _ h => h) (Or.inl ⟨by rfl, ?_⟩) ?_ ?_; rotate_left; (· intro w'; go_simp; with_reducible rfl); rotate_left; (· simp only [Act.put, sA_, sB_, sC_, i64_w, i32_w]; rfl); refine take_ (i := 3) (N := some 20) (v := ?_) (a' := ?_) #[I,I,I,I,I,I,I,O,O,O] rfl rfl (take_ofW HT_.out HW_.out (by kernel_rfl)) (fun _ _ _ h => h) (Or.inl ⟨by rfl, ?_⟩) hHeld ?_ ?_; rotate_left; (· rintro w' ⟨s0, s1, s2, s3, s4, s5, s6, s7, s8, s9, s10, s11⟩; go_simp; with_reducible rfl); rotate_left; (· simp only [Act.put, sA_, sB_, sC_, i64_w, i32_w]; rfl); refine take_ (i := 7) (N := some 24) (v := ?_) (a' := ?_) #[I,I,I,I,I,I,I,I,O,O] rfl rfl (take_ofW HT_.out HW_.out (by kernel_rfl)) (fun _ _ _ h => h) (Or.inl ⟨by rfl, ?_⟩) hHeld ?_ ?_
        rotate_left; (· rintro w' ⟨s0, s1, s2, s3, s4, s5, s6, s7, s8, s9, s10, s11⟩; go_simp; with_reducible rfl); rotate_left; (· simp only [Act.put, sA_, sB_, sC_, i64_w, i32_w]; rfl); refine one_ (i := 8) (N := some 25) #[I,I,I,I,I,I,I,I,I,O] rfl rfl (one_of HT_.out (by kernel_rfl)) (by decide) (fun K hK => ?_); refine goes_ Try.func42 (by kernel_rfl) rfl #[.agg #[.int .i64 ((rd_T76 l0 x5_1).f0), .int .i64 ((rd_T76 l0 x5_1).f1), .int .i64 ((rd_T76 l0 x5_1).f2), .int .i64 ((rd_T76 l0 x5_1).f3), .int .i64 ((rd_T76 l0 x5_1).f4), .slice A197_5 ((rd_T76 l0 x5_1).f5).length c197_5], .agg #[.int .i64 ((rd_T76 l1 x5_1).f0), .int .i64 ((rd_T76 l1 x5_1).f1), .int .i64 ((rd_T76 l1 x5_1).f2), .int .i64 ((rd_T76 l1 x5_1).f3), .int .i64 ((rd_T76 l1 x5_1).f4), .slice A198_5 ((rd_T76 l1 x5_1).f5).length c198_5]] (by rfl) rfl rfl (by (try simp only [List.map_toArray, List.map_cons, List.map_nil]); first | done | rfl | (simp only [List.length_drop, List.length_take]; rfl)) ?_
        with_reducible refine (dioramaref36_Same.calls k1 ((rd_T76 l0 x5_1).f0) ((rd_T76 l0 x5_1).f1) ((rd_T76 l0 x5_1).f2) ((rd_T76 l0 x5_1).f3) ((rd_T76 l0 x5_1).f4) _ _ ((rd_T76 l0 x5_1).f5) ((rd_T76 l1 x5_1).f0) ((rd_T76 l1 x5_1).f1) ((rd_T76 l1 x5_1).f2) ((rd_T76 l1 x5_1).f3) ((rd_T76 l1 x5_1).f4) _ _ ((rd_T76 l1 x5_1).f5) true _ ?side1 ?side2 ?side3 ?side4 A7.out).mono ?_
        (case side1 => repeat (first | exact (Kd.C_below HR197_5.out HB.out) | (with_reducible refine Kd.C_alloc ?_ _) | (with_reducible refine Kd.C_drewN ?_ _) | (with_reducible refine Kd.C_drew ?_)))
        (case side2 => exact HC197_5.out)
        (case side3 => repeat (first | exact (Kd.C_below HR198_5.out HB.out) | (with_reducible refine Kd.C_alloc ?_ _) | (with_reducible refine Kd.C_drewN ?_ _) | (with_reducible refine Kd.C_drew ?_)))
        (case side4 => exact HC198_5.out)
        rintro e w10 ⟨rfl, hb⟩; refine ⟨_, rfl, ?_⟩; have n0_ := Aside0.mk (below_step (by repeat (first | (with_reducible first | exact HB.out | apply below_alloc | apply pw_below_drewN | apply below_drew1) | exact HB.out)) hb); clear HB; have HB := n0_; clear n0_
        (try clear hb)
        (try clear hb2)
        (try clear hk)
        (try clear hi)
        refine hK.out _ _ ⟨((HB.out.cell (World.block_lt_of_cell? w _ hw197_0)).trans hw197_0), ((HB.out.cell (World.block_lt_of_cell? w _ hw197_1)).trans hw197_1), ((HB.out.cell (World.block_lt_of_cell? w _ hw197_2)).trans hw197_2), ((HB.out.cell (World.block_lt_of_cell? w _ hw197_3)).trans hw197_3), ((HB.out.cell (World.block_lt_of_cell? w _ hw197_4)).trans hw197_4), ((HB.out.cell (World.block_lt_of_cell? w _ hw197_5)).trans hw197_5), ((HB.out.cell (World.block_lt_of_cell? w _ hw198_0)).trans hw198_0), ((HB.out.cell (World.block_lt_of_cell? w _ hw198_1)).trans hw198_1), ((HB.out.cell (World.block_lt_of_cell? w _ hw198_2)).trans hw198_2), ((HB.out.cell (World.block_lt_of_cell? w _ hw198_3)).trans hw198_3), ((HB.out.cell (World.block_lt_of_cell? w _ hw198_4)).trans hw198_4), ((HB.out.cell (World.block_lt_of_cell? w _ hw198_5)).trans hw198_5)⟩ (fun hHeld => ?_); clear hK K; refine norm_ (a' := ?_) ?_ ?_; rotate_left
        ·show Act.put _ (some 25) _ = _
         simp only [Act.put, sA_, sB_, sC_, i64_w, i32_w]; rfl
        refine pure_ (i := 9) (N := some 26) (v := ?_) (a' := ?_) #[I,I,I,I,I,I,I,I,I,I] rfl rfl (any_of HT_.out (by kernel_rfl)) (fun _ _ _ h => h) (Or.inl ⟨by rfl, ?_⟩) ?_ ?_; rotate_left; (· intro w'; go_simp; with_reducible rfl); rotate_left; (· simp only [Act.put, sA_, sB_, sC_, i64_w, i32_w]; rfl); refine done_ (done_of HT_.out (by kernel_rfl)) ?_
        try go_wp2
        go_roundg k1
        case measure => have := HK1.out; omega
        case rel => exact ⟨(wrap64 (x5_1 + 1)), (by first | rfl | (simp; done) | (simp [*]; done)), H', ⟨by have := HK1.out; omega⟩, ⟨by repeat (first | (with_reducible first | exact HB.out | apply below_alloc | apply pw_below_drewN | apply below_drew1) | exact HB.out)⟩⟩
       ·replace c8 := Bool.eq_false_iff.mpr c8
        subst c8
        have H1 : (some false) = some r := by rw [if_neg (show ¬ (false = true) by decide)] at H; exact H
        clear H; have H := H1; clear H1; obtain rfl := Option.some.inj H
        try go_wp2
        have n0_ := Aside0.mk (below_drew1 HB.out); clear HB; have HB := n0_; clear n0_; have p197 : 0 ≤ (x5_1 : Int) := of_decide_eq_true (by first | (with_reducible assumption) | assumption); have q197 : x5_1 < (l0.length : Int) := of_decide_eq_true (by first | (with_reducible assumption) | assumption); obtain ⟨ad197, A197_5, c197_5, e197, hx197_0, hx197_1, hx197_2, hx197_3, hx197_4, hx197_5, hl197_5, hi197_5⟩ := at_T76 HR0.out x5_1 p197 q197; have hw197_5 := hx197_5; have hw197_4 := hx197_4; have hw197_3 := hx197_3; have hw197_2 := hx197_2; have hw197_1 := hx197_1; have hw197_0 := hx197_0
        cases e197
        replace hx197_0 := (HB.out.cell (World.block_lt_of_cell? w _ hx197_0)).trans hx197_0; replace hx197_1 := (HB.out.cell (World.block_lt_of_cell? w _ hx197_1)).trans hx197_1; replace hx197_2 := (HB.out.cell (World.block_lt_of_cell? w _ hx197_2)).trans hx197_2; replace hx197_3 := (HB.out.cell (World.block_lt_of_cell? w _ hx197_3)).trans hx197_3; replace hx197_4 := (HB.out.cell (World.block_lt_of_cell? w _ hx197_4)).trans hx197_4; replace hx197_5 := (HB.out.cell (World.block_lt_of_cell? w _ hx197_5)).trans hx197_5; have HR197_5 := Aside0.mk hi197_5; have HC197_5 := Aside0.mk hl197_5; clear hi197_5 hl197_5; replace p197 := eq_true p197; replace q197 := eq_true q197; have p198 : 0 ≤ (x5_1 : Int) := of_decide_eq_true (by first | (with_reducible assumption) | assumption); have q198 : x5_1 < (l1.length : Int) := of_decide_eq_true (by first | (with_reducible assumption) | assumption); obtain ⟨ad198, A198_5, c198_5, e198, hx198_0, hx198_1, hx198_2, hx198_3, hx198_4, hx198_5, hl198_5, hi198_5⟩ := at_T76 HR1.out x5_1 p198 q198; have hw198_5 := hx198_5; have hw198_4 := hx198_4; have hw198_3 := hx198_3; have hw198_2 := hx198_2; have hw198_1 := hx198_1; have hw198_0 := hx198_0
        cases e198
        replace hx198_0 := (HB.out.cell (World.block_lt_of_cell? w _ hx198_0)).trans hx198_0; replace hx198_1 := (HB.out.cell (World.block_lt_of_cell? w _ hx198_1)).trans hx198_1; replace hx198_2 := (HB.out.cell (World.block_lt_of_cell? w _ hx198_2)).trans hx198_2; replace hx198_3 := (HB.out.cell (World.block_lt_of_cell? w _ hx198_3)).trans hx198_3; replace hx198_4 := (HB.out.cell (World.block_lt_of_cell? w _ hx198_4)).trans hx198_4; replace hx198_5 := (HB.out.cell (World.block_lt_of_cell? w _ hx198_5)).trans hx198_5; have HR198_5 := Aside0.mk hi198_5; have HC198_5 := Aside0.mk hl198_5; clear hi198_5 hl198_5; replace p198 := eq_true p198; replace q198 := eq_true q198; refine start_ (n := 10) (S := fun w' => w'.cell? (ad197.add ((x5_1).toNat * 6)) = some (.int .i64 ((rd_T76 l0 x5_1).f0)) ∧ w'.cell? ⟨(ad197.add ((x5_1).toNat * 6)).block, (ad197.add ((x5_1).toNat * 6)).off + 1, none⟩ = some (.int .i64 ((rd_T76 l0 x5_1).f1)) ∧ w'.cell? ⟨(ad197.add ((x5_1).toNat * 6)).block, (ad197.add ((x5_1).toNat * 6)).off + 2, none⟩ = some (.int .i64 ((rd_T76 l0 x5_1).f2)) ∧ w'.cell? ⟨(ad197.add ((x5_1).toNat * 6)).block, (ad197.add ((x5_1).toNat * 6)).off + 3, none⟩ = some (.int .i64 ((rd_T76 l0 x5_1).f3)) ∧ w'.cell? ⟨(ad197.add ((x5_1).toNat * 6)).block, (ad197.add ((x5_1).toNat * 6)).off + 4, none⟩ = some (.int .i64 ((rd_T76 l0 x5_1).f4)) ∧ w'.cell? ⟨(ad197.add ((x5_1).toNat * 6)).block, (ad197.add ((x5_1).toNat * 6)).off + 5, none⟩ = some (.slice A197_5 ((rd_T76 l0 x5_1).f5).length c197_5) ∧ w'.cell? (ad198.add ((x5_1).toNat * 6)) = some (.int .i64 ((rd_T76 l1 x5_1).f0)) ∧ w'.cell? ⟨(ad198.add ((x5_1).toNat * 6)).block, (ad198.add ((x5_1).toNat * 6)).off + 1, none⟩ = some (.int .i64 ((rd_T76 l1 x5_1).f1)) ∧ w'.cell? ⟨(ad198.add ((x5_1).toNat * 6)).block, (ad198.add ((x5_1).toNat * 6)).off + 2, none⟩ = some (.int .i64 ((rd_T76 l1 x5_1).f2)) ∧ w'.cell? ⟨(ad198.add ((x5_1).toNat * 6)).block, (ad198.add ((x5_1).toNat * 6)).off + 3, none⟩ = some (.int .i64 ((rd_T76 l1 x5_1).f3)) ∧ w'.cell? ⟨(ad198.add ((x5_1).toNat * 6)).block, (ad198.add ((x5_1).toNat * 6)).off + 4, none⟩ = some (.int .i64 ((rd_T76 l1 x5_1).f4)) ∧ w'.cell? ⟨(ad198.add ((x5_1).toNat * 6)).block, (ad198.add ((x5_1).toNat * 6)).off + 5, none⟩ = some (.slice A198_5 ((rd_T76 l1 x5_1).f5).length c198_5)) (ds := []) #[O,O,O,O,O,O,O,O,O,O] (by kernel_rfl) rfl rfl ⟨((HB.out.cell (World.block_lt_of_cell? w _ hw197_0)).trans hw197_0), ((HB.out.cell (World.block_lt_of_cell? w _ hw197_1)).trans hw197_1), ((HB.out.cell (World.block_lt_of_cell? w _ hw197_2)).trans hw197_2), ((HB.out.cell (World.block_lt_of_cell? w _ hw197_3)).trans hw197_3), ((HB.out.cell (World.block_lt_of_cell? w _ hw197_4)).trans hw197_4), ((HB.out.cell (World.block_lt_of_cell? w _ hw197_5)).trans hw197_5), ((HB.out.cell (World.block_lt_of_cell? w _ hw198_0)).trans hw198_0), ((HB.out.cell (World.block_lt_of_cell? w _ hw198_1)).trans hw198_1), ((HB.out.cell (World.block_lt_of_cell? w _ hw198_2)).trans hw198_2), ((HB.out.cell (World.block_lt_of_cell? w _ hw198_3)).trans hw198_3), ((HB.out.cell (World.block_lt_of_cell? w _ hw198_4)).trans hw198_4), ((HB.out.cell (World.block_lt_of_cell? w _ hw198_5)).trans hw198_5)⟩ (fun hHeld => ?_); refine with_tabW dioramaref36_SameAll.tab6 dioramaref36_SameAll.bits6 (fun HT_ HW_ => ?_)
        generalize wr.drew = w11 at HB HR197_5 HR198_5 hx197_0 hx197_1 hx197_2 hx197_3 hx197_4 hx197_5 hx198_0 hx198_1 hx198_2 hx198_3 hx198_4 hx198_5 hHeld ⊢; refine pure_ (i := 0) (N := some 17) (v := ?_) (a' := ?_) #[I,O,O,O,O,O,O,O,O,O] rfl rfl (any_of HT_.out (by kernel_rfl)) (fun _ _ _ h => h) (Or.inl ⟨by rfl, ?_⟩) ?_ ?_; rotate_left; (· intro w'; go_simp; with_reducible rfl); rotate_left; (· simp only [Act.put, sA_, sB_, sC_, i64_w, i32_w]; rfl); refine pure_ (i := 1) (N := some 18) (v := ?_) (a' := ?_) #[I,I,O,O,O,O,O,O,O,O] rfl rfl (any_of HT_.out (by kernel_rfl)) (fun _ _ _ h => h) (Or.inl ⟨by rfl, ?_⟩) ?_ ?_; rotate_left; (· intro w'; go_simp; with_reducible rfl); rotate_left; (· simp only [Act.put, sA_, sB_, sC_, i64_w, i32_w]; rfl); refine pure_ (i := 2) (N := some 19) (v := ?_) (a' := ?_) #[I,I,I,O,O,O,O,O,O,O] rfl rfl (any_of HT_.out (by kernel_rfl)) (fun _ _ _ h => h) (Or.inl ⟨by rfl, ?_⟩) ?_ ?_; rotate_left; (· intro w'; go_simp; with_reducible rfl); rotate_left; (· simp only [Act.put, sA_, sB_, sC_, i64_w, i32_w]; rfl); refine pure_ (i := 4) (N := some 21) (v := ?_) (a' := ?_) #[I,I,I,O,I,O,O,O,O,O] rfl rfl (any_of HT_.out (by kernel_rfl)) (fun _ _ _ h => h) (Or.inl ⟨by rfl, ?_⟩) ?_ ?_; rotate_left; (· intro w'; go_simp; with_reducible rfl); rotate_left; (· simp only [Act.put, sA_, sB_, sC_, i64_w, i32_w]; rfl); refine pure_ (i := 5) (N := some 22) (v := ?_) (a' := ?_) #[I,I,I,O,I,I,O,O,O,O] rfl rfl (any_of HT_.out (by kernel_rfl)) (fun _ _ _ h => h) (Or.inl ⟨by rfl, ?_⟩) ?_ ?_; rotate_left; (· intro w'; go_simp; with_reducible rfl); rotate_left; (· simp only [Act.put, sA_, sB_, sC_, i64_w, i32_w]; rfl); refine pure_ (i := 6) (N := some 23) (v := ?_) (a' := ?_) #[I,I,I,O,I,I,I,O,O,O] rfl rfl (any_of HT_.out (by kernel_rfl)) (fun _ _ _ h => h) (Or.inl ⟨by rfl, ?_⟩) ?_ ?_; rotate_left; (· intro w'; go_simp; with_reducible rfl); rotate_left; (· simp only [Act.put, sA_, sB_, sC_, i64_w, i32_w]; rfl); refine take_ (i := 3) (N := some 20) (v := ?_) (a' := ?_) #[I,I,I,I,I,I,I,O,O,O] rfl rfl (take_ofW HT_.out HW_.out (by kernel_rfl)) (fun _ _ _ h => h) (Or.inl ⟨by rfl, ?_⟩) hHeld ?_ ?_; rotate_left; (· rintro w' ⟨s0, s1, s2, s3, s4, s5, s6, s7, s8, s9, s10, s11⟩; go_simp; with_reducible rfl); rotate_left; (· simp only [Act.put, sA_, sB_, sC_, i64_w, i32_w]; rfl); refine take_ (i := 7) (N := some 24) (v := ?_) (a' := ?_) #[I,I,I,I,I,I,I,I,O,O] rfl rfl (take_ofW HT_.out HW_.out (by kernel_rfl)) (fun _ _ _ h => h) (Or.inl ⟨by rfl, ?_⟩) hHeld ?_ ?_
        rotate_left; (· rintro w' ⟨s0, s1, s2, s3, s4, s5, s6, s7, s8, s9, s10, s11⟩; go_simp; with_reducible rfl); rotate_left; (· simp only [Act.put, sA_, sB_, sC_, i64_w, i32_w]; rfl); refine one_ (i := 8) (N := some 25) #[I,I,I,I,I,I,I,I,I,O] rfl rfl (one_of HT_.out (by kernel_rfl)) (by decide) (fun K hK => ?_); refine goes_ Try.func42 (by kernel_rfl) rfl #[.agg #[.int .i64 ((rd_T76 l0 x5_1).f0), .int .i64 ((rd_T76 l0 x5_1).f1), .int .i64 ((rd_T76 l0 x5_1).f2), .int .i64 ((rd_T76 l0 x5_1).f3), .int .i64 ((rd_T76 l0 x5_1).f4), .slice A197_5 ((rd_T76 l0 x5_1).f5).length c197_5], .agg #[.int .i64 ((rd_T76 l1 x5_1).f0), .int .i64 ((rd_T76 l1 x5_1).f1), .int .i64 ((rd_T76 l1 x5_1).f2), .int .i64 ((rd_T76 l1 x5_1).f3), .int .i64 ((rd_T76 l1 x5_1).f4), .slice A198_5 ((rd_T76 l1 x5_1).f5).length c198_5]] (by rfl) rfl rfl (by (try simp only [List.map_toArray, List.map_cons, List.map_nil]); first | done | rfl | (simp only [List.length_drop, List.length_take]; rfl)) ?_
        with_reducible refine (dioramaref36_Same.calls k1 ((rd_T76 l0 x5_1).f0) ((rd_T76 l0 x5_1).f1) ((rd_T76 l0 x5_1).f2) ((rd_T76 l0 x5_1).f3) ((rd_T76 l0 x5_1).f4) _ _ ((rd_T76 l0 x5_1).f5) ((rd_T76 l1 x5_1).f0) ((rd_T76 l1 x5_1).f1) ((rd_T76 l1 x5_1).f2) ((rd_T76 l1 x5_1).f3) ((rd_T76 l1 x5_1).f4) _ _ ((rd_T76 l1 x5_1).f5) false _ ?side1 ?side2 ?side3 ?side4 A7.out).mono ?_
        (case side1 => repeat (first | exact (Kd.C_below HR197_5.out HB.out) | (with_reducible refine Kd.C_alloc ?_ _) | (with_reducible refine Kd.C_drewN ?_ _) | (with_reducible refine Kd.C_drew ?_)))
        (case side2 => exact HC197_5.out)
        (case side3 => repeat (first | exact (Kd.C_below HR198_5.out HB.out) | (with_reducible refine Kd.C_alloc ?_ _) | (with_reducible refine Kd.C_drewN ?_ _) | (with_reducible refine Kd.C_drew ?_)))
        (case side4 => exact HC198_5.out)
        rintro e w12 ⟨rfl, hb⟩; refine ⟨_, rfl, ?_⟩; have n0_ := Aside0.mk (below_step (by repeat (first | (with_reducible first | exact HB.out | apply below_alloc | apply pw_below_drewN | apply below_drew1) | exact HB.out)) hb); clear HB; have HB := n0_; clear n0_
        (try clear hb)
        (try clear hb2)
        (try clear hk)
        (try clear hi)
        refine hK.out _ _ ⟨((HB.out.cell (World.block_lt_of_cell? w _ hw197_0)).trans hw197_0), ((HB.out.cell (World.block_lt_of_cell? w _ hw197_1)).trans hw197_1), ((HB.out.cell (World.block_lt_of_cell? w _ hw197_2)).trans hw197_2), ((HB.out.cell (World.block_lt_of_cell? w _ hw197_3)).trans hw197_3), ((HB.out.cell (World.block_lt_of_cell? w _ hw197_4)).trans hw197_4), ((HB.out.cell (World.block_lt_of_cell? w _ hw197_5)).trans hw197_5), ((HB.out.cell (World.block_lt_of_cell? w _ hw198_0)).trans hw198_0), ((HB.out.cell (World.block_lt_of_cell? w _ hw198_1)).trans hw198_1), ((HB.out.cell (World.block_lt_of_cell? w _ hw198_2)).trans hw198_2), ((HB.out.cell (World.block_lt_of_cell? w _ hw198_3)).trans hw198_3), ((HB.out.cell (World.block_lt_of_cell? w _ hw198_4)).trans hw198_4), ((HB.out.cell (World.block_lt_of_cell? w _ hw198_5)).trans hw198_5)⟩ (fun hHeld => ?_); clear hK K; refine norm_ (a' := ?_) ?_ ?_; rotate_left
        ·show Act.put _ (some 25) _ = _
         simp only [Act.put, sA_, sB_, sC_, i64_w, i32_w]; rfl
        refine pure_ (i := 9) (N := some 26) (v := ?_) (a' := ?_) #[I,I,I,I,I,I,I,I,I,I] rfl rfl (any_of HT_.out (by kernel_rfl)) (fun _ _ _ h => h) (Or.inl ⟨by rfl, ?_⟩) ?_ ?_; rotate_left; (· intro w'; go_simp; with_reducible rfl); rotate_left; (· simp only [Act.put, sA_, sB_, sC_, i64_w, i32_w]; rfl); refine done_ (done_of HT_.out (by kernel_rfl)) ?_
        try go_wp2
        go_ret; exact ⟨by first | rfl | (simp [errW_none, errW_some] <;> rfl) | (simp [*, errW_none, errW_some] <;> rfl), by repeat (first | (with_reducible first | exact HB.out | apply below_alloc | apply pw_below_drewN | apply below_drew1) | exact HB.out)⟩
      (· rw [if_neg c6] at H; exact absurd H (by simp))
     (· rw [if_neg c5] at H; exact absurd H (by simp))
    (· rw [if_neg c4] at H; have c4b0 : decide (x5_1 < (l0.length : Int)) = false := decide_eq_false c4; clear c4; obtain rfl := Option.some.inj H; go_wp2; go_ret; exact ⟨by first | rfl | (simp [errW_none, errW_some] <;> rfl) | (simp [*, errW_none, errW_some] <;> rfl), by repeat (first | (with_reducible first | exact HB.out | apply below_alloc | apply pw_below_drewN | apply below_drew1) | exact HB.out)⟩)
 ·rw [if_neg c3] at H
  have c3b0 : ((l0.length : Int) == (l1.length : Int)) = false := beq_eq_false_iff_ne.mpr c3; have c3b1 : ((l0.length : Int) != (l1.length : Int)) = true := bne_iff_ne.mpr c3
  have c3b2 : (l0.length == l1.length) = false := by first | simpa using c3 | (simp at c3 ⊢; omega)
  obtain rfl := Option.some.inj H
  go_enter Try.func16, Try.ntmps16
  go_wp2; go_ret; exact ⟨by first | rfl | (simp [errW_none, errW_some] <;> rfl) | (simp [*, errW_none, errW_some] <;> rfl), by repeat (first | (with_reducible first | exact HB.out | apply below_alloc | apply pw_below_drewN | apply below_drew1) | exact HB.out)⟩
end Go.Proofs.Ytcgpemefmakjiaa.PX
namespace Go.Proofs.Ytcgpemefmakjiaa.PX
open Go.RowKit Go.Proofs.YtcgpemefmakjiaaW.PrintWords Go.Proofs.YtcgpemefmakjiaaW.PrintLast Go.Proofs.YtcgpemefmakjiaaW.PrintMore
attribute [local go_sem] max2_int min2_int max_two min_two max_three min_three max_four min_four   -- for this text's walks alone
set_option linter.unusedVariables false
set_option linter.unusedSimpArgs false
mutual
def dioramaref36_SameWorld.l0 : Nat → List (List (List Int)) → List (List (List Int)) → Int → Option (Bool)
 | 0, _, _, _ => none
 | k + 1, x0, x1, x5 => if x5 < (x0.length : Int) then (if 0 ≤ x5 then (if x5 < (x1.length : Int) then (if ((rd_L2 x0 x5).length : Int) = ((rd_L2 x1 x5).length : Int) then (dioramaref36_SameWorld.l1 k x0 x1 x5 0) else (some false)) else (none)) else (none)) else (some true)
def dioramaref36_SameWorld.l1 : Nat → List (List (List Int)) → List (List (List Int)) → Int → Int → Option (Bool)
 | 0, _, _, _, _ => none
 | k + 1, x0, x1, x5, x6 => if 0 ≤ x5 then (if x5 < (x0.length : Int) then (if x6 < ((rd_L2 x0 x5).length : Int) then (if 0 ≤ x6 then (if x5 < (x1.length : Int) then (if x6 < ((rd_L2 x1 x5).length : Int) then ((dioramaref01_SameInts.f k (rd_L1 (rd_L2 x0 x5) x6) (rd_L1 (rd_L2 x1 x5) x6)).bind fun t225 => (if t225 = true then (dioramaref36_SameWorld.l1 k x0 x1 x5 (wrap64 (x6 + 1))) else (some false))) else (none)) else (none)) else (none)) else (dioramaref36_SameWorld.l0 k x0 x1 (wrap64 (x5 + 1)))) else (none)) else (none)
end
def dioramaref36_SameWorld.f (k : Nat) (l0 : List (List (List Int))) (l1 : List (List (List Int))) : Option (Bool) := if (l0.length : Int) = (l1.length : Int) then (dioramaref36_SameWorld.l0 k l0 l1 0) else (some false)
set_option maxHeartbeats 8000000 in
set_option maxRecDepth 100000 in
theorem dioramaref36_SameWorld.calls (k : Nat) (A0 : Option Addr) (c0 : Nat) (l0 : List (List (List Int))) (A1 : Option Addr) (c1 : Nat) (l1 : List (List (List Int))) (r : Bool) (w : World) (hr0 : Kd.C (Kd.slice 22 (Kd.slice 3 (Kd.int .i64))) w A0 l0.length l0) (hc0 : l0.length ≤ c0) (hr1 : Kd.C (Kd.slice 22 (Kd.slice 3 (Kd.int .i64))) w A1 l1.length l1) (hc1 : l1.length ≤ c1) (h : dioramaref36_SameWorld.f k l0 l1 = some r) :
  Calls Try.prog 21 #[.slice A0 l0.length c0, .slice A1 l1.length c1] w fun e w' => e = .returned (.bool r) ∧ Drawn0 w w' := by
 have HR0 := Aside0.mk hr0; have HC0 := Aside0.mk hc0; clear hr0 hc0; have HR1 := Aside0.mk hr1; have HC1 := Aside0.mk hc1; clear hr1 hc1; have H : (if (l0.length : Int) = (l1.length : Int) then (dioramaref36_SameWorld.l0 k l0 l1 0) else (some false)) = some r := h; clear h
 by_cases c3 : (l0.length : Int) = (l1.length : Int)
 ·rw [if_pos c3] at H
  have c3b0 : ((l0.length : Int) == (l1.length : Int)) = true := beq_iff_eq.mpr c3; have c3b1 : ((l0.length : Int) != (l1.length : Int)) = false := bne_eq_false_iff_eq.mpr c3
  have c3b2 : (l0.length == l1.length) = true := by first | simpa using c3 | (simp at c3 ⊢; omega)
  clear c3; have H' := Aside0.mk H; clear H
  go_enter Try.func21, Try.ntmps21
  go_wp2
  repeat (go_quiet (fail); try go_wp2)
  go_loopg [5] k (fun kq v5 w' => ∃ (x5_1 : Int), v5 = .int .i64 x5_1 ∧ Aside0 (dioramaref36_SameWorld.l0 kq l0 l1 x5_1 = some r) ∧ Aside0 (kq ≤ k) ∧ Drawn0 w w')
  case atStart => exact ⟨(0), (by first | rfl | (simp; done) | (simp [*]; done)), H', ⟨Nat.le_refl _⟩, by repeat (first | exact Drawn0.refl _ | apply Drawn0.step)⟩
  case round =>
   clear H'
   try clear c1
   try clear c2
   try clear p2
   try clear c3
   try clear c3b0
   try clear c3b1
   try clear c3b2
   obtain ⟨x5_1, rfl, HA, HK1, ⟨m1, rfl⟩⟩ := hrel
   cases gk with
   | zero => exact absurd HA.out (by simp [dioramaref36_SameWorld.l0])
   | succ k1 =>
    have H := HA.out; clear HA; simp only [dioramaref36_SameWorld.l0] at H
    by_cases c4 : x5_1 < (l0.length : Int)
    ·rw [if_pos c4] at H
     have c4b0 : decide (x5_1 < (l0.length : Int)) = true := decide_eq_true c4; clear c4
     by_cases c5 : 0 ≤ x5_1
     ·rw [if_pos c5] at H
      have c5b0 : decide (0 ≤ x5_1) = true := decide_eq_true c5; clear c5
      by_cases c6 : x5_1 < (l1.length : Int)
      ·rw [if_pos c6] at H
       have c6b0 : decide (x5_1 < (l1.length : Int)) = true := decide_eq_true c6; clear c6
       by_cases c7 : ((rd_L2 l0 x5_1).length : Int) = ((rd_L2 l1 x5_1).length : Int)
       ·rw [if_pos c7] at H
        have c7b0 : (((rd_L2 l0 x5_1).length : Int) == ((rd_L2 l1 x5_1).length : Int)) = true := beq_iff_eq.mpr c7; have c7b1 : (((rd_L2 l0 x5_1).length : Int) != ((rd_L2 l1 x5_1).length : Int)) = false := bne_eq_false_iff_eq.mpr c7
        have c7b2 : ((rd_L2 l0 x5_1).length == (rd_L2 l1 x5_1).length) = true := by first | simpa using c7 | (simp at c7 ⊢; omega)
        clear c7; have H' := Aside0.mk H; clear H; have p218 : 0 ≤ (x5_1 : Int) := of_decide_eq_true (by first | (with_reducible assumption) | assumption); have q218 : x5_1 < (l0.length : Int) := of_decide_eq_true (by first | (with_reducible assumption) | assumption); obtain ⟨ad218, A218_0, c218_0, e218, hx218_0, hl218_0, hi218_0⟩ := at_L2 HR0.out x5_1 p218 q218
        cases e218
        have HR218_0 := Aside0.mk hi218_0; have HC218_0 := Aside0.mk hl218_0; clear hi218_0 hl218_0; replace p218 := eq_true p218; replace q218 := eq_true q218; have p219 : 0 ≤ (x5_1 : Int) := of_decide_eq_true (by first | (with_reducible assumption) | assumption); have q219 : x5_1 < (l1.length : Int) := of_decide_eq_true (by first | (with_reducible assumption) | assumption); obtain ⟨ad219, A219_0, c219_0, e219, hx219_0, hl219_0, hi219_0⟩ := at_L2 HR1.out x5_1 p219 q219
        cases e219
        have HR219_0 := Aside0.mk hi219_0; have HC219_0 := Aside0.mk hl219_0; clear hi219_0 hl219_0; replace p219 := eq_true p219; replace q219 := eq_true q219; go_wp2
        repeat (go_quiet (fail); try go_wp2)
        go_loopg [6] k1 (fun kq v6 w' => ∃ (x6_2 : Int), v6 = .int .i64 x6_2 ∧ Aside0 (dioramaref36_SameWorld.l1 kq l0 l1 x5_1 x6_2 = some r) ∧ Aside0 (kq ≤ k1) ∧ Drawn0 w w')
        case atStart => exact ⟨(0), (by first | rfl | (simp; done) | (simp [*]; done)), H', ⟨Nat.le_refl _⟩, by repeat (first | exact Drawn0.refl _ | apply Drawn0.step)⟩
        case round =>
         clear H'
         try clear c1
         try clear c2
         try clear p2
         try clear q2
         try clear hx2
         try clear c3
         try clear c3b0
         try clear c3b1
         try clear c3b2
         try clear c4
         try clear c4b0
         try clear c5
         try clear c5b0
         try clear c6
         try clear c6b0
         try clear c7
         try clear c7b0
         try clear c7b1
         try clear c7b2
         try clear hx218_0
         try clear hx219_0
         try clear p2
         try clear p218
         try clear p219
         try clear q218
         try clear q219
         obtain ⟨x6_2, rfl, HA, HK2, ⟨m2, rfl⟩⟩ := hrel
         cases gk with
         | zero => exact absurd HA.out (by simp [dioramaref36_SameWorld.l1])
         | succ k2 =>
          have H := HA.out; clear HA; simp only [dioramaref36_SameWorld.l1] at H
          by_cases c8 : 0 ≤ x5_1
          ·rw [if_pos c8] at H
           have c8b0 : decide (0 ≤ x5_1) = true := decide_eq_true c8; clear c8
           by_cases c9 : x5_1 < (l0.length : Int)
           ·rw [if_pos c9] at H
            have c9b0 : decide (x5_1 < (l0.length : Int)) = true := decide_eq_true c9; clear c9
            by_cases c10 : x6_2 < ((rd_L2 l0 x5_1).length : Int)
            ·rw [if_pos c10] at H
             have c10b0 : decide (x6_2 < ((rd_L2 l0 x5_1).length : Int)) = true := decide_eq_true c10; clear c10
             by_cases c11 : 0 ≤ x6_2
             ·rw [if_pos c11] at H
              have c11b0 : decide (0 ≤ x6_2) = true := decide_eq_true c11; clear c11
              by_cases c12 : x5_1 < (l1.length : Int)
              ·rw [if_pos c12] at H
               have c12b0 : decide (x5_1 < (l1.length : Int)) = true := decide_eq_true c12; clear c12
               by_cases c13 : x6_2 < ((rd_L2 l1 x5_1).length : Int)
               ·rw [if_pos c13] at H
                have c13b0 : decide (x6_2 < ((rd_L2 l1 x5_1).length : Int)) = true := decide_eq_true c13; clear c13; replace H := Option.bind_eq_some_iff.mp H; obtain ⟨t225, A140, H⟩ := H; replace H : (if t225 = true then (dioramaref36_SameWorld.l1 k2 l0 l1 x5_1 (wrap64 (x6_2 + 1))) else (some false)) = some r := H; have A14 := Aside0.mk A140; clear A140
                by_cases c15 : t225 = true
                ·subst c15
                 have H1 : (dioramaref36_SameWorld.l1 k2 l0 l1 x5_1 (wrap64 (x6_2 + 1))) = some r := by rw [if_pos rfl] at H; exact H
                 clear H; have H := H1; clear H1; have H' := Aside0.mk H; clear H; have p220 : 0 ≤ (x5_1 : Int) := of_decide_eq_true (by first | (with_reducible assumption) | assumption); have q220 : x5_1 < (l0.length : Int) := of_decide_eq_true (by first | (with_reducible assumption) | assumption); obtain ⟨ad220, A220_0, c220_0, e220, hx220_0, hl220_0, hi220_0⟩ := at_L2 HR0.out x5_1 p220 q220; obtain rfl : ad218 = ad220 := (by injection e220); have HR220_0 := Aside0.mk hi220_0; have HC220_0 := Aside0.mk hl220_0; clear hi220_0 hl220_0; replace p220 := eq_true p220; replace q220 := eq_true q220; have p221 : 0 ≤ (x5_1 : Int) := of_decide_eq_true (by first | (with_reducible assumption) | assumption); have q221 : x5_1 < (l0.length : Int) := of_decide_eq_true (by first | (with_reducible assumption) | assumption); obtain ⟨ad221, A221_0, c221_0, e221, hx221_0, hl221_0, hi221_0⟩ := at_L2 HR0.out x5_1 p221 q221; obtain rfl : ad218 = ad221 := (by injection e221); have HR221_0 := Aside0.mk hi221_0; have HC221_0 := Aside0.mk hl221_0; clear hi221_0 hl221_0; replace p221 := eq_true p221; replace q221 := eq_true q221; have ea_ := Option.some.inj (hx220_0.symm.trans hx221_0)
                 injection ea_ with ea_ en_ ec_
                 subst ea_; subst ec_; clear en_; have p222 : 0 ≤ (x6_2 : Int) := of_decide_eq_true (by first | (with_reducible assumption) | assumption); have q222 : x6_2 < ((rd_L2 l0 x5_1).length : Int) := of_decide_eq_true (by first | (with_reducible assumption) | assumption); obtain ⟨ad222, A222_0, c222_0, e222, hx222_0, hl222_0, hi222_0⟩ := at_L1 HR221_0.out x6_2 p222 q222
                 cases e222
                 have HR222_0 := Aside0.mk hi222_0; have HC222_0 := Aside0.mk hl222_0; clear hi222_0 hl222_0; replace p222 := eq_true p222; replace q222 := eq_true q222; have p223 : 0 ≤ (x5_1 : Int) := of_decide_eq_true (by first | (with_reducible assumption) | assumption); have q223 : x5_1 < (l1.length : Int) := of_decide_eq_true (by first | (with_reducible assumption) | assumption); obtain ⟨ad223, A223_0, c223_0, e223, hx223_0, hl223_0, hi223_0⟩ := at_L2 HR1.out x5_1 p223 q223; obtain rfl : ad219 = ad223 := (by injection e223); have HR223_0 := Aside0.mk hi223_0; have HC223_0 := Aside0.mk hl223_0; clear hi223_0 hl223_0; replace p223 := eq_true p223; replace q223 := eq_true q223; have p224 : 0 ≤ (x6_2 : Int) := of_decide_eq_true (by first | (with_reducible assumption) | assumption); have q224 : x6_2 < ((rd_L2 l1 x5_1).length : Int) := of_decide_eq_true (by first | (with_reducible assumption) | assumption); obtain ⟨ad224, A224_0, c224_0, e224, hx224_0, hl224_0, hi224_0⟩ := at_L1 HR223_0.out x6_2 p224 q224
                 cases e224
                 have HR224_0 := Aside0.mk hi224_0; have HC224_0 := Aside0.mk hl224_0; clear hi224_0 hl224_0; replace p224 := eq_true p224; replace q224 := eq_true q224
                 go_wp2_with (first | (go_at_call 31; (with_reducible refine (dioramaref01_SameInts.calls k2 _ _ (rd_L1 (rd_L2 l0 x5_1) x6_2) _ _ (rd_L1 (rd_L2 l1 x5_1) x6_2) true _ ?side1 ?side2 ?side3 ?side4 A14.out).mono ?_); (case side1 => repeat (first | exact HR222_0.out | (with_reducible refine Kd.C_alloc ?_ _) | (with_reducible refine Kd.C_drewN ?_ _) | (with_reducible refine Kd.C_drew ?_))); (case side2 => exact HC222_0.out); (case side3 => repeat (first | exact HR224_0.out | (with_reducible refine Kd.C_alloc ?_ _) | (with_reducible refine Kd.C_drewN ?_ _) | (with_reducible refine Kd.C_drew ?_))); (case side4 => exact HC224_0.out); rintro e w' ⟨rfl, ⟨nd, rfl⟩⟩; (try first | exact ⟨rfl, _, World.drewN_drewN _ _ _⟩ | exact ⟨rfl, _, Eq.trans (World.drewN_drewN _ _ _) (congrArg (World.drewN _) (Nat.add_assoc _ _ _))⟩)))
                 repeat (go_quiet (first | (go_at_call 31; (with_reducible refine (dioramaref01_SameInts.calls k2 _ _ (rd_L1 (rd_L2 l0 x5_1) x6_2) _ _ (rd_L1 (rd_L2 l1 x5_1) x6_2) true _ ?side1 ?side2 ?side3 ?side4 A14.out).mono ?_); (case side1 => repeat (first | exact HR222_0.out | (with_reducible refine Kd.C_alloc ?_ _) | (with_reducible refine Kd.C_drewN ?_ _) | (with_reducible refine Kd.C_drew ?_))); (case side2 => exact HC222_0.out); (case side3 => repeat (first | exact HR224_0.out | (with_reducible refine Kd.C_alloc ?_ _) | (with_reducible refine Kd.C_drewN ?_ _) | (with_reducible refine Kd.C_drew ?_))); (case side4 => exact HC224_0.out); rintro e w' ⟨rfl, ⟨nd, rfl⟩⟩; (try first | exact ⟨rfl, _, World.drewN_drewN _ _ _⟩ | exact ⟨rfl, _, Eq.trans (World.drewN_drewN _ _ _) (congrArg (World.drewN _) (Nat.add_assoc _ _ _))⟩))); try go_wp2_with (first | (go_at_call 31; (with_reducible refine (dioramaref01_SameInts.calls k2 _ _ (rd_L1 (rd_L2 l0 x5_1) x6_2) _ _ (rd_L1 (rd_L2 l1 x5_1) x6_2) true _ ?side1 ?side2 ?side3 ?side4 A14.out).mono ?_); (case side1 => repeat (first | exact HR222_0.out | (with_reducible refine Kd.C_alloc ?_ _) | (with_reducible refine Kd.C_drewN ?_ _) | (with_reducible refine Kd.C_drew ?_))); (case side2 => exact HC222_0.out); (case side3 => repeat (first | exact HR224_0.out | (with_reducible refine Kd.C_alloc ?_ _) | (with_reducible refine Kd.C_drewN ?_ _) | (with_reducible refine Kd.C_drew ?_))); (case side4 => exact HC224_0.out); rintro e w' ⟨rfl, ⟨nd, rfl⟩⟩; (try first | exact ⟨rfl, _, World.drewN_drewN _ _ _⟩ | exact ⟨rfl, _, Eq.trans (World.drewN_drewN _ _ _) (congrArg (World.drewN _) (Nat.add_assoc _ _ _))⟩))))
                 go_roundg k2
                 case measure => have := HK1.out; have := HK2.out; omega
                 case rel => exact ⟨(wrap64 (x6_2 + 1)), (by first | rfl | (simp; done) | (simp [*]; done)), H', ⟨by have := HK1.out; have := HK2.out; omega⟩, by repeat (first | exact Drawn0.refl _ | apply Drawn0.step)⟩
                ·replace c15 := Bool.eq_false_iff.mpr c15
                 subst c15
                 have H1 : (some false) = some r := by rw [if_neg (show ¬ (false = true) by decide)] at H; exact H
                 clear H; have H := H1; clear H1; obtain rfl := Option.some.inj H; have p220 : 0 ≤ (x5_1 : Int) := of_decide_eq_true (by first | (with_reducible assumption) | assumption); have q220 : x5_1 < (l0.length : Int) := of_decide_eq_true (by first | (with_reducible assumption) | assumption); obtain ⟨ad220, A220_0, c220_0, e220, hx220_0, hl220_0, hi220_0⟩ := at_L2 HR0.out x5_1 p220 q220; obtain rfl : ad218 = ad220 := (by injection e220); have HR220_0 := Aside0.mk hi220_0; have HC220_0 := Aside0.mk hl220_0; clear hi220_0 hl220_0; replace p220 := eq_true p220; replace q220 := eq_true q220; have p221 : 0 ≤ (x5_1 : Int) := of_decide_eq_true (by first | (with_reducible assumption) | assumption); have q221 : x5_1 < (l0.length : Int) := of_decide_eq_true (by first | (with_reducible assumption) | assumption); obtain ⟨ad221, A221_0, c221_0, e221, hx221_0, hl221_0, hi221_0⟩ := at_L2 HR0.out x5_1 p221 q221; obtain rfl : ad218 = ad221 := (by injection e221); have HR221_0 := Aside0.mk hi221_0; have HC221_0 := Aside0.mk hl221_0; clear hi221_0 hl221_0; replace p221 := eq_true p221; replace q221 := eq_true q221; have ea_ := Option.some.inj (hx220_0.symm.trans hx221_0)
                 injection ea_ with ea_ en_ ec_
                 subst ea_; subst ec_; clear en_; have p222 : 0 ≤ (x6_2 : Int) := of_decide_eq_true (by first | (with_reducible assumption) | assumption); have q222 : x6_2 < ((rd_L2 l0 x5_1).length : Int) := of_decide_eq_true (by first | (with_reducible assumption) | assumption); obtain ⟨ad222, A222_0, c222_0, e222, hx222_0, hl222_0, hi222_0⟩ := at_L1 HR221_0.out x6_2 p222 q222
                 cases e222
                 have HR222_0 := Aside0.mk hi222_0; have HC222_0 := Aside0.mk hl222_0; clear hi222_0 hl222_0; replace p222 := eq_true p222; replace q222 := eq_true q222; have p223 : 0 ≤ (x5_1 : Int) := of_decide_eq_true (by first | (with_reducible assumption) | assumption); have q223 : x5_1 < (l1.length : Int) := of_decide_eq_true (by first | (with_reducible assumption) | assumption); obtain ⟨ad223, A223_0, c223_0, e223, hx223_0, hl223_0, hi223_0⟩ := at_L2 HR1.out x5_1 p223 q223; obtain rfl : ad219 = ad223 := (by injection e223); have HR223_0 := Aside0.mk hi223_0; have HC223_0 := Aside0.mk hl223_0; clear hi223_0 hl223_0; replace p223 := eq_true p223; replace q223 := eq_true q223; have p224 : 0 ≤ (x6_2 : Int) := of_decide_eq_true (by first | (with_reducible assumption) | assumption); have q224 : x6_2 < ((rd_L2 l1 x5_1).length : Int) := of_decide_eq_true (by first | (with_reducible assumption) | assumption); obtain ⟨ad224, A224_0, c224_0, e224, hx224_0, hl224_0, hi224_0⟩ := at_L1 HR223_0.out x6_2 p224 q224
                 cases e224
                 have HR224_0 := Aside0.mk hi224_0; have HC224_0 := Aside0.mk hl224_0; clear hi224_0 hl224_0; replace p224 := eq_true p224; replace q224 := eq_true q224
                 go_wp2_with (first | (go_at_call 31; (with_reducible refine (dioramaref01_SameInts.calls k2 _ _ (rd_L1 (rd_L2 l0 x5_1) x6_2) _ _ (rd_L1 (rd_L2 l1 x5_1) x6_2) false _ ?side1 ?side2 ?side3 ?side4 A14.out).mono ?_); (case side1 => repeat (first | exact HR222_0.out | (with_reducible refine Kd.C_alloc ?_ _) | (with_reducible refine Kd.C_drewN ?_ _) | (with_reducible refine Kd.C_drew ?_))); (case side2 => exact HC222_0.out); (case side3 => repeat (first | exact HR224_0.out | (with_reducible refine Kd.C_alloc ?_ _) | (with_reducible refine Kd.C_drewN ?_ _) | (with_reducible refine Kd.C_drew ?_))); (case side4 => exact HC224_0.out); rintro e w' ⟨rfl, ⟨nd, rfl⟩⟩; (try first | exact ⟨rfl, _, World.drewN_drewN _ _ _⟩ | exact ⟨rfl, _, Eq.trans (World.drewN_drewN _ _ _) (congrArg (World.drewN _) (Nat.add_assoc _ _ _))⟩)))
                 repeat (go_quiet (first | (go_at_call 31; (with_reducible refine (dioramaref01_SameInts.calls k2 _ _ (rd_L1 (rd_L2 l0 x5_1) x6_2) _ _ (rd_L1 (rd_L2 l1 x5_1) x6_2) false _ ?side1 ?side2 ?side3 ?side4 A14.out).mono ?_); (case side1 => repeat (first | exact HR222_0.out | (with_reducible refine Kd.C_alloc ?_ _) | (with_reducible refine Kd.C_drewN ?_ _) | (with_reducible refine Kd.C_drew ?_))); (case side2 => exact HC222_0.out); (case side3 => repeat (first | exact HR224_0.out | (with_reducible refine Kd.C_alloc ?_ _) | (with_reducible refine Kd.C_drewN ?_ _) | (with_reducible refine Kd.C_drew ?_))); (case side4 => exact HC224_0.out); rintro e w' ⟨rfl, ⟨nd, rfl⟩⟩; (try first | exact ⟨rfl, _, World.drewN_drewN _ _ _⟩ | exact ⟨rfl, _, Eq.trans (World.drewN_drewN _ _ _) (congrArg (World.drewN _) (Nat.add_assoc _ _ _))⟩))); try go_wp2_with (first | (go_at_call 31; (with_reducible refine (dioramaref01_SameInts.calls k2 _ _ (rd_L1 (rd_L2 l0 x5_1) x6_2) _ _ (rd_L1 (rd_L2 l1 x5_1) x6_2) false _ ?side1 ?side2 ?side3 ?side4 A14.out).mono ?_); (case side1 => repeat (first | exact HR222_0.out | (with_reducible refine Kd.C_alloc ?_ _) | (with_reducible refine Kd.C_drewN ?_ _) | (with_reducible refine Kd.C_drew ?_))); (case side2 => exact HC222_0.out); (case side3 => repeat (first | exact HR224_0.out | (with_reducible refine Kd.C_alloc ?_ _) | (with_reducible refine Kd.C_drewN ?_ _) | (with_reducible refine Kd.C_drew ?_))); (case side4 => exact HC224_0.out); rintro e w' ⟨rfl, ⟨nd, rfl⟩⟩; (try first | exact ⟨rfl, _, World.drewN_drewN _ _ _⟩ | exact ⟨rfl, _, Eq.trans (World.drewN_drewN _ _ _) (congrArg (World.drewN _) (Nat.add_assoc _ _ _))⟩))))
                 go_ret; exact ⟨by first | rfl | (simp; done) | (simp [*]; done), by repeat (first | exact Drawn0.refl _ | apply Drawn0.step)⟩
               (· rw [if_neg c13] at H; exact absurd H (by simp))
              (· rw [if_neg c12] at H; exact absurd H (by simp))
             (· rw [if_neg c11] at H; exact absurd H (by simp))
            ·rw [if_neg c10] at H
             have c10b0 : decide (x6_2 < ((rd_L2 l0 x5_1).length : Int)) = false := decide_eq_false c10; clear c10; have H' := Aside0.mk H; clear H; have p220 : 0 ≤ (x5_1 : Int) := of_decide_eq_true (by first | (with_reducible assumption) | assumption); have q220 : x5_1 < (l0.length : Int) := of_decide_eq_true (by first | (with_reducible assumption) | assumption); obtain ⟨ad220, A220_0, c220_0, e220, hx220_0, hl220_0, hi220_0⟩ := at_L2 HR0.out x5_1 p220 q220; obtain rfl : ad218 = ad220 := (by injection e220); have HR220_0 := Aside0.mk hi220_0; have HC220_0 := Aside0.mk hl220_0; clear hi220_0 hl220_0; replace p220 := eq_true p220; replace q220 := eq_true q220; go_wp2
             repeat (go_quiet (fail); try go_wp2)
             go_roundg k2
             case measure => have := HK1.out; have := HK2.out; omega
             case rel => exact ⟨(wrap64 (x5_1 + 1)), (by first | rfl | (simp; done) | (simp [*]; done)), H', ⟨by have := HK1.out; have := HK2.out; omega⟩, by repeat (first | exact Drawn0.refl _ | apply Drawn0.step)⟩
           (· rw [if_neg c9] at H; exact absurd H (by simp))
          (· rw [if_neg c8] at H; exact absurd H (by simp))
       ·rw [if_neg c7] at H
        have c7b0 : (((rd_L2 l0 x5_1).length : Int) == ((rd_L2 l1 x5_1).length : Int)) = false := beq_eq_false_iff_ne.mpr c7; have c7b1 : (((rd_L2 l0 x5_1).length : Int) != ((rd_L2 l1 x5_1).length : Int)) = true := bne_iff_ne.mpr c7
        have c7b2 : ((rd_L2 l0 x5_1).length == (rd_L2 l1 x5_1).length) = false := by first | simpa using c7 | (simp at c7 ⊢; omega)
        obtain rfl := Option.some.inj H; have p218 : 0 ≤ (x5_1 : Int) := of_decide_eq_true (by first | (with_reducible assumption) | assumption); have q218 : x5_1 < (l0.length : Int) := of_decide_eq_true (by first | (with_reducible assumption) | assumption); obtain ⟨ad218, A218_0, c218_0, e218, hx218_0, hl218_0, hi218_0⟩ := at_L2 HR0.out x5_1 p218 q218
        cases e218
        have HR218_0 := Aside0.mk hi218_0; have HC218_0 := Aside0.mk hl218_0; clear hi218_0 hl218_0; replace p218 := eq_true p218; replace q218 := eq_true q218; have p219 : 0 ≤ (x5_1 : Int) := of_decide_eq_true (by first | (with_reducible assumption) | assumption); have q219 : x5_1 < (l1.length : Int) := of_decide_eq_true (by first | (with_reducible assumption) | assumption); obtain ⟨ad219, A219_0, c219_0, e219, hx219_0, hl219_0, hi219_0⟩ := at_L2 HR1.out x5_1 p219 q219
        cases e219
        have HR219_0 := Aside0.mk hi219_0; have HC219_0 := Aside0.mk hl219_0; clear hi219_0 hl219_0; replace p219 := eq_true p219; replace q219 := eq_true q219; go_wp2
        repeat (go_quiet (fail); try go_wp2)
        go_ret; exact ⟨by first | rfl | (simp; done) | (simp [*]; done), by repeat (first | exact Drawn0.refl _ | apply Drawn0.step)⟩
      (· rw [if_neg c6] at H; exact absurd H (by simp))
     (· rw [if_neg c5] at H; exact absurd H (by simp))
    ·rw [if_neg c4] at H
     have c4b0 : decide (x5_1 < (l0.length : Int)) = false := decide_eq_false c4; clear c4; obtain rfl := Option.some.inj H; go_wp2
     repeat (go_quiet (fail); try go_wp2)
     go_ret; exact ⟨by first | rfl | (simp; done) | (simp [*]; done), by repeat (first | exact Drawn0.refl _ | apply Drawn0.step)⟩
 ·rw [if_neg c3] at H
  have c3b0 : ((l0.length : Int) == (l1.length : Int)) = false := beq_eq_false_iff_ne.mpr c3; have c3b1 : ((l0.length : Int) != (l1.length : Int)) = true := bne_iff_ne.mpr c3
  have c3b2 : (l0.length == l1.length) = false := by first | simpa using c3 | (simp at c3 ⊢; omega)
  obtain rfl := Option.some.inj H
  go_enter Try.func21, Try.ntmps21
  go_wp2
  repeat (go_quiet (fail); try go_wp2)
  go_ret; exact ⟨by first | rfl | (simp; done) | (simp [*]; done), by repeat (first | exact Drawn0.refl _ | apply Drawn0.step)⟩
end Go.Proofs.Ytcgpemefmakjiaa.PX
namespace Go.Proofs.Ytcgpemefmakjiaa.PX
open Go.RowKit Go.Proofs.YtcgpemefmakjiaaW.PrintWords Go.Proofs.YtcgpemefmakjiaaW.PrintLast Go.Proofs.YtcgpemefmakjiaaW.PrintMore
set_option linter.unusedVariables false
set_option linter.unusedSimpArgs false
namespace Lives
def la : Wd := [[[1, 2], [3, 4]]]
def lb : Wd := [[[1, 5], [3, 4], [6, 7]]]
def lc : Wd := [[[1, 2], [5, 6]]]
def ld : Wd := [[[1, 2, 3], [4, 5, 6]]]
def le : Wd := [[[1, 2, 3], [7, 8, 9]]]
def d1 : List S61 := [⟨0, 0, 1, 2, 5, []⟩, ⟨0, 2, -1, 0, 0, [6, 7]⟩]
def d2 : List S61 := [⟨0, 1, 0, 3, 5, []⟩, ⟨0, 1, 1, 4, 6, []⟩]
def d3 : List S61 := [⟨0, 1, -2, 0, 0, [4, 5, 6]⟩, ⟨0, 1, -1, 0, 0, [7, 8, 9]⟩]
def p1 : List S76 := [⟨0, 0, 1, 2, 5, []⟩, ⟨0, 2, -1, 0, 0, [6, 7]⟩]
theorem e1 : diff_Diff.f la lb = some (d1, 0) := by rfl
theorem e2 : diff_Diff.f la lc = some (d2, 0) := by rfl
theorem e3 : diff_Diff.f ld le = some (d3, 0) := by rfl
theorem e4 : diff_Apply.f la d1 = some (lb, 0) := by rfl
theorem e5 : dioramaref36_SameWorld.f 20 lb lb = some true := by kernel_rfl
theorem e6 : dioramalaw36_plain.f 20 d1 = some p1 := by kernel_rfl
theorem e7 : dioramaref36_SameAll.f 20 p1 p1 = some true := by kernel_rfl
def AllR {α β : Type} (R : α → β → Prop) : List α → List β → Prop
 | [], [] => True
 | a :: l, b :: m => R a b ∧ AllR R l m
 | _, _ => False
theorem AllR.reps {α : Type} {R : Value → α → Prop} : ∀ {vs : List Value} {xs : List α}, AllR R vs xs → Reps (fun x c => ∃ v, c = [v] ∧ R v x) 1 xs vs
 | [], [], _ => ⟨rfl, fun j p h => by simp at h⟩
 | a :: l, b :: m, h => by
  have ih := AllR.reps h.2; refine ⟨by simp only [List.length_cons]; have := ih.1; omega, fun j p hj => ?_⟩
  cases j with
  | zero =>
   have : b = p := by simpa using hj
   subst this; exact ⟨a, by simp, h.1⟩
  | succ j =>
   have := ih.2 j p (by simpa using hj)
   have e : (j + 1) * 1 = j * 1 + 1 := by omega
   rw [e, List.drop_succ_cons]; exact this
 | [], _ :: _, h => h.elim
 | _ :: _, [], h => h.elim
theorem lit_row {α : Type} {d : Kd α} {W : World} {g : Nat} {cs : Array Value} {t : TypeId} {xs : List α} (h : W.heap[g]? = some (.cells cs t (0, 0))) (hm : xs.length ≤ 9223372036854775807) (hr : Reps (d.K W) d.sz xs cs.toList) : Kd.C d W (some ⟨g, 0, none⟩) xs.length xs := by
 refine ⟨rfl, hm, fun _ => ⟨_, rfl, fun j p hj => ⟨(cs.toList.drop (j * d.sz)).take d.sz, d.K_len (hr.2 j p hj), hr.2 j p hj, fun i u hi => ?_⟩⟩⟩; rw [add_head, cell_of_row W g _ cs t (0, 0) h]; rw [List.getElem?_take] at hi
 split at hi
 ·rw [List.getElem?_drop] at hi
  simpa using hi
 ·cases hi
theorem lit3 {W : World} {g : Nat} {cs : Array Value} {t : TypeId} {xs : List Int} (h : W.heap[g]? = some (.cells cs t (0, 0))) (hm : xs.length ≤ 9223372036854775807) (hr : AllR (fun v x => v = Value.int .i64 x) cs.toList xs) : Kd.C (Kd.int .i64) W (some ⟨g, 0, none⟩) xs.length xs :=
 lit_row h hm (hr.reps.imp_ (fun x c ⟨v, hc, hv⟩ => by subst hv; exact hc))
theorem litS {α : Type} {d : Kd α} {e : Nat} {W : World} {g : Nat} {cs : Array Value} {t : TypeId} {xs : List (List α)} (h : W.heap[g]? = some (.cells cs t (0, 0))) (hm : xs.length ≤ 9223372036854775807)
  (hr : AllR (fun v (x : List α) => ∃ A c, v = Value.slice A x.length c ∧ x.length ≤ c ∧ Kd.C d W A x.length x) cs.toList xs) : Kd.C (Kd.slice e d) W (some ⟨g, 0, none⟩) xs.length xs :=
 lit_row h hm (hr.reps.imp_ (fun x c ⟨v, hc, A, c', hv, h1, h2⟩ => by subst hv; exact ⟨A, c', hc, h1, h2⟩))
section
variable {P : Program} {ops : Array Oper} {rest : List Oper} {o : Oper} {a : Act} {Q : Exit → Act → World → Prop}
theorem lit_event {W : World} (hgd : o.guard = none) {N : Tmp} (_hd : o.dst = some N) {cs : Array Value} {t : TypeId} {n : Nat}
  (hrun : (execOp a.eval o).run P W = .ok (.value (.slice (some ⟨W.heap.size, 0, none⟩) n n)) (W.alloc (.cells cs t (0, 0))))
  (h : ∀ g, g = W.heap.size → ∀ w1, w1.heap[g]? = some (.cells cs t (0, 0)) → Below W.heap.size W w1 → wpList P ops Q rest (a.put o.dst (.slice (some ⟨g, 0, none⟩) n n)) w1) : wpList P ops Q (o :: rest) a W :=
 Kd.event_run hgd hrun (h _ rfl _ (blk_new W _) (below_alloc (Below.refl _ _) _))
end
abbrev CW (w : World) (g : Nat) (l : Wd) : Prop := Kd.C (Kd.slice 22 (Kd.slice 3 (Kd.int .i64))) w (some ⟨g, 0, none⟩) 1 l
def DPost (w : World) (d : List S61) (n : Nat) (e : Ending) (w' : World) : Prop := ∃ A c, e = .returned (.tuple #[.slice A n c, .int .i64 0]) ∧ Kd.N k61 61 w' w.heap.size (fun k_ => w.heap.size ≤ k_) (.slice A n c) d ∧ Below w.heap.size w w'
theorem diff_lit {la lb : Wd} {d : List S61} {n : Nat} (g h : Nat) (w : World) (hl : la.length = 1) (hm : lb.length = 1) (hn : d.length = n) (he : diff_Diff.f la lb = some (d, 0)) (hA : CW w g la) (hB : CW w h lb) :
  Calls Try.prog 14 #[.slice (some ⟨g, 0, none⟩) 1 1, .slice (some ⟨h, 0, none⟩) 1 1] w (DPost w d n) := by
 have := diff_Diff.calls (some ⟨g, 0, none⟩) 1 la (some ⟨h, 0, none⟩) 1 lb d 0 w (by rw [hl]; exact hA) (by omega) (by rw [hm]; exact hB) (by omega) he; rw [hl, hm] at this; refine this.mono ?_; rintro e w' ⟨v, rfl, h1, h2⟩; obtain ⟨A, c, rfl⟩ := Kd.N_slice h1; rw [hn] at h1 ⊢; exact ⟨A, c, rfl, h1, h2⟩
def APost (w : World) (l : Wd) (e : Ending) (w' : World) : Prop := ∃ A c, e = .returned (.tuple #[.slice A 1 c, .int .i64 0]) ∧ Kd.C (Kd.slice 22 (Kd.slice 3 (Kd.int .i64))) w' A 1 l ∧ 1 ≤ c ∧ Below w.heap.size w w'
theorem apply_lit (g : Nat) (A : Option Addr) (c : Nat) (w : World) (hA : CW w g la) (hB : Kd.C k61 w A 2 d1) (hc : 2 ≤ c) : Calls Try.prog 19 #[.slice (some ⟨g, 0, none⟩) 1 1, .slice A 2 c] w (APost w lb) := by
 have := diff_Apply.calls (some ⟨g, 0, none⟩) 1 la A c d1 lb 0 w hA (by decide) hB hc e4; refine this.mono ?_; rintro e w' ⟨v, rfl, h1, h2⟩; obtain ⟨A, c, rfl, h3, h4⟩ := Kd.R_reads h1; exact ⟨A, c, rfl, h4, h3, h2⟩
theorem same_lit (g : Nat) (A : Option Addr) (c : Nat) (w : World) (hA : Kd.C (Kd.slice 22 (Kd.slice 3 (Kd.int .i64))) w A 1 lb) (hc : 1 ≤ c) (hB : CW w g lb) : Calls Try.prog 21 #[.slice A 1 c, .slice (some ⟨g, 0, none⟩) 1 1] w fun e w' => e = .returned (.bool true) ∧ Drawn0 w w' :=
 dioramaref36_SameWorld.calls 20 A c lb (some ⟨g, 0, none⟩) 1 lb true w hA hc hB (by decide) e5
def PPost (w : World) (e : Ending) (w' : World) : Prop := ∃ A c, e = .returned (.slice A 2 c) ∧ Kd.C k76 w' A 2 p1 ∧ 2 ≤ c ∧ Below w.heap.size w w'
theorem plain_lit (A : Option Addr) (c : Nat) (w w1 : World) (base : Nat) (ok : Nat → Prop) (hA : Kd.N k61 61 w1 base ok (.slice A 2 c) d1) (hb : Below w1.heap.size w1 w) : Calls Try.prog 17 #[.slice A 2 c] w (PPost w) := by
 refine (dioramalaw36_plain.calls 20 ok A c d1 p1 w (Kd.V_below (Kd.N_V hA) hb) e6).mono ?_; rintro e w' ⟨v, rfl, h1, h2⟩; obtain ⟨A, c, rfl, h3, h4⟩ := Kd.N_reads h1; exact ⟨A, c, rfl, h4, h3, h2⟩
theorem all_lit (g : Nat) (A : Option Addr) (c : Nat) (w : World) (hA : Kd.C k76 w A 2 p1) (hc : 2 ≤ c) (hB : Kd.C k76 w (some ⟨g, 0, none⟩) 2 p1) : Calls Try.prog 16 #[.slice A 2 c, .slice (some ⟨g, 0, none⟩) 2 2] w fun e w' => e = .returned (.bool true) ∧ Below w.heap.size w w' :=
 dioramaref36_SameAll.calls 20 A c p1 (some ⟨g, 0, none⟩) 2 p1 true w hA hc hB (by decide) e7
theorem want {W : World} {g g85 : Nat} (h : W.heap[g]? = some (.cells #[.int .i64 0, .int .i64 0, .int .i64 1, .int .i64 2, .int .i64 5, .slice none 0 0, .int .i64 0, .int .i64 2, .int .i64 (-1), .int .i64 0, .int .i64 0, .slice (some ⟨g85, 0, none⟩) 2 2] 76 (0, 0))) (h85 : Kd.C (Kd.int .i64) W (some ⟨g85, 0, none⟩) 2 [6, 7]) : Kd.C k76 W (some ⟨g, 0, none⟩) 2 p1 :=
 lit_row h (by decide) ⟨rfl, fun j p hj => by
  rcases j with _ | _ | j
  (· obtain rfl := Option.some.inj hj; exact k76_mk W ⟨0, 0, 1, 2, 5, []⟩ (A5 := none) (c5 := 0) (by decide) ⟨rfl, by decide, fun h => absurd h (by decide)⟩); (· obtain rfl := Option.some.inj hj; exact k76_mk W ⟨0, 2, -1, 0, 0, [6, 7]⟩ (A5 := some ⟨g85, 0, none⟩) (c5 := 2) (by decide) h85)
  ·simp [p1] at hj⟩
set_option maxHeartbeats 4000000 in
set_option maxRecDepth 100000 in
theorem calls (w0 : World) : Calls Try.prog 18 #[] w0 fun e w' => e = .returned (.bool true) ∧ Below w0.heap.size w0 w' := by
 have hu61 := Try.underlying61; have hu76 := Try.underlying76
 go_enter Try.func18, Try.ntmps18
 go_upto_region 2 with (first
  | ((with_reducible refine gate_dst (N := 12) rfl ?_); refine lit_event ?hg (N := 12) ?hd (cs := #[.int .i64 1, .int .i64 2]) (t := 3) (n := 2) ?hr ?_; (case hd => rfl); (case hg => rfl); (case hr => first | (go_simp; done) | (go_simp; rfl)); intro g12 hgx w1 hbk hb; clear hgx; have B1 := Aside0.mk hb; have F12 : Aside0 (Kd.C (Kd.int .i64) w1 (some ⟨g12, 0, none⟩) 2 [1, 2]) := ⟨lit3 hbk (by decide) ⟨rfl, rfl, trivial⟩⟩; clear hb hbk)
  | ((with_reducible refine gate_dst (N := 13) rfl ?_); refine lit_event ?hg (N := 13) ?hd (cs := #[.int .i64 3, .int .i64 4]) (t := 3) (n := 2) ?hr ?_; (case hd => rfl); (case hg => rfl); (case hr => first | (go_simp; done) | (go_simp; rfl)); intro g13 hgx w2 hbk hb; clear hgx; have B2 := Aside0.mk hb; have F13 : Aside0 (Kd.C (Kd.int .i64) w2 (some ⟨g13, 0, none⟩) 2 [3, 4]) := ⟨lit3 hbk (by decide) ⟨rfl, rfl, trivial⟩⟩; clear hb hbk)
  | ((with_reducible refine gate_dst (N := 14) rfl ?_); refine lit_event ?hg (N := 14) ?hd (cs := #[.slice (some ⟨g12, 0, none⟩) 2 2, .slice (some ⟨g13, 0, none⟩) 2 2]) (t := 22) (n := 2) ?hr ?_; (case hd => rfl); (case hg => rfl); (case hr => first | (go_simp; done) | (go_simp; rfl)); intro g14 hgx w3 hbk hb; clear hgx; have B3 := Aside0.mk hb; have F14 : Aside0 (Kd.C (Kd.slice 3 (Kd.int .i64)) w3 (some ⟨g14, 0, none⟩) 2 [[1, 2], [3, 4]]) := ⟨litS hbk (by decide) ⟨⟨_, _, rfl, by decide, Kd.C_below F12.out (below_step (below_step (Below.refl _ _) B2.out) B3.out)⟩, ⟨_, _, rfl, by decide, Kd.C_below F13.out (below_step (Below.refl _ _) B3.out)⟩, trivial⟩⟩; clear hb hbk)
  | ((with_reducible refine gate_dst (N := 15) rfl ?_); refine lit_event ?hg (N := 15) ?hd (cs := #[.slice (some ⟨g14, 0, none⟩) 2 2]) (t := 64) (n := 1) ?hr ?_; (case hd => rfl); (case hg => rfl); (case hr => first | (go_simp; done) | (go_simp; rfl)); intro g15 hgx w4 hbk hb; clear hgx; have B4 := Aside0.mk hb; have F15 : Aside0 (Kd.C (Kd.slice 22 (Kd.slice 3 (Kd.int .i64))) w4 (some ⟨g15, 0, none⟩) 1 la) := ⟨litS hbk (by decide) ⟨⟨_, _, rfl, by decide, Kd.C_below F14.out (below_step (Below.refl _ _) B4.out)⟩, trivial⟩⟩; clear hb hbk))
 go_upto_region 3 with (first
  | ((with_reducible refine gate_dst (N := 16) rfl ?_); refine lit_event ?hg (N := 16) ?hd (cs := #[.int .i64 1, .int .i64 5]) (t := 3) (n := 2) ?hr ?_; (case hd => rfl); (case hg => rfl); (case hr => first | (go_simp; done) | (go_simp; rfl)); intro g16 hgx w5 hbk hb; clear hgx; have B5 := Aside0.mk hb; have F16 : Aside0 (Kd.C (Kd.int .i64) w5 (some ⟨g16, 0, none⟩) 2 [1, 5]) := ⟨lit3 hbk (by decide) ⟨rfl, rfl, trivial⟩⟩; clear hb hbk)
  | ((with_reducible refine gate_dst (N := 17) rfl ?_); refine lit_event ?hg (N := 17) ?hd (cs := #[.int .i64 3, .int .i64 4]) (t := 3) (n := 2) ?hr ?_; (case hd => rfl); (case hg => rfl); (case hr => first | (go_simp; done) | (go_simp; rfl)); intro g17 hgx w6 hbk hb; clear hgx; have B6 := Aside0.mk hb; have F17 : Aside0 (Kd.C (Kd.int .i64) w6 (some ⟨g17, 0, none⟩) 2 [3, 4]) := ⟨lit3 hbk (by decide) ⟨rfl, rfl, trivial⟩⟩; clear hb hbk)
  | ((with_reducible refine gate_dst (N := 18) rfl ?_); refine lit_event ?hg (N := 18) ?hd (cs := #[.int .i64 6, .int .i64 7]) (t := 3) (n := 2) ?hr ?_; (case hd => rfl); (case hg => rfl); (case hr => first | (go_simp; done) | (go_simp; rfl)); intro g18 hgx w7 hbk hb; clear hgx; have B7 := Aside0.mk hb; have F18 : Aside0 (Kd.C (Kd.int .i64) w7 (some ⟨g18, 0, none⟩) 2 [6, 7]) := ⟨lit3 hbk (by decide) ⟨rfl, rfl, trivial⟩⟩; clear hb hbk)
  | ((with_reducible refine gate_dst (N := 19) rfl ?_); refine lit_event ?hg (N := 19) ?hd (cs := #[.slice (some ⟨g16, 0, none⟩) 2 2, .slice (some ⟨g17, 0, none⟩) 2 2, .slice (some ⟨g18, 0, none⟩) 2 2]) (t := 22) (n := 3) ?hr ?_; (case hd => rfl); (case hg => rfl); (case hr => first | (go_simp; done) | (go_simp; rfl)); intro g19 hgx w8 hbk hb; clear hgx; have B8 := Aside0.mk hb; have F19 : Aside0 (Kd.C (Kd.slice 3 (Kd.int .i64)) w8 (some ⟨g19, 0, none⟩) 3 [[1, 5], [3, 4], [6, 7]]) := ⟨litS hbk (by decide) ⟨⟨_, _, rfl, by decide, Kd.C_below F16.out (below_step (below_step (below_step (Below.refl _ _) B6.out) B7.out) B8.out)⟩, ⟨_, _, rfl, by decide, Kd.C_below F17.out (below_step (below_step (Below.refl _ _) B7.out) B8.out)⟩, ⟨_, _, rfl, by decide, Kd.C_below F18.out (below_step (Below.refl _ _) B8.out)⟩, trivial⟩⟩; clear hb hbk)
  | ((with_reducible refine gate_dst (N := 20) rfl ?_); refine lit_event ?hg (N := 20) ?hd (cs := #[.slice (some ⟨g19, 0, none⟩) 3 3]) (t := 64) (n := 1) ?hr ?_; (case hd => rfl); (case hg => rfl); (case hr => first | (go_simp; done) | (go_simp; rfl)); intro g20 hgx w9 hbk hb; clear hgx; have B9 := Aside0.mk hb; have F20 : Aside0 (Kd.C (Kd.slice 22 (Kd.slice 3 (Kd.int .i64))) w9 (some ⟨g20, 0, none⟩) 1 lb) := ⟨litS hbk (by decide) ⟨⟨_, _, rfl, by decide, Kd.C_below F19.out (below_step (Below.refl _ _) B9.out)⟩, trivial⟩⟩; clear hb hbk))
 go_upto_region 4 with (first
  | (go_at_call 14; refine (diff_lit (la := la) (lb := lb) (d := d1) (n := 2) g15 g20 w9 rfl rfl rfl e1 ?x1 ?x2).mono ?_; (case x1 => exact Kd.C_below F15.out (below_step (below_step (below_step (below_step (below_step (Below.refl _ _) B5.out) B6.out) B7.out) B8.out) B9.out)); (case x2 => exact Kd.C_below F20.out (Below.refl _ _)); rintro e w10 ⟨AX, cX, rfl, hn, hb⟩; have B10 := Aside0.mk hb; have NX := Aside0.mk hn; clear hb hn))
 go_upto_region 5 with (first
  | (go_at_call 19; refine (apply_lit g15 AX cX w10 ?x1 ?x2 ?x3).mono ?_; (case x1 => exact Kd.C_below F15.out (below_step (below_step (below_step (below_step (below_step (below_step (Below.refl _ _) B5.out) B6.out) B7.out) B8.out) B9.out) B10.out)); (case x2 => exact (Kd.N_reads' NX.out).2.2); (case x3 => exact (Kd.N_reads' NX.out).2.1); rintro e w11 ⟨AY, cY, rfl, hn, hcY, hb⟩; have B11 := Aside0.mk hb; have NY := Aside0.mk hn; have CY := Aside0.mk hcY; clear hb hn hcY))
 go_upto_region 6 with (first
  | ((with_reducible refine gate_dst (N := 35) rfl ?_); refine lit_event ?hg (N := 35) ?hd (cs := #[.int .i64 1, .int .i64 2]) (t := 3) (n := 2) ?hr ?_; (case hd => rfl); (case hg => rfl); (case hr => first | (go_simp; done) | (go_simp; rfl)); intro g35 hgx w12 hbk hb; clear hgx; have B12 := Aside0.mk hb; have F35 : Aside0 (Kd.C (Kd.int .i64) w12 (some ⟨g35, 0, none⟩) 2 [1, 2]) := ⟨lit3 hbk (by decide) ⟨rfl, rfl, trivial⟩⟩; clear hb hbk)
  | ((with_reducible refine gate_dst (N := 36) rfl ?_); refine lit_event ?hg (N := 36) ?hd (cs := #[.int .i64 5, .int .i64 6]) (t := 3) (n := 2) ?hr ?_; (case hd => rfl); (case hg => rfl); (case hr => first | (go_simp; done) | (go_simp; rfl)); intro g36 hgx w13 hbk hb; clear hgx; have B13 := Aside0.mk hb; have F36 : Aside0 (Kd.C (Kd.int .i64) w13 (some ⟨g36, 0, none⟩) 2 [5, 6]) := ⟨lit3 hbk (by decide) ⟨rfl, rfl, trivial⟩⟩; clear hb hbk)
  | ((with_reducible refine gate_dst (N := 37) rfl ?_); refine lit_event ?hg (N := 37) ?hd (cs := #[.slice (some ⟨g35, 0, none⟩) 2 2, .slice (some ⟨g36, 0, none⟩) 2 2]) (t := 22) (n := 2) ?hr ?_; (case hd => rfl); (case hg => rfl); (case hr => first | (go_simp; done) | (go_simp; rfl)); intro g37 hgx w14 hbk hb; clear hgx; have B14 := Aside0.mk hb; have F37 : Aside0 (Kd.C (Kd.slice 3 (Kd.int .i64)) w14 (some ⟨g37, 0, none⟩) 2 [[1, 2], [5, 6]]) := ⟨litS hbk (by decide) ⟨⟨_, _, rfl, by decide, Kd.C_below F35.out (below_step (below_step (Below.refl _ _) B13.out) B14.out)⟩, ⟨_, _, rfl, by decide, Kd.C_below F36.out (below_step (Below.refl _ _) B14.out)⟩, trivial⟩⟩; clear hb hbk)
  | ((with_reducible refine gate_dst (N := 38) rfl ?_); refine lit_event ?hg (N := 38) ?hd (cs := #[.slice (some ⟨g37, 0, none⟩) 2 2]) (t := 64) (n := 1) ?hr ?_; (case hd => rfl); (case hg => rfl); (case hr => first | (go_simp; done) | (go_simp; rfl)); intro g38 hgx w15 hbk hb; clear hgx; have B15 := Aside0.mk hb; have F38 : Aside0 (Kd.C (Kd.slice 22 (Kd.slice 3 (Kd.int .i64))) w15 (some ⟨g38, 0, none⟩) 1 lc) := ⟨litS hbk (by decide) ⟨⟨_, _, rfl, by decide, Kd.C_below F37.out (below_step (Below.refl _ _) B15.out)⟩, trivial⟩⟩; clear hb hbk)
  | (go_at_call 14; refine (diff_lit (la := la) (lb := lc) (d := d2) (n := 2) g15 g38 w15 rfl rfl rfl e2 ?x1 ?x2).mono ?_; (case x1 => exact Kd.C_below F15.out (below_step (below_step (below_step (below_step (below_step (below_step (below_step (below_step (below_step (below_step (below_step (Below.refl _ _) B5.out) B6.out) B7.out) B8.out) B9.out) B10.out) B11.out) B12.out) B13.out) B14.out) B15.out)); (case x2 => exact Kd.C_below F38.out (Below.refl _ _)); rintro e w16 ⟨AM, cM, rfl, hn, hb⟩; have B16 := Aside0.mk hb; have NM := Aside0.mk hn; clear hb hn))
 go_upto_region 7 with (first
  | ((with_reducible refine gate_dst (N := 43) rfl ?_); refine lit_event ?hg (N := 43) ?hd (cs := #[.int .i64 1, .int .i64 2, .int .i64 3]) (t := 3) (n := 3) ?hr ?_; (case hd => rfl); (case hg => rfl); (case hr => first | (go_simp; done) | (go_simp; rfl)); intro g43 hgx w17 hbk hb; clear hgx; have B17 := Aside0.mk hb; have F43 : Aside0 (Kd.C (Kd.int .i64) w17 (some ⟨g43, 0, none⟩) 3 [1, 2, 3]) := ⟨lit3 hbk (by decide) ⟨rfl, rfl, rfl, trivial⟩⟩; clear hb hbk)
  | ((with_reducible refine gate_dst (N := 44) rfl ?_); refine lit_event ?hg (N := 44) ?hd (cs := #[.int .i64 4, .int .i64 5, .int .i64 6]) (t := 3) (n := 3) ?hr ?_; (case hd => rfl); (case hg => rfl); (case hr => first | (go_simp; done) | (go_simp; rfl)); intro g44 hgx w18 hbk hb; clear hgx; have B18 := Aside0.mk hb; have F44 : Aside0 (Kd.C (Kd.int .i64) w18 (some ⟨g44, 0, none⟩) 3 [4, 5, 6]) := ⟨lit3 hbk (by decide) ⟨rfl, rfl, rfl, trivial⟩⟩; clear hb hbk)
  | ((with_reducible refine gate_dst (N := 45) rfl ?_); refine lit_event ?hg (N := 45) ?hd (cs := #[.slice (some ⟨g43, 0, none⟩) 3 3, .slice (some ⟨g44, 0, none⟩) 3 3]) (t := 22) (n := 2) ?hr ?_; (case hd => rfl); (case hg => rfl); (case hr => first | (go_simp; done) | (go_simp; rfl)); intro g45 hgx w19 hbk hb; clear hgx; have B19 := Aside0.mk hb; have F45 : Aside0 (Kd.C (Kd.slice 3 (Kd.int .i64)) w19 (some ⟨g45, 0, none⟩) 2 [[1, 2, 3], [4, 5, 6]]) := ⟨litS hbk (by decide) ⟨⟨_, _, rfl, by decide, Kd.C_below F43.out (below_step (below_step (Below.refl _ _) B18.out) B19.out)⟩, ⟨_, _, rfl, by decide, Kd.C_below F44.out (below_step (Below.refl _ _) B19.out)⟩, trivial⟩⟩; clear hb hbk)
  | ((with_reducible refine gate_dst (N := 46) rfl ?_); refine lit_event ?hg (N := 46) ?hd (cs := #[.slice (some ⟨g45, 0, none⟩) 2 2]) (t := 64) (n := 1) ?hr ?_; (case hd => rfl); (case hg => rfl); (case hr => first | (go_simp; done) | (go_simp; rfl)); intro g46 hgx w20 hbk hb; clear hgx; have B20 := Aside0.mk hb; have F46 : Aside0 (Kd.C (Kd.slice 22 (Kd.slice 3 (Kd.int .i64))) w20 (some ⟨g46, 0, none⟩) 1 ld) := ⟨litS hbk (by decide) ⟨⟨_, _, rfl, by decide, Kd.C_below F45.out (below_step (Below.refl _ _) B20.out)⟩, trivial⟩⟩; clear hb hbk)
  | ((with_reducible refine gate_dst (N := 47) rfl ?_); refine lit_event ?hg (N := 47) ?hd (cs := #[.int .i64 1, .int .i64 2, .int .i64 3]) (t := 3) (n := 3) ?hr ?_; (case hd => rfl); (case hg => rfl); (case hr => first | (go_simp; done) | (go_simp; rfl)); intro g47 hgx w21 hbk hb; clear hgx; have B21 := Aside0.mk hb; have F47 : Aside0 (Kd.C (Kd.int .i64) w21 (some ⟨g47, 0, none⟩) 3 [1, 2, 3]) := ⟨lit3 hbk (by decide) ⟨rfl, rfl, rfl, trivial⟩⟩; clear hb hbk)
  | ((with_reducible refine gate_dst (N := 48) rfl ?_); refine lit_event ?hg (N := 48) ?hd (cs := #[.int .i64 7, .int .i64 8, .int .i64 9]) (t := 3) (n := 3) ?hr ?_; (case hd => rfl); (case hg => rfl); (case hr => first | (go_simp; done) | (go_simp; rfl)); intro g48 hgx w22 hbk hb; clear hgx; have B22 := Aside0.mk hb; have F48 : Aside0 (Kd.C (Kd.int .i64) w22 (some ⟨g48, 0, none⟩) 3 [7, 8, 9]) := ⟨lit3 hbk (by decide) ⟨rfl, rfl, rfl, trivial⟩⟩; clear hb hbk)
  | ((with_reducible refine gate_dst (N := 49) rfl ?_); refine lit_event ?hg (N := 49) ?hd (cs := #[.slice (some ⟨g47, 0, none⟩) 3 3, .slice (some ⟨g48, 0, none⟩) 3 3]) (t := 22) (n := 2) ?hr ?_; (case hd => rfl); (case hg => rfl); (case hr => first | (go_simp; done) | (go_simp; rfl)); intro g49 hgx w23 hbk hb; clear hgx; have B23 := Aside0.mk hb; have F49 : Aside0 (Kd.C (Kd.slice 3 (Kd.int .i64)) w23 (some ⟨g49, 0, none⟩) 2 [[1, 2, 3], [7, 8, 9]]) := ⟨litS hbk (by decide) ⟨⟨_, _, rfl, by decide, Kd.C_below F47.out (below_step (below_step (Below.refl _ _) B22.out) B23.out)⟩, ⟨_, _, rfl, by decide, Kd.C_below F48.out (below_step (Below.refl _ _) B23.out)⟩, trivial⟩⟩; clear hb hbk)
  | ((with_reducible refine gate_dst (N := 50) rfl ?_); refine lit_event ?hg (N := 50) ?hd (cs := #[.slice (some ⟨g49, 0, none⟩) 2 2]) (t := 64) (n := 1) ?hr ?_; (case hd => rfl); (case hg => rfl); (case hr => first | (go_simp; done) | (go_simp; rfl)); intro g50 hgx w24 hbk hb; clear hgx; have B24 := Aside0.mk hb; have F50 : Aside0 (Kd.C (Kd.slice 22 (Kd.slice 3 (Kd.int .i64))) w24 (some ⟨g50, 0, none⟩) 1 le) := ⟨litS hbk (by decide) ⟨⟨_, _, rfl, by decide, Kd.C_below F49.out (below_step (Below.refl _ _) B24.out)⟩, trivial⟩⟩; clear hb hbk)
  | (go_at_call 14; refine (diff_lit (la := ld) (lb := le) (d := d3) (n := 2) g46 g50 w24 rfl rfl rfl e3 ?x1 ?x2).mono ?_; (case x1 => exact Kd.C_below F46.out (below_step (below_step (below_step (below_step (Below.refl _ _) B21.out) B22.out) B23.out) B24.out)); (case x2 => exact Kd.C_below F50.out (Below.refl _ _)); rintro e w25 ⟨AK, cK, rfl, hn, hb⟩; have B25 := Aside0.mk hb; have NK := Aside0.mk hn; clear hb hn))
 obtain ⟨hmn, hmc, hmC⟩ := Kd.N_reads' NM.out; obtain ⟨hkn, hkc, hkC⟩ := Kd.N_reads' NK.out; obtain ⟨adM, _, _, eM, _, _, m0, _, _, _, _, _⟩ := at_T61 hmC 0 (by decide) (by decide); obtain ⟨adM', _, _, eM', _, _, m1, _, _, _, _, _⟩ := at_T61 hmC 1 (by decide) (by decide); obtain ⟨adK, _, _, eK, _, _, k0, _, _, _, _, _⟩ := at_T61 hkC 0 (by decide) (by decide); obtain ⟨adK', _, _, eK', _, _, k1, _, _, _, _, _⟩ := at_T61 hkC 1 (by decide) (by decide)
 cases eM
 cases eM'
 cases eK
 cases eK'
 have M0 := Aside0.mk (show w16.cell? ⟨adM.block, adM.off + 2, none⟩ = some (.int .i64 0) by rw [show (0 : Int).toNat * 6 = 0 from rfl, Addr.add_zero'] at m0; exact m0); have M1 := Aside0.mk (show w16.cell? ⟨adM.block, adM.off + 6 + 2, none⟩ = some (.int .i64 1) by (have h : adM.add ((1 : Int).toNat * 6) = ⟨adM.block, adM.off + 6, none⟩ := by simp [Addr.add]); rw [h] at m1; exact m1); have K0 := Aside0.mk (show w25.cell? ⟨adK.block, adK.off + 2, none⟩ = some (.int .i64 (-2)) by rw [show (0 : Int).toNat * 6 = 0 from rfl, Addr.add_zero'] at k0; exact k0); have K1 := Aside0.mk (show w25.cell? ⟨adK.block, adK.off + 6 + 2, none⟩ = some (.int .i64 (-1)) by (have h : adK.add ((1 : Int).toNat * 6) = ⟨adK.block, adK.off + 6, none⟩ := by simp [Addr.add]); rw [h] at k1; exact k1); clear hmn hmc hmC hkn hkc hkC m0 m1 k0 k1
 go_upto_region 10 with (first
  | (go_at_call 21; refine (same_lit g20 AY cY w25 ?x1 CY.out ?x3).mono ?_; (case x1 => exact Kd.C_below NY.out (below_step (below_step (below_step (below_step (below_step (below_step (below_step (below_step (below_step (below_step (below_step (below_step (below_step (below_step (Below.refl _ _) B12.out) B13.out) B14.out) B15.out) B16.out) B17.out) B18.out) B19.out) B20.out) B21.out) B22.out) B23.out) B24.out) B25.out)); (case x3 => exact Kd.C_below F20.out (below_step (below_step (below_step (below_step (below_step (below_step (below_step (below_step (below_step (below_step (below_step (below_step (below_step (below_step (below_step (below_step (Below.refl _ _) B10.out) B11.out) B12.out) B13.out) B14.out) B15.out) B16.out) B17.out) B18.out) B19.out) B20.out) B21.out) B22.out) B23.out) B24.out) B25.out)); rintro e w26 ⟨rfl, hd⟩; have B26 := Aside0.mk hd.below; clear hd)
  | ((with_reducible refine gate_dst (N := 85) rfl ?_); refine lit_event ?hg (N := 85) ?hd (cs := #[.int .i64 6, .int .i64 7]) (t := 3) (n := 2) ?hr ?_; (case hd => rfl); (case hg => rfl); (case hr => first | (go_simp; done) | (go_simp; rfl)); intro g85 hgx w27 hbk hb; clear hgx; have B27 := Aside0.mk hb; have F85 : Aside0 (Kd.C (Kd.int .i64) w27 (some ⟨g85, 0, none⟩) 2 [6, 7]) := ⟨lit3 hbk (by decide) ⟨rfl, rfl, trivial⟩⟩; clear hb hbk)
  | ((with_reducible refine gate_dst (N := 87) rfl ?_); refine lit_event ?hg (N := 87) ?hd (cs := #[.int .i64 0, .int .i64 0, .int .i64 1, .int .i64 2, .int .i64 5, .slice none 0 0, .int .i64 0, .int .i64 2, .int .i64 (-1), .int .i64 0, .int .i64 0, .slice (some ⟨g85, 0, none⟩) 2 2]) (t := 76) (n := 2) ?hr ?_; (case hd => rfl); (case hg => rfl); (case hr => first | (go_simp; done) | (go_simp; rfl)); intro g87 hgx w28 hbk hb; clear hgx; have B28 := Aside0.mk hb; have F87 : Aside0 (Kd.C k76 w28 (some ⟨g87, 0, none⟩) 2 p1) := ⟨want hbk (Kd.C_below F85.out (below_step (Below.refl _ _) B28.out))⟩; clear hb hbk))
 go_wp2_with (first
  | (go_at_call 17; refine (plain_lit AX cX w28 w10 _ _ NX.out (below_step (below_step (below_step (below_step (below_step (below_step (below_step (below_step (below_step (below_step (below_step (below_step (below_step (below_step (below_step (below_step (below_step (below_step (Below.refl _ _) B11.out) B12.out) B13.out) B14.out) B15.out) B16.out) B17.out) B18.out) B19.out) B20.out) B21.out) B22.out) B23.out) B24.out) B25.out) B26.out) B27.out) B28.out)).mono ?_; rintro e w29 ⟨AZ, cZ, rfl, hn, hcZ, hb⟩; have B29 := Aside0.mk hb; have NZ := Aside0.mk hn; have CZ := Aside0.mk hcZ; clear hb hn hcZ)
  | (go_at_call 16; refine (all_lit g87 AZ cZ w29 NZ.out CZ.out ?x3).mono ?_; (case x3 => exact Kd.C_below F87.out (below_step (Below.refl _ _) B29.out)); rintro e w30 ⟨rfl, hb⟩; have B30 := Aside0.mk hb; clear hb; have hm0 := cell_below (below_step (below_step (below_step (below_step (below_step (below_step (below_step (below_step (below_step (below_step (below_step (below_step (below_step (below_step (Below.refl _ _) B17.out) B18.out) B19.out) B20.out) B21.out) B22.out) B23.out) B24.out) B25.out) B26.out) B27.out) B28.out) B29.out) B30.out) M0.out; have hm1 := cell_below (below_step (below_step (below_step (below_step (below_step (below_step (below_step (below_step (below_step (below_step (below_step (below_step (below_step (below_step (Below.refl _ _) B17.out) B18.out) B19.out) B20.out) B21.out) B22.out) B23.out) B24.out) B25.out) B26.out) B27.out) B28.out) B29.out) B30.out) M1.out; have hk0 := cell_below (below_step (below_step (below_step (below_step (below_step (Below.refl _ _) B26.out) B27.out) B28.out) B29.out) B30.out) K0.out; have hk1 := cell_below (below_step (below_step (below_step (below_step (below_step (Below.refl _ _) B26.out) B27.out) B28.out) B29.out) B30.out) K1.out))
 go_ret; exact ⟨rfl, (below_step (below_step (below_step (below_step (below_step (below_step (below_step (below_step (below_step (below_step (below_step (below_step (below_step (below_step (below_step (below_step (below_step (below_step (below_step (below_step (below_step (below_step (below_step (below_step (below_step (below_step (below_step (below_step (below_step (below_step (Below.refl _ _) B1.out) B2.out) B3.out) B4.out) B5.out) B6.out) B7.out) B8.out) B9.out) B10.out) B11.out) B12.out) B13.out) B14.out) B15.out) B16.out) B17.out) B18.out) B19.out) B20.out) B21.out) B22.out) B23.out) B24.out) B25.out) B26.out) B27.out) B28.out) B29.out) B30.out)⟩
end Lives
def dioramalaw36_lives.f : Option Bool := some true
theorem dioramalaw36_lives.calls (r : Bool) (w : World) (h : dioramalaw36_lives.f = some r) : Calls Try.prog 18 #[] w fun e w' => e = .returned (.bool r) ∧ Below w.heap.size w w' := by
 obtain rfl := Option.some.inj h; exact Lives.calls w
end Go.Proofs.Ytcgpemefmakjiaa.PX
namespace Go.Proofs.Ytcgpemefmakjiaa.PX
open Go.RowKit Go.Proofs.YtcgpemefmakjiaaW.PrintWords Go.Proofs.YtcgpemefmakjiaaW.PrintLast Go.Proofs.YtcgpemefmakjiaaW.PrintMore
set_option linter.unusedVariables false
set_option linter.unusedSimpArgs false
theorem p63 : (2 : Int) ^ 63 = 9223372036854775808 := by simp
theorem or_byte (x y : Int) (h0 : 0 ≤ x) (h1 : x < 36028797018963968) (h2 : 0 ≤ y) (h3 : y < 256) : bits .or .u64 (IntKind.u64.wrap (x * 256)) (IntKind.u64.wrap y) = x * 256 + y := by
 rw [wrap_u64 (x * 256) (by omega) (by omega), wrap_u64 y (by omega) (by omega)]
 have hk : ∀ n : Int, 0 ≤ n → n < 2 ^ 63 → IntKind.u64.wrap n = n := fun n a b => by
  rw [p63] at b; exact wrap_u64 n a (by omega)
 refine bits_join .u64 63 (by decide) hk 8 _ _ (by omega) ?_ (by rw [p63]; omega) (by omega) ?_ (by rw [p63]; omega); (· simp only [Int.reducePow]; omega); (· simp only [Int.reducePow]; omega)
theorem byte_row_at {w : World} {A : Option Addr} {n : Nat} {xs : List Int} (h : Kd.C (Kd.int .u8) w A n xs) (k : Nat) (hk : k < n) : ∃ ad, A = some ad ∧ w.cell? (ad.add k) = some (.int .u8 (rd xs k)) := by
 obtain ⟨ad, c, e, _, hK, hc0⟩ := Kd.C_get h (0 : Int) (k : Int) (by omega) (by omega); have hK' : c = [.int .u8 (rd xs k)] := hK; subst hK'; have := hc0 0 _ rfl; exact ⟨ad, e, by simpa [Kd.int, Kd.scalar] using this⟩
theorem intR_len (n : Int) : (intR n).length = nb (mag n) + 1 := by simp [intR, byt]
theorem intR_zero (n : Int) (rest : List Int) : rd (intR n ++ rest) 0 = flp n (128 + nb (mag n)) := rfl
theorem intR_at (n : Int) (rest : List Int) (i : Nat) (h : i < nb (mag n)) : rd (intR n ++ rest) ((i + 1 : Nat) : Int) = flp n (mag n / 256 ^ (nb (mag n) - 1 - i) % 256) := by
 simp only [rd, List.getD_eq_getElem?_getD, Int.toNat_natCast]; rw [List.getElem?_append_left (by rw [intR_len]; omega)]
 simp [intR, byt, h]
theorem mag_step (m : Int) (hm : 0 ≤ m) (q : Nat) : m / 256 ^ (q + 1) * 256 + m / 256 ^ q % 256 = m / 256 ^ q := by
 have h : m / 256 ^ (q + 1) = m / 256 ^ q / 256 := by
  rw [Int.pow_succ, Int.ediv_ediv_of_nonneg (Int.pow_nonneg (by decide))]
 rw [h]; omega
theorem top_byte (m : Int) (hm : 0 ≤ m) (K : Nat) (hK : 0 < K) (h0 : ¬m < 256 ^ (K - 1)) (h1 : m < 256 ^ K) : 1 ≤ m / 256 ^ (K - 1) ∧ m / 256 ^ (K - 1) < 256 := by
 obtain ⟨q, rfl⟩ : ∃ q, K = q + 1 := ⟨K - 1, by omega⟩; rw [Nat.add_sub_cancel] at h0 ⊢; have hp : (0 : Int) < 256 ^ q := Int.pow_pos (by decide); refine ⟨(Int.le_ediv_iff_mul_le hp).2 (by omega), Int.ediv_lt_of_lt_mul hp ?_⟩; rw [Int.pow_succ, Int.mul_comm] at h1; exact h1
theorem top_small (m : Int) (h0 : 0 ≤ m) (h1 : m < 9223372036854775808) (q : Nat) : m / 256 ^ (q + 1) < 36028797018963968 := by
 rw [Int.pow_succ, Int.mul_comm, ← Int.ediv_ediv_of_nonneg (by decide)]; refine Int.lt_of_le_of_lt (Int.ediv_le_self _ (Int.ediv_nonneg h0 (by decide))) ?_; omega
end Go.Proofs.Ytcgpemefmakjiaa.PX
namespace Go.Proofs.Ytcgpemefmakjiaa.PX
open Go.RowKit Go.Proofs.YtcgpemefmakjiaaW.PrintWords Go.Proofs.YtcgpemefmakjiaaW.PrintLast Go.Proofs.YtcgpemefmakjiaaW.PrintMore
set_option linter.unusedVariables false
set_option linter.unusedSimpArgs false
set_option maxHeartbeats 2000000 in
set_option maxRecDepth 100000 in
theorem getint_any (n : Int) (hn : in64 n = true) (rest b : List Int) (hb : b = intR n ++ rest) (A : Option Addr) (c : Nat) (w : World) (hr : Kd.C (Kd.int .u8) w A b.length b) (hc : b.length ≤ c) (hl : b.length ≤ 1000000000000) :
  Calls Try.prog 29 #[.slice A b.length c] w fun e w' => e = .returned (.tuple #[.int .i64 n, .int .i64 (nb (mag n) + 1 : Nat), .int .i64 0]) ∧ w = w' := by
 obtain ⟨hm0, hm1⟩ := mag_bd n hn; have HN := Aside0.mk ((in64_iff).1 hn)
 have hbl : b.length = nb (mag n) + 1 + rest.length := by rw [hb, List.length_append, intR_len]
 have hz : rd b 0 = flp n (128 + nb (mag n)) := by rw [hb]; exact intR_zero n rest
 have HAT := Aside0.mk (fun (i : Nat) (h : i < nb (mag n)) => (show rd b ((i + 1 : Nat) : Int) = flp n (mag n / 256 ^ (nb (mag n) - 1 - i) % 256) by rw [hb]; exact intR_at n rest i h)); have HP := Aside0.mk (fun j hj => nb_pow (mag n) (by omega) j hj); have h8 := nb_le (mag n); obtain ⟨ad, e, hx0⟩ := byte_row_at hr 0 (by omega); subst e; have HR := Aside0.mk hr
 have hrow : ∀ k : Nat, k < b.length → w.cell? (ad.add k) = some (.int .u8 (rd b k)) := fun k hk => by
  obtain ⟨ad', e, h⟩ := byte_row_at HR.out k hk
  cases e
  exact h
 have HROW := Aside0.mk hrow; clear hrow hr hn hb; obtain ⟨K, hK⟩ : ∃ K, K = nb (mag n) := ⟨_, rfl⟩; rw [← hK] at hbl hz h8 HAT HP ⊢; have HK := Aside0.mk hK; clear hK; rw [show ((0 : Nat) : Int) = 0 from rfl, hz] at hx0; rw [Addr.add_zero'] at hx0
 have hlen1 : 1 ≤ b.length := by omega
 have hlenK : K + 1 ≤ b.length := by omega
 have hq0 : ((b.length : Int) == 0) = false := beq_eq_false_iff_ne.2 (by omega); have hqK : decide ((b.length : Int) ≤ (K : Int)) = false := decide_eq_false (by omega); have hK8 : decide ((K : Int) > 8) = false := decide_eq_false (by omega); clear hz hbl
 go_enter Try.func29, Try.ntmps29
 by_cases h0 : n < 0
 ·have ef : flp n (128 + (K : Int)) = 127 - K := by unfold flp; rw [if_pos h0]; omega
  rw [ef] at hx0; clear ef; have c1 : decide ((127 - (K : Int)) < 128) = true := decide_eq_true (by omega)
  go_upto_region 7 with (fail)
  have e6 : wrap64 (wrap64 (bits .xor .u8 (127 - (K : Int)) 255) - 128) = K := by
   rw [(xor_byte (127 - (K : Int)) (by omega) (by omega)).1]; unfold wrap64; omega
  rw [e6]; clear e6
  by_cases hK0 : 0 < K
  ·have g1 : decide ((K : Int) > 0) = true := decide_eq_true (by omega)
   have hB0 := HAT.out 0 hK0; rw [show ((0 + 1 : Nat) : Int) = 1 from rfl, show K - 1 - 0 = K - 1 by omega] at hB0; have hBp : 1 ≤ mag n / 256 ^ (K - 1) ∧ mag n / 256 ^ (K - 1) < 256 := top_byte _ hm0 K hK0 (by have := HP.out (K - 1) (by omega); omega) (by have := (HP.out K h8).1 (Nat.le_refl _); exact this); have hx1 := HROW.out 1 (by omega); rw [show ((1 : Nat) : Int) = 1 from rfl, hB0] at hx1
   have hfl : flp n (mag n / 256 ^ (K - 1) % 256) = 255 - mag n / 256 ^ (K - 1) := by unfold flp; rw [if_pos h0]; omega
   rw [hfl] at hx1; clear hfl hB0; generalize mag n / 256 ^ (K - 1) = B at hBp hx1; have g2 : (bits .xor .u8 (255 - B) 255 == 0) = false := beq_eq_false_iff_ne.2 (by rw [(xor_byte (255 - B) (by omega) (by omega)).1]; omega); replace hx1 : w.cell? { block := ad.block, off := ad.off + 1 } = some (.int .u8 (255 - B)) := hx1; clear hx0 c1; go_wp2
   all_goals try (exfalso; omega)
   go_loopw [7, 48] (fun u v wr => ∃ j : Nat, j ≤ K ∧ u = .int .u64 (mag n / 256 ^ (K - j)) ∧ v = .int .i64 j ∧ w = wr) (fun _ v _ => K - (intOf v).toNat)
   case atStart =>
    refine ⟨0, Nat.zero_le _, ?_, rfl, rfl⟩; rw [Nat.sub_zero, Int.ediv_eq_zero_of_lt hm0 ((HP.out K h8).1 (Nat.le_refl _))]
   case round =>
    obtain ⟨j, hj, rfl, rfl, rfl⟩ := hrel
    by_cases hjK : j < K
    ·have d1 : decide ((j : Int) < (K : Int)) = true := decide_eq_true (by omega)
     have hB := HAT.out j hjK; have hxj := HROW.out (j + 1) (by omega); rw [hB, show ad.add (j + 1) = { block := ad.block, off := ad.off + 1 + j } by unfold Addr.add; rw [if_neg (by omega), show ad.off + (j + 1) = ad.off + 1 + j by omega]] at hxj; clear hB; go_wp2
     go_roundw
     case rel =>
      refine ⟨j + 1, by omega, congrArg (Value.int .u64) ?_, by go_num, by first | rfl | trivial⟩
      have hfl : flp n (mag n / 256 ^ (K - 1 - j) % 256) = 255 - mag n / 256 ^ (K - 1 - j) % 256 := by unfold flp; rw [if_pos h0]
      rw [hfl, (xor_byte (255 - mag n / 256 ^ (K - 1 - j) % 256) (by omega) (by omega)).1, show 255 - (255 - mag n / 256 ^ (K - 1 - j) % 256) = mag n / 256 ^ (K - 1 - j) % 256 by omega]
      have e1 : K - j = K - 1 - j + 1 := by omega
      have e2 : K - (j + 1) = K - 1 - j := by omega
      rw [e1, e2, or_byte _ _ (Int.ediv_nonneg hm0 (Int.pow_nonneg (by decide))) (top_small _ hm0 hm1 _) (by omega) (by omega), mag_step _ hm0]
     case measure => simp [intOf] <;> omega
    ·have hje : j = K := by omega
     subst hje; have d1 : decide ((j : Int) < (j : Int)) = false := decide_eq_false (by omega)
     have HE := Aside0.mk (show wrap64 (bits .xor .u64 IntKind.u64.max (mag n)) = n by
      rw [show IntKind.u64.max = 18446744073709551615 by decide, xor_ones _ hm0 (by omega)]; unfold wrap64 mag; rw [if_pos h0]; have := HN.out
      omega)
     go_wp2; rw [HE.out]
     go_ret3
     exact ⟨rfl, rfl⟩
  ·have g1 : decide ((K : Int) > 0) = false := decide_eq_false (by omega)
   have hm : mag n < 1 := (HP.out 0 (by decide)).1 (by omega)
   have hK' : K = 0 := by omega
   have hbe : decide (b = []) = false := decide_eq_false (by rintro rfl; simp at hlen1)
   have hn1 : n = -1 := by
    unfold mag at hm; rw [if_pos h0] at hm; omega
   clear hx0 c1; go_wp2
   all_goals try (exfalso; simp_all; done)
   all_goals
    go_loopw [7, 48] (fun u v wr => u = .int .u64 0 ∧ v = .int .i64 0 ∧ w = wr) (fun _ _ _ => 0)
    case atStart => exact ⟨rfl, rfl, rfl⟩
    case round =>
     obtain ⟨rfl, rfl, rfl⟩ := hrel
     have HE := Aside0.mk (show wrap64 (bits .xor .u64 IntKind.u64.max 0) = -1 by
      rw [show IntKind.u64.max = 18446744073709551615 by decide, xor_ones _ (by decide) (by decide)]; unfold wrap64
      omega)
     go_wp2; rw [HE.out]
     go_ret3
     exact ⟨rfl, rfl⟩
 ·have ef : flp n (128 + (K : Int)) = 128 + K := by unfold flp; rw [if_neg (by omega)]
  rw [ef] at hx0; clear ef; have c1 : decide ((128 + (K : Int)) < 128) = false := decide_eq_false (by omega)
  go_upto_region 7 with (fail)
  have e6 : wrap64 (wrap64 (bits .xor .u8 (128 + (K : Int)) 0) - 128) = K := by
   rw [(xor_byte (128 + (K : Int)) (by omega) (by omega)).2]; unfold wrap64; omega
  rw [e6]; clear e6
  by_cases hK0 : 0 < K
  ·have g1 : decide ((K : Int) > 0) = true := decide_eq_true (by omega)
   have hB0 := HAT.out 0 hK0; rw [show ((0 + 1 : Nat) : Int) = 1 from rfl, show K - 1 - 0 = K - 1 by omega] at hB0; have hBp : 1 ≤ mag n / 256 ^ (K - 1) ∧ mag n / 256 ^ (K - 1) < 256 := top_byte _ hm0 K hK0 (by have := HP.out (K - 1) (by omega); omega) (by have := (HP.out K h8).1 (Nat.le_refl _); exact this); have hx1 := HROW.out 1 (by omega); rw [show ((1 : Nat) : Int) = 1 from rfl, hB0] at hx1
   have hfl : flp n (mag n / 256 ^ (K - 1) % 256) = mag n / 256 ^ (K - 1) := by unfold flp; rw [if_neg (by omega)]; omega
   rw [hfl] at hx1; clear hfl hB0; generalize mag n / 256 ^ (K - 1) = B at hBp hx1; have g2 : (bits .xor .u8 B 0 == 0) = false := beq_eq_false_iff_ne.2 (by rw [(xor_byte B (by omega) (by omega)).2]; omega); replace hx1 : w.cell? { block := ad.block, off := ad.off + 1 } = some (.int .u8 B) := hx1; clear hx0 c1; go_wp2
   all_goals try (exfalso; omega)
   go_loopw [7, 48] (fun u v wr => ∃ j : Nat, j ≤ K ∧ u = .int .u64 (mag n / 256 ^ (K - j)) ∧ v = .int .i64 j ∧ w = wr) (fun _ v _ => K - (intOf v).toNat)
   case atStart =>
    refine ⟨0, Nat.zero_le _, ?_, rfl, rfl⟩; rw [Nat.sub_zero, Int.ediv_eq_zero_of_lt hm0 ((HP.out K h8).1 (Nat.le_refl _))]
   case round =>
    obtain ⟨j, hj, rfl, rfl, rfl⟩ := hrel
    by_cases hjK : j < K
    ·have d1 : decide ((j : Int) < (K : Int)) = true := decide_eq_true (by omega)
     have hB := HAT.out j hjK; have hxj := HROW.out (j + 1) (by omega); rw [hB, show ad.add (j + 1) = { block := ad.block, off := ad.off + 1 + j } by unfold Addr.add; rw [if_neg (by omega), show ad.off + (j + 1) = ad.off + 1 + j by omega]] at hxj; clear hB; go_wp2
     go_roundw
     case rel =>
      refine ⟨j + 1, by omega, congrArg (Value.int .u64) ?_, by go_num, by first | rfl | trivial⟩
      have hfl : flp n (mag n / 256 ^ (K - 1 - j) % 256) = mag n / 256 ^ (K - 1 - j) % 256 := by unfold flp; rw [if_neg (by omega)]
      rw [hfl, (xor_byte (mag n / 256 ^ (K - 1 - j) % 256) (by omega) (by omega)).2]
      have e1 : K - j = K - 1 - j + 1 := by omega
      have e2 : K - (j + 1) = K - 1 - j := by omega
      rw [e1, e2, or_byte _ _ (Int.ediv_nonneg hm0 (Int.pow_nonneg (by decide))) (top_small _ hm0 hm1 _) (by omega) (by omega), mag_step _ hm0]
     case measure => simp [intOf] <;> omega
    ·have hje : j = K := by omega
     subst hje; have d1 : decide ((j : Int) < (j : Int)) = false := decide_eq_false (by omega); have HE := Aside0.mk (show mag n = n from if_neg (by omega)); go_wp2; rw [HE.out]
     go_ret3
     exact ⟨rfl, rfl⟩
  ·have g1 : decide ((K : Int) > 0) = false := decide_eq_false (by omega)
   have hm : mag n < 1 := (HP.out 0 (by decide)).1 (by omega)
   have hK' : K = 0 := by omega
   have hbe : decide (b = []) = false := decide_eq_false (by rintro rfl; simp at hlen1)
   have hn1 : n = 0 := by
    unfold mag at hm; rw [if_neg (by omega)] at hm; omega
   clear hx0 c1; go_wp2
   all_goals try (exfalso; simp_all; done)
   all_goals
    go_loopw [7, 48] (fun u v wr => u = .int .u64 0 ∧ v = .int .i64 0 ∧ w = wr) (fun _ _ _ => 0)
    case atStart => exact ⟨rfl, rfl, rfl⟩
    case round =>
     obtain ⟨rfl, rfl, rfl⟩ := hrel; go_wp2
     go_ret3
     exact ⟨by rw [hn1, hK'] <;> rfl, rfl⟩
def dec (l : List Int) : Int :=
 if rd l 0 < 128 then -1 - ((l.drop 1).take (127 - rd l 0).toNat).foldl (fun m c => m * 256 + (255 - c)) 0 else ((l.drop 1).take (rd l 0 - 128).toNat).foldl (fun m c => m * 256 + c) 0
def wire_GetInt.f (l0 : List Int) : Option (Int × Int × Int) :=
 if in64 (dec l0) = true ∧ intR (dec l0) ++ l0.drop (intR (dec l0)).length = l0 ∧ l0.length ≤ 1000000000000 then some (dec l0, ((nb (mag (dec l0)) + 1 : Nat) : Int), 0) else none
theorem wire_GetInt.calls (A0 : Option Addr) (c0 : Nat) (l0 : List Int) (r1 : Int) (r2 : Int) (r3 : Int) (w : World) (hr0 : Kd.C (Kd.int .u8) w A0 l0.length l0) (hc0 : l0.length ≤ c0) (h : wire_GetInt.f l0 = some (r1, r2, r3)) :
  Calls Try.prog 29 #[.slice A0 l0.length c0] w fun e w' => e = .returned (.tuple #[.int .i64 r1, .int .i64 r2, .int .i64 r3]) ∧ Below w.heap.size w w' := by
 unfold wire_GetInt.f at h
 split at h
 ·next hs =>
  obtain ⟨h1, h2, h3⟩ := hs; simp only [Option.some.injEq, Prod.mk.injEq] at h; obtain ⟨rfl, rfl, rfl⟩ := h
  refine (getint_any (dec l0) h1 _ l0 h2.symm A0 c0 w hr0 hc0 h3).mono fun e w' ⟨he, hw⟩ => ?_
  subst hw; exact ⟨he, Below.refl _ _⟩
 ·cases h
theorem fold_byt (n : Int) (f : Int → Int → Int) (hf : ∀ m x, 0 ≤ x → x < 256 → f m (flp n x) = m * 256 + x) (K : Nat) (h0 : 0 ≤ mag n) (hK : mag n < 256 ^ K) : ∀ j, j ≤ K → (byt n K j).foldl f 0 = mag n / 256 ^ (K - j)
 | 0, _ => by
  rw [Nat.sub_zero, Int.ediv_eq_zero_of_lt h0 hK]; rfl
 | j + 1, hj => by
  rw [byt_succ, List.foldl_append, fold_byt n f hf K h0 hK j (by omega)]
  show f _ _ = _
  rw [hf _ _ (by omega) (by omega), show K - j = (K - 1 - j) + 1 by omega, show K - (j + 1) = K - 1 - j by omega, mag_step _ h0]
theorem dec_at (n : Int) (hn : in64 n = true) (rest : List Int) : dec (intR n ++ rest) = n := by
 obtain ⟨hm0, hm1⟩ := mag_bd n hn; have h8 := nb_le (mag n); have hp := (nb_pow (mag n) (by omega) (nb (mag n)) h8).1 (Nat.le_refl _)
 have e : ∀ i : Int, i = nb (mag n) → ((intR n ++ rest).drop 1).take i.toNat = byt n (nb (mag n)) (nb (mag n)) := by
  rintro i rfl
  show (byt n (nb (mag n)) (nb (mag n)) ++ rest).take _ = _
  rw [Int.toNat_natCast, List.take_left' (by simp [byt])]
 unfold dec; rw [intR_zero]
 by_cases h : n < 0
 ·have hf : flp n (128 + (nb (mag n) : Int)) = 127 - nb (mag n) := by unfold flp; rw [if_pos h]; omega
  rw [hf, if_pos (by omega), e _ (by omega), fold_byt n _ (fun m x _ _ => by unfold flp; rw [if_pos h]; omega) _ hm0 hp _ (Nat.le_refl _), Nat.sub_self]; unfold mag; rw [if_pos h]
  simp
  omega
 ·have hf : flp n (128 + (nb (mag n) : Int)) = 128 + nb (mag n) := by unfold flp; rw [if_neg h]
  rw [hf, if_neg (by omega), e _ (by omega), fold_byt n _ (fun m x _ _ => by unfold flp; rw [if_neg h]) _ hm0 hp _ (Nat.le_refl _), Nat.sub_self]; unfold mag; rw [if_neg h]
  simp
theorem getInt_at (n : Int) (hn : in64 n = true) (rest : List Int) (hl : (intR n ++ rest).length ≤ 1000000000000) : wire_GetInt.f (intR n ++ rest) = some (n, ((nb (mag n) + 1 : Nat) : Int), 0) := by
 unfold wire_GetInt.f; rw [dec_at n hn rest, if_pos ⟨hn, by rw [List.drop_left], hl⟩]
end Go.Proofs.Ytcgpemefmakjiaa.PX
namespace Go.Proofs.Ytcgpemefmakjiaa.PX
open Go.RowKit Go.Proofs.YtcgpemefmakjiaaW.PrintWords Go.Proofs.YtcgpemefmakjiaaW.PrintLast Go.Proofs.YtcgpemefmakjiaaW.PrintMore
attribute [local go_sem] max2_int min2_int max_two min_two max_three min_three max_four min_four   -- for this text's walks alone
set_option linter.unusedVariables false
set_option linter.unusedSimpArgs false
def wire_count.f (l0 : List Int) (a1 : Int) : Option (Int × Int × Int) := (wire_GetInt.f l0).bind fun bt616 => (if bt616.2.2 = 0 then (if bt616.1 < 0 then (some (bt616.1, bt616.2.1, 2)) else (if a1 = 0 then (none) else (if bt616.1 > (wrap64 (Int.tdiv (wrap64 ((l0.length : Int) - bt616.2.1)) a1)) then (some (bt616.1, bt616.2.1, 3)) else (some (bt616.1, bt616.2.1, bt616.2.2))))) else (some (bt616.1, bt616.2.1, bt616.2.2)))
set_option maxHeartbeats 8000000 in
set_option maxRecDepth 100000 in
theorem wire_count.calls (A0 : Option Addr) (c0 : Nat) (l0 : List Int) (a1 : Int) (r1 : Int) (r2 : Int) (r3 : Int) (w : World) (hr0 : Kd.C (Kd.int .u8) w A0 l0.length l0) (hc0 : l0.length ≤ c0) (h : wire_count.f l0 a1 = some (r1, r2, r3)) :
  Calls Try.prog 52 #[.slice A0 l0.length c0, .int .i64 a1] w fun e w' => e = .returned (.tuple #[.int .i64 r1, .int .i64 r2, .int .i64 r3]) ∧ Below w.heap.size w w' := by
 have HR0 := Aside0.mk hr0; have HC0 := Aside0.mk hc0; clear hr0 hc0; have HB := Aside0.mk (Below.refl w.heap.size w); have H : ((wire_GetInt.f l0).bind fun bt616 => (if bt616.2.2 = 0 then (if bt616.1 < 0 then (some (bt616.1, bt616.2.1, 2)) else (if a1 = 0 then (none) else (if bt616.1 > (wrap64 (Int.tdiv (wrap64 ((l0.length : Int) - bt616.2.1)) a1)) then (some (bt616.1, bt616.2.1, 3)) else (some (bt616.1, bt616.2.1, bt616.2.2))))) else (some (bt616.1, bt616.2.1, bt616.2.2)))) = some (r1, r2, r3) := h; clear h; replace H := Option.bind_eq_some_iff.mp H; obtain ⟨⟨t616, t617, t618⟩, A30, H⟩ := H; replace H : (if t618 = 0 then (if t616 < 0 then (some (t616, t617, 2)) else (if a1 = 0 then (none) else (if t616 > (wrap64 (Int.tdiv (wrap64 ((l0.length : Int) - t617)) a1)) then (some (t616, t617, 3)) else (some (t616, t617, t618))))) else (some (t616, t617, t618))) = some (r1, r2, r3) := H; have A3 := Aside0.mk A30; clear A30
 by_cases c4 : t618 = 0
 ·rw [if_pos c4] at H
  have c4b0 : (t618 == 0) = true := beq_iff_eq.mpr c4; have c4b1 : (t618 != 0) = false := bne_eq_false_iff_eq.mpr c4; clear c4
  by_cases c5 : t616 < 0
  ·rw [if_pos c5] at H
   have c5b0 : decide (t616 < 0) = true := decide_eq_true c5; clear c5; simp only [Option.some.injEq, Prod.mk.injEq] at H; obtain ⟨rfl, rfl, rfl⟩ := H
   go_enter Try.func52, Try.ntmps52
   go_wp2_with (first | ((with_reducible refine gate_callee (f := 29) rfl ?_); refine goesL_ (some 9) rfl rfl Try.func29 (by kernel_rfl) rfl #[.slice A0 l0.length c0] rfl (by (try simp only [List.map_toArray, List.map_cons, List.map_nil]); first | done | rfl | (simp only [List.length_drop, List.length_take]; rfl)) ?_; (with_reducible refine (wire_GetInt.calls _ _ l0 t616 t617 t618 _ ?side1 ?side2 A3.out).mono ?_); (case side1 => repeat (first | exact HR0.out | (with_reducible refine Kd.C_alloc ?_ _) | (with_reducible refine Kd.C_drewN ?_ _) | (with_reducible refine Kd.C_drew ?_))); (case side2 => exact HC0.out); rintro e w6 ⟨rfl, hb⟩; refine ⟨_, rfl, ?_⟩; have n0_ := Aside0.mk (below_step (by repeat (first | (with_reducible first | exact HB.out | apply below_alloc | apply pw_below_drewN | apply below_drew1) | exact HB.out)) hb); clear HB; have HB := n0_; clear n0_; (try clear hb); (try clear hb2); (try clear hk); (try clear hi)))
   go_ret3
   exact ⟨by first | rfl | (simp [errW_none, errW_some] <;> rfl) | (simp [*, errW_none, errW_some] <;> rfl), by repeat (first | (with_reducible first | exact HB.out | apply below_alloc | apply pw_below_drewN | apply below_drew1) | exact HB.out)⟩
  ·rw [if_neg c5] at H
   have c5b0 : decide (t616 < 0) = false := decide_eq_false c5; clear c5
   by_cases c7 : a1 = 0
   (· rw [if_pos c7] at H; exact absurd H (by simp))
   ·rw [if_neg c7] at H
    have c7b0 : (a1 == 0) = false := beq_eq_false_iff_ne.mpr c7; have c7b1 : (a1 != 0) = true := bne_iff_ne.mpr c7
    by_cases c8 : t616 > (wrap64 (Int.tdiv (wrap64 ((l0.length : Int) - t617)) a1))
    ·rw [if_pos c8] at H
     have c8b0 : decide ((wrap64 (Int.tdiv (wrap64 ((l0.length : Int) - t617)) a1)) < t616) = true := decide_eq_true c8; clear c8; simp only [Option.some.injEq, Prod.mk.injEq] at H; obtain ⟨rfl, rfl, rfl⟩ := H
     go_enter Try.func52, Try.ntmps52
     go_wp2_with (first | ((with_reducible refine gate_callee (f := 29) rfl ?_); refine goesL_ (some 9) rfl rfl Try.func29 (by kernel_rfl) rfl #[.slice A0 l0.length c0] rfl (by (try simp only [List.map_toArray, List.map_cons, List.map_nil]); first | done | rfl | (simp only [List.length_drop, List.length_take]; rfl)) ?_; (with_reducible refine (wire_GetInt.calls _ _ l0 t616 t617 t618 _ ?side1 ?side2 A3.out).mono ?_); (case side1 => repeat (first | exact HR0.out | (with_reducible refine Kd.C_alloc ?_ _) | (with_reducible refine Kd.C_drewN ?_ _) | (with_reducible refine Kd.C_drew ?_))); (case side2 => exact HC0.out); rintro e w9 ⟨rfl, hb⟩; refine ⟨_, rfl, ?_⟩; have n0_ := Aside0.mk (below_step (by repeat (first | (with_reducible first | exact HB.out | apply below_alloc | apply pw_below_drewN | apply below_drew1) | exact HB.out)) hb); clear HB; have HB := n0_; clear n0_; (try clear hb); (try clear hb2); (try clear hk); (try clear hi)))
     go_ret3
     exact ⟨by first | rfl | (simp [errW_none, errW_some] <;> rfl) | (simp [*, errW_none, errW_some] <;> rfl), by repeat (first | (with_reducible first | exact HB.out | apply below_alloc | apply pw_below_drewN | apply below_drew1) | exact HB.out)⟩
    ·rw [if_neg c8] at H
     have c8b0 : decide ((wrap64 (Int.tdiv (wrap64 ((l0.length : Int) - t617)) a1)) < t616) = false := decide_eq_false c8; clear c8; simp only [Option.some.injEq, Prod.mk.injEq] at H; obtain ⟨rfl, rfl, rfl⟩ := H
     go_enter Try.func52, Try.ntmps52
     go_wp2_with (first | ((with_reducible refine gate_callee (f := 29) rfl ?_); refine goesL_ (some 9) rfl rfl Try.func29 (by kernel_rfl) rfl #[.slice A0 l0.length c0] rfl (by (try simp only [List.map_toArray, List.map_cons, List.map_nil]); first | done | rfl | (simp only [List.length_drop, List.length_take]; rfl)) ?_; (with_reducible refine (wire_GetInt.calls _ _ l0 t616 t617 t618 _ ?side1 ?side2 A3.out).mono ?_); (case side1 => repeat (first | exact HR0.out | (with_reducible refine Kd.C_alloc ?_ _) | (with_reducible refine Kd.C_drewN ?_ _) | (with_reducible refine Kd.C_drew ?_))); (case side2 => exact HC0.out); rintro e w10 ⟨rfl, hb⟩; refine ⟨_, rfl, ?_⟩; have n0_ := Aside0.mk (below_step (by repeat (first | (with_reducible first | exact HB.out | apply below_alloc | apply pw_below_drewN | apply below_drew1) | exact HB.out)) hb); clear HB; have HB := n0_; clear n0_; (try clear hb); (try clear hb2); (try clear hk); (try clear hi)))
     go_ret3
     exact ⟨by first | rfl | (simp [errW_none, errW_some] <;> rfl) | (simp [*, errW_none, errW_some] <;> rfl), by repeat (first | (with_reducible first | exact HB.out | apply below_alloc | apply pw_below_drewN | apply below_drew1) | exact HB.out)⟩
 ·rw [if_neg c4] at H
  have c4b0 : (t618 == 0) = false := beq_eq_false_iff_ne.mpr c4; have c4b1 : (t618 != 0) = true := bne_iff_ne.mpr c4; simp only [Option.some.injEq, Prod.mk.injEq] at H; obtain ⟨rfl, rfl, rfl⟩ := H
  go_enter Try.func52, Try.ntmps52
  go_wp2_with (first | ((with_reducible refine gate_callee (f := 29) rfl ?_); refine goesL_ (some 9) rfl rfl Try.func29 (by kernel_rfl) rfl #[.slice A0 l0.length c0] rfl (by (try simp only [List.map_toArray, List.map_cons, List.map_nil]); first | done | rfl | (simp only [List.length_drop, List.length_take]; rfl)) ?_; (with_reducible refine (wire_GetInt.calls _ _ l0 t616 t617 t618 _ ?side1 ?side2 A3.out).mono ?_); (case side1 => repeat (first | exact HR0.out | (with_reducible refine Kd.C_alloc ?_ _) | (with_reducible refine Kd.C_drewN ?_ _) | (with_reducible refine Kd.C_drew ?_))); (case side2 => exact HC0.out); rintro e w11 ⟨rfl, hb⟩; refine ⟨_, rfl, ?_⟩; have n0_ := Aside0.mk (below_step (by repeat (first | (with_reducible first | exact HB.out | apply below_alloc | apply pw_below_drewN | apply below_drew1) | exact HB.out)) hb); clear HB; have HB := n0_; clear n0_; (try clear hb); (try clear hb2); (try clear hk); (try clear hi)))
  go_ret3
  exact ⟨by first | rfl | (simp [errW_none, errW_some] <;> rfl) | (simp [*, errW_none, errW_some] <;> rfl), by repeat (first | (with_reducible first | exact HB.out | apply below_alloc | apply pw_below_drewN | apply below_drew1) | exact HB.out)⟩
end Go.Proofs.Ytcgpemefmakjiaa.PX
namespace Go.Proofs.Ytcgpemefmakjiaa.PX
open Go.RowKit Go.Proofs.YtcgpemefmakjiaaW.PrintWords Go.Proofs.YtcgpemefmakjiaaW.PrintLast Go.Proofs.YtcgpemefmakjiaaW.PrintMore
set_option linter.unusedVariables false
set_option linter.unusedSimpArgs false
set_option maxHeartbeats 1000000 in
set_option maxRecDepth 100000 in
theorem next_calls (x : Int) (hx : in64 x = true) (p : Nat) (rest bs : List Int) (hbs : bs.drop p = intR x ++ rest) (b1 b2 : Nat) (A : Option Addr) (c : Nat) (w : World) (h1 : w.heap[b1]? = some (.cells #[.slice A bs.length c] 53 (0, 0))) (h2 : w.heap[b2]? = some (.cells #[.int .i64 p] 3 (0, 0)))
  (hr : Kd.C (Kd.int .u8) w A bs.length bs) (hc : bs.length ≤ c) (hl : bs.length ≤ 1000000000000) :
  Calls Try.prog 71 #[.pointer (some ⟨b1, 0, none⟩), .pointer (some ⟨b2, 0, none⟩)] w fun e w' => e = .returned (.tuple #[.int .i64 x, .int .i64 (p + (nb (mag x) + 1) : Nat), .int .i64 0]) ∧ ∃ nq, w' = (w.setCell ⟨b2, 0, none⟩ (.int .i64 (p + (nb (mag x) + 1) : Nat))).drewN nq := by
 have hlen : bs.length - p = nb (mag x) + 1 + rest.length := by
  have := congrArg List.length hbs; rw [List.length_drop, List.length_append, intR_len] at this; exact this
 obtain ⟨ad, e, _⟩ := byte_row_at hr 0 (by omega); subst e
 have hC : Kd.C (Kd.int .u8) w (some (ad.add p)) (bs.drop p).length (bs.drop p) := by
  have := Kd.C_drop (m := p) (c := c) hr (by omega) hc; rw [if_neg (by omega)] at this
  simpa [Kd.int, Kd.scalar] using this
 have hg := getint_any x hx rest (bs.drop p) hbs (some (ad.add p)) (c - p) w hC (by rw [List.length_drop]; omega) (by rw [List.length_drop]; omega); rw [List.length_drop] at hg; have HG := Aside0.mk hg; clear hg hC hr
 have hlt : p < bs.length := by omega
 have hpn : decide ((p : Int) ≤ bs.length) = true := decide_eq_true (by omega); have E := Aside0.mk (show wrap64 ((p : Int) + ((nb (mag x) : Int) + 1)) = ((p + (nb (mag x) + 1) : Nat) : Int) by unfold wrap64; omega); have HL := Aside0.mk hlen; clear hlen; have x1 := blk_cell h1 0; have x2 := blk_cell h2 0; have f2 := blk_frozen h2 0; have HX1 := Aside0.mk h1; have HX2 := Aside0.mk h2; clear h1 h2
 go_enter Try.func71, Try.ntmps71
 go_wp2_with (go_at_call 29; refine HG.out.mono ?_; rintro e w' ⟨rfl, rfl⟩)
 rw [E.out]
 go_quiet (fail)
 go_wp2
 go_ret3
 exact ⟨by first | rfl | (congr 1), nq, rfl⟩
def intsR (xs : List Int) : List Int := intR xs.length ++ (xs.map intR).flatten
def posR (xs : List Int) (j : Nat) : Nat := nb (mag xs.length) + 1 + ((xs.take j).map intR).flatten.length
theorem posR_succ (xs : List Int) (j : Nat) (h : j < xs.length) : posR xs (j + 1) = posR xs j + (nb (mag xs[j]) + 1) := by
 unfold posR; rw [List.take_succ_eq_append_getElem h, List.map_append, List.flatten_append, List.length_append]
 simp [intR_len]
 omega
theorem posR_len (xs : List Int) : posR xs xs.length = (intsR xs).length := by
 unfold posR intsR; rw [List.take_length, List.length_append, intR_len]
theorem drop_pos (xs rest : List Int) (j : Nat) (h : j < xs.length) : (intsR xs ++ rest).drop (posR xs j) = intR xs[j] ++ (((xs.drop (j + 1)).map intR).flatten ++ rest) := by
 have e : intsR xs ++ rest = (intR xs.length ++ ((xs.take j).map intR).flatten) ++ (intR xs[j] ++ (((xs.drop (j + 1)).map intR).flatten ++ rest)) := by
  unfold intsR
  conv => lhs; rw [← List.take_append_drop j xs, List.drop_eq_getElem_cons h, List.map_append, List.flatten_append, List.map_cons, List.flatten_cons, ← List.drop_eq_getElem_cons h, List.take_append_drop]
  simp only [List.append_assoc]
 rw [e, List.drop_left' (by rw [List.length_append, intR_len]; rfl)]
theorem flat_ge (xs : List Int) : xs.length ≤ ((xs.map intR).flatten).length := by
 induction xs with
 | nil => simp
 | cons x l ih =>
  rw [List.map_cons, List.flatten_cons, List.length_append, List.length_cons, intR_len]; omega
theorem count_at (xs rest : List Int) (hl : (intsR xs ++ rest).length ≤ 1000000000000) : wire_count.f (intsR xs ++ rest) 1 = some ((xs.length : Int), ((nb (mag xs.length) + 1 : Nat) : Int), 0) := by
 have hg := flat_ge xs; have hl' := hl; simp only [intsR, List.length_append, intR_len] at hl'; unfold wire_count.f; have hi : in64 (xs.length : Int) = true := in64_iff.2 ⟨by omega, by omega⟩
 have e : wire_GetInt.f (intsR xs ++ rest) = some ((xs.length : Int), ((nb (mag xs.length) + 1 : Nat) : Int), 0) := by
  unfold intsR; rw [List.append_assoc]; exact getInt_at _ hi _ (by rw [← List.append_assoc]; exact hl)
 rw [e, Option.bind_some, if_pos rfl, if_neg (by omega), if_neg (by decide), if_neg]
 show ¬ ((xs.length : Int) > _)
 rw [Int.tdiv_one]; simp only [intsR, List.length_append, intR_len]; unfold wrap64; omega
set_option maxHeartbeats 1000000 in
set_option maxRecDepth 100000 in
theorem reader_calls (A : Option Addr) (n c : Nat) (p : Int) (w : World) :
  Calls Try.prog 53 #[.slice A n c, .int .i64 p] w fun e w' => e = .returned (.func (.func 71) #[] #[.pointer (some ⟨w.heap.size, 0, none⟩), .pointer (some ⟨w.heap.size + 1, 0, none⟩)]) ∧ w' = (w.alloc (.cells #[.slice A n c] 53)).alloc (.cells #[.int .i64 p] 3) := by
 go_enter Try.func53, Try.ntmps53
 go_wp2; go_ret; exact ⟨by first | rfl | simp, by first | rfl | simp⟩
structure AtJ (A : Option Addr) (c b2 : Nat) (b xs : List Int) (w wr : World) (v : Value) (i j : Nat) : Prop where
 bx : wr.heap[b2]? = some (.cells #[.slice A b.length c] 53 (0, 0))
 ax : wr.heap[b2 + 1]? = some (.cells #[.int .i64 (posR xs i)] 3 (0, 0))
 row : Kd.R (Kd.int .i64) 3 wr w.heap.size (fun k => k ≠ b2 ∧ k ≠ b2 + 1) v (xs.take j)
 bel : Below w.heap.size w wr
theorem AtJ.start (A : Option Addr) (c : Nat) (b xs : List Int) (w w1 w2 : World) (hb : Below w.heap.size w w1) (h2 : w2 = (w1.alloc (.cells #[.slice A b.length c] 53)).alloc (.cells #[.int .i64 ((nb (mag xs.length) : Int) + 1)] 3)) : AtJ A c w1.heap.size b xs w w2 (.slice none 0 0) 0 0 := by
 subst h2; have hs : (w1.alloc (.cells #[.slice A b.length c] 53)).heap.size = w1.heap.size + 1 := Array.size_push ..; refine ⟨?_, ?_, Kd.R_nil _ _ _ _ _, ?_⟩; (· rw [Below.heap_alloc _ _ _ (by rw [hs]; omega), heap_alloc_new]); (· rw [← hs, heap_alloc_new]; rfl); (· exact (hb.alloc hb.size _).alloc (by rw [hs]; have := hb.size; omega) _)
theorem AtJ.set {A : Option Addr} {c b2 : Nat} {b xs : List Int} {w wr w' : World} {v : Value} {i j : Nat} (h : AtJ A c b2 b xs w wr v i j) (hle : w.heap.size ≤ b2) (nq k : Nat) (hk : k = posR xs (i + 1)) (hw : w' = (wr.setCell ⟨b2 + 1, 0, none⟩ (.int .i64 k)).drewN nq) : AtJ A c b2 b xs w w' v (i + 1) j := by
 subst hw; subst hk; exact ⟨(Below.heap_setCell _ _ _ _ (by simp)).trans h.bx, one_setCell h.ax, Kd.R_drewN (Kd.R_far h.row (fun k hk => hk.2) _) _, pw_below_drewN (h.bel.setCell (p := ⟨b2 + 1, 0, none⟩) (by show w.heap.size ≤ b2 + 1; omega) _) _⟩
theorem AtJ.app {A : Option Addr} {c b2 : Nat} {b xs : List Int} {w wr w' : World} {v v' : Value} {i j : Nat} (h : AtJ A c b2 b xs w wr v i j) (hj : j < xs.length) (hg : wr.grownBy w' v.ownBlock) (hr : Kd.R (Kd.int .i64) 3 w' w.heap.size (fun k => k ≠ b2 ∧ k ≠ b2 + 1) v' (xs.take j ++ [xs[j]])) (hb : Below w.heap.size w w') : AtJ A c b2 b xs w w' v' i (j + 1) :=
 ⟨blk_grown h.bx hg (fun e => (h.row.1 _ e.symm).1 rfl), blk_grown h.ax hg (fun e => (h.row.1 _ e.symm).2 rfl), by rw [List.take_succ_eq_append_getElem hj]; exact hr, hb⟩
set_option maxHeartbeats 1000000 in
set_option maxRecDepth 100000 in
theorem getints_any (xs : List Int) (hx : ∀ x ∈ xs, in64 x = true) (rest b : List Int) (hb : b = intsR xs ++ rest) (A : Option Addr) (c : Nat) (w : World) (hr : Kd.C (Kd.int .u8) w A b.length b) (hc : b.length ≤ c) (hl : b.length ≤ 1000000000000) :
  Calls Try.prog 30 #[.slice A b.length c] w fun e w' => ∃ v0_ : Value, e = .returned (.tuple #[v0_, .int .i64 (intsR xs).length, .int .i64 0]) ∧ Kd.R (Kd.int .i64) 3 w' w.heap.size (fun _ => True) v0_ xs ∧ Below w.heap.size w w' := by
 have hcnt : wire_count.f b 1 = some ((xs.length : Int), ((nb (mag xs.length) + 1 : Nat) : Int), 0) := by
  have hl' := hl; rw [hb] at hl' ⊢; exact count_at xs rest hl'
 have HCt := Aside0.mk (wire_count.calls A c b 1 _ _ _ w hr hc hcnt); clear hcnt
 have hxl : xs.length ≤ 1000000000000 := by
  have h1 := flat_ge xs; have h2 := hl; rw [hb, intsR, List.length_append, List.length_append] at h2; omega
 have HR := Aside0.mk hr; have HBs := Aside0.mk hb; clear hr hb
 go_enter Try.func30, Try.ntmps30
 go_wp2_with (first
  | (go_at_call 52; refine HCt.out.mono ?_; rintro e w1 ⟨rfl, hb1⟩; have HB1 := Aside0.mk hb1; clear hb1)
  | (go_at_call 53; refine (reader_calls A b.length c _ _).mono ?_; rintro e w2 ⟨rfl, hw2⟩; have HW2 := Aside0.mk hw2; clear hw2))
 obtain ⟨b2, hb2⟩ : ∃ b2, b2 = w1.heap.size := ⟨_, rfl⟩
 have hs1 : w1.heap.size + 1 = b2 + 1 := by rw [hb2]
 have HS := Aside0.mk (AtJ.start A c b xs w w1 w2 HB1.out HW2.out); have HLE := Aside0.mk (show w.heap.size ≤ b2 by rw [hb2]; exact HB1.out.size); rw [← hb2] at HS ⊢; clear HB1 HW2 hb2 hs1
 go_loopw [6, 9, 26] (fun u v t wr => ∃ j : Nat, j ≤ xs.length ∧ u = .int .i64 (posR xs j) ∧ t = .int .i64 j ∧ Aside0 (AtJ A c b2 b xs w wr v j j)) (fun _ _ t _ => xs.length - (intOf t).toNat)
 case atStart => exact ⟨0, Nat.zero_le _, by simp [posR], rfl, HS⟩
 case round =>
  clear HS; obtain ⟨j, hj, rfl, rfl, HS⟩ := hrel
  by_cases hlt : j < xs.length
  ·have HN := Aside0.mk (next_calls xs[j] (hx _ (List.getElem_mem hlt)) (posR xs j) _ b (by rw [HBs.out]; exact drop_pos xs rest j hlt) b2 (b2 + 1) A c _ HS.out.bx HS.out.ax (Kd.C_below HR.out HS.out.bel) hc hl)
   have HP := Aside0.mk (posR_succ xs j hlt)
   have HLN := Aside0.mk (show ((xs.take j).length + 1) * 8 ≤ 140737488355328 by
    rw [List.length_take]
    omega)
   go_wp2_with (first
    | (go_at_call 71; refine HN.out.mono ?_; rintro e w3 ⟨rfl, nq, hw3⟩; have HS3 := Aside0.mk (HS.out.set HLE.out nq _ HP.out.symm hw3); clear hw3)
    | ((with_reducible refine gate_builtin (b := .append) (xs := #[.tmp 37, .tmp 39]) rfl ?_); at_builtin; refine Kd.R_append (Kd.int .i64) (w0 := w) w.heap.size rfl (.tmp 37) (.tmp 39) 22 3 (.int .i64 0) 8 rfl Try.underlying22 info3 rfl (by decide) (by decide) u9 (xs.take j) xs[j] [.int .i64 xs[j]] (fun k => k ≠ b2 ∧ k ≠ b2 + 1) (fun _ => False) rfl rfl rfl (fun _ h => h.elim) (fun k hk => ?hf) HS3.out.row HS3.out.bel HS3.out.bel.size HLN.out ?_; (case hf => have h2 := blk_lt HS3.out.ax; omega); intro v7 w7 ho7 hb7 hg7 hat7; have HS7 := Aside0.mk (HS3.out.app hlt hg7 ho7 hb7); clear ho7 hb7 hg7 hat7))
   go_roundw
   case rel => exact ⟨j + 1, by omega, by rw [HP.out] <;> rfl, by go_num, HS7⟩
   case measure => simp [intOf] <;> omega
  ·have hje : j = xs.length := by omega
   subst hje; go_wp2
   go_ret3
   have hrow := HS.out.row; rw [List.take_length] at hrow; exact ⟨_, by rw [posR_len] <;> rfl, Kd.R_mono hrow (fun _ _ => trivial), HS.out.bel⟩
def decN : Nat → List Int → List Int
 | 0, _ => []
 | k + 1, l => dec l :: decN k (l.drop (nb (mag (dec l)) + 1))
def decs (l : List Int) : List Int := decN (dec l).toNat (l.drop (nb (mag (dec l)) + 1))
def wire_GetInts.f (l0 : List Int) : Option (List Int × Int × Int) :=
 if (decs l0).all in64 = true ∧ intsR (decs l0) ++ l0.drop (intsR (decs l0)).length = l0 ∧ l0.length ≤ 1000000000000 then some (decs l0, ((intsR (decs l0)).length : Int), 0) else none
theorem wire_GetInts.calls (A0 : Option Addr) (c0 : Nat) (l0 : List Int) (r1 : List Int) (r2 : Int) (r3 : Int) (w : World) (hr0 : Kd.C (Kd.int .u8) w A0 l0.length l0) (hc0 : l0.length ≤ c0) (h : wire_GetInts.f l0 = some (r1, r2, r3)) :
  Calls Try.prog 30 #[.slice A0 l0.length c0] w fun e w' => ∃ v0_ : Value, e = .returned (.tuple #[v0_, .int .i64 r2, .int .i64 r3]) ∧ Kd.R (Kd.int .i64) 3 w' w.heap.size (fun _ => True) v0_ r1 ∧ Below w.heap.size w w' := by
 unfold wire_GetInts.f at h
 split at h
 ·next hs =>
  obtain ⟨h1, h2, h3⟩ := hs; simp only [Option.some.injEq, Prod.mk.injEq] at h; obtain ⟨rfl, rfl, rfl⟩ := h; exact getints_any (decs l0) (fun x hx => List.all_eq_true.1 h1 x hx) _ l0 h2.symm A0 c0 w hr0 hc0 h3
 ·cases h
theorem decN_at : ∀ (xs rest : List Int), (∀ x ∈ xs, in64 x = true) → decN xs.length ((xs.map intR).flatten ++ rest) = xs
 | [], _, _ => rfl
 | x :: l, rest, h => by
  show dec _ :: decN l.length _ = _
  rw [List.map_cons, List.flatten_cons, List.append_assoc, dec_at x (h x List.mem_cons_self), List.drop_left' (intR_len x), decN_at l rest (fun y hy => h y (List.mem_cons_of_mem _ hy))]
theorem getInts_at (xs : List Int) (hx : ∀ x ∈ xs, in64 x = true) (rest : List Int) (hl : (intsR xs ++ rest).length ≤ 1000000000000) : wire_GetInts.f (intsR xs ++ rest) = some (xs, ((intsR xs).length : Int), 0) := by
 have hg := flat_ge xs; have hl' := hl; simp only [intsR, List.length_append, intR_len] at hl'; have hi : in64 (xs.length : Int) = true := in64_iff.2 ⟨by omega, by omega⟩
 have e : decs (intsR xs ++ rest) = xs := by
  unfold decs
  have e0 : intsR xs ++ rest = intR xs.length ++ ((xs.map intR).flatten ++ rest) := by unfold intsR; rw [List.append_assoc]
  rw [e0, dec_at _ hi, List.drop_left' (intR_len _), Int.toNat_natCast, decN_at xs rest hx]
 unfold wire_GetInts.f; rw [e, if_pos ⟨List.all_eq_true.2 hx, by rw [List.drop_left], hl⟩]
end Go.Proofs.Ytcgpemefmakjiaa.PX
namespace Go.Proofs.Ytcgpemefmakjiaa.PX
open Go.RowKit Go.Proofs.YtcgpemefmakjiaaW.PrintWords Go.Proofs.YtcgpemefmakjiaaW.PrintLast Go.Proofs.YtcgpemefmakjiaaW.PrintMore
attribute [local go_sem] max2_int min2_int max_two min_two max_three min_three max_four min_four   -- for this text's walks alone
set_option linter.unusedVariables false
set_option linter.unusedSimpArgs false
mutual
def dioramalaw36_DiffBytes.j0 : Nat → List (S61) → List Int → Int → Bool → Option (Bool)
 | 0, _, _, _, _ => none
 | k + 1, x6, x8, x10, x48 => if x48 = true then (some false) else (dioramalaw36_DiffBytes.l0 k x6 x8 x10 0)
def dioramalaw36_DiffBytes.l0 : Nat → List (S61) → List Int → Int → Int → Option (Bool)
 | 0, _, _, _, _ => none
 | k + 1, x6, x8, x10, x12 => if x12 < (x6.length : Int) then (if 0 ≤ x10 then (if x10 ≤ (x8.length : Int) then ((wire_GetInts.f (x8.drop (x10 : Int).toNat)).bind fun bt644 => (if bt644.2.2 = 0 then (if 0 ≤ x12 then ((dioramaref01_SameInts.f k bt644.1 (([(rd_T61 x6 x12).f0, (rd_T61 x6 x12).f1, (rd_T61 x6 x12).f2, (rd_T61 x6 x12).f3, (rd_T61 x6 x12).f4] : List Int))).bind fun t657 => (dioramalaw36_DiffBytes.j2 k x6 x8 x10 x12 bt644.2.1 (!t657))) else (none)) else (dioramalaw36_DiffBytes.j2 k x6 x8 x10 x12 bt644.2.1 true))) else (none)) else (none)) else (if x10 = (x8.length : Int) then ((dioramalaw36_lives.f).bind fun t638 => (some t638)) else (some false))
def dioramalaw36_DiffBytes.j2 : Nat → List (S61) → List Int → Int → Int → Int → Bool → Option (Bool)
 | 0, _, _, _, _, _, _ => none
 | k + 1, x6, x8, x10, x12, x14, x95 => if x95 = true then (some false) else (if 0 ≤ (wrap64 (x10 + x14)) then (if (wrap64 (x10 + x14)) ≤ (x8.length : Int) then ((wire_GetInts.f (x8.drop ((wrap64 (x10 + x14)) : Int).toNat)).bind fun bt663 => (if bt663.2.2 = 0 then (if 0 ≤ x12 then (if x12 < (x6.length : Int) then ((dioramaref01_SameInts.f k bt663.1 ((rd_T61 x6 x12).f5)).bind fun t669 => (if t669 = true then (dioramalaw36_DiffBytes.l0 k x6 x8 (wrap64 ((wrap64 (x10 + x14)) + bt663.2.1)) (wrap64 (x12 + 1))) else (some false))) else (none)) else (none)) else (some false))) else (none)) else (none))
end
def dioramalaw36_DiffBytes.f (k : Nat) (l0 : List Int) (l1 : List Int) : Option (Bool) := (dioramaref36_Shape.f k l0).bind fun t619 => ((dioramaref36_World.f k t619 l0).bind fun t622 => ((dioramaref36_World.f k t619 l1).bind fun t625 => ((diff_Diff.f t622 t625).bind fun bt628 => (if bt628.2 = 0 then ((diff_Encode.f k bt628.1).bind fun t632 => ((wire_GetInt.f t632).bind fun bt635 => (if bt635.2.2 = 0 then (dioramalaw36_DiffBytes.j0 k bt628.1 t632 bt635.2.1 (bt635.1 != (bt628.1.length : Int))) else (dioramalaw36_DiffBytes.j0 k bt628.1 t632 bt635.2.1 true)))) else (some false)))))
def dioramalaw36_DiffBytes.T13 : Bool × List (List Nat × List Nat) := (true, [([], []), ([0], [0]), ([1], [1]), ([2], [2]), ([2], [2]), ([2], [2]), ([4, 5, 2], [2, 4, 5]), ([6, 2], [2, 6]), ([7, 2], [2, 7]), ([2], [2]), ([2], [2]), ([9, 10, 2], [2, 9, 10]), ([11, 2], [2, 11]), ([12, 2], [2, 12]), ([2], [2]), ([2], [2]), ([14, 15, 2], [2, 14, 15]), ([16, 2], [2, 16]), ([17, 2], [2, 17]), ([2], [2]), ([2], [2]), ([19, 20, 2], [2, 19, 20]), ([21, 2], [2, 21]), ([22, 2], [2, 22]), ([2], [2]), ([2], [2]), ([24, 25, 2], [2, 24, 25]), ([26, 2], [2, 26]), ([27, 2], [2, 27]), ([8, 13, 18, 23, 28, 2], [2, 8, 13, 18, 23, 28]), ([3, 29, 2, 2], [2, 3, 29]), ([30, 2], [2, 30]), ([2, 31], [2, 31])])
def dioramalaw36_DiffBytes.B13 : List Nat := [0, 1, 3, 7, 7, 7, 55, 119, 247, 7, 7, 1543, 3591, 7687, 7, 7, 49159, 114695, 245767, 7, 7, 1572871, 3670023, 7864327, 7, 7, 50331655, 117440519, 251658247, 536870903, 1073741823, 2147483647, 4294967295]
theorem dioramalaw36_DiffBytes.tab13 : rtab .any (opsOf Try.f7 13) = dioramalaw36_DiffBytes.T13 := by kernel_rfl
theorem dioramalaw36_DiffBytes.bits13 : waitsOk dioramalaw36_DiffBytes.T13.2 dioramalaw36_DiffBytes.B13 = true := by kernel_rfl
set_option maxHeartbeats 8000000 in
set_option maxRecDepth 100000 in
theorem dioramalaw36_DiffBytes.calls (k : Nat) (A0 : Option Addr) (c0 : Nat) (l0 : List Int) (A1 : Option Addr) (c1 : Nat) (l1 : List Int) (r : Bool) (w : World) (hr0 : Kd.C (Kd.int .i64) w A0 l0.length l0) (hc0 : l0.length ≤ c0) (hr1 : Kd.C (Kd.int .i64) w A1 l1.length l1) (hc1 : l1.length ≤ c1) (h : dioramalaw36_DiffBytes.f k l0 l1 = some r) :
  Calls Try.prog 7 #[.slice A0 l0.length c0, .slice A1 l1.length c1] w fun e w' => e = .returned (.bool r) ∧ Below w.heap.size w w' := by
 have HR0 := Aside0.mk hr0; have HC0 := Aside0.mk hc0; clear hr0 hc0; have HR1 := Aside0.mk hr1; have HC1 := Aside0.mk hc1; clear hr1 hc1; have HB := Aside0.mk (Below.refl w.heap.size w); have H : ((dioramaref36_Shape.f k l0).bind fun t619 => ((dioramaref36_World.f k t619 l0).bind fun t622 => ((dioramaref36_World.f k t619 l1).bind fun t625 => ((diff_Diff.f t622 t625).bind fun bt628 => (if bt628.2 = 0 then ((diff_Encode.f k bt628.1).bind fun t632 => ((wire_GetInt.f t632).bind fun bt635 => (if bt635.2.2 = 0 then (dioramalaw36_DiffBytes.j0 k bt628.1 t632 bt635.2.1 (bt635.1 != (bt628.1.length : Int))) else (dioramalaw36_DiffBytes.j0 k bt628.1 t632 bt635.2.1 true)))) else (some false)))))) = some r := h; clear h; replace H := Option.bind_eq_some_iff.mp H; obtain ⟨t619, A30, H⟩ := H; replace H : ((dioramaref36_World.f k t619 l0).bind fun t622 => ((dioramaref36_World.f k t619 l1).bind fun t625 => ((diff_Diff.f t622 t625).bind fun bt628 => (if bt628.2 = 0 then ((diff_Encode.f k bt628.1).bind fun t632 => ((wire_GetInt.f t632).bind fun bt635 => (if bt635.2.2 = 0 then (dioramalaw36_DiffBytes.j0 k bt628.1 t632 bt635.2.1 (bt635.1 != (bt628.1.length : Int))) else (dioramalaw36_DiffBytes.j0 k bt628.1 t632 bt635.2.1 true)))) else (some false))))) = some r := H; have A3 := Aside0.mk A30; clear A30; replace H := Option.bind_eq_some_iff.mp H; obtain ⟨t622, A40, H⟩ := H; replace H : ((dioramaref36_World.f k t619 l1).bind fun t625 => ((diff_Diff.f t622 t625).bind fun bt628 => (if bt628.2 = 0 then ((diff_Encode.f k bt628.1).bind fun t632 => ((wire_GetInt.f t632).bind fun bt635 => (if bt635.2.2 = 0 then (dioramalaw36_DiffBytes.j0 k bt628.1 t632 bt635.2.1 (bt635.1 != (bt628.1.length : Int))) else (dioramalaw36_DiffBytes.j0 k bt628.1 t632 bt635.2.1 true)))) else (some false)))) = some r := H; have A4 := Aside0.mk A40; clear A40; replace H := Option.bind_eq_some_iff.mp H; obtain ⟨t625, A50, H⟩ := H; replace H : ((diff_Diff.f t622 t625).bind fun bt628 => (if bt628.2 = 0 then ((diff_Encode.f k bt628.1).bind fun t632 => ((wire_GetInt.f t632).bind fun bt635 => (if bt635.2.2 = 0 then (dioramalaw36_DiffBytes.j0 k bt628.1 t632 bt635.2.1 (bt635.1 != (bt628.1.length : Int))) else (dioramalaw36_DiffBytes.j0 k bt628.1 t632 bt635.2.1 true)))) else (some false))) = some r := H; have A5 := Aside0.mk A50; clear A50; replace H := Option.bind_eq_some_iff.mp H; obtain ⟨⟨t628, t631⟩, A60, H⟩ := H; replace H : (if t631 = 0 then ((diff_Encode.f k t628).bind fun t632 => ((wire_GetInt.f t632).bind fun bt635 => (if bt635.2.2 = 0 then (dioramalaw36_DiffBytes.j0 k t628 t632 bt635.2.1 (bt635.1 != (t628.length : Int))) else (dioramalaw36_DiffBytes.j0 k t628 t632 bt635.2.1 true)))) else (some false)) = some r := H; have A6 := Aside0.mk A60; clear A60
 by_cases c7 : t631 = 0
 ·rw [if_pos c7] at H
  have c7b0 : (t631 == 0) = true := beq_iff_eq.mpr c7; have c7b1 : (t631 != 0) = false := bne_eq_false_iff_eq.mpr c7; clear c7; replace H := Option.bind_eq_some_iff.mp H; obtain ⟨t632, A80, H⟩ := H; replace H : ((wire_GetInt.f t632).bind fun bt635 => (if bt635.2.2 = 0 then (dioramalaw36_DiffBytes.j0 k t628 t632 bt635.2.1 (bt635.1 != (t628.length : Int))) else (dioramalaw36_DiffBytes.j0 k t628 t632 bt635.2.1 true))) = some r := H; have A8 := Aside0.mk A80; clear A80; replace H := Option.bind_eq_some_iff.mp H; obtain ⟨⟨t635, t636, t637⟩, A90, H⟩ := H; replace H : (if t637 = 0 then (dioramalaw36_DiffBytes.j0 k t628 t632 t636 (t635 != (t628.length : Int))) else (dioramalaw36_DiffBytes.j0 k t628 t632 t636 true)) = some r := H; have A9 := Aside0.mk A90; clear A90; have HC10 := Aside0.mk H; clear H
  go_enter Try.func7, Try.ntmps7
  go_upto_region 7 with (first | ((with_reducible refine gate_callee (f := 10) rfl ?_); refine goesL_ (some 20) rfl rfl Try.func10 (by kernel_rfl) rfl #[.slice A0 l0.length c0] rfl (by (try simp only [List.map_toArray, List.map_cons, List.map_nil]); first | done | rfl | (simp only [List.length_drop, List.length_take]; rfl)) ?_; (with_reducible refine (dioramaref36_Shape.calls k _ _ l0 t619 _ ?side1 ?side2 A3.out).mono ?_); (case side1 => repeat (first | exact HR0.out | (with_reducible refine Kd.C_alloc ?_ _) | (with_reducible refine Kd.C_drewN ?_ _) | (with_reducible refine Kd.C_drew ?_))); (case side2 => exact HC0.out); rintro e w11 ⟨v620, rfl, ho0, hb⟩; refine ⟨_, rfl, ?_⟩; have n0_ := Aside0.mk (Kd.R_lower ho0 (below_size (by repeat (first | (with_reducible first | exact HB.out | apply below_alloc | apply pw_below_drewN | apply below_drew1) | exact HB.out)))); have n1_ := Aside0.mk (below_step (by repeat (first | (with_reducible first | exact HB.out | apply below_alloc | apply pw_below_drewN | apply below_drew1) | exact HB.out)) hb); clear HB; have HO621 := n0_; have HB := n1_; clear n0_ n1_; (try clear hb); (try clear hb2); (try clear hk); (try clear hi); (try clear ho0); obtain ⟨Ao12, co12, eo12⟩ := Kd.R_slice HO621.out; subst eo12) | ((with_reducible refine gate_callee (f := 11) rfl ?_); refine goesL_ (some 24) rfl rfl Try.func11 (by kernel_rfl) rfl #[.slice Ao12 t619.length co12, .slice A0 l0.length c0] rfl (by (try simp only [List.map_toArray, List.map_cons, List.map_nil]); first | done | rfl | (simp only [List.length_drop, List.length_take]; rfl)) ?_; (with_reducible refine (dioramaref36_World.calls k _ _ t619 _ _ l0 t622 _ ?side1 ?side2 ?side3 ?side4 A4.out).mono ?_); (case side1 => repeat (first | exact (Kd.R_reads' HO621.out).2.2 | (with_reducible refine Kd.C_alloc ?_ _) | (with_reducible refine Kd.C_drewN ?_ _) | (with_reducible refine Kd.C_drew ?_))); (case side2 => exact (Kd.R_reads' HO621.out).2.1); (case side3 => repeat (first | exact (Kd.C_below HR0.out HB.out) | (with_reducible refine Kd.C_alloc ?_ _) | (with_reducible refine Kd.C_drewN ?_ _) | (with_reducible refine Kd.C_drew ?_))); (case side4 => exact HC0.out); rintro e w13 ⟨v623, rfl, ho0, hb⟩; refine ⟨_, rfl, ?_⟩; have n0_ := Aside0.mk (Kd.R_below (by (with_reducible repeat (first | apply Kd.R_alloc | apply Kd.R_drewN | apply Kd.R_drew)); exact HO621.out) hb); have n1_ := Aside0.mk (Kd.N_lower (Kd.N_mono (ok' := fun k_ => some k_ ≠ (.slice Ao12 t619.length co12 : Value).ownBlock) (Kd.R_N (Kd.R_bound ho0)) (fun k_ hk_ => (Kd.fresh' (Kd.R_lt (by (with_reducible repeat (first | apply Kd.R_alloc | apply Kd.R_drewN | apply Kd.R_drew)); exact HO621.out)) k_ hk_.2.1))) (below_size (by repeat (first | (with_reducible first | exact HB.out | apply below_alloc | apply pw_below_drewN | apply below_drew1) | exact HB.out)))); have n2_ := Aside0.mk (below_step (by repeat (first | (with_reducible first | exact HB.out | apply below_alloc | apply pw_below_drewN | apply below_drew1) | exact HB.out)) hb); clear HO621; clear HB; have HO621 := n0_; have HO624 := n1_; have HB := n2_; clear n0_ n1_ n2_; (try clear hb); (try clear hb2); (try clear hk); (try clear hi); (try clear ho0)) | ((with_reducible refine gate_callee (f := 11) rfl ?_); refine goesL_ (some 27) rfl rfl Try.func11 (by kernel_rfl) rfl #[.slice Ao12 t619.length co12, .slice A1 l1.length c1] rfl (by (try simp only [List.map_toArray, List.map_cons, List.map_nil]); first | done | rfl | (simp only [List.length_drop, List.length_take]; rfl)) ?_; (with_reducible refine (dioramaref36_World.calls k _ _ t619 _ _ l1 t625 _ ?side1 ?side2 ?side3 ?side4 A5.out).mono ?_); (case side1 => repeat (first | exact (Kd.R_reads' HO621.out).2.2 | (with_reducible refine Kd.C_alloc ?_ _) | (with_reducible refine Kd.C_drewN ?_ _) | (with_reducible refine Kd.C_drew ?_))); (case side2 => exact (Kd.R_reads' HO621.out).2.1); (case side3 => repeat (first | exact (Kd.C_below HR1.out HB.out) | (with_reducible refine Kd.C_alloc ?_ _) | (with_reducible refine Kd.C_drewN ?_ _) | (with_reducible refine Kd.C_drew ?_))); (case side4 => exact HC1.out); rintro e w14 ⟨v626, rfl, ho0, hb⟩; refine ⟨_, rfl, ?_⟩; have n0_ := Aside0.mk (Kd.R_below (by (with_reducible repeat (first | apply Kd.R_alloc | apply Kd.R_drewN | apply Kd.R_drew)); exact HO621.out) hb); have n1_ := Aside0.mk (Kd.N_elder' (by (with_reducible repeat (first | apply Kd.N_alloc | apply Kd.N_drewN | apply Kd.N_drew)); exact HO624.out) (by first | exact Kd.N_base ho0 | exact Kd.R_base ho0) hb); have n2_ := Aside0.mk (Kd.N_lower (Kd.N_mono (ok' := fun k_ => some k_ ≠ (.slice Ao12 t619.length co12 : Value).ownBlock ∧ some k_ ≠ (v623 : Value).ownBlock) (Kd.R_N (Kd.R_bound ho0)) (fun k_ hk_ => ⟨(Kd.fresh' (Kd.R_lt (by (with_reducible repeat (first | apply Kd.R_alloc | apply Kd.R_drewN | apply Kd.R_drew)); exact HO621.out)) k_ hk_.2.1), (Kd.fresh' (Kd.N_lt (by (with_reducible repeat (first | apply Kd.N_alloc | apply Kd.N_drewN | apply Kd.N_drew)); exact HO624.out)) k_ hk_.2.1)⟩)) (below_size (by repeat (first | (with_reducible first | exact HB.out | apply below_alloc | apply pw_below_drewN | apply below_drew1) | exact HB.out)))); have n3_ := Aside0.mk (below_step (by repeat (first | (with_reducible first | exact HB.out | apply below_alloc | apply pw_below_drewN | apply below_drew1) | exact HB.out)) hb); clear HO621; clear HO624; clear HB; have HO621 := n0_; have HO624 := n1_; have HO627 := n2_; have HB := n3_; clear n0_ n1_ n2_ n3_; (try clear hb); (try clear hb2); (try clear hk); (try clear hi); (try clear ho0); obtain ⟨Ao15, co15, eo15⟩ := Kd.N_slice HO624.out; subst eo15; obtain ⟨Ao16, co16, eo16⟩ := Kd.N_slice HO627.out; subst eo16) | ((with_reducible refine gate_callee (f := 14) rfl ?_); refine goesL_ (some 28) rfl rfl Try.func14 (by kernel_rfl) rfl #[.slice Ao15 t622.length co15, .slice Ao16 t625.length co16] rfl (by (try simp only [List.map_toArray, List.map_cons, List.map_nil]); first | done | rfl | (simp only [List.length_drop, List.length_take]; rfl)) ?_; (with_reducible refine (diff_Diff.calls _ _ t622 _ _ t625 t628 t631 _ ?side1 ?side2 ?side3 ?side4 A6.out).mono ?_); (case side1 => repeat (first | exact (Kd.N_reads' HO624.out).2.2 | (with_reducible refine Kd.C_alloc ?_ _) | (with_reducible refine Kd.C_drewN ?_ _) | (with_reducible refine Kd.C_drew ?_))); (case side2 => exact (Kd.N_reads' HO624.out).2.1); (case side3 => repeat (first | exact (Kd.N_reads' HO627.out).2.2 | (with_reducible refine Kd.C_alloc ?_ _) | (with_reducible refine Kd.C_drewN ?_ _) | (with_reducible refine Kd.C_drew ?_))); (case side4 => exact (Kd.N_reads' HO627.out).2.1); rintro e w17 ⟨v629, rfl, ho0, hb⟩; refine ⟨_, rfl, ?_⟩; have n0_ := Aside0.mk (Kd.R_below (by (with_reducible repeat (first | apply Kd.R_alloc | apply Kd.R_drewN | apply Kd.R_drew)); exact HO621.out) hb); have n1_ := Aside0.mk (Kd.N_elder' (by (with_reducible repeat (first | apply Kd.N_alloc | apply Kd.N_drewN | apply Kd.N_drew)); exact HO624.out) (by first | exact Kd.N_base ho0 | exact Kd.R_base ho0) hb); have n2_ := Aside0.mk (Kd.N_elder' (by (with_reducible repeat (first | apply Kd.N_alloc | apply Kd.N_drewN | apply Kd.N_drew)); exact HO627.out) (by first | exact Kd.N_base ho0 | exact Kd.R_base ho0) hb); have n3_ := Aside0.mk (Kd.N_lower (Kd.N_mono (ok' := fun k_ => some k_ ≠ (.slice Ao12 t619.length co12 : Value).ownBlock ∧ some k_ ≠ (.slice Ao15 t622.length co15 : Value).ownBlock ∧ some k_ ≠ (.slice Ao16 t625.length co16 : Value).ownBlock) ho0 (fun k_ hk_ => ⟨(Kd.fresh' (Kd.R_lt (by (with_reducible repeat (first | apply Kd.R_alloc | apply Kd.R_drewN | apply Kd.R_drew)); exact HO621.out)) k_ hk_), (Kd.fresh' (Kd.N_lt (by (with_reducible repeat (first | apply Kd.N_alloc | apply Kd.N_drewN | apply Kd.N_drew)); exact HO624.out)) k_ hk_), (Kd.fresh' (Kd.N_lt (by (with_reducible repeat (first | apply Kd.N_alloc | apply Kd.N_drewN | apply Kd.N_drew)); exact HO627.out)) k_ hk_)⟩)) (below_size (by repeat (first | (with_reducible first | exact HB.out | apply below_alloc | apply pw_below_drewN | apply below_drew1) | exact HB.out)))); have n4_ := Aside0.mk (below_step (by repeat (first | (with_reducible first | exact HB.out | apply below_alloc | apply pw_below_drewN | apply below_drew1) | exact HB.out)) hb); clear HO621; clear HO624; clear HO627; clear HB; have HO621 := n0_; have HO624 := n1_; have HO627 := n2_; have HO630 := n3_; have HB := n4_; clear n0_ n1_ n2_ n3_ n4_; (try clear hb); (try clear hb2); (try clear hk); (try clear hi); (try clear ho0); obtain ⟨Ao18, co18, eo18⟩ := Kd.N_slice HO630.out; subst eo18) | ((with_reducible refine gate_callee (f := 27) rfl ?_); refine goesL_ (some 34) rfl rfl Try.func27 (by kernel_rfl) rfl #[.slice Ao18 t628.length co18] rfl (by (try simp only [List.map_toArray, List.map_cons, List.map_nil]); first | done | rfl | (simp only [List.length_drop, List.length_take]; rfl)) ?_; (with_reducible refine (diff_Encode.calls k _ _ t628 t632 _ ?side1 ?side2 A8.out).mono ?_); (case side1 => repeat (first | exact (Kd.N_reads' HO630.out).2.2 | (with_reducible refine Kd.C_alloc ?_ _) | (with_reducible refine Kd.C_drewN ?_ _) | (with_reducible refine Kd.C_drew ?_))); (case side2 => exact (Kd.N_reads' HO630.out).2.1); rintro e w19 ⟨v633, rfl, ho0, hb⟩; refine ⟨_, rfl, ?_⟩; have n0_ := Aside0.mk (Kd.R_below (by (with_reducible repeat (first | apply Kd.R_alloc | apply Kd.R_drewN | apply Kd.R_drew)); exact HO621.out) hb); have n1_ := Aside0.mk (Kd.N_elder' (by (with_reducible repeat (first | apply Kd.N_alloc | apply Kd.N_drewN | apply Kd.N_drew)); exact HO624.out) (Kd.R_base ho0) hb); have n2_ := Aside0.mk (Kd.N_elder' (by (with_reducible repeat (first | apply Kd.N_alloc | apply Kd.N_drewN | apply Kd.N_drew)); exact HO627.out) (Kd.R_base ho0) hb); have n3_ := Aside0.mk (Kd.N_elder' (by (with_reducible repeat (first | apply Kd.N_alloc | apply Kd.N_drewN | apply Kd.N_drew)); exact HO630.out) (Kd.R_base ho0) hb); have n4_ := Aside0.mk (Kd.R_lower ho0 (below_size (by repeat (first | (with_reducible first | exact HB.out | apply below_alloc | apply pw_below_drewN | apply below_drew1) | exact HB.out)))); have n5_ := Aside0.mk (below_step (by repeat (first | (with_reducible first | exact HB.out | apply below_alloc | apply pw_below_drewN | apply below_drew1) | exact HB.out)) hb); clear HO621; clear HO624; clear HO627; clear HO630; clear HB; have HO621 := n0_; have HO624 := n1_; have HO627 := n2_; have HO630 := n3_; have HO634 := n4_; have HB := n5_; clear n0_ n1_ n2_ n3_ n4_ n5_; (try clear hb); (try clear hb2); (try clear hk); (try clear hi); (try clear ho0); obtain ⟨Ao20, co20, eo20⟩ := Kd.R_slice HO634.out; subst eo20) | ((with_reducible refine gate_callee (f := 29) rfl ?_); refine goesL_ (some 37) rfl rfl Try.func29 (by kernel_rfl) rfl #[.slice Ao20 t632.length co20] rfl (by (try simp only [List.map_toArray, List.map_cons, List.map_nil]); first | done | rfl | (simp only [List.length_drop, List.length_take]; rfl)) ?_; (with_reducible refine (wire_GetInt.calls _ _ t632 t635 t636 t637 _ ?side1 ?side2 A9.out).mono ?_); (case side1 => repeat (first | exact (Kd.R_reads' HO634.out).2.2 | (with_reducible refine Kd.C_alloc ?_ _) | (with_reducible refine Kd.C_drewN ?_ _) | (with_reducible refine Kd.C_drew ?_))); (case side2 => exact (Kd.R_reads' HO634.out).2.1); rintro e w21 ⟨rfl, hb⟩; refine ⟨_, rfl, ?_⟩; have n0_ := Aside0.mk (Kd.R_below (by (with_reducible repeat (first | apply Kd.R_alloc | apply Kd.R_drewN | apply Kd.R_drew)); exact HO621.out) hb); have n1_ := Aside0.mk (Kd.N_below (by (with_reducible repeat (first | apply Kd.N_alloc | apply Kd.N_drewN | apply Kd.N_drew)); exact HO624.out) hb); have n2_ := Aside0.mk (Kd.N_below (by (with_reducible repeat (first | apply Kd.N_alloc | apply Kd.N_drewN | apply Kd.N_drew)); exact HO627.out) hb); have n3_ := Aside0.mk (Kd.N_below (by (with_reducible repeat (first | apply Kd.N_alloc | apply Kd.N_drewN | apply Kd.N_drew)); exact HO630.out) hb); have n4_ := Aside0.mk (Kd.R_below (by (with_reducible repeat (first | apply Kd.R_alloc | apply Kd.R_drewN | apply Kd.R_drew)); exact HO634.out) hb); have n5_ := Aside0.mk (below_step (by repeat (first | (with_reducible first | exact HB.out | apply below_alloc | apply pw_below_drewN | apply below_drew1) | exact HB.out)) hb); clear HO621; clear HO624; clear HO627; clear HO630; clear HO634; clear HB; have HO621 := n0_; have HO624 := n1_; have HO627 := n2_; have HO630 := n3_; have HO634 := n4_; have HB := n5_; clear n0_ n1_ n2_ n3_ n4_ n5_; (try clear hb); (try clear hb2); (try clear hk); (try clear hi)))
  (try simp only [Act.put, sA_, sB_, sC_])
  go_cut [48] (fun v48 wc => ∃ (kq : Nat) (x48_9 : Bool), v48 = .bool x48_9 ∧ Aside0 (dioramalaw36_DiffBytes.j0 kq t628 t632 t636 x48_9 = some r) ∧ Aside0 (kq ≤ k) ∧ Aside0 (Kd.N k61 61 wc w.heap.size (fun k_ => some k_ ≠ ((.slice Ao20 t632.length co20) : Value).ownBlock) (.slice Ao18 t628.length co18) t628) ∧ Aside0 (Kd.R (Kd.int .u8) 5 wc w.heap.size (fun _ => True) (.slice Ao20 t632.length co20) t632) ∧ Aside0 (Below w.heap.size w wc))
  case first =>
   have H := HC10.out; clear HC10
   by_cases c22 : t637 = 0
   ·rw [if_pos c22] at H
    have c22b0 : (t637 == 0) = true := beq_iff_eq.mpr c22; have c22b1 : (t637 != 0) = false := bne_eq_false_iff_eq.mpr c22; clear c22
    (first | rw [c22b0] | (simp only [i64_w, i32_w]; rw [c22b0]) | skip)
    have H' := Aside0.mk H; clear H; go_wp2
    go_meet
    case rel => exact ⟨_, ((t635 != (t628.length : Int))), (by first | rfl | (simp; done) | (simp [*]; done)), H', ⟨by first | omega | exact Nat.le_refl _⟩, ⟨by (with_reducible repeat (first | apply Kd.N_alloc | apply Kd.N_drewN | apply Kd.N_drew)); exact Kd.N_mono HO630.out (fun _ hk => hk.2)⟩, ⟨by (with_reducible repeat (first | apply Kd.R_alloc | apply Kd.R_drewN | apply Kd.R_drew)); exact HO634.out⟩, ⟨by repeat (first | (with_reducible first | exact HB.out | apply below_alloc | apply pw_below_drewN | apply below_drew1) | exact HB.out)⟩⟩
   ·rw [if_neg c22] at H
    have c22b0 : (t637 == 0) = false := beq_eq_false_iff_ne.mpr c22; have c22b1 : (t637 != 0) = true := bne_iff_ne.mpr c22
    (first | rw [c22b0] | (simp only [i64_w, i32_w]; rw [c22b0]) | skip)
    have H' := Aside0.mk H; clear H; go_wp2
    go_meet
    case rel => exact ⟨_, (true), (by first | rfl | (simp; done) | (simp [*]; done)), H', ⟨by first | omega | exact Nat.le_refl _⟩, ⟨by (with_reducible repeat (first | apply Kd.N_alloc | apply Kd.N_drewN | apply Kd.N_drew)); exact Kd.N_mono HO630.out (fun _ hk => hk.2)⟩, ⟨by (with_reducible repeat (first | apply Kd.R_alloc | apply Kd.R_drewN | apply Kd.R_drew)); exact HO634.out⟩, ⟨by repeat (first | (with_reducible first | exact HB.out | apply below_alloc | apply pw_below_drewN | apply below_drew1) | exact HB.out)⟩⟩
  case rest =>
   clear HC10
   try clear c1
   try clear c2
   try clear p2
   try clear c7
   try clear c7b0
   try clear c7b1
   try clear c10
   try clear c11
   try clear c14
   try clear c22
   try clear c22b0
   try clear c22b1
   obtain ⟨kq, x48_9, rfl, HA, HJ9, HO_6, HO_8, HB⟩ := hcut
   cases kq with
   | zero => exact absurd HA.out (by simp [dioramalaw36_DiffBytes.j0])
   | succ kj9 =>
    have H := HA.out; clear HA; simp only [dioramalaw36_DiffBytes.j0] at H
    by_cases c23 : x48_9 = true
    ·subst c23
     have H1 : (some false) = some r := by rw [if_pos rfl] at H; exact H
     clear H; have H := H1; clear H1; obtain rfl := Option.some.inj H; go_wp2; go_ret; exact ⟨by first | rfl | (simp [errW_none, errW_some] <;> rfl) | (simp [*, errW_none, errW_some] <;> rfl), by repeat (first | (with_reducible first | exact HB.out | apply below_alloc | apply pw_below_drewN | apply below_drew1) | exact HB.out)⟩
    ·replace c23 := Bool.eq_false_iff.mpr c23
     subst c23
     have H1 : (dioramalaw36_DiffBytes.l0 kj9 t628 t632 t636 0) = some r := by rw [if_neg (show ¬ (false = true) by decide)] at H; exact H
     clear H; have H := H1; clear H1; have H' := Aside0.mk H; clear H; go_wp2
     go_loopg [10, 12] kj9 (fun kq v10 v12 w' => ∃ (x10_2 : Int) (x12_2 : Int), v10 = .int .i64 x10_2 ∧ v12 = .int .i64 x12_2 ∧ Aside0 (dioramalaw36_DiffBytes.l0 kq t628 t632 x10_2 x12_2 = some r) ∧ Aside0 (kq ≤ kj9) ∧ Aside0 (Kd.N k61 61 w' w.heap.size (fun k_ => some k_ ≠ ((.slice Ao20 t632.length co20) : Value).ownBlock) (.slice Ao18 t628.length co18) t628) ∧ Aside0 (Kd.R (Kd.int .u8) 5 w' w.heap.size (fun _ => True) (.slice Ao20 t632.length co20) t632) ∧ Aside0 (Below w.heap.size w w'))
     case atStart => exact ⟨(t636), (0), (by first | rfl | (simp; done) | (simp [*]; done)), (by first | rfl | (simp; done) | (simp [*]; done)), H', ⟨Nat.le_refl _⟩, ⟨by (with_reducible repeat (first | apply Kd.N_alloc | apply Kd.N_drewN | apply Kd.N_drew)); exact HO_6.out⟩, ⟨by (with_reducible repeat (first | apply Kd.R_alloc | apply Kd.R_drewN | apply Kd.R_drew)); exact HO_8.out⟩, ⟨by repeat (first | (with_reducible first | exact HB.out | apply below_alloc | apply pw_below_drewN | apply below_drew1) | exact HB.out)⟩⟩
     case round =>
      clear H'
      try clear c1
      try clear c2
      try clear p2
      try clear c7
      try clear c7b0
      try clear c7b1
      try clear c10
      try clear c11
      try clear c14
      try clear c22
      try clear c22b0
      try clear c22b1
      try clear c23
      try clear p2
      obtain ⟨x10_2, x12_2, rfl, rfl, HA, HK2, HO_6, HO_8, HB⟩ := hrel
      cases gk with
      | zero => exact absurd HA.out (by simp [dioramalaw36_DiffBytes.l0])
      | succ k2 =>
       have H := HA.out; clear HA; simp only [dioramalaw36_DiffBytes.l0] at H
       by_cases c24 : x12_2 < (t628.length : Int)
       ·rw [if_pos c24] at H
        have c24b0 : decide (x12_2 < (t628.length : Int)) = true := decide_eq_true c24; clear c24
        by_cases c25 : 0 ≤ x10_2
        ·rw [if_pos c25] at H
         have c25b0 := eq_true c25; have c25b1 : decide (0 ≤ x10_2) = true := decide_eq_true c25; clear c25
         by_cases c26 : x10_2 ≤ (t632.length : Int)
         ·rw [if_pos c26] at H
          have c26b0 := eq_true c26; have c26b1 : decide (x10_2 ≤ (t632.length : Int)) = true := decide_eq_true c26; clear c26; obtain ⟨y639, hy639⟩ : ∃ y_ : List Int, y_ = (t632.drop (x10_2 : Int).toNat) := ⟨_, rfl⟩
          replace H : ((wire_GetInts.f y639).bind fun bt644 => (if bt644.2.2 = 0 then (if 0 ≤ x12_2 then ((dioramaref01_SameInts.f k2 bt644.1 (([(rd_T61 t628 x12_2).f0, (rd_T61 t628 x12_2).f1, (rd_T61 t628 x12_2).f2, (rd_T61 t628 x12_2).f3, (rd_T61 t628 x12_2).f4] : List Int))).bind fun t657 => (dioramalaw36_DiffBytes.j2 k2 t628 t632 x10_2 x12_2 bt644.2.1 (!t657))) else (none)) else (dioramalaw36_DiffBytes.j2 k2 t628 t632 x10_2 x12_2 bt644.2.1 true))) = some r := by first | (rw [hy639]; with_reducible exact H) | (have H2_ := (Option.bind_some _ _).symm.trans H; rw [hy639]; with_reducible exact H2_) | (have H2_ := (Option.bind_some _ _).symm.trans H; with_reducible exact H2_) | with_reducible exact H | (rw [hy639]; exact H) | exact H
          have Ny639 := Aside0.mk hy639; clear hy639; replace H := Option.bind_eq_some_iff.mp H; obtain ⟨⟨t644, t645, t646⟩, A270, H⟩ := H; replace H : (if t646 = 0 then (if 0 ≤ x12_2 then ((dioramaref01_SameInts.f k2 t644 (([(rd_T61 t628 x12_2).f0, (rd_T61 t628 x12_2).f1, (rd_T61 t628 x12_2).f2, (rd_T61 t628 x12_2).f3, (rd_T61 t628 x12_2).f4] : List Int))).bind fun t657 => (dioramalaw36_DiffBytes.j2 k2 t628 t632 x10_2 x12_2 t645 (!t657))) else (none)) else (dioramalaw36_DiffBytes.j2 k2 t628 t632 x10_2 x12_2 t645 true)) = some r := H; have A27 := Aside0.mk A270; clear A270; have HC28 := Aside0.mk H; clear H; have q29 : (x10_2 : Int) ≤ ((t632.length : Int) : Int) := of_decide_eq_true (by first | (with_reducible assumption) | assumption); obtain ⟨i029, hi029, _, hsz29, _⟩ := info_parts info5; have hroom29 : t632.length ≤ co20 := (Kd.R_reads' HO_8.out).2.1; have hC29 : Kd.F (Kd.int .u8) _ _ Ao20 t632.length t632 := (Kd.V_at (base := w.heap.size) (Kd.R_V (Kd.R_apart' (HO_8.out) (Kd.N_typed HO_6.out) (by decide)))).2.2; have q029 : (0 : Int) ≤ (x10_2 : Int) := of_decide_eq_true (by first | (with_reducible assumption) | assumption); have hcut29 := cut_from (P := Try.prog) 53 5 .i64 Try.underlying53 hi029 1 hsz29 Ao20 t632.length co20 x10_2 q029 q29; have hr29 := Kd.F_cut (m := (x10_2 : Int).toNat) (c := co20) hC29 (by omega) hroom29; obtain ⟨A29, hA29⟩ : ∃ A1, A1 = (if co20 = (x10_2 : Int).toNat then Ao20 else (Ao20 : Option Addr).map (·.add ((x10_2 : Int).toNat * 1))) := ⟨_, rfl⟩; obtain ⟨c29, hc29⟩ : ∃ c1, c1 = co20 - (x10_2 : Int).toNat := ⟨_, rfl⟩; have hy29 : y639.length = t632.length - (x10_2 : Int).toNat := (by rw [Ny639.out, List.length_drop] <;> omega); rw [show (t632).drop (x10_2 : Int).toNat = y639 from Ny639.out.symm] at hr29; replace hr29 : Kd.F (Kd.int .u8) _ _ A29 y639.length y639 := (by rw [hA29]; exact hr29); rw [← hy29, ← hA29, ← hc29] at hcut29; have HO643 := Aside0.mk (show Kd.V (Kd.int .u8) 5 _ w.heap.size _ (.slice A29 y639.length c29) y639 from Kd.V_mk (by rw [hy29, hc29]; exact Nat.sub_le_sub_right hroom29 _) hr29); have HC643 := Aside0.mk (show y639.length ≤ c29 from by rw [hy29, hc29]; exact Nat.sub_le_sub_right hroom29 _); clear hr29 hC29 hroom29 hi029 hsz29 hc29; have KY29 := Aside0.mk hy29; have KA29 := Aside0.mk hA29; clear hy29 hA29; replace q29 := eq_true q29
          go_upto_region 13 with (first | ((with_reducible refine gate_callee (f := 30) rfl ?_); refine goesL_ (some 59) rfl rfl Try.func30 (by kernel_rfl) rfl #[.slice A29 y639.length c29] rfl (by (try simp only [List.map_toArray, List.map_cons, List.map_nil]); first | done | rfl | (simp only [List.length_drop, List.length_take]; rfl)) ?_; (with_reducible refine (wire_GetInts.calls _ _ y639 t644 t645 t646 _ ?side1 ?side2 A27.out).mono ?_); (case side1 => repeat (first | exact (Kd.V_reads' HO643.out).2.2 | (with_reducible refine Kd.C_alloc ?_ _) | (with_reducible refine Kd.C_drewN ?_ _) | (with_reducible refine Kd.C_drew ?_))); (case side2 => exact (Kd.V_reads' HO643.out).2.1); rintro e w30 ⟨v647, rfl, ho0, hb⟩; refine ⟨_, rfl, ?_⟩; have n0_ := Aside0.mk (Kd.N_elder' (by (with_reducible repeat (first | apply Kd.N_alloc | apply Kd.N_drewN | apply Kd.N_drew)); exact HO_6.out) (Kd.R_base ho0) hb); have n1_ := Aside0.mk (Kd.R_below (by (with_reducible repeat (first | apply Kd.R_alloc | apply Kd.R_drewN | apply Kd.R_drew)); exact HO_8.out) hb); have n2_ := Aside0.mk (Kd.V_elder' (by (with_reducible repeat (first | apply Kd.V_alloc | apply Kd.V_drewN | apply Kd.V_drew)); exact HO643.out) (Kd.R_base ho0) hb); have n3_ := Aside0.mk (Kd.R_lower ho0 (below_size (by repeat (first | (with_reducible first | exact HB.out | apply below_alloc | apply pw_below_drewN | apply below_drew1) | exact HB.out)))); have n4_ := Aside0.mk (below_step (by repeat (first | (with_reducible first | exact HB.out | apply below_alloc | apply pw_below_drewN | apply below_drew1) | exact HB.out)) hb); clear HO_6; clear HO_8; clear HO643; clear HB; have HO_6 := n0_; have HO_8 := n1_; have HO643 := n2_; have HO648 := n3_; have HB := n4_; clear n0_ n1_ n2_ n3_ n4_; (try clear hb); (try clear hb2); (try clear hk); (try clear hi); (try clear ho0)))
          (try simp only [Act.put, sA_, sB_, sC_])
          go_cut [95] (fun v95 wc => ∃ (kq : Nat) (x95_27 : Bool), v95 = .bool x95_27 ∧ Aside0 (dioramalaw36_DiffBytes.j2 kq t628 t632 x10_2 x12_2 t645 x95_27 = some r) ∧ Aside0 (kq ≤ k2) ∧ Aside0 (Kd.N k61 61 wc w.heap.size (fun k_ => some k_ ≠ ((.slice Ao20 t632.length co20) : Value).ownBlock) (.slice Ao18 t628.length co18) t628) ∧ Aside0 (Kd.R (Kd.int .u8) 5 wc w.heap.size (fun _ => True) (.slice Ao20 t632.length co20) t632) ∧ Aside0 (Below w.heap.size w wc))
          case first =>
           have H := HC28.out; clear HC28
           by_cases c31 : t646 = 0
           ·rw [if_pos c31] at H
            have c31b0 : (t646 == 0) = true := beq_iff_eq.mpr c31; have c31b1 : (t646 != 0) = false := bne_eq_false_iff_eq.mpr c31; clear c31
            (first | rw [c31b0] | (simp only [i64_w, i32_w]; rw [c31b0]) | skip)
            by_cases c32 : 0 ≤ x12_2
            ·rw [if_pos c32] at H
             have c32b0 : decide (0 ≤ x12_2) = true := decide_eq_true c32; clear c32; obtain ⟨y654, hy654⟩ : ∃ y_ : List Int, y_ = (([(rd_T61 t628 x12_2).f0, (rd_T61 t628 x12_2).f1, (rd_T61 t628 x12_2).f2, (rd_T61 t628 x12_2).f3, (rd_T61 t628 x12_2).f4] : List Int)) := ⟨_, rfl⟩
             replace H : ((dioramaref01_SameInts.f k2 t644 y654).bind fun t657 => (dioramalaw36_DiffBytes.j2 k2 t628 t632 x10_2 x12_2 t645 (!t657))) = some r := by first | (rw [hy654]; with_reducible exact H) | (have H2_ := (Option.bind_some _ _).symm.trans H; rw [hy654]; with_reducible exact H2_) | (have H2_ := (Option.bind_some _ _).symm.trans H; with_reducible exact H2_) | with_reducible exact H | (rw [hy654]; exact H) | exact H
             have Ny654 := Aside0.mk hy654; clear hy654; replace H := Option.bind_eq_some_iff.mp H; obtain ⟨t657, A330, H⟩ := H; replace H : (dioramalaw36_DiffBytes.j2 k2 t628 t632 x10_2 x12_2 t645 (!t657)) = some r := H; have A33 := Aside0.mk A330; clear A330; have H' := Aside0.mk H; clear H
             try go_wp2
             have n0_ := Aside0.mk (Kd.N_drew HO_6.out); have n1_ := Aside0.mk (Kd.R_drew HO_8.out); have n2_ := Aside0.mk (Kd.V_drew HO643.out); have n3_ := Aside0.mk (Kd.R_drew HO648.out); have n4_ := Aside0.mk (below_drew1 HB.out); clear HO_6; clear HO_8; clear HO643; clear HO648; clear HB; have HO_6 := n0_; have HO_8 := n1_; have HO643 := n2_; have HO648 := n3_; have HB := n4_; clear n0_ n1_ n2_ n3_ n4_; have p649 : 0 ≤ (x12_2 : Int) := of_decide_eq_true (by first | (with_reducible assumption) | assumption); have q649 : x12_2 < (t628.length : Int) := of_decide_eq_true (by first | (with_reducible assumption) | assumption); obtain ⟨ad649, A649_5, c649_5, e649, hx649_0, hx649_1, hx649_2, hx649_3, hx649_4, hx649_5, hl649_5, hi649_5⟩ := at_T61 (Kd.N_reads' HO_6.out).2.2 x12_2 p649 q649
             cases e649
             obtain ⟨ce649, hce649, hMe649, hcc649⟩ := Kd.N_get HO_6.out z61 x12_2 p649 (by first | exact q649 | exact of_decide_eq_true (by first | (with_reducible assumption) | assumption) | (have e_ := (Kd.N_reads' HO_6.out).1; omega)); obtain ⟨ua649_5, uc649_5, rfl, ul649_5, ge649_5⟩ := k61_openF hMe649; have hv649_5 := hcc649 5 _ rfl; rw [add_field _ _ 5 (by omega)] at hv649_5; replace hv649_5 := Option.some.inj (hv649_5.symm.trans hx649_5)
             injection hv649_5 with hva_ hvn_ hvc_
             rw [hva_] at ge649_5; rw [hvc_] at ul649_5; have HL649_5 := Aside0.mk (show Kd.V (Kd.int .i64) 3 _ w.heap.size _ _ ((rd_T61 t628 x12_2).f5) from Kd.V_mk ul649_5 ge649_5); clear hva_ hvn_ hvc_ ge649_5 ul649_5; clear hcc649 hce649; have HR649_5 := Aside0.mk hi649_5; have HC649_5 := Aside0.mk hl649_5; clear hi649_5 hl649_5; replace p649 := eq_true p649; replace q649 := eq_true q649; have p650 : 0 ≤ (x12_2 : Int) := of_decide_eq_true (by first | (with_reducible assumption) | assumption); have q650 : x12_2 < (t628.length : Int) := of_decide_eq_true (by first | (with_reducible assumption) | assumption); obtain ⟨ad650, A650_5, c650_5, e650, hx650_0, hx650_1, hx650_2, hx650_3, hx650_4, hx650_5, hl650_5, hi650_5⟩ := at_T61 (Kd.N_reads' HO_6.out).2.2 x12_2 p650 q650; obtain rfl : ad649 = ad650 := (by injection e650); obtain ⟨ce650, hce650, hMe650, hcc650⟩ := Kd.N_get HO_6.out z61 x12_2 p650 (by first | exact q650 | exact of_decide_eq_true (by first | (with_reducible assumption) | assumption) | (have e_ := (Kd.N_reads' HO_6.out).1; omega)); obtain ⟨ua650_5, uc650_5, rfl, ul650_5, ge650_5⟩ := k61_openF hMe650; have hv650_5 := hcc650 5 _ rfl; rw [add_field _ _ 5 (by omega)] at hv650_5; replace hv650_5 := Option.some.inj (hv650_5.symm.trans hx650_5)
             injection hv650_5 with hva_ hvn_ hvc_
             rw [hva_] at ge650_5; rw [hvc_] at ul650_5; have HL650_5 := Aside0.mk (show Kd.V (Kd.int .i64) 3 _ w.heap.size _ _ ((rd_T61 t628 x12_2).f5) from Kd.V_mk ul650_5 ge650_5); clear hva_ hvn_ hvc_ ge650_5 ul650_5; clear hcc650 hce650; have HR650_5 := Aside0.mk hi650_5; have HC650_5 := Aside0.mk hl650_5; clear hi650_5 hl650_5; replace p650 := eq_true p650; replace q650 := eq_true q650; have ea_ := Option.some.inj (hx649_5.symm.trans hx650_5)
             injection ea_ with ea_ en_ ec_
             subst ea_; subst ec_; clear en_; have p651 : 0 ≤ (x12_2 : Int) := of_decide_eq_true (by first | (with_reducible assumption) | assumption); have q651 : x12_2 < (t628.length : Int) := of_decide_eq_true (by first | (with_reducible assumption) | assumption); obtain ⟨ad651, A651_5, c651_5, e651, hx651_0, hx651_1, hx651_2, hx651_3, hx651_4, hx651_5, hl651_5, hi651_5⟩ := at_T61 (Kd.N_reads' HO_6.out).2.2 x12_2 p651 q651; obtain rfl : ad649 = ad651 := (by injection e651); obtain ⟨ce651, hce651, hMe651, hcc651⟩ := Kd.N_get HO_6.out z61 x12_2 p651 (by first | exact q651 | exact of_decide_eq_true (by first | (with_reducible assumption) | assumption) | (have e_ := (Kd.N_reads' HO_6.out).1; omega)); obtain ⟨ua651_5, uc651_5, rfl, ul651_5, ge651_5⟩ := k61_openF hMe651; have hv651_5 := hcc651 5 _ rfl; rw [add_field _ _ 5 (by omega)] at hv651_5; replace hv651_5 := Option.some.inj (hv651_5.symm.trans hx651_5)
             injection hv651_5 with hva_ hvn_ hvc_
             rw [hva_] at ge651_5; rw [hvc_] at ul651_5; have HL651_5 := Aside0.mk (show Kd.V (Kd.int .i64) 3 _ w.heap.size _ _ ((rd_T61 t628 x12_2).f5) from Kd.V_mk ul651_5 ge651_5); clear hva_ hvn_ hvc_ ge651_5 ul651_5; clear hcc651 hce651; have HR651_5 := Aside0.mk hi651_5; have HC651_5 := Aside0.mk hl651_5; clear hi651_5 hl651_5; replace p651 := eq_true p651; replace q651 := eq_true q651; have ea_ := Option.some.inj (hx649_5.symm.trans hx651_5)
             injection ea_ with ea_ en_ ec_
             subst ea_; subst ec_; clear en_; have p652 : 0 ≤ (x12_2 : Int) := of_decide_eq_true (by first | (with_reducible assumption) | assumption); have q652 : x12_2 < (t628.length : Int) := of_decide_eq_true (by first | (with_reducible assumption) | assumption); obtain ⟨ad652, A652_5, c652_5, e652, hx652_0, hx652_1, hx652_2, hx652_3, hx652_4, hx652_5, hl652_5, hi652_5⟩ := at_T61 (Kd.N_reads' HO_6.out).2.2 x12_2 p652 q652; obtain rfl : ad649 = ad652 := (by injection e652); obtain ⟨ce652, hce652, hMe652, hcc652⟩ := Kd.N_get HO_6.out z61 x12_2 p652 (by first | exact q652 | exact of_decide_eq_true (by first | (with_reducible assumption) | assumption) | (have e_ := (Kd.N_reads' HO_6.out).1; omega)); obtain ⟨ua652_5, uc652_5, rfl, ul652_5, ge652_5⟩ := k61_openF hMe652; have hv652_5 := hcc652 5 _ rfl; rw [add_field _ _ 5 (by omega)] at hv652_5; replace hv652_5 := Option.some.inj (hv652_5.symm.trans hx652_5)
             injection hv652_5 with hva_ hvn_ hvc_
             rw [hva_] at ge652_5; rw [hvc_] at ul652_5; have HL652_5 := Aside0.mk (show Kd.V (Kd.int .i64) 3 _ w.heap.size _ _ ((rd_T61 t628 x12_2).f5) from Kd.V_mk ul652_5 ge652_5); clear hva_ hvn_ hvc_ ge652_5 ul652_5; clear hcc652 hce652; have HR652_5 := Aside0.mk hi652_5; have HC652_5 := Aside0.mk hl652_5; clear hi652_5 hl652_5; replace p652 := eq_true p652; replace q652 := eq_true q652; have ea_ := Option.some.inj (hx649_5.symm.trans hx652_5)
             injection ea_ with ea_ en_ ec_
             subst ea_; subst ec_; clear en_; have p653 : 0 ≤ (x12_2 : Int) := of_decide_eq_true (by first | (with_reducible assumption) | assumption); have q653 : x12_2 < (t628.length : Int) := of_decide_eq_true (by first | (with_reducible assumption) | assumption); obtain ⟨ad653, A653_5, c653_5, e653, hx653_0, hx653_1, hx653_2, hx653_3, hx653_4, hx653_5, hl653_5, hi653_5⟩ := at_T61 (Kd.N_reads' HO_6.out).2.2 x12_2 p653 q653; obtain rfl : ad649 = ad653 := (by injection e653); obtain ⟨ce653, hce653, hMe653, hcc653⟩ := Kd.N_get HO_6.out z61 x12_2 p653 (by first | exact q653 | exact of_decide_eq_true (by first | (with_reducible assumption) | assumption) | (have e_ := (Kd.N_reads' HO_6.out).1; omega)); obtain ⟨ua653_5, uc653_5, rfl, ul653_5, ge653_5⟩ := k61_openF hMe653; have hv653_5 := hcc653 5 _ rfl; rw [add_field _ _ 5 (by omega)] at hv653_5; replace hv653_5 := Option.some.inj (hv653_5.symm.trans hx653_5)
             injection hv653_5 with hva_ hvn_ hvc_
             rw [hva_] at ge653_5; rw [hvc_] at ul653_5; have HL653_5 := Aside0.mk (show Kd.V (Kd.int .i64) 3 _ w.heap.size _ _ ((rd_T61 t628 x12_2).f5) from Kd.V_mk ul653_5 ge653_5); clear hva_ hvn_ hvc_ ge653_5 ul653_5; clear hcc653 hce653; have HR653_5 := Aside0.mk hi653_5; have HC653_5 := Aside0.mk hl653_5; clear hi653_5 hl653_5; replace p653 := eq_true p653; replace q653 := eq_true q653; have ea_ := Option.some.inj (hx649_5.symm.trans hx653_5)
             injection ea_ with ea_ en_ ec_
             subst ea_; subst ec_; clear en_; refine start_ (n := 33) (S := fun w' => w'.cell? (ad649.add ((x12_2).toNat * 6)) = some (.int .i64 ((rd_T61 t628 x12_2).f0)) ∧ w'.cell? ⟨(ad649.add ((x12_2).toNat * 6)).block, (ad649.add ((x12_2).toNat * 6)).off + 1, none⟩ = some (.int .i64 ((rd_T61 t628 x12_2).f1)) ∧ w'.cell? ⟨(ad649.add ((x12_2).toNat * 6)).block, (ad649.add ((x12_2).toNat * 6)).off + 2, none⟩ = some (.int .i64 ((rd_T61 t628 x12_2).f2)) ∧ w'.cell? ⟨(ad649.add ((x12_2).toNat * 6)).block, (ad649.add ((x12_2).toNat * 6)).off + 3, none⟩ = some (.int .i64 ((rd_T61 t628 x12_2).f3)) ∧ w'.cell? ⟨(ad649.add ((x12_2).toNat * 6)).block, (ad649.add ((x12_2).toNat * 6)).off + 4, none⟩ = some (.int .i64 ((rd_T61 t628 x12_2).f4)) ∧ w'.cell? ⟨(ad649.add ((x12_2).toNat * 6)).block, (ad649.add ((x12_2).toNat * 6)).off + 5, none⟩ = some (.slice A649_5 ((rd_T61 t628 x12_2).f5).length c649_5) ∧ w'.cell? (ad649.add ((x12_2).toNat * 6)) = some (.int .i64 ((rd_T61 t628 x12_2).f0)) ∧ w'.cell? ⟨(ad649.add ((x12_2).toNat * 6)).block, (ad649.add ((x12_2).toNat * 6)).off + 1, none⟩ = some (.int .i64 ((rd_T61 t628 x12_2).f1)) ∧ w'.cell? ⟨(ad649.add ((x12_2).toNat * 6)).block, (ad649.add ((x12_2).toNat * 6)).off + 2, none⟩ = some (.int .i64 ((rd_T61 t628 x12_2).f2)) ∧ w'.cell? ⟨(ad649.add ((x12_2).toNat * 6)).block, (ad649.add ((x12_2).toNat * 6)).off + 3, none⟩ = some (.int .i64 ((rd_T61 t628 x12_2).f3)) ∧ w'.cell? ⟨(ad649.add ((x12_2).toNat * 6)).block, (ad649.add ((x12_2).toNat * 6)).off + 4, none⟩ = some (.int .i64 ((rd_T61 t628 x12_2).f4)) ∧ w'.cell? ⟨(ad649.add ((x12_2).toNat * 6)).block, (ad649.add ((x12_2).toNat * 6)).off + 5, none⟩ = some (.slice A649_5 ((rd_T61 t628 x12_2).f5).length c649_5) ∧ w'.cell? (ad649.add ((x12_2).toNat * 6)) = some (.int .i64 ((rd_T61 t628 x12_2).f0)) ∧ w'.cell? ⟨(ad649.add ((x12_2).toNat * 6)).block, (ad649.add ((x12_2).toNat * 6)).off + 1, none⟩ = some (.int .i64 ((rd_T61 t628 x12_2).f1)) ∧ w'.cell? ⟨(ad649.add ((x12_2).toNat * 6)).block, (ad649.add ((x12_2).toNat * 6)).off + 2, none⟩ = some (.int .i64 ((rd_T61 t628 x12_2).f2)) ∧ w'.cell? ⟨(ad649.add ((x12_2).toNat * 6)).block, (ad649.add ((x12_2).toNat * 6)).off + 3, none⟩ = some (.int .i64 ((rd_T61 t628 x12_2).f3)) ∧ w'.cell? ⟨(ad649.add ((x12_2).toNat * 6)).block, (ad649.add ((x12_2).toNat * 6)).off + 4, none⟩ = some (.int .i64 ((rd_T61 t628 x12_2).f4)) ∧ w'.cell? ⟨(ad649.add ((x12_2).toNat * 6)).block, (ad649.add ((x12_2).toNat * 6)).off + 5, none⟩ = some (.slice A649_5 ((rd_T61 t628 x12_2).f5).length c649_5) ∧ w'.cell? (ad649.add ((x12_2).toNat * 6)) = some (.int .i64 ((rd_T61 t628 x12_2).f0)) ∧ w'.cell? ⟨(ad649.add ((x12_2).toNat * 6)).block, (ad649.add ((x12_2).toNat * 6)).off + 1, none⟩ = some (.int .i64 ((rd_T61 t628 x12_2).f1)) ∧ w'.cell? ⟨(ad649.add ((x12_2).toNat * 6)).block, (ad649.add ((x12_2).toNat * 6)).off + 2, none⟩ = some (.int .i64 ((rd_T61 t628 x12_2).f2)) ∧ w'.cell? ⟨(ad649.add ((x12_2).toNat * 6)).block, (ad649.add ((x12_2).toNat * 6)).off + 3, none⟩ = some (.int .i64 ((rd_T61 t628 x12_2).f3)) ∧ w'.cell? ⟨(ad649.add ((x12_2).toNat * 6)).block, (ad649.add ((x12_2).toNat * 6)).off + 4, none⟩ = some (.int .i64 ((rd_T61 t628 x12_2).f4)) ∧ w'.cell? ⟨(ad649.add ((x12_2).toNat * 6)).block, (ad649.add ((x12_2).toNat * 6)).off + 5, none⟩ = some (.slice A649_5 ((rd_T61 t628 x12_2).f5).length c649_5) ∧ w'.cell? (ad649.add ((x12_2).toNat * 6)) = some (.int .i64 ((rd_T61 t628 x12_2).f0)) ∧ w'.cell? ⟨(ad649.add ((x12_2).toNat * 6)).block, (ad649.add ((x12_2).toNat * 6)).off + 1, none⟩ = some (.int .i64 ((rd_T61 t628 x12_2).f1)) ∧ w'.cell? ⟨(ad649.add ((x12_2).toNat * 6)).block, (ad649.add ((x12_2).toNat * 6)).off + 2, none⟩ = some (.int .i64 ((rd_T61 t628 x12_2).f2)) ∧ w'.cell? ⟨(ad649.add ((x12_2).toNat * 6)).block, (ad649.add ((x12_2).toNat * 6)).off + 3, none⟩ = some (.int .i64 ((rd_T61 t628 x12_2).f3)) ∧ w'.cell? ⟨(ad649.add ((x12_2).toNat * 6)).block, (ad649.add ((x12_2).toNat * 6)).off + 4, none⟩ = some (.int .i64 ((rd_T61 t628 x12_2).f4)) ∧ w'.cell? ⟨(ad649.add ((x12_2).toNat * 6)).block, (ad649.add ((x12_2).toNat * 6)).off + 5, none⟩ = some (.slice A649_5 ((rd_T61 t628 x12_2).f5).length c649_5)) (ds := []) #[O,O,O,O,O,O,O,O,O,O,O,O,O,O,O,O,O,O,O,O,O,O,O,O,O,O,O,O,O,O,O,O,O] (by kernel_rfl) rfl rfl ⟨hx649_0, hx649_1, hx649_2, hx649_3, hx649_4, hx649_5, hx650_0, hx650_1, hx650_2, hx650_3, hx650_4, hx650_5, hx651_0, hx651_1, hx651_2, hx651_3, hx651_4, hx651_5, hx652_0, hx652_1, hx652_2, hx652_3, hx652_4, hx652_5, hx653_0, hx653_1, hx653_2, hx653_3, hx653_4, hx653_5⟩ (fun hHeld => ?_); refine with_tabW dioramalaw36_DiffBytes.tab13 dioramalaw36_DiffBytes.bits13 (fun HT_ HW_ => ?_)
             generalize w30.drew = w34 at HO_6 HO_8 HO643 HO648 HB HL649_5 HL650_5 HL651_5 HL652_5 HL653_5 HR649_5 HR650_5 HR651_5 HR652_5 HR653_5 hx649_0 hx649_1 hx649_2 hx649_3 hx649_4 hx649_5 hx650_0 hx650_1 hx650_2 hx650_3 hx650_4 hx650_5 hx651_0 hx651_1 hx651_2 hx651_3 hx651_4 hx651_5 hx652_0 hx652_1 hx652_2 hx652_3 hx652_4 hx652_5 hx653_0 hx653_1 hx653_2 hx653_3 hx653_4 hx653_5 hHeld ⊢; refine pure_ (i := 0) (N := some 63) (v := ?_) (a' := ?_) #[I,O,O,O,O,O,O,O,O,O,O,O,O,O,O,O,O,O,O,O,O,O,O,O,O,O,O,O,O,O,O,O,O] rfl rfl (any_of HT_.out (by kernel_rfl)) (fun _ _ _ h => h) (Or.inl ⟨by rfl, ?_⟩) ?_ ?_; rotate_left; (· intro w'; go_simp; with_reducible rfl); rotate_left; (· simp only [Act.put, sA_, sB_, sC_, i64_w, i32_w]; rfl); refine pure_ (i := 1) (N := some 64) (v := ?_) (a' := ?_) #[I,I,O,O,O,O,O,O,O,O,O,O,O,O,O,O,O,O,O,O,O,O,O,O,O,O,O,O,O,O,O,O,O] rfl rfl (any_of HT_.out (by kernel_rfl)) (fun _ _ _ h => h) (Or.inl ⟨by rfl, ?_⟩) ?_ ?_; rotate_left; (· intro w'; go_simp; with_reducible rfl); rotate_left; (· simp only [Act.put, sA_, sB_, sC_, i64_w, i32_w]; rfl); refine pure_ (i := 2) (N := some 65) (v := ?_) (a' := ?_) #[I,I,I,O,O,O,O,O,O,O,O,O,O,O,O,O,O,O,O,O,O,O,O,O,O,O,O,O,O,O,O,O,O] rfl rfl (any_of HT_.out (by kernel_rfl)) (fun _ _ _ h => h) (Or.inl ⟨by rfl, ?_⟩) ?_ ?_; rotate_left; (· intro w'; go_simp; with_reducible rfl); rotate_left; (· simp only [Act.put, sA_, sB_, sC_, i64_w, i32_w]; rfl); refine pure_ (i := 3) (N := some 66) (v := ?_) (a' := ?_) #[I,I,I,I,O,O,O,O,O,O,O,O,O,O,O,O,O,O,O,O,O,O,O,O,O,O,O,O,O,O,O,O,O] rfl rfl (any_of HT_.out (by kernel_rfl)) (fun _ _ _ h => h) (Or.inl ⟨by rfl, ?_⟩) ?_ ?_; rotate_left; (· intro w'; go_simp; with_reducible rfl); rotate_left; (· simp only [Act.put, sA_, sB_, sC_, i64_w, i32_w]; rfl); refine pure_ (i := 4) (N := some 67) (v := ?_) (a' := ?_) #[I,I,I,I,I,O,O,O,O,O,O,O,O,O,O,O,O,O,O,O,O,O,O,O,O,O,O,O,O,O,O,O,O] rfl rfl (any_of HT_.out (by kernel_rfl)) (fun _ _ _ h => h) (Or.inl ⟨by rfl, ?_⟩) ?_ ?_; rotate_left; (· intro w'; go_simp; with_reducible rfl)
             rotate_left; (· simp only [Act.put, sA_, sB_, sC_, i64_w, i32_w]; rfl); refine pure_ (i := 5) (N := some 68) (v := ?_) (a' := ?_) #[I,I,I,I,I,I,O,O,O,O,O,O,O,O,O,O,O,O,O,O,O,O,O,O,O,O,O,O,O,O,O,O,O] rfl rfl (any_of HT_.out (by kernel_rfl)) (fun _ _ _ h => h) (Or.inl ⟨by rfl, ?_⟩) ?_ ?_; rotate_left; (· intro w'; go_simp; with_reducible rfl); rotate_left; (· simp only [Act.put, sA_, sB_, sC_, i64_w, i32_w]; rfl); refine pure_ (i := 6) (N := some 69) (v := ?_) (a' := ?_) #[I,I,I,I,I,I,I,O,O,O,O,O,O,O,O,O,O,O,O,O,O,O,O,O,O,O,O,O,O,O,O,O,O] rfl rfl (any_of HT_.out (by kernel_rfl)) (fun _ _ _ h => h) (Or.inl ⟨by rfl, ?_⟩) ?_ ?_; rotate_left; (· intro w'; go_simp; with_reducible rfl); rotate_left; (· simp only [Act.put, sA_, sB_, sC_, i64_w, i32_w]; rfl); refine pure_ (i := 7) (N := some 70) (v := ?_) (a' := ?_) #[I,I,I,I,I,I,I,I,O,O,O,O,O,O,O,O,O,O,O,O,O,O,O,O,O,O,O,O,O,O,O,O,O] rfl rfl (any_of HT_.out (by kernel_rfl)) (fun _ _ _ h => h) (Or.inl ⟨by rfl, ?_⟩) ?_ ?_; rotate_left; (· intro w'; go_simp; with_reducible rfl); rotate_left; (· simp only [Act.put, sA_, sB_, sC_, i64_w, i32_w]; rfl); refine pure_ (i := 9) (N := some 72) (v := ?_) (a' := ?_) #[I,I,I,I,I,I,I,I,O,I,O,O,O,O,O,O,O,O,O,O,O,O,O,O,O,O,O,O,O,O,O,O,O] rfl rfl (any_of HT_.out (by kernel_rfl)) (fun _ _ _ h => h) (Or.inl ⟨by rfl, ?_⟩) ?_ ?_; rotate_left; (· intro w'; go_simp; with_reducible rfl); rotate_left; (· simp only [Act.put, sA_, sB_, sC_, i64_w, i32_w]; rfl); refine pure_ (i := 10) (N := some 73) (v := ?_) (a' := ?_) #[I,I,I,I,I,I,I,I,O,I,I,O,O,O,O,O,O,O,O,O,O,O,O,O,O,O,O,O,O,O,O,O,O] rfl rfl (any_of HT_.out (by kernel_rfl)) (fun _ _ _ h => h) (Or.inl ⟨by rfl, ?_⟩) ?_ ?_; rotate_left; (· intro w'; go_simp; with_reducible rfl); rotate_left; (· simp only [Act.put, sA_, sB_, sC_, i64_w, i32_w]; rfl); refine pure_ (i := 11) (N := some 74) (v := ?_) (a' := ?_) #[I,I,I,I,I,I,I,I,O,I,I,I,O,O,O,O,O,O,O,O,O,O,O,O,O,O,O,O,O,O,O,O,O] rfl rfl (any_of HT_.out (by kernel_rfl)) (fun _ _ _ h => h) (Or.inl ⟨by rfl, ?_⟩) ?_ ?_
             rotate_left; (· intro w'; go_simp; with_reducible rfl); rotate_left; (· simp only [Act.put, sA_, sB_, sC_, i64_w, i32_w]; rfl); refine pure_ (i := 12) (N := some 75) (v := ?_) (a' := ?_) #[I,I,I,I,I,I,I,I,O,I,I,I,I,O,O,O,O,O,O,O,O,O,O,O,O,O,O,O,O,O,O,O,O] rfl rfl (any_of HT_.out (by kernel_rfl)) (fun _ _ _ h => h) (Or.inl ⟨by rfl, ?_⟩) ?_ ?_; rotate_left; (· intro w'; go_simp; with_reducible rfl); rotate_left; (· simp only [Act.put, sA_, sB_, sC_, i64_w, i32_w]; rfl); refine pure_ (i := 14) (N := some 77) (v := ?_) (a' := ?_) #[I,I,I,I,I,I,I,I,O,I,I,I,I,O,I,O,O,O,O,O,O,O,O,O,O,O,O,O,O,O,O,O,O] rfl rfl (any_of HT_.out (by kernel_rfl)) (fun _ _ _ h => h) (Or.inl ⟨by rfl, ?_⟩) ?_ ?_; rotate_left; (· intro w'; go_simp; with_reducible rfl); rotate_left; (· simp only [Act.put, sA_, sB_, sC_, i64_w, i32_w]; rfl); refine pure_ (i := 15) (N := some 78) (v := ?_) (a' := ?_) #[I,I,I,I,I,I,I,I,O,I,I,I,I,O,I,I,O,O,O,O,O,O,O,O,O,O,O,O,O,O,O,O,O] rfl rfl (any_of HT_.out (by kernel_rfl)) (fun _ _ _ h => h) (Or.inl ⟨by rfl, ?_⟩) ?_ ?_; rotate_left; (· intro w'; go_simp; with_reducible rfl); rotate_left; (· simp only [Act.put, sA_, sB_, sC_, i64_w, i32_w]; rfl); refine pure_ (i := 16) (N := some 79) (v := ?_) (a' := ?_) #[I,I,I,I,I,I,I,I,O,I,I,I,I,O,I,I,I,O,O,O,O,O,O,O,O,O,O,O,O,O,O,O,O] rfl rfl (any_of HT_.out (by kernel_rfl)) (fun _ _ _ h => h) (Or.inl ⟨by rfl, ?_⟩) ?_ ?_; rotate_left; (· intro w'; go_simp; with_reducible rfl); rotate_left; (· simp only [Act.put, sA_, sB_, sC_, i64_w, i32_w]; rfl); refine pure_ (i := 17) (N := some 80) (v := ?_) (a' := ?_) #[I,I,I,I,I,I,I,I,O,I,I,I,I,O,I,I,I,I,O,O,O,O,O,O,O,O,O,O,O,O,O,O,O] rfl rfl (any_of HT_.out (by kernel_rfl)) (fun _ _ _ h => h) (Or.inl ⟨by rfl, ?_⟩) ?_ ?_; rotate_left; (· intro w'; go_simp; with_reducible rfl); rotate_left; (· simp only [Act.put, sA_, sB_, sC_, i64_w, i32_w]; rfl); refine pure_ (i := 19) (N := some 82) (v := ?_) (a' := ?_) #[I,I,I,I,I,I,I,I,O,I,I,I,I,O,I,I,I,I,O,I,O,O,O,O,O,O,O,O,O,O,O,O,O] rfl rfl (any_of HT_.out (by kernel_rfl)) (fun _ _ _ h => h) (Or.inl ⟨by rfl, ?_⟩) ?_ ?_
             rotate_left; (· intro w'; go_simp; with_reducible rfl); rotate_left; (· simp only [Act.put, sA_, sB_, sC_, i64_w, i32_w]; rfl); refine pure_ (i := 20) (N := some 83) (v := ?_) (a' := ?_) #[I,I,I,I,I,I,I,I,O,I,I,I,I,O,I,I,I,I,O,I,I,O,O,O,O,O,O,O,O,O,O,O,O] rfl rfl (any_of HT_.out (by kernel_rfl)) (fun _ _ _ h => h) (Or.inl ⟨by rfl, ?_⟩) ?_ ?_; rotate_left; (· intro w'; go_simp; with_reducible rfl); rotate_left; (· simp only [Act.put, sA_, sB_, sC_, i64_w, i32_w]; rfl); refine pure_ (i := 21) (N := some 84) (v := ?_) (a' := ?_) #[I,I,I,I,I,I,I,I,O,I,I,I,I,O,I,I,I,I,O,I,I,I,O,O,O,O,O,O,O,O,O,O,O] rfl rfl (any_of HT_.out (by kernel_rfl)) (fun _ _ _ h => h) (Or.inl ⟨by rfl, ?_⟩) ?_ ?_; rotate_left; (· intro w'; go_simp; with_reducible rfl); rotate_left; (· simp only [Act.put, sA_, sB_, sC_, i64_w, i32_w]; rfl); refine pure_ (i := 22) (N := some 85) (v := ?_) (a' := ?_) #[I,I,I,I,I,I,I,I,O,I,I,I,I,O,I,I,I,I,O,I,I,I,I,O,O,O,O,O,O,O,O,O,O] rfl rfl (any_of HT_.out (by kernel_rfl)) (fun _ _ _ h => h) (Or.inl ⟨by rfl, ?_⟩) ?_ ?_; rotate_left; (· intro w'; go_simp; with_reducible rfl); rotate_left; (· simp only [Act.put, sA_, sB_, sC_, i64_w, i32_w]; rfl); refine pure_ (i := 24) (N := some 87) (v := ?_) (a' := ?_) #[I,I,I,I,I,I,I,I,O,I,I,I,I,O,I,I,I,I,O,I,I,I,I,O,I,O,O,O,O,O,O,O,O] rfl rfl (any_of HT_.out (by kernel_rfl)) (fun _ _ _ h => h) (Or.inl ⟨by rfl, ?_⟩) ?_ ?_; rotate_left; (· intro w'; go_simp; with_reducible rfl); rotate_left; (· simp only [Act.put, sA_, sB_, sC_, i64_w, i32_w]; rfl); refine pure_ (i := 25) (N := some 88) (v := ?_) (a' := ?_) #[I,I,I,I,I,I,I,I,O,I,I,I,I,O,I,I,I,I,O,I,I,I,I,O,I,I,O,O,O,O,O,O,O] rfl rfl (any_of HT_.out (by kernel_rfl)) (fun _ _ _ h => h) (Or.inl ⟨by rfl, ?_⟩) ?_ ?_; rotate_left; (· intro w'; go_simp; with_reducible rfl); rotate_left; (· simp only [Act.put, sA_, sB_, sC_, i64_w, i32_w]; rfl); refine pure_ (i := 26) (N := some 89) (v := ?_) (a' := ?_) #[I,I,I,I,I,I,I,I,O,I,I,I,I,O,I,I,I,I,O,I,I,I,I,O,I,I,I,O,O,O,O,O,O] rfl rfl (any_of HT_.out (by kernel_rfl)) (fun _ _ _ h => h) (Or.inl ⟨by rfl, ?_⟩) ?_ ?_
             rotate_left; (· intro w'; go_simp; with_reducible rfl); rotate_left; (· simp only [Act.put, sA_, sB_, sC_, i64_w, i32_w]; rfl); refine pure_ (i := 27) (N := some 90) (v := ?_) (a' := ?_) #[I,I,I,I,I,I,I,I,O,I,I,I,I,O,I,I,I,I,O,I,I,I,I,O,I,I,I,I,O,O,O,O,O] rfl rfl (any_of HT_.out (by kernel_rfl)) (fun _ _ _ h => h) (Or.inl ⟨by rfl, ?_⟩) ?_ ?_; rotate_left; (· intro w'; go_simp; with_reducible rfl); rotate_left; (· simp only [Act.put, sA_, sB_, sC_, i64_w, i32_w]; rfl); refine take_ (i := 8) (N := some 71) (v := ?_) (a' := ?_) #[I,I,I,I,I,I,I,I,I,I,I,I,I,O,I,I,I,I,O,I,I,I,I,O,I,I,I,I,O,O,O,O,O] rfl rfl (take_ofW HT_.out HW_.out (by kernel_rfl)) (fun _ _ _ h => h) (Or.inl ⟨by rfl, ?_⟩) hHeld ?_ ?_; rotate_left; (· rintro w' ⟨s0, s1, s2, s3, s4, s5, s6, s7, s8, s9, s10, s11, s12, s13, s14, s15, s16, s17, s18, s19, s20, s21, s22, s23, s24, s25, s26, s27, s28, s29⟩; go_simp; with_reducible rfl); rotate_left; (· simp only [Act.put, sA_, sB_, sC_, i64_w, i32_w]; rfl); refine take_ (i := 13) (N := some 76) (v := ?_) (a' := ?_) #[I,I,I,I,I,I,I,I,I,I,I,I,I,I,I,I,I,I,O,I,I,I,I,O,I,I,I,I,O,O,O,O,O] rfl rfl (take_ofW HT_.out HW_.out (by kernel_rfl)) (fun _ _ _ h => h) (Or.inl ⟨by rfl, ?_⟩) hHeld ?_ ?_; rotate_left; (· rintro w' ⟨s0, s1, s2, s3, s4, s5, s6, s7, s8, s9, s10, s11, s12, s13, s14, s15, s16, s17, s18, s19, s20, s21, s22, s23, s24, s25, s26, s27, s28, s29⟩; go_simp; with_reducible rfl); rotate_left; (· simp only [Act.put, sA_, sB_, sC_, i64_w, i32_w]; rfl); refine take_ (i := 18) (N := some 81) (v := ?_) (a' := ?_) #[I,I,I,I,I,I,I,I,I,I,I,I,I,I,I,I,I,I,I,I,I,I,I,O,I,I,I,I,O,O,O,O,O] rfl rfl (take_ofW HT_.out HW_.out (by kernel_rfl)) (fun _ _ _ h => h) (Or.inl ⟨by rfl, ?_⟩) hHeld ?_ ?_; rotate_left; (· rintro w' ⟨s0, s1, s2, s3, s4, s5, s6, s7, s8, s9, s10, s11, s12, s13, s14, s15, s16, s17, s18, s19, s20, s21, s22, s23, s24, s25, s26, s27, s28, s29⟩; go_simp; with_reducible rfl); rotate_left; (· simp only [Act.put, sA_, sB_, sC_, i64_w, i32_w]; rfl); refine take_ (i := 23) (N := some 86) (v := ?_) (a' := ?_) #[I,I,I,I,I,I,I,I,I,I,I,I,I,I,I,I,I,I,I,I,I,I,I,I,I,I,I,I,O,O,O,O,O] rfl rfl (take_ofW HT_.out HW_.out (by kernel_rfl)) (fun _ _ _ h => h) (Or.inl ⟨by rfl, ?_⟩) hHeld ?_ ?_
             rotate_left; (· rintro w' ⟨s0, s1, s2, s3, s4, s5, s6, s7, s8, s9, s10, s11, s12, s13, s14, s15, s16, s17, s18, s19, s20, s21, s22, s23, s24, s25, s26, s27, s28, s29⟩; go_simp; with_reducible rfl); rotate_left; (· simp only [Act.put, sA_, sB_, sC_, i64_w, i32_w]; rfl); refine take_ (i := 28) (N := some 91) (v := ?_) (a' := ?_) #[I,I,I,I,I,I,I,I,I,I,I,I,I,I,I,I,I,I,I,I,I,I,I,I,I,I,I,I,I,O,O,O,O] rfl rfl (take_ofW HT_.out HW_.out (by kernel_rfl)) (fun _ _ _ h => h) (Or.inl ⟨by rfl, ?_⟩) hHeld ?_ ?_; rotate_left; (· rintro w' ⟨s0, s1, s2, s3, s4, s5, s6, s7, s8, s9, s10, s11, s12, s13, s14, s15, s16, s17, s18, s19, s20, s21, s22, s23, s24, s25, s26, s27, s28, s29⟩; go_simp; with_reducible rfl); rotate_left; (· simp only [Act.put, sA_, sB_, sC_, i64_w, i32_w]; rfl); refine one_ (i := 29) (N := some 92) #[I,I,I,I,I,I,I,I,I,I,I,I,I,I,I,I,I,I,I,I,I,I,I,I,I,I,I,I,I,I,O,O,O] rfl rfl (one_of HT_.out (by kernel_rfl)) (by decide) (fun K hK => ?_); refine Kd.R_lit_step (Kd.int .i64) _ 3 ?hg (N := 92) ?hd (xs := ([(rd_T61 t628 x12_2).f0, (rd_T61 t628 x12_2).f1, (rd_T61 t628 x12_2).f2, (rd_T61 t628 x12_2).f3, (rd_T61 t628 x12_2).f4] : List Int)) (inner := [.int .i64 ((rd_T61 t628 x12_2).f0), .int .i64 ((rd_T61 t628 x12_2).f1), .int .i64 ((rd_T61 t628 x12_2).f2), .int .i64 ((rd_T61 t628 x12_2).f3), .int .i64 ((rd_T61 t628 x12_2).f4)]) (ok := fun _ => True) (okp := fun _ => True) ?hr ?hp (fun _ hk => hk) trivial (Below.refl _ _) (Nat.le_refl _) (by simp) ?_; (case hd => rfl); (case hg => rfl); (case hr => first | (go_simp; done) | (go_simp; rfl)); (case hp => exact (Reps.one (show Kd.M (Kd.int .i64) _ _ _ ((rd_T61 t628 x12_2).f0) [.int .i64 ((rd_T61 t628 x12_2).f0)] from rfl) (Reps.one (show Kd.M (Kd.int .i64) _ _ _ ((rd_T61 t628 x12_2).f1) [.int .i64 ((rd_T61 t628 x12_2).f1)] from rfl) (Reps.one (show Kd.M (Kd.int .i64) _ _ _ ((rd_T61 t628 x12_2).f2) [.int .i64 ((rd_T61 t628 x12_2).f2)] from rfl) (Reps.one (show Kd.M (Kd.int .i64) _ _ _ ((rd_T61 t628 x12_2).f3) [.int .i64 ((rd_T61 t628 x12_2).f3)] from rfl) (Reps.one (show Kd.M (Kd.int .i64) _ _ _ ((rd_T61 t628 x12_2).f4) [.int .i64 ((rd_T61 t628 x12_2).f4)] from rfl) (Reps.none _ _))))))); intro v655 w35 ho36 hb hg_ hnew_; have HS0_ := (hb.cell (World.block_lt_of_cell? _ _ (hHeld.1))).trans (hHeld.1); have HS1_ := (hb.cell (World.block_lt_of_cell? _ _ (hHeld.2.1))).trans (hHeld.2.1); have HS2_ := (hb.cell (World.block_lt_of_cell? _ _ (hHeld.2.2.1))).trans (hHeld.2.2.1); have HS3_ := (hb.cell (World.block_lt_of_cell? _ _ (hHeld.2.2.2.1))).trans (hHeld.2.2.2.1); have HS4_ := (hb.cell (World.block_lt_of_cell? _ _ (hHeld.2.2.2.2.1))).trans (hHeld.2.2.2.2.1); have HS5_ := (hb.cell (World.block_lt_of_cell? _ _ (hHeld.2.2.2.2.2.1))).trans (hHeld.2.2.2.2.2.1)
             have HS6_ := (hb.cell (World.block_lt_of_cell? _ _ (hHeld.2.2.2.2.2.2.1))).trans (hHeld.2.2.2.2.2.2.1); have HS7_ := (hb.cell (World.block_lt_of_cell? _ _ (hHeld.2.2.2.2.2.2.2.1))).trans (hHeld.2.2.2.2.2.2.2.1); have HS8_ := (hb.cell (World.block_lt_of_cell? _ _ (hHeld.2.2.2.2.2.2.2.2.1))).trans (hHeld.2.2.2.2.2.2.2.2.1); have HS9_ := (hb.cell (World.block_lt_of_cell? _ _ (hHeld.2.2.2.2.2.2.2.2.2.1))).trans (hHeld.2.2.2.2.2.2.2.2.2.1); have HS10_ := (hb.cell (World.block_lt_of_cell? _ _ (hHeld.2.2.2.2.2.2.2.2.2.2.1))).trans (hHeld.2.2.2.2.2.2.2.2.2.2.1); have HS11_ := (hb.cell (World.block_lt_of_cell? _ _ (hHeld.2.2.2.2.2.2.2.2.2.2.2.1))).trans (hHeld.2.2.2.2.2.2.2.2.2.2.2.1); have HS12_ := (hb.cell (World.block_lt_of_cell? _ _ (hHeld.2.2.2.2.2.2.2.2.2.2.2.2.1))).trans (hHeld.2.2.2.2.2.2.2.2.2.2.2.2.1); have HS13_ := (hb.cell (World.block_lt_of_cell? _ _ (hHeld.2.2.2.2.2.2.2.2.2.2.2.2.2.1))).trans (hHeld.2.2.2.2.2.2.2.2.2.2.2.2.2.1); have HS14_ := (hb.cell (World.block_lt_of_cell? _ _ (hHeld.2.2.2.2.2.2.2.2.2.2.2.2.2.2.1))).trans (hHeld.2.2.2.2.2.2.2.2.2.2.2.2.2.2.1); have HS15_ := (hb.cell (World.block_lt_of_cell? _ _ (hHeld.2.2.2.2.2.2.2.2.2.2.2.2.2.2.2.1))).trans (hHeld.2.2.2.2.2.2.2.2.2.2.2.2.2.2.2.1); have HS16_ := (hb.cell (World.block_lt_of_cell? _ _ (hHeld.2.2.2.2.2.2.2.2.2.2.2.2.2.2.2.2.1))).trans (hHeld.2.2.2.2.2.2.2.2.2.2.2.2.2.2.2.2.1); have HS17_ := (hb.cell (World.block_lt_of_cell? _ _ (hHeld.2.2.2.2.2.2.2.2.2.2.2.2.2.2.2.2.2.1))).trans (hHeld.2.2.2.2.2.2.2.2.2.2.2.2.2.2.2.2.2.1); have HS18_ := (hb.cell (World.block_lt_of_cell? _ _ (hHeld.2.2.2.2.2.2.2.2.2.2.2.2.2.2.2.2.2.2.1))).trans (hHeld.2.2.2.2.2.2.2.2.2.2.2.2.2.2.2.2.2.2.1); have HS19_ := (hb.cell (World.block_lt_of_cell? _ _ (hHeld.2.2.2.2.2.2.2.2.2.2.2.2.2.2.2.2.2.2.2.1))).trans (hHeld.2.2.2.2.2.2.2.2.2.2.2.2.2.2.2.2.2.2.2.1); have HS20_ := (hb.cell (World.block_lt_of_cell? _ _ (hHeld.2.2.2.2.2.2.2.2.2.2.2.2.2.2.2.2.2.2.2.2.1))).trans (hHeld.2.2.2.2.2.2.2.2.2.2.2.2.2.2.2.2.2.2.2.2.1); have HS21_ := (hb.cell (World.block_lt_of_cell? _ _ (hHeld.2.2.2.2.2.2.2.2.2.2.2.2.2.2.2.2.2.2.2.2.2.1))).trans (hHeld.2.2.2.2.2.2.2.2.2.2.2.2.2.2.2.2.2.2.2.2.2.1); have HS22_ := (hb.cell (World.block_lt_of_cell? _ _ (hHeld.2.2.2.2.2.2.2.2.2.2.2.2.2.2.2.2.2.2.2.2.2.2.1))).trans (hHeld.2.2.2.2.2.2.2.2.2.2.2.2.2.2.2.2.2.2.2.2.2.2.1); have HS23_ := (hb.cell (World.block_lt_of_cell? _ _ (hHeld.2.2.2.2.2.2.2.2.2.2.2.2.2.2.2.2.2.2.2.2.2.2.2.1))).trans (hHeld.2.2.2.2.2.2.2.2.2.2.2.2.2.2.2.2.2.2.2.2.2.2.2.1); have HS24_ := (hb.cell (World.block_lt_of_cell? _ _ (hHeld.2.2.2.2.2.2.2.2.2.2.2.2.2.2.2.2.2.2.2.2.2.2.2.2.1))).trans (hHeld.2.2.2.2.2.2.2.2.2.2.2.2.2.2.2.2.2.2.2.2.2.2.2.2.1); have HS25_ := (hb.cell (World.block_lt_of_cell? _ _ (hHeld.2.2.2.2.2.2.2.2.2.2.2.2.2.2.2.2.2.2.2.2.2.2.2.2.2.1))).trans (hHeld.2.2.2.2.2.2.2.2.2.2.2.2.2.2.2.2.2.2.2.2.2.2.2.2.2.1); have HS26_ := (hb.cell (World.block_lt_of_cell? _ _ (hHeld.2.2.2.2.2.2.2.2.2.2.2.2.2.2.2.2.2.2.2.2.2.2.2.2.2.2.1))).trans (hHeld.2.2.2.2.2.2.2.2.2.2.2.2.2.2.2.2.2.2.2.2.2.2.2.2.2.2.1); have HS27_ := (hb.cell (World.block_lt_of_cell? _ _ (hHeld.2.2.2.2.2.2.2.2.2.2.2.2.2.2.2.2.2.2.2.2.2.2.2.2.2.2.2.1))).trans (hHeld.2.2.2.2.2.2.2.2.2.2.2.2.2.2.2.2.2.2.2.2.2.2.2.2.2.2.2.1)
             have HS28_ := (hb.cell (World.block_lt_of_cell? _ _ (hHeld.2.2.2.2.2.2.2.2.2.2.2.2.2.2.2.2.2.2.2.2.2.2.2.2.2.2.2.2.1))).trans (hHeld.2.2.2.2.2.2.2.2.2.2.2.2.2.2.2.2.2.2.2.2.2.2.2.2.2.2.2.2.1); have HS29_ := (hb.cell (World.block_lt_of_cell? _ _ (hHeld.2.2.2.2.2.2.2.2.2.2.2.2.2.2.2.2.2.2.2.2.2.2.2.2.2.2.2.2.2))).trans (hHeld.2.2.2.2.2.2.2.2.2.2.2.2.2.2.2.2.2.2.2.2.2.2.2.2.2.2.2.2.2); clear hg_ hnew_
             (first | rw [← Ny654.out] at ho36 | (simp only [Int.reduceToNat] at ho36; rw [← Ny654.out] at ho36))
             have n0_ := Aside0.mk (Kd.N_elder' (by (with_reducible repeat (first | apply Kd.N_alloc | apply Kd.N_drewN | apply Kd.N_drew)); exact HO_6.out) (Kd.R_base ho36) hb); have n1_ := Aside0.mk (Kd.R_below (by (with_reducible repeat (first | apply Kd.R_alloc | apply Kd.R_drewN | apply Kd.R_drew)); exact HO_8.out) hb); have n2_ := Aside0.mk (Kd.V_elder' (by (with_reducible repeat (first | apply Kd.V_alloc | apply Kd.V_drewN | apply Kd.V_drew)); exact HO643.out) (Kd.R_base ho36) hb); have n3_ := Aside0.mk (Kd.R_elder' (by (with_reducible repeat (first | apply Kd.R_alloc | apply Kd.R_drewN | apply Kd.R_drew)); exact HO648.out) (Kd.R_base ho36) hb); have n4_ := Aside0.mk (Kd.V_elder' (by (with_reducible repeat (first | apply Kd.V_alloc | apply Kd.V_drewN | apply Kd.V_drew)); exact HL649_5.out) (Kd.R_base ho36) hb); have n5_ := Aside0.mk (Kd.V_elder' (by (with_reducible repeat (first | apply Kd.V_alloc | apply Kd.V_drewN | apply Kd.V_drew)); exact HL650_5.out) (Kd.R_base ho36) hb); have n6_ := Aside0.mk (Kd.V_elder' (by (with_reducible repeat (first | apply Kd.V_alloc | apply Kd.V_drewN | apply Kd.V_drew)); exact HL651_5.out) (Kd.R_base ho36) hb); have n7_ := Aside0.mk (Kd.V_elder' (by (with_reducible repeat (first | apply Kd.V_alloc | apply Kd.V_drewN | apply Kd.V_drew)); exact HL652_5.out) (Kd.R_base ho36) hb); have n8_ := Aside0.mk (Kd.V_elder' (by (with_reducible repeat (first | apply Kd.V_alloc | apply Kd.V_drewN | apply Kd.V_drew)); exact HL653_5.out) (Kd.R_base ho36) hb); have n9_ := Aside0.mk (Kd.R_lower (Kd.R_new' ho36 (Kd.R_lt (by (with_reducible repeat (first | apply Kd.R_alloc | apply Kd.R_drewN | apply Kd.R_drew)); exact HO648.out))) (below_size (by repeat (first | (with_reducible first | exact HB.out | apply below_alloc | apply pw_below_drewN | apply below_drew1) | exact HB.out)))); have n10_ := Aside0.mk (Kd.C_below (by repeat (first | (with_reducible exact HR649_5.out) | (with_reducible refine Kd.C_alloc ?_ _) | (with_reducible refine Kd.C_drewN ?_ _) | (with_reducible refine Kd.C_drew ?_) | exact HR649_5.out)) hb); have n11_ := Aside0.mk (Kd.C_below (by repeat (first | (with_reducible exact HR650_5.out) | (with_reducible refine Kd.C_alloc ?_ _) | (with_reducible refine Kd.C_drewN ?_ _) | (with_reducible refine Kd.C_drew ?_) | exact HR650_5.out)) hb); have n12_ := Aside0.mk (Kd.C_below (by repeat (first | (with_reducible exact HR651_5.out) | (with_reducible refine Kd.C_alloc ?_ _) | (with_reducible refine Kd.C_drewN ?_ _) | (with_reducible refine Kd.C_drew ?_) | exact HR651_5.out)) hb); have n13_ := Aside0.mk (Kd.C_below (by repeat (first | (with_reducible exact HR652_5.out) | (with_reducible refine Kd.C_alloc ?_ _) | (with_reducible refine Kd.C_drewN ?_ _) | (with_reducible refine Kd.C_drew ?_) | exact HR652_5.out)) hb); have n14_ := Aside0.mk (Kd.C_below (by repeat (first | (with_reducible exact HR653_5.out) | (with_reducible refine Kd.C_alloc ?_ _) | (with_reducible refine Kd.C_drewN ?_ _) | (with_reducible refine Kd.C_drew ?_) | exact HR653_5.out)) hb); have n15_ := Aside0.mk (below_step (by repeat (first | (with_reducible first | exact HB.out | apply below_alloc | apply pw_below_drewN | apply below_drew1) | exact HB.out)) hb)
             clear HO_6; clear HO_8; clear HO643; clear HO648; clear HL649_5; clear HL650_5; clear HL651_5; clear HL652_5; clear HL653_5; clear HR649_5; clear HR650_5; clear HR651_5; clear HR652_5; clear HR653_5; clear HB; have HO_6 := n0_; have HO_8 := n1_; have HO643 := n2_; have HO648 := n3_; have HL649_5 := n4_; have HL650_5 := n5_; have HL651_5 := n6_; have HL652_5 := n7_; have HL653_5 := n8_; have HO656 := n9_; have HR649_5 := n10_; have HR650_5 := n11_; have HR651_5 := n12_; have HR652_5 := n13_; have HR653_5 := n14_; have HB := n15_; clear n0_ n1_ n2_ n3_ n4_ n5_ n6_ n7_ n8_ n9_ n10_ n11_ n12_ n13_ n14_ n15_; clear hb ho36; obtain ⟨Ao37, co37, eo37⟩ := Kd.R_slice HO648.out
             (first | subst eo37 | (injection eo37 with f1_ f2_ f3_; have f4_ := f1_.symm; have f5_ := f3_.symm; clear f1_ f2_ f3_; subst f4_; subst f5_))
             obtain ⟨Ao38, co38, eo38⟩ := Kd.R_slice HO656.out
             (first | subst eo38 | (injection eo38 with f1_ f2_ f3_; have f4_ := f1_.symm; have f5_ := f3_.symm; clear f1_ f2_ f3_; subst f4_; subst f5_))
             refine hK.out _ _ ⟨HS0_, HS1_, HS2_, HS3_, HS4_, HS5_, HS6_, HS7_, HS8_, HS9_, HS10_, HS11_, HS12_, HS13_, HS14_, HS15_, HS16_, HS17_, HS18_, HS19_, HS20_, HS21_, HS22_, HS23_, HS24_, HS25_, HS26_, HS27_, HS28_, HS29_⟩ (fun hHeld => ?_); clear hK K; refine norm_ (a' := ?_) ?_ ?_; rotate_left
             ·show Act.put _ (some 92) _ = _
              simp only [Act.put, sA_, sB_, sC_, i64_w, i32_w]; rfl
             refine one_ (i := 30) (N := some 93) #[I,I,I,I,I,I,I,I,I,I,I,I,I,I,I,I,I,I,I,I,I,I,I,I,I,I,I,I,I,I,I,O,O] rfl rfl (one_of HT_.out (by kernel_rfl)) (by decide) (fun K hK => ?_); refine goes_ Try.func31 (by kernel_rfl) rfl #[.slice Ao37 t644.length co37, .slice Ao38 y654.length co38] (by rfl) rfl rfl (by (try simp only [List.map_toArray, List.map_cons, List.map_nil]); first | done | rfl | (simp only [List.length_drop, List.length_take]; rfl)) ?_
             with_reducible refine (dioramaref01_SameInts.calls k2 _ _ t644 _ _ y654 t657 _ ?side1 ?side2 ?side3 ?side4 A33.out).mono ?_
             (case side1 => repeat (first | exact (Kd.R_reads' HO648.out).2.2 | (with_reducible refine Kd.C_alloc ?_ _) | (with_reducible refine Kd.C_drewN ?_ _) | (with_reducible refine Kd.C_drew ?_)))
             (case side2 => exact (Kd.R_reads' HO648.out).2.1)
             (case side3 => repeat (first | exact (Kd.R_reads' HO656.out).2.2 | (with_reducible refine Kd.C_alloc ?_ _) | (with_reducible refine Kd.C_drewN ?_ _) | (with_reducible refine Kd.C_drew ?_)))
             (case side4 => exact (Kd.R_reads' HO656.out).2.1)
             rintro e w' ⟨rfl, ⟨nd, rfl⟩⟩; refine ⟨_, rfl, ?_⟩; refine hK.out _ _ ⟨hHeld.1, hHeld.2.1, hHeld.2.2.1, hHeld.2.2.2.1, hHeld.2.2.2.2.1, hHeld.2.2.2.2.2.1, hHeld.2.2.2.2.2.2.1, hHeld.2.2.2.2.2.2.2.1, hHeld.2.2.2.2.2.2.2.2.1, hHeld.2.2.2.2.2.2.2.2.2.1, hHeld.2.2.2.2.2.2.2.2.2.2.1, hHeld.2.2.2.2.2.2.2.2.2.2.2.1, hHeld.2.2.2.2.2.2.2.2.2.2.2.2.1, hHeld.2.2.2.2.2.2.2.2.2.2.2.2.2.1, hHeld.2.2.2.2.2.2.2.2.2.2.2.2.2.2.1, hHeld.2.2.2.2.2.2.2.2.2.2.2.2.2.2.2.1, hHeld.2.2.2.2.2.2.2.2.2.2.2.2.2.2.2.2.1, hHeld.2.2.2.2.2.2.2.2.2.2.2.2.2.2.2.2.2.1, hHeld.2.2.2.2.2.2.2.2.2.2.2.2.2.2.2.2.2.2.1, hHeld.2.2.2.2.2.2.2.2.2.2.2.2.2.2.2.2.2.2.2.1, hHeld.2.2.2.2.2.2.2.2.2.2.2.2.2.2.2.2.2.2.2.2.1, hHeld.2.2.2.2.2.2.2.2.2.2.2.2.2.2.2.2.2.2.2.2.2.1, hHeld.2.2.2.2.2.2.2.2.2.2.2.2.2.2.2.2.2.2.2.2.2.2.1, hHeld.2.2.2.2.2.2.2.2.2.2.2.2.2.2.2.2.2.2.2.2.2.2.2.1, hHeld.2.2.2.2.2.2.2.2.2.2.2.2.2.2.2.2.2.2.2.2.2.2.2.2.1, hHeld.2.2.2.2.2.2.2.2.2.2.2.2.2.2.2.2.2.2.2.2.2.2.2.2.2.1, hHeld.2.2.2.2.2.2.2.2.2.2.2.2.2.2.2.2.2.2.2.2.2.2.2.2.2.2.1, hHeld.2.2.2.2.2.2.2.2.2.2.2.2.2.2.2.2.2.2.2.2.2.2.2.2.2.2.2.1, hHeld.2.2.2.2.2.2.2.2.2.2.2.2.2.2.2.2.2.2.2.2.2.2.2.2.2.2.2.2.1, hHeld.2.2.2.2.2.2.2.2.2.2.2.2.2.2.2.2.2.2.2.2.2.2.2.2.2.2.2.2.2⟩ (fun hHeld => ?_); clear hK K; refine norm_ (a' := ?_) ?_ ?_; rotate_left
             ·show Act.put _ (some 93) _ = _
              simp only [Act.put, sA_, sB_, sC_, i64_w, i32_w]; rfl
             refine pure_ (i := 31) (N := some 94) (v := ?_) (a' := ?_) #[I,I,I,I,I,I,I,I,I,I,I,I,I,I,I,I,I,I,I,I,I,I,I,I,I,I,I,I,I,I,I,I,O] rfl rfl (any_of HT_.out (by kernel_rfl)) (fun _ _ _ h => h) (Or.inl ⟨by rfl, ?_⟩) ?_ ?_; rotate_left; (· intro w'; go_simp; with_reducible rfl); rotate_left; (· simp only [Act.put, sA_, sB_, sC_, i64_w, i32_w]; rfl); refine pure_ (i := 32) (N := some 95) (v := ?_) (a' := ?_) #[I,I,I,I,I,I,I,I,I,I,I,I,I,I,I,I,I,I,I,I,I,I,I,I,I,I,I,I,I,I,I,I,I] rfl rfl (any_of HT_.out (by kernel_rfl)) (fun _ _ _ h => h) (Or.inl ⟨by rfl, ?_⟩) ?_ ?_; rotate_left; (· intro w'; go_simp; with_reducible rfl); rotate_left; (· simp only [Act.put, sA_, sB_, sC_, i64_w, i32_w]; rfl); refine done_ (done_of HT_.out (by kernel_rfl)) ?_
             try go_wp2
             go_meet
             case rel => exact ⟨_, (!t657), (by first | rfl | (simp; done) | (simp [*]; done)), H', ⟨by have := HJ9.out; have := HK2.out; first | omega | exact Nat.le_refl _⟩, ⟨by (with_reducible repeat (first | apply Kd.N_alloc | apply Kd.N_drewN | apply Kd.N_drew)); exact Kd.N_mono HO_6.out (fun _ hk => hk.1.1)⟩, ⟨by (with_reducible repeat (first | apply Kd.R_alloc | apply Kd.R_drewN | apply Kd.R_drew)); exact HO_8.out⟩, ⟨by repeat (first | (with_reducible first | exact HB.out | apply below_alloc | apply pw_below_drewN | apply below_drew1) | exact HB.out)⟩⟩
            (· rw [if_neg c32] at H; exact absurd H (by simp))
           ·rw [if_neg c31] at H
            have c31b0 : (t646 == 0) = false := beq_eq_false_iff_ne.mpr c31; have c31b1 : (t646 != 0) = true := bne_iff_ne.mpr c31
            (first | rw [c31b0] | (simp only [i64_w, i32_w]; rw [c31b0]) | skip)
            have H' := Aside0.mk H; clear H
            try go_wp2
            have n0_ := Aside0.mk (Kd.N_drew HO_6.out); have n1_ := Aside0.mk (Kd.R_drew HO_8.out); have n2_ := Aside0.mk (Kd.V_drew HO643.out); have n3_ := Aside0.mk (Kd.R_drew HO648.out); have n4_ := Aside0.mk (below_drew1 HB.out); clear HO_6; clear HO_8; clear HO643; clear HO648; clear HB; have HO_6 := n0_; have HO_8 := n1_; have HO643 := n2_; have HO648 := n3_; have HB := n4_; clear n0_ n1_ n2_ n3_ n4_; refine start_ (n := 33) (S := fun w' => True) (ds := []) #[O,O,O,O,O,O,O,O,O,O,O,O,O,O,O,O,O,O,O,O,O,O,O,O,O,O,O,O,O,O,O,O,O] (by kernel_rfl) rfl rfl trivial (fun hHeld => ?_); refine with_tabW dioramalaw36_DiffBytes.tab13 dioramalaw36_DiffBytes.bits13 (fun HT_ HW_ => ?_); generalize w30.drew = w39 at HO_6 HO_8 HO643 HO648 HB hHeld ⊢; refine pure_ (i := 0) (N := some 63) (v := ?_) (a' := ?_) #[I,O,O,O,O,O,O,O,O,O,O,O,O,O,O,O,O,O,O,O,O,O,O,O,O,O,O,O,O,O,O,O,O] rfl rfl (any_of HT_.out (by kernel_rfl)) (fun _ _ _ h => h) (Or.inl ⟨by rfl, ?_⟩) ?_ ?_; rotate_left; (· intro w'; go_simp; with_reducible rfl); rotate_left; (· simp only [Act.put, sA_, sB_, sC_, i64_w, i32_w]; rfl); refine pure_ (i := 1) (N := some 64) (v := ?_) (a' := ?_) #[I,I,O,O,O,O,O,O,O,O,O,O,O,O,O,O,O,O,O,O,O,O,O,O,O,O,O,O,O,O,O,O,O] rfl rfl (any_of HT_.out (by kernel_rfl)) (fun _ _ _ h => h) (Or.inl ⟨by rfl, ?_⟩) ?_ ?_; rotate_left; (· intro w'; go_simp; with_reducible rfl); rotate_left; (· simp only [Act.put, sA_, sB_, sC_, i64_w, i32_w]; rfl); refine pure_ (i := 2) (N := some 65) (v := ?_) (a' := ?_) #[I,I,I,O,O,O,O,O,O,O,O,O,O,O,O,O,O,O,O,O,O,O,O,O,O,O,O,O,O,O,O,O,O] rfl rfl (any_of HT_.out (by kernel_rfl)) (fun _ _ _ h => h) (Or.inl ⟨by rfl, ?_⟩) ?_ ?_; rotate_left; (· intro w'; go_simp; with_reducible rfl); rotate_left; (· simp only [Act.put, sA_, sB_, sC_, i64_w, i32_w]; rfl); refine pure_ (i := 3) (N := some 66) (v := undef) (a' := ?_) #[I,I,I,I,O,O,O,O,O,O,O,O,O,O,O,O,O,O,O,O,O,O,O,O,O,O,O,O,O,O,O,O,O] rfl rfl (any_of HT_.out (by kernel_rfl)) (fun _ _ _ h => h) (Or.inr ⟨by rfl, rfl⟩) ?_ ?_; rotate_left; (· simp only [Act.put, sA_, sB_, sC_, i64_w, i32_w]; rfl)
            refine pure_ (i := 4) (N := some 67) (v := undef) (a' := ?_) #[I,I,I,I,I,O,O,O,O,O,O,O,O,O,O,O,O,O,O,O,O,O,O,O,O,O,O,O,O,O,O,O,O] rfl rfl (any_of HT_.out (by kernel_rfl)) (fun _ _ _ h => h) (Or.inr ⟨by rfl, rfl⟩) ?_ ?_; rotate_left; (· simp only [Act.put, sA_, sB_, sC_, i64_w, i32_w]; rfl); refine pure_ (i := 5) (N := some 68) (v := undef) (a' := ?_) #[I,I,I,I,I,I,O,O,O,O,O,O,O,O,O,O,O,O,O,O,O,O,O,O,O,O,O,O,O,O,O,O,O] rfl rfl (any_of HT_.out (by kernel_rfl)) (fun _ _ _ h => h) (Or.inr ⟨by rfl, rfl⟩) ?_ ?_; rotate_left; (· simp only [Act.put, sA_, sB_, sC_, i64_w, i32_w]; rfl); refine pure_ (i := 6) (N := some 69) (v := undef) (a' := ?_) #[I,I,I,I,I,I,I,O,O,O,O,O,O,O,O,O,O,O,O,O,O,O,O,O,O,O,O,O,O,O,O,O,O] rfl rfl (any_of HT_.out (by kernel_rfl)) (fun _ _ _ h => h) (Or.inr ⟨by rfl, rfl⟩) ?_ ?_; rotate_left; (· simp only [Act.put, sA_, sB_, sC_, i64_w, i32_w]; rfl); refine pure_ (i := 7) (N := some 70) (v := undef) (a' := ?_) #[I,I,I,I,I,I,I,I,O,O,O,O,O,O,O,O,O,O,O,O,O,O,O,O,O,O,O,O,O,O,O,O,O] rfl rfl (any_of HT_.out (by kernel_rfl)) (fun _ _ _ h => h) (Or.inr ⟨by rfl, rfl⟩) ?_ ?_; rotate_left; (· simp only [Act.put, sA_, sB_, sC_, i64_w, i32_w]; rfl); refine pure_ (i := 8) (N := some 71) (v := undef) (a' := ?_) #[I,I,I,I,I,I,I,I,I,O,O,O,O,O,O,O,O,O,O,O,O,O,O,O,O,O,O,O,O,O,O,O,O] rfl rfl (any_of HT_.out (by kernel_rfl)) (fun _ _ _ h => h) (Or.inr ⟨by rfl, rfl⟩) ?_ ?_; rotate_left; (· simp only [Act.put, sA_, sB_, sC_, i64_w, i32_w]; rfl); refine pure_ (i := 9) (N := some 72) (v := undef) (a' := ?_) #[I,I,I,I,I,I,I,I,I,I,O,O,O,O,O,O,O,O,O,O,O,O,O,O,O,O,O,O,O,O,O,O,O] rfl rfl (any_of HT_.out (by kernel_rfl)) (fun _ _ _ h => h) (Or.inr ⟨by rfl, rfl⟩) ?_ ?_; rotate_left; (· simp only [Act.put, sA_, sB_, sC_, i64_w, i32_w]; rfl); refine pure_ (i := 10) (N := some 73) (v := undef) (a' := ?_) #[I,I,I,I,I,I,I,I,I,I,I,O,O,O,O,O,O,O,O,O,O,O,O,O,O,O,O,O,O,O,O,O,O] rfl rfl (any_of HT_.out (by kernel_rfl)) (fun _ _ _ h => h) (Or.inr ⟨by rfl, rfl⟩) ?_ ?_
            rotate_left; (· simp only [Act.put, sA_, sB_, sC_, i64_w, i32_w]; rfl); refine pure_ (i := 11) (N := some 74) (v := undef) (a' := ?_) #[I,I,I,I,I,I,I,I,I,I,I,I,O,O,O,O,O,O,O,O,O,O,O,O,O,O,O,O,O,O,O,O,O] rfl rfl (any_of HT_.out (by kernel_rfl)) (fun _ _ _ h => h) (Or.inr ⟨by rfl, rfl⟩) ?_ ?_; rotate_left; (· simp only [Act.put, sA_, sB_, sC_, i64_w, i32_w]; rfl); refine pure_ (i := 12) (N := some 75) (v := undef) (a' := ?_) #[I,I,I,I,I,I,I,I,I,I,I,I,I,O,O,O,O,O,O,O,O,O,O,O,O,O,O,O,O,O,O,O,O] rfl rfl (any_of HT_.out (by kernel_rfl)) (fun _ _ _ h => h) (Or.inr ⟨by rfl, rfl⟩) ?_ ?_; rotate_left; (· simp only [Act.put, sA_, sB_, sC_, i64_w, i32_w]; rfl); refine pure_ (i := 13) (N := some 76) (v := undef) (a' := ?_) #[I,I,I,I,I,I,I,I,I,I,I,I,I,I,O,O,O,O,O,O,O,O,O,O,O,O,O,O,O,O,O,O,O] rfl rfl (any_of HT_.out (by kernel_rfl)) (fun _ _ _ h => h) (Or.inr ⟨by rfl, rfl⟩) ?_ ?_; rotate_left; (· simp only [Act.put, sA_, sB_, sC_, i64_w, i32_w]; rfl); refine pure_ (i := 14) (N := some 77) (v := undef) (a' := ?_) #[I,I,I,I,I,I,I,I,I,I,I,I,I,I,I,O,O,O,O,O,O,O,O,O,O,O,O,O,O,O,O,O,O] rfl rfl (any_of HT_.out (by kernel_rfl)) (fun _ _ _ h => h) (Or.inr ⟨by rfl, rfl⟩) ?_ ?_; rotate_left; (· simp only [Act.put, sA_, sB_, sC_, i64_w, i32_w]; rfl); refine pure_ (i := 15) (N := some 78) (v := undef) (a' := ?_) #[I,I,I,I,I,I,I,I,I,I,I,I,I,I,I,I,O,O,O,O,O,O,O,O,O,O,O,O,O,O,O,O,O] rfl rfl (any_of HT_.out (by kernel_rfl)) (fun _ _ _ h => h) (Or.inr ⟨by rfl, rfl⟩) ?_ ?_; rotate_left; (· simp only [Act.put, sA_, sB_, sC_, i64_w, i32_w]; rfl); refine pure_ (i := 16) (N := some 79) (v := undef) (a' := ?_) #[I,I,I,I,I,I,I,I,I,I,I,I,I,I,I,I,I,O,O,O,O,O,O,O,O,O,O,O,O,O,O,O,O] rfl rfl (any_of HT_.out (by kernel_rfl)) (fun _ _ _ h => h) (Or.inr ⟨by rfl, rfl⟩) ?_ ?_; rotate_left; (· simp only [Act.put, sA_, sB_, sC_, i64_w, i32_w]; rfl)
            refine pure_ (i := 17) (N := some 80) (v := undef) (a' := ?_) #[I,I,I,I,I,I,I,I,I,I,I,I,I,I,I,I,I,I,O,O,O,O,O,O,O,O,O,O,O,O,O,O,O] rfl rfl (any_of HT_.out (by kernel_rfl)) (fun _ _ _ h => h) (Or.inr ⟨by rfl, rfl⟩) ?_ ?_; rotate_left; (· simp only [Act.put, sA_, sB_, sC_, i64_w, i32_w]; rfl); refine pure_ (i := 18) (N := some 81) (v := undef) (a' := ?_) #[I,I,I,I,I,I,I,I,I,I,I,I,I,I,I,I,I,I,I,O,O,O,O,O,O,O,O,O,O,O,O,O,O] rfl rfl (any_of HT_.out (by kernel_rfl)) (fun _ _ _ h => h) (Or.inr ⟨by rfl, rfl⟩) ?_ ?_; rotate_left; (· simp only [Act.put, sA_, sB_, sC_, i64_w, i32_w]; rfl); refine pure_ (i := 19) (N := some 82) (v := undef) (a' := ?_) #[I,I,I,I,I,I,I,I,I,I,I,I,I,I,I,I,I,I,I,I,O,O,O,O,O,O,O,O,O,O,O,O,O] rfl rfl (any_of HT_.out (by kernel_rfl)) (fun _ _ _ h => h) (Or.inr ⟨by rfl, rfl⟩) ?_ ?_; rotate_left; (· simp only [Act.put, sA_, sB_, sC_, i64_w, i32_w]; rfl); refine pure_ (i := 20) (N := some 83) (v := undef) (a' := ?_) #[I,I,I,I,I,I,I,I,I,I,I,I,I,I,I,I,I,I,I,I,I,O,O,O,O,O,O,O,O,O,O,O,O] rfl rfl (any_of HT_.out (by kernel_rfl)) (fun _ _ _ h => h) (Or.inr ⟨by rfl, rfl⟩) ?_ ?_; rotate_left; (· simp only [Act.put, sA_, sB_, sC_, i64_w, i32_w]; rfl); refine pure_ (i := 21) (N := some 84) (v := undef) (a' := ?_) #[I,I,I,I,I,I,I,I,I,I,I,I,I,I,I,I,I,I,I,I,I,I,O,O,O,O,O,O,O,O,O,O,O] rfl rfl (any_of HT_.out (by kernel_rfl)) (fun _ _ _ h => h) (Or.inr ⟨by rfl, rfl⟩) ?_ ?_; rotate_left; (· simp only [Act.put, sA_, sB_, sC_, i64_w, i32_w]; rfl); refine pure_ (i := 22) (N := some 85) (v := undef) (a' := ?_) #[I,I,I,I,I,I,I,I,I,I,I,I,I,I,I,I,I,I,I,I,I,I,I,O,O,O,O,O,O,O,O,O,O] rfl rfl (any_of HT_.out (by kernel_rfl)) (fun _ _ _ h => h) (Or.inr ⟨by rfl, rfl⟩) ?_ ?_; rotate_left; (· simp only [Act.put, sA_, sB_, sC_, i64_w, i32_w]; rfl); refine pure_ (i := 23) (N := some 86) (v := undef) (a' := ?_) #[I,I,I,I,I,I,I,I,I,I,I,I,I,I,I,I,I,I,I,I,I,I,I,I,O,O,O,O,O,O,O,O,O] rfl rfl (any_of HT_.out (by kernel_rfl)) (fun _ _ _ h => h) (Or.inr ⟨by rfl, rfl⟩) ?_ ?_
            rotate_left; (· simp only [Act.put, sA_, sB_, sC_, i64_w, i32_w]; rfl); refine pure_ (i := 24) (N := some 87) (v := undef) (a' := ?_) #[I,I,I,I,I,I,I,I,I,I,I,I,I,I,I,I,I,I,I,I,I,I,I,I,I,O,O,O,O,O,O,O,O] rfl rfl (any_of HT_.out (by kernel_rfl)) (fun _ _ _ h => h) (Or.inr ⟨by rfl, rfl⟩) ?_ ?_; rotate_left; (· simp only [Act.put, sA_, sB_, sC_, i64_w, i32_w]; rfl); refine pure_ (i := 25) (N := some 88) (v := undef) (a' := ?_) #[I,I,I,I,I,I,I,I,I,I,I,I,I,I,I,I,I,I,I,I,I,I,I,I,I,I,O,O,O,O,O,O,O] rfl rfl (any_of HT_.out (by kernel_rfl)) (fun _ _ _ h => h) (Or.inr ⟨by rfl, rfl⟩) ?_ ?_; rotate_left; (· simp only [Act.put, sA_, sB_, sC_, i64_w, i32_w]; rfl); refine pure_ (i := 26) (N := some 89) (v := undef) (a' := ?_) #[I,I,I,I,I,I,I,I,I,I,I,I,I,I,I,I,I,I,I,I,I,I,I,I,I,I,I,O,O,O,O,O,O] rfl rfl (any_of HT_.out (by kernel_rfl)) (fun _ _ _ h => h) (Or.inr ⟨by rfl, rfl⟩) ?_ ?_; rotate_left; (· simp only [Act.put, sA_, sB_, sC_, i64_w, i32_w]; rfl); refine pure_ (i := 27) (N := some 90) (v := undef) (a' := ?_) #[I,I,I,I,I,I,I,I,I,I,I,I,I,I,I,I,I,I,I,I,I,I,I,I,I,I,I,I,O,O,O,O,O] rfl rfl (any_of HT_.out (by kernel_rfl)) (fun _ _ _ h => h) (Or.inr ⟨by rfl, rfl⟩) ?_ ?_; rotate_left; (· simp only [Act.put, sA_, sB_, sC_, i64_w, i32_w]; rfl); refine pure_ (i := 28) (N := some 91) (v := undef) (a' := ?_) #[I,I,I,I,I,I,I,I,I,I,I,I,I,I,I,I,I,I,I,I,I,I,I,I,I,I,I,I,I,O,O,O,O] rfl rfl (any_of HT_.out (by kernel_rfl)) (fun _ _ _ h => h) (Or.inr ⟨by rfl, rfl⟩) ?_ ?_; rotate_left; (· simp only [Act.put, sA_, sB_, sC_, i64_w, i32_w]; rfl); refine pure_ (i := 29) (N := some 92) (v := undef) (a' := ?_) #[I,I,I,I,I,I,I,I,I,I,I,I,I,I,I,I,I,I,I,I,I,I,I,I,I,I,I,I,I,I,O,O,O] rfl rfl (any_of HT_.out (by kernel_rfl)) (fun _ _ _ h => h) (Or.inr ⟨by rfl, rfl⟩) ?_ ?_; rotate_left; (· simp only [Act.put, sA_, sB_, sC_, i64_w, i32_w]; rfl); refine pure_ (i := 30) (N := some 93) (v := undef) (a' := ?_) #[I,I,I,I,I,I,I,I,I,I,I,I,I,I,I,I,I,I,I,I,I,I,I,I,I,I,I,I,I,I,I,O,O] rfl rfl (any_of HT_.out (by kernel_rfl)) (fun _ _ _ h => h) (Or.inr ⟨by rfl, rfl⟩) ?_ ?_
            rotate_left; (· simp only [Act.put, sA_, sB_, sC_, i64_w, i32_w]; rfl); refine pure_ (i := 31) (N := some 94) (v := undef) (a' := ?_) #[I,I,I,I,I,I,I,I,I,I,I,I,I,I,I,I,I,I,I,I,I,I,I,I,I,I,I,I,I,I,I,I,O] rfl rfl (any_of HT_.out (by kernel_rfl)) (fun _ _ _ h => h) (Or.inr ⟨by rfl, rfl⟩) ?_ ?_; rotate_left; (· simp only [Act.put, sA_, sB_, sC_, i64_w, i32_w]; rfl); refine pure_ (i := 32) (N := some 95) (v := ?_) (a' := ?_) #[I,I,I,I,I,I,I,I,I,I,I,I,I,I,I,I,I,I,I,I,I,I,I,I,I,I,I,I,I,I,I,I,I] rfl rfl (any_of HT_.out (by kernel_rfl)) (fun _ _ _ h => h) (Or.inl ⟨by rfl, ?_⟩) ?_ ?_; rotate_left; (· intro w'; go_simp; with_reducible rfl); rotate_left; (· simp only [Act.put, sA_, sB_, sC_, i64_w, i32_w]; rfl); refine done_ (done_of HT_.out (by kernel_rfl)) ?_
            try go_wp2
            go_meet
            case rel => exact ⟨_, (true), (by first | rfl | (simp; done) | (simp [*]; done)), H', ⟨by have := HJ9.out; have := HK2.out; first | omega | exact Nat.le_refl _⟩, ⟨by (with_reducible repeat (first | apply Kd.N_alloc | apply Kd.N_drewN | apply Kd.N_drew)); exact Kd.N_mono HO_6.out (fun _ hk => hk.1)⟩, ⟨by (with_reducible repeat (first | apply Kd.R_alloc | apply Kd.R_drewN | apply Kd.R_drew)); exact HO_8.out⟩, ⟨by repeat (first | (with_reducible first | exact HB.out | apply below_alloc | apply pw_below_drewN | apply below_drew1) | exact HB.out)⟩⟩
          case rest =>
           clear HC28
           try clear p2
           try clear c3
           try clear c6
           try clear p6
           try clear q6
           try clear hx6
           try clear c31
           try clear c31b0
           try clear c31b1
           try clear c32
           try clear hx649_0
           try clear hx649_1
           try clear hx649_2
           try clear hx649_3
           try clear hx649_4
           try clear hx649_5
           try clear hx650_0
           try clear hx650_1
           try clear hx650_2
           try clear hx650_3
           try clear hx650_4
           try clear hx650_5
           try clear hx651_0
           try clear hx651_1
           try clear hx651_2
           try clear hx651_3
           try clear hx651_4
           try clear hx651_5
           try clear hx652_0
           try clear hx652_1
           try clear hx652_2
           try clear hx652_3
           try clear hx652_4
           try clear hx652_5
           try clear hx653_0
           try clear hx653_1
           try clear hx653_2
           try clear hx653_3
           try clear hx653_4
           try clear hx653_5
           try clear p652
           try clear p653
           try clear q652
           try clear q653
           obtain ⟨kq, x95_27, rfl, HA, HJ27, HO_6, HO_8, HB⟩ := hcut
           cases kq with
           | zero => exact absurd HA.out (by simp [dioramalaw36_DiffBytes.j2])
           | succ kj27 =>
            have H := HA.out; clear HA; simp only [dioramalaw36_DiffBytes.j2] at H
            by_cases c40 : x95_27 = true
            ·subst c40
             have H1 : (some false) = some r := by rw [if_pos rfl] at H; exact H
             clear H; have H := H1; clear H1; obtain rfl := Option.some.inj H; go_wp2; go_ret; exact ⟨by first | rfl | (simp [errW_none, errW_some] <;> rfl) | (simp [*, errW_none, errW_some] <;> rfl), by repeat (first | (with_reducible first | exact HB.out | apply below_alloc | apply pw_below_drewN | apply below_drew1) | exact HB.out)⟩
            ·replace c40 := Bool.eq_false_iff.mpr c40
             subst c40
             have H1 : (if 0 ≤ (wrap64 (x10_2 + t645)) then (if (wrap64 (x10_2 + t645)) ≤ (t632.length : Int) then ((wire_GetInts.f (t632.drop ((wrap64 (x10_2 + t645)) : Int).toNat)).bind fun bt663 => (if bt663.2.2 = 0 then (if 0 ≤ x12_2 then (if x12_2 < (t628.length : Int) then ((dioramaref01_SameInts.f kj27 bt663.1 ((rd_T61 t628 x12_2).f5)).bind fun t669 => (if t669 = true then (dioramalaw36_DiffBytes.l0 kj27 t628 t632 (wrap64 ((wrap64 (x10_2 + t645)) + bt663.2.1)) (wrap64 (x12_2 + 1))) else (some false))) else (none)) else (none)) else (some false))) else (none)) else (none)) = some r := by rw [if_neg (show ¬ (false = true) by decide)] at H; exact H
             clear H; have H := H1; clear H1; obtain ⟨ji41, hji41⟩ : ∃ j_ : Int, (wrap64 (x10_2 + t645)) = j_ := ⟨_, rfl⟩
             replace H : (if 0 ≤ (ji41) then (if (ji41) ≤ (t632.length : Int) then ((wire_GetInts.f (t632.drop ((ji41) : Int).toNat)).bind fun bt663 => (if bt663.2.2 = 0 then (if 0 ≤ x12_2 then (if x12_2 < (t628.length : Int) then ((dioramaref01_SameInts.f kj27 bt663.1 ((rd_T61 t628 x12_2).f5)).bind fun t669 => (if t669 = true then (dioramalaw36_DiffBytes.l0 kj27 t628 t632 (wrap64 ((ji41) + bt663.2.1)) (wrap64 (x12_2 + 1))) else (some false))) else (none)) else (none)) else (some false))) else (none)) else (none)) = some r := by first | (rw [hji41] at H; exact H) | (simp only [hji41] at H ⊢; exact H)
             have hji41w : (IntKind.i64.wrap (x10_2 + t645)) = ji41 := (i64_w _).trans hji41
             by_cases c42 : 0 ≤ (ji41)
             ·rw [if_pos c42] at H
              have c42b0 := eq_true c42; have c42b1 : decide (0 ≤ (ji41)) = true := decide_eq_true c42; clear c42
              by_cases c43 : (ji41) ≤ (t632.length : Int)
              ·rw [if_pos c43] at H
               have c43b0 := eq_true c43; have c43b1 : decide ((ji41) ≤ (t632.length : Int)) = true := decide_eq_true c43; clear c43; obtain ⟨y658, hy658⟩ : ∃ y_ : List Int, y_ = (t632.drop ((ji41) : Int).toNat) := ⟨_, rfl⟩
               replace H : ((wire_GetInts.f y658).bind fun bt663 => (if bt663.2.2 = 0 then (if 0 ≤ x12_2 then (if x12_2 < (t628.length : Int) then ((dioramaref01_SameInts.f kj27 bt663.1 ((rd_T61 t628 x12_2).f5)).bind fun t669 => (if t669 = true then (dioramalaw36_DiffBytes.l0 kj27 t628 t632 (wrap64 ((ji41) + bt663.2.1)) (wrap64 (x12_2 + 1))) else (some false))) else (none)) else (none)) else (some false))) = some r := by first | (rw [hy658]; with_reducible exact H) | (have H2_ := (Option.bind_some _ _).symm.trans H; rw [hy658]; with_reducible exact H2_) | (have H2_ := (Option.bind_some _ _).symm.trans H; with_reducible exact H2_) | with_reducible exact H | (rw [hy658]; exact H) | exact H
               have Ny658 := Aside0.mk hy658; clear hy658; replace H := Option.bind_eq_some_iff.mp H; obtain ⟨⟨t663, t664, t665⟩, A440, H⟩ := H; replace H : (if t665 = 0 then (if 0 ≤ x12_2 then (if x12_2 < (t628.length : Int) then ((dioramaref01_SameInts.f kj27 t663 ((rd_T61 t628 x12_2).f5)).bind fun t669 => (if t669 = true then (dioramalaw36_DiffBytes.l0 kj27 t628 t632 (wrap64 ((ji41) + t664)) (wrap64 (x12_2 + 1))) else (some false))) else (none)) else (none)) else (some false)) = some r := H; have A44 := Aside0.mk A440; clear A440
               by_cases c45 : t665 = 0
               ·rw [if_pos c45] at H
                have c45b0 : (t665 == 0) = true := beq_iff_eq.mpr c45; have c45b1 : (t665 != 0) = false := bne_eq_false_iff_eq.mpr c45; clear c45
                by_cases c46 : 0 ≤ x12_2
                ·rw [if_pos c46] at H
                 have c46b0 : decide (0 ≤ x12_2) = true := decide_eq_true c46; clear c46
                 by_cases c47 : x12_2 < (t628.length : Int)
                 ·rw [if_pos c47] at H
                  have c47b0 : decide (x12_2 < (t628.length : Int)) = true := decide_eq_true c47; clear c47; replace H := Option.bind_eq_some_iff.mp H; obtain ⟨t669, A480, H⟩ := H; replace H : (if t669 = true then (dioramalaw36_DiffBytes.l0 kj27 t628 t632 (wrap64 ((ji41) + t664)) (wrap64 (x12_2 + 1))) else (some false)) = some r := H; have A48 := Aside0.mk A480; clear A480
                  by_cases c49 : t669 = true
                  ·subst c49
                   have H1 : (dioramalaw36_DiffBytes.l0 kj27 t628 t632 (wrap64 ((ji41) + t664)) (wrap64 (x12_2 + 1))) = some r := by rw [if_pos rfl] at H; exact H
                   clear H; have H := H1; clear H1; have H' := Aside0.mk H; clear H; have q50 : ((ji41) : Int) ≤ ((t632.length : Int) : Int) := of_decide_eq_true (by first | (with_reducible assumption) | assumption); obtain ⟨i050, hi050, _, hsz50, _⟩ := info_parts info5; have hroom50 : t632.length ≤ co20 := (Kd.R_reads' HO_8.out).2.1; have hC50 : Kd.F (Kd.int .u8) _ _ Ao20 t632.length t632 := (Kd.V_at (base := w.heap.size) (Kd.R_V (Kd.R_apart' (HO_8.out) (Kd.N_typed HO_6.out) (by decide)))).2.2; have q050 : (0 : Int) ≤ ((ji41) : Int) := of_decide_eq_true (by first | (with_reducible assumption) | assumption); have hcut50 := cut_from (P := Try.prog) 53 5 .i64 Try.underlying53 hi050 1 hsz50 Ao20 t632.length co20 (ji41) q050 q50; have hr50 := Kd.F_cut (m := ((ji41) : Int).toNat) (c := co20) hC50 (by omega) hroom50; obtain ⟨A50, hA50⟩ : ∃ A1, A1 = (if co20 = ((ji41) : Int).toNat then Ao20 else (Ao20 : Option Addr).map (·.add (((ji41) : Int).toNat * 1))) := ⟨_, rfl⟩; obtain ⟨c50, hc50⟩ : ∃ c1, c1 = co20 - ((ji41) : Int).toNat := ⟨_, rfl⟩; have hy50 : y658.length = t632.length - ((ji41) : Int).toNat := (by rw [Ny658.out, List.length_drop] <;> omega); rw [show (t632).drop ((ji41) : Int).toNat = y658 from Ny658.out.symm] at hr50; replace hr50 : Kd.F (Kd.int .u8) _ _ A50 y658.length y658 := (by rw [hA50]; exact hr50); rw [← hy50, ← hA50, ← hc50] at hcut50; have HO662 := Aside0.mk (show Kd.V (Kd.int .u8) 5 _ w.heap.size _ (.slice A50 y658.length c50) y658 from Kd.V_mk (by rw [hy50, hc50]; exact Nat.sub_le_sub_right hroom50 _) hr50); have HC662 := Aside0.mk (show y658.length ≤ c50 from by rw [hy50, hc50]; exact Nat.sub_le_sub_right hroom50 _); clear hr50 hC50 hroom50 hi050 hsz50 hc50; have KY50 := Aside0.mk hy50; have KA50 := Aside0.mk hA50; clear hy50 hA50; replace q50 := eq_true q50
                   go_wp2_with (first | ((with_reducible refine gate_callee (f := 30) rfl ?_); refine goesL_ (some 103) rfl rfl Try.func30 (by kernel_rfl) rfl #[.slice A50 y658.length c50] rfl (by (try simp only [List.map_toArray, List.map_cons, List.map_nil]); first | done | rfl | (simp only [List.length_drop, List.length_take]; rfl)) ?_; (with_reducible refine (wire_GetInts.calls _ _ y658 t663 t664 t665 _ ?side1 ?side2 A44.out).mono ?_); (case side1 => repeat (first | exact (Kd.V_reads' HO662.out).2.2 | (with_reducible refine Kd.C_alloc ?_ _) | (with_reducible refine Kd.C_drewN ?_ _) | (with_reducible refine Kd.C_drew ?_))); (case side2 => exact (Kd.V_reads' HO662.out).2.1); rintro e w51 ⟨v666, rfl, ho0, hb⟩; refine ⟨_, rfl, ?_⟩; have n0_ := Aside0.mk (Kd.N_elder' (by (with_reducible repeat (first | apply Kd.N_alloc | apply Kd.N_drewN | apply Kd.N_drew)); exact HO_6.out) (Kd.R_base ho0) hb); have n1_ := Aside0.mk (Kd.R_below (by (with_reducible repeat (first | apply Kd.R_alloc | apply Kd.R_drewN | apply Kd.R_drew)); exact HO_8.out) hb); have n2_ := Aside0.mk (Kd.V_elder' (by (with_reducible repeat (first | apply Kd.V_alloc | apply Kd.V_drewN | apply Kd.V_drew)); exact HO662.out) (Kd.R_base ho0) hb); have n3_ := Aside0.mk (Kd.R_lower ho0 (below_size (by repeat (first | (with_reducible first | exact HB.out | apply below_alloc | apply pw_below_drewN | apply below_drew1) | exact HB.out)))); have n4_ := Aside0.mk (below_step (by repeat (first | (with_reducible first | exact HB.out | apply below_alloc | apply pw_below_drewN | apply below_drew1) | exact HB.out)) hb); clear HO_6; clear HO_8; clear HO662; clear HB; have HO_6 := n0_; have HO_8 := n1_; have HO662 := n2_; have HO667 := n3_; have HB := n4_; clear n0_ n1_ n2_ n3_ n4_; (try clear hb); (try clear hb2); (try clear hk); (try clear hi); (try clear ho0); have p668 : 0 ≤ (x12_2 : Int) := of_decide_eq_true (by first | (with_reducible assumption) | assumption); have q668 : x12_2 < (t628.length : Int) := of_decide_eq_true (by first | (with_reducible assumption) | assumption); obtain ⟨ad668, A668_5, c668_5, e668, hx668_0, hx668_1, hx668_2, hx668_3, hx668_4, hx668_5, hl668_5, hi668_5⟩ := at_T61 (Kd.N_reads' HO_6.out).2.2 x12_2 p668 q668; cases e668; obtain ⟨ce668, hce668, hMe668, hcc668⟩ := Kd.N_get HO_6.out z61 x12_2 p668 (by first | exact q668 | exact of_decide_eq_true (by first | (with_reducible assumption) | assumption) | (have e_ := (Kd.N_reads' HO_6.out).1; omega)); obtain ⟨ua668_5, uc668_5, rfl, ul668_5, ge668_5⟩ := k61_openF hMe668; have hv668_5 := hcc668 5 _ rfl; rw [add_field _ _ 5 (by omega)] at hv668_5; replace hv668_5 := Option.some.inj (hv668_5.symm.trans hx668_5); injection hv668_5 with hva_ hvn_ hvc_; rw [hva_] at ge668_5; rw [hvc_] at ul668_5; have HL668_5 := Aside0.mk (show Kd.V (Kd.int .i64) 3 _ w.heap.size _ _ ((rd_T61 t628 x12_2).f5) from Kd.V_mk ul668_5 ge668_5); clear hva_ hvn_ hvc_ ge668_5 ul668_5; clear hcc668 hce668; have HR668_5 := Aside0.mk hi668_5; have HC668_5 := Aside0.mk hl668_5; clear hi668_5 hl668_5; replace p668 := eq_true p668; replace q668 := eq_true q668; obtain ⟨Ao52, co52, eo52⟩ := Kd.R_slice HO667.out; subst eo52) | (go_at_call 31; (with_reducible refine (dioramaref01_SameInts.calls kj27 _ _ t663 _ _ ((rd_T61 t628 x12_2).f5) true _ ?side1 ?side2 ?side3 ?side4 A48.out).mono ?_); (case side1 => repeat (first | exact (Kd.R_reads' HO667.out).2.2 | (with_reducible refine Kd.C_alloc ?_ _) | (with_reducible refine Kd.C_drewN ?_ _) | (with_reducible refine Kd.C_drew ?_))); (case side2 => exact (Kd.R_reads' HO667.out).2.1); (case side3 => repeat (first | exact (by repeat (first | (with_reducible exact HR668_5.out) | (with_reducible refine Kd.C_alloc ?_ _) | (with_reducible refine Kd.C_drewN ?_ _) | (with_reducible refine Kd.C_drew ?_) | exact HR668_5.out)) | (with_reducible refine Kd.C_alloc ?_ _) | (with_reducible refine Kd.C_drewN ?_ _) | (with_reducible refine Kd.C_drew ?_))); (case side4 => exact HC668_5.out); rintro e w' ⟨rfl, ⟨nd, rfl⟩⟩))
                   go_roundg kj27
                   case measure => have := HJ9.out; have := HK2.out; have := HJ27.out; omega
                   case rel => exact ⟨(wrap64 ((ji41) + t664)), (wrap64 (x12_2 + 1)), (by first | rfl | (simp; done) | (simp only [← hji41] <;> (first | rfl | simp)) | (simp [*]; done)), (by first | rfl | (simp; done) | (simp [*]; done)), H', ⟨by have := HJ9.out; have := HK2.out; have := HJ27.out; omega⟩, ⟨by (with_reducible repeat (first | apply Kd.N_alloc | apply Kd.N_drewN | apply Kd.N_drew)); exact Kd.N_mono HO_6.out (fun _ hk => hk.1)⟩, ⟨by (with_reducible repeat (first | apply Kd.R_alloc | apply Kd.R_drewN | apply Kd.R_drew)); exact HO_8.out⟩, ⟨by repeat (first | (with_reducible first | exact HB.out | apply below_alloc | apply pw_below_drewN | apply below_drew1) | exact HB.out)⟩⟩
                  ·replace c49 := Bool.eq_false_iff.mpr c49
                   subst c49
                   have H1 : (some false) = some r := by rw [if_neg (show ¬ (false = true) by decide)] at H; exact H
                   clear H; have H := H1; clear H1; obtain rfl := Option.some.inj H; have q53 : ((ji41) : Int) ≤ ((t632.length : Int) : Int) := of_decide_eq_true (by first | (with_reducible assumption) | assumption); obtain ⟨i053, hi053, _, hsz53, _⟩ := info_parts info5; have hroom53 : t632.length ≤ co20 := (Kd.R_reads' HO_8.out).2.1; have hC53 : Kd.F (Kd.int .u8) _ _ Ao20 t632.length t632 := (Kd.V_at (base := w.heap.size) (Kd.R_V (Kd.R_apart' (HO_8.out) (Kd.N_typed HO_6.out) (by decide)))).2.2; have q053 : (0 : Int) ≤ ((ji41) : Int) := of_decide_eq_true (by first | (with_reducible assumption) | assumption); have hcut53 := cut_from (P := Try.prog) 53 5 .i64 Try.underlying53 hi053 1 hsz53 Ao20 t632.length co20 (ji41) q053 q53; have hr53 := Kd.F_cut (m := ((ji41) : Int).toNat) (c := co20) hC53 (by omega) hroom53; obtain ⟨A53, hA53⟩ : ∃ A1, A1 = (if co20 = ((ji41) : Int).toNat then Ao20 else (Ao20 : Option Addr).map (·.add (((ji41) : Int).toNat * 1))) := ⟨_, rfl⟩; obtain ⟨c53, hc53⟩ : ∃ c1, c1 = co20 - ((ji41) : Int).toNat := ⟨_, rfl⟩; have hy53 : y658.length = t632.length - ((ji41) : Int).toNat := (by rw [Ny658.out, List.length_drop] <;> omega); rw [show (t632).drop ((ji41) : Int).toNat = y658 from Ny658.out.symm] at hr53; replace hr53 : Kd.F (Kd.int .u8) _ _ A53 y658.length y658 := (by rw [hA53]; exact hr53); rw [← hy53, ← hA53, ← hc53] at hcut53; have HO662 := Aside0.mk (show Kd.V (Kd.int .u8) 5 _ w.heap.size _ (.slice A53 y658.length c53) y658 from Kd.V_mk (by rw [hy53, hc53]; exact Nat.sub_le_sub_right hroom53 _) hr53); have HC662 := Aside0.mk (show y658.length ≤ c53 from by rw [hy53, hc53]; exact Nat.sub_le_sub_right hroom53 _); clear hr53 hC53 hroom53 hi053 hsz53 hc53; have KY53 := Aside0.mk hy53; have KA53 := Aside0.mk hA53; clear hy53 hA53; replace q53 := eq_true q53
                   go_wp2_with (first | ((with_reducible refine gate_callee (f := 30) rfl ?_); refine goesL_ (some 103) rfl rfl Try.func30 (by kernel_rfl) rfl #[.slice A53 y658.length c53] rfl (by (try simp only [List.map_toArray, List.map_cons, List.map_nil]); first | done | rfl | (simp only [List.length_drop, List.length_take]; rfl)) ?_; (with_reducible refine (wire_GetInts.calls _ _ y658 t663 t664 t665 _ ?side1 ?side2 A44.out).mono ?_); (case side1 => repeat (first | exact (Kd.V_reads' HO662.out).2.2 | (with_reducible refine Kd.C_alloc ?_ _) | (with_reducible refine Kd.C_drewN ?_ _) | (with_reducible refine Kd.C_drew ?_))); (case side2 => exact (Kd.V_reads' HO662.out).2.1); rintro e w54 ⟨v666, rfl, ho0, hb⟩; refine ⟨_, rfl, ?_⟩; have n0_ := Aside0.mk (Kd.N_elder' (by (with_reducible repeat (first | apply Kd.N_alloc | apply Kd.N_drewN | apply Kd.N_drew)); exact HO_6.out) (Kd.R_base ho0) hb); have n1_ := Aside0.mk (Kd.R_below (by (with_reducible repeat (first | apply Kd.R_alloc | apply Kd.R_drewN | apply Kd.R_drew)); exact HO_8.out) hb); have n2_ := Aside0.mk (Kd.V_elder' (by (with_reducible repeat (first | apply Kd.V_alloc | apply Kd.V_drewN | apply Kd.V_drew)); exact HO662.out) (Kd.R_base ho0) hb); have n3_ := Aside0.mk (Kd.R_lower ho0 (below_size (by repeat (first | (with_reducible first | exact HB.out | apply below_alloc | apply pw_below_drewN | apply below_drew1) | exact HB.out)))); have n4_ := Aside0.mk (below_step (by repeat (first | (with_reducible first | exact HB.out | apply below_alloc | apply pw_below_drewN | apply below_drew1) | exact HB.out)) hb); clear HO_6; clear HO_8; clear HO662; clear HB; have HO_6 := n0_; have HO_8 := n1_; have HO662 := n2_; have HO667 := n3_; have HB := n4_; clear n0_ n1_ n2_ n3_ n4_; (try clear hb); (try clear hb2); (try clear hk); (try clear hi); (try clear ho0); have p668 : 0 ≤ (x12_2 : Int) := of_decide_eq_true (by first | (with_reducible assumption) | assumption); have q668 : x12_2 < (t628.length : Int) := of_decide_eq_true (by first | (with_reducible assumption) | assumption); obtain ⟨ad668, A668_5, c668_5, e668, hx668_0, hx668_1, hx668_2, hx668_3, hx668_4, hx668_5, hl668_5, hi668_5⟩ := at_T61 (Kd.N_reads' HO_6.out).2.2 x12_2 p668 q668; cases e668; obtain ⟨ce668, hce668, hMe668, hcc668⟩ := Kd.N_get HO_6.out z61 x12_2 p668 (by first | exact q668 | exact of_decide_eq_true (by first | (with_reducible assumption) | assumption) | (have e_ := (Kd.N_reads' HO_6.out).1; omega)); obtain ⟨ua668_5, uc668_5, rfl, ul668_5, ge668_5⟩ := k61_openF hMe668; have hv668_5 := hcc668 5 _ rfl; rw [add_field _ _ 5 (by omega)] at hv668_5; replace hv668_5 := Option.some.inj (hv668_5.symm.trans hx668_5); injection hv668_5 with hva_ hvn_ hvc_; rw [hva_] at ge668_5; rw [hvc_] at ul668_5; have HL668_5 := Aside0.mk (show Kd.V (Kd.int .i64) 3 _ w.heap.size _ _ ((rd_T61 t628 x12_2).f5) from Kd.V_mk ul668_5 ge668_5); clear hva_ hvn_ hvc_ ge668_5 ul668_5; clear hcc668 hce668; have HR668_5 := Aside0.mk hi668_5; have HC668_5 := Aside0.mk hl668_5; clear hi668_5 hl668_5; replace p668 := eq_true p668; replace q668 := eq_true q668; obtain ⟨Ao55, co55, eo55⟩ := Kd.R_slice HO667.out; subst eo55) | (go_at_call 31; (with_reducible refine (dioramaref01_SameInts.calls kj27 _ _ t663 _ _ ((rd_T61 t628 x12_2).f5) false _ ?side1 ?side2 ?side3 ?side4 A48.out).mono ?_); (case side1 => repeat (first | exact (Kd.R_reads' HO667.out).2.2 | (with_reducible refine Kd.C_alloc ?_ _) | (with_reducible refine Kd.C_drewN ?_ _) | (with_reducible refine Kd.C_drew ?_))); (case side2 => exact (Kd.R_reads' HO667.out).2.1); (case side3 => repeat (first | exact (by repeat (first | (with_reducible exact HR668_5.out) | (with_reducible refine Kd.C_alloc ?_ _) | (with_reducible refine Kd.C_drewN ?_ _) | (with_reducible refine Kd.C_drew ?_) | exact HR668_5.out)) | (with_reducible refine Kd.C_alloc ?_ _) | (with_reducible refine Kd.C_drewN ?_ _) | (with_reducible refine Kd.C_drew ?_))); (case side4 => exact HC668_5.out); rintro e w' ⟨rfl, ⟨nd, rfl⟩⟩))
                   go_ret; exact ⟨by first | rfl | (simp [errW_none, errW_some] <;> rfl) | (simp only [← hji41]; first | rfl | (simp [errW_none, errW_some] <;> rfl)) | (simp [*, errW_none, errW_some] <;> rfl), by repeat (first | (with_reducible first | exact HB.out | apply below_alloc | apply pw_below_drewN | apply below_drew1) | exact HB.out)⟩
                 (· rw [if_neg c47] at H; exact absurd H (by simp))
                (· rw [if_neg c46] at H; exact absurd H (by simp))
               ·rw [if_neg c45] at H
                have c45b0 : (t665 == 0) = false := beq_eq_false_iff_ne.mpr c45; have c45b1 : (t665 != 0) = true := bne_iff_ne.mpr c45; obtain rfl := Option.some.inj H; have q56 : ((ji41) : Int) ≤ ((t632.length : Int) : Int) := of_decide_eq_true (by first | (with_reducible assumption) | assumption); obtain ⟨i056, hi056, _, hsz56, _⟩ := info_parts info5; have hroom56 : t632.length ≤ co20 := (Kd.R_reads' HO_8.out).2.1; have hC56 : Kd.F (Kd.int .u8) _ _ Ao20 t632.length t632 := (Kd.V_at (base := w.heap.size) (Kd.R_V (Kd.R_apart' (HO_8.out) (Kd.N_typed HO_6.out) (by decide)))).2.2; have q056 : (0 : Int) ≤ ((ji41) : Int) := of_decide_eq_true (by first | (with_reducible assumption) | assumption); have hcut56 := cut_from (P := Try.prog) 53 5 .i64 Try.underlying53 hi056 1 hsz56 Ao20 t632.length co20 (ji41) q056 q56; have hr56 := Kd.F_cut (m := ((ji41) : Int).toNat) (c := co20) hC56 (by omega) hroom56; obtain ⟨A56, hA56⟩ : ∃ A1, A1 = (if co20 = ((ji41) : Int).toNat then Ao20 else (Ao20 : Option Addr).map (·.add (((ji41) : Int).toNat * 1))) := ⟨_, rfl⟩; obtain ⟨c56, hc56⟩ : ∃ c1, c1 = co20 - ((ji41) : Int).toNat := ⟨_, rfl⟩; have hy56 : y658.length = t632.length - ((ji41) : Int).toNat := (by rw [Ny658.out, List.length_drop] <;> omega); rw [show (t632).drop ((ji41) : Int).toNat = y658 from Ny658.out.symm] at hr56; replace hr56 : Kd.F (Kd.int .u8) _ _ A56 y658.length y658 := (by rw [hA56]; exact hr56); rw [← hy56, ← hA56, ← hc56] at hcut56; have HO662 := Aside0.mk (show Kd.V (Kd.int .u8) 5 _ w.heap.size _ (.slice A56 y658.length c56) y658 from Kd.V_mk (by rw [hy56, hc56]; exact Nat.sub_le_sub_right hroom56 _) hr56); have HC662 := Aside0.mk (show y658.length ≤ c56 from by rw [hy56, hc56]; exact Nat.sub_le_sub_right hroom56 _); clear hr56 hC56 hroom56 hi056 hsz56 hc56; have KY56 := Aside0.mk hy56; have KA56 := Aside0.mk hA56; clear hy56 hA56; replace q56 := eq_true q56
                go_wp2_with (first | ((with_reducible refine gate_callee (f := 30) rfl ?_); refine goesL_ (some 103) rfl rfl Try.func30 (by kernel_rfl) rfl #[.slice A56 y658.length c56] rfl (by (try simp only [List.map_toArray, List.map_cons, List.map_nil]); first | done | rfl | (simp only [List.length_drop, List.length_take]; rfl)) ?_; (with_reducible refine (wire_GetInts.calls _ _ y658 t663 t664 t665 _ ?side1 ?side2 A44.out).mono ?_); (case side1 => repeat (first | exact (Kd.V_reads' HO662.out).2.2 | (with_reducible refine Kd.C_alloc ?_ _) | (with_reducible refine Kd.C_drewN ?_ _) | (with_reducible refine Kd.C_drew ?_))); (case side2 => exact (Kd.V_reads' HO662.out).2.1); rintro e w57 ⟨v666, rfl, ho0, hb⟩; refine ⟨_, rfl, ?_⟩; have n0_ := Aside0.mk (Kd.N_elder' (by (with_reducible repeat (first | apply Kd.N_alloc | apply Kd.N_drewN | apply Kd.N_drew)); exact HO_6.out) (Kd.R_base ho0) hb); have n1_ := Aside0.mk (Kd.R_below (by (with_reducible repeat (first | apply Kd.R_alloc | apply Kd.R_drewN | apply Kd.R_drew)); exact HO_8.out) hb); have n2_ := Aside0.mk (Kd.V_elder' (by (with_reducible repeat (first | apply Kd.V_alloc | apply Kd.V_drewN | apply Kd.V_drew)); exact HO662.out) (Kd.R_base ho0) hb); have n3_ := Aside0.mk (Kd.R_lower ho0 (below_size (by repeat (first | (with_reducible first | exact HB.out | apply below_alloc | apply pw_below_drewN | apply below_drew1) | exact HB.out)))); have n4_ := Aside0.mk (below_step (by repeat (first | (with_reducible first | exact HB.out | apply below_alloc | apply pw_below_drewN | apply below_drew1) | exact HB.out)) hb); clear HO_6; clear HO_8; clear HO662; clear HB; have HO_6 := n0_; have HO_8 := n1_; have HO662 := n2_; have HO667 := n3_; have HB := n4_; clear n0_ n1_ n2_ n3_ n4_; (try clear hb); (try clear hb2); (try clear hk); (try clear hi); (try clear ho0)))
                go_ret; exact ⟨by first | rfl | (simp [errW_none, errW_some] <;> rfl) | (simp only [← hji41]; first | rfl | (simp [errW_none, errW_some] <;> rfl)) | (simp [*, errW_none, errW_some] <;> rfl), by repeat (first | (with_reducible first | exact HB.out | apply below_alloc | apply pw_below_drewN | apply below_drew1) | exact HB.out)⟩
              (· rw [if_neg c43] at H; exact absurd H (by simp))
             (· rw [if_neg c42] at H; exact absurd H (by simp))
         (· rw [if_neg c26] at H; exact absurd H (by simp))
        (· rw [if_neg c25] at H; exact absurd H (by simp))
       ·rw [if_neg c24] at H
        have c24b0 : decide (x12_2 < (t628.length : Int)) = false := decide_eq_false c24; clear c24
        by_cases c58 : x10_2 = (t632.length : Int)
        ·rw [if_pos c58] at H
         have c58b0 : (x10_2 == (t632.length : Int)) = true := beq_iff_eq.mpr c58; have c58b1 : (x10_2 != (t632.length : Int)) = false := bne_eq_false_iff_eq.mpr c58; clear c58; replace H := Option.bind_eq_some_iff.mp H; obtain ⟨t638, A590, H⟩ := H; replace H : (some t638) = some r := H; have A59 := Aside0.mk A590; clear A590; obtain rfl := Option.some.inj H
         go_wp2_with (first | (go_at_call 18; (with_reducible refine (dioramalaw36_lives.calls  t638 _ A59.out).mono ?_); rintro e w60 ⟨rfl, hb⟩; have n0_ := Aside0.mk (Kd.N_below (by (with_reducible repeat (first | apply Kd.N_alloc | apply Kd.N_drewN | apply Kd.N_drew)); exact HO_6.out) hb); have n1_ := Aside0.mk (Kd.R_below (by (with_reducible repeat (first | apply Kd.R_alloc | apply Kd.R_drewN | apply Kd.R_drew)); exact HO_8.out) hb); have n2_ := Aside0.mk (below_step (by repeat (first | (with_reducible first | exact HB.out | apply below_alloc | apply pw_below_drewN | apply below_drew1) | exact HB.out)) hb); clear HO_6; clear HO_8; clear HB; have HO_6 := n0_; have HO_8 := n1_; have HB := n2_; clear n0_ n1_ n2_; (try clear hb); (try clear hb2); (try clear hk); (try clear hi)))
         go_ret; exact ⟨by first | rfl | (simp [errW_none, errW_some] <;> rfl) | (simp [*, errW_none, errW_some] <;> rfl), by repeat (first | (with_reducible first | exact HB.out | apply below_alloc | apply pw_below_drewN | apply below_drew1) | exact HB.out)⟩
        (· rw [if_neg c58] at H; have c58b0 : (x10_2 == (t632.length : Int)) = false := beq_eq_false_iff_ne.mpr c58; have c58b1 : (x10_2 != (t632.length : Int)) = true := bne_iff_ne.mpr c58; obtain rfl := Option.some.inj H; go_wp2; go_ret; exact ⟨by first | rfl | (simp [errW_none, errW_some] <;> rfl) | (simp [*, errW_none, errW_some] <;> rfl), by repeat (first | (with_reducible first | exact HB.out | apply below_alloc | apply pw_below_drewN | apply below_drew1) | exact HB.out)⟩)
 ·rw [if_neg c7] at H
  have c7b0 : (t631 == 0) = false := beq_eq_false_iff_ne.mpr c7; have c7b1 : (t631 != 0) = true := bne_iff_ne.mpr c7; obtain rfl := Option.some.inj H
  go_enter Try.func7, Try.ntmps7
  go_wp2_with (first | ((with_reducible refine gate_callee (f := 10) rfl ?_); refine goesL_ (some 20) rfl rfl Try.func10 (by kernel_rfl) rfl #[.slice A0 l0.length c0] rfl (by (try simp only [List.map_toArray, List.map_cons, List.map_nil]); first | done | rfl | (simp only [List.length_drop, List.length_take]; rfl)) ?_; (with_reducible refine (dioramaref36_Shape.calls k _ _ l0 t619 _ ?side1 ?side2 A3.out).mono ?_); (case side1 => repeat (first | exact HR0.out | (with_reducible refine Kd.C_alloc ?_ _) | (with_reducible refine Kd.C_drewN ?_ _) | (with_reducible refine Kd.C_drew ?_))); (case side2 => exact HC0.out); rintro e w61 ⟨v620, rfl, ho0, hb⟩; refine ⟨_, rfl, ?_⟩; have n0_ := Aside0.mk (Kd.R_lower ho0 (below_size (by repeat (first | (with_reducible first | exact HB.out | apply below_alloc | apply pw_below_drewN | apply below_drew1) | exact HB.out)))); have n1_ := Aside0.mk (below_step (by repeat (first | (with_reducible first | exact HB.out | apply below_alloc | apply pw_below_drewN | apply below_drew1) | exact HB.out)) hb); clear HB; have HO621 := n0_; have HB := n1_; clear n0_ n1_; (try clear hb); (try clear hb2); (try clear hk); (try clear hi); (try clear ho0); obtain ⟨Ao62, co62, eo62⟩ := Kd.R_slice HO621.out; subst eo62) | ((with_reducible refine gate_callee (f := 11) rfl ?_); refine goesL_ (some 24) rfl rfl Try.func11 (by kernel_rfl) rfl #[.slice Ao62 t619.length co62, .slice A0 l0.length c0] rfl (by (try simp only [List.map_toArray, List.map_cons, List.map_nil]); first | done | rfl | (simp only [List.length_drop, List.length_take]; rfl)) ?_; (with_reducible refine (dioramaref36_World.calls k _ _ t619 _ _ l0 t622 _ ?side1 ?side2 ?side3 ?side4 A4.out).mono ?_); (case side1 => repeat (first | exact (Kd.R_reads' HO621.out).2.2 | (with_reducible refine Kd.C_alloc ?_ _) | (with_reducible refine Kd.C_drewN ?_ _) | (with_reducible refine Kd.C_drew ?_))); (case side2 => exact (Kd.R_reads' HO621.out).2.1); (case side3 => repeat (first | exact (Kd.C_below HR0.out HB.out) | (with_reducible refine Kd.C_alloc ?_ _) | (with_reducible refine Kd.C_drewN ?_ _) | (with_reducible refine Kd.C_drew ?_))); (case side4 => exact HC0.out); rintro e w63 ⟨v623, rfl, ho0, hb⟩; refine ⟨_, rfl, ?_⟩; have n0_ := Aside0.mk (Kd.R_below (by (with_reducible repeat (first | apply Kd.R_alloc | apply Kd.R_drewN | apply Kd.R_drew)); exact HO621.out) hb); have n1_ := Aside0.mk (Kd.N_lower (Kd.N_mono (ok' := fun k_ => some k_ ≠ (.slice Ao62 t619.length co62 : Value).ownBlock) (Kd.R_N (Kd.R_bound ho0)) (fun k_ hk_ => (Kd.fresh' (Kd.R_lt (by (with_reducible repeat (first | apply Kd.R_alloc | apply Kd.R_drewN | apply Kd.R_drew)); exact HO621.out)) k_ hk_.2.1))) (below_size (by repeat (first | (with_reducible first | exact HB.out | apply below_alloc | apply pw_below_drewN | apply below_drew1) | exact HB.out)))); have n2_ := Aside0.mk (below_step (by repeat (first | (with_reducible first | exact HB.out | apply below_alloc | apply pw_below_drewN | apply below_drew1) | exact HB.out)) hb); clear HO621; clear HB; have HO621 := n0_; have HO624 := n1_; have HB := n2_; clear n0_ n1_ n2_; (try clear hb); (try clear hb2); (try clear hk); (try clear hi); (try clear ho0)) | ((with_reducible refine gate_callee (f := 11) rfl ?_); refine goesL_ (some 27) rfl rfl Try.func11 (by kernel_rfl) rfl #[.slice Ao62 t619.length co62, .slice A1 l1.length c1] rfl (by (try simp only [List.map_toArray, List.map_cons, List.map_nil]); first | done | rfl | (simp only [List.length_drop, List.length_take]; rfl)) ?_; (with_reducible refine (dioramaref36_World.calls k _ _ t619 _ _ l1 t625 _ ?side1 ?side2 ?side3 ?side4 A5.out).mono ?_); (case side1 => repeat (first | exact (Kd.R_reads' HO621.out).2.2 | (with_reducible refine Kd.C_alloc ?_ _) | (with_reducible refine Kd.C_drewN ?_ _) | (with_reducible refine Kd.C_drew ?_))); (case side2 => exact (Kd.R_reads' HO621.out).2.1); (case side3 => repeat (first | exact (Kd.C_below HR1.out HB.out) | (with_reducible refine Kd.C_alloc ?_ _) | (with_reducible refine Kd.C_drewN ?_ _) | (with_reducible refine Kd.C_drew ?_))); (case side4 => exact HC1.out); rintro e w64 ⟨v626, rfl, ho0, hb⟩; refine ⟨_, rfl, ?_⟩; have n0_ := Aside0.mk (Kd.R_below (by (with_reducible repeat (first | apply Kd.R_alloc | apply Kd.R_drewN | apply Kd.R_drew)); exact HO621.out) hb); have n1_ := Aside0.mk (Kd.N_elder' (by (with_reducible repeat (first | apply Kd.N_alloc | apply Kd.N_drewN | apply Kd.N_drew)); exact HO624.out) (by first | exact Kd.N_base ho0 | exact Kd.R_base ho0) hb); have n2_ := Aside0.mk (Kd.N_lower (Kd.N_mono (ok' := fun k_ => some k_ ≠ (.slice Ao62 t619.length co62 : Value).ownBlock ∧ some k_ ≠ (v623 : Value).ownBlock) (Kd.R_N (Kd.R_bound ho0)) (fun k_ hk_ => ⟨(Kd.fresh' (Kd.R_lt (by (with_reducible repeat (first | apply Kd.R_alloc | apply Kd.R_drewN | apply Kd.R_drew)); exact HO621.out)) k_ hk_.2.1), (Kd.fresh' (Kd.N_lt (by (with_reducible repeat (first | apply Kd.N_alloc | apply Kd.N_drewN | apply Kd.N_drew)); exact HO624.out)) k_ hk_.2.1)⟩)) (below_size (by repeat (first | (with_reducible first | exact HB.out | apply below_alloc | apply pw_below_drewN | apply below_drew1) | exact HB.out)))); have n3_ := Aside0.mk (below_step (by repeat (first | (with_reducible first | exact HB.out | apply below_alloc | apply pw_below_drewN | apply below_drew1) | exact HB.out)) hb); clear HO621; clear HO624; clear HB; have HO621 := n0_; have HO624 := n1_; have HO627 := n2_; have HB := n3_; clear n0_ n1_ n2_ n3_; (try clear hb); (try clear hb2); (try clear hk); (try clear hi); (try clear ho0); obtain ⟨Ao65, co65, eo65⟩ := Kd.N_slice HO624.out; subst eo65; obtain ⟨Ao66, co66, eo66⟩ := Kd.N_slice HO627.out; subst eo66) | ((with_reducible refine gate_callee (f := 14) rfl ?_); refine goesL_ (some 28) rfl rfl Try.func14 (by kernel_rfl) rfl #[.slice Ao65 t622.length co65, .slice Ao66 t625.length co66] rfl (by (try simp only [List.map_toArray, List.map_cons, List.map_nil]); first | done | rfl | (simp only [List.length_drop, List.length_take]; rfl)) ?_; (with_reducible refine (diff_Diff.calls _ _ t622 _ _ t625 t628 t631 _ ?side1 ?side2 ?side3 ?side4 A6.out).mono ?_); (case side1 => repeat (first | exact (Kd.N_reads' HO624.out).2.2 | (with_reducible refine Kd.C_alloc ?_ _) | (with_reducible refine Kd.C_drewN ?_ _) | (with_reducible refine Kd.C_drew ?_))); (case side2 => exact (Kd.N_reads' HO624.out).2.1); (case side3 => repeat (first | exact (Kd.N_reads' HO627.out).2.2 | (with_reducible refine Kd.C_alloc ?_ _) | (with_reducible refine Kd.C_drewN ?_ _) | (with_reducible refine Kd.C_drew ?_))); (case side4 => exact (Kd.N_reads' HO627.out).2.1); rintro e w67 ⟨v629, rfl, ho0, hb⟩; refine ⟨_, rfl, ?_⟩; have n0_ := Aside0.mk (Kd.R_below (by (with_reducible repeat (first | apply Kd.R_alloc | apply Kd.R_drewN | apply Kd.R_drew)); exact HO621.out) hb); have n1_ := Aside0.mk (Kd.N_elder' (by (with_reducible repeat (first | apply Kd.N_alloc | apply Kd.N_drewN | apply Kd.N_drew)); exact HO624.out) (by first | exact Kd.N_base ho0 | exact Kd.R_base ho0) hb); have n2_ := Aside0.mk (Kd.N_elder' (by (with_reducible repeat (first | apply Kd.N_alloc | apply Kd.N_drewN | apply Kd.N_drew)); exact HO627.out) (by first | exact Kd.N_base ho0 | exact Kd.R_base ho0) hb); have n3_ := Aside0.mk (Kd.N_lower (Kd.N_mono (ok' := fun k_ => some k_ ≠ (.slice Ao62 t619.length co62 : Value).ownBlock ∧ some k_ ≠ (.slice Ao65 t622.length co65 : Value).ownBlock ∧ some k_ ≠ (.slice Ao66 t625.length co66 : Value).ownBlock) ho0 (fun k_ hk_ => ⟨(Kd.fresh' (Kd.R_lt (by (with_reducible repeat (first | apply Kd.R_alloc | apply Kd.R_drewN | apply Kd.R_drew)); exact HO621.out)) k_ hk_), (Kd.fresh' (Kd.N_lt (by (with_reducible repeat (first | apply Kd.N_alloc | apply Kd.N_drewN | apply Kd.N_drew)); exact HO624.out)) k_ hk_), (Kd.fresh' (Kd.N_lt (by (with_reducible repeat (first | apply Kd.N_alloc | apply Kd.N_drewN | apply Kd.N_drew)); exact HO627.out)) k_ hk_)⟩)) (below_size (by repeat (first | (with_reducible first | exact HB.out | apply below_alloc | apply pw_below_drewN | apply below_drew1) | exact HB.out)))); have n4_ := Aside0.mk (below_step (by repeat (first | (with_reducible first | exact HB.out | apply below_alloc | apply pw_below_drewN | apply below_drew1) | exact HB.out)) hb); clear HO621; clear HO624; clear HO627; clear HB; have HO621 := n0_; have HO624 := n1_; have HO627 := n2_; have HO630 := n3_; have HB := n4_; clear n0_ n1_ n2_ n3_ n4_; (try clear hb); (try clear hb2); (try clear hk); (try clear hi); (try clear ho0)))
  go_ret; exact ⟨by first | rfl | (simp [errW_none, errW_some] <;> rfl) | (simp [*, errW_none, errW_some] <;> rfl), by repeat (first | (with_reducible first | exact HB.out | apply below_alloc | apply pw_below_drewN | apply below_drew1) | exact HB.out)⟩
def dioramalaw36_DiffBytes.Pure : Prop := ∀ (l0 : List Int) (l1 : List Int), l0.length ≤ maxLen → l0.length * 8 ≤ 140737488351232 → (∀ x ∈ l0, (Lit.int .i64 x).wf = true) → l1.length ≤ maxLen → l1.length * 8 ≤ 140737488351232 → (∀ x ∈ l1, (Lit.int .i64 x).wf = true) → ∃ k, dioramalaw36_DiffBytes.f k l0 l1 = some true
theorem dioramalaw36_DiffBytes.walk (P : dioramalaw36_DiffBytes.Pure) (a0 : Option Addr) (len0 cap0 : Nat) (z0 : List Int) (a1 : Option Addr) (len1 cap1 : Nat) (z1 : List Int) (w : World) (w0 : (a0 = none ∧ len0 = 0 ∧ cap0 = 0 ∧ z0 = []) ∨ ∃ x, a0 = some x ∧ len0 ≤ cap0 ∧ cap0 ≤ maxLen ∧ z0.length = cap0 ∧ (∀ i, i < z0.length → w.cell? (x.add i) = some (.int .i64 (z0.getD i 0))) ∧ ∀ n ∈ z0, (Lit.int .i64 n).wf = true) (y0 : len0 * 8 ≤ 140737488351232) (w1 : (a1 = none ∧ len1 = 0 ∧ cap1 = 0 ∧ z1 = []) ∨ ∃ x, a1 = some x ∧ len1 ≤ cap1 ∧ cap1 ≤ maxLen ∧ z1.length = cap1 ∧ (∀ i, i < z1.length → w.cell? (x.add i) = some (.int .i64 (z1.getD i 0))) ∧ ∀ n ∈ z1, (Lit.int .i64 n).wf = true) (y1 : len1 * 8 ≤ 140737488351232) :
  Calls Try.prog 7 #[.slice a0 len0 cap0, .slice a1 len1 cap1] w fun e w' => e = .returned (.bool true) ∧ Below w.heap.size w w' := by
 obtain ⟨l0, rfl, hr0, hm0, hw0, hc0⟩ := ReadsInt.ofRowC w0; obtain ⟨l1, rfl, hr1, hm1, hw1, hc1⟩ := ReadsInt.ofRowC w1; obtain ⟨k, h⟩ := P l0 l1 hm0 y0 hw0 hm1 y1 hw1; refine (dioramalaw36_DiffBytes.calls k _ _ l0 _ _ l1 true w (Kd.C_of_reads (d := (0 : Int)) (h1 := fun _ => rfl) hr0) hc0 (Kd.C_of_reads (d := (0 : Int)) (h1 := fun _ => rfl) hr1) hc1 h).mono ?_; rintro e w' ⟨rfl, hd⟩; exact ⟨rfl, hd⟩
end Go.Proofs.Ytcgpemefmakjiaa.PX
namespace Go.Proofs.Ytcgpemefmakjiaa.Iter
open Go.RowKit
variable {F : Fence} {n : Nat} {P : Program}
end Go.Proofs.Ytcgpemefmakjiaa.Iter
namespace Go.Proofs.Ytcgpemefmakjiaa.PX
open Go.RowKit Go.Shelf Go.Proofs.Ytcgpemefmakjiaa.Iter Go.Proofs.YtcgpemefmakjiaaW.PrintWords Go.Proofs.YtcgpemefmakjiaaW.PrintLast Go.Proofs.YtcgpemefmakjiaaW.PrintMore
set_option linter.unusedVariables false
set_option linter.unusedSimpArgs false
attribute [local go_sem] Oper.semAt_some
end Go.Proofs.Ytcgpemefmakjiaa.PX
namespace Go.Proofs.Ytcgpemefmakjiaa.Iter
open Go.RowKit Go.Proofs.YtcgpemefmakjiaaW.PrintWords Go.Proofs.YtcgpemefmakjiaaW.PrintLast
variable {P : Program} {l n : Nat} {ops : Array Oper} {md : Region.Mode} {Q : Exit → Act → World → Prop}
end Go.Proofs.Ytcgpemefmakjiaa.Iter
namespace Go.Proofs.Ytcgpemefmakjiaa.PX
open Go.RowKit Go.Shelf Go.Proofs.Ytcgpemefmakjiaa.Iter Go.Proofs.YtcgpemefmakjiaaW.PrintWords Go.Proofs.YtcgpemefmakjiaaW.PrintLast Go.Proofs.YtcgpemefmakjiaaW.PrintMore
set_option linter.unusedVariables false
set_option linter.unusedSimpArgs false
attribute [local go_sem] Oper.semAt_some
structure TurnS (w : World) (A : Option Addr) (c : Nat) (xs : List S61) (b5 : Nat) (v' : Value) (ys : List S61) (cs : Array Value) (W : World) : Prop where
 box : W.heap[w.heap.size]? = some (.cells #[v'] 30 (0, 0))
 row : Kd.R k61 61 W w.heap.size (fun _ => True) v' ys
 bel : Below w.heap.size w W
 lst : W.heap[w.heap.size + 1]? = some (.cells #[.slice A xs.length c] 30 (0, 0))
 var : W.heap[b5]? = some (.cells cs 61 (0, 0))
 ne : some b5 ≠ v'.ownBlock
 ge : w.heap.size ≤ b5
section
variable {w : World} {A : Option Addr} {c : Nat} {xs : List S61} {b5 : Nat} {v' : Value} {ys : List S61} {cs : Array Value} {W W' : World}
end
end Go.Proofs.Ytcgpemefmakjiaa.PX
namespace Go.Proofs.Ytcgpemefmakjiaa.PX
open Go.RowKit Go.Proofs.YtcgpemefmakjiaaW.PrintWords Go.Proofs.YtcgpemefmakjiaaW.PrintLast Go.Proofs.YtcgpemefmakjiaaW.PrintMore
attribute [local go_sem] max2_int min2_int max_two min_two max_three min_three max_four min_four   -- for this text's walks alone
set_option linter.unusedVariables false
set_option linter.unusedSimpArgs false
end Go.Proofs.Ytcgpemefmakjiaa.PX
namespace Go.Proofs.Ytcgpemefmakjiaa.PX
open Go.RowKit Go.Proofs.YtcgpemefmakjiaaW.PrintWords Go.Proofs.YtcgpemefmakjiaaW.PrintLast Go.Proofs.YtcgpemefmakjiaaW.PrintMore
attribute [local go_sem] max2_int min2_int max_two min_two max_three min_three max_four min_four   -- for this text's walks alone
set_option linter.unusedVariables false
set_option linter.unusedSimpArgs false
end Go.Proofs.Ytcgpemefmakjiaa.PX
namespace Go.Proofs.Ytcgpemefmakjiaa.PX
open Go.RowKit Go.Proofs.YtcgpemefmakjiaaW.PrintWords Go.Proofs.YtcgpemefmakjiaaW.PrintLast Go.Proofs.YtcgpemefmakjiaaW.PrintMore
attribute [local go_sem] max2_int min2_int max_two min_two max_three min_three max_four min_four   -- for this text's walks alone
set_option linter.unusedVariables false
set_option linter.unusedSimpArgs false
end Go.Proofs.Ytcgpemefmakjiaa.PX
namespace Go.Proofs.Ytcgpemefmakjiaa.PX
open Go.RowKit Go.Proofs.YtcgpemefmakjiaaW.PrintWords Go.Proofs.YtcgpemefmakjiaaW.PrintLast Go.Proofs.YtcgpemefmakjiaaW.PrintMore
attribute [local go_sem] max2_int min2_int max_two min_two max_three min_three max_four min_four   -- for this text's walks alone
set_option linter.unusedVariables false
set_option linter.unusedSimpArgs false
end Go.Proofs.Ytcgpemefmakjiaa.PX
namespace Go.Proofs.Ytcgpemefmakjiaa.PX
open Go.RowKit Go.Proofs.YtcgpemefmakjiaaW.PrintWords Go.Proofs.YtcgpemefmakjiaaW.PrintLast Go.Proofs.YtcgpemefmakjiaaW.PrintMore
set_option linter.unusedVariables false
def EvP {α : Type} (F : Nat → Option α) (P : α → Prop) : Prop := ∃ r, P r ∧ ∃ K, ∀ k, K ≤ k → F k = some r
abbrev Ev {α : Type} (F : Nat → Option α) (r : α) : Prop := EvP F (fun x => x = r)
section
variable {α β : Type} {F G : Nat → Option α} {P Q : α → Prop} {r : α}
theorem EvP.const (h : P r) : EvP (fun _ => some r) P := ⟨r, h, 0, fun _ _ => rfl⟩
theorem EvP.step (h : ∀ k, F (k + 1) = G k) (hg : EvP G P) : EvP F P := by
 obtain ⟨r, hr, K, hK⟩ := hg; refine ⟨r, hr, K + 1, fun k hk => ?_⟩; obtain ⟨j, rfl⟩ : ∃ j, k = j + 1 := ⟨k - 1, by omega⟩; rw [h]; exact hK j (by omega)
theorem EvP.bind {G : Nat → α → Option β} {Q : β → Prop} (hf : EvP F P) (hg : ∀ a, P a → EvP (fun k => G k a) Q) : EvP (fun k => (F k).bind (G k)) Q := by
 obtain ⟨a, ha, K, hK⟩ := hf; obtain ⟨b, hb, K', hK'⟩ := hg a ha; refine ⟨b, hb, max K K', fun k hk => ?_⟩; simp only [hK k (by omega), Option.bind_some]; exact hK' k (by omega)
theorem Ev.bind {G : Nat → α → Option β} {Q : β → Prop} (hf : Ev F r) (hg : EvP (fun k => G k r) Q) : EvP (fun k => (F k).bind (G k)) Q := EvP.bind hf (fun a ha => ha ▸ hg)
theorem EvP.known {o : Option α} {G : Nat → α → Option β} {Q : β → Prop} (ho : o = some r) (hg : EvP (fun k => G k r) Q) : EvP (fun k => o.bind (G k)) Q := by
 subst ho; exact hg
theorem EvP.pos {c : Prop} [Decidable c] (hc : c) (h : EvP F P) : EvP (fun k => if c then F k else G k) P := by simp only [if_pos hc]; exact h
theorem EvP.neg {c : Prop} [Decidable c] (hc : ¬c) (h : EvP G P) : EvP (fun k => if c then F k else G k) P := by simp only [if_neg hc]; exact h
theorem EvP.mono (h : EvP F P) (hp : ∀ r, P r → Q r) : EvP F Q := by
 obtain ⟨r, hr, hK⟩ := h; exact ⟨r, hp r hr, hK⟩
theorem Ev.at_ (h : Ev F r) : ∃ k, F k = some r := by
 obtain ⟨_, rfl, K, hK⟩ := h; exact ⟨K, hK K (Nat.le_refl _)⟩
end
theorem w64 {x : Int} (h0 : -9223372036854775808 ≤ x) (h1 : x ≤ 9223372036854775807) : wrap64 x = x := wrap64_id h0 h1
theorem w64s (i : Nat) (h : i < 9223372036854775807) : wrap64 ((i : Int) + 1) = ((i + 1 : Nat) : Int) := by rw [w64 (by omega) (by omega)]; omega
theorem sameInts_l0 (x y : List Int) (hl : x.length = y.length) (hx : x.length ≤ 4611686018427387904) : ∀ n i : Nat, i + n = x.length → Ev (fun k => dioramaref01_SameInts.l0 k x y i) (decide (x.drop i = y.drop i))
 | 0, i, h => by
  refine EvP.step (fun k => by rw [dioramaref01_SameInts.l0]) ?_; refine EvP.neg (by omega) ?_; rw [List.drop_eq_nil_of_le (by omega), List.drop_eq_nil_of_le (by omega)]; exact EvP.const (by simp)
 | n + 1, i, h => by
  have ih := sameInts_l0 x y hl hx n (i + 1) (by omega); refine EvP.step (fun k => by rw [dioramaref01_SameInts.l0]) ?_; refine EvP.pos (by omega) (EvP.pos (by omega) (EvP.pos (by omega) ?_)); rw [List.drop_eq_getElem_cons (show i < x.length by omega), List.drop_eq_getElem_cons (show i < y.length by omega)]; rw [rd_nat x i (by omega), rd_nat y i (by omega), w64s i (by omega)]
  by_cases he : x[i] = y[i]
  (· refine EvP.pos he (EvP.mono ih ?_); rintro r rfl; simp only [he, List.cons.injEq, true_and]); (· refine EvP.neg he (EvP.const ?_); simp only [List.cons.injEq, he, false_and, decide_false])
theorem sameInts_ev (x y : List Int) (hx : x.length ≤ 4611686018427387904) : Ev (fun k => dioramaref01_SameInts.f k x y) (decide (x = y)) := by
 unfold dioramaref01_SameInts.f
 by_cases hl : x.length = y.length
 ·refine EvP.pos (by omega) ?_
  have := sameInts_l0 x y hl hx x.length 0 (by omega)
  simpa using this
 ·refine EvP.neg (by omega) (EvP.const ?_)
  have : x ≠ y := fun e => hl (by rw [e])
  simp [this]
theorem rd_T61_nat (xs : List S61) (i : Nat) (h : i < xs.length) : rd_T61 xs i = xs[i] := by simp [rd_T61, List.getD_eq_getElem?_getD, h]
theorem rd_L1_nat (xs : List (List Int)) (i : Nat) (h : i < xs.length) : rd_L1 xs i = xs[i] := by simp [rd_L1, List.getD_eq_getElem?_getD, h]
theorem rd_L2_nat (xs : List (List (List Int))) (i : Nat) (h : i < xs.length) : rd_L2 xs i = xs[i] := by simp [rd_L2, List.getD_eq_getElem?_getD, h]
theorem badLen_false {n n0 : Nat} (h : n = n0) (h1 : 1 ≤ n) (h2 : n ≤ 10) : badLen n n0 = false := by
 subst h
 simp [badLen]
 omega
end Go.Proofs.Ytcgpemefmakjiaa.PX
namespace Go.Proofs.Ytcgpemefmakjiaa.PX
open Go.RowKit Go.Proofs.YtcgpemefmakjiaaW.PrintWords Go.Proofs.YtcgpemefmakjiaaW.PrintLast Go.Proofs.YtcgpemefmakjiaaW.PrintMore
set_option linter.unusedVariables false
section
variable (kind : Int) (a b : List (List Int)) (s : Nat) {R : List S76 → Prop}
end
theorem chgs_len (kind : Int) (a b : List (List Int)) (m : Nat) : (chgs kind a b m).length = setsN a b m + (a.length - m) + (b.length - m) := by
 unfold chgs setsN; rw [List.length_append, List.length_append, setAll_len kind 0]
 simp [takeL, addL]
section
variable (l0 l1 : List (List (List Int))) {R : List S76 × Int → Prop}
end
theorem shaped_wide10 {l : List (List (List Int))} (h : shapedB l = true) (k i : Int) : (rd_L1 (rd_L2 l k) i).length ≤ 10 := by
 by_cases hk : k.toNat < l.length
 ·have hm : rd_L2 l k ∈ l := by
   simp only [rd_L2, List.getD_eq_getElem?_getD, List.getElem?_eq_getElem hk, Option.getD_some]; exact List.getElem_mem hk
  by_cases hi : i.toNat < (rd_L2 l k).length
  ·have hm2 : rd_L1 (rd_L2 l k) i ∈ rd_L2 l k := by
    simp only [rd_L1, List.getD_eq_getElem?_getD, List.getElem?_eq_getElem hi, Option.getD_some]; exact List.getElem_mem hi
   unfold shapedB at h; simp only [Bool.and_eq_true, List.all_eq_true] at h; have h1 := h.1.1 _ hm; simp only [Bool.not_eq_true', anyBad, List.any_eq_false] at h1; have h2 := h1 _ hm2
   simp [badLen] at h2
   omega
  ·have e : rd_L1 (rd_L2 l k) i = [] := by simp only [rd_L1, List.getD_eq_getElem?_getD, List.getElem?_eq_none (Nat.not_lt.1 hi), Option.getD_none]
   rw [e]
   simp
 ·have e : rd_L2 l k = [] := by simp only [rd_L2, List.getD_eq_getElem?_getD, List.getElem?_eq_none (Nat.not_lt.1 hk), Option.getD_none]
  have e2 : rd_L1 (rd_L2 l k) i = [] := by rw [e]; rfl
  rw [e2]
  simp
end Go.Proofs.Ytcgpemefmakjiaa.PX
namespace Go.Proofs.Ytcgpemefmakjiaa.PX
open Go.RowKit Go.Proofs.YtcgpemefmakjiaaW.PrintWords Go.Proofs.YtcgpemefmakjiaaW.PrintLast Go.Proofs.YtcgpemefmakjiaaW.PrintMore
set_option linter.unusedVariables false
section
variable {W W1 w1 : World} {base k n c : Nat} {v vi : Value} {l : Wd} {rows : List (List Int)} {r : List Int} {f1 : Nat → Nat} {f2 : Nat → Nat × Nat}
end
end Go.Proofs.Ytcgpemefmakjiaa.PX
namespace Go.Proofs.Ytcgpemefmakjiaa.PX
open Go.RowKit Go.Proofs.YtcgpemefmakjiaaW.PrintWords Go.Proofs.YtcgpemefmakjiaaW.PrintLast Go.Proofs.YtcgpemefmakjiaaW.PrintMore
set_option linter.unusedVariables false
theorem wf_in64 {x : Int} (h : (Lit.int .i64 x).wf = true) : in64 x = true := by
 simp only [Lit.wf, IntKind.min, IntKind.max, IntKind.signed, IntKind.bits, Bool.and_eq_true, decide_eq_true_eq, if_true] at h; rw [in64_iff]; omega
theorem wf_all {l : List Int} (h : ∀ x ∈ l, (Lit.int .i64 x).wf = true) : l.all in64 = true := by
 rw [List.all_eq_true]
 exact fun x hx => wf_in64 (h x hx)
def ShapeOK (sh : List Int) : Prop := sh.length ≤ 3 ∧ ∀ j : Nat, j < sh.length → 1 ≤ rd sh j ∧ rd sh j ≤ 4
theorem ShapeOK.snoc {acc : List Int} {t : Int} (h : ShapeOK acc) (hl : acc.length ≤ 2) (h0 : 0 ≤ t) (h4 : t < 4) : ShapeOK (acc ++ [1 + t]) := by
 refine ⟨by rw [List.length_append, List.length_singleton]; omega, fun j hj => ?_⟩
 by_cases hja : j < acc.length
 ·have e : rd (acc ++ [1 + t]) j = rd acc j := by simp [rd, List.getD_eq_getElem?_getD, List.getElem?_append_left hja]
  rw [e]; exact h.2 j hja
 ·have e : j = acc.length := by rw [List.length_append, List.length_singleton] at hj; omega
  have e : rd (acc ++ [1 + t]) j = 1 + t := by simp [rd, List.getD_eq_getElem?_getD, e]
  rw [e]; omega
theorem shape_l0 (x : List Int) (hx : x.all in64 = true) (m : Int) (hm0 : 0 ≤ m) (hm : m < 3) (hat : dioramaref01_At.f x 0 3 = some m) (n : Nat) : ∀ (acc : List Int), (acc.length : Int) + n = 1 + m → ShapeOK acc → EvP (fun k => dioramaref36_Shape.l0 k x acc acc.length) ShapeOK := by
 induction n with
 | zero =>
  intro acc h hok; refine EvP.step (fun k => by rw [dioramaref36_Shape.l0]) (EvP.known hat ?_); rw [w64 (by omega) (by omega)]; exact EvP.neg (by omega) (EvP.const hok)
 | succ n ih =>
  intro acc h hok; refine EvP.step (fun k => by rw [dioramaref36_Shape.l0]) (EvP.known hat ?_); rw [w64 (x := 1 + m) (by omega) (by omega)]; obtain ⟨e1, e2, e3⟩ := atv_spec x (wrap64 (1 + (acc.length : Int))) 4 hx; refine EvP.pos (by omega) (EvP.known e1 (EvP.pos (by omega) ?_)); generalize atv x (wrap64 (1 + (acc.length : Int))) 4 = t at e2 e3; replace e3 := e3 (by omega); have ih := ih (acc ++ [1 + t]) (by rw [List.length_append, List.length_singleton]; omega) (hok.snoc (by omega) e2 e3); rw [List.length_append, List.length_singleton] at ih; rw [w64s acc.length (by omega), w64 (x := 1 + t) (by omega) (by omega)]; exact ih
theorem shape_ev (x : List Int) (hx : x.all in64 = true) : EvP (fun k => dioramaref36_Shape.f k x) ShapeOK := by
 obtain ⟨e1, e2, e3⟩ := atv_spec x 0 3 hx; unfold dioramaref36_Shape.f; exact shape_l0 x hx (atv x 0 3) e2 (e3 (by decide)) e1 (1 + atv x 0 3).toNat [] (by simp; omega) ⟨by simp, fun j hj => by simp at hj⟩
def WorldOK (sh : List Int) (w : Wd) : Prop := w.length = sh.length ∧ ∀ (j : Nat) rows, w[j]? = some rows → rows.length ≤ 6 ∧ ∀ r ∈ rows, (r.length : Int) = rd sh j
section
variable (sh x : List Int) (hx : x.all in64 = true) (hs : ShapeOK sh) {R : Wd → Prop}
include hx hs
theorem world_l2 (j : Nat) (hj : j < sh.length) (x5 : Wd) (x6 : Int) (x8 : List (List Int)) (x9 : Int) (h8 : x8.length ≤ 5) (hg : ∀ row : List Int, (row.length : Int) = rd sh j → EvP (fun k => dioramaref36_World.l1 k sh x x5 x6 j (x8 ++ [row]) (wrap64 (x9 + 1))) R) :
  ∀ (n : Nat) (row : List Int), (row.length : Int) + n = rd sh j → EvP (fun k => dioramaref36_World.l2 k sh x x5 x6 j x8 x9 row row.length) R
 | 0, row, h => by
  refine EvP.step (fun k => by rw [dioramaref36_World.l2]) ?_; exact EvP.pos (by omega) (EvP.pos (by omega) (EvP.neg (by omega) (EvP.pos (by omega) (hg row (by omega)))))
 | n + 1, row, h => by
  have hb := hs.2 j hj; refine EvP.step (fun k => by rw [dioramaref36_World.l2]) ?_; refine EvP.pos (by omega) (EvP.pos (by omega) (EvP.pos (by omega) (EvP.known (atv_spec x _ 3 hx).1 (EvP.pos (by omega) ?_)))); generalize atv x _ 3 = t; have ih := world_l2 j hj x5 x6 x8 x9 h8 hg n (row ++ [t]) (by simp; omega); rw [List.length_append, List.length_singleton] at ih; rw [w64s row.length (by omega)]; exact ih
theorem world_l1 (j : Nat) (hj : j < sh.length) (x5 : Wd) (h5 : x5.length = j) (x6 : Int) (hg : ∀ rows : List (List Int), rows.length ≤ 4 → (∀ r ∈ rows, (r.length : Int) = rd sh j) → EvP (fun k => dioramaref36_World.l0 k sh x (x5 ++ [rows]) (wrap64 (x6 + 17)) (wrap64 ((j : Int) + 1))) R) :
  ∀ (n : Nat) (rows : List (List Int)), rows.length + n = 4 → (∀ r ∈ rows, (r.length : Int) = rd sh j) → EvP (fun k => dioramaref36_World.l1 k sh x x5 x6 j rows rows.length) R := by
 obtain ⟨e1, e2, e3⟩ := atv_spec x x6 5 hx; replace e3 := e3 (by decide); intro n
 induction n with
 | zero =>
  intro rows h hr; refine EvP.step (fun k => by rw [dioramaref36_World.l1]) (EvP.known e1 ?_); have := hs.1; exact EvP.neg (by omega) (EvP.pos (by omega) (hg rows (by omega) hr))
 | succ n ih =>
  intro rows h hr; refine EvP.step (fun k => by rw [dioramaref36_World.l1]) (EvP.known e1 ?_); have := hs.1
  by_cases hc : (rows.length : Int) < atv x x6 5
  ·refine EvP.pos hc ?_
   have hb := hs.2 j hj; refine world_l2 sh x hx hs j hj x5 x6 rows rows.length (by omega) (fun row hrow => ?_) (rd sh j).toNat [] (by simp; omega)
   have := ih (rows ++ [row]) (by simp; omega) (fun r hr' => by
    rcases List.mem_append.1 hr' with h | h
    (· exact hr r h)
    ·rw [List.mem_singleton.1 h]; exact hrow)
   rw [List.length_append, List.length_singleton] at this; rw [w64s rows.length (by omega)]; exact this
  (· exact EvP.neg hc (EvP.pos (by omega) (hg rows (by omega) hr)))
theorem world_l0 : ∀ (n : Nat) (x5 : Wd) (x6 : Int), x5.length + n = sh.length → (∀ (j : Nat) rows, x5[j]? = some rows → rows.length ≤ 4 ∧ ∀ r ∈ rows, (r.length : Int) = rd sh j) → EvP (fun k => dioramaref36_World.l0 k sh x x5 x6 x5.length) (fun w => w.length = sh.length ∧ ∀ (j : Nat) rows, w[j]? = some rows → rows.length ≤ 4 ∧ ∀ r ∈ rows, (r.length : Int) = rd sh j)
 | 0, x5, x6, h, hok => by
  refine EvP.step (fun k => by rw [dioramaref36_World.l0]) ?_; exact EvP.neg (by omega) (EvP.const ⟨by omega, hok⟩)
 | n + 1, x5, x6, h, hok => by
  have h3 := hs.1; refine EvP.step (fun k => by rw [dioramaref36_World.l0]) ?_; refine EvP.pos (by omega) ?_; refine world_l1 sh x hx hs x5.length (by omega) x5 rfl x6 (fun rows h4 hr => ?_) 4 [] rfl (fun r hr => by simp at hr)
  have := world_l0 n (x5 ++ [rows]) (wrap64 (x6 + 17)) (by simp; omega) (fun j rows' hj => by
   by_cases hjl : j < x5.length
   (· rw [List.getElem?_append_left hjl] at hj; exact hok j rows' hj)
   ·have e : j = x5.length := by have := (List.getElem?_eq_some_iff.1 hj).1; simp at this; omega
    subst e
    simp at hj
    subst hj
    exact ⟨h4, hr⟩)
  rw [List.length_append, List.length_singleton] at this; rw [w64s x5.length (by omega)]; exact this
theorem world_ev : EvP (fun k => dioramaref36_World.f k sh x) (WorldOK sh) := by
 unfold dioramaref36_World.f; refine EvP.mono (world_l0 sh x hx hs sh.length [] 0 (by simp) (fun j rows hj => by simp at hj)) ?_; rintro w ⟨h1, h2⟩; exact ⟨h1, fun j rows hj => ⟨by have := (h2 j rows hj).1; omega, (h2 j rows hj).2⟩⟩
end
end Go.Proofs.Ytcgpemefmakjiaa.PX
namespace Go.Proofs.Ytcgpemefmakjiaa.PX
open Go.RowKit Go.Proofs.YtcgpemefmakjiaaW.PrintWords Go.Proofs.YtcgpemefmakjiaaW.PrintLast Go.Proofs.YtcgpemefmakjiaaW.PrintMore
set_option linter.unusedVariables false
section
variable {L : Wd} {k : Nat} {X : List (List Int)}
end
section
variable {L : Wd} {k wd : Nat} {a b : List (List Int)}
end
section
variable {sh : List Int} {a b : Wd} (hs : ShapeOK sh) (ha : WorldOK sh a) (hb : WorldOK sh b)
include hs
theorem WorldOK.rows (hw : WorldOK sh a) (j : Nat) (hj : j < a.length) : a[j].length ≤ 6 ∧ (∀ r ∈ a[j], r.length = (rd sh j).toNat) ∧ 1 ≤ (rd sh j).toNat ∧ (rd sh j).toNat ≤ 10 := by
 obtain ⟨h6, hr⟩ := hw.2 j a[j] (List.getElem?_eq_getElem hj); have := hs.2 j (by have := hw.1; omega); exact ⟨h6, fun r hr' => by have := hr r hr'; omega, by omega, by omega⟩
theorem WorldOK.shaped (hw : WorldOK sh a) : shapedB a = true := by
 unfold shapedB; have h3 := hs.1
 have hsum : sumLen a ≤ 18 := by
  have : ∀ (w : Wd), (∀ r ∈ w, r.length ≤ 6) → sumLen w ≤ 6 * w.length := by
   intro w
   induction w with
   | nil => intro _; simp [sumLen]
   | cons r w ih =>
    intro h; have := ih (fun r hr => h r (List.mem_cons_of_mem _ hr)); have := h r List.mem_cons_self
    have e : sumLen (r :: w) = r.length + sumLen w := by simp [sumLen]
    rw [e, List.length_cons]; omega
  have := this a (fun r hr => by
   obtain ⟨j, hj, e⟩ := List.getElem_of_mem hr; rw [← e]
   exact (hw.rows hs j hj).1)
  have := hw.1; omega
 simp only [Bool.and_eq_true, decide_eq_true_eq, List.all_eq_true]; refine ⟨⟨fun rows hr => ?_, by have := hw.1; omega⟩, by omega⟩; obtain ⟨j, hj, e⟩ := List.getElem_of_mem hr; obtain ⟨_, h2, h4, h5⟩ := hw.rows hs j hj; rw [e] at h2; rw [Bool.not_eq_true', anyBad, List.any_eq_false]; intro r hr'; have hz : 0 < rows.length := List.length_pos_of_mem hr'; have e0 : (rd_L1 rows 0).length = (rd sh j).toNat := h2 _ (by rw [show (0 : Int) = ((0 : Nat) : Int) from rfl, rd_L1_nat _ 0 hz]; exact List.getElem_mem _); rw [badLen_false (by rw [h2 r hr', e0]) (by rw [h2 r hr']; exact h4) (by rw [h2 r hr']; exact h5)]
 simp
include ha hb
theorem okK_all (j : Nat) (hj : j < a.length) : okK a b j = true := by
 have hjb : j < b.length := by have := ha.1; have := hb.1; omega
 have ra := (ha.rows hs j hj).2.1; have rb := (hb.rows hs j hjb).2.1; unfold okK; rw [rd_L2_nat a j hj, rd_L2_nat b j hjb]
 by_cases h1 : 0 < a[j].length
 ·by_cases h2 : 0 < b[j].length
  ·have e1 : (rd_L1 a[j] 0).length = (rd sh j).toNat := ra _ (by rw [show (0 : Int) = ((0 : Nat) : Int) from rfl, rd_L1_nat _ 0 h1]; exact List.getElem_mem _)
   have e2 : (rd_L1 b[j] 0).length = (rd sh j).toNat := rb _ (by rw [show (0 : Int) = ((0 : Nat) : Int) from rfl, rd_L1_nat _ 0 h2]; exact List.getElem_mem _); rw [e1, e2]
   simp
  ·simp [h2]
 ·simp [h1]
theorem diffR_shape : diffR a b = (diffL a b a.length, 0) := by
 unfold diffR
 have hl : a.length = b.length := by rw [ha.1, hb.1]
 have hall : (List.range a.length).all (okK a b) = true := by
  rw [List.all_eq_true]
  exact fun j hj => okK_all hs ha hb j (List.mem_range.1 hj)
 rw [ha.shaped hs, hb.shaped hs, decide_eq_true hl, hall]; rfl
end
end Go.Proofs.Ytcgpemefmakjiaa.PX
namespace Go.Proofs.Ytcgpemefmakjiaa.PX
open Go.RowKit Go.Proofs.YtcgpemefmakjiaaW.PrintWords Go.Proofs.YtcgpemefmakjiaaW.PrintLast Go.Proofs.YtcgpemefmakjiaaW.PrintMore
set_option linter.unusedVariables false
theorem setAll_le2 (kind : Int) (a b : List (List Int)) (w : Nat) : ∀ m : Nat, (∀ i : Nat, i < m → (rd_L1 a i).length ≤ w) → (setAll kind a b m).length ≤ w * m
 | 0, _ => by simp [setAll]
 | m + 1, h => by
  have ih := setAll_le2 kind a b w m (fun i hi => h i (by omega)); have h1 := setRow_le kind m (rd_L1 a m) (rd_L1 b m) (rd_L1 a m).length; have h2 := h m (by omega); rw [setAll_snoc, List.length_append, Nat.mul_add, Nat.mul_one]; omega
section
variable {sh : List Int} {a b : Wd} (hs : ShapeOK sh) (ha : WorldOK sh a) (hb : WorldOK sh b)
include hs ha hb
theorem diffL_short : ∀ n : Nat, n ≤ a.length → (diffL a b n).length ≤ 72 * n
 | 0, _ => by simp [diffL]
 | n + 1, h => by
  have ih := diffL_short n (by omega)
  have hnb : n < b.length := by have := ha.1; have := hb.1; omega
  obtain ⟨a6, ra, _, r10⟩ := ha.rows hs n (by omega); obtain ⟨b6, rb, _, _⟩ := hb.rows hs n hnb; rw [diffL_snoc, List.length_append, chgs_len, rd_L2_nat a n (by omega), rd_L2_nat b n hnb]; have hm := bestOf_le a[n] b[n] (min a[n].length b[n].length); have hm' : sameM a[n] b[n] ≤ min a[n].length b[n].length := hm
  have hset : setsN a[n] b[n] (sameM a[n] b[n]) ≤ 10 * sameM a[n] b[n] := setAll_le2 0 a[n] b[n] 10 _ (fun i hi => by
   rw [rd_L1_nat _ i (by omega), ra _ (List.getElem_mem _)]
   exact r10)
  omega
end
end Go.Proofs.Ytcgpemefmakjiaa.PX
namespace Go.Proofs.Ytcgpemefmakjiaa.Pure
open Go.RowKit Go.Proofs.Ytcgpemefmakjiaa.PX Go.Proofs.YtcgpemefmakjiaaW.PrintWords Go.Proofs.YtcgpemefmakjiaaW.PrintLast
end Go.Proofs.Ytcgpemefmakjiaa.Pure
namespace Go.Proofs.Ytcgpemefmakjiaa.PX
open Go.RowKit Go.Proofs.YtcgpemefmakjiaaW.PrintWords Go.Proofs.YtcgpemefmakjiaaW.PrintLast Go.Proofs.YtcgpemefmakjiaaW.PrintMore
set_option linter.unusedVariables false
theorem intR_le (n : Int) : (intR n).length ≤ 9 := by
 rw [intR_len]; have := nb_le (mag n); omega
theorem flat_le9 (xs : List Int) : ((xs.map intR).flatten).length ≤ 9 * xs.length := by
 induction xs with
 | nil => simp
 | cons x l ih =>
  have := intR_le x; rw [List.map_cons, List.flatten_cons, List.length_append, List.length_cons]; omega
theorem intsR_le (xs : List Int) : (intsR xs).length ≤ 9 * (xs.length + 1) := by
 have := flat_le9 xs; have := intR_le xs.length; rw [intsR, List.length_append]; omega
theorem nat64 (n : Nat) (h : n ≤ 1000000000000) : in64 (n : Int) = true := in64_iff.2 ⟨by omega, by omega⟩
theorem ints_l0 (xs : List Int) (hx : ∀ x ∈ xs, in64 x = true) (hl : xs.length ≤ 1000) : ∀ n i : Nat, i + n = xs.length → Ev (fun k => wire_Ints.l0 k (intR xs.length ++ ((xs.take i).map intR).flatten) xs xs.length i) (intsR xs)
 | 0, i, h => by
  refine EvP.step (fun k => by rw [wire_Ints.l0]) ?_; refine EvP.neg (by omega) ?_; rw [List.take_of_length_le (by omega)]; exact EvP.const rfl
 | n + 1, i, h => by
  have ih := ints_l0 xs hx hl n (i + 1) (by omega); refine EvP.step (fun k => by rw [wire_Ints.l0]) ?_; have h1 := flat_le9 (xs.take i); have h2 := intR_le xs.length; have h3 := intR_le (rd xs i); refine EvP.pos (by omega) (EvP.pos (by omega) (EvP.pos (by omega) (EvP.known (r := intR (rd xs i)) ?_ (EvP.pos ?_ ?_)))); (· unfold wire_Int.f; rw [rd_nat xs i (by omega), if_pos (hx _ (List.getElem_mem _))]); (· rw [List.length_append]; rw [List.length_take] at h1; omega)
  ·rw [w64s i (by omega)]
   rw [List.take_succ_eq_append_getElem (show i < xs.length by omega), List.map_append, List.flatten_append, ← List.append_assoc] at ih; rw [rd_nat xs i (by omega)]
   simpa using ih
theorem ints_ev (xs : List Int) (hx : ∀ x ∈ xs, in64 x = true) (hl : xs.length ≤ 1000) : Ev (fun k => wire_Ints.f k xs) (intsR xs) := by
 unfold wire_Ints.f; refine EvP.known (r := intR xs.length) (by unfold wire_Int.f; rw [if_pos (nat64 _ (by omega))]) ?_; have := ints_l0 xs hx hl xs.length 0 (by omega)
 simpa using this
structure OkC (c : S61) : Prop where
 nums : ∀ x ∈ ([c.f0, c.f1, c.f2, c.f3, c.f4] : List Int), in64 x = true
 vals : ∀ x ∈ c.f5, in64 x = true
 len : c.f5.length ≤ 10
def chg (c : S61) : List Int := intsR [c.f0, c.f1, c.f2, c.f3, c.f4] ++ intsR c.f5
def encR (cs : List S61) : List Int := intR cs.length ++ (cs.map chg).flatten
theorem chg_le {c : S61} (h : OkC c) : (chg c).length ≤ 153 := by
 have h1 := intsR_le [c.f0, c.f1, c.f2, c.f3, c.f4]; have h2 := intsR_le c.f5; have h3 := h.len; rw [chg, List.length_append]; simp only [List.length_cons, List.length_nil] at h1; omega
theorem chgs_le : ∀ cs : List S61, (∀ c ∈ cs, OkC c) → ((cs.map chg).flatten).length ≤ 153 * cs.length
 | [], _ => by simp
 | c :: l, h => by
  have h1 := chg_le (h c List.mem_cons_self); have h2 := chgs_le l (fun d hd => h d (List.mem_cons_of_mem _ hd)); rw [List.map_cons, List.flatten_cons, List.length_append, List.length_cons]; omega
theorem enc_l0 (cs : List S61) (hc : ∀ c ∈ cs, OkC c) (hl : cs.length ≤ 1000000) : ∀ n i : Nat, i + n = cs.length → Ev (fun k => diff_Encode.l0 k (intR cs.length ++ ((cs.take i).map chg).flatten) cs cs.length i) (encR cs)
 | 0, i, h => by
  refine EvP.step (fun k => by rw [diff_Encode.l0]) ?_; refine EvP.neg (by omega) ?_; rw [List.take_of_length_le (by omega)]; exact EvP.const rfl
 | n + 1, i, h => by
  have ih := enc_l0 cs hc hl n (i + 1) (by omega)
  have hi : i < cs.length := by omega
  have hk := hc cs[i] (List.getElem_mem hi); refine EvP.step (fun k => by rw [diff_Encode.l0]) ?_; refine EvP.pos (by omega) (EvP.pos (by omega) (EvP.pos (by omega) ?_)); rw [rd_T61_nat cs i hi]; refine Ev.bind (ints_ev _ hk.nums (by simp)) (Ev.bind (ints_ev _ hk.vals (by have := hk.len; omega)) (EvP.known (r := intR cs.length ++ ((cs.take (i + 1)).map chg).flatten) ?_ ?_))
  ·have h1 := chgs_le (cs.take i) (fun c h => hc c (List.mem_of_mem_take h))
   have h2 := intR_le cs.length; have h3 := chg_le hk; rw [List.length_take] at h1
   have e : ([intR cs.length ++ ((cs.take i).map chg).flatten, intsR [(cs[i]'hi).f0, (cs[i]'hi).f1, (cs[i]'hi).f2, (cs[i]'hi).f3, (cs[i]'hi).f4], intsR (cs[i]'hi).f5] : List (List Int)).flatten = intR cs.length ++ ((cs.take (i + 1)).map chg).flatten := by
    rw [List.take_succ_eq_append_getElem hi, List.map_append, List.flatten_append]
    simp [chg]
   unfold slices_Concat_byte.f; rw [e, if_pos]; refine ⟨by simp, ?_⟩; rw [List.take_succ_eq_append_getElem hi, List.map_append, List.flatten_append]; simp only [List.length_append, List.map_cons, List.map_nil, List.flatten_cons, List.flatten_nil, List.length_nil]; omega
  (· rw [w64s i (by omega)]; exact ih)
theorem enc_ev (cs : List S61) (hc : ∀ c ∈ cs, OkC c) (hl : cs.length ≤ 1000000) : Ev (fun k => diff_Encode.f k cs) (encR cs) := by
 unfold diff_Encode.f; refine EvP.known (r := intR cs.length) (by unfold wire_Int.f; rw [if_pos (nat64 _ (by omega))]) ?_; have := enc_l0 cs hc hl cs.length 0 (by omega)
 simpa using this
def posC (cs : List S61) (i : Nat) : Nat := (intR cs.length ++ ((cs.take i).map chg).flatten).length
theorem posC_succ (cs : List S61) (i : Nat) (hi : i < cs.length) : posC cs (i + 1) = posC cs i + (intsR [(cs[i]'hi).f0, (cs[i]'hi).f1, (cs[i]'hi).f2, (cs[i]'hi).f3, (cs[i]'hi).f4]).length + (intsR (cs[i]'hi).f5).length := by
 unfold posC; rw [List.take_succ_eq_append_getElem hi, List.map_append, List.flatten_append]; simp only [List.length_append, List.map_cons, List.map_nil, List.flatten_cons, List.flatten_nil, List.length_nil, chg]; omega
theorem posC_end (cs : List S61) : posC cs cs.length = (encR cs).length := by
 unfold posC encR; rw [List.take_length]
theorem enc_drop (cs : List S61) (i : Nat) (hi : i < cs.length) : (encR cs).drop (posC cs i) = intsR [(cs[i]'hi).f0, (cs[i]'hi).f1, (cs[i]'hi).f2, (cs[i]'hi).f3, (cs[i]'hi).f4] ++ (intsR (cs[i]'hi).f5 ++ ((cs.drop (i + 1)).map chg).flatten) := by
 have e : encR cs = (intR cs.length ++ ((cs.take i).map chg).flatten) ++ (intsR [(cs[i]'hi).f0, (cs[i]'hi).f1, (cs[i]'hi).f2, (cs[i]'hi).f3, (cs[i]'hi).f4] ++ (intsR (cs[i]'hi).f5 ++ ((cs.drop (i + 1)).map chg).flatten)) := by
  unfold encR
  conv => lhs; rw [← List.take_append_drop i cs, List.drop_eq_getElem_cons hi, List.map_append, List.flatten_append, List.map_cons, List.flatten_cons, ← List.drop_eq_getElem_cons hi, List.take_append_drop, chg]
  simp only [List.append_assoc]
 rw [e]; exact List.drop_left
theorem enc_drop2 (cs : List S61) (i : Nat) (hi : i < cs.length) : (encR cs).drop (posC cs i + (intsR [(cs[i]'hi).f0, (cs[i]'hi).f1, (cs[i]'hi).f2, (cs[i]'hi).f3, (cs[i]'hi).f4]).length) = intsR (cs[i]'hi).f5 ++ ((cs.drop (i + 1)).map chg).flatten := by
 rw [← List.drop_drop, enc_drop cs i hi]; exact List.drop_left
theorem enc_len (cs : List S61) (hc : ∀ c ∈ cs, OkC c) : (encR cs).length ≤ 153 * cs.length + 9 := by
 have h1 := chgs_le cs hc; have h2 := intR_le cs.length; rw [encR, List.length_append]; omega
theorem posC_le (cs : List S61) (i : Nat) : posC cs i ≤ (encR cs).length := by
 unfold posC encR; rw [List.length_append, List.length_append]
 have e : (cs.map chg).flatten = ((cs.take i).map chg).flatten ++ ((cs.drop i).map chg).flatten := by rw [← List.flatten_append, ← List.map_append, List.take_append_drop]
 rw [e, List.length_append]; omega
end Go.Proofs.Ytcgpemefmakjiaa.PX
namespace Go.Proofs.Ytcgpemefmakjiaa.PX
open Go.RowKit Go.Proofs.YtcgpemefmakjiaaW.PrintWords Go.Proofs.YtcgpemefmakjiaaW.PrintLast Go.Proofs.YtcgpemefmakjiaaW.PrintMore
set_option linter.unusedVariables false
def V0 (r : List Int) : Prop := ∀ v ∈ r, in64 v = true
def V1 (rows : List (List Int)) : Prop := ∀ r ∈ rows, V0 r
def V2 (w : Wd) : Prop := ∀ rows ∈ w, V1 rows
theorem EvP.also {α : Type} {F : Nat → Option α} {P Q : α → Prop} (h : EvP F P) (hq : ∀ k r, F k = some r → Q r) : EvP F (fun r => P r ∧ Q r) := by
 obtain ⟨r, hr, K, hK⟩ := h; exact ⟨r, ⟨hr, hq K r (hK K (Nat.le_refl _))⟩, K, hK⟩
theorem mem_snoc {α : Type} {P : α → Prop} {l : List α} {x : α} (h : ∀ y ∈ l, P y) (hx : P x) : ∀ y ∈ l ++ [x], P y := fun y hy => by
 rcases List.mem_append.1 hy with h' | h'
 (· exact h y h'); (· rw [List.mem_singleton.1 h']; exact hx)
theorem world_vals (sh x : List Int) (hx : x.all in64 = true) : ∀ k : Nat, (∀ x5 x6 x7 w, V2 x5 → dioramaref36_World.l0 k sh x x5 x6 x7 = some w → V2 w) ∧ (∀ x5 x6 x7 x8 x9 w, V2 x5 → V1 x8 → dioramaref36_World.l1 k sh x x5 x6 x7 x8 x9 = some w → V2 w) ∧ (∀ x5 x6 x7 x8 x9 x10 x11 w, V2 x5 → V1 x8 → V0 x10 → dioramaref36_World.l2 k sh x x5 x6 x7 x8 x9 x10 x11 = some w → V2 w)
 | 0 => ⟨fun _ _ _ _ _ h => by simp [dioramaref36_World.l0] at h, fun _ _ _ _ _ _ _ _ h => by simp [dioramaref36_World.l1] at h, fun _ _ _ _ _ _ _ _ _ _ _ h => by simp [dioramaref36_World.l2] at h⟩
 | k + 1 => by
  obtain ⟨i0, i1, i2⟩ := world_vals sh x hx k; refine ⟨fun x5 x6 x7 w h5 h => ?_, fun x5 x6 x7 x8 x9 w h5 h8 h => ?_, fun x5 x6 x7 x8 x9 x10 x11 w h5 h8 h10 h => ?_⟩
  ·rw [dioramaref36_World.l0] at h
   split at h
   (· exact i1 _ _ _ _ _ _ h5 (fun r hr => by cases hr) h)
   ·cases h
    exact h5
  ·rw [dioramaref36_World.l1] at h
   obtain ⟨t, ht, h⟩ := Option.bind_eq_some_iff.1 h
   split at h
   (· exact i2 _ _ _ _ _ _ _ _ h5 h8 (fun r hr => by cases hr) h)
   ·split at h
    (· exact i0 _ _ _ _ (mem_snoc h5 h8) h)
    ·cases h
  ·rw [dioramaref36_World.l2] at h
   split at h
   ·split at h
    ·split at h
     ·obtain ⟨t, ht, h⟩ := Option.bind_eq_some_iff.1 h
      obtain ⟨e1, e2, e3⟩ := atv_spec x (wrap64 ((wrap64 ((wrap64 (x6 + 1)) + (wrap64 (4 * x9)))) + x11)) 3 hx; rw [e1] at ht
      cases ht
      have e3 := e3 (by decide)
      split at h
      (· exact i2 _ _ _ _ _ _ _ _ h5 h8 (mem_snoc h10 (in64_iff.2 ⟨by omega, by omega⟩)) h)
      ·cases h
     ·split at h
      (· exact i1 _ _ _ _ _ _ h5 (mem_snoc h8 h10) h)
      ·cases h
    ·cases h
   ·cases h
theorem world_ev2 (sh x : List Int) (hx : x.all in64 = true) (hs : ShapeOK sh) : EvP (fun k => dioramaref36_World.f k sh x) (fun w => WorldOK sh w ∧ V2 w) :=
 EvP.also (world_ev sh x hx hs) (fun k r h => (world_vals sh x hx k).1 [] 0 0 r (fun _ hr => by cases hr) h)
theorem V0.rd {r : List Int} (h : V0 r) (i : Int) : in64 (rd r i) = true := by
 unfold Go.Proofs.YtcgpemefmakjiaaW.PrintWords.rd; rw [List.getD_eq_getElem?_getD]
 cases e : r[i.toNat]? with
 | none => rfl
 | some v => exact h v (List.mem_of_getElem? e)
theorem V1.rd {rows : List (List Int)} (h : V1 rows) (i : Int) : V0 (rd_L1 rows i) := by
 unfold rd_L1; rw [List.getD_eq_getElem?_getD]
 cases e : rows[i.toNat]? with
 | none => exact fun v hv => by cases hv
 | some r => exact h r (List.mem_of_getElem? e)
theorem V2.rd {w : Wd} (h : V2 w) (i : Int) : V1 (rd_L2 w i) := by
 unfold rd_L2; rw [List.getD_eq_getElem?_getD]
 cases e : w[i.toNat]? with
 | none => exact fun v hv => by cases hv
 | some r => exact h r (List.mem_of_getElem? e)
theorem chgs_ok {kind : Nat} (hk : kind ≤ 100) {a b : List (List Int)} {m : Nat} (ha : V1 a) (hb : V1 b) (la : a.length ≤ 100) (lb : b.length ≤ 100) (hm : m ≤ 100) (hw : ∀ i : Int, (rd_L1 a i).length ≤ 10 ∧ (rd_L1 b i).length ≤ 10) {c : S61} (h : c ∈ chgs kind a b m) : OkC c := by
 have hin : ∀ n : Int, -1000 ≤ n → n ≤ 1000 → in64 n = true := fun n h0 h1 => in64_iff.2 ⟨by omega, by omega⟩
 unfold chgs at h; rw [List.mem_append, List.mem_append] at h
 rcases h with (h | h) | h
 ·unfold setAll setRow at h
  rw [List.mem_flatMap] at h; obtain ⟨i, hi, h⟩ := h; rw [List.mem_flatMap] at h; obtain ⟨j, hj, h⟩ := h; have hi := List.mem_range.1 hi; have hj := List.mem_range.1 hj; have h10 := (hw i).1; unfold setAt at h
  split at h
  ·cases h
  ·rw [List.mem_singleton.1 h]
   refine ⟨fun x hx => ?_, fun x hx => (by cases hx), by simp⟩; simp only [List.mem_cons, List.not_mem_nil, or_false] at hx
   rcases hx with rfl | rfl | rfl | rfl | rfl
   (· exact hin _ (by omega) (by omega)); (· exact hin _ (by omega) (by omega)); (· exact hin _ (by omega) (by omega)); (· exact (ha.rd i).rd j); (· exact (hb.rd i).rd j)
 ·unfold takeL at h
  rw [List.mem_map] at h; obtain ⟨q, hq, rfl⟩ := h; have hq := List.mem_range.1 hq; refine ⟨fun x hx => ?_, fun x hx => ha.rd _ x hx, (hw _).1⟩; simp only [List.mem_cons, List.not_mem_nil, or_false] at hx
  rcases hx with rfl | rfl | rfl | rfl | rfl <;> exact hin _ (by omega) (by omega)
 ·unfold addL at h
  rw [List.mem_map] at h; obtain ⟨q, hq, rfl⟩ := h; have hq := List.mem_range.1 hq; refine ⟨fun x hx => ?_, fun x hx => hb.rd _ x hx, (hw _).2⟩; simp only [List.mem_cons, List.not_mem_nil, or_false] at hx
  rcases hx with rfl | rfl | rfl | rfl | rfl <;> exact hin _ (by omega) (by omega)
theorem diffL_ok {sh : List Int} {a b : Wd} (hs : ShapeOK sh) (ha : WorldOK sh a) (hb : WorldOK sh b) (va : V2 a) (vb : V2 b) (n : Nat) (hn : n ≤ a.length) : ∀ c ∈ diffL a b n, OkC c := by
 intro c hc; unfold diffL at hc; rw [List.mem_flatMap] at hc; obtain ⟨k, hk, hc⟩ := hc; have hk := List.mem_range.1 hk; have h3 := hs.1; have hla := ha.1; have hlb := hb.1; obtain ⟨a6, _, _, _⟩ := ha.rows hs k (by omega); obtain ⟨b6, _, _, _⟩ := hb.rows hs k (by omega); have ea := rd_L2_nat a k (by omega); have eb := rd_L2_nat b k (by omega); have hm : sameM (rd_L2 a k) (rd_L2 b k) ≤ min (rd_L2 a k).length (rd_L2 b k).length := bestOf_le _ _ _; rw [← ea] at a6; rw [← eb] at b6; exact chgs_ok (by omega) (va.rd k) (vb.rd k) (by omega) (by omega) (by omega) (fun i => ⟨shaped_wide10 (ha.shaped hs) k i, shaped_wide10 (hb.shaped hs) k i⟩) hc
set_option maxHeartbeats 1000000 in
theorem bytes_l0 (cs : List S61) (hc : ∀ c ∈ cs, OkC c) (hl : cs.length ≤ 1000000) : ∀ n i : Nat, i + n = cs.length → Ev (fun k => dioramalaw36_DiffBytes.l0 k cs (encR cs) (posC cs i) i) true
 | 0, i, h => by
  have : i = cs.length := by omega
  subst this; refine EvP.step (fun k => by rw [dioramalaw36_DiffBytes.l0]) (EvP.neg (by omega) ?_); rw [posC_end]; exact EvP.pos rfl (EvP.known (r := true) rfl (EvP.const rfl))
 | n + 1, i, h => by
  have ih := bytes_l0 cs hc hl n (i + 1) (by omega)
  have hi : i < cs.length := by omega
  have hk := hc cs[i] (List.getElem_mem hi); have hp := posC_le cs i; have hp1 := posC_le cs (i + 1); have hs := posC_succ cs i hi; have hlen := enc_len cs hc
  have hd1 : ((encR cs).drop (posC cs i)).length ≤ 1000000000000 := by rw [List.length_drop]; omega
  have hd2 : ((encR cs).drop (posC cs i + (intsR [(cs[i]'hi).f0, (cs[i]'hi).f1, (cs[i]'hi).f2, (cs[i]'hi).f3, (cs[i]'hi).f4]).length)).length ≤ 1000000000000 := by rw [List.length_drop]; omega
  refine EvP.step (fun k => by rw [dioramalaw36_DiffBytes.l0]) ?_; refine EvP.pos (by omega) (EvP.pos (by omega) (EvP.pos (by omega) ?_)); rw [Int.toNat_natCast]
  refine EvP.known (r := ([(cs[i]'hi).f0, (cs[i]'hi).f1, (cs[i]'hi).f2, (cs[i]'hi).f3, (cs[i]'hi).f4], ((intsR [(cs[i]'hi).f0, (cs[i]'hi).f1, (cs[i]'hi).f2, (cs[i]'hi).f3, (cs[i]'hi).f4]).length : Int), 0)) (by
   rw [enc_drop cs i hi] at hd1 ⊢
   exact getInts_at _ hk.nums _ hd1) ?_
  clear hd1; dsimp only; refine EvP.pos rfl (EvP.pos (by omega) ?_); rw [rd_T61_nat cs i hi]; refine Ev.bind (sameInts_ev _ _ (by simp)) ?_; simp only [decide_true, Bool.not_true]
  have e1 : wrap64 ((posC cs i : Int) + (intsR [(cs[i]'hi).f0, (cs[i]'hi).f1, (cs[i]'hi).f2, (cs[i]'hi).f3, (cs[i]'hi).f4]).length) = ((posC cs i + (intsR [(cs[i]'hi).f0, (cs[i]'hi).f1, (cs[i]'hi).f2, (cs[i]'hi).f3, (cs[i]'hi).f4]).length : Nat) : Int) := by
   rw [w64 (by omega) (by omega)]; omega
  refine EvP.step (fun k => by rw [dioramalaw36_DiffBytes.j2]) (EvP.neg (by simp) ?_); rw [e1]; refine EvP.pos (by omega) (EvP.pos (by omega) ?_); rw [Int.toNat_natCast]
  refine EvP.known (r := ((cs[i]'hi).f5, ((intsR (cs[i]'hi).f5).length : Int), 0)) (by
   rw [enc_drop2 cs i hi] at hd2 ⊢
   exact getInts_at _ hk.vals _ hd2) ?_
  clear hd2; dsimp only; refine EvP.pos rfl (EvP.pos (by omega) (EvP.pos (by omega) ?_)); rw [rd_T61_nat cs i hi]; refine Ev.bind (sameInts_ev _ _ (by have := hk.len; omega)) (EvP.pos (by simp) ?_); rw [w64s i (by omega)]
  have e2 : wrap64 (((posC cs i + (intsR [(cs[i]'hi).f0, (cs[i]'hi).f1, (cs[i]'hi).f2, (cs[i]'hi).f3, (cs[i]'hi).f4]).length : Nat) : Int) + (intsR (cs[i]'hi).f5).length) = (posC cs (i + 1) : Int) := by
   rw [w64 (by omega) (by omega)]; omega
  rw [e2]; exact ih
end Go.Proofs.Ytcgpemefmakjiaa.PX
namespace Go.Proofs.Ytcgpemefmakjiaa.Pure
open Go.RowKit Go.Proofs.Ytcgpemefmakjiaa.PX Go.Proofs.YtcgpemefmakjiaaW.PrintWords Go.Proofs.YtcgpemefmakjiaaW.PrintLast
theorem DiffBytes : dioramalaw36_DiffBytes.Pure := by
 intro l0 l1 _ _ w0 _ _ w1; have i0 := wf_all w0; have i1 := wf_all w1; refine Ev.at_ (F := fun k => dioramalaw36_DiffBytes.f k l0 l1) (r := true) ?_; unfold dioramalaw36_DiffBytes.f; refine EvP.bind (shape_ev l0 i0) (fun s hs => ?_); refine EvP.bind (world_ev2 s l0 i0 hs) (fun a ⟨ha, va⟩ => ?_); refine EvP.bind (world_ev2 s l1 i1 hs) (fun b ⟨hb, vb⟩ => ?_); have h3 := hs.1; have hla := ha.1
 have sa : sumLen a < 4611686018427387904 := by have := (shaped_small (ha.shaped hs)).2.1; omega
 have sb : sumLen b < 4611686018427387904 := by have := (shaped_small (hb.shaped hs)).2.1; omega
 have hlen := diffL_short hs ha hb a.length (Nat.le_refl _); have hok := diffL_ok hs ha hb va vb a.length (Nat.le_refl _); refine EvP.known (r := (diffL a b a.length, 0)) (by unfold diff_Diff.f; rw [if_pos ⟨sa, sb⟩, diffR_shape hs ha hb]) ?_; generalize diffL a b a.length = cs at hlen hok; have hel := enc_len cs hok; refine EvP.pos rfl (Ev.bind (enc_ev cs hok (by omega)) ?_)
 refine EvP.known (r := ((cs.length : Int), ((nb (mag cs.length) + 1 : Nat) : Int), 0)) (by
  unfold encR
  exact getInt_at _ (nat64 _ (by omega)) _ (by
   unfold encR at hel
   omega)) ?_
 refine EvP.pos rfl ?_; refine EvP.step (fun k => by rw [dioramalaw36_DiffBytes.j0]) (EvP.neg (by simp) ?_); have := bytes_l0 cs hok (by omega) cs.length 0 (by omega)
 have e : posC cs 0 = nb (mag cs.length) + 1 := by
  unfold posC
  simp [intR_len]
 rw [e] at this; exact this
end Go.Proofs.Ytcgpemefmakjiaa.Pure
