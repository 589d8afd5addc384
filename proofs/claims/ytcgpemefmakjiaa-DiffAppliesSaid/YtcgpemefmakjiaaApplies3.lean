/- Texts of this claim, merged: part 3. -/
import Derived.Test.YtcgpemefmakjiaaApplies2
import Derived.Lib.Hide
import Derived.Lib.LazyBuf
import Derived.Deep.DeepCutAuto
import Derived.WalkMore
import Derived.Deep.LoopGhost
import Derived.Lib.AppendZeros
set_option linter.unusedVariables false
set_option linter.unusedSimpArgs false
namespace Go.Proofs.Ytcgpemefmakjiaa.PX
open Go.RowKit Go.Proofs.YtcgpemefmakjiaaW.PrintWords Go.Proofs.YtcgpemefmakjiaaW.PrintLast Go.Proofs.YtcgpemefmakjiaaW.PrintMore
attribute [local go_sem] max2_int min2_int max_two min_two max_three min_three max_four min_four   -- for this text's walks alone
def diff_Change_formed.f (a0_0 : Int) (a0_1 : Int) (a0_2 : Int) (a0_3 : Int) (a0_4 : Int) (l0_5 : List Int) : Option (Bool) := if a0_2 ≥ 0 then (some ((l0_5.length : Int) == 0)) else (if a0_2 ≥ (-2) then (if a0_3 = 0 then (if a0_4 = 0 then (if (l0_5.length : Int) ≥ 1 then (some (decide ((l0_5.length : Int) ≤ 10))) else (some false)) else (some false)) else (some false)) else (some false))
set_option maxHeartbeats 8000000 in
set_option maxRecDepth 100000 in
theorem diff_Change_formed.calls (a0_0 : Int) (a0_1 : Int) (a0_2 : Int) (a0_3 : Int) (a0_4 : Int) (A0_5 : Option Addr) (c0_5 : Nat) (l0_5 : List Int) (r : Bool) (w : World) (hr0_5 : Kd.C (Kd.int .i64) w A0_5 l0_5.length l0_5) (hc0_5 : l0_5.length ≤ c0_5) (h : diff_Change_formed.f a0_0 a0_1 a0_2 a0_3 a0_4 l0_5 = some r) :
  Calls Try.prog 66 #[.agg #[.int .i64 a0_0, .int .i64 a0_1, .int .i64 a0_2, .int .i64 a0_3, .int .i64 a0_4, .slice A0_5 l0_5.length c0_5]] w fun e w' => e = .returned (.bool r) ∧ Below w.heap.size w w' := by
 have hu61 := Try.underlying61; have HR0_5 := A_ hr0_5; have HC0_5 := A_ hc0_5; clear hr0_5 hc0_5; have HB := A_ (Below.refl w.heap.size w); have H : (if a0_2 ≥ 0 then (some ((l0_5.length : Int) == 0)) else (if a0_2 ≥ (-2) then (if a0_3 = 0 then (if a0_4 = 0 then (if (l0_5.length : Int) ≥ 1 then (some (decide ((l0_5.length : Int) ≤ 10))) else (some false)) else (some false)) else (some false)) else (some false))) = some r := h; clear h
 by_cases c2 : a0_2 ≥ 0
 ·rw [if_pos c2] at H
  have c2b0 : decide (0 ≤ a0_2) = true := decide_eq_true c2; clear c2; obtain rfl := Option.some.inj H
  go_enter Try.func66, Try.ntmps66
  go_wp2_with (first | ((with_reducible refine gate_dst (N := 1) rfl ?_); (try (refine gate_guard (by rfl) ?_; dsimp only)); refine box_event ?hg (N := 1) ?hd (cs := #[.int .i64 a0_0, .int .i64 a0_1, .int .i64 a0_2, .int .i64 a0_3, .int .i64 a0_4, .slice A0_5 l0_5.length c0_5]) (t := 61) ?hr ?_; (case hd => rfl); (case hg => rfl); (case hr => first | (go_simp; done) | (go_simp; rfl)); intro gb209 hg w3 hbox hb; have BK209 := A_ (hbox); have GW209 := A_ ((by rw [hg]; exact (below_size (bx_ HB)) : w.heap.size ≤ gb209)); have GE209 := A_ ((by rw [hg]; exact (below_size (bx_ HB)) : w.heap.size ≤ gb209)); replace HB := A_ (below_step (bx_ HB) hb); clear hb hbox hg; obtain ⟨hcz4_0, hcz4_1, hcz4_2, hcz4_3, hcz4_4, hcz4_5⟩ := k6_ BK209; obtain ⟨hfz4_0, hfz4_1, hfz4_2, hfz4_3, hfz4_4, hfz4_5⟩ := f6_ BK209))
  go_ret; exact ⟨ew_, by repeat (first | (with_reducible first | exact HB.out | apply below_alloc | apply pw_below_drewN | apply below_drew1 | refine below_set ?_ GE209.out) | exact HB.out)⟩
 ·rw [if_neg c2] at H
  have c2b0 : decide (0 ≤ a0_2) = false := decide_eq_false c2; clear c2
  by_cases c5 : a0_2 ≥ (-2)
  ·rw [if_pos c5] at H
   have c5b0 : decide ((-2) ≤ a0_2) = true := decide_eq_true c5; clear c5
   by_cases c6 : a0_3 = 0
   ·rw [if_pos c6] at H
    obtain ⟨c6b0, c6b1⟩ := be_ c6; clear c6
    by_cases c7 : a0_4 = 0
    ·rw [if_pos c7] at H
     obtain ⟨c7b0, c7b1⟩ := be_ c7; clear c7
     by_cases c8 : (l0_5.length : Int) ≥ 1
     ·rw [if_pos c8] at H
      have c8b0 : decide (1 ≤ (l0_5.length : Int)) = true := decide_eq_true c8; have c8b1 : decide (1 ≤ l0_5.length) = true := decide_eq_true (by omega); clear c8; obtain rfl := Option.some.inj H
      go_enter Try.func66, Try.ntmps66
      go_wp2_with (first | ((with_reducible refine gate_dst (N := 1) rfl ?_); (try (refine gate_guard (by rfl) ?_; dsimp only)); refine box_event ?hg (N := 1) ?hd (cs := #[.int .i64 a0_0, .int .i64 a0_1, .int .i64 a0_2, .int .i64 a0_3, .int .i64 a0_4, .slice A0_5 l0_5.length c0_5]) (t := 61) ?hr ?_; (case hd => rfl); (case hg => rfl); (case hr => first | (go_simp; done) | (go_simp; rfl)); intro gb209 hg w9 hbox hb; have BK209 := A_ (hbox); have GW209 := A_ ((by rw [hg]; exact (below_size (bx_ HB)) : w.heap.size ≤ gb209)); have GE209 := A_ ((by rw [hg]; exact (below_size (bx_ HB)) : w.heap.size ≤ gb209)); replace HB := A_ (below_step (bx_ HB) hb); clear hb hbox hg; obtain ⟨hcz10_0, hcz10_1, hcz10_2, hcz10_3, hcz10_4, hcz10_5⟩ := k6_ BK209; obtain ⟨hfz10_0, hfz10_1, hfz10_2, hfz10_3, hfz10_4, hfz10_5⟩ := f6_ BK209))
      go_ret; exact ⟨ew_, by repeat (first | (with_reducible first | exact HB.out | apply below_alloc | apply pw_below_drewN | apply below_drew1 | refine below_set ?_ GE209.out) | exact HB.out)⟩
     ·rw [if_neg c8] at H
      have c8b0 : decide (1 ≤ (l0_5.length : Int)) = false := decide_eq_false c8; have c8b1 : decide (1 ≤ l0_5.length) = false := decide_eq_false (by omega); clear c8; obtain rfl := Option.some.inj H
      go_enter Try.func66, Try.ntmps66
      go_wp2_with (first | ((with_reducible refine gate_dst (N := 1) rfl ?_); (try (refine gate_guard (by rfl) ?_; dsimp only)); refine box_event ?hg (N := 1) ?hd (cs := #[.int .i64 a0_0, .int .i64 a0_1, .int .i64 a0_2, .int .i64 a0_3, .int .i64 a0_4, .slice A0_5 l0_5.length c0_5]) (t := 61) ?hr ?_; (case hd => rfl); (case hg => rfl); (case hr => first | (go_simp; done) | (go_simp; rfl)); intro gb209 hg w11 hbox hb; have BK209 := A_ (hbox); have GW209 := A_ ((by rw [hg]; exact (below_size (bx_ HB)) : w.heap.size ≤ gb209)); have GE209 := A_ ((by rw [hg]; exact (below_size (bx_ HB)) : w.heap.size ≤ gb209)); replace HB := A_ (below_step (bx_ HB) hb); clear hb hbox hg; obtain ⟨hcz12_0, hcz12_1, hcz12_2, hcz12_3, hcz12_4, hcz12_5⟩ := k6_ BK209; obtain ⟨hfz12_0, hfz12_1, hfz12_2, hfz12_3, hfz12_4, hfz12_5⟩ := f6_ BK209))
      go_ret; exact ⟨ew_, by repeat (first | (with_reducible first | exact HB.out | apply below_alloc | apply pw_below_drewN | apply below_drew1 | refine below_set ?_ GE209.out) | exact HB.out)⟩
    ·rw [if_neg c7] at H
     obtain ⟨c7b0, c7b1⟩ := bn_ c7; obtain rfl := Option.some.inj H
     go_enter Try.func66, Try.ntmps66
     go_wp2_with (first | ((with_reducible refine gate_dst (N := 1) rfl ?_); (try (refine gate_guard (by rfl) ?_; dsimp only)); refine box_event ?hg (N := 1) ?hd (cs := #[.int .i64 a0_0, .int .i64 a0_1, .int .i64 a0_2, .int .i64 a0_3, .int .i64 a0_4, .slice A0_5 l0_5.length c0_5]) (t := 61) ?hr ?_; (case hd => rfl); (case hg => rfl); (case hr => first | (go_simp; done) | (go_simp; rfl)); intro gb209 hg w13 hbox hb; have BK209 := A_ (hbox); have GW209 := A_ ((by rw [hg]; exact (below_size (bx_ HB)) : w.heap.size ≤ gb209)); have GE209 := A_ ((by rw [hg]; exact (below_size (bx_ HB)) : w.heap.size ≤ gb209)); replace HB := A_ (below_step (bx_ HB) hb); clear hb hbox hg; obtain ⟨hcz14_0, hcz14_1, hcz14_2, hcz14_3, hcz14_4, hcz14_5⟩ := k6_ BK209; obtain ⟨hfz14_0, hfz14_1, hfz14_2, hfz14_3, hfz14_4, hfz14_5⟩ := f6_ BK209))
     go_ret; exact ⟨ew_, by repeat (first | (with_reducible first | exact HB.out | apply below_alloc | apply pw_below_drewN | apply below_drew1 | refine below_set ?_ GE209.out) | exact HB.out)⟩
   ·rw [if_neg c6] at H
    obtain ⟨c6b0, c6b1⟩ := bn_ c6; obtain rfl := Option.some.inj H
    go_enter Try.func66, Try.ntmps66
    go_wp2_with (first | ((with_reducible refine gate_dst (N := 1) rfl ?_); (try (refine gate_guard (by rfl) ?_; dsimp only)); refine box_event ?hg (N := 1) ?hd (cs := #[.int .i64 a0_0, .int .i64 a0_1, .int .i64 a0_2, .int .i64 a0_3, .int .i64 a0_4, .slice A0_5 l0_5.length c0_5]) (t := 61) ?hr ?_; (case hd => rfl); (case hg => rfl); (case hr => first | (go_simp; done) | (go_simp; rfl)); intro gb209 hg w15 hbox hb; have BK209 := A_ (hbox); have GW209 := A_ ((by rw [hg]; exact (below_size (bx_ HB)) : w.heap.size ≤ gb209)); have GE209 := A_ ((by rw [hg]; exact (below_size (bx_ HB)) : w.heap.size ≤ gb209)); replace HB := A_ (below_step (bx_ HB) hb); clear hb hbox hg; obtain ⟨hcz16_0, hcz16_1, hcz16_2, hcz16_3, hcz16_4, hcz16_5⟩ := k6_ BK209; obtain ⟨hfz16_0, hfz16_1, hfz16_2, hfz16_3, hfz16_4, hfz16_5⟩ := f6_ BK209))
    go_ret; exact ⟨ew_, by repeat (first | (with_reducible first | exact HB.out | apply below_alloc | apply pw_below_drewN | apply below_drew1 | refine below_set ?_ GE209.out) | exact HB.out)⟩
  ·rw [if_neg c5] at H
   have c5b0 : decide ((-2) ≤ a0_2) = false := decide_eq_false c5; clear c5; obtain rfl := Option.some.inj H
   go_enter Try.func66, Try.ntmps66
   go_wp2_with (first | ((with_reducible refine gate_dst (N := 1) rfl ?_); (try (refine gate_guard (by rfl) ?_; dsimp only)); refine box_event ?hg (N := 1) ?hd (cs := #[.int .i64 a0_0, .int .i64 a0_1, .int .i64 a0_2, .int .i64 a0_3, .int .i64 a0_4, .slice A0_5 l0_5.length c0_5]) (t := 61) ?hr ?_; (case hd => rfl); (case hg => rfl); (case hr => first | (go_simp; done) | (go_simp; rfl)); intro gb209 hg w17 hbox hb; have BK209 := A_ (hbox); have GW209 := A_ ((by rw [hg]; exact (below_size (bx_ HB)) : w.heap.size ≤ gb209)); have GE209 := A_ ((by rw [hg]; exact (below_size (bx_ HB)) : w.heap.size ≤ gb209)); replace HB := A_ (below_step (bx_ HB) hb); clear hb hbox hg; obtain ⟨hcz18_0, hcz18_1, hcz18_2, hcz18_3, hcz18_4, hcz18_5⟩ := k6_ BK209; obtain ⟨hfz18_0, hfz18_1, hfz18_2, hfz18_3, hfz18_4, hfz18_5⟩ := f6_ BK209))
   go_ret; exact ⟨ew_, by repeat (first | (with_reducible first | exact HB.out | apply below_alloc | apply pw_below_drewN | apply below_drew1 | refine below_set ?_ GE209.out) | exact HB.out)⟩
end Go.Proofs.Ytcgpemefmakjiaa.PX
namespace Go.Proofs.Ytcgpemefmakjiaa.PX
open Go.RowKit Go.Proofs.YtcgpemefmakjiaaW.PrintWords Go.Proofs.YtcgpemefmakjiaaW.PrintLast Go.Proofs.YtcgpemefmakjiaaW.PrintMore
def formedB (f2 f3 f4 : Int) (f5 : List Int) : Bool := if 0 ≤ f2 then f5.length == 0 else decide (-2 ≤ f2) && (f3 == 0) && (f4 == 0) && decide (1 ≤ f5.length) && decide (f5.length ≤ 10)
theorem formedB_f (f0 f1 f2 f3 f4 : Int) (f5 : List Int) : diff_Change_formed.f f0 f1 f2 f3 f4 f5 = some (formedB f2 f3 f4 f5) := by
 unfold diff_Change_formed.f formedB
 by_cases h1 : 0 ≤ f2
 ·rw [if_pos (by omega), if_pos h1]
  congr 1
  have e : ((f5.length : Int) == 0) = (f5.length == 0) := by rw [Bool.eq_iff_iff, beq_iff_eq, beq_iff_eq]; omega
  exact e
 ·rw [if_neg (by omega), if_neg h1]
  by_cases h2 : -2 ≤ f2
  ·rw [if_pos (by omega)]
   by_cases h3 : f3 = 0
   ·rw [if_pos h3]
    by_cases h4 : f4 = 0
    ·rw [if_pos h4]
     by_cases h5 : 1 ≤ f5.length
     ·rw [if_pos (by omega)]
      have e : decide ((f5.length : Int) ≤ 10) = decide (f5.length ≤ 10) := by rw [decide_eq_decide]; omega
      rw [e]
      simp [h2, h3, h4, h5]
     ·rw [if_neg (by omega)]
      simp [h5]
    ·rw [if_neg h4]
     simp [h4]
   ·rw [if_neg h3]
    simp [h3]
  ·rw [if_neg (by omega)]
   simp [h2]
def stepK (l : Wd) (k : Nat) (rows : List (List Int)) (f1 f2 f3 f4 : Int) (f5 : List Int) : Wd × Int :=
 if f2 < 0 ∧ 0 < rows.length ∧ f5.length ≠ (rd_L1 rows 0).length then (l, 2)
 else if f2 = -1 then (if f1 = rows.length then (l.set k (rows ++ [f5]), 0) else (l, 5))
 else if f2 = -2 then (if rows.length = 0 ∨ f1 ≠ rows.length - 1 then (l, 5) else if rd_L1 rows f1 = f5 then (l.set k (rows.take f1.toNat), 0) else (l, 16))
 else if f1 < 0 ∨ rows.length ≤ f1 ∨ (rd_L1 rows 0).length ≤ f2 then (l, 5)
 else if rd (rd_L1 rows f1) f2 ≠ f3 then (l, 16) else (l.set k (rows.set f1.toNat ((rd_L1 rows f1).set f2.toNat f4)), 0)
def stepW (l : Wd) (f0 f1 f2 f3 f4 : Int) (f5 : List Int) : Wd × Int :=
 if formedB f2 f3 f4 f5 = false then (l, 2) else if f0 < 0 ∨ (l.length : Int) ≤ f0 then (l, 5) else stepK l f0.toNat (rd_L2 l f0) f1 f2 f3 f4 f5
theorem cell_below {W W' : World} {a : Addr} {v : Value} (h : Below W.heap.size W W') (hc : W.cell? a = some v) : W'.cell? a = some v := (World.cell?_of_block (h.block _ (World.block_lt_of_cell? W a hc))).trans hc
theorem frozen_below {W W' : World} {a : Addr} {v : Value} {b : Bool} (h : Below W.heap.size W W') (hc : W.cell? a = some v) (hf : W.frozen? a = b) : W'.frozen? a = b := (World.frozen?_of_block (h.block _ (World.block_lt_of_cell? W a hc))).trans hf
theorem add_head (g k : Nat) : (⟨g, 0, none⟩ : Addr).add k = ⟨g, k, none⟩ := by
 unfold Addr.add
 split <;> simp_all
theorem WRep.known {W : World} {base k : Nat} {v : Value} {l : Wd} {rows : List (List Int)} (h : WRep W base v l) (hk : l[k]? = some rows) : ∃ ad c, v = .slice (some ad) l.length c ∧ ∃ g, ad = ⟨g, 0, none⟩ := by
 obtain ⟨f1, f2, h⟩ := h; obtain ⟨A, c, e, _, h2⟩ := h.top; obtain ⟨g, e2, _⟩ := h2 (by have := (List.getElem?_eq_some_iff.1 hk).1; omega); subst e2; exact ⟨_, c, e, g, rfl⟩
theorem WRep.seen {W : World} {base k c : Nat} {ad : Addr} {l : Wd} {rows : List (List Int)} (h : WRep W base (.slice (some ad) l.length c) l) (hk : l[k]? = some rows) :
  ∃ A2 c2, W.cell? (ad.add k) = some (.slice A2 rows.length c2) ∧ rows.length ≤ c2 ∧ rows.length ≤ 9223372036854775807 ∧ W.frozen? (ad.add k) = false := by
 obtain ⟨f1, f2, h⟩ := h; obtain ⟨A, c', e, _, h2⟩ := h.top; obtain ⟨g, e2, _, h3⟩ := h2 (by have := (List.getElem?_eq_some_iff.1 hk).1; omega)
 injection e with e _ _
 rw [e2] at e
 injection e with e
 subst e; obtain ⟨vk, h4, h5, _, h6⟩ := h3 k rows hk; obtain ⟨A2, c2, rfl, h7, h8, _⟩ := h6.at_; exact ⟨A2, c2, by rw [add_head]; exact h4, h7, h8, by rw [add_head]; exact h5⟩
theorem WRep.record {W : World} {base k c c2 i : Nat} {ad : Addr} {A2 : Option Addr} {l : Wd} {rows : List (List Int)} {r : List Int} (h : WRep W base (.slice (some ad) l.length c) l) (hk : l[k]? = some rows) (hc : W.cell? (ad.add k) = some (.slice A2 rows.length c2)) (hi : rows[i]? = some r) :
  ∃ ad2 A3 c3, A2 = some ad2 ∧ W.cell? (ad2.add i) = some (.slice A3 r.length c3) ∧ r.length ≤ c3 ∧ Kd.C (Kd.int .i64) W A3 r.length r ∧
   ∀ j, j < r.length → ∃ ad3, A3 = some ad3 ∧ W.cell? (ad3.add j) = some (.int .i64 (rd r j)) ∧ W.frozen? (ad3.add j) = false ∧ base ≤ ad3.block ∧ ∀ x, WRep (W.setCell (ad3.add j) (.int .i64 x)) base (.slice (some ad) l.length c) (l.set k (rows.set i (r.set j x))) := by
 obtain ⟨f1, f2, h⟩ := h; obtain ⟨c', g, c2', g2, A3, c3, e1, e2, e3, e4, e5⟩ := h.path hk hi
 injection e1 with e1 _ _
 injection e1 with e1
 subst e1; rw [add_head, e2] at hc
 injection hc with hc
 injection hc with hc _ _
 subst hc; refine ⟨_, A3, c3, rfl, by rw [add_head]; exact e3, e4, ?_, fun j hj => ?_⟩
 ·obtain ⟨A0, c0, e, _, h5⟩ := h.top
  obtain ⟨g', e', _, h5⟩ := h5 (by have := (List.getElem?_eq_some_iff.1 hk).1; omega)
  injection e with e _ _
  rw [e'] at e
  injection e with e
  injection e with e _ _
  subst e; obtain ⟨vk, h5, _, _, h6⟩ := h5 k rows hk; rw [e2] at h5
  injection h5 with h5
  subst h5; obtain ⟨A2, c2, e, _, _, _, h7⟩ := h6.at_
  injection e with e _ _
  obtain ⟨g2', e', h8⟩ := h7 (by have := (List.getElem?_eq_some_iff.1 hi).1; omega); rw [e'] at e
  injection e with e
  injection e with e _ _
  subst e; obtain ⟨vi, a, b⟩ := h8 i r hi; rw [e3] at a
  injection a with a
  subst a; exact (Kd.R_reads' b.R).2.2
 (· obtain ⟨b, rfl, hb, h7⟩ := e5 (by omega); obtain ⟨a1, a2, a3⟩ := h7 j hj; refine ⟨_, rfl, by rw [add_head]; exact a1, by rw [add_head]; exact a2, hb, fun x => ?_⟩; rw [add_head]; exact ⟨f1, f2, a3 x⟩)
theorem WRepF.kind {W : World} {base k c : Nat} {ad : Addr} {vk : Value} {f1 : Nat → Nat} {f2 : Nat → Nat × Nat} {l : Wd} {rows : List (List Int)} (h : WRepF W base f1 f2 (.slice (some ad) l.length c) l) (hk : l[k]? = some rows) (hy : W.cell? (ad.add k) = some vk) :
  (∃ g, ad = ⟨g, 0, none⟩) ∧ base ≤ ad.block ∧ KindRep W base f1 f2 k vk rows := by
 obtain ⟨A, c', e, _, h2⟩ := h.top; obtain ⟨g, e2, hb, h3⟩ := h2 (by have := (List.getElem?_eq_some_iff.1 hk).1; omega)
 injection e with e _ _
 rw [e2] at e
 injection e with e
 subst e; obtain ⟨vk', h4, h5, _, h6⟩ := h3 k rows hk; rw [add_head, h4] at hy
 injection hy with hy
 subst hy; exact ⟨⟨g, rfl⟩, hb, h6⟩
theorem WRep.base_le {W : World} {base k c : Nat} {ad : Addr} {l : Wd} {rows : List (List Int)} (h : WRep W base (.slice (some ad) l.length c) l) (hk : l[k]? = some rows) : base ≤ (ad.add k).block := by
 obtain ⟨f1, f2, h⟩ := h; obtain ⟨A, c', e, _, h2⟩ := h.top; obtain ⟨g, e2, hb, h3⟩ := h2 (by have := (List.getElem?_eq_some_iff.1 hk).1; omega)
 injection e with e _ _
 rw [e2] at e
 injection e with e
 subst e; rw [add_head]; exact hb
theorem WRep.shrink {W : World} {base k c m c2 : Nat} {ad : Addr} {A2 : Option Addr} {l : Wd} {rows : List (List Int)} (h : WRep W base (.slice (some ad) l.length c) l) (hk : l[k]? = some rows) (hy : W.cell? (ad.add k) = some (.slice A2 rows.length c2)) (hm : m ≤ rows.length) :
  WRep (W.setCell (ad.add k) (.slice A2 m c2)) base (.slice (some ad) l.length c) (l.set k (rows.take m)) := by
 obtain ⟨f1, f2, h⟩ := h; obtain ⟨⟨g, rfl⟩, hb, h2⟩ := h.kind hk hy; rw [add_head] at hy ⊢; exact ⟨f1, f2, h.put (row := none) hk hy ⟨rfl, rfl, rfl, Nat.le_refl _, fun _ _ _ => rfl⟩ (.inl rfl) (h2.take hm) (fun _ _ => rfl) (fun _ _ => rfl)⟩
theorem WRep.grow {W : World} {base k c : Nat} {ad : Addr} {vk : Value} {l : Wd} {rows : List (List Int)} (h : WRep W base (.slice (some ad) l.length c) l) (hk : l[k]? = some rows) (hy : W.cell? (ad.add k) = some vk) :
  ∃ cs, W.ownsRow base 22 1 vk rows.length cs ∧ ∀ (W1 w1 : World) (vi v1 : Value) (r : List Int) (ok : Nat → Prop), Below W.heap.size W W1 → Kd.R (Kd.int .i64) 3 W1 W.heap.size ok vi r → W1.grownBy w1 vk.ownBlock →
   (v1.ownBlock = vk.ownBlock ∨ ∃ b, v1.ownBlock = some b ∧ W1.heap.size ≤ b) → w1.ownsRow base 22 1 v1 (rows.length + 1) (cs ++ [vi]) → WRep (w1.setCell (ad.add k) v1) base (.slice (some ad) l.length c) (l.set k (rows ++ [r])) := by
 obtain ⟨f1, f2, h⟩ := h; obtain ⟨⟨g, rfl⟩, hb, h2⟩ := h.kind hk hy; rw [add_head] at hy ⊢; have h2' := h2; obtain ⟨cs, h3, h4, h5⟩ := h2
 have hbs : base ≤ W.heap.size := by
  obtain ⟨vs, h6, _⟩ := h; have := own_base h6 g rfl; have := own_lt h6 g rfl
  simp at *
  omega
 refine ⟨cs, h3, fun W1 w1 vi v1 r ok hB hr hg hat hown => ?_⟩; refine ⟨tagFrom W.heap.size k f1, tagFrom W.heap.size (k, rows.length) f2, ?_⟩; refine h.put (row := vk.ownBlock) (f1' := tagFrom W.heap.size k f1) (f2' := tagFrom W.heap.size (k, rows.length) f2) hk hy ?_ (.inr rfl) (KindRep.pushed h2' hbs hB (nums_of_R hr) h3 h5 h4 hg hat hown) (fun b hb => tagFrom_lt hb) (fun b hb => tagFrom_lt hb); refine ⟨hg.os.trans hB.os, hg.tape.trans hB.tape, hg.output.trans hB.output, Nat.le_trans hB.size hg.size, fun b hb hne => ?_⟩; rw [hg.block b (Nat.lt_of_lt_of_le hb hB.size) hne, hB.block b hb]
theorem WRep.top_ne {W : World} {base k c n : Nat} {ad : Addr} {vk : Value} {cs : List Value} {l : Wd} {rows : List (List Int)} (h : WRep W base (.slice (some ad) l.length c) l) (hk : l[k]? = some rows) (hcs : W.ownsRow base 22 1 vk n cs) : some (ad.add k).block ≠ vk.ownBlock := by
 obtain ⟨f1, f2, h⟩ := h; obtain ⟨A, c', e, _, h2⟩ := h.top; obtain ⟨g, e2, hb, h3⟩ := h2 (by have := (List.getElem?_eq_some_iff.1 hk).1; omega)
 injection e with e _ _
 rw [e2] at e
 injection e with e
 subst e; obtain ⟨_, _, _, ⟨cc, hcc⟩, _⟩ := h3 k rows hk; rw [add_head]; intro e; obtain ⟨c', hc'⟩ := own_typed hcs g e.symm; rw [hcc] at hc'
 injection hc' with hc'
 injection hc' with _ hc'
 exact absurd hc' (by decide)
end Go.Proofs.Ytcgpemefmakjiaa.PX
namespace Go.Proofs.Ytcgpemefmakjiaa.PX
open Go.RowKit Go.Proofs.YtcgpemefmakjiaaW.PrintWords Go.Proofs.YtcgpemefmakjiaaW.PrintLast Go.Proofs.YtcgpemefmakjiaaW.PrintMore
attribute [local go_sem] max2_int min2_int max_two min_two max_three min_three max_four min_four   -- for this text's walks alone
def slices_Equal_int_int.l0 : Nat → List Int → List Int → Int → Int → Option (Bool)
 | 0, _, _, _, _ => none
 | k + 1, x0, x1, x12, x13 => if x13 < x12 then (if 0 ≤ x13 then (if x13 < (x0.length : Int) then (if x13 < (x1.length : Int) then (if (rd x0 x13) = (rd x1 x13) then (slices_Equal_int_int.l0 k x0 x1 x12 (wrap64 (x13 + 1))) else (some false)) else (none)) else (none)) else (none)) else (some true)
def slices_Equal_int_int.f (k : Nat) (l0 : List Int) (l1 : List Int) : Option (Bool) := if (l0.length : Int) = (l1.length : Int) then (slices_Equal_int_int.l0 k l0 l1 (l0.length : Int) 0) else (some false)
set_option maxHeartbeats 8000000 in
set_option maxRecDepth 100000 in
theorem slices_Equal_int_int.calls (k : Nat) (A0 : Option Addr) (c0 : Nat) (l0 : List Int) (A1 : Option Addr) (c1 : Nat) (l1 : List Int) (r : Bool) (w : World) (hr0 : Kd.C (Kd.int .i64) w A0 l0.length l0) (hc0 : l0.length ≤ c0) (hr1 : Kd.C (Kd.int .i64) w A1 l1.length l1) (hc1 : l1.length ≤ c1) (h : slices_Equal_int_int.f k l0 l1 = some r) :
  Calls Try.prog 67 #[.slice A0 l0.length c0, .slice A1 l1.length c1] w fun e w' => e = .returned (.bool r) ∧ Drawn0 w w' := by
 have HR0 := A_ hr0; have HC0 := A_ hc0; clear hr0 hc0; have HR1 := A_ hr1; have HC1 := A_ hc1; clear hr1 hc1; have H : (if (l0.length : Int) = (l1.length : Int) then (slices_Equal_int_int.l0 k l0 l1 (l0.length : Int) 0) else (some false)) = some r := h; clear h
 by_cases c3 : (l0.length : Int) = (l1.length : Int)
 ·rw [if_pos c3] at H
  obtain ⟨c3b0, c3b1⟩ := be_ c3
  have c3b2 : (l0.length == l1.length) = true := by first | simpa using c3 | (simp at c3 ⊢; omega)
  clear c3; have H' := A_ H; clear H
  go_enter Try.func67, Try.ntmps67
  go_wp2
  repeat (go_quiet (fail); try go_wp2)
  go_loopg [13] k (fun kq v13 w' => ∃ (x13_1 : Int), v13 = .int .i64 x13_1 ∧ Aside0 (slices_Equal_int_int.l0 kq l0 l1 (l0.length : Int) x13_1 = some r) ∧ Aside0 (kq ≤ k) ∧ Drawn0 w w')
  case atStart => exact ⟨(0), rf_, H', ⟨Nat.le_refl _⟩, by repeat (first | exact Drawn0.refl _ | apply Drawn0.step)⟩
  case round =>
   clear H'
   try clear c3
   try clear c3b0
   try clear c3b1
   try clear c3b2
   obtain ⟨x13_1, rfl, HA, HK1, ⟨m1, rfl⟩⟩ := hrel
   cases gk with
   | zero => exact absurd HA.out (by simp [slices_Equal_int_int.l0])
   | succ k1 =>
    have H := HA.out; clear HA; simp only [slices_Equal_int_int.l0] at H
    by_cases c4 : x13_1 < (l0.length : Int)
    ·rw [if_pos c4] at H
     have c4b0 := decide_eq_true c4; clear c4
     by_cases c5 : 0 ≤ x13_1
     ·rw [if_pos c5] at H
      have c5b0 := decide_eq_true c5; clear c5
      by_cases c6 : x13_1 < (l0.length : Int)
      ·rw [if_pos c6] at H
       have c6b0 := decide_eq_true c6; clear c6
       by_cases c7 : x13_1 < (l1.length : Int)
       ·rw [if_pos c7] at H
        have c7b0 := decide_eq_true c7; clear c7
        by_cases c8 : (rd l0 x13_1) = (rd l1 x13_1)
        ·rw [if_pos c8] at H
         obtain ⟨c8b0, c8b1⟩ := be_ c8; clear c8; have H' := A_ H; clear H; have p210 : 0 ≤ (x13_1 : Int) := od_; have q210 : x13_1 < (l0.length : Int) := od_; obtain ⟨ad210, e210, hx210_0⟩ := Kd.at_int HR0.out x13_1 p210 q210
         cases e210
         replace p210 := eq_true p210; replace q210 := eq_true q210; have p211 : 0 ≤ (x13_1 : Int) := od_; have q211 : x13_1 < (l1.length : Int) := od_; obtain ⟨ad211, e211, hx211_0⟩ := Kd.at_int HR1.out x13_1 p211 q211
         cases e211
         replace p211 := eq_true p211; replace q211 := eq_true q211; go_wp2
         repeat (go_quiet (fail); try go_wp2)
         go_roundg k1
         case measure => have := HK1.out; omega
         case rel => exact ⟨(wrap64 (x13_1 + 1)), rf_, H', ⟨by have := HK1.out; omega⟩, by repeat (first | exact Drawn0.refl _ | apply Drawn0.step)⟩
        ·rw [if_neg c8] at H
         obtain ⟨c8b0, c8b1⟩ := bn_ c8; obtain rfl := Option.some.inj H; have p210 : 0 ≤ (x13_1 : Int) := od_; have q210 : x13_1 < (l0.length : Int) := od_; obtain ⟨ad210, e210, hx210_0⟩ := Kd.at_int HR0.out x13_1 p210 q210
         cases e210
         replace p210 := eq_true p210; replace q210 := eq_true q210; have p211 : 0 ≤ (x13_1 : Int) := od_; have q211 : x13_1 < (l1.length : Int) := od_; obtain ⟨ad211, e211, hx211_0⟩ := Kd.at_int HR1.out x13_1 p211 q211
         cases e211
         replace p211 := eq_true p211; replace q211 := eq_true q211; go_wp2
         repeat (go_quiet (fail); try go_wp2)
         go_ret; exact ⟨by first | rfl | (simp; done) | (simp [*]; done), by repeat (first | exact Drawn0.refl _ | apply Drawn0.step)⟩
       (· rw [if_neg c7] at H; exact absurd H (by simp))
      (· rw [if_neg c6] at H; exact absurd H (by simp))
     (· rw [if_neg c5] at H; exact absurd H (by simp))
    ·rw [if_neg c4] at H
     have c4b0 := decide_eq_false c4; clear c4; obtain rfl := Option.some.inj H; go_wp2
     repeat (go_quiet (fail); try go_wp2)
     go_ret; exact ⟨by first | rfl | (simp; done) | (simp [*]; done), by repeat (first | exact Drawn0.refl _ | apply Drawn0.step)⟩
 ·rw [if_neg c3] at H
  obtain ⟨c3b0, c3b1⟩ := bn_ c3
  have c3b2 : (l0.length == l1.length) = false := by first | simpa using c3 | (simp at c3 ⊢; omega)
  obtain rfl := Option.some.inj H
  go_enter Try.func67, Try.ntmps67
  go_wp2
  repeat (go_quiet (fail); try go_wp2)
  go_ret; exact ⟨by first | rfl | (simp; done) | (simp [*]; done), by repeat (first | exact Drawn0.refl _ | apply Drawn0.step)⟩
end Go.Proofs.Ytcgpemefmakjiaa.PX
namespace Go.Proofs.Ytcgpemefmakjiaa.PX
open Go.RowKit Go.Proofs.YtcgpemefmakjiaaW.PrintWords Go.Proofs.YtcgpemefmakjiaaW.PrintLast Go.Proofs.YtcgpemefmakjiaaW.PrintMore
theorem wrap64_id {x : Int} (h0 : -9223372036854775808 ≤ x) (h1 : x ≤ 9223372036854775807) : wrap64 x = x := by
 unfold wrap64; omega
theorem rd_nat (xs : List Int) (i : Nat) (h : i < xs.length) : rd xs i = xs[i] := by simp [rd, List.getD_eq_getElem?_getD, h]
theorem slEq_l0 (xs ys : List Int) (hl : xs.length = ys.length) (hm : xs.length < 4611686018427387904) : ∀ n i : Nat, i + n = xs.length → slices_Equal_int_int.l0 (n + 1) xs ys (xs.length : Int) (i : Int) = some (decide (xs.drop i = ys.drop i)) := by
 intro n
 induction n with
 | zero =>
  intro i hi; unfold slices_Equal_int_int.l0; rw [if_neg (by omega), List.drop_eq_nil_of_le (by omega), List.drop_eq_nil_of_le (by omega)]; rfl
 | succ n ih =>
  intro i hi; unfold slices_Equal_int_int.l0; rw [if_pos (by omega), if_pos (by omega), if_pos (by omega), if_pos (by omega), rd_nat xs i (by omega), rd_nat ys i (by omega), wrap64_id (by omega) (by omega)]
  have e : ((i : Int) + 1) = ((i + 1 : Nat) : Int) := by omega
  rw [e, ih (i + 1) (by omega), List.drop_eq_getElem_cons (show i < xs.length by omega), List.drop_eq_getElem_cons (show i < ys.length by omega)]
  by_cases he : xs[i] = ys[i]
  (· rw [if_pos he]; simp only [he, List.cons.injEq, true_and]); (· rw [if_neg he]; simp only [he, List.cons.injEq, false_and, decide_false])
theorem slEq_f (xs ys : List Int) (hm : xs.length < 4611686018427387904) : slices_Equal_int_int.f (xs.length + 1) xs ys = some (decide (xs = ys)) := by
 unfold slices_Equal_int_int.f
 by_cases h : xs.length = ys.length
 (· rw [if_pos (by omega)]; exact slEq_l0 xs ys h hm xs.length 0 (by omega))
 ·rw [if_neg (by omega)]
  have : xs ≠ ys := fun e => h (congrArg _ e)
  simp [this]
end Go.Proofs.Ytcgpemefmakjiaa.PX
namespace Go.Proofs.Ytcgpemefmakjiaa.PX
open Go.RowKit Go.Proofs.YtcgpemefmakjiaaW.PrintWords Go.Proofs.YtcgpemefmakjiaaW.PrintLast Go.Proofs.YtcgpemefmakjiaaW.PrintMore
attribute [local go_sem] max2_int min2_int max_two min_two max_three min_three max_four min_four   -- for this text's walks alone
def dioramalaw36_plain.l0 : Nat → List (S61) → List (S76) → Int → Option ((List (S76)))
 | 0, _, _, _ => none
 | k + 1, x0, x3, x4 => if x4 < (x0.length : Int) then (if 0 ≤ x4 then (if x3.length < 2199023255552 then (dioramalaw36_plain.l0 k x0 (x3 ++ [(⟨(rd_T61 x0 x4).f0, (rd_T61 x0 x4).f1, (rd_T61 x0 x4).f2, (rd_T61 x0 x4).f3, (rd_T61 x0 x4).f4, (rd_T61 x0 x4).f5⟩ : S76)]) (wrap64 (x4 + 1))) else (none)) else (none)) else (some x3)
def dioramalaw36_plain.f (k : Nat) (l0 : List (S61)) : Option ((List (S76))) := dioramalaw36_plain.l0 k l0 ([] : List (S76)) 0
set_option maxHeartbeats 8000000 in
set_option maxRecDepth 100000 in
theorem dioramalaw36_plain.calls (k : Nat) (P0_ : Nat → Prop) (A0 : Option Addr) (c0 : Nat) (l0 : List (S61)) (r : List (S76)) (w : World) (hs0 : Kd.V k61 61 w w.heap.size (fun k_ => P0_ k_) (.slice A0 l0.length c0) l0) (h : dioramalaw36_plain.f k l0 = some r) :
  Calls Try.prog 17 #[.slice A0 l0.length c0] w fun e w' => ∃ v0_ : Value, e = .returned (v0_) ∧ Kd.N k76 76 w' w.heap.size (fun k_ => (P0_ k_ ∨ w.heap.size ≤ k_)) v0_ r ∧ Below w.heap.size w w' := by
 have hu61 := Try.underlying61; have hu76 := Try.underlying76; have HV := A_ hs0; have HC := A_ (Kd.V_reads' hs0).2.2; have hlen := (Kd.V_reads' hs0).2.2.2.1; have H' := A_ (show dioramalaw36_plain.l0 k l0 ([] : List S76) 0 = some r from h); clear h hs0
 go_enter Try.func17, Try.ntmps17
 go_wp2
 go_loopg [3, 4] k (fun kq v3 v4 w' => ∃ (x3 : List S76) (x4 : Int), v4 = .int .i64 x4 ∧ Aside0 (dioramalaw36_plain.l0 kq l0 x3 x4 = some r) ∧ Aside0 (kq ≤ k) ∧ Aside0 (Kd.N k76 76 w' w.heap.size (fun k_ => P0_ k_ ∨ w.heap.size ≤ k_) v3 x3) ∧ Aside0 (Below w.heap.size w w'))
 case atStart => exact ⟨[], 0, by first | rfl | go_num, H', ⟨Nat.le_refl _⟩, ⟨Kd.N_nil _ _ _ _ _⟩, ⟨Below.refl _ _⟩⟩
 case round =>
  clear H'; obtain ⟨x3, x4, rfl, HA, HK1, HN, HB⟩ := hrel
  cases gk with
  | zero => exact absurd HA.out (by simp [dioramalaw36_plain.l0])
  | succ k1 =>
   have H := HA.out; clear HA; simp only [dioramalaw36_plain.l0] at H
   by_cases c4 : x4 < (l0.length : Int)
   ·rw [if_pos c4] at H
    by_cases c3 : 0 ≤ x4
    ·rw [if_pos c3] at H
     by_cases c7 : x3.length < 2199023255552
     ·rw [if_pos c7, wrap64_id (by omega) (by omega)] at H
      have q4 : decide (x4 < (l0.length : Int)) = true := decide_eq_true c4; have LMc := A_ c7; have H' := A_ H; clear H c7; obtain ⟨ad, A5, c5, e, hx0, hx1, hx2, hx3, hx4, hx5, hl5, hi5⟩ := at_T61 HC.out x4 c3 c4
      cases e
      obtain ⟨ce, hce, hMe, hcc⟩ := Kd.V_get HV.out z61 x4 c3 c4; obtain ⟨ua, uc, rfl, ul, ge⟩ := k61_openF hMe; have hv := hcc 5 _ rfl; rw [add_field _ _ 5 (by omega)] at hv; replace hv := Option.some.inj (hv.symm.trans hx5)
      injection hv with hva hvn hvc
      rw [hva] at ge; have HF5 : Aside0 (Kd.F (Kd.int .i64) w (fun k_ => (P0_ k_ ∨ w.heap.size ≤ k_) ∧ some k_ ≠ (u3 : Value).ownBlock) A5 (rd_T61 l0 x4).f5.length (rd_T61 l0 x4).f5) := ⟨Kd.F_mono (Kd.F_bound ge) (fun k_ hk => ⟨.inl hk.1, fun e => absurd (Kd.N_base HN.out k_ e.symm) (Nat.not_le.2 hk.2)⟩)⟩; have HL5 := A_ hl5; have HLT : Aside0 ((ad.add (x4.toNat * 6)).block < w.heap.size) := ⟨World.block_lt_of_cell? _ _ hx0⟩; clear hce hcc hva hvn hvc ge ul hl5 hi5; replace hx0 := cell_below HB.out hx0; replace hx1 := cell_below HB.out hx1; replace hx2 := cell_below HB.out hx2; replace hx3 := cell_below HB.out hx3; replace hx4 := cell_below HB.out hx4; replace hx5 := cell_below HB.out hx5; generalize rd_T61 l0 x4 = ch at hx0 hx1 hx2 hx3 hx4 hx5 HL5 HF5 H'
      have hN0 : some ((ad.add (x4.toNat * 6)) : Addr).block ≠ (u3 : Value).ownBlock := fun e => Nat.lt_irrefl _ (Nat.lt_of_lt_of_le HLT.out (Kd.N_base HN.out _ e.symm))
      have hN1 : some (⟨(ad.add (x4.toNat * 6)).block, (ad.add (x4.toNat * 6)).off + 1, none⟩ : Addr).block ≠ (u3 : Value).ownBlock := fun e => Nat.lt_irrefl _ (Nat.lt_of_lt_of_le HLT.out (Kd.N_base HN.out _ e.symm))
      have hN2 : some (⟨(ad.add (x4.toNat * 6)).block, (ad.add (x4.toNat * 6)).off + 2, none⟩ : Addr).block ≠ (u3 : Value).ownBlock := fun e => Nat.lt_irrefl _ (Nat.lt_of_lt_of_le HLT.out (Kd.N_base HN.out _ e.symm))
      have hN3 : some (⟨(ad.add (x4.toNat * 6)).block, (ad.add (x4.toNat * 6)).off + 3, none⟩ : Addr).block ≠ (u3 : Value).ownBlock := fun e => Nat.lt_irrefl _ (Nat.lt_of_lt_of_le HLT.out (Kd.N_base HN.out _ e.symm))
      have hN4 : some (⟨(ad.add (x4.toNat * 6)).block, (ad.add (x4.toNat * 6)).off + 4, none⟩ : Addr).block ≠ (u3 : Value).ownBlock := fun e => Nat.lt_irrefl _ (Nat.lt_of_lt_of_le HLT.out (Kd.N_base HN.out _ e.symm))
      have hN5 : some (⟨(ad.add (x4.toNat * 6)).block, (ad.add (x4.toNat * 6)).off + 5, none⟩ : Addr).block ≠ (u3 : Value).ownBlock := fun e => Nat.lt_irrefl _ (Nat.lt_of_lt_of_le HLT.out (Kd.N_base HN.out _ e.symm))
      go_upto_region 5 with (fail)
      have HB4 : Aside0 (Below w.heap.size w wr.drew) := ⟨below_drew HB.out⟩; have HN4 := A_ (Kd.N_drew HN.out); replace hx0 := dr_ hx0; replace hx1 := dr_ hx1; replace hx2 := dr_ hx2; replace hx3 := dr_ hx3; replace hx4 := dr_ hx4; replace hx5 := dr_ hx5; refine start_ (n := 35) (S := fun w' => w'.cell? (ad.add (x4.toNat * 6)) = some (.int .i64 ch.f0) ∧ w'.cell? ⟨(ad.add (x4.toNat * 6)).block, (ad.add (x4.toNat * 6)).off + 1, none⟩ = some (.int .i64 ch.f1) ∧ w'.cell? ⟨(ad.add (x4.toNat * 6)).block, (ad.add (x4.toNat * 6)).off + 2, none⟩ = some (.int .i64 ch.f2) ∧ w'.cell? ⟨(ad.add (x4.toNat * 6)).block, (ad.add (x4.toNat * 6)).off + 3, none⟩ = some (.int .i64 ch.f3) ∧ w'.cell? ⟨(ad.add (x4.toNat * 6)).block, (ad.add (x4.toNat * 6)).off + 4, none⟩ = some (.int .i64 ch.f4) ∧ w'.cell? ⟨(ad.add (x4.toNat * 6)).block, (ad.add (x4.toNat * 6)).off + 5, none⟩ = some (.slice A5 ch.f5.length c5)) (ds := []) (B_ 35 0) (by kernel_rfl) rfl rfl ⟨hx0, hx1, hx2, hx3, hx4, hx5⟩ (fun hHeld => ?_); generalize wr.drew = w4 at HB4 HN4 hHeld hx0 hx1 hx2 hx3 hx4 hx5 ⊢; refine p_ 0 11 (B_ 35 1) ?_; refine p_ 1 12 (B_ 35 3) ?_; refine p_ 2 13 (B_ 35 7) ?_; refine p_ 3 14 (B_ 35 15) ?_; refine p_ 4 15 (B_ 35 31) ?_; refine p_ 6 17 (B_ 35 95) ?_; refine p_ 7 18 (B_ 35 223) ?_; refine p_ 8 19 (B_ 35 479) ?_; refine p_ 9 20 (B_ 35 991) ?_; refine p_ 11 22 (B_ 35 3039) ?_; refine p_ 12 23 (B_ 35 7135) ?_; refine p_ 13 24 (B_ 35 15327) ?_; refine p_ 14 25 (B_ 35 31711) ?_; refine p_ 16 27 (B_ 35 97247) ?_; refine p_ 17 28 (B_ 35 228319) ?_; refine p_ 18 29 (B_ 35 490463) ?_; refine p_ 19 30 (B_ 35 1014751) ?_; refine p_ 21 32 (B_ 35 3111903) ?_; refine p_ 22 33 (B_ 35 7306207) ?_; refine p_ 23 34 (B_ 35 15694815) ?_; refine p_ 24 35 (B_ 35 32472031) ?_; refine p_ 26 37 (B_ 35 99580895) ?_; refine p_ 27 38 (B_ 35 233798623) ?_; refine p_ 28 39 (B_ 35 502234079) ?_; refine p_ 29 40 (B_ 35 1039104991) ?_; refine t_ 5 16 (B_ 35 1039105023) hHeld ?_; refine t_ 10 21 (B_ 35 1039106047) hHeld ?_; refine t_ 15 26 (B_ 35 1039138815) hHeld ?_; refine t_ 20 31 (B_ 35 1040187391) hHeld ?_; refine t_ 25 36 (B_ 35 1073741823) hHeld ?_; refine t_ 30 41 (B_ 35 2147483647) hHeld ?_; refine p_ 31 42 (B_ 35 4294967295) ?_; refine one_ (i := 32) (N := some 43) (B_ 35 8589934591) rfl rfl (by kernel_rfl) (by decide) (fun K hK => ?_); refine value_ (w1 := ?_) (v := ?_) (by rfl) rfl ?_ ?_; rotate_left 2
      ·go_simp
       constructor; (· rfl); (· rfl)
      refine hK.out _ _ ⟨cell_below (below_alloc (Below.refl _ _) _) hx0, cell_below (below_alloc (Below.refl _ _) _) hx1, cell_below (below_alloc (Below.refl _ _) _) hx2, cell_below (below_alloc (Below.refl _ _) _) hx3, cell_below (below_alloc (Below.refl _ _) _) hx4, cell_below (below_alloc (Below.refl _ _) _) hx5⟩ (fun hHeld => ?_); clear hK K; refine norm_ (a' := ?_) ?_ ?_; rotate_left
      ·show Act.put _ (some 43) _ = _
       simp only [Act.put, sA_, sB_, sC_, i64_w, i32_w]; rfl
      refine one_ (i := 33) (N := some 44) (B_ 35 17179869183) rfl rfl (by kernel_rfl) (by decide) (fun K hK => ?_); refine Kd.N_append_step k76 (w0 := w) w.heap.size (by rfl) (.tmp 11) (.tmp 43) 34 76 (.agg #[(.int .i64 0), (.int .i64 0), (.int .i64 0), (.int .i64 0), (.int .i64 0), (.slice none 0 0)]) 64 rfl Try.underlying34 info76 rfl (by decide) (by omega) u3 x3 (⟨ch.f0, ch.f1, ch.f2, ch.f3, ch.f4, ch.f5⟩ : S76) [.int .i64 ch.f0, .int .i64 ch.f1, .int .i64 ch.f2, .int .i64 ch.f3, .int .i64 ch.f4, .slice A5 ch.f5.length c5] (fun k_ => P0_ k_ ∨ w.heap.size ≤ k_) (fun k_ => (P0_ k_ ∨ w.heap.size ≤ k_) ∧ some k_ ≠ (u3 : Value).ownBlock) rfl rfl (k76_mkF _ _ (⟨ch.f0, ch.f1, ch.f2, ch.f3, ch.f4, ch.f5⟩ : S76) HL5.out (Kd.F_below HF5.out HB4.out)) (fun _ hk => hk) (fun k_ hk => .inr (Nat.le_trans HB4.out.size hk)) HN4.out HB4.out HB4.out.size (by have := LMc.out; omega) ?_; intro v7 w7 ho hb hg hat; have HN7 := A_ ho; have HB7 := A_ hb; clear ho hb hat; refine hK.out _ _ ⟨hg.cell hx0 hN0, hg.cell hx1 hN1, hg.cell hx2 hN2, hg.cell hx3 hN3, hg.cell hx4 hN4, hg.cell hx5 hN5⟩ (fun hHeld => ?_); clear hK K; refine norm_ (a' := ?_) ?_ ?_; rotate_left
      ·show Act.put _ (some 44) _ = _
       simp only [Act.put, sA_, sB_, sC_, i64_w, i32_w]; rfl
      refine p_ 34 3 (B_ 35 34359738367) ?_; refine done_ (by kernel_rfl) ?_
      try go_wp2
      go_roundg k1
      case measure => have := HK1.out; omega
      case rel => exact ⟨x3 ++ [(⟨ch.f0, ch.f1, ch.f2, ch.f3, ch.f4, ch.f5⟩ : S76)], x4 + 1, by first | rfl | go_num, H', ⟨by have := HK1.out; omega⟩, HN7, HB7⟩
     (· rw [if_neg c7] at H; exact absurd H (by simp))
    (· rw [if_neg c3] at H; exact absurd H (by simp))
   (· rw [if_neg c4] at H; have q4 : decide (x4 < (l0.length : Int)) = false := decide_eq_false c4; obtain rfl := Option.some.inj H; clear H c4; go_wp2; go_ret; exact ⟨_, rfl, HN.out, HB.out⟩)
mutual
def dioramaref36_SameWorld.l0 : Nat → List (List (List Int)) → List (List (List Int)) → Int → Option (Bool)
 | 0, _, _, _ => none
 | k + 1, x0, x1, x5 => if x5 < (x0.length : Int) then (if 0 ≤ x5 then (if x5 < (x1.length : Int) then (if ((rd_L2 x0 x5).length : Int) = ((rd_L2 x1 x5).length : Int) then (dioramaref36_SameWorld.l1 k x0 x1 x5 0) else (some false)) else (none)) else (none)) else (some true)
def dioramaref36_SameWorld.l1 : Nat → List (List (List Int)) → List (List (List Int)) → Int → Int → Option (Bool)
 | 0, _, _, _, _ => none
 | k + 1, x0, x1, x5, x6 => if 0 ≤ x5 then (if x5 < (x0.length : Int) then (if x6 < ((rd_L2 x0 x5).length : Int) then (if 0 ≤ x6 then (if x5 < (x1.length : Int) then (if x6 < ((rd_L2 x1 x5).length : Int) then ((dioramaref01_SameInts.f k (rd_L1 (rd_L2 x0 x5) x6) (rd_L1 (rd_L2 x1 x5) x6)).bind fun t225 => (if t225 = true then (dioramaref36_SameWorld.l1 k x0 x1 x5 (wrap64 (x6 + 1))) else (some false))) else (none)) else (none)) else (none)) else (dioramaref36_SameWorld.l0 k x0 x1 (wrap64 (x5 + 1)))) else (none)) else (none)
end
def dioramaref36_SameWorld.f (k : Nat) (l0 : List (List (List Int))) (l1 : List (List (List Int))) : Option (Bool) := if (l0.length : Int) = (l1.length : Int) then (dioramaref36_SameWorld.l0 k l0 l1 0) else (some false)
set_option maxHeartbeats 8000000 in
set_option maxRecDepth 100000 in
theorem dioramaref36_SameWorld.calls (k : Nat) (A0 : Option Addr) (c0 : Nat) (l0 : List (List (List Int))) (A1 : Option Addr) (c1 : Nat) (l1 : List (List (List Int))) (r : Bool) (w : World) (hr0 : Kd.C (Kd.slice 22 (Kd.slice 3 (Kd.int .i64))) w A0 l0.length l0) (hc0 : l0.length ≤ c0) (hr1 : Kd.C (Kd.slice 22 (Kd.slice 3 (Kd.int .i64))) w A1 l1.length l1) (hc1 : l1.length ≤ c1) (h : dioramaref36_SameWorld.f k l0 l1 = some r) :
  Calls Try.prog 21 #[.slice A0 l0.length c0, .slice A1 l1.length c1] w fun e w' => e = .returned (.bool r) ∧ Drawn0 w w' := by
 have HR0 := A_ hr0; have HC0 := A_ hc0; clear hr0 hc0; have HR1 := A_ hr1; have HC1 := A_ hc1; clear hr1 hc1; have H : (if (l0.length : Int) = (l1.length : Int) then (dioramaref36_SameWorld.l0 k l0 l1 0) else (some false)) = some r := h; clear h
 by_cases c3 : (l0.length : Int) = (l1.length : Int)
 ·rw [if_pos c3] at H
  obtain ⟨c3b0, c3b1⟩ := be_ c3
  have c3b2 : (l0.length == l1.length) = true := by first | simpa using c3 | (simp at c3 ⊢; omega)
  clear c3; have H' := A_ H; clear H
  go_enter Try.func21, Try.ntmps21
  go_wp2
  repeat (go_quiet (fail); try go_wp2)
  go_loopg [5] k (fun kq v5 w' => ∃ (x5_1 : Int), v5 = .int .i64 x5_1 ∧ Aside0 (dioramaref36_SameWorld.l0 kq l0 l1 x5_1 = some r) ∧ Aside0 (kq ≤ k) ∧ Drawn0 w w')
  case atStart => exact ⟨(0), rf_, H', ⟨Nat.le_refl _⟩, by repeat (first | exact Drawn0.refl _ | apply Drawn0.step)⟩
  case round =>
   clear H'
   try clear c3
   try clear c3b0
   try clear c3b1
   try clear c3b2
   obtain ⟨x5_1, rfl, HA, HK1, ⟨m1, rfl⟩⟩ := hrel
   cases gk with
   | zero => exact absurd HA.out (by simp [dioramaref36_SameWorld.l0])
   | succ k1 =>
    have H := HA.out; clear HA; simp only [dioramaref36_SameWorld.l0] at H
    by_cases c4 : x5_1 < (l0.length : Int)
    ·rw [if_pos c4] at H
     have c4b0 := decide_eq_true c4; clear c4
     by_cases c5 : 0 ≤ x5_1
     ·rw [if_pos c5] at H
      have c5b0 := decide_eq_true c5; clear c5
      by_cases c6 : x5_1 < (l1.length : Int)
      ·rw [if_pos c6] at H
       have c6b0 := decide_eq_true c6; clear c6
       by_cases c7 : ((rd_L2 l0 x5_1).length : Int) = ((rd_L2 l1 x5_1).length : Int)
       ·rw [if_pos c7] at H
        obtain ⟨c7b0, c7b1⟩ := be_ c7
        have c7b2 : ((rd_L2 l0 x5_1).length == (rd_L2 l1 x5_1).length) = true := by first | simpa using c7 | (simp at c7 ⊢; omega)
        clear c7; have H' := A_ H; clear H; have p218 : 0 ≤ (x5_1 : Int) := od_; have q218 : x5_1 < (l0.length : Int) := od_; obtain ⟨ad218, A218_0, c218_0, e218, hx218_0, hl218_0, hi218_0⟩ := at_L2 HR0.out x5_1 p218 q218
        cases e218
        have HR218_0 := A_ hi218_0; have HC218_0 := A_ hl218_0; clear hi218_0 hl218_0; replace p218 := eq_true p218; replace q218 := eq_true q218; have p219 : 0 ≤ (x5_1 : Int) := od_; have q219 : x5_1 < (l1.length : Int) := od_; obtain ⟨ad219, A219_0, c219_0, e219, hx219_0, hl219_0, hi219_0⟩ := at_L2 HR1.out x5_1 p219 q219
        cases e219
        have HR219_0 := A_ hi219_0; have HC219_0 := A_ hl219_0; clear hi219_0 hl219_0; replace p219 := eq_true p219; replace q219 := eq_true q219; go_wp2
        repeat (go_quiet (fail); try go_wp2)
        go_loopg [6] k1 (fun kq v6 w' => ∃ (x6_2 : Int), v6 = .int .i64 x6_2 ∧ Aside0 (dioramaref36_SameWorld.l1 kq l0 l1 x5_1 x6_2 = some r) ∧ Aside0 (kq ≤ k1) ∧ Drawn0 w w')
        case atStart => exact ⟨(0), rf_, H', ⟨Nat.le_refl _⟩, by repeat (first | exact Drawn0.refl _ | apply Drawn0.step)⟩
        case round =>
         clear H'
         try clear c3
         try clear c3b0
         try clear c3b1
         try clear c3b2
         try clear c4
         try clear c4b0
         try clear c5
         try clear c5b0
         try clear c6
         try clear c6b0
         try clear c7
         try clear c7b0
         try clear c7b1
         try clear c7b2
         try clear hx218_0
         try clear hx219_0
         try clear p218
         try clear p219
         try clear q218
         try clear q219
         obtain ⟨x6_2, rfl, HA, HK2, ⟨m2, rfl⟩⟩ := hrel
         cases gk with
         | zero => exact absurd HA.out (by simp [dioramaref36_SameWorld.l1])
         | succ k2 =>
          have H := HA.out; clear HA; simp only [dioramaref36_SameWorld.l1] at H
          by_cases c8 : 0 ≤ x5_1
          ·rw [if_pos c8] at H
           have c8b0 := decide_eq_true c8; clear c8
           by_cases c9 : x5_1 < (l0.length : Int)
           ·rw [if_pos c9] at H
            have c9b0 := decide_eq_true c9; clear c9
            by_cases c10 : x6_2 < ((rd_L2 l0 x5_1).length : Int)
            ·rw [if_pos c10] at H
             have c10b0 := decide_eq_true c10; clear c10
             by_cases c11 : 0 ≤ x6_2
             ·rw [if_pos c11] at H
              have c11b0 := decide_eq_true c11; clear c11
              by_cases c12 : x5_1 < (l1.length : Int)
              ·rw [if_pos c12] at H
               have c12b0 := decide_eq_true c12; clear c12
               by_cases c13 : x6_2 < ((rd_L2 l1 x5_1).length : Int)
               ·rw [if_pos c13] at H
                have c13b0 := decide_eq_true c13; clear c13; replace H := Option.bind_eq_some_iff.mp H; obtain ⟨t225, A140, H⟩ := H
                (try dsimp only at H)
                have A14 := A_ A140; clear A140
                by_cases c15 : t225 = true
                ·subst c15
                 have H1 : (dioramaref36_SameWorld.l1 k2 l0 l1 x5_1 (wrap64 (x6_2 + 1))) = some r := by rw [if_pos rfl] at H; exact H
                 clear H; have H := H1; clear H1; have H' := A_ H; clear H; have p220 : 0 ≤ (x5_1 : Int) := od_; have q220 : x5_1 < (l0.length : Int) := od_; obtain ⟨ad220, A220_0, c220_0, e220, hx220_0, hl220_0, hi220_0⟩ := at_L2 HR0.out x5_1 p220 q220; obtain rfl : ad218 = ad220 := (by injection e220); have HR220_0 := A_ hi220_0; have HC220_0 := A_ hl220_0; clear hi220_0 hl220_0; replace p220 := eq_true p220; replace q220 := eq_true q220; have p221 : 0 ≤ (x5_1 : Int) := od_; have q221 : x5_1 < (l0.length : Int) := od_; obtain ⟨ad221, A221_0, c221_0, e221, hx221_0, hl221_0, hi221_0⟩ := at_L2 HR0.out x5_1 p221 q221; obtain rfl : ad218 = ad221 := (by injection e221); have HR221_0 := A_ hi221_0; have HC221_0 := A_ hl221_0; clear hi221_0 hl221_0; replace p221 := eq_true p221; replace q221 := eq_true q221; have ea_ := Option.some.inj (hx220_0.symm.trans hx221_0)
                 injection ea_ with ea_ en_ ec_
                 subst ea_; subst ec_; clear en_; have p222 : 0 ≤ (x6_2 : Int) := od_; have q222 : x6_2 < ((rd_L2 l0 x5_1).length : Int) := od_; obtain ⟨ad222, A222_0, c222_0, e222, hx222_0, hl222_0, hi222_0⟩ := at_L1 HR221_0.out x6_2 p222 q222
                 cases e222
                 have HR222_0 := A_ hi222_0; have HC222_0 := A_ hl222_0; clear hi222_0 hl222_0; replace p222 := eq_true p222; replace q222 := eq_true q222; have p223 : 0 ≤ (x5_1 : Int) := od_; have q223 : x5_1 < (l1.length : Int) := od_; obtain ⟨ad223, A223_0, c223_0, e223, hx223_0, hl223_0, hi223_0⟩ := at_L2 HR1.out x5_1 p223 q223; obtain rfl : ad219 = ad223 := (by injection e223); have HR223_0 := A_ hi223_0; have HC223_0 := A_ hl223_0; clear hi223_0 hl223_0; replace p223 := eq_true p223; replace q223 := eq_true q223; have p224 : 0 ≤ (x6_2 : Int) := od_; have q224 : x6_2 < ((rd_L2 l1 x5_1).length : Int) := od_; obtain ⟨ad224, A224_0, c224_0, e224, hx224_0, hl224_0, hi224_0⟩ := at_L1 HR223_0.out x6_2 p224 q224
                 cases e224
                 have HR224_0 := A_ hi224_0; have HC224_0 := A_ hl224_0; clear hi224_0 hl224_0; replace p224 := eq_true p224; replace q224 := eq_true q224
                 go_wp2_with (first | (go_at_call 31; (with_reducible refine (dioramaref01_SameInts.calls k2 _ _ (rd_L1 (rd_L2 l0 x5_1) x6_2) _ _ (rd_L1 (rd_L2 l1 x5_1) x6_2) true _ ?side1 ?side2 ?side3 ?side4 A14.out).mono ?_); (case side1 => repeat (first | exact HR222_0.out | (with_reducible refine Kd.C_alloc ?_ _) | (with_reducible refine Kd.C_drewN ?_ _) | (with_reducible refine Kd.C_drew ?_))); (case side2 => exact HC222_0.out); (case side3 => repeat (first | exact HR224_0.out | (with_reducible refine Kd.C_alloc ?_ _) | (with_reducible refine Kd.C_drewN ?_ _) | (with_reducible refine Kd.C_drew ?_))); (case side4 => exact HC224_0.out); rintro e w' ⟨rfl, ⟨nd, rfl⟩⟩; (try first | exact ⟨rfl, _, World.drewN_drewN _ _ _⟩ | exact ⟨rfl, _, Eq.trans (World.drewN_drewN _ _ _) (congrArg (World.drewN _) (Nat.add_assoc _ _ _))⟩)))
                 repeat (go_quiet (first | (go_at_call 31; (with_reducible refine (dioramaref01_SameInts.calls k2 _ _ (rd_L1 (rd_L2 l0 x5_1) x6_2) _ _ (rd_L1 (rd_L2 l1 x5_1) x6_2) true _ ?side1 ?side2 ?side3 ?side4 A14.out).mono ?_); (case side1 => repeat (first | exact HR222_0.out | (with_reducible refine Kd.C_alloc ?_ _) | (with_reducible refine Kd.C_drewN ?_ _) | (with_reducible refine Kd.C_drew ?_))); (case side2 => exact HC222_0.out); (case side3 => repeat (first | exact HR224_0.out | (with_reducible refine Kd.C_alloc ?_ _) | (with_reducible refine Kd.C_drewN ?_ _) | (with_reducible refine Kd.C_drew ?_))); (case side4 => exact HC224_0.out); rintro e w' ⟨rfl, ⟨nd, rfl⟩⟩; (try first | exact ⟨rfl, _, World.drewN_drewN _ _ _⟩ | exact ⟨rfl, _, Eq.trans (World.drewN_drewN _ _ _) (congrArg (World.drewN _) (Nat.add_assoc _ _ _))⟩))); try go_wp2_with (first | (go_at_call 31; (with_reducible refine (dioramaref01_SameInts.calls k2 _ _ (rd_L1 (rd_L2 l0 x5_1) x6_2) _ _ (rd_L1 (rd_L2 l1 x5_1) x6_2) true _ ?side1 ?side2 ?side3 ?side4 A14.out).mono ?_); (case side1 => repeat (first | exact HR222_0.out | (with_reducible refine Kd.C_alloc ?_ _) | (with_reducible refine Kd.C_drewN ?_ _) | (with_reducible refine Kd.C_drew ?_))); (case side2 => exact HC222_0.out); (case side3 => repeat (first | exact HR224_0.out | (with_reducible refine Kd.C_alloc ?_ _) | (with_reducible refine Kd.C_drewN ?_ _) | (with_reducible refine Kd.C_drew ?_))); (case side4 => exact HC224_0.out); rintro e w' ⟨rfl, ⟨nd, rfl⟩⟩; (try first | exact ⟨rfl, _, World.drewN_drewN _ _ _⟩ | exact ⟨rfl, _, Eq.trans (World.drewN_drewN _ _ _) (congrArg (World.drewN _) (Nat.add_assoc _ _ _))⟩))))
                 go_roundg k2
                 case measure => have := HK1.out; have := HK2.out; omega
                 case rel => exact ⟨(wrap64 (x6_2 + 1)), rf_, H', ⟨by have := HK1.out; have := HK2.out; omega⟩, by repeat (first | exact Drawn0.refl _ | apply Drawn0.step)⟩
                ·replace c15 := Bool.eq_false_iff.mpr c15
                 subst c15
                 have H1 : (some false) = some r := by rw [if_neg (show ¬ (false = true) by decide)] at H; exact H
                 clear H; have H := H1; clear H1; obtain rfl := Option.some.inj H; have p220 : 0 ≤ (x5_1 : Int) := od_; have q220 : x5_1 < (l0.length : Int) := od_; obtain ⟨ad220, A220_0, c220_0, e220, hx220_0, hl220_0, hi220_0⟩ := at_L2 HR0.out x5_1 p220 q220; obtain rfl : ad218 = ad220 := (by injection e220); have HR220_0 := A_ hi220_0; have HC220_0 := A_ hl220_0; clear hi220_0 hl220_0; replace p220 := eq_true p220; replace q220 := eq_true q220; have p221 : 0 ≤ (x5_1 : Int) := od_; have q221 : x5_1 < (l0.length : Int) := od_; obtain ⟨ad221, A221_0, c221_0, e221, hx221_0, hl221_0, hi221_0⟩ := at_L2 HR0.out x5_1 p221 q221; obtain rfl : ad218 = ad221 := (by injection e221); have HR221_0 := A_ hi221_0; have HC221_0 := A_ hl221_0; clear hi221_0 hl221_0; replace p221 := eq_true p221; replace q221 := eq_true q221; have ea_ := Option.some.inj (hx220_0.symm.trans hx221_0)
                 injection ea_ with ea_ en_ ec_
                 subst ea_; subst ec_; clear en_; have p222 : 0 ≤ (x6_2 : Int) := od_; have q222 : x6_2 < ((rd_L2 l0 x5_1).length : Int) := od_; obtain ⟨ad222, A222_0, c222_0, e222, hx222_0, hl222_0, hi222_0⟩ := at_L1 HR221_0.out x6_2 p222 q222
                 cases e222
                 have HR222_0 := A_ hi222_0; have HC222_0 := A_ hl222_0; clear hi222_0 hl222_0; replace p222 := eq_true p222; replace q222 := eq_true q222; have p223 : 0 ≤ (x5_1 : Int) := od_; have q223 : x5_1 < (l1.length : Int) := od_; obtain ⟨ad223, A223_0, c223_0, e223, hx223_0, hl223_0, hi223_0⟩ := at_L2 HR1.out x5_1 p223 q223; obtain rfl : ad219 = ad223 := (by injection e223); have HR223_0 := A_ hi223_0; have HC223_0 := A_ hl223_0; clear hi223_0 hl223_0; replace p223 := eq_true p223; replace q223 := eq_true q223; have p224 : 0 ≤ (x6_2 : Int) := od_; have q224 : x6_2 < ((rd_L2 l1 x5_1).length : Int) := od_; obtain ⟨ad224, A224_0, c224_0, e224, hx224_0, hl224_0, hi224_0⟩ := at_L1 HR223_0.out x6_2 p224 q224
                 cases e224
                 have HR224_0 := A_ hi224_0; have HC224_0 := A_ hl224_0; clear hi224_0 hl224_0; replace p224 := eq_true p224; replace q224 := eq_true q224
                 go_wp2_with (first | (go_at_call 31; (with_reducible refine (dioramaref01_SameInts.calls k2 _ _ (rd_L1 (rd_L2 l0 x5_1) x6_2) _ _ (rd_L1 (rd_L2 l1 x5_1) x6_2) false _ ?side1 ?side2 ?side3 ?side4 A14.out).mono ?_); (case side1 => repeat (first | exact HR222_0.out | (with_reducible refine Kd.C_alloc ?_ _) | (with_reducible refine Kd.C_drewN ?_ _) | (with_reducible refine Kd.C_drew ?_))); (case side2 => exact HC222_0.out); (case side3 => repeat (first | exact HR224_0.out | (with_reducible refine Kd.C_alloc ?_ _) | (with_reducible refine Kd.C_drewN ?_ _) | (with_reducible refine Kd.C_drew ?_))); (case side4 => exact HC224_0.out); rintro e w' ⟨rfl, ⟨nd, rfl⟩⟩; (try first | exact ⟨rfl, _, World.drewN_drewN _ _ _⟩ | exact ⟨rfl, _, Eq.trans (World.drewN_drewN _ _ _) (congrArg (World.drewN _) (Nat.add_assoc _ _ _))⟩)))
                 repeat (go_quiet (first | (go_at_call 31; (with_reducible refine (dioramaref01_SameInts.calls k2 _ _ (rd_L1 (rd_L2 l0 x5_1) x6_2) _ _ (rd_L1 (rd_L2 l1 x5_1) x6_2) false _ ?side1 ?side2 ?side3 ?side4 A14.out).mono ?_); (case side1 => repeat (first | exact HR222_0.out | (with_reducible refine Kd.C_alloc ?_ _) | (with_reducible refine Kd.C_drewN ?_ _) | (with_reducible refine Kd.C_drew ?_))); (case side2 => exact HC222_0.out); (case side3 => repeat (first | exact HR224_0.out | (with_reducible refine Kd.C_alloc ?_ _) | (with_reducible refine Kd.C_drewN ?_ _) | (with_reducible refine Kd.C_drew ?_))); (case side4 => exact HC224_0.out); rintro e w' ⟨rfl, ⟨nd, rfl⟩⟩; (try first | exact ⟨rfl, _, World.drewN_drewN _ _ _⟩ | exact ⟨rfl, _, Eq.trans (World.drewN_drewN _ _ _) (congrArg (World.drewN _) (Nat.add_assoc _ _ _))⟩))); try go_wp2_with (first | (go_at_call 31; (with_reducible refine (dioramaref01_SameInts.calls k2 _ _ (rd_L1 (rd_L2 l0 x5_1) x6_2) _ _ (rd_L1 (rd_L2 l1 x5_1) x6_2) false _ ?side1 ?side2 ?side3 ?side4 A14.out).mono ?_); (case side1 => repeat (first | exact HR222_0.out | (with_reducible refine Kd.C_alloc ?_ _) | (with_reducible refine Kd.C_drewN ?_ _) | (with_reducible refine Kd.C_drew ?_))); (case side2 => exact HC222_0.out); (case side3 => repeat (first | exact HR224_0.out | (with_reducible refine Kd.C_alloc ?_ _) | (with_reducible refine Kd.C_drewN ?_ _) | (with_reducible refine Kd.C_drew ?_))); (case side4 => exact HC224_0.out); rintro e w' ⟨rfl, ⟨nd, rfl⟩⟩; (try first | exact ⟨rfl, _, World.drewN_drewN _ _ _⟩ | exact ⟨rfl, _, Eq.trans (World.drewN_drewN _ _ _) (congrArg (World.drewN _) (Nat.add_assoc _ _ _))⟩))))
                 go_ret; exact ⟨by first | rfl | (simp; done) | (simp [*]; done), by repeat (first | exact Drawn0.refl _ | apply Drawn0.step)⟩
               (· rw [if_neg c13] at H; exact absurd H (by simp))
              (· rw [if_neg c12] at H; exact absurd H (by simp))
             (· rw [if_neg c11] at H; exact absurd H (by simp))
            ·rw [if_neg c10] at H
             have c10b0 := decide_eq_false c10; clear c10; have H' := A_ H; clear H; have p220 : 0 ≤ (x5_1 : Int) := od_; have q220 : x5_1 < (l0.length : Int) := od_; obtain ⟨ad220, A220_0, c220_0, e220, hx220_0, hl220_0, hi220_0⟩ := at_L2 HR0.out x5_1 p220 q220; obtain rfl : ad218 = ad220 := (by injection e220); have HR220_0 := A_ hi220_0; have HC220_0 := A_ hl220_0; clear hi220_0 hl220_0; replace p220 := eq_true p220; replace q220 := eq_true q220; go_wp2
             repeat (go_quiet (fail); try go_wp2)
             go_roundg k2
             case measure => have := HK1.out; have := HK2.out; omega
             case rel => exact ⟨(wrap64 (x5_1 + 1)), rf_, H', ⟨by have := HK1.out; have := HK2.out; omega⟩, by repeat (first | exact Drawn0.refl _ | apply Drawn0.step)⟩
           (· rw [if_neg c9] at H; exact absurd H (by simp))
          (· rw [if_neg c8] at H; exact absurd H (by simp))
       ·rw [if_neg c7] at H
        obtain ⟨c7b0, c7b1⟩ := bn_ c7
        have c7b2 : ((rd_L2 l0 x5_1).length == (rd_L2 l1 x5_1).length) = false := by first | simpa using c7 | (simp at c7 ⊢; omega)
        obtain rfl := Option.some.inj H; have p218 : 0 ≤ (x5_1 : Int) := od_; have q218 : x5_1 < (l0.length : Int) := od_; obtain ⟨ad218, A218_0, c218_0, e218, hx218_0, hl218_0, hi218_0⟩ := at_L2 HR0.out x5_1 p218 q218
        cases e218
        have HR218_0 := A_ hi218_0; have HC218_0 := A_ hl218_0; clear hi218_0 hl218_0; replace p218 := eq_true p218; replace q218 := eq_true q218; have p219 : 0 ≤ (x5_1 : Int) := od_; have q219 : x5_1 < (l1.length : Int) := od_; obtain ⟨ad219, A219_0, c219_0, e219, hx219_0, hl219_0, hi219_0⟩ := at_L2 HR1.out x5_1 p219 q219
        cases e219
        have HR219_0 := A_ hi219_0; have HC219_0 := A_ hl219_0; clear hi219_0 hl219_0; replace p219 := eq_true p219; replace q219 := eq_true q219; go_wp2
        repeat (go_quiet (fail); try go_wp2)
        go_ret; exact ⟨by first | rfl | (simp; done) | (simp [*]; done), by repeat (first | exact Drawn0.refl _ | apply Drawn0.step)⟩
      (· rw [if_neg c6] at H; exact absurd H (by simp))
     (· rw [if_neg c5] at H; exact absurd H (by simp))
    ·rw [if_neg c4] at H
     have c4b0 := decide_eq_false c4; clear c4; obtain rfl := Option.some.inj H; go_wp2
     repeat (go_quiet (fail); try go_wp2)
     go_ret; exact ⟨by first | rfl | (simp; done) | (simp [*]; done), by repeat (first | exact Drawn0.refl _ | apply Drawn0.step)⟩
 ·rw [if_neg c3] at H
  obtain ⟨c3b0, c3b1⟩ := bn_ c3
  have c3b2 : (l0.length == l1.length) = false := by first | simpa using c3 | (simp at c3 ⊢; omega)
  obtain rfl := Option.some.inj H
  go_enter Try.func21, Try.ntmps21
  go_wp2
  repeat (go_quiet (fail); try go_wp2)
  go_ret; exact ⟨by first | rfl | (simp; done) | (simp [*]; done), by repeat (first | exact Drawn0.refl _ | apply Drawn0.step)⟩
def dioramalaw36_own.l0 : Nat → List (S76) → List (S61) → Int → Option ((List (S61)))
 | 0, _, _, _ => none
 | k + 1, x0, x3, x4 => if x4 < (x0.length : Int) then (if 0 ≤ x4 then (if x3.length < 2199023255552 then (dioramalaw36_own.l0 k x0 (x3 ++ [(⟨(rd_T76 x0 x4).f0, (rd_T76 x0 x4).f1, (rd_T76 x0 x4).f2, (rd_T76 x0 x4).f3, (rd_T76 x0 x4).f4, (rd_T76 x0 x4).f5⟩ : S61)]) (wrap64 (x4 + 1))) else (none)) else (none)) else (some x3)
def dioramalaw36_own.f (k : Nat) (l0 : List (S76)) : Option ((List (S61))) := dioramalaw36_own.l0 k l0 ([] : List (S61)) 0
set_option maxHeartbeats 8000000 in
set_option maxRecDepth 100000 in
theorem dioramalaw36_own.calls (k : Nat) (P0_ : Nat → Prop) (A0 : Option Addr) (c0 : Nat) (l0 : List (S76)) (r : List (S61)) (w : World) (hs0 : Kd.V k76 76 w w.heap.size (fun k_ => P0_ k_) (.slice A0 l0.length c0) l0) (h : dioramalaw36_own.f k l0 = some r) :
  Calls Try.prog 22 #[.slice A0 l0.length c0] w fun e w' => ∃ v0_ : Value, e = .returned (v0_) ∧ Kd.N k61 61 w' w.heap.size (fun k_ => (P0_ k_ ∨ w.heap.size ≤ k_)) v0_ r ∧ Below w.heap.size w w' := by
 have hu61 := Try.underlying61; have hu76 := Try.underlying76; have HV := A_ hs0; have HC := A_ (Kd.V_reads' hs0).2.2; have hlen := (Kd.V_reads' hs0).2.2.2.1; have H' := A_ (show dioramalaw36_own.l0 k l0 ([] : List S61) 0 = some r from h); clear h hs0
 go_enter Try.func22, Try.ntmps22
 go_wp2
 go_loopg [3, 4] k (fun kq v3 v4 w' => ∃ (x3 : List S61) (x4 : Int), v4 = .int .i64 x4 ∧ Aside0 (dioramalaw36_own.l0 kq l0 x3 x4 = some r) ∧ Aside0 (kq ≤ k) ∧ Aside0 (Kd.N k61 61 w' w.heap.size (fun k_ => P0_ k_ ∨ w.heap.size ≤ k_) v3 x3) ∧ Aside0 (Below w.heap.size w w'))
 case atStart => exact ⟨[], 0, by first | rfl | go_num, H', ⟨Nat.le_refl _⟩, ⟨Kd.N_nil _ _ _ _ _⟩, ⟨Below.refl _ _⟩⟩
 case round =>
  clear H'; obtain ⟨x3, x4, rfl, HA, HK1, HN, HB⟩ := hrel
  cases gk with
  | zero => exact absurd HA.out (by simp [dioramalaw36_own.l0])
  | succ k1 =>
   have H := HA.out; clear HA; simp only [dioramalaw36_own.l0] at H
   by_cases c4 : x4 < (l0.length : Int)
   ·rw [if_pos c4] at H
    by_cases c3 : 0 ≤ x4
    ·rw [if_pos c3] at H
     by_cases c7 : x3.length < 2199023255552
     ·rw [if_pos c7, wrap64_id (by omega) (by omega)] at H
      have q4 : decide (x4 < (l0.length : Int)) = true := decide_eq_true c4; have LMc := A_ c7; have H' := A_ H; clear H c7; obtain ⟨ad, A5, c5, e, hx0, hx1, hx2, hx3, hx4, hx5, hl5, hi5⟩ := at_T76 HC.out x4 c3 c4
      cases e
      obtain ⟨ce, hce, hMe, hcc⟩ := Kd.V_get HV.out z76 x4 c3 c4; obtain ⟨ua, uc, rfl, ul, ge⟩ := k76_openF hMe; have hv := hcc 5 _ rfl; rw [add_field _ _ 5 (by omega)] at hv; replace hv := Option.some.inj (hv.symm.trans hx5)
      injection hv with hva hvn hvc
      rw [hva] at ge; have HF5 : Aside0 (Kd.F (Kd.int .i64) w (fun k_ => (P0_ k_ ∨ w.heap.size ≤ k_) ∧ some k_ ≠ (u3 : Value).ownBlock) A5 (rd_T76 l0 x4).f5.length (rd_T76 l0 x4).f5) := ⟨Kd.F_mono (Kd.F_bound ge) (fun k_ hk => ⟨.inl hk.1, fun e => absurd (Kd.N_base HN.out k_ e.symm) (Nat.not_le.2 hk.2)⟩)⟩; have HL5 := A_ hl5; have HLT : Aside0 ((ad.add (x4.toNat * 6)).block < w.heap.size) := ⟨World.block_lt_of_cell? _ _ hx0⟩; clear hce hcc hva hvn hvc ge ul hl5 hi5; replace hx0 := cell_below HB.out hx0; replace hx1 := cell_below HB.out hx1; replace hx2 := cell_below HB.out hx2; replace hx3 := cell_below HB.out hx3; replace hx4 := cell_below HB.out hx4; replace hx5 := cell_below HB.out hx5; generalize rd_T76 l0 x4 = ch at hx0 hx1 hx2 hx3 hx4 hx5 HL5 HF5 H'
      have hN0 : some ((ad.add (x4.toNat * 6)) : Addr).block ≠ (u3 : Value).ownBlock := fun e => Nat.lt_irrefl _ (Nat.lt_of_lt_of_le HLT.out (Kd.N_base HN.out _ e.symm))
      have hN1 : some (⟨(ad.add (x4.toNat * 6)).block, (ad.add (x4.toNat * 6)).off + 1, none⟩ : Addr).block ≠ (u3 : Value).ownBlock := fun e => Nat.lt_irrefl _ (Nat.lt_of_lt_of_le HLT.out (Kd.N_base HN.out _ e.symm))
      have hN2 : some (⟨(ad.add (x4.toNat * 6)).block, (ad.add (x4.toNat * 6)).off + 2, none⟩ : Addr).block ≠ (u3 : Value).ownBlock := fun e => Nat.lt_irrefl _ (Nat.lt_of_lt_of_le HLT.out (Kd.N_base HN.out _ e.symm))
      have hN3 : some (⟨(ad.add (x4.toNat * 6)).block, (ad.add (x4.toNat * 6)).off + 3, none⟩ : Addr).block ≠ (u3 : Value).ownBlock := fun e => Nat.lt_irrefl _ (Nat.lt_of_lt_of_le HLT.out (Kd.N_base HN.out _ e.symm))
      have hN4 : some (⟨(ad.add (x4.toNat * 6)).block, (ad.add (x4.toNat * 6)).off + 4, none⟩ : Addr).block ≠ (u3 : Value).ownBlock := fun e => Nat.lt_irrefl _ (Nat.lt_of_lt_of_le HLT.out (Kd.N_base HN.out _ e.symm))
      have hN5 : some (⟨(ad.add (x4.toNat * 6)).block, (ad.add (x4.toNat * 6)).off + 5, none⟩ : Addr).block ≠ (u3 : Value).ownBlock := fun e => Nat.lt_irrefl _ (Nat.lt_of_lt_of_le HLT.out (Kd.N_base HN.out _ e.symm))
      go_upto_region 5 with (fail)
      have HB4 : Aside0 (Below w.heap.size w wr.drew) := ⟨below_drew HB.out⟩; have HN4 := A_ (Kd.N_drew HN.out); replace hx0 := dr_ hx0; replace hx1 := dr_ hx1; replace hx2 := dr_ hx2; replace hx3 := dr_ hx3; replace hx4 := dr_ hx4; replace hx5 := dr_ hx5; refine start_ (n := 35) (S := fun w' => w'.cell? (ad.add (x4.toNat * 6)) = some (.int .i64 ch.f0) ∧ w'.cell? ⟨(ad.add (x4.toNat * 6)).block, (ad.add (x4.toNat * 6)).off + 1, none⟩ = some (.int .i64 ch.f1) ∧ w'.cell? ⟨(ad.add (x4.toNat * 6)).block, (ad.add (x4.toNat * 6)).off + 2, none⟩ = some (.int .i64 ch.f2) ∧ w'.cell? ⟨(ad.add (x4.toNat * 6)).block, (ad.add (x4.toNat * 6)).off + 3, none⟩ = some (.int .i64 ch.f3) ∧ w'.cell? ⟨(ad.add (x4.toNat * 6)).block, (ad.add (x4.toNat * 6)).off + 4, none⟩ = some (.int .i64 ch.f4) ∧ w'.cell? ⟨(ad.add (x4.toNat * 6)).block, (ad.add (x4.toNat * 6)).off + 5, none⟩ = some (.slice A5 ch.f5.length c5)) (ds := []) (B_ 35 0) (by kernel_rfl) rfl rfl ⟨hx0, hx1, hx2, hx3, hx4, hx5⟩ (fun hHeld => ?_); generalize wr.drew = w4 at HB4 HN4 hHeld hx0 hx1 hx2 hx3 hx4 hx5 ⊢; refine p_ 0 11 (B_ 35 1) ?_; refine p_ 1 12 (B_ 35 3) ?_; refine p_ 2 13 (B_ 35 7) ?_; refine p_ 3 14 (B_ 35 15) ?_; refine p_ 4 15 (B_ 35 31) ?_; refine p_ 6 17 (B_ 35 95) ?_; refine p_ 7 18 (B_ 35 223) ?_; refine p_ 8 19 (B_ 35 479) ?_; refine p_ 9 20 (B_ 35 991) ?_; refine p_ 11 22 (B_ 35 3039) ?_; refine p_ 12 23 (B_ 35 7135) ?_; refine p_ 13 24 (B_ 35 15327) ?_; refine p_ 14 25 (B_ 35 31711) ?_; refine p_ 16 27 (B_ 35 97247) ?_; refine p_ 17 28 (B_ 35 228319) ?_; refine p_ 18 29 (B_ 35 490463) ?_; refine p_ 19 30 (B_ 35 1014751) ?_; refine p_ 21 32 (B_ 35 3111903) ?_; refine p_ 22 33 (B_ 35 7306207) ?_; refine p_ 23 34 (B_ 35 15694815) ?_; refine p_ 24 35 (B_ 35 32472031) ?_; refine p_ 26 37 (B_ 35 99580895) ?_; refine p_ 27 38 (B_ 35 233798623) ?_; refine p_ 28 39 (B_ 35 502234079) ?_; refine p_ 29 40 (B_ 35 1039104991) ?_; refine t_ 5 16 (B_ 35 1039105023) hHeld ?_; refine t_ 10 21 (B_ 35 1039106047) hHeld ?_; refine t_ 15 26 (B_ 35 1039138815) hHeld ?_; refine t_ 20 31 (B_ 35 1040187391) hHeld ?_; refine t_ 25 36 (B_ 35 1073741823) hHeld ?_; refine t_ 30 41 (B_ 35 2147483647) hHeld ?_; refine p_ 31 42 (B_ 35 4294967295) ?_; refine one_ (i := 32) (N := some 43) (B_ 35 8589934591) rfl rfl (by kernel_rfl) (by decide) (fun K hK => ?_); refine value_ (w1 := ?_) (v := ?_) (by rfl) rfl ?_ ?_; rotate_left 2
      ·go_simp
       constructor; (· rfl); (· rfl)
      refine hK.out _ _ ⟨cell_below (below_alloc (Below.refl _ _) _) hx0, cell_below (below_alloc (Below.refl _ _) _) hx1, cell_below (below_alloc (Below.refl _ _) _) hx2, cell_below (below_alloc (Below.refl _ _) _) hx3, cell_below (below_alloc (Below.refl _ _) _) hx4, cell_below (below_alloc (Below.refl _ _) _) hx5⟩ (fun hHeld => ?_); clear hK K; refine norm_ (a' := ?_) ?_ ?_; rotate_left
      ·show Act.put _ (some 43) _ = _
       simp only [Act.put, sA_, sB_, sC_, i64_w, i32_w]; rfl
      refine one_ (i := 33) (N := some 44) (B_ 35 17179869183) rfl rfl (by kernel_rfl) (by decide) (fun K hK => ?_); refine Kd.N_append_step k61 (w0 := w) w.heap.size (by rfl) (.tmp 11) (.tmp 43) 30 61 (.agg #[(.int .i64 0), (.int .i64 0), (.int .i64 0), (.int .i64 0), (.int .i64 0), (.slice none 0 0)]) 64 rfl Try.underlying30 info61 rfl (by decide) (by omega) u3 x3 (⟨ch.f0, ch.f1, ch.f2, ch.f3, ch.f4, ch.f5⟩ : S61) [.int .i64 ch.f0, .int .i64 ch.f1, .int .i64 ch.f2, .int .i64 ch.f3, .int .i64 ch.f4, .slice A5 ch.f5.length c5] (fun k_ => P0_ k_ ∨ w.heap.size ≤ k_) (fun k_ => (P0_ k_ ∨ w.heap.size ≤ k_) ∧ some k_ ≠ (u3 : Value).ownBlock) rfl rfl (k61_mkF _ _ (⟨ch.f0, ch.f1, ch.f2, ch.f3, ch.f4, ch.f5⟩ : S61) HL5.out (Kd.F_below HF5.out HB4.out)) (fun _ hk => hk) (fun k_ hk => .inr (Nat.le_trans HB4.out.size hk)) HN4.out HB4.out HB4.out.size (by have := LMc.out; omega) ?_; intro v7 w7 ho hb hg hat; have HN7 := A_ ho; have HB7 := A_ hb; clear ho hb hat; refine hK.out _ _ ⟨hg.cell hx0 hN0, hg.cell hx1 hN1, hg.cell hx2 hN2, hg.cell hx3 hN3, hg.cell hx4 hN4, hg.cell hx5 hN5⟩ (fun hHeld => ?_); clear hK K; refine norm_ (a' := ?_) ?_ ?_; rotate_left
      ·show Act.put _ (some 44) _ = _
       simp only [Act.put, sA_, sB_, sC_, i64_w, i32_w]; rfl
      refine p_ 34 3 (B_ 35 34359738367) ?_; refine done_ (by kernel_rfl) ?_
      try go_wp2
      go_roundg k1
      case measure => have := HK1.out; omega
      case rel => exact ⟨x3 ++ [(⟨ch.f0, ch.f1, ch.f2, ch.f3, ch.f4, ch.f5⟩ : S61)], x4 + 1, by first | rfl | go_num, H', ⟨by have := HK1.out; omega⟩, HN7, HB7⟩
     (· rw [if_neg c7] at H; exact absurd H (by simp))
    (· rw [if_neg c3] at H; exact absurd H (by simp))
   (· rw [if_neg c4] at H; have q4 : decide (x4 < (l0.length : Int)) = false := decide_eq_false c4; obtain rfl := Option.some.inj H; clear H c4; go_wp2; go_ret; exact ⟨_, rfl, HN.out, HB.out⟩)
def dioramaref36_Bent.f (l0 : List (S76)) (a1 : Int) (a2 : Int) (a3 : Int) : Option ((List (S76))) := if ([] : List (S76)).length + l0.length < 2199023255552 then ((some (([] : List (S76)) ++ l0 : List (S76))).bind fun y311 => (if (y311.length : Int) = 0 then ((dioramaref01_Around.f a3 5).bind fun t314 => (if y311.length < 2199023255552 then (some (y311 ++ [(⟨0, 0, wrap64 (t314 - 3), 0, 0, ([] : List Int)⟩ : S76)])) else (none))) else ((dioramaref01_Around.f a1 (y311.length : Int)).bind fun t318 => ((dioramaref01_Around.f a3 6).bind fun t319 => ((dioramaref01_Around.f a2 9).bind fun t320 => (if t320 = 0 then (if 0 ≤ t318 then (if t318 < (y311.length : Int) then (some (y311.set (t318 : Int).toNat (⟨wrap64 (t319 - 2), (rd_T76 y311 t318).f1, (rd_T76 y311 t318).f2, (rd_T76 y311 t318).f3, (rd_T76 y311 t318).f4, (rd_T76 y311 t318).f5⟩ : S76))) else (none)) else (none)) else (if t320 = 1 then (if 0 ≤ t318 then (if t318 < (y311.length : Int) then (some (y311.set (t318 : Int).toNat (⟨(rd_T76 y311 t318).f0, wrap64 (t319 - 2), (rd_T76 y311 t318).f2, (rd_T76 y311 t318).f3, (rd_T76 y311 t318).f4, (rd_T76 y311 t318).f5⟩ : S76))) else (none)) else (none)) else (if t320 = 2 then (if 0 ≤ t318 then (if t318 < (y311.length : Int) then (some (y311.set (t318 : Int).toNat (⟨(rd_T76 y311 t318).f0, (rd_T76 y311 t318).f1, wrap64 (t319 - 2), (rd_T76 y311 t318).f3, (rd_T76 y311 t318).f4, (rd_T76 y311 t318).f5⟩ : S76))) else (none)) else (none)) else (if t320 = 3 then (if 0 ≤ t318 then (if t318 < (y311.length : Int) then (some (y311.set (t318 : Int).toNat (⟨(rd_T76 y311 t318).f0, (rd_T76 y311 t318).f1, (rd_T76 y311 t318).f2, wrap64 (t319 - 2), (rd_T76 y311 t318).f4, (rd_T76 y311 t318).f5⟩ : S76))) else (none)) else (none)) else (if t320 = 4 then (if 0 ≤ t318 then (if t318 < (y311.length : Int) then (some (y311.set (t318 : Int).toNat (⟨(rd_T76 y311 t318).f0, (rd_T76 y311 t318).f1, (rd_T76 y311 t318).f2, (rd_T76 y311 t318).f3, wrap64 (t319 - 2), (rd_T76 y311 t318).f5⟩ : S76))) else (none)) else (none)) else (if t320 = 5 then ((some (([0, 1, 2, 3, 10, 11] : List Int) : List Int)).bind fun y326 => ((dioramaref01_Around.f a3 6).bind fun t329 => (if 0 ≤ t329 then (if t329 < (y326.length : Int) then (if 0 ≤ (rd y326 t329) then (if (rd y326 t329 : Int).toNat ≤ 35184372088832 then (if 0 ≤ t318 then (if t318 < (y311.length : Int) then (some (y311.set (t318 : Int).toNat (⟨(rd_T76 y311 t318).f0, (rd_T76 y311 t318).f1, (rd_T76 y311 t318).f2, (rd_T76 y311 t318).f3, (rd_T76 y311 t318).f4, (List.replicate (rd y326 t329 : Int).toNat 0)⟩ : S76))) else (none)) else (none)) else (none)) else (none)) else (none)) else (none)))) else (if t320 = 6 then (if 0 ≤ t318 then (if t318 ≤ (y311.length : Int) then (if 0 ≤ (wrap64 (t318 + 1)) then (if (wrap64 (t318 + 1)) ≤ (y311.length : Int) then (some (y311.eraseIdx (t318 : Int).toNat)) else (none)) else (none)) else (none)) else (none)) else (if t320 = 7 then (if 0 ≤ t318 then (if t318 < (y311.length : Int) then (if y311.length < 2199023255552 then (some (y311 ++ [(⟨(rd_T76 y311 t318).f0, (rd_T76 y311 t318).f1, (rd_T76 y311 t318).f2, (rd_T76 y311 t318).f3, (rd_T76 y311 t318).f4, (rd_T76 y311 t318).f5⟩ : S76)])) else (none)) else (none)) else (none)) else (if (wrap64 (t318 + 1)) < (y311.length : Int) then (if 0 ≤ t318 then (if t318 < (y311.length : Int) then (if 0 ≤ (wrap64 (t318 + 1)) then (some ((y311.set (t318 : Int).toNat (⟨(rd_T76 y311 (wrap64 (t318 + 1))).f0, (rd_T76 y311 (wrap64 (t318 + 1))).f1, (rd_T76 y311 (wrap64 (t318 + 1))).f2, (rd_T76 y311 (wrap64 (t318 + 1))).f3, (rd_T76 y311 (wrap64 (t318 + 1))).f4, (rd_T76 y311 (wrap64 (t318 + 1))).f5⟩ : S76)).set ((wrap64 (t318 + 1)) : Int).toNat (⟨(rd_T76 y311 t318).f0, (rd_T76 y311 t318).f1, (rd_T76 y311 t318).f2, (rd_T76 y311 t318).f3, (rd_T76 y311 t318).f4, (rd_T76 y311 t318).f5⟩ : S76))) else (none)) else (none)) else (none)) else (some y311))))))))))))))) else (none)
def dioramaref36_Bent.T25 : Bool × List (List Nat × List Nat) := (true, [([], []), ([], []), ([0, 1], [0, 1]), ([], []), ([], []), ([4], [4]), ([3, 5], [3, 5]), ([2, 6], [2, 6]), ([7, 7, 0, 1, 2, 3, 4, 5, 6, 7], [0, 3, 7])])
def dioramaref36_Bent.B25 : List Nat := [0, 0, 3, 0, 0, 16, 56, 127, 255]
theorem dioramaref36_Bent.tab25 : rtab .any (opsOf Try.f23 25) = dioramaref36_Bent.T25 := by kernel_rfl
theorem dioramaref36_Bent.bits25 : waitsOk dioramaref36_Bent.T25.2 dioramaref36_Bent.B25 = true := by kernel_rfl
set_option maxHeartbeats 8000000 in
set_option maxRecDepth 100000 in
theorem dioramaref36_Bent.calls (P0_ : Nat → Prop) (A0 : Option Addr) (c0 : Nat) (l0 : List (S76)) (a1 : Int) (a2 : Int) (a3 : Int) (r : List (S76)) (w : World) (hs0 : Kd.V k76 76 w w.heap.size (fun k_ => P0_ k_) (.slice A0 l0.length c0) l0) (h : dioramaref36_Bent.f l0 a1 a2 a3 = some r) :
  Calls Try.prog 23 #[.slice A0 l0.length c0, .int .i64 a1, .int .i64 a2, .int .i64 a3] w fun e w' => ∃ v0_ : Value, e = .returned (v0_) ∧ Kd.N k76 76 w' w.heap.size (fun k_ => (P0_ k_ ∨ w.heap.size ≤ k_)) v0_ r ∧ Below w.heap.size w w' := by
 have hu76 := Try.underlying76; have HO0 := A_ (show Kd.V k76 76 w w.heap.size (fun k_ => (P0_ k_ ∨ w.heap.size ≤ k_)) (.slice A0 l0.length c0) l0 from Kd.V_mono hs0 (fun k_ hk => .inl hk)); have HB := A_ (Below.refl w.heap.size w); have H : (if ([] : List (S76)).length + l0.length < 2199023255552 then ((some (([] : List (S76)) ++ l0 : List (S76))).bind fun y311 => (if (y311.length : Int) = 0 then ((dioramaref01_Around.f a3 5).bind fun t314 => (if y311.length < 2199023255552 then (some (y311 ++ [(⟨0, 0, wrap64 (t314 - 3), 0, 0, ([] : List Int)⟩ : S76)])) else (none))) else ((dioramaref01_Around.f a1 (y311.length : Int)).bind fun t318 => ((dioramaref01_Around.f a3 6).bind fun t319 => ((dioramaref01_Around.f a2 9).bind fun t320 => (if t320 = 0 then (if 0 ≤ t318 then (if t318 < (y311.length : Int) then (some (y311.set (t318 : Int).toNat (⟨wrap64 (t319 - 2), (rd_T76 y311 t318).f1, (rd_T76 y311 t318).f2, (rd_T76 y311 t318).f3, (rd_T76 y311 t318).f4, (rd_T76 y311 t318).f5⟩ : S76))) else (none)) else (none)) else (if t320 = 1 then (if 0 ≤ t318 then (if t318 < (y311.length : Int) then (some (y311.set (t318 : Int).toNat (⟨(rd_T76 y311 t318).f0, wrap64 (t319 - 2), (rd_T76 y311 t318).f2, (rd_T76 y311 t318).f3, (rd_T76 y311 t318).f4, (rd_T76 y311 t318).f5⟩ : S76))) else (none)) else (none)) else (if t320 = 2 then (if 0 ≤ t318 then (if t318 < (y311.length : Int) then (some (y311.set (t318 : Int).toNat (⟨(rd_T76 y311 t318).f0, (rd_T76 y311 t318).f1, wrap64 (t319 - 2), (rd_T76 y311 t318).f3, (rd_T76 y311 t318).f4, (rd_T76 y311 t318).f5⟩ : S76))) else (none)) else (none)) else (if t320 = 3 then (if 0 ≤ t318 then (if t318 < (y311.length : Int) then (some (y311.set (t318 : Int).toNat (⟨(rd_T76 y311 t318).f0, (rd_T76 y311 t318).f1, (rd_T76 y311 t318).f2, wrap64 (t319 - 2), (rd_T76 y311 t318).f4, (rd_T76 y311 t318).f5⟩ : S76))) else (none)) else (none)) else (if t320 = 4 then (if 0 ≤ t318 then (if t318 < (y311.length : Int) then (some (y311.set (t318 : Int).toNat (⟨(rd_T76 y311 t318).f0, (rd_T76 y311 t318).f1, (rd_T76 y311 t318).f2, (rd_T76 y311 t318).f3, wrap64 (t319 - 2), (rd_T76 y311 t318).f5⟩ : S76))) else (none)) else (none)) else (if t320 = 5 then ((some (([0, 1, 2, 3, 10, 11] : List Int) : List Int)).bind fun y326 => ((dioramaref01_Around.f a3 6).bind fun t329 => (if 0 ≤ t329 then (if t329 < (y326.length : Int) then (if 0 ≤ (rd y326 t329) then (if (rd y326 t329 : Int).toNat ≤ 35184372088832 then (if 0 ≤ t318 then (if t318 < (y311.length : Int) then (some (y311.set (t318 : Int).toNat (⟨(rd_T76 y311 t318).f0, (rd_T76 y311 t318).f1, (rd_T76 y311 t318).f2, (rd_T76 y311 t318).f3, (rd_T76 y311 t318).f4, (List.replicate (rd y326 t329 : Int).toNat 0)⟩ : S76))) else (none)) else (none)) else (none)) else (none)) else (none)) else (none)))) else (if t320 = 6 then (if 0 ≤ t318 then (if t318 ≤ (y311.length : Int) then (if 0 ≤ (wrap64 (t318 + 1)) then (if (wrap64 (t318 + 1)) ≤ (y311.length : Int) then (some (y311.eraseIdx (t318 : Int).toNat)) else (none)) else (none)) else (none)) else (none)) else (if t320 = 7 then (if 0 ≤ t318 then (if t318 < (y311.length : Int) then (if y311.length < 2199023255552 then (some (y311 ++ [(⟨(rd_T76 y311 t318).f0, (rd_T76 y311 t318).f1, (rd_T76 y311 t318).f2, (rd_T76 y311 t318).f3, (rd_T76 y311 t318).f4, (rd_T76 y311 t318).f5⟩ : S76)])) else (none)) else (none)) else (none)) else (if (wrap64 (t318 + 1)) < (y311.length : Int) then (if 0 ≤ t318 then (if t318 < (y311.length : Int) then (if 0 ≤ (wrap64 (t318 + 1)) then (some ((y311.set (t318 : Int).toNat (⟨(rd_T76 y311 (wrap64 (t318 + 1))).f0, (rd_T76 y311 (wrap64 (t318 + 1))).f1, (rd_T76 y311 (wrap64 (t318 + 1))).f2, (rd_T76 y311 (wrap64 (t318 + 1))).f3, (rd_T76 y311 (wrap64 (t318 + 1))).f4, (rd_T76 y311 (wrap64 (t318 + 1))).f5⟩ : S76)).set ((wrap64 (t318 + 1)) : Int).toNat (⟨(rd_T76 y311 t318).f0, (rd_T76 y311 t318).f1, (rd_T76 y311 t318).f2, (rd_T76 y311 t318).f3, (rd_T76 y311 t318).f4, (rd_T76 y311 t318).f5⟩ : S76))) else (none)) else (none)) else (none)) else (some y311))))))))))))))) else (none)) = some r := h
 clear h
 by_cases c5 : ([] : List (S76)).length + l0.length < 2199023255552
 ·rw [if_pos c5] at H
  have LMc5 := A_ c5; clear c5; obtain ⟨y311, hy311⟩ : ∃ y_ : List (S76), y_ = (([] : List (S76)) ++ l0) := ⟨_, rfl⟩; replace H : (if (y311.length : Int) = 0 then ((dioramaref01_Around.f a3 5).bind fun t314 => (if y311.length < 2199023255552 then (some (y311 ++ [(⟨0, 0, wrap64 (t314 - 3), 0, 0, ([] : List Int)⟩ : S76)])) else (none))) else ((dioramaref01_Around.f a1 (y311.length : Int)).bind fun t318 => ((dioramaref01_Around.f a3 6).bind fun t319 => ((dioramaref01_Around.f a2 9).bind fun t320 => (if t320 = 0 then (if 0 ≤ t318 then (if t318 < (y311.length : Int) then (some (y311.set (t318 : Int).toNat (⟨wrap64 (t319 - 2), (rd_T76 y311 t318).f1, (rd_T76 y311 t318).f2, (rd_T76 y311 t318).f3, (rd_T76 y311 t318).f4, (rd_T76 y311 t318).f5⟩ : S76))) else (none)) else (none)) else (if t320 = 1 then (if 0 ≤ t318 then (if t318 < (y311.length : Int) then (some (y311.set (t318 : Int).toNat (⟨(rd_T76 y311 t318).f0, wrap64 (t319 - 2), (rd_T76 y311 t318).f2, (rd_T76 y311 t318).f3, (rd_T76 y311 t318).f4, (rd_T76 y311 t318).f5⟩ : S76))) else (none)) else (none)) else (if t320 = 2 then (if 0 ≤ t318 then (if t318 < (y311.length : Int) then (some (y311.set (t318 : Int).toNat (⟨(rd_T76 y311 t318).f0, (rd_T76 y311 t318).f1, wrap64 (t319 - 2), (rd_T76 y311 t318).f3, (rd_T76 y311 t318).f4, (rd_T76 y311 t318).f5⟩ : S76))) else (none)) else (none)) else (if t320 = 3 then (if 0 ≤ t318 then (if t318 < (y311.length : Int) then (some (y311.set (t318 : Int).toNat (⟨(rd_T76 y311 t318).f0, (rd_T76 y311 t318).f1, (rd_T76 y311 t318).f2, wrap64 (t319 - 2), (rd_T76 y311 t318).f4, (rd_T76 y311 t318).f5⟩ : S76))) else (none)) else (none)) else (if t320 = 4 then (if 0 ≤ t318 then (if t318 < (y311.length : Int) then (some (y311.set (t318 : Int).toNat (⟨(rd_T76 y311 t318).f0, (rd_T76 y311 t318).f1, (rd_T76 y311 t318).f2, (rd_T76 y311 t318).f3, wrap64 (t319 - 2), (rd_T76 y311 t318).f5⟩ : S76))) else (none)) else (none)) else (if t320 = 5 then ((some (([0, 1, 2, 3, 10, 11] : List Int) : List Int)).bind fun y326 => ((dioramaref01_Around.f a3 6).bind fun t329 => (if 0 ≤ t329 then (if t329 < (y326.length : Int) then (if 0 ≤ (rd y326 t329) then (if (rd y326 t329 : Int).toNat ≤ 35184372088832 then (if 0 ≤ t318 then (if t318 < (y311.length : Int) then (some (y311.set (t318 : Int).toNat (⟨(rd_T76 y311 t318).f0, (rd_T76 y311 t318).f1, (rd_T76 y311 t318).f2, (rd_T76 y311 t318).f3, (rd_T76 y311 t318).f4, (List.replicate (rd y326 t329 : Int).toNat 0)⟩ : S76))) else (none)) else (none)) else (none)) else (none)) else (none)) else (none)))) else (if t320 = 6 then (if 0 ≤ t318 then (if t318 ≤ (y311.length : Int) then (if 0 ≤ (wrap64 (t318 + 1)) then (if (wrap64 (t318 + 1)) ≤ (y311.length : Int) then (some (y311.eraseIdx (t318 : Int).toNat)) else (none)) else (none)) else (none)) else (none)) else (if t320 = 7 then (if 0 ≤ t318 then (if t318 < (y311.length : Int) then (if y311.length < 2199023255552 then (some (y311 ++ [(⟨(rd_T76 y311 t318).f0, (rd_T76 y311 t318).f1, (rd_T76 y311 t318).f2, (rd_T76 y311 t318).f3, (rd_T76 y311 t318).f4, (rd_T76 y311 t318).f5⟩ : S76)])) else (none)) else (none)) else (none)) else (if (wrap64 (t318 + 1)) < (y311.length : Int) then (if 0 ≤ t318 then (if t318 < (y311.length : Int) then (if 0 ≤ (wrap64 (t318 + 1)) then (some ((y311.set (t318 : Int).toNat (⟨(rd_T76 y311 (wrap64 (t318 + 1))).f0, (rd_T76 y311 (wrap64 (t318 + 1))).f1, (rd_T76 y311 (wrap64 (t318 + 1))).f2, (rd_T76 y311 (wrap64 (t318 + 1))).f3, (rd_T76 y311 (wrap64 (t318 + 1))).f4, (rd_T76 y311 (wrap64 (t318 + 1))).f5⟩ : S76)).set ((wrap64 (t318 + 1)) : Int).toNat (⟨(rd_T76 y311 t318).f0, (rd_T76 y311 t318).f1, (rd_T76 y311 t318).f2, (rd_T76 y311 t318).f3, (rd_T76 y311 t318).f4, (rd_T76 y311 t318).f5⟩ : S76))) else (none)) else (none)) else (none)) else (some y311)))))))))))))) = some r := rh_ hy311 H
  have Ny311 := A_ hy311; clear hy311
  by_cases c6 : (y311.length : Int) = 0
  ·rw [if_pos c6] at H
   obtain ⟨c6b0, c6b1⟩ := be_ c6; clear c6; replace H := Option.bind_eq_some_iff.mp H; obtain ⟨t314, A70, H⟩ := H
   (try dsimp only at H)
   have A7 := A_ A70; clear A70
   by_cases c8 : y311.length < 2199023255552
   ·rw [if_pos c8] at H
    have LMc8 := A_ c8; clear c8; obtain ⟨y315, hy315⟩ : ∃ y_ : List (S76), y_ = (y311 ++ [(⟨0, 0, wrap64 (t314 - 3), 0, 0, ([] : List Int)⟩ : S76)]) := ⟨_, rfl⟩; replace H : (some y315) = some r := rh_ hy315 H; have Ny315 := A_ hy315; clear hy315; obtain rfl := Option.some.inj H
    go_enter Try.func23, Try.ntmps23
    go_wp2_with (first | ((with_reducible refine gate_builtin (b := .append) (xs := #[.tmp 13, .tmp 14]) rfl ?_); at_builtin; refine Kd.N_append_rows k76 (w0 := w) w.heap.size rfl (.tmp 13) (.tmp 14) 34 76 (.agg #[(.int .i64 0), (.int .i64 0), (.int .i64 0), (.int .i64 0), (.int .i64 0), (.slice none 0 0)]) 64 rfl Try.underlying34 info76 rfl (by decide) (by omega) (.slice none 0 0) ([] : List (S76)) l0 _ _ _ (fun k_ => (P0_ k_ ∨ w.heap.size ≤ k_)) (fun k_ => ((fun k_ => (P0_ k_ ∨ w.heap.size ≤ k_))) k_ ∧ some k_ ≠ (.slice none 0 0 : Value).ownBlock) rfl rfl ?aO ?aR (fun _ hk => hk) ?aF ?aB ?aS ?aL ?_; (case aR => exact (by skip; exact Kd.V_F (Kd.V_mono (ok' := (fun k_ => ((fun k_ => (P0_ k_ ∨ w.heap.size ≤ k_))) k_ ∧ some k_ ≠ (.slice none 0 0 : Value).ownBlock)) (HO0.out) (fun k_ hk => ⟨hk, (by simp [Value.ownBlock])⟩)))); (case aB => exact (bx_ HB)); (case aF => exact (fun k_ hk => (.inr (Nat.le_trans (below_size (bx_ HB)) hk)))); (case aO => exact ((Kd.N_nil _ _ _ _ (fun k_ => (P0_ k_ ∨ w.heap.size ≤ k_))))); (case aS => exact (below_size (bx_ HB))); (case aL => have := LMc5.out; omega); intro v312 w9 ho hb hg hat; rw [← Ny311.out] at ho; replace HO0 := A_ (Kd.V_afterv (Kd.V_apart_nil (vx_ HO0)) hg hat); replace HB := A_ (hb); have HO313 := A_ (ho); clear ho hb hg hat; obtain ⟨Ao10, co10, eo10⟩ := Kd.N_slice HO313.out; subst eo10) | ((with_reducible refine gate_callee (f := 36) rfl ?_); refine goesL_ (some 21) rfl rfl Try.func36 (by kernel_rfl) rfl #[.int .i64 a3, .int .i64 5] rfl lm_ ?_; (with_reducible refine (dioramaref01_Around.calls a3 5 t314 _ A7.out).mono ?_); rintro e w' ⟨rfl, ⟨nd, rfl⟩⟩; refine ⟨_, rfl, ?_⟩) | ((with_reducible refine gate_builtin (b := .append) (xs := #[.tmp 19, .tmp 24]) rfl ?_); at_builtin; refine Kd.N_append k76 (w0 := w) w.heap.size rfl (.tmp 19) (.tmp 24) 34 76 (.agg #[(.int .i64 0), (.int .i64 0), (.int .i64 0), (.int .i64 0), (.int .i64 0), (.slice none 0 0)]) 64 rfl Try.underlying34 info76 rfl (by decide) (by omega) (.slice Ao10 y311.length co10) y311 (⟨0, 0, wrap64 (t314 - 3), 0, 0, ([] : List Int)⟩ : S76) [.int .i64 0, .int .i64 0, .int .i64 (wrap64 (t314 - 3)), .int .i64 0, .int .i64 0, .slice none 0 0] (fun k_ => (P0_ k_ ∨ w.heap.size ≤ k_)) (fun k_ => ((fun k_ => (P0_ k_ ∨ w.heap.size ≤ k_))) k_ ∧ some k_ ≠ (.slice Ao10 y311.length co10 : Value).ownBlock) rfl rfl ?aP (fun _ hk => hk) ?aF ?aO ?aB ?aS ?aL ?_; (case aP => exact (k76_mkF _ _ (⟨0, 0, wrap64 (t314 - 3), 0, 0, ([] : List Int)⟩ : S76) (Nat.le_refl _) (Kd.F_nil _ _ _))); (case aB => exact (bx_ HB)); (case aF => exact (fun k_ hk => (.inr (Nat.le_trans (below_size (bx_ HB)) hk)))); (case aO => exact (nx_ HO313)); (case aS => exact (below_size (bx_ HB))); (case aL => have := LMc8.out; omega); intro v316 w11 ho hb hg hat; rw [← Ny315.out] at ho; have n0_ := A_ (Kd.V_afterv (ok := (fun k_ => (P0_ k_ ∨ w.heap.size ≤ k_))) (vx_ HO0) hg hat); have n1_ := A_ (hb); have n2_ := A_ (ho); clear HO0 HB HO313; have HO0 := n0_; have HB := n1_; have HO317 := n2_; clear n0_ n1_ n2_; clear ho hb hg hat))
    go_ret; exact ⟨_, ew_, by (with_reducible repeat (first | apply Kd.N_alloc | apply Kd.N_drewN | apply Kd.N_drew)); exact HO317.out, bx_ HB⟩
   (· rw [if_neg c8] at H; exact absurd H (by simp))
  ·rw [if_neg c6] at H
   obtain ⟨c6b0, c6b1⟩ := bn_ c6
   have c6b2 : ¬ (y311 = []) := fun h_ => c6 (by rw [h_]; rfl)
   replace H := Option.bind_eq_some_iff.mp H; obtain ⟨t318, A120, H⟩ := H
   (try dsimp only at H)
   have A12 := A_ A120; clear A120; replace H := Option.bind_eq_some_iff.mp H; obtain ⟨t319, A130, H⟩ := H
   (try dsimp only at H)
   have A13 := A_ A130; clear A130; replace H := Option.bind_eq_some_iff.mp H; obtain ⟨t320, A140, H⟩ := H
   (try dsimp only at H)
   have A14 := A_ A140; clear A140
   go_enter Try.func23, Try.ntmps23
   go_upto_region 12 with (first | ((with_reducible refine gate_builtin (b := .append) (xs := #[.tmp 13, .tmp 14]) rfl ?_); at_builtin; refine Kd.N_append_rows k76 (w0 := w) w.heap.size rfl (.tmp 13) (.tmp 14) 34 76 (.agg #[(.int .i64 0), (.int .i64 0), (.int .i64 0), (.int .i64 0), (.int .i64 0), (.slice none 0 0)]) 64 rfl Try.underlying34 info76 rfl (by decide) (by omega) (.slice none 0 0) ([] : List (S76)) l0 _ _ _ (fun k_ => (P0_ k_ ∨ w.heap.size ≤ k_)) (fun k_ => ((fun k_ => (P0_ k_ ∨ w.heap.size ≤ k_))) k_ ∧ some k_ ≠ (.slice none 0 0 : Value).ownBlock) rfl rfl ?aO ?aR (fun _ hk => hk) ?aF ?aB ?aS ?aL ?_; (case aR => exact (by skip; exact Kd.V_F (Kd.V_mono (ok' := (fun k_ => ((fun k_ => (P0_ k_ ∨ w.heap.size ≤ k_))) k_ ∧ some k_ ≠ (.slice none 0 0 : Value).ownBlock)) (HO0.out) (fun k_ hk => ⟨hk, (by simp [Value.ownBlock])⟩)))); (case aB => exact (bx_ HB)); (case aF => exact (fun k_ hk => (.inr (Nat.le_trans (below_size (bx_ HB)) hk)))); (case aO => exact ((Kd.N_nil _ _ _ _ (fun k_ => (P0_ k_ ∨ w.heap.size ≤ k_))))); (case aS => exact (below_size (bx_ HB))); (case aL => have := LMc5.out; omega); intro v312 w19 ho hb hg hat; rw [← Ny311.out] at ho; replace HO0 := A_ (Kd.V_afterv (Kd.V_apart_nil (vx_ HO0)) hg hat); replace HB := A_ (hb); have HO313 := A_ (ho); clear ho hb hg hat; obtain ⟨Ao20, co20, eo20⟩ := Kd.N_slice HO313.out; subst eo20) | ((with_reducible refine gate_callee (f := 36) rfl ?_); refine goesL_ (some 29) rfl rfl Try.func36 (by kernel_rfl) rfl #[.int .i64 a1, .int .i64 (y311.length : Int)] rfl lm_ ?_; (with_reducible refine (dioramaref01_Around.calls a1 (y311.length : Int) t318 _ A12.out).mono ?_); rintro e w' ⟨rfl, ⟨nd, rfl⟩⟩; refine ⟨_, rfl, ?_⟩; (try (rw [drewN_self w19]; generalize hq_ : World.drewN w19 _ = w19; have n0_ : Aside0 (Kd.V k76 76 w19 w.heap.size (fun k_ => (P0_ k_ ∨ w.heap.size ≤ k_) ∧ some k_ ≠ (.slice Ao20 y311.length co20 : Value).ownBlock) (.slice A0 l0.length c0) l0) := ⟨by rw [← hq_]; exact (vx_ HO0)⟩; have n1_ : Aside0 (Kd.N k76 76 w19 w.heap.size (fun k_ => (P0_ k_ ∨ w.heap.size ≤ k_)) (.slice Ao20 y311.length co20) y311) := ⟨by rw [← hq_]; exact (nx_ HO313)⟩; have n2_ : Aside0 (Below w.heap.size w w19) := ⟨by rw [← hq_]; exact (bx_ HB)⟩; clear HO0 HO313 HB hq_; have HO0 := n0_; have HO313 := n1_; have HB := n2_; clear n0_ n1_ n2_))) | ((with_reducible refine gate_callee (f := 36) rfl ?_); refine goesL_ (some 31) rfl rfl Try.func36 (by kernel_rfl) rfl #[.int .i64 a3, .int .i64 6] rfl lm_ ?_; (with_reducible refine (dioramaref01_Around.calls a3 6 t319 _ A13.out).mono ?_); rintro e w' ⟨rfl, ⟨nd, rfl⟩⟩; refine ⟨_, rfl, ?_⟩; (try (rw [drewN_self w19]; generalize hq_ : World.drewN w19 _ = w19; have n0_ : Aside0 (Kd.V k76 76 w19 w.heap.size (fun k_ => (P0_ k_ ∨ w.heap.size ≤ k_) ∧ some k_ ≠ (.slice Ao20 y311.length co20 : Value).ownBlock) (.slice A0 l0.length c0) l0) := ⟨by rw [← hq_]; exact (vx_ HO0)⟩; have n1_ : Aside0 (Kd.N k76 76 w19 w.heap.size (fun k_ => (P0_ k_ ∨ w.heap.size ≤ k_)) (.slice Ao20 y311.length co20) y311) := ⟨by rw [← hq_]; exact (nx_ HO313)⟩; have n2_ : Aside0 (Below w.heap.size w w19) := ⟨by rw [← hq_]; exact (bx_ HB)⟩; clear HO0 HO313 HB hq_; have HO0 := n0_; have HO313 := n1_; have HB := n2_; clear n0_ n1_ n2_))) | ((with_reducible refine gate_callee (f := 36) rfl ?_); refine goesL_ (some 34) rfl rfl Try.func36 (by kernel_rfl) rfl #[.int .i64 a2, .int .i64 9] rfl lm_ ?_; (with_reducible refine (dioramaref01_Around.calls a2 9 t320 _ A14.out).mono ?_); rintro e w' ⟨rfl, ⟨nd, rfl⟩⟩; refine ⟨_, rfl, ?_⟩; (try (rw [drewN_self w19]; generalize hq_ : World.drewN w19 _ = w19; have n0_ : Aside0 (Kd.V k76 76 w19 w.heap.size (fun k_ => (P0_ k_ ∨ w.heap.size ≤ k_) ∧ some k_ ≠ (.slice Ao20 y311.length co20 : Value).ownBlock) (.slice A0 l0.length c0) l0) := ⟨by rw [← hq_]; exact (vx_ HO0)⟩; have n1_ : Aside0 (Kd.N k76 76 w19 w.heap.size (fun k_ => (P0_ k_ ∨ w.heap.size ≤ k_)) (.slice Ao20 y311.length co20) y311) := ⟨by rw [← hq_]; exact (nx_ HO313)⟩; have n2_ : Aside0 (Below w.heap.size w w19) := ⟨by rw [← hq_]; exact (bx_ HB)⟩; clear HO0 HO313 HB hq_; have HO0 := n0_; have HO313 := n1_; have HB := n2_; clear n0_ n1_ n2_))))
   by_cases c15 : t320 = 0
   ·rw [if_pos c15] at H
    obtain ⟨c15b0, c15b1⟩ := be_ c15; clear c15
    by_cases c16 : 0 ≤ t318
    ·rw [if_pos c16] at H
     have c16b0 := decide_eq_true c16; clear c16
     by_cases c17 : t318 < (y311.length : Int)
     ·rw [if_pos c17] at H
      have c17b0 := decide_eq_true c17; clear c17; obtain ⟨y321, hy321⟩ : ∃ y_ : List (S76), y_ = (y311.set (t318 : Int).toNat (⟨wrap64 (t319 - 2), (rd_T76 y311 t318).f1, (rd_T76 y311 t318).f2, (rd_T76 y311 t318).f3, (rd_T76 y311 t318).f4, (rd_T76 y311 t318).f5⟩ : S76)) := ⟨_, rfl⟩; replace H : (some y321) = some r := rh_ hy321 H; have Ny321 := A_ hy321; clear hy321; obtain rfl := Option.some.inj H; have p18 : 0 ≤ (t318 : Int) := od_; have q18 : (t318 : Int) < ((y311.length : Int) : Int) := od_; obtain ⟨go18, co18, eo18, gb18, gl18, cl18, HG18⟩ := Kd.N_form HO313.out (by omega)
      (first | cases eo18 | (injection eo18 with ea_ en_ ec_; (first | subst ea_ | (injection ea_ with ea_; subst ea_)); subst ec_; clear en_))
      have GB18 := A_ gb18; have GG18 := A_ HG18; clear gb18 gl18 HG18; obtain ⟨ce18, hcl18, hM18, hcc18, hfr18⟩ := Kd.N_elem HO313.out z76 (t318 : Int) p18 q18; obtain ⟨ua18_5, uc18_5, rfl, ul18_5, ge18_5⟩ := k76_openF hM18; have hx18_0 : w19.cell? ⟨go18, (t318 : Int).toNat * 6, none⟩ = some (.int .i64 ((rd_T76 y311 t318).f0)) := hcc18 0 _ rfl; have hx18_1 : w19.cell? ⟨go18, (t318 : Int).toNat * 6 + 1, none⟩ = some (.int .i64 ((rd_T76 y311 t318).f1)) := hcc18 1 _ rfl; have hx18_2 : w19.cell? ⟨go18, (t318 : Int).toNat * 6 + 2, none⟩ = some (.int .i64 ((rd_T76 y311 t318).f2)) := hcc18 2 _ rfl; have hx18_3 : w19.cell? ⟨go18, (t318 : Int).toNat * 6 + 3, none⟩ = some (.int .i64 ((rd_T76 y311 t318).f3)) := hcc18 3 _ rfl; have hx18_4 : w19.cell? ⟨go18, (t318 : Int).toNat * 6 + 4, none⟩ = some (.int .i64 ((rd_T76 y311 t318).f4)) := hcc18 4 _ rfl; have hx18_5 : w19.cell? ⟨go18, (t318 : Int).toNat * 6 + 5, none⟩ = some (.slice ua18_5 ((rd_T76 y311 t318).f5).length uc18_5) := hcc18 5 _ rfl; have hf18_0 : w19.frozen? ⟨go18, (t318 : Int).toNat * 6, none⟩ = false := hfr18 0; have hf18_1 : w19.frozen? ⟨go18, (t318 : Int).toNat * 6 + 1, none⟩ = false := hfr18 1; have hf18_2 : w19.frozen? ⟨go18, (t318 : Int).toNat * 6 + 2, none⟩ = false := hfr18 2; have hf18_3 : w19.frozen? ⟨go18, (t318 : Int).toNat * 6 + 3, none⟩ = false := hfr18 3; have hf18_4 : w19.frozen? ⟨go18, (t318 : Int).toNat * 6 + 4, none⟩ = false := hfr18 4; have hf18_5 : w19.frozen? ⟨go18, (t318 : Int).toNat * 6 + 5, none⟩ = false := hfr18 5; clear hcl18 hcc18 hfr18 hM18; replace p18 := eq_true p18; replace q18 := eq_true q18; have HX21 := A_ (show Kd.N k76 76 w19 w.heap.size (fun k_ => (P0_ k_ ∨ w.heap.size ≤ k_)) (.slice (some ⟨go18, 0, none⟩) y311.length co20) y311 from (nx_ HO313)); obtain ⟨ce21, hcl21, hM21, hcc21, hfr21⟩ := Kd.N_elem HX21.out z76 (t318 : Int) (od_) (by have h_ : (t318 : Int) < ((y311.length : Int) : Int) := od_; first | exact h_ | (have e_ := (Kd.N_reads' HO313.out).1; omega) | simpa using h_); obtain ⟨ua21_5, uc21_5, rfl, ul21_5, ge21_5⟩ := k76_openF hM21; have HP21 := Kd.N_seg HX21.out (t318 : Int) (od_) (by have h_ : (t318 : Int) < ((y311.length : Int) : Int) := od_; first | exact h_ | (have e_ := (Kd.N_reads' HO313.out).1; omega) | simpa using h_) (seg := [.int .i64 (wrap64 (t319 - 2))]) (j := 0) hcl21 hcc21 (show 1 ≤ 6 from by decide) (x' := (⟨wrap64 (t319 - 2), (rd_T76 y311 t318).f1, (rd_T76 y311 t318).f2, (rd_T76 y311 t318).f3, (rd_T76 y311 t318).f4, (rd_T76 y311 t318).f5⟩ : S76)) (k76_mkF _ _ (⟨wrap64 (t319 - 2), (rd_T76 y311 t318).f1, (rd_T76 y311 t318).f2, (rd_T76 y311 t318).f3, (rd_T76 y311 t318).f4, (rd_T76 y311 t318).f5⟩ : S76) ul21_5 ge21_5) (fun _ hk => hk); have hx21_0 := hcc21 0 _ rfl
      (try simp only [show (k76).sz = 6 from rfl, Nat.mul_one, Nat.add_zero] at hx21_0)
      have hf21_0 := hfr21 0
      (try simp only [show (k76).sz = 6 from rfl, Nat.mul_one, Nat.add_zero] at hf21_0)
      clear hcl21 hcc21 hfr21 hM21
      go_wp2_with (first | ((with_reducible refine gate_store (t := 3) (p := 63) rfl ?_); refine store_event (t := 3) (p := 63) (v := ?vo_w22) (w1 := (w19.setCell ⟨go18, (t318 : Int).toNat * 6, none⟩ (.int .i64 (wrap64 (t319 - 2))))) ?hg ?ho ?hn ?hr ?_; (case ho => rfl); (case hg => rfl); (case hn => rfl); (case hr => first | (go_simp; done) | (go_simp; rfl)); intro w22 hw; have hg : w19.grownBy w22 (some go18) := (by rw [hw]; exact HP21.2); have hp_ : Kd.N k76 76 w22 w.heap.size (fun k_ => (P0_ k_ ∨ w.heap.size ≤ k_)) (.slice (some ⟨go18, 0, none⟩) y311.length co20) y321 := (by rw [hw, Ny321.out]; exact HP21.1); clear HP21; replace HO0 := A_ (Kd.V_afterv (v := (.slice (some ⟨go18, 0, none⟩) y311.length co20)) (v1 := (.slice (some ⟨go18, 0, none⟩) y311.length co20)) (ok := (fun k_ => (P0_ k_ ∨ w.heap.size ≤ k_))) (vx_ HO0) hg (.inl rfl)); replace HO313 := A_ (hp_); replace HB := A_ ((by rw [hw]; exact below_set (HB.out) GB18.out : Below w.heap.size w w22)); clear hg hw hp_))
      go_ret; exact ⟨_, ew_, by (with_reducible repeat (first | apply Kd.N_alloc | apply Kd.N_drewN | apply Kd.N_drew)); exact HO313.out, bx_ HB⟩
     (· rw [if_neg c17] at H; exact absurd H (by simp))
    (· rw [if_neg c16] at H; exact absurd H (by simp))
   ·rw [if_neg c15] at H
    obtain ⟨c15b0, c15b1⟩ := bn_ c15
    by_cases c23 : t320 = 1
    ·rw [if_pos c23] at H
     obtain ⟨c23b0, c23b1⟩ := be_ c23; clear c23
     by_cases c24 : 0 ≤ t318
     ·rw [if_pos c24] at H
      have c24b0 := decide_eq_true c24; clear c24
      by_cases c25 : t318 < (y311.length : Int)
      ·rw [if_pos c25] at H
       have c25b0 := decide_eq_true c25; clear c25; obtain ⟨y322, hy322⟩ : ∃ y_ : List (S76), y_ = (y311.set (t318 : Int).toNat (⟨(rd_T76 y311 t318).f0, wrap64 (t319 - 2), (rd_T76 y311 t318).f2, (rd_T76 y311 t318).f3, (rd_T76 y311 t318).f4, (rd_T76 y311 t318).f5⟩ : S76)) := ⟨_, rfl⟩; replace H : (some y322) = some r := rh_ hy322 H; have Ny322 := A_ hy322; clear hy322; obtain rfl := Option.some.inj H; have p26 : 0 ≤ (t318 : Int) := od_; have q26 : (t318 : Int) < ((y311.length : Int) : Int) := od_; obtain ⟨go26, co26, eo26, gb26, gl26, cl26, HG26⟩ := Kd.N_form HO313.out (by omega)
       (first | cases eo26 | (injection eo26 with ea_ en_ ec_; (first | subst ea_ | (injection ea_ with ea_; subst ea_)); subst ec_; clear en_))
       have GB26 := A_ gb26; have GG26 := A_ HG26; clear gb26 gl26 HG26; obtain ⟨ce26, hcl26, hM26, hcc26, hfr26⟩ := Kd.N_elem HO313.out z76 (t318 : Int) p26 q26; obtain ⟨ua26_5, uc26_5, rfl, ul26_5, ge26_5⟩ := k76_openF hM26; have hx26_0 : w19.cell? ⟨go26, (t318 : Int).toNat * 6, none⟩ = some (.int .i64 ((rd_T76 y311 t318).f0)) := hcc26 0 _ rfl; have hx26_1 : w19.cell? ⟨go26, (t318 : Int).toNat * 6 + 1, none⟩ = some (.int .i64 ((rd_T76 y311 t318).f1)) := hcc26 1 _ rfl; have hx26_2 : w19.cell? ⟨go26, (t318 : Int).toNat * 6 + 2, none⟩ = some (.int .i64 ((rd_T76 y311 t318).f2)) := hcc26 2 _ rfl; have hx26_3 : w19.cell? ⟨go26, (t318 : Int).toNat * 6 + 3, none⟩ = some (.int .i64 ((rd_T76 y311 t318).f3)) := hcc26 3 _ rfl; have hx26_4 : w19.cell? ⟨go26, (t318 : Int).toNat * 6 + 4, none⟩ = some (.int .i64 ((rd_T76 y311 t318).f4)) := hcc26 4 _ rfl; have hx26_5 : w19.cell? ⟨go26, (t318 : Int).toNat * 6 + 5, none⟩ = some (.slice ua26_5 ((rd_T76 y311 t318).f5).length uc26_5) := hcc26 5 _ rfl; have hf26_0 : w19.frozen? ⟨go26, (t318 : Int).toNat * 6, none⟩ = false := hfr26 0; have hf26_1 : w19.frozen? ⟨go26, (t318 : Int).toNat * 6 + 1, none⟩ = false := hfr26 1; have hf26_2 : w19.frozen? ⟨go26, (t318 : Int).toNat * 6 + 2, none⟩ = false := hfr26 2; have hf26_3 : w19.frozen? ⟨go26, (t318 : Int).toNat * 6 + 3, none⟩ = false := hfr26 3; have hf26_4 : w19.frozen? ⟨go26, (t318 : Int).toNat * 6 + 4, none⟩ = false := hfr26 4; have hf26_5 : w19.frozen? ⟨go26, (t318 : Int).toNat * 6 + 5, none⟩ = false := hfr26 5; clear hcl26 hcc26 hfr26 hM26; replace p26 := eq_true p26; replace q26 := eq_true q26; have HX29 := A_ (show Kd.N k76 76 w19 w.heap.size (fun k_ => (P0_ k_ ∨ w.heap.size ≤ k_)) (.slice (some ⟨go26, 0, none⟩) y311.length co20) y311 from (nx_ HO313)); obtain ⟨ce29, hcl29, hM29, hcc29, hfr29⟩ := Kd.N_elem HX29.out z76 (t318 : Int) (od_) (by have h_ : (t318 : Int) < ((y311.length : Int) : Int) := od_; first | exact h_ | (have e_ := (Kd.N_reads' HO313.out).1; omega) | simpa using h_); obtain ⟨ua29_5, uc29_5, rfl, ul29_5, ge29_5⟩ := k76_openF hM29; have HP29 := Kd.N_seg HX29.out (t318 : Int) (od_) (by have h_ : (t318 : Int) < ((y311.length : Int) : Int) := od_; first | exact h_ | (have e_ := (Kd.N_reads' HO313.out).1; omega) | simpa using h_) (seg := [.int .i64 (wrap64 (t319 - 2))]) (j := 1) hcl29 hcc29 (show 2 ≤ 6 from by decide) (x' := (⟨(rd_T76 y311 t318).f0, wrap64 (t319 - 2), (rd_T76 y311 t318).f2, (rd_T76 y311 t318).f3, (rd_T76 y311 t318).f4, (rd_T76 y311 t318).f5⟩ : S76)) (k76_mkF _ _ (⟨(rd_T76 y311 t318).f0, wrap64 (t319 - 2), (rd_T76 y311 t318).f2, (rd_T76 y311 t318).f3, (rd_T76 y311 t318).f4, (rd_T76 y311 t318).f5⟩ : S76) ul29_5 ge29_5) (fun _ hk => hk); have hx29_1 := hcc29 1 _ rfl
       (try simp only [show (k76).sz = 6 from rfl, Nat.mul_one, Nat.add_zero] at hx29_1)
       have hf29_1 := hfr29 1
       (try simp only [show (k76).sz = 6 from rfl, Nat.mul_one, Nat.add_zero] at hf29_1)
       clear hcl29 hcc29 hfr29 hM29
       go_wp2_with (first | ((with_reducible refine gate_store (t := 3) (p := 70) rfl ?_); refine store_event (t := 3) (p := 70) (v := ?vo_w30) (w1 := (w19.setCell ⟨go26, (t318 : Int).toNat * 6 + 1, none⟩ (.int .i64 (wrap64 (t319 - 2))))) ?hg ?ho ?hn ?hr ?_; (case ho => rfl); (case hg => rfl); (case hn => rfl); (case hr => first | (go_simp; done) | (go_simp; rfl)); intro w30 hw; have hg : w19.grownBy w30 (some go26) := (by rw [hw]; exact HP29.2); have hp_ : Kd.N k76 76 w30 w.heap.size (fun k_ => (P0_ k_ ∨ w.heap.size ≤ k_)) (.slice (some ⟨go26, 0, none⟩) y311.length co20) y322 := (by rw [hw, Ny322.out]; exact HP29.1); clear HP29; replace HO0 := A_ (Kd.V_afterv (v := (.slice (some ⟨go26, 0, none⟩) y311.length co20)) (v1 := (.slice (some ⟨go26, 0, none⟩) y311.length co20)) (ok := (fun k_ => (P0_ k_ ∨ w.heap.size ≤ k_))) (vx_ HO0) hg (.inl rfl)); replace HO313 := A_ (hp_); replace HB := A_ ((by rw [hw]; exact below_set (HB.out) GB26.out : Below w.heap.size w w30)); clear hg hw hp_))
       go_ret; exact ⟨_, ew_, by (with_reducible repeat (first | apply Kd.N_alloc | apply Kd.N_drewN | apply Kd.N_drew)); exact HO313.out, bx_ HB⟩
      (· rw [if_neg c25] at H; exact absurd H (by simp))
     (· rw [if_neg c24] at H; exact absurd H (by simp))
    ·rw [if_neg c23] at H
     obtain ⟨c23b0, c23b1⟩ := bn_ c23
     by_cases c31 : t320 = 2
     ·rw [if_pos c31] at H
      obtain ⟨c31b0, c31b1⟩ := be_ c31; clear c31
      by_cases c32 : 0 ≤ t318
      ·rw [if_pos c32] at H
       have c32b0 := decide_eq_true c32; clear c32
       by_cases c33 : t318 < (y311.length : Int)
       ·rw [if_pos c33] at H
        have c33b0 := decide_eq_true c33; clear c33; obtain ⟨y323, hy323⟩ : ∃ y_ : List (S76), y_ = (y311.set (t318 : Int).toNat (⟨(rd_T76 y311 t318).f0, (rd_T76 y311 t318).f1, wrap64 (t319 - 2), (rd_T76 y311 t318).f3, (rd_T76 y311 t318).f4, (rd_T76 y311 t318).f5⟩ : S76)) := ⟨_, rfl⟩; replace H : (some y323) = some r := rh_ hy323 H; have Ny323 := A_ hy323; clear hy323; obtain rfl := Option.some.inj H; have p34 : 0 ≤ (t318 : Int) := od_; have q34 : (t318 : Int) < ((y311.length : Int) : Int) := od_; obtain ⟨go34, co34, eo34, gb34, gl34, cl34, HG34⟩ := Kd.N_form HO313.out (by omega)
        (first | cases eo34 | (injection eo34 with ea_ en_ ec_; (first | subst ea_ | (injection ea_ with ea_; subst ea_)); subst ec_; clear en_))
        have GB34 := A_ gb34; have GG34 := A_ HG34; clear gb34 gl34 HG34; obtain ⟨ce34, hcl34, hM34, hcc34, hfr34⟩ := Kd.N_elem HO313.out z76 (t318 : Int) p34 q34; obtain ⟨ua34_5, uc34_5, rfl, ul34_5, ge34_5⟩ := k76_openF hM34; have hx34_0 : w19.cell? ⟨go34, (t318 : Int).toNat * 6, none⟩ = some (.int .i64 ((rd_T76 y311 t318).f0)) := hcc34 0 _ rfl; have hx34_1 : w19.cell? ⟨go34, (t318 : Int).toNat * 6 + 1, none⟩ = some (.int .i64 ((rd_T76 y311 t318).f1)) := hcc34 1 _ rfl; have hx34_2 : w19.cell? ⟨go34, (t318 : Int).toNat * 6 + 2, none⟩ = some (.int .i64 ((rd_T76 y311 t318).f2)) := hcc34 2 _ rfl; have hx34_3 : w19.cell? ⟨go34, (t318 : Int).toNat * 6 + 3, none⟩ = some (.int .i64 ((rd_T76 y311 t318).f3)) := hcc34 3 _ rfl; have hx34_4 : w19.cell? ⟨go34, (t318 : Int).toNat * 6 + 4, none⟩ = some (.int .i64 ((rd_T76 y311 t318).f4)) := hcc34 4 _ rfl; have hx34_5 : w19.cell? ⟨go34, (t318 : Int).toNat * 6 + 5, none⟩ = some (.slice ua34_5 ((rd_T76 y311 t318).f5).length uc34_5) := hcc34 5 _ rfl; have hf34_0 : w19.frozen? ⟨go34, (t318 : Int).toNat * 6, none⟩ = false := hfr34 0; have hf34_1 : w19.frozen? ⟨go34, (t318 : Int).toNat * 6 + 1, none⟩ = false := hfr34 1; have hf34_2 : w19.frozen? ⟨go34, (t318 : Int).toNat * 6 + 2, none⟩ = false := hfr34 2; have hf34_3 : w19.frozen? ⟨go34, (t318 : Int).toNat * 6 + 3, none⟩ = false := hfr34 3; have hf34_4 : w19.frozen? ⟨go34, (t318 : Int).toNat * 6 + 4, none⟩ = false := hfr34 4; have hf34_5 : w19.frozen? ⟨go34, (t318 : Int).toNat * 6 + 5, none⟩ = false := hfr34 5; clear hcl34 hcc34 hfr34 hM34; replace p34 := eq_true p34; replace q34 := eq_true q34; have HX37 := A_ (show Kd.N k76 76 w19 w.heap.size (fun k_ => (P0_ k_ ∨ w.heap.size ≤ k_)) (.slice (some ⟨go34, 0, none⟩) y311.length co20) y311 from (nx_ HO313)); obtain ⟨ce37, hcl37, hM37, hcc37, hfr37⟩ := Kd.N_elem HX37.out z76 (t318 : Int) (od_) (by have h_ : (t318 : Int) < ((y311.length : Int) : Int) := od_; first | exact h_ | (have e_ := (Kd.N_reads' HO313.out).1; omega) | simpa using h_); obtain ⟨ua37_5, uc37_5, rfl, ul37_5, ge37_5⟩ := k76_openF hM37; have HP37 := Kd.N_seg HX37.out (t318 : Int) (od_) (by have h_ : (t318 : Int) < ((y311.length : Int) : Int) := od_; first | exact h_ | (have e_ := (Kd.N_reads' HO313.out).1; omega) | simpa using h_) (seg := [.int .i64 (wrap64 (t319 - 2))]) (j := 2) hcl37 hcc37 (show 3 ≤ 6 from by decide) (x' := (⟨(rd_T76 y311 t318).f0, (rd_T76 y311 t318).f1, wrap64 (t319 - 2), (rd_T76 y311 t318).f3, (rd_T76 y311 t318).f4, (rd_T76 y311 t318).f5⟩ : S76)) (k76_mkF _ _ (⟨(rd_T76 y311 t318).f0, (rd_T76 y311 t318).f1, wrap64 (t319 - 2), (rd_T76 y311 t318).f3, (rd_T76 y311 t318).f4, (rd_T76 y311 t318).f5⟩ : S76) ul37_5 ge37_5) (fun _ hk => hk); have hx37_2 := hcc37 2 _ rfl
        (try simp only [show (k76).sz = 6 from rfl, Nat.mul_one, Nat.add_zero] at hx37_2)
        have hf37_2 := hfr37 2
        (try simp only [show (k76).sz = 6 from rfl, Nat.mul_one, Nat.add_zero] at hf37_2)
        clear hcl37 hcc37 hfr37 hM37
        go_wp2_with (first | ((with_reducible refine gate_store (t := 3) (p := 77) rfl ?_); refine store_event (t := 3) (p := 77) (v := ?vo_w38) (w1 := (w19.setCell ⟨go34, (t318 : Int).toNat * 6 + 2, none⟩ (.int .i64 (wrap64 (t319 - 2))))) ?hg ?ho ?hn ?hr ?_; (case ho => rfl); (case hg => rfl); (case hn => rfl); (case hr => first | (go_simp; done) | (go_simp; rfl)); intro w38 hw; have hg : w19.grownBy w38 (some go34) := (by rw [hw]; exact HP37.2); have hp_ : Kd.N k76 76 w38 w.heap.size (fun k_ => (P0_ k_ ∨ w.heap.size ≤ k_)) (.slice (some ⟨go34, 0, none⟩) y311.length co20) y323 := (by rw [hw, Ny323.out]; exact HP37.1); clear HP37; replace HO0 := A_ (Kd.V_afterv (v := (.slice (some ⟨go34, 0, none⟩) y311.length co20)) (v1 := (.slice (some ⟨go34, 0, none⟩) y311.length co20)) (ok := (fun k_ => (P0_ k_ ∨ w.heap.size ≤ k_))) (vx_ HO0) hg (.inl rfl)); replace HO313 := A_ (hp_); replace HB := A_ ((by rw [hw]; exact below_set (HB.out) GB34.out : Below w.heap.size w w38)); clear hg hw hp_))
        go_ret; exact ⟨_, ew_, by (with_reducible repeat (first | apply Kd.N_alloc | apply Kd.N_drewN | apply Kd.N_drew)); exact HO313.out, bx_ HB⟩
       (· rw [if_neg c33] at H; exact absurd H (by simp))
      (· rw [if_neg c32] at H; exact absurd H (by simp))
     ·rw [if_neg c31] at H
      obtain ⟨c31b0, c31b1⟩ := bn_ c31
      by_cases c39 : t320 = 3
      ·rw [if_pos c39] at H
       obtain ⟨c39b0, c39b1⟩ := be_ c39; clear c39
       by_cases c40 : 0 ≤ t318
       ·rw [if_pos c40] at H
        have c40b0 := decide_eq_true c40; clear c40
        by_cases c41 : t318 < (y311.length : Int)
        ·rw [if_pos c41] at H
         have c41b0 := decide_eq_true c41; clear c41; obtain ⟨y324, hy324⟩ : ∃ y_ : List (S76), y_ = (y311.set (t318 : Int).toNat (⟨(rd_T76 y311 t318).f0, (rd_T76 y311 t318).f1, (rd_T76 y311 t318).f2, wrap64 (t319 - 2), (rd_T76 y311 t318).f4, (rd_T76 y311 t318).f5⟩ : S76)) := ⟨_, rfl⟩; replace H : (some y324) = some r := rh_ hy324 H; have Ny324 := A_ hy324; clear hy324; obtain rfl := Option.some.inj H; have p42 : 0 ≤ (t318 : Int) := od_; have q42 : (t318 : Int) < ((y311.length : Int) : Int) := od_; obtain ⟨go42, co42, eo42, gb42, gl42, cl42, HG42⟩ := Kd.N_form HO313.out (by omega)
         (first | cases eo42 | (injection eo42 with ea_ en_ ec_; (first | subst ea_ | (injection ea_ with ea_; subst ea_)); subst ec_; clear en_))
         have GB42 := A_ gb42; have GG42 := A_ HG42; clear gb42 gl42 HG42; obtain ⟨ce42, hcl42, hM42, hcc42, hfr42⟩ := Kd.N_elem HO313.out z76 (t318 : Int) p42 q42; obtain ⟨ua42_5, uc42_5, rfl, ul42_5, ge42_5⟩ := k76_openF hM42; have hx42_0 : w19.cell? ⟨go42, (t318 : Int).toNat * 6, none⟩ = some (.int .i64 ((rd_T76 y311 t318).f0)) := hcc42 0 _ rfl; have hx42_1 : w19.cell? ⟨go42, (t318 : Int).toNat * 6 + 1, none⟩ = some (.int .i64 ((rd_T76 y311 t318).f1)) := hcc42 1 _ rfl; have hx42_2 : w19.cell? ⟨go42, (t318 : Int).toNat * 6 + 2, none⟩ = some (.int .i64 ((rd_T76 y311 t318).f2)) := hcc42 2 _ rfl; have hx42_3 : w19.cell? ⟨go42, (t318 : Int).toNat * 6 + 3, none⟩ = some (.int .i64 ((rd_T76 y311 t318).f3)) := hcc42 3 _ rfl; have hx42_4 : w19.cell? ⟨go42, (t318 : Int).toNat * 6 + 4, none⟩ = some (.int .i64 ((rd_T76 y311 t318).f4)) := hcc42 4 _ rfl; have hx42_5 : w19.cell? ⟨go42, (t318 : Int).toNat * 6 + 5, none⟩ = some (.slice ua42_5 ((rd_T76 y311 t318).f5).length uc42_5) := hcc42 5 _ rfl; have hf42_0 : w19.frozen? ⟨go42, (t318 : Int).toNat * 6, none⟩ = false := hfr42 0; have hf42_1 : w19.frozen? ⟨go42, (t318 : Int).toNat * 6 + 1, none⟩ = false := hfr42 1; have hf42_2 : w19.frozen? ⟨go42, (t318 : Int).toNat * 6 + 2, none⟩ = false := hfr42 2; have hf42_3 : w19.frozen? ⟨go42, (t318 : Int).toNat * 6 + 3, none⟩ = false := hfr42 3; have hf42_4 : w19.frozen? ⟨go42, (t318 : Int).toNat * 6 + 4, none⟩ = false := hfr42 4; have hf42_5 : w19.frozen? ⟨go42, (t318 : Int).toNat * 6 + 5, none⟩ = false := hfr42 5; clear hcl42 hcc42 hfr42 hM42; replace p42 := eq_true p42; replace q42 := eq_true q42; have HX45 := A_ (show Kd.N k76 76 w19 w.heap.size (fun k_ => (P0_ k_ ∨ w.heap.size ≤ k_)) (.slice (some ⟨go42, 0, none⟩) y311.length co20) y311 from (nx_ HO313)); obtain ⟨ce45, hcl45, hM45, hcc45, hfr45⟩ := Kd.N_elem HX45.out z76 (t318 : Int) (od_) (by have h_ : (t318 : Int) < ((y311.length : Int) : Int) := od_; first | exact h_ | (have e_ := (Kd.N_reads' HO313.out).1; omega) | simpa using h_); obtain ⟨ua45_5, uc45_5, rfl, ul45_5, ge45_5⟩ := k76_openF hM45; have HP45 := Kd.N_seg HX45.out (t318 : Int) (od_) (by have h_ : (t318 : Int) < ((y311.length : Int) : Int) := od_; first | exact h_ | (have e_ := (Kd.N_reads' HO313.out).1; omega) | simpa using h_) (seg := [.int .i64 (wrap64 (t319 - 2))]) (j := 3) hcl45 hcc45 (show 4 ≤ 6 from by decide) (x' := (⟨(rd_T76 y311 t318).f0, (rd_T76 y311 t318).f1, (rd_T76 y311 t318).f2, wrap64 (t319 - 2), (rd_T76 y311 t318).f4, (rd_T76 y311 t318).f5⟩ : S76)) (k76_mkF _ _ (⟨(rd_T76 y311 t318).f0, (rd_T76 y311 t318).f1, (rd_T76 y311 t318).f2, wrap64 (t319 - 2), (rd_T76 y311 t318).f4, (rd_T76 y311 t318).f5⟩ : S76) ul45_5 ge45_5) (fun _ hk => hk); have hx45_3 := hcc45 3 _ rfl
         (try simp only [show (k76).sz = 6 from rfl, Nat.mul_one, Nat.add_zero] at hx45_3)
         have hf45_3 := hfr45 3
         (try simp only [show (k76).sz = 6 from rfl, Nat.mul_one, Nat.add_zero] at hf45_3)
         clear hcl45 hcc45 hfr45 hM45
         go_wp2_with (first | ((with_reducible refine gate_store (t := 3) (p := 84) rfl ?_); refine store_event (t := 3) (p := 84) (v := ?vo_w46) (w1 := (w19.setCell ⟨go42, (t318 : Int).toNat * 6 + 3, none⟩ (.int .i64 (wrap64 (t319 - 2))))) ?hg ?ho ?hn ?hr ?_; (case ho => rfl); (case hg => rfl); (case hn => rfl); (case hr => first | (go_simp; done) | (go_simp; rfl)); intro w46 hw; have hg : w19.grownBy w46 (some go42) := (by rw [hw]; exact HP45.2); have hp_ : Kd.N k76 76 w46 w.heap.size (fun k_ => (P0_ k_ ∨ w.heap.size ≤ k_)) (.slice (some ⟨go42, 0, none⟩) y311.length co20) y324 := (by rw [hw, Ny324.out]; exact HP45.1); clear HP45; replace HO0 := A_ (Kd.V_afterv (v := (.slice (some ⟨go42, 0, none⟩) y311.length co20)) (v1 := (.slice (some ⟨go42, 0, none⟩) y311.length co20)) (ok := (fun k_ => (P0_ k_ ∨ w.heap.size ≤ k_))) (vx_ HO0) hg (.inl rfl)); replace HO313 := A_ (hp_); replace HB := A_ ((by rw [hw]; exact below_set (HB.out) GB42.out : Below w.heap.size w w46)); clear hg hw hp_))
         go_ret; exact ⟨_, ew_, by (with_reducible repeat (first | apply Kd.N_alloc | apply Kd.N_drewN | apply Kd.N_drew)); exact HO313.out, bx_ HB⟩
        (· rw [if_neg c41] at H; exact absurd H (by simp))
       (· rw [if_neg c40] at H; exact absurd H (by simp))
      ·rw [if_neg c39] at H
       obtain ⟨c39b0, c39b1⟩ := bn_ c39
       by_cases c47 : t320 = 4
       ·rw [if_pos c47] at H
        obtain ⟨c47b0, c47b1⟩ := be_ c47; clear c47
        by_cases c48 : 0 ≤ t318
        ·rw [if_pos c48] at H
         have c48b0 := decide_eq_true c48; clear c48
         by_cases c49 : t318 < (y311.length : Int)
         ·rw [if_pos c49] at H
          have c49b0 := decide_eq_true c49; clear c49; obtain ⟨y325, hy325⟩ : ∃ y_ : List (S76), y_ = (y311.set (t318 : Int).toNat (⟨(rd_T76 y311 t318).f0, (rd_T76 y311 t318).f1, (rd_T76 y311 t318).f2, (rd_T76 y311 t318).f3, wrap64 (t319 - 2), (rd_T76 y311 t318).f5⟩ : S76)) := ⟨_, rfl⟩; replace H : (some y325) = some r := rh_ hy325 H; have Ny325 := A_ hy325; clear hy325; obtain rfl := Option.some.inj H; have p50 : 0 ≤ (t318 : Int) := od_; have q50 : (t318 : Int) < ((y311.length : Int) : Int) := od_; obtain ⟨go50, co50, eo50, gb50, gl50, cl50, HG50⟩ := Kd.N_form HO313.out (by omega)
          (first | cases eo50 | (injection eo50 with ea_ en_ ec_; (first | subst ea_ | (injection ea_ with ea_; subst ea_)); subst ec_; clear en_))
          have GB50 := A_ gb50; have GG50 := A_ HG50; clear gb50 gl50 HG50; obtain ⟨ce50, hcl50, hM50, hcc50, hfr50⟩ := Kd.N_elem HO313.out z76 (t318 : Int) p50 q50; obtain ⟨ua50_5, uc50_5, rfl, ul50_5, ge50_5⟩ := k76_openF hM50; have hx50_0 : w19.cell? ⟨go50, (t318 : Int).toNat * 6, none⟩ = some (.int .i64 ((rd_T76 y311 t318).f0)) := hcc50 0 _ rfl; have hx50_1 : w19.cell? ⟨go50, (t318 : Int).toNat * 6 + 1, none⟩ = some (.int .i64 ((rd_T76 y311 t318).f1)) := hcc50 1 _ rfl; have hx50_2 : w19.cell? ⟨go50, (t318 : Int).toNat * 6 + 2, none⟩ = some (.int .i64 ((rd_T76 y311 t318).f2)) := hcc50 2 _ rfl; have hx50_3 : w19.cell? ⟨go50, (t318 : Int).toNat * 6 + 3, none⟩ = some (.int .i64 ((rd_T76 y311 t318).f3)) := hcc50 3 _ rfl; have hx50_4 : w19.cell? ⟨go50, (t318 : Int).toNat * 6 + 4, none⟩ = some (.int .i64 ((rd_T76 y311 t318).f4)) := hcc50 4 _ rfl; have hx50_5 : w19.cell? ⟨go50, (t318 : Int).toNat * 6 + 5, none⟩ = some (.slice ua50_5 ((rd_T76 y311 t318).f5).length uc50_5) := hcc50 5 _ rfl; have hf50_0 : w19.frozen? ⟨go50, (t318 : Int).toNat * 6, none⟩ = false := hfr50 0; have hf50_1 : w19.frozen? ⟨go50, (t318 : Int).toNat * 6 + 1, none⟩ = false := hfr50 1; have hf50_2 : w19.frozen? ⟨go50, (t318 : Int).toNat * 6 + 2, none⟩ = false := hfr50 2; have hf50_3 : w19.frozen? ⟨go50, (t318 : Int).toNat * 6 + 3, none⟩ = false := hfr50 3; have hf50_4 : w19.frozen? ⟨go50, (t318 : Int).toNat * 6 + 4, none⟩ = false := hfr50 4; have hf50_5 : w19.frozen? ⟨go50, (t318 : Int).toNat * 6 + 5, none⟩ = false := hfr50 5; clear hcl50 hcc50 hfr50 hM50; replace p50 := eq_true p50; replace q50 := eq_true q50; have HX53 := A_ (show Kd.N k76 76 w19 w.heap.size (fun k_ => (P0_ k_ ∨ w.heap.size ≤ k_)) (.slice (some ⟨go50, 0, none⟩) y311.length co20) y311 from (nx_ HO313)); obtain ⟨ce53, hcl53, hM53, hcc53, hfr53⟩ := Kd.N_elem HX53.out z76 (t318 : Int) (od_) (by have h_ : (t318 : Int) < ((y311.length : Int) : Int) := od_; first | exact h_ | (have e_ := (Kd.N_reads' HO313.out).1; omega) | simpa using h_); obtain ⟨ua53_5, uc53_5, rfl, ul53_5, ge53_5⟩ := k76_openF hM53; have HP53 := Kd.N_seg HX53.out (t318 : Int) (od_) (by have h_ : (t318 : Int) < ((y311.length : Int) : Int) := od_; first | exact h_ | (have e_ := (Kd.N_reads' HO313.out).1; omega) | simpa using h_) (seg := [.int .i64 (wrap64 (t319 - 2))]) (j := 4) hcl53 hcc53 (show 5 ≤ 6 from by decide) (x' := (⟨(rd_T76 y311 t318).f0, (rd_T76 y311 t318).f1, (rd_T76 y311 t318).f2, (rd_T76 y311 t318).f3, wrap64 (t319 - 2), (rd_T76 y311 t318).f5⟩ : S76)) (k76_mkF _ _ (⟨(rd_T76 y311 t318).f0, (rd_T76 y311 t318).f1, (rd_T76 y311 t318).f2, (rd_T76 y311 t318).f3, wrap64 (t319 - 2), (rd_T76 y311 t318).f5⟩ : S76) ul53_5 ge53_5) (fun _ hk => hk); have hx53_4 := hcc53 4 _ rfl
          (try simp only [show (k76).sz = 6 from rfl, Nat.mul_one, Nat.add_zero] at hx53_4)
          have hf53_4 := hfr53 4
          (try simp only [show (k76).sz = 6 from rfl, Nat.mul_one, Nat.add_zero] at hf53_4)
          clear hcl53 hcc53 hfr53 hM53
          go_wp2_with (first | ((with_reducible refine gate_store (t := 3) (p := 91) rfl ?_); refine store_event (t := 3) (p := 91) (v := ?vo_w54) (w1 := (w19.setCell ⟨go50, (t318 : Int).toNat * 6 + 4, none⟩ (.int .i64 (wrap64 (t319 - 2))))) ?hg ?ho ?hn ?hr ?_; (case ho => rfl); (case hg => rfl); (case hn => rfl); (case hr => first | (go_simp; done) | (go_simp; rfl)); intro w54 hw; have hg : w19.grownBy w54 (some go50) := (by rw [hw]; exact HP53.2); have hp_ : Kd.N k76 76 w54 w.heap.size (fun k_ => (P0_ k_ ∨ w.heap.size ≤ k_)) (.slice (some ⟨go50, 0, none⟩) y311.length co20) y325 := (by rw [hw, Ny325.out]; exact HP53.1); clear HP53; replace HO0 := A_ (Kd.V_afterv (v := (.slice (some ⟨go50, 0, none⟩) y311.length co20)) (v1 := (.slice (some ⟨go50, 0, none⟩) y311.length co20)) (ok := (fun k_ => (P0_ k_ ∨ w.heap.size ≤ k_))) (vx_ HO0) hg (.inl rfl)); replace HO313 := A_ (hp_); replace HB := A_ ((by rw [hw]; exact below_set (HB.out) GB50.out : Below w.heap.size w w54)); clear hg hw hp_))
          go_ret; exact ⟨_, ew_, by (with_reducible repeat (first | apply Kd.N_alloc | apply Kd.N_drewN | apply Kd.N_drew)); exact HO313.out, bx_ HB⟩
         (· rw [if_neg c49] at H; exact absurd H (by simp))
        (· rw [if_neg c48] at H; exact absurd H (by simp))
       ·rw [if_neg c47] at H
        obtain ⟨c47b0, c47b1⟩ := bn_ c47
        by_cases c55 : t320 = 5
        ·rw [if_pos c55] at H
         obtain ⟨c55b0, c55b1⟩ := be_ c55; clear c55; obtain ⟨y326, hy326⟩ : ∃ y_ : List Int, y_ = (([0, 1, 2, 3, 10, 11] : List Int)) := ⟨_, rfl⟩; replace H : ((dioramaref01_Around.f a3 6).bind fun t329 => (if 0 ≤ t329 then (if t329 < (y326.length : Int) then (if 0 ≤ (rd y326 t329) then (if (rd y326 t329 : Int).toNat ≤ 35184372088832 then (if 0 ≤ t318 then (if t318 < (y311.length : Int) then (some (y311.set (t318 : Int).toNat (⟨(rd_T76 y311 t318).f0, (rd_T76 y311 t318).f1, (rd_T76 y311 t318).f2, (rd_T76 y311 t318).f3, (rd_T76 y311 t318).f4, (List.replicate (rd y326 t329 : Int).toNat 0)⟩ : S76))) else (none)) else (none)) else (none)) else (none)) else (none)) else (none))) = some r := rh_ hy326 H; have Ny326 := A_ hy326; clear hy326; replace H := Option.bind_eq_some_iff.mp H; obtain ⟨t329, A560, H⟩ := H
         (try dsimp only at H)
         have A56 := A_ A560; clear A560
         by_cases c57 : 0 ≤ t329
         ·rw [if_pos c57] at H
          have c57b0 := decide_eq_true c57; clear c57
          by_cases c58 : t329 < (y326.length : Int)
          ·rw [if_pos c58] at H
           have c58b0 := decide_eq_true c58; clear c58
           by_cases c59 : 0 ≤ (rd y326 t329)
           ·rw [if_pos c59] at H
            have c59b0 := eq_true c59; have c59b1 := decide_eq_true c59; clear c59
            by_cases c60 : (rd y326 t329 : Int).toNat ≤ 35184372088832
            ·rw [if_pos c60] at H
             have c60b0 := eq_true c60; have c60b1 := decide_eq_true c60; clear c60; obtain ⟨y331, hy331⟩ : ∃ y_ : List Int, y_ = (List.replicate (rd y326 t329 : Int).toNat 0) := ⟨_, rfl⟩; replace H : (if 0 ≤ t318 then (if t318 < (y311.length : Int) then (some (y311.set (t318 : Int).toNat (⟨(rd_T76 y311 t318).f0, (rd_T76 y311 t318).f1, (rd_T76 y311 t318).f2, (rd_T76 y311 t318).f3, (rd_T76 y311 t318).f4, y331⟩ : S76))) else (none)) else (none)) = some r := rh_ hy331 H; have Ny331 := A_ hy331; clear hy331
             by_cases c61 : 0 ≤ t318
             ·rw [if_pos c61] at H
              have c61b0 := decide_eq_true c61; clear c61
              by_cases c62 : t318 < (y311.length : Int)
              ·rw [if_pos c62] at H
               have c62b0 := decide_eq_true c62; clear c62; obtain ⟨y334, hy334⟩ : ∃ y_ : List (S76), y_ = (y311.set (t318 : Int).toNat (⟨(rd_T76 y311 t318).f0, (rd_T76 y311 t318).f1, (rd_T76 y311 t318).f2, (rd_T76 y311 t318).f3, (rd_T76 y311 t318).f4, y331⟩ : S76)) := ⟨_, rfl⟩; replace H : (some y334) = some r := rh_ hy334 H; have Ny334 := A_ hy334; clear hy334; obtain rfl := Option.some.inj H
               go_wp2_with (first | ((with_reducible refine gate_dst (N := 96) rfl ?_); refine Kd.R_lit (Kd.int .i64) _ 3 ?hg (N := 96) ?hd (xs := ([0, 1, 2, 3, 10, 11] : List Int)) (inner := [.int .i64 0, .int .i64 1, .int .i64 2, .int .i64 3, .int .i64 10, .int .i64 11]) (ok := fun _ => True) (okp := fun _ => True) ?hr ?hp (fun _ hk => hk) trivial (Below.refl _ _) (Nat.le_refl _) (by simp) ?_; (case hd => rfl); (case hg => rfl); (case hr => first | (go_simp; done) | (go_simp; rfl)); (case hp => exact (Reps.one (show Kd.M (Kd.int .i64) _ _ _ 0 [.int .i64 0] from rfl) (Reps.one (show Kd.M (Kd.int .i64) _ _ _ 1 [.int .i64 1] from rfl) (Reps.one (show Kd.M (Kd.int .i64) _ _ _ 2 [.int .i64 2] from rfl) (Reps.one (show Kd.M (Kd.int .i64) _ _ _ 3 [.int .i64 3] from rfl) (Reps.one (show Kd.M (Kd.int .i64) _ _ _ 10 [.int .i64 10] from rfl) (Reps.one (show Kd.M (Kd.int .i64) _ _ _ 11 [.int .i64 11] from rfl) (Reps.none _ _)))))))); intro v327 w66 ho67 hb hg_ hnew_; clear hg_ hnew_; (first | rw [← Ny326.out] at ho67 | (simp only [Int.reduceToNat] at ho67; rw [← Ny326.out] at ho67)); replace HO0 := A_ (Kd.V_elder' (vx_ HO0) (Kd.R_base ho67) hb); replace HO313 := A_ (Kd.N_elder' (nx_ HO313) (Kd.R_base ho67) hb); have HO328 := A_ (Kd.R_lower (Kd.R_newM (M := fun k_ => (w.heap.size ≤ k_)) ho67 (below_size (bx_ HB)) (fun k_ h_ => h_)) (below_size (bx_ HB))); replace HB := A_ (below_step (bx_ HB) hb); clear hb ho67) | ((with_reducible refine gate_callee (f := 36) rfl ?_); refine goesL_ (some 98) rfl rfl Try.func36 (by kernel_rfl) rfl #[.int .i64 a3, .int .i64 6] rfl lm_ ?_; (with_reducible refine (dioramaref01_Around.calls a3 6 t329 _ A56.out).mono ?_); rintro e w' ⟨rfl, ⟨nd, rfl⟩⟩; refine ⟨_, rfl, ?_⟩; (try (rw [drewN_self w66]; generalize hq_ : World.drewN w66 _ = w66; have n0_ : Aside0 (Kd.V k76 76 w66 w.heap.size (fun k_ => (P0_ k_ ∨ w.heap.size ≤ k_) ∧ some k_ ≠ (.slice Ao20 y311.length co20 : Value).ownBlock ∧ some k_ ≠ (v327 : Value).ownBlock) (.slice A0 l0.length c0) l0) := ⟨by rw [← hq_]; exact (by (with_reducible repeat (first | apply Kd.V_alloc | apply Kd.V_drewN | apply Kd.V_drew)); exact Kd.V_mono HO0.out (fun _ hk => ⟨hk.1.1, ⟨hk.1.2, hk.2⟩⟩))⟩; have n1_ : Aside0 (Kd.N k76 76 w66 w.heap.size (fun k_ => (P0_ k_ ∨ w.heap.size ≤ k_) ∧ some k_ ≠ (v327 : Value).ownBlock) (.slice Ao20 y311.length co20) y311) := ⟨by rw [← hq_]; exact (nx_ HO313)⟩; have n2_ : Aside0 (Kd.R (Kd.int .i64) 3 w66 w.heap.size (fun k_ => (w.heap.size ≤ k_)) v327 y326) := ⟨by rw [← hq_]; exact (by (with_reducible repeat (first | apply Kd.R_alloc | apply Kd.R_drewN | apply Kd.R_drew)); exact Kd.R_mono HO328.out (fun _ hk => hk.1))⟩; have n3_ : Aside0 (Below w.heap.size w w66) := ⟨by rw [← hq_]; exact (bx_ HB)⟩; clear HO0 HO313 HO328 HB hq_; have HO0 := n0_; have HO313 := n1_; have HO328 := n2_; have HB := n3_; clear n0_ n1_ n2_ n3_)); obtain ⟨Ao68, co68, eo68⟩ := Kd.R_slice HO328.out; subst eo68; have p330 : 0 ≤ (t329 : Int) := od_; have q330 : t329 < (y326.length : Int) := od_; obtain ⟨ad330, e330, hx330_0⟩ := Kd.at_int (Kd.R_reads' HO328.out).2.2 t329 p330 q330; cases e330; replace p330 := eq_true p330; replace q330 := eq_true q330) | ((with_reducible refine gate_dst (N := 101) rfl ?_); refine Kd.R_make (Kd.int .i64) _ 3 rfl (N := 101) rfl 22 _ _ rfl (rd y326 t329) rfl rfl Try.underlying22 (.int .i64 0) 8 info3 rfl (by decide) (by omega) 0 (ok := fun _ => True) (okp := fun _ => True) rfl (fun _ hk => hk) trivial (od_) (Nat.le_trans (Nat.mul_le_mul_right _ (od_ : (rd y326 t329).toNat ≤ 35184372088832)) (by omega)) (Below.refl _ _) (Nat.le_refl _) ?_; intro v332 w69 ho70 hb hg_ hnew_; clear hg_ hnew_; (first | rw [← Ny331.out] at ho70 | (simp only [Int.reduceToNat] at ho70; rw [← Ny331.out] at ho70)); replace HO0 := A_ (Kd.V_elder' (vx_ HO0) (Kd.R_base ho70) hb); replace HO313 := A_ (Kd.N_elder' (nx_ HO313) (Kd.R_base ho70) hb); have HO333 := A_ (Kd.R_lower (Kd.R_new' (Kd.R_newM (M := fun k_ => (w.heap.size ≤ k_)) ho70 (below_size (bx_ HB)) (fun k_ h_ => h_)) (Kd.R_lt (rx_ HO328))) (below_size (bx_ HB))); replace HO328 := A_ (Kd.R_elder' (rx_ HO328) (Kd.R_base ho70) hb); replace HB := A_ (below_step (bx_ HB) hb); obtain ⟨Av_, cv_, ev_⟩ := Kd.R_slice HO333.out; subst ev_; clear hb ho70; have p63 : 0 ≤ (t318 : Int) := od_; have q63 : (t318 : Int) < ((y311.length : Int) : Int) := od_; obtain ⟨go63, co63, eo63, gb63, gl63, cl63, HG63⟩ := Kd.N_form HO313.out (by omega); (first | cases eo63 | (injection eo63 with ea_ en_ ec_; (first | subst ea_ | (injection ea_ with ea_; subst ea_)); subst ec_; clear en_)); have GB63 := A_ gb63; have GG63 := A_ HG63; clear gb63 gl63 HG63; obtain ⟨ce63, hcl63, hM63, hcc63, hfr63⟩ := Kd.N_elem HO313.out z76 (t318 : Int) p63 q63; obtain ⟨ua63_5, uc63_5, rfl, ul63_5, ge63_5⟩ := k76_openF hM63; have hx63_0 : w69.cell? ⟨go63, (t318 : Int).toNat * 6, none⟩ = some (.int .i64 ((rd_T76 y311 t318).f0)) := hcc63 0 _ rfl; have hx63_1 : w69.cell? ⟨go63, (t318 : Int).toNat * 6 + 1, none⟩ = some (.int .i64 ((rd_T76 y311 t318).f1)) := hcc63 1 _ rfl; have hx63_2 : w69.cell? ⟨go63, (t318 : Int).toNat * 6 + 2, none⟩ = some (.int .i64 ((rd_T76 y311 t318).f2)) := hcc63 2 _ rfl; have hx63_3 : w69.cell? ⟨go63, (t318 : Int).toNat * 6 + 3, none⟩ = some (.int .i64 ((rd_T76 y311 t318).f3)) := hcc63 3 _ rfl; have hx63_4 : w69.cell? ⟨go63, (t318 : Int).toNat * 6 + 4, none⟩ = some (.int .i64 ((rd_T76 y311 t318).f4)) := hcc63 4 _ rfl; have hx63_5 : w69.cell? ⟨go63, (t318 : Int).toNat * 6 + 5, none⟩ = some (.slice ua63_5 ((rd_T76 y311 t318).f5).length uc63_5) := hcc63 5 _ rfl; have hf63_0 : w69.frozen? ⟨go63, (t318 : Int).toNat * 6, none⟩ = false := hfr63 0; have hf63_1 : w69.frozen? ⟨go63, (t318 : Int).toNat * 6 + 1, none⟩ = false := hfr63 1; have hf63_2 : w69.frozen? ⟨go63, (t318 : Int).toNat * 6 + 2, none⟩ = false := hfr63 2; have hf63_3 : w69.frozen? ⟨go63, (t318 : Int).toNat * 6 + 3, none⟩ = false := hfr63 3; have hf63_4 : w69.frozen? ⟨go63, (t318 : Int).toNat * 6 + 4, none⟩ = false := hfr63 4; have hf63_5 : w69.frozen? ⟨go63, (t318 : Int).toNat * 6 + 5, none⟩ = false := hfr63 5; clear hcl63 hcc63 hfr63 hM63; replace p63 := eq_true p63; replace q63 := eq_true q63; have n_ := A_ (Kd.N_mono (ok' := (fun k_ => (P0_ k_ ∨ w.heap.size ≤ k_) ∧ some k_ ≠ (.slice (some ad330) y326.length co68 : Value).ownBlock ∧ some k_ ≠ (.slice Av_ y331.length cv_ : Value).ownBlock)) HO313.out (fun k_ hk => ⟨hk.1.1, ⟨hk.1.2, hk.2⟩⟩)); clear HO313; have HO313 := n_; clear n_; have HX71 := A_ (show Kd.N k76 76 w69 w.heap.size (fun k_ => (P0_ k_ ∨ w.heap.size ≤ k_) ∧ some k_ ≠ (.slice (some ad330) y326.length co68 : Value).ownBlock) (.slice (some ⟨go63, 0, none⟩) y311.length co20) y311 from (by (with_reducible repeat (first | apply Kd.N_alloc | apply Kd.N_drewN | apply Kd.N_drew)); exact Kd.N_mono HO313.out (fun _ hk => ⟨hk.1, hk.2.1⟩))); obtain ⟨ce71, hcl71, hM71, hcc71, hfr71⟩ := Kd.N_elem HX71.out z76 (t318 : Int) (od_) (by have h_ : (t318 : Int) < ((y311.length : Int) : Int) := od_; first | exact h_ | (have e_ := (Kd.N_reads' HO313.out).1; omega) | simpa using h_); obtain ⟨ua71_5, uc71_5, rfl, ul71_5, ge71_5⟩ := k76_openF hM71; have HP71 := Kd.N_seg HX71.out (t318 : Int) (od_) (by have h_ : (t318 : Int) < ((y311.length : Int) : Int) := od_; first | exact h_ | (have e_ := (Kd.N_reads' HO313.out).1; omega) | simpa using h_) (seg := [(.slice Av_ y331.length cv_)]) (j := 5) hcl71 hcc71 (show 6 ≤ 6 from by decide) (x' := (⟨(rd_T76 y311 t318).f0, (rd_T76 y311 t318).f1, (rd_T76 y311 t318).f2, (rd_T76 y311 t318).f3, (rd_T76 y311 t318).f4, y331⟩ : S76)) (k76_mkF _ _ (⟨(rd_T76 y311 t318).f0, (rd_T76 y311 t318).f1, (rd_T76 y311 t318).f2, (rd_T76 y311 t318).f3, (rd_T76 y311 t318).f4, y331⟩ : S76) (Kd.R_reads' (Kd.R_mono (ok' := (fun k_ => ((fun k_ => (P0_ k_ ∨ w.heap.size ≤ k_) ∧ some k_ ≠ (.slice (some ad330) y326.length co68 : Value).ownBlock)) k_ ∧ k_ ≠ go63)) (Kd.R_apart' (HO333.out) (Kd.N_typed HO313.out) (by decide)) (fun k_ hk => ⟨⟨(.inr (hk.1.1.1)), hk.1.2⟩, fun e_ => (hk.2) (by rw [e_]; rfl)⟩))).2.1 (Kd.R_F (Kd.R_mono (ok' := (fun k_ => ((fun k_ => (P0_ k_ ∨ w.heap.size ≤ k_) ∧ some k_ ≠ (.slice (some ad330) y326.length co68 : Value).ownBlock)) k_ ∧ k_ ≠ go63)) (Kd.R_apart' (HO333.out) (Kd.N_typed HO313.out) (by decide)) (fun k_ hk => ⟨⟨(.inr (hk.1.1.1)), hk.1.2⟩, fun e_ => (hk.2) (by rw [e_]; rfl)⟩)))) (fun _ hk => hk); have hx71_5 := hcc71 5 _ rfl; (try simp only [show (k76).sz = 6 from rfl, Nat.mul_one, Nat.add_zero] at hx71_5); have hf71_5 := hfr71 5; (try simp only [show (k76).sz = 6 from rfl, Nat.mul_one, Nat.add_zero] at hf71_5); clear hcl71 hcc71 hfr71 hM71) | ((with_reducible refine gate_store (t := 22) (p := 103) rfl ?_); refine store_event (t := 22) (p := 103) (v := ?vo_w72) (w1 := (w69.setCell ⟨go63, (t318 : Int).toNat * 6 + 5, none⟩ ((.slice Av_ y331.length cv_)))) ?hg ?ho ?hn ?hr ?_; (case ho => rfl); (case hg => rfl); (case hn => rfl); (case hr => first | (go_simp; done) | (go_simp; rfl)); intro w72 hw; have hg : w69.grownBy w72 (some go63) := (by rw [hw]; exact HP71.2); have hp_ : Kd.N k76 76 w72 w.heap.size (fun k_ => (P0_ k_ ∨ w.heap.size ≤ k_) ∧ some k_ ≠ (.slice (some ad330) y326.length co68 : Value).ownBlock) (.slice (some ⟨go63, 0, none⟩) y311.length co20) y334 := (by rw [hw, Ny334.out]; exact HP71.1); clear HP71; have n1_ := A_ (hp_); have n2_ := A_ (Kd.R_over' (v := (.slice (some ⟨go63, 0, none⟩) y311.length co20)) (rx_ HO328) (Kd.N_typed HO313.out) (by decide) hg); have n3_ := A_ ((by rw [hw]; exact below_set (HB.out) GB63.out : Below w.heap.size w w72)); clear HO313 HO328 HB HO333; have HO313 := n1_; have HO328 := n2_; have HB := n3_; clear n1_ n2_ n3_; clear hg hw hp_))
               go_ret; exact ⟨_, ew_, by (with_reducible repeat (first | apply Kd.N_alloc | apply Kd.N_drewN | apply Kd.N_drew)); exact Kd.N_mono HO313.out (fun _ hk => hk.1), bx_ HB⟩
              (· rw [if_neg c62] at H; exact absurd H (by simp))
             (· rw [if_neg c61] at H; exact absurd H (by simp))
            (· rw [if_neg c60] at H; exact absurd H (by simp))
           (· rw [if_neg c59] at H; exact absurd H (by simp))
          (· rw [if_neg c58] at H; exact absurd H (by simp))
         (· rw [if_neg c57] at H; exact absurd H (by simp))
        ·rw [if_neg c55] at H
         obtain ⟨c55b0, c55b1⟩ := bn_ c55
         by_cases c73 : t320 = 6
         ·rw [if_pos c73] at H
          obtain ⟨c73b0, c73b1⟩ := be_ c73; clear c73
          by_cases c74 : 0 ≤ t318
          ·rw [if_pos c74] at H
           have c74b0 := eq_true c74; have c74b1 := decide_eq_true c74; clear c74
           by_cases c75 : t318 ≤ (y311.length : Int)
           ·rw [if_pos c75] at H
            have c75b0 := eq_true c75; have c75b1 := decide_eq_true c75; clear c75; obtain ⟨y335, hy335⟩ : ∃ y_ : List (S76), y_ = (y311.take (t318 : Int).toNat) := ⟨_, rfl⟩; replace H : (if 0 ≤ (wrap64 (t318 + 1)) then (if (wrap64 (t318 + 1)) ≤ (y311.length : Int) then (some (y311.eraseIdx (t318 : Int).toNat)) else (none)) else (none)) = some r := rh_ hy335 H; have Ny335 := A_ hy335; clear hy335; obtain ⟨ji76, hji76⟩ : ∃ j_ : Int, (wrap64 (t318 + 1)) = j_ := ⟨_, rfl⟩
            replace H : (if 0 ≤ (ji76) then (if (ji76) ≤ (y311.length : Int) then (some (y311.eraseIdx (t318 : Int).toNat)) else (none)) else (none)) = some r := by first | (rw [hji76] at H; exact H) | (simp only [hji76] at H ⊢; exact H)
            (try rw [hji76] at A12)
            (try rw [hji76] at A13)
            (try rw [hji76] at A14)
            have hji76w : (IntKind.i64.wrap (t318 + 1)) = ji76 := (i64_w _).trans hji76
            by_cases c77 : 0 ≤ (ji76)
            ·rw [if_pos c77] at H
             have c77b0 := eq_true c77; have c77b1 := decide_eq_true c77; clear c77
             by_cases c78 : (ji76) ≤ (y311.length : Int)
             ·rw [if_pos c78] at H
              have c78b0 := eq_true c78; have c78b1 := decide_eq_true c78; clear c78; obtain ⟨y340, hy340⟩ : ∃ y_ : List (S76), y_ = (y311.drop ((ji76) : Int).toNat) := ⟨_, rfl⟩; replace H : (some (y311.eraseIdx (t318 : Int).toNat)) = some r := rh_ hy340 H; have Ny340 := A_ hy340; clear hy340; obtain ⟨y345, hy345⟩ : ∃ y_ : List (S76), y_ = (y311.eraseIdx (t318 : Int).toNat) := ⟨_, rfl⟩; replace H : (some y345) = some r := rh_ hy345 H; have Ny345 := A_ hy345; clear hy345; obtain rfl := Option.some.inj H
              try go_wp2
              (try (rw [drewN_self w19]; generalize hq_ : World.drewN w19 _ = w19; have n0_ : Aside0 (Kd.V k76 76 w19 w.heap.size (fun k_ => (P0_ k_ ∨ w.heap.size ≤ k_) ∧ some k_ ≠ (.slice Ao20 y311.length co20 : Value).ownBlock) (.slice A0 l0.length c0) l0) := ⟨by rw [← hq_]; exact (vx_ HO0)⟩; have n1_ : Aside0 (Kd.N k76 76 w19 w.heap.size (fun k_ => (P0_ k_ ∨ w.heap.size ≤ k_)) (.slice Ao20 y311.length co20) y311) := ⟨by rw [← hq_]; exact (nx_ HO313)⟩; have n2_ : Aside0 (Below w.heap.size w w19) := ⟨by rw [← hq_]; exact (bx_ HB)⟩; clear HO0 HO313 HB hq_; have HO0 := n0_; have HO313 := n1_; have HB := n2_; clear n0_ n1_ n2_))
              replace HO0 := A_ (Kd.V_drew HO0.out); replace HO313 := A_ (Kd.N_drew HO313.out); replace HB := A_ (below_drew1 HB.out); have q82 : (t318 : Int) ≤ ((y311.length : Int) : Int) := od_; obtain ⟨i082, hi082, _, hsz82, _⟩ := info_parts info76; have hroom82 : y311.length ≤ co20 := (Kd.N_reads' HO313.out).2.1; have hC82 : Kd.F k76 _ _ Ao20 y311.length y311 := (Kd.V_at (base := w.heap.size) (Kd.N_V HO313.out)).2.2; have hcut82 := cut_to (P := Try.prog) 34 76 .i64 Try.underlying34 hi082 Ao20 y311.length co20 t318 (od_) q82 hroom82; have hr82 := Kd.F_take (m := (t318 : Int).toNat) hC82 (by omega); have hy82 : y335.length = (t318 : Int).toNat := (by rw [Ny335.out, List.length_take]; omega); rw [← Ny335.out] at hr82; rw [← hy82] at hcut82; have HO339 := A_ (show Kd.V k76 76 _ w.heap.size _ (.slice Ao20 y335.length co20) y335 from Kd.V_mk (by omega) hr82); have HC339 := A_ (show y335.length ≤ co20 from by omega); clear hr82 hC82 hroom82 hi082 hsz82; have KY82 := A_ hy82; clear hy82; replace q82 := eq_true q82; have q83 : ((ji76) : Int) ≤ ((y311.length : Int) : Int) := od_; obtain ⟨i083, hi083, _, hsz83, _⟩ := info_parts info76; have hroom83 : y311.length ≤ co20 := (Kd.N_reads' HO313.out).2.1; have hC83 : Kd.F k76 _ _ Ao20 y311.length y311 := (Kd.V_at (base := w.heap.size) (Kd.N_V HO313.out)).2.2; have q083 : (0 : Int) ≤ ((ji76) : Int) := od_; have hcut83 := cut_from (P := Try.prog) 34 76 .i64 Try.underlying34 hi083 6 hsz83 Ao20 y311.length co20 (ji76) q083 q83; have hr83 := Kd.F_cut (m := ((ji76) : Int).toNat) (c := co20) hC83 (by omega) hroom83; obtain ⟨A83, hA83⟩ : ∃ A1, A1 = (if co20 = ((ji76) : Int).toNat then Ao20 else (Ao20 : Option Addr).map (·.add (((ji76) : Int).toNat * 6))) := ⟨_, rfl⟩; obtain ⟨c83, hc83⟩ : ∃ c1, c1 = co20 - ((ji76) : Int).toNat := ⟨_, rfl⟩; have hy83 : y340.length = y311.length - ((ji76) : Int).toNat := (by rw [Ny340.out, List.length_drop] <;> omega); rw [show (y311).drop ((ji76) : Int).toNat = y340 from Ny340.out.symm] at hr83; replace hr83 : Kd.F k76 _ _ A83 y340.length y340 := (by rw [hA83]; exact hr83); rw [← hy83, ← hA83, ← hc83] at hcut83; have HO344 := A_ (show Kd.V k76 76 _ w.heap.size _ (.slice A83 y340.length c83) y340 from Kd.V_mk (by rw [hy83, hc83]; exact Nat.sub_le_sub_right hroom83 _) hr83); have HC344 := A_ (show y340.length ≤ c83 from by rw [hy83, hc83]; exact Nat.sub_le_sub_right hroom83 _); clear hr83 hC83 hroom83 hi083 hsz83 hc83; have KY83 := A_ hy83; have KA83 := A_ hA83; clear hy83 hA83; replace q83 := eq_true q83; obtain ⟨go85, co85, eo85, gb85, gl85, cl85, HG85⟩ := Kd.N_form HO313.out (by have hj_ : 0 ≤ (t318 : Int) := od_; have hl_ : (ji76 : Int) ≤ (y311.length : Int) := od_; have hh_ : (t318 : Int) ≤ (y311.length : Int) := od_; rw [← hji76] at hl_; unfold wrap64 at hl_; omega)
              (first | cases eo85 | (injection eo85 with ea_ en_ ec_; (first | subst ea_ | (injection ea_ with ea_; subst ea_)); subst ec_; clear en_))
              have GB85 := A_ gb85; have GG85 := A_ HG85; clear gb85 gl85 HG85; refine start_ (n := 9) (S := fun w' => True) (ds := []) (B_ 9 0) (by kernel_rfl) rfl rfl trivial (fun hHeld => ?_); refine with_tabW dioramaref36_Bent.tab25 dioramaref36_Bent.bits25 (fun HT_ HW_ => ?_); generalize w19.drew = w81 at HO0 HO313 HB GG85 HO339 HO344 hHeld ⊢; refine pT_ 0 106 (B_ 9 1) HT_ ?_; refine pT_ 1 107 (B_ 9 3) HT_ ?_; refine pT_ 2 108 (B_ 9 7) HT_ ?_; refine pT_ 3 109 (B_ 9 15) HT_ ?_; refine pT_ 4 110 (B_ 9 31) HT_ ?_; refine pT_ 5 111 (B_ 9 63) HT_ ?_; refine pT_ 6 112 (B_ 9 127) HT_ ?_; refine one_ (i := 7) (N := some 113) (B_ 9 255) rfl rfl (one_of HT_.out (by kernel_rfl)) (by decide) (fun K hK => ?_); have hj_ : 0 ≤ (t318 : Int) := od_; have hl_ : (ji76 : Int) ≤ (y311.length : Int) := od_; have hh_ : (t318 : Int) ≤ (y311.length : Int) := od_; have hb_ := (Kd.N_reads' HO313.out).2.2.2.1; have h0_ : (0 : Int) ≤ (ji76 : Int) := od_; have hy1_ := KY82.out; have hk_ : (ji76 : Int).toNat = y335.length + 1 := (by have hw_ : (ji76 : Int) = t318 + 1 := (by have h00_ := h0_; rw [← hji76] at h00_ ⊢; unfold wrap64 at h00_ ⊢; omega); rw [hw_]; omega); refine Kd.N_delete_step k76 (w0 := w) w.heap.size (by rfl) (.tmp 108) (.tmp 112) 34 76 rfl Try.underlying34 (by kernel_rfl) (g := go85) (n := y311.length) (c := co20) (k := y335.length) rfl rfl ?hA ?hm (nx_ HO313) ?hk (bx_ HB) (below_size (bx_ HB)) ?_
              (case hA => have ha_ := KA83.out; rw [hk_] at ha_; exact ha_)
              (case hm => have ha_ := KY83.out; omega)
              (case hk => omega)
              intro w84 ho hb hg; clear hj_ hl_ hh_ hb_ hk_ h0_; rw [hy1_, ← Ny345.out] at ho; clear hy1_; have hn_ : y311.length - 1 = y345.length := (by have := (Kd.N_reads' ho).1; omega); rw [hn_] at ho ⊢; clear hn_; have n0_ := A_ (Kd.V_afterv (v := (.slice (some ⟨go85, 0, none⟩) y311.length co20)) (v1 := .slice (some ⟨go85, 0, none⟩) y345.length co20) (ok := (fun k_ => (P0_ k_ ∨ w.heap.size ≤ k_))) (vx_ HO0) hg (.inl rfl)); have n1_ := A_ (ho); have n2_ := A_ (hb); clear HO0 HO313 HB; have HO0 := n0_; have HO313 := n1_; have HB := n2_; clear n0_ n1_ n2_ ho hb hg; refine hK.out _ _ trivial (fun hHeld => ?_); clear hK K; refine norm_ (a' := ?_) ?_ ?_; rotate_left
              ·show Act.put _ (some 113) _ = _
               simp only [Act.put, sA_, sB_, sC_, i64_w, i32_w]; rfl
              refine pT_ 8 9 (B_ 9 511) HT_ ?_; refine done_ (done_of HT_.out (by kernel_rfl)) ?_
              try go_wp2
              go_ret; exact ⟨_, by first | rfl | (simp [errW_none, errW_some] <;> rfl) | (simp only [← hji76]; first | rfl | (simp [errW_none, errW_some] <;> rfl)) | (simp [*, errW_none, errW_some] <;> rfl), by (with_reducible repeat (first | apply Kd.N_alloc | apply Kd.N_drewN | apply Kd.N_drew)); exact HO313.out, bx_ HB⟩
             (· rw [if_neg c78] at H; exact absurd H (by simp))
            (· rw [if_neg c77] at H; exact absurd H (by simp))
           (· rw [if_neg c75] at H; exact absurd H (by simp))
          (· rw [if_neg c74] at H; exact absurd H (by simp))
         ·rw [if_neg c73] at H
          obtain ⟨c73b0, c73b1⟩ := bn_ c73
          by_cases c86 : t320 = 7
          ·rw [if_pos c86] at H
           obtain ⟨c86b0, c86b1⟩ := be_ c86; clear c86
           by_cases c87 : 0 ≤ t318
           ·rw [if_pos c87] at H
            have c87b0 := decide_eq_true c87; clear c87
            by_cases c88 : t318 < (y311.length : Int)
            ·rw [if_pos c88] at H
             have c88b0 := decide_eq_true c88; clear c88
             by_cases c89 : y311.length < 2199023255552
             ·rw [if_pos c89] at H
              have LMc89 := A_ c89; clear c89; obtain ⟨y349, hy349⟩ : ∃ y_ : List (S76), y_ = (y311 ++ [(⟨(rd_T76 y311 t318).f0, (rd_T76 y311 t318).f1, (rd_T76 y311 t318).f2, (rd_T76 y311 t318).f3, (rd_T76 y311 t318).f4, (rd_T76 y311 t318).f5⟩ : S76)]) := ⟨_, rfl⟩; replace H : (some y349) = some r := rh_ hy349 H; have Ny349 := A_ hy349; clear hy349; obtain rfl := Option.some.inj H; have p348 : 0 ≤ (t318 : Int) := od_; have q348 : t318 < (y311.length : Int) := od_; obtain ⟨ad348, A348_5, c348_5, e348, hx348_0, hx348_1, hx348_2, hx348_3, hx348_4, hx348_5, hl348_5, hi348_5⟩ := at_T76 (Kd.N_reads' HO313.out).2.2 t318 p348 q348
              cases e348
              obtain ⟨ce348, hce348, hMe348, hcc348⟩ := Kd.N_get HO313.out z76 t318 p348 (by first | exact q348 | exact od_ | (have e_ := (Kd.N_reads' HO313.out).1; omega)); obtain ⟨ua348_5, uc348_5, rfl, ul348_5, ge348_5⟩ := k76_openF hMe348; have hv348_5 := hcc348 5 _ rfl; rw [add_field _ _ 5 (by omega)] at hv348_5; replace hv348_5 := Option.some.inj (hv348_5.symm.trans hx348_5)
              injection hv348_5 with hva_ hvn_ hvc_
              rw [hva_] at ge348_5; rw [hvc_] at ul348_5; have HL348_5 := A_ (show Kd.V (Kd.int .i64) 3 _ w.heap.size _ _ ((rd_T76 y311 t318).f5) from Kd.V_mk ul348_5 ge348_5); clear hva_ hvn_ hvc_ ge348_5 ul348_5 hcc348 hce348; have HR348_5 := A_ hi348_5; have HC348_5 := A_ hl348_5; clear hi348_5 hl348_5; replace p348 := eq_true p348; replace q348 := eq_true q348
              go_wp2_with (first | ((with_reducible refine gate_builtin (b := .append) (xs := #[.tmp 116, .tmp 121]) rfl ?_); at_builtin; refine Kd.N_append k76 (w0 := w) w.heap.size rfl (.tmp 116) (.tmp 121) 34 76 (.agg #[(.int .i64 0), (.int .i64 0), (.int .i64 0), (.int .i64 0), (.int .i64 0), (.slice none 0 0)]) 64 rfl Try.underlying34 info76 rfl (by decide) (by omega) (.slice (some ad348) y311.length co20) y311 (⟨(rd_T76 y311 t318).f0, (rd_T76 y311 t318).f1, (rd_T76 y311 t318).f2, (rd_T76 y311 t318).f3, (rd_T76 y311 t318).f4, (rd_T76 y311 t318).f5⟩ : S76) [.int .i64 ((rd_T76 y311 t318).f0), .int .i64 ((rd_T76 y311 t318).f1), .int .i64 ((rd_T76 y311 t318).f2), .int .i64 ((rd_T76 y311 t318).f3), .int .i64 ((rd_T76 y311 t318).f4), .slice A348_5 ((rd_T76 y311 t318).f5).length c348_5] (fun k_ => (P0_ k_ ∨ w.heap.size ≤ k_)) (fun k_ => ((fun k_ => (P0_ k_ ∨ w.heap.size ≤ k_))) k_ ∧ some k_ ≠ (.slice (some ad348) y311.length co20 : Value).ownBlock) rfl rfl ?aP (fun _ hk => hk) ?aF ?aO ?aB ?aS ?aL ?_; (case aP => exact (k76_mkF _ _ (⟨(rd_T76 y311 t318).f0, (rd_T76 y311 t318).f1, (rd_T76 y311 t318).f2, (rd_T76 y311 t318).f3, (rd_T76 y311 t318).f4, (rd_T76 y311 t318).f5⟩ : S76) (Kd.V_reads' (Kd.V_mono (ok' := (fun k_ => ((fun k_ => (P0_ k_ ∨ w.heap.size ≤ k_))) k_ ∧ some k_ ≠ (.slice (some ad348) y311.length co20 : Value).ownBlock)) (HL348_5.out) (fun k_ hk => ⟨hk.1, hk.2⟩))).2.1 (Kd.V_F (Kd.V_mono (ok' := (fun k_ => ((fun k_ => (P0_ k_ ∨ w.heap.size ≤ k_))) k_ ∧ some k_ ≠ (.slice (some ad348) y311.length co20 : Value).ownBlock)) (HL348_5.out) (fun k_ hk => ⟨hk.1, hk.2⟩))))); (case aB => exact (bx_ HB)); (case aF => exact (fun k_ hk => (.inr (Nat.le_trans (below_size (bx_ HB)) hk)))); (case aO => exact (nx_ HO313)); (case aS => exact (below_size (bx_ HB))); (case aL => have := LMc89.out; omega); intro v350 w92 ho hb hg hat; rw [← Ny349.out] at ho; have n0_ := A_ (Kd.V_afterv (ok := (fun k_ => (P0_ k_ ∨ w.heap.size ≤ k_))) (vx_ HO0) hg hat); have n1_ := A_ (Kd.V_afterv (ok := (fun k_ => (P0_ k_ ∨ w.heap.size ≤ k_))) (vx_ HL348_5) hg hat); have n2_ := A_ (hb); have n3_ := A_ (ho); clear HO0 HL348_5 HB HO313; have HO0 := n0_; have HL348_5 := n1_; have HB := n2_; have HO351 := n3_; clear n0_ n1_ n2_ n3_; clear ho hb hg hat))
              go_ret; exact ⟨_, ew_, by (with_reducible repeat (first | apply Kd.N_alloc | apply Kd.N_drewN | apply Kd.N_drew)); exact HO351.out, bx_ HB⟩
             (· rw [if_neg c89] at H; exact absurd H (by simp))
            (· rw [if_neg c88] at H; exact absurd H (by simp))
           (· rw [if_neg c87] at H; exact absurd H (by simp))
          ·rw [if_neg c86] at H
           obtain ⟨c86b0, c86b1⟩ := bn_ c86
           by_cases c93 : (wrap64 (t318 + 1)) < (y311.length : Int)
           ·rw [if_pos c93] at H
            have c93b0 := decide_eq_true c93; clear c93
            by_cases c94 : 0 ≤ t318
            ·rw [if_pos c94] at H
             have c94b0 := decide_eq_true c94; clear c94
             by_cases c95 : t318 < (y311.length : Int)
             ·rw [if_pos c95] at H
              have c95b0 := decide_eq_true c95; clear c95; obtain ⟨ji96, hji96⟩ : ∃ j_ : Int, (wrap64 (t318 + 1)) = j_ := ⟨_, rfl⟩
              replace H : (if 0 ≤ (ji96) then (some ((y311.set (t318 : Int).toNat (⟨(rd_T76 y311 (ji96)).f0, (rd_T76 y311 (ji96)).f1, (rd_T76 y311 (ji96)).f2, (rd_T76 y311 (ji96)).f3, (rd_T76 y311 (ji96)).f4, (rd_T76 y311 (ji96)).f5⟩ : S76)).set ((ji96) : Int).toNat (⟨(rd_T76 y311 t318).f0, (rd_T76 y311 t318).f1, (rd_T76 y311 t318).f2, (rd_T76 y311 t318).f3, (rd_T76 y311 t318).f4, (rd_T76 y311 t318).f5⟩ : S76))) else (none)) = some r := by first | (rw [hji96] at H; exact H) | (simp only [hji96] at H ⊢; exact H)
              (try rw [hji96] at c93b0)
              (try rw [hji96] at A12)
              (try rw [hji96] at A13)
              (try rw [hji96] at A14)
              have hji96w : (IntKind.i64.wrap (t318 + 1)) = ji96 := (i64_w _).trans hji96
              by_cases c97 : 0 ≤ (ji96)
              ·rw [if_pos c97] at H
               have c97b0 := decide_eq_true c97; clear c97; obtain ⟨y355, hy355⟩ : ∃ y_ : List (S76), y_ = (y311.set (t318 : Int).toNat (⟨(rd_T76 y311 (ji96)).f0, (rd_T76 y311 (ji96)).f1, (rd_T76 y311 (ji96)).f2, (rd_T76 y311 (ji96)).f3, (rd_T76 y311 (ji96)).f4, (rd_T76 y311 (ji96)).f5⟩ : S76)) := ⟨_, rfl⟩; replace H : (some (y355.set ((ji96) : Int).toNat (⟨(rd_T76 y311 t318).f0, (rd_T76 y311 t318).f1, (rd_T76 y311 t318).f2, (rd_T76 y311 t318).f3, (rd_T76 y311 t318).f4, (rd_T76 y311 t318).f5⟩ : S76))) = some r := rh_ hy355 H; have Ny355 := A_ hy355; clear hy355; obtain ⟨y356, hy356⟩ : ∃ y_ : List (S76), y_ = (y355.set ((ji96) : Int).toNat (⟨(rd_T76 y311 t318).f0, (rd_T76 y311 t318).f1, (rd_T76 y311 t318).f2, (rd_T76 y311 t318).f3, (rd_T76 y311 t318).f4, (rd_T76 y311 t318).f5⟩ : S76)) := ⟨_, rfl⟩; replace H : (some y356) = some r := rh_ hy356 H; have Ny356 := A_ hy356; clear hy356; obtain rfl := Option.some.inj H; have p352 : 0 ≤ (t318 : Int) := od_; have q352 : t318 < (y311.length : Int) := od_; obtain ⟨ad352, A352_5, c352_5, e352, hx352_0, hx352_1, hx352_2, hx352_3, hx352_4, hx352_5, hl352_5, hi352_5⟩ := at_T76 (Kd.N_reads' HO313.out).2.2 t318 p352 q352
               cases e352
               obtain ⟨ce352, hce352, hMe352, hcc352⟩ := Kd.N_get HO313.out z76 t318 p352 (by first | exact q352 | exact od_ | (have e_ := (Kd.N_reads' HO313.out).1; omega)); obtain ⟨ua352_5, uc352_5, rfl, ul352_5, ge352_5⟩ := k76_openF hMe352; have hv352_5 := hcc352 5 _ rfl; rw [add_field _ _ 5 (by omega)] at hv352_5; replace hv352_5 := Option.some.inj (hv352_5.symm.trans hx352_5)
               injection hv352_5 with hva_ hvn_ hvc_
               rw [hva_] at ge352_5; rw [hvc_] at ul352_5; have HL352_5 := A_ (show Kd.V (Kd.int .i64) 3 _ w.heap.size _ _ ((rd_T76 y311 t318).f5) from Kd.V_mk ul352_5 ge352_5); clear hva_ hvn_ hvc_ ge352_5 ul352_5 hcc352 hce352; have HR352_5 := A_ hi352_5; have HC352_5 := A_ hl352_5; clear hi352_5 hl352_5; replace p352 := eq_true p352; replace q352 := eq_true q352
               go_wp2_with (first | ((with_reducible refine gate_dst (N := 12) rfl ?_); refine box_event ?hg (N := 12) ?hd (cs := #[.int .i64 0, .int .i64 0, .int .i64 0, .int .i64 0, .int .i64 0, .slice none 0 0]) (t := 76) ?hr ?_; (case hd => rfl); (case hg => rfl); (case hr => first | (go_simp; done) | (go_simp; rfl)); intro gb353 hg w102 hbox hb; replace HO0 := A_ (Kd.V_below (Kd.V_elderB (vx_ HO0) gb353 (Nat.le_of_eq hg.symm)) hb); replace HO313 := A_ (Kd.N_below (Kd.N_elderB (nx_ HO313) gb353 (Nat.le_of_eq hg.symm)) hb); replace HL352_5 := A_ (Kd.V_below (Kd.V_elderB (vx_ HL352_5) gb353 (Nat.le_of_eq hg.symm)) hb); replace HR352_5 := A_ (Kd.C_below (cx_ HR352_5) hb); have BK353 := A_ (hbox); have GW353 := A_ ((by rw [hg]; exact (below_size (bx_ HB)) : w.heap.size ≤ gb353)); have GE353 := A_ ((by rw [hg]; exact (below_size (bx_ HB)) : w.heap.size ≤ gb353)); replace HB := A_ (below_step (bx_ HB) hb); clear hb hbox hg; obtain ⟨hcz103_0, hcz103_1, hcz103_2, hcz103_3, hcz103_4, hcz103_5⟩ := k6_ BK353; obtain ⟨hfz103_0, hfz103_1, hfz103_2, hfz103_3, hfz103_4, hfz103_5⟩ := f6_ BK353) | ((with_reducible refine gate_store (t := 76) (p := 12) rfl ?_); refine store_event (t := 76) (p := 12) (v := ?vo_w104) (w1 := ((((((w102.setCell ⟨gb353, 0, none⟩ (.int .i64 ((rd_T76 y311 t318).f0))).setCell ⟨gb353, 1, none⟩ (.int .i64 ((rd_T76 y311 t318).f1))).setCell ⟨gb353, 2, none⟩ (.int .i64 ((rd_T76 y311 t318).f2))).setCell ⟨gb353, 3, none⟩ (.int .i64 ((rd_T76 y311 t318).f3))).setCell ⟨gb353, 4, none⟩ (.int .i64 ((rd_T76 y311 t318).f4))).setCell ⟨gb353, 5, none⟩ (.slice A352_5 ((rd_T76 y311 t318).f5).length c352_5))) ?hg ?ho ?hn ?hr ?_; (case ho => rfl); (case hg => rfl); (case hn => rfl); (case hr => first | (go_simp; done) | (go_simp; rfl)); intro w104 hw; have n0_ : Aside0 (Kd.V k76 76 w104 w.heap.size (fun k_ => (P0_ k_ ∨ w.heap.size ≤ k_) ∧ some k_ ≠ (.slice (some ad352) y311.length co20 : Value).ownBlock ∧ k_ ≠ gb353) (.slice A0 l0.length c0) l0) := ⟨(by rw [hw]; exact (by (with_reducible repeat (first | apply Kd.V_alloc | apply Kd.V_drewN | apply Kd.V_drew)); exact Kd.V_mono (Kd.V_far (p := ⟨gb353, 5, none⟩) (Kd.V_far (p := ⟨gb353, 4, none⟩) (Kd.V_far (p := ⟨gb353, 3, none⟩) (Kd.V_far (p := ⟨gb353, 2, none⟩) (Kd.V_far (p := ⟨gb353, 1, none⟩) (Kd.V_far (p := ⟨gb353, 0, none⟩) (Kd.V_mono HO0.out (fun k_ hk => (⟨hk, hk.2⟩ : _ ∧ k_ ≠ gb353))) (fun _ hk => hk.2) (.int .i64 ((rd_T76 y311 t318).f0))) (fun _ hk => hk.2) (.int .i64 ((rd_T76 y311 t318).f1))) (fun _ hk => hk.2) (.int .i64 ((rd_T76 y311 t318).f2))) (fun _ hk => hk.2) (.int .i64 ((rd_T76 y311 t318).f3))) (fun _ hk => hk.2) (.int .i64 ((rd_T76 y311 t318).f4))) (fun _ hk => hk.2) (.slice A352_5 ((rd_T76 y311 t318).f5).length c352_5)) (fun _ hk => ⟨hk.1.1.1, ⟨hk.1.1.2, hk.1.2⟩⟩)))⟩; have n1_ : Aside0 (Kd.N k76 76 w104 w.heap.size (fun k_ => (P0_ k_ ∨ w.heap.size ≤ k_) ∧ k_ ≠ gb353) (.slice (some ad352) y311.length co20) y311) := ⟨(by rw [hw]; exact (by (with_reducible repeat (first | apply Kd.N_alloc | apply Kd.N_drewN | apply Kd.N_drew)); exact Kd.N_mono (Kd.N_far (p := ⟨gb353, 5, none⟩) (Kd.N_far (p := ⟨gb353, 4, none⟩) (Kd.N_far (p := ⟨gb353, 3, none⟩) (Kd.N_far (p := ⟨gb353, 2, none⟩) (Kd.N_far (p := ⟨gb353, 1, none⟩) (Kd.N_far (p := ⟨gb353, 0, none⟩) (Kd.N_mono HO313.out (fun k_ hk => (⟨hk, hk.2⟩ : _ ∧ k_ ≠ gb353))) (fun _ hk => hk.2) (.int .i64 ((rd_T76 y311 t318).f0))) (fun _ hk => hk.2) (.int .i64 ((rd_T76 y311 t318).f1))) (fun _ hk => hk.2) (.int .i64 ((rd_T76 y311 t318).f2))) (fun _ hk => hk.2) (.int .i64 ((rd_T76 y311 t318).f3))) (fun _ hk => hk.2) (.int .i64 ((rd_T76 y311 t318).f4))) (fun _ hk => hk.2) (.slice A352_5 ((rd_T76 y311 t318).f5).length c352_5)) (fun _ hk => ⟨hk.1.1, hk.1.2⟩)))⟩; have n2_ : Aside0 (Kd.V (Kd.int .i64) 3 w104 w.heap.size (fun k_ => (P0_ k_ ∨ w.heap.size ≤ k_) ∧ some k_ ≠ (.slice (some ad352) y311.length co20 : Value).ownBlock ∧ k_ ≠ gb353) (.slice A352_5 ((rd_T76 y311 t318).f5).length c352_5) ((rd_T76 y311 t318).f5)) := ⟨(by rw [hw]; exact (by (with_reducible repeat (first | apply Kd.V_alloc | apply Kd.V_drewN | apply Kd.V_drew)); exact Kd.V_mono (Kd.V_far (p := ⟨gb353, 5, none⟩) (Kd.V_far (p := ⟨gb353, 4, none⟩) (Kd.V_far (p := ⟨gb353, 3, none⟩) (Kd.V_far (p := ⟨gb353, 2, none⟩) (Kd.V_far (p := ⟨gb353, 1, none⟩) (Kd.V_far (p := ⟨gb353, 0, none⟩) (Kd.V_mono HL352_5.out (fun k_ hk => (⟨hk, hk.2⟩ : _ ∧ k_ ≠ gb353))) (fun _ hk => hk.2) (.int .i64 ((rd_T76 y311 t318).f0))) (fun _ hk => hk.2) (.int .i64 ((rd_T76 y311 t318).f1))) (fun _ hk => hk.2) (.int .i64 ((rd_T76 y311 t318).f2))) (fun _ hk => hk.2) (.int .i64 ((rd_T76 y311 t318).f3))) (fun _ hk => hk.2) (.int .i64 ((rd_T76 y311 t318).f4))) (fun _ hk => hk.2) (.slice A352_5 ((rd_T76 y311 t318).f5).length c352_5)) (fun _ hk => ⟨hk.1.1.1, ⟨hk.1.1.2, hk.1.2⟩⟩)))⟩; have n3_ : Aside0 (w104.heap[gb353]? = some (.cells #[.int .i64 ((rd_T76 y311 t318).f0), .int .i64 ((rd_T76 y311 t318).f1), .int .i64 ((rd_T76 y311 t318).f2), .int .i64 ((rd_T76 y311 t318).f3), .int .i64 ((rd_T76 y311 t318).f4), .slice A352_5 ((rd_T76 y311 t318).f5).length c352_5] 76 (0, 0))) := ⟨(by rw [hw]; exact (by (with_reducible repeat (first | refine blk_drewN ?_ _ | refine blk_drew ?_ | refine blk_alloc ?_ _)); refine blk_put (cs := #[.int .i64 ((rd_T76 y311 t318).f0), .int .i64 ((rd_T76 y311 t318).f1), .int .i64 ((rd_T76 y311 t318).f2), .int .i64 ((rd_T76 y311 t318).f3), .int .i64 ((rd_T76 y311 t318).f4), .slice none 0 0]) ?_ 5 _ rfl; (with_reducible repeat (first | refine blk_drewN ?_ _ | refine blk_drew ?_ | refine blk_alloc ?_ _)); refine blk_put (cs := #[.int .i64 ((rd_T76 y311 t318).f0), .int .i64 ((rd_T76 y311 t318).f1), .int .i64 ((rd_T76 y311 t318).f2), .int .i64 ((rd_T76 y311 t318).f3), .int .i64 0, .slice none 0 0]) ?_ 4 _ rfl; (with_reducible repeat (first | refine blk_drewN ?_ _ | refine blk_drew ?_ | refine blk_alloc ?_ _)); refine blk_put (cs := #[.int .i64 ((rd_T76 y311 t318).f0), .int .i64 ((rd_T76 y311 t318).f1), .int .i64 ((rd_T76 y311 t318).f2), .int .i64 0, .int .i64 0, .slice none 0 0]) ?_ 3 _ rfl; (with_reducible repeat (first | refine blk_drewN ?_ _ | refine blk_drew ?_ | refine blk_alloc ?_ _)); refine blk_put (cs := #[.int .i64 ((rd_T76 y311 t318).f0), .int .i64 ((rd_T76 y311 t318).f1), .int .i64 0, .int .i64 0, .int .i64 0, .slice none 0 0]) ?_ 2 _ rfl; (with_reducible repeat (first | refine blk_drewN ?_ _ | refine blk_drew ?_ | refine blk_alloc ?_ _)); refine blk_put (cs := #[.int .i64 ((rd_T76 y311 t318).f0), .int .i64 0, .int .i64 0, .int .i64 0, .int .i64 0, .slice none 0 0]) ?_ 1 _ rfl; (with_reducible repeat (first | refine blk_drewN ?_ _ | refine blk_drew ?_ | refine blk_alloc ?_ _)); refine blk_put (cs := #[.int .i64 0, .int .i64 0, .int .i64 0, .int .i64 0, .int .i64 0, .slice none 0 0]) ?_ 0 _ rfl; (with_reducible repeat (first | refine blk_drewN ?_ _ | refine blk_drew ?_ | refine blk_alloc ?_ _)); exact BK353.out))⟩; have n4_ : Aside0 (Below w.heap.size w w104) := ⟨(by rw [hw]; exact (by repeat (first | (with_reducible first | exact HB.out | apply below_alloc | apply pw_below_drewN | apply below_drew1 | refine below_set ?_ GE353.out) | exact HB.out)))⟩; clear hw HO0 HO313 HL352_5 BK353 HB; have HO0 := n0_; have HO313 := n1_; have HL352_5 := n2_; have BK353 := n3_; have HB := n4_; clear n0_ n1_ n2_ n3_ n4_; have p354 : 0 ≤ ((ji96) : Int) := od_; have q354 : (ji96) < (y311.length : Int) := od_; obtain ⟨ad354, A354_5, c354_5, e354, hx354_0, hx354_1, hx354_2, hx354_3, hx354_4, hx354_5, hl354_5, hi354_5⟩ := at_T76 (Kd.N_reads' HO313.out).2.2 (ji96) p354 q354; obtain rfl : ad352 = ad354 := (by injection e354); obtain ⟨ce354, hce354, hMe354, hcc354⟩ := Kd.N_get HO313.out z76 (ji96) p354 (by first | exact q354 | exact od_ | (have e_ := (Kd.N_reads' HO313.out).1; omega)); obtain ⟨ua354_5, uc354_5, rfl, ul354_5, ge354_5⟩ := k76_openF hMe354; have hv354_5 := hcc354 5 _ rfl; rw [add_field _ _ 5 (by omega)] at hv354_5; replace hv354_5 := Option.some.inj (hv354_5.symm.trans hx354_5); injection hv354_5 with hva_ hvn_ hvc_; rw [hva_] at ge354_5; rw [hvc_] at ul354_5; have HL354_5 := A_ (show Kd.V (Kd.int .i64) 3 _ w.heap.size _ _ ((rd_T76 y311 (ji96)).f5) from Kd.V_mk ul354_5 ge354_5); clear hva_ hvn_ hvc_ ge354_5 ul354_5; clear hcc354 hce354; have HR354_5 := A_ hi354_5; have HC354_5 := A_ hl354_5; clear hi354_5 hl354_5; replace p354 := eq_true p354; replace q354 := eq_true q354; have p98 : 0 ≤ (t318 : Int) := od_; have q98 : (t318 : Int) < ((y311.length : Int) : Int) := od_; obtain ⟨go98, co98, eo98, gb98, gl98, cl98, HG98⟩ := Kd.N_form HO313.out (by omega); (first | cases eo98 | (injection eo98 with ea_ en_ ec_; (first | subst ea_ | (injection ea_ with ea_; subst ea_)); subst ec_; clear en_)); have GB98 := A_ gb98; have GG98 := A_ HG98; clear gb98 gl98 HG98; (first | simp only [add_plain] at hx352_0 | skip); (first | simp only [add_plain] at hx352_1 | skip); (first | simp only [add_plain] at hx352_2 | skip); (first | simp only [add_plain] at hx352_3 | skip); (first | simp only [add_plain] at hx352_4 | skip); (first | simp only [add_plain] at hx352_5 | skip); (first | simp only [add_plain] at hx354_0 | skip); (first | simp only [add_plain] at hx354_1 | skip); (first | simp only [add_plain] at hx354_2 | skip); (first | simp only [add_plain] at hx354_3 | skip); (first | simp only [add_plain] at hx354_4 | skip); (first | simp only [add_plain] at hx354_5 | skip); obtain ⟨ce98, hcl98, hM98, hcc98, hfr98⟩ := Kd.N_elem HO313.out z76 (t318 : Int) p98 q98; obtain ⟨ua98_5, uc98_5, rfl, ul98_5, ge98_5⟩ := k76_openF hM98; have hx98_0 : w104.cell? ⟨go98, (t318 : Int).toNat * 6, none⟩ = some (.int .i64 ((rd_T76 y311 t318).f0)) := hcc98 0 _ rfl; have hx98_1 : w104.cell? ⟨go98, (t318 : Int).toNat * 6 + 1, none⟩ = some (.int .i64 ((rd_T76 y311 t318).f1)) := hcc98 1 _ rfl; have hx98_2 : w104.cell? ⟨go98, (t318 : Int).toNat * 6 + 2, none⟩ = some (.int .i64 ((rd_T76 y311 t318).f2)) := hcc98 2 _ rfl; have hx98_3 : w104.cell? ⟨go98, (t318 : Int).toNat * 6 + 3, none⟩ = some (.int .i64 ((rd_T76 y311 t318).f3)) := hcc98 3 _ rfl; have hx98_4 : w104.cell? ⟨go98, (t318 : Int).toNat * 6 + 4, none⟩ = some (.int .i64 ((rd_T76 y311 t318).f4)) := hcc98 4 _ rfl; have hx98_5 : w104.cell? ⟨go98, (t318 : Int).toNat * 6 + 5, none⟩ = some (.slice ua98_5 ((rd_T76 y311 t318).f5).length uc98_5) := hcc98 5 _ rfl; have hf98_0 : w104.frozen? ⟨go98, (t318 : Int).toNat * 6, none⟩ = false := hfr98 0; have hf98_1 : w104.frozen? ⟨go98, (t318 : Int).toNat * 6 + 1, none⟩ = false := hfr98 1; have hf98_2 : w104.frozen? ⟨go98, (t318 : Int).toNat * 6 + 2, none⟩ = false := hfr98 2; have hf98_3 : w104.frozen? ⟨go98, (t318 : Int).toNat * 6 + 3, none⟩ = false := hfr98 3; have hf98_4 : w104.frozen? ⟨go98, (t318 : Int).toNat * 6 + 4, none⟩ = false := hfr98 4; have hf98_5 : w104.frozen? ⟨go98, (t318 : Int).toNat * 6 + 5, none⟩ = false := hfr98 5; clear hcl98 hcc98 hfr98 hM98; replace p98 := eq_true p98; replace q98 := eq_true q98; have HX105 := A_ (show Kd.N k76 76 w104 w.heap.size (fun k_ => (P0_ k_ ∨ w.heap.size ≤ k_) ∧ k_ ≠ gb353) (.slice (some ⟨go98, 0, none⟩) y311.length co20) y311 from (nx_ HO313)); obtain ⟨ce105, hcl105, hM105, hcc105, hfr105⟩ := Kd.N_elem HX105.out z76 (t318 : Int) (od_) (by have h_ : (t318 : Int) < ((y311.length : Int) : Int) := od_; first | exact h_ | (have e_ := (Kd.N_reads' HO313.out).1; omega) | simpa using h_); obtain ⟨ua105_5, uc105_5, rfl, ul105_5, ge105_5⟩ := k76_openF hM105; have HP105 := Kd.N_seg HX105.out (t318 : Int) (od_) (by have h_ : (t318 : Int) < ((y311.length : Int) : Int) := od_; first | exact h_ | (have e_ := (Kd.N_reads' HO313.out).1; omega) | simpa using h_) (seg := [.int .i64 ((rd_T76 y311 (ji96)).f0), .int .i64 ((rd_T76 y311 (ji96)).f1), .int .i64 ((rd_T76 y311 (ji96)).f2), .int .i64 ((rd_T76 y311 (ji96)).f3), .int .i64 ((rd_T76 y311 (ji96)).f4), .slice A354_5 ((rd_T76 y311 (ji96)).f5).length c354_5]) (j := 0) hcl105 hcc105 (show 6 ≤ 6 from by decide) (x' := (⟨(rd_T76 y311 (ji96)).f0, (rd_T76 y311 (ji96)).f1, (rd_T76 y311 (ji96)).f2, (rd_T76 y311 (ji96)).f3, (rd_T76 y311 (ji96)).f4, (rd_T76 y311 (ji96)).f5⟩ : S76)) (k76_mkF _ _ (⟨(rd_T76 y311 (ji96)).f0, (rd_T76 y311 (ji96)).f1, (rd_T76 y311 (ji96)).f2, (rd_T76 y311 (ji96)).f3, (rd_T76 y311 (ji96)).f4, (rd_T76 y311 (ji96)).f5⟩ : S76) (Kd.V_reads' (Kd.V_mono (ok' := (fun k_ => ((fun k_ => (P0_ k_ ∨ w.heap.size ≤ k_) ∧ k_ ≠ gb353)) k_ ∧ k_ ≠ go98)) (HL354_5.out) (fun k_ hk => ⟨⟨hk.1.1, hk.1.2⟩, fun e_ => (hk.2) (by rw [e_]; rfl)⟩))).2.1 (Kd.V_F (Kd.V_mono (ok' := (fun k_ => ((fun k_ => (P0_ k_ ∨ w.heap.size ≤ k_) ∧ k_ ≠ gb353)) k_ ∧ k_ ≠ go98)) (HL354_5.out) (fun k_ hk => ⟨⟨hk.1.1, hk.1.2⟩, fun e_ => (hk.2) (by rw [e_]; rfl)⟩)))) (fun _ hk => hk); have hx105_0 := hcc105 0 _ rfl; (try simp only [show (k76).sz = 6 from rfl, Nat.mul_one, Nat.add_zero] at hx105_0); have hf105_0 := hfr105 0; (try simp only [show (k76).sz = 6 from rfl, Nat.mul_one, Nat.add_zero] at hf105_0); have hx105_1 := hcc105 1 _ rfl; (try simp only [show (k76).sz = 6 from rfl, Nat.mul_one, Nat.add_zero] at hx105_1); have hf105_1 := hfr105 1; (try simp only [show (k76).sz = 6 from rfl, Nat.mul_one, Nat.add_zero] at hf105_1); have hx105_2 := hcc105 2 _ rfl; (try simp only [show (k76).sz = 6 from rfl, Nat.mul_one, Nat.add_zero] at hx105_2); have hf105_2 := hfr105 2; (try simp only [show (k76).sz = 6 from rfl, Nat.mul_one, Nat.add_zero] at hf105_2); have hx105_3 := hcc105 3 _ rfl; (try simp only [show (k76).sz = 6 from rfl, Nat.mul_one, Nat.add_zero] at hx105_3); have hf105_3 := hfr105 3; (try simp only [show (k76).sz = 6 from rfl, Nat.mul_one, Nat.add_zero] at hf105_3); have hx105_4 := hcc105 4 _ rfl; (try simp only [show (k76).sz = 6 from rfl, Nat.mul_one, Nat.add_zero] at hx105_4); have hf105_4 := hfr105 4; (try simp only [show (k76).sz = 6 from rfl, Nat.mul_one, Nat.add_zero] at hf105_4); have hx105_5 := hcc105 5 _ rfl; (try simp only [show (k76).sz = 6 from rfl, Nat.mul_one, Nat.add_zero] at hx105_5); have hf105_5 := hfr105 5; (try simp only [show (k76).sz = 6 from rfl, Nat.mul_one, Nat.add_zero] at hf105_5); clear hcl105 hcc105 hfr105 hM105) | ((with_reducible refine gate_store (t := 76) (p := 51) rfl ?_); refine store_event (t := 76) (p := 51) (v := ?vo_w106) (w1 := ((((((w104.setCell ⟨go98, (t318 : Int).toNat * 6, none⟩ (.int .i64 ((rd_T76 y311 (ji96)).f0))).setCell ⟨go98, (t318 : Int).toNat * 6 + 1, none⟩ (.int .i64 ((rd_T76 y311 (ji96)).f1))).setCell ⟨go98, (t318 : Int).toNat * 6 + 2, none⟩ (.int .i64 ((rd_T76 y311 (ji96)).f2))).setCell ⟨go98, (t318 : Int).toNat * 6 + 3, none⟩ (.int .i64 ((rd_T76 y311 (ji96)).f3))).setCell ⟨go98, (t318 : Int).toNat * 6 + 4, none⟩ (.int .i64 ((rd_T76 y311 (ji96)).f4))).setCell ⟨go98, (t318 : Int).toNat * 6 + 5, none⟩ (.slice A354_5 ((rd_T76 y311 (ji96)).f5).length c354_5))) ?hg ?ho ?hn ?hr ?_; (case ho => rfl); (case hg => rfl); (case hn => rfl); (case hr => first | (go_simp; done) | (go_simp; rfl)); intro w106 hw; have hg : w104.grownBy w106 (some go98) := (by rw [hw]; exact HP105.2); have hp_ : Kd.N k76 76 w106 w.heap.size (fun k_ => (P0_ k_ ∨ w.heap.size ≤ k_) ∧ k_ ≠ gb353) (.slice (some ⟨go98, 0, none⟩) y311.length co20) y355 := (by rw [hw, Ny355.out]; exact HP105.1); clear HP105; replace HO0 := A_ (Kd.V_afterv (v := (.slice (some ⟨go98, 0, none⟩) y311.length co20)) (v1 := (.slice (some ⟨go98, 0, none⟩) y311.length co20)) (ok := (fun k_ => (P0_ k_ ∨ w.heap.size ≤ k_) ∧ k_ ≠ gb353)) (by (with_reducible repeat (first | apply Kd.V_alloc | apply Kd.V_drewN | apply Kd.V_drew)); exact Kd.V_mono HO0.out (fun _ hk => ⟨⟨hk.1, hk.2.2⟩, hk.2.1⟩)) hg (.inl rfl)); replace HL352_5 := A_ (Kd.V_afterv (v := (.slice (some ⟨go98, 0, none⟩) y311.length co20)) (v1 := (.slice (some ⟨go98, 0, none⟩) y311.length co20)) (ok := (fun k_ => (P0_ k_ ∨ w.heap.size ≤ k_) ∧ k_ ≠ gb353)) (by (with_reducible repeat (first | apply Kd.V_alloc | apply Kd.V_drewN | apply Kd.V_drew)); exact Kd.V_mono HL352_5.out (fun _ hk => ⟨⟨hk.1, hk.2.2⟩, hk.2.1⟩)) hg (.inl rfl)); replace BK353 := A_ (blk_grown (g := gb353) (o := .cells #[.int .i64 ((rd_T76 y311 t318).f0), .int .i64 ((rd_T76 y311 t318).f1), .int .i64 ((rd_T76 y311 t318).f2), .int .i64 ((rd_T76 y311 t318).f3), .int .i64 ((rd_T76 y311 t318).f4), .slice A352_5 ((rd_T76 y311 t318).f5).length c352_5] 76 (0, 0)) (kx_ BK353) hg (Kd.N_away HO313.out (fun _ hk => hk.2))); replace HO313 := A_ (hp_); replace HL354_5 := A_ (Kd.V_afterv (v := (.slice (some ⟨go98, 0, none⟩) y311.length co20)) (v1 := (.slice (some ⟨go98, 0, none⟩) y311.length co20)) (ok := (fun k_ => (P0_ k_ ∨ w.heap.size ≤ k_) ∧ k_ ≠ gb353)) (vx_ HL354_5) hg (.inl rfl)); replace HB := A_ ((by rw [hw]; exact below_set (below_set (below_set (below_set (below_set (below_set (HB.out) GB98.out) GB98.out) GB98.out) GB98.out) GB98.out) GB98.out : Below w.heap.size w w106)); clear hg hw hp_; obtain ⟨hcz107_0, hcz107_1, hcz107_2, hcz107_3, hcz107_4, hcz107_5⟩ := k6_ BK353; obtain ⟨hfz107_0, hfz107_1, hfz107_2, hfz107_3, hfz107_4, hfz107_5⟩ := f6_ BK353; have p99 : 0 ≤ ((ji96) : Int) := od_; have q99 : ((ji96) : Int) < ((y311.length : Int) : Int) := od_; obtain ⟨ce99, hcl99, hM99, hcc99, hfr99⟩ := Kd.N_elem HO313.out z76 ((ji96) : Int) p99 q99; obtain ⟨ua99_5, uc99_5, rfl, ul99_5, ge99_5⟩ := k76_openF hM99; have hx99_0 : w106.cell? ⟨go98, ((ji96) : Int).toNat * 6, none⟩ = some (.int .i64 ((rd_T76 y355 (ji96)).f0)) := hcc99 0 _ rfl; have hx99_1 : w106.cell? ⟨go98, ((ji96) : Int).toNat * 6 + 1, none⟩ = some (.int .i64 ((rd_T76 y355 (ji96)).f1)) := hcc99 1 _ rfl; have hx99_2 : w106.cell? ⟨go98, ((ji96) : Int).toNat * 6 + 2, none⟩ = some (.int .i64 ((rd_T76 y355 (ji96)).f2)) := hcc99 2 _ rfl; have hx99_3 : w106.cell? ⟨go98, ((ji96) : Int).toNat * 6 + 3, none⟩ = some (.int .i64 ((rd_T76 y355 (ji96)).f3)) := hcc99 3 _ rfl; have hx99_4 : w106.cell? ⟨go98, ((ji96) : Int).toNat * 6 + 4, none⟩ = some (.int .i64 ((rd_T76 y355 (ji96)).f4)) := hcc99 4 _ rfl; have hx99_5 : w106.cell? ⟨go98, ((ji96) : Int).toNat * 6 + 5, none⟩ = some (.slice ua99_5 ((rd_T76 y355 (ji96)).f5).length uc99_5) := hcc99 5 _ rfl; have hf99_0 : w106.frozen? ⟨go98, ((ji96) : Int).toNat * 6, none⟩ = false := hfr99 0; have hf99_1 : w106.frozen? ⟨go98, ((ji96) : Int).toNat * 6 + 1, none⟩ = false := hfr99 1; have hf99_2 : w106.frozen? ⟨go98, ((ji96) : Int).toNat * 6 + 2, none⟩ = false := hfr99 2; have hf99_3 : w106.frozen? ⟨go98, ((ji96) : Int).toNat * 6 + 3, none⟩ = false := hfr99 3; have hf99_4 : w106.frozen? ⟨go98, ((ji96) : Int).toNat * 6 + 4, none⟩ = false := hfr99 4; have hf99_5 : w106.frozen? ⟨go98, ((ji96) : Int).toNat * 6 + 5, none⟩ = false := hfr99 5; clear hcl99 hcc99 hfr99 hM99; replace p99 := eq_true p99; replace q99 := eq_true q99; have HX108 := A_ (show Kd.N k76 76 w106 w.heap.size (fun k_ => (P0_ k_ ∨ w.heap.size ≤ k_) ∧ k_ ≠ gb353) (.slice (some ⟨go98, 0, none⟩) y311.length co20) y355 from (nx_ HO313)); obtain ⟨ce108, hcl108, hM108, hcc108, hfr108⟩ := Kd.N_elem HX108.out z76 ((ji96) : Int) (od_) (by have h_ : ((ji96) : Int) < ((y311.length : Int) : Int) := od_; first | exact h_ | (have e_ := (Kd.N_reads' HO313.out).1; omega) | simpa using h_); obtain ⟨ua108_5, uc108_5, rfl, ul108_5, ge108_5⟩ := k76_openF hM108; have HP108 := Kd.N_seg HX108.out ((ji96) : Int) (od_) (by have h_ : ((ji96) : Int) < ((y311.length : Int) : Int) := od_; first | exact h_ | (have e_ := (Kd.N_reads' HO313.out).1; omega) | simpa using h_) (seg := [.int .i64 ((rd_T76 y311 t318).f0), .int .i64 ((rd_T76 y311 t318).f1), .int .i64 ((rd_T76 y311 t318).f2), .int .i64 ((rd_T76 y311 t318).f3), .int .i64 ((rd_T76 y311 t318).f4), .slice A352_5 ((rd_T76 y311 t318).f5).length c352_5]) (j := 0) hcl108 hcc108 (show 6 ≤ 6 from by decide) (x' := (⟨(rd_T76 y311 t318).f0, (rd_T76 y311 t318).f1, (rd_T76 y311 t318).f2, (rd_T76 y311 t318).f3, (rd_T76 y311 t318).f4, (rd_T76 y311 t318).f5⟩ : S76)) (k76_mkF _ _ (⟨(rd_T76 y311 t318).f0, (rd_T76 y311 t318).f1, (rd_T76 y311 t318).f2, (rd_T76 y311 t318).f3, (rd_T76 y311 t318).f4, (rd_T76 y311 t318).f5⟩ : S76) (Kd.V_reads' (Kd.V_mono (ok' := (fun k_ => ((fun k_ => (P0_ k_ ∨ w.heap.size ≤ k_) ∧ k_ ≠ gb353)) k_ ∧ k_ ≠ go98)) (HL352_5.out) (fun k_ hk => ⟨⟨hk.1.1, hk.1.2⟩, fun e_ => (hk.2) (by rw [e_]; rfl)⟩))).2.1 (Kd.V_F (Kd.V_mono (ok' := (fun k_ => ((fun k_ => (P0_ k_ ∨ w.heap.size ≤ k_) ∧ k_ ≠ gb353)) k_ ∧ k_ ≠ go98)) (HL352_5.out) (fun k_ hk => ⟨⟨hk.1.1, hk.1.2⟩, fun e_ => (hk.2) (by rw [e_]; rfl)⟩)))) (fun _ hk => hk); have hx108_0 := hcc108 0 _ rfl; (try simp only [show (k76).sz = 6 from rfl, Nat.mul_one, Nat.add_zero] at hx108_0); have hf108_0 := hfr108 0; (try simp only [show (k76).sz = 6 from rfl, Nat.mul_one, Nat.add_zero] at hf108_0); have hx108_1 := hcc108 1 _ rfl; (try simp only [show (k76).sz = 6 from rfl, Nat.mul_one, Nat.add_zero] at hx108_1); have hf108_1 := hfr108 1; (try simp only [show (k76).sz = 6 from rfl, Nat.mul_one, Nat.add_zero] at hf108_1); have hx108_2 := hcc108 2 _ rfl; (try simp only [show (k76).sz = 6 from rfl, Nat.mul_one, Nat.add_zero] at hx108_2); have hf108_2 := hfr108 2; (try simp only [show (k76).sz = 6 from rfl, Nat.mul_one, Nat.add_zero] at hf108_2); have hx108_3 := hcc108 3 _ rfl; (try simp only [show (k76).sz = 6 from rfl, Nat.mul_one, Nat.add_zero] at hx108_3); have hf108_3 := hfr108 3; (try simp only [show (k76).sz = 6 from rfl, Nat.mul_one, Nat.add_zero] at hf108_3); have hx108_4 := hcc108 4 _ rfl; (try simp only [show (k76).sz = 6 from rfl, Nat.mul_one, Nat.add_zero] at hx108_4); have hf108_4 := hfr108 4; (try simp only [show (k76).sz = 6 from rfl, Nat.mul_one, Nat.add_zero] at hf108_4); have hx108_5 := hcc108 5 _ rfl; (try simp only [show (k76).sz = 6 from rfl, Nat.mul_one, Nat.add_zero] at hx108_5); have hf108_5 := hfr108 5; (try simp only [show (k76).sz = 6 from rfl, Nat.mul_one, Nat.add_zero] at hf108_5); clear hcl108 hcc108 hfr108 hM108) | ((with_reducible refine gate_store (t := 76) (p := 56) rfl ?_); refine store_event (t := 76) (p := 56) (v := ?vo_w109) (w1 := ((((((w106.setCell ⟨go98, ((ji96) : Int).toNat * 6, none⟩ (.int .i64 ((rd_T76 y311 t318).f0))).setCell ⟨go98, ((ji96) : Int).toNat * 6 + 1, none⟩ (.int .i64 ((rd_T76 y311 t318).f1))).setCell ⟨go98, ((ji96) : Int).toNat * 6 + 2, none⟩ (.int .i64 ((rd_T76 y311 t318).f2))).setCell ⟨go98, ((ji96) : Int).toNat * 6 + 3, none⟩ (.int .i64 ((rd_T76 y311 t318).f3))).setCell ⟨go98, ((ji96) : Int).toNat * 6 + 4, none⟩ (.int .i64 ((rd_T76 y311 t318).f4))).setCell ⟨go98, ((ji96) : Int).toNat * 6 + 5, none⟩ (.slice A352_5 ((rd_T76 y311 t318).f5).length c352_5))) ?hg ?ho ?hn ?hr ?_; (case ho => rfl); (case hg => rfl); (case hn => rfl); (case hr => first | (go_simp; done) | (go_simp; rfl)); intro w109 hw; have hg : w106.grownBy w109 (some go98) := (by rw [hw]; exact HP108.2); have hp_ : Kd.N k76 76 w109 w.heap.size (fun k_ => (P0_ k_ ∨ w.heap.size ≤ k_) ∧ k_ ≠ gb353) (.slice (some ⟨go98, 0, none⟩) y311.length co20) y356 := (by rw [hw, Ny356.out]; exact HP108.1); clear HP108; replace HO0 := A_ (Kd.V_afterv (v := (.slice (some ⟨go98, 0, none⟩) y311.length co20)) (v1 := (.slice (some ⟨go98, 0, none⟩) y311.length co20)) (ok := (fun k_ => (P0_ k_ ∨ w.heap.size ≤ k_) ∧ k_ ≠ gb353)) (vx_ HO0) hg (.inl rfl)); replace HL352_5 := A_ (Kd.V_afterv (v := (.slice (some ⟨go98, 0, none⟩) y311.length co20)) (v1 := (.slice (some ⟨go98, 0, none⟩) y311.length co20)) (ok := (fun k_ => (P0_ k_ ∨ w.heap.size ≤ k_) ∧ k_ ≠ gb353)) (vx_ HL352_5) hg (.inl rfl)); replace BK353 := A_ (blk_grown (g := gb353) (o := .cells #[.int .i64 ((rd_T76 y311 t318).f0), .int .i64 ((rd_T76 y311 t318).f1), .int .i64 ((rd_T76 y311 t318).f2), .int .i64 ((rd_T76 y311 t318).f3), .int .i64 ((rd_T76 y311 t318).f4), .slice A352_5 ((rd_T76 y311 t318).f5).length c352_5] 76 (0, 0)) (kx_ BK353) hg (Kd.N_away HO313.out (fun _ hk => hk.2))); replace HO313 := A_ (hp_); replace HL354_5 := A_ (Kd.V_afterv (v := (.slice (some ⟨go98, 0, none⟩) y311.length co20)) (v1 := (.slice (some ⟨go98, 0, none⟩) y311.length co20)) (ok := (fun k_ => (P0_ k_ ∨ w.heap.size ≤ k_) ∧ k_ ≠ gb353)) (vx_ HL354_5) hg (.inl rfl)); replace HB := A_ ((by rw [hw]; exact below_set (below_set (below_set (below_set (below_set (below_set (HB.out) GB98.out) GB98.out) GB98.out) GB98.out) GB98.out) GB98.out : Below w.heap.size w w109)); clear hg hw hp_))
               go_ret; exact ⟨_, by first | rfl | (simp [errW_none, errW_some] <;> rfl) | (simp only [← hji96]; first | rfl | (simp [errW_none, errW_some] <;> rfl)) | (simp [*, errW_none, errW_some] <;> rfl), by (with_reducible repeat (first | apply Kd.N_alloc | apply Kd.N_drewN | apply Kd.N_drew)); exact Kd.N_mono HO313.out (fun _ hk => hk.1), by repeat (first | (with_reducible first | exact HB.out | apply below_alloc | apply pw_below_drewN | apply below_drew1 | refine below_set ?_ GE353.out) | exact HB.out)⟩
              (· rw [if_neg c97] at H; exact absurd H (by simp))
             (· rw [if_neg c95] at H; exact absurd H (by simp))
            (· rw [if_neg c94] at H; exact absurd H (by simp))
           ·rw [if_neg c93] at H
            have c93b0 := decide_eq_false c93; clear c93; obtain rfl := Option.some.inj H
            try go_wp2
            go_ret; exact ⟨_, ew_, by (with_reducible repeat (first | apply Kd.N_alloc | apply Kd.N_drewN | apply Kd.N_drew)); exact HO313.out, bx_ HB⟩
 (· rw [if_neg c5] at H; exact absurd H (by simp))
def dioramaref36_Turn.l0 : Nat → List (S76) → List (S76) → Int → Option ((List (S76)))
 | 0, _, _, _ => none
 | k + 1, x0, x3, x4 => if x4 ≥ 0 then (if 0 ≤ x4 then (if x4 < (x0.length : Int) then (if ((rd_T76 x0 x4).f2) = (-1) then (if ((rd_T76 x0 x4).f2) = (-2) then (if x3.length < 2199023255552 then (dioramaref36_Turn.l0 k x0 (x3 ++ [(⟨(rd_T76 x0 x4).f0, (rd_T76 x0 x4).f1, (-1), (rd_T76 x0 x4).f4, (rd_T76 x0 x4).f3, (rd_T76 x0 x4).f5⟩ : S76)]) (wrap64 (x4 - 1))) else (none)) else (if x3.length < 2199023255552 then (dioramaref36_Turn.l0 k x0 (x3 ++ [(⟨(rd_T76 x0 x4).f0, (rd_T76 x0 x4).f1, (-2), (rd_T76 x0 x4).f4, (rd_T76 x0 x4).f3, (rd_T76 x0 x4).f5⟩ : S76)]) (wrap64 (x4 - 1))) else (none))) else (if ((rd_T76 x0 x4).f2) = (-2) then (if x3.length < 2199023255552 then (dioramaref36_Turn.l0 k x0 (x3 ++ [(⟨(rd_T76 x0 x4).f0, (rd_T76 x0 x4).f1, (-1), (rd_T76 x0 x4).f4, (rd_T76 x0 x4).f3, (rd_T76 x0 x4).f5⟩ : S76)]) (wrap64 (x4 - 1))) else (none)) else (if x3.length < 2199023255552 then (dioramaref36_Turn.l0 k x0 (x3 ++ [(⟨(rd_T76 x0 x4).f0, (rd_T76 x0 x4).f1, (rd_T76 x0 x4).f2, (rd_T76 x0 x4).f4, (rd_T76 x0 x4).f3, (rd_T76 x0 x4).f5⟩ : S76)]) (wrap64 (x4 - 1))) else (none)))) else (none)) else (none)) else (some x3)
def dioramaref36_Turn.f (k : Nat) (l0 : List (S76)) : Option ((List (S76))) := dioramaref36_Turn.l0 k l0 ([] : List (S76)) (wrap64 ((l0.length : Int) - 1))
set_option maxHeartbeats 8000000 in
set_option maxRecDepth 100000 in
theorem dioramaref36_Turn.calls (k : Nat) (P0_ : Nat → Prop) (A0 : Option Addr) (c0 : Nat) (l0 : List (S76)) (r : List (S76)) (w : World) (hs0 : Kd.V k76 76 w w.heap.size (fun k_ => P0_ k_) (.slice A0 l0.length c0) l0) (h : dioramaref36_Turn.f k l0 = some r) :
  Calls Try.prog 24 #[.slice A0 l0.length c0] w fun e w' => ∃ v0_ : Value, e = .returned (v0_) ∧ Kd.N k76 76 w' w.heap.size (fun k_ => (P0_ k_ ∨ w.heap.size ≤ k_)) v0_ r ∧ Below w.heap.size w w' := by
 have hu76 := Try.underlying76; have HV := A_ hs0; have HC := A_ (Kd.V_reads' hs0).2.2; have hlen := (Kd.V_reads' hs0).2.2.2.1; have H : (dioramaref36_Turn.l0 k l0 ([] : List (S76)) (wrap64 ((l0.length : Int) - 1))) = some r := h; rw [wrap64_id (by omega) (by omega)] at H; have H' := A_ H; clear H h hs0
 go_enter Try.func24, Try.ntmps24
 go_wp2
 go_loopg [3, 4] k (fun kq v3 v4 w' => ∃ (x3 : List (S76)) (x4 : Int), v4 = .int .i64 x4 ∧ Aside0 (dioramaref36_Turn.l0 kq l0 x3 x4 = some r) ∧ Aside0 (kq ≤ k) ∧ Aside0 (Kd.N k76 76 w' w.heap.size (fun k_ => (P0_ k_ ∨ w.heap.size ≤ k_)) v3 x3) ∧ Aside0 (Below w.heap.size w w'))
 case atStart => exact ⟨[], (l0.length : Int) - 1, by first | rfl | go_num, H', ⟨Nat.le_refl _⟩, ⟨Kd.N_nil _ _ _ _ _⟩, ⟨Below.refl _ _⟩⟩
 case round =>
  clear H'; obtain ⟨x3, x4, rfl, HA, HK1, HN, HB⟩ := hrel
  cases gk with
  | zero => exact absurd HA.out (by simp [dioramaref36_Turn.l0])
  | succ k1 =>
   have H := HA.out; clear HA; simp only [dioramaref36_Turn.l0] at H
   by_cases c2 : x4 ≥ 0
   ·have c3 : 0 ≤ x4 := c2
    rw [if_pos c2, if_pos c3] at H
    by_cases c4 : x4 < (l0.length : Int)
    ·rw [if_pos c4] at H
     have e9 : wrap64 (x4 - 1) = x4 - 1 := wrap64_id (by omega) (by omega); obtain ⟨ad, A5, c5, e, hx0, hx1, hx2, hx3, hx4, hx5, hl5, hi5⟩ := at_T76 HC.out x4 c3 c4
     cases e
     obtain ⟨ce, hce, hMe, hcc⟩ := Kd.V_get HV.out z76 x4 c3 c4; obtain ⟨ua, uc, rfl, ul, ge⟩ := k76_openF hMe; have hv := hcc 5 _ rfl; rw [add_field _ _ 5 (by omega)] at hv; replace hv := Option.some.inj (hv.symm.trans hx5)
     injection hv with hva hvn hvc
     rw [hva] at ge; have HF5 : Aside0 (Kd.F (Kd.int .i64) w (fun k_ => (P0_ k_ ∨ w.heap.size ≤ k_) ∧ some k_ ≠ (u3 : Value).ownBlock) A5 (rd_T76 l0 x4).f5.length (rd_T76 l0 x4).f5) := ⟨Kd.F_mono (Kd.F_bound ge) (fun k_ hk => ⟨.inl hk.1, fun e => absurd (Kd.N_base HN.out k_ e.symm) (Nat.not_le.2 hk.2)⟩)⟩; have HL5 := A_ hl5; clear hce hcc hva hvn hvc ge ul hl5 hi5; replace hx0 := cell_below HB.out hx0; replace hx1 := cell_below HB.out hx1; replace hx2 := cell_below HB.out hx2; replace hx3 := cell_below HB.out hx3; replace hx4 := cell_below HB.out hx4; replace hx5 := cell_below HB.out hx5; have hlt : (ad.add (x4.toNat * 6)).block < wr.heap.size := World.block_lt_of_cell? _ _ hx0; generalize rd_T76 l0 x4 = ch at hx0 hx1 hx2 hx3 hx4 hx5 HL5 HF5 H
     by_cases c5 : ch.f2 = -1
     ·have c6 : ¬ ch.f2 = -2 := by omega
      rw [if_pos c5, if_neg c6] at H; have q1 : (ch.f2 == -1) = true := beq_iff_eq.2 c5; have q2 : (ch.f2 == -2) = false := beq_eq_false_iff_ne.2 c6
      by_cases c7 : x3.length < 2199023255552
      ·rw [if_pos c7, e9] at H
       have H' := A_ H; clear H c5 c6
       go_wp2_with ((with_reducible refine gate_builtin (b := .append) (xs := #[.tmp 43, .tmp 45]) rfl ?_); at_builtin; refine Kd.N_append k76 (w0 := w) w.heap.size rfl (.tmp 43) (.tmp 45) 34 76 (.agg #[(.int .i64 0), (.int .i64 0), (.int .i64 0), (.int .i64 0), (.int .i64 0), (.slice none 0 0)]) 64 rfl Try.underlying34 info76 rfl (by decide) (by omega) u3 x3 (⟨ch.f0, ch.f1, (-2), ch.f4, ch.f3, ch.f5⟩ : S76) [.int .i64 ch.f0, .int .i64 ch.f1, .int .i64 (-2), .int .i64 ch.f4, .int .i64 ch.f3, .slice A5 ch.f5.length c5] (fun k_ => P0_ k_ ∨ w.heap.size ≤ k_) (fun k_ => (P0_ k_ ∨ w.heap.size ≤ k_) ∧ some k_ ≠ (u3 : Value).ownBlock) rfl (by show Value.slice (some ⟨wr.heap.size + 1, 0, none⟩) 1 1 = _; simp) ?aP (fun _ hk => hk) ?aF ?aO ?aB ?aS ?aL ?_; (case aP => exact k76_mkF _ _ (⟨ch.f0, ch.f1, (-2), ch.f4, ch.f3, ch.f5⟩ : S76) HL5.out (Kd.F_below HF5.out (below_alloc HB.out _))); (case aF => exact fun k_ hk => .inr (Nat.le_trans (below_alloc HB.out _).size hk)); (case aO => exact Kd.N_alloc HN.out _); (case aB => exact below_alloc HB.out _); (case aS => exact (below_alloc HB.out _).size); (case aL => omega); intro v7 w7 ho hb hg hat; have HN7 := A_ ho; have HB7 := A_ hb; clear ho hb hg hat)
       go_roundg k1
       case measure => have := HK1.out; omega
       case rel => exact ⟨x3 ++ [⟨ch.f0, ch.f1, (-2), ch.f4, ch.f3, ch.f5⟩], x4 - 1, by first | rfl | go_num, H', ⟨by have := HK1.out; omega⟩, HN7, HB7⟩
      (· rw [if_neg c7] at H; exact absurd H (by simp))
     ·by_cases c6 : ch.f2 = -2
      ·skip
       rw [if_neg c5, if_pos c6] at H; have q1 : (ch.f2 == -1) = false := beq_eq_false_iff_ne.2 c5; have q2 : (ch.f2 == -2) = true := beq_iff_eq.2 c6
       by_cases c7 : x3.length < 2199023255552
       ·rw [if_pos c7, e9] at H
        have H' := A_ H; clear H c5 c6
        go_wp2_with ((with_reducible refine gate_builtin (b := .append) (xs := #[.tmp 43, .tmp 45]) rfl ?_); at_builtin; refine Kd.N_append k76 (w0 := w) w.heap.size rfl (.tmp 43) (.tmp 45) 34 76 (.agg #[(.int .i64 0), (.int .i64 0), (.int .i64 0), (.int .i64 0), (.int .i64 0), (.slice none 0 0)]) 64 rfl Try.underlying34 info76 rfl (by decide) (by omega) u3 x3 (⟨ch.f0, ch.f1, (-1), ch.f4, ch.f3, ch.f5⟩ : S76) [.int .i64 ch.f0, .int .i64 ch.f1, .int .i64 (-1), .int .i64 ch.f4, .int .i64 ch.f3, .slice A5 ch.f5.length c5] (fun k_ => P0_ k_ ∨ w.heap.size ≤ k_) (fun k_ => (P0_ k_ ∨ w.heap.size ≤ k_) ∧ some k_ ≠ (u3 : Value).ownBlock) rfl (by show Value.slice (some ⟨wr.heap.size + 1, 0, none⟩) 1 1 = _; simp) ?aP (fun _ hk => hk) ?aF ?aO ?aB ?aS ?aL ?_; (case aP => exact k76_mkF _ _ (⟨ch.f0, ch.f1, (-1), ch.f4, ch.f3, ch.f5⟩ : S76) HL5.out (Kd.F_below HF5.out (below_alloc HB.out _))); (case aF => exact fun k_ hk => .inr (Nat.le_trans (below_alloc HB.out _).size hk)); (case aO => exact Kd.N_alloc HN.out _); (case aB => exact below_alloc HB.out _); (case aS => exact (below_alloc HB.out _).size); (case aL => omega); intro v7 w7 ho hb hg hat; have HN7 := A_ ho; have HB7 := A_ hb; clear ho hb hg hat)
        go_roundg k1
        case measure => have := HK1.out; omega
        case rel => exact ⟨x3 ++ [⟨ch.f0, ch.f1, (-1), ch.f4, ch.f3, ch.f5⟩], x4 - 1, by first | rfl | go_num, H', ⟨by have := HK1.out; omega⟩, HN7, HB7⟩
       (· rw [if_neg c7] at H; exact absurd H (by simp))
      ·skip
       rw [if_neg c5, if_neg c6] at H; have q1 : (ch.f2 == -1) = false := beq_eq_false_iff_ne.2 c5; have q2 : (ch.f2 == -2) = false := beq_eq_false_iff_ne.2 c6
       by_cases c7 : x3.length < 2199023255552
       ·rw [if_pos c7, e9] at H
        have H' := A_ H; clear H c5 c6
        go_wp2_with ((with_reducible refine gate_builtin (b := .append) (xs := #[.tmp 43, .tmp 45]) rfl ?_); at_builtin; refine Kd.N_append k76 (w0 := w) w.heap.size rfl (.tmp 43) (.tmp 45) 34 76 (.agg #[(.int .i64 0), (.int .i64 0), (.int .i64 0), (.int .i64 0), (.int .i64 0), (.slice none 0 0)]) 64 rfl Try.underlying34 info76 rfl (by decide) (by omega) u3 x3 (⟨ch.f0, ch.f1, ch.f2, ch.f4, ch.f3, ch.f5⟩ : S76) [.int .i64 ch.f0, .int .i64 ch.f1, .int .i64 ch.f2, .int .i64 ch.f4, .int .i64 ch.f3, .slice A5 ch.f5.length c5] (fun k_ => P0_ k_ ∨ w.heap.size ≤ k_) (fun k_ => (P0_ k_ ∨ w.heap.size ≤ k_) ∧ some k_ ≠ (u3 : Value).ownBlock) rfl (by show Value.slice (some ⟨wr.heap.size + 1, 0, none⟩) 1 1 = _; simp) ?aP (fun _ hk => hk) ?aF ?aO ?aB ?aS ?aL ?_; (case aP => exact k76_mkF _ _ (⟨ch.f0, ch.f1, ch.f2, ch.f4, ch.f3, ch.f5⟩ : S76) HL5.out (Kd.F_below HF5.out (below_alloc HB.out _))); (case aF => exact fun k_ hk => .inr (Nat.le_trans (below_alloc HB.out _).size hk)); (case aO => exact Kd.N_alloc HN.out _); (case aB => exact below_alloc HB.out _); (case aS => exact (below_alloc HB.out _).size); (case aL => omega); intro v7 w7 ho hb hg hat; have HN7 := A_ ho; have HB7 := A_ hb; clear ho hb hg hat)
        go_roundg k1
        case measure => have := HK1.out; omega
        case rel => exact ⟨x3 ++ [⟨ch.f0, ch.f1, ch.f2, ch.f4, ch.f3, ch.f5⟩], x4 - 1, by first | rfl | go_num, H', ⟨by have := HK1.out; omega⟩, HN7, HB7⟩
       (· rw [if_neg c7] at H; exact absurd H (by simp))
    (· rw [if_neg c4] at H; exact absurd H (by simp))
   (· rw [if_neg c2] at H; have q0 : decide (0 ≤ x4) = false := decide_eq_false c2; obtain rfl := Option.some.inj H; clear H c2; go_wp2; go_ret; exact ⟨_, rfl, HN.out, HB.out⟩)
def dioramaref01_Same.l0 : Nat → List Int → List Int → Int → Option (Bool)
 | 0, _, _, _ => none
 | k + 1, x0, x1, x5 => if x5 < (x0.length : Int) then (if 0 ≤ x5 then (if x5 < (x1.length : Int) then (if (rd x0 x5) = (rd x1 x5) then (dioramaref01_Same.l0 k x0 x1 (wrap64 (x5 + 1))) else (some false)) else (none)) else (none)) else (some true)
def dioramaref01_Same.f (k : Nat) (l0 : List Int) (l1 : List Int) : Option (Bool) := if (l0.length : Int) = (l1.length : Int) then (dioramaref01_Same.l0 k l0 l1 0) else (some false)
set_option maxHeartbeats 8000000 in
set_option maxRecDepth 100000 in
theorem dioramaref01_Same.calls (k : Nat) (A0 : Option Addr) (c0 : Nat) (l0 : List Int) (A1 : Option Addr) (c1 : Nat) (l1 : List Int) (r : Bool) (w : World) (hr0 : Kd.C (Kd.int .u8) w A0 l0.length l0) (hc0 : l0.length ≤ c0) (hr1 : Kd.C (Kd.int .u8) w A1 l1.length l1) (hc1 : l1.length ≤ c1) (h : dioramaref01_Same.f k l0 l1 = some r) :
  Calls Try.prog 26 #[.slice A0 l0.length c0, .slice A1 l1.length c1] w fun e w' => e = .returned (.bool r) ∧ Drawn0 w w' := by
 have HR0 := A_ hr0; have HC0 := A_ hc0; clear hr0 hc0; have HR1 := A_ hr1; have HC1 := A_ hc1; clear hr1 hc1; have H : (if (l0.length : Int) = (l1.length : Int) then (dioramaref01_Same.l0 k l0 l1 0) else (some false)) = some r := h; clear h
 by_cases c3 : (l0.length : Int) = (l1.length : Int)
 ·rw [if_pos c3] at H
  obtain ⟨c3b0, c3b1⟩ := be_ c3
  have c3b2 : (l0.length == l1.length) = true := by first | simpa using c3 | (simp at c3 ⊢; omega)
  clear c3; have H' := A_ H; clear H
  go_enter Try.func26, Try.ntmps26
  go_wp2
  repeat (go_quiet (fail); try go_wp2)
  go_loopg [5] k (fun kq v5 w' => ∃ (x5_1 : Int), v5 = .int .i64 x5_1 ∧ Aside0 (dioramaref01_Same.l0 kq l0 l1 x5_1 = some r) ∧ Aside0 (kq ≤ k) ∧ Drawn0 w w')
  case atStart => exact ⟨(0), rf_, H', ⟨Nat.le_refl _⟩, by repeat (first | exact Drawn0.refl _ | apply Drawn0.step)⟩
  case round =>
   clear H'
   try clear c3
   try clear c3b0
   try clear c3b1
   try clear c3b2
   obtain ⟨x5_1, rfl, HA, HK1, ⟨m1, rfl⟩⟩ := hrel
   cases gk with
   | zero => exact absurd HA.out (by simp [dioramaref01_Same.l0])
   | succ k1 =>
    have H := HA.out; clear HA; simp only [dioramaref01_Same.l0] at H
    by_cases c4 : x5_1 < (l0.length : Int)
    ·rw [if_pos c4] at H
     have c4b0 := decide_eq_true c4; clear c4
     by_cases c5 : 0 ≤ x5_1
     ·rw [if_pos c5] at H
      have c5b0 := decide_eq_true c5; clear c5
      by_cases c6 : x5_1 < (l1.length : Int)
      ·rw [if_pos c6] at H
       have c6b0 := decide_eq_true c6; clear c6
       by_cases c7 : (rd l0 x5_1) = (rd l1 x5_1)
       ·rw [if_pos c7] at H
        obtain ⟨c7b0, c7b1⟩ := be_ c7; clear c7; have H' := A_ H; clear H; have p452 : 0 ≤ (x5_1 : Int) := od_; have q452 : x5_1 < (l0.length : Int) := od_; obtain ⟨ad452, e452, hx452_0⟩ := Kd.at_int HR0.out x5_1 p452 q452
        cases e452
        replace p452 := eq_true p452; replace q452 := eq_true q452; have p453 : 0 ≤ (x5_1 : Int) := od_; have q453 : x5_1 < (l1.length : Int) := od_; obtain ⟨ad453, e453, hx453_0⟩ := Kd.at_int HR1.out x5_1 p453 q453
        cases e453
        replace p453 := eq_true p453; replace q453 := eq_true q453; go_wp2
        repeat (go_quiet (fail); try go_wp2)
        go_roundg k1
        case measure => have := HK1.out; omega
        case rel => exact ⟨(wrap64 (x5_1 + 1)), rf_, H', ⟨by have := HK1.out; omega⟩, by repeat (first | exact Drawn0.refl _ | apply Drawn0.step)⟩
       ·rw [if_neg c7] at H
        obtain ⟨c7b0, c7b1⟩ := bn_ c7; obtain rfl := Option.some.inj H; have p452 : 0 ≤ (x5_1 : Int) := od_; have q452 : x5_1 < (l0.length : Int) := od_; obtain ⟨ad452, e452, hx452_0⟩ := Kd.at_int HR0.out x5_1 p452 q452
        cases e452
        replace p452 := eq_true p452; replace q452 := eq_true q452; have p453 : 0 ≤ (x5_1 : Int) := od_; have q453 : x5_1 < (l1.length : Int) := od_; obtain ⟨ad453, e453, hx453_0⟩ := Kd.at_int HR1.out x5_1 p453 q453
        cases e453
        replace p453 := eq_true p453; replace q453 := eq_true q453; go_wp2
        repeat (go_quiet (fail); try go_wp2)
        go_ret; exact ⟨by first | rfl | (simp; done) | (simp [*]; done), by repeat (first | exact Drawn0.refl _ | apply Drawn0.step)⟩
      (· rw [if_neg c6] at H; exact absurd H (by simp))
     (· rw [if_neg c5] at H; exact absurd H (by simp))
    ·rw [if_neg c4] at H
     have c4b0 := decide_eq_false c4; clear c4; obtain rfl := Option.some.inj H; go_wp2
     repeat (go_quiet (fail); try go_wp2)
     go_ret; exact ⟨by first | rfl | (simp; done) | (simp [*]; done), by repeat (first | exact Drawn0.refl _ | apply Drawn0.step)⟩
 ·rw [if_neg c3] at H
  obtain ⟨c3b0, c3b1⟩ := bn_ c3
  have c3b2 : (l0.length == l1.length) = false := by first | simpa using c3 | (simp at c3 ⊢; omega)
  obtain rfl := Option.some.inj H
  go_enter Try.func26, Try.ntmps26
  go_wp2
  repeat (go_quiet (fail); try go_wp2)
  go_ret; exact ⟨by first | rfl | (simp; done) | (simp [*]; done), by repeat (first | exact Drawn0.refl _ | apply Drawn0.step)⟩
end Go.Proofs.Ytcgpemefmakjiaa.PX
namespace Go.Proofs.Ytcgpemefmakjiaa.PX
open Go.RowKit Go.Proofs.YtcgpemefmakjiaaW.PrintWords Go.Proofs.YtcgpemefmakjiaaW.PrintLast Go.Proofs.YtcgpemefmakjiaaW.PrintMore
def badLen (n n0 : Nat) : Bool := n != n0 || decide (n < 1) || decide (10 < n)
set_option maxHeartbeats 400000 in
theorem shaped1_calls (R : Option Addr) (n c : Nat) (bx ad : Addr) (m cl : Nat) (A0 : Option Addr) (n0 c0 : Nat) (w : World) (hb : w.cell? bx = some (.slice (some ad) m cl)) (h0 : w.cell? ad = some (.slice A0 n0 c0))
  (hm : 0 < m) (hm1 : m ≤ 9223372036854775807) (hn : n ≤ 9223372036854775807) (hn0 : n0 ≤ 9223372036854775807) :
  Calls Try.prog 63 #[.slice R n c, .pointer (some bx)] w fun e w' => e = .returned (.bool (badLen n n0)) ∧ w = w' := by
 have hm2 : (0 : Int) < (m : Int) := by omega
 by_cases h1 : n = n0
 ·subst h1
  by_cases h2 : n < 1
  ·have e : badLen n n = true := by simp [badLen, h2]
   have E := Lib.hid e; clear e
   have h3 : (n : Int) < 1 := by omega
   go_enter Try.func63, Try.ntmps63
   go_wp2; go_ret; exact ⟨by rw [E.out]; rfl, rfl⟩
  ·by_cases h4 : 10 < n
   ·have e : badLen n n = true := by simp [badLen, h4]
    have E := Lib.hid e; clear e
    have h3 : ¬ (n : Int) < 1 := by omega
    have h5 : (10 : Int) < (n : Int) := by omega
    go_enter Try.func63, Try.ntmps63
    go_wp2; go_ret; exact ⟨by rw [E.out]; rfl, rfl⟩
   ·have e : badLen n n = false := by simp [badLen]; omega
    have E := Lib.hid e; clear e
    have h3 : ¬ (n : Int) < 1 := by omega
    have h5 : ¬ (10 : Int) < (n : Int) := by omega
    go_enter Try.func63, Try.ntmps63
    go_wp2; go_ret; exact ⟨by rw [E.out]; rfl, rfl⟩
 ·have e : badLen n n0 = true := by simp [badLen, h1]
  have E := Lib.hid e; clear e; have h3 : ((n : Int) == (n0 : Int)) = false := beq_eq_false_iff_ne.2 (by omega)
  go_enter Try.func63, Try.ntmps63
  go_wp2; go_ret; exact ⟨by rw [E.out]; rfl, rfl⟩
def anyBad (n0 : Nat) (l : List (List Int)) : Bool := l.any fun r => badLen r.length n0
set_option maxHeartbeats 800000 in
theorem shaped_index (A : Option Addr) (c : Nat) (l : List (List Int)) (bx : Addr) (w : World) (hr : Kd.C (Kd.slice 3 (Kd.int .i64)) w A l.length l) (hb : w.cell? bx = some (.slice A l.length c)) :
  Calls Try.prog 87 #[.slice A l.length c, .func (.func 63) #[] #[.pointer (some bx)]] w fun e w' => (∃ i : Int, e = .returned (.int .i64 i) ∧ decide (0 ≤ i) = anyBad (rd_L1 l 0).length l) ∧ w = w' := by
 have hlen := hr.2.1; have HR := A_ hr; clear hr
 go_enter Try.func87, Try.ntmps87
 go_wp2
 go_loop [8] (fun v => ∃ k : Nat, k ≤ l.length ∧ v = .int .i64 k ∧ Aside0 (∀ r ∈ l.take k, badLen r.length (rd_L1 l 0).length = false)) (fun v => l.length - (intOf v).toNat)
 case atStart => exact ⟨0, Nat.zero_le _, rfl, ⟨by simp⟩⟩
 case round =>
  obtain ⟨k, hk, rfl, HA⟩ := hrel
  by_cases hlt : k < l.length
  ·obtain ⟨ad, A0, c0, e0, hx0, hl0, hi0⟩ := at_L1 HR.out 0 (by omega) (by omega)
   obtain ⟨ad', A1, c1, e1, hx1, hl1, hi1⟩ := at_L1 HR.out k (by omega) (by omega)
   cases e0
   cases e1
   have hrow : rd_L1 l (k : Int) = l[k] := by simp [rd_L1, List.getD_eq_getElem?_getD, hlt]
   rw [hrow] at hx1 hl1 hi1; have hlen1 := hi1.2.1; have hlen0 := hi0.2.1
   have h00 : w.cell? ad = some (.slice A0 (rd_L1 l 0).length c0) := by simpa [Addr.add] using hx0
   have h11 : w.cell? (ad.add k) = some (.slice A1 l[k].length c1) := by simpa using hx1
   clear hx0 hx1 hl0 hl1 hi0 hi1; have HI := Lib.hid hrow; clear hrow; have HCl := shaped1_calls A1 l[k].length c1 bx ad l.length c A0 (rd_L1 l 0).length c0 w hb h00 (by omega) hlen hlen1 hlen0
   have HT : Hid (∀ r ∈ l.take (k + 1), r ∈ l.take k ∨ r = l[k]) := by
    intro r hm; rw [List.take_succ_eq_append_getElem hlt] at hm
    rcases List.mem_append.1 hm with h | h
    (· exact .inl h); (· exact .inr (List.mem_singleton.1 h))
   generalize hb1 : badLen l[k].length (rd_L1 l 0).length = b1 at HCl; have HB1 := Lib.hid hb1; have HC1 := Lib.hid HCl; clear hb1 HCl h00
   cases b1 with
   | true =>
    have HF : Hid (anyBad (rd_L1 l 0).length l = true) := by
     unfold Hid anyBad; rw [List.any_eq_true]; exact ⟨l[k], List.getElem_mem hlt, HB1.out⟩
    go_wp2_with (go_at_call 63; refine HC1.out.mono ?_; rintro e w' ⟨rfl, rfl⟩)
    go_ret; exact ⟨⟨k, rfl, by rw [HF.out]; simp⟩, rfl⟩
   | false =>
    go_wp2_with (go_at_call 63; refine HC1.out.mono ?_; rintro e w' ⟨rfl, rfl⟩)
    go_round
    case rel => exact ⟨k + 1, by omega, by go_num, ⟨fun r hm => by
     rcases HT.out r hm with h | h
     (· exact HA.out r h)
     ·rw [h]; exact HB1.out⟩⟩
    case measure => simp [intOf]; omega
  ·have HF : Hid (anyBad (rd_L1 l 0).length l = false) := by
    unfold Hid anyBad; rw [List.any_eq_false]; intro r hm; have := HA.out r (by rw [List.take_of_length_le (by omega)]; exact hm)
    simp [this]
   clear HA; go_wp2; go_ret; exact ⟨⟨-1, rfl, by rw [HF.out]; rfl⟩, rfl⟩
set_option maxHeartbeats 400000 in
theorem shaped_contains (A : Option Addr) (c : Nat) (l : List (List Int)) (bx : Addr) (w : World) (hr : Kd.C (Kd.slice 3 (Kd.int .i64)) w A l.length l) (hb : w.cell? bx = some (.slice A l.length c)) :
  Calls Try.prog 62 #[.slice A l.length c, .func (.func 63) #[] #[.pointer (some bx)]] w fun e w' => e = .returned (.bool (anyBad (rd_L1 l 0).length l)) ∧ w = w' := by
 have HC := Lib.hid (shaped_index A c l bx w hr hb); clear hr
 go_enter Try.func62, Try.ntmps62
 go_wp2_with (go_at_call 87; refine HC.out.mono ?_; rintro e w' ⟨⟨i, rfl, hi⟩, rfl⟩; have HI := Lib.hid hi; clear hi)
 go_ret; exact ⟨by rw [← HI.out]; rfl, rfl⟩
def sumLen (l : List (List (List Int))) : Nat := (l.map List.length).sum
theorem sumLen_snoc (l : List (List (List Int))) (k : Nat) (h : k < l.length) : sumLen (l.take (k + 1)) = sumLen (l.take k) + l[k].length := by
 unfold sumLen; rw [List.take_succ_eq_append_getElem h, List.map_append, List.sum_append]; simp only [List.map_cons, List.map_nil, List.sum_cons, List.sum_nil, Nat.add_zero]
theorem sumLen_take (l : List (List (List Int))) (k : Nat) : sumLen (l.take k) ≤ sumLen l := by
 unfold sumLen
 conv => rhs; rw [← List.take_append_drop k l, List.map_append, List.sum_append]
 omega
def shapedB (l : List (List (List Int))) : Bool := l.all (fun r => !anyBad (rd_L1 r 0).length r) && decide (l.length ≤ 6) && decide (sumLen l ≤ 512)
def diff_shaped.f (l0 : List (List (List Int))) : Option Bool := if sumLen l0 < 4611686018427387904 then some (shapedB l0) else none
set_option maxHeartbeats 800000 in
theorem diff_shaped.calls (A0 : Option Addr) (c0 : Nat) (l0 : List (List (List Int))) (r : Bool) (w : World) (hr0 : Kd.C (Kd.slice 22 (Kd.slice 3 (Kd.int .i64))) w A0 l0.length l0) (hc0 : l0.length ≤ c0) (h : diff_shaped.f l0 = some r) :
  Calls Try.prog 37 #[.slice A0 l0.length c0] w fun e w' => e = .returned (.bool r) ∧ Below w.heap.size w w' := by
 unfold diff_shaped.f at h
 by_cases hs : sumLen l0 < 4611686018427387904
 ·rw [if_pos hs] at h
  obtain rfl := Option.some.inj h; clear h; have hlen := hr0.2.1; have HR := A_ hr0; have HS := A_ hs; clear hr0 hs
  go_enter Try.func37, Try.ntmps37
  go_wp2
  go_loopw [3, 8] (fun u v wr => ∃ k : Nat, k ≤ l0.length ∧ v = .int .i64 k ∧ u = .int .i64 (sumLen (l0.take k) : Nat) ∧ Aside0 (∀ r ∈ l0.take k, anyBad (rd_L1 r 0).length r = false) ∧ Aside0 (Below w.heap.size w wr)) (fun _ v _ => l0.length - (intOf v).toNat)
  case atStart => exact ⟨0, Nat.zero_le _, rfl, rfl, ⟨by simp⟩, ⟨Below.refl _ _⟩⟩
  case round =>
   obtain ⟨k, hk, rfl, rfl, HA, HB⟩ := hrel
   by_cases hlt : k < l0.length
   ·obtain ⟨ad, A1, c1, e1, hx1, hl1, hi1⟩ := at_L2 HR.out k (by omega) (by omega)
    cases e1
    have hrow : rd_L2 l0 (k : Int) = l0[k] := by simp [rd_L2, List.getD_eq_getElem?_getD, hlt]
    rw [hrow] at hx1 hl1 hi1; have hlen1 := hi1.2.1
    have h11 : wr.cell? (ad.add k) = some (.slice A1 l0[k].length c1) := by
     rw [Int.toNat_natCast] at hx1; exact hc_ HB hx1
    have hsn := sumLen_snoc l0 k hlt; have hst := sumLen_take l0 (k + 1); have hss := HS.out
    have hb1 : ((sumLen (l0.take k) : Nat) : Int) + (l0[k].length : Int) < 4611686018427387904 := by omega
    have HSN := Lib.hid hsn; have HI := Lib.hid (Kd.C_below hi1 HB.out); clear hx1 hi1 hrow hsn hst hss; have HC := Lib.hid (shaped_contains A1 c1 l0[k] ⟨wr.heap.size, 0, none⟩ (wr.alloc (.cells #[.slice A1 l0[k].length c1] 64)) (Kd.C_alloc HI.out _) (cell_of_row _ _ 0 _ 64 (0, 0) (heap_alloc_new wr _))); generalize hb2 : anyBad (rd_L1 l0[k] 0).length l0[k] = b at HC; have HB2 := Lib.hid hb2; clear hb2
    have HT : Hid (∀ r ∈ l0.take (k + 1), r ∈ l0.take k ∨ r = l0[k]) := by
     intro r hm; rw [List.take_succ_eq_append_getElem hlt] at hm
     rcases List.mem_append.1 hm with h | h
     (· exact .inl h); (· exact .inr (List.mem_singleton.1 h))
    cases b with
    | true =>
     have HF : Hid (shapedB l0 = false) := by
      unfold Hid shapedB
      have : (l0.all fun r => !anyBad (rd_L1 r 0).length r) = false := by
       rw [List.all_eq_false]; exact ⟨l0[k], List.getElem_mem hlt, by rw [HB2.out]; simp⟩
      rw [this]; rfl
     go_wp2_with (go_at_call 62; refine HC.out.mono ?_; rintro e w' ⟨rfl, rfl⟩)
     go_ret; exact ⟨by rw [HF.out]; rfl, below_alloc HB.out _⟩
    | false =>
     go_wp2_with (go_at_call 62; refine HC.out.mono ?_; rintro e w' ⟨rfl, rfl⟩)
     go_roundw
     case rel => exact ⟨k + 1, by omega, by go_num, by rw [HSN.out]; rfl, ⟨fun r hm => by
      rcases HT.out r hm with h | h
      (· exact HA.out r h)
      ·rw [h]; exact HB2.out⟩, ⟨below_alloc HB.out _⟩⟩
     case measure => simp [intOf]; omega
   ·have hk2 : k = l0.length := by omega
    have HT : Hid (l0.take k = l0) := List.take_of_length_le (by omega); have hss := HS.out; rw [HT.out] at HA
    have HF : Hid (shapedB l0 = (decide ((l0.length : Int) ≤ 6) && decide ((sumLen l0 : Int) ≤ 512))) := by
     unfold Hid shapedB
     have : (l0.all fun r => !anyBad (rd_L1 r 0).length r) = true := by
      rw [List.all_eq_true]; intro r hm; rw [HA.out r hm]; rfl
     rw [this]
     have e1 : decide (l0.length ≤ 6) = decide ((l0.length : Int) ≤ 6) := by congr 1; simp; omega
     have e2 : decide (sumLen l0 ≤ 512) = decide ((sumLen l0 : Int) ≤ 512) := by congr 1; simp; omega
     rw [e1, e2]
     simp
    subst hk2; rw [HT.out]; generalize hsm : sumLen l0 = sm at HF hss ⊢; have HSM := Lib.hid hsm; clear hsm HT HA
    by_cases h6 : (l0.length : Int) ≤ 6
    ·by_cases h5 : (sm : Int) ≤ 512
     all_goals
      go_wp2; go_ret; exact ⟨by rw [HF.out]; simp [h6, h5], HB.out⟩
    (· go_wp2; go_ret; exact ⟨by rw [HF.out]; simp [h6]; omega, HB.out⟩)
 (· rw [if_neg hs] at h; exact absurd h (by simp))
def stepS (l : Wd) (c : S61) : Wd × Int := stepW l c.f0 c.f1 c.f2 c.f3 c.f4 c.f5
def stepsW : Wd → List S61 → Wd × Int
 | l, [] => (l, 0)
 | l, c :: cs => if (stepS l c).2 = 0 then stepsW (stepS l c).1 cs else (l, (stepS l c).2)
def tall (l : Wd) : Int := ((l.map List.length).sum : Nat)
def applyR (l : Wd) (cs : List S61) : Wd × Int :=
 if shapedB l = false then ([], 2) else if 8192 < cs.length then ([], 4) else if (stepsW l cs).2 ≠ 0 then ([], (stepsW l cs).2) else if 512 < tall (stepsW l cs).1 then ([], 4) else ((stepsW l cs).1, 0)
def Good (n : Nat) (l : Wd) : Prop := ∀ (k : Nat) rows, l[k]? = some rows → rows.length ≤ n ∧ ∀ (i : Nat) r, rows[i]? = some r → r.length = (rd_L1 rows 0).length
def stepE (l : Wd) (c : S61) : Wd × Int := if (stepS l c).2 = 0 then ((stepS l c).1, 0) else (l, (stepS l c).2)
theorem stepsW_snoc : ∀ (cs : List S61) (l : Wd) (c : S61), (stepsW l cs).2 = 0 → stepsW l (cs ++ [c]) = stepE (stepsW l cs).1 c
 | [], l, c, _ => rfl
 | d :: cs, l, c, h => by
  have e1 : stepsW l (d :: (cs ++ [c])) = if (stepS l d).2 = 0 then stepsW (stepS l d).1 (cs ++ [c]) else (l, (stepS l d).2) := rfl
  have e2 : stepsW l (d :: cs) = if (stepS l d).2 = 0 then stepsW (stepS l d).1 cs else (l, (stepS l d).2) := rfl
  by_cases h1 : (stepS l d).2 = 0
  (· rw [if_pos h1] at e1 e2; rw [List.cons_append, e1, e2]; rw [e2] at h; exact stepsW_snoc cs _ c h); (· rw [if_neg h1] at e2; rw [e2] at h; exact absurd h h1)
theorem stepsW_stop : ∀ (cs ds : List S61) (l : Wd), (stepsW l cs).2 ≠ 0 → (stepsW l (cs ++ ds)).2 = (stepsW l cs).2
 | [], ds, l, h => absurd rfl h
 | d :: cs, ds, l, h => by
  simp only [stepsW, List.cons_append] at h ⊢
  by_cases h1 : (stepS l d).2 = 0
  (· rw [if_pos h1] at h; rw [if_pos h1, if_pos h1]; exact stepsW_stop cs ds _ h); (· rw [if_neg h1, if_neg h1])
theorem rd_L1_zero (rows : List (List Int)) (r : List Int) (h : rows[0]? = some r) : rd_L1 rows 0 = r := by simp [rd_L1, List.getD_eq_getElem?_getD, h]
theorem rd_L1_at (rows : List (List Int)) (i : Int) (h0 : 0 ≤ i) (h1 : i < rows.length) : rows[i.toNat]? = some (rd_L1 rows i) := by
 simp only [rd_L1, List.getD_eq_getElem?_getD]; rw [List.getElem?_eq_getElem (show i.toNat < rows.length by omega)]
 simp
theorem rd_L2_at (l : Wd) (i : Int) (h0 : 0 ≤ i) (h1 : i < l.length) : l[i.toNat]? = some (rd_L2 l i) := by
 simp only [rd_L2, List.getD_eq_getElem?_getD]; rw [List.getElem?_eq_getElem (show i.toNat < l.length by omega)]
 simp
theorem Good.set {n k : Nat} {l : Wd} {rows : List (List Int)} (h : Good n l) (hr : rows.length ≤ n + 1 ∧ ∀ (i : Nat) r, rows[i]? = some r → r.length = (rd_L1 rows 0).length) : Good (n + 1) (l.set k rows) := by
 intro j rows' hj
 by_cases e : k = j
 (· subst e; have hl := (List.getElem?_eq_some_iff.1 hj).1; rw [List.length_set] at hl; rw [List.getElem?_set_self hl] at hj; obtain rfl := Option.some.inj hj; exact hr); (· rw [List.getElem?_set_ne e] at hj; have := h j rows' hj; exact ⟨by omega, this.2⟩)
theorem Good.succ {n : Nat} {l : Wd} (h : Good n l) : Good (n + 1) l := fun k rows hk => ⟨by have := (h k rows hk).1; omega, (h k rows hk).2⟩
theorem stepS_len (l : Wd) (c : S61) : (stepS l c).1.length = l.length := by
 unfold stepS stepW stepK
 split
 (· rfl)
 split
 (· rfl)
 split
 (· rfl)
 split
 ·split <;> simp
 split
 ·split
  (· rfl)
  ·split <;> simp
 split
 (· rfl)
 split <;> simp
theorem stepS_good {n : Nat} {l : Wd} (h : Good n l) (c : S61) : Good (n + 1) (stepS l c).1 := by
 unfold stepS stepW
 split
 (· exact h.succ)
 next hform =>
 split
 (· exact h.succ)
 next hk =>
 have hk2 := rd_L2_at l c.f0 (by omega) (by omega); obtain ⟨hn, hw⟩ := h _ _ hk2; unfold stepK
 split
 (· exact h.succ)
 next hlen =>
 split
 ·next ha =>
  split
  ·refine h.set ⟨by simp; omega, fun i r hi => ?_⟩
   have h0 : (rd_L1 (rd_L2 l c.f0 ++ [c.f5]) 0).length = c.f5.length := by
    by_cases hz : 0 < (rd_L2 l c.f0).length
    ·rw [rd_L1_zero _ (rd_L1 (rd_L2 l c.f0) 0)]
     ·have : ¬ (c.f5.length ≠ (rd_L1 (rd_L2 l c.f0) 0).length) := fun e => hlen ⟨by omega, hz, e⟩
      omega
     (· rw [List.getElem?_append_left hz]; exact rd_L1_at _ 0 (by omega) (by omega))
    (· have : rd_L2 l c.f0 = [] := List.length_eq_zero_iff.1 (by omega); rw [this]; rfl)
   rw [h0]
   by_cases hi2 : i < (rd_L2 l c.f0).length
   ·rw [List.getElem?_append_left hi2] at hi
    rw [hw i r hi]
    have : ¬ (c.f5.length ≠ (rd_L1 (rd_L2 l c.f0) 0).length) := fun e => hlen ⟨by omega, by omega, e⟩
    omega
   ·have hl := (List.getElem?_eq_some_iff.1 hi).1
    simp at hl
    have : i = (rd_L2 l c.f0).length := by omega
    subst this
    simp at hi
    rw [hi]
  (· exact h.succ)
 split
 ·split
  (· exact h.succ)
  next hlast =>
  split
  (· refine h.set ⟨by simp; omega, fun i r hi => ?_⟩; have hi' := (List.getElem?_eq_some_iff.1 hi).1; rw [List.length_take] at hi'; rw [List.getElem?_take_of_lt (by omega)] at hi; rw [hw i r hi, rd_L1_zero ((rd_L2 l c.f0).take c.f1.toNat) (rd_L1 (rd_L2 l c.f0) 0)]; rw [List.getElem?_take_of_lt (by omega)]; exact rd_L1_at _ 0 (by omega) (by omega)); (· exact h.succ)
 split
 (· exact h.succ)
 next hb =>
 split
 (· exact h.succ); refine h.set ⟨by simp; omega, fun i r hi => ?_⟩
 have hh : ∀ (j : Nat) r, ((rd_L2 l c.f0).set c.f1.toNat ((rd_L1 (rd_L2 l c.f0) c.f1).set c.f2.toNat c.f4))[j]? = some r → r.length = (rd_L1 (rd_L2 l c.f0) 0).length := by
  intro j r hj
  by_cases e : c.f1.toNat = j
  (· subst e; rw [List.getElem?_set_self (by omega)] at hj; rw [← Option.some.inj hj, List.length_set]; exact hw _ _ (rd_L1_at _ _ (by omega) (by omega))); (· rw [List.getElem?_set_ne e] at hj; exact hw _ _ hj)
 rw [hh i r hi]; have hl := (List.getElem?_eq_some_iff.1 hi).1; rw [List.length_set] at hl; have h0 := rd_L1_at ((rd_L2 l c.f0).set c.f1.toNat ((rd_L1 (rd_L2 l c.f0) c.f1).set c.f2.toNat c.f4)) 0 (by omega) (by rw [List.length_set]; omega); exact (hh 0 _ h0).symm
theorem WRep.made {W : World} {base n : Nat} {ok : Nat → Prop} {v : Value} (h : Kd.R (Kd.raw 1) 64 W base ok v (List.replicate n [.slice none 0 0])) : WRep W base v (List.replicate n []) := by
 obtain ⟨_, inner, h1, h2, h3⟩ := h
 have hl : inner.length = n := by have : inner.length = (List.replicate n [Value.slice none 0 0]).length * 1 := h2; simpa using this
 have h1 : W.ownsRow base 64 1 v n inner := by have := h1; rw [List.length_replicate] at this; exact this
 refine ⟨fun _ => 0, fun _ => (0, 0), inner, by rw [List.length_replicate]; exact h1, fun k rows hk => ?_⟩; have hkn := (List.getElem?_eq_some_iff.1 hk).1; rw [List.length_replicate] at hkn
 have e : rows = [] := by
  rw [List.getElem?_replicate, if_pos hkn] at hk; exact (Option.some.inj hk).symm
 subst e; refine ⟨.slice none 0 0, ?_, KindRep.nil trivial⟩; have h4 : (inner.drop (k * 1)).take 1 = [Value.slice none 0 0] := (h3 k [.slice none 0 0] (by rw [List.getElem?_replicate, if_pos hkn])).1; have := congrArg List.head? h4; rw [Nat.mul_one, List.head?_take] at this
 simpa [List.head?_drop] using this
def cp (l : Wd) (k i : Nat) : Wd := l.mapIdx fun j rows => if j < k then rows else if j = k then rows.take i else []
theorem cp_length (l : Wd) (k i : Nat) : (cp l k i).length = l.length := by simp [cp]
theorem cp_zero (l : Wd) : cp l 0 0 = List.replicate l.length [] := by
 apply List.ext_getElem?
 intro j; simp only [cp, List.getElem?_mapIdx, List.getElem?_replicate]
 by_cases h : j < l.length
 ·rw [List.getElem?_eq_getElem h, if_pos h]
  simp
 (· rw [List.getElem?_eq_none (by omega), if_neg h]; rfl)
theorem cp_all (l : Wd) : cp l l.length 0 = l := by
 apply List.ext_getElem?
 intro j; simp only [cp, List.getElem?_mapIdx]
 by_cases h : j < l.length
 ·rw [List.getElem?_eq_getElem h]
  simp [h]
 (· rw [List.getElem?_eq_none (by omega)]; rfl)
theorem cp_at (l : Wd) (k i : Nat) (rows : List (List Int)) (h : l[k]? = some rows) : (cp l k i)[k]? = some (rows.take i) := by
 simp [cp, List.getElem?_mapIdx, h]
theorem cp_next (l : Wd) (k : Nat) (rows : List (List Int)) (h : l[k]? = some rows) : cp l k rows.length = cp l (k + 1) 0 := by
 apply List.ext_getElem?
 intro j; simp only [cp, List.getElem?_mapIdx]
 by_cases hj : j < l.length
 ·rw [List.getElem?_eq_getElem hj]
  simp only [Option.map_some, Option.some.injEq]
  by_cases h1 : j < k
  (· rw [if_pos h1, if_pos (by omega)])
  ·rw [if_neg h1]
   by_cases h2 : j = k
   (· subst h2; rw [if_pos rfl, if_pos (by omega)]; rw [List.getElem?_eq_getElem hj] at h; rw [Option.some.inj h, List.take_length])
   ·rw [if_neg h2, if_neg (by omega)]
    by_cases h3 : j = k + 1
    (· rw [if_pos h3, List.take_zero]); (· rw [if_neg h3])
 (· rw [List.getElem?_eq_none (by omega)]; rfl)
theorem cp_push (l : Wd) (k i : Nat) (rows : List (List Int)) (r : List Int) (h : l[k]? = some rows) (hr : rows[i]? = some r) : (cp l k i).set k (rows.take i ++ [r]) = cp l k (i + 1) := by
 apply List.ext_getElem?
 intro j; have hk := (List.getElem?_eq_some_iff.1 h).1
 by_cases e : k = j
 ·subst e
  rw [List.getElem?_set_self (by rw [cp_length]; exact hk), cp_at l k (i + 1) rows h]
  congr 1
  obtain ⟨hi, hr⟩ := List.getElem?_eq_some_iff.1 hr; rw [List.take_succ_eq_append_getElem hi, hr]
 ·rw [List.getElem?_set_ne e]
  simp only [cp, List.getElem?_mapIdx]
  cases l[j]? with
  | none => rfl
  | some x =>
   simp only [Option.map_some, Option.some.injEq]
   by_cases h1 : j < k
   (· rw [if_pos h1, if_pos h1]); (· rw [if_neg h1, if_neg h1, if_neg (Ne.symm e), if_neg (Ne.symm e)])
theorem sumLen_one (l : Wd) (rows : List (List Int)) (h : rows ∈ l) : rows.length ≤ sumLen l := by
 induction l with
 | nil => cases h
 | cons a l ih =>
  simp only [sumLen, List.map_cons, List.sum_cons]
  rcases List.mem_cons.1 h with e | e
  (· subst e; omega); (· have := ih e; simp only [sumLen] at this; omega)
theorem shaped_wide {l : Wd} (h : shapedB l = true) (k : Nat) (rows : List (List Int)) (hk : l[k]? = some rows) (i : Nat) (r : List Int) (hi : rows[i]? = some r) : 1 ≤ r.length ∧ r.length ≤ 10 := by
 unfold shapedB at h; simp only [Bool.and_eq_true, decide_eq_true_eq] at h; obtain ⟨⟨h1, h2⟩, h3⟩ := h; rw [List.all_eq_true] at h1
 have h4 : anyBad (rd_L1 rows 0).length rows = false := by simpa using h1 rows (List.mem_of_getElem? hk)
 unfold anyBad at h4; rw [List.any_eq_false] at h4; have h5 := h4 r (List.mem_of_getElem? hi); unfold badLen at h5; simp only [Bool.or_eq_true, bne_iff_ne, decide_eq_true_eq, not_or, ne_eq, Decidable.not_not] at h5; omega
theorem shaped_small {l : Wd} (h : shapedB l = true) : l.length ≤ 6 ∧ sumLen l ≤ 512 ∧ Good 512 l := by
 unfold shapedB at h; simp only [Bool.and_eq_true, decide_eq_true_eq] at h; obtain ⟨⟨h1, h2⟩, h3⟩ := h; refine ⟨h2, h3, fun k rows hk => ?_⟩; have hm : rows ∈ l := List.mem_of_getElem? hk; refine ⟨Nat.le_trans (sumLen_one l rows hm) h3, fun i r hi => ?_⟩; rw [List.all_eq_true] at h1
 have h4 : anyBad (rd_L1 rows 0).length rows = false := by simpa using h1 rows hm
 unfold anyBad at h4; rw [List.any_eq_false] at h4; have h5 := h4 r (List.mem_of_getElem? hi); unfold badLen at h5
 simp at h5
 exact h5.1.1
theorem tall_eq (l : Wd) : tall l = (sumLen l : Int) := rfl
theorem Good.sum {n : Nat} {l : Wd} (h : Good n l) : sumLen l ≤ l.length * n := by
 have : ∀ (l : Wd), (∀ rows ∈ l, rows.length ≤ n) → sumLen l ≤ l.length * n := by
  intro l
  induction l with
  | nil => intro _; simp [sumLen]
  | cons r l ih =>
   intro h; have h1 := h r (by simp); have h2 := ih (fun x hx => h x (by simp [hx])); simp only [sumLen, List.map_cons, List.sum_cons, List.length_cons] at h2 ⊢; rw [Nat.add_mul]; omega
 refine this l (fun rows hm => ?_); obtain ⟨k, hk⟩ := List.mem_iff_getElem?.1 hm; exact (h k rows hk).1
theorem stepsW_good (l : Wd) (cs : List S61) {n : Nat} (h : Good n l) : Good (n + cs.length) (stepsW l cs).1 ∧ (stepsW l cs).1.length = l.length := by
 induction cs generalizing n l with
 | nil => exact ⟨h, rfl⟩
 | cons c cs ih =>
  simp only [stepsW]
  split
  (· have := ih (stepS l c).1 (stepS_good h c); rw [stepS_len] at this; refine ⟨?_, this.2⟩; rw [List.length_cons, show n + (cs.length + 1) = n + 1 + cs.length by omega]; exact this.1); (· refine ⟨fun k rows hk => ?_, rfl⟩; have := h k rows hk; exact ⟨by rw [List.length_cons]; omega, this.2⟩)
def CopyI (W : World) (base : Nat) (v3 : Value) (l3 : Wd) (v5 : Value) (q : List (List Int)) : Prop := ∃ f1 f2, WRepF W base f1 f2 v3 l3 ∧ KindRep W base f1 f2 l3.length v5 q
section
variable {W W1 w1 : World} {base : Nat} {v3 v5 v1 vi : Value} {l3 : Wd} {q : List (List Int)} {r : List Int}
theorem CopyI.start (h : WRep W base v3 l3) : CopyI W base v3 l3 (.slice none 0 0) [] := by
 obtain ⟨f1, f2, h⟩ := h; exact ⟨f1, f2, h, KindRep.nil trivial⟩
theorem CopyI.push (h : CopyI W base v3 l3 v5 q) (hbs : base ≤ W.heap.size) : ∃ cs, W.ownsRow base 22 1 v5 q.length cs ∧ ∀ (W1 w1 : World) (vi v1 : Value) (r : List Int) (ok : Nat → Prop), Below W.heap.size W W1 → Kd.R (Kd.int .i64) 3 W1 W.heap.size ok vi r → W1.grownBy w1 v5.ownBlock →
  (v1.ownBlock = v5.ownBlock ∨ ∃ b, v1.ownBlock = some b ∧ W1.heap.size ≤ b) → w1.ownsRow base 22 1 v1 (q.length + 1) (cs ++ [vi]) → CopyI w1 base v3 l3 v1 (q ++ [r]) := by
 obtain ⟨f1, f2, h1, h2⟩ := h; have h2' := h2; obtain ⟨cs, h3, h4, h5⟩ := h2; refine ⟨cs, h3, fun W1 w1 vi v1 r ok hB hr hg hat hown => ⟨tagFrom W.heap.size l3.length f1, tagFrom W.heap.size (l3.length, q.length) f2, ?_, KindRep.pushed h2' hbs hB (nums_of_R hr) h3 h5 h4 hg hat hown⟩⟩; refine h1.beside (row := v5.ownBlock) ⟨hg.os.trans hB.os, hg.tape.trans hB.tape, hg.output.trans hB.output, Nat.le_trans hB.size hg.size, fun b hb hne => ?_⟩ (fun b hb => ⟨h4 b hb, own_typed h3 b hb⟩) (fun b hb => tagFrom_lt hb) (fun b hb => tagFrom_lt hb); rw [hg.block b (Nat.lt_of_lt_of_le hb hB.size) hne, hB.block b hb]
theorem CopyI.done (h : CopyI W base v3 l3 v5 q) : ∃ vs, W.ownsRow base 64 1 v3 l3.length vs ∧ (∃ A c, v5 = .slice A q.length c) ∧ ∀ (w1 : World) (v1 : Value), W.grownBy w1 v3.ownBlock → w1.ownsRow base 64 1 v1 (l3.length + 1) (vs ++ [v5]) → WRep w1 base v1 (l3 ++ [q]) := by
 obtain ⟨f1, f2, ⟨vs, h1, h2⟩, h3⟩ := h
 have hsl : ∃ A c, v5 = .slice A q.length c := by
  obtain ⟨A, c, e, _⟩ := h3.at_; exact ⟨A, c, e⟩
 refine ⟨vs, h1, hsl, fun w1 v1 hg hown => ⟨f1, f2, vs ++ [v5], by rw [List.length_append]; exact hown, fun k rows hk => ?_⟩⟩
 have hne : ∀ b t c, W.heap[b]? = some (.cells c t (0, 0)) → t ≠ 64 → some b ≠ v3.ownBlock := fun b t c hb ht e => by
  obtain ⟨c', hc'⟩ := own_typed h1 b e.symm; rw [hb] at hc'
  injection hc' with hc'
  injection hc' with _ hc'
  exact ht hc'
 have hmv : ∀ (k : Nat) vk rows, KindRep W base f1 f2 k vk rows → KindRep w1 base f1 f2 k vk rows := fun k vk rows h => h.move (fun b hl hb => hg.block b hl (by
  rcases hb with hb | ⟨c, hb⟩
  (· obtain ⟨cs, h5, _⟩ := h; obtain ⟨c, hc⟩ := own_typed h5 b hb; exact hne b 22 c hc (by decide))
  ·exact hne b 3 c hb (by decide))) (fun _ _ => rfl) (fun _ _ => rfl)
 have hvl : vs.length = l3.length := by have := h1.1; omega
 by_cases hkl : k < l3.length
 (· rw [List.getElem?_append_left hkl] at hk; obtain ⟨vk, h4, h5⟩ := h2 k rows hk; exact ⟨vk, by rw [List.getElem?_append_left (by omega)]; exact h4, hmv _ _ _ h5⟩)
 ·have e : k = l3.length := by have := (List.getElem?_eq_some_iff.1 hk).1; simp at this; omega
  subst e
  have e : q = rows := by simpa using hk
  subst e; exact ⟨v5, by rw [← hvl]; simp, hmv _ _ _ h3⟩
end
def slices_Clone_int_int.f (l0 : List Int) : Option (List Int) := if l0.length < 17592186044416 then some l0 else none
set_option maxHeartbeats 400000 in
set_option maxRecDepth 100000 in
theorem slices_Clone_int_int.calls (A0 : Option Addr) (c0 : Nat) (l0 : List Int) (r : List Int) (w : World) (hr0 : Kd.C (Kd.int .i64) w A0 l0.length l0) (hc0 : l0.length ≤ c0) (h : slices_Clone_int_int.f l0 = some r) :
  Calls Try.prog 43 #[.slice A0 l0.length c0] w fun e w' => ∃ v0_ : Value, e = .returned (v0_) ∧ Kd.R (Kd.int .i64) 3 w' w.heap.size (fun _ => True) v0_ r ∧ Below w.heap.size w w' := by
 unfold slices_Clone_int_int.f at h
 by_cases hl : l0.length < 17592186044416
 ·rw [if_pos hl] at h
  obtain rfl := Option.some.inj h; have HR0 := A_ hr0; have HC0 := A_ hc0; have HL := A_ hl; clear h
  cases A0 with
  | none =>
   have hn : l0 = [] := by
    rcases l0 with _ | ⟨x, t⟩
    (· rfl)
    ·obtain ⟨_, _, h3⟩ := hr0
     obtain ⟨ad, h4, _⟩ := h3 (by simp)
     cases h4
   clear hr0 hc0 hl HR0 HC0 HL; subst hn
   have he : ∀ W, (binOp .eql 22 (.slice none 0 c0) (.slice none 0 0)).run Try.prog W = .ok (.bool true) W := fun W => run_eql_slice_nil (P := Try.prog) W 22 3 none 0 c0 Try.underlying22
   go_enter Try.func43, Try.ntmps43
   go_wp2; go_ret; exact ⟨_, rfl, Kd.R_nil _ _ _ _ _, Below.refl _ _⟩
  | some ad =>
   clear hr0 hc0 hl
   have he : ∀ W, (binOp .eql 22 (.slice (some ad) l0.length c0) (.slice none 0 0)).run Try.prog W = .ok (.bool false) W := fun W => run_eql_slice_nil (P := Try.prog) W 22 3 (some ad) l0.length c0 Try.underlying22
   go_enter Try.func43, Try.ntmps43
   go_wp2_with (first
    | ((with_reducible refine gate_dst (N := 5) rfl ?_); refine Kd.R_lit (Kd.int .i64) w.heap.size 3 ?hg (N := 5) ?hd (xs := ([] : List Int)) (inner := []) (ok := fun _ => True) (okp := fun _ => True) ?hr ?hp (fun _ hk => hk) trivial (Below.refl _ _) (Nat.le_refl _) (by simp) ?_; (case hd => rfl); (case hg => rfl); (case hr => first | (go_simp; done) | (go_simp; rfl)); (case hp => exact (Reps.none _ _)); intro v1 w1 ho1 hb1 hg1 hnew1; clear hg1 hnew1; have HO1 := A_ ho1; have HB1 := A_ hb1; clear ho1 hb1)
    | ((with_reducible refine gate_builtin (b := .append) (xs := #[.tmp 5, .tmp 6]) rfl ?_); at_builtin; refine Kd.R_append_rows (Kd.int .i64) (w0 := w) w.heap.size rfl (.tmp 5) (.tmp 6) 22 3 (.int .i64 0) 8 rfl Try.underlying22 info3 rfl (by decide) (by omega) v1 [] l0 _ _ _ (fun _ => True) (fun _ => False) rfl rfl HO1.out (Kd.C_below HR0.out HB1.out) (fun _ _ h => h) (fun _ h => h.elim) (fun _ _ => trivial) HB1.out HB1.out.size (by have := HL.out; simp; omega) ?_; intro v2 w2 ho2 hb2 hg2 hat2; clear hg2 hat2; have HO2 := A_ ho2; have HB2 := A_ hb2; clear ho2 hb2))
   go_ret; exact ⟨_, rfl, by simpa using HO2.out, HB2.out⟩
 (· rw [if_neg hl] at h; exact absurd h (by simp))
def Small (l : Wd) : Prop := l.length ≤ 1000000 ∧ ∀ (k : Nat) rows, l[k]? = some rows → rows.length ≤ 1000000 ∧ ∀ (i : Nat) r, rows[i]? = some r → r.length ≤ 1000000
set_option maxHeartbeats 4000000 in
set_option maxRecDepth 100000 in
theorem copy_any (A0 : Option Addr) (c0 : Nat) (l0 : Wd) (w : World) (hr0 : Kd.C (Kd.slice 22 (Kd.slice 3 (Kd.int .i64))) w A0 l0.length l0) (hs : Small l0) :
  Calls Try.prog 35 #[.slice A0 l0.length c0] w fun e w' => ∃ v, e = .returned v ∧ WRep w' w.heap.size v l0 ∧ Below w.heap.size w w' := by
 have HR0 := A_ hr0; have HS := A_ hs; have hlen0 := hs.1; clear hr0 hs
 go_enter Try.func35, Try.ntmps35
 go_wp2
 go_loopw [3, 4] (fun u v wr => ∃ k : Nat, k ≤ l0.length ∧ v = .int .i64 k ∧ Aside0 (Below w.heap.size w wr) ∧ Aside0 (WRep wr w.heap.size u (l0.take k))) (fun _ v _ => l0.length - (intOf v).toNat)
 case atStart => exact ⟨0, Nat.zero_le _, rfl, ⟨Below.refl _ _⟩, ⟨WRep.nil _ _⟩⟩
 case round =>
  obtain ⟨k, hk, rfl, HB, HV⟩ := hrel
  by_cases hlt : k < l0.length
  ·obtain ⟨bd, B1, d1, e1, hx1, hl1, hi1⟩ := at_L2 HR0.out k (by omega) (by omega)
   cases e1
   have HI := A_ hi1; have hrl := hi1.2.1; have hrows := rd_L2_at l0 k (by omega) (by omega); rw [Int.toNat_natCast] at hx1 hrows; have HX := A_ hx1; have HRW := A_ hrows; have htk := List.take_succ_eq_append_getElem hlt
   have hget : l0[k] = rd_L2 l0 k := by rw [List.getElem?_eq_getElem hlt] at hrows; exact Option.some.inj hrows
   rw [hget] at htk; have HTK := A_ htk; clear hi1 hrows hx1 htk hget; generalize rd_L2 l0 k = rows at hl1 HI HRW hrl HX HTK; have HSR := A_ (HS.out.2 k rows HRW.out); have hrb := HSR.out.1; obtain ⟨l3, hl3⟩ : ∃ l3, l3 = l0.take k := ⟨_, rfl⟩
   have hl3k : l3.length = k := by rw [hl3, List.length_take]; omega
   rw [← hl3] at HV HTK; have HL3 := A_ hl3k; clear hl3 hl3k; go_wp2
   go_loopw [5, 6] (fun u' v' wr' => ∃ i : Nat, i ≤ rows.length ∧ v' = .int .i64 i ∧ Aside0 (Below w.heap.size w wr') ∧ Aside0 (CopyI wr' w.heap.size u3 l3 u' (rows.take i))) (fun _ v' _ => rows.length - (intOf v').toNat)
   case atStart => exact ⟨0, Nat.zero_le _, rfl, HB, ⟨CopyI.start HV.out⟩⟩
   case round =>
    clear HB HV; obtain ⟨i, hi, rfl, HB, HV⟩ := hrel; have hx1 := cell_below HB.out HX.out
    by_cases hlti : i < rows.length
    ·obtain ⟨be, B2, d2, e2, hx2, hl2, hi2⟩ := at_L1 HI.out i (by omega) (by omega)
     cases e2
     have hrow := rd_L1_at rows i (by omega) (by omega); rw [Int.toNat_natCast] at hx2 hrow; replace hx2 := cell_below HB.out hx2; have HRR := A_ hi2; have htk := List.take_succ_eq_append_getElem hlti
     have hget : rows[i] = rd_L1 rows i := by rw [List.getElem?_eq_getElem hlti] at hrow; exact Option.some.inj hrow
     rw [hget] at htk; have HTQ := A_ htk; have hrlen := HSR.out.2 i _ hrow; clear hi2 hrow htk hget; generalize rd_L1 rows (i : Int) = r at hx2 hl2 HRR HTQ hrlen; obtain ⟨q, hq⟩ : ∃ q, q = rows.take i := ⟨_, rfl⟩
     have hqi : q.length = i := by rw [hq, List.length_take]; omega
     rw [← hq] at HV HTQ; have hbs := HB.out.size; obtain ⟨cs, hcs, hpush⟩ := HV.out.push hbs; have HCS := A_ hcs; have HPU := A_ hpush; have HQI := A_ hqi; clear hcs hpush hq hqi
     go_wp2_with (first
      | ((with_reducible refine gate_dst (N := 23) rfl ?_); refine Kd.R_lit (Kd.int .i64) (w0 := wr) wr.heap.size 3 ?hg (N := 23) ?hd (xs := ([] : List Int)) (inner := []) (ok := fun _ => True) (okp := fun _ => True) ?hr ?hp (fun _ hk => hk) trivial (Below.refl _ _) (Nat.le_refl _) (by simp) ?_; (case hd => rfl); (case hg => rfl); (case hr => first | (go_simp; done) | (go_simp; rfl)); (case hp => exact (Reps.none _ _)); intro v1 w1 ho1 hb1 hg1 hnew1; clear hg1 hnew1; have HO1 := A_ ho1; have HB1 := A_ hb1; have n0_ := cell_below HB1.out hx1; have n1_ := cell_below HB1.out hx2; clear hx1 hx2; have hx1 := n0_; have hx2 := n1_; clear n0_ n1_ ho1 hb1)
      | ((with_reducible refine gate_builtin (b := .append) (xs := #[.tmp 23, .tmp 30]) rfl ?_); at_builtin; refine Kd.R_append_rows (Kd.int .i64) (w0 := wr) wr.heap.size rfl (.tmp 23) (.tmp 30) 22 3 (.int .i64 0) 8 rfl Try.underlying22 info3 rfl (by decide) (by decide) v1 [] r B2 r.length d2 (fun _ => True) (fun _ => False) rfl rfl HO1.out ?hc (fun _ _ h => h) (fun _ h => h.elim) (fun _ _ => trivial) HB1.out HB1.out.size ?hl ?_; (case hc => exact Kd.C_below HRR.out (below_step HB.out HB1.out)); (case hl => simp; omega); intro v2 w2 ho2 hb2 hg2 hat2; clear hg2 hat2; (obtain ⟨A9, c9, rfl⟩ := Kd.R_slice ho2); have HO2 := A_ ho2; have HB2 := A_ hb2; clear ho2 hb2)
      | ((with_reducible refine gate_builtin (b := .append) (xs := #[.tmp 22, .tmp 32]) rfl ?_); at_builtin; refine print_append_cells (w0 := w) w.heap.size rfl (.tmp 22) (.tmp 32) 64 22 (.slice none 0 0) 1 24 rfl Try.underlying64 info22 rfl (by decide) (by decide) u5 q.length cs [.slice A9 _ c9] rfl rfl rfl ?one ?own ?hb ?hbase ?hl ?_; (case one => intro u hu; simp only [List.mem_singleton] at hu; subst hu; rfl); (case own => exact own_move HCS.out (fun b hb => HB2.out.block b (own_lt HCS.out b hb))); (case hb => exact below_step HB.out HB2.out); (case hbase => exact (below_step HB.out HB2.out).size); (case hl => have := HQI.out; omega); intro v7 w7 hown7 hb7 hg7 hat7; have HO7 := A_ hown7; have HB7 := A_ hb7; have HG7 := A_ hg7; have HA7 := A_ hat7; clear hown7 hb7 hg7 hat7))
     go_roundw
     case rel => exact ⟨i + 1, by omega, by go_num, HB7, ⟨by rw [HTQ.out]; exact HPU.out w2 w7 _ _ r _ HB2.out HO2.out HG7.out HA7.out HO7.out⟩⟩
     case measure => simp [intOf]; omega
    ·have hie : i = rows.length := by omega
     subst hie; rw [List.take_length] at HV; obtain ⟨vs, hvs, ⟨A5, c5, rfl⟩, hdone⟩ := HV.out.done; have HVS := A_ hvs; have HDN := A_ hdone; clear hvs hdone
     go_wp2_with ((with_reducible refine gate_builtin (b := .append) (xs := #[.tmp 34, .tmp 36]) rfl ?_); at_builtin; refine print_append_cells (w0 := w) w.heap.size rfl (.tmp 34) (.tmp 36) 25 64 (.slice none 0 0) 1 24 rfl Try.underlying25 info64 rfl (by decide) (by decide) u3 l3.length vs [.slice A5 rows.length c5] rfl rfl rfl ?one ?own ?hb ?hbase ?hl ?_; (case one => intro u hu; simp only [List.mem_singleton] at hu; subst hu; rfl); (case own => exact HVS.out); (case hb => exact HB.out); (case hbase => exact HB.out.size); (case hl => have := HL3.out; omega); intro v7 w7 hown7 hb7 hg7 hat7; have HO7 := A_ hown7; have HB7 := A_ hb7; have HG7 := A_ hg7; clear hown7 hb7 hg7 hat7)
     go_roundw
     case rel => exact ⟨k + 1, by omega, by go_num, HB7, ⟨by rw [HTK.out]; exact HDN.out _ _ HG7.out HO7.out⟩⟩
     case measure => simp [intOf]; omega
  ·have hke : k = l0.length := by omega
   subst hke; rw [List.take_length] at HV; go_wp2; go_ret; exact ⟨_, rfl, HV.out, HB.out⟩
def in64 (x : Int) : Bool := decide (-9223372036854775808 ≤ x) && decide (x ≤ 9223372036854775807)
theorem in64_iff {x : Int} : in64 x = true ↔ -9223372036854775808 ≤ x ∧ x ≤ 9223372036854775807 := by simp [in64]
def arv (x n : Int) : Int := (dioramaref01_Around.f x n).getD 0
theorem arv_spec (x n : Int) (hx : in64 x = true) : dioramaref01_Around.f x n = some (arv x n) ∧ 0 ≤ arv x n ∧ (0 < n → arv x n < n) := by
 rw [in64_iff] at hx; unfold arv dioramaref01_Around.f
 by_cases h0 : x < 0
 ·rw [if_pos h0]
  by_cases h1 : n < 1
  (· rw [if_pos h1]; exact ⟨rfl, Int.le_refl _, fun h => by omega⟩); (· rw [if_neg h1, if_neg (by omega), wrap64_id (x := x + 1) (by omega) (by omega), wrap64_id (by omega) (by omega)]; refine ⟨rfl, Int.tmod_nonneg _ (by omega), fun h => Int.tmod_lt_of_pos _ h⟩)
 ·rw [if_neg h0]
  by_cases h1 : n < 1
  (· rw [if_pos h1]; exact ⟨rfl, Int.le_refl _, fun h => by omega⟩); (· rw [if_neg h1, if_neg (by omega)]; refine ⟨rfl, Int.tmod_nonneg _ (by omega), fun h => Int.tmod_lt_of_pos _ h⟩)
def atv (l : List Int) (i n : Int) : Int := (dioramaref01_At.f l i n).getD 0
theorem atv_spec (l : List Int) (i n : Int) (hl : l.all in64 = true) : dioramaref01_At.f l i n = some (atv l i n) ∧ 0 ≤ atv l i n ∧ (0 < n → atv l i n < n) := by
 unfold atv dioramaref01_At.f
 by_cases h0 : i < 0
 (· rw [if_pos h0]; exact ⟨rfl, Int.le_refl _, fun h => h⟩); rw [if_neg h0]
 by_cases h1 : i ≥ (l.length : Int)
 (· rw [if_pos h1]; exact ⟨rfl, Int.le_refl _, fun h => h⟩); rw [if_neg h1, if_pos (by omega), if_pos (by omega)]
 have hx : in64 (rd l i) = true := by
  rw [List.all_eq_true] at hl; refine hl _ ?_; simp only [rd, List.getD_eq_getElem?_getD]; rw [List.getElem?_eq_getElem (show i.toNat < l.length by omega)]; exact List.getElem_mem _
 obtain ⟨e, h2, h3⟩ := arv_spec (rd l i) n hx; rw [e]; exact ⟨rfl, h2, h3⟩
def nearStep (sh l : List Int) (i : Int) (out : Wd) : Option Wd :=
 if atv l (3 * i + 1) 6 = 0 ∧ 0 < (rd_L2 out (atv l (3 * i) out.length)).length then some (out.set (atv l (3 * i) out.length).toNat ((rd_L2 out (atv l (3 * i) out.length)).take ((rd_L2 out (atv l (3 * i) out.length)).length - 1)))
 else if atv l (3 * i + 1) 6 = 1 ∧ atv l (3 * i) out.length < sh.length ∧ (rd_L2 out (atv l (3 * i) out.length)).length < 6 then
  (if rd sh (atv l (3 * i) out.length) ≤ 1000 then some (out.set (atv l (3 * i) out.length).toNat (rd_L2 out (atv l (3 * i) out.length) ++ [List.replicate (rd sh (atv l (3 * i) out.length)).toNat (atv l (3 * i + 2) 3)])) else none)
 else if 0 < (rd_L2 out (atv l (3 * i) out.length)).length then
  (if (rd_L1 (rd_L2 out (atv l (3 * i) out.length)) (atv l (3 * i + 2) (rd_L2 out (atv l (3 * i) out.length)).length)).length = 0 then none else
   some (out.set (atv l (3 * i) out.length).toNat ((rd_L2 out (atv l (3 * i) out.length)).set (atv l (3 * i + 2) (rd_L2 out (atv l (3 * i) out.length)).length).toNat
    ((rd_L1 (rd_L2 out (atv l (3 * i) out.length)) (atv l (3 * i + 2) (rd_L2 out (atv l (3 * i) out.length)).length)).set
     (atv l (3 * i + 2) (rd_L1 (rd_L2 out (atv l (3 * i) out.length)) (atv l (3 * i + 2) (rd_L2 out (atv l (3 * i) out.length)).length)).length).toNat (Int.tdiv (atv l (3 * i + 2) 12) 4)))))
 else some out
def nearLoop (sh l : List Int) : Nat → Int → Wd → Option Wd
 | 0, _, out => some out
 | m + 1, i, out => if 3 * i + 2 < l.length ∧ 0 < out.length then (nearStep sh l i out).bind (nearLoop sh l m (i + 1)) else some out
def smallB (l : Wd) : Bool := decide (l.length ≤ 1000000) && l.all fun rows => decide (rows.length ≤ 1000000) && rows.all fun r => decide (r.length ≤ 1000000)
theorem smallB_small {l : Wd} (h : smallB l = true) : Small l := by
 unfold smallB at h; simp only [Bool.and_eq_true, decide_eq_true_eq, List.all_eq_true] at h; exact ⟨h.1, fun k rows hk => ⟨(h.2 rows (List.mem_of_getElem? hk)).1, fun i r hi => (h.2 rows (List.mem_of_getElem? hk)).2 r (List.mem_of_getElem? hi)⟩⟩
def dioramaref36_Near.f (l0 : Wd) (sh l : List Int) : Option Wd := if (smallB l0 && l.all in64 && decide (l.length ≤ 4611686018427387904)) = true then nearLoop sh l 4 0 l0 else none
def Low (n : Nat) (l : Wd) : Prop := ∀ (k : Nat) rows, l[k]? = some rows → rows.length ≤ n
theorem Low.set {n k : Nat} {l : Wd} {rows : List (List Int)} (h : Low n l) (hr : rows.length ≤ n + 1) : Low (n + 1) (l.set k rows) := by
 intro j rows' hj
 by_cases e : k = j
 (· subst e; have hl := (List.getElem?_eq_some_iff.1 hj).1; rw [List.length_set] at hl; rw [List.getElem?_set_self hl] at hj; obtain rfl := Option.some.inj hj; exact hr); (· rw [List.getElem?_set_ne e] at hj; have := h j rows' hj; omega)
theorem Low.succ {n : Nat} {l : Wd} (h : Low n l) : Low (n + 1) l := fun k rows hk => by have := h k rows hk; omega
theorem wrap_u64 (x : Int) (h0 : 0 ≤ x) (h1 : x < 18446744073709551616) : IntKind.u64.wrap x = x := by
 simp only [IntKind.wrap, IntKind.bits, IntKind.signed]
 simp
 omega
theorem wrap_u64_neg (x : Int) (h0 : -9223372036854775808 ≤ x) (h1 : x < 0) : IntKind.u64.wrap x = x + 18446744073709551616 := by
 simp only [IntKind.wrap, IntKind.bits, IntKind.signed]
 simp
 omega
theorem xor_ones (x : Int) (h0 : 0 ≤ x) (h1 : x < 18446744073709551616) : bits .xor .u64 18446744073709551615 x = 18446744073709551615 - x := by
 show IntKind.u64.wrap ((BitVec.ofInt 64 18446744073709551615 ^^^ BitVec.ofInt 64 x).toNat : Int) = _
 have e : BitVec.ofInt 64 18446744073709551615 = BitVec.allOnes 64 := by decide
 have e2 : (BitVec.ofInt 64 x).toNat = x.toNat := by
  rw [BitVec.toNat_ofInt]; omega
 rw [e, BitVec.allOnes_xor, BitVec.toNat_not, e2]; rw [wrap_u64 _ (by omega) (by omega)]; omega
theorem xor_byte (x : Int) (h0 : 0 ≤ x) (h1 : x < 256) : bits .xor .u8 x 255 = 255 - x ∧ bits .xor .u8 x 0 = x := by
 have h : ∀ y : Fin 256, bits .xor .u8 (y.val : Int) 255 = 255 - (y.val : Int) ∧ bits .xor .u8 (y.val : Int) 0 = (y.val : Int) := by decide +kernel
 have := h ⟨x.toNat, by omega⟩; simp only at this; rw [Int.toNat_of_nonneg h0] at this; exact this
def nb (m : Int) : Nat := if m < 1 then 0 else if m < 256 then 1 else if m < 65536 then 2 else if m < 16777216 then 3 else if m < 4294967296 then 4 else if m < 1099511627776 then 5 else if m < 281474976710656 then 6 else if m < 72057594037927936 then 7 else 8
def mag (n : Int) : Int := if n < 0 then -n - 1 else n
def flp (n x : Int) : Int := if n < 0 then 255 - x else x
def byt (n : Int) (k j : Nat) : List Int := (List.range j).map fun i => flp n (mag n / 256 ^ (k - 1 - i) % 256)
def intR (n : Int) : List Int := flp n (128 + nb (mag n)) :: byt n (nb (mag n)) (nb (mag n))
theorem byt_succ (n : Int) (k j : Nat) : byt n k (j + 1) = byt n k j ++ [flp n (mag n / 256 ^ (k - 1 - j) % 256)] := by simp [byt, List.range_succ]
theorem mag_bd (n : Int) (h : in64 n = true) : 0 ≤ mag n ∧ mag n < 9223372036854775808 := by
 rw [in64_iff] at h; unfold mag
 split <;> omega
theorem nb_le (m : Int) : nb m ≤ 8 := by
 unfold nb
 repeat' split
 all_goals omega
theorem nb_pow (m : Int) (hm : m < 18446744073709551616) (j : Nat) (hj : j ≤ 8) : nb m ≤ j ↔ m < 256 ^ j := by
 have : j = 0 ∨ j = 1 ∨ j = 2 ∨ j = 3 ∨ j = 4 ∨ j = 5 ∨ j = 6 ∨ j = 7 ∨ j = 8 := by omega
 unfold nb
 rcases this with rfl | rfl | rfl | rfl | rfl | rfl | rfl | rfl | rfl
 all_goals
  simp only [Int.reducePow]
  repeat' split
  all_goals omega
theorem wp_block_mid {P : Program} {c : Code} {K : Act → World → Prop} {Q' : Exit → Act → World → Prop} {a : Act} {w : World} (R : Act → World → Prop) (h1 : c.wp P (fun e a' w' => match e with | .exit 0 => R a' w' | _ => False) a w) (h2 : ∀ a' w', R a' w' → K a' w') :
  c.wp P (Exit.inBlock 0 (Exit.then K Q')) a w :=
 wp_mono h1 fun e a' w' h => by
  cases e with
  | exit id =>
   cases id with
   | zero => exact h2 _ _ h
   | succ n => exact h.elim
  | normal => exact h.elim
  | ret => exact h.elim
  | goto t => exact h.elim
  | panic ch => exact h.elim
  | outgrown => exact h.elim
set_option maxHeartbeats 2000000 in
set_option maxRecDepth 100000 in
theorem int_any (n : Int) (hn : in64 n = true) (w : World) :
  Calls Try.prog 47 #[.int .i64 n] w fun e w' => ∃ v, e = .returned v ∧ Kd.R (Kd.int .u8) 5 w' w.heap.size (fun _ => True) v (intR n) ∧ Below w.heap.size w w' := by
 obtain ⟨hm0, hm1⟩ := mag_bd n hn; have HN := A_ ((in64_iff).1 hn); clear hn
 go_enter Try.func47, Try.ntmps47
 by_cases h0 : n < 0
 ·have hd : decide (n < 0) = true := decide_eq_true h0
  go_wp2
  go_step3
  go_wp2
  go_step3
  go_wp2
  have e : bits .xor .u64 IntKind.u64.max (IntKind.u64.wrap n) = mag n := by
   have := HN.out; rw [wrap_u64_neg n (by omega) h0]
   show bits .xor .u64 18446744073709551615 _ = _
   rw [xor_ones _ (by omega) (by omega)]; unfold mag; rw [if_pos h0]; omega
  rw [e]; obtain ⟨M, hM⟩ : ∃ M, M = mag n := ⟨_, rfl⟩; rw [← hM] at hm0 hm1 e ⊢; have HM := A_ hM; clear hM; refine wp_block_mid (fun a' w' => ∃ (s14 s15 s16 s17 s18 s19 s20 s21 s22 s23 : Value), a' = { tmps := #[.int .i64 n, undef, .slice none 0 0, .int .u64 M, .int .u8 255, .int .i64 (nb M), undef, undef, .int .i64 n, .int .u64 (IntKind.u64.wrap n), .int .i64 n, .bool true, .int .u64 (IntKind.u64.wrap n), .int .u64 M, s14, s15, s16, s17, s18, s19, s20, s21, s22, s23, undef, undef, undef, undef, undef, undef, undef, undef, undef, undef, undef, undef, undef, undef, undef, undef, undef, undef, undef, undef, undef, undef, undef], defers := [] } ∧ w' = w) ?_ ?_
  ·have hp := fun j hj => nb_pow M (by omega) j hj
   have HP := A_ hp; clear hp; have h8 := nb_le M
   go_loopw [5] (fun u wr => ∃ k : Nat, k ≤ 8 ∧ u = .int .i64 k ∧ nb M ≤ k ∧ w = wr) (fun u _ => (intOf u).toNat)
   case atStart => exact ⟨8, by omega, rfl, h8, rfl⟩
   case round =>
    obtain ⟨k, hk8, rfl, hnk, rfl⟩ := hrel
    have hk : k = 0 ∨ k = 1 ∨ k = 2 ∨ k = 3 ∨ k = 4 ∨ k = 5 ∨ k = 6 ∨ k = 7 ∨ k = 8 := by omega
    rcases hk with rfl | rfl | rfl | rfl | rfl | rfl | rfl | rfl | rfl
    ·have hnb : nb M = 0 := by omega
     go_wp2; rw [hnb]; exact ⟨_, _, _, _, _, _, _, _, _, _, rfl, by first | rfl | trivial⟩
    ·have hp := HP.out 0 (by decide)
     by_cases hc : 1 ≤ M
     ·have hnb : nb M = 1 := by
       simp only [Int.reducePow] at hp; omega
      have c1 : decide (M > 0) = true := decide_eq_true (by omega); have c2 : decide (0 < M) = true := decide_eq_true (by omega); clear hc hp; go_wp2; rw [hnb]; exact ⟨_, _, _, _, _, _, _, _, _, _, rfl, by first | rfl | trivial⟩
     ·have hnb : nb M ≤ 0 := by
       simp only [Int.reducePow] at hp; omega
      have c1 : decide (M > 0) = false := decide_eq_false (by omega); have c2 : decide (0 < M) = false := decide_eq_false (by omega); clear hc hp; go_wp2
      go_roundw
      case rel => exact ⟨0, by omega, by go_num, hnb, by first | rfl | trivial⟩
      case measure => simp [intOf]
    ·have hp := HP.out 1 (by decide)
     by_cases hc : 256 ≤ M
     ·have hnb : nb M = 2 := by
       simp only [Int.reducePow] at hp; omega
      have c1 : decide (M / 256 > 0) = true := decide_eq_true (by omega); have c2 : decide (0 < M / 256) = true := decide_eq_true (by omega); clear hc hp; go_wp2; rw [hnb]; exact ⟨_, _, _, _, _, _, _, _, _, _, rfl, by first | rfl | trivial⟩
     ·have hnb : nb M ≤ 1 := by
       simp only [Int.reducePow] at hp; omega
      have c1 : decide (M / 256 > 0) = false := decide_eq_false (by omega); have c2 : decide (0 < M / 256) = false := decide_eq_false (by omega); clear hc hp; go_wp2
      go_roundw
      case rel => exact ⟨1, by omega, by go_num, hnb, by first | rfl | trivial⟩
      case measure => simp [intOf]
    ·have hp := HP.out 2 (by decide)
     by_cases hc : 65536 ≤ M
     ·have hnb : nb M = 3 := by
       simp only [Int.reducePow] at hp; omega
      have c1 : decide (M / 65536 > 0) = true := decide_eq_true (by omega); have c2 : decide (0 < M / 65536) = true := decide_eq_true (by omega); clear hc hp; go_wp2; rw [hnb]; exact ⟨_, _, _, _, _, _, _, _, _, _, rfl, by first | rfl | trivial⟩
     ·have hnb : nb M ≤ 2 := by
       simp only [Int.reducePow] at hp; omega
      have c1 : decide (M / 65536 > 0) = false := decide_eq_false (by omega); have c2 : decide (0 < M / 65536) = false := decide_eq_false (by omega); clear hc hp; go_wp2
      go_roundw
      case rel => exact ⟨2, by omega, by go_num, hnb, by first | rfl | trivial⟩
      case measure => simp [intOf]
    ·have hp := HP.out 3 (by decide)
     by_cases hc : 16777216 ≤ M
     ·have hnb : nb M = 4 := by
       simp only [Int.reducePow] at hp; omega
      have c1 : decide (M / 16777216 > 0) = true := decide_eq_true (by omega); have c2 : decide (0 < M / 16777216) = true := decide_eq_true (by omega); clear hc hp; go_wp2; rw [hnb]; exact ⟨_, _, _, _, _, _, _, _, _, _, rfl, by first | rfl | trivial⟩
     ·have hnb : nb M ≤ 3 := by
       simp only [Int.reducePow] at hp; omega
      have c1 : decide (M / 16777216 > 0) = false := decide_eq_false (by omega); have c2 : decide (0 < M / 16777216) = false := decide_eq_false (by omega); clear hc hp; go_wp2
      go_roundw
      case rel => exact ⟨3, by omega, by go_num, hnb, by first | rfl | trivial⟩
      case measure => simp [intOf]
    ·have hp := HP.out 4 (by decide)
     by_cases hc : 4294967296 ≤ M
     ·have hnb : nb M = 5 := by
       simp only [Int.reducePow] at hp; omega
      have c1 : decide (M / 4294967296 > 0) = true := decide_eq_true (by omega); have c2 : decide (0 < M / 4294967296) = true := decide_eq_true (by omega); clear hc hp; go_wp2; rw [hnb]; exact ⟨_, _, _, _, _, _, _, _, _, _, rfl, by first | rfl | trivial⟩
     ·have hnb : nb M ≤ 4 := by
       simp only [Int.reducePow] at hp; omega
      have c1 : decide (M / 4294967296 > 0) = false := decide_eq_false (by omega); have c2 : decide (0 < M / 4294967296) = false := decide_eq_false (by omega); clear hc hp; go_wp2
      go_roundw
      case rel => exact ⟨4, by omega, by go_num, hnb, by first | rfl | trivial⟩
      case measure => simp [intOf]
    ·have hp := HP.out 5 (by decide)
     by_cases hc : 1099511627776 ≤ M
     ·have hnb : nb M = 6 := by
       simp only [Int.reducePow] at hp; omega
      have c1 : decide (M / 1099511627776 > 0) = true := decide_eq_true (by omega); have c2 : decide (0 < M / 1099511627776) = true := decide_eq_true (by omega); clear hc hp; go_wp2; rw [hnb]; exact ⟨_, _, _, _, _, _, _, _, _, _, rfl, by first | rfl | trivial⟩
     ·have hnb : nb M ≤ 5 := by
       simp only [Int.reducePow] at hp; omega
      have c1 : decide (M / 1099511627776 > 0) = false := decide_eq_false (by omega); have c2 : decide (0 < M / 1099511627776) = false := decide_eq_false (by omega); clear hc hp; go_wp2
      go_roundw
      case rel => exact ⟨5, by omega, by go_num, hnb, by first | rfl | trivial⟩
      case measure => simp [intOf]
    ·have hp := HP.out 6 (by decide)
     by_cases hc : 281474976710656 ≤ M
     ·have hnb : nb M = 7 := by
       simp only [Int.reducePow] at hp; omega
      have c1 : decide (M / 281474976710656 > 0) = true := decide_eq_true (by omega); have c2 : decide (0 < M / 281474976710656) = true := decide_eq_true (by omega); clear hc hp; go_wp2; rw [hnb]; exact ⟨_, _, _, _, _, _, _, _, _, _, rfl, by first | rfl | trivial⟩
     ·have hnb : nb M ≤ 6 := by
       simp only [Int.reducePow] at hp; omega
      have c1 : decide (M / 281474976710656 > 0) = false := decide_eq_false (by omega); have c2 : decide (0 < M / 281474976710656) = false := decide_eq_false (by omega); clear hc hp; go_wp2
      go_roundw
      case rel => exact ⟨6, by omega, by go_num, hnb, by first | rfl | trivial⟩
      case measure => simp [intOf]
    ·have hp := HP.out 7 (by decide)
     by_cases hc : 72057594037927936 ≤ M
     ·have hnb : nb M = 8 := by
       simp only [Int.reducePow] at hp; omega
      have c1 : decide (M / 72057594037927936 > 0) = true := decide_eq_true (by omega); have c2 : decide (0 < M / 72057594037927936) = true := decide_eq_true (by omega); clear hc hp; go_wp2; rw [hnb]; exact ⟨_, _, _, _, _, _, _, _, _, _, rfl, by first | rfl | trivial⟩
     ·have hnb : nb M ≤ 7 := by
       simp only [Int.reducePow] at hp; omega
      have c1 : decide (M / 72057594037927936 > 0) = false := decide_eq_false (by omega); have c2 : decide (0 < M / 72057594037927936) = false := decide_eq_false (by omega); clear hc hp; go_wp2
      go_roundw
      case rel => exact ⟨7, by omega, by go_num, hnb, by first | rfl | trivial⟩
      case measure => simp [intOf]
  ·rintro a' w' ⟨s14, s15, s16, s17, s18, s19, s20, s21, s22, s23, rfl, rfl⟩
   have h8 := nb_le M; have e1 : bits .xor .u8 (128 + (nb M : Int)) 255 = 255 - (128 + (nb M : Int)) := (xor_byte (128 + (nb M : Int)) (by omega) (by omega)).1; obtain ⟨K, hK⟩ : ∃ K, K = nb M := ⟨_, rfl⟩; rw [← hK] at h8 e1 ⊢; have HK := A_ hK; have HE1 := A_ e1; clear hK e1 e
   go_wp2_with (first
    | ((with_reducible refine gate_dst (N := 29) rfl ?_); refine Kd.R_lit (Kd.int .u8) (w0 := w') w'.heap.size 5 ?hg (N := 29) ?hd (xs := ([bits .xor .u8 (128 + (K : Int)) 255] : List Int)) (inner := [.int .u8 (bits .xor .u8 (128 + (K : Int)) 255)]) (ok := fun _ => True) (okp := fun _ => True) ?hr ?hp (fun _ hk => hk) trivial (Below.refl _ _) (Nat.le_refl _) (by simp) ?_; (case hd => rfl); (case hg => rfl); (case hr => first | (go_simp; done) | (go_simp; rfl)); (case hp => exact Reps.one (show Kd.M (Kd.int .u8) _ _ _ (bits .xor .u8 (128 + (K : Int)) 255) [.int .u8 (bits .xor .u8 (128 + (K : Int)) 255)] from rfl) (Reps.none _ _)); intro v5 w5 ho5 hb5 hg5 hn5; clear hg5 hn5; rw [HE1.out] at ho5; have HO5 := A_ ho5; have HB5 := A_ hb5; clear ho5 hb5))
   go_loopw [6, 7] (fun u v wr => ∃ j : Nat, j ≤ K ∧ v = .int .i64 ((K : Int) - 1 - j) ∧ Aside0 (Below w'.heap.size w' wr) ∧ Aside0 (Kd.R (Kd.int .u8) 5 wr w'.heap.size (fun _ => True) u ((255 - (128 + (K : Int))) :: byt n K j))) (fun _ v _ => (intOf v + 1).toNat)
   case atStart => exact ⟨0, Nat.zero_le _, by go_num, HB5, ⟨HO5.out⟩⟩
   case round =>
    obtain ⟨j, hj, rfl, HB, HO⟩ := hrel
    by_cases hjK : j < K
    ·obtain ⟨q, hq⟩ : ∃ q, q = K - 1 - j := ⟨_, rfl⟩
     have hqi : (K : Int) - 1 - (j : Int) = (q : Int) := by omega
     rw [hqi]
     have hq8 : q < 8 := by omega
     have HQ := A_ hq; clear hqi hq
     have hx : bits .xor .u8 (M / 2 ^ (8 * q) % 256) 255 = flp n (mag n / 256 ^ (K - 1 - j) % 256) := by
      rw [(xor_byte (M / 2 ^ (8 * q) % 256) (by omega) (by omega)).1, ← HM.out, ← HQ.out, Int.pow_mul]; unfold flp; rw [if_pos h0]; rfl
     have HX := A_ hx; have HLEN := A_ (show ((255 - (128 + (K : Int))) :: byt n K j).length = j + 1 by simp [byt]); clear hx
     go_wp2_with ((with_reducible refine gate_builtin (b := .append) (xs := #[.tmp 36, .tmp 44]) rfl ?_); at_builtin; refine Kd.R_append (Kd.int .u8) (w0 := w') w'.heap.size rfl (.tmp 36) (.tmp 44) 53 5 (.int .u8 0) 1 rfl Try.underlying53 info5 rfl (by decide) (by decide) u6 ((255 - (128 + (K : Int))) :: byt n K j) (bits .xor .u8 (M / 2 ^ (8 * q) % 256) 255) [.int .u8 (bits .xor .u8 (M / 2 ^ (8 * q) % 256) 255)] (fun _ => True) (fun _ => False) rfl rfl rfl (fun _ h => h.elim) (fun _ _ => trivial) HO.out HB.out HB.out.size ?hl ?_; (case hl => rw [HLEN.out]; omega); intro v7 w7 ho7 hb7 hg7 hat7; have HO7 := A_ ho7; have HB7 := A_ hb7; clear ho7 hb7 hg7 hat7)
     go_roundw
     case rel => exact ⟨j + 1, by omega, congrArg (Value.int .i64) (by have := HQ.out; omega), HB7, ⟨by rw [byt_succ, ← HX.out]; exact HO7.out⟩⟩
     case measure => have := HQ.out; simp [intOf] <;> omega
    ·have hje : j = K := by omega
     subst hje; go_wp2
     try rw [Exit.noGoto_ret]
     go_ret
     exact ⟨_, rfl, by
      have e : intR n = (255 - (128 + (j : Int))) :: byt n j j := by
       unfold intR; rw [← HM.out, ← HK.out]; unfold flp; rw [if_pos h0]
      rw [e]
      exact HO.out, HB.out⟩
 ·have hd : decide (n < 0) = false := decide_eq_false h0
  have e : mag n = n := if_neg (by omega); rw [e] at hm0 hm1; have HM := A_ e.symm; clear e; go_wp2
  go_step3
  go_wp2
  go_step3
  go_wp2; refine wp_block_mid (fun a' w' => ∃ (s14 s15 s16 s17 s18 s19 s20 s21 s22 s23 : Value), a' = { tmps := #[.int .i64 n, undef, .slice none 0 0, .int .u64 n, .int .u8 0, .int .i64 (nb n), undef, undef, .int .i64 n, .int .u64 n, .int .i64 n, .bool false, undef, undef, s14, s15, s16, s17, s18, s19, s20, s21, s22, s23, undef, undef, undef, undef, undef, undef, undef, undef, undef, undef, undef, undef, undef, undef, undef, undef, undef, undef, undef, undef, undef, undef, undef], defers := [] } ∧ w' = w) ?_ ?_
  ·have hp := fun j hj => nb_pow n (by omega) j hj
   have HP := A_ hp; clear hp; have h8 := nb_le n
   go_loopw [5] (fun u wr => ∃ k : Nat, k ≤ 8 ∧ u = .int .i64 k ∧ nb n ≤ k ∧ w = wr) (fun u _ => (intOf u).toNat)
   case atStart => exact ⟨8, by omega, rfl, h8, rfl⟩
   case round =>
    obtain ⟨k, hk8, rfl, hnk, rfl⟩ := hrel
    have hk : k = 0 ∨ k = 1 ∨ k = 2 ∨ k = 3 ∨ k = 4 ∨ k = 5 ∨ k = 6 ∨ k = 7 ∨ k = 8 := by omega
    rcases hk with rfl | rfl | rfl | rfl | rfl | rfl | rfl | rfl | rfl
    ·have hnb : nb n = 0 := by omega
     go_wp2; rw [hnb]; exact ⟨_, _, _, _, _, _, _, _, _, _, rfl, by first | rfl | trivial⟩
    ·have hp := HP.out 0 (by decide)
     by_cases hc : 1 ≤ n
     ·have hnb : nb n = 1 := by
       simp only [Int.reducePow] at hp; omega
      have c1 : decide (n > 0) = true := decide_eq_true (by omega); have c2 : decide (0 < n) = true := decide_eq_true (by omega); clear hc hp; go_wp2; rw [hnb]; exact ⟨_, _, _, _, _, _, _, _, _, _, rfl, by first | rfl | trivial⟩
     ·have hnb : nb n ≤ 0 := by
       simp only [Int.reducePow] at hp; omega
      have c1 : decide (n > 0) = false := decide_eq_false (by omega); have c2 : decide (0 < n) = false := decide_eq_false (by omega); clear hc hp; go_wp2
      go_roundw
      case rel => exact ⟨0, by omega, by go_num, hnb, by first | rfl | trivial⟩
      case measure => simp [intOf]
    ·have hp := HP.out 1 (by decide)
     by_cases hc : 256 ≤ n
     ·have hnb : nb n = 2 := by
       simp only [Int.reducePow] at hp; omega
      have c1 : decide (n / 256 > 0) = true := decide_eq_true (by omega); have c2 : decide (0 < n / 256) = true := decide_eq_true (by omega); clear hc hp; go_wp2; rw [hnb]; exact ⟨_, _, _, _, _, _, _, _, _, _, rfl, by first | rfl | trivial⟩
     ·have hnb : nb n ≤ 1 := by
       simp only [Int.reducePow] at hp; omega
      have c1 : decide (n / 256 > 0) = false := decide_eq_false (by omega); have c2 : decide (0 < n / 256) = false := decide_eq_false (by omega); clear hc hp; go_wp2
      go_roundw
      case rel => exact ⟨1, by omega, by go_num, hnb, by first | rfl | trivial⟩
      case measure => simp [intOf]
    ·have hp := HP.out 2 (by decide)
     by_cases hc : 65536 ≤ n
     ·have hnb : nb n = 3 := by
       simp only [Int.reducePow] at hp; omega
      have c1 : decide (n / 65536 > 0) = true := decide_eq_true (by omega); have c2 : decide (0 < n / 65536) = true := decide_eq_true (by omega); clear hc hp; go_wp2; rw [hnb]; exact ⟨_, _, _, _, _, _, _, _, _, _, rfl, by first | rfl | trivial⟩
     ·have hnb : nb n ≤ 2 := by
       simp only [Int.reducePow] at hp; omega
      have c1 : decide (n / 65536 > 0) = false := decide_eq_false (by omega); have c2 : decide (0 < n / 65536) = false := decide_eq_false (by omega); clear hc hp; go_wp2
      go_roundw
      case rel => exact ⟨2, by omega, by go_num, hnb, by first | rfl | trivial⟩
      case measure => simp [intOf]
    ·have hp := HP.out 3 (by decide)
     by_cases hc : 16777216 ≤ n
     ·have hnb : nb n = 4 := by
       simp only [Int.reducePow] at hp; omega
      have c1 : decide (n / 16777216 > 0) = true := decide_eq_true (by omega); have c2 : decide (0 < n / 16777216) = true := decide_eq_true (by omega); clear hc hp; go_wp2; rw [hnb]; exact ⟨_, _, _, _, _, _, _, _, _, _, rfl, by first | rfl | trivial⟩
     ·have hnb : nb n ≤ 3 := by
       simp only [Int.reducePow] at hp; omega
      have c1 : decide (n / 16777216 > 0) = false := decide_eq_false (by omega); have c2 : decide (0 < n / 16777216) = false := decide_eq_false (by omega); clear hc hp; go_wp2
      go_roundw
      case rel => exact ⟨3, by omega, by go_num, hnb, by first | rfl | trivial⟩
      case measure => simp [intOf]
    ·have hp := HP.out 4 (by decide)
     by_cases hc : 4294967296 ≤ n
     ·have hnb : nb n = 5 := by
       simp only [Int.reducePow] at hp; omega
      have c1 : decide (n / 4294967296 > 0) = true := decide_eq_true (by omega); have c2 : decide (0 < n / 4294967296) = true := decide_eq_true (by omega); clear hc hp; go_wp2; rw [hnb]; exact ⟨_, _, _, _, _, _, _, _, _, _, rfl, by first | rfl | trivial⟩
     ·have hnb : nb n ≤ 4 := by
       simp only [Int.reducePow] at hp; omega
      have c1 : decide (n / 4294967296 > 0) = false := decide_eq_false (by omega); have c2 : decide (0 < n / 4294967296) = false := decide_eq_false (by omega); clear hc hp; go_wp2
      go_roundw
      case rel => exact ⟨4, by omega, by go_num, hnb, by first | rfl | trivial⟩
      case measure => simp [intOf]
    ·have hp := HP.out 5 (by decide)
     by_cases hc : 1099511627776 ≤ n
     ·have hnb : nb n = 6 := by
       simp only [Int.reducePow] at hp; omega
      have c1 : decide (n / 1099511627776 > 0) = true := decide_eq_true (by omega); have c2 : decide (0 < n / 1099511627776) = true := decide_eq_true (by omega); clear hc hp; go_wp2; rw [hnb]; exact ⟨_, _, _, _, _, _, _, _, _, _, rfl, by first | rfl | trivial⟩
     ·have hnb : nb n ≤ 5 := by
       simp only [Int.reducePow] at hp; omega
      have c1 : decide (n / 1099511627776 > 0) = false := decide_eq_false (by omega); have c2 : decide (0 < n / 1099511627776) = false := decide_eq_false (by omega); clear hc hp; go_wp2
      go_roundw
      case rel => exact ⟨5, by omega, by go_num, hnb, by first | rfl | trivial⟩
      case measure => simp [intOf]
    ·have hp := HP.out 6 (by decide)
     by_cases hc : 281474976710656 ≤ n
     ·have hnb : nb n = 7 := by
       simp only [Int.reducePow] at hp; omega
      have c1 : decide (n / 281474976710656 > 0) = true := decide_eq_true (by omega); have c2 : decide (0 < n / 281474976710656) = true := decide_eq_true (by omega); clear hc hp; go_wp2; rw [hnb]; exact ⟨_, _, _, _, _, _, _, _, _, _, rfl, by first | rfl | trivial⟩
     ·have hnb : nb n ≤ 6 := by
       simp only [Int.reducePow] at hp; omega
      have c1 : decide (n / 281474976710656 > 0) = false := decide_eq_false (by omega); have c2 : decide (0 < n / 281474976710656) = false := decide_eq_false (by omega); clear hc hp; go_wp2
      go_roundw
      case rel => exact ⟨6, by omega, by go_num, hnb, by first | rfl | trivial⟩
      case measure => simp [intOf]
    ·have hp := HP.out 7 (by decide)
     by_cases hc : 72057594037927936 ≤ n
     ·have hnb : nb n = 8 := by
       simp only [Int.reducePow] at hp; omega
      have c1 : decide (n / 72057594037927936 > 0) = true := decide_eq_true (by omega); have c2 : decide (0 < n / 72057594037927936) = true := decide_eq_true (by omega); clear hc hp; go_wp2; rw [hnb]; exact ⟨_, _, _, _, _, _, _, _, _, _, rfl, by first | rfl | trivial⟩
     ·have hnb : nb n ≤ 7 := by
       simp only [Int.reducePow] at hp; omega
      have c1 : decide (n / 72057594037927936 > 0) = false := decide_eq_false (by omega); have c2 : decide (0 < n / 72057594037927936) = false := decide_eq_false (by omega); clear hc hp; go_wp2
      go_roundw
      case rel => exact ⟨7, by omega, by go_num, hnb, by first | rfl | trivial⟩
      case measure => simp [intOf]
  ·rintro a' w' ⟨s14, s15, s16, s17, s18, s19, s20, s21, s22, s23, rfl, rfl⟩
   have h8 := nb_le n; have e1 : bits .xor .u8 (128 + (nb n : Int)) 0 = 128 + (nb n : Int) := (xor_byte (128 + (nb n : Int)) (by omega) (by omega)).2; obtain ⟨K, hK⟩ : ∃ K, K = nb n := ⟨_, rfl⟩; rw [← hK] at h8 e1 ⊢; have HK := A_ hK; have HE1 := A_ e1; clear hK e1
   go_wp2_with (first
    | ((with_reducible refine gate_dst (N := 29) rfl ?_); refine Kd.R_lit (Kd.int .u8) (w0 := w') w'.heap.size 5 ?hg (N := 29) ?hd (xs := ([bits .xor .u8 (128 + (K : Int)) 0] : List Int)) (inner := [.int .u8 (bits .xor .u8 (128 + (K : Int)) 0)]) (ok := fun _ => True) (okp := fun _ => True) ?hr ?hp (fun _ hk => hk) trivial (Below.refl _ _) (Nat.le_refl _) (by simp) ?_; (case hd => rfl); (case hg => rfl); (case hr => first | (go_simp; done) | (go_simp; rfl)); (case hp => exact Reps.one (show Kd.M (Kd.int .u8) _ _ _ (bits .xor .u8 (128 + (K : Int)) 0) [.int .u8 (bits .xor .u8 (128 + (K : Int)) 0)] from rfl) (Reps.none _ _)); intro v5 w5 ho5 hb5 hg5 hn5; clear hg5 hn5; rw [HE1.out] at ho5; have HO5 := A_ ho5; have HB5 := A_ hb5; clear ho5 hb5))
   go_loopw [6, 7] (fun u v wr => ∃ j : Nat, j ≤ K ∧ v = .int .i64 ((K : Int) - 1 - j) ∧ Aside0 (Below w'.heap.size w' wr) ∧ Aside0 (Kd.R (Kd.int .u8) 5 wr w'.heap.size (fun _ => True) u ((128 + (K : Int)) :: byt n K j))) (fun _ v _ => (intOf v + 1).toNat)
   case atStart => exact ⟨0, Nat.zero_le _, by go_num, HB5, ⟨HO5.out⟩⟩
   case round =>
    obtain ⟨j, hj, rfl, HB, HO⟩ := hrel
    by_cases hjK : j < K
    ·obtain ⟨q, hq⟩ : ∃ q, q = K - 1 - j := ⟨_, rfl⟩
     have hqi : (K : Int) - 1 - (j : Int) = (q : Int) := by omega
     rw [hqi]
     have hq8 : q < 8 := by omega
     have HQ := A_ hq; clear hqi hq
     have hx : bits .xor .u8 (n / 2 ^ (8 * q) % 256) 0 = flp n (mag n / 256 ^ (K - 1 - j) % 256) := by
      rw [(xor_byte (n / 2 ^ (8 * q) % 256) (by omega) (by omega)).2, ← HM.out, ← HQ.out, Int.pow_mul]; unfold flp; rw [if_neg (by omega)]; rfl
     have HX := A_ hx; have HLEN := A_ (show ((128 + (K : Int)) :: byt n K j).length = j + 1 by simp [byt]); clear hx
     go_wp2_with ((with_reducible refine gate_builtin (b := .append) (xs := #[.tmp 36, .tmp 44]) rfl ?_); at_builtin; refine Kd.R_append (Kd.int .u8) (w0 := w') w'.heap.size rfl (.tmp 36) (.tmp 44) 53 5 (.int .u8 0) 1 rfl Try.underlying53 info5 rfl (by decide) (by decide) u6 ((128 + (K : Int)) :: byt n K j) (bits .xor .u8 (n / 2 ^ (8 * q) % 256) 0) [.int .u8 (bits .xor .u8 (n / 2 ^ (8 * q) % 256) 0)] (fun _ => True) (fun _ => False) rfl rfl rfl (fun _ h => h.elim) (fun _ _ => trivial) HO.out HB.out HB.out.size ?hl ?_; (case hl => rw [HLEN.out]; omega); intro v7 w7 ho7 hb7 hg7 hat7; have HO7 := A_ ho7; have HB7 := A_ hb7; clear ho7 hb7 hg7 hat7)
     go_roundw
     case rel => exact ⟨j + 1, by omega, congrArg (Value.int .i64) (by have := HQ.out; omega), HB7, ⟨by rw [byt_succ, ← HX.out]; exact HO7.out⟩⟩
     case measure => have := HQ.out; simp [intOf] <;> omega
    ·have hje : j = K := by omega
     subst hje; go_wp2
     try rw [Exit.noGoto_ret]
     go_ret
     exact ⟨_, rfl, by
      have e : intR n = (128 + (j : Int)) :: byt n j j := by
       unfold intR; rw [← HM.out, ← HK.out]; unfold flp; rw [if_neg (by omega)]
      rw [e]
      exact HO.out, HB.out⟩
def wire_Int.f (a0 : Int) : Option (List Int) := if in64 a0 = true then some (intR a0) else none
theorem wire_Int.calls (a0 : Int) (r : List Int) (w : World) (h : wire_Int.f a0 = some r) :
  Calls Try.prog 47 #[.int .i64 a0] w fun e w' => ∃ v0_ : Value, e = .returned (v0_) ∧ Kd.R (Kd.int .u8) 5 w' w.heap.size (fun _ => True) v0_ r ∧ Below w.heap.size w w' := by
 unfold wire_Int.f at h
 split at h
 ·next hs =>
  obtain rfl := Option.some.inj h; exact int_any a0 hs w
 ·cases h
end Go.Proofs.Ytcgpemefmakjiaa.PX
namespace Go.Proofs.Ytcgpemefmakjiaa.PX
open Go.RowKit Go.Proofs.YtcgpemefmakjiaaW.PrintWords Go.Proofs.YtcgpemefmakjiaaW.PrintLast Go.Proofs.YtcgpemefmakjiaaW.PrintMore
attribute [local go_sem] max2_int min2_int max_two min_two max_three min_three max_four min_four   -- for this text's walks alone
def wire_Ints.l0 : Nat → List Int → List Int → Int → Int → Option (List Int)
 | 0, _, _, _, _ => none
 | k + 1, x3, x9, x10, x11 => if x11 < x10 then (if 0 ≤ x11 then (if x11 < (x9.length : Int) then ((wire_Int.f (rd x9 x11)).bind fun t458 => (if x3.length + t458.length < 140737488355328 then (wire_Ints.l0 k (x3 ++ t458) x9 x10 (wrap64 (x11 + 1))) else (none))) else (none)) else (none)) else (some x3)
def wire_Ints.f (k : Nat) (l0 : List Int) : Option (List Int) := (wire_Int.f (l0.length : Int)).bind fun t454 => (wire_Ints.l0 k t454 l0 (l0.length : Int) 0)
set_option maxHeartbeats 8000000 in
set_option maxRecDepth 100000 in
theorem wire_Ints.calls (k : Nat) (A0 : Option Addr) (c0 : Nat) (l0 : List Int) (r : List Int) (w : World) (hr0 : Kd.C (Kd.int .i64) w A0 l0.length l0) (hc0 : l0.length ≤ c0) (h : wire_Ints.f k l0 = some r) :
  Calls Try.prog 49 #[.slice A0 l0.length c0] w fun e w' => ∃ v0_ : Value, e = .returned (v0_) ∧ Kd.R (Kd.int .u8) 5 w' w.heap.size (fun _ => True) v0_ r ∧ Below w.heap.size w w' := by
 have HR0 := A_ hr0; have HC0 := A_ hc0; clear hr0 hc0; have HB := A_ (Below.refl w.heap.size w); have H : ((wire_Int.f (l0.length : Int)).bind fun t454 => (wire_Ints.l0 k t454 l0 (l0.length : Int) 0)) = some r := h; clear h; replace H := Option.bind_eq_some_iff.mp H; obtain ⟨t454, A20, H⟩ := H
 (try dsimp only at H)
 have A2 := A_ A20; clear A20; have H' := A_ H; clear H
 go_enter Try.func49, Try.ntmps49
 go_wp2_with (first | ((with_reducible refine gate_callee (f := 47) rfl ?_); refine goesL_ (some 8) rfl rfl Try.func47 (by kernel_rfl) rfl #[.int .i64 (l0.length : Int)] rfl lm_ ?_; (with_reducible refine (wire_Int.calls (l0.length : Int) t454 _ A2.out).mono ?_); rintro e w3 ⟨v455, rfl, ho0, hb⟩; refine ⟨_, rfl, ?_⟩; have HO456 := A_ (Kd.R_lower ho0 (below_size (bx_ HB))); replace HB := A_ (below_step (bx_ HB) hb); (try clear hb); (try clear hb2); (try clear hk); (try clear hi); (try clear ho0)))
 go_loopg [3, 11] k (fun kq v3 v11 w' => ∃ (x3_1 : List Int) (x11_1 : Int), v11 = .int .i64 x11_1 ∧ Aside0 (wire_Ints.l0 kq x3_1 l0 (l0.length : Int) x11_1 = some r) ∧ Aside0 (kq ≤ k) ∧ Aside0 (Kd.R (Kd.int .u8) 5 w' w.heap.size (fun _ => True) v3 x3_1) ∧ Aside0 (Below w.heap.size w w'))
 case atStart => exact ⟨(t454), (0), rf_, H', ⟨Nat.le_refl _⟩, ⟨by (with_reducible repeat (first | apply Kd.R_alloc | apply Kd.R_drewN | apply Kd.R_drew)); exact HO456.out⟩, ⟨bx_ HB⟩⟩
 case round =>
  clear H'; obtain ⟨x3_1, x11_1, rfl, HA, HK1, HO_3, HB⟩ := hrel
  cases gk with
  | zero => exact absurd HA.out (by simp [wire_Ints.l0])
  | succ k1 =>
   have H := HA.out; clear HA; simp only [wire_Ints.l0] at H
   by_cases c4 : x11_1 < (l0.length : Int)
   ·rw [if_pos c4] at H
    have c4b0 := decide_eq_true c4; clear c4
    by_cases c5 : 0 ≤ x11_1
    ·rw [if_pos c5] at H
     have c5b0 := decide_eq_true c5; clear c5
     by_cases c6 : x11_1 < (l0.length : Int)
     ·rw [if_pos c6] at H
      have c6b0 := decide_eq_true c6; clear c6; replace H := Option.bind_eq_some_iff.mp H; obtain ⟨t458, A70, H⟩ := H
      (try dsimp only at H)
      have A7 := A_ A70; clear A70
      by_cases c8 : x3_1.length + t458.length < 140737488355328
      ·rw [if_pos c8] at H
       have LMc8 := A_ c8; clear c8; obtain ⟨y461, hy461⟩ : ∃ y_ : List Int, y_ = (x3_1 ++ t458) := ⟨_, rfl⟩; replace H : (wire_Ints.l0 k1 y461 l0 (l0.length : Int) (wrap64 (x11_1 + 1))) = some r := rh_ hy461 H; have Ny461 := A_ hy461; clear hy461; have H' := A_ H; clear H; have p457 : 0 ≤ (x11_1 : Int) := od_; have q457 : x11_1 < (l0.length : Int) := od_; obtain ⟨ad457, e457, hx457_0⟩ := Kd.at_int HR0.out x11_1 p457 q457
       cases e457
       replace hx457_0 := hc_ HB hx457_0; replace p457 := eq_true p457; replace q457 := eq_true q457
       go_wp2_with (first | ((with_reducible refine gate_callee (f := 47) rfl ?_); refine goesL_ (some 17) rfl rfl Try.func47 (by kernel_rfl) rfl #[.int .i64 (rd l0 x11_1)] rfl lm_ ?_; (with_reducible refine (wire_Int.calls (rd l0 x11_1) t458 _ A7.out).mono ?_); rintro e w9 ⟨v459, rfl, ho0, hb⟩; refine ⟨_, rfl, ?_⟩; have HO460 := A_ (Kd.R_lower (Kd.R_new' ho0 (Kd.R_lt (rx_ HO_3))) (below_size (bx_ HB))); replace HO_3 := A_ (Kd.R_elder' (rx_ HO_3) (Kd.R_base ho0) hb); replace HB := A_ (below_step (bx_ HB) hb); (try clear hb); (try clear hb2); (try clear hk); (try clear hi); (try clear ho0); obtain ⟨Ao11, co11, eo11⟩ := Kd.R_slice HO460.out; subst eo11) | ((with_reducible refine gate_builtin (b := .append) (xs := #[.tmp 15, .tmp 17]) rfl ?_); at_builtin; refine Kd.R_append_rows (Kd.int .u8) (w0 := w) w.heap.size rfl (.tmp 15) (.tmp 17) 53 5 (.int .u8 0) 1 rfl Try.underlying53 info5 rfl (by decide) (by omega) u3 x3_1 t458 _ _ _ (fun k_ => some k_ ≠ (.slice Ao11 t458.length co11 : Value).ownBlock) (fun _ => False) rfl rfl ?aO ?aR (fun _ _ h => h) (fun _ h => h.elim) ?aF ?aB ?aS ?aL ?_; (case aR => repeat (first | exact (Kd.R_reads' HO460.out).2.2 | (with_reducible refine Kd.C_alloc ?_ _) | (with_reducible refine Kd.C_drewN ?_ _) | (with_reducible refine Kd.C_drew ?_))); (case aB => exact (bx_ HB)); (case aF => exact (fun k_ hk => Kd.fresh' (Kd.R_lt (rx_ HO460)) k_ hk)); (case aO => exact (by (with_reducible repeat (first | apply Kd.R_alloc | apply Kd.R_drewN | apply Kd.R_drew)); exact Kd.R_mono HO_3.out (fun _ hk => hk.2))); (case aS => exact (below_size (bx_ HB))); (case aL => have := LMc8.out; omega); intro v462 w10 ho hb hg hat; rw [← Ny461.out] at ho; have n0_ := A_ (Kd.R_after (ok := (fun _ => True)) (rx_ HO460) hg hat); have n1_ := A_ (hb); have n2_ := A_ (ho); clear HO460 HB HO_3; have HO460 := n0_; have HB := n1_; have HO463 := n2_; clear n0_ n1_ n2_; clear ho hb hg hat))
       go_roundg k1
       case measure => have := HK1.out; omega
       case rel => exact ⟨(y461), (wrap64 (x11_1 + 1)), rf_, H', ⟨by have := HK1.out; omega⟩, ⟨by (with_reducible repeat (first | apply Kd.R_alloc | apply Kd.R_drewN | apply Kd.R_drew)); exact Kd.R_mono HO463.out (fun _ hk => trivial)⟩, ⟨bx_ HB⟩⟩
      (· rw [if_neg c8] at H; exact absurd H (by simp))
     (· rw [if_neg c6] at H; exact absurd H (by simp))
    (· rw [if_neg c5] at H; exact absurd H (by simp))
   (· rw [if_neg c4] at H; have c4b0 := decide_eq_false c4; clear c4; obtain rfl := Option.some.inj H; go_wp2; go_ret; exact ⟨_, ew_, by (with_reducible repeat (first | apply Kd.R_alloc | apply Kd.R_drewN | apply Kd.R_drew)); exact HO_3.out, bx_ HB⟩)
end Go.Proofs.Ytcgpemefmakjiaa.PX
namespace Go.Proofs.Ytcgpemefmakjiaa.PX
open Go.RowKit Go.Proofs.YtcgpemefmakjiaaW.PrintWords Go.Proofs.YtcgpemefmakjiaaW.PrintLast Go.Proofs.YtcgpemefmakjiaaW.PrintMore
set_option maxHeartbeats 1000000 in
set_option maxRecDepth 100000 in
theorem grow_any (n : Nat) (hn : n ≤ 1000000000000) (w : World) :
  Calls Try.prog 70 #[.slice none 0 0, .int .i64 n] w fun e w' => ∃ v, e = .returned v ∧ Kd.R (Kd.int .u8) 5 w' w.heap.size (fun _ => True) v [] ∧ Below w.heap.size w w' := by
 go_enter Try.func70, Try.ntmps70
 by_cases h0 : n = 0
 (· subst h0; go_wp2; go_ret; exact ⟨_, rfl, Kd.R_nil _ _ _ _ _, Below.refl _ _⟩)
 ·have hp : 0 < n := by omega
  have hd : decide ((n : Int) < 0) = false := decide_eq_false (by omega); have hd2 : decide ((n : Int) > 0) = true := decide_eq_true (by omega); have hd3 : decide ((0 : Int) < (n : Int)) = true := decide_eq_true (by omega); obtain ⟨i5, hi5, hz5⟩ := Option.map_eq_some_iff.1 info5; simp only [Prod.mk.injEq] at hz5; obtain ⟨hz0, hz1, hz2⟩ := hz5; have HRUN := A_ (fun ty => Lib.run_append_nil_zeros (P := Try.prog) w 53 3 ty 5 i5 (.int .u8 0) .i64 .i64 Try.underlying53 Try.underlying3 hi5 hz0 n hp (by omega) (by omega) (by rw [hz2]; omega)); clear hz0 hz1 hz2 hi5
  go_wp2_with ((with_reducible refine gate_builtin (b := .append) (xs := #[.tmp 20, .tmp 21]) rfl ?_); at_builtin; refine Lib.wpList_append_run w rfl (.tmp 20) (.tmp 21) 53 3 rfl _ _ rfl rfl _ _ (HRUN.out _) ?_)
  have hge := grownCap_ge w n 0 5; have hcm : grownCap w n 0 5 ≤ maxLen := grownCap_le_maxLen w n 0 5 (by simp only [maxLen]; omega); clear HRUN; generalize grownCap w n 0 5 = cap at hge hcm; go_ret; refine ⟨_, rfl, ⟨fun _ _ => trivial, [], ⟨rfl, .inr ⟨w.heap.size, cap, _, rfl, Nat.le_refl _, heap_alloc_new w _, Nat.zero_le _, hcm, ?_, by simp⟩⟩, Reps.none _ _⟩, below_drew (below_alloc (Below.refl _ _) _)⟩; simp only [Array.size_append, size_zeroCells, List.size_toArray, List.length_cons, List.length_nil]
  show n * 1 + (cap - n) * 1 = cap * 1
  omega
def slices_Concat_byte.f (l0 : List (List Int)) : Option (List Int) := if l0.length ≤ 1000000 ∧ l0.flatten.length ≤ 1000000000000 then some l0.flatten else none
theorem flat_take (l : List (List Int)) (i : Nat) (h : i < l.length) : (l.take (i + 1)).flatten = (l.take i).flatten ++ rd_L1 l i := by
 rw [List.take_succ_eq_append_getElem h, List.flatten_append]
 simp [rd_L1, List.getD_eq_getElem?_getD, h]
theorem flat_le (l : List (List Int)) (i : Nat) : (l.take i).flatten.length ≤ l.flatten.length := by
 conv => rhs; rw [← List.take_append_drop i l, List.flatten_append, List.length_append]
 omega
theorem bytes_at {w : World} {A : Option Addr} {n : Nat} {xs : List (List Int)} (h : Kd.C (Kd.slice 5 (Kd.int .u8)) w A n xs) (i : Nat) (hi : i < n) :
  ∃ ad B d, A = some ad ∧ w.cell? (ad.add i) = some (.slice B (rd_L1 xs i).length d) ∧ (rd_L1 xs i).length ≤ d ∧ Kd.C (Kd.int .u8) w B (rd_L1 xs i).length (rd_L1 xs i) := by
 obtain ⟨ad, c, e, _, hK, hc0⟩ := Kd.C_get h ([] : List Int) (i : Int) (by omega) (by omega); obtain ⟨B, d, rfl, h1, h2⟩ := hK; refine ⟨ad, B, d, e, ?_, h1, h2⟩; have := hc0 0 _ rfl; simp only [Kd.slice, Nat.mul_one, Nat.add_zero, Int.toNat_natCast] at this; exact this
set_option maxHeartbeats 1000000 in
set_option maxRecDepth 100000 in
theorem slices_Concat_byte.calls (A0 : Option Addr) (c0 : Nat) (l0 : List (List Int)) (r : List Int) (w : World) (hr0 : Kd.C (Kd.slice 5 (Kd.int .u8)) w A0 l0.length l0) (hc0 : l0.length ≤ c0) (h : slices_Concat_byte.f l0 = some r) :
  Calls Try.prog 48 #[.slice A0 l0.length c0] w fun e w' => ∃ v0_ : Value, e = .returned (v0_) ∧ Kd.R (Kd.int .u8) 5 w' w.heap.size (fun _ => True) v0_ r ∧ Below w.heap.size w w' := by
 unfold slices_Concat_byte.f at h
 split at h
 case isFalse => cases h
 case isTrue hs =>
 obtain rfl := Option.some.inj h; obtain ⟨hl1, hl2⟩ := hs; have HR := A_ hr0; clear hr0 h
 go_enter Try.func48, Try.ntmps48
 go_wp2
 go_loopw [3, 11] (fun u v wr => ∃ i : Nat, i ≤ l0.length ∧ v = .int .i64 i ∧ u = .int .i64 ((l0.take i).flatten.length : Nat) ∧ w = wr) (fun _ v _ => l0.length - (intOf v).toNat)
 case atStart => exact ⟨0, Nat.zero_le _, rfl, rfl, rfl⟩
 case round =>
  obtain ⟨i, hi, rfl, rfl, rfl⟩ := hrel
  by_cases hlt : i < l0.length
  ·obtain ⟨ad, B, d, e, hx, hd, hk⟩ := bytes_at HR.out i hlt
   cases e
   have h1 := flat_take l0 i hlt; have h2 := flat_le l0 (i + 1); rw [h1, List.length_append] at h2; have h3 := congrArg List.length h1; rw [List.length_append] at h3; have H3 := A_ h3; clear h1 h3 hk; generalize (l0.take i).flatten.length = s at h2 H3; generalize (rd_L1 l0 (i : Int)).length = t at hx hd h2 H3; go_wp2
   go_roundw
   case rel => exact ⟨i + 1, by omega, by go_num, congrArg (Value.int .i64) (by have := H3.out; omega), by first | rfl | trivial⟩
   case measure => simp [intOf]; omega
  ·have hie : i = l0.length := by omega
   subst hie; rw [List.take_length]; have HL2 := A_ hl2; obtain ⟨S, hS⟩ : ∃ S, S = l0.flatten.length := ⟨_, rfl⟩; rw [← hS] at hl2 ⊢; clear hS
   go_wp2_with (go_at_call 70; with_reducible refine (grow_any S hl2 _).mono ?_; rintro e w1 ⟨v1, rfl, hr1, hb1⟩; have HR1 := A_ hr1; have HB1 := A_ hb1; clear hr1 hb1)
   go_loopw [6, 27] (fun u v wr => ∃ i : Nat, i ≤ l0.length ∧ v = .int .i64 i ∧ Aside0 (Below w.heap.size w wr) ∧ Aside0 (Kd.R (Kd.int .u8) 5 wr w.heap.size (fun _ => True) u (l0.take i).flatten)) (fun _ v _ => l0.length - (intOf v).toNat)
   case atStart => exact ⟨0, Nat.zero_le _, rfl, HB1, ⟨HR1.out⟩⟩
   case round =>
    obtain ⟨i, hi, rfl, HB, HO⟩ := hrel
    by_cases hlt2 : i < l0.length
    ·obtain ⟨ad, B, d, e, hx, hd, hk⟩ := bytes_at HR.out i hlt2
     cases e
     have h1 := flat_take l0 i hlt2; have h2 := flat_le l0 (i + 1); rw [h1, List.length_append] at h2; replace h2 := Nat.le_trans h2 HL2.out; have H1 := A_ h1; have H2 := A_ h2; have HK := A_ hk; replace hx := cell_below HB.out hx; clear h1 h2 hk; generalize (l0.take i).flatten = s at HO H1 H2; generalize rd_L1 l0 (i : Int) = t at hx hd HK H1 H2
     go_wp2_with ((with_reducible refine gate_builtin (b := .append) (xs := #[.tmp 31, .tmp 32]) rfl ?_); at_builtin; refine Kd.R_append_rows (Kd.int .u8) (w0 := w) w.heap.size rfl (.tmp 31) (.tmp 32) 53 5 (.int .u8 0) 1 rfl Try.underlying53 info5 rfl (by decide) (by decide) u6 s t B t.length d (fun _ => True) (fun _ => False) rfl rfl HO.out ?hc (fun _ _ h => h) (fun _ h => h.elim) (fun _ _ => trivial) HB.out HB.out.size ?hl ?_; (case hc => exact Kd.C_below HK.out HB.out); (case hl => have := H2.out; omega); intro v2 w2 ho2 hb2 hg2 hat2; clear hg2 hat2; have HO2 := A_ ho2; have HB2 := A_ hb2; clear ho2 hb2)
     go_roundw
     case rel => exact ⟨i + 1, by omega, by go_num, HB2, ⟨by rw [H1.out]; exact HO2.out⟩⟩
     case measure => simp [intOf]; omega
    ·have hie : i = l0.length := by omega
     subst hie; rw [List.take_length] at HO; go_wp2; go_ret; exact ⟨_, rfl, HO.out, HB.out⟩
end Go.Proofs.Ytcgpemefmakjiaa.PX
