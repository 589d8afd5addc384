/- Texts of this claim, merged: part 2. -/
import Derived.Test.YtcgpemefmakjiaaProg
import Derived.Below
import Derived.Deep.Draws
import Derived.Deep.AppendLies
import Derived.Maps.AppendAt
import Derived.OwnWalk
import Derived.Laws.BytesArg
import Derived.Laws.MakeOwn
import Derived.Laws.OwnMore
import Derived.Deep.OwnRows
import Derived.Tactics
import Derived.Lib.ConvBytes
import Derived.Laws.Slices
import Derived.WalkKit
import Derived.KernelRfl
import Derived.RowKit3
import Derived.Deep.LoopGhost
import Derived.Deep.QuietTactic
import Derived.BigQuiet
import Derived.WideLaws
import Derived.Deep.DeepCutAuto
import Derived.Deep.CutBlock
import Derived.Deep.RegionHeld3
import Derived.Laws.Rows
import Derived.Lib.AppendStr
import Derived.ArgAppend
import Derived.Laws.IdiomCopy
import Derived.OrdersHeld
import Derived.Laws.BitsLemmas
import Derived.RowKit
import Derived.Test.YtcgpemefmakjiaaApplies1
import Derived.OneCell
set_option linter.unusedVariables false
set_option linter.unusedSimpArgs false
namespace Go.Proofs.Ytcgpemefmakjiaa.PX
open Go.RowKit Go.Proofs.YtcgpemefmakjiaaW.PrintWords Go.Proofs.YtcgpemefmakjiaaW.PrintLast Go.Proofs.YtcgpemefmakjiaaW.PrintMore
abbrev I : Bool := true
abbrev O : Bool := false
theorem sA_ {α : Type} {i : Nat} {a : α} {l : List α} : l.toArray.setIfInBounds i a = (l.set i a).toArray := List.setIfInBounds_toArray ..
theorem sB_ {α : Type} {x a : α} {l : List α} : (x :: l).set 0 a = a :: l := rfl
theorem sC_ {α : Type} {x a : α} {l : List α} {n : Nat} : (x :: l).set (n + 1) a = x :: l.set n a := rfl
def B_ (n m : Nat) : Array Bool := ((List.range n).map fun i => m.testBit i).toArray
section
variable {P : Program} {ops : Array Oper} {Q : Exit → Act → World → Prop} {md : Region.Mode} {S : World → Prop} {ds : List Nat} {fuel : Nat} {l : Array Bool} {a a' : Act} {w : World} {oi : Oper} {v : Value}
theorem p_ (i : Nat) (N : Tmp) (l' : Array Bool) (h : wpAnyLast P md ops Q S ds fuel l' a' w) (hi : ops[i]? = some oi := by exact rfl) (hN : oi.dst = (some N) := by exact rfl) (hc : anyB md ops l l' i = true := by kernel_rfl)
    (hQ : ∀ c a w, Q (.panic c) (a.put oi.dst v) w → Q (.panic c) a w := by exact fun _ _ _ h => h) (hw : Region.wanted oi (yielded ops a.tmps) = true := by rfl)
    (hy : ∀ w, (execOp a.eval oi).run P w = .ok (.value v) w := by intro w'; go_simp; with_reducible rfl) (ha : a.put (some N) v = a' := by first | (simp only [Act.put, sA_, sB_, sC_, i64_w, i32_w]; rfl) | rfl) : wpAnyLast P md ops Q S ds (fuel + 1) l a w :=
  pure_ l' hi hN hc hQ (.inl ⟨hw, hy⟩) ha h
theorem pn_ (i : Nat)  (l' : Array Bool) (h : wpAnyLast P md ops Q S ds fuel l' a' w) (hi : ops[i]? = some oi := by exact rfl) (hN : oi.dst = none := by exact rfl) (hc : anyB md ops l l' i = true := by kernel_rfl)
    (hQ : ∀ c a w, Q (.panic c) (a.put oi.dst v) w → Q (.panic c) a w := by exact fun _ _ _ h => h) (hw : Region.wanted oi (yielded ops a.tmps) = true := by rfl)
    (hy : ∀ w, (execOp a.eval oi).run P w = .ok (.value v) w := by intro w'; go_simp; with_reducible rfl) (ha : a.put none v = a' := by first | (simp only [Act.put, sA_, sB_, sC_, i64_w, i32_w]; rfl) | rfl) : wpAnyLast P md ops Q S ds (fuel + 1) l a w :=
  pure_ l' hi hN hc hQ (.inl ⟨hw, hy⟩) ha h
theorem pT_ {T : Bool × List (List Nat × List Nat)} (i : Nat) (N : Tmp) (l' : Array Bool) (HT : Aside0 (rtab md ops = T)) (h : wpAnyLast P md ops Q S ds fuel l' a' w) (hi : ops[i]? = some oi := by exact rfl) (hN : oi.dst = (some N) := by exact rfl) (hc : anyT T l.toList l'.toList i = true := by kernel_rfl)
    (hQ : ∀ c a w, Q (.panic c) (a.put oi.dst v) w → Q (.panic c) a w := by exact fun _ _ _ h => h) (hw : Region.wanted oi (yielded ops a.tmps) = true := by rfl)
    (hy : ∀ w, (execOp a.eval oi).run P w = .ok (.value v) w := by intro w'; go_simp; with_reducible rfl) (ha : a.put (some N) v = a' := by first | (simp only [Act.put, sA_, sB_, sC_, i64_w, i32_w]; rfl) | rfl) : wpAnyLast P md ops Q S ds (fuel + 1) l a w :=
  pure_ l' hi hN (any_of HT.out hc) hQ (.inl ⟨hw, hy⟩) ha h
theorem pTn_ {T : Bool × List (List Nat × List Nat)} (i : Nat)  (l' : Array Bool) (HT : Aside0 (rtab md ops = T)) (h : wpAnyLast P md ops Q S ds fuel l' a' w) (hi : ops[i]? = some oi := by exact rfl) (hN : oi.dst = none := by exact rfl) (hc : anyT T l.toList l'.toList i = true := by kernel_rfl)
    (hQ : ∀ c a w, Q (.panic c) (a.put oi.dst v) w → Q (.panic c) a w := by exact fun _ _ _ h => h) (hw : Region.wanted oi (yielded ops a.tmps) = true := by rfl)
    (hy : ∀ w, (execOp a.eval oi).run P w = .ok (.value v) w := by intro w'; go_simp; with_reducible rfl) (ha : a.put none v = a' := by first | (simp only [Act.put, sA_, sB_, sC_, i64_w, i32_w]; rfl) | rfl) : wpAnyLast P md ops Q S ds (fuel + 1) l a w :=
  pure_ l' hi hN (any_of HT.out hc) hQ (.inl ⟨hw, hy⟩) ha h
theorem q_ (i : Nat) (N : Tmp) (l' : Array Bool) (h : wpAnyLast P md ops Q S ds fuel l' a' w) (hi : ops[i]? = some oi := by exact rfl) (hN : oi.dst = (some N) := by exact rfl) (hc : anyB md ops l l' i = true := by kernel_rfl)
    (hQ : ∀ c a w, Q (.panic c) (a.put oi.dst undef) w → Q (.panic c) a w := by exact fun _ _ _ h => h) (hw : Region.wanted oi (yielded ops a.tmps) = false := by rfl)
    (ha : a.put (some N) undef = a' := by first | (simp only [Act.put, sA_, sB_, sC_, i64_w, i32_w]; rfl) | rfl) : wpAnyLast P md ops Q S ds (fuel + 1) l a w :=
  pure_ l' hi hN hc hQ (.inr ⟨hw, rfl⟩) ha h
theorem qn_ (i : Nat)  (l' : Array Bool) (h : wpAnyLast P md ops Q S ds fuel l' a' w) (hi : ops[i]? = some oi := by exact rfl) (hN : oi.dst = none := by exact rfl) (hc : anyB md ops l l' i = true := by kernel_rfl)
    (hQ : ∀ c a w, Q (.panic c) (a.put oi.dst undef) w → Q (.panic c) a w := by exact fun _ _ _ h => h) (hw : Region.wanted oi (yielded ops a.tmps) = false := by rfl)
    (ha : a.put none undef = a' := by first | (simp only [Act.put, sA_, sB_, sC_, i64_w, i32_w]; rfl) | rfl) : wpAnyLast P md ops Q S ds (fuel + 1) l a w :=
  pure_ l' hi hN hc hQ (.inr ⟨hw, rfl⟩) ha h
theorem qT_ {T : Bool × List (List Nat × List Nat)} (i : Nat) (N : Tmp) (l' : Array Bool) (HT : Aside0 (rtab md ops = T)) (h : wpAnyLast P md ops Q S ds fuel l' a' w) (hi : ops[i]? = some oi := by exact rfl) (hN : oi.dst = (some N) := by exact rfl) (hc : anyT T l.toList l'.toList i = true := by kernel_rfl)
    (hQ : ∀ c a w, Q (.panic c) (a.put oi.dst undef) w → Q (.panic c) a w := by exact fun _ _ _ h => h) (hw : Region.wanted oi (yielded ops a.tmps) = false := by rfl)
    (ha : a.put (some N) undef = a' := by first | (simp only [Act.put, sA_, sB_, sC_, i64_w, i32_w]; rfl) | rfl) : wpAnyLast P md ops Q S ds (fuel + 1) l a w :=
  pure_ l' hi hN (any_of HT.out hc) hQ (.inr ⟨hw, rfl⟩) ha h
theorem qTn_ {T : Bool × List (List Nat × List Nat)} (i : Nat)  (l' : Array Bool) (HT : Aside0 (rtab md ops = T)) (h : wpAnyLast P md ops Q S ds fuel l' a' w) (hi : ops[i]? = some oi := by exact rfl) (hN : oi.dst = none := by exact rfl) (hc : anyT T l.toList l'.toList i = true := by kernel_rfl)
    (hQ : ∀ c a w, Q (.panic c) (a.put oi.dst undef) w → Q (.panic c) a w := by exact fun _ _ _ h => h) (hw : Region.wanted oi (yielded ops a.tmps) = false := by rfl)
    (ha : a.put none undef = a' := by first | (simp only [Act.put, sA_, sB_, sC_, i64_w, i32_w]; rfl) | rfl) : wpAnyLast P md ops Q S ds (fuel + 1) l a w :=
  pure_ l' hi hN (any_of HT.out hc) hQ (.inr ⟨hw, rfl⟩) ha h
theorem t_ (i : Nat) (N : Tmp) (l' : Array Bool) (hS : S w) (h : wpAnyLast P md ops Q S ds fuel l' a' w) (hi : ops[i]? = some oi := by exact rfl) (hN : oi.dst = (some N) := by exact rfl) (hc : takeB md ops ds l l' i = true := by kernel_rfl)
    (hQ : ∀ c a w, Q (.panic c) (a.put oi.dst v) w → Q (.panic c) a w := by exact fun _ _ _ h => h) (hw : Region.wanted oi (yielded ops a.tmps) = true := by rfl)
    (hy : ∀ w, S w → (execOp a.eval oi).run P w = .ok (.value v) w := by intro w' s_; (repeat (have q_ := And.left s_; replace s_ := And.right s_)); go_simp; with_reducible rfl)
    (ha : a.put (some N) v = a' := by first | (simp only [Act.put, sA_, sB_, sC_, i64_w, i32_w]; rfl) | rfl) : wpAnyLast P md ops Q S ds (fuel + 1) l a w :=
  take_ l' hi hN hc hQ (.inl ⟨hw, hy⟩) hS ha h
theorem tn_ (i : Nat)  (l' : Array Bool) (hS : S w) (h : wpAnyLast P md ops Q S ds fuel l' a' w) (hi : ops[i]? = some oi := by exact rfl) (hN : oi.dst = none := by exact rfl) (hc : takeB md ops ds l l' i = true := by kernel_rfl)
    (hQ : ∀ c a w, Q (.panic c) (a.put oi.dst v) w → Q (.panic c) a w := by exact fun _ _ _ h => h) (hw : Region.wanted oi (yielded ops a.tmps) = true := by rfl)
    (hy : ∀ w, S w → (execOp a.eval oi).run P w = .ok (.value v) w := by intro w' s_; (repeat (have q_ := And.left s_; replace s_ := And.right s_)); go_simp; with_reducible rfl)
    (ha : a.put none v = a' := by first | (simp only [Act.put, sA_, sB_, sC_, i64_w, i32_w]; rfl) | rfl) : wpAnyLast P md ops Q S ds (fuel + 1) l a w :=
  take_ l' hi hN hc hQ (.inl ⟨hw, hy⟩) hS ha h
theorem tT_ {T : Bool × List (List Nat × List Nat)} (i : Nat) (N : Tmp) (l' : Array Bool) {B : List Nat} (HT : Aside0 (rtab md ops = T)) (HB : Aside0 (waitsOk T.2 B = true)) (hS : S w) (h : wpAnyLast P md ops Q S ds fuel l' a' w) (hi : ops[i]? = some oi := by exact rfl) (hN : oi.dst = (some N) := by exact rfl) (hc : takeW T B ds l.toList l'.toList i = true := by kernel_rfl)
    (hQ : ∀ c a w, Q (.panic c) (a.put oi.dst v) w → Q (.panic c) a w := by exact fun _ _ _ h => h) (hw : Region.wanted oi (yielded ops a.tmps) = true := by rfl)
    (hy : ∀ w, S w → (execOp a.eval oi).run P w = .ok (.value v) w := by intro w' s_; (repeat (have q_ := And.left s_; replace s_ := And.right s_)); go_simp; with_reducible rfl)
    (ha : a.put (some N) v = a' := by first | (simp only [Act.put, sA_, sB_, sC_, i64_w, i32_w]; rfl) | rfl) : wpAnyLast P md ops Q S ds (fuel + 1) l a w :=
  take_ l' hi hN (take_ofW HT.out HB.out hc) hQ (.inl ⟨hw, hy⟩) hS ha h
theorem tTn_ {T : Bool × List (List Nat × List Nat)} (i : Nat)  (l' : Array Bool) {B : List Nat} (HT : Aside0 (rtab md ops = T)) (HB : Aside0 (waitsOk T.2 B = true)) (hS : S w) (h : wpAnyLast P md ops Q S ds fuel l' a' w) (hi : ops[i]? = some oi := by exact rfl) (hN : oi.dst = none := by exact rfl) (hc : takeW T B ds l.toList l'.toList i = true := by kernel_rfl)
    (hQ : ∀ c a w, Q (.panic c) (a.put oi.dst v) w → Q (.panic c) a w := by exact fun _ _ _ h => h) (hw : Region.wanted oi (yielded ops a.tmps) = true := by rfl)
    (hy : ∀ w, S w → (execOp a.eval oi).run P w = .ok (.value v) w := by intro w' s_; (repeat (have q_ := And.left s_; replace s_ := And.right s_)); go_simp; with_reducible rfl)
    (ha : a.put none v = a' := by first | (simp only [Act.put, sA_, sB_, sC_, i64_w, i32_w]; rfl) | rfl) : wpAnyLast P md ops Q S ds (fuel + 1) l a w :=
  take_ l' hi hN (take_ofW HT.out HB.out hc) hQ (.inl ⟨hw, hy⟩) hS ha h
end
section
variable {p q : Prop}
theorem nx_ (h : Aside0 p) (f : p → q := by intro h_; (with_reducible repeat (first | apply Kd.N_alloc | apply Kd.N_drewN | apply Kd.N_drew)); exact h_) : q := f h.out
theorem vx_ (h : Aside0 p) (f : p → q := by intro h_; (with_reducible repeat (first | apply Kd.V_alloc | apply Kd.V_drewN | apply Kd.V_drew)); exact h_) : q := f h.out
theorem rx_ (h : Aside0 p) (f : p → q := by intro h_; (with_reducible repeat (first | apply Kd.R_alloc | apply Kd.R_drewN | apply Kd.R_drew)); exact h_) : q := f h.out
theorem cx_ (h : Aside0 p) (f : p → q := by intro h_; repeat (first | (with_reducible exact h_) | (with_reducible refine Kd.C_alloc ?_ _) | (with_reducible refine Kd.C_drewN ?_ _) | (with_reducible refine Kd.C_drew ?_) | exact h_)) : q := f h.out
theorem bx_ (h : Aside0 p) (f : p → q := by intro h_; repeat (first | (with_reducible first | exact h_ | apply below_alloc | apply pw_below_drewN | apply below_drew1) | exact h_)) : q := f h.out
theorem ba_ (h : p) (f : p → q := by intro h_; first | exact Kd.N_base h_ | exact Kd.R_base h_) : q := f h
end
theorem A_ {p : Prop} (h : p) : Aside0 p := Aside0.mk h
theorem od_ {c : Prop} [Decidable c] (h : decide c = true := by first | (with_reducible assumption) | assumption) : c := of_decide_eq_true h
theorem hc_ {w wr : World} {n : Nat} {a : Addr} {v : Value} (h : Aside0 (Below n w wr)) (hx : w.cell? a = some v) (hn : w.heap.size ≤ n := by exact Nat.le_refl _) : wr.cell? a = some v := (h.out.cell (Nat.lt_of_lt_of_le (World.block_lt_of_cell? w _ hx) hn)).trans hx
theorem hd_ {w wr : World} {n : Nat} {a : Addr} {v : Value} (h : Below n w wr) (hx : w.cell? a = some v) (hn : w.heap.size ≤ n := by exact Nat.le_refl _) : wr.cell? a = some v := (h.cell (Nat.lt_of_lt_of_le (World.block_lt_of_cell? w _ hx) hn)).trans hx
theorem kx_ {p q : Prop} (h : Aside0 p) (f : p → q := by intro h_; (with_reducible repeat (first | refine blk_drewN ?_ _ | refine blk_drew ?_ | refine blk_alloc ?_ _)); exact h_) : q := f h.out
theorem ew_ {p : Prop} (h : p := by first | rfl | (simp [errW_none, errW_some] <;> rfl) | (simp [*, errW_none, errW_some] <;> rfl)) : p := h
theorem rf_ {p : Prop} (h : p := by first | rfl | (simp; done) | (simp [*]; done)) : p := h
theorem lm_ {p : Prop} (h : p := by (try simp only [List.map_toArray, List.map_cons, List.map_nil]); first | done | rfl | (simp only [List.length_drop, List.length_take]; rfl)) : p := h
theorem k6_ {w : World} {g t : Nat} {a b c d e f : Value} (h : Aside0 (w.heap[g]? = some (.cells #[a, b, c, d, e, f] t (0, 0)))) : w.cell? ⟨g, 0, none⟩ = some a ∧ w.cell? ⟨g, 1, none⟩ = some b ∧ w.cell? ⟨g, 2, none⟩ = some c ∧ w.cell? ⟨g, 3, none⟩ = some d ∧ w.cell? ⟨g, 4, none⟩ = some e ∧ w.cell? ⟨g, 5, none⟩ = some f :=
  ⟨(blk_cell h.out 0).trans rfl, (blk_cell h.out 1).trans rfl, (blk_cell h.out 2).trans rfl, (blk_cell h.out 3).trans rfl, (blk_cell h.out 4).trans rfl, (blk_cell h.out 5).trans rfl⟩
theorem f6_ {w : World} {g t : Nat} {a b c d e f : Value} (h : Aside0 (w.heap[g]? = some (.cells #[a, b, c, d, e, f] t (0, 0)))) : w.frozen? ⟨g, 0, none⟩ = false ∧ w.frozen? ⟨g, 1, none⟩ = false ∧ w.frozen? ⟨g, 2, none⟩ = false ∧ w.frozen? ⟨g, 3, none⟩ = false ∧ w.frozen? ⟨g, 4, none⟩ = false ∧ w.frozen? ⟨g, 5, none⟩ = false :=
  ⟨blk_frozen h.out 0, blk_frozen h.out 1, blk_frozen h.out 2, blk_frozen h.out 3, blk_frozen h.out 4, blk_frozen h.out 5⟩
theorem dr_ {w : World} {a : Addr} {v : Value} (h : w.cell? a = some v) : w.drew.cell? a = some v := h
theorem rh_ {α : Type} {a b : α} {p q : Prop} (hy : a = b) (H : p) (f : a = b → p → q := by intro hy_ h_; first | (rw [hy_]; with_reducible exact h_) | (have H2_ := (Option.bind_some _ _).symm.trans h_; rw [hy_]; with_reducible exact H2_) | (have H2_ := (Option.bind_some _ _).symm.trans h_; with_reducible exact H2_) | with_reducible exact h_ | (rw [hy_]; exact h_) | exact h_) : q := f hy H
theorem be_ {a b : Int} (h : a = b) : (a == b) = true ∧ (a != b) = false := ⟨beq_iff_eq.mpr h, bne_eq_false_iff_eq.mpr h⟩
theorem bn_ {a b : Int} (h : ¬ a = b) : (a == b) = false ∧ (a != b) = true := ⟨beq_eq_false_iff_ne.mpr h, bne_iff_ne.mpr h⟩
end Go.Proofs.Ytcgpemefmakjiaa.PX
namespace Go.Proofs.Ytcgpemefmakjiaa.PX
open Go.RowKit Go.Proofs.YtcgpemefmakjiaaW.PrintWords Go.Proofs.YtcgpemefmakjiaaW.PrintLast Go.Proofs.YtcgpemefmakjiaaW.PrintMore
attribute [local go_sem] max2_int min2_int max_two min_two max_three min_three max_four min_four   -- for this text's walks alone
theorem info3 : (Try.prog.info? 3).map (fun i => (i.zero, i.size, i.bytes)) = some (some (.int .i64 0), 1, 8) := by kernel_rfl
theorem info5 : (Try.prog.info? 5).map (fun i => (i.zero, i.size, i.bytes)) = some (some (.int .u8 0), 1, 1) := by kernel_rfl
theorem info22 : (Try.prog.info? 22).map (fun i => (i.zero, i.size, i.bytes)) = some (some (.slice none 0 0), 1, 24) := by kernel_rfl
theorem info61 : (Try.prog.info? 61).map (fun i => (i.zero, i.size, i.bytes)) = some (some (.agg #[(.int .i64 0), (.int .i64 0), (.int .i64 0), (.int .i64 0), (.int .i64 0), (.slice none 0 0)]), 6, 64) := by kernel_rfl
theorem info64 : (Try.prog.info? 64).map (fun i => (i.zero, i.size, i.bytes)) = some (some (.slice none 0 0), 1, 24) := by kernel_rfl
theorem info76 : (Try.prog.info? 76).map (fun i => (i.zero, i.size, i.bytes)) = some (some (.agg #[(.int .i64 0), (.int .i64 0), (.int .i64 0), (.int .i64 0), (.int .i64 0), (.slice none 0 0)]), 6, 64) := by kernel_rfl
def rd_L1 (xs : List (List Int)) (i : Int) : (List Int) := xs.getD i.toNat ([] : List Int)
theorem at_L1 {w : World} {A : Option Addr} {n : Nat} {xs : List (List Int)} (h : Kd.C (Kd.slice 3 (Kd.int .i64)) w A n xs) (i : Int) (h0 : 0 ≤ i) (h1 : i < n) : ∃ ad A0 c0, A = some ad ∧ w.cell? (ad.add i.toNat) = some (.slice A0 (rd_L1 xs i).length c0) ∧ (rd_L1 xs i).length ≤ c0 ∧ (Kd.int .i64).C w A0 (rd_L1 xs i).length (rd_L1 xs i) := by
 obtain ⟨ad, c, e, _, hK, hc0⟩ := Kd.C_get h ([] : List Int) i h0 h1; have hc : ∀ j u, c[j]? = some u → w.cell? (ad.add (i.toNat * 1 + j)) = some u := hc0; obtain ⟨A0, c0, rfl, l0, g0⟩ := hK; exact ⟨ad, A0, c0, e, by have hq := hc 0 _ rfl; rwa [Nat.mul_one, Nat.add_zero] at hq, l0, g0⟩
def rd_L2 (xs : List (List (List Int))) (i : Int) : (List (List Int)) := xs.getD i.toNat ([] : List (List Int))
theorem at_L2 {w : World} {A : Option Addr} {n : Nat} {xs : List (List (List Int))} (h : Kd.C (Kd.slice 22 (Kd.slice 3 (Kd.int .i64))) w A n xs) (i : Int) (h0 : 0 ≤ i) (h1 : i < n) : ∃ ad A0 c0, A = some ad ∧ w.cell? (ad.add i.toNat) = some (.slice A0 (rd_L2 xs i).length c0) ∧ (rd_L2 xs i).length ≤ c0 ∧ (Kd.slice 3 (Kd.int .i64)).C w A0 (rd_L2 xs i).length (rd_L2 xs i) := by
 obtain ⟨ad, c, e, _, hK, hc0⟩ := Kd.C_get h ([] : List (List Int)) i h0 h1; have hc : ∀ j u, c[j]? = some u → w.cell? (ad.add (i.toNat * 1 + j)) = some u := hc0; obtain ⟨A0, c0, rfl, l0, g0⟩ := hK; exact ⟨ad, A0, c0, e, by have hq := hc 0 _ rfl; rwa [Nat.mul_one, Nat.add_zero] at hq, l0, g0⟩
def rd_L3 (xs : List (List (List (List Int)))) (i : Int) : (List (List (List Int))) := xs.getD i.toNat ([] : List (List (List Int)))
theorem at_L3 {w : World} {A : Option Addr} {n : Nat} {xs : List (List (List (List Int)))} (h : Kd.C (Kd.slice 64 (Kd.slice 22 (Kd.slice 3 (Kd.int .i64)))) w A n xs) (i : Int) (h0 : 0 ≤ i) (h1 : i < n) : ∃ ad A0 c0, A = some ad ∧ w.cell? (ad.add i.toNat) = some (.slice A0 (rd_L3 xs i).length c0) ∧ (rd_L3 xs i).length ≤ c0 ∧ (Kd.slice 22 (Kd.slice 3 (Kd.int .i64))).C w A0 (rd_L3 xs i).length (rd_L3 xs i) := by
 obtain ⟨ad, c, e, _, hK, hc0⟩ := Kd.C_get h ([] : List (List (List Int))) i h0 h1; have hc : ∀ j u, c[j]? = some u → w.cell? (ad.add (i.toNat * 1 + j)) = some u := hc0; obtain ⟨A0, c0, rfl, l0, g0⟩ := hK; exact ⟨ad, A0, c0, e, by have hq := hc 0 _ rfl; rwa [Nat.mul_one, Nat.add_zero] at hq, l0, g0⟩
structure S61 where
 f0 : Int
 f1 : Int
 f2 : Int
 f3 : Int
 f4 : Int
 f5 : (List Int)
def z61 : S61 := ⟨(0 : Int), (0 : Int), (0 : Int), (0 : Int), (0 : Int), ([] : List Int)⟩
def k61 : Kd S61 := Kd.iso (Kd.pair (Kd.int .i64) (Kd.pair (Kd.int .i64) (Kd.pair (Kd.int .i64) (Kd.pair (Kd.int .i64) (Kd.pair (Kd.int .i64) (Kd.slice 3 (Kd.int .i64))))))) (fun x : S61 => (x.f0, x.f1, x.f2, x.f3, x.f4, x.f5))
theorem k61_open {w : World} {x : S61} {cs : List Value} (h : k61.K w x cs) : ∃ A5 c5, cs = [.int .i64 x.f0, .int .i64 x.f1, .int .i64 x.f2, .int .i64 x.f3, .int .i64 x.f4, .slice A5 x.f5.length c5] ∧ x.f5.length ≤ c5 ∧ (Kd.int .i64).C w A5 x.f5.length x.f5 := by
 obtain ⟨_, _, rfl, rfl, ⟨_, _, rfl, rfl, ⟨_, _, rfl, rfl, ⟨_, _, rfl, rfl, ⟨_, _, rfl, rfl, ⟨A5, c5, rfl, l5, g5⟩⟩⟩⟩⟩⟩ := h; exact ⟨A5, c5, rfl, l5, g5⟩
theorem k61_mk (w : World) (x : S61) {A5 : Option Addr} {c5 : Nat} (l5 : x.f5.length ≤ c5) (g5 : (Kd.int .i64).C w A5 x.f5.length x.f5) : k61.K w x [.int .i64 x.f0, .int .i64 x.f1, .int .i64 x.f2, .int .i64 x.f3, .int .i64 x.f4, .slice A5 x.f5.length c5] := ⟨[.int .i64 x.f0], [.int .i64 x.f1, .int .i64 x.f2, .int .i64 x.f3, .int .i64 x.f4, .slice A5 x.f5.length c5], rfl, rfl, ⟨[.int .i64 x.f1], [.int .i64 x.f2, .int .i64 x.f3, .int .i64 x.f4, .slice A5 x.f5.length c5], rfl, rfl, ⟨[.int .i64 x.f2], [.int .i64 x.f3, .int .i64 x.f4, .slice A5 x.f5.length c5], rfl, rfl, ⟨[.int .i64 x.f3], [.int .i64 x.f4, .slice A5 x.f5.length c5], rfl, rfl, ⟨[.int .i64 x.f4], [.slice A5 x.f5.length c5], rfl, rfl, ⟨A5, c5, rfl, l5, g5⟩⟩⟩⟩⟩⟩
theorem k61_mkM (w : World) (base : Nat) (ok : Nat → Prop) (x : S61) {v5 : Value} (g5 : (Kd.int .i64).R 3 w base ok v5 x.f5) : k61.M w base ok x [.int .i64 x.f0, .int .i64 x.f1, .int .i64 x.f2, .int .i64 x.f3, .int .i64 x.f4, v5] := ⟨[.int .i64 x.f0], [.int .i64 x.f1, .int .i64 x.f2, .int .i64 x.f3, .int .i64 x.f4, v5], rfl, rfl, ⟨[.int .i64 x.f1], [.int .i64 x.f2, .int .i64 x.f3, .int .i64 x.f4, v5], rfl, rfl, ⟨[.int .i64 x.f2], [.int .i64 x.f3, .int .i64 x.f4, v5], rfl, rfl, ⟨[.int .i64 x.f3], [.int .i64 x.f4, v5], rfl, rfl, ⟨[.int .i64 x.f4], [v5], rfl, rfl, ⟨v5, rfl, g5⟩⟩⟩⟩⟩⟩
theorem k61_openF {W : World} {ok : Nat → Prop} {x : S61} {cs : List Value} (h : Kd.FK k61 W ok x cs) : ∃ A5 c5, cs = [.int .i64 x.f0, .int .i64 x.f1, .int .i64 x.f2, .int .i64 x.f3, .int .i64 x.f4, .slice A5 x.f5.length c5] ∧ x.f5.length ≤ c5 ∧ Kd.F (Kd.int .i64) W ok A5 x.f5.length x.f5 := by
 obtain ⟨A5, c5, rfl, l5, _⟩ := k61_open (Kd.FK_now h); exact ⟨A5, c5, rfl, l5, (fun W' hW => by obtain ⟨A5_, c5_, he, l5_, g5_⟩ := k61_open (h W' hW); injection (Option.some.inj (show some (Value.slice A5 x.f5.length c5) = some (Value.slice A5_ x.f5.length c5_) from congrArg (fun l => l[5]?) he)) with ha_ _ _; rw [ha_]; exact g5_)⟩
theorem k61_mkF (W : World) (ok : Nat → Prop) (x : S61) {A5 : Option Addr} {c5 : Nat} (l5 : x.f5.length ≤ c5) (g5 : Kd.F (Kd.int .i64) W ok A5 x.f5.length x.f5) : Kd.FK k61 W ok x [.int .i64 x.f0, .int .i64 x.f1, .int .i64 x.f2, .int .i64 x.f3, .int .i64 x.f4, .slice A5 x.f5.length c5] := fun W2 hW => k61_mk W2 x l5 (g5 W2 hW)
def rd_T61 (xs : List S61) (i : Int) : S61 := xs.getD i.toNat z61
theorem at_T61 {w : World} {A : Option Addr} {n : Nat} {xs : List S61} (h : Kd.C k61 w A n xs) (i : Int) (h0 : 0 ≤ i) (h1 : i < n) : ∃ ad A5 c5, A = some ad ∧ w.cell? (ad.add (i.toNat * 6)) = some (.int .i64 (rd_T61 xs i).f0) ∧ w.cell? ⟨(ad.add (i.toNat * 6)).block, (ad.add (i.toNat * 6)).off + 1, none⟩ = some (.int .i64 (rd_T61 xs i).f1) ∧ w.cell? ⟨(ad.add (i.toNat * 6)).block, (ad.add (i.toNat * 6)).off + 2, none⟩ = some (.int .i64 (rd_T61 xs i).f2) ∧ w.cell? ⟨(ad.add (i.toNat * 6)).block, (ad.add (i.toNat * 6)).off + 3, none⟩ = some (.int .i64 (rd_T61 xs i).f3) ∧ w.cell? ⟨(ad.add (i.toNat * 6)).block, (ad.add (i.toNat * 6)).off + 4, none⟩ = some (.int .i64 (rd_T61 xs i).f4) ∧ w.cell? ⟨(ad.add (i.toNat * 6)).block, (ad.add (i.toNat * 6)).off + 5, none⟩ = some (.slice A5 (rd_T61 xs i).f5.length c5) ∧ (rd_T61 xs i).f5.length ≤ c5 ∧ (Kd.int .i64).C w A5 (rd_T61 xs i).f5.length (rd_T61 xs i).f5 := by
 obtain ⟨ad, c, e, _, hK, hc0⟩ := Kd.C_get h z61 i h0 h1; have hc : ∀ j u, c[j]? = some u → w.cell? (ad.add (i.toNat * 6 + j)) = some u := hc0; obtain ⟨A5, c5, rfl, l5, g5⟩ := k61_open hK; exact ⟨ad, A5, c5, e, hc 0 _ rfl, by rw [← add_field _ _ 1 (by omega)]; exact hc 1 _ rfl, by rw [← add_field _ _ 2 (by omega)]; exact hc 2 _ rfl, by rw [← add_field _ _ 3 (by omega)]; exact hc 3 _ rfl, by rw [← add_field _ _ 4 (by omega)]; exact hc 4 _ rfl, by rw [← add_field _ _ 5 (by omega)]; exact hc 5 _ rfl, l5, g5⟩
structure S76 where
 f0 : Int
 f1 : Int
 f2 : Int
 f3 : Int
 f4 : Int
 f5 : (List Int)
def z76 : S76 := ⟨(0 : Int), (0 : Int), (0 : Int), (0 : Int), (0 : Int), ([] : List Int)⟩
def k76 : Kd S76 := Kd.iso (Kd.pair (Kd.int .i64) (Kd.pair (Kd.int .i64) (Kd.pair (Kd.int .i64) (Kd.pair (Kd.int .i64) (Kd.pair (Kd.int .i64) (Kd.slice 3 (Kd.int .i64))))))) (fun x : S76 => (x.f0, x.f1, x.f2, x.f3, x.f4, x.f5))
theorem k76_open {w : World} {x : S76} {cs : List Value} (h : k76.K w x cs) : ∃ A5 c5, cs = [.int .i64 x.f0, .int .i64 x.f1, .int .i64 x.f2, .int .i64 x.f3, .int .i64 x.f4, .slice A5 x.f5.length c5] ∧ x.f5.length ≤ c5 ∧ (Kd.int .i64).C w A5 x.f5.length x.f5 := by
 obtain ⟨_, _, rfl, rfl, ⟨_, _, rfl, rfl, ⟨_, _, rfl, rfl, ⟨_, _, rfl, rfl, ⟨_, _, rfl, rfl, ⟨A5, c5, rfl, l5, g5⟩⟩⟩⟩⟩⟩ := h; exact ⟨A5, c5, rfl, l5, g5⟩
theorem k76_mk (w : World) (x : S76) {A5 : Option Addr} {c5 : Nat} (l5 : x.f5.length ≤ c5) (g5 : (Kd.int .i64).C w A5 x.f5.length x.f5) : k76.K w x [.int .i64 x.f0, .int .i64 x.f1, .int .i64 x.f2, .int .i64 x.f3, .int .i64 x.f4, .slice A5 x.f5.length c5] := ⟨[.int .i64 x.f0], [.int .i64 x.f1, .int .i64 x.f2, .int .i64 x.f3, .int .i64 x.f4, .slice A5 x.f5.length c5], rfl, rfl, ⟨[.int .i64 x.f1], [.int .i64 x.f2, .int .i64 x.f3, .int .i64 x.f4, .slice A5 x.f5.length c5], rfl, rfl, ⟨[.int .i64 x.f2], [.int .i64 x.f3, .int .i64 x.f4, .slice A5 x.f5.length c5], rfl, rfl, ⟨[.int .i64 x.f3], [.int .i64 x.f4, .slice A5 x.f5.length c5], rfl, rfl, ⟨[.int .i64 x.f4], [.slice A5 x.f5.length c5], rfl, rfl, ⟨A5, c5, rfl, l5, g5⟩⟩⟩⟩⟩⟩
theorem k76_openF {W : World} {ok : Nat → Prop} {x : S76} {cs : List Value} (h : Kd.FK k76 W ok x cs) : ∃ A5 c5, cs = [.int .i64 x.f0, .int .i64 x.f1, .int .i64 x.f2, .int .i64 x.f3, .int .i64 x.f4, .slice A5 x.f5.length c5] ∧ x.f5.length ≤ c5 ∧ Kd.F (Kd.int .i64) W ok A5 x.f5.length x.f5 := by
 obtain ⟨A5, c5, rfl, l5, _⟩ := k76_open (Kd.FK_now h); exact ⟨A5, c5, rfl, l5, (fun W' hW => by obtain ⟨A5_, c5_, he, l5_, g5_⟩ := k76_open (h W' hW); injection (Option.some.inj (show some (Value.slice A5 x.f5.length c5) = some (Value.slice A5_ x.f5.length c5_) from congrArg (fun l => l[5]?) he)) with ha_ _ _; rw [ha_]; exact g5_)⟩
theorem k76_mkF (W : World) (ok : Nat → Prop) (x : S76) {A5 : Option Addr} {c5 : Nat} (l5 : x.f5.length ≤ c5) (g5 : Kd.F (Kd.int .i64) W ok A5 x.f5.length x.f5) : Kd.FK k76 W ok x [.int .i64 x.f0, .int .i64 x.f1, .int .i64 x.f2, .int .i64 x.f3, .int .i64 x.f4, .slice A5 x.f5.length c5] := fun W2 hW => k76_mk W2 x l5 (g5 W2 hW)
def rd_T76 (xs : List S76) (i : Int) : S76 := xs.getD i.toNat z76
theorem at_T76 {w : World} {A : Option Addr} {n : Nat} {xs : List S76} (h : Kd.C k76 w A n xs) (i : Int) (h0 : 0 ≤ i) (h1 : i < n) : ∃ ad A5 c5, A = some ad ∧ w.cell? (ad.add (i.toNat * 6)) = some (.int .i64 (rd_T76 xs i).f0) ∧ w.cell? ⟨(ad.add (i.toNat * 6)).block, (ad.add (i.toNat * 6)).off + 1, none⟩ = some (.int .i64 (rd_T76 xs i).f1) ∧ w.cell? ⟨(ad.add (i.toNat * 6)).block, (ad.add (i.toNat * 6)).off + 2, none⟩ = some (.int .i64 (rd_T76 xs i).f2) ∧ w.cell? ⟨(ad.add (i.toNat * 6)).block, (ad.add (i.toNat * 6)).off + 3, none⟩ = some (.int .i64 (rd_T76 xs i).f3) ∧ w.cell? ⟨(ad.add (i.toNat * 6)).block, (ad.add (i.toNat * 6)).off + 4, none⟩ = some (.int .i64 (rd_T76 xs i).f4) ∧ w.cell? ⟨(ad.add (i.toNat * 6)).block, (ad.add (i.toNat * 6)).off + 5, none⟩ = some (.slice A5 (rd_T76 xs i).f5.length c5) ∧ (rd_T76 xs i).f5.length ≤ c5 ∧ (Kd.int .i64).C w A5 (rd_T76 xs i).f5.length (rd_T76 xs i).f5 := by
 obtain ⟨ad, c, e, _, hK, hc0⟩ := Kd.C_get h z76 i h0 h1; have hc : ∀ j u, c[j]? = some u → w.cell? (ad.add (i.toNat * 6 + j)) = some u := hc0; obtain ⟨A5, c5, rfl, l5, g5⟩ := k76_open hK; exact ⟨ad, A5, c5, e, hc 0 _ rfl, by rw [← add_field _ _ 1 (by omega)]; exact hc 1 _ rfl, by rw [← add_field _ _ 2 (by omega)]; exact hc 2 _ rfl, by rw [← add_field _ _ 3 (by omega)]; exact hc 3 _ rfl, by rw [← add_field _ _ 4 (by omega)]; exact hc 4 _ rfl, by rw [← add_field _ _ 5 (by omega)]; exact hc 5 _ rfl, l5, g5⟩
def rd_L7 (xs : List (List S76)) (i : Int) : (List S76) := xs.getD i.toNat ([] : List S76)
theorem at_L7 {w : World} {A : Option Addr} {n : Nat} {xs : List (List S76)} (h : Kd.C (Kd.slice 76 k76) w A n xs) (i : Int) (h0 : 0 ≤ i) (h1 : i < n) : ∃ ad A0 c0, A = some ad ∧ w.cell? (ad.add i.toNat) = some (.slice A0 (rd_L7 xs i).length c0) ∧ (rd_L7 xs i).length ≤ c0 ∧ k76.C w A0 (rd_L7 xs i).length (rd_L7 xs i) := by
 obtain ⟨ad, c, e, _, hK, hc0⟩ := Kd.C_get h ([] : List S76) i h0 h1; have hc : ∀ j u, c[j]? = some u → w.cell? (ad.add (i.toNat * 1 + j)) = some u := hc0; obtain ⟨A0, c0, rfl, l0, g0⟩ := hK; exact ⟨ad, A0, c0, e, by have hq := hc 0 _ rfl; rwa [Nat.mul_one, Nat.add_zero] at hq, l0, g0⟩
end Go.Proofs.Ytcgpemefmakjiaa.PX
namespace Go.Proofs.Ytcgpemefmakjiaa.PX
open Go.RowKit Go.Proofs.YtcgpemefmakjiaaW.PrintWords Go.Proofs.YtcgpemefmakjiaaW.PrintLast Go.Proofs.YtcgpemefmakjiaaW.PrintMore
attribute [local go_sem] max2_int min2_int max_two min_two max_three min_three max_four min_four   -- for this text's walks alone
def dioramaref01_Around.f (a0 : Int) (a1 : Int) : Option (Int) := if a0 < 0 then (if a1 < 1 then (some 0) else (if a1 = 0 then (none) else (some (Int.tmod (wrap64 (-(wrap64 (a0 + 1)))) a1)))) else (if a1 < 1 then (some 0) else (if a1 = 0 then (none) else (some (Int.tmod a0 a1))))
set_option maxHeartbeats 8000000 in
set_option maxRecDepth 100000 in
theorem dioramaref01_Around.calls (a0 : Int) (a1 : Int) (r : Int) (w : World) (h : dioramaref01_Around.f a0 a1 = some r) :
  Calls Try.prog 36 #[.int .i64 a0, .int .i64 a1] w fun e w' => e = .returned (.int .i64 r) ∧ Drawn0 w w' := by
 have H : (if a0 < 0 then (if a1 < 1 then (some 0) else (if a1 = 0 then (none) else (some (Int.tmod (wrap64 (-(wrap64 (a0 + 1)))) a1)))) else (if a1 < 1 then (some 0) else (if a1 = 0 then (none) else (some (Int.tmod a0 a1))))) = some r := h; clear h
 by_cases c3 : a0 < 0
 ·rw [if_pos c3] at H
  have c3b0 := decide_eq_true c3; clear c3
  by_cases c4 : a1 < 1
  ·rw [if_pos c4] at H
   have c4b0 := decide_eq_true c4; clear c4; obtain rfl := Option.some.inj H
   go_enter Try.func36, Try.ntmps36
   go_wp2; go_ret; exact ⟨by first | rfl | (simp; done) | (simp [*]; done), by repeat (first | exact Drawn0.refl _ | apply Drawn0.step)⟩
  ·rw [if_neg c4] at H
   have c4b0 := decide_eq_false c4; clear c4
   by_cases c5 : a1 = 0
   (· rw [if_pos c5] at H; exact absurd H (by simp))
   ·rw [if_neg c5] at H
    obtain ⟨c5b0, c5b1⟩ := bn_ c5; obtain rfl := Option.some.inj H
    go_enter Try.func36, Try.ntmps36
    go_wp2; go_ret; exact ⟨by first | rfl | (simp; done) | (simp [*]; done), by repeat (first | exact Drawn0.refl _ | apply Drawn0.step)⟩
 ·rw [if_neg c3] at H
  have c3b0 := decide_eq_false c3; clear c3
  by_cases c6 : a1 < 1
  ·rw [if_pos c6] at H
   have c6b0 := decide_eq_true c6; clear c6; obtain rfl := Option.some.inj H
   go_enter Try.func36, Try.ntmps36
   go_wp2; go_ret; exact ⟨by first | rfl | (simp; done) | (simp [*]; done), by repeat (first | exact Drawn0.refl _ | apply Drawn0.step)⟩
  ·rw [if_neg c6] at H
   have c6b0 := decide_eq_false c6; clear c6
   by_cases c7 : a1 = 0
   (· rw [if_pos c7] at H; exact absurd H (by simp))
   ·rw [if_neg c7] at H
    obtain ⟨c7b0, c7b1⟩ := bn_ c7; obtain rfl := Option.some.inj H
    go_enter Try.func36, Try.ntmps36
    go_wp2; go_ret; exact ⟨by first | rfl | (simp; done) | (simp [*]; done), by repeat (first | exact Drawn0.refl _ | apply Drawn0.step)⟩
def dioramaref01_At.f (l0 : List Int) (a1 : Int) (a2 : Int) : Option (Int) := if a1 < 0 then (some 0) else (if a1 ≥ (l0.length : Int) then (some 0) else (if 0 ≤ a1 then (if a1 < (l0.length : Int) then ((dioramaref01_Around.f (rd l0 a1) a2).bind fun t102 => (some t102)) else (none)) else (none)))
set_option maxHeartbeats 8000000 in
set_option maxRecDepth 100000 in
theorem dioramaref01_At.calls (A0 : Option Addr) (c0 : Nat) (l0 : List Int) (a1 : Int) (a2 : Int) (r : Int) (w : World) (hr0 : Kd.C (Kd.int .i64) w A0 l0.length l0) (hc0 : l0.length ≤ c0) (h : dioramaref01_At.f l0 a1 a2 = some r) :
  Calls Try.prog 34 #[.slice A0 l0.length c0, .int .i64 a1, .int .i64 a2] w fun e w' => e = .returned (.int .i64 r) ∧ Drawn0 w w' := by
 have HR0 := A_ hr0; have HC0 := A_ hc0; clear hr0 hc0; have H : (if a1 < 0 then (some 0) else (if a1 ≥ (l0.length : Int) then (some 0) else (if 0 ≤ a1 then (if a1 < (l0.length : Int) then ((dioramaref01_Around.f (rd l0 a1) a2).bind fun t102 => (some t102)) else (none)) else (none)))) = some r := h; clear h
 by_cases c4 : a1 < 0
 ·rw [if_pos c4] at H
  have c4b0 := decide_eq_true c4; clear c4; obtain rfl := Option.some.inj H
  go_enter Try.func34, Try.ntmps34
  go_wp2; go_ret; exact ⟨by first | rfl | (simp; done) | (simp [*]; done), by repeat (first | exact Drawn0.refl _ | apply Drawn0.step)⟩
 ·rw [if_neg c4] at H
  have c4b0 := decide_eq_false c4; clear c4
  by_cases c5 : a1 ≥ (l0.length : Int)
  ·rw [if_pos c5] at H
   have c5b0 : decide ((l0.length : Int) ≤ a1) = true := decide_eq_true c5; clear c5; obtain rfl := Option.some.inj H
   go_enter Try.func34, Try.ntmps34
   go_wp2; go_ret; exact ⟨by first | rfl | (simp; done) | (simp [*]; done), by repeat (first | exact Drawn0.refl _ | apply Drawn0.step)⟩
  ·rw [if_neg c5] at H
   have c5b0 : decide ((l0.length : Int) ≤ a1) = false := decide_eq_false c5; clear c5
   by_cases c6 : 0 ≤ a1
   ·rw [if_pos c6] at H
    have c6b0 := decide_eq_true c6; clear c6
    by_cases c7 : a1 < (l0.length : Int)
    ·rw [if_pos c7] at H
     have c7b0 := decide_eq_true c7; clear c7; replace H := Option.bind_eq_some_iff.mp H; obtain ⟨t102, A80, H⟩ := H
     (try dsimp only at H)
     have A8 := A_ A80; clear A80; obtain rfl := Option.some.inj H; have p101 : 0 ≤ (a1 : Int) := od_; have q101 : a1 < (l0.length : Int) := od_; obtain ⟨ad101, e101, hx101_0⟩ := Kd.at_int HR0.out a1 p101 q101
     cases e101
     replace p101 := eq_true p101; replace q101 := eq_true q101
     go_enter Try.func34, Try.ntmps34
     go_wp2_with (first | ((with_reducible refine gate_callee (f := 36) rfl ?_); refine goesL_ (some 20) rfl rfl Try.func36 (by kernel_rfl) rfl #[.int .i64 (rd l0 a1), .int .i64 a2] rfl lm_ ?_; (with_reducible refine (dioramaref01_Around.calls (rd l0 a1) a2 t102 _ A8.out).mono ?_); rintro e w' ⟨rfl, ⟨nd, rfl⟩⟩; refine ⟨_, rfl, ?_⟩))
     go_ret; exact ⟨by first | rfl | (simp; done) | (simp [*]; done), by repeat (first | exact Drawn0.refl _ | apply Drawn0.step)⟩
    (· rw [if_neg c7] at H; exact absurd H (by simp))
   (· rw [if_neg c6] at H; exact absurd H (by simp))
def dioramaref36_Shape.l0 : Nat → List Int → List Int → Int → Option (List Int)
 | 0, _, _, _ => none
 | k + 1, x0, x3, x4 => (dioramaref01_At.f x0 0 3).bind fun t103 => (if x4 < (wrap64 (1 + t103)) then ((dioramaref01_At.f x0 (wrap64 (1 + x4)) 4).bind fun t104 => (if x3.length < 17592186044416 then (dioramaref36_Shape.l0 k x0 (x3 ++ [wrap64 (1 + t104)]) (wrap64 (x4 + 1))) else (none))) else (some x3))
def dioramaref36_Shape.f (k : Nat) (l0 : List Int) : Option (List Int) := dioramaref36_Shape.l0 k l0 ([] : List Int) 0
set_option maxHeartbeats 8000000 in
set_option maxRecDepth 100000 in
theorem dioramaref36_Shape.calls (k : Nat) (A0 : Option Addr) (c0 : Nat) (l0 : List Int) (r : List Int) (w : World) (hr0 : Kd.C (Kd.int .i64) w A0 l0.length l0) (hc0 : l0.length ≤ c0) (h : dioramaref36_Shape.f k l0 = some r) :
  Calls Try.prog 10 #[.slice A0 l0.length c0] w fun e w' => ∃ v0_ : Value, e = .returned (v0_) ∧ Kd.R (Kd.int .i64) 3 w' w.heap.size (fun _ => True) v0_ r ∧ Below w.heap.size w w' := by
 have HR0 := A_ hr0; have HC0 := A_ hc0; clear hr0 hc0; have HB := A_ (Below.refl w.heap.size w); have H : (dioramaref36_Shape.l0 k l0 ([] : List Int) 0) = some r := h; clear h; have H' := A_ H; clear H
 go_enter Try.func10, Try.ntmps10
 go_wp2
 go_loopg [3, 4] k (fun kq v3 v4 w' => ∃ (x3_1 : List Int) (x4_1 : Int), v4 = .int .i64 x4_1 ∧ Aside0 (dioramaref36_Shape.l0 kq l0 x3_1 x4_1 = some r) ∧ Aside0 (kq ≤ k) ∧ Aside0 (Kd.R (Kd.int .i64) 3 w' w.heap.size (fun _ => True) v3 x3_1) ∧ Aside0 (Below w.heap.size w w'))
 case atStart => exact ⟨(([] : List Int)), (0), rf_, H', ⟨Nat.le_refl _⟩, ⟨by first | exact Kd.R_nil _ _ _ _ _ | exact Kd.N_nil _ _ _ _ _ | exact Kd.V_nil _ _ _ _ _ | exact Kd.Q_nil _ _ _ _ _ | exact Kd.S_nil _ _ _ _ _⟩, ⟨bx_ HB⟩⟩
 case round =>
  clear H'; obtain ⟨x3_1, x4_1, rfl, HA, HK1, HO_3, HB⟩ := hrel
  cases gk with
  | zero => exact absurd HA.out (by simp [dioramaref36_Shape.l0])
  | succ k1 =>
   have H := HA.out; clear HA; simp only [dioramaref36_Shape.l0] at H; replace H := Option.bind_eq_some_iff.mp H; obtain ⟨t103, A20, H⟩ := H
   (try dsimp only at H)
   have A2 := A_ A20; clear A20
   by_cases c3 : x4_1 < (wrap64 (1 + t103))
   ·rw [if_pos c3] at H
    have c3b0 := decide_eq_true c3; clear c3; replace H := Option.bind_eq_some_iff.mp H; obtain ⟨t104, A40, H⟩ := H
    (try dsimp only at H)
    have A4 := A_ A40; clear A40
    by_cases c5 : x3_1.length < 17592186044416
    ·rw [if_pos c5] at H
     have LMc5 := A_ c5; clear c5; obtain ⟨y105, hy105⟩ : ∃ y_ : List Int, y_ = (x3_1 ++ [wrap64 (1 + t104)]) := ⟨_, rfl⟩; replace H : (dioramaref36_Shape.l0 k1 l0 y105 (wrap64 (x4_1 + 1))) = some r := rh_ hy105 H; have Ny105 := A_ hy105; clear hy105; have H' := A_ H; clear H
     go_wp2_with (first | ((with_reducible refine gate_callee (f := 34) rfl ?_); refine goesL_ (some 7) rfl rfl Try.func34 (by kernel_rfl) rfl #[.slice A0 l0.length c0, .int .i64 0, .int .i64 3] rfl lm_ ?_; (with_reducible refine (dioramaref01_At.calls _ _ l0 0 3 t103 _ ?side1 ?side2 A2.out).mono ?_); (case side1 => repeat (first | exact (Kd.C_below HR0.out HB.out) | (with_reducible refine Kd.C_alloc ?_ _) | (with_reducible refine Kd.C_drewN ?_ _) | (with_reducible refine Kd.C_drew ?_))); (case side2 => exact HC0.out); rintro e w' ⟨rfl, ⟨nd, rfl⟩⟩; refine ⟨_, rfl, ?_⟩) | ((with_reducible refine gate_callee (f := 34) rfl ?_); refine goesL_ (some 16) rfl rfl Try.func34 (by kernel_rfl) rfl #[.slice A0 l0.length c0, .int .i64 (wrap64 (1 + x4_1)), .int .i64 4] rfl lm_ ?_; (with_reducible refine (dioramaref01_At.calls _ _ l0 (wrap64 (1 + x4_1)) 4 t104 _ ?side1 ?side2 A4.out).mono ?_); (case side1 => repeat (first | exact (Kd.C_below HR0.out (bx_ HB)) | (with_reducible refine Kd.C_alloc ?_ _) | (with_reducible refine Kd.C_drewN ?_ _) | (with_reducible refine Kd.C_drew ?_))); (case side2 => exact HC0.out); rintro e w' ⟨rfl, ⟨nd, rfl⟩⟩; refine ⟨_, rfl, ?_⟩) | ((with_reducible refine gate_builtin (b := .append) (xs := #[.tmp 12, .tmp 18]) rfl ?_); at_builtin; refine Kd.R_append (Kd.int .i64) (w0 := w) w.heap.size rfl (.tmp 12) (.tmp 18) 22 3 (.int .i64 0) 8 rfl Try.underlying22 info3 rfl (by decide) (by omega) u3 x3_1 (wrap64 (1 + t104)) [.int .i64 (wrap64 (1 + t104))] (fun _ => True) (fun _ => False) rfl rfl ?aP (fun _ hk => hk.elim) ?aF ?aO ?aB ?aS ?aL ?_; (case aP => exact rfl); (case aB => exact (bx_ HB)); (case aF => exact (fun _ _ => trivial)); (case aO => exact (rx_ HO_3)); (case aS => exact (below_size (bx_ HB))); (case aL => have := LMc5.out; omega); intro v106 w6 ho hb hg hat; rw [← Ny105.out] at ho; have n0_ := A_ (hb); have n1_ := A_ (ho); clear HB HO_3; have HB := n0_; have HO107 := n1_; clear n0_ n1_; clear ho hb hg hat))
     go_roundg k1
     case measure => have := HK1.out; omega
     case rel => exact ⟨(y105), (wrap64 (x4_1 + 1)), rf_, H', ⟨by have := HK1.out; omega⟩, ⟨by (with_reducible repeat (first | apply Kd.R_alloc | apply Kd.R_drewN | apply Kd.R_drew)); exact HO107.out⟩, ⟨bx_ HB⟩⟩
    (· rw [if_neg c5] at H; exact absurd H (by simp))
   ·rw [if_neg c3] at H
    have c3b0 := decide_eq_false c3; clear c3; obtain rfl := Option.some.inj H
    go_wp2_with (first | ((with_reducible refine gate_callee (f := 34) rfl ?_); refine goesL_ (some 7) rfl rfl Try.func34 (by kernel_rfl) rfl #[.slice A0 l0.length c0, .int .i64 0, .int .i64 3] rfl lm_ ?_; (with_reducible refine (dioramaref01_At.calls _ _ l0 0 3 t103 _ ?side1 ?side2 A2.out).mono ?_); (case side1 => repeat (first | exact (Kd.C_below HR0.out HB.out) | (with_reducible refine Kd.C_alloc ?_ _) | (with_reducible refine Kd.C_drewN ?_ _) | (with_reducible refine Kd.C_drew ?_))); (case side2 => exact HC0.out); rintro e w' ⟨rfl, ⟨nd, rfl⟩⟩; refine ⟨_, rfl, ?_⟩))
    go_ret; exact ⟨_, ew_, by (with_reducible repeat (first | apply Kd.R_alloc | apply Kd.R_drewN | apply Kd.R_drew)); exact HO_3.out, bx_ HB⟩
mutual
def dioramaref36_World.l0 : Nat → List Int → List Int → List (List (List Int)) → Int → Int → Option ((List (List (List Int))))
 | 0, _, _, _, _, _ => none
 | k + 1, x0, x1, x5, x6, x7 => if x7 < (x0.length : Int) then (dioramaref36_World.l1 k x0 x1 x5 x6 x7 ([] : List (List Int)) 0) else (some x5)
def dioramaref36_World.l1 : Nat → List Int → List Int → List (List (List Int)) → Int → Int → List (List Int) → Int → Option ((List (List (List Int))))
 | 0, _, _, _, _, _, _, _ => none
 | k + 1, x0, x1, x5, x6, x7, x8, x9 => (dioramaref01_At.f x1 x6 5).bind fun t108 => (if x9 < t108 then (dioramaref36_World.l2 k x0 x1 x5 x6 x7 x8 x9 ([] : List Int) 0) else (if x5.length < 5864062014805 then (dioramaref36_World.l0 k x0 x1 (x5 ++ [x8]) (wrap64 (x6 + 17)) (wrap64 (x7 + 1))) else (none)))
def dioramaref36_World.l2 : Nat → List Int → List Int → List (List (List Int)) → Int → Int → List (List Int) → Int → List Int → Int → Option ((List (List (List Int))))
 | 0, _, _, _, _, _, _, _, _, _ => none
 | k + 1, x0, x1, x5, x6, x7, x8, x9, x10, x11 => if 0 ≤ x7 then (if x7 < (x0.length : Int) then (if x11 < (rd x0 x7) then ((dioramaref01_At.f x1 (wrap64 ((wrap64 ((wrap64 (x6 + 1)) + (wrap64 (4 * x9)))) + x11)) 3).bind fun t113 => (if x10.length < 17592186044416 then (dioramaref36_World.l2 k x0 x1 x5 x6 x7 x8 x9 (x10 ++ [t113]) (wrap64 (x11 + 1))) else (none))) else (if x8.length < 5864062014805 then (dioramaref36_World.l1 k x0 x1 x5 x6 x7 (x8 ++ [x10]) (wrap64 (x9 + 1))) else (none))) else (none)) else (none)
end
def dioramaref36_World.f (k : Nat) (l0 : List Int) (l1 : List Int) : Option ((List (List (List Int)))) := dioramaref36_World.l0 k l0 l1 ([] : List (List (List Int))) 0 0
set_option maxHeartbeats 8000000 in
set_option maxRecDepth 100000 in
theorem dioramaref36_World.calls (k : Nat) (A0 : Option Addr) (c0 : Nat) (l0 : List Int) (A1 : Option Addr) (c1 : Nat) (l1 : List Int) (r : List (List (List Int))) (w : World) (hr0 : Kd.C (Kd.int .i64) w A0 l0.length l0) (hc0 : l0.length ≤ c0) (hr1 : Kd.C (Kd.int .i64) w A1 l1.length l1) (hc1 : l1.length ≤ c1) (h : dioramaref36_World.f k l0 l1 = some r) :
  Calls Try.prog 11 #[.slice A0 l0.length c0, .slice A1 l1.length c1] w fun e w' => ∃ v0_ : Value, e = .returned (v0_) ∧ Kd.R (Kd.slice 22 (Kd.slice 3 (Kd.int .i64))) 64 w' w.heap.size (fun _ => True) v0_ r ∧ Below w.heap.size w w' := by
 have HR0 := A_ hr0; have HC0 := A_ hc0; clear hr0 hc0; have HR1 := A_ hr1; have HC1 := A_ hc1; clear hr1 hc1; have HB := A_ (Below.refl w.heap.size w); have H : (dioramaref36_World.l0 k l0 l1 ([] : List (List (List Int))) 0 0) = some r := h; clear h; have H' := A_ H; clear H
 go_enter Try.func11, Try.ntmps11
 go_wp2
 go_loopg [5, 6, 7] k (fun kq v5 v6 v7 w' => ∃ (x5_1 : List (List (List Int))) (x6_1 : Int) (x7_1 : Int), v6 = .int .i64 x6_1 ∧ v7 = .int .i64 x7_1 ∧ Aside0 (dioramaref36_World.l0 kq l0 l1 x5_1 x6_1 x7_1 = some r) ∧ Aside0 (kq ≤ k) ∧ Aside0 (Kd.R (Kd.slice 22 (Kd.slice 3 (Kd.int .i64))) 64 w' w.heap.size (fun _ => True) v5 x5_1) ∧ Aside0 (Below w.heap.size w w'))
 case atStart => exact ⟨(([] : List (List (List Int)))), (0), (0), rf_, rf_, H', ⟨Nat.le_refl _⟩, ⟨by first | exact Kd.R_nil _ _ _ _ _ | exact Kd.N_nil _ _ _ _ _ | exact Kd.V_nil _ _ _ _ _ | exact Kd.Q_nil _ _ _ _ _ | exact Kd.S_nil _ _ _ _ _⟩, ⟨bx_ HB⟩⟩
 case round =>
  clear H'; obtain ⟨x5_1, x6_1, x7_1, rfl, rfl, HA, HK1, HO_5, HB⟩ := hrel
  cases gk with
  | zero => exact absurd HA.out (by simp [dioramaref36_World.l0])
  | succ k1 =>
   have H := HA.out; clear HA; simp only [dioramaref36_World.l0] at H
   by_cases c3 : x7_1 < (l0.length : Int)
   ·rw [if_pos c3] at H
    have c3b0 := decide_eq_true c3; clear c3; have H' := A_ H; clear H; go_wp2
    go_loopg [8, 9] k1 (fun kq v8 v9 w' => ∃ (x8_2 : List (List Int)) (x9_2 : Int), v9 = .int .i64 x9_2 ∧ Aside0 (dioramaref36_World.l1 kq l0 l1 x5_1 x6_1 x7_1 x8_2 x9_2 = some r) ∧ Aside0 (kq ≤ k1) ∧ Aside0 (Kd.R (Kd.slice 22 (Kd.slice 3 (Kd.int .i64))) 64 w' w.heap.size (fun k_ => some k_ ≠ (v8 : Value).ownBlock) u5 x5_1) ∧ Aside0 (Kd.S (Kd.slice 3 (Kd.int .i64)) 22 w' w.heap.size (fun _ => True) v8 x8_2) ∧ Aside0 (Below w.heap.size w w'))
    case atStart => exact ⟨(([] : List (List Int))), (0), rf_, H', ⟨Nat.le_refl _⟩, ⟨by (with_reducible repeat (first | apply Kd.R_alloc | apply Kd.R_drewN | apply Kd.R_drew)); exact Kd.R_mono HO_5.out (fun _ hk => (by simp [Value.ownBlock]))⟩, ⟨by first | exact Kd.S_nil _ _ _ _ _ | exact Kd.N_nil _ _ _ _ _ | exact Kd.V_nil _ _ _ _ _ | exact Kd.Q_nil _ _ _ _ _ | exact Kd.R_nil _ _ _ _ _⟩, ⟨bx_ HB⟩⟩
    case round =>
     clear H'
     try clear c3
     try clear c3b0
     obtain ⟨x8_2, x9_2, rfl, HA, HK2, HO_5, HO_8, HB⟩ := hrel
     cases gk with
     | zero => exact absurd HA.out (by simp [dioramaref36_World.l1])
     | succ k2 =>
      have H := HA.out; clear HA; simp only [dioramaref36_World.l1] at H; replace H := Option.bind_eq_some_iff.mp H; obtain ⟨t108, A40, H⟩ := H
      (try dsimp only at H)
      have A4 := A_ A40; clear A40
      by_cases c5 : x9_2 < t108
      ·rw [if_pos c5] at H
       have c5b0 := decide_eq_true c5; clear c5; have H' := A_ H; clear H
       go_wp2_with (first | ((with_reducible refine gate_callee (f := 34) rfl ?_); refine goesL_ (some 21) rfl rfl Try.func34 (by kernel_rfl) rfl #[.slice A1 l1.length c1, .int .i64 x6_1, .int .i64 5] rfl lm_ ?_; (with_reducible refine (dioramaref01_At.calls _ _ l1 x6_1 5 t108 _ ?side1 ?side2 A4.out).mono ?_); (case side1 => repeat (first | exact (Kd.C_below HR1.out HB.out) | (with_reducible refine Kd.C_alloc ?_ _) | (with_reducible refine Kd.C_drewN ?_ _) | (with_reducible refine Kd.C_drew ?_))); (case side2 => exact HC1.out); rintro e w' ⟨rfl, ⟨nd, rfl⟩⟩; refine ⟨_, rfl, ?_⟩))
       go_loopg [10, 11] k2 (fun kq v10 v11 w' => ∃ (x10_3 : List Int) (x11_3 : Int), v11 = .int .i64 x11_3 ∧ Aside0 (dioramaref36_World.l2 kq l0 l1 x5_1 x6_1 x7_1 x8_2 x9_2 x10_3 x11_3 = some r) ∧ Aside0 (kq ≤ k2) ∧ Aside0 (Kd.R (Kd.slice 22 (Kd.slice 3 (Kd.int .i64))) 64 w' w.heap.size (fun k_ => some k_ ≠ (u8 : Value).ownBlock ∧ some k_ ≠ (v10 : Value).ownBlock) u5 x5_1) ∧ Aside0 (Kd.S (Kd.slice 3 (Kd.int .i64)) 22 w' w.heap.size (fun k_ => some k_ ≠ (v10 : Value).ownBlock) u8 x8_2) ∧ Aside0 (Kd.R (Kd.int .i64) 3 w' w.heap.size (fun _ => True) v10 x10_3) ∧ Aside0 (Below w.heap.size w w'))
       case atStart => exact ⟨(([] : List Int)), (0), rf_, H', ⟨Nat.le_refl _⟩, ⟨by (with_reducible repeat (first | apply Kd.R_alloc | apply Kd.R_drewN | apply Kd.R_drew)); exact Kd.R_mono HO_5.out (fun _ hk => ⟨hk, (by simp [Value.ownBlock])⟩)⟩, ⟨by (with_reducible repeat (first | apply Kd.S_alloc | apply Kd.S_drewN | apply Kd.S_drew)); exact Kd.S_mono HO_8.out (fun _ hk => (by simp [Value.ownBlock]))⟩, ⟨by first | exact Kd.R_nil _ _ _ _ _ | exact Kd.N_nil _ _ _ _ _ | exact Kd.V_nil _ _ _ _ _ | exact Kd.Q_nil _ _ _ _ _ | exact Kd.S_nil _ _ _ _ _⟩, ⟨bx_ HB⟩⟩
       case round =>
        clear H'
        try clear c1
        try clear c3
        try clear c3b0
        try clear c5
        try clear c5b0
        obtain ⟨x10_3, x11_3, rfl, HA, HK3, HO_5, HO_8, HO_10, HB⟩ := hrel
        cases gk with
        | zero => exact absurd HA.out (by simp [dioramaref36_World.l2])
        | succ k3 =>
         have H := HA.out; clear HA; simp only [dioramaref36_World.l2] at H
         by_cases c6 : 0 ≤ x7_1
         ·rw [if_pos c6] at H
          have c6b0 := decide_eq_true c6; clear c6
          by_cases c7 : x7_1 < (l0.length : Int)
          ·rw [if_pos c7] at H
           have c7b0 := decide_eq_true c7; clear c7
           by_cases c8 : x11_3 < (rd l0 x7_1)
           ·rw [if_pos c8] at H
            have c8b0 := decide_eq_true c8; clear c8; replace H := Option.bind_eq_some_iff.mp H; obtain ⟨t113, A90, H⟩ := H
            (try dsimp only at H)
            have A9 := A_ A90; clear A90
            by_cases c10 : x10_3.length < 17592186044416
            ·rw [if_pos c10] at H
             have LMc10 := A_ c10; clear c10; obtain ⟨y114, hy114⟩ : ∃ y_ : List Int, y_ = (x10_3 ++ [t113]) := ⟨_, rfl⟩; replace H : (dioramaref36_World.l2 k3 l0 l1 x5_1 x6_1 x7_1 x8_2 x9_2 y114 (wrap64 (x11_3 + 1))) = some r := rh_ hy114 H; have Ny114 := A_ hy114; clear hy114; have H' := A_ H; clear H; have p112 : 0 ≤ (x7_1 : Int) := od_; have q112 : x7_1 < (l0.length : Int) := od_; obtain ⟨ad112, e112, hx112_0⟩ := Kd.at_int HR0.out x7_1 p112 q112
             cases e112
             replace hx112_0 := hc_ HB hx112_0; replace p112 := eq_true p112; replace q112 := eq_true q112
             go_wp2_with (first | ((with_reducible refine gate_callee (f := 34) rfl ?_); refine goesL_ (some 42) rfl rfl Try.func34 (by kernel_rfl) rfl #[.slice A1 l1.length c1, .int .i64 (wrap64 ((wrap64 ((wrap64 (x6_1 + 1)) + (wrap64 (4 * x9_2)))) + x11_3)), .int .i64 3] rfl lm_ ?_; (with_reducible refine (dioramaref01_At.calls _ _ l1 (wrap64 ((wrap64 ((wrap64 (x6_1 + 1)) + (wrap64 (4 * x9_2)))) + x11_3)) 3 t113 _ ?side1 ?side2 A9.out).mono ?_); (case side1 => repeat (first | exact (Kd.C_below HR1.out HB.out) | (with_reducible refine Kd.C_alloc ?_ _) | (with_reducible refine Kd.C_drewN ?_ _) | (with_reducible refine Kd.C_drew ?_))); (case side2 => exact HC1.out); rintro e w' ⟨rfl, ⟨nd, rfl⟩⟩; refine ⟨_, rfl, ?_⟩) | ((with_reducible refine gate_builtin (b := .append) (xs := #[.tmp 33, .tmp 43]) rfl ?_); at_builtin; refine Kd.R_append (Kd.int .i64) (w0 := w) w.heap.size rfl (.tmp 33) (.tmp 43) 22 3 (.int .i64 0) 8 rfl Try.underlying22 info3 rfl (by decide) (by omega) u10 x10_3 t113 [.int .i64 t113] (fun _ => True) (fun _ => False) rfl rfl ?aP (fun _ hk => hk.elim) ?aF ?aO ?aB ?aS ?aL ?_; (case aP => exact rfl); (case aB => exact (bx_ HB)); (case aF => exact (fun _ _ => trivial)); (case aO => exact (rx_ HO_10)); (case aS => exact (below_size (bx_ HB))); (case aL => have := LMc10.out; omega); intro v115 w11 ho hb hg hat; rw [← Ny114.out] at ho; have n0_ := A_ (Kd.R_after (ok := (fun k_ => some k_ ≠ (u8 : Value).ownBlock)) (rx_ HO_5) hg hat); have n1_ := A_ (Kd.S_after (ok := (fun _ => True)) (by (with_reducible repeat (first | apply Kd.S_alloc | apply Kd.S_drewN | apply Kd.S_drew)); exact Kd.S_mono HO_8.out (fun _ hk => ⟨trivial, hk⟩)) hg hat); have n2_ := A_ (hb); have n3_ := A_ (ho); clear HO_5 HO_8 HB HO_10; have HO_5 := n0_; have HO_8 := n1_; have HB := n2_; have HO116 := n3_; clear n0_ n1_ n2_ n3_; clear ho hb hg hat))
             go_roundg k3
             case measure => have := HK1.out; have := HK2.out; have := HK3.out; omega
             case rel => exact ⟨(y114), (wrap64 (x11_3 + 1)), rf_, H', ⟨by have := HK1.out; have := HK2.out; have := HK3.out; omega⟩, ⟨by (with_reducible repeat (first | apply Kd.R_alloc | apply Kd.R_drewN | apply Kd.R_drew)); exact HO_5.out⟩, ⟨by (with_reducible repeat (first | apply Kd.S_alloc | apply Kd.S_drewN | apply Kd.S_drew)); exact Kd.S_mono HO_8.out (fun _ hk => hk.2)⟩, ⟨by (with_reducible repeat (first | apply Kd.R_alloc | apply Kd.R_drewN | apply Kd.R_drew)); exact HO116.out⟩, ⟨bx_ HB⟩⟩
            (· rw [if_neg c10] at H; exact absurd H (by simp))
           ·rw [if_neg c8] at H
            have c8b0 := decide_eq_false c8; clear c8
            by_cases c12 : x8_2.length < 5864062014805
            ·rw [if_pos c12] at H
             have LMc12 := A_ c12; clear c12; obtain ⟨y117, hy117⟩ : ∃ y_ : List (List Int), y_ = (x8_2 ++ [x10_3]) := ⟨_, rfl⟩; replace H : (dioramaref36_World.l1 k3 l0 l1 x5_1 x6_1 x7_1 y117 (wrap64 (x9_2 + 1))) = some r := rh_ hy117 H; have Ny117 := A_ hy117; clear hy117; have H' := A_ H; clear H; have p112 : 0 ≤ (x7_1 : Int) := od_; have q112 : x7_1 < (l0.length : Int) := od_; obtain ⟨ad112, e112, hx112_0⟩ := Kd.at_int HR0.out x7_1 p112 q112
             cases e112
             replace hx112_0 := hc_ HB hx112_0; replace p112 := eq_true p112; replace q112 := eq_true q112; obtain ⟨Ao14, co14, eo14⟩ := Kd.R_slice HO_10.out; subst eo14
             go_wp2_with (first | ((with_reducible refine gate_builtin (b := .append) (xs := #[.tmp 45, .tmp 47]) rfl ?_); at_builtin; refine Kd.S_append (Kd.slice 3 (Kd.int .i64)) (w0 := w) w.heap.size rfl (.tmp 45) (.tmp 47) 64 22 (.slice none 0 0) 24 rfl Try.underlying64 info22 rfl (by decide) (by omega) u8 x8_2 x10_3 [.slice Ao14 x10_3.length co14] (fun _ => True) (fun k_ => some k_ = (.slice Ao14 x10_3.length co14 : Value).ownBlock) rfl rfl ?aP (fun k_ hk_ => ((Kd.R_mono (ok' := fun k_ => ((fun _ => True)) k_ ∧ some k_ ≠ (u8 : Value).ownBlock) (Kd.R_apart' (HO_10.out) (Kd.S_typed HO_8.out) (by decide)) (fun k_ hk => ⟨trivial, hk.2⟩))).1 k_ hk_.symm) ?aF ?aO ?aB ?aS ?aL ?_; (case aP => exact Kd.M_row (Kd.R_mono (Kd.R_tight rfl (Kd.R_mono (ok' := fun k_ => ((fun _ => True)) k_ ∧ some k_ ≠ (u8 : Value).ownBlock) (Kd.R_apart' (HO_10.out) (Kd.S_typed HO_8.out) (by decide)) (fun k_ hk => ⟨trivial, hk.2⟩))) (fun _ h_ => h_))); (case aB => exact (bx_ HB)); (case aF => exact (fun _ _ => trivial)); (case aO => exact (by (with_reducible repeat (first | apply Kd.S_alloc | apply Kd.S_drewN | apply Kd.S_drew)); exact Kd.S_mono HO_8.out (fun k_ hk => ⟨trivial, fun e_ => hk e_⟩))); (case aS => exact (below_size (bx_ HB))); (case aL => have := LMc12.out; omega); intro v118 w13 ho hb hg hat; rw [← Ny117.out] at ho; have n0_ := A_ (Kd.R_after (ok := (fun k_ => some k_ ≠ (.slice Ao14 x10_3.length co14 : Value).ownBlock)) (by (with_reducible repeat (first | apply Kd.R_alloc | apply Kd.R_drewN | apply Kd.R_drew)); exact Kd.R_mono HO_5.out (fun _ hk => ⟨hk.2, hk.1⟩)) hg hat); have n1_ := A_ (hb); have n2_ := A_ (ho); clear HO_5 HB HO_8 HO_10; have HO_5 := n0_; have HB := n1_; have HO119 := n2_; clear n0_ n1_ n2_; clear ho hb hg hat))
             go_roundg k3
             case measure => have := HK1.out; have := HK2.out; have := HK3.out; omega
             case rel => exact ⟨(y117), (wrap64 (x9_2 + 1)), rf_, H', ⟨by have := HK1.out; have := HK2.out; have := HK3.out; omega⟩, ⟨by (with_reducible repeat (first | apply Kd.R_alloc | apply Kd.R_drewN | apply Kd.R_drew)); exact Kd.R_mono HO_5.out (fun _ hk => hk.2)⟩, ⟨by (with_reducible repeat (first | apply Kd.S_alloc | apply Kd.S_drewN | apply Kd.S_drew)); exact HO119.out⟩, ⟨bx_ HB⟩⟩
            (· rw [if_neg c12] at H; exact absurd H (by simp))
          (· rw [if_neg c7] at H; exact absurd H (by simp))
         (· rw [if_neg c6] at H; exact absurd H (by simp))
      ·rw [if_neg c5] at H
       have c5b0 := decide_eq_false c5; clear c5
       by_cases c15 : x5_1.length < 5864062014805
       ·rw [if_pos c15] at H
        have LMc15 := A_ c15; clear c15; obtain ⟨y109, hy109⟩ : ∃ y_ : List (List (List Int)), y_ = (x5_1 ++ [x8_2]) := ⟨_, rfl⟩; replace H : (dioramaref36_World.l0 k2 l0 l1 y109 (wrap64 (x6_1 + 17)) (wrap64 (x7_1 + 1))) = some r := rh_ hy109 H; have Ny109 := A_ hy109; clear hy109; have H' := A_ H; clear H
        go_wp2_with (first | ((with_reducible refine gate_callee (f := 34) rfl ?_); refine goesL_ (some 21) rfl rfl Try.func34 (by kernel_rfl) rfl #[.slice A1 l1.length c1, .int .i64 x6_1, .int .i64 5] rfl lm_ ?_; (with_reducible refine (dioramaref01_At.calls _ _ l1 x6_1 5 t108 _ ?side1 ?side2 A4.out).mono ?_); (case side1 => repeat (first | exact (Kd.C_below HR1.out HB.out) | (with_reducible refine Kd.C_alloc ?_ _) | (with_reducible refine Kd.C_drewN ?_ _) | (with_reducible refine Kd.C_drew ?_))); (case side2 => exact HC1.out); rintro e w' ⟨rfl, ⟨nd, rfl⟩⟩; refine ⟨_, rfl, ?_⟩; obtain ⟨Ao17, co17, eo17⟩ := Kd.S_slice HO_8.out; subst eo17) | ((with_reducible refine gate_builtin (b := .append) (xs := #[.tmp 49, .tmp 51]) rfl ?_); at_builtin; refine Kd.R_append (Kd.slice 22 (Kd.slice 3 (Kd.int .i64))) (w0 := w) w.heap.size rfl (.tmp 49) (.tmp 51) 25 64 (.slice none 0 0) 24 rfl Try.underlying25 info64 rfl (by decide) (by omega) u5 x5_1 x8_2 [.slice Ao17 x8_2.length co17] (fun _ => True) (fun k_ => ((fun _ => True)) k_ ∧ some k_ ≠ (u5 : Value).ownBlock) rfl rfl ?aP (fun _ hk => hk) ?aF ?aO ?aB ?aS ?aL ?_; (case aP => exact Kd.M_row (Kd.R_mono (Kd.R_apart' ((Kd.S_R HO_8.out)) (Kd.R_typed HO_5.out) (by decide)) (fun k_ hk => ⟨trivial, hk.2⟩))); (case aB => exact (bx_ HB)); (case aF => exact (fun _ _ => trivial)); (case aO => exact (by (with_reducible repeat (first | apply Kd.R_alloc | apply Kd.R_drewN | apply Kd.R_drew)); exact Kd.R_mono HO_5.out (fun _ hk => trivial))); (case aS => exact (below_size (bx_ HB))); (case aL => have := LMc15.out; omega); intro v110 w16 ho hb hg hat; rw [← Ny109.out] at ho; have n0_ := A_ (hb); have n1_ := A_ (ho); clear HB HO_5 HO_8; have HB := n0_; have HO111 := n1_; clear n0_ n1_; clear ho hb hg hat))
        go_roundg k2
        case measure => have := HK1.out; have := HK2.out; omega
        case rel => exact ⟨(y109), (wrap64 (x6_1 + 17)), (wrap64 (x7_1 + 1)), rf_, rf_, H', ⟨by have := HK1.out; have := HK2.out; omega⟩, ⟨by (with_reducible repeat (first | apply Kd.R_alloc | apply Kd.R_drewN | apply Kd.R_drew)); exact HO111.out⟩, ⟨bx_ HB⟩⟩
       (· rw [if_neg c15] at H; exact absurd H (by simp))
   (· rw [if_neg c3] at H; have c3b0 := decide_eq_false c3; clear c3; obtain rfl := Option.some.inj H; go_wp2; go_ret; exact ⟨_, ew_, by (with_reducible repeat (first | apply Kd.R_alloc | apply Kd.R_drewN | apply Kd.R_drew)); exact HO_5.out, bx_ HB⟩)
mutual
def dioramaref36_Shaped.l0 : Nat → List (List (List Int)) → Int → Int → Option (Bool)
 | 0, _, _, _ => none
 | k + 1, x0, x3, x4 => if x4 < (x0.length : Int) then (dioramaref36_Shaped.l1 k x0 x3 x4 0) else (if (x0.length : Int) ≤ 6 then (some (decide (x3 ≤ 512))) else (some false))
def dioramaref36_Shaped.l1 : Nat → List (List (List Int)) → Int → Int → Int → Option (Bool)
 | 0, _, _, _, _ => none
 | k + 1, x0, x3, x4, x5 => if 0 ≤ x4 then (if x4 < (x0.length : Int) then (if x5 < ((rd_L2 x0 x4).length : Int) then (if 0 ≤ x5 then (if ((rd_L1 (rd_L2 x0 x4) x5).length : Int) < 1 then (some false) else (if ((rd_L1 (rd_L2 x0 x4) x5).length : Int) > 10 then (some false) else (if 0 < ((rd_L2 x0 x4).length : Int) then (if ((rd_L1 (rd_L2 x0 x4) x5).length : Int) = ((rd_L1 (rd_L2 x0 x4) 0).length : Int) then (dioramaref36_Shaped.l1 k x0 (wrap64 (x3 + 1)) x4 (wrap64 (x5 + 1))) else (some false)) else (none)))) else (none)) else (dioramaref36_Shaped.l0 k x0 x3 (wrap64 (x4 + 1)))) else (none)) else (none)
end
def dioramaref36_Shaped.f (k : Nat) (l0 : List (List (List Int))) : Option (Bool) := dioramaref36_Shaped.l0 k l0 0 0
set_option maxHeartbeats 8000000 in
set_option maxRecDepth 100000 in
theorem dioramaref36_Shaped.calls (k : Nat) (A0 : Option Addr) (c0 : Nat) (l0 : List (List (List Int))) (r : Bool) (w : World) (hr0 : Kd.C (Kd.slice 22 (Kd.slice 3 (Kd.int .i64))) w A0 l0.length l0) (hc0 : l0.length ≤ c0) (h : dioramaref36_Shaped.f k l0 = some r) :
  Calls Try.prog 40 #[.slice A0 l0.length c0] w fun e w' => e = .returned (.bool r) ∧ Drawn0 w w' := by
 have HR0 := A_ hr0; have HC0 := A_ hc0; clear hr0 hc0; have H : (dioramaref36_Shaped.l0 k l0 0 0) = some r := h; clear h; have H' := A_ H; clear H
 go_enter Try.func40, Try.ntmps40
 go_wp2
 repeat (go_quiet (fail); try go_wp2)
 go_loopg [3, 4] k (fun kq v3 v4 w' => ∃ (x3_1 : Int) (x4_1 : Int), v3 = .int .i64 x3_1 ∧ v4 = .int .i64 x4_1 ∧ Aside0 (dioramaref36_Shaped.l0 kq l0 x3_1 x4_1 = some r) ∧ Aside0 (kq ≤ k) ∧ Drawn0 w w')
 case atStart => exact ⟨(0), (0), rf_, rf_, H', ⟨Nat.le_refl _⟩, by repeat (first | exact Drawn0.refl _ | apply Drawn0.step)⟩
 case round =>
  clear H'; obtain ⟨x3_1, x4_1, rfl, rfl, HA, HK1, ⟨m1, rfl⟩⟩ := hrel
  cases gk with
  | zero => exact absurd HA.out (by simp [dioramaref36_Shaped.l0])
  | succ k1 =>
   have H := HA.out; clear HA; simp only [dioramaref36_Shaped.l0] at H
   by_cases c2 : x4_1 < (l0.length : Int)
   ·rw [if_pos c2] at H
    have c2b0 := decide_eq_true c2; clear c2; have H' := A_ H; clear H; go_wp2
    repeat (go_quiet (fail); try go_wp2)
    go_loopg [3, 5] k1 (fun kq v3 v5 w' => ∃ (x3_2 : Int) (x5_2 : Int), v3 = .int .i64 x3_2 ∧ v5 = .int .i64 x5_2 ∧ Aside0 (dioramaref36_Shaped.l1 kq l0 x3_2 x4_1 x5_2 = some r) ∧ Aside0 (kq ≤ k1) ∧ Drawn0 w w')
    case atStart => exact ⟨(x3_1), (0), rf_, rf_, H', ⟨Nat.le_refl _⟩, by repeat (first | exact Drawn0.refl _ | apply Drawn0.step)⟩
    case round =>
     clear H'
     try clear c2
     try clear c2b0
     obtain ⟨x3_2, x5_2, rfl, rfl, HA, HK2, ⟨m2, rfl⟩⟩ := hrel
     cases gk with
     | zero => exact absurd HA.out (by simp [dioramaref36_Shaped.l1])
     | succ k2 =>
      have H := HA.out; clear HA; simp only [dioramaref36_Shaped.l1] at H
      by_cases c3 : 0 ≤ x4_1
      ·rw [if_pos c3] at H
       have c3b0 := decide_eq_true c3; clear c3
       by_cases c4 : x4_1 < (l0.length : Int)
       ·rw [if_pos c4] at H
        have c4b0 := decide_eq_true c4; clear c4
        by_cases c5 : x5_2 < ((rd_L2 l0 x4_1).length : Int)
        ·rw [if_pos c5] at H
         have c5b0 := decide_eq_true c5; clear c5
         by_cases c6 : 0 ≤ x5_2
         ·rw [if_pos c6] at H
          have c6b0 := decide_eq_true c6; clear c6
          by_cases c7 : ((rd_L1 (rd_L2 l0 x4_1) x5_2).length : Int) < 1
          ·rw [if_pos c7] at H
           have c7b0 := decide_eq_true c7; have c7b1 : decide ((rd_L1 (rd_L2 l0 x4_1) x5_2).length < 1) = true := decide_eq_true (by omega); clear c7; obtain rfl := Option.some.inj H; have p140 : 0 ≤ (x4_1 : Int) := od_; have q140 : x4_1 < (l0.length : Int) := od_; obtain ⟨ad140, A140_0, c140_0, e140, hx140_0, hl140_0, hi140_0⟩ := at_L2 HR0.out x4_1 p140 q140
           cases e140
           have HR140_0 := A_ hi140_0; have HC140_0 := A_ hl140_0; clear hi140_0 hl140_0; replace p140 := eq_true p140; replace q140 := eq_true q140; have p141 : 0 ≤ (x4_1 : Int) := od_; have q141 : x4_1 < (l0.length : Int) := od_; obtain ⟨ad141, A141_0, c141_0, e141, hx141_0, hl141_0, hi141_0⟩ := at_L2 HR0.out x4_1 p141 q141; obtain rfl : ad140 = ad141 := (by injection e141); have HR141_0 := A_ hi141_0; have HC141_0 := A_ hl141_0; clear hi141_0 hl141_0; replace p141 := eq_true p141; replace q141 := eq_true q141; have ea_ := Option.some.inj (hx140_0.symm.trans hx141_0)
           injection ea_ with ea_ en_ ec_
           subst ea_; subst ec_; clear en_; have p142 : 0 ≤ (x5_2 : Int) := od_; have q142 : x5_2 < ((rd_L2 l0 x4_1).length : Int) := od_; obtain ⟨ad142, A142_0, c142_0, e142, hx142_0, hl142_0, hi142_0⟩ := at_L1 HR141_0.out x5_2 p142 q142
           cases e142
           have HR142_0 := A_ hi142_0; have HC142_0 := A_ hl142_0; clear hi142_0 hl142_0; replace p142 := eq_true p142; replace q142 := eq_true q142; go_wp2
           repeat (go_quiet (fail); try go_wp2)
           go_ret; exact ⟨by first | rfl | (simp; done) | (simp [*]; done), by repeat (first | exact Drawn0.refl _ | apply Drawn0.step)⟩
          ·rw [if_neg c7] at H
           have c7b0 := decide_eq_false c7; have c7b1 : decide ((rd_L1 (rd_L2 l0 x4_1) x5_2).length < 1) = false := decide_eq_false (by omega); clear c7
           by_cases c8 : ((rd_L1 (rd_L2 l0 x4_1) x5_2).length : Int) > 10
           ·rw [if_pos c8] at H
            have c8b0 : decide (10 < ((rd_L1 (rd_L2 l0 x4_1) x5_2).length : Int)) = true := decide_eq_true c8; have c8b1 : decide (10 < (rd_L1 (rd_L2 l0 x4_1) x5_2).length) = true := decide_eq_true (by omega); clear c8; obtain rfl := Option.some.inj H; have p140 : 0 ≤ (x4_1 : Int) := od_; have q140 : x4_1 < (l0.length : Int) := od_; obtain ⟨ad140, A140_0, c140_0, e140, hx140_0, hl140_0, hi140_0⟩ := at_L2 HR0.out x4_1 p140 q140
            cases e140
            have HR140_0 := A_ hi140_0; have HC140_0 := A_ hl140_0; clear hi140_0 hl140_0; replace p140 := eq_true p140; replace q140 := eq_true q140; have p141 : 0 ≤ (x4_1 : Int) := od_; have q141 : x4_1 < (l0.length : Int) := od_; obtain ⟨ad141, A141_0, c141_0, e141, hx141_0, hl141_0, hi141_0⟩ := at_L2 HR0.out x4_1 p141 q141; obtain rfl : ad140 = ad141 := (by injection e141); have HR141_0 := A_ hi141_0; have HC141_0 := A_ hl141_0; clear hi141_0 hl141_0; replace p141 := eq_true p141; replace q141 := eq_true q141; have ea_ := Option.some.inj (hx140_0.symm.trans hx141_0)
            injection ea_ with ea_ en_ ec_
            subst ea_; subst ec_; clear en_; have p142 : 0 ≤ (x5_2 : Int) := od_; have q142 : x5_2 < ((rd_L2 l0 x4_1).length : Int) := od_; obtain ⟨ad142, A142_0, c142_0, e142, hx142_0, hl142_0, hi142_0⟩ := at_L1 HR141_0.out x5_2 p142 q142
            cases e142
            have HR142_0 := A_ hi142_0; have HC142_0 := A_ hl142_0; clear hi142_0 hl142_0; replace p142 := eq_true p142; replace q142 := eq_true q142; have p143 : 0 ≤ (x4_1 : Int) := od_; have q143 : x4_1 < (l0.length : Int) := od_; obtain ⟨ad143, A143_0, c143_0, e143, hx143_0, hl143_0, hi143_0⟩ := at_L2 HR0.out x4_1 p143 q143; obtain rfl : ad140 = ad143 := (by injection e143); have HR143_0 := A_ hi143_0; have HC143_0 := A_ hl143_0; clear hi143_0 hl143_0; replace p143 := eq_true p143; replace q143 := eq_true q143; have ea_ := Option.some.inj (hx140_0.symm.trans hx143_0)
            injection ea_ with ea_ en_ ec_
            subst ea_; subst ec_; clear en_; have p144 : 0 ≤ (x5_2 : Int) := od_; have q144 : x5_2 < ((rd_L2 l0 x4_1).length : Int) := od_; obtain ⟨ad144, A144_0, c144_0, e144, hx144_0, hl144_0, hi144_0⟩ := at_L1 HR143_0.out x5_2 p144 q144
            cases e144
            have HR144_0 := A_ hi144_0; have HC144_0 := A_ hl144_0; clear hi144_0 hl144_0; replace p144 := eq_true p144; replace q144 := eq_true q144; go_wp2
            repeat (go_quiet (fail); try go_wp2)
            go_ret; exact ⟨by first | rfl | (simp; done) | (simp [*]; done), by repeat (first | exact Drawn0.refl _ | apply Drawn0.step)⟩
           ·rw [if_neg c8] at H
            have c8b0 : decide (10 < ((rd_L1 (rd_L2 l0 x4_1) x5_2).length : Int)) = false := decide_eq_false c8; have c8b1 : decide (10 < (rd_L1 (rd_L2 l0 x4_1) x5_2).length) = false := decide_eq_false (by omega); clear c8
            by_cases c9 : 0 < ((rd_L2 l0 x4_1).length : Int)
            ·rw [if_pos c9] at H
             have c9b0 := decide_eq_true c9; have c9b1 : decide (0 < (rd_L2 l0 x4_1).length) = true := decide_eq_true (by omega); clear c9
             by_cases c10 : ((rd_L1 (rd_L2 l0 x4_1) x5_2).length : Int) = ((rd_L1 (rd_L2 l0 x4_1) 0).length : Int)
             ·rw [if_pos c10] at H
              obtain ⟨c10b0, c10b1⟩ := be_ c10
              have c10b2 : ((rd_L1 (rd_L2 l0 x4_1) x5_2).length == (rd_L1 (rd_L2 l0 x4_1) 0).length) = true := by first | simpa using c10 | (simp at c10 ⊢; omega)
              clear c10; have H' := A_ H; clear H; have p140 : 0 ≤ (x4_1 : Int) := od_; have q140 : x4_1 < (l0.length : Int) := od_; obtain ⟨ad140, A140_0, c140_0, e140, hx140_0, hl140_0, hi140_0⟩ := at_L2 HR0.out x4_1 p140 q140
              cases e140
              have HR140_0 := A_ hi140_0; have HC140_0 := A_ hl140_0; clear hi140_0 hl140_0; replace p140 := eq_true p140; replace q140 := eq_true q140; have p141 : 0 ≤ (x4_1 : Int) := od_; have q141 : x4_1 < (l0.length : Int) := od_; obtain ⟨ad141, A141_0, c141_0, e141, hx141_0, hl141_0, hi141_0⟩ := at_L2 HR0.out x4_1 p141 q141; obtain rfl : ad140 = ad141 := (by injection e141); have HR141_0 := A_ hi141_0; have HC141_0 := A_ hl141_0; clear hi141_0 hl141_0; replace p141 := eq_true p141; replace q141 := eq_true q141; have ea_ := Option.some.inj (hx140_0.symm.trans hx141_0)
              injection ea_ with ea_ en_ ec_
              subst ea_; subst ec_; clear en_; have p142 : 0 ≤ (x5_2 : Int) := od_; have q142 : x5_2 < ((rd_L2 l0 x4_1).length : Int) := od_; obtain ⟨ad142, A142_0, c142_0, e142, hx142_0, hl142_0, hi142_0⟩ := at_L1 HR141_0.out x5_2 p142 q142
              cases e142
              have HR142_0 := A_ hi142_0; have HC142_0 := A_ hl142_0; clear hi142_0 hl142_0; replace p142 := eq_true p142; replace q142 := eq_true q142; have p143 : 0 ≤ (x4_1 : Int) := od_; have q143 : x4_1 < (l0.length : Int) := od_; obtain ⟨ad143, A143_0, c143_0, e143, hx143_0, hl143_0, hi143_0⟩ := at_L2 HR0.out x4_1 p143 q143; obtain rfl : ad140 = ad143 := (by injection e143); have HR143_0 := A_ hi143_0; have HC143_0 := A_ hl143_0; clear hi143_0 hl143_0; replace p143 := eq_true p143; replace q143 := eq_true q143; have ea_ := Option.some.inj (hx140_0.symm.trans hx143_0)
              injection ea_ with ea_ en_ ec_
              subst ea_; subst ec_; clear en_; have p144 : 0 ≤ (x5_2 : Int) := od_; have q144 : x5_2 < ((rd_L2 l0 x4_1).length : Int) := od_; obtain ⟨ad144, A144_0, c144_0, e144, hx144_0, hl144_0, hi144_0⟩ := at_L1 HR143_0.out x5_2 p144 q144
              cases e144
              have HR144_0 := A_ hi144_0; have HC144_0 := A_ hl144_0; clear hi144_0 hl144_0; replace p144 := eq_true p144; replace q144 := eq_true q144; have p145 : 0 ≤ (x4_1 : Int) := od_; have q145 : x4_1 < (l0.length : Int) := od_; obtain ⟨ad145, A145_0, c145_0, e145, hx145_0, hl145_0, hi145_0⟩ := at_L2 HR0.out x4_1 p145 q145; obtain rfl : ad140 = ad145 := (by injection e145); have HR145_0 := A_ hi145_0; have HC145_0 := A_ hl145_0; clear hi145_0 hl145_0; replace p145 := eq_true p145; replace q145 := eq_true q145; have ea_ := Option.some.inj (hx140_0.symm.trans hx145_0)
              injection ea_ with ea_ en_ ec_
              subst ea_; subst ec_; clear en_; have p146 : 0 ≤ (x5_2 : Int) := od_; have q146 : x5_2 < ((rd_L2 l0 x4_1).length : Int) := od_; obtain ⟨ad146, A146_0, c146_0, e146, hx146_0, hl146_0, hi146_0⟩ := at_L1 HR145_0.out x5_2 p146 q146
              cases e146
              have HR146_0 := A_ hi146_0; have HC146_0 := A_ hl146_0; clear hi146_0 hl146_0; replace p146 := eq_true p146; replace q146 := eq_true q146; have p147 : 0 ≤ (x4_1 : Int) := od_; have q147 : x4_1 < (l0.length : Int) := od_; obtain ⟨ad147, A147_0, c147_0, e147, hx147_0, hl147_0, hi147_0⟩ := at_L2 HR0.out x4_1 p147 q147; obtain rfl : ad140 = ad147 := (by injection e147); have HR147_0 := A_ hi147_0; have HC147_0 := A_ hl147_0; clear hi147_0 hl147_0; replace p147 := eq_true p147; replace q147 := eq_true q147; have ea_ := Option.some.inj (hx140_0.symm.trans hx147_0)
              injection ea_ with ea_ en_ ec_
              subst ea_; subst ec_; clear en_; have p148 : 0 ≤ (0 : Int) := (by omega); have q148 : 0 < ((rd_L2 l0 x4_1).length : Int) := od_; obtain ⟨ad148, A148_0, c148_0, e148, hx148_0, hl148_0, hi148_0⟩ := at_L1 HR147_0.out 0 p148 q148
              cases e148
              have qi148 : (0 < (rd_L2 l0 x4_1).length) = True := eq_true (by omega)
              (try rw [show ((0 : Int)).toNat = 0 from rfl] at hx148_0)
              (try rw [Addr.add_zero'] at hx148_0)
              have HR148_0 := A_ hi148_0; have HC148_0 := A_ hl148_0; clear hi148_0 hl148_0; replace p148 := eq_true p148; replace q148 := eq_true q148; go_wp2
              repeat (go_quiet (fail); try go_wp2)
              go_roundg k2
              case measure => have := HK1.out; have := HK2.out; omega
              case rel => exact ⟨(wrap64 (x3_2 + 1)), (wrap64 (x5_2 + 1)), rf_, rf_, H', ⟨by have := HK1.out; have := HK2.out; omega⟩, by repeat (first | exact Drawn0.refl _ | apply Drawn0.step)⟩
             ·rw [if_neg c10] at H
              obtain ⟨c10b0, c10b1⟩ := bn_ c10
              have c10b2 : ((rd_L1 (rd_L2 l0 x4_1) x5_2).length == (rd_L1 (rd_L2 l0 x4_1) 0).length) = false := by first | simpa using c10 | (simp at c10 ⊢; omega)
              obtain rfl := Option.some.inj H; have p140 : 0 ≤ (x4_1 : Int) := od_; have q140 : x4_1 < (l0.length : Int) := od_; obtain ⟨ad140, A140_0, c140_0, e140, hx140_0, hl140_0, hi140_0⟩ := at_L2 HR0.out x4_1 p140 q140
              cases e140
              have HR140_0 := A_ hi140_0; have HC140_0 := A_ hl140_0; clear hi140_0 hl140_0; replace p140 := eq_true p140; replace q140 := eq_true q140; have p141 : 0 ≤ (x4_1 : Int) := od_; have q141 : x4_1 < (l0.length : Int) := od_; obtain ⟨ad141, A141_0, c141_0, e141, hx141_0, hl141_0, hi141_0⟩ := at_L2 HR0.out x4_1 p141 q141; obtain rfl : ad140 = ad141 := (by injection e141); have HR141_0 := A_ hi141_0; have HC141_0 := A_ hl141_0; clear hi141_0 hl141_0; replace p141 := eq_true p141; replace q141 := eq_true q141; have ea_ := Option.some.inj (hx140_0.symm.trans hx141_0)
              injection ea_ with ea_ en_ ec_
              subst ea_; subst ec_; clear en_; have p142 : 0 ≤ (x5_2 : Int) := od_; have q142 : x5_2 < ((rd_L2 l0 x4_1).length : Int) := od_; obtain ⟨ad142, A142_0, c142_0, e142, hx142_0, hl142_0, hi142_0⟩ := at_L1 HR141_0.out x5_2 p142 q142
              cases e142
              have HR142_0 := A_ hi142_0; have HC142_0 := A_ hl142_0; clear hi142_0 hl142_0; replace p142 := eq_true p142; replace q142 := eq_true q142; have p143 : 0 ≤ (x4_1 : Int) := od_; have q143 : x4_1 < (l0.length : Int) := od_; obtain ⟨ad143, A143_0, c143_0, e143, hx143_0, hl143_0, hi143_0⟩ := at_L2 HR0.out x4_1 p143 q143; obtain rfl : ad140 = ad143 := (by injection e143); have HR143_0 := A_ hi143_0; have HC143_0 := A_ hl143_0; clear hi143_0 hl143_0; replace p143 := eq_true p143; replace q143 := eq_true q143; have ea_ := Option.some.inj (hx140_0.symm.trans hx143_0)
              injection ea_ with ea_ en_ ec_
              subst ea_; subst ec_; clear en_; have p144 : 0 ≤ (x5_2 : Int) := od_; have q144 : x5_2 < ((rd_L2 l0 x4_1).length : Int) := od_; obtain ⟨ad144, A144_0, c144_0, e144, hx144_0, hl144_0, hi144_0⟩ := at_L1 HR143_0.out x5_2 p144 q144
              cases e144
              have HR144_0 := A_ hi144_0; have HC144_0 := A_ hl144_0; clear hi144_0 hl144_0; replace p144 := eq_true p144; replace q144 := eq_true q144; have p145 : 0 ≤ (x4_1 : Int) := od_; have q145 : x4_1 < (l0.length : Int) := od_; obtain ⟨ad145, A145_0, c145_0, e145, hx145_0, hl145_0, hi145_0⟩ := at_L2 HR0.out x4_1 p145 q145; obtain rfl : ad140 = ad145 := (by injection e145); have HR145_0 := A_ hi145_0; have HC145_0 := A_ hl145_0; clear hi145_0 hl145_0; replace p145 := eq_true p145; replace q145 := eq_true q145; have ea_ := Option.some.inj (hx140_0.symm.trans hx145_0)
              injection ea_ with ea_ en_ ec_
              subst ea_; subst ec_; clear en_; have p146 : 0 ≤ (x5_2 : Int) := od_; have q146 : x5_2 < ((rd_L2 l0 x4_1).length : Int) := od_; obtain ⟨ad146, A146_0, c146_0, e146, hx146_0, hl146_0, hi146_0⟩ := at_L1 HR145_0.out x5_2 p146 q146
              cases e146
              have HR146_0 := A_ hi146_0; have HC146_0 := A_ hl146_0; clear hi146_0 hl146_0; replace p146 := eq_true p146; replace q146 := eq_true q146; have p147 : 0 ≤ (x4_1 : Int) := od_; have q147 : x4_1 < (l0.length : Int) := od_; obtain ⟨ad147, A147_0, c147_0, e147, hx147_0, hl147_0, hi147_0⟩ := at_L2 HR0.out x4_1 p147 q147; obtain rfl : ad140 = ad147 := (by injection e147); have HR147_0 := A_ hi147_0; have HC147_0 := A_ hl147_0; clear hi147_0 hl147_0; replace p147 := eq_true p147; replace q147 := eq_true q147; have ea_ := Option.some.inj (hx140_0.symm.trans hx147_0)
              injection ea_ with ea_ en_ ec_
              subst ea_; subst ec_; clear en_; have p148 : 0 ≤ (0 : Int) := (by omega); have q148 : 0 < ((rd_L2 l0 x4_1).length : Int) := od_; obtain ⟨ad148, A148_0, c148_0, e148, hx148_0, hl148_0, hi148_0⟩ := at_L1 HR147_0.out 0 p148 q148
              cases e148
              have qi148 : (0 < (rd_L2 l0 x4_1).length) = True := eq_true (by omega)
              (try rw [show ((0 : Int)).toNat = 0 from rfl] at hx148_0)
              (try rw [Addr.add_zero'] at hx148_0)
              have HR148_0 := A_ hi148_0; have HC148_0 := A_ hl148_0; clear hi148_0 hl148_0; replace p148 := eq_true p148; replace q148 := eq_true q148; go_wp2
              repeat (go_quiet (fail); try go_wp2)
              go_ret; exact ⟨by first | rfl | (simp; done) | (simp [*]; done), by repeat (first | exact Drawn0.refl _ | apply Drawn0.step)⟩
            (· rw [if_neg c9] at H; exact absurd H (by simp))
         (· rw [if_neg c6] at H; exact absurd H (by simp))
        ·rw [if_neg c5] at H
         have c5b0 := decide_eq_false c5; clear c5; have H' := A_ H; clear H; have p140 : 0 ≤ (x4_1 : Int) := od_; have q140 : x4_1 < (l0.length : Int) := od_; obtain ⟨ad140, A140_0, c140_0, e140, hx140_0, hl140_0, hi140_0⟩ := at_L2 HR0.out x4_1 p140 q140
         cases e140
         have HR140_0 := A_ hi140_0; have HC140_0 := A_ hl140_0; clear hi140_0 hl140_0; replace p140 := eq_true p140; replace q140 := eq_true q140; go_wp2
         repeat (go_quiet (fail); try go_wp2)
         go_roundg k2
         case measure => have := HK1.out; have := HK2.out; omega
         case rel => exact ⟨(x3_2), (wrap64 (x4_1 + 1)), rf_, rf_, H', ⟨by have := HK1.out; have := HK2.out; omega⟩, by repeat (first | exact Drawn0.refl _ | apply Drawn0.step)⟩
       (· rw [if_neg c4] at H; exact absurd H (by simp))
      (· rw [if_neg c3] at H; exact absurd H (by simp))
   ·rw [if_neg c2] at H
    have c2b0 := decide_eq_false c2; clear c2
    by_cases c11 : (l0.length : Int) ≤ 6
    ·rw [if_pos c11] at H
     have c11b0 := decide_eq_true c11; have c11b1 : decide (l0.length ≤ 6) = true := decide_eq_true (by omega); clear c11; obtain rfl := Option.some.inj H; go_wp2
     repeat (go_quiet (fail); try go_wp2)
     go_ret; exact ⟨by first | rfl | (simp; done) | (simp [*]; done), by repeat (first | exact Drawn0.refl _ | apply Drawn0.step)⟩
    ·rw [if_neg c11] at H
     have c11b0 := decide_eq_false c11; have c11b1 : decide (l0.length ≤ 6) = false := decide_eq_false (by omega); clear c11; obtain rfl := Option.some.inj H; go_wp2
     repeat (go_quiet (fail); try go_wp2)
     go_ret; exact ⟨by first | rfl | (simp; done) | (simp [*]; done), by repeat (first | exact Drawn0.refl _ | apply Drawn0.step)⟩
mutual
def dioramaref36_List.l0 : Nat → Int → List (List Int) → List (List Int) → Int → List (S76) → Int → Option ((List (S76)))
 | 0, _, _, _, _, _, _ => none
 | k + 1, x0, x1, x2, x3, x9, x10 => if x10 < x3 then (dioramaref36_List.l1 k x0 x1 x2 x3 x9 x10 0) else (dioramaref36_List.l2 k x0 x1 x2 x3 x9 (wrap64 ((x1.length : Int) - 1)))
def dioramaref36_List.l1 : Nat → Int → List (List Int) → List (List Int) → Int → List (S76) → Int → Int → Option ((List (S76)))
 | 0, _, _, _, _, _, _, _ => none
 | k + 1, x0, x1, x2, x3, x9, x10, x11 => if 0 ≤ x10 then (if x10 < (x1.length : Int) then (if x11 < ((rd_L1 x1 x10).length : Int) then (if 0 ≤ x11 then (if x10 < (x2.length : Int) then (if x11 < ((rd_L1 x2 x10).length : Int) then (if (rd (rd_L1 x1 x10) x11) = (rd (rd_L1 x2 x10) x11) then (dioramaref36_List.l1 k x0 x1 x2 x3 x9 x10 (wrap64 (x11 + 1))) else (if x9.length < 2199023255552 then (dioramaref36_List.l1 k x0 x1 x2 x3 (x9 ++ [(⟨x0, x10, x11, rd (rd_L1 x1 x10) x11, rd (rd_L1 x2 x10) x11, ([] : List Int)⟩ : S76)]) x10 (wrap64 (x11 + 1))) else (none))) else (none)) else (none)) else (none)) else (dioramaref36_List.l0 k x0 x1 x2 x3 x9 (wrap64 (x10 + 1)))) else (none)) else (none)
def dioramaref36_List.l2 : Nat → Int → List (List Int) → List (List Int) → Int → List (S76) → Int → Option ((List (S76)))
 | 0, _, _, _, _, _, _ => none
 | k + 1, x0, x1, x2, x3, x9, x12 => if x12 ≥ x3 then (if 0 ≤ x12 then (if x12 < (x1.length : Int) then (if x9.length < 2199023255552 then (dioramaref36_List.l2 k x0 x1 x2 x3 (x9 ++ [(⟨x0, x12, (-2), 0, 0, rd_L1 x1 x12⟩ : S76)]) (wrap64 (x12 - 1))) else (none)) else (none)) else (none)) else (dioramaref36_List.l3 k x0 x2 x9 x3)
def dioramaref36_List.l3 : Nat → Int → List (List Int) → List (S76) → Int → Option ((List (S76)))
 | 0, _, _, _, _ => none
 | k + 1, x0, x2, x9, x13 => if x13 < (x2.length : Int) then (if 0 ≤ x13 then (if x9.length < 2199023255552 then (dioramaref36_List.l3 k x0 x2 (x9 ++ [(⟨x0, x13, (-1), 0, 0, rd_L1 x2 x13⟩ : S76)]) (wrap64 (x13 + 1))) else (none)) else (none)) else (some x9)
end
def dioramaref36_List.f (k : Nat) (a0 : Int) (l1 : List (List Int)) (l2 : List (List Int)) (a3 : Int) : Option ((List (S76))) := dioramaref36_List.l0 k a0 l1 l2 a3 ([] : List (S76)) 0
def dioramaref36_List.T8 : Bool × List (List Nat × List Nat) := (true, [([], []), ([], []), ([0, 1], [0, 1]), ([2], [2]), ([], []), ([3, 4], [3, 4]), ([5], [5]), ([], []), ([], []), ([7, 8], [7, 8]), ([9], [9]), ([], []), ([10, 11], [10, 11]), ([12], [12]), ([6, 13], [6, 13])])
def dioramaref36_List.B8 : List Nat := [0, 0, 3, 7, 0, 31, 63, 0, 0, 384, 896, 0, 3968, 8064, 16383]
theorem dioramaref36_List.tab8 : rtab .any (opsOf Try.f41 8) = dioramaref36_List.T8 := by kernel_rfl
theorem dioramaref36_List.bits8 : waitsOk dioramaref36_List.T8.2 dioramaref36_List.B8 = true := by kernel_rfl
def dioramaref36_List.T9 : Bool × List (List Nat × List Nat) := (true, [([], []), ([], []), ([], []), ([], []), ([], []), ([], []), ([4, 5], [4, 5]), ([6], [6]), ([], []), ([7, 8], [7, 8]), ([9], [9]), ([], []), ([], []), ([11, 12], [11, 12]), ([13], [13]), ([], []), ([14, 15], [14, 15]), ([16], [16]), ([1, 2, 3, 10, 17], [1, 2, 3, 10, 17]), ([18], [18]), ([0, 19], [0, 19]), ([20, 20, 0, 1, 2, 3, 4, 5, 6, 7, 8, 9, 10, 11, 12, 13, 14, 15, 16, 17, 18, 19, 20], [0, 20])])
def dioramaref36_List.B9 : List Nat := [0, 0, 0, 0, 0, 0, 48, 112, 0, 496, 1008, 0, 0, 6144, 14336, 0, 63488, 129024, 262142, 524286, 1048575, 2097151]
theorem dioramaref36_List.tab9 : rtab .any (opsOf Try.f41 9) = dioramaref36_List.T9 := by kernel_rfl
theorem dioramaref36_List.bits9 : waitsOk dioramaref36_List.T9.2 dioramaref36_List.B9 = true := by kernel_rfl
set_option maxHeartbeats 8000000 in
set_option maxRecDepth 100000 in
theorem dioramaref36_List.calls (k : Nat) (a0 : Int) (P1_ : Nat → Prop) (A1 : Option Addr) (c1 : Nat) (l1 : List (List Int)) (P2_ : Nat → Prop) (A2 : Option Addr) (c2 : Nat) (l2 : List (List Int)) (a3 : Int) (r : List (S76)) (w : World) (hs1 : Kd.V (Kd.slice 3 (Kd.int .i64)) 22 w w.heap.size (fun k_ => P1_ k_) (.slice A1 l1.length c1) l1) (hs2 : Kd.V (Kd.slice 3 (Kd.int .i64)) 22 w w.heap.size (fun k_ => P2_ k_) (.slice A2 l2.length c2) l2) (h : dioramaref36_List.f k a0 l1 l2 a3 = some r) :
  Calls Try.prog 41 #[.int .i64 a0, .slice A1 l1.length c1, .slice A2 l2.length c2, .int .i64 a3] w fun e w' => ∃ v0_ : Value, e = .returned (v0_) ∧ Kd.N k76 76 w' w.heap.size (fun k_ => ((P1_ k_ ∨ P2_ k_) ∨ w.heap.size ≤ k_)) v0_ r ∧ Below w.heap.size w w' := by
 have hu76 := Try.underlying76; have HO1 := A_ (show Kd.V (Kd.slice 3 (Kd.int .i64)) 22 w w.heap.size (fun k_ => ((P1_ k_ ∨ P2_ k_) ∨ w.heap.size ≤ k_)) (.slice A1 l1.length c1) l1 from Kd.V_mono hs1 (fun k_ hk => .inl (.inl hk))); have HO2 := A_ (show Kd.V (Kd.slice 3 (Kd.int .i64)) 22 w w.heap.size (fun k_ => ((P1_ k_ ∨ P2_ k_) ∨ w.heap.size ≤ k_)) (.slice A2 l2.length c2) l2 from Kd.V_mono hs2 (fun k_ hk => .inl (.inr hk))); have HB := A_ (Below.refl w.heap.size w); have H : (dioramaref36_List.l0 k a0 l1 l2 a3 ([] : List (S76)) 0) = some r := h; clear h; have H' := A_ H; clear H
 go_enter Try.func41, Try.ntmps41
 go_wp2
 go_loopg [9, 10] k (fun kq v9 v10 w' => ∃ (x9_1 : List (S76)) (x10_1 : Int), v10 = .int .i64 x10_1 ∧ Aside0 (dioramaref36_List.l0 kq a0 l1 l2 a3 x9_1 x10_1 = some r) ∧ Aside0 (kq ≤ k) ∧ Aside0 (Kd.V (Kd.slice 3 (Kd.int .i64)) 22 w' w.heap.size (fun k_ => ((P1_ k_ ∨ P2_ k_) ∨ w.heap.size ≤ k_) ∧ some k_ ≠ (v9 : Value).ownBlock) (.slice A1 l1.length c1) l1) ∧ Aside0 (Kd.V (Kd.slice 3 (Kd.int .i64)) 22 w' w.heap.size (fun k_ => ((P1_ k_ ∨ P2_ k_) ∨ w.heap.size ≤ k_) ∧ some k_ ≠ (v9 : Value).ownBlock) (.slice A2 l2.length c2) l2) ∧ Aside0 (Kd.N k76 76 w' w.heap.size (fun k_ => ((P1_ k_ ∨ P2_ k_) ∨ w.heap.size ≤ k_)) v9 x9_1) ∧ Aside0 (Below w.heap.size w w'))
 case atStart => exact ⟨(([] : List (S76))), (0), rf_, H', ⟨Nat.le_refl _⟩, ⟨by (with_reducible repeat (first | apply Kd.V_alloc | apply Kd.V_drewN | apply Kd.V_drew)); exact Kd.V_mono HO1.out (fun _ hk => ⟨hk, (by simp [Value.ownBlock])⟩)⟩, ⟨by (with_reducible repeat (first | apply Kd.V_alloc | apply Kd.V_drewN | apply Kd.V_drew)); exact Kd.V_mono HO2.out (fun _ hk => ⟨hk, (by simp [Value.ownBlock])⟩)⟩, ⟨by first | exact Kd.S_nil _ _ _ _ _ | exact Kd.N_nil _ _ _ _ _ | exact Kd.V_nil _ _ _ _ _ | exact Kd.Q_nil _ _ _ _ _ | exact Kd.R_nil _ _ _ _ _⟩, ⟨bx_ HB⟩⟩
 case round =>
  clear H'
  try clear c1
  try clear c2
  obtain ⟨x9_1, x10_1, rfl, HA, HK1, HO_1, HO_2, HO_9, HB⟩ := hrel
  cases gk with
  | zero => exact absurd HA.out (by simp [dioramaref36_List.l0])
  | succ k1 =>
   have H := HA.out; clear HA; simp only [dioramaref36_List.l0] at H
   by_cases c5 : x10_1 < a3
   ·rw [if_pos c5] at H
    have c5b0 := decide_eq_true c5; clear c5; have H' := A_ H; clear H; go_wp2
    go_loopg [9, 11] k1 (fun kq v9 v11 w' => ∃ (x9_2 : List (S76)) (x11_2 : Int), v11 = .int .i64 x11_2 ∧ Aside0 (dioramaref36_List.l1 kq a0 l1 l2 a3 x9_2 x10_1 x11_2 = some r) ∧ Aside0 (kq ≤ k1) ∧ Aside0 (Kd.V (Kd.slice 3 (Kd.int .i64)) 22 w' w.heap.size (fun k_ => ((P1_ k_ ∨ P2_ k_) ∨ w.heap.size ≤ k_) ∧ some k_ ≠ (v9 : Value).ownBlock) (.slice A1 l1.length c1) l1) ∧ Aside0 (Kd.V (Kd.slice 3 (Kd.int .i64)) 22 w' w.heap.size (fun k_ => ((P1_ k_ ∨ P2_ k_) ∨ w.heap.size ≤ k_) ∧ some k_ ≠ (v9 : Value).ownBlock) (.slice A2 l2.length c2) l2) ∧ Aside0 (Kd.N k76 76 w' w.heap.size (fun k_ => ((P1_ k_ ∨ P2_ k_) ∨ w.heap.size ≤ k_)) v9 x9_2) ∧ Aside0 (Below w.heap.size w w'))
    case atStart => exact ⟨(x9_1), (0), rf_, H', ⟨Nat.le_refl _⟩, ⟨by (with_reducible repeat (first | apply Kd.V_alloc | apply Kd.V_drewN | apply Kd.V_drew)); exact HO_1.out⟩, ⟨by (with_reducible repeat (first | apply Kd.V_alloc | apply Kd.V_drewN | apply Kd.V_drew)); exact HO_2.out⟩, ⟨by (with_reducible repeat (first | apply Kd.N_alloc | apply Kd.N_drewN | apply Kd.N_drew)); exact HO_9.out⟩, ⟨bx_ HB⟩⟩
    case round =>
     clear H'
     try clear c1
     try clear c2
     try clear c5
     try clear c5b0
     obtain ⟨x9_2, x11_2, rfl, HA, HK2, HO_1, HO_2, HO_9, HB⟩ := hrel
     cases gk with
     | zero => exact absurd HA.out (by simp [dioramaref36_List.l1])
     | succ k2 =>
      have H := HA.out; clear HA; simp only [dioramaref36_List.l1] at H
      by_cases c6 : 0 ≤ x10_1
      ·rw [if_pos c6] at H
       have c6b0 := decide_eq_true c6; clear c6
       by_cases c7 : x10_1 < (l1.length : Int)
       ·rw [if_pos c7] at H
        have c7b0 := decide_eq_true c7; clear c7
        by_cases c8 : x11_2 < ((rd_L1 l1 x10_1).length : Int)
        ·rw [if_pos c8] at H
         have c8b0 := decide_eq_true c8; clear c8
         by_cases c9 : 0 ≤ x11_2
         ·rw [if_pos c9] at H
          have c9b0 := decide_eq_true c9; clear c9
          by_cases c10 : x10_1 < (l2.length : Int)
          ·rw [if_pos c10] at H
           have c10b0 := decide_eq_true c10; clear c10
           by_cases c11 : x11_2 < ((rd_L1 l2 x10_1).length : Int)
           ·rw [if_pos c11] at H
            have c11b0 := decide_eq_true c11; clear c11
            by_cases c12 : (rd (rd_L1 l1 x10_1) x11_2) = (rd (rd_L1 l2 x10_1) x11_2)
            ·rw [if_pos c12] at H
             obtain ⟨c12b0, c12b1⟩ := be_ c12; clear c12; have H' := A_ H; clear H; have p149 : 0 ≤ (x10_1 : Int) := od_; have q149 : x10_1 < (l1.length : Int) := od_; obtain ⟨ad149, A149_0, c149_0, e149, hx149_0, hl149_0, hi149_0⟩ := at_L1 (Kd.V_reads' HO_1.out).2.2 x10_1 p149 q149
             cases e149
             obtain ⟨ce149, hce149, hMe149, hcc149⟩ := Kd.V_get HO_1.out [] x10_1 p149 (by first | exact q149 | exact od_ | (have e_ := (Kd.V_reads' HO_1.out).1; omega)); obtain ⟨ua149_0, uc149_0, rfl, ul149_0, ge149_0⟩ := Kd.FK_slice_open hMe149; have hv149_0 := hcc149 0 _ rfl; rw [Nat.add_zero, show ((Kd.slice 3 (Kd.int .i64))).sz = 1 from rfl, Nat.mul_one] at hv149_0; replace hv149_0 := Option.some.inj (hv149_0.symm.trans hx149_0)
             injection hv149_0 with hva_ hvn_ hvc_
             rw [hva_] at ge149_0; rw [hvc_] at ul149_0; have HL149_0 := A_ (show Kd.V (Kd.int .i64) 3 _ w.heap.size _ _ (rd_L1 l1 x10_1) from Kd.V_mk ul149_0 ge149_0); clear hva_ hvn_ hvc_ ge149_0 ul149_0 hcc149 hce149; have HR149_0 := A_ hi149_0; have HC149_0 := A_ hl149_0; clear hi149_0 hl149_0; replace p149 := eq_true p149; replace q149 := eq_true q149
             try go_wp2
             replace HO_1 := A_ (Kd.V_drew HO_1.out); replace HO_2 := A_ (Kd.V_drew HO_2.out); replace HO_9 := A_ (Kd.N_drew HO_9.out); replace HL149_0 := A_ (Kd.V_drew HL149_0.out); replace HR149_0 := A_ (Kd.C_drew HR149_0.out); replace HB := A_ (below_drew1 HB.out); have p150 : 0 ≤ (x10_1 : Int) := od_; have q150 : x10_1 < (l1.length : Int) := od_; obtain ⟨ad150, A150_0, c150_0, e150, hx150_0, hl150_0, hi150_0⟩ := at_L1 (Kd.V_reads' HO_1.out).2.2 x10_1 p150 q150; obtain rfl : ad149 = ad150 := (by injection e150); obtain ⟨ce150, hce150, hMe150, hcc150⟩ := Kd.V_get HO_1.out [] x10_1 p150 (by first | exact q150 | exact od_ | (have e_ := (Kd.V_reads' HO_1.out).1; omega)); obtain ⟨ua150_0, uc150_0, rfl, ul150_0, ge150_0⟩ := Kd.FK_slice_open hMe150; have hv150_0 := hcc150 0 _ rfl; rw [Nat.add_zero, show ((Kd.slice 3 (Kd.int .i64))).sz = 1 from rfl, Nat.mul_one] at hv150_0; replace hv150_0 := Option.some.inj (hv150_0.symm.trans hx150_0)
             injection hv150_0 with hva_ hvn_ hvc_
             rw [hva_] at ge150_0; rw [hvc_] at ul150_0; have HL150_0 := A_ (show Kd.V (Kd.int .i64) 3 _ w.heap.size _ _ (rd_L1 l1 x10_1) from Kd.V_mk ul150_0 ge150_0); clear hva_ hvn_ hvc_ ge150_0 ul150_0 hcc150 hce150; have HR150_0 := A_ hi150_0; have HC150_0 := A_ hl150_0; clear hi150_0 hl150_0; replace p150 := eq_true p150; replace q150 := eq_true q150; have p151 : 0 ≤ (x11_2 : Int) := od_; have q151 : x11_2 < ((rd_L1 l1 x10_1).length : Int) := od_; obtain ⟨ad151, e151, hx151_0⟩ := Kd.at_int (cx_ HR150_0) x11_2 p151 q151
             cases e151
             replace p151 := eq_true p151; replace q151 := eq_true q151; have p152 : 0 ≤ (x10_1 : Int) := od_; have q152 : x10_1 < (l2.length : Int) := od_; obtain ⟨ad152, A152_0, c152_0, e152, hx152_0, hl152_0, hi152_0⟩ := at_L1 (Kd.V_reads' HO_2.out).2.2 x10_1 p152 q152
             cases e152
             obtain ⟨ce152, hce152, hMe152, hcc152⟩ := Kd.V_get HO_2.out [] x10_1 p152 (by first | exact q152 | exact od_ | (have e_ := (Kd.V_reads' HO_2.out).1; omega)); obtain ⟨ua152_0, uc152_0, rfl, ul152_0, ge152_0⟩ := Kd.FK_slice_open hMe152; have hv152_0 := hcc152 0 _ rfl; rw [Nat.add_zero, show ((Kd.slice 3 (Kd.int .i64))).sz = 1 from rfl, Nat.mul_one] at hv152_0; replace hv152_0 := Option.some.inj (hv152_0.symm.trans hx152_0)
             injection hv152_0 with hva_ hvn_ hvc_
             rw [hva_] at ge152_0; rw [hvc_] at ul152_0; have HL152_0 := A_ (show Kd.V (Kd.int .i64) 3 _ w.heap.size _ _ (rd_L1 l2 x10_1) from Kd.V_mk ul152_0 ge152_0); clear hva_ hvn_ hvc_ ge152_0 ul152_0 hcc152 hce152; have HR152_0 := A_ hi152_0; have HC152_0 := A_ hl152_0; clear hi152_0 hl152_0; replace p152 := eq_true p152; replace q152 := eq_true q152; have p153 : 0 ≤ (x11_2 : Int) := od_; have q153 : x11_2 < ((rd_L1 l2 x10_1).length : Int) := od_; obtain ⟨ad153, e153, hx153_0⟩ := Kd.at_int (cx_ HR152_0) x11_2 p153 q153
             cases e153
             replace p153 := eq_true p153; replace q153 := eq_true q153; refine start_ (n := 15) (S := fun w' => w'.cell? (ad149.add (x10_1).toNat) = some (.slice (some ad151) (rd_L1 l1 x10_1).length c150_0) ∧ w'.cell? (ad151.add (x11_2).toNat) = some (.int .i64 (rd (rd_L1 l1 x10_1) x11_2)) ∧ w'.cell? (ad152.add (x10_1).toNat) = some (.slice (some ad153) (rd_L1 l2 x10_1).length c152_0) ∧ w'.cell? (ad153.add (x11_2).toNat) = some (.int .i64 (rd (rd_L1 l2 x10_1) x11_2))) (ds := []) (B_ 15 0) (by kernel_rfl) rfl rfl ⟨hx150_0, hx151_0, hx152_0, hx153_0⟩ (fun hHeld => ?_); refine with_tabW dioramaref36_List.tab8 dioramaref36_List.bits8 (fun HT_ HW_ => ?_); generalize wr.drew = w13 at HO_1 HO_2 HO_9 HL149_0 HR149_0 HB HL150_0 HL152_0 HR150_0 HR152_0 hx150_0 hx151_0 hx152_0 hx153_0 hHeld ⊢; refine pT_ 0 28 (B_ 15 1) HT_ ?_; refine pT_ 1 29 (B_ 15 3) HT_ ?_; refine pT_ 2 30 (B_ 15 7) HT_ ?_; refine pT_ 4 32 (B_ 15 23) HT_ ?_; refine pT_ 7 35 (B_ 15 151) HT_ ?_; refine pT_ 8 36 (B_ 15 407) HT_ ?_; refine pT_ 9 37 (B_ 15 919) HT_ ?_; refine pT_ 11 39 (B_ 15 2967) HT_ ?_; refine tT_ 3 31 (B_ 15 2975) HT_ HW_ hHeld ?_; refine pT_ 5 33 (B_ 15 3007) HT_ ?_; refine tT_ 6 34 (B_ 15 3071) HT_ HW_ hHeld ?_; refine tT_ 10 38 (B_ 15 4095) HT_ HW_ hHeld ?_; refine pT_ 12 40 (B_ 15 8191) HT_ ?_; refine tT_ 13 41 (B_ 15 16383) HT_ HW_ hHeld ?_; refine pT_ 14 42 (B_ 15 32767) HT_ ?_; refine done_ (done_of HT_.out (by kernel_rfl)) ?_
             try go_wp2
             go_roundg k2
             case measure => have := HK1.out; have := HK2.out; omega
             case rel => exact ⟨(x9_2), (wrap64 (x11_2 + 1)), rf_, H', ⟨by have := HK1.out; have := HK2.out; omega⟩, ⟨by (with_reducible repeat (first | apply Kd.V_alloc | apply Kd.V_drewN | apply Kd.V_drew)); exact HO_1.out⟩, ⟨by (with_reducible repeat (first | apply Kd.V_alloc | apply Kd.V_drewN | apply Kd.V_drew)); exact HO_2.out⟩, ⟨by (with_reducible repeat (first | apply Kd.N_alloc | apply Kd.N_drewN | apply Kd.N_drew)); exact HO_9.out⟩, ⟨bx_ HB⟩⟩
            ·rw [if_neg c12] at H
             obtain ⟨c12b0, c12b1⟩ := bn_ c12
             by_cases c14 : x9_2.length < 2199023255552
             ·rw [if_pos c14] at H
              have LMc14 := A_ c14; clear c14; obtain ⟨y158, hy158⟩ : ∃ y_ : List (S76), y_ = (x9_2 ++ [(⟨a0, x10_1, x11_2, rd (rd_L1 l1 x10_1) x11_2, rd (rd_L1 l2 x10_1) x11_2, ([] : List Int)⟩ : S76)]) := ⟨_, rfl⟩; replace H : (dioramaref36_List.l1 k2 a0 l1 l2 a3 y158 x10_1 (wrap64 (x11_2 + 1))) = some r := rh_ hy158 H; have Ny158 := A_ hy158; clear hy158; have H' := A_ H; clear H; have p149 : 0 ≤ (x10_1 : Int) := od_; have q149 : x10_1 < (l1.length : Int) := od_; obtain ⟨ad149, A149_0, c149_0, e149, hx149_0, hl149_0, hi149_0⟩ := at_L1 (Kd.V_reads' HO_1.out).2.2 x10_1 p149 q149
              cases e149
              obtain ⟨ce149, hce149, hMe149, hcc149⟩ := Kd.V_get HO_1.out [] x10_1 p149 (by first | exact q149 | exact od_ | (have e_ := (Kd.V_reads' HO_1.out).1; omega)); obtain ⟨ua149_0, uc149_0, rfl, ul149_0, ge149_0⟩ := Kd.FK_slice_open hMe149; have hv149_0 := hcc149 0 _ rfl; rw [Nat.add_zero, show ((Kd.slice 3 (Kd.int .i64))).sz = 1 from rfl, Nat.mul_one] at hv149_0; replace hv149_0 := Option.some.inj (hv149_0.symm.trans hx149_0)
              injection hv149_0 with hva_ hvn_ hvc_
              rw [hva_] at ge149_0; rw [hvc_] at ul149_0; have HL149_0 := A_ (show Kd.V (Kd.int .i64) 3 _ w.heap.size _ _ (rd_L1 l1 x10_1) from Kd.V_mk ul149_0 ge149_0); clear hva_ hvn_ hvc_ ge149_0 ul149_0 hcc149 hce149; have HR149_0 := A_ hi149_0; have HC149_0 := A_ hl149_0; clear hi149_0 hl149_0; replace p149 := eq_true p149; replace q149 := eq_true q149
              try go_wp2
              replace HO_1 := A_ (Kd.V_drew HO_1.out); replace HO_2 := A_ (Kd.V_drew HO_2.out); replace HO_9 := A_ (Kd.N_drew HO_9.out); replace HL149_0 := A_ (Kd.V_drew HL149_0.out); replace HR149_0 := A_ (Kd.C_drew HR149_0.out); replace HB := A_ (below_drew1 HB.out); have p150 : 0 ≤ (x10_1 : Int) := od_; have q150 : x10_1 < (l1.length : Int) := od_; obtain ⟨ad150, A150_0, c150_0, e150, hx150_0, hl150_0, hi150_0⟩ := at_L1 (Kd.V_reads' HO_1.out).2.2 x10_1 p150 q150; obtain rfl : ad149 = ad150 := (by injection e150); obtain ⟨ce150, hce150, hMe150, hcc150⟩ := Kd.V_get HO_1.out [] x10_1 p150 (by first | exact q150 | exact od_ | (have e_ := (Kd.V_reads' HO_1.out).1; omega)); obtain ⟨ua150_0, uc150_0, rfl, ul150_0, ge150_0⟩ := Kd.FK_slice_open hMe150; have hv150_0 := hcc150 0 _ rfl; rw [Nat.add_zero, show ((Kd.slice 3 (Kd.int .i64))).sz = 1 from rfl, Nat.mul_one] at hv150_0; replace hv150_0 := Option.some.inj (hv150_0.symm.trans hx150_0)
              injection hv150_0 with hva_ hvn_ hvc_
              rw [hva_] at ge150_0; rw [hvc_] at ul150_0; have HL150_0 := A_ (show Kd.V (Kd.int .i64) 3 _ w.heap.size _ _ (rd_L1 l1 x10_1) from Kd.V_mk ul150_0 ge150_0); clear hva_ hvn_ hvc_ ge150_0 ul150_0 hcc150 hce150; have HR150_0 := A_ hi150_0; have HC150_0 := A_ hl150_0; clear hi150_0 hl150_0; replace p150 := eq_true p150; replace q150 := eq_true q150; have p151 : 0 ≤ (x11_2 : Int) := od_; have q151 : x11_2 < ((rd_L1 l1 x10_1).length : Int) := od_; obtain ⟨ad151, e151, hx151_0⟩ := Kd.at_int (cx_ HR150_0) x11_2 p151 q151
              cases e151
              replace p151 := eq_true p151; replace q151 := eq_true q151; have p152 : 0 ≤ (x10_1 : Int) := od_; have q152 : x10_1 < (l2.length : Int) := od_; obtain ⟨ad152, A152_0, c152_0, e152, hx152_0, hl152_0, hi152_0⟩ := at_L1 (Kd.V_reads' HO_2.out).2.2 x10_1 p152 q152
              cases e152
              obtain ⟨ce152, hce152, hMe152, hcc152⟩ := Kd.V_get HO_2.out [] x10_1 p152 (by first | exact q152 | exact od_ | (have e_ := (Kd.V_reads' HO_2.out).1; omega)); obtain ⟨ua152_0, uc152_0, rfl, ul152_0, ge152_0⟩ := Kd.FK_slice_open hMe152; have hv152_0 := hcc152 0 _ rfl; rw [Nat.add_zero, show ((Kd.slice 3 (Kd.int .i64))).sz = 1 from rfl, Nat.mul_one] at hv152_0; replace hv152_0 := Option.some.inj (hv152_0.symm.trans hx152_0)
              injection hv152_0 with hva_ hvn_ hvc_
              rw [hva_] at ge152_0; rw [hvc_] at ul152_0; have HL152_0 := A_ (show Kd.V (Kd.int .i64) 3 _ w.heap.size _ _ (rd_L1 l2 x10_1) from Kd.V_mk ul152_0 ge152_0); clear hva_ hvn_ hvc_ ge152_0 ul152_0 hcc152 hce152; have HR152_0 := A_ hi152_0; have HC152_0 := A_ hl152_0; clear hi152_0 hl152_0; replace p152 := eq_true p152; replace q152 := eq_true q152; have p153 : 0 ≤ (x11_2 : Int) := od_; have q153 : x11_2 < ((rd_L1 l2 x10_1).length : Int) := od_; obtain ⟨ad153, e153, hx153_0⟩ := Kd.at_int (cx_ HR152_0) x11_2 p153 q153
              cases e153
              replace p153 := eq_true p153; replace q153 := eq_true q153; refine start_ (n := 15) (S := fun w' => w'.cell? (ad149.add (x10_1).toNat) = some (.slice (some ad151) (rd_L1 l1 x10_1).length c150_0) ∧ w'.cell? (ad151.add (x11_2).toNat) = some (.int .i64 (rd (rd_L1 l1 x10_1) x11_2)) ∧ w'.cell? (ad152.add (x10_1).toNat) = some (.slice (some ad153) (rd_L1 l2 x10_1).length c152_0) ∧ w'.cell? (ad153.add (x11_2).toNat) = some (.int .i64 (rd (rd_L1 l2 x10_1) x11_2))) (ds := []) (B_ 15 0) (by kernel_rfl) rfl rfl ⟨hx150_0, hx151_0, hx152_0, hx153_0⟩ (fun hHeld => ?_); refine with_tabW dioramaref36_List.tab8 dioramaref36_List.bits8 (fun HT_ HW_ => ?_); generalize wr.drew = w15 at HO_1 HO_2 HO_9 HL149_0 HR149_0 HB HL150_0 HL152_0 HR150_0 HR152_0 hx150_0 hx151_0 hx152_0 hx153_0 hHeld ⊢; refine pT_ 0 28 (B_ 15 1) HT_ ?_; refine pT_ 1 29 (B_ 15 3) HT_ ?_; refine pT_ 2 30 (B_ 15 7) HT_ ?_; refine pT_ 4 32 (B_ 15 23) HT_ ?_; refine pT_ 7 35 (B_ 15 151) HT_ ?_; refine pT_ 8 36 (B_ 15 407) HT_ ?_; refine pT_ 9 37 (B_ 15 919) HT_ ?_; refine pT_ 11 39 (B_ 15 2967) HT_ ?_; refine tT_ 3 31 (B_ 15 2975) HT_ HW_ hHeld ?_; refine pT_ 5 33 (B_ 15 3007) HT_ ?_; refine tT_ 6 34 (B_ 15 3071) HT_ HW_ hHeld ?_; refine tT_ 10 38 (B_ 15 4095) HT_ HW_ hHeld ?_; refine pT_ 12 40 (B_ 15 8191) HT_ ?_; refine tT_ 13 41 (B_ 15 16383) HT_ HW_ hHeld ?_; refine pT_ 14 42 (B_ 15 32767) HT_ ?_; refine done_ (done_of HT_.out (by kernel_rfl)) ?_
              try go_wp2
              replace HO_1 := A_ (Kd.V_drew HO_1.out); replace HO_2 := A_ (Kd.V_drew HO_2.out); replace HO_9 := A_ (Kd.N_drew HO_9.out); replace HL149_0 := A_ (Kd.V_drew HL149_0.out); replace HL150_0 := A_ (Kd.V_drew HL150_0.out); replace HL152_0 := A_ (Kd.V_drew HL152_0.out); replace HR149_0 := A_ (Kd.C_drew HR149_0.out); replace HR150_0 := A_ (Kd.C_drew HR150_0.out); replace HR152_0 := A_ (Kd.C_drew HR152_0.out); replace HB := A_ (below_drew1 HB.out); have p154 : 0 ≤ (x10_1 : Int) := od_; have q154 : x10_1 < (l1.length : Int) := od_; obtain ⟨ad154, A154_0, c154_0, e154, hx154_0, hl154_0, hi154_0⟩ := at_L1 (Kd.V_reads' HO_1.out).2.2 x10_1 p154 q154; obtain rfl : ad149 = ad154 := (by injection e154); obtain ⟨ce154, hce154, hMe154, hcc154⟩ := Kd.V_get HO_1.out [] x10_1 p154 (by first | exact q154 | exact od_ | (have e_ := (Kd.V_reads' HO_1.out).1; omega)); obtain ⟨ua154_0, uc154_0, rfl, ul154_0, ge154_0⟩ := Kd.FK_slice_open hMe154; have hv154_0 := hcc154 0 _ rfl; rw [Nat.add_zero, show ((Kd.slice 3 (Kd.int .i64))).sz = 1 from rfl, Nat.mul_one] at hv154_0; replace hv154_0 := Option.some.inj (hv154_0.symm.trans hx154_0)
              injection hv154_0 with hva_ hvn_ hvc_
              rw [hva_] at ge154_0; rw [hvc_] at ul154_0; have HL154_0 := A_ (show Kd.V (Kd.int .i64) 3 _ w.heap.size _ _ (rd_L1 l1 x10_1) from Kd.V_mk ul154_0 ge154_0); clear hva_ hvn_ hvc_ ge154_0 ul154_0 hcc154 hce154; have HR154_0 := A_ hi154_0; have HC154_0 := A_ hl154_0; clear hi154_0 hl154_0; replace p154 := eq_true p154; replace q154 := eq_true q154; have p155 : 0 ≤ (x11_2 : Int) := od_; have q155 : x11_2 < ((rd_L1 l1 x10_1).length : Int) := od_; obtain ⟨ad155, e155, hx155_0⟩ := Kd.at_int (cx_ HR154_0) x11_2 p155 q155
              cases e155
              replace p155 := eq_true p155; replace q155 := eq_true q155; have p156 : 0 ≤ (x10_1 : Int) := od_; have q156 : x10_1 < (l2.length : Int) := od_; obtain ⟨ad156, A156_0, c156_0, e156, hx156_0, hl156_0, hi156_0⟩ := at_L1 (Kd.V_reads' HO_2.out).2.2 x10_1 p156 q156; obtain rfl : ad152 = ad156 := (by injection e156); obtain ⟨ce156, hce156, hMe156, hcc156⟩ := Kd.V_get HO_2.out [] x10_1 p156 (by first | exact q156 | exact od_ | (have e_ := (Kd.V_reads' HO_2.out).1; omega)); obtain ⟨ua156_0, uc156_0, rfl, ul156_0, ge156_0⟩ := Kd.FK_slice_open hMe156; have hv156_0 := hcc156 0 _ rfl; rw [Nat.add_zero, show ((Kd.slice 3 (Kd.int .i64))).sz = 1 from rfl, Nat.mul_one] at hv156_0; replace hv156_0 := Option.some.inj (hv156_0.symm.trans hx156_0)
              injection hv156_0 with hva_ hvn_ hvc_
              rw [hva_] at ge156_0; rw [hvc_] at ul156_0; have HL156_0 := A_ (show Kd.V (Kd.int .i64) 3 _ w.heap.size _ _ (rd_L1 l2 x10_1) from Kd.V_mk ul156_0 ge156_0); clear hva_ hvn_ hvc_ ge156_0 ul156_0 hcc156 hce156; have HR156_0 := A_ hi156_0; have HC156_0 := A_ hl156_0; clear hi156_0 hl156_0; replace p156 := eq_true p156; replace q156 := eq_true q156; have p157 : 0 ≤ (x11_2 : Int) := od_; have q157 : x11_2 < ((rd_L1 l2 x10_1).length : Int) := od_; obtain ⟨ad157, e157, hx157_0⟩ := Kd.at_int (cx_ HR156_0) x11_2 p157 q157
              cases e157
              replace p157 := eq_true p157; replace q157 := eq_true q157; refine start_ (n := 22) (S := fun w' => w'.cell? (ad149.add (x10_1).toNat) = some (.slice (some ad155) (rd_L1 l1 x10_1).length c154_0) ∧ w'.cell? (ad155.add (x11_2).toNat) = some (.int .i64 (rd (rd_L1 l1 x10_1) x11_2)) ∧ w'.cell? (ad152.add (x10_1).toNat) = some (.slice (some ad157) (rd_L1 l2 x10_1).length c156_0) ∧ w'.cell? (ad157.add (x11_2).toNat) = some (.int .i64 (rd (rd_L1 l2 x10_1) x11_2))) (ds := [19, 20]) (B_ 22 0) (by kernel_rfl) rfl rfl ⟨hx154_0, hx155_0, hx156_0, hx157_0⟩ (fun hHeld => ?_); refine with_tabW dioramaref36_List.tab9 dioramaref36_List.bits9 (fun HT_ HW_ => ?_); generalize w15.drew = w16 at HO_1 HO_2 HO_9 HL149_0 HL150_0 HL152_0 HR149_0 HR150_0 HR152_0 HB HL154_0 HL156_0 HR154_0 HR156_0 hx154_0 hx155_0 hx156_0 hx157_0 hHeld ⊢; refine pT_ 0 43 (B_ 22 1) HT_ ?_; refine pT_ 1 44 (B_ 22 3) HT_ ?_; refine pT_ 2 45 (B_ 22 7) HT_ ?_; refine pT_ 3 46 (B_ 22 15) HT_ ?_; refine pT_ 4 47 (B_ 22 31) HT_ ?_; refine pT_ 5 48 (B_ 22 63) HT_ ?_; refine pT_ 6 49 (B_ 22 127) HT_ ?_; refine pT_ 8 51 (B_ 22 383) HT_ ?_; refine pT_ 11 54 (B_ 22 2431) HT_ ?_; refine pT_ 12 55 (B_ 22 6527) HT_ ?_; refine pT_ 13 56 (B_ 22 14719) HT_ ?_; refine pT_ 15 58 (B_ 22 47487) HT_ ?_; refine tT_ 7 50 (B_ 22 47615) HT_ HW_ hHeld ?_; refine pT_ 9 52 (B_ 22 48127) HT_ ?_; refine tT_ 10 53 (B_ 22 49151) HT_ HW_ hHeld ?_; refine tT_ 14 57 (B_ 22 65535) HT_ HW_ hHeld ?_; refine pT_ 16 59 (B_ 22 131071) HT_ ?_; refine tT_ 17 60 (B_ 22 262143) HT_ HW_ hHeld ?_; refine pT_ 18 61 (B_ 22 524287) HT_ ?_; refine last_ (i := 19) (N := some 62) (B_ 22 1048575) rfl rfl (one_of HT_.out (by kernel_rfl)) (by decide) (fun K hK => ?_); refine value_ (w1 := ?_) (v := ?_) (by rfl) rfl ?_ ?_; rotate_left 2
              ·go_simp
               constructor; (· rfl); (· rfl)
              refine hK.out _ _ ?_; clear hK K; refine norm_ (a' := ?_) ?_ ?_; rotate_left
              ·show Act.put _ (some 62) _ = _
               simp only [Act.put, sA_, sB_, sC_, i64_w, i32_w]; rfl
              refine last_ (i := 20) (N := some 63) (B_ 22 2097151) rfl rfl (one_of HT_.out (by kernel_rfl)) (by decide) (fun K hK => ?_); refine Kd.N_append_step k76 (w0 := w) w.heap.size (by rfl) (.tmp 43) (.tmp 62) 34 76 (.agg #[(.int .i64 0), (.int .i64 0), (.int .i64 0), (.int .i64 0), (.int .i64 0), (.slice none 0 0)]) 64 rfl Try.underlying34 info76 rfl (by decide) (by omega) u9 x9_2 (⟨a0, x10_1, x11_2, rd (rd_L1 l1 x10_1) x11_2, rd (rd_L1 l2 x10_1) x11_2, ([] : List Int)⟩ : S76) [.int .i64 a0, .int .i64 x10_1, .int .i64 x11_2, .int .i64 (rd (rd_L1 l1 x10_1) x11_2), .int .i64 (rd (rd_L1 l2 x10_1) x11_2), .slice none 0 0] (fun k_ => ((P1_ k_ ∨ P2_ k_) ∨ w.heap.size ≤ k_)) (fun k_ => ((fun k_ => ((P1_ k_ ∨ P2_ k_) ∨ w.heap.size ≤ k_))) k_ ∧ some k_ ≠ (u9 : Value).ownBlock) rfl rfl ?aP (fun _ hk => hk) ?aF ?aO ?aB ?aS ?aL ?_
              (case aP => exact (k76_mkF _ _ (⟨a0, x10_1, x11_2, rd (rd_L1 l1 x10_1) x11_2, rd (rd_L1 l2 x10_1) x11_2, ([] : List Int)⟩ : S76) (Nat.le_refl _) (Kd.F_nil _ _ _)))
              (case aB => exact (bx_ HB))
              (case aF => exact (fun k_ hk => (.inr (Nat.le_trans (below_size (bx_ HB)) hk))))
              (case aO => exact (nx_ HO_9))
              (case aS => exact (below_size (bx_ HB)))
              (case aL => have := LMc14.out; omega)
              intro v159 w17 ho hb hg hat; rw [← Ny158.out] at ho; have n0_ := A_ (Kd.V_afterv (ok := (fun k_ => ((P1_ k_ ∨ P2_ k_) ∨ w.heap.size ≤ k_))) (vx_ HO_1) hg hat); have n1_ := A_ (Kd.V_afterv (ok := (fun k_ => ((P1_ k_ ∨ P2_ k_) ∨ w.heap.size ≤ k_))) (vx_ HO_2) hg hat); have n2_ := A_ (Kd.V_afterv (ok := (fun k_ => ((P1_ k_ ∨ P2_ k_) ∨ w.heap.size ≤ k_))) (vx_ HL149_0) hg hat); have n3_ := A_ (Kd.V_afterv (ok := (fun k_ => ((P1_ k_ ∨ P2_ k_) ∨ w.heap.size ≤ k_))) (vx_ HL150_0) hg hat); have n4_ := A_ (Kd.V_afterv (ok := (fun k_ => ((P1_ k_ ∨ P2_ k_) ∨ w.heap.size ≤ k_))) (vx_ HL152_0) hg hat); have n5_ := A_ (Kd.V_afterv (ok := (fun k_ => ((P1_ k_ ∨ P2_ k_) ∨ w.heap.size ≤ k_))) (vx_ HL154_0) hg hat); have n6_ := A_ (Kd.V_afterv (ok := (fun k_ => ((P1_ k_ ∨ P2_ k_) ∨ w.heap.size ≤ k_))) (vx_ HL156_0) hg hat); have n7_ := A_ (hb); have n8_ := A_ (ho); clear HO_1 HO_2 HL149_0 HL150_0 HL152_0 HL154_0 HL156_0 HB HO_9; have HO_1 := n0_; have HO_2 := n1_; have HL149_0 := n2_; have HL150_0 := n3_; have HL152_0 := n4_; have HL154_0 := n5_; have HL156_0 := n6_; have HB := n7_; have HO160 := n8_; clear n0_ n1_ n2_ n3_ n4_ n5_ n6_ n7_ n8_ ho hb hg hat; refine hK.out _ _ ?_; clear hK K; refine norm_ (a' := ?_) ?_ ?_; rotate_left
              ·show Act.put _ (some 63) _ = _
               simp only [Act.put, sA_, sB_, sC_, i64_w, i32_w]; rfl
              refine pT_ 21 9 (B_ 22 4194303) HT_ ?_; refine done_ (done_of HT_.out (by kernel_rfl)) ?_
              try go_wp2
              go_roundg k2
              case measure => have := HK1.out; have := HK2.out; omega
              case rel => exact ⟨(y158), (wrap64 (x11_2 + 1)), rf_, H', ⟨by have := HK1.out; have := HK2.out; omega⟩, ⟨by (with_reducible repeat (first | apply Kd.V_alloc | apply Kd.V_drewN | apply Kd.V_drew)); exact HO_1.out⟩, ⟨by (with_reducible repeat (first | apply Kd.V_alloc | apply Kd.V_drewN | apply Kd.V_drew)); exact HO_2.out⟩, ⟨by (with_reducible repeat (first | apply Kd.N_alloc | apply Kd.N_drewN | apply Kd.N_drew)); exact HO160.out⟩, ⟨bx_ HB⟩⟩
             (· rw [if_neg c14] at H; exact absurd H (by simp))
           (· rw [if_neg c11] at H; exact absurd H (by simp))
          (· rw [if_neg c10] at H; exact absurd H (by simp))
         (· rw [if_neg c9] at H; exact absurd H (by simp))
        ·rw [if_neg c8] at H
         have c8b0 := decide_eq_false c8; clear c8; have H' := A_ H; clear H; have p149 : 0 ≤ (x10_1 : Int) := od_; have q149 : x10_1 < (l1.length : Int) := od_; obtain ⟨ad149, A149_0, c149_0, e149, hx149_0, hl149_0, hi149_0⟩ := at_L1 (Kd.V_reads' HO_1.out).2.2 x10_1 p149 q149
         cases e149
         obtain ⟨ce149, hce149, hMe149, hcc149⟩ := Kd.V_get HO_1.out [] x10_1 p149 (by first | exact q149 | exact od_ | (have e_ := (Kd.V_reads' HO_1.out).1; omega)); obtain ⟨ua149_0, uc149_0, rfl, ul149_0, ge149_0⟩ := Kd.FK_slice_open hMe149; have hv149_0 := hcc149 0 _ rfl; rw [Nat.add_zero, show ((Kd.slice 3 (Kd.int .i64))).sz = 1 from rfl, Nat.mul_one] at hv149_0; replace hv149_0 := Option.some.inj (hv149_0.symm.trans hx149_0)
         injection hv149_0 with hva_ hvn_ hvc_
         rw [hva_] at ge149_0; rw [hvc_] at ul149_0; have HL149_0 := A_ (show Kd.V (Kd.int .i64) 3 _ w.heap.size _ _ (rd_L1 l1 x10_1) from Kd.V_mk ul149_0 ge149_0); clear hva_ hvn_ hvc_ ge149_0 ul149_0 hcc149 hce149; have HR149_0 := A_ hi149_0; have HC149_0 := A_ hl149_0; clear hi149_0 hl149_0; replace p149 := eq_true p149; replace q149 := eq_true q149; go_wp2
         go_roundg k2
         case measure => have := HK1.out; have := HK2.out; omega
         case rel => exact ⟨(x9_2), (wrap64 (x10_1 + 1)), rf_, H', ⟨by have := HK1.out; have := HK2.out; omega⟩, ⟨by (with_reducible repeat (first | apply Kd.V_alloc | apply Kd.V_drewN | apply Kd.V_drew)); exact HO_1.out⟩, ⟨by (with_reducible repeat (first | apply Kd.V_alloc | apply Kd.V_drewN | apply Kd.V_drew)); exact HO_2.out⟩, ⟨by (with_reducible repeat (first | apply Kd.N_alloc | apply Kd.N_drewN | apply Kd.N_drew)); exact HO_9.out⟩, ⟨bx_ HB⟩⟩
       (· rw [if_neg c7] at H; exact absurd H (by simp))
      (· rw [if_neg c6] at H; exact absurd H (by simp))
   ·rw [if_neg c5] at H
    have c5b0 := decide_eq_false c5; clear c5; have H' := A_ H; clear H; go_wp2
    go_loopg [9, 12] k1 (fun kq v9 v12 w' => ∃ (x9_2 : List (S76)) (x12_2 : Int), v12 = .int .i64 x12_2 ∧ Aside0 (dioramaref36_List.l2 kq a0 l1 l2 a3 x9_2 x12_2 = some r) ∧ Aside0 (kq ≤ k1) ∧ Aside0 (Kd.V (Kd.slice 3 (Kd.int .i64)) 22 w' w.heap.size (fun k_ => ((P1_ k_ ∨ P2_ k_) ∨ w.heap.size ≤ k_) ∧ some k_ ≠ (v9 : Value).ownBlock) (.slice A1 l1.length c1) l1) ∧ Aside0 (Kd.V (Kd.slice 3 (Kd.int .i64)) 22 w' w.heap.size (fun k_ => ((P1_ k_ ∨ P2_ k_) ∨ w.heap.size ≤ k_) ∧ some k_ ≠ (v9 : Value).ownBlock) (.slice A2 l2.length c2) l2) ∧ Aside0 (Kd.N k76 76 w' w.heap.size (fun k_ => ((P1_ k_ ∨ P2_ k_) ∨ w.heap.size ≤ k_)) v9 x9_2) ∧ Aside0 (Below w.heap.size w w'))
    case atStart => exact ⟨(x9_1), (wrap64 ((l1.length : Int) - 1)), rf_, H', ⟨Nat.le_refl _⟩, ⟨by (with_reducible repeat (first | apply Kd.V_alloc | apply Kd.V_drewN | apply Kd.V_drew)); exact HO_1.out⟩, ⟨by (with_reducible repeat (first | apply Kd.V_alloc | apply Kd.V_drewN | apply Kd.V_drew)); exact HO_2.out⟩, ⟨by (with_reducible repeat (first | apply Kd.N_alloc | apply Kd.N_drewN | apply Kd.N_drew)); exact HO_9.out⟩, ⟨bx_ HB⟩⟩
    case round =>
     clear H'
     try clear c1
     try clear c2
     try clear c5
     try clear c5b0
     obtain ⟨x9_2, x12_2, rfl, HA, HK2, HO_1, HO_2, HO_9, HB⟩ := hrel
     cases gk with
     | zero => exact absurd HA.out (by simp [dioramaref36_List.l2])
     | succ k2 =>
      have H := HA.out; clear HA; simp only [dioramaref36_List.l2] at H
      by_cases c18 : x12_2 ≥ a3
      ·rw [if_pos c18] at H
       have c18b0 : decide (a3 ≤ x12_2) = true := decide_eq_true c18; clear c18
       by_cases c19 : 0 ≤ x12_2
       ·rw [if_pos c19] at H
        have c19b0 := decide_eq_true c19; clear c19
        by_cases c20 : x12_2 < (l1.length : Int)
        ·rw [if_pos c20] at H
         have c20b0 := decide_eq_true c20; clear c20
         by_cases c21 : x9_2.length < 2199023255552
         ·rw [if_pos c21] at H
          have LMc21 := A_ c21; clear c21; obtain ⟨y162, hy162⟩ : ∃ y_ : List (S76), y_ = (x9_2 ++ [(⟨a0, x12_2, (-2), 0, 0, rd_L1 l1 x12_2⟩ : S76)]) := ⟨_, rfl⟩; replace H : (dioramaref36_List.l2 k2 a0 l1 l2 a3 y162 (wrap64 (x12_2 - 1))) = some r := rh_ hy162 H; have Ny162 := A_ hy162; clear hy162; have H' := A_ H; clear H; have p161 : 0 ≤ (x12_2 : Int) := od_; have q161 : x12_2 < (l1.length : Int) := od_; obtain ⟨ad161, A161_0, c161_0, e161, hx161_0, hl161_0, hi161_0⟩ := at_L1 (Kd.V_reads' HO_1.out).2.2 x12_2 p161 q161
          cases e161
          obtain ⟨ce161, hce161, hMe161, hcc161⟩ := Kd.V_get HO_1.out [] x12_2 p161 (by first | exact q161 | exact od_ | (have e_ := (Kd.V_reads' HO_1.out).1; omega)); obtain ⟨ua161_0, uc161_0, rfl, ul161_0, ge161_0⟩ := Kd.FK_slice_open hMe161; have hv161_0 := hcc161 0 _ rfl; rw [Nat.add_zero, show ((Kd.slice 3 (Kd.int .i64))).sz = 1 from rfl, Nat.mul_one] at hv161_0; replace hv161_0 := Option.some.inj (hv161_0.symm.trans hx161_0)
          injection hv161_0 with hva_ hvn_ hvc_
          rw [hva_] at ge161_0; rw [hvc_] at ul161_0; have HL161_0 := A_ (show Kd.V (Kd.int .i64) 3 _ w.heap.size _ _ (rd_L1 l1 x12_2) from Kd.V_mk ul161_0 ge161_0); clear hva_ hvn_ hvc_ ge161_0 ul161_0 hcc161 hce161; have HR161_0 := A_ hi161_0; have HC161_0 := A_ hl161_0; clear hi161_0 hl161_0; replace p161 := eq_true p161; replace q161 := eq_true q161
          go_wp2_with (first | ((with_reducible refine gate_builtin (b := .append) (xs := #[.tmp 72, .tmp 80]) rfl ?_); at_builtin; refine Kd.N_append k76 (w0 := w) w.heap.size rfl (.tmp 72) (.tmp 80) 34 76 (.agg #[(.int .i64 0), (.int .i64 0), (.int .i64 0), (.int .i64 0), (.int .i64 0), (.slice none 0 0)]) 64 rfl Try.underlying34 info76 rfl (by decide) (by omega) u9 x9_2 (⟨a0, x12_2, (-2), 0, 0, rd_L1 l1 x12_2⟩ : S76) [.int .i64 a0, .int .i64 x12_2, .int .i64 (-2), .int .i64 0, .int .i64 0, .slice A161_0 (rd_L1 l1 x12_2).length c161_0] (fun k_ => ((P1_ k_ ∨ P2_ k_) ∨ w.heap.size ≤ k_)) (fun k_ => ((fun k_ => ((P1_ k_ ∨ P2_ k_) ∨ w.heap.size ≤ k_))) k_ ∧ some k_ ≠ (u9 : Value).ownBlock) rfl rfl ?aP (fun _ hk => hk) ?aF ?aO ?aB ?aS ?aL ?_; (case aP => exact (k76_mkF _ _ (⟨a0, x12_2, (-2), 0, 0, rd_L1 l1 x12_2⟩ : S76) (Kd.V_reads' (Kd.V_mono (ok' := (fun k_ => ((fun k_ => ((P1_ k_ ∨ P2_ k_) ∨ w.heap.size ≤ k_))) k_ ∧ some k_ ≠ (u9 : Value).ownBlock)) (HL161_0.out) (fun k_ hk => ⟨hk.1, hk.2⟩))).2.1 (Kd.V_F (Kd.V_mono (ok' := (fun k_ => ((fun k_ => ((P1_ k_ ∨ P2_ k_) ∨ w.heap.size ≤ k_))) k_ ∧ some k_ ≠ (u9 : Value).ownBlock)) (HL161_0.out) (fun k_ hk => ⟨hk.1, hk.2⟩))))); (case aB => exact (bx_ HB)); (case aF => exact (fun k_ hk => (.inr (Nat.le_trans (below_size (bx_ HB)) hk)))); (case aO => exact (nx_ HO_9)); (case aS => exact (below_size (bx_ HB))); (case aL => have := LMc21.out; omega); intro v163 w22 ho hb hg hat; rw [← Ny162.out] at ho; have n0_ := A_ (Kd.V_afterv (ok := (fun k_ => ((P1_ k_ ∨ P2_ k_) ∨ w.heap.size ≤ k_))) (vx_ HO_1) hg hat); have n1_ := A_ (Kd.V_afterv (ok := (fun k_ => ((P1_ k_ ∨ P2_ k_) ∨ w.heap.size ≤ k_))) (vx_ HO_2) hg hat); have n2_ := A_ (Kd.V_afterv (ok := (fun k_ => ((P1_ k_ ∨ P2_ k_) ∨ w.heap.size ≤ k_))) (vx_ HL161_0) hg hat); have n3_ := A_ (hb); have n4_ := A_ (ho); clear HO_1 HO_2 HL161_0 HB HO_9; have HO_1 := n0_; have HO_2 := n1_; have HL161_0 := n2_; have HB := n3_; have HO164 := n4_; clear n0_ n1_ n2_ n3_ n4_; clear ho hb hg hat))
          go_roundg k2
          case measure => have := HK1.out; have := HK2.out; omega
          case rel => exact ⟨(y162), (wrap64 (x12_2 - 1)), rf_, H', ⟨by have := HK1.out; have := HK2.out; omega⟩, ⟨by (with_reducible repeat (first | apply Kd.V_alloc | apply Kd.V_drewN | apply Kd.V_drew)); exact HO_1.out⟩, ⟨by (with_reducible repeat (first | apply Kd.V_alloc | apply Kd.V_drewN | apply Kd.V_drew)); exact HO_2.out⟩, ⟨by (with_reducible repeat (first | apply Kd.N_alloc | apply Kd.N_drewN | apply Kd.N_drew)); exact HO164.out⟩, ⟨bx_ HB⟩⟩
         (· rw [if_neg c21] at H; exact absurd H (by simp))
        (· rw [if_neg c20] at H; exact absurd H (by simp))
       (· rw [if_neg c19] at H; exact absurd H (by simp))
      ·rw [if_neg c18] at H
       have c18b0 : decide (a3 ≤ x12_2) = false := decide_eq_false c18; clear c18; have H' := A_ H; clear H; go_wp2
       go_loopg [9, 13] k2 (fun kq v9 v13 w' => ∃ (x9_3 : List (S76)) (x13_3 : Int), v13 = .int .i64 x13_3 ∧ Aside0 (dioramaref36_List.l3 kq a0 l2 x9_3 x13_3 = some r) ∧ Aside0 (kq ≤ k2) ∧ Aside0 (Kd.V (Kd.slice 3 (Kd.int .i64)) 22 w' w.heap.size (fun k_ => ((P1_ k_ ∨ P2_ k_) ∨ w.heap.size ≤ k_) ∧ some k_ ≠ (v9 : Value).ownBlock) (.slice A2 l2.length c2) l2) ∧ Aside0 (Kd.N k76 76 w' w.heap.size (fun k_ => ((P1_ k_ ∨ P2_ k_) ∨ w.heap.size ≤ k_)) v9 x9_3) ∧ Aside0 (Below w.heap.size w w'))
       case atStart => exact ⟨(x9_2), (a3), rf_, H', ⟨Nat.le_refl _⟩, ⟨by (with_reducible repeat (first | apply Kd.V_alloc | apply Kd.V_drewN | apply Kd.V_drew)); exact HO_2.out⟩, ⟨by (with_reducible repeat (first | apply Kd.N_alloc | apply Kd.N_drewN | apply Kd.N_drew)); exact HO_9.out⟩, ⟨bx_ HB⟩⟩
       case round =>
        clear H'
        try clear c1
        try clear c2
        try clear c5
        try clear c5b0
        try clear c18
        try clear c18b0
        obtain ⟨x9_3, x13_3, rfl, HA, HK3, HO_2, HO_9, HB⟩ := hrel
        cases gk with
        | zero => exact absurd HA.out (by simp [dioramaref36_List.l3])
        | succ k3 =>
         have H := HA.out; clear HA; simp only [dioramaref36_List.l3] at H
         by_cases c23 : x13_3 < (l2.length : Int)
         ·rw [if_pos c23] at H
          have c23b0 := decide_eq_true c23; clear c23
          by_cases c24 : 0 ≤ x13_3
          ·rw [if_pos c24] at H
           have c24b0 := decide_eq_true c24; clear c24
           by_cases c25 : x9_3.length < 2199023255552
           ·rw [if_pos c25] at H
            have LMc25 := A_ c25; clear c25; obtain ⟨y166, hy166⟩ : ∃ y_ : List (S76), y_ = (x9_3 ++ [(⟨a0, x13_3, (-1), 0, 0, rd_L1 l2 x13_3⟩ : S76)]) := ⟨_, rfl⟩; replace H : (dioramaref36_List.l3 k3 a0 l2 y166 (wrap64 (x13_3 + 1))) = some r := rh_ hy166 H; have Ny166 := A_ hy166; clear hy166; have H' := A_ H; clear H; have p165 : 0 ≤ (x13_3 : Int) := od_; have q165 : x13_3 < (l2.length : Int) := od_; obtain ⟨ad165, A165_0, c165_0, e165, hx165_0, hl165_0, hi165_0⟩ := at_L1 (Kd.V_reads' HO_2.out).2.2 x13_3 p165 q165
            cases e165
            obtain ⟨ce165, hce165, hMe165, hcc165⟩ := Kd.V_get HO_2.out [] x13_3 p165 (by first | exact q165 | exact od_ | (have e_ := (Kd.V_reads' HO_2.out).1; omega)); obtain ⟨ua165_0, uc165_0, rfl, ul165_0, ge165_0⟩ := Kd.FK_slice_open hMe165; have hv165_0 := hcc165 0 _ rfl; rw [Nat.add_zero, show ((Kd.slice 3 (Kd.int .i64))).sz = 1 from rfl, Nat.mul_one] at hv165_0; replace hv165_0 := Option.some.inj (hv165_0.symm.trans hx165_0)
            injection hv165_0 with hva_ hvn_ hvc_
            rw [hva_] at ge165_0; rw [hvc_] at ul165_0; have HL165_0 := A_ (show Kd.V (Kd.int .i64) 3 _ w.heap.size _ _ (rd_L1 l2 x13_3) from Kd.V_mk ul165_0 ge165_0); clear hva_ hvn_ hvc_ ge165_0 ul165_0 hcc165 hce165; have HR165_0 := A_ hi165_0; have HC165_0 := A_ hl165_0; clear hi165_0 hl165_0; replace p165 := eq_true p165; replace q165 := eq_true q165
            go_wp2_with (first | ((with_reducible refine gate_builtin (b := .append) (xs := #[.tmp 89, .tmp 97]) rfl ?_); at_builtin; refine Kd.N_append k76 (w0 := w) w.heap.size rfl (.tmp 89) (.tmp 97) 34 76 (.agg #[(.int .i64 0), (.int .i64 0), (.int .i64 0), (.int .i64 0), (.int .i64 0), (.slice none 0 0)]) 64 rfl Try.underlying34 info76 rfl (by decide) (by omega) u9 x9_3 (⟨a0, x13_3, (-1), 0, 0, rd_L1 l2 x13_3⟩ : S76) [.int .i64 a0, .int .i64 x13_3, .int .i64 (-1), .int .i64 0, .int .i64 0, .slice A165_0 (rd_L1 l2 x13_3).length c165_0] (fun k_ => ((P1_ k_ ∨ P2_ k_) ∨ w.heap.size ≤ k_)) (fun k_ => ((fun k_ => ((P1_ k_ ∨ P2_ k_) ∨ w.heap.size ≤ k_))) k_ ∧ some k_ ≠ (u9 : Value).ownBlock) rfl rfl ?aP (fun _ hk => hk) ?aF ?aO ?aB ?aS ?aL ?_; (case aP => exact (k76_mkF _ _ (⟨a0, x13_3, (-1), 0, 0, rd_L1 l2 x13_3⟩ : S76) (Kd.V_reads' (Kd.V_mono (ok' := (fun k_ => ((fun k_ => ((P1_ k_ ∨ P2_ k_) ∨ w.heap.size ≤ k_))) k_ ∧ some k_ ≠ (u9 : Value).ownBlock)) (HL165_0.out) (fun k_ hk => ⟨hk.1, hk.2⟩))).2.1 (Kd.V_F (Kd.V_mono (ok' := (fun k_ => ((fun k_ => ((P1_ k_ ∨ P2_ k_) ∨ w.heap.size ≤ k_))) k_ ∧ some k_ ≠ (u9 : Value).ownBlock)) (HL165_0.out) (fun k_ hk => ⟨hk.1, hk.2⟩))))); (case aB => exact (bx_ HB)); (case aF => exact (fun k_ hk => (.inr (Nat.le_trans (below_size (bx_ HB)) hk)))); (case aO => exact (nx_ HO_9)); (case aS => exact (below_size (bx_ HB))); (case aL => have := LMc25.out; omega); intro v167 w26 ho hb hg hat; rw [← Ny166.out] at ho; have n0_ := A_ (Kd.V_afterv (ok := (fun k_ => ((P1_ k_ ∨ P2_ k_) ∨ w.heap.size ≤ k_))) (vx_ HO_2) hg hat); have n1_ := A_ (Kd.V_afterv (ok := (fun k_ => ((P1_ k_ ∨ P2_ k_) ∨ w.heap.size ≤ k_))) (vx_ HL165_0) hg hat); have n2_ := A_ (hb); have n3_ := A_ (ho); clear HO_2 HL165_0 HB HO_9; have HO_2 := n0_; have HL165_0 := n1_; have HB := n2_; have HO168 := n3_; clear n0_ n1_ n2_ n3_; clear ho hb hg hat))
            go_roundg k3
            case measure => have := HK1.out; have := HK2.out; have := HK3.out; omega
            case rel => exact ⟨(y166), (wrap64 (x13_3 + 1)), rf_, H', ⟨by have := HK1.out; have := HK2.out; have := HK3.out; omega⟩, ⟨by (with_reducible repeat (first | apply Kd.V_alloc | apply Kd.V_drewN | apply Kd.V_drew)); exact HO_2.out⟩, ⟨by (with_reducible repeat (first | apply Kd.N_alloc | apply Kd.N_drewN | apply Kd.N_drew)); exact HO168.out⟩, ⟨bx_ HB⟩⟩
           (· rw [if_neg c25] at H; exact absurd H (by simp))
          (· rw [if_neg c24] at H; exact absurd H (by simp))
         (· rw [if_neg c23] at H; have c23b0 := decide_eq_false c23; clear c23; obtain rfl := Option.some.inj H; go_wp2; go_ret; exact ⟨_, ew_, by (with_reducible repeat (first | apply Kd.N_alloc | apply Kd.N_drewN | apply Kd.N_drew)); exact HO_9.out, bx_ HB⟩)
mutual
def dioramaref36_Diff.j0 : Nat → List (List (List Int)) → List (List (List Int)) → Bool → Option ((List (S76)) × Int)
 | 0, _, _, _ => none
 | k + 1, x0, x1, x25 => if x25 = true then (some (([] : List (S76)), 2)) else (dioramaref36_Diff.l0 k x0 x1 ([] : List (S76)) 0)
def dioramaref36_Diff.l0 : Nat → List (List (List Int)) → List (List (List Int)) → List (S76) → Int → Option ((List (S76)) × Int)
 | 0, _, _, _, _ => none
 | k + 1, x0, x1, x6, x7 => if x7 < (x0.length : Int) then (if 0 ≤ x7 then (if ((rd_L2 x0 x7).length : Int) > 0 then (if x7 < (x1.length : Int) then (dioramaref36_Diff.j2 k x0 x1 x6 x7 (decide (((rd_L2 x1 x7).length : Int) > 0))) else (none)) else (dioramaref36_Diff.j2 k x0 x1 x6 x7 false)) else (none)) else (some (x6, 0))
def dioramaref36_Diff.j2 : Nat → List (List (List Int)) → List (List (List Int)) → List (S76) → Int → Bool → Option ((List (S76)) × Int)
 | 0, _, _, _, _, _ => none
 | k + 1, x0, x1, x6, x7, x45 => if x45 = true then (if 0 ≤ x7 then (if x7 < (x0.length : Int) then (if 0 < ((rd_L2 x0 x7).length : Int) then (if x7 < (x1.length : Int) then (if 0 < ((rd_L2 x1 x7).length : Int) then (if ((rd_L1 (rd_L2 x0 x7) 0).length : Int) = ((rd_L1 (rd_L2 x1 x7) 0).length : Int) then (dioramaref36_Diff.j3 k x0 x1 x6 x7) else (some (([] : List (S76)), 2))) else (none)) else (none)) else (none)) else (none)) else (none)) else (dioramaref36_Diff.j3 k x0 x1 x6 x7)
def dioramaref36_Diff.j3 : Nat → List (List (List Int)) → List (List (List Int)) → List (S76) → Int → Option ((List (S76)) × Int)
 | 0, _, _, _, _ => none
 | k + 1, x0, x1, x6, x7 => if 0 ≤ x7 then (if x7 < (x0.length : Int) then (if x7 < (x1.length : Int) then ((dioramaref36_List.f k x7 (rd_L2 x0 x7) (rd_L2 x1 x7) 0).bind fun t179 => (dioramaref36_Diff.l1 k x0 x1 x6 x7 t179 1)) else (none)) else (none)) else (none)
def dioramaref36_Diff.l1 : Nat → List (List (List Int)) → List (List (List Int)) → List (S76) → Int → List (S76) → Int → Option ((List (S76)) × Int)
 | 0, _, _, _, _, _, _ => none
 | k + 1, x0, x1, x6, x7, x8, x9 => if 0 ≤ x7 then (if x7 < (x0.length : Int) then (if x9 ≤ ((rd_L2 x0 x7).length : Int) then (if x7 < (x1.length : Int) then (dioramaref36_Diff.j5 k x0 x1 x6 x7 x8 x9 (decide (x9 ≤ ((rd_L2 x1 x7).length : Int)))) else (none)) else (dioramaref36_Diff.j5 k x0 x1 x6 x7 x8 x9 false)) else (none)) else (none)
def dioramaref36_Diff.j5 : Nat → List (List (List Int)) → List (List (List Int)) → List (S76) → Int → List (S76) → Int → Bool → Option ((List (S76)) × Int)
 | 0, _, _, _, _, _, _, _ => none
 | k + 1, x0, x1, x6, x7, x8, x9, x86 => if x86 = true then (if 0 ≤ x7 then (if x7 < (x0.length : Int) then (if x7 < (x1.length : Int) then ((dioramaref36_List.f k x7 (rd_L2 x0 x7) (rd_L2 x1 x7) x9).bind fun t186 => (if (t186.length : Int) ≤ (x8.length : Int) then (dioramaref36_Diff.l1 k x0 x1 x6 x7 t186 (wrap64 (x9 + 1))) else (dioramaref36_Diff.l1 k x0 x1 x6 x7 x8 (wrap64 (x9 + 1))))) else (none)) else (none)) else (none)) else (if x6.length + x8.length < 2199023255552 then (dioramaref36_Diff.l0 k x0 x1 (x6 ++ x8) (wrap64 (x7 + 1))) else (none))
end
def dioramaref36_Diff.f (k : Nat) (l0 : List (List (List Int))) (l1 : List (List (List Int))) : Option ((List (S76)) × Int) := (dioramaref36_Shaped.f k l0).bind fun t169 => (if t169 = true then ((dioramaref36_Shaped.f k l1).bind fun t170 => (if t170 = true then (dioramaref36_Diff.j0 k l0 l1 ((l0.length : Int) != (l1.length : Int))) else (dioramaref36_Diff.j0 k l0 l1 true))) else (dioramaref36_Diff.j0 k l0 l1 true))
def dioramaref36_Diff.T8 : Bool × List (List Nat × List Nat) := (true, [([], []), ([], []), ([0, 1], [0, 1]), ([2], [2]), ([3], [3]), ([4], [4]), ([5], [5]), ([], []), ([], []), ([7, 8], [7, 8]), ([9], [9]), ([10], [10]), ([11], [11]), ([12], [12]), ([6, 13], [6, 13])])
def dioramaref36_Diff.B8 : List Nat := [0, 0, 3, 7, 15, 31, 63, 0, 0, 384, 896, 1920, 3968, 8064, 16383]
theorem dioramaref36_Diff.tab8 : rtab .any (opsOf Try.f15 8) = dioramaref36_Diff.T8 := by kernel_rfl
theorem dioramaref36_Diff.bits8 : waitsOk dioramaref36_Diff.T8.2 dioramaref36_Diff.B8 = true := by kernel_rfl
def dioramaref36_Diff.T10 : Bool × List (List Nat × List Nat) := (true, [([], []), ([], []), ([], []), ([1, 2], [1, 2]), ([3], [3]), ([], []), ([], []), ([5, 6], [5, 6]), ([7], [7]), ([0, 4, 8], [0, 4, 8]), ([9, 9, 0, 1, 2, 3, 4, 5, 6, 7, 8, 9], [9])])
def dioramaref36_Diff.B10 : List Nat := [0, 0, 0, 6, 14, 0, 0, 96, 224, 511, 1023]
theorem dioramaref36_Diff.tab10 : rtab .any (opsOf Try.f15 10) = dioramaref36_Diff.T10 := by kernel_rfl
theorem dioramaref36_Diff.bits10 : waitsOk dioramaref36_Diff.T10.2 dioramaref36_Diff.B10 = true := by kernel_rfl
def dioramaref36_Diff.T14 : Bool × List (List Nat × List Nat) := (true, [([], []), ([], []), ([], []), ([1, 2], [1, 2]), ([3], [3]), ([], []), ([], []), ([5, 6], [5, 6]), ([7], [7]), ([], []), ([0, 4, 8, 9], [0, 4, 8, 9]), ([10, 10, 0, 1, 2, 3, 4, 5, 6, 7, 8, 9, 10], [10])])
def dioramaref36_Diff.B14 : List Nat := [0, 0, 0, 6, 14, 0, 0, 96, 224, 0, 1023, 2047]
theorem dioramaref36_Diff.tab14 : rtab .any (opsOf Try.f15 14) = dioramaref36_Diff.T14 := by kernel_rfl
theorem dioramaref36_Diff.bits14 : waitsOk dioramaref36_Diff.T14.2 dioramaref36_Diff.B14 = true := by kernel_rfl
set_option maxHeartbeats 8000000 in
set_option maxRecDepth 100000 in
theorem dioramaref36_Diff.calls (k : Nat) (P0_ : Nat → Prop) (A0 : Option Addr) (c0 : Nat) (l0 : List (List (List Int))) (P1_ : Nat → Prop) (A1 : Option Addr) (c1 : Nat) (l1 : List (List (List Int))) (r1 : List (S76)) (r2 : Int) (w : World) (hs0 : Kd.V (Kd.slice 22 (Kd.slice 3 (Kd.int .i64))) 64 w w.heap.size (fun k_ => P0_ k_) (.slice A0 l0.length c0) l0) (hs1 : Kd.V (Kd.slice 22 (Kd.slice 3 (Kd.int .i64))) 64 w w.heap.size (fun k_ => P1_ k_) (.slice A1 l1.length c1) l1) (h : dioramaref36_Diff.f k l0 l1 = some (r1, r2)) :
  Calls Try.prog 15 #[.slice A0 l0.length c0, .slice A1 l1.length c1] w fun e w' => ∃ v0_ : Value, e = .returned (.tuple #[v0_, .int .i64 r2]) ∧ Kd.N k76 76 w' w.heap.size (fun k_ => ((P0_ k_ ∨ P1_ k_) ∨ w.heap.size ≤ k_)) v0_ r1 ∧ Below w.heap.size w w' := by
 have HO0 := A_ (show Kd.V (Kd.slice 22 (Kd.slice 3 (Kd.int .i64))) 64 w w.heap.size (fun k_ => ((P0_ k_ ∨ P1_ k_) ∨ w.heap.size ≤ k_)) (.slice A0 l0.length c0) l0 from Kd.V_mono hs0 (fun k_ hk => .inl (.inl hk))); have HO1 := A_ (show Kd.V (Kd.slice 22 (Kd.slice 3 (Kd.int .i64))) 64 w w.heap.size (fun k_ => ((P0_ k_ ∨ P1_ k_) ∨ w.heap.size ≤ k_)) (.slice A1 l1.length c1) l1 from Kd.V_mono hs1 (fun k_ hk => .inl (.inr hk))); have HB := A_ (Below.refl w.heap.size w); have H : ((dioramaref36_Shaped.f k l0).bind fun t169 => (if t169 = true then ((dioramaref36_Shaped.f k l1).bind fun t170 => (if t170 = true then (dioramaref36_Diff.j0 k l0 l1 ((l0.length : Int) != (l1.length : Int))) else (dioramaref36_Diff.j0 k l0 l1 true))) else (dioramaref36_Diff.j0 k l0 l1 true))) = some (r1, r2) := h; clear h; have HC3 := A_ H; clear H
 go_enter Try.func15, Try.ntmps15
 go_upto_region 1 with (fail)
 go_cut [25] (fun v25 wc => ∃ (kq : Nat) (x25_2 : Bool), v25 = .bool x25_2 ∧ Aside0 (dioramaref36_Diff.j0 kq l0 l1 x25_2 = some (r1, r2)) ∧ Aside0 (kq ≤ k) ∧ Aside0 (Kd.V (Kd.slice 22 (Kd.slice 3 (Kd.int .i64))) 64 wc w.heap.size (fun k_ => ((P0_ k_ ∨ P1_ k_) ∨ w.heap.size ≤ k_)) (.slice A0 l0.length c0) l0) ∧ Aside0 (Kd.V (Kd.slice 22 (Kd.slice 3 (Kd.int .i64))) 64 wc w.heap.size (fun k_ => ((P0_ k_ ∨ P1_ k_) ∨ w.heap.size ≤ k_)) (.slice A1 l1.length c1) l1) ∧ Aside0 (Below w.heap.size w wc))
 case first =>
  have H := HC3.out; clear HC3; replace H := Option.bind_eq_some_iff.mp H; obtain ⟨t169, A40, H⟩ := H
  (try dsimp only at H)
  have A4 := A_ A40; clear A40
  by_cases c5 : t169 = true
  ·subst c5
   have H1 : ((dioramaref36_Shaped.f k l1).bind fun t170 => (if t170 = true then (dioramaref36_Diff.j0 k l0 l1 ((l0.length : Int) != (l1.length : Int))) else (dioramaref36_Diff.j0 k l0 l1 true))) = some (r1, r2) := by rw [if_pos rfl] at H; exact H
   clear H; have H := H1; clear H1; replace H := Option.bind_eq_some_iff.mp H; obtain ⟨t170, A60, H⟩ := H
   (try dsimp only at H)
   have A6 := A_ A60; clear A60
   by_cases c7 : t170 = true
   ·subst c7
    have H1 : (dioramaref36_Diff.j0 k l0 l1 ((l0.length : Int) != (l1.length : Int))) = some (r1, r2) := by rw [if_pos rfl] at H; exact H
    clear H; have H := H1; clear H1; have H' := A_ H; clear H
    go_wp2_with (first | ((with_reducible refine gate_callee (f := 40) rfl ?_); refine goesL_ (some 12) rfl rfl Try.func40 (by kernel_rfl) rfl #[.slice A0 l0.length c0] rfl lm_ ?_; (with_reducible refine (dioramaref36_Shaped.calls k _ _ l0 true _ ?side1 ?side2 A4.out).mono ?_); (case side1 => repeat (first | exact (Kd.V_reads' HO0.out).2.2 | (with_reducible refine Kd.C_alloc ?_ _) | (with_reducible refine Kd.C_drewN ?_ _) | (with_reducible refine Kd.C_drew ?_))); (case side2 => exact (Kd.V_reads' HO0.out).2.1); rintro e w' ⟨rfl, ⟨nd, rfl⟩⟩; refine ⟨_, rfl, ?_⟩) | (go_at_call 40; (with_reducible refine (dioramaref36_Shaped.calls k _ _ l1 true _ ?side1 ?side2 A6.out).mono ?_); (case side1 => repeat (first | exact (Kd.V_reads' HO1.out).2.2 | (with_reducible refine Kd.C_alloc ?_ _) | (with_reducible refine Kd.C_drewN ?_ _) | (with_reducible refine Kd.C_drew ?_))); (case side2 => exact (Kd.V_reads' HO1.out).2.1); rintro e w' ⟨rfl, ⟨nd, rfl⟩⟩))
    go_meet
    case rel => exact ⟨_, (((l0.length : Int) != (l1.length : Int))), rf_, H', ⟨by first | omega | exact Nat.le_refl _⟩, ⟨by (with_reducible repeat (first | apply Kd.V_alloc | apply Kd.V_drewN | apply Kd.V_drew)); exact HO0.out⟩, ⟨by (with_reducible repeat (first | apply Kd.V_alloc | apply Kd.V_drewN | apply Kd.V_drew)); exact HO1.out⟩, ⟨bx_ HB⟩⟩
   ·replace c7 := Bool.eq_false_iff.mpr c7
    subst c7
    have H1 : (dioramaref36_Diff.j0 k l0 l1 true) = some (r1, r2) := by rw [if_neg (show ¬ (false = true) by decide)] at H; exact H
    clear H; have H := H1; clear H1; have H' := A_ H; clear H
    go_wp2_with (first | ((with_reducible refine gate_callee (f := 40) rfl ?_); refine goesL_ (some 12) rfl rfl Try.func40 (by kernel_rfl) rfl #[.slice A0 l0.length c0] rfl lm_ ?_; (with_reducible refine (dioramaref36_Shaped.calls k _ _ l0 true _ ?side1 ?side2 A4.out).mono ?_); (case side1 => repeat (first | exact (Kd.V_reads' HO0.out).2.2 | (with_reducible refine Kd.C_alloc ?_ _) | (with_reducible refine Kd.C_drewN ?_ _) | (with_reducible refine Kd.C_drew ?_))); (case side2 => exact (Kd.V_reads' HO0.out).2.1); rintro e w' ⟨rfl, ⟨nd, rfl⟩⟩; refine ⟨_, rfl, ?_⟩) | (go_at_call 40; (with_reducible refine (dioramaref36_Shaped.calls k _ _ l1 false _ ?side1 ?side2 A6.out).mono ?_); (case side1 => repeat (first | exact (Kd.V_reads' HO1.out).2.2 | (with_reducible refine Kd.C_alloc ?_ _) | (with_reducible refine Kd.C_drewN ?_ _) | (with_reducible refine Kd.C_drew ?_))); (case side2 => exact (Kd.V_reads' HO1.out).2.1); rintro e w' ⟨rfl, ⟨nd, rfl⟩⟩))
    go_meet
    case rel => exact ⟨_, (true), rf_, H', ⟨by first | omega | exact Nat.le_refl _⟩, ⟨by (with_reducible repeat (first | apply Kd.V_alloc | apply Kd.V_drewN | apply Kd.V_drew)); exact HO0.out⟩, ⟨by (with_reducible repeat (first | apply Kd.V_alloc | apply Kd.V_drewN | apply Kd.V_drew)); exact HO1.out⟩, ⟨bx_ HB⟩⟩
  ·replace c5 := Bool.eq_false_iff.mpr c5
   subst c5
   have H1 : (dioramaref36_Diff.j0 k l0 l1 true) = some (r1, r2) := by rw [if_neg (show ¬ (false = true) by decide)] at H; exact H
   clear H; have H := H1; clear H1; have H' := A_ H; clear H
   go_wp2_with (first | ((with_reducible refine gate_callee (f := 40) rfl ?_); refine goesL_ (some 12) rfl rfl Try.func40 (by kernel_rfl) rfl #[.slice A0 l0.length c0] rfl lm_ ?_; (with_reducible refine (dioramaref36_Shaped.calls k _ _ l0 false _ ?side1 ?side2 A4.out).mono ?_); (case side1 => repeat (first | exact (Kd.V_reads' HO0.out).2.2 | (with_reducible refine Kd.C_alloc ?_ _) | (with_reducible refine Kd.C_drewN ?_ _) | (with_reducible refine Kd.C_drew ?_))); (case side2 => exact (Kd.V_reads' HO0.out).2.1); rintro e w' ⟨rfl, ⟨nd, rfl⟩⟩; refine ⟨_, rfl, ?_⟩))
   go_meet
   case rel => exact ⟨_, (true), rf_, H', ⟨by first | omega | exact Nat.le_refl _⟩, ⟨by (with_reducible repeat (first | apply Kd.V_alloc | apply Kd.V_drewN | apply Kd.V_drew)); exact HO0.out⟩, ⟨by (with_reducible repeat (first | apply Kd.V_alloc | apply Kd.V_drewN | apply Kd.V_drew)); exact HO1.out⟩, ⟨bx_ HB⟩⟩
 case rest =>
  clear HC3
  try clear c1
  obtain ⟨kq, x25_2, rfl, HA, HJ2, HO_0, HO_1, HB⟩ := hcut
  cases kq with
  | zero => exact absurd HA.out (by simp [dioramaref36_Diff.j0])
  | succ kj2 =>
   have H := HA.out; clear HA; simp only [dioramaref36_Diff.j0] at H
   by_cases c8 : x25_2 = true
   ·subst c8
    have H1 : (some (([] : List (S76)), 2)) = some (r1, r2) := by rw [if_pos rfl] at H; exact H
    clear H; have H := H1; clear H1; simp only [Option.some.injEq, Prod.mk.injEq] at H; obtain ⟨rfl, rfl⟩ := H; go_wp2; go_ret2; exact ⟨_, ew_, by first | exact Kd.S_nil _ _ _ _ _ | exact Kd.N_nil _ _ _ _ _ | exact Kd.V_nil _ _ _ _ _ | exact Kd.Q_nil _ _ _ _ _ | exact Kd.R_nil _ _ _ _ _, bx_ HB⟩
   ·replace c8 := Bool.eq_false_iff.mpr c8
    subst c8
    have H1 : (dioramaref36_Diff.l0 kj2 l0 l1 ([] : List (S76)) 0) = some (r1, r2) := by rw [if_neg (show ¬ (false = true) by decide)] at H; exact H
    clear H; have H := H1; clear H1; have H' := A_ H; clear H; go_wp2
    go_loopg [6, 7] kj2 (fun kq v6 v7 w' => ∃ (x6_2 : List (S76)) (x7_2 : Int), v7 = .int .i64 x7_2 ∧ Aside0 (dioramaref36_Diff.l0 kq l0 l1 x6_2 x7_2 = some (r1, r2)) ∧ Aside0 (kq ≤ kj2) ∧ Aside0 (Kd.V (Kd.slice 22 (Kd.slice 3 (Kd.int .i64))) 64 w' w.heap.size (fun k_ => ((P0_ k_ ∨ P1_ k_) ∨ w.heap.size ≤ k_) ∧ some k_ ≠ (v6 : Value).ownBlock) (.slice A0 l0.length c0) l0) ∧ Aside0 (Kd.V (Kd.slice 22 (Kd.slice 3 (Kd.int .i64))) 64 w' w.heap.size (fun k_ => ((P0_ k_ ∨ P1_ k_) ∨ w.heap.size ≤ k_) ∧ some k_ ≠ (v6 : Value).ownBlock) (.slice A1 l1.length c1) l1) ∧ Aside0 (Kd.N k76 76 w' w.heap.size (fun k_ => ((P0_ k_ ∨ P1_ k_) ∨ w.heap.size ≤ k_)) v6 x6_2) ∧ Aside0 (Below w.heap.size w w'))
    case atStart => exact ⟨(([] : List (S76))), (0), rf_, H', ⟨Nat.le_refl _⟩, ⟨by (with_reducible repeat (first | apply Kd.V_alloc | apply Kd.V_drewN | apply Kd.V_drew)); exact Kd.V_mono HO_0.out (fun _ hk => ⟨hk, (by simp [Value.ownBlock])⟩)⟩, ⟨by (with_reducible repeat (first | apply Kd.V_alloc | apply Kd.V_drewN | apply Kd.V_drew)); exact Kd.V_mono HO_1.out (fun _ hk => ⟨hk, (by simp [Value.ownBlock])⟩)⟩, ⟨by first | exact Kd.S_nil _ _ _ _ _ | exact Kd.N_nil _ _ _ _ _ | exact Kd.V_nil _ _ _ _ _ | exact Kd.Q_nil _ _ _ _ _ | exact Kd.R_nil _ _ _ _ _⟩, ⟨bx_ HB⟩⟩
    case round =>
     clear H'
     try clear c1
     try clear c8
     obtain ⟨x6_2, x7_2, rfl, HA, HK2, HO_0, HO_1, HO_6, HB⟩ := hrel
     cases gk with
     | zero => exact absurd HA.out (by simp [dioramaref36_Diff.l0])
     | succ k2 =>
      have H := HA.out; clear HA; simp only [dioramaref36_Diff.l0] at H
      by_cases c9 : x7_2 < (l0.length : Int)
      ·rw [if_pos c9] at H
       have c9b0 := decide_eq_true c9; clear c9; have HC10 := A_ H; clear H
       go_upto_region 7 with (fail)
       go_cut [45] (fun v45 wc => ∃ (kq : Nat) (x45_9 : Bool), v45 = .bool x45_9 ∧ Aside0 (dioramaref36_Diff.j2 kq l0 l1 x6_2 x7_2 x45_9 = some (r1, r2)) ∧ Aside0 (kq ≤ k2) ∧ Aside0 (Kd.V (Kd.slice 22 (Kd.slice 3 (Kd.int .i64))) 64 wc w.heap.size (fun k_ => ((P0_ k_ ∨ P1_ k_) ∨ w.heap.size ≤ k_) ∧ some k_ ≠ (u6 : Value).ownBlock) (.slice A0 l0.length c0) l0) ∧ Aside0 (Kd.V (Kd.slice 22 (Kd.slice 3 (Kd.int .i64))) 64 wc w.heap.size (fun k_ => ((P0_ k_ ∨ P1_ k_) ∨ w.heap.size ≤ k_) ∧ some k_ ≠ (u6 : Value).ownBlock) (.slice A1 l1.length c1) l1) ∧ Aside0 (Kd.N k76 76 wc w.heap.size (fun k_ => ((P0_ k_ ∨ P1_ k_) ∨ w.heap.size ≤ k_)) u6 x6_2) ∧ Aside0 (Below w.heap.size w wc))
       case first =>
        have H := HC10.out; clear HC10
        by_cases c11 : 0 ≤ x7_2
        ·rw [if_pos c11] at H
         have c11b0 := decide_eq_true c11; clear c11
         (first | rw [c11b0] | (simp only [i64_w, i32_w]; rw [c11b0]) | skip)
         by_cases c12 : ((rd_L2 l0 x7_2).length : Int) > 0
         ·rw [if_pos c12] at H
          have c12b0 : decide (0 < ((rd_L2 l0 x7_2).length : Int)) = true := decide_eq_true c12; have c12b1 : decide (0 < (rd_L2 l0 x7_2).length) = true := decide_eq_true (by omega); clear c12
          by_cases c13 : x7_2 < (l1.length : Int)
          ·rw [if_pos c13] at H
           have c13b0 := decide_eq_true c13; clear c13; have H' := A_ H; clear H; have p171 : 0 ≤ (x7_2 : Int) := od_; have q171 : x7_2 < (l0.length : Int) := od_; obtain ⟨ad171, A171_0, c171_0, e171, hx171_0, hl171_0, hi171_0⟩ := at_L2 (Kd.V_reads' HO_0.out).2.2 x7_2 p171 q171
           cases e171
           obtain ⟨ce171, hce171, hMe171, hcc171⟩ := Kd.V_get HO_0.out [] x7_2 p171 (by first | exact q171 | exact od_ | (have e_ := (Kd.V_reads' HO_0.out).1; omega)); obtain ⟨ua171_0, uc171_0, rfl, ul171_0, ge171_0⟩ := Kd.FK_slice_open hMe171; have hv171_0 := hcc171 0 _ rfl; rw [Nat.add_zero, show ((Kd.slice 22 (Kd.slice 3 (Kd.int .i64)))).sz = 1 from rfl, Nat.mul_one] at hv171_0; replace hv171_0 := Option.some.inj (hv171_0.symm.trans hx171_0)
           injection hv171_0 with hva_ hvn_ hvc_
           rw [hva_] at ge171_0; rw [hvc_] at ul171_0; have HL171_0 := A_ (show Kd.V (Kd.slice 3 (Kd.int .i64)) 22 _ w.heap.size _ _ (rd_L2 l0 x7_2) from Kd.V_mk ul171_0 ge171_0); clear hva_ hvn_ hvc_ ge171_0 ul171_0 hcc171 hce171; have HR171_0 := A_ hi171_0; have HC171_0 := A_ hl171_0; clear hi171_0 hl171_0; replace p171 := eq_true p171; replace q171 := eq_true q171; have p172 : 0 ≤ (x7_2 : Int) := od_; have q172 : x7_2 < (l1.length : Int) := od_; obtain ⟨ad172, A172_0, c172_0, e172, hx172_0, hl172_0, hi172_0⟩ := at_L2 (Kd.V_reads' HO_1.out).2.2 x7_2 p172 q172
           cases e172
           obtain ⟨ce172, hce172, hMe172, hcc172⟩ := Kd.V_get HO_1.out [] x7_2 p172 (by first | exact q172 | exact od_ | (have e_ := (Kd.V_reads' HO_1.out).1; omega)); obtain ⟨ua172_0, uc172_0, rfl, ul172_0, ge172_0⟩ := Kd.FK_slice_open hMe172; have hv172_0 := hcc172 0 _ rfl; rw [Nat.add_zero, show ((Kd.slice 22 (Kd.slice 3 (Kd.int .i64)))).sz = 1 from rfl, Nat.mul_one] at hv172_0; replace hv172_0 := Option.some.inj (hv172_0.symm.trans hx172_0)
           injection hv172_0 with hva_ hvn_ hvc_
           rw [hva_] at ge172_0; rw [hvc_] at ul172_0; have HL172_0 := A_ (show Kd.V (Kd.slice 3 (Kd.int .i64)) 22 _ w.heap.size _ _ (rd_L2 l1 x7_2) from Kd.V_mk ul172_0 ge172_0); clear hva_ hvn_ hvc_ ge172_0 ul172_0 hcc172 hce172; have HR172_0 := A_ hi172_0; have HC172_0 := A_ hl172_0; clear hi172_0 hl172_0; replace p172 := eq_true p172; replace q172 := eq_true q172; go_wp2
           go_meet
           case rel => exact ⟨_, (decide (((rd_L2 l1 x7_2).length : Int) > 0)), rf_, H', ⟨by have := HJ2.out; have := HK2.out; first | omega | exact Nat.le_refl _⟩, ⟨by (with_reducible repeat (first | apply Kd.V_alloc | apply Kd.V_drewN | apply Kd.V_drew)); exact HO_0.out⟩, ⟨by (with_reducible repeat (first | apply Kd.V_alloc | apply Kd.V_drewN | apply Kd.V_drew)); exact HO_1.out⟩, ⟨by (with_reducible repeat (first | apply Kd.N_alloc | apply Kd.N_drewN | apply Kd.N_drew)); exact HO_6.out⟩, ⟨bx_ HB⟩⟩
          (· rw [if_neg c13] at H; exact absurd H (by simp))
         ·rw [if_neg c12] at H
          have c12b0 : decide (0 < ((rd_L2 l0 x7_2).length : Int)) = false := decide_eq_false c12; have c12b1 : decide (0 < (rd_L2 l0 x7_2).length) = false := decide_eq_false (by omega); clear c12; have H' := A_ H; clear H; have p171 : 0 ≤ (x7_2 : Int) := od_; have q171 : x7_2 < (l0.length : Int) := od_; obtain ⟨ad171, A171_0, c171_0, e171, hx171_0, hl171_0, hi171_0⟩ := at_L2 (Kd.V_reads' HO_0.out).2.2 x7_2 p171 q171
          cases e171
          obtain ⟨ce171, hce171, hMe171, hcc171⟩ := Kd.V_get HO_0.out [] x7_2 p171 (by first | exact q171 | exact od_ | (have e_ := (Kd.V_reads' HO_0.out).1; omega)); obtain ⟨ua171_0, uc171_0, rfl, ul171_0, ge171_0⟩ := Kd.FK_slice_open hMe171; have hv171_0 := hcc171 0 _ rfl; rw [Nat.add_zero, show ((Kd.slice 22 (Kd.slice 3 (Kd.int .i64)))).sz = 1 from rfl, Nat.mul_one] at hv171_0; replace hv171_0 := Option.some.inj (hv171_0.symm.trans hx171_0)
          injection hv171_0 with hva_ hvn_ hvc_
          rw [hva_] at ge171_0; rw [hvc_] at ul171_0; have HL171_0 := A_ (show Kd.V (Kd.slice 3 (Kd.int .i64)) 22 _ w.heap.size _ _ (rd_L2 l0 x7_2) from Kd.V_mk ul171_0 ge171_0); clear hva_ hvn_ hvc_ ge171_0 ul171_0 hcc171 hce171; have HR171_0 := A_ hi171_0; have HC171_0 := A_ hl171_0; clear hi171_0 hl171_0; replace p171 := eq_true p171; replace q171 := eq_true q171; go_wp2
          go_meet
          case rel => exact ⟨_, (false), rf_, H', ⟨by have := HJ2.out; have := HK2.out; first | omega | exact Nat.le_refl _⟩, ⟨by (with_reducible repeat (first | apply Kd.V_alloc | apply Kd.V_drewN | apply Kd.V_drew)); exact HO_0.out⟩, ⟨by (with_reducible repeat (first | apply Kd.V_alloc | apply Kd.V_drewN | apply Kd.V_drew)); exact HO_1.out⟩, ⟨by (with_reducible repeat (first | apply Kd.N_alloc | apply Kd.N_drewN | apply Kd.N_drew)); exact HO_6.out⟩, ⟨bx_ HB⟩⟩
        (· rw [if_neg c11] at H; exact absurd H (by simp))
       case rest =>
        clear HC10
        try clear c1
        try clear c8
        try clear c9
        try clear c9b0
        obtain ⟨kq, x45_9, rfl, HA, HJ9, HO_0, HO_1, HO_6, HB⟩ := hcut
        cases kq with
        | zero => exact absurd HA.out (by simp [dioramaref36_Diff.j2])
        | succ kj9 =>
         have H := HA.out; clear HA; simp only [dioramaref36_Diff.j2] at H; have HC14 := A_ H; clear H
         go_upto_if 45 with (fail)
         go_cut [] (fun wc => ∃ (kq : Nat), Aside0 (dioramaref36_Diff.j3 kq l0 l1 x6_2 x7_2 = some (r1, r2)) ∧ Aside0 (kq ≤ kj9) ∧ Aside0 (Kd.V (Kd.slice 22 (Kd.slice 3 (Kd.int .i64))) 64 wc w.heap.size (fun k_ => ((P0_ k_ ∨ P1_ k_) ∨ w.heap.size ≤ k_) ∧ some k_ ≠ (u6 : Value).ownBlock) (.slice A0 l0.length c0) l0) ∧ Aside0 (Kd.V (Kd.slice 22 (Kd.slice 3 (Kd.int .i64))) 64 wc w.heap.size (fun k_ => ((P0_ k_ ∨ P1_ k_) ∨ w.heap.size ≤ k_) ∧ some k_ ≠ (u6 : Value).ownBlock) (.slice A1 l1.length c1) l1) ∧ Aside0 (Kd.N k76 76 wc w.heap.size (fun k_ => ((P0_ k_ ∨ P1_ k_) ∨ w.heap.size ≤ k_)) u6 x6_2) ∧ Aside0 (Below w.heap.size w wc))
         case first =>
          have H := HC14.out; clear HC14
          by_cases c15 : x45_9 = true
          ·subst c15
           have H1 : (if 0 ≤ x7_2 then (if x7_2 < (l0.length : Int) then (if 0 < ((rd_L2 l0 x7_2).length : Int) then (if x7_2 < (l1.length : Int) then (if 0 < ((rd_L2 l1 x7_2).length : Int) then (if ((rd_L1 (rd_L2 l0 x7_2) 0).length : Int) = ((rd_L1 (rd_L2 l1 x7_2) 0).length : Int) then (dioramaref36_Diff.j3 kj9 l0 l1 x6_2 x7_2) else (some (([] : List (S76)), 2))) else (none)) else (none)) else (none)) else (none)) else (none)) = some (r1, r2) := by rw [if_pos rfl] at H; exact H
           clear H; have H := H1; clear H1
           by_cases c16 : 0 ≤ x7_2
           ·rw [if_pos c16] at H
            have c16b0 := decide_eq_true c16; clear c16
            (first | rw [c16b0] | (simp only [i64_w, i32_w]; rw [c16b0]) | skip)
            by_cases c17 : x7_2 < (l0.length : Int)
            ·rw [if_pos c17] at H
             have c17b0 := decide_eq_true c17; clear c17
             by_cases c18 : 0 < ((rd_L2 l0 x7_2).length : Int)
             ·rw [if_pos c18] at H
              have c18b0 := decide_eq_true c18; have c18b1 : decide (0 < (rd_L2 l0 x7_2).length) = true := decide_eq_true (by omega); clear c18
              by_cases c19 : x7_2 < (l1.length : Int)
              ·rw [if_pos c19] at H
               have c19b0 := decide_eq_true c19; clear c19
               by_cases c20 : 0 < ((rd_L2 l1 x7_2).length : Int)
               ·rw [if_pos c20] at H
                have c20b0 := decide_eq_true c20; have c20b1 : decide (0 < (rd_L2 l1 x7_2).length) = true := decide_eq_true (by omega); clear c20
                by_cases c21 : ((rd_L1 (rd_L2 l0 x7_2) 0).length : Int) = ((rd_L1 (rd_L2 l1 x7_2) 0).length : Int)
                ·rw [if_pos c21] at H
                 obtain ⟨c21b0, c21b1⟩ := be_ c21
                 have c21b2 : ((rd_L1 (rd_L2 l0 x7_2) 0).length == (rd_L1 (rd_L2 l1 x7_2) 0).length) = true := by first | simpa using c21 | (simp at c21 ⊢; omega)
                 clear c21; have H' := A_ H; clear H
                 try go_wp2
                 replace HO_0 := A_ (Kd.V_drew HO_0.out); replace HO_1 := A_ (Kd.V_drew HO_1.out); replace HO_6 := A_ (Kd.N_drew HO_6.out); replace HB := A_ (below_drew1 HB.out); have p173 : 0 ≤ (x7_2 : Int) := od_; have q173 : x7_2 < (l0.length : Int) := od_; obtain ⟨ad173, A173_0, c173_0, e173, hx173_0, hl173_0, hi173_0⟩ := at_L2 (Kd.V_reads' HO_0.out).2.2 x7_2 p173 q173
                 cases e173
                 obtain ⟨ce173, hce173, hMe173, hcc173⟩ := Kd.V_get HO_0.out [] x7_2 p173 (by first | exact q173 | exact od_ | (have e_ := (Kd.V_reads' HO_0.out).1; omega)); obtain ⟨ua173_0, uc173_0, rfl, ul173_0, ge173_0⟩ := Kd.FK_slice_open hMe173; have hv173_0 := hcc173 0 _ rfl; rw [Nat.add_zero, show ((Kd.slice 22 (Kd.slice 3 (Kd.int .i64)))).sz = 1 from rfl, Nat.mul_one] at hv173_0; replace hv173_0 := Option.some.inj (hv173_0.symm.trans hx173_0)
                 injection hv173_0 with hva_ hvn_ hvc_
                 rw [hva_] at ge173_0; rw [hvc_] at ul173_0; have HL173_0 := A_ (show Kd.V (Kd.slice 3 (Kd.int .i64)) 22 _ w.heap.size _ _ (rd_L2 l0 x7_2) from Kd.V_mk ul173_0 ge173_0); clear hva_ hvn_ hvc_ ge173_0 ul173_0 hcc173 hce173; have HR173_0 := A_ hi173_0; have HC173_0 := A_ hl173_0; clear hi173_0 hl173_0; replace p173 := eq_true p173; replace q173 := eq_true q173; have p174 : 0 ≤ (0 : Int) := (by omega); have q174 : 0 < ((rd_L2 l0 x7_2).length : Int) := od_; obtain ⟨ad174, A174_0, c174_0, e174, hx174_0, hl174_0, hi174_0⟩ := at_L1 (cx_ HR173_0) 0 p174 q174
                 cases e174
                 obtain ⟨ce174, hce174, hMe174, hcc174⟩ := Kd.V_get HL173_0.out [] 0 p174 (by first | exact q174 | exact od_ | (have e_ := (Kd.V_reads' HL173_0.out).1; omega)); obtain ⟨ua174_0, uc174_0, rfl, ul174_0, ge174_0⟩ := Kd.FK_slice_open hMe174; have hv174_0 := hcc174 0 _ rfl; rw [Nat.add_zero, show ((Kd.slice 3 (Kd.int .i64))).sz = 1 from rfl, Nat.mul_one] at hv174_0; replace hv174_0 := Option.some.inj (hv174_0.symm.trans hx174_0)
                 injection hv174_0 with hva_ hvn_ hvc_
                 rw [hva_] at ge174_0; rw [hvc_] at ul174_0; have HL174_0 := A_ (show Kd.V (Kd.int .i64) 3 _ w.heap.size _ _ (rd_L1 (rd_L2 l0 x7_2) 0) from Kd.V_mk ul174_0 ge174_0); clear hva_ hvn_ hvc_ ge174_0 ul174_0 hcc174 hce174; have qi174 : (0 < (rd_L2 l0 x7_2).length) = True := eq_true (by omega)
                 (try rw [show ((0 : Int)).toNat = 0 from rfl] at hx174_0)
                 (try rw [Addr.add_zero'] at hx174_0)
                 have HR174_0 := A_ hi174_0; have HC174_0 := A_ hl174_0; clear hi174_0 hl174_0; replace p174 := eq_true p174; replace q174 := eq_true q174; have p175 : 0 ≤ (x7_2 : Int) := od_; have q175 : x7_2 < (l1.length : Int) := od_; obtain ⟨ad175, A175_0, c175_0, e175, hx175_0, hl175_0, hi175_0⟩ := at_L2 (Kd.V_reads' HO_1.out).2.2 x7_2 p175 q175
                 cases e175
                 obtain ⟨ce175, hce175, hMe175, hcc175⟩ := Kd.V_get HO_1.out [] x7_2 p175 (by first | exact q175 | exact od_ | (have e_ := (Kd.V_reads' HO_1.out).1; omega)); obtain ⟨ua175_0, uc175_0, rfl, ul175_0, ge175_0⟩ := Kd.FK_slice_open hMe175; have hv175_0 := hcc175 0 _ rfl; rw [Nat.add_zero, show ((Kd.slice 22 (Kd.slice 3 (Kd.int .i64)))).sz = 1 from rfl, Nat.mul_one] at hv175_0; replace hv175_0 := Option.some.inj (hv175_0.symm.trans hx175_0)
                 injection hv175_0 with hva_ hvn_ hvc_
                 rw [hva_] at ge175_0; rw [hvc_] at ul175_0; have HL175_0 := A_ (show Kd.V (Kd.slice 3 (Kd.int .i64)) 22 _ w.heap.size _ _ (rd_L2 l1 x7_2) from Kd.V_mk ul175_0 ge175_0); clear hva_ hvn_ hvc_ ge175_0 ul175_0 hcc175 hce175; have HR175_0 := A_ hi175_0; have HC175_0 := A_ hl175_0; clear hi175_0 hl175_0; replace p175 := eq_true p175; replace q175 := eq_true q175; have p176 : 0 ≤ (0 : Int) := (by omega); have q176 : 0 < ((rd_L2 l1 x7_2).length : Int) := od_; obtain ⟨ad176, A176_0, c176_0, e176, hx176_0, hl176_0, hi176_0⟩ := at_L1 (cx_ HR175_0) 0 p176 q176
                 cases e176
                 obtain ⟨ce176, hce176, hMe176, hcc176⟩ := Kd.V_get HL175_0.out [] 0 p176 (by first | exact q176 | exact od_ | (have e_ := (Kd.V_reads' HL175_0.out).1; omega)); obtain ⟨ua176_0, uc176_0, rfl, ul176_0, ge176_0⟩ := Kd.FK_slice_open hMe176; have hv176_0 := hcc176 0 _ rfl; rw [Nat.add_zero, show ((Kd.slice 3 (Kd.int .i64))).sz = 1 from rfl, Nat.mul_one] at hv176_0; replace hv176_0 := Option.some.inj (hv176_0.symm.trans hx176_0)
                 injection hv176_0 with hva_ hvn_ hvc_
                 rw [hva_] at ge176_0; rw [hvc_] at ul176_0; have HL176_0 := A_ (show Kd.V (Kd.int .i64) 3 _ w.heap.size _ _ (rd_L1 (rd_L2 l1 x7_2) 0) from Kd.V_mk ul176_0 ge176_0); clear hva_ hvn_ hvc_ ge176_0 ul176_0 hcc176 hce176; have qi176 : (0 < (rd_L2 l1 x7_2).length) = True := eq_true (by omega)
                 (try rw [show ((0 : Int)).toNat = 0 from rfl] at hx176_0)
                 (try rw [Addr.add_zero'] at hx176_0)
                 have HR176_0 := A_ hi176_0; have HC176_0 := A_ hl176_0; clear hi176_0 hl176_0; replace p176 := eq_true p176; replace q176 := eq_true q176; refine start_ (n := 15) (S := fun w' => w'.cell? (ad173.add (x7_2).toNat) = some (.slice (some ad174) (rd_L2 l0 x7_2).length c173_0) ∧ w'.cell? ad174 = some (.slice A174_0 (rd_L1 (rd_L2 l0 x7_2) 0).length c174_0) ∧ w'.cell? (ad175.add (x7_2).toNat) = some (.slice (some ad176) (rd_L2 l1 x7_2).length c175_0) ∧ w'.cell? ad176 = some (.slice A176_0 (rd_L1 (rd_L2 l1 x7_2) 0).length c176_0)) (ds := []) (B_ 15 0) (by kernel_rfl) rfl rfl ⟨hx173_0, hx174_0, hx175_0, hx176_0⟩ (fun hHeld => ?_); refine with_tabW dioramaref36_Diff.tab8 dioramaref36_Diff.bits8 (fun HT_ HW_ => ?_); generalize wc.drew = w22 at HO_0 HO_1 HO_6 HB HL173_0 HL174_0 HL175_0 HL176_0 HR173_0 HR174_0 HR175_0 HR176_0 hx173_0 hx174_0 hx175_0 hx176_0 hHeld ⊢; refine pT_ 0 46 (B_ 15 1) HT_ ?_; refine pT_ 1 47 (B_ 15 3) HT_ ?_; refine pT_ 2 48 (B_ 15 7) HT_ ?_; refine pT_ 7 53 (B_ 15 135) HT_ ?_; refine pT_ 8 54 (B_ 15 391) HT_ ?_; refine pT_ 9 55 (B_ 15 903) HT_ ?_; refine tT_ 3 49 (B_ 15 911) HT_ HW_ hHeld ?_; refine pT_ 4 50 (B_ 15 927) HT_ ?_; refine tT_ 5 51 (B_ 15 959) HT_ HW_ hHeld ?_; refine pT_ 6 52 (B_ 15 1023) HT_ ?_; refine tT_ 10 56 (B_ 15 2047) HT_ HW_ hHeld ?_; refine pT_ 11 57 (B_ 15 4095) HT_ ?_; refine tT_ 12 58 (B_ 15 8191) HT_ HW_ hHeld ?_; refine pT_ 13 59 (B_ 15 16383) HT_ ?_; refine pT_ 14 60 (B_ 15 32767) HT_ ?_; refine done_ (done_of HT_.out (by kernel_rfl)) ?_
                 try go_wp2
                 go_meet
                 case rel => exact ⟨_, H', ⟨by have := HJ2.out; have := HK2.out; have := HJ9.out; first | omega | exact Nat.le_refl _⟩, ⟨by (with_reducible repeat (first | apply Kd.V_alloc | apply Kd.V_drewN | apply Kd.V_drew)); exact HO_0.out⟩, ⟨by (with_reducible repeat (first | apply Kd.V_alloc | apply Kd.V_drewN | apply Kd.V_drew)); exact HO_1.out⟩, ⟨by (with_reducible repeat (first | apply Kd.N_alloc | apply Kd.N_drewN | apply Kd.N_drew)); exact HO_6.out⟩, ⟨bx_ HB⟩⟩
                ·rw [if_neg c21] at H
                 obtain ⟨c21b0, c21b1⟩ := bn_ c21
                 have c21b2 : ((rd_L1 (rd_L2 l0 x7_2) 0).length == (rd_L1 (rd_L2 l1 x7_2) 0).length) = false := by first | simpa using c21 | (simp at c21 ⊢; omega)
                 simp only [Option.some.injEq, Prod.mk.injEq] at H; obtain ⟨rfl, rfl⟩ := H
                 try go_wp2
                 replace HO_0 := A_ (Kd.V_drew HO_0.out); replace HO_1 := A_ (Kd.V_drew HO_1.out); replace HO_6 := A_ (Kd.N_drew HO_6.out); replace HB := A_ (below_drew1 HB.out); have p173 : 0 ≤ (x7_2 : Int) := od_; have q173 : x7_2 < (l0.length : Int) := od_; obtain ⟨ad173, A173_0, c173_0, e173, hx173_0, hl173_0, hi173_0⟩ := at_L2 (Kd.V_reads' HO_0.out).2.2 x7_2 p173 q173
                 cases e173
                 obtain ⟨ce173, hce173, hMe173, hcc173⟩ := Kd.V_get HO_0.out [] x7_2 p173 (by first | exact q173 | exact od_ | (have e_ := (Kd.V_reads' HO_0.out).1; omega)); obtain ⟨ua173_0, uc173_0, rfl, ul173_0, ge173_0⟩ := Kd.FK_slice_open hMe173; have hv173_0 := hcc173 0 _ rfl; rw [Nat.add_zero, show ((Kd.slice 22 (Kd.slice 3 (Kd.int .i64)))).sz = 1 from rfl, Nat.mul_one] at hv173_0; replace hv173_0 := Option.some.inj (hv173_0.symm.trans hx173_0)
                 injection hv173_0 with hva_ hvn_ hvc_
                 rw [hva_] at ge173_0; rw [hvc_] at ul173_0; have HL173_0 := A_ (show Kd.V (Kd.slice 3 (Kd.int .i64)) 22 _ w.heap.size _ _ (rd_L2 l0 x7_2) from Kd.V_mk ul173_0 ge173_0); clear hva_ hvn_ hvc_ ge173_0 ul173_0 hcc173 hce173; have HR173_0 := A_ hi173_0; have HC173_0 := A_ hl173_0; clear hi173_0 hl173_0; replace p173 := eq_true p173; replace q173 := eq_true q173; have p174 : 0 ≤ (0 : Int) := (by omega); have q174 : 0 < ((rd_L2 l0 x7_2).length : Int) := od_; obtain ⟨ad174, A174_0, c174_0, e174, hx174_0, hl174_0, hi174_0⟩ := at_L1 (cx_ HR173_0) 0 p174 q174
                 cases e174
                 obtain ⟨ce174, hce174, hMe174, hcc174⟩ := Kd.V_get HL173_0.out [] 0 p174 (by first | exact q174 | exact od_ | (have e_ := (Kd.V_reads' HL173_0.out).1; omega)); obtain ⟨ua174_0, uc174_0, rfl, ul174_0, ge174_0⟩ := Kd.FK_slice_open hMe174; have hv174_0 := hcc174 0 _ rfl; rw [Nat.add_zero, show ((Kd.slice 3 (Kd.int .i64))).sz = 1 from rfl, Nat.mul_one] at hv174_0; replace hv174_0 := Option.some.inj (hv174_0.symm.trans hx174_0)
                 injection hv174_0 with hva_ hvn_ hvc_
                 rw [hva_] at ge174_0; rw [hvc_] at ul174_0; have HL174_0 := A_ (show Kd.V (Kd.int .i64) 3 _ w.heap.size _ _ (rd_L1 (rd_L2 l0 x7_2) 0) from Kd.V_mk ul174_0 ge174_0); clear hva_ hvn_ hvc_ ge174_0 ul174_0 hcc174 hce174; have qi174 : (0 < (rd_L2 l0 x7_2).length) = True := eq_true (by omega)
                 (try rw [show ((0 : Int)).toNat = 0 from rfl] at hx174_0)
                 (try rw [Addr.add_zero'] at hx174_0)
                 have HR174_0 := A_ hi174_0; have HC174_0 := A_ hl174_0; clear hi174_0 hl174_0; replace p174 := eq_true p174; replace q174 := eq_true q174; have p175 : 0 ≤ (x7_2 : Int) := od_; have q175 : x7_2 < (l1.length : Int) := od_; obtain ⟨ad175, A175_0, c175_0, e175, hx175_0, hl175_0, hi175_0⟩ := at_L2 (Kd.V_reads' HO_1.out).2.2 x7_2 p175 q175
                 cases e175
                 obtain ⟨ce175, hce175, hMe175, hcc175⟩ := Kd.V_get HO_1.out [] x7_2 p175 (by first | exact q175 | exact od_ | (have e_ := (Kd.V_reads' HO_1.out).1; omega)); obtain ⟨ua175_0, uc175_0, rfl, ul175_0, ge175_0⟩ := Kd.FK_slice_open hMe175; have hv175_0 := hcc175 0 _ rfl; rw [Nat.add_zero, show ((Kd.slice 22 (Kd.slice 3 (Kd.int .i64)))).sz = 1 from rfl, Nat.mul_one] at hv175_0; replace hv175_0 := Option.some.inj (hv175_0.symm.trans hx175_0)
                 injection hv175_0 with hva_ hvn_ hvc_
                 rw [hva_] at ge175_0; rw [hvc_] at ul175_0; have HL175_0 := A_ (show Kd.V (Kd.slice 3 (Kd.int .i64)) 22 _ w.heap.size _ _ (rd_L2 l1 x7_2) from Kd.V_mk ul175_0 ge175_0); clear hva_ hvn_ hvc_ ge175_0 ul175_0 hcc175 hce175; have HR175_0 := A_ hi175_0; have HC175_0 := A_ hl175_0; clear hi175_0 hl175_0; replace p175 := eq_true p175; replace q175 := eq_true q175; have p176 : 0 ≤ (0 : Int) := (by omega); have q176 : 0 < ((rd_L2 l1 x7_2).length : Int) := od_; obtain ⟨ad176, A176_0, c176_0, e176, hx176_0, hl176_0, hi176_0⟩ := at_L1 (cx_ HR175_0) 0 p176 q176
                 cases e176
                 obtain ⟨ce176, hce176, hMe176, hcc176⟩ := Kd.V_get HL175_0.out [] 0 p176 (by first | exact q176 | exact od_ | (have e_ := (Kd.V_reads' HL175_0.out).1; omega)); obtain ⟨ua176_0, uc176_0, rfl, ul176_0, ge176_0⟩ := Kd.FK_slice_open hMe176; have hv176_0 := hcc176 0 _ rfl; rw [Nat.add_zero, show ((Kd.slice 3 (Kd.int .i64))).sz = 1 from rfl, Nat.mul_one] at hv176_0; replace hv176_0 := Option.some.inj (hv176_0.symm.trans hx176_0)
                 injection hv176_0 with hva_ hvn_ hvc_
                 rw [hva_] at ge176_0; rw [hvc_] at ul176_0; have HL176_0 := A_ (show Kd.V (Kd.int .i64) 3 _ w.heap.size _ _ (rd_L1 (rd_L2 l1 x7_2) 0) from Kd.V_mk ul176_0 ge176_0); clear hva_ hvn_ hvc_ ge176_0 ul176_0 hcc176 hce176; have qi176 : (0 < (rd_L2 l1 x7_2).length) = True := eq_true (by omega)
                 (try rw [show ((0 : Int)).toNat = 0 from rfl] at hx176_0)
                 (try rw [Addr.add_zero'] at hx176_0)
                 have HR176_0 := A_ hi176_0; have HC176_0 := A_ hl176_0; clear hi176_0 hl176_0; replace p176 := eq_true p176; replace q176 := eq_true q176; refine start_ (n := 15) (S := fun w' => w'.cell? (ad173.add (x7_2).toNat) = some (.slice (some ad174) (rd_L2 l0 x7_2).length c173_0) ∧ w'.cell? ad174 = some (.slice A174_0 (rd_L1 (rd_L2 l0 x7_2) 0).length c174_0) ∧ w'.cell? (ad175.add (x7_2).toNat) = some (.slice (some ad176) (rd_L2 l1 x7_2).length c175_0) ∧ w'.cell? ad176 = some (.slice A176_0 (rd_L1 (rd_L2 l1 x7_2) 0).length c176_0)) (ds := []) (B_ 15 0) (by kernel_rfl) rfl rfl ⟨hx173_0, hx174_0, hx175_0, hx176_0⟩ (fun hHeld => ?_); refine with_tabW dioramaref36_Diff.tab8 dioramaref36_Diff.bits8 (fun HT_ HW_ => ?_); generalize wc.drew = w23 at HO_0 HO_1 HO_6 HB HL173_0 HL174_0 HL175_0 HL176_0 HR173_0 HR174_0 HR175_0 HR176_0 hx173_0 hx174_0 hx175_0 hx176_0 hHeld ⊢; refine pT_ 0 46 (B_ 15 1) HT_ ?_; refine pT_ 1 47 (B_ 15 3) HT_ ?_; refine pT_ 2 48 (B_ 15 7) HT_ ?_; refine pT_ 7 53 (B_ 15 135) HT_ ?_; refine pT_ 8 54 (B_ 15 391) HT_ ?_; refine pT_ 9 55 (B_ 15 903) HT_ ?_; refine tT_ 3 49 (B_ 15 911) HT_ HW_ hHeld ?_; refine pT_ 4 50 (B_ 15 927) HT_ ?_; refine tT_ 5 51 (B_ 15 959) HT_ HW_ hHeld ?_; refine pT_ 6 52 (B_ 15 1023) HT_ ?_; refine tT_ 10 56 (B_ 15 2047) HT_ HW_ hHeld ?_; refine pT_ 11 57 (B_ 15 4095) HT_ ?_; refine tT_ 12 58 (B_ 15 8191) HT_ HW_ hHeld ?_; refine pT_ 13 59 (B_ 15 16383) HT_ ?_; refine pT_ 14 60 (B_ 15 32767) HT_ ?_; refine done_ (done_of HT_.out (by kernel_rfl)) ?_
                 try go_wp2
                 go_ret2; exact ⟨_, ew_, by first | exact Kd.S_nil _ _ _ _ _ | exact Kd.N_nil _ _ _ _ _ | exact Kd.V_nil _ _ _ _ _ | exact Kd.Q_nil _ _ _ _ _ | exact Kd.R_nil _ _ _ _ _, bx_ HB⟩
               (· rw [if_neg c20] at H; exact absurd H (by simp))
              (· rw [if_neg c19] at H; exact absurd H (by simp))
             (· rw [if_neg c18] at H; exact absurd H (by simp))
            (· rw [if_neg c17] at H; exact absurd H (by simp))
           (· rw [if_neg c16] at H; exact absurd H (by simp))
          ·replace c15 := Bool.eq_false_iff.mpr c15
           subst c15
           have H1 : (dioramaref36_Diff.j3 kj9 l0 l1 x6_2 x7_2) = some (r1, r2) := by rw [if_neg (show ¬ (false = true) by decide)] at H; exact H
           clear H; have H := H1; clear H1; have H' := A_ H; clear H; go_wp2
           go_meet
           case rel => exact ⟨_, H', ⟨by have := HJ2.out; have := HK2.out; have := HJ9.out; first | omega | exact Nat.le_refl _⟩, ⟨by (with_reducible repeat (first | apply Kd.V_alloc | apply Kd.V_drewN | apply Kd.V_drew)); exact HO_0.out⟩, ⟨by (with_reducible repeat (first | apply Kd.V_alloc | apply Kd.V_drewN | apply Kd.V_drew)); exact HO_1.out⟩, ⟨by (with_reducible repeat (first | apply Kd.N_alloc | apply Kd.N_drewN | apply Kd.N_drew)); exact HO_6.out⟩, ⟨bx_ HB⟩⟩
         case rest =>
          clear HC14
          try clear c1
          try clear c8
          try clear c9
          try clear c9b0
          obtain ⟨kq, HA, HJ13, HO_0, HO_1, HO_6, HB⟩ := hcut
          cases kq with
          | zero => exact absurd HA.out (by simp [dioramaref36_Diff.j3])
          | succ kj13 =>
           have H := HA.out; clear HA; simp only [dioramaref36_Diff.j3] at H
           by_cases c24 : 0 ≤ x7_2
           ·rw [if_pos c24] at H
            have c24b0 := decide_eq_true c24; clear c24
            by_cases c25 : x7_2 < (l0.length : Int)
            ·rw [if_pos c25] at H
             have c25b0 := decide_eq_true c25; clear c25
             by_cases c26 : x7_2 < (l1.length : Int)
             ·rw [if_pos c26] at H
              have c26b0 := decide_eq_true c26; clear c26; replace H := Option.bind_eq_some_iff.mp H; obtain ⟨t179, A270, H⟩ := H
              (try dsimp only at H)
              have A27 := A_ A270; clear A270; have H' := A_ H; clear H
              try go_wp2
              replace HO_0 := A_ (Kd.V_drew HO_0.out); replace HO_1 := A_ (Kd.V_drew HO_1.out); replace HO_6 := A_ (Kd.N_drew HO_6.out); replace HB := A_ (below_drew1 HB.out); have p177 : 0 ≤ (x7_2 : Int) := od_; have q177 : x7_2 < (l0.length : Int) := od_; obtain ⟨ad177, A177_0, c177_0, e177, hx177_0, hl177_0, hi177_0⟩ := at_L2 (Kd.V_reads' HO_0.out).2.2 x7_2 p177 q177
              cases e177
              obtain ⟨ce177, hce177, hMe177, hcc177⟩ := Kd.V_get HO_0.out [] x7_2 p177 (by first | exact q177 | exact od_ | (have e_ := (Kd.V_reads' HO_0.out).1; omega)); obtain ⟨ua177_0, uc177_0, rfl, ul177_0, ge177_0⟩ := Kd.FK_slice_open hMe177; have hv177_0 := hcc177 0 _ rfl; rw [Nat.add_zero, show ((Kd.slice 22 (Kd.slice 3 (Kd.int .i64)))).sz = 1 from rfl, Nat.mul_one] at hv177_0; replace hv177_0 := Option.some.inj (hv177_0.symm.trans hx177_0)
              injection hv177_0 with hva_ hvn_ hvc_
              rw [hva_] at ge177_0; rw [hvc_] at ul177_0; have HL177_0 := A_ (show Kd.V (Kd.slice 3 (Kd.int .i64)) 22 _ w.heap.size _ _ (rd_L2 l0 x7_2) from Kd.V_mk ul177_0 ge177_0); clear hva_ hvn_ hvc_ ge177_0 ul177_0 hcc177 hce177; have HR177_0 := A_ hi177_0; have HC177_0 := A_ hl177_0; clear hi177_0 hl177_0; replace p177 := eq_true p177; replace q177 := eq_true q177; have p178 : 0 ≤ (x7_2 : Int) := od_; have q178 : x7_2 < (l1.length : Int) := od_; obtain ⟨ad178, A178_0, c178_0, e178, hx178_0, hl178_0, hi178_0⟩ := at_L2 (Kd.V_reads' HO_1.out).2.2 x7_2 p178 q178
              cases e178
              obtain ⟨ce178, hce178, hMe178, hcc178⟩ := Kd.V_get HO_1.out [] x7_2 p178 (by first | exact q178 | exact od_ | (have e_ := (Kd.V_reads' HO_1.out).1; omega)); obtain ⟨ua178_0, uc178_0, rfl, ul178_0, ge178_0⟩ := Kd.FK_slice_open hMe178; have hv178_0 := hcc178 0 _ rfl; rw [Nat.add_zero, show ((Kd.slice 22 (Kd.slice 3 (Kd.int .i64)))).sz = 1 from rfl, Nat.mul_one] at hv178_0; replace hv178_0 := Option.some.inj (hv178_0.symm.trans hx178_0)
              injection hv178_0 with hva_ hvn_ hvc_
              rw [hva_] at ge178_0; rw [hvc_] at ul178_0; have HL178_0 := A_ (show Kd.V (Kd.slice 3 (Kd.int .i64)) 22 _ w.heap.size _ _ (rd_L2 l1 x7_2) from Kd.V_mk ul178_0 ge178_0); clear hva_ hvn_ hvc_ ge178_0 ul178_0 hcc178 hce178; have HR178_0 := A_ hi178_0; have HC178_0 := A_ hl178_0; clear hi178_0 hl178_0; replace p178 := eq_true p178; replace q178 := eq_true q178; refine start_ (n := 11) (S := fun w' => w'.cell? (ad177.add (x7_2).toNat) = some (.slice A177_0 (rd_L2 l0 x7_2).length c177_0) ∧ w'.cell? (ad178.add (x7_2).toNat) = some (.slice A178_0 (rd_L2 l1 x7_2).length c178_0)) (ds := []) (B_ 11 0) (by kernel_rfl) rfl rfl ⟨hx177_0, hx178_0⟩ (fun hHeld => ?_); refine with_tabW dioramaref36_Diff.tab10 dioramaref36_Diff.bits10 (fun HT_ HW_ => ?_); generalize wc.drew = w28 at HO_0 HO_1 HO_6 HB HL177_0 HL178_0 HR177_0 HR178_0 hx177_0 hx178_0 hHeld ⊢; refine pT_ 0 61 (B_ 11 1) HT_ ?_; refine pT_ 1 62 (B_ 11 3) HT_ ?_; refine pT_ 2 63 (B_ 11 7) HT_ ?_; refine pT_ 3 64 (B_ 11 15) HT_ ?_; refine pT_ 5 66 (B_ 11 47) HT_ ?_; refine pT_ 6 67 (B_ 11 111) HT_ ?_; refine pT_ 7 68 (B_ 11 239) HT_ ?_; refine tT_ 4 65 (B_ 11 255) HT_ HW_ hHeld ?_; refine tT_ 8 69 (B_ 11 511) HT_ HW_ hHeld ?_; refine one_ (i := 9) (N := some 70) (B_ 11 1023) rfl rfl (one_of HT_.out (by kernel_rfl)) (by decide) (fun K hK => ?_); refine goes_ Try.func41 (by kernel_rfl) rfl #[.int .i64 x7_2, .slice A177_0 (rd_L2 l0 x7_2).length c177_0, .slice A178_0 (rd_L2 l1 x7_2).length c178_0, .int .i64 0] (by rfl) rfl rfl lm_ ?_
              with_reducible refine (dioramaref36_List.calls kj13 x7_2 (fun k_ => (((P0_ k_ ∨ P1_ k_) ∨ w.heap.size ≤ k_) ∧ some k_ ≠ (u6 : Value).ownBlock)) _ _ (rd_L2 l0 x7_2) (fun k_ => (((P0_ k_ ∨ P1_ k_) ∨ w.heap.size ≤ k_) ∧ some k_ ≠ (u6 : Value).ownBlock)) _ _ (rd_L2 l1 x7_2) 0 t179 _ ?side1 ?side2 A27.out).mono ?_
              (case side1 => exact HL177_0.out)
              (case side2 => exact HL178_0.out)
              rintro e w29 ⟨v180, rfl, ho0, hb⟩; have HS0_ := hd_ hb (hHeld.1); have HS1_ := hd_ hb (hHeld.2); refine ⟨_, rfl, ?_⟩; replace HO_0 := A_ (Kd.V_elder' (vx_ HO_0) (Kd.N_base ho0) hb); replace HO_1 := A_ (Kd.V_elder' (vx_ HO_1) (Kd.N_base ho0) hb); replace HL177_0 := A_ (Kd.V_elder' (vx_ HL177_0) (Kd.N_base ho0) hb); replace HL178_0 := A_ (Kd.V_elder' (vx_ HL178_0) (Kd.N_base ho0) hb); have HO181 := A_ (Kd.N_lower (Kd.N_mono (ok' := fun k_ => ((P0_ k_ ∨ P1_ k_) ∨ w.heap.size ≤ k_) ∧ some k_ ≠ (u6 : Value).ownBlock) ho0 (fun k_ hk_ => ⟨Or.elim hk_ (fun hs_ => Or.elim hs_ (fun hs_ => hs_.1) (fun hs_ => hs_.1)) (fun hn_ => (.inr (Nat.le_trans (below_size (bx_ HB)) hn_))), Or.elim hk_ (fun hs_ => Or.elim hs_ (fun hs_ => hs_.2) (fun hs_ => hs_.2)) (fun hn_ => (Kd.fresh' (Kd.N_lt (nx_ HO_6)) k_ hn_))⟩)) (below_size (bx_ HB))); replace HO_6 := A_ (Kd.N_elder' (nx_ HO_6) (Kd.N_base ho0) hb); replace HR177_0 := A_ (Kd.C_below (cx_ HR177_0) hb); replace HR178_0 := A_ (Kd.C_below (cx_ HR178_0) hb); replace HB := A_ (below_step (bx_ HB) hb)
              (try clear hb)
              (try clear hk)
              (try clear ho0)
              refine hK.out _ _ ⟨HS0_, HS1_⟩ (fun hHeld => ?_); clear hK K; refine norm_ (a' := ?_) ?_ ?_; rotate_left
              ·show Act.put _ (some 70) _ = _
               simp only [Act.put, sA_, sB_, sC_, i64_w, i32_w]; rfl
              refine pT_ 10 8 (B_ 11 2047) HT_ ?_; refine done_ (done_of HT_.out (by kernel_rfl)) ?_
              try go_wp2
              go_loopg [8, 9] kj13 (fun kq v8 v9 w' => ∃ (x8_5 : List (S76)) (x9_5 : Int), v9 = .int .i64 x9_5 ∧ Aside0 (dioramaref36_Diff.l1 kq l0 l1 x6_2 x7_2 x8_5 x9_5 = some (r1, r2)) ∧ Aside0 (kq ≤ kj13) ∧ Aside0 (Kd.V (Kd.slice 22 (Kd.slice 3 (Kd.int .i64))) 64 w' w.heap.size (fun k_ => ((P0_ k_ ∨ P1_ k_) ∨ w.heap.size ≤ k_) ∧ some k_ ≠ (u6 : Value).ownBlock ∧ some k_ ≠ (v8 : Value).ownBlock) (.slice (some ad177) l0.length c0) l0) ∧ Aside0 (Kd.V (Kd.slice 22 (Kd.slice 3 (Kd.int .i64))) 64 w' w.heap.size (fun k_ => ((P0_ k_ ∨ P1_ k_) ∨ w.heap.size ≤ k_) ∧ some k_ ≠ (u6 : Value).ownBlock ∧ some k_ ≠ (v8 : Value).ownBlock) (.slice (some ad178) l1.length c1) l1) ∧ Aside0 (Kd.N k76 76 w' w.heap.size (fun k_ => ((P0_ k_ ∨ P1_ k_) ∨ w.heap.size ≤ k_) ∧ some k_ ≠ (v8 : Value).ownBlock) u6 x6_2) ∧ Aside0 (Kd.N k76 76 w' w.heap.size (fun k_ => ((P0_ k_ ∨ P1_ k_) ∨ w.heap.size ≤ k_) ∧ some k_ ≠ (u6 : Value).ownBlock) v8 x8_5) ∧ Aside0 (Kd.C (Kd.slice 3 (Kd.int .i64)) w' A177_0 (rd_L2 l0 x7_2).length (rd_L2 l0 x7_2)) ∧ Aside0 (Kd.C (Kd.slice 3 (Kd.int .i64)) w' A178_0 (rd_L2 l1 x7_2).length (rd_L2 l1 x7_2)) ∧ Aside0 (Below w.heap.size w w'))
              case atStart => exact ⟨(t179), (1), rf_, H', ⟨Nat.le_refl _⟩, ⟨by (with_reducible repeat (first | apply Kd.V_alloc | apply Kd.V_drewN | apply Kd.V_drew)); exact Kd.V_mono HO_0.out (fun _ hk => ⟨hk.1.1, ⟨hk.1.2, hk.2⟩⟩)⟩, ⟨by (with_reducible repeat (first | apply Kd.V_alloc | apply Kd.V_drewN | apply Kd.V_drew)); exact Kd.V_mono HO_1.out (fun _ hk => ⟨hk.1.1, ⟨hk.1.2, hk.2⟩⟩)⟩, ⟨by (with_reducible repeat (first | apply Kd.N_alloc | apply Kd.N_drewN | apply Kd.N_drew)); exact HO_6.out⟩, ⟨by (with_reducible repeat (first | apply Kd.N_alloc | apply Kd.N_drewN | apply Kd.N_drew)); exact HO181.out⟩, ⟨by repeat (first | (with_reducible exact HR177_0.out) | (with_reducible refine Kd.C_alloc ?_ _) | (with_reducible refine Kd.C_drewN ?_ _) | (with_reducible refine Kd.C_drew ?_) | exact HR177_0.out)⟩, ⟨by repeat (first | (with_reducible exact HR178_0.out) | (with_reducible refine Kd.C_alloc ?_ _) | (with_reducible refine Kd.C_drewN ?_ _) | (with_reducible refine Kd.C_drew ?_) | exact HR178_0.out)⟩, ⟨bx_ HB⟩⟩
              case round =>
               clear H'
               try clear c1
               try clear c8
               try clear c9
               try clear c9b0
               try clear c24
               try clear c24b0
               try clear c25
               try clear c25b0
               try clear c26
               try clear c26b0
               try clear hx177_0
               try clear hx178_0
               try clear p177
               try clear p178
               try clear q177
               try clear q178
               obtain ⟨x8_5, x9_5, rfl, HA, HK5, HO_0, HO_1, HO_6, HO_8, HR177_0, HR178_0, HB⟩ := hrel
               cases gk with
               | zero => exact absurd HA.out (by simp [dioramaref36_Diff.l1])
               | succ k5 =>
                have H := HA.out; clear HA; simp only [dioramaref36_Diff.l1] at H; have HC30 := A_ H; clear H
                go_upto_region 12 with (fail)
                go_cut [86] (fun v86 wc => ∃ (kq : Nat) (x86_29 : Bool), v86 = .bool x86_29 ∧ Aside0 (dioramaref36_Diff.j5 kq l0 l1 x6_2 x7_2 x8_5 x9_5 x86_29 = some (r1, r2)) ∧ Aside0 (kq ≤ k5) ∧ Aside0 (Kd.V (Kd.slice 22 (Kd.slice 3 (Kd.int .i64))) 64 wc w.heap.size (fun k_ => ((P0_ k_ ∨ P1_ k_) ∨ w.heap.size ≤ k_) ∧ some k_ ≠ (u6 : Value).ownBlock ∧ some k_ ≠ (u8 : Value).ownBlock) (.slice (some ad177) l0.length c0) l0) ∧ Aside0 (Kd.V (Kd.slice 22 (Kd.slice 3 (Kd.int .i64))) 64 wc w.heap.size (fun k_ => ((P0_ k_ ∨ P1_ k_) ∨ w.heap.size ≤ k_) ∧ some k_ ≠ (u6 : Value).ownBlock ∧ some k_ ≠ (u8 : Value).ownBlock) (.slice (some ad178) l1.length c1) l1) ∧ Aside0 (Kd.N k76 76 wc w.heap.size (fun k_ => ((P0_ k_ ∨ P1_ k_) ∨ w.heap.size ≤ k_) ∧ some k_ ≠ (u8 : Value).ownBlock) u6 x6_2) ∧ Aside0 (Kd.N k76 76 wc w.heap.size (fun k_ => ((P0_ k_ ∨ P1_ k_) ∨ w.heap.size ≤ k_) ∧ some k_ ≠ (u6 : Value).ownBlock) u8 x8_5) ∧ Aside0 (Kd.C (Kd.slice 3 (Kd.int .i64)) wc A177_0 (rd_L2 l0 x7_2).length (rd_L2 l0 x7_2)) ∧ Aside0 (Kd.C (Kd.slice 3 (Kd.int .i64)) wc A178_0 (rd_L2 l1 x7_2).length (rd_L2 l1 x7_2)) ∧ Aside0 (Below w.heap.size w wc))
                case first =>
                 have H := HC30.out; clear HC30
                 by_cases c31 : 0 ≤ x7_2
                 ·rw [if_pos c31] at H
                  have c31b0 := decide_eq_true c31; clear c31
                  (first | rw [c31b0] | (simp only [i64_w, i32_w]; rw [c31b0]) | skip)
                  by_cases c32 : x7_2 < (l0.length : Int)
                  ·rw [if_pos c32] at H
                   have c32b0 := decide_eq_true c32; clear c32
                   by_cases c33 : x9_5 ≤ ((rd_L2 l0 x7_2).length : Int)
                   ·rw [if_pos c33] at H
                    have c33b0 := decide_eq_true c33; clear c33
                    by_cases c34 : x7_2 < (l1.length : Int)
                    ·rw [if_pos c34] at H
                     have c34b0 := decide_eq_true c34; clear c34; have H' := A_ H; clear H; have p182 : 0 ≤ (x7_2 : Int) := od_; have q182 : x7_2 < (l0.length : Int) := od_; obtain ⟨ad182, A182_0, c182_0, e182, hx182_0, hl182_0, hi182_0⟩ := at_L2 (Kd.V_reads' HO_0.out).2.2 x7_2 p182 q182; obtain rfl : ad177 = ad182 := (by injection e182); obtain ⟨ce182, hce182, hMe182, hcc182⟩ := Kd.V_get HO_0.out [] x7_2 p182 (by first | exact q182 | exact od_ | (have e_ := (Kd.V_reads' HO_0.out).1; omega)); obtain ⟨ua182_0, uc182_0, rfl, ul182_0, ge182_0⟩ := Kd.FK_slice_open hMe182; have hv182_0 := hcc182 0 _ rfl; rw [Nat.add_zero, show ((Kd.slice 22 (Kd.slice 3 (Kd.int .i64)))).sz = 1 from rfl, Nat.mul_one] at hv182_0; replace hv182_0 := Option.some.inj (hv182_0.symm.trans hx182_0)
                     injection hv182_0 with hva_ hvn_ hvc_
                     rw [hva_] at ge182_0; rw [hvc_] at ul182_0; have HL182_0 := A_ (show Kd.V (Kd.slice 3 (Kd.int .i64)) 22 _ w.heap.size _ _ (rd_L2 l0 x7_2) from Kd.V_mk ul182_0 ge182_0); clear hva_ hvn_ hvc_ ge182_0 ul182_0 hcc182 hce182; have HR182_0 := A_ hi182_0; have HC182_0 := A_ hl182_0; clear hi182_0 hl182_0; replace p182 := eq_true p182; replace q182 := eq_true q182; have p183 : 0 ≤ (x7_2 : Int) := od_; have q183 : x7_2 < (l1.length : Int) := od_; obtain ⟨ad183, A183_0, c183_0, e183, hx183_0, hl183_0, hi183_0⟩ := at_L2 (Kd.V_reads' HO_1.out).2.2 x7_2 p183 q183; obtain rfl : ad178 = ad183 := (by injection e183); obtain ⟨ce183, hce183, hMe183, hcc183⟩ := Kd.V_get HO_1.out [] x7_2 p183 (by first | exact q183 | exact od_ | (have e_ := (Kd.V_reads' HO_1.out).1; omega)); obtain ⟨ua183_0, uc183_0, rfl, ul183_0, ge183_0⟩ := Kd.FK_slice_open hMe183; have hv183_0 := hcc183 0 _ rfl; rw [Nat.add_zero, show ((Kd.slice 22 (Kd.slice 3 (Kd.int .i64)))).sz = 1 from rfl, Nat.mul_one] at hv183_0; replace hv183_0 := Option.some.inj (hv183_0.symm.trans hx183_0)
                     injection hv183_0 with hva_ hvn_ hvc_
                     rw [hva_] at ge183_0; rw [hvc_] at ul183_0; have HL183_0 := A_ (show Kd.V (Kd.slice 3 (Kd.int .i64)) 22 _ w.heap.size _ _ (rd_L2 l1 x7_2) from Kd.V_mk ul183_0 ge183_0); clear hva_ hvn_ hvc_ ge183_0 ul183_0 hcc183 hce183; have HR183_0 := A_ hi183_0; have HC183_0 := A_ hl183_0; clear hi183_0 hl183_0; replace p183 := eq_true p183; replace q183 := eq_true q183; go_wp2
                     go_meet
                     case rel => exact ⟨_, (decide (x9_5 ≤ ((rd_L2 l1 x7_2).length : Int))), rf_, H', ⟨by have := HJ2.out; have := HK2.out; have := HJ9.out; have := HJ13.out; have := HK5.out; first | omega | exact Nat.le_refl _⟩, ⟨by (with_reducible repeat (first | apply Kd.V_alloc | apply Kd.V_drewN | apply Kd.V_drew)); exact HO_0.out⟩, ⟨by (with_reducible repeat (first | apply Kd.V_alloc | apply Kd.V_drewN | apply Kd.V_drew)); exact HO_1.out⟩, ⟨by (with_reducible repeat (first | apply Kd.N_alloc | apply Kd.N_drewN | apply Kd.N_drew)); exact HO_6.out⟩, ⟨by (with_reducible repeat (first | apply Kd.N_alloc | apply Kd.N_drewN | apply Kd.N_drew)); exact HO_8.out⟩, ⟨by repeat (first | (with_reducible exact HR177_0.out) | (with_reducible refine Kd.C_alloc ?_ _) | (with_reducible refine Kd.C_drewN ?_ _) | (with_reducible refine Kd.C_drew ?_) | exact HR177_0.out)⟩, ⟨by repeat (first | (with_reducible exact HR178_0.out) | (with_reducible refine Kd.C_alloc ?_ _) | (with_reducible refine Kd.C_drewN ?_ _) | (with_reducible refine Kd.C_drew ?_) | exact HR178_0.out)⟩, ⟨bx_ HB⟩⟩
                    (· rw [if_neg c34] at H; exact absurd H (by simp))
                   ·rw [if_neg c33] at H
                    have c33b0 := decide_eq_false c33; clear c33; have H' := A_ H; clear H; have p182 : 0 ≤ (x7_2 : Int) := od_; have q182 : x7_2 < (l0.length : Int) := od_; obtain ⟨ad182, A182_0, c182_0, e182, hx182_0, hl182_0, hi182_0⟩ := at_L2 (Kd.V_reads' HO_0.out).2.2 x7_2 p182 q182; obtain rfl : ad177 = ad182 := (by injection e182); obtain ⟨ce182, hce182, hMe182, hcc182⟩ := Kd.V_get HO_0.out [] x7_2 p182 (by first | exact q182 | exact od_ | (have e_ := (Kd.V_reads' HO_0.out).1; omega)); obtain ⟨ua182_0, uc182_0, rfl, ul182_0, ge182_0⟩ := Kd.FK_slice_open hMe182; have hv182_0 := hcc182 0 _ rfl; rw [Nat.add_zero, show ((Kd.slice 22 (Kd.slice 3 (Kd.int .i64)))).sz = 1 from rfl, Nat.mul_one] at hv182_0; replace hv182_0 := Option.some.inj (hv182_0.symm.trans hx182_0)
                    injection hv182_0 with hva_ hvn_ hvc_
                    rw [hva_] at ge182_0; rw [hvc_] at ul182_0; have HL182_0 := A_ (show Kd.V (Kd.slice 3 (Kd.int .i64)) 22 _ w.heap.size _ _ (rd_L2 l0 x7_2) from Kd.V_mk ul182_0 ge182_0); clear hva_ hvn_ hvc_ ge182_0 ul182_0 hcc182 hce182; have HR182_0 := A_ hi182_0; have HC182_0 := A_ hl182_0; clear hi182_0 hl182_0; replace p182 := eq_true p182; replace q182 := eq_true q182; go_wp2
                    go_meet
                    case rel => exact ⟨_, (false), rf_, H', ⟨by have := HJ2.out; have := HK2.out; have := HJ9.out; have := HJ13.out; have := HK5.out; first | omega | exact Nat.le_refl _⟩, ⟨by (with_reducible repeat (first | apply Kd.V_alloc | apply Kd.V_drewN | apply Kd.V_drew)); exact HO_0.out⟩, ⟨by (with_reducible repeat (first | apply Kd.V_alloc | apply Kd.V_drewN | apply Kd.V_drew)); exact HO_1.out⟩, ⟨by (with_reducible repeat (first | apply Kd.N_alloc | apply Kd.N_drewN | apply Kd.N_drew)); exact HO_6.out⟩, ⟨by (with_reducible repeat (first | apply Kd.N_alloc | apply Kd.N_drewN | apply Kd.N_drew)); exact HO_8.out⟩, ⟨by repeat (first | (with_reducible exact HR177_0.out) | (with_reducible refine Kd.C_alloc ?_ _) | (with_reducible refine Kd.C_drewN ?_ _) | (with_reducible refine Kd.C_drew ?_) | exact HR177_0.out)⟩, ⟨by repeat (first | (with_reducible exact HR178_0.out) | (with_reducible refine Kd.C_alloc ?_ _) | (with_reducible refine Kd.C_drewN ?_ _) | (with_reducible refine Kd.C_drew ?_) | exact HR178_0.out)⟩, ⟨bx_ HB⟩⟩
                  (· rw [if_neg c32] at H; exact absurd H (by simp))
                 (· rw [if_neg c31] at H; exact absurd H (by simp))
                case rest =>
                 clear HC30
                 try clear c1
                 try clear c8
                 try clear c9
                 try clear c9b0
                 try clear c24
                 try clear c24b0
                 try clear c25
                 try clear c25b0
                 try clear c26
                 try clear c26b0
                 try clear hx177_0
                 try clear hx178_0
                 try clear p177
                 try clear p178
                 try clear q177
                 try clear q178
                 obtain ⟨kq, x86_29, rfl, HA, HJ29, HO_0, HO_1, HO_6, HO_8, HR177_0, HR178_0, HB⟩ := hcut
                 cases kq with
                 | zero => exact absurd HA.out (by simp [dioramaref36_Diff.j5])
                 | succ kj29 =>
                  have H := HA.out; clear HA; simp only [dioramaref36_Diff.j5] at H
                  by_cases c35 : x86_29 = true
                  ·subst c35
                   have H1 : (if 0 ≤ x7_2 then (if x7_2 < (l0.length : Int) then (if x7_2 < (l1.length : Int) then ((dioramaref36_List.f kj29 x7_2 (rd_L2 l0 x7_2) (rd_L2 l1 x7_2) x9_5).bind fun t186 => (if (t186.length : Int) ≤ (x8_5.length : Int) then (dioramaref36_Diff.l1 kj29 l0 l1 x6_2 x7_2 t186 (wrap64 (x9_5 + 1))) else (dioramaref36_Diff.l1 kj29 l0 l1 x6_2 x7_2 x8_5 (wrap64 (x9_5 + 1))))) else (none)) else (none)) else (none)) = some (r1, r2) := by rw [if_pos rfl] at H; exact H
                   clear H; have H := H1; clear H1
                   by_cases c36 : 0 ≤ x7_2
                   ·rw [if_pos c36] at H
                    have c36b0 := decide_eq_true c36; clear c36
                    by_cases c37 : x7_2 < (l0.length : Int)
                    ·rw [if_pos c37] at H
                     have c37b0 := decide_eq_true c37; clear c37
                     by_cases c38 : x7_2 < (l1.length : Int)
                     ·rw [if_pos c38] at H
                      have c38b0 := decide_eq_true c38; clear c38; replace H := Option.bind_eq_some_iff.mp H; obtain ⟨t186, A390, H⟩ := H
                      (try dsimp only at H)
                      have A39 := A_ A390; clear A390
                      by_cases c40 : (t186.length : Int) ≤ (x8_5.length : Int)
                      ·rw [if_pos c40] at H
                       have c40b0 := decide_eq_true c40; have c40b1 : decide (t186.length ≤ x8_5.length) = true := decide_eq_true (Int.ofNat_le.mp c40); clear c40; have H' := A_ H; clear H
                       try go_wp2
                       replace HO_0 := A_ (Kd.V_drew HO_0.out); replace HO_1 := A_ (Kd.V_drew HO_1.out); replace HO_6 := A_ (Kd.N_drew HO_6.out); replace HO_8 := A_ (Kd.N_drew HO_8.out); replace HR177_0 := A_ (Kd.C_drew HR177_0.out); replace HR178_0 := A_ (Kd.C_drew HR178_0.out); replace HB := A_ (below_drew1 HB.out); have p184 : 0 ≤ (x7_2 : Int) := od_; have q184 : x7_2 < (l0.length : Int) := od_; obtain ⟨ad184, A184_0, c184_0, e184, hx184_0, hl184_0, hi184_0⟩ := at_L2 (Kd.V_reads' HO_0.out).2.2 x7_2 p184 q184; obtain rfl : ad177 = ad184 := (by injection e184); obtain ⟨ce184, hce184, hMe184, hcc184⟩ := Kd.V_get HO_0.out [] x7_2 p184 (by first | exact q184 | exact od_ | (have e_ := (Kd.V_reads' HO_0.out).1; omega)); obtain ⟨ua184_0, uc184_0, rfl, ul184_0, ge184_0⟩ := Kd.FK_slice_open hMe184; have hv184_0 := hcc184 0 _ rfl; rw [Nat.add_zero, show ((Kd.slice 22 (Kd.slice 3 (Kd.int .i64)))).sz = 1 from rfl, Nat.mul_one] at hv184_0; replace hv184_0 := Option.some.inj (hv184_0.symm.trans hx184_0)
                       injection hv184_0 with hva_ hvn_ hvc_
                       rw [hva_] at ge184_0; rw [hvc_] at ul184_0; have HL184_0 := A_ (show Kd.V (Kd.slice 3 (Kd.int .i64)) 22 _ w.heap.size _ _ (rd_L2 l0 x7_2) from Kd.V_mk ul184_0 ge184_0); clear hva_ hvn_ hvc_ ge184_0 ul184_0 hcc184 hce184; have HR184_0 := A_ hi184_0; have HC184_0 := A_ hl184_0; clear hi184_0 hl184_0; replace p184 := eq_true p184; replace q184 := eq_true q184; have p185 : 0 ≤ (x7_2 : Int) := od_; have q185 : x7_2 < (l1.length : Int) := od_; obtain ⟨ad185, A185_0, c185_0, e185, hx185_0, hl185_0, hi185_0⟩ := at_L2 (Kd.V_reads' HO_1.out).2.2 x7_2 p185 q185; obtain rfl : ad178 = ad185 := (by injection e185); obtain ⟨ce185, hce185, hMe185, hcc185⟩ := Kd.V_get HO_1.out [] x7_2 p185 (by first | exact q185 | exact od_ | (have e_ := (Kd.V_reads' HO_1.out).1; omega)); obtain ⟨ua185_0, uc185_0, rfl, ul185_0, ge185_0⟩ := Kd.FK_slice_open hMe185; have hv185_0 := hcc185 0 _ rfl; rw [Nat.add_zero, show ((Kd.slice 22 (Kd.slice 3 (Kd.int .i64)))).sz = 1 from rfl, Nat.mul_one] at hv185_0; replace hv185_0 := Option.some.inj (hv185_0.symm.trans hx185_0)
                       injection hv185_0 with hva_ hvn_ hvc_
                       rw [hva_] at ge185_0; rw [hvc_] at ul185_0; have HL185_0 := A_ (show Kd.V (Kd.slice 3 (Kd.int .i64)) 22 _ w.heap.size _ _ (rd_L2 l1 x7_2) from Kd.V_mk ul185_0 ge185_0); clear hva_ hvn_ hvc_ ge185_0 ul185_0 hcc185 hce185; have HR185_0 := A_ hi185_0; have HC185_0 := A_ hl185_0; clear hi185_0 hl185_0; replace p185 := eq_true p185; replace q185 := eq_true q185; refine start_ (n := 12) (S := fun w' => w'.cell? (ad177.add (x7_2).toNat) = some (.slice A184_0 (rd_L2 l0 x7_2).length c184_0) ∧ w'.cell? (ad178.add (x7_2).toNat) = some (.slice A185_0 (rd_L2 l1 x7_2).length c185_0)) (ds := []) (B_ 12 0) (by kernel_rfl) rfl rfl ⟨hx184_0, hx185_0⟩ (fun hHeld => ?_); refine with_tabW dioramaref36_Diff.tab14 dioramaref36_Diff.bits14 (fun HT_ HW_ => ?_); generalize wc.drew = w41 at HO_0 HO_1 HO_6 HO_8 HR177_0 HR178_0 HB HL184_0 HL185_0 HR184_0 HR185_0 hx184_0 hx185_0 hHeld ⊢; refine pT_ 0 89 (B_ 12 1) HT_ ?_; refine pT_ 1 90 (B_ 12 3) HT_ ?_; refine pT_ 2 91 (B_ 12 7) HT_ ?_; refine pT_ 3 92 (B_ 12 15) HT_ ?_; refine pT_ 5 94 (B_ 12 47) HT_ ?_; refine pT_ 6 95 (B_ 12 111) HT_ ?_; refine pT_ 7 96 (B_ 12 239) HT_ ?_; refine pT_ 9 98 (B_ 12 751) HT_ ?_; refine tT_ 4 93 (B_ 12 767) HT_ HW_ hHeld ?_; refine tT_ 8 97 (B_ 12 1023) HT_ HW_ hHeld ?_; refine one_ (i := 10) (N := some 99) (B_ 12 2047) rfl rfl (one_of HT_.out (by kernel_rfl)) (by decide) (fun K hK => ?_); refine goes_ Try.func41 (by kernel_rfl) rfl #[.int .i64 x7_2, .slice A184_0 (rd_L2 l0 x7_2).length c184_0, .slice A185_0 (rd_L2 l1 x7_2).length c185_0, .int .i64 x9_5] (by rfl) rfl rfl lm_ ?_
                       with_reducible refine (dioramaref36_List.calls kj29 x7_2 (fun k_ => (((P0_ k_ ∨ P1_ k_) ∨ w.heap.size ≤ k_) ∧ (some k_ ≠ (u6 : Value).ownBlock ∧ some k_ ≠ (u8 : Value).ownBlock))) _ _ (rd_L2 l0 x7_2) (fun k_ => (((P0_ k_ ∨ P1_ k_) ∨ w.heap.size ≤ k_) ∧ (some k_ ≠ (u6 : Value).ownBlock ∧ some k_ ≠ (u8 : Value).ownBlock))) _ _ (rd_L2 l1 x7_2) x9_5 t186 _ ?side1 ?side2 A39.out).mono ?_
                       (case side1 => exact HL184_0.out)
                       (case side2 => exact HL185_0.out)
                       rintro e w42 ⟨v187, rfl, ho0, hb⟩; have HS0_ := hd_ hb (hHeld.1); have HS1_ := hd_ hb (hHeld.2); refine ⟨_, rfl, ?_⟩; replace HO_0 := A_ (Kd.V_elder' (vx_ HO_0) (Kd.N_base ho0) hb); replace HO_1 := A_ (Kd.V_elder' (vx_ HO_1) (Kd.N_base ho0) hb); replace HL184_0 := A_ (Kd.V_elder' (vx_ HL184_0) (Kd.N_base ho0) hb); replace HL185_0 := A_ (Kd.V_elder' (vx_ HL185_0) (Kd.N_base ho0) hb); have HO188 := A_ (Kd.N_lower (Kd.N_mono (ok' := fun k_ => ((P0_ k_ ∨ P1_ k_) ∨ w.heap.size ≤ k_) ∧ some k_ ≠ (u6 : Value).ownBlock ∧ some k_ ≠ (u8 : Value).ownBlock) ho0 (fun k_ hk_ => ⟨Or.elim hk_ (fun hs_ => Or.elim hs_ (fun hs_ => hs_.1) (fun hs_ => hs_.1)) (fun hn_ => (.inr (Nat.le_trans (below_size (bx_ HB)) hn_))), Or.elim hk_ (fun hs_ => Or.elim hs_ (fun hs_ => hs_.2.1) (fun hs_ => hs_.2.1)) (fun hn_ => (Kd.fresh' (Kd.N_lt (nx_ HO_6)) k_ hn_)), Or.elim hk_ (fun hs_ => Or.elim hs_ (fun hs_ => hs_.2.2) (fun hs_ => hs_.2.2)) (fun hn_ => (Kd.fresh' (Kd.N_lt (nx_ HO_8)) k_ hn_))⟩)) (below_size (bx_ HB))); replace HO_6 := A_ (Kd.N_elder' (nx_ HO_6) (Kd.N_base ho0) hb); replace HO_8 := A_ (Kd.N_elder' (nx_ HO_8) (Kd.N_base ho0) hb); replace HR177_0 := A_ (Kd.C_below (cx_ HR177_0) hb); replace HR178_0 := A_ (Kd.C_below (cx_ HR178_0) hb); replace HR184_0 := A_ (Kd.C_below (cx_ HR184_0) hb); replace HR185_0 := A_ (Kd.C_below (cx_ HR185_0) hb); replace HB := A_ (below_step (bx_ HB) hb)
                       (try clear hb)
                       (try clear hk)
                       (try clear ho0)
                       refine hK.out _ _ ⟨HS0_, HS1_⟩ (fun hHeld => ?_); clear hK K; refine norm_ (a' := ?_) ?_ ?_; rotate_left
                       ·show Act.put _ (some 99) _ = _
                        simp only [Act.put, sA_, sB_, sC_, i64_w, i32_w]; rfl
                       refine pT_ 11 10 (B_ 12 4095) HT_ ?_; refine done_ (done_of HT_.out (by kernel_rfl)) ?_; obtain ⟨Ao43, co43, eo43⟩ := Kd.N_slice HO188.out; subst eo43; obtain ⟨Ao44, co44, eo44⟩ := Kd.N_slice HO_8.out; subst eo44
                       try go_wp2
                       go_roundg kj29
                       case measure => have := HJ2.out; have := HK2.out; have := HJ9.out; have := HJ13.out; have := HK5.out; have := HJ29.out; omega
                       case rel => exact ⟨(t186), (wrap64 (x9_5 + 1)), rf_, H', ⟨by have := HJ2.out; have := HK2.out; have := HJ9.out; have := HJ13.out; have := HK5.out; have := HJ29.out; omega⟩, ⟨by (with_reducible repeat (first | apply Kd.V_alloc | apply Kd.V_drewN | apply Kd.V_drew)); exact Kd.V_mono HO_0.out (fun _ hk => ⟨hk.1.1, ⟨hk.1.2.1, hk.2⟩⟩)⟩, ⟨by (with_reducible repeat (first | apply Kd.V_alloc | apply Kd.V_drewN | apply Kd.V_drew)); exact Kd.V_mono HO_1.out (fun _ hk => ⟨hk.1.1, ⟨hk.1.2.1, hk.2⟩⟩)⟩, ⟨by (with_reducible repeat (first | apply Kd.N_alloc | apply Kd.N_drewN | apply Kd.N_drew)); exact Kd.N_mono HO_6.out (fun _ hk => ⟨hk.1.1, hk.2⟩)⟩, ⟨by (with_reducible repeat (first | apply Kd.N_alloc | apply Kd.N_drewN | apply Kd.N_drew)); exact Kd.N_mono HO188.out (fun _ hk => ⟨hk.1, hk.2.1⟩)⟩, ⟨by repeat (first | (with_reducible exact HR177_0.out) | (with_reducible refine Kd.C_alloc ?_ _) | (with_reducible refine Kd.C_drewN ?_ _) | (with_reducible refine Kd.C_drew ?_) | exact HR177_0.out)⟩, ⟨by repeat (first | (with_reducible exact HR178_0.out) | (with_reducible refine Kd.C_alloc ?_ _) | (with_reducible refine Kd.C_drewN ?_ _) | (with_reducible refine Kd.C_drew ?_) | exact HR178_0.out)⟩, ⟨bx_ HB⟩⟩
                      ·rw [if_neg c40] at H
                       have c40b0 := decide_eq_false c40; have c40b1 : decide (t186.length ≤ x8_5.length) = false := decide_eq_false (fun h => c40 (Int.ofNat_le.mpr h)); clear c40; have H' := A_ H; clear H
                       try go_wp2
                       replace HO_0 := A_ (Kd.V_drew HO_0.out); replace HO_1 := A_ (Kd.V_drew HO_1.out); replace HO_6 := A_ (Kd.N_drew HO_6.out); replace HO_8 := A_ (Kd.N_drew HO_8.out); replace HR177_0 := A_ (Kd.C_drew HR177_0.out); replace HR178_0 := A_ (Kd.C_drew HR178_0.out); replace HB := A_ (below_drew1 HB.out); have p184 : 0 ≤ (x7_2 : Int) := od_; have q184 : x7_2 < (l0.length : Int) := od_; obtain ⟨ad184, A184_0, c184_0, e184, hx184_0, hl184_0, hi184_0⟩ := at_L2 (Kd.V_reads' HO_0.out).2.2 x7_2 p184 q184; obtain rfl : ad177 = ad184 := (by injection e184); obtain ⟨ce184, hce184, hMe184, hcc184⟩ := Kd.V_get HO_0.out [] x7_2 p184 (by first | exact q184 | exact od_ | (have e_ := (Kd.V_reads' HO_0.out).1; omega)); obtain ⟨ua184_0, uc184_0, rfl, ul184_0, ge184_0⟩ := Kd.FK_slice_open hMe184; have hv184_0 := hcc184 0 _ rfl; rw [Nat.add_zero, show ((Kd.slice 22 (Kd.slice 3 (Kd.int .i64)))).sz = 1 from rfl, Nat.mul_one] at hv184_0; replace hv184_0 := Option.some.inj (hv184_0.symm.trans hx184_0)
                       injection hv184_0 with hva_ hvn_ hvc_
                       rw [hva_] at ge184_0; rw [hvc_] at ul184_0; have HL184_0 := A_ (show Kd.V (Kd.slice 3 (Kd.int .i64)) 22 _ w.heap.size _ _ (rd_L2 l0 x7_2) from Kd.V_mk ul184_0 ge184_0); clear hva_ hvn_ hvc_ ge184_0 ul184_0 hcc184 hce184; have HR184_0 := A_ hi184_0; have HC184_0 := A_ hl184_0; clear hi184_0 hl184_0; replace p184 := eq_true p184; replace q184 := eq_true q184; have p185 : 0 ≤ (x7_2 : Int) := od_; have q185 : x7_2 < (l1.length : Int) := od_; obtain ⟨ad185, A185_0, c185_0, e185, hx185_0, hl185_0, hi185_0⟩ := at_L2 (Kd.V_reads' HO_1.out).2.2 x7_2 p185 q185; obtain rfl : ad178 = ad185 := (by injection e185); obtain ⟨ce185, hce185, hMe185, hcc185⟩ := Kd.V_get HO_1.out [] x7_2 p185 (by first | exact q185 | exact od_ | (have e_ := (Kd.V_reads' HO_1.out).1; omega)); obtain ⟨ua185_0, uc185_0, rfl, ul185_0, ge185_0⟩ := Kd.FK_slice_open hMe185; have hv185_0 := hcc185 0 _ rfl; rw [Nat.add_zero, show ((Kd.slice 22 (Kd.slice 3 (Kd.int .i64)))).sz = 1 from rfl, Nat.mul_one] at hv185_0; replace hv185_0 := Option.some.inj (hv185_0.symm.trans hx185_0)
                       injection hv185_0 with hva_ hvn_ hvc_
                       rw [hva_] at ge185_0; rw [hvc_] at ul185_0; have HL185_0 := A_ (show Kd.V (Kd.slice 3 (Kd.int .i64)) 22 _ w.heap.size _ _ (rd_L2 l1 x7_2) from Kd.V_mk ul185_0 ge185_0); clear hva_ hvn_ hvc_ ge185_0 ul185_0 hcc185 hce185; have HR185_0 := A_ hi185_0; have HC185_0 := A_ hl185_0; clear hi185_0 hl185_0; replace p185 := eq_true p185; replace q185 := eq_true q185; refine start_ (n := 12) (S := fun w' => w'.cell? (ad177.add (x7_2).toNat) = some (.slice A184_0 (rd_L2 l0 x7_2).length c184_0) ∧ w'.cell? (ad178.add (x7_2).toNat) = some (.slice A185_0 (rd_L2 l1 x7_2).length c185_0)) (ds := []) (B_ 12 0) (by kernel_rfl) rfl rfl ⟨hx184_0, hx185_0⟩ (fun hHeld => ?_); refine with_tabW dioramaref36_Diff.tab14 dioramaref36_Diff.bits14 (fun HT_ HW_ => ?_); generalize wc.drew = w45 at HO_0 HO_1 HO_6 HO_8 HR177_0 HR178_0 HB HL184_0 HL185_0 HR184_0 HR185_0 hx184_0 hx185_0 hHeld ⊢; refine pT_ 0 89 (B_ 12 1) HT_ ?_; refine pT_ 1 90 (B_ 12 3) HT_ ?_; refine pT_ 2 91 (B_ 12 7) HT_ ?_; refine pT_ 3 92 (B_ 12 15) HT_ ?_; refine pT_ 5 94 (B_ 12 47) HT_ ?_; refine pT_ 6 95 (B_ 12 111) HT_ ?_; refine pT_ 7 96 (B_ 12 239) HT_ ?_; refine pT_ 9 98 (B_ 12 751) HT_ ?_; refine tT_ 4 93 (B_ 12 767) HT_ HW_ hHeld ?_; refine tT_ 8 97 (B_ 12 1023) HT_ HW_ hHeld ?_; refine one_ (i := 10) (N := some 99) (B_ 12 2047) rfl rfl (one_of HT_.out (by kernel_rfl)) (by decide) (fun K hK => ?_); refine goes_ Try.func41 (by kernel_rfl) rfl #[.int .i64 x7_2, .slice A184_0 (rd_L2 l0 x7_2).length c184_0, .slice A185_0 (rd_L2 l1 x7_2).length c185_0, .int .i64 x9_5] (by rfl) rfl rfl lm_ ?_
                       with_reducible refine (dioramaref36_List.calls kj29 x7_2 (fun k_ => (((P0_ k_ ∨ P1_ k_) ∨ w.heap.size ≤ k_) ∧ (some k_ ≠ (u6 : Value).ownBlock ∧ some k_ ≠ (u8 : Value).ownBlock))) _ _ (rd_L2 l0 x7_2) (fun k_ => (((P0_ k_ ∨ P1_ k_) ∨ w.heap.size ≤ k_) ∧ (some k_ ≠ (u6 : Value).ownBlock ∧ some k_ ≠ (u8 : Value).ownBlock))) _ _ (rd_L2 l1 x7_2) x9_5 t186 _ ?side1 ?side2 A39.out).mono ?_
                       (case side1 => exact HL184_0.out)
                       (case side2 => exact HL185_0.out)
                       rintro e w46 ⟨v187, rfl, ho0, hb⟩; have HS0_ := hd_ hb (hHeld.1); have HS1_ := hd_ hb (hHeld.2); refine ⟨_, rfl, ?_⟩; replace HO_0 := A_ (Kd.V_elder' (vx_ HO_0) (Kd.N_base ho0) hb); replace HO_1 := A_ (Kd.V_elder' (vx_ HO_1) (Kd.N_base ho0) hb); replace HL184_0 := A_ (Kd.V_elder' (vx_ HL184_0) (Kd.N_base ho0) hb); replace HL185_0 := A_ (Kd.V_elder' (vx_ HL185_0) (Kd.N_base ho0) hb); have HO188 := A_ (Kd.N_lower (Kd.N_mono (ok' := fun k_ => ((P0_ k_ ∨ P1_ k_) ∨ w.heap.size ≤ k_) ∧ some k_ ≠ (u6 : Value).ownBlock ∧ some k_ ≠ (u8 : Value).ownBlock) ho0 (fun k_ hk_ => ⟨Or.elim hk_ (fun hs_ => Or.elim hs_ (fun hs_ => hs_.1) (fun hs_ => hs_.1)) (fun hn_ => (.inr (Nat.le_trans (below_size (bx_ HB)) hn_))), Or.elim hk_ (fun hs_ => Or.elim hs_ (fun hs_ => hs_.2.1) (fun hs_ => hs_.2.1)) (fun hn_ => (Kd.fresh' (Kd.N_lt (nx_ HO_6)) k_ hn_)), Or.elim hk_ (fun hs_ => Or.elim hs_ (fun hs_ => hs_.2.2) (fun hs_ => hs_.2.2)) (fun hn_ => (Kd.fresh' (Kd.N_lt (nx_ HO_8)) k_ hn_))⟩)) (below_size (bx_ HB))); replace HO_6 := A_ (Kd.N_elder' (nx_ HO_6) (Kd.N_base ho0) hb); replace HO_8 := A_ (Kd.N_elder' (nx_ HO_8) (Kd.N_base ho0) hb); replace HR177_0 := A_ (Kd.C_below (cx_ HR177_0) hb); replace HR178_0 := A_ (Kd.C_below (cx_ HR178_0) hb); replace HR184_0 := A_ (Kd.C_below (cx_ HR184_0) hb); replace HR185_0 := A_ (Kd.C_below (cx_ HR185_0) hb); replace HB := A_ (below_step (bx_ HB) hb)
                       (try clear hb)
                       (try clear hk)
                       (try clear ho0)
                       refine hK.out _ _ ⟨HS0_, HS1_⟩ (fun hHeld => ?_); clear hK K; refine norm_ (a' := ?_) ?_ ?_; rotate_left
                       ·show Act.put _ (some 99) _ = _
                        simp only [Act.put, sA_, sB_, sC_, i64_w, i32_w]; rfl
                       refine pT_ 11 10 (B_ 12 4095) HT_ ?_; refine done_ (done_of HT_.out (by kernel_rfl)) ?_; obtain ⟨Ao47, co47, eo47⟩ := Kd.N_slice HO188.out; subst eo47; obtain ⟨Ao48, co48, eo48⟩ := Kd.N_slice HO_8.out; subst eo48
                       try go_wp2
                       go_roundg kj29
                       case measure => have := HJ2.out; have := HK2.out; have := HJ9.out; have := HJ13.out; have := HK5.out; have := HJ29.out; omega
                       case rel => exact ⟨(x8_5), (wrap64 (x9_5 + 1)), rf_, H', ⟨by have := HJ2.out; have := HK2.out; have := HJ9.out; have := HJ13.out; have := HK5.out; have := HJ29.out; omega⟩, ⟨by (with_reducible repeat (first | apply Kd.V_alloc | apply Kd.V_drewN | apply Kd.V_drew)); exact Kd.V_mono HO_0.out (fun _ hk => ⟨hk.1.1, ⟨hk.1.2.1, hk.1.2.2⟩⟩)⟩, ⟨by (with_reducible repeat (first | apply Kd.V_alloc | apply Kd.V_drewN | apply Kd.V_drew)); exact Kd.V_mono HO_1.out (fun _ hk => ⟨hk.1.1, ⟨hk.1.2.1, hk.1.2.2⟩⟩)⟩, ⟨by (with_reducible repeat (first | apply Kd.N_alloc | apply Kd.N_drewN | apply Kd.N_drew)); exact Kd.N_mono HO_6.out (fun _ hk => ⟨hk.1.1, hk.1.2⟩)⟩, ⟨by (with_reducible repeat (first | apply Kd.N_alloc | apply Kd.N_drewN | apply Kd.N_drew)); exact Kd.N_mono HO_8.out (fun _ hk => ⟨hk.1.1, hk.1.2⟩)⟩, ⟨by repeat (first | (with_reducible exact HR177_0.out) | (with_reducible refine Kd.C_alloc ?_ _) | (with_reducible refine Kd.C_drewN ?_ _) | (with_reducible refine Kd.C_drew ?_) | exact HR177_0.out)⟩, ⟨by repeat (first | (with_reducible exact HR178_0.out) | (with_reducible refine Kd.C_alloc ?_ _) | (with_reducible refine Kd.C_drewN ?_ _) | (with_reducible refine Kd.C_drew ?_) | exact HR178_0.out)⟩, ⟨bx_ HB⟩⟩
                     (· rw [if_neg c38] at H; exact absurd H (by simp))
                    (· rw [if_neg c37] at H; exact absurd H (by simp))
                   (· rw [if_neg c36] at H; exact absurd H (by simp))
                  ·replace c35 := Bool.eq_false_iff.mpr c35
                   subst c35
                   have H1 : (if x6_2.length + x8_5.length < 2199023255552 then (dioramaref36_Diff.l0 kj29 l0 l1 (x6_2 ++ x8_5) (wrap64 (x7_2 + 1))) else (none)) = some (r1, r2) := by rw [if_neg (show ¬ (false = true) by decide)] at H; exact H
                   clear H; have H := H1; clear H1
                   by_cases c49 : x6_2.length + x8_5.length < 2199023255552
                   ·rw [if_pos c49] at H
                    have LMc49 := A_ c49; clear c49; obtain ⟨y189, hy189⟩ : ∃ y_ : List (S76), y_ = (x6_2 ++ x8_5) := ⟨_, rfl⟩; replace H : (dioramaref36_Diff.l0 kj29 l0 l1 y189 (wrap64 (x7_2 + 1))) = some (r1, r2) := rh_ hy189 H; have Ny189 := A_ hy189; clear hy189; have H' := A_ H; clear H; obtain ⟨Ao51, co51, eo51⟩ := Kd.N_slice HO_8.out; subst eo51
                    go_wp2_with (first | ((with_reducible refine gate_builtin (b := .append) (xs := #[.tmp 106, .tmp 107]) rfl ?_); (try (refine gate_guard (by rfl) ?_; dsimp only)); at_builtin; refine Kd.N_append_rows k76 (w0 := w) w.heap.size rfl (.tmp 106) (.tmp 107) 34 76 (.agg #[(.int .i64 0), (.int .i64 0), (.int .i64 0), (.int .i64 0), (.int .i64 0), (.slice none 0 0)]) 64 rfl Try.underlying34 info76 rfl (by decide) (by omega) u6 x6_2 x8_5 _ _ _ (fun k_ => ((P0_ k_ ∨ P1_ k_) ∨ w.heap.size ≤ k_)) (fun k_ => ((fun k_ => ((P0_ k_ ∨ P1_ k_) ∨ w.heap.size ≤ k_))) k_ ∧ some k_ ≠ (u6 : Value).ownBlock) rfl rfl ?aO ?aR (fun _ hk => hk) ?aF ?aB ?aS ?aL ?_; (case aR => exact (by skip; exact Kd.N_F (Kd.N_mono (ok' := (fun k_ => ((fun k_ => ((P0_ k_ ∨ P1_ k_) ∨ w.heap.size ≤ k_))) k_ ∧ some k_ ≠ (u6 : Value).ownBlock)) (HO_8.out) (fun k_ hk => ⟨hk.1, hk.2⟩)))); (case aB => exact (bx_ HB)); (case aF => exact (fun k_ hk => (.inr (Nat.le_trans (below_size (bx_ HB)) hk)))); (case aO => exact (by (with_reducible repeat (first | apply Kd.N_alloc | apply Kd.N_drewN | apply Kd.N_drew)); exact Kd.N_mono HO_6.out (fun _ hk => hk.1))); (case aS => exact (below_size (bx_ HB))); (case aL => have := LMc49.out; omega); intro v190 w50 ho hb hg hat; rw [← Ny189.out] at ho; have n0_ := A_ (Kd.V_afterv (ok := (fun k_ => ((P0_ k_ ∨ P1_ k_) ∨ w.heap.size ≤ k_) ∧ some k_ ≠ (.slice Ao51 x8_5.length co51 : Value).ownBlock)) (by (with_reducible repeat (first | apply Kd.V_alloc | apply Kd.V_drewN | apply Kd.V_drew)); exact Kd.V_mono HO_0.out (fun _ hk => ⟨⟨hk.1, hk.2.2⟩, hk.2.1⟩)) hg hat); have n1_ := A_ (Kd.V_afterv (ok := (fun k_ => ((P0_ k_ ∨ P1_ k_) ∨ w.heap.size ≤ k_) ∧ some k_ ≠ (.slice Ao51 x8_5.length co51 : Value).ownBlock)) (by (with_reducible repeat (first | apply Kd.V_alloc | apply Kd.V_drewN | apply Kd.V_drew)); exact Kd.V_mono HO_1.out (fun _ hk => ⟨⟨hk.1, hk.2.2⟩, hk.2.1⟩)) hg hat); have n2_ := A_ (Kd.N_afterv (ok := (fun k_ => ((P0_ k_ ∨ P1_ k_) ∨ w.heap.size ≤ k_))) (nx_ HO_8) hg hat); have n3_ := A_ (hb); have n4_ := A_ (ho); clear HO_0 HO_1 HO_8 HB HO_6; have HO_0 := n0_; have HO_1 := n1_; have HO_8 := n2_; have HB := n3_; have HO191 := n4_; clear n0_ n1_ n2_ n3_ n4_; clear ho hb hg hat))
                    go_roundg kj29
                    case measure => have := HJ2.out; have := HK2.out; have := HJ9.out; have := HJ13.out; have := HK5.out; have := HJ29.out; omega
                    case rel => exact ⟨(y189), (wrap64 (x7_2 + 1)), rf_, H', ⟨by have := HJ2.out; have := HK2.out; have := HJ9.out; have := HJ13.out; have := HK5.out; have := HJ29.out; omega⟩, ⟨by (with_reducible repeat (first | apply Kd.V_alloc | apply Kd.V_drewN | apply Kd.V_drew)); exact Kd.V_mono HO_0.out (fun _ hk => ⟨hk.1.1, hk.2⟩)⟩, ⟨by (with_reducible repeat (first | apply Kd.V_alloc | apply Kd.V_drewN | apply Kd.V_drew)); exact Kd.V_mono HO_1.out (fun _ hk => ⟨hk.1.1, hk.2⟩)⟩, ⟨by (with_reducible repeat (first | apply Kd.N_alloc | apply Kd.N_drewN | apply Kd.N_drew)); exact HO191.out⟩, ⟨bx_ HB⟩⟩
                   (· rw [if_neg c49] at H; exact absurd H (by simp))
             (· rw [if_neg c26] at H; exact absurd H (by simp))
            (· rw [if_neg c25] at H; exact absurd H (by simp))
           (· rw [if_neg c24] at H; exact absurd H (by simp))
      (· rw [if_neg c9] at H; have c9b0 := decide_eq_false c9; clear c9; simp only [Option.some.injEq, Prod.mk.injEq] at H; obtain ⟨rfl, rfl⟩ := H; go_wp2; go_ret2; exact ⟨_, ew_, by (with_reducible repeat (first | apply Kd.N_alloc | apply Kd.N_drewN | apply Kd.N_drew)); exact HO_6.out, bx_ HB⟩)
def dioramaref01_SameInts.l0 : Nat → List Int → List Int → Int → Option (Bool)
 | 0, _, _, _ => none
 | k + 1, x0, x1, x5 => if x5 < (x0.length : Int) then (if 0 ≤ x5 then (if x5 < (x1.length : Int) then (if (rd x0 x5) = (rd x1 x5) then (dioramaref01_SameInts.l0 k x0 x1 (wrap64 (x5 + 1))) else (some false)) else (none)) else (none)) else (some true)
def dioramaref01_SameInts.f (k : Nat) (l0 : List Int) (l1 : List Int) : Option (Bool) := if (l0.length : Int) = (l1.length : Int) then (dioramaref01_SameInts.l0 k l0 l1 0) else (some false)
set_option maxHeartbeats 8000000 in
set_option maxRecDepth 100000 in
theorem dioramaref01_SameInts.calls (k : Nat) (A0 : Option Addr) (c0 : Nat) (l0 : List Int) (A1 : Option Addr) (c1 : Nat) (l1 : List Int) (r : Bool) (w : World) (hr0 : Kd.C (Kd.int .i64) w A0 l0.length l0) (hc0 : l0.length ≤ c0) (hr1 : Kd.C (Kd.int .i64) w A1 l1.length l1) (hc1 : l1.length ≤ c1) (h : dioramaref01_SameInts.f k l0 l1 = some r) :
  Calls Try.prog 31 #[.slice A0 l0.length c0, .slice A1 l1.length c1] w fun e w' => e = .returned (.bool r) ∧ Drawn0 w w' := by
 have HR0 := A_ hr0; have HC0 := A_ hc0; clear hr0 hc0; have HR1 := A_ hr1; have HC1 := A_ hc1; clear hr1 hc1; have H : (if (l0.length : Int) = (l1.length : Int) then (dioramaref01_SameInts.l0 k l0 l1 0) else (some false)) = some r := h; clear h
 by_cases c3 : (l0.length : Int) = (l1.length : Int)
 ·rw [if_pos c3] at H
  obtain ⟨c3b0, c3b1⟩ := be_ c3
  have c3b2 : (l0.length == l1.length) = true := by first | simpa using c3 | (simp at c3 ⊢; omega)
  clear c3; have H' := A_ H; clear H
  go_enter Try.func31, Try.ntmps31
  go_wp2
  repeat (go_quiet (fail); try go_wp2)
  go_loopg [5] k (fun kq v5 w' => ∃ (x5_1 : Int), v5 = .int .i64 x5_1 ∧ Aside0 (dioramaref01_SameInts.l0 kq l0 l1 x5_1 = some r) ∧ Aside0 (kq ≤ k) ∧ Drawn0 w w')
  case atStart => exact ⟨(0), rf_, H', ⟨Nat.le_refl _⟩, by repeat (first | exact Drawn0.refl _ | apply Drawn0.step)⟩
  case round =>
   clear H'
   try clear c3
   try clear c3b0
   try clear c3b1
   try clear c3b2
   obtain ⟨x5_1, rfl, HA, HK1, ⟨m1, rfl⟩⟩ := hrel
   cases gk with
   | zero => exact absurd HA.out (by simp [dioramaref01_SameInts.l0])
   | succ k1 =>
    have H := HA.out; clear HA; simp only [dioramaref01_SameInts.l0] at H
    by_cases c4 : x5_1 < (l0.length : Int)
    ·rw [if_pos c4] at H
     have c4b0 := decide_eq_true c4; clear c4
     by_cases c5 : 0 ≤ x5_1
     ·rw [if_pos c5] at H
      have c5b0 := decide_eq_true c5; clear c5
      by_cases c6 : x5_1 < (l1.length : Int)
      ·rw [if_pos c6] at H
       have c6b0 := decide_eq_true c6; clear c6
       by_cases c7 : (rd l0 x5_1) = (rd l1 x5_1)
       ·rw [if_pos c7] at H
        obtain ⟨c7b0, c7b1⟩ := be_ c7; clear c7; have H' := A_ H; clear H; have p192 : 0 ≤ (x5_1 : Int) := od_; have q192 : x5_1 < (l0.length : Int) := od_; obtain ⟨ad192, e192, hx192_0⟩ := Kd.at_int HR0.out x5_1 p192 q192
        cases e192
        replace p192 := eq_true p192; replace q192 := eq_true q192; have p193 : 0 ≤ (x5_1 : Int) := od_; have q193 : x5_1 < (l1.length : Int) := od_; obtain ⟨ad193, e193, hx193_0⟩ := Kd.at_int HR1.out x5_1 p193 q193
        cases e193
        replace p193 := eq_true p193; replace q193 := eq_true q193; go_wp2
        repeat (go_quiet (fail); try go_wp2)
        go_roundg k1
        case measure => have := HK1.out; omega
        case rel => exact ⟨(wrap64 (x5_1 + 1)), rf_, H', ⟨by have := HK1.out; omega⟩, by repeat (first | exact Drawn0.refl _ | apply Drawn0.step)⟩
       ·rw [if_neg c7] at H
        obtain ⟨c7b0, c7b1⟩ := bn_ c7; obtain rfl := Option.some.inj H; have p192 : 0 ≤ (x5_1 : Int) := od_; have q192 : x5_1 < (l0.length : Int) := od_; obtain ⟨ad192, e192, hx192_0⟩ := Kd.at_int HR0.out x5_1 p192 q192
        cases e192
        replace p192 := eq_true p192; replace q192 := eq_true q192; have p193 : 0 ≤ (x5_1 : Int) := od_; have q193 : x5_1 < (l1.length : Int) := od_; obtain ⟨ad193, e193, hx193_0⟩ := Kd.at_int HR1.out x5_1 p193 q193
        cases e193
        replace p193 := eq_true p193; replace q193 := eq_true q193; go_wp2
        repeat (go_quiet (fail); try go_wp2)
        go_ret; exact ⟨by first | rfl | (simp; done) | (simp [*]; done), by repeat (first | exact Drawn0.refl _ | apply Drawn0.step)⟩
      (· rw [if_neg c6] at H; exact absurd H (by simp))
     (· rw [if_neg c5] at H; exact absurd H (by simp))
    ·rw [if_neg c4] at H
     have c4b0 := decide_eq_false c4; clear c4; obtain rfl := Option.some.inj H; go_wp2
     repeat (go_quiet (fail); try go_wp2)
     go_ret; exact ⟨by first | rfl | (simp; done) | (simp [*]; done), by repeat (first | exact Drawn0.refl _ | apply Drawn0.step)⟩
 ·rw [if_neg c3] at H
  obtain ⟨c3b0, c3b1⟩ := bn_ c3
  have c3b2 : (l0.length == l1.length) = false := by first | simpa using c3 | (simp at c3 ⊢; omega)
  obtain rfl := Option.some.inj H
  go_enter Try.func31, Try.ntmps31
  go_wp2
  repeat (go_quiet (fail); try go_wp2)
  go_ret; exact ⟨by first | rfl | (simp; done) | (simp [*]; done), by repeat (first | exact Drawn0.refl _ | apply Drawn0.step)⟩
def dioramaref36_Same.f (k : Nat) (a0_0 : Int) (a0_1 : Int) (a0_2 : Int) (a0_3 : Int) (a0_4 : Int) (l0_5 : List Int) (a1_0 : Int) (a1_1 : Int) (a1_2 : Int) (a1_3 : Int) (a1_4 : Int) (l1_5 : List Int) : Option (Bool) := if a0_0 = a1_0 then (if a0_1 = a1_1 then (if a0_2 = a1_2 then (if a0_3 = a1_3 then (if a0_4 = a1_4 then ((dioramaref01_SameInts.f k l0_5 l1_5).bind fun t196 => (some t196)) else (some false)) else (some false)) else (some false)) else (some false)) else (some false)
set_option maxHeartbeats 8000000 in
set_option maxRecDepth 100000 in
theorem dioramaref36_Same.calls (k : Nat) (a0_0 : Int) (a0_1 : Int) (a0_2 : Int) (a0_3 : Int) (a0_4 : Int) (A0_5 : Option Addr) (c0_5 : Nat) (l0_5 : List Int) (a1_0 : Int) (a1_1 : Int) (a1_2 : Int) (a1_3 : Int) (a1_4 : Int) (A1_5 : Option Addr) (c1_5 : Nat) (l1_5 : List Int) (r : Bool) (w : World) (hr0_5 : Kd.C (Kd.int .i64) w A0_5 l0_5.length l0_5) (hc0_5 : l0_5.length ≤ c0_5) (hr1_5 : Kd.C (Kd.int .i64) w A1_5 l1_5.length l1_5) (hc1_5 : l1_5.length ≤ c1_5) (h : dioramaref36_Same.f k a0_0 a0_1 a0_2 a0_3 a0_4 l0_5 a1_0 a1_1 a1_2 a1_3 a1_4 l1_5 = some r) :
  Calls Try.prog 42 #[.agg #[.int .i64 a0_0, .int .i64 a0_1, .int .i64 a0_2, .int .i64 a0_3, .int .i64 a0_4, .slice A0_5 l0_5.length c0_5], .agg #[.int .i64 a1_0, .int .i64 a1_1, .int .i64 a1_2, .int .i64 a1_3, .int .i64 a1_4, .slice A1_5 l1_5.length c1_5]] w fun e w' => e = .returned (.bool r) ∧ Below w.heap.size w w' := by
 have hu76 := Try.underlying76; have HR0_5 := A_ hr0_5; have HC0_5 := A_ hc0_5; clear hr0_5 hc0_5; have HR1_5 := A_ hr1_5; have HC1_5 := A_ hc1_5; clear hr1_5 hc1_5; have HB := A_ (Below.refl w.heap.size w); have H : (if a0_0 = a1_0 then (if a0_1 = a1_1 then (if a0_2 = a1_2 then (if a0_3 = a1_3 then (if a0_4 = a1_4 then ((dioramaref01_SameInts.f k l0_5 l1_5).bind fun t196 => (some t196)) else (some false)) else (some false)) else (some false)) else (some false)) else (some false)) = some r := h; clear h
 by_cases c3 : a0_0 = a1_0
 ·rw [if_pos c3] at H
  obtain ⟨c3b0, c3b1⟩ := be_ c3; clear c3
  by_cases c4 : a0_1 = a1_1
  ·rw [if_pos c4] at H
   obtain ⟨c4b0, c4b1⟩ := be_ c4; clear c4
   by_cases c5 : a0_2 = a1_2
   ·rw [if_pos c5] at H
    obtain ⟨c5b0, c5b1⟩ := be_ c5; clear c5
    by_cases c6 : a0_3 = a1_3
    ·rw [if_pos c6] at H
     obtain ⟨c6b0, c6b1⟩ := be_ c6; clear c6
     by_cases c7 : a0_4 = a1_4
     ·rw [if_pos c7] at H
      obtain ⟨c7b0, c7b1⟩ := be_ c7; clear c7; replace H := Option.bind_eq_some_iff.mp H; obtain ⟨t196, A80, H⟩ := H
      (try dsimp only at H)
      have A8 := A_ A80; clear A80; obtain rfl := Option.some.inj H
      go_enter Try.func42, Try.ntmps42
      go_wp2_with (first | ((with_reducible refine gate_dst (N := 2) rfl ?_); refine box_event ?hg (N := 2) ?hd (cs := #[.int .i64 a0_0, .int .i64 a0_1, .int .i64 a0_2, .int .i64 a0_3, .int .i64 a0_4, .slice A0_5 l0_5.length c0_5]) (t := 76) ?hr ?_; (case hd => rfl); (case hg => rfl); (case hr => first | (go_simp; done) | (go_simp; rfl)); intro gb194 hg w9 hbox hb; have BK194 := A_ (hbox); have GW194 := A_ ((by rw [hg]; exact (below_size (bx_ HB)) : w.heap.size ≤ gb194)); have GE194 := A_ ((by rw [hg]; exact (below_size (bx_ HB)) : w.heap.size ≤ gb194)); replace HB := A_ (below_step (bx_ HB) hb); clear hb hbox hg) | ((with_reducible refine gate_dst (N := 3) rfl ?_); refine box_event ?hg (N := 3) ?hd (cs := #[.int .i64 a1_0, .int .i64 a1_1, .int .i64 a1_2, .int .i64 a1_3, .int .i64 a1_4, .slice A1_5 l1_5.length c1_5]) (t := 76) ?hr ?_; (case hd => rfl); (case hg => rfl); (case hr => first | (go_simp; done) | (go_simp; rfl)); intro gb195 hg w10 hbox hb; have BK195 := A_ (hbox); have GW195 := A_ ((by rw [hg]; exact (below_size (by repeat (first | (with_reducible first | exact HB.out | apply below_alloc | apply pw_below_drewN | apply below_drew1 | refine below_set ?_ GE194.out) | exact HB.out))) : w.heap.size ≤ gb195)); have GE195 := A_ ((by rw [hg]; exact (below_size (by repeat (first | (with_reducible first | exact HB.out | apply below_alloc | apply pw_below_drewN | apply below_drew1 | refine below_set ?_ GE194.out) | exact HB.out))) : w.heap.size ≤ gb195)); replace HB := A_ (below_step (by repeat (first | (with_reducible first | exact HB.out | apply below_alloc | apply pw_below_drewN | apply below_drew1 | refine below_set ?_ GE194.out) | exact HB.out)) hb); have NB194_195 := A_ ((by rw [hg]; exact Nat.ne_of_lt (blk_lt (g := gb194) (o := .cells #[.int .i64 a0_0, .int .i64 a0_1, .int .i64 a0_2, .int .i64 a0_3, .int .i64 a0_4, .slice A0_5 l0_5.length c0_5] 76 (0, 0)) (kx_ BK194)) : gb194 ≠ gb195)); have NB195_194 := A_ ((by rw [hg]; exact Nat.ne_of_gt (blk_lt (g := gb194) (o := .cells #[.int .i64 a0_0, .int .i64 a0_1, .int .i64 a0_2, .int .i64 a0_3, .int .i64 a0_4, .slice A0_5 l0_5.length c0_5] 76 (0, 0)) (kx_ BK194)) : gb195 ≠ gb194)); replace BK194 := A_ (blk_below (g := gb194) (o := .cells #[.int .i64 a0_0, .int .i64 a0_1, .int .i64 a0_2, .int .i64 a0_3, .int .i64 a0_4, .slice A0_5 l0_5.length c0_5] 76 (0, 0)) (kx_ BK194) hb); clear hb hbox hg; have hnb11 := NB194_195.out; have hnc11 := NB195_194.out; obtain ⟨hcz12_0, hcz12_1, hcz12_2, hcz12_3, hcz12_4, hcz12_5⟩ := k6_ BK194; obtain ⟨hfz12_0, hfz12_1, hfz12_2, hfz12_3, hfz12_4, hfz12_5⟩ := f6_ BK194; obtain ⟨hcz13_0, hcz13_1, hcz13_2, hcz13_3, hcz13_4, hcz13_5⟩ := k6_ BK195; obtain ⟨hfz13_0, hfz13_1, hfz13_2, hfz13_3, hfz13_4, hfz13_5⟩ := f6_ BK195) | (go_at_call 31; (with_reducible refine (dioramaref01_SameInts.calls k _ _ l0_5 _ _ l1_5 t196 _ ?side1 ?side2 ?side3 ?side4 A8.out).mono ?_); (case side1 => repeat (first | exact (Kd.C_below HR0_5.out HB.out) | (with_reducible refine Kd.C_alloc ?_ _) | (with_reducible refine Kd.C_drewN ?_ _) | (with_reducible refine Kd.C_drew ?_))); (case side2 => exact HC0_5.out); (case side3 => repeat (first | exact (Kd.C_below HR1_5.out HB.out) | (with_reducible refine Kd.C_alloc ?_ _) | (with_reducible refine Kd.C_drewN ?_ _) | (with_reducible refine Kd.C_drew ?_))); (case side4 => exact HC1_5.out); rintro e w' ⟨rfl, ⟨nd, rfl⟩⟩))
      go_ret; exact ⟨ew_, by repeat (first | (with_reducible first | exact HB.out | apply below_alloc | apply pw_below_drewN | apply below_drew1 | refine below_set ?_ GE194.out | refine below_set ?_ GE195.out) | exact HB.out)⟩
     ·rw [if_neg c7] at H
      obtain ⟨c7b0, c7b1⟩ := bn_ c7; obtain rfl := Option.some.inj H
      go_enter Try.func42, Try.ntmps42
      go_wp2_with (first | ((with_reducible refine gate_dst (N := 2) rfl ?_); refine box_event ?hg (N := 2) ?hd (cs := #[.int .i64 a0_0, .int .i64 a0_1, .int .i64 a0_2, .int .i64 a0_3, .int .i64 a0_4, .slice A0_5 l0_5.length c0_5]) (t := 76) ?hr ?_; (case hd => rfl); (case hg => rfl); (case hr => first | (go_simp; done) | (go_simp; rfl)); intro gb194 hg w14 hbox hb; have BK194 := A_ (hbox); have GW194 := A_ ((by rw [hg]; exact (below_size (bx_ HB)) : w.heap.size ≤ gb194)); have GE194 := A_ ((by rw [hg]; exact (below_size (bx_ HB)) : w.heap.size ≤ gb194)); replace HB := A_ (below_step (bx_ HB) hb); clear hb hbox hg) | ((with_reducible refine gate_dst (N := 3) rfl ?_); refine box_event ?hg (N := 3) ?hd (cs := #[.int .i64 a1_0, .int .i64 a1_1, .int .i64 a1_2, .int .i64 a1_3, .int .i64 a1_4, .slice A1_5 l1_5.length c1_5]) (t := 76) ?hr ?_; (case hd => rfl); (case hg => rfl); (case hr => first | (go_simp; done) | (go_simp; rfl)); intro gb195 hg w15 hbox hb; have BK195 := A_ (hbox); have GW195 := A_ ((by rw [hg]; exact (below_size (by repeat (first | (with_reducible first | exact HB.out | apply below_alloc | apply pw_below_drewN | apply below_drew1 | refine below_set ?_ GE194.out) | exact HB.out))) : w.heap.size ≤ gb195)); have GE195 := A_ ((by rw [hg]; exact (below_size (by repeat (first | (with_reducible first | exact HB.out | apply below_alloc | apply pw_below_drewN | apply below_drew1 | refine below_set ?_ GE194.out) | exact HB.out))) : w.heap.size ≤ gb195)); replace HB := A_ (below_step (by repeat (first | (with_reducible first | exact HB.out | apply below_alloc | apply pw_below_drewN | apply below_drew1 | refine below_set ?_ GE194.out) | exact HB.out)) hb); have NB194_195 := A_ ((by rw [hg]; exact Nat.ne_of_lt (blk_lt (g := gb194) (o := .cells #[.int .i64 a0_0, .int .i64 a0_1, .int .i64 a0_2, .int .i64 a0_3, .int .i64 a0_4, .slice A0_5 l0_5.length c0_5] 76 (0, 0)) (kx_ BK194)) : gb194 ≠ gb195)); have NB195_194 := A_ ((by rw [hg]; exact Nat.ne_of_gt (blk_lt (g := gb194) (o := .cells #[.int .i64 a0_0, .int .i64 a0_1, .int .i64 a0_2, .int .i64 a0_3, .int .i64 a0_4, .slice A0_5 l0_5.length c0_5] 76 (0, 0)) (kx_ BK194)) : gb195 ≠ gb194)); replace BK194 := A_ (blk_below (g := gb194) (o := .cells #[.int .i64 a0_0, .int .i64 a0_1, .int .i64 a0_2, .int .i64 a0_3, .int .i64 a0_4, .slice A0_5 l0_5.length c0_5] 76 (0, 0)) (kx_ BK194) hb); clear hb hbox hg; have hnb16 := NB194_195.out; have hnc16 := NB195_194.out; obtain ⟨hcz17_0, hcz17_1, hcz17_2, hcz17_3, hcz17_4, hcz17_5⟩ := k6_ BK194; obtain ⟨hfz17_0, hfz17_1, hfz17_2, hfz17_3, hfz17_4, hfz17_5⟩ := f6_ BK194; obtain ⟨hcz18_0, hcz18_1, hcz18_2, hcz18_3, hcz18_4, hcz18_5⟩ := k6_ BK195; obtain ⟨hfz18_0, hfz18_1, hfz18_2, hfz18_3, hfz18_4, hfz18_5⟩ := f6_ BK195))
      go_ret; exact ⟨ew_, by repeat (first | (with_reducible first | exact HB.out | apply below_alloc | apply pw_below_drewN | apply below_drew1 | refine below_set ?_ GE194.out | refine below_set ?_ GE195.out) | exact HB.out)⟩
    ·rw [if_neg c6] at H
     obtain ⟨c6b0, c6b1⟩ := bn_ c6; obtain rfl := Option.some.inj H
     go_enter Try.func42, Try.ntmps42
     go_wp2_with (first | ((with_reducible refine gate_dst (N := 2) rfl ?_); refine box_event ?hg (N := 2) ?hd (cs := #[.int .i64 a0_0, .int .i64 a0_1, .int .i64 a0_2, .int .i64 a0_3, .int .i64 a0_4, .slice A0_5 l0_5.length c0_5]) (t := 76) ?hr ?_; (case hd => rfl); (case hg => rfl); (case hr => first | (go_simp; done) | (go_simp; rfl)); intro gb194 hg w19 hbox hb; have BK194 := A_ (hbox); have GW194 := A_ ((by rw [hg]; exact (below_size (bx_ HB)) : w.heap.size ≤ gb194)); have GE194 := A_ ((by rw [hg]; exact (below_size (bx_ HB)) : w.heap.size ≤ gb194)); replace HB := A_ (below_step (bx_ HB) hb); clear hb hbox hg) | ((with_reducible refine gate_dst (N := 3) rfl ?_); refine box_event ?hg (N := 3) ?hd (cs := #[.int .i64 a1_0, .int .i64 a1_1, .int .i64 a1_2, .int .i64 a1_3, .int .i64 a1_4, .slice A1_5 l1_5.length c1_5]) (t := 76) ?hr ?_; (case hd => rfl); (case hg => rfl); (case hr => first | (go_simp; done) | (go_simp; rfl)); intro gb195 hg w20 hbox hb; have BK195 := A_ (hbox); have GW195 := A_ ((by rw [hg]; exact (below_size (by repeat (first | (with_reducible first | exact HB.out | apply below_alloc | apply pw_below_drewN | apply below_drew1 | refine below_set ?_ GE194.out) | exact HB.out))) : w.heap.size ≤ gb195)); have GE195 := A_ ((by rw [hg]; exact (below_size (by repeat (first | (with_reducible first | exact HB.out | apply below_alloc | apply pw_below_drewN | apply below_drew1 | refine below_set ?_ GE194.out) | exact HB.out))) : w.heap.size ≤ gb195)); replace HB := A_ (below_step (by repeat (first | (with_reducible first | exact HB.out | apply below_alloc | apply pw_below_drewN | apply below_drew1 | refine below_set ?_ GE194.out) | exact HB.out)) hb); have NB194_195 := A_ ((by rw [hg]; exact Nat.ne_of_lt (blk_lt (g := gb194) (o := .cells #[.int .i64 a0_0, .int .i64 a0_1, .int .i64 a0_2, .int .i64 a0_3, .int .i64 a0_4, .slice A0_5 l0_5.length c0_5] 76 (0, 0)) (kx_ BK194)) : gb194 ≠ gb195)); have NB195_194 := A_ ((by rw [hg]; exact Nat.ne_of_gt (blk_lt (g := gb194) (o := .cells #[.int .i64 a0_0, .int .i64 a0_1, .int .i64 a0_2, .int .i64 a0_3, .int .i64 a0_4, .slice A0_5 l0_5.length c0_5] 76 (0, 0)) (kx_ BK194)) : gb195 ≠ gb194)); replace BK194 := A_ (blk_below (g := gb194) (o := .cells #[.int .i64 a0_0, .int .i64 a0_1, .int .i64 a0_2, .int .i64 a0_3, .int .i64 a0_4, .slice A0_5 l0_5.length c0_5] 76 (0, 0)) (kx_ BK194) hb); clear hb hbox hg; have hnb21 := NB194_195.out; have hnc21 := NB195_194.out; obtain ⟨hcz22_0, hcz22_1, hcz22_2, hcz22_3, hcz22_4, hcz22_5⟩ := k6_ BK194; obtain ⟨hfz22_0, hfz22_1, hfz22_2, hfz22_3, hfz22_4, hfz22_5⟩ := f6_ BK194; obtain ⟨hcz23_0, hcz23_1, hcz23_2, hcz23_3, hcz23_4, hcz23_5⟩ := k6_ BK195; obtain ⟨hfz23_0, hfz23_1, hfz23_2, hfz23_3, hfz23_4, hfz23_5⟩ := f6_ BK195))
     go_ret; exact ⟨ew_, by repeat (first | (with_reducible first | exact HB.out | apply below_alloc | apply pw_below_drewN | apply below_drew1 | refine below_set ?_ GE194.out | refine below_set ?_ GE195.out) | exact HB.out)⟩
   ·rw [if_neg c5] at H
    obtain ⟨c5b0, c5b1⟩ := bn_ c5; obtain rfl := Option.some.inj H
    go_enter Try.func42, Try.ntmps42
    go_wp2_with (first | ((with_reducible refine gate_dst (N := 2) rfl ?_); refine box_event ?hg (N := 2) ?hd (cs := #[.int .i64 a0_0, .int .i64 a0_1, .int .i64 a0_2, .int .i64 a0_3, .int .i64 a0_4, .slice A0_5 l0_5.length c0_5]) (t := 76) ?hr ?_; (case hd => rfl); (case hg => rfl); (case hr => first | (go_simp; done) | (go_simp; rfl)); intro gb194 hg w24 hbox hb; have BK194 := A_ (hbox); have GW194 := A_ ((by rw [hg]; exact (below_size (bx_ HB)) : w.heap.size ≤ gb194)); have GE194 := A_ ((by rw [hg]; exact (below_size (bx_ HB)) : w.heap.size ≤ gb194)); replace HB := A_ (below_step (bx_ HB) hb); clear hb hbox hg) | ((with_reducible refine gate_dst (N := 3) rfl ?_); refine box_event ?hg (N := 3) ?hd (cs := #[.int .i64 a1_0, .int .i64 a1_1, .int .i64 a1_2, .int .i64 a1_3, .int .i64 a1_4, .slice A1_5 l1_5.length c1_5]) (t := 76) ?hr ?_; (case hd => rfl); (case hg => rfl); (case hr => first | (go_simp; done) | (go_simp; rfl)); intro gb195 hg w25 hbox hb; have BK195 := A_ (hbox); have GW195 := A_ ((by rw [hg]; exact (below_size (by repeat (first | (with_reducible first | exact HB.out | apply below_alloc | apply pw_below_drewN | apply below_drew1 | refine below_set ?_ GE194.out) | exact HB.out))) : w.heap.size ≤ gb195)); have GE195 := A_ ((by rw [hg]; exact (below_size (by repeat (first | (with_reducible first | exact HB.out | apply below_alloc | apply pw_below_drewN | apply below_drew1 | refine below_set ?_ GE194.out) | exact HB.out))) : w.heap.size ≤ gb195)); replace HB := A_ (below_step (by repeat (first | (with_reducible first | exact HB.out | apply below_alloc | apply pw_below_drewN | apply below_drew1 | refine below_set ?_ GE194.out) | exact HB.out)) hb); have NB194_195 := A_ ((by rw [hg]; exact Nat.ne_of_lt (blk_lt (g := gb194) (o := .cells #[.int .i64 a0_0, .int .i64 a0_1, .int .i64 a0_2, .int .i64 a0_3, .int .i64 a0_4, .slice A0_5 l0_5.length c0_5] 76 (0, 0)) (kx_ BK194)) : gb194 ≠ gb195)); have NB195_194 := A_ ((by rw [hg]; exact Nat.ne_of_gt (blk_lt (g := gb194) (o := .cells #[.int .i64 a0_0, .int .i64 a0_1, .int .i64 a0_2, .int .i64 a0_3, .int .i64 a0_4, .slice A0_5 l0_5.length c0_5] 76 (0, 0)) (kx_ BK194)) : gb195 ≠ gb194)); replace BK194 := A_ (blk_below (g := gb194) (o := .cells #[.int .i64 a0_0, .int .i64 a0_1, .int .i64 a0_2, .int .i64 a0_3, .int .i64 a0_4, .slice A0_5 l0_5.length c0_5] 76 (0, 0)) (kx_ BK194) hb); clear hb hbox hg; have hnb26 := NB194_195.out; have hnc26 := NB195_194.out; obtain ⟨hcz27_0, hcz27_1, hcz27_2, hcz27_3, hcz27_4, hcz27_5⟩ := k6_ BK194; obtain ⟨hfz27_0, hfz27_1, hfz27_2, hfz27_3, hfz27_4, hfz27_5⟩ := f6_ BK194; obtain ⟨hcz28_0, hcz28_1, hcz28_2, hcz28_3, hcz28_4, hcz28_5⟩ := k6_ BK195; obtain ⟨hfz28_0, hfz28_1, hfz28_2, hfz28_3, hfz28_4, hfz28_5⟩ := f6_ BK195))
    go_ret; exact ⟨ew_, by repeat (first | (with_reducible first | exact HB.out | apply below_alloc | apply pw_below_drewN | apply below_drew1 | refine below_set ?_ GE194.out | refine below_set ?_ GE195.out) | exact HB.out)⟩
  ·rw [if_neg c4] at H
   obtain ⟨c4b0, c4b1⟩ := bn_ c4; obtain rfl := Option.some.inj H
   go_enter Try.func42, Try.ntmps42
   go_wp2_with (first | ((with_reducible refine gate_dst (N := 2) rfl ?_); refine box_event ?hg (N := 2) ?hd (cs := #[.int .i64 a0_0, .int .i64 a0_1, .int .i64 a0_2, .int .i64 a0_3, .int .i64 a0_4, .slice A0_5 l0_5.length c0_5]) (t := 76) ?hr ?_; (case hd => rfl); (case hg => rfl); (case hr => first | (go_simp; done) | (go_simp; rfl)); intro gb194 hg w29 hbox hb; have BK194 := A_ (hbox); have GW194 := A_ ((by rw [hg]; exact (below_size (bx_ HB)) : w.heap.size ≤ gb194)); have GE194 := A_ ((by rw [hg]; exact (below_size (bx_ HB)) : w.heap.size ≤ gb194)); replace HB := A_ (below_step (bx_ HB) hb); clear hb hbox hg) | ((with_reducible refine gate_dst (N := 3) rfl ?_); refine box_event ?hg (N := 3) ?hd (cs := #[.int .i64 a1_0, .int .i64 a1_1, .int .i64 a1_2, .int .i64 a1_3, .int .i64 a1_4, .slice A1_5 l1_5.length c1_5]) (t := 76) ?hr ?_; (case hd => rfl); (case hg => rfl); (case hr => first | (go_simp; done) | (go_simp; rfl)); intro gb195 hg w30 hbox hb; have BK195 := A_ (hbox); have GW195 := A_ ((by rw [hg]; exact (below_size (by repeat (first | (with_reducible first | exact HB.out | apply below_alloc | apply pw_below_drewN | apply below_drew1 | refine below_set ?_ GE194.out) | exact HB.out))) : w.heap.size ≤ gb195)); have GE195 := A_ ((by rw [hg]; exact (below_size (by repeat (first | (with_reducible first | exact HB.out | apply below_alloc | apply pw_below_drewN | apply below_drew1 | refine below_set ?_ GE194.out) | exact HB.out))) : w.heap.size ≤ gb195)); replace HB := A_ (below_step (by repeat (first | (with_reducible first | exact HB.out | apply below_alloc | apply pw_below_drewN | apply below_drew1 | refine below_set ?_ GE194.out) | exact HB.out)) hb); have NB194_195 := A_ ((by rw [hg]; exact Nat.ne_of_lt (blk_lt (g := gb194) (o := .cells #[.int .i64 a0_0, .int .i64 a0_1, .int .i64 a0_2, .int .i64 a0_3, .int .i64 a0_4, .slice A0_5 l0_5.length c0_5] 76 (0, 0)) (kx_ BK194)) : gb194 ≠ gb195)); have NB195_194 := A_ ((by rw [hg]; exact Nat.ne_of_gt (blk_lt (g := gb194) (o := .cells #[.int .i64 a0_0, .int .i64 a0_1, .int .i64 a0_2, .int .i64 a0_3, .int .i64 a0_4, .slice A0_5 l0_5.length c0_5] 76 (0, 0)) (kx_ BK194)) : gb195 ≠ gb194)); replace BK194 := A_ (blk_below (g := gb194) (o := .cells #[.int .i64 a0_0, .int .i64 a0_1, .int .i64 a0_2, .int .i64 a0_3, .int .i64 a0_4, .slice A0_5 l0_5.length c0_5] 76 (0, 0)) (kx_ BK194) hb); clear hb hbox hg; have hnb31 := NB194_195.out; have hnc31 := NB195_194.out; obtain ⟨hcz32_0, hcz32_1, hcz32_2, hcz32_3, hcz32_4, hcz32_5⟩ := k6_ BK194; obtain ⟨hfz32_0, hfz32_1, hfz32_2, hfz32_3, hfz32_4, hfz32_5⟩ := f6_ BK194; obtain ⟨hcz33_0, hcz33_1, hcz33_2, hcz33_3, hcz33_4, hcz33_5⟩ := k6_ BK195; obtain ⟨hfz33_0, hfz33_1, hfz33_2, hfz33_3, hfz33_4, hfz33_5⟩ := f6_ BK195))
   go_ret; exact ⟨ew_, by repeat (first | (with_reducible first | exact HB.out | apply below_alloc | apply pw_below_drewN | apply below_drew1 | refine below_set ?_ GE194.out | refine below_set ?_ GE195.out) | exact HB.out)⟩
 ·rw [if_neg c3] at H
  obtain ⟨c3b0, c3b1⟩ := bn_ c3; obtain rfl := Option.some.inj H
  go_enter Try.func42, Try.ntmps42
  go_wp2_with (first | ((with_reducible refine gate_dst (N := 2) rfl ?_); refine box_event ?hg (N := 2) ?hd (cs := #[.int .i64 a0_0, .int .i64 a0_1, .int .i64 a0_2, .int .i64 a0_3, .int .i64 a0_4, .slice A0_5 l0_5.length c0_5]) (t := 76) ?hr ?_; (case hd => rfl); (case hg => rfl); (case hr => first | (go_simp; done) | (go_simp; rfl)); intro gb194 hg w34 hbox hb; have BK194 := A_ (hbox); have GW194 := A_ ((by rw [hg]; exact (below_size (bx_ HB)) : w.heap.size ≤ gb194)); have GE194 := A_ ((by rw [hg]; exact (below_size (bx_ HB)) : w.heap.size ≤ gb194)); replace HB := A_ (below_step (bx_ HB) hb); clear hb hbox hg) | ((with_reducible refine gate_dst (N := 3) rfl ?_); refine box_event ?hg (N := 3) ?hd (cs := #[.int .i64 a1_0, .int .i64 a1_1, .int .i64 a1_2, .int .i64 a1_3, .int .i64 a1_4, .slice A1_5 l1_5.length c1_5]) (t := 76) ?hr ?_; (case hd => rfl); (case hg => rfl); (case hr => first | (go_simp; done) | (go_simp; rfl)); intro gb195 hg w35 hbox hb; have BK195 := A_ (hbox); have GW195 := A_ ((by rw [hg]; exact (below_size (by repeat (first | (with_reducible first | exact HB.out | apply below_alloc | apply pw_below_drewN | apply below_drew1 | refine below_set ?_ GE194.out) | exact HB.out))) : w.heap.size ≤ gb195)); have GE195 := A_ ((by rw [hg]; exact (below_size (by repeat (first | (with_reducible first | exact HB.out | apply below_alloc | apply pw_below_drewN | apply below_drew1 | refine below_set ?_ GE194.out) | exact HB.out))) : w.heap.size ≤ gb195)); replace HB := A_ (below_step (by repeat (first | (with_reducible first | exact HB.out | apply below_alloc | apply pw_below_drewN | apply below_drew1 | refine below_set ?_ GE194.out) | exact HB.out)) hb); have NB194_195 := A_ ((by rw [hg]; exact Nat.ne_of_lt (blk_lt (g := gb194) (o := .cells #[.int .i64 a0_0, .int .i64 a0_1, .int .i64 a0_2, .int .i64 a0_3, .int .i64 a0_4, .slice A0_5 l0_5.length c0_5] 76 (0, 0)) (kx_ BK194)) : gb194 ≠ gb195)); have NB195_194 := A_ ((by rw [hg]; exact Nat.ne_of_gt (blk_lt (g := gb194) (o := .cells #[.int .i64 a0_0, .int .i64 a0_1, .int .i64 a0_2, .int .i64 a0_3, .int .i64 a0_4, .slice A0_5 l0_5.length c0_5] 76 (0, 0)) (kx_ BK194)) : gb195 ≠ gb194)); replace BK194 := A_ (blk_below (g := gb194) (o := .cells #[.int .i64 a0_0, .int .i64 a0_1, .int .i64 a0_2, .int .i64 a0_3, .int .i64 a0_4, .slice A0_5 l0_5.length c0_5] 76 (0, 0)) (kx_ BK194) hb); clear hb hbox hg; have hnb36 := NB194_195.out; have hnc36 := NB195_194.out; obtain ⟨hcz37_0, hcz37_1, hcz37_2, hcz37_3, hcz37_4, hcz37_5⟩ := k6_ BK194; obtain ⟨hfz37_0, hfz37_1, hfz37_2, hfz37_3, hfz37_4, hfz37_5⟩ := f6_ BK194; obtain ⟨hcz38_0, hcz38_1, hcz38_2, hcz38_3, hcz38_4, hcz38_5⟩ := k6_ BK195; obtain ⟨hfz38_0, hfz38_1, hfz38_2, hfz38_3, hfz38_4, hfz38_5⟩ := f6_ BK195))
  go_ret; exact ⟨ew_, by repeat (first | (with_reducible first | exact HB.out | apply below_alloc | apply pw_below_drewN | apply below_drew1 | refine below_set ?_ GE194.out | refine below_set ?_ GE195.out) | exact HB.out)⟩
def dioramaref36_SameAll.l0 : Nat → List (S76) → List (S76) → Int → Option (Bool)
 | 0, _, _, _ => none
 | k + 1, x0, x1, x5 => if x5 < (x0.length : Int) then (if 0 ≤ x5 then (if x5 < (x1.length : Int) then ((dioramaref36_Same.f k ((rd_T76 x0 x5).f0) ((rd_T76 x0 x5).f1) ((rd_T76 x0 x5).f2) ((rd_T76 x0 x5).f3) ((rd_T76 x0 x5).f4) ((rd_T76 x0 x5).f5) ((rd_T76 x1 x5).f0) ((rd_T76 x1 x5).f1) ((rd_T76 x1 x5).f2) ((rd_T76 x1 x5).f3) ((rd_T76 x1 x5).f4) ((rd_T76 x1 x5).f5)).bind fun t199 => (if t199 = true then (dioramaref36_SameAll.l0 k x0 x1 (wrap64 (x5 + 1))) else (some false))) else (none)) else (none)) else (some true)
def dioramaref36_SameAll.f (k : Nat) (l0 : List (S76)) (l1 : List (S76)) : Option (Bool) := if (l0.length : Int) = (l1.length : Int) then (dioramaref36_SameAll.l0 k l0 l1 0) else (some false)
def dioramaref36_SameAll.T6 : Bool × List (List Nat × List Nat) := (true, [([], []), ([], []), ([0, 1], [0, 1]), ([2], [2]), ([], []), ([], []), ([4, 5], [4, 5]), ([6], [6]), ([3, 7], [3, 7]), ([8], [8])])
def dioramaref36_SameAll.B6 : List Nat := [0, 0, 3, 7, 0, 0, 48, 112, 255, 511]
theorem dioramaref36_SameAll.tab6 : rtab .any (opsOf Try.f16 6) = dioramaref36_SameAll.T6 := by kernel_rfl
theorem dioramaref36_SameAll.bits6 : waitsOk dioramaref36_SameAll.T6.2 dioramaref36_SameAll.B6 = true := by kernel_rfl
set_option maxHeartbeats 8000000 in
set_option maxRecDepth 100000 in
theorem dioramaref36_SameAll.calls (k : Nat) (A0 : Option Addr) (c0 : Nat) (l0 : List (S76)) (A1 : Option Addr) (c1 : Nat) (l1 : List (S76)) (r : Bool) (w : World) (hr0 : Kd.C k76 w A0 l0.length l0) (hc0 : l0.length ≤ c0) (hr1 : Kd.C k76 w A1 l1.length l1) (hc1 : l1.length ≤ c1) (h : dioramaref36_SameAll.f k l0 l1 = some r) :
  Calls Try.prog 16 #[.slice A0 l0.length c0, .slice A1 l1.length c1] w fun e w' => e = .returned (.bool r) ∧ Below w.heap.size w w' := by
 have hu76 := Try.underlying76; have HR0 := A_ hr0; have HC0 := A_ hc0; clear hr0 hc0; have HR1 := A_ hr1; have HC1 := A_ hc1; clear hr1 hc1; have HB := A_ (Below.refl w.heap.size w); have H : (if (l0.length : Int) = (l1.length : Int) then (dioramaref36_SameAll.l0 k l0 l1 0) else (some false)) = some r := h; clear h
 by_cases c3 : (l0.length : Int) = (l1.length : Int)
 ·rw [if_pos c3] at H
  obtain ⟨c3b0, c3b1⟩ := be_ c3
  have c3b2 : (l0.length == l1.length) = true := by first | simpa using c3 | (simp at c3 ⊢; omega)
  clear c3; have H' := A_ H; clear H
  go_enter Try.func16, Try.ntmps16
  go_wp2
  go_loopg [5] k (fun kq v5 w' => ∃ (x5_1 : Int), v5 = .int .i64 x5_1 ∧ Aside0 (dioramaref36_SameAll.l0 kq l0 l1 x5_1 = some r) ∧ Aside0 (kq ≤ k) ∧ Aside0 (Below w.heap.size w w'))
  case atStart => exact ⟨(0), rf_, H', ⟨Nat.le_refl _⟩, ⟨bx_ HB⟩⟩
  case round =>
   clear H'
   try clear c3
   try clear c3b0
   try clear c3b1
   try clear c3b2
   obtain ⟨x5_1, rfl, HA, HK1, HB⟩ := hrel
   cases gk with
   | zero => exact absurd HA.out (by simp [dioramaref36_SameAll.l0])
   | succ k1 =>
    have H := HA.out; clear HA; simp only [dioramaref36_SameAll.l0] at H
    by_cases c4 : x5_1 < (l0.length : Int)
    ·rw [if_pos c4] at H
     have c4b0 := decide_eq_true c4; clear c4
     by_cases c5 : 0 ≤ x5_1
     ·rw [if_pos c5] at H
      have c5b0 := decide_eq_true c5; clear c5
      by_cases c6 : x5_1 < (l1.length : Int)
      ·rw [if_pos c6] at H
       have c6b0 := decide_eq_true c6; clear c6; replace H := Option.bind_eq_some_iff.mp H; obtain ⟨t199, A70, H⟩ := H
       (try dsimp only at H)
       have A7 := A_ A70; clear A70
       by_cases c8 : t199 = true
       ·subst c8
        have H1 : (dioramaref36_SameAll.l0 k1 l0 l1 (wrap64 (x5_1 + 1))) = some r := by rw [if_pos rfl] at H; exact H
        clear H; have H := H1; clear H1; have H' := A_ H; clear H
        try go_wp2
        replace HB := A_ (below_drew1 HB.out); have p197 : 0 ≤ (x5_1 : Int) := od_; have q197 : x5_1 < (l0.length : Int) := od_; obtain ⟨ad197, A197_5, c197_5, e197, hx197_0, hx197_1, hx197_2, hx197_3, hx197_4, hx197_5, hl197_5, hi197_5⟩ := at_T76 HR0.out x5_1 p197 q197; have hw197_5 := hx197_5; have hw197_4 := hx197_4; have hw197_3 := hx197_3; have hw197_2 := hx197_2; have hw197_1 := hx197_1; have hw197_0 := hx197_0
        cases e197
        replace hx197_0 := hc_ HB hx197_0; replace hx197_1 := hc_ HB hx197_1; replace hx197_2 := hc_ HB hx197_2; replace hx197_3 := hc_ HB hx197_3; replace hx197_4 := hc_ HB hx197_4; replace hx197_5 := hc_ HB hx197_5; have HR197_5 := A_ hi197_5; have HC197_5 := A_ hl197_5; clear hi197_5 hl197_5; replace p197 := eq_true p197; replace q197 := eq_true q197; have p198 : 0 ≤ (x5_1 : Int) := od_; have q198 : x5_1 < (l1.length : Int) := od_; obtain ⟨ad198, A198_5, c198_5, e198, hx198_0, hx198_1, hx198_2, hx198_3, hx198_4, hx198_5, hl198_5, hi198_5⟩ := at_T76 HR1.out x5_1 p198 q198; have hw198_5 := hx198_5; have hw198_4 := hx198_4; have hw198_3 := hx198_3; have hw198_2 := hx198_2; have hw198_1 := hx198_1; have hw198_0 := hx198_0
        cases e198
        replace hx198_0 := hc_ HB hx198_0; replace hx198_1 := hc_ HB hx198_1; replace hx198_2 := hc_ HB hx198_2; replace hx198_3 := hc_ HB hx198_3; replace hx198_4 := hc_ HB hx198_4; replace hx198_5 := hc_ HB hx198_5; have HR198_5 := A_ hi198_5; have HC198_5 := A_ hl198_5; clear hi198_5 hl198_5; replace p198 := eq_true p198; replace q198 := eq_true q198; refine start_ (n := 10) (S := fun w' => w'.cell? (ad197.add ((x5_1).toNat * 6)) = some (.int .i64 ((rd_T76 l0 x5_1).f0)) ∧ w'.cell? ⟨(ad197.add ((x5_1).toNat * 6)).block, (ad197.add ((x5_1).toNat * 6)).off + 1, none⟩ = some (.int .i64 ((rd_T76 l0 x5_1).f1)) ∧ w'.cell? ⟨(ad197.add ((x5_1).toNat * 6)).block, (ad197.add ((x5_1).toNat * 6)).off + 2, none⟩ = some (.int .i64 ((rd_T76 l0 x5_1).f2)) ∧ w'.cell? ⟨(ad197.add ((x5_1).toNat * 6)).block, (ad197.add ((x5_1).toNat * 6)).off + 3, none⟩ = some (.int .i64 ((rd_T76 l0 x5_1).f3)) ∧ w'.cell? ⟨(ad197.add ((x5_1).toNat * 6)).block, (ad197.add ((x5_1).toNat * 6)).off + 4, none⟩ = some (.int .i64 ((rd_T76 l0 x5_1).f4)) ∧ w'.cell? ⟨(ad197.add ((x5_1).toNat * 6)).block, (ad197.add ((x5_1).toNat * 6)).off + 5, none⟩ = some (.slice A197_5 ((rd_T76 l0 x5_1).f5).length c197_5) ∧ w'.cell? (ad198.add ((x5_1).toNat * 6)) = some (.int .i64 ((rd_T76 l1 x5_1).f0)) ∧ w'.cell? ⟨(ad198.add ((x5_1).toNat * 6)).block, (ad198.add ((x5_1).toNat * 6)).off + 1, none⟩ = some (.int .i64 ((rd_T76 l1 x5_1).f1)) ∧ w'.cell? ⟨(ad198.add ((x5_1).toNat * 6)).block, (ad198.add ((x5_1).toNat * 6)).off + 2, none⟩ = some (.int .i64 ((rd_T76 l1 x5_1).f2)) ∧ w'.cell? ⟨(ad198.add ((x5_1).toNat * 6)).block, (ad198.add ((x5_1).toNat * 6)).off + 3, none⟩ = some (.int .i64 ((rd_T76 l1 x5_1).f3)) ∧ w'.cell? ⟨(ad198.add ((x5_1).toNat * 6)).block, (ad198.add ((x5_1).toNat * 6)).off + 4, none⟩ = some (.int .i64 ((rd_T76 l1 x5_1).f4)) ∧ w'.cell? ⟨(ad198.add ((x5_1).toNat * 6)).block, (ad198.add ((x5_1).toNat * 6)).off + 5, none⟩ = some (.slice A198_5 ((rd_T76 l1 x5_1).f5).length c198_5)) (ds := []) (B_ 10 0) (by kernel_rfl) rfl rfl ⟨(hc_ HB hw197_0), (hc_ HB hw197_1), (hc_ HB hw197_2), (hc_ HB hw197_3), (hc_ HB hw197_4), (hc_ HB hw197_5), (hc_ HB hw198_0), (hc_ HB hw198_1), (hc_ HB hw198_2), (hc_ HB hw198_3), (hc_ HB hw198_4), (hc_ HB hw198_5)⟩ (fun hHeld => ?_); refine with_tabW dioramaref36_SameAll.tab6 dioramaref36_SameAll.bits6 (fun HT_ HW_ => ?_); generalize wr.drew = w9 at HB HR197_5 HR198_5 hx197_0 hx197_1 hx197_2 hx197_3 hx197_4 hx197_5 hx198_0 hx198_1 hx198_2 hx198_3 hx198_4 hx198_5 hHeld ⊢; refine pT_ 0 17 (B_ 10 1) HT_ ?_; refine pT_ 1 18 (B_ 10 3) HT_ ?_; refine pT_ 2 19 (B_ 10 7) HT_ ?_; refine pT_ 4 21 (B_ 10 23) HT_ ?_; refine pT_ 5 22 (B_ 10 55) HT_ ?_; refine pT_ 6 23 (B_ 10 119) HT_ ?_; refine tT_ 3 20 (B_ 10 127) HT_ HW_ hHeld ?_; refine tT_ 7 24 (B_ 10 255) HT_ HW_ hHeld ?_; refine one_ (i := 8) (N := some 25) (B_ 10 511) rfl rfl (one_of HT_.out (by kernel_rfl)) (by decide) (fun K hK => ?_); refine goes_ Try.func42 (by kernel_rfl) rfl #[.agg #[.int .i64 ((rd_T76 l0 x5_1).f0), .int .i64 ((rd_T76 l0 x5_1).f1), .int .i64 ((rd_T76 l0 x5_1).f2), .int .i64 ((rd_T76 l0 x5_1).f3), .int .i64 ((rd_T76 l0 x5_1).f4), .slice A197_5 ((rd_T76 l0 x5_1).f5).length c197_5], .agg #[.int .i64 ((rd_T76 l1 x5_1).f0), .int .i64 ((rd_T76 l1 x5_1).f1), .int .i64 ((rd_T76 l1 x5_1).f2), .int .i64 ((rd_T76 l1 x5_1).f3), .int .i64 ((rd_T76 l1 x5_1).f4), .slice A198_5 ((rd_T76 l1 x5_1).f5).length c198_5]] (by rfl) rfl rfl lm_ ?_
        with_reducible refine (dioramaref36_Same.calls k1 ((rd_T76 l0 x5_1).f0) ((rd_T76 l0 x5_1).f1) ((rd_T76 l0 x5_1).f2) ((rd_T76 l0 x5_1).f3) ((rd_T76 l0 x5_1).f4) _ _ ((rd_T76 l0 x5_1).f5) ((rd_T76 l1 x5_1).f0) ((rd_T76 l1 x5_1).f1) ((rd_T76 l1 x5_1).f2) ((rd_T76 l1 x5_1).f3) ((rd_T76 l1 x5_1).f4) _ _ ((rd_T76 l1 x5_1).f5) true _ ?side1 ?side2 ?side3 ?side4 A7.out).mono ?_
        (case side1 => repeat (first | exact (Kd.C_below HR197_5.out HB.out) | (with_reducible refine Kd.C_alloc ?_ _) | (with_reducible refine Kd.C_drewN ?_ _) | (with_reducible refine Kd.C_drew ?_)))
        (case side2 => exact HC197_5.out)
        (case side3 => repeat (first | exact (Kd.C_below HR198_5.out HB.out) | (with_reducible refine Kd.C_alloc ?_ _) | (with_reducible refine Kd.C_drewN ?_ _) | (with_reducible refine Kd.C_drew ?_)))
        (case side4 => exact HC198_5.out)
        rintro e w10 ⟨rfl, hb⟩; refine ⟨_, rfl, ?_⟩; replace HB := A_ (below_step (bx_ HB) hb)
        (try clear hb)
        refine hK.out _ _ ⟨(hc_ HB hw197_0), (hc_ HB hw197_1), (hc_ HB hw197_2), (hc_ HB hw197_3), (hc_ HB hw197_4), (hc_ HB hw197_5), (hc_ HB hw198_0), (hc_ HB hw198_1), (hc_ HB hw198_2), (hc_ HB hw198_3), (hc_ HB hw198_4), (hc_ HB hw198_5)⟩ (fun hHeld => ?_); clear hK K; refine norm_ (a' := ?_) ?_ ?_; rotate_left
        ·show Act.put _ (some 25) _ = _
         simp only [Act.put, sA_, sB_, sC_, i64_w, i32_w]; rfl
        refine pT_ 9 26 (B_ 10 1023) HT_ ?_; refine done_ (done_of HT_.out (by kernel_rfl)) ?_
        try go_wp2
        go_roundg k1
        case measure => have := HK1.out; omega
        case rel => exact ⟨(wrap64 (x5_1 + 1)), rf_, H', ⟨by have := HK1.out; omega⟩, ⟨bx_ HB⟩⟩
       ·replace c8 := Bool.eq_false_iff.mpr c8
        subst c8
        have H1 : (some false) = some r := by rw [if_neg (show ¬ (false = true) by decide)] at H; exact H
        clear H; have H := H1; clear H1; obtain rfl := Option.some.inj H
        try go_wp2
        replace HB := A_ (below_drew1 HB.out); have p197 : 0 ≤ (x5_1 : Int) := od_; have q197 : x5_1 < (l0.length : Int) := od_; obtain ⟨ad197, A197_5, c197_5, e197, hx197_0, hx197_1, hx197_2, hx197_3, hx197_4, hx197_5, hl197_5, hi197_5⟩ := at_T76 HR0.out x5_1 p197 q197; have hw197_5 := hx197_5; have hw197_4 := hx197_4; have hw197_3 := hx197_3; have hw197_2 := hx197_2; have hw197_1 := hx197_1; have hw197_0 := hx197_0
        cases e197
        replace hx197_0 := hc_ HB hx197_0; replace hx197_1 := hc_ HB hx197_1; replace hx197_2 := hc_ HB hx197_2; replace hx197_3 := hc_ HB hx197_3; replace hx197_4 := hc_ HB hx197_4; replace hx197_5 := hc_ HB hx197_5; have HR197_5 := A_ hi197_5; have HC197_5 := A_ hl197_5; clear hi197_5 hl197_5; replace p197 := eq_true p197; replace q197 := eq_true q197; have p198 : 0 ≤ (x5_1 : Int) := od_; have q198 : x5_1 < (l1.length : Int) := od_; obtain ⟨ad198, A198_5, c198_5, e198, hx198_0, hx198_1, hx198_2, hx198_3, hx198_4, hx198_5, hl198_5, hi198_5⟩ := at_T76 HR1.out x5_1 p198 q198; have hw198_5 := hx198_5; have hw198_4 := hx198_4; have hw198_3 := hx198_3; have hw198_2 := hx198_2; have hw198_1 := hx198_1; have hw198_0 := hx198_0
        cases e198
        replace hx198_0 := hc_ HB hx198_0; replace hx198_1 := hc_ HB hx198_1; replace hx198_2 := hc_ HB hx198_2; replace hx198_3 := hc_ HB hx198_3; replace hx198_4 := hc_ HB hx198_4; replace hx198_5 := hc_ HB hx198_5; have HR198_5 := A_ hi198_5; have HC198_5 := A_ hl198_5; clear hi198_5 hl198_5; replace p198 := eq_true p198; replace q198 := eq_true q198; refine start_ (n := 10) (S := fun w' => w'.cell? (ad197.add ((x5_1).toNat * 6)) = some (.int .i64 ((rd_T76 l0 x5_1).f0)) ∧ w'.cell? ⟨(ad197.add ((x5_1).toNat * 6)).block, (ad197.add ((x5_1).toNat * 6)).off + 1, none⟩ = some (.int .i64 ((rd_T76 l0 x5_1).f1)) ∧ w'.cell? ⟨(ad197.add ((x5_1).toNat * 6)).block, (ad197.add ((x5_1).toNat * 6)).off + 2, none⟩ = some (.int .i64 ((rd_T76 l0 x5_1).f2)) ∧ w'.cell? ⟨(ad197.add ((x5_1).toNat * 6)).block, (ad197.add ((x5_1).toNat * 6)).off + 3, none⟩ = some (.int .i64 ((rd_T76 l0 x5_1).f3)) ∧ w'.cell? ⟨(ad197.add ((x5_1).toNat * 6)).block, (ad197.add ((x5_1).toNat * 6)).off + 4, none⟩ = some (.int .i64 ((rd_T76 l0 x5_1).f4)) ∧ w'.cell? ⟨(ad197.add ((x5_1).toNat * 6)).block, (ad197.add ((x5_1).toNat * 6)).off + 5, none⟩ = some (.slice A197_5 ((rd_T76 l0 x5_1).f5).length c197_5) ∧ w'.cell? (ad198.add ((x5_1).toNat * 6)) = some (.int .i64 ((rd_T76 l1 x5_1).f0)) ∧ w'.cell? ⟨(ad198.add ((x5_1).toNat * 6)).block, (ad198.add ((x5_1).toNat * 6)).off + 1, none⟩ = some (.int .i64 ((rd_T76 l1 x5_1).f1)) ∧ w'.cell? ⟨(ad198.add ((x5_1).toNat * 6)).block, (ad198.add ((x5_1).toNat * 6)).off + 2, none⟩ = some (.int .i64 ((rd_T76 l1 x5_1).f2)) ∧ w'.cell? ⟨(ad198.add ((x5_1).toNat * 6)).block, (ad198.add ((x5_1).toNat * 6)).off + 3, none⟩ = some (.int .i64 ((rd_T76 l1 x5_1).f3)) ∧ w'.cell? ⟨(ad198.add ((x5_1).toNat * 6)).block, (ad198.add ((x5_1).toNat * 6)).off + 4, none⟩ = some (.int .i64 ((rd_T76 l1 x5_1).f4)) ∧ w'.cell? ⟨(ad198.add ((x5_1).toNat * 6)).block, (ad198.add ((x5_1).toNat * 6)).off + 5, none⟩ = some (.slice A198_5 ((rd_T76 l1 x5_1).f5).length c198_5)) (ds := []) (B_ 10 0) (by kernel_rfl) rfl rfl ⟨(hc_ HB hw197_0), (hc_ HB hw197_1), (hc_ HB hw197_2), (hc_ HB hw197_3), (hc_ HB hw197_4), (hc_ HB hw197_5), (hc_ HB hw198_0), (hc_ HB hw198_1), (hc_ HB hw198_2), (hc_ HB hw198_3), (hc_ HB hw198_4), (hc_ HB hw198_5)⟩ (fun hHeld => ?_); refine with_tabW dioramaref36_SameAll.tab6 dioramaref36_SameAll.bits6 (fun HT_ HW_ => ?_); generalize wr.drew = w11 at HB HR197_5 HR198_5 hx197_0 hx197_1 hx197_2 hx197_3 hx197_4 hx197_5 hx198_0 hx198_1 hx198_2 hx198_3 hx198_4 hx198_5 hHeld ⊢; refine pT_ 0 17 (B_ 10 1) HT_ ?_; refine pT_ 1 18 (B_ 10 3) HT_ ?_; refine pT_ 2 19 (B_ 10 7) HT_ ?_; refine pT_ 4 21 (B_ 10 23) HT_ ?_; refine pT_ 5 22 (B_ 10 55) HT_ ?_; refine pT_ 6 23 (B_ 10 119) HT_ ?_; refine tT_ 3 20 (B_ 10 127) HT_ HW_ hHeld ?_; refine tT_ 7 24 (B_ 10 255) HT_ HW_ hHeld ?_; refine one_ (i := 8) (N := some 25) (B_ 10 511) rfl rfl (one_of HT_.out (by kernel_rfl)) (by decide) (fun K hK => ?_); refine goes_ Try.func42 (by kernel_rfl) rfl #[.agg #[.int .i64 ((rd_T76 l0 x5_1).f0), .int .i64 ((rd_T76 l0 x5_1).f1), .int .i64 ((rd_T76 l0 x5_1).f2), .int .i64 ((rd_T76 l0 x5_1).f3), .int .i64 ((rd_T76 l0 x5_1).f4), .slice A197_5 ((rd_T76 l0 x5_1).f5).length c197_5], .agg #[.int .i64 ((rd_T76 l1 x5_1).f0), .int .i64 ((rd_T76 l1 x5_1).f1), .int .i64 ((rd_T76 l1 x5_1).f2), .int .i64 ((rd_T76 l1 x5_1).f3), .int .i64 ((rd_T76 l1 x5_1).f4), .slice A198_5 ((rd_T76 l1 x5_1).f5).length c198_5]] (by rfl) rfl rfl lm_ ?_
        with_reducible refine (dioramaref36_Same.calls k1 ((rd_T76 l0 x5_1).f0) ((rd_T76 l0 x5_1).f1) ((rd_T76 l0 x5_1).f2) ((rd_T76 l0 x5_1).f3) ((rd_T76 l0 x5_1).f4) _ _ ((rd_T76 l0 x5_1).f5) ((rd_T76 l1 x5_1).f0) ((rd_T76 l1 x5_1).f1) ((rd_T76 l1 x5_1).f2) ((rd_T76 l1 x5_1).f3) ((rd_T76 l1 x5_1).f4) _ _ ((rd_T76 l1 x5_1).f5) false _ ?side1 ?side2 ?side3 ?side4 A7.out).mono ?_
        (case side1 => repeat (first | exact (Kd.C_below HR197_5.out HB.out) | (with_reducible refine Kd.C_alloc ?_ _) | (with_reducible refine Kd.C_drewN ?_ _) | (with_reducible refine Kd.C_drew ?_)))
        (case side2 => exact HC197_5.out)
        (case side3 => repeat (first | exact (Kd.C_below HR198_5.out HB.out) | (with_reducible refine Kd.C_alloc ?_ _) | (with_reducible refine Kd.C_drewN ?_ _) | (with_reducible refine Kd.C_drew ?_)))
        (case side4 => exact HC198_5.out)
        rintro e w12 ⟨rfl, hb⟩; refine ⟨_, rfl, ?_⟩; replace HB := A_ (below_step (bx_ HB) hb)
        (try clear hb)
        refine hK.out _ _ ⟨(hc_ HB hw197_0), (hc_ HB hw197_1), (hc_ HB hw197_2), (hc_ HB hw197_3), (hc_ HB hw197_4), (hc_ HB hw197_5), (hc_ HB hw198_0), (hc_ HB hw198_1), (hc_ HB hw198_2), (hc_ HB hw198_3), (hc_ HB hw198_4), (hc_ HB hw198_5)⟩ (fun hHeld => ?_); clear hK K; refine norm_ (a' := ?_) ?_ ?_; rotate_left
        ·show Act.put _ (some 25) _ = _
         simp only [Act.put, sA_, sB_, sC_, i64_w, i32_w]; rfl
        refine pT_ 9 26 (B_ 10 1023) HT_ ?_; refine done_ (done_of HT_.out (by kernel_rfl)) ?_
        try go_wp2
        go_ret; exact ⟨ew_, bx_ HB⟩
      (· rw [if_neg c6] at H; exact absurd H (by simp))
     (· rw [if_neg c5] at H; exact absurd H (by simp))
    (· rw [if_neg c4] at H; have c4b0 := decide_eq_false c4; clear c4; obtain rfl := Option.some.inj H; go_wp2; go_ret; exact ⟨ew_, bx_ HB⟩)
 ·rw [if_neg c3] at H
  obtain ⟨c3b0, c3b1⟩ := bn_ c3
  have c3b2 : (l0.length == l1.length) = false := by first | simpa using c3 | (simp at c3 ⊢; omega)
  obtain rfl := Option.some.inj H
  go_enter Try.func16, Try.ntmps16
  go_wp2; go_ret; exact ⟨ew_, bx_ HB⟩
end Go.Proofs.Ytcgpemefmakjiaa.PX
namespace Go.Proofs.Ytcgpemefmakjiaa.PX
open Go.RowKit Go.Proofs.YtcgpemefmakjiaaW.PrintWords Go.Proofs.YtcgpemefmakjiaaW.PrintLast
abbrev Wd := List (List (List Int))
def RecRep (W : World) (base : Nat) (f2 : Nat → Nat × Nat) (k i : Nat) (vi : Value) (r : List Int) : Prop := W.ownsRow base 3 1 vi r.length (nums .i64 r) ∧ ∀ b, vi.ownBlock = some b → f2 b = (k, i)
def KindRep (W : World) (base : Nat) (f1 : Nat → Nat) (f2 : Nat → Nat × Nat) (k : Nat) (vk : Value) (rows : List (List Int)) : Prop :=
 ∃ cs, W.ownsRow base 22 1 vk rows.length cs ∧ (∀ b, vk.ownBlock = some b → f1 b = k) ∧ ∀ (i : Nat) r, rows[i]? = some r → ∃ vi, cs[i]? = some vi ∧ RecRep W base f2 k i vi r
def WRepF (W : World) (base : Nat) (f1 : Nat → Nat) (f2 : Nat → Nat × Nat) (v : Value) (l : Wd) : Prop :=
 ∃ vs, W.ownsRow base 64 1 v l.length vs ∧ ∀ (k : Nat) rows, l[k]? = some rows → ∃ vk, vs[k]? = some vk ∧ KindRep W base f1 f2 k vk rows
def WRep (W : World) (base : Nat) (v : Value) (l : Wd) : Prop := ∃ f1 f2, WRepF W base f1 f2 v l
section
variable {W W' : World} {base k i g : Nat} {f1 f1' : Nat → Nat} {f2 f2' : Nat → Nat × Nat} {v vk vi newv : Value} {r : List Int} {rows rows' : List (List Int)} {l : Wd} {row : Option Nat}
theorem RecRep.move (h : RecRep W base f2 k i vi r) (hm : ∀ b, vi.ownBlock = some b → b < W.heap.size → W'.heap[b]? = W.heap[b]?) (hf : ∀ b, b < W.heap.size → f2' b = f2 b) : RecRep W' base f2' k i vi r :=
 ⟨own_move h.1 (fun b hb => hm b hb (own_lt h.1 b hb)), fun b hb => (hf b (own_lt h.1 b hb)).trans (h.2 b hb)⟩
theorem KindRep.move (h : KindRep W base f1 f2 k vk rows) (hm : ∀ b, b < W.heap.size → (vk.ownBlock = some b ∨ ∃ c, W.heap[b]? = some (.cells c 3 (0, 0))) → W'.heap[b]? = W.heap[b]?)
  (hf1 : ∀ b, b < W.heap.size → f1' b = f1 b) (hf2 : ∀ b, b < W.heap.size → f2' b = f2 b) : KindRep W' base f1' f2' k vk rows := by
 obtain ⟨cs, h1, h2, h3⟩ := h; refine ⟨cs, own_move h1 (fun b hb => hm b (own_lt h1 b hb) (.inl hb)), fun b hb => (hf1 b (own_lt h1 b hb)).trans (h2 b hb), fun i r hr => ?_⟩; obtain ⟨vi, h4, h5⟩ := h3 i r hr; exact ⟨vi, h4, h5.move (fun b hb hl => hm b hl (.inr (own_typed h5.1 b hb))) hf2⟩
theorem WRepF.move (h : WRepF W base f1 f2 v l) (hm : ∀ b, b < W.heap.size → W'.heap[b]? = W.heap[b]?) (hf1 : ∀ b, b < W.heap.size → f1' b = f1 b) (hf2 : ∀ b, b < W.heap.size → f2' b = f2 b) : WRepF W' base f1' f2' v l := by
 obtain ⟨vs, h1, h2⟩ := h; refine ⟨vs, own_move h1 (fun b hb => hm b (own_lt h1 b hb)), fun k rows hk => ?_⟩; obtain ⟨vk, h3, h4⟩ := h2 k rows hk; exact ⟨vk, h3, h4.move (fun b hl _ => hm b hl) hf1 hf2⟩
theorem WRepF.below (h : WRepF W base f1 f2 v l) (hb : Below W.heap.size W W') : WRepF W' base f1 f2 v l := h.move (fun b hl => hb.block b hl) (fun _ _ => rfl) (fun _ _ => rfl)
theorem WRep.below (h : WRep W base v l) (hb : Below W.heap.size W W') : WRep W' base v l := by
 obtain ⟨f1, f2, h⟩ := h; exact ⟨f1, f2, h.below hb⟩
theorem WRep.nil (W : World) (base : Nat) : WRep W base (.slice none 0 0) [] := ⟨fun _ => 0, fun _ => (0, 0), [], own_nil _ _ _ _, fun k rows hk => by simp at hk⟩
theorem WRepF.top (h : WRepF W base f1 f2 v l) : ∃ A c, v = .slice A l.length c ∧ l.length ≤ 9223372036854775807 ∧ (0 < l.length → ∃ g, A = some ⟨g, 0, none⟩ ∧ base ≤ g ∧ ∀ k rows, l[k]? = some rows → ∃ vk, W.cell? ⟨g, k, none⟩ = some vk ∧ W.frozen? ⟨g, k, none⟩ = false ∧ (∃ c, W.heap[g]? = some (.cells c 64 (0, 0))) ∧ KindRep W base f1 f2 k vk rows) := by
 obtain ⟨vs, h1, h2⟩ := h
 have hlen : l.length ≤ 9223372036854775807 := by
  rcases h1.2 with ⟨_, h⟩ | ⟨g, cap, cur, _, _, _, h3, h4, _⟩
  (· omega); (· simp only [maxLen] at h4; omega)
 obtain ⟨A, c, e⟩ := own_slice h1; refine ⟨A, c, e, hlen, fun hp => ?_⟩; obtain ⟨g, cap, e2, h3, h4⟩ := h1.form hp; rw [e] at e2
 injection e2 with e2 e3 e4
 subst e2; refine ⟨g, rfl, h3, fun k rows hk => ?_⟩; obtain ⟨vk, h5, h6⟩ := h2 k rows hk; subst e; have h7 := h1.cellAt k (by have := (List.getElem?_eq_some_iff.1 hk).1; omega); refine ⟨vk, h7.trans h5, h1.frozenAt k, own_typed h1 g rfl, h6⟩
theorem KindRep.at_ (h : KindRep W base f1 f2 k vk rows) : ∃ A c, vk = .slice A rows.length c ∧ rows.length ≤ c ∧ rows.length ≤ 9223372036854775807 ∧ (∀ b, vk.ownBlock = some b → f1 b = k ∧ base ≤ b ∧ b < W.heap.size ∧ ∃ c, W.heap[b]? = some (.cells c 22 (0, 0))) ∧
  (0 < rows.length → ∃ g, A = some ⟨g, 0, none⟩ ∧ ∀ i r, rows[i]? = some r → ∃ vi, W.cell? ⟨g, i, none⟩ = some vi ∧ RecRep W base f2 k i vi r) := by
 obtain ⟨cs, h1, h2, h3⟩ := h
 have hlen : rows.length ≤ 9223372036854775807 ∧ ∃ A c, vk = .slice A rows.length c ∧ rows.length ≤ c := by
  rcases h1.2 with ⟨e, h⟩ | ⟨g, cap, cur, e, _, _, h3, h4, _⟩
  (· exact ⟨by omega, none, 0, by rw [e, h], by omega⟩); (· exact ⟨by simp only [maxLen] at h4; omega, _, _, e, h3⟩)
 obtain ⟨hlen, A, c, e, hc⟩ := hlen; refine ⟨A, c, e, hc, hlen, fun b hb => ⟨h2 b hb, own_base h1 b hb, own_lt h1 b hb, own_typed h1 b hb⟩, fun hp => ?_⟩; obtain ⟨g, cap, e2, _, _⟩ := h1.form hp; rw [e] at e2
 injection e2 with e2 e3 e4
 subst e2; refine ⟨g, rfl, fun i r hr => ?_⟩; obtain ⟨vi, h5, h6⟩ := h3 i r hr; subst e; exact ⟨vi, (h1.cellAt i (by have := (List.getElem?_eq_some_iff.1 hr).1; omega)).trans h5, h6⟩
theorem RecRep.at_ (h : RecRep W base f2 k i vi r) : ∃ A c, vi = .slice A r.length c ∧ r.length ≤ c ∧ r.length ≤ 9223372036854775807 ∧ (∀ b, vi.ownBlock = some b → f2 b = (k, i) ∧ base ≤ b ∧ b < W.heap.size ∧ ∃ c, W.heap[b]? = some (.cells c 3 (0, 0))) ∧
  (0 < r.length → ∃ g, A = some ⟨g, 0, none⟩ ∧ ∀ j : Nat, j < r.length → W.cell? ⟨g, j, none⟩ = some (.int .i64 (rd r j)) ∧ W.frozen? ⟨g, j, none⟩ = false) := by
 obtain ⟨h1, h2⟩ := h
 have hlen : r.length ≤ 9223372036854775807 ∧ ∃ A c, vi = .slice A r.length c ∧ r.length ≤ c := by
  rcases h1.2 with ⟨e, h⟩ | ⟨g, cap, cur, e, _, _, h3, h4, _⟩
  (· exact ⟨by omega, none, 0, by rw [e, h], by omega⟩); (· exact ⟨by simp only [maxLen] at h4; omega, _, _, e, h3⟩)
 obtain ⟨hlen, A, c, e, hc⟩ := hlen; refine ⟨A, c, e, hc, hlen, fun b hb => ⟨h2 b hb, own_base h1 b hb, own_lt h1 b hb, own_typed h1 b hb⟩, fun hp => ?_⟩; obtain ⟨g, cap, e2, _, _⟩ := h1.form hp; rw [e] at e2
 injection e2 with e2 e3 e4
 subst e2; refine ⟨g, rfl, fun j hj => ?_⟩; subst e; refine ⟨(h1.cellAt j (by omega)).trans ?_, h1.frozenAt j⟩
 simp [nums, rd, List.getD_eq_getElem?_getD, hj]
theorem RecRep.R (h : RecRep W base f2 k i vi r) : Kd.R (Kd.int .i64) 3 W base (fun b => ∃ c, W.heap[b]? = some (.cells c 3 (0, 0))) vi r :=
 ⟨fun b hb => own_typed h.1 b hb, nums .i64 r, h.1, by simp [nums, Kd.int, Kd.scalar], fun j x hx => by
  show ((nums .i64 r).drop (j * 1)).take 1 = [.int .i64 x]
  have hj := (List.getElem?_eq_some_iff.1 hx).1
  have : (nums .i64 r)[j]? = some (.int .i64 x) := by simp [nums, hx]
  rw [Nat.mul_one, List.drop_eq_getElem_cons (by rw [nums_length]; exact hj)]; rw [List.getElem?_eq_getElem (by rw [nums_length]; exact hj)] at this
  injection this with this
  simp [this]⟩
theorem own_reps1 {α : Type} {R : α → List Value → Prop} {xs : List α} {cs : List Value} (hl : cs.length = xs.length) (h : ∀ (i : Nat) (x : α), xs[i]? = some x → ∃ u, cs[i]? = some u ∧ R x [u]) : Reps R 1 xs cs :=
 ⟨by rw [hl, Nat.mul_one], fun j x hx => by
  obtain ⟨u, hu, hr⟩ := h j x hx; have hj := (List.getElem?_eq_some_iff.1 hu).1; rw [Nat.mul_one, List.drop_eq_getElem_cons hj]; rw [List.getElem?_eq_getElem hj] at hu
  injection hu with hu
  rw [hu]
  exact hr⟩
theorem KindRep.R (h : KindRep W base f1 f2 k vk rows) : Kd.R (Kd.slice 3 (Kd.int .i64)) 22 W base (fun b => ∃ c, W.heap[b]? = some (.cells c 3 (0, 0)) ∨ W.heap[b]? = some (.cells c 22 (0, 0))) vk rows := by
 obtain ⟨cs, h1, h2, h3⟩ := h; refine ⟨fun b hb => ?_, cs, h1, own_reps1 (by have := h1.1; omega) (fun i r hr => ?_)⟩; (· obtain ⟨c, hc⟩ := own_typed h1 b hb; exact ⟨c, .inr hc⟩)
 ·obtain ⟨vi, h4, h5⟩ := h3 i r hr
  refine ⟨vi, h4, vi, rfl, Kd.R_mono h5.R (fun b hb => ?_)⟩; obtain ⟨c, hc⟩ := hb; refine ⟨⟨c, .inl hc⟩, fun e => ?_⟩; obtain ⟨c', hc'⟩ := own_typed h1 b e.symm; rw [hc] at hc'
  injection hc' with hc'
  injection hc' with _ hc'
  exact absurd hc' (by decide)
theorem WRep.R (h : WRep W base v l) : Kd.R (Kd.slice 22 (Kd.slice 3 (Kd.int .i64))) 64 W base (fun _ => True) v l := by
 obtain ⟨f1, f2, vs, h1, h2⟩ := h; refine ⟨fun _ _ => trivial, vs, h1, own_reps1 (by have := h1.1; omega) (fun i r hr => ?_)⟩; obtain ⟨vk, h4, h5⟩ := h2 i r hr; refine ⟨vk, h4, vk, rfl, Kd.R_mono h5.R (fun b hb => ?_)⟩; obtain ⟨c, hc⟩ := hb; refine ⟨trivial, fun e => ?_⟩; obtain ⟨c', hc'⟩ := own_typed h1 b e.symm
 rcases hc with hc | hc
 all_goals
  rw [hc] at hc'
  injection hc' with hc'
  injection hc' with _ hc'
  exact absurd hc' (by decide)
theorem WRepF.put {g c : Nat} (h : WRepF W base f1 f2 (.slice (some ⟨g, 0, none⟩) l.length c) l) (hk : l[k]? = some rows) (hvk : W.cell? ⟨g, k, none⟩ = some vk) (hg : W.grownBy W' row) (hrow : row = none ∨ row = vk.ownBlock)
  (hnew : KindRep W' base f1' f2' k newv rows') (hf1 : ∀ b, b < W.heap.size → f1' b = f1 b) (hf2 : ∀ b, b < W.heap.size → f2' b = f2 b) :
  WRepF (W'.setCell ⟨g, k, none⟩ newv) base f1' f2' (.slice (some ⟨g, 0, none⟩) l.length c) (l.set k rows') := by
 obtain ⟨vs, h1, h2⟩ := h; have hkl := (List.getElem?_eq_some_iff.1 hk).1; obtain ⟨vk0, h3, h4⟩ := h2 k rows hk; have h5 := (h1.cellAt k (by omega)).symm.trans hvk; rw [h3] at h5
 injection h5 with h5
 subst h5; obtain ⟨ct, hct⟩ := own_typed h1 g rfl; have hglt : g < W.heap.size := (Array.getElem?_eq_some_iff.1 hct).1
 have hrow22 : ∀ b, row = some b → ∃ c, W.heap[b]? = some (.cells c 22 (0, 0)) := by
  intro b hb
  rcases hrow with hr | hr
  (· rw [hr] at hb; cases hb); (· rw [hr] at hb; obtain ⟨cs, h6, _⟩ := h4; exact own_typed h6 b hb)
 have hne : ∀ b t cc, W.heap[b]? = some (.cells cc t (0, 0)) → t ≠ 22 → some b ≠ row := fun b t cc hb ht e => by
  obtain ⟨c', hc'⟩ := hrow22 b e.symm; rw [hb] at hc'
  injection hc' with hc'
  injection hc' with _ hc'
  exact ht hc'
 have htop : W'.heap[g]? = W.heap[g]? := hg.block g hglt (hne g 64 ct hct (by decide))
 have h1' : W'.ownsRow base 64 1 (.slice (some ⟨g, 0, none⟩) l.length c) l.length vs := own_move h1 (fun b hb => by
  have e2 : g = b := by simpa [Value.ownBlock] using hb
  rw [← e2]
  exact htop)
 refine ⟨vs.set k newv, ?_, fun j rows2 hj => ?_⟩
 ·have := (h1'.stored k newv).1
  rw [List.length_set]
  simpa using this
 ·by_cases hjk : j = k
  ·subst hjk
   have e : rows2 = rows' := by
    rw [List.getElem?_set_self hkl] at hj; exact (Option.some.inj hj).symm
   subst e; refine ⟨newv, by rw [List.getElem?_set_self (by have := h1.1; omega)], hnew.move (fun b hl hb => Below.heap_setCell _ _ _ _ (fun e => ?_)) (fun _ _ => rfl) (fun _ _ => rfl)⟩; have e : b = g := e; rw [e] at hb; obtain ⟨cs, h6, _⟩ := hnew
   rcases hb with hb | ⟨c', hb⟩
   ·obtain ⟨c', hc'⟩ := own_typed h6 _ hb
    rw [htop, hct] at hc'
    injection hc' with hc'
    injection hc' with _ hc'
    exact absurd hc' (by decide)
   ·rw [htop, hct] at hb
    injection hb with hb
    injection hb with _ hb
    exact absurd hb (by decide)
  ·rw [List.getElem?_set_ne (Ne.symm hjk)] at hj
   obtain ⟨vj, h6, h7⟩ := h2 j rows2 hj; refine ⟨vj, by rw [List.getElem?_set_ne (Ne.symm hjk)]; exact h6, ?_⟩; refine (h7.move (W' := W') (f1' := f1') (f2' := f2') (fun b hl hb => ?_) hf1 hf2).move (fun b hl hb => Below.heap_setCell _ _ _ _ (fun e => ?_)) (fun _ _ => rfl) (fun _ _ => rfl)
   ·refine hg.block b hl ?_
    rcases hb with hb | ⟨c', hb⟩
    ·rcases hrow with hr | hr
     (· rw [hr]; simp); (· rw [hr]; intro e; obtain ⟨cs, h8, h9, _⟩ := h4; obtain ⟨cs', h8', h9', _⟩ := h7; exact hjk ((h9' b hb).symm.trans (h9 b e.symm)))
    (· exact hne b 3 c' hb (by decide))
   ·have e : b = g := e
    rw [e] at hb
    rcases hb with hb | ⟨c', hb⟩
    ·obtain ⟨cs', h8', _⟩ := h7
     obtain ⟨c', hc'⟩ := own_typed h8' _ hb; rw [hct] at hc'
     injection hc' with hc'
     injection hc' with _ hc'
     exact absurd hc' (by decide)
    ·rw [htop, hct] at hb
     injection hb with hb
     injection hb with _ hb
     exact absurd hb (by decide)
end
end Go.Proofs.Ytcgpemefmakjiaa.PX
namespace Go.Proofs.Ytcgpemefmakjiaa.PX
open Go.RowKit Go.Proofs.YtcgpemefmakjiaaW.PrintWords Go.Proofs.YtcgpemefmakjiaaW.PrintLast Go.Proofs.YtcgpemefmakjiaaW.PrintMore
def tagFrom {α : Type} (n : Nat) (x : α) (f : Nat → α) : Nat → α := fun b => if n ≤ b then x else f b
theorem tagFrom_lt {α : Type} {n : Nat} {x : α} {f : Nat → α} {b : Nat} (h : b < n) : tagFrom n x f b = f b := if_neg (by omega)
theorem tagFrom_ge {α : Type} {n : Nat} {x : α} {f : Nat → α} {b : Nat} (h : n ≤ b) : tagFrom n x f b = x := if_pos h
section
variable {W W1 W' : World} {base k i g : Nat} {f1 f1' : Nat → Nat} {f2 f2' : Nat → Nat × Nat} {v vk vi newv : Value} {r : List Int} {rows rows' : List (List Int)} {l : Wd} {row : Option Nat}
theorem Below.grown {w w' : World} (h : Below w.heap.size w w') : w.grownBy w' none := ⟨h.os, h.tape, h.output, h.size, fun k hk _ => h.block k hk⟩
theorem nums_of_R {v : Value} {r : List Int} {ok : Nat → Prop} (h : Kd.R (Kd.int .i64) 3 W base ok v r) : W.ownsRow base 3 1 v r.length (nums .i64 r) := by
 obtain ⟨_, inner, h1, h2, h3⟩ := h
 have : inner = nums .i64 r := by
  apply List.ext_getElem?
  intro j
  by_cases hj : j < r.length
  ·have := h3 j r[j] (List.getElem?_eq_getElem hj)
   have h4 : (inner.drop (j * 1)).take 1 = [.int .i64 r[j]] := this
   have hj2 : j < inner.length := by have : inner.length = r.length * 1 := h2; omega
   have h5 : inner[j] = Value.int .i64 r[j] := by
    have := congrArg List.head? h4; rw [Nat.mul_one, List.head?_take] at this
    simpa [List.head?_drop, hj2] using this
   simp [nums, hj, hj2, h5]
  ·have hj2 : ¬ j < inner.length := by have : inner.length = r.length * 1 := h2; omega
   simp [nums, List.getElem?_eq_none (Nat.not_lt.1 hj2), List.getElem?_eq_none (Nat.not_lt.1 hj)]
 rw [this] at h1; exact h1
theorem WRepF.beside (h : WRepF W base f1 f2 v l) (hg : W.grownBy W' row) (hrow : ∀ b, row = some b → f1 b = l.length ∧ ∃ c, W.heap[b]? = some (.cells c 22 (0, 0)))
  (hf1 : ∀ b, b < W.heap.size → f1' b = f1 b) (hf2 : ∀ b, b < W.heap.size → f2' b = f2 b) : WRepF W' base f1' f2' v l := by
 obtain ⟨vs, h1, h2⟩ := h
 have hne : ∀ b t cc, W.heap[b]? = some (.cells cc t (0, 0)) → t ≠ 22 → some b ≠ row := fun b t cc hb ht e => by
  obtain ⟨_, c', hc'⟩ := hrow b e.symm; rw [hb] at hc'
  injection hc' with hc'
  injection hc' with _ hc'
  exact ht hc'
 refine ⟨vs, own_move h1 (fun b hb => hg.block b (own_lt h1 b hb) ?_), fun j rows hj => ?_⟩; (· obtain ⟨c, hc⟩ := own_typed h1 b hb; exact hne b 64 c hc (by decide))
 ·obtain ⟨vj, h3, h4⟩ := h2 j rows hj
  refine ⟨vj, h3, h4.move (fun b hl hb => hg.block b hl ?_) hf1 hf2⟩
  rcases hb with hb | ⟨c', hb⟩
  (· obtain ⟨cs, h5, h6, _⟩ := h4; intro e; have h7 := h6 b hb; have h8 := (hrow b e.symm).1; have := (List.getElem?_eq_some_iff.1 hj).1; omega); (· exact hne b 3 c' hb (by decide))
theorem KindRep.pushed {cs : List Value} {v1 : Value} (h : KindRep W base f1 f2 k vk rows) (hbs : base ≤ W.heap.size) (hb : Below W.heap.size W W1) (hr : W1.ownsRow W.heap.size 3 1 vi r.length (nums .i64 r)) (hcs : W.ownsRow base 22 1 vk rows.length cs)
  (hel : ∀ (i : Nat) r, rows[i]? = some r → ∃ vi, cs[i]? = some vi ∧ RecRep W base f2 k i vi r) (htag : ∀ b, vk.ownBlock = some b → f1 b = k)
  (hg : W1.grownBy W' vk.ownBlock) (hat : v1.ownBlock = vk.ownBlock ∨ ∃ b, v1.ownBlock = some b ∧ W1.heap.size ≤ b) (hown : W'.ownsRow base 22 1 v1 (rows.length + 1) (cs ++ [vi])) :
  KindRep W' base (tagFrom W.heap.size k f1) (tagFrom W.heap.size (k, rows.length) f2) k v1 (rows ++ [r]) := by
 have hlen : cs.length = rows.length := by have := hcs.1; omega
 have hty : ∀ b c, (W.heap[b]? = some (.cells c 3 (0, 0)) ∨ W.heap.size ≤ b) → some b ≠ vk.ownBlock := fun b c hb e => by
  rcases hb with hb | hb
  ·obtain ⟨c', hc'⟩ := own_typed hcs b e.symm
   rw [hb] at hc'
   injection hc' with hc'
   injection hc' with _ hc'
   exact absurd hc' (by decide)
  (· have := own_lt hcs b e.symm; omega)
 refine ⟨cs ++ [vi], by rw [List.length_append]; exact hown, fun b hb2 => ?_, fun j rr hj => ?_⟩
 ·rcases hat with hat | ⟨b', hb', hle⟩
  (· rw [hat] at hb2; rw [tagFrom_lt (own_lt hcs b hb2)]; exact htag b hb2)
  ·rw [hb'] at hb2
   injection hb2 with hb2
   exact tagFrom_ge (by have := hb.size; omega)
 ·by_cases hjl : j < rows.length
  ·rw [List.getElem?_append_left hjl] at hj
   obtain ⟨vj, h3, h4⟩ := hel j rr hj; refine ⟨vj, by rw [List.getElem?_append_left (by omega)]; exact h3, ?_⟩; have h5 := h4.move (W' := W') (f2' := tagFrom W.heap.size (k, rows.length) f2) (fun b hb2 hl => ?_) (fun b hl => tagFrom_lt hl); (· exact h5); (· obtain ⟨c, hc⟩ := own_typed h4.1 b hb2; rw [hg.block b (by have := hb.size; omega) (hty b c (.inl hc)), hb.block b hl])
  ·have hj2 : j = rows.length := by have := (List.getElem?_eq_some_iff.1 hj).1; simp at this; omega
   subst hj2
   have e : rr = r := by simpa using hj.symm
   subst e; refine ⟨vi, by rw [← hlen]; simp, (own_move (Kd.own_raise hr (fun b hb2 => Nat.le_trans hbs (own_base hr b hb2))) (fun b hb2 => hg.block b (own_lt hr b hb2) (hty b #[] (.inr (own_base hr b hb2))))), fun b hb2 => tagFrom_ge (own_base hr b hb2)⟩
theorem KindRep.nil (hb : True) : KindRep W base f1 f2 k (.slice none 0 0) [] := ⟨[], own_nil _ _ _ _, fun b h => by simp [Value.ownBlock] at h, fun i r h => by simp at h⟩
theorem KindRep.take {A : Option Addr} {n c : Nat} (h : KindRep W base f1 f2 k (.slice A n c) rows) {m : Nat} (hm : m ≤ rows.length) : KindRep W base f1 f2 k (.slice A m c) (rows.take m) := by
 obtain ⟨cs, h1, h2, h3⟩ := h
 have hlen : cs.length = rows.length := by have := h1.1; omega
 refine ⟨cs.take m, ?_, ?_, fun i r hr => ?_⟩
 ·rw [List.length_take, Nat.min_eq_left hm]
  refine ⟨by rw [List.length_take]; omega, ?_⟩
  rcases h1.2 with ⟨e, e2⟩ | ⟨g, cap, cur, e, hb, hg, h4, h5, h6, h7⟩
  ·injection e with e3 e4 e5
   subst e3 e4 e5
   have hm0 : m = 0 := by omega
   subst hm0; exact .inl ⟨rfl, rfl⟩
  ·injection e with e3 e4 e5
   subst e3 e4 e5; refine .inr ⟨g, c, cur, rfl, hb, hg, by omega, h5, h6, ?_⟩; rw [← h7, List.take_take, Nat.min_eq_left (by omega), Nat.mul_one]
 ·intro b hb
  refine h2 b ?_
  cases A with
  | none => simp [Value.ownBlock] at hb
  | some a => simpa [Value.ownBlock] using hb
 (· have hi := (List.getElem?_eq_some_iff.1 hr).1; rw [List.length_take] at hi; rw [List.getElem?_take_of_lt (by omega)] at hr; obtain ⟨vi, h4, h5⟩ := h3 i r hr; exact ⟨vi, by rw [List.getElem?_take_of_lt (by omega)]; exact h4, h5⟩)
theorem WRepF.cell {c b j : Nat} {x : Int} (h : WRepF W base f1 f2 v l) (hk : l[k]? = some rows) (hi : rows[i]? = some r) (hf : f2 b = (k, i)) (hty : ∃ c, W.heap[b]? = some (.cells c 3 (0, 0)))
  (hrec : W.ownsRow base 3 1 (.slice (some ⟨b, 0, none⟩) r.length c) r.length (nums .i64 r)) (hv : ∀ cs vk vi vs, W.ownsRow base 64 1 v l.length vs → vs[k]? = some vk → W.ownsRow base 22 1 vk rows.length cs → cs[i]? = some vi → vi = .slice (some ⟨b, 0, none⟩) r.length c) :
  WRepF (W.setCell ⟨b, j, none⟩ (.int .i64 x)) base f1 f2 v (l.set k (rows.set i (r.set j x))) := by
 obtain ⟨vs, h1, h2⟩ := h; obtain ⟨cb, hcb⟩ := hty
 have hne : ∀ b' t cc, W.heap[b']? = some (.cells cc t (0, 0)) → t ≠ 3 → b' ≠ b := fun b' t cc hb ht e => by
  rw [e, hcb] at hb
  injection hb with hb
  injection hb with _ hb
  exact ht hb.symm
 have hkl := (List.getElem?_eq_some_iff.1 hk).1; have hil := (List.getElem?_eq_some_iff.1 hi).1; refine ⟨vs, ?_, fun k' rows2 hk' => ?_⟩
 ·rw [List.length_set]
  exact own_move h1 (fun b' hb' => by
   obtain ⟨c', hc'⟩ := own_typed h1 b' hb'
   exact Below.heap_setCell _ _ _ _ (hne b' 64 c' hc' (by decide)))
 ·have hk2 : ∃ rowsk, l[k']? = some rowsk ∧ (rows2 = rowsk ∧ k' ≠ k ∨ k' = k ∧ rows2 = rows.set i (r.set j x)) := by
   by_cases e : k' = k
   (· subst e; rw [List.getElem?_set_self hkl] at hk'; exact ⟨rows, hk, .inr ⟨rfl, (Option.some.inj hk').symm⟩⟩); (· rw [List.getElem?_set_ne (Ne.symm e)] at hk'; exact ⟨rows2, hk', .inl ⟨rfl, e⟩⟩)
  obtain ⟨rowsk, hkk, hor⟩ := hk2; obtain ⟨vk', h3, cs, h4, h5, h6⟩ := h2 k' rowsk hkk
  have hl2 : rows2.length = rowsk.length := by
   rcases hor with ⟨e, _⟩ | ⟨e, e2⟩
   (· rw [e]); (· subst e; rw [hk] at hkk; obtain rfl := Option.some.inj hkk; rw [e2, List.length_set])
  refine ⟨vk', h3, cs, ?_, h5, fun i' r2 hi' => ?_⟩
  ·rw [hl2]
   exact own_move h4 (fun b' hb' => by
    obtain ⟨c', hc'⟩ := own_typed h4 b' hb'
    exact Below.heap_setCell _ _ _ _ (hne b' 22 c' hc' (by decide)))
  ·have hoth : ∀ vi', RecRep W base f2 k' i' vi' r2 → (k', i') ≠ (k, i) → RecRep (W.setCell ⟨b, j, none⟩ (.int .i64 x)) base f2 k' i' vi' r2 := fun vi' h7 hne2 =>
    h7.move (fun b' hb' hl => Below.heap_setCell _ _ _ _ (fun e => by
     have e : b' = b := e; rw [e] at hb'
     exact hne2 ((h7.2 b hb').symm.trans hf))) (fun _ _ => rfl)
   rcases hor with ⟨e, hkne⟩ | ⟨e, e2⟩
   (· subst e; obtain ⟨vi', h7, h8⟩ := h6 i' r2 hi'; exact ⟨vi', h7, hoth vi' h8 (fun e => hkne (congrArg Prod.fst e))⟩)
   ·subst e
    rw [hk] at hkk; obtain rfl := Option.some.inj hkk; subst e2
    by_cases ei : i' = i
    ·subst ei
     rw [List.getElem?_set_self hil] at hi'; obtain rfl := Option.some.inj hi'; obtain ⟨vi', h7, h8⟩ := h6 i' r hi; obtain rfl := hv cs vk' vi' vs h1 h3 h4 h7; refine ⟨_, h7, ?_, h8.2⟩; have := (hrec.stored j (.int .i64 x)).1; rw [List.length_set]
     have e3 : nums .i64 (r.set j x) = (nums .i64 r).set j (.int .i64 x) := by simp [nums, List.map_set]
     rw [e3]; exact this
    (· rw [List.getElem?_set_ne (Ne.symm ei)] at hi'; obtain ⟨vi', h7, h8⟩ := h6 i' r2 hi'; exact ⟨vi', h7, hoth vi' h8 (fun e => ei (congrArg Prod.snd e))⟩)
theorem own_unique {e size n : Nat} {v : Value} {xs ys : List Value} (h : W.ownsRow base e size v n xs) (h' : W.ownsRow base e size v n ys) : xs = ys := by
 rcases h.2 with ⟨e1, e2⟩ | ⟨g, cap, cur, e1, _, hg, _, _, _, h7⟩
 (· have a := h.1; have b := h'.1; rw [e2, Nat.zero_mul] at a b; rw [List.length_eq_zero_iff.1 a, List.length_eq_zero_iff.1 b])
 ·rcases h'.2 with ⟨e1', e2'⟩ | ⟨g', cap', cur', e1', _, hg', _, _, _, h7'⟩
  ·rw [e1] at e1'
   cases e1'
  ·rw [e1] at e1'
   injection e1' with e3 _ _
   injection e3 with e3
   injection e3 with e3 _ _
   subst e3; rw [hg] at hg'
   injection hg' with hg'
   injection hg' with hg' _ _
   subst hg'; rw [← h7, h7']
theorem WRepF.path (h : WRepF W base f1 f2 v l) (hk : l[k]? = some rows) (hi : rows[i]? = some r) : ∃ c g c2 g2 A3 c3, v = .slice (some ⟨g, 0, none⟩) l.length c ∧ W.cell? ⟨g, k, none⟩ = some (.slice (some ⟨g2, 0, none⟩) rows.length c2) ∧ W.cell? ⟨g2, i, none⟩ = some (.slice A3 r.length c3) ∧ r.length ≤ c3 ∧
  (0 < r.length → ∃ b, A3 = some ⟨b, 0, none⟩ ∧ base ≤ b ∧ ∀ j, j < r.length → W.cell? ⟨b, j, none⟩ = some (.int .i64 (rd r j)) ∧ W.frozen? ⟨b, j, none⟩ = false ∧ ∀ x, WRepF (W.setCell ⟨b, j, none⟩ (.int .i64 x)) base f1 f2 v (l.set k (rows.set i (r.set j x)))) := by
 have hkl := (List.getElem?_eq_some_iff.1 hk).1; have hil := (List.getElem?_eq_some_iff.1 hi).1; obtain ⟨A, c, rfl, _, htop⟩ := h.top; have h0 := h; obtain ⟨vs, h1, h2⟩ := h; obtain ⟨vk, h3, h4⟩ := h2 k rows hk; obtain ⟨g, rfl, hbg, _⟩ := htop (by omega); obtain ⟨A2, c2, rfl, _, _, _, h5⟩ := h4.at_; obtain ⟨g2, rfl, _⟩ := h5 (by omega); obtain ⟨cs, h6, h7, h8⟩ := h4; obtain ⟨vi, h9, h10⟩ := h8 i r hi; obtain ⟨A3, c3, rfl, hc3, _, h11, h12⟩ := h10.at_; refine ⟨c, g, c2, g2, A3, c3, rfl, (h1.cellAt k (by omega)).trans h3, (h6.cellAt i (by omega)).trans h9, hc3, fun hp => ?_⟩; obtain ⟨b, rfl, h13⟩ := h12 hp; obtain ⟨e1, e2, e3, e4⟩ := h11 b rfl; refine ⟨b, rfl, e2, fun j hj => ⟨(h13 j hj).1, (h13 j hj).2, fun x => ?_⟩⟩; refine WRepF.cell (c := c3) h0 hk hi e1 e4 h10.1 (fun cs' vk' vi' vs' ha hb hc hd => ?_); obtain rfl := own_unique h1 ha; rw [h3] at hb
 injection hb with hb
 subst hb; obtain rfl := own_unique h6 hc; rw [h9] at hd
 injection hd with hd
 exact hd.symm
end
end Go.Proofs.Ytcgpemefmakjiaa.PX
