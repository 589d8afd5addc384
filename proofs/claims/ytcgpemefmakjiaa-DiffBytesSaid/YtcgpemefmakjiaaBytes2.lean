/- Texts of this claim, merged: part 2. -/
import Derived.Test.YtcgpemefmakjiaaProg
import Derived.Below
import Derived.Deep.Draws
import Derived.Deep.AppendLies
import Derived.Maps.AppendAt
import Derived.OwnWalk
import Derived.Laws.BytesArg
import Derived.Laws.MakeOwn
import Derived.Laws.OwnMore
import Derived.Deep.OwnRows
import Derived.Tactics
import Derived.Lib.ConvBytes
import Derived.Laws.Slices
import Derived.WalkKit
import Derived.KernelRfl
import Derived.RowKit3
import Derived.Deep.LoopGhost
import Derived.Deep.QuietTactic
import Derived.BigQuiet
import Derived.WideLaws
import Derived.Deep.DeepCutAuto
import Derived.Deep.CutBlock
import Derived.Deep.RegionHeld3
import Derived.Laws.Rows
import Derived.Lib.AppendStr
import Derived.ArgAppend
import Derived.Laws.IdiomCopy
import Derived.OrdersHeld
import Derived.Laws.BitsLemmas
import Derived.RowKit
import Derived.Test.YtcgpemefmakjiaaBytes1
import Derived.OneCell
import Derived.Lib.Hide
import Derived.Lib.LazyBuf
import Derived.WalkMore
import Derived.Lib.AppendZeros
import Derived.RangeFuncNested
import Derived.RangeFuncBound
import Derived.RangeFuncCalls
import Derived.RangeFuncLeaves
import Derived.Shelf.Abstract
import Derived.Shelf.RegionOpen
import Derived.OwnWalkIn
import Derived.TacticsInMore
import Derived.LoopNIn
import Derived.LoopIn
import Derived.LoopTactic
import Derived.Sort.LoopGhostIn
namespace Go.Proofs.Ytcgpemefmakjiaa.PX
abbrev I : Bool := true
abbrev O : Bool := false
theorem sA_ {α : Type} {i : Nat} {a : α} {l : List α} : l.toArray.setIfInBounds i a = (l.set i a).toArray := List.setIfInBounds_toArray ..
theorem sB_ {α : Type} {x a : α} {l : List α} : (x :: l).set 0 a = a :: l := rfl
theorem sC_ {α : Type} {x a : α} {l : List α} {n : Nat} : (x :: l).set (n + 1) a = x :: l.set n a := rfl
end Go.Proofs.Ytcgpemefmakjiaa.PX
namespace Go.Proofs.Ytcgpemefmakjiaa.PX
open Go.RowKit Go.Proofs.YtcgpemefmakjiaaW.PrintWords Go.Proofs.YtcgpemefmakjiaaW.PrintLast Go.Proofs.YtcgpemefmakjiaaW.PrintMore
attribute [local go_sem] max2_int min2_int max_two min_two max_three min_three max_four min_four   -- for this text's walks alone
set_option linter.unusedVariables false
set_option linter.unusedSimpArgs false
theorem info3 : (Try.prog.info? 3).map (fun i => (i.zero, i.size, i.bytes)) = some (some (.int .i64 0), 1, 8) := by kernel_rfl
theorem info5 : (Try.prog.info? 5).map (fun i => (i.zero, i.size, i.bytes)) = some (some (.int .u8 0), 1, 1) := by kernel_rfl
theorem info22 : (Try.prog.info? 22).map (fun i => (i.zero, i.size, i.bytes)) = some (some (.slice none 0 0), 1, 24) := by kernel_rfl
theorem info61 : (Try.prog.info? 61).map (fun i => (i.zero, i.size, i.bytes)) = some (some (.agg #[(.int .i64 0), (.int .i64 0), (.int .i64 0), (.int .i64 0), (.int .i64 0), (.slice none 0 0)]), 6, 64) := by kernel_rfl
theorem info64 : (Try.prog.info? 64).map (fun i => (i.zero, i.size, i.bytes)) = some (some (.slice none 0 0), 1, 24) := by kernel_rfl
theorem info76 : (Try.prog.info? 76).map (fun i => (i.zero, i.size, i.bytes)) = some (some (.agg #[(.int .i64 0), (.int .i64 0), (.int .i64 0), (.int .i64 0), (.int .i64 0), (.slice none 0 0)]), 6, 64) := by kernel_rfl
def rd_L1 (xs : List (List Int)) (i : Int) : (List Int) := xs.getD i.toNat ([] : List Int)
theorem at_L1 {w : World} {A : Option Addr} {n : Nat} {xs : List (List Int)} (h : Kd.C (Kd.slice 3 (Kd.int .i64)) w A n xs) (i : Int) (h0 : 0 ≤ i) (h1 : i < n) : ∃ ad A0 c0, A = some ad ∧ w.cell? (ad.add i.toNat) = some (.slice A0 (rd_L1 xs i).length c0) ∧ (rd_L1 xs i).length ≤ c0 ∧ (Kd.int .i64).C w A0 (rd_L1 xs i).length (rd_L1 xs i) := by
 obtain ⟨ad, c, e, _, hK, hc0⟩ := Kd.C_get h ([] : List Int) i h0 h1; have hc : ∀ j u, c[j]? = some u → w.cell? (ad.add (i.toNat * 1 + j)) = some u := hc0; obtain ⟨A0, c0, rfl, l0, g0⟩ := hK; exact ⟨ad, A0, c0, e, by have hq := hc 0 _ rfl; rwa [Nat.mul_one, Nat.add_zero] at hq, l0, g0⟩
def rd_L2 (xs : List (List (List Int))) (i : Int) : (List (List Int)) := xs.getD i.toNat ([] : List (List Int))
theorem at_L2 {w : World} {A : Option Addr} {n : Nat} {xs : List (List (List Int))} (h : Kd.C (Kd.slice 22 (Kd.slice 3 (Kd.int .i64))) w A n xs) (i : Int) (h0 : 0 ≤ i) (h1 : i < n) : ∃ ad A0 c0, A = some ad ∧ w.cell? (ad.add i.toNat) = some (.slice A0 (rd_L2 xs i).length c0) ∧ (rd_L2 xs i).length ≤ c0 ∧ (Kd.slice 3 (Kd.int .i64)).C w A0 (rd_L2 xs i).length (rd_L2 xs i) := by
 obtain ⟨ad, c, e, _, hK, hc0⟩ := Kd.C_get h ([] : List (List Int)) i h0 h1; have hc : ∀ j u, c[j]? = some u → w.cell? (ad.add (i.toNat * 1 + j)) = some u := hc0; obtain ⟨A0, c0, rfl, l0, g0⟩ := hK; exact ⟨ad, A0, c0, e, by have hq := hc 0 _ rfl; rwa [Nat.mul_one, Nat.add_zero] at hq, l0, g0⟩
structure S61 where
 f0 : Int
 f1 : Int
 f2 : Int
 f3 : Int
 f4 : Int
 f5 : (List Int)
def z61 : S61 := ⟨(0 : Int), (0 : Int), (0 : Int), (0 : Int), (0 : Int), ([] : List Int)⟩
def k61 : Kd S61 := Kd.iso (Kd.pair (Kd.int .i64) (Kd.pair (Kd.int .i64) (Kd.pair (Kd.int .i64) (Kd.pair (Kd.int .i64) (Kd.pair (Kd.int .i64) (Kd.slice 3 (Kd.int .i64))))))) (fun x : S61 => (x.f0, x.f1, x.f2, x.f3, x.f4, x.f5))
theorem k61_open {w : World} {x : S61} {cs : List Value} (h : k61.K w x cs) : ∃ A5 c5, cs = [.int .i64 x.f0, .int .i64 x.f1, .int .i64 x.f2, .int .i64 x.f3, .int .i64 x.f4, .slice A5 x.f5.length c5] ∧ x.f5.length ≤ c5 ∧ (Kd.int .i64).C w A5 x.f5.length x.f5 := by
 obtain ⟨_, _, rfl, rfl, ⟨_, _, rfl, rfl, ⟨_, _, rfl, rfl, ⟨_, _, rfl, rfl, ⟨_, _, rfl, rfl, ⟨A5, c5, rfl, l5, g5⟩⟩⟩⟩⟩⟩ := h; exact ⟨A5, c5, rfl, l5, g5⟩
theorem k61_mkM (w : World) (base : Nat) (ok : Nat → Prop) (x : S61) {v5 : Value} (g5 : (Kd.int .i64).R 3 w base ok v5 x.f5) : k61.M w base ok x [.int .i64 x.f0, .int .i64 x.f1, .int .i64 x.f2, .int .i64 x.f3, .int .i64 x.f4, v5] := ⟨[.int .i64 x.f0], [.int .i64 x.f1, .int .i64 x.f2, .int .i64 x.f3, .int .i64 x.f4, v5], rfl, rfl, ⟨[.int .i64 x.f1], [.int .i64 x.f2, .int .i64 x.f3, .int .i64 x.f4, v5], rfl, rfl, ⟨[.int .i64 x.f2], [.int .i64 x.f3, .int .i64 x.f4, v5], rfl, rfl, ⟨[.int .i64 x.f3], [.int .i64 x.f4, v5], rfl, rfl, ⟨[.int .i64 x.f4], [v5], rfl, rfl, ⟨v5, rfl, g5⟩⟩⟩⟩⟩⟩
theorem k61_openF {W : World} {ok : Nat → Prop} {x : S61} {cs : List Value} (h : Kd.FK k61 W ok x cs) : ∃ A5 c5, cs = [.int .i64 x.f0, .int .i64 x.f1, .int .i64 x.f2, .int .i64 x.f3, .int .i64 x.f4, .slice A5 x.f5.length c5] ∧ x.f5.length ≤ c5 ∧ Kd.F (Kd.int .i64) W ok A5 x.f5.length x.f5 := by
 obtain ⟨A5, c5, rfl, l5, _⟩ := k61_open (Kd.FK_now h); exact ⟨A5, c5, rfl, l5, (fun W' hW => by obtain ⟨A5_, c5_, he, l5_, g5_⟩ := k61_open (h W' hW); injection (Option.some.inj (show some (Value.slice A5 x.f5.length c5) = some (Value.slice A5_ x.f5.length c5_) from congrArg (fun l => l[5]?) he)) with ha_ _ _; rw [ha_]; exact g5_)⟩
def rd_T61 (xs : List S61) (i : Int) : S61 := xs.getD i.toNat z61
theorem at_T61 {w : World} {A : Option Addr} {n : Nat} {xs : List S61} (h : Kd.C k61 w A n xs) (i : Int) (h0 : 0 ≤ i) (h1 : i < n) : ∃ ad A5 c5, A = some ad ∧ w.cell? (ad.add (i.toNat * 6)) = some (.int .i64 (rd_T61 xs i).f0) ∧ w.cell? ⟨(ad.add (i.toNat * 6)).block, (ad.add (i.toNat * 6)).off + 1, none⟩ = some (.int .i64 (rd_T61 xs i).f1) ∧ w.cell? ⟨(ad.add (i.toNat * 6)).block, (ad.add (i.toNat * 6)).off + 2, none⟩ = some (.int .i64 (rd_T61 xs i).f2) ∧ w.cell? ⟨(ad.add (i.toNat * 6)).block, (ad.add (i.toNat * 6)).off + 3, none⟩ = some (.int .i64 (rd_T61 xs i).f3) ∧ w.cell? ⟨(ad.add (i.toNat * 6)).block, (ad.add (i.toNat * 6)).off + 4, none⟩ = some (.int .i64 (rd_T61 xs i).f4) ∧ w.cell? ⟨(ad.add (i.toNat * 6)).block, (ad.add (i.toNat * 6)).off + 5, none⟩ = some (.slice A5 (rd_T61 xs i).f5.length c5) ∧ (rd_T61 xs i).f5.length ≤ c5 ∧ (Kd.int .i64).C w A5 (rd_T61 xs i).f5.length (rd_T61 xs i).f5 := by
 obtain ⟨ad, c, e, _, hK, hc0⟩ := Kd.C_get h z61 i h0 h1; have hc : ∀ j u, c[j]? = some u → w.cell? (ad.add (i.toNat * 6 + j)) = some u := hc0; obtain ⟨A5, c5, rfl, l5, g5⟩ := k61_open hK; exact ⟨ad, A5, c5, e, hc 0 _ rfl, by rw [← add_field _ _ 1 (by omega)]; exact hc 1 _ rfl, by rw [← add_field _ _ 2 (by omega)]; exact hc 2 _ rfl, by rw [← add_field _ _ 3 (by omega)]; exact hc 3 _ rfl, by rw [← add_field _ _ 4 (by omega)]; exact hc 4 _ rfl, by rw [← add_field _ _ 5 (by omega)]; exact hc 5 _ rfl, l5, g5⟩
structure S76 where
 f0 : Int
 f1 : Int
 f2 : Int
 f3 : Int
 f4 : Int
 f5 : (List Int)
def z76 : S76 := ⟨(0 : Int), (0 : Int), (0 : Int), (0 : Int), (0 : Int), ([] : List Int)⟩
def k76 : Kd S76 := Kd.iso (Kd.pair (Kd.int .i64) (Kd.pair (Kd.int .i64) (Kd.pair (Kd.int .i64) (Kd.pair (Kd.int .i64) (Kd.pair (Kd.int .i64) (Kd.slice 3 (Kd.int .i64))))))) (fun x : S76 => (x.f0, x.f1, x.f2, x.f3, x.f4, x.f5))
theorem k76_open {w : World} {x : S76} {cs : List Value} (h : k76.K w x cs) : ∃ A5 c5, cs = [.int .i64 x.f0, .int .i64 x.f1, .int .i64 x.f2, .int .i64 x.f3, .int .i64 x.f4, .slice A5 x.f5.length c5] ∧ x.f5.length ≤ c5 ∧ (Kd.int .i64).C w A5 x.f5.length x.f5 := by
 obtain ⟨_, _, rfl, rfl, ⟨_, _, rfl, rfl, ⟨_, _, rfl, rfl, ⟨_, _, rfl, rfl, ⟨_, _, rfl, rfl, ⟨A5, c5, rfl, l5, g5⟩⟩⟩⟩⟩⟩ := h; exact ⟨A5, c5, rfl, l5, g5⟩
theorem k76_mk (w : World) (x : S76) {A5 : Option Addr} {c5 : Nat} (l5 : x.f5.length ≤ c5) (g5 : (Kd.int .i64).C w A5 x.f5.length x.f5) : k76.K w x [.int .i64 x.f0, .int .i64 x.f1, .int .i64 x.f2, .int .i64 x.f3, .int .i64 x.f4, .slice A5 x.f5.length c5] := ⟨[.int .i64 x.f0], [.int .i64 x.f1, .int .i64 x.f2, .int .i64 x.f3, .int .i64 x.f4, .slice A5 x.f5.length c5], rfl, rfl, ⟨[.int .i64 x.f1], [.int .i64 x.f2, .int .i64 x.f3, .int .i64 x.f4, .slice A5 x.f5.length c5], rfl, rfl, ⟨[.int .i64 x.f2], [.int .i64 x.f3, .int .i64 x.f4, .slice A5 x.f5.length c5], rfl, rfl, ⟨[.int .i64 x.f3], [.int .i64 x.f4, .slice A5 x.f5.length c5], rfl, rfl, ⟨[.int .i64 x.f4], [.slice A5 x.f5.length c5], rfl, rfl, ⟨A5, c5, rfl, l5, g5⟩⟩⟩⟩⟩⟩
theorem k76_mkF (W : World) (ok : Nat → Prop) (x : S76) {A5 : Option Addr} {c5 : Nat} (l5 : x.f5.length ≤ c5) (g5 : Kd.F (Kd.int .i64) W ok A5 x.f5.length x.f5) : Kd.FK k76 W ok x [.int .i64 x.f0, .int .i64 x.f1, .int .i64 x.f2, .int .i64 x.f3, .int .i64 x.f4, .slice A5 x.f5.length c5] := fun W2 hW => k76_mk W2 x l5 (g5 W2 hW)
def rd_T76 (xs : List S76) (i : Int) : S76 := xs.getD i.toNat z76
theorem at_T76 {w : World} {A : Option Addr} {n : Nat} {xs : List S76} (h : Kd.C k76 w A n xs) (i : Int) (h0 : 0 ≤ i) (h1 : i < n) : ∃ ad A5 c5, A = some ad ∧ w.cell? (ad.add (i.toNat * 6)) = some (.int .i64 (rd_T76 xs i).f0) ∧ w.cell? ⟨(ad.add (i.toNat * 6)).block, (ad.add (i.toNat * 6)).off + 1, none⟩ = some (.int .i64 (rd_T76 xs i).f1) ∧ w.cell? ⟨(ad.add (i.toNat * 6)).block, (ad.add (i.toNat * 6)).off + 2, none⟩ = some (.int .i64 (rd_T76 xs i).f2) ∧ w.cell? ⟨(ad.add (i.toNat * 6)).block, (ad.add (i.toNat * 6)).off + 3, none⟩ = some (.int .i64 (rd_T76 xs i).f3) ∧ w.cell? ⟨(ad.add (i.toNat * 6)).block, (ad.add (i.toNat * 6)).off + 4, none⟩ = some (.int .i64 (rd_T76 xs i).f4) ∧ w.cell? ⟨(ad.add (i.toNat * 6)).block, (ad.add (i.toNat * 6)).off + 5, none⟩ = some (.slice A5 (rd_T76 xs i).f5.length c5) ∧ (rd_T76 xs i).f5.length ≤ c5 ∧ (Kd.int .i64).C w A5 (rd_T76 xs i).f5.length (rd_T76 xs i).f5 := by
 obtain ⟨ad, c, e, _, hK, hc0⟩ := Kd.C_get h z76 i h0 h1; have hc : ∀ j u, c[j]? = some u → w.cell? (ad.add (i.toNat * 6 + j)) = some u := hc0; obtain ⟨A5, c5, rfl, l5, g5⟩ := k76_open hK; exact ⟨ad, A5, c5, e, hc 0 _ rfl, by rw [← add_field _ _ 1 (by omega)]; exact hc 1 _ rfl, by rw [← add_field _ _ 2 (by omega)]; exact hc 2 _ rfl, by rw [← add_field _ _ 3 (by omega)]; exact hc 3 _ rfl, by rw [← add_field _ _ 4 (by omega)]; exact hc 4 _ rfl, by rw [← add_field _ _ 5 (by omega)]; exact hc 5 _ rfl, l5, g5⟩
end Go.Proofs.Ytcgpemefmakjiaa.PX
namespace Go.Proofs.Ytcgpemefmakjiaa.PX
open Go.RowKit Go.Proofs.YtcgpemefmakjiaaW.PrintWords Go.Proofs.YtcgpemefmakjiaaW.PrintLast Go.Proofs.YtcgpemefmakjiaaW.PrintMore
attribute [local go_sem] max2_int min2_int max_two min_two max_three min_three max_four min_four   -- for this text's walks alone
set_option linter.unusedVariables false
set_option linter.unusedSimpArgs false
def dioramaref01_Around.f (a0 : Int) (a1 : Int) : Option (Int) := if a0 < 0 then (if a1 < 1 then (some 0) else (if a1 = 0 then (none) else (some (Int.tmod (wrap64 (-(wrap64 (a0 + 1)))) a1)))) else (if a1 < 1 then (some 0) else (if a1 = 0 then (none) else (some (Int.tmod a0 a1))))
set_option maxHeartbeats 8000000 in
set_option maxRecDepth 100000 in
theorem dioramaref01_Around.calls (a0 : Int) (a1 : Int) (r : Int) (w : World) (h : dioramaref01_Around.f a0 a1 = some r) :
  Calls Try.prog 36 #[.int .i64 a0, .int .i64 a1] w fun e w' => e = .returned (.int .i64 r) ∧ Drawn0 w w' := by
 have H : (if a0 < 0 then (if a1 < 1 then (some 0) else (if a1 = 0 then (none) else (some (Int.tmod (wrap64 (-(wrap64 (a0 + 1)))) a1)))) else (if a1 < 1 then (some 0) else (if a1 = 0 then (none) else (some (Int.tmod a0 a1))))) = some r := h; clear h
 by_cases c3 : a0 < 0
 ·rw [if_pos c3] at H
  have c3b0 : decide (a0 < 0) = true := decide_eq_true c3; clear c3
  by_cases c4 : a1 < 1
  ·rw [if_pos c4] at H
   have c4b0 : decide (a1 < 1) = true := decide_eq_true c4; clear c4; obtain rfl := Option.some.inj H
   go_enter Try.func36, Try.ntmps36
   go_wp2; go_ret; exact ⟨by first | rfl | (simp; done) | (simp [*]; done), by repeat (first | exact Drawn0.refl _ | apply Drawn0.step)⟩
  ·rw [if_neg c4] at H
   have c4b0 : decide (a1 < 1) = false := decide_eq_false c4; clear c4
   by_cases c5 : a1 = 0
   (· rw [if_pos c5] at H; exact absurd H (by simp))
   ·rw [if_neg c5] at H
    have c5b0 : (a1 == 0) = false := beq_eq_false_iff_ne.mpr c5; have c5b1 : (a1 != 0) = true := bne_iff_ne.mpr c5; obtain rfl := Option.some.inj H
    go_enter Try.func36, Try.ntmps36
    go_wp2; go_ret; exact ⟨by first | rfl | (simp; done) | (simp [*]; done), by repeat (first | exact Drawn0.refl _ | apply Drawn0.step)⟩
 ·rw [if_neg c3] at H
  have c3b0 : decide (a0 < 0) = false := decide_eq_false c3; clear c3
  by_cases c6 : a1 < 1
  ·rw [if_pos c6] at H
   have c6b0 : decide (a1 < 1) = true := decide_eq_true c6; clear c6; obtain rfl := Option.some.inj H
   go_enter Try.func36, Try.ntmps36
   go_wp2; go_ret; exact ⟨by first | rfl | (simp; done) | (simp [*]; done), by repeat (first | exact Drawn0.refl _ | apply Drawn0.step)⟩
  ·rw [if_neg c6] at H
   have c6b0 : decide (a1 < 1) = false := decide_eq_false c6; clear c6
   by_cases c7 : a1 = 0
   (· rw [if_pos c7] at H; exact absurd H (by simp))
   ·rw [if_neg c7] at H
    have c7b0 : (a1 == 0) = false := beq_eq_false_iff_ne.mpr c7; have c7b1 : (a1 != 0) = true := bne_iff_ne.mpr c7; obtain rfl := Option.some.inj H
    go_enter Try.func36, Try.ntmps36
    go_wp2; go_ret; exact ⟨by first | rfl | (simp; done) | (simp [*]; done), by repeat (first | exact Drawn0.refl _ | apply Drawn0.step)⟩
end Go.Proofs.Ytcgpemefmakjiaa.PX
namespace Go.Proofs.Ytcgpemefmakjiaa.PX
open Go.RowKit Go.Proofs.YtcgpemefmakjiaaW.PrintWords Go.Proofs.YtcgpemefmakjiaaW.PrintLast Go.Proofs.YtcgpemefmakjiaaW.PrintMore
attribute [local go_sem] max2_int min2_int max_two min_two max_three min_three max_four min_four   -- for this text's walks alone
set_option linter.unusedVariables false
set_option linter.unusedSimpArgs false
def dioramaref01_At.f (l0 : List Int) (a1 : Int) (a2 : Int) : Option (Int) := if a1 < 0 then (some 0) else (if a1 ≥ (l0.length : Int) then (some 0) else (if 0 ≤ a1 then (if a1 < (l0.length : Int) then ((dioramaref01_Around.f (rd l0 a1) a2).bind fun t102 => (some t102)) else (none)) else (none)))
set_option maxHeartbeats 8000000 in
set_option maxRecDepth 100000 in
theorem dioramaref01_At.calls (A0 : Option Addr) (c0 : Nat) (l0 : List Int) (a1 : Int) (a2 : Int) (r : Int) (w : World) (hr0 : Kd.C (Kd.int .i64) w A0 l0.length l0) (hc0 : l0.length ≤ c0) (h : dioramaref01_At.f l0 a1 a2 = some r) :
  Calls Try.prog 34 #[.slice A0 l0.length c0, .int .i64 a1, .int .i64 a2] w fun e w' => e = .returned (.int .i64 r) ∧ Drawn0 w w' := by
 have HR0 := Aside0.mk hr0; have HC0 := Aside0.mk hc0; clear hr0 hc0; have H : (if a1 < 0 then (some 0) else (if a1 ≥ (l0.length : Int) then (some 0) else (if 0 ≤ a1 then (if a1 < (l0.length : Int) then ((dioramaref01_Around.f (rd l0 a1) a2).bind fun t102 => (some t102)) else (none)) else (none)))) = some r := h; clear h
 by_cases c4 : a1 < 0
 ·rw [if_pos c4] at H
  have c4b0 : decide (a1 < 0) = true := decide_eq_true c4; clear c4; obtain rfl := Option.some.inj H
  go_enter Try.func34, Try.ntmps34
  go_wp2; go_ret; exact ⟨by first | rfl | (simp; done) | (simp [*]; done), by repeat (first | exact Drawn0.refl _ | apply Drawn0.step)⟩
 ·rw [if_neg c4] at H
  have c4b0 : decide (a1 < 0) = false := decide_eq_false c4; clear c4
  by_cases c5 : a1 ≥ (l0.length : Int)
  ·rw [if_pos c5] at H
   have c5b0 : decide ((l0.length : Int) ≤ a1) = true := decide_eq_true c5; clear c5; obtain rfl := Option.some.inj H
   go_enter Try.func34, Try.ntmps34
   go_wp2; go_ret; exact ⟨by first | rfl | (simp; done) | (simp [*]; done), by repeat (first | exact Drawn0.refl _ | apply Drawn0.step)⟩
  ·rw [if_neg c5] at H
   have c5b0 : decide ((l0.length : Int) ≤ a1) = false := decide_eq_false c5; clear c5
   by_cases c6 : 0 ≤ a1
   ·rw [if_pos c6] at H
    have c6b0 : decide (0 ≤ a1) = true := decide_eq_true c6; clear c6
    by_cases c7 : a1 < (l0.length : Int)
    ·rw [if_pos c7] at H
     have c7b0 : decide (a1 < (l0.length : Int)) = true := decide_eq_true c7; clear c7; replace H := Option.bind_eq_some_iff.mp H; obtain ⟨t102, A80, H⟩ := H; replace H : (some t102) = some r := H; have A8 := Aside0.mk A80; clear A80; obtain rfl := Option.some.inj H; have p101 : 0 ≤ (a1 : Int) := of_decide_eq_true (by first | (with_reducible assumption) | assumption); have q101 : a1 < (l0.length : Int) := of_decide_eq_true (by first | (with_reducible assumption) | assumption); obtain ⟨ad101, e101, hx101_0⟩ := Kd.at_int HR0.out a1 p101 q101
     cases e101
     replace p101 := eq_true p101; replace q101 := eq_true q101
     go_enter Try.func34, Try.ntmps34
     go_wp2_with (first | ((with_reducible refine gate_callee (f := 36) rfl ?_); refine goesL_ (some 20) rfl rfl Try.func36 (by kernel_rfl) rfl #[.int .i64 (rd l0 a1), .int .i64 a2] rfl (by (try simp only [List.map_toArray, List.map_cons, List.map_nil]); first | done | rfl | (simp only [List.length_drop, List.length_take]; rfl)) ?_; (with_reducible refine (dioramaref01_Around.calls (rd l0 a1) a2 t102 _ A8.out).mono ?_); rintro e w' ⟨rfl, ⟨nd, rfl⟩⟩; refine ⟨_, rfl, ?_⟩))
     go_ret; exact ⟨by first | rfl | (simp; done) | (simp [*]; done), by repeat (first | exact Drawn0.refl _ | apply Drawn0.step)⟩
    (· rw [if_neg c7] at H; exact absurd H (by simp))
   (· rw [if_neg c6] at H; exact absurd H (by simp))
end Go.Proofs.Ytcgpemefmakjiaa.PX
namespace Go.Proofs.Ytcgpemefmakjiaa.PX
open Go.RowKit Go.Proofs.YtcgpemefmakjiaaW.PrintWords Go.Proofs.YtcgpemefmakjiaaW.PrintLast Go.Proofs.YtcgpemefmakjiaaW.PrintMore
attribute [local go_sem] max2_int min2_int max_two min_two max_three min_three max_four min_four   -- for this text's walks alone
set_option linter.unusedVariables false
set_option linter.unusedSimpArgs false
def dioramaref36_Shape.l0 : Nat → List Int → List Int → Int → Option (List Int)
 | 0, _, _, _ => none
 | k + 1, x0, x3, x4 => (dioramaref01_At.f x0 0 3).bind fun t103 => (if x4 < (wrap64 (1 + t103)) then ((dioramaref01_At.f x0 (wrap64 (1 + x4)) 4).bind fun t104 => (if x3.length < 17592186044416 then (dioramaref36_Shape.l0 k x0 (x3 ++ [wrap64 (1 + t104)]) (wrap64 (x4 + 1))) else (none))) else (some x3))
def dioramaref36_Shape.f (k : Nat) (l0 : List Int) : Option (List Int) := dioramaref36_Shape.l0 k l0 ([] : List Int) 0
set_option maxHeartbeats 8000000 in
set_option maxRecDepth 100000 in
theorem dioramaref36_Shape.calls (k : Nat) (A0 : Option Addr) (c0 : Nat) (l0 : List Int) (r : List Int) (w : World) (hr0 : Kd.C (Kd.int .i64) w A0 l0.length l0) (hc0 : l0.length ≤ c0) (h : dioramaref36_Shape.f k l0 = some r) :
  Calls Try.prog 10 #[.slice A0 l0.length c0] w fun e w' => ∃ v0_ : Value, e = .returned (v0_) ∧ Kd.R (Kd.int .i64) 3 w' w.heap.size (fun _ => True) v0_ r ∧ Below w.heap.size w w' := by
 have HR0 := Aside0.mk hr0; have HC0 := Aside0.mk hc0; clear hr0 hc0; have HB := Aside0.mk (Below.refl w.heap.size w); have H : (dioramaref36_Shape.l0 k l0 ([] : List Int) 0) = some r := h; clear h; have H' := Aside0.mk H; clear H
 go_enter Try.func10, Try.ntmps10
 go_wp2
 go_loopg [3, 4] k (fun kq v3 v4 w' => ∃ (x3_1 : List Int) (x4_1 : Int), v4 = .int .i64 x4_1 ∧ Aside0 (dioramaref36_Shape.l0 kq l0 x3_1 x4_1 = some r) ∧ Aside0 (kq ≤ k) ∧ Aside0 (Kd.R (Kd.int .i64) 3 w' w.heap.size (fun _ => True) v3 x3_1) ∧ Aside0 (Below w.heap.size w w'))
 case atStart => exact ⟨(([] : List Int)), (0), (by first | rfl | (simp; done) | (simp [*]; done)), H', ⟨Nat.le_refl _⟩, ⟨by first | exact Kd.R_nil _ _ _ _ _ | exact Kd.N_nil _ _ _ _ _ | exact Kd.V_nil _ _ _ _ _ | exact Kd.Q_nil _ _ _ _ _ | exact Kd.S_nil _ _ _ _ _⟩, ⟨by repeat (first | (with_reducible first | exact HB.out | apply below_alloc | apply pw_below_drewN | apply below_drew1) | exact HB.out)⟩⟩
 case round =>
  clear H'
  try clear c1
  obtain ⟨x3_1, x4_1, rfl, HA, HK1, HO_3, HB⟩ := hrel
  cases gk with
  | zero => exact absurd HA.out (by simp [dioramaref36_Shape.l0])
  | succ k1 =>
   have H := HA.out; clear HA; simp only [dioramaref36_Shape.l0] at H; replace H := Option.bind_eq_some_iff.mp H; obtain ⟨t103, A20, H⟩ := H; replace H : (if x4_1 < (wrap64 (1 + t103)) then ((dioramaref01_At.f l0 (wrap64 (1 + x4_1)) 4).bind fun t104 => (if x3_1.length < 17592186044416 then (dioramaref36_Shape.l0 k1 l0 (x3_1 ++ [wrap64 (1 + t104)]) (wrap64 (x4_1 + 1))) else (none))) else (some x3_1)) = some r := H; have A2 := Aside0.mk A20; clear A20
   by_cases c3 : x4_1 < (wrap64 (1 + t103))
   ·rw [if_pos c3] at H
    have c3b0 : decide (x4_1 < (wrap64 (1 + t103))) = true := decide_eq_true c3; clear c3; replace H := Option.bind_eq_some_iff.mp H; obtain ⟨t104, A40, H⟩ := H; replace H : (if x3_1.length < 17592186044416 then (dioramaref36_Shape.l0 k1 l0 (x3_1 ++ [wrap64 (1 + t104)]) (wrap64 (x4_1 + 1))) else (none)) = some r := H; have A4 := Aside0.mk A40; clear A40
    by_cases c5 : x3_1.length < 17592186044416
    ·rw [if_pos c5] at H
     have LMc5 := Aside0.mk c5; clear c5; obtain ⟨y105, hy105⟩ : ∃ y_ : List Int, y_ = (x3_1 ++ [wrap64 (1 + t104)]) := ⟨_, rfl⟩
     replace H : (dioramaref36_Shape.l0 k1 l0 y105 (wrap64 (x4_1 + 1))) = some r := by first | (rw [hy105]; with_reducible exact H) | (have H2_ := (Option.bind_some _ _).symm.trans H; rw [hy105]; with_reducible exact H2_) | (have H2_ := (Option.bind_some _ _).symm.trans H; with_reducible exact H2_) | with_reducible exact H | (rw [hy105]; exact H) | exact H
     have Ny105 := Aside0.mk hy105; clear hy105; have H' := Aside0.mk H; clear H
     go_wp2_with (first | ((with_reducible refine gate_callee (f := 34) rfl ?_); refine goesL_ (some 7) rfl rfl Try.func34 (by kernel_rfl) rfl #[.slice A0 l0.length c0, .int .i64 0, .int .i64 3] rfl (by (try simp only [List.map_toArray, List.map_cons, List.map_nil]); first | done | rfl | (simp only [List.length_drop, List.length_take]; rfl)) ?_; (with_reducible refine (dioramaref01_At.calls _ _ l0 0 3 t103 _ ?side1 ?side2 A2.out).mono ?_); (case side1 => repeat (first | exact (Kd.C_below HR0.out HB.out) | (with_reducible refine Kd.C_alloc ?_ _) | (with_reducible refine Kd.C_drewN ?_ _) | (with_reducible refine Kd.C_drew ?_))); (case side2 => exact HC0.out); rintro e w' ⟨rfl, ⟨nd, rfl⟩⟩; refine ⟨_, rfl, ?_⟩) | ((with_reducible refine gate_callee (f := 34) rfl ?_); refine goesL_ (some 16) rfl rfl Try.func34 (by kernel_rfl) rfl #[.slice A0 l0.length c0, .int .i64 (wrap64 (1 + x4_1)), .int .i64 4] rfl (by (try simp only [List.map_toArray, List.map_cons, List.map_nil]); first | done | rfl | (simp only [List.length_drop, List.length_take]; rfl)) ?_; (with_reducible refine (dioramaref01_At.calls _ _ l0 (wrap64 (1 + x4_1)) 4 t104 _ ?side1 ?side2 A4.out).mono ?_); (case side1 => repeat (first | exact (Kd.C_below HR0.out (by repeat (first | (with_reducible first | exact HB.out | apply below_alloc | apply pw_below_drewN | apply below_drew1) | exact HB.out))) | (with_reducible refine Kd.C_alloc ?_ _) | (with_reducible refine Kd.C_drewN ?_ _) | (with_reducible refine Kd.C_drew ?_))); (case side2 => exact HC0.out); rintro e w' ⟨rfl, ⟨nd, rfl⟩⟩; refine ⟨_, rfl, ?_⟩) | ((with_reducible refine gate_builtin (b := .append) (xs := #[.tmp 12, .tmp 18]) rfl ?_); at_builtin; refine Kd.R_append (Kd.int .i64) (w0 := w) w.heap.size rfl (.tmp 12) (.tmp 18) 22 3 (.int .i64 0) 8 rfl Try.underlying22 info3 rfl (by decide) (by omega) u3 x3_1 (wrap64 (1 + t104)) [.int .i64 (wrap64 (1 + t104))] (fun _ => True) (fun _ => False) rfl rfl ?aP (fun _ hk => hk.elim) ?aF ?aO ?aB ?aS ?aL ?_; (case aP => exact rfl); (case aB => exact (by repeat (first | (with_reducible first | exact HB.out | apply below_alloc | apply pw_below_drewN | apply below_drew1) | exact HB.out))); (case aF => exact (fun _ _ => trivial)); (case aO => exact (by (with_reducible repeat (first | apply Kd.R_alloc | apply Kd.R_drewN | apply Kd.R_drew)); exact HO_3.out)); (case aS => exact (below_size (by repeat (first | (with_reducible first | exact HB.out | apply below_alloc | apply pw_below_drewN | apply below_drew1) | exact HB.out)))); (case aL => have := LMc5.out; omega); intro v106 w6 ho hb hg hat; rw [← Ny105.out] at ho; have n0_ := Aside0.mk (hb); have n1_ := Aside0.mk (ho); clear HB; clear HO_3; have HB := n0_; have HO107 := n1_; clear n0_ n1_; clear ho hb hg hat))
     go_roundg k1
     case measure => have := HK1.out; omega
     case rel => exact ⟨(y105), (wrap64 (x4_1 + 1)), (by first | rfl | (simp; done) | (simp [*]; done)), H', ⟨by have := HK1.out; omega⟩, ⟨by (with_reducible repeat (first | apply Kd.R_alloc | apply Kd.R_drewN | apply Kd.R_drew)); exact HO107.out⟩, ⟨by repeat (first | (with_reducible first | exact HB.out | apply below_alloc | apply pw_below_drewN | apply below_drew1) | exact HB.out)⟩⟩
    (· rw [if_neg c5] at H; exact absurd H (by simp))
   ·rw [if_neg c3] at H
    have c3b0 : decide (x4_1 < (wrap64 (1 + t103))) = false := decide_eq_false c3; clear c3; obtain rfl := Option.some.inj H
    go_wp2_with (first | ((with_reducible refine gate_callee (f := 34) rfl ?_); refine goesL_ (some 7) rfl rfl Try.func34 (by kernel_rfl) rfl #[.slice A0 l0.length c0, .int .i64 0, .int .i64 3] rfl (by (try simp only [List.map_toArray, List.map_cons, List.map_nil]); first | done | rfl | (simp only [List.length_drop, List.length_take]; rfl)) ?_; (with_reducible refine (dioramaref01_At.calls _ _ l0 0 3 t103 _ ?side1 ?side2 A2.out).mono ?_); (case side1 => repeat (first | exact (Kd.C_below HR0.out HB.out) | (with_reducible refine Kd.C_alloc ?_ _) | (with_reducible refine Kd.C_drewN ?_ _) | (with_reducible refine Kd.C_drew ?_))); (case side2 => exact HC0.out); rintro e w' ⟨rfl, ⟨nd, rfl⟩⟩; refine ⟨_, rfl, ?_⟩))
    go_ret; exact ⟨_, by first | rfl | (simp [errW_none, errW_some] <;> rfl) | (simp [*, errW_none, errW_some] <;> rfl), by (with_reducible repeat (first | apply Kd.R_alloc | apply Kd.R_drewN | apply Kd.R_drew)); exact HO_3.out, by repeat (first | (with_reducible first | exact HB.out | apply below_alloc | apply pw_below_drewN | apply below_drew1) | exact HB.out)⟩
end Go.Proofs.Ytcgpemefmakjiaa.PX
namespace Go.Proofs.Ytcgpemefmakjiaa.PX
open Go.RowKit Go.Proofs.YtcgpemefmakjiaaW.PrintWords Go.Proofs.YtcgpemefmakjiaaW.PrintLast Go.Proofs.YtcgpemefmakjiaaW.PrintMore
attribute [local go_sem] max2_int min2_int max_two min_two max_three min_three max_four min_four   -- for this text's walks alone
set_option linter.unusedVariables false
set_option linter.unusedSimpArgs false
mutual
def dioramaref36_World.l0 : Nat → List Int → List Int → List (List (List Int)) → Int → Int → Option ((List (List (List Int))))
 | 0, _, _, _, _, _ => none
 | k + 1, x0, x1, x5, x6, x7 => if x7 < (x0.length : Int) then (dioramaref36_World.l1 k x0 x1 x5 x6 x7 ([] : List (List Int)) 0) else (some x5)
def dioramaref36_World.l1 : Nat → List Int → List Int → List (List (List Int)) → Int → Int → List (List Int) → Int → Option ((List (List (List Int))))
 | 0, _, _, _, _, _, _, _ => none
 | k + 1, x0, x1, x5, x6, x7, x8, x9 => (dioramaref01_At.f x1 x6 5).bind fun t108 => (if x9 < t108 then (dioramaref36_World.l2 k x0 x1 x5 x6 x7 x8 x9 ([] : List Int) 0) else (if x5.length < 5864062014805 then (dioramaref36_World.l0 k x0 x1 (x5 ++ [x8]) (wrap64 (x6 + 17)) (wrap64 (x7 + 1))) else (none)))
def dioramaref36_World.l2 : Nat → List Int → List Int → List (List (List Int)) → Int → Int → List (List Int) → Int → List Int → Int → Option ((List (List (List Int))))
 | 0, _, _, _, _, _, _, _, _, _ => none
 | k + 1, x0, x1, x5, x6, x7, x8, x9, x10, x11 => if 0 ≤ x7 then (if x7 < (x0.length : Int) then (if x11 < (rd x0 x7) then ((dioramaref01_At.f x1 (wrap64 ((wrap64 ((wrap64 (x6 + 1)) + (wrap64 (4 * x9)))) + x11)) 3).bind fun t113 => (if x10.length < 17592186044416 then (dioramaref36_World.l2 k x0 x1 x5 x6 x7 x8 x9 (x10 ++ [t113]) (wrap64 (x11 + 1))) else (none))) else (if x8.length < 5864062014805 then (dioramaref36_World.l1 k x0 x1 x5 x6 x7 (x8 ++ [x10]) (wrap64 (x9 + 1))) else (none))) else (none)) else (none)
end
def dioramaref36_World.f (k : Nat) (l0 : List Int) (l1 : List Int) : Option ((List (List (List Int)))) := dioramaref36_World.l0 k l0 l1 ([] : List (List (List Int))) 0 0
set_option maxHeartbeats 8000000 in
set_option maxRecDepth 100000 in
theorem dioramaref36_World.calls (k : Nat) (A0 : Option Addr) (c0 : Nat) (l0 : List Int) (A1 : Option Addr) (c1 : Nat) (l1 : List Int) (r : List (List (List Int))) (w : World) (hr0 : Kd.C (Kd.int .i64) w A0 l0.length l0) (hc0 : l0.length ≤ c0) (hr1 : Kd.C (Kd.int .i64) w A1 l1.length l1) (hc1 : l1.length ≤ c1) (h : dioramaref36_World.f k l0 l1 = some r) :
  Calls Try.prog 11 #[.slice A0 l0.length c0, .slice A1 l1.length c1] w fun e w' => ∃ v0_ : Value, e = .returned (v0_) ∧ Kd.R (Kd.slice 22 (Kd.slice 3 (Kd.int .i64))) 64 w' w.heap.size (fun _ => True) v0_ r ∧ Below w.heap.size w w' := by
 have HR0 := Aside0.mk hr0; have HC0 := Aside0.mk hc0; clear hr0 hc0; have HR1 := Aside0.mk hr1; have HC1 := Aside0.mk hc1; clear hr1 hc1; have HB := Aside0.mk (Below.refl w.heap.size w); have H : (dioramaref36_World.l0 k l0 l1 ([] : List (List (List Int))) 0 0) = some r := h; clear h; have H' := Aside0.mk H; clear H
 go_enter Try.func11, Try.ntmps11
 go_wp2
 go_loopg [5, 6, 7] k (fun kq v5 v6 v7 w' => ∃ (x5_1 : List (List (List Int))) (x6_1 : Int) (x7_1 : Int), v6 = .int .i64 x6_1 ∧ v7 = .int .i64 x7_1 ∧ Aside0 (dioramaref36_World.l0 kq l0 l1 x5_1 x6_1 x7_1 = some r) ∧ Aside0 (kq ≤ k) ∧ Aside0 (Kd.R (Kd.slice 22 (Kd.slice 3 (Kd.int .i64))) 64 w' w.heap.size (fun _ => True) v5 x5_1) ∧ Aside0 (Below w.heap.size w w'))
 case atStart => exact ⟨(([] : List (List (List Int)))), (0), (0), (by first | rfl | (simp; done) | (simp [*]; done)), (by first | rfl | (simp; done) | (simp [*]; done)), H', ⟨Nat.le_refl _⟩, ⟨by first | exact Kd.R_nil _ _ _ _ _ | exact Kd.N_nil _ _ _ _ _ | exact Kd.V_nil _ _ _ _ _ | exact Kd.Q_nil _ _ _ _ _ | exact Kd.S_nil _ _ _ _ _⟩, ⟨by repeat (first | (with_reducible first | exact HB.out | apply below_alloc | apply pw_below_drewN | apply below_drew1) | exact HB.out)⟩⟩
 case round =>
  clear H'
  try clear c1
  try clear p2
  obtain ⟨x5_1, x6_1, x7_1, rfl, rfl, HA, HK1, HO_5, HB⟩ := hrel
  cases gk with
  | zero => exact absurd HA.out (by simp [dioramaref36_World.l0])
  | succ k1 =>
   have H := HA.out; clear HA; simp only [dioramaref36_World.l0] at H
   by_cases c3 : x7_1 < (l0.length : Int)
   ·rw [if_pos c3] at H
    have c3b0 : decide (x7_1 < (l0.length : Int)) = true := decide_eq_true c3; clear c3; have H' := Aside0.mk H; clear H; go_wp2
    go_loopg [8, 9] k1 (fun kq v8 v9 w' => ∃ (x8_2 : List (List Int)) (x9_2 : Int), v9 = .int .i64 x9_2 ∧ Aside0 (dioramaref36_World.l1 kq l0 l1 x5_1 x6_1 x7_1 x8_2 x9_2 = some r) ∧ Aside0 (kq ≤ k1) ∧ Aside0 (Kd.R (Kd.slice 22 (Kd.slice 3 (Kd.int .i64))) 64 w' w.heap.size (fun k_ => some k_ ≠ (v8 : Value).ownBlock) u5 x5_1) ∧ Aside0 (Kd.S (Kd.slice 3 (Kd.int .i64)) 22 w' w.heap.size (fun _ => True) v8 x8_2) ∧ Aside0 (Below w.heap.size w w'))
    case atStart => exact ⟨(([] : List (List Int))), (0), (by first | rfl | (simp; done) | (simp [*]; done)), H', ⟨Nat.le_refl _⟩, ⟨by (with_reducible repeat (first | apply Kd.R_alloc | apply Kd.R_drewN | apply Kd.R_drew)); exact Kd.R_mono HO_5.out (fun _ hk => (by simp [Value.ownBlock]))⟩, ⟨by first | exact Kd.S_nil _ _ _ _ _ | exact Kd.N_nil _ _ _ _ _ | exact Kd.V_nil _ _ _ _ _ | exact Kd.Q_nil _ _ _ _ _ | exact Kd.R_nil _ _ _ _ _⟩, ⟨by repeat (first | (with_reducible first | exact HB.out | apply below_alloc | apply pw_below_drewN | apply below_drew1) | exact HB.out)⟩⟩
    case round =>
     clear H'
     try clear c1
     try clear p2
     try clear c3
     try clear c3b0
     try clear p2
     obtain ⟨x8_2, x9_2, rfl, HA, HK2, HO_5, HO_8, HB⟩ := hrel
     cases gk with
     | zero => exact absurd HA.out (by simp [dioramaref36_World.l1])
     | succ k2 =>
      have H := HA.out; clear HA; simp only [dioramaref36_World.l1] at H; replace H := Option.bind_eq_some_iff.mp H; obtain ⟨t108, A40, H⟩ := H; replace H : (if x9_2 < t108 then (dioramaref36_World.l2 k2 l0 l1 x5_1 x6_1 x7_1 x8_2 x9_2 ([] : List Int) 0) else (if x5_1.length < 5864062014805 then (dioramaref36_World.l0 k2 l0 l1 (x5_1 ++ [x8_2]) (wrap64 (x6_1 + 17)) (wrap64 (x7_1 + 1))) else (none))) = some r := H; have A4 := Aside0.mk A40; clear A40
      by_cases c5 : x9_2 < t108
      ·rw [if_pos c5] at H
       have c5b0 : decide (x9_2 < t108) = true := decide_eq_true c5; clear c5; have H' := Aside0.mk H; clear H
       go_wp2_with (first | ((with_reducible refine gate_callee (f := 34) rfl ?_); refine goesL_ (some 21) rfl rfl Try.func34 (by kernel_rfl) rfl #[.slice A1 l1.length c1, .int .i64 x6_1, .int .i64 5] rfl (by (try simp only [List.map_toArray, List.map_cons, List.map_nil]); first | done | rfl | (simp only [List.length_drop, List.length_take]; rfl)) ?_; (with_reducible refine (dioramaref01_At.calls _ _ l1 x6_1 5 t108 _ ?side1 ?side2 A4.out).mono ?_); (case side1 => repeat (first | exact (Kd.C_below HR1.out HB.out) | (with_reducible refine Kd.C_alloc ?_ _) | (with_reducible refine Kd.C_drewN ?_ _) | (with_reducible refine Kd.C_drew ?_))); (case side2 => exact HC1.out); rintro e w' ⟨rfl, ⟨nd, rfl⟩⟩; refine ⟨_, rfl, ?_⟩))
       go_loopg [10, 11] k2 (fun kq v10 v11 w' => ∃ (x10_3 : List Int) (x11_3 : Int), v11 = .int .i64 x11_3 ∧ Aside0 (dioramaref36_World.l2 kq l0 l1 x5_1 x6_1 x7_1 x8_2 x9_2 x10_3 x11_3 = some r) ∧ Aside0 (kq ≤ k2) ∧ Aside0 (Kd.R (Kd.slice 22 (Kd.slice 3 (Kd.int .i64))) 64 w' w.heap.size (fun k_ => some k_ ≠ (u8 : Value).ownBlock ∧ some k_ ≠ (v10 : Value).ownBlock) u5 x5_1) ∧ Aside0 (Kd.S (Kd.slice 3 (Kd.int .i64)) 22 w' w.heap.size (fun k_ => some k_ ≠ (v10 : Value).ownBlock) u8 x8_2) ∧ Aside0 (Kd.R (Kd.int .i64) 3 w' w.heap.size (fun _ => True) v10 x10_3) ∧ Aside0 (Below w.heap.size w w'))
       case atStart => exact ⟨(([] : List Int)), (0), (by first | rfl | (simp; done) | (simp [*]; done)), H', ⟨Nat.le_refl _⟩, ⟨by (with_reducible repeat (first | apply Kd.R_alloc | apply Kd.R_drewN | apply Kd.R_drew)); exact Kd.R_mono HO_5.out (fun _ hk => ⟨hk, (by simp [Value.ownBlock])⟩)⟩, ⟨by (with_reducible repeat (first | apply Kd.S_alloc | apply Kd.S_drewN | apply Kd.S_drew)); exact Kd.S_mono HO_8.out (fun _ hk => (by simp [Value.ownBlock]))⟩, ⟨by first | exact Kd.R_nil _ _ _ _ _ | exact Kd.N_nil _ _ _ _ _ | exact Kd.V_nil _ _ _ _ _ | exact Kd.Q_nil _ _ _ _ _ | exact Kd.S_nil _ _ _ _ _⟩, ⟨by repeat (first | (with_reducible first | exact HB.out | apply below_alloc | apply pw_below_drewN | apply below_drew1) | exact HB.out)⟩⟩
       case round =>
        clear H'
        try clear c1
        try clear p2
        try clear c3
        try clear c3b0
        try clear c5
        try clear c5b0
        try clear p2
        obtain ⟨x10_3, x11_3, rfl, HA, HK3, HO_5, HO_8, HO_10, HB⟩ := hrel
        cases gk with
        | zero => exact absurd HA.out (by simp [dioramaref36_World.l2])
        | succ k3 =>
         have H := HA.out; clear HA; simp only [dioramaref36_World.l2] at H
         by_cases c6 : 0 ≤ x7_1
         ·rw [if_pos c6] at H
          have c6b0 : decide (0 ≤ x7_1) = true := decide_eq_true c6; clear c6
          by_cases c7 : x7_1 < (l0.length : Int)
          ·rw [if_pos c7] at H
           have c7b0 : decide (x7_1 < (l0.length : Int)) = true := decide_eq_true c7; clear c7
           by_cases c8 : x11_3 < (rd l0 x7_1)
           ·rw [if_pos c8] at H
            have c8b0 : decide (x11_3 < (rd l0 x7_1)) = true := decide_eq_true c8; clear c8; replace H := Option.bind_eq_some_iff.mp H; obtain ⟨t113, A90, H⟩ := H; replace H : (if x10_3.length < 17592186044416 then (dioramaref36_World.l2 k3 l0 l1 x5_1 x6_1 x7_1 x8_2 x9_2 (x10_3 ++ [t113]) (wrap64 (x11_3 + 1))) else (none)) = some r := H; have A9 := Aside0.mk A90; clear A90
            by_cases c10 : x10_3.length < 17592186044416
            ·rw [if_pos c10] at H
             have LMc10 := Aside0.mk c10; clear c10; obtain ⟨y114, hy114⟩ : ∃ y_ : List Int, y_ = (x10_3 ++ [t113]) := ⟨_, rfl⟩
             replace H : (dioramaref36_World.l2 k3 l0 l1 x5_1 x6_1 x7_1 x8_2 x9_2 y114 (wrap64 (x11_3 + 1))) = some r := by first | (rw [hy114]; with_reducible exact H) | (have H2_ := (Option.bind_some _ _).symm.trans H; rw [hy114]; with_reducible exact H2_) | (have H2_ := (Option.bind_some _ _).symm.trans H; with_reducible exact H2_) | with_reducible exact H | (rw [hy114]; exact H) | exact H
             have Ny114 := Aside0.mk hy114; clear hy114; have H' := Aside0.mk H; clear H; have p112 : 0 ≤ (x7_1 : Int) := of_decide_eq_true (by first | (with_reducible assumption) | assumption); have q112 : x7_1 < (l0.length : Int) := of_decide_eq_true (by first | (with_reducible assumption) | assumption); obtain ⟨ad112, e112, hx112_0⟩ := Kd.at_int HR0.out x7_1 p112 q112
             cases e112
             replace hx112_0 := (HB.out.cell (World.block_lt_of_cell? w _ hx112_0)).trans hx112_0; replace p112 := eq_true p112; replace q112 := eq_true q112
             go_wp2_with (first | ((with_reducible refine gate_callee (f := 34) rfl ?_); refine goesL_ (some 42) rfl rfl Try.func34 (by kernel_rfl) rfl #[.slice A1 l1.length c1, .int .i64 (wrap64 ((wrap64 ((wrap64 (x6_1 + 1)) + (wrap64 (4 * x9_2)))) + x11_3)), .int .i64 3] rfl (by (try simp only [List.map_toArray, List.map_cons, List.map_nil]); first | done | rfl | (simp only [List.length_drop, List.length_take]; rfl)) ?_; (with_reducible refine (dioramaref01_At.calls _ _ l1 (wrap64 ((wrap64 ((wrap64 (x6_1 + 1)) + (wrap64 (4 * x9_2)))) + x11_3)) 3 t113 _ ?side1 ?side2 A9.out).mono ?_); (case side1 => repeat (first | exact (Kd.C_below HR1.out HB.out) | (with_reducible refine Kd.C_alloc ?_ _) | (with_reducible refine Kd.C_drewN ?_ _) | (with_reducible refine Kd.C_drew ?_))); (case side2 => exact HC1.out); rintro e w' ⟨rfl, ⟨nd, rfl⟩⟩; refine ⟨_, rfl, ?_⟩) | ((with_reducible refine gate_builtin (b := .append) (xs := #[.tmp 33, .tmp 43]) rfl ?_); at_builtin; refine Kd.R_append (Kd.int .i64) (w0 := w) w.heap.size rfl (.tmp 33) (.tmp 43) 22 3 (.int .i64 0) 8 rfl Try.underlying22 info3 rfl (by decide) (by omega) u10 x10_3 t113 [.int .i64 t113] (fun _ => True) (fun _ => False) rfl rfl ?aP (fun _ hk => hk.elim) ?aF ?aO ?aB ?aS ?aL ?_; (case aP => exact rfl); (case aB => exact (by repeat (first | (with_reducible first | exact HB.out | apply below_alloc | apply pw_below_drewN | apply below_drew1) | exact HB.out))); (case aF => exact (fun _ _ => trivial)); (case aO => exact (by (with_reducible repeat (first | apply Kd.R_alloc | apply Kd.R_drewN | apply Kd.R_drew)); exact HO_10.out)); (case aS => exact (below_size (by repeat (first | (with_reducible first | exact HB.out | apply below_alloc | apply pw_below_drewN | apply below_drew1) | exact HB.out)))); (case aL => have := LMc10.out; omega); intro v115 w11 ho hb hg hat; rw [← Ny114.out] at ho; have n0_ := Aside0.mk (Kd.R_after (ok := (fun k_ => some k_ ≠ (u8 : Value).ownBlock)) (by (with_reducible repeat (first | apply Kd.R_alloc | apply Kd.R_drewN | apply Kd.R_drew)); exact HO_5.out) hg hat); have n1_ := Aside0.mk (Kd.S_after (ok := (fun _ => True)) (by (with_reducible repeat (first | apply Kd.S_alloc | apply Kd.S_drewN | apply Kd.S_drew)); exact Kd.S_mono HO_8.out (fun _ hk => ⟨trivial, hk⟩)) hg hat); have n2_ := Aside0.mk (hb); have n3_ := Aside0.mk (ho); clear HO_5; clear HO_8; clear HB; clear HO_10; have HO_5 := n0_; have HO_8 := n1_; have HB := n2_; have HO116 := n3_; clear n0_ n1_ n2_ n3_; clear ho hb hg hat))
             go_roundg k3
             case measure => have := HK1.out; have := HK2.out; have := HK3.out; omega
             case rel => exact ⟨(y114), (wrap64 (x11_3 + 1)), (by first | rfl | (simp; done) | (simp [*]; done)), H', ⟨by have := HK1.out; have := HK2.out; have := HK3.out; omega⟩, ⟨by (with_reducible repeat (first | apply Kd.R_alloc | apply Kd.R_drewN | apply Kd.R_drew)); exact HO_5.out⟩, ⟨by (with_reducible repeat (first | apply Kd.S_alloc | apply Kd.S_drewN | apply Kd.S_drew)); exact Kd.S_mono HO_8.out (fun _ hk => hk.2)⟩, ⟨by (with_reducible repeat (first | apply Kd.R_alloc | apply Kd.R_drewN | apply Kd.R_drew)); exact HO116.out⟩, ⟨by repeat (first | (with_reducible first | exact HB.out | apply below_alloc | apply pw_below_drewN | apply below_drew1) | exact HB.out)⟩⟩
            (· rw [if_neg c10] at H; exact absurd H (by simp))
           ·rw [if_neg c8] at H
            have c8b0 : decide (x11_3 < (rd l0 x7_1)) = false := decide_eq_false c8; clear c8
            by_cases c12 : x8_2.length < 5864062014805
            ·rw [if_pos c12] at H
             have LMc12 := Aside0.mk c12; clear c12; obtain ⟨y117, hy117⟩ : ∃ y_ : List (List Int), y_ = (x8_2 ++ [x10_3]) := ⟨_, rfl⟩
             replace H : (dioramaref36_World.l1 k3 l0 l1 x5_1 x6_1 x7_1 y117 (wrap64 (x9_2 + 1))) = some r := by first | (rw [hy117]; with_reducible exact H) | (have H2_ := (Option.bind_some _ _).symm.trans H; rw [hy117]; with_reducible exact H2_) | (have H2_ := (Option.bind_some _ _).symm.trans H; with_reducible exact H2_) | with_reducible exact H | (rw [hy117]; exact H) | exact H
             have Ny117 := Aside0.mk hy117; clear hy117; have H' := Aside0.mk H; clear H; have p112 : 0 ≤ (x7_1 : Int) := of_decide_eq_true (by first | (with_reducible assumption) | assumption); have q112 : x7_1 < (l0.length : Int) := of_decide_eq_true (by first | (with_reducible assumption) | assumption); obtain ⟨ad112, e112, hx112_0⟩ := Kd.at_int HR0.out x7_1 p112 q112
             cases e112
             replace hx112_0 := (HB.out.cell (World.block_lt_of_cell? w _ hx112_0)).trans hx112_0; replace p112 := eq_true p112; replace q112 := eq_true q112; obtain ⟨Ao14, co14, eo14⟩ := Kd.R_slice HO_10.out; subst eo14
             go_wp2_with (first | ((with_reducible refine gate_builtin (b := .append) (xs := #[.tmp 45, .tmp 47]) rfl ?_); at_builtin; refine Kd.S_append (Kd.slice 3 (Kd.int .i64)) (w0 := w) w.heap.size rfl (.tmp 45) (.tmp 47) 64 22 (.slice none 0 0) 24 rfl Try.underlying64 info22 rfl (by decide) (by omega) u8 x8_2 x10_3 [.slice Ao14 x10_3.length co14] (fun _ => True) (fun k_ => some k_ = (.slice Ao14 x10_3.length co14 : Value).ownBlock) rfl rfl ?aP (fun k_ hk_ => ((Kd.R_mono (ok' := fun k_ => ((fun _ => True)) k_ ∧ some k_ ≠ (u8 : Value).ownBlock) (Kd.R_apart' (HO_10.out) (Kd.S_typed HO_8.out) (by decide)) (fun k_ hk => ⟨trivial, hk.2⟩))).1 k_ hk_.symm) ?aF ?aO ?aB ?aS ?aL ?_; (case aP => exact Kd.M_row (Kd.R_mono (Kd.R_tight rfl (Kd.R_mono (ok' := fun k_ => ((fun _ => True)) k_ ∧ some k_ ≠ (u8 : Value).ownBlock) (Kd.R_apart' (HO_10.out) (Kd.S_typed HO_8.out) (by decide)) (fun k_ hk => ⟨trivial, hk.2⟩))) (fun _ h_ => h_))); (case aB => exact (by repeat (first | (with_reducible first | exact HB.out | apply below_alloc | apply pw_below_drewN | apply below_drew1) | exact HB.out))); (case aF => exact (fun _ _ => trivial)); (case aO => exact (by (with_reducible repeat (first | apply Kd.S_alloc | apply Kd.S_drewN | apply Kd.S_drew)); exact Kd.S_mono HO_8.out (fun k_ hk => ⟨trivial, fun e_ => hk e_⟩))); (case aS => exact (below_size (by repeat (first | (with_reducible first | exact HB.out | apply below_alloc | apply pw_below_drewN | apply below_drew1) | exact HB.out)))); (case aL => have := LMc12.out; omega); intro v118 w13 ho hb hg hat; rw [← Ny117.out] at ho; have n0_ := Aside0.mk (Kd.R_after (ok := (fun k_ => some k_ ≠ (.slice Ao14 x10_3.length co14 : Value).ownBlock)) (by (with_reducible repeat (first | apply Kd.R_alloc | apply Kd.R_drewN | apply Kd.R_drew)); exact Kd.R_mono HO_5.out (fun _ hk => ⟨hk.2, hk.1⟩)) hg hat); have n1_ := Aside0.mk (hb); have n2_ := Aside0.mk (ho); clear HO_5; clear HB; clear HO_8; clear HO_10; have HO_5 := n0_; have HB := n1_; have HO119 := n2_; clear n0_ n1_ n2_; clear ho hb hg hat))
             go_roundg k3
             case measure => have := HK1.out; have := HK2.out; have := HK3.out; omega
             case rel => exact ⟨(y117), (wrap64 (x9_2 + 1)), (by first | rfl | (simp; done) | (simp [*]; done)), H', ⟨by have := HK1.out; have := HK2.out; have := HK3.out; omega⟩, ⟨by (with_reducible repeat (first | apply Kd.R_alloc | apply Kd.R_drewN | apply Kd.R_drew)); exact Kd.R_mono HO_5.out (fun _ hk => hk.2)⟩, ⟨by (with_reducible repeat (first | apply Kd.S_alloc | apply Kd.S_drewN | apply Kd.S_drew)); exact HO119.out⟩, ⟨by repeat (first | (with_reducible first | exact HB.out | apply below_alloc | apply pw_below_drewN | apply below_drew1) | exact HB.out)⟩⟩
            (· rw [if_neg c12] at H; exact absurd H (by simp))
          (· rw [if_neg c7] at H; exact absurd H (by simp))
         (· rw [if_neg c6] at H; exact absurd H (by simp))
      ·rw [if_neg c5] at H
       have c5b0 : decide (x9_2 < t108) = false := decide_eq_false c5; clear c5
       by_cases c15 : x5_1.length < 5864062014805
       ·rw [if_pos c15] at H
        have LMc15 := Aside0.mk c15; clear c15; obtain ⟨y109, hy109⟩ : ∃ y_ : List (List (List Int)), y_ = (x5_1 ++ [x8_2]) := ⟨_, rfl⟩
        replace H : (dioramaref36_World.l0 k2 l0 l1 y109 (wrap64 (x6_1 + 17)) (wrap64 (x7_1 + 1))) = some r := by first | (rw [hy109]; with_reducible exact H) | (have H2_ := (Option.bind_some _ _).symm.trans H; rw [hy109]; with_reducible exact H2_) | (have H2_ := (Option.bind_some _ _).symm.trans H; with_reducible exact H2_) | with_reducible exact H | (rw [hy109]; exact H) | exact H
        have Ny109 := Aside0.mk hy109; clear hy109; have H' := Aside0.mk H; clear H
        go_wp2_with (first | ((with_reducible refine gate_callee (f := 34) rfl ?_); refine goesL_ (some 21) rfl rfl Try.func34 (by kernel_rfl) rfl #[.slice A1 l1.length c1, .int .i64 x6_1, .int .i64 5] rfl (by (try simp only [List.map_toArray, List.map_cons, List.map_nil]); first | done | rfl | (simp only [List.length_drop, List.length_take]; rfl)) ?_; (with_reducible refine (dioramaref01_At.calls _ _ l1 x6_1 5 t108 _ ?side1 ?side2 A4.out).mono ?_); (case side1 => repeat (first | exact (Kd.C_below HR1.out HB.out) | (with_reducible refine Kd.C_alloc ?_ _) | (with_reducible refine Kd.C_drewN ?_ _) | (with_reducible refine Kd.C_drew ?_))); (case side2 => exact HC1.out); rintro e w' ⟨rfl, ⟨nd, rfl⟩⟩; refine ⟨_, rfl, ?_⟩; obtain ⟨Ao17, co17, eo17⟩ := Kd.S_slice HO_8.out; subst eo17) | ((with_reducible refine gate_builtin (b := .append) (xs := #[.tmp 49, .tmp 51]) rfl ?_); at_builtin; refine Kd.R_append (Kd.slice 22 (Kd.slice 3 (Kd.int .i64))) (w0 := w) w.heap.size rfl (.tmp 49) (.tmp 51) 25 64 (.slice none 0 0) 24 rfl Try.underlying25 info64 rfl (by decide) (by omega) u5 x5_1 x8_2 [.slice Ao17 x8_2.length co17] (fun _ => True) (fun k_ => ((fun _ => True)) k_ ∧ some k_ ≠ (u5 : Value).ownBlock) rfl rfl ?aP (fun _ hk => hk) ?aF ?aO ?aB ?aS ?aL ?_; (case aP => exact Kd.M_row (Kd.R_mono (Kd.R_apart' ((Kd.S_R HO_8.out)) (Kd.R_typed HO_5.out) (by decide)) (fun k_ hk => ⟨trivial, hk.2⟩))); (case aB => exact (by repeat (first | (with_reducible first | exact HB.out | apply below_alloc | apply pw_below_drewN | apply below_drew1) | exact HB.out))); (case aF => exact (fun _ _ => trivial)); (case aO => exact (by (with_reducible repeat (first | apply Kd.R_alloc | apply Kd.R_drewN | apply Kd.R_drew)); exact Kd.R_mono HO_5.out (fun _ hk => trivial))); (case aS => exact (below_size (by repeat (first | (with_reducible first | exact HB.out | apply below_alloc | apply pw_below_drewN | apply below_drew1) | exact HB.out)))); (case aL => have := LMc15.out; omega); intro v110 w16 ho hb hg hat; rw [← Ny109.out] at ho; have n0_ := Aside0.mk (hb); have n1_ := Aside0.mk (ho); clear HB; clear HO_5; clear HO_8; have HB := n0_; have HO111 := n1_; clear n0_ n1_; clear ho hb hg hat))
        go_roundg k2
        case measure => have := HK1.out; have := HK2.out; omega
        case rel => exact ⟨(y109), (wrap64 (x6_1 + 17)), (wrap64 (x7_1 + 1)), (by first | rfl | (simp; done) | (simp [*]; done)), (by first | rfl | (simp; done) | (simp [*]; done)), H', ⟨by have := HK1.out; have := HK2.out; omega⟩, ⟨by (with_reducible repeat (first | apply Kd.R_alloc | apply Kd.R_drewN | apply Kd.R_drew)); exact HO111.out⟩, ⟨by repeat (first | (with_reducible first | exact HB.out | apply below_alloc | apply pw_below_drewN | apply below_drew1) | exact HB.out)⟩⟩
       (· rw [if_neg c15] at H; exact absurd H (by simp))
   (· rw [if_neg c3] at H; have c3b0 : decide (x7_1 < (l0.length : Int)) = false := decide_eq_false c3; clear c3; obtain rfl := Option.some.inj H; go_wp2; go_ret; exact ⟨_, by first | rfl | (simp [errW_none, errW_some] <;> rfl) | (simp [*, errW_none, errW_some] <;> rfl), by (with_reducible repeat (first | apply Kd.R_alloc | apply Kd.R_drewN | apply Kd.R_drew)); exact HO_5.out, by repeat (first | (with_reducible first | exact HB.out | apply below_alloc | apply pw_below_drewN | apply below_drew1) | exact HB.out)⟩)
end Go.Proofs.Ytcgpemefmakjiaa.PX
namespace Go.Proofs.Ytcgpemefmakjiaa.PX
open Go.RowKit Go.Proofs.YtcgpemefmakjiaaW.PrintWords Go.Proofs.YtcgpemefmakjiaaW.PrintLast Go.Proofs.YtcgpemefmakjiaaW.PrintMore
attribute [local go_sem] max2_int min2_int max_two min_two max_three min_three max_four min_four   -- for this text's walks alone
set_option linter.unusedVariables false
set_option linter.unusedSimpArgs false
def dioramaref01_SameInts.l0 : Nat → List Int → List Int → Int → Option (Bool)
 | 0, _, _, _ => none
 | k + 1, x0, x1, x5 => if x5 < (x0.length : Int) then (if 0 ≤ x5 then (if x5 < (x1.length : Int) then (if (rd x0 x5) = (rd x1 x5) then (dioramaref01_SameInts.l0 k x0 x1 (wrap64 (x5 + 1))) else (some false)) else (none)) else (none)) else (some true)
def dioramaref01_SameInts.f (k : Nat) (l0 : List Int) (l1 : List Int) : Option (Bool) := if (l0.length : Int) = (l1.length : Int) then (dioramaref01_SameInts.l0 k l0 l1 0) else (some false)
set_option maxHeartbeats 8000000 in
set_option maxRecDepth 100000 in
theorem dioramaref01_SameInts.calls (k : Nat) (A0 : Option Addr) (c0 : Nat) (l0 : List Int) (A1 : Option Addr) (c1 : Nat) (l1 : List Int) (r : Bool) (w : World) (hr0 : Kd.C (Kd.int .i64) w A0 l0.length l0) (hc0 : l0.length ≤ c0) (hr1 : Kd.C (Kd.int .i64) w A1 l1.length l1) (hc1 : l1.length ≤ c1) (h : dioramaref01_SameInts.f k l0 l1 = some r) :
  Calls Try.prog 31 #[.slice A0 l0.length c0, .slice A1 l1.length c1] w fun e w' => e = .returned (.bool r) ∧ Drawn0 w w' := by
 have HR0 := Aside0.mk hr0; have HC0 := Aside0.mk hc0; clear hr0 hc0; have HR1 := Aside0.mk hr1; have HC1 := Aside0.mk hc1; clear hr1 hc1; have H : (if (l0.length : Int) = (l1.length : Int) then (dioramaref01_SameInts.l0 k l0 l1 0) else (some false)) = some r := h; clear h
 by_cases c3 : (l0.length : Int) = (l1.length : Int)
 ·rw [if_pos c3] at H
  have c3b0 : ((l0.length : Int) == (l1.length : Int)) = true := beq_iff_eq.mpr c3; have c3b1 : ((l0.length : Int) != (l1.length : Int)) = false := bne_eq_false_iff_eq.mpr c3
  have c3b2 : (l0.length == l1.length) = true := by first | simpa using c3 | (simp at c3 ⊢; omega)
  clear c3; have H' := Aside0.mk H; clear H
  go_enter Try.func31, Try.ntmps31
  go_wp2
  repeat (go_quiet (fail); try go_wp2)
  go_loopg [5] k (fun kq v5 w' => ∃ (x5_1 : Int), v5 = .int .i64 x5_1 ∧ Aside0 (dioramaref01_SameInts.l0 kq l0 l1 x5_1 = some r) ∧ Aside0 (kq ≤ k) ∧ Drawn0 w w')
  case atStart => exact ⟨(0), (by first | rfl | (simp; done) | (simp [*]; done)), H', ⟨Nat.le_refl _⟩, by repeat (first | exact Drawn0.refl _ | apply Drawn0.step)⟩
  case round =>
   clear H'
   try clear c1
   try clear p2
   try clear c3
   try clear c3b0
   try clear c3b1
   try clear c3b2
   obtain ⟨x5_1, rfl, HA, HK1, ⟨m1, rfl⟩⟩ := hrel
   cases gk with
   | zero => exact absurd HA.out (by simp [dioramaref01_SameInts.l0])
   | succ k1 =>
    have H := HA.out; clear HA; simp only [dioramaref01_SameInts.l0] at H
    by_cases c4 : x5_1 < (l0.length : Int)
    ·rw [if_pos c4] at H
     have c4b0 : decide (x5_1 < (l0.length : Int)) = true := decide_eq_true c4; clear c4
     by_cases c5 : 0 ≤ x5_1
     ·rw [if_pos c5] at H
      have c5b0 : decide (0 ≤ x5_1) = true := decide_eq_true c5; clear c5
      by_cases c6 : x5_1 < (l1.length : Int)
      ·rw [if_pos c6] at H
       have c6b0 : decide (x5_1 < (l1.length : Int)) = true := decide_eq_true c6; clear c6
       by_cases c7 : (rd l0 x5_1) = (rd l1 x5_1)
       ·rw [if_pos c7] at H
        have c7b0 : ((rd l0 x5_1) == (rd l1 x5_1)) = true := beq_iff_eq.mpr c7; have c7b1 : ((rd l0 x5_1) != (rd l1 x5_1)) = false := bne_eq_false_iff_eq.mpr c7; clear c7; have H' := Aside0.mk H; clear H; have p192 : 0 ≤ (x5_1 : Int) := of_decide_eq_true (by first | (with_reducible assumption) | assumption); have q192 : x5_1 < (l0.length : Int) := of_decide_eq_true (by first | (with_reducible assumption) | assumption); obtain ⟨ad192, e192, hx192_0⟩ := Kd.at_int HR0.out x5_1 p192 q192
        cases e192
        replace p192 := eq_true p192; replace q192 := eq_true q192; have p193 : 0 ≤ (x5_1 : Int) := of_decide_eq_true (by first | (with_reducible assumption) | assumption); have q193 : x5_1 < (l1.length : Int) := of_decide_eq_true (by first | (with_reducible assumption) | assumption); obtain ⟨ad193, e193, hx193_0⟩ := Kd.at_int HR1.out x5_1 p193 q193
        cases e193
        replace p193 := eq_true p193; replace q193 := eq_true q193; go_wp2
        repeat (go_quiet (fail); try go_wp2)
        go_roundg k1
        case measure => have := HK1.out; omega
        case rel => exact ⟨(wrap64 (x5_1 + 1)), (by first | rfl | (simp; done) | (simp [*]; done)), H', ⟨by have := HK1.out; omega⟩, by repeat (first | exact Drawn0.refl _ | apply Drawn0.step)⟩
       ·rw [if_neg c7] at H
        have c7b0 : ((rd l0 x5_1) == (rd l1 x5_1)) = false := beq_eq_false_iff_ne.mpr c7; have c7b1 : ((rd l0 x5_1) != (rd l1 x5_1)) = true := bne_iff_ne.mpr c7; obtain rfl := Option.some.inj H; have p192 : 0 ≤ (x5_1 : Int) := of_decide_eq_true (by first | (with_reducible assumption) | assumption); have q192 : x5_1 < (l0.length : Int) := of_decide_eq_true (by first | (with_reducible assumption) | assumption); obtain ⟨ad192, e192, hx192_0⟩ := Kd.at_int HR0.out x5_1 p192 q192
        cases e192
        replace p192 := eq_true p192; replace q192 := eq_true q192; have p193 : 0 ≤ (x5_1 : Int) := of_decide_eq_true (by first | (with_reducible assumption) | assumption); have q193 : x5_1 < (l1.length : Int) := of_decide_eq_true (by first | (with_reducible assumption) | assumption); obtain ⟨ad193, e193, hx193_0⟩ := Kd.at_int HR1.out x5_1 p193 q193
        cases e193
        replace p193 := eq_true p193; replace q193 := eq_true q193; go_wp2
        repeat (go_quiet (fail); try go_wp2)
        go_ret; exact ⟨by first | rfl | (simp; done) | (simp [*]; done), by repeat (first | exact Drawn0.refl _ | apply Drawn0.step)⟩
      (· rw [if_neg c6] at H; exact absurd H (by simp))
     (· rw [if_neg c5] at H; exact absurd H (by simp))
    ·rw [if_neg c4] at H
     have c4b0 : decide (x5_1 < (l0.length : Int)) = false := decide_eq_false c4; clear c4; obtain rfl := Option.some.inj H; go_wp2
     repeat (go_quiet (fail); try go_wp2)
     go_ret; exact ⟨by first | rfl | (simp; done) | (simp [*]; done), by repeat (first | exact Drawn0.refl _ | apply Drawn0.step)⟩
 ·rw [if_neg c3] at H
  have c3b0 : ((l0.length : Int) == (l1.length : Int)) = false := beq_eq_false_iff_ne.mpr c3; have c3b1 : ((l0.length : Int) != (l1.length : Int)) = true := bne_iff_ne.mpr c3
  have c3b2 : (l0.length == l1.length) = false := by first | simpa using c3 | (simp at c3 ⊢; omega)
  obtain rfl := Option.some.inj H
  go_enter Try.func31, Try.ntmps31
  go_wp2
  repeat (go_quiet (fail); try go_wp2)
  go_ret; exact ⟨by first | rfl | (simp; done) | (simp [*]; done), by repeat (first | exact Drawn0.refl _ | apply Drawn0.step)⟩
end Go.Proofs.Ytcgpemefmakjiaa.PX
namespace Go.Proofs.Ytcgpemefmakjiaa.PX
open Go.RowKit Go.Proofs.YtcgpemefmakjiaaW.PrintWords Go.Proofs.YtcgpemefmakjiaaW.PrintLast
set_option linter.unusedVariables false
abbrev Wd := List (List (List Int))
def RecRep (W : World) (base : Nat) (f2 : Nat → Nat × Nat) (k i : Nat) (vi : Value) (r : List Int) : Prop := W.ownsRow base 3 1 vi r.length (nums .i64 r) ∧ ∀ b, vi.ownBlock = some b → f2 b = (k, i)
def KindRep (W : World) (base : Nat) (f1 : Nat → Nat) (f2 : Nat → Nat × Nat) (k : Nat) (vk : Value) (rows : List (List Int)) : Prop :=
 ∃ cs, W.ownsRow base 22 1 vk rows.length cs ∧ (∀ b, vk.ownBlock = some b → f1 b = k) ∧ ∀ (i : Nat) r, rows[i]? = some r → ∃ vi, cs[i]? = some vi ∧ RecRep W base f2 k i vi r
def WRepF (W : World) (base : Nat) (f1 : Nat → Nat) (f2 : Nat → Nat × Nat) (v : Value) (l : Wd) : Prop :=
 ∃ vs, W.ownsRow base 64 1 v l.length vs ∧ ∀ (k : Nat) rows, l[k]? = some rows → ∃ vk, vs[k]? = some vk ∧ KindRep W base f1 f2 k vk rows
def WRep (W : World) (base : Nat) (v : Value) (l : Wd) : Prop := ∃ f1 f2, WRepF W base f1 f2 v l
section
variable {W W' : World} {base k i g : Nat} {f1 f1' : Nat → Nat} {f2 f2' : Nat → Nat × Nat} {v vk vi newv : Value} {r : List Int} {rows rows' : List (List Int)} {l : Wd} {row : Option Nat}
theorem RecRep.move (h : RecRep W base f2 k i vi r) (hm : ∀ b, vi.ownBlock = some b → b < W.heap.size → W'.heap[b]? = W.heap[b]?) (hf : ∀ b, b < W.heap.size → f2' b = f2 b) : RecRep W' base f2' k i vi r :=
 ⟨own_move h.1 (fun b hb => hm b hb (own_lt h.1 b hb)), fun b hb => (hf b (own_lt h.1 b hb)).trans (h.2 b hb)⟩
theorem KindRep.move (h : KindRep W base f1 f2 k vk rows) (hm : ∀ b, b < W.heap.size → (vk.ownBlock = some b ∨ ∃ c, W.heap[b]? = some (.cells c 3 (0, 0))) → W'.heap[b]? = W.heap[b]?)
  (hf1 : ∀ b, b < W.heap.size → f1' b = f1 b) (hf2 : ∀ b, b < W.heap.size → f2' b = f2 b) : KindRep W' base f1' f2' k vk rows := by
 obtain ⟨cs, h1, h2, h3⟩ := h; refine ⟨cs, own_move h1 (fun b hb => hm b (own_lt h1 b hb) (.inl hb)), fun b hb => (hf1 b (own_lt h1 b hb)).trans (h2 b hb), fun i r hr => ?_⟩; obtain ⟨vi, h4, h5⟩ := h3 i r hr; exact ⟨vi, h4, h5.move (fun b hb hl => hm b hl (.inr (own_typed h5.1 b hb))) hf2⟩
theorem WRepF.move (h : WRepF W base f1 f2 v l) (hm : ∀ b, b < W.heap.size → W'.heap[b]? = W.heap[b]?) (hf1 : ∀ b, b < W.heap.size → f1' b = f1 b) (hf2 : ∀ b, b < W.heap.size → f2' b = f2 b) : WRepF W' base f1' f2' v l := by
 obtain ⟨vs, h1, h2⟩ := h; refine ⟨vs, own_move h1 (fun b hb => hm b (own_lt h1 b hb)), fun k rows hk => ?_⟩; obtain ⟨vk, h3, h4⟩ := h2 k rows hk; exact ⟨vk, h3, h4.move (fun b hl _ => hm b hl) hf1 hf2⟩
theorem WRepF.below (h : WRepF W base f1 f2 v l) (hb : Below W.heap.size W W') : WRepF W' base f1 f2 v l := h.move (fun b hl => hb.block b hl) (fun _ _ => rfl) (fun _ _ => rfl)
theorem WRep.below (h : WRep W base v l) (hb : Below W.heap.size W W') : WRep W' base v l := by
 obtain ⟨f1, f2, h⟩ := h; exact ⟨f1, f2, h.below hb⟩
theorem WRepF.top (h : WRepF W base f1 f2 v l) : ∃ A c, v = .slice A l.length c ∧ l.length ≤ 9223372036854775807 ∧ (0 < l.length → ∃ g, A = some ⟨g, 0, none⟩ ∧ base ≤ g ∧ ∀ k rows, l[k]? = some rows → ∃ vk, W.cell? ⟨g, k, none⟩ = some vk ∧ W.frozen? ⟨g, k, none⟩ = false ∧ (∃ c, W.heap[g]? = some (.cells c 64 (0, 0))) ∧ KindRep W base f1 f2 k vk rows) := by
 obtain ⟨vs, h1, h2⟩ := h
 have hlen : l.length ≤ 9223372036854775807 := by
  rcases h1.2 with ⟨_, h⟩ | ⟨g, cap, cur, _, _, _, h3, h4, _⟩
  (· omega); (· simp only [maxLen] at h4; omega)
 obtain ⟨A, c, e⟩ := own_slice h1; refine ⟨A, c, e, hlen, fun hp => ?_⟩; obtain ⟨g, cap, e2, h3, h4⟩ := h1.form hp; rw [e] at e2
 injection e2 with e2 e3 e4
 subst e2; refine ⟨g, rfl, h3, fun k rows hk => ?_⟩; obtain ⟨vk, h5, h6⟩ := h2 k rows hk; subst e; have h7 := h1.cellAt k (by have := (List.getElem?_eq_some_iff.1 hk).1; omega); refine ⟨vk, h7.trans h5, h1.frozenAt k, own_typed h1 g rfl, h6⟩
theorem KindRep.at_ (h : KindRep W base f1 f2 k vk rows) : ∃ A c, vk = .slice A rows.length c ∧ rows.length ≤ c ∧ rows.length ≤ 9223372036854775807 ∧ (∀ b, vk.ownBlock = some b → f1 b = k ∧ base ≤ b ∧ b < W.heap.size ∧ ∃ c, W.heap[b]? = some (.cells c 22 (0, 0))) ∧
  (0 < rows.length → ∃ g, A = some ⟨g, 0, none⟩ ∧ ∀ i r, rows[i]? = some r → ∃ vi, W.cell? ⟨g, i, none⟩ = some vi ∧ RecRep W base f2 k i vi r) := by
 obtain ⟨cs, h1, h2, h3⟩ := h
 have hlen : rows.length ≤ 9223372036854775807 ∧ ∃ A c, vk = .slice A rows.length c ∧ rows.length ≤ c := by
  rcases h1.2 with ⟨e, h⟩ | ⟨g, cap, cur, e, _, _, h3, h4, _⟩
  (· exact ⟨by omega, none, 0, by rw [e, h], by omega⟩); (· exact ⟨by simp only [maxLen] at h4; omega, _, _, e, h3⟩)
 obtain ⟨hlen, A, c, e, hc⟩ := hlen; refine ⟨A, c, e, hc, hlen, fun b hb => ⟨h2 b hb, own_base h1 b hb, own_lt h1 b hb, own_typed h1 b hb⟩, fun hp => ?_⟩; obtain ⟨g, cap, e2, _, _⟩ := h1.form hp; rw [e] at e2
 injection e2 with e2 e3 e4
 subst e2; refine ⟨g, rfl, fun i r hr => ?_⟩; obtain ⟨vi, h5, h6⟩ := h3 i r hr; subst e; exact ⟨vi, (h1.cellAt i (by have := (List.getElem?_eq_some_iff.1 hr).1; omega)).trans h5, h6⟩
theorem RecRep.at_ (h : RecRep W base f2 k i vi r) : ∃ A c, vi = .slice A r.length c ∧ r.length ≤ c ∧ r.length ≤ 9223372036854775807 ∧ (∀ b, vi.ownBlock = some b → f2 b = (k, i) ∧ base ≤ b ∧ b < W.heap.size ∧ ∃ c, W.heap[b]? = some (.cells c 3 (0, 0))) ∧
  (0 < r.length → ∃ g, A = some ⟨g, 0, none⟩ ∧ ∀ j : Nat, j < r.length → W.cell? ⟨g, j, none⟩ = some (.int .i64 (rd r j)) ∧ W.frozen? ⟨g, j, none⟩ = false) := by
 obtain ⟨h1, h2⟩ := h
 have hlen : r.length ≤ 9223372036854775807 ∧ ∃ A c, vi = .slice A r.length c ∧ r.length ≤ c := by
  rcases h1.2 with ⟨e, h⟩ | ⟨g, cap, cur, e, _, _, h3, h4, _⟩
  (· exact ⟨by omega, none, 0, by rw [e, h], by omega⟩); (· exact ⟨by simp only [maxLen] at h4; omega, _, _, e, h3⟩)
 obtain ⟨hlen, A, c, e, hc⟩ := hlen; refine ⟨A, c, e, hc, hlen, fun b hb => ⟨h2 b hb, own_base h1 b hb, own_lt h1 b hb, own_typed h1 b hb⟩, fun hp => ?_⟩; obtain ⟨g, cap, e2, _, _⟩ := h1.form hp; rw [e] at e2
 injection e2 with e2 e3 e4
 subst e2; refine ⟨g, rfl, fun j hj => ?_⟩; subst e; refine ⟨(h1.cellAt j (by omega)).trans ?_, h1.frozenAt j⟩
 simp [nums, rd, List.getD_eq_getElem?_getD, hj]
theorem RecRep.R (h : RecRep W base f2 k i vi r) : Kd.R (Kd.int .i64) 3 W base (fun b => ∃ c, W.heap[b]? = some (.cells c 3 (0, 0))) vi r :=
 ⟨fun b hb => own_typed h.1 b hb, nums .i64 r, h.1, by simp [nums, Kd.int, Kd.scalar], fun j x hx => by
  show ((nums .i64 r).drop (j * 1)).take 1 = [.int .i64 x]
  have hj := (List.getElem?_eq_some_iff.1 hx).1
  have : (nums .i64 r)[j]? = some (.int .i64 x) := by simp [nums, hx]
  rw [Nat.mul_one, List.drop_eq_getElem_cons (by rw [nums_length]; exact hj)]; rw [List.getElem?_eq_getElem (by rw [nums_length]; exact hj)] at this
  injection this with this
  simp [this]⟩
theorem own_reps1 {α : Type} {R : α → List Value → Prop} {xs : List α} {cs : List Value} (hl : cs.length = xs.length) (h : ∀ (i : Nat) (x : α), xs[i]? = some x → ∃ u, cs[i]? = some u ∧ R x [u]) : Reps R 1 xs cs :=
 ⟨by rw [hl, Nat.mul_one], fun j x hx => by
  obtain ⟨u, hu, hr⟩ := h j x hx; have hj := (List.getElem?_eq_some_iff.1 hu).1; rw [Nat.mul_one, List.drop_eq_getElem_cons hj]; rw [List.getElem?_eq_getElem hj] at hu
  injection hu with hu
  rw [hu]
  exact hr⟩
theorem KindRep.R (h : KindRep W base f1 f2 k vk rows) : Kd.R (Kd.slice 3 (Kd.int .i64)) 22 W base (fun b => ∃ c, W.heap[b]? = some (.cells c 3 (0, 0)) ∨ W.heap[b]? = some (.cells c 22 (0, 0))) vk rows := by
 obtain ⟨cs, h1, h2, h3⟩ := h; refine ⟨fun b hb => ?_, cs, h1, own_reps1 (by have := h1.1; omega) (fun i r hr => ?_)⟩; (· obtain ⟨c, hc⟩ := own_typed h1 b hb; exact ⟨c, .inr hc⟩)
 ·obtain ⟨vi, h4, h5⟩ := h3 i r hr
  refine ⟨vi, h4, vi, rfl, Kd.R_mono h5.R (fun b hb => ?_)⟩; obtain ⟨c, hc⟩ := hb; refine ⟨⟨c, .inl hc⟩, fun e => ?_⟩; obtain ⟨c', hc'⟩ := own_typed h1 b e.symm; rw [hc] at hc'
  injection hc' with hc'
  injection hc' with _ hc'
  exact absurd hc' (by decide)
theorem WRep.R (h : WRep W base v l) : Kd.R (Kd.slice 22 (Kd.slice 3 (Kd.int .i64))) 64 W base (fun _ => True) v l := by
 obtain ⟨f1, f2, vs, h1, h2⟩ := h; refine ⟨fun _ _ => trivial, vs, h1, own_reps1 (by have := h1.1; omega) (fun i r hr => ?_)⟩; obtain ⟨vk, h4, h5⟩ := h2 i r hr; refine ⟨vk, h4, vk, rfl, Kd.R_mono h5.R (fun b hb => ?_)⟩; obtain ⟨c, hc⟩ := hb; refine ⟨trivial, fun e => ?_⟩; obtain ⟨c', hc'⟩ := own_typed h1 b e.symm
 rcases hc with hc | hc
 all_goals
  rw [hc] at hc'
  injection hc' with hc'
  injection hc' with _ hc'
  exact absurd hc' (by decide)
theorem WRepF.put {g c : Nat} (h : WRepF W base f1 f2 (.slice (some ⟨g, 0, none⟩) l.length c) l) (hk : l[k]? = some rows) (hvk : W.cell? ⟨g, k, none⟩ = some vk) (hg : W.grownBy W' row) (hrow : row = none ∨ row = vk.ownBlock)
  (hnew : KindRep W' base f1' f2' k newv rows') (hf1 : ∀ b, b < W.heap.size → f1' b = f1 b) (hf2 : ∀ b, b < W.heap.size → f2' b = f2 b) :
  WRepF (W'.setCell ⟨g, k, none⟩ newv) base f1' f2' (.slice (some ⟨g, 0, none⟩) l.length c) (l.set k rows') := by
 obtain ⟨vs, h1, h2⟩ := h; have hkl := (List.getElem?_eq_some_iff.1 hk).1; obtain ⟨vk0, h3, h4⟩ := h2 k rows hk; have h5 := (h1.cellAt k (by omega)).symm.trans hvk; rw [h3] at h5
 injection h5 with h5
 subst h5; obtain ⟨ct, hct⟩ := own_typed h1 g rfl; have hglt : g < W.heap.size := (Array.getElem?_eq_some_iff.1 hct).1
 have hrow22 : ∀ b, row = some b → ∃ c, W.heap[b]? = some (.cells c 22 (0, 0)) := by
  intro b hb
  rcases hrow with hr | hr
  (· rw [hr] at hb; cases hb); (· rw [hr] at hb; obtain ⟨cs, h6, _⟩ := h4; exact own_typed h6 b hb)
 have hne : ∀ b t cc, W.heap[b]? = some (.cells cc t (0, 0)) → t ≠ 22 → some b ≠ row := fun b t cc hb ht e => by
  obtain ⟨c', hc'⟩ := hrow22 b e.symm; rw [hb] at hc'
  injection hc' with hc'
  injection hc' with _ hc'
  exact ht hc'
 have htop : W'.heap[g]? = W.heap[g]? := hg.block g hglt (hne g 64 ct hct (by decide))
 have h1' : W'.ownsRow base 64 1 (.slice (some ⟨g, 0, none⟩) l.length c) l.length vs := own_move h1 (fun b hb => by
  have e2 : g = b := by simpa [Value.ownBlock] using hb
  rw [← e2]
  exact htop)
 refine ⟨vs.set k newv, ?_, fun j rows2 hj => ?_⟩
 ·have := (h1'.stored k newv).1
  rw [List.length_set]
  simpa using this
 ·by_cases hjk : j = k
  ·subst hjk
   have e : rows2 = rows' := by
    rw [List.getElem?_set_self hkl] at hj; exact (Option.some.inj hj).symm
   subst e; refine ⟨newv, by rw [List.getElem?_set_self (by have := h1.1; omega)], hnew.move (fun b hl hb => Below.heap_setCell _ _ _ _ (fun e => ?_)) (fun _ _ => rfl) (fun _ _ => rfl)⟩; have e : b = g := e; rw [e] at hb; obtain ⟨cs, h6, _⟩ := hnew
   rcases hb with hb | ⟨c', hb⟩
   ·obtain ⟨c', hc'⟩ := own_typed h6 _ hb
    rw [htop, hct] at hc'
    injection hc' with hc'
    injection hc' with _ hc'
    exact absurd hc' (by decide)
   ·rw [htop, hct] at hb
    injection hb with hb
    injection hb with _ hb
    exact absurd hb (by decide)
  ·rw [List.getElem?_set_ne (Ne.symm hjk)] at hj
   obtain ⟨vj, h6, h7⟩ := h2 j rows2 hj; refine ⟨vj, by rw [List.getElem?_set_ne (Ne.symm hjk)]; exact h6, ?_⟩; refine (h7.move (W' := W') (f1' := f1') (f2' := f2') (fun b hl hb => ?_) hf1 hf2).move (fun b hl hb => Below.heap_setCell _ _ _ _ (fun e => ?_)) (fun _ _ => rfl) (fun _ _ => rfl)
   ·refine hg.block b hl ?_
    rcases hb with hb | ⟨c', hb⟩
    ·rcases hrow with hr | hr
     (· rw [hr]; simp); (· rw [hr]; intro e; obtain ⟨cs, h8, h9, _⟩ := h4; obtain ⟨cs', h8', h9', _⟩ := h7; exact hjk ((h9' b hb).symm.trans (h9 b e.symm)))
    (· exact hne b 3 c' hb (by decide))
   ·have e : b = g := e
    rw [e] at hb
    rcases hb with hb | ⟨c', hb⟩
    ·obtain ⟨cs', h8', _⟩ := h7
     obtain ⟨c', hc'⟩ := own_typed h8' _ hb; rw [hct] at hc'
     injection hc' with hc'
     injection hc' with _ hc'
     exact absurd hc' (by decide)
    ·rw [htop, hct] at hb
     injection hb with hb
     injection hb with _ hb
     exact absurd hb (by decide)
end
end Go.Proofs.Ytcgpemefmakjiaa.PX
namespace Go.Proofs.Ytcgpemefmakjiaa.PX
open Go.RowKit Go.Proofs.YtcgpemefmakjiaaW.PrintWords Go.Proofs.YtcgpemefmakjiaaW.PrintLast Go.Proofs.YtcgpemefmakjiaaW.PrintMore
set_option linter.unusedVariables false
def tagFrom {α : Type} (n : Nat) (x : α) (f : Nat → α) : Nat → α := fun b => if n ≤ b then x else f b
theorem tagFrom_lt {α : Type} {n : Nat} {x : α} {f : Nat → α} {b : Nat} (h : b < n) : tagFrom n x f b = f b := if_neg (by omega)
theorem tagFrom_ge {α : Type} {n : Nat} {x : α} {f : Nat → α} {b : Nat} (h : n ≤ b) : tagFrom n x f b = x := if_pos h
section
variable {W W1 W' : World} {base k i g : Nat} {f1 f1' : Nat → Nat} {f2 f2' : Nat → Nat × Nat} {v vk vi newv : Value} {r : List Int} {rows rows' : List (List Int)} {l : Wd} {row : Option Nat}
theorem nums_of_R {v : Value} {r : List Int} {ok : Nat → Prop} (h : Kd.R (Kd.int .i64) 3 W base ok v r) : W.ownsRow base 3 1 v r.length (nums .i64 r) := by
 obtain ⟨_, inner, h1, h2, h3⟩ := h
 have : inner = nums .i64 r := by
  apply List.ext_getElem?
  intro j
  by_cases hj : j < r.length
  ·have := h3 j r[j] (List.getElem?_eq_getElem hj)
   have h4 : (inner.drop (j * 1)).take 1 = [.int .i64 r[j]] := this
   have hj2 : j < inner.length := by have : inner.length = r.length * 1 := h2; omega
   have h5 : inner[j] = Value.int .i64 r[j] := by
    have := congrArg List.head? h4; rw [Nat.mul_one, List.head?_take] at this
    simpa [List.head?_drop, hj2] using this
   simp [nums, hj, hj2, h5]
  ·have hj2 : ¬ j < inner.length := by have : inner.length = r.length * 1 := h2; omega
   simp [nums, List.getElem?_eq_none (Nat.not_lt.1 hj2), List.getElem?_eq_none (Nat.not_lt.1 hj)]
 rw [this] at h1; exact h1
theorem KindRep.pushed {cs : List Value} {v1 : Value} (h : KindRep W base f1 f2 k vk rows) (hbs : base ≤ W.heap.size) (hb : Below W.heap.size W W1) (hr : W1.ownsRow W.heap.size 3 1 vi r.length (nums .i64 r)) (hcs : W.ownsRow base 22 1 vk rows.length cs)
  (hel : ∀ (i : Nat) r, rows[i]? = some r → ∃ vi, cs[i]? = some vi ∧ RecRep W base f2 k i vi r) (htag : ∀ b, vk.ownBlock = some b → f1 b = k)
  (hg : W1.grownBy W' vk.ownBlock) (hat : v1.ownBlock = vk.ownBlock ∨ ∃ b, v1.ownBlock = some b ∧ W1.heap.size ≤ b) (hown : W'.ownsRow base 22 1 v1 (rows.length + 1) (cs ++ [vi])) :
  KindRep W' base (tagFrom W.heap.size k f1) (tagFrom W.heap.size (k, rows.length) f2) k v1 (rows ++ [r]) := by
 have hlen : cs.length = rows.length := by have := hcs.1; omega
 have hty : ∀ b c, (W.heap[b]? = some (.cells c 3 (0, 0)) ∨ W.heap.size ≤ b) → some b ≠ vk.ownBlock := fun b c hb e => by
  rcases hb with hb | hb
  ·obtain ⟨c', hc'⟩ := own_typed hcs b e.symm
   rw [hb] at hc'
   injection hc' with hc'
   injection hc' with _ hc'
   exact absurd hc' (by decide)
  (· have := own_lt hcs b e.symm; omega)
 refine ⟨cs ++ [vi], by rw [List.length_append]; exact hown, fun b hb2 => ?_, fun j rr hj => ?_⟩
 ·rcases hat with hat | ⟨b', hb', hle⟩
  (· rw [hat] at hb2; rw [tagFrom_lt (own_lt hcs b hb2)]; exact htag b hb2)
  ·rw [hb'] at hb2
   injection hb2 with hb2
   exact tagFrom_ge (by have := hb.size; omega)
 ·by_cases hjl : j < rows.length
  ·rw [List.getElem?_append_left hjl] at hj
   obtain ⟨vj, h3, h4⟩ := hel j rr hj; refine ⟨vj, by rw [List.getElem?_append_left (by omega)]; exact h3, ?_⟩; have h5 := h4.move (W' := W') (f2' := tagFrom W.heap.size (k, rows.length) f2) (fun b hb2 hl => ?_) (fun b hl => tagFrom_lt hl); (· exact h5); (· obtain ⟨c, hc⟩ := own_typed h4.1 b hb2; rw [hg.block b (by have := hb.size; omega) (hty b c (.inl hc)), hb.block b hl])
  ·have hj2 : j = rows.length := by have := (List.getElem?_eq_some_iff.1 hj).1; simp at this; omega
   subst hj2
   have e : rr = r := by simpa using hj.symm
   subst e; refine ⟨vi, by rw [← hlen]; simp, (own_move (Kd.own_raise hr (fun b hb2 => Nat.le_trans hbs (own_base hr b hb2))) (fun b hb2 => hg.block b (own_lt hr b hb2) (hty b #[] (.inr (own_base hr b hb2))))), fun b hb2 => tagFrom_ge (own_base hr b hb2)⟩
theorem KindRep.nil (hb : True) : KindRep W base f1 f2 k (.slice none 0 0) [] := ⟨[], own_nil _ _ _ _, fun b h => by simp [Value.ownBlock] at h, fun i r h => by simp at h⟩
theorem KindRep.take {A : Option Addr} {n c : Nat} (h : KindRep W base f1 f2 k (.slice A n c) rows) {m : Nat} (hm : m ≤ rows.length) : KindRep W base f1 f2 k (.slice A m c) (rows.take m) := by
 obtain ⟨cs, h1, h2, h3⟩ := h
 have hlen : cs.length = rows.length := by have := h1.1; omega
 refine ⟨cs.take m, ?_, ?_, fun i r hr => ?_⟩
 ·rw [List.length_take, Nat.min_eq_left hm]
  refine ⟨by rw [List.length_take]; omega, ?_⟩
  rcases h1.2 with ⟨e, e2⟩ | ⟨g, cap, cur, e, hb, hg, h4, h5, h6, h7⟩
  ·injection e with e3 e4 e5
   subst e3 e4 e5
   have hm0 : m = 0 := by omega
   subst hm0; exact .inl ⟨rfl, rfl⟩
  ·injection e with e3 e4 e5
   subst e3 e4 e5; refine .inr ⟨g, c, cur, rfl, hb, hg, by omega, h5, h6, ?_⟩; rw [← h7, List.take_take, Nat.min_eq_left (by omega), Nat.mul_one]
 ·intro b hb
  refine h2 b ?_
  cases A with
  | none => simp [Value.ownBlock] at hb
  | some a => simpa [Value.ownBlock] using hb
 (· have hi := (List.getElem?_eq_some_iff.1 hr).1; rw [List.length_take] at hi; rw [List.getElem?_take_of_lt (by omega)] at hr; obtain ⟨vi, h4, h5⟩ := h3 i r hr; exact ⟨vi, by rw [List.getElem?_take_of_lt (by omega)]; exact h4, h5⟩)
theorem WRepF.cell {c b j : Nat} {x : Int} (h : WRepF W base f1 f2 v l) (hk : l[k]? = some rows) (hi : rows[i]? = some r) (hf : f2 b = (k, i)) (hty : ∃ c, W.heap[b]? = some (.cells c 3 (0, 0)))
  (hrec : W.ownsRow base 3 1 (.slice (some ⟨b, 0, none⟩) r.length c) r.length (nums .i64 r)) (hv : ∀ cs vk vi vs, W.ownsRow base 64 1 v l.length vs → vs[k]? = some vk → W.ownsRow base 22 1 vk rows.length cs → cs[i]? = some vi → vi = .slice (some ⟨b, 0, none⟩) r.length c) :
  WRepF (W.setCell ⟨b, j, none⟩ (.int .i64 x)) base f1 f2 v (l.set k (rows.set i (r.set j x))) := by
 obtain ⟨vs, h1, h2⟩ := h; obtain ⟨cb, hcb⟩ := hty
 have hne : ∀ b' t cc, W.heap[b']? = some (.cells cc t (0, 0)) → t ≠ 3 → b' ≠ b := fun b' t cc hb ht e => by
  rw [e, hcb] at hb
  injection hb with hb
  injection hb with _ hb
  exact ht hb.symm
 have hkl := (List.getElem?_eq_some_iff.1 hk).1; have hil := (List.getElem?_eq_some_iff.1 hi).1; refine ⟨vs, ?_, fun k' rows2 hk' => ?_⟩
 ·rw [List.length_set]
  exact own_move h1 (fun b' hb' => by
   obtain ⟨c', hc'⟩ := own_typed h1 b' hb'
   exact Below.heap_setCell _ _ _ _ (hne b' 64 c' hc' (by decide)))
 ·have hk2 : ∃ rowsk, l[k']? = some rowsk ∧ (rows2 = rowsk ∧ k' ≠ k ∨ k' = k ∧ rows2 = rows.set i (r.set j x)) := by
   by_cases e : k' = k
   (· subst e; rw [List.getElem?_set_self hkl] at hk'; exact ⟨rows, hk, .inr ⟨rfl, (Option.some.inj hk').symm⟩⟩); (· rw [List.getElem?_set_ne (Ne.symm e)] at hk'; exact ⟨rows2, hk', .inl ⟨rfl, e⟩⟩)
  obtain ⟨rowsk, hkk, hor⟩ := hk2; obtain ⟨vk', h3, cs, h4, h5, h6⟩ := h2 k' rowsk hkk
  have hl2 : rows2.length = rowsk.length := by
   rcases hor with ⟨e, _⟩ | ⟨e, e2⟩
   (· rw [e]); (· subst e; rw [hk] at hkk; obtain rfl := Option.some.inj hkk; rw [e2, List.length_set])
  refine ⟨vk', h3, cs, ?_, h5, fun i' r2 hi' => ?_⟩
  ·rw [hl2]
   exact own_move h4 (fun b' hb' => by
    obtain ⟨c', hc'⟩ := own_typed h4 b' hb'
    exact Below.heap_setCell _ _ _ _ (hne b' 22 c' hc' (by decide)))
  ·have hoth : ∀ vi', RecRep W base f2 k' i' vi' r2 → (k', i') ≠ (k, i) → RecRep (W.setCell ⟨b, j, none⟩ (.int .i64 x)) base f2 k' i' vi' r2 := fun vi' h7 hne2 =>
    h7.move (fun b' hb' hl => Below.heap_setCell _ _ _ _ (fun e => by
     have e : b' = b := e; rw [e] at hb'
     exact hne2 ((h7.2 b hb').symm.trans hf))) (fun _ _ => rfl)
   rcases hor with ⟨e, hkne⟩ | ⟨e, e2⟩
   (· subst e; obtain ⟨vi', h7, h8⟩ := h6 i' r2 hi'; exact ⟨vi', h7, hoth vi' h8 (fun e => hkne (congrArg Prod.fst e))⟩)
   ·subst e
    rw [hk] at hkk; obtain rfl := Option.some.inj hkk; subst e2
    by_cases ei : i' = i
    ·subst ei
     rw [List.getElem?_set_self hil] at hi'; obtain rfl := Option.some.inj hi'; obtain ⟨vi', h7, h8⟩ := h6 i' r hi; obtain rfl := hv cs vk' vi' vs h1 h3 h4 h7; refine ⟨_, h7, ?_, h8.2⟩; have := (hrec.stored j (.int .i64 x)).1; rw [List.length_set]
     have e3 : nums .i64 (r.set j x) = (nums .i64 r).set j (.int .i64 x) := by simp [nums, List.map_set]
     rw [e3]; exact this
    (· rw [List.getElem?_set_ne (Ne.symm ei)] at hi'; obtain ⟨vi', h7, h8⟩ := h6 i' r2 hi'; exact ⟨vi', h7, hoth vi' h8 (fun e => ei (congrArg Prod.snd e))⟩)
theorem own_unique {e size n : Nat} {v : Value} {xs ys : List Value} (h : W.ownsRow base e size v n xs) (h' : W.ownsRow base e size v n ys) : xs = ys := by
 rcases h.2 with ⟨e1, e2⟩ | ⟨g, cap, cur, e1, _, hg, _, _, _, h7⟩
 (· have a := h.1; have b := h'.1; rw [e2, Nat.zero_mul] at a b; rw [List.length_eq_zero_iff.1 a, List.length_eq_zero_iff.1 b])
 ·rcases h'.2 with ⟨e1', e2'⟩ | ⟨g', cap', cur', e1', _, hg', _, _, _, h7'⟩
  ·rw [e1] at e1'
   cases e1'
  ·rw [e1] at e1'
   injection e1' with e3 _ _
   injection e3 with e3
   injection e3 with e3 _ _
   subst e3; rw [hg] at hg'
   injection hg' with hg'
   injection hg' with hg' _ _
   subst hg'; rw [← h7, h7']
theorem WRepF.path (h : WRepF W base f1 f2 v l) (hk : l[k]? = some rows) (hi : rows[i]? = some r) : ∃ c g c2 g2 A3 c3, v = .slice (some ⟨g, 0, none⟩) l.length c ∧ W.cell? ⟨g, k, none⟩ = some (.slice (some ⟨g2, 0, none⟩) rows.length c2) ∧ W.cell? ⟨g2, i, none⟩ = some (.slice A3 r.length c3) ∧ r.length ≤ c3 ∧
  (0 < r.length → ∃ b, A3 = some ⟨b, 0, none⟩ ∧ base ≤ b ∧ ∀ j, j < r.length → W.cell? ⟨b, j, none⟩ = some (.int .i64 (rd r j)) ∧ W.frozen? ⟨b, j, none⟩ = false ∧ ∀ x, WRepF (W.setCell ⟨b, j, none⟩ (.int .i64 x)) base f1 f2 v (l.set k (rows.set i (r.set j x)))) := by
 have hkl := (List.getElem?_eq_some_iff.1 hk).1; have hil := (List.getElem?_eq_some_iff.1 hi).1; obtain ⟨A, c, rfl, _, htop⟩ := h.top; have h0 := h; obtain ⟨vs, h1, h2⟩ := h; obtain ⟨vk, h3, h4⟩ := h2 k rows hk; obtain ⟨g, rfl, hbg, _⟩ := htop (by omega); obtain ⟨A2, c2, rfl, _, _, _, h5⟩ := h4.at_; obtain ⟨g2, rfl, _⟩ := h5 (by omega); obtain ⟨cs, h6, h7, h8⟩ := h4; obtain ⟨vi, h9, h10⟩ := h8 i r hi; obtain ⟨A3, c3, rfl, hc3, _, h11, h12⟩ := h10.at_; refine ⟨c, g, c2, g2, A3, c3, rfl, (h1.cellAt k (by omega)).trans h3, (h6.cellAt i (by omega)).trans h9, hc3, fun hp => ?_⟩; obtain ⟨b, rfl, h13⟩ := h12 hp; obtain ⟨e1, e2, e3, e4⟩ := h11 b rfl; refine ⟨b, rfl, e2, fun j hj => ⟨(h13 j hj).1, (h13 j hj).2, fun x => ?_⟩⟩; refine WRepF.cell (c := c3) h0 hk hi e1 e4 h10.1 (fun cs' vk' vi' vs' ha hb hc hd => ?_); obtain rfl := own_unique h1 ha; rw [h3] at hb
 injection hb with hb
 subst hb; obtain rfl := own_unique h6 hc; rw [h9] at hd
 injection hd with hd
 exact hd.symm
end
end Go.Proofs.Ytcgpemefmakjiaa.PX
namespace Go.Proofs.Ytcgpemefmakjiaa.PX
open Go.RowKit Go.Proofs.YtcgpemefmakjiaaW.PrintWords Go.Proofs.YtcgpemefmakjiaaW.PrintLast Go.Proofs.YtcgpemefmakjiaaW.PrintMore
attribute [local go_sem] max2_int min2_int max_two min_two max_three min_three max_four min_four   -- for this text's walks alone
set_option linter.unusedVariables false
set_option linter.unusedSimpArgs false
def diff_Change_formed.f (a0_0 : Int) (a0_1 : Int) (a0_2 : Int) (a0_3 : Int) (a0_4 : Int) (l0_5 : List Int) : Option (Bool) := if a0_2 ≥ 0 then (some ((l0_5.length : Int) == 0)) else (if a0_2 ≥ (-2) then (if a0_3 = 0 then (if a0_4 = 0 then (if (l0_5.length : Int) ≥ 1 then (some (decide ((l0_5.length : Int) ≤ 10))) else (some false)) else (some false)) else (some false)) else (some false))
set_option maxHeartbeats 8000000 in
set_option maxRecDepth 100000 in
theorem diff_Change_formed.calls (a0_0 : Int) (a0_1 : Int) (a0_2 : Int) (a0_3 : Int) (a0_4 : Int) (A0_5 : Option Addr) (c0_5 : Nat) (l0_5 : List Int) (r : Bool) (w : World) (hr0_5 : Kd.C (Kd.int .i64) w A0_5 l0_5.length l0_5) (hc0_5 : l0_5.length ≤ c0_5) (h : diff_Change_formed.f a0_0 a0_1 a0_2 a0_3 a0_4 l0_5 = some r) :
  Calls Try.prog 66 #[.agg #[.int .i64 a0_0, .int .i64 a0_1, .int .i64 a0_2, .int .i64 a0_3, .int .i64 a0_4, .slice A0_5 l0_5.length c0_5]] w fun e w' => e = .returned (.bool r) ∧ Below w.heap.size w w' := by
 have hu61 := Try.underlying61; have HR0_5 := Aside0.mk hr0_5; have HC0_5 := Aside0.mk hc0_5; clear hr0_5 hc0_5; have HB := Aside0.mk (Below.refl w.heap.size w); have H : (if a0_2 ≥ 0 then (some ((l0_5.length : Int) == 0)) else (if a0_2 ≥ (-2) then (if a0_3 = 0 then (if a0_4 = 0 then (if (l0_5.length : Int) ≥ 1 then (some (decide ((l0_5.length : Int) ≤ 10))) else (some false)) else (some false)) else (some false)) else (some false))) = some r := h; clear h
 by_cases c2 : a0_2 ≥ 0
 ·rw [if_pos c2] at H
  have c2b0 : decide (0 ≤ a0_2) = true := decide_eq_true c2; clear c2; obtain rfl := Option.some.inj H
  go_enter Try.func66, Try.ntmps66
  go_wp2_with (first | ((with_reducible refine gate_dst (N := 1) rfl ?_); (try (refine gate_guard (by rfl) ?_; dsimp only)); refine box_event ?hg (N := 1) ?hd (cs := #[.int .i64 a0_0, .int .i64 a0_1, .int .i64 a0_2, .int .i64 a0_3, .int .i64 a0_4, .slice A0_5 l0_5.length c0_5]) (t := 61) ?hr ?_; (case hd => rfl); (case hg => rfl); (case hr => first | (go_simp; done) | (go_simp; rfl)); intro gb209 hg w3 hbox hb; have n0_ := Aside0.mk (below_step (by repeat (first | (with_reducible first | exact HB.out | apply below_alloc | apply pw_below_drewN | apply below_drew1) | exact HB.out)) hb); have n1_ := Aside0.mk (hbox); have n2_ := Aside0.mk ((by rw [hg]; exact (below_size (by repeat (first | (with_reducible first | exact HB.out | apply below_alloc | apply pw_below_drewN | apply below_drew1) | exact HB.out))) : w.heap.size ≤ gb209)); have n3_ := Aside0.mk ((by rw [hg]; exact (below_size (by repeat (first | (with_reducible first | exact HB.out | apply below_alloc | apply pw_below_drewN | apply below_drew1) | exact HB.out))) : w.heap.size ≤ gb209)); clear HB; have HB := n0_; have BK209 := n1_; have GW209 := n2_; have GE209 := n3_; clear n0_ n1_ n2_ n3_; clear hb hbox hg; have hcz4_0 : w3.cell? ⟨gb209, 0, none⟩ = some (.int .i64 a0_0) := (blk_cell BK209.out 0).trans rfl; have hcz4_1 : w3.cell? ⟨gb209, 1, none⟩ = some (.int .i64 a0_1) := (blk_cell BK209.out 1).trans rfl; have hcz4_2 : w3.cell? ⟨gb209, 2, none⟩ = some (.int .i64 a0_2) := (blk_cell BK209.out 2).trans rfl; have hcz4_3 : w3.cell? ⟨gb209, 3, none⟩ = some (.int .i64 a0_3) := (blk_cell BK209.out 3).trans rfl; have hcz4_4 : w3.cell? ⟨gb209, 4, none⟩ = some (.int .i64 a0_4) := (blk_cell BK209.out 4).trans rfl; have hcz4_5 : w3.cell? ⟨gb209, 5, none⟩ = some (.slice A0_5 l0_5.length c0_5) := (blk_cell BK209.out 5).trans rfl; have hfz4_0 := blk_frozen BK209.out 0; have hfz4_1 := blk_frozen BK209.out 1; have hfz4_2 := blk_frozen BK209.out 2; have hfz4_3 := blk_frozen BK209.out 3; have hfz4_4 := blk_frozen BK209.out 4; have hfz4_5 := blk_frozen BK209.out 5))
  go_ret; exact ⟨by first | rfl | (simp [errW_none, errW_some] <;> rfl) | (simp [*, errW_none, errW_some] <;> rfl), by repeat (first | (with_reducible first | exact HB.out | apply below_alloc | apply pw_below_drewN | apply below_drew1 | refine below_set ?_ GE209.out) | exact HB.out)⟩
 ·rw [if_neg c2] at H
  have c2b0 : decide (0 ≤ a0_2) = false := decide_eq_false c2; clear c2
  by_cases c5 : a0_2 ≥ (-2)
  ·rw [if_pos c5] at H
   have c5b0 : decide ((-2) ≤ a0_2) = true := decide_eq_true c5; clear c5
   by_cases c6 : a0_3 = 0
   ·rw [if_pos c6] at H
    have c6b0 : (a0_3 == 0) = true := beq_iff_eq.mpr c6; have c6b1 : (a0_3 != 0) = false := bne_eq_false_iff_eq.mpr c6; clear c6
    by_cases c7 : a0_4 = 0
    ·rw [if_pos c7] at H
     have c7b0 : (a0_4 == 0) = true := beq_iff_eq.mpr c7; have c7b1 : (a0_4 != 0) = false := bne_eq_false_iff_eq.mpr c7; clear c7
     by_cases c8 : (l0_5.length : Int) ≥ 1
     ·rw [if_pos c8] at H
      have c8b0 : decide (1 ≤ (l0_5.length : Int)) = true := decide_eq_true c8; have c8b1 : decide (1 ≤ l0_5.length) = true := decide_eq_true (by omega); clear c8; obtain rfl := Option.some.inj H
      go_enter Try.func66, Try.ntmps66
      go_wp2_with (first | ((with_reducible refine gate_dst (N := 1) rfl ?_); (try (refine gate_guard (by rfl) ?_; dsimp only)); refine box_event ?hg (N := 1) ?hd (cs := #[.int .i64 a0_0, .int .i64 a0_1, .int .i64 a0_2, .int .i64 a0_3, .int .i64 a0_4, .slice A0_5 l0_5.length c0_5]) (t := 61) ?hr ?_; (case hd => rfl); (case hg => rfl); (case hr => first | (go_simp; done) | (go_simp; rfl)); intro gb209 hg w9 hbox hb; have n0_ := Aside0.mk (below_step (by repeat (first | (with_reducible first | exact HB.out | apply below_alloc | apply pw_below_drewN | apply below_drew1) | exact HB.out)) hb); have n1_ := Aside0.mk (hbox); have n2_ := Aside0.mk ((by rw [hg]; exact (below_size (by repeat (first | (with_reducible first | exact HB.out | apply below_alloc | apply pw_below_drewN | apply below_drew1) | exact HB.out))) : w.heap.size ≤ gb209)); have n3_ := Aside0.mk ((by rw [hg]; exact (below_size (by repeat (first | (with_reducible first | exact HB.out | apply below_alloc | apply pw_below_drewN | apply below_drew1) | exact HB.out))) : w.heap.size ≤ gb209)); clear HB; have HB := n0_; have BK209 := n1_; have GW209 := n2_; have GE209 := n3_; clear n0_ n1_ n2_ n3_; clear hb hbox hg; have hcz10_0 : w9.cell? ⟨gb209, 0, none⟩ = some (.int .i64 a0_0) := (blk_cell BK209.out 0).trans rfl; have hcz10_1 : w9.cell? ⟨gb209, 1, none⟩ = some (.int .i64 a0_1) := (blk_cell BK209.out 1).trans rfl; have hcz10_2 : w9.cell? ⟨gb209, 2, none⟩ = some (.int .i64 a0_2) := (blk_cell BK209.out 2).trans rfl; have hcz10_3 : w9.cell? ⟨gb209, 3, none⟩ = some (.int .i64 a0_3) := (blk_cell BK209.out 3).trans rfl; have hcz10_4 : w9.cell? ⟨gb209, 4, none⟩ = some (.int .i64 a0_4) := (blk_cell BK209.out 4).trans rfl; have hcz10_5 : w9.cell? ⟨gb209, 5, none⟩ = some (.slice A0_5 l0_5.length c0_5) := (blk_cell BK209.out 5).trans rfl; have hfz10_0 := blk_frozen BK209.out 0; have hfz10_1 := blk_frozen BK209.out 1; have hfz10_2 := blk_frozen BK209.out 2; have hfz10_3 := blk_frozen BK209.out 3; have hfz10_4 := blk_frozen BK209.out 4; have hfz10_5 := blk_frozen BK209.out 5))
      go_ret; exact ⟨by first | rfl | (simp [errW_none, errW_some] <;> rfl) | (simp [*, errW_none, errW_some] <;> rfl), by repeat (first | (with_reducible first | exact HB.out | apply below_alloc | apply pw_below_drewN | apply below_drew1 | refine below_set ?_ GE209.out) | exact HB.out)⟩
     ·rw [if_neg c8] at H
      have c8b0 : decide (1 ≤ (l0_5.length : Int)) = false := decide_eq_false c8; have c8b1 : decide (1 ≤ l0_5.length) = false := decide_eq_false (by omega); clear c8; obtain rfl := Option.some.inj H
      go_enter Try.func66, Try.ntmps66
      go_wp2_with (first | ((with_reducible refine gate_dst (N := 1) rfl ?_); (try (refine gate_guard (by rfl) ?_; dsimp only)); refine box_event ?hg (N := 1) ?hd (cs := #[.int .i64 a0_0, .int .i64 a0_1, .int .i64 a0_2, .int .i64 a0_3, .int .i64 a0_4, .slice A0_5 l0_5.length c0_5]) (t := 61) ?hr ?_; (case hd => rfl); (case hg => rfl); (case hr => first | (go_simp; done) | (go_simp; rfl)); intro gb209 hg w11 hbox hb; have n0_ := Aside0.mk (below_step (by repeat (first | (with_reducible first | exact HB.out | apply below_alloc | apply pw_below_drewN | apply below_drew1) | exact HB.out)) hb); have n1_ := Aside0.mk (hbox); have n2_ := Aside0.mk ((by rw [hg]; exact (below_size (by repeat (first | (with_reducible first | exact HB.out | apply below_alloc | apply pw_below_drewN | apply below_drew1) | exact HB.out))) : w.heap.size ≤ gb209)); have n3_ := Aside0.mk ((by rw [hg]; exact (below_size (by repeat (first | (with_reducible first | exact HB.out | apply below_alloc | apply pw_below_drewN | apply below_drew1) | exact HB.out))) : w.heap.size ≤ gb209)); clear HB; have HB := n0_; have BK209 := n1_; have GW209 := n2_; have GE209 := n3_; clear n0_ n1_ n2_ n3_; clear hb hbox hg; have hcz12_0 : w11.cell? ⟨gb209, 0, none⟩ = some (.int .i64 a0_0) := (blk_cell BK209.out 0).trans rfl; have hcz12_1 : w11.cell? ⟨gb209, 1, none⟩ = some (.int .i64 a0_1) := (blk_cell BK209.out 1).trans rfl; have hcz12_2 : w11.cell? ⟨gb209, 2, none⟩ = some (.int .i64 a0_2) := (blk_cell BK209.out 2).trans rfl; have hcz12_3 : w11.cell? ⟨gb209, 3, none⟩ = some (.int .i64 a0_3) := (blk_cell BK209.out 3).trans rfl; have hcz12_4 : w11.cell? ⟨gb209, 4, none⟩ = some (.int .i64 a0_4) := (blk_cell BK209.out 4).trans rfl; have hcz12_5 : w11.cell? ⟨gb209, 5, none⟩ = some (.slice A0_5 l0_5.length c0_5) := (blk_cell BK209.out 5).trans rfl; have hfz12_0 := blk_frozen BK209.out 0; have hfz12_1 := blk_frozen BK209.out 1; have hfz12_2 := blk_frozen BK209.out 2; have hfz12_3 := blk_frozen BK209.out 3; have hfz12_4 := blk_frozen BK209.out 4; have hfz12_5 := blk_frozen BK209.out 5))
      go_ret; exact ⟨by first | rfl | (simp [errW_none, errW_some] <;> rfl) | (simp [*, errW_none, errW_some] <;> rfl), by repeat (first | (with_reducible first | exact HB.out | apply below_alloc | apply pw_below_drewN | apply below_drew1 | refine below_set ?_ GE209.out) | exact HB.out)⟩
    ·rw [if_neg c7] at H
     have c7b0 : (a0_4 == 0) = false := beq_eq_false_iff_ne.mpr c7; have c7b1 : (a0_4 != 0) = true := bne_iff_ne.mpr c7; obtain rfl := Option.some.inj H
     go_enter Try.func66, Try.ntmps66
     go_wp2_with (first | ((with_reducible refine gate_dst (N := 1) rfl ?_); (try (refine gate_guard (by rfl) ?_; dsimp only)); refine box_event ?hg (N := 1) ?hd (cs := #[.int .i64 a0_0, .int .i64 a0_1, .int .i64 a0_2, .int .i64 a0_3, .int .i64 a0_4, .slice A0_5 l0_5.length c0_5]) (t := 61) ?hr ?_; (case hd => rfl); (case hg => rfl); (case hr => first | (go_simp; done) | (go_simp; rfl)); intro gb209 hg w13 hbox hb; have n0_ := Aside0.mk (below_step (by repeat (first | (with_reducible first | exact HB.out | apply below_alloc | apply pw_below_drewN | apply below_drew1) | exact HB.out)) hb); have n1_ := Aside0.mk (hbox); have n2_ := Aside0.mk ((by rw [hg]; exact (below_size (by repeat (first | (with_reducible first | exact HB.out | apply below_alloc | apply pw_below_drewN | apply below_drew1) | exact HB.out))) : w.heap.size ≤ gb209)); have n3_ := Aside0.mk ((by rw [hg]; exact (below_size (by repeat (first | (with_reducible first | exact HB.out | apply below_alloc | apply pw_below_drewN | apply below_drew1) | exact HB.out))) : w.heap.size ≤ gb209)); clear HB; have HB := n0_; have BK209 := n1_; have GW209 := n2_; have GE209 := n3_; clear n0_ n1_ n2_ n3_; clear hb hbox hg; have hcz14_0 : w13.cell? ⟨gb209, 0, none⟩ = some (.int .i64 a0_0) := (blk_cell BK209.out 0).trans rfl; have hcz14_1 : w13.cell? ⟨gb209, 1, none⟩ = some (.int .i64 a0_1) := (blk_cell BK209.out 1).trans rfl; have hcz14_2 : w13.cell? ⟨gb209, 2, none⟩ = some (.int .i64 a0_2) := (blk_cell BK209.out 2).trans rfl; have hcz14_3 : w13.cell? ⟨gb209, 3, none⟩ = some (.int .i64 a0_3) := (blk_cell BK209.out 3).trans rfl; have hcz14_4 : w13.cell? ⟨gb209, 4, none⟩ = some (.int .i64 a0_4) := (blk_cell BK209.out 4).trans rfl; have hcz14_5 : w13.cell? ⟨gb209, 5, none⟩ = some (.slice A0_5 l0_5.length c0_5) := (blk_cell BK209.out 5).trans rfl; have hfz14_0 := blk_frozen BK209.out 0; have hfz14_1 := blk_frozen BK209.out 1; have hfz14_2 := blk_frozen BK209.out 2; have hfz14_3 := blk_frozen BK209.out 3; have hfz14_4 := blk_frozen BK209.out 4; have hfz14_5 := blk_frozen BK209.out 5))
     go_ret; exact ⟨by first | rfl | (simp [errW_none, errW_some] <;> rfl) | (simp [*, errW_none, errW_some] <;> rfl), by repeat (first | (with_reducible first | exact HB.out | apply below_alloc | apply pw_below_drewN | apply below_drew1 | refine below_set ?_ GE209.out) | exact HB.out)⟩
   ·rw [if_neg c6] at H
    have c6b0 : (a0_3 == 0) = false := beq_eq_false_iff_ne.mpr c6; have c6b1 : (a0_3 != 0) = true := bne_iff_ne.mpr c6; obtain rfl := Option.some.inj H
    go_enter Try.func66, Try.ntmps66
    go_wp2_with (first | ((with_reducible refine gate_dst (N := 1) rfl ?_); (try (refine gate_guard (by rfl) ?_; dsimp only)); refine box_event ?hg (N := 1) ?hd (cs := #[.int .i64 a0_0, .int .i64 a0_1, .int .i64 a0_2, .int .i64 a0_3, .int .i64 a0_4, .slice A0_5 l0_5.length c0_5]) (t := 61) ?hr ?_; (case hd => rfl); (case hg => rfl); (case hr => first | (go_simp; done) | (go_simp; rfl)); intro gb209 hg w15 hbox hb; have n0_ := Aside0.mk (below_step (by repeat (first | (with_reducible first | exact HB.out | apply below_alloc | apply pw_below_drewN | apply below_drew1) | exact HB.out)) hb); have n1_ := Aside0.mk (hbox); have n2_ := Aside0.mk ((by rw [hg]; exact (below_size (by repeat (first | (with_reducible first | exact HB.out | apply below_alloc | apply pw_below_drewN | apply below_drew1) | exact HB.out))) : w.heap.size ≤ gb209)); have n3_ := Aside0.mk ((by rw [hg]; exact (below_size (by repeat (first | (with_reducible first | exact HB.out | apply below_alloc | apply pw_below_drewN | apply below_drew1) | exact HB.out))) : w.heap.size ≤ gb209)); clear HB; have HB := n0_; have BK209 := n1_; have GW209 := n2_; have GE209 := n3_; clear n0_ n1_ n2_ n3_; clear hb hbox hg; have hcz16_0 : w15.cell? ⟨gb209, 0, none⟩ = some (.int .i64 a0_0) := (blk_cell BK209.out 0).trans rfl; have hcz16_1 : w15.cell? ⟨gb209, 1, none⟩ = some (.int .i64 a0_1) := (blk_cell BK209.out 1).trans rfl; have hcz16_2 : w15.cell? ⟨gb209, 2, none⟩ = some (.int .i64 a0_2) := (blk_cell BK209.out 2).trans rfl; have hcz16_3 : w15.cell? ⟨gb209, 3, none⟩ = some (.int .i64 a0_3) := (blk_cell BK209.out 3).trans rfl; have hcz16_4 : w15.cell? ⟨gb209, 4, none⟩ = some (.int .i64 a0_4) := (blk_cell BK209.out 4).trans rfl; have hcz16_5 : w15.cell? ⟨gb209, 5, none⟩ = some (.slice A0_5 l0_5.length c0_5) := (blk_cell BK209.out 5).trans rfl; have hfz16_0 := blk_frozen BK209.out 0; have hfz16_1 := blk_frozen BK209.out 1; have hfz16_2 := blk_frozen BK209.out 2; have hfz16_3 := blk_frozen BK209.out 3; have hfz16_4 := blk_frozen BK209.out 4; have hfz16_5 := blk_frozen BK209.out 5))
    go_ret; exact ⟨by first | rfl | (simp [errW_none, errW_some] <;> rfl) | (simp [*, errW_none, errW_some] <;> rfl), by repeat (first | (with_reducible first | exact HB.out | apply below_alloc | apply pw_below_drewN | apply below_drew1 | refine below_set ?_ GE209.out) | exact HB.out)⟩
  ·rw [if_neg c5] at H
   have c5b0 : decide ((-2) ≤ a0_2) = false := decide_eq_false c5; clear c5; obtain rfl := Option.some.inj H
   go_enter Try.func66, Try.ntmps66
   go_wp2_with (first | ((with_reducible refine gate_dst (N := 1) rfl ?_); (try (refine gate_guard (by rfl) ?_; dsimp only)); refine box_event ?hg (N := 1) ?hd (cs := #[.int .i64 a0_0, .int .i64 a0_1, .int .i64 a0_2, .int .i64 a0_3, .int .i64 a0_4, .slice A0_5 l0_5.length c0_5]) (t := 61) ?hr ?_; (case hd => rfl); (case hg => rfl); (case hr => first | (go_simp; done) | (go_simp; rfl)); intro gb209 hg w17 hbox hb; have n0_ := Aside0.mk (below_step (by repeat (first | (with_reducible first | exact HB.out | apply below_alloc | apply pw_below_drewN | apply below_drew1) | exact HB.out)) hb); have n1_ := Aside0.mk (hbox); have n2_ := Aside0.mk ((by rw [hg]; exact (below_size (by repeat (first | (with_reducible first | exact HB.out | apply below_alloc | apply pw_below_drewN | apply below_drew1) | exact HB.out))) : w.heap.size ≤ gb209)); have n3_ := Aside0.mk ((by rw [hg]; exact (below_size (by repeat (first | (with_reducible first | exact HB.out | apply below_alloc | apply pw_below_drewN | apply below_drew1) | exact HB.out))) : w.heap.size ≤ gb209)); clear HB; have HB := n0_; have BK209 := n1_; have GW209 := n2_; have GE209 := n3_; clear n0_ n1_ n2_ n3_; clear hb hbox hg; have hcz18_0 : w17.cell? ⟨gb209, 0, none⟩ = some (.int .i64 a0_0) := (blk_cell BK209.out 0).trans rfl; have hcz18_1 : w17.cell? ⟨gb209, 1, none⟩ = some (.int .i64 a0_1) := (blk_cell BK209.out 1).trans rfl; have hcz18_2 : w17.cell? ⟨gb209, 2, none⟩ = some (.int .i64 a0_2) := (blk_cell BK209.out 2).trans rfl; have hcz18_3 : w17.cell? ⟨gb209, 3, none⟩ = some (.int .i64 a0_3) := (blk_cell BK209.out 3).trans rfl; have hcz18_4 : w17.cell? ⟨gb209, 4, none⟩ = some (.int .i64 a0_4) := (blk_cell BK209.out 4).trans rfl; have hcz18_5 : w17.cell? ⟨gb209, 5, none⟩ = some (.slice A0_5 l0_5.length c0_5) := (blk_cell BK209.out 5).trans rfl; have hfz18_0 := blk_frozen BK209.out 0; have hfz18_1 := blk_frozen BK209.out 1; have hfz18_2 := blk_frozen BK209.out 2; have hfz18_3 := blk_frozen BK209.out 3; have hfz18_4 := blk_frozen BK209.out 4; have hfz18_5 := blk_frozen BK209.out 5))
   go_ret; exact ⟨by first | rfl | (simp [errW_none, errW_some] <;> rfl) | (simp [*, errW_none, errW_some] <;> rfl), by repeat (first | (with_reducible first | exact HB.out | apply below_alloc | apply pw_below_drewN | apply below_drew1 | refine below_set ?_ GE209.out) | exact HB.out)⟩
end Go.Proofs.Ytcgpemefmakjiaa.PX
namespace Go.Proofs.Ytcgpemefmakjiaa.PX
open Go.RowKit Go.Proofs.YtcgpemefmakjiaaW.PrintWords Go.Proofs.YtcgpemefmakjiaaW.PrintLast Go.Proofs.YtcgpemefmakjiaaW.PrintMore
set_option linter.unusedVariables false
def formedB (f2 f3 f4 : Int) (f5 : List Int) : Bool := if 0 ≤ f2 then f5.length == 0 else decide (-2 ≤ f2) && (f3 == 0) && (f4 == 0) && decide (1 ≤ f5.length) && decide (f5.length ≤ 10)
theorem formedB_f (f0 f1 f2 f3 f4 : Int) (f5 : List Int) : diff_Change_formed.f f0 f1 f2 f3 f4 f5 = some (formedB f2 f3 f4 f5) := by
 unfold diff_Change_formed.f formedB
 by_cases h1 : 0 ≤ f2
 ·rw [if_pos (by omega), if_pos h1]
  congr 1
  have e : ((f5.length : Int) == 0) = (f5.length == 0) := by rw [Bool.eq_iff_iff, beq_iff_eq, beq_iff_eq]; omega
  exact e
 ·rw [if_neg (by omega), if_neg h1]
  by_cases h2 : -2 ≤ f2
  ·rw [if_pos (by omega)]
   by_cases h3 : f3 = 0
   ·rw [if_pos h3]
    by_cases h4 : f4 = 0
    ·rw [if_pos h4]
     by_cases h5 : 1 ≤ f5.length
     ·rw [if_pos (by omega)]
      have e : decide ((f5.length : Int) ≤ 10) = decide (f5.length ≤ 10) := by rw [decide_eq_decide]; omega
      rw [e]
      simp [h2, h3, h4, h5]
     ·rw [if_neg (by omega)]
      simp [h5]
    ·rw [if_neg h4]
     simp [h4]
   ·rw [if_neg h3]
    simp [h3]
  ·rw [if_neg (by omega)]
   simp [h2]
def stepK (l : Wd) (k : Nat) (rows : List (List Int)) (f1 f2 f3 f4 : Int) (f5 : List Int) : Wd × Int :=
 if f2 < 0 ∧ 0 < rows.length ∧ f5.length ≠ (rd_L1 rows 0).length then (l, 2)
 else if f2 = -1 then (if f1 = rows.length then (l.set k (rows ++ [f5]), 0) else (l, 5))
 else if f2 = -2 then (if rows.length = 0 ∨ f1 ≠ rows.length - 1 then (l, 5) else if rd_L1 rows f1 = f5 then (l.set k (rows.take f1.toNat), 0) else (l, 16))
 else if f1 < 0 ∨ rows.length ≤ f1 ∨ (rd_L1 rows 0).length ≤ f2 then (l, 5)
 else if rd (rd_L1 rows f1) f2 ≠ f3 then (l, 16) else (l.set k (rows.set f1.toNat ((rd_L1 rows f1).set f2.toNat f4)), 0)
def stepW (l : Wd) (f0 f1 f2 f3 f4 : Int) (f5 : List Int) : Wd × Int :=
 if formedB f2 f3 f4 f5 = false then (l, 2) else if f0 < 0 ∨ (l.length : Int) ≤ f0 then (l, 5) else stepK l f0.toNat (rd_L2 l f0) f1 f2 f3 f4 f5
theorem cell_below {W W' : World} {a : Addr} {v : Value} (h : Below W.heap.size W W') (hc : W.cell? a = some v) : W'.cell? a = some v := (World.cell?_of_block (h.block _ (World.block_lt_of_cell? W a hc))).trans hc
theorem frozen_below {W W' : World} {a : Addr} {v : Value} {b : Bool} (h : Below W.heap.size W W') (hc : W.cell? a = some v) (hf : W.frozen? a = b) : W'.frozen? a = b := (World.frozen?_of_block (h.block _ (World.block_lt_of_cell? W a hc))).trans hf
theorem add_head (g k : Nat) : (⟨g, 0, none⟩ : Addr).add k = ⟨g, k, none⟩ := by
 unfold Addr.add
 split <;> simp_all
theorem WRep.known {W : World} {base k : Nat} {v : Value} {l : Wd} {rows : List (List Int)} (h : WRep W base v l) (hk : l[k]? = some rows) : ∃ ad c, v = .slice (some ad) l.length c ∧ ∃ g, ad = ⟨g, 0, none⟩ := by
 obtain ⟨f1, f2, h⟩ := h; obtain ⟨A, c, e, _, h2⟩ := h.top; obtain ⟨g, e2, _⟩ := h2 (by have := (List.getElem?_eq_some_iff.1 hk).1; omega); subst e2; exact ⟨_, c, e, g, rfl⟩
theorem WRep.seen {W : World} {base k c : Nat} {ad : Addr} {l : Wd} {rows : List (List Int)} (h : WRep W base (.slice (some ad) l.length c) l) (hk : l[k]? = some rows) :
  ∃ A2 c2, W.cell? (ad.add k) = some (.slice A2 rows.length c2) ∧ rows.length ≤ c2 ∧ rows.length ≤ 9223372036854775807 ∧ W.frozen? (ad.add k) = false := by
 obtain ⟨f1, f2, h⟩ := h; obtain ⟨A, c', e, _, h2⟩ := h.top; obtain ⟨g, e2, _, h3⟩ := h2 (by have := (List.getElem?_eq_some_iff.1 hk).1; omega)
 injection e with e _ _
 rw [e2] at e
 injection e with e
 subst e; obtain ⟨vk, h4, h5, _, h6⟩ := h3 k rows hk; obtain ⟨A2, c2, rfl, h7, h8, _⟩ := h6.at_; exact ⟨A2, c2, by rw [add_head]; exact h4, h7, h8, by rw [add_head]; exact h5⟩
theorem WRep.record {W : World} {base k c c2 i : Nat} {ad : Addr} {A2 : Option Addr} {l : Wd} {rows : List (List Int)} {r : List Int} (h : WRep W base (.slice (some ad) l.length c) l) (hk : l[k]? = some rows) (hc : W.cell? (ad.add k) = some (.slice A2 rows.length c2)) (hi : rows[i]? = some r) :
  ∃ ad2 A3 c3, A2 = some ad2 ∧ W.cell? (ad2.add i) = some (.slice A3 r.length c3) ∧ r.length ≤ c3 ∧ Kd.C (Kd.int .i64) W A3 r.length r ∧
   ∀ j, j < r.length → ∃ ad3, A3 = some ad3 ∧ W.cell? (ad3.add j) = some (.int .i64 (rd r j)) ∧ W.frozen? (ad3.add j) = false ∧ base ≤ ad3.block ∧ ∀ x, WRep (W.setCell (ad3.add j) (.int .i64 x)) base (.slice (some ad) l.length c) (l.set k (rows.set i (r.set j x))) := by
 obtain ⟨f1, f2, h⟩ := h; obtain ⟨c', g, c2', g2, A3, c3, e1, e2, e3, e4, e5⟩ := h.path hk hi
 injection e1 with e1 _ _
 injection e1 with e1
 subst e1; rw [add_head, e2] at hc
 injection hc with hc
 injection hc with hc _ _
 subst hc; refine ⟨_, A3, c3, rfl, by rw [add_head]; exact e3, e4, ?_, fun j hj => ?_⟩
 ·obtain ⟨A0, c0, e, _, h5⟩ := h.top
  obtain ⟨g', e', _, h5⟩ := h5 (by have := (List.getElem?_eq_some_iff.1 hk).1; omega)
  injection e with e _ _
  rw [e'] at e
  injection e with e
  injection e with e _ _
  subst e; obtain ⟨vk, h5, _, _, h6⟩ := h5 k rows hk; rw [e2] at h5
  injection h5 with h5
  subst h5; obtain ⟨A2, c2, e, _, _, _, h7⟩ := h6.at_
  injection e with e _ _
  obtain ⟨g2', e', h8⟩ := h7 (by have := (List.getElem?_eq_some_iff.1 hi).1; omega); rw [e'] at e
  injection e with e
  injection e with e _ _
  subst e; obtain ⟨vi, a, b⟩ := h8 i r hi; rw [e3] at a
  injection a with a
  subst a; exact (Kd.R_reads' b.R).2.2
 (· obtain ⟨b, rfl, hb, h7⟩ := e5 (by omega); obtain ⟨a1, a2, a3⟩ := h7 j hj; refine ⟨_, rfl, by rw [add_head]; exact a1, by rw [add_head]; exact a2, hb, fun x => ?_⟩; rw [add_head]; exact ⟨f1, f2, a3 x⟩)
theorem WRepF.kind {W : World} {base k c : Nat} {ad : Addr} {vk : Value} {f1 : Nat → Nat} {f2 : Nat → Nat × Nat} {l : Wd} {rows : List (List Int)} (h : WRepF W base f1 f2 (.slice (some ad) l.length c) l) (hk : l[k]? = some rows) (hy : W.cell? (ad.add k) = some vk) :
  (∃ g, ad = ⟨g, 0, none⟩) ∧ base ≤ ad.block ∧ KindRep W base f1 f2 k vk rows := by
 obtain ⟨A, c', e, _, h2⟩ := h.top; obtain ⟨g, e2, hb, h3⟩ := h2 (by have := (List.getElem?_eq_some_iff.1 hk).1; omega)
 injection e with e _ _
 rw [e2] at e
 injection e with e
 subst e; obtain ⟨vk', h4, h5, _, h6⟩ := h3 k rows hk; rw [add_head, h4] at hy
 injection hy with hy
 subst hy; exact ⟨⟨g, rfl⟩, hb, h6⟩
theorem WRep.base_le {W : World} {base k c : Nat} {ad : Addr} {l : Wd} {rows : List (List Int)} (h : WRep W base (.slice (some ad) l.length c) l) (hk : l[k]? = some rows) : base ≤ (ad.add k).block := by
 obtain ⟨f1, f2, h⟩ := h; obtain ⟨A, c', e, _, h2⟩ := h.top; obtain ⟨g, e2, hb, h3⟩ := h2 (by have := (List.getElem?_eq_some_iff.1 hk).1; omega)
 injection e with e _ _
 rw [e2] at e
 injection e with e
 subst e; rw [add_head]; exact hb
theorem WRep.shrink {W : World} {base k c m c2 : Nat} {ad : Addr} {A2 : Option Addr} {l : Wd} {rows : List (List Int)} (h : WRep W base (.slice (some ad) l.length c) l) (hk : l[k]? = some rows) (hy : W.cell? (ad.add k) = some (.slice A2 rows.length c2)) (hm : m ≤ rows.length) :
  WRep (W.setCell (ad.add k) (.slice A2 m c2)) base (.slice (some ad) l.length c) (l.set k (rows.take m)) := by
 obtain ⟨f1, f2, h⟩ := h; obtain ⟨⟨g, rfl⟩, hb, h2⟩ := h.kind hk hy; rw [add_head] at hy ⊢; exact ⟨f1, f2, h.put (row := none) hk hy ⟨rfl, rfl, rfl, Nat.le_refl _, fun _ _ _ => rfl⟩ (.inl rfl) (h2.take hm) (fun _ _ => rfl) (fun _ _ => rfl)⟩
theorem WRep.grow {W : World} {base k c : Nat} {ad : Addr} {vk : Value} {l : Wd} {rows : List (List Int)} (h : WRep W base (.slice (some ad) l.length c) l) (hk : l[k]? = some rows) (hy : W.cell? (ad.add k) = some vk) :
  ∃ cs, W.ownsRow base 22 1 vk rows.length cs ∧ ∀ (W1 w1 : World) (vi v1 : Value) (r : List Int) (ok : Nat → Prop), Below W.heap.size W W1 → Kd.R (Kd.int .i64) 3 W1 W.heap.size ok vi r → W1.grownBy w1 vk.ownBlock →
   (v1.ownBlock = vk.ownBlock ∨ ∃ b, v1.ownBlock = some b ∧ W1.heap.size ≤ b) → w1.ownsRow base 22 1 v1 (rows.length + 1) (cs ++ [vi]) → WRep (w1.setCell (ad.add k) v1) base (.slice (some ad) l.length c) (l.set k (rows ++ [r])) := by
 obtain ⟨f1, f2, h⟩ := h; obtain ⟨⟨g, rfl⟩, hb, h2⟩ := h.kind hk hy; rw [add_head] at hy ⊢; have h2' := h2; obtain ⟨cs, h3, h4, h5⟩ := h2
 have hbs : base ≤ W.heap.size := by
  obtain ⟨vs, h6, _⟩ := h; have := own_base h6 g rfl; have := own_lt h6 g rfl
  simp at *
  omega
 refine ⟨cs, h3, fun W1 w1 vi v1 r ok hB hr hg hat hown => ?_⟩; refine ⟨tagFrom W.heap.size k f1, tagFrom W.heap.size (k, rows.length) f2, ?_⟩; refine h.put (row := vk.ownBlock) (f1' := tagFrom W.heap.size k f1) (f2' := tagFrom W.heap.size (k, rows.length) f2) hk hy ?_ (.inr rfl) (KindRep.pushed h2' hbs hB (nums_of_R hr) h3 h5 h4 hg hat hown) (fun b hb => tagFrom_lt hb) (fun b hb => tagFrom_lt hb); refine ⟨hg.os.trans hB.os, hg.tape.trans hB.tape, hg.output.trans hB.output, Nat.le_trans hB.size hg.size, fun b hb hne => ?_⟩; rw [hg.block b (Nat.lt_of_lt_of_le hb hB.size) hne, hB.block b hb]
theorem WRep.top_ne {W : World} {base k c n : Nat} {ad : Addr} {vk : Value} {cs : List Value} {l : Wd} {rows : List (List Int)} (h : WRep W base (.slice (some ad) l.length c) l) (hk : l[k]? = some rows) (hcs : W.ownsRow base 22 1 vk n cs) : some (ad.add k).block ≠ vk.ownBlock := by
 obtain ⟨f1, f2, h⟩ := h; obtain ⟨A, c', e, _, h2⟩ := h.top; obtain ⟨g, e2, hb, h3⟩ := h2 (by have := (List.getElem?_eq_some_iff.1 hk).1; omega)
 injection e with e _ _
 rw [e2] at e
 injection e with e
 subst e; obtain ⟨_, _, _, ⟨cc, hcc⟩, _⟩ := h3 k rows hk; rw [add_head]; intro e; obtain ⟨c', hc'⟩ := own_typed hcs g e.symm; rw [hcc] at hc'
 injection hc' with hc'
 injection hc' with _ hc'
 exact absurd hc' (by decide)
end Go.Proofs.Ytcgpemefmakjiaa.PX
namespace Go.Proofs.Ytcgpemefmakjiaa.PX
open Go.RowKit Go.Proofs.YtcgpemefmakjiaaW.PrintWords Go.Proofs.YtcgpemefmakjiaaW.PrintLast Go.Proofs.YtcgpemefmakjiaaW.PrintMore
set_option linter.unusedVariables false
set_option linter.unusedSimpArgs false
def badLen (n n0 : Nat) : Bool := n != n0 || decide (n < 1) || decide (10 < n)
set_option maxHeartbeats 400000 in
theorem shaped1_calls (R : Option Addr) (n c : Nat) (bx ad : Addr) (m cl : Nat) (A0 : Option Addr) (n0 c0 : Nat) (w : World) (hb : w.cell? bx = some (.slice (some ad) m cl)) (h0 : w.cell? ad = some (.slice A0 n0 c0))
  (hm : 0 < m) (hm1 : m ≤ 9223372036854775807) (hn : n ≤ 9223372036854775807) (hn0 : n0 ≤ 9223372036854775807) :
  Calls Try.prog 63 #[.slice R n c, .pointer (some bx)] w fun e w' => e = .returned (.bool (badLen n n0)) ∧ w = w' := by
 have hm2 : (0 : Int) < (m : Int) := by omega
 by_cases h1 : n = n0
 ·subst h1
  by_cases h2 : n < 1
  ·have e : badLen n n = true := by simp [badLen, h2]
   have E := Lib.hid e; clear e
   have h3 : (n : Int) < 1 := by omega
   go_enter Try.func63, Try.ntmps63
   go_wp2; go_ret; exact ⟨by rw [E.out]; rfl, rfl⟩
  ·by_cases h4 : 10 < n
   ·have e : badLen n n = true := by simp [badLen, h4]
    have E := Lib.hid e; clear e
    have h3 : ¬ (n : Int) < 1 := by omega
    have h5 : (10 : Int) < (n : Int) := by omega
    go_enter Try.func63, Try.ntmps63
    go_wp2; go_ret; exact ⟨by rw [E.out]; rfl, rfl⟩
   ·have e : badLen n n = false := by simp [badLen]; omega
    have E := Lib.hid e; clear e
    have h3 : ¬ (n : Int) < 1 := by omega
    have h5 : ¬ (10 : Int) < (n : Int) := by omega
    go_enter Try.func63, Try.ntmps63
    go_wp2; go_ret; exact ⟨by rw [E.out]; rfl, rfl⟩
 ·have e : badLen n n0 = true := by simp [badLen, h1]
  have E := Lib.hid e; clear e; have h3 : ((n : Int) == (n0 : Int)) = false := beq_eq_false_iff_ne.2 (by omega)
  go_enter Try.func63, Try.ntmps63
  go_wp2; go_ret; exact ⟨by rw [E.out]; rfl, rfl⟩
def anyBad (n0 : Nat) (l : List (List Int)) : Bool := l.any fun r => badLen r.length n0
set_option maxHeartbeats 800000 in
theorem shaped_index (A : Option Addr) (c : Nat) (l : List (List Int)) (bx : Addr) (w : World) (hr : Kd.C (Kd.slice 3 (Kd.int .i64)) w A l.length l) (hb : w.cell? bx = some (.slice A l.length c)) :
  Calls Try.prog 87 #[.slice A l.length c, .func (.func 63) #[] #[.pointer (some bx)]] w fun e w' => (∃ i : Int, e = .returned (.int .i64 i) ∧ decide (0 ≤ i) = anyBad (rd_L1 l 0).length l) ∧ w = w' := by
 have hlen := hr.2.1; have HR := Aside0.mk hr; clear hr
 go_enter Try.func87, Try.ntmps87
 go_wp2
 go_loop [8] (fun v => ∃ k : Nat, k ≤ l.length ∧ v = .int .i64 k ∧ Aside0 (∀ r ∈ l.take k, badLen r.length (rd_L1 l 0).length = false)) (fun v => l.length - (intOf v).toNat)
 case atStart => exact ⟨0, Nat.zero_le _, rfl, ⟨by simp⟩⟩
 case round =>
  obtain ⟨k, hk, rfl, HA⟩ := hrel
  by_cases hlt : k < l.length
  ·obtain ⟨ad, A0, c0, e0, hx0, hl0, hi0⟩ := at_L1 HR.out 0 (by omega) (by omega)
   obtain ⟨ad', A1, c1, e1, hx1, hl1, hi1⟩ := at_L1 HR.out k (by omega) (by omega)
   cases e0
   cases e1
   have hrow : rd_L1 l (k : Int) = l[k] := by simp [rd_L1, List.getD_eq_getElem?_getD, hlt]
   rw [hrow] at hx1 hl1 hi1; have hlen1 := hi1.2.1; have hlen0 := hi0.2.1
   have h00 : w.cell? ad = some (.slice A0 (rd_L1 l 0).length c0) := by simpa [Addr.add] using hx0
   have h11 : w.cell? (ad.add k) = some (.slice A1 l[k].length c1) := by simpa using hx1
   clear hx0 hx1 hl0 hl1 hi0 hi1; have HI := Lib.hid hrow; clear hrow; have HCl := shaped1_calls A1 l[k].length c1 bx ad l.length c A0 (rd_L1 l 0).length c0 w hb h00 (by omega) hlen hlen1 hlen0
   have HT : Hid (∀ r ∈ l.take (k + 1), r ∈ l.take k ∨ r = l[k]) := by
    intro r hm; rw [List.take_succ_eq_append_getElem hlt] at hm
    rcases List.mem_append.1 hm with h | h
    (· exact .inl h); (· exact .inr (List.mem_singleton.1 h))
   generalize hb1 : badLen l[k].length (rd_L1 l 0).length = b1 at HCl; have HB1 := Lib.hid hb1; have HC1 := Lib.hid HCl; clear hb1 HCl h00
   cases b1 with
   | true =>
    have HF : Hid (anyBad (rd_L1 l 0).length l = true) := by
     unfold Hid anyBad; rw [List.any_eq_true]; exact ⟨l[k], List.getElem_mem hlt, HB1.out⟩
    go_wp2_with (go_at_call 63; refine HC1.out.mono ?_; rintro e w' ⟨rfl, rfl⟩)
    go_ret; exact ⟨⟨k, rfl, by rw [HF.out]; simp⟩, rfl⟩
   | false =>
    go_wp2_with (go_at_call 63; refine HC1.out.mono ?_; rintro e w' ⟨rfl, rfl⟩)
    go_round
    case rel => exact ⟨k + 1, by omega, by go_num, ⟨fun r hm => by
     rcases HT.out r hm with h | h
     (· exact HA.out r h)
     ·rw [h]; exact HB1.out⟩⟩
    case measure => simp [intOf]; omega
  ·have HF : Hid (anyBad (rd_L1 l 0).length l = false) := by
    unfold Hid anyBad; rw [List.any_eq_false]; intro r hm; have := HA.out r (by rw [List.take_of_length_le (by omega)]; exact hm)
    simp [this]
   clear HA; go_wp2; go_ret; exact ⟨⟨-1, rfl, by rw [HF.out]; rfl⟩, rfl⟩
set_option maxHeartbeats 400000 in
theorem shaped_contains (A : Option Addr) (c : Nat) (l : List (List Int)) (bx : Addr) (w : World) (hr : Kd.C (Kd.slice 3 (Kd.int .i64)) w A l.length l) (hb : w.cell? bx = some (.slice A l.length c)) :
  Calls Try.prog 62 #[.slice A l.length c, .func (.func 63) #[] #[.pointer (some bx)]] w fun e w' => e = .returned (.bool (anyBad (rd_L1 l 0).length l)) ∧ w = w' := by
 have HC := Lib.hid (shaped_index A c l bx w hr hb); clear hr
 go_enter Try.func62, Try.ntmps62
 go_wp2_with (go_at_call 87; refine HC.out.mono ?_; rintro e w' ⟨⟨i, rfl, hi⟩, rfl⟩; have HI := Lib.hid hi; clear hi)
 go_ret; exact ⟨by rw [← HI.out]; rfl, rfl⟩
def sumLen (l : List (List (List Int))) : Nat := (l.map List.length).sum
theorem sumLen_snoc (l : List (List (List Int))) (k : Nat) (h : k < l.length) : sumLen (l.take (k + 1)) = sumLen (l.take k) + l[k].length := by
 unfold sumLen; rw [List.take_succ_eq_append_getElem h, List.map_append, List.sum_append]; simp only [List.map_cons, List.map_nil, List.sum_cons, List.sum_nil, Nat.add_zero]
theorem sumLen_take (l : List (List (List Int))) (k : Nat) : sumLen (l.take k) ≤ sumLen l := by
 unfold sumLen
 conv => rhs; rw [← List.take_append_drop k l, List.map_append, List.sum_append]
 omega
def shapedB (l : List (List (List Int))) : Bool := l.all (fun r => !anyBad (rd_L1 r 0).length r) && decide (l.length ≤ 6) && decide (sumLen l ≤ 512)
def diff_shaped.f (l0 : List (List (List Int))) : Option Bool := if sumLen l0 < 4611686018427387904 then some (shapedB l0) else none
set_option maxHeartbeats 800000 in
theorem diff_shaped.calls (A0 : Option Addr) (c0 : Nat) (l0 : List (List (List Int))) (r : Bool) (w : World) (hr0 : Kd.C (Kd.slice 22 (Kd.slice 3 (Kd.int .i64))) w A0 l0.length l0) (hc0 : l0.length ≤ c0) (h : diff_shaped.f l0 = some r) :
  Calls Try.prog 37 #[.slice A0 l0.length c0] w fun e w' => e = .returned (.bool r) ∧ Below w.heap.size w w' := by
 unfold diff_shaped.f at h
 by_cases hs : sumLen l0 < 4611686018427387904
 ·rw [if_pos hs] at h
  obtain rfl := Option.some.inj h; clear h; have hlen := hr0.2.1; have HR := Aside0.mk hr0; have HS := Aside0.mk hs; clear hr0 hs
  go_enter Try.func37, Try.ntmps37
  go_wp2
  go_loopw [3, 8] (fun u v wr => ∃ k : Nat, k ≤ l0.length ∧ v = .int .i64 k ∧ u = .int .i64 (sumLen (l0.take k) : Nat) ∧ Aside0 (∀ r ∈ l0.take k, anyBad (rd_L1 r 0).length r = false) ∧ Aside0 (Below w.heap.size w wr)) (fun _ v _ => l0.length - (intOf v).toNat)
  case atStart => exact ⟨0, Nat.zero_le _, rfl, rfl, ⟨by simp⟩, ⟨Below.refl _ _⟩⟩
  case round =>
   obtain ⟨k, hk, rfl, rfl, HA, HB⟩ := hrel
   by_cases hlt : k < l0.length
   ·obtain ⟨ad, A1, c1, e1, hx1, hl1, hi1⟩ := at_L2 HR.out k (by omega) (by omega)
    cases e1
    have hrow : rd_L2 l0 (k : Int) = l0[k] := by simp [rd_L2, List.getD_eq_getElem?_getD, hlt]
    rw [hrow] at hx1 hl1 hi1; have hlen1 := hi1.2.1
    have h11 : wr.cell? (ad.add k) = some (.slice A1 l0[k].length c1) := by
     rw [Int.toNat_natCast] at hx1; exact (HB.out.cell (World.block_lt_of_cell? w _ hx1)).trans hx1
    have hsn := sumLen_snoc l0 k hlt; have hst := sumLen_take l0 (k + 1); have hss := HS.out
    have hb1 : ((sumLen (l0.take k) : Nat) : Int) + (l0[k].length : Int) < 4611686018427387904 := by omega
    have HSN := Lib.hid hsn; have HI := Lib.hid (Kd.C_below hi1 HB.out); clear hx1 hi1 hrow hsn hst hss; have HC := Lib.hid (shaped_contains A1 c1 l0[k] ⟨wr.heap.size, 0, none⟩ (wr.alloc (.cells #[.slice A1 l0[k].length c1] 64)) (Kd.C_alloc HI.out _) (cell_of_row _ _ 0 _ 64 (0, 0) (heap_alloc_new wr _))); generalize hb2 : anyBad (rd_L1 l0[k] 0).length l0[k] = b at HC; have HB2 := Lib.hid hb2; clear hb2
    have HT : Hid (∀ r ∈ l0.take (k + 1), r ∈ l0.take k ∨ r = l0[k]) := by
     intro r hm; rw [List.take_succ_eq_append_getElem hlt] at hm
     rcases List.mem_append.1 hm with h | h
     (· exact .inl h); (· exact .inr (List.mem_singleton.1 h))
    cases b with
    | true =>
     have HF : Hid (shapedB l0 = false) := by
      unfold Hid shapedB
      have : (l0.all fun r => !anyBad (rd_L1 r 0).length r) = false := by
       rw [List.all_eq_false]; exact ⟨l0[k], List.getElem_mem hlt, by rw [HB2.out]; simp⟩
      rw [this]; rfl
     go_wp2_with (go_at_call 62; refine HC.out.mono ?_; rintro e w' ⟨rfl, rfl⟩)
     go_ret; exact ⟨by rw [HF.out]; rfl, below_alloc HB.out _⟩
    | false =>
     go_wp2_with (go_at_call 62; refine HC.out.mono ?_; rintro e w' ⟨rfl, rfl⟩)
     go_roundw
     case rel => exact ⟨k + 1, by omega, by go_num, by rw [HSN.out]; rfl, ⟨fun r hm => by
      rcases HT.out r hm with h | h
      (· exact HA.out r h)
      ·rw [h]; exact HB2.out⟩, ⟨below_alloc HB.out _⟩⟩
     case measure => simp [intOf]; omega
   ·have hk2 : k = l0.length := by omega
    have HT : Hid (l0.take k = l0) := List.take_of_length_le (by omega); have hss := HS.out; rw [HT.out] at HA
    have HF : Hid (shapedB l0 = (decide ((l0.length : Int) ≤ 6) && decide ((sumLen l0 : Int) ≤ 512))) := by
     unfold Hid shapedB
     have : (l0.all fun r => !anyBad (rd_L1 r 0).length r) = true := by
      rw [List.all_eq_true]; intro r hm; rw [HA.out r hm]; rfl
     rw [this]
     have e1 : decide (l0.length ≤ 6) = decide ((l0.length : Int) ≤ 6) := by congr 1; simp; omega
     have e2 : decide (sumLen l0 ≤ 512) = decide ((sumLen l0 : Int) ≤ 512) := by congr 1; simp; omega
     rw [e1, e2]
     simp
    subst hk2; rw [HT.out]; generalize hsm : sumLen l0 = sm at HF hss ⊢; have HSM := Lib.hid hsm; clear hsm HT HA
    by_cases h6 : (l0.length : Int) ≤ 6
    ·by_cases h5 : (sm : Int) ≤ 512
     all_goals
      go_wp2; go_ret; exact ⟨by rw [HF.out]; simp [h6, h5], HB.out⟩
    (· go_wp2; go_ret; exact ⟨by rw [HF.out]; simp [h6]; omega, HB.out⟩)
 (· rw [if_neg hs] at h; exact absurd h (by simp))
end Go.Proofs.Ytcgpemefmakjiaa.PX
namespace Go.Proofs.Ytcgpemefmakjiaa.PX
open Go.RowKit Go.Proofs.YtcgpemefmakjiaaW.PrintWords Go.Proofs.YtcgpemefmakjiaaW.PrintLast Go.Proofs.YtcgpemefmakjiaaW.PrintMore
set_option linter.unusedVariables false
def stepS (l : Wd) (c : S61) : Wd × Int := stepW l c.f0 c.f1 c.f2 c.f3 c.f4 c.f5
def stepsW : Wd → List S61 → Wd × Int
 | l, [] => (l, 0)
 | l, c :: cs => if (stepS l c).2 = 0 then stepsW (stepS l c).1 cs else (l, (stepS l c).2)
def tall (l : Wd) : Int := ((l.map List.length).sum : Nat)
def applyR (l : Wd) (cs : List S61) : Wd × Int :=
 if shapedB l = false then ([], 2) else if 8192 < cs.length then ([], 4) else if (stepsW l cs).2 ≠ 0 then ([], (stepsW l cs).2) else if 512 < tall (stepsW l cs).1 then ([], 4) else ((stepsW l cs).1, 0)
def Good (n : Nat) (l : Wd) : Prop := ∀ (k : Nat) rows, l[k]? = some rows → rows.length ≤ n ∧ ∀ (i : Nat) r, rows[i]? = some r → r.length = (rd_L1 rows 0).length
def stepE (l : Wd) (c : S61) : Wd × Int := if (stepS l c).2 = 0 then ((stepS l c).1, 0) else (l, (stepS l c).2)
theorem stepsW_snoc : ∀ (cs : List S61) (l : Wd) (c : S61), (stepsW l cs).2 = 0 → stepsW l (cs ++ [c]) = stepE (stepsW l cs).1 c
 | [], l, c, _ => rfl
 | d :: cs, l, c, h => by
  have e1 : stepsW l (d :: (cs ++ [c])) = if (stepS l d).2 = 0 then stepsW (stepS l d).1 (cs ++ [c]) else (l, (stepS l d).2) := rfl
  have e2 : stepsW l (d :: cs) = if (stepS l d).2 = 0 then stepsW (stepS l d).1 cs else (l, (stepS l d).2) := rfl
  by_cases h1 : (stepS l d).2 = 0
  (· rw [if_pos h1] at e1 e2; rw [List.cons_append, e1, e2]; rw [e2] at h; exact stepsW_snoc cs _ c h); (· rw [if_neg h1] at e2; rw [e2] at h; exact absurd h h1)
theorem stepsW_stop : ∀ (cs ds : List S61) (l : Wd), (stepsW l cs).2 ≠ 0 → (stepsW l (cs ++ ds)).2 = (stepsW l cs).2
 | [], ds, l, h => absurd rfl h
 | d :: cs, ds, l, h => by
  simp only [stepsW, List.cons_append] at h ⊢
  by_cases h1 : (stepS l d).2 = 0
  (· rw [if_pos h1] at h; rw [if_pos h1, if_pos h1]; exact stepsW_stop cs ds _ h); (· rw [if_neg h1, if_neg h1])
theorem rd_L1_zero (rows : List (List Int)) (r : List Int) (h : rows[0]? = some r) : rd_L1 rows 0 = r := by simp [rd_L1, List.getD_eq_getElem?_getD, h]
theorem rd_L1_at (rows : List (List Int)) (i : Int) (h0 : 0 ≤ i) (h1 : i < rows.length) : rows[i.toNat]? = some (rd_L1 rows i) := by
 simp only [rd_L1, List.getD_eq_getElem?_getD]; rw [List.getElem?_eq_getElem (show i.toNat < rows.length by omega)]
 simp
theorem rd_L2_at (l : Wd) (i : Int) (h0 : 0 ≤ i) (h1 : i < l.length) : l[i.toNat]? = some (rd_L2 l i) := by
 simp only [rd_L2, List.getD_eq_getElem?_getD]; rw [List.getElem?_eq_getElem (show i.toNat < l.length by omega)]
 simp
theorem Good.set {n k : Nat} {l : Wd} {rows : List (List Int)} (h : Good n l) (hr : rows.length ≤ n + 1 ∧ ∀ (i : Nat) r, rows[i]? = some r → r.length = (rd_L1 rows 0).length) : Good (n + 1) (l.set k rows) := by
 intro j rows' hj
 by_cases e : k = j
 (· subst e; have hl := (List.getElem?_eq_some_iff.1 hj).1; rw [List.length_set] at hl; rw [List.getElem?_set_self hl] at hj; obtain rfl := Option.some.inj hj; exact hr); (· rw [List.getElem?_set_ne e] at hj; have := h j rows' hj; exact ⟨by omega, this.2⟩)
theorem Good.succ {n : Nat} {l : Wd} (h : Good n l) : Good (n + 1) l := fun k rows hk => ⟨by have := (h k rows hk).1; omega, (h k rows hk).2⟩
theorem stepS_len (l : Wd) (c : S61) : (stepS l c).1.length = l.length := by
 unfold stepS stepW stepK
 split
 (· rfl)
 split
 (· rfl)
 split
 (· rfl)
 split
 ·split <;> simp
 split
 ·split
  (· rfl)
  ·split <;> simp
 split
 (· rfl)
 split <;> simp
theorem stepS_good {n : Nat} {l : Wd} (h : Good n l) (c : S61) : Good (n + 1) (stepS l c).1 := by
 unfold stepS stepW
 split
 (· exact h.succ)
 next hform =>
 split
 (· exact h.succ)
 next hk =>
 have hk2 := rd_L2_at l c.f0 (by omega) (by omega); obtain ⟨hn, hw⟩ := h _ _ hk2; unfold stepK
 split
 (· exact h.succ)
 next hlen =>
 split
 ·next ha =>
  split
  ·refine h.set ⟨by simp; omega, fun i r hi => ?_⟩
   have h0 : (rd_L1 (rd_L2 l c.f0 ++ [c.f5]) 0).length = c.f5.length := by
    by_cases hz : 0 < (rd_L2 l c.f0).length
    ·rw [rd_L1_zero _ (rd_L1 (rd_L2 l c.f0) 0)]
     ·have : ¬ (c.f5.length ≠ (rd_L1 (rd_L2 l c.f0) 0).length) := fun e => hlen ⟨by omega, hz, e⟩
      omega
     (· rw [List.getElem?_append_left hz]; exact rd_L1_at _ 0 (by omega) (by omega))
    (· have : rd_L2 l c.f0 = [] := List.length_eq_zero_iff.1 (by omega); rw [this]; rfl)
   rw [h0]
   by_cases hi2 : i < (rd_L2 l c.f0).length
   ·rw [List.getElem?_append_left hi2] at hi
    rw [hw i r hi]
    have : ¬ (c.f5.length ≠ (rd_L1 (rd_L2 l c.f0) 0).length) := fun e => hlen ⟨by omega, by omega, e⟩
    omega
   ·have hl := (List.getElem?_eq_some_iff.1 hi).1
    simp at hl
    have : i = (rd_L2 l c.f0).length := by omega
    subst this
    simp at hi
    rw [hi]
  (· exact h.succ)
 split
 ·split
  (· exact h.succ)
  next hlast =>
  split
  (· refine h.set ⟨by simp; omega, fun i r hi => ?_⟩; have hi' := (List.getElem?_eq_some_iff.1 hi).1; rw [List.length_take] at hi'; rw [List.getElem?_take_of_lt (by omega)] at hi; rw [hw i r hi, rd_L1_zero ((rd_L2 l c.f0).take c.f1.toNat) (rd_L1 (rd_L2 l c.f0) 0)]; rw [List.getElem?_take_of_lt (by omega)]; exact rd_L1_at _ 0 (by omega) (by omega)); (· exact h.succ)
 split
 (· exact h.succ)
 next hb =>
 split
 (· exact h.succ); refine h.set ⟨by simp; omega, fun i r hi => ?_⟩
 have hh : ∀ (j : Nat) r, ((rd_L2 l c.f0).set c.f1.toNat ((rd_L1 (rd_L2 l c.f0) c.f1).set c.f2.toNat c.f4))[j]? = some r → r.length = (rd_L1 (rd_L2 l c.f0) 0).length := by
  intro j r hj
  by_cases e : c.f1.toNat = j
  (· subst e; rw [List.getElem?_set_self (by omega)] at hj; rw [← Option.some.inj hj, List.length_set]; exact hw _ _ (rd_L1_at _ _ (by omega) (by omega))); (· rw [List.getElem?_set_ne e] at hj; exact hw _ _ hj)
 rw [hh i r hi]; have hl := (List.getElem?_eq_some_iff.1 hi).1; rw [List.length_set] at hl; have h0 := rd_L1_at ((rd_L2 l c.f0).set c.f1.toNat ((rd_L1 (rd_L2 l c.f0) c.f1).set c.f2.toNat c.f4)) 0 (by omega) (by rw [List.length_set]; omega); exact (hh 0 _ h0).symm
theorem WRep.made {W : World} {base n : Nat} {ok : Nat → Prop} {v : Value} (h : Kd.R (Kd.raw 1) 64 W base ok v (List.replicate n [.slice none 0 0])) : WRep W base v (List.replicate n []) := by
 obtain ⟨_, inner, h1, h2, h3⟩ := h
 have hl : inner.length = n := by have : inner.length = (List.replicate n [Value.slice none 0 0]).length * 1 := h2; simpa using this
 have h1 : W.ownsRow base 64 1 v n inner := by have := h1; rw [List.length_replicate] at this; exact this
 refine ⟨fun _ => 0, fun _ => (0, 0), inner, by rw [List.length_replicate]; exact h1, fun k rows hk => ?_⟩; have hkn := (List.getElem?_eq_some_iff.1 hk).1; rw [List.length_replicate] at hkn
 have e : rows = [] := by
  rw [List.getElem?_replicate, if_pos hkn] at hk; exact (Option.some.inj hk).symm
 subst e; refine ⟨.slice none 0 0, ?_, KindRep.nil trivial⟩; have h4 : (inner.drop (k * 1)).take 1 = [Value.slice none 0 0] := (h3 k [.slice none 0 0] (by rw [List.getElem?_replicate, if_pos hkn])).1; have := congrArg List.head? h4; rw [Nat.mul_one, List.head?_take] at this
 simpa [List.head?_drop] using this
def cp (l : Wd) (k i : Nat) : Wd := l.mapIdx fun j rows => if j < k then rows else if j = k then rows.take i else []
theorem cp_length (l : Wd) (k i : Nat) : (cp l k i).length = l.length := by simp [cp]
theorem cp_zero (l : Wd) : cp l 0 0 = List.replicate l.length [] := by
 apply List.ext_getElem?
 intro j; simp only [cp, List.getElem?_mapIdx, List.getElem?_replicate]
 by_cases h : j < l.length
 ·rw [List.getElem?_eq_getElem h, if_pos h]
  simp
 (· rw [List.getElem?_eq_none (by omega), if_neg h]; rfl)
theorem cp_all (l : Wd) : cp l l.length 0 = l := by
 apply List.ext_getElem?
 intro j; simp only [cp, List.getElem?_mapIdx]
 by_cases h : j < l.length
 ·rw [List.getElem?_eq_getElem h]
  simp [h]
 (· rw [List.getElem?_eq_none (by omega)]; rfl)
theorem cp_at (l : Wd) (k i : Nat) (rows : List (List Int)) (h : l[k]? = some rows) : (cp l k i)[k]? = some (rows.take i) := by
 simp [cp, List.getElem?_mapIdx, h]
theorem cp_next (l : Wd) (k : Nat) (rows : List (List Int)) (h : l[k]? = some rows) : cp l k rows.length = cp l (k + 1) 0 := by
 apply List.ext_getElem?
 intro j; simp only [cp, List.getElem?_mapIdx]
 by_cases hj : j < l.length
 ·rw [List.getElem?_eq_getElem hj]
  simp only [Option.map_some, Option.some.injEq]
  by_cases h1 : j < k
  (· rw [if_pos h1, if_pos (by omega)])
  ·rw [if_neg h1]
   by_cases h2 : j = k
   (· subst h2; rw [if_pos rfl, if_pos (by omega)]; rw [List.getElem?_eq_getElem hj] at h; rw [Option.some.inj h, List.take_length])
   ·rw [if_neg h2, if_neg (by omega)]
    by_cases h3 : j = k + 1
    (· rw [if_pos h3, List.take_zero]); (· rw [if_neg h3])
 (· rw [List.getElem?_eq_none (by omega)]; rfl)
theorem cp_push (l : Wd) (k i : Nat) (rows : List (List Int)) (r : List Int) (h : l[k]? = some rows) (hr : rows[i]? = some r) : (cp l k i).set k (rows.take i ++ [r]) = cp l k (i + 1) := by
 apply List.ext_getElem?
 intro j; have hk := (List.getElem?_eq_some_iff.1 h).1
 by_cases e : k = j
 ·subst e
  rw [List.getElem?_set_self (by rw [cp_length]; exact hk), cp_at l k (i + 1) rows h]
  congr 1
  obtain ⟨hi, hr⟩ := List.getElem?_eq_some_iff.1 hr; rw [List.take_succ_eq_append_getElem hi, hr]
 ·rw [List.getElem?_set_ne e]
  simp only [cp, List.getElem?_mapIdx]
  cases l[j]? with
  | none => rfl
  | some x =>
   simp only [Option.map_some, Option.some.injEq]
   by_cases h1 : j < k
   (· rw [if_pos h1, if_pos h1]); (· rw [if_neg h1, if_neg h1, if_neg (Ne.symm e), if_neg (Ne.symm e)])
theorem sumLen_one (l : Wd) (rows : List (List Int)) (h : rows ∈ l) : rows.length ≤ sumLen l := by
 induction l with
 | nil => cases h
 | cons a l ih =>
  simp only [sumLen, List.map_cons, List.sum_cons]
  rcases List.mem_cons.1 h with e | e
  (· subst e; omega); (· have := ih e; simp only [sumLen] at this; omega)
theorem shaped_wide {l : Wd} (h : shapedB l = true) (k : Nat) (rows : List (List Int)) (hk : l[k]? = some rows) (i : Nat) (r : List Int) (hi : rows[i]? = some r) : 1 ≤ r.length ∧ r.length ≤ 10 := by
 unfold shapedB at h; simp only [Bool.and_eq_true, decide_eq_true_eq] at h; obtain ⟨⟨h1, h2⟩, h3⟩ := h; rw [List.all_eq_true] at h1
 have h4 : anyBad (rd_L1 rows 0).length rows = false := by simpa using h1 rows (List.mem_of_getElem? hk)
 unfold anyBad at h4; rw [List.any_eq_false] at h4; have h5 := h4 r (List.mem_of_getElem? hi); unfold badLen at h5; simp only [Bool.or_eq_true, bne_iff_ne, decide_eq_true_eq, not_or, ne_eq, Decidable.not_not] at h5; omega
theorem shaped_small {l : Wd} (h : shapedB l = true) : l.length ≤ 6 ∧ sumLen l ≤ 512 ∧ Good 512 l := by
 unfold shapedB at h; simp only [Bool.and_eq_true, decide_eq_true_eq] at h; obtain ⟨⟨h1, h2⟩, h3⟩ := h; refine ⟨h2, h3, fun k rows hk => ?_⟩; have hm : rows ∈ l := List.mem_of_getElem? hk; refine ⟨Nat.le_trans (sumLen_one l rows hm) h3, fun i r hi => ?_⟩; rw [List.all_eq_true] at h1
 have h4 : anyBad (rd_L1 rows 0).length rows = false := by simpa using h1 rows hm
 unfold anyBad at h4; rw [List.any_eq_false] at h4; have h5 := h4 r (List.mem_of_getElem? hi); unfold badLen at h5
 simp at h5
 exact h5.1.1
theorem Good.sum {n : Nat} {l : Wd} (h : Good n l) : sumLen l ≤ l.length * n := by
 have : ∀ (l : Wd), (∀ rows ∈ l, rows.length ≤ n) → sumLen l ≤ l.length * n := by
  intro l
  induction l with
  | nil => intro _; simp [sumLen]
  | cons r l ih =>
   intro h; have h1 := h r (by simp); have h2 := ih (fun x hx => h x (by simp [hx])); simp only [sumLen, List.map_cons, List.sum_cons, List.length_cons] at h2 ⊢; rw [Nat.add_mul]; omega
 refine this l (fun rows hm => ?_); obtain ⟨k, hk⟩ := List.mem_iff_getElem?.1 hm; exact (h k rows hk).1
theorem stepsW_good (l : Wd) (cs : List S61) {n : Nat} (h : Good n l) : Good (n + cs.length) (stepsW l cs).1 ∧ (stepsW l cs).1.length = l.length := by
 induction cs generalizing n l with
 | nil => exact ⟨h, rfl⟩
 | cons c cs ih =>
  simp only [stepsW]
  split
  (· have := ih (stepS l c).1 (stepS_good h c); rw [stepS_len] at this; refine ⟨?_, this.2⟩; rw [List.length_cons, show n + (cs.length + 1) = n + 1 + cs.length by omega]; exact this.1); (· refine ⟨fun k rows hk => ?_, rfl⟩; have := h k rows hk; exact ⟨by rw [List.length_cons]; omega, this.2⟩)
end Go.Proofs.Ytcgpemefmakjiaa.PX
namespace Go.Proofs.Ytcgpemefmakjiaa.PX
open Go.RowKit Go.Proofs.YtcgpemefmakjiaaW.PrintWords Go.Proofs.YtcgpemefmakjiaaW.PrintLast Go.Proofs.YtcgpemefmakjiaaW.PrintMore
attribute [local go_sem] max2_int min2_int max_two min_two max_three min_three max_four min_four   -- for this text's walks alone
set_option linter.unusedVariables false
set_option linter.unusedSimpArgs false
def slices_Equal_int_int.l0 : Nat → List Int → List Int → Int → Int → Option (Bool)
 | 0, _, _, _, _ => none
 | k + 1, x0, x1, x12, x13 => if x13 < x12 then (if 0 ≤ x13 then (if x13 < (x0.length : Int) then (if x13 < (x1.length : Int) then (if (rd x0 x13) = (rd x1 x13) then (slices_Equal_int_int.l0 k x0 x1 x12 (wrap64 (x13 + 1))) else (some false)) else (none)) else (none)) else (none)) else (some true)
def slices_Equal_int_int.f (k : Nat) (l0 : List Int) (l1 : List Int) : Option (Bool) := if (l0.length : Int) = (l1.length : Int) then (slices_Equal_int_int.l0 k l0 l1 (l0.length : Int) 0) else (some false)
set_option maxHeartbeats 8000000 in
set_option maxRecDepth 100000 in
theorem slices_Equal_int_int.calls (k : Nat) (A0 : Option Addr) (c0 : Nat) (l0 : List Int) (A1 : Option Addr) (c1 : Nat) (l1 : List Int) (r : Bool) (w : World) (hr0 : Kd.C (Kd.int .i64) w A0 l0.length l0) (hc0 : l0.length ≤ c0) (hr1 : Kd.C (Kd.int .i64) w A1 l1.length l1) (hc1 : l1.length ≤ c1) (h : slices_Equal_int_int.f k l0 l1 = some r) :
  Calls Try.prog 67 #[.slice A0 l0.length c0, .slice A1 l1.length c1] w fun e w' => e = .returned (.bool r) ∧ Drawn0 w w' := by
 have HR0 := Aside0.mk hr0; have HC0 := Aside0.mk hc0; clear hr0 hc0; have HR1 := Aside0.mk hr1; have HC1 := Aside0.mk hc1; clear hr1 hc1; have H : (if (l0.length : Int) = (l1.length : Int) then (slices_Equal_int_int.l0 k l0 l1 (l0.length : Int) 0) else (some false)) = some r := h; clear h
 by_cases c3 : (l0.length : Int) = (l1.length : Int)
 ·rw [if_pos c3] at H
  have c3b0 : ((l0.length : Int) == (l1.length : Int)) = true := beq_iff_eq.mpr c3; have c3b1 : ((l0.length : Int) != (l1.length : Int)) = false := bne_eq_false_iff_eq.mpr c3
  have c3b2 : (l0.length == l1.length) = true := by first | simpa using c3 | (simp at c3 ⊢; omega)
  clear c3; have H' := Aside0.mk H; clear H
  go_enter Try.func67, Try.ntmps67
  go_wp2
  repeat (go_quiet (fail); try go_wp2)
  go_loopg [13] k (fun kq v13 w' => ∃ (x13_1 : Int), v13 = .int .i64 x13_1 ∧ Aside0 (slices_Equal_int_int.l0 kq l0 l1 (l0.length : Int) x13_1 = some r) ∧ Aside0 (kq ≤ k) ∧ Drawn0 w w')
  case atStart => exact ⟨(0), (by first | rfl | (simp; done) | (simp [*]; done)), H', ⟨Nat.le_refl _⟩, by repeat (first | exact Drawn0.refl _ | apply Drawn0.step)⟩
  case round =>
   clear H'
   try clear c1
   try clear p2
   try clear c3
   try clear c3b0
   try clear c3b1
   try clear c3b2
   obtain ⟨x13_1, rfl, HA, HK1, ⟨m1, rfl⟩⟩ := hrel
   cases gk with
   | zero => exact absurd HA.out (by simp [slices_Equal_int_int.l0])
   | succ k1 =>
    have H := HA.out; clear HA; simp only [slices_Equal_int_int.l0] at H
    by_cases c4 : x13_1 < (l0.length : Int)
    ·rw [if_pos c4] at H
     have c4b0 : decide (x13_1 < (l0.length : Int)) = true := decide_eq_true c4; clear c4
     by_cases c5 : 0 ≤ x13_1
     ·rw [if_pos c5] at H
      have c5b0 : decide (0 ≤ x13_1) = true := decide_eq_true c5; clear c5
      by_cases c6 : x13_1 < (l0.length : Int)
      ·rw [if_pos c6] at H
       have c6b0 : decide (x13_1 < (l0.length : Int)) = true := decide_eq_true c6; clear c6
       by_cases c7 : x13_1 < (l1.length : Int)
       ·rw [if_pos c7] at H
        have c7b0 : decide (x13_1 < (l1.length : Int)) = true := decide_eq_true c7; clear c7
        by_cases c8 : (rd l0 x13_1) = (rd l1 x13_1)
        ·rw [if_pos c8] at H
         have c8b0 : ((rd l0 x13_1) == (rd l1 x13_1)) = true := beq_iff_eq.mpr c8; have c8b1 : ((rd l0 x13_1) != (rd l1 x13_1)) = false := bne_eq_false_iff_eq.mpr c8; clear c8; have H' := Aside0.mk H; clear H; have p210 : 0 ≤ (x13_1 : Int) := of_decide_eq_true (by first | (with_reducible assumption) | assumption); have q210 : x13_1 < (l0.length : Int) := of_decide_eq_true (by first | (with_reducible assumption) | assumption); obtain ⟨ad210, e210, hx210_0⟩ := Kd.at_int HR0.out x13_1 p210 q210
         cases e210
         replace p210 := eq_true p210; replace q210 := eq_true q210; have p211 : 0 ≤ (x13_1 : Int) := of_decide_eq_true (by first | (with_reducible assumption) | assumption); have q211 : x13_1 < (l1.length : Int) := of_decide_eq_true (by first | (with_reducible assumption) | assumption); obtain ⟨ad211, e211, hx211_0⟩ := Kd.at_int HR1.out x13_1 p211 q211
         cases e211
         replace p211 := eq_true p211; replace q211 := eq_true q211; go_wp2
         repeat (go_quiet (fail); try go_wp2)
         go_roundg k1
         case measure => have := HK1.out; omega
         case rel => exact ⟨(wrap64 (x13_1 + 1)), (by first | rfl | (simp; done) | (simp [*]; done)), H', ⟨by have := HK1.out; omega⟩, by repeat (first | exact Drawn0.refl _ | apply Drawn0.step)⟩
        ·rw [if_neg c8] at H
         have c8b0 : ((rd l0 x13_1) == (rd l1 x13_1)) = false := beq_eq_false_iff_ne.mpr c8; have c8b1 : ((rd l0 x13_1) != (rd l1 x13_1)) = true := bne_iff_ne.mpr c8; obtain rfl := Option.some.inj H; have p210 : 0 ≤ (x13_1 : Int) := of_decide_eq_true (by first | (with_reducible assumption) | assumption); have q210 : x13_1 < (l0.length : Int) := of_decide_eq_true (by first | (with_reducible assumption) | assumption); obtain ⟨ad210, e210, hx210_0⟩ := Kd.at_int HR0.out x13_1 p210 q210
         cases e210
         replace p210 := eq_true p210; replace q210 := eq_true q210; have p211 : 0 ≤ (x13_1 : Int) := of_decide_eq_true (by first | (with_reducible assumption) | assumption); have q211 : x13_1 < (l1.length : Int) := of_decide_eq_true (by first | (with_reducible assumption) | assumption); obtain ⟨ad211, e211, hx211_0⟩ := Kd.at_int HR1.out x13_1 p211 q211
         cases e211
         replace p211 := eq_true p211; replace q211 := eq_true q211; go_wp2
         repeat (go_quiet (fail); try go_wp2)
         go_ret; exact ⟨by first | rfl | (simp; done) | (simp [*]; done), by repeat (first | exact Drawn0.refl _ | apply Drawn0.step)⟩
       (· rw [if_neg c7] at H; exact absurd H (by simp))
      (· rw [if_neg c6] at H; exact absurd H (by simp))
     (· rw [if_neg c5] at H; exact absurd H (by simp))
    ·rw [if_neg c4] at H
     have c4b0 : decide (x13_1 < (l0.length : Int)) = false := decide_eq_false c4; clear c4; obtain rfl := Option.some.inj H; go_wp2
     repeat (go_quiet (fail); try go_wp2)
     go_ret; exact ⟨by first | rfl | (simp; done) | (simp [*]; done), by repeat (first | exact Drawn0.refl _ | apply Drawn0.step)⟩
 ·rw [if_neg c3] at H
  have c3b0 : ((l0.length : Int) == (l1.length : Int)) = false := beq_eq_false_iff_ne.mpr c3; have c3b1 : ((l0.length : Int) != (l1.length : Int)) = true := bne_iff_ne.mpr c3
  have c3b2 : (l0.length == l1.length) = false := by first | simpa using c3 | (simp at c3 ⊢; omega)
  obtain rfl := Option.some.inj H
  go_enter Try.func67, Try.ntmps67
  go_wp2
  repeat (go_quiet (fail); try go_wp2)
  go_ret; exact ⟨by first | rfl | (simp; done) | (simp [*]; done), by repeat (first | exact Drawn0.refl _ | apply Drawn0.step)⟩
end Go.Proofs.Ytcgpemefmakjiaa.PX
namespace Go.Proofs.Ytcgpemefmakjiaa.PX
open Go.RowKit Go.Proofs.YtcgpemefmakjiaaW.PrintWords Go.Proofs.YtcgpemefmakjiaaW.PrintLast Go.Proofs.YtcgpemefmakjiaaW.PrintMore
theorem wrap64_id {x : Int} (h0 : -9223372036854775808 ≤ x) (h1 : x ≤ 9223372036854775807) : wrap64 x = x := by
 unfold wrap64; omega
theorem rd_nat (xs : List Int) (i : Nat) (h : i < xs.length) : rd xs i = xs[i] := by simp [rd, List.getD_eq_getElem?_getD, h]
theorem slEq_l0 (xs ys : List Int) (hl : xs.length = ys.length) (hm : xs.length < 4611686018427387904) : ∀ n i : Nat, i + n = xs.length → slices_Equal_int_int.l0 (n + 1) xs ys (xs.length : Int) (i : Int) = some (decide (xs.drop i = ys.drop i)) := by
 intro n
 induction n with
 | zero =>
  intro i hi; unfold slices_Equal_int_int.l0; rw [if_neg (by omega), List.drop_eq_nil_of_le (by omega), List.drop_eq_nil_of_le (by omega)]; rfl
 | succ n ih =>
  intro i hi; unfold slices_Equal_int_int.l0; rw [if_pos (by omega), if_pos (by omega), if_pos (by omega), if_pos (by omega), rd_nat xs i (by omega), rd_nat ys i (by omega), wrap64_id (by omega) (by omega)]
  have e : ((i : Int) + 1) = ((i + 1 : Nat) : Int) := by omega
  rw [e, ih (i + 1) (by omega), List.drop_eq_getElem_cons (show i < xs.length by omega), List.drop_eq_getElem_cons (show i < ys.length by omega)]
  by_cases he : xs[i] = ys[i]
  (· rw [if_pos he]; simp only [he, List.cons.injEq, true_and]); (· rw [if_neg he]; simp only [he, List.cons.injEq, false_and, decide_false])
theorem slEq_f (xs ys : List Int) (hm : xs.length < 4611686018427387904) : slices_Equal_int_int.f (xs.length + 1) xs ys = some (decide (xs = ys)) := by
 unfold slices_Equal_int_int.f
 by_cases h : xs.length = ys.length
 (· rw [if_pos (by omega)]; exact slEq_l0 xs ys h hm xs.length 0 (by omega))
 ·rw [if_neg (by omega)]
  have : xs ≠ ys := fun e => h (congrArg _ e)
  simp [this]
end Go.Proofs.Ytcgpemefmakjiaa.PX
namespace Go.Proofs.Ytcgpemefmakjiaa.PX
open Go.RowKit Go.Proofs.YtcgpemefmakjiaaW.PrintWords Go.Proofs.YtcgpemefmakjiaaW.PrintLast Go.Proofs.YtcgpemefmakjiaaW.PrintMore
set_option linter.unusedVariables false
section
variable {W W1 w1 : World} {base : Nat} {v3 v5 v1 vi : Value} {l3 : Wd} {q : List (List Int)} {r : List Int}
end
end Go.Proofs.Ytcgpemefmakjiaa.PX
namespace Go.Proofs.Ytcgpemefmakjiaa.PX
open Go.RowKit Go.Proofs.YtcgpemefmakjiaaW.PrintWords Go.Proofs.YtcgpemefmakjiaaW.PrintLast Go.Proofs.YtcgpemefmakjiaaW.PrintMore
set_option linter.unusedVariables false
set_option linter.unusedSimpArgs false
def slices_Clone_int_int.f (l0 : List Int) : Option (List Int) := if l0.length < 17592186044416 then some l0 else none
set_option maxHeartbeats 400000 in
set_option maxRecDepth 100000 in
theorem slices_Clone_int_int.calls (A0 : Option Addr) (c0 : Nat) (l0 : List Int) (r : List Int) (w : World) (hr0 : Kd.C (Kd.int .i64) w A0 l0.length l0) (hc0 : l0.length ≤ c0) (h : slices_Clone_int_int.f l0 = some r) :
  Calls Try.prog 43 #[.slice A0 l0.length c0] w fun e w' => ∃ v0_ : Value, e = .returned (v0_) ∧ Kd.R (Kd.int .i64) 3 w' w.heap.size (fun _ => True) v0_ r ∧ Below w.heap.size w w' := by
 unfold slices_Clone_int_int.f at h
 by_cases hl : l0.length < 17592186044416
 ·rw [if_pos hl] at h
  obtain rfl := Option.some.inj h; have HR0 := Aside0.mk hr0; have HC0 := Aside0.mk hc0; have HL := Aside0.mk hl; clear h
  cases A0 with
  | none =>
   have hn : l0 = [] := by
    rcases l0 with _ | ⟨x, t⟩
    (· rfl)
    ·obtain ⟨_, _, h3⟩ := hr0
     obtain ⟨ad, h4, _⟩ := h3 (by simp)
     cases h4
   clear hr0 hc0 hl HR0 HC0 HL; subst hn
   have he : ∀ W, (binOp .eql 22 (.slice none 0 c0) (.slice none 0 0)).run Try.prog W = .ok (.bool true) W := fun W => run_eql_slice_nil (P := Try.prog) W 22 3 none 0 c0 Try.underlying22
   go_enter Try.func43, Try.ntmps43
   go_wp2; go_ret; exact ⟨_, rfl, Kd.R_nil _ _ _ _ _, Below.refl _ _⟩
  | some ad =>
   clear hr0 hc0 hl
   have he : ∀ W, (binOp .eql 22 (.slice (some ad) l0.length c0) (.slice none 0 0)).run Try.prog W = .ok (.bool false) W := fun W => run_eql_slice_nil (P := Try.prog) W 22 3 (some ad) l0.length c0 Try.underlying22
   go_enter Try.func43, Try.ntmps43
   go_wp2_with (first
    | ((with_reducible refine gate_dst (N := 5) rfl ?_); refine Kd.R_lit (Kd.int .i64) w.heap.size 3 ?hg (N := 5) ?hd (xs := ([] : List Int)) (inner := []) (ok := fun _ => True) (okp := fun _ => True) ?hr ?hp (fun _ hk => hk) trivial (Below.refl _ _) (Nat.le_refl _) (by simp) ?_; (case hd => rfl); (case hg => rfl); (case hr => first | (go_simp; done) | (go_simp; rfl)); (case hp => exact (Reps.none _ _)); intro v1 w1 ho1 hb1 hg1 hnew1; clear hg1 hnew1; have HO1 := Aside0.mk ho1; have HB1 := Aside0.mk hb1; clear ho1 hb1)
    | ((with_reducible refine gate_builtin (b := .append) (xs := #[.tmp 5, .tmp 6]) rfl ?_); at_builtin; refine Kd.R_append_rows (Kd.int .i64) (w0 := w) w.heap.size rfl (.tmp 5) (.tmp 6) 22 3 (.int .i64 0) 8 rfl Try.underlying22 info3 rfl (by decide) (by omega) v1 [] l0 _ _ _ (fun _ => True) (fun _ => False) rfl rfl HO1.out (Kd.C_below HR0.out HB1.out) (fun _ _ h => h) (fun _ h => h.elim) (fun _ _ => trivial) HB1.out HB1.out.size (by have := HL.out; simp; omega) ?_; intro v2 w2 ho2 hb2 hg2 hat2; clear hg2 hat2; have HO2 := Aside0.mk ho2; have HB2 := Aside0.mk hb2; clear ho2 hb2))
   go_ret; exact ⟨_, rfl, by simpa using HO2.out, HB2.out⟩
 (· rw [if_neg hl] at h; exact absurd h (by simp))
end Go.Proofs.Ytcgpemefmakjiaa.PX
namespace Go.Proofs.Ytcgpemefmakjiaa.PX
open Go.RowKit Go.Proofs.YtcgpemefmakjiaaW.PrintWords Go.Proofs.YtcgpemefmakjiaaW.PrintLast Go.Proofs.YtcgpemefmakjiaaW.PrintMore
set_option linter.unusedVariables false
set_option linter.unusedSimpArgs false
end Go.Proofs.Ytcgpemefmakjiaa.PX
namespace Go.Proofs.Ytcgpemefmakjiaa.PX
open Go.RowKit Go.Proofs.YtcgpemefmakjiaaW.PrintWords Go.Proofs.YtcgpemefmakjiaaW.PrintLast Go.Proofs.YtcgpemefmakjiaaW.PrintMore
set_option linter.unusedVariables false
def in64 (x : Int) : Bool := decide (-9223372036854775808 ≤ x) && decide (x ≤ 9223372036854775807)
theorem in64_iff {x : Int} : in64 x = true ↔ -9223372036854775808 ≤ x ∧ x ≤ 9223372036854775807 := by simp [in64]
def arv (x n : Int) : Int := (dioramaref01_Around.f x n).getD 0
theorem arv_spec (x n : Int) (hx : in64 x = true) : dioramaref01_Around.f x n = some (arv x n) ∧ 0 ≤ arv x n ∧ (0 < n → arv x n < n) := by
 rw [in64_iff] at hx; unfold arv dioramaref01_Around.f
 by_cases h0 : x < 0
 ·rw [if_pos h0]
  by_cases h1 : n < 1
  (· rw [if_pos h1]; exact ⟨rfl, Int.le_refl _, fun h => by omega⟩); (· rw [if_neg h1, if_neg (by omega), wrap64_id (x := x + 1) (by omega) (by omega), wrap64_id (by omega) (by omega)]; refine ⟨rfl, Int.tmod_nonneg _ (by omega), fun h => Int.tmod_lt_of_pos _ h⟩)
 ·rw [if_neg h0]
  by_cases h1 : n < 1
  (· rw [if_pos h1]; exact ⟨rfl, Int.le_refl _, fun h => by omega⟩); (· rw [if_neg h1, if_neg (by omega)]; refine ⟨rfl, Int.tmod_nonneg _ (by omega), fun h => Int.tmod_lt_of_pos _ h⟩)
def atv (l : List Int) (i n : Int) : Int := (dioramaref01_At.f l i n).getD 0
theorem atv_spec (l : List Int) (i n : Int) (hl : l.all in64 = true) : dioramaref01_At.f l i n = some (atv l i n) ∧ 0 ≤ atv l i n ∧ (0 < n → atv l i n < n) := by
 unfold atv dioramaref01_At.f
 by_cases h0 : i < 0
 (· rw [if_pos h0]; exact ⟨rfl, Int.le_refl _, fun h => h⟩); rw [if_neg h0]
 by_cases h1 : i ≥ (l.length : Int)
 (· rw [if_pos h1]; exact ⟨rfl, Int.le_refl _, fun h => h⟩); rw [if_neg h1, if_pos (by omega), if_pos (by omega)]
 have hx : in64 (rd l i) = true := by
  rw [List.all_eq_true] at hl; refine hl _ ?_; simp only [rd, List.getD_eq_getElem?_getD]; rw [List.getElem?_eq_getElem (show i.toNat < l.length by omega)]; exact List.getElem_mem _
 obtain ⟨e, h2, h3⟩ := arv_spec (rd l i) n hx; rw [e]; exact ⟨rfl, h2, h3⟩
end Go.Proofs.Ytcgpemefmakjiaa.PX
namespace Go.Proofs.Ytcgpemefmakjiaa.PX
open Go.RowKit Go.Proofs.YtcgpemefmakjiaaW.PrintWords Go.Proofs.YtcgpemefmakjiaaW.PrintLast Go.Proofs.YtcgpemefmakjiaaW.PrintMore
set_option linter.unusedVariables false
theorem wrap_u64 (x : Int) (h0 : 0 ≤ x) (h1 : x < 18446744073709551616) : IntKind.u64.wrap x = x := by
 simp only [IntKind.wrap, IntKind.bits, IntKind.signed]
 simp
 omega
theorem wrap_u64_neg (x : Int) (h0 : -9223372036854775808 ≤ x) (h1 : x < 0) : IntKind.u64.wrap x = x + 18446744073709551616 := by
 simp only [IntKind.wrap, IntKind.bits, IntKind.signed]
 simp
 omega
theorem xor_ones (x : Int) (h0 : 0 ≤ x) (h1 : x < 18446744073709551616) : bits .xor .u64 18446744073709551615 x = 18446744073709551615 - x := by
 show IntKind.u64.wrap ((BitVec.ofInt 64 18446744073709551615 ^^^ BitVec.ofInt 64 x).toNat : Int) = _
 have e : BitVec.ofInt 64 18446744073709551615 = BitVec.allOnes 64 := by decide
 have e2 : (BitVec.ofInt 64 x).toNat = x.toNat := by
  rw [BitVec.toNat_ofInt]; omega
 rw [e, BitVec.allOnes_xor, BitVec.toNat_not, e2]; rw [wrap_u64 _ (by omega) (by omega)]; omega
theorem xor_byte (x : Int) (h0 : 0 ≤ x) (h1 : x < 256) : bits .xor .u8 x 255 = 255 - x ∧ bits .xor .u8 x 0 = x := by
 have h : ∀ y : Fin 256, bits .xor .u8 (y.val : Int) 255 = 255 - (y.val : Int) ∧ bits .xor .u8 (y.val : Int) 0 = (y.val : Int) := by decide +kernel
 have := h ⟨x.toNat, by omega⟩; simp only at this; rw [Int.toNat_of_nonneg h0] at this; exact this
def nb (m : Int) : Nat := if m < 1 then 0 else if m < 256 then 1 else if m < 65536 then 2 else if m < 16777216 then 3 else if m < 4294967296 then 4 else if m < 1099511627776 then 5 else if m < 281474976710656 then 6 else if m < 72057594037927936 then 7 else 8
def mag (n : Int) : Int := if n < 0 then -n - 1 else n
def flp (n x : Int) : Int := if n < 0 then 255 - x else x
def byt (n : Int) (k j : Nat) : List Int := (List.range j).map fun i => flp n (mag n / 256 ^ (k - 1 - i) % 256)
def intR (n : Int) : List Int := flp n (128 + nb (mag n)) :: byt n (nb (mag n)) (nb (mag n))
theorem byt_succ (n : Int) (k j : Nat) : byt n k (j + 1) = byt n k j ++ [flp n (mag n / 256 ^ (k - 1 - j) % 256)] := by simp [byt, List.range_succ]
theorem mag_bd (n : Int) (h : in64 n = true) : 0 ≤ mag n ∧ mag n < 9223372036854775808 := by
 rw [in64_iff] at h; unfold mag
 split <;> omega
theorem nb_le (m : Int) : nb m ≤ 8 := by
 unfold nb
 repeat' split
 all_goals omega
theorem nb_pow (m : Int) (hm : m < 18446744073709551616) (j : Nat) (hj : j ≤ 8) : nb m ≤ j ↔ m < 256 ^ j := by
 have : j = 0 ∨ j = 1 ∨ j = 2 ∨ j = 3 ∨ j = 4 ∨ j = 5 ∨ j = 6 ∨ j = 7 ∨ j = 8 := by omega
 unfold nb
 rcases this with rfl | rfl | rfl | rfl | rfl | rfl | rfl | rfl | rfl
 all_goals
  simp only [Int.reducePow]
  repeat' split
  all_goals omega
end Go.Proofs.Ytcgpemefmakjiaa.PX
namespace Go.Proofs.Ytcgpemefmakjiaa.PX
open Go.RowKit Go.Proofs.YtcgpemefmakjiaaW.PrintWords Go.Proofs.YtcgpemefmakjiaaW.PrintLast Go.Proofs.YtcgpemefmakjiaaW.PrintMore
set_option linter.unusedVariables false
set_option linter.unusedSimpArgs false
theorem wp_block_mid {P : Program} {c : Code} {K : Act → World → Prop} {Q' : Exit → Act → World → Prop} {a : Act} {w : World} (R : Act → World → Prop) (h1 : c.wp P (fun e a' w' => match e with | .exit 0 => R a' w' | _ => False) a w) (h2 : ∀ a' w', R a' w' → K a' w') :
  c.wp P (Exit.inBlock 0 (Exit.then K Q')) a w :=
 wp_mono h1 fun e a' w' h => by
  cases e with
  | exit id =>
   cases id with
   | zero => exact h2 _ _ h
   | succ n => exact h.elim
  | normal => exact h.elim
  | ret => exact h.elim
  | goto t => exact h.elim
  | panic ch => exact h.elim
  | outgrown => exact h.elim
set_option maxHeartbeats 2000000 in
set_option maxRecDepth 100000 in
theorem int_any (n : Int) (hn : in64 n = true) (w : World) :
  Calls Try.prog 47 #[.int .i64 n] w fun e w' => ∃ v, e = .returned v ∧ Kd.R (Kd.int .u8) 5 w' w.heap.size (fun _ => True) v (intR n) ∧ Below w.heap.size w w' := by
 obtain ⟨hm0, hm1⟩ := mag_bd n hn; have HN := Aside0.mk ((in64_iff).1 hn); clear hn
 go_enter Try.func47, Try.ntmps47
 by_cases h0 : n < 0
 ·have hd : decide (n < 0) = true := decide_eq_true h0
  go_wp2
  go_step3
  go_wp2
  go_step3
  go_wp2
  have e : bits .xor .u64 IntKind.u64.max (IntKind.u64.wrap n) = mag n := by
   have := HN.out; rw [wrap_u64_neg n (by omega) h0]
   show bits .xor .u64 18446744073709551615 _ = _
   rw [xor_ones _ (by omega) (by omega)]; unfold mag; rw [if_pos h0]; omega
  rw [e]; obtain ⟨M, hM⟩ : ∃ M, M = mag n := ⟨_, rfl⟩; rw [← hM] at hm0 hm1 e ⊢; have HM := Aside0.mk hM; clear hM; refine wp_block_mid (fun a' w' => ∃ (s14 s15 s16 s17 s18 s19 s20 s21 s22 s23 : Value), a' = { tmps := #[.int .i64 n, undef, .slice none 0 0, .int .u64 M, .int .u8 255, .int .i64 (nb M), undef, undef, .int .i64 n, .int .u64 (IntKind.u64.wrap n), .int .i64 n, .bool true, .int .u64 (IntKind.u64.wrap n), .int .u64 M, s14, s15, s16, s17, s18, s19, s20, s21, s22, s23, undef, undef, undef, undef, undef, undef, undef, undef, undef, undef, undef, undef, undef, undef, undef, undef, undef, undef, undef, undef, undef, undef, undef], defers := [] } ∧ w' = w) ?_ ?_
  ·have hp := fun j hj => nb_pow M (by omega) j hj
   have HP := Aside0.mk hp; clear hp; have h8 := nb_le M
   go_loopw [5] (fun u wr => ∃ k : Nat, k ≤ 8 ∧ u = .int .i64 k ∧ nb M ≤ k ∧ w = wr) (fun u _ => (intOf u).toNat)
   case atStart => exact ⟨8, by omega, rfl, h8, rfl⟩
   case round =>
    obtain ⟨k, hk8, rfl, hnk, rfl⟩ := hrel
    have hk : k = 0 ∨ k = 1 ∨ k = 2 ∨ k = 3 ∨ k = 4 ∨ k = 5 ∨ k = 6 ∨ k = 7 ∨ k = 8 := by omega
    rcases hk with rfl | rfl | rfl | rfl | rfl | rfl | rfl | rfl | rfl
    ·have hnb : nb M = 0 := by omega
     go_wp2; rw [hnb]; exact ⟨_, _, _, _, _, _, _, _, _, _, rfl, by first | rfl | trivial⟩
    ·have hp := HP.out 0 (by decide)
     by_cases hc : 1 ≤ M
     ·have hnb : nb M = 1 := by
       simp only [Int.reducePow] at hp; omega
      have c1 : decide (M > 0) = true := decide_eq_true (by omega); have c2 : decide (0 < M) = true := decide_eq_true (by omega); clear hc hp; go_wp2; rw [hnb]; exact ⟨_, _, _, _, _, _, _, _, _, _, rfl, by first | rfl | trivial⟩
     ·have hnb : nb M ≤ 0 := by
       simp only [Int.reducePow] at hp; omega
      have c1 : decide (M > 0) = false := decide_eq_false (by omega); have c2 : decide (0 < M) = false := decide_eq_false (by omega); clear hc hp; go_wp2
      go_roundw
      case rel => exact ⟨0, by omega, by go_num, hnb, by first | rfl | trivial⟩
      case measure => simp [intOf]
    ·have hp := HP.out 1 (by decide)
     by_cases hc : 256 ≤ M
     ·have hnb : nb M = 2 := by
       simp only [Int.reducePow] at hp; omega
      have c1 : decide (M / 256 > 0) = true := decide_eq_true (by omega); have c2 : decide (0 < M / 256) = true := decide_eq_true (by omega); clear hc hp; go_wp2; rw [hnb]; exact ⟨_, _, _, _, _, _, _, _, _, _, rfl, by first | rfl | trivial⟩
     ·have hnb : nb M ≤ 1 := by
       simp only [Int.reducePow] at hp; omega
      have c1 : decide (M / 256 > 0) = false := decide_eq_false (by omega); have c2 : decide (0 < M / 256) = false := decide_eq_false (by omega); clear hc hp; go_wp2
      go_roundw
      case rel => exact ⟨1, by omega, by go_num, hnb, by first | rfl | trivial⟩
      case measure => simp [intOf]
    ·have hp := HP.out 2 (by decide)
     by_cases hc : 65536 ≤ M
     ·have hnb : nb M = 3 := by
       simp only [Int.reducePow] at hp; omega
      have c1 : decide (M / 65536 > 0) = true := decide_eq_true (by omega); have c2 : decide (0 < M / 65536) = true := decide_eq_true (by omega); clear hc hp; go_wp2; rw [hnb]; exact ⟨_, _, _, _, _, _, _, _, _, _, rfl, by first | rfl | trivial⟩
     ·have hnb : nb M ≤ 2 := by
       simp only [Int.reducePow] at hp; omega
      have c1 : decide (M / 65536 > 0) = false := decide_eq_false (by omega); have c2 : decide (0 < M / 65536) = false := decide_eq_false (by omega); clear hc hp; go_wp2
      go_roundw
      case rel => exact ⟨2, by omega, by go_num, hnb, by first | rfl | trivial⟩
      case measure => simp [intOf]
    ·have hp := HP.out 3 (by decide)
     by_cases hc : 16777216 ≤ M
     ·have hnb : nb M = 4 := by
       simp only [Int.reducePow] at hp; omega
      have c1 : decide (M / 16777216 > 0) = true := decide_eq_true (by omega); have c2 : decide (0 < M / 16777216) = true := decide_eq_true (by omega); clear hc hp; go_wp2; rw [hnb]; exact ⟨_, _, _, _, _, _, _, _, _, _, rfl, by first | rfl | trivial⟩
     ·have hnb : nb M ≤ 3 := by
       simp only [Int.reducePow] at hp; omega
      have c1 : decide (M / 16777216 > 0) = false := decide_eq_false (by omega); have c2 : decide (0 < M / 16777216) = false := decide_eq_false (by omega); clear hc hp; go_wp2
      go_roundw
      case rel => exact ⟨3, by omega, by go_num, hnb, by first | rfl | trivial⟩
      case measure => simp [intOf]
    ·have hp := HP.out 4 (by decide)
     by_cases hc : 4294967296 ≤ M
     ·have hnb : nb M = 5 := by
       simp only [Int.reducePow] at hp; omega
      have c1 : decide (M / 4294967296 > 0) = true := decide_eq_true (by omega); have c2 : decide (0 < M / 4294967296) = true := decide_eq_true (by omega); clear hc hp; go_wp2; rw [hnb]; exact ⟨_, _, _, _, _, _, _, _, _, _, rfl, by first | rfl | trivial⟩
     ·have hnb : nb M ≤ 4 := by
       simp only [Int.reducePow] at hp; omega
      have c1 : decide (M / 4294967296 > 0) = false := decide_eq_false (by omega); have c2 : decide (0 < M / 4294967296) = false := decide_eq_false (by omega); clear hc hp; go_wp2
      go_roundw
      case rel => exact ⟨4, by omega, by go_num, hnb, by first | rfl | trivial⟩
      case measure => simp [intOf]
    ·have hp := HP.out 5 (by decide)
     by_cases hc : 1099511627776 ≤ M
     ·have hnb : nb M = 6 := by
       simp only [Int.reducePow] at hp; omega
      have c1 : decide (M / 1099511627776 > 0) = true := decide_eq_true (by omega); have c2 : decide (0 < M / 1099511627776) = true := decide_eq_true (by omega); clear hc hp; go_wp2; rw [hnb]; exact ⟨_, _, _, _, _, _, _, _, _, _, rfl, by first | rfl | trivial⟩
     ·have hnb : nb M ≤ 5 := by
       simp only [Int.reducePow] at hp; omega
      have c1 : decide (M / 1099511627776 > 0) = false := decide_eq_false (by omega); have c2 : decide (0 < M / 1099511627776) = false := decide_eq_false (by omega); clear hc hp; go_wp2
      go_roundw
      case rel => exact ⟨5, by omega, by go_num, hnb, by first | rfl | trivial⟩
      case measure => simp [intOf]
    ·have hp := HP.out 6 (by decide)
     by_cases hc : 281474976710656 ≤ M
     ·have hnb : nb M = 7 := by
       simp only [Int.reducePow] at hp; omega
      have c1 : decide (M / 281474976710656 > 0) = true := decide_eq_true (by omega); have c2 : decide (0 < M / 281474976710656) = true := decide_eq_true (by omega); clear hc hp; go_wp2; rw [hnb]; exact ⟨_, _, _, _, _, _, _, _, _, _, rfl, by first | rfl | trivial⟩
     ·have hnb : nb M ≤ 6 := by
       simp only [Int.reducePow] at hp; omega
      have c1 : decide (M / 281474976710656 > 0) = false := decide_eq_false (by omega); have c2 : decide (0 < M / 281474976710656) = false := decide_eq_false (by omega); clear hc hp; go_wp2
      go_roundw
      case rel => exact ⟨6, by omega, by go_num, hnb, by first | rfl | trivial⟩
      case measure => simp [intOf]
    ·have hp := HP.out 7 (by decide)
     by_cases hc : 72057594037927936 ≤ M
     ·have hnb : nb M = 8 := by
       simp only [Int.reducePow] at hp; omega
      have c1 : decide (M / 72057594037927936 > 0) = true := decide_eq_true (by omega); have c2 : decide (0 < M / 72057594037927936) = true := decide_eq_true (by omega); clear hc hp; go_wp2; rw [hnb]; exact ⟨_, _, _, _, _, _, _, _, _, _, rfl, by first | rfl | trivial⟩
     ·have hnb : nb M ≤ 7 := by
       simp only [Int.reducePow] at hp; omega
      have c1 : decide (M / 72057594037927936 > 0) = false := decide_eq_false (by omega); have c2 : decide (0 < M / 72057594037927936) = false := decide_eq_false (by omega); clear hc hp; go_wp2
      go_roundw
      case rel => exact ⟨7, by omega, by go_num, hnb, by first | rfl | trivial⟩
      case measure => simp [intOf]
  ·rintro a' w' ⟨s14, s15, s16, s17, s18, s19, s20, s21, s22, s23, rfl, rfl⟩
   have h8 := nb_le M; have e1 : bits .xor .u8 (128 + (nb M : Int)) 255 = 255 - (128 + (nb M : Int)) := (xor_byte (128 + (nb M : Int)) (by omega) (by omega)).1; obtain ⟨K, hK⟩ : ∃ K, K = nb M := ⟨_, rfl⟩; rw [← hK] at h8 e1 ⊢; have HK := Aside0.mk hK; have HE1 := Aside0.mk e1; clear hK e1 e
   go_wp2_with (first
    | ((with_reducible refine gate_dst (N := 29) rfl ?_); refine Kd.R_lit (Kd.int .u8) (w0 := w') w'.heap.size 5 ?hg (N := 29) ?hd (xs := ([bits .xor .u8 (128 + (K : Int)) 255] : List Int)) (inner := [.int .u8 (bits .xor .u8 (128 + (K : Int)) 255)]) (ok := fun _ => True) (okp := fun _ => True) ?hr ?hp (fun _ hk => hk) trivial (Below.refl _ _) (Nat.le_refl _) (by simp) ?_; (case hd => rfl); (case hg => rfl); (case hr => first | (go_simp; done) | (go_simp; rfl)); (case hp => exact Reps.one (show Kd.M (Kd.int .u8) _ _ _ (bits .xor .u8 (128 + (K : Int)) 255) [.int .u8 (bits .xor .u8 (128 + (K : Int)) 255)] from rfl) (Reps.none _ _)); intro v5 w5 ho5 hb5 hg5 hn5; clear hg5 hn5; rw [HE1.out] at ho5; have HO5 := Aside0.mk ho5; have HB5 := Aside0.mk hb5; clear ho5 hb5))
   go_loopw [6, 7] (fun u v wr => ∃ j : Nat, j ≤ K ∧ v = .int .i64 ((K : Int) - 1 - j) ∧ Aside0 (Below w'.heap.size w' wr) ∧ Aside0 (Kd.R (Kd.int .u8) 5 wr w'.heap.size (fun _ => True) u ((255 - (128 + (K : Int))) :: byt n K j))) (fun _ v _ => (intOf v + 1).toNat)
   case atStart => exact ⟨0, Nat.zero_le _, by go_num, HB5, ⟨HO5.out⟩⟩
   case round =>
    obtain ⟨j, hj, rfl, HB, HO⟩ := hrel
    by_cases hjK : j < K
    ·obtain ⟨q, hq⟩ : ∃ q, q = K - 1 - j := ⟨_, rfl⟩
     have hqi : (K : Int) - 1 - (j : Int) = (q : Int) := by omega
     rw [hqi]
     have hq8 : q < 8 := by omega
     have HQ := Aside0.mk hq; clear hqi hq
     have hx : bits .xor .u8 (M / 2 ^ (8 * q) % 256) 255 = flp n (mag n / 256 ^ (K - 1 - j) % 256) := by
      rw [(xor_byte (M / 2 ^ (8 * q) % 256) (by omega) (by omega)).1, ← HM.out, ← HQ.out, Int.pow_mul]; unfold flp; rw [if_pos h0]; rfl
     have HX := Aside0.mk hx; have HLEN := Aside0.mk (show ((255 - (128 + (K : Int))) :: byt n K j).length = j + 1 by simp [byt]); clear hx
     go_wp2_with ((with_reducible refine gate_builtin (b := .append) (xs := #[.tmp 36, .tmp 44]) rfl ?_); at_builtin; refine Kd.R_append (Kd.int .u8) (w0 := w') w'.heap.size rfl (.tmp 36) (.tmp 44) 53 5 (.int .u8 0) 1 rfl Try.underlying53 info5 rfl (by decide) (by decide) u6 ((255 - (128 + (K : Int))) :: byt n K j) (bits .xor .u8 (M / 2 ^ (8 * q) % 256) 255) [.int .u8 (bits .xor .u8 (M / 2 ^ (8 * q) % 256) 255)] (fun _ => True) (fun _ => False) rfl rfl rfl (fun _ h => h.elim) (fun _ _ => trivial) HO.out HB.out HB.out.size ?hl ?_; (case hl => rw [HLEN.out]; omega); intro v7 w7 ho7 hb7 hg7 hat7; have HO7 := Aside0.mk ho7; have HB7 := Aside0.mk hb7; clear ho7 hb7 hg7 hat7)
     go_roundw
     case rel => exact ⟨j + 1, by omega, congrArg (Value.int .i64) (by have := HQ.out; omega), HB7, ⟨by rw [byt_succ, ← HX.out]; exact HO7.out⟩⟩
     case measure => have := HQ.out; simp [intOf] <;> omega
    ·have hje : j = K := by omega
     subst hje; go_wp2
     try rw [Exit.noGoto_ret]
     go_ret
     exact ⟨_, rfl, by
      have e : intR n = (255 - (128 + (j : Int))) :: byt n j j := by
       unfold intR; rw [← HM.out, ← HK.out]; unfold flp; rw [if_pos h0]
      rw [e]
      exact HO.out, HB.out⟩
 ·have hd : decide (n < 0) = false := decide_eq_false h0
  have e : mag n = n := if_neg (by omega); rw [e] at hm0 hm1; have HM := Aside0.mk e.symm; clear e; go_wp2
  go_step3
  go_wp2
  go_step3
  go_wp2; refine wp_block_mid (fun a' w' => ∃ (s14 s15 s16 s17 s18 s19 s20 s21 s22 s23 : Value), a' = { tmps := #[.int .i64 n, undef, .slice none 0 0, .int .u64 n, .int .u8 0, .int .i64 (nb n), undef, undef, .int .i64 n, .int .u64 n, .int .i64 n, .bool false, undef, undef, s14, s15, s16, s17, s18, s19, s20, s21, s22, s23, undef, undef, undef, undef, undef, undef, undef, undef, undef, undef, undef, undef, undef, undef, undef, undef, undef, undef, undef, undef, undef, undef, undef], defers := [] } ∧ w' = w) ?_ ?_
  ·have hp := fun j hj => nb_pow n (by omega) j hj
   have HP := Aside0.mk hp; clear hp; have h8 := nb_le n
   go_loopw [5] (fun u wr => ∃ k : Nat, k ≤ 8 ∧ u = .int .i64 k ∧ nb n ≤ k ∧ w = wr) (fun u _ => (intOf u).toNat)
   case atStart => exact ⟨8, by omega, rfl, h8, rfl⟩
   case round =>
    obtain ⟨k, hk8, rfl, hnk, rfl⟩ := hrel
    have hk : k = 0 ∨ k = 1 ∨ k = 2 ∨ k = 3 ∨ k = 4 ∨ k = 5 ∨ k = 6 ∨ k = 7 ∨ k = 8 := by omega
    rcases hk with rfl | rfl | rfl | rfl | rfl | rfl | rfl | rfl | rfl
    ·have hnb : nb n = 0 := by omega
     go_wp2; rw [hnb]; exact ⟨_, _, _, _, _, _, _, _, _, _, rfl, by first | rfl | trivial⟩
    ·have hp := HP.out 0 (by decide)
     by_cases hc : 1 ≤ n
     ·have hnb : nb n = 1 := by
       simp only [Int.reducePow] at hp; omega
      have c1 : decide (n > 0) = true := decide_eq_true (by omega); have c2 : decide (0 < n) = true := decide_eq_true (by omega); clear hc hp; go_wp2; rw [hnb]; exact ⟨_, _, _, _, _, _, _, _, _, _, rfl, by first | rfl | trivial⟩
     ·have hnb : nb n ≤ 0 := by
       simp only [Int.reducePow] at hp; omega
      have c1 : decide (n > 0) = false := decide_eq_false (by omega); have c2 : decide (0 < n) = false := decide_eq_false (by omega); clear hc hp; go_wp2
      go_roundw
      case rel => exact ⟨0, by omega, by go_num, hnb, by first | rfl | trivial⟩
      case measure => simp [intOf]
    ·have hp := HP.out 1 (by decide)
     by_cases hc : 256 ≤ n
     ·have hnb : nb n = 2 := by
       simp only [Int.reducePow] at hp; omega
      have c1 : decide (n / 256 > 0) = true := decide_eq_true (by omega); have c2 : decide (0 < n / 256) = true := decide_eq_true (by omega); clear hc hp; go_wp2; rw [hnb]; exact ⟨_, _, _, _, _, _, _, _, _, _, rfl, by first | rfl | trivial⟩
     ·have hnb : nb n ≤ 1 := by
       simp only [Int.reducePow] at hp; omega
      have c1 : decide (n / 256 > 0) = false := decide_eq_false (by omega); have c2 : decide (0 < n / 256) = false := decide_eq_false (by omega); clear hc hp; go_wp2
      go_roundw
      case rel => exact ⟨1, by omega, by go_num, hnb, by first | rfl | trivial⟩
      case measure => simp [intOf]
    ·have hp := HP.out 2 (by decide)
     by_cases hc : 65536 ≤ n
     ·have hnb : nb n = 3 := by
       simp only [Int.reducePow] at hp; omega
      have c1 : decide (n / 65536 > 0) = true := decide_eq_true (by omega); have c2 : decide (0 < n / 65536) = true := decide_eq_true (by omega); clear hc hp; go_wp2; rw [hnb]; exact ⟨_, _, _, _, _, _, _, _, _, _, rfl, by first | rfl | trivial⟩
     ·have hnb : nb n ≤ 2 := by
       simp only [Int.reducePow] at hp; omega
      have c1 : decide (n / 65536 > 0) = false := decide_eq_false (by omega); have c2 : decide (0 < n / 65536) = false := decide_eq_false (by omega); clear hc hp; go_wp2
      go_roundw
      case rel => exact ⟨2, by omega, by go_num, hnb, by first | rfl | trivial⟩
      case measure => simp [intOf]
    ·have hp := HP.out 3 (by decide)
     by_cases hc : 16777216 ≤ n
     ·have hnb : nb n = 4 := by
       simp only [Int.reducePow] at hp; omega
      have c1 : decide (n / 16777216 > 0) = true := decide_eq_true (by omega); have c2 : decide (0 < n / 16777216) = true := decide_eq_true (by omega); clear hc hp; go_wp2; rw [hnb]; exact ⟨_, _, _, _, _, _, _, _, _, _, rfl, by first | rfl | trivial⟩
     ·have hnb : nb n ≤ 3 := by
       simp only [Int.reducePow] at hp; omega
      have c1 : decide (n / 16777216 > 0) = false := decide_eq_false (by omega); have c2 : decide (0 < n / 16777216) = false := decide_eq_false (by omega); clear hc hp; go_wp2
      go_roundw
      case rel => exact ⟨3, by omega, by go_num, hnb, by first | rfl | trivial⟩
      case measure => simp [intOf]
    ·have hp := HP.out 4 (by decide)
     by_cases hc : 4294967296 ≤ n
     ·have hnb : nb n = 5 := by
       simp only [Int.reducePow] at hp; omega
      have c1 : decide (n / 4294967296 > 0) = true := decide_eq_true (by omega); have c2 : decide (0 < n / 4294967296) = true := decide_eq_true (by omega); clear hc hp; go_wp2; rw [hnb]; exact ⟨_, _, _, _, _, _, _, _, _, _, rfl, by first | rfl | trivial⟩
     ·have hnb : nb n ≤ 4 := by
       simp only [Int.reducePow] at hp; omega
      have c1 : decide (n / 4294967296 > 0) = false := decide_eq_false (by omega); have c2 : decide (0 < n / 4294967296) = false := decide_eq_false (by omega); clear hc hp; go_wp2
      go_roundw
      case rel => exact ⟨4, by omega, by go_num, hnb, by first | rfl | trivial⟩
      case measure => simp [intOf]
    ·have hp := HP.out 5 (by decide)
     by_cases hc : 1099511627776 ≤ n
     ·have hnb : nb n = 6 := by
       simp only [Int.reducePow] at hp; omega
      have c1 : decide (n / 1099511627776 > 0) = true := decide_eq_true (by omega); have c2 : decide (0 < n / 1099511627776) = true := decide_eq_true (by omega); clear hc hp; go_wp2; rw [hnb]; exact ⟨_, _, _, _, _, _, _, _, _, _, rfl, by first | rfl | trivial⟩
     ·have hnb : nb n ≤ 5 := by
       simp only [Int.reducePow] at hp; omega
      have c1 : decide (n / 1099511627776 > 0) = false := decide_eq_false (by omega); have c2 : decide (0 < n / 1099511627776) = false := decide_eq_false (by omega); clear hc hp; go_wp2
      go_roundw
      case rel => exact ⟨5, by omega, by go_num, hnb, by first | rfl | trivial⟩
      case measure => simp [intOf]
    ·have hp := HP.out 6 (by decide)
     by_cases hc : 281474976710656 ≤ n
     ·have hnb : nb n = 7 := by
       simp only [Int.reducePow] at hp; omega
      have c1 : decide (n / 281474976710656 > 0) = true := decide_eq_true (by omega); have c2 : decide (0 < n / 281474976710656) = true := decide_eq_true (by omega); clear hc hp; go_wp2; rw [hnb]; exact ⟨_, _, _, _, _, _, _, _, _, _, rfl, by first | rfl | trivial⟩
     ·have hnb : nb n ≤ 6 := by
       simp only [Int.reducePow] at hp; omega
      have c1 : decide (n / 281474976710656 > 0) = false := decide_eq_false (by omega); have c2 : decide (0 < n / 281474976710656) = false := decide_eq_false (by omega); clear hc hp; go_wp2
      go_roundw
      case rel => exact ⟨6, by omega, by go_num, hnb, by first | rfl | trivial⟩
      case measure => simp [intOf]
    ·have hp := HP.out 7 (by decide)
     by_cases hc : 72057594037927936 ≤ n
     ·have hnb : nb n = 8 := by
       simp only [Int.reducePow] at hp; omega
      have c1 : decide (n / 72057594037927936 > 0) = true := decide_eq_true (by omega); have c2 : decide (0 < n / 72057594037927936) = true := decide_eq_true (by omega); clear hc hp; go_wp2; rw [hnb]; exact ⟨_, _, _, _, _, _, _, _, _, _, rfl, by first | rfl | trivial⟩
     ·have hnb : nb n ≤ 7 := by
       simp only [Int.reducePow] at hp; omega
      have c1 : decide (n / 72057594037927936 > 0) = false := decide_eq_false (by omega); have c2 : decide (0 < n / 72057594037927936) = false := decide_eq_false (by omega); clear hc hp; go_wp2
      go_roundw
      case rel => exact ⟨7, by omega, by go_num, hnb, by first | rfl | trivial⟩
      case measure => simp [intOf]
  ·rintro a' w' ⟨s14, s15, s16, s17, s18, s19, s20, s21, s22, s23, rfl, rfl⟩
   have h8 := nb_le n; have e1 : bits .xor .u8 (128 + (nb n : Int)) 0 = 128 + (nb n : Int) := (xor_byte (128 + (nb n : Int)) (by omega) (by omega)).2; obtain ⟨K, hK⟩ : ∃ K, K = nb n := ⟨_, rfl⟩; rw [← hK] at h8 e1 ⊢; have HK := Aside0.mk hK; have HE1 := Aside0.mk e1; clear hK e1
   go_wp2_with (first
    | ((with_reducible refine gate_dst (N := 29) rfl ?_); refine Kd.R_lit (Kd.int .u8) (w0 := w') w'.heap.size 5 ?hg (N := 29) ?hd (xs := ([bits .xor .u8 (128 + (K : Int)) 0] : List Int)) (inner := [.int .u8 (bits .xor .u8 (128 + (K : Int)) 0)]) (ok := fun _ => True) (okp := fun _ => True) ?hr ?hp (fun _ hk => hk) trivial (Below.refl _ _) (Nat.le_refl _) (by simp) ?_; (case hd => rfl); (case hg => rfl); (case hr => first | (go_simp; done) | (go_simp; rfl)); (case hp => exact Reps.one (show Kd.M (Kd.int .u8) _ _ _ (bits .xor .u8 (128 + (K : Int)) 0) [.int .u8 (bits .xor .u8 (128 + (K : Int)) 0)] from rfl) (Reps.none _ _)); intro v5 w5 ho5 hb5 hg5 hn5; clear hg5 hn5; rw [HE1.out] at ho5; have HO5 := Aside0.mk ho5; have HB5 := Aside0.mk hb5; clear ho5 hb5))
   go_loopw [6, 7] (fun u v wr => ∃ j : Nat, j ≤ K ∧ v = .int .i64 ((K : Int) - 1 - j) ∧ Aside0 (Below w'.heap.size w' wr) ∧ Aside0 (Kd.R (Kd.int .u8) 5 wr w'.heap.size (fun _ => True) u ((128 + (K : Int)) :: byt n K j))) (fun _ v _ => (intOf v + 1).toNat)
   case atStart => exact ⟨0, Nat.zero_le _, by go_num, HB5, ⟨HO5.out⟩⟩
   case round =>
    obtain ⟨j, hj, rfl, HB, HO⟩ := hrel
    by_cases hjK : j < K
    ·obtain ⟨q, hq⟩ : ∃ q, q = K - 1 - j := ⟨_, rfl⟩
     have hqi : (K : Int) - 1 - (j : Int) = (q : Int) := by omega
     rw [hqi]
     have hq8 : q < 8 := by omega
     have HQ := Aside0.mk hq; clear hqi hq
     have hx : bits .xor .u8 (n / 2 ^ (8 * q) % 256) 0 = flp n (mag n / 256 ^ (K - 1 - j) % 256) := by
      rw [(xor_byte (n / 2 ^ (8 * q) % 256) (by omega) (by omega)).2, ← HM.out, ← HQ.out, Int.pow_mul]; unfold flp; rw [if_neg (by omega)]; rfl
     have HX := Aside0.mk hx; have HLEN := Aside0.mk (show ((128 + (K : Int)) :: byt n K j).length = j + 1 by simp [byt]); clear hx
     go_wp2_with ((with_reducible refine gate_builtin (b := .append) (xs := #[.tmp 36, .tmp 44]) rfl ?_); at_builtin; refine Kd.R_append (Kd.int .u8) (w0 := w') w'.heap.size rfl (.tmp 36) (.tmp 44) 53 5 (.int .u8 0) 1 rfl Try.underlying53 info5 rfl (by decide) (by decide) u6 ((128 + (K : Int)) :: byt n K j) (bits .xor .u8 (n / 2 ^ (8 * q) % 256) 0) [.int .u8 (bits .xor .u8 (n / 2 ^ (8 * q) % 256) 0)] (fun _ => True) (fun _ => False) rfl rfl rfl (fun _ h => h.elim) (fun _ _ => trivial) HO.out HB.out HB.out.size ?hl ?_; (case hl => rw [HLEN.out]; omega); intro v7 w7 ho7 hb7 hg7 hat7; have HO7 := Aside0.mk ho7; have HB7 := Aside0.mk hb7; clear ho7 hb7 hg7 hat7)
     go_roundw
     case rel => exact ⟨j + 1, by omega, congrArg (Value.int .i64) (by have := HQ.out; omega), HB7, ⟨by rw [byt_succ, ← HX.out]; exact HO7.out⟩⟩
     case measure => have := HQ.out; simp [intOf] <;> omega
    ·have hje : j = K := by omega
     subst hje; go_wp2
     try rw [Exit.noGoto_ret]
     go_ret
     exact ⟨_, rfl, by
      have e : intR n = (128 + (j : Int)) :: byt n j j := by
       unfold intR; rw [← HM.out, ← HK.out]; unfold flp; rw [if_neg (by omega)]
      rw [e]
      exact HO.out, HB.out⟩
def wire_Int.f (a0 : Int) : Option (List Int) := if in64 a0 = true then some (intR a0) else none
theorem wire_Int.calls (a0 : Int) (r : List Int) (w : World) (h : wire_Int.f a0 = some r) :
  Calls Try.prog 47 #[.int .i64 a0] w fun e w' => ∃ v0_ : Value, e = .returned (v0_) ∧ Kd.R (Kd.int .u8) 5 w' w.heap.size (fun _ => True) v0_ r ∧ Below w.heap.size w w' := by
 unfold wire_Int.f at h
 split at h
 ·next hs =>
  obtain rfl := Option.some.inj h; exact int_any a0 hs w
 ·cases h
end Go.Proofs.Ytcgpemefmakjiaa.PX
namespace Go.Proofs.Ytcgpemefmakjiaa.PX
open Go.RowKit Go.Proofs.YtcgpemefmakjiaaW.PrintWords Go.Proofs.YtcgpemefmakjiaaW.PrintLast Go.Proofs.YtcgpemefmakjiaaW.PrintMore
attribute [local go_sem] max2_int min2_int max_two min_two max_three min_three max_four min_four   -- for this text's walks alone
set_option linter.unusedVariables false
set_option linter.unusedSimpArgs false
def wire_Ints.l0 : Nat → List Int → List Int → Int → Int → Option (List Int)
 | 0, _, _, _, _ => none
 | k + 1, x3, x9, x10, x11 => if x11 < x10 then (if 0 ≤ x11 then (if x11 < (x9.length : Int) then ((wire_Int.f (rd x9 x11)).bind fun t458 => (if x3.length + t458.length < 140737488355328 then (wire_Ints.l0 k (x3 ++ t458) x9 x10 (wrap64 (x11 + 1))) else (none))) else (none)) else (none)) else (some x3)
def wire_Ints.f (k : Nat) (l0 : List Int) : Option (List Int) := (wire_Int.f (l0.length : Int)).bind fun t454 => (wire_Ints.l0 k t454 l0 (l0.length : Int) 0)
set_option maxHeartbeats 8000000 in
set_option maxRecDepth 100000 in
theorem wire_Ints.calls (k : Nat) (A0 : Option Addr) (c0 : Nat) (l0 : List Int) (r : List Int) (w : World) (hr0 : Kd.C (Kd.int .i64) w A0 l0.length l0) (hc0 : l0.length ≤ c0) (h : wire_Ints.f k l0 = some r) :
  Calls Try.prog 49 #[.slice A0 l0.length c0] w fun e w' => ∃ v0_ : Value, e = .returned (v0_) ∧ Kd.R (Kd.int .u8) 5 w' w.heap.size (fun _ => True) v0_ r ∧ Below w.heap.size w w' := by
 have HR0 := Aside0.mk hr0; have HC0 := Aside0.mk hc0; clear hr0 hc0; have HB := Aside0.mk (Below.refl w.heap.size w); have H : ((wire_Int.f (l0.length : Int)).bind fun t454 => (wire_Ints.l0 k t454 l0 (l0.length : Int) 0)) = some r := h; clear h; replace H := Option.bind_eq_some_iff.mp H; obtain ⟨t454, A20, H⟩ := H; replace H : (wire_Ints.l0 k t454 l0 (l0.length : Int) 0) = some r := H; have A2 := Aside0.mk A20; clear A20; have H' := Aside0.mk H; clear H
 go_enter Try.func49, Try.ntmps49
 go_wp2_with (first | ((with_reducible refine gate_callee (f := 47) rfl ?_); refine goesL_ (some 8) rfl rfl Try.func47 (by kernel_rfl) rfl #[.int .i64 (l0.length : Int)] rfl (by (try simp only [List.map_toArray, List.map_cons, List.map_nil]); first | done | rfl | (simp only [List.length_drop, List.length_take]; rfl)) ?_; (with_reducible refine (wire_Int.calls (l0.length : Int) t454 _ A2.out).mono ?_); rintro e w3 ⟨v455, rfl, ho0, hb⟩; refine ⟨_, rfl, ?_⟩; have n0_ := Aside0.mk (Kd.R_lower ho0 (below_size (by repeat (first | (with_reducible first | exact HB.out | apply below_alloc | apply pw_below_drewN | apply below_drew1) | exact HB.out)))); have n1_ := Aside0.mk (below_step (by repeat (first | (with_reducible first | exact HB.out | apply below_alloc | apply pw_below_drewN | apply below_drew1) | exact HB.out)) hb); clear HB; have HO456 := n0_; have HB := n1_; clear n0_ n1_; (try clear hb); (try clear hb2); (try clear hk); (try clear hi); (try clear ho0)))
 go_loopg [3, 11] k (fun kq v3 v11 w' => ∃ (x3_1 : List Int) (x11_1 : Int), v11 = .int .i64 x11_1 ∧ Aside0 (wire_Ints.l0 kq x3_1 l0 (l0.length : Int) x11_1 = some r) ∧ Aside0 (kq ≤ k) ∧ Aside0 (Kd.R (Kd.int .u8) 5 w' w.heap.size (fun _ => True) v3 x3_1) ∧ Aside0 (Below w.heap.size w w'))
 case atStart => exact ⟨(t454), (0), (by first | rfl | (simp; done) | (simp [*]; done)), H', ⟨Nat.le_refl _⟩, ⟨by (with_reducible repeat (first | apply Kd.R_alloc | apply Kd.R_drewN | apply Kd.R_drew)); exact HO456.out⟩, ⟨by repeat (first | (with_reducible first | exact HB.out | apply below_alloc | apply pw_below_drewN | apply below_drew1) | exact HB.out)⟩⟩
 case round =>
  clear H'
  try clear p2
  obtain ⟨x3_1, x11_1, rfl, HA, HK1, HO_3, HB⟩ := hrel
  cases gk with
  | zero => exact absurd HA.out (by simp [wire_Ints.l0])
  | succ k1 =>
   have H := HA.out; clear HA; simp only [wire_Ints.l0] at H
   by_cases c4 : x11_1 < (l0.length : Int)
   ·rw [if_pos c4] at H
    have c4b0 : decide (x11_1 < (l0.length : Int)) = true := decide_eq_true c4; clear c4
    by_cases c5 : 0 ≤ x11_1
    ·rw [if_pos c5] at H
     have c5b0 : decide (0 ≤ x11_1) = true := decide_eq_true c5; clear c5
     by_cases c6 : x11_1 < (l0.length : Int)
     ·rw [if_pos c6] at H
      have c6b0 : decide (x11_1 < (l0.length : Int)) = true := decide_eq_true c6; clear c6; replace H := Option.bind_eq_some_iff.mp H; obtain ⟨t458, A70, H⟩ := H; replace H : (if x3_1.length + t458.length < 140737488355328 then (wire_Ints.l0 k1 (x3_1 ++ t458) l0 (l0.length : Int) (wrap64 (x11_1 + 1))) else (none)) = some r := H; have A7 := Aside0.mk A70; clear A70
      by_cases c8 : x3_1.length + t458.length < 140737488355328
      ·rw [if_pos c8] at H
       have LMc8 := Aside0.mk c8; clear c8; obtain ⟨y461, hy461⟩ : ∃ y_ : List Int, y_ = (x3_1 ++ t458) := ⟨_, rfl⟩
       replace H : (wire_Ints.l0 k1 y461 l0 (l0.length : Int) (wrap64 (x11_1 + 1))) = some r := by first | (rw [hy461]; with_reducible exact H) | (have H2_ := (Option.bind_some _ _).symm.trans H; rw [hy461]; with_reducible exact H2_) | (have H2_ := (Option.bind_some _ _).symm.trans H; with_reducible exact H2_) | with_reducible exact H | (rw [hy461]; exact H) | exact H
       have Ny461 := Aside0.mk hy461; clear hy461; have H' := Aside0.mk H; clear H; have p457 : 0 ≤ (x11_1 : Int) := of_decide_eq_true (by first | (with_reducible assumption) | assumption); have q457 : x11_1 < (l0.length : Int) := of_decide_eq_true (by first | (with_reducible assumption) | assumption); obtain ⟨ad457, e457, hx457_0⟩ := Kd.at_int HR0.out x11_1 p457 q457
       cases e457
       replace hx457_0 := (HB.out.cell (World.block_lt_of_cell? w _ hx457_0)).trans hx457_0; replace p457 := eq_true p457; replace q457 := eq_true q457
       go_wp2_with (first | ((with_reducible refine gate_callee (f := 47) rfl ?_); refine goesL_ (some 17) rfl rfl Try.func47 (by kernel_rfl) rfl #[.int .i64 (rd l0 x11_1)] rfl (by (try simp only [List.map_toArray, List.map_cons, List.map_nil]); first | done | rfl | (simp only [List.length_drop, List.length_take]; rfl)) ?_; (with_reducible refine (wire_Int.calls (rd l0 x11_1) t458 _ A7.out).mono ?_); rintro e w9 ⟨v459, rfl, ho0, hb⟩; refine ⟨_, rfl, ?_⟩; have n0_ := Aside0.mk (Kd.R_elder' (by (with_reducible repeat (first | apply Kd.R_alloc | apply Kd.R_drewN | apply Kd.R_drew)); exact HO_3.out) (Kd.R_base ho0) hb); have n1_ := Aside0.mk (Kd.R_lower (Kd.R_new' ho0 (Kd.R_lt (by (with_reducible repeat (first | apply Kd.R_alloc | apply Kd.R_drewN | apply Kd.R_drew)); exact HO_3.out))) (below_size (by repeat (first | (with_reducible first | exact HB.out | apply below_alloc | apply pw_below_drewN | apply below_drew1) | exact HB.out)))); have n2_ := Aside0.mk (below_step (by repeat (first | (with_reducible first | exact HB.out | apply below_alloc | apply pw_below_drewN | apply below_drew1) | exact HB.out)) hb); clear HO_3; clear HB; have HO_3 := n0_; have HO460 := n1_; have HB := n2_; clear n0_ n1_ n2_; (try clear hb); (try clear hb2); (try clear hk); (try clear hi); (try clear ho0); obtain ⟨Ao11, co11, eo11⟩ := Kd.R_slice HO460.out; subst eo11) | ((with_reducible refine gate_builtin (b := .append) (xs := #[.tmp 15, .tmp 17]) rfl ?_); at_builtin; refine Kd.R_append_rows (Kd.int .u8) (w0 := w) w.heap.size rfl (.tmp 15) (.tmp 17) 53 5 (.int .u8 0) 1 rfl Try.underlying53 info5 rfl (by decide) (by omega) u3 x3_1 t458 _ _ _ (fun k_ => some k_ ≠ (.slice Ao11 t458.length co11 : Value).ownBlock) (fun _ => False) rfl rfl ?aO ?aR (fun _ _ h => h) (fun _ h => h.elim) ?aF ?aB ?aS ?aL ?_; (case aR => repeat (first | exact (Kd.R_reads' HO460.out).2.2 | (with_reducible refine Kd.C_alloc ?_ _) | (with_reducible refine Kd.C_drewN ?_ _) | (with_reducible refine Kd.C_drew ?_))); (case aB => exact (by repeat (first | (with_reducible first | exact HB.out | apply below_alloc | apply pw_below_drewN | apply below_drew1) | exact HB.out))); (case aF => exact (fun k_ hk => Kd.fresh' (Kd.R_lt (by (with_reducible repeat (first | apply Kd.R_alloc | apply Kd.R_drewN | apply Kd.R_drew)); exact HO460.out)) k_ hk)); (case aO => exact (by (with_reducible repeat (first | apply Kd.R_alloc | apply Kd.R_drewN | apply Kd.R_drew)); exact Kd.R_mono HO_3.out (fun _ hk => hk.2))); (case aS => exact (below_size (by repeat (first | (with_reducible first | exact HB.out | apply below_alloc | apply pw_below_drewN | apply below_drew1) | exact HB.out)))); (case aL => have := LMc8.out; omega); intro v462 w10 ho hb hg hat; rw [← Ny461.out] at ho; have n0_ := Aside0.mk (Kd.R_after (ok := (fun _ => True)) (by (with_reducible repeat (first | apply Kd.R_alloc | apply Kd.R_drewN | apply Kd.R_drew)); exact HO460.out) hg hat); have n1_ := Aside0.mk (hb); have n2_ := Aside0.mk (ho); clear HO460; clear HB; clear HO_3; have HO460 := n0_; have HB := n1_; have HO463 := n2_; clear n0_ n1_ n2_; clear ho hb hg hat))
       go_roundg k1
       case measure => have := HK1.out; omega
       case rel => exact ⟨(y461), (wrap64 (x11_1 + 1)), (by first | rfl | (simp; done) | (simp [*]; done)), H', ⟨by have := HK1.out; omega⟩, ⟨by (with_reducible repeat (first | apply Kd.R_alloc | apply Kd.R_drewN | apply Kd.R_drew)); exact Kd.R_mono HO463.out (fun _ hk => trivial)⟩, ⟨by repeat (first | (with_reducible first | exact HB.out | apply below_alloc | apply pw_below_drewN | apply below_drew1) | exact HB.out)⟩⟩
      (· rw [if_neg c8] at H; exact absurd H (by simp))
     (· rw [if_neg c6] at H; exact absurd H (by simp))
    (· rw [if_neg c5] at H; exact absurd H (by simp))
   (· rw [if_neg c4] at H; have c4b0 : decide (x11_1 < (l0.length : Int)) = false := decide_eq_false c4; clear c4; obtain rfl := Option.some.inj H; go_wp2; go_ret; exact ⟨_, by first | rfl | (simp [errW_none, errW_some] <;> rfl) | (simp [*, errW_none, errW_some] <;> rfl), by (with_reducible repeat (first | apply Kd.R_alloc | apply Kd.R_drewN | apply Kd.R_drew)); exact HO_3.out, by repeat (first | (with_reducible first | exact HB.out | apply below_alloc | apply pw_below_drewN | apply below_drew1) | exact HB.out)⟩)
end Go.Proofs.Ytcgpemefmakjiaa.PX
namespace Go.Proofs.Ytcgpemefmakjiaa.PX
open Go.RowKit Go.Proofs.YtcgpemefmakjiaaW.PrintWords Go.Proofs.YtcgpemefmakjiaaW.PrintLast Go.Proofs.YtcgpemefmakjiaaW.PrintMore
set_option linter.unusedVariables false
set_option linter.unusedSimpArgs false
set_option maxHeartbeats 1000000 in
set_option maxRecDepth 100000 in
theorem grow_any (n : Nat) (hn : n ≤ 1000000000000) (w : World) :
  Calls Try.prog 70 #[.slice none 0 0, .int .i64 n] w fun e w' => ∃ v, e = .returned v ∧ Kd.R (Kd.int .u8) 5 w' w.heap.size (fun _ => True) v [] ∧ Below w.heap.size w w' := by
 go_enter Try.func70, Try.ntmps70
 by_cases h0 : n = 0
 (· subst h0; go_wp2; go_ret; exact ⟨_, rfl, Kd.R_nil _ _ _ _ _, Below.refl _ _⟩)
 ·have hp : 0 < n := by omega
  have hd : decide ((n : Int) < 0) = false := decide_eq_false (by omega); have hd2 : decide ((n : Int) > 0) = true := decide_eq_true (by omega); have hd3 : decide ((0 : Int) < (n : Int)) = true := decide_eq_true (by omega); obtain ⟨i5, hi5, hz5⟩ := Option.map_eq_some_iff.1 info5; simp only [Prod.mk.injEq] at hz5; obtain ⟨hz0, hz1, hz2⟩ := hz5; have HRUN := Aside0.mk (fun ty => Lib.run_append_nil_zeros (P := Try.prog) w 53 3 ty 5 i5 (.int .u8 0) .i64 .i64 Try.underlying53 Try.underlying3 hi5 hz0 n hp (by omega) (by omega) (by rw [hz2]; omega)); clear hz0 hz1 hz2 hi5
  go_wp2_with ((with_reducible refine gate_builtin (b := .append) (xs := #[.tmp 20, .tmp 21]) rfl ?_); at_builtin; refine Lib.wpList_append_run w rfl (.tmp 20) (.tmp 21) 53 3 rfl _ _ rfl rfl _ _ (HRUN.out _) ?_)
  have hge := grownCap_ge w n 0 5; have hcm : grownCap w n 0 5 ≤ maxLen := grownCap_le_maxLen w n 0 5 (by simp only [maxLen]; omega); clear HRUN; generalize grownCap w n 0 5 = cap at hge hcm; go_ret; refine ⟨_, rfl, ⟨fun _ _ => trivial, [], ⟨rfl, .inr ⟨w.heap.size, cap, _, rfl, Nat.le_refl _, heap_alloc_new w _, Nat.zero_le _, hcm, ?_, by simp⟩⟩, Reps.none _ _⟩, below_drew (below_alloc (Below.refl _ _) _)⟩; simp only [Array.size_append, size_zeroCells, List.size_toArray, List.length_cons, List.length_nil]
  show n * 1 + (cap - n) * 1 = cap * 1
  omega
def slices_Concat_byte.f (l0 : List (List Int)) : Option (List Int) := if l0.length ≤ 1000000 ∧ l0.flatten.length ≤ 1000000000000 then some l0.flatten else none
theorem flat_take (l : List (List Int)) (i : Nat) (h : i < l.length) : (l.take (i + 1)).flatten = (l.take i).flatten ++ rd_L1 l i := by
 rw [List.take_succ_eq_append_getElem h, List.flatten_append]
 simp [rd_L1, List.getD_eq_getElem?_getD, h]
theorem flat_le (l : List (List Int)) (i : Nat) : (l.take i).flatten.length ≤ l.flatten.length := by
 conv => rhs; rw [← List.take_append_drop i l, List.flatten_append, List.length_append]
 omega
theorem bytes_at {w : World} {A : Option Addr} {n : Nat} {xs : List (List Int)} (h : Kd.C (Kd.slice 5 (Kd.int .u8)) w A n xs) (i : Nat) (hi : i < n) :
  ∃ ad B d, A = some ad ∧ w.cell? (ad.add i) = some (.slice B (rd_L1 xs i).length d) ∧ (rd_L1 xs i).length ≤ d ∧ Kd.C (Kd.int .u8) w B (rd_L1 xs i).length (rd_L1 xs i) := by
 obtain ⟨ad, c, e, _, hK, hc0⟩ := Kd.C_get h ([] : List Int) (i : Int) (by omega) (by omega); obtain ⟨B, d, rfl, h1, h2⟩ := hK; refine ⟨ad, B, d, e, ?_, h1, h2⟩; have := hc0 0 _ rfl; simp only [Kd.slice, Nat.mul_one, Nat.add_zero, Int.toNat_natCast] at this; exact this
set_option maxHeartbeats 1000000 in
set_option maxRecDepth 100000 in
theorem slices_Concat_byte.calls (A0 : Option Addr) (c0 : Nat) (l0 : List (List Int)) (r : List Int) (w : World) (hr0 : Kd.C (Kd.slice 5 (Kd.int .u8)) w A0 l0.length l0) (hc0 : l0.length ≤ c0) (h : slices_Concat_byte.f l0 = some r) :
  Calls Try.prog 48 #[.slice A0 l0.length c0] w fun e w' => ∃ v0_ : Value, e = .returned (v0_) ∧ Kd.R (Kd.int .u8) 5 w' w.heap.size (fun _ => True) v0_ r ∧ Below w.heap.size w w' := by
 unfold slices_Concat_byte.f at h
 split at h
 case isFalse => cases h
 case isTrue hs =>
 obtain rfl := Option.some.inj h; obtain ⟨hl1, hl2⟩ := hs; have HR := Aside0.mk hr0; clear hr0 h
 go_enter Try.func48, Try.ntmps48
 go_wp2
 go_loopw [3, 11] (fun u v wr => ∃ i : Nat, i ≤ l0.length ∧ v = .int .i64 i ∧ u = .int .i64 ((l0.take i).flatten.length : Nat) ∧ w = wr) (fun _ v _ => l0.length - (intOf v).toNat)
 case atStart => exact ⟨0, Nat.zero_le _, rfl, rfl, rfl⟩
 case round =>
  obtain ⟨i, hi, rfl, rfl, rfl⟩ := hrel
  by_cases hlt : i < l0.length
  ·obtain ⟨ad, B, d, e, hx, hd, hk⟩ := bytes_at HR.out i hlt
   cases e
   have h1 := flat_take l0 i hlt; have h2 := flat_le l0 (i + 1); rw [h1, List.length_append] at h2; have h3 := congrArg List.length h1; rw [List.length_append] at h3; have H3 := Aside0.mk h3; clear h1 h3 hk; generalize (l0.take i).flatten.length = s at h2 H3; generalize (rd_L1 l0 (i : Int)).length = t at hx hd h2 H3; go_wp2
   go_roundw
   case rel => exact ⟨i + 1, by omega, by go_num, congrArg (Value.int .i64) (by have := H3.out; omega), by first | rfl | trivial⟩
   case measure => simp [intOf]; omega
  ·have hie : i = l0.length := by omega
   subst hie; rw [List.take_length]; have HL2 := Aside0.mk hl2; obtain ⟨S, hS⟩ : ∃ S, S = l0.flatten.length := ⟨_, rfl⟩; rw [← hS] at hl2 ⊢; clear hS
   go_wp2_with (go_at_call 70; with_reducible refine (grow_any S hl2 _).mono ?_; rintro e w1 ⟨v1, rfl, hr1, hb1⟩; have HR1 := Aside0.mk hr1; have HB1 := Aside0.mk hb1; clear hr1 hb1)
   go_loopw [6, 27] (fun u v wr => ∃ i : Nat, i ≤ l0.length ∧ v = .int .i64 i ∧ Aside0 (Below w.heap.size w wr) ∧ Aside0 (Kd.R (Kd.int .u8) 5 wr w.heap.size (fun _ => True) u (l0.take i).flatten)) (fun _ v _ => l0.length - (intOf v).toNat)
   case atStart => exact ⟨0, Nat.zero_le _, rfl, HB1, ⟨HR1.out⟩⟩
   case round =>
    obtain ⟨i, hi, rfl, HB, HO⟩ := hrel
    by_cases hlt2 : i < l0.length
    ·obtain ⟨ad, B, d, e, hx, hd, hk⟩ := bytes_at HR.out i hlt2
     cases e
     have h1 := flat_take l0 i hlt2; have h2 := flat_le l0 (i + 1); rw [h1, List.length_append] at h2; replace h2 := Nat.le_trans h2 HL2.out; have H1 := Aside0.mk h1; have H2 := Aside0.mk h2; have HK := Aside0.mk hk; replace hx := cell_below HB.out hx; clear h1 h2 hk; generalize (l0.take i).flatten = s at HO H1 H2; generalize rd_L1 l0 (i : Int) = t at hx hd HK H1 H2
     go_wp2_with ((with_reducible refine gate_builtin (b := .append) (xs := #[.tmp 31, .tmp 32]) rfl ?_); at_builtin; refine Kd.R_append_rows (Kd.int .u8) (w0 := w) w.heap.size rfl (.tmp 31) (.tmp 32) 53 5 (.int .u8 0) 1 rfl Try.underlying53 info5 rfl (by decide) (by decide) u6 s t B t.length d (fun _ => True) (fun _ => False) rfl rfl HO.out ?hc (fun _ _ h => h) (fun _ h => h.elim) (fun _ _ => trivial) HB.out HB.out.size ?hl ?_; (case hc => exact Kd.C_below HK.out HB.out); (case hl => have := H2.out; omega); intro v2 w2 ho2 hb2 hg2 hat2; clear hg2 hat2; have HO2 := Aside0.mk ho2; have HB2 := Aside0.mk hb2; clear ho2 hb2)
     go_roundw
     case rel => exact ⟨i + 1, by omega, by go_num, HB2, ⟨by rw [H1.out]; exact HO2.out⟩⟩
     case measure => simp [intOf]; omega
    ·have hie : i = l0.length := by omega
     subst hie; rw [List.take_length] at HO; go_wp2; go_ret; exact ⟨_, rfl, HO.out, HB.out⟩
end Go.Proofs.Ytcgpemefmakjiaa.PX
namespace Go.Proofs.Ytcgpemefmakjiaa.PX
open Go.RowKit Go.Proofs.YtcgpemefmakjiaaW.PrintWords Go.Proofs.YtcgpemefmakjiaaW.PrintLast Go.Proofs.YtcgpemefmakjiaaW.PrintMore
attribute [local go_sem] max2_int min2_int max_two min_two max_three min_three max_four min_four   -- for this text's walks alone
set_option linter.unusedVariables false
set_option linter.unusedSimpArgs false
def diff_Encode.l0 : Nat → List Int → List (S61) → Int → Int → Option (List Int)
 | 0, _, _, _, _ => none
 | k + 1, x3, x9, x10, x11 => if x11 < x10 then (if 0 ≤ x11 then (if x11 < (x9.length : Int) then ((wire_Ints.f k (([(rd_T61 x9 x11).f0, (rd_T61 x9 x11).f1, (rd_T61 x9 x11).f2, (rd_T61 x9 x11).f3, (rd_T61 x9 x11).f4] : List Int))).bind fun t472 => ((wire_Ints.f k ((rd_T61 x9 x11).f5)).bind fun t475 => ((slices_Concat_byte.f (([x3, t472, t475] : List (List Int)))).bind fun t481 => (diff_Encode.l0 k t481 x9 x10 (wrap64 (x11 + 1)))))) else (none)) else (none)) else (some x3)
def diff_Encode.f (k : Nat) (l0 : List (S61)) : Option (List Int) := (wire_Int.f (l0.length : Int)).bind fun t464 => (diff_Encode.l0 k t464 l0 (l0.length : Int) 0)
def diff_Encode.T5 : Bool × List (List Nat × List Nat) := (true, [([], []), ([], []), ([1], [1]), ([], []), ([3], [3]), ([], []), ([5], [5]), ([], []), ([7], [7]), ([], []), ([9], [9]), ([2, 4, 6, 8, 10], [2, 4, 6, 8, 10]), ([11], [11]), ([], []), ([13], [13]), ([14, 12], [14]), ([0, 12, 15], [0, 12, 15]), ([16, 15], [16]), ([17, 17, 0, 1, 2, 3, 4, 5, 6, 7, 8, 9, 10, 11, 12, 13, 14, 15, 16, 17], [0, 17])])
def diff_Encode.B5 : List Nat := [0, 0, 2, 0, 8, 0, 32, 0, 128, 0, 512, 2046, 4094, 0, 8192, 32766, 65535, 131071, 262143]
theorem diff_Encode.tab5 : rtab .any (opsOf Try.f27 5) = diff_Encode.T5 := by kernel_rfl
theorem diff_Encode.bits5 : waitsOk diff_Encode.T5.2 diff_Encode.B5 = true := by kernel_rfl
set_option maxHeartbeats 8000000 in
set_option maxRecDepth 100000 in
theorem diff_Encode.calls (k : Nat) (A0 : Option Addr) (c0 : Nat) (l0 : List (S61)) (r : List Int) (w : World) (hr0 : Kd.C k61 w A0 l0.length l0) (hc0 : l0.length ≤ c0) (h : diff_Encode.f k l0 = some r) :
  Calls Try.prog 27 #[.slice A0 l0.length c0] w fun e w' => ∃ v0_ : Value, e = .returned (v0_) ∧ Kd.R (Kd.int .u8) 5 w' w.heap.size (fun _ => True) v0_ r ∧ Below w.heap.size w w' := by
 have hu61 := Try.underlying61; have HR0 := Aside0.mk hr0; have HC0 := Aside0.mk hc0; clear hr0 hc0; have HB := Aside0.mk (Below.refl w.heap.size w); have H : ((wire_Int.f (l0.length : Int)).bind fun t464 => (diff_Encode.l0 k t464 l0 (l0.length : Int) 0)) = some r := h; clear h; replace H := Option.bind_eq_some_iff.mp H; obtain ⟨t464, A20, H⟩ := H; replace H : (diff_Encode.l0 k t464 l0 (l0.length : Int) 0) = some r := H; have A2 := Aside0.mk A20; clear A20; have H' := Aside0.mk H; clear H
 go_enter Try.func27, Try.ntmps27
 go_wp2_with (first | ((with_reducible refine gate_callee (f := 47) rfl ?_); refine goesL_ (some 8) rfl rfl Try.func47 (by kernel_rfl) rfl #[.int .i64 (l0.length : Int)] rfl (by (try simp only [List.map_toArray, List.map_cons, List.map_nil]); first | done | rfl | (simp only [List.length_drop, List.length_take]; rfl)) ?_; (with_reducible refine (wire_Int.calls (l0.length : Int) t464 _ A2.out).mono ?_); rintro e w3 ⟨v465, rfl, ho0, hb⟩; refine ⟨_, rfl, ?_⟩; have n0_ := Aside0.mk (Kd.R_lower ho0 (below_size (by repeat (first | (with_reducible first | exact HB.out | apply below_alloc | apply pw_below_drewN | apply below_drew1) | exact HB.out)))); have n1_ := Aside0.mk (below_step (by repeat (first | (with_reducible first | exact HB.out | apply below_alloc | apply pw_below_drewN | apply below_drew1) | exact HB.out)) hb); clear HB; have HO466 := n0_; have HB := n1_; clear n0_ n1_; (try clear hb); (try clear hb2); (try clear hk); (try clear hi); (try clear ho0)))
 go_loopg [3, 11] k (fun kq v3 v11 w' => ∃ (x3_1 : List Int) (x11_1 : Int), v11 = .int .i64 x11_1 ∧ Aside0 (diff_Encode.l0 kq x3_1 l0 (l0.length : Int) x11_1 = some r) ∧ Aside0 (kq ≤ k) ∧ Aside0 (Kd.R (Kd.int .u8) 5 w' w.heap.size (fun _ => True) v3 x3_1) ∧ Aside0 (Below w.heap.size w w'))
 case atStart => exact ⟨(t464), (0), (by first | rfl | (simp; done) | (simp [*]; done)), H', ⟨Nat.le_refl _⟩, ⟨by (with_reducible repeat (first | apply Kd.R_alloc | apply Kd.R_drewN | apply Kd.R_drew)); exact HO466.out⟩, ⟨by repeat (first | (with_reducible first | exact HB.out | apply below_alloc | apply pw_below_drewN | apply below_drew1) | exact HB.out)⟩⟩
 case round =>
  clear H'
  try clear c2
  try clear p2
  obtain ⟨x3_1, x11_1, rfl, HA, HK1, HO_3, HB⟩ := hrel
  cases gk with
  | zero => exact absurd HA.out (by simp [diff_Encode.l0])
  | succ k1 =>
   have H := HA.out; clear HA; simp only [diff_Encode.l0] at H
   by_cases c4 : x11_1 < (l0.length : Int)
   ·rw [if_pos c4] at H
    have c4b0 : decide (x11_1 < (l0.length : Int)) = true := decide_eq_true c4; clear c4
    by_cases c5 : 0 ≤ x11_1
    ·rw [if_pos c5] at H
     have c5b0 : decide (0 ≤ x11_1) = true := decide_eq_true c5; clear c5
     by_cases c6 : x11_1 < (l0.length : Int)
     ·rw [if_pos c6] at H
      have c6b0 : decide (x11_1 < (l0.length : Int)) = true := decide_eq_true c6; clear c6; obtain ⟨y469, hy469⟩ : ∃ y_ : List Int, y_ = (([(rd_T61 l0 x11_1).f0, (rd_T61 l0 x11_1).f1, (rd_T61 l0 x11_1).f2, (rd_T61 l0 x11_1).f3, (rd_T61 l0 x11_1).f4] : List Int)) := ⟨_, rfl⟩
      replace H : ((wire_Ints.f k1 y469).bind fun t472 => ((wire_Ints.f k1 ((rd_T61 l0 x11_1).f5)).bind fun t475 => ((slices_Concat_byte.f (([x3_1, t472, t475] : List (List Int)))).bind fun t481 => (diff_Encode.l0 k1 t481 l0 (l0.length : Int) (wrap64 (x11_1 + 1)))))) = some r := by first | (rw [hy469]; with_reducible exact H) | (have H2_ := (Option.bind_some _ _).symm.trans H; rw [hy469]; with_reducible exact H2_) | (have H2_ := (Option.bind_some _ _).symm.trans H; with_reducible exact H2_) | with_reducible exact H | (rw [hy469]; exact H) | exact H
      have Ny469 := Aside0.mk hy469; clear hy469; replace H := Option.bind_eq_some_iff.mp H; obtain ⟨t472, A70, H⟩ := H; replace H : ((wire_Ints.f k1 ((rd_T61 l0 x11_1).f5)).bind fun t475 => ((slices_Concat_byte.f (([x3_1, t472, t475] : List (List Int)))).bind fun t481 => (diff_Encode.l0 k1 t481 l0 (l0.length : Int) (wrap64 (x11_1 + 1))))) = some r := H; have A7 := Aside0.mk A70; clear A70; replace H := Option.bind_eq_some_iff.mp H; obtain ⟨t475, A80, H⟩ := H; replace H : ((slices_Concat_byte.f (([x3_1, t472, t475] : List (List Int)))).bind fun t481 => (diff_Encode.l0 k1 t481 l0 (l0.length : Int) (wrap64 (x11_1 + 1)))) = some r := H; have A8 := Aside0.mk A80; clear A80; obtain ⟨y478, hy478⟩ : ∃ y_ : List (List Int), y_ = (([x3_1, t472, t475] : List (List Int))) := ⟨_, rfl⟩
      replace H : ((slices_Concat_byte.f y478).bind fun t481 => (diff_Encode.l0 k1 t481 l0 (l0.length : Int) (wrap64 (x11_1 + 1)))) = some r := by first | (rw [hy478]; with_reducible exact H) | (have H2_ := (Option.bind_some _ _).symm.trans H; rw [hy478]; with_reducible exact H2_) | (have H2_ := (Option.bind_some _ _).symm.trans H; with_reducible exact H2_) | with_reducible exact H | (rw [hy478]; exact H) | exact H
      have Ny478 := Aside0.mk hy478; clear hy478; replace H := Option.bind_eq_some_iff.mp H; obtain ⟨t481, A90, H⟩ := H; replace H : (diff_Encode.l0 k1 t481 l0 (l0.length : Int) (wrap64 (x11_1 + 1))) = some r := H; have A9 := Aside0.mk A90; clear A90; have H' := Aside0.mk H; clear H; have p467 : 0 ≤ (x11_1 : Int) := of_decide_eq_true (by first | (with_reducible assumption) | assumption); have q467 : x11_1 < (l0.length : Int) := of_decide_eq_true (by first | (with_reducible assumption) | assumption); obtain ⟨ad467, A467_5, c467_5, e467, hx467_0, hx467_1, hx467_2, hx467_3, hx467_4, hx467_5, hl467_5, hi467_5⟩ := at_T61 HR0.out x11_1 p467 q467
      cases e467
      replace hx467_0 := (HB.out.cell (World.block_lt_of_cell? w _ hx467_0)).trans hx467_0; replace hx467_1 := (HB.out.cell (World.block_lt_of_cell? w _ hx467_1)).trans hx467_1; replace hx467_2 := (HB.out.cell (World.block_lt_of_cell? w _ hx467_2)).trans hx467_2; replace hx467_3 := (HB.out.cell (World.block_lt_of_cell? w _ hx467_3)).trans hx467_3; replace hx467_4 := (HB.out.cell (World.block_lt_of_cell? w _ hx467_4)).trans hx467_4; replace hx467_5 := (HB.out.cell (World.block_lt_of_cell? w _ hx467_5)).trans hx467_5; have HR467_5 := Aside0.mk hi467_5; have HC467_5 := Aside0.mk hl467_5; clear hi467_5 hl467_5; replace p467 := eq_true p467; replace q467 := eq_true q467
      try go_wp2_with (first | ((with_reducible refine gate_dst (N := 5) rfl ?_); refine box_event ?hg (N := 5) ?hd (cs := #[.int .i64 0, .int .i64 0, .int .i64 0, .int .i64 0, .int .i64 0, .slice none 0 0]) (t := 61) ?hr ?_; (case hd => rfl); (case hg => rfl); (case hr => first | (go_simp; done) | (go_simp; rfl)); intro gb468 hg w10 hbox hb; have n0_ := Aside0.mk (Kd.R_below (by (with_reducible repeat (first | apply Kd.R_alloc | apply Kd.R_drewN | apply Kd.R_drew)); exact HO_3.out) hb); have n1_ := Aside0.mk (below_step (by repeat (first | (with_reducible first | exact HB.out | apply below_alloc | apply pw_below_drewN | apply below_drew1) | exact HB.out)) hb); have n2_ := Aside0.mk (hbox); have n3_ := Aside0.mk ((by rw [hg]; exact (below_size (by repeat (first | (with_reducible first | exact HB.out | apply below_alloc | apply pw_below_drewN | apply below_drew1) | exact HB.out))) : w.heap.size ≤ gb468)); have n4_ := Aside0.mk ((by rw [hg]; exact (below_size (by repeat (first | (with_reducible first | exact HB.out | apply below_alloc | apply pw_below_drewN | apply below_drew1) | exact HB.out))) : w.heap.size ≤ gb468)); clear HO_3; clear HB; have HO_3 := n0_; have HB := n1_; have BK468 := n2_; have GW468 := n3_; have GE468 := n4_; clear n0_ n1_ n2_ n3_ n4_; clear hb hbox hg; have hcz11_0 : w10.cell? ⟨gb468, 0, none⟩ = some (.int .i64 0) := (blk_cell BK468.out 0).trans rfl; have hcz11_1 : w10.cell? ⟨gb468, 1, none⟩ = some (.int .i64 0) := (blk_cell BK468.out 1).trans rfl; have hcz11_2 : w10.cell? ⟨gb468, 2, none⟩ = some (.int .i64 0) := (blk_cell BK468.out 2).trans rfl; have hcz11_3 : w10.cell? ⟨gb468, 3, none⟩ = some (.int .i64 0) := (blk_cell BK468.out 3).trans rfl; have hcz11_4 : w10.cell? ⟨gb468, 4, none⟩ = some (.int .i64 0) := (blk_cell BK468.out 4).trans rfl; have hcz11_5 : w10.cell? ⟨gb468, 5, none⟩ = some (.slice none 0 0) := (blk_cell BK468.out 5).trans rfl; have hfz11_0 := blk_frozen BK468.out 0; have hfz11_1 := blk_frozen BK468.out 1; have hfz11_2 := blk_frozen BK468.out 2; have hfz11_3 := blk_frozen BK468.out 3; have hfz11_4 := blk_frozen BK468.out 4; have hfz11_5 := blk_frozen BK468.out 5))
      have n0_ : Aside0 (Kd.R (Kd.int .u8) 5 ((((((w10.setCell ⟨gb468, 0, none⟩ (.int .i64 ((rd_T61 l0 x11_1).f0))).setCell ⟨gb468, 1, none⟩ (.int .i64 ((rd_T61 l0 x11_1).f1))).setCell ⟨gb468, 2, none⟩ (.int .i64 ((rd_T61 l0 x11_1).f2))).setCell ⟨gb468, 3, none⟩ (.int .i64 ((rd_T61 l0 x11_1).f3))).setCell ⟨gb468, 4, none⟩ (.int .i64 ((rd_T61 l0 x11_1).f4))).setCell ⟨gb468, 5, none⟩ (.slice A467_5 ((rd_T61 l0 x11_1).f5).length c467_5)) w.heap.size (fun _ => True) u3 x3_1) := ⟨by (with_reducible repeat (first | apply Kd.R_alloc | apply Kd.R_drewN | apply Kd.R_drew)); exact Kd.R_mono (Kd.R_far (p := ⟨gb468, 5, none⟩) (Kd.R_far (p := ⟨gb468, 4, none⟩) (Kd.R_far (p := ⟨gb468, 3, none⟩) (Kd.R_far (p := ⟨gb468, 2, none⟩) (Kd.R_far (p := ⟨gb468, 1, none⟩) (Kd.R_far (p := ⟨gb468, 0, none⟩) (Kd.R_types HO_3.out BK468.out (by decide)) (fun _ hk => hk.2) (.int .i64 ((rd_T61 l0 x11_1).f0))) (fun _ hk => hk.2) (.int .i64 ((rd_T61 l0 x11_1).f1))) (fun _ hk => hk.2) (.int .i64 ((rd_T61 l0 x11_1).f2))) (fun _ hk => hk.2) (.int .i64 ((rd_T61 l0 x11_1).f3))) (fun _ hk => hk.2) (.int .i64 ((rd_T61 l0 x11_1).f4))) (fun _ hk => hk.2) (.slice A467_5 ((rd_T61 l0 x11_1).f5).length c467_5)) (fun _ hk => trivial)⟩; have n1_ : Aside0 (((((((w10.setCell ⟨gb468, 0, none⟩ (.int .i64 ((rd_T61 l0 x11_1).f0))).setCell ⟨gb468, 1, none⟩ (.int .i64 ((rd_T61 l0 x11_1).f1))).setCell ⟨gb468, 2, none⟩ (.int .i64 ((rd_T61 l0 x11_1).f2))).setCell ⟨gb468, 3, none⟩ (.int .i64 ((rd_T61 l0 x11_1).f3))).setCell ⟨gb468, 4, none⟩ (.int .i64 ((rd_T61 l0 x11_1).f4))).setCell ⟨gb468, 5, none⟩ (.slice A467_5 ((rd_T61 l0 x11_1).f5).length c467_5)).heap[gb468]? = some (.cells #[.int .i64 ((rd_T61 l0 x11_1).f0), .int .i64 ((rd_T61 l0 x11_1).f1), .int .i64 ((rd_T61 l0 x11_1).f2), .int .i64 ((rd_T61 l0 x11_1).f3), .int .i64 ((rd_T61 l0 x11_1).f4), .slice A467_5 ((rd_T61 l0 x11_1).f5).length c467_5] 61 (0, 0))) := ⟨by (with_reducible repeat (first | refine blk_drewN ?_ _ | refine blk_drew ?_ | refine blk_alloc ?_ _)); refine blk_put (cs := #[.int .i64 ((rd_T61 l0 x11_1).f0), .int .i64 ((rd_T61 l0 x11_1).f1), .int .i64 ((rd_T61 l0 x11_1).f2), .int .i64 ((rd_T61 l0 x11_1).f3), .int .i64 ((rd_T61 l0 x11_1).f4), .slice none 0 0]) ?_ 5 _ rfl; (with_reducible repeat (first | refine blk_drewN ?_ _ | refine blk_drew ?_ | refine blk_alloc ?_ _)); refine blk_put (cs := #[.int .i64 ((rd_T61 l0 x11_1).f0), .int .i64 ((rd_T61 l0 x11_1).f1), .int .i64 ((rd_T61 l0 x11_1).f2), .int .i64 ((rd_T61 l0 x11_1).f3), .int .i64 0, .slice none 0 0]) ?_ 4 _ rfl; (with_reducible repeat (first | refine blk_drewN ?_ _ | refine blk_drew ?_ | refine blk_alloc ?_ _)); refine blk_put (cs := #[.int .i64 ((rd_T61 l0 x11_1).f0), .int .i64 ((rd_T61 l0 x11_1).f1), .int .i64 ((rd_T61 l0 x11_1).f2), .int .i64 0, .int .i64 0, .slice none 0 0]) ?_ 3 _ rfl; (with_reducible repeat (first | refine blk_drewN ?_ _ | refine blk_drew ?_ | refine blk_alloc ?_ _)); refine blk_put (cs := #[.int .i64 ((rd_T61 l0 x11_1).f0), .int .i64 ((rd_T61 l0 x11_1).f1), .int .i64 0, .int .i64 0, .int .i64 0, .slice none 0 0]) ?_ 2 _ rfl; (with_reducible repeat (first | refine blk_drewN ?_ _ | refine blk_drew ?_ | refine blk_alloc ?_ _)); refine blk_put (cs := #[.int .i64 ((rd_T61 l0 x11_1).f0), .int .i64 0, .int .i64 0, .int .i64 0, .int .i64 0, .slice none 0 0]) ?_ 1 _ rfl; (with_reducible repeat (first | refine blk_drewN ?_ _ | refine blk_drew ?_ | refine blk_alloc ?_ _)); refine blk_put (cs := #[.int .i64 0, .int .i64 0, .int .i64 0, .int .i64 0, .int .i64 0, .slice none 0 0]) ?_ 0 _ rfl; (with_reducible repeat (first | refine blk_drewN ?_ _ | refine blk_drew ?_ | refine blk_alloc ?_ _)); exact BK468.out⟩
      have n2_ : Aside0 (Below w.heap.size w ((((((w10.setCell ⟨gb468, 0, none⟩ (.int .i64 ((rd_T61 l0 x11_1).f0))).setCell ⟨gb468, 1, none⟩ (.int .i64 ((rd_T61 l0 x11_1).f1))).setCell ⟨gb468, 2, none⟩ (.int .i64 ((rd_T61 l0 x11_1).f2))).setCell ⟨gb468, 3, none⟩ (.int .i64 ((rd_T61 l0 x11_1).f3))).setCell ⟨gb468, 4, none⟩ (.int .i64 ((rd_T61 l0 x11_1).f4))).setCell ⟨gb468, 5, none⟩ (.slice A467_5 ((rd_T61 l0 x11_1).f5).length c467_5))) := ⟨by repeat (first | (with_reducible first | exact HB.out | apply below_alloc | apply pw_below_drewN | apply below_drew1 | refine below_set ?_ GE468.out) | exact HB.out)⟩
      (try clear HO_3)
      (try clear BK468)
      (try clear HB)
      generalize ((((((w10.setCell ⟨gb468, 0, none⟩ (.int .i64 ((rd_T61 l0 x11_1).f0))).setCell ⟨gb468, 1, none⟩ (.int .i64 ((rd_T61 l0 x11_1).f1))).setCell ⟨gb468, 2, none⟩ (.int .i64 ((rd_T61 l0 x11_1).f2))).setCell ⟨gb468, 3, none⟩ (.int .i64 ((rd_T61 l0 x11_1).f3))).setCell ⟨gb468, 4, none⟩ (.int .i64 ((rd_T61 l0 x11_1).f4))).setCell ⟨gb468, 5, none⟩ (.slice A467_5 ((rd_T61 l0 x11_1).f5).length c467_5)) = w12 at n0_ n1_ n2_ ⊢; have HO_3 := n0_; have BK468 := n1_; have HB := n2_; clear n0_ n1_ n2_; have n0_ := Aside0.mk (Kd.R_drew HO_3.out); have n1_ := Aside0.mk (blk_drew BK468.out); have n2_ := Aside0.mk (below_drew1 HB.out); clear HO_3; clear BK468; clear HB; have HO_3 := n0_; have BK468 := n1_; have HB := n2_; clear n0_ n1_ n2_; refine start_ (n := 19) (S := fun w' => w'.cell? ⟨gb468, 0, none⟩ = some (.int .i64 ((rd_T61 l0 x11_1).f0)) ∧ w'.cell? ⟨gb468, 1, none⟩ = some (.int .i64 ((rd_T61 l0 x11_1).f1)) ∧ w'.cell? ⟨gb468, 2, none⟩ = some (.int .i64 ((rd_T61 l0 x11_1).f2)) ∧ w'.cell? ⟨gb468, 3, none⟩ = some (.int .i64 ((rd_T61 l0 x11_1).f3)) ∧ w'.cell? ⟨gb468, 4, none⟩ = some (.int .i64 ((rd_T61 l0 x11_1).f4)) ∧ w'.cell? ⟨gb468, 5, none⟩ = some (.slice A467_5 ((rd_T61 l0 x11_1).f5).length c467_5)) (ds := []) #[O,O,O,O,O,O,O,O,O,O,O,O,O,O,O,O,O,O,O] (by kernel_rfl) rfl rfl ⟨(blk_cell BK468.out 0).trans rfl, (blk_cell BK468.out 1).trans rfl, (blk_cell BK468.out 2).trans rfl, (blk_cell BK468.out 3).trans rfl, (blk_cell BK468.out 4).trans rfl, (blk_cell BK468.out 5).trans rfl⟩ (fun hHeld => ?_); refine with_tabW diff_Encode.tab5 diff_Encode.bits5 (fun HT_ HW_ => ?_); generalize w12.drew = w13 at HO_3 BK468 HB hHeld ⊢; refine pure_ (i := 0) (N := some 15) (v := ?_) (a' := ?_) #[I,O,O,O,O,O,O,O,O,O,O,O,O,O,O,O,O,O,O] rfl rfl (any_of HT_.out (by kernel_rfl)) (fun _ _ _ h => h) (Or.inl ⟨by rfl, ?_⟩) ?_ ?_; rotate_left; (· intro w'; go_simp; with_reducible rfl); rotate_left; (· simp only [Act.put, sA_, sB_, sC_, i64_w, i32_w]; rfl); refine pure_ (i := 1) (N := some 16) (v := ?_) (a' := ?_) #[I,I,O,O,O,O,O,O,O,O,O,O,O,O,O,O,O,O,O] rfl rfl (any_of HT_.out (by kernel_rfl)) (fun _ _ _ h => h) (Or.inl ⟨by rfl, ?_⟩) ?_ ?_; rotate_left; (· intro w'; go_simp; with_reducible rfl); rotate_left; (· simp only [Act.put, sA_, sB_, sC_, i64_w, i32_w]; rfl); refine pure_ (i := 3) (N := some 18) (v := ?_) (a' := ?_) #[I,I,O,I,O,O,O,O,O,O,O,O,O,O,O,O,O,O,O] rfl rfl (any_of HT_.out (by kernel_rfl)) (fun _ _ _ h => h) (Or.inl ⟨by rfl, ?_⟩) ?_ ?_; rotate_left; (· intro w'; go_simp; with_reducible rfl); rotate_left; (· simp only [Act.put, sA_, sB_, sC_, i64_w, i32_w]; rfl)
      refine pure_ (i := 5) (N := some 20) (v := ?_) (a' := ?_) #[I,I,O,I,O,I,O,O,O,O,O,O,O,O,O,O,O,O,O] rfl rfl (any_of HT_.out (by kernel_rfl)) (fun _ _ _ h => h) (Or.inl ⟨by rfl, ?_⟩) ?_ ?_; rotate_left; (· intro w'; go_simp; with_reducible rfl); rotate_left; (· simp only [Act.put, sA_, sB_, sC_, i64_w, i32_w]; rfl); refine pure_ (i := 7) (N := some 22) (v := ?_) (a' := ?_) #[I,I,O,I,O,I,O,I,O,O,O,O,O,O,O,O,O,O,O] rfl rfl (any_of HT_.out (by kernel_rfl)) (fun _ _ _ h => h) (Or.inl ⟨by rfl, ?_⟩) ?_ ?_; rotate_left; (· intro w'; go_simp; with_reducible rfl); rotate_left; (· simp only [Act.put, sA_, sB_, sC_, i64_w, i32_w]; rfl); refine pure_ (i := 9) (N := some 24) (v := ?_) (a' := ?_) #[I,I,O,I,O,I,O,I,O,I,O,O,O,O,O,O,O,O,O] rfl rfl (any_of HT_.out (by kernel_rfl)) (fun _ _ _ h => h) (Or.inl ⟨by rfl, ?_⟩) ?_ ?_; rotate_left; (· intro w'; go_simp; with_reducible rfl); rotate_left; (· simp only [Act.put, sA_, sB_, sC_, i64_w, i32_w]; rfl); refine pure_ (i := 13) (N := some 28) (v := ?_) (a' := ?_) #[I,I,O,I,O,I,O,I,O,I,O,O,O,I,O,O,O,O,O] rfl rfl (any_of HT_.out (by kernel_rfl)) (fun _ _ _ h => h) (Or.inl ⟨by rfl, ?_⟩) ?_ ?_; rotate_left; (· intro w'; go_simp; with_reducible rfl); rotate_left; (· simp only [Act.put, sA_, sB_, sC_, i64_w, i32_w]; rfl); refine take_ (i := 2) (N := some 17) (v := ?_) (a' := ?_) #[I,I,I,I,O,I,O,I,O,I,O,O,O,I,O,O,O,O,O] rfl rfl (take_ofW HT_.out HW_.out (by kernel_rfl)) (fun _ _ _ h => h) (Or.inl ⟨by rfl, ?_⟩) hHeld ?_ ?_; rotate_left; (· rintro w' ⟨s0, s1, s2, s3, s4, s5⟩; go_simp; with_reducible rfl); rotate_left; (· simp only [Act.put, sA_, sB_, sC_, i64_w, i32_w]; rfl); refine take_ (i := 4) (N := some 19) (v := ?_) (a' := ?_) #[I,I,I,I,I,I,O,I,O,I,O,O,O,I,O,O,O,O,O] rfl rfl (take_ofW HT_.out HW_.out (by kernel_rfl)) (fun _ _ _ h => h) (Or.inl ⟨by rfl, ?_⟩) hHeld ?_ ?_; rotate_left; (· rintro w' ⟨s0, s1, s2, s3, s4, s5⟩; go_simp; with_reducible rfl); rotate_left; (· simp only [Act.put, sA_, sB_, sC_, i64_w, i32_w]; rfl); refine take_ (i := 6) (N := some 21) (v := ?_) (a' := ?_) #[I,I,I,I,I,I,I,I,O,I,O,O,O,I,O,O,O,O,O] rfl rfl (take_ofW HT_.out HW_.out (by kernel_rfl)) (fun _ _ _ h => h) (Or.inl ⟨by rfl, ?_⟩) hHeld ?_ ?_
      rotate_left; (· rintro w' ⟨s0, s1, s2, s3, s4, s5⟩; go_simp; with_reducible rfl); rotate_left; (· simp only [Act.put, sA_, sB_, sC_, i64_w, i32_w]; rfl); refine take_ (i := 8) (N := some 23) (v := ?_) (a' := ?_) #[I,I,I,I,I,I,I,I,I,I,O,O,O,I,O,O,O,O,O] rfl rfl (take_ofW HT_.out HW_.out (by kernel_rfl)) (fun _ _ _ h => h) (Or.inl ⟨by rfl, ?_⟩) hHeld ?_ ?_; rotate_left; (· rintro w' ⟨s0, s1, s2, s3, s4, s5⟩; go_simp; with_reducible rfl); rotate_left; (· simp only [Act.put, sA_, sB_, sC_, i64_w, i32_w]; rfl); refine take_ (i := 10) (N := some 25) (v := ?_) (a' := ?_) #[I,I,I,I,I,I,I,I,I,I,I,O,O,I,O,O,O,O,O] rfl rfl (take_ofW HT_.out HW_.out (by kernel_rfl)) (fun _ _ _ h => h) (Or.inl ⟨by rfl, ?_⟩) hHeld ?_ ?_; rotate_left; (· rintro w' ⟨s0, s1, s2, s3, s4, s5⟩; go_simp; with_reducible rfl); rotate_left; (· simp only [Act.put, sA_, sB_, sC_, i64_w, i32_w]; rfl); refine take_ (i := 14) (N := some 29) (v := ?_) (a' := ?_) #[I,I,I,I,I,I,I,I,I,I,I,O,O,I,I,O,O,O,O] rfl rfl (take_ofW HT_.out HW_.out (by kernel_rfl)) (fun _ _ _ h => h) (Or.inl ⟨by rfl, ?_⟩) hHeld ?_ ?_; rotate_left; (· rintro w' ⟨s0, s1, s2, s3, s4, s5⟩; go_simp; with_reducible rfl); rotate_left; (· simp only [Act.put, sA_, sB_, sC_, i64_w, i32_w]; rfl); refine one_ (i := 11) (N := some 26) #[I,I,I,I,I,I,I,I,I,I,I,I,O,I,I,O,O,O,O] rfl rfl (one_of HT_.out (by kernel_rfl)) (by decide) (fun K hK => ?_); refine Kd.R_lit_step (Kd.int .i64) _ 3 ?hg (N := 26) ?hd (xs := ([(rd_T61 l0 x11_1).f0, (rd_T61 l0 x11_1).f1, (rd_T61 l0 x11_1).f2, (rd_T61 l0 x11_1).f3, (rd_T61 l0 x11_1).f4] : List Int)) (inner := [.int .i64 ((rd_T61 l0 x11_1).f0), .int .i64 ((rd_T61 l0 x11_1).f1), .int .i64 ((rd_T61 l0 x11_1).f2), .int .i64 ((rd_T61 l0 x11_1).f3), .int .i64 ((rd_T61 l0 x11_1).f4)]) (ok := fun _ => True) (okp := fun _ => True) ?hr ?hp (fun _ hk => hk) trivial (Below.refl _ _) (Nat.le_refl _) (by simp) ?_; (case hd => rfl); (case hg => rfl); (case hr => first | (go_simp; done) | (go_simp; rfl)); (case hp => exact (Reps.one (show Kd.M (Kd.int .i64) _ _ _ ((rd_T61 l0 x11_1).f0) [.int .i64 ((rd_T61 l0 x11_1).f0)] from rfl) (Reps.one (show Kd.M (Kd.int .i64) _ _ _ ((rd_T61 l0 x11_1).f1) [.int .i64 ((rd_T61 l0 x11_1).f1)] from rfl) (Reps.one (show Kd.M (Kd.int .i64) _ _ _ ((rd_T61 l0 x11_1).f2) [.int .i64 ((rd_T61 l0 x11_1).f2)] from rfl) (Reps.one (show Kd.M (Kd.int .i64) _ _ _ ((rd_T61 l0 x11_1).f3) [.int .i64 ((rd_T61 l0 x11_1).f3)] from rfl) (Reps.one (show Kd.M (Kd.int .i64) _ _ _ ((rd_T61 l0 x11_1).f4) [.int .i64 ((rd_T61 l0 x11_1).f4)] from rfl) (Reps.none _ _)))))))
      intro v470 w14 ho15 hb hg_ hnew_; clear hg_ hnew_
      (first | rw [← Ny469.out] at ho15 | (simp only [Int.reduceToNat] at ho15; rw [← Ny469.out] at ho15))
      have n0_ := Aside0.mk (Kd.R_below (by (with_reducible repeat (first | apply Kd.R_alloc | apply Kd.R_drewN | apply Kd.R_drew)); exact HO_3.out) hb); have n1_ := Aside0.mk (Kd.R_lower ho15 (below_size (by repeat (first | (with_reducible first | exact HB.out | apply below_alloc | apply pw_below_drewN | apply below_drew1 | refine below_set ?_ GE468.out) | exact HB.out)))); have n2_ := Aside0.mk (blk_below (g := gb468) (o := .cells #[.int .i64 ((rd_T61 l0 x11_1).f0), .int .i64 ((rd_T61 l0 x11_1).f1), .int .i64 ((rd_T61 l0 x11_1).f2), .int .i64 ((rd_T61 l0 x11_1).f3), .int .i64 ((rd_T61 l0 x11_1).f4), .slice A467_5 ((rd_T61 l0 x11_1).f5).length c467_5] 61 (0, 0)) (by (with_reducible repeat (first | refine blk_drewN ?_ _ | refine blk_drew ?_ | refine blk_alloc ?_ _)); exact BK468.out) hb); have n3_ := Aside0.mk (below_step (by repeat (first | (with_reducible first | exact HB.out | apply below_alloc | apply pw_below_drewN | apply below_drew1 | refine below_set ?_ GE468.out) | exact HB.out)) hb); clear HO_3; clear BK468; clear HB; have HO_3 := n0_; have HO471 := n1_; have BK468 := n2_; have HB := n3_; clear n0_ n1_ n2_ n3_; clear hb ho15; obtain ⟨Ao16, co16, eo16⟩ := Kd.R_slice HO471.out
      (first | subst eo16 | (injection eo16 with f1_ f2_ f3_; have f4_ := f1_.symm; have f5_ := f3_.symm; clear f1_ f2_ f3_; subst f4_; subst f5_))
      refine hK.out _ _ ⟨(blk_cell BK468.out 0).trans rfl, (blk_cell BK468.out 1).trans rfl, (blk_cell BK468.out 2).trans rfl, (blk_cell BK468.out 3).trans rfl, (blk_cell BK468.out 4).trans rfl, (blk_cell BK468.out 5).trans rfl⟩ (fun hHeld => ?_); clear hK K; refine norm_ (a' := ?_) ?_ ?_; rotate_left
      ·show Act.put _ (some 26) _ = _
       simp only [Act.put, sA_, sB_, sC_, i64_w, i32_w]; rfl
      refine one_ (i := 12) (N := some 27) #[I,I,I,I,I,I,I,I,I,I,I,I,I,I,I,O,O,O,O] rfl rfl (one_of HT_.out (by kernel_rfl)) (by decide) (fun K hK => ?_); refine goes_ Try.func49 (by kernel_rfl) rfl #[.slice Ao16 y469.length co16] (by rfl) rfl rfl (by (try simp only [List.map_toArray, List.map_cons, List.map_nil]); first | done | rfl | (simp only [List.length_drop, List.length_take]; rfl)) ?_
      with_reducible refine (wire_Ints.calls k1 _ _ y469 t472 _ ?side1 ?side2 A7.out).mono ?_
      (case side1 => repeat (first | exact (Kd.R_reads' HO471.out).2.2 | (with_reducible refine Kd.C_alloc ?_ _) | (with_reducible refine Kd.C_drewN ?_ _) | (with_reducible refine Kd.C_drew ?_)))
      (case side2 => exact (Kd.R_reads' HO471.out).2.1)
      rintro e w17 ⟨v473, rfl, ho0, hb⟩; refine ⟨_, rfl, ?_⟩; have n0_ := Aside0.mk (Kd.R_elder' (by (with_reducible repeat (first | apply Kd.R_alloc | apply Kd.R_drewN | apply Kd.R_drew)); exact HO_3.out) (Kd.R_base ho0) hb); have n1_ := Aside0.mk (Kd.R_below (by (with_reducible repeat (first | apply Kd.R_alloc | apply Kd.R_drewN | apply Kd.R_drew)); exact HO471.out) hb); have n2_ := Aside0.mk (Kd.R_lower (Kd.R_new' ho0 (Kd.R_lt (by (with_reducible repeat (first | apply Kd.R_alloc | apply Kd.R_drewN | apply Kd.R_drew)); exact HO_3.out))) (below_size (by repeat (first | (with_reducible first | exact HB.out | apply below_alloc | apply pw_below_drewN | apply below_drew1 | refine below_set ?_ GE468.out) | exact HB.out)))); have n3_ := Aside0.mk (blk_below (g := gb468) (o := .cells #[.int .i64 ((rd_T61 l0 x11_1).f0), .int .i64 ((rd_T61 l0 x11_1).f1), .int .i64 ((rd_T61 l0 x11_1).f2), .int .i64 ((rd_T61 l0 x11_1).f3), .int .i64 ((rd_T61 l0 x11_1).f4), .slice A467_5 ((rd_T61 l0 x11_1).f5).length c467_5] 61 (0, 0)) (by (with_reducible repeat (first | refine blk_drewN ?_ _ | refine blk_drew ?_ | refine blk_alloc ?_ _)); exact BK468.out) hb); have n4_ := Aside0.mk (below_step (by repeat (first | (with_reducible first | exact HB.out | apply below_alloc | apply pw_below_drewN | apply below_drew1 | refine below_set ?_ GE468.out) | exact HB.out)) hb); clear HO_3; clear HO471; clear BK468; clear HB; have HO_3 := n0_; have HO471 := n1_; have HO474 := n2_; have BK468 := n3_; have HB := n4_; clear n0_ n1_ n2_ n3_ n4_
      (try clear hb)
      (try clear hb2)
      (try clear hk)
      (try clear hi)
      (try clear ho0)
      refine hK.out _ _ ⟨(blk_cell BK468.out 0).trans rfl, (blk_cell BK468.out 1).trans rfl, (blk_cell BK468.out 2).trans rfl, (blk_cell BK468.out 3).trans rfl, (blk_cell BK468.out 4).trans rfl, (blk_cell BK468.out 5).trans rfl⟩ (fun hHeld => ?_); clear hK K; refine norm_ (a' := ?_) ?_ ?_; rotate_left
      ·show Act.put _ (some 27) _ = _
       simp only [Act.put, sA_, sB_, sC_, i64_w, i32_w]; rfl
      refine one_ (i := 15) (N := some 30) #[I,I,I,I,I,I,I,I,I,I,I,I,I,I,I,I,O,O,O] rfl rfl (one_of HT_.out (by kernel_rfl)) (by decide) (fun K hK => ?_); refine goes_ Try.func49 (by kernel_rfl) rfl #[.slice A467_5 ((rd_T61 l0 x11_1).f5).length c467_5] (by rfl) rfl rfl (by (try simp only [List.map_toArray, List.map_cons, List.map_nil]); first | done | rfl | (simp only [List.length_drop, List.length_take]; rfl)) ?_
      with_reducible refine (wire_Ints.calls k1 _ _ ((rd_T61 l0 x11_1).f5) t475 _ ?side1 ?side2 A8.out).mono ?_
      (case side1 => repeat (first | exact (Kd.C_below HR467_5.out HB.out) | (with_reducible refine Kd.C_alloc ?_ _) | (with_reducible refine Kd.C_drewN ?_ _) | (with_reducible refine Kd.C_drew ?_)))
      (case side2 => exact HC467_5.out)
      rintro e w18 ⟨v476, rfl, ho0, hb⟩; refine ⟨_, rfl, ?_⟩; have n0_ := Aside0.mk (Kd.R_elder' (by (with_reducible repeat (first | apply Kd.R_alloc | apply Kd.R_drewN | apply Kd.R_drew)); exact HO_3.out) (Kd.R_base ho0) hb); have n1_ := Aside0.mk (Kd.R_below (by (with_reducible repeat (first | apply Kd.R_alloc | apply Kd.R_drewN | apply Kd.R_drew)); exact HO471.out) hb); have n2_ := Aside0.mk (Kd.R_elder' (by (with_reducible repeat (first | apply Kd.R_alloc | apply Kd.R_drewN | apply Kd.R_drew)); exact HO474.out) (Kd.R_base ho0) hb); have n3_ := Aside0.mk (Kd.R_lower (Kd.R_new' (Kd.R_new' ho0 (Kd.R_lt (by (with_reducible repeat (first | apply Kd.R_alloc | apply Kd.R_drewN | apply Kd.R_drew)); exact HO_3.out))) (Kd.R_lt (by (with_reducible repeat (first | apply Kd.R_alloc | apply Kd.R_drewN | apply Kd.R_drew)); exact HO474.out))) (below_size (by repeat (first | (with_reducible first | exact HB.out | apply below_alloc | apply pw_below_drewN | apply below_drew1 | refine below_set ?_ GE468.out) | exact HB.out)))); have n4_ := Aside0.mk (blk_below (g := gb468) (o := .cells #[.int .i64 ((rd_T61 l0 x11_1).f0), .int .i64 ((rd_T61 l0 x11_1).f1), .int .i64 ((rd_T61 l0 x11_1).f2), .int .i64 ((rd_T61 l0 x11_1).f3), .int .i64 ((rd_T61 l0 x11_1).f4), .slice A467_5 ((rd_T61 l0 x11_1).f5).length c467_5] 61 (0, 0)) (by (with_reducible repeat (first | refine blk_drewN ?_ _ | refine blk_drew ?_ | refine blk_alloc ?_ _)); exact BK468.out) hb); have n5_ := Aside0.mk (below_step (by repeat (first | (with_reducible first | exact HB.out | apply below_alloc | apply pw_below_drewN | apply below_drew1 | refine below_set ?_ GE468.out) | exact HB.out)) hb); clear HO_3; clear HO471; clear HO474; clear BK468; clear HB; have HO_3 := n0_; have HO471 := n1_; have HO474 := n2_; have HO477 := n3_; have BK468 := n4_; have HB := n5_; clear n0_ n1_ n2_ n3_ n4_ n5_
      (try clear hb)
      (try clear hb2)
      (try clear hk)
      (try clear hi)
      (try clear ho0)
      obtain ⟨Ao19, co19, eo19⟩ := Kd.R_slice HO_3.out
      (first | subst eo19 | (injection eo19 with f1_ f2_ f3_; have f4_ := f1_.symm; have f5_ := f3_.symm; clear f1_ f2_ f3_; subst f4_; subst f5_))
      obtain ⟨Ao20, co20, eo20⟩ := Kd.R_slice HO474.out
      (first | subst eo20 | (injection eo20 with f1_ f2_ f3_; have f4_ := f1_.symm; have f5_ := f3_.symm; clear f1_ f2_ f3_; subst f4_; subst f5_))
      obtain ⟨Ao21, co21, eo21⟩ := Kd.R_slice HO477.out
      (first | subst eo21 | (injection eo21 with f1_ f2_ f3_; have f4_ := f1_.symm; have f5_ := f3_.symm; clear f1_ f2_ f3_; subst f4_; subst f5_))
      refine hK.out _ _ ⟨(blk_cell BK468.out 0).trans rfl, (blk_cell BK468.out 1).trans rfl, (blk_cell BK468.out 2).trans rfl, (blk_cell BK468.out 3).trans rfl, (blk_cell BK468.out 4).trans rfl, (blk_cell BK468.out 5).trans rfl⟩ (fun hHeld => ?_); clear hK K; refine norm_ (a' := ?_) ?_ ?_; rotate_left
      ·show Act.put _ (some 30) _ = _
       simp only [Act.put, sA_, sB_, sC_, i64_w, i32_w]; rfl
      refine one_ (i := 16) (N := some 31) #[I,I,I,I,I,I,I,I,I,I,I,I,I,I,I,I,I,O,O] rfl rfl (one_of HT_.out (by kernel_rfl)) (by decide) (fun K hK => ?_); refine Kd.N_lit_step (Kd.slice 5 (Kd.int .u8)) _ 53 ?hg (N' := 31) ?hd (xs := ([x3_1, t472, t475] : List (List Int))) (inner := [.slice Ao19 x3_1.length co19, .slice Ao20 t472.length co20, .slice Ao21 t475.length co21]) (ok := (fun k_ => some k_ ≠ (.slice Ao16 y469.length co16 : Value).ownBlock ∧ k_ ≠ gb468)) (okp := (fun k_ => some k_ ≠ (.slice Ao16 y469.length co16 : Value).ownBlock ∧ k_ ≠ gb468)) ?hr ?hp (fun _ hk => hk) ((show ∀ k_, w18.heap.size ≤ k_ → (fun k_ => some k_ ≠ (.slice Ao16 y469.length co16 : Value).ownBlock ∧ k_ ≠ gb468) k_ from fun k_ hk => ⟨Kd.fresh' (Kd.R_lt (by (with_reducible repeat (first | apply Kd.R_alloc | apply Kd.R_drewN | apply Kd.R_drew)); exact HO471.out)) k_ hk, Kd.freshB (g := gb468) (o := .cells #[.int .i64 ((rd_T61 l0 x11_1).f0), .int .i64 ((rd_T61 l0 x11_1).f1), .int .i64 ((rd_T61 l0 x11_1).f2), .int .i64 ((rd_T61 l0 x11_1).f3), .int .i64 ((rd_T61 l0 x11_1).f4), .slice A467_5 ((rd_T61 l0 x11_1).f5).length c467_5] 61 (0, 0)) (by (with_reducible repeat (first | refine blk_drewN ?_ _ | refine blk_drew ?_ | refine blk_alloc ?_ _)); exact BK468.out) k_ hk⟩) _ (Nat.le_refl _)) (Below.refl _ _) (Nat.le_refl _) (by simp) ?_; (case hd => rfl); (case hg => rfl); (case hr => first | (go_simp; done) | (go_simp; rfl)); (case hp => exact (Reps.one (show Kd.FK (Kd.slice 5 (Kd.int .u8)) _ _ x3_1 [.slice Ao19 x3_1.length co19] from (Kd.FK_slice_mk (Kd.R_reads' (Kd.R_mono (ok' := (fun k_ => some k_ ≠ (.slice Ao16 y469.length co16 : Value).ownBlock ∧ k_ ≠ gb468)) (Kd.R_types (Kd.R_apart' (HO_3.out) (Kd.R_typed HO471.out) (by decide)) BK468.out (by decide)) (fun k_ hk => ⟨hk.1.2, hk.2⟩))).2.1 (Kd.R_F (Kd.R_mono (ok' := (fun k_ => some k_ ≠ (.slice Ao16 y469.length co16 : Value).ownBlock ∧ k_ ≠ gb468)) (Kd.R_types (Kd.R_apart' (HO_3.out) (Kd.R_typed HO471.out) (by decide)) BK468.out (by decide)) (fun k_ hk => ⟨hk.1.2, hk.2⟩))))) (Reps.one (show Kd.FK (Kd.slice 5 (Kd.int .u8)) _ _ t472 [.slice Ao20 t472.length co20] from (Kd.FK_slice_mk (Kd.R_reads' (Kd.R_mono (ok' := (fun k_ => some k_ ≠ (.slice Ao16 y469.length co16 : Value).ownBlock ∧ k_ ≠ gb468)) (Kd.R_types (Kd.R_apart' (HO474.out) (Kd.R_typed HO471.out) (by decide)) BK468.out (by decide)) (fun k_ hk => ⟨hk.1.2, hk.2⟩))).2.1 (Kd.R_F (Kd.R_mono (ok' := (fun k_ => some k_ ≠ (.slice Ao16 y469.length co16 : Value).ownBlock ∧ k_ ≠ gb468)) (Kd.R_types (Kd.R_apart' (HO474.out) (Kd.R_typed HO471.out) (by decide)) BK468.out (by decide)) (fun k_ hk => ⟨hk.1.2, hk.2⟩))))) (Reps.one (show Kd.FK (Kd.slice 5 (Kd.int .u8)) _ _ t475 [.slice Ao21 t475.length co21] from (Kd.FK_slice_mk (Kd.R_reads' (Kd.R_mono (ok' := (fun k_ => some k_ ≠ (.slice Ao16 y469.length co16 : Value).ownBlock ∧ k_ ≠ gb468)) (Kd.R_types (Kd.R_apart' (HO477.out) (Kd.R_typed HO471.out) (by decide)) BK468.out (by decide)) (fun k_ hk => ⟨hk.1.2, hk.2⟩))).2.1 (Kd.R_F (Kd.R_mono (ok' := (fun k_ => some k_ ≠ (.slice Ao16 y469.length co16 : Value).ownBlock ∧ k_ ≠ gb468)) (Kd.R_types (Kd.R_apart' (HO477.out) (Kd.R_typed HO471.out) (by decide)) BK468.out (by decide)) (fun k_ hk => ⟨hk.1.2, hk.2⟩))))) (Reps.none _ _)))))
      intro v479 w22 ho23 hb hg_ hnew_; clear hg_ hnew_
      (first | rw [← Ny478.out] at ho23 | (simp only [Int.reduceToNat] at ho23; rw [← Ny478.out] at ho23))
      have n0_ := Aside0.mk (Kd.R_below (by (with_reducible repeat (first | apply Kd.R_alloc | apply Kd.R_drewN | apply Kd.R_drew)); exact HO471.out) hb); have n1_ := Aside0.mk (Kd.N_lower ho23 (below_size (by repeat (first | (with_reducible first | exact HB.out | apply below_alloc | apply pw_below_drewN | apply below_drew1 | refine below_set ?_ GE468.out) | exact HB.out)))); have n2_ := Aside0.mk (blk_below (g := gb468) (o := .cells #[.int .i64 ((rd_T61 l0 x11_1).f0), .int .i64 ((rd_T61 l0 x11_1).f1), .int .i64 ((rd_T61 l0 x11_1).f2), .int .i64 ((rd_T61 l0 x11_1).f3), .int .i64 ((rd_T61 l0 x11_1).f4), .slice A467_5 ((rd_T61 l0 x11_1).f5).length c467_5] 61 (0, 0)) (by (with_reducible repeat (first | refine blk_drewN ?_ _ | refine blk_drew ?_ | refine blk_alloc ?_ _)); exact BK468.out) hb); have n3_ := Aside0.mk (below_step (by repeat (first | (with_reducible first | exact HB.out | apply below_alloc | apply pw_below_drewN | apply below_drew1 | refine below_set ?_ GE468.out) | exact HB.out)) hb); clear HO471; clear BK468; clear HB; clear HO474; clear HO477; clear HO_3; have HO471 := n0_; have HO480 := n1_; have BK468 := n2_; have HB := n3_; clear n0_ n1_ n2_ n3_; clear hb ho23; obtain ⟨Ao24, co24, eo24⟩ := Kd.N_slice HO480.out
      (first | subst eo24 | (injection eo24 with f1_ f2_ f3_; have f4_ := f1_.symm; have f5_ := f3_.symm; clear f1_ f2_ f3_; subst f4_; subst f5_))
      refine hK.out _ _ ⟨(blk_cell BK468.out 0).trans rfl, (blk_cell BK468.out 1).trans rfl, (blk_cell BK468.out 2).trans rfl, (blk_cell BK468.out 3).trans rfl, (blk_cell BK468.out 4).trans rfl, (blk_cell BK468.out 5).trans rfl⟩ (fun hHeld => ?_); clear hK K; refine norm_ (a' := ?_) ?_ ?_; rotate_left
      ·show Act.put _ (some 31) _ = _
       simp only [Act.put, sA_, sB_, sC_, i64_w, i32_w]; rfl
      refine one_ (i := 17) (N := some 32) #[I,I,I,I,I,I,I,I,I,I,I,I,I,I,I,I,I,I,O] rfl rfl (one_of HT_.out (by kernel_rfl)) (by decide) (fun K hK => ?_); refine goes_ Try.func48 (by kernel_rfl) rfl #[.slice Ao24 y478.length co24] (by rfl) rfl rfl (by (try simp only [List.map_toArray, List.map_cons, List.map_nil]); first | done | rfl | (simp only [List.length_drop, List.length_take]; rfl)) ?_
      with_reducible refine (slices_Concat_byte.calls _ _ y478 t481 _ ?side1 ?side2 A9.out).mono ?_
      (case side1 => repeat (first | exact (Kd.N_reads' HO480.out).2.2 | (with_reducible refine Kd.C_alloc ?_ _) | (with_reducible refine Kd.C_drewN ?_ _) | (with_reducible refine Kd.C_drew ?_)))
      (case side2 => exact (Kd.N_reads' HO480.out).2.1)
      rintro e w25 ⟨v482, rfl, ho0, hb⟩; refine ⟨_, rfl, ?_⟩; have n0_ := Aside0.mk (Kd.R_below (by (with_reducible repeat (first | apply Kd.R_alloc | apply Kd.R_drewN | apply Kd.R_drew)); exact HO471.out) hb); have n1_ := Aside0.mk (Kd.N_elder' (by (with_reducible repeat (first | apply Kd.N_alloc | apply Kd.N_drewN | apply Kd.N_drew)); exact HO480.out) (Kd.R_base ho0) hb); have n2_ := Aside0.mk (Kd.R_lower ho0 (below_size (by repeat (first | (with_reducible first | exact HB.out | apply below_alloc | apply pw_below_drewN | apply below_drew1 | refine below_set ?_ GE468.out) | exact HB.out)))); have n3_ := Aside0.mk (blk_below (g := gb468) (o := .cells #[.int .i64 ((rd_T61 l0 x11_1).f0), .int .i64 ((rd_T61 l0 x11_1).f1), .int .i64 ((rd_T61 l0 x11_1).f2), .int .i64 ((rd_T61 l0 x11_1).f3), .int .i64 ((rd_T61 l0 x11_1).f4), .slice A467_5 ((rd_T61 l0 x11_1).f5).length c467_5] 61 (0, 0)) (by (with_reducible repeat (first | refine blk_drewN ?_ _ | refine blk_drew ?_ | refine blk_alloc ?_ _)); exact BK468.out) hb); have n4_ := Aside0.mk (below_step (by repeat (first | (with_reducible first | exact HB.out | apply below_alloc | apply pw_below_drewN | apply below_drew1 | refine below_set ?_ GE468.out) | exact HB.out)) hb); clear HO471; clear HO480; clear BK468; clear HB; have HO471 := n0_; have HO480 := n1_; have HO483 := n2_; have BK468 := n3_; have HB := n4_; clear n0_ n1_ n2_ n3_ n4_
      (try clear hb)
      (try clear hb2)
      (try clear hk)
      (try clear hi)
      (try clear ho0)
      refine hK.out _ _ ⟨(blk_cell BK468.out 0).trans rfl, (blk_cell BK468.out 1).trans rfl, (blk_cell BK468.out 2).trans rfl, (blk_cell BK468.out 3).trans rfl, (blk_cell BK468.out 4).trans rfl, (blk_cell BK468.out 5).trans rfl⟩ (fun hHeld => ?_); clear hK K; refine norm_ (a' := ?_) ?_ ?_; rotate_left
      ·show Act.put _ (some 32) _ = _
       simp only [Act.put, sA_, sB_, sC_, i64_w, i32_w]; rfl
      refine pure_ (i := 18) (N := some 3) (v := ?_) (a' := ?_) #[I,I,I,I,I,I,I,I,I,I,I,I,I,I,I,I,I,I,I] rfl rfl (any_of HT_.out (by kernel_rfl)) (fun _ _ _ h => h) (Or.inl ⟨by rfl, ?_⟩) ?_ ?_; rotate_left; (· intro w'; go_simp; with_reducible rfl); rotate_left; (· simp only [Act.put, sA_, sB_, sC_, i64_w, i32_w]; rfl); refine done_ (done_of HT_.out (by kernel_rfl)) ?_
      try go_wp2
      go_roundg k1
      case measure => have := HK1.out; omega
      case rel => exact ⟨(t481), (wrap64 (x11_1 + 1)), (by first | rfl | (simp; done) | (simp [*]; done)), H', ⟨by have := HK1.out; omega⟩, ⟨by (with_reducible repeat (first | apply Kd.R_alloc | apply Kd.R_drewN | apply Kd.R_drew)); exact HO483.out⟩, ⟨by repeat (first | (with_reducible first | exact HB.out | apply below_alloc | apply pw_below_drewN | apply below_drew1 | refine below_set ?_ GE468.out) | exact HB.out)⟩⟩
     (· rw [if_neg c6] at H; exact absurd H (by simp))
    (· rw [if_neg c5] at H; exact absurd H (by simp))
   (· rw [if_neg c4] at H; have c4b0 : decide (x11_1 < (l0.length : Int)) = false := decide_eq_false c4; clear c4; obtain rfl := Option.some.inj H; go_wp2; go_ret; exact ⟨_, by first | rfl | (simp [errW_none, errW_some] <;> rfl) | (simp [*, errW_none, errW_some] <;> rfl), by (with_reducible repeat (first | apply Kd.R_alloc | apply Kd.R_drewN | apply Kd.R_drew)); exact HO_3.out, by repeat (first | (with_reducible first | exact HB.out | apply below_alloc | apply pw_below_drewN | apply below_drew1) | exact HB.out)⟩)
end Go.Proofs.Ytcgpemefmakjiaa.PX
namespace Go.Proofs.Ytcgpemefmakjiaa.Iter
open Go.RowKit
structure KeepBody (B : Nat) (ts : List Nat) (W W' : World) : Prop where
 os : W'.os = W.os
 tape : W'.tape = W.tape
 output : W'.output = W.output
 size : W.heap.size ≤ W'.heap.size
 same : ∀ (i : Nat) (o : Obj), W.heap[i]? = some o → (i < B ∨ o.isCells = false ∨ ∃ c t fr, o = .cells c t fr ∧ t ∉ ts) → W'.heap[i]? = some o
structure KeepIter (B : Nat) (ts : List Nat) (W W' : World) : Prop where
 os : W'.os = W.os
 tape : W'.tape = W.tape
 output : W'.output = W.output
 size : W.heap.size ≤ W'.heap.size
 same : ∀ (i : Nat) (o : Obj), W.heap[i]? = some o → (i < B ∨ ∃ c t fr, o = .cells c t fr ∧ t ∉ ts) → W'.heap[i]? = some o
variable {B : Nat} {ts : List Nat} {W W' W1 W2 : World}
theorem KeepBody.trans (h : KeepBody B ts W W1) (k : KeepBody B ts W1 W2) : KeepBody B ts W W2 := ⟨k.os.trans h.os, k.tape.trans h.tape, k.output.trans h.output, Nat.le_trans h.size k.size, fun i o hi ho => k.same i o (h.same i o hi ho) ho⟩
theorem KeepBody.alloc (B : Nat) (ts : List Nat) (W : World) (o : Obj) : KeepBody B ts W (W.alloc o) := ⟨rfl, rfl, rfl, by simp, fun k o' hk _ => (Below.heap_alloc W o k (Array.getElem?_eq_some_iff.1 hk).1).trans hk⟩
theorem KeepBody.grown {row : Option Nat} (hg : W.grownBy W' row) (hr : ∀ r, row = some r → B ≤ r ∧ ∀ o, W.heap[r]? = some o → ∃ c t fr, o = .cells c t fr ∧ t ∈ ts) : KeepBody B ts W W' :=
 ⟨hg.os, hg.tape, hg.output, hg.size, fun i o hi ho => (hg.block i (Array.getElem?_eq_some_iff.1 hi).1 (fun e => by
  obtain ⟨h1, h2⟩ := hr i e.symm; obtain ⟨c, t, fr, h3, h4⟩ := h2 o hi; subst h3
  rcases ho with ho | ho | ⟨c', t', fr', ho, hn⟩
  (· omega)
  ·simp [Obj.isCells] at ho
  ·injection ho with _ ho
   exact hn (ho ▸ h4))).trans hi⟩
theorem KeepBody.setCell {p : Addr} (u : Value) (hp : B ≤ p.block) (ht : ∀ o, W.heap[p.block]? = some o → ∃ c t fr, o = .cells c t fr ∧ t ∈ ts) : KeepBody B ts W (W.setCell p u) :=
 ⟨rfl, rfl, rfl, by show W.heap.size ≤ (W.heap.modify _ _).size; rw [Array.size_modify]; exact Nat.le_refl _, fun i o hi ho => (Below.heap_setCell W p u i (fun e => by
  subst e; obtain ⟨c, t, fr, h3, h4⟩ := ht o hi; subst h3
  rcases ho with ho | ho | ⟨c', t', fr', ho, hn⟩
  (· omega)
  ·simp [Obj.isCells] at ho
  ·injection ho with _ ho
   exact hn (ho ▸ h4))).trans hi⟩
theorem KeepBody.iter (h : KeepBody B ts W W') : KeepIter B ts W W' := ⟨h.os, h.tape, h.output, h.size, fun i o hi ho => h.same i o hi (ho.imp id (fun h => .inr h))⟩
theorem KeepIter.trans (h : KeepIter B ts W W1) (k : KeepIter B ts W1 W2) : KeepIter B ts W W2 := ⟨k.os.trans h.os, k.tape.trans h.tape, k.output.trans h.output, Nat.le_trans h.size k.size, fun i o hi ho => k.same i o (h.same i o hi ho) ho⟩
theorem KeepIter.below (h : KeepIter B ts W W') (hB : B ≤ W.heap.size) : Below B W W' :=
 ⟨h.os, h.tape, h.output, h.size, fun k hk => by
  have hk' : k < W.heap.size := by omega
  rw [Array.getElem?_eq_getElem hk']
  exact h.same k _ (Array.getElem?_eq_getElem hk') (.inl hk)⟩
theorem KeepIter.putObj {l : Nat} {o : Obj} (o' : Obj) (hB : B ≤ l) (hl : W.heap[l]? = some o) (ho : o.isCells = false) : KeepIter B ts W (W.putObj l o') :=
 ⟨rfl, rfl, rfl, by simp, fun i o2 hi h2 => (World.putObj_heap_other (fun e => by
  subst e; rw [hl] at hi
  injection hi with hi
  subst hi
  rcases h2 with h2 | ⟨c, t, fr, h2, _⟩
  (· omega)
  ·subst h2; simp [Obj.isCells] at ho)).trans hi⟩
def StepI (B : Nat) (tI : List Nat) (W W' : World) : Prop := ∃ row, W.grownBy W' row ∧ ∀ r, row = some r → B ≤ r ∧ ∃ o, W.heap[r]? = some o ∧ (o.isCells = false ∨ ∃ c t fr, o = .cells c t fr ∧ t ∈ tI)
def StepC (B : Nat) (tI : List Nat) (W W' : World) : Prop := ∃ row, W.grownBy W' row ∧ ∀ r, row = some r → B ≤ r ∧ ∃ c t fr, W.heap[r]? = some (.cells c t fr) ∧ t ∈ tI
theorem StepC.i {B B' : Nat} {tI : List Nat} (h : StepC B tI W W') (hB : B' ≤ B) : StepI B' tI W W' := by
 obtain ⟨row, hg, hr⟩ := h; refine ⟨row, hg, fun r e => ?_⟩; obtain ⟨h1, c, t, fr, h2, h3⟩ := hr r e; exact ⟨by omega, _, h2, .inr ⟨c, t, fr, rfl, h3⟩⟩
theorem StepI.putObj {tI : List Nat} {l : Nat} {o : Obj} (o' : Obj) (hB : B ≤ l) (hl : W.heap[l]? = some o) (ho : o.isCells = false) : StepI B tI W (W.putObj l o') :=
 ⟨some l, grownBy_putObj' W l o', fun r e => by cases e; exact ⟨hB, o, hl, .inl ho⟩⟩
theorem StepI.alloc (B : Nat) (tI : List Nat) (W : World) (o : Obj) : StepI B tI W (W.alloc o) := ⟨none, World.grownBy_alloc W o none, fun r e => by cases e⟩
theorem StepC.alloc (B : Nat) (tI : List Nat) (W : World) (o : Obj) : StepC B tI W (W.alloc o) := ⟨none, World.grownBy_alloc W o none, fun r e => by cases e⟩
theorem StepI.other {tI : List Nat} (h : StepI B tI W W') {i : Nat} {c : Array Value} {t : Nat} {fr : Nat × Nat} (hi : W.heap[i]? = some (.cells c t fr)) (ht : t ∉ tI) : W'.heap[i]? = some (.cells c t fr) := by
 obtain ⟨row, hg, hr⟩ := h; refine (hg.block i (Array.getElem?_eq_some_iff.1 hi).1 (fun e => ?_)).trans hi; obtain ⟨_, o, ho, hc⟩ := hr i e.symm; rw [hi] at ho
 injection ho with ho
 subst ho
 rcases hc with hc | ⟨c', t', fr', he, hm⟩
 ·simp [Obj.isCells] at hc
 ·injection he with _ he
  exact ht (he ▸ hm)
theorem StepI.below {tI : List Nat} {n0 : Nat} {w : World} (h : StepI B tI W W') (hb : Below n0 w W) (hn : n0 ≤ w.heap.size) (hB : n0 ≤ B) : Below n0 w W' := by
 obtain ⟨row, hg, hr⟩ := h; exact hb.grown hg (Nat.le_trans hn hb.size) (fun k e => Nat.le_trans hB (hr k e).1)
theorem StepC.nocells {tI : List Nat} (h : StepC B tI W W') {i : Nat} {o : Obj} (hi : W.heap[i]? = some o) (ho : o.isCells = false) : W'.heap[i]? = some o := by
 obtain ⟨row, hg, hr⟩ := h; refine (hg.block i (Array.getElem?_eq_some_iff.1 hi).1 (fun e => ?_)).trans hi; obtain ⟨_, c, t, fr, h2, _⟩ := hr i e.symm; rw [hi] at h2
 injection h2 with h2
 subst h2
 simp [Obj.isCells] at ho
def onPost (B : Nat) (ts : List Nat) (W : World) (R : World → Prop) : Exit → Act → World → Prop
 | .normal, _, W' => KeepBody B ts W W' ∧ R W'
 | _, _, _ => False
def Iterates {α : Type} (F : Fence) (n : Nat) (P : Program) (gf : Nat) (lb : Array Value) (enc : α → Array Value) (T : α → World → Prop) (S : List α → World → Prop) (N : Nat) (B : Nat) (ts tI : List Nat) (l : Nat) (W1 : World) : Prop :=
 ∀ J : List α → World → Prop, (∀ s A C, J s A → StepC W1.heap.size tI A C → J s C) →
  (∀ pre x W, J pre W → pre.length < N → T x W → YieldAt F (n - 1) P l (enc x) W fun e W' => e = .returned (.bool true) ∧ J (pre ++ [x]) W' ∧ KeepIter B ts W W') →
  J [] W1 → CallsIn F n P gf (#[.func (.yield l) #[] #[]] ++ lb) W1 fun e W' => (∃ v, e = .returned v) ∧ ∃ xs, S xs W' ∧ J xs W'
variable {F : Fence} {n : Nat} {P : Program}
theorem wpIn_range_on {α : Type} {g : Operand} {ps : Array Tmp} {assign body : Code} {Q : Exit → Act → World → Prop} {a : Act} {w : World}
  (hro : F.round = none) (h1 : 1 ≤ n) {gf : Nat} {lb : Array Value} (hg : a.eval g = .func (.func gf) #[] lb) (hFg : F.fn gf) (eg : ∀ args w, (callFunc gf args).run P w = .ok (.enter gf args) w)
  {enc : α → Array Value} {T : α → World → Prop} {S : List α → World → Prop} {N : Nat} {B : Nat} {ts tI : List Nat} (hB : B ≤ w.heap.size)
  (hiter : ∀ L, Iterates F (n - 1) P gf lb enc T S N B ts tI (w.heap.size + 1) ((w.alloc (.deferred (some []))).alloc (.loop L)))
  (hps : ∀ x, (enc x).size = ps.size)
  (I : List α → World → Prop) (Ax : α → Act → World → Prop)
  (hI : ∀ s A C, I s A → StepI w.heap.size tI A C → I s C) (hT : ∀ x A C, T x A → StepI w.heap.size tI A C → T x C) (hS : ∀ s A C, S s A → StepI w.heap.size tI A C → S s C) (hAx : ∀ x a A C, Ax x a A → StepI w.heap.size tI A C → Ax x a C)
  (h0 : I [] w)
  (hassign : ∀ (l : Nat) (pre : List α) (x : α) (W : World) (K : Act → World → Prop), I pre W → T x W → (∀ a1 W1, KeepBody B ts W W1 → I pre W1 → T x W1 → Ax x a1 W1 → K a1 W1) →
   assign.wpIn (F.inRound l) (n - 1 - 1) P (Exit.then K (fun _ _ _ => False)) { tmps := (ps.zip (enc x)).foldl (fun t (p, v) => t.setIfInBounds p v) a.tmps, defers := [] } W)
  (hbody : ∀ (l : Nat) (pre : List α) (x : α) (a1 : Act) (W : World), I pre W → pre.length < N → T x W → Ax x a1 W → body.wpIn (F.inRound l) (n - 1 - 1) P (onPost B ts W (I (pre ++ [x]))) a1 W)
  (hdone : ∀ (D : Nat) (xs : List α) (W : World), w.heap.size ≤ D → S xs W → I xs W → W.heap[D]? = some (.deferred (some [])) → Q .normal { a with defers := { target := .collected D, args := #[] } :: a.defers } W) :
  (Code.rangeFunc g ps assign body).wpIn F n P Q a w := by
 refine wpIn_rangeFunc ?_; intro fn hfn; rw [hro]
 obtain ⟨rec, hrec⟩ : ∃ rec : LoopState → Option Code → Loop, rec = fun st pe => { state := st, pending := pe, fn, tmps := a.tmps, params := ps, assign, body, defers := w.heap.size } := ⟨_, rfl⟩
 have hit := hiter (rec .ready none); obtain ⟨W1, hW1⟩ : ∃ W1, (w.alloc (.deferred (some []))).alloc (.loop (rec .ready none)) = W1 := ⟨_, rfl⟩; rw [hW1] at hit
 have hsz : W1.heap.size = w.heap.size + 2 := by rw [← hW1]; simp
 have hL1 : W1.heap[w.heap.size + 1]? = some (.loop (rec .ready none)) := by
  rw [← hW1]; have := World.alloc_heap_new (w.alloc (.deferred (some []))) (.loop (rec .ready none)); rwa [World.size_alloc] at this
 have hK1 : W1.heap[w.heap.size]? = some (.deferred (some [])) := by
  rw [← hW1]; exact (Below.heap_alloc _ _ _ (by simp)).trans (World.alloc_heap_new w _)
 have hI1 : I [] W1 := by rw [← hW1]; exact hI _ _ _ (hI _ _ _ h0 (StepI.alloc _ _ _ _)) (StepI.alloc _ _ _ _)
 refine ⟨w.heap.size + 1, [{ target := .collected w.heap.size, args := #[] }], W1, { target := .fn (.func gf) lb, args := #[.func (.yield (w.heap.size + 1)) #[] #[]] }, W1, gf,
  #[.func (.yield (w.heap.size + 1)) #[] #[]] ++ lb, W1, ?_, ?_, ?_, ?_, fun _ => h1, ?_⟩
 (· rw [← hW1, hrec]; exact run_enterLoop_outer _ _ _ _ _)
 ·simp only [resolve, hg]
  simp [go_sem]
 (· intro f' hf'; simp [Target.leads] at hf'; subst hf'; exact hFg)
 ·simp [invoke, go_sem, eg]
 ·refine (hit (fun pre W => I pre W ∧ W.heap[w.heap.size + 1]? = some (.loop (rec .ready none)) ∧ W.heap[w.heap.size]? = some (.deferred (some [])))
   (fun s A C hs hst => ⟨hI s A C hs.1 (hst.i (by omega)), hst.nocells hs.2.1 rfl, hst.nocells hs.2.2 rfl⟩) ?_ ⟨hI1, hL1, hK1⟩).mono ?_
  ·rintro pre x W ⟨hi, hl, hk⟩ hlen ht
   have hlt : w.heap.size + 1 < W.heap.size := (Array.getElem?_eq_some_iff.1 hl).1; have hy := run_yield (P := P) (args := enc x) hl (by rw [hrec]; exact hps x); rw [hrec] at hy; refine ⟨fn, _, assign, body, hy, roundIn_of_wpIn hfn (hassign _ pre x W _ hi ht (fun a1 W2 hkb hi2 ht2 hax => ?_))⟩; have hl2 : W2.heap[w.heap.size + 1]? = some (.loop (rec .ready none)) := hkb.same _ _ hl (.inr (.inl rfl)); have hk2 : W2.heap[w.heap.size]? = some (.deferred (some [])) := hkb.same _ _ hk (.inr (.inl rfl)); have hlt2 : w.heap.size + 1 < W2.heap.size := (Array.getElem?_eq_some_iff.1 hl2).1; refine ⟨_, run_beginRound hl2 (by rw [hrec]), ?_⟩; obtain ⟨W3, hW3⟩ : ∃ W3, W2.putObj (w.heap.size + 1) (.loop { rec .ready none with state := .busy }) = W3 := ⟨_, rfl⟩
   have hst : StepI w.heap.size tI W2 W3 := by rw [← hW3]; exact StepI.putObj _ (by omega) hl2 rfl
   have hl3 : W3.heap[w.heap.size + 1]? = some (.loop { rec .ready none with state := .busy }) := by rw [← hW3]; exact World.putObj_heap_same hlt2
   have hk3 : W3.heap[w.heap.size]? = some (.deferred (some [])) := by rw [← hW3]; exact (World.putObj_heap_other (by omega)).trans hk2
   have hw3 : KeepIter B ts W2 W3 := by rw [← hW3]; exact KeepIter.putObj _ (by omega) hl2 rfl
   rw [hW3]; refine wpIn_mono (hbody _ pre x a1 W3 (hI _ _ _ hi2 hst) hlen (hT _ _ _ ht2 hst) (hAx _ _ _ _ hax hst)) ?_; rintro e a3 W4 hp
   cases e with
   | normal =>
    obtain ⟨hkb4, hi4⟩ := hp; have hl4 := hkb4.same _ _ hl3 (.inr (.inl rfl)); have hk4 := hkb4.same _ _ hk3 (.inr (.inl rfl)); have hr := run_endRound (P := P) none hl4; refine ⟨_, _, hr, rfl, ⟨hI _ _ _ hi4 (StepI.putObj _ (by omega) hl4 rfl), ?_, (World.putObj_heap_other (by omega)).trans hk4⟩, ((hkb.iter.trans hw3).trans hkb4.iter).trans (KeepIter.putObj _ (by omega) hl4 rfl)⟩; rw [hrec]; exact World.putObj_heap_same (Array.getElem?_eq_some_iff.1 hl4).1
   | ret => exact hp.elim
   | exit id => exact hp.elim
   | goto t => exact hp.elim
   | panic ch => exact hp.elim
   | outgrown => exact hp.elim
  ·rintro e W2 ⟨⟨v, rfl⟩, xs, hs, hi, hl, hk⟩
   have hst : ∀ o', StepI w.heap.size tI W2 (W2.putObj (w.heap.size + 1) o') := fun o' => StepI.putObj _ (by omega) hl rfl
   exact ⟨none, _, by have := run_endLoop (P := P) hl (by rw [hrec]; simp); rw [hrec] at this; exact this, hdone _ xs _ (Nat.le_refl _) (hS _ _ _ hs (hst _)) (hI _ _ _ hi (hst _)) ((World.putObj_heap_other (by omega)).trans hk)⟩
end Go.Proofs.Ytcgpemefmakjiaa.Iter
namespace Go.Proofs.Ytcgpemefmakjiaa.PX
open Go.RowKit Go.Shelf Go.Proofs.Ytcgpemefmakjiaa.Iter Go.Proofs.YtcgpemefmakjiaaW.PrintWords Go.Proofs.YtcgpemefmakjiaaW.PrintLast Go.Proofs.YtcgpemefmakjiaaW.PrintMore
set_option linter.unusedVariables false
set_option linter.unusedSimpArgs false
attribute [local go_sem] Oper.semAt_some
theorem room_none {F : Fence} (hd : F.depth = none) (k : Nat) : F.room k := fun d h => by rw [hd] at h; cases h
theorem round_any {F : Fence} (hd : F.depth = none) {m m' : Nat} {P : Program} {l : Nat} {f : FuncId} {tmps : Array Value} {assign body : Code} {w : World} {R : Ending → World → Prop}
  (h : RoundIn F m P l f tmps assign body w R) : RoundIn F m' P l f tmps assign body w R := ⟨h.1, fun c cs _ => h.2 c cs (room_none hd _)⟩
theorem yield_any {F : Fence} (hd : F.depth = none) {m : Nat} (m' : Nat) {P : Program} {l : Nat} {args : Array Value} {W : World} {R : Ending → World → Prop} (h : YieldAt F m P l args W R) : YieldAt F m' P l args W R := by
 obtain ⟨fn, tmps, assign, body, hy, hR⟩ := h; exact ⟨fn, tmps, assign, body, hy, round_any hd hR⟩
set_option maxHeartbeats 1000000 in
theorem say_in (n l : Nat) (k i f o nw : Int) (v : Value) (bm by_ : Nat) (W : World) (R : World → Prop)
  (hm : W.cell? ⟨bm, 0, none⟩ = some (.bool true)) (hyb : W.cell? ⟨by_, 0, none⟩ = some (.func (.yield l) #[] #[])) (hv : v.oneCell' = true)
  (hY : YieldAt Fence.wide n Try.prog l #[.agg #[.int .i64 k, .int .i64 i, .int .i64 f, .int .i64 o, .int .i64 nw, v]] (W.alloc (.cells #[.int .i64 k, .int .i64 i, .int .i64 f, .int .i64 o, .int .i64 nw, v] 61)) fun e W' => e = .returned (.bool true) ∧ R W')
  (hR : ∀ W', R W' → W'.cell? ⟨bm, 0, none⟩ = some (.bool true) ∧ W'.frozen? ⟨bm, 0, none⟩ = false) :
  CallsIn Fence.wide n Try.prog 65 #[.agg #[.int .i64 k, .int .i64 i, .int .i64 f, .int .i64 o, .int .i64 nw, v], .pointer (some ⟨bm, 0, none⟩), .pointer (some ⟨by_, 0, none⟩)] W fun e W' =>
   (∃ v, e = .returned v) ∧ ∃ W2, R W2 ∧ W' = W2.setCell ⟨bm, 0, none⟩ (.bool true) := by
 refine callsIn_of_wp Try.func65 rfl trivial ?_ rfl; simp only [Try.ntmps65, List.size_toArray, List.length_cons, List.length_nil, Nat.reduceAdd, Nat.reduceSub, Array.replicate_succ, Array.replicate_zero, List.push_toArray, List.append_toArray, List.nil_append, List.cons_append]; obtain ⟨fn, tmps, assign, body, hy, hRR⟩ := yield_any (m' := n - 1) rfl hY; clear hY; have hm1 := World.cell?_alloc_lt W (.cells #[.int .i64 k, .int .i64 i, .int .i64 f, .int .i64 o, .int .i64 nw, v] 61) ⟨bm, 0, none⟩ (World.block_lt_of_cell? W _ hm); have hy1 := World.cell?_alloc_lt W (.cells #[.int .i64 k, .int .i64 i, .int .i64 f, .int .i64 o, .int .i64 nw, v] 61) ⟨by_, 0, none⟩ (World.block_lt_of_cell? W _ hyb); rw [hm] at hm1; rw [hyb] at hy1; clear hm hyb
 gi_wp2
 refine ⟨(fun h => by cases h), hRR.mono ?_⟩; rintro e W3 ⟨rfl, hr⟩; obtain ⟨hm3, hf3⟩ := hR W3 hr; have HR := Lib.hid hr; clear hr hR hy hRR
 gi_wp2
 go_end0
 exact ⟨⟨_, rfl⟩, W3, HR.out, rfl⟩
def setAt (kind : Int) (i : Nat) (ra rb : List Int) (k : Nat) : List S61 := if rd rb k = rd ra k then [] else [⟨kind, i, k, rd ra k, rd rb k, []⟩]
def setRow (kind : Int) (i : Nat) (ra rb : List Int) (n : Nat) : List S61 := (List.range n).flatMap (setAt kind i ra rb)
def setAll (kind : Int) (a b : List (List Int)) (m : Nat) : List S61 := (List.range m).flatMap fun i => setRow kind i (rd_L1 a i) (rd_L1 b i) (rd_L1 a i).length
def takeL (kind : Int) (a : List (List Int)) (j : Nat) : List S61 := (List.range j).map fun (q : Nat) => ⟨kind, (a.length : Int) - 1 - q, -2, 0, 0, rd_L1 a ((a.length : Int) - 1 - q)⟩
def addL (kind : Int) (b : List (List Int)) (m j : Nat) : List S61 := (List.range j).map fun (q : Nat) => ⟨kind, (m : Int) + q, -1, 0, 0, rd_L1 b ((m : Int) + q)⟩
def chgs (kind : Int) (a b : List (List Int)) (m : Nat) : List S61 := setAll kind a b m ++ takeL kind a (a.length - m) ++ addL kind b m (b.length - m)
theorem setRow_snoc (kind : Int) (i : Nat) (ra rb : List Int) (n : Nat) : setRow kind i ra rb (n + 1) = setRow kind i ra rb n ++ setAt kind i ra rb n := by simp [setRow, List.range_succ, List.flatMap_append]
theorem setAll_snoc (kind : Int) (a b : List (List Int)) (m : Nat) : setAll kind a b (m + 1) = setAll kind a b m ++ setRow kind m (rd_L1 a m) (rd_L1 b m) (rd_L1 a m).length := by simp [setAll, List.range_succ, List.flatMap_append]
theorem takeL_snoc (kind : Int) (a : List (List Int)) (j : Nat) : takeL kind a (j + 1) = takeL kind a j ++ [⟨kind, (a.length : Int) - 1 - j, -2, 0, 0, rd_L1 a ((a.length : Int) - 1 - j)⟩] := by simp [takeL, List.range_succ]
theorem addL_snoc (kind : Int) (b : List (List Int)) (m j : Nat) : addL kind b m (j + 1) = addL kind b m j ++ [⟨kind, (m : Int) + j, -1, 0, 0, rd_L1 b ((m : Int) + j)⟩] := by simp [addL, List.range_succ]
abbrev Yd := S61 × Value
def Yd.cells (x : Yd) : Array Value := #[.int .i64 x.1.f0, .int .i64 x.1.f1, .int .i64 x.1.f2, .int .i64 x.1.f3, .int .i64 x.1.f4, x.2]
def Yd.enc (x : Yd) : Array Value := #[.agg x.cells]
def Yd.T (B : Nat) (x : Yd) (W : World) : Prop := Kd.R (Kd.int .i64) 3 W B (fun _ => True) x.2 x.1.f5
theorem Yd.T_one {B : Nat} {x : Yd} {W : World} (h : x.T B W) : x.2.oneCell' = true := by
 obtain ⟨A, c, e⟩ := Kd.R_slice h; rw [e]; rfl
structure Ctx (w0 : World) (l : Nat) (kind : Int) (m : Nat) (A Ab : Option Addr) (ca cb : Nat) (a b : List (List Int)) (bm ba bb bk gm gy : Nat) (wr : World) : Prop where
 m_ : wr.heap[bm]? = some (.cells #[.int .i64 m] 3 (0, 0))
 a_ : wr.heap[ba]? = some (.cells #[.slice A a.length ca] 64 (0, 0))
 b_ : wr.heap[bb]? = some (.cells #[.slice Ab b.length cb] 64 (0, 0))
 k_ : wr.heap[bk]? = some (.cells #[.int .i64 kind] 3 (0, 0))
 more : wr.heap[gm]? = some (.cells #[.bool true] 4 (0, 0))
 yb : wr.heap[gy]? = some (.cells #[.func (.yield l) #[] #[]] 104 (0, 0))
 bel : Below w0.heap.size w0 wr
section
variable {w0 : World} {l : Nat} {kind : Int} {m : Nat} {A Ab : Option Addr} {ca cb : Nat} {a b : List (List Int)} {bm ba bb bk gm gy : Nat} {wr wr' : World}
theorem Ctx.later (h : Ctx w0 l kind m A Ab ca cb a b bm ba bb bk gm gy wr) (hb : Below wr.heap.size wr wr') : Ctx w0 l kind m A Ab ca cb a b bm ba bb bk gm gy wr' := by
 have q : ∀ i o, wr.heap[i]? = some o → wr'.heap[i]? = some o := fun i o hi => (hb.block i (Array.getElem?_eq_some_iff.1 hi).1).trans hi
 exact ⟨q _ _ h.m_, q _ _ h.a_, q _ _ h.b_, q _ _ h.k_, q _ _ h.more, q _ _ h.yb, h.bel.trans (hb.mono h.bel.size)⟩
theorem Ctx.keep (h : Ctx w0 l kind m A Ab ca cb a b bm ba bb bk gm gy wr) (hb : KeepIter w0.heap.size [30, 61] wr wr') : Ctx w0 l kind m A Ab ca cb a b bm ba bb bk gm gy wr' := by
 have q : ∀ (i : Nat) (c : Array Value) (t : Nat), wr.heap[i]? = some (Obj.cells c t (0, 0)) → t ∉ [30, 61] → wr'.heap[i]? = some (.cells c t (0, 0)) := fun i c t hi ht => hb.same _ _ hi (.inr ⟨c, t, _, rfl, ht⟩)
 exact ⟨q _ _ _ h.m_ (by decide), q _ _ _ h.a_ (by decide), q _ _ _ h.b_ (by decide), q _ _ _ h.k_ (by decide), q _ _ _ h.more (by decide), q _ _ _ h.yb (by decide), h.bel.trans (hb.below h.bel.size)⟩
theorem Ctx.set (h : Ctx w0 l kind m A Ab ca cb a b bm ba bb bk gm gy wr) (hg : w0.heap.size ≤ gm) : Ctx w0 l kind m A Ab ca cb a b bm ba bb bk gm gy (wr.setCell ⟨gm, 0, none⟩ (.bool true)) := by
 have q : ∀ (i : Nat) (c : Array Value) (t : Nat), wr.heap[i]? = some (Obj.cells c t (0, 0)) → t ≠ 4 → (wr.setCell ⟨gm, 0, none⟩ (.bool true)).heap[i]? = some (.cells c t (0, 0)) := fun i c t hi ht => (Below.heap_setCell wr _ _ i (fun e => by
  subst e; have := h.more; rw [hi] at this
  injection this with this
  injection this with _ this
  exact ht this)).trans hi
 refine ⟨q _ _ _ h.m_ (by decide), q _ _ _ h.a_ (by decide), q _ _ _ h.b_ (by decide), q _ _ _ h.k_ (by decide), ?_, q _ _ _ h.yb (by decide), h.bel.setCell (p := ⟨gm, 0, none⟩) hg _⟩; have := blk_set h.more 0 (.bool true)
 simpa using this
theorem say_step {n N : Nat} {B1 : Nat} (J : List Yd → World → Prop) (hJ : ∀ s A C, J s A → StepC B1 [4] A C → J s C)
  (hY : ∀ pre x W, J pre W → pre.length < N → x.T w0.heap.size W → YieldAt Fence.wide (n - 1) Try.prog l x.enc W fun e W' => e = .returned (.bool true) ∧ J (pre ++ [x]) W' ∧ KeepIter w0.heap.size [30, 61] W W')
  (hg1 : B1 ≤ gm) (hB : w0.heap.size ≤ B1) (pre : List Yd) (x : Yd) (W : World) (hj : J pre W) (hlen : pre.length < N) (hc : Ctx w0 l kind m A Ab ca cb a b bm ba bb bk gm gy W) (ht : x.T w0.heap.size W) (n' : Nat) :
  CallsIn Fence.wide n' Try.prog 65 #[.agg #[.int .i64 x.1.f0, .int .i64 x.1.f1, .int .i64 x.1.f2, .int .i64 x.1.f3, .int .i64 x.1.f4, x.2], .pointer (some ⟨gm, 0, none⟩), .pointer (some ⟨gy, 0, none⟩)] W fun e W' =>
   (∃ v, e = .returned v) ∧ J (pre ++ [x]) W' ∧ Ctx w0 l kind m A Ab ca cb a b bm ba bb bk gm gy W' := by
 have hal : Below W.heap.size W (W.alloc (.cells x.cells 61)) := below_alloc (Below.refl _ _) _
 have h1 := say_in n' l x.1.f0 x.1.f1 x.1.f2 x.1.f3 x.1.f4 x.2 gm gy W (fun W2 => J (pre ++ [x]) W2 ∧ Ctx w0 l kind m A Ab ca cb a b bm ba bb bk gm gy W2)
  (cell_of_row _ _ 0 _ 4 (0, 0) hc.more) (cell_of_row _ _ 0 _ 104 (0, 0) hc.yb) (Yd.T_one ht)
  (by
   obtain ⟨fn, tmps, assign, body, hy, hR⟩ := yield_any (F := Fence.wide) rfl n' (hY pre x _ (hJ _ _ _ hj (StepC.alloc B1 [4] W (.cells x.cells 61))) hlen (Kd.R_below ht hal))
   exact ⟨fn, tmps, assign, body, hy, hR.mono (fun e W2 hp => ⟨hp.1, hp.2.1, (hc.later hal).keep hp.2.2⟩)⟩)
  (fun W2 hp => ⟨cell_of_row _ _ 0 _ 4 (0, 0) hp.2.more, by have := hp.2.more; simp [World.frozen?, this]⟩)
 refine h1.mono ?_; rintro e W' ⟨hv, W2, ⟨hj2, hc2⟩, rfl⟩; refine ⟨hv, hJ _ _ _ hj2 ⟨some gm, ?_, fun r e => ?_⟩, hc2.set (by omega)⟩; (· exact ⟨rfl, rfl, rfl, by simp [World.setCell], fun k _ hk => Below.heap_setCell _ _ _ _ (fun e => hk (by rw [e]))⟩)
 ·cases e
  exact ⟨hg1, _, 4, (0, 0), hc2.more, by decide⟩
end
end Go.Proofs.Ytcgpemefmakjiaa.PX
namespace Go.Proofs.Ytcgpemefmakjiaa.PX
open Go.RowKit Go.Shelf Go.Proofs.Ytcgpemefmakjiaa.Iter Go.Proofs.YtcgpemefmakjiaaW.PrintWords Go.Proofs.YtcgpemefmakjiaaW.PrintLast Go.Proofs.YtcgpemefmakjiaaW.PrintMore
set_option linter.unusedVariables false
set_option linter.unusedSimpArgs false
theorem int_row_at {w : World} {A : Option Addr} {n : Nat} {xs : List Int} (h : Kd.C (Kd.int .i64) w A n xs) (k : Nat) (hk : k < n) : ∃ ad, A = some ad ∧ w.cell? (ad.add k) = some (.int .i64 (rd xs k)) := by
 obtain ⟨ad, c, e, _, hK, hc0⟩ := Kd.C_get h (0 : Int) (k : Int) (by omega) (by omega); have hK' : c = [.int .i64 (rd xs k)] := hK; subst hK'; have := hc0 0 _ rfl; exact ⟨ad, e, by simpa [Kd.int, Kd.scalar] using this⟩
set_option maxHeartbeats 400000 in
theorem changes_any (kind m : Int) (A Ab : Option Addr) (na ca nb cb : Nat) (w : World) :
  Calls Try.prog 38 #[.int .i64 kind, .slice A na ca, .slice Ab nb cb, .int .i64 m] w fun e w' =>
   e = .returned (.func (.func 64) #[] #[.pointer (some ⟨w.heap.size + 3, 0, none⟩), .pointer (some ⟨w.heap.size + 1, 0, none⟩), .pointer (some ⟨w.heap.size + 2, 0, none⟩), .pointer (some ⟨w.heap.size, 0, none⟩)]) ∧
   w' = (((w.alloc (.cells #[.int .i64 kind] 3)).alloc (.cells #[.slice A na ca] 64)).alloc (.cells #[.slice Ab nb cb] 64)).alloc (.cells #[.int .i64 m] 3) := by
 go_enter Try.func38, Try.ntmps38
 go_wp2; go_ret; exact ⟨rfl, rfl⟩
def setsN (a b : List (List Int)) (i : Nat) : Nat := (setAll 0 a b i).length
theorem setAt_len (kind kind' : Int) (i i' : Nat) (ra rb : List Int) (k : Nat) : (setAt kind i ra rb k).length = (setAt kind' i' ra rb k).length := by unfold setAt; split <;> rfl
theorem setRow_len (kind kind' : Int) (i i' : Nat) (ra rb : List Int) (n : Nat) : (setRow kind i ra rb n).length = (setRow kind' i' ra rb n).length := by
 induction n with
 | zero => rfl
 | succ n ih => rw [setRow_snoc, setRow_snoc, List.length_append, List.length_append, ih, setAt_len kind kind' i i']
theorem setRow_le (kind : Int) (i : Nat) (ra rb : List Int) (n : Nat) : (setRow kind i ra rb n).length ≤ n := by
 induction n with
 | zero => simp [setRow]
 | succ n ih =>
  rw [setRow_snoc, List.length_append]
  have : (setAt kind i ra rb n).length ≤ 1 := by unfold setAt; split <;> simp
  omega
theorem setAll_len (kind kind' : Int) (a b : List (List Int)) (m : Nat) : (setAll kind a b m).length = (setAll kind' a b m).length := by
 induction m with
 | zero => rfl
 | succ m ih => rw [setAll_snoc, setAll_snoc, List.length_append, List.length_append, ih, setRow_len kind kind' m m]
def bestOf (a b : List (List Int)) : Nat → Int × Nat
 | 0 => ((a.length : Int) + b.length, 0)
 | i + 1 => if (setsN a b (i + 1) : Int) + a.length + b.length - 2 * ((i : Int) + 1) ≤ (bestOf a b i).1 then ((setsN a b (i + 1) : Int) + a.length + b.length - 2 * ((i : Int) + 1), i + 1) else bestOf a b i
def sameM (a b : List (List Int)) : Nat := (bestOf a b (min a.length b.length)).2
theorem bestOf_succ (a b : List (List Int)) (i : Nat) : bestOf a b (i + 1) = if (setsN a b (i + 1) : Int) + a.length + b.length - 2 * ((i : Int) + 1) ≤ (bestOf a b i).1 then ((setsN a b (i + 1) : Int) + a.length + b.length - 2 * ((i : Int) + 1), i + 1) else bestOf a b i := rfl
theorem bestOf_le (a b : List (List Int)) (n : Nat) : (bestOf a b n).2 ≤ n := by
 induction n with
 | zero => exact Nat.le_refl _
 | succ n ih =>
  rw [bestOf_succ]
  split
  (· simp only; omega); (· omega)
theorem bestOf_bd (a b : List (List Int)) (n : Nat) : (bestOf a b n).1 ≤ (a.length : Int) + b.length := by
 induction n with
 | zero => exact Int.le_refl _
 | succ n ih =>
  rw [bestOf_succ]
  split
  (· simp only; omega); (· omega)
theorem bestOf_lo (a b : List (List Int)) (n : Nat) : - 2 * (n : Int) ≤ (bestOf a b n).1 := by
 induction n with
 | zero => simp [bestOf]; omega
 | succ n ih =>
  rw [bestOf_succ]
  split
  (· simp only; omega); (· omega)
theorem setsN_snoc (a b : List (List Int)) (i : Nat) : setsN a b (i + 1) = setsN a b i + (setRow 0 i (rd_L1 a i) (rd_L1 b i) (rd_L1 a i).length).length := by simp [setsN, setAll_snoc]
set_option maxHeartbeats 2000000 in
set_option maxRecDepth 100000 in
theorem same_any (A Ab : Option Addr) (ca cb : Nat) (a b : List (List Int)) (w : World) (ha : Kd.C (Kd.slice 3 (Kd.int .i64)) w A a.length a) (hb : Kd.C (Kd.slice 3 (Kd.int .i64)) w Ab b.length b)
  (hla : a.length ≤ 100000) (hlb : b.length ≤ 100000) (hrow : ∀ i : Nat, i < a.length → i < b.length → (rd_L1 a i).length ≤ 100000 ∧ (rd_L1 a i).length ≤ (rd_L1 b i).length) :
  Calls Try.prog 39 #[.slice A a.length ca, .slice Ab b.length cb] w fun e w' => e = .returned (.int .i64 (sameM a b)) ∧ w = w' := by
 have HRA := Aside0.mk ha; have HRB := Aside0.mk hb; have HROW := Aside0.mk hrow; clear ha hb hrow; obtain ⟨mm, hmm, hm1, hm2⟩ : ∃ mm : Nat, mm = min a.length b.length ∧ mm ≤ a.length ∧ mm ≤ b.length := ⟨_, rfl, Nat.min_le_left _ _, Nat.min_le_right _ _⟩
 have HF : Hid (sameM a b = (bestOf a b mm).2) := by unfold Hid sameM; rw [hmm]
 have hm3 : b.length ≤ mm ∨ a.length ≤ mm := by omega
 clear hmm
 have hsum : ∀ i : Nat, i ≤ mm → setsN a b i ≤ 100000 * i := by
  intro i
  induction i with
  | zero => intro _; simp [setsN, setAll]
  | succ i ih =>
   intro hi; rw [setsN_snoc]; have h1 := setRow_le 0 i (rd_L1 a i) (rd_L1 b i) (rd_L1 a i).length; have h2 := HROW.out i (by omega) (by omega); have h3 := ih (by omega); omega
 have HSUM := Lib.hid hsum; clear hsum
 by_cases hba : b.length < a.length
 all_goals
  skip
  go_enter Try.func39, Try.ntmps39
  go_wp2
  go_loop [22, 5, 6, 7] (fun v22 v5 v6 v7 => ∃ i : Nat, i ≤ mm ∧ v22 = .int .i64 i ∧ v5 = .int .i64 (bestOf a b i).1 ∧ v6 = .int .i64 ((bestOf a b i).2 : Nat) ∧ v7 = .int .i64 (setsN a b i : Nat)) (fun v22 _ _ _ => mm - (intOf v22).toNat)
  case atStart => exact ⟨0, Nat.zero_le _, rfl, rfl, rfl, by simp [setsN, setAll]⟩
  case round =>
   obtain ⟨i, hi, rfl, rfl, rfl, rfl⟩ := hrel
   by_cases hlt : i < mm
   ·obtain ⟨ad, A0, c0, e0, hx0, hl0, hi0⟩ := at_L1 HRA.out i (by omega) (by omega)
    obtain ⟨bd, B0, d0, f0, hy0, hm0, hj0⟩ := at_L1 HRB.out i (by omega) (by omega)
    cases e0
    cases f0
    rw [Int.toNat_natCast] at hx0 hy0; obtain ⟨hr1, hr2⟩ := HROW.out i (by omega) (by omega); have hs0 := HSUM.out i hi; have hrb := hj0.2.1; have hbl := bestOf_lo a b i; have hbb := bestOf_bd a b i; have HI0 := Aside0.mk hi0; have HJ0 := Aside0.mk hj0; clear hl0 hm0 hi0 hj0; have HSN := Lib.hid (setsN_snoc a b i); have HBS := Lib.hid (bestOf_succ a b i)
    have hia : i < a.length := by omega
    have hib : i < b.length := by omega
    go_wp2
    go_loop [30, 7] (fun v30 v7 => ∃ k : Nat, k ≤ (rd_L1 a i).length ∧ v30 = .int .i64 k ∧ v7 = .int .i64 ((setsN a b i + (setRow 0 i (rd_L1 a i) (rd_L1 b i) k).length : Nat) : Int)) (fun v30 _ => (rd_L1 a i).length - (intOf v30).toNat)
    case atStart => exact ⟨0, Nat.zero_le _, rfl, by simp [setRow]⟩
    case round =>
     obtain ⟨k, hk, rfl, rfl⟩ := hrel; have hsr := setRow_le 0 i (rd_L1 a i) (rd_L1 b i) k
     by_cases hkl : k < (rd_L1 a i).length
     ·obtain ⟨ak, rfl, hak⟩ := int_row_at HI0.out k hkl
      obtain ⟨bk, rfl, hbk⟩ := int_row_at HJ0.out k (by omega); have HRS := Lib.hid (setRow_snoc 0 i (rd_L1 a i) (rd_L1 b i) k)
      by_cases hd : rd (rd_L1 b i) k = rd (rd_L1 a i) k
      ·have HE : Hid (setAt 0 i (rd_L1 a i) (rd_L1 b i) k = []) := if_pos hd
       have hd1 : (rd (rd_L1 b i) (k : Int) != rd (rd_L1 a i) (k : Int)) = false := by rw [hd]; simp
       clear hd; go_wp2
       go_round
       case rel => exact ⟨k + 1, by omega, by go_num, by rw [HRS.out, HE.out, List.append_nil]⟩
       case measure => simp [intOf] <;> omega
      ·have HE : Hid (setAt 0 i (rd_L1 a i) (rd_L1 b i) k = [⟨0, i, k, rd (rd_L1 a i) k, rd (rd_L1 b i) k, []⟩]) := if_neg hd
       have hd1 : (rd (rd_L1 b i) (k : Int) != rd (rd_L1 a i) (k : Int)) = true := by simpa using hd
       clear hd
       have hadd : ((setsN a b i + (setRow 0 i (rd_L1 a i) (rd_L1 b i) k).length : Nat) : Int) ≤ 100000000000 := by omega
       go_wp2
       go_round
       case rel => exact ⟨k + 1, by omega, by go_num, by rw [HRS.out, HE.out, List.length_append, List.length_singleton]; go_num⟩
       case measure => simp [intOf] <;> omega
     ·have hkk : k = (rd_L1 a i).length := by omega
      subst hkk; have hs1 := HSUM.out (i + 1) (by omega); rw [← HSN.out]; generalize hsn : setsN a b (i + 1) = sn at HBS hs1 ⊢; have HSNE := Lib.hid hsn; clear hsn HSN hsr
      by_cases hle : (sn : Int) + (a.length : Int) + (b.length : Int) - 2 * ((i : Int) + 1) ≤ (bestOf a b i).1
      ·have HB1 : Hid (bestOf a b (i + 1) = ((sn : Int) + a.length + b.length - 2 * ((i : Int) + 1), i + 1)) := HBS.out.trans (if_pos hle)
       go_wp2
       go_round
       case rel => exact ⟨i + 1, by omega, by go_num, by rw [HB1.out], by rw [HB1.out]; go_num, by rw [HSNE.out]⟩
       case measure => simp [intOf] <;> omega
      ·have HB1 : Hid (bestOf a b (i + 1) = bestOf a b i) := HBS.out.trans (if_neg hle)
       go_wp2
       go_round
       case rel => exact ⟨i + 1, by omega, by go_num, by rw [HB1.out], by rw [HB1.out], by rw [HSNE.out]⟩
       case measure => simp [intOf] <;> omega
   ·have hii : i = mm := by omega
    subst hii
    have hnb : ¬ ((i : Int) < (if b.length < a.length then (b.length : Int) else (a.length : Int))) := by split <;> omega
    clear hnb; have hn1 : b.length ≤ i ∨ a.length ≤ i := hm3; go_wp2; go_ret; exact ⟨by rw [HF.out]; rfl, rfl⟩
end Go.Proofs.Ytcgpemefmakjiaa.PX
namespace Go.Proofs.Ytcgpemefmakjiaa.PX
open Go.RowKit Go.Shelf Go.Proofs.Ytcgpemefmakjiaa.Iter Go.Proofs.YtcgpemefmakjiaaW.PrintWords Go.Proofs.YtcgpemefmakjiaaW.PrintLast Go.Proofs.YtcgpemefmakjiaaW.PrintMore
set_option linter.unusedVariables false
set_option linter.unusedSimpArgs false
attribute [local go_sem] Oper.semAt_some
theorem row_at {w : World} {A : Option Addr} {n : Nat} {xs : List Int} (h : Kd.C (Kd.int .i64) w A n xs) (k : Nat) (hk : k < n) : ∃ ad, A = some ad ∧ w.cell? (ad.add k) = some (.int .i64 (rd xs k)) := by
 obtain ⟨ad, c, e, _, hK, hc0⟩ := Kd.C_get h (0 : Int) (k : Int) (by omega) (by omega); have hK' : c = [.int .i64 (rd xs k)] := hK; subst hK'; have := hc0 0 _ rfl; exact ⟨ad, e, by simpa [Kd.int, Kd.scalar] using this⟩
set_option maxHeartbeats 2000000 in
set_option maxRecDepth 100000 in
theorem changes1_iterates (n : Nat) (w0 W1 : World) (l : Nat) (kind : Int) (m : Nat) (A Ab : Option Addr) (ca cb : Nat) (a b : List (List Int)) (bm ba bb bk : Nat)
  (hm_ : W1.heap[bm]? = some (.cells #[.int .i64 m] 3 (0, 0))) (ha_ : W1.heap[ba]? = some (.cells #[.slice A a.length ca] 64 (0, 0))) (hb_ : W1.heap[bb]? = some (.cells #[.slice Ab b.length cb] 64 (0, 0))) (hk_ : W1.heap[bk]? = some (.cells #[.int .i64 kind] 3 (0, 0)))
  (hbel : Below w0.heap.size w0 W1) (ha : Kd.C (Kd.slice 3 (Kd.int .i64)) w0 A a.length a) (hb : Kd.C (Kd.slice 3 (Kd.int .i64)) w0 Ab b.length b)
  (hma : m ≤ a.length) (hmb : m ≤ b.length) (hrow : ∀ i : Nat, i < m → (rd_L1 a i).length ≤ (rd_L1 b i).length) (hla : ∀ i : Nat, i < a.length → (rd_L1 a i).length < 17592186044416) (hlb : ∀ i : Nat, i < b.length → (rd_L1 b i).length < 17592186044416)
  (hla2 : a.length ≤ 100000) (hlb2 : b.length ≤ 100000) (hra2 : ∀ i : Nat, i < m → (rd_L1 a i).length ≤ 100000) :
  Iterates Fence.wide n Try.prog 64 #[.pointer (some ⟨bm, 0, none⟩), .pointer (some ⟨ba, 0, none⟩), .pointer (some ⟨bb, 0, none⟩), .pointer (some ⟨bk, 0, none⟩)] Yd.enc (Yd.T w0.heap.size) (fun xs _ => xs.map (·.1) = chgs kind a b m) 100000000000 w0.heap.size [30, 61] [4] l W1 := by
 intro J hJ hY h0
 have hsum : ∀ i : Nat, i ≤ m → (setAll kind a b i).length ≤ 100000 * i := by
  intro i
  induction i with
  | zero => intro _; simp [setAll]
  | succ i ih =>
   intro hi; rw [setAll_snoc, List.length_append]; have h1 := setRow_le kind i (rd_L1 a i) (rd_L1 b i) (rd_L1 a i).length; have h2 := hra2 i (by omega); have h3 := ih (by omega); omega
 have HSUM := Aside0.mk hsum; have HRA2 := Aside0.mk hra2; clear hsum hra2; have hla1 := ha.2.1; have hlb1 := hb.2.1; have HRA := Aside0.mk ha; have HRB := Aside0.mk hb; have HJ := Aside0.mk hJ; have HY := Aside0.mk hY; have HROW := Aside0.mk hrow; have HLA := Aside0.mk hla; have HLB := Aside0.mk hlb
 have HC0 := Aside0.mk (show Ctx w0 l kind m A Ab ca cb a b bm ba bb bk (W1.heap.size + 1) W1.heap.size ((W1.alloc (.cells #[.func (.yield l) #[] #[]] 104)).alloc (.cells #[.bool true] 4)) from by
  have hb2 : Below W1.heap.size W1 ((W1.alloc (.cells #[.func (.yield l) #[] #[]] 104)).alloc (.cells #[.bool true] 4)) := below_alloc (below_alloc (Below.refl _ _) _) _
  have q : ∀ i o, W1.heap[i]? = some o → ((W1.alloc (.cells #[.func (.yield l) #[] #[]] 104)).alloc (.cells #[.bool true] 4)).heap[i]? = some o := fun i o hi => (hb2.block i (Array.getElem?_eq_some_iff.1 hi).1).trans hi
  refine ⟨q _ _ hm_, q _ _ ha_, q _ _ hb_, q _ _ hk_, ?_, ?_, hbel.trans (hb2.mono hbel.size)⟩
  ·have := heap_alloc_new (W1.alloc (.cells #[.func (.yield l) #[] #[]] 104)) (.cells #[.bool true] 4)
   rwa [World.size_alloc] at this
  ·exact (Below.heap_alloc _ _ _ (by simp)).trans (heap_alloc_new W1 _))
 have HJ0 := Aside0.mk (show J [] ((W1.alloc (.cells #[.func (.yield l) #[] #[]] 104)).alloc (.cells #[.bool true] 4)) from hJ _ _ _ (hJ _ _ _ h0 (StepC.alloc _ _ _ _)) (StepC.alloc _ _ _ _)); have hsz := hbel.size; have hcm := cell_of_row _ _ 0 _ 3 (0, 0) HC0.out.m_; have hfm := cell_of_row _ _ 0 _ 4 (0, 0) HC0.out.more; clear ha hb hJ hY hrow hla hlb h0 hm_ ha_ hb_ hk_; refine callsIn_of_wp Try.func64 rfl trivial ?_ rfl; simp only [Try.ntmps64, List.size_toArray, List.length_cons, List.length_nil, Nat.reduceAdd, Nat.reduceSub, Array.replicate_succ, Array.replicate_zero, List.push_toArray, List.append_toArray, List.nil_append, List.cons_append]
 gi_wp2
 gi_loopw [15] (fun v wr => ∃ (i : Nat) (pre : List Yd), i ≤ m ∧ v = .int .i64 i ∧ Aside0 (pre.map (·.1) = setAll kind a b i) ∧ Aside0 (J pre wr) ∧ Aside0 (Ctx w0 l kind m A Ab ca cb a b bm ba bb bk (W1.heap.size + 1) W1.heap.size wr)) (fun v _ => m - (intOf v).toNat)
 case atStart => exact ⟨0, [], Nat.zero_le _, rfl, ⟨by simp [setAll]⟩, HJ0, HC0⟩
 case round =>
  obtain ⟨i, pre, hi, rfl, HP, HJi, HC⟩ := hrel; clear HJ0 HC0 hcm hfm
  by_cases hlt : i < m
  ·obtain ⟨wo, rfl⟩ : ∃ wo : World, wo = wr := ⟨_, rfl⟩
   obtain ⟨ad, A0, c0, e0, hx0, hl0, hi0⟩ := at_L1 HRA.out i (by omega) (by omega)
   cases e0
   rw [Int.toNat_natCast] at hx0; have hx1 : wo.cell? (ad.add i) = some (.slice A0 (rd_L1 a i).length c0) := (HC.out.bel.cell (World.block_lt_of_cell? w0 _ hx0)).trans hx0; have hca := cell_of_row _ _ 0 _ 64 (0, 0) HC.out.a_; have hra := hi0.2.1; have HI0 := Aside0.mk hi0; have HX0 := Aside0.mk hx0; clear hx0 hl0 hi0
   gi_wp2
   gi_loopw [23] (fun v wr => ∃ (k : Nat) (pre : List Yd), k ≤ (rd_L1 a i).length ∧ v = .int .i64 k ∧ Aside0 (pre.map (·.1) = setAll kind a b i ++ setRow kind i (rd_L1 a i) (rd_L1 b i) k) ∧ Aside0 (J pre wr) ∧ Aside0 (Ctx w0 l kind m (some ad) Ab ca cb a b bm ba bb bk (W1.heap.size + 1) W1.heap.size wr)) (fun v _ => (rd_L1 a i).length - (intOf v).toNat)
   case atStart => exact ⟨0, pre, Nat.zero_le _, rfl, ⟨by rw [HP.out]; simp [setRow]⟩, HJi, HC⟩
   case round =>
    clear HP HJi HC hca hx1; obtain ⟨k, pre, hk, rfl, HP, HJi, HC⟩ := hrel
    by_cases hkl : k < (rd_L1 a i).length
    ·obtain ⟨bd, B0, d0, f0, hy0, hm0, hj0⟩ := at_L1 HRB.out i (by omega) (by omega)
     cases f0
     rw [Int.toNat_natCast] at hy0; have hrw := HROW.out i hlt; have hrb := hj0.2.1; obtain ⟨ak, rfl, hak⟩ := row_at HI0.out k hkl; obtain ⟨bk', rfl, hbk⟩ := row_at hj0 k (by omega); have hca := cell_of_row _ _ 0 _ 64 (0, 0) HC.out.a_; have hcb := cell_of_row _ _ 0 _ 64 (0, 0) HC.out.b_; have hck := cell_of_row _ _ 0 _ 3 (0, 0) HC.out.k_; have hx1 : wr.cell? (ad.add i) = some (.slice (some ak) (rd_L1 a i).length c0) := (HC.out.bel.cell (World.block_lt_of_cell? w0 _ HX0.out)).trans HX0.out; have hy1 : wr.cell? (bd.add i) = some (.slice (some bk') (rd_L1 b i).length d0) := (HC.out.bel.cell (World.block_lt_of_cell? w0 _ hy0)).trans hy0; have hak1 : wr.cell? (ak.add k) = some (.int .i64 (rd (rd_L1 a i) k)) := (HC.out.bel.cell (World.block_lt_of_cell? w0 _ hak)).trans hak; have hbk1 : wr.cell? (bk'.add k) = some (.int .i64 (rd (rd_L1 b i) k)) := (HC.out.bel.cell (World.block_lt_of_cell? w0 _ hbk)).trans hbk; clear hy0 hm0 hj0 hak hbk
     by_cases hd : rd (rd_L1 b i) k = rd (rd_L1 a i) k
     ·have HE : Hid (setAt kind i (rd_L1 a i) (rd_L1 b i) k = []) := if_pos hd
      have hd1 : (rd (rd_L1 b i) (k : Int) != rd (rd_L1 a i) (k : Int)) = false := by rw [hd]; simp
      clear hd
      gi_wp2
      go_roundw
      case rel => exact ⟨k + 1, pre, by omega, by go_num, ⟨by rw [HP.out, setRow_snoc, HE.out, List.append_nil]⟩, HJi, HC⟩
      case measure => simp [intOf] <;> omega
     ·have HE : Hid (setAt kind i (rd_L1 a i) (rd_L1 b i) k = [⟨kind, i, k, rd (rd_L1 a i) k, rd (rd_L1 b i) k, []⟩]) := if_neg hd
      have hd1 : (rd (rd_L1 b i) (k : Int) != rd (rd_L1 a i) (k : Int)) = true := by simpa using hd
      clear hd
      have HLEN := Aside0.mk (show pre.length < 100000000000 from by
       have e := congrArg List.length HP.out; rw [List.length_map, List.length_append] at e; have h1 := HSUM.out i (by omega); have h2 := setRow_le kind i (rd_L1 a i) (rd_L1 b i) k; have h3 := HRA2.out i hlt
       omega)
      have HS := Aside0.mk (fun n' => say_step (n := n) J HJ.out HY.out (by omega) hsz pre (⟨kind, i, k, rd (rd_L1 a i) k, rd (rd_L1 b i) k, []⟩, .slice none 0 0) wr.drew
       (HJ.out _ _ _ HJi.out ⟨none, grown_of_below (below_drew (Below.refl _ _)) none, fun r e => by cases e⟩) HLEN.out (HC.out.later (below_drew (Below.refl _ _))) (Kd.R_nil _ _ _ _ _) n')
      gi_wp2
      gi_region_with (refine ⟨trivial, (fun h => by cases h), ?_⟩; refine (HS.out _).mono ?_; rintro e W' ⟨⟨v, rfl⟩, hj2, hc2⟩; have HJ2 := Aside0.mk hj2; have HC2 := Aside0.mk hc2; clear hj2 hc2)
      all_goals
       clear HJi HC hca hcb hck hx1 hy1 hak1 hbk1
       gi_wp2
       go_roundw
       case rel => exact ⟨k + 1, pre ++ [_], by omega, by go_num, ⟨by rw [List.map_append, HP.out, setRow_snoc, HE.out, List.append_assoc]; rfl⟩, HJ2, HC2⟩
       case measure => simp [intOf] <;> omega
    ·gi_wp2
     go_roundw
     case rel => exact ⟨i + 1, pre, by omega, by go_num, ⟨by rw [HP.out, setAll_snoc]; congr 2; omega⟩, HJi, HC⟩
     case measure => simp [intOf] <;> omega
  ·have hca := cell_of_row _ _ 0 _ 64 (0, 0) HC.out.a_
   have hcm := cell_of_row _ _ 0 _ 3 (0, 0) HC.out.m_
   have him : i = m := by omega
   subst him; have hq0 : ((a.length : Int) - 1) = ((a.length : Nat) : Int) - 1 := rfl
   gi_wp2
   gi_loopw [11] (fun v wr => ∃ (p : Nat) (pre : List Yd), i ≤ p ∧ p ≤ a.length ∧ v = .int .i64 ((p : Int) - 1) ∧ Aside0 (pre.map (·.1) = setAll kind a b i ++ takeL kind a (a.length - p)) ∧ Aside0 (J pre wr) ∧ Aside0 (Ctx w0 l kind i A Ab ca cb a b bm ba bb bk (W1.heap.size + 1) W1.heap.size wr)) (fun v _ => (intOf v + 1).toNat)
   case atStart => exact ⟨a.length, pre, by omega, Nat.le_refl _, rfl, ⟨by rw [HP.out]; simp [takeL]⟩, HJi, HC⟩
   case round =>
    clear HP HJi HC hca hcm; obtain ⟨p, pre, hp1, hp2, rfl, HP, HJi, HC⟩ := hrel
    by_cases hpm : i < p
    ·obtain ⟨q, rfl⟩ : ∃ q, p = q + 1 := ⟨p - 1, by omega⟩
     have hcast : (((q + 1 : Nat) : Int) - 1) = (q : Int) := by omega
     rw [hcast]; clear hcast
     have HT : Hid (takeL kind a (a.length - q) = takeL kind a (a.length - (q + 1)) ++ [⟨kind, q, -2, 0, 0, rd_L1 a q⟩]) := by
      have e : a.length - q = (a.length - (q + 1)) + 1 := by omega
      have e2 : ((a.length : Int) - 1 - ((a.length - (q + 1) : Nat) : Int)) = q := by omega
      unfold Hid; rw [e, takeL_snoc, e2]
     obtain ⟨ad, A0, c0, e0, hx0, hl0, hi0⟩ := at_L1 HRA.out q (by omega) (by omega)
     cases e0
     rw [Int.toNat_natCast] at hx0; have hx1 : wr.cell? (ad.add q) = some (.slice A0 (rd_L1 a q).length c0) := (HC.out.bel.cell (World.block_lt_of_cell? w0 _ hx0)).trans hx0; have hca := cell_of_row _ _ 0 _ 64 (0, 0) HC.out.a_; have hcm := cell_of_row _ _ 0 _ 3 (0, 0) HC.out.m_; have hck := cell_of_row _ _ 0 _ 3 (0, 0) HC.out.k_; have hra := hi0.2.1; have HCl := Aside0.mk (fun n' => callsIn_wide (n := n').2 (slices_Clone_int_int.calls A0 c0 (rd_L1 a q) (rd_L1 a q) wr.drew (Kd.C_below (Kd.C_below hi0 HC.out.bel) (below_drew (Below.refl _ _))) hl0 (if_pos (HLA.out q (by omega)))))
     have HLEN := Aside0.mk (show pre.length < 100000000000 from by
      have e := congrArg List.length HP.out; rw [List.length_map, List.length_append] at e; have h1 := HSUM.out i (by omega)
      have h2 : (takeL kind a (a.length - (q + 1))).length = a.length - (q + 1) := by simp [takeL]
      omega)
     have HS := Aside0.mk (fun (W : World) (hw : Below wr.heap.size wr W) (v0 : Value) (hR : Kd.R (Kd.int .i64) 3 W wr.heap.size (fun _ => True) v0 (rd_L1 a q)) n' => say_step (n := n) J HJ.out HY.out (by omega) hsz pre (⟨kind, q, -2, 0, 0, rd_L1 a q⟩, v0) W
      (HJ.out _ _ _ HJi.out ⟨none, grown_of_below hw none, fun r e => by cases e⟩) HLEN.out (HC.out.later hw) (Kd.R_lower hR HC.out.bel.size) n')
     have HCK := Aside0.mk (fun (W : World) (hw : Below wr.heap.size wr W) => (hw.cell (p := ⟨bk, 0, none⟩) (World.block_lt_of_cell? wr _ hck)).trans hck); clear hx0 hl0 hi0
     gi_wp2
     gi_region_with (refine ⟨trivial, (fun h => by cases h), ?_⟩; first
      | ((with_reducible refine (HCl.out _).mono ?_); rintro e W2 ⟨v0, rfl, hR, hB2⟩; obtain ⟨Av, cv, rfl⟩ := Kd.R_slice hR; have hB3 : Below wr.heap.size wr W2 := (below_drew (Below.refl _ wr)).trans hB2; have hck2 := HCK.out W2 hB3; have HB3 := Aside0.mk hB3; have HR3 := Aside0.mk hR; clear hB2 hB3 hR)
      | (refine (HS.out _ HB3.out _ HR3.out _).mono ?_; rintro e W' ⟨⟨v, rfl⟩, hj2, hc2⟩; have HJ2 := Aside0.mk hj2; have HC2 := Aside0.mk hc2; clear hj2 hc2))
     all_goals
      clear HJi HC hca hcm hck hx1
      gi_wp2
      go_roundw
      case rel => exact ⟨q, pre ++ [_], by omega, by omega, by go_num, ⟨by rw [List.map_append, HP.out, HT.out, List.append_assoc]; rfl⟩, HJ2, HC2⟩
      case measure => simp [intOf] <;> omega
    ·have hpi : p = i := by omega
     subst hpi; have hcm := cell_of_row _ _ 0 _ 3 (0, 0) HC.out.m_
     have hneg : ¬ ((p : Int) ≤ (p : Int) - 1) := by omega
     gi_wp2
     gi_loopw [12] (fun v wr => ∃ (j : Nat) (pre : List Yd), p + j ≤ b.length ∧ v = .int .i64 ((p : Int) + j) ∧ Aside0 (pre.map (·.1) = setAll kind a b p ++ takeL kind a (a.length - p) ++ addL kind b p j) ∧ Aside0 (J pre wr) ∧ Aside0 (Ctx w0 l kind p A Ab ca cb a b bm ba bb bk (W1.heap.size + 1) W1.heap.size wr)) (fun v _ => b.length - (intOf v).toNat)
     case atStart => exact ⟨0, pre, by omega, by simp, ⟨by rw [HP.out]; simp [addL]⟩, HJi, HC⟩
     case round =>
      clear HP HJi HC hcm; obtain ⟨j, pre, hj, rfl, HP, HJi, HC⟩ := hrel; have hcb := cell_of_row _ _ 0 _ 64 (0, 0) HC.out.b_; have hck := cell_of_row _ _ 0 _ 3 (0, 0) HC.out.k_
      by_cases hjl : p + j < b.length
      ·have hcast : ((p : Int) + (j : Int)) = ((p + j : Nat) : Int) := by omega
       obtain ⟨ad, A0, c0, e0, hx0, hl0, hi0⟩ := at_L1 HRB.out ((p + j : Nat) : Int) (by omega) (by omega)
       cases e0
       rw [Int.toNat_natCast] at hx0
       have HT : Hid (addL kind b p (j + 1) = addL kind b p j ++ [⟨kind, ((p + j : Nat) : Int), -1, 0, 0, rd_L1 b ((p + j : Nat) : Int)⟩]) := by
        unfold Hid; rw [addL_snoc, hcast]
       rw [hcast]; clear hcast; have HLQ := Aside0.mk (HLB.out (p + j) hjl); obtain ⟨q, hq⟩ : ∃ q, q = p + j := ⟨_, rfl⟩; rw [← hq] at hx0 hi0 hl0 HT HLQ hjl ⊢; have HQ := Lib.hid hq; clear hq; have hx1 : wr.cell? (ad.add q) = some (.slice A0 (rd_L1 b q).length c0) := (HC.out.bel.cell (World.block_lt_of_cell? w0 _ hx0)).trans hx0; have hrb := hi0.2.1; have HCl := Aside0.mk (fun n' => callsIn_wide (n := n').2 (slices_Clone_int_int.calls A0 c0 (rd_L1 b q) (rd_L1 b q) wr.drew (Kd.C_below (Kd.C_below hi0 HC.out.bel) (below_drew (Below.refl _ _))) hl0 (if_pos HLQ.out)))
       have HLEN := Aside0.mk (show pre.length < 100000000000 from by
        have e := congrArg List.length HP.out; rw [List.length_map, List.length_append, List.length_append] at e; have h1 := HSUM.out p (by omega)
        have h2 : (takeL kind a (a.length - p)).length = a.length - p := by simp [takeL]
        have h3 : (addL kind b p j).length = j := by simp [addL]
        omega)
       have HS := Aside0.mk (fun (W : World) (hw : Below wr.heap.size wr W) (v0 : Value) (hR : Kd.R (Kd.int .i64) 3 W wr.heap.size (fun _ => True) v0 (rd_L1 b q)) n' => say_step (n := n) J HJ.out HY.out (by omega) hsz pre (⟨kind, q, -1, 0, 0, rd_L1 b q⟩, v0) W
        (HJ.out _ _ _ HJi.out ⟨none, grown_of_below hw none, fun r e => by cases e⟩) HLEN.out (HC.out.later hw) (Kd.R_lower hR HC.out.bel.size) n')
       have HCK := Aside0.mk (fun (W : World) (hw : Below wr.heap.size wr W) => (hw.cell (p := ⟨bk, 0, none⟩) (World.block_lt_of_cell? wr _ hck)).trans hck); clear hx0 hl0 hi0
       gi_wp2
       gi_region_with (refine ⟨trivial, (fun h => by cases h), ?_⟩; first
        | ((with_reducible refine (HCl.out _).mono ?_); rintro e W2 ⟨v0, rfl, hR, hB2⟩; obtain ⟨Av, cv, rfl⟩ := Kd.R_slice hR; have hB3 : Below wr.heap.size wr W2 := (below_drew (Below.refl _ wr)).trans hB2; have hck2 := HCK.out W2 hB3; have HB3 := Aside0.mk hB3; have HR3 := Aside0.mk hR; clear hB2 hB3 hR)
        | (refine (HS.out _ HB3.out _ HR3.out _).mono ?_; rintro e W' ⟨⟨v, rfl⟩, hj2, hc2⟩; have HJ2 := Aside0.mk hj2; have HC2 := Aside0.mk hc2; clear hj2 hc2))
       all_goals
        clear HJi HC hcb hck hx1
        gi_wp2
        go_roundw
        case rel => exact ⟨j + 1, pre ++ [_], by have := HQ.out; omega, by have := HQ.out; rw [show (p : Int) + ((j + 1 : Nat) : Int) = (q : Int) + 1 from by omega], ⟨by rw [List.map_append, HP.out, HT.out, ← List.append_assoc]; rfl⟩, HJ2, HC2⟩
        case measure => simp [intOf] <;> omega
      ·have hjb : p + j = b.length := by omega
       have HF : Hid (pre.map (·.1) = chgs kind a b p) := by
        unfold Hid; rw [HP.out, chgs, show j = b.length - p from by omega]
       have hneg2 : ¬ ((p : Int) + j < (b.length : Int)) := by omega
       clear hjb
       gi_wp2
       go_end0
       exact ⟨⟨_, rfl⟩, pre, HF.out, HJi.out⟩
end Go.Proofs.Ytcgpemefmakjiaa.PX
