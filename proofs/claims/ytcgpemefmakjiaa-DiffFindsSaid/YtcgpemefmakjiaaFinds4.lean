/- Texts of this claim, merged: part 4. -/
import Derived.Test.YtcgpemefmakjiaaFinds3
import Derived.Lib.Hide
import Derived.LoopTactic
import Derived.Sort.LoopGhostIn
import Derived.Test.YtcgpemefmakjiaaFinds2
import Derived.StillTailTactics
import Derived.Deep.QuietTactic
import Derived.BigQuiet
import Derived.OneCell
namespace Go.Proofs.Ytcgpemefmakjiaa.PX
open Go.RowKit Go.Shelf Go.Proofs.Ytcgpemefmakjiaa.Iter Go.Proofs.YtcgpemefmakjiaaW.PrintWords Go.Proofs.YtcgpemefmakjiaaW.PrintLast Go.Proofs.YtcgpemefmakjiaaW.PrintMore
set_option linter.unusedVariables false
set_option linter.unusedSimpArgs false
attribute [local go_sem] Oper.semAt_some
theorem room_none {F : Fence} (hd : F.depth = none) (k : Nat) : F.room k := fun d h => by rw [hd] at h; cases h
theorem round_any {F : Fence} (hd : F.depth = none) {m m' : Nat} {P : Program} {l : Nat} {f : FuncId} {tmps : Array Value} {assign body : Code} {w : World} {R : Ending → World → Prop}
    (h : RoundIn F m P l f tmps assign body w R) : RoundIn F m' P l f tmps assign body w R := ⟨h.1, fun c cs _ => h.2 c cs (room_none hd _)⟩
theorem yield_any {F : Fence} (hd : F.depth = none) {m : Nat} (m' : Nat) {P : Program} {l : Nat} {args : Array Value} {W : World} {R : Ending → World → Prop} (h : YieldAt F m P l args W R) : YieldAt F m' P l args W R := by
  obtain ⟨fn, tmps, assign, body, hy, hR⟩ := h; exact ⟨fn, tmps, assign, body, hy, round_any hd hR⟩
set_option maxHeartbeats 1000000 in
theorem say_in (n l : Nat) (k i f o nw : Int) (v : Value) (bm by_ : Nat) (W : World) (R : World → Prop)
    (hm : W.cell? ⟨bm, 0, none⟩ = some (.bool true)) (hyb : W.cell? ⟨by_, 0, none⟩ = some (.func (.yield l) #[] #[])) (hv : v.oneCell' = true)
    (hY : YieldAt Fence.wide n Try.prog l #[.agg #[.int .i64 k, .int .i64 i, .int .i64 f, .int .i64 o, .int .i64 nw, v]] (W.alloc (.cells #[.int .i64 k, .int .i64 i, .int .i64 f, .int .i64 o, .int .i64 nw, v] 61)) fun e W' => e = .returned (.bool true) ∧ R W')
    (hR : ∀ W', R W' → W'.cell? ⟨bm, 0, none⟩ = some (.bool true) ∧ W'.frozen? ⟨bm, 0, none⟩ = false) :
    CallsIn Fence.wide n Try.prog 65 #[.agg #[.int .i64 k, .int .i64 i, .int .i64 f, .int .i64 o, .int .i64 nw, v], .pointer (some ⟨bm, 0, none⟩), .pointer (some ⟨by_, 0, none⟩)] W fun e W' =>
      (∃ v, e = .returned v) ∧ ∃ W2, R W2 ∧ W' = W2.setCell ⟨bm, 0, none⟩ (.bool true) := by
  refine callsIn_of_wp Try.func65 rfl trivial ?_ rfl; simp only [Try.ntmps65, List.size_toArray, List.length_cons, List.length_nil, Nat.reduceAdd, Nat.reduceSub, Array.replicate_succ, Array.replicate_zero, List.push_toArray, List.append_toArray, List.nil_append, List.cons_append]; obtain ⟨fn, tmps, assign, body, hy, hRR⟩ := yield_any (m' := n - 1) rfl hY; clear hY; have hm1 := World.cell?_alloc_lt W (.cells #[.int .i64 k, .int .i64 i, .int .i64 f, .int .i64 o, .int .i64 nw, v] 61) ⟨bm, 0, none⟩ (World.block_lt_of_cell? W _ hm); have hy1 := World.cell?_alloc_lt W (.cells #[.int .i64 k, .int .i64 i, .int .i64 f, .int .i64 o, .int .i64 nw, v] 61) ⟨by_, 0, none⟩ (World.block_lt_of_cell? W _ hyb); rw [hm] at hm1; rw [hyb] at hy1; clear hm hyb
  gi_wp2
  refine ⟨(fun h => by cases h), hRR.mono ?_⟩; rintro e W3 ⟨rfl, hr⟩; obtain ⟨hm3, hf3⟩ := hR W3 hr; have HR := Lib.hid hr; clear hr hR hy hRR
  gi_wp2
  go_end0
  exact ⟨⟨_, rfl⟩, W3, HR.out, rfl⟩
def setAt (kind : Int) (i : Nat) (ra rb : List Int) (k : Nat) : List S61 := if rd rb k = rd ra k then [] else [⟨kind, i, k, rd ra k, rd rb k, []⟩]
def setRow (kind : Int) (i : Nat) (ra rb : List Int) (n : Nat) : List S61 := (List.range n).flatMap (setAt kind i ra rb)
def setAll (kind : Int) (a b : List (List Int)) (m : Nat) : List S61 := (List.range m).flatMap fun i => setRow kind i (rd_L1 a i) (rd_L1 b i) (rd_L1 a i).length
def takeL (kind : Int) (a : List (List Int)) (j : Nat) : List S61 := (List.range j).map fun (q : Nat) => ⟨kind, (a.length : Int) - 1 - q, -2, 0, 0, rd_L1 a ((a.length : Int) - 1 - q)⟩
def addL (kind : Int) (b : List (List Int)) (m j : Nat) : List S61 := (List.range j).map fun (q : Nat) => ⟨kind, (m : Int) + q, -1, 0, 0, rd_L1 b ((m : Int) + q)⟩
def chgs (kind : Int) (a b : List (List Int)) (m : Nat) : List S61 := setAll kind a b m ++ takeL kind a (a.length - m) ++ addL kind b m (b.length - m)
theorem setRow_snoc (kind : Int) (i : Nat) (ra rb : List Int) (n : Nat) : setRow kind i ra rb (n + 1) = setRow kind i ra rb n ++ setAt kind i ra rb n := by simp [setRow, List.range_succ, List.flatMap_append]
theorem setAll_snoc (kind : Int) (a b : List (List Int)) (m : Nat) : setAll kind a b (m + 1) = setAll kind a b m ++ setRow kind m (rd_L1 a m) (rd_L1 b m) (rd_L1 a m).length := by simp [setAll, List.range_succ, List.flatMap_append]
theorem takeL_snoc (kind : Int) (a : List (List Int)) (j : Nat) : takeL kind a (j + 1) = takeL kind a j ++ [⟨kind, (a.length : Int) - 1 - j, -2, 0, 0, rd_L1 a ((a.length : Int) - 1 - j)⟩] := by simp [takeL, List.range_succ]
theorem addL_snoc (kind : Int) (b : List (List Int)) (m j : Nat) : addL kind b m (j + 1) = addL kind b m j ++ [⟨kind, (m : Int) + j, -1, 0, 0, rd_L1 b ((m : Int) + j)⟩] := by simp [addL, List.range_succ]
abbrev Yd := S61 × Value
def Yd.cells (x : Yd) : Array Value := #[.int .i64 x.1.f0, .int .i64 x.1.f1, .int .i64 x.1.f2, .int .i64 x.1.f3, .int .i64 x.1.f4, x.2]
def Yd.enc (x : Yd) : Array Value := #[.agg x.cells]
def Yd.T (B : Nat) (x : Yd) (W : World) : Prop := Kd.R (Kd.int .i64) 3 W B (fun _ => True) x.2 x.1.f5
theorem Yd.T_one {B : Nat} {x : Yd} {W : World} (h : x.T B W) : x.2.oneCell' = true := by
  obtain ⟨A, c, e⟩ := Kd.R_slice h; rw [e]; rfl
structure Ctx (w0 : World) (l : Nat) (kind : Int) (m : Nat) (A Ab : Option Addr) (ca cb : Nat) (a b : List (List Int)) (bm ba bb bk gm gy : Nat) (wr : World) : Prop where
  m_ : wr.heap[bm]? = some (.cells #[.int .i64 m] 3 (0, 0))
  a_ : wr.heap[ba]? = some (.cells #[.slice A a.length ca] 64 (0, 0))
  b_ : wr.heap[bb]? = some (.cells #[.slice Ab b.length cb] 64 (0, 0))
  k_ : wr.heap[bk]? = some (.cells #[.int .i64 kind] 3 (0, 0))
  more : wr.heap[gm]? = some (.cells #[.bool true] 4 (0, 0))
  yb : wr.heap[gy]? = some (.cells #[.func (.yield l) #[] #[]] 104 (0, 0))
  bel : Below w0.heap.size w0 wr
section
variable {w0 : World} {l : Nat} {kind : Int} {m : Nat} {A Ab : Option Addr} {ca cb : Nat} {a b : List (List Int)} {bm ba bb bk gm gy : Nat} {wr wr' : World}
theorem Ctx.later (h : Ctx w0 l kind m A Ab ca cb a b bm ba bb bk gm gy wr) (hb : Below wr.heap.size wr wr') : Ctx w0 l kind m A Ab ca cb a b bm ba bb bk gm gy wr' := by
  have q : ∀ i o, wr.heap[i]? = some o → wr'.heap[i]? = some o := fun i o hi => (hb.block i (Array.getElem?_eq_some_iff.1 hi).1).trans hi
  exact ⟨q _ _ h.m_, q _ _ h.a_, q _ _ h.b_, q _ _ h.k_, q _ _ h.more, q _ _ h.yb, h.bel.trans (hb.mono h.bel.size)⟩
theorem Ctx.keep (h : Ctx w0 l kind m A Ab ca cb a b bm ba bb bk gm gy wr) (hb : KeepIter w0.heap.size [30, 61] wr wr') : Ctx w0 l kind m A Ab ca cb a b bm ba bb bk gm gy wr' := by
  have q : ∀ (i : Nat) (c : Array Value) (t : Nat), wr.heap[i]? = some (Obj.cells c t (0, 0)) → t ∉ [30, 61] → wr'.heap[i]? = some (.cells c t (0, 0)) := fun i c t hi ht => hb.same _ _ hi (.inr ⟨c, t, _, rfl, ht⟩)
  exact ⟨q _ _ _ h.m_ (by decide), q _ _ _ h.a_ (by decide), q _ _ _ h.b_ (by decide), q _ _ _ h.k_ (by decide), q _ _ _ h.more (by decide), q _ _ _ h.yb (by decide), h.bel.trans (hb.below h.bel.size)⟩
theorem Ctx.set (h : Ctx w0 l kind m A Ab ca cb a b bm ba bb bk gm gy wr) (hg : w0.heap.size ≤ gm) : Ctx w0 l kind m A Ab ca cb a b bm ba bb bk gm gy (wr.setCell ⟨gm, 0, none⟩ (.bool true)) := by
  have q : ∀ (i : Nat) (c : Array Value) (t : Nat), wr.heap[i]? = some (Obj.cells c t (0, 0)) → t ≠ 4 → (wr.setCell ⟨gm, 0, none⟩ (.bool true)).heap[i]? = some (.cells c t (0, 0)) := fun i c t hi ht => (Below.heap_setCell wr _ _ i (fun e => by
    subst e; have := h.more; rw [hi] at this
    injection this with this
    injection this with _ this
    exact ht this)).trans hi
  refine ⟨q _ _ _ h.m_ (by decide), q _ _ _ h.a_ (by decide), q _ _ _ h.b_ (by decide), q _ _ _ h.k_ (by decide), ?_, q _ _ _ h.yb (by decide), h.bel.setCell (p := ⟨gm, 0, none⟩) hg _⟩; have := blk_set h.more 0 (.bool true)
  simpa using this
theorem say_step {n N : Nat} {B1 : Nat} (J : List Yd → World → Prop) (hJ : ∀ s A C, J s A → StepC B1 [4] A C → J s C)
    (hY : ∀ pre x W, J pre W → pre.length < N → x.T w0.heap.size W → YieldAt Fence.wide (n - 1) Try.prog l x.enc W fun e W' => e = .returned (.bool true) ∧ J (pre ++ [x]) W' ∧ KeepIter w0.heap.size [30, 61] W W')
    (hg1 : B1 ≤ gm) (hB : w0.heap.size ≤ B1) (pre : List Yd) (x : Yd) (W : World) (hj : J pre W) (hlen : pre.length < N) (hc : Ctx w0 l kind m A Ab ca cb a b bm ba bb bk gm gy W) (ht : x.T w0.heap.size W) (n' : Nat) :
    CallsIn Fence.wide n' Try.prog 65 #[.agg #[.int .i64 x.1.f0, .int .i64 x.1.f1, .int .i64 x.1.f2, .int .i64 x.1.f3, .int .i64 x.1.f4, x.2], .pointer (some ⟨gm, 0, none⟩), .pointer (some ⟨gy, 0, none⟩)] W fun e W' =>
      (∃ v, e = .returned v) ∧ J (pre ++ [x]) W' ∧ Ctx w0 l kind m A Ab ca cb a b bm ba bb bk gm gy W' := by
  have hal : Below W.heap.size W (W.alloc (.cells x.cells 61)) := below_alloc (Below.refl _ _) _
  have h1 := say_in n' l x.1.f0 x.1.f1 x.1.f2 x.1.f3 x.1.f4 x.2 gm gy W (fun W2 => J (pre ++ [x]) W2 ∧ Ctx w0 l kind m A Ab ca cb a b bm ba bb bk gm gy W2)
    (cell_of_row _ _ 0 _ 4 (0, 0) hc.more) (cell_of_row _ _ 0 _ 104 (0, 0) hc.yb) (Yd.T_one ht)
    (by
      obtain ⟨fn, tmps, assign, body, hy, hR⟩ := yield_any (F := Fence.wide) rfl n' (hY pre x _ (hJ _ _ _ hj (StepC.alloc B1 [4] W (.cells x.cells 61))) hlen (Kd.R_below ht hal))
      exact ⟨fn, tmps, assign, body, hy, hR.mono (fun e W2 hp => ⟨hp.1, hp.2.1, (hc.later hal).keep hp.2.2⟩)⟩)
    (fun W2 hp => ⟨cell_of_row _ _ 0 _ 4 (0, 0) hp.2.more, by have := hp.2.more; simp [World.frozen?, this]⟩)
  refine h1.mono ?_; rintro e W' ⟨hv, W2, ⟨hj2, hc2⟩, rfl⟩; refine ⟨hv, hJ _ _ _ hj2 ⟨some gm, ?_, fun r e => ?_⟩, hc2.set (by omega)⟩; (· exact ⟨rfl, rfl, rfl, by simp [World.setCell], fun k _ hk => Below.heap_setCell _ _ _ _ (fun e => hk (by rw [e]))⟩)
  · cases e
    exact ⟨hg1, _, 4, (0, 0), hc2.more, by decide⟩
end
end Go.Proofs.Ytcgpemefmakjiaa.PX
namespace Go.Proofs.Ytcgpemefmakjiaa.PX
open Go.RowKit Go.Shelf Go.Proofs.Ytcgpemefmakjiaa.Iter Go.Proofs.YtcgpemefmakjiaaW.PrintWords Go.Proofs.YtcgpemefmakjiaaW.PrintLast Go.Proofs.YtcgpemefmakjiaaW.PrintMore
set_option linter.unusedVariables false
set_option linter.unusedSimpArgs false
theorem int_row_at {w : World} {A : Option Addr} {n : Nat} {xs : List Int} (h : Kd.C (Kd.int .i64) w A n xs) (k : Nat) (hk : k < n) : ∃ ad, A = some ad ∧ w.cell? (ad.add k) = some (.int .i64 (rd xs k)) := by
  obtain ⟨ad, c, e, _, hK, hc0⟩ := Kd.C_get h (0 : Int) (k : Int) (by omega) (by omega); have hK' : c = [.int .i64 (rd xs k)] := hK; subst hK'; have := hc0 0 _ rfl; exact ⟨ad, e, by simpa [Kd.int, Kd.scalar] using this⟩
set_option maxHeartbeats 400000 in
theorem changes_any (kind m : Int) (A Ab : Option Addr) (na ca nb cb : Nat) (w : World) :
    Calls Try.prog 38 #[.int .i64 kind, .slice A na ca, .slice Ab nb cb, .int .i64 m] w fun e w' =>
      e = .returned (.func (.func 64) #[] #[.pointer (some ⟨w.heap.size + 3, 0, none⟩), .pointer (some ⟨w.heap.size + 1, 0, none⟩), .pointer (some ⟨w.heap.size + 2, 0, none⟩), .pointer (some ⟨w.heap.size, 0, none⟩)]) ∧
      w' = (((w.alloc (.cells #[.int .i64 kind] 3)).alloc (.cells #[.slice A na ca] 64)).alloc (.cells #[.slice Ab nb cb] 64)).alloc (.cells #[.int .i64 m] 3) := by
  go_enter Try.func38, Try.ntmps38
  go_wp2; go_ret; exact ⟨rfl, rfl⟩
def setsN (a b : List (List Int)) (i : Nat) : Nat := (setAll 0 a b i).length
theorem setAt_len (kind kind' : Int) (i i' : Nat) (ra rb : List Int) (k : Nat) : (setAt kind i ra rb k).length = (setAt kind' i' ra rb k).length := by unfold setAt; split <;> rfl
theorem setRow_len (kind kind' : Int) (i i' : Nat) (ra rb : List Int) (n : Nat) : (setRow kind i ra rb n).length = (setRow kind' i' ra rb n).length := by
  induction n with
  | zero => rfl
  | succ n ih => rw [setRow_snoc, setRow_snoc, List.length_append, List.length_append, ih, setAt_len kind kind' i i']
theorem setRow_le (kind : Int) (i : Nat) (ra rb : List Int) (n : Nat) : (setRow kind i ra rb n).length ≤ n := by
  induction n with
  | zero => simp [setRow]
  | succ n ih =>
    rw [setRow_snoc, List.length_append]
    have : (setAt kind i ra rb n).length ≤ 1 := by unfold setAt; split <;> simp
    omega
theorem setAll_len (kind kind' : Int) (a b : List (List Int)) (m : Nat) : (setAll kind a b m).length = (setAll kind' a b m).length := by
  induction m with
  | zero => rfl
  | succ m ih => rw [setAll_snoc, setAll_snoc, List.length_append, List.length_append, ih, setRow_len kind kind' m m]
def bestOf (a b : List (List Int)) : Nat → Int × Nat
  | 0 => ((a.length : Int) + b.length, 0)
  | i + 1 => if (setsN a b (i + 1) : Int) + a.length + b.length - 2 * ((i : Int) + 1) ≤ (bestOf a b i).1 then ((setsN a b (i + 1) : Int) + a.length + b.length - 2 * ((i : Int) + 1), i + 1) else bestOf a b i
def sameM (a b : List (List Int)) : Nat := (bestOf a b (min a.length b.length)).2
theorem bestOf_succ (a b : List (List Int)) (i : Nat) : bestOf a b (i + 1) = if (setsN a b (i + 1) : Int) + a.length + b.length - 2 * ((i : Int) + 1) ≤ (bestOf a b i).1 then ((setsN a b (i + 1) : Int) + a.length + b.length - 2 * ((i : Int) + 1), i + 1) else bestOf a b i := rfl
theorem bestOf_le (a b : List (List Int)) (n : Nat) : (bestOf a b n).2 ≤ n := by
  induction n with
  | zero => exact Nat.le_refl _
  | succ n ih =>
    rw [bestOf_succ]
    split
    (· simp only; omega); (· omega)
theorem bestOf_bd (a b : List (List Int)) (n : Nat) : (bestOf a b n).1 ≤ (a.length : Int) + b.length := by
  induction n with
  | zero => exact Int.le_refl _
  | succ n ih =>
    rw [bestOf_succ]
    split
    (· simp only; omega); (· omega)
theorem bestOf_lo (a b : List (List Int)) (n : Nat) : - 2 * (n : Int) ≤ (bestOf a b n).1 := by
  induction n with
  | zero => simp [bestOf]; omega
  | succ n ih =>
    rw [bestOf_succ]
    split
    (· simp only; omega); (· omega)
theorem setsN_snoc (a b : List (List Int)) (i : Nat) : setsN a b (i + 1) = setsN a b i + (setRow 0 i (rd_L1 a i) (rd_L1 b i) (rd_L1 a i).length).length := by simp [setsN, setAll_snoc]
set_option maxHeartbeats 2000000 in
set_option maxRecDepth 100000 in
theorem same_any (A Ab : Option Addr) (ca cb : Nat) (a b : List (List Int)) (w : World) (ha : Kd.C (Kd.slice 3 (Kd.int .i64)) w A a.length a) (hb : Kd.C (Kd.slice 3 (Kd.int .i64)) w Ab b.length b)
    (hla : a.length ≤ 100000) (hlb : b.length ≤ 100000) (hrow : ∀ i : Nat, i < a.length → i < b.length → (rd_L1 a i).length ≤ 100000 ∧ (rd_L1 a i).length ≤ (rd_L1 b i).length) :
    Calls Try.prog 39 #[.slice A a.length ca, .slice Ab b.length cb] w fun e w' => e = .returned (.int .i64 (sameM a b)) ∧ w = w' := by
  have HRA := Aside0.mk ha; have HRB := Aside0.mk hb; have HROW := Aside0.mk hrow; clear ha hb hrow; obtain ⟨mm, hmm, hm1, hm2⟩ : ∃ mm : Nat, mm = min a.length b.length ∧ mm ≤ a.length ∧ mm ≤ b.length := ⟨_, rfl, Nat.min_le_left _ _, Nat.min_le_right _ _⟩
  have HF : Hid (sameM a b = (bestOf a b mm).2) := by unfold Hid sameM; rw [hmm]
  have hm3 : b.length ≤ mm ∨ a.length ≤ mm := by omega
  clear hmm
  have hsum : ∀ i : Nat, i ≤ mm → setsN a b i ≤ 100000 * i := by
    intro i
    induction i with
    | zero => intro _; simp [setsN, setAll]
    | succ i ih =>
      intro hi; rw [setsN_snoc]; have h1 := setRow_le 0 i (rd_L1 a i) (rd_L1 b i) (rd_L1 a i).length; have h2 := HROW.out i (by omega) (by omega); have h3 := ih (by omega); omega
  have HSUM := Lib.hid hsum; clear hsum
  by_cases hba : b.length < a.length
  all_goals
    skip
    go_enter Try.func39, Try.ntmps39
    go_wp2
    go_loop [22, 5, 6, 7] (fun v22 v5 v6 v7 => ∃ i : Nat, i ≤ mm ∧ v22 = .int .i64 i ∧ v5 = .int .i64 (bestOf a b i).1 ∧ v6 = .int .i64 ((bestOf a b i).2 : Nat) ∧ v7 = .int .i64 (setsN a b i : Nat)) (fun v22 _ _ _ => mm - (intOf v22).toNat)
    case atStart => exact ⟨0, Nat.zero_le _, rfl, rfl, rfl, by simp [setsN, setAll]⟩
    case round =>
      obtain ⟨i, hi, rfl, rfl, rfl, rfl⟩ := hrel
      by_cases hlt : i < mm
      · obtain ⟨ad, A0, c0, e0, hx0, hl0, hi0⟩ := at_L1 HRA.out i (by omega) (by omega)
        obtain ⟨bd, B0, d0, f0, hy0, hm0, hj0⟩ := at_L1 HRB.out i (by omega) (by omega)
        cases e0
        cases f0
        rw [Int.toNat_natCast] at hx0 hy0; obtain ⟨hr1, hr2⟩ := HROW.out i (by omega) (by omega); have hs0 := HSUM.out i hi; have hrb := hj0.2.1; have hbl := bestOf_lo a b i; have hbb := bestOf_bd a b i; have HI0 := Aside0.mk hi0; have HJ0 := Aside0.mk hj0; clear hl0 hm0 hi0 hj0; have HSN := Lib.hid (setsN_snoc a b i); have HBS := Lib.hid (bestOf_succ a b i)
        have hia : i < a.length := by omega
        have hib : i < b.length := by omega
        go_wp2
        go_loop [30, 7] (fun v30 v7 => ∃ k : Nat, k ≤ (rd_L1 a i).length ∧ v30 = .int .i64 k ∧ v7 = .int .i64 ((setsN a b i + (setRow 0 i (rd_L1 a i) (rd_L1 b i) k).length : Nat) : Int)) (fun v30 _ => (rd_L1 a i).length - (intOf v30).toNat)
        case atStart => exact ⟨0, Nat.zero_le _, rfl, by simp [setRow]⟩
        case round =>
          obtain ⟨k, hk, rfl, rfl⟩ := hrel; have hsr := setRow_le 0 i (rd_L1 a i) (rd_L1 b i) k
          by_cases hkl : k < (rd_L1 a i).length
          · obtain ⟨ak, rfl, hak⟩ := int_row_at HI0.out k hkl
            obtain ⟨bk, rfl, hbk⟩ := int_row_at HJ0.out k (by omega); have HRS := Lib.hid (setRow_snoc 0 i (rd_L1 a i) (rd_L1 b i) k)
            by_cases hd : rd (rd_L1 b i) k = rd (rd_L1 a i) k
            · have HE : Hid (setAt 0 i (rd_L1 a i) (rd_L1 b i) k = []) := if_pos hd
              have hd1 : (rd (rd_L1 b i) (k : Int) != rd (rd_L1 a i) (k : Int)) = false := by rw [hd]; simp
              clear hd; go_wp2
              go_round
              case rel => exact ⟨k + 1, by omega, by go_num, by rw [HRS.out, HE.out, List.append_nil]⟩
              case measure => simp [intOf] <;> omega
            · have HE : Hid (setAt 0 i (rd_L1 a i) (rd_L1 b i) k = [⟨0, i, k, rd (rd_L1 a i) k, rd (rd_L1 b i) k, []⟩]) := if_neg hd
              have hd1 : (rd (rd_L1 b i) (k : Int) != rd (rd_L1 a i) (k : Int)) = true := by simpa using hd
              clear hd
              have hadd : ((setsN a b i + (setRow 0 i (rd_L1 a i) (rd_L1 b i) k).length : Nat) : Int) ≤ 100000000000 := by omega
              go_wp2
              go_round
              case rel => exact ⟨k + 1, by omega, by go_num, by rw [HRS.out, HE.out, List.length_append, List.length_singleton]; go_num⟩
              case measure => simp [intOf] <;> omega
          · have hkk : k = (rd_L1 a i).length := by omega
            subst hkk; have hs1 := HSUM.out (i + 1) (by omega); rw [← HSN.out]; generalize hsn : setsN a b (i + 1) = sn at HBS hs1 ⊢; have HSNE := Lib.hid hsn; clear hsn HSN hsr
            by_cases hle : (sn : Int) + (a.length : Int) + (b.length : Int) - 2 * ((i : Int) + 1) ≤ (bestOf a b i).1
            · have HB1 : Hid (bestOf a b (i + 1) = ((sn : Int) + a.length + b.length - 2 * ((i : Int) + 1), i + 1)) := HBS.out.trans (if_pos hle)
              go_wp2
              go_round
              case rel => exact ⟨i + 1, by omega, by go_num, by rw [HB1.out], by rw [HB1.out]; go_num, by rw [HSNE.out]⟩
              case measure => simp [intOf] <;> omega
            · have HB1 : Hid (bestOf a b (i + 1) = bestOf a b i) := HBS.out.trans (if_neg hle)
              go_wp2
              go_round
              case rel => exact ⟨i + 1, by omega, by go_num, by rw [HB1.out], by rw [HB1.out], by rw [HSNE.out]⟩
              case measure => simp [intOf] <;> omega
      · have hii : i = mm := by omega
        subst hii
        have hnb : ¬ ((i : Int) < (if b.length < a.length then (b.length : Int) else (a.length : Int))) := by split <;> omega
        clear hnb; have hn1 : b.length ≤ i ∨ a.length ≤ i := hm3; go_wp2; go_ret; exact ⟨by rw [HF.out]; rfl, rfl⟩
end Go.Proofs.Ytcgpemefmakjiaa.PX
namespace Go.Proofs.Ytcgpemefmakjiaa.PX
open Go.RowKit Go.Shelf Go.Proofs.Ytcgpemefmakjiaa.Iter Go.Proofs.YtcgpemefmakjiaaW.PrintWords Go.Proofs.YtcgpemefmakjiaaW.PrintLast Go.Proofs.YtcgpemefmakjiaaW.PrintMore
set_option linter.unusedVariables false
set_option linter.unusedSimpArgs false
attribute [local go_sem] Oper.semAt_some
theorem row_at {w : World} {A : Option Addr} {n : Nat} {xs : List Int} (h : Kd.C (Kd.int .i64) w A n xs) (k : Nat) (hk : k < n) : ∃ ad, A = some ad ∧ w.cell? (ad.add k) = some (.int .i64 (rd xs k)) := by
  obtain ⟨ad, c, e, _, hK, hc0⟩ := Kd.C_get h (0 : Int) (k : Int) (by omega) (by omega); have hK' : c = [.int .i64 (rd xs k)] := hK; subst hK'; have := hc0 0 _ rfl; exact ⟨ad, e, by simpa [Kd.int, Kd.scalar] using this⟩
set_option maxHeartbeats 2000000 in
set_option maxRecDepth 100000 in
theorem changes1_iterates (n : Nat) (w0 W1 : World) (l : Nat) (kind : Int) (m : Nat) (A Ab : Option Addr) (ca cb : Nat) (a b : List (List Int)) (bm ba bb bk : Nat)
    (hm_ : W1.heap[bm]? = some (.cells #[.int .i64 m] 3 (0, 0))) (ha_ : W1.heap[ba]? = some (.cells #[.slice A a.length ca] 64 (0, 0))) (hb_ : W1.heap[bb]? = some (.cells #[.slice Ab b.length cb] 64 (0, 0))) (hk_ : W1.heap[bk]? = some (.cells #[.int .i64 kind] 3 (0, 0)))
    (hbel : Below w0.heap.size w0 W1) (ha : Kd.C (Kd.slice 3 (Kd.int .i64)) w0 A a.length a) (hb : Kd.C (Kd.slice 3 (Kd.int .i64)) w0 Ab b.length b)
    (hma : m ≤ a.length) (hmb : m ≤ b.length) (hrow : ∀ i : Nat, i < m → (rd_L1 a i).length ≤ (rd_L1 b i).length) (hla : ∀ i : Nat, i < a.length → (rd_L1 a i).length < 17592186044416) (hlb : ∀ i : Nat, i < b.length → (rd_L1 b i).length < 17592186044416)
    (hla2 : a.length ≤ 100000) (hlb2 : b.length ≤ 100000) (hra2 : ∀ i : Nat, i < m → (rd_L1 a i).length ≤ 100000) :
    Iterates Fence.wide n Try.prog 64 #[.pointer (some ⟨bm, 0, none⟩), .pointer (some ⟨ba, 0, none⟩), .pointer (some ⟨bb, 0, none⟩), .pointer (some ⟨bk, 0, none⟩)] Yd.enc (Yd.T w0.heap.size) (fun xs _ => xs.map (·.1) = chgs kind a b m) 100000000000 w0.heap.size [30, 61] [4] l W1 := by
  intro J hJ hY h0
  have hsum : ∀ i : Nat, i ≤ m → (setAll kind a b i).length ≤ 100000 * i := by
    intro i
    induction i with
    | zero => intro _; simp [setAll]
    | succ i ih =>
      intro hi; rw [setAll_snoc, List.length_append]; have h1 := setRow_le kind i (rd_L1 a i) (rd_L1 b i) (rd_L1 a i).length; have h2 := hra2 i (by omega); have h3 := ih (by omega); omega
  have HSUM := Aside0.mk hsum; have HRA2 := Aside0.mk hra2; clear hsum hra2; have hla1 := ha.2.1; have hlb1 := hb.2.1; have HRA := Aside0.mk ha; have HRB := Aside0.mk hb; have HJ := Aside0.mk hJ; have HY := Aside0.mk hY; have HROW := Aside0.mk hrow; have HLA := Aside0.mk hla; have HLB := Aside0.mk hlb
  have HC0 := Aside0.mk (show Ctx w0 l kind m A Ab ca cb a b bm ba bb bk (W1.heap.size + 1) W1.heap.size ((W1.alloc (.cells #[.func (.yield l) #[] #[]] 104)).alloc (.cells #[.bool true] 4)) from by
    have hb2 : Below W1.heap.size W1 ((W1.alloc (.cells #[.func (.yield l) #[] #[]] 104)).alloc (.cells #[.bool true] 4)) := below_alloc (below_alloc (Below.refl _ _) _) _
    have q : ∀ i o, W1.heap[i]? = some o → ((W1.alloc (.cells #[.func (.yield l) #[] #[]] 104)).alloc (.cells #[.bool true] 4)).heap[i]? = some o := fun i o hi => (hb2.block i (Array.getElem?_eq_some_iff.1 hi).1).trans hi
    refine ⟨q _ _ hm_, q _ _ ha_, q _ _ hb_, q _ _ hk_, ?_, ?_, hbel.trans (hb2.mono hbel.size)⟩
    · have := heap_alloc_new (W1.alloc (.cells #[.func (.yield l) #[] #[]] 104)) (.cells #[.bool true] 4)
      rwa [World.size_alloc] at this
    · exact (Below.heap_alloc _ _ _ (by simp)).trans (heap_alloc_new W1 _))
  have HJ0 := Aside0.mk (show J [] ((W1.alloc (.cells #[.func (.yield l) #[] #[]] 104)).alloc (.cells #[.bool true] 4)) from hJ _ _ _ (hJ _ _ _ h0 (StepC.alloc _ _ _ _)) (StepC.alloc _ _ _ _)); have hsz := hbel.size; have hcm := cell_of_row _ _ 0 _ 3 (0, 0) HC0.out.m_; have hfm := cell_of_row _ _ 0 _ 4 (0, 0) HC0.out.more; clear ha hb hJ hY hrow hla hlb h0 hm_ ha_ hb_ hk_; refine callsIn_of_wp Try.func64 rfl trivial ?_ rfl; simp only [Try.ntmps64, List.size_toArray, List.length_cons, List.length_nil, Nat.reduceAdd, Nat.reduceSub, Array.replicate_succ, Array.replicate_zero, List.push_toArray, List.append_toArray, List.nil_append, List.cons_append]
  gi_wp2
  gi_loopw [15] (fun v wr => ∃ (i : Nat) (pre : List Yd), i ≤ m ∧ v = .int .i64 i ∧ Aside0 (pre.map (·.1) = setAll kind a b i) ∧ Aside0 (J pre wr) ∧ Aside0 (Ctx w0 l kind m A Ab ca cb a b bm ba bb bk (W1.heap.size + 1) W1.heap.size wr)) (fun v _ => m - (intOf v).toNat)
  case atStart => exact ⟨0, [], Nat.zero_le _, rfl, ⟨by simp [setAll]⟩, HJ0, HC0⟩
  case round =>
    obtain ⟨i, pre, hi, rfl, HP, HJi, HC⟩ := hrel; clear HJ0 HC0 hcm hfm
    by_cases hlt : i < m
    · obtain ⟨wo, rfl⟩ : ∃ wo : World, wo = wr := ⟨_, rfl⟩
      obtain ⟨ad, A0, c0, e0, hx0, hl0, hi0⟩ := at_L1 HRA.out i (by omega) (by omega)
      cases e0
      rw [Int.toNat_natCast] at hx0; have hx1 : wo.cell? (ad.add i) = some (.slice A0 (rd_L1 a i).length c0) := (HC.out.bel.cell (World.block_lt_of_cell? w0 _ hx0)).trans hx0; have hca := cell_of_row _ _ 0 _ 64 (0, 0) HC.out.a_; have hra := hi0.2.1; have HI0 := Aside0.mk hi0; have HX0 := Aside0.mk hx0; clear hx0 hl0 hi0
      gi_wp2
      gi_loopw [23] (fun v wr => ∃ (k : Nat) (pre : List Yd), k ≤ (rd_L1 a i).length ∧ v = .int .i64 k ∧ Aside0 (pre.map (·.1) = setAll kind a b i ++ setRow kind i (rd_L1 a i) (rd_L1 b i) k) ∧ Aside0 (J pre wr) ∧ Aside0 (Ctx w0 l kind m (some ad) Ab ca cb a b bm ba bb bk (W1.heap.size + 1) W1.heap.size wr)) (fun v _ => (rd_L1 a i).length - (intOf v).toNat)
      case atStart => exact ⟨0, pre, Nat.zero_le _, rfl, ⟨by rw [HP.out]; simp [setRow]⟩, HJi, HC⟩
      case round =>
        clear HP HJi HC hca hx1; obtain ⟨k, pre, hk, rfl, HP, HJi, HC⟩ := hrel
        by_cases hkl : k < (rd_L1 a i).length
        · obtain ⟨bd, B0, d0, f0, hy0, hm0, hj0⟩ := at_L1 HRB.out i (by omega) (by omega)
          cases f0
          rw [Int.toNat_natCast] at hy0; have hrw := HROW.out i hlt; have hrb := hj0.2.1; obtain ⟨ak, rfl, hak⟩ := row_at HI0.out k hkl; obtain ⟨bk', rfl, hbk⟩ := row_at hj0 k (by omega); have hca := cell_of_row _ _ 0 _ 64 (0, 0) HC.out.a_; have hcb := cell_of_row _ _ 0 _ 64 (0, 0) HC.out.b_; have hck := cell_of_row _ _ 0 _ 3 (0, 0) HC.out.k_; have hx1 : wr.cell? (ad.add i) = some (.slice (some ak) (rd_L1 a i).length c0) := (HC.out.bel.cell (World.block_lt_of_cell? w0 _ HX0.out)).trans HX0.out; have hy1 : wr.cell? (bd.add i) = some (.slice (some bk') (rd_L1 b i).length d0) := (HC.out.bel.cell (World.block_lt_of_cell? w0 _ hy0)).trans hy0; have hak1 : wr.cell? (ak.add k) = some (.int .i64 (rd (rd_L1 a i) k)) := (HC.out.bel.cell (World.block_lt_of_cell? w0 _ hak)).trans hak; have hbk1 : wr.cell? (bk'.add k) = some (.int .i64 (rd (rd_L1 b i) k)) := (HC.out.bel.cell (World.block_lt_of_cell? w0 _ hbk)).trans hbk; clear hy0 hm0 hj0 hak hbk
          by_cases hd : rd (rd_L1 b i) k = rd (rd_L1 a i) k
          · have HE : Hid (setAt kind i (rd_L1 a i) (rd_L1 b i) k = []) := if_pos hd
            have hd1 : (rd (rd_L1 b i) (k : Int) != rd (rd_L1 a i) (k : Int)) = false := by rw [hd]; simp
            clear hd
            gi_wp2
            go_roundw
            case rel => exact ⟨k + 1, pre, by omega, by go_num, ⟨by rw [HP.out, setRow_snoc, HE.out, List.append_nil]⟩, HJi, HC⟩
            case measure => simp [intOf] <;> omega
          · have HE : Hid (setAt kind i (rd_L1 a i) (rd_L1 b i) k = [⟨kind, i, k, rd (rd_L1 a i) k, rd (rd_L1 b i) k, []⟩]) := if_neg hd
            have hd1 : (rd (rd_L1 b i) (k : Int) != rd (rd_L1 a i) (k : Int)) = true := by simpa using hd
            clear hd
            have HLEN := Aside0.mk (show pre.length < 100000000000 from by
              have e := congrArg List.length HP.out; rw [List.length_map, List.length_append] at e; have h1 := HSUM.out i (by omega); have h2 := setRow_le kind i (rd_L1 a i) (rd_L1 b i) k; have h3 := HRA2.out i hlt
              omega)
            have HS := Aside0.mk (fun n' => say_step (n := n) J HJ.out HY.out (by omega) hsz pre (⟨kind, i, k, rd (rd_L1 a i) k, rd (rd_L1 b i) k, []⟩, .slice none 0 0) wr.drew
              (HJ.out _ _ _ HJi.out ⟨none, grown_of_below (below_drew (Below.refl _ _)) none, fun r e => by cases e⟩) HLEN.out (HC.out.later (below_drew (Below.refl _ _))) (Kd.R_nil _ _ _ _ _) n')
            gi_wp2
            gi_region_with (refine ⟨trivial, (fun h => by cases h), ?_⟩; refine (HS.out _).mono ?_; rintro e W' ⟨⟨v, rfl⟩, hj2, hc2⟩; have HJ2 := Aside0.mk hj2; have HC2 := Aside0.mk hc2; clear hj2 hc2)
            all_goals
              clear HJi HC hca hcb hck hx1 hy1 hak1 hbk1
              gi_wp2
              go_roundw
              case rel => exact ⟨k + 1, pre ++ [_], by omega, by go_num, ⟨by rw [List.map_append, HP.out, setRow_snoc, HE.out, List.append_assoc]; rfl⟩, HJ2, HC2⟩
              case measure => simp [intOf] <;> omega
        · gi_wp2
          go_roundw
          case rel => exact ⟨i + 1, pre, by omega, by go_num, ⟨by rw [HP.out, setAll_snoc]; congr 2; omega⟩, HJi, HC⟩
          case measure => simp [intOf] <;> omega
    · have hca := cell_of_row _ _ 0 _ 64 (0, 0) HC.out.a_
      have hcm := cell_of_row _ _ 0 _ 3 (0, 0) HC.out.m_
      have him : i = m := by omega
      subst him; have hq0 : ((a.length : Int) - 1) = ((a.length : Nat) : Int) - 1 := rfl
      gi_wp2
      gi_loopw [11] (fun v wr => ∃ (p : Nat) (pre : List Yd), i ≤ p ∧ p ≤ a.length ∧ v = .int .i64 ((p : Int) - 1) ∧ Aside0 (pre.map (·.1) = setAll kind a b i ++ takeL kind a (a.length - p)) ∧ Aside0 (J pre wr) ∧ Aside0 (Ctx w0 l kind i A Ab ca cb a b bm ba bb bk (W1.heap.size + 1) W1.heap.size wr)) (fun v _ => (intOf v + 1).toNat)
      case atStart => exact ⟨a.length, pre, by omega, Nat.le_refl _, rfl, ⟨by rw [HP.out]; simp [takeL]⟩, HJi, HC⟩
      case round =>
        clear HP HJi HC hca hcm; obtain ⟨p, pre, hp1, hp2, rfl, HP, HJi, HC⟩ := hrel
        by_cases hpm : i < p
        · obtain ⟨q, rfl⟩ : ∃ q, p = q + 1 := ⟨p - 1, by omega⟩
          have hcast : (((q + 1 : Nat) : Int) - 1) = (q : Int) := by omega
          rw [hcast]; clear hcast
          have HT : Hid (takeL kind a (a.length - q) = takeL kind a (a.length - (q + 1)) ++ [⟨kind, q, -2, 0, 0, rd_L1 a q⟩]) := by
            have e : a.length - q = (a.length - (q + 1)) + 1 := by omega
            have e2 : ((a.length : Int) - 1 - ((a.length - (q + 1) : Nat) : Int)) = q := by omega
            unfold Hid; rw [e, takeL_snoc, e2]
          obtain ⟨ad, A0, c0, e0, hx0, hl0, hi0⟩ := at_L1 HRA.out q (by omega) (by omega)
          cases e0
          rw [Int.toNat_natCast] at hx0; have hx1 : wr.cell? (ad.add q) = some (.slice A0 (rd_L1 a q).length c0) := (HC.out.bel.cell (World.block_lt_of_cell? w0 _ hx0)).trans hx0; have hca := cell_of_row _ _ 0 _ 64 (0, 0) HC.out.a_; have hcm := cell_of_row _ _ 0 _ 3 (0, 0) HC.out.m_; have hck := cell_of_row _ _ 0 _ 3 (0, 0) HC.out.k_; have hra := hi0.2.1; have HCl := Aside0.mk (fun n' => callsIn_wide (n := n').2 (slices_Clone_int_int.calls A0 c0 (rd_L1 a q) (rd_L1 a q) wr.drew (Kd.C_below (Kd.C_below hi0 HC.out.bel) (below_drew (Below.refl _ _))) hl0 (if_pos (HLA.out q (by omega)))))
          have HLEN := Aside0.mk (show pre.length < 100000000000 from by
            have e := congrArg List.length HP.out; rw [List.length_map, List.length_append] at e; have h1 := HSUM.out i (by omega)
            have h2 : (takeL kind a (a.length - (q + 1))).length = a.length - (q + 1) := by simp [takeL]
            omega)
          have HS := Aside0.mk (fun (W : World) (hw : Below wr.heap.size wr W) (v0 : Value) (hR : Kd.R (Kd.int .i64) 3 W wr.heap.size (fun _ => True) v0 (rd_L1 a q)) n' => say_step (n := n) J HJ.out HY.out (by omega) hsz pre (⟨kind, q, -2, 0, 0, rd_L1 a q⟩, v0) W
            (HJ.out _ _ _ HJi.out ⟨none, grown_of_below hw none, fun r e => by cases e⟩) HLEN.out (HC.out.later hw) (Kd.R_lower hR HC.out.bel.size) n')
          have HCK := Aside0.mk (fun (W : World) (hw : Below wr.heap.size wr W) => (hw.cell (p := ⟨bk, 0, none⟩) (World.block_lt_of_cell? wr _ hck)).trans hck); clear hx0 hl0 hi0
          gi_wp2
          gi_region_with (refine ⟨trivial, (fun h => by cases h), ?_⟩; first
            | ((with_reducible refine (HCl.out _).mono ?_); rintro e W2 ⟨v0, rfl, hR, hB2⟩; obtain ⟨Av, cv, rfl⟩ := Kd.R_slice hR; have hB3 : Below wr.heap.size wr W2 := (below_drew (Below.refl _ wr)).trans hB2; have hck2 := HCK.out W2 hB3; have HB3 := Aside0.mk hB3; have HR3 := Aside0.mk hR; clear hB2 hB3 hR)
            | (refine (HS.out _ HB3.out _ HR3.out _).mono ?_; rintro e W' ⟨⟨v, rfl⟩, hj2, hc2⟩; have HJ2 := Aside0.mk hj2; have HC2 := Aside0.mk hc2; clear hj2 hc2))
          all_goals
            clear HJi HC hca hcm hck hx1
            gi_wp2
            go_roundw
            case rel => exact ⟨q, pre ++ [_], by omega, by omega, by go_num, ⟨by rw [List.map_append, HP.out, HT.out, List.append_assoc]; rfl⟩, HJ2, HC2⟩
            case measure => simp [intOf] <;> omega
        · have hpi : p = i := by omega
          subst hpi; have hcm := cell_of_row _ _ 0 _ 3 (0, 0) HC.out.m_
          have hneg : ¬ ((p : Int) ≤ (p : Int) - 1) := by omega
          gi_wp2
          gi_loopw [12] (fun v wr => ∃ (j : Nat) (pre : List Yd), p + j ≤ b.length ∧ v = .int .i64 ((p : Int) + j) ∧ Aside0 (pre.map (·.1) = setAll kind a b p ++ takeL kind a (a.length - p) ++ addL kind b p j) ∧ Aside0 (J pre wr) ∧ Aside0 (Ctx w0 l kind p A Ab ca cb a b bm ba bb bk (W1.heap.size + 1) W1.heap.size wr)) (fun v _ => b.length - (intOf v).toNat)
          case atStart => exact ⟨0, pre, by omega, by simp, ⟨by rw [HP.out]; simp [addL]⟩, HJi, HC⟩
          case round =>
            clear HP HJi HC hcm; obtain ⟨j, pre, hj, rfl, HP, HJi, HC⟩ := hrel; have hcb := cell_of_row _ _ 0 _ 64 (0, 0) HC.out.b_; have hck := cell_of_row _ _ 0 _ 3 (0, 0) HC.out.k_
            by_cases hjl : p + j < b.length
            · have hcast : ((p : Int) + (j : Int)) = ((p + j : Nat) : Int) := by omega
              obtain ⟨ad, A0, c0, e0, hx0, hl0, hi0⟩ := at_L1 HRB.out ((p + j : Nat) : Int) (by omega) (by omega)
              cases e0
              rw [Int.toNat_natCast] at hx0
              have HT : Hid (addL kind b p (j + 1) = addL kind b p j ++ [⟨kind, ((p + j : Nat) : Int), -1, 0, 0, rd_L1 b ((p + j : Nat) : Int)⟩]) := by
                unfold Hid; rw [addL_snoc, hcast]
              rw [hcast]; clear hcast; have HLQ := Aside0.mk (HLB.out (p + j) hjl); obtain ⟨q, hq⟩ : ∃ q, q = p + j := ⟨_, rfl⟩; rw [← hq] at hx0 hi0 hl0 HT HLQ hjl ⊢; have HQ := Lib.hid hq; clear hq; have hx1 : wr.cell? (ad.add q) = some (.slice A0 (rd_L1 b q).length c0) := (HC.out.bel.cell (World.block_lt_of_cell? w0 _ hx0)).trans hx0; have hrb := hi0.2.1; have HCl := Aside0.mk (fun n' => callsIn_wide (n := n').2 (slices_Clone_int_int.calls A0 c0 (rd_L1 b q) (rd_L1 b q) wr.drew (Kd.C_below (Kd.C_below hi0 HC.out.bel) (below_drew (Below.refl _ _))) hl0 (if_pos HLQ.out)))
              have HLEN := Aside0.mk (show pre.length < 100000000000 from by
                have e := congrArg List.length HP.out; rw [List.length_map, List.length_append, List.length_append] at e; have h1 := HSUM.out p (by omega)
                have h2 : (takeL kind a (a.length - p)).length = a.length - p := by simp [takeL]
                have h3 : (addL kind b p j).length = j := by simp [addL]
                omega)
              have HS := Aside0.mk (fun (W : World) (hw : Below wr.heap.size wr W) (v0 : Value) (hR : Kd.R (Kd.int .i64) 3 W wr.heap.size (fun _ => True) v0 (rd_L1 b q)) n' => say_step (n := n) J HJ.out HY.out (by omega) hsz pre (⟨kind, q, -1, 0, 0, rd_L1 b q⟩, v0) W
                (HJ.out _ _ _ HJi.out ⟨none, grown_of_below hw none, fun r e => by cases e⟩) HLEN.out (HC.out.later hw) (Kd.R_lower hR HC.out.bel.size) n')
              have HCK := Aside0.mk (fun (W : World) (hw : Below wr.heap.size wr W) => (hw.cell (p := ⟨bk, 0, none⟩) (World.block_lt_of_cell? wr _ hck)).trans hck); clear hx0 hl0 hi0
              gi_wp2
              gi_region_with (refine ⟨trivial, (fun h => by cases h), ?_⟩; first
                | ((with_reducible refine (HCl.out _).mono ?_); rintro e W2 ⟨v0, rfl, hR, hB2⟩; obtain ⟨Av, cv, rfl⟩ := Kd.R_slice hR; have hB3 : Below wr.heap.size wr W2 := (below_drew (Below.refl _ wr)).trans hB2; have hck2 := HCK.out W2 hB3; have HB3 := Aside0.mk hB3; have HR3 := Aside0.mk hR; clear hB2 hB3 hR)
                | (refine (HS.out _ HB3.out _ HR3.out _).mono ?_; rintro e W' ⟨⟨v, rfl⟩, hj2, hc2⟩; have HJ2 := Aside0.mk hj2; have HC2 := Aside0.mk hc2; clear hj2 hc2))
              all_goals
                clear HJi HC hcb hck hx1
                gi_wp2
                go_roundw
                case rel => exact ⟨j + 1, pre ++ [_], by have := HQ.out; omega, by have := HQ.out; rw [show (p : Int) + ((j + 1 : Nat) : Int) = (q : Int) + 1 from by omega], ⟨by rw [List.map_append, HP.out, HT.out, ← List.append_assoc]; rfl⟩, HJ2, HC2⟩
                case measure => simp [intOf] <;> omega
            · have hjb : p + j = b.length := by omega
              have HF : Hid (pre.map (·.1) = chgs kind a b p) := by
                unfold Hid; rw [HP.out, chgs, show j = b.length - p from by omega]
              have hneg2 : ¬ ((p : Int) + j < (b.length : Int)) := by omega
              clear hjb
              gi_wp2
              go_end0
              exact ⟨⟨_, rfl⟩, pre, HF.out, HJi.out⟩
end Go.Proofs.Ytcgpemefmakjiaa.PX
namespace Go.Proofs.Ytcgpemefmakjiaa.Iter
open Go.RowKit Go.Proofs.YtcgpemefmakjiaaW.PrintWords
def marksOf (Ds : List Nat) : List Deferred := Ds.map fun D => { target := .collected D, args := #[] }
def Marked (B : Nat) (Ds : List Nat) (W : World) : Prop := Ds.Nodup ∧ ∀ D, D ∈ Ds → B ≤ D ∧ W.heap[D]? = some (.deferred (some []))
theorem Marked.nil (B : Nat) (W : World) : Marked B [] W := ⟨List.nodup_nil, fun D h => by cases h⟩
theorem Marked.later {B : Nat} {Ds : List Nat} {W W' : World} (h : Marked B Ds W) (hk : ∀ (i : Nat) (o : Obj), W.heap[i]? = some o → o.isCells = false → W'.heap[i]? = some o) : Marked B Ds W' :=
  ⟨h.1, fun D hD => ⟨(h.2 D hD).1, hk _ _ (h.2 D hD).2 rfl⟩⟩
theorem Marked.below {B : Nat} {Ds : List Nat} {W W' : World} (h : Marked B Ds W) (hk : Below W.heap.size W W') : Marked B Ds W' :=
  h.later fun i _ hi _ => (hk.block i (Array.getElem?_eq_some_iff.1 hi).1).trans hi
theorem Marked.lt {B : Nat} {Ds : List Nat} {W : World} (h : Marked B Ds W) : ∀ D, D ∈ Ds → D < W.heap.size := fun D hD => (Array.getElem?_eq_some_iff.1 (h.2 D hD).2).1
theorem Marked.cons {B : Nat} {Ds : List Nat} {W : World} {D : Nat} (h : Marked B Ds W) (hB : B ≤ D) (hD : W.heap[D]? = some (.deferred (some []))) (hn : D ∉ Ds) : Marked B (D :: Ds) W :=
  ⟨List.nodup_cons.2 ⟨hn, h.1⟩, fun E hE => by
    rcases List.mem_cons.1 hE with e | e
    (· subst e; exact ⟨hB, hD⟩)
    · exact h.2 E e⟩
theorem leaves_marks {F : Fence} {n : Nat} {P : Program} {fn : Func} {tmps : Array Value} {R : Ending → World → Prop} {B : Nat} (G : World → Prop)
    (hG : ∀ A C, G A → StepI B [] A C → G C) (hR : ∀ A, G A → LeavesIn F n P fn tmps R [] .returning A) : ∀ (Ds : List Nat) (W : World), Marked B Ds W → G W → LeavesInM F n P fn tmps R (marksOf Ds) .returning W
  | [], W, _, h => hR W h
  | D :: Ds, W, hm, h => by
    obtain ⟨hB, hD⟩ := hm.2 D List.mem_cons_self; have hn := List.nodup_cons.1 hm.1; refine ⟨by simp, .inl ⟨D, _, rfl, run_takeDeferred hD, ?_⟩⟩; refine leaves_marks G hG hR Ds _ ⟨hn.2, fun E hE => ?_⟩ (hG _ _ h (StepI.putObj _ hB hD rfl)); obtain ⟨h1, h2⟩ := hm.2 E (List.mem_cons_of_mem _ hE); exact ⟨h1, (World.putObj_heap_other (fun (e : E = D) => hn.1 (e ▸ hE))).trans h2⟩
theorem R_append_in {α : Type} (d : Kd α) {F : Fence} {n : Nat} {P : Program} {ops : Array Oper} {rest : List Oper} {o : Oper} {a : Act} {Q : Exit → Act → World → Prop} {W : World} (base : Nat) (hgd : o.guard = none) (s x : Operand) (t e : TypeId) (z : Value) (bytes : Nat)
    (ho : o.op = .call { callee := .builtin .append, args := #[s, x], argTypes := #[t, t] })
    (ht : P.underlying t = some (.slice e)) (hinfo : (P.info? e).map (fun i => (i.zero, i.size, i.bytes)) = some (some z, d.sz, bytes)) (hz : z.cells.size = d.sz) (hs0 : 0 < d.sz) (hb0 : 0 < bytes)
    (v : Value) (xs : List α) (p : α) (cs : List Value) (ok okp : Nat → Prop) (hs : a.eval s = v) (hx : a.eval x = .slice (some ⟨W.heap.size, 0, none⟩) 1 1) (hp : d.M W base okp p cs) (hokp : ∀ k, okp k → ok k ∧ some k ≠ v.ownBlock) (hfresh : ∀ k, W.heap.size ≤ k → ok k)
    (HO : d.R e W base ok v xs) (hbase : base ≤ W.heap.size) (hl : (xs.length + 1) * bytes ≤ 140737488355328)
    (h : ∀ v1 w1, d.R e w1 base ok v1 (xs ++ [p]) → (W.alloc (.cells cs.toArray e)).grownBy w1 v.ownBlock → (∃ A c, v1 = .slice A (xs.length + 1) c) → wpListIn F n P ops Q rest (a.put o.dst v1) w1) :
    wpListIn F n P ops Q (o :: rest) a (W.alloc (.cells cs.toArray e)) := by
  obtain ⟨i0, hi, hzz⟩ := Option.map_eq_some_iff.1 hinfo; simp only [Prod.mk.injEq] at hzz; obtain ⟨hz0, hz1, hz2⟩ := hzz; obtain ⟨h0, inner, hown, hr⟩ := HO; have hal : Below W.heap.size W (W.alloc (.cells cs.toArray e)) := (Below.refl _ W).alloc (Nat.le_refl _) _; have hown' : (W.alloc (.cells cs.toArray e)).ownsRow base e d.sz v xs.length inner := hown.alloc _; have hcl : cs.length = d.sz := d.K_len (d.K_of_M hp); have hlen : xs.length + 1 ≤ 140737488355328 := Nat.le_trans (Nat.le_mul_of_pos_right _ hb0) hl
  obtain ⟨v', w', hrun, r1, r2, r3, r4⟩ := run_append_own_at (P := P) (W.alloc (.cells cs.toArray e)) base t o.type e i0 z d.sz bytes ht hi hz0 hz1 hz2 hz hs0 v xs.length inner hown' ⟨W.heap.size, 0, none⟩ 1 1 cs (by rw [hcl]; simp)
    (fun j u hu => by
      rw [show (⟨W.heap.size, 0, none⟩ : Addr).add j = ⟨W.heap.size, j, none⟩ from by unfold Addr.add; split <;> simp_all]; rw [cell_of_row _ _ j _ e (0, 0) (heap_alloc_new W _)]
      simpa using hu) (d.K_one (d.K_of_M hp)) (by simp only [maxLen]; omega) hl (by simp; omega)
  refine wpListIn_plain hgd fun K hK' => ?_
  have hR1 : d.R e w' base ok v' (xs ++ [p]) := by
    have hp' : d.M (W.alloc (.cells cs.toArray e)) base okp p cs := Kd.M_below hp hal; have hr' : Reps (d.M (W.alloc (.cells cs.toArray e)) base (fun k => ok k ∧ some k ≠ v.ownBlock)) d.sz xs inner := hr.imp_ (fun _ _ hq => Kd.M_below hq hal); refine Kd.R_appended h0 hr' hp' hokp (fun k hk => hfresh k (by simp at hk; omega)) r1 r2 ?_
    rcases r4 with r4 | r4
    (· exact .inl r4); (· exact .inr ⟨_, r4, Nat.le_refl _⟩)
  unfold Oper.wpIn; refine ⟨?_, ?_⟩
  · simp [Oper.about, ho, resolve, Target.leads, Sem.run_pure]
  · rw [Oper.semAt_plain F _ _ (by rw [ho]; intro c hc'; cases hc')]
    simp [execOp, ho, resolve, invoke, builtin, hs, hx, hrun, Result.andThen]
    obtain ⟨A1, c1, e1⟩ := Kd.R_slice hR1; exact hK' _ _ (h v' w' hR1 r2 ⟨A1, c1, by rw [e1]; simp⟩)
end Go.Proofs.Ytcgpemefmakjiaa.Iter
namespace Go.Proofs.Ytcgpemefmakjiaa.PX
open Go.RowKit Go.Shelf Go.Proofs.Ytcgpemefmakjiaa.Iter Go.Proofs.YtcgpemefmakjiaaW.PrintWords Go.Proofs.YtcgpemefmakjiaaW.PrintLast Go.Proofs.YtcgpemefmakjiaaW.PrintMore
set_option linter.unusedVariables false
set_option linter.unusedSimpArgs false
attribute [local go_sem] Oper.semAt_some
def okK (l0 l1 : List (List (List Int))) (k : Nat) : Bool := !(decide (0 < (rd_L2 l0 k).length) && decide (0 < (rd_L2 l1 k).length) && (rd_L1 (rd_L2 l0 k) 0).length != (rd_L1 (rd_L2 l1 k) 0).length)
def diffL (l0 l1 : List (List (List Int))) (n : Nat) : List S61 := (List.range n).flatMap fun (k : Nat) => chgs k (rd_L2 l0 k) (rd_L2 l1 k) (sameM (rd_L2 l0 k) (rd_L2 l1 k))
theorem diffL_snoc (l0 l1 : List (List (List Int))) (n : Nat) : diffL l0 l1 (n + 1) = diffL l0 l1 n ++ chgs n (rd_L2 l0 n) (rd_L2 l1 n) (sameM (rd_L2 l0 n) (rd_L2 l1 n)) := by simp [diffL, List.range_succ, List.flatMap_append]
def diffR (l0 l1 : List (List (List Int))) : List S61 × Int :=
  if shapedB l0 && shapedB l1 && decide (l0.length = l1.length) && (List.range l0.length).all (okK l0 l1) then (diffL l0 l1 l0.length, 0) else ([], 2)
def diff_Diff.f (l0 l1 : List (List (List Int))) : Option (List S61 × Int) := if sumLen l0 < 4611686018427387904 ∧ sumLen l1 < 4611686018427387904 then some (diffR l0 l1) else none
def DiffPost (w : World) (r : List S61 × Int) (e : Ending) (w' : World) : Prop := ∃ v0_ : Value, e = .returned (.tuple #[v0_, .int .i64 r.2]) ∧ Kd.N k61 61 w' w.heap.size (fun k_ => w.heap.size ≤ k_) v0_ r.1 ∧ Below w.heap.size w w'
theorem R_stepI {α : Type} {d : Kd α} {e : Nat} {W W' : World} {base B : Nat} {tI : List Nat} {ok : Nat → Prop} {v : Value} {xs : List α} (h : d.R e W base ok v xs) (hs : StepI B tI W W') (ht : ∀ q, q ∈ e :: d.E → q ∉ tI) : d.R e W' base ok v xs :=
  Kd.R_mono (Kd.R_move (Kd.R_bound h) (fun k hk => by
    obtain ⟨_, _, _, q, hq, cells, hc⟩ := hk; rw [hc]
    exact hs.other hc (ht q hq))) (fun _ hk => hk.1)
theorem _root_.Go.Proofs.Ytcgpemefmakjiaa.Iter.Marked.stepI {B B' : Nat} {Ds tI : List Nat} {W W' : World} (h : Marked B Ds W) (hs : StepI B' tI W W') (hlt : ∀ D, D ∈ Ds → D < B') : Marked B Ds W' :=
  ⟨h.1, fun D hD => ⟨(h.2 D hD).1, by
    obtain ⟨row, hg, hr⟩ := hs; refine (hg.block D (Array.getElem?_eq_some_iff.1 (h.2 D hD).2).1 (fun e => ?_)).trans (h.2 D hD).2; have := (hr D e.symm).1; have := hlt D hD
    omega⟩⟩
theorem M_ne {W : World} {base : Nat} {v : Value} {xs : List S61} {x : S61} {cs : List Value} (hp : k61.M W base (fun _ => True) x cs) (hr : Kd.R k61 61 W base (fun _ => True) v xs) : k61.M W base (fun k => True ∧ some k ≠ v.ownBlock) x cs :=
  k61.M_mono (fun k hk => ⟨trivial, fun e => by
    obtain ⟨_, _, _, q, hq, cells, hc⟩ := hk; obtain ⟨cells', hc'⟩ := Kd.R_typed hr k e.symm; rw [hc] at hc'
    injection hc' with hc'
    injection hc' with _ hc'
    subst hc'
    exact absurd hq (by decide)⟩) (k61.M_bound hp)
theorem diff_leave (w : World) (r : List S61 × Int) (tmps : Array Value) (Ds : List Nat) (W : World) (v0 : Value) (h4 : tmps.getD 4 undef = v0) (h5 : tmps.getD 5 undef = .int .i64 r.2) (hm : Marked w.heap.size Ds W)
    (hR : Kd.R k61 61 W w.heap.size (fun _ => True) v0 r.1) (hB : Below w.heap.size w W) : bodyPostM Fence.wide 5 Try.prog Try.f14 (DiffPost w r) .ret { tmps := tmps, defers := marksOf Ds } W := by
  refine leaves_marks (B := w.heap.size) (fun A => Kd.R k61 61 A w.heap.size (fun _ => True) v0 r.1 ∧ Below w.heap.size w A) (fun A C h hs => ⟨R_stepI h.1 hs (fun _ _ => by simp), hs.below h.2 (Nat.le_refl _) (Nat.le_refl _)⟩) (fun A h => ?_) Ds W hm ⟨hR, hB⟩; refine ⟨_, results_tmp2 rfl _ _ _, v0, ?_, Kd.N_mono (Kd.R_N (Kd.R_bound h.1)) (fun k hk => hk.2.1), h.2⟩; rw [h4, h5]
theorem wp_mid {P : Program} {c : Code} {Q : Exit → Act → World → Prop} {a : Act} {w : World} (R : Act → World → Prop) (h1 : c.wp P (fun e a' w' => match e with | .normal => R a' w' | _ => False) a w) (h2 : ∀ a' w', R a' w' → Q .normal a' w') : c.wp P Q a w :=
  wp_mono h1 fun e a' w' h => by
    cases e with
    | normal => exact h2 _ _ h
    | ret => exact h.elim
    | exit id => exact h.elim
    | goto t => exact h.elim
    | panic ch => exact h.elim
    | outgrown => exact h.elim
theorem anyBad_false {n0 : Nat} {l : List (List Int)} (h : anyBad n0 l = false) (i : Nat) (hi : i < l.length) : (rd_L1 l i).length = n0 ∧ 1 ≤ (rd_L1 l i).length ∧ (rd_L1 l i).length ≤ 10 := by
  unfold anyBad at h; rw [List.any_eq_false] at h; have h1 := h l[i] (List.getElem_mem hi)
  have h2 : rd_L1 l (i : Int) = l[i] := by simp [rd_L1, List.getD_eq_getElem?_getD, hi]
  rw [h2]; have h3 : ¬ badLen l[i].length n0 = true := h1; unfold badLen at h3; simp only [Bool.or_eq_true, bne_iff_ne, decide_eq_true_eq, not_or, Decidable.not_not] at h3; omega
theorem sumLen_ge (l : List (List (List Int))) (k : Nat) (hk : k < l.length) : (rd_L2 l k).length ≤ sumLen l := by
  have h2 : rd_L2 l (k : Int) = l[k] := by simp [rd_L2, List.getD_eq_getElem?_getD, hk]
  rw [h2]; have h3 := sumLen_snoc l k hk; have h4 := sumLen_take l (k + 1); omega
theorem shaped_row {l : List (List (List Int))} (h : shapedB l = true) (k : Nat) (hk : k < l.length) : (rd_L2 l k).length ≤ 512 ∧ ∀ i : Nat, i < (rd_L2 l k).length → (rd_L1 (rd_L2 l k) i).length = (rd_L1 (rd_L2 l k) 0).length ∧ 1 ≤ (rd_L1 (rd_L2 l k) i).length ∧ (rd_L1 (rd_L2 l k) i).length ≤ 10 := by
  unfold shapedB at h; simp only [Bool.and_eq_true, decide_eq_true_eq] at h; obtain ⟨⟨h1, h2⟩, h3⟩ := h; refine ⟨Nat.le_trans (sumLen_ge l k hk) h3, fun i hi => ?_⟩; rw [List.all_eq_true] at h1; have h4 := h1 _ (List.getElem_mem hk)
  have h5 : rd_L2 l (k : Int) = l[k] := by simp [rd_L2, List.getD_eq_getElem?_getD, hk]
  rw [h5] at hi ⊢; exact anyBad_false (by simpa using h4) i hi
theorem shaped_six {l : List (List (List Int))} (h : shapedB l = true) : l.length ≤ 6 := by
  unfold shapedB at h; simp only [Bool.and_eq_true, decide_eq_true_eq] at h; exact h.1.2
theorem setAll_le (kind : Int) (a b : List (List Int)) (m : Nat) (h : ∀ i : Nat, i < m → (rd_L1 a i).length ≤ 100000) : (setAll kind a b m).length ≤ 100000 * m := by
  induction m with
  | zero => simp [setAll]
  | succ m ih =>
    rw [setAll_snoc, List.length_append]; have h1 := setRow_le kind m (rd_L1 a m) (rd_L1 b m) (rd_L1 a m).length; have h2 := h m (by omega); have h3 := ih (fun i hi => h i (by omega)); omega
theorem diffL_le {l0 l1 : List (List (List Int))} (h0 : shapedB l0 = true) (h1 : shapedB l1 = true) : ∀ k : Nat, k ≤ l0.length → k ≤ l1.length → (diffL l0 l1 k).length ≤ 100000000000 * k
  | 0, _, _ => by simp [diffL]
  | k + 1, hk, hk' => by
    rw [diffL_snoc, List.length_append]; have h2 := diffL_le h0 h1 k (by omega) (by omega); obtain ⟨h3, h4⟩ := shaped_row h0 k (by omega); obtain ⟨h5, h6⟩ := shaped_row h1 k (by omega); have h7 : sameM (rd_L2 l0 k) (rd_L2 l1 k) ≤ (rd_L2 l0 k).length := Nat.le_trans (bestOf_le _ _ _) (Nat.min_le_left _ _); have h8 := setAll_le k (rd_L2 l0 k) (rd_L2 l1 k) (sameM (rd_L2 l0 k) (rd_L2 l1 k)) (fun i hi => by have := (h4 i (by omega)).2.2; omega)
    have h9 : (chgs k (rd_L2 l0 k) (rd_L2 l1 k) (sameM (rd_L2 l0 k) (rd_L2 l1 k))).length ≤ 100000000000 := by
      unfold chgs; rw [List.length_append, List.length_append]
      have e1 : (takeL k (rd_L2 l0 k) ((rd_L2 l0 k).length - sameM (rd_L2 l0 k) (rd_L2 l1 k))).length = (rd_L2 l0 k).length - sameM (rd_L2 l0 k) (rd_L2 l1 k) := by simp [takeL]
      have e2 : (addL k (rd_L2 l1 k) (sameM (rd_L2 l0 k) (rd_L2 l1 k)) ((rd_L2 l1 k).length - sameM (rd_L2 l0 k) (rd_L2 l1 k))).length = (rd_L2 l1 k).length - sameM (rd_L2 l0 k) (rd_L2 l1 k) := by simp [addL]
      omega
    omega
structure DiffG (w : World) (bo : Nat) (l0 l1 : List (List (List Int))) (k : Nat) (Ds : List Nat) (v : Value) (W : World) : Prop where
  le : k ≤ l0.length
  marks : Marked w.heap.size Ds W
  box : W.heap[bo]? = some (.cells #[v] 30 (0, 0))
  row : Kd.R k61 61 W w.heap.size (fun _ => True) v (diffL l0 l1 k)
  bel : Below w.heap.size w W
  good : ∀ j, j < k → okK l0 l1 j = true
def DiffJ (w : World) (bo : Nat) (l0 l1 : List (List (List Int))) (k : Nat) (Ds : List Nat) (s : List Yd) (W : World) : Prop :=
  ∃ v', Marked w.heap.size Ds W ∧ W.heap[bo]? = some (.cells #[v'] 30 (0, 0)) ∧ Kd.R k61 61 W w.heap.size (fun _ => True) v' (diffL l0 l1 k ++ s.map (·.1)) ∧ Below w.heap.size w W
def DiffI (w : World) (bo : Nat) (A0 : Option Addr) (c0 : Nat) (l0 : List (List (List Int))) (A1 : Option Addr) (c1 : Nat) (l1 : List (List (List Int))) (a : Act) (W : World) : Prop :=
  ∃ (k : Nat) (Ds : List Nat) (v : Value) (u7 u8 u27 u28 u29 u30 u31 u32 u33 u34 u35 u36 u37 u38 u39 u40 u41 u42 u43 u44 u45 u46 u47 u48 u49 u50 u51 u52 u53 u54 u55 u56 u57 u58 u59 u60 u61 u62 u63 u64 u65 u66 u67 u68 u69 u70 u71 u72 u73 u74 u75 u76 u77 u78 u79 u80 u81 u82 u83 u84 : Value), a = { tmps := #[.slice A0 l0.length c0, .slice A1 l1.length c1, undef, undef, .slice none 0 0, .int .i64 0, .pointer (some ⟨bo, 0, none⟩), u7, u8, .slice A0 l0.length c0, .bool true, .bool false, .bool false, .slice A1 l1.length c1, .bool true, .bool false, .bool false, .bool false, .slice A0 l0.length c0, .int .i64 l0.length, .slice A1 l1.length c1, .int .i64 l1.length, .bool false, .bool false, .slice A0 l0.length c0, .int .i64 l0.length, .int .i64 k, u27, u28, u29, u30, u31, u32, u33, u34, u35, u36, u37, u38, u39, u40, u41, u42, u43, u44, u45, u46, u47, u48, u49, u50, u51, u52, u53, u54, u55, u56, u57, u58, u59, u60, u61, u62, u63, u64, u65, u66, u67, u68, u69, u70, u71, u72, u73, u74, u75, u76, u77, u78, u79, u80, u81, u82, u83, u84, undef], defers := marksOf Ds } ∧ DiffG w bo l0 l1 k Ds v W
set_option maxHeartbeats 1000000 in
set_option maxRecDepth 100000 in
theorem diff_in (A0 : Option Addr) (c0 : Nat) (l0 : List (List (List Int))) (A1 : Option Addr) (c1 : Nat) (l1 : List (List (List Int))) (w : World) (hr0 : Kd.C (Kd.slice 22 (Kd.slice 3 (Kd.int .i64))) w A0 l0.length l0) (hc0 : l0.length ≤ c0)
    (hr1 : Kd.C (Kd.slice 22 (Kd.slice 3 (Kd.int .i64))) w A1 l1.length l1) (hc1 : l1.length ≤ c1) (hs0 : sumLen l0 < 4611686018427387904) (hs1 : sumLen l1 < 4611686018427387904) :
    Calls Try.prog 14 #[.slice A0 l0.length c0, .slice A1 l1.length c1] w (DiffPost w (diffR l0 l1)) := by
  refine (callsIn_wide (n := 5)).1 (callsIn_of_wp_marks Try.func14 rfl trivial ?_ rfl); refine wpIn_wide.2 ?_; simp only [Try.ntmps14, List.size_toArray, List.length_cons, List.length_nil, Nat.reduceAdd, Nat.reduceSub, Array.replicate_succ, Array.replicate_zero, List.push_toArray, List.append_toArray, List.nil_append, List.cons_append]; have hlen0 := hr0.2.1; have hlen1 := hr1.2.1; have H0 := Aside0.mk (diff_shaped.calls A0 c0 l0 (shapedB l0) w hr0 hc0 (if_pos hs0)); have H1 := Aside0.mk (fun (W : World) (hb : Below w.heap.size w W) => diff_shaped.calls A1 c1 l1 (shapedB l1) W (Kd.C_below hr1 hb) hc1 (if_pos hs1)); have HR0 := Aside0.mk hr0; have HR1 := Aside0.mk hr1; have HC0 := Aside0.mk hc0; have HC1 := Aside0.mk hc1; clear hr0 hr1 hc0 hc1 hs0 hs1; generalize hb0 : shapedB l0 = b0 at H0; generalize hb1 : shapedB l1 = b1 at H1; have HB0 := Lib.hid hb0; have HB1 := Lib.hid hb1; clear hb0 hb1
  cases b0 with
  | false =>
    go_wp2_with (go_at_call 37; refine H0.out.mono ?_; rintro e w1 ⟨rfl, hb⟩; have HB := Aside0.mk hb; clear hb)
    exact diff_leave w _ _ [] w1 _ rfl (by unfold diffR; rw [HB0.out]; rfl) (Marked.nil _ _) (by unfold diffR; rw [HB0.out]; exact Kd.R_nil _ _ _ _ _) HB.out
  | true =>
    cases b1 with
    | false =>
      go_wp2_with fail
      refine H0.out.mono ?_; rintro e w1 ⟨rfl, hb⟩; have HB := Aside0.mk hb; clear hb
      go_wp2_with fail
      refine (H1.out _ HB.out).mono ?_; rintro e w2 ⟨rfl, hb⟩; have HB2 := Aside0.mk (HB.out.trans (hb.mono HB.out.size)); clear hb; go_wp2; exact diff_leave w _ _ [] w2 _ rfl (by unfold diffR; rw [HB0.out, HB1.out]; rfl) (Marked.nil _ _) (by unfold diffR; rw [HB0.out, HB1.out]; exact Kd.R_nil _ _ _ _ _) HB2.out
    | true =>
      by_cases hll : l0.length = l1.length
      · have hne : ((l0.length : Int) != (l1.length : Int)) = false := by rw [hll]; simp
        have HLL := Lib.hid hll; clear hll
        go_wp2_with fail
        refine H0.out.mono ?_; rintro e w1 ⟨rfl, hb⟩; have HB := Aside0.mk hb; clear hb
        go_wp2_with fail
        refine (H1.out _ HB.out).mono ?_; rintro e w2 ⟨rfl, hb⟩; have HB2 := Aside0.mk (HB.out.trans (hb.mono HB.out.size)); clear hb; go_wp2; have hbo := HB2.out.size; refine wp_loop (DiffI w w2.heap.size A0 c0 l0 A1 c1 l1) (fun a _ => l0.length - (intOf (a.tmps.getD 26 undef)).toNat) ?_ (fun a' W hI => ?_); (· exact ⟨0, [], .slice none 0 0, _, _, _, _, _, _, _, _, _, _, _, _, _, _, _, _, _, _, _, _, _, _, _, _, _, _, _, _, _, _, _, _, _, _, _, _, _, _, _, _, _, _, _, _, _, _, _, _, _, _, _, _, _, _, _, _, _, _, _, _, rfl, ⟨Nat.zero_le _, Marked.nil _ _, heap_alloc_new w2 _, Kd.R_nil _ _ _ _ _, below_alloc HB2.out _, fun j hj => by omega⟩⟩)
        · obtain ⟨k, Ds, v, u7, u8, u27, u28, u29, u30, u31, u32, u33, u34, u35, u36, u37, u38, u39, u40, u41, u42, u43, u44, u45, u46, u47, u48, u49, u50, u51, u52, u53, u54, u55, u56, u57, u58, u59, u60, u61, u62, u63, u64, u65, u66, u67, u68, u69, u70, u71, u72, u73, u74, u75, u76, u77, u78, u79, u80, u81, u82, u83, u84, rfl, hG⟩ := hI
          have HG := Aside0.mk hG; have hk := hG.le; clear hG
          by_cases hlt : k < l0.length
          · have hk1 : k < l1.length := by have := HLL.out; omega
            obtain ⟨ad, Aa, ca, e0, hx0, hl0, hi0⟩ := at_L2 HR0.out k (by omega) (by omega); obtain ⟨bd, Ab, cb, f0, hy0, hm0, hj0⟩ := at_L2 HR1.out k (by omega) (by omega)
            cases e0
            cases f0
            rw [Int.toNat_natCast] at hx0 hy0; have hx1 : W.cell? (ad.add k) = some (.slice Aa (rd_L2 l0 k).length ca) := (HG.out.bel.cell (World.block_lt_of_cell? w _ hx0)).trans hx0; have hy1 : W.cell? (bd.add k) = some (.slice Ab (rd_L2 l1 k).length cb) := (HG.out.bel.cell (World.block_lt_of_cell? w _ hy0)).trans hy0; have HS0 := Aside0.mk (shaped_row HB0.out k hlt); have HS1 := Aside0.mk (shaped_row HB1.out k hk1); have hla := HS0.out.1; have hlb := HS1.out.1; have HI0 := Aside0.mk hi0; have HJ0 := Aside0.mk hj0; have HX0 := Aside0.mk hx0; have HY0 := Aside0.mk hy0; clear hx0 hy0 hl0 hm0 hi0 hj0; have HOK : Hid (okK l0 l1 k = !(decide (0 < (rd_L2 l0 k).length) && decide (0 < (rd_L2 l1 k).length) && (rd_L1 (rd_L2 l0 k) 0).length != (rd_L1 (rd_L2 l1 k) 0).length)) := rfl
            go_upto_region 7 with (fail)
            refine wp_mid (fun a' W' => ∃ (nq : Nat) (q29 q30 q31 q32 q33 q34 q35 q36 q37 q38 q39 q40 q41 q42 q43 q44 q45 q46 q47 q48 q49 q50 q51 q52 q53 q54 q55 q56 q57 q58 : Value), a' = { tmps := #[.slice (some ad) l0.length c0, .slice (some bd) l1.length c1, undef, undef, .slice none 0 0, .int .i64 0, .pointer (some ⟨w2.heap.size, 0, none⟩), .int .i64 k, u8, .slice (some ad) l0.length c0, .bool true, .bool false, .bool false, .slice (some bd) l1.length c1, .bool true, .bool false, .bool false, .bool false, .slice (some ad) l0.length c0, .int .i64 l0.length, .slice (some bd) l1.length c1, .int .i64 l1.length, .bool false, .bool false, .slice (some ad) l0.length c0, .int .i64 l0.length, .int .i64 k, .bool true, .int .i64 k, q29, q30, q31, q32, q33, q34, q35, q36, q37, q38, q39, q40, q41, q42, q43, q44, q45, q46, q47, q48, q49, q50, q51, q52, q53, q54, q55, q56, q57, q58, .bool (!okK l0 l1 k), u60, u61, u62, u63, u64, u65, u66, u67, u68, u69, u70, u71, u72, u73, u74, u75, u76, u77, u78, u79, u80, u81, u82, u83, u84, undef], defers := marksOf Ds } ∧ W' = W.drewN nq) ?_ ?_
            · by_cases ha : 0 < (rd_L2 l0 k).length
              · have ha1 : (0 : Int) < ((rd_L2 l0 k).length : Int) := by omega
                obtain ⟨aa, Ar, cr, ea, hxa, hla', hia⟩ := at_L1 HI0.out 0 (by omega) (by omega)
                by_cases hb : 0 < (rd_L2 l1 k).length
                · have hb1 : (0 : Int) < ((rd_L2 l1 k).length : Int) := by omega
                  obtain ⟨ab, Br, dr, eb, hxb, hlb', hib⟩ := at_L1 HJ0.out 0 (by omega) (by omega)
                  cases ea
                  cases eb
                  have hxa1 : W.cell? aa = some (.slice Ar (rd_L1 (rd_L2 l0 k) 0).length cr) := by
                    have : w.cell? aa = some (.slice Ar (rd_L1 (rd_L2 l0 k) 0).length cr) := by simpa [Addr.add] using hxa
                    exact (HG.out.bel.cell (World.block_lt_of_cell? w _ this)).trans this
                  have hxb1 : W.cell? ab = some (.slice Br (rd_L1 (rd_L2 l1 k) 0).length dr) := by
                    have : w.cell? ab = some (.slice Br (rd_L1 (rd_L2 l1 k) 0).length dr) := by simpa [Addr.add] using hxb
                    exact (HG.out.bel.cell (World.block_lt_of_cell? w _ this)).trans this
                  clear hxa hxb hla' hlb' hia hib
                  by_cases hw : (rd_L1 (rd_L2 l0 k) 0).length = (rd_L1 (rd_L2 l1 k) 0).length
                  · have hw1 : (((rd_L1 (rd_L2 l0 k) 0).length : Int) != ((rd_L1 (rd_L2 l1 k) 0).length : Int)) = false := by rw [hw]; simp
                    have HV : Hid ((!okK l0 l1 k) = false) := by unfold Hid; rw [HOK.out]; simp [hw]
                    clear hw
                    go_quiet (fail)
                    exact ⟨nq, _, _, _, _, _, _, _, _, _, _, _, _, _, _, _, _, _, _, _, _, _, _, _, _, _, _, _, _, _, _, by rw [HV.out], rfl⟩
                  · have hw1 : (((rd_L1 (rd_L2 l0 k) 0).length : Int) != ((rd_L1 (rd_L2 l1 k) 0).length : Int)) = true := by rw [bne_iff_ne]; omega
                    have HV : Hid ((!okK l0 l1 k) = true) := by unfold Hid; rw [HOK.out]; simp [ha, hb, hw]
                    clear hw
                    go_quiet (fail)
                    exact ⟨nq, _, _, _, _, _, _, _, _, _, _, _, _, _, _, _, _, _, _, _, _, _, _, _, _, _, _, _, _, _, _, by rw [HV.out], rfl⟩
                · have hb1 : decide ((0 : Int) < ((rd_L2 l1 k).length : Int)) = false := decide_eq_false (by omega)
                  have HV : Hid ((!okK l0 l1 k) = false) := by unfold Hid; rw [HOK.out]; simp [hb]
                  clear hxa hla' hia
                  go_quiet (fail)
                  exact ⟨nq, _, _, _, _, _, _, _, _, _, _, _, _, _, _, _, _, _, _, _, _, _, _, _, _, _, _, _, _, _, _, by rw [HV.out], rfl⟩
              · have ha1 : decide ((0 : Int) < ((rd_L2 l0 k).length : Int)) = false := decide_eq_false (by omega)
                have HV : Hid ((!okK l0 l1 k) = false) := by unfold Hid; rw [HOK.out]; simp [ha]
                go_quiet (fail)
                exact ⟨nq, _, _, _, _, _, _, _, _, _, _, _, _, _, _, _, _, _, _, _, _, _, _, _, _, _, _, _, _, _, _, by rw [HV.out], rfl⟩
            · rintro a' W' ⟨nq, q29, q30, q31, q32, q33, q34, q35, q36, q37, q38, q39, q40, q41, q42, q43, q44, q45, q46, q47, q48, q49, q50, q51, q52, q53, q54, q55, q56, q57, q58, rfl, rfl⟩
              by_cases hok : okK l0 l1 k = true
              · have hok1 : (!okK l0 l1 k) = false := by rw [hok]; rfl
                have HOK1 := Lib.hid hok; rw [hok1]; clear hok hok1
                have HROW := Aside0.mk (show ∀ i : Nat, i < (rd_L2 l0 k).length → i < (rd_L2 l1 k).length → (rd_L1 (rd_L2 l0 k) i).length ≤ 100000 ∧ (rd_L1 (rd_L2 l0 k) i).length ≤ (rd_L1 (rd_L2 l1 k) i).length from by
                  intro i h1 h2; have h3 := HOK1.out; rw [HOK.out] at h3
                  have ha : 0 < (rd_L2 l0 k).length := by omega
                  have hb : 0 < (rd_L2 l1 k).length := by omega
                  simp [ha, hb] at h3
                  have h4 := HS0.out.2 i h1; have h5 := HS1.out.2 i h2
                  omega)
                have HSA := Aside0.mk (fun (W' : World) (hb : Below w.heap.size w W') => (same_any Aa Ab ca cb (rd_L2 l0 k) (rd_L2 l1 k) W' (Kd.C_below HI0.out hb) (Kd.C_below HJ0.out hb) (by omega) (by omega) HROW.out).mono (R' := fun e w' => e = .returned (.int .i64 (sameM (rd_L2 l0 k) (rd_L2 l1 k))) ∧ w' = W') (fun e w' h => ⟨h.1, h.2.symm⟩)); have hsm1 : sameM (rd_L2 l0 k) (rd_L2 l1 k) ≤ (rd_L2 l0 k).length := Nat.le_trans (bestOf_le _ _ _) (Nat.min_le_left _ _); have hsm2 : sameM (rd_L2 l0 k) (rd_L2 l1 k) ≤ (rd_L2 l1 k).length := Nat.le_trans (bestOf_le _ _ _) (Nat.min_le_right _ _); have HBn := Aside0.mk (pw_below_drewN HG.out.bel nq); go_wp2; obtain ⟨W9, hW9⟩ : ∃ W9, W9 = W.drewN nq := ⟨_, rfl⟩
                have hx9 : W9.cell? (ad.add k) = some (.slice Aa (rd_L2 l0 k).length ca) := by rw [hW9]; exact hx1
                have hy9 : W9.cell? (bd.add k) = some (.slice Ab (rd_L2 l1 k).length cb) := by rw [hW9]; exact hy1
                have HG9 : Aside0 (DiffG w w2.heap.size l0 l1 k Ds v W9) := by
                  rw [hW9]; exact ⟨⟨HG.out.le, HG.out.marks.below (pw_below_drewN (Below.refl _ _) _), HG.out.box, Kd.R_drewN HG.out.row _, pw_below_drewN HG.out.bel _, HG.out.good⟩⟩
                rw [← hW9] at HBn ⊢; clear hW9 hx1 hy1 HG; refine wp_region_still_tail 18 (by kernel_rfl) (by kernel_rfl) ?_; simp only [List.take_succ_cons, List.take_zero, List.drop_succ_cons, List.drop_zero]
                repeat still_step
                still_call (HSA.out _ (below_drew HBn.out))
                repeat still_step
                try refine wpStill_nil ?_
                change wpList _ _ _ _ _ W9.drew
                go_wp2_with (go_at_call 38; refine (changes_any _ _ _ _ _ _ _ _ _).mono ?_; rintro e w3 ⟨rfl, rfl⟩)
                have hW9 : w.heap.size ≤ W9.heap.size := HBn.out.size; obtain ⟨W10, hW10⟩ : ∃ W10, W10 = ((((W9.alloc (.cells #[.int .i64 k] 3)).alloc (.cells #[.slice Aa (rd_L2 l0 k).length ca] 64)).alloc (.cells #[.slice Ab (rd_L2 l1 k).length cb] 64)).alloc (.cells #[.int .i64 (sameM (rd_L2 l0 k) (rd_L2 l1 k) : Nat)] 3)).drew := ⟨_, rfl⟩
                have hsz10 : W10.heap.size = W9.heap.size + 4 := by rw [hW10]; simp
                have hb10 : Below W9.heap.size W9 W10 := by rw [hW10]; exact below_drew (below_alloc (below_alloc (below_alloc (below_alloc (Below.refl _ _) _) _) _) _)
                have hk10 : W10.heap[W9.heap.size]? = some (.cells #[.int .i64 k] 3 (0, 0)) := by
                  rw [hW10]
                  show ((((W9.alloc (.cells #[.int .i64 k] 3)).alloc (.cells #[.slice Aa (rd_L2 l0 k).length ca] 64)).alloc (.cells #[.slice Ab (rd_L2 l1 k).length cb] 64)).alloc (.cells #[.int .i64 (sameM (rd_L2 l0 k) (rd_L2 l1 k) : Nat)] 3)).heap[W9.heap.size]? = _
                  rw [Below.heap_alloc _ _ _ (by simp; omega), Below.heap_alloc _ _ _ (by simp; omega), Below.heap_alloc _ _ _ (by simp)]; exact heap_alloc_new W9 _
                have ha10 : W10.heap[W9.heap.size + 1]? = some (.cells #[.slice Aa (rd_L2 l0 k).length ca] 64 (0, 0)) := by
                  rw [hW10]
                  show ((((W9.alloc (.cells #[.int .i64 k] 3)).alloc (.cells #[.slice Aa (rd_L2 l0 k).length ca] 64)).alloc (.cells #[.slice Ab (rd_L2 l1 k).length cb] 64)).alloc (.cells #[.int .i64 (sameM (rd_L2 l0 k) (rd_L2 l1 k) : Nat)] 3)).heap[W9.heap.size + 1]? = _
                  rw [Below.heap_alloc _ _ _ (by simp), Below.heap_alloc _ _ _ (by simp)]; have := heap_alloc_new (W9.alloc (.cells #[.int .i64 k] 3)) (.cells #[.slice Aa (rd_L2 l0 k).length ca] 64)
                  simpa using this
                have hb10' : W10.heap[W9.heap.size + 2]? = some (.cells #[.slice Ab (rd_L2 l1 k).length cb] 64 (0, 0)) := by
                  rw [hW10]
                  show ((((W9.alloc (.cells #[.int .i64 k] 3)).alloc (.cells #[.slice Aa (rd_L2 l0 k).length ca] 64)).alloc (.cells #[.slice Ab (rd_L2 l1 k).length cb] 64)).alloc (.cells #[.int .i64 (sameM (rd_L2 l0 k) (rd_L2 l1 k) : Nat)] 3)).heap[W9.heap.size + 2]? = _
                  rw [Below.heap_alloc _ _ _ (by simp)]; have := heap_alloc_new ((W9.alloc (.cells #[.int .i64 k] 3)).alloc (.cells #[.slice Aa (rd_L2 l0 k).length ca] 64)) (.cells #[.slice Ab (rd_L2 l1 k).length cb] 64)
                  simpa using this
                have hm10 : W10.heap[W9.heap.size + 3]? = some (.cells #[.int .i64 (sameM (rd_L2 l0 k) (rd_L2 l1 k) : Nat)] 3 (0, 0)) := by
                  rw [hW10]
                  show ((((W9.alloc (.cells #[.int .i64 k] 3)).alloc (.cells #[.slice Aa (rd_L2 l0 k).length ca] 64)).alloc (.cells #[.slice Ab (rd_L2 l1 k).length cb] 64)).alloc (.cells #[.int .i64 (sameM (rd_L2 l0 k) (rd_L2 l1 k) : Nat)] 3)).heap[W9.heap.size + 3]? = _
                  have := heap_alloc_new (((W9.alloc (.cells #[.int .i64 k] 3)).alloc (.cells #[.slice Aa (rd_L2 l0 k).length ca] 64)).alloc (.cells #[.slice Ab (rd_L2 l1 k).length cb] 64)) (.cells #[.int .i64 (sameM (rd_L2 l0 k) (rd_L2 l1 k) : Nat)] 3)
                  simpa using this
                rw [← hW10]; clear hW10 hx9 hy9; have hbB : Below w.heap.size w W10 := HBn.out.trans (hb10.mono hW9); have hdl := diffL_le HB0.out HB1.out k (by omega) (by omega); have hl06 := shaped_six HB0.out
                refine wpIn_wide.1 (wpIn_range_on (n := 5) (α := Yd) rfl (by omega) (gf := 64) (lb := #[.pointer (some ⟨W9.heap.size + 3, 0, none⟩), .pointer (some ⟨W9.heap.size + 1, 0, none⟩), .pointer (some ⟨W9.heap.size + 2, 0, none⟩), .pointer (some ⟨W9.heap.size, 0, none⟩)]) rfl trivial (enters_of Try.func64 (by kernel_rfl) rfl)
                  (enc := Yd.enc) (T := Yd.T w.heap.size) (S := fun xs _ => xs.map (·.1) = chgs k (rd_L2 l0 k) (rd_L2 l1 k) (sameM (rd_L2 l0 k) (rd_L2 l1 k))) (N := 100000000000) (B := w.heap.size) (ts := [30, 61]) (tI := [4]) (by omega)
                  (fun L => ?iter) (fun x => rfl)
                  (fun s W => DiffJ w w2.heap.size l0 l1 k Ds s W)
                  (fun x a1 W => ∃ b8, W.heap[b8]? = some (.cells x.cells 61 (0, 0)) ∧ a1 = { tmps := #[.slice (some ad) l0.length c0, .slice (some bd) l1.length c1, undef, undef, .slice none 0 0, .int .i64 0, .pointer (some ⟨w2.heap.size, 0, none⟩), .int .i64 k, .pointer (some ⟨b8, 0, none⟩), .slice (some ad) l0.length c0, .bool true, .bool false, .bool false, .slice (some bd) l1.length c1, .bool true, .bool false, .bool false, .bool false, .slice (some ad) l0.length c0, .int .i64 l0.length, .slice (some bd) l1.length c1, .int .i64 l1.length, .bool false, .bool false, .slice (some ad) l0.length c0, .int .i64 l0.length, .int .i64 k, .bool true, .int .i64 k, q29, q30, q31, q32, q33, q34, q35, q36, q37, q38, q39, q40, q41, q42, q43, q44, q45, q46, q47, q48, q49, q50, q51, q52, q53, q54, q55, q56, q57, q58, .bool false, .int .i64 k, .slice (some ad) l0.length c0, .int .i64 k, .pointer (some (ad.add k)), .slice Aa (rd_L2 l0 k).length ca, .slice (some bd) l1.length c1, .int .i64 k, .pointer (some (bd.add k)), .slice Ab (rd_L2 l1 k).length cb, .slice (some ad) l0.length c0, .int .i64 k, .pointer (some (ad.add k)), .slice Aa (rd_L2 l0 k).length ca, .slice (some bd) l1.length c1, .int .i64 k, .pointer (some (bd.add k)), .slice Ab (rd_L2 l1 k).length cb, .int .i64 (sameM (rd_L2 l0 k) (rd_L2 l1 k) : Nat), .func (.func 64) #[] #[.pointer (some ⟨W9.heap.size + 3, 0, none⟩), .pointer (some ⟨W9.heap.size + 1, 0, none⟩), .pointer (some ⟨W9.heap.size + 2, 0, none⟩), .pointer (some ⟨W9.heap.size, 0, none⟩)], .agg x.cells, u80, u81, u82, u83, u84, undef], defers := [] })
                  ?hI ?hT (fun _ _ _ h _ => h) ?hAx ?h0 ?assign ?body ?done)
                case iter =>
                  have hb12 : Below W10.heap.size W10 ((W10.alloc (.deferred (some []))).alloc (.loop L)) := below_alloc (below_alloc (Below.refl _ _) _) _
                  have q : ∀ i o, W10.heap[i]? = some o → ((W10.alloc (.deferred (some []))).alloc (.loop L)).heap[i]? = some o := fun i o hi => (hb12.block i (Array.getElem?_eq_some_iff.1 hi).1).trans hi
                  exact changes1_iterates _ w _ _ k _ Aa Ab ca cb (rd_L2 l0 k) (rd_L2 l1 k) _ _ _ _ (q _ _ hm10) (q _ _ ha10) (q _ _ hb10') (q _ _ hk10) (hbB.trans (hb12.mono (by omega))) HI0.out HJ0.out hsm1 hsm2
                    (fun i hi => (HROW.out i (by omega) (by omega)).2) (fun i hi => by have := (HS0.out.2 i hi).2.2; omega) (fun i hi => by have := (HS1.out.2 i hi).2.2; omega) (by omega) (by omega) (fun i hi => (HROW.out i (by omega) (by omega)).1)
                case hI =>
                  rintro s A C ⟨v', hm, hb, hr, hB⟩ hst; exact ⟨v', hm.stepI hst (fun D hD => by have := HG9.out.marks.lt D hD; omega), hst.other hb (by decide), R_stepI hr hst (by decide), hst.below hB (Nat.le_refl _) (by omega)⟩
                case hT =>
                  rintro x A C h hst; exact R_stepI (d := Kd.int .i64) h hst (by decide)
                case hAx =>
                  rintro x a1 A C ⟨b8, h8, e⟩ hst; exact ⟨b8, hst.other h8 (by decide), e⟩
                case h0 =>
                  exact ⟨v, HG9.out.marks.below hb10, (hb10.block _ (blk_lt HG9.out.box)).trans HG9.out.box, by simpa using Kd.R_below HG9.out.row hb10, hbB⟩
                case assign =>
                  rintro l pre ⟨s, vs⟩ W K ⟨v', hm, hbx, hr, hB⟩ ht hK; obtain ⟨As, cs, es⟩ : ∃ As cs, vs = .slice As s.f5.length cs := Kd.R_slice ht; subst es; have hal : Below W.heap.size W (W.alloc (.cells (Yd.cells (s, .slice As s.f5.length cs)) 61)) := below_alloc (Below.refl _ _) _; have HK := Aside0.mk (hK { tmps := #[.slice (some ad) l0.length c0, .slice (some bd) l1.length c1, undef, undef, .slice none 0 0, .int .i64 0, .pointer (some ⟨w2.heap.size, 0, none⟩), .int .i64 k, .pointer (some ⟨W.heap.size, 0, none⟩), .slice (some ad) l0.length c0, .bool true, .bool false, .bool false, .slice (some bd) l1.length c1, .bool true, .bool false, .bool false, .bool false, .slice (some ad) l0.length c0, .int .i64 l0.length, .slice (some bd) l1.length c1, .int .i64 l1.length, .bool false, .bool false, .slice (some ad) l0.length c0, .int .i64 l0.length, .int .i64 k, .bool true, .int .i64 k, q29, q30, q31, q32, q33, q34, q35, q36, q37, q38, q39, q40, q41, q42, q43, q44, q45, q46, q47, q48, q49, q50, q51, q52, q53, q54, q55, q56, q57, q58, .bool false, .int .i64 k, .slice (some ad) l0.length c0, .int .i64 k, .pointer (some (ad.add k)), .slice Aa (rd_L2 l0 k).length ca, .slice (some bd) l1.length c1, .int .i64 k, .pointer (some (bd.add k)), .slice Ab (rd_L2 l1 k).length cb, .slice (some ad) l0.length c0, .int .i64 k, .pointer (some (ad.add k)), .slice Aa (rd_L2 l0 k).length ca, .slice (some bd) l1.length c1, .int .i64 k, .pointer (some (bd.add k)), .slice Ab (rd_L2 l1 k).length cb, .int .i64 (sameM (rd_L2 l0 k) (rd_L2 l1 k) : Nat), .func (.func 64) #[] #[.pointer (some ⟨W9.heap.size + 3, 0, none⟩), .pointer (some ⟨W9.heap.size + 1, 0, none⟩), .pointer (some ⟨W9.heap.size + 2, 0, none⟩), .pointer (some ⟨W9.heap.size, 0, none⟩)], .agg (Yd.cells (s, .slice As s.f5.length cs)), u80, u81, u82, u83, u84, undef], defers := [] } (W.alloc (.cells (Yd.cells (s, .slice As s.f5.length cs)) 61)) (KeepBody.alloc _ _ _ _) ⟨v', hm.below hal, (hal.block _ (blk_lt hbx)).trans hbx, Kd.R_below hr hal, below_then hB hB.size hal⟩ (Kd.R_below ht hal) ⟨W.heap.size, heap_alloc_new W _, rfl⟩); clear hm hbx hr hB ht hK hal; simp only [Yd.enc, Yd.cells] at HK ⊢
                  gi_wp2
                  exact HK.out
                case body =>
                  rintro l pre ⟨s, vs⟩ a1 W ⟨v', hm, hbx, hr, hB⟩ hlen ht ⟨b8, h8, rfl⟩; obtain ⟨As, cs, es⟩ : ∃ As cs, vs = .slice As s.f5.length cs := Kd.R_slice ht; subst es; obtain ⟨Av, cv, ev⟩ := Kd.R_slice hr; obtain ⟨nv, hnv⟩ : ∃ nv, nv = (diffL l0 l1 k ++ pre.map (·.1)).length := ⟨_, rfl⟩; rw [← hnv] at ev; subst ev; clear hnv; have hcb := cell_of_row _ _ 0 _ 30 (0, 0) hbx; simp only [Yd.cells] at h8; have hc0 := cell_of_row _ _ 0 _ 61 (0, 0) h8; have hc1 := cell_of_row _ _ 1 _ 61 (0, 0) h8; have hc2 := cell_of_row _ _ 2 _ 61 (0, 0) h8; have hc3 := cell_of_row _ _ 3 _ 61 (0, 0) h8; have hc4 := cell_of_row _ _ 4 _ 61 (0, 0) h8; have hc5 := cell_of_row _ _ 5 _ 61 (0, 0) h8; have hu61 := Try.underlying61; have HMP := Aside0.mk (M_ne (k61_mkM W w.heap.size (fun _ => True) s ht) hr); have HR9 := Aside0.mk hr; have HM9 := Aside0.mk hm; have HB9 := Aside0.mk hB; have HBX := Aside0.mk hbx
                  have hlx : ((diffL l0 l1 k ++ pre.map (·.1)).length + 1) * 64 ≤ 140737488355328 := by
                    rw [List.length_append, List.length_map]; omega
                  have HLX := Aside0.mk hlx; clear hm hbx hr hB ht h8 hlx
                  have HEND := Aside0.mk (show ∀ v1 w1, Kd.R k61 61 w1 w.heap.size (fun _ => True) v1 ((diffL l0 l1 k ++ pre.map (·.1)) ++ [s]) → (W.alloc (.cells ([.int .i64 s.f0, .int .i64 s.f1, .int .i64 s.f2, .int .i64 s.f3, .int .i64 s.f4, .slice As s.f5.length cs] : List Value).toArray 61)).grownBy w1 (.slice Av nv cv : Value).ownBlock →
                      w1.heap[w2.heap.size]? = some (.cells #[.slice Av nv cv] 30 (0, 0)) ∧
                      KeepBody w.heap.size [30, 61] W (w1.setCell ⟨w2.heap.size, 0, none⟩ v1) ∧ DiffJ w w2.heap.size l0 l1 k Ds (pre ++ [((s, .slice As s.f5.length cs) : Yd)]) (w1.setCell ⟨w2.heap.size, 0, none⟩ v1) from by
                    intro v1 w1 hr1 hg1; have hal : Below W.heap.size W (W.alloc (.cells ([.int .i64 s.f0, .int .i64 s.f1, .int .i64 s.f2, .int .i64 s.f3, .int .i64 s.f4, .slice As s.f5.length cs] : List Value).toArray 61)) := below_alloc (Below.refl _ _) _; have hne := Kd.R_ne HR9.out HBX.out (by decide); have hlt1 := blk_lt HBX.out; have hbx1 : w1.heap[w2.heap.size]? = some (.cells #[.slice Av nv cv] 30 (0, 0)) := (hg1.block _ (by have := hal.size; omega) hne).trans ((hal.block _ hlt1).trans HBX.out)
                    have hrow : ∀ r, (.slice Av nv cv : Value).ownBlock = some r → w.heap.size ≤ r := fun r e => Kd.R_base HR9.out r e
                    have hkb : KeepBody w.heap.size [30, 61] W (w1.setCell ⟨w2.heap.size, 0, none⟩ v1) :=
                      ((KeepBody.alloc _ _ _ _).trans (KeepBody.grown hg1 (fun r e => ⟨hrow r e, fun o ho => by
                        obtain ⟨cells, hc⟩ := Kd.R_typed (Kd.R_below HR9.out hal) r e; rw [hc] at ho
                        injection ho with ho
                        exact ⟨cells, 61, (0, 0), ho.symm, by decide⟩⟩))).trans (KeepBody.setCell _ hbo (fun o ho => by
                        rw [show ((⟨w2.heap.size, 0, none⟩ : Addr).block) = w2.heap.size from rfl, hbx1] at ho
                        injection ho with ho
                        exact ⟨_, 30, (0, 0), ho.symm, by decide⟩))
                    refine ⟨hbx1, hkb, v1, HM9.out.later (fun i o hi ho => hkb.same i o hi (.inr (.inl ho))), ?_, ?_, ?_⟩
                    · have := blk_set hbx1 0 v1
                      simpa using this
                    · have := Kd.R_set hr1 hbx1 (by decide) 0 v1
                      simpa using this
                    · exact (((HB9.out.trans (hal.mono HB9.out.size)).grown hg1 (Nat.le_trans HB9.out.size hal.size) (fun r e => hrow r e)).setCell (p := ⟨w2.heap.size, 0, none⟩) hbo v1))
                  gi_wp2_with ((gi_at_builtin; refine R_append_in k61 (W := W) w.heap.size rfl (.tmp 80) (.tmp 82) 30 61 (.agg #[(.int .i64 0), (.int .i64 0), (.int .i64 0), (.int .i64 0), (.int .i64 0), (.slice none 0 0)]) 64 rfl Try.underlying30 info61 rfl (by decide) (by omega) (.slice Av nv cv) (diffL l0 l1 k ++ pre.map (·.1)) s [.int .i64 s.f0, .int .i64 s.f1, .int .i64 s.f2, .int .i64 s.f3, .int .i64 s.f4, .slice As s.f5.length cs] (fun _ => True) (fun k_ => True ∧ some k_ ≠ (.slice Av nv cv : Value).ownBlock) rfl rfl HMP.out (fun _ hk => hk) (fun _ _ => trivial) HR9.out HB9.out.size HLX.out ?_; intro v1 w1 hr1 hg1 hv1; obtain ⟨A1, c1', e1⟩ := hv1; obtain ⟨n1, hn1⟩ : ∃ n1, n1 = (diffL l0 l1 k ++ pre.map (·.1)).length + 1 := ⟨_, rfl⟩; rw [← hn1] at e1; subst e1; clear hn1; have HE := HEND.out _ w1 hr1 hg1; obtain ⟨hbx1, hE2⟩ := HE; have HE2 := Aside0.mk hE2; have hcb1 := cell_of_row _ _ 0 _ 30 (0, 0) hbx1; have hfb1 : w1.frozen? ⟨w2.heap.size, 0, none⟩ = false := (by simp [World.frozen?, hbx1]); clear hbx1 hE2 hr1 hg1))
                  exact HE2.out
                case done =>
                  rintro D xs W hD hxs ⟨v', hm, hbx, hr, hB⟩ hDD; rw [hxs, ← diffL_snoc] at hr
                  have HFIN := Aside0.mk (show DiffG w w2.heap.size l0 l1 (k + 1) (D :: Ds) v' W from ⟨by omega, hm.cons (by omega) hDD (fun hmem => by have := HG9.out.marks.lt D hmem; omega), hbx, hr, hB, fun j hj => by
                    rcases Nat.lt_or_ge j k with h | h
                    (· exact HG9.out.good j h)
                    · rw [show j = k from by omega]; exact HOK1.out⟩)
                  clear hm hbx hr hB hDD hxs; go_wp2; refine ⟨⟨k + 1, D :: Ds, v', _, _, _, _, _, _, _, _, _, _, _, _, _, _, _, _, _, _, _, _, _, _, _, _, _, _, _, _, _, _, _, _, _, _, _, _, _, _, _, _, _, _, _, _, _, _, _, _, _, _, _, _, _, _, _, _, _, _, _, _, rfl, HFIN.out⟩, ?_⟩
                  simp [intOf]
                  omega
              · have hok1 : (!okK l0 l1 k) = true := by simpa using hok
                have HF : Hid (diffR l0 l1 = ([], 2)) := by
                  have : okK l0 l1 k = false := by simpa using hok
                  unfold Hid diffR; rw [if_neg]; simp only [Bool.and_eq_true, not_and, Bool.not_eq_true, List.all_eq_false]; intro _; exact ⟨k, List.mem_range.2 hlt, by rw [this]⟩
                rw [hok1]; clear hok hok1; go_wp2; rw [HF.out]; exact diff_leave w _ _ Ds _ (.slice none 0 0) rfl rfl (HG.out.marks.below (pw_below_drewN (Below.refl _ _) _)) (Kd.R_nil _ _ _ _ _) (pw_below_drewN HG.out.bel _)
          · have hbx := cell_of_row _ _ 0 _ 30 (0, 0) HG.out.box
            have hneg : ¬ ((k : Int) < (l0.length : Int)) := by omega
            have HF : Hid (diffR l0 l1 = (diffL l0 l1 k, 0)) := by
              unfold Hid diffR; rw [HB0.out, HB1.out, show l0.length = k from by omega]
              have : (List.range k).all (okK l0 l1) = true := by
                rw [List.all_eq_true]; intro j hj; exact HG.out.good j (List.mem_range.1 hj)
              rw [this]
              have : decide (k = l1.length) = true := by have := HLL.out; simp; omega
              rw [this]; rfl
            go_wp2; rw [HF.out]; exact diff_leave w _ _ Ds W v rfl rfl HG.out.marks HG.out.row HG.out.bel
      · have hne : ((l0.length : Int) != (l1.length : Int)) = true := by rw [bne_iff_ne]; omega
        have HF : Hid (diffR l0 l1 = ([], 2)) := by unfold Hid diffR; rw [if_neg (by simp [hll])]
        go_wp2_with fail
        refine H0.out.mono ?_; rintro e w1 ⟨rfl, hb⟩; have HB := Aside0.mk hb; clear hb
        go_wp2_with fail
        refine (H1.out _ HB.out).mono ?_; rintro e w2 ⟨rfl, hb⟩; have HB2 := Aside0.mk (HB.out.trans (hb.mono HB.out.size)); clear hb; go_wp2; rw [HF.out]; exact diff_leave w _ _ [] w2 _ rfl rfl (Marked.nil _ _) (Kd.R_nil _ _ _ _ _) HB2.out
theorem diff_Diff.calls (A0 : Option Addr) (c0 : Nat) (l0 : List (List (List Int))) (A1 : Option Addr) (c1 : Nat) (l1 : List (List (List Int))) (r1 : List S61) (r2 : Int) (w : World) (hr0 : Kd.C (Kd.slice 22 (Kd.slice 3 (Kd.int .i64))) w A0 l0.length l0) (hc0 : l0.length ≤ c0)
    (hr1 : Kd.C (Kd.slice 22 (Kd.slice 3 (Kd.int .i64))) w A1 l1.length l1) (hc1 : l1.length ≤ c1) (h : diff_Diff.f l0 l1 = some (r1, r2)) :
    Calls Try.prog 14 #[.slice A0 l0.length c0, .slice A1 l1.length c1] w fun e w' => ∃ v0_ : Value, e = .returned (.tuple #[v0_, .int .i64 r2]) ∧ Kd.N k61 61 w' w.heap.size (fun k_ => w.heap.size ≤ k_) v0_ r1 ∧ Below w.heap.size w w' := by
  unfold diff_Diff.f at h
  split at h
  (· rename_i hs; have e := Option.some.inj h; have := diff_in A0 c0 l0 A1 c1 l1 w hr0 hc0 hr1 hc1 hs.1 hs.2; rw [e] at this; exact this)
  · cases h
end Go.Proofs.Ytcgpemefmakjiaa.PX
namespace Go.Proofs.Ytcgpemefmakjiaa.PX
open Go.RowKit Go.Proofs.YtcgpemefmakjiaaW.PrintWords Go.Proofs.YtcgpemefmakjiaaW.PrintLast
set_option linter.unusedVariables false
abbrev Wd := List (List (List Int))
def RecRep (W : World) (base : Nat) (f2 : Nat → Nat × Nat) (k i : Nat) (vi : Value) (r : List Int) : Prop := W.ownsRow base 3 1 vi r.length (nums .i64 r) ∧ ∀ b, vi.ownBlock = some b → f2 b = (k, i)
def KindRep (W : World) (base : Nat) (f1 : Nat → Nat) (f2 : Nat → Nat × Nat) (k : Nat) (vk : Value) (rows : List (List Int)) : Prop :=
  ∃ cs, W.ownsRow base 22 1 vk rows.length cs ∧ (∀ b, vk.ownBlock = some b → f1 b = k) ∧ ∀ (i : Nat) r, rows[i]? = some r → ∃ vi, cs[i]? = some vi ∧ RecRep W base f2 k i vi r
def WRepF (W : World) (base : Nat) (f1 : Nat → Nat) (f2 : Nat → Nat × Nat) (v : Value) (l : Wd) : Prop :=
  ∃ vs, W.ownsRow base 64 1 v l.length vs ∧ ∀ (k : Nat) rows, l[k]? = some rows → ∃ vk, vs[k]? = some vk ∧ KindRep W base f1 f2 k vk rows
def WRep (W : World) (base : Nat) (v : Value) (l : Wd) : Prop := ∃ f1 f2, WRepF W base f1 f2 v l
section
variable {W W' : World} {base k i g : Nat} {f1 f1' : Nat → Nat} {f2 f2' : Nat → Nat × Nat} {v vk vi newv : Value} {r : List Int} {rows rows' : List (List Int)} {l : Wd} {row : Option Nat}
theorem RecRep.move (h : RecRep W base f2 k i vi r) (hm : ∀ b, vi.ownBlock = some b → b < W.heap.size → W'.heap[b]? = W.heap[b]?) (hf : ∀ b, b < W.heap.size → f2' b = f2 b) : RecRep W' base f2' k i vi r :=
  ⟨own_move h.1 (fun b hb => hm b hb (own_lt h.1 b hb)), fun b hb => (hf b (own_lt h.1 b hb)).trans (h.2 b hb)⟩
theorem KindRep.move (h : KindRep W base f1 f2 k vk rows) (hm : ∀ b, b < W.heap.size → (vk.ownBlock = some b ∨ ∃ c, W.heap[b]? = some (.cells c 3 (0, 0))) → W'.heap[b]? = W.heap[b]?)
    (hf1 : ∀ b, b < W.heap.size → f1' b = f1 b) (hf2 : ∀ b, b < W.heap.size → f2' b = f2 b) : KindRep W' base f1' f2' k vk rows := by
  obtain ⟨cs, h1, h2, h3⟩ := h; refine ⟨cs, own_move h1 (fun b hb => hm b (own_lt h1 b hb) (.inl hb)), fun b hb => (hf1 b (own_lt h1 b hb)).trans (h2 b hb), fun i r hr => ?_⟩; obtain ⟨vi, h4, h5⟩ := h3 i r hr; exact ⟨vi, h4, h5.move (fun b hb hl => hm b hl (.inr (own_typed h5.1 b hb))) hf2⟩
theorem WRepF.move (h : WRepF W base f1 f2 v l) (hm : ∀ b, b < W.heap.size → W'.heap[b]? = W.heap[b]?) (hf1 : ∀ b, b < W.heap.size → f1' b = f1 b) (hf2 : ∀ b, b < W.heap.size → f2' b = f2 b) : WRepF W' base f1' f2' v l := by
  obtain ⟨vs, h1, h2⟩ := h; refine ⟨vs, own_move h1 (fun b hb => hm b (own_lt h1 b hb)), fun k rows hk => ?_⟩; obtain ⟨vk, h3, h4⟩ := h2 k rows hk; exact ⟨vk, h3, h4.move (fun b hl _ => hm b hl) hf1 hf2⟩
theorem WRepF.below (h : WRepF W base f1 f2 v l) (hb : Below W.heap.size W W') : WRepF W' base f1 f2 v l := h.move (fun b hl => hb.block b hl) (fun _ _ => rfl) (fun _ _ => rfl)
theorem WRep.below (h : WRep W base v l) (hb : Below W.heap.size W W') : WRep W' base v l := by
  obtain ⟨f1, f2, h⟩ := h; exact ⟨f1, f2, h.below hb⟩
theorem WRep.nil (W : World) (base : Nat) : WRep W base (.slice none 0 0) [] := ⟨fun _ => 0, fun _ => (0, 0), [], own_nil _ _ _ _, fun k rows hk => by simp at hk⟩
theorem WRepF.top (h : WRepF W base f1 f2 v l) : ∃ A c, v = .slice A l.length c ∧ l.length ≤ 9223372036854775807 ∧ (0 < l.length → ∃ g, A = some ⟨g, 0, none⟩ ∧ base ≤ g ∧ ∀ k rows, l[k]? = some rows → ∃ vk, W.cell? ⟨g, k, none⟩ = some vk ∧ W.frozen? ⟨g, k, none⟩ = false ∧ (∃ c, W.heap[g]? = some (.cells c 64 (0, 0))) ∧ KindRep W base f1 f2 k vk rows) := by
  obtain ⟨vs, h1, h2⟩ := h
  have hlen : l.length ≤ 9223372036854775807 := by
    rcases h1.2 with ⟨_, h⟩ | ⟨g, cap, cur, _, _, _, h3, h4, _⟩
    (· omega); (· simp only [maxLen] at h4; omega)
  obtain ⟨A, c, e⟩ := own_slice h1; refine ⟨A, c, e, hlen, fun hp => ?_⟩; obtain ⟨g, cap, e2, h3, h4⟩ := h1.form hp; rw [e] at e2
  injection e2 with e2 e3 e4
  subst e2; refine ⟨g, rfl, h3, fun k rows hk => ?_⟩; obtain ⟨vk, h5, h6⟩ := h2 k rows hk; subst e; have h7 := h1.cellAt k (by have := (List.getElem?_eq_some_iff.1 hk).1; omega); refine ⟨vk, h7.trans h5, h1.frozenAt k, own_typed h1 g rfl, h6⟩
theorem KindRep.at_ (h : KindRep W base f1 f2 k vk rows) : ∃ A c, vk = .slice A rows.length c ∧ rows.length ≤ c ∧ rows.length ≤ 9223372036854775807 ∧ (∀ b, vk.ownBlock = some b → f1 b = k ∧ base ≤ b ∧ b < W.heap.size ∧ ∃ c, W.heap[b]? = some (.cells c 22 (0, 0))) ∧
    (0 < rows.length → ∃ g, A = some ⟨g, 0, none⟩ ∧ ∀ i r, rows[i]? = some r → ∃ vi, W.cell? ⟨g, i, none⟩ = some vi ∧ RecRep W base f2 k i vi r) := by
  obtain ⟨cs, h1, h2, h3⟩ := h
  have hlen : rows.length ≤ 9223372036854775807 ∧ ∃ A c, vk = .slice A rows.length c ∧ rows.length ≤ c := by
    rcases h1.2 with ⟨e, h⟩ | ⟨g, cap, cur, e, _, _, h3, h4, _⟩
    (· exact ⟨by omega, none, 0, by rw [e, h], by omega⟩); (· exact ⟨by simp only [maxLen] at h4; omega, _, _, e, h3⟩)
  obtain ⟨hlen, A, c, e, hc⟩ := hlen; refine ⟨A, c, e, hc, hlen, fun b hb => ⟨h2 b hb, own_base h1 b hb, own_lt h1 b hb, own_typed h1 b hb⟩, fun hp => ?_⟩; obtain ⟨g, cap, e2, _, _⟩ := h1.form hp; rw [e] at e2
  injection e2 with e2 e3 e4
  subst e2; refine ⟨g, rfl, fun i r hr => ?_⟩; obtain ⟨vi, h5, h6⟩ := h3 i r hr; subst e; exact ⟨vi, (h1.cellAt i (by have := (List.getElem?_eq_some_iff.1 hr).1; omega)).trans h5, h6⟩
theorem RecRep.at_ (h : RecRep W base f2 k i vi r) : ∃ A c, vi = .slice A r.length c ∧ r.length ≤ c ∧ r.length ≤ 9223372036854775807 ∧ (∀ b, vi.ownBlock = some b → f2 b = (k, i) ∧ base ≤ b ∧ b < W.heap.size ∧ ∃ c, W.heap[b]? = some (.cells c 3 (0, 0))) ∧
    (0 < r.length → ∃ g, A = some ⟨g, 0, none⟩ ∧ ∀ j : Nat, j < r.length → W.cell? ⟨g, j, none⟩ = some (.int .i64 (rd r j)) ∧ W.frozen? ⟨g, j, none⟩ = false) := by
  obtain ⟨h1, h2⟩ := h
  have hlen : r.length ≤ 9223372036854775807 ∧ ∃ A c, vi = .slice A r.length c ∧ r.length ≤ c := by
    rcases h1.2 with ⟨e, h⟩ | ⟨g, cap, cur, e, _, _, h3, h4, _⟩
    (· exact ⟨by omega, none, 0, by rw [e, h], by omega⟩); (· exact ⟨by simp only [maxLen] at h4; omega, _, _, e, h3⟩)
  obtain ⟨hlen, A, c, e, hc⟩ := hlen; refine ⟨A, c, e, hc, hlen, fun b hb => ⟨h2 b hb, own_base h1 b hb, own_lt h1 b hb, own_typed h1 b hb⟩, fun hp => ?_⟩; obtain ⟨g, cap, e2, _, _⟩ := h1.form hp; rw [e] at e2
  injection e2 with e2 e3 e4
  subst e2; refine ⟨g, rfl, fun j hj => ?_⟩; subst e; refine ⟨(h1.cellAt j (by omega)).trans ?_, h1.frozenAt j⟩
  simp [nums, rd, List.getD_eq_getElem?_getD, hj]
theorem RecRep.R (h : RecRep W base f2 k i vi r) : Kd.R (Kd.int .i64) 3 W base (fun b => ∃ c, W.heap[b]? = some (.cells c 3 (0, 0))) vi r :=
  ⟨fun b hb => own_typed h.1 b hb, nums .i64 r, h.1, by simp [nums, Kd.int, Kd.scalar], fun j x hx => by
    show ((nums .i64 r).drop (j * 1)).take 1 = [.int .i64 x]
    have hj := (List.getElem?_eq_some_iff.1 hx).1
    have : (nums .i64 r)[j]? = some (.int .i64 x) := by simp [nums, hx]
    rw [Nat.mul_one, List.drop_eq_getElem_cons (by rw [nums_length]; exact hj)]; rw [List.getElem?_eq_getElem (by rw [nums_length]; exact hj)] at this
    injection this with this
    simp [this]⟩
theorem own_reps1 {α : Type} {R : α → List Value → Prop} {xs : List α} {cs : List Value} (hl : cs.length = xs.length) (h : ∀ (i : Nat) (x : α), xs[i]? = some x → ∃ u, cs[i]? = some u ∧ R x [u]) : Reps R 1 xs cs :=
  ⟨by rw [hl, Nat.mul_one], fun j x hx => by
    obtain ⟨u, hu, hr⟩ := h j x hx; have hj := (List.getElem?_eq_some_iff.1 hu).1; rw [Nat.mul_one, List.drop_eq_getElem_cons hj]; rw [List.getElem?_eq_getElem hj] at hu
    injection hu with hu
    rw [hu]
    exact hr⟩
theorem KindRep.R (h : KindRep W base f1 f2 k vk rows) : Kd.R (Kd.slice 3 (Kd.int .i64)) 22 W base (fun b => ∃ c, W.heap[b]? = some (.cells c 3 (0, 0)) ∨ W.heap[b]? = some (.cells c 22 (0, 0))) vk rows := by
  obtain ⟨cs, h1, h2, h3⟩ := h; refine ⟨fun b hb => ?_, cs, h1, own_reps1 (by have := h1.1; omega) (fun i r hr => ?_)⟩; (· obtain ⟨c, hc⟩ := own_typed h1 b hb; exact ⟨c, .inr hc⟩)
  · obtain ⟨vi, h4, h5⟩ := h3 i r hr
    refine ⟨vi, h4, vi, rfl, Kd.R_mono h5.R (fun b hb => ?_)⟩; obtain ⟨c, hc⟩ := hb; refine ⟨⟨c, .inl hc⟩, fun e => ?_⟩; obtain ⟨c', hc'⟩ := own_typed h1 b e.symm; rw [hc] at hc'
    injection hc' with hc'
    injection hc' with _ hc'
    exact absurd hc' (by decide)
theorem WRep.R (h : WRep W base v l) : Kd.R (Kd.slice 22 (Kd.slice 3 (Kd.int .i64))) 64 W base (fun _ => True) v l := by
  obtain ⟨f1, f2, vs, h1, h2⟩ := h; refine ⟨fun _ _ => trivial, vs, h1, own_reps1 (by have := h1.1; omega) (fun i r hr => ?_)⟩; obtain ⟨vk, h4, h5⟩ := h2 i r hr; refine ⟨vk, h4, vk, rfl, Kd.R_mono h5.R (fun b hb => ?_)⟩; obtain ⟨c, hc⟩ := hb; refine ⟨trivial, fun e => ?_⟩; obtain ⟨c', hc'⟩ := own_typed h1 b e.symm
  rcases hc with hc | hc
  all_goals
    rw [hc] at hc'
    injection hc' with hc'
    injection hc' with _ hc'
    exact absurd hc' (by decide)
theorem WRepF.put {g c : Nat} (h : WRepF W base f1 f2 (.slice (some ⟨g, 0, none⟩) l.length c) l) (hk : l[k]? = some rows) (hvk : W.cell? ⟨g, k, none⟩ = some vk) (hg : W.grownBy W' row) (hrow : row = none ∨ row = vk.ownBlock)
    (hnew : KindRep W' base f1' f2' k newv rows') (hf1 : ∀ b, b < W.heap.size → f1' b = f1 b) (hf2 : ∀ b, b < W.heap.size → f2' b = f2 b) :
    WRepF (W'.setCell ⟨g, k, none⟩ newv) base f1' f2' (.slice (some ⟨g, 0, none⟩) l.length c) (l.set k rows') := by
  obtain ⟨vs, h1, h2⟩ := h; have hkl := (List.getElem?_eq_some_iff.1 hk).1; obtain ⟨vk0, h3, h4⟩ := h2 k rows hk; have h5 := (h1.cellAt k (by omega)).symm.trans hvk; rw [h3] at h5
  injection h5 with h5
  subst h5; obtain ⟨ct, hct⟩ := own_typed h1 g rfl; have hglt : g < W.heap.size := (Array.getElem?_eq_some_iff.1 hct).1
  have hrow22 : ∀ b, row = some b → ∃ c, W.heap[b]? = some (.cells c 22 (0, 0)) := by
    intro b hb
    rcases hrow with hr | hr
    (· rw [hr] at hb; cases hb); (· rw [hr] at hb; obtain ⟨cs, h6, _⟩ := h4; exact own_typed h6 b hb)
  have hne : ∀ b t cc, W.heap[b]? = some (.cells cc t (0, 0)) → t ≠ 22 → some b ≠ row := fun b t cc hb ht e => by
    obtain ⟨c', hc'⟩ := hrow22 b e.symm; rw [hb] at hc'
    injection hc' with hc'
    injection hc' with _ hc'
    exact ht hc'
  have htop : W'.heap[g]? = W.heap[g]? := hg.block g hglt (hne g 64 ct hct (by decide))
  have h1' : W'.ownsRow base 64 1 (.slice (some ⟨g, 0, none⟩) l.length c) l.length vs := own_move h1 (fun b hb => by
    have e2 : g = b := by simpa [Value.ownBlock] using hb
    rw [← e2]
    exact htop)
  refine ⟨vs.set k newv, ?_, fun j rows2 hj => ?_⟩
  · have := (h1'.stored k newv).1
    rw [List.length_set]
    simpa using this
  · by_cases hjk : j = k
    · subst hjk
      have e : rows2 = rows' := by
        rw [List.getElem?_set_self hkl] at hj; exact (Option.some.inj hj).symm
      subst e; refine ⟨newv, by rw [List.getElem?_set_self (by have := h1.1; omega)], hnew.move (fun b hl hb => Below.heap_setCell _ _ _ _ (fun e => ?_)) (fun _ _ => rfl) (fun _ _ => rfl)⟩; have e : b = g := e; rw [e] at hb; obtain ⟨cs, h6, _⟩ := hnew
      rcases hb with hb | ⟨c', hb⟩
      · obtain ⟨c', hc'⟩ := own_typed h6 _ hb
        rw [htop, hct] at hc'
        injection hc' with hc'
        injection hc' with _ hc'
        exact absurd hc' (by decide)
      · rw [htop, hct] at hb
        injection hb with hb
        injection hb with _ hb
        exact absurd hb (by decide)
    · rw [List.getElem?_set_ne (Ne.symm hjk)] at hj
      obtain ⟨vj, h6, h7⟩ := h2 j rows2 hj; refine ⟨vj, by rw [List.getElem?_set_ne (Ne.symm hjk)]; exact h6, ?_⟩; refine (h7.move (W' := W') (f1' := f1') (f2' := f2') (fun b hl hb => ?_) hf1 hf2).move (fun b hl hb => Below.heap_setCell _ _ _ _ (fun e => ?_)) (fun _ _ => rfl) (fun _ _ => rfl)
      · refine hg.block b hl ?_
        rcases hb with hb | ⟨c', hb⟩
        · rcases hrow with hr | hr
          (· rw [hr]; simp); (· rw [hr]; intro e; obtain ⟨cs, h8, h9, _⟩ := h4; obtain ⟨cs', h8', h9', _⟩ := h7; exact hjk ((h9' b hb).symm.trans (h9 b e.symm)))
        (· exact hne b 3 c' hb (by decide))
      · have e : b = g := e
        rw [e] at hb
        rcases hb with hb | ⟨c', hb⟩
        · obtain ⟨cs', h8', _⟩ := h7
          obtain ⟨c', hc'⟩ := own_typed h8' _ hb; rw [hct] at hc'
          injection hc' with hc'
          injection hc' with _ hc'
          exact absurd hc' (by decide)
        · rw [htop, hct] at hb
          injection hb with hb
          injection hb with _ hb
          exact absurd hb (by decide)
end
end Go.Proofs.Ytcgpemefmakjiaa.PX
namespace Go.Proofs.Ytcgpemefmakjiaa.PX
open Go.RowKit Go.Proofs.YtcgpemefmakjiaaW.PrintWords Go.Proofs.YtcgpemefmakjiaaW.PrintLast Go.Proofs.YtcgpemefmakjiaaW.PrintMore
set_option linter.unusedVariables false
def tagFrom {α : Type} (n : Nat) (x : α) (f : Nat → α) : Nat → α := fun b => if n ≤ b then x else f b
theorem tagFrom_lt {α : Type} {n : Nat} {x : α} {f : Nat → α} {b : Nat} (h : b < n) : tagFrom n x f b = f b := if_neg (by omega)
theorem tagFrom_ge {α : Type} {n : Nat} {x : α} {f : Nat → α} {b : Nat} (h : n ≤ b) : tagFrom n x f b = x := if_pos h
section
variable {W W1 W' : World} {base k i g : Nat} {f1 f1' : Nat → Nat} {f2 f2' : Nat → Nat × Nat} {v vk vi newv : Value} {r : List Int} {rows rows' : List (List Int)} {l : Wd} {row : Option Nat}
theorem Below.grown {w w' : World} (h : Below w.heap.size w w') : w.grownBy w' none := ⟨h.os, h.tape, h.output, h.size, fun k hk _ => h.block k hk⟩
theorem nums_of_R {v : Value} {r : List Int} {ok : Nat → Prop} (h : Kd.R (Kd.int .i64) 3 W base ok v r) : W.ownsRow base 3 1 v r.length (nums .i64 r) := by
  obtain ⟨_, inner, h1, h2, h3⟩ := h
  have : inner = nums .i64 r := by
    apply List.ext_getElem?
    intro j
    by_cases hj : j < r.length
    · have := h3 j r[j] (List.getElem?_eq_getElem hj)
      have h4 : (inner.drop (j * 1)).take 1 = [.int .i64 r[j]] := this
      have hj2 : j < inner.length := by have : inner.length = r.length * 1 := h2; omega
      have h5 : inner[j] = Value.int .i64 r[j] := by
        have := congrArg List.head? h4; rw [Nat.mul_one, List.head?_take] at this
        simpa [List.head?_drop, hj2] using this
      simp [nums, hj, hj2, h5]
    · have hj2 : ¬ j < inner.length := by have : inner.length = r.length * 1 := h2; omega
      simp [nums, List.getElem?_eq_none (Nat.not_lt.1 hj2), List.getElem?_eq_none (Nat.not_lt.1 hj)]
  rw [this] at h1; exact h1
theorem WRepF.beside (h : WRepF W base f1 f2 v l) (hg : W.grownBy W' row) (hrow : ∀ b, row = some b → f1 b = l.length ∧ ∃ c, W.heap[b]? = some (.cells c 22 (0, 0)))
    (hf1 : ∀ b, b < W.heap.size → f1' b = f1 b) (hf2 : ∀ b, b < W.heap.size → f2' b = f2 b) : WRepF W' base f1' f2' v l := by
  obtain ⟨vs, h1, h2⟩ := h
  have hne : ∀ b t cc, W.heap[b]? = some (.cells cc t (0, 0)) → t ≠ 22 → some b ≠ row := fun b t cc hb ht e => by
    obtain ⟨_, c', hc'⟩ := hrow b e.symm; rw [hb] at hc'
    injection hc' with hc'
    injection hc' with _ hc'
    exact ht hc'
  refine ⟨vs, own_move h1 (fun b hb => hg.block b (own_lt h1 b hb) ?_), fun j rows hj => ?_⟩; (· obtain ⟨c, hc⟩ := own_typed h1 b hb; exact hne b 64 c hc (by decide))
  · obtain ⟨vj, h3, h4⟩ := h2 j rows hj
    refine ⟨vj, h3, h4.move (fun b hl hb => hg.block b hl ?_) hf1 hf2⟩
    rcases hb with hb | ⟨c', hb⟩
    (· obtain ⟨cs, h5, h6, _⟩ := h4; intro e; have h7 := h6 b hb; have h8 := (hrow b e.symm).1; have := (List.getElem?_eq_some_iff.1 hj).1; omega); (· exact hne b 3 c' hb (by decide))
theorem KindRep.pushed {cs : List Value} {v1 : Value} (h : KindRep W base f1 f2 k vk rows) (hbs : base ≤ W.heap.size) (hb : Below W.heap.size W W1) (hr : W1.ownsRow W.heap.size 3 1 vi r.length (nums .i64 r)) (hcs : W.ownsRow base 22 1 vk rows.length cs)
    (hel : ∀ (i : Nat) r, rows[i]? = some r → ∃ vi, cs[i]? = some vi ∧ RecRep W base f2 k i vi r) (htag : ∀ b, vk.ownBlock = some b → f1 b = k)
    (hg : W1.grownBy W' vk.ownBlock) (hat : v1.ownBlock = vk.ownBlock ∨ ∃ b, v1.ownBlock = some b ∧ W1.heap.size ≤ b) (hown : W'.ownsRow base 22 1 v1 (rows.length + 1) (cs ++ [vi])) :
    KindRep W' base (tagFrom W.heap.size k f1) (tagFrom W.heap.size (k, rows.length) f2) k v1 (rows ++ [r]) := by
  have hlen : cs.length = rows.length := by have := hcs.1; omega
  have hty : ∀ b c, (W.heap[b]? = some (.cells c 3 (0, 0)) ∨ W.heap.size ≤ b) → some b ≠ vk.ownBlock := fun b c hb e => by
    rcases hb with hb | hb
    · obtain ⟨c', hc'⟩ := own_typed hcs b e.symm
      rw [hb] at hc'
      injection hc' with hc'
      injection hc' with _ hc'
      exact absurd hc' (by decide)
    (· have := own_lt hcs b e.symm; omega)
  refine ⟨cs ++ [vi], by rw [List.length_append]; exact hown, fun b hb2 => ?_, fun j rr hj => ?_⟩
  · rcases hat with hat | ⟨b', hb', hle⟩
    (· rw [hat] at hb2; rw [tagFrom_lt (own_lt hcs b hb2)]; exact htag b hb2)
    · rw [hb'] at hb2
      injection hb2 with hb2
      exact tagFrom_ge (by have := hb.size; omega)
  · by_cases hjl : j < rows.length
    · rw [List.getElem?_append_left hjl] at hj
      obtain ⟨vj, h3, h4⟩ := hel j rr hj; refine ⟨vj, by rw [List.getElem?_append_left (by omega)]; exact h3, ?_⟩; have h5 := h4.move (W' := W') (f2' := tagFrom W.heap.size (k, rows.length) f2) (fun b hb2 hl => ?_) (fun b hl => tagFrom_lt hl); (· exact h5); (· obtain ⟨c, hc⟩ := own_typed h4.1 b hb2; rw [hg.block b (by have := hb.size; omega) (hty b c (.inl hc)), hb.block b hl])
    · have hj2 : j = rows.length := by have := (List.getElem?_eq_some_iff.1 hj).1; simp at this; omega
      subst hj2
      have e : rr = r := by simpa using hj.symm
      subst e; refine ⟨vi, by rw [← hlen]; simp, (own_move (Kd.own_raise hr (fun b hb2 => Nat.le_trans hbs (own_base hr b hb2))) (fun b hb2 => hg.block b (own_lt hr b hb2) (hty b #[] (.inr (own_base hr b hb2))))), fun b hb2 => tagFrom_ge (own_base hr b hb2)⟩
theorem KindRep.nil (hb : True) : KindRep W base f1 f2 k (.slice none 0 0) [] := ⟨[], own_nil _ _ _ _, fun b h => by simp [Value.ownBlock] at h, fun i r h => by simp at h⟩
theorem KindRep.take {A : Option Addr} {n c : Nat} (h : KindRep W base f1 f2 k (.slice A n c) rows) {m : Nat} (hm : m ≤ rows.length) : KindRep W base f1 f2 k (.slice A m c) (rows.take m) := by
  obtain ⟨cs, h1, h2, h3⟩ := h
  have hlen : cs.length = rows.length := by have := h1.1; omega
  refine ⟨cs.take m, ?_, ?_, fun i r hr => ?_⟩
  · rw [List.length_take, Nat.min_eq_left hm]
    refine ⟨by rw [List.length_take]; omega, ?_⟩
    rcases h1.2 with ⟨e, e2⟩ | ⟨g, cap, cur, e, hb, hg, h4, h5, h6, h7⟩
    · injection e with e3 e4 e5
      subst e3 e4 e5
      have hm0 : m = 0 := by omega
      subst hm0; exact .inl ⟨rfl, rfl⟩
    · injection e with e3 e4 e5
      subst e3 e4 e5; refine .inr ⟨g, c, cur, rfl, hb, hg, by omega, h5, h6, ?_⟩; rw [← h7, List.take_take, Nat.min_eq_left (by omega), Nat.mul_one]
  · intro b hb
    refine h2 b ?_
    cases A with
    | none => simp [Value.ownBlock] at hb
    | some a => simpa [Value.ownBlock] using hb
  (· have hi := (List.getElem?_eq_some_iff.1 hr).1; rw [List.length_take] at hi; rw [List.getElem?_take_of_lt (by omega)] at hr; obtain ⟨vi, h4, h5⟩ := h3 i r hr; exact ⟨vi, by rw [List.getElem?_take_of_lt (by omega)]; exact h4, h5⟩)
theorem WRepF.cell {c b j : Nat} {x : Int} (h : WRepF W base f1 f2 v l) (hk : l[k]? = some rows) (hi : rows[i]? = some r) (hf : f2 b = (k, i)) (hty : ∃ c, W.heap[b]? = some (.cells c 3 (0, 0)))
    (hrec : W.ownsRow base 3 1 (.slice (some ⟨b, 0, none⟩) r.length c) r.length (nums .i64 r)) (hv : ∀ cs vk vi vs, W.ownsRow base 64 1 v l.length vs → vs[k]? = some vk → W.ownsRow base 22 1 vk rows.length cs → cs[i]? = some vi → vi = .slice (some ⟨b, 0, none⟩) r.length c) :
    WRepF (W.setCell ⟨b, j, none⟩ (.int .i64 x)) base f1 f2 v (l.set k (rows.set i (r.set j x))) := by
  obtain ⟨vs, h1, h2⟩ := h; obtain ⟨cb, hcb⟩ := hty
  have hne : ∀ b' t cc, W.heap[b']? = some (.cells cc t (0, 0)) → t ≠ 3 → b' ≠ b := fun b' t cc hb ht e => by
    rw [e, hcb] at hb
    injection hb with hb
    injection hb with _ hb
    exact ht hb.symm
  have hkl := (List.getElem?_eq_some_iff.1 hk).1; have hil := (List.getElem?_eq_some_iff.1 hi).1; refine ⟨vs, ?_, fun k' rows2 hk' => ?_⟩
  · rw [List.length_set]
    exact own_move h1 (fun b' hb' => by
      obtain ⟨c', hc'⟩ := own_typed h1 b' hb'
      exact Below.heap_setCell _ _ _ _ (hne b' 64 c' hc' (by decide)))
  · have hk2 : ∃ rowsk, l[k']? = some rowsk ∧ (rows2 = rowsk ∧ k' ≠ k ∨ k' = k ∧ rows2 = rows.set i (r.set j x)) := by
      by_cases e : k' = k
      (· subst e; rw [List.getElem?_set_self hkl] at hk'; exact ⟨rows, hk, .inr ⟨rfl, (Option.some.inj hk').symm⟩⟩); (· rw [List.getElem?_set_ne (Ne.symm e)] at hk'; exact ⟨rows2, hk', .inl ⟨rfl, e⟩⟩)
    obtain ⟨rowsk, hkk, hor⟩ := hk2; obtain ⟨vk', h3, cs, h4, h5, h6⟩ := h2 k' rowsk hkk
    have hl2 : rows2.length = rowsk.length := by
      rcases hor with ⟨e, _⟩ | ⟨e, e2⟩
      (· rw [e]); (· subst e; rw [hk] at hkk; obtain rfl := Option.some.inj hkk; rw [e2, List.length_set])
    refine ⟨vk', h3, cs, ?_, h5, fun i' r2 hi' => ?_⟩
    · rw [hl2]
      exact own_move h4 (fun b' hb' => by
        obtain ⟨c', hc'⟩ := own_typed h4 b' hb'
        exact Below.heap_setCell _ _ _ _ (hne b' 22 c' hc' (by decide)))
    · have hoth : ∀ vi', RecRep W base f2 k' i' vi' r2 → (k', i') ≠ (k, i) → RecRep (W.setCell ⟨b, j, none⟩ (.int .i64 x)) base f2 k' i' vi' r2 := fun vi' h7 hne2 =>
        h7.move (fun b' hb' hl => Below.heap_setCell _ _ _ _ (fun e => by
          have e : b' = b := e; rw [e] at hb'
          exact hne2 ((h7.2 b hb').symm.trans hf))) (fun _ _ => rfl)
      rcases hor with ⟨e, hkne⟩ | ⟨e, e2⟩
      (· subst e; obtain ⟨vi', h7, h8⟩ := h6 i' r2 hi'; exact ⟨vi', h7, hoth vi' h8 (fun e => hkne (congrArg Prod.fst e))⟩)
      · subst e
        rw [hk] at hkk; obtain rfl := Option.some.inj hkk; subst e2
        by_cases ei : i' = i
        · subst ei
          rw [List.getElem?_set_self hil] at hi'; obtain rfl := Option.some.inj hi'; obtain ⟨vi', h7, h8⟩ := h6 i' r hi; obtain rfl := hv cs vk' vi' vs h1 h3 h4 h7; refine ⟨_, h7, ?_, h8.2⟩; have := (hrec.stored j (.int .i64 x)).1; rw [List.length_set]
          have e3 : nums .i64 (r.set j x) = (nums .i64 r).set j (.int .i64 x) := by simp [nums, List.map_set]
          rw [e3]; exact this
        (· rw [List.getElem?_set_ne (Ne.symm ei)] at hi'; obtain ⟨vi', h7, h8⟩ := h6 i' r2 hi'; exact ⟨vi', h7, hoth vi' h8 (fun e => ei (congrArg Prod.snd e))⟩)
theorem own_unique {e size n : Nat} {v : Value} {xs ys : List Value} (h : W.ownsRow base e size v n xs) (h' : W.ownsRow base e size v n ys) : xs = ys := by
  rcases h.2 with ⟨e1, e2⟩ | ⟨g, cap, cur, e1, _, hg, _, _, _, h7⟩
  (· have a := h.1; have b := h'.1; rw [e2, Nat.zero_mul] at a b; rw [List.length_eq_zero_iff.1 a, List.length_eq_zero_iff.1 b])
  · rcases h'.2 with ⟨e1', e2'⟩ | ⟨g', cap', cur', e1', _, hg', _, _, _, h7'⟩
    · rw [e1] at e1'
      cases e1'
    · rw [e1] at e1'
      injection e1' with e3 _ _
      injection e3 with e3
      injection e3 with e3 _ _
      subst e3; rw [hg] at hg'
      injection hg' with hg'
      injection hg' with hg' _ _
      subst hg'; rw [← h7, h7']
theorem WRepF.path (h : WRepF W base f1 f2 v l) (hk : l[k]? = some rows) (hi : rows[i]? = some r) : ∃ c g c2 g2 A3 c3, v = .slice (some ⟨g, 0, none⟩) l.length c ∧ W.cell? ⟨g, k, none⟩ = some (.slice (some ⟨g2, 0, none⟩) rows.length c2) ∧ W.cell? ⟨g2, i, none⟩ = some (.slice A3 r.length c3) ∧ r.length ≤ c3 ∧
    (0 < r.length → ∃ b, A3 = some ⟨b, 0, none⟩ ∧ base ≤ b ∧ ∀ j, j < r.length → W.cell? ⟨b, j, none⟩ = some (.int .i64 (rd r j)) ∧ W.frozen? ⟨b, j, none⟩ = false ∧ ∀ x, WRepF (W.setCell ⟨b, j, none⟩ (.int .i64 x)) base f1 f2 v (l.set k (rows.set i (r.set j x)))) := by
  have hkl := (List.getElem?_eq_some_iff.1 hk).1; have hil := (List.getElem?_eq_some_iff.1 hi).1; obtain ⟨A, c, rfl, _, htop⟩ := h.top; have h0 := h; obtain ⟨vs, h1, h2⟩ := h; obtain ⟨vk, h3, h4⟩ := h2 k rows hk; obtain ⟨g, rfl, hbg, _⟩ := htop (by omega); obtain ⟨A2, c2, rfl, _, _, _, h5⟩ := h4.at_; obtain ⟨g2, rfl, _⟩ := h5 (by omega); obtain ⟨cs, h6, h7, h8⟩ := h4; obtain ⟨vi, h9, h10⟩ := h8 i r hi; obtain ⟨A3, c3, rfl, hc3, _, h11, h12⟩ := h10.at_; refine ⟨c, g, c2, g2, A3, c3, rfl, (h1.cellAt k (by omega)).trans h3, (h6.cellAt i (by omega)).trans h9, hc3, fun hp => ?_⟩; obtain ⟨b, rfl, h13⟩ := h12 hp; obtain ⟨e1, e2, e3, e4⟩ := h11 b rfl; refine ⟨b, rfl, e2, fun j hj => ⟨(h13 j hj).1, (h13 j hj).2, fun x => ?_⟩⟩; refine WRepF.cell (c := c3) h0 hk hi e1 e4 h10.1 (fun cs' vk' vi' vs' ha hb hc hd => ?_); obtain rfl := own_unique h1 ha; rw [h3] at hb
  injection hb with hb
  subst hb; obtain rfl := own_unique h6 hc; rw [h9] at hd
  injection hd with hd
  exact hd.symm
end
end Go.Proofs.Ytcgpemefmakjiaa.PX
namespace Go.Proofs.Ytcgpemefmakjiaa.PX
open Go.RowKit Go.Proofs.YtcgpemefmakjiaaW.PrintWords Go.Proofs.YtcgpemefmakjiaaW.PrintLast Go.Proofs.YtcgpemefmakjiaaW.PrintMore
attribute [local go_sem] max2_int min2_int max_two min_two max_three min_three max_four min_four   -- for this text's walks alone
set_option linter.unusedVariables false
set_option linter.unusedSimpArgs false
def diff_Change_formed.f (a0_0 : Int) (a0_1 : Int) (a0_2 : Int) (a0_3 : Int) (a0_4 : Int) (l0_5 : List Int) : Option (Bool) := if a0_2 ≥ 0 then (some ((l0_5.length : Int) == 0)) else (if a0_2 ≥ (-2) then (if a0_3 = 0 then (if a0_4 = 0 then (if (l0_5.length : Int) ≥ 1 then (some (decide ((l0_5.length : Int) ≤ 10))) else (some false)) else (some false)) else (some false)) else (some false))
set_option maxHeartbeats 8000000 in
set_option maxRecDepth 100000 in
theorem diff_Change_formed.calls (a0_0 : Int) (a0_1 : Int) (a0_2 : Int) (a0_3 : Int) (a0_4 : Int) (A0_5 : Option Addr) (c0_5 : Nat) (l0_5 : List Int) (r : Bool) (w : World) (hr0_5 : Kd.C (Kd.int .i64) w A0_5 l0_5.length l0_5) (hc0_5 : l0_5.length ≤ c0_5) (h : diff_Change_formed.f a0_0 a0_1 a0_2 a0_3 a0_4 l0_5 = some r) :
    Calls Try.prog 66 #[.agg #[.int .i64 a0_0, .int .i64 a0_1, .int .i64 a0_2, .int .i64 a0_3, .int .i64 a0_4, .slice A0_5 l0_5.length c0_5]] w fun e w' => e = .returned (.bool r) ∧ Below w.heap.size w w' := by
  have hu61 := Try.underlying61; have HR0_5 := Aside0.mk hr0_5; have HC0_5 := Aside0.mk hc0_5; clear hr0_5 hc0_5; have HB := Aside0.mk (Below.refl w.heap.size w); have H : (if a0_2 ≥ 0 then (some ((l0_5.length : Int) == 0)) else (if a0_2 ≥ (-2) then (if a0_3 = 0 then (if a0_4 = 0 then (if (l0_5.length : Int) ≥ 1 then (some (decide ((l0_5.length : Int) ≤ 10))) else (some false)) else (some false)) else (some false)) else (some false))) = some r := h; clear h
  by_cases c2 : a0_2 ≥ 0
  · rw [if_pos c2] at H
    have c2b0 : decide (0 ≤ a0_2) = true := decide_eq_true c2; clear c2; obtain rfl := Option.some.inj H
    go_enter Try.func66, Try.ntmps66
    go_wp2_with (first | ((with_reducible refine gate_dst (N := 1) rfl ?_); (try (refine gate_guard (by rfl) ?_; dsimp only)); refine box_event ?hg (N := 1) ?hd (cs := #[.int .i64 a0_0, .int .i64 a0_1, .int .i64 a0_2, .int .i64 a0_3, .int .i64 a0_4, .slice A0_5 l0_5.length c0_5]) (t := 61) ?hr ?_; (case hd => rfl); (case hg => rfl); (case hr => first | (go_simp; done) | (go_simp; rfl)); intro gb209 hg w3 hbox hb; have n0_ := Aside0.mk (below_step (by repeat (first | (with_reducible first | exact HB.out | apply below_alloc | apply pw_below_drewN | apply below_drew1) | exact HB.out)) hb); have n1_ := Aside0.mk (hbox); have n2_ := Aside0.mk ((by rw [hg]; exact (below_size (by repeat (first | (with_reducible first | exact HB.out | apply below_alloc | apply pw_below_drewN | apply below_drew1) | exact HB.out))) : w.heap.size ≤ gb209)); have n3_ := Aside0.mk ((by rw [hg]; exact (below_size (by repeat (first | (with_reducible first | exact HB.out | apply below_alloc | apply pw_below_drewN | apply below_drew1) | exact HB.out))) : w.heap.size ≤ gb209)); clear HB; have HB := n0_; have BK209 := n1_; have GW209 := n2_; have GE209 := n3_; clear n0_ n1_ n2_ n3_; clear hb hbox hg; have hcz4_0 : w3.cell? ⟨gb209, 0, none⟩ = some (.int .i64 a0_0) := (blk_cell BK209.out 0).trans rfl; have hcz4_1 : w3.cell? ⟨gb209, 1, none⟩ = some (.int .i64 a0_1) := (blk_cell BK209.out 1).trans rfl; have hcz4_2 : w3.cell? ⟨gb209, 2, none⟩ = some (.int .i64 a0_2) := (blk_cell BK209.out 2).trans rfl; have hcz4_3 : w3.cell? ⟨gb209, 3, none⟩ = some (.int .i64 a0_3) := (blk_cell BK209.out 3).trans rfl; have hcz4_4 : w3.cell? ⟨gb209, 4, none⟩ = some (.int .i64 a0_4) := (blk_cell BK209.out 4).trans rfl; have hcz4_5 : w3.cell? ⟨gb209, 5, none⟩ = some (.slice A0_5 l0_5.length c0_5) := (blk_cell BK209.out 5).trans rfl; have hfz4_0 := blk_frozen BK209.out 0; have hfz4_1 := blk_frozen BK209.out 1; have hfz4_2 := blk_frozen BK209.out 2; have hfz4_3 := blk_frozen BK209.out 3; have hfz4_4 := blk_frozen BK209.out 4; have hfz4_5 := blk_frozen BK209.out 5))
    go_ret; exact ⟨by first | rfl | (simp [errW_none, errW_some] <;> rfl) | (simp [*, errW_none, errW_some] <;> rfl), by repeat (first | (with_reducible first | exact HB.out | apply below_alloc | apply pw_below_drewN | apply below_drew1 | refine below_set ?_ GE209.out) | exact HB.out)⟩
  · rw [if_neg c2] at H
    have c2b0 : decide (0 ≤ a0_2) = false := decide_eq_false c2; clear c2
    by_cases c5 : a0_2 ≥ (-2)
    · rw [if_pos c5] at H
      have c5b0 : decide ((-2) ≤ a0_2) = true := decide_eq_true c5; clear c5
      by_cases c6 : a0_3 = 0
      · rw [if_pos c6] at H
        have c6b0 : (a0_3 == 0) = true := beq_iff_eq.mpr c6; have c6b1 : (a0_3 != 0) = false := bne_eq_false_iff_eq.mpr c6; clear c6
        by_cases c7 : a0_4 = 0
        · rw [if_pos c7] at H
          have c7b0 : (a0_4 == 0) = true := beq_iff_eq.mpr c7; have c7b1 : (a0_4 != 0) = false := bne_eq_false_iff_eq.mpr c7; clear c7
          by_cases c8 : (l0_5.length : Int) ≥ 1
          · rw [if_pos c8] at H
            have c8b0 : decide (1 ≤ (l0_5.length : Int)) = true := decide_eq_true c8; have c8b1 : decide (1 ≤ l0_5.length) = true := decide_eq_true (by omega); clear c8; obtain rfl := Option.some.inj H
            go_enter Try.func66, Try.ntmps66
            go_wp2_with (first | ((with_reducible refine gate_dst (N := 1) rfl ?_); (try (refine gate_guard (by rfl) ?_; dsimp only)); refine box_event ?hg (N := 1) ?hd (cs := #[.int .i64 a0_0, .int .i64 a0_1, .int .i64 a0_2, .int .i64 a0_3, .int .i64 a0_4, .slice A0_5 l0_5.length c0_5]) (t := 61) ?hr ?_; (case hd => rfl); (case hg => rfl); (case hr => first | (go_simp; done) | (go_simp; rfl)); intro gb209 hg w9 hbox hb; have n0_ := Aside0.mk (below_step (by repeat (first | (with_reducible first | exact HB.out | apply below_alloc | apply pw_below_drewN | apply below_drew1) | exact HB.out)) hb); have n1_ := Aside0.mk (hbox); have n2_ := Aside0.mk ((by rw [hg]; exact (below_size (by repeat (first | (with_reducible first | exact HB.out | apply below_alloc | apply pw_below_drewN | apply below_drew1) | exact HB.out))) : w.heap.size ≤ gb209)); have n3_ := Aside0.mk ((by rw [hg]; exact (below_size (by repeat (first | (with_reducible first | exact HB.out | apply below_alloc | apply pw_below_drewN | apply below_drew1) | exact HB.out))) : w.heap.size ≤ gb209)); clear HB; have HB := n0_; have BK209 := n1_; have GW209 := n2_; have GE209 := n3_; clear n0_ n1_ n2_ n3_; clear hb hbox hg; have hcz10_0 : w9.cell? ⟨gb209, 0, none⟩ = some (.int .i64 a0_0) := (blk_cell BK209.out 0).trans rfl; have hcz10_1 : w9.cell? ⟨gb209, 1, none⟩ = some (.int .i64 a0_1) := (blk_cell BK209.out 1).trans rfl; have hcz10_2 : w9.cell? ⟨gb209, 2, none⟩ = some (.int .i64 a0_2) := (blk_cell BK209.out 2).trans rfl; have hcz10_3 : w9.cell? ⟨gb209, 3, none⟩ = some (.int .i64 a0_3) := (blk_cell BK209.out 3).trans rfl; have hcz10_4 : w9.cell? ⟨gb209, 4, none⟩ = some (.int .i64 a0_4) := (blk_cell BK209.out 4).trans rfl; have hcz10_5 : w9.cell? ⟨gb209, 5, none⟩ = some (.slice A0_5 l0_5.length c0_5) := (blk_cell BK209.out 5).trans rfl; have hfz10_0 := blk_frozen BK209.out 0; have hfz10_1 := blk_frozen BK209.out 1; have hfz10_2 := blk_frozen BK209.out 2; have hfz10_3 := blk_frozen BK209.out 3; have hfz10_4 := blk_frozen BK209.out 4; have hfz10_5 := blk_frozen BK209.out 5))
            go_ret; exact ⟨by first | rfl | (simp [errW_none, errW_some] <;> rfl) | (simp [*, errW_none, errW_some] <;> rfl), by repeat (first | (with_reducible first | exact HB.out | apply below_alloc | apply pw_below_drewN | apply below_drew1 | refine below_set ?_ GE209.out) | exact HB.out)⟩
          · rw [if_neg c8] at H
            have c8b0 : decide (1 ≤ (l0_5.length : Int)) = false := decide_eq_false c8; have c8b1 : decide (1 ≤ l0_5.length) = false := decide_eq_false (by omega); clear c8; obtain rfl := Option.some.inj H
            go_enter Try.func66, Try.ntmps66
            go_wp2_with (first | ((with_reducible refine gate_dst (N := 1) rfl ?_); (try (refine gate_guard (by rfl) ?_; dsimp only)); refine box_event ?hg (N := 1) ?hd (cs := #[.int .i64 a0_0, .int .i64 a0_1, .int .i64 a0_2, .int .i64 a0_3, .int .i64 a0_4, .slice A0_5 l0_5.length c0_5]) (t := 61) ?hr ?_; (case hd => rfl); (case hg => rfl); (case hr => first | (go_simp; done) | (go_simp; rfl)); intro gb209 hg w11 hbox hb; have n0_ := Aside0.mk (below_step (by repeat (first | (with_reducible first | exact HB.out | apply below_alloc | apply pw_below_drewN | apply below_drew1) | exact HB.out)) hb); have n1_ := Aside0.mk (hbox); have n2_ := Aside0.mk ((by rw [hg]; exact (below_size (by repeat (first | (with_reducible first | exact HB.out | apply below_alloc | apply pw_below_drewN | apply below_drew1) | exact HB.out))) : w.heap.size ≤ gb209)); have n3_ := Aside0.mk ((by rw [hg]; exact (below_size (by repeat (first | (with_reducible first | exact HB.out | apply below_alloc | apply pw_below_drewN | apply below_drew1) | exact HB.out))) : w.heap.size ≤ gb209)); clear HB; have HB := n0_; have BK209 := n1_; have GW209 := n2_; have GE209 := n3_; clear n0_ n1_ n2_ n3_; clear hb hbox hg; have hcz12_0 : w11.cell? ⟨gb209, 0, none⟩ = some (.int .i64 a0_0) := (blk_cell BK209.out 0).trans rfl; have hcz12_1 : w11.cell? ⟨gb209, 1, none⟩ = some (.int .i64 a0_1) := (blk_cell BK209.out 1).trans rfl; have hcz12_2 : w11.cell? ⟨gb209, 2, none⟩ = some (.int .i64 a0_2) := (blk_cell BK209.out 2).trans rfl; have hcz12_3 : w11.cell? ⟨gb209, 3, none⟩ = some (.int .i64 a0_3) := (blk_cell BK209.out 3).trans rfl; have hcz12_4 : w11.cell? ⟨gb209, 4, none⟩ = some (.int .i64 a0_4) := (blk_cell BK209.out 4).trans rfl; have hcz12_5 : w11.cell? ⟨gb209, 5, none⟩ = some (.slice A0_5 l0_5.length c0_5) := (blk_cell BK209.out 5).trans rfl; have hfz12_0 := blk_frozen BK209.out 0; have hfz12_1 := blk_frozen BK209.out 1; have hfz12_2 := blk_frozen BK209.out 2; have hfz12_3 := blk_frozen BK209.out 3; have hfz12_4 := blk_frozen BK209.out 4; have hfz12_5 := blk_frozen BK209.out 5))
            go_ret; exact ⟨by first | rfl | (simp [errW_none, errW_some] <;> rfl) | (simp [*, errW_none, errW_some] <;> rfl), by repeat (first | (with_reducible first | exact HB.out | apply below_alloc | apply pw_below_drewN | apply below_drew1 | refine below_set ?_ GE209.out) | exact HB.out)⟩
        · rw [if_neg c7] at H
          have c7b0 : (a0_4 == 0) = false := beq_eq_false_iff_ne.mpr c7; have c7b1 : (a0_4 != 0) = true := bne_iff_ne.mpr c7; obtain rfl := Option.some.inj H
          go_enter Try.func66, Try.ntmps66
          go_wp2_with (first | ((with_reducible refine gate_dst (N := 1) rfl ?_); (try (refine gate_guard (by rfl) ?_; dsimp only)); refine box_event ?hg (N := 1) ?hd (cs := #[.int .i64 a0_0, .int .i64 a0_1, .int .i64 a0_2, .int .i64 a0_3, .int .i64 a0_4, .slice A0_5 l0_5.length c0_5]) (t := 61) ?hr ?_; (case hd => rfl); (case hg => rfl); (case hr => first | (go_simp; done) | (go_simp; rfl)); intro gb209 hg w13 hbox hb; have n0_ := Aside0.mk (below_step (by repeat (first | (with_reducible first | exact HB.out | apply below_alloc | apply pw_below_drewN | apply below_drew1) | exact HB.out)) hb); have n1_ := Aside0.mk (hbox); have n2_ := Aside0.mk ((by rw [hg]; exact (below_size (by repeat (first | (with_reducible first | exact HB.out | apply below_alloc | apply pw_below_drewN | apply below_drew1) | exact HB.out))) : w.heap.size ≤ gb209)); have n3_ := Aside0.mk ((by rw [hg]; exact (below_size (by repeat (first | (with_reducible first | exact HB.out | apply below_alloc | apply pw_below_drewN | apply below_drew1) | exact HB.out))) : w.heap.size ≤ gb209)); clear HB; have HB := n0_; have BK209 := n1_; have GW209 := n2_; have GE209 := n3_; clear n0_ n1_ n2_ n3_; clear hb hbox hg; have hcz14_0 : w13.cell? ⟨gb209, 0, none⟩ = some (.int .i64 a0_0) := (blk_cell BK209.out 0).trans rfl; have hcz14_1 : w13.cell? ⟨gb209, 1, none⟩ = some (.int .i64 a0_1) := (blk_cell BK209.out 1).trans rfl; have hcz14_2 : w13.cell? ⟨gb209, 2, none⟩ = some (.int .i64 a0_2) := (blk_cell BK209.out 2).trans rfl; have hcz14_3 : w13.cell? ⟨gb209, 3, none⟩ = some (.int .i64 a0_3) := (blk_cell BK209.out 3).trans rfl; have hcz14_4 : w13.cell? ⟨gb209, 4, none⟩ = some (.int .i64 a0_4) := (blk_cell BK209.out 4).trans rfl; have hcz14_5 : w13.cell? ⟨gb209, 5, none⟩ = some (.slice A0_5 l0_5.length c0_5) := (blk_cell BK209.out 5).trans rfl; have hfz14_0 := blk_frozen BK209.out 0; have hfz14_1 := blk_frozen BK209.out 1; have hfz14_2 := blk_frozen BK209.out 2; have hfz14_3 := blk_frozen BK209.out 3; have hfz14_4 := blk_frozen BK209.out 4; have hfz14_5 := blk_frozen BK209.out 5))
          go_ret; exact ⟨by first | rfl | (simp [errW_none, errW_some] <;> rfl) | (simp [*, errW_none, errW_some] <;> rfl), by repeat (first | (with_reducible first | exact HB.out | apply below_alloc | apply pw_below_drewN | apply below_drew1 | refine below_set ?_ GE209.out) | exact HB.out)⟩
      · rw [if_neg c6] at H
        have c6b0 : (a0_3 == 0) = false := beq_eq_false_iff_ne.mpr c6; have c6b1 : (a0_3 != 0) = true := bne_iff_ne.mpr c6; obtain rfl := Option.some.inj H
        go_enter Try.func66, Try.ntmps66
        go_wp2_with (first | ((with_reducible refine gate_dst (N := 1) rfl ?_); (try (refine gate_guard (by rfl) ?_; dsimp only)); refine box_event ?hg (N := 1) ?hd (cs := #[.int .i64 a0_0, .int .i64 a0_1, .int .i64 a0_2, .int .i64 a0_3, .int .i64 a0_4, .slice A0_5 l0_5.length c0_5]) (t := 61) ?hr ?_; (case hd => rfl); (case hg => rfl); (case hr => first | (go_simp; done) | (go_simp; rfl)); intro gb209 hg w15 hbox hb; have n0_ := Aside0.mk (below_step (by repeat (first | (with_reducible first | exact HB.out | apply below_alloc | apply pw_below_drewN | apply below_drew1) | exact HB.out)) hb); have n1_ := Aside0.mk (hbox); have n2_ := Aside0.mk ((by rw [hg]; exact (below_size (by repeat (first | (with_reducible first | exact HB.out | apply below_alloc | apply pw_below_drewN | apply below_drew1) | exact HB.out))) : w.heap.size ≤ gb209)); have n3_ := Aside0.mk ((by rw [hg]; exact (below_size (by repeat (first | (with_reducible first | exact HB.out | apply below_alloc | apply pw_below_drewN | apply below_drew1) | exact HB.out))) : w.heap.size ≤ gb209)); clear HB; have HB := n0_; have BK209 := n1_; have GW209 := n2_; have GE209 := n3_; clear n0_ n1_ n2_ n3_; clear hb hbox hg; have hcz16_0 : w15.cell? ⟨gb209, 0, none⟩ = some (.int .i64 a0_0) := (blk_cell BK209.out 0).trans rfl; have hcz16_1 : w15.cell? ⟨gb209, 1, none⟩ = some (.int .i64 a0_1) := (blk_cell BK209.out 1).trans rfl; have hcz16_2 : w15.cell? ⟨gb209, 2, none⟩ = some (.int .i64 a0_2) := (blk_cell BK209.out 2).trans rfl; have hcz16_3 : w15.cell? ⟨gb209, 3, none⟩ = some (.int .i64 a0_3) := (blk_cell BK209.out 3).trans rfl; have hcz16_4 : w15.cell? ⟨gb209, 4, none⟩ = some (.int .i64 a0_4) := (blk_cell BK209.out 4).trans rfl; have hcz16_5 : w15.cell? ⟨gb209, 5, none⟩ = some (.slice A0_5 l0_5.length c0_5) := (blk_cell BK209.out 5).trans rfl; have hfz16_0 := blk_frozen BK209.out 0; have hfz16_1 := blk_frozen BK209.out 1; have hfz16_2 := blk_frozen BK209.out 2; have hfz16_3 := blk_frozen BK209.out 3; have hfz16_4 := blk_frozen BK209.out 4; have hfz16_5 := blk_frozen BK209.out 5))
        go_ret; exact ⟨by first | rfl | (simp [errW_none, errW_some] <;> rfl) | (simp [*, errW_none, errW_some] <;> rfl), by repeat (first | (with_reducible first | exact HB.out | apply below_alloc | apply pw_below_drewN | apply below_drew1 | refine below_set ?_ GE209.out) | exact HB.out)⟩
    · rw [if_neg c5] at H
      have c5b0 : decide ((-2) ≤ a0_2) = false := decide_eq_false c5; clear c5; obtain rfl := Option.some.inj H
      go_enter Try.func66, Try.ntmps66
      go_wp2_with (first | ((with_reducible refine gate_dst (N := 1) rfl ?_); (try (refine gate_guard (by rfl) ?_; dsimp only)); refine box_event ?hg (N := 1) ?hd (cs := #[.int .i64 a0_0, .int .i64 a0_1, .int .i64 a0_2, .int .i64 a0_3, .int .i64 a0_4, .slice A0_5 l0_5.length c0_5]) (t := 61) ?hr ?_; (case hd => rfl); (case hg => rfl); (case hr => first | (go_simp; done) | (go_simp; rfl)); intro gb209 hg w17 hbox hb; have n0_ := Aside0.mk (below_step (by repeat (first | (with_reducible first | exact HB.out | apply below_alloc | apply pw_below_drewN | apply below_drew1) | exact HB.out)) hb); have n1_ := Aside0.mk (hbox); have n2_ := Aside0.mk ((by rw [hg]; exact (below_size (by repeat (first | (with_reducible first | exact HB.out | apply below_alloc | apply pw_below_drewN | apply below_drew1) | exact HB.out))) : w.heap.size ≤ gb209)); have n3_ := Aside0.mk ((by rw [hg]; exact (below_size (by repeat (first | (with_reducible first | exact HB.out | apply below_alloc | apply pw_below_drewN | apply below_drew1) | exact HB.out))) : w.heap.size ≤ gb209)); clear HB; have HB := n0_; have BK209 := n1_; have GW209 := n2_; have GE209 := n3_; clear n0_ n1_ n2_ n3_; clear hb hbox hg; have hcz18_0 : w17.cell? ⟨gb209, 0, none⟩ = some (.int .i64 a0_0) := (blk_cell BK209.out 0).trans rfl; have hcz18_1 : w17.cell? ⟨gb209, 1, none⟩ = some (.int .i64 a0_1) := (blk_cell BK209.out 1).trans rfl; have hcz18_2 : w17.cell? ⟨gb209, 2, none⟩ = some (.int .i64 a0_2) := (blk_cell BK209.out 2).trans rfl; have hcz18_3 : w17.cell? ⟨gb209, 3, none⟩ = some (.int .i64 a0_3) := (blk_cell BK209.out 3).trans rfl; have hcz18_4 : w17.cell? ⟨gb209, 4, none⟩ = some (.int .i64 a0_4) := (blk_cell BK209.out 4).trans rfl; have hcz18_5 : w17.cell? ⟨gb209, 5, none⟩ = some (.slice A0_5 l0_5.length c0_5) := (blk_cell BK209.out 5).trans rfl; have hfz18_0 := blk_frozen BK209.out 0; have hfz18_1 := blk_frozen BK209.out 1; have hfz18_2 := blk_frozen BK209.out 2; have hfz18_3 := blk_frozen BK209.out 3; have hfz18_4 := blk_frozen BK209.out 4; have hfz18_5 := blk_frozen BK209.out 5))
      go_ret; exact ⟨by first | rfl | (simp [errW_none, errW_some] <;> rfl) | (simp [*, errW_none, errW_some] <;> rfl), by repeat (first | (with_reducible first | exact HB.out | apply below_alloc | apply pw_below_drewN | apply below_drew1 | refine below_set ?_ GE209.out) | exact HB.out)⟩
end Go.Proofs.Ytcgpemefmakjiaa.PX
namespace Go.Proofs.Ytcgpemefmakjiaa.PX
open Go.RowKit Go.Proofs.YtcgpemefmakjiaaW.PrintWords Go.Proofs.YtcgpemefmakjiaaW.PrintLast Go.Proofs.YtcgpemefmakjiaaW.PrintMore
set_option linter.unusedVariables false
def formedB (f2 f3 f4 : Int) (f5 : List Int) : Bool := if 0 ≤ f2 then f5.length == 0 else decide (-2 ≤ f2) && (f3 == 0) && (f4 == 0) && decide (1 ≤ f5.length) && decide (f5.length ≤ 10)
theorem formedB_f (f0 f1 f2 f3 f4 : Int) (f5 : List Int) : diff_Change_formed.f f0 f1 f2 f3 f4 f5 = some (formedB f2 f3 f4 f5) := by
  unfold diff_Change_formed.f formedB
  by_cases h1 : 0 ≤ f2
  · rw [if_pos (by omega), if_pos h1]
    congr 1
    have e : ((f5.length : Int) == 0) = (f5.length == 0) := by rw [Bool.eq_iff_iff, beq_iff_eq, beq_iff_eq]; omega
    exact e
  · rw [if_neg (by omega), if_neg h1]
    by_cases h2 : -2 ≤ f2
    · rw [if_pos (by omega)]
      by_cases h3 : f3 = 0
      · rw [if_pos h3]
        by_cases h4 : f4 = 0
        · rw [if_pos h4]
          by_cases h5 : 1 ≤ f5.length
          · rw [if_pos (by omega)]
            have e : decide ((f5.length : Int) ≤ 10) = decide (f5.length ≤ 10) := by rw [decide_eq_decide]; omega
            rw [e]
            simp [h2, h3, h4, h5]
          · rw [if_neg (by omega)]
            simp [h5]
        · rw [if_neg h4]
          simp [h4]
      · rw [if_neg h3]
        simp [h3]
    · rw [if_neg (by omega)]
      simp [h2]
def stepK (l : Wd) (k : Nat) (rows : List (List Int)) (f1 f2 f3 f4 : Int) (f5 : List Int) : Wd × Int :=
  if f2 < 0 ∧ 0 < rows.length ∧ f5.length ≠ (rd_L1 rows 0).length then (l, 2)
  else if f2 = -1 then (if f1 = rows.length then (l.set k (rows ++ [f5]), 0) else (l, 5))
  else if f2 = -2 then (if rows.length = 0 ∨ f1 ≠ rows.length - 1 then (l, 5) else if rd_L1 rows f1 = f5 then (l.set k (rows.take f1.toNat), 0) else (l, 16))
  else if f1 < 0 ∨ rows.length ≤ f1 ∨ (rd_L1 rows 0).length ≤ f2 then (l, 5)
  else if rd (rd_L1 rows f1) f2 ≠ f3 then (l, 16) else (l.set k (rows.set f1.toNat ((rd_L1 rows f1).set f2.toNat f4)), 0)
def stepW (l : Wd) (f0 f1 f2 f3 f4 : Int) (f5 : List Int) : Wd × Int :=
  if formedB f2 f3 f4 f5 = false then (l, 2) else if f0 < 0 ∨ (l.length : Int) ≤ f0 then (l, 5) else stepK l f0.toNat (rd_L2 l f0) f1 f2 f3 f4 f5
theorem cell_below {W W' : World} {a : Addr} {v : Value} (h : Below W.heap.size W W') (hc : W.cell? a = some v) : W'.cell? a = some v := (World.cell?_of_block (h.block _ (World.block_lt_of_cell? W a hc))).trans hc
theorem frozen_below {W W' : World} {a : Addr} {v : Value} {b : Bool} (h : Below W.heap.size W W') (hc : W.cell? a = some v) (hf : W.frozen? a = b) : W'.frozen? a = b := (World.frozen?_of_block (h.block _ (World.block_lt_of_cell? W a hc))).trans hf
theorem add_head (g k : Nat) : (⟨g, 0, none⟩ : Addr).add k = ⟨g, k, none⟩ := by
  unfold Addr.add
  split <;> simp_all
theorem WRep.known {W : World} {base k : Nat} {v : Value} {l : Wd} {rows : List (List Int)} (h : WRep W base v l) (hk : l[k]? = some rows) : ∃ ad c, v = .slice (some ad) l.length c ∧ ∃ g, ad = ⟨g, 0, none⟩ := by
  obtain ⟨f1, f2, h⟩ := h; obtain ⟨A, c, e, _, h2⟩ := h.top; obtain ⟨g, e2, _⟩ := h2 (by have := (List.getElem?_eq_some_iff.1 hk).1; omega); subst e2; exact ⟨_, c, e, g, rfl⟩
theorem WRep.seen {W : World} {base k c : Nat} {ad : Addr} {l : Wd} {rows : List (List Int)} (h : WRep W base (.slice (some ad) l.length c) l) (hk : l[k]? = some rows) :
    ∃ A2 c2, W.cell? (ad.add k) = some (.slice A2 rows.length c2) ∧ rows.length ≤ c2 ∧ rows.length ≤ 9223372036854775807 ∧ W.frozen? (ad.add k) = false := by
  obtain ⟨f1, f2, h⟩ := h; obtain ⟨A, c', e, _, h2⟩ := h.top; obtain ⟨g, e2, _, h3⟩ := h2 (by have := (List.getElem?_eq_some_iff.1 hk).1; omega)
  injection e with e _ _
  rw [e2] at e
  injection e with e
  subst e; obtain ⟨vk, h4, h5, _, h6⟩ := h3 k rows hk; obtain ⟨A2, c2, rfl, h7, h8, _⟩ := h6.at_; exact ⟨A2, c2, by rw [add_head]; exact h4, h7, h8, by rw [add_head]; exact h5⟩
theorem WRep.record {W : World} {base k c c2 i : Nat} {ad : Addr} {A2 : Option Addr} {l : Wd} {rows : List (List Int)} {r : List Int} (h : WRep W base (.slice (some ad) l.length c) l) (hk : l[k]? = some rows) (hc : W.cell? (ad.add k) = some (.slice A2 rows.length c2)) (hi : rows[i]? = some r) :
    ∃ ad2 A3 c3, A2 = some ad2 ∧ W.cell? (ad2.add i) = some (.slice A3 r.length c3) ∧ r.length ≤ c3 ∧ Kd.C (Kd.int .i64) W A3 r.length r ∧
      ∀ j, j < r.length → ∃ ad3, A3 = some ad3 ∧ W.cell? (ad3.add j) = some (.int .i64 (rd r j)) ∧ W.frozen? (ad3.add j) = false ∧ base ≤ ad3.block ∧ ∀ x, WRep (W.setCell (ad3.add j) (.int .i64 x)) base (.slice (some ad) l.length c) (l.set k (rows.set i (r.set j x))) := by
  obtain ⟨f1, f2, h⟩ := h; obtain ⟨c', g, c2', g2, A3, c3, e1, e2, e3, e4, e5⟩ := h.path hk hi
  injection e1 with e1 _ _
  injection e1 with e1
  subst e1; rw [add_head, e2] at hc
  injection hc with hc
  injection hc with hc _ _
  subst hc; refine ⟨_, A3, c3, rfl, by rw [add_head]; exact e3, e4, ?_, fun j hj => ?_⟩
  · obtain ⟨A0, c0, e, _, h5⟩ := h.top
    obtain ⟨g', e', _, h5⟩ := h5 (by have := (List.getElem?_eq_some_iff.1 hk).1; omega)
    injection e with e _ _
    rw [e'] at e
    injection e with e
    injection e with e _ _
    subst e; obtain ⟨vk, h5, _, _, h6⟩ := h5 k rows hk; rw [e2] at h5
    injection h5 with h5
    subst h5; obtain ⟨A2, c2, e, _, _, _, h7⟩ := h6.at_
    injection e with e _ _
    obtain ⟨g2', e', h8⟩ := h7 (by have := (List.getElem?_eq_some_iff.1 hi).1; omega); rw [e'] at e
    injection e with e
    injection e with e _ _
    subst e; obtain ⟨vi, a, b⟩ := h8 i r hi; rw [e3] at a
    injection a with a
    subst a; exact (Kd.R_reads' b.R).2.2
  (· obtain ⟨b, rfl, hb, h7⟩ := e5 (by omega); obtain ⟨a1, a2, a3⟩ := h7 j hj; refine ⟨_, rfl, by rw [add_head]; exact a1, by rw [add_head]; exact a2, hb, fun x => ?_⟩; rw [add_head]; exact ⟨f1, f2, a3 x⟩)
theorem WRepF.kind {W : World} {base k c : Nat} {ad : Addr} {vk : Value} {f1 : Nat → Nat} {f2 : Nat → Nat × Nat} {l : Wd} {rows : List (List Int)} (h : WRepF W base f1 f2 (.slice (some ad) l.length c) l) (hk : l[k]? = some rows) (hy : W.cell? (ad.add k) = some vk) :
    (∃ g, ad = ⟨g, 0, none⟩) ∧ base ≤ ad.block ∧ KindRep W base f1 f2 k vk rows := by
  obtain ⟨A, c', e, _, h2⟩ := h.top; obtain ⟨g, e2, hb, h3⟩ := h2 (by have := (List.getElem?_eq_some_iff.1 hk).1; omega)
  injection e with e _ _
  rw [e2] at e
  injection e with e
  subst e; obtain ⟨vk', h4, h5, _, h6⟩ := h3 k rows hk; rw [add_head, h4] at hy
  injection hy with hy
  subst hy; exact ⟨⟨g, rfl⟩, hb, h6⟩
theorem WRep.base_le {W : World} {base k c : Nat} {ad : Addr} {l : Wd} {rows : List (List Int)} (h : WRep W base (.slice (some ad) l.length c) l) (hk : l[k]? = some rows) : base ≤ (ad.add k).block := by
  obtain ⟨f1, f2, h⟩ := h; obtain ⟨A, c', e, _, h2⟩ := h.top; obtain ⟨g, e2, hb, h3⟩ := h2 (by have := (List.getElem?_eq_some_iff.1 hk).1; omega)
  injection e with e _ _
  rw [e2] at e
  injection e with e
  subst e; rw [add_head]; exact hb
theorem WRep.shrink {W : World} {base k c m c2 : Nat} {ad : Addr} {A2 : Option Addr} {l : Wd} {rows : List (List Int)} (h : WRep W base (.slice (some ad) l.length c) l) (hk : l[k]? = some rows) (hy : W.cell? (ad.add k) = some (.slice A2 rows.length c2)) (hm : m ≤ rows.length) :
    WRep (W.setCell (ad.add k) (.slice A2 m c2)) base (.slice (some ad) l.length c) (l.set k (rows.take m)) := by
  obtain ⟨f1, f2, h⟩ := h; obtain ⟨⟨g, rfl⟩, hb, h2⟩ := h.kind hk hy; rw [add_head] at hy ⊢; exact ⟨f1, f2, h.put (row := none) hk hy ⟨rfl, rfl, rfl, Nat.le_refl _, fun _ _ _ => rfl⟩ (.inl rfl) (h2.take hm) (fun _ _ => rfl) (fun _ _ => rfl)⟩
theorem WRep.grow {W : World} {base k c : Nat} {ad : Addr} {vk : Value} {l : Wd} {rows : List (List Int)} (h : WRep W base (.slice (some ad) l.length c) l) (hk : l[k]? = some rows) (hy : W.cell? (ad.add k) = some vk) :
    ∃ cs, W.ownsRow base 22 1 vk rows.length cs ∧ ∀ (W1 w1 : World) (vi v1 : Value) (r : List Int) (ok : Nat → Prop), Below W.heap.size W W1 → Kd.R (Kd.int .i64) 3 W1 W.heap.size ok vi r → W1.grownBy w1 vk.ownBlock →
      (v1.ownBlock = vk.ownBlock ∨ ∃ b, v1.ownBlock = some b ∧ W1.heap.size ≤ b) → w1.ownsRow base 22 1 v1 (rows.length + 1) (cs ++ [vi]) → WRep (w1.setCell (ad.add k) v1) base (.slice (some ad) l.length c) (l.set k (rows ++ [r])) := by
  obtain ⟨f1, f2, h⟩ := h; obtain ⟨⟨g, rfl⟩, hb, h2⟩ := h.kind hk hy; rw [add_head] at hy ⊢; have h2' := h2; obtain ⟨cs, h3, h4, h5⟩ := h2
  have hbs : base ≤ W.heap.size := by
    obtain ⟨vs, h6, _⟩ := h; have := own_base h6 g rfl; have := own_lt h6 g rfl
    simp at *
    omega
  refine ⟨cs, h3, fun W1 w1 vi v1 r ok hB hr hg hat hown => ?_⟩; refine ⟨tagFrom W.heap.size k f1, tagFrom W.heap.size (k, rows.length) f2, ?_⟩; refine h.put (row := vk.ownBlock) (f1' := tagFrom W.heap.size k f1) (f2' := tagFrom W.heap.size (k, rows.length) f2) hk hy ?_ (.inr rfl) (KindRep.pushed h2' hbs hB (nums_of_R hr) h3 h5 h4 hg hat hown) (fun b hb => tagFrom_lt hb) (fun b hb => tagFrom_lt hb); refine ⟨hg.os.trans hB.os, hg.tape.trans hB.tape, hg.output.trans hB.output, Nat.le_trans hB.size hg.size, fun b hb hne => ?_⟩; rw [hg.block b (Nat.lt_of_lt_of_le hb hB.size) hne, hB.block b hb]
theorem WRep.top_ne {W : World} {base k c n : Nat} {ad : Addr} {vk : Value} {cs : List Value} {l : Wd} {rows : List (List Int)} (h : WRep W base (.slice (some ad) l.length c) l) (hk : l[k]? = some rows) (hcs : W.ownsRow base 22 1 vk n cs) : some (ad.add k).block ≠ vk.ownBlock := by
  obtain ⟨f1, f2, h⟩ := h; obtain ⟨A, c', e, _, h2⟩ := h.top; obtain ⟨g, e2, hb, h3⟩ := h2 (by have := (List.getElem?_eq_some_iff.1 hk).1; omega)
  injection e with e _ _
  rw [e2] at e
  injection e with e
  subst e; obtain ⟨_, _, _, ⟨cc, hcc⟩, _⟩ := h3 k rows hk; rw [add_head]; intro e; obtain ⟨c', hc'⟩ := own_typed hcs g e.symm; rw [hcc] at hc'
  injection hc' with hc'
  injection hc' with _ hc'
  exact absurd hc' (by decide)
end Go.Proofs.Ytcgpemefmakjiaa.PX
namespace Go.Proofs.Ytcgpemefmakjiaa.PX
open Go.RowKit Go.Proofs.YtcgpemefmakjiaaW.PrintWords Go.Proofs.YtcgpemefmakjiaaW.PrintLast Go.Proofs.YtcgpemefmakjiaaW.PrintMore
set_option linter.unusedVariables false
def stepS (l : Wd) (c : S61) : Wd × Int := stepW l c.f0 c.f1 c.f2 c.f3 c.f4 c.f5
def stepsW : Wd → List S61 → Wd × Int
  | l, [] => (l, 0)
  | l, c :: cs => if (stepS l c).2 = 0 then stepsW (stepS l c).1 cs else (l, (stepS l c).2)
def tall (l : Wd) : Int := ((l.map List.length).sum : Nat)
def applyR (l : Wd) (cs : List S61) : Wd × Int :=
  if shapedB l = false then ([], 2) else if 8192 < cs.length then ([], 4) else if (stepsW l cs).2 ≠ 0 then ([], (stepsW l cs).2) else if 512 < tall (stepsW l cs).1 then ([], 4) else ((stepsW l cs).1, 0)
def Good (n : Nat) (l : Wd) : Prop := ∀ (k : Nat) rows, l[k]? = some rows → rows.length ≤ n ∧ ∀ (i : Nat) r, rows[i]? = some r → r.length = (rd_L1 rows 0).length
def stepE (l : Wd) (c : S61) : Wd × Int := if (stepS l c).2 = 0 then ((stepS l c).1, 0) else (l, (stepS l c).2)
theorem stepsW_snoc : ∀ (cs : List S61) (l : Wd) (c : S61), (stepsW l cs).2 = 0 → stepsW l (cs ++ [c]) = stepE (stepsW l cs).1 c
  | [], l, c, _ => rfl
  | d :: cs, l, c, h => by
    have e1 : stepsW l (d :: (cs ++ [c])) = if (stepS l d).2 = 0 then stepsW (stepS l d).1 (cs ++ [c]) else (l, (stepS l d).2) := rfl
    have e2 : stepsW l (d :: cs) = if (stepS l d).2 = 0 then stepsW (stepS l d).1 cs else (l, (stepS l d).2) := rfl
    by_cases h1 : (stepS l d).2 = 0
    (· rw [if_pos h1] at e1 e2; rw [List.cons_append, e1, e2]; rw [e2] at h; exact stepsW_snoc cs _ c h); (· rw [if_neg h1] at e2; rw [e2] at h; exact absurd h h1)
theorem stepsW_stop : ∀ (cs ds : List S61) (l : Wd), (stepsW l cs).2 ≠ 0 → (stepsW l (cs ++ ds)).2 = (stepsW l cs).2
  | [], ds, l, h => absurd rfl h
  | d :: cs, ds, l, h => by
    simp only [stepsW, List.cons_append] at h ⊢
    by_cases h1 : (stepS l d).2 = 0
    (· rw [if_pos h1] at h; rw [if_pos h1, if_pos h1]; exact stepsW_stop cs ds _ h); (· rw [if_neg h1, if_neg h1])
theorem rd_L1_zero (rows : List (List Int)) (r : List Int) (h : rows[0]? = some r) : rd_L1 rows 0 = r := by simp [rd_L1, List.getD_eq_getElem?_getD, h]
theorem rd_L1_at (rows : List (List Int)) (i : Int) (h0 : 0 ≤ i) (h1 : i < rows.length) : rows[i.toNat]? = some (rd_L1 rows i) := by
  simp only [rd_L1, List.getD_eq_getElem?_getD]; rw [List.getElem?_eq_getElem (show i.toNat < rows.length by omega)]
  simp
theorem rd_L2_at (l : Wd) (i : Int) (h0 : 0 ≤ i) (h1 : i < l.length) : l[i.toNat]? = some (rd_L2 l i) := by
  simp only [rd_L2, List.getD_eq_getElem?_getD]; rw [List.getElem?_eq_getElem (show i.toNat < l.length by omega)]
  simp
theorem Good.set {n k : Nat} {l : Wd} {rows : List (List Int)} (h : Good n l) (hr : rows.length ≤ n + 1 ∧ ∀ (i : Nat) r, rows[i]? = some r → r.length = (rd_L1 rows 0).length) : Good (n + 1) (l.set k rows) := by
  intro j rows' hj
  by_cases e : k = j
  (· subst e; have hl := (List.getElem?_eq_some_iff.1 hj).1; rw [List.length_set] at hl; rw [List.getElem?_set_self hl] at hj; obtain rfl := Option.some.inj hj; exact hr); (· rw [List.getElem?_set_ne e] at hj; have := h j rows' hj; exact ⟨by omega, this.2⟩)
theorem Good.succ {n : Nat} {l : Wd} (h : Good n l) : Good (n + 1) l := fun k rows hk => ⟨by have := (h k rows hk).1; omega, (h k rows hk).2⟩
theorem stepS_len (l : Wd) (c : S61) : (stepS l c).1.length = l.length := by
  unfold stepS stepW stepK
  split
  (· rfl)
  split
  (· rfl)
  split
  (· rfl)
  split
  · split <;> simp
  split
  · split
    (· rfl)
    · split <;> simp
  split
  (· rfl)
  split <;> simp
theorem stepS_good {n : Nat} {l : Wd} (h : Good n l) (c : S61) : Good (n + 1) (stepS l c).1 := by
  unfold stepS stepW
  split
  (· exact h.succ)
  next hform =>
  split
  (· exact h.succ)
  next hk =>
  have hk2 := rd_L2_at l c.f0 (by omega) (by omega); obtain ⟨hn, hw⟩ := h _ _ hk2; unfold stepK
  split
  (· exact h.succ)
  next hlen =>
  split
  · next ha =>
    split
    · refine h.set ⟨by simp; omega, fun i r hi => ?_⟩
      have h0 : (rd_L1 (rd_L2 l c.f0 ++ [c.f5]) 0).length = c.f5.length := by
        by_cases hz : 0 < (rd_L2 l c.f0).length
        · rw [rd_L1_zero _ (rd_L1 (rd_L2 l c.f0) 0)]
          · have : ¬ (c.f5.length ≠ (rd_L1 (rd_L2 l c.f0) 0).length) := fun e => hlen ⟨by omega, hz, e⟩
            omega
          (· rw [List.getElem?_append_left hz]; exact rd_L1_at _ 0 (by omega) (by omega))
        (· have : rd_L2 l c.f0 = [] := List.length_eq_zero_iff.1 (by omega); rw [this]; rfl)
      rw [h0]
      by_cases hi2 : i < (rd_L2 l c.f0).length
      · rw [List.getElem?_append_left hi2] at hi
        rw [hw i r hi]
        have : ¬ (c.f5.length ≠ (rd_L1 (rd_L2 l c.f0) 0).length) := fun e => hlen ⟨by omega, by omega, e⟩
        omega
      · have hl := (List.getElem?_eq_some_iff.1 hi).1
        simp at hl
        have : i = (rd_L2 l c.f0).length := by omega
        subst this
        simp at hi
        rw [hi]
    (· exact h.succ)
  split
  · split
    (· exact h.succ)
    next hlast =>
    split
    (· refine h.set ⟨by simp; omega, fun i r hi => ?_⟩; have hi' := (List.getElem?_eq_some_iff.1 hi).1; rw [List.length_take] at hi'; rw [List.getElem?_take_of_lt (by omega)] at hi; rw [hw i r hi, rd_L1_zero ((rd_L2 l c.f0).take c.f1.toNat) (rd_L1 (rd_L2 l c.f0) 0)]; rw [List.getElem?_take_of_lt (by omega)]; exact rd_L1_at _ 0 (by omega) (by omega)); (· exact h.succ)
  split
  (· exact h.succ)
  next hb =>
  split
  (· exact h.succ); refine h.set ⟨by simp; omega, fun i r hi => ?_⟩
  have hh : ∀ (j : Nat) r, ((rd_L2 l c.f0).set c.f1.toNat ((rd_L1 (rd_L2 l c.f0) c.f1).set c.f2.toNat c.f4))[j]? = some r → r.length = (rd_L1 (rd_L2 l c.f0) 0).length := by
    intro j r hj
    by_cases e : c.f1.toNat = j
    (· subst e; rw [List.getElem?_set_self (by omega)] at hj; rw [← Option.some.inj hj, List.length_set]; exact hw _ _ (rd_L1_at _ _ (by omega) (by omega))); (· rw [List.getElem?_set_ne e] at hj; exact hw _ _ hj)
  rw [hh i r hi]; have hl := (List.getElem?_eq_some_iff.1 hi).1; rw [List.length_set] at hl; have h0 := rd_L1_at ((rd_L2 l c.f0).set c.f1.toNat ((rd_L1 (rd_L2 l c.f0) c.f1).set c.f2.toNat c.f4)) 0 (by omega) (by rw [List.length_set]; omega); exact (hh 0 _ h0).symm
theorem WRep.made {W : World} {base n : Nat} {ok : Nat → Prop} {v : Value} (h : Kd.R (Kd.raw 1) 64 W base ok v (List.replicate n [.slice none 0 0])) : WRep W base v (List.replicate n []) := by
  obtain ⟨_, inner, h1, h2, h3⟩ := h
  have hl : inner.length = n := by have : inner.length = (List.replicate n [Value.slice none 0 0]).length * 1 := h2; simpa using this
  have h1 : W.ownsRow base 64 1 v n inner := by have := h1; rw [List.length_replicate] at this; exact this
  refine ⟨fun _ => 0, fun _ => (0, 0), inner, by rw [List.length_replicate]; exact h1, fun k rows hk => ?_⟩; have hkn := (List.getElem?_eq_some_iff.1 hk).1; rw [List.length_replicate] at hkn
  have e : rows = [] := by
    rw [List.getElem?_replicate, if_pos hkn] at hk; exact (Option.some.inj hk).symm
  subst e; refine ⟨.slice none 0 0, ?_, KindRep.nil trivial⟩; have h4 : (inner.drop (k * 1)).take 1 = [Value.slice none 0 0] := (h3 k [.slice none 0 0] (by rw [List.getElem?_replicate, if_pos hkn])).1; have := congrArg List.head? h4; rw [Nat.mul_one, List.head?_take] at this
  simpa [List.head?_drop] using this
def cp (l : Wd) (k i : Nat) : Wd := l.mapIdx fun j rows => if j < k then rows else if j = k then rows.take i else []
theorem cp_length (l : Wd) (k i : Nat) : (cp l k i).length = l.length := by simp [cp]
theorem cp_zero (l : Wd) : cp l 0 0 = List.replicate l.length [] := by
  apply List.ext_getElem?
  intro j; simp only [cp, List.getElem?_mapIdx, List.getElem?_replicate]
  by_cases h : j < l.length
  · rw [List.getElem?_eq_getElem h, if_pos h]
    simp
  (· rw [List.getElem?_eq_none (by omega), if_neg h]; rfl)
theorem cp_all (l : Wd) : cp l l.length 0 = l := by
  apply List.ext_getElem?
  intro j; simp only [cp, List.getElem?_mapIdx]
  by_cases h : j < l.length
  · rw [List.getElem?_eq_getElem h]
    simp [h]
  (· rw [List.getElem?_eq_none (by omega)]; rfl)
theorem cp_at (l : Wd) (k i : Nat) (rows : List (List Int)) (h : l[k]? = some rows) : (cp l k i)[k]? = some (rows.take i) := by
  simp [cp, List.getElem?_mapIdx, h]
theorem cp_next (l : Wd) (k : Nat) (rows : List (List Int)) (h : l[k]? = some rows) : cp l k rows.length = cp l (k + 1) 0 := by
  apply List.ext_getElem?
  intro j; simp only [cp, List.getElem?_mapIdx]
  by_cases hj : j < l.length
  · rw [List.getElem?_eq_getElem hj]
    simp only [Option.map_some, Option.some.injEq]
    by_cases h1 : j < k
    (· rw [if_pos h1, if_pos (by omega)])
    · rw [if_neg h1]
      by_cases h2 : j = k
      (· subst h2; rw [if_pos rfl, if_pos (by omega)]; rw [List.getElem?_eq_getElem hj] at h; rw [Option.some.inj h, List.take_length])
      · rw [if_neg h2, if_neg (by omega)]
        by_cases h3 : j = k + 1
        (· rw [if_pos h3, List.take_zero]); (· rw [if_neg h3])
  (· rw [List.getElem?_eq_none (by omega)]; rfl)
theorem cp_push (l : Wd) (k i : Nat) (rows : List (List Int)) (r : List Int) (h : l[k]? = some rows) (hr : rows[i]? = some r) : (cp l k i).set k (rows.take i ++ [r]) = cp l k (i + 1) := by
  apply List.ext_getElem?
  intro j; have hk := (List.getElem?_eq_some_iff.1 h).1
  by_cases e : k = j
  · subst e
    rw [List.getElem?_set_self (by rw [cp_length]; exact hk), cp_at l k (i + 1) rows h]
    congr 1
    obtain ⟨hi, hr⟩ := List.getElem?_eq_some_iff.1 hr; rw [List.take_succ_eq_append_getElem hi, hr]
  · rw [List.getElem?_set_ne e]
    simp only [cp, List.getElem?_mapIdx]
    cases l[j]? with
    | none => rfl
    | some x =>
      simp only [Option.map_some, Option.some.injEq]
      by_cases h1 : j < k
      (· rw [if_pos h1, if_pos h1]); (· rw [if_neg h1, if_neg h1, if_neg (Ne.symm e), if_neg (Ne.symm e)])
theorem sumLen_one (l : Wd) (rows : List (List Int)) (h : rows ∈ l) : rows.length ≤ sumLen l := by
  induction l with
  | nil => cases h
  | cons a l ih =>
    simp only [sumLen, List.map_cons, List.sum_cons]
    rcases List.mem_cons.1 h with e | e
    (· subst e; omega); (· have := ih e; simp only [sumLen] at this; omega)
theorem shaped_wide {l : Wd} (h : shapedB l = true) (k : Nat) (rows : List (List Int)) (hk : l[k]? = some rows) (i : Nat) (r : List Int) (hi : rows[i]? = some r) : 1 ≤ r.length ∧ r.length ≤ 10 := by
  unfold shapedB at h; simp only [Bool.and_eq_true, decide_eq_true_eq] at h; obtain ⟨⟨h1, h2⟩, h3⟩ := h; rw [List.all_eq_true] at h1
  have h4 : anyBad (rd_L1 rows 0).length rows = false := by simpa using h1 rows (List.mem_of_getElem? hk)
  unfold anyBad at h4; rw [List.any_eq_false] at h4; have h5 := h4 r (List.mem_of_getElem? hi); unfold badLen at h5; simp only [Bool.or_eq_true, bne_iff_ne, decide_eq_true_eq, not_or, ne_eq, Decidable.not_not] at h5; omega
theorem shaped_small {l : Wd} (h : shapedB l = true) : l.length ≤ 6 ∧ sumLen l ≤ 512 ∧ Good 512 l := by
  unfold shapedB at h; simp only [Bool.and_eq_true, decide_eq_true_eq] at h; obtain ⟨⟨h1, h2⟩, h3⟩ := h; refine ⟨h2, h3, fun k rows hk => ?_⟩; have hm : rows ∈ l := List.mem_of_getElem? hk; refine ⟨Nat.le_trans (sumLen_one l rows hm) h3, fun i r hi => ?_⟩; rw [List.all_eq_true] at h1
  have h4 : anyBad (rd_L1 rows 0).length rows = false := by simpa using h1 rows hm
  unfold anyBad at h4; rw [List.any_eq_false] at h4; have h5 := h4 r (List.mem_of_getElem? hi); unfold badLen at h5
  simp at h5
  exact h5.1.1
theorem Good.sum {n : Nat} {l : Wd} (h : Good n l) : sumLen l ≤ l.length * n := by
  have : ∀ (l : Wd), (∀ rows ∈ l, rows.length ≤ n) → sumLen l ≤ l.length * n := by
    intro l
    induction l with
    | nil => intro _; simp [sumLen]
    | cons r l ih =>
      intro h; have h1 := h r (by simp); have h2 := ih (fun x hx => h x (by simp [hx])); simp only [sumLen, List.map_cons, List.sum_cons, List.length_cons] at h2 ⊢; rw [Nat.add_mul]; omega
  refine this l (fun rows hm => ?_); obtain ⟨k, hk⟩ := List.mem_iff_getElem?.1 hm; exact (h k rows hk).1
theorem stepsW_good (l : Wd) (cs : List S61) {n : Nat} (h : Good n l) : Good (n + cs.length) (stepsW l cs).1 ∧ (stepsW l cs).1.length = l.length := by
  induction cs generalizing n l with
  | nil => exact ⟨h, rfl⟩
  | cons c cs ih =>
    simp only [stepsW]
    split
    (· have := ih (stepS l c).1 (stepS_good h c); rw [stepS_len] at this; refine ⟨?_, this.2⟩; rw [List.length_cons, show n + (cs.length + 1) = n + 1 + cs.length by omega]; exact this.1); (· refine ⟨fun k rows hk => ?_, rfl⟩; have := h k rows hk; exact ⟨by rw [List.length_cons]; omega, this.2⟩)
end Go.Proofs.Ytcgpemefmakjiaa.PX
namespace Go.Proofs.Ytcgpemefmakjiaa.PX
open Go.RowKit Go.Proofs.YtcgpemefmakjiaaW.PrintWords Go.Proofs.YtcgpemefmakjiaaW.PrintLast Go.Proofs.YtcgpemefmakjiaaW.PrintMore
attribute [local go_sem] max2_int min2_int max_two min_two max_three min_three max_four min_four   -- for this text's walks alone
set_option linter.unusedVariables false
set_option linter.unusedSimpArgs false
def slices_Equal_int_int.l0 : Nat → List Int → List Int → Int → Int → Option (Bool)
  | 0, _, _, _, _ => none
  | k + 1, x0, x1, x12, x13 => if x13 < x12 then (if 0 ≤ x13 then (if x13 < (x0.length : Int) then (if x13 < (x1.length : Int) then (if (rd x0 x13) = (rd x1 x13) then (slices_Equal_int_int.l0 k x0 x1 x12 (wrap64 (x13 + 1))) else (some false)) else (none)) else (none)) else (none)) else (some true)
def slices_Equal_int_int.f (k : Nat) (l0 : List Int) (l1 : List Int) : Option (Bool) := if (l0.length : Int) = (l1.length : Int) then (slices_Equal_int_int.l0 k l0 l1 (l0.length : Int) 0) else (some false)
set_option maxHeartbeats 8000000 in
set_option maxRecDepth 100000 in
theorem slices_Equal_int_int.calls (k : Nat) (A0 : Option Addr) (c0 : Nat) (l0 : List Int) (A1 : Option Addr) (c1 : Nat) (l1 : List Int) (r : Bool) (w : World) (hr0 : Kd.C (Kd.int .i64) w A0 l0.length l0) (hc0 : l0.length ≤ c0) (hr1 : Kd.C (Kd.int .i64) w A1 l1.length l1) (hc1 : l1.length ≤ c1) (h : slices_Equal_int_int.f k l0 l1 = some r) :
    Calls Try.prog 67 #[.slice A0 l0.length c0, .slice A1 l1.length c1] w fun e w' => e = .returned (.bool r) ∧ Drawn0 w w' := by
  have HR0 := Aside0.mk hr0; have HC0 := Aside0.mk hc0; clear hr0 hc0; have HR1 := Aside0.mk hr1; have HC1 := Aside0.mk hc1; clear hr1 hc1; have H : (if (l0.length : Int) = (l1.length : Int) then (slices_Equal_int_int.l0 k l0 l1 (l0.length : Int) 0) else (some false)) = some r := h; clear h
  by_cases c3 : (l0.length : Int) = (l1.length : Int)
  · rw [if_pos c3] at H
    have c3b0 : ((l0.length : Int) == (l1.length : Int)) = true := beq_iff_eq.mpr c3; have c3b1 : ((l0.length : Int) != (l1.length : Int)) = false := bne_eq_false_iff_eq.mpr c3
    have c3b2 : (l0.length == l1.length) = true := by first | simpa using c3 | (simp at c3 ⊢; omega)
    clear c3; have H' := Aside0.mk H; clear H
    go_enter Try.func67, Try.ntmps67
    go_wp2
    repeat (go_quiet (fail); try go_wp2)
    go_loopg [13] k (fun kq v13 w' => ∃ (x13_1 : Int), v13 = .int .i64 x13_1 ∧ Aside0 (slices_Equal_int_int.l0 kq l0 l1 (l0.length : Int) x13_1 = some r) ∧ Aside0 (kq ≤ k) ∧ Drawn0 w w')
    case atStart => exact ⟨(0), (by first | rfl | (simp; done) | (simp [*]; done)), H', ⟨Nat.le_refl _⟩, by repeat (first | exact Drawn0.refl _ | apply Drawn0.step)⟩
    case round =>
      clear H'
      try clear c1
      try clear p2
      try clear c3
      try clear c3b0
      try clear c3b1
      try clear c3b2
      obtain ⟨x13_1, rfl, HA, HK1, ⟨m1, rfl⟩⟩ := hrel
      cases gk with
      | zero => exact absurd HA.out (by simp [slices_Equal_int_int.l0])
      | succ k1 =>
        have H := HA.out; clear HA; simp only [slices_Equal_int_int.l0] at H
        by_cases c4 : x13_1 < (l0.length : Int)
        · rw [if_pos c4] at H
          have c4b0 : decide (x13_1 < (l0.length : Int)) = true := decide_eq_true c4; clear c4
          by_cases c5 : 0 ≤ x13_1
          · rw [if_pos c5] at H
            have c5b0 : decide (0 ≤ x13_1) = true := decide_eq_true c5; clear c5
            by_cases c6 : x13_1 < (l0.length : Int)
            · rw [if_pos c6] at H
              have c6b0 : decide (x13_1 < (l0.length : Int)) = true := decide_eq_true c6; clear c6
              by_cases c7 : x13_1 < (l1.length : Int)
              · rw [if_pos c7] at H
                have c7b0 : decide (x13_1 < (l1.length : Int)) = true := decide_eq_true c7; clear c7
                by_cases c8 : (rd l0 x13_1) = (rd l1 x13_1)
                · rw [if_pos c8] at H
                  have c8b0 : ((rd l0 x13_1) == (rd l1 x13_1)) = true := beq_iff_eq.mpr c8; have c8b1 : ((rd l0 x13_1) != (rd l1 x13_1)) = false := bne_eq_false_iff_eq.mpr c8; clear c8; have H' := Aside0.mk H; clear H; have p210 : 0 ≤ (x13_1 : Int) := of_decide_eq_true (by first | (with_reducible assumption) | assumption); have q210 : x13_1 < (l0.length : Int) := of_decide_eq_true (by first | (with_reducible assumption) | assumption); obtain ⟨ad210, e210, hx210_0⟩ := Kd.at_int HR0.out x13_1 p210 q210
                  cases e210
                  replace p210 := eq_true p210; replace q210 := eq_true q210; have p211 : 0 ≤ (x13_1 : Int) := of_decide_eq_true (by first | (with_reducible assumption) | assumption); have q211 : x13_1 < (l1.length : Int) := of_decide_eq_true (by first | (with_reducible assumption) | assumption); obtain ⟨ad211, e211, hx211_0⟩ := Kd.at_int HR1.out x13_1 p211 q211
                  cases e211
                  replace p211 := eq_true p211; replace q211 := eq_true q211; go_wp2
                  repeat (go_quiet (fail); try go_wp2)
                  go_roundg k1
                  case measure => have := HK1.out; omega
                  case rel => exact ⟨(wrap64 (x13_1 + 1)), (by first | rfl | (simp; done) | (simp [*]; done)), H', ⟨by have := HK1.out; omega⟩, by repeat (first | exact Drawn0.refl _ | apply Drawn0.step)⟩
                · rw [if_neg c8] at H
                  have c8b0 : ((rd l0 x13_1) == (rd l1 x13_1)) = false := beq_eq_false_iff_ne.mpr c8; have c8b1 : ((rd l0 x13_1) != (rd l1 x13_1)) = true := bne_iff_ne.mpr c8; obtain rfl := Option.some.inj H; have p210 : 0 ≤ (x13_1 : Int) := of_decide_eq_true (by first | (with_reducible assumption) | assumption); have q210 : x13_1 < (l0.length : Int) := of_decide_eq_true (by first | (with_reducible assumption) | assumption); obtain ⟨ad210, e210, hx210_0⟩ := Kd.at_int HR0.out x13_1 p210 q210
                  cases e210
                  replace p210 := eq_true p210; replace q210 := eq_true q210; have p211 : 0 ≤ (x13_1 : Int) := of_decide_eq_true (by first | (with_reducible assumption) | assumption); have q211 : x13_1 < (l1.length : Int) := of_decide_eq_true (by first | (with_reducible assumption) | assumption); obtain ⟨ad211, e211, hx211_0⟩ := Kd.at_int HR1.out x13_1 p211 q211
                  cases e211
                  replace p211 := eq_true p211; replace q211 := eq_true q211; go_wp2
                  repeat (go_quiet (fail); try go_wp2)
                  go_ret; exact ⟨by first | rfl | (simp; done) | (simp [*]; done), by repeat (first | exact Drawn0.refl _ | apply Drawn0.step)⟩
              (· rw [if_neg c7] at H; exact absurd H (by simp))
            (· rw [if_neg c6] at H; exact absurd H (by simp))
          (· rw [if_neg c5] at H; exact absurd H (by simp))
        · rw [if_neg c4] at H
          have c4b0 : decide (x13_1 < (l0.length : Int)) = false := decide_eq_false c4; clear c4; obtain rfl := Option.some.inj H; go_wp2
          repeat (go_quiet (fail); try go_wp2)
          go_ret; exact ⟨by first | rfl | (simp; done) | (simp [*]; done), by repeat (first | exact Drawn0.refl _ | apply Drawn0.step)⟩
  · rw [if_neg c3] at H
    have c3b0 : ((l0.length : Int) == (l1.length : Int)) = false := beq_eq_false_iff_ne.mpr c3; have c3b1 : ((l0.length : Int) != (l1.length : Int)) = true := bne_iff_ne.mpr c3
    have c3b2 : (l0.length == l1.length) = false := by first | simpa using c3 | (simp at c3 ⊢; omega)
    obtain rfl := Option.some.inj H
    go_enter Try.func67, Try.ntmps67
    go_wp2
    repeat (go_quiet (fail); try go_wp2)
    go_ret; exact ⟨by first | rfl | (simp; done) | (simp [*]; done), by repeat (first | exact Drawn0.refl _ | apply Drawn0.step)⟩
end Go.Proofs.Ytcgpemefmakjiaa.PX
namespace Go.Proofs.Ytcgpemefmakjiaa.PX
open Go.RowKit Go.Proofs.YtcgpemefmakjiaaW.PrintWords Go.Proofs.YtcgpemefmakjiaaW.PrintLast Go.Proofs.YtcgpemefmakjiaaW.PrintMore
theorem wrap64_id {x : Int} (h0 : -9223372036854775808 ≤ x) (h1 : x ≤ 9223372036854775807) : wrap64 x = x := by
  unfold wrap64; omega
theorem rd_nat (xs : List Int) (i : Nat) (h : i < xs.length) : rd xs i = xs[i] := by simp [rd, List.getD_eq_getElem?_getD, h]
theorem slEq_l0 (xs ys : List Int) (hl : xs.length = ys.length) (hm : xs.length < 4611686018427387904) : ∀ n i : Nat, i + n = xs.length → slices_Equal_int_int.l0 (n + 1) xs ys (xs.length : Int) (i : Int) = some (decide (xs.drop i = ys.drop i)) := by
  intro n
  induction n with
  | zero =>
    intro i hi; unfold slices_Equal_int_int.l0; rw [if_neg (by omega), List.drop_eq_nil_of_le (by omega), List.drop_eq_nil_of_le (by omega)]; rfl
  | succ n ih =>
    intro i hi; unfold slices_Equal_int_int.l0; rw [if_pos (by omega), if_pos (by omega), if_pos (by omega), if_pos (by omega), rd_nat xs i (by omega), rd_nat ys i (by omega), wrap64_id (by omega) (by omega)]
    have e : ((i : Int) + 1) = ((i + 1 : Nat) : Int) := by omega
    rw [e, ih (i + 1) (by omega), List.drop_eq_getElem_cons (show i < xs.length by omega), List.drop_eq_getElem_cons (show i < ys.length by omega)]
    by_cases he : xs[i] = ys[i]
    (· rw [if_pos he]; simp only [he, List.cons.injEq, true_and]); (· rw [if_neg he]; simp only [he, List.cons.injEq, false_and, decide_false])
theorem slEq_f (xs ys : List Int) (hm : xs.length < 4611686018427387904) : slices_Equal_int_int.f (xs.length + 1) xs ys = some (decide (xs = ys)) := by
  unfold slices_Equal_int_int.f
  by_cases h : xs.length = ys.length
  (· rw [if_pos (by omega)]; exact slEq_l0 xs ys h hm xs.length 0 (by omega))
  · rw [if_neg (by omega)]
    have : xs ≠ ys := fun e => h (congrArg _ e)
    simp [this]
end Go.Proofs.Ytcgpemefmakjiaa.PX
namespace Go.Proofs.Ytcgpemefmakjiaa.PX
open Go.RowKit Go.Proofs.YtcgpemefmakjiaaW.PrintWords Go.Proofs.YtcgpemefmakjiaaW.PrintLast Go.Proofs.YtcgpemefmakjiaaW.PrintMore
set_option linter.unusedVariables false
set_option linter.unusedSimpArgs false
set_option maxHeartbeats 4000000 in
set_option maxRecDepth 100000 in
theorem apply_bad (w W : World) (v : Value) (l : Wd) (f0 f1 f2 f3 f4 : Int) (A5 : Option Addr) (c5 : Nat) (f5 : List Int) (hB : Below w.heap.size w W) (hv : WRep W w.heap.size v l) (hr : Kd.C (Kd.int .i64) w A5 f5.length f5) (hc : f5.length ≤ c5)
    (hf : formedB f2 f3 f4 f5 = false) :
    Calls Try.prog 44 #[v, .agg #[.int .i64 f0, .int .i64 f1, .int .i64 f2, .int .i64 f3, .int .i64 f4, .slice A5 f5.length c5]] W fun e W' => e = .returned (.int .i64 2) ∧ WRep W' w.heap.size v l ∧ Below w.heap.size w W' := by
  have hu61 := Try.underlying61; have HB := Aside0.mk hB; have HR := Aside0.mk hr; have HC := Aside0.mk hc; have HV := Aside0.mk hv
  obtain ⟨A, c, rfl, hlen, htop⟩ : ∃ A c, v = .slice A l.length c ∧ l.length ≤ 9223372036854775807 ∧ True := by
    obtain ⟨_, _, h⟩ := hv; obtain ⟨A, c, e, hl, _⟩ := h.top; exact ⟨A, c, e, hl, trivial⟩
  clear htop hB hr hc hv; have HF := Aside0.mk ((formedB_f f0 f1 f2 f3 f4 f5).trans (congrArg some hf)); clear hf
  go_enter Try.func44, Try.ntmps44
  go_upto_region 1 with (first | ((with_reducible refine gate_dst (N := 3) rfl ?_); (try (refine gate_guard (by rfl) ?_; dsimp only)); refine box_event ?hg (N := 3) ?hd (cs := #[.int .i64 f0, .int .i64 f1, .int .i64 f2, .int .i64 f3, .int .i64 f4, .slice A5 f5.length c5]) (t := 61) ?hr ?_; (case hd => rfl); (case hg => rfl); (case hr => first | (go_simp; done) | (go_simp; rfl)); intro gb hg w1 hbox hb1; have n0_ := Aside0.mk (below_step HB.out hb1); have n1_ := Aside0.mk (HV.out.below hb1); have n2_ := Aside0.mk (show gb < w1.heap.size from (Array.getElem?_eq_some_iff.1 hbox).1);  clear HB HV; have HB := n0_; have HV := n1_; have GL := n2_; clear n0_ n1_ n2_; have hz0 : w1.cell? ⟨gb, 0, none⟩ = some (.int .i64 f0) := (blk_cell hbox 0).trans rfl; have hz1 : w1.cell? ⟨gb, 1, none⟩ = some (.int .i64 f1) := (blk_cell hbox 1).trans rfl; have hz2 : w1.cell? ⟨gb, 2, none⟩ = some (.int .i64 f2) := (blk_cell hbox 2).trans rfl; have hz3 : w1.cell? ⟨gb, 3, none⟩ = some (.int .i64 f3) := (blk_cell hbox 3).trans rfl; have hz4 : w1.cell? ⟨gb, 4, none⟩ = some (.int .i64 f4) := (blk_cell hbox 4).trans rfl; have hz5 : w1.cell? ⟨gb, 5, none⟩ = some (.slice A5 f5.length c5) := (blk_cell hbox 5).trans rfl; clear hb1 hbox hg))
  go_cut [5] (fun v5 wc => v5 = .bool (decide (0 ≤ f0) && decide (f0 < (l.length : Int))) ∧ w1 = wc)
  case first =>
    by_cases h1 : 0 ≤ f0
    · have h1b := decide_eq_true h1
      go_wp2
      go_meet
      case rel => exact ⟨by rw [h1b]; rfl, rfl⟩
    · have h1b := decide_eq_false h1
      go_wp2
      go_meet
      case rel => exact ⟨by rw [h1b]; rfl, rfl⟩
  case rest =>
    obtain ⟨rfl, rfl⟩ := hcut
    go_upto_region 2 with (fail)
    replace HB : Aside0 (Below w.heap.size w w1.drew) := ⟨below_drew HB.out⟩; replace HV : Aside0 (WRep w1.drew w.heap.size (.slice (A) l.length c) l) := HV; replace GL : Aside0 (gb < w1.drew.heap.size) := GL; replace hz0 : w1.drew.cell? ⟨gb, 0, none⟩ = some (.int .i64 f0) := hz0; replace hz1 : w1.drew.cell? ⟨gb, 1, none⟩ = some (.int .i64 f1) := hz1; replace hz2 : w1.drew.cell? ⟨gb, 2, none⟩ = some (.int .i64 f2) := hz2; replace hz3 : w1.drew.cell? ⟨gb, 3, none⟩ = some (.int .i64 f3) := hz3; replace hz4 : w1.drew.cell? ⟨gb, 4, none⟩ = some (.int .i64 f4) := hz4; replace hz5 : w1.drew.cell? ⟨gb, 5, none⟩ = some (.slice A5 f5.length c5) := hz5; refine start_ (n := 34) (S := fun w' => w'.cell? ⟨gb, 0, none⟩ = some (.int .i64 f0) ∧ w'.cell? ⟨gb, 1, none⟩ = some (.int .i64 f1) ∧ w'.cell? ⟨gb, 2, none⟩ = some (.int .i64 f2) ∧ w'.cell? ⟨gb, 3, none⟩ = some (.int .i64 f3) ∧ w'.cell? ⟨gb, 4, none⟩ = some (.int .i64 f4) ∧ w'.cell? ⟨gb, 5, none⟩ = some (.slice A5 f5.length c5)) (ds := []) #[O_,O_,O_,O_,O_,O_,O_,O_,O_,O_,O_,O_,O_,O_,O_,O_,O_,O_,O_,O_,O_,O_,O_,O_,O_,O_,O_,O_,O_,O_,O_,O_,O_,O_] (by kernel_rfl) rfl rfl ⟨hz0, hz1, hz2, hz3, hz4, hz5⟩ (fun hHeld => ?_); generalize w1.drew = w2 at HB HV GL hHeld hz0 hz1 hz2 hz3 hz4 hz5 ⊢; refine take_ (i := 0) (N := some 17) (v := ?_) (a' := ?_) #[I_,O_,O_,O_,O_,O_,O_,O_,O_,O_,O_,O_,O_,O_,O_,O_,O_,O_,O_,O_,O_,O_,O_,O_,O_,O_,O_,O_,O_,O_,O_,O_,O_,O_] rfl rfl (by kernel_rfl) (fun _ _ _ h => h) (Or.inl ⟨by rfl, ?_⟩) hHeld ?_ ?_; rotate_left; (· rintro w' ⟨s0, s1, s2, s3, s4, s5⟩; go_simp; with_reducible rfl); rotate_left; (· simp only [Act.put, sA_, sB_, sC_, i64_w, i32_w]; rfl); refine one_ (i := 1) (N := some 18) #[I_,I_,O_,O_,O_,O_,O_,O_,O_,O_,O_,O_,O_,O_,O_,O_,O_,O_,O_,O_,O_,O_,O_,O_,O_,O_,O_,O_,O_,O_,O_,O_,O_,O_] rfl rfl (by kernel_rfl) (by decide) (fun K hK => ?_); refine goes_ Try.func66 (by kernel_rfl) rfl #[.agg #[.int .i64 f0, .int .i64 f1, .int .i64 f2, .int .i64 f3, .int .i64 f4, .slice A5 f5.length c5]] (by rfl) rfl rfl (by simp only [List.map_toArray, List.map_cons, List.map_nil]; rfl) ?_
    with_reducible refine (diff_Change_formed.calls f0 f1 f2 f3 f4 A5 c5 f5 false w2 (Kd.C_below HR.out HB.out) HC.out HF.out).mono ?_
    rintro e w3 ⟨rfl, hb⟩; refine ⟨_, rfl, ?_⟩; have n0_ := Aside0.mk (below_step HB.out hb); have n1_ := Aside0.mk (HV.out.below hb); have n2_ := Aside0.mk (Nat.lt_of_lt_of_le GL.out hb.size); clear HB HV GL; have HB := n0_; have HV := n1_; have GL := n2_; clear n0_ n1_ n2_; replace hz0 := cell_below hb hz0; replace hz1 := cell_below hb hz1; replace hz2 := cell_below hb hz2; replace hz3 := cell_below hb hz3; replace hz4 := cell_below hb hz4; replace hz5 := cell_below hb hz5; clear hb; refine hK.out _ _ ⟨hz0, hz1, hz2, hz3, hz4, hz5⟩ (fun hHeld => ?_); clear hK K; refine norm_ (a' := ?_) ?_ ?_; rotate_left
    · show Act.put _ (some 18) _ = _
      simp only [Act.put, sA_, sB_, sC_, i64_w, i32_w]; rfl
    refine pure_ (i := 2) (N := some 19) (v := ?_) (a' := ?_) #[I_,I_,I_,O_,O_,O_,O_,O_,O_,O_,O_,O_,O_,O_,O_,O_,O_,O_,O_,O_,O_,O_,O_,O_,O_,O_,O_,O_,O_,O_,O_,O_,O_,O_] rfl rfl (by kernel_rfl) (fun _ _ _ h => h) (Or.inl ⟨by rfl, ?_⟩) ?_ ?_; rotate_left; (· intro w'; go_simp; with_reducible rfl); rotate_left; (· simp only [Act.put, sA_, sB_, sC_, i64_w, i32_w]; rfl); refine pure_ (i := 3) (N := some 20) (v := ?_) (a' := ?_) #[I_,I_,I_,I_,O_,O_,O_,O_,O_,O_,O_,O_,O_,O_,O_,O_,O_,O_,O_,O_,O_,O_,O_,O_,O_,O_,O_,O_,O_,O_,O_,O_,O_,O_] rfl rfl (by kernel_rfl) (fun _ _ _ h => h) (Or.inl ⟨by rfl, ?_⟩) ?_ ?_; rotate_left; (· intro w'; go_simp; with_reducible rfl); rotate_left; (· simp only [Act.put, sA_, sB_, sC_, i64_w, i32_w]; rfl); refine pure_ (i := 4) (N := some 21) (v := undef) (a' := ?_) #[I_,I_,I_,I_,I_,O_,O_,O_,O_,O_,O_,O_,O_,O_,O_,O_,O_,O_,O_,O_,O_,O_,O_,O_,O_,O_,O_,O_,O_,O_,O_,O_,O_,O_] rfl rfl (by kernel_rfl) (fun _ _ _ h => h) (Or.inr ⟨by rfl, rfl⟩) ?_ ?_; rotate_left; (· simp only [Act.put, sA_, sB_, sC_, i64_w, i32_w]; rfl); refine pure_ (i := 5) (N := some 22) (v := undef) (a' := ?_) #[I_,I_,I_,I_,I_,I_,O_,O_,O_,O_,O_,O_,O_,O_,O_,O_,O_,O_,O_,O_,O_,O_,O_,O_,O_,O_,O_,O_,O_,O_,O_,O_,O_,O_] rfl rfl (by kernel_rfl) (fun _ _ _ h => h) (Or.inr ⟨by rfl, rfl⟩) ?_ ?_; rotate_left; (· simp only [Act.put, sA_, sB_, sC_, i64_w, i32_w]; rfl); refine pure_ (i := 6) (N := some 23) (v := undef) (a' := ?_) #[I_,I_,I_,I_,I_,I_,I_,O_,O_,O_,O_,O_,O_,O_,O_,O_,O_,O_,O_,O_,O_,O_,O_,O_,O_,O_,O_,O_,O_,O_,O_,O_,O_,O_] rfl rfl (by kernel_rfl) (fun _ _ _ h => h) (Or.inr ⟨by rfl, rfl⟩) ?_ ?_; rotate_left; (· simp only [Act.put, sA_, sB_, sC_, i64_w, i32_w]; rfl); refine pure_ (i := 7) (N := some 24) (v := undef) (a' := ?_) #[I_,I_,I_,I_,I_,I_,I_,I_,O_,O_,O_,O_,O_,O_,O_,O_,O_,O_,O_,O_,O_,O_,O_,O_,O_,O_,O_,O_,O_,O_,O_,O_,O_,O_] rfl rfl (by kernel_rfl) (fun _ _ _ h => h) (Or.inr ⟨by rfl, rfl⟩) ?_ ?_; rotate_left; (· simp only [Act.put, sA_, sB_, sC_, i64_w, i32_w]; rfl)
    refine pure_ (i := 8) (N := some 25) (v := undef) (a' := ?_) #[I_,I_,I_,I_,I_,I_,I_,I_,I_,O_,O_,O_,O_,O_,O_,O_,O_,O_,O_,O_,O_,O_,O_,O_,O_,O_,O_,O_,O_,O_,O_,O_,O_,O_] rfl rfl (by kernel_rfl) (fun _ _ _ h => h) (Or.inr ⟨by rfl, rfl⟩) ?_ ?_; rotate_left; (· simp only [Act.put, sA_, sB_, sC_, i64_w, i32_w]; rfl); refine pure_ (i := 9) (N := some 26) (v := undef) (a' := ?_) #[I_,I_,I_,I_,I_,I_,I_,I_,I_,I_,O_,O_,O_,O_,O_,O_,O_,O_,O_,O_,O_,O_,O_,O_,O_,O_,O_,O_,O_,O_,O_,O_,O_,O_] rfl rfl (by kernel_rfl) (fun _ _ _ h => h) (Or.inr ⟨by rfl, rfl⟩) ?_ ?_; rotate_left; (· simp only [Act.put, sA_, sB_, sC_, i64_w, i32_w]; rfl); refine pure_ (i := 10) (N := some 27) (v := undef) (a' := ?_) #[I_,I_,I_,I_,I_,I_,I_,I_,I_,I_,I_,O_,O_,O_,O_,O_,O_,O_,O_,O_,O_,O_,O_,O_,O_,O_,O_,O_,O_,O_,O_,O_,O_,O_] rfl rfl (by kernel_rfl) (fun _ _ _ h => h) (Or.inr ⟨by rfl, rfl⟩) ?_ ?_; rotate_left; (· simp only [Act.put, sA_, sB_, sC_, i64_w, i32_w]; rfl); refine pure_ (i := 11) (N := some 28) (v := undef) (a' := ?_) #[I_,I_,I_,I_,I_,I_,I_,I_,I_,I_,I_,I_,O_,O_,O_,O_,O_,O_,O_,O_,O_,O_,O_,O_,O_,O_,O_,O_,O_,O_,O_,O_,O_,O_] rfl rfl (by kernel_rfl) (fun _ _ _ h => h) (Or.inr ⟨by rfl, rfl⟩) ?_ ?_; rotate_left; (· simp only [Act.put, sA_, sB_, sC_, i64_w, i32_w]; rfl); refine pure_ (i := 12) (N := some 29) (v := undef) (a' := ?_) #[I_,I_,I_,I_,I_,I_,I_,I_,I_,I_,I_,I_,I_,O_,O_,O_,O_,O_,O_,O_,O_,O_,O_,O_,O_,O_,O_,O_,O_,O_,O_,O_,O_,O_] rfl rfl (by kernel_rfl) (fun _ _ _ h => h) (Or.inr ⟨by rfl, rfl⟩) ?_ ?_; rotate_left; (· simp only [Act.put, sA_, sB_, sC_, i64_w, i32_w]; rfl); refine pure_ (i := 13) (N := some 30) (v := undef) (a' := ?_) #[I_,I_,I_,I_,I_,I_,I_,I_,I_,I_,I_,I_,I_,I_,O_,O_,O_,O_,O_,O_,O_,O_,O_,O_,O_,O_,O_,O_,O_,O_,O_,O_,O_,O_] rfl rfl (by kernel_rfl) (fun _ _ _ h => h) (Or.inr ⟨by rfl, rfl⟩) ?_ ?_; rotate_left; (· simp only [Act.put, sA_, sB_, sC_, i64_w, i32_w]; rfl); refine pure_ (i := 14) (N := some 31) (v := undef) (a' := ?_) #[I_,I_,I_,I_,I_,I_,I_,I_,I_,I_,I_,I_,I_,I_,I_,O_,O_,O_,O_,O_,O_,O_,O_,O_,O_,O_,O_,O_,O_,O_,O_,O_,O_,O_] rfl rfl (by kernel_rfl) (fun _ _ _ h => h) (Or.inr ⟨by rfl, rfl⟩) ?_ ?_
    rotate_left; (· simp only [Act.put, sA_, sB_, sC_, i64_w, i32_w]; rfl); refine pure_ (i := 15) (N := some 32) (v := undef) (a' := ?_) #[I_,I_,I_,I_,I_,I_,I_,I_,I_,I_,I_,I_,I_,I_,I_,I_,O_,O_,O_,O_,O_,O_,O_,O_,O_,O_,O_,O_,O_,O_,O_,O_,O_,O_] rfl rfl (by kernel_rfl) (fun _ _ _ h => h) (Or.inr ⟨by rfl, rfl⟩) ?_ ?_; rotate_left; (· simp only [Act.put, sA_, sB_, sC_, i64_w, i32_w]; rfl); refine pure_ (i := 16) (N := some 33) (v := undef) (a' := ?_) #[I_,I_,I_,I_,I_,I_,I_,I_,I_,I_,I_,I_,I_,I_,I_,I_,I_,O_,O_,O_,O_,O_,O_,O_,O_,O_,O_,O_,O_,O_,O_,O_,O_,O_] rfl rfl (by kernel_rfl) (fun _ _ _ h => h) (Or.inr ⟨by rfl, rfl⟩) ?_ ?_; rotate_left; (· simp only [Act.put, sA_, sB_, sC_, i64_w, i32_w]; rfl); refine pure_ (i := 17) (N := some 34) (v := undef) (a' := ?_) #[I_,I_,I_,I_,I_,I_,I_,I_,I_,I_,I_,I_,I_,I_,I_,I_,I_,I_,O_,O_,O_,O_,O_,O_,O_,O_,O_,O_,O_,O_,O_,O_,O_,O_] rfl rfl (by kernel_rfl) (fun _ _ _ h => h) (Or.inr ⟨by rfl, rfl⟩) ?_ ?_; rotate_left; (· simp only [Act.put, sA_, sB_, sC_, i64_w, i32_w]; rfl); refine pure_ (i := 18) (N := some 35) (v := undef) (a' := ?_) #[I_,I_,I_,I_,I_,I_,I_,I_,I_,I_,I_,I_,I_,I_,I_,I_,I_,I_,I_,O_,O_,O_,O_,O_,O_,O_,O_,O_,O_,O_,O_,O_,O_,O_] rfl rfl (by kernel_rfl) (fun _ _ _ h => h) (Or.inr ⟨by rfl, rfl⟩) ?_ ?_; rotate_left; (· simp only [Act.put, sA_, sB_, sC_, i64_w, i32_w]; rfl); refine pure_ (i := 19) (N := some 36) (v := undef) (a' := ?_) #[I_,I_,I_,I_,I_,I_,I_,I_,I_,I_,I_,I_,I_,I_,I_,I_,I_,I_,I_,I_,O_,O_,O_,O_,O_,O_,O_,O_,O_,O_,O_,O_,O_,O_] rfl rfl (by kernel_rfl) (fun _ _ _ h => h) (Or.inr ⟨by rfl, rfl⟩) ?_ ?_; rotate_left; (· simp only [Act.put, sA_, sB_, sC_, i64_w, i32_w]; rfl); refine pure_ (i := 20) (N := some 37) (v := undef) (a' := ?_) #[I_,I_,I_,I_,I_,I_,I_,I_,I_,I_,I_,I_,I_,I_,I_,I_,I_,I_,I_,I_,I_,O_,O_,O_,O_,O_,O_,O_,O_,O_,O_,O_,O_,O_] rfl rfl (by kernel_rfl) (fun _ _ _ h => h) (Or.inr ⟨by rfl, rfl⟩) ?_ ?_; rotate_left; (· simp only [Act.put, sA_, sB_, sC_, i64_w, i32_w]; rfl); refine pure_ (i := 21) (N := some 38) (v := undef) (a' := ?_) #[I_,I_,I_,I_,I_,I_,I_,I_,I_,I_,I_,I_,I_,I_,I_,I_,I_,I_,I_,I_,I_,I_,O_,O_,O_,O_,O_,O_,O_,O_,O_,O_,O_,O_] rfl rfl (by kernel_rfl) (fun _ _ _ h => h) (Or.inr ⟨by rfl, rfl⟩) ?_ ?_
    rotate_left; (· simp only [Act.put, sA_, sB_, sC_, i64_w, i32_w]; rfl); refine pure_ (i := 22) (N := some 39) (v := undef) (a' := ?_) #[I_,I_,I_,I_,I_,I_,I_,I_,I_,I_,I_,I_,I_,I_,I_,I_,I_,I_,I_,I_,I_,I_,I_,O_,O_,O_,O_,O_,O_,O_,O_,O_,O_,O_] rfl rfl (by kernel_rfl) (fun _ _ _ h => h) (Or.inr ⟨by rfl, rfl⟩) ?_ ?_; rotate_left; (· simp only [Act.put, sA_, sB_, sC_, i64_w, i32_w]; rfl); refine pure_ (i := 23) (N := some 40) (v := undef) (a' := ?_) #[I_,I_,I_,I_,I_,I_,I_,I_,I_,I_,I_,I_,I_,I_,I_,I_,I_,I_,I_,I_,I_,I_,I_,I_,O_,O_,O_,O_,O_,O_,O_,O_,O_,O_] rfl rfl (by kernel_rfl) (fun _ _ _ h => h) (Or.inr ⟨by rfl, rfl⟩) ?_ ?_; rotate_left; (· simp only [Act.put, sA_, sB_, sC_, i64_w, i32_w]; rfl); refine pure_ (i := 24) (N := some 41) (v := undef) (a' := ?_) #[I_,I_,I_,I_,I_,I_,I_,I_,I_,I_,I_,I_,I_,I_,I_,I_,I_,I_,I_,I_,I_,I_,I_,I_,I_,O_,O_,O_,O_,O_,O_,O_,O_,O_] rfl rfl (by kernel_rfl) (fun _ _ _ h => h) (Or.inr ⟨by rfl, rfl⟩) ?_ ?_; rotate_left; (· simp only [Act.put, sA_, sB_, sC_, i64_w, i32_w]; rfl); refine pure_ (i := 25) (N := some 42) (v := undef) (a' := ?_) #[I_,I_,I_,I_,I_,I_,I_,I_,I_,I_,I_,I_,I_,I_,I_,I_,I_,I_,I_,I_,I_,I_,I_,I_,I_,I_,O_,O_,O_,O_,O_,O_,O_,O_] rfl rfl (by kernel_rfl) (fun _ _ _ h => h) (Or.inr ⟨by rfl, rfl⟩) ?_ ?_; rotate_left; (· simp only [Act.put, sA_, sB_, sC_, i64_w, i32_w]; rfl); refine pure_ (i := 26) (N := some 43) (v := undef) (a' := ?_) #[I_,I_,I_,I_,I_,I_,I_,I_,I_,I_,I_,I_,I_,I_,I_,I_,I_,I_,I_,I_,I_,I_,I_,I_,I_,I_,I_,O_,O_,O_,O_,O_,O_,O_] rfl rfl (by kernel_rfl) (fun _ _ _ h => h) (Or.inr ⟨by rfl, rfl⟩) ?_ ?_; rotate_left; (· simp only [Act.put, sA_, sB_, sC_, i64_w, i32_w]; rfl); refine pure_ (i := 27) (N := some 44) (v := undef) (a' := ?_) #[I_,I_,I_,I_,I_,I_,I_,I_,I_,I_,I_,I_,I_,I_,I_,I_,I_,I_,I_,I_,I_,I_,I_,I_,I_,I_,I_,I_,O_,O_,O_,O_,O_,O_] rfl rfl (by kernel_rfl) (fun _ _ _ h => h) (Or.inr ⟨by rfl, rfl⟩) ?_ ?_; rotate_left; (· simp only [Act.put, sA_, sB_, sC_, i64_w, i32_w]; rfl); refine pure_ (i := 28) (N := some 45) (v := undef) (a' := ?_) #[I_,I_,I_,I_,I_,I_,I_,I_,I_,I_,I_,I_,I_,I_,I_,I_,I_,I_,I_,I_,I_,I_,I_,I_,I_,I_,I_,I_,I_,O_,O_,O_,O_,O_] rfl rfl (by kernel_rfl) (fun _ _ _ h => h) (Or.inr ⟨by rfl, rfl⟩) ?_ ?_
    rotate_left; (· simp only [Act.put, sA_, sB_, sC_, i64_w, i32_w]; rfl); refine pure_ (i := 29) (N := some 46) (v := undef) (a' := ?_) #[I_,I_,I_,I_,I_,I_,I_,I_,I_,I_,I_,I_,I_,I_,I_,I_,I_,I_,I_,I_,I_,I_,I_,I_,I_,I_,I_,I_,I_,I_,O_,O_,O_,O_] rfl rfl (by kernel_rfl) (fun _ _ _ h => h) (Or.inr ⟨by rfl, rfl⟩) ?_ ?_; rotate_left; (· simp only [Act.put, sA_, sB_, sC_, i64_w, i32_w]; rfl); refine pure_ (i := 30) (N := some 47) (v := undef) (a' := ?_) #[I_,I_,I_,I_,I_,I_,I_,I_,I_,I_,I_,I_,I_,I_,I_,I_,I_,I_,I_,I_,I_,I_,I_,I_,I_,I_,I_,I_,I_,I_,I_,O_,O_,O_] rfl rfl (by kernel_rfl) (fun _ _ _ h => h) (Or.inr ⟨by rfl, rfl⟩) ?_ ?_; rotate_left; (· simp only [Act.put, sA_, sB_, sC_, i64_w, i32_w]; rfl); refine pure_ (i := 31) (N := some 48) (v := undef) (a' := ?_) #[I_,I_,I_,I_,I_,I_,I_,I_,I_,I_,I_,I_,I_,I_,I_,I_,I_,I_,I_,I_,I_,I_,I_,I_,I_,I_,I_,I_,I_,I_,I_,I_,O_,O_] rfl rfl (by kernel_rfl) (fun _ _ _ h => h) (Or.inr ⟨by rfl, rfl⟩) ?_ ?_; rotate_left; (· simp only [Act.put, sA_, sB_, sC_, i64_w, i32_w]; rfl); refine pure_ (i := 32) (N := some 49) (v := undef) (a' := ?_) #[I_,I_,I_,I_,I_,I_,I_,I_,I_,I_,I_,I_,I_,I_,I_,I_,I_,I_,I_,I_,I_,I_,I_,I_,I_,I_,I_,I_,I_,I_,I_,I_,I_,O_] rfl rfl (by kernel_rfl) (fun _ _ _ h => h) (Or.inr ⟨by rfl, rfl⟩) ?_ ?_; rotate_left; (· simp only [Act.put, sA_, sB_, sC_, i64_w, i32_w]; rfl); refine pure_ (i := 33) (N := some 50) (v := ?_) (a' := ?_) #[I_,I_,I_,I_,I_,I_,I_,I_,I_,I_,I_,I_,I_,I_,I_,I_,I_,I_,I_,I_,I_,I_,I_,I_,I_,I_,I_,I_,I_,I_,I_,I_,I_,I_] rfl rfl (by kernel_rfl) (fun _ _ _ h => h) (Or.inl ⟨by rfl, ?_⟩) ?_ ?_; rotate_left; (· intro w'; go_simp; with_reducible rfl); rotate_left; (· simp only [Act.put, sA_, sB_, sC_, i64_w, i32_w]; rfl); refine done_ (by kernel_rfl) ?_; go_wp2; go_ret; exact ⟨rfl, HV.out, HB.out⟩
set_option maxHeartbeats 4000000 in
set_option maxRecDepth 100000 in
theorem apply_unknown_set (w W : World) (v : Value) (l : Wd) (f0 f1 f2 f3 f4 : Int) (A5 : Option Addr) (c5 : Nat) (f5 : List Int) (hB : Below w.heap.size w W) (hv : WRep W w.heap.size v l) (hr : Kd.C (Kd.int .i64) w A5 f5.length f5) (hc : f5.length ≤ c5)
    (hf : formedB f2 f3 f4 f5 = true) (hun : f0 < 0 ∨ (l.length : Int) ≤ f0) (h2 : 0 ≤ f2) :
    Calls Try.prog 44 #[v, .agg #[.int .i64 f0, .int .i64 f1, .int .i64 f2, .int .i64 f3, .int .i64 f4, .slice A5 f5.length c5]] W fun e W' => e = .returned (.int .i64 5) ∧ WRep W' w.heap.size v l ∧ Below w.heap.size w W' := by
  have hu61 := Try.underlying61; have HB := Aside0.mk hB; have HR := Aside0.mk hr; have HC := Aside0.mk hc; have HV := Aside0.mk hv
  obtain ⟨A, c, rfl, hlen, htop⟩ : ∃ A c, v = .slice A l.length c ∧ l.length ≤ 9223372036854775807 ∧ True := by
    obtain ⟨_, _, h⟩ := hv; obtain ⟨A, c, e, hl, _⟩ := h.top; exact ⟨A, c, e, hl, trivial⟩
  clear htop hB hr hc hv; have HF := Aside0.mk ((formedB_f f0 f1 f2 f3 f4 f5).trans (congrArg some hf))
  have hkn : (decide (0 ≤ f0) && decide (f0 < (l.length : Int))) = false := by
    rcases hun with h | h
    · simp [Int.not_le.2 h]
    · simp [Int.not_lt.2 h]
  clear hf hun; have hd2 : decide (f2 < 0) = false := decide_eq_false (by omega)
  go_enter Try.func44, Try.ntmps44
  go_upto_region 1 with (first | ((with_reducible refine gate_dst (N := 3) rfl ?_); (try (refine gate_guard (by rfl) ?_; dsimp only)); refine box_event ?hg (N := 3) ?hd (cs := #[.int .i64 f0, .int .i64 f1, .int .i64 f2, .int .i64 f3, .int .i64 f4, .slice A5 f5.length c5]) (t := 61) ?hr ?_; (case hd => rfl); (case hg => rfl); (case hr => first | (go_simp; done) | (go_simp; rfl)); intro gb hg w1 hbox hb1; have n0_ := Aside0.mk (below_step HB.out hb1); have n1_ := Aside0.mk (HV.out.below hb1); have n2_ := Aside0.mk (show gb < w1.heap.size from (Array.getElem?_eq_some_iff.1 hbox).1);  clear HB HV; have HB := n0_; have HV := n1_; have GL := n2_; clear n0_ n1_ n2_; have hz0 : w1.cell? ⟨gb, 0, none⟩ = some (.int .i64 f0) := (blk_cell hbox 0).trans rfl; have hz1 : w1.cell? ⟨gb, 1, none⟩ = some (.int .i64 f1) := (blk_cell hbox 1).trans rfl; have hz2 : w1.cell? ⟨gb, 2, none⟩ = some (.int .i64 f2) := (blk_cell hbox 2).trans rfl; have hz3 : w1.cell? ⟨gb, 3, none⟩ = some (.int .i64 f3) := (blk_cell hbox 3).trans rfl; have hz4 : w1.cell? ⟨gb, 4, none⟩ = some (.int .i64 f4) := (blk_cell hbox 4).trans rfl; have hz5 : w1.cell? ⟨gb, 5, none⟩ = some (.slice A5 f5.length c5) := (blk_cell hbox 5).trans rfl; clear hb1 hbox hg))
  go_cut [5] (fun v5 wc => v5 = .bool (decide (0 ≤ f0) && decide (f0 < (l.length : Int))) ∧ w1 = wc)
  case first =>
    by_cases h1 : 0 ≤ f0
    · have h1b := decide_eq_true h1
      go_wp2
      go_meet
      case rel => exact ⟨by rw [h1b]; rfl, rfl⟩
    · have h1b := decide_eq_false h1
      go_wp2
      go_meet
      case rel => exact ⟨by rw [h1b]; rfl, rfl⟩
  case rest =>
    obtain ⟨rfl, rfl⟩ := hcut; rw [hkn]
    go_upto_region 2 with (fail)
    replace HB : Aside0 (Below w.heap.size w w1.drew) := ⟨below_drew HB.out⟩; replace HV : Aside0 (WRep w1.drew w.heap.size (.slice (A) l.length c) l) := HV; replace GL : Aside0 (gb < w1.drew.heap.size) := GL; replace hz0 : w1.drew.cell? ⟨gb, 0, none⟩ = some (.int .i64 f0) := hz0; replace hz1 : w1.drew.cell? ⟨gb, 1, none⟩ = some (.int .i64 f1) := hz1; replace hz2 : w1.drew.cell? ⟨gb, 2, none⟩ = some (.int .i64 f2) := hz2; replace hz3 : w1.drew.cell? ⟨gb, 3, none⟩ = some (.int .i64 f3) := hz3; replace hz4 : w1.drew.cell? ⟨gb, 4, none⟩ = some (.int .i64 f4) := hz4; replace hz5 : w1.drew.cell? ⟨gb, 5, none⟩ = some (.slice A5 f5.length c5) := hz5; refine start_ (n := 34) (S := fun w' => w'.cell? ⟨gb, 0, none⟩ = some (.int .i64 f0) ∧ w'.cell? ⟨gb, 1, none⟩ = some (.int .i64 f1) ∧ w'.cell? ⟨gb, 2, none⟩ = some (.int .i64 f2) ∧ w'.cell? ⟨gb, 3, none⟩ = some (.int .i64 f3) ∧ w'.cell? ⟨gb, 4, none⟩ = some (.int .i64 f4) ∧ w'.cell? ⟨gb, 5, none⟩ = some (.slice A5 f5.length c5)) (ds := []) #[O_,O_,O_,O_,O_,O_,O_,O_,O_,O_,O_,O_,O_,O_,O_,O_,O_,O_,O_,O_,O_,O_,O_,O_,O_,O_,O_,O_,O_,O_,O_,O_,O_,O_] (by kernel_rfl) rfl rfl ⟨hz0, hz1, hz2, hz3, hz4, hz5⟩ (fun hHeld => ?_); generalize w1.drew = w2 at HB HV GL hHeld hz0 hz1 hz2 hz3 hz4 hz5 ⊢; refine take_ (i := 0) (N := some 17) (v := ?_) (a' := ?_) #[I_,O_,O_,O_,O_,O_,O_,O_,O_,O_,O_,O_,O_,O_,O_,O_,O_,O_,O_,O_,O_,O_,O_,O_,O_,O_,O_,O_,O_,O_,O_,O_,O_,O_] rfl rfl (by kernel_rfl) (fun _ _ _ h => h) (Or.inl ⟨by rfl, ?_⟩) hHeld ?_ ?_; rotate_left; (· rintro w' ⟨s0, s1, s2, s3, s4, s5⟩; go_simp; with_reducible rfl); rotate_left; (· simp only [Act.put, sA_, sB_, sC_, i64_w, i32_w]; rfl); refine one_ (i := 1) (N := some 18) #[I_,I_,O_,O_,O_,O_,O_,O_,O_,O_,O_,O_,O_,O_,O_,O_,O_,O_,O_,O_,O_,O_,O_,O_,O_,O_,O_,O_,O_,O_,O_,O_,O_,O_] rfl rfl (by kernel_rfl) (by decide) (fun K hK => ?_); refine goes_ Try.func66 (by kernel_rfl) rfl #[.agg #[.int .i64 f0, .int .i64 f1, .int .i64 f2, .int .i64 f3, .int .i64 f4, .slice A5 f5.length c5]] (by rfl) rfl rfl (by simp only [List.map_toArray, List.map_cons, List.map_nil]; rfl) ?_
    with_reducible refine (diff_Change_formed.calls f0 f1 f2 f3 f4 A5 c5 f5 true w2 (Kd.C_below HR.out HB.out) HC.out HF.out).mono ?_
    rintro e w3 ⟨rfl, hb⟩; refine ⟨_, rfl, ?_⟩; have n0_ := Aside0.mk (below_step HB.out hb); have n1_ := Aside0.mk (HV.out.below hb); have n2_ := Aside0.mk (Nat.lt_of_lt_of_le GL.out hb.size); clear HB HV GL; have HB := n0_; have HV := n1_; have GL := n2_; clear n0_ n1_ n2_; replace hz0 := cell_below hb hz0; replace hz1 := cell_below hb hz1; replace hz2 := cell_below hb hz2; replace hz3 := cell_below hb hz3; replace hz4 := cell_below hb hz4; replace hz5 := cell_below hb hz5; clear hb; refine hK.out _ _ ⟨hz0, hz1, hz2, hz3, hz4, hz5⟩ (fun hHeld => ?_); clear hK K; refine norm_ (a' := ?_) ?_ ?_; rotate_left
    · show Act.put _ (some 18) _ = _
      simp only [Act.put, sA_, sB_, sC_, i64_w, i32_w]; rfl
    refine pure_ (i := 2) (N := some 19) (v := ?_) (a' := ?_) #[I_,I_,I_,O_,O_,O_,O_,O_,O_,O_,O_,O_,O_,O_,O_,O_,O_,O_,O_,O_,O_,O_,O_,O_,O_,O_,O_,O_,O_,O_,O_,O_,O_,O_] rfl rfl (by kernel_rfl) (fun _ _ _ h => h) (Or.inl ⟨by rfl, ?_⟩) ?_ ?_; rotate_left; (· intro w'; go_simp; with_reducible rfl); rotate_left; (· simp only [Act.put, sA_, sB_, sC_, i64_w, i32_w]; rfl); refine pure_ (i := 3) (N := some 20) (v := ?_) (a' := ?_) #[I_,I_,I_,I_,O_,O_,O_,O_,O_,O_,O_,O_,O_,O_,O_,O_,O_,O_,O_,O_,O_,O_,O_,O_,O_,O_,O_,O_,O_,O_,O_,O_,O_,O_] rfl rfl (by kernel_rfl) (fun _ _ _ h => h) (Or.inl ⟨by rfl, ?_⟩) ?_ ?_; rotate_left; (· intro w'; go_simp; with_reducible rfl); rotate_left; (· simp only [Act.put, sA_, sB_, sC_, i64_w, i32_w]; rfl); refine pure_ (i := 4) (N := some 21) (v := ?_) (a' := ?_) #[I_,I_,I_,I_,I_,O_,O_,O_,O_,O_,O_,O_,O_,O_,O_,O_,O_,O_,O_,O_,O_,O_,O_,O_,O_,O_,O_,O_,O_,O_,O_,O_,O_,O_] rfl rfl (by kernel_rfl) (fun _ _ _ h => h) (Or.inl ⟨by rfl, ?_⟩) ?_ ?_; rotate_left; (· intro w'; go_simp; with_reducible rfl); rotate_left; (· simp only [Act.put, sA_, sB_, sC_, i64_w, i32_w]; rfl); refine take_ (i := 5) (N := some 22) (v := ?_) (a' := ?_) #[I_,I_,I_,I_,I_,I_,O_,O_,O_,O_,O_,O_,O_,O_,O_,O_,O_,O_,O_,O_,O_,O_,O_,O_,O_,O_,O_,O_,O_,O_,O_,O_,O_,O_] rfl rfl (by kernel_rfl) (fun _ _ _ h => h) (Or.inl ⟨by rfl, ?_⟩) hHeld ?_ ?_; rotate_left; (· rintro w' ⟨s0, s1, s2, s3, s4, s5⟩; go_simp; with_reducible rfl); rotate_left; (· simp only [Act.put, sA_, sB_, sC_, i64_w, i32_w]; rfl); refine pure_ (i := 6) (N := some 23) (v := ?_) (a' := ?_) #[I_,I_,I_,I_,I_,I_,I_,O_,O_,O_,O_,O_,O_,O_,O_,O_,O_,O_,O_,O_,O_,O_,O_,O_,O_,O_,O_,O_,O_,O_,O_,O_,O_,O_] rfl rfl (by kernel_rfl) (fun _ _ _ h => h) (Or.inl ⟨by rfl, ?_⟩) ?_ ?_; rotate_left; (· intro w'; go_simp; with_reducible rfl); rotate_left; (· simp only [Act.put, sA_, sB_, sC_, i64_w, i32_w]; rfl); refine pure_ (i := 7) (N := some 24) (v := ?_) (a' := ?_) #[I_,I_,I_,I_,I_,I_,I_,I_,O_,O_,O_,O_,O_,O_,O_,O_,O_,O_,O_,O_,O_,O_,O_,O_,O_,O_,O_,O_,O_,O_,O_,O_,O_,O_] rfl rfl (by kernel_rfl) (fun _ _ _ h => h) (Or.inl ⟨by rfl, ?_⟩) ?_ ?_
    rotate_left; (· intro w'; go_simp; with_reducible rfl); rotate_left; (· simp only [Act.put, sA_, sB_, sC_, i64_w, i32_w]; rfl); refine pure_ (i := 8) (N := some 25) (v := undef) (a' := ?_) #[I_,I_,I_,I_,I_,I_,I_,I_,I_,O_,O_,O_,O_,O_,O_,O_,O_,O_,O_,O_,O_,O_,O_,O_,O_,O_,O_,O_,O_,O_,O_,O_,O_,O_] rfl rfl (by kernel_rfl) (fun _ _ _ h => h) (Or.inr ⟨by rfl, rfl⟩) ?_ ?_; rotate_left; (· simp only [Act.put, sA_, sB_, sC_, i64_w, i32_w]; rfl); refine pure_ (i := 9) (N := some 26) (v := ?_) (a' := ?_) #[I_,I_,I_,I_,I_,I_,I_,I_,I_,I_,O_,O_,O_,O_,O_,O_,O_,O_,O_,O_,O_,O_,O_,O_,O_,O_,O_,O_,O_,O_,O_,O_,O_,O_] rfl rfl (by kernel_rfl) (fun _ _ _ h => h) (Or.inl ⟨by rfl, ?_⟩) ?_ ?_; rotate_left; (· intro w'; go_simp; with_reducible rfl); rotate_left; (· simp only [Act.put, sA_, sB_, sC_, i64_w, i32_w]; rfl); refine pure_ (i := 10) (N := some 27) (v := ?_) (a' := ?_) #[I_,I_,I_,I_,I_,I_,I_,I_,I_,I_,I_,O_,O_,O_,O_,O_,O_,O_,O_,O_,O_,O_,O_,O_,O_,O_,O_,O_,O_,O_,O_,O_,O_,O_] rfl rfl (by kernel_rfl) (fun _ _ _ h => h) (Or.inl ⟨by rfl, ?_⟩) ?_ ?_; rotate_left; (· intro w'; go_simp; with_reducible rfl); rotate_left; (· simp only [Act.put, sA_, sB_, sC_, i64_w, i32_w]; rfl); refine pure_ (i := 11) (N := some 28) (v := undef) (a' := ?_) #[I_,I_,I_,I_,I_,I_,I_,I_,I_,I_,I_,I_,O_,O_,O_,O_,O_,O_,O_,O_,O_,O_,O_,O_,O_,O_,O_,O_,O_,O_,O_,O_,O_,O_] rfl rfl (by kernel_rfl) (fun _ _ _ h => h) (Or.inr ⟨by rfl, rfl⟩) ?_ ?_; rotate_left; (· simp only [Act.put, sA_, sB_, sC_, i64_w, i32_w]; rfl); refine pure_ (i := 12) (N := some 29) (v := undef) (a' := ?_) #[I_,I_,I_,I_,I_,I_,I_,I_,I_,I_,I_,I_,I_,O_,O_,O_,O_,O_,O_,O_,O_,O_,O_,O_,O_,O_,O_,O_,O_,O_,O_,O_,O_,O_] rfl rfl (by kernel_rfl) (fun _ _ _ h => h) (Or.inr ⟨by rfl, rfl⟩) ?_ ?_; rotate_left; (· simp only [Act.put, sA_, sB_, sC_, i64_w, i32_w]; rfl); refine pure_ (i := 13) (N := some 30) (v := undef) (a' := ?_) #[I_,I_,I_,I_,I_,I_,I_,I_,I_,I_,I_,I_,I_,I_,O_,O_,O_,O_,O_,O_,O_,O_,O_,O_,O_,O_,O_,O_,O_,O_,O_,O_,O_,O_] rfl rfl (by kernel_rfl) (fun _ _ _ h => h) (Or.inr ⟨by rfl, rfl⟩) ?_ ?_
    rotate_left; (· simp only [Act.put, sA_, sB_, sC_, i64_w, i32_w]; rfl); refine pure_ (i := 14) (N := some 31) (v := undef) (a' := ?_) #[I_,I_,I_,I_,I_,I_,I_,I_,I_,I_,I_,I_,I_,I_,I_,O_,O_,O_,O_,O_,O_,O_,O_,O_,O_,O_,O_,O_,O_,O_,O_,O_,O_,O_] rfl rfl (by kernel_rfl) (fun _ _ _ h => h) (Or.inr ⟨by rfl, rfl⟩) ?_ ?_; rotate_left; (· simp only [Act.put, sA_, sB_, sC_, i64_w, i32_w]; rfl); refine pure_ (i := 15) (N := some 32) (v := undef) (a' := ?_) #[I_,I_,I_,I_,I_,I_,I_,I_,I_,I_,I_,I_,I_,I_,I_,I_,O_,O_,O_,O_,O_,O_,O_,O_,O_,O_,O_,O_,O_,O_,O_,O_,O_,O_] rfl rfl (by kernel_rfl) (fun _ _ _ h => h) (Or.inr ⟨by rfl, rfl⟩) ?_ ?_; rotate_left; (· simp only [Act.put, sA_, sB_, sC_, i64_w, i32_w]; rfl); refine pure_ (i := 16) (N := some 33) (v := undef) (a' := ?_) #[I_,I_,I_,I_,I_,I_,I_,I_,I_,I_,I_,I_,I_,I_,I_,I_,I_,O_,O_,O_,O_,O_,O_,O_,O_,O_,O_,O_,O_,O_,O_,O_,O_,O_] rfl rfl (by kernel_rfl) (fun _ _ _ h => h) (Or.inr ⟨by rfl, rfl⟩) ?_ ?_; rotate_left; (· simp only [Act.put, sA_, sB_, sC_, i64_w, i32_w]; rfl); refine pure_ (i := 17) (N := some 34) (v := undef) (a' := ?_) #[I_,I_,I_,I_,I_,I_,I_,I_,I_,I_,I_,I_,I_,I_,I_,I_,I_,I_,O_,O_,O_,O_,O_,O_,O_,O_,O_,O_,O_,O_,O_,O_,O_,O_] rfl rfl (by kernel_rfl) (fun _ _ _ h => h) (Or.inr ⟨by rfl, rfl⟩) ?_ ?_; rotate_left; (· simp only [Act.put, sA_, sB_, sC_, i64_w, i32_w]; rfl); refine pure_ (i := 18) (N := some 35) (v := ?_) (a' := ?_) #[I_,I_,I_,I_,I_,I_,I_,I_,I_,I_,I_,I_,I_,I_,I_,I_,I_,I_,I_,O_,O_,O_,O_,O_,O_,O_,O_,O_,O_,O_,O_,O_,O_,O_] rfl rfl (by kernel_rfl) (fun _ _ _ h => h) (Or.inl ⟨by rfl, ?_⟩) ?_ ?_; rotate_left; (· intro w'; go_simp; with_reducible rfl); rotate_left; (· simp only [Act.put, sA_, sB_, sC_, i64_w, i32_w]; rfl); refine pure_ (i := 19) (N := some 36) (v := ?_) (a' := ?_) #[I_,I_,I_,I_,I_,I_,I_,I_,I_,I_,I_,I_,I_,I_,I_,I_,I_,I_,I_,I_,O_,O_,O_,O_,O_,O_,O_,O_,O_,O_,O_,O_,O_,O_] rfl rfl (by kernel_rfl) (fun _ _ _ h => h) (Or.inl ⟨by rfl, ?_⟩) ?_ ?_; rotate_left; (· intro w'; go_simp; with_reducible rfl); rotate_left; (· simp only [Act.put, sA_, sB_, sC_, i64_w, i32_w]; rfl)
    refine pure_ (i := 20) (N := some 37) (v := undef) (a' := ?_) #[I_,I_,I_,I_,I_,I_,I_,I_,I_,I_,I_,I_,I_,I_,I_,I_,I_,I_,I_,I_,I_,O_,O_,O_,O_,O_,O_,O_,O_,O_,O_,O_,O_,O_] rfl rfl (by kernel_rfl) (fun _ _ _ h => h) (Or.inr ⟨by rfl, rfl⟩) ?_ ?_; rotate_left; (· simp only [Act.put, sA_, sB_, sC_, i64_w, i32_w]; rfl); refine pure_ (i := 21) (N := some 38) (v := undef) (a' := ?_) #[I_,I_,I_,I_,I_,I_,I_,I_,I_,I_,I_,I_,I_,I_,I_,I_,I_,I_,I_,I_,I_,I_,O_,O_,O_,O_,O_,O_,O_,O_,O_,O_,O_,O_] rfl rfl (by kernel_rfl) (fun _ _ _ h => h) (Or.inr ⟨by rfl, rfl⟩) ?_ ?_; rotate_left; (· simp only [Act.put, sA_, sB_, sC_, i64_w, i32_w]; rfl); refine pure_ (i := 22) (N := some 39) (v := undef) (a' := ?_) #[I_,I_,I_,I_,I_,I_,I_,I_,I_,I_,I_,I_,I_,I_,I_,I_,I_,I_,I_,I_,I_,I_,I_,O_,O_,O_,O_,O_,O_,O_,O_,O_,O_,O_] rfl rfl (by kernel_rfl) (fun _ _ _ h => h) (Or.inr ⟨by rfl, rfl⟩) ?_ ?_; rotate_left; (· simp only [Act.put, sA_, sB_, sC_, i64_w, i32_w]; rfl); refine pure_ (i := 23) (N := some 40) (v := undef) (a' := ?_) #[I_,I_,I_,I_,I_,I_,I_,I_,I_,I_,I_,I_,I_,I_,I_,I_,I_,I_,I_,I_,I_,I_,I_,I_,O_,O_,O_,O_,O_,O_,O_,O_,O_,O_] rfl rfl (by kernel_rfl) (fun _ _ _ h => h) (Or.inr ⟨by rfl, rfl⟩) ?_ ?_; rotate_left; (· simp only [Act.put, sA_, sB_, sC_, i64_w, i32_w]; rfl); refine pure_ (i := 24) (N := some 41) (v := undef) (a' := ?_) #[I_,I_,I_,I_,I_,I_,I_,I_,I_,I_,I_,I_,I_,I_,I_,I_,I_,I_,I_,I_,I_,I_,I_,I_,I_,O_,O_,O_,O_,O_,O_,O_,O_,O_] rfl rfl (by kernel_rfl) (fun _ _ _ h => h) (Or.inr ⟨by rfl, rfl⟩) ?_ ?_; rotate_left; (· simp only [Act.put, sA_, sB_, sC_, i64_w, i32_w]; rfl); refine pure_ (i := 25) (N := some 42) (v := undef) (a' := ?_) #[I_,I_,I_,I_,I_,I_,I_,I_,I_,I_,I_,I_,I_,I_,I_,I_,I_,I_,I_,I_,I_,I_,I_,I_,I_,I_,O_,O_,O_,O_,O_,O_,O_,O_] rfl rfl (by kernel_rfl) (fun _ _ _ h => h) (Or.inr ⟨by rfl, rfl⟩) ?_ ?_; rotate_left; (· simp only [Act.put, sA_, sB_, sC_, i64_w, i32_w]; rfl); refine pure_ (i := 26) (N := some 43) (v := undef) (a' := ?_) #[I_,I_,I_,I_,I_,I_,I_,I_,I_,I_,I_,I_,I_,I_,I_,I_,I_,I_,I_,I_,I_,I_,I_,I_,I_,I_,I_,O_,O_,O_,O_,O_,O_,O_] rfl rfl (by kernel_rfl) (fun _ _ _ h => h) (Or.inr ⟨by rfl, rfl⟩) ?_ ?_
    rotate_left; (· simp only [Act.put, sA_, sB_, sC_, i64_w, i32_w]; rfl); refine pure_ (i := 27) (N := some 44) (v := undef) (a' := ?_) #[I_,I_,I_,I_,I_,I_,I_,I_,I_,I_,I_,I_,I_,I_,I_,I_,I_,I_,I_,I_,I_,I_,I_,I_,I_,I_,I_,I_,O_,O_,O_,O_,O_,O_] rfl rfl (by kernel_rfl) (fun _ _ _ h => h) (Or.inr ⟨by rfl, rfl⟩) ?_ ?_; rotate_left; (· simp only [Act.put, sA_, sB_, sC_, i64_w, i32_w]; rfl); refine pure_ (i := 28) (N := some 45) (v := undef) (a' := ?_) #[I_,I_,I_,I_,I_,I_,I_,I_,I_,I_,I_,I_,I_,I_,I_,I_,I_,I_,I_,I_,I_,I_,I_,I_,I_,I_,I_,I_,I_,O_,O_,O_,O_,O_] rfl rfl (by kernel_rfl) (fun _ _ _ h => h) (Or.inr ⟨by rfl, rfl⟩) ?_ ?_; rotate_left; (· simp only [Act.put, sA_, sB_, sC_, i64_w, i32_w]; rfl); refine pure_ (i := 29) (N := some 46) (v := undef) (a' := ?_) #[I_,I_,I_,I_,I_,I_,I_,I_,I_,I_,I_,I_,I_,I_,I_,I_,I_,I_,I_,I_,I_,I_,I_,I_,I_,I_,I_,I_,I_,I_,O_,O_,O_,O_] rfl rfl (by kernel_rfl) (fun _ _ _ h => h) (Or.inr ⟨by rfl, rfl⟩) ?_ ?_; rotate_left; (· simp only [Act.put, sA_, sB_, sC_, i64_w, i32_w]; rfl); refine pure_ (i := 30) (N := some 47) (v := undef) (a' := ?_) #[I_,I_,I_,I_,I_,I_,I_,I_,I_,I_,I_,I_,I_,I_,I_,I_,I_,I_,I_,I_,I_,I_,I_,I_,I_,I_,I_,I_,I_,I_,I_,O_,O_,O_] rfl rfl (by kernel_rfl) (fun _ _ _ h => h) (Or.inr ⟨by rfl, rfl⟩) ?_ ?_; rotate_left; (· simp only [Act.put, sA_, sB_, sC_, i64_w, i32_w]; rfl); refine pure_ (i := 31) (N := some 48) (v := undef) (a' := ?_) #[I_,I_,I_,I_,I_,I_,I_,I_,I_,I_,I_,I_,I_,I_,I_,I_,I_,I_,I_,I_,I_,I_,I_,I_,I_,I_,I_,I_,I_,I_,I_,I_,O_,O_] rfl rfl (by kernel_rfl) (fun _ _ _ h => h) (Or.inr ⟨by rfl, rfl⟩) ?_ ?_; rotate_left; (· simp only [Act.put, sA_, sB_, sC_, i64_w, i32_w]; rfl); refine pure_ (i := 32) (N := some 49) (v := ?_) (a' := ?_) #[I_,I_,I_,I_,I_,I_,I_,I_,I_,I_,I_,I_,I_,I_,I_,I_,I_,I_,I_,I_,I_,I_,I_,I_,I_,I_,I_,I_,I_,I_,I_,I_,I_,O_] rfl rfl (by kernel_rfl) (fun _ _ _ h => h) (Or.inl ⟨by rfl, ?_⟩) ?_ ?_; rotate_left; (· intro w'; go_simp; with_reducible rfl); rotate_left; (· simp only [Act.put, sA_, sB_, sC_, i64_w, i32_w]; rfl); refine pure_ (i := 33) (N := some 50) (v := ?_) (a' := ?_) #[I_,I_,I_,I_,I_,I_,I_,I_,I_,I_,I_,I_,I_,I_,I_,I_,I_,I_,I_,I_,I_,I_,I_,I_,I_,I_,I_,I_,I_,I_,I_,I_,I_,I_] rfl rfl (by kernel_rfl) (fun _ _ _ h => h) (Or.inl ⟨by rfl, ?_⟩) ?_ ?_
    rotate_left; (· intro w'; go_simp; with_reducible rfl); rotate_left; (· simp only [Act.put, sA_, sB_, sC_, i64_w, i32_w]; rfl); refine done_ (by kernel_rfl) ?_; go_wp2; go_ret; exact ⟨rfl, HV.out, HB.out⟩
set_option maxHeartbeats 4000000 in
set_option maxRecDepth 100000 in
theorem apply_unknown_neg (w W : World) (v : Value) (l : Wd) (f0 f1 f2 f3 f4 : Int) (A5 : Option Addr) (c5 : Nat) (f5 : List Int) (hB : Below w.heap.size w W) (hv : WRep W w.heap.size v l) (hr : Kd.C (Kd.int .i64) w A5 f5.length f5) (hc : f5.length ≤ c5)
    (hf : formedB f2 f3 f4 f5 = true) (hun : f0 < 0 ∨ (l.length : Int) ≤ f0) (h2 : f2 < 0) :
    Calls Try.prog 44 #[v, .agg #[.int .i64 f0, .int .i64 f1, .int .i64 f2, .int .i64 f3, .int .i64 f4, .slice A5 f5.length c5]] W fun e W' => e = .returned (.int .i64 5) ∧ WRep W' w.heap.size v l ∧ Below w.heap.size w W' := by
  have hu61 := Try.underlying61; have HB := Aside0.mk hB; have HR := Aside0.mk hr; have HC := Aside0.mk hc; have HV := Aside0.mk hv
  obtain ⟨A, c, rfl, hlen, htop⟩ : ∃ A c, v = .slice A l.length c ∧ l.length ≤ 9223372036854775807 ∧ True := by
    obtain ⟨_, _, h⟩ := hv; obtain ⟨A, c, e, hl, _⟩ := h.top; exact ⟨A, c, e, hl, trivial⟩
  clear htop hB hr hc hv; have HF := Aside0.mk ((formedB_f f0 f1 f2 f3 f4 f5).trans (congrArg some hf))
  have hkn : (decide (0 ≤ f0) && decide (f0 < (l.length : Int))) = false := by
    rcases hun with h | h
    · simp [Int.not_le.2 h]
    · simp [Int.not_lt.2 h]
  clear hf hun; have hd2 : decide (f2 < 0) = true := decide_eq_true h2
  go_enter Try.func44, Try.ntmps44
  go_upto_region 1 with (first | ((with_reducible refine gate_dst (N := 3) rfl ?_); (try (refine gate_guard (by rfl) ?_; dsimp only)); refine box_event ?hg (N := 3) ?hd (cs := #[.int .i64 f0, .int .i64 f1, .int .i64 f2, .int .i64 f3, .int .i64 f4, .slice A5 f5.length c5]) (t := 61) ?hr ?_; (case hd => rfl); (case hg => rfl); (case hr => first | (go_simp; done) | (go_simp; rfl)); intro gb hg w1 hbox hb1; have n0_ := Aside0.mk (below_step HB.out hb1); have n1_ := Aside0.mk (HV.out.below hb1); have n2_ := Aside0.mk (show gb < w1.heap.size from (Array.getElem?_eq_some_iff.1 hbox).1);  clear HB HV; have HB := n0_; have HV := n1_; have GL := n2_; clear n0_ n1_ n2_; have hz0 : w1.cell? ⟨gb, 0, none⟩ = some (.int .i64 f0) := (blk_cell hbox 0).trans rfl; have hz1 : w1.cell? ⟨gb, 1, none⟩ = some (.int .i64 f1) := (blk_cell hbox 1).trans rfl; have hz2 : w1.cell? ⟨gb, 2, none⟩ = some (.int .i64 f2) := (blk_cell hbox 2).trans rfl; have hz3 : w1.cell? ⟨gb, 3, none⟩ = some (.int .i64 f3) := (blk_cell hbox 3).trans rfl; have hz4 : w1.cell? ⟨gb, 4, none⟩ = some (.int .i64 f4) := (blk_cell hbox 4).trans rfl; have hz5 : w1.cell? ⟨gb, 5, none⟩ = some (.slice A5 f5.length c5) := (blk_cell hbox 5).trans rfl; clear hb1 hbox hg))
  go_cut [5] (fun v5 wc => v5 = .bool (decide (0 ≤ f0) && decide (f0 < (l.length : Int))) ∧ w1 = wc)
  case first =>
    by_cases h1 : 0 ≤ f0
    · have h1b := decide_eq_true h1
      go_wp2
      go_meet
      case rel => exact ⟨by rw [h1b]; rfl, rfl⟩
    · have h1b := decide_eq_false h1
      go_wp2
      go_meet
      case rel => exact ⟨by rw [h1b]; rfl, rfl⟩
  case rest =>
    obtain ⟨rfl, rfl⟩ := hcut; rw [hkn]
    go_upto_region 2 with (fail)
    replace HB : Aside0 (Below w.heap.size w w1.drew) := ⟨below_drew HB.out⟩; replace HV : Aside0 (WRep w1.drew w.heap.size (.slice (A) l.length c) l) := HV; replace GL : Aside0 (gb < w1.drew.heap.size) := GL; replace hz0 : w1.drew.cell? ⟨gb, 0, none⟩ = some (.int .i64 f0) := hz0; replace hz1 : w1.drew.cell? ⟨gb, 1, none⟩ = some (.int .i64 f1) := hz1; replace hz2 : w1.drew.cell? ⟨gb, 2, none⟩ = some (.int .i64 f2) := hz2; replace hz3 : w1.drew.cell? ⟨gb, 3, none⟩ = some (.int .i64 f3) := hz3; replace hz4 : w1.drew.cell? ⟨gb, 4, none⟩ = some (.int .i64 f4) := hz4; replace hz5 : w1.drew.cell? ⟨gb, 5, none⟩ = some (.slice A5 f5.length c5) := hz5; refine start_ (n := 34) (S := fun w' => w'.cell? ⟨gb, 0, none⟩ = some (.int .i64 f0) ∧ w'.cell? ⟨gb, 1, none⟩ = some (.int .i64 f1) ∧ w'.cell? ⟨gb, 2, none⟩ = some (.int .i64 f2) ∧ w'.cell? ⟨gb, 3, none⟩ = some (.int .i64 f3) ∧ w'.cell? ⟨gb, 4, none⟩ = some (.int .i64 f4) ∧ w'.cell? ⟨gb, 5, none⟩ = some (.slice A5 f5.length c5)) (ds := []) #[O_,O_,O_,O_,O_,O_,O_,O_,O_,O_,O_,O_,O_,O_,O_,O_,O_,O_,O_,O_,O_,O_,O_,O_,O_,O_,O_,O_,O_,O_,O_,O_,O_,O_] (by kernel_rfl) rfl rfl ⟨hz0, hz1, hz2, hz3, hz4, hz5⟩ (fun hHeld => ?_); generalize w1.drew = w2 at HB HV GL hHeld hz0 hz1 hz2 hz3 hz4 hz5 ⊢; refine take_ (i := 0) (N := some 17) (v := ?_) (a' := ?_) #[I_,O_,O_,O_,O_,O_,O_,O_,O_,O_,O_,O_,O_,O_,O_,O_,O_,O_,O_,O_,O_,O_,O_,O_,O_,O_,O_,O_,O_,O_,O_,O_,O_,O_] rfl rfl (by kernel_rfl) (fun _ _ _ h => h) (Or.inl ⟨by rfl, ?_⟩) hHeld ?_ ?_; rotate_left; (· rintro w' ⟨s0, s1, s2, s3, s4, s5⟩; go_simp; with_reducible rfl); rotate_left; (· simp only [Act.put, sA_, sB_, sC_, i64_w, i32_w]; rfl); refine one_ (i := 1) (N := some 18) #[I_,I_,O_,O_,O_,O_,O_,O_,O_,O_,O_,O_,O_,O_,O_,O_,O_,O_,O_,O_,O_,O_,O_,O_,O_,O_,O_,O_,O_,O_,O_,O_,O_,O_] rfl rfl (by kernel_rfl) (by decide) (fun K hK => ?_); refine goes_ Try.func66 (by kernel_rfl) rfl #[.agg #[.int .i64 f0, .int .i64 f1, .int .i64 f2, .int .i64 f3, .int .i64 f4, .slice A5 f5.length c5]] (by rfl) rfl rfl (by simp only [List.map_toArray, List.map_cons, List.map_nil]; rfl) ?_
    with_reducible refine (diff_Change_formed.calls f0 f1 f2 f3 f4 A5 c5 f5 true w2 (Kd.C_below HR.out HB.out) HC.out HF.out).mono ?_
    rintro e w3 ⟨rfl, hb⟩; refine ⟨_, rfl, ?_⟩; have n0_ := Aside0.mk (below_step HB.out hb); have n1_ := Aside0.mk (HV.out.below hb); have n2_ := Aside0.mk (Nat.lt_of_lt_of_le GL.out hb.size); clear HB HV GL; have HB := n0_; have HV := n1_; have GL := n2_; clear n0_ n1_ n2_; replace hz0 := cell_below hb hz0; replace hz1 := cell_below hb hz1; replace hz2 := cell_below hb hz2; replace hz3 := cell_below hb hz3; replace hz4 := cell_below hb hz4; replace hz5 := cell_below hb hz5; clear hb; refine hK.out _ _ ⟨hz0, hz1, hz2, hz3, hz4, hz5⟩ (fun hHeld => ?_); clear hK K; refine norm_ (a' := ?_) ?_ ?_; rotate_left
    · show Act.put _ (some 18) _ = _
      simp only [Act.put, sA_, sB_, sC_, i64_w, i32_w]; rfl
    refine pure_ (i := 2) (N := some 19) (v := ?_) (a' := ?_) #[I_,I_,I_,O_,O_,O_,O_,O_,O_,O_,O_,O_,O_,O_,O_,O_,O_,O_,O_,O_,O_,O_,O_,O_,O_,O_,O_,O_,O_,O_,O_,O_,O_,O_] rfl rfl (by kernel_rfl) (fun _ _ _ h => h) (Or.inl ⟨by rfl, ?_⟩) ?_ ?_; rotate_left; (· intro w'; go_simp; with_reducible rfl); rotate_left; (· simp only [Act.put, sA_, sB_, sC_, i64_w, i32_w]; rfl); refine pure_ (i := 3) (N := some 20) (v := ?_) (a' := ?_) #[I_,I_,I_,I_,O_,O_,O_,O_,O_,O_,O_,O_,O_,O_,O_,O_,O_,O_,O_,O_,O_,O_,O_,O_,O_,O_,O_,O_,O_,O_,O_,O_,O_,O_] rfl rfl (by kernel_rfl) (fun _ _ _ h => h) (Or.inl ⟨by rfl, ?_⟩) ?_ ?_; rotate_left; (· intro w'; go_simp; with_reducible rfl); rotate_left; (· simp only [Act.put, sA_, sB_, sC_, i64_w, i32_w]; rfl); refine pure_ (i := 4) (N := some 21) (v := ?_) (a' := ?_) #[I_,I_,I_,I_,I_,O_,O_,O_,O_,O_,O_,O_,O_,O_,O_,O_,O_,O_,O_,O_,O_,O_,O_,O_,O_,O_,O_,O_,O_,O_,O_,O_,O_,O_] rfl rfl (by kernel_rfl) (fun _ _ _ h => h) (Or.inl ⟨by rfl, ?_⟩) ?_ ?_; rotate_left; (· intro w'; go_simp; with_reducible rfl); rotate_left; (· simp only [Act.put, sA_, sB_, sC_, i64_w, i32_w]; rfl); refine take_ (i := 5) (N := some 22) (v := ?_) (a' := ?_) #[I_,I_,I_,I_,I_,I_,O_,O_,O_,O_,O_,O_,O_,O_,O_,O_,O_,O_,O_,O_,O_,O_,O_,O_,O_,O_,O_,O_,O_,O_,O_,O_,O_,O_] rfl rfl (by kernel_rfl) (fun _ _ _ h => h) (Or.inl ⟨by rfl, ?_⟩) hHeld ?_ ?_; rotate_left; (· rintro w' ⟨s0, s1, s2, s3, s4, s5⟩; go_simp; with_reducible rfl); rotate_left; (· simp only [Act.put, sA_, sB_, sC_, i64_w, i32_w]; rfl); refine pure_ (i := 6) (N := some 23) (v := ?_) (a' := ?_) #[I_,I_,I_,I_,I_,I_,I_,O_,O_,O_,O_,O_,O_,O_,O_,O_,O_,O_,O_,O_,O_,O_,O_,O_,O_,O_,O_,O_,O_,O_,O_,O_,O_,O_] rfl rfl (by kernel_rfl) (fun _ _ _ h => h) (Or.inl ⟨by rfl, ?_⟩) ?_ ?_; rotate_left; (· intro w'; go_simp; with_reducible rfl); rotate_left; (· simp only [Act.put, sA_, sB_, sC_, i64_w, i32_w]; rfl); refine pure_ (i := 7) (N := some 24) (v := ?_) (a' := ?_) #[I_,I_,I_,I_,I_,I_,I_,I_,O_,O_,O_,O_,O_,O_,O_,O_,O_,O_,O_,O_,O_,O_,O_,O_,O_,O_,O_,O_,O_,O_,O_,O_,O_,O_] rfl rfl (by kernel_rfl) (fun _ _ _ h => h) (Or.inl ⟨by rfl, ?_⟩) ?_ ?_
    rotate_left; (· intro w'; go_simp; with_reducible rfl); rotate_left; (· simp only [Act.put, sA_, sB_, sC_, i64_w, i32_w]; rfl); refine pure_ (i := 8) (N := some 25) (v := ?_) (a' := ?_) #[I_,I_,I_,I_,I_,I_,I_,I_,I_,O_,O_,O_,O_,O_,O_,O_,O_,O_,O_,O_,O_,O_,O_,O_,O_,O_,O_,O_,O_,O_,O_,O_,O_,O_] rfl rfl (by kernel_rfl) (fun _ _ _ h => h) (Or.inl ⟨by rfl, ?_⟩) ?_ ?_; rotate_left; (· intro w'; go_simp; with_reducible rfl); rotate_left; (· simp only [Act.put, sA_, sB_, sC_, i64_w, i32_w]; rfl); refine pure_ (i := 9) (N := some 26) (v := ?_) (a' := ?_) #[I_,I_,I_,I_,I_,I_,I_,I_,I_,I_,O_,O_,O_,O_,O_,O_,O_,O_,O_,O_,O_,O_,O_,O_,O_,O_,O_,O_,O_,O_,O_,O_,O_,O_] rfl rfl (by kernel_rfl) (fun _ _ _ h => h) (Or.inl ⟨by rfl, ?_⟩) ?_ ?_; rotate_left; (· intro w'; go_simp; with_reducible rfl); rotate_left; (· simp only [Act.put, sA_, sB_, sC_, i64_w, i32_w]; rfl); refine pure_ (i := 10) (N := some 27) (v := ?_) (a' := ?_) #[I_,I_,I_,I_,I_,I_,I_,I_,I_,I_,I_,O_,O_,O_,O_,O_,O_,O_,O_,O_,O_,O_,O_,O_,O_,O_,O_,O_,O_,O_,O_,O_,O_,O_] rfl rfl (by kernel_rfl) (fun _ _ _ h => h) (Or.inl ⟨by rfl, ?_⟩) ?_ ?_; rotate_left; (· intro w'; go_simp; with_reducible rfl); rotate_left; (· simp only [Act.put, sA_, sB_, sC_, i64_w, i32_w]; rfl); refine pure_ (i := 11) (N := some 28) (v := undef) (a' := ?_) #[I_,I_,I_,I_,I_,I_,I_,I_,I_,I_,I_,I_,O_,O_,O_,O_,O_,O_,O_,O_,O_,O_,O_,O_,O_,O_,O_,O_,O_,O_,O_,O_,O_,O_] rfl rfl (by kernel_rfl) (fun _ _ _ h => h) (Or.inr ⟨by rfl, rfl⟩) ?_ ?_; rotate_left; (· simp only [Act.put, sA_, sB_, sC_, i64_w, i32_w]; rfl); refine pure_ (i := 12) (N := some 29) (v := undef) (a' := ?_) #[I_,I_,I_,I_,I_,I_,I_,I_,I_,I_,I_,I_,I_,O_,O_,O_,O_,O_,O_,O_,O_,O_,O_,O_,O_,O_,O_,O_,O_,O_,O_,O_,O_,O_] rfl rfl (by kernel_rfl) (fun _ _ _ h => h) (Or.inr ⟨by rfl, rfl⟩) ?_ ?_; rotate_left; (· simp only [Act.put, sA_, sB_, sC_, i64_w, i32_w]; rfl); refine pure_ (i := 13) (N := some 30) (v := undef) (a' := ?_) #[I_,I_,I_,I_,I_,I_,I_,I_,I_,I_,I_,I_,I_,I_,O_,O_,O_,O_,O_,O_,O_,O_,O_,O_,O_,O_,O_,O_,O_,O_,O_,O_,O_,O_] rfl rfl (by kernel_rfl) (fun _ _ _ h => h) (Or.inr ⟨by rfl, rfl⟩) ?_ ?_
    rotate_left; (· simp only [Act.put, sA_, sB_, sC_, i64_w, i32_w]; rfl); refine pure_ (i := 14) (N := some 31) (v := undef) (a' := ?_) #[I_,I_,I_,I_,I_,I_,I_,I_,I_,I_,I_,I_,I_,I_,I_,O_,O_,O_,O_,O_,O_,O_,O_,O_,O_,O_,O_,O_,O_,O_,O_,O_,O_,O_] rfl rfl (by kernel_rfl) (fun _ _ _ h => h) (Or.inr ⟨by rfl, rfl⟩) ?_ ?_; rotate_left; (· simp only [Act.put, sA_, sB_, sC_, i64_w, i32_w]; rfl); refine pure_ (i := 15) (N := some 32) (v := undef) (a' := ?_) #[I_,I_,I_,I_,I_,I_,I_,I_,I_,I_,I_,I_,I_,I_,I_,I_,O_,O_,O_,O_,O_,O_,O_,O_,O_,O_,O_,O_,O_,O_,O_,O_,O_,O_] rfl rfl (by kernel_rfl) (fun _ _ _ h => h) (Or.inr ⟨by rfl, rfl⟩) ?_ ?_; rotate_left; (· simp only [Act.put, sA_, sB_, sC_, i64_w, i32_w]; rfl); refine pure_ (i := 16) (N := some 33) (v := undef) (a' := ?_) #[I_,I_,I_,I_,I_,I_,I_,I_,I_,I_,I_,I_,I_,I_,I_,I_,I_,O_,O_,O_,O_,O_,O_,O_,O_,O_,O_,O_,O_,O_,O_,O_,O_,O_] rfl rfl (by kernel_rfl) (fun _ _ _ h => h) (Or.inr ⟨by rfl, rfl⟩) ?_ ?_; rotate_left; (· simp only [Act.put, sA_, sB_, sC_, i64_w, i32_w]; rfl); refine pure_ (i := 17) (N := some 34) (v := undef) (a' := ?_) #[I_,I_,I_,I_,I_,I_,I_,I_,I_,I_,I_,I_,I_,I_,I_,I_,I_,I_,O_,O_,O_,O_,O_,O_,O_,O_,O_,O_,O_,O_,O_,O_,O_,O_] rfl rfl (by kernel_rfl) (fun _ _ _ h => h) (Or.inr ⟨by rfl, rfl⟩) ?_ ?_; rotate_left; (· simp only [Act.put, sA_, sB_, sC_, i64_w, i32_w]; rfl); refine pure_ (i := 18) (N := some 35) (v := ?_) (a' := ?_) #[I_,I_,I_,I_,I_,I_,I_,I_,I_,I_,I_,I_,I_,I_,I_,I_,I_,I_,I_,O_,O_,O_,O_,O_,O_,O_,O_,O_,O_,O_,O_,O_,O_,O_] rfl rfl (by kernel_rfl) (fun _ _ _ h => h) (Or.inl ⟨by rfl, ?_⟩) ?_ ?_; rotate_left; (· intro w'; go_simp; with_reducible rfl); rotate_left; (· simp only [Act.put, sA_, sB_, sC_, i64_w, i32_w]; rfl); refine pure_ (i := 19) (N := some 36) (v := ?_) (a' := ?_) #[I_,I_,I_,I_,I_,I_,I_,I_,I_,I_,I_,I_,I_,I_,I_,I_,I_,I_,I_,I_,O_,O_,O_,O_,O_,O_,O_,O_,O_,O_,O_,O_,O_,O_] rfl rfl (by kernel_rfl) (fun _ _ _ h => h) (Or.inl ⟨by rfl, ?_⟩) ?_ ?_; rotate_left; (· intro w'; go_simp; with_reducible rfl); rotate_left; (· simp only [Act.put, sA_, sB_, sC_, i64_w, i32_w]; rfl)
    refine pure_ (i := 20) (N := some 37) (v := undef) (a' := ?_) #[I_,I_,I_,I_,I_,I_,I_,I_,I_,I_,I_,I_,I_,I_,I_,I_,I_,I_,I_,I_,I_,O_,O_,O_,O_,O_,O_,O_,O_,O_,O_,O_,O_,O_] rfl rfl (by kernel_rfl) (fun _ _ _ h => h) (Or.inr ⟨by rfl, rfl⟩) ?_ ?_; rotate_left; (· simp only [Act.put, sA_, sB_, sC_, i64_w, i32_w]; rfl); refine pure_ (i := 21) (N := some 38) (v := undef) (a' := ?_) #[I_,I_,I_,I_,I_,I_,I_,I_,I_,I_,I_,I_,I_,I_,I_,I_,I_,I_,I_,I_,I_,I_,O_,O_,O_,O_,O_,O_,O_,O_,O_,O_,O_,O_] rfl rfl (by kernel_rfl) (fun _ _ _ h => h) (Or.inr ⟨by rfl, rfl⟩) ?_ ?_; rotate_left; (· simp only [Act.put, sA_, sB_, sC_, i64_w, i32_w]; rfl); refine pure_ (i := 22) (N := some 39) (v := undef) (a' := ?_) #[I_,I_,I_,I_,I_,I_,I_,I_,I_,I_,I_,I_,I_,I_,I_,I_,I_,I_,I_,I_,I_,I_,I_,O_,O_,O_,O_,O_,O_,O_,O_,O_,O_,O_] rfl rfl (by kernel_rfl) (fun _ _ _ h => h) (Or.inr ⟨by rfl, rfl⟩) ?_ ?_; rotate_left; (· simp only [Act.put, sA_, sB_, sC_, i64_w, i32_w]; rfl); refine pure_ (i := 23) (N := some 40) (v := undef) (a' := ?_) #[I_,I_,I_,I_,I_,I_,I_,I_,I_,I_,I_,I_,I_,I_,I_,I_,I_,I_,I_,I_,I_,I_,I_,I_,O_,O_,O_,O_,O_,O_,O_,O_,O_,O_] rfl rfl (by kernel_rfl) (fun _ _ _ h => h) (Or.inr ⟨by rfl, rfl⟩) ?_ ?_; rotate_left; (· simp only [Act.put, sA_, sB_, sC_, i64_w, i32_w]; rfl); refine pure_ (i := 24) (N := some 41) (v := undef) (a' := ?_) #[I_,I_,I_,I_,I_,I_,I_,I_,I_,I_,I_,I_,I_,I_,I_,I_,I_,I_,I_,I_,I_,I_,I_,I_,I_,O_,O_,O_,O_,O_,O_,O_,O_,O_] rfl rfl (by kernel_rfl) (fun _ _ _ h => h) (Or.inr ⟨by rfl, rfl⟩) ?_ ?_; rotate_left; (· simp only [Act.put, sA_, sB_, sC_, i64_w, i32_w]; rfl); refine pure_ (i := 25) (N := some 42) (v := undef) (a' := ?_) #[I_,I_,I_,I_,I_,I_,I_,I_,I_,I_,I_,I_,I_,I_,I_,I_,I_,I_,I_,I_,I_,I_,I_,I_,I_,I_,O_,O_,O_,O_,O_,O_,O_,O_] rfl rfl (by kernel_rfl) (fun _ _ _ h => h) (Or.inr ⟨by rfl, rfl⟩) ?_ ?_; rotate_left; (· simp only [Act.put, sA_, sB_, sC_, i64_w, i32_w]; rfl); refine pure_ (i := 26) (N := some 43) (v := undef) (a' := ?_) #[I_,I_,I_,I_,I_,I_,I_,I_,I_,I_,I_,I_,I_,I_,I_,I_,I_,I_,I_,I_,I_,I_,I_,I_,I_,I_,I_,O_,O_,O_,O_,O_,O_,O_] rfl rfl (by kernel_rfl) (fun _ _ _ h => h) (Or.inr ⟨by rfl, rfl⟩) ?_ ?_
    rotate_left; (· simp only [Act.put, sA_, sB_, sC_, i64_w, i32_w]; rfl); refine pure_ (i := 27) (N := some 44) (v := undef) (a' := ?_) #[I_,I_,I_,I_,I_,I_,I_,I_,I_,I_,I_,I_,I_,I_,I_,I_,I_,I_,I_,I_,I_,I_,I_,I_,I_,I_,I_,I_,O_,O_,O_,O_,O_,O_] rfl rfl (by kernel_rfl) (fun _ _ _ h => h) (Or.inr ⟨by rfl, rfl⟩) ?_ ?_; rotate_left; (· simp only [Act.put, sA_, sB_, sC_, i64_w, i32_w]; rfl); refine pure_ (i := 28) (N := some 45) (v := undef) (a' := ?_) #[I_,I_,I_,I_,I_,I_,I_,I_,I_,I_,I_,I_,I_,I_,I_,I_,I_,I_,I_,I_,I_,I_,I_,I_,I_,I_,I_,I_,I_,O_,O_,O_,O_,O_] rfl rfl (by kernel_rfl) (fun _ _ _ h => h) (Or.inr ⟨by rfl, rfl⟩) ?_ ?_; rotate_left; (· simp only [Act.put, sA_, sB_, sC_, i64_w, i32_w]; rfl); refine pure_ (i := 29) (N := some 46) (v := undef) (a' := ?_) #[I_,I_,I_,I_,I_,I_,I_,I_,I_,I_,I_,I_,I_,I_,I_,I_,I_,I_,I_,I_,I_,I_,I_,I_,I_,I_,I_,I_,I_,I_,O_,O_,O_,O_] rfl rfl (by kernel_rfl) (fun _ _ _ h => h) (Or.inr ⟨by rfl, rfl⟩) ?_ ?_; rotate_left; (· simp only [Act.put, sA_, sB_, sC_, i64_w, i32_w]; rfl); refine pure_ (i := 30) (N := some 47) (v := undef) (a' := ?_) #[I_,I_,I_,I_,I_,I_,I_,I_,I_,I_,I_,I_,I_,I_,I_,I_,I_,I_,I_,I_,I_,I_,I_,I_,I_,I_,I_,I_,I_,I_,I_,O_,O_,O_] rfl rfl (by kernel_rfl) (fun _ _ _ h => h) (Or.inr ⟨by rfl, rfl⟩) ?_ ?_; rotate_left; (· simp only [Act.put, sA_, sB_, sC_, i64_w, i32_w]; rfl); refine pure_ (i := 31) (N := some 48) (v := undef) (a' := ?_) #[I_,I_,I_,I_,I_,I_,I_,I_,I_,I_,I_,I_,I_,I_,I_,I_,I_,I_,I_,I_,I_,I_,I_,I_,I_,I_,I_,I_,I_,I_,I_,I_,O_,O_] rfl rfl (by kernel_rfl) (fun _ _ _ h => h) (Or.inr ⟨by rfl, rfl⟩) ?_ ?_; rotate_left; (· simp only [Act.put, sA_, sB_, sC_, i64_w, i32_w]; rfl); refine pure_ (i := 32) (N := some 49) (v := ?_) (a' := ?_) #[I_,I_,I_,I_,I_,I_,I_,I_,I_,I_,I_,I_,I_,I_,I_,I_,I_,I_,I_,I_,I_,I_,I_,I_,I_,I_,I_,I_,I_,I_,I_,I_,I_,O_] rfl rfl (by kernel_rfl) (fun _ _ _ h => h) (Or.inl ⟨by rfl, ?_⟩) ?_ ?_; rotate_left; (· intro w'; go_simp; with_reducible rfl); rotate_left; (· simp only [Act.put, sA_, sB_, sC_, i64_w, i32_w]; rfl); refine pure_ (i := 33) (N := some 50) (v := ?_) (a' := ?_) #[I_,I_,I_,I_,I_,I_,I_,I_,I_,I_,I_,I_,I_,I_,I_,I_,I_,I_,I_,I_,I_,I_,I_,I_,I_,I_,I_,I_,I_,I_,I_,I_,I_,I_] rfl rfl (by kernel_rfl) (fun _ _ _ h => h) (Or.inl ⟨by rfl, ?_⟩) ?_ ?_
    rotate_left; (· intro w'; go_simp; with_reducible rfl); rotate_left; (· simp only [Act.put, sA_, sB_, sC_, i64_w, i32_w]; rfl); refine done_ (by kernel_rfl) ?_; go_wp2; go_ret; exact ⟨rfl, HV.out, HB.out⟩
end Go.Proofs.Ytcgpemefmakjiaa.PX
namespace Go.Proofs.Ytcgpemefmakjiaa.PX
open Go.RowKit Go.Proofs.YtcgpemefmakjiaaW.PrintWords Go.Proofs.YtcgpemefmakjiaaW.PrintLast Go.Proofs.YtcgpemefmakjiaaW.PrintMore
set_option linter.unusedVariables false
set_option linter.unusedSimpArgs false
set_option maxHeartbeats 4000000 in
set_option maxRecDepth 100000 in
theorem apply_set5a (w W : World) (v : Value) (l : Wd) (f0 f1 f2 f3 f4 : Int) (A5 : Option Addr) (c5 : Nat) (f5 : List Int) (hB : Below w.heap.size w W) (hv : WRep W w.heap.size v l) (hr : Kd.C (Kd.int .i64) w A5 f5.length f5) (hc : f5.length ≤ c5)
    (hform : formedB f2 f3 f4 f5 = true) (hf0 : 0 ≤ f0) (hf1 : f0 < l.length) (rows : List (List Int)) (hk : l[f0.toNat]? = some rows) (hn : rows.length < 5864062014805) (hW : ∀ (i : Nat) r, rows[i]? = some r → r.length = (rd_L1 rows 0).length) (h2 : 0 ≤ f2) (hbad : f1 < 0) :
    Calls Try.prog 44 #[v, .agg #[.int .i64 f0, .int .i64 f1, .int .i64 f2, .int .i64 f3, .int .i64 f4, .slice A5 f5.length c5]] W fun e W' => e = .returned (.int .i64 5) ∧ WRep W' w.heap.size v l ∧ Below w.heap.size w W' := by
  have hu61 := Try.underlying61; have HB := Aside0.mk hB; have HR := Aside0.mk hr; have HC := Aside0.mk hc; have HV := Aside0.mk hv; obtain ⟨ad, c, rfl, hg⟩ := hv.known hk; have HG := Aside0.mk hg
  have hlen : l.length ≤ 9223372036854775807 := by
    obtain ⟨_, _, h⟩ := hv; obtain ⟨A, c, e, hl, _⟩ := h.top; exact hl
  obtain ⟨A2, c2, hy, hc2, hrows, hfy⟩ := hv.seen hk; have HC2 := Aside0.mk hc2
  have HOW := Aside0.mk (show ∀ b, (Value.slice A2 rows.length c2).ownBlock = some b → b < W.heap.size from by
    obtain ⟨cs, h, _⟩ := hv.grow hk hy
    exact own_lt h)
  have HW := Aside0.mk hW; have HK := Aside0.mk hk; have hfr := Aside0.mk hfy; have hb0 := decide_eq_true hf0; have hb1 := decide_eq_true hf1; have HF := Aside0.mk ((formedB_f f0 f1 f2 f3 f4 f5).trans (congrArg some hform)); obtain ⟨kn, hkn⟩ : ∃ k, k = f0.toNat := ⟨_, rfl⟩; clear hB hr hc hv hg hfy hc2 hW hk hform; have hd2 : decide (f2 < 0) = false := decide_eq_false (by omega); have he1 : (f2 == -1) = false := beq_eq_false_iff_ne.2 (by omega); have he2 : (f2 == -2) = false := beq_eq_false_iff_ne.2 (by omega); have hdb : decide (f1 < 0) = true := decide_eq_true hbad
  go_enter Try.func44, Try.ntmps44
  go_upto_region 1 with (first | ((with_reducible refine gate_dst (N := 3) rfl ?_); (try (refine gate_guard (by rfl) ?_; dsimp only)); refine box_event ?hg (N := 3) ?hd (cs := #[.int .i64 f0, .int .i64 f1, .int .i64 f2, .int .i64 f3, .int .i64 f4, .slice A5 f5.length c5]) (t := 61) ?hr ?_; (case hd => rfl); (case hg => rfl); (case hr => first | (go_simp; done) | (go_simp; rfl)); intro gb hg w1 hbox hb1; have n0_ := Aside0.mk (below_step HB.out hb1); have n1_ := Aside0.mk (HV.out.below hb1); have n2_ := Aside0.mk (show gb < w1.heap.size from (Array.getElem?_eq_some_iff.1 hbox).1);  have n3_ := cell_below hb1 hy; clear hy; have hy := n3_; clear n3_; have HNG := Aside0.mk (fun b (hb : (Value.slice A2 rows.length c2).ownBlock = some b) => (by have := HOW.out b hb; omega : b ≠ gb)); clear HB HV; have HB := n0_; have HV := n1_; have GL := n2_; clear n0_ n1_ n2_; have hz0 : w1.cell? ⟨gb, 0, none⟩ = some (.int .i64 f0) := (blk_cell hbox 0).trans rfl; have hz1 : w1.cell? ⟨gb, 1, none⟩ = some (.int .i64 f1) := (blk_cell hbox 1).trans rfl; have hz2 : w1.cell? ⟨gb, 2, none⟩ = some (.int .i64 f2) := (blk_cell hbox 2).trans rfl; have hz3 : w1.cell? ⟨gb, 3, none⟩ = some (.int .i64 f3) := (blk_cell hbox 3).trans rfl; have hz4 : w1.cell? ⟨gb, 4, none⟩ = some (.int .i64 f4) := (blk_cell hbox 4).trans rfl; have hz5 : w1.cell? ⟨gb, 5, none⟩ = some (.slice A5 f5.length c5) := (blk_cell hbox 5).trans rfl; clear hb1 hbox hg))
  go_cut [5] (fun v5 wc => v5 = .bool true ∧ w1 = wc)
  case first =>
    go_wp2
    go_meet
    case rel => exact ⟨rfl, rfl⟩
  case rest =>
    obtain ⟨rfl, rfl⟩ := hcut
    go_upto_region 2 with (fail)
    replace HB : Aside0 (Below w.heap.size w w1.drew) := ⟨below_drew HB.out⟩; replace HV : Aside0 (WRep w1.drew w.heap.size (.slice (some ad) l.length c) l) := HV; replace GL : Aside0 (gb < w1.drew.heap.size) := GL; replace hz0 : w1.drew.cell? ⟨gb, 0, none⟩ = some (.int .i64 f0) := hz0; replace hz1 : w1.drew.cell? ⟨gb, 1, none⟩ = some (.int .i64 f1) := hz1; replace hz2 : w1.drew.cell? ⟨gb, 2, none⟩ = some (.int .i64 f2) := hz2; replace hz3 : w1.drew.cell? ⟨gb, 3, none⟩ = some (.int .i64 f3) := hz3; replace hz4 : w1.drew.cell? ⟨gb, 4, none⟩ = some (.int .i64 f4) := hz4; replace hz5 : w1.drew.cell? ⟨gb, 5, none⟩ = some (.slice A5 f5.length c5) := hz5; replace hy : w1.drew.cell? (ad.add f0.toNat) = some (.slice A2 rows.length c2) := hy; refine start_ (n := 34) (S := fun w' => w'.cell? ⟨gb, 0, none⟩ = some (.int .i64 f0) ∧ w'.cell? ⟨gb, 1, none⟩ = some (.int .i64 f1) ∧ w'.cell? ⟨gb, 2, none⟩ = some (.int .i64 f2) ∧ w'.cell? ⟨gb, 3, none⟩ = some (.int .i64 f3) ∧ w'.cell? ⟨gb, 4, none⟩ = some (.int .i64 f4) ∧ w'.cell? ⟨gb, 5, none⟩ = some (.slice A5 f5.length c5) ∧ w'.cell? (ad.add f0.toNat) = some (.slice A2 rows.length c2)) (ds := []) #[O_,O_,O_,O_,O_,O_,O_,O_,O_,O_,O_,O_,O_,O_,O_,O_,O_,O_,O_,O_,O_,O_,O_,O_,O_,O_,O_,O_,O_,O_,O_,O_,O_,O_] (by kernel_rfl) rfl rfl ⟨hz0, hz1, hz2, hz3, hz4, hz5, hy⟩ (fun hHeld => ?_); generalize w1.drew = w2 at HB HV GL hHeld hz0 hz1 hz2 hz3 hz4 hz5 hy ⊢; refine take_ (i := 0) (N := some 17) (v := ?_) (a' := ?_) #[I_,O_,O_,O_,O_,O_,O_,O_,O_,O_,O_,O_,O_,O_,O_,O_,O_,O_,O_,O_,O_,O_,O_,O_,O_,O_,O_,O_,O_,O_,O_,O_,O_,O_] rfl rfl (by kernel_rfl) (fun _ _ _ h => h) (Or.inl ⟨by rfl, ?_⟩) hHeld ?_ ?_; rotate_left; (· rintro w' ⟨s0, s1, s2, s3, s4, s5, s6⟩; go_simp; with_reducible rfl); rotate_left; (· simp only [Act.put, sA_, sB_, sC_, i64_w, i32_w]; rfl); refine one_ (i := 1) (N := some 18) #[I_,I_,O_,O_,O_,O_,O_,O_,O_,O_,O_,O_,O_,O_,O_,O_,O_,O_,O_,O_,O_,O_,O_,O_,O_,O_,O_,O_,O_,O_,O_,O_,O_,O_] rfl rfl (by kernel_rfl) (by decide) (fun K hK => ?_); refine goes_ Try.func66 (by kernel_rfl) rfl #[.agg #[.int .i64 f0, .int .i64 f1, .int .i64 f2, .int .i64 f3, .int .i64 f4, .slice A5 f5.length c5]] (by rfl) rfl rfl (by simp only [List.map_toArray, List.map_cons, List.map_nil]; rfl) ?_
    with_reducible refine (diff_Change_formed.calls f0 f1 f2 f3 f4 A5 c5 f5 true w2 (Kd.C_below HR.out HB.out) HC.out HF.out).mono ?_
    rintro e w3 ⟨rfl, hb⟩; refine ⟨_, rfl, ?_⟩; have n0_ := Aside0.mk (below_step HB.out hb); have n1_ := Aside0.mk (HV.out.below hb); have n2_ := Aside0.mk (Nat.lt_of_lt_of_le GL.out hb.size); clear HB HV GL; have HB := n0_; have HV := n1_; have GL := n2_; clear n0_ n1_ n2_; replace hz0 := cell_below hb hz0; replace hz1 := cell_below hb hz1; replace hz2 := cell_below hb hz2; replace hz3 := cell_below hb hz3; replace hz4 := cell_below hb hz4; replace hz5 := cell_below hb hz5; replace hy := cell_below hb hy; clear hb; refine hK.out _ _ ⟨hz0, hz1, hz2, hz3, hz4, hz5, hy⟩ (fun hHeld => ?_); clear hK K; refine norm_ (a' := ?_) ?_ ?_; rotate_left
    · show Act.put _ (some 18) _ = _
      simp only [Act.put, sA_, sB_, sC_, i64_w, i32_w]; rfl
    refine pure_ (i := 2) (N := some 19) (v := ?_) (a' := ?_) #[I_,I_,I_,O_,O_,O_,O_,O_,O_,O_,O_,O_,O_,O_,O_,O_,O_,O_,O_,O_,O_,O_,O_,O_,O_,O_,O_,O_,O_,O_,O_,O_,O_,O_] rfl rfl (by kernel_rfl) (fun _ _ _ h => h) (Or.inl ⟨by rfl, ?_⟩) ?_ ?_; rotate_left; (· intro w'; go_simp; with_reducible rfl); rotate_left; (· simp only [Act.put, sA_, sB_, sC_, i64_w, i32_w]; rfl); refine pure_ (i := 3) (N := some 20) (v := ?_) (a' := ?_) #[I_,I_,I_,I_,O_,O_,O_,O_,O_,O_,O_,O_,O_,O_,O_,O_,O_,O_,O_,O_,O_,O_,O_,O_,O_,O_,O_,O_,O_,O_,O_,O_,O_,O_] rfl rfl (by kernel_rfl) (fun _ _ _ h => h) (Or.inl ⟨by rfl, ?_⟩) ?_ ?_; rotate_left; (· intro w'; go_simp; with_reducible rfl); rotate_left; (· simp only [Act.put, sA_, sB_, sC_, i64_w, i32_w]; rfl); refine pure_ (i := 4) (N := some 21) (v := ?_) (a' := ?_) #[I_,I_,I_,I_,I_,O_,O_,O_,O_,O_,O_,O_,O_,O_,O_,O_,O_,O_,O_,O_,O_,O_,O_,O_,O_,O_,O_,O_,O_,O_,O_,O_,O_,O_] rfl rfl (by kernel_rfl) (fun _ _ _ h => h) (Or.inl ⟨by rfl, ?_⟩) ?_ ?_; rotate_left; (· intro w'; go_simp; with_reducible rfl); rotate_left; (· simp only [Act.put, sA_, sB_, sC_, i64_w, i32_w]; rfl); refine take_ (i := 5) (N := some 22) (v := ?_) (a' := ?_) #[I_,I_,I_,I_,I_,I_,O_,O_,O_,O_,O_,O_,O_,O_,O_,O_,O_,O_,O_,O_,O_,O_,O_,O_,O_,O_,O_,O_,O_,O_,O_,O_,O_,O_] rfl rfl (by kernel_rfl) (fun _ _ _ h => h) (Or.inl ⟨by rfl, ?_⟩) hHeld ?_ ?_; rotate_left; (· rintro w' ⟨s0, s1, s2, s3, s4, s5, s6⟩; go_simp; with_reducible rfl); rotate_left; (· simp only [Act.put, sA_, sB_, sC_, i64_w, i32_w]; rfl); refine pure_ (i := 6) (N := some 23) (v := ?_) (a' := ?_) #[I_,I_,I_,I_,I_,I_,I_,O_,O_,O_,O_,O_,O_,O_,O_,O_,O_,O_,O_,O_,O_,O_,O_,O_,O_,O_,O_,O_,O_,O_,O_,O_,O_,O_] rfl rfl (by kernel_rfl) (fun _ _ _ h => h) (Or.inl ⟨by rfl, ?_⟩) ?_ ?_; rotate_left; (· intro w'; go_simp; with_reducible rfl); rotate_left; (· simp only [Act.put, sA_, sB_, sC_, i64_w, i32_w]; rfl); refine pure_ (i := 7) (N := some 24) (v := ?_) (a' := ?_) #[I_,I_,I_,I_,I_,I_,I_,I_,O_,O_,O_,O_,O_,O_,O_,O_,O_,O_,O_,O_,O_,O_,O_,O_,O_,O_,O_,O_,O_,O_,O_,O_,O_,O_] rfl rfl (by kernel_rfl) (fun _ _ _ h => h) (Or.inl ⟨by rfl, ?_⟩) ?_ ?_
    rotate_left; (· intro w'; go_simp; with_reducible rfl); rotate_left; (· simp only [Act.put, sA_, sB_, sC_, i64_w, i32_w]; rfl); refine pure_ (i := 8) (N := some 25) (v := undef) (a' := ?_) #[I_,I_,I_,I_,I_,I_,I_,I_,I_,O_,O_,O_,O_,O_,O_,O_,O_,O_,O_,O_,O_,O_,O_,O_,O_,O_,O_,O_,O_,O_,O_,O_,O_,O_] rfl rfl (by kernel_rfl) (fun _ _ _ h => h) (Or.inr ⟨by rfl, rfl⟩) ?_ ?_; rotate_left; (· simp only [Act.put, sA_, sB_, sC_, i64_w, i32_w]; rfl); refine pure_ (i := 9) (N := some 26) (v := ?_) (a' := ?_) #[I_,I_,I_,I_,I_,I_,I_,I_,I_,I_,O_,O_,O_,O_,O_,O_,O_,O_,O_,O_,O_,O_,O_,O_,O_,O_,O_,O_,O_,O_,O_,O_,O_,O_] rfl rfl (by kernel_rfl) (fun _ _ _ h => h) (Or.inl ⟨by rfl, ?_⟩) ?_ ?_; rotate_left; (· intro w'; go_simp; with_reducible rfl); rotate_left; (· simp only [Act.put, sA_, sB_, sC_, i64_w, i32_w]; rfl); refine pure_ (i := 10) (N := some 27) (v := ?_) (a' := ?_) #[I_,I_,I_,I_,I_,I_,I_,I_,I_,I_,I_,O_,O_,O_,O_,O_,O_,O_,O_,O_,O_,O_,O_,O_,O_,O_,O_,O_,O_,O_,O_,O_,O_,O_] rfl rfl (by kernel_rfl) (fun _ _ _ h => h) (Or.inl ⟨by rfl, ?_⟩) ?_ ?_; rotate_left; (· intro w'; go_simp; with_reducible rfl); rotate_left; (· simp only [Act.put, sA_, sB_, sC_, i64_w, i32_w]; rfl); refine pure_ (i := 11) (N := some 28) (v := undef) (a' := ?_) #[I_,I_,I_,I_,I_,I_,I_,I_,I_,I_,I_,I_,O_,O_,O_,O_,O_,O_,O_,O_,O_,O_,O_,O_,O_,O_,O_,O_,O_,O_,O_,O_,O_,O_] rfl rfl (by kernel_rfl) (fun _ _ _ h => h) (Or.inr ⟨by rfl, rfl⟩) ?_ ?_; rotate_left; (· simp only [Act.put, sA_, sB_, sC_, i64_w, i32_w]; rfl); refine pure_ (i := 12) (N := some 29) (v := undef) (a' := ?_) #[I_,I_,I_,I_,I_,I_,I_,I_,I_,I_,I_,I_,I_,O_,O_,O_,O_,O_,O_,O_,O_,O_,O_,O_,O_,O_,O_,O_,O_,O_,O_,O_,O_,O_] rfl rfl (by kernel_rfl) (fun _ _ _ h => h) (Or.inr ⟨by rfl, rfl⟩) ?_ ?_; rotate_left; (· simp only [Act.put, sA_, sB_, sC_, i64_w, i32_w]; rfl); refine pure_ (i := 13) (N := some 30) (v := undef) (a' := ?_) #[I_,I_,I_,I_,I_,I_,I_,I_,I_,I_,I_,I_,I_,I_,O_,O_,O_,O_,O_,O_,O_,O_,O_,O_,O_,O_,O_,O_,O_,O_,O_,O_,O_,O_] rfl rfl (by kernel_rfl) (fun _ _ _ h => h) (Or.inr ⟨by rfl, rfl⟩) ?_ ?_
    rotate_left; (· simp only [Act.put, sA_, sB_, sC_, i64_w, i32_w]; rfl); refine pure_ (i := 14) (N := some 31) (v := undef) (a' := ?_) #[I_,I_,I_,I_,I_,I_,I_,I_,I_,I_,I_,I_,I_,I_,I_,O_,O_,O_,O_,O_,O_,O_,O_,O_,O_,O_,O_,O_,O_,O_,O_,O_,O_,O_] rfl rfl (by kernel_rfl) (fun _ _ _ h => h) (Or.inr ⟨by rfl, rfl⟩) ?_ ?_; rotate_left; (· simp only [Act.put, sA_, sB_, sC_, i64_w, i32_w]; rfl); refine pure_ (i := 15) (N := some 32) (v := undef) (a' := ?_) #[I_,I_,I_,I_,I_,I_,I_,I_,I_,I_,I_,I_,I_,I_,I_,I_,O_,O_,O_,O_,O_,O_,O_,O_,O_,O_,O_,O_,O_,O_,O_,O_,O_,O_] rfl rfl (by kernel_rfl) (fun _ _ _ h => h) (Or.inr ⟨by rfl, rfl⟩) ?_ ?_; rotate_left; (· simp only [Act.put, sA_, sB_, sC_, i64_w, i32_w]; rfl); refine pure_ (i := 16) (N := some 33) (v := undef) (a' := ?_) #[I_,I_,I_,I_,I_,I_,I_,I_,I_,I_,I_,I_,I_,I_,I_,I_,I_,O_,O_,O_,O_,O_,O_,O_,O_,O_,O_,O_,O_,O_,O_,O_,O_,O_] rfl rfl (by kernel_rfl) (fun _ _ _ h => h) (Or.inr ⟨by rfl, rfl⟩) ?_ ?_; rotate_left; (· simp only [Act.put, sA_, sB_, sC_, i64_w, i32_w]; rfl); refine pure_ (i := 17) (N := some 34) (v := undef) (a' := ?_) #[I_,I_,I_,I_,I_,I_,I_,I_,I_,I_,I_,I_,I_,I_,I_,I_,I_,I_,O_,O_,O_,O_,O_,O_,O_,O_,O_,O_,O_,O_,O_,O_,O_,O_] rfl rfl (by kernel_rfl) (fun _ _ _ h => h) (Or.inr ⟨by rfl, rfl⟩) ?_ ?_; rotate_left; (· simp only [Act.put, sA_, sB_, sC_, i64_w, i32_w]; rfl); refine pure_ (i := 18) (N := some 35) (v := ?_) (a' := ?_) #[I_,I_,I_,I_,I_,I_,I_,I_,I_,I_,I_,I_,I_,I_,I_,I_,I_,I_,I_,O_,O_,O_,O_,O_,O_,O_,O_,O_,O_,O_,O_,O_,O_,O_] rfl rfl (by kernel_rfl) (fun _ _ _ h => h) (Or.inl ⟨by rfl, ?_⟩) ?_ ?_; rotate_left; (· intro w'; go_simp; with_reducible rfl); rotate_left; (· simp only [Act.put, sA_, sB_, sC_, i64_w, i32_w]; rfl); refine pure_ (i := 19) (N := some 36) (v := ?_) (a' := ?_) #[I_,I_,I_,I_,I_,I_,I_,I_,I_,I_,I_,I_,I_,I_,I_,I_,I_,I_,I_,I_,O_,O_,O_,O_,O_,O_,O_,O_,O_,O_,O_,O_,O_,O_] rfl rfl (by kernel_rfl) (fun _ _ _ h => h) (Or.inl ⟨by rfl, ?_⟩) ?_ ?_; rotate_left; (· intro w'; go_simp; with_reducible rfl); rotate_left; (· simp only [Act.put, sA_, sB_, sC_, i64_w, i32_w]; rfl)
    refine pure_ (i := 20) (N := some 37) (v := undef) (a' := ?_) #[I_,I_,I_,I_,I_,I_,I_,I_,I_,I_,I_,I_,I_,I_,I_,I_,I_,I_,I_,I_,I_,O_,O_,O_,O_,O_,O_,O_,O_,O_,O_,O_,O_,O_] rfl rfl (by kernel_rfl) (fun _ _ _ h => h) (Or.inr ⟨by rfl, rfl⟩) ?_ ?_; rotate_left; (· simp only [Act.put, sA_, sB_, sC_, i64_w, i32_w]; rfl); refine pure_ (i := 21) (N := some 38) (v := undef) (a' := ?_) #[I_,I_,I_,I_,I_,I_,I_,I_,I_,I_,I_,I_,I_,I_,I_,I_,I_,I_,I_,I_,I_,I_,O_,O_,O_,O_,O_,O_,O_,O_,O_,O_,O_,O_] rfl rfl (by kernel_rfl) (fun _ _ _ h => h) (Or.inr ⟨by rfl, rfl⟩) ?_ ?_; rotate_left; (· simp only [Act.put, sA_, sB_, sC_, i64_w, i32_w]; rfl); refine pure_ (i := 22) (N := some 39) (v := undef) (a' := ?_) #[I_,I_,I_,I_,I_,I_,I_,I_,I_,I_,I_,I_,I_,I_,I_,I_,I_,I_,I_,I_,I_,I_,I_,O_,O_,O_,O_,O_,O_,O_,O_,O_,O_,O_] rfl rfl (by kernel_rfl) (fun _ _ _ h => h) (Or.inr ⟨by rfl, rfl⟩) ?_ ?_; rotate_left; (· simp only [Act.put, sA_, sB_, sC_, i64_w, i32_w]; rfl); refine pure_ (i := 23) (N := some 40) (v := undef) (a' := ?_) #[I_,I_,I_,I_,I_,I_,I_,I_,I_,I_,I_,I_,I_,I_,I_,I_,I_,I_,I_,I_,I_,I_,I_,I_,O_,O_,O_,O_,O_,O_,O_,O_,O_,O_] rfl rfl (by kernel_rfl) (fun _ _ _ h => h) (Or.inr ⟨by rfl, rfl⟩) ?_ ?_; rotate_left; (· simp only [Act.put, sA_, sB_, sC_, i64_w, i32_w]; rfl); refine pure_ (i := 24) (N := some 41) (v := undef) (a' := ?_) #[I_,I_,I_,I_,I_,I_,I_,I_,I_,I_,I_,I_,I_,I_,I_,I_,I_,I_,I_,I_,I_,I_,I_,I_,I_,O_,O_,O_,O_,O_,O_,O_,O_,O_] rfl rfl (by kernel_rfl) (fun _ _ _ h => h) (Or.inr ⟨by rfl, rfl⟩) ?_ ?_; rotate_left; (· simp only [Act.put, sA_, sB_, sC_, i64_w, i32_w]; rfl); refine pure_ (i := 25) (N := some 42) (v := undef) (a' := ?_) #[I_,I_,I_,I_,I_,I_,I_,I_,I_,I_,I_,I_,I_,I_,I_,I_,I_,I_,I_,I_,I_,I_,I_,I_,I_,I_,O_,O_,O_,O_,O_,O_,O_,O_] rfl rfl (by kernel_rfl) (fun _ _ _ h => h) (Or.inr ⟨by rfl, rfl⟩) ?_ ?_; rotate_left; (· simp only [Act.put, sA_, sB_, sC_, i64_w, i32_w]; rfl); refine pure_ (i := 26) (N := some 43) (v := undef) (a' := ?_) #[I_,I_,I_,I_,I_,I_,I_,I_,I_,I_,I_,I_,I_,I_,I_,I_,I_,I_,I_,I_,I_,I_,I_,I_,I_,I_,I_,O_,O_,O_,O_,O_,O_,O_] rfl rfl (by kernel_rfl) (fun _ _ _ h => h) (Or.inr ⟨by rfl, rfl⟩) ?_ ?_
    rotate_left; (· simp only [Act.put, sA_, sB_, sC_, i64_w, i32_w]; rfl); refine pure_ (i := 27) (N := some 44) (v := undef) (a' := ?_) #[I_,I_,I_,I_,I_,I_,I_,I_,I_,I_,I_,I_,I_,I_,I_,I_,I_,I_,I_,I_,I_,I_,I_,I_,I_,I_,I_,I_,O_,O_,O_,O_,O_,O_] rfl rfl (by kernel_rfl) (fun _ _ _ h => h) (Or.inr ⟨by rfl, rfl⟩) ?_ ?_; rotate_left; (· simp only [Act.put, sA_, sB_, sC_, i64_w, i32_w]; rfl); refine pure_ (i := 28) (N := some 45) (v := undef) (a' := ?_) #[I_,I_,I_,I_,I_,I_,I_,I_,I_,I_,I_,I_,I_,I_,I_,I_,I_,I_,I_,I_,I_,I_,I_,I_,I_,I_,I_,I_,I_,O_,O_,O_,O_,O_] rfl rfl (by kernel_rfl) (fun _ _ _ h => h) (Or.inr ⟨by rfl, rfl⟩) ?_ ?_; rotate_left; (· simp only [Act.put, sA_, sB_, sC_, i64_w, i32_w]; rfl); refine pure_ (i := 29) (N := some 46) (v := undef) (a' := ?_) #[I_,I_,I_,I_,I_,I_,I_,I_,I_,I_,I_,I_,I_,I_,I_,I_,I_,I_,I_,I_,I_,I_,I_,I_,I_,I_,I_,I_,I_,I_,O_,O_,O_,O_] rfl rfl (by kernel_rfl) (fun _ _ _ h => h) (Or.inr ⟨by rfl, rfl⟩) ?_ ?_; rotate_left; (· simp only [Act.put, sA_, sB_, sC_, i64_w, i32_w]; rfl); refine pure_ (i := 30) (N := some 47) (v := undef) (a' := ?_) #[I_,I_,I_,I_,I_,I_,I_,I_,I_,I_,I_,I_,I_,I_,I_,I_,I_,I_,I_,I_,I_,I_,I_,I_,I_,I_,I_,I_,I_,I_,I_,O_,O_,O_] rfl rfl (by kernel_rfl) (fun _ _ _ h => h) (Or.inr ⟨by rfl, rfl⟩) ?_ ?_; rotate_left; (· simp only [Act.put, sA_, sB_, sC_, i64_w, i32_w]; rfl); refine pure_ (i := 31) (N := some 48) (v := undef) (a' := ?_) #[I_,I_,I_,I_,I_,I_,I_,I_,I_,I_,I_,I_,I_,I_,I_,I_,I_,I_,I_,I_,I_,I_,I_,I_,I_,I_,I_,I_,I_,I_,I_,I_,O_,O_] rfl rfl (by kernel_rfl) (fun _ _ _ h => h) (Or.inr ⟨by rfl, rfl⟩) ?_ ?_; rotate_left; (· simp only [Act.put, sA_, sB_, sC_, i64_w, i32_w]; rfl); refine pure_ (i := 32) (N := some 49) (v := ?_) (a' := ?_) #[I_,I_,I_,I_,I_,I_,I_,I_,I_,I_,I_,I_,I_,I_,I_,I_,I_,I_,I_,I_,I_,I_,I_,I_,I_,I_,I_,I_,I_,I_,I_,I_,I_,O_] rfl rfl (by kernel_rfl) (fun _ _ _ h => h) (Or.inl ⟨by rfl, ?_⟩) ?_ ?_; rotate_left; (· intro w'; go_simp; with_reducible rfl); rotate_left; (· simp only [Act.put, sA_, sB_, sC_, i64_w, i32_w]; rfl); refine pure_ (i := 33) (N := some 50) (v := ?_) (a' := ?_) #[I_,I_,I_,I_,I_,I_,I_,I_,I_,I_,I_,I_,I_,I_,I_,I_,I_,I_,I_,I_,I_,I_,I_,I_,I_,I_,I_,I_,I_,I_,I_,I_,I_,I_] rfl rfl (by kernel_rfl) (fun _ _ _ h => h) (Or.inl ⟨by rfl, ?_⟩) ?_ ?_
    rotate_left; (· intro w'; go_simp; with_reducible rfl); rotate_left; (· simp only [Act.put, sA_, sB_, sC_, i64_w, i32_w]; rfl); refine done_ (by kernel_rfl) ?_
    go_upto_region 8 with (fail)
    go_quiet (fail)
    go_wp2; go_ret; exact ⟨rfl, HV.out, by first | exact HB.out | exact pw_below_drewN HB.out _ | exact pw_below_drewN (pw_below_drewN HB.out _) _⟩
set_option maxHeartbeats 4000000 in
set_option maxRecDepth 100000 in
theorem apply_set5b (w W : World) (v : Value) (l : Wd) (f0 f1 f2 f3 f4 : Int) (A5 : Option Addr) (c5 : Nat) (f5 : List Int) (hB : Below w.heap.size w W) (hv : WRep W w.heap.size v l) (hr : Kd.C (Kd.int .i64) w A5 f5.length f5) (hc : f5.length ≤ c5)
    (hform : formedB f2 f3 f4 f5 = true) (hf0 : 0 ≤ f0) (hf1 : f0 < l.length) (rows : List (List Int)) (hk : l[f0.toNat]? = some rows) (hn : rows.length < 5864062014805) (hW : ∀ (i : Nat) r, rows[i]? = some r → r.length = (rd_L1 rows 0).length) (h2 : 0 ≤ f2) (h1 : 0 ≤ f1) (hbad : rows.length ≤ f1) :
    Calls Try.prog 44 #[v, .agg #[.int .i64 f0, .int .i64 f1, .int .i64 f2, .int .i64 f3, .int .i64 f4, .slice A5 f5.length c5]] W fun e W' => e = .returned (.int .i64 5) ∧ WRep W' w.heap.size v l ∧ Below w.heap.size w W' := by
  have hu61 := Try.underlying61; have HB := Aside0.mk hB; have HR := Aside0.mk hr; have HC := Aside0.mk hc; have HV := Aside0.mk hv; obtain ⟨ad, c, rfl, hg⟩ := hv.known hk; have HG := Aside0.mk hg
  have hlen : l.length ≤ 9223372036854775807 := by
    obtain ⟨_, _, h⟩ := hv; obtain ⟨A, c, e, hl, _⟩ := h.top; exact hl
  obtain ⟨A2, c2, hy, hc2, hrows, hfy⟩ := hv.seen hk; have HC2 := Aside0.mk hc2
  have HOW := Aside0.mk (show ∀ b, (Value.slice A2 rows.length c2).ownBlock = some b → b < W.heap.size from by
    obtain ⟨cs, h, _⟩ := hv.grow hk hy
    exact own_lt h)
  have HW := Aside0.mk hW; have HK := Aside0.mk hk; have hfr := Aside0.mk hfy; have hb0 := decide_eq_true hf0; have hb1 := decide_eq_true hf1; have HF := Aside0.mk ((formedB_f f0 f1 f2 f3 f4 f5).trans (congrArg some hform)); obtain ⟨kn, hkn⟩ : ∃ k, k = f0.toNat := ⟨_, rfl⟩; clear hB hr hc hv hg hfy hc2 hW hk hform; have hd2 : decide (f2 < 0) = false := decide_eq_false (by omega); have he1 : (f2 == -1) = false := beq_eq_false_iff_ne.2 (by omega); have he2 : (f2 == -2) = false := beq_eq_false_iff_ne.2 (by omega); have hda : decide (f1 < 0) = false := decide_eq_false (by omega); have hdb : decide ((rows.length : Int) ≤ f1) = true := decide_eq_true hbad
  go_enter Try.func44, Try.ntmps44
  go_upto_region 1 with (first | ((with_reducible refine gate_dst (N := 3) rfl ?_); (try (refine gate_guard (by rfl) ?_; dsimp only)); refine box_event ?hg (N := 3) ?hd (cs := #[.int .i64 f0, .int .i64 f1, .int .i64 f2, .int .i64 f3, .int .i64 f4, .slice A5 f5.length c5]) (t := 61) ?hr ?_; (case hd => rfl); (case hg => rfl); (case hr => first | (go_simp; done) | (go_simp; rfl)); intro gb hg w1 hbox hb1; have n0_ := Aside0.mk (below_step HB.out hb1); have n1_ := Aside0.mk (HV.out.below hb1); have n2_ := Aside0.mk (show gb < w1.heap.size from (Array.getElem?_eq_some_iff.1 hbox).1);  have n3_ := cell_below hb1 hy; clear hy; have hy := n3_; clear n3_; have HNG := Aside0.mk (fun b (hb : (Value.slice A2 rows.length c2).ownBlock = some b) => (by have := HOW.out b hb; omega : b ≠ gb)); clear HB HV; have HB := n0_; have HV := n1_; have GL := n2_; clear n0_ n1_ n2_; have hz0 : w1.cell? ⟨gb, 0, none⟩ = some (.int .i64 f0) := (blk_cell hbox 0).trans rfl; have hz1 : w1.cell? ⟨gb, 1, none⟩ = some (.int .i64 f1) := (blk_cell hbox 1).trans rfl; have hz2 : w1.cell? ⟨gb, 2, none⟩ = some (.int .i64 f2) := (blk_cell hbox 2).trans rfl; have hz3 : w1.cell? ⟨gb, 3, none⟩ = some (.int .i64 f3) := (blk_cell hbox 3).trans rfl; have hz4 : w1.cell? ⟨gb, 4, none⟩ = some (.int .i64 f4) := (blk_cell hbox 4).trans rfl; have hz5 : w1.cell? ⟨gb, 5, none⟩ = some (.slice A5 f5.length c5) := (blk_cell hbox 5).trans rfl; clear hb1 hbox hg))
  go_cut [5] (fun v5 wc => v5 = .bool true ∧ w1 = wc)
  case first =>
    go_wp2
    go_meet
    case rel => exact ⟨rfl, rfl⟩
  case rest =>
    obtain ⟨rfl, rfl⟩ := hcut
    go_upto_region 2 with (fail)
    replace HB : Aside0 (Below w.heap.size w w1.drew) := ⟨below_drew HB.out⟩; replace HV : Aside0 (WRep w1.drew w.heap.size (.slice (some ad) l.length c) l) := HV; replace GL : Aside0 (gb < w1.drew.heap.size) := GL; replace hz0 : w1.drew.cell? ⟨gb, 0, none⟩ = some (.int .i64 f0) := hz0; replace hz1 : w1.drew.cell? ⟨gb, 1, none⟩ = some (.int .i64 f1) := hz1; replace hz2 : w1.drew.cell? ⟨gb, 2, none⟩ = some (.int .i64 f2) := hz2; replace hz3 : w1.drew.cell? ⟨gb, 3, none⟩ = some (.int .i64 f3) := hz3; replace hz4 : w1.drew.cell? ⟨gb, 4, none⟩ = some (.int .i64 f4) := hz4; replace hz5 : w1.drew.cell? ⟨gb, 5, none⟩ = some (.slice A5 f5.length c5) := hz5; replace hy : w1.drew.cell? (ad.add f0.toNat) = some (.slice A2 rows.length c2) := hy; refine start_ (n := 34) (S := fun w' => w'.cell? ⟨gb, 0, none⟩ = some (.int .i64 f0) ∧ w'.cell? ⟨gb, 1, none⟩ = some (.int .i64 f1) ∧ w'.cell? ⟨gb, 2, none⟩ = some (.int .i64 f2) ∧ w'.cell? ⟨gb, 3, none⟩ = some (.int .i64 f3) ∧ w'.cell? ⟨gb, 4, none⟩ = some (.int .i64 f4) ∧ w'.cell? ⟨gb, 5, none⟩ = some (.slice A5 f5.length c5) ∧ w'.cell? (ad.add f0.toNat) = some (.slice A2 rows.length c2)) (ds := []) #[O_,O_,O_,O_,O_,O_,O_,O_,O_,O_,O_,O_,O_,O_,O_,O_,O_,O_,O_,O_,O_,O_,O_,O_,O_,O_,O_,O_,O_,O_,O_,O_,O_,O_] (by kernel_rfl) rfl rfl ⟨hz0, hz1, hz2, hz3, hz4, hz5, hy⟩ (fun hHeld => ?_); generalize w1.drew = w2 at HB HV GL hHeld hz0 hz1 hz2 hz3 hz4 hz5 hy ⊢; refine take_ (i := 0) (N := some 17) (v := ?_) (a' := ?_) #[I_,O_,O_,O_,O_,O_,O_,O_,O_,O_,O_,O_,O_,O_,O_,O_,O_,O_,O_,O_,O_,O_,O_,O_,O_,O_,O_,O_,O_,O_,O_,O_,O_,O_] rfl rfl (by kernel_rfl) (fun _ _ _ h => h) (Or.inl ⟨by rfl, ?_⟩) hHeld ?_ ?_; rotate_left; (· rintro w' ⟨s0, s1, s2, s3, s4, s5, s6⟩; go_simp; with_reducible rfl); rotate_left; (· simp only [Act.put, sA_, sB_, sC_, i64_w, i32_w]; rfl); refine one_ (i := 1) (N := some 18) #[I_,I_,O_,O_,O_,O_,O_,O_,O_,O_,O_,O_,O_,O_,O_,O_,O_,O_,O_,O_,O_,O_,O_,O_,O_,O_,O_,O_,O_,O_,O_,O_,O_,O_] rfl rfl (by kernel_rfl) (by decide) (fun K hK => ?_); refine goes_ Try.func66 (by kernel_rfl) rfl #[.agg #[.int .i64 f0, .int .i64 f1, .int .i64 f2, .int .i64 f3, .int .i64 f4, .slice A5 f5.length c5]] (by rfl) rfl rfl (by simp only [List.map_toArray, List.map_cons, List.map_nil]; rfl) ?_
    with_reducible refine (diff_Change_formed.calls f0 f1 f2 f3 f4 A5 c5 f5 true w2 (Kd.C_below HR.out HB.out) HC.out HF.out).mono ?_
    rintro e w3 ⟨rfl, hb⟩; refine ⟨_, rfl, ?_⟩; have n0_ := Aside0.mk (below_step HB.out hb); have n1_ := Aside0.mk (HV.out.below hb); have n2_ := Aside0.mk (Nat.lt_of_lt_of_le GL.out hb.size); clear HB HV GL; have HB := n0_; have HV := n1_; have GL := n2_; clear n0_ n1_ n2_; replace hz0 := cell_below hb hz0; replace hz1 := cell_below hb hz1; replace hz2 := cell_below hb hz2; replace hz3 := cell_below hb hz3; replace hz4 := cell_below hb hz4; replace hz5 := cell_below hb hz5; replace hy := cell_below hb hy; clear hb; refine hK.out _ _ ⟨hz0, hz1, hz2, hz3, hz4, hz5, hy⟩ (fun hHeld => ?_); clear hK K; refine norm_ (a' := ?_) ?_ ?_; rotate_left
    · show Act.put _ (some 18) _ = _
      simp only [Act.put, sA_, sB_, sC_, i64_w, i32_w]; rfl
    refine pure_ (i := 2) (N := some 19) (v := ?_) (a' := ?_) #[I_,I_,I_,O_,O_,O_,O_,O_,O_,O_,O_,O_,O_,O_,O_,O_,O_,O_,O_,O_,O_,O_,O_,O_,O_,O_,O_,O_,O_,O_,O_,O_,O_,O_] rfl rfl (by kernel_rfl) (fun _ _ _ h => h) (Or.inl ⟨by rfl, ?_⟩) ?_ ?_; rotate_left; (· intro w'; go_simp; with_reducible rfl); rotate_left; (· simp only [Act.put, sA_, sB_, sC_, i64_w, i32_w]; rfl); refine pure_ (i := 3) (N := some 20) (v := ?_) (a' := ?_) #[I_,I_,I_,I_,O_,O_,O_,O_,O_,O_,O_,O_,O_,O_,O_,O_,O_,O_,O_,O_,O_,O_,O_,O_,O_,O_,O_,O_,O_,O_,O_,O_,O_,O_] rfl rfl (by kernel_rfl) (fun _ _ _ h => h) (Or.inl ⟨by rfl, ?_⟩) ?_ ?_; rotate_left; (· intro w'; go_simp; with_reducible rfl); rotate_left; (· simp only [Act.put, sA_, sB_, sC_, i64_w, i32_w]; rfl); refine pure_ (i := 4) (N := some 21) (v := ?_) (a' := ?_) #[I_,I_,I_,I_,I_,O_,O_,O_,O_,O_,O_,O_,O_,O_,O_,O_,O_,O_,O_,O_,O_,O_,O_,O_,O_,O_,O_,O_,O_,O_,O_,O_,O_,O_] rfl rfl (by kernel_rfl) (fun _ _ _ h => h) (Or.inl ⟨by rfl, ?_⟩) ?_ ?_; rotate_left; (· intro w'; go_simp; with_reducible rfl); rotate_left; (· simp only [Act.put, sA_, sB_, sC_, i64_w, i32_w]; rfl); refine take_ (i := 5) (N := some 22) (v := ?_) (a' := ?_) #[I_,I_,I_,I_,I_,I_,O_,O_,O_,O_,O_,O_,O_,O_,O_,O_,O_,O_,O_,O_,O_,O_,O_,O_,O_,O_,O_,O_,O_,O_,O_,O_,O_,O_] rfl rfl (by kernel_rfl) (fun _ _ _ h => h) (Or.inl ⟨by rfl, ?_⟩) hHeld ?_ ?_; rotate_left; (· rintro w' ⟨s0, s1, s2, s3, s4, s5, s6⟩; go_simp; with_reducible rfl); rotate_left; (· simp only [Act.put, sA_, sB_, sC_, i64_w, i32_w]; rfl); refine pure_ (i := 6) (N := some 23) (v := ?_) (a' := ?_) #[I_,I_,I_,I_,I_,I_,I_,O_,O_,O_,O_,O_,O_,O_,O_,O_,O_,O_,O_,O_,O_,O_,O_,O_,O_,O_,O_,O_,O_,O_,O_,O_,O_,O_] rfl rfl (by kernel_rfl) (fun _ _ _ h => h) (Or.inl ⟨by rfl, ?_⟩) ?_ ?_; rotate_left; (· intro w'; go_simp; with_reducible rfl); rotate_left; (· simp only [Act.put, sA_, sB_, sC_, i64_w, i32_w]; rfl); refine pure_ (i := 7) (N := some 24) (v := ?_) (a' := ?_) #[I_,I_,I_,I_,I_,I_,I_,I_,O_,O_,O_,O_,O_,O_,O_,O_,O_,O_,O_,O_,O_,O_,O_,O_,O_,O_,O_,O_,O_,O_,O_,O_,O_,O_] rfl rfl (by kernel_rfl) (fun _ _ _ h => h) (Or.inl ⟨by rfl, ?_⟩) ?_ ?_
    rotate_left; (· intro w'; go_simp; with_reducible rfl); rotate_left; (· simp only [Act.put, sA_, sB_, sC_, i64_w, i32_w]; rfl); refine pure_ (i := 8) (N := some 25) (v := undef) (a' := ?_) #[I_,I_,I_,I_,I_,I_,I_,I_,I_,O_,O_,O_,O_,O_,O_,O_,O_,O_,O_,O_,O_,O_,O_,O_,O_,O_,O_,O_,O_,O_,O_,O_,O_,O_] rfl rfl (by kernel_rfl) (fun _ _ _ h => h) (Or.inr ⟨by rfl, rfl⟩) ?_ ?_; rotate_left; (· simp only [Act.put, sA_, sB_, sC_, i64_w, i32_w]; rfl); refine pure_ (i := 9) (N := some 26) (v := ?_) (a' := ?_) #[I_,I_,I_,I_,I_,I_,I_,I_,I_,I_,O_,O_,O_,O_,O_,O_,O_,O_,O_,O_,O_,O_,O_,O_,O_,O_,O_,O_,O_,O_,O_,O_,O_,O_] rfl rfl (by kernel_rfl) (fun _ _ _ h => h) (Or.inl ⟨by rfl, ?_⟩) ?_ ?_; rotate_left; (· intro w'; go_simp; with_reducible rfl); rotate_left; (· simp only [Act.put, sA_, sB_, sC_, i64_w, i32_w]; rfl); refine pure_ (i := 10) (N := some 27) (v := ?_) (a' := ?_) #[I_,I_,I_,I_,I_,I_,I_,I_,I_,I_,I_,O_,O_,O_,O_,O_,O_,O_,O_,O_,O_,O_,O_,O_,O_,O_,O_,O_,O_,O_,O_,O_,O_,O_] rfl rfl (by kernel_rfl) (fun _ _ _ h => h) (Or.inl ⟨by rfl, ?_⟩) ?_ ?_; rotate_left; (· intro w'; go_simp; with_reducible rfl); rotate_left; (· simp only [Act.put, sA_, sB_, sC_, i64_w, i32_w]; rfl); refine pure_ (i := 11) (N := some 28) (v := undef) (a' := ?_) #[I_,I_,I_,I_,I_,I_,I_,I_,I_,I_,I_,I_,O_,O_,O_,O_,O_,O_,O_,O_,O_,O_,O_,O_,O_,O_,O_,O_,O_,O_,O_,O_,O_,O_] rfl rfl (by kernel_rfl) (fun _ _ _ h => h) (Or.inr ⟨by rfl, rfl⟩) ?_ ?_; rotate_left; (· simp only [Act.put, sA_, sB_, sC_, i64_w, i32_w]; rfl); refine pure_ (i := 12) (N := some 29) (v := undef) (a' := ?_) #[I_,I_,I_,I_,I_,I_,I_,I_,I_,I_,I_,I_,I_,O_,O_,O_,O_,O_,O_,O_,O_,O_,O_,O_,O_,O_,O_,O_,O_,O_,O_,O_,O_,O_] rfl rfl (by kernel_rfl) (fun _ _ _ h => h) (Or.inr ⟨by rfl, rfl⟩) ?_ ?_; rotate_left; (· simp only [Act.put, sA_, sB_, sC_, i64_w, i32_w]; rfl); refine pure_ (i := 13) (N := some 30) (v := undef) (a' := ?_) #[I_,I_,I_,I_,I_,I_,I_,I_,I_,I_,I_,I_,I_,I_,O_,O_,O_,O_,O_,O_,O_,O_,O_,O_,O_,O_,O_,O_,O_,O_,O_,O_,O_,O_] rfl rfl (by kernel_rfl) (fun _ _ _ h => h) (Or.inr ⟨by rfl, rfl⟩) ?_ ?_
    rotate_left; (· simp only [Act.put, sA_, sB_, sC_, i64_w, i32_w]; rfl); refine pure_ (i := 14) (N := some 31) (v := undef) (a' := ?_) #[I_,I_,I_,I_,I_,I_,I_,I_,I_,I_,I_,I_,I_,I_,I_,O_,O_,O_,O_,O_,O_,O_,O_,O_,O_,O_,O_,O_,O_,O_,O_,O_,O_,O_] rfl rfl (by kernel_rfl) (fun _ _ _ h => h) (Or.inr ⟨by rfl, rfl⟩) ?_ ?_; rotate_left; (· simp only [Act.put, sA_, sB_, sC_, i64_w, i32_w]; rfl); refine pure_ (i := 15) (N := some 32) (v := undef) (a' := ?_) #[I_,I_,I_,I_,I_,I_,I_,I_,I_,I_,I_,I_,I_,I_,I_,I_,O_,O_,O_,O_,O_,O_,O_,O_,O_,O_,O_,O_,O_,O_,O_,O_,O_,O_] rfl rfl (by kernel_rfl) (fun _ _ _ h => h) (Or.inr ⟨by rfl, rfl⟩) ?_ ?_; rotate_left; (· simp only [Act.put, sA_, sB_, sC_, i64_w, i32_w]; rfl); refine pure_ (i := 16) (N := some 33) (v := undef) (a' := ?_) #[I_,I_,I_,I_,I_,I_,I_,I_,I_,I_,I_,I_,I_,I_,I_,I_,I_,O_,O_,O_,O_,O_,O_,O_,O_,O_,O_,O_,O_,O_,O_,O_,O_,O_] rfl rfl (by kernel_rfl) (fun _ _ _ h => h) (Or.inr ⟨by rfl, rfl⟩) ?_ ?_; rotate_left; (· simp only [Act.put, sA_, sB_, sC_, i64_w, i32_w]; rfl); refine pure_ (i := 17) (N := some 34) (v := undef) (a' := ?_) #[I_,I_,I_,I_,I_,I_,I_,I_,I_,I_,I_,I_,I_,I_,I_,I_,I_,I_,O_,O_,O_,O_,O_,O_,O_,O_,O_,O_,O_,O_,O_,O_,O_,O_] rfl rfl (by kernel_rfl) (fun _ _ _ h => h) (Or.inr ⟨by rfl, rfl⟩) ?_ ?_; rotate_left; (· simp only [Act.put, sA_, sB_, sC_, i64_w, i32_w]; rfl); refine pure_ (i := 18) (N := some 35) (v := ?_) (a' := ?_) #[I_,I_,I_,I_,I_,I_,I_,I_,I_,I_,I_,I_,I_,I_,I_,I_,I_,I_,I_,O_,O_,O_,O_,O_,O_,O_,O_,O_,O_,O_,O_,O_,O_,O_] rfl rfl (by kernel_rfl) (fun _ _ _ h => h) (Or.inl ⟨by rfl, ?_⟩) ?_ ?_; rotate_left; (· intro w'; go_simp; with_reducible rfl); rotate_left; (· simp only [Act.put, sA_, sB_, sC_, i64_w, i32_w]; rfl); refine pure_ (i := 19) (N := some 36) (v := ?_) (a' := ?_) #[I_,I_,I_,I_,I_,I_,I_,I_,I_,I_,I_,I_,I_,I_,I_,I_,I_,I_,I_,I_,O_,O_,O_,O_,O_,O_,O_,O_,O_,O_,O_,O_,O_,O_] rfl rfl (by kernel_rfl) (fun _ _ _ h => h) (Or.inl ⟨by rfl, ?_⟩) ?_ ?_; rotate_left; (· intro w'; go_simp; with_reducible rfl); rotate_left; (· simp only [Act.put, sA_, sB_, sC_, i64_w, i32_w]; rfl)
    refine pure_ (i := 20) (N := some 37) (v := undef) (a' := ?_) #[I_,I_,I_,I_,I_,I_,I_,I_,I_,I_,I_,I_,I_,I_,I_,I_,I_,I_,I_,I_,I_,O_,O_,O_,O_,O_,O_,O_,O_,O_,O_,O_,O_,O_] rfl rfl (by kernel_rfl) (fun _ _ _ h => h) (Or.inr ⟨by rfl, rfl⟩) ?_ ?_; rotate_left; (· simp only [Act.put, sA_, sB_, sC_, i64_w, i32_w]; rfl); refine pure_ (i := 21) (N := some 38) (v := undef) (a' := ?_) #[I_,I_,I_,I_,I_,I_,I_,I_,I_,I_,I_,I_,I_,I_,I_,I_,I_,I_,I_,I_,I_,I_,O_,O_,O_,O_,O_,O_,O_,O_,O_,O_,O_,O_] rfl rfl (by kernel_rfl) (fun _ _ _ h => h) (Or.inr ⟨by rfl, rfl⟩) ?_ ?_; rotate_left; (· simp only [Act.put, sA_, sB_, sC_, i64_w, i32_w]; rfl); refine pure_ (i := 22) (N := some 39) (v := undef) (a' := ?_) #[I_,I_,I_,I_,I_,I_,I_,I_,I_,I_,I_,I_,I_,I_,I_,I_,I_,I_,I_,I_,I_,I_,I_,O_,O_,O_,O_,O_,O_,O_,O_,O_,O_,O_] rfl rfl (by kernel_rfl) (fun _ _ _ h => h) (Or.inr ⟨by rfl, rfl⟩) ?_ ?_; rotate_left; (· simp only [Act.put, sA_, sB_, sC_, i64_w, i32_w]; rfl); refine pure_ (i := 23) (N := some 40) (v := undef) (a' := ?_) #[I_,I_,I_,I_,I_,I_,I_,I_,I_,I_,I_,I_,I_,I_,I_,I_,I_,I_,I_,I_,I_,I_,I_,I_,O_,O_,O_,O_,O_,O_,O_,O_,O_,O_] rfl rfl (by kernel_rfl) (fun _ _ _ h => h) (Or.inr ⟨by rfl, rfl⟩) ?_ ?_; rotate_left; (· simp only [Act.put, sA_, sB_, sC_, i64_w, i32_w]; rfl); refine pure_ (i := 24) (N := some 41) (v := undef) (a' := ?_) #[I_,I_,I_,I_,I_,I_,I_,I_,I_,I_,I_,I_,I_,I_,I_,I_,I_,I_,I_,I_,I_,I_,I_,I_,I_,O_,O_,O_,O_,O_,O_,O_,O_,O_] rfl rfl (by kernel_rfl) (fun _ _ _ h => h) (Or.inr ⟨by rfl, rfl⟩) ?_ ?_; rotate_left; (· simp only [Act.put, sA_, sB_, sC_, i64_w, i32_w]; rfl); refine pure_ (i := 25) (N := some 42) (v := undef) (a' := ?_) #[I_,I_,I_,I_,I_,I_,I_,I_,I_,I_,I_,I_,I_,I_,I_,I_,I_,I_,I_,I_,I_,I_,I_,I_,I_,I_,O_,O_,O_,O_,O_,O_,O_,O_] rfl rfl (by kernel_rfl) (fun _ _ _ h => h) (Or.inr ⟨by rfl, rfl⟩) ?_ ?_; rotate_left; (· simp only [Act.put, sA_, sB_, sC_, i64_w, i32_w]; rfl); refine pure_ (i := 26) (N := some 43) (v := undef) (a' := ?_) #[I_,I_,I_,I_,I_,I_,I_,I_,I_,I_,I_,I_,I_,I_,I_,I_,I_,I_,I_,I_,I_,I_,I_,I_,I_,I_,I_,O_,O_,O_,O_,O_,O_,O_] rfl rfl (by kernel_rfl) (fun _ _ _ h => h) (Or.inr ⟨by rfl, rfl⟩) ?_ ?_
    rotate_left; (· simp only [Act.put, sA_, sB_, sC_, i64_w, i32_w]; rfl); refine pure_ (i := 27) (N := some 44) (v := undef) (a' := ?_) #[I_,I_,I_,I_,I_,I_,I_,I_,I_,I_,I_,I_,I_,I_,I_,I_,I_,I_,I_,I_,I_,I_,I_,I_,I_,I_,I_,I_,O_,O_,O_,O_,O_,O_] rfl rfl (by kernel_rfl) (fun _ _ _ h => h) (Or.inr ⟨by rfl, rfl⟩) ?_ ?_; rotate_left; (· simp only [Act.put, sA_, sB_, sC_, i64_w, i32_w]; rfl); refine pure_ (i := 28) (N := some 45) (v := undef) (a' := ?_) #[I_,I_,I_,I_,I_,I_,I_,I_,I_,I_,I_,I_,I_,I_,I_,I_,I_,I_,I_,I_,I_,I_,I_,I_,I_,I_,I_,I_,I_,O_,O_,O_,O_,O_] rfl rfl (by kernel_rfl) (fun _ _ _ h => h) (Or.inr ⟨by rfl, rfl⟩) ?_ ?_; rotate_left; (· simp only [Act.put, sA_, sB_, sC_, i64_w, i32_w]; rfl); refine pure_ (i := 29) (N := some 46) (v := undef) (a' := ?_) #[I_,I_,I_,I_,I_,I_,I_,I_,I_,I_,I_,I_,I_,I_,I_,I_,I_,I_,I_,I_,I_,I_,I_,I_,I_,I_,I_,I_,I_,I_,O_,O_,O_,O_] rfl rfl (by kernel_rfl) (fun _ _ _ h => h) (Or.inr ⟨by rfl, rfl⟩) ?_ ?_; rotate_left; (· simp only [Act.put, sA_, sB_, sC_, i64_w, i32_w]; rfl); refine pure_ (i := 30) (N := some 47) (v := undef) (a' := ?_) #[I_,I_,I_,I_,I_,I_,I_,I_,I_,I_,I_,I_,I_,I_,I_,I_,I_,I_,I_,I_,I_,I_,I_,I_,I_,I_,I_,I_,I_,I_,I_,O_,O_,O_] rfl rfl (by kernel_rfl) (fun _ _ _ h => h) (Or.inr ⟨by rfl, rfl⟩) ?_ ?_; rotate_left; (· simp only [Act.put, sA_, sB_, sC_, i64_w, i32_w]; rfl); refine pure_ (i := 31) (N := some 48) (v := undef) (a' := ?_) #[I_,I_,I_,I_,I_,I_,I_,I_,I_,I_,I_,I_,I_,I_,I_,I_,I_,I_,I_,I_,I_,I_,I_,I_,I_,I_,I_,I_,I_,I_,I_,I_,O_,O_] rfl rfl (by kernel_rfl) (fun _ _ _ h => h) (Or.inr ⟨by rfl, rfl⟩) ?_ ?_; rotate_left; (· simp only [Act.put, sA_, sB_, sC_, i64_w, i32_w]; rfl); refine pure_ (i := 32) (N := some 49) (v := ?_) (a' := ?_) #[I_,I_,I_,I_,I_,I_,I_,I_,I_,I_,I_,I_,I_,I_,I_,I_,I_,I_,I_,I_,I_,I_,I_,I_,I_,I_,I_,I_,I_,I_,I_,I_,I_,O_] rfl rfl (by kernel_rfl) (fun _ _ _ h => h) (Or.inl ⟨by rfl, ?_⟩) ?_ ?_; rotate_left; (· intro w'; go_simp; with_reducible rfl); rotate_left; (· simp only [Act.put, sA_, sB_, sC_, i64_w, i32_w]; rfl); refine pure_ (i := 33) (N := some 50) (v := ?_) (a' := ?_) #[I_,I_,I_,I_,I_,I_,I_,I_,I_,I_,I_,I_,I_,I_,I_,I_,I_,I_,I_,I_,I_,I_,I_,I_,I_,I_,I_,I_,I_,I_,I_,I_,I_,I_] rfl rfl (by kernel_rfl) (fun _ _ _ h => h) (Or.inl ⟨by rfl, ?_⟩) ?_ ?_
    rotate_left; (· intro w'; go_simp; with_reducible rfl); rotate_left; (· simp only [Act.put, sA_, sB_, sC_, i64_w, i32_w]; rfl); refine done_ (by kernel_rfl) ?_
    go_upto_region 8 with (fail)
    go_quiet (fail)
    go_wp2; go_ret; exact ⟨rfl, HV.out, by first | exact HB.out | exact pw_below_drewN HB.out _ | exact pw_below_drewN (pw_below_drewN HB.out _) _⟩
set_option maxHeartbeats 4000000 in
set_option maxRecDepth 100000 in
theorem apply_set5c (w W : World) (v : Value) (l : Wd) (f0 f1 f2 f3 f4 : Int) (A5 : Option Addr) (c5 : Nat) (f5 : List Int) (hB : Below w.heap.size w W) (hv : WRep W w.heap.size v l) (hr : Kd.C (Kd.int .i64) w A5 f5.length f5) (hc : f5.length ≤ c5)
    (hform : formedB f2 f3 f4 f5 = true) (hf0 : 0 ≤ f0) (hf1 : f0 < l.length) (rows : List (List Int)) (hk : l[f0.toNat]? = some rows) (hn : rows.length < 5864062014805) (hW : ∀ (i : Nat) r, rows[i]? = some r → r.length = (rd_L1 rows 0).length) (h2 : 0 ≤ f2) (h1 : 0 ≤ f1) (h1b : f1 < rows.length) (hbad : (rd_L1 rows 0).length ≤ f2) :
    Calls Try.prog 44 #[v, .agg #[.int .i64 f0, .int .i64 f1, .int .i64 f2, .int .i64 f3, .int .i64 f4, .slice A5 f5.length c5]] W fun e W' => e = .returned (.int .i64 5) ∧ WRep W' w.heap.size v l ∧ Below w.heap.size w W' := by
  have hu61 := Try.underlying61; have HB := Aside0.mk hB; have HR := Aside0.mk hr; have HC := Aside0.mk hc; have HV := Aside0.mk hv; obtain ⟨ad, c, rfl, hg⟩ := hv.known hk; have HG := Aside0.mk hg
  have hlen : l.length ≤ 9223372036854775807 := by
    obtain ⟨_, _, h⟩ := hv; obtain ⟨A, c, e, hl, _⟩ := h.top; exact hl
  obtain ⟨A2, c2, hy, hc2, hrows, hfy⟩ := hv.seen hk; have HC2 := Aside0.mk hc2
  have HOW := Aside0.mk (show ∀ b, (Value.slice A2 rows.length c2).ownBlock = some b → b < W.heap.size from by
    obtain ⟨cs, h, _⟩ := hv.grow hk hy
    exact own_lt h)
  have HW := Aside0.mk hW; have HK := Aside0.mk hk; have hfr := Aside0.mk hfy; have hb0 := decide_eq_true hf0; have hb1 := decide_eq_true hf1; have HF := Aside0.mk ((formedB_f f0 f1 f2 f3 f4 f5).trans (congrArg some hform)); obtain ⟨kn, hkn⟩ : ∃ k, k = f0.toNat := ⟨_, rfl⟩; clear hB hr hc hv hg hfy hc2 hW hk hform; have hd2 : decide (f2 < 0) = false := decide_eq_false (by omega); have he1 : (f2 == -1) = false := beq_eq_false_iff_ne.2 (by omega); have he2 : (f2 == -2) = false := beq_eq_false_iff_ne.2 (by omega); have hda : decide (f1 < 0) = false := decide_eq_false (by omega); have hdb : decide ((rows.length : Int) ≤ f1) = false := decide_eq_false (by omega); have hdc : decide (((rd_L1 rows 0).length : Int) ≤ f2) = true := decide_eq_true hbad
  go_enter Try.func44, Try.ntmps44
  go_upto_region 1 with (first | ((with_reducible refine gate_dst (N := 3) rfl ?_); (try (refine gate_guard (by rfl) ?_; dsimp only)); refine box_event ?hg (N := 3) ?hd (cs := #[.int .i64 f0, .int .i64 f1, .int .i64 f2, .int .i64 f3, .int .i64 f4, .slice A5 f5.length c5]) (t := 61) ?hr ?_; (case hd => rfl); (case hg => rfl); (case hr => first | (go_simp; done) | (go_simp; rfl)); intro gb hg w1 hbox hb1; have n0_ := Aside0.mk (below_step HB.out hb1); have n1_ := Aside0.mk (HV.out.below hb1); have n2_ := Aside0.mk (show gb < w1.heap.size from (Array.getElem?_eq_some_iff.1 hbox).1);  have n3_ := cell_below hb1 hy; clear hy; have hy := n3_; clear n3_; have HNG := Aside0.mk (fun b (hb : (Value.slice A2 rows.length c2).ownBlock = some b) => (by have := HOW.out b hb; omega : b ≠ gb)); clear HB HV; have HB := n0_; have HV := n1_; have GL := n2_; clear n0_ n1_ n2_; have hz0 : w1.cell? ⟨gb, 0, none⟩ = some (.int .i64 f0) := (blk_cell hbox 0).trans rfl; have hz1 : w1.cell? ⟨gb, 1, none⟩ = some (.int .i64 f1) := (blk_cell hbox 1).trans rfl; have hz2 : w1.cell? ⟨gb, 2, none⟩ = some (.int .i64 f2) := (blk_cell hbox 2).trans rfl; have hz3 : w1.cell? ⟨gb, 3, none⟩ = some (.int .i64 f3) := (blk_cell hbox 3).trans rfl; have hz4 : w1.cell? ⟨gb, 4, none⟩ = some (.int .i64 f4) := (blk_cell hbox 4).trans rfl; have hz5 : w1.cell? ⟨gb, 5, none⟩ = some (.slice A5 f5.length c5) := (blk_cell hbox 5).trans rfl; clear hb1 hbox hg))
  go_cut [5] (fun v5 wc => v5 = .bool true ∧ w1 = wc)
  case first =>
    go_wp2
    go_meet
    case rel => exact ⟨rfl, rfl⟩
  case rest =>
    obtain ⟨rfl, rfl⟩ := hcut
    go_upto_region 2 with (fail)
    replace HB : Aside0 (Below w.heap.size w w1.drew) := ⟨below_drew HB.out⟩; replace HV : Aside0 (WRep w1.drew w.heap.size (.slice (some ad) l.length c) l) := HV; replace GL : Aside0 (gb < w1.drew.heap.size) := GL; replace hz0 : w1.drew.cell? ⟨gb, 0, none⟩ = some (.int .i64 f0) := hz0; replace hz1 : w1.drew.cell? ⟨gb, 1, none⟩ = some (.int .i64 f1) := hz1; replace hz2 : w1.drew.cell? ⟨gb, 2, none⟩ = some (.int .i64 f2) := hz2; replace hz3 : w1.drew.cell? ⟨gb, 3, none⟩ = some (.int .i64 f3) := hz3; replace hz4 : w1.drew.cell? ⟨gb, 4, none⟩ = some (.int .i64 f4) := hz4; replace hz5 : w1.drew.cell? ⟨gb, 5, none⟩ = some (.slice A5 f5.length c5) := hz5; replace hy : w1.drew.cell? (ad.add f0.toNat) = some (.slice A2 rows.length c2) := hy; refine start_ (n := 34) (S := fun w' => w'.cell? ⟨gb, 0, none⟩ = some (.int .i64 f0) ∧ w'.cell? ⟨gb, 1, none⟩ = some (.int .i64 f1) ∧ w'.cell? ⟨gb, 2, none⟩ = some (.int .i64 f2) ∧ w'.cell? ⟨gb, 3, none⟩ = some (.int .i64 f3) ∧ w'.cell? ⟨gb, 4, none⟩ = some (.int .i64 f4) ∧ w'.cell? ⟨gb, 5, none⟩ = some (.slice A5 f5.length c5) ∧ w'.cell? (ad.add f0.toNat) = some (.slice A2 rows.length c2)) (ds := []) #[O_,O_,O_,O_,O_,O_,O_,O_,O_,O_,O_,O_,O_,O_,O_,O_,O_,O_,O_,O_,O_,O_,O_,O_,O_,O_,O_,O_,O_,O_,O_,O_,O_,O_] (by kernel_rfl) rfl rfl ⟨hz0, hz1, hz2, hz3, hz4, hz5, hy⟩ (fun hHeld => ?_); generalize w1.drew = w2 at HB HV GL hHeld hz0 hz1 hz2 hz3 hz4 hz5 hy ⊢; refine take_ (i := 0) (N := some 17) (v := ?_) (a' := ?_) #[I_,O_,O_,O_,O_,O_,O_,O_,O_,O_,O_,O_,O_,O_,O_,O_,O_,O_,O_,O_,O_,O_,O_,O_,O_,O_,O_,O_,O_,O_,O_,O_,O_,O_] rfl rfl (by kernel_rfl) (fun _ _ _ h => h) (Or.inl ⟨by rfl, ?_⟩) hHeld ?_ ?_; rotate_left; (· rintro w' ⟨s0, s1, s2, s3, s4, s5, s6⟩; go_simp; with_reducible rfl); rotate_left; (· simp only [Act.put, sA_, sB_, sC_, i64_w, i32_w]; rfl); refine one_ (i := 1) (N := some 18) #[I_,I_,O_,O_,O_,O_,O_,O_,O_,O_,O_,O_,O_,O_,O_,O_,O_,O_,O_,O_,O_,O_,O_,O_,O_,O_,O_,O_,O_,O_,O_,O_,O_,O_] rfl rfl (by kernel_rfl) (by decide) (fun K hK => ?_); refine goes_ Try.func66 (by kernel_rfl) rfl #[.agg #[.int .i64 f0, .int .i64 f1, .int .i64 f2, .int .i64 f3, .int .i64 f4, .slice A5 f5.length c5]] (by rfl) rfl rfl (by simp only [List.map_toArray, List.map_cons, List.map_nil]; rfl) ?_
    with_reducible refine (diff_Change_formed.calls f0 f1 f2 f3 f4 A5 c5 f5 true w2 (Kd.C_below HR.out HB.out) HC.out HF.out).mono ?_
    rintro e w3 ⟨rfl, hb⟩; refine ⟨_, rfl, ?_⟩; have n0_ := Aside0.mk (below_step HB.out hb); have n1_ := Aside0.mk (HV.out.below hb); have n2_ := Aside0.mk (Nat.lt_of_lt_of_le GL.out hb.size); clear HB HV GL; have HB := n0_; have HV := n1_; have GL := n2_; clear n0_ n1_ n2_; replace hz0 := cell_below hb hz0; replace hz1 := cell_below hb hz1; replace hz2 := cell_below hb hz2; replace hz3 := cell_below hb hz3; replace hz4 := cell_below hb hz4; replace hz5 := cell_below hb hz5; replace hy := cell_below hb hy; clear hb; refine hK.out _ _ ⟨hz0, hz1, hz2, hz3, hz4, hz5, hy⟩ (fun hHeld => ?_); clear hK K; refine norm_ (a' := ?_) ?_ ?_; rotate_left
    · show Act.put _ (some 18) _ = _
      simp only [Act.put, sA_, sB_, sC_, i64_w, i32_w]; rfl
    refine pure_ (i := 2) (N := some 19) (v := ?_) (a' := ?_) #[I_,I_,I_,O_,O_,O_,O_,O_,O_,O_,O_,O_,O_,O_,O_,O_,O_,O_,O_,O_,O_,O_,O_,O_,O_,O_,O_,O_,O_,O_,O_,O_,O_,O_] rfl rfl (by kernel_rfl) (fun _ _ _ h => h) (Or.inl ⟨by rfl, ?_⟩) ?_ ?_; rotate_left; (· intro w'; go_simp; with_reducible rfl); rotate_left; (· simp only [Act.put, sA_, sB_, sC_, i64_w, i32_w]; rfl); refine pure_ (i := 3) (N := some 20) (v := ?_) (a' := ?_) #[I_,I_,I_,I_,O_,O_,O_,O_,O_,O_,O_,O_,O_,O_,O_,O_,O_,O_,O_,O_,O_,O_,O_,O_,O_,O_,O_,O_,O_,O_,O_,O_,O_,O_] rfl rfl (by kernel_rfl) (fun _ _ _ h => h) (Or.inl ⟨by rfl, ?_⟩) ?_ ?_; rotate_left; (· intro w'; go_simp; with_reducible rfl); rotate_left; (· simp only [Act.put, sA_, sB_, sC_, i64_w, i32_w]; rfl); refine pure_ (i := 4) (N := some 21) (v := ?_) (a' := ?_) #[I_,I_,I_,I_,I_,O_,O_,O_,O_,O_,O_,O_,O_,O_,O_,O_,O_,O_,O_,O_,O_,O_,O_,O_,O_,O_,O_,O_,O_,O_,O_,O_,O_,O_] rfl rfl (by kernel_rfl) (fun _ _ _ h => h) (Or.inl ⟨by rfl, ?_⟩) ?_ ?_; rotate_left; (· intro w'; go_simp; with_reducible rfl); rotate_left; (· simp only [Act.put, sA_, sB_, sC_, i64_w, i32_w]; rfl); refine take_ (i := 5) (N := some 22) (v := ?_) (a' := ?_) #[I_,I_,I_,I_,I_,I_,O_,O_,O_,O_,O_,O_,O_,O_,O_,O_,O_,O_,O_,O_,O_,O_,O_,O_,O_,O_,O_,O_,O_,O_,O_,O_,O_,O_] rfl rfl (by kernel_rfl) (fun _ _ _ h => h) (Or.inl ⟨by rfl, ?_⟩) hHeld ?_ ?_; rotate_left; (· rintro w' ⟨s0, s1, s2, s3, s4, s5, s6⟩; go_simp; with_reducible rfl); rotate_left; (· simp only [Act.put, sA_, sB_, sC_, i64_w, i32_w]; rfl); refine pure_ (i := 6) (N := some 23) (v := ?_) (a' := ?_) #[I_,I_,I_,I_,I_,I_,I_,O_,O_,O_,O_,O_,O_,O_,O_,O_,O_,O_,O_,O_,O_,O_,O_,O_,O_,O_,O_,O_,O_,O_,O_,O_,O_,O_] rfl rfl (by kernel_rfl) (fun _ _ _ h => h) (Or.inl ⟨by rfl, ?_⟩) ?_ ?_; rotate_left; (· intro w'; go_simp; with_reducible rfl); rotate_left; (· simp only [Act.put, sA_, sB_, sC_, i64_w, i32_w]; rfl); refine pure_ (i := 7) (N := some 24) (v := ?_) (a' := ?_) #[I_,I_,I_,I_,I_,I_,I_,I_,O_,O_,O_,O_,O_,O_,O_,O_,O_,O_,O_,O_,O_,O_,O_,O_,O_,O_,O_,O_,O_,O_,O_,O_,O_,O_] rfl rfl (by kernel_rfl) (fun _ _ _ h => h) (Or.inl ⟨by rfl, ?_⟩) ?_ ?_
    rotate_left; (· intro w'; go_simp; with_reducible rfl); rotate_left; (· simp only [Act.put, sA_, sB_, sC_, i64_w, i32_w]; rfl); refine pure_ (i := 8) (N := some 25) (v := undef) (a' := ?_) #[I_,I_,I_,I_,I_,I_,I_,I_,I_,O_,O_,O_,O_,O_,O_,O_,O_,O_,O_,O_,O_,O_,O_,O_,O_,O_,O_,O_,O_,O_,O_,O_,O_,O_] rfl rfl (by kernel_rfl) (fun _ _ _ h => h) (Or.inr ⟨by rfl, rfl⟩) ?_ ?_; rotate_left; (· simp only [Act.put, sA_, sB_, sC_, i64_w, i32_w]; rfl); refine pure_ (i := 9) (N := some 26) (v := ?_) (a' := ?_) #[I_,I_,I_,I_,I_,I_,I_,I_,I_,I_,O_,O_,O_,O_,O_,O_,O_,O_,O_,O_,O_,O_,O_,O_,O_,O_,O_,O_,O_,O_,O_,O_,O_,O_] rfl rfl (by kernel_rfl) (fun _ _ _ h => h) (Or.inl ⟨by rfl, ?_⟩) ?_ ?_; rotate_left; (· intro w'; go_simp; with_reducible rfl); rotate_left; (· simp only [Act.put, sA_, sB_, sC_, i64_w, i32_w]; rfl); refine pure_ (i := 10) (N := some 27) (v := ?_) (a' := ?_) #[I_,I_,I_,I_,I_,I_,I_,I_,I_,I_,I_,O_,O_,O_,O_,O_,O_,O_,O_,O_,O_,O_,O_,O_,O_,O_,O_,O_,O_,O_,O_,O_,O_,O_] rfl rfl (by kernel_rfl) (fun _ _ _ h => h) (Or.inl ⟨by rfl, ?_⟩) ?_ ?_; rotate_left; (· intro w'; go_simp; with_reducible rfl); rotate_left; (· simp only [Act.put, sA_, sB_, sC_, i64_w, i32_w]; rfl); refine pure_ (i := 11) (N := some 28) (v := undef) (a' := ?_) #[I_,I_,I_,I_,I_,I_,I_,I_,I_,I_,I_,I_,O_,O_,O_,O_,O_,O_,O_,O_,O_,O_,O_,O_,O_,O_,O_,O_,O_,O_,O_,O_,O_,O_] rfl rfl (by kernel_rfl) (fun _ _ _ h => h) (Or.inr ⟨by rfl, rfl⟩) ?_ ?_; rotate_left; (· simp only [Act.put, sA_, sB_, sC_, i64_w, i32_w]; rfl); refine pure_ (i := 12) (N := some 29) (v := undef) (a' := ?_) #[I_,I_,I_,I_,I_,I_,I_,I_,I_,I_,I_,I_,I_,O_,O_,O_,O_,O_,O_,O_,O_,O_,O_,O_,O_,O_,O_,O_,O_,O_,O_,O_,O_,O_] rfl rfl (by kernel_rfl) (fun _ _ _ h => h) (Or.inr ⟨by rfl, rfl⟩) ?_ ?_; rotate_left; (· simp only [Act.put, sA_, sB_, sC_, i64_w, i32_w]; rfl); refine pure_ (i := 13) (N := some 30) (v := undef) (a' := ?_) #[I_,I_,I_,I_,I_,I_,I_,I_,I_,I_,I_,I_,I_,I_,O_,O_,O_,O_,O_,O_,O_,O_,O_,O_,O_,O_,O_,O_,O_,O_,O_,O_,O_,O_] rfl rfl (by kernel_rfl) (fun _ _ _ h => h) (Or.inr ⟨by rfl, rfl⟩) ?_ ?_
    rotate_left; (· simp only [Act.put, sA_, sB_, sC_, i64_w, i32_w]; rfl); refine pure_ (i := 14) (N := some 31) (v := undef) (a' := ?_) #[I_,I_,I_,I_,I_,I_,I_,I_,I_,I_,I_,I_,I_,I_,I_,O_,O_,O_,O_,O_,O_,O_,O_,O_,O_,O_,O_,O_,O_,O_,O_,O_,O_,O_] rfl rfl (by kernel_rfl) (fun _ _ _ h => h) (Or.inr ⟨by rfl, rfl⟩) ?_ ?_; rotate_left; (· simp only [Act.put, sA_, sB_, sC_, i64_w, i32_w]; rfl); refine pure_ (i := 15) (N := some 32) (v := undef) (a' := ?_) #[I_,I_,I_,I_,I_,I_,I_,I_,I_,I_,I_,I_,I_,I_,I_,I_,O_,O_,O_,O_,O_,O_,O_,O_,O_,O_,O_,O_,O_,O_,O_,O_,O_,O_] rfl rfl (by kernel_rfl) (fun _ _ _ h => h) (Or.inr ⟨by rfl, rfl⟩) ?_ ?_; rotate_left; (· simp only [Act.put, sA_, sB_, sC_, i64_w, i32_w]; rfl); refine pure_ (i := 16) (N := some 33) (v := undef) (a' := ?_) #[I_,I_,I_,I_,I_,I_,I_,I_,I_,I_,I_,I_,I_,I_,I_,I_,I_,O_,O_,O_,O_,O_,O_,O_,O_,O_,O_,O_,O_,O_,O_,O_,O_,O_] rfl rfl (by kernel_rfl) (fun _ _ _ h => h) (Or.inr ⟨by rfl, rfl⟩) ?_ ?_; rotate_left; (· simp only [Act.put, sA_, sB_, sC_, i64_w, i32_w]; rfl); refine pure_ (i := 17) (N := some 34) (v := undef) (a' := ?_) #[I_,I_,I_,I_,I_,I_,I_,I_,I_,I_,I_,I_,I_,I_,I_,I_,I_,I_,O_,O_,O_,O_,O_,O_,O_,O_,O_,O_,O_,O_,O_,O_,O_,O_] rfl rfl (by kernel_rfl) (fun _ _ _ h => h) (Or.inr ⟨by rfl, rfl⟩) ?_ ?_; rotate_left; (· simp only [Act.put, sA_, sB_, sC_, i64_w, i32_w]; rfl); refine pure_ (i := 18) (N := some 35) (v := ?_) (a' := ?_) #[I_,I_,I_,I_,I_,I_,I_,I_,I_,I_,I_,I_,I_,I_,I_,I_,I_,I_,I_,O_,O_,O_,O_,O_,O_,O_,O_,O_,O_,O_,O_,O_,O_,O_] rfl rfl (by kernel_rfl) (fun _ _ _ h => h) (Or.inl ⟨by rfl, ?_⟩) ?_ ?_; rotate_left; (· intro w'; go_simp; with_reducible rfl); rotate_left; (· simp only [Act.put, sA_, sB_, sC_, i64_w, i32_w]; rfl); refine pure_ (i := 19) (N := some 36) (v := ?_) (a' := ?_) #[I_,I_,I_,I_,I_,I_,I_,I_,I_,I_,I_,I_,I_,I_,I_,I_,I_,I_,I_,I_,O_,O_,O_,O_,O_,O_,O_,O_,O_,O_,O_,O_,O_,O_] rfl rfl (by kernel_rfl) (fun _ _ _ h => h) (Or.inl ⟨by rfl, ?_⟩) ?_ ?_; rotate_left; (· intro w'; go_simp; with_reducible rfl); rotate_left; (· simp only [Act.put, sA_, sB_, sC_, i64_w, i32_w]; rfl)
    refine pure_ (i := 20) (N := some 37) (v := undef) (a' := ?_) #[I_,I_,I_,I_,I_,I_,I_,I_,I_,I_,I_,I_,I_,I_,I_,I_,I_,I_,I_,I_,I_,O_,O_,O_,O_,O_,O_,O_,O_,O_,O_,O_,O_,O_] rfl rfl (by kernel_rfl) (fun _ _ _ h => h) (Or.inr ⟨by rfl, rfl⟩) ?_ ?_; rotate_left; (· simp only [Act.put, sA_, sB_, sC_, i64_w, i32_w]; rfl); refine pure_ (i := 21) (N := some 38) (v := undef) (a' := ?_) #[I_,I_,I_,I_,I_,I_,I_,I_,I_,I_,I_,I_,I_,I_,I_,I_,I_,I_,I_,I_,I_,I_,O_,O_,O_,O_,O_,O_,O_,O_,O_,O_,O_,O_] rfl rfl (by kernel_rfl) (fun _ _ _ h => h) (Or.inr ⟨by rfl, rfl⟩) ?_ ?_; rotate_left; (· simp only [Act.put, sA_, sB_, sC_, i64_w, i32_w]; rfl); refine pure_ (i := 22) (N := some 39) (v := undef) (a' := ?_) #[I_,I_,I_,I_,I_,I_,I_,I_,I_,I_,I_,I_,I_,I_,I_,I_,I_,I_,I_,I_,I_,I_,I_,O_,O_,O_,O_,O_,O_,O_,O_,O_,O_,O_] rfl rfl (by kernel_rfl) (fun _ _ _ h => h) (Or.inr ⟨by rfl, rfl⟩) ?_ ?_; rotate_left; (· simp only [Act.put, sA_, sB_, sC_, i64_w, i32_w]; rfl); refine pure_ (i := 23) (N := some 40) (v := undef) (a' := ?_) #[I_,I_,I_,I_,I_,I_,I_,I_,I_,I_,I_,I_,I_,I_,I_,I_,I_,I_,I_,I_,I_,I_,I_,I_,O_,O_,O_,O_,O_,O_,O_,O_,O_,O_] rfl rfl (by kernel_rfl) (fun _ _ _ h => h) (Or.inr ⟨by rfl, rfl⟩) ?_ ?_; rotate_left; (· simp only [Act.put, sA_, sB_, sC_, i64_w, i32_w]; rfl); refine pure_ (i := 24) (N := some 41) (v := undef) (a' := ?_) #[I_,I_,I_,I_,I_,I_,I_,I_,I_,I_,I_,I_,I_,I_,I_,I_,I_,I_,I_,I_,I_,I_,I_,I_,I_,O_,O_,O_,O_,O_,O_,O_,O_,O_] rfl rfl (by kernel_rfl) (fun _ _ _ h => h) (Or.inr ⟨by rfl, rfl⟩) ?_ ?_; rotate_left; (· simp only [Act.put, sA_, sB_, sC_, i64_w, i32_w]; rfl); refine pure_ (i := 25) (N := some 42) (v := undef) (a' := ?_) #[I_,I_,I_,I_,I_,I_,I_,I_,I_,I_,I_,I_,I_,I_,I_,I_,I_,I_,I_,I_,I_,I_,I_,I_,I_,I_,O_,O_,O_,O_,O_,O_,O_,O_] rfl rfl (by kernel_rfl) (fun _ _ _ h => h) (Or.inr ⟨by rfl, rfl⟩) ?_ ?_; rotate_left; (· simp only [Act.put, sA_, sB_, sC_, i64_w, i32_w]; rfl); refine pure_ (i := 26) (N := some 43) (v := undef) (a' := ?_) #[I_,I_,I_,I_,I_,I_,I_,I_,I_,I_,I_,I_,I_,I_,I_,I_,I_,I_,I_,I_,I_,I_,I_,I_,I_,I_,I_,O_,O_,O_,O_,O_,O_,O_] rfl rfl (by kernel_rfl) (fun _ _ _ h => h) (Or.inr ⟨by rfl, rfl⟩) ?_ ?_
    rotate_left; (· simp only [Act.put, sA_, sB_, sC_, i64_w, i32_w]; rfl); refine pure_ (i := 27) (N := some 44) (v := undef) (a' := ?_) #[I_,I_,I_,I_,I_,I_,I_,I_,I_,I_,I_,I_,I_,I_,I_,I_,I_,I_,I_,I_,I_,I_,I_,I_,I_,I_,I_,I_,O_,O_,O_,O_,O_,O_] rfl rfl (by kernel_rfl) (fun _ _ _ h => h) (Or.inr ⟨by rfl, rfl⟩) ?_ ?_; rotate_left; (· simp only [Act.put, sA_, sB_, sC_, i64_w, i32_w]; rfl); refine pure_ (i := 28) (N := some 45) (v := undef) (a' := ?_) #[I_,I_,I_,I_,I_,I_,I_,I_,I_,I_,I_,I_,I_,I_,I_,I_,I_,I_,I_,I_,I_,I_,I_,I_,I_,I_,I_,I_,I_,O_,O_,O_,O_,O_] rfl rfl (by kernel_rfl) (fun _ _ _ h => h) (Or.inr ⟨by rfl, rfl⟩) ?_ ?_; rotate_left; (· simp only [Act.put, sA_, sB_, sC_, i64_w, i32_w]; rfl); refine pure_ (i := 29) (N := some 46) (v := undef) (a' := ?_) #[I_,I_,I_,I_,I_,I_,I_,I_,I_,I_,I_,I_,I_,I_,I_,I_,I_,I_,I_,I_,I_,I_,I_,I_,I_,I_,I_,I_,I_,I_,O_,O_,O_,O_] rfl rfl (by kernel_rfl) (fun _ _ _ h => h) (Or.inr ⟨by rfl, rfl⟩) ?_ ?_; rotate_left; (· simp only [Act.put, sA_, sB_, sC_, i64_w, i32_w]; rfl); refine pure_ (i := 30) (N := some 47) (v := undef) (a' := ?_) #[I_,I_,I_,I_,I_,I_,I_,I_,I_,I_,I_,I_,I_,I_,I_,I_,I_,I_,I_,I_,I_,I_,I_,I_,I_,I_,I_,I_,I_,I_,I_,O_,O_,O_] rfl rfl (by kernel_rfl) (fun _ _ _ h => h) (Or.inr ⟨by rfl, rfl⟩) ?_ ?_; rotate_left; (· simp only [Act.put, sA_, sB_, sC_, i64_w, i32_w]; rfl); refine pure_ (i := 31) (N := some 48) (v := undef) (a' := ?_) #[I_,I_,I_,I_,I_,I_,I_,I_,I_,I_,I_,I_,I_,I_,I_,I_,I_,I_,I_,I_,I_,I_,I_,I_,I_,I_,I_,I_,I_,I_,I_,I_,O_,O_] rfl rfl (by kernel_rfl) (fun _ _ _ h => h) (Or.inr ⟨by rfl, rfl⟩) ?_ ?_; rotate_left; (· simp only [Act.put, sA_, sB_, sC_, i64_w, i32_w]; rfl); refine pure_ (i := 32) (N := some 49) (v := ?_) (a' := ?_) #[I_,I_,I_,I_,I_,I_,I_,I_,I_,I_,I_,I_,I_,I_,I_,I_,I_,I_,I_,I_,I_,I_,I_,I_,I_,I_,I_,I_,I_,I_,I_,I_,I_,O_] rfl rfl (by kernel_rfl) (fun _ _ _ h => h) (Or.inl ⟨by rfl, ?_⟩) ?_ ?_; rotate_left; (· intro w'; go_simp; with_reducible rfl); rotate_left; (· simp only [Act.put, sA_, sB_, sC_, i64_w, i32_w]; rfl); refine pure_ (i := 33) (N := some 50) (v := ?_) (a' := ?_) #[I_,I_,I_,I_,I_,I_,I_,I_,I_,I_,I_,I_,I_,I_,I_,I_,I_,I_,I_,I_,I_,I_,I_,I_,I_,I_,I_,I_,I_,I_,I_,I_,I_,I_] rfl rfl (by kernel_rfl) (fun _ _ _ h => h) (Or.inl ⟨by rfl, ?_⟩) ?_ ?_
    rotate_left; (· intro w'; go_simp; with_reducible rfl); rotate_left; (· simp only [Act.put, sA_, sB_, sC_, i64_w, i32_w]; rfl); refine done_ (by kernel_rfl) ?_; obtain ⟨r0, hr0⟩ : ∃ r0, rows[0]? = some r0 := ⟨_, List.getElem?_eq_getElem (l := rows) (i := 0) (by omega)⟩; obtain ⟨ad2, A3, c3, rfl, hq, hc3, _⟩ := HV.out.record HK.out hy hr0
    have hrd : rd_L1 rows 0 = r0 := by simp [rd_L1, List.getD_eq_getElem?_getD, hr0]
    have hq0 : w3.cell? ad2 = some (.slice A3 r0.length c3) := by rw [Addr.add_zero'] at hq; exact hq
    have qi : (0 < rows.length) = True := eq_true (by omega); have HC3 := Aside0.mk hc3; clear hc3 hq; rw [hrd] at hdc
    go_upto_region 8 with (fail)
    go_quiet (fail)
    go_wp2; go_ret; exact ⟨rfl, HV.out, by first | exact HB.out | exact pw_below_drewN HB.out _ | exact pw_below_drewN (pw_below_drewN HB.out _) _⟩
end Go.Proofs.Ytcgpemefmakjiaa.PX
