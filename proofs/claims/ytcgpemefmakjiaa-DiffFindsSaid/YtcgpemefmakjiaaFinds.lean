/- DiffFinds: for all lists of numbers and numbers that the statement takes, Diff returns, for each pair of the worlds made of them, the changes or the error of the reference; no condition beyond the statement's own. -/
import Derived.Test.YtcgpemefmakjiaaFinds6
import Derived.Test.YtcgpemefmakjiaaFinds2
import Derived.Test.YtcgpemefmakjiaaRows
import Derived.WalkKit
import Derived.ProofKit
import Derived.OpenShut
import Derived.ShutString
import Derived.ChangeOld
import Derived.Below
import Derived.SizedLaws
import Derived.Test.YtcgpemefmakjiaaFinds1
namespace Go.Proofs.Ytcgpemefmakjiaa.PX
open Go.RowKit Go.Proofs.YtcgpemefmakjiaaW.PrintWords Go.Proofs.YtcgpemefmakjiaaW.PrintLast Go.Proofs.YtcgpemefmakjiaaW.PrintMore
set_option linter.unusedVariables false
section
variable (kind : Int) (a b : List (List Int)) (s : Nat) {R : List S76 → Prop}
theorem list_l1 (base : List S76) (i : Nat) (hia : i < a.length) (hib : i < b.length) (hw : (rd_L1 a i).length ≤ (rd_L1 b i).length) (hbd : base.length + (rd_L1 a i).length ≤ 1000000000000)
    (hg : EvP (fun k => dioramaref36_List.l0 k kind a b s (base ++ (setRow kind i (rd_L1 a i) (rd_L1 b i) (rd_L1 a i).length).map toRef) (wrap64 ((i : Int) + 1))) R) :
    ∀ n j : Nat, j + n = (rd_L1 a i).length → EvP (fun k => dioramaref36_List.l1 k kind a b s (base ++ (setRow kind i (rd_L1 a i) (rd_L1 b i) j).map toRef) i j) R
  | 0, j, h => by
    refine EvP.step (fun k => by rw [dioramaref36_List.l1]) ?_; refine EvP.pos (by omega) (EvP.pos (by omega) (EvP.neg (by omega) ?_))
    have e : j = (rd_L1 a i).length := by omega
    rw [e]; exact hg
  | n + 1, j, h => by
    have ih := list_l1 base i hia hib hw hbd hg n (j + 1) (by omega); have hlen := setRow_le kind i (rd_L1 a i) (rd_L1 b i) j; refine EvP.step (fun k => by rw [dioramaref36_List.l1]) ?_; refine EvP.pos (by omega) (EvP.pos (by omega) (EvP.pos (by omega) (EvP.pos (by omega) (EvP.pos (by omega) (EvP.pos (by omega) ?_))))); rw [w64s j (by omega)]; rw [setRow_snoc, List.map_append, ← List.append_assoc] at ih
    by_cases he : rd (rd_L1 a i) j = rd (rd_L1 b i) j
    (· refine EvP.pos he ?_; have e : setAt kind i (rd_L1 a i) (rd_L1 b i) j = [] := if_pos he.symm; rw [e, List.map_nil, List.append_nil] at ih; exact ih); (· refine EvP.neg he (EvP.pos (by rw [List.length_append, List.length_map]; omega) ?_); have e : setAt kind i (rd_L1 a i) (rd_L1 b i) j = [⟨kind, i, j, rd (rd_L1 a i) j, rd (rd_L1 b i) j, []⟩] := if_neg (fun e => he e.symm); rw [e] at ih; exact ih)
theorem list_l0 (hsa : s ≤ a.length) (hsb : s ≤ b.length) (hs : s ≤ 4611686018427387904) (hw : ∀ i : Nat, i < s → (rd_L1 a i).length ≤ (rd_L1 b i).length ∧ (rd_L1 a i).length ≤ 100000) (hbd : (setAll kind a b s).length ≤ 900000000000)
    (hmon : ∀ i : Nat, i ≤ s → (setAll kind a b i).length ≤ (setAll kind a b s).length)
    (hg : EvP (fun k => dioramaref36_List.l2 k kind a b s ((setAll kind a b s).map toRef) (wrap64 ((a.length : Int) - 1))) R) :
    ∀ n i : Nat, i + n = s → EvP (fun k => dioramaref36_List.l0 k kind a b s ((setAll kind a b i).map toRef) i) R
  | 0, i, h => by
    refine EvP.step (fun k => by rw [dioramaref36_List.l0]) ?_; refine EvP.neg (by omega) ?_
    have e : i = s := by omega
    rw [e]; exact hg
  | n + 1, i, h => by
    have ih := list_l0 hsa hsb hs hw hbd hmon hg n (i + 1) (by omega); have h1 := hw i (by omega); have h2 := hmon i (by omega); refine EvP.step (fun k => by rw [dioramaref36_List.l0]) ?_; refine EvP.pos (by omega) ?_; have := list_l1 kind a b s (R := R) ((setAll kind a b i).map toRef) i (by omega) (by omega) h1.1 (by rw [List.length_map]; omega) ?_ (rd_L1 a i).length 0 (by omega)
    · simpa [setRow] using this
    (· rw [w64s i (by omega)]; rw [setAll_snoc, List.map_append] at ih; exact ih)
theorem list_l2 (base : List S76) (hsa : s ≤ a.length) (ha : a.length ≤ 4000000000) (hbase : base.length ≤ 1000000000000)
    (hg : EvP (fun k => dioramaref36_List.l3 k kind b (base ++ (takeL kind a (a.length - s)).map toRef) s) R) :
    ∀ n j : Nat, j + n = a.length - s → EvP (fun k => dioramaref36_List.l2 k kind a b s (base ++ (takeL kind a j).map toRef) ((a.length : Int) - 1 - j)) R
  | 0, j, h => by
    refine EvP.step (fun k => by rw [dioramaref36_List.l2]) ?_; refine EvP.neg (by omega) ?_
    have e : j = a.length - s := by omega
    rw [e]; exact hg
  | n + 1, j, h => by
    have ih := list_l2 base hsa ha hbase hg n (j + 1) (by omega); refine EvP.step (fun k => by rw [dioramaref36_List.l2]) ?_; refine EvP.pos (by omega) (EvP.pos (by omega) (EvP.pos (by omega) (EvP.pos (by simp [takeL]; omega) ?_))); rw [w64 (by omega) (by omega)]; rw [takeL_snoc, List.map_append, ← List.append_assoc] at ih; rw [show (a.length : Int) - 1 - j - 1 = (a.length : Int) - 1 - ((j + 1 : Nat) : Int) by omega]; exact ih
theorem list_l3 (base : List S76) (hsb : s ≤ b.length) (hb : b.length ≤ 4000000000) (hbase : base.length ≤ 1100000000000)
    (hg : R (base ++ (addL kind b s (b.length - s)).map toRef)) :
    ∀ n j : Nat, j + n = b.length - s → EvP (fun k => dioramaref36_List.l3 k kind b (base ++ (addL kind b s j).map toRef) ((s + j : Nat) : Int)) R
  | 0, j, h => by
    refine EvP.step (fun k => by rw [dioramaref36_List.l3]) ?_; refine EvP.neg (by omega) ?_
    have e : j = b.length - s := by omega
    rw [e]; exact EvP.const hg
  | n + 1, j, h => by
    have ih := list_l3 base hsb hb hbase hg n (j + 1) (by omega); refine EvP.step (fun k => by rw [dioramaref36_List.l3]) ?_; refine EvP.pos (by omega) (EvP.pos (by omega) (EvP.pos (by simp [addL]; omega) ?_)); rw [w64s (s + j) (by omega)]; rw [addL_snoc, List.map_append, ← List.append_assoc] at ih
    have e : (s : Int) + (j : Int) = ((s + j : Nat) : Int) := by omega
    rw [e] at ih; exact ih
end
theorem setAll_mono (kind : Int) (a b : List (List Int)) {i s : Nat} (h : i ≤ s) : (setAll kind a b i).length ≤ (setAll kind a b s).length := by
  induction s with
  | zero => rw [show i = 0 by omega]; exact Nat.le_refl _
  | succ s ih =>
    by_cases e : i = s + 1
    (· rw [e]; exact Nat.le_refl _); (· have := ih (by omega); rw [setAll_snoc kind a b s, List.length_append]; omega)
theorem list_ev (kind : Int) (a b : List (List Int)) (s : Nat) (hsa : s ≤ a.length) (hsb : s ≤ b.length) (ha : a.length ≤ 1000000) (hb : b.length ≤ 1000000) (hw : ∀ i : Nat, i < s → (rd_L1 a i).length ≤ (rd_L1 b i).length ∧ (rd_L1 a i).length ≤ 100000) :
    Ev (fun k => dioramaref36_List.f k kind a b s) ((chgs kind a b s).map toRef) := by
  have hbd : (setAll kind a b s).length ≤ 100000 * s := setAll_le kind a b s (fun i hi => (hw i hi).2); unfold dioramaref36_List.f; have h3 := list_l3 kind b s (R := fun x => x = (chgs kind a b s).map toRef) ((setAll kind a b s).map toRef ++ (takeL kind a (a.length - s)).map toRef) hsb (by omega) (by simp [takeL]; omega) (by simp [chgs]) (b.length - s) 0 (by omega); have h2 := list_l2 kind a b s (R := fun x => x = (chgs kind a b s).map toRef) ((setAll kind a b s).map toRef) hsa (by omega) (by simp; omega) (by simpa [addL] using h3) (a.length - s) 0 (by omega)
  have h0 := list_l0 kind a b s (R := fun x => x = (chgs kind a b s).map toRef) hsa hsb (by omega) hw (by omega) (fun i hi => setAll_mono kind a b hi) (by
    rw [w64 (by omega) (by omega)]
    simpa [takeL] using h2) s 0 (by omega)
  simpa [setAll] using h0
theorem chgs_len (kind : Int) (a b : List (List Int)) (m : Nat) : (chgs kind a b m).length = setsN a b m + (a.length - m) + (b.length - m) := by
  unfold chgs setsN; rw [List.length_append, List.length_append, setAll_len kind 0]
  simp [takeL, addL]
theorem bestOf_chgs (kind : Int) (a b : List (List Int)) : ∀ n : Nat, n ≤ min a.length b.length → (bestOf a b n).1 = ((chgs kind a b (bestOf a b n).2).length : Int)
  | 0, _ => by
    rw [chgs_len]
    simp [bestOf, setsN, setAll]
  | n + 1, h => by
    have ih := bestOf_chgs kind a b n (by omega); rw [bestOf_succ]
    split
    (· simp only [chgs_len]; omega); (· exact ih)
section
variable (l0 l1 : List (List (List Int))) {R : List S76 × Int → Prop}
theorem diff_l1 (x6 : List S76) (n : Nat) (h0 : n < l0.length) (h1 : n < l1.length) (ha : (rd_L2 l0 n).length ≤ 1000000) (hb : (rd_L2 l1 n).length ≤ 1000000)
    (hw : ∀ i : Nat, i < min (rd_L2 l0 n).length (rd_L2 l1 n).length → (rd_L1 (rd_L2 l0 n) i).length ≤ (rd_L1 (rd_L2 l1 n) i).length ∧ (rd_L1 (rd_L2 l0 n) i).length ≤ 100000)
    (hbd : x6.length + (chgs n (rd_L2 l0 n) (rd_L2 l1 n) (sameM (rd_L2 l0 n) (rd_L2 l1 n))).length < 2199023255552)
    (hg : EvP (fun k => dioramaref36_Diff.l0 k l0 l1 (x6 ++ (chgs n (rd_L2 l0 n) (rd_L2 l1 n) (sameM (rd_L2 l0 n) (rd_L2 l1 n))).map toRef) (wrap64 ((n : Int) + 1))) R) :
    ∀ m i : Nat, i + m = min (rd_L2 l0 n).length (rd_L2 l1 n).length → EvP (fun k => dioramaref36_Diff.l1 k l0 l1 x6 n ((chgs n (rd_L2 l0 n) (rd_L2 l1 n) (bestOf (rd_L2 l0 n) (rd_L2 l1 n) i).2).map toRef) ((i + 1 : Nat) : Int)) R := by
  have hj5 : ∀ x9 : Int, EvP (fun k => dioramaref36_Diff.j5 k l0 l1 x6 n ((chgs n (rd_L2 l0 n) (rd_L2 l1 n) (sameM (rd_L2 l0 n) (rd_L2 l1 n))).map toRef) x9 false) R := fun x9 => by
    refine EvP.step (fun k => by rw [dioramaref36_Diff.j5]) ?_; refine EvP.neg (by simp) (EvP.pos (by rw [List.length_map]; exact hbd) ?_); exact hg
  intro m
  induction m with
  | zero =>
    intro i h
    have e : i = min (rd_L2 l0 n).length (rd_L2 l1 n).length := by omega
    have e2 : (bestOf (rd_L2 l0 n) (rd_L2 l1 n) i).2 = sameM (rd_L2 l0 n) (rd_L2 l1 n) := by rw [e]; rfl
    rw [e2]; refine EvP.step (fun k => by rw [dioramaref36_Diff.l1]) ?_; refine EvP.pos (by omega) (EvP.pos (by omega) ?_)
    by_cases hle : ((i + 1 : Nat) : Int) ≤ ((rd_L2 l0 n).length : Int)
    (· refine EvP.pos hle (EvP.pos (by omega) ?_); rw [decide_eq_false (show ¬((i + 1 : Nat) : Int) ≤ ((rd_L2 l1 n).length : Int) by omega)]; exact hj5 _); (· exact EvP.neg hle (hj5 _))
  | succ m ih =>
    intro i h; have ih := ih (i + 1) (by omega); refine EvP.step (fun k => by rw [dioramaref36_Diff.l1]) ?_; refine EvP.pos (by omega) (EvP.pos (by omega) (EvP.pos (by omega) (EvP.pos (by omega) ?_))); rw [decide_eq_true (show ((i + 1 : Nat) : Int) ≤ ((rd_L2 l1 n).length : Int) by omega)]; refine EvP.step (fun k => by rw [dioramaref36_Diff.j5]) ?_; refine EvP.pos rfl (EvP.pos (by omega) (EvP.pos (by omega) (EvP.pos (by omega) ?_))); refine Ev.bind (list_ev n (rd_L2 l0 n) (rd_L2 l1 n) (i + 1) (by omega) (by omega) ha hb (fun q hq => hw q (by omega))) ?_; have hbc := bestOf_chgs n (rd_L2 l0 n) (rd_L2 l1 n) i (by omega); have hcl := chgs_len n (rd_L2 l0 n) (rd_L2 l1 n) (i + 1); rw [bestOf_succ] at ih; rw [w64s (i + 1) (by omega)]
    by_cases hc : (setsN (rd_L2 l0 n) (rd_L2 l1 n) (i + 1) : Int) + (rd_L2 l0 n).length + (rd_L2 l1 n).length - 2 * ((i : Int) + 1) ≤ (bestOf (rd_L2 l0 n) (rd_L2 l1 n) i).1
    (· rw [if_pos hc] at ih; refine EvP.pos (by rw [List.length_map, List.length_map]; omega) ih); (· rw [if_neg hc] at ih; refine EvP.neg (by rw [List.length_map, List.length_map]; omega) ih)
theorem diff_j3 (x6 : List S76) (n : Nat) (h0 : n < l0.length) (h1 : n < l1.length) (ha : (rd_L2 l0 n).length ≤ 1000000) (hb : (rd_L2 l1 n).length ≤ 1000000)
    (hw : ∀ i : Nat, i < min (rd_L2 l0 n).length (rd_L2 l1 n).length → (rd_L1 (rd_L2 l0 n) i).length ≤ (rd_L1 (rd_L2 l1 n) i).length ∧ (rd_L1 (rd_L2 l0 n) i).length ≤ 100000)
    (hbd : x6.length + (chgs n (rd_L2 l0 n) (rd_L2 l1 n) (sameM (rd_L2 l0 n) (rd_L2 l1 n))).length < 2199023255552)
    (hg : EvP (fun k => dioramaref36_Diff.l0 k l0 l1 (x6 ++ (chgs n (rd_L2 l0 n) (rd_L2 l1 n) (sameM (rd_L2 l0 n) (rd_L2 l1 n))).map toRef) (wrap64 ((n : Int) + 1))) R) :
    EvP (fun k => dioramaref36_Diff.j3 k l0 l1 x6 n) R := by
  refine EvP.step (fun k => by rw [dioramaref36_Diff.j3]) ?_; refine EvP.pos (by omega) (EvP.pos (by omega) (EvP.pos (by omega) ?_)); refine Ev.bind (list_ev n (rd_L2 l0 n) (rd_L2 l1 n) 0 (by omega) (by omega) ha hb (fun q hq => by omega)) ?_; exact diff_l1 l0 l1 x6 n h0 h1 ha hb hw hbd hg (min (rd_L2 l0 n).length (rd_L2 l1 n).length) 0 (by omega)
theorem okK_rows (hs0 : shapedB l0 = true) (hs1 : shapedB l1 = true) (n : Nat) (h0 : n < l0.length) (h1 : n < l1.length) (hk : okK l0 l1 n = true) :
    ∀ i : Nat, i < min (rd_L2 l0 n).length (rd_L2 l1 n).length → (rd_L1 (rd_L2 l0 n) i).length ≤ (rd_L1 (rd_L2 l1 n) i).length ∧ (rd_L1 (rd_L2 l0 n) i).length ≤ 100000 := fun i hi => by
  have ra := (shaped_row hs0 n h0).2 i (by omega); have rb := (shaped_row hs1 n h1).2 i (by omega)
  have e : (rd_L1 (rd_L2 l0 n) 0).length = (rd_L1 (rd_L2 l1 n) 0).length := by
    unfold okK at hk; rw [decide_eq_true (show 0 < (rd_L2 l0 n).length by omega), decide_eq_true (show 0 < (rd_L2 l1 n).length by omega)] at hk
    simpa using hk
  omega
theorem diff_l0 (hs0 : shapedB l0 = true) (hs1 : shapedB l1 = true) (hl : l0.length = l1.length) : ∀ m n : Nat, n + m = l0.length → (∀ i, i < n → okK l0 l1 i = true) →
    Ev (fun k => dioramaref36_Diff.l0 k l0 l1 ((diffL l0 l1 n).map toRef) n) (if (List.range l0.length).all (okK l0 l1) = true then ((diffL l0 l1 l0.length).map toRef, 0) else ([], 2))
  | 0, n, h, hok => by
    refine EvP.step (fun k => by rw [dioramaref36_Diff.l0]) ?_; refine EvP.neg (by omega) ?_
    have e : n = l0.length := by omega
    have hall : (List.range l0.length).all (okK l0 l1) = true := by
      rw [List.all_eq_true]; intro i hi; exact hok i (by rw [List.mem_range] at hi; omega)
    rw [e, if_pos hall]; exact EvP.const rfl
  | m + 1, n, h, hok => by
    have h0 : n < l0.length := by omega
    have h1 : n < l1.length := by omega
    have ra := (shaped_row hs0 n h0).1; have rb := (shaped_row hs1 n h1).1; have h6 := shaped_six hs0
    have hj3 : okK l0 l1 n = true → EvP (fun k => dioramaref36_Diff.j3 k l0 l1 ((diffL l0 l1 n).map toRef) n) (fun x => x = if (List.range l0.length).all (okK l0 l1) = true then ((diffL l0 l1 l0.length).map toRef, 0) else ([], 2)) := fun hk => by
      have hbd := diffL_le hs0 hs1 (n + 1) (by omega) (by omega); rw [diffL_snoc, List.length_append] at hbd
      have ih := diff_l0 hs0 hs1 hl m (n + 1) (by omega) (fun i hi => by
        by_cases e : i = n
        (· rw [e]; exact hk)
        · exact hok i (by omega))
      refine diff_j3 l0 l1 _ n h0 h1 (by omega) (by omega) (okK_rows l0 l1 hs0 hs1 n h0 h1 hk) (by rw [List.length_map]; omega) ?_; rw [w64s n (by omega)]; rw [diffL_snoc, List.map_append] at ih; exact ih
    refine EvP.step (fun k => by rw [dioramaref36_Diff.l0]) ?_; refine EvP.pos (by omega) (EvP.pos (by omega) ?_)
    by_cases c0 : (rd_L2 l0 n).length = 0
    · refine EvP.neg (by omega) ?_
      refine EvP.step (fun k => by rw [dioramaref36_Diff.j2]) (EvP.neg (by simp) (hj3 ?_))
      simp [okK, c0]
    refine EvP.pos (by omega) (EvP.pos (by omega) ?_)
    by_cases c1 : (rd_L2 l1 n).length = 0
    · rw [decide_eq_false (show ¬((rd_L2 l1 n).length : Int) > 0 by omega)]
      refine EvP.step (fun k => by rw [dioramaref36_Diff.j2]) (EvP.neg (by simp) (hj3 ?_))
      simp [okK, c1]
    rw [decide_eq_true (show ((rd_L2 l1 n).length : Int) > 0 by omega)]; refine EvP.step (fun k => by rw [dioramaref36_Diff.j2]) (EvP.pos rfl ?_); refine EvP.pos (by omega) (EvP.pos (by omega) (EvP.pos (by omega) (EvP.pos (by omega) (EvP.pos (by omega) ?_))))
    by_cases c2 : (rd_L1 (rd_L2 l0 n) 0).length = (rd_L1 (rd_L2 l1 n) 0).length
    · refine EvP.pos (by omega) (hj3 ?_)
      simp [okK, c2]
    · refine EvP.neg (by omega) (EvP.const ?_)
      have hk : okK l0 l1 n = false := by
        unfold okK; rw [decide_eq_true (show 0 < (rd_L2 l0 n).length by omega), decide_eq_true (show 0 < (rd_L2 l1 n).length by omega)]
        simpa using c2
      rw [if_neg]; intro hall; rw [List.all_eq_true] at hall; have := hall n (List.mem_range.2 h0); rw [hk] at this
      cases this
end
def Fair (l : List (List (List Int))) : Prop := l.length ≤ 1000000 ∧ sumLen l ≤ 1000000000000
theorem refDiff_ev (l0 l1 : List (List (List Int))) (h0 : Fair l0) (h1 : Fair l1) : Ev (fun k => dioramaref36_Diff.f k l0 l1) ((diffR l0 l1).1.map toRef, (diffR l0 l1).2) := by
  obtain ⟨h01, h02⟩ := h0; obtain ⟨h11, h12⟩ := h1; unfold dioramaref36_Diff.f; refine Ev.bind (shaped_ev l0 (by omega) (by omega)) ?_; have hj : EvP (fun k => dioramaref36_Diff.j0 k l0 l1 true) (fun x => x = ([], 2)) := EvP.step (fun k => by rw [dioramaref36_Diff.j0]) (EvP.pos rfl (EvP.const rfl)); unfold diffR
  by_cases s0 : shapedB l0 = true
  · refine EvP.pos s0 ?_
    refine Ev.bind (shaped_ev l1 (by omega) (by omega)) ?_
    by_cases s1 : shapedB l1 = true
    · refine EvP.pos s1 ?_
      by_cases hl : l0.length = l1.length
      · have e : ((l0.length : Int) != (l1.length : Int)) = false := by simp [hl]
        rw [e]; refine EvP.step (fun k => by rw [dioramaref36_Diff.j0]) (EvP.neg (by simp) ?_); have := diff_l0 l0 l1 s0 s1 hl l0.length 0 (by omega) (fun i hi => by omega); refine EvP.mono this ?_; rintro r rfl; rw [s0, s1, decide_eq_true hl, Bool.true_and, Bool.true_and]
        by_cases hall : (List.range l0.length).all (okK l0 l1) = true
        (· rw [if_pos hall, hall]; rfl); (· rw [if_neg hall, if_neg (by simpa using hall)]; rfl)
      · have e : ((l0.length : Int) != (l1.length : Int)) = true := by simp; omega
        rw [e]; refine EvP.mono hj ?_; rintro r rfl
        simp [hl]
    · refine EvP.neg s1 (EvP.mono hj ?_)
      rintro r rfl
      simp [s1]
  · refine EvP.neg s0 (EvP.mono hj ?_)
    rintro r rfl
    simp [s0]
end Go.Proofs.Ytcgpemefmakjiaa.PX
namespace Go.Proofs.Ytcgpemefmakjiaa.PX
open Go.RowKit Go.Proofs.YtcgpemefmakjiaaW.PrintWords Go.Proofs.YtcgpemefmakjiaaW.PrintLast Go.Proofs.YtcgpemefmakjiaaW.PrintMore
set_option linter.unusedVariables false
theorem wf_in64 {x : Int} (h : (Lit.int .i64 x).wf = true) : in64 x = true := by
  simp only [Lit.wf, IntKind.min, IntKind.max, IntKind.signed, IntKind.bits, Bool.and_eq_true, decide_eq_true_eq, if_true] at h; rw [in64_iff]; omega
theorem wf_all {l : List Int} (h : ∀ x ∈ l, (Lit.int .i64 x).wf = true) : l.all in64 = true := by
  rw [List.all_eq_true]
  exact fun x hx => wf_in64 (h x hx)
def ShapeOK (sh : List Int) : Prop := sh.length ≤ 3 ∧ ∀ j : Nat, j < sh.length → 1 ≤ rd sh j ∧ rd sh j ≤ 4
theorem ShapeOK.snoc {acc : List Int} {t : Int} (h : ShapeOK acc) (hl : acc.length ≤ 2) (h0 : 0 ≤ t) (h4 : t < 4) : ShapeOK (acc ++ [1 + t]) := by
  refine ⟨by rw [List.length_append, List.length_singleton]; omega, fun j hj => ?_⟩
  by_cases hja : j < acc.length
  · have e : rd (acc ++ [1 + t]) j = rd acc j := by simp [rd, List.getD_eq_getElem?_getD, List.getElem?_append_left hja]
    rw [e]; exact h.2 j hja
  · have e : j = acc.length := by rw [List.length_append, List.length_singleton] at hj; omega
    have e : rd (acc ++ [1 + t]) j = 1 + t := by simp [rd, List.getD_eq_getElem?_getD, e]
    rw [e]; omega
theorem shape_l0 (x : List Int) (hx : x.all in64 = true) (m : Int) (hm0 : 0 ≤ m) (hm : m < 3) (hat : dioramaref01_At.f x 0 3 = some m) (n : Nat) : ∀ (acc : List Int), (acc.length : Int) + n = 1 + m → ShapeOK acc → EvP (fun k => dioramaref36_Shape.l0 k x acc acc.length) ShapeOK := by
  induction n with
  | zero =>
    intro acc h hok; refine EvP.step (fun k => by rw [dioramaref36_Shape.l0]) (EvP.known hat ?_); rw [w64 (by omega) (by omega)]; exact EvP.neg (by omega) (EvP.const hok)
  | succ n ih =>
    intro acc h hok; refine EvP.step (fun k => by rw [dioramaref36_Shape.l0]) (EvP.known hat ?_); rw [w64 (x := 1 + m) (by omega) (by omega)]; obtain ⟨e1, e2, e3⟩ := atv_spec x (wrap64 (1 + (acc.length : Int))) 4 hx; refine EvP.pos (by omega) (EvP.known e1 (EvP.pos (by omega) ?_)); generalize atv x (wrap64 (1 + (acc.length : Int))) 4 = t at e2 e3; replace e3 := e3 (by omega); have ih := ih (acc ++ [1 + t]) (by rw [List.length_append, List.length_singleton]; omega) (hok.snoc (by omega) e2 e3); rw [List.length_append, List.length_singleton] at ih; rw [w64s acc.length (by omega), w64 (x := 1 + t) (by omega) (by omega)]; exact ih
theorem shape_ev (x : List Int) (hx : x.all in64 = true) : EvP (fun k => dioramaref36_Shape.f k x) ShapeOK := by
  obtain ⟨e1, e2, e3⟩ := atv_spec x 0 3 hx; unfold dioramaref36_Shape.f; exact shape_l0 x hx (atv x 0 3) e2 (e3 (by decide)) e1 (1 + atv x 0 3).toNat [] (by simp; omega) ⟨by simp, fun j hj => by simp at hj⟩
def WorldOK (sh : List Int) (w : Wd) : Prop := w.length = sh.length ∧ ∀ (j : Nat) rows, w[j]? = some rows → rows.length ≤ 6 ∧ ∀ r ∈ rows, (r.length : Int) = rd sh j
section
variable (sh x : List Int) (hx : x.all in64 = true) (hs : ShapeOK sh) {R : Wd → Prop}
include hx hs
theorem world_l2 (j : Nat) (hj : j < sh.length) (x5 : Wd) (x6 : Int) (x8 : List (List Int)) (x9 : Int) (h8 : x8.length ≤ 5) (hg : ∀ row : List Int, (row.length : Int) = rd sh j → EvP (fun k => dioramaref36_World.l1 k sh x x5 x6 j (x8 ++ [row]) (wrap64 (x9 + 1))) R) :
    ∀ (n : Nat) (row : List Int), (row.length : Int) + n = rd sh j → EvP (fun k => dioramaref36_World.l2 k sh x x5 x6 j x8 x9 row row.length) R
  | 0, row, h => by
    refine EvP.step (fun k => by rw [dioramaref36_World.l2]) ?_; exact EvP.pos (by omega) (EvP.pos (by omega) (EvP.neg (by omega) (EvP.pos (by omega) (hg row (by omega)))))
  | n + 1, row, h => by
    have hb := hs.2 j hj; refine EvP.step (fun k => by rw [dioramaref36_World.l2]) ?_; refine EvP.pos (by omega) (EvP.pos (by omega) (EvP.pos (by omega) (EvP.known (atv_spec x _ 3 hx).1 (EvP.pos (by omega) ?_)))); generalize atv x _ 3 = t; have ih := world_l2 j hj x5 x6 x8 x9 h8 hg n (row ++ [t]) (by simp; omega); rw [List.length_append, List.length_singleton] at ih; rw [w64s row.length (by omega)]; exact ih
theorem world_l1 (j : Nat) (hj : j < sh.length) (x5 : Wd) (h5 : x5.length = j) (x6 : Int) (hg : ∀ rows : List (List Int), rows.length ≤ 4 → (∀ r ∈ rows, (r.length : Int) = rd sh j) → EvP (fun k => dioramaref36_World.l0 k sh x (x5 ++ [rows]) (wrap64 (x6 + 17)) (wrap64 ((j : Int) + 1))) R) :
    ∀ (n : Nat) (rows : List (List Int)), rows.length + n = 4 → (∀ r ∈ rows, (r.length : Int) = rd sh j) → EvP (fun k => dioramaref36_World.l1 k sh x x5 x6 j rows rows.length) R := by
  obtain ⟨e1, e2, e3⟩ := atv_spec x x6 5 hx; replace e3 := e3 (by decide); intro n
  induction n with
  | zero =>
    intro rows h hr; refine EvP.step (fun k => by rw [dioramaref36_World.l1]) (EvP.known e1 ?_); have := hs.1; exact EvP.neg (by omega) (EvP.pos (by omega) (hg rows (by omega) hr))
  | succ n ih =>
    intro rows h hr; refine EvP.step (fun k => by rw [dioramaref36_World.l1]) (EvP.known e1 ?_); have := hs.1
    by_cases hc : (rows.length : Int) < atv x x6 5
    · refine EvP.pos hc ?_
      have hb := hs.2 j hj; refine world_l2 sh x hx hs j hj x5 x6 rows rows.length (by omega) (fun row hrow => ?_) (rd sh j).toNat [] (by simp; omega)
      have := ih (rows ++ [row]) (by simp; omega) (fun r hr' => by
        rcases List.mem_append.1 hr' with h | h
        (· exact hr r h)
        · rw [List.mem_singleton.1 h]; exact hrow)
      rw [List.length_append, List.length_singleton] at this; rw [w64s rows.length (by omega)]; exact this
    (· exact EvP.neg hc (EvP.pos (by omega) (hg rows (by omega) hr)))
theorem world_l0 : ∀ (n : Nat) (x5 : Wd) (x6 : Int), x5.length + n = sh.length → (∀ (j : Nat) rows, x5[j]? = some rows → rows.length ≤ 4 ∧ ∀ r ∈ rows, (r.length : Int) = rd sh j) → EvP (fun k => dioramaref36_World.l0 k sh x x5 x6 x5.length) (fun w => w.length = sh.length ∧ ∀ (j : Nat) rows, w[j]? = some rows → rows.length ≤ 4 ∧ ∀ r ∈ rows, (r.length : Int) = rd sh j)
  | 0, x5, x6, h, hok => by
    refine EvP.step (fun k => by rw [dioramaref36_World.l0]) ?_; exact EvP.neg (by omega) (EvP.const ⟨by omega, hok⟩)
  | n + 1, x5, x6, h, hok => by
    have h3 := hs.1; refine EvP.step (fun k => by rw [dioramaref36_World.l0]) ?_; refine EvP.pos (by omega) ?_; refine world_l1 sh x hx hs x5.length (by omega) x5 rfl x6 (fun rows h4 hr => ?_) 4 [] rfl (fun r hr => by simp at hr)
    have := world_l0 n (x5 ++ [rows]) (wrap64 (x6 + 17)) (by simp; omega) (fun j rows' hj => by
      by_cases hjl : j < x5.length
      (· rw [List.getElem?_append_left hjl] at hj; exact hok j rows' hj)
      · have e : j = x5.length := by have := (List.getElem?_eq_some_iff.1 hj).1; simp at this; omega
        subst e
        simp at hj
        subst hj
        exact ⟨h4, hr⟩)
    rw [List.length_append, List.length_singleton] at this; rw [w64s x5.length (by omega)]; exact this
theorem world_ev : EvP (fun k => dioramaref36_World.f k sh x) (WorldOK sh) := by
  unfold dioramaref36_World.f; refine EvP.mono (world_l0 sh x hx hs sh.length [] 0 (by simp) (fun j rows hj => by simp at hj)) ?_; rintro w ⟨h1, h2⟩; exact ⟨h1, fun j rows hj => ⟨by have := (h2 j rows hj).1; omega, (h2 j rows hj).2⟩⟩
end
theorem WorldOK.set {sh : List Int} {w : Wd} {k : Nat} {rows : List (List Int)} (h : WorldOK sh w) (h6 : rows.length ≤ 6) (hr : ∀ r ∈ rows, (r.length : Int) = rd sh k) : WorldOK sh (w.set k rows) := by
  refine ⟨by rw [List.length_set]; exact h.1, fun j rows' hj => ?_⟩
  by_cases e : k = j
  (· subst e; have hl := (List.getElem?_eq_some_iff.1 hj).1; rw [List.length_set] at hl; rw [List.getElem?_set_self hl] at hj; obtain rfl := Option.some.inj hj; exact ⟨h6, hr⟩); (· rw [List.getElem?_set_ne e] at hj; exact h.2 j rows' hj)
theorem nearStep_ok (sh l : List Int) (hl : l.all in64 = true) (hs : ShapeOK sh) (i : Int) (w : Wd) (hw : WorldOK sh w) (hp : 0 < w.length) : ∃ w', nearStep sh l i w = some w' ∧ WorldOK sh w' := by
  obtain ⟨_, k0, k1⟩ := atv_spec l (3 * i) w.length hl; replace k1 := k1 (by omega); have hk := rd_L2_at w (atv l (3 * i) w.length) k0 k1; obtain ⟨h6, hr⟩ := hw.2 _ _ hk; have hsh := hs.2 (atv l (3 * i) w.length).toNat (by have := hw.1; omega)
  have hrd : rd sh ((atv l (3 * i) w.length).toNat : Int) = rd sh (atv l (3 * i) w.length) := by congr 1; omega
  unfold nearStep; generalize atv l (3 * i) w.length = kz at k0 k1 hk h6 hr hsh hrd; generalize rd_L2 w kz = rows at hk h6 hr
  split
  (· exact ⟨_, rfl, hw.set (by rw [List.length_take]; omega) (fun r hr' => hr r (List.mem_of_mem_take hr'))⟩)
  · split
    · rw [if_pos (by omega)]
      refine ⟨_, rfl, hw.set (by rw [List.length_append, List.length_singleton]; omega) (fun r hr' => ?_)⟩
      rcases List.mem_append.1 hr' with h | h
      (· exact hr r h); (· rw [List.mem_singleton.1 h, List.length_replicate]; omega)
    · split
      · next h0 =>
        obtain ⟨_, j0, j1⟩ := atv_spec l (3 * i + 2) rows.length hl; replace j1 := j1 (by omega); have hj := rd_L1_at rows _ j0 j1; have hjr := hr _ (List.mem_of_getElem? hj); rw [if_neg (by omega)]; refine ⟨_, rfl, hw.set (by rw [List.length_set]; exact h6) (fun r hr' => ?_)⟩
        rcases List.mem_or_eq_of_mem_set hr' with h | h
        (· exact hr r h); (· rw [h, List.length_set]; exact hjr)
      (· exact ⟨_, rfl, hw⟩)
theorem nearLoop_ok (sh l : List Int) (hl : l.all in64 = true) (hs : ShapeOK sh) : ∀ (m : Nat) (i : Int) (w : Wd), WorldOK sh w → ∃ w', nearLoop sh l m i w = some w' ∧ WorldOK sh w'
  | 0, i, w, hw => ⟨w, rfl, hw⟩
  | m + 1, i, w, hw => by
    unfold nearLoop
    split
    · next h =>
      obtain ⟨w', e, hw'⟩ := nearStep_ok sh l hl hs i w hw h.2; rw [e]; exact nearLoop_ok sh l hl hs m (i + 1) w' hw'
    (· exact ⟨w, rfl, hw⟩)
theorem WorldOK.small {sh : List Int} {w : Wd} (hs : ShapeOK sh) (hw : WorldOK sh w) : smallB w = true := by
  unfold smallB; simp only [Bool.and_eq_true, decide_eq_true_eq, List.all_eq_true]; refine ⟨by have := hw.1; have := hs.1; omega, fun rows hrows => ?_⟩; obtain ⟨j, hj, e⟩ := List.getElem_of_mem hrows; obtain ⟨h6, hr⟩ := hw.2 j rows (by rw [List.getElem?_eq_getElem hj, e]); refine ⟨by omega, fun r hr' => ?_⟩; have := hr r hr'; have := hs.2 j (by have := hw.1; omega); omega
theorem near_ok (sh l : List Int) (hl : l.all in64 = true) (hm : l.length ≤ 4611686018427387904) (hs : ShapeOK sh) (w : Wd) (hw : WorldOK sh w) : ∃ w', dioramaref36_Near.f w sh l = some w' ∧ WorldOK sh w' := by
  obtain ⟨w', e, hw'⟩ := nearLoop_ok sh l hl hs 4 0 w hw; refine ⟨w', ?_, hw'⟩; unfold dioramaref36_Near.f; rw [hw.small hs, hl, decide_eq_true hm]; exact e
def Tidy (w : Wd) : Prop := w.length ≤ 1000 ∧ ∀ rows ∈ w, rows.length ≤ 1000
theorem Tidy.sum : ∀ {w : Wd}, (∀ rows ∈ w, rows.length ≤ 1000) → sumLen w ≤ 1000 * w.length
  | [], _ => by simp [sumLen]
  | r :: w, h => by
    have ih := Tidy.sum (w := w) (fun rows hr => h rows (List.mem_cons_of_mem _ hr)); have h1 := h r List.mem_cons_self
    have e : sumLen (r :: w) = r.length + sumLen w := by simp [sumLen]
    rw [e, List.length_cons]; omega
theorem WorldOK.tidy {sh : List Int} {w : Wd} (hs : ShapeOK sh) (hw : WorldOK sh w) : Tidy w := by
  refine ⟨by have := hw.1; have := hs.1; omega, fun rows hrows => ?_⟩; obtain ⟨j, hj, e⟩ := List.getElem_of_mem hrows; have := (hw.2 j rows (by rw [List.getElem?_eq_getElem hj, e])).1; omega
theorem Tidy.set {w : Wd} {k : Nat} {rows : List (List Int)} (h : Tidy w) (hr : rows.length ≤ 1000) : Tidy (w.set k rows) := by
  refine ⟨by rw [List.length_set]; exact h.1, fun r hr' => ?_⟩
  rcases List.mem_or_eq_of_mem_set hr' with h' | h'
  (· exact h.2 r h'); (· rw [h']; exact hr)
theorem odd_tidy {sh : List Int} {w : Wd} (hs : ShapeOK sh) (hw : WorldOK sh w) (a h b : Int) (ha : in64 a = true) (hh : in64 h = true) (hb : in64 b = true) : Tidy (oddR w a h b) := by
  have ht := hw.tidy hs; have hl := hw.1; have h3 := hs.1; unfold oddR
  split
  · refine ⟨by simp, fun rows hr => ?_⟩
    rw [List.mem_singleton.1 hr]
    simp
  next h0 =>
  obtain ⟨_, k0, k1⟩ := arv_spec a w.length ha; replace k1 := k1 (by omega); have h6 := (hw.2 _ _ (rd_L2_at w (arv a w.length) k0 k1)).1; obtain ⟨_, b0, b1⟩ := arv_spec b 5 hb; replace b1 := b1 (by decide)
  split
  (· exact ht.set (by rw [List.length_append, List.length_singleton]; omega))
  split
  · refine ⟨by rw [List.length_append]; simp; omega, fun rows hr => ?_⟩
    rcases List.mem_append.1 hr with h | h
    (· exact ht.2 rows h)
    · simp at h
      rw [h]
      simp
  split
  (· exact ⟨by rw [List.length_take]; omega, fun rows hr => ht.2 rows (List.mem_of_mem_take hr)⟩)
  split
  (· exact ht.set (by rw [List.length_append, List.length_replicate]; omega))
  split
  (· exact ht.set (by simp)); (· exact ht.set (by simp))
end Go.Proofs.Ytcgpemefmakjiaa.PX
namespace Go.Proofs.Ytcgpemefmakjiaa.PX
open Go.RowKit Go.Proofs.YtcgpemefmakjiaaW.PrintWords Go.Proofs.YtcgpemefmakjiaaW.PrintLast Go.Proofs.YtcgpemefmakjiaaW.PrintMore
set_option linter.unusedVariables false
theorem shaped_wide10 {l : Wd} (h : shapedB l = true) (k i : Int) : (rd_L1 (rd_L2 l k) i).length ≤ 10 := by
  by_cases hk : k.toNat < l.length
  · have hm : rd_L2 l k ∈ l := by
      simp only [rd_L2, List.getD_eq_getElem?_getD, List.getElem?_eq_getElem hk, Option.getD_some]; exact List.getElem_mem hk
    by_cases hi : i.toNat < (rd_L2 l k).length
    · have hm2 : rd_L1 (rd_L2 l k) i ∈ rd_L2 l k := by
        simp only [rd_L1, List.getD_eq_getElem?_getD, List.getElem?_eq_getElem hi, Option.getD_some]; exact List.getElem_mem hi
      unfold shapedB at h; simp only [Bool.and_eq_true, List.all_eq_true] at h; have h1 := h.1.1 _ hm; simp only [Bool.not_eq_true', anyBad, List.any_eq_false] at h1; have h2 := h1 _ hm2
      simp [badLen] at h2
      omega
    · have e : rd_L1 (rd_L2 l k) i = [] := by simp only [rd_L1, List.getD_eq_getElem?_getD, List.getElem?_eq_none (Nat.not_lt.1 hi), Option.getD_none]
      rw [e]
      simp
  · have e : rd_L2 l k = [] := by simp only [rd_L2, List.getD_eq_getElem?_getD, List.getElem?_eq_none (Nat.not_lt.1 hk), Option.getD_none]
    have e2 : rd_L1 (rd_L2 l k) i = [] := by rw [e]; rfl
    rw [e2]
    simp
theorem chgs_wide {kind : Int} {a b : List (List Int)} {m : Nat} {c : S61} (h : c ∈ chgs kind a b m) : c.f5 = [] ∨ (∃ i : Int, c.f5 = rd_L1 a i) ∨ ∃ i : Int, c.f5 = rd_L1 b i := by
  unfold chgs at h; rw [List.mem_append, List.mem_append] at h
  rcases h with (h | h) | h
  · unfold setAll setRow at h
    rw [List.mem_flatMap] at h; obtain ⟨i, _, h⟩ := h; rw [List.mem_flatMap] at h; obtain ⟨j, _, h⟩ := h; unfold setAt at h
    split at h
    · cases h
    (· rw [List.mem_singleton.1 h]; exact .inl rfl)
  (· unfold takeL at h; rw [List.mem_map] at h; obtain ⟨q, _, rfl⟩ := h; exact .inr (.inl ⟨_, rfl⟩)); (· unfold addL at h; rw [List.mem_map] at h; obtain ⟨q, _, rfl⟩ := h; exact .inr (.inr ⟨_, rfl⟩))
theorem diffR_len (l0 l1 : Wd) : (diffR l0 l1).1.length < 2199023255552 := by
  unfold diffR
  split
  · next h =>
    simp only [Bool.and_eq_true, decide_eq_true_eq] at h; have := diffL_le h.1.1.1 h.1.1.2 l0.length (Nat.le_refl _) (by omega); have := shaped_six h.1.1.1; simp only; omega
  · simp
theorem diffR_wide (l0 l1 : Wd) : ∀ c ∈ (diffR l0 l1).1, c.f5.length ≤ 10 := by
  unfold diffR
  split
  · next h =>
    simp only [Bool.and_eq_true, decide_eq_true_eq] at h; intro c hc; simp only [diffL, List.mem_flatMap] at hc; obtain ⟨k, _, hc⟩ := hc
    rcases chgs_wide hc with e | ⟨i, e⟩ | ⟨i, e⟩
    (· rw [e]; simp); (· rw [e]; exact shaped_wide10 h.1.1.1 _ _); (· rw [e]; exact shaped_wide10 h.1.1.2 _ _)
  · intro c hc
    cases hc
theorem Tidy.fair {w : Wd} (h : Tidy w) : Fair w ∧ sumLen w < 4611686018427387904 := by
  have := Tidy.sum h.2; have := h.1; refine ⟨⟨by omega, by omega⟩, by omega⟩
theorem rd_L3_nat (xs : List Wd) (i : Nat) (h : i < xs.length) : rd_L3 xs i = xs[i] := by simp [rd_L3, List.getD_eq_getElem?_getD, h]
theorem toRef_sameAll (l : List S61) (hl : l.length < 2199023255552) (hv : ∀ c ∈ l, c.f5.length ≤ 10) : Ev (fun k => dioramaref36_SameAll.f k (l.map toRef) (l.map toRef)) true :=
  sameAll_ev _ (by rw [List.length_map]; omega) (fun c hc => by
    rw [List.mem_map] at hc; obtain ⟨d, hd, rfl⟩ := hc; have := hv d hd
    show d.f5.length ≤ _
    omega)
theorem finds_l1 (ws : List Wd) (hws : ∀ w ∈ ws, Tidy w) (hl : ws.length = 6) (i : Nat) (hi : i < 6) (hg : Ev (fun k => dioramalaw36_DiffFinds.l0 k ws ((i + 1 : Nat) : Int)) true) (n : Nat) : ∀ j : Nat, j + n = 6 → Ev (fun k => dioramalaw36_DiffFinds.l1 k ws i j) true := by
  induction n with
  | zero =>
    intro j h; refine EvP.step (fun k => by rw [dioramalaw36_DiffFinds.l1]) (EvP.neg (by omega) ?_); rw [w64s i (by omega)]; exact hg
  | succ n ih =>
    intro j h; refine EvP.step (fun k => by rw [dioramalaw36_DiffFinds.l1]) ?_; refine EvP.pos (by omega) (EvP.pos (by omega) (EvP.pos (by omega) (EvP.pos (by omega) ?_))); rw [rd_L3_nat ws i (by omega), rd_L3_nat ws j (by omega), w64s j (by omega)]; have hx := (hws ws[i] (List.getElem_mem _)).fair; have hy := (hws ws[j] (List.getElem_mem _)).fair; generalize ws[i] = x at hx; generalize ws[j] = y at hy; refine EvP.known (r := diffR x y) (by unfold diff_Diff.f; rw [if_pos ⟨hx.2, hy.2⟩]) ?_; refine Ev.bind (refDiff_ev x y hx.1 hy.1) (EvP.pos rfl ?_); refine Ev.bind (plain_ev _ (diffR_len x y)) ?_; exact Ev.bind (toRef_sameAll _ (diffR_len x y) (diffR_wide x y)) (EvP.pos rfl (ih (j + 1) (by omega)))
theorem finds_l0 (ws : List Wd) (hws : ∀ w ∈ ws, Tidy w) (hl : ws.length = 6) (n : Nat) : ∀ i : Nat, i + n = 6 → Ev (fun k => dioramalaw36_DiffFinds.l0 k ws i) true := by
  induction n with
  | zero =>
    intro i h; refine EvP.step (fun k => by rw [dioramalaw36_DiffFinds.l0]) (EvP.neg (by omega) ?_); exact EvP.known (r := true) rfl (EvP.const rfl)
  | succ n ih =>
    intro i h; refine EvP.step (fun k => by rw [dioramalaw36_DiffFinds.l0]) (EvP.pos (by omega) ?_); exact finds_l1 ws hws hl i (by omega) (ih (i + 1) (by omega)) 6 0 rfl
end Go.Proofs.Ytcgpemefmakjiaa.PX
namespace Go.Proofs.Ytcgpemefmakjiaa.Pure
open Go.RowKit Go.Proofs.Ytcgpemefmakjiaa.PX Go.Proofs.YtcgpemefmakjiaaW.PrintWords Go.Proofs.YtcgpemefmakjiaaW.PrintLast
theorem DiffFinds : dioramalaw36_DiffFinds.Pure := by
  intro l0 l1 l2 a3 a4 a5 _ _ w0 _ _ w1 _ m2 w2 w3 w4 w5; have i0 := wf_all w0; have i1 := wf_all w1; have i2 := wf_all w2; refine Ev.at_ (F := fun k => dioramalaw36_DiffFinds.f k l0 l1 l2 a3 a4 a5) (r := true) ?_; unfold dioramalaw36_DiffFinds.f; refine EvP.bind (shape_ev l0 i0) (fun s hs => ?_); refine EvP.bind (world_ev s l0 i0 hs) (fun a ha => ?_); refine EvP.bind (world_ev s l1 i1 hs) (fun b hb => ?_); obtain ⟨near, hn, hnear⟩ := near_ok s l2 i2 (by omega) hs a ha; refine EvP.known hn ?_; refine EvP.bind (shape_ev l1 i1) (fun t ht => ?_); refine EvP.bind (world_ev t l1 i1 ht) (fun c hc => ?_); have i3 := wf_in64 w3; have i4 := wf_in64 w4; have i5 := wf_in64 w5; refine EvP.known (r := oddR a a3 a4 a5) (by unfold dioramalaw36_odd.f; rw [ha.small hs, i3, i4, i5]; rfl) ?_; have ho := odd_tidy hs ha a3 a4 a5 i3 i4 i5
  have := finds_l0 [a, b, near, c, oddR a a3 a4 a5, []] (fun w hw => by
    simp only [List.mem_cons, List.not_mem_nil, or_false] at hw
    rcases hw with rfl | rfl | rfl | rfl | rfl | rfl
    (· exact ha.tidy hs); (· exact hb.tidy hs); (· exact hnear.tidy hs); (· exact hc.tidy ht); (· exact ho)
    · exact ⟨by simp, fun rows hr => by cases hr⟩) rfl 6 0 rfl
  exact this
end Go.Proofs.Ytcgpemefmakjiaa.Pure
namespace Go.Proofs.Ytcgpemefmakjiaa.diffFinds
open Go.ChangeShapes Go.WideShapes Go.ChangeAt Go.RowKit
open Go.ChangeMaps (open_string shut_string)
set_option linter.unusedVariables false
theorem own : ownKnob Try.prog.godebug = none := by kernel_rfl
theorem laidOut : laidOutB Try.prog = true := by kernel_rfl
def IsRow (k : IntKind) (w : World) (a : Option Addr) (len cap : Nat) (zs : List Int) : Prop :=
  (a = none ∧ len = 0 ∧ cap = 0 ∧ zs = []) ∨
  ∃ x, a = some x ∧ len ≤ cap ∧ cap ≤ maxLen ∧ zs.length = cap ∧ (∀ i, i < zs.length → w.cell? (x.add i) = some (.int k (zs.getD i 0))) ∧ ∀ n ∈ zs, (Lit.int k n).wf = true
set_option maxRecDepth 100000 in
theorem lifted (os : Os) (started : os.Started) (H : Type) (enc : TypeId × Value → H) :
    ReturnsInHanded {} Try.checked os 3 .any (Rows.diffFindsSpec.pre6 enc Try.prog Try.f3 Rows.diffFindsRow.domain false) (Rows.diffFindsSpec.post enc Try.prog Try.f3 false true false false) := by
  refine returnsInHanded_of_change_sized (C := Try.checked) own started (by kernel_rfl) Try.func3
    (ChangeSpec.witness6 (enc := enc) (C := Try.checked) false ⟨#[], #[.slice none 0 0, .slice none 0 0, .slice none 0 0, .int .i64 0, .int .i64 0, .int .i64 0], []⟩ 8 (by kernel_rfl) (by kernel_rfl) (by kernel_rfl) (by kernel_rfl)) ?_
  intro W base args ds gs before hval0 hW hcnd hsz0 _; have hsz : (DataW.weightsEach Try.prog (Try.f3.params.toList ++ Rows.diffFindsSpec.plain.varTypes Try.prog) (ds ++ gs)).all (· ≤ reachBytes) = true := hsz0; have hval : ∀ (j : Nat) t v, Try.f3.params[j]? = some t → args[j]? = some v → Value.okWide Try.prog W .any base t v := hval0; have hW' := hW; obtain ⟨p, q, hA0, hV, rfl, hfz, hnd⟩ := hW; have hA : DataW.TrodAll enc Try.prog W 0 (fun _ => true) true Try.f3.params.toList args.toList ds p := hA0; rw [Try.params3] at hA hval hsz; obtain ⟨v0, vs0, d0, ds0, p0, q0, hargs, rfl, rfl, h0, r0⟩ := trodAll_cons hA; obtain ⟨v1, vs1, d1, ds1, p1, q1, rfl, rfl, rfl, h1, r1⟩ := trodAll_cons r0; obtain ⟨v2, vs2, d2, ds2, p2, q2, rfl, rfl, rfl, h2, r2⟩ := trodAll_cons r1; obtain ⟨v3, vs3, d3, ds3, p3, q3, rfl, rfl, rfl, h3, r3⟩ := trodAll_cons r2; obtain ⟨v4, vs4, d4, ds4, p4, q4, rfl, rfl, rfl, h4, r4⟩ := trodAll_cons r3; obtain ⟨v5, vs5, d5, ds5, p5, q5, rfl, rfl, rfl, h5, r5⟩ := trodAll_cons r4; obtain ⟨rfl, rfl, rfl⟩ := trodAll_nil r5
  obtain rfl : args = #[v0, v1, v2, v3, v4, v5] := by cases args; simp_all
  obtain ⟨rfl, rfl⟩ := trodVars_none hV; obtain ⟨a0, len0, cap0, rfl⟩ := okWide_slice Try.underlying22 (hval 0 22 v0 rfl rfl); have k0 := h0
  have lt0 : ∀ x ∈ p0, x.block < W.heap.size := by obtain ⟨m, hm⟩ := k0; exact DataW.trod_lt m _ _ _ hm
  obtain ⟨z0, w0⟩ : ∃ zs, IsRow .i64 W a0 len0 cap0 zs := by
    obtain ⟨fuel, hf⟩ := h0
    rcases open_ints Try.underlying22 Try.underlying3 (by kernel_rfl) hf with ⟨hcs, _⟩ | ⟨x, l, c, zs, hcs, _, hl, hm, hz, _, hcell, hwz⟩
    · simp [Value.cells] at hcs
      obtain ⟨rfl, rfl, rfl⟩ := hcs; exact ⟨[], .inl ⟨rfl, rfl, rfl, rfl⟩⟩
    · simp [Value.cells] at hcs
      obtain ⟨rfl, rfl, rfl⟩ := hcs; exact ⟨zs, .inr ⟨_, rfl, hl, hm, by simpa using hz, hcell, hwz⟩⟩
  have y0 : len0 * 8 ≤ 140737488351232 := Go.Proofs.YtcgpemefmakjiaaW.PrintWords.sized_ints hsz (j := 0) (t := 22) rfl rfl Try.underlying22 Try.underlying3 (by kernel_rfl) (by kernel_rfl) h0; obtain ⟨a1, len1, cap1, rfl⟩ := okWide_slice Try.underlying22 (hval 1 22 v1 rfl rfl); have k1 := h1
  have lt1 : ∀ x ∈ p1, x.block < W.heap.size := by obtain ⟨m, hm⟩ := k1; exact DataW.trod_lt m _ _ _ hm
  obtain ⟨z1, w1⟩ : ∃ zs, IsRow .i64 W a1 len1 cap1 zs := by
    obtain ⟨fuel, hf⟩ := h1
    rcases open_ints Try.underlying22 Try.underlying3 (by kernel_rfl) hf with ⟨hcs, _⟩ | ⟨x, l, c, zs, hcs, _, hl, hm, hz, _, hcell, hwz⟩
    · simp [Value.cells] at hcs
      obtain ⟨rfl, rfl, rfl⟩ := hcs; exact ⟨[], .inl ⟨rfl, rfl, rfl, rfl⟩⟩
    · simp [Value.cells] at hcs
      obtain ⟨rfl, rfl, rfl⟩ := hcs; exact ⟨zs, .inr ⟨_, rfl, hl, hm, by simpa using hz, hcell, hwz⟩⟩
  have y1 : len1 * 8 ≤ 140737488351232 := Go.Proofs.YtcgpemefmakjiaaW.PrintWords.sized_ints hsz (j := 1) (t := 22) rfl rfl Try.underlying22 Try.underlying3 (by kernel_rfl) (by kernel_rfl) h1; obtain ⟨a2, len2, cap2, rfl⟩ := okWide_slice Try.underlying22 (hval 2 22 v2 rfl rfl); have k2 := h2
  have lt2 : ∀ x ∈ p2, x.block < W.heap.size := by obtain ⟨m, hm⟩ := k2; exact DataW.trod_lt m _ _ _ hm
  obtain ⟨z2, w2⟩ : ∃ zs, IsRow .i64 W a2 len2 cap2 zs := by
    obtain ⟨fuel, hf⟩ := h2
    rcases open_ints Try.underlying22 Try.underlying3 (by kernel_rfl) hf with ⟨hcs, _⟩ | ⟨x, l, c, zs, hcs, _, hl, hm, hz, _, hcell, hwz⟩
    · simp [Value.cells] at hcs
      obtain ⟨rfl, rfl, rfl⟩ := hcs; exact ⟨[], .inl ⟨rfl, rfl, rfl, rfl⟩⟩
    · simp [Value.cells] at hcs
      obtain ⟨rfl, rfl, rfl⟩ := hcs; exact ⟨zs, .inr ⟨_, rfl, hl, hm, by simpa using hz, hcell, hwz⟩⟩
  have y2 : len2 * 8 ≤ 140737488351232 := Go.Proofs.YtcgpemefmakjiaaW.PrintWords.sized_ints hsz (j := 2) (t := 22) rfl rfl Try.underlying22 Try.underlying3 (by kernel_rfl) (by kernel_rfl) h2; obtain ⟨a3, rfl, rfl, rfl, w3⟩ := open_int Try.underlying3 (hval 3 3 v3 rfl rfl) h3; obtain ⟨a4, rfl, rfl, rfl, w4⟩ := open_int Try.underlying3 (hval 4 3 v4 rfl rfl) h4; obtain ⟨a5, rfl, rfl, rfl, w5⟩ := open_int Try.underlying3 (hval 5 3 v5 rfl rfl) h5; clear hA0 hval0 hsz0 hsz
  refine (PX.dioramalaw36_DiffFinds.walk Pure.DiffFinds a0 len0 cap0 z0 a1 len1 cap1 z1 a2 len2 cap2 z2 a3 a4 a5 W w0 y0 w1 y1 w2 y2 w3 w4 w5).mono fun e W' ⟨he, bel⟩ => ?_
  subst he; exact ⟨_, rfl, _, _, _, [], _, [], hW', trodAll_mk1 (shut_bool Try.underlying4 _), (trodAll_cons_mk (Below.trod laidOut (by kernel_rfl) (of_decide_eq_true (by kernel_rfl)) k0 bel lt0) (trodAll_cons_mk (Below.trod laidOut (by kernel_rfl) (of_decide_eq_true (by kernel_rfl)) k1 bel lt1) (trodAll_cons_mk (Below.trod laidOut (by kernel_rfl) (of_decide_eq_true (by kernel_rfl)) k2 bel lt2) (trodAll_cons_mk (shut_int Try.underlying3 w3) (trodAll_cons_mk (shut_int Try.underlying3 w4) (trodAll_cons_mk (shut_int Try.underlying3 w5) trodAll_mk0)))))), rfl, bel.frame _, fun h => by cases h⟩
theorem over : Rows.diffFindsRow.holds Try.pinned (OpenSpec.ofChange Rows.diffFindsSpec) :=
  OpenClaim.holds_of_wide 3 Try.f3 rfl rfl rfl rfl rfl rfl rfl ⟨rfl, rfl, rfl, rfl, rfl⟩ rfl rfl rfl rfl rfl (by kernel_rfl) Try.func3 (by kernel_rfl)
    (of_decide_eq_true (by kernel_rfl)) (by unfold Func.isWrapper; first | (rw [if_pos (by decide +kernel)]; kernel_rfl) | (rw [if_neg (by decide +kernel)]; exact ⟨rfl, rfl⟩))
    (fun os started H enc _ => lifted os started H enc)
theorem proved : Rows.DiffFindsSaid := over
end Go.Proofs.Ytcgpemefmakjiaa.diffFinds
namespace Go.Proofs.Ytcgpemefmakjiaa
theorem diffFinds_holds : Rows.DiffFindsSaid := diffFinds.proved
end Go.Proofs.Ytcgpemefmakjiaa

