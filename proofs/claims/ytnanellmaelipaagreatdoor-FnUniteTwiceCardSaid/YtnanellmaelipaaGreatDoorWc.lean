/-
  Joined by program (merge.py): Nd, Ga, Gb, Gc, Ne, Tb, Ng, He, Eg, Sm, Sn, Mo, Tl. It shows what the single texts show; conditions: none but those of each lemma.
-/
import Derived.Test.YtnanellmaelipaaGreatDoorWb
set_option linter.unusedVariables false
set_option linter.unusedSimpArgs false
set_option linter.unusedSectionVars false
namespace Go.Proofs.YtnanellmaelipaaGreatDoor
namespace Vx
open Go.RowKit
set_option maxRecDepth 8000
theorem treeAt_ok {r : RepoD} (h : repoI r = true) {a : Int} (ha : 0 ≤ a ∧ a < r.commits.length) : treeI (treeAt r a) = true := by
  have hi : a.toNat < r.commits.length := by omega
  have := (repo_use h hi).2.2
  unfold treeAt
  rwa [List.getD_eq_getElem?_getD, List.getElem?_eq_getElem hi]
theorem bases_in {r : RepoD} {a b c : Int} (h : c ∈ basesI r a b) : 0 ≤ c ∧ c < r.commits.length := by
  unfold basesI at h
  obtain ⟨i, hi, _, rfl⟩ := listT_mem.1 h
  rw [bigT_len, comB_len] at hi
  omega
theorem base9_ok {r : RepoD} (h : repoI r = true) (a b : Int) : treeI (base9 r a b) = true := by
  unfold base9
  rw [← bases_eq]
  cases hq : (basesI r a b).getLast? with
  | none => rfl
  | some c => exact treeAt_ok h (bases_in (List.mem_of_getLast? hq))
section
variable {r : RepoD} {n w : Str} {b : Int}
theorem uS_no (h : repoI r = false) : uniteS r n w b = (noR, 1) := by unfold uniteS; rw [if_neg (by rw [← repo_eq, h]; simp)]
theorem uS_1 (h : repoI r = true) (h2 : atL r.heads n < 0 ∨ nameB w = false ∨ ¬ (0 ≤ b ∧ b < r.commits.length)) : uniteS r n w b = (r, 1) := by unfold uniteS; rw [if_pos (by rw [← repo_eq, h]), if_pos h2]
theorem uS_go (h : repoI r = true) (h1 : 0 ≤ atL r.heads n) (h2 : nameB w = true) (h3 : 0 ≤ b ∧ b < r.commits.length) : uniteS r n w b = unite9 r n w b := by
  unfold uniteS; rw [if_pos (by rw [← repo_eq, h]), if_neg]
  rintro (q | q | q)
  · omega
  · rw [h2] at q; cases q
  · exact q h3
theorem at_lt (h : repoI r = true) (h1 : 0 ≤ atL r.heads n) : atL r.heads n < r.commits.length := by
  rw [repo_eq] at h
  rcases atL_le (n := n) ((repoS_iff r).1 h).2.1 with q | q <;> omega
theorem uS_2 (h : repoI r = true) (h1 : 0 ≤ atL r.heads n) (h2 : nameB w = true) (h3 : 0 ≤ b ∧ b < r.commits.length) (h4 : isT (anc r (atL r.heads n)) b.toNat = true) : uniteS r n w b = (r, 2) := by
  rw [uS_go h h1 h2 h3]
  rw [isT_mem h3.1 (by rw [anc_len]; omega), decide_eq_true_eq] at h4
  unfold unite9
  rw [if_pos h4]
theorem uS_3 (h : repoI r = true) (h1 : 0 ≤ atL r.heads n) (h2 : nameB w = true) (h3 : 0 ≤ b ∧ b < r.commits.length) (h4 : isT (anc r (atL r.heads n)) b.toNat = false) (h5 : isT (anc r b) (atL r.heads n).toNat = true) :
    uniteS r n w b = (⟨r.commits, ptL r.heads n b⟩, 3) := by
  have hlt := at_lt h h1
  rw [uS_go h h1 h2 h3]
  rw [isT_mem h3.1 (by rw [anc_len]; omega), decide_eq_false_iff_not] at h4
  rw [isT_mem h1 (by rw [anc_len]; omega), decide_eq_true_eq] at h5
  unfold unite9
  rw [if_neg h4, if_pos h5]
  rw [repo_eq] at h
  rw [ptL_eq ((repoS_iff r).1 h).2.1]
theorem cmL_add (h : headsB r.commits.length r.heads = true) {c : CommitD} : cmL r n c = addR r n c := by
  unfold cmL addR
  rw [ptL_eq h]
theorem joinTreeI_ok {o a b : List FileD} (ho : treeI o = true) (ha : treeI a = true) (hb : treeI b = true) : joinTreeI o a b = if (join6 o a b).2 = [] then ((join6 o a b).1, true) else ([], false) := by
  unfold joinTreeI
  rw [ho, ha, hb]
  rfl
theorem uS_4 (h : repoI r = true) (h1 : 0 ≤ atL r.heads n) (h2 : nameB w = true) (h3 : 0 ≤ b ∧ b < r.commits.length) (h4 : isT (anc r (atL r.heads n)) b.toNat = false) (h5 : isT (anc r b) (atL r.heads n).toNat = false) :
    uniteS r n w b = if (joinTreeI (base9 r (atL r.heads n) b) (treeAt r (atL r.heads n)) (treeAt r b)).2 then
      (if repoI (cmL r n ⟨[atL r.heads n, b], w, (joinTreeI (base9 r (atL r.heads n) b) (treeAt r (atL r.heads n)) (treeAt r b)).1⟩) then (cmL r n ⟨[atL r.heads n, b], w, (joinTreeI (base9 r (atL r.heads n) b) (treeAt r (atL r.heads n)) (treeAt r b)).1⟩, 0) else (r, 5))
      else (r, 4) := by
  have hlt := at_lt h h1
  rw [uS_go h h1 h2 h3]
  rw [isT_mem h3.1 (by rw [anc_len]; omega), decide_eq_false_iff_not] at h4
  rw [isT_mem h1 (by rw [anc_len]; omega), decide_eq_false_iff_not] at h5
  unfold unite9
  rw [if_neg h4, if_neg h5, joinTreeI_ok (base9_ok h _ _) (treeAt_ok h ⟨h1, hlt⟩) (treeAt_ok h h3)]
  rw [repo_eq] at h
  have hH := ((repoS_iff r).1 h).2.1
  by_cases hj : (join6 (base9 r (atL r.heads n) b) (treeAt r (atL r.heads n)) (treeAt r b)).2 = []
  · rw [if_pos hj, if_pos hj]
    simp only [if_true]
    rw [cmL_add hH, repo_eq]
  · rw [if_neg hj, if_neg hj]
    simp
end
theorem unite_twice {r : RepoD} {n w : Str} {b : Int} (h : repoS r = true) (hq : (uniteS r n w b).2 = 0 ∨ (uniteS r n w b).2 = 3) : uniteS (uniteS r n w b).1 n w b = ((uniteS r n w b).1, 2) := by
  have hI : repoI r = true := by rw [repo_eq]; exact h
  by_cases hx : atL r.heads n < 0 ∨ nameB w = false ∨ ¬ (0 ≤ b ∧ b < r.commits.length)
  · rw [uS_1 hI hx] at hq
    rcases hq with q | q <;> simp at q
  have h1 : 0 ≤ atL r.heads n := by
    rcases Int.lt_or_le (atL r.heads n) 0 with q | q
    · exact absurd (.inl q) hx
    · exact q
  have h2 : nameB w = true := by
    cases q : nameB w with
    | true => rfl
    | false => exact absurd (.inr (.inl q)) hx
  have h3 : 0 ≤ b ∧ b < r.commits.length := by
    rcases Classical.em (0 ≤ b ∧ b < (r.commits.length : Int)) with q | q
    · exact q
    · exact absurd (.inr (.inr q)) hx
  have hH := ((repoS_iff r).1 h).2.1
  have hlt := at_lt hI h1
  have e0 := uS_go hI h1 h2 h3
  have hr := (uniteS_ok (n := n) (w := w) (b := b) h fun _ => (fun e => by rw [e] at h1; simp -implicitDefEqProofs [atL] at h1)).1
  rw [e0] at hq hr ⊢
  unfold unite9 at hq hr ⊢
  split at hq
  · rcases hq with q | q <;> simp at q
  · rename_i g1
    rw [if_neg g1] at hr ⊢
    split at hq
    · rename_i g2
      rw [if_pos g2] at hr ⊢
      simp only at hr ⊢
      have hrI : repoI ⟨r.commits, hSet r.heads n b⟩ = true := by rw [repo_eq]; exact hr
      have ea : atL (hSet r.heads n b) n = b := by rw [atL_set hH, if_pos rfl]
      refine uS_2 hrI (by show 0 ≤ atL (hSet r.heads n b) n; rw [ea]; exact h3.1) h2 h3 ?_
      show isT (anc ⟨r.commits, hSet r.heads n b⟩ (atL (hSet r.heads n b) n)) b.toNat = true
      rw [ea]
      have := anc_iff (repoS_par hr) (a := b.toNat) (by show b.toNat < r.commits.length; omega) b.toNat
      have eb : ((b.toNat : Nat) : Int) = b := by omega
      rw [eb] at this
      exact this.2 .refl
    · rename_i g2
      rw [if_neg g2] at hr ⊢
      split at hq
      · rename_i g3
        rw [if_pos g3] at hr ⊢
        split at hq
        · rename_i g4
          rw [if_pos g4] at hr ⊢
          simp only at hr ⊢
          generalize (join6 (base9 r (atL r.heads n) b) (treeAt r (atL r.heads n)) (treeAt r b)).1 = t at *
          have hrI : repoI (addR r n ⟨[atL r.heads n, b], w, t⟩) = true := by rw [repo_eq]; exact hr
          have ea : atL (addR r n ⟨[atL r.heads n, b], w, t⟩).heads n = r.commits.length := by
            show atL (hSet r.heads n r.commits.length) n = _
            rw [atL_set hH, if_pos rfl]
          have el : (addR r n ⟨[atL r.heads n, b], w, t⟩).commits.length = r.commits.length + 1 := by simp -implicitDefEqProofs [addR]
          refine uS_2 hrI (by rw [ea]; omega) h2 (by rw [el]; omega) ?_
          rw [ea, anc_iff (repoS_par hr) (by rw [el]; omega)]
          have ep : ((addR r n ⟨[atL r.heads n, b], w, t⟩).commits.getD r.commits.length default).parents = [atL r.heads n, b] := by
            simp -implicitDefEqProofs [addR, List.getD_eq_getElem?_getD]
          exact Rch.refl.step (by rw [ep]; simp)
        · rcases hq with q | q <;> simp at q
      · rcases hq with q | q <;> simp at q
inductive Uni (r : RepoD) (n w : Str) (b : Int) : RepoD × Int → Prop
  | form : Uni r n w b (r, 1)
  | same : 0 ≤ atL r.heads n → atL r.heads n < r.commits.length → 0 ≤ b → b < r.commits.length → Rch r (atL r.heads n).toNat b.toNat → Uni r n w b (r, 2)
  | on : 0 ≤ atL r.heads n → atL r.heads n < r.commits.length → 0 ≤ b → b < r.commits.length → ¬ Rch r (atL r.heads n).toNat b.toNat → Rch r b.toNat (atL r.heads n).toNat → repoS ⟨r.commits, hSet r.heads n b⟩ = true → Uni r n w b (⟨r.commits, hSet r.heads n b⟩, 3)
  | clash : 0 ≤ atL r.heads n → atL r.heads n < r.commits.length → 0 ≤ b → b < r.commits.length → (join6 (base9 r (atL r.heads n) b) (treeAt r (atL r.heads n)) (treeAt r b)).2 ≠ [] → Uni r n w b (r, 4)
  | full : Uni r n w b (r, 5)
  | made (t : List FileD) : 0 ≤ atL r.heads n → atL r.heads n < r.commits.length → 0 ≤ b → b < r.commits.length → ¬ Rch r (atL r.heads n).toNat b.toNat → ¬ Rch r b.toNat (atL r.heads n).toNat → join6 (base9 r (atL r.heads n) b) (treeAt r (atL r.heads n)) (treeAt r b) = (t, []) →
      repoS (addR r n ⟨[atL r.heads n, b], w, t⟩) = true → Uni r n w b (addR r n ⟨[atL r.heads n, b], w, t⟩, 0)
theorem uniteS_is {r : RepoD} (h : repoS r = true) (n w : Str) (b : Int) : Uni r n w b (uniteS r n w b) := by
  have hI : repoI r = true := by rw [repo_eq]; exact h
  by_cases hx : atL r.heads n < 0 ∨ nameB w = false ∨ ¬ (0 ≤ b ∧ b < r.commits.length)
  · rw [uS_1 hI hx]; exact .form
  have h1 : 0 ≤ atL r.heads n := by
    rcases Int.lt_or_le (atL r.heads n) 0 with q | q
    · exact absurd (.inl q) hx
    · exact q
  have h2 : nameB w = true := by
    cases q : nameB w with
    | true => rfl
    | false => exact absurd (.inr (.inl q)) hx
  have h3 : 0 ≤ b ∧ b < r.commits.length := by
    rcases Classical.em (0 ≤ b ∧ b < (r.commits.length : Int)) with q | q
    · exact q
    · exact absurd (.inr (.inr q)) hx
  have hlt := at_lt hI h1
  have hp := repoS_par h
  have hr := (uniteS_ok (n := n) (w := w) (b := b) h fun _ => (fun e => by rw [e] at h1; simp -implicitDefEqProofs [atL] at h1)).1
  rw [uS_go hI h1 h2 h3] at hr ⊢
  have m1 := anc_mem hp ⟨h1, hlt⟩ h3.1
  have m2 := anc_mem hp h3 h1
  unfold unite9 at hr ⊢
  by_cases g1 : b ∈ listT (anc r (atL r.heads n))
  · rw [if_pos g1]; exact .same h1 hlt h3.1 h3.2 (m1.1 g1)
  · rw [if_neg g1] at hr ⊢
    by_cases g2 : atL r.heads n ∈ listT (anc r b)
    · rw [if_pos g2] at hr ⊢; exact .on h1 hlt h3.1 h3.2 (fun q => g1 (m1.2 q)) (m2.1 g2) hr
    · rw [if_neg g2] at hr ⊢
      by_cases g3 : (join6 (base9 r (atL r.heads n) b) (treeAt r (atL r.heads n)) (treeAt r b)).2 = []
      · rw [if_pos g3] at hr ⊢
        by_cases g4 : repoS (addR r n ⟨[atL r.heads n, b], w, (join6 (base9 r (atL r.heads n) b) (treeAt r (atL r.heads n)) (treeAt r b)).1⟩) = true
        · rw [if_pos g4] at hr ⊢
          exact .made _ h1 hlt h3.1 h3.2 (fun q => g1 (m1.2 q)) (fun q => g2 (m2.2 q)) (by rw [← g3]) hr
        · rw [if_neg g4]; exact .full
      · rw [if_neg g3]; exact .clash h1 hlt h3.1 h3.2 g3
theorem addR_at {r : RepoD} (h : repoS r = true) (n : Str) (c : CommitD) (m : Str) : atL (addR r n c).heads m = if n = m then (r.commits.length : Int) else atL r.heads m := by
  show atL (hSet r.heads n r.commits.length) m = _
  exact atL_set ((repoS_iff r).1 h).2.1
theorem addR_get (r : RepoD) (n : Str) (c : CommitD) : (addR r n c).commits.getD r.commits.length default = c := by
  simp -implicitDefEqProofs [addR, List.getD_eq_getElem?_getD]
theorem addR_rch {r : RepoD} (n : Str) (c : CommitD) {p : Int} (h : p ∈ c.parents) : Rch (addR r n c) r.commits.length p.toNat := by
  refine Rch.refl.step (p := p) ?_
  rw [addR_get]; exact h
end Vx
end Go.Proofs.YtnanellmaelipaaGreatDoor
namespace Go.Proofs.YtnanellmaelipaaGreatDoor
namespace Vx
open Go.RowKit
set_option maxRecDepth 8000
end Vx
end Go.Proofs.YtnanellmaelipaaGreatDoor
namespace Go.Proofs.YtnanellmaelipaaGreatDoor
namespace Vx
open Go.RowKit
set_option maxRecDepth 8000
end Vx
end Go.Proofs.YtnanellmaelipaaGreatDoor
namespace Go.Proofs.YtnanellmaelipaaGreatDoor
namespace Vx
open Go.RowKit
end Vx
end Go.Proofs.YtnanellmaelipaaGreatDoor
namespace Go.Proofs.YtnanellmaelipaaGreatDoor
namespace Vx
open Go.RowKit
set_option maxRecDepth 8000
end Vx
end Go.Proofs.YtnanellmaelipaaGreatDoor
namespace Go.Proofs.YtnanellmaelipaaGreatDoor
set_option maxHeartbeats 4000000
namespace Vx
open Go.RowKit
set_option maxRecDepth 8000
--TAB tTabB
theorem repo_sz {r : RepoD} (h : repoI r = true) : rpSz r ∧ rpPre r := by
  have h1 := repo_n h
  have hc : ∀ c ∈ r.commits, c.parents.length ≤ 2 ∧ treeI c.tree = true := fun c hc => by
    obtain ⟨i, hi, rfl⟩ := List.getElem_of_mem hc
    exact ⟨(repo_use h hi).1, (repo_use h hi).2.2⟩
  have hh : r.heads.length ≤ 5 := by
    rw [repo_eq] at h
    exact ((headsB_iff _ _).1 ((repoS_iff r).1 h).2.1).1
  have ht : ∀ t : List FileD, treeI t = true → t.length ≤ 8 := fun t q => (treeS_le t (by rw [← tree_eq]; exact q)).1
  refine ⟨⟨by omega, fun c q => ⟨by have := (hc c q).1; omega, by have := ht _ (hc c q).2; omega, fun g hg => by have := (treeI_plain (hc c q).2 g hg).2.1; omega⟩, by omega⟩, by omega, fun c q f hf => by have := (treeI_plain (hc c q).2 f hf).1.2; omega⟩
theorem tree_pt {t : List FileD} (h : treeI t = true) : ptSz t := fun f hf => by have := (treeI_plain h f hf).1.2; omega
def cBaseTree : Con := .fn 23 (RepoD × Int × Int) (fun a => [vRepo a.1, .int .i64 a.2.1, .int .i64 a.2.2]) (fun a => repoI a.1 = true ∧ (0 ≤ a.2.1 ∧ a.2.1 < a.1.commits.length) ∧ (0 ≤ a.2.2 ∧ a.2.2 < a.1.commits.length)) (fun a => .sl true 2 (eFiles (base9 a.1 a.2.1 a.2.2))) (fun _ => [])
theorem baseTree_has : Has Tryz.prog 118 cBaseTree := by
  refine has_walk mixed tTabB_ok (l := [(170, cBases), (94, cTreeR)]) (HasL.cons bases_has (HasL.cons treeR_has HasL.nil)) [0, 1, 2, 3, 6, 7] ((fun a n (_ : Nat) => (fun _ => noInv) a n)) [] Tryz.func118 (by kernel_rfl) (code := _) (by unfold Tryz.f118; rfl) (by kernel_rfl) (by decide) (fun _ => ⟨(), trivial⟩) (by intro h; first | exact fun _ => rfl | cases h) (by kernel_rfl) ?_
  intro a ha
  obtain ⟨r, a, b⟩ := a
  obtain ⟨h1, h2, h3⟩ : repoI r = true ∧ (0 ≤ a ∧ a < r.commits.length) ∧ (0 ≤ b ∧ b < r.commits.length) := ha
  simp (maxSteps := 8000000) [cBaseTree, cBases, cTreeR, Con.fn, tTabB, tTab, bRepo_def]
  try dsimp only
  try simp only [and_assoc, exists_eq_left, exists_and_left, RepoD.ex1, RepoD.eta]
  have hb : base9 r a b = match (basesI r a b).getLast? with | none => [] | some c => treeAt r c := by unfold base9; rw [← bases_eq]; rfl
  have hin := fun c => @bases_in r a b c
  refine ⟨h1, h2.1, h2.2, h3.1, h3.2, fun _ => ⟨fun h => ?_, fun h => ?_⟩⟩
  · rw [hb, h]; rfl
  · have hl : 0 < (basesI r a b).length := List.length_pos_iff.2 h
    have hlt : (basesI r a b).length - 1 < (basesI r a b).length := by omega
    have e1 : Option.map eInt (basesI r a b)[(basesI r a b).length - 1]? = some (eInt (basesI r a b)[(basesI r a b).length - 1]) := by simp -implicitDefEqProofs [List.getElem?_eq_getElem hlt]
    have hg : (basesI r a b).getLast? = some (basesI r a b)[(basesI r a b).length - 1] := by rw [List.getLast?_eq_getElem?, List.getElem?_eq_getElem hlt]
    have hc := hin _ (List.getElem_mem hlt)
    rw [hb, hg, e1]
    generalize (basesI r a b)[(basesI r a b).length - 1] = c at *
    generalize (basesI r a b).length = m at *
    have q1 : c.toNat < r.commits.length := by omega
    simp -implicitDefEqProofs [eInt, D.asInt, treeAt, List.getD_eq_getElem?_getD]
    repeat' (first | intro _ | apply And.intro)
    all_goals omega
theorem joinTreeI_tree {o a b : List FileD} : treeI (joinTreeI o a b).1 = true := by
  unfold joinTreeI
  split
  · split
    · rename_i h; rw [tree_eq]; exact join6_tree h
    · rfl
  · rfl
theorem tree_sz {t : List FileD} (h : treeI t = true) : t.length ≤ 1048576 ∧ ∀ f ∈ t, f.text.length ≤ 1048576 := by
  have h1 := treeS_le t (by rw [← tree_eq]; exact h)
  exact ⟨by omega, fun f hf => by have := h1.2 f hf; omega⟩
theorem cm_pre {r : RepoD} (h : repoI r = true) {n : Str} {c : CommitD} (hc : treeI c.tree = true) : rpPre (cmL r n c) := by
  have h1 := repo_n h
  refine ⟨by simp -implicitDefEqProofs [cmL]; omega, fun x hx f hf => ?_⟩
  have hx : x ∈ r.commits ++ [c] := hx
  rcases List.mem_append.1 hx with hx | hx
  · exact (repo_sz h).2.2 x hx f hf
  · rw [List.mem_singleton.1 hx] at hf
    exact tree_pt hc f hf
def cUniteR : Con := .fn 89 (RepoD × Str × Str × Int) (fun a => [vRepo a.1, .str a.2.1, .str a.2.2.1, .int .i64 a.2.2.2]) (fun a => repoI a.1 = true) (fun a => .tup [.agg [.own 8 3 (eCommits (uniteS a.1 a.2.1 a.2.2.1 a.2.2.2).1.commits), .own 9 2 (eHeads (uniteS a.1 a.2.1 a.2.2.1 a.2.2.2).1.heads)], .int .i64 (uniteS a.1 a.2.1 a.2.2.1 a.2.2.2).2]) (fun a => ownCommits 8 (uniteS a.1 a.2.1 a.2.2.1 a.2.2.2).1.commits ++ ownHeads 9 (uniteS a.1 a.2.1 a.2.2.1 a.2.2.2).1.heads)
theorem uniteR_has : Has Tryz.prog 126 cUniteR := by
  refine has_walk mixed tTabB_ok (l := [(115, cAtI), (91, cNameOk), (79, cExists), (131, cOwnR), (80, cAncestors), (175, cPoint), (118, cBaseTree), (94, cTreeR), (141, cJoinTree), (177, cCommit), (176, cTried)]) (HasL.cons atI_has (HasL.cons nameOk_has (HasL.cons exists_has (HasL.cons ownR_has (HasL.cons ancestors_has (HasL.cons point_has (HasL.cons baseTree_has (HasL.cons treeR_has (HasL.cons joinTree_has (HasL.cons commit_has (HasL.cons tried_has HasL.nil))))))))))) [0, 1, 2, 3, 4, 8, 9, 10, 11, 12, 13] ((fun a n (_ : Nat) => (fun _ => noInv) a n)) [16456, 16465, 16466] Tryz.func126 (by kernel_rfl) (code := _) (by unfold Tryz.f126; rfl) (by kernel_rfl) (by decide) (fun _ => ⟨(), trivial⟩) (by intro h; first | exact fun _ => rfl | cases h) (by kernel_rfl) ?_
  intro a ha
  obtain ⟨r, n, w, b⟩ := a
  replace ha : repoI r = true := ha
  simp (maxSteps := 8000000) [-kStep_move, -kStepC_move, -Bool.exists_bool, cUniteR, cAtI, cNameOk, cExists, cOwnR, cAncestors, cPoint, poOwns, cBaseTree, cTreeR, cJoinTree, cCommit, cmOwns, cTried, Con.fn, tTabB, tTab, bRepo_def]
  try dsimp only
  try simp only [and_assoc, exists_eq_left, exists_and_left, RepoD.ex1, RepoD.eta]
  obtain ⟨hz, hp⟩ := repo_sz ha
  have hn := repo_n ha
  refine ⟨fun h h' => ⟨h, h', by omega⟩, ?_, fun _ => ⟨fun h => ?_, fun c1 c2 c3 c4 => ?_⟩⟩
  · rcases Int.lt_or_le (atL r.heads n) 0 with h | h
    · exact .inl (.inl h)
    · cases hw : nameB w with
      | false => exact .inl (.inr rfl)
      | true => exact .inr ⟨h, rfl⟩
  · have e : uniteS r n w b = (r, 1) := uS_1 ha (by rcases h with (h | h) | h | h; exact .inl h; exact .inr (.inl h); exact .inr (.inr (by omega)); exact .inr (.inr (by omega)))
    rw [e]; exact ⟨hz, rfl, rfl, rfl, rfl, rfl⟩
  · have hlt := at_lt ha c1
    have hb : b < r.commits.length := by omega
    have hla := anc_len r
    have la : b.toNat < (anc r (atL r.heads n)).length := by rw [hla]; omega
    have lb : (atL r.heads n).toNat < (anc r b).length := by rw [hla]; omega
    have e1 : Option.map eBool (anc r (atL r.heads n))[b.toNat]? = some (eBool (anc r (atL r.heads n))[b.toNat]) := by simp -implicitDefEqProofs [la]
    have e2 : Option.map eBool (anc r b)[(atL r.heads n).toNat]? = some (eBool (anc r b)[(atL r.heads n).toNat]) := by simp -implicitDefEqProofs [lb]
    have i1 : isT (anc r (atL r.heads n)) b.toNat = (anc r (atL r.heads n))[b.toNat] := by simp -implicitDefEqProofs [isT, List.getD_eq_getElem?_getD, la]
    have i2 : isT (anc r b) (atL r.heads n).toNat = (anc r b)[(atL r.heads n).toNat] := by simp -implicitDefEqProofs [isT, List.getD_eq_getElem?_getD, lb]
    have U2 := @uS_2 r n w b ha c1 c2 ⟨c3, hb⟩
    have U3 := @uS_3 r n w b ha c1 c2 ⟨c3, hb⟩
    have U4 := @uS_4 r n w b ha c1 c2 ⟨c3, hb⟩
    rw [i1] at U2 U3 U4
    rw [i2] at U3 U4
    have hla1 := hla (atL r.heads n)
    have hlb1 := hla b
    rw [e1, e2]
    generalize (anc r (atL r.heads n))[b.toNat] = x at *
    generalize (anc r b)[(atL r.heads n).toNat] = y at *
    have p1 := tree_pt (base9_ok ha (atL r.heads n) b)
    have p2 := tree_pt (treeAt_ok ha ⟨c1, hlt⟩)
    have p3 := tree_pt (treeAt_ok ha ⟨c3, hb⟩)
    simp -implicitDefEqProofs [eBool, D.asBool, ha, hla1, hlb1, c1, c3, hlt, hb, hz]
    have ta : treeAt r (atL r.heads n) = r.commits[(atL r.heads n).toNat].tree := by simp -implicitDefEqProofs [treeAt, List.getD_eq_getElem?_getD, show (atL r.heads n).toNat < r.commits.length by omega]
    have tb : treeAt r b = r.commits[b.toNat].tree := by simp -implicitDefEqProofs [treeAt, List.getD_eq_getElem?_getD, show b.toNat < r.commits.length by omega]
    have jt := @joinTreeI_tree (base9 r (atL r.heads n) b) (treeAt r (atL r.heads n)) (treeAt r b)
    rw [ta] at p2
    rw [tb] at p3
    rw [ta, tb] at U4 jt
    generalize joinTreeI (base9 r (atL r.heads n) b) r.commits[(atL r.heads n).toNat].tree r.commits[b.toNat].tree = J at *
    refine ⟨fun hx => by rw [U2 hx]; exact ⟨rfl, rfl, rfl, rfl, rfl⟩, fun hx => ⟨fun hy => by rw [U3 hx hy]; exact ⟨hz.2.2, rfl, rfl, rfl, rfl, rfl⟩, fun hy => ⟨p1, p2, p3, ?_⟩⟩⟩
    have U4 := U4 hx hy
    clear U2 U3
    refine ⟨fun hj => by rw [U4, if_neg (by simp -implicitDefEqProofs [hj])]; exact ⟨rfl, rfl, rfl, rfl, rfl⟩, fun hj => ⟨[atL r.heads n, b], rfl, rfl, hz.2.2, hz.1, (tree_sz jt).1, (tree_sz jt).2, cm_pre ha jt, ?_⟩⟩
    rw [if_pos hj] at U4
    rw [U4]
    exact ⟨fun h => by simp -implicitDefEqProofs [h], fun h => by simp -implicitDefEqProofs [h]⟩
def cUniteIntoI : Con := .fn 21 (RepoD × Str × Str × Int) (fun a => [vRepo a.1, .str a.2.1, .str a.2.2.1, .int .i64 a.2.2.2]) (fun a => rpPre a.1) (fun a => .tup [.agg [.own 8 3 (eCommits (uniteS a.1 a.2.1 a.2.2.1 a.2.2.2).1.commits), .own 9 2 (eHeads (uniteS a.1 a.2.1 a.2.2.1 a.2.2.2).1.heads)], .int .i64 (uniteS a.1 a.2.1 a.2.2.1 a.2.2.2).2]) (fun a => ownCommits 8 (uniteS a.1 a.2.1 a.2.2.1 a.2.2.2).1.commits ++ ownHeads 9 (uniteS a.1 a.2.1 a.2.2.1 a.2.2.2).1.heads)
theorem uniteIntoI_has : Has Tryz.prog 47 cUniteIntoI := by
  refine has_walk mixed tTabB_ok (l := [(24, cRepoOk), (126, cUniteR)]) (HasL.cons repoOk_has (HasL.cons uniteR_has HasL.nil)) [0, 1, 2, 3, 4, 8, 9] ((fun a n (_ : Nat) => (fun _ => noInv) a n)) [] Tryz.func47 (by kernel_rfl) (code := _) (by unfold Tryz.f47; rfl) (by kernel_rfl) (by decide) (fun _ => ⟨(), trivial⟩) (by intro h; first | exact fun _ => rfl | cases h) (by kernel_rfl) ?_
  intro a ha
  obtain ⟨r, n, w, b⟩ := a
  replace ha : rpPre r := ha
  simp (maxSteps := 8000000) [cUniteIntoI, cRepoOk, cUniteR, Con.fn, tTabB, tTab, bRepo_def]
  try dsimp only
  try simp only [and_assoc, exists_eq_left, exists_and_left, RepoD.ex1, RepoD.eta]
  refine ⟨ha, fun h => ?_, fun h => ?_⟩
  · rw [uS_no h]; simp -implicitDefEqProofs [noR]
  · simp -implicitDefEqProofs [h]
end Vx
end Go.Proofs.YtnanellmaelipaaGreatDoor
namespace Go.Proofs.YtnanellmaelipaaGreatDoor
namespace Vx
open Go.RowKit
set_option maxRecDepth 8000
theorem Uni.ok {r : RepoD} {n w : Str} {b : Int} {X : RepoD × Int} (h : repoS r = true) (hu : Uni r n w b X) : repoS X.1 = true := by
  cases hu with
  | form => exact h
  | same _ _ _ _ _ => exact h
  | on _ _ _ _ _ _ hr => exact hr
  | clash _ _ _ _ _ => exact h
  | full => exact h
  | made _ _ _ _ _ _ _ _ hr => exact hr
theorem Uni.keeps {r : RepoD} {n w : Str} {b : Int} {X : RepoD × Int} (hu : Uni r n w b X) : r.commits <+: X.1.commits := by
  cases hu with
  | made t _ _ _ _ _ _ _ _ => exact ⟨[⟨[atL r.heads n, b], w, t⟩], rfl⟩
  | _ => exact List.prefix_refl _
theorem Uni.other {r : RepoD} {n w m : Str} {b : Int} {X : RepoD × Int} (h : repoS r = true) (hu : Uni r n w b X) (hm : ¬ n = m) : atL X.1.heads m = atL r.heads m := by
  have hH := ((repoS_iff r).1 h).2.1
  cases hu with
  | on _ _ _ _ _ _ _ =>
    show atL (hSet r.heads n b) m = _
    rw [atL_set hH, if_neg hm]
  | made t _ _ _ _ _ _ _ _ => rw [addR_at h, if_neg hm]
  | _ => rfl
def Came (r : RepoD) (n : Str) (z : Nat) : Prop := 0 ≤ atL r.heads n ∧ Rch r (atL r.heads n).toNat z
theorem Uni.got {r : RepoD} {n w : Str} {b : Int} {X : RepoD × Int} (h : repoS r = true) (hu : Uni r n w b X) (hc : X.2 = 0 ∨ X.2 = 3 ∨ X.2 = 2) : (0 ≤ b ∧ b < r.commits.length) ∧ Came X.1 n b.toNat := by
  have hH := ((repoS_iff r).1 h).2.1
  cases hu with
  | form => simp at hc
  | same h1 h2 h3 h4 h5 => exact ⟨⟨h3, h4⟩, h1, h5⟩
  | on h1 h2 h3 h4 h5 h6 h7 =>
    have e : atL (hSet r.heads n b) n = b := by rw [atL_set hH, if_pos rfl]
    refine ⟨⟨h3, h4⟩, by show 0 ≤ atL (hSet r.heads n b) n; rw [e]; exact h3, ?_⟩
    show Rch ⟨r.commits, hSet r.heads n b⟩ (atL (hSet r.heads n b) n).toNat b.toNat
    rw [e]; exact .refl
  | clash => simp at hc
  | full => simp at hc
  | made t h1 h2 h3 h4 h5 h6 h7 h8 =>
    have e : atL (addR r n ⟨[atL r.heads n, b], w, t⟩).heads n = r.commits.length := by rw [addR_at h, if_pos rfl]
    have e2 : ((r.commits.length : Int)).toNat = r.commits.length := by omega
    refine ⟨⟨h3, h4⟩, by rw [e]; omega, ?_⟩
    rw [e, e2]
    exact addR_rch (r := r) n ⟨[atL r.heads n, b], w, t⟩ (p := b) (by simp)
end Vx
end Go.Proofs.YtnanellmaelipaaGreatDoor
namespace Go.Proofs.YtnanellmaelipaaGreatDoor
namespace Vx
open Go.RowKit
set_option maxRecDepth 8000
end Vx
end Go.Proofs.YtnanellmaelipaaGreatDoor
namespace Go.Proofs.YtnanellmaelipaaGreatDoor
set_option maxHeartbeats 4000000
namespace Vx
open Go.RowKit
set_option maxRecDepth 8000
def cSmTexts : Con := .fn 26 (List Str × List Str) (fun a => [.sl true 1 (eStrs a.1), .sl true 1 (eStrs a.2)]) (fun _ => True) (fun a => .bool (decide (a.1 = a.2))) (fun _ => [])
theorem smTexts_has : Has Tryz.prog 43 cSmTexts := by
  refine has_walk mixed tTab_ok (l := []) HasL.nil [0, 1, 4, 5] ((fun a n (_ : Nat) => (fun a _ => ⟨Nat, fun i => ⟨[(0, true, .sl true 1 (eStrs a.1)), (1, true, .sl true 1 (eStrs a.2)), (4, true, .bool false), (5, true, .int .i64 i)], []⟩, fun i => a.1.length = a.2.length ∧ i ≤ a.1.length ∧ a.1.take i = a.2.take i, fun i => a.1.length - i⟩) a n)) [] Tryz.func43 (by kernel_rfl) (code := _) (by unfold Tryz.f43; rfl) (by kernel_rfl) (by decide) (fun _ => ⟨(), trivial⟩) (by intro h; first | exact fun _ => rfl | cases h) (by kernel_rfl) ?_
  intro a _
  obtain ⟨l, m⟩ := a
  have k1 : ∀ i (h : i < l.length) (h' : i < m.length), l[i] = m[i] → l.take i = m.take i → l.take (i + 1) = m.take (i + 1) := fun i h h' e e2 => by rw [take_succ' h, take_succ' h', e, e2]
  have k2 : ∀ i, l.length = m.length → l.length ≤ i → l.take i = m.take i → l = m := fun i h h' e => by rwa [List.take_of_length_le h', List.take_of_length_le (by omega)] at e
  have k3 : ∀ i (h : i < l.length) (h' : i < m.length), ¬ l[i] = m[i] → ¬ l = m := fun i h h' e e2 => by subst e2; exact e rfl
  simp -implicitDefEqProofs [cSmTexts, Con.fn, tTab]
  try dsimp only
  try simp +contextual -implicitDefEqProofs [eStr, eFile, cast_succ, cast_eq, cast_zero, List.getElem?_eq_getElem, eStrs_set, eFiles_set, eStrs_rep, eFiles_rep, ← eStrs_append, ← eFiles_append, eStrs_take, eStrs_drop, eFiles_take, eFiles_drop, eStrs_snoc, eFiles_snoc, and_assoc]
  repeat' (first | intro _ | apply And.intro)
  all_goals first | omega | grind [all_take]
end Vx
end Go.Proofs.YtnanellmaelipaaGreatDoor
namespace Go.Proofs.YtnanellmaelipaaGreatDoor
set_option maxHeartbeats 4000000
namespace Vx
open Go.RowKit
set_option maxRecDepth 8000
def cSmTree : Con := .fn 42 (List FileD × List FileD) (fun a => [.sl true 2 (eFiles a.1), .sl true 2 (eFiles a.2)]) (fun _ => True) (fun a => .bool (decide (a.1 = a.2))) (fun _ => [])
theorem smTree_has : Has Tryz.prog 68 cSmTree := by
  refine has_walk mixed tTab_ok (l := [(43, cSmTexts)]) (HasL.cons smTexts_has HasL.nil) [0, 1, 4, 5] ((fun a n (_ : Nat) => (fun a _ => ⟨Nat, fun i => ⟨[(0, true, .sl true 2 (eFiles a.1)), (1, true, .sl true 2 (eFiles a.2)), (4, true, .bool false), (5, true, .int .i64 i)], []⟩, fun i => a.1.length = a.2.length ∧ i ≤ a.1.length ∧ a.1.take i = a.2.take i, fun i => a.1.length - i⟩) a n)) [] Tryz.func68 (by kernel_rfl) (code := _) (by unfold Tryz.f68; rfl) (by kernel_rfl) (by decide) (fun _ => ⟨(), trivial⟩) (by intro h; first | exact fun _ => rfl | cases h) (by kernel_rfl) ?_
  intro a _
  obtain ⟨l, m⟩ := a
  have k1 : ∀ i (h : i < l.length) (h' : i < m.length), l[i].path = m[i].path → l[i].text = m[i].text → l.take i = m.take i → l.take (i + 1) = m.take (i + 1) := fun i h h' e e1 e2 => by rw [take_succ' h, take_succ' h', e2, show l[i] = m[i] by rw [FileD.eq_iff]; exact ⟨e, e1⟩]
  have k2 : ∀ i, l.length = m.length → l.length ≤ i → l.take i = m.take i → l = m := fun i h h' e => by rwa [List.take_of_length_le h', List.take_of_length_le (by omega)] at e
  have k3 : ∀ i (h : i < l.length) (h' : i < m.length), ¬ l[i].path = m[i].path → ¬ l = m := fun i h h' e e2 => by subst e2; exact e rfl
  have k4 : ∀ i (h : i < l.length) (h' : i < m.length), ¬ l[i].text = m[i].text → ¬ l = m := fun i h h' e e2 => by subst e2; exact e rfl
  simp -implicitDefEqProofs [cSmTree, Con.fn, tTab, cSmTexts]
  try dsimp only
  try simp +contextual -implicitDefEqProofs [eStr, eFile, cast_succ, cast_eq, cast_zero, List.getElem?_eq_getElem, eStrs_set, eFiles_set, eStrs_rep, eFiles_rep, ← eStrs_append, ← eFiles_append, eStrs_take, eStrs_drop, eFiles_take, eFiles_drop, eStrs_snoc, eFiles_snoc, and_assoc]
  repeat' (first | intro _ | apply And.intro)
  all_goals first | omega | grind [all_take]
end Vx
end Go.Proofs.YtnanellmaelipaaGreatDoor
namespace Go.Proofs.YtnanellmaelipaaGreatDoor
set_option maxHeartbeats 4000000
namespace Vx
open Go.RowKit
set_option maxRecDepth 8000
def cSmInts : Con := .fn 26 (List Int × List Int) (fun a => [.sl true 1 (eInts a.1), .sl true 1 (eInts a.2)]) (fun _ => True) (fun a => .bool (decide (a.1 = a.2))) (fun _ => [])
theorem smInts_has : Has Tryz.prog 65 cSmInts := by
  refine has_walk mixed tTab_ok (l := []) HasL.nil [0, 1, 4, 5] ((fun a n (_ : Nat) => (fun a _ => ⟨Nat, fun i => ⟨[(0, true, .sl true 1 (eInts a.1)), (1, true, .sl true 1 (eInts a.2)), (4, true, .bool false), (5, true, .int .i64 i)], []⟩, fun i => i ≤ a.1.length ∧ a.1.length = a.2.length ∧ a.1.take i = a.2.take i, fun i => a.1.length - i⟩) a n)) [] Tryz.func65 (by kernel_rfl) (code := _) (by unfold Tryz.f65; rfl) (by kernel_rfl) (by decide) (fun _ => ⟨(), trivial⟩) (by intro h; first | exact fun _ => rfl | cases h) (by kernel_rfl) ?_
  intro a _
  obtain ⟨l, r⟩ := a
  simp -implicitDefEqProofs [cSmInts, Con.fn, tTab]
  try dsimp only
  try simp +contextual -implicitDefEqProofs [eStr, eFile, cast_succ, cast_eq, cast_zero, List.getElem?_eq_getElem, eStrs_set, eFiles_set, eStrs_rep, eFiles_rep, ← eStrs_append, ← eFiles_append, eStrs_take, eStrs_drop, eFiles_take, eFiles_drop, eStrs_snoc, eFiles_snoc, and_assoc, eInt]
  repeat' (first | intro _ | apply And.intro)
  all_goals first | omega | grind [all_take, eq_take, eq_end, eInt, D.asInt]
def cSmCommit : Con := .fn 24 (CommitD × CommitD) (fun a => [.agg [.sl true 1 (eInts a.1.parents), .str a.1.who, .sl true 2 (eFiles a.1.tree)], .agg [.sl true 1 (eInts a.2.parents), .str a.2.who, .sl true 2 (eFiles a.2.tree)]]) (fun _ => True) (fun a => .bool (decide (a.1 = a.2))) (fun _ => [])
theorem smCommit_has : Has Tryz.prog 129 cSmCommit := by
  refine has_walk mixed tTab_ok (l := [(65, cSmInts), (68, cSmTree)]) (HasL.cons smInts_has (HasL.cons smTree_has HasL.nil)) [0, 1, 2, 3, 4] ((fun a n (_ : Nat) => (fun _ => noInv) a n)) [] Tryz.func129 (by kernel_rfl) (code := _) (by unfold Tryz.f129; rfl) (by kernel_rfl) (by decide) (fun _ => ⟨(), trivial⟩) (by intro h; first | exact fun _ => rfl | cases h) (by kernel_rfl) ?_
  intro a _
  obtain ⟨c, d⟩ := a
  simp -implicitDefEqProofs [cSmCommit, cSmInts, cSmTree, Con.fn, tTab, CommitD.eq_iff]
  try dsimp only
  refine ⟨fun h => ⟨_, _, ⟨rfl, rfl⟩, fun e => ⟨_, _, ⟨rfl, rfl⟩, by simp -implicitDefEqProofs [e, h]⟩, fun e h' => absurd h' e⟩, fun h _ h' => absurd h' h⟩
def smRA (r q : RepoD) : Inv := ⟨Nat, fun i => ⟨[(2, true, .ptr 10 0), (3, true, .ptr 11 0), (4, true, .bool false), (5, true, .int .i64 i)], [(10, bRepo r), (11, bRepo q)]⟩, fun i => i ≤ r.commits.length ∧ (r.commits.length = q.commits.length ∧ r.heads.length = q.heads.length) ∧ r.commits.take i = q.commits.take i, fun i => r.commits.length - i⟩
def smRB (r q : RepoD) : Inv := ⟨Nat, fun i => ⟨[(2, true, .ptr 10 0), (3, true, .ptr 11 0), (4, true, .bool false), (6, true, .int .i64 i)], [(10, bRepo r), (11, bRepo q)]⟩, fun i => i ≤ r.heads.length ∧ (r.commits = q.commits ∧ r.heads.length = q.heads.length) ∧ r.heads.take i = q.heads.take i, fun i => r.heads.length - i⟩
def smRInv (r q : RepoD) (n g : Nat) : Inv := if n = 4 then smRA r q else smRB r q
theorem smRInv_4 (r q g) : smRInv r q 4 g = smRA r q := rfl
theorem smRInv_9 (r q g) : smRInv r q 9 g = smRB r q := rfl
theorem RepoD.eqs (a b : RepoD) : (a = b) = (a.commits = b.commits ∧ a.heads = b.heads) := by cases a; cases b; simp
def cSmRepo : Con := .fn 60 (RepoD × RepoD) (fun a => [vRepo a.1, vRepo a.2]) (fun _ => True) (fun a => .bool (decide (a.1 = a.2))) (fun _ => [])
theorem smRepo_has : Has Tryz.prog 49 cSmRepo := by
  refine has_walk mixed tTab_ok (l := [(129, cSmCommit)]) (HasL.cons smCommit_has HasL.nil) [0, 1, 2, 3, 4, 5, 6] (fun a => smRInv a.1 a.2) [] Tryz.func49 (by kernel_rfl) (code := _) (by unfold Tryz.f49; rfl) (by kernel_rfl) (by decide) (fun _ => ⟨(), trivial⟩) (by intro h; first | exact fun _ => rfl | cases h) (by kernel_rfl) ?_
  intro a _
  obtain ⟨r, q⟩ := a
  simp (maxSteps := 8000000) -implicitDefEqProofs [-kStep_move, -kStepC_move, -Bool.exists_bool, cSmRepo, cSmCommit, Con.fn, tTab, smRInv_4, smRInv_9, smRA, smRB, bRepo_def]
  try dsimp only
  refine fun _ _ _ _ => ⟨fun h e => by subst e; simp at h, fun e1 e2 => ⟨⟨by omega, by omega⟩, fun t ht g1 g2 g3 _ => ⟨fun hlt => ⟨hlt, fun _ => ?_⟩, fun hge => ?_⟩⟩⟩
  · have hq : t < q.commits.length := by omega
    have qq1 : Option.map eCommit r.commits[t]? = some (eCommit r.commits[t]) := by simp -implicitDefEqProofs [hlt]
    have qq2 : Option.map eCommit q.commits[t]? = some (eCommit q.commits[t]) := by simp -implicitDefEqProofs [hq]
    have hst := eq_take hlt hq g3
    rw [qq1, qq2]
    have hne : r.commits[t] ≠ q.commits[t] → r ≠ q := fun h e => by subst e; exact h rfl
    generalize r.commits[t] = x at *
    generalize q.commits[t] = y at *
    simp -implicitDefEqProofs [eCommit, D.asStr, D.asRows, hq]
    refine ⟨x, y, ⟨⟨rfl, rfl, rfl⟩, rfl, rfl, rfl⟩, hne, fun e => ⟨⟨by omega, by omega⟩, fun _ _ => ⟨t + 1, by omega, ⟨by omega, ⟨g1, g2⟩, hst e⟩, by omega⟩⟩⟩
  · have ec : r.commits = q.commits := eq_end g1 hge g3
    refine ⟨⟨ec, g2⟩, fun t ht _ _ g5 _ => ⟨fun hlt => ⟨hlt, fun _ => ?_⟩, fun hge => ?_⟩⟩
    · have hq : t < q.heads.length := by omega
      have qq1 : Option.map eHead r.heads[t]? = some (eHead r.heads[t]) := by simp -implicitDefEqProofs [hlt]
      have qq2 : Option.map eHead q.heads[t]? = some (eHead q.heads[t]) := by simp -implicitDefEqProofs [hq]
      have hst := eq_take hlt hq g5
      rw [qq1, qq2]
      have hne : r.heads[t] ≠ q.heads[t] → r ≠ q := fun h e => by subst e; exact h rfl
      generalize r.heads[t] = x at *
      generalize q.heads[t] = y at *
      simp -implicitDefEqProofs [eHead, D.asStr, D.asInt, hq]
      refine ⟨fun h => hne (fun e => by subst e; simp at h), fun e1 e2 => ⟨⟨by omega, by omega⟩, fun _ _ => ⟨t + 1, by omega, ⟨by omega, ⟨ec, g2⟩, hst (by rw [HeadD.eq_iff]; exact ⟨e1, e2⟩)⟩, by omega⟩⟩⟩
    · rw [RepoD.eqs]; exact ⟨ec, eq_end g2 hge g5⟩
end Vx
end Go.Proofs.YtnanellmaelipaaGreatDoor
namespace Go.Proofs.YtnanellmaelipaaGreatDoor
namespace Vx
open Go.RowKit
set_option maxRecDepth 8000
theorem drawn_pre {r : RepoD} (h : drawnR r) : rpPre r := ⟨by have := h.1; omega, fun c hc f hf => by have := treeS_path (h.2.2 c hc).2.1 f hf; omega⟩
end Vx
end Go.Proofs.YtnanellmaelipaaGreatDoor
namespace Go.Proofs.YtnanellmaelipaaGreatDoor
set_option maxHeartbeats 4000000
namespace Vx
open Go.RowKit
set_option maxRecDepth 8000
theorem drawn_rp {r : RepoD} (h : drawnR r) : rpSz r := by
  refine ⟨by have := h.1; omega, fun c hc => ?_, by have := h.2.1; omega⟩
  obtain ⟨h1, h2, h3⟩ := h.2.2 c hc
  have h4 := treeS_le _ h2
  exact ⟨by omega, by omega, fun g hg => by have := h4.2 g hg; omega⟩
def cFnUniteTwice : Con := .fn 79 Str (fun s => [.sl true 1 (eBytes s)]) (fun _ => True) (fun _ => .bool true) (fun _ => [])
theorem fnUniteTwice_has : Has Tryz.prog 8 cFnUniteTwice := by
  refine has_walk mixed tTab_ok (l := [(46, cDrawUniteInto), (47, cUniteIntoI), (48, cUniteInto), (49, cSmRepo)]) (HasL.cons drawUniteInto_has (HasL.cons uniteIntoI_has (HasL.cons uniteInto_has (HasL.cons smRepo_has HasL.nil)))) [0, 2, 3, 4, 5, 6, 7, 8, 9, 10, 11, 12] ((fun a n (_ : Nat) => (fun _ => noInv) a n)) [] Tryz.func8 (by kernel_rfl) (code := _) (by unfold Tryz.f8; rfl) (by kernel_rfl) (by decide) (fun _ => ⟨(), trivial⟩) (by intro h; first | exact fun _ => rfl | cases h) (by kernel_rfl) ?_
  intro (s : Str) _
  simp (maxSteps := 8000000) -implicitDefEqProofs [-kStep_move, -kStepC_move, -Bool.exists_bool, cFnUniteTwice, cDrawUniteInto, cUniteIntoI, cUniteInto, cSmRepo, Con.fn, tTab]
  refine fun _ _ r n w b hd => ⟨r, n, w, b, ⟨⟨rfl, rfl⟩, rfl, rfl, rfl⟩, drawn_pre hd, r, n, w, b, ⟨⟨rfl, rfl⟩, rfl, rfl, rfl⟩, drawn_rp hd, (uniteS r n w b).1, (uniteS r n w b).1, ⟨⟨rfl, rfl⟩, rfl, rfl⟩, ?_⟩
  have hU : repoI r = true → rpPre (uniteS r n w b).1 := fun h => (repo_sz (by rw [repo_eq]; exact (uniteS_is (by rw [← repo_eq]; exact h) n w b).ok (by rw [← repo_eq]; exact h))).2
  have hno : repoI r = false → (uniteS r n w b).2 = 1 := fun h => by rw [uS_no h]
  have ht : repoI r = true → ((uniteS r n w b).2 = 0 ∨ (uniteS r n w b).2 = 3) → uniteS (uniteS r n w b).1 n w b = ((uniteS r n w b).1, 2) := fun h q => unite_twice (by rw [← repo_eq]; exact h) q
  generalize uniteS r n w b = X at *
  obtain ⟨x, c⟩ := X
  simp only at hU hno ht ⊢
  have key : (¬ c = 0 → c = 3) → repoI r = true ∧ (c = 0 ∨ c = 3) := fun h => by
    have hc : c = 0 ∨ c = 3 := by
      by_cases q : c = 0
      · exact .inl q
      · exact .inr (h q)
    cases hr : repoI r with
    | true => exact ⟨rfl, hc⟩
    | false => have := hno hr; omega
  refine ⟨fun _ _ => ⟨⟨trivial, trivial⟩, ?_⟩, fun _ => ⟨.inr ⟨trivial, trivial⟩, fun _ => ⟨fun _ => by simp, fun _ _ h => ?_⟩⟩⟩
  · by_cases q : c = 0
    · exact .inl q
    · exact .inr ⟨⟨trivial, trivial⟩, q⟩
  · obtain ⟨h1, h2⟩ := key h
    refine ⟨x, n, w, b, ⟨⟨rfl, rfl⟩, rfl, rfl, rfl⟩, hU h1, ?_⟩
    rw [ht h1 h2]
    exact ⟨⟨rfl, rfl⟩, rfl⟩
end Vx
end Go.Proofs.YtnanellmaelipaaGreatDoor
