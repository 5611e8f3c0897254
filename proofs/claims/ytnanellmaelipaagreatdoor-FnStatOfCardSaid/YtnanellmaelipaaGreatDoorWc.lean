/-
  Joined by program (merge.py): Mj, Mm, Mn, He, Eg, Sm, Sn, Mo, Qe. It shows what the single texts show; conditions: none but those of each lemma.
-/
import Derived.Test.YtnanellmaelipaaGreatDoorWb
set_option linter.unusedVariables false
set_option linter.unusedSimpArgs false
set_option linter.unusedSectionVars false
/-
  Contracts: operations drawn.
-/
namespace Go.Proofs.YtnanellmaelipaaGreatDoor
namespace Vx
open Go.RowKit
set_option maxRecDepth 8000

def cBranchD : Con := { A := Str × Int, X := Str, n := 6, args := fun _ => [.ptr 0 0], boxes := fun a => [(0, 157, [.sl true 1 (eBytes a.1), .int .i64 a.2])], pre := fun a => a.1.length ≤ 2000 ∧ 0 ≤ a.2 ∧ a.2 ≤ 1073741800, post := fun _ x => x.length ≤ 4, res := fun _ x => .str x, fin := fun a _ => [(0, rdBox a.1 (a.2 + 1))], nob := false }
set_option maxHeartbeats 4000000 in
theorem branchD_has : Has Tryz.prog 254 cBranchD := by
  refine has_walk mixed tTab_ok (l := [(90, cOf)]) (HasL.cons of_has HasL.nil) [0, 2] ((fun a n (_ : Nat) => (fun _ => noInv) a n)) [] Tryz.func254 (by kernel_rfl) (code := _) (by unfold Tryz.f254; rfl) (by kernel_rfl) (by decide) (fun _ => ⟨([] : Str), Nat.zero_le 4⟩) (by intro h; first | exact fun _ => rfl | cases h) (by kernel_rfl) ?_
  intro a ha
  obtain ⟨s, p⟩ := a
  obtain ⟨h1, h2, h3⟩ : s.length ≤ 2000 ∧ 0 ≤ p ∧ p ≤ 1073741800 := ha
  simp -implicitDefEqProofs [cBranchD, cOf, tTab, eStrs_isCons, clash, kd, eByte, all_true]
  exact ⟨s, p, ⟨rfl, rfl⟩, ⟨h1, by omega, by omega⟩, by simp⟩

/-- What is known of a drawn operation. -/
def drawnO (o : OpD) : Prop := (1 ≤ o.kind ∧ o.kind ≤ 7) ∧ o.branch.length ≤ 4 ∧ o.who.length ≤ 3 ∧ o.path.length ≤ 5 ∧ o.to_.length ≤ 5 ∧ (0 ≤ o.at_ ∧ o.at_ ≤ 9) ∧ o.text.length ≤ 8 ∧ ∀ s ∈ o.text, s.length ≤ 7
def cOpD : Con := { A := Str × Int, X := OpD × Int, n := 63, args := fun _ => [.ptr 0 0], boxes := fun a => [(0, 157, [.sl true 1 (eBytes a.1), .int .i64 a.2])], pre := fun a => a.1.length ≤ 2000 ∧ 0 ≤ a.2 ∧ a.2 ≤ 1073741500, post := fun a x => drawnO x.1 ∧ a.2 ≤ x.2 ∧ x.2 ≤ a.2 + 20, res := fun _ x => .agg [.int .i64 x.1.kind, .str x.1.branch, .str x.1.who, .str x.1.path, .str x.1.to_, .int .i64 x.1.at_, .own 8 1 (eStrs x.1.text)], fin := fun a x => (0, rdBox a.1 x.2) :: ownStrs 8 x.1.text, nob := false }
set_option maxHeartbeats 4000000 in
theorem opD_has : Has Tryz.prog 220 cOpD := by
  refine has_walk mixed tTab_ok (l := [(254, cBranchD), (90, cOf), (145, cPick), (255, cPath), (256, cText)]) (HasL.cons branchD_has (HasL.cons of_has (HasL.cons pick_has (HasL.cons path_has (HasL.cons text_has HasL.nil))))) [0, 2, 3, 11, 34, 42] ((fun a n (_ : Nat) => (fun _ => noInv) a n)) [] Tryz.func220 (by kernel_rfl) (code := _) (by unfold Tryz.f220; rfl) (by kernel_rfl) (by decide) (fun a => ⟨((⟨1, [], [], [], [], 0, []⟩ : OpD), a.2), (by simp -implicitDefEqProofs [drawnO]), Int.le_refl _, by omega⟩) (by intro h; first | exact fun _ => rfl | cases h) (by kernel_rfl) ?_
  intro a ha
  obtain ⟨s, p⟩ := a
  obtain ⟨h1, h2, h3⟩ : s.length ≤ 2000 ∧ 0 ≤ p ∧ p ≤ 1073741500 := ha
  simp (maxSteps := 8000000) -implicitDefEqProofs [-kStep_move, -Bool.exists_bool, cOpD, cBranchD, cOf, cPick, cPath, cText, tTab, eStrs_isCons, clash, kd, eByte, all_true]
  have fin : ∀ (k : Int) (b w pa t : Str) (i : Int) (q : Int), (1 ≤ k ∧ k ≤ 7) → b.length ≤ 4 → w.length ≤ 3 → pa.length ≤ 5 → t.length ≤ 5 → (0 ≤ i ∧ i ≤ 9) → (p ≤ q ∧ q ≤ p + 20) → ∃ (a : OpD) (c : Int), (drawnO a ∧ p ≤ c ∧ c ≤ p + 20) ∧ (a.kind = k ∧ a.branch = b ∧ a.who = w ∧ a.path = pa ∧ a.to_ = t ∧ a.at_ = i ∧ a.text = []) ∧ (s = s ∧ c = q) ∧ a.text = [] :=
    fun k b w pa t i q h1 h2 h3 h4 h5 h6 h7 => ⟨⟨k, b, w, pa, t, i, []⟩, q, ⟨⟨h1, h2, h3, h4, h5, h6, Nat.zero_le _, by simp⟩, h7⟩, ⟨rfl, rfl, rfl, rfl, rfl, rfl, rfl⟩, ⟨rfl, rfl⟩, rfl⟩
  have fin2 : ∀ (k : Int) (b w pa t : Str) (i : Int) (l : List Str) (q : Int), (1 ≤ k ∧ k ≤ 7) → b.length ≤ 4 → w.length ≤ 3 → pa.length ≤ 5 → t.length ≤ 5 → (0 ≤ i ∧ i ≤ 9) → (l.length ≤ 8) → (∀ s ∈ l, s.length ≤ 7) → (p ≤ q ∧ q ≤ p + 20) → ∃ (a : OpD) (c : Int), (drawnO a ∧ p ≤ c ∧ c ≤ p + 20) ∧ (a.kind = k ∧ a.branch = b ∧ a.who = w ∧ a.path = pa ∧ a.to_ = t ∧ a.at_ = i ∧ a.text = l) ∧ (s = s ∧ c = q) ∧ l = a.text :=
    fun k b w pa t i l q h1 h2 h3 h4 h5 h6 g1 g2 h7 => ⟨⟨k, b, w, pa, t, i, l⟩, q, ⟨⟨h1, h2, h3, h4, h5, h6, g1, g2⟩, h7⟩, ⟨rfl, rfl, rfl, rfl, rfl, rfl, rfl⟩, ⟨rfl, rfl⟩, rfl⟩
  repeat' (first
    | intro _
    | refine ⟨_, _, ⟨rfl, rfl⟩, ⟨h1, by omega, by omega⟩, ?_⟩
    | exact fin _ _ _ _ _ _ _ (by omega) (by first | assumption | omega | decide) (by first | assumption | omega | decide) (by first | assumption | omega | decide) (by first | assumption | omega | decide) (by omega) (by omega)
    | exact fin2 _ _ _ _ _ _ _ _ (by omega) (by first | assumption | omega | decide) (by first | assumption | omega | decide) (by first | assumption | omega | decide) (by first | assumption | omega | decide) (by omega) (by assumption) (by assumption) (by omega)
    | apply And.intro)

end Vx
end Go.Proofs.YtnanellmaelipaaGreatDoor
/-
  Contracts: repositories drawn.
-/
namespace Go.Proofs.YtnanellmaelipaaGreatDoor
namespace Vx
open Go.RowKit
set_option maxRecDepth 8000

def cOpsD : Con := { A := Str × Int, X := List OpD × Int, n := 19, args := fun _ => [.ptr 0 0], boxes := fun a => [(0, 157, [.sl true 1 (eBytes a.1), .int .i64 a.2])], pre := fun a => a.1.length ≤ 2000 ∧ 0 ≤ a.2 ∧ a.2 ≤ 1073741000, post := fun a x => (x.1.length ≤ 20 ∧ ∀ o ∈ x.1, drawnO o) ∧ a.2 ≤ x.2 ∧ x.2 ≤ a.2 + 450, res := fun _ x => .own 8 7 (eOps x.1), fin := fun a x => [(0, rdBox a.1 x.2), (8, .own 219 7 true (eOps x.1))], nob := false }
set_option maxHeartbeats 4000000 in
theorem opsD_has : Has Tryz.prog 194 cOpsD := by
  refine has_walk mixed tTab_ok (l := [(147, cOne), (220, cOpD)]) (HasL.cons one_has (HasL.cons opD_has HasL.nil)) [0, 2, 3, 4] ((fun a n (_ : Nat) => (fun a _ => ⟨List OpD × Int × Nat, fun t => ⟨[(0, true, .ptr 0 0), (2, true, .nil), (3, true, .own 9 7 (eOps t.1)), (4, true, .int .i64 t.2.2)], [(0, rdBox a.1 t.2.1), (9, .own 219 7 true (eOps t.1))]⟩, fun t => t.1.length + t.2.2 ≤ 20 ∧ (∀ o ∈ t.1, drawnO o) ∧ a.2 ≤ t.2.1 ∧ t.2.1 + 20 * t.2.2 ≤ a.2 + 450, fun t => t.2.2⟩) a n)) [] Tryz.func194 (by kernel_rfl) (code := _) (by unfold Tryz.f194; rfl) (by kernel_rfl) (by decide) (fun a => ⟨(([] : List OpD), a.2), ⟨Nat.zero_le _, by simp⟩, Int.le_refl _, by omega⟩) (by intro h; first | exact fun _ => rfl | cases h) (by kernel_rfl) ?_
  intro a ha
  obtain ⟨s, p⟩ := a
  obtain ⟨h1, h2, h3⟩ : s.length ≤ 2000 ∧ 0 ≤ p ∧ p ≤ 1073741000 := ha
  simp (maxSteps := 8000000) -implicitDefEqProofs [-kStep_move, -Bool.exists_bool, cOpsD, cOne, cOpD, tTab, eStrs_isCons, clash, kd, eByte, all_true]
  refine ⟨s, p, [0, 3, 8, 14, 20], rfl, ⟨rfl, rfl⟩, ⟨h1, by omega, by omega, by simp, by simp⟩, fun y hy => ?_⟩
  have hy := hy (by simp)
  have hy2 : 0 ≤ y ∧ y ≤ 20 := by simp only [List.mem_cons, List.not_mem_nil, or_false] at hy; omega
  refine ⟨⟨[], p + 1, y.toNat, ⟨⟨rfl, by omega⟩, ⟨rfl, rfl⟩, rfl⟩, by simp; omega, by simp, by omega, by omega⟩, fun a q b ga gb gc gd => ⟨fun hb => ⟨s, q, ⟨rfl, rfl⟩, ⟨h1, by omega, by omega⟩, fun o q2 ho g1 g2 => ⟨⟨by omega, by omega⟩, ⟨by omega, by omega⟩, fun _ _ => ⟨a ++ [o], q2, b - 1, ⟨⟨(eOps_snoc _ _ _ _ _ _ _ _).symm, by omega⟩, ⟨rfl, rfl⟩, eOps_snoc _ _ _ _ _ _ _ _⟩, ⟨by simp; omega, fun x hx => ?_, by omega, by omega⟩, by omega⟩⟩⟩, fun hb => ⟨a, q, ⟨⟨by omega, gb⟩, by omega, by omega⟩, rfl, rfl, rfl⟩⟩⟩
  rcases List.mem_append.1 hx with hx | hx
  · exact gb x hx
  · simp at hx; subst hx; exact ho

def cRepoD : Con := { A := Str × Int, X := RepoD × Int, n := 7, args := fun _ => [.ptr 0 0], boxes := fun a => [(0, 157, [.sl true 1 (eBytes a.1), .int .i64 a.2])], pre := fun a => a.1.length ≤ 2000 ∧ 0 ≤ a.2 ∧ a.2 ≤ 1073740000, post := fun a x => plR x.1 ∧ a.2 ≤ x.2 ∧ x.2 ≤ a.2 + 450, res := fun _ x => .agg [.own 8 3 (eCommits x.1.commits), .own 9 2 (eHeads x.1.heads)], fin := fun a x => (0, rdBox a.1 x.2) :: (ownCommits 8 x.1.commits ++ ownHeads 9 x.1.heads), nob := false }
set_option maxHeartbeats 4000000 in
theorem repoD_has : Has Tryz.prog 146 cRepoD := by
  refine has_walk mixed tTab_ok (l := [(194, cOpsD), (193, cRepoPlayS), (127, cL7Copy)]) (HasL.cons opsD_has (HasL.cons repoPlayS_has (HasL.cons l7Copy_has HasL.nil))) [0, 2] ((fun a n (_ : Nat) => (fun _ => noInv) a n)) [] Tryz.func146 (by kernel_rfl) (code := _) (by unfold Tryz.f146; rfl) (by kernel_rfl) (by decide) (fun a => ⟨(noR, a.2), plR_no, Int.le_refl _, by omega⟩) (by intro h; first | exact fun _ => rfl | cases h) (by kernel_rfl) ?_
  intro a ha
  obtain ⟨s, p⟩ := a
  obtain ⟨h1, h2, h3⟩ : s.length ≤ 2000 ∧ 0 ≤ p ∧ p ≤ 1073740000 := ha
  simp (maxSteps := 8000000) -implicitDefEqProofs [-kStep_move, -Bool.exists_bool, cRepoD, cOpsD, cRepoPlayS, cL7Copy, Con.fn, tTab, eStrs_isCons, clash, kd, eByte, all_true]
  refine ⟨s, p, ⟨rfl, rfl⟩, ⟨h1, by omega, by omega⟩, fun l q g1 g2 g3 g4 => ⟨fun o ho => ?_, repoS_sz (playF_ok _).1, playS l, q, ⟨playF_ok _, by omega, by omega⟩, ⟨rfl, rfl⟩, ⟨rfl, rfl⟩, rfl, rfl⟩⟩
  obtain ⟨_, _, _, k1, k2, _, k3, _⟩ := g2 o ho
  exact ⟨by omega, by omega, by omega⟩

/-- What is known of a drawn repository. -/
def drawnR (r : RepoD) : Prop := r.commits.length ≤ 16 ∧ r.heads.length ≤ 100 ∧ ∀ c ∈ r.commits, c.parents.length ≤ 2 ∧ treeS c.tree = true ∧ c.who.length ≤ 6
theorem plR_drawn {r : RepoD} (h : plR r) : drawnR r := by
  obtain ⟨h1, h2, h3⟩ := (repoS_iff r).1 h.1
  refine ⟨h3, by have := ((headsB_iff _ _).1 h2).1; omega, fun c hc => ?_⟩
  obtain ⟨i, hi, rfl⟩ := List.getElem_of_mem hc
  have h4 := h1 i hi
  have e : r.commits.getD i default = r.commits[i] := by simp -implicitDefEqProofs [List.getD_eq_getElem?_getD, hi]
  unfold okCS okS1 at h4
  rw [e] at h4
  simp only [Bool.and_eq_true, decide_eq_true_eq, nameB] at h4
  exact ⟨h4.2.1.1, h4.2.2, h4.2.1.2.1.2⟩
def cAnyRepoD : Con := { A := Str × Int, X := RepoD × Int, n := 46, args := fun _ => [.ptr 0 0], boxes := fun a => [(0, 157, [.sl true 1 (eBytes a.1), .int .i64 a.2])], pre := fun a => a.1.length ≤ 2000 ∧ 0 ≤ a.2 ∧ a.2 ≤ 1073739000, post := fun a x => drawnR x.1 ∧ a.2 ≤ x.2 ∧ x.2 ≤ a.2 + 500, res := fun _ x => .agg [.sl false 3 (eCommits x.1.commits), .sl false 2 (eHeads x.1.heads)], fin := fun a x => [(0, rdBox a.1 x.2)], nob := false }
set_option maxHeartbeats 4000000 in
theorem anyRepoD_has : Has Tryz.prog 76 cAnyRepoD := by
  refine has_walk mixed tTab_ok (l := [(146, cRepoD), (145, cPick)]) (HasL.cons repoD_has (HasL.cons pick_has HasL.nil)) [0, 2, 3, 4, 17] ((fun a n (_ : Nat) => (fun _ => noInv) a n)) [] Tryz.func76 (by kernel_rfl) (code := _) (by unfold Tryz.f76; rfl) (by kernel_rfl) (by decide) (fun a => ⟨(noR, a.2), plR_drawn plR_no, Int.le_refl _, by omega⟩) (by intro h; first | exact fun _ => rfl | cases h) (by kernel_rfl) ?_
  intro a ha
  obtain ⟨s, p⟩ := a
  obtain ⟨h1, h2, h3⟩ : s.length ≤ 2000 ∧ 0 ≤ p ∧ p ≤ 1073739000 := ha
  simp (maxSteps := 8000000) -implicitDefEqProofs [-kStep_move, -Bool.exists_bool, cAnyRepoD, cRepoD, cPick, tTab, eStrs_isCons, clash, kd, eByte, all_true]
  refine ⟨s, p, ⟨rfl, rfl⟩, ⟨h1, by omega, by omega⟩, fun r q hr g1 g2 _ => ⟨fun hp _ => ⟨s, q, ⟨rfl, rfl⟩, ⟨h1, by omega, by omega, ?_⟩, fun y _ hy => ⟨s, q + 1, ⟨rfl, rfl⟩, ⟨h1, by omega, by omega⟩, fun z hz0 hz1 => ?_⟩⟩, fun _ => ⟨r, q, ⟨plR_drawn hr, by omega, by omega⟩, ⟨rfl, rfl⟩, rfl, rfl⟩⟩⟩
  · have := (plR_drawn hr).1; omega
  obtain ⟨k1, k2⟩ := hy (by omega)
  have hk : y.toNat < r.commits.length := by omega
  have e : Option.map eCommit r.commits[y.toNat]? = some (eCommit r.commits[y.toNat]) := by simp -implicitDefEqProofs [hk]
  have hd := plR_drawn hr
  have hh : 0 < r.heads.length := List.length_pos_iff.2 (hr.2 (by intro h; rw [h] at hp; simp at hp))
  have e2 : Option.map eHead r.heads[0]? = some (eHead r.heads[0]) := by simp -implicitDefEqProofs [hh]
  have ds : ∀ c : CommitD, (c.parents.length ≤ 2 ∧ treeS c.tree = true ∧ c.who.length ≤ 6) → drawnR ⟨r.commits.set y.toNat c, r.heads⟩ := fun c hc => ⟨by simp; exact hd.1, hd.2.1, fun x hx => (List.mem_or_eq_of_mem_set hx).elim (hd.2.2 x) fun h => h ▸ hc⟩
  have dc := hd.2.2 _ (List.getElem_mem hk)
  have dh : drawnR ⟨r.commits, r.heads ++ [r.heads[0]]⟩ := ⟨hd.1, by have := ((headsB_iff _ _).1 ((repoS_iff r).1 hr.1).2.1).1; simp; omega, hd.2.2⟩
  simp only [e, e2]
  simp -implicitDefEqProofs [eCommit, eHead, D.asStr, D.asInt, hk, k1, k2, hh]
  have hl : r.heads.length ≤ 100 := hd.2.1
  have hA : p ≤ q + 1 + 1 ∧ q + 1 + 1 ≤ p + 500 := ⟨by omega, by omega⟩
  have es : ∀ c : CommitD, eCommits (r.commits.set y.toNat c) = (eCommits r.commits).set y.toNat (eCommit c) := fun c => by simp -implicitDefEqProofs [eCommits, List.map_set]
  exact ⟨fun _ => ⟨_, ⟨ds ⟨[y], r.commits[y.toNat].who, r.commits[y.toNat].tree⟩ ⟨by simp, dc.2⟩, hA⟩, es _, rfl⟩, fun _ => ⟨fun _ => ⟨_, ⟨ds ⟨r.commits[y.toNat].parents, [], r.commits[y.toNat].tree⟩ ⟨dc.1, dc.2.1, Nat.zero_le _⟩, hA⟩, es _, rfl⟩, fun _ => ⟨fun _ => ⟨⟨by omega, by omega⟩, _, ⟨dh, hA⟩, rfl, by simp -implicitDefEqProofs [eHeads, eHead]⟩, fun _ => ⟨r, ⟨hd, hA⟩, rfl, rfl⟩⟩⟩⟩

def cAtD : Con := { A := (Str × Int) × RepoD, X := Int, n := 19, args := fun a => [.ptr 0 0, vRepo a.2], boxes := fun a => [(0, 157, [.sl true 1 (eBytes a.1.1), .int .i64 a.1.2])], pre := fun a => (a.1.1.length ≤ 2000 ∧ 0 ≤ a.1.2 ∧ a.1.2 ≤ 1073740000) ∧ a.2.commits.length ≤ 1000, post := fun a x => -1 ≤ x ∧ x ≤ a.2.commits.length, res := fun _ x => .int .i64 x, fin := fun a _ => [(0, rdBox a.1.1 (a.1.2 + 2))], nob := false, bty := [157] }
set_option maxHeartbeats 4000000 in
theorem atD_has : Has Tryz.prog 78 cAtD := by
  refine has_walk mixed tTab_ok (l := [(145, cPick), (147, cOne)]) (HasL.cons pick_has (HasL.cons one_has HasL.nil)) [0, 1, 3, 4] ((fun a n (_ : Nat) => (fun _ => noInv) a n)) [] Tryz.func78 (by kernel_rfl) (code := _) (by unfold Tryz.f78; rfl) (by kernel_rfl) (by decide) (fun a => ⟨(0 : Int), by omega, by omega⟩) (by intro h; first | exact fun _ => rfl | cases h) (by kernel_rfl) ?_ (hbt := .inr fun a => ⟨fun b hb => (by simp only [cAtD, List.mem_cons, List.not_mem_nil, or_false] at hb; subst hb; simp -implicitDefEqProofs [cAtD]), fun x p hp ty vs e => (by simp only [cAtD, List.mem_cons, List.not_mem_nil, or_false] at hp; subst hp; cases e; simp -implicitDefEqProofs [cAtD])⟩)
  intro a ha
  obtain ⟨⟨s, p⟩, r⟩ := a
  obtain ⟨⟨h1, h2, h3⟩, h4⟩ : (s.length ≤ 2000 ∧ 0 ≤ p ∧ p ≤ 1073740000) ∧ r.commits.length ≤ 1000 := ha
  simp (maxSteps := 8000000) -implicitDefEqProofs [-kStep_move, -Bool.exists_bool, cAtD, cPick, cOne, tTab, eStrs_isCons, clash, kd, eByte, all_true, bRepo_def]
  refine ⟨s, p, ⟨rfl, rfl⟩, ⟨h1, by omega, by omega⟩, fun y _ _ => ⟨fun _ _ => ⟨s, p + 1, [-1, r.commits.length], rfl, ⟨rfl, rfl⟩, ⟨h1, by omega, by omega, by simp, by simp⟩, fun z hz => ⟨z, ?_, rfl, rfl, by omega⟩⟩, fun _ _ => ⟨s, p + 1, ⟨rfl, rfl⟩, ⟨h1, by omega, by omega, by omega⟩, fun z hz1 hz2 => ⟨z, by omega, rfl, rfl, by omega⟩⟩⟩⟩
  have hz := hz (by simp)
  simp only [List.mem_cons, List.not_mem_nil, or_false] at hz
  omega

def mkWords : List Str := [[109, 49], [109, 50], [109, 51]]
end Vx
end Go.Proofs.YtnanellmaelipaaGreatDoor
/-
  Contracts: draws of a repository with a word, a place, marks.
-/
namespace Go.Proofs.YtnanellmaelipaaGreatDoor
namespace Vx
open Go.RowKit
set_option maxRecDepth 8000

def cOfB : Con := { cOf with bty := [157] }
theorem ofB_has : Has Tryz.prog 90 cOfB :=
  ⟨of_has.enter, of_has.tot, of_has.nob, fun a h c hk vs β fp h1 h2 h3 h4 S => of_has.calls a h c hk vs β fp h1 h2 h3 h4 S, of_has.bldr,
    .inr fun a => ⟨fun b hb => (by simp only [cOfB, cOfB, cOf, List.mem_cons, List.not_mem_nil, or_false] at hb; subst hb; simp -implicitDefEqProofs [cOfB]), fun x p hp ty vs e => (by simp only [cOfB, cOfB, cOf, List.mem_cons, List.not_mem_nil, or_false] at hp; subst hp; cases e; simp -implicitDefEqProofs [cOfB])⟩⟩

end Vx
end Go.Proofs.YtnanellmaelipaaGreatDoor
/-
  Contracts: SeekAll, both sides; lists of numbers compared.
-/
namespace Go.Proofs.YtnanellmaelipaaGreatDoor
namespace Vx
open Go.RowKit
set_option maxRecDepth 8000

def allF (r : RepoD) (w : Str) (i : Nat) : List Int := ((List.range i).map fun j : Nat => (j : Int)).filter (hasC r w)
theorem allF_hit {r : RepoD} {w : Str} {i : Nat} (h : hasC r w i = true) : allF r w (i + 1) = allF r w i ++ [(i : Int)] := by simp -implicitDefEqProofs [allF, List.range_succ, h]
theorem allF_miss {r : RepoD} {w : Str} {i : Nat} (h : hasC r w i = false) : allF r w (i + 1) = allF r w i := by simp -implicitDefEqProofs [allF, List.range_succ, h]
theorem allF_len (r : RepoD) (w : Str) (i : Nat) : (allF r w i).length ≤ i := by
  have := List.length_filter_le (hasC r w) ((List.range i).map fun j : Nat => (j : Int))
  simpa [allF] using this
def allW (r : RepoD) (w : Str) : List Int := if repoI r && nameB w then allF r w r.commits.length else []
theorem tree_at {r : RepoD} {i : Nat} (h : i < r.commits.length) : treeAt r i = r.commits[i].tree := by
  unfold treeAt
  rw [List.getD_eq_getElem?_getD, Int.toNat_natCast, List.getElem?_eq_getElem h]; rfl

end Vx
end Go.Proofs.YtnanellmaelipaaGreatDoor
/-
  Contracts: the law FnSeekTree.
-/
namespace Go.Proofs.YtnanellmaelipaaGreatDoor
namespace Vx
open Go.RowKit
set_option maxRecDepth 8000

end Vx
end Go.Proofs.YtnanellmaelipaaGreatDoor
/-
  Contracts: trees compared (smTree).
-/
namespace Go.Proofs.YtnanellmaelipaaGreatDoor
namespace Vx
open Go.RowKit
set_option maxRecDepth 8000

end Vx
end Go.Proofs.YtnanellmaelipaaGreatDoor
/-
  Contracts: numbers, heads, commits, repositories compared (smIn, smInts, smHeads, smCommit).
-/
namespace Go.Proofs.YtnanellmaelipaaGreatDoor
namespace Vx
open Go.RowKit
set_option maxRecDepth 8000

def smRA (r q : RepoD) : Inv := ⟨Nat, fun i => ⟨[(2, true, .ptr 10 0), (3, true, .ptr 11 0), (4, true, .bool false), (5, true, .int .i64 i)], [(10, bRepo r), (11, bRepo q)]⟩, fun i => i ≤ r.commits.length ∧ (r.commits.length = q.commits.length ∧ r.heads.length = q.heads.length) ∧ r.commits.take i = q.commits.take i, fun i => r.commits.length - i⟩
def smRB (r q : RepoD) : Inv := ⟨Nat, fun i => ⟨[(2, true, .ptr 10 0), (3, true, .ptr 11 0), (4, true, .bool false), (6, true, .int .i64 i)], [(10, bRepo r), (11, bRepo q)]⟩, fun i => i ≤ r.heads.length ∧ (r.commits = q.commits ∧ r.heads.length = q.heads.length) ∧ r.heads.take i = q.heads.take i, fun i => r.heads.length - i⟩
def smRInv (r q : RepoD) (n g : Nat) : Inv := if n = 4 then smRA r q else smRB r q
theorem smRInv_4 (r q g) : smRInv r q 4 g = smRA r q := rfl
theorem smRInv_9 (r q g) : smRInv r q 9 g = smRB r q := rfl
theorem RepoD.eqs (a b : RepoD) : (a = b) = (a.commits = b.commits ∧ a.heads = b.heads) := by cases a; cases b; simp
end Vx
end Go.Proofs.YtnanellmaelipaaGreatDoor
/-
  The law FnSeekAll.
-/
namespace Go.Proofs.YtnanellmaelipaaGreatDoor
namespace Vx
open Go.RowKit
set_option maxRecDepth 8000

theorem drawn_pre {r : RepoD} (h : drawnR r) : rpPre r := ⟨by have := h.1; omega, fun c hc f hf => by have := treeS_path (h.2.2 c hc).2.1 f hf; omega⟩
theorem allW_mem {r : RepoD} (h : repoI r = true) {c : Nat} (hc : c < r.commits.length) (w : Str) : ((c : Int) ∈ allW r w) ↔ 0 < (treeSeekI r.commits[c].tree w).length := by
  have hT := (repo_use h hc).2.2
  rw [seek_eq]
  unfold treeSeekS allW
  rw [← tree_eq, hT, h]
  simp only [Bool.true_and]
  cases hw : nameB w with
  | false => simp
  | true =>
    simp only [if_true, allF, List.mem_filter, List.mem_map, List.mem_range]
    have e : hasC r w (c : Int) = true ↔ 0 < (seekL (hitS w) r.commits[c].tree).length := by
      unfold hasC
      rw [tree_at hc]
      cases seekL (hitS w) r.commits[c].tree <;> simp
    constructor
    · rintro ⟨_, h2⟩; exact e.1 h2
    · intro h2; exact ⟨⟨c, hc, rfl⟩, e.2 h2⟩
theorem allW_asc (r : RepoD) (w : Str) : (allW r w).Pairwise (· < ·) := by
  unfold allW
  split
  · unfold allF
    apply List.Pairwise.filter
    rw [List.pairwise_map]
    exact List.Pairwise.imp (fun h => by omega) List.pairwise_lt_range
  · exact List.Pairwise.nil

theorem allW_len (r : RepoD) (w : Str) (h : r.commits.length ≤ 16) : (allW r w).length ≤ 16 := by
  unfold allW
  split
  · unfold allF
    refine Nat.le_trans (List.length_filter_le _ _) ?_
    simp; omega
  · simp

abbrev saEnv (r : RepoD) (w : Str) (x : List (Nat × Bool × AV)) : Sc := ⟨[(2, true, .bool false), (3, true, .ptr 10 0), (4, true, .str w), (5, true, .own 9 1 (eInts (allW r w)))] ++ x, [(10, .box 26 [.sl false 3 (eCommits r.commits), .sl false 2 (eHeads r.heads)]), (9, .own 3 1 true (eInts (allW r w)))]⟩
def saA : Inv := ⟨RepoD × Str × Nat, fun x => saEnv x.1 x.2.1 [(6, true, .int .i64 x.2.2)], fun x => drawnR x.1 ∧ repoI x.1 = true ∧ x.2.2 ≤ x.1.commits.length, fun x => 16 - x.2.2⟩
def saB : Inv := ⟨RepoD × Str × Nat, fun x => saEnv x.1 x.2.1 [(7, true, .int .i64 (x.2.2 + 1))], fun x => drawnR x.1 ∧ repoI x.1 = true ∧ x.2.2 ≤ (allW x.1 x.2.1).length, fun x => 16 - x.2.2⟩
def saInv (n g : Nat) : Inv := if n = 8 then saA else saB
theorem saInv_8 (g : Nat) : saInv 8 g = saA := rfl
theorem saInv_13 (g : Nat) : saInv 13 g = saB := rfl
end Vx
end Go.Proofs.YtnanellmaelipaaGreatDoor
/-
  The law FnStatOf.
-/
namespace Go.Proofs.YtnanellmaelipaaGreatDoor
namespace Vx
open Go.RowKit
set_option maxRecDepth 8000
--TAB tTabC

theorem treeI_nodup {t : List FileD} (h : treeI t = true) : (t.map (·.path)).Nodup := by
  simp only [treeI, Bool.and_eq_true, decide_eq_true_eq, List.all_eq_true, List.mem_range] at h
  have hasc : ∀ i k, i < k → k < t.length → (t.getD i default).path < (t.getD k default).path := by
    intro i k hik hk
    induction k with
    | zero => omega
    | succ k ih =>
      have h1 := h.2 (k + 1) hk
      simp only [headI, Bool.and_eq_true, Bool.or_eq_true, decide_eq_true_eq, less_eq, Nat.add_sub_cancel] at h1
      have h2 : (t.getD k default).path < (t.getD (k + 1) default).path := by
        rcases h1.1.2 with h2 | h2
        · omega
        · exact h2
      rcases Nat.lt_or_ge i k with h3 | h3
      · exact str_trans (ih h3 (by omega)) h2
      · have : i = k := by omega
        subst this; exact h2
  refine List.pairwise_iff_getElem.2 fun i j hi hj hij => ?_
  simp only [List.length_map] at hi hj
  have := hasc i j hij hj
  rw [List.getD_eq_getElem?_getD, List.getD_eq_getElem?_getD, List.getElem?_eq_getElem hi, List.getElem?_eq_getElem hj] at this
  simp only [Option.getD_some] at this
  simp only [List.getElem_map]
  intro e
  rw [e] at this
  exact str_irrefl _ this
theorem srt_nodup {l : List Str} (h : srt l) : l.Nodup := h.imp fun h e => by subst e; exact str_irrefl _ h
theorem perm_of {l m : List Str} (hl : l.Nodup) (hm : m.Nodup) (h : ∀ x, x ∈ l ↔ x ∈ m) : l.Perm m := by
  refine List.perm_iff_count.2 fun a => ?_
  rw [hl.count, hm.count]
  by_cases q : a ∈ l
  · rw [if_pos q, if_pos ((h a).1 q)]
  · rw [if_neg q, if_neg fun q2 => q ((h a).2 q2)]
theorem getL_mem {t : List FileD} (hn : (t.map (·.path)).Nodup) {f : FileD} (hf : f ∈ t) : getL t f.path = (f.text, true) := by
  induction t with
  | nil => cases hf
  | cons g t ih =>
    unfold getL
    have hn := List.nodup_cons.1 hn
    rcases List.mem_cons.1 hf with rfl | hf
    · rw [if_pos rfl]
    · rw [if_neg fun e => hn.1 (List.mem_map.2 ⟨f, hf, e.symm⟩)]
      exact ih hn.2 hf
theorem getL_not {t : List FileD} {p : Str} (h : p ∉ t.map (·.path)) : getL t p = ([], false) := by
  induction t with
  | nil => rfl
  | cons g t ih =>
    unfold getL
    simp only [List.map_cons, List.mem_cons, not_or] at h
    rw [if_neg fun e => h.1 e.symm]
    exact ih h.2
theorem getL_there {t : List FileD} {p : Str} : (getL t p).2 = true ↔ p ∈ t.map (·.path) := by
  induction t with
  | nil => simp -implicitDefEqProofs [getL]
  | cons g t ih =>
    unfold getL
    by_cases e : g.path = p
    · rw [if_pos e]; simp -implicitDefEqProofs [e]
    · rw [if_neg e, ih]; simp -implicitDefEqProofs [Ne.symm e]
def outOf (t u : List FileD) : List FileD := u.filter fun f => !(getL t f.path).2
theorem paths_perm {t u : List FileD} {P : List Str} (hP : P.Nodup) (hm : ∀ x, x ∈ P ↔ x ∈ t.map (·.path) ∨ x ∈ u.map (·.path)) (ht : (t.map (·.path)).Nodup) (hu : (u.map (·.path)).Nodup) : P.Perm (t.map (·.path) ++ (outOf t u).map (·.path)) := by
  have h0 : ∀ x, x ∈ (outOf t u).map (·.path) ↔ x ∈ u.map (·.path) ∧ x ∉ t.map (·.path) := by
    intro x
    unfold outOf
    simp only [List.mem_map, List.mem_filter, Bool.not_eq_true']
    constructor
    · rintro ⟨f, ⟨h1, h2⟩, rfl⟩
      refine ⟨⟨f, h1, rfl⟩, fun h3 => ?_⟩
      have := getL_there.2 (show f.path ∈ t.map (·.path) from List.mem_map.2 h3)
      rw [h2] at this; cases this
    · rintro ⟨⟨f, h1, rfl⟩, h2⟩
      refine ⟨f, ⟨h1, ?_⟩, rfl⟩
      cases h3 : (getL t f.path).2 with
      | false => rfl
      | true => exact absurd (List.mem_map.1 (getL_there.1 h3)) h2
  refine perm_of hP ?_ fun x => ?_
  · refine List.nodup_append.2 ⟨ht, ?_, fun a ha b hb e => ?_⟩
    · exact hu.sublist (List.filter_sublist.map _)
    · subst e; exact ((h0 a).1 hb).2 ha
  · rw [hm, List.mem_append, h0]
    constructor
    · rintro (h | h)
      · exact .inl h
      · by_cases q : x ∈ t.map (·.path)
        · exact .inl q
        · exact .inr ⟨h, q⟩
    · rintro (h | h)
      · exact .inl h
      · exact .inr h.1
theorem perm_sum {l m : List Int} (h : l.Perm m) : l.sum = m.sum := by
  induction h with
  | nil => rfl
  | cons x _ ih => simp -implicitDefEqProofs [ih]
  | swap x y l => simp; omega
  | trans _ _ h1 h2 => exact h1.trans h2
theorem sum_paths {t u : List FileD} {P : List Str} (g : Str → Int) (hP : P.Nodup) (hm : ∀ x, x ∈ P ↔ x ∈ t.map (·.path) ∨ x ∈ u.map (·.path)) (ht : (t.map (·.path)).Nodup) (hu : (u.map (·.path)).Nodup) :
    (P.map g).sum = (t.map fun f => g f.path).sum + ((outOf t u).map fun f => g f.path).sum := by
  rw [perm_sum ((paths_perm hP hm ht hu).map g), List.map_append, List.sum_append, List.map_map, List.map_map]; rfl
theorem sum_zero {l : List FileD} {g : FileD → Int} (h : ∀ f ∈ l, g f = 0) : (l.map g).sum = 0 := by
  induction l with
  | nil => rfl
  | cons x l ih => rw [List.map_cons, List.sum_cons, h x (by simp), ih fun f hf => h f (by simp -implicitDefEqProofs [hf])]; rfl
theorem sum_same {l : List FileD} {g h : FileD → Int} (e : ∀ f ∈ l, g f = h f) : (l.map g).sum = (l.map h).sum := by
  rw [List.map_congr_left e]
theorem nLines_sum (t : List FileD) : (nLines t : Int) = (t.map fun f => (f.text.length : Int)).sum := by
  unfold nLines
  induction t with
  | nil => rfl
  | cons f t ih => simp only [List.map_cons, List.sum_cons, Int.natCast_add, ih]
theorem lines_of {t u : List FileD} {P : List Str} (hP : P.Nodup) (hm : ∀ x, x ∈ P ↔ x ∈ t.map (·.path) ∨ x ∈ u.map (·.path)) (ht : (t.map (·.path)).Nodup) (hu : (u.map (·.path)).Nodup) :
    (P.map fun p => ((getL t p).1.length : Int)).sum = nLines t := by
  rw [sum_paths _ hP hm ht hu, nLines_sum]
  rw [sum_zero (l := outOf t u) (g := fun f => ((getL t f.path).1.length : Int)), Int.add_zero]
  · exact sum_same fun f hf => by rw [getL_mem ht hf]
  · intro f hf
    have h2 := (List.mem_filter.1 hf).2
    rw [getL_not]; rfl
    intro q
    rw [getL_there.2 q] at h2; cases h2
theorem sum_sub (f g : Str → Int) : ∀ l : List Str, (l.map fun p => f p - g p).sum = (l.map f).sum - (l.map g).sum
  | [] => rfl
  | x :: l => by simp only [List.map_cons, List.sum_cons, sum_sub f g l]; omega
theorem sum_add (f g : Str → Int) : ∀ l : List Str, (l.map fun p => f p + g p).sum = (l.map f).sum + (l.map g).sum
  | [] => rfl
  | x :: l => by simp only [List.map_cons, List.sum_cons, sum_add f g l]; omega
theorem lcs_nil (a : List Str) : lcs a [] = 0 := by cases a <;> simp -implicitDefEqProofs [lcs]
def dm (a b : List Str) : Int := (a.length : Int) + b.length - 2 * lcs a b
def sumA (o n : List FileD) (l : List FileD) : Int := (l.map fun f => dm (getL o f.path).1 f.text).sum
def sumB (n : List FileD) (l : List FileD) : Int := (l.map fun f => if (getL n f.path).2 then 0 else (f.text.length : Int)).sum
theorem sum_filter (n : List FileD) (g : FileD → Int) : ∀ l : List FileD, ((outOf n l).map g).sum = (l.map fun f => if (getL n f.path).2 then 0 else g f).sum
  | [] => rfl
  | x :: l => by
    have := sum_filter n g l
    unfold outOf at *
    rw [List.filter_cons]
    cases h : (getL n x.path).2 with
    | true => simp -implicitDefEqProofs [h, this]
    | false => simp -implicitDefEqProofs [h, this]
theorem stat_law {o n : List FileD} (ho : treeI o = true) (hn : treeI n = true) :
    more26 o n (paths6 o n []) - less26 o n (paths6 o n []) = (nLines n : Int) - nLines o ∧ more26 o n (paths6 o n []) + less26 o n (paths6 o n []) = sumA o n n + sumB n o := by
  obtain ⟨h1, h2⟩ := paths6_srt o n []
  have hP := srt_nodup h1
  have dn := treeI_nodup hn
  have d0 := treeI_nodup ho
  have m1 : ∀ x, x ∈ paths6 o n [] ↔ x ∈ n.map (·.path) ∨ x ∈ o.map (·.path) := fun x => by rw [h2]; simp -implicitDefEqProofs [or_comm]
  have m2 : ∀ x, x ∈ paths6 o n [] ↔ x ∈ o.map (·.path) ∨ x ∈ n.map (·.path) := fun x => by rw [h2]; simp
  constructor
  · unfold more26 less26
    rw [← sum_sub, ← lines_of hP m1 dn d0, ← lines_of hP m2 d0 dn, ← sum_sub]
    congr 1
    refine List.map_congr_left fun p _ => ?_
    unfold moreP lessP; omega
  · unfold more26 less26 sumA sumB
    rw [← sum_add, sum_paths _ hP m1 dn d0, ← sum_filter]
    congr 1
    · refine sum_same fun f hf => ?_
      unfold moreP lessP dm
      rw [getL_mem dn hf]
      show _ = (((getL o f.path).1.length : Int)) + f.text.length - 2 * lcs (getL o f.path).1 f.text
      simp only []
      omega
    · refine sum_same fun f hf => ?_
      obtain ⟨q1, q2⟩ := List.mem_filter.1 hf
      unfold moreP lessP
      rw [getL_mem d0 q1, getL_not (t := n) fun q => by rw [getL_there.2 q] at q2; cases q2]
      simp only [lcs_nil, List.length_nil]
      omega

def dmI (a b : List Str) : Int := if textB a && textB b then dm a b else -1
def cDiffMany : Con := .fn 27 (List Str × List Str) (fun a => [.sl true 1 (eStrs a.1), .sl true 1 (eStrs a.2)]) (fun a => a.1.length ≤ 1048576 ∧ a.2.length ≤ 1048576) (fun a => .int .i64 (dmI a.1 a.2)) (fun _ => [])
set_option maxHeartbeats 4000000 in
theorem diffMany_has : Has Tryz.prog 37 cDiffMany := by
  refine has_walk mixed tTabC_ok (l := [(109, cTextOk), (105, cLcsI)]) (HasL.cons textOk_has (HasL.cons lcsI_has HasL.nil)) [0, 1, 4] ((fun a n (_ : Nat) => (fun _ => noInv) a n)) [] Tryz.func37 (by kernel_rfl) (code := _) (by unfold Tryz.f37; rfl) (by kernel_rfl) (by decide) (fun _ => ⟨(), trivial⟩) (by intro h; first | exact fun _ => rfl | cases h) (by kernel_rfl) ?_
  intro a ha
  obtain ⟨a, b⟩ := a
  obtain ⟨h1, h2⟩ : a.length ≤ 1048576 ∧ b.length ≤ 1048576 := ha
  simp (maxSteps := 8000000) -implicitDefEqProofs [-kStep_move, -Bool.exists_bool, cDiffMany, cTextOk, cLcsI, Con.fn, tTabC, tTab]
  try dsimp only
  have e0 : (textB a = false ∨ textB b = false) → dmI a b = -1 := fun h => by unfold dmI; rw [if_neg]; rcases h with h | h <;> simp -implicitDefEqProofs [h]
  have e1 : textB a = true → textB b = true → dmI a b = a.length + b.length - 2 * lcs a b := fun h h' => by unfold dmI; rw [h, h']; rfl
  refine ⟨e0, fun g1 g2 _ _ => ⟨by omega, fun _ _ => ⟨a, b, ⟨rfl, rfl⟩, ⟨h1, h2⟩, ?_⟩⟩⟩
  rw [e1 g1 g2]
  obtain ⟨t1, t2, t3, t4⟩ := tab00 a b
  have hc := lcs_bd a b
  clear e0 e1
  generalize lcs a b = L at *
  generalize tabF a b 0 0 = T at *
  generalize tabR a b 0 0 0 = R at *
  have t5 : R.head? = some L := by rw [List.head?_eq_getElem?]; exact t2
  simp -implicitDefEqProofs [t1, t2, t5, eRow, eInt, D.asRows, D.asInt]
  exact ⟨t3, fun _ => ⟨t4, fun _ => ⟨by omega, fun _ _ => by omega⟩⟩⟩

def cDrawRepoTree : Con := { A := Str, X := RepoD × Int, n := 14, args := fun s => [.sl true 1 (eBytes s)], boxes := fun _ => [], pre := fun _ => True, post := fun _ x => drawnR x.1, res := fun _ x => .tup [.agg [.sl false 3 (eCommits x.1.commits), .sl false 2 (eHeads x.1.heads)], .int .i64 x.2], fin := fun _ _ => [] }
set_option maxHeartbeats 4000000 in
theorem drawRepoTree_has : Has Tryz.prog 101 cDrawRepoTree := by
  refine has_walk mixed tTabC_ok (l := [(75, cL30Open), (76, cAnyRepoD), (78, cAtD)]) (HasL.cons l30Open_has (HasL.cons anyRepoD_has (HasL.cons atD_has HasL.nil))) [0, 2, 3, 4, 5] ((fun a n (_ : Nat) => (fun _ => noInv) a n)) [8191, 12287] Tryz.func101 (by kernel_rfl) (code := _) (by unfold Tryz.f101; rfl) (by kernel_rfl) (by decide) (fun _ => ⟨(noR, 0), plR_drawn plR_no⟩) (by intro h; first | exact fun _ => rfl | cases h) (by kernel_rfl) ?_
  intro (s : Str) _
  simp (maxSteps := 8000000) -implicitDefEqProofs [-kStep_move, -Bool.exists_bool, cDrawRepoTree, cL30Open, cAnyRepoD, cAtD, Con.fn, tTabC, tTab, eStrs_isCons, clash, kd, eByte, all_true]
  have hl : (s.take 2000).length ≤ 2000 := by simp; omega
  exact ⟨_, _, ⟨rfl, rfl⟩, ⟨hl, by omega, by omega⟩, fun r p g1 g2 g3 => ⟨_, _, ⟨rfl, rfl⟩, ⟨⟨hl, by omega, by omega⟩, by have := g1.1; omega⟩, fun y _ _ => ⟨r, g1, rfl, rfl⟩⟩⟩
def cDrawStatOf : Con := { A := Str, X := RepoD × Int, n := 8, args := fun s => [.sl true 1 (eBytes s)], boxes := fun _ => [], pre := fun _ => True, post := fun _ x => drawnR x.1, res := fun _ x => .tup [.agg [.sl false 3 (eCommits x.1.commits), .sl false 2 (eHeads x.1.heads)], .int .i64 x.2], fin := fun _ _ => [] }
set_option maxHeartbeats 4000000 in
theorem drawStatOf_has : Has Tryz.prog 33 cDrawStatOf := by
  refine has_walk mixed tTabC_ok (l := [(101, cDrawRepoTree)]) (HasL.cons drawRepoTree_has HasL.nil) [0, 2, 3] ((fun a n (_ : Nat) => (fun _ => noInv) a n)) [] Tryz.func33 (by kernel_rfl) (code := _) (by unfold Tryz.f33; rfl) (by kernel_rfl) (by decide) (fun _ => ⟨(noR, 0), plR_drawn plR_no⟩) (by intro h; first | exact fun _ => rfl | cases h) (by kernel_rfl) ?_
  intro (s : Str) _
  simp (maxSteps := 8000000) -implicitDefEqProofs [-kStep_move, -Bool.exists_bool, cDrawStatOf, cDrawRepoTree, Con.fn, tTabC, tTab]
  try dsimp only
  exact fun r h => ⟨r, h, rfl, rfl⟩

theorem treeI_text {t : List FileD} (h : treeI t = true) : ∀ f ∈ t, textB f.text = true := by
  simp only [treeI, Bool.and_eq_true, decide_eq_true_eq, List.all_eq_true, List.mem_range] at h
  intro f hf
  obtain ⟨i, hi, rfl⟩ := List.getElem_of_mem hf
  have := (h.2 i hi).1
  simp only [headI, Bool.and_eq_true] at this
  have e : t.getD i default = t[i] := by simp -implicitDefEqProofs [List.getD_eq_getElem?_getD, hi]
  rw [e] at this
  exact this.1.1
theorem getL_text {t : List FileD} (h : ∀ f ∈ t, textB f.text = true) (p : Str) : textB (getL t p).1 = true := by
  induction t with
  | nil => rfl
  | cons f t ih =>
    unfold getL
    split
    · exact h f (by simp)
    · exact ih fun g hg => h g (by simp -implicitDefEqProofs [hg])
theorem dmI_get {o n : List FileD} (ho : treeI o = true) (hn : treeI n = true) {f : FileD} (hf : f ∈ n) : dmI (treeGetI o f.path).1 f.text = dm (getL o f.path).1 f.text ∧ (treeGetI o f.path).1.length ≤ 64 ∧ f.text.length ≤ 64 ∧ -64 ≤ dm (getL o f.path).1 f.text ∧ dm (getL o f.path).1 f.text ≤ 128 := by
  have e : treeGetI o f.path = getL o f.path := by unfold treeGetI; rw [if_pos ho, getI_eq]
  have h1 := (treeI_le n hn).2 f hf
  have h2 := getL_len (treeI_le o ho).2 f.path
  have h3 := lcs_bd (getL o f.path).1 f.text
  refine ⟨?_, by rw [e]; exact h2, h1, ?_, ?_⟩
  · rw [e]; unfold dmI; rw [getL_text (treeI_text ho), treeI_text hn f hf]; rfl
  · unfold dm; omega
  · unfold dm; omega
theorem sumA_succ {o n : List FileD} {i : Nat} (h : i < n.length) : sumA o n (n.take (i + 1)) = sumA o n (n.take i) + dm (getL o n[i].path).1 n[i].text := by
  unfold sumA; rw [take_succ' h, List.map_append, List.sum_append]; simp only [List.map_cons, List.map_nil, List.sum_cons, List.sum_nil]; omega
theorem sumB_succ {o n : List FileD} {i : Nat} (h : i < o.length) : sumB n (o.take (i + 1)) = sumB n (o.take i) + (if (getL n o[i].path).2 then 0 else (o[i].text.length : Int)) := by
  unfold sumB; rw [take_succ' h, List.map_append, List.sum_append]; simp only [List.map_cons, List.map_nil, List.sum_cons, List.sum_nil]; omega
theorem sum_bd2 {g : FileD → Int} : ∀ l : List FileD, (∀ f ∈ l, -64 ≤ g f ∧ g f ≤ 128) → -64 * (l.length : Int) ≤ (l.map g).sum ∧ (l.map g).sum ≤ 128 * (l.length : Int)
  | [], _ => by simp
  | x :: l, h => by
    have := sum_bd2 l fun f hf => h f (by simp -implicitDefEqProofs [hf])
    have h1 := h x (by simp)
    simp only [List.map_cons, List.sum_cons, List.length_cons, Int.natCast_add, Int.natCast_one]
    omega
theorem sumA_bd {o n : List FileD} (ho : treeI o = true) (hn : treeI n = true) (i : Nat) : -512 ≤ sumA o n (n.take i) ∧ sumA o n (n.take i) ≤ 1024 := by
  have h1 := (treeI_le n hn).1
  have h2 : (n.take i).length ≤ n.length := by rw [List.length_take]; omega
  have h3 := sum_bd2 (g := fun f => dm (getL o f.path).1 f.text) (n.take i) fun f hf => by
    have := dmI_get ho hn (List.mem_of_mem_take hf)
    exact this.2.2.2
  unfold sumA; omega
theorem sumB_bd {o : List FileD} (n : List FileD) (ho : treeI o = true) (i : Nat) : -512 ≤ sumB n (o.take i) ∧ sumB n (o.take i) ≤ 1024 := by
  have h1 := (treeI_le o ho)
  have h2 : (o.take i).length ≤ o.length := by rw [List.length_take]; omega
  have h3 := sum_bd2 (g := fun f => if (getL n f.path).2 then 0 else (f.text.length : Int)) (o.take i) fun f hf => by
    have := h1.2 f (List.mem_of_mem_take hf)
    split <;> omega
  have h1 := h1.1
  unfold sumB; omega
def stOk (o n : List FileD) : Prop := treeI o = true ∧ treeI n = true ∧ okSz o ∧ okSz n
def mo (o n : List FileD) : Int := more26 o n (paths6 o n [])
def le (o n : List FileD) : Int := less26 o n (paths6 o n [])
def stA : Inv := ⟨List FileD × List FileD × Nat, fun x => ⟨[(2, true, .bool false), (5, true, .int .i64 (mo x.1 x.2.1)), (6, true, .int .i64 (le x.1 x.2.1)), (9, true, .sl false 2 (eFiles x.1)), (10, true, .sl false 2 (eFiles x.2.1)), (11, true, .int .i64 (sumA x.1 x.2.1 (x.2.1.take x.2.2))), (12, true, .int .i64 x.2.2)], []⟩, fun x => stOk x.1 x.2.1 ∧ x.2.2 ≤ x.2.1.length, fun x => 8 - x.2.2⟩
def stB : Inv := ⟨List FileD × List FileD × Nat, fun x => ⟨[(2, true, .bool false), (5, true, .int .i64 (mo x.1 x.2.1)), (6, true, .int .i64 (le x.1 x.2.1)), (9, true, .sl false 2 (eFiles x.1)), (10, true, .sl false 2 (eFiles x.2.1)), (11, true, .int .i64 (sumA x.1 x.2.1 x.2.1 + sumB x.2.1 (x.1.take x.2.2))), (15, true, .int .i64 x.2.2)], []⟩, fun x => stOk x.1 x.2.1 ∧ x.2.2 ≤ x.1.length, fun x => 8 - x.2.2⟩
def stInv (k : Nat) : Inv := if k = 14 then stA else stB
theorem stInv_14 : stInv 14 = stA := rfl
theorem stInv_19 : stInv 19 = stB := rfl
def cFnStatOf : Con := .fn 160 Str (fun s => [.sl true 1 (eBytes s)]) (fun _ => True) (fun _ => .bool true) (fun _ => [])
set_option maxHeartbeats 4000000 in
theorem fnStatOf_has : Has Tryz.prog 6 cFnStatOf := by
  refine has_walk mixed tTabC_ok (l := [(33, cDrawStatOf), (34, cStatOfI), (35, cStatOfS), (36, cTreeGet), (37, cDiffMany), (38, cStatLinesI), (39, cStatLinesS)]) (HasL.cons drawStatOf_has (HasL.cons statOfI_has (HasL.cons statOfS_has (HasL.cons treeGet_has (HasL.cons diffMany_has (HasL.cons statLinesI_has (HasL.cons statLinesS_has HasL.nil))))))) [0, 2, 3, 4, 5, 6, 7, 8, 9, 10, 11, 12, 13, 15, 17] ((fun a n (_ : Nat) => (fun _ n => stInv n) a n)) [] Tryz.func6 (by kernel_rfl) (code := _) (by unfold Tryz.f6; rfl) (by kernel_rfl) (by decide) (fun _ => ⟨(), trivial⟩) (by intro h; first | exact fun _ => rfl | cases h) (by kernel_rfl) ?_
  intro (s : Str) _
  simp (maxSteps := 8000000) -implicitDefEqProofs [-kStep_move, -kStepC_move, -Bool.exists_bool, cFnStatOf, cDrawStatOf, cStatOfI, cStatOfS, cTreeGet, cDiffMany, cStatLinesI, cStatLinesS, Con.fn, tTabC, tTab, stInv_14, stInv_19, stA, stB]
  try dsimp only
  simp -implicitDefEqProofs only [and_assoc, exists_eq_left, exists_and_left, RepoD.ex1, RepoD.eta]
  simp -implicitDefEqProofs only [not_true_eq_false, or_self, false_or, and_self, true_or, or_true, true_implies, implies_true, true_and, and_true]
  intro _ _ r n hd
  have hp := drawn_pre hd
  refine ⟨hp, hp, fun h0 => ?_⟩
  have hI : repoI r = true ∧ 0 ≤ n ∧ n < r.commits.length := by
    by_cases q : repoI r = true ∧ 0 ≤ n ∧ n < r.commits.length
    · exact q
    · unfold statOf at h0; rw [if_neg q] at h0; exact absurd h0 (by decide)
  have e1 : statOf r n = (mo (treeN r (firstP r n)) (treeAt r n), le (treeN r (firstP r n)) (treeAt r n)) := by unfold statOf mo le; rw [if_pos hI]
  obtain ⟨hI, g0, g1⟩ := hI
  have hm : ∀ p ∈ (r.commits.getD n.toNat default).parents, 0 ≤ p ∧ p < r.commits.length := fun p hp => by
    have hc : n.toNat < r.commits.length := by omega
    have := (repo_use hI hc).2.1 p (by simpa [List.getD_eq_getElem?_getD, hc] using hp)
    omega
  have hs : ∀ a, treeI (treeAt r a) = true ∧ okSz (treeAt r a) := fun a => by
    have h := repoS_treeAt (r := r) (by rw [← repo_eq]; exact hI) a
    obtain ⟨t1, t2⟩ := treeS_le _ h
    exact ⟨by rw [tree_eq]; exact h, by omega, fun f hf => by have := t2 f hf; omega, fun f hf => by have := treeS_path h f hf; omega⟩
  have cg := cget (r := r) g0 g1
  have ef : firstP r n = (r.commits.getD n.toNat default).parents.headD (-1) := rfl
  rw [e1, cg]
  refine ⟨g0, g1, fun _ _ => ?_⟩
  obtain ⟨hn1, hn2⟩ := hs n
  clear e1 cg h0
  generalize treeAt r n = t at *
  generalize (r.commits.getD n.toNat default).parents = P at *
  cases P
  case' nil =>
    have eo : treeN r (firstP r n) = [] := by rw [ef]; rfl
    rw [eo]
    simp -implicitDefEqProofs
    refine ⟨g0, g1, fun _ _ => ⟨⟨[], t, rfl, rfl, rfl, rfl, 0, by simp -implicitDefEqProofs [sumA], rfl, ⟨rfl, hn1, ⟨by simp, by simp, by simp⟩, hn2⟩, Nat.zero_le _⟩, ?_⟩⟩
    clear hm ef eo hn1 hn2 hs hd hp hI g0 g1
  case' cons p P =>
    obtain ⟨p0, p1⟩ := hm p (by simp)
    have eo : treeN r (firstP r n) = treeAt r p := by rw [ef]; unfold treeN; rw [if_neg (by simp; omega)]; rfl
    have cp := cget p0 p1
    obtain ⟨ho1, ho2⟩ := hs p
    rw [eo]
    simp -implicitDefEqProofs [eInts, eInt, cp]
    intro _
    refine ⟨g0, g1, fun _ _ => ⟨p0, p1, fun _ _ => ⟨g0, g1, fun _ _ => ⟨⟨treeAt r p, t, rfl, rfl, rfl, rfl, 0, by simp -implicitDefEqProofs [sumA], rfl, ⟨ho1, hn1, ho2, hn2⟩, Nat.zero_le _⟩, ?_⟩⟩⟩⟩
    clear hm ef eo cp ho1 ho2 p0 p1 hn1 hn2 hs hd hp hI g0 g1
  all_goals
    intro o t i ok hi _
    have bA := sumA_bd ok.1 ok.2.1
    have bB := sumB_bd t ok.1
    have ho8 := (treeI_le o ok.1).1
    have ht8 := (treeI_le t ok.2.1).1
    refine ⟨fun hlt => ⟨hlt, fun _ => ?_⟩, fun hge => ?_⟩
    · have qq : Option.map eFile t[i]? = some (eFile t[i]) := by simp -implicitDefEqProofs [hlt]
      have hf := dmI_get ok.1 ok.2.1 (List.getElem_mem hlt)
      have hs := sumA_succ (o := o) hlt
      have b0 := bA i
      rw [qq]
      generalize t[i] = f at *
      simp -implicitDefEqProofs [eFile]
      obtain ⟨f1, f2, f3, f4, f5⟩ := hf
      rw [f1]
      exact ⟨ok.2.2.1, hlt, fun _ => ⟨by omega, by omega, by omega, by omega, fun _ _ => ⟨by omega, by omega, fun _ _ => ⟨o, t, rfl, rfl, rfl, rfl, i + 1, hs, by omega, ok, by omega, by omega⟩⟩⟩⟩
    · have he : t.take i = t := List.take_of_length_le hge
      refine ⟨⟨o, t, rfl, rfl, rfl, rfl, 0, by rw [he]; simp -implicitDefEqProofs [sumB], rfl, ok, Nat.zero_le _⟩, ?_⟩
      clear he hge hi bA bB ho8 ht8
      clear ok
      intro o t i ok hi _
      have bA := sumA_bd ok.1 ok.2.1 t.length
      rw [List.take_length] at bA
      have bB := sumB_bd t ok.1
      have ho8 := (treeI_le o ok.1).1
      have ht8 := (treeI_le t ok.2.1).1
      refine ⟨fun hlt => ⟨hlt, fun _ => ?_⟩, fun hge => ?_⟩
      · have qq : Option.map eFile o[i]? = some (eFile o[i]) := by simp -implicitDefEqProofs [hlt]
        have hf := (treeI_le o ok.1).2 _ (List.getElem_mem hlt)
        have hs := sumB_succ (n := t) hlt
        have b0 := bB i
        rw [qq]
        generalize o[i] = f at *
        simp -implicitDefEqProofs [eFile]
        have e : treeGetI t f.path = getL t f.path := by unfold treeGetI; rw [if_pos ok.2.1, getI_eq]
        rw [e]
        refine ⟨ok.2.2.2, fun h => ⟨hlt, fun _ _ => ⟨by omega, by omega, fun _ _ => ⟨by omega, by omega, fun _ _ => ⟨o, t, rfl, rfl, rfl, rfl, i + 1, ?_, by omega, ok, by omega, by omega⟩⟩⟩⟩, fun h => ⟨by omega, by omega, fun _ _ => ⟨o, t, rfl, rfl, rfl, rfl, i + 1, ?_, by omega, ok, by omega, by omega⟩⟩⟩
        · rw [hs, h]; simp; omega
        · rw [hs, h]; simp
      · have he : o.take i = o := List.take_of_length_le hge
        obtain ⟨l1, l2⟩ := stat_law ok.1 ok.2.1
        have bM := @m_take o t ⟨by omega, ok.2.2.1.2.1⟩ ⟨by omega, ok.2.2.2.2.1⟩ (paths6 o t []) (by have := paths6_len o t []; simp only [List.length_nil, Nat.add_zero] at this; omega) (paths6 o t []).length
        rw [List.take_length] at bM
        have s1 : statI t = nLines t := by unfold statI; rw [if_pos ok.2.1]
        have s2 : statI o = nLines o := by unfold statI; rw [if_pos ok.1]
        have q1 : mo o t - le o t = statI t - statI o := by rw [s1, s2]; exact l1
        have q2 : mo o t + le o t = sumA o t t + sumB t (List.take i o) := by rw [he]; exact l2
        have bM : -209715200000 ≤ mo o t ∧ mo o t ≤ 209715200000 ∧ -209715200000 ≤ le o t ∧ le o t ≤ 209715200000 := bM
        exact ⟨by omega, by omega, fun _ _ => ⟨ok.2.2.2.2.2, ok.2.2.1.2.2, by omega, by omega, fun _ _ => ⟨fun _ => ⟨q1, by omega, by omega⟩, fun _ => ⟨fun _ _ => ⟨q1, q2, ok.2.2.2.2.2⟩, .inr ⟨q1, q2⟩, fun _ => ⟨q1, q2, stat_eq t⟩⟩⟩⟩⟩

end Vx
end Go.Proofs.YtnanellmaelipaaGreatDoor
