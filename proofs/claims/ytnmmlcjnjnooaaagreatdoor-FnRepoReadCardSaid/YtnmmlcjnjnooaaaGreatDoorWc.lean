/-
  Joined by program (merge.py): Ka, Kg, Kh, Ki, Hc, Hd, Kj, Kk, Sn, Ob. It shows what the single texts show; conditions: none but those of each lemma.
-/
import Derived.Test.YtnmmlcjnjnooaaaGreatDoorWb
set_option linter.unusedVariables false
set_option linter.unusedSimpArgs false
set_option linter.unusedSectionVars false
/-
  Contracts: repositories written (l24Repo, repoPut).
-/
namespace Go.Proofs.YtnmmlcjnjnooaaaGreatDoor
namespace Vx
open Go.RowKit
set_option maxRecDepth 8000

def parT (l : List Int) : Str := (l.map fun p => 32 :: decS p.toNat).flatten
def comW (c : CommitD) : Str := [99, 111, 109, 109, 105, 116, 32] ++ c.who
def comT (c : CommitD) : Str := comW c ++ parT c.parents ++ ([10] ++ treeT c.tree)
def comsT (l : List CommitD) : Str := (l.map comT).flatten
def headT (h : HeadD) : Str := [98, 114, 97, 110, 99, 104, 32] ++ h.name ++ [32] ++ decS h.at_.toNat ++ [10]
def headsT (l : List HeadD) : Str := (l.map headT).flatten
def repoT (r : RepoD) : Str := comsT r.commits ++ headsT r.heads
def okC (c : CommitD) : Prop := c.parents.length ≤ 2 ∧ (∀ p ∈ c.parents, 0 ≤ p ∧ p < 100) ∧ c.who.length ≤ 64 ∧ okT c.tree
def okH (h : HeadD) : Prop := h.name.length ≤ 64 ∧ 0 ≤ h.at_ ∧ h.at_ < 100
def okR (r : RepoD) : Prop := r.commits.length ≤ 16 ∧ (∀ c ∈ r.commits, okC c) ∧ r.heads.length ≤ 8 ∧ ∀ h ∈ r.heads, okH h
theorem parT_take (l : List Int) (k : Nat) (h : k < l.length) : parT (l.take (k + 1)) = parT (l.take k) ++ (32 :: decS l[k].toNat) := by
  unfold parT
  rw [take_succ' h, List.map_append, List.flatten_append]
  simp
theorem comsT_take (l : List CommitD) (k : Nat) (h : k < l.length) : comsT (l.take (k + 1)) = comsT (l.take k) ++ comT l[k] := by
  unfold comsT
  rw [take_succ' h, List.map_append, List.flatten_append]
  simp
theorem headsT_take (l : List HeadD) (k : Nat) (h : k < l.length) : headsT (l.take (k + 1)) = headsT (l.take k) ++ headT l[k] := by
  unfold headsT
  rw [take_succ' h, List.map_append, List.flatten_append]
  simp
theorem parT_len (l : List Int) : (parT l).length ≤ 3 * l.length := by
  induction l with
  | nil => simp -implicitDefEqProofs [parT]
  | cons p l ih =>
    have := decS_len p.toNat
    simp only [parT, List.map_cons, List.flatten_cons, List.length_append, List.length_cons] at ih ⊢
    omega
theorem comT_len {c : CommitD} (h : okC c) : (comT c).length ≤ 8401000 := by
  obtain ⟨h1, _, h3, h4⟩ := h
  have h5 := okT_take h4 c.tree.length
  rw [List.take_length] at h5
  have := parT_len c.parents
  simp only [comT, comW, List.length_append, List.length_cons, List.length_nil]
  omega
theorem comsT_len : ∀ {l : List CommitD}, (∀ c ∈ l, okC c) → (comsT l).length ≤ 8401000 * l.length := by
  intro l
  induction l with
  | nil => intro _; simp -implicitDefEqProofs [comsT]
  | cons c l ih =>
    intro h
    have h1 := comT_len (h c (by simp))
    have h2 := ih fun x hx => h x (by simp -implicitDefEqProofs [hx])
    simp only [comsT, List.map_cons, List.flatten_cons, List.length_append, List.length_cons] at h2 ⊢
    omega
theorem headsT_len : ∀ {l : List HeadD}, (∀ c ∈ l, okH c) → (headsT l).length ≤ 100 * l.length := by
  intro l
  induction l with
  | nil => intro _; simp -implicitDefEqProofs [headsT]
  | cons c l ih =>
    intro h
    have h1 := (h c (by simp)).1
    have h3 := decS_len c.at_.toNat
    have h2 := ih fun x hx => h x (by simp -implicitDefEqProofs [hx])
    simp only [headsT, headT, List.map_cons, List.flatten_cons, List.length_append, List.length_cons, List.length_nil] at h2 ⊢
    omega
theorem okR_c {r : RepoD} (h : okR r) (i : Nat) : (comsT (r.commits.take i)).length ≤ 134416000 := by
  have h1 := comsT_len (l := r.commits.take i) fun c hc => h.2.1 c (List.mem_of_mem_take hc)
  have : (r.commits.take i).length ≤ r.commits.length := by simp; omega
  have := h.1
  omega
theorem okR_h {r : RepoD} (h : okR r) (i : Nat) : (headsT (r.heads.take i)).length ≤ 800 := by
  have h1 := headsT_len (l := r.heads.take i) fun c hc => h.2.2.2 c (List.mem_of_mem_take hc)
  have : (r.heads.take i).length ≤ r.heads.length := by simp; omega
  have := h.2.2.1
  omega

def rtO (r : RepoD) : Inv := ⟨Nat, fun i => ⟨[(1, true, .ptr 10 0), (2, true, .str []), (3, true, .str (comsT (r.commits.take i))), (4, true, .int .i64 i)], [(10, bRepo r)]⟩, fun i => i ≤ r.commits.length, fun i => r.commits.length - i⟩
def rtI (r : RepoD) (g : Nat) : Inv := ⟨Nat, fun k => ⟨[(1, true, .ptr 10 0), (2, true, .str []), (3, true, .str (comsT (r.commits.take g) ++ comW (r.commits.getD g default) ++ parT ((r.commits.getD g default).parents.take k))), (4, true, .int .i64 g), (5, true, .int .i64 k)], [(10, bRepo r)]⟩, fun k => g < r.commits.length ∧ k ≤ (r.commits.getD g default).parents.length, fun k => (r.commits.getD g default).parents.length - k⟩
def rtH (r : RepoD) : Inv := ⟨Nat, fun i => ⟨[(1, true, .ptr 10 0), (2, true, .str []), (3, true, .str (comsT r.commits ++ headsT (r.heads.take i))), (6, true, .int .i64 i)], [(10, bRepo r)]⟩, fun i => i ≤ r.heads.length, fun i => r.heads.length - i⟩
def rtInv (r : RepoD) (n g : Nat) : Inv := if n = 3 then rtO r else if n = 7 then rtI r g else rtH r
theorem rtInv_3 (r : RepoD) (g : Nat) : rtInv r 3 g = rtO r := rfl
theorem rtInv_7 (r : RepoD) (g : Nat) : rtInv r 7 g = rtI r g := rfl
theorem rtInv_12 (r : RepoD) (g : Nat) : rtInv r 12 g = rtH r := rfl
def cL24Repo : Con := .fn 84 RepoD (fun r => [vRepo r]) okR (fun r => .str (repoT r)) (fun _ => [])
set_option maxHeartbeats 4000000 in
theorem l24Repo_has : Has Tryz.prog 116 cL24Repo := by
  refine has_walk mixed tTabS_ok (l := [(185, cL1Dec), (186, cL24Tree)]) (HasL.cons l1Dec_has (HasL.cons l24Tree_has HasL.nil)) [0, 1, 2, 3, 4, 5, 6] (fun r => rtInv r) [] Tryz.func116 (by kernel_rfl) (code := _) (by unfold Tryz.f116; rfl) (by kernel_rfl) (by decide) (fun _ => ⟨(), trivial⟩) (by intro h; first | exact fun _ => rfl | cases h) (by kernel_rfl) ?_
  intro (r : RepoD) hr
  have hc := okR_c hr
  have hh := okR_h hr
  obtain ⟨h1, h2, h3, h4⟩ := hr
  simp -implicitDefEqProofs [cL24Repo, Con.fn, tTabS, tTab, cL1Dec, cL24Tree, rtInv_3, rtInv_7, rtInv_12, rtO, rtI, rtH, bRepo_def]
  try dsimp only
  refine ⟨⟨0, ⟨by simp -implicitDefEqProofs [comsT], rfl⟩, by omega⟩, fun i hi _ => ⟨fun hlt => ?_, fun hge => ?_⟩⟩
  · have e3 : Option.map eCommit r.commits[i]? = some (eCommit r.commits[i]) := by simp -implicitDefEqProofs [List.getElem?_eq_getElem hlt]
    have hf := h2 _ (List.getElem_mem hlt)
    obtain ⟨f1, f2, f3, f4⟩ := hf
    have hbi := hc i
    have hbj := hc (i + 1)
    rw [comsT_take r.commits i hlt] at hbj
    simp only [comT, List.length_append] at hbj
    have hg : r.commits[i]?.getD default = r.commits[i] := by simp -implicitDefEqProofs [hlt]
    simp -implicitDefEqProofs [hlt, e3, eCommit, and_assoc, maxLen]
    refine ⟨by omega, fun _ => ⟨by omega, fun _ => ⟨i, ⟨0, by rw [hg]; simp -implicitDefEqProofs [comW, parT], rfl, rfl, hlt, by omega⟩, ?_⟩⟩⟩
    intro k _ hk
    rw [hg] at hk ⊢
    have hlb := parT_len (r.commits[i].parents.take k)
    have hln : (r.commits[i].parents.take k).length ≤ 2 := by simp; omega
    have hcw : (comW r.commits[i]).length ≤ 71 := by simp -implicitDefEqProofs [comW]; omega
    simp -implicitDefEqProofs [hlt, e3, eCommit, and_assoc]
    refine fun _ => ⟨fun hk2 => ?_, fun hk2 => ?_⟩
    · have e5 : Option.map eInt r.commits[i].parents[k]? = some (eInt r.commits[i].parents[k]) := by simp -implicitDefEqProofs [List.getElem?_eq_getElem hk2]
      have hs := f2 _ (List.getElem_mem hk2)
      have h6 := parT_take r.commits[i].parents k hk2
      simp -implicitDefEqProofs [hk2, e5, eInt, and_assoc]
      have hd := decS_len r.commits[i].parents[k].toNat
      exact ⟨by omega, fun _ => ⟨r.commits[i].parents[k].toNat, by omega, by omega, by omega, fun _ => ⟨by omega, by omega, fun _ _ => ⟨k + 1, h6, rfl, by omega, by omega⟩⟩⟩⟩
    · have hkk : r.commits[i].parents.take k = r.commits[i].parents := List.take_of_length_le hk2
      rw [hkk]
      simp only [List.length_cons, List.length_nil] at hbj
      exact ⟨by omega, fun _ => ⟨f4, by omega, fun _ => ⟨by omega, by omega, fun _ _ => ⟨i + 1, by rw [comsT_take _ _ hlt]; simp -implicitDefEqProofs [comT], rfl, by omega, by omega⟩⟩⟩⟩
  · have hca := hc r.commits.length
    rw [List.take_length] at hca
    refine ⟨⟨0, ⟨by rw [List.take_of_length_le hge]; simp -implicitDefEqProofs [headsT], rfl⟩, by omega⟩, fun j hj _ => ⟨fun hlj => ?_, fun hgj => ?_⟩⟩
    · have e3 : Option.map eHead r.heads[j]? = some (eHead r.heads[j]) := by simp -implicitDefEqProofs [List.getElem?_eq_getElem hlj]
      obtain ⟨f1, f2, f3⟩ := h4 _ (List.getElem_mem hlj)
      have hbi := hh j
      have hd := decS_len r.heads[j].at_.toNat
      simp -implicitDefEqProofs [hlj, e3, eHead, and_assoc, maxLen]
      exact ⟨by omega, fun _ => ⟨by omega, fun _ => ⟨by omega, fun _ => ⟨r.heads[j].at_.toNat, by omega, by omega, by omega, fun _ => ⟨by omega, fun _ => ⟨by omega, by omega, fun _ _ => ⟨j + 1, by rw [headsT_take _ _ hlj]; simp -implicitDefEqProofs [headT], rfl, by omega, by omega⟩⟩⟩⟩⟩⟩⟩
    · rw [List.take_of_length_le hgj]; rfl

def bldR (x : Str) : List (Nat × Blk) := [(10, .box 192 [.slf 10, .own 11 1 (eBytes x)]), (11, .own 5 1 true (eBytes x))]
def rpO (r : RepoD) : Inv := ⟨Nat, fun i => ⟨[(1, true, .ptr 12 0), (2, true, .str []), (3, true, .ptr 10 0), (11, true, .sl true 3 (eCommits r.commits)), (12, true, .int .i64 r.commits.length), (13, true, .int .i64 i)],
  [(12, bRepo r), (10, .box 192 [.slf 10, .own 11 1 (eBytes (comsT (r.commits.take i)))]), (11, .own 5 1 true (eBytes (comsT (r.commits.take i))))]⟩, fun i => i ≤ r.commits.length, fun i => r.commits.length - i⟩
def rqI (r : RepoD) (g : Nat) : Inv := ⟨Nat, fun k => ⟨[(1, true, .ptr 12 0), (2, true, .str []), (3, true, .ptr 10 0), (5, true, .ptr 13 0), (11, true, .sl true 3 (eCommits r.commits)), (12, true, .int .i64 r.commits.length), (13, true, .int .i64 g), (22, true, .sl true 1 (eInts (r.commits.getD g default).parents)), (23, true, .int .i64 (r.commits.getD g default).parents.length), (24, true, .int .i64 k)],
  [(12, bRepo r), (10, .box 192 [.slf 10, .own 11 1 (eBytes (comsT (r.commits.take g) ++ comW (r.commits.getD g default) ++ parT ((r.commits.getD g default).parents.take k)))]), (11, .own 5 1 true (eBytes (comsT (r.commits.take g) ++ comW (r.commits.getD g default) ++ parT ((r.commits.getD g default).parents.take k)))),
   (13, .box 38 [.sl true 1 (eInts (r.commits.getD g default).parents), .str (r.commits.getD g default).who, .sl true 2 (eFiles (r.commits.getD g default).tree)])]⟩, fun k => g < r.commits.length ∧ k ≤ (r.commits.getD g default).parents.length, fun k => (r.commits.getD g default).parents.length - k⟩
def rpH (r : RepoD) : Inv := ⟨Nat, fun i => ⟨[(2, true, .str []), (3, true, .ptr 10 0), (40, true, .sl true 2 (eHeads r.heads)), (41, true, .int .i64 r.heads.length), (42, true, .int .i64 i)],
  [(10, .box 192 [.slf 10, .own 11 1 (eBytes (comsT r.commits ++ headsT (r.heads.take i)))]), (11, .own 5 1 true (eBytes (comsT r.commits ++ headsT (r.heads.take i))))]⟩, fun i => i ≤ r.heads.length, fun i => r.heads.length - i⟩
def rpInv (r : RepoD) (n g : Nat) : Inv := if n = 3 then rpO r else if n = 7 then rqI r g else rpH r
theorem rpInv_3 (r : RepoD) (g : Nat) : rpInv r 3 g = rpO r := rfl
theorem rpInv_7 (r : RepoD) (g : Nat) : rpInv r 7 g = rqI r g := rfl
theorem rpInv_14 (r : RepoD) (g : Nat) : rpInv r 14 g = rpH r := rfl
--TAB tTabS
def cRepoPutT : Con := .fn 58 RepoD (fun r => [vRepo r]) okR (fun r => .str (repoT r)) (fun _ => [])
set_option maxHeartbeats 4000000 in
theorem repoPutT_has : Has Tryz.prog 115 cRepoPutT := by
  refine has_walk mixed tTabS_ok (l := [(182, cItoa), (181, cWrite), (184, cBStr), (183, cTreePutT)]) (HasL.cons itoa_has (HasL.cons write_has (HasL.cons bStr_has (HasL.cons treePutT_has HasL.nil)))) [0, 1, 2, 3, 5, 7, 9, 11, 12, 13, 22, 23, 24, 40, 41, 42] (fun r => rpInv r) [] Tryz.func115 (by kernel_rfl) (code := _) (by unfold Tryz.f115; rfl) (by kernel_rfl) (by decide) (fun _ => ⟨(), trivial⟩) (by intro h; first | exact fun _ => rfl | cases h) (by kernel_rfl) ?_
  intro (r : RepoD) hr
  have hc := okR_c hr
  have hh := okR_h hr
  obtain ⟨h1, h2, h3, h4⟩ := hr
  simp -implicitDefEqProofs [cRepoPutT, Con.fn, tTabS, tTab, cItoa, cWrite, cBStr, cTreePutT, rpInv_3, rpInv_7, rpInv_14, rpO, rqI, rpH, rowsOf_eq, bRepo_def]
  try dsimp only
  simp only [and_assoc, exists_eq_left, exists_and_left]
  refine fun _ => ⟨by simp -implicitDefEqProofs [comsT, eBytes], Nat.zero_le _, fun i hi => ⟨fun hlt => ⟨hlt, fun _ => ?_⟩, fun hge => ?_⟩⟩
  · have e3 : Option.map eCommit r.commits[i]? = some (eCommit r.commits[i]) := by simp -implicitDefEqProofs [List.getElem?_eq_getElem hlt]
    have hf := h2 _ (List.getElem_mem hlt)
    obtain ⟨f1, f2, f3, f4⟩ := hf
    have hbi := hc i
    have hbj := hc (i + 1)
    rw [comsT_take r.commits i hlt] at hbj
    simp only [comT, List.length_append, List.length_cons, List.length_nil] at hbj
    have hg : r.commits[i]?.getD default = r.commits[i] := by simp -implicitDefEqProofs [hlt]
    simp -implicitDefEqProofs [e3, eCommit, D.asStr, D.asRows, maxLen]
    refine ⟨by omega, fun _ => ⟨by omega, fun _ => ⟨i, rfl, by rw [hg], by rw [hg], ?_, by rw [hg], by rw [hg], by rw [hg], ?_, hlt, fun k _ hk => ?_⟩⟩⟩
    · rw [hg]; simp -implicitDefEqProofs [comW, parT, eBytes]
    · rw [hg]; simp -implicitDefEqProofs [comW, parT, eBytes]
    rw [hg] at hk ⊢
    have hlb := parT_len (r.commits[i].parents.take k)
    have hln : (r.commits[i].parents.take k).length ≤ 2 := by simp; omega
    have hcw : (comW r.commits[i]).length ≤ 71 := by simp -implicitDefEqProofs [comW]; omega
    refine ⟨fun hk2 => ⟨hk2, fun _ => ?_⟩, fun hk2 => ?_⟩
    · have e5 : Option.map eInt r.commits[i].parents[k]? = some (eInt r.commits[i].parents[k]) := by simp -implicitDefEqProofs [List.getElem?_eq_getElem hk2]
      have hs := f2 _ (List.getElem_mem hk2)
      have h6 := parT_take r.commits[i].parents k hk2
      have hd := decS_len r.commits[i].parents[k].toNat
      simp -implicitDefEqProofs [e5, eInt]
      have h7 : eBytes (comsT (r.commits.take i) ++ (comW r.commits[i] ++ parT (r.commits[i].parents.take (k + 1)))) = eBytes (comsT (r.commits.take i) ++ (comW r.commits[i] ++ parT (r.commits[i].parents.take k))) ++ eBytes (32 :: decS r.commits[i].parents[k].toNat) := by
        rw [h6]; simp -implicitDefEqProofs [eBytes]
      exact ⟨r.commits[i].parents[k].toNat, by omega, by omega, by omega, fun _ => ⟨by omega, by omega, by omega, fun _ _ => ⟨k + 1, by omega, h7, h7.symm, hlt, by omega, by omega⟩⟩⟩
    · have hkk : r.commits[i].parents.take k = r.commits[i].parents := List.take_of_length_le hk2
      rw [hkk]
      have h7 : eBytes (comsT (r.commits.take (i + 1))) = eBytes (comsT (r.commits.take i) ++ (comW r.commits[i] ++ parT r.commits[i].parents)) ++ eBytes (10 :: treeT r.commits[i].tree) := by
        rw [comsT_take _ _ hlt]; simp -implicitDefEqProofs [eBytes, comT]
      exact ⟨f4, by omega, fun _ => ⟨by omega, by omega, by omega, fun _ _ => ⟨i + 1, by omega, h7, h7.symm, by omega, by omega⟩⟩⟩
  · have hca := hc r.commits.length
    rw [List.take_length] at hca
    refine fun _ => ⟨by rw [List.take_of_length_le hge]; simp -implicitDefEqProofs [headsT], by rw [List.take_of_length_le hge]; simp -implicitDefEqProofs [headsT], Nat.zero_le _, fun j hj => ⟨fun hlj => ⟨hlj, fun _ => ?_⟩, fun hgj => ?_⟩⟩
    · have e3 : Option.map eHead r.heads[j]? = some (eHead r.heads[j]) := by simp -implicitDefEqProofs [List.getElem?_eq_getElem hlj]
      obtain ⟨f1, f2, f3⟩ := h4 _ (List.getElem_mem hlj)
      have hbi := hh j
      have hd := decS_len r.heads[j].at_.toNat
      have h7 : eBytes (comsT r.commits ++ headsT (r.heads.take (j + 1))) = eBytes (comsT r.commits ++ headsT (r.heads.take j)) ++ eBytes (98 :: 114 :: 97 :: 110 :: 99 :: 104 :: 32 :: (r.heads[j].name ++ 32 :: (decS r.heads[j].at_.toNat ++ [10]))) := by
        rw [headsT_take _ _ hlj]; simp -implicitDefEqProofs [eBytes, headT]
      simp -implicitDefEqProofs [e3, eHead, D.asStr, D.asInt, maxLen]
      exact ⟨by omega, fun _ => ⟨by omega, fun _ => ⟨r.heads[j].at_.toNat, by omega, by omega, by omega, fun _ => ⟨by omega, fun _ => ⟨by omega, by omega, by omega, fun _ _ => ⟨j + 1, by omega, h7, h7.symm, by omega, by omega⟩⟩⟩⟩⟩⟩
    · rw [List.take_of_length_le hgj]; rfl

theorem okR_of {r : RepoD} (h : repoI r = true) (hp : ∀ c ∈ r.commits, ∀ f ∈ c.tree, f.path.length ≤ 1048576) : okR r := by
  refine ⟨repo_n h, fun c hc => ?_, ?_⟩
  · obtain ⟨i, hi, rfl⟩ := List.getElem_of_mem hc
    obtain ⟨q1, q2, q3⟩ := repo_use h hi
    have h1 := ((repoI_iff r).1 h).2.1 i hi
    have hn := repo_n h
    have hg : r.commits.getD i default = r.commits[i] := by simp -implicitDefEqProofs [List.getD_eq_getElem?_getD, hi]
    simp only [okCI, okI1, hg, Bool.and_eq_true] at h1
    have hw := h1.1.1.2
    simp only [nameB, Bool.and_eq_true, decide_eq_true_eq] at hw
    exact ⟨q1, fun p hp => by have := q2 p hp; omega, by omega, okT_of (by rw [← tree_eq]; exact q3) (hp _ hc)⟩
  · obtain ⟨q1, q2⟩ := (headsB_iff _ _).1 ((repoI_iff r).1 h).2.2
    have hn := repo_n h
    refine ⟨by omega, fun x hx => ?_⟩
    obtain ⟨i, hi, rfl⟩ := List.getElem_of_mem hx
    have h1 := q2 i hi
    have hg : r.heads.getD i default = r.heads[i] := by simp -implicitDefEqProofs [List.getD_eq_getElem?_getD, hi]
    simp only [okHd, hg, Bool.and_eq_true, nameB, inN, decide_eq_true_eq] at h1
    obtain ⟨⟨⟨⟨h2, h3⟩, _⟩, h4, h5⟩, _⟩ := h1
    exact ⟨by omega, h4, by omega⟩
def repoPutD (r : RepoD) : Str := if repoI r then repoT r else []
def rqPre (r : RepoD) : Prop := r.commits.length ≤ 1073741824 ∧ ∀ c ∈ r.commits, ∀ f ∈ c.tree, f.path.length ≤ 1048576
theorem rqPre_rp {r : RepoD} (h : rqPre r) : rpPre r := ⟨h.1, fun c hc f hf => by have := h.2 c hc f hf; omega⟩
def cRepoPutS : Con := .fn 8 RepoD (fun r => [vRepo r]) rqPre (fun r => .str (repoPutD r)) (fun _ => [])
set_option maxHeartbeats 4000000 in
theorem repoPutS_has : Has Tryz.prog 49 cRepoPutS := by
  refine has_walk mixed tTabS_ok (l := [(78, cL7Ok), (116, cL24Repo)]) (HasL.cons l7Ok_has (HasL.cons l24Repo_has HasL.nil)) [0, 1, 2] ((fun a n (_ : Nat) => (fun _ => noInv) a n)) [] Tryz.func49 (by kernel_rfl) (code := _) (by unfold Tryz.f49; rfl) (by kernel_rfl) (by decide) (fun _ => ⟨(), trivial⟩) (by intro h; first | exact fun _ => rfl | cases h) (by kernel_rfl) ?_
  intro (r : RepoD) hr
  have h1 : repoI r = true → okR r := fun h => okR_of h hr.2
  have h2 : rpPre r := rqPre_rp hr
  have h3 : r.commits.length ≤ 1073741824 := hr.1
  simp -implicitDefEqProofs [cRepoPutS, cL7Ok, cL24Repo, Con.fn, tTabS, tTab, bRepo_def]
  try dsimp only
  rw [← repo_eq]
  unfold repoPutD
  simp +contextual -implicitDefEqProofs [h3, h1]
def cRepoPutI : Con := .fn 8 RepoD (fun r => [vRepo r]) rqPre (fun r => .str (repoPutD r)) (fun _ => [])
set_option maxHeartbeats 4000000 in
theorem repoPutI_has : Has Tryz.prog 48 cRepoPutI := by
  refine has_walk mixed tTabS_ok (l := [(19, cRepoOk), (115, cRepoPutT)]) (HasL.cons repoOk_has (HasL.cons repoPutT_has HasL.nil)) [0, 1, 2] ((fun a n (_ : Nat) => (fun _ => noInv) a n)) [] Tryz.func48 (by kernel_rfl) (code := _) (by unfold Tryz.f48; rfl) (by kernel_rfl) (by decide) (fun _ => ⟨(), trivial⟩) (by intro h; first | exact fun _ => rfl | cases h) (by kernel_rfl) ?_
  intro (r : RepoD) hr
  have h1 : repoI r = true → okR r := fun h => okR_of h hr.2
  have h2 : rpPre r := rqPre_rp hr
  simp -implicitDefEqProofs [cRepoPutI, cRepoOk, cRepoPutT, Con.fn, tTabS, tTab, bRepo_def]
  try dsimp only
  unfold repoPutD
  simp +contextual -implicitDefEqProofs [h2, h1]
theorem szRp_rq {r : RepoD} (h : 0 ≤ szRp r 1048576) : rqPre r := by
  obtain ⟨⟨h1, h2⟩, _⟩ := szRp_ok (by omega) h
  exact ⟨by omega, fun c hc f hf => by have := ((h2 c hc).2.2.2 f hf).1; omega⟩
end Vx
end Go.Proofs.YtnmmlcjnjnooaaaGreatDoor
/-
  Plain law: repositories read back from their lines, both ways of reading.
-/
namespace Go.Proofs.YtnmmlcjnjnooaaaGreatDoor
namespace Vx
open Go.RowKit
set_option maxRecDepth 8000

def wCommit : Str := [99, 111, 109, 109, 105, 116]
def wBranch : Str := [98, 114, 97, 110, 99, 104]
def comL (c : CommitD) : Str := comW c ++ parT c.parents
def headLn (h : HeadD) : Str := [98, 114, 97, 110, 99, 104, 32] ++ h.name ++ [32] ++ decS h.at_.toNat
def encC (l : List CommitD) : List Str := (l.map fun c => comL c :: encT c.tree).flatten
def encH (l : List HeadD) : List Str := l.map headLn
def encR (r : RepoD) : List Str := encC r.commits ++ encH r.heads
theorem linesT_app (a b : List Str) : linesT (a ++ b) = linesT a ++ linesT b := by simp [linesT]
theorem repoT_enc (r : RepoD) : repoT r = linesT (encR r) := by
  have h1 : ∀ l : List CommitD, comsT l = linesT (encC l) := by
    intro l
    induction l with
    | nil => rfl
    | cons c l ih =>
      have e1 : comsT (c :: l) = comT c ++ comsT l := by simp [comsT]
      have e2 : encC (c :: l) = (comL c :: encT c.tree) ++ encC l := by simp [encC]
      have e3 : linesT (comL c :: encT c.tree) = comL c ++ [10] ++ linesT (encT c.tree) := by simp [linesT]
      rw [e1, e2, linesT_app, ih, e3, ← treeT_enc]
      simp [comT, comL]
  have h2 : ∀ l : List HeadD, headsT l = linesT (encH l) := by
    intro l
    induction l with
    | nil => rfl
    | cons c l ih =>
      have e1 : headsT (c :: l) = headT c ++ headsT l := by simp [headsT]
      have e2 : encH (c :: l) = [headLn c] ++ encH l := by simp [encH]
      have e3 : linesT [headLn c] = headLn c ++ [10] := by simp [linesT]
      rw [e1, e2, linesT_app, ih, e3]
      simp [headT, headLn]
  unfold repoT encR
  rw [linesT_app, h1, h2]
/-- What makes a repository's lines plain. -/
structure PlainR (r : RepoD) : Prop where
  com : ∀ c ∈ r.commits, (∀ b ∈ c.who, 32 < b.toNat) ∧ c.parents.length ≤ 2 ∧ (∀ p ∈ c.parents, 0 ≤ p ∧ p < 100) ∧ plainT c.tree ∧ c.tree.length ≤ 8 ∧ ∀ f ∈ c.tree, f.text.length ≤ 10
  head : ∀ h ∈ r.heads, (∀ b ∈ h.name, 32 < b.toNat) ∧ 0 ≤ h.at_ ∧ h.at_ < 100
  nc : r.commits.length ≤ 16
  nh : r.heads.length ≤ 5
theorem spl_par : ∀ {l : List Int} {p : Str}, (∀ q ∈ l, 0 ≤ q ∧ q < 100) → spl 32 (parT l) p = p :: l.map fun q => decS q.toNat := by
  intro l
  induction l with
  | nil => intro p _; rfl
  | cons q l ih =>
    intro p h
    have hq := h q (by simp)
    have e : parT (q :: l) = 32 :: (decS q.toNat ++ parT l) := by simp [parT]
    rw [e]
    simp only [spl, if_true]
    rw [spl_app (decS_no (by omega) 32 (by decide)), ih fun x hx => h x (by simp [hx])]
    simp
theorem comL_words {c : CommitD} (h1 : ∀ b ∈ c.who, 32 < b.toNat) (h2 : ∀ q ∈ c.parents, 0 ≤ q ∧ q < 100) : spl 32 (comL c) [] = wCommit :: c.who :: c.parents.map fun q => decS q.toNat := by
  have e : comL c = wCommit ++ (32 :: (c.who ++ parT c.parents)) := by simp [comL, comW, wCommit]
  rw [e, spl_app (by decide)]
  simp only [spl, if_true, List.nil_append]
  rw [spl_app (fun h => by have := h1 _ h; simp at this), spl_par h2]
  simp
theorem headLn_words {h : HeadD} (h1 : ∀ b ∈ h.name, 32 < b.toNat) (h2 : 0 ≤ h.at_ ∧ h.at_ < 100) : spl 32 (headLn h) [] = [wBranch, h.name, decS h.at_.toNat] := by
  have e : headLn h = wBranch ++ (32 :: (h.name ++ (32 :: decS h.at_.toNat))) := by simp [headLn, wBranch]
  rw [e, spl_app (by decide)]
  simp only [spl, if_true, List.nil_append]
  rw [spl_app (fun h => by have := h1 _ h; simp at this)]
  simp only [spl, if_true, List.nil_append]
  rw [spl_none' (decS_no (by omega) 32 (by decide))]
  rfl
theorem parT_no {l : List Int} (h : ∀ q ∈ l, 0 ≤ q ∧ q < 100) : (10 : UInt8) ∉ parT l := by
  intro hm
  simp only [parT, List.mem_flatten, List.mem_map] at hm
  obtain ⟨_, ⟨q, hq, rfl⟩, hm⟩ := hm
  have := h q hq
  rcases List.mem_cons.1 hm with h0 | hm
  · cases h0
  · exact decS_no (by omega) 10 (by decide) hm
theorem encR_no {r : RepoD} (P : PlainR r) : ∀ l ∈ encR r, (10 : UInt8) ∉ l := by
  intro l hl
  rcases List.mem_append.1 hl with hl | hl
  · simp only [encC, List.mem_flatten, List.mem_map] at hl
    obtain ⟨_, ⟨c, hc, rfl⟩, hl⟩ := hl
    obtain ⟨q1, q2, q3, q4, _⟩ := P.com c hc
    rcases List.mem_cons.1 hl with rfl | hl
    · simp only [comL, comW, List.mem_append, not_or]
      exact ⟨⟨by decide, fun h => by have := q1 _ h; simp at this⟩, parT_no q3⟩
    · exact encT_no q4 l hl
  · simp only [encH, List.mem_map] at hl
    obtain ⟨h, hh, rfl⟩ := hl
    obtain ⟨q1, q2, q3⟩ := P.head h hh
    simp only [headLn, List.mem_append, not_or]
    exact ⟨⟨⟨by decide, fun h => by have := q1 _ h; simp at this⟩, by decide⟩, decS_no (by omega) 10 (by decide)⟩

/-- The program's RepoRead: one line more. -/
def riStep (num : Str → Int × Bool) (r : RepoD) (l : Str) (ls : List Str) : Option (RepoD × List Str) :=
  if ((spl 32 l []).drop 2).all (fun q => (num q).2) = true then
    (if (spl 32 l []).getD 0 [] = wCommit ∧ 2 ≤ (spl 32 l []).length then
      some (⟨r.commits ++ [⟨((spl 32 l []).drop 2).map fun q => (num q).1, (spl 32 l []).getD 1 [], (rfI num ls.length [] ls).1⟩], r.heads⟩, (rfI num ls.length [] ls).2)
    else if (spl 32 l []).getD 0 [] = wBranch ∧ (spl 32 l []).length = 3 then
      some (⟨r.commits, r.heads ++ [⟨(spl 32 l []).getD 1 [], (num ((spl 32 l []).getD 2 [])).1⟩]⟩, ls)
    else none)
  else none
def riF (num : Str → Int × Bool) : Nat → RepoD → List Str → Option RepoD
  | 0, r, _ => some r
  | _ + 1, r, [] => some r
  | n + 1, r, l :: ls => match riStep num r l ls with
    | none => none
    | some p => riF num n p.1 p.2
theorem rfI_le {num} : ∀ {n : Nat} {t : List FileD} {ls : List Str}, (rfI num n t ls).2.length ≤ ls.length := by
  intro n
  induction n with
  | zero => intro t ls; exact Nat.le_refl _
  | succ n ih =>
    intro t ls
    cases ls with
    | nil => exact Nat.le_refl _
    | cons l ls =>
      rw [rfI]
      split
      · split
        · refine Nat.le_trans ih ?_
          simp; omega
        · exact Nat.le_refl _
      · exact Nat.le_refl _
theorem riStep_le {num r l ls p} (h : riStep num r l ls = some p) : p.2.length ≤ ls.length := by
  unfold riStep at h
  split at h
  · split at h
    · cases h; exact rfI_le
    · split at h
      · cases h; exact Nat.le_refl _
      · cases h
  · cases h
theorem riF_fuel {num} : ∀ {n m : Nat} {r : RepoD} {ls : List Str}, ls.length ≤ n → ls.length ≤ m → riF num n r ls = riF num m r ls := by
  intro n
  induction n with
  | zero =>
    intro m r ls h1 _
    have : ls = [] := List.eq_nil_of_length_eq_zero (by omega)
    subst this
    cases m <;> rfl
  | succ n ih =>
    intro m r ls h1 h2
    cases ls with
    | nil => cases m <;> rfl
    | cons l ls =>
      obtain ⟨m, rfl⟩ : ∃ k, m = k + 1 := ⟨m - 1, by simp at h2; omega⟩
      simp at h1 h2
      simp only [riF]
      cases hs : riStep num r l ls with
      | none => rfl
      | some p =>
        have := riStep_le hs
        exact ih (by omega) (by omega)
theorem dec_all {num : Str → Int × Bool} (hnum : ∀ n : Nat, n < 100 → num (decS n) = ((n : Int), true)) {l : List Int} (h : ∀ q ∈ l, 0 ≤ q ∧ q < 100) : ((l.map fun q => decS q.toNat).all fun q => (num q).2) = true ∧ ((l.map fun q => decS q.toNat).map fun q => (num q).1) = l := by
  induction l with
  | nil => exact ⟨rfl, rfl⟩
  | cons q l ih =>
    obtain ⟨h1, h2⟩ := ih fun x hx => h x (by simp [hx])
    have hq := h q (by simp)
    have := hnum q.toNat (by omega)
    simp only [List.map_cons, List.all_cons, this, h1, h2]
    exact ⟨rfl, by rw [show ((q.toNat : Nat) : Int) = q by omega]⟩
theorem riF_heads {num} (hnum : ∀ n : Nat, n < 100 → num (decS n) = ((n : Int), true)) : ∀ {hs : List HeadD}, (∀ h ∈ hs, (∀ b ∈ h.name, 32 < b.toNat) ∧ 0 ≤ h.at_ ∧ h.at_ < 100) → ∀ (r : RepoD) (n : Nat), (encH hs).length ≤ n → riF num n r (encH hs) = some ⟨r.commits, r.heads ++ hs⟩ := by
  intro hs
  induction hs with
  | nil => intro _ r n _; cases n <;> simp [encH, riF]
  | cons h hs ih =>
    intro hp r n hn
    obtain ⟨n, rfl⟩ : ∃ k, n = k + 1 := ⟨n - 1, by simp [encH] at hn; omega⟩
    obtain ⟨h1, h2, h3⟩ := hp h (by simp)
    have e : encH (h :: hs) = headLn h :: encH hs := rfl
    rw [e] at hn ⊢
    have hst : riStep num r (headLn h) (encH hs) = some (⟨r.commits, r.heads ++ [h]⟩, encH hs) := by
      unfold riStep
      rw [headLn_words h1 ⟨h2, h3⟩]
      have hd := hnum h.at_.toNat (by omega)
      have ha : ((h.at_.toNat : Nat) : Int) = h.at_ := by omega
      rw [if_pos (by simp [hd]), if_neg (by simp [wBranch, wCommit]), if_pos ⟨rfl, rfl⟩]
      simp [hd, ha]
    rw [riF, hst]
    simp only []
    rw [ih (fun x hx => hp x (by simp [hx])) _ n (by simp at hn; omega)]
    simp
theorem stops_encR {cs : List CommitD} {hs : List HeadD} (hc : ∀ c ∈ cs, (∀ b ∈ c.who, 32 < b.toNat) ∧ ∀ q ∈ c.parents, 0 ≤ q ∧ q < 100) (hh : ∀ h ∈ hs, (∀ b ∈ h.name, 32 < b.toNat) ∧ 0 ≤ h.at_ ∧ h.at_ < 100) : stopsL (encC cs ++ encH hs) := by
  cases cs with
  | cons c cs =>
    obtain ⟨h1, h2⟩ := hc c (by simp)
    refine .inr ⟨comL c, _, by simp only [encC, List.map_cons, List.flatten_cons, List.cons_append]; rfl, ?_⟩
    rw [comL_words h1 h2]
    simp [wCommit]
  | nil =>
    cases hs with
    | nil => exact .inl rfl
    | cons h hs =>
      obtain ⟨h1, h2⟩ := hh h (by simp)
      refine .inr ⟨headLn h, _, rfl, ?_⟩
      rw [headLn_words h1 h2]
      simp [wBranch]
theorem riF_enc {num} (hnum : ∀ n : Nat, n < 100 → num (decS n) = ((n : Int), true)) {hs : List HeadD} (hh : ∀ h ∈ hs, (∀ b ∈ h.name, 32 < b.toNat) ∧ 0 ≤ h.at_ ∧ h.at_ < 100) : ∀ {cs : List CommitD}, (∀ c ∈ cs, (∀ b ∈ c.who, 32 < b.toNat) ∧ (∀ q ∈ c.parents, 0 ≤ q ∧ q < 100) ∧ plainT c.tree) →
    ∀ (r : RepoD) (n : Nat), (encC cs ++ encH hs).length ≤ n → riF num n r (encC cs ++ encH hs) = some ⟨r.commits ++ cs, r.heads ++ hs⟩ := by
  intro cs
  induction cs with
  | nil =>
    intro _ r n hn
    have e : encC [] ++ encH hs = encH hs := rfl
    rw [e] at hn ⊢
    rw [riF_heads hnum hh r n hn]
    simp
  | cons c cs ih =>
    intro hp r n hn
    obtain ⟨h1, h2, h3⟩ := hp c (by simp)
    have e : encC (c :: cs) ++ encH hs = comL c :: (encT c.tree ++ (encC cs ++ encH hs)) := by simp [encC]
    rw [e] at hn ⊢
    obtain ⟨n, rfl⟩ : ∃ k, n = k + 1 := ⟨n - 1, by simp at hn; omega⟩
    have hst : stopsL (encC cs ++ encH hs) := stops_encR (fun x hx => ⟨(hp x (by simp [hx])).1, (hp x (by simp [hx])).2.1⟩) hh
    have hrf := rfI_enc hnum hst h3 [] (encT c.tree ++ (encC cs ++ encH hs)).length (Nat.le_refl _)
    obtain ⟨d1, d2⟩ := dec_all hnum h2
    have hs1 : riStep num r (comL c) (encT c.tree ++ (encC cs ++ encH hs)) = some (⟨r.commits ++ [c], r.heads⟩, encC cs ++ encH hs) := by
      unfold riStep
      rw [comL_words h1 h2, hrf]
      simp only [List.drop_succ_cons, List.drop_zero, d1, d2, List.getD_cons_zero, List.getD_cons_succ, List.nil_append]
      rw [if_pos trivial, if_pos ⟨trivial, by simp⟩]
    rw [riF, hs1]
    simp only []
    rw [ih (fun x hx => hp x (by simp [hx])) _ n (by simp at hn; simp; omega)]
    simp
def repoReadI (num : Str → Int × Bool) (ok : RepoD → Bool) (s : Str) : RepoD × Bool :=
  if (linesI s).2 = true then match riF num (linesI s).1.length ⟨[], []⟩ (linesI s).1 with
    | some r => if ok r = true ∧ repoT r = s then (r, true) else (⟨[], []⟩, false)
    | none => (⟨[], []⟩, false)
  else (⟨[], []⟩, false)

/-- The reference's RepoRead. -/
def rdCom (ls : List Str) : Nat → List CommitD → (Nat × Bool) → List CommitD × (Nat × Bool)
  | 0, t, a => (t, a)
  | n + 1, t, a => if rdMore ls (wCommit ++ [32]) a then
      rdCom ls n (t ++ [⟨((cutB (rdLine ls a).1 32 4).drop 2).map numB, (cutB (rdLine ls a).1 32 4).getD 1 [], (rdTree ls 8 [] (rdLine ls a).2).1⟩]) (rdTree ls 8 [] (rdLine ls a).2).2
    else (t, a)
def rdHd (ls : List Str) : Nat → List HeadD → (Nat × Bool) → Option (List HeadD × (Nat × Bool))
  | 0, t, a => some (t, a)
  | n + 1, t, a => if rdMore ls (wBranch ++ [32]) a then
      (if ¬ (cutB (rdLine ls a).1 32 3).length = 3 then none
      else rdHd ls n (t ++ [⟨(cutB (rdLine ls a).1 32 3).getD 1 [], numB ((cutB (rdLine ls a).1 32 3).getD 2 [])⟩]) (rdLine ls a).2)
    else some (t, a)
def repoReadS (ok : RepoD → Bool) (s : Str) : RepoD × Bool :=
  match rdHd (cutB s 10 1430) 5 [] (rdCom (cutB s 10 1430) 16 [] (0, false)).2 with
  | some p => if p.2.2 = false ∧ p.2.1 + 1 = (cutB s 10 1430).length ∧ ok ⟨(rdCom (cutB s 10 1430) 16 [] (0, false)).1, p.1⟩ = true ∧ repoT ⟨(rdCom (cutB s 10 1430) 16 [] (0, false)).1, p.1⟩ = s then (⟨(rdCom (cutB s 10 1430) 16 [] (0, false)).1, p.1⟩, true) else (⟨[], []⟩, false)
  | none => (⟨[], []⟩, false)
theorem numB_map {l : List Int} (h : ∀ q ∈ l, 0 ≤ q ∧ q < 100) : (l.map fun q => decS q.toNat).map numB = l := by
  induction l with
  | nil => rfl
  | cons q l ih =>
    have hq := h q (by simp)
    simp only [List.map_cons, ih fun x hx => h x (by simp [hx]), numB_dec (show q.toNat < 100 by omega)]
    rw [show ((q.toNat : Nat) : Int) = q by omega]
theorem get_drop {ls : List Str} {a : Nat} {l : Str} {r : List Str} (h : ls.drop a = l :: r) : ls.getD a [] = l ∧ ls.drop (a + 1) = r ∧ ls.length = a + 1 + r.length := by
  have h0 : (ls.drop a)[0]? = some l := by rw [h]; rfl
  rw [List.getElem?_drop, Nat.add_zero] at h0
  refine ⟨by simp [List.getD_eq_getElem?_getD, h0], by rw [← List.drop_drop, h]; rfl, ?_⟩
  have : ls.length - a = r.length + 1 := by rw [← List.length_drop, h]; rfl
  omega
theorem line_drop {ls : List Str} {a : Nat} {l m : Str} {r : List Str} (h : ls.drop a = l :: m :: r) (hd : Str) : rdLine ls (a, false) = (l, (a + 1, false)) ∧ (rdMore ls hd (a, false) = prefB hd l) := by
  obtain ⟨h1, h2, h3⟩ := get_drop h
  simp only [List.length_cons] at h3
  constructor
  · unfold rdLine
    rw [if_neg (show ¬ ls.length ≤ a + 1 by omega), h1]
  · unfold rdMore
    rw [h1]
    have : a + 1 < ls.length := by omega
    simp [this]
theorem more_last {ls : List Str} {a : Nat} {l : Str} (h : ls.drop a = [l]) (hd : Str) : rdMore ls hd (a, false) = false := by
  obtain ⟨h1, h2, h3⟩ := get_drop h
  simp only [List.length_nil] at h3
  unfold rdMore
  have : ¬ a + 1 < ls.length := by omega
  simp [this]
theorem cut_words {l : Str} {w : List Str} {m : Nat} (h : spl 32 l [] = w) (hm : w.length ≤ m + 1) : cutB l 32 m = w := by
  have hc : l.count 32 ≤ m := by
    have := spl_len 32 l []
    rw [h] at this
    omega
  have : cutB l ((32 : UInt8).toNat : Int) m = spl 32 l [] := cut_spl (by omega)
  rw [h] at this
  exact this
theorem rdHd_enc {ls : List Str} : ∀ {hs : List HeadD}, (∀ h ∈ hs, (∀ b ∈ h.name, 32 < b.toNat) ∧ 0 ≤ h.at_ ∧ h.at_ < 100) → ∀ (t : List HeadD) (n a : Nat), hs.length ≤ n → ls.drop a = encH hs ++ [[]] → rdHd ls n t (a, false) = some (t ++ hs, (a + hs.length, false)) := by
  intro hs
  induction hs with
  | nil =>
    intro _ t n a _ h
    cases n with
    | zero => simp [rdHd]
    | succ n => rw [rdHd, more_last h]; simp
  | cons h hs ih =>
    intro hp t n a hn hd
    obtain ⟨n, rfl⟩ : ∃ k, n = k + 1 := ⟨n - 1, by simp at hn; omega⟩
    obtain ⟨h1, h2, h3⟩ := hp h (by simp)
    obtain ⟨m, r, hr⟩ : ∃ m r, encH hs ++ [[]] = m :: r := by cases hs <;> exact ⟨_, _, rfl⟩
    have e : encH (h :: hs) ++ [[]] = headLn h :: (encH hs ++ [[]]) := rfl
    rw [e] at hd
    obtain ⟨_, hd2, _⟩ := get_drop hd
    have hd' := hd
    rw [hr] at hd'
    obtain ⟨q1, q2⟩ := line_drop hd' (wBranch ++ [32])
    have hw := cut_words (m := 3) (headLn_words h1 ⟨h2, h3⟩) (by simp)
    rw [rdHd, q2, q1]
    have hpre : prefB (wBranch ++ [32]) (headLn h) = true := by simp [prefB, wBranch, headLn]
    rw [hpre, if_pos rfl, hw, if_neg (by simp)]
    simp only [List.getD_cons_zero, List.getD_cons_succ]
    rw [numB_dec (by omega), show ((h.at_.toNat : Nat) : Int) = h.at_ by omega]
    rw [ih (fun x hx => hp x (by simp [hx])) _ n (a + 1) (by simp at hn; omega) hd2]
    simp
    omega
theorem rdCom_enc {ls : List Str} {hs : List HeadD} (hh : ∀ h ∈ hs, (∀ b ∈ h.name, 32 < b.toNat) ∧ 0 ≤ h.at_ ∧ h.at_ < 100) : ∀ {cs : List CommitD}, (∀ c ∈ cs, (∀ b ∈ c.who, 32 < b.toNat) ∧ c.parents.length ≤ 2 ∧ (∀ p ∈ c.parents, 0 ≤ p ∧ p < 100) ∧ plainT c.tree ∧ c.tree.length ≤ 8 ∧ ∀ f ∈ c.tree, f.text.length ≤ 10) →
    ∀ (t : List CommitD) (n a : Nat), cs.length ≤ n → ls.drop a = encC cs ++ (encH hs ++ [[]]) → rdCom ls n t (a, false) = (t ++ cs, (a + (encC cs).length, false)) := by
  have hrest : ∀ (cs : List CommitD), ∃ m r, encC cs ++ (encH hs ++ [[]]) = m :: r := by
    intro cs
    cases cs with
    | nil => cases hs <;> exact ⟨_, _, rfl⟩
    | cons c cs => exact ⟨comL c, _, by simp only [encC, List.map_cons, List.flatten_cons, List.cons_append]; rfl⟩
  have hstop : ∀ (cs : List CommitD), stopsS (encC cs ++ (encH hs ++ [[]])) := by
    intro cs
    cases cs with
    | cons c cs =>
      obtain ⟨m, r, hr⟩ : ∃ m r, (encT c.tree ++ (encC cs ++ (encH hs ++ [[]]))) = m :: r := by
        obtain ⟨m, r, hr⟩ := hrest cs
        cases hq : encT c.tree with
        | nil => exact ⟨m, r, by simpa using hr⟩
        | cons x y => exact ⟨x, _, rfl⟩
      refine .inr ⟨comL c, m, r, ?_, by simp [prefB, comL, comW]⟩
      rw [← hr]
      simp [encC]
    | nil =>
      cases hs with
      | nil => exact .inl ⟨[], rfl⟩
      | cons h hs =>
        obtain ⟨m, r, hr⟩ : ∃ m r, encH hs ++ [[]] = m :: r := by cases hs <;> exact ⟨_, _, rfl⟩
        exact .inr ⟨headLn h, m, r, by rw [← hr]; rfl, by simp [prefB, headLn]⟩
  intro cs
  induction cs with
  | nil =>
    intro _ t n a _ hd
    cases n with
    | zero => simp [rdCom, encC]
    | succ n =>
      have hm : rdMore ls (wCommit ++ [32]) (a, false) = false := by
        cases hs with
        | nil => exact more_last hd _
        | cons h hs =>
          obtain ⟨m, r, hr⟩ : ∃ m r, encH hs ++ [[]] = m :: r := by cases hs <;> exact ⟨_, _, rfl⟩
          have e : encC [] ++ (encH (h :: hs) ++ [[]]) = headLn h :: (encH hs ++ [[]]) := rfl
          rw [e, hr] at hd
          rw [(line_drop hd _).2]
          simp [prefB, wCommit, headLn]
      rw [rdCom, hm]
      simp [encC]
  | cons c cs ih =>
    intro hp t n a hn hd
    obtain ⟨n, rfl⟩ : ∃ k, n = k + 1 := ⟨n - 1, by simp at hn; omega⟩
    obtain ⟨h1, h2, h3, h4, h5, h6⟩ := hp c (by simp)
    have e : encC (c :: cs) ++ (encH hs ++ [[]]) = comL c :: (encT c.tree ++ (encC cs ++ (encH hs ++ [[]]))) := by simp [encC]
    rw [e] at hd
    obtain ⟨_, hd2, _⟩ := get_drop hd
    obtain ⟨m, r, hr⟩ : ∃ m r, (encT c.tree ++ (encC cs ++ (encH hs ++ [[]]))) = m :: r := by
      obtain ⟨m, r, hr⟩ := hrest cs
      cases hq : encT c.tree with
      | nil => exact ⟨m, r, by simpa using hr⟩
      | cons x y => exact ⟨x, _, rfl⟩
    have hd' := hd
    rw [hr] at hd'
    obtain ⟨q1, q2⟩ := line_drop hd' (wCommit ++ [32])
    have hw := cut_words (m := 4) (comL_words h1 h3) (by simp; omega)
    have hpre : prefB (wCommit ++ [32]) (comL c) = true := by simp [prefB, wCommit, comL, comW]
    have ht := rdTree_enc (ls := ls) (hstop cs) h4 h6 [] 8 (a + 1) (.inr h5) hd2
    have hd3 : ls.drop (a + 1 + (encT c.tree).length) = encC cs ++ (encH hs ++ [[]]) := by rw [← List.drop_drop, hd2]; simp
    rw [rdCom, q2, q1, hpre, if_pos rfl, hw]
    simp only [List.drop_succ_cons, List.drop_zero, List.getD_cons_zero, List.getD_cons_succ, ht, List.nil_append]
    rw [numB_map h3, ih (fun x hx => hp x (by simp [hx])) _ n _ (by simp at hn; omega) hd3]
    simp [encC]
    omega

theorem encC_len : ∀ {l : List CommitD}, (∀ c ∈ l, c.tree.length ≤ 8 ∧ ∀ f ∈ c.tree, f.text.length ≤ 10) → (encC l).length ≤ 89 * l.length := by
  intro l
  induction l with
  | nil => intro _; simp [encC]
  | cons c l ih =>
    intro h
    obtain ⟨h1, h2⟩ := h c (by simp)
    have h3 := enc_len h2
    have h4 := ih fun x hx => h x (by simp [hx])
    have e : encC (c :: l) = comL c :: (encT c.tree ++ encC l) := by simp [encC]
    rw [e]
    simp; omega
theorem repoReadI_enc {num} (hnum : ∀ n : Nat, n < 100 → num (decS n) = ((n : Int), true)) {ok : RepoD → Bool} {r : RepoD} (P : PlainR r) (h : ok r = true) : repoReadI num ok (repoT r) = (r, true) := by
  have h1 : linesI (repoT r) = (encR r, true) := by rw [repoT_enc]; exact linesI_enc (encR_no P)
  have h2 := riF_enc hnum P.head (cs := r.commits) (fun c hc => ⟨(P.com c hc).1, (P.com c hc).2.2.1, (P.com c hc).2.2.2.1⟩) ⟨[], []⟩ (encR r).length (Nat.le_refl _)
  have h3 : riF num (encR r).length ⟨[], []⟩ (encR r) = some r := by
    have : encR r = encC r.commits ++ encH r.heads := rfl
    rw [this] at h2 ⊢
    rw [h2]; simp
  unfold repoReadI
  rw [h1]
  simp only [h3]
  simp [h]
theorem repoReadS_enc {ok : RepoD → Bool} {r : RepoD} (P : PlainR r) (h : ok r = true) : repoReadS ok (repoT r) = (r, true) := by
  have hl : (encR r).length ≤ 1429 := by
    have h1 := encC_len (l := r.commits) fun c hc => ⟨(P.com c hc).2.2.2.2.1, (P.com c hc).2.2.2.2.2⟩
    have h2 := P.nc
    have h3 := P.nh
    have : (encR r).length = (encC r.commits).length + r.heads.length := by simp [encR, encH]
    omega
  have h1 : cutB (repoT r) 10 1430 = encR r ++ [[]] := by
    have e : spl 10 (repoT r) [] = encR r ++ [[]] := by rw [repoT_enc]; exact spl_lines (encR_no P)
    have hc : (repoT r).count 10 ≤ 1430 := by
      have := spl_len 10 (repoT r) []
      rw [e] at this
      simp at this
      omega
    have : cutB (repoT r) ((10 : UInt8).toNat : Int) 1430 = spl 10 (repoT r) [] := cut_spl (by omega)
    rw [e] at this
    exact this
  have e0 : encR r ++ [[]] = encC r.commits ++ (encH r.heads ++ [[]]) := by simp [encR]
  have h2 := rdCom_enc (ls := encR r ++ [[]]) P.head (cs := r.commits) P.com [] 16 0 P.nc (by rw [List.drop_zero, e0])
  have h3 := rdHd_enc (ls := encR r ++ [[]]) (hs := r.heads) P.head [] 5 (0 + (encC r.commits).length) P.nh (by rw [e0]; simp)
  unfold repoReadS
  rw [h1, h2]
  simp only [h3]
  rw [if_pos]
  · simp
  · simp [h, encR, encH]
    omega
theorem repoReadI_ok {num ok s} : ((repoReadI num ok s).2 = true → ok (repoReadI num ok s).1 = true ∧ repoT (repoReadI num ok s).1 = s) ∧ ((repoReadI num ok s).2 = false → (repoReadI num ok s).1 = ⟨[], []⟩) := by
  generalize hx : repoReadI num ok s = x
  unfold repoReadI at hx
  split at hx
  · split at hx
    · split at hx
      · rename_i h; subst hx; exact ⟨fun _ => h, fun h => (by cases h)⟩
      · subst hx; exact ⟨fun h => (by cases h), fun _ => rfl⟩
    · subst hx; exact ⟨fun h => (by cases h), fun _ => rfl⟩
  · subst hx; exact ⟨fun h => (by cases h), fun _ => rfl⟩
theorem repoReadS_ok {ok s} : ((repoReadS ok s).2 = true → ok (repoReadS ok s).1 = true ∧ repoT (repoReadS ok s).1 = s) ∧ ((repoReadS ok s).2 = false → (repoReadS ok s).1 = ⟨[], []⟩) := by
  generalize hx : repoReadS ok s = x
  unfold repoReadS at hx
  split at hx
  · split at hx
    · rename_i h; subst hx; exact ⟨fun _ => ⟨h.2.2.1, h.2.2.2⟩, fun h => (by cases h)⟩
    · subst hx; exact ⟨fun h => (by cases h), fun _ => rfl⟩
  · subst hx; exact ⟨fun h => (by cases h), fun _ => rfl⟩
theorem repoRead_eq {num} (hnum : ∀ n : Nat, n < 100 → num (decS n) = ((n : Int), true)) {ok : RepoD → Bool} (O : ∀ r, ok r = true → PlainR r) (s : Str) : repoReadI num ok s = repoReadS ok s := by
  obtain ⟨a1, a2⟩ := repoReadI_ok (num := num) (ok := ok) (s := s)
  obtain ⟨b1, b2⟩ := repoReadS_ok (ok := ok) (s := s)
  cases hI : (repoReadI num ok s).2 with
  | true =>
    obtain ⟨h1, h2⟩ := a1 hI
    have h3 := repoReadS_enc (O _ h1) h1
    rw [h2] at h3
    rw [h3]; exact Prod.ext rfl hI
  | false =>
    cases hS : (repoReadS ok s).2 with
    | true =>
      obtain ⟨h1, h2⟩ := b1 hS
      have h3 := repoReadI_enc hnum (O _ h1) h1
      rw [h2] at h3
      rw [h3] at hI; cases hI
    | false => exact Prod.ext ((a2 hI).trans (b2 hS).symm) (hI.trans hS.symm)

theorem nameB_plain {s : Str} (h : nameB s = true) : ∀ b ∈ s, 32 < b.toNat := by
  intro b hb
  simp only [nameB, Bool.and_eq_true, List.all_eq_true] at h
  have := h.2 b hb
  simp only [wordB, Bool.or_eq_true, Bool.and_eq_true, decide_eq_true_eq] at this
  omega
theorem plainR_of {r : RepoD} (h : repoI r = true) : PlainR r := by
  have hn := repo_n h
  have hI := (repoI_iff r).1 h
  obtain ⟨q1, q2⟩ := (headsB_iff _ _).1 hI.2.2
  refine ⟨fun c hc => ?_, fun x hx => ?_, hn, q1⟩
  · obtain ⟨i, hi, rfl⟩ := List.getElem_of_mem hc
    obtain ⟨p1, p2, p3⟩ := repo_use h hi
    have h1 := hI.2.1 i hi
    have hg : r.commits.getD i default = r.commits[i] := by simp [List.getD_eq_getElem?_getD, hi]
    simp only [okCI, okI1, hg, Bool.and_eq_true] at h1
    exact ⟨nameB_plain h1.1.1.2, p1, fun p hp => by have := p2 p hp; omega, okT_treeI.plain p3, okT_treeI.n p3, okT_treeI.ten p3⟩
  · obtain ⟨i, hi, rfl⟩ := List.getElem_of_mem hx
    have h1 := q2 i hi
    have hg : r.heads.getD i default = r.heads[i] := by simp [List.getD_eq_getElem?_getD, hi]
    simp only [okHd, hg, Bool.and_eq_true, inN, decide_eq_true_eq] at h1
    exact ⟨nameB_plain h1.1.1, h1.1.2.1, by omega⟩

end Vx
end Go.Proofs.YtnmmlcjnjnooaaaGreatDoor
/-
  Contracts: repositories read (RepoRead, the reference's).
-/
namespace Go.Proofs.YtnmmlcjnjnooaaaGreatDoor
namespace Vx
open Go.RowKit
set_option maxRecDepth 8000

theorem cutL_pos {b : Int} {m : Nat} : ∀ {s c : Str} {n : Nat}, 1 ≤ (cutL b m s c n).length := by
  intro s
  induction s with
  | nil => intro c n; simp -implicitDefEqProofs [cutL]
  | cons x s ih =>
    intro c n
    simp only [cutL]
    split
    · split
      · simp
      · exact ih
    · simp
theorem cut_two {l : Str} (h : prefB (wCommit ++ [32]) l = true) : 2 ≤ (cutB l 32 4).length := by
  simp only [prefB, Bool.and_eq_true, decide_eq_true_eq] at h
  have e : l = (wCommit ++ [32]) ++ l.drop 7 := by
    have := List.take_append_drop 7 l
    have h2 : l.take 7 = wCommit ++ [32] := h.2
    rw [h2] at this
    exact this.symm
  rw [e]
  have h3 := cutL_pos (b := 32) (m := 4) (s := l.drop 7) (c := []) (n := 1)
  simp -implicitDefEqProofs [cutB, cutL, wCommit]
  omega
theorem okR_I {r : RepoD} (h : repoI r = true) : okR r := okR_of h fun c hc f hf => by
  obtain ⟨i, hi, rfl⟩ := List.getElem_of_mem hc
  have := (treeI_plain (repo_use h hi).2.2 f hf).1.2
  omega

def rcW (ls : List Str) (s : List CommitD × (Nat × Bool)) : List Str := cutB (rdLine ls s.2).1 32 4
def rcStep (ls : List Str) (s : List CommitD × (Nat × Bool)) : List CommitD × (Nat × Bool) := (s.1 ++ [⟨((rcW ls s).drop 2).map numB, (rcW ls s).getD 1 [], (rdTree ls 8 [] (rdLine ls s.2).2).1⟩], (rdTree ls 8 [] (rdLine ls s.2).2).2)
def rcAt (ls : List Str) (a : Nat × Bool) : Nat → List CommitD × (Nat × Bool)
  | 0 => ([], a)
  | i + 1 => rcStep ls (rcAt ls a i)
theorem rcAt_len {ls a} : ∀ i, (rcAt ls a i).1.length = i := by
  intro i
  induction i with
  | zero => rfl
  | succ i ih => simp -implicitDefEqProofs [rcAt, rcStep, ih]
theorem rcAt_bd {ls : List Str} {a : Nat × Bool} (h : ls.length ≤ 1048577) (h1 : a.1 ≤ 1048577) : ∀ i, (rcAt ls a i).2.1 ≤ 1048577 := by
  intro i
  induction i with
  | zero => exact h1
  | succ i ih => exact rdTree_bd h (rdLine_bd h ih)
theorem rc_step {ls : List Str} {a : Nat × Bool} {i : Nat} (hi : i < 16) :
    (rdMore ls (wCommit ++ [32]) (rcAt ls a i).2 = false → rdCom ls (16 - i) (rcAt ls a i).1 (rcAt ls a i).2 = rcAt ls a i) ∧
    (rdMore ls (wCommit ++ [32]) (rcAt ls a i).2 = true → rdCom ls (16 - i) (rcAt ls a i).1 (rcAt ls a i).2 = rdCom ls (16 - (i + 1)) (rcAt ls a (i + 1)).1 (rcAt ls a (i + 1)).2) := by
  obtain ⟨n, hn⟩ : ∃ n, 16 - i = n + 1 := ⟨15 - i, by omega⟩
  have hn' : 16 - (i + 1) = n := by omega
  rw [hn, hn']
  refine ⟨fun h => ?_, fun h => ?_⟩
  · rw [rdCom, h]; rfl
  · rw [rdCom, h, if_pos rfl]; rfl
theorem rc_two {ls : List Str} {s : List CommitD × (Nat × Bool)} (h : rdMore ls (wCommit ++ [32]) s.2 = true) : 2 ≤ (rcW ls s).length := by
  unfold rdMore at h
  simp only [Bool.and_eq_true, Bool.not_eq_true', decide_eq_true_eq] at h
  have e : rdLine ls s.2 = (ls.getD s.2.1 [], (s.2.1 + 1, s.2.2)) := if_neg (by omega)
  unfold rcW
  rw [e]
  exact cut_two h.2
def rhW (ls : List Str) (s : List HeadD × (Nat × Bool)) : List Str := cutB (rdLine ls s.2).1 32 3
def rhStep (ls : List Str) (s : List HeadD × (Nat × Bool)) : List HeadD × (Nat × Bool) := (s.1 ++ [⟨(rhW ls s).getD 1 [], numB ((rhW ls s).getD 2 [])⟩], (rdLine ls s.2).2)
def rhAt (ls : List Str) (a : Nat × Bool) : Nat → List HeadD × (Nat × Bool)
  | 0 => ([], a)
  | i + 1 => rhStep ls (rhAt ls a i)
theorem rhAt_len {ls a} : ∀ i, (rhAt ls a i).1.length = i := by
  intro i
  induction i with
  | zero => rfl
  | succ i ih => simp -implicitDefEqProofs [rhAt, rhStep, ih]
theorem rhAt_bd {ls : List Str} {a : Nat × Bool} (h : ls.length ≤ 1048577) (h1 : a.1 ≤ 1048577) : ∀ i, (rhAt ls a i).2.1 ≤ 1048577 := by
  intro i
  induction i with
  | zero => exact h1
  | succ i ih => exact rdLine_bd h ih
theorem rh_step {ls : List Str} {a : Nat × Bool} {i : Nat} (hi : i < 5) :
    (rdMore ls (wBranch ++ [32]) (rhAt ls a i).2 = false → rdHd ls (5 - i) (rhAt ls a i).1 (rhAt ls a i).2 = some (rhAt ls a i)) ∧
    (rdMore ls (wBranch ++ [32]) (rhAt ls a i).2 = true → ¬ (rhW ls (rhAt ls a i)).length = 3 → rdHd ls (5 - i) (rhAt ls a i).1 (rhAt ls a i).2 = none) ∧
    (rdMore ls (wBranch ++ [32]) (rhAt ls a i).2 = true → (rhW ls (rhAt ls a i)).length = 3 → rdHd ls (5 - i) (rhAt ls a i).1 (rhAt ls a i).2 = rdHd ls (5 - (i + 1)) (rhAt ls a (i + 1)).1 (rhAt ls a (i + 1)).2) := by
  obtain ⟨n, hn⟩ : ∃ n, 5 - i = n + 1 := ⟨4 - i, by omega⟩
  have hn' : 5 - (i + 1) = n := by omega
  rw [hn, hn']
  refine ⟨fun h => ?_, fun h h1 => ?_, fun h h1 => ?_⟩
  · rw [rdHd, h]; rfl
  · rw [rdHd, h, if_pos rfl]; exact if_pos h1
  · rw [rdHd, h, if_pos rfl]; exact if_neg fun q => q h1

abbrev r24f (ls : List Str) (a : Nat × Bool) : Blk := .box 148 [.sl false 1 (eStrs ls), .int .i64 a.1, .bool a.2]
abbrev bNil : Blk := .box 26 [.nil, .nil]
def rrO (s : Str) : Inv := ⟨Nat, fun i => ⟨[(0, true, .str s), (2, true, .ptr 10 0), (3, true, .bool false), (4, true, .ptr 11 0), (5, true, .ptr 12 0)],
  [(10, bNil), (11, .box 26 [.own 13 3 (eCommits (rcAt (cutB s 10 1430) (0, false) i).1), .nil]), (13, .own 38 3 true (eCommits (rcAt (cutB s 10 1430) (0, false) i).1)), (12, r24f (cutB s 10 1430) (rcAt (cutB s 10 1430) (0, false) i).2)]⟩,
  fun i => i ≤ 16 ∧ rdCom (cutB s 10 1430) (16 - i) (rcAt (cutB s 10 1430) (0, false) i).1 (rcAt (cutB s 10 1430) (0, false) i).2 = rdCom (cutB s 10 1430) 16 [] (0, false), fun i => 16 - i⟩
def rrI (s : Str) (g : Nat) : Inv := ⟨Nat, fun j => ⟨[(0, true, .str s), (2, true, .ptr 10 0), (3, true, .bool false), (4, true, .ptr 11 0), (5, true, .ptr 12 0), (6, true, .own 14 1 (eStrs (rcW (cutB s 10 1430) (rcAt (cutB s 10 1430) (0, false) g)))), (7, true, .ptr 15 0), (8, true, .int .i64 ((j : Int) + 2))],
  [(10, bNil), (11, .box 26 [.own 13 3 (eCommits (rcAt (cutB s 10 1430) (0, false) g).1), .nil]), (13, .own 38 3 true (eCommits (rcAt (cutB s 10 1430) (0, false) g).1)), (12, r24f (cutB s 10 1430) (rdLine (cutB s 10 1430) (rcAt (cutB s 10 1430) (0, false) g).2).2),
   (14, .own 9 1 true (eStrs (rcW (cutB s 10 1430) (rcAt (cutB s 10 1430) (0, false) g)))), (15, .box 38 [.own 9 1 (eInts ((((rcW (cutB s 10 1430) (rcAt (cutB s 10 1430) (0, false) g)).drop 2).take j).map numB)), .str ((rcW (cutB s 10 1430) (rcAt (cutB s 10 1430) (0, false) g)).getD 1 []), .nil]),
   (9, .own 3 1 true (eInts ((((rcW (cutB s 10 1430) (rcAt (cutB s 10 1430) (0, false) g)).drop 2).take j).map numB)))]⟩,
  fun j => g < 16 ∧ rdMore (cutB s 10 1430) (wCommit ++ [32]) (rcAt (cutB s 10 1430) (0, false) g).2 = true ∧ j + 2 ≤ (rcW (cutB s 10 1430) (rcAt (cutB s 10 1430) (0, false) g)).length ∧ rdCom (cutB s 10 1430) (16 - g) (rcAt (cutB s 10 1430) (0, false) g).1 (rcAt (cutB s 10 1430) (0, false) g).2 = rdCom (cutB s 10 1430) 16 [] (0, false),
  fun j => (rcW (cutB s 10 1430) (rcAt (cutB s 10 1430) (0, false) g)).length - j⟩
def rrC (s : Str) : List CommitD × (Nat × Bool) := rdCom (cutB s 10 1430) 16 [] (0, false)
def rrH (s : Str) : Inv := ⟨Nat, fun i => ⟨[(0, true, .str s), (2, true, .ptr 10 0), (3, true, .bool false), (4, true, .ptr 11 0), (5, true, .ptr 12 0)],
  [(10, bNil), (11, .box 26 [.own 13 3 (eCommits (rrC s).1), .own 14 2 (eHeads (rhAt (cutB s 10 1430) (rrC s).2 i).1)]), (13, .own 38 3 true (eCommits (rrC s).1)), (14, .own 47 2 true (eHeads (rhAt (cutB s 10 1430) (rrC s).2 i).1)), (12, r24f (cutB s 10 1430) (rhAt (cutB s 10 1430) (rrC s).2 i).2)]⟩,
  fun i => i ≤ 5 ∧ rdHd (cutB s 10 1430) (5 - i) (rhAt (cutB s 10 1430) (rrC s).2 i).1 (rhAt (cutB s 10 1430) (rrC s).2 i).2 = rdHd (cutB s 10 1430) 5 [] (rrC s).2, fun i => 5 - i⟩
def rrInv (s : Str) (n g : Nat) : Inv := if n = 3 then rrO s else if n = 7 then rrI s g else rrH s
theorem rrInv_3 (s g) : rrInv s 3 g = rrO s := rfl
theorem rrInv_7 (s g) : rrInv s 7 g = rrI s g := rfl
theorem rrInv_12 (s g) : rrInv s 12 g = rrH s := rfl
--TAB tTabR
def cRepoReadS : Con := .fn 113 Str (fun s => [.str s]) (fun s => s.length ≤ 1048576) (fun s => .tup [.agg [.own 8 3 (eCommits (repoReadS repoI s).1.commits), .own 9 2 (eHeads (repoReadS repoI s).1.heads)], .bool (repoReadS repoI s).2]) (fun s => ownCommits 8 (repoReadS repoI s).1.commits ++ ownHeads 9 (repoReadS repoI s).1.heads)
set_option maxHeartbeats 4000000 in
theorem repoReadS_has : Has Tryz.prog 53 cRepoReadS := by
  refine has_walk mixed tTabR_ok (l := [(125, cL1Cut), (126, cRdMore), (127, cRdLine), (128, cNumB), (129, cRdTree), (78, cL7Ok), (116, cL24Repo)]) (HasL.cons l1Cut_has (HasL.cons rdMore_has (HasL.cons rdLine_has (HasL.cons numB_has (HasL.cons rdTree_has (HasL.cons l7Ok_has (HasL.cons l24Repo_has HasL.nil))))))) [0, 2, 3, 4, 5, 6, 7, 8, 9] (fun s => rrInv s) [] Tryz.func53 (by kernel_rfl) (code := _) (by unfold Tryz.f53; rfl) (by kernel_rfl) (by decide) (fun _ => ⟨(), trivial⟩) (by intro h; first | exact fun _ => rfl | cases h) (by kernel_rfl) ?_
  intro (s : Str) (hs : s.length ≤ 1048576)
  have g1 : (cutB s 10 1430).length ≤ 1048577 := by have := cutL_len' (b := 10) (m := 1430) (s := s) (c := []) (n := 0); unfold cutB; omega
  have g2 : ∀ l ∈ cutB s 10 1430, l.length ≤ 1073741824 := fun l hl => by have := cutB_le l hl; omega
  simp (maxSteps := 4000000) -implicitDefEqProofs [cRepoReadS, cL1Cut, cRdMore, cRdLine, cNumB, cRdTree, cL7Ok, cL24Repo, Con.fn, tTabR, tTab, -Bool.exists_bool, rrInv_3, rrInv_7, rrInv_12, rrO, rrI, rrH]
  try dsimp only
  have e1 : ∀ p, rdHd (cutB s 10 1430) 5 [] (rrC s).2 = some p → repoReadS repoI s = if p.2.2 = false ∧ p.2.1 + 1 = (cutB s 10 1430).length ∧ repoI ⟨(rrC s).1, p.1⟩ = true ∧ repoT ⟨(rrC s).1, p.1⟩ = s then (⟨(rrC s).1, p.1⟩, true) else (⟨[], []⟩, false) := fun p h => by
    unfold repoReadS
    have : rdCom (cutB s 10 1430) 16 [] (0, false) = rrC s := rfl
    rw [this, h]
  have e0 : rdHd (cutB s 10 1430) 5 [] (rrC s).2 = none → repoReadS repoI s = (⟨[], []⟩, false) := fun h => by
    unfold repoReadS
    have : rdCom (cutB s 10 1430) 16 [] (0, false) = rrC s := rfl
    rw [this, h]
  have hCdef : rdCom (cutB s 10 1430) 16 [] (0, false) = rrC s := rfl
  refine ⟨s, 10, 1430, ⟨rfl, rfl, rfl⟩, by omega, ⟨0, ⟨⟨rfl, rfl, rfl, rfl⟩, rfl⟩, by omega, rfl⟩, ?_⟩
  rw [hCdef]
  generalize cutB s 10 1430 = ls at g1 g2 e1 e0 hCdef ⊢
  intro t ht hR
  have hbd := rcAt_bd (a := (0, false)) g1 (by simp) t
  have hln := rcAt_len (ls := ls) (a := (0, false)) t
  have hC16 : t = 16 → rrC s = rcAt ls (0, false) t := fun e => by rw [← hR, e]; rfl
  refine ⟨ls, (rcAt ls (0, false) t).2.1, (rcAt ls (0, false) t).2.2, ⟨rfl, rfl, rfl⟩, ⟨g1, hbd⟩, fun hm hl => ⟨fun h16 => ?_, fun h16 => ?_⟩, fun hm => ?_⟩
  · have hlt : t < 16 := by omega
    obtain ⟨_, s2⟩ := rc_step (ls := ls) (a := (0, false)) hlt
    rw [hR] at s2
    have hw2 := rc_two hm
    have hlen := rdLine_len (ls := ls) (a := (rcAt ls (0, false) t).2) g2
    have hwl : ∀ q ∈ rcW ls (rcAt ls (0, false) t), q.length ≤ 1073741824 := fun q hq => by have := cutB_le q hq; omega
    have hwb : (rcW ls (rcAt ls (0, false) t)).length ≤ 1073741826 := by have := cutL_len' (b := 32) (m := 4) (s := (rdLine ls (rcAt ls (0, false) t).2).1) (c := []) (n := 0); unfold rcW cutB; omega
    have hrs : rcStep ls (rcAt ls (0, false) t) = rcAt ls (0, false) (t + 1) := rfl
    have hrd := rdLine_bd (ls := ls) (a := (rcAt ls (0, false) t).2) g1 hbd
    refine ⟨ls, (rcAt ls (0, false) t).2.1, (rcAt ls (0, false) t).2.2, ⟨rfl, rfl, rfl⟩, ⟨g1, hbd⟩, (rdLine ls (rcAt ls (0, false) t).2).1, 32, 4, ⟨rfl, rfl, rfl⟩, by omega, ?_⟩
    have hW : cutB (rdLine ls (rcAt ls (0, false) t).2).1 32 4 = rcW ls (rcAt ls (0, false) t) := rfl
    rw [hW]
    have hs2 := s2 hm
    have e1' : Option.map eStr (rcW ls (rcAt ls (0, false) t))[1]? = some (eStr (rcW ls (rcAt ls (0, false) t))[1]) := by rw [List.getElem?_eq_getElem (by omega)]; rfl
    rw [e1']
    have e11 : (rcW ls (rcAt ls (0, false) t))[1]?.getD [] = (rcW ls (rcAt ls (0, false) t))[1] := by rw [List.getElem?_eq_getElem (by omega)]; rfl
    refine ⟨by omega, fun _ => ⟨⟨by simp -implicitDefEqProofs [eStr], by simp -implicitDefEqProofs [eStr]⟩, fun _ _ => ⟨t, ⟨0, ⟨⟨rfl, by omega⟩, ⟨rfl, ⟨rfl, rfl, rfl⟩, .inl rfl, by rw [e11]; simp -implicitDefEqProofs [eStr]⟩, rfl, rfl, .inl rfl⟩, hlt, hm, by omega, hR⟩, fun j _ _ hj _ _ => ⟨fun hj2 => ?_, fun hj2 => ?_⟩⟩⟩⟩
    · have ej : ((j : Int) + 2).toNat = j + 2 := by omega
      have hj3 : j + 2 < (rcW ls (rcAt ls (0, false) t)).length := by omega
      have e5 : Option.map eStr (rcW ls (rcAt ls (0, false) t))[j + 2]? = some (eStr (rcW ls (rcAt ls (0, false) t))[j + 2]) := by rw [List.getElem?_eq_getElem hj3]; rfl
      have hq := hwl _ (List.getElem_mem hj3)
      have e6 : (((rcW ls (rcAt ls (0, false) t)).map numB).drop 2).take (j + 1) = (((rcW ls (rcAt ls (0, false) t)).map numB).drop 2).take j ++ [numB (rcW ls (rcAt ls (0, false) t))[j + 2]] := by
        rw [take_succ' (by simp; omega)]
        simp -implicitDefEqProofs [Nat.add_comm]
      rw [ej, e5]
      refine ⟨by omega, fun _ _ => ⟨⟨by simp -implicitDefEqProofs [eStr], by simp -implicitDefEqProofs [eStr]⟩, fun _ _ => ⟨by simpa [eStr] using hq, by omega, by omega, fun _ _ => ⟨j + 1, ⟨by omega, ?_, ?_⟩, ⟨hlt, hm, by omega, hR⟩, by omega⟩⟩⟩⟩
      · rw [e6]; simp -implicitDefEqProofs [eInts, eInt, eStr]
      · rw [e6]; simp -implicitDefEqProofs [eInts, eInt, eStr]
    · have hj3 : j + 2 = (rcW ls (rcAt ls (0, false) t)).length := by omega
      have e6 : (((rcW ls (rcAt ls (0, false) t)).map numB).drop 2).take j = ((rcW ls (rcAt ls (0, false) t)).map numB).drop 2 := List.take_of_length_le (by simp; omega)
      refine ⟨ls, (rdLine ls (rcAt ls (0, false) t).2).2.1, (rdLine ls (rcAt ls (0, false) t).2).2.2, ⟨rfl, rfl, rfl⟩, ⟨⟨g1, hrd⟩, g2⟩, by rw [hln]; omega, t + 1, ⟨⟨?_, rfl, rfl, rfl⟩, ?_⟩, ⟨by omega, hs2.symm⟩, by omega⟩
      · rw [← hrs, e6]; simp -implicitDefEqProofs [rcStep, eCommits, eCommit, List.getD_eq_getElem?_getD]
      · rw [← hrs, e6]; simp -implicitDefEqProofs [rcStep, eCommits, eCommit, List.getD_eq_getElem?_getD]
  · have hCt := hC16 (by omega)
    have hCb : (rrC s).2.1 ≤ 1048577 := by rw [hCt]; exact hbd
    refine ⟨⟨0, ⟨⟨⟨by rw [hCt], rfl⟩, rfl, by rw [hCt]; rfl, by rw [hCt]; rfl⟩, by rw [hCt], rfl⟩, by omega, rfl⟩, fun h hh hH => ?_⟩
    have hbh := rhAt_bd g1 hCb h
    have hlh := rhAt_len (ls := ls) (a := (rrC s).2) h
    have hF5 : h = 5 → rdHd ls 5 [] (rrC s).2 = some (rhAt ls (rrC s).2 h) := fun e => by rw [← hH, e]; rfl
    have hst : h < 5 → _ := fun q => rh_step (ls := ls) (a := (rrC s).2) (i := h) q
    rw [hH] at hst
    have hs1 : rhStep ls (rhAt ls (rrC s).2 h) = rhAt ls (rrC s).2 (h + 1) := rfl
    refine ⟨ls, (rhAt ls (rrC s).2 h).2.1, (rhAt ls (rrC s).2 h).2.2, ⟨rfl, rfl, rfl⟩, ⟨g1, hbh⟩, fun hm2 hl2 => ⟨fun h5 => ?_, fun h5 => ?_⟩, fun hm2 => ?_⟩
    · obtain ⟨_, s2, s3⟩ := hst (by omega)
      have hlen := rdLine_len (ls := ls) (a := (rhAt ls (rrC s).2 h).2) g2
      have hwl : ∀ q ∈ rhW ls (rhAt ls (rrC s).2 h), q.length ≤ 1073741824 := fun q hq => by have := cutB_le q hq; omega
      refine ⟨ls, (rhAt ls (rrC s).2 h).2.1, (rhAt ls (rrC s).2 h).2.2, ⟨rfl, rfl, rfl⟩, ⟨g1, hbh⟩, (rdLine ls (rhAt ls (rrC s).2 h).2).1, 32, 3, ⟨rfl, rfl, rfl⟩, by omega, ?_⟩
      have hW : cutB (rdLine ls (rhAt ls (rrC s).2 h).2).1 32 3 = rhW ls (rhAt ls (rrC s).2 h) := rfl
      rw [hW]
      refine fun _ => ⟨fun hne => ?_, fun he3 => ?_⟩
      · rw [e0 (s2 hm2 fun q => hne (by omega))]; exact ⟨⟨⟨rfl, rfl⟩, rfl⟩, rfl, rfl⟩
      · have he3' : (rhW ls (rhAt ls (rrC s).2 h)).length = 3 := by omega
        have s3 := s3 hm2 he3'
        obtain ⟨x, y, z, hX⟩ : ∃ x y z, rhW ls (rhAt ls (rrC s).2 h) = [x, y, z] := by
          match hq : rhW ls (rhAt ls (rrC s).2 h), he3' with
          | [x, y, z], _ => exact ⟨x, y, z, rfl⟩
        have hz := hwl z (by rw [hX]; simp)
        have hst : rhStep ls (rhAt ls (rrC s).2 h) = ((rhAt ls (rrC s).2 h).1 ++ [⟨y, numB z⟩], (rdLine ls (rhAt ls (rrC s).2 h).2).2) := by unfold rhStep; rw [hX]; rfl
        rw [hX]
        simp -implicitDefEqProofs [eStr, -Bool.exists_bool]
        refine ⟨hz, by rw [hlh]; omega, h + 1, ?_, ⟨by omega, s3.symm⟩, by omega⟩
        rw [← hs1, hst]
        exact ⟨⟨by simp -implicitDefEqProofs [eHeads, eHead], rfl, rfl⟩, by simp -implicitDefEqProofs [eHeads, eHead]⟩
    · have hF := hF5 (by omega)
      generalize rhAt ls (rrC s).2 h = X at hF hbh ⊢
      (
        have no : ¬ (X.2.2 = false ∧ X.2.1 + 1 = ls.length ∧ repoI ⟨(rrC s).1, X.1⟩ = true ∧ repoT ⟨(rrC s).1, X.1⟩ = s) → repoReadS repoI s = (⟨[], []⟩, false) := fun q => by rw [e1 X hF, if_neg q]
        have yes : (X.2.2 = false ∧ X.2.1 + 1 = ls.length ∧ repoI ⟨(rrC s).1, X.1⟩ = true ∧ repoT ⟨(rrC s).1, X.1⟩ = s) → repoReadS repoI s = (⟨(rrC s).1, X.1⟩, true) := fun q => by rw [e1 X hF, if_pos q]
        refine ⟨fun hb => ?_, fun hb => ⟨by omega, fun _ _ => ⟨fun hne => ?_, fun he => ⟨by rw [hCt, hln]; omega, ?_⟩⟩⟩⟩
        · rw [no fun q => by rw [q.1] at hb; cases hb]; exact ⟨⟨⟨rfl, rfl⟩, rfl⟩, rfl, rfl⟩
        · rw [no fun q => hne (by have := q.2.1; omega)]; exact ⟨⟨⟨rfl, rfl⟩, rfl⟩, rfl, rfl⟩
        · rw [← repo_eq]
          refine ⟨fun h2 => ?_, fun h2 => ⟨okR_I h2, fun h3 => ?_, fun h3 => ?_⟩⟩
          · rw [no fun q => by rw [q.2.2.1] at h2; cases h2]; exact ⟨⟨⟨rfl, rfl⟩, rfl⟩, rfl, rfl⟩
          · rw [no fun q => h3 q.2.2.2]; exact ⟨⟨⟨rfl, rfl⟩, rfl⟩, rfl, rfl⟩
          · rw [yes ⟨hb, by omega, h2, h3⟩]; exact ⟨⟨⟨rfl, rfl⟩, rfl⟩, rfl, rfl⟩
      )
    · have hF : rdHd ls 5 [] (rrC s).2 = some (rhAt ls (rrC s).2 h) := by
        by_cases h5 : h = 5
        · exact hF5 h5
        · exact (hst (by omega)).1 hm2
      generalize rhAt ls (rrC s).2 h = X at hF hbh ⊢
      (
        have no : ¬ (X.2.2 = false ∧ X.2.1 + 1 = ls.length ∧ repoI ⟨(rrC s).1, X.1⟩ = true ∧ repoT ⟨(rrC s).1, X.1⟩ = s) → repoReadS repoI s = (⟨[], []⟩, false) := fun q => by rw [e1 X hF, if_neg q]
        have yes : (X.2.2 = false ∧ X.2.1 + 1 = ls.length ∧ repoI ⟨(rrC s).1, X.1⟩ = true ∧ repoT ⟨(rrC s).1, X.1⟩ = s) → repoReadS repoI s = (⟨(rrC s).1, X.1⟩, true) := fun q => by rw [e1 X hF, if_pos q]
        refine ⟨fun hb => ?_, fun hb => ⟨by omega, fun _ _ => ⟨fun hne => ?_, fun he => ⟨by rw [hCt, hln]; omega, ?_⟩⟩⟩⟩
        · rw [no fun q => by rw [q.1] at hb; cases hb]; exact ⟨⟨⟨rfl, rfl⟩, rfl⟩, rfl, rfl⟩
        · rw [no fun q => hne (by have := q.2.1; omega)]; exact ⟨⟨⟨rfl, rfl⟩, rfl⟩, rfl, rfl⟩
        · rw [← repo_eq]
          refine ⟨fun h2 => ?_, fun h2 => ⟨okR_I h2, fun h3 => ?_, fun h3 => ?_⟩⟩
          · rw [no fun q => by rw [q.2.2.1] at h2; cases h2]; exact ⟨⟨⟨rfl, rfl⟩, rfl⟩, rfl, rfl⟩
          · rw [no fun q => h3 q.2.2.2]; exact ⟨⟨⟨rfl, rfl⟩, rfl⟩, rfl, rfl⟩
          · rw [yes ⟨hb, by omega, h2, h3⟩]; exact ⟨⟨⟨rfl, rfl⟩, rfl⟩, rfl, rfl⟩
      )
  · have hCt : rrC s = rcAt ls (0, false) t := by
      by_cases h16 : t = 16
      · exact hC16 h16
      · rw [← hR]; exact (rc_step (by omega)).1 hm
    have hCb : (rrC s).2.1 ≤ 1048577 := by rw [hCt]; exact hbd
    refine ⟨⟨0, ⟨⟨⟨by rw [hCt], rfl⟩, rfl, by rw [hCt]; rfl, by rw [hCt]; rfl⟩, by rw [hCt], rfl⟩, by omega, rfl⟩, fun h hh hH => ?_⟩
    have hbh := rhAt_bd g1 hCb h
    have hlh := rhAt_len (ls := ls) (a := (rrC s).2) h
    have hF5 : h = 5 → rdHd ls 5 [] (rrC s).2 = some (rhAt ls (rrC s).2 h) := fun e => by rw [← hH, e]; rfl
    have hst : h < 5 → _ := fun q => rh_step (ls := ls) (a := (rrC s).2) (i := h) q
    rw [hH] at hst
    have hs1 : rhStep ls (rhAt ls (rrC s).2 h) = rhAt ls (rrC s).2 (h + 1) := rfl
    refine ⟨ls, (rhAt ls (rrC s).2 h).2.1, (rhAt ls (rrC s).2 h).2.2, ⟨rfl, rfl, rfl⟩, ⟨g1, hbh⟩, fun hm2 hl2 => ⟨fun h5 => ?_, fun h5 => ?_⟩, fun hm2 => ?_⟩
    · obtain ⟨_, s2, s3⟩ := hst (by omega)
      have hlen := rdLine_len (ls := ls) (a := (rhAt ls (rrC s).2 h).2) g2
      have hwl : ∀ q ∈ rhW ls (rhAt ls (rrC s).2 h), q.length ≤ 1073741824 := fun q hq => by have := cutB_le q hq; omega
      refine ⟨ls, (rhAt ls (rrC s).2 h).2.1, (rhAt ls (rrC s).2 h).2.2, ⟨rfl, rfl, rfl⟩, ⟨g1, hbh⟩, (rdLine ls (rhAt ls (rrC s).2 h).2).1, 32, 3, ⟨rfl, rfl, rfl⟩, by omega, ?_⟩
      have hW : cutB (rdLine ls (rhAt ls (rrC s).2 h).2).1 32 3 = rhW ls (rhAt ls (rrC s).2 h) := rfl
      rw [hW]
      refine fun _ => ⟨fun hne => ?_, fun he3 => ?_⟩
      · rw [e0 (s2 hm2 fun q => hne (by omega))]; exact ⟨⟨⟨rfl, rfl⟩, rfl⟩, rfl, rfl⟩
      · have he3' : (rhW ls (rhAt ls (rrC s).2 h)).length = 3 := by omega
        have s3 := s3 hm2 he3'
        obtain ⟨x, y, z, hX⟩ : ∃ x y z, rhW ls (rhAt ls (rrC s).2 h) = [x, y, z] := by
          match hq : rhW ls (rhAt ls (rrC s).2 h), he3' with
          | [x, y, z], _ => exact ⟨x, y, z, rfl⟩
        have hz := hwl z (by rw [hX]; simp)
        have hst : rhStep ls (rhAt ls (rrC s).2 h) = ((rhAt ls (rrC s).2 h).1 ++ [⟨y, numB z⟩], (rdLine ls (rhAt ls (rrC s).2 h).2).2) := by unfold rhStep; rw [hX]; rfl
        rw [hX]
        simp -implicitDefEqProofs [eStr, -Bool.exists_bool]
        refine ⟨hz, by rw [hlh]; omega, h + 1, ?_, ⟨by omega, s3.symm⟩, by omega⟩
        rw [← hs1, hst]
        exact ⟨⟨by simp -implicitDefEqProofs [eHeads, eHead], rfl, rfl⟩, by simp -implicitDefEqProofs [eHeads, eHead]⟩
    · have hF := hF5 (by omega)
      generalize rhAt ls (rrC s).2 h = X at hF hbh ⊢
      (
        have no : ¬ (X.2.2 = false ∧ X.2.1 + 1 = ls.length ∧ repoI ⟨(rrC s).1, X.1⟩ = true ∧ repoT ⟨(rrC s).1, X.1⟩ = s) → repoReadS repoI s = (⟨[], []⟩, false) := fun q => by rw [e1 X hF, if_neg q]
        have yes : (X.2.2 = false ∧ X.2.1 + 1 = ls.length ∧ repoI ⟨(rrC s).1, X.1⟩ = true ∧ repoT ⟨(rrC s).1, X.1⟩ = s) → repoReadS repoI s = (⟨(rrC s).1, X.1⟩, true) := fun q => by rw [e1 X hF, if_pos q]
        refine ⟨fun hb => ?_, fun hb => ⟨by omega, fun _ _ => ⟨fun hne => ?_, fun he => ⟨by rw [hCt, hln]; omega, ?_⟩⟩⟩⟩
        · rw [no fun q => by rw [q.1] at hb; cases hb]; exact ⟨⟨⟨rfl, rfl⟩, rfl⟩, rfl, rfl⟩
        · rw [no fun q => hne (by have := q.2.1; omega)]; exact ⟨⟨⟨rfl, rfl⟩, rfl⟩, rfl, rfl⟩
        · rw [← repo_eq]
          refine ⟨fun h2 => ?_, fun h2 => ⟨okR_I h2, fun h3 => ?_, fun h3 => ?_⟩⟩
          · rw [no fun q => by rw [q.2.2.1] at h2; cases h2]; exact ⟨⟨⟨rfl, rfl⟩, rfl⟩, rfl, rfl⟩
          · rw [no fun q => h3 q.2.2.2]; exact ⟨⟨⟨rfl, rfl⟩, rfl⟩, rfl, rfl⟩
          · rw [yes ⟨hb, by omega, h2, h3⟩]; exact ⟨⟨⟨rfl, rfl⟩, rfl⟩, rfl, rfl⟩
      )
    · have hF : rdHd ls 5 [] (rrC s).2 = some (rhAt ls (rrC s).2 h) := by
        by_cases h5 : h = 5
        · exact hF5 h5
        · exact (hst (by omega)).1 hm2
      generalize rhAt ls (rrC s).2 h = X at hF hbh ⊢
      (
        have no : ¬ (X.2.2 = false ∧ X.2.1 + 1 = ls.length ∧ repoI ⟨(rrC s).1, X.1⟩ = true ∧ repoT ⟨(rrC s).1, X.1⟩ = s) → repoReadS repoI s = (⟨[], []⟩, false) := fun q => by rw [e1 X hF, if_neg q]
        have yes : (X.2.2 = false ∧ X.2.1 + 1 = ls.length ∧ repoI ⟨(rrC s).1, X.1⟩ = true ∧ repoT ⟨(rrC s).1, X.1⟩ = s) → repoReadS repoI s = (⟨(rrC s).1, X.1⟩, true) := fun q => by rw [e1 X hF, if_pos q]
        refine ⟨fun hb => ?_, fun hb => ⟨by omega, fun _ _ => ⟨fun hne => ?_, fun he => ⟨by rw [hCt, hln]; omega, ?_⟩⟩⟩⟩
        · rw [no fun q => by rw [q.1] at hb; cases hb]; exact ⟨⟨⟨rfl, rfl⟩, rfl⟩, rfl, rfl⟩
        · rw [no fun q => hne (by have := q.2.1; omega)]; exact ⟨⟨⟨rfl, rfl⟩, rfl⟩, rfl, rfl⟩
        · rw [← repo_eq]
          refine ⟨fun h2 => ?_, fun h2 => ⟨okR_I h2, fun h3 => ?_, fun h3 => ?_⟩⟩
          · rw [no fun q => by rw [q.2.2.1] at h2; cases h2]; exact ⟨⟨⟨rfl, rfl⟩, rfl⟩, rfl, rfl⟩
          · rw [no fun q => h3 q.2.2.2]; exact ⟨⟨⟨rfl, rfl⟩, rfl⟩, rfl, rfl⟩
          · rw [yes ⟨hb, by omega, h2, h3⟩]; exact ⟨⟨⟨rfl, rfl⟩, rfl⟩, rfl, rfl⟩
      )

end Vx
end Go.Proofs.YtnmmlcjnjnooaaaGreatDoor
/-
  Contracts: repositories read (RepoRead, the program's).
-/
namespace Go.Proofs.YtnmmlcjnjnooaaaGreatDoor
namespace Vx
open Go.RowKit
set_option maxRecDepth 8000

def riAt (ls0 : List Str) : Nat → RepoD × List Str
  | 0 => (⟨[], []⟩, ls0)
  | i + 1 => match (riAt ls0 i).2 with
    | [] => riAt ls0 i
    | l :: ls => (riStep numS (riAt ls0 i).1 l ls).getD ((riAt ls0 i).1, [])
def riR (ls0 : List Str) : Option RepoD := riF numS ls0.length ⟨[], []⟩ ls0
def riOk (ls0 : List Str) (i : Nat) : Prop := riF numS (riAt ls0 i).2.length (riAt ls0 i).1 (riAt ls0 i).2 = riR ls0 ∧ (riAt ls0 i).1.commits.length + (riAt ls0 i).1.heads.length + (riAt ls0 i).2.length ≤ ls0.length ∧ (∀ l ∈ (riAt ls0 i).2, l.length ≤ 536870912) ∧ ∀ c ∈ (riAt ls0 i).1.commits, ∀ f ∈ c.tree, f.path.length ≤ 536870912
def riW (ls0 : List Str) (i : Nat) : List Str := spl 32 ((riAt ls0 i).2.headD []) []
def riT (ls0 : List Str) (i : Nat) : List Str := (riAt ls0 i).2.tail
theorem riW_pos (ls0 i) : 1 ≤ (riW ls0 i).length := by unfold riW; rw [spl_len]; omega
theorem rfI_mem {num} : ∀ {n : Nat} {t : List FileD} {ls : List Str}, ∀ l ∈ (rfI num n t ls).2, l ∈ ls := by
  intro n
  induction n with
  | zero => intro t ls l h; exact h
  | succ n ih =>
    intro t ls l h
    cases ls with
    | nil => exact h
    | cons x ls =>
      rw [rfI] at h
      split at h
      · split at h
        · exact List.mem_cons_of_mem _ (List.mem_of_mem_drop (ih l h))
        · exact h
      · exact h
def riNums (ls0 : List Str) (i : Nat) : List Int := ((riW ls0 i).drop 2).map fun q => (numS q).1
def riTree (ls0 : List Str) (i : Nat) : List FileD × List Str := rfI numS (riT ls0 i).length [] (riT ls0 i)
theorem ri_step {ls0 : List Str} {i : Nat} (hO : riOk ls0 i) (hne : (riAt ls0 i).2 ≠ []) :
    (((riW ls0 i).drop 2).all (fun q => (numS q).2) = false → riR ls0 = none) ∧
    (((riW ls0 i).drop 2).all (fun q => (numS q).2) = true → (riW ls0 i).getD 0 [] = wCommit → 2 ≤ (riW ls0 i).length →
      riAt ls0 (i + 1) = (⟨(riAt ls0 i).1.commits ++ [⟨riNums ls0 i, (riW ls0 i).getD 1 [], (riTree ls0 i).1⟩], (riAt ls0 i).1.heads⟩, (riTree ls0 i).2) ∧ riOk ls0 (i + 1) ∧ (riAt ls0 (i + 1)).2.length < (riAt ls0 i).2.length) ∧
    (((riW ls0 i).drop 2).all (fun q => (numS q).2) = true → ¬ ((riW ls0 i).getD 0 [] = wCommit ∧ 2 ≤ (riW ls0 i).length) → (riW ls0 i).getD 0 [] = wBranch → (riW ls0 i).length = 3 →
      riAt ls0 (i + 1) = (⟨(riAt ls0 i).1.commits, (riAt ls0 i).1.heads ++ [⟨(riW ls0 i).getD 1 [], (numS ((riW ls0 i).getD 2 [])).1⟩]⟩, riT ls0 i) ∧ riOk ls0 (i + 1) ∧ (riAt ls0 (i + 1)).2.length < (riAt ls0 i).2.length) ∧
    (((riW ls0 i).drop 2).all (fun q => (numS q).2) = true → ¬ ((riW ls0 i).getD 0 [] = wCommit ∧ 2 ≤ (riW ls0 i).length) → ¬ ((riW ls0 i).getD 0 [] = wBranch ∧ (riW ls0 i).length = 3) → riR ls0 = none) := by
  obtain ⟨h1, h2, h3, h4⟩ := hO
  have hA : riAt ls0 (i + 1) = match (riAt ls0 i).2 with
    | [] => riAt ls0 i
    | l :: ls => (riStep numS (riAt ls0 i).1 l ls).getD ((riAt ls0 i).1, []) := rfl
  unfold riW riT riTree riNums riW riT
  generalize riAt ls0 i = S at h1 h2 h3 h4 hne hA ⊢
  obtain ⟨r, L⟩ := S
  cases L with
  | nil => exact absurd rfl hne
  | cons l ls =>
    simp only [List.headD_cons, List.tail_cons, List.length_cons] at h1 h2 h4 hA ⊢
    rw [riF] at h1
    have hst : ∀ p, riStep numS r l ls = some p → riAt ls0 (i + 1) = p ∧ (riF numS p.2.length p.1 p.2 = riR ls0) := fun p hp => by
      rw [hp] at h1 hA
      have hle := riStep_le hp
      exact ⟨hA, by rw [← h1]; exact riF_fuel (Nat.le_refl _) hle⟩
    refine ⟨fun h => ?_, fun h a1 a2 => ?_, fun h a1 a2 a3 => ?_, fun h a1 a2 => ?_⟩
    · have : riStep numS r l ls = none := by unfold riStep; rw [if_neg (by rw [h]; simp)]
      rw [this] at h1; exact h1.symm
    · have hs : riStep numS r l ls = some (⟨r.commits ++ [⟨((spl 32 l []).drop 2).map fun q => (numS q).1, (spl 32 l []).getD 1 [], (rfI numS ls.length [] ls).1⟩], r.heads⟩, (rfI numS ls.length [] ls).2) := by
        unfold riStep; rw [if_pos h, if_pos ⟨a1, a2⟩]
      obtain ⟨q1, q2⟩ := hst _ hs
      have hle := riStep_le hs
      refine ⟨q1, ⟨by rw [q1]; exact q2, ?_, ?_, ?_⟩, ?_⟩
      · rw [q1]; simp at hle ⊢; omega
      · rw [q1]; intro x hx; exact h3 x (List.mem_cons_of_mem _ (rfI_mem x hx))
      · rw [q1]
        intro c hc f hf
        rcases List.mem_append.1 hc with hc | hc
        · exact h4 c hc f hf
        · rw [List.mem_singleton] at hc
          subst hc
          exact rfI_path (N := 536870912) (fun x hx => h3 x (List.mem_cons_of_mem _ hx)) (by simp) f hf
      · rw [q1]; simp at hle ⊢; omega
    · have hs : riStep numS r l ls = some (⟨r.commits, r.heads ++ [⟨(spl 32 l []).getD 1 [], (numS ((spl 32 l []).getD 2 [])).1⟩]⟩, ls) := by
        unfold riStep; rw [if_pos h, if_neg a1, if_pos ⟨a2, a3⟩]
      obtain ⟨q1, q2⟩ := hst _ hs
      refine ⟨q1, ⟨by rw [q1]; exact q2, ?_, ?_, ?_⟩, ?_⟩
      · rw [q1]; simp; omega
      · rw [q1]; intro x hx; exact h3 x (List.mem_cons_of_mem _ hx)
      · rw [q1]; exact h4
      · rw [q1]; simp
    · have : riStep numS r l ls = none := by unfold riStep; rw [if_pos h, if_neg a1, if_neg a2]
      rw [this] at h1; exact h1.symm

def riL (s : Str) : List Str := (linesI s).1
abbrev riBox (r : RepoD) : List (Nat × Blk) := [(10, bNil), (11, .box 26 [.own 13 3 (eCommits r.commits), .own 14 2 (eHeads r.heads)]), (13, .own 38 3 true (eCommits r.commits)), (14, .own 47 2 true (eHeads r.heads))]
def ruO (s : Str) : Inv := ⟨Nat, fun i => ⟨[(0, true, .str s), (2, true, .ptr 10 0), (3, true, .bool false), (4, true, .sl false 1 (eStrs (riAt (riL s) i).2)), (6, true, .ptr 11 0)], riBox (riAt (riL s) i).1⟩, fun i => riOk (riL s) i, fun i => (riAt (riL s) i).2.length⟩
def ruI (s : Str) (g : Nat) : Inv := ⟨Nat, fun j => ⟨[(0, true, .str s), (2, true, .ptr 10 0), (3, true, .bool false), (4, true, .sl false 1 (eStrs (riT (riL s) g))), (6, true, .ptr 11 0), (7, true, .sl false 1 (eStrs (riW (riL s) g))), (8, true, .own 15 1 (eInts ((riNums (riL s) g).take j))), (35, true, .sl false 1 (eStrs ((riW (riL s) g).drop 2))), (36, true, .int .i64 ((riW (riL s) g).drop 2).length), (37, true, .int .i64 j)], riBox (riAt (riL s) g).1 ++ [(15, .own 3 1 true (eInts ((riNums (riL s) g).take j)))]⟩,
  fun j => riOk (riL s) g ∧ (riAt (riL s) g).2 ≠ [] ∧ j ≤ ((riW (riL s) g).drop 2).length ∧ (((riW (riL s) g).drop 2).take j).all (fun q => (numS q).2) = true, fun j => ((riW (riL s) g).drop 2).length - j⟩
def ruInv (s : Str) (n g : Nat) : Inv := if n = 5 then ruO s else ruI s g
theorem ruInv_5 (s g) : ruInv s 5 g = ruO s := rfl
theorem ruInv_10 (s g) : ruInv s 10 g = ruI s g := rfl
def cRepoReadI : Con := { (Con.fn 115 Str (fun s => [.str s]) (fun s => s.length ≤ 1048576) (fun s => .tup [.agg [.own 8 3 (eCommits (repoReadI numS repoI s).1.commits), .own 9 2 (eHeads (repoReadI numS repoI s).1.heads)], .bool (repoReadI numS repoI s).2]) (fun s => ownCommits 8 (repoReadI numS repoI s).1.commits ++ ownHeads 9 (repoReadI numS repoI s).1.heads)) with need := numNeed }
set_option maxHeartbeats 4000000 in
theorem repoReadI_has : Has Tryz.prog 50 cRepoReadI := by
  refine has_walk mixed tTab_ok (l := [(117, cLinesOf), (118, cSplit), (119, cNumber), (120, cReadFiles), (19, cRepoOk), (115, cRepoPutT)]) (HasL.cons linesOf_has (HasL.cons split_has (HasL.cons number_has (HasL.cons readFiles_has (HasL.cons repoOk_has (HasL.cons repoPutT_has HasL.nil)))))) [0, 2, 3, 4, 5, 6, 7, 8, 10, 11, 12, 13, 35, 36, 37] (fun s => ruInv s) [] Tryz.func50 (by kernel_rfl) (code := _) (by unfold Tryz.f50; rfl) (by kernel_rfl) (by decide) (fun _ => ⟨(), trivial⟩) (by intro h; first | exact fun _ => rfl | cases h) (by kernel_rfl) ?_
  intro (s : Str) (hs : s.length ≤ 1048576)
  simp (maxSteps := 4000000) -implicitDefEqProofs [cRepoReadI, cLinesOf, cSplit, cNumber, cReadFiles, cRepoOk, cRepoPutT, Con.fn, tTab, ruInv_5, ruInv_10, ruO, ruI]
  try dsimp only
  obtain ⟨lb1, lb2⟩ := linesI_bd s
  have hI0 : (linesI s).2 = false → repoReadI numS repoI s = (⟨[], []⟩, false) := fun h => by unfold repoReadI; rw [if_neg (by rw [h]; simp)]
  have hI1 : (linesI s).2 = true → riR (riL s) = none → repoReadI numS repoI s = (⟨[], []⟩, false) := fun h h2 => by
    have h3 : riF numS (linesI s).1.length ⟨[], []⟩ (linesI s).1 = none := h2
    unfold repoReadI; rw [if_pos h, h3]
  have hI2 : (linesI s).2 = true → ∀ r, riR (riL s) = some r → repoReadI numS repoI s = if repoI r = true ∧ repoT r = s then (r, true) else (⟨[], []⟩, false) := fun h r h2 => by
    have h3 : riF numS (linesI s).1.length ⟨[], []⟩ (linesI s).1 = some r := h2
    unfold repoReadI; rw [if_pos h, h3]
  refine ⟨by omega, fun hok => ⟨⟨0, ⟨rfl, rfl, rfl⟩, ⟨rfl, by simp -implicitDefEqProofs [riAt], fun l hl => by have := lb2 l hl; omega, by simp -implicitDefEqProofs [riAt]⟩⟩, fun t hO _ => ⟨fun hpos => ⟨hpos, fun _ => ?_⟩, fun hnil => ?_⟩⟩, fun hok => ?_⟩
  · have hno := hI1 hok
    clear hI0 hI1 hI2
    have hLb : (riL s).length ≤ 1048576 := by show (linesI s).1.length ≤ _; omega
    have hne : (riAt (riL s) t).2 ≠ [] := List.length_pos_iff.1 hpos
    obtain ⟨l, ls, hL⟩ : ∃ l ls, (riAt (riL s) t).2 = l :: ls := by cases hq : (riAt (riL s) t).2 with | nil => exact absurd hq hne | cons l ls => exact ⟨l, ls, rfl⟩
    obtain ⟨st1, st2, st3, st4⟩ := ri_step hO hne
    have hW : riW (riL s) t = spl 32 l [] := by unfold riW; rw [hL]; rfl
    have hT : riT (riL s) t = ls := by unfold riT; rw [hL]; rfl
    have hll : l.length ≤ 1073741824 := by have := hO.2.2.1 l (by rw [hL]; simp); omega
    have hlb := hO.2.1
    have hp := riW_pos (riL s) t
    have hwl : ∀ q ∈ riW (riL s) t, q.length ≤ 1073741824 := fun q hq => by rw [hW] at hq; have := spl_le (c := 32) (s := l) (p := []) q hq; simp at this; omega
    have hwb : (riW (riL s) t).length ≤ 1073741825 := by rw [hW, spl_len]; have : l.count 32 ≤ l.length := List.count_le_length; omega
    have hnl : (riNums (riL s) t).length = (riW (riL s) t).length - 2 := by simp -implicitDefEqProofs [riNums]
    have hls : ∀ x ∈ ls, x.length ≤ 1073741824 := fun x hx => by have := hO.2.2.1 x (by rw [hL]; simp -implicitDefEqProofs [hx]); omega
    have hlsb : ls.length ≤ 1048576 := by rw [hL] at hlb; simp at hlb; omega
    rw [hL]
    refine ⟨⟨by simp -implicitDefEqProofs [eStr], by simp -implicitDefEqProofs [eStr]⟩, fun _ _ => ⟨l, 32, ⟨by simp -implicitDefEqProofs [eStr], rfl⟩, hll, by simp; omega, fun _ _ => ?_⟩⟩
    rw [← hW]
    have hm1 : ∃ m : Int, m = (if ((riW (riL s) t).length : Int) < 2 then ((riW (riL s) t).length : Int) else 2) ∧ 0 ≤ m ∧ m ≤ (riW (riL s) t).length ∧ (m = 2 ∨ ((riW (riL s) t).length < 2 ∧ m = (riW (riL s) t).length)) := by
      refine ⟨_, rfl, ?_⟩
      split <;> omega
    obtain ⟨m, hm, hm2, hm3, hm4⟩ := hm1
    rw [← hm]
    have hdr : (riW (riL s) t).drop m.toNat = (riW (riL s) t).drop 2 := by
      rcases hm4 with h | ⟨h1, h2⟩
      · rw [h]; rfl
      · rw [List.drop_eq_nil_of_le (by omega), List.drop_eq_nil_of_le (by omega)]
    refine ⟨⟨hm2, hm3⟩, fun _ _ _ => ⟨t, ⟨0, ⟨⟨?_, rfl, .inl rfl, ?_, by omega, rfl⟩, ⟨rfl, rfl⟩, rfl, rfl, .inl rfl⟩, hO, hne, Nat.zero_le _, by simp⟩, fun j _ _ hj hall => ⟨fun hj2 => ⟨hj2, fun _ => ?_⟩, fun hj2 => ?_⟩⟩⟩
    · rw [hT]; simp -implicitDefEqProofs [eStrs]; rw [List.take_of_length_le (by simp)]
    · rw [← hdr]
      simp only [eStrs, List.map_drop]
      rw [List.take_of_length_le (by simp)]
    · have hj3 : 2 + j < (riW (riL s) t).length := by omega
      have e5 : Option.map eStr (riW (riL s) t)[2 + j]? = some (eStr (riW (riL s) t)[2 + j]) := by rw [List.getElem?_eq_getElem hj3]; rfl
      have hq := hwl _ (List.getElem_mem hj3)
      have hdj : ((riW (riL s) t).drop 2)[j]'(by simp; omega) = (riW (riL s) t)[2 + j] := by rw [List.getElem_drop]
      have e6 : ((riW (riL s) t).drop 2).take (j + 1) = ((riW (riL s) t).drop 2).take j ++ [(riW (riL s) t)[2 + j]] := by rw [take_succ' (by simp; omega), hdj]
      have e7 : (riNums (riL s) t).take (j + 1) = (riNums (riL s) t).take j ++ [(numS (riW (riL s) t)[2 + j]).1] := by
        rw [take_succ' (by rw [hnl]; omega)]
        congr 2
        simp only [riNums, List.getElem_map, hdj]
      rw [e5]
      refine ⟨⟨by simp -implicitDefEqProofs [eStr], by simp -implicitDefEqProofs [eStr]⟩, fun _ _ => ⟨by simpa [eStr] using hq, fun hk => ?_, fun hk => ?_⟩⟩
      · refine ⟨by omega, by omega, fun _ _ => ⟨j + 1, ⟨⟨?_, by omega⟩, ?_⟩, ⟨hO, hne, by omega, fun x hx => ?_⟩, by omega⟩⟩
        · rw [e7]; simp -implicitDefEqProofs [eInts, eInt, eStr]
        · rw [e7]; simp -implicitDefEqProofs [eInts, eInt, eStr]
        · rw [e6] at hx
          rcases List.mem_append.1 hx with hx | hx
          · exact hall x hx
          · rw [List.mem_singleton] at hx
            subst hx
            simpa [eStr] using hk
      · have hF : riR (riL s) = none := st1 (by
          rw [List.all_eq_false]
          exact ⟨(riW (riL s) t)[2 + j], by rw [← hdj]; exact List.getElem_mem _, by simpa [eStr] using hk⟩)
        rw [hno hF]; exact ⟨⟨⟨rfl, rfl⟩, rfl⟩, rfl, rfl⟩
    · have hj3 : j = ((riW (riL s) t).drop 2).length := by simp; omega
      have hA : ((riW (riL s) t).drop 2).all (fun q => (numS q).2) = true := by
        rw [List.all_eq_true]
        intro x hx
        exact hall x (by rw [hj3, List.take_length]; exact hx)
      have hN : (riNums (riL s) t).take j = riNums (riL s) t := List.take_of_length_le (by rw [hnl, hj3]; simp)
      rw [hN]
      replace st2 := st2 hA
      replace st3 := st3 hA
      replace st4 := st4 hA
      have hjn : j = (riNums (riL s) t).length := by rw [hnl, hj3]; simp
      clear st1 hall hj3 hN hdr hm hm2 hm3 hm4
      rw [hT]
      have gN : (riW (riL s) t).length = 3 → (riNums (riL s) t)[0]? = some (numS ((riW (riL s) t).getD 2 [])).1 := fun h3 => by
        simp -implicitDefEqProofs [riNums, List.getElem?_drop, List.getD_eq_getElem?_getD, List.getElem?_eq_getElem (show 2 < (riW (riL s) t).length by omega)]
      have hTr : riTree (riL s) t = rfI numS ls.length [] ls := by unfold riTree; rw [hT]
      rw [hTr] at st2
      rw [hT] at st3
      have hLl : (riAt (riL s) t).2.length = (l :: ls).length := by rw [hL]
      rw [hLl] at st2 st3
      generalize riW (riL s) t = W at hp hwl hwb hnl st2 st3 st4 gN ⊢
      have g0 : Option.map eStr W[0]? = some (eStr (W.getD 0 [])) := by simp -implicitDefEqProofs [List.getD_eq_getElem?_getD, List.getElem?_eq_getElem (show 0 < W.length by omega)]
      have g1 : 2 ≤ W.length → Option.map eStr W[1]? = some (eStr (W.getD 1 [])) := fun h => by simp -implicitDefEqProofs [List.getD_eq_getElem?_getD, List.getElem?_eq_getElem (show 1 < W.length by omega)]
      rw [g0]
      have hno : ¬ (W.getD 0 [] = wCommit ∧ 2 ≤ W.length) → ¬ (W.getD 0 [] = wBranch ∧ W.length = 3) → (((repoReadI numS repoI s).1.commits = [] ∧ (repoReadI numS repoI s).1.heads = []) ∧ (repoReadI numS repoI s).2 = false) ∧ (repoReadI numS repoI s).1.commits = [] ∧ (repoReadI numS repoI s).1.heads = [] := fun q1 q2 => by
        rw [hno (st4 q1 q2)]; exact ⟨⟨⟨rfl, rfl⟩, rfl⟩, rfl, rfl⟩
      refine ⟨by omega, fun _ => ⟨⟨by simp -implicitDefEqProofs [eStr], by simp -implicitDefEqProofs [eStr]⟩, fun _ _ => ⟨fun hc _ => ⟨fun h2 => ?_, fun h2 => ⟨by omega, fun _ => ⟨⟨by simp -implicitDefEqProofs [eStr], by simp -implicitDefEqProofs [eStr]⟩, fun _ _ => ⟨fun hb => ?_, fun hb => hno (fun q => by omega) (fun q => hb q.1)⟩⟩⟩⟩, fun hc => ⟨by omega, fun _ => ⟨⟨by simp -implicitDefEqProofs [eStr], by simp -implicitDefEqProofs [eStr]⟩, fun _ _ => ⟨fun hb _ => ⟨fun h3 => ?_, fun h3 => hno (fun q => hc q.1) (fun q => h3 (by omega))⟩, fun hb => hno (fun q => hc q.1) (fun q => hb q.1)⟩⟩⟩⟩⟩⟩
      · rw [g1 (by omega)]
        obtain ⟨e1, e2, e3⟩ := st2 hc (by omega)
        refine ⟨by omega, fun _ => ⟨⟨by simp -implicitDefEqProofs [eStr], by simp -implicitDefEqProofs [eStr]⟩, fun _ _ => ⟨⟨hlsb, hls⟩, ⟨by omega, by omega⟩, t + 1, ⟨?_, ⟨?_, ?_⟩, ?_, ?_⟩, e2, e3⟩⟩⟩
        · rw [e1]
        · rw [e1]; simp -implicitDefEqProofs [eCommits, eCommit, eStr]
        · rw [e1]
        · rw [e1]; simp -implicitDefEqProofs [eCommits, eCommit, eStr]
        · rw [e1]
      · have h9 : wCommit = wBranch := hc.symm.trans hb
        exact absurd h9 (by decide)
      · have h3' : W.length = 3 := by omega
        rw [g1 (by omega), gN h3']
        obtain ⟨e1, e2, e3⟩ := st3 (fun q => hc q.1) hb h3'
        refine ⟨by omega, fun _ => ⟨⟨by simp -implicitDefEqProofs [eStr], by simp -implicitDefEqProofs [eStr]⟩, fun _ _ => ⟨by omega, fun _ => ⟨⟨by simp -implicitDefEqProofs [eInt], by simp -implicitDefEqProofs [eInt]⟩, fun _ _ => ⟨⟨by omega, by omega⟩, t + 1, ⟨?_, ⟨?_, ?_⟩, ?_, ?_⟩, e2, e3⟩⟩⟩⟩⟩
        · rw [e1]
        · rw [e1]
        · rw [e1]; simp -implicitDefEqProofs [eHeads, eHead, eStr, eInt]
        · rw [e1]
        · rw [e1]; simp -implicitDefEqProofs [eHeads, eHead, eStr, eInt]
  · have hF : riR (riL s) = some (riAt (riL s) t).1 := by rw [← hO.1, hnil]; rfl
    have e1 := hI2 hok _ hF
    have hb := hO.2.1
    have hlb : (riL s).length ≤ 1048576 := by show (linesI s).1.length ≤ _; omega
    have hr : rpPre (riAt (riL s) t).1 := ⟨by omega, hO.2.2.2⟩
    generalize (riAt (riL s) t).1 = R at e1 hr ⊢
    have no : ¬ (repoI R = true ∧ repoT R = s) → repoReadI numS repoI s = (⟨[], []⟩, false) := fun h => by rw [e1, if_neg h]
    have yes : (repoI R = true ∧ repoT R = s) → repoReadI numS repoI s = (R, true) := fun h => by rw [e1, if_pos h]
    refine ⟨hr, fun h2 => ?_, fun h2 => ⟨okR_I h2, fun h3 => ?_, fun h3 => ?_⟩⟩
    · rw [no fun q => by rw [q.1] at h2; cases h2]; exact ⟨⟨⟨rfl, rfl⟩, rfl⟩, rfl, rfl⟩
    · rw [no fun q => h3 q.2]; exact ⟨⟨⟨rfl, rfl⟩, rfl⟩, rfl, rfl⟩
    · rw [yes ⟨h2, h3⟩]; exact ⟨⟨⟨rfl, rfl⟩, rfl⟩, rfl, rfl⟩
  · rw [hI0 hok]; exact ⟨⟨⟨rfl, rfl⟩, rfl⟩, rfl, rfl⟩

end Vx
end Go.Proofs.YtnmmlcjnjnooaaaGreatDoor
/-
  Contracts: marks set in numbers, commits, branches, repositories.
-/
namespace Go.Proofs.YtnmmlcjnjnooaaaGreatDoor
namespace Vx
open Go.RowKit
set_option maxRecDepth 8000

def markI (n : Nat) (k : Int) : List Int := (List.range n).map fun i : Nat => k + (i : Int)
theorem markI_len (n : Nat) (k : Int) : (markI n k).length = n := by simp -implicitDefEqProofs [markI]
def mIArr (a : List Int) (k : Int) (i : Nat) : List Int := (markI a.length k).take i ++ a.drop i
theorem mIArr_len {a : List Int} {k : Int} {i : Nat} (h : i ≤ a.length) : (mIArr a k i).length = a.length := by simp -implicitDefEqProofs [mIArr, markI_len]; omega
theorem mIArr_zero (a : List Int) (k : Int) : mIArr a k 0 = a := by simp -implicitDefEqProofs [mIArr]
theorem mIArr_end {a : List Int} {k : Int} {i : Nat} (h : a.length ≤ i) : mIArr a k i = markI a.length k := by
  unfold mIArr
  rw [List.take_of_length_le (by rw [markI_len]; exact h), List.drop_eq_nil_of_le h, List.append_nil]
theorem mIArr_set {a : List Int} {k : Int} {i : Nat} (h : i < a.length) : (mIArr a k i).set i (k + i) = mIArr a k (i + 1) := by
  unfold mIArr
  have h1 : ((markI a.length k).take i).length = i := by rw [List.length_take, markI_len]; omega
  rw [List.set_append_right _ _ (by omega), h1, Nat.sub_self, List.drop_eq_getElem_cons h, List.set_cons_zero]
  rw [take_succ' (l := markI a.length k) (i := i) (by rw [markI_len]; exact h)]
  simp -implicitDefEqProofs [markI]
def heldI (a : List Int) (k : Int) : Int := if a = markI a.length k then k + a.length else -1
theorem heldI_mark (n : Nat) (k : Int) : heldI (markI n k) k = k + n := by
  unfold heldI
  rw [markI_len, if_pos rfl]

def mkC (c : CommitD) (k : Int) : CommitD := ⟨markI c.parents.length k, markS (k + c.parents.length), markFs c.tree (k + c.parents.length + 1)⟩
def kC (c : CommitD) (k : Int) : Int := kE c.tree (k + c.parents.length + 1)
def kCs : List CommitD → Int → Int
  | [], k => k
  | c :: l, k => kCs l (kC c k)
def markCs : List CommitD → Int → List CommitD
  | [], _ => []
  | c :: l, k => mkC c k :: markCs l (kC c k)
theorem markCs_len : ∀ (l : List CommitD) (k : Int), (markCs l k).length = l.length
  | [], _ => rfl
  | c :: l, k => by simp -implicitDefEqProofs [markCs, markCs_len l]
theorem kCs_snoc : ∀ (l : List CommitD) (c : CommitD) (k : Int), kCs (l ++ [c]) k = kC c (kCs l k)
  | [], _, _ => rfl
  | d :: l, c, k => by simp only [List.cons_append, kCs]; exact kCs_snoc l c _
theorem markCs_get : ∀ (l : List CommitD) (k : Int) (i : Nat) (h : i < l.length), (markCs l k)[i]'(by rw [markCs_len]; exact h) = mkC l[i] (kCs (l.take i) k)
  | [], _, i, h => by simp at h
  | c :: l, k, 0, _ => rfl
  | c :: l, k, i + 1, h => by
    simp only [markCs, List.getElem_cons_succ, List.take_succ_cons, kCs]
    exact markCs_get l _ i (by simpa using h)
theorem kC_ge {c : CommitD} {k : Int} : k + c.parents.length + 1 ≤ kC c k := by
  have := (kE_le (t := c.tree) (k := k + c.parents.length + 1) c.tree.length).1
  rw [List.take_length] at this
  exact this
theorem kCs_ge : ∀ (l : List CommitD) (k : Int), k ≤ kCs l k
  | [], _ => Int.le_refl _
  | c :: l, k => by
    have h1 := kC_ge (c := c) (k := k)
    have h2 := kCs_ge l (kC c k)
    simp only [kCs]; omega
theorem kCs_split (l : List CommitD) (k : Int) (i : Nat) : kCs (l.take i) k ≤ kCs l k := by
  have : ∀ (a b : List CommitD) (k : Int), kCs (a ++ b) k = kCs b (kCs a k) := by
    intro a
    induction a with
    | nil => intro b k; rfl
    | cons c a ih => intro b k; simp only [List.cons_append, kCs]; exact ih b _
  conv => rhs; rw [← List.take_append_drop i l]
  rw [this]
  exact kCs_ge _ _
def mCArr (a : List CommitD) (k : Int) (i : Nat) : List CommitD := (markCs a k).take i ++ a.drop i
theorem mCArr_len {a : List CommitD} {k : Int} {i : Nat} (h : i ≤ a.length) : (mCArr a k i).length = a.length := by simp -implicitDefEqProofs [mCArr, markCs_len]; omega
theorem mCArr_zero (a : List CommitD) (k : Int) : mCArr a k 0 = a := by simp -implicitDefEqProofs [mCArr]
theorem mCArr_end {a : List CommitD} {k : Int} {i : Nat} (h : a.length ≤ i) : mCArr a k i = markCs a k := by
  unfold mCArr
  rw [List.take_of_length_le (by rw [markCs_len]; exact h), List.drop_eq_nil_of_le h, List.append_nil]
theorem mCArr_get {a : List CommitD} {k : Int} {i : Nat} (h : i < a.length) : (mCArr a k i)[i]? = some a[i] := by
  unfold mCArr
  rw [List.getElem?_append_right (by simp; omega), List.length_take, markCs_len, Nat.min_eq_left (by omega), Nat.sub_self, List.getElem?_drop]
  simp -implicitDefEqProofs [h]
theorem mCArr_set {a : List CommitD} {k : Int} {i : Nat} (h : i < a.length) : (mCArr a k i).set i (mkC a[i] (kCs (a.take i) k)) = mCArr a k (i + 1) := by
  unfold mCArr
  have h1 : ((markCs a k).take i).length = i := by rw [List.length_take, markCs_len]; omega
  rw [List.set_append_right _ _ (by omega), h1, Nat.sub_self, List.drop_eq_getElem_cons h, List.set_cons_zero]
  rw [take_succ' (l := markCs a k) (i := i) (by rw [markCs_len]; exact h), markCs_get a k i h]
  simp
end Vx
end Go.Proofs.YtnmmlcjnjnooaaaGreatDoor
/-
  Contracts: marks set and looked for in heads; marks set in repositories.
-/
namespace Go.Proofs.YtnmmlcjnjnooaaaGreatDoor
namespace Vx
open Go.RowKit
set_option maxRecDepth 8000

def markHs (n : Nat) (k : Int) : List HeadD := (List.range n).map fun i : Nat => ⟨markS (k + 2 * i), k + 2 * i + 1⟩
theorem markHs_len (n : Nat) (k : Int) : (markHs n k).length = n := by simp -implicitDefEqProofs [markHs]
theorem markHs_get {n : Nat} {k : Int} {i : Nat} (h : i < n) : (markHs n k)[i]'(by rw [markHs_len]; exact h) = ⟨markS (k + 2 * i), k + 2 * i + 1⟩ := by simp -implicitDefEqProofs [markHs]
def mHA (a : List HeadD) (k : Int) (i : Nat) : List HeadD := (markHs a.length k).take i ++ a.drop i
theorem mHA_len {a : List HeadD} {k : Int} {i : Nat} (h : i ≤ a.length) : (mHA a k i).length = a.length := by simp -implicitDefEqProofs [mHA, markHs_len]; omega
theorem mHA_zero (a : List HeadD) (k : Int) : mHA a k 0 = a := by simp -implicitDefEqProofs [mHA]
theorem mHA_end {a : List HeadD} {k : Int} {i : Nat} (h : a.length ≤ i) : mHA a k i = markHs a.length k := by
  unfold mHA
  rw [List.take_of_length_le (by rw [markHs_len]; exact h), List.drop_eq_nil_of_le h, List.append_nil]
theorem mHA_get {a : List HeadD} {k : Int} {i : Nat} (h : i < a.length) : (mHA a k i)[i]? = some a[i] := by
  unfold mHA
  rw [List.getElem?_append_right (by simp; omega), List.length_take, markHs_len, Nat.min_eq_left (by omega), Nat.sub_self, List.getElem?_drop]
  simp -implicitDefEqProofs [h]
theorem mHA_set {a : List HeadD} {k : Int} {i : Nat} (h : i < a.length) : (mHA a k i).set i ⟨markS (k + 2 * i), k + 2 * i + 1⟩ = mHA a k (i + 1) := by
  unfold mHA
  have h1 : ((markHs a.length k).take i).length = i := by rw [List.length_take, markHs_len]; omega
  rw [List.set_append_right _ _ (by omega), h1, Nat.sub_self, List.drop_eq_getElem_cons h, List.set_cons_zero]
  rw [take_succ' (l := markHs a.length k) (i := i) (by rw [markHs_len]; exact h), markHs_get h]
  simp
def heldHs (a : List HeadD) (k : Int) : Int := if a = markHs a.length k then k + 2 * a.length else -1
theorem heldHs_mark (n : Nat) (k : Int) : heldHs (markHs n k) k = k + 2 * n := by
  unfold heldHs
  rw [markHs_len, if_pos rfl]
theorem heldH_miss {l : List HeadD} {k : Int} {i : Nat} (h : i < l.length) (h2 : l[i].name ≠ markS (k + 2 * i) ∨ l[i].at_ ≠ k + 2 * i + 1) : heldHs l k = -1 := by
  unfold heldHs
  rw [if_neg]
  intro h3
  have : l[i]? = (markHs l.length k)[i]? := by rw [← h3]
  rw [List.getElem?_eq_getElem h, List.getElem?_eq_getElem (by rw [markHs_len]; exact h), markHs_get h] at this
  have := Option.some.inj this
  rcases h2 with h2 | h2
  · exact h2 (congrArg HeadD.name this)
  · exact h2 (congrArg HeadD.at_ this)
theorem heldH_step {l : List HeadD} {k : Int} {i : Nat} (h : i < l.length) (h1 : l.take i = (markHs l.length k).take i) (h2 : l[i].name = markS (k + 2 * i)) (h3 : l[i].at_ = k + 2 * i + 1) : l.take (i + 1) = (markHs l.length k).take (i + 1) := by
  rw [take_succ' h, take_succ' (by rw [markHs_len]; exact h), markHs_get h, ← h1, ← h2, ← h3]
theorem heldH_end {l : List HeadD} {k : Int} {i : Nat} (h : l.length ≤ i) (h1 : l.take i = (markHs l.length k).take i) : heldHs l k = k + 2 * l.length := by
  rw [List.take_of_length_le h, List.take_of_length_le (by rw [markHs_len]; exact h)] at h1
  unfold heldHs
  rw [if_pos h1]
end Vx
end Go.Proofs.YtnmmlcjnjnooaaaGreatDoor
/-
  Contracts: marks looked for in commits and in repositories.
-/
namespace Go.Proofs.YtnmmlcjnjnooaaaGreatDoor
namespace Vx
open Go.RowKit
set_option maxRecDepth 8000

theorem mkC_same (c : CommitD) (k : Int) : mkC (mkC c k) k = mkC c k := by
  unfold mkC
  simp only [markI_len, markFs_same]
theorem kC_mark (c : CommitD) (k : Int) : kC (mkC c k) k = kC c k := by
  unfold kC
  have h1 : (mkC c k).parents.length = c.parents.length := by simp -implicitDefEqProofs [mkC, markI_len]
  have h2 : (mkC c k).tree = markFs c.tree (k + c.parents.length + 1) := rfl
  rw [h1, h2, kE_marks]
theorem markCs_same : ∀ (l : List CommitD) (k : Int), markCs (markCs l k) k = markCs l k ∧ kCs (markCs l k) k = kCs l k
  | [], _ => ⟨rfl, rfl⟩
  | c :: l, k => by
    obtain ⟨h1, h2⟩ := markCs_same l (kC c k)
    simp only [markCs, kCs, mkC_same, kC_mark, h1, h2]
    exact ⟨trivial, trivial⟩
def heldCs (l : List CommitD) (k : Int) : Int := if l = markCs l k then kCs l k else -1
theorem heldCs_mark (l : List CommitD) (k : Int) : heldCs (markCs l k) k = kCs l k := by
  unfold heldCs
  rw [(markCs_same l k).1, if_pos rfl, (markCs_same l k).2]
theorem heldC_miss {l : List CommitD} {k : Int} {i : Nat} (h : i < l.length) (h2 : l[i].parents ≠ markI l[i].parents.length (kCs (l.take i) k) ∨ l[i].who ≠ markS (kCs (l.take i) k + l[i].parents.length) ∨ l[i].tree ≠ markFs l[i].tree (kCs (l.take i) k + l[i].parents.length + 1)) : heldCs l k = -1 := by
  unfold heldCs
  rw [if_neg]
  intro h3
  have : l[i]? = (markCs l k)[i]? := by rw [← h3]
  rw [List.getElem?_eq_getElem h, List.getElem?_eq_getElem (by rw [markCs_len]; exact h), markCs_get l k i h] at this
  have := Option.some.inj this
  rcases h2 with h2 | h2 | h2
  · exact h2 (congrArg CommitD.parents this)
  · exact h2 (congrArg CommitD.who this)
  · exact h2 (congrArg CommitD.tree this)
theorem heldC_step {l : List CommitD} {k : Int} {i : Nat} (h : i < l.length) (h1 : l.take i = (markCs l k).take i) (h2 : l[i].parents = markI l[i].parents.length (kCs (l.take i) k)) (h3 : l[i].who = markS (kCs (l.take i) k + l[i].parents.length)) (h4 : l[i].tree = markFs l[i].tree (kCs (l.take i) k + l[i].parents.length + 1)) : l.take (i + 1) = (markCs l k).take (i + 1) := by
  have e : mkC l[i] (kCs (l.take i) k) = l[i] := by
    unfold mkC
    rw [← h2, ← h3, ← h4]
  rw [take_succ' h, take_succ' (by rw [markCs_len]; exact h), markCs_get l k i h, ← h1, e]
theorem heldC_end {l : List CommitD} {k : Int} {i : Nat} (h : l.length ≤ i) (h1 : l.take i = (markCs l k).take i) : heldCs l k = kCs (l.take i) k := by
  rw [List.take_of_length_le h, List.take_of_length_le (by rw [markCs_len]; exact h)] at h1
  unfold heldCs
  rw [if_pos h1, List.take_of_length_le h]
def heldR (r : RepoD) (k : Int) : Int := if heldCs r.commits k < 0 then -1 else if heldHs r.heads (heldCs r.commits k) < 0 then -1 else heldHs r.heads (heldCs r.commits k)
theorem heldCs_lt (l : List CommitD) (k : Int) : heldCs l k ≤ kCs l k ∨ heldCs l k = -1 := by unfold heldCs; split <;> omega
def mkR (r : RepoD) (k : Int) : RepoD := ⟨markCs r.commits k, markHs r.heads.length (kCs r.commits k)⟩
theorem heldR_mark (r : RepoD) (k : Int) (hk : 0 ≤ k) : heldR (mkR r k) k = kCs r.commits k + 2 * r.heads.length := by
  have h1 : heldCs (mkR r k).commits k = kCs r.commits k := heldCs_mark _ _
  have h2 : heldHs (mkR r k).heads (kCs r.commits k) = kCs r.commits k + 2 * r.heads.length := heldHs_mark _ _
  have h3 := kCs_ge r.commits k
  unfold heldR
  rw [h1, if_neg (by omega), h2, if_neg (by omega)]
theorem kCs_marks (r : RepoD) (k : Int) : kCs (mkR r k).commits k + 2 * (mkR r k).heads.length = kCs r.commits k + 2 * r.heads.length := by
  have h1 : kCs (mkR r k).commits k = kCs r.commits k := (markCs_same r.commits k).2
  have h2 : (mkR r k).heads.length = r.heads.length := markHs_len _ _
  rw [h1, h2]

end Vx
end Go.Proofs.YtnmmlcjnjnooaaaGreatDoor
/-
  Contracts: the law FnExactRepoRead.
-/
namespace Go.Proofs.YtnmmlcjnjnooaaaGreatDoor
namespace Vx
open Go.RowKit
set_option maxRecDepth 8000

theorem repoRead_is (s : Str) : repoReadI numS repoI s = repoReadS repoI s := repoRead_eq numS_dec (fun _ h => plainR_of h) s
theorem kCs_bd : ∀ {l : List CommitD}, (∀ c ∈ l, c.parents.length ≤ 2 ∧ c.tree.length ≤ 8 ∧ ∀ f ∈ c.tree, f.text.length ≤ 10) → ∀ k : Int, kCs l k ≤ k + 91 * l.length := by
  intro l
  induction l with
  | nil => intro _ k; simp -implicitDefEqProofs [kCs]
  | cons c l ih =>
    intro h k
    obtain ⟨h1, h2, h3⟩ := h c (by simp)
    have h4 := (kE_bd h2 h3 (k + c.parents.length + 1)).2
    have h5 := ih (fun x hx => h x (by simp -implicitDefEqProofs [hx])) (kC c k)
    have h6 : kC c k = kE c.tree (k + c.parents.length + 1) := rfl
    simp only [kCs, List.length_cons]
    omega
theorem repoReadS_bd (s : Str) : 1 ≤ kCs (repoReadS repoI s).1.commits 1 ∧ kCs (repoReadS repoI s).1.commits 1 + 2 * (repoReadS repoI s).1.heads.length ≤ 2000 := by
  obtain ⟨h1, h2⟩ := repoReadS_ok (ok := repoI) (s := s)
  refine ⟨kCs_ge _ _, ?_⟩
  cases hb : (repoReadS repoI s).2 with
  | true =>
    obtain ⟨q1, _⟩ := h1 hb
    have P := plainR_of q1
    have := kCs_bd (fun c hc => ⟨(P.com c hc).2.1, (P.com c hc).2.2.2.2.1, (P.com c hc).2.2.2.2.2⟩) 1
    have h3 := P.nc
    have h4 := P.nh
    omega
  | false => rw [h2 hb]; simp -implicitDefEqProofs [kCs]
theorem exRp {x : List CommitD} {y : List HeadD} {P : RepoD → Prop} : (∃ a : RepoD, a.commits = x ∧ a.heads = y ∧ P a) = P ⟨x, y⟩ := by
  refine propext ⟨?_, fun h => ⟨⟨x, y⟩, rfl, rfl, h⟩⟩
  rintro ⟨⟨c, h⟩, rfl, rfl, h3⟩
  exact h3

end Vx
end Go.Proofs.YtnmmlcjnjnooaaaGreatDoor
/-
  Contracts: numbers, heads, commits, repositories compared (smIn, smInts, smHeads, smCommit).
-/
namespace Go.Proofs.YtnmmlcjnjnooaaaGreatDoor
namespace Vx
open Go.RowKit
set_option maxRecDepth 8000

def cSmInts : Con := .fn 26 (List Int × List Int) (fun a => [.sl true 1 (eInts a.1), .sl true 1 (eInts a.2)]) (fun _ => True) (fun a => .bool (decide (a.1 = a.2))) (fun _ => [])
set_option maxHeartbeats 4000000 in
theorem smInts_has : Has Tryz.prog 17 cSmInts := by
  refine has_walk mixed tTab_ok (l := []) HasL.nil [0, 1, 4, 5] ((fun a n (_ : Nat) => (fun a _ => ⟨Nat, fun i => ⟨[(0, true, .sl true 1 (eInts a.1)), (1, true, .sl true 1 (eInts a.2)), (4, true, .bool false), (5, true, .int .i64 i)], []⟩, fun i => i ≤ a.1.length ∧ a.1.length = a.2.length ∧ a.1.take i = a.2.take i, fun i => a.1.length - i⟩) a n)) [] Tryz.func17 (by kernel_rfl) (code := _) (by unfold Tryz.f17; rfl) (by kernel_rfl) (by decide) (fun _ => ⟨(), trivial⟩) (by intro h; first | exact fun _ => rfl | cases h) (by kernel_rfl) ?_
  intro a _
  obtain ⟨l, r⟩ := a
  simp -implicitDefEqProofs [cSmInts, Con.fn, tTab]
  try dsimp only
  try simp +contextual -implicitDefEqProofs [eStr, eFile, cast_succ, cast_eq, cast_zero, List.getElem?_eq_getElem, eStrs_set, eFiles_set, eStrs_rep, eFiles_rep, ← eStrs_append, ← eFiles_append, eStrs_take, eStrs_drop, eFiles_take, eFiles_drop, eStrs_snoc, eFiles_snoc, and_assoc, eInt]
  repeat' (first | intro _ | apply And.intro)
  all_goals first | omega | grind [all_take, eq_take, eq_end, eInt, D.asInt]
def cSmCommit : Con := .fn 24 (CommitD × CommitD) (fun a => [.agg [.sl true 1 (eInts a.1.parents), .str a.1.who, .sl true 2 (eFiles a.1.tree)], .agg [.sl true 1 (eInts a.2.parents), .str a.2.who, .sl true 2 (eFiles a.2.tree)]]) (fun _ => True) (fun a => .bool (decide (a.1 = a.2))) (fun _ => [])
set_option maxHeartbeats 4000000 in
theorem smCommit_has : Has Tryz.prog 121 cSmCommit := by
  refine has_walk mixed tTab_ok (l := [(17, cSmInts), (189, cSmTree)]) (HasL.cons smInts_has (HasL.cons smTree_has HasL.nil)) [0, 1, 2, 3, 4] ((fun a n (_ : Nat) => (fun _ => noInv) a n)) [] Tryz.func121 (by kernel_rfl) (code := _) (by unfold Tryz.f121; rfl) (by kernel_rfl) (by decide) (fun _ => ⟨(), trivial⟩) (by intro h; first | exact fun _ => rfl | cases h) (by kernel_rfl) ?_
  intro a _
  obtain ⟨c, d⟩ := a
  simp -implicitDefEqProofs [cSmCommit, cSmInts, cSmTree, Con.fn, tTab, CommitD.eq_iff]
  try dsimp only
  refine ⟨fun h => ⟨_, _, ⟨rfl, rfl⟩, fun e => ⟨_, _, ⟨rfl, rfl⟩, by simp -implicitDefEqProofs [e, h]⟩, fun e h' => absurd h' e⟩, fun h _ h' => absurd h' h⟩

def smRA (r q : RepoD) : Inv := ⟨Nat, fun i => ⟨[(2, true, .ptr 10 0), (3, true, .ptr 11 0), (4, true, .bool false), (5, true, .int .i64 i)], [(10, bRepo r), (11, bRepo q)]⟩, fun i => i ≤ r.commits.length ∧ (r.commits.length = q.commits.length ∧ r.heads.length = q.heads.length) ∧ r.commits.take i = q.commits.take i, fun i => r.commits.length - i⟩
def smRB (r q : RepoD) : Inv := ⟨Nat, fun i => ⟨[(2, true, .ptr 10 0), (3, true, .ptr 11 0), (4, true, .bool false), (6, true, .int .i64 i)], [(10, bRepo r), (11, bRepo q)]⟩, fun i => i ≤ r.heads.length ∧ (r.commits = q.commits ∧ r.heads.length = q.heads.length) ∧ r.heads.take i = q.heads.take i, fun i => r.heads.length - i⟩
def smRInv (r q : RepoD) (n g : Nat) : Inv := if n = 4 then smRA r q else smRB r q
theorem smRInv_4 (r q g) : smRInv r q 4 g = smRA r q := rfl
theorem smRInv_9 (r q g) : smRInv r q 9 g = smRB r q := rfl
theorem RepoD.eqs (a b : RepoD) : (a = b) = (a.commits = b.commits ∧ a.heads = b.heads) := by cases a; cases b; simp
def cSmRepo : Con := .fn 60 (RepoD × RepoD) (fun a => [vRepo a.1, vRepo a.2]) (fun _ => True) (fun a => .bool (decide (a.1 = a.2))) (fun _ => [])
set_option maxHeartbeats 4000000 in
theorem smRepo_has : Has Tryz.prog 51 cSmRepo := by
  refine has_walk mixed tTab_ok (l := [(121, cSmCommit)]) (HasL.cons smCommit_has HasL.nil) [0, 1, 2, 3, 4, 5, 6] (fun a => smRInv a.1 a.2) [] Tryz.func51 (by kernel_rfl) (code := _) (by unfold Tryz.f51; rfl) (by kernel_rfl) (by decide) (fun _ => ⟨(), trivial⟩) (by intro h; first | exact fun _ => rfl | cases h) (by kernel_rfl) ?_
  intro a _
  obtain ⟨r, q⟩ := a
  simp (maxSteps := 8000000) -implicitDefEqProofs [-kStep_move, -kStepC_move, -Bool.exists_bool, cSmRepo, cSmCommit, Con.fn, tTab, smRInv_4, smRInv_9, smRA, smRB, bRepo_def]
  try dsimp only
  refine fun _ _ _ _ => ⟨fun h e => by subst e; simp at h, fun e1 e2 => ⟨⟨by omega, by omega⟩, fun t ht g1 g2 g3 _ => ⟨fun hlt => ⟨hlt, fun _ => ?_⟩, fun hge => ?_⟩⟩⟩
  · have hq : t < q.commits.length := by omega
    have qq1 : Option.map eCommit r.commits[t]? = some (eCommit r.commits[t]) := by simp -implicitDefEqProofs [hlt]
    have qq2 : Option.map eCommit q.commits[t]? = some (eCommit q.commits[t]) := by simp -implicitDefEqProofs [hq]
    have hst := eq_take hlt hq g3
    rw [qq1, qq2]
    have hne : r.commits[t] ≠ q.commits[t] → r ≠ q := fun h e => by subst e; exact h rfl
    generalize r.commits[t] = x at *
    generalize q.commits[t] = y at *
    simp -implicitDefEqProofs [eCommit, D.asStr, D.asRows, hq]
    refine ⟨x, y, ⟨⟨rfl, rfl, rfl⟩, rfl, rfl, rfl⟩, hne, fun e => ⟨⟨by omega, by omega⟩, fun _ _ => ⟨t + 1, by omega, ⟨by omega, ⟨g1, g2⟩, hst e⟩, by omega⟩⟩⟩
  · have ec : r.commits = q.commits := eq_end g1 hge g3
    refine ⟨⟨ec, g2⟩, fun t ht _ _ g5 _ => ⟨fun hlt => ⟨hlt, fun _ => ?_⟩, fun hge => ?_⟩⟩
    · have hq : t < q.heads.length := by omega
      have qq1 : Option.map eHead r.heads[t]? = some (eHead r.heads[t]) := by simp -implicitDefEqProofs [hlt]
      have qq2 : Option.map eHead q.heads[t]? = some (eHead q.heads[t]) := by simp -implicitDefEqProofs [hq]
      have hst := eq_take hlt hq g5
      rw [qq1, qq2]
      have hne : r.heads[t] ≠ q.heads[t] → r ≠ q := fun h e => by subst e; exact h rfl
      generalize r.heads[t] = x at *
      generalize q.heads[t] = y at *
      simp -implicitDefEqProofs [eHead, D.asStr, D.asInt, hq]
      refine ⟨fun h => hne (fun e => by subst e; simp at h), fun e1 e2 => ⟨⟨by omega, by omega⟩, fun _ _ => ⟨t + 1, by omega, ⟨by omega, ⟨ec, g2⟩, hst (by rw [HeadD.eq_iff]; exact ⟨e1, e2⟩)⟩, by omega⟩⟩⟩
    · rw [RepoD.eqs]; exact ⟨ec, eq_end g2 hge g5⟩

end Vx
end Go.Proofs.YtnmmlcjnjnooaaaGreatDoor
/-
  The laws FnRepoPut, FnRepoRead.
-/
namespace Go.Proofs.YtnmmlcjnjnooaaaGreatDoor
namespace Vx
open Go.RowKit
set_option maxRecDepth 8000

theorem treeT_le2 {t : List FileD} (h : treeI t = true) (hk : okT t) : (treeT t).length ≤ 4000 := by
  have h1 := treeT_le (t := t) fun f hf => ⟨(treeI_plain h f hf).1.2, by have := (treeI_plain h f hf).2.1; omega, fun l hl => by have := (hk.2 f hf).2.2 l hl; omega⟩
  have := hk.1
  omega
theorem comsT_le : ∀ {l : List CommitD}, (∀ c ∈ l, okC c ∧ treeI c.tree = true) → (comsT l).length ≤ 4100 * l.length
  | [], _ => by simp -implicitDefEqProofs [comsT]
  | c :: l, h => by
    have ih := comsT_le (l := l) fun x hx => h x (by simp -implicitDefEqProofs [hx])
    obtain ⟨⟨h1, h2, h3, h4⟩, h5⟩ := h c (by simp)
    have h6 := treeT_le2 h5 h4
    have h7 := parT_len c.parents
    have e : comsT (c :: l) = comT c ++ comsT l := by simp -implicitDefEqProofs [comsT]
    rw [e]
    simp only [comT, comW, List.length_append, List.length_cons, List.length_nil] at *
    omega
theorem headsT_le : ∀ {l : List HeadD}, (∀ h ∈ l, okH h) → (headsT l).length ≤ 100 * l.length
  | [], _ => by simp -implicitDefEqProofs [headsT]
  | c :: l, h => by
    have ih := headsT_le (l := l) fun x hx => h x (by simp -implicitDefEqProofs [hx])
    obtain ⟨h1, h2, h3⟩ := h c (by simp)
    have h7 := decS_len c.at_.toNat
    have e : headsT (c :: l) = headT c ++ headsT l := by simp -implicitDefEqProofs [headsT]
    rw [e]
    simp only [headT, List.length_append, List.length_cons, List.length_nil] at *
    omega
theorem repoT_le {r : RepoD} (h : repoI r = true) : (repoT r).length ≤ 70000 := by
  have P := plainR_of h
  have K := okR_of h fun c hc f hf => by
    obtain ⟨i, hi, rfl⟩ := List.getElem_of_mem hc
    have := (treeI_plain (repo_use h hi).2.2 f hf).1.2
    omega
  have h1 := comsT_le (l := r.commits) fun c hc => ⟨K.2.1 c hc, by obtain ⟨i, hi, rfl⟩ := List.getElem_of_mem hc; exact (repo_use h hi).2.2⟩
  have h2 := headsT_le K.2.2.2
  have := K.1
  have := K.2.2.1
  unfold repoT
  rw [List.length_append]
  omega
theorem repoPutD_le (r : RepoD) : (repoPutD r).length ≤ 70000 := by
  unfold repoPutD
  split
  · rename_i h; exact repoT_le h
  · simp
theorem drawn_rq {r : RepoD} (h : drawnR r) : rqPre r := ⟨by have := h.1; omega, fun c hc f hf => by have := treeS_path (h.2.2 c hc).2.1 f hf; omega⟩

def cDrawRepoRead : Con := { A := Str, X := Str, n := 17, args := fun s => [.sl true 1 (eBytes s)], boxes := fun _ => [], pre := fun _ => True, post := fun _ x => x.length ≤ 80000, res := fun _ x => .str x, fin := fun _ _ => [] }
set_option maxHeartbeats 4000000 in
theorem drawRepoRead_has : Has Tryz.prog 52 cDrawRepoRead := by
  refine has_walk mixed tTab_ok (l := [(73, cL30Open), (122, cRepoD), (49, cRepoPutS), (123, cPick), (124, cBent)]) (HasL.cons l30Open_has (HasL.cons repoD_has (HasL.cons repoPutS_has (HasL.cons pick_has (HasL.cons bent_has HasL.nil))))) [0, 2, 3, 4] ((fun a n (_ : Nat) => (fun _ => noInv) a n)) [] Tryz.func52 (by kernel_rfl) (code := _) (by unfold Tryz.f52; rfl) (by kernel_rfl) (by decide) (fun _ => ⟨([] : Str), Nat.zero_le _⟩) (by intro h; first | exact fun _ => rfl | cases h) (by kernel_rfl) ?_
  intro (s : Str) _
  simp (maxSteps := 8000000) -implicitDefEqProofs [-kStep_move, -Bool.exists_bool, cDrawRepoRead, cL30Open, cRepoD, cRepoPutS, cPick, cBent, tTab, Con.fn, eStrs_isCons, clash, kd, eByte, all_true]
  have hl : (s.take 2000).length ≤ 2000 := by simp; omega
  refine ⟨_, _, ⟨rfl, rfl⟩, ⟨hl, by omega, by omega⟩, fun r q g1 g2 g3 => ⟨drawn_rq (plR_drawn g1), _, _, ⟨rfl, rfl⟩, ⟨hl, by omega, by omega⟩, fun y _ _ => ?_⟩⟩
  have hp := repoPutD_le r
  exact ⟨fun _ => by omega, fun _ => ⟨_, _, ⟨rfl, rfl⟩, ⟨hl, by omega, by omega, by omega⟩, fun a b k1 _ _ => by omega⟩⟩

def cFnRepoRead : Con := { (Con.fn 52 Str (fun s => [.sl true 1 (eBytes s)]) (fun _ => True) (fun _ => .bool true) (fun _ => [])) with need := numNeed }
set_option maxHeartbeats 4000000 in
theorem fnRepoRead_has : Has Tryz.prog 10 cFnRepoRead := by
  refine has_walk mixed tTab_ok (l := [(52, cDrawRepoRead), (50, cRepoReadI), (53, cRepoReadS), (51, cSmRepo), (48, cRepoPutI), (19, cRepoOk)]) (HasL.cons drawRepoRead_has (HasL.cons repoReadI_has (HasL.cons repoReadS_has (HasL.cons smRepo_has (HasL.cons repoPutI_has (HasL.cons repoOk_has HasL.nil)))))) [0, 2, 3, 4, 5, 6, 7] ((fun a n (_ : Nat) => (fun _ => noInv) a n)) [] Tryz.func10 (by kernel_rfl) (code := _) (by unfold Tryz.f10; rfl) (by kernel_rfl) (by decide) (fun _ => ⟨(), trivial⟩) (by intro h; first | exact fun _ => rfl | cases h) (by kernel_rfl) ?_
  intro (s : Str) _
  simp (maxSteps := 8000000) -implicitDefEqProofs [-kStep_move, -kStepC_move, -Bool.exists_bool, cFnRepoRead, cDrawRepoRead, cRepoReadI, cRepoReadS, cSmRepo, cRepoPutI, cRepoOk, Con.fn, tTab]
  refine fun _ _ y hy => ⟨by omega, (repoReadI numS repoI y).1, (repoReadS repoI y).1, ⟨⟨rfl, rfl⟩, rfl, rfl⟩, ?_⟩
  obtain ⟨k1, k2⟩ := repoReadS_ok (ok := repoI) (s := y)
  rw [repoRead_is]
  generalize repoReadS repoI y = R at k1 k2 ⊢
  obtain ⟨t, b⟩ := R
  refine ⟨.inr ⟨rfl, rfl⟩, fun _ => ⟨fun _ => ⟨⟨rfl, rfl⟩, rfl⟩, fun _ _ hb => ?_⟩⟩
  obtain ⟨q1, q2⟩ := k1 hb
  have q1 : repoI t = true := q1
  have q2 : repoT t = y := q2
  have e : repoPutD t = y := by unfold repoPutD; rw [if_pos q1]; exact q2
  have hr : rqPre t := ⟨by have := repo_n q1; omega, fun c hc f hf => by
    obtain ⟨i, hi, rfl⟩ := List.getElem_of_mem hc
    have := (treeI_plain (repo_use q1 hi).2.2 f hf).1.2
    omega⟩
  exact ⟨hr, fun _ => ⟨e, rqPre_rp hr⟩, e, q1⟩

end Vx
end Go.Proofs.YtnmmlcjnjnooaaaGreatDoor
