/-
  Joined by program (merge.py): Ic, Db, Lb, Lc, Ld, Ed, Mb, Mf, Mg, Mc, Me, Ml, Mh, Dh, Di, Kc, Mi, Mj, Mm, Mn, He, Eg, Sm, Sn, Mo, Da, Dc, Dg, Id, Vw, Oa, Od. It shows what the single texts show; conditions: none but those of each lemma.
-/
import Derived.Test.YtnanellmaelipaaGreatDoorWa
set_option linter.unusedVariables false
set_option linter.unusedSimpArgs false
set_option linter.unusedSectionVars false
/-
  Contracts: the reference's lists of ancestors; its MarkNear.
-/
namespace Go.Proofs.YtnanellmaelipaaGreatDoor
namespace Vx
open Go.RowKit
set_option maxRecDepth 8000
--TAB tTabB

theorem isT_set_ne {l : List Bool} {p g : Nat} (b : Bool) (h : p ≠ g) : isT (l.set p b) g = isT l g := by
  unfold isT
  rw [List.getD_eq_getElem?_getD, List.getD_eq_getElem?_getD, List.getElem?_set_ne h]
def alO (r : RepoD) (a : Int) : Inv := ⟨List Bool × Int, fun t => ⟨[(2, true, .ptr 10 0), (4, true, .nil), (5, true, .own 9 1 (eBools t.1)), (6, true, .int .i64 t.2)], [(10, bRepo r), (9, .own 4 1 true (eBools t.1))]⟩, fun t => t.1.length = r.commits.length ∧ -1 ≤ t.2 ∧ t.2 < r.commits.length ∧ ancF r (t.2 + 1).toNat t.1 = anc r a, fun t => (t.2 + 1).toNat⟩
def alI (r : RepoD) (a : Int) (g : Nat) : Inv := ⟨List Bool × Nat, fun t => ⟨[(2, true, .ptr 10 0), (4, true, .nil), (5, true, .own 9 1 (eBools t.1)), (6, true, .int .i64 g), (7, true, .int .i64 t.2)], [(10, bRepo r), (9, .own 4 1 true (eBools t.1))]⟩, fun t => t.1.length = r.commits.length ∧ g < r.commits.length ∧ t.2 ≤ (r.commits.getD g default).parents.length ∧ (isT t.1 g = true → ancF r g (putT t.1 ((r.commits.getD g default).parents.drop t.2)) = anc r a) ∧ (isT t.1 g = false → ancF r g t.1 = anc r a), fun t => (r.commits.getD g default).parents.length - t.2⟩
def alT (r : RepoD) (a : Int) : Inv := ⟨Nat, fun i => ⟨[(2, true, .ptr 10 0), (4, true, .nil), (5, true, .own 9 1 (eBools (anc r a))), (8, true, .own 11 1 (eInts (listF (anc r a) i))), (9, true, .int .i64 i)], [(10, bRepo r), (9, .own 4 1 true (eBools (anc r a))), (11, .own 3 1 true (eInts (listF (anc r a) i)))]⟩, fun i => i ≤ r.commits.length, fun i => r.commits.length - i⟩
def alInv (r : RepoD) (a : Int) (n g : Nat) : Inv := if n = 4 then alO r a else if n = 7 then alI r a g else alT r a
theorem alInv_4 (r : RepoD) (a : Int) (g : Nat) : alInv r a 4 g = alO r a := rfl
theorem alInv_7 (r : RepoD) (a : Int) (g : Nat) : alInv r a 7 g = alI r a g := rfl
theorem alInv_12 (r : RepoD) (a : Int) (g : Nat) : alInv r a 12 g = alT r a := rfl
def cL8All : Con := .fn 66 (RepoD × Int) (fun a => [vRepo a.1, .int .i64 a.2]) (fun a => repoI a.1 = true ∧ 0 ≤ a.2 ∧ a.2 < a.1.commits.length) (fun a => .own 8 1 (eInts (listT (anc a.1 a.2)))) (fun a => ownInts 8 (listT (anc a.1 a.2)))
set_option maxHeartbeats 4000000 in
theorem l8All_has : Has Tryz.prog 87 cL8All := by
  refine has_walk mixed tTabB_ok (l := []) HasL.nil [0, 1, 2, 4, 5, 6, 7, 8, 9] (fun a => alInv a.1 a.2) [] Tryz.func87 (by kernel_rfl) (code := _) (by unfold Tryz.f87; rfl) (by kernel_rfl) (by decide) (fun _ => ⟨(), trivial⟩) (by intro h; first | exact fun _ => rfl | cases h) (by kernel_rfl) ?_
  intro a ha
  obtain ⟨r, n⟩ := a
  obtain ⟨h1, h2, h3⟩ : repoI r = true ∧ 0 ≤ n ∧ n < r.commits.length := ha
  have h4 := repo_n h1
  simp -implicitDefEqProofs [cL8All, Con.fn, tTabB, tTab, alInv_4, alInv_7, alInv_12, alO, alI, alT, bRepo_def]
  try dsimp only
  simp only [and_assoc, exists_eq_left, exists_and_left, RepoD.ex1, RepoD.eta]
  have hal := anc_len r n
  refine fun _ => ⟨by omega, fun _ => ⟨h2, h3, fun _ _ => ⟨by omega, ⟨(List.replicate r.commits.length false).set n.toNat true, by rw [eBools_rep]; exact (eBools_set _ _ _).symm, by rw [eBools_rep]; exact eBools_set _ _ _, by simp, by omega, h3, rfl⟩, fun l b g1 g2 g3 g4 => ⟨fun hb => ⟨b.toNat, ?_⟩, fun hb => ?_⟩⟩⟩⟩
  · have hb1 : b.toNat < l.length := by omega
    have hb2 : b.toNat < r.commits.length := by omega
    obtain ⟨p1, p2, _⟩ := repo_use h1 hb2
    have hgd : r.commits.getD b.toNat default = r.commits[b.toNat] := by simp -implicitDefEqProofs [List.getD_eq_getElem?_getD, hb2]
    have hgo : r.commits[b.toNat]?.getD default = r.commits[b.toNat] := by simp -implicitDefEqProofs [hb2]
    rw [show (b + 1).toNat = b.toNat + 1 by omega] at g4
    have g5 : ancF r b.toNat (stepA r l b.toNat) = anc r n := g4
    unfold stepA at g5
    rw [hgd] at g5
    have e3 : Option.map eCommit r.commits[b.toNat]? = some (eCommit r.commits[b.toNat]) := by simp -implicitDefEqProofs [hb2]
    rw [hgo, e3]
    generalize r.commits[b.toNat] = c at *
    refine ⟨by omega, trivial, g1, hb2, Nat.zero_le _, fun h => ?_, fun h => ?_, fun m k m1 m2 m3 m4 m5 => ⟨hb2, fun _ => ?_⟩⟩
    · rw [if_pos h] at g5; exact g5
    · rw [if_neg (by rw [h]; simp)] at g5; exact g5
    · have hbm : b.toNat < m.length := by omega
      have hT : isT m b.toNat = m[b.toNat] := by simp -implicitDefEqProofs [isT, List.getD_eq_getElem?_getD, hbm]
      have e4 : Option.map eBool m[b.toNat]? = some (eBool m[b.toNat]) := by simp -implicitDefEqProofs [hbm]
      have hmx : max b 0 = b := Int.max_eq_left hb
      simp -implicitDefEqProofs [eCommit, D.asRows, e4, eBool, hbm, hb2, hmx]
      refine fun _ => ⟨fun hl2 => ⟨fun hm => ⟨hl2, fun _ => ?_⟩, fun hm => ⟨by omega, by omega, fun _ _ => ⟨m1, by omega, by omega, m5 (hT.trans hm), by omega⟩⟩⟩, fun hge => ⟨by omega, by omega, fun _ _ => ⟨m1, by omega, by omega, ?_, by omega⟩⟩⟩
      · have hp := p2 c.parents[k] (List.getElem_mem hl2)
        have qt : Option.map eInt c.parents[k]? = some (eInt c.parents[k]) := by simp -implicitDefEqProofs [List.getElem?_eq_getElem hl2]
        simp -implicitDefEqProofs [qt, eInt, D.asInt]
        have hst : isT (m.set c.parents[k].toNat true) b.toNat = true := by rw [isT_set_ne _ (by omega)]; exact hT.trans hm
        refine ⟨hp.1, by omega, fun _ _ => ⟨by omega, by omega, by omega, fun _ _ => ⟨m.set c.parents[k].toNat true, (eBools_set _ _ _).symm, k + 1, by omega, eBools_set _ _ _, by simp -implicitDefEqProofs [m1], by omega, fun _ => ?_, fun h => ?_, by omega⟩⟩⟩
        · have := m4 (hT.trans hm)
          rw [List.drop_eq_getElem_cons hl2] at this
          exact this
        · rw [hst] at h; cases h
      · cases hm : m[b.toNat] with
        | true =>
          have := m4 (hT.trans hm)
          rw [List.drop_eq_nil_of_le hge] at this
          exact this
        | false => exact m5 (hT.trans hm)
  · rw [show (b + 1).toNat = 0 by omega] at g4
    have g5 : l = anc r n := g4
    refine ⟨g5.symm, ⟨0, rfl, rfl, g5, rfl, Nat.zero_le _⟩, fun i hi _ => ⟨fun hlt => ?_, fun hge => ?_⟩⟩
    · have hl := listF_len (anc r n) i
      have hi : isT (anc r n) i = (anc r n)[i] := by simp -implicitDefEqProofs [isT, List.getD_eq_getElem?_getD, hlt]
      rw [hal] at hlt
      simp -implicitDefEqProofs [hal, hlt, eBool, D.asBool, and_assoc]
      refine ⟨fun h => ?_, fun h => ?_⟩
      · have e := listF_hit (hi.trans h)
        exact ⟨by omega, by omega, by omega, by omega, fun _ _ => ⟨i + 1, by rw [e]; simp -implicitDefEqProofs [eInts, eInt], by omega, by rw [e]; simp -implicitDefEqProofs [eInts, eInt], by omega, by omega⟩⟩
      · have e := listF_miss (hi.trans h)
        exact ⟨by omega, by omega, fun _ _ => ⟨i + 1, e, by omega, e.symm, by omega, by omega⟩⟩
    · rw [hal] at hge
      have : i = r.commits.length := by omega
      subst this
      unfold listT
      rw [hal]
      exact ⟨rfl, rfl⟩

def newF (X Y : List Int) (i : Nat) : List Int := (Y.take i).filter fun x => !decide (x ∈ X)
theorem newF_len (X Y : List Int) (i : Nat) : (newF X Y i).length ≤ Y.length := by
  unfold newF
  exact Nat.le_trans (List.length_filter_le _ _) (by simp; omega)
def newL (r : RepoD) (a b : Int) : List Int := if repoI r && inN r.commits.length a && inN r.commits.length b then newF (listT (anc r a)) (listT (anc r b)) (listT (anc r b)).length else []
def cAncNew : Con := .fn 60 (RepoD × Int × Int) (fun a => [vRepo a.1, .int .i64 a.2.1, .int .i64 a.2.2]) (fun a => a.1.commits.length ≤ 1073741824) (fun a => .own 8 1 (eInts (newL a.1 a.2.1 a.2.2))) (fun a => ownInts 8 (newL a.1 a.2.1 a.2.2))
set_option maxHeartbeats 4000000 in
theorem ancNew_has : Has Tryz.prog 85 cAncNew := by
  refine has_walk mixed tTabB_ok (l := [(82, cL7Ok), (84, cL1In), (87, cL8All), (86, cL8Has)]) (HasL.cons l7Ok_has (HasL.cons l1In_has (HasL.cons l8All_has (HasL.cons l8Has_has HasL.nil)))) [0, 1, 2, 3, 6, 7, 8, 9, 10] ((fun a n (_ : Nat) => (fun a _ => ⟨Nat, fun i => ⟨[(3, true, .ptr 10 0), (6, true, .nil), (7, true, .own 9 1 (eInts (newF (listT (anc a.1 a.2.1)) (listT (anc a.1 a.2.2)) i))), (8, true, .own 11 1 (eInts (listT (anc a.1 a.2.1)))), (9, true, .own 12 1 (eInts (listT (anc a.1 a.2.2)))), (10, true, .int .i64 i)], [(10, bRepo a.1), (9, .own 3 1 true (eInts (newF (listT (anc a.1 a.2.1)) (listT (anc a.1 a.2.2)) i))), (11, .own 3 1 true (eInts (listT (anc a.1 a.2.1)))), (12, .own 3 1 true (eInts (listT (anc a.1 a.2.2))))]⟩, fun i => i ≤ (listT (anc a.1 a.2.2)).length, fun i => (listT (anc a.1 a.2.2)).length - i⟩) a n)) [] Tryz.func85 (by kernel_rfl) (code := _) (by unfold Tryz.f85; rfl) (by kernel_rfl) (by decide) (fun _ => ⟨(), trivial⟩) (by intro h; first | exact fun _ => rfl | cases h) (by kernel_rfl) ?_
  intro a ha
  obtain ⟨r, n, k⟩ := a
  replace ha : r.commits.length ≤ 1073741824 := ha
  simp -implicitDefEqProofs [cAncNew, cL7Ok, cL1In, cL8All, cL8Has, Con.fn, tTabB, tTab, bRepo_def]
  try dsimp only
  simp only [and_assoc, exists_eq_left, exists_and_left, RepoD.ex1, RepoD.eta]
  have e0 : repoS r = false → newL r n k = [] := fun h => by unfold newL; rw [repo_eq, h]; rfl
  have e1 : n < 0 ∨ (r.commits.length : Int) - 1 < n → newL r n k = [] := fun h => by
    unfold newL inN
    rw [if_neg]; simp; omega
  have e2 : k < 0 ∨ (r.commits.length : Int) - 1 < k → newL r n k = [] := fun h => by
    unfold newL inN
    rw [if_neg]; simp; omega
  refine ⟨ha, e0, fun hs _ => ⟨by omega, by omega, fun _ _ => ⟨e1, fun n0 n1 _ => ⟨by omega, by omega, fun _ _ => ⟨e2, fun k0 k1 => ?_⟩⟩⟩⟩⟩
  have hr : repoI r = true := by rw [repo_eq]; exact hs
  have h16 := repo_n hr
  have hLl := listF_len (anc r k) (anc r k).length
  change (listT (anc r k)).length ≤ _ at hLl
  rw [anc_len] at hLl
  have e3 : newL r n k = newF (listT (anc r n)) (listT (anc r k)) (listT (anc r k)).length := by
    unfold newL inN
    rw [if_pos]; simp -implicitDefEqProofs [hr]; omega
  rw [e3]
  generalize listT (anc r k) = Y at *
  generalize listT (anc r n) = X at *
  refine ⟨hr, n0, by omega, hr, k0, by omega, ⟨0, rfl, trivial, trivial, rfl, rfl, trivial, trivial, Nat.zero_le _⟩, fun i hi _ => ⟨fun hlt => ⟨hlt, fun _ => ?_⟩, fun hge => ?_⟩⟩
  · have s1 : newF X Y (i + 1) = newF X Y i ++ if Y[i] ∈ X then [] else [Y[i]] := by
      unfold newF
      rw [take_succ' hlt, List.filter_append]
      congr 1
      by_cases h : Y[i] ∈ X <;> simp -implicitDefEqProofs [h]
    have hnl := newF_len X Y i
    simp -implicitDefEqProofs [hlt, eInt, D.asInt]
    refine ⟨fun h => ⟨by omega, by omega, by omega, by omega, fun _ _ => ⟨i + 1, ?_, by omega, ?_, by omega, by omega⟩⟩, fun h => ⟨by omega, by omega, fun _ _ => ⟨i + 1, ?_, by omega, ?_, by omega, by omega⟩⟩⟩
    · rw [s1, if_neg h]; simp -implicitDefEqProofs [eInts, eInt]
    · rw [s1, if_neg h]; simp -implicitDefEqProofs [eInts, eInt]
    · rw [s1, if_pos h, List.append_nil]
    · rw [s1, if_pos h, List.append_nil]
  · have : i = Y.length := by omega
    subst this
    exact ⟨rfl, rfl⟩

def nearStepS (r : RepoD) (a : Int) (s : Str × Int) (h : HeadD) : Str × Int := if decide (h.at_ ∈ listT (anc r a)) && (decide (s.2 < 0) || decide (((newL r h.at_ a).length : Int) < s.2)) then (h.name, (newL r h.at_ a).length) else s
def nearFS (r : RepoD) (m : List HeadD) (a : Int) (i : Nat) : Str × Int := (m.take i).foldl (nearStepS r a) ([], -1)
def nearS (r : RepoD) (m : List HeadD) (a : Int) : Str × Int := if marksI (r, m) && (decide (0 ≤ a) && decide (a ≤ (r.commits.length : Int) - 1)) then nearFS r m a m.length else ([], -1)
def cMarkNearS : Con := .fn 71 (RepoD × List HeadD × Int) (fun a => [vRepo a.1, .sl true 2 (eHeads a.2.1), .int .i64 a.2.2]) (fun a => rpPre a.1) (fun a => .tup [.str (nearS a.1 a.2.1 a.2.2).1, .int .i64 (nearS a.1 a.2.1 a.2.2).2]) (fun _ => [])
set_option maxHeartbeats 4000000 in
theorem markNearS_has : Has Tryz.prog 17 cMarkNearS := by
  refine has_walk mixed tTabB_ok (l := [(82, cL7Ok), (83, cL23Ok), (84, cL1In), (85, cAncNew), (87, cL8All), (86, cL8Has)]) (HasL.cons l7Ok_has (HasL.cons l23Ok_has (HasL.cons l1In_has (HasL.cons ancNew_has (HasL.cons l8All_has (HasL.cons l8Has_has HasL.nil)))))) [0, 1, 2, 3, 6, 7, 8, 9, 10, 11] ((fun a n (_ : Nat) => (fun a _ => ⟨Nat, fun i => ⟨[(1, true, .sl true 2 (eHeads a.2.1)), (2, true, .int .i64 a.2.2), (3, true, .ptr 10 0), (6, true, .str []), (7, true, .int .i64 0), (8, true, .str (nearFS a.1 a.2.1 a.2.2 i).1), (9, true, .int .i64 (nearFS a.1 a.2.1 a.2.2 i).2), (10, true, .int .i64 i)], [(10, bRepo a.1)]⟩, fun i => i ≤ a.2.1.length, fun i => a.2.1.length - i⟩) a n)) [] Tryz.func17 (by kernel_rfl) (code := _) (by unfold Tryz.f17; rfl) (by kernel_rfl) (by decide) (fun _ => ⟨(), trivial⟩) (by intro h; first | exact fun _ => rfl | cases h) (by kernel_rfl) ?_
  intro a ha
  obtain ⟨r, m, n⟩ := a
  replace ha : rpPre r := ha
  have ha1 := ha.1
  simp -implicitDefEqProofs [cMarkNearS, cL7Ok, cL23Ok, cL1In, cAncNew, cL8All, cL8Has, Con.fn, tTabB, tTab, bRepo_def]
  try dsimp only
  simp only [and_assoc, exists_eq_left, exists_and_left, RepoD.ex1, RepoD.eta]
  have hmI : repoS r = true → headsB r.commits.length m = true → marksI (r, m) = true := fun a b => by unfold marksI; rw [repo_eq, a, b]; rfl
  have e0 : repoS r = false → nearS r m n = ([], -1) := fun h => by unfold nearS marksI; rw [repo_eq, h]; rfl
  have e1 : headsB r.commits.length m = false → nearS r m n = ([], -1) := fun h => by unfold nearS marksI; rw [h]; simp
  have e2 : n < 0 ∨ (r.commits.length : Int) - 1 < n → nearS r m n = ([], -1) := fun h => by
    unfold nearS
    rw [if_neg]; simp; omega
  have e3 : marksI (r, m) = true → 0 ≤ n → n ≤ (r.commits.length : Int) - 1 → nearS r m n = nearFS r m n m.length := fun h h1 h2 => by unfold nearS; rw [h]; simp -implicitDefEqProofs [h1, h2]
  refine ⟨ha1, fun h => by rw [e0 h]; exact ⟨rfl, rfl⟩, fun hs => ⟨ha1, fun h => by rw [e1 h]; exact ⟨rfl, rfl⟩, fun hh _ => ⟨by omega, by omega, fun _ _ => ⟨fun h => by rw [e2 h]; exact ⟨rfl, rfl⟩, fun n0 n1 => ⟨⟨0, rfl, rfl, rfl, Nat.zero_le _⟩, fun i hi _ => ⟨fun hlt => ⟨hlt, fun _ => ?_⟩, fun hge => ?_⟩⟩⟩⟩⟩⟩
  · have hr : repoI r = true := by rw [repo_eq]; exact hs
    have s1 : nearFS r m n (i + 1) = nearStepS r n (nearFS r m n i) m[i] := by
      unfold nearFS; rw [List.take_succ_eq_append_getElem hlt, List.foldl_append]; rfl
    unfold nearStepS at s1
    have hNl : (newL r m[i].at_ n).length ≤ 1073741824 := by
      unfold newL
      split
      · have h1 := newF_len (listT (anc r m[i].at_)) (listT (anc r n)) (listT (anc r n)).length
        have h2 := listF_len (anc r n) (anc r n).length
        change (listT (anc r n)).length ≤ _ at h2
        rw [anc_len] at h2
        omega
      · simp
    simp -implicitDefEqProofs [hlt, eHead, D.asStr, D.asInt]
    have tail : ∀ x : Str × Int, nearFS r m n (i + 1) = x → ∃ t', (nearFS r m n t').fst = x.1 ∧ (nearFS r m n t').snd = x.2 ∧ (t' : Int) = (i : Int) + 1 ∧ t' ≤ m.length ∧ m.length - t' < m.length - i := fun x h => ⟨i + 1, by rw [h], by rw [h], by omega, hlt, by omega⟩
    refine ⟨ha1, hr, n0, by omega, fun hm => ⟨fun hn => ⟨by omega, by omega, fun _ _ => ?_⟩, fun hn => ⟨fun hl => ⟨by omega, by omega, fun _ _ => ?_⟩, fun hl => ⟨by omega, by omega, fun _ _ => ?_⟩⟩⟩, fun hm => ⟨fun hn => ⟨by omega, by omega, fun _ _ => ?_⟩, fun hn => ⟨by omega, by omega, fun _ _ => ?_⟩⟩⟩
    · exact tail (m[i].name, _) (by rw [s1, if_pos (by simp -implicitDefEqProofs [hm, hn])])
    · exact tail (m[i].name, _) (by rw [s1, if_pos (by simp -implicitDefEqProofs [hm, hl])])
    · exact tail _ (by rw [s1, if_neg (by simp -implicitDefEqProofs [hm]; omega)])
    · exact tail _ (by rw [s1, if_neg (by simp -implicitDefEqProofs [hm])])
    · exact tail _ (by rw [s1, if_neg (by simp -implicitDefEqProofs [hm])])
  · have : i = m.length := by omega
    subst this
    rw [e3 (hmI hs hh) n0 n1]
    exact ⟨rfl, rfl⟩

end Vx
end Go.Proofs.YtnanellmaelipaaGreatDoor
/-
  Contracts: copies of repositories.
-/
namespace Go.Proofs.YtnanellmaelipaaGreatDoor
namespace Vx
open Go.RowKit

def cmSz (c : CommitD) : Prop := c.parents.length ≤ 1048576 ∧ c.tree.length ≤ 1048576 ∧ ∀ g ∈ c.tree, g.text.length ≤ 1048576
def rpSz (r : RepoD) : Prop := r.commits.length ≤ 1048576 ∧ (∀ c ∈ r.commits, cmSz c) ∧ r.heads.length ≤ 1048576
end Vx
end Go.Proofs.YtnanellmaelipaaGreatDoor
/-
  Contracts: commits and repositories copied, heads set, a commit added (the reference's).
-/
namespace Go.Proofs.YtnanellmaelipaaGreatDoor
namespace Vx
open Go.RowKit
set_option maxRecDepth 8000

theorem flatI (p : List Int) : ∀ x ∈ eInts p, ∀ d ∈ x, match d with | .sl _ _ _ => False | _ => True := by
  intro x hx d hd
  simp only [eInts, List.mem_map] at hx
  obtain ⟨i, _, rfl⟩ := hx
  simp only [eInt, List.mem_singleton] at hd
  subst hd; trivial
theorem flatH (p : List HeadD) : ∀ x ∈ eHeads p, ∀ d ∈ x, match d with | .sl _ _ _ => False | _ => True := by
  intro x hx d hd
  simp only [eHeads, List.mem_map] at hx
  obtain ⟨i, _, rfl⟩ := hx
  simp only [eHead, List.mem_cons, List.not_mem_nil, or_false] at hd
  rcases hd with rfl | rfl <;> trivial

def cL7CopyCommit : Con := .fn 13 CommitD (fun f => [.agg [.sl true 1 (eInts f.parents), .str f.who, .sl true 2 (eFiles f.tree)]]) (fun f => cmSz f) (fun f => .agg [.own 8 1 (eInts f.parents), .str f.who, .own 9 2 (eFiles f.tree)]) (fun f => ownInts 8 f.parents ++ ownFiles 9 f.tree)
set_option maxHeartbeats 4000000 in
theorem l7CopyCommit_has : Has Tryz.prog 178 cL7CopyCommit := by
  refine has_walk mixed tTab_ok (l := [(209, cL4Copy)]) (HasL.cons l4Copy_has HasL.nil) [0, 1, 2] ((fun a n (_ : Nat) => (fun _ => noInv) a n)) [] Tryz.func178 (by kernel_rfl) (code := _) (by unfold Tryz.f178; rfl) (by kernel_rfl) (by decide) (fun _ => ⟨(), trivial⟩) (by intro h; first | exact fun _ => rfl | cases h) (by kernel_rfl) ?_
  intro f hf
  obtain ⟨p, x, t⟩ := f
  obtain ⟨h1, h2, h3⟩ : p.length ≤ 1048576 ∧ t.length ≤ 1048576 ∧ ∀ g ∈ t, g.text.length ≤ 1048576 := hf
  simp -implicitDefEqProofs [cL7CopyCommit, cL4Copy, Con.fn, tTab]
  try dsimp only
  exact ⟨flatI p, by omega, h2, h3⟩

abbrev bNilR : Blk := .box 26 [.nil, .nil]
def l7cO (r : RepoD) : Inv := ⟨Nat, fun i => ⟨[(1, true, .ptr 12 0), (2, true, .ptr 10 0), (3, true, .ptr 11 0), (4, true, .int .i64 i)], [(12, bRepo r), (10, bNilR), (11, .box 26 [.own 13 3 (eCommits (r.commits.take i)), .own 14 2 (eHeads r.heads)]), (13, .own 56 3 true (eCommits (r.commits.take i))), (14, .own 34 2 true (eHeads r.heads))]⟩, fun i => i ≤ r.commits.length, fun i => r.commits.length - i⟩
def cL7Copy : Con := .fn 29 RepoD (fun r => [vRepo r]) rpSz (fun r => .agg [.own 8 3 (eCommits r.commits), .own 9 2 (eHeads r.heads)]) (fun r => ownCommits 8 r.commits ++ ownHeads 9 r.heads)
set_option maxHeartbeats 4000000 in
theorem l7Copy_has : Has Tryz.prog 127 cL7Copy := by
  refine has_walk mixed tTab_ok (l := [(178, cL7CopyCommit)]) (HasL.cons l7CopyCommit_has HasL.nil) [0, 1, 2, 3, 4] ((fun a n (_ : Nat) => (fun r _ => l7cO r) a n)) [25, 26] Tryz.func127 (by kernel_rfl) (code := _) (by unfold Tryz.f127; rfl) (by kernel_rfl) (by decide) (fun _ => ⟨(), trivial⟩) (by intro h; first | exact fun _ => rfl | cases h) (by kernel_rfl) ?_
  intro (r : RepoD) hr
  obtain ⟨h1, h2, h3⟩ : r.commits.length ≤ 1048576 ∧ (∀ c ∈ r.commits, cmSz c) ∧ r.heads.length ≤ 1048576 := hr
  simp -implicitDefEqProofs [cL7Copy, cL7CopyCommit, Con.fn, tTab, l7cO, bRepo_def]
  try dsimp only
  refine ⟨flatH r.heads, by omega, ⟨0, ⟨rfl, .inl rfl⟩, Nat.zero_le _⟩, fun i hi _ => ⟨fun hlt => ?_, fun hge => ?_⟩⟩
  · have e : r.commits.take (i + 1) = r.commits.take i ++ [r.commits[i]] := take_succ' hlt
    have hc := h2 _ (List.getElem_mem hlt)
    simp -implicitDefEqProofs [hlt, eCommit, D.asStr, D.asRows, and_assoc]
    refine ⟨hc, by omega, by omega, by omega, by omega, fun _ _ => ⟨i + 1, by omega, ?_, ?_, by omega, by omega⟩⟩
    · rw [e, eCommits_snoc]
    · rw [e, eCommits_snoc]
  · rw [List.take_of_length_le hge]; exact ⟨rfl, rfl⟩

def hStep (n : Str) (a : Int) (acc : List HeadD × Bool) (g : HeadD) : List HeadD × Bool :=
  if acc.2 = false ∧ Go.Op.bytesLess g.name n = false then (if g.name = n then (acc.1 ++ [⟨n, a⟩], true) else (acc.1 ++ [⟨n, a⟩] ++ [g], true))
  else (if g.name = n then acc else (acc.1 ++ [g], acc.2))
def hL (n : Str) (a : Int) (l : List HeadD) : List HeadD × Bool := l.foldl (hStep n a) ([], false)
def hSet (l : List HeadD) (n : Str) (a : Int) : List HeadD := if (hL n a l).2 then (hL n a l).1 else (hL n a l).1 ++ [⟨n, a⟩]
theorem hL_succ {n : Str} {a : Int} {t : List HeadD} {i : Nat} (h : i < t.length) : hL n a (t.take (i + 1)) = hStep n a (hL n a (t.take i)) t[i] := by
  unfold hL
  rw [take_succ' h, List.foldl_append]; rfl
theorem hStep_len (n : Str) (a : Int) (acc : List HeadD × Bool) (g : HeadD) : (hStep n a acc g).1.length + acc.2.toNat ≤ acc.1.length + (hStep n a acc g).2.toNat + 1 := by
  unfold hStep
  split
  · rename_i h
    rw [h.1]
    split <;> simp <;> omega
  · split <;> simp <;> omega
theorem hL_len (n : Str) (a : Int) (t : List HeadD) : (hL n a t).1.length ≤ t.length + (hL n a t).2.toNat := by
  have : ∀ (t : List HeadD) (acc : List HeadD × Bool), (t.foldl (hStep n a) acc).1.length + acc.2.toNat ≤ acc.1.length + t.length + (t.foldl (hStep n a) acc).2.toNat := by
    intro t
    induction t with
    | nil => intro acc; simp
    | cons g r ih =>
      intro acc
      have h1 := ih (hStep n a acc g)
      have h2 := hStep_len n a acc g
      simp only [List.foldl_cons, List.length_cons]
      omega
  have := this t ([], false)
  simpa [hL] using this
def l7hO (r : RepoD) (n : Str) (a : Int) : Inv := ⟨Nat, fun i => ⟨[(1, true, .str n), (2, true, .int .i64 a), (3, true, .ptr 12 0), (6, true, .ptr 10 0), (7, true, .ptr 11 0), (8, true, .bool (hL n a (r.heads.take i)).2), (9, true, .int .i64 i)], [(12, bRepo r), (10, bNilR), (11, .box 26 [.sl true 3 (eCommits r.commits), .own 14 2 (eHeads (hL n a (r.heads.take i)).1)]), (14, .own 34 2 true (eHeads (hL n a (r.heads.take i)).1))]⟩, fun i => i ≤ r.heads.length, fun i => r.heads.length - i⟩
def cL7Head : Con := .fn 69 (RepoD × Str × Int) (fun a => [vRepo a.1, .str a.2.1, .int .i64 a.2.2]) (fun a => a.1.heads.length ≤ 1048576) (fun a => .agg [.sl true 3 (eCommits a.1.commits), .own 9 2 (eHeads (hSet a.1.heads a.2.1 a.2.2))]) (fun a => ownHeads 9 (hSet a.1.heads a.2.1 a.2.2))
set_option maxHeartbeats 4000000 in
theorem l7Head_has : Has Tryz.prog 179 cL7Head := by
  refine has_walk mixed tTab_ok (l := []) HasL.nil [0, 1, 2, 3, 6, 7, 8, 9] ((fun a n (_ : Nat) => (fun a _ => l7hO a.1 a.2.1 a.2.2) a n)) [] Tryz.func179 (by kernel_rfl) (code := _) (by unfold Tryz.f179; rfl) (by kernel_rfl) (by decide) (fun _ => ⟨(), trivial⟩) (by intro h; first | exact fun _ => rfl | cases h) (by kernel_rfl) ?_
  intro a ha
  obtain ⟨r, n, a⟩ := a
  replace ha : r.heads.length ≤ 1048576 := ha
  have a0 : hL n a [] = ([], false) := rfl
  have a7 : ∀ i, (hL n a (r.heads.take i)).1.length ≤ 1048577 := fun i => by
    have h1 := hL_len n a (r.heads.take i)
    have h2 := Bool.toNat_le (hL n a (r.heads.take i)).2
    have h3 : (r.heads.take i).length ≤ r.heads.length := by simp; omega
    omega
  simp -implicitDefEqProofs [cL7Head, Con.fn, tTab, l7hO, bRepo_def]
  try dsimp only
  have b1 : ∀ (X : List HeadD) (g : HeadD), eHeads X ++ [[D.str n, D.int .i64 a], [D.str g.name, D.int .i64 g.at_]] = eHeads (X ++ [⟨n, a⟩] ++ [g]) := fun X g => by simp -implicitDefEqProofs [eHeads, eHead]
  have b2 : ∀ (X : List HeadD) (g : HeadD), eHeads X ++ [[D.str g.name, D.int .i64 g.at_]] = eHeads (X ++ [g]) := fun X g => by simp -implicitDefEqProofs [eHeads, eHead]
  have b3 : ∀ (X : List HeadD), eHeads X ++ [[D.str n, D.int .i64 a]] = eHeads (X ++ [⟨n, a⟩]) := fun X => by simp -implicitDefEqProofs [eHeads, eHead]
  refine ⟨⟨0, by simp -implicitDefEqProofs [a0]⟩, fun i hi _ => ⟨fun hlt => ?_, fun hge => ?_⟩⟩
  · have g := hL_succ (n := n) (a := a) hlt
    have gl := a7 i
    generalize hX : hL n a (r.heads.take i) = X at g gl ⊢
    obtain ⟨X, q⟩ := X
    simp -implicitDefEqProofs [hlt, eHead, D.asStr, D.asInt, and_assoc]
    rw [b1, b2, b3]
    have gl : X.length ≤ 1048577 := gl
    have fin : ∀ (Y : List HeadD) (b : Bool), hL n a (r.heads.take (i + 1)) = (Y, b) → ∀ c, b = c → ∃ t', (hL n a (r.heads.take t')).2 = c ∧ (t' : Int) = i + 1 ∧ eHeads (hL n a (r.heads.take t')).1 = eHeads Y ∧ eHeads Y = eHeads (hL n a (r.heads.take t')).1 ∧ t' ≤ r.heads.length ∧ r.heads.length - t' < r.heads.length - i := fun Y b h c hc => ⟨i + 1, by rw [h]; exact hc, by omega, by rw [h], by rw [h], by omega, by omega⟩
    have fin2 : ∀ (Y : List HeadD) (b : Bool), hL n a (r.heads.take (i + 1)) = (Y, b) → ∀ c, b = c → ∃ t', (hL n a (r.heads.take t')).2 = c ∧ (t' : Int) = i + 1 ∧ (hL n a (r.heads.take t')).1 = Y ∧ Y = (hL n a (r.heads.take t')).1 ∧ t' ≤ r.heads.length ∧ r.heads.length - t' < r.heads.length - i := fun Y b h c hc => ⟨i + 1, by rw [h]; exact hc, by omega, by rw [h], by rw [h], by omega, by omega⟩
    refine ⟨fun hq => ⟨fun h => ⟨by omega, by omega, by omega, by omega, fun _ _ => fin _ q ?_ _ rfl⟩, fun h => ⟨by omega, by omega, fun _ _ => fin2 _ q ?_ _ rfl⟩⟩,
      fun hq => ⟨fun hb => ⟨by omega, by omega, fun h => ⟨by omega, by omega, by omega, by omega, fun _ _ => fin _ true ?_ _ rfl⟩, fun h => ⟨by omega, by omega, fun _ _ => fin _ true ?_ _ rfl⟩⟩,
        fun hb => ⟨fun h => ⟨by omega, by omega, by omega, by omega, fun _ _ => fin _ q ?_ _ rfl⟩, fun h => ⟨by omega, by omega, fun _ _ => fin2 _ q ?_ _ rfl⟩⟩⟩⟩
    all_goals rw [g]; unfold hStep
    · rw [if_neg (by simp -implicitDefEqProofs [hq]), if_neg h]
    · rw [if_neg (by simp -implicitDefEqProofs [hq]), if_pos h]
    · rw [if_pos ⟨hq, hb⟩, if_neg h]
    · rw [if_pos ⟨hq, hb⟩, if_pos h]
    · rw [if_neg (by simp -implicitDefEqProofs [hb]), if_neg h]
    · rw [if_neg (by simp -implicitDefEqProofs [hb]), if_pos h]
  · rw [List.take_of_length_le hge]
    have gl := a7 r.heads.length
    rw [List.take_length] at gl
    rw [b3]
    refine ⟨fun h => ?_, fun h => ⟨by omega, ?_⟩⟩
    · unfold hSet; rw [if_pos h]; exact ⟨rfl, rfl⟩
    · unfold hSet; rw [if_neg (by simp -implicitDefEqProofs [h])]; exact ⟨rfl, rfl⟩

end Vx
end Go.Proofs.YtnanellmaelipaaGreatDoor
/-
  Contracts: a commit added, commits and branches made (the reference's).
-/
namespace Go.Proofs.YtnanellmaelipaaGreatDoor
namespace Vx
open Go.RowKit
set_option maxRecDepth 8000

def addR (r : RepoD) (n : Str) (c : CommitD) : RepoD := ⟨r.commits ++ [c], hSet r.heads n r.commits.length⟩
def cL7Add : Con := .fn 24 (RepoD × Str × CommitD) (fun a => [vRepo a.1, .str a.2.1, .agg [.sl true 1 (eInts a.2.2.parents), .str a.2.2.who, .sl true 2 (eFiles a.2.2.tree)]]) (fun a => a.1.commits.length ≤ 1048576 ∧ a.1.heads.length ≤ 1048576) (fun a => .agg [.sl false 3 (eCommits (addR a.1 a.2.1 a.2.2).commits), .sl false 2 (eHeads (addR a.1 a.2.1 a.2.2).heads)]) (fun _ => [])
set_option maxHeartbeats 4000000 in
theorem l7Add_has : Has Tryz.prog 182 cL7Add := by
  refine has_walk mixed tTab_ok (l := [(179, cL7Head)]) (HasL.cons l7Head_has HasL.nil) [0, 1, 2, 3, 5, 6, 7] ((fun a n (_ : Nat) => (fun _ => noInv) a n)) [4109] Tryz.func182 (by kernel_rfl) (code := _) (by unfold Tryz.f182; rfl) (by kernel_rfl) (by decide) (fun _ => ⟨(), trivial⟩) (by intro h; first | exact fun _ => rfl | cases h) (by kernel_rfl) ?_
  intro a ha
  obtain ⟨r, n, c⟩ := a
  obtain ⟨h1, h2⟩ : r.commits.length ≤ 1048576 ∧ r.heads.length ≤ 1048576 := ha
  simp -implicitDefEqProofs [cL7Add, cL7Head, Con.fn, tTab, bRepo_def]
  try dsimp only
  exact ⟨by omega, by omega, fun _ => ⟨⟨r.commits ++ [c], r.heads⟩, n, r.commits.length, ⟨⟨by simp -implicitDefEqProofs [eCommits, eCommit], rfl⟩, rfl, rfl⟩, h2, rfl, rfl⟩⟩

def repoBranchS (r : RepoD) (n : Str) (a : Int) : RepoD × Bool := if repoS r then (if 0 ≤ atL r.heads n ∨ repoS ⟨r.commits, hSet r.heads n a⟩ = false then (r, false) else (⟨r.commits, hSet r.heads n a⟩, true)) else (⟨[], []⟩, false)
def cRepoBranch : Con := .fn 30 (RepoD × Str × Int) (fun a => [vRepo a.1, .str a.2.1, .int .i64 a.2.2]) (fun a => rpSz a.1) (fun a => .tup [.agg [.sl false 3 (eCommits (repoBranchS a.1 a.2.1 a.2.2).1.commits), .sl false 2 (eHeads (repoBranchS a.1 a.2.1 a.2.2).1.heads)], .bool (repoBranchS a.1 a.2.1 a.2.2).2]) (fun _ => [])
set_option maxHeartbeats 4000000 in
theorem repoBranch_has : Has Tryz.prog 251 cRepoBranch := by
  refine has_walk mixed tTab_ok (l := [(82, cL7Ok), (127, cL7Copy), (179, cL7Head), (124, cL7At)]) (HasL.cons l7Ok_has (HasL.cons l7Copy_has (HasL.cons l7Head_has (HasL.cons l7At_has HasL.nil)))) [0, 1, 2, 3, 6, 7, 8] ((fun a n (_ : Nat) => (fun _ => noInv) a n)) [] Tryz.func251 (by kernel_rfl) (code := _) (by unfold Tryz.f251; rfl) (by kernel_rfl) (by decide) (fun _ => ⟨(), trivial⟩) (by intro h; first | exact fun _ => rfl | cases h) (by kernel_rfl) ?_
  intro a ha
  obtain ⟨r, n, at_⟩ := a
  replace ha : rpSz r := ha
  have ha2 := ha
  obtain ⟨h1, h2, h3⟩ : r.commits.length ≤ 1048576 ∧ (∀ c ∈ r.commits, cmSz c) ∧ r.heads.length ≤ 1048576 := ha2
  simp -implicitDefEqProofs [cRepoBranch, cL7Ok, cL7Copy, cL7Head, cL7At, Con.fn, tTab, bRepo_def]
  try dsimp only
  have e0 : repoS r = false → repoBranchS r n at_ = (⟨[], []⟩, false) := fun h => by unfold repoBranchS; rw [if_neg (by simp -implicitDefEqProofs [h])]
  have e1 : repoS r = true → (0 ≤ atL r.heads n ∨ repoS ⟨r.commits, hSet r.heads n at_⟩ = false) → repoBranchS r n at_ = (r, false) := fun h h2 => by unfold repoBranchS; rw [if_pos h, if_pos h2]
  have e2 : repoS r = true → ¬ (0 ≤ atL r.heads n ∨ repoS ⟨r.commits, hSet r.heads n at_⟩ = false) → repoBranchS r n at_ = (⟨r.commits, hSet r.heads n at_⟩, true) := fun h h2 => by unfold repoBranchS; rw [if_pos h, if_neg h2]
  refine ⟨by omega, fun h => by rw [e0 h]; exact ⟨⟨rfl, rfl⟩, rfl⟩, fun h => ⟨ha, r, n, at_, ⟨⟨rfl, rfl⟩, rfl, rfl⟩, h3, r, n, ⟨⟨rfl, rfl⟩, rfl⟩, fun hq => ⟨ha, by rw [e1 h (.inl hq)]; exact ⟨⟨rfl, rfl⟩, rfl⟩⟩, fun hq => ⟨by omega, fun ho => ⟨ha, by rw [e1 h (.inr ho)]; exact ⟨⟨rfl, rfl⟩, rfl⟩⟩, fun ho => ?_⟩⟩⟩
  rw [e2 h (by rintro (q | q); omega; rw [ho] at q; cases q)]; exact ⟨⟨rfl, rfl⟩, rfl⟩

def comC (r : RepoD) (n who : Str) (t : List FileD) : CommitD := ⟨if 0 ≤ atL r.heads n then [atL r.heads n] else [], who, t⟩
def repoCommitS (r : RepoD) (n who : Str) (t : List FileD) : RepoD × Bool := if repoS r then (if repoS (addR r n (comC r n who t)) then (addR r n (comC r n who t), true) else (r, false)) else (⟨[], []⟩, false)
def cRepoCommit : Con := .fn 40 (RepoD × Str × Str × List FileD) (fun a => [vRepo a.1, .str a.2.1, .str a.2.2.1, .sl true 2 (eFiles a.2.2.2)]) (fun a => rpSz a.1 ∧ a.2.2.2.length ≤ 1048576 ∧ ∀ f ∈ a.2.2.2, f.text.length ≤ 1048576) (fun a => .tup [.agg [.sl false 3 (eCommits (repoCommitS a.1 a.2.1 a.2.2.1 a.2.2.2).1.commits), .sl false 2 (eHeads (repoCommitS a.1 a.2.1 a.2.2.1 a.2.2.2).1.heads)], .bool (repoCommitS a.1 a.2.1 a.2.2.1 a.2.2.2).2]) (fun _ => [])
set_option maxHeartbeats 4000000 in
theorem repoCommit_has : Has Tryz.prog 276 cRepoCommit := by
  refine has_walk mixed tTab_ok (l := [(82, cL7Ok), (209, cL4Copy), (124, cL7At), (127, cL7Copy), (182, cL7Add)]) (HasL.cons l7Ok_has (HasL.cons l4Copy_has (HasL.cons l7At_has (HasL.cons l7Copy_has (HasL.cons l7Add_has HasL.nil))))) [0, 1, 2, 3, 4, 8, 9, 10, 11] ((fun a n (_ : Nat) => (fun _ => noInv) a n)) [] Tryz.func276 (by kernel_rfl) (code := _) (by unfold Tryz.f276; rfl) (by kernel_rfl) (by decide) (fun _ => ⟨(), trivial⟩) (by intro h; first | exact fun _ => rfl | cases h) (by kernel_rfl) ?_
  intro a ha
  obtain ⟨r, n, who, t⟩ := a
  obtain ⟨ha, h4, h5⟩ : rpSz r ∧ t.length ≤ 1048576 ∧ ∀ f ∈ t, f.text.length ≤ 1048576 := ha
  have ha2 := ha
  obtain ⟨h1, h2, h3⟩ : r.commits.length ≤ 1048576 ∧ (∀ c ∈ r.commits, cmSz c) ∧ r.heads.length ≤ 1048576 := ha2
  simp -implicitDefEqProofs [cRepoCommit, cL7Ok, cL7Copy, cL7Add, cL7At, cL4Copy, Con.fn, tTab, bRepo_def]
  try dsimp only
  have e0 : repoS r = false → repoCommitS r n who t = (⟨[], []⟩, false) := fun h => by unfold repoCommitS; rw [if_neg (by simp -implicitDefEqProofs [h])]
  have e1 : repoS r = true → repoS (addR r n (comC r n who t)) = false → repoCommitS r n who t = (r, false) := fun h h2 => by unfold repoCommitS; rw [if_pos h, if_neg (by simp -implicitDefEqProofs [h2])]
  have e2 : repoS r = true → repoS (addR r n (comC r n who t)) = true → repoCommitS r n who t = (addR r n (comC r n who t), true) := fun h h2 => by unfold repoCommitS; rw [if_pos h, if_pos h2]
  have hl : ∀ c, (addR r n c).commits.length ≤ 1073741824 := fun c => by simp -implicitDefEqProofs [addR]; omega
  refine ⟨by omega, fun h => by rw [e0 h]; exact ⟨⟨rfl, rfl⟩, rfl⟩, fun h => ⟨⟨h4, h5⟩, r, n, ⟨⟨rfl, rfl⟩, rfl⟩, fun hq => ?_, fun hq => ?_⟩⟩
  · have hc : comC r n who t = ⟨[atL r.heads n], who, t⟩ := by unfold comC; rw [if_pos hq]
    rw [hc] at e1 e2
    refine ⟨r, n, ⟨⟨rfl, rfl⟩, rfl⟩, ha, r, n, ⟨[atL r.heads n], who, t⟩, ⟨⟨rfl, rfl⟩, rfl, rfl, rfl, rfl⟩, ⟨h1, h3⟩, hl _, fun ho => ⟨ha, by rw [e1 h ho]; exact ⟨⟨rfl, rfl⟩, rfl⟩⟩, fun ho => by rw [e2 h ho]; exact ⟨⟨rfl, rfl⟩, rfl⟩⟩
  · have hc : comC r n who t = ⟨[], who, t⟩ := by unfold comC; rw [if_neg (by omega)]
    rw [hc] at e1 e2
    refine ⟨ha, r, n, ⟨[], who, t⟩, ⟨⟨rfl, rfl⟩, rfl, rfl, rfl, rfl⟩, ⟨h1, h3⟩, hl _, fun ho => ⟨ha, by rw [e1 h ho]; exact ⟨⟨rfl, rfl⟩, rfl⟩⟩, fun ho => by rw [e2 h ho]; exact ⟨⟨rfl, rfl⟩, rfl⟩⟩

end Vx
end Go.Proofs.YtnanellmaelipaaGreatDoor
/-
  Contracts: files dropped and moved (the reference's TreeDrop, TreeMove).
-/
namespace Go.Proofs.YtnanellmaelipaaGreatDoor
namespace Vx
open Go.RowKit
set_option maxRecDepth 8000

def treeDropS (t : List FileD) (p : Str) : List FileD × Bool := if treeS t then (filB (dropB p) t, decide ((filB (dropB p) t).length < t.length)) else ([], false)
def cTreeDropS : Con := .fn 20 (List FileD × Str) (fun a => [.sl true 2 (eFiles a.1), .str a.2]) (fun a => a.1.length ≤ 1048576 ∧ ∀ f ∈ a.1, f.text.length ≤ 1048576) (fun a => .tup [.sl false 2 (eFiles (treeDropS a.1 a.2).1), .bool (treeDropS a.1 a.2).2]) (fun _ => [])
set_option maxHeartbeats 4000000 in
theorem treeDropS_has : Has Tryz.prog 249 cTreeDropS := by
  refine has_walk mixed tTab_ok (l := [(110, cL4Ok), (209, cL4Copy), (277, cL4Drop)]) (HasL.cons l4Ok_has (HasL.cons l4Copy_has (HasL.cons l4Drop_has HasL.nil))) [0, 1, 4, 5, 6] ((fun a n (_ : Nat) => (fun _ => noInv) a n)) [] Tryz.func249 (by kernel_rfl) (code := _) (by unfold Tryz.f249; rfl) (by kernel_rfl) (by decide) (fun _ => ⟨(), trivial⟩) (by intro h; first | exact fun _ => rfl | cases h) (by kernel_rfl) ?_
  intro a ha
  obtain ⟨t, p⟩ := a
  obtain ⟨h1, h2⟩ : t.length ≤ 1048576 ∧ ∀ f ∈ t, f.text.length ≤ 1048576 := ha
  simp -implicitDefEqProofs [cTreeDropS, cL4Ok, cL4Copy, cL4Drop, Con.fn, tTab]
  try dsimp only
  refine ⟨fun h => by unfold treeDropS; rw [if_neg (by simp -implicitDefEqProofs [h])]; exact ⟨rfl, rfl⟩, fun h => ⟨⟨h1, h2⟩, t, p, ⟨rfl, rfl⟩, h1, fun _ _ => by unfold treeDropS; rw [if_pos h]; exact ⟨rfl, rfl⟩⟩⟩

def mvHit (p : Str) (f : FileD) : Bool := decide (f.path = p) || inB p f.path
def mvStep (p to : Str) (o : List FileD) (f : FileD) : List FileD := if mvHit p f then setS o ⟨to ++ f.path.drop p.length, f.text⟩ else o
def mvFs (p to : Str) (o : List FileD) (t : List FileD) : List FileD := t.foldl (mvStep p to) o
theorem mvFs_succ {p to : Str} {o t : List FileD} {i : Nat} (h : i < t.length) : mvFs p to o (t.take (i + 1)) = mvStep p to (mvFs p to o (t.take i)) t[i] := by
  unfold mvFs
  rw [take_succ' h, List.foldl_append]; rfl
theorem mvFs_len (p to : Str) (o t : List FileD) : (mvFs p to o t).length ≤ o.length + t.length := by
  unfold mvFs
  induction t generalizing o with
  | nil => simp
  | cons f t ih =>
    have h1 := ih (mvStep p to o f)
    have h2 : (mvStep p to o f).length ≤ o.length + 1 := by
      unfold mvStep
      split
      · exact setS_len _ _
      · omega
    simp only [List.foldl_cons, List.length_cons]
    omega
theorem inB_len {p q : Str} (h : inB p q = true) : p.length < q.length := by
  unfold inB at h
  simp only [Bool.and_eq_true, decide_eq_true_eq] at h
  omega
def treeMoveS (t : List FileD) (p to : Str) : List FileD × Bool :=
  if treeS t then
    (if (filB (dropB p) t).length = t.length ∨ pathS to = false then (t, false)
    else if treeS (mvFs p to (filB (dropB p) t) t) = false ∨ ¬ (mvFs p to (filB (dropB p) t) t).length = t.length then (t, false)
    else (mvFs p to (filB (dropB p) t) t, true))
  else ([], false)
def mvO (t : List FileD) (p to : Str) : Inv := ⟨Nat, fun i => ⟨[(0, true, .sl true 2 (eFiles t)), (1, true, .str p), (2, true, .str to), (6, true, .nil), (7, true, .bool false), (8, true, .sl false 2 (eFiles (mvFs p to (filB (dropB p) t) (t.take i)))), (9, true, .int .i64 t.length), (10, true, .int .i64 i)], []⟩, fun i => i ≤ t.length ∧ treeS t = true, fun i => t.length - i⟩
def cTreeMoveS : Con := .fn 84 (List FileD × Str × Str) (fun a => [.sl true 2 (eFiles a.1), .str a.2.1, .str a.2.2]) (fun a => a.1.length ≤ 1048576 ∧ (∀ f ∈ a.1, f.text.length ≤ 1048576) ∧ a.2.2.length ≤ 1048576 ∧ ∀ f ∈ a.1, f.path.length ≤ 1048576) (fun a => .tup [.sl false 2 (eFiles (treeMoveS a.1 a.2.1 a.2.2).1), .bool (treeMoveS a.1 a.2.1 a.2.2).2]) (fun _ => [])
set_option maxHeartbeats 4000000 in
theorem treeMoveS_has : Has Tryz.prog 250 cTreeMoveS := by
  refine has_walk mixed tTab_ok (l := [(110, cL4Ok), (209, cL4Copy), (277, cL4Drop), (164, cL4Path), (166, cL4In), (275, cL4Set)]) (HasL.cons l4Ok_has (HasL.cons l4Copy_has (HasL.cons l4Drop_has (HasL.cons l4Path_has (HasL.cons l4In_has (HasL.cons l4Set_has HasL.nil)))))) [0, 1, 2, 6, 7, 8, 9, 10] ((fun a n (_ : Nat) => (fun a _ => mvO a.1 a.2.1 a.2.2) a n)) [] Tryz.func250 (by kernel_rfl) (code := _) (by unfold Tryz.f250; rfl) (by kernel_rfl) (by decide) (fun _ => ⟨(), trivial⟩) (by intro h; first | exact fun _ => rfl | cases h) (by kernel_rfl) ?_
  intro a ha
  obtain ⟨t, p, to⟩ := a
  obtain ⟨h1, h2, h3, h4⟩ : t.length ≤ 1048576 ∧ (∀ f ∈ t, f.text.length ≤ 1048576) ∧ to.length ≤ 1048576 ∧ ∀ f ∈ t, f.path.length ≤ 1048576 := ha
  simp -implicitDefEqProofs [cTreeMoveS, cL4Ok, cL4Copy, cL4Drop, cL4Path, cL4In, cL4Set, Con.fn, tTab, mvO]
  try dsimp only
  have e0 : treeS t = false → treeMoveS t p to = ([], false) := fun h => by unfold treeMoveS; rw [if_neg (by simp -implicitDefEqProofs [h])]
  have e1 : treeS t = true → ((filB (dropB p) t).length = t.length ∨ pathS to = false) → treeMoveS t p to = (t, false) := fun h q => by unfold treeMoveS; rw [if_pos h, if_pos q]
  have e2 : treeS t = true → ¬ ((filB (dropB p) t).length = t.length ∨ pathS to = false) → (treeS (mvFs p to (filB (dropB p) t) t) = false ∨ ¬ (mvFs p to (filB (dropB p) t) t).length = t.length) → treeMoveS t p to = (t, false) := fun h q w => by unfold treeMoveS; rw [if_pos h, if_neg q, if_pos w]
  have e3 : treeS t = true → ¬ ((filB (dropB p) t).length = t.length ∨ pathS to = false) → ¬ (treeS (mvFs p to (filB (dropB p) t) t) = false ∨ ¬ (mvFs p to (filB (dropB p) t) t).length = t.length) → treeMoveS t p to = (mvFs p to (filB (dropB p) t) t, true) := fun h q w => by unfold treeMoveS; rw [if_pos h, if_neg q, if_neg w]
  refine ⟨fun h => by rw [e0 h]; exact ⟨rfl, rfl⟩, fun h => ⟨⟨h1, h2⟩, t, p, ⟨rfl, rfl⟩, h1, fun _ _ => ⟨fun q => ⟨⟨h1, h2⟩, by rw [e1 h (.inl (by omega))]; exact ⟨rfl, rfl⟩⟩, fun q => ⟨fun w => ⟨⟨h1, h2⟩, by rw [e1 h (.inr w)]; exact ⟨rfl, rfl⟩⟩, fun w _ => ⟨⟨0, ⟨by simp -implicitDefEqProofs [mvFs], rfl⟩, Nat.zero_le _, h⟩, fun i hi _ _ => ⟨fun hlt => ?_, fun hge => ?_⟩⟩⟩⟩⟩⟩
  · have g := mvFs_succ (p := p) (to := to) (o := filB (dropB p) t) hlt
    have h8 := (treeS_le t h).1
    have gl := mvFs_len p to (filB (dropB p) t) (t.take i)
    have gf := List.length_filter_le (dropB p) t
    have gf : (filB (dropB p) t).length ≤ t.length := gf
    have gt : (t.take i).length ≤ t.length := by simp; omega
    have gp := h4 _ (List.getElem_mem hlt)
    have gx := h2 _ (List.getElem_mem hlt)
    have gi := @inB_len p t[i].path
    clear e0 e1 e2 e3
    generalize mvFs p to (filB (dropB p) t) (t.take i) = X at g gl ⊢
    simp -implicitDefEqProofs [hlt, eFile, D.asStr, D.asRows, and_assoc]
    have gtk : List.take (List.length t[i].path - List.length p) (List.drop (List.length p) t[i].path) = t[i].path.drop p.length := List.take_of_length_le (by simp)
    rw [gtk]
    have hm : maxLen = 9223372036854775807 := rfl
    refine ⟨fun e => ⟨by rw [e]; omega, fun _ => ⟨by omega, fun _ => ⟨by omega, gx, by omega, by omega, fun _ _ => ⟨i + 1, ?_, by omega, by omega, h, by omega⟩⟩⟩⟩,
      fun e => ⟨fun c => ⟨by have := gi c; omega, fun _ => ⟨by omega, fun _ => ⟨by omega, gx, by omega, by omega, fun _ _ => ⟨i + 1, ?_, by omega, by omega, h, by omega⟩⟩⟩⟩, fun c => ⟨by omega, by omega, fun _ _ => ⟨i + 1, ?_, by omega, by omega, h, by omega⟩⟩⟩⟩
    · rw [g]; unfold mvStep; rw [if_pos (by simp -implicitDefEqProofs [mvHit, e])]
    · rw [g]; unfold mvStep; rw [if_pos (by simp -implicitDefEqProofs [mvHit, c])]
    · rw [g]; unfold mvStep; rw [if_neg (by simp -implicitDefEqProofs [mvHit, c, e])]
  · rw [List.take_of_length_le hge]
    have hn : ¬ ((filB (dropB p) t).length = t.length ∨ pathS to = false) := by rintro (c | c); omega; rw [w] at c; cases c
    have e2 := e2 h hn
    have e3 := e3 h hn
    generalize mvFs p to (filB (dropB p) t) t = X at e2 e3 ⊢
    refine ⟨fun c => ⟨⟨h1, h2⟩, by rw [e2 (.inl c)]; exact ⟨rfl, rfl⟩⟩, fun c _ => ⟨fun d => ⟨⟨h1, h2⟩, by rw [e2 (.inr (by omega))]; exact ⟨rfl, rfl⟩⟩, fun d => ?_⟩⟩
    rw [e3 (by rintro (k | k); rw [c] at k; cases k; omega)]; exact ⟨rfl, rfl⟩

end Vx
end Go.Proofs.YtnanellmaelipaaGreatDoor
/-
  What the law FnSeekTree says, in plain lists.
-/
namespace Go.Proofs.YtnanellmaelipaaGreatDoor
namespace Vx
open Go.RowKit

theorem less_trans {a b c : Str} (h : Go.Op.bytesLess a b = true) (h' : Go.Op.bytesLess b c = true) : Go.Op.bytesLess a c = true := by
  rw [less_eq, decide_eq_true_eq] at *
  exact List.lt_trans h h'
theorem less_irrefl (a : Str) : Go.Op.bytesLess a a = false := by
  rw [less_eq, decide_eq_false_iff_not]
  exact List.lt_irrefl a
theorem tree_less {t : List FileD} (h : treeI t = true) : ∀ j i, (hij : i < j) → (hj : j < t.length) → Go.Op.bytesLess (t[i]'(by omega)).path t[j].path = true := by
  have hs : ∀ j, (h0 : 0 < j) → (hj : j < t.length) → Go.Op.bytesLess (t[j - 1]'(by omega)).path t[j].path = true := by
    intro j h0 hj
    simp only [treeI, Bool.and_eq_true, List.all_eq_true, List.mem_range] at h
    have h2 := (h.2 j hj).1
    simp only [headI, Bool.and_eq_true, Bool.or_eq_true, decide_eq_true_eq] at h2
    rcases h2.2 with h3 | h3
    · omega
    · simpa [List.getD_eq_getElem?_getD, hj, (show j - 1 < t.length by omega)] using h3
  intro j
  induction j with
  | zero => intro i hi; omega
  | succ j ih =>
    intro i hi hj
    have h1 := hs (j + 1) (by omega) hj
    by_cases e : i = j
    · subst e; exact h1
    · exact less_trans (ih i (by omega) (by omega)) h1
theorem tree_paths {t : List FileD} (h : treeI t = true) {i j : Nat} (hi : i < t.length) (hj : j < t.length) (he : t[i].path = t[j].path) : i = j := by
  rcases Nat.lt_trichotomy i j with h1 | h1 | h1
  · have := tree_less h j i h1 hj; rw [he, less_irrefl] at this; cases this
  · exact h1
  · have := tree_less h i j h1 hi; rw [he, less_irrefl] at this; cases this

/-- A text is in another one. -/
def partB (s p : Str) : Bool := (List.range (s.length + 1)).any fun i => decide (i + p.length ≤ s.length) && decide ((s.drop i).take p.length = p)
theorem partB_hit {s p : Str} {i : Nat} (h : i + p.length ≤ s.length) (h2 : (s.drop i).take p.length = p) : partB s p = true := by
  unfold partB
  rw [List.any_eq_true]
  exact ⟨i, List.mem_range.2 (by omega), by simp [h, h2]⟩
theorem partB_miss {s p : Str} (h : ∀ i, i + p.length ≤ s.length → (s.drop i).take p.length ≠ p) : partB s p = false := by
  unfold partB
  rw [List.any_eq_false]
  intro i _
  simp only [Bool.and_eq_true, decide_eq_true_eq, not_and]
  exact h i
theorem partB_mid (a p b : Str) : partB (a ++ (p ++ b)) p = true := partB_hit (i := a.length) (by simp) (by simp)
theorem hasP_part {w : Str} : ∀ {r c : Str}, hasP w r c = true → ∃ a b, c ++ r = a ++ (w ++ b) := by
  intro r
  induction r with
  | nil => intro c h; simp only [hasP, decide_eq_true_eq] at h; subst h; exact ⟨[], [], by simp⟩
  | cons x r ih =>
    intro c h
    simp only [hasP] at h
    split at h
    · obtain ⟨a, b, e⟩ := ih h
      exact ⟨a, b, by simpa using e⟩
    · simp only [Bool.or_eq_true, decide_eq_true_eq] at h
      rcases h with rfl | h
      · exact ⟨[], x :: r, by simp⟩
      · obtain ⟨a, b, e⟩ := ih h
        exact ⟨c ++ x :: a, b, by simpa using e⟩
theorem hasS_part {w l : Str} (h : hasS w l = true) : partB l w = true := by
  obtain ⟨a, b, e⟩ := hasP_part h
  rw [List.nil_append] at e
  rw [e]; exact partB_mid a w b
theorem hasP_word {w : Str} : ∀ {r c : Str}, (∀ x ∈ r, wordB x.toNat = true) → hasP w r c = decide (c ++ r = w) := by
  intro r
  induction r with
  | nil => intro c _; simp [hasP]
  | cons x r ih =>
    intro c h
    simp only [hasP, h x (by simp), if_true]
    rw [ih fun y hy => h y (by simp [hy])]
    simp
theorem hasS_self {w : Str} (h : nameB w = true) : hasS w w = true := by
  simp only [nameB, Bool.and_eq_true, List.all_eq_true] at h
  unfold hasS
  rw [hasP_word h.2]; simp
theorem hasS_see {w : Str} (h : nameB w = true) : hasS w ([115, 101, 101, 32] ++ w) = true := by
  have h0 := hasS_self h
  unfold hasS at h0 ⊢
  show hasP w (115 :: 101 :: 101 :: 32 :: w) [] = true
  simp only [hasP]
  rw [if_pos (by decide), if_pos (by decide), if_pos (by decide), if_neg (by decide), h0, Bool.or_true]

def pathIn (l : List Str) (p : Str) : Bool := decide (p ∈ l)
theorem seek_mem {t : List FileD} (ht : treeI t = true) (p : FileD → Bool) {i : Nat} (hi : i < t.length) : t[i].path ∈ seekL p t ↔ p t[i] = true := by
  unfold seekL
  simp only [List.mem_map, List.mem_filter]
  constructor
  · rintro ⟨f, ⟨hf, hp⟩, e⟩
    obtain ⟨j, hj, rfl⟩ := List.getElem_of_mem hf
    have := tree_paths ht hj hi e
    subst this
    exact hp
  · intro h; exact ⟨t[i], ⟨List.getElem_mem hi, h⟩, rfl⟩
theorem seek_split (p : FileD → Bool) (t : List FileD) {i : Nat} (hi : i < t.length) (hp : p t[i] = true) : (seekL p t)[(seekL p (t.take i)).length]? = some t[i].path := by
  have e : t.take i ++ (t[i] :: t.drop (i + 1)) = t := by rw [← List.drop_eq_getElem_cons hi, List.take_append_drop]
  have key : ∀ (a : List FileD) (x : FileD) (b : List FileD), p x = true → seekL p (a ++ x :: b) = seekL p a ++ (x.path :: seekL p b) := fun a x b h => by simp [seekL, List.filter_cons, h]
  have := key (t.take i) t[i] (t.drop (i + 1)) hp
  rw [e] at this
  rw [this]; simp
theorem hit_some {t : List FileD} {w : Str} {i : Nat} (hi : i < t.length) (h : hitS w t[i] = true) : ∃ l ∈ t[i].text, partB l w = true := by
  unfold hitS anyHas at h
  rw [List.any_eq_true] at h
  obtain ⟨l, hl, h⟩ := h
  exact ⟨l, hl, hasS_part h⟩
theorem hit_word {f : FileD} {w : Str} (hw : nameB w = true) (h : w ∈ f.text ∨ [115, 101, 101, 32] ++ w ∈ f.text) : hitS w f = true := by
  unfold hitS anyHas
  rw [List.any_eq_true]
  rcases h with h | h
  · exact ⟨_, h, hasS_self hw⟩
  · exact ⟨_, h, hasS_see hw⟩

/-- The lines of a file that have the word. -/
def someP (t : List Str) (w : Str) : Bool := t.any fun l => partB l w

end Vx
end Go.Proofs.YtnanellmaelipaaGreatDoor
/-
  Models of what the reference does with trees that are made one, branches, picks, operations; plain lemmas.
-/
namespace Go.Proofs.YtnanellmaelipaaGreatDoor
namespace Vx
open Go.RowKit
set_option maxRecDepth 8000

/-- A text put among others, in order, once. -/
def putS : List Str → Str → List Str
  | [], s => [s]
  | x :: l, s => if Go.Op.bytesLess x s then x :: putS l s else if x = s then x :: l else s :: x :: l
theorem putS_len (l : List Str) (s : Str) : (putS l s).length ≤ l.length + 1 := by
  induction l with
  | nil => simp -implicitDefEqProofs [putS]
  | cons x l ih =>
    unfold putS
    split
    · simp; omega
    · split <;> simp
theorem putS_step {l : List Str} {s : Str} {k : Nat} (h : k < l.length) (hp : l.take k ++ putS (l.drop k) s = putS l s) (hl : Go.Op.bytesLess l[k] s = true) : l.take (k + 1) ++ putS (l.drop (k + 1)) s = putS l s := by
  rw [List.drop_eq_getElem_cons h, putS, if_pos hl] at hp
  rw [take_succ' h, List.append_assoc]
  exact hp
theorem putS_end {l : List Str} {s : Str} {k : Nat} (h : l.length ≤ k) (hp : l.take k ++ putS (l.drop k) s = putS l s) : putS l s = l.take k ++ [s] ++ l.drop k := by
  rw [List.drop_eq_nil_of_le h] at hp ⊢
  rw [← hp]; simp -implicitDefEqProofs [putS]
theorem putS_eq {l : List Str} {s : Str} {k : Nat} (h : k < l.length) (hp : l.take k ++ putS (l.drop k) s = putS l s) (hl : Go.Op.bytesLess l[k] s = false) (he : l[k] = s) : putS l s = l := by
  rw [List.drop_eq_getElem_cons h, putS, if_neg (by simp -implicitDefEqProofs [hl]), if_pos he, ← List.drop_eq_getElem_cons h, List.take_append_drop] at hp
  exact hp.symm
theorem putS_ne {l : List Str} {s : Str} {k : Nat} (h : k < l.length) (hp : l.take k ++ putS (l.drop k) s = putS l s) (hl : Go.Op.bytesLess l[k] s = false) (he : ¬ l[k] = s) : putS l s = l.take k ++ [s] ++ l.drop k := by
  rw [List.drop_eq_getElem_cons h, putS, if_neg (by simp -implicitDefEqProofs [hl]), if_neg he, ← List.drop_eq_getElem_cons h] at hp
  rw [← hp]; simp

def putFs (l : List Str) (t : List FileD) : List Str := t.foldl (fun l f => putS l f.path) l
theorem putFs_succ {l : List Str} {t : List FileD} {i : Nat} (h : i < t.length) : putFs l (t.take (i + 1)) = putS (putFs l (t.take i)) t[i].path := by
  unfold putFs
  rw [take_succ' h, List.foldl_append]; rfl
theorem putFs_len (t : List FileD) : ∀ l, (putFs l t).length ≤ l.length + t.length := by
  induction t with
  | nil => intro l; simp -implicitDefEqProofs [putFs]
  | cons f t ih =>
    intro l
    have h1 := ih (putS l f.path)
    have h2 := putS_len l f.path
    show (putFs (putS l f.path) t).length ≤ _
    simp only [List.length_cons]
    omega
def paths6 (o a b : List FileD) : List Str := putFs (putFs (putFs [] o) a) b
theorem paths6_len (o a b : List FileD) : (paths6 o a b).length ≤ o.length + a.length + b.length := by
  have h1 := putFs_len b (putFs (putFs [] o) a)
  have h2 := putFs_len a (putFs [] o)
  have h3 := putFs_len o []
  simp at h3
  show (putFs (putFs (putFs [] o) a) b).length ≤ _
  omega

def same6 (a b : List Str × Bool) : Bool := decide (a.2 = b.2) && (!a.2 || decide (a.1 = b.1))
def one6 (o a b : List FileD) (p : Str) : List Str × Bool × Int :=
  if same6 (getL a p) (getL o p) || same6 (getL a p) (getL b p) then ((getL b p).1, (getL b p).2, 0)
  else if same6 (getL b p) (getL o p) then ((getL a p).1, (getL a p).2, 0)
  else if !(getL a p).2 || !(getL b p).2 then ((getL o p).1, (getL o p).2, 1)
  else if !(getL o p).2 then ([], false, 2)
  else if (text3 (of3 (getL o p).1 (getL a p).1 (getL b p).1)).2 then ((text3 (of3 (getL o p).1 (getL a p).1 (getL b p).1)).1, true, 0)
  else ((getL o p).1, true, 3)
theorem getL_len {t : List FileD} {n : Nat} (h : ∀ f ∈ t, f.text.length ≤ n) (p : Str) : (getL t p).1.length ≤ n := by
  induction t with
  | nil => simp -implicitDefEqProofs [getL]
  | cons f t ih =>
    unfold getL
    split
    · exact h f (by simp)
    · exact ih fun g hg => h g (by simp -implicitDefEqProofs [hg])
theorem textB_len {t : List Str} (h : textB t = true) : t.length ≤ 10 := by
  unfold textB at h
  simp only [Bool.and_eq_true, decide_eq_true_eq] at h
  exact h.1
theorem text3_len (l : List PartD) : (text3 l).1.length ≤ 10 := by
  unfold text3
  split
  · simp
  · split
    · rename_i h; exact textB_len h
    · simp
theorem one6_len {o a b : List FileD} {p : Str} {n : Nat} (hn : 10 ≤ n) (ho : ∀ f ∈ o, f.text.length ≤ n) (ha : ∀ f ∈ a, f.text.length ≤ n) (hb : ∀ f ∈ b, f.text.length ≤ n) : (one6 o a b p).1.length ≤ n := by
  have h1 := getL_len ho p
  have h2 := getL_len ha p
  have h3 := getL_len hb p
  have h4 := text3_len (of3 (getL o p).1 (getL a p).1 (getL b p).1)
  unfold one6
  split
  · exact h3
  · split
    · exact h2
    · split
      · exact h1
      · split
        · simp
        · split
          · show (text3 _).1.length ≤ n; omega
          · exact h1
def stepJ (o a b : List FileD) (s : List FileD × List HeadD) (p : Str) : List FileD × List HeadD :=
  (if (one6 o a b p).2.1 then s.1 ++ [⟨p, (one6 o a b p).1⟩] else s.1, if 0 < (one6 o a b p).2.2 then s.2 ++ [⟨p, (one6 o a b p).2.2⟩] else s.2)
def runJ (o a b : List FileD) (l : List Str) : List FileD × List HeadD := l.foldl (stepJ o a b) ([], [])
theorem runJ_succ {o a b : List FileD} {l : List Str} {i : Nat} (h : i < l.length) : runJ o a b (l.take (i + 1)) = stepJ o a b (runJ o a b (l.take i)) l[i] := by
  unfold runJ
  rw [take_succ' h, List.foldl_append]; rfl
theorem runJ_len (o a b : List FileD) (l : List Str) : (runJ o a b l).1.length ≤ l.length ∧ (runJ o a b l).2.length ≤ l.length := by
  have : ∀ (l : List Str) (s : List FileD × List HeadD), (l.foldl (stepJ o a b) s).1.length ≤ s.1.length + l.length ∧ (l.foldl (stepJ o a b) s).2.length ≤ s.2.length + l.length := by
    intro l
    induction l with
    | nil => intro s; simp
    | cons p l ih =>
      intro s
      obtain ⟨h1, h2⟩ := ih (stepJ o a b s p)
      have h3 : (stepJ o a b s p).1.length ≤ s.1.length + 1 ∧ (stepJ o a b s p).2.length ≤ s.2.length + 1 := by
        unfold stepJ
        constructor
        · show (if _ then _ else _ : List FileD).length ≤ _
          split <;> simp
        · show (if _ then _ else _ : List HeadD).length ≤ _
          split <;> simp
      simp only [List.foldl_cons, List.length_cons]
      omega
  have := this l ([], [])
  simpa [runJ] using this
theorem runJ_text {o a b : List FileD} {n : Nat} (hn : 10 ≤ n) (ho : ∀ f ∈ o, f.text.length ≤ n) (ha : ∀ f ∈ a, f.text.length ≤ n) (hb : ∀ f ∈ b, f.text.length ≤ n) (l : List Str) : ∀ f ∈ (runJ o a b l).1, f.text.length ≤ n := by
  have : ∀ (l : List Str) (s : List FileD × List HeadD), (∀ f ∈ s.1, f.text.length ≤ n) → ∀ f ∈ (l.foldl (stepJ o a b) s).1, f.text.length ≤ n := by
    intro l
    induction l with
    | nil => intro s h; exact h
    | cons p l ih =>
      intro s h
      refine ih (stepJ o a b s p) ?_
      intro f hf
      have hf : f ∈ (if (one6 o a b p).2.1 then s.1 ++ [⟨p, (one6 o a b p).1⟩] else s.1) := hf
      split at hf
      · rcases List.mem_append.1 hf with hf | hf
        · exact h f hf
        · simp at hf; subst hf; exact one6_len hn ho ha hb
      · exact h f hf
  exact this l ([], []) (by simp)
def of6 (o a b : List FileD) : List FileD × List HeadD := runJ o a b (paths6 o a b)
def join6 (o a b : List FileD) : List FileD × List HeadD := if (of6 o a b).2 = [] ∧ treeS (of6 o a b).1 = false then (o, [⟨[], 4⟩]) else of6 o a b
theorem join6_tree {o a b : List FileD} (h : (join6 o a b).2 = []) : treeS (join6 o a b).1 = true := by
  unfold join6 at h ⊢
  split
  · rename_i h2; rw [if_pos h2] at h; simp at h
  · rename_i h2
    rw [if_neg h2] at h
    cases hq : treeS (of6 o a b).1 with
    | true => rfl
    | false => exact absurd ⟨h, hq⟩ h2

def both8 (r : RepoD) (a b : Int) (i : Nat) : List Int := ((listT (anc r a)).take i).filter fun x => decide (x ∈ listT (anc r b))
def bestF (r : RepoD) (l : List Int) (i k : Nat) : Bool := (List.range k).all fun j => decide (j = i) || !decide (l.getD i 0 ∈ listT (anc r (l.getD j 0)))
def baseF (r : RepoD) (l : List Int) (i : Nat) : List Int := ((List.range i).filter fun j => bestF r l j l.length).map fun j => l.getD j 0
def bases8 (r : RepoD) (a b : Int) : List Int := baseF r (both8 r a b (listT (anc r a)).length) (both8 r a b (listT (anc r a)).length).length
def base9 (r : RepoD) (a b : Int) : List FileD := match (bases8 r a b).getLast? with
  | none => []
  | some c => treeAt r c
def noR : RepoD := ⟨[], []⟩
def unite9 (r : RepoD) (n w : Str) (b : Int) : RepoD × Int :=
  if b ∈ listT (anc r (atL r.heads n)) then (r, 2)
  else if atL r.heads n ∈ listT (anc r b) then (⟨r.commits, hSet r.heads n b⟩, 3)
  else if (join6 (base9 r (atL r.heads n) b) (treeAt r (atL r.heads n)) (treeAt r b)).2 = [] then
    (if repoS (addR r n ⟨[atL r.heads n, b], w, (join6 (base9 r (atL r.heads n) b) (treeAt r (atL r.heads n)) (treeAt r b)).1⟩) then
      (addR r n ⟨[atL r.heads n, b], w, (join6 (base9 r (atL r.heads n) b) (treeAt r (atL r.heads n)) (treeAt r b)).1⟩, 0) else (r, 5))
  else (r, 4)
def uniteS (r : RepoD) (n w : Str) (b : Int) : RepoD × Int :=
  if repoS r then (if atL r.heads n < 0 ∨ nameB w = false ∨ ¬ (0 ≤ b ∧ b < r.commits.length) then (r, 1) else unite9 r n w b) else (noR, 1)
def ahead10 (r : RepoD) (c : Int) : List FileD := match (r.commits.getD c.toNat default).parents with
  | [] => []
  | p :: _ => treeAt r p
def put10 (r : RepoD) (n w : Str) (o b : List FileD) : RepoD × Int :=
  if (join6 o (treeAt r (atL r.heads n)) b).2 = [] then
    (if repoS (addR r n ⟨[atL r.heads n], w, (join6 o (treeAt r (atL r.heads n)) b).1⟩) then (addR r n ⟨[atL r.heads n], w, (join6 o (treeAt r (atL r.heads n)) b).1⟩, 0) else (r, 5))
  else (r, 4)
def pickS (back : Bool) (r : RepoD) (n w : Str) (c : Int) : RepoD × Int :=
  if repoS r then (if atL r.heads n < 0 ∨ nameB w = false ∨ ¬ (0 ≤ c ∧ c < r.commits.length) then (r, 1)
    else if back then put10 r n w (treeAt r c) (ahead10 r c) else put10 r n w (ahead10 r c) (treeAt r c)) else (noR, 1)

theorem heads_pw : ∀ {l : List HeadD}, (∀ i, 0 < i → i < l.length → Go.Op.bytesLess (l.getD (i - 1) default).name (l.getD i default).name = true) → l.Pairwise fun a b => Go.Op.bytesLess a.name b.name = true
  | [], _ => .nil
  | [x], _ => by simp
  | x :: y :: t, h => by
    have ih := heads_pw (l := y :: t) fun i h1 h2 => by
      have := h (i + 1) (by omega) (by simp only [List.length_cons] at h2 ⊢; omega)
      rw [show i + 1 - 1 = (i - 1) + 1 by omega, List.getD_cons_succ, List.getD_cons_succ] at this
      exact this
    have hxy := h 1 (by omega) (by simp)
    have hxy : Go.Op.bytesLess x.name y.name = true := by simpa using hxy
    refine List.pairwise_cons.2 ⟨fun z hz => ?_, ih⟩
    rcases List.mem_cons.1 hz with rfl | hz
    · exact hxy
    · exact less_trans hxy ((List.pairwise_cons.1 ih).1 z hz)
theorem hL_true (n : Str) (a : Int) : ∀ (l X : List HeadD), l.foldl (hStep n a) (X, true) = (X ++ l.filter (fun g => decide (g.name ≠ n)), true)
  | [], X => by simp
  | g :: l, X => by
    rw [List.foldl_cons]
    by_cases h : g.name = n
    · have e : hStep n a (X, true) g = (X, true) := by unfold hStep; simp -implicitDefEqProofs [h]
      rw [e, hL_true n a l X]; simp -implicitDefEqProofs [h]
    · have e : hStep n a (X, true) g = (X ++ [g], true) := by unfold hStep; simp -implicitDefEqProofs [h]
      rw [e, hL_true n a l (X ++ [g])]; simp -implicitDefEqProofs [h]
def hAt (n : Str) (a : Int) (h : HeadD) : HeadD := if h.name = n then ⟨n, a⟩ else h
theorem hL_sorted (n : Str) (a : Int) : ∀ (l X : List HeadD), (l.Pairwise fun a b => Go.Op.bytesLess a.name b.name = true) → (∃ h ∈ l, h.name = n) → l.foldl (hStep n a) (X, false) = (X ++ l.map (hAt n a), true)
  | [], X, _, h => by obtain ⟨_, h, _⟩ := h; simp at h
  | g :: l, X, hp, hn => by
    obtain ⟨hp1, hp2⟩ := List.pairwise_cons.1 hp
    rw [List.foldl_cons]
    by_cases h : g.name = n
    · have e : hStep n a (X, false) g = (X ++ [⟨n, a⟩], true) := by unfold hStep; simp -implicitDefEqProofs [h, less_irrefl]
      have hne : ∀ z ∈ l, ¬ z.name = n := fun z hz hc => by
        have := hp1 z hz
        rw [h, hc, less_irrefl] at this
        cases this
      have e2 : l.filter (fun g => decide (g.name ≠ n)) = l := by rw [List.filter_eq_self]; intro z hz; simp -implicitDefEqProofs [hne z hz]
      have e3 : l.map (hAt n a) = l := by
        have : l.map (hAt n a) = l.map id := List.map_congr_left fun z hz => by simp -implicitDefEqProofs [hAt, hne z hz]
        rw [this]; simp
      rw [e, hL_true, e2]; simp -implicitDefEqProofs [e3, hAt, h]
    · obtain ⟨z, hz, hzn⟩ := hn
      have hz : z ∈ l := by
        rcases List.mem_cons.1 hz with rfl | hz
        · exact absurd hzn h
        · exact hz
      have hl : Go.Op.bytesLess g.name n = true := by rw [← hzn]; exact hp1 z hz
      have e : hStep n a (X, false) g = (X ++ [g], false) := by unfold hStep; simp -implicitDefEqProofs [h, hl]
      rw [e, hL_sorted n a l (X ++ [g]) hp2 ⟨z, hz, hzn⟩]; simp -implicitDefEqProofs [hAt, h]
/-- A head set anew where there is one by that name. -/
theorem hSet_map {l : List HeadD} {n : Str} {a : Int} (hl : ∀ i, 0 < i → i < l.length → Go.Op.bytesLess (l.getD (i - 1) default).name (l.getD i default).name = true) (hn : ∃ h ∈ l, h.name = n) :
    hSet l n a = l.map (hAt n a) := by
  unfold hSet hL
  rw [hL_sorted n a l [] (heads_pw hl) hn]
  simp
theorem atL_mem {l : List HeadD} {n : Str} (h : 0 ≤ atL l n) : ∃ h ∈ l, h.name = n := by
  induction l with
  | nil => simp -implicitDefEqProofs [atL] at h
  | cons g l ih =>
    unfold atL at h
    split at h
    · rename_i e; exact ⟨g, by simp, e⟩
    · obtain ⟨x, h1, h2⟩ := ih h; exact ⟨x, by simp -implicitDefEqProofs [h1], h2⟩
theorem atL_le {l : List HeadD} {n : Str} {k : Nat} (hl : headsB k l = true) : atL l n < k ∧ -1 ≤ atL l n ∨ atL l n = -1 := by
  have h2 := ((headsB_iff _ _).1 hl).2
  have : ∀ (l' : List HeadD), (∀ h ∈ l', 0 ≤ h.at_ ∧ h.at_ < k) → atL l' n < k ∧ -1 ≤ atL l' n ∨ atL l' n = -1 := by
    intro l'
    induction l' with
    | nil => intro _; right; rfl
    | cons g l' ih =>
      intro h
      unfold atL
      split
      · left; have := h g (by simp); omega
      · exact ih fun x hx => h x (by simp -implicitDefEqProofs [hx])
  refine this l fun h hh => ?_
  obtain ⟨i, hi, rfl⟩ := List.getElem_of_mem hh
  have := h2 i hi
  simp only [okHd, inN, List.getD_eq_getElem?_getD, List.getElem?_eq_getElem hi, Option.getD_some, Bool.and_eq_true, decide_eq_true_eq] at this
  omega
theorem headsB_set {k : Nat} {l : List HeadD} {n : Str} {b : Int} (h : headsB k l = true) (hn : 0 ≤ atL l n) (hb : 0 ≤ b ∧ b < k) : headsB k (hSet l n b) = true := by
  obtain ⟨h1, h2⟩ := (headsB_iff _ _).1 h
  have hg : ∀ i (hi : i < l.length), l.getD i default = l[i] := fun i hi => by simp -implicitDefEqProofs [List.getD_eq_getElem?_getD, hi]
  rw [hSet_map (fun i h3 h4 => by
    have := h2 i h4
    unfold okHd at this
    simp only [Bool.and_eq_true, Bool.or_eq_true, decide_eq_true_eq] at this
    rcases this.2 with h5 | h5
    · omega
    · exact h5) (atL_mem hn), headsB_iff]
  have hm : ∀ i (hi : i < l.length), (l.map (hAt n b)).getD i default = hAt n b l[i] := fun i hi => by simp -implicitDefEqProofs [List.getD_eq_getElem?_getD, hi]
  have hname : ∀ g : HeadD, (hAt n b g).name = g.name := fun g => by unfold hAt; split <;> simp_all
  refine ⟨by simpa using h1, fun i hi => ?_⟩
  have hi : i < l.length := by simpa using hi
  have h3 := h2 i hi
  unfold okHd at h3 ⊢
  rw [hm i hi, hname]
  rw [hg i hi] at h3
  have hat : inN k (hAt n b l[i]).at_ = true := by
    simp only [Bool.and_eq_true] at h3
    unfold hAt
    split
    · simp only [inN, Bool.and_eq_true, decide_eq_true_eq]; omega
    · exact h3.1.2
  rw [hat]
  rcases Nat.eq_zero_or_pos i with h0 | h0
  · subst h0
    simp only [Bool.and_eq_true] at h3
    simp -implicitDefEqProofs [h3.1.1]
  · rw [hm (i - 1) (by omega), hname]
    rw [hg (i - 1) (by omega)] at h3
    simp only [Bool.and_eq_true] at h3 ⊢
    exact ⟨⟨h3.1.1, trivial⟩, h3.2⟩
theorem repoS_heads {r : RepoD} {n : Str} {b : Int} (h : repoS r = true) (hn : 0 ≤ atL r.heads n) (hb : 0 ≤ b ∧ b < r.commits.length) : repoS ⟨r.commits, hSet r.heads n b⟩ = true := by
  obtain ⟨h1, h2, h3⟩ := (repoS_iff r).1 h
  exact (repoS_iff _).2 ⟨h1, headsB_set h2 hn hb, h3⟩
theorem hSet_ne (l : List HeadD) (n : Str) (a : Int) : hSet l n a ≠ [] := by
  have : ∀ (l : List HeadD) (s : List HeadD × Bool), (s.2 = true → s.1 ≠ []) → ((l.foldl (hStep n a) s).2 = true → (l.foldl (hStep n a) s).1 ≠ []) := by
    intro l
    induction l with
    | nil => intro s h; exact h
    | cons g l ih =>
      intro s h
      refine ih (hStep n a s g) ?_
      unfold hStep
      split
      · split <;> simp
      · split
        · exact h
        · simp
  unfold hSet
  split
  · rename_i h; exact this l ([], false) (by simp) h
  · simp
theorem unite9_ok {r : RepoD} {n w : Str} {b : Int} (h : repoS r = true) (hn : 0 ≤ atL r.heads n) (hb : 0 ≤ b ∧ b < r.commits.length) (hh : r.commits ≠ [] → r.heads ≠ []) :
    repoS (unite9 r n w b).1 = true ∧ ((unite9 r n w b).1.commits ≠ [] → (unite9 r n w b).1.heads ≠ []) := by
  unfold unite9
  split
  · exact ⟨h, hh⟩
  · split
    · exact ⟨repoS_heads h hn hb, fun _ => hSet_ne _ _ _⟩
    · split
      · split
        · rename_i q; exact ⟨q, fun _ => hSet_ne _ _ _⟩
        · exact ⟨h, hh⟩
      · exact ⟨h, hh⟩
theorem uniteS_ok {r : RepoD} {n w : Str} {b : Int} (h : repoS r = true) (hh : r.commits ≠ [] → r.heads ≠ []) :
    repoS (uniteS r n w b).1 = true ∧ ((uniteS r n w b).1.commits ≠ [] → (uniteS r n w b).1.heads ≠ []) := by
  unfold uniteS
  rw [if_pos h]
  split
  · exact ⟨h, hh⟩
  · rename_i q
    exact unite9_ok h (by omega) (by omega) hh
theorem put10_ok {r : RepoD} {n w : Str} {o b : List FileD} (h : repoS r = true) (hh : r.commits ≠ [] → r.heads ≠ []) :
    repoS (put10 r n w o b).1 = true ∧ ((put10 r n w o b).1.commits ≠ [] → (put10 r n w o b).1.heads ≠ []) := by
  unfold put10
  split
  · split
    · rename_i q; exact ⟨q, fun _ => hSet_ne _ _ _⟩
    · exact ⟨h, hh⟩
  · exact ⟨h, hh⟩
theorem pickS_ok {k : Bool} {r : RepoD} {n w : Str} {c : Int} (h : repoS r = true) (hh : r.commits ≠ [] → r.heads ≠ []) :
    repoS (pickS k r n w c).1 = true ∧ ((pickS k r n w c).1.commits ≠ [] → (pickS k r n w c).1.heads ≠ []) := by
  unfold pickS
  rw [if_pos h]
  split
  · exact ⟨h, hh⟩
  · split
    · exact put10_ok h hh
    · exact put10_ok h hh

end Vx
end Go.Proofs.YtnanellmaelipaaGreatDoor
/-
  Contracts: trees made one (the reference's l6Same, l6One).
-/
namespace Go.Proofs.YtnanellmaelipaaGreatDoor
namespace Vx
open Go.RowKit
set_option maxRecDepth 8000

def cL6Same : Con := .fn 21 ((List Str × Bool) × (List Str × Bool)) (fun a => [.sl true 1 (eStrs a.1.1), .bool a.1.2, .sl true 1 (eStrs a.2.1), .bool a.2.2]) (fun _ => True) (fun a => .bool (same6 a.1 a.2)) (fun _ => [])
set_option maxHeartbeats 4000000 in
theorem l6Same_has : Has Tryz.prog 270 cL6Same := by
  refine has_walk mixed tTab_ok (l := [(236, cL1Same)]) (HasL.cons l1Same_has HasL.nil) [0, 1, 2, 3, 8] ((fun a n (_ : Nat) => (fun _ => noInv) a n)) [] Tryz.func270 (by kernel_rfl) (code := _) (by unfold Tryz.f270; rfl) (by kernel_rfl) (by decide) (fun _ => ⟨(), trivial⟩) (by intro h; first | exact fun _ => rfl | cases h) (by kernel_rfl) ?_
  intro a _
  obtain ⟨⟨x, i⟩, y, j⟩ := a
  simp -implicitDefEqProofs [cL6Same, cL1Same, Con.fn, tTab]
  try dsimp only
  cases i <;> cases j <;> simp -implicitDefEqProofs [same6, and_assoc]

theorem of3_bd (o a b : List Str) : (of3 o a b).length ≤ 2 * (o.length + 1) ∧ ∀ q ∈ of3 o a b, q.lines.length ≤ o.length + a.length + b.length + 3 := by
  obtain ⟨h1, h2, h3, h4, h5, h6, h7⟩ := ok3_run o a b (o.length + 1) (Nat.le_refl _)
  exact ⟨h6, fun q hq => by have := h7 q hq; omega⟩
def cL6One : Con := .fn 82 (List FileD × List FileD × List FileD × Str) (fun a => [.sl true 2 (eFiles a.1), .sl true 2 (eFiles a.2.1), .sl true 2 (eFiles a.2.2.1), .str a.2.2.2]) (fun a => (∀ f ∈ a.1, f.text.length ≤ 64) ∧ (∀ f ∈ a.2.1, f.text.length ≤ 64) ∧ ∀ f ∈ a.2.2.1, f.text.length ≤ 64) (fun a => .tup [.sl false 1 (eStrs (one6 a.1 a.2.1 a.2.2.1 a.2.2.2).1), .bool (one6 a.1 a.2.1 a.2.2.1 a.2.2.2).2.1, .int .i64 (one6 a.1 a.2.1 a.2.2.1 a.2.2.2).2.2]) (fun _ => [])
set_option maxHeartbeats 4000000 in
theorem l6One_has : Has Tryz.prog 239 cL6One := by
  refine has_walk mixed tTab_ok (l := [(160, cL4Get), (270, cL6Same), (272, cL3Of), (271, cL3Text)]) (HasL.cons l4Get_has (HasL.cons l6Same_has (HasL.cons l3Of_has (HasL.cons l3Text_has HasL.nil)))) [0, 1, 2, 3, 8, 9, 10, 11, 12, 13, 14, 15, 16, 17, 18, 37] ((fun a n (_ : Nat) => (fun _ => noInv) a n)) [] Tryz.func239 (by kernel_rfl) (code := _) (by unfold Tryz.f239; rfl) (by kernel_rfl) (by decide) (fun _ => ⟨(), trivial⟩) (by intro h; first | exact fun _ => rfl | cases h) (by kernel_rfl) ?_
  intro a ha
  obtain ⟨o, a, b, p⟩ := a
  obtain ⟨h1, h2, h3⟩ : (∀ f ∈ o, f.text.length ≤ 64) ∧ (∀ f ∈ a, f.text.length ≤ 64) ∧ ∀ f ∈ b, f.text.length ≤ 64 := ha
  have g1 := getL_len h1 p
  have g2 := getL_len h2 p
  have g3 := getL_len h3 p
  simp (maxSteps := 8000000) -implicitDefEqProofs [-kStep_move, -Bool.exists_bool, cL6One, cL4Get, cL6Same, cL3Of, cL3Text, Con.fn, tTab]
  try dsimp only
  have so : ∀ x y : List Str × Bool, same6 (x.1, x.2) (y.1, y.2) = same6 x y := fun _ _ => rfl
  have ob := of3_bd (getL o p).1 (getL a p).1 (getL b p).1
  generalize hO : getL o p = O at *
  generalize hA : getL a p = A at *
  generalize hB : getL b p = B at *
  have e1 : (same6 A O = true ∨ same6 A B = true) → one6 o a b p = (B.1, B.2, 0) := fun h => by unfold one6; rw [hO, hA, hB]; rw [if_pos (by simpa using h)]
  have e2 : same6 A O = false → same6 A B = false → same6 B O = true → one6 o a b p = (A.1, A.2, 0) := fun h h' h2 => by unfold one6; rw [hO, hA, hB]; rw [if_neg (by simp -implicitDefEqProofs [h, h']), if_pos h2]
  have e3 : same6 A O = false → same6 A B = false → same6 B O = false → (A.2 = false ∨ B.2 = false) → one6 o a b p = (O.1, O.2, 1) := fun h h' h2 h3 => by unfold one6; rw [hO, hA, hB]; rw [if_neg (by simp -implicitDefEqProofs [h, h']), if_neg (by simp -implicitDefEqProofs [h2]), if_pos (by simpa using h3)]
  have e4 : same6 A O = false → same6 A B = false → same6 B O = false → A.2 = true → B.2 = true → O.2 = false → one6 o a b p = ([], false, 2) := fun h h' h2 h3 h4 h5 => by unfold one6; rw [hO, hA, hB]; rw [if_neg (by simp -implicitDefEqProofs [h, h']), if_neg (by simp -implicitDefEqProofs [h2]), if_neg (by simp -implicitDefEqProofs [h3, h4]), if_pos (by simp -implicitDefEqProofs [h5])]
  have e5 : same6 A O = false → same6 A B = false → same6 B O = false → A.2 = true → B.2 = true → O.2 = true → (text3 (of3 O.1 A.1 B.1)).2 = true → one6 o a b p = ((text3 (of3 O.1 A.1 B.1)).1, true, 0) := fun h h' h2 h3 h4 h5 h6 => by unfold one6; rw [hO, hA, hB]; rw [if_neg (by simp -implicitDefEqProofs [h, h']), if_neg (by simp -implicitDefEqProofs [h2]), if_neg (by simp -implicitDefEqProofs [h3, h4]), if_neg (by simp -implicitDefEqProofs [h5]), if_pos h6]
  have e6 : same6 A O = false → same6 A B = false → same6 B O = false → A.2 = true → B.2 = true → O.2 = true → (text3 (of3 O.1 A.1 B.1)).2 = false → one6 o a b p = (O.1, true, 3) := fun h h' h2 h3 h4 h5 h6 => by unfold one6; rw [hO, hA, hB]; rw [if_neg (by simp -implicitDefEqProofs [h, h']), if_neg (by simp -implicitDefEqProofs [h2]), if_neg (by simp -implicitDefEqProofs [h3, h4]), if_neg (by simp -implicitDefEqProofs [h5]), if_neg (by simp -implicitDefEqProofs [h6])]
  refine ⟨o, p, ⟨rfl, rfl⟩, a, p, ⟨rfl, rfl⟩, b, p, ⟨rfl, rfl⟩, ?_⟩
  rw [hO, hA, hB]
  refine ⟨_, _, _, _, ⟨rfl, rfl, rfl, rfl⟩, fun h => ⟨fun _ => ?_, fun h' => absurd (h.symm.trans h') (by decide)⟩, fun h => ⟨_, _, _, _, ⟨rfl, rfl, rfl, rfl⟩, fun h2 => ?_, fun h2 => ⟨_, _, _, _, ⟨rfl, rfl, rfl, rfl⟩, fun h3 => ?_, fun h3 => ⟨fun h4 => ?_, fun h4 h5 => ⟨fun h6 => ?_, fun h6 => ⟨_, _, _, ⟨rfl, rfl, rfl⟩, ⟨by omega, by omega, by omega⟩, ⟨by omega, fun q hq => by have := ob.2 q hq; omega⟩, ?_⟩⟩⟩⟩⟩⟩
  · rw [e1 (.inl h)]; exact ⟨rfl, rfl, rfl⟩
  · rw [e1 (.inr h2)]; exact ⟨rfl, rfl, rfl⟩
  · rw [e2 h h2 h3]; exact ⟨rfl, rfl, rfl⟩
  · rw [e3 h h2 h3 h4]; exact ⟨rfl, rfl, rfl⟩
  · rw [e4 h h2 h3 h4 h5 h6]; exact ⟨rfl, rfl, rfl⟩
  · exact ⟨fun h7 => by rw [e6 h h2 h3 h4 h5 h6 h7]; exact ⟨rfl, rfl, rfl⟩, fun h7 => by rw [e5 h h2 h3 h4 h5 h6 h7]; exact ⟨rfl, rfl, rfl⟩⟩

end Vx
end Go.Proofs.YtnanellmaelipaaGreatDoor
/-
  Contracts: paths of trees, trees made one (the reference's l5Put, l6Paths, l6Of, l6Join).
-/
namespace Go.Proofs.YtnanellmaelipaaGreatDoor
namespace Vx
open Go.RowKit
set_option maxRecDepth 8000

def cL5Put : Con := .fn 48 (List Str × Str) (fun a => [.sl true 1 (eStrs a.1), .str a.2]) (fun a => a.1.length ≤ 1073741824) (fun a => .sl false 1 (eStrs (putS a.1 a.2))) (fun _ => [])
set_option maxHeartbeats 4000000 in
theorem l5Put_has : Has Tryz.prog 174 cL5Put := by
  refine has_walk mixed tTab_ok (l := []) HasL.nil [0, 1, 4, 5, 6] ((fun a n (_ : Nat) => (fun a _ => ⟨Nat, fun k => ⟨[(0, true, .sl true 1 (eStrs a.1)), (1, true, .str a.2), (4, true, .nil), (5, true, .int .i64 k)], []⟩, fun k => k ≤ a.1.length ∧ a.1.take k ++ putS (a.1.drop k) a.2 = putS a.1 a.2, fun k => a.1.length - k⟩) a n)) [] Tryz.func174 (by kernel_rfl) (code := _) (by unfold Tryz.f174; rfl) (by kernel_rfl) (by decide) (fun _ => ⟨(), trivial⟩) (by intro h; first | exact fun _ => rfl | cases h) (by kernel_rfl) ?_
  intro a ha
  obtain ⟨l, s⟩ := a
  replace ha : l.length ≤ 1073741824 := ha
  simp -implicitDefEqProofs [cL5Put, Con.fn, tTab]
  try dsimp only
  have f : ∀ (t : List Str), ∀ x ∈ eStrs t, ∀ d ∈ x, match d with | .sl _ _ _ => False | _ => True := fun t => (eStrs_flat t).mpr trivial
  have f1 : ∀ t, ∀ x ∈ List.take t (eStrs l), ∀ d ∈ x, match d with | .sl _ _ _ => False | _ => True := fun t => by rw [eStrs_take]; exact f _
  have f2 : ∀ t, ∀ x ∈ List.take (l.length - t) (List.drop t (eStrs l)), ∀ d ∈ x, match d with | .sl _ _ _ => False | _ => True := fun t => by rw [eStrs_drop, eStrs_take]; exact f _
  have fin : ∀ t, putS l s = l.take t ++ [s] ++ l.drop t → eStrs (putS l s) = List.take t (eStrs l) ++ [D.str s] :: List.take (l.length - t) (List.drop t (eStrs l)) := fun t h => by
    rw [h, eStrs_drop, eStrs_take, eStrs_take, List.take_of_length_le (show (l.drop t).length ≤ l.length - t by simp)]
    simp -implicitDefEqProofs [eStrs, eStr]
  refine fun t ht hp _ => ⟨fun hlt => ⟨hlt, fun _ => ?_⟩, fun hge _ => ⟨fun hlt => absurd hlt (by omega), fun _ => ⟨ht, fun _ => ⟨f1 t, ⟨by omega, by omega⟩, ⟨by omega, by omega⟩, ht, fun _ => ⟨f2 t, ⟨by omega, by omega⟩, fin t (putS_end hge hp)⟩⟩⟩⟩⟩
  have qq : Option.map eStr l[t]? = some (eStr l[t]) := by simp -implicitDefEqProofs [hlt]
  rw [qq]
  have g1 := putS_step hlt hp
  have g2 := putS_eq hlt hp
  have g3 := putS_ne hlt hp
  generalize l[t] = y at *
  simp -implicitDefEqProofs [eStr, D.asStr]
  refine ⟨fun h => ⟨⟨by omega, by omega⟩, fun _ _ => ⟨t + 1, by omega, ⟨by omega, g1 h⟩, by omega⟩⟩, fun h _ => ⟨fun _ => ⟨hlt, fun _ => ⟨fun e => g2 h e, fun e => ⟨ht, fun _ => ⟨f1 t, ⟨by omega, by omega⟩, ⟨by omega, by omega⟩, ht, fun _ => ⟨f2 t, ⟨by omega, by omega⟩, fin t (g3 h e)⟩⟩⟩⟩⟩, fun hge => absurd hlt (by omega)⟩⟩

def l6pI1 (o a b : List FileD) : Inv := ⟨Nat, fun i => ⟨[(0, true, .sl true 2 (eFiles o)), (1, true, .sl true 2 (eFiles a)), (2, true, .sl true 2 (eFiles b)), (6, true, .nil), (7, true, .sl false 1 (eStrs (putFs [] (o.take i)))), (8, true, .int .i64 i)], []⟩, fun i => i ≤ o.length, fun i => o.length - i⟩
def l6pI2 (o a b : List FileD) : Inv := ⟨Nat, fun i => ⟨[(0, true, .sl true 2 (eFiles o)), (1, true, .sl true 2 (eFiles a)), (2, true, .sl true 2 (eFiles b)), (6, true, .nil), (7, true, .sl false 1 (eStrs (putFs (putFs [] o) (a.take i)))), (9, true, .int .i64 i)], []⟩, fun i => i ≤ a.length, fun i => a.length - i⟩
def l6pI3 (o a b : List FileD) : Inv := ⟨Nat, fun i => ⟨[(0, true, .sl true 2 (eFiles o)), (1, true, .sl true 2 (eFiles a)), (2, true, .sl true 2 (eFiles b)), (6, true, .nil), (7, true, .sl false 1 (eStrs (putFs (putFs (putFs [] o) a) (b.take i)))), (10, true, .int .i64 i)], []⟩, fun i => i ≤ b.length, fun i => b.length - i⟩
def l6pInv (o a b : List FileD) (n : Nat) : Inv := if n = 3 then l6pI1 o a b else if n = 7 then l6pI2 o a b else l6pI3 o a b
theorem l6pInv_3 (o a b : List FileD) : l6pInv o a b 3 = l6pI1 o a b := rfl
theorem l6pInv_7 (o a b : List FileD) : l6pInv o a b 7 = l6pI2 o a b := rfl
theorem l6pInv_11 (o a b : List FileD) : l6pInv o a b 11 = l6pI3 o a b := rfl
def cL6Paths : Con := .fn 52 (List FileD × List FileD × List FileD) (fun a => [.sl true 2 (eFiles a.1), .sl true 2 (eFiles a.2.1), .sl true 2 (eFiles a.2.2)]) (fun a => a.1.length ≤ 1048576 ∧ a.2.1.length ≤ 1048576 ∧ a.2.2.length ≤ 1048576) (fun a => .sl false 1 (eStrs (paths6 a.1 a.2.1 a.2.2))) (fun _ => [])
set_option maxHeartbeats 4000000 in
theorem l6Paths_has : Has Tryz.prog 159 cL6Paths := by
  refine has_walk mixed tTab_ok (l := [(174, cL5Put)]) (HasL.cons l5Put_has HasL.nil) [0, 1, 2, 6, 7, 8, 9, 10] ((fun a n (_ : Nat) => (fun a n => l6pInv a.1 a.2.1 a.2.2 n) a n)) [] Tryz.func159 (by kernel_rfl) (code := _) (by unfold Tryz.f159; rfl) (by kernel_rfl) (by decide) (fun _ => ⟨(), trivial⟩) (by intro h; first | exact fun _ => rfl | cases h) (by kernel_rfl) ?_
  intro a ha
  obtain ⟨o, a, b⟩ := a
  obtain ⟨h1, h2, h3⟩ : o.length ≤ 1048576 ∧ a.length ≤ 1048576 ∧ b.length ≤ 1048576 := ha
  simp -implicitDefEqProofs [cL6Paths, cL5Put, Con.fn, tTab, l6pInv_3, l6pInv_7, l6pInv_11, l6pI1, l6pI2, l6pI3]
  try dsimp only
  have b1 := putFs_len o []
  have b2 := putFs_len a (putFs [] o)
  simp only [List.length_nil] at b1
  have z : ([] : List Str).length = 0 := rfl
  refine ⟨⟨0, ⟨rfl, rfl⟩, Nat.zero_le _⟩, fun t ht _ => ⟨fun hlt => ⟨hlt, fun _ => ?_⟩, fun hge => ⟨⟨0, ⟨by rw [List.take_of_length_le hge]; rfl, rfl⟩, Nat.zero_le _⟩, fun u hu _ => ⟨fun hlt => ⟨hlt, fun _ => ?_⟩, fun hge => ⟨⟨0, ⟨by rw [List.take_of_length_le hge]; rfl, rfl⟩, Nat.zero_le _⟩, fun v hv _ => ⟨fun hlt => ⟨hlt, fun _ => ?_⟩, fun hge => by rw [List.take_of_length_le hge]; rfl⟩⟩⟩⟩⟩⟩
  · have hb := putFs_len (o.take t) ([])
    have hl : (o.take t).length ≤ o.length := by simp; omega
    have qq : Option.map eFile o[t]? = some (eFile o[t]) := by simp -implicitDefEqProofs [hlt]
    have hs := putFs_succ (l := []) hlt
    rw [qq]
    simp -implicitDefEqProofs [eFile, D.asStr]
    exact ⟨_, _, ⟨rfl, rfl⟩, by omega, ⟨by omega, by omega⟩, fun _ _ => ⟨t + 1, ⟨hs, by omega⟩, by omega, by omega⟩⟩
  · have hb := putFs_len (a.take u) (putFs [] o)
    have hl : (a.take u).length ≤ a.length := by simp; omega
    have qq : Option.map eFile a[u]? = some (eFile a[u]) := by simp -implicitDefEqProofs [hlt]
    have hs := putFs_succ (l := putFs [] o) hlt
    rw [qq]
    simp -implicitDefEqProofs [eFile, D.asStr]
    exact ⟨_, _, ⟨rfl, rfl⟩, by omega, ⟨by omega, by omega⟩, fun _ _ => ⟨u + 1, ⟨hs, by omega⟩, by omega, by omega⟩⟩
  · have hb := putFs_len (b.take v) (putFs (putFs [] o) a)
    have hl : (b.take v).length ≤ b.length := by simp; omega
    have qq : Option.map eFile b[v]? = some (eFile b[v]) := by simp -implicitDefEqProofs [hlt]
    have hs := putFs_succ (l := putFs (putFs [] o) a) hlt
    rw [qq]
    simp -implicitDefEqProofs [eFile, D.asStr]
    exact ⟨_, _, ⟨rfl, rfl⟩, by omega, ⟨by omega, by omega⟩, fun _ _ => ⟨v + 1, ⟨hs, by omega⟩, by omega, by omega⟩⟩

abbrev ownClash (h : Nat) (a : List HeadD) : List (Nat × Blk) := [(h, .own 211 2 true (eHeads a))]
def l6oI (o a b : List FileD) : Inv := ⟨Nat, fun i => ⟨[(0, true, .sl true 2 (eFiles o)), (1, true, .sl true 2 (eFiles a)), (2, true, .sl true 2 (eFiles b)), (6, true, .nil), (7, true, .nil), (8, true, .own 9 2 (eFiles (runJ o a b ((paths6 o a b).take i)).1)), (9, true, .own 10 2 (eHeads (runJ o a b ((paths6 o a b).take i)).2)), (10, true, .sl false 1 (eStrs (paths6 o a b))), (11, true, .int .i64 i)], [(9, .own 61 2 true (eFiles (runJ o a b ((paths6 o a b).take i)).1)), (10, .own 211 2 true (eHeads (runJ o a b ((paths6 o a b).take i)).2))]⟩, fun i => i ≤ (paths6 o a b).length, fun i => (paths6 o a b).length - i⟩
def szT (t : List FileD) : Prop := t.length ≤ 100000 ∧ ∀ f ∈ t, f.text.length ≤ 64
def cL6Of : Con := .fn 64 (List FileD × List FileD × List FileD) (fun a => [.sl true 2 (eFiles a.1), .sl true 2 (eFiles a.2.1), .sl true 2 (eFiles a.2.2)]) (fun a => szT a.1 ∧ szT a.2.1 ∧ szT a.2.2) (fun a => .tup [.own 8 2 (eFiles (of6 a.1 a.2.1 a.2.2).1), .own 9 2 (eHeads (of6 a.1 a.2.1 a.2.2).2)]) (fun a => ownFiles 8 (of6 a.1 a.2.1 a.2.2).1 ++ ownClash 9 (of6 a.1 a.2.1 a.2.2).2)
set_option maxHeartbeats 4000000 in
theorem l6Of_has : Has Tryz.prog 210 cL6Of := by
  refine has_walk mixed tTab_ok (l := [(159, cL6Paths), (239, cL6One)]) (HasL.cons l6Paths_has (HasL.cons l6One_has HasL.nil)) [0, 1, 2, 6, 7, 8, 9, 10, 11, 12, 13, 14] ((fun a n (_ : Nat) => (fun a _ => l6oI a.1 a.2.1 a.2.2) a n)) [60] Tryz.func210 (by kernel_rfl) (code := _) (by unfold Tryz.f210; rfl) (by kernel_rfl) (by decide) (fun _ => ⟨(), trivial⟩) (by intro h; first | exact fun _ => rfl | cases h) (by kernel_rfl) ?_
  intro a ha
  obtain ⟨o, a, b⟩ := a
  obtain ⟨⟨h1, h1'⟩, ⟨h2, h2'⟩, h3, h3'⟩ : szT o ∧ szT a ∧ szT b := ha
  simp -implicitDefEqProofs [cL6Of, cL6Paths, cL6One, Con.fn, tTab, l6oI]
  try dsimp only
  have hp := paths6_len o a b
  refine ⟨o, a, b, ⟨rfl, rfl, rfl⟩, ⟨by omega, by omega, by omega⟩, ⟨0, ⟨⟨rfl, rfl, rfl, rfl⟩, rfl, rfl⟩, Nat.zero_le _⟩, fun t ht _ => ⟨fun hlt => ⟨hlt, fun _ => ?_⟩, fun hge => ?_⟩⟩
  · have qq : Option.map eStr (paths6 o a b)[t]? = some (eStr (paths6 o a b)[t]) := by simp -implicitDefEqProofs [hlt]
    have hs := runJ_succ (o := o) (a := a) (b := b) hlt
    have hb := runJ_len o a b ((paths6 o a b).take t)
    have hl : ((paths6 o a b).take t).length ≤ (paths6 o a b).length := by simp; omega
    have ho := one6_len (p := (paths6 o a b)[t]) (show 10 ≤ 64 by omega) h1' h2' h3'
    rw [qq]
    generalize runJ o a b ((paths6 o a b).take t) = R at *
    generalize (paths6 o a b)[t] = y at *
    obtain ⟨X, Y⟩ := R
    simp only at hb
    simp -implicitDefEqProofs [eStr, D.asStr]
    refine ⟨o, a, b, y, ⟨rfl, rfl, rfl, rfl⟩, ⟨h1', h2', h3'⟩, ?_⟩
    generalize hone : one6 o a b y = O at *
    obtain ⟨x1, x2, x3⟩ := O
    have f : ∀ (t : List Str), ∀ x ∈ eStrs t, ∀ d ∈ x, match d with | .sl _ _ _ => False | _ => True := fun t => (eStrs_flat t).mpr trivial
    have st : runJ o a b ((paths6 o a b).take (t + 1)) = (if x2 = true then X ++ [⟨y, x1⟩] else X, if 0 < x3 then Y ++ [⟨y, x3⟩] else Y) := by rw [hs]; unfold stepJ; rw [hone]
    have snF : eFiles X ++ [[D.str y, D.sl 9 1 (eStrs x1)]] = eFiles (X ++ [⟨y, x1⟩]) := eFiles_snoc _ _ _
    have snH : eHeads Y ++ [[D.str y, D.int .i64 x3]] = eHeads (Y ++ [⟨y, x3⟩]) := eHeads_snoc _ _ _
    dsimp only at ho ⊢
    rw [snF, snH]
    refine ⟨fun h3 => ⟨hlt, fun _ => ⟨⟨by omega, by omega⟩, fun h2 => ⟨hlt, fun _ => ⟨f x1, ⟨by omega, by omega⟩, ⟨by omega, by omega⟩, ⟨by omega, by omega⟩, fun _ _ => ⟨t + 1, ?_⟩⟩⟩, fun h2 => ⟨⟨by omega, by omega⟩, fun _ _ => ⟨t + 1, ?_⟩⟩⟩⟩, fun h3 => ⟨fun h2 => ⟨hlt, fun _ => ⟨f x1, ⟨by omega, by omega⟩, ⟨by omega, by omega⟩, ⟨by omega, by omega⟩, fun _ _ => ⟨t + 1, ?_⟩⟩⟩, fun h2 => ⟨⟨by omega, by omega⟩, fun _ _ => ⟨t + 1, ?_⟩⟩⟩⟩
    · rw [st, if_pos h2, if_pos h3]; exact ⟨⟨⟨rfl, rfl, by omega⟩, rfl, rfl⟩, by omega, by omega⟩
    · rw [st, if_neg (by simp -implicitDefEqProofs [h2]), if_pos h3]; exact ⟨⟨⟨rfl, rfl, by omega⟩, rfl, rfl⟩, by omega, by omega⟩
    · rw [st, if_pos h2, if_neg (by omega)]; exact ⟨⟨⟨rfl, rfl, by omega⟩, rfl, rfl⟩, by omega, by omega⟩
    · rw [st, if_neg (by simp -implicitDefEqProofs [h2]), if_neg (by omega)]; exact ⟨⟨⟨rfl, rfl, by omega⟩, rfl, rfl⟩, by omega, by omega⟩
  · have e : (paths6 o a b).take t = paths6 o a b := List.take_of_length_le hge
    rw [e]; exact ⟨⟨rfl, rfl⟩, rfl, rfl⟩

def cL6Join : Con := .fn 31 (List FileD × List FileD × List FileD) (fun a => [.sl true 2 (eFiles a.1), .sl true 2 (eFiles a.2.1), .sl true 2 (eFiles a.2.2)]) (fun a => szT a.1 ∧ szT a.2.1 ∧ szT a.2.2) (fun a => .tup [.sl false 2 (eFiles (join6 a.1 a.2.1 a.2.2).1), .sl false 2 (eHeads (join6 a.1 a.2.1 a.2.2).2)]) (fun _ => [])
set_option maxHeartbeats 4000000 in
theorem l6Join_has : Has Tryz.prog 180 cL6Join := by
  refine has_walk mixed tTab_ok (l := [(210, cL6Of), (110, cL4Ok), (209, cL4Copy)]) (HasL.cons l6Of_has (HasL.cons l4Ok_has (HasL.cons l4Copy_has HasL.nil))) [0, 1, 2, 6, 7, 8, 9] ((fun a n (_ : Nat) => (fun _ => noInv) a n)) [] Tryz.func180 (by kernel_rfl) (code := _) (by unfold Tryz.f180; rfl) (by kernel_rfl) (by decide) (fun _ => ⟨(), trivial⟩) (by intro h; first | exact fun _ => rfl | cases h) (by kernel_rfl) ?_
  intro a ha
  obtain ⟨o, a, b⟩ := a
  obtain ⟨h1, h2, h3⟩ : szT o ∧ szT a ∧ szT b := ha
  simp -implicitDefEqProofs [cL6Join, cL6Of, cL4Ok, cL4Copy, Con.fn, tTab]
  try dsimp only
  have e1 : (of6 o a b).2 = [] → treeS (of6 o a b).1 = false → join6 o a b = (o, [⟨[], 4⟩]) := fun h h' => by unfold join6; rw [if_pos ⟨h, h'⟩]
  have e2 : (of6 o a b).2 = [] → treeS (of6 o a b).1 = true → join6 o a b = of6 o a b := fun h h' => by unfold join6; rw [if_neg (by simp -implicitDefEqProofs [h'])]
  have e3 : ¬ (of6 o a b).2 = [] → join6 o a b = of6 o a b := fun h => by unfold join6; rw [if_neg (by simp -implicitDefEqProofs [h])]
  refine ⟨o, a, b, ⟨rfl, rfl, rfl⟩, ⟨h1, h2, h3⟩, fun _ => ⟨fun h => ⟨fun h' => ⟨⟨by have := h1.1; omega, fun f hf => by have := h1.2 f hf; omega⟩, ?_⟩, fun h' => ?_⟩, fun h => ?_⟩⟩
  · rw [e1 h h']; exact ⟨rfl, rfl⟩
  · rw [e2 h h']; exact ⟨rfl, rfl⟩
  · rw [e3 h]; exact ⟨rfl, rfl⟩

end Vx
end Go.Proofs.YtnanellmaelipaaGreatDoor
/-
  Operations (impl.Op): data, models, plain lemmas.
-/
namespace Go.Proofs.YtnanellmaelipaaGreatDoor
namespace Vx
open Go.RowKit
set_option maxRecDepth 8000

structure OpD where
  kind : Int
  branch : Str
  who : Str
  path : Str
  to_ : Str
  at_ : Int
  text : List Str
  deriving DecidableEq, Inhabited

def eOp (a : OpD) : List D := [.int .i64 a.kind, .str a.branch, .str a.who, .str a.path, .str a.to_, .int .i64 a.at_, .sl 9 1 (eStrs a.text)]
@[simp] theorem eOp_inj (a b : OpD) : (eOp a = eOp b) = (a = b) := by
  cases a; cases b; simp -implicitDefEqProofs [eOp]
@[simp] theorem OpD.eta (a : OpD) : (⟨a.kind, a.branch, a.who, a.path, a.to_, a.at_, a.text⟩ : OpD) = a := rfl
theorem OpD.eq_iff (a b : OpD) : (a = b) = (a.kind = b.kind ∧ a.branch = b.branch ∧ a.who = b.who ∧ a.path = b.path ∧ a.to_ = b.to_ ∧ a.at_ = b.at_ ∧ a.text = b.text) := by
  cases a; cases b; simp
@[simp] theorem OpD.ex1 (x_kind : Int) (x_branch : Str) (x_who : Str) (x_path : Str) (x_to_ : Str) (x_at_ : Int) (x_text : List Str) (Q : OpD → Prop) : (∃ a : OpD, a.kind = x_kind ∧ a.branch = x_branch ∧ a.who = x_who ∧ a.path = x_path ∧ a.to_ = x_to_ ∧ a.at_ = x_at_ ∧ a.text = x_text ∧ Q a) = Q ⟨x_kind, x_branch, x_who, x_path, x_to_, x_at_, x_text⟩ := by
  apply propext
  constructor
  · rintro ⟨⟨_, _, _, _, _, _, _⟩, rfl, rfl, rfl, rfl, rfl, rfl, rfl, h⟩; exact h
  · intro h; exact ⟨⟨x_kind, x_branch, x_who, x_path, x_to_, x_at_, x_text⟩, rfl, rfl, rfl, rfl, rfl, rfl, rfl, h⟩
@[simp] theorem OpD.ex2 (x_kind : Int) (x_branch : Str) (x_who : Str) (x_path : Str) (x_to_ : Str) (x_at_ : Int) (x_text : List Str) (Q : OpD → Prop) : (∃ a : OpD, (a.kind = x_kind ∧ a.branch = x_branch ∧ a.who = x_who ∧ a.path = x_path ∧ a.to_ = x_to_ ∧ a.at_ = x_at_ ∧ a.text = x_text) ∧ Q a) = Q ⟨x_kind, x_branch, x_who, x_path, x_to_, x_at_, x_text⟩ := by
  apply propext
  constructor
  · rintro ⟨⟨_, _, _, _, _, _, _⟩, ⟨rfl, rfl, rfl, rfl, rfl, rfl, rfl⟩, h⟩; exact h
  · intro h; exact ⟨⟨x_kind, x_branch, x_who, x_path, x_to_, x_at_, x_text⟩, ⟨rfl, rfl, rfl, rfl, rfl, rfl, rfl⟩, h⟩
@[simp] theorem OpD.ex0 (x_kind : Int) (x_branch : Str) (x_who : Str) (x_path : Str) (x_to_ : Str) (x_at_ : Int) (x_text : List Str) : (∃ a : OpD, a.kind = x_kind ∧ a.branch = x_branch ∧ a.who = x_who ∧ a.path = x_path ∧ a.to_ = x_to_ ∧ a.at_ = x_at_ ∧ a.text = x_text) = True := by
  simp only [eq_iff_iff, iff_true]
  exact ⟨⟨x_kind, x_branch, x_who, x_path, x_to_, x_at_, x_text⟩, rfl, rfl, rfl, rfl, rfl, rfl, rfl⟩
def eOps (l : List OpD) : List (List D) := l.map eOp
@[simp] theorem eOps_length (l : List OpD) : (eOps l).length = l.length := by simp -implicitDefEqProofs [eOps]
@[simp] theorem eOps_nil : eOps [] = [] := rfl
@[simp] theorem eOps_get (l : List OpD) (i : Nat) : (eOps l)[i]? = l[i]?.map eOp := by simp -implicitDefEqProofs [eOps]
@[simp] theorem eOps_getElem (l : List OpD) (i : Nat) (h : i < (eOps l).length) : (eOps l)[i] = eOp (l[i]'(by simpa using h)) := by simp -implicitDefEqProofs [eOps]
@[simp] theorem eOps_inj (a b : List OpD) : (eOps a = eOps b) = (a = b) := by
  apply propext
  constructor
  · intro h
    exact List.map_inj_right (fun x y h => by simpa using h) |>.1 h
  · rintro rfl; rfl
@[simp] theorem eOps_eq_nil (a : List OpD) : (eOps a = []) = (a = []) := by simp -implicitDefEqProofs [eOps]
@[simp] theorem nil_eq_eOps (a : List OpD) : ([] = eOps a) = (a = []) := by simp -implicitDefEqProofs [eOps, eq_comm]
theorem eOps_append (a b : List OpD) : eOps (a ++ b) = eOps a ++ eOps b := by simp -implicitDefEqProofs [eOps]
theorem eOps_take (l : List OpD) (i : Nat) : (eOps l).take i = eOps (l.take i) := by simp -implicitDefEqProofs [eOps]
theorem eOps_drop (l : List OpD) (i : Nat) : (eOps l).drop i = eOps (l.drop i) := by simp -implicitDefEqProofs [eOps]
theorem eOps_snoc (a : List OpD) (k : Int) (b w p t : Str) (i : Int) (x : List Str) : eOps a ++ [[.int .i64 k, .str b, .str w, .str p, .str t, .int .i64 i, .sl 9 1 (eStrs x)]] = eOps (a ++ [⟨k, b, w, p, t, i, x⟩]) := by simp -implicitDefEqProofs [eOps, eOp]

abbrev vOp (o : OpD) : AV := .agg [.int .i64 o.kind, .str o.branch, .str o.who, .str o.path, .str o.to_, .int .i64 o.at_, .sl true 1 (eStrs o.text)]
def bOp (o : OpD) : Blk := .box 219 [.int .i64 o.kind, .str o.branch, .str o.who, .str o.path, .str o.to_, .int .i64 o.at_, .sl true 1 (eStrs o.text)]

def opBare (o : OpD) (p t a x : Bool) : Bool := (p || decide (o.path = [])) && (t || decide (o.to_ = [])) && (a || decide (o.at_ = 0)) && (x || decide (o.text = []))
def barB (s : Str) : Bool := s.all fun b => decide (b ≠ 124)
def lines19 (t : List Str) : Bool := t.all barB && textB t
def opB (o : OpD) : Bool := (nameB o.branch && nameB o.who) &&
  (if o.kind = 1 then opBare o true false false true && pathS o.path && lines19 o.text
  else if o.kind = 2 then opBare o true false false false && pathS o.path
  else if o.kind = 3 then opBare o true true false false && pathS o.path && pathS o.to_
  else if o.kind = 4 ∨ o.kind = 5 then opBare o false true false false && nameB o.to_
  else if o.kind = 6 ∨ o.kind = 7 then opBare o false false true false && (decide (0 ≤ o.at_) && decide (o.at_ ≤ 15))
  else false)
def tree19 (r : RepoD) (o : OpD) (x : List FileD × Bool) : RepoD × Int := if x.2 then (if (repoCommitS r o.branch o.who x.1).2 then ((repoCommitS r o.branch o.who x.1).1, 0) else (r, 5)) else (r, 1)
def treeOf (r : RepoD) (n : Str) : List FileD := if 0 ≤ atL r.heads n then treeAt r (atL r.heads n) else []
def do19 (r : RepoD) (o : OpD) : RepoD × Int :=
  if o.kind = 1 then tree19 r o (treeSetS (treeOf r o.branch) ⟨o.path, o.text⟩)
  else if o.kind = 2 then tree19 r o (treeDropS (treeOf r o.branch) o.path)
  else if o.kind = 3 then tree19 r o (treeMoveS (treeOf r o.branch) o.path o.to_)
  else if o.kind = 4 then (if (repoBranchS r o.to_ (atL r.heads o.branch)).2 then ((repoBranchS r o.to_ (atL r.heads o.branch)).1, 0) else (r, 1))
  else if o.kind = 5 then uniteS r o.branch o.who (atL r.heads o.to_)
  else if o.kind = 6 then pickS false r o.branch o.who o.at_
  else pickS true r o.branch o.who o.at_
def playF (l : List OpD) : RepoD := l.foldl (fun r o => if opB o then (do19 r o).1 else r) noR
theorem playF_succ {l : List OpD} {i : Nat} (h : i < l.length) : playF (l.take (i + 1)) = if opB l[i] then (do19 (playF (l.take i)) l[i]).1 else playF (l.take i) := by
  unfold playF
  rw [take_succ' h, List.foldl_append]; rfl
def playS (l : List OpD) : RepoD := playF (l.take 30)
def repoDoS (r : RepoD) (o : OpD) : RepoD × Int := if repoS r then (if opB o then do19 r o else (r, 1)) else (noR, 1)
/-- What holds of a repository that was played. -/
def plR (r : RepoD) : Prop := repoS r = true ∧ (r.commits ≠ [] → r.heads ≠ [])
theorem plR_no : plR noR := ⟨rfl, fun h => absurd rfl h⟩
theorem repoCommitS_ok {r : RepoD} {n w : Str} {t : List FileD} (h : (repoCommitS r n w t).2 = true) : plR (repoCommitS r n w t).1 := by
  unfold repoCommitS at h ⊢
  split
  · rename_i h1
    rw [if_pos h1] at h
    split
    · rename_i h2; exact ⟨h2, fun _ => hSet_ne _ _ _⟩
    · rename_i h2; rw [if_neg h2] at h; cases h
  · rename_i h1; rw [if_neg h1] at h; cases h
theorem repoBranchS_ok {r : RepoD} {n : Str} {a : Int} (h : (repoBranchS r n a).2 = true) : plR (repoBranchS r n a).1 := by
  unfold repoBranchS at h ⊢
  split
  · rename_i h1
    rw [if_pos h1] at h
    split
    · rename_i h2; rw [if_pos h2] at h; cases h
    · rename_i h2
      have : repoS ⟨r.commits, hSet r.heads n a⟩ = true := by
        cases q : repoS ⟨r.commits, hSet r.heads n a⟩ with
        | true => rfl
        | false => exact absurd (.inr q) h2
      exact ⟨this, fun _ => hSet_ne _ _ _⟩
  · rename_i h1; rw [if_neg h1] at h; cases h
theorem tree19_ok {r : RepoD} {o : OpD} {x : List FileD × Bool} (h : plR r) : plR (tree19 r o x).1 := by
  unfold tree19
  split
  · split
    · rename_i q; exact repoCommitS_ok q
    · exact h
  · exact h
theorem do19_ok {r : RepoD} {o : OpD} (h : plR r) : plR (do19 r o).1 := by
  unfold do19
  repeat' split
  · exact tree19_ok h
  · exact tree19_ok h
  · exact tree19_ok h
  · rename_i q; exact repoBranchS_ok q
  · exact h
  · exact uniteS_ok h.1 h.2
  · exact pickS_ok h.1 h.2
  · exact pickS_ok h.1 h.2
theorem playF_ok (l : List OpD) : plR (playF l) := by
  have : ∀ (l : List OpD) (r : RepoD), plR r → plR (l.foldl (fun r o => if opB o then (do19 r o).1 else r) r) := by
    intro l
    induction l with
    | nil => intro r h; exact h
    | cons o l ih =>
      intro r h
      refine ih _ ?_
      show plR (if opB o = true then _ else _)
      split
      · exact do19_ok h
      · exact h
  exact this l noR plR_no

end Vx
end Go.Proofs.YtnanellmaelipaaGreatDoor
/-
  Contracts: operations looked at (the reference's l19Bare, l19Lines, l19Ok).
-/
namespace Go.Proofs.YtnanellmaelipaaGreatDoor
namespace Vx
open Go.RowKit
set_option maxRecDepth 8000

def cL19Bare : Con := .fn 42 (OpD × Bool × Bool × Bool × Bool) (fun a => [vOp a.1, .bool a.2.1, .bool a.2.2.1, .bool a.2.2.2.1, .bool a.2.2.2.2]) (fun a => a.1.text.length ≤ 1048576) (fun a => .bool (opBare a.1 a.2.1 a.2.2.1 a.2.2.2.1 a.2.2.2.2)) (fun _ => [])
set_option maxHeartbeats 4000000 in
theorem l19Bare_has : Has Tryz.prog 245 cL19Bare := by
  refine has_walk mixed tTab_ok (l := []) HasL.nil [0, 1, 2, 3, 4, 5, 10] ((fun a n (_ : Nat) => (fun _ => noInv) a n)) [] Tryz.func245 (by kernel_rfl) (code := _) (by unfold Tryz.f245; rfl) (by kernel_rfl) (by decide) (fun _ => ⟨(), trivial⟩) (by intro h; first | exact fun _ => rfl | cases h) (by kernel_rfl) ?_
  intro a ha
  obtain ⟨o, p, t, a, x⟩ := a
  replace ha : o.text.length ≤ 1048576 := ha
  simp (maxSteps := 8000000) -implicitDefEqProofs [-kStep_move, -Bool.exists_bool, cL19Bare, Con.fn, tTab]
  unfold opBare
  by_cases h1 : o.path = [] <;> by_cases h2 : o.to_ = [] <;> by_cases h3 : o.at_ = 0 <;> by_cases h4 : o.text = [] <;> simp -implicitDefEqProofs [h1, h2, h3, h4] <;> cases p <;> cases t <;> cases a <;> cases x <;> simp -implicitDefEqProofs <;> omega

def l19O (t : List Str) : Inv := ⟨Nat, fun i => ⟨[(0, true, .sl true 1 (eStrs t)), (2, true, .bool false), (3, true, .int .i64 i)], []⟩, fun i => i ≤ t.length ∧ (t.take i).all barB = true, fun i => t.length - i⟩
def l19I (t : List Str) (g : Nat) : Inv := ⟨Nat, fun k => ⟨[(0, true, .sl true 1 (eStrs t)), (2, true, .bool false), (3, true, .int .i64 g), (4, true, .int .i64 k)], []⟩, fun k => g < t.length ∧ (t.take g).all barB = true ∧ k ≤ (t.getD g []).length ∧ ((t.getD g []).take k).all (fun b => decide (b ≠ 124)) = true, fun k => (t.getD g []).length - k⟩
def l19Inv (t : List Str) (n g : Nat) : Inv := if n = 2 then l19O t else l19I t g
theorem l19Inv_2 (t g) : l19Inv t 2 g = l19O t := rfl
theorem l19Inv_5 (t g) : l19Inv t 5 g = l19I t g := rfl
def cL19Lines : Con := .fn 29 (List Str) (fun t => [.sl true 1 (eStrs t)]) (fun _ => True) (fun t => .bool (lines19 t)) (fun _ => [])
set_option maxHeartbeats 4000000 in
theorem l19Lines_has : Has Tryz.prog 246 cL19Lines := by
  refine has_walk mixed tTab_ok (l := [(165, cL1Ok)]) (HasL.cons l1Ok_has HasL.nil) [0, 2, 3, 4] (fun t => l19Inv t) [] Tryz.func246 (by kernel_rfl) (code := _) (by unfold Tryz.f246; rfl) (by kernel_rfl) (by decide) (fun _ => ⟨(), trivial⟩) (by intro h; first | exact fun _ => rfl | cases h) (by kernel_rfl) ?_
  intro (t : List Str) _
  simp -implicitDefEqProofs [cL19Lines, cL1Ok, Con.fn, tTab, l19Inv_2, l19Inv_5, l19O, l19I]
  try dsimp only
  have e0 : ∀ i (h : i < t.length), ¬ barB t[i] = true → lines19 t = false := fun i h hb => by
    unfold lines19
    rw [Bool.and_eq_false_iff]; left
    rw [List.all_eq_false]
    exact ⟨_, List.getElem_mem h, hb⟩
  refine fun i hi hp _ => ⟨fun hlt => ⟨i, ⟨0, ⟨rfl, rfl⟩, hlt, hp, Nat.zero_le _, by simp⟩, fun k _ _ hk hq => ?_⟩, fun hge => ?_⟩
  · have e1 := e0 i hlt
    have e2 : t[i]?.getD [] = t[i] := by simp -implicitDefEqProofs [hlt]
    have qq : Option.map eStr t[i]? = some (eStr t[i]) := by simp -implicitDefEqProofs [hlt]
    have e3 : (t.take (i + 1)).all barB = ((t.take i).all barB && barB t[i]) := all_take hlt
    rw [e2] at hk hq ⊢
    rw [qq]
    generalize t[i] = s at *
    simp -implicitDefEqProofs [eStr, D.asStr]
    have hex : ∀ h : k < List.length s, s[k]?.getD 0 = s[k] := fun h => by simp -implicitDefEqProofs [h]
    refine ⟨hlt, fun _ _ => ⟨fun hl => ⟨hlt, fun _ => ⟨hl, fun _ => ?_⟩⟩, fun hg => ⟨⟨by omega, by omega⟩, fun _ _ => ⟨i + 1, by omega, ⟨by omega, ?_⟩, by omega⟩⟩⟩⟩
    · rw [hex hl]
      have hb := List.getElem_mem hl
      refine ⟨fun hc => e1 (fun hb2 => ?_), fun hc => ⟨⟨by omega, by omega⟩, fun _ _ => ⟨k + 1, by omega, ⟨hlt, ‹∀ x ∈ List.take i t, barB x = true›, by omega, fun x hx => ?_⟩, by omega⟩⟩⟩
      · unfold barB at hb2
        have := List.all_eq_true.1 hb2 _ hb
        simp only [ne_eq, decide_not, Bool.not_eq_true', decide_eq_false_iff_not] at this
        exact this (UInt8.toNat_inj.1 (by simp; omega))
      · rw [take_succ' hl] at hx
        rcases List.mem_append.1 hx with hx | hx
        · exact hq x hx
        · simp only [List.mem_singleton] at hx
          subst hx
          intro e; rw [e] at hc; exact hc rfl
    · have hs : barB s = true := by
        unfold barB
        rw [List.all_eq_true]
        intro x hx
        have := hq x (by rw [List.take_of_length_le hg]; exact hx)
        simp -implicitDefEqProofs [this]
      rw [hs, Bool.and_true] at e3
      have hp' : (List.take i t).all barB = true := List.all_eq_true.2 ‹∀ x ∈ List.take i t, barB x = true›
      rw [hp'] at e3
      exact List.all_eq_true.1 e3
  · have e : t.take i = t := List.take_of_length_le hge
    rw [e] at hp
    unfold lines19
    rw [List.all_eq_true.2 hp, Bool.true_and]

def cL19Ok : Con := .fn 72 OpD (fun o => [vOp o]) (fun o => o.text.length ≤ 1048576) (fun o => .bool (opB o)) (fun _ => [])
set_option maxHeartbeats 4000000 in
theorem l19Ok_has : Has Tryz.prog 218 cL19Ok := by
  refine has_walk mixed tTab_ok (l := [(95, cL4Name), (245, cL19Bare), (164, cL4Path), (246, cL19Lines), (84, cL1In)]) (HasL.cons l4Name_has (HasL.cons l19Bare_has (HasL.cons l4Path_has (HasL.cons l19Lines_has (HasL.cons l1In_has HasL.nil))))) [0, 1, 2, 14, 52, 62] ((fun a n (_ : Nat) => (fun _ => noInv) a n)) [] Tryz.func218 (by kernel_rfl) (code := _) (by unfold Tryz.f218; rfl) (by kernel_rfl) (by decide) (fun _ => ⟨(), trivial⟩) (by intro h; first | exact fun _ => rfl | cases h) (by kernel_rfl) ?_
  intro (o : OpD) (ha : o.text.length ≤ 1048576)
  simp (maxSteps := 8000000) -implicitDefEqProofs [-kStep_move, -Bool.exists_bool, cL19Ok, cL4Name, cL19Bare, cL4Path, cL19Lines, cL1In, Con.fn, tTab, bOp]
  try dsimp only
  simp -implicitDefEqProofs only [and_assoc, exists_eq_left, exists_and_left, OpD.ex1, OpD.eta]
  have hk : o.kind = 1 ∨ o.kind = 2 ∨ o.kind = 3 ∨ o.kind = 4 ∨ o.kind = 5 ∨ o.kind = 6 ∨ o.kind = 7 ∨ (¬ o.kind = 1 ∧ ¬ o.kind = 2 ∧ ¬ o.kind = 3 ∧ ¬ o.kind = 4 ∧ ¬ o.kind = 5 ∧ ¬ o.kind = 6 ∧ ¬ o.kind = 7) := by omega
  unfold opB
  generalize nameB o.branch = b1
  generalize nameB o.who = b2
  generalize pathS o.path = b3
  generalize pathS o.to_ = b4
  generalize nameB o.to_ = b5
  generalize lines19 o.text = b6
  rcases hk with h | h | h | h | h | h | h | h <;> simp -implicitDefEqProofs [h, ha]
  all_goals grind

end Vx
end Go.Proofs.YtnanellmaelipaaGreatDoor
/-
  Contracts: the last commits from which two come (the reference's l8Bases).
-/
namespace Go.Proofs.YtnanellmaelipaaGreatDoor
namespace Vx
open Go.RowKit
set_option maxRecDepth 8000
--TAB tTabB

def cL8AllV : Con := .fn 66 (RepoD × Int) (fun a => [vRepo a.1, .int .i64 a.2]) (fun a => repoI a.1 = true ∧ 0 ≤ a.2 ∧ a.2 < a.1.commits.length) (fun a => .sl false 1 (eInts (listT (anc a.1 a.2)))) (fun _ => [])
set_option maxHeartbeats 4000000 in
theorem l8AllV_has : Has Tryz.prog 87 cL8AllV := by
  refine has_walk mixed tTabB_ok (l := []) HasL.nil [0, 1, 2, 4, 5, 6, 7, 8, 9] (fun a => alInv a.1 a.2) [] Tryz.func87 (by kernel_rfl) (code := _) (by unfold Tryz.f87; rfl) (by kernel_rfl) (by decide) (fun _ => ⟨(), trivial⟩) (by intro h; first | exact fun _ => rfl | cases h) (by kernel_rfl) ?_
  intro a ha
  obtain ⟨r, n⟩ := a
  obtain ⟨h1, h2, h3⟩ : repoI r = true ∧ 0 ≤ n ∧ n < r.commits.length := ha
  have h4 := repo_n h1
  simp -implicitDefEqProofs [cL8AllV, Con.fn, tTabB, tTab, alInv_4, alInv_7, alInv_12, alO, alI, alT, bRepo_def]
  try dsimp only
  simp only [and_assoc, exists_eq_left, exists_and_left, RepoD.ex1, RepoD.eta]
  have hal := anc_len r n
  refine fun _ => ⟨by omega, fun _ => ⟨h2, h3, fun _ _ => ⟨by omega, ⟨(List.replicate r.commits.length false).set n.toNat true, by rw [eBools_rep]; exact (eBools_set _ _ _).symm, by rw [eBools_rep]; exact eBools_set _ _ _, by simp, by omega, h3, rfl⟩, fun l b g1 g2 g3 g4 => ⟨fun hb => ⟨b.toNat, ?_⟩, fun hb => ?_⟩⟩⟩⟩
  · have hb1 : b.toNat < l.length := by omega
    have hb2 : b.toNat < r.commits.length := by omega
    obtain ⟨p1, p2, _⟩ := repo_use h1 hb2
    have hgd : r.commits.getD b.toNat default = r.commits[b.toNat] := by simp -implicitDefEqProofs [List.getD_eq_getElem?_getD, hb2]
    have hgo : r.commits[b.toNat]?.getD default = r.commits[b.toNat] := by simp -implicitDefEqProofs [hb2]
    rw [show (b + 1).toNat = b.toNat + 1 by omega] at g4
    have g5 : ancF r b.toNat (stepA r l b.toNat) = anc r n := g4
    unfold stepA at g5
    rw [hgd] at g5
    have e3 : Option.map eCommit r.commits[b.toNat]? = some (eCommit r.commits[b.toNat]) := by simp -implicitDefEqProofs [hb2]
    rw [hgo, e3]
    generalize r.commits[b.toNat] = c at *
    refine ⟨by omega, trivial, g1, hb2, Nat.zero_le _, fun h => ?_, fun h => ?_, fun m k m1 m2 m3 m4 m5 => ⟨hb2, fun _ => ?_⟩⟩
    · rw [if_pos h] at g5; exact g5
    · rw [if_neg (by rw [h]; simp)] at g5; exact g5
    · have hbm : b.toNat < m.length := by omega
      have hT : isT m b.toNat = m[b.toNat] := by simp -implicitDefEqProofs [isT, List.getD_eq_getElem?_getD, hbm]
      have e4 : Option.map eBool m[b.toNat]? = some (eBool m[b.toNat]) := by simp -implicitDefEqProofs [hbm]
      have hmx : max b 0 = b := Int.max_eq_left hb
      simp -implicitDefEqProofs [eCommit, D.asRows, e4, eBool, hbm, hb2, hmx]
      refine fun _ => ⟨fun hl2 => ⟨fun hm => ⟨hl2, fun _ => ?_⟩, fun hm => ⟨by omega, by omega, fun _ _ => ⟨m1, by omega, by omega, m5 (hT.trans hm), by omega⟩⟩⟩, fun hge => ⟨by omega, by omega, fun _ _ => ⟨m1, by omega, by omega, ?_, by omega⟩⟩⟩
      · have hp := p2 c.parents[k] (List.getElem_mem hl2)
        have qt : Option.map eInt c.parents[k]? = some (eInt c.parents[k]) := by simp -implicitDefEqProofs [List.getElem?_eq_getElem hl2]
        simp -implicitDefEqProofs [qt, eInt, D.asInt]
        have hst : isT (m.set c.parents[k].toNat true) b.toNat = true := by rw [isT_set_ne _ (by omega)]; exact hT.trans hm
        refine ⟨hp.1, by omega, fun _ _ => ⟨by omega, by omega, by omega, fun _ _ => ⟨m.set c.parents[k].toNat true, (eBools_set _ _ _).symm, k + 1, by omega, eBools_set _ _ _, by simp -implicitDefEqProofs [m1], by omega, fun _ => ?_, fun h => ?_, by omega⟩⟩⟩
        · have := m4 (hT.trans hm)
          rw [List.drop_eq_getElem_cons hl2] at this
          exact this
        · rw [hst] at h; cases h
      · cases hm : m[b.toNat] with
        | true =>
          have := m4 (hT.trans hm)
          rw [List.drop_eq_nil_of_le hge] at this
          exact this
        | false => exact m5 (hT.trans hm)
  · rw [show (b + 1).toNat = 0 by omega] at g4
    have g5 : l = anc r n := g4
    refine ⟨g5.symm, ⟨0, rfl, rfl, g5, rfl, Nat.zero_le _⟩, fun i hi _ => ⟨fun hlt => ?_, fun hge => ?_⟩⟩
    · have hl := listF_len (anc r n) i
      have hi : isT (anc r n) i = (anc r n)[i] := by simp -implicitDefEqProofs [isT, List.getD_eq_getElem?_getD, hlt]
      rw [hal] at hlt
      simp -implicitDefEqProofs [hal, hlt, eBool, D.asBool, and_assoc]
      refine ⟨fun h => ?_, fun h => ?_⟩
      · have e := listF_hit (hi.trans h)
        exact ⟨by omega, by omega, by omega, by omega, fun _ _ => ⟨i + 1, by rw [e]; simp -implicitDefEqProofs [eInts, eInt], by omega, by rw [e]; simp -implicitDefEqProofs [eInts, eInt], by omega, by omega⟩⟩
      · have e := listF_miss (hi.trans h)
        exact ⟨by omega, by omega, fun _ _ => ⟨i + 1, e, by omega, e.symm, by omega, by omega⟩⟩
    · rw [hal] at hge
      have : i = r.commits.length := by omega
      subst this
      unfold listT
      rw [hal]

def l8bA (r : RepoD) (a b : Int) : Inv := ⟨Nat, fun i => ⟨[(3, true, .ptr 10 0), (6, true, .nil), (7, true, .sl false 1 (eInts (listT (anc r a)))), (8, true, .sl false 1 (eInts (listT (anc r b)))), (9, true, .own 9 1 (eInts (both8 r a b i))), (10, true, .int .i64 i)], [(10, bRepo r), (9, .own 3 1 true (eInts (both8 r a b i)))]⟩, fun i => i ≤ (listT (anc r a)).length, fun i => (listT (anc r a)).length - i⟩
def l8bB (r : RepoD) (L : List Int) : Inv := ⟨Nat, fun i => ⟨[(3, true, .ptr 10 0), (6, true, .nil), (9, true, .own 9 1 (eInts L)), (11, true, .own 11 1 (eInts (baseF r L i))), (12, true, .int .i64 i)], [(10, bRepo r), (9, .own 3 1 true (eInts L)), (11, .own 3 1 true (eInts (baseF r L i)))]⟩, fun i => i ≤ L.length, fun i => L.length - i⟩
def l8bC (r : RepoD) (L : List Int) (g : Nat) : Inv := ⟨Nat, fun k => ⟨[(3, true, .ptr 10 0), (6, true, .nil), (9, true, .own 9 1 (eInts L)), (11, true, .own 11 1 (eInts (baseF r L g))), (12, true, .int .i64 g), (13, true, .bool (bestF r L g k)), (14, true, .int .i64 k)], [(10, bRepo r), (9, .own 3 1 true (eInts L)), (11, .own 3 1 true (eInts (baseF r L g)))]⟩, fun k => k ≤ L.length ∧ g < L.length, fun k => L.length - k⟩
def l8bInv (r : RepoD) (a b : Int) (n g : Nat) : Inv := if n = 5 then l8bA r a b else if n = 11 then l8bB r (both8 r a b (listT (anc r a)).length) else l8bC r (both8 r a b (listT (anc r a)).length) g
theorem l8bInv_5 (r a b g) : l8bInv r a b 5 g = l8bA r a b := rfl
theorem l8bInv_11 (r a b g) : l8bInv r a b 11 g = l8bB r (both8 r a b (listT (anc r a)).length) := rfl
theorem l8bInv_15 (r a b g) : l8bInv r a b 15 g = l8bC r (both8 r a b (listT (anc r a)).length) g := rfl
def cL8Bases : Con := .fn 83 (RepoD × Int × Int) (fun a => [vRepo a.1, .int .i64 a.2.1, .int .i64 a.2.2]) (fun a => repoI a.1 = true ∧ (0 ≤ a.2.1 ∧ a.2.1 < a.1.commits.length) ∧ 0 ≤ a.2.2 ∧ a.2.2 < a.1.commits.length) (fun a => .own 8 1 (eInts (bases8 a.1 a.2.1 a.2.2))) (fun a => ownInts 8 (bases8 a.1 a.2.1 a.2.2))
set_option maxHeartbeats 4000000 in
theorem l8Bases_has : Has Tryz.prog 211 cL8Bases := by
  refine has_walk mixed tTabB_ok (l := [(87, cL8AllV), (86, cL8Has)]) (HasL.cons l8AllV_has (HasL.cons l8Has_has HasL.nil)) [0, 1, 2, 3, 6, 7, 8, 9, 10, 11, 12, 13, 14] (fun a => l8bInv a.1 a.2.1 a.2.2) [] Tryz.func211 (by kernel_rfl) (code := _) (by unfold Tryz.f211; rfl) (by kernel_rfl) (by decide) (fun _ => ⟨(), trivial⟩) (by intro h; first | exact fun _ => rfl | cases h) (by kernel_rfl) ?_
  intro a ha
  obtain ⟨r, a, b⟩ := a
  obtain ⟨h1, ⟨h2, h3⟩, h4, h5⟩ : repoI r = true ∧ (0 ≤ a ∧ a < r.commits.length) ∧ 0 ≤ b ∧ b < r.commits.length := ha
  simp (maxSteps := 8000000) -implicitDefEqProofs [-kStep_move, -kStepC_move, -Bool.exists_bool, cL8Bases, cL8AllV, cL8Has, Con.fn, tTabB, tTab, l8bInv_5, l8bInv_11, l8bInv_15, l8bA, l8bB, l8bC, bRepo_def]
  try dsimp only
  have hal := anc_len r
  have h6 := repo_n h1
  have hmem : ∀ c, ∀ x ∈ listT (anc r c), 0 ≤ x ∧ x < r.commits.length := fun c x hx => by
    obtain ⟨i, q1, _, rfl⟩ := listT_mem.1 hx
    rw [hal] at q1
    omega
  have h16 : ∀ c, (listT (anc r c)).length ≤ 16 := fun c => by
    have := listF_len (anc r c) (anc r c).length
    rw [hal] at this
    unfold listT; rw [hal]; omega
  refine ⟨r, a, ⟨⟨rfl, rfl⟩, rfl⟩, ⟨h1, h2, h3⟩, r, b, ⟨⟨rfl, rfl⟩, rfl⟩, ⟨h1, h4, h5⟩, ?_⟩
  have hLm := hmem a
  have hL16 := h16 a
  have stepB : ∀ t (h : t < (listT (anc r a)).length), both8 r a b (t + 1) = if (listT (anc r a))[t] ∈ listT (anc r b) then both8 r a b t ++ [(listT (anc r a))[t]] else both8 r a b t := fun t h => by
    unfold both8
    rw [take_succ' h, List.filter_append]
    split
    · rename_i hq; rw [List.filter_cons_of_pos (by simpa using hq)]; simp
    · rename_i hq; rw [List.filter_cons_of_neg (by simpa using hq)]; simp
  have bothL : ∀ t, (both8 r a b t).length ≤ (listT (anc r a)).length := fun t => by
    unfold both8
    exact Nat.le_trans (List.length_filter_le _ _) (by simp; omega)
  have hBm : ∀ x ∈ both8 r a b (listT (anc r a)).length, 0 ≤ x ∧ x < r.commits.length := fun x hx => by
    unfold both8 at hx
    exact hLm x (List.mem_of_mem_take (List.mem_filter.1 hx).1)
  have hout : bases8 r a b = baseF r (both8 r a b (listT (anc r a)).length) (both8 r a b (listT (anc r a)).length).length := rfl
  have hb0 : both8 r a b 0 = [] := by unfold both8; simp
  generalize listT (anc r a) = L at *
  generalize hM : listT (anc r b) = M at *
  have hB16 := bothL L.length
  generalize hB : both8 r a b L.length = B at *
  have baseS : ∀ u (h : u < B.length), baseF r B (u + 1) = if bestF r B u B.length then baseF r B u ++ [B[u]] else baseF r B u := fun u h => by
    unfold baseF
    rw [List.range_succ, List.filter_append, List.map_append]
    split
    · rename_i hq; simp -implicitDefEqProofs [hq, List.getD_eq_getElem?_getD, h]
    · rename_i hq; simp -implicitDefEqProofs [hq]
  have baseL : ∀ u, (baseF r B u).length ≤ u := fun u => by
    unfold baseF
    rw [List.length_map]
    exact Nat.le_trans (List.length_filter_le _ _) (by simp)
  refine ⟨⟨0, ⟨⟨rfl, rfl, hb0, rfl⟩, hb0⟩, Nat.zero_le _⟩, fun t ht _ => ⟨fun hlt => ⟨hlt, fun _ => ?_⟩, fun hge => ?_⟩⟩
  · have qq : Option.map eInt L[t]? = some (eInt L[t]) := by simp -implicitDefEqProofs [hlt]
    have sB := stepB t hlt
    have bL := bothL t
    have sn : eInts (both8 r a b t) ++ [[D.int .i64 L[t]]] = eInts (both8 r a b t ++ [L[t]]) := eInts_snoc _ _
    rw [qq]
    generalize L[t] = y at *
    simp -implicitDefEqProofs [eInt, D.asInt]
    rw [sn]
    refine ⟨M, y, ⟨rfl, rfl⟩, fun h => ⟨hlt, fun _ => ⟨⟨by omega, by omega⟩, ⟨by omega, by omega⟩, fun _ _ => ⟨t + 1, by rw [sB, if_pos h]; exact ⟨⟨⟨rfl, by omega⟩, rfl⟩, by omega, by omega⟩⟩⟩⟩, fun h => ⟨⟨by omega, by omega⟩, fun _ _ => ⟨t + 1, by rw [sB, if_neg h]; exact ⟨⟨⟨rfl, by omega⟩, rfl⟩, by omega, by omega⟩⟩⟩⟩
  · have ht' : t = L.length := by omega
    subst ht'
    rw [hB]
    refine ⟨⟨0, ⟨⟨rfl, rfl, rfl⟩, rfl, rfl⟩, Nat.zero_le _⟩, fun u hu _ => ⟨fun hlu => ⟨u, ⟨0, ⟨⟨rfl, rfl, rfl, rfl⟩, rfl⟩, Nat.zero_le _, hlu⟩, fun k hk _ _ => ?_⟩, fun hgu => ?_⟩⟩
    · have q2 : Option.map eInt B[u]? = some (eInt B[u]) := by simp -implicitDefEqProofs [hlu]
      have sS := baseS u hlu
      have bL := baseL u
      have gu : B.getD u 0 = B[u] := by simp -implicitDefEqProofs [List.getD_eq_getElem?_getD, hlu]
      have sn : eInts (baseF r B u) ++ [[D.int .i64 B[u]]] = eInts (baseF r B u ++ [B[u]]) := eInts_snoc _ _
      refine ⟨fun hkl => ?_, fun hge => ?_⟩
      · have q1 : Option.map eInt B[k]? = some (eInt B[k]) := by simp -implicitDefEqProofs [hkl]
        have gk : B.getD k 0 = B[k] := by simp -implicitDefEqProofs [List.getD_eq_getElem?_getD, hkl]
        have sb : bestF r B u (k + 1) = (bestF r B u k && (decide ((k : Int) = (u : Int)) || !decide (B[u] ∈ listT (anc r B[k])))) := by
          have e : decide ((k : Int) = (u : Int)) = decide (k = u) := by rw [Bool.eq_iff_iff, decide_eq_true_eq, decide_eq_true_eq]; omega
          rw [e]
          unfold bestF
          rw [List.range_succ, List.all_append, gu]
          simp -implicitDefEqProofs [List.getD_eq_getElem?_getD, hkl]
        have hm := hBm B[k] (List.getElem_mem hkl)
        rw [q1, q2]
        generalize B[u] = y at *
        generalize B[k] = x at *
        simp -implicitDefEqProofs [eInt, D.asInt, hkl, hlu]
        refine ⟨fun a b => ⟨a, b⟩, fun _ => ⟨fun a b => ⟨a, b⟩, fun _ => ⟨r, x, ⟨⟨rfl, rfl⟩, rfl⟩, fun a b => ⟨⟨a, b⟩, h1, hm.1, hm.2⟩, fun a b => ⟨a, b⟩, fun _ => ⟨fun a b => ⟨a, b⟩, fun _ => ⟨_, y, ⟨rfl, rfl⟩, fun a => ⟨a, ?_⟩, fun _ => ⟨⟨by omega, by omega⟩, fun _ _ => ⟨k + 1, ⟨sb, by omega⟩, by omega, by omega⟩⟩⟩⟩⟩⟩⟩
        by_cases e : (k : Int) = u
        · exact .inl e
        · exact .inr ⟨a, e⟩
      · have : k = B.length := by omega
        subst this
        rw [q2]
        generalize B[u] = y at *
        simp -implicitDefEqProofs [eInt, D.asInt, hlu]
        rw [sn]
        exact ⟨fun h => ⟨⟨by omega, by omega⟩, ⟨by omega, by omega⟩, fun _ _ => ⟨u + 1, by rw [sS, if_pos h]; exact ⟨⟨⟨rfl, by omega⟩, rfl⟩, by omega, by omega⟩⟩⟩, fun h => ⟨⟨by omega, by omega⟩, fun _ _ => ⟨u + 1, by rw [sS, if_neg (by simp -implicitDefEqProofs [h])]; exact ⟨⟨⟨rfl, by omega⟩, rfl⟩, by omega, by omega⟩⟩⟩⟩
    · have : u = B.length := by omega
      subst this
      rw [← hout]
      exact ⟨rfl, rfl⟩

end Vx
end Go.Proofs.YtnanellmaelipaaGreatDoor
/-
  Contracts: branches made one, picks, operations done (the reference's).
-/
namespace Go.Proofs.YtnanellmaelipaaGreatDoor
namespace Vx
open Go.RowKit
set_option maxRecDepth 8000
--TAB tTabB

theorem repoS_tree {r : RepoD} (h : repoS r = true) (i : Nat) : treeS (r.commits.getD i default).tree = true := by
  rcases Nat.lt_or_ge i r.commits.length with hi | hi
  · have := ((repoS_iff r).1 h).1 i hi
    unfold okCS okS1 at this
    simp only [Bool.and_eq_true] at this
    exact this.2.2
  · have : r.commits.getD i default = default := by simp -implicitDefEqProofs [List.getD_eq_getElem?_getD, hi]
    rw [this]; rfl
theorem repoS_treeAt {r : RepoD} (h : repoS r = true) (c : Int) : treeS (treeAt r c) = true := repoS_tree h _
theorem repoS_sz {r : RepoD} (h : repoS r = true) : rpSz r := by
  obtain ⟨h1, h2, h3⟩ := (repoS_iff r).1 h
  refine ⟨by omega, fun c hc => ?_, by have := ((headsB_iff _ _).1 h2).1; omega⟩
  obtain ⟨i, hi, rfl⟩ := List.getElem_of_mem hc
  have h4 := h1 i hi
  have e : r.commits.getD i default = r.commits[i] := by simp -implicitDefEqProofs [List.getD_eq_getElem?_getD, hi]
  unfold okCS okS1 at h4
  rw [e] at h4
  simp only [Bool.and_eq_true, decide_eq_true_eq] at h4
  obtain ⟨t1, t2⟩ := treeS_le _ h4.2.2
  exact ⟨by omega, by omega, fun g hg => by have := t2 g hg; omega⟩

theorem cget {r : RepoD} {c : Int} (h0 : 0 ≤ c) (h1 : c < r.commits.length) : Option.map eCommit r.commits[c.toNat]? = some [D.sl 3 1 (eInts (r.commits.getD c.toNat default).parents), D.str (r.commits.getD c.toNat default).who, D.sl 61 2 (eFiles (treeAt r c))] := by
  have h : c.toNat < r.commits.length := by omega
  have e : r.commits.getD c.toNat default = r.commits[c.toNat] := by simp -implicitDefEqProofs [List.getD_eq_getElem?_getD, h]
  unfold treeAt
  rw [e]; simp -implicitDefEqProofs [h, eCommit]
theorem both8_mem {r : RepoD} {a b : Int} {i : Nat} : ∀ x ∈ both8 r a b i, 0 ≤ x ∧ x < r.commits.length := fun x hx => by
  unfold both8 at hx
  obtain ⟨j, q1, _, rfl⟩ := listT_mem.1 (List.mem_of_mem_take (List.mem_filter.1 hx).1)
  rw [anc_len] at q1
  omega
theorem bases8_mem {r : RepoD} {a b : Int} : ∀ x ∈ bases8 r a b, 0 ≤ x ∧ x < r.commits.length := fun x hx => by
  unfold bases8 baseF at hx
  obtain ⟨j, hj, rfl⟩ := List.mem_map.1 hx
  have hj := List.mem_range.1 (List.mem_filter.1 hj).1
  rw [List.getD_eq_getElem?_getD, List.getElem?_eq_getElem hj, Option.getD_some]
  exact both8_mem _ (List.getElem_mem hj)
theorem bases8_len {r : RepoD} (h : repoI r = true) {a b : Int} : (bases8 r a b).length ≤ 16 := by
  have h6 := repo_n h
  have h1 := listF_len (anc r a) (anc r a).length
  unfold bases8 baseF
  rw [List.length_map]
  refine Nat.le_trans (List.length_filter_le _ _) ?_
  rw [List.length_range]
  unfold both8
  refine Nat.le_trans (List.length_filter_le _ _) ?_
  rw [anc_len] at h1
  simp only [List.length_take, listT, anc_len]; omega
theorem base9_tree {r : RepoD} (h : repoS r = true) (a b : Int) : treeS (base9 r a b) = true := by
  unfold base9
  split
  · rfl
  · exact repoS_treeAt h _
theorem ahead10_tree {r : RepoD} (h : repoS r = true) (c : Int) : treeS (ahead10 r c) = true := by
  unfold ahead10
  split
  · rfl
  · exact repoS_treeAt h _
theorem treeS_szT {t : List FileD} (h : treeS t = true) : szT t := by
  obtain ⟨h1, h2⟩ := treeS_le t h
  exact ⟨by omega, h2⟩
def cL9Base : Con := .fn 26 (RepoD × Int × Int) (fun a => [vRepo a.1, .int .i64 a.2.1, .int .i64 a.2.2]) (fun a => repoS a.1 = true ∧ (0 ≤ a.2.1 ∧ a.2.1 < a.1.commits.length) ∧ 0 ≤ a.2.2 ∧ a.2.2 < a.1.commits.length) (fun a => .sl true 2 (eFiles (base9 a.1 a.2.1 a.2.2))) (fun _ => [])
set_option maxHeartbeats 4000000 in
theorem l9Base_has : Has Tryz.prog 181 cL9Base := by
  refine has_walk mixed tTabB_ok (l := [(211, cL8Bases)]) (HasL.cons l8Bases_has HasL.nil) [0, 1, 2, 3, 6, 7] ((fun a n (_ : Nat) => (fun _ => noInv) a n)) [] Tryz.func181 (by kernel_rfl) (code := _) (by unfold Tryz.f181; rfl) (by kernel_rfl) (by decide) (fun _ => ⟨(), trivial⟩) (by intro h; first | exact fun _ => rfl | cases h) (by kernel_rfl) ?_
  intro a ha
  obtain ⟨r, a, b⟩ := a
  obtain ⟨h1, ⟨h2, h3⟩, h4, h5⟩ : repoS r = true ∧ (0 ≤ a ∧ a < r.commits.length) ∧ 0 ≤ b ∧ b < r.commits.length := ha
  simp -implicitDefEqProofs [cL9Base, cL8Bases, Con.fn, tTabB, tTab, bRepo_def]
  try dsimp only
  simp -implicitDefEqProofs only [and_assoc, exists_eq_left, exists_and_left, RepoD.ex1, RepoD.eta]
  have hI : repoI r = true := by rw [repo_eq]; exact h1
  have hl := bases8_len hI (a := a) (b := b)
  have hmm := bases8_mem (r := r) (a := a) (b := b)
  have hb : base9 r a b = match (bases8 r a b).getLast? with | none => [] | some c => treeAt r c := rfl
  refine ⟨hI, h2, h3, h4, h5, fun _ => ⟨fun h => by rw [hb, h]; rfl, fun h => ?_⟩⟩
  rcases List.eq_nil_or_concat (bases8 r a b) with e | ⟨m, q, e⟩
  · exact absurd e h
  · rw [e] at hl hmm hb ⊢
    have hq := hmm q (by simp)
    have cg := cget hq.1 hq.2
    have hb : base9 r a b = treeAt r q := by rw [hb]; simp
    rw [hb]
    simp -implicitDefEqProofs [eInt, D.asInt, cg, D.asRows]
    simp at hl
    omega

def cL9Unite : Con := .fn 70 (RepoD × Str × Str × Int) (fun a => [vRepo a.1, .str a.2.1, .str a.2.2.1, .int .i64 a.2.2.2]) (fun a => repoS a.1 = true ∧ 0 ≤ atL a.1.heads a.2.1 ∧ 0 ≤ a.2.2.2 ∧ a.2.2.2 < a.1.commits.length) (fun a => .tup [.agg [.sl false 3 (eCommits (unite9 a.1 a.2.1 a.2.2.1 a.2.2.2).1.commits), .sl false 2 (eHeads (unite9 a.1 a.2.1 a.2.2.1 a.2.2.2).1.heads)], .int .i64 (unite9 a.1 a.2.1 a.2.2.1 a.2.2.2).2]) (fun _ => [])
set_option maxHeartbeats 4000000 in
theorem l9Unite_has : Has Tryz.prog 128 cL9Unite := by
  refine has_walk mixed tTabB_ok (l := [(124, cL7At), (87, cL8All), (86, cL8Has), (179, cL7Head), (181, cL9Base), (180, cL6Join), (182, cL7Add), (82, cL7Ok)]) (HasL.cons l7At_has (HasL.cons l8All_has (HasL.cons l8Has_has (HasL.cons l7Head_has (HasL.cons l9Base_has (HasL.cons l6Join_has (HasL.cons l7Add_has (HasL.cons l7Ok_has HasL.nil)))))))) [0, 1, 2, 3, 4, 8, 9, 10, 11, 12, 13] ((fun a n (_ : Nat) => (fun _ => noInv) a n)) [] Tryz.func128 (by kernel_rfl) (code := _) (by unfold Tryz.f128; rfl) (by kernel_rfl) (by decide) (fun _ => ⟨(), trivial⟩) (by intro h; first | exact fun _ => rfl | cases h) (by kernel_rfl) ?_
  intro a ha
  obtain ⟨r, n, w, b⟩ := a
  obtain ⟨h1, h2, h3, h4⟩ : repoS r = true ∧ 0 ≤ atL r.heads n ∧ 0 ≤ b ∧ b < r.commits.length := ha
  simp -implicitDefEqProofs [cL9Unite, cL7At, cL8All, cL8Has, cL7Head, cL9Base, cL6Join, cL7Add, cL7Ok, Con.fn, tTabB, tTab, bRepo_def]
  try dsimp only
  simp -implicitDefEqProofs only [and_assoc, exists_eq_left, exists_and_left, RepoD.ex1, RepoD.eta]
  have hI : repoI r = true := by rw [repo_eq]; exact h1
  obtain ⟨k1, k2, k3⟩ := repoS_sz h1
  have hat := atL_le (n := n) ((repoS_iff r).1 h1).2.1
  have ga := cget (r := r) (c := atL r.heads n) h2 (by omega)
  have gb := cget (r := r) h3 h4
  rw [ga, gb]
  simp -implicitDefEqProofs [D.asRows]
  have hlen : ∀ c, (addR r n c).commits.length ≤ 1073741824 := fun c => by simp -implicitDefEqProofs [addR]; omega
  refine ⟨hI, h2, by omega, fun h => ?_, fun h => ⟨hI, h3, h4, fun h' => ⟨by omega, ?_⟩, fun h' => ⟨h1, h2, by omega, h3, h4, h2, by omega, fun _ _ => ⟨h3, h4, fun _ _ => ⟨treeS_szT (base9_tree h1 _ _), treeS_szT (repoS_treeAt h1 _), treeS_szT (repoS_treeAt h1 _), fun _ => ⟨fun hj => ?_, fun hj => ⟨⟨[atL r.heads n, b], w, (join6 (base9 r (atL r.heads n) b) (treeAt r (atL r.heads n)) (treeAt r b)).1⟩, rfl, rfl, rfl, k1, k3, hlen _, fun hs => ?_, fun hs => ?_⟩⟩⟩⟩⟩⟩⟩
  · unfold unite9; rw [if_pos h]; exact ⟨rfl, rfl, rfl⟩
  · unfold unite9; rw [if_neg h, if_pos h']; exact ⟨rfl, rfl, rfl⟩
  · unfold unite9; rw [if_neg h, if_neg h', if_neg (by intro e; rw [e] at hj; simp at hj)]; exact ⟨rfl, rfl, rfl⟩
  · unfold unite9; rw [if_neg h, if_neg h', if_pos hj, if_neg (by simp -implicitDefEqProofs [hs])]; exact ⟨rfl, rfl, rfl⟩
  · unfold unite9; rw [if_neg h, if_neg h', if_pos hj, if_pos hs]; exact ⟨rfl, rfl, rfl⟩

def cUniteInto : Con := .fn 42 (RepoD × Str × Str × Int) (fun a => [vRepo a.1, .str a.2.1, .str a.2.2.1, .int .i64 a.2.2.2]) (fun a => rpSz a.1) (fun a => .tup [.agg [.sl false 3 (eCommits (uniteS a.1 a.2.1 a.2.2.1 a.2.2.2).1.commits), .sl false 2 (eHeads (uniteS a.1 a.2.1 a.2.2.1 a.2.2.2).1.heads)], .int .i64 (uniteS a.1 a.2.1 a.2.2.1 a.2.2.2).2]) (fun _ => [])
set_option maxHeartbeats 4000000 in
theorem uniteInto_has : Has Tryz.prog 48 cUniteInto := by
  refine has_walk mixed tTabB_ok (l := [(82, cL7Ok), (124, cL7At), (95, cL4Name), (84, cL1In), (127, cL7Copy), (128, cL9Unite)]) (HasL.cons l7Ok_has (HasL.cons l7At_has (HasL.cons l4Name_has (HasL.cons l1In_has (HasL.cons l7Copy_has (HasL.cons l9Unite_has HasL.nil)))))) [0, 1, 2, 3, 4, 8, 9] ((fun a n (_ : Nat) => (fun _ => noInv) a n)) [] Tryz.func48 (by kernel_rfl) (code := _) (by unfold Tryz.f48; rfl) (by kernel_rfl) (by decide) (fun _ => ⟨(), trivial⟩) (by intro h; first | exact fun _ => rfl | cases h) (by kernel_rfl) ?_
  intro a ha
  obtain ⟨r, n, w, b⟩ := a
  replace ha : rpSz r := ha
  simp -implicitDefEqProofs [cUniteInto, cL7Ok, cL7At, cL4Name, cL1In, cL7Copy, cL9Unite, Con.fn, tTabB, tTab, bRepo_def]
  try dsimp only
  simp -implicitDefEqProofs only [and_assoc, exists_eq_left, exists_and_left, RepoD.ex1, RepoD.eta]
  have e0 : repoS r = false → uniteS r n w b = (noR, 1) := fun h => by unfold uniteS; rw [if_neg (by simp -implicitDefEqProofs [h])]
  have e1 : repoS r = true → (atL r.heads n < 0 ∨ nameB w = false ∨ ¬ (0 ≤ b ∧ b < r.commits.length)) → uniteS r n w b = (r, 1) := fun h h' => by unfold uniteS; rw [if_pos h, if_pos h']
  have e2 : repoS r = true → ¬ (atL r.heads n < 0 ∨ nameB w = false ∨ ¬ (0 ≤ b ∧ b < r.commits.length)) → uniteS r n w b = unite9 r n w b := fun h h' => by unfold uniteS; rw [if_pos h, if_neg h']
  have hr1 : r.commits.length ≤ 1048576 := ha.1
  refine ⟨by omega, fun h => by rw [e0 h]; exact ⟨rfl, rfl, rfl⟩, fun h => ⟨fun hn => ⟨ha, by rw [e1 h (.inl hn)]; exact ⟨rfl, rfl, rfl⟩⟩, fun hn => ⟨fun hw => ⟨ha, by rw [e1 h (.inr (.inl hw))]; exact ⟨rfl, rfl, rfl⟩⟩, fun hw _ => ⟨by omega, by omega, fun _ _ => ⟨fun hb => ⟨ha, by rw [e1 h (.inr (.inr (by omega)))]; exact ⟨rfl, rfl, rfl⟩⟩, fun hb hb' => ⟨ha, h, hn, hb, by omega, ?_⟩⟩⟩⟩⟩⟩
  rw [e2 h (by rintro (q | q | q); omega; rw [hw] at q; cases q; omega)]; exact ⟨rfl, rfl, rfl⟩

def cL10Ahead : Con := .fn 26 (RepoD × Int) (fun a => [vRepo a.1, .int .i64 a.2]) (fun a => repoS a.1 = true ∧ 0 ≤ a.2 ∧ a.2 < a.1.commits.length) (fun a => .sl true 2 (eFiles (ahead10 a.1 a.2))) (fun _ => [])
set_option maxHeartbeats 4000000 in
theorem l10Ahead_has : Has Tryz.prog 107 cL10Ahead := by
  refine has_walk mixed tTabB_ok (l := []) HasL.nil [0, 1, 2, 4] ((fun a n (_ : Nat) => (fun _ => noInv) a n)) [] Tryz.func107 (by kernel_rfl) (code := _) (by unfold Tryz.f107; rfl) (by kernel_rfl) (by decide) (fun _ => ⟨(), trivial⟩) (by intro h; first | exact fun _ => rfl | cases h) (by kernel_rfl) ?_
  intro a ha
  obtain ⟨r, c⟩ := a
  obtain ⟨h1, h2, h3⟩ : repoS r = true ∧ 0 ≤ c ∧ c < r.commits.length := ha
  simp -implicitDefEqProofs [cL10Ahead, Con.fn, tTabB, tTab, bRepo_def]
  try dsimp only
  simp -implicitDefEqProofs only [and_assoc, exists_eq_left, exists_and_left, RepoD.ex1, RepoD.eta]
  have cg := cget (r := r) h2 h3
  have hp : ahead10 r c = match (r.commits.getD c.toNat default).parents with | [] => [] | p :: _ => treeAt r p := rfl
  have hmem : ∀ p ∈ (r.commits.getD c.toNat default).parents, 0 ≤ p ∧ p < r.commits.length := fun p hp => by
    have hc : c.toNat < r.commits.length := by omega
    have := (repo_use (r := r) (by rw [repo_eq]; exact h1) hc).2.1 p (by simpa [List.getD_eq_getElem?_getD, hc] using hp)
    omega
  have hl : (r.commits.getD c.toNat default).parents.length ≤ 1000 := by
    have hc : c.toNat < r.commits.length := by omega
    have := (repo_use (r := r) (by rw [repo_eq]; exact h1) hc).1
    simpa [List.getD_eq_getElem?_getD, hc] using by omega
  rw [cg]
  generalize (r.commits.getD c.toNat default).parents = P at *
  cases P with
  | nil => simp -implicitDefEqProofs [D.asRows, hp]; omega
  | cons p P =>
    have hq := hmem p (by simp)
    have cp := cget hq.1 hq.2
    have hp : ahead10 r c = treeAt r p := hp
    simp -implicitDefEqProofs [D.asRows, hp, eInts, eInt, D.asInt, cp]
    exact ⟨h2, h3, fun _ _ _ => ⟨h2, h3, fun _ _ => hq⟩⟩

def cL10Put : Con := .fn 48 (RepoD × Str × Str × List FileD × List FileD) (fun a => [vRepo a.1, .str a.2.1, .str a.2.2.1, .sl true 2 (eFiles a.2.2.2.1), .sl true 2 (eFiles a.2.2.2.2)]) (fun a => repoS a.1 = true ∧ 0 ≤ atL a.1.heads a.2.1 ∧ treeS a.2.2.2.1 = true ∧ treeS a.2.2.2.2 = true) (fun a => .tup [.agg [.sl false 3 (eCommits (put10 a.1 a.2.1 a.2.2.1 a.2.2.2.1 a.2.2.2.2).1.commits), .sl false 2 (eHeads (put10 a.1 a.2.1 a.2.2.1 a.2.2.2.1 a.2.2.2.2).1.heads)], .int .i64 (put10 a.1 a.2.1 a.2.2.1 a.2.2.2.1 a.2.2.2.2).2]) (fun _ => [])
set_option maxHeartbeats 4000000 in
theorem l10Put_has : Has Tryz.prog 278 cL10Put := by
  refine has_walk mixed tTabB_ok (l := [(124, cL7At), (180, cL6Join), (182, cL7Add), (82, cL7Ok)]) (HasL.cons l7At_has (HasL.cons l6Join_has (HasL.cons l7Add_has (HasL.cons l7Ok_has HasL.nil)))) [0, 1, 2, 3, 4, 5, 10, 11, 12, 13, 14, 15] ((fun a n (_ : Nat) => (fun _ => noInv) a n)) [] Tryz.func278 (by kernel_rfl) (code := _) (by unfold Tryz.f278; rfl) (by kernel_rfl) (by decide) (fun _ => ⟨(), trivial⟩) (by intro h; first | exact fun _ => rfl | cases h) (by kernel_rfl) ?_
  intro a ha
  obtain ⟨r, n, w, o, b⟩ := a
  obtain ⟨h1, h2, h3, h4⟩ : repoS r = true ∧ 0 ≤ atL r.heads n ∧ treeS o = true ∧ treeS b = true := ha
  simp -implicitDefEqProofs [cL10Put, cL7At, cL6Join, cL7Add, cL7Ok, Con.fn, tTabB, tTab, bRepo_def]
  try dsimp only
  simp -implicitDefEqProofs only [and_assoc, exists_eq_left, exists_and_left, RepoD.ex1, RepoD.eta]
  obtain ⟨k1, k2, k3⟩ := repoS_sz h1
  have hat := atL_le (n := n) ((repoS_iff r).1 h1).2.1
  have ga := cget (r := r) (c := atL r.heads n) h2 (by omega)
  rw [ga]
  simp -implicitDefEqProofs [D.asRows]
  have hlen : ∀ c, (addR r n c).commits.length ≤ 1073741824 := fun c => by simp -implicitDefEqProofs [addR]; omega
  refine ⟨h2, by omega, fun _ _ => ⟨treeS_szT h3, treeS_szT (repoS_treeAt h1 _), treeS_szT h4, fun _ => ⟨fun hj => ?_, fun hj => ⟨⟨[atL r.heads n], w, (join6 o (treeAt r (atL r.heads n)) b).1⟩, rfl, rfl, rfl, k1, k3, hlen _, fun hs => ?_, fun hs => ?_⟩⟩⟩⟩
  · unfold put10; rw [if_neg (by intro e; rw [e] at hj; simp at hj)]; exact ⟨rfl, rfl, rfl⟩
  · unfold put10; rw [if_pos hj, if_neg (by simp -implicitDefEqProofs [hs])]; exact ⟨rfl, rfl, rfl⟩
  · unfold put10; rw [if_pos hj, if_pos hs]; exact ⟨rfl, rfl, rfl⟩

def cPickOf : Con := .fn 52 (RepoD × Str × Str × Int) (fun a => [vRepo a.1, .str a.2.1, .str a.2.2.1, .int .i64 a.2.2.2]) (fun a => rpSz a.1) (fun a => .tup [.agg [.sl false 3 (eCommits (pickS false a.1 a.2.1 a.2.2.1 a.2.2.2).1.commits), .sl false 2 (eHeads (pickS false a.1 a.2.1 a.2.2.1 a.2.2.2).1.heads)], .int .i64 (pickS false a.1 a.2.1 a.2.2.1 a.2.2.2).2]) (fun _ => [])
set_option maxHeartbeats 4000000 in
theorem pickOf_has : Has Tryz.prog 252 cPickOf := by
  refine has_walk mixed tTabB_ok (l := [(82, cL7Ok), (124, cL7At), (95, cL4Name), (84, cL1In), (127, cL7Copy), (107, cL10Ahead), (278, cL10Put)]) (HasL.cons l7Ok_has (HasL.cons l7At_has (HasL.cons l4Name_has (HasL.cons l1In_has (HasL.cons l7Copy_has (HasL.cons l10Ahead_has (HasL.cons l10Put_has HasL.nil))))))) [0, 1, 2, 3, 4, 8, 9, 10] ((fun a n (_ : Nat) => (fun _ => noInv) a n)) [] Tryz.func252 (by kernel_rfl) (code := _) (by unfold Tryz.f252; rfl) (by kernel_rfl) (by decide) (fun _ => ⟨(), trivial⟩) (by intro h; first | exact fun _ => rfl | cases h) (by kernel_rfl) ?_
  intro a ha
  obtain ⟨r, n, w, b⟩ := a
  replace ha : rpSz r := ha
  simp -implicitDefEqProofs [cPickOf, cL7Ok, cL7At, cL4Name, cL1In, cL7Copy, cL10Ahead, cL10Put, Con.fn, tTabB, tTab, bRepo_def]
  try dsimp only
  simp -implicitDefEqProofs only [and_assoc, exists_eq_left, exists_and_left, RepoD.ex1, RepoD.eta]
  have e0 : repoS r = false → pickS false r n w b = (noR, 1) := fun h => by unfold pickS; rw [if_neg (by simp -implicitDefEqProofs [h])]
  have e1 : repoS r = true → (atL r.heads n < 0 ∨ nameB w = false ∨ ¬ (0 ≤ b ∧ b < r.commits.length)) → pickS false r n w b = (r, 1) := fun h h' => by unfold pickS; rw [if_pos h, if_pos h']
  have e2 : repoS r = true → ¬ (atL r.heads n < 0 ∨ nameB w = false ∨ ¬ (0 ≤ b ∧ b < r.commits.length)) → pickS false r n w b = put10 r n w (ahead10 r b) (treeAt r b) := fun h h' => by unfold pickS; rw [if_pos h, if_neg h']; rfl
  have hr1 : r.commits.length ≤ 1048576 := ha.1
  refine ⟨by omega, fun h => by rw [e0 h]; exact ⟨rfl, rfl, rfl⟩, fun h => ⟨fun hn => ⟨ha, by rw [e1 h (.inl hn)]; exact ⟨rfl, rfl, rfl⟩⟩, fun hn => ⟨fun hw => ⟨ha, by rw [e1 h (.inr (.inl hw))]; exact ⟨rfl, rfl, rfl⟩⟩, fun hw _ => ⟨by omega, by omega, fun _ _ => ⟨fun hb => ⟨ha, by rw [e1 h (.inr (.inr (by omega)))]; exact ⟨rfl, rfl, rfl⟩⟩, fun hb hb' => ?_⟩⟩⟩⟩⟩
  rw [e2 h (by rintro (q | q | q); omega; rw [hw] at q; cases q; omega)]
  have cb := cget hb (show b < r.commits.length by omega)
  have s1 := repoS_treeAt h b
  have s2 := ahead10_tree h b
  rw [cb]
  simp -implicitDefEqProofs [D.asRows, h, hn, hb, s1, s2, show b < r.commits.length by omega, show rpSz r from ha]

def cPickBack : Con := .fn 52 (RepoD × Str × Str × Int) (fun a => [vRepo a.1, .str a.2.1, .str a.2.2.1, .int .i64 a.2.2.2]) (fun a => rpSz a.1) (fun a => .tup [.agg [.sl false 3 (eCommits (pickS true a.1 a.2.1 a.2.2.1 a.2.2.2).1.commits), .sl false 2 (eHeads (pickS true a.1 a.2.1 a.2.2.1 a.2.2.2).1.heads)], .int .i64 (pickS true a.1 a.2.1 a.2.2.1 a.2.2.2).2]) (fun _ => [])
set_option maxHeartbeats 4000000 in
theorem pickBack_has : Has Tryz.prog 253 cPickBack := by
  refine has_walk mixed tTabB_ok (l := [(82, cL7Ok), (124, cL7At), (95, cL4Name), (84, cL1In), (127, cL7Copy), (107, cL10Ahead), (278, cL10Put)]) (HasL.cons l7Ok_has (HasL.cons l7At_has (HasL.cons l4Name_has (HasL.cons l1In_has (HasL.cons l7Copy_has (HasL.cons l10Ahead_has (HasL.cons l10Put_has HasL.nil))))))) [0, 1, 2, 3, 4, 8, 9, 10] ((fun a n (_ : Nat) => (fun _ => noInv) a n)) [] Tryz.func253 (by kernel_rfl) (code := _) (by unfold Tryz.f253; rfl) (by kernel_rfl) (by decide) (fun _ => ⟨(), trivial⟩) (by intro h; first | exact fun _ => rfl | cases h) (by kernel_rfl) ?_
  intro a ha
  obtain ⟨r, n, w, b⟩ := a
  replace ha : rpSz r := ha
  simp -implicitDefEqProofs [cPickBack, cL7Ok, cL7At, cL4Name, cL1In, cL7Copy, cL10Ahead, cL10Put, Con.fn, tTabB, tTab, bRepo_def]
  try dsimp only
  simp -implicitDefEqProofs only [and_assoc, exists_eq_left, exists_and_left, RepoD.ex1, RepoD.eta]
  have e0 : repoS r = false → pickS true r n w b = (noR, 1) := fun h => by unfold pickS; rw [if_neg (by simp -implicitDefEqProofs [h])]
  have e1 : repoS r = true → (atL r.heads n < 0 ∨ nameB w = false ∨ ¬ (0 ≤ b ∧ b < r.commits.length)) → pickS true r n w b = (r, 1) := fun h h' => by unfold pickS; rw [if_pos h, if_pos h']
  have e2 : repoS r = true → ¬ (atL r.heads n < 0 ∨ nameB w = false ∨ ¬ (0 ≤ b ∧ b < r.commits.length)) → pickS true r n w b = put10 r n w (treeAt r b) (ahead10 r b) := fun h h' => by unfold pickS; rw [if_pos h, if_neg h']; rfl
  have hr1 : r.commits.length ≤ 1048576 := ha.1
  refine ⟨by omega, fun h => by rw [e0 h]; exact ⟨rfl, rfl, rfl⟩, fun h => ⟨fun hn => ⟨ha, by rw [e1 h (.inl hn)]; exact ⟨rfl, rfl, rfl⟩⟩, fun hn => ⟨fun hw => ⟨ha, by rw [e1 h (.inr (.inl hw))]; exact ⟨rfl, rfl, rfl⟩⟩, fun hw _ => ⟨by omega, by omega, fun _ _ => ⟨fun hb => ⟨ha, by rw [e1 h (.inr (.inr (by omega)))]; exact ⟨rfl, rfl, rfl⟩⟩, fun hb hb' => ?_⟩⟩⟩⟩⟩
  rw [e2 h (by rintro (q | q | q); omega; rw [hw] at q; cases q; omega)]
  have cb := cget hb (show b < r.commits.length by omega)
  have s1 := repoS_treeAt h b
  have s2 := ahead10_tree h b
  rw [cb]
  simp -implicitDefEqProofs [D.asRows, h, hn, hb, s1, s2, show b < r.commits.length by omega, show rpSz r from ha]

end Vx
end Go.Proofs.YtnanellmaelipaaGreatDoor
/-
  Contracts: small numbers as text (strconv.Itoa, l1Dec).
-/
namespace Go.Proofs.YtnanellmaelipaaGreatDoor
namespace Vx
open Go.RowKit
set_option maxRecDepth 8000

def decS (n : Nat) : Str := if n < 10 then [UInt8.ofNat (48 + n)] else [UInt8.ofNat (48 + n / 10), UInt8.ofNat (48 + n % 10)]
theorem has_none {P : Program} {f : Nat} {fn : Func} {code : Code} {k : Con} (hf : P.funcs[f]? = some fn) (hname : (fn.name == "runtime.NumGoroutine") = false) (hb : fn.body = some code) (tot : ∀ a, ∃ x, k.post a x) (nob : k.nob = true → ∀ a, k.boxes a = []) (hp : ∀ a, ¬ k.pre a) (hbd : k.bld = (0, 0, 0, 0) := by rfl) (hbt : k.bty = [] := by rfl) : Has P f k :=
  ⟨fun args w => Go.MuLone.run_callFunc_enter hf hname hb args w, tot, nob, fun a ha => absurd ha (hp a), by rw [hbd]; trivial, .inl hbt⟩
end Vx
end Go.Proofs.YtnanellmaelipaaGreatDoor
/-
  Contracts: trees written (l24Tree).
-/
namespace Go.Proofs.YtnanellmaelipaaGreatDoor
namespace Vx
open Go.RowKit
set_option maxRecDepth 8000

def linesT (l : List Str) : Str := (l.map fun s => s ++ [10]).flatten
def fileH (f : FileD) : Str := [102, 105, 108, 101, 32] ++ f.path ++ [32] ++ decS f.text.length ++ [10]
def treeT (t : List FileD) : Str := (t.map fun f => fileH f ++ linesT f.text).flatten
def okT (t : List FileD) : Prop := t.length ≤ 8 ∧ ∀ f ∈ t, f.path.length ≤ 1048576 ∧ f.text.length ≤ 64 ∧ ∀ s ∈ f.text, s.length ≤ 12
theorem linesT_take (l : List Str) (k : Nat) (h : k < l.length) : linesT (l.take (k + 1)) = linesT (l.take k) ++ (l[k] ++ [10]) := by
  unfold linesT
  rw [take_succ' h, List.map_append, List.flatten_append]
  simp
theorem treeT_take (t : List FileD) (i : Nat) (h : i < t.length) : treeT (t.take (i + 1)) = treeT (t.take i) ++ (fileH t[i] ++ linesT t[i].text) := by
  unfold treeT
  rw [take_succ' h, List.map_append, List.flatten_append]
  simp
theorem linesT_len (l : List Str) (h : ∀ s ∈ l, s.length ≤ 12) : (linesT l).length ≤ 13 * l.length := by
  induction l with
  | nil => simp -implicitDefEqProofs [linesT]
  | cons s r ih =>
    have h1 := h s (by simp)
    have h2 := ih (fun s hs => h s (by simp -implicitDefEqProofs [hs]))
    simp only [linesT, List.map_cons, List.flatten_cons, List.length_append, List.length_cons, List.length_nil] at h2 ⊢
    omega
theorem decS_len (n : Nat) : (decS n).length ≤ 2 := by unfold decS; split <;> simp
theorem fileH_len (f : FileD) : (fileH f).length ≤ f.path.length + 9 := by
  have := decS_len f.text.length
  simp only [fileH, List.length_append, List.length_cons, List.length_nil]
  omega
theorem treeT_len (t : List FileD) (h : ∀ f ∈ t, f.path.length ≤ 1048576 ∧ f.text.length ≤ 64 ∧ ∀ s ∈ f.text, s.length ≤ 12) : (treeT t).length ≤ 1050000 * t.length := by
  induction t with
  | nil => simp -implicitDefEqProofs [treeT]
  | cons f r ih =>
    obtain ⟨h1, h2, h3⟩ := h f (by simp)
    have h4 := ih (fun s hs => h s (by simp -implicitDefEqProofs [hs]))
    have h5 := linesT_len f.text h3
    have h6 := fileH_len f
    simp only [treeT, List.map_cons, List.flatten_cons, List.length_append, List.length_cons] at h4 ⊢
    omega
theorem okT_take {t : List FileD} (h : okT t) (i : Nat) : (treeT (t.take i)).length ≤ 8400000 := by
  have h1 := treeT_len (t.take i) (fun f hf => h.2 f (List.mem_of_mem_take hf))
  have : (t.take i).length ≤ t.length := by simp; omega
  have := h.1
  omega

def ltO (t : List FileD) : Inv := ⟨Nat, fun i => ⟨[(0, true, .sl true 2 (eFiles t)), (2, true, .str []), (3, true, .str (treeT (t.take i))), (4, true, .int .i64 i)], []⟩, fun i => i ≤ t.length, fun i => t.length - i⟩
def ltI (t : List FileD) (g : Nat) : Inv := ⟨Nat, fun k => ⟨[(0, true, .sl true 2 (eFiles t)), (2, true, .str []), (3, true, .str (treeT (t.take g) ++ fileH (t.getD g default) ++ linesT ((t.getD g default).text.take k))), (4, true, .int .i64 g), (5, true, .int .i64 k)], []⟩, fun k => g < t.length ∧ k ≤ (t.getD g default).text.length, fun k => (t.getD g default).text.length - k⟩
def ltInv (t : List FileD) (n g : Nat) : Inv := if n = 3 then ltO t else ltI t g
theorem ltInv_3 (t : List FileD) (g : Nat) : ltInv t 3 g = ltO t := rfl
theorem ltInv_7 (t : List FileD) (g : Nat) : ltInv t 7 g = ltI t g := rfl
theorem okT_of {t : List FileD} (h : treeS t = true) (hp : ∀ f ∈ t, f.path.length ≤ 1048576) : okT t := by
  obtain ⟨h1, h2⟩ := treeS_le t h
  refine ⟨h1, fun f hf => ⟨hp f hf, h2 f hf, fun s hs => ?_⟩⟩
  simp only [treeS, Bool.and_eq_true, decide_eq_true_eq, List.all_eq_true, List.mem_range, okHead] at h
  obtain ⟨i, hi, rfl⟩ := List.getElem_of_mem hf
  have := (h.1 i hi).1.1.2
  simp only [List.getD_eq_getElem?_getD, List.getElem?_eq_getElem hi, Option.getD_some, textB, Bool.and_eq_true, List.all_eq_true] at this
  have := this.2 s hs
  simp only [lineB, Bool.and_eq_true, decide_eq_true_eq] at this
  exact this.1
def treePutS (t : List FileD) : Str := if treeS t then treeT t else []
end Vx
end Go.Proofs.YtnanellmaelipaaGreatDoor
/-
  Plain law: trees read back from their lines, both ways of reading.
-/
namespace Go.Proofs.YtnanellmaelipaaGreatDoor
namespace Vx
open Go.RowKit
set_option maxRecDepth 8000

theorem spl_app {c : UInt8} : ∀ {l r p : Str}, c ∉ l → spl c (l ++ r) p = spl c r (p ++ l) := by
  intro l
  induction l with
  | nil => intro r p _; simp
  | cons x l ih =>
    intro r p h
    have hx : ¬ x = c := fun e => h (by simp [e])
    simp only [List.cons_append, spl, hx, if_false]
    rw [ih (fun hm => h (by simp [hm]))]
    simp
theorem spl_lines : ∀ {ls : List Str}, (∀ l ∈ ls, (10 : UInt8) ∉ l) → spl 10 (linesT ls) [] = ls ++ [[]] := by
  intro ls
  induction ls with
  | nil => intro _; rfl
  | cons l ls ih =>
    intro h
    have e : linesT (l :: ls) = l ++ (10 :: linesT ls) := by simp [linesT]
    rw [e, spl_app (h l (by simp))]
    simp only [spl, if_true, List.nil_append, List.cons_append]
    rw [ih fun x hx => h x (by simp [hx])]
theorem spl_le {c : UInt8} : ∀ {s p : Str}, ∀ q ∈ spl c s p, q.length ≤ p.length + s.length := by
  intro s
  induction s with
  | nil => intro p q hq; simp [spl] at hq; simp [hq]
  | cons x s ih =>
    intro p q hq
    simp only [spl] at hq
    split at hq
    · rcases List.mem_cons.1 hq with rfl | hq
      · simp
      · have := ih q hq; simp at this ⊢; omega
    · have := ih q hq; simp at this ⊢; omega
theorem spl_sum {c : UInt8} : ∀ {s p : Str}, ((spl c s p).map fun q => q.length + 1).sum = p.length + s.length + 1 := by
  intro s
  induction s with
  | nil => intro p; simp [spl]
  | cons x s ih =>
    intro p
    simp only [spl]
    split
    · simp [ih]; omega
    · rw [ih]; simp; omega
theorem spl_none' {c : UInt8} {s p : Str} (h : c ∉ s) : spl c s p = [p ++ s] := by
  have := spl_app (r := []) (p := p) h
  simpa [spl] using this

/-- What a line is. -/
def headL (f : FileD) : Str := [102, 105, 108, 101, 32] ++ f.path ++ [32] ++ decS f.text.length
def encT (t : List FileD) : List Str := (t.map fun f => headL f :: f.text).flatten
theorem treeT_enc (t : List FileD) : treeT t = linesT (encT t) := by
  induction t with
  | nil => rfl
  | cons f t ih =>
    have e1 : treeT (f :: t) = (fileH f ++ linesT f.text) ++ treeT t := by simp [treeT]
    have e2 : linesT (encT (f :: t)) = (fileH f ++ linesT f.text) ++ linesT (encT t) := by simp [encT, linesT, headL, fileH]
    rw [e1, e2, ih]
theorem decS_no {n : Nat} (h : n < 100) (c : UInt8) (hc : c.toNat < 48) : c ∉ decS n := by
  have key : ∀ k : Nat, k < 10 → ¬ c = UInt8.ofNat (48 + k) := fun k hk e => by
    have : c.toNat = 48 + k := by rw [e]; simp; omega
    omega
  unfold decS
  split
  · rename_i h1; simpa using key n h1
  · have h1 := key (n / 10) (by omega)
    have h2 := key (n % 10) (by omega)
    simp only [List.mem_cons, List.not_mem_nil, or_false]
    rintro (e | e)
    · exact h1 e
    · exact h2 e
def plainT (t : List FileD) : Prop := ∀ f ∈ t, (∀ b ∈ f.path, 32 < b.toNat) ∧ f.text.length < 100 ∧ ∀ l ∈ f.text, (10 : UInt8) ∉ l
theorem headL_no {f : FileD} (h1 : ∀ b ∈ f.path, 32 < b.toNat) (h2 : f.text.length < 100) : (10 : UInt8) ∉ headL f := by
  have := decS_no h2 10 (by decide)
  simp only [headL, List.mem_append, not_or]
  exact ⟨⟨⟨by decide, fun h => by have := h1 _ h; simp at this⟩, by decide⟩, this⟩
theorem headL_words {f : FileD} (h1 : ∀ b ∈ f.path, 32 < b.toNat) (h2 : f.text.length < 100) : spl 32 (headL f) [] = [[102, 105, 108, 101], f.path, decS f.text.length] := by
  have e : headL f = [102, 105, 108, 101] ++ (32 :: (f.path ++ (32 :: decS f.text.length))) := by simp [headL]
  rw [e, spl_app (by decide)]
  simp only [spl, if_true, List.nil_append]
  rw [spl_app (fun h => by have := h1 _ h; simp at this)]
  simp only [spl, if_true, List.nil_append]
  rw [spl_none' (decS_no h2 32 (by decide))]
  rfl
theorem encT_no {t : List FileD} (h : plainT t) : ∀ l ∈ encT t, (10 : UInt8) ∉ l := by
  intro l hl
  simp only [encT, List.mem_flatten, List.mem_map] at hl
  obtain ⟨_, ⟨f, hf, rfl⟩, hl⟩ := hl
  obtain ⟨h1, h2, h3⟩ := h f hf
  rcases List.mem_cons.1 hl with rfl | hl
  · exact headL_no h1 h2
  · exact h3 l hl

/-- The program's readFiles: what is read so far, and the lines left. -/
def rfI (num : Str → Int × Bool) : Nat → List FileD → List Str → List FileD × List Str
  | 0, t, ls => (t, ls)
  | _ + 1, t, [] => (t, [])
  | n + 1, t, l :: ls =>
    if (spl 32 l []).length = 3 ∧ (spl 32 l []).getD 0 [] = [102, 105, 108, 101] then
      (if (num ((spl 32 l []).getD 2 [])).2 = true ∧ 0 ≤ (num ((spl 32 l []).getD 2 [])).1 ∧ (num ((spl 32 l []).getD 2 [])).1 ≤ ls.length then
        rfI num n (t ++ [⟨(spl 32 l []).getD 1 [], ls.take (num ((spl 32 l []).getD 2 [])).1.toNat⟩]) (ls.drop (num ((spl 32 l []).getD 2 [])).1.toNat)
      else (t, l :: ls))
    else (t, l :: ls)
theorem rfI_fuel {num} : ∀ {n m : Nat} {t : List FileD} {ls : List Str}, ls.length ≤ n → ls.length ≤ m → rfI num n t ls = rfI num m t ls := by
  intro n
  induction n with
  | zero =>
    intro m t ls h1 _
    have : ls = [] := List.eq_nil_of_length_eq_zero (by omega)
    subst this
    cases m <;> rfl
  | succ n ih =>
    intro m t ls h1 h2
    cases ls with
    | nil => cases m <;> rfl
    | cons l ls =>
      obtain ⟨m, rfl⟩ : ∃ k, m = k + 1 := ⟨m - 1, by simp at h2; omega⟩
      simp only [rfI]
      simp at h1 h2
      split
      · split
        · exact ih (by simp; omega) (by simp; omega)
        · rfl
      · rfl
/-- Lines behind a tree: none, or one that begins with another word. -/
def stopsL (rest : List Str) : Prop := rest = [] ∨ ∃ l r, rest = l :: r ∧ (spl 32 l []).getD 0 [] ≠ [102, 105, 108, 101]
theorem rfI_enc {num} (hnum : ∀ n : Nat, n < 100 → num (decS n) = ((n : Int), true)) {rest : List Str} (hr : stopsL rest) : ∀ {t : List FileD} (_ : plainT t) (acc : List FileD) (n : Nat), (encT t ++ rest).length ≤ n → rfI num n acc (encT t ++ rest) = (acc ++ t, rest) := by
  intro t
  induction t with
  | nil =>
    intro _ acc n _
    simp only [encT, List.map_nil, List.flatten_nil, List.nil_append, List.append_nil]
    rcases hr with rfl | ⟨l, r, rfl, h⟩
    · cases n <;> rfl
    · cases n with
      | zero => rfl
      | succ n => simp only [rfI]; rw [if_neg (fun q => h q.2)]
  | cons f t ih =>
    intro hp acc n hn
    obtain ⟨h1, h2, h3⟩ := hp f (by simp)
    have e : encT (f :: t) ++ rest = headL f :: (f.text ++ (encT t ++ rest)) := by simp [encT]
    rw [e] at hn ⊢
    obtain ⟨n, rfl⟩ : ∃ k, n = k + 1 := ⟨n - 1, by simp at hn; omega⟩
    simp only [rfI, headL_words h1 h2]
    simp only [List.getD_cons_zero, List.getD_cons_succ, hnum _ h2, List.length_cons, List.length_nil]
    rw [if_pos ⟨trivial, trivial⟩, if_pos ⟨by simp, by omega, by simp; omega⟩]
    simp only [Int.toNat_natCast, List.take_left, List.drop_left]
    rw [ih (fun g hg => hp g (by simp [hg])) _ n (by simp at hn ⊢; omega)]
    simp

def linesI (s : Str) : List Str × Bool := if s = [] then ([], true) else ((spl 10 s []).dropLast, decide ((spl 10 s []).getLastD [] = []))
theorem linesI_enc {ls : List Str} (h : ∀ l ∈ ls, (10 : UInt8) ∉ l) : linesI (linesT ls) = (ls, true) := by
  unfold linesI
  rw [spl_lines h]
  cases ls with
  | nil => rfl
  | cons l ls =>
    rw [if_neg (by simp [linesT]), List.dropLast_concat, List.getLastD_concat]
    rfl
def treeReadI (num : Str → Int × Bool) (ok : List FileD → Bool) (s : Str) : List FileD × Bool :=
  if (linesI s).2 = true ∧ (rfI num (linesI s).1.length [] (linesI s).1).2 = [] ∧ ok (rfI num (linesI s).1.length [] (linesI s).1).1 = true ∧ treeT (rfI num (linesI s).1.length [] (linesI s).1).1 = s then ((rfI num (linesI s).1.length [] (linesI s).1).1, true) else ([], false)

/-- The reference's lines: at, bad. -/
def rdLine (ls : List Str) (a : Nat × Bool) : Str × (Nat × Bool) := if ls.length ≤ a.1 + 1 then ([], (a.1, true)) else (ls.getD a.1 [], (a.1 + 1, a.2))
def rdText (ls : List Str) : Nat → List Str → (Nat × Bool) → List Str × (Nat × Bool)
  | 0, acc, a => (acc, a)
  | n + 1, acc, a => rdText ls n (acc ++ [(rdLine ls a).1]) (rdLine ls a).2
def rdMore (ls : List Str) (head : Str) (a : Nat × Bool) : Bool := !a.2 && decide (a.1 + 1 < ls.length) && prefB head (ls.getD a.1 [])
/-- l1Num. -/
def numA : Str → Nat → Int → Int
  | [], _, n => n
  | x :: r, i, n => if x.toNat < 48 ∨ 57 < x.toNat ∨ 6 ≤ i then -1 else numA r (i + 1) (n * 10 + ((x.toNat : Int) - 48))
def numB (s : Str) : Int := if numA s 0 0 = -1 then -1 else if s.length = 0 ∨ (1 < s.length ∧ s.getD 0 0 = 48) then -1 else numA s 0 0
def rdTree (ls : List Str) : Nat → List FileD → (Nat × Bool) → List FileD × (Nat × Bool)
  | 0, t, a => (t, a)
  | n + 1, t, a =>
    if rdMore ls [102, 105, 108, 101, 32] a then
      (if ¬ (cutB (rdLine ls a).1 32 3).length = 3 ∨ 10 < numB ((cutB (rdLine ls a).1 32 3).getD 2 []) then ([], ((rdLine ls a).2.1, true))
      else rdTree ls n (t ++ [⟨(cutB (rdLine ls a).1 32 3).getD 1 [], (rdText ls (numB ((cutB (rdLine ls a).1 32 3).getD 2 [])).toNat [] (rdLine ls a).2).1⟩]) (rdText ls (numB ((cutB (rdLine ls a).1 32 3).getD 2 [])).toNat [] (rdLine ls a).2).2)
    else (t, a)
theorem rdText_enc {ls : List Str} : ∀ {x : List Str} {acc : List Str} {a : Nat} {r : List Str}, ls.drop a = x ++ r → r ≠ [] → rdText ls x.length acc (a, false) = (acc ++ x, (a + x.length, false)) := by
  intro x
  induction x with
  | nil => intro acc a r _ _; simp [rdText]
  | cons l x ih =>
    intro acc a r h hr
    have hlen : (ls.drop a).length = x.length + 1 + r.length := by rw [h]; simp; omega
    have hr1 : 0 < r.length := List.length_pos_iff.2 hr
    rw [List.length_drop] at hlen
    have hg : ls.getD a [] = l := by
      have : (ls.drop a)[0]? = some l := by rw [h]; rfl
      rw [List.getElem?_drop, Nat.add_zero] at this
      simp [List.getD_eq_getElem?_getD, this]
    have hd : ls.drop (a + 1) = x ++ r := by
      rw [← List.drop_drop, h]; rfl
    simp only [rdText, rdLine, List.length_cons]
    rw [if_neg (show ¬ ls.length ≤ a + 1 by omega)]
    simp only [hg]
    rw [ih hd hr]
    simp
    omega
theorem numB_dec {n : Nat} (h : n < 100) : numB (decS n) = n := by
  revert h
  revert n
  decide
/-- Lines behind a tree. -/
def stopsS (rest : List Str) : Prop := (∃ l, rest = [l]) ∨ ∃ l m r, rest = l :: m :: r ∧ prefB [102, 105, 108, 101, 32] l = false
theorem rdTree_enc {ls : List Str} {rest : List Str} (hr : stopsS rest) : ∀ {t : List FileD} (_ : plainT t) (_ : ∀ f ∈ t, f.text.length ≤ 10) (acc : List FileD) (n a : Nat), t.length < n ∨ (t.length ≤ n) → ls.drop a = encT t ++ rest → rdTree ls n acc (a, false) = (acc ++ t, (a + (encT t).length, false)) := by
  have hr0 : rest ≠ [] := by rcases hr with ⟨l, rfl⟩ | ⟨l, m, r, rfl, _⟩ <;> simp
  intro t
  induction t with
  | nil =>
    intro _ _ acc n a _ h
    simp only [encT, List.map_nil, List.flatten_nil, List.nil_append] at h
    have hlen : ls.length - a = rest.length := by rw [← List.length_drop, h]
    cases n with
    | zero => simp [rdTree, encT]
    | succ n =>
      have hm : rdMore ls [102, 105, 108, 101, 32] (a, false) = false := by
        rcases hr with ⟨l, rfl⟩ | ⟨l, m, r, rfl, hp⟩
        · simp only [rdMore, Bool.not_false, Bool.true_and]
          have : ¬ a + 1 < ls.length := by simp at hlen; omega
          simp [this]
        · have hg : ls.getD a [] = l := by
            have : (ls.drop a)[0]? = some l := by rw [h]; rfl
            rw [List.getElem?_drop, Nat.add_zero] at this
            simp [List.getD_eq_getElem?_getD, this]
          simp only [rdMore, hg, hp, Bool.and_false]
      simp only [rdTree, hm]
      simp [encT]
  | cons f t ih =>
    intro hp ht acc n a hn h
    obtain ⟨h1, h2, h3⟩ := hp f (by simp)
    have h10 := ht f (by simp)
    obtain ⟨n, rfl⟩ : ∃ k, n = k + 1 := ⟨n - 1, by simp at hn; omega⟩
    have e : encT (f :: t) ++ rest = headL f :: (f.text ++ (encT t ++ rest)) := by simp [encT]
    rw [e] at h
    have hrl : 0 < rest.length := List.length_pos_iff.2 hr0
    have hlen : ls.length - a = f.text.length + (encT t).length + rest.length + 1 := by rw [← List.length_drop, h]; simp; omega
    have hg : ls.getD a [] = headL f := by
      have : (ls.drop a)[0]? = some (headL f) := by rw [h]; rfl
      rw [List.getElem?_drop, Nat.add_zero] at this
      simp [List.getD_eq_getElem?_getD, this]
    have hd : ls.drop (a + 1) = f.text ++ (encT t ++ rest) := by rw [← List.drop_drop, h]; rfl
    have hm : rdMore ls [102, 105, 108, 101, 32] (a, false) = true := by
      simp only [rdMore, hg, Bool.not_false, Bool.true_and, Bool.and_eq_true, decide_eq_true_eq]
      refine ⟨by omega, ?_⟩
      simp [prefB, headL]
    have hl : rdLine ls (a, false) = (headL f, (a + 1, false)) := by
      unfold rdLine
      rw [if_neg (show ¬ ls.length ≤ a + 1 by omega), hg]
    have hw : cutB (headL f) 32 3 = [[102, 105, 108, 101], f.path, decS f.text.length] := by
      have hc : (headL f).count 32 ≤ 3 := by
        have := spl_len 32 (headL f) []
        rw [headL_words h1 h2] at this
        simp at this
        omega
      have : cutB (headL f) ((32 : UInt8).toNat : Int) 3 = spl 32 (headL f) [] := cut_spl (by omega)
      rw [headL_words h1 h2] at this
      exact this
    simp only [rdTree, hm, if_true, hl, hw, List.getD_cons_zero, List.getD_cons_succ, numB_dec h2, List.length_cons, List.length_nil]
    rw [if_neg (show ¬(¬True ∨ (10:Int) < (f.text.length : Int)) by simp; omega)]
    rw [Int.toNat_natCast, rdText_enc hd (by simp [hr0])]
    simp only [List.nil_append]
    have hd2 : ls.drop (a + 1 + f.text.length) = encT t ++ rest := by
      rw [← List.drop_drop, hd]; simp
    rw [ih (fun g hg => hp g (by simp [hg])) (fun g hg => ht g (by simp [hg])) _ n _ (.inr (by simp at hn; omega)) hd2]
    simp [encT]
    omega
def treeReadS (ok : List FileD → Bool) (s : Str) : List FileD × Bool :=
  if (rdTree (cutB s 10 89) 8 [] (0, false)).2.2 = false ∧ (rdTree (cutB s 10 89) 8 [] (0, false)).2.1 + 1 = (cutB s 10 89).length ∧ ok (rdTree (cutB s 10 89) 8 [] (0, false)).1 = true ∧ treeT (rdTree (cutB s 10 89) 8 [] (0, false)).1 = s then ((rdTree (cutB s 10 89) 8 [] (0, false)).1, true) else ([], false)

structure OkT (ok : List FileD → Bool) : Prop where
  n : ∀ {t}, ok t = true → t.length ≤ 8
  plain : ∀ {t}, ok t = true → plainT t
  ten : ∀ {t}, ok t = true → ∀ f ∈ t, f.text.length ≤ 10
theorem enc_len {t : List FileD} (h : ∀ f ∈ t, f.text.length ≤ 10) : (encT t).length ≤ 11 * t.length := by
  induction t with
  | nil => simp [encT]
  | cons f t ih =>
    have h1 := h f (by simp)
    have h2 := ih fun g hg => h g (by simp [hg])
    have : encT (f :: t) = headL f :: (f.text ++ encT t) := by simp [encT]
    rw [this]
    simp; omega
theorem treeReadI_enc {num} (hnum : ∀ n : Nat, n < 100 → num (decS n) = ((n : Int), true)) {ok} (O : OkT ok) {t : List FileD} (h : ok t = true) : treeReadI num ok (treeT t) = (t, true) := by
  have h1 : linesI (treeT t) = (encT t, true) := by rw [treeT_enc]; exact linesI_enc (encT_no (O.plain h))
  have h2 : rfI num (encT t).length [] (encT t) = (t, []) := by
    have := rfI_enc hnum (rest := []) (.inl rfl) (O.plain h) [] (encT t).length (by simp)
    simpa using this
  unfold treeReadI
  rw [h1]
  simp only [h2]
  simp [h]
theorem treeReadS_enc {ok} (O : OkT ok) {t : List FileD} (h : ok t = true) : treeReadS ok (treeT t) = (t, true) := by
  have hl := enc_len (O.ten h)
  have hn := O.n h
  have h1 : cutB (treeT t) 10 89 = encT t ++ [[]] := by
    have e : spl 10 (treeT t) [] = encT t ++ [[]] := by rw [treeT_enc]; exact spl_lines (encT_no (O.plain h))
    have hc : (treeT t).count 10 ≤ 89 := by
      have := spl_len 10 (treeT t) []
      rw [e] at this
      simp at this
      omega
    have : cutB (treeT t) ((10 : UInt8).toNat : Int) 89 = spl 10 (treeT t) [] := cut_spl (by omega)
    rw [e] at this
    exact this
  have h2 : rdTree (encT t ++ [[]]) 8 [] (0, false) = (t, ((encT t).length, false)) := by
    have := rdTree_enc (ls := encT t ++ [[]]) (rest := [[]]) (.inl ⟨[], rfl⟩) (O.plain h) (O.ten h) [] 8 0 (.inr hn) rfl
    simpa using this
  unfold treeReadS
  rw [h1]
  simp only [h2]
  simp [h]
theorem treeReadI_ok {num ok s} : ((treeReadI num ok s).2 = true → ok (treeReadI num ok s).1 = true ∧ treeT (treeReadI num ok s).1 = s) ∧ ((treeReadI num ok s).2 = false → (treeReadI num ok s).1 = []) := by
  generalize hx : treeReadI num ok s = x
  unfold treeReadI at hx
  split at hx
  · rename_i h; subst hx; exact ⟨fun _ => ⟨h.2.2.1, h.2.2.2⟩, fun h => (by cases h)⟩
  · subst hx; exact ⟨fun h => (by cases h), fun _ => rfl⟩
theorem treeReadS_ok {ok s} : ((treeReadS ok s).2 = true → ok (treeReadS ok s).1 = true ∧ treeT (treeReadS ok s).1 = s) ∧ ((treeReadS ok s).2 = false → (treeReadS ok s).1 = []) := by
  generalize hx : treeReadS ok s = x
  unfold treeReadS at hx
  split at hx
  · rename_i h; subst hx; exact ⟨fun _ => ⟨h.2.2.1, h.2.2.2⟩, fun h => (by cases h)⟩
  · subst hx; exact ⟨fun h => (by cases h), fun _ => rfl⟩
theorem treeRead_eq {num} (hnum : ∀ n : Nat, n < 100 → num (decS n) = ((n : Int), true)) {ok} (O : OkT ok) (s : Str) : treeReadI num ok s = treeReadS ok s := by
  obtain ⟨a1, a2⟩ := treeReadI_ok (num := num) (ok := ok) (s := s)
  obtain ⟨b1, b2⟩ := treeReadS_ok (ok := ok) (s := s)
  cases hI : (treeReadI num ok s).2 with
  | true =>
    obtain ⟨h1, h2⟩ := a1 hI
    have h3 := treeReadS_enc O h1
    rw [h2] at h3
    rw [h3]; exact Prod.ext rfl hI
  | false =>
    cases hS : (treeReadS ok s).2 with
    | true =>
      obtain ⟨h1, h2⟩ := b1 hS
      have h3 := treeReadI_enc hnum O h1
      rw [h2] at h3
      rw [h3] at hI; cases hI
    | false => exact Prod.ext ((a2 hI).trans (b2 hS).symm) (hI.trans hS.symm)

theorem spl_mem {c : UInt8} : ∀ {s p : Str}, ∀ b ∈ s, b = c ∨ ∃ q ∈ spl c s p, b ∈ q := by
  intro s
  induction s with
  | nil => intro p b hb; cases hb
  | cons x s ih =>
    intro p b hb
    have keep : ∀ (s p : Str), ∀ y ∈ p, ∃ q ∈ spl c s p, y ∈ q := by
      intro s
      induction s with
      | nil => intro p y hy; exact ⟨p, by simp [spl], hy⟩
      | cons z s ih2 =>
        intro p y hy
        simp only [spl]
        split
        · exact ⟨p, by simp, hy⟩
        · exact ih2 (p ++ [z]) y (by simp [hy])
    simp only [spl]
    split
    · rename_i hx
      rcases List.mem_cons.1 hb with rfl | hb
      · exact .inl hx
      · rcases ih (p := []) b hb with h | ⟨q, h1, h2⟩
        · exact .inl h
        · exact .inr ⟨q, by simp [h1], h2⟩
    · rcases List.mem_cons.1 hb with rfl | hb
      · exact .inr (keep s (p ++ [b]) b (by simp))
      · exact ih b hb
theorem pathI_plain {s : Str} (h : pathI s = true) : (∀ b ∈ s, 32 < b.toNat) ∧ s.length ≤ 20 := by
  simp only [pathI, Bool.and_eq_true, decide_eq_true_eq, List.all_eq_true] at h
  obtain ⟨h1, h2⟩ := h
  constructor
  · intro b hb
    rcases spl_mem (c := 47) (p := []) b hb with rfl | ⟨q, hq, hbq⟩
    · decide
    · have h3 := h2 q hq
      simp only [nameB, Bool.and_eq_true, List.all_eq_true] at h3
      have h4 := h3.2 b hbq
      simp only [wordB, Bool.or_eq_true, Bool.and_eq_true, decide_eq_true_eq] at h4
      omega
  · have h3 := spl_sum (c := 47) (s := s) (p := [])
    have h4 : ∀ (l : List Str), (∀ q ∈ l, nameB q = true) → ((l.map fun q => q.length + 1).sum) ≤ 7 * l.length := by
      intro l
      induction l with
      | nil => intro _; simp
      | cons q l ih =>
        intro h
        have a := ih fun x hx => h x (by simp [hx])
        have b := h q (by simp)
        simp only [nameB, Bool.and_eq_true, decide_eq_true_eq] at b
        simp only [List.map_cons, List.sum_cons, List.length_cons]
        omega
    have h5 := h4 _ h2
    rw [h3] at h5
    simp at h5
    omega
theorem treeI_plain {t : List FileD} (h : treeI t = true) : ∀ f ∈ t, ((∀ b ∈ f.path, 32 < b.toNat) ∧ f.path.length ≤ 20) ∧ f.text.length ≤ 10 ∧ ∀ l ∈ f.text, (10 : UInt8) ∉ l := by
  intro f hf
  simp only [treeI, Bool.and_eq_true, decide_eq_true_eq, List.all_eq_true, List.mem_range, headI] at h
  obtain ⟨i, hi, rfl⟩ := List.getElem_of_mem hf
  have h1 := (h.2 i hi).1.1
  have hg : t.getD i default = t[i] := by simp [List.getD_eq_getElem?_getD, hi]
  rw [hg] at h1
  refine ⟨pathI_plain h1.2, ?_⟩
  have h2 := h1.1
  simp only [textB, Bool.and_eq_true, decide_eq_true_eq, List.all_eq_true] at h2
  refine ⟨h2.1, fun l hl h10 => ?_⟩
  have h3 := h2.2 l hl
  simp only [lineB, Bool.and_eq_true, List.all_eq_true, decide_eq_true_eq] at h3
  have := h3.2 10 h10
  simp at this
theorem okT_treeI : OkT treeI := ⟨fun h => (treeI_le _ h).1, fun h f hf => by
    obtain ⟨⟨h1, _⟩, h2, h3⟩ := treeI_plain h f hf
    exact ⟨h1, by omega, h3⟩, fun h f hf => (treeI_plain h f hf).2.1⟩

theorem cutL_len' {b : Int} {m : Nat} : ∀ {s c : Str} {n : Nat}, (cutL b m s c n).length ≤ s.length + 1 := by
  intro s
  induction s with
  | nil => intro c n; simp [cutL]
  | cons x s ih =>
    intro c n
    simp only [cutL]
    split
    · split
      · have := ih (c := []) (n := n + 1); simp; omega
      · have := ih (c := c ++ [x]) (n := n); simp; omega
    · simp
theorem linesI_bd (s : Str) : (linesI s).1.length ≤ s.length ∧ ∀ l ∈ (linesI s).1, l.length ≤ s.length := by
  unfold linesI
  split
  · simp
  · have h1 := spl_len 10 s []
    have h2 : s.count 10 ≤ s.length := List.count_le_length
    refine ⟨by simp; omega, fun l hl => ?_⟩
    have := spl_le (c := 10) (s := s) (p := []) l (List.dropLast_subset _ hl)
    simpa using this
theorem rfI_path {num : Str → Int × Bool} {N : Nat} : ∀ {n : Nat} {t : List FileD} {ls : List Str}, (∀ l ∈ ls, l.length ≤ N) → (∀ f ∈ t, f.path.length ≤ N) → ∀ f ∈ (rfI num n t ls).1, f.path.length ≤ N := by
  intro n
  induction n with
  | zero => intro t ls _ h; exact h
  | succ n ih =>
    intro t ls h1 h2
    cases ls with
    | nil => exact h2
    | cons l ls =>
      rw [rfI]
      split
      · split
        · refine ih (fun x hx => h1 x (by simp [List.mem_of_mem_drop hx])) fun f hf => ?_
          rcases List.mem_append.1 hf with hf | hf
          · exact h2 f hf
          · have : f = _ := List.mem_singleton.1 hf
            subst this
            show ((spl 32 l []).getD 1 []).length ≤ N
            rw [List.getD_eq_getElem?_getD]
            cases hq : (spl 32 l [])[1]? with
            | none => simp
            | some q =>
              have := spl_le (c := 32) (s := l) (p := []) q (List.mem_of_getElem? hq)
              have := h1 l (by simp)
              simp at *
              omega
        · exact h2
      · exact h2

end Vx
end Go.Proofs.YtnanellmaelipaaGreatDoor
/-
  Contracts: operations done, plays (the reference's l19Tree, l19Do, RepoDo, RepoPlay).
-/
namespace Go.Proofs.YtnanellmaelipaaGreatDoor
namespace Vx
open Go.RowKit
set_option maxRecDepth 8000
--TAB tTabB

def opSz (o : OpD) : Prop := o.path.length ≤ 1048576 ∧ o.to_.length ≤ 1048576 ∧ o.text.length ≤ 1048576
def cL19Tree : Con := .fn 29 (RepoD × OpD × (List FileD × Bool)) (fun a => [vRepo a.1, vOp a.2.1, .sl true 2 (eFiles a.2.2.1), .bool a.2.2.2]) (fun a => rpSz a.1 ∧ a.2.2.1.length ≤ 1048576 ∧ ∀ f ∈ a.2.2.1, f.text.length ≤ 1048576) (fun a => .tup [.agg [.sl false 3 (eCommits (tree19 a.1 a.2.1 a.2.2).1.commits), .sl false 2 (eHeads (tree19 a.1 a.2.1 a.2.2).1.heads)], .int .i64 (tree19 a.1 a.2.1 a.2.2).2]) (fun _ => [])
set_option maxHeartbeats 4000000 in
theorem l19Tree_has : Has Tryz.prog 248 cL19Tree := by
  refine has_walk mixed tTabB_ok (l := [(276, cRepoCommit)]) (HasL.cons repoCommit_has HasL.nil) [0, 1, 2, 3, 4, 5, 8, 9, 10, 11] ((fun a n (_ : Nat) => (fun _ => noInv) a n)) [] Tryz.func248 (by kernel_rfl) (code := _) (by unfold Tryz.f248; rfl) (by kernel_rfl) (by decide) (fun _ => ⟨(), trivial⟩) (by intro h; first | exact fun _ => rfl | cases h) (by kernel_rfl) ?_
  intro a ha
  obtain ⟨r, o, t, k⟩ := a
  obtain ⟨h1, h2, h3⟩ : rpSz r ∧ t.length ≤ 1048576 ∧ ∀ f ∈ t, f.text.length ≤ 1048576 := ha
  simp (maxSteps := 8000000) -implicitDefEqProofs [-kStep_move, -Bool.exists_bool, cL19Tree, cRepoCommit, Con.fn, tTabB, tTab, bRepo_def, bOp]
  try dsimp only
  simp -implicitDefEqProofs only [and_assoc, exists_eq_left, exists_and_left, RepoD.ex1, RepoD.eta, OpD.ex1, OpD.eta]
  refine ⟨fun h => ?_, fun h => ⟨h1, h2, h3, fun h' => ?_, fun h' => ?_⟩⟩
  · unfold tree19; rw [if_neg (by simp -implicitDefEqProofs [h])]; exact ⟨rfl, rfl, rfl⟩
  · unfold tree19; rw [if_pos h, if_neg (by simp -implicitDefEqProofs [h'])]; exact ⟨rfl, rfl, rfl⟩
  · unfold tree19; rw [if_pos h, if_pos h']; exact ⟨rfl, rfl, rfl⟩
theorem treeSetS_tree {t : List FileD} (h : treeS t = true) (f : FileD) : treeS (treeSetS t f).1 = true := by
  unfold treeSetS
  rw [if_pos h]
  split
  · assumption
  · exact h
theorem treeMoveS_tree {t : List FileD} (h : treeS t = true) (p to : Str) : treeS (treeMoveS t p to).1 = true := by
  unfold treeMoveS
  rw [if_pos h]
  split
  · exact h
  · split
    · exact h
    · rename_i q
      cases q2 : treeS (mvFs p to (filB (dropB p) t) t) with
      | true => rfl
      | false => exact absurd (.inl q2) q
theorem treeDropS_sz {t : List FileD} (h : treeS t = true) (p : Str) : szT (treeDropS t p).1 := by
  unfold treeDropS filB
  rw [if_pos h]
  obtain ⟨h1, h2⟩ := treeS_szT h
  exact ⟨Nat.le_trans (List.length_filter_le _ _) h1, fun f hf => h2 f (List.mem_filter.1 hf).1⟩
theorem treeS_path {t : List FileD} (h : treeS t = true) : ∀ f ∈ t, f.path.length ≤ 20 := fun f hf => (treeI_plain (by rw [tree_eq]; exact h) f hf).1.2
theorem szT_1 {t : List FileD} (h : szT t) : t.length ≤ 1048576 ∧ ∀ f ∈ t, f.text.length ≤ 1048576 := ⟨by have := h.1; omega, fun f hf => by have := h.2 f hf; omega⟩
theorem treeOf_tree {r : RepoD} (h : repoS r = true) (n : Str) : treeS (treeOf r n) = true := by
  unfold treeOf
  split
  · exact repoS_treeAt h _
  · rfl

def cL19Do : Con := .fn 134 (RepoD × OpD) (fun a => [vRepo a.1, vOp a.2]) (fun a => repoS a.1 = true ∧ opSz a.2) (fun a => .tup [.agg [.sl false 3 (eCommits (do19 a.1 a.2).1.commits), .sl false 2 (eHeads (do19 a.1 a.2).1.heads)], .int .i64 (do19 a.1 a.2).2]) (fun _ => [])
set_option maxHeartbeats 4000000 in
theorem l19Do_has : Has Tryz.prog 219 cL19Do := by
  refine has_walk mixed tTabB_ok (l := [(124, cL7At), (247, cTreeSetS), (249, cTreeDropS), (250, cTreeMoveS), (248, cL19Tree), (251, cRepoBranch), (48, cUniteInto), (252, cPickOf), (253, cPickBack)]) (HasL.cons l7At_has (HasL.cons treeSetS_has (HasL.cons treeDropS_has (HasL.cons treeMoveS_has (HasL.cons l19Tree_has (HasL.cons repoBranch_has (HasL.cons uniteInto_has (HasL.cons pickOf_has (HasL.cons pickBack_has HasL.nil))))))))) [0, 1, 2, 3, 4, 5, 6, 7, 8, 9, 10, 11, 12, 13, 14, 15, 30] ((fun a n (_ : Nat) => (fun _ => noInv) a n)) [] Tryz.func219 (by kernel_rfl) (code := _) (by unfold Tryz.f219; rfl) (by kernel_rfl) (by decide) (fun _ => ⟨(), trivial⟩) (by intro h; first | exact fun _ => rfl | cases h) (by kernel_rfl) ?_
  intro a ha
  obtain ⟨r, o⟩ := a
  obtain ⟨h1, h2, h3, h4⟩ : repoS r = true ∧ opSz o := ha
  simp (maxSteps := 8000000) -implicitDefEqProofs [-kStep_move, -Bool.exists_bool, cL19Do, cL7At, cTreeSetS, cTreeDropS, cTreeMoveS, cL19Tree, cRepoBranch, cUniteInto, cPickOf, cPickBack, Con.fn, tTabB, tTab, bRepo_def, bOp]
  try dsimp only
  simp -implicitDefEqProofs only [and_assoc, exists_eq_left, exists_and_left, RepoD.ex1, RepoD.eta, OpD.ex1, OpD.eta]
  have hsz := repoS_sz h1
  have hat := atL_le (n := o.branch) ((repoS_iff r).1 h1).2.1
  have hT := treeOf_tree h1 o.branch
  have e1 : o.kind = 1 → do19 r o = tree19 r o (treeSetS (treeOf r o.branch) ⟨o.path, o.text⟩) := fun h => by unfold do19; rw [if_pos h]
  have e2 : o.kind = 2 → do19 r o = tree19 r o (treeDropS (treeOf r o.branch) o.path) := fun h => by unfold do19; rw [if_neg (by omega), if_pos h]
  have e3 : o.kind = 3 → do19 r o = tree19 r o (treeMoveS (treeOf r o.branch) o.path o.to_) := fun h => by unfold do19; rw [if_neg (by omega), if_neg (by omega), if_pos h]
  have e4 : o.kind = 4 → (repoBranchS r o.to_ (atL r.heads o.branch)).2 = true → do19 r o = ((repoBranchS r o.to_ (atL r.heads o.branch)).1, 0) := fun h h' => by unfold do19; rw [if_neg (by omega), if_neg (by omega), if_neg (by omega), if_pos h, if_pos h']
  have e4' : o.kind = 4 → (repoBranchS r o.to_ (atL r.heads o.branch)).2 = false → do19 r o = (r, 1) := fun h h' => by unfold do19; rw [if_neg (by omega), if_neg (by omega), if_neg (by omega), if_pos h, if_neg (by simp -implicitDefEqProofs [h'])]
  have e5 : o.kind = 5 → do19 r o = uniteS r o.branch o.who (atL r.heads o.to_) := fun h => by unfold do19; rw [if_neg (by omega), if_neg (by omega), if_neg (by omega), if_neg (by omega), if_pos h]
  have e6 : o.kind = 6 → do19 r o = pickS false r o.branch o.who o.at_ := fun h => by unfold do19; rw [if_neg (by omega), if_neg (by omega), if_neg (by omega), if_neg (by omega), if_neg (by omega), if_pos h]
  have e7 : ¬ o.kind = 1 → ¬ o.kind = 2 → ¬ o.kind = 3 → ¬ o.kind = 4 → ¬ o.kind = 5 → ¬ o.kind = 6 → do19 r o = pickS true r o.branch o.who o.at_ := fun k1 k2 k3 k4 k5 k6 => by unfold do19; rw [if_neg k1, if_neg k2, if_neg k3, if_neg k4, if_neg k5, if_neg k6]
  have s1 := szT_1 (treeS_szT (treeSetS_tree hT ⟨o.path, o.text⟩))
  have s2 := szT_1 (treeDropS_sz hT o.path)
  have s3 := szT_1 (treeS_szT (treeMoveS_tree hT o.path o.to_))
  have s0 := treeS_szT hT
  have sp := treeS_path hT
  have sp : ∀ f ∈ treeOf r o.branch, f.path.length ≤ 1048576 := fun f hf => by have := sp f hf; omega
  have sl : (treeOf r o.branch).length ≤ 1048575 := by have := s0.1; omega
  have st := (szT_1 s0).2
  refine ⟨fun hp => ⟨hp, by omega, fun _ _ => ?_⟩, fun hn => ?_⟩
  · have ca := cget (r := r) hp (by omega)
    have eT : treeAt r (atL r.heads o.branch) = treeOf r o.branch := by unfold treeOf; rw [if_pos hp]
    rw [ca, eT]
    simp -implicitDefEqProofs [D.asRows]
    exact ⟨fun h => ⟨sl, st, h4, hsz, s1.1, s1.2, by rw [e1 h]; exact ⟨rfl, rfl, rfl⟩⟩, fun k1 => ⟨fun h => ⟨(szT_1 s0).1, st, hsz, s2.1, s2.2, by rw [e2 h]; exact ⟨rfl, rfl, rfl⟩⟩, fun k2 => ⟨fun h => ⟨(szT_1 s0).1, st, h3, sp, hsz, s3.1, s3.2, by rw [e3 h]; exact ⟨rfl, rfl, rfl⟩⟩, fun k3 => ⟨fun h => ⟨hsz, fun h' => by rw [e4' h h']; exact ⟨rfl, rfl, rfl⟩, fun h' => by rw [e4 h h']; exact ⟨rfl, rfl, rfl⟩⟩, fun k4 => ⟨fun h => ⟨hsz, by rw [e5 h]; exact ⟨rfl, rfl, rfl⟩⟩, fun k5 => ⟨fun h => ⟨hsz, by rw [e6 h]; exact ⟨rfl, rfl, rfl⟩⟩, fun k6 => ⟨hsz, by rw [e7 k1 k2 k3 k4 k5 k6]; exact ⟨rfl, rfl, rfl⟩⟩⟩⟩⟩⟩⟩⟩
  · have eT : treeOf r o.branch = [] := by unfold treeOf; rw [if_neg (by omega)]
    simp -implicitDefEqProofs only [FileD.ex1]
    rw [← eT]
    exact ⟨fun h => ⟨sl, st, h4, hsz, s1.1, s1.2, by rw [e1 h]; exact ⟨rfl, rfl, rfl⟩⟩, fun k1 => ⟨fun h => ⟨(szT_1 s0).1, st, hsz, s2.1, s2.2, by rw [e2 h]; exact ⟨rfl, rfl, rfl⟩⟩, fun k2 => ⟨fun h => ⟨(szT_1 s0).1, st, h3, sp, hsz, s3.1, s3.2, by rw [e3 h]; exact ⟨rfl, rfl, rfl⟩⟩, fun k3 => ⟨fun h => ⟨hsz, fun h' => by rw [e4' h h']; exact ⟨rfl, rfl, rfl⟩, fun h' => by rw [e4 h h']; exact ⟨rfl, rfl, rfl⟩⟩, fun k4 => ⟨fun h => ⟨hsz, by rw [e5 h]; exact ⟨rfl, rfl, rfl⟩⟩, fun k5 => ⟨fun h => ⟨hsz, by rw [e6 h]; exact ⟨rfl, rfl, rfl⟩⟩, fun k6 => ⟨hsz, by rw [e7 k1 k2 k3 k4 k5 k6]; exact ⟨rfl, rfl, rfl⟩⟩⟩⟩⟩⟩⟩⟩

def rpI (l : List OpD) : Inv := ⟨Nat, fun i => ⟨[(0, true, .sl true 7 (eOps l)), (2, true, .ptr 10 0), (3, true, .ptr 11 0), (4, true, .int .i64 i)], [(10, bNilR), (11, .box 26 [.sl false 3 (eCommits (playF (l.take i)).commits), .sl false 2 (eHeads (playF (l.take i)).heads)])]⟩, fun i => i ≤ l.length ∧ i ≤ 30, fun i => l.length - i⟩
def cRepoPlayS : Con := .fn 34 (List OpD) (fun l => [.sl true 7 (eOps l)]) (fun l => ∀ o ∈ l, opSz o) (fun l => .agg [.sl false 3 (eCommits (playS l).commits), .sl false 2 (eHeads (playS l).heads)]) (fun _ => [])
set_option maxHeartbeats 4000000 in
theorem repoPlayS_has : Has Tryz.prog 193 cRepoPlayS := by
  refine has_walk mixed tTabB_ok (l := [(218, cL19Ok), (219, cL19Do)]) (HasL.cons l19Ok_has (HasL.cons l19Do_has HasL.nil)) [0, 2, 3, 4, 5] ((fun a n (_ : Nat) => (fun l _ => rpI l) a n)) [12287] Tryz.func193 (by kernel_rfl) (code := _) (by unfold Tryz.f193; rfl) (by kernel_rfl) (by decide) (fun _ => ⟨(), trivial⟩) (by intro h; first | exact fun _ => rfl | cases h) (by kernel_rfl) ?_
  intro (l : List OpD) (ha : ∀ o ∈ l, opSz o)
  simp (maxSteps := 8000000) -implicitDefEqProofs [-kStep_move, -Bool.exists_bool, cRepoPlayS, cL19Ok, cL19Do, Con.fn, tTabB, tTab, rpI]
  try dsimp only
  simp -implicitDefEqProofs only [and_assoc, exists_eq_left, exists_and_left, RepoD.ex1, RepoD.eta, OpD.ex1, OpD.eta]
  refine ⟨rfl, rfl, Nat.zero_le _, Nat.zero_le _, fun t ht h30 _ => ⟨fun hlt h30' => ⟨hlt, fun _ => ?_⟩, ?_⟩⟩
  · have qq : Option.map eOp l[t]? = some (eOp l[t]) := by simp -implicitDefEqProofs [hlt]
    have hs := playF_succ hlt
    have hok := (playF_ok (l.take t)).1
    have ho := ha l[t] (List.getElem_mem hlt)
    rw [qq]
    generalize playF (l.take t) = R at *
    generalize l[t] = o at *
    simp -implicitDefEqProofs [eOp, D.asInt, D.asStr, D.asRows]
    refine ⟨ho.2.2, fun hb => ⟨hlt, fun _ => ⟨hok, ho, by omega, by omega, fun _ _ => ⟨t + 1, by omega, by rw [hs, if_pos hb], by rw [hs, if_pos hb], by omega, by omega, by omega⟩⟩⟩, fun hb => ⟨by omega, by omega, fun _ _ => ⟨t + 1, by omega, by rw [hs, if_neg (by simp -implicitDefEqProofs [hb])], by rw [hs, if_neg (by simp -implicitDefEqProofs [hb])], by omega, by omega, by omega⟩⟩⟩
  · intro h
    have e : playS l = playF (l.take t) := by
      unfold playS
      rcases Nat.lt_or_ge t l.length with h1 | h1
      · have := h h1
        have : t = 30 := by omega
        rw [this]
      · rw [List.take_of_length_le h1, List.take_of_length_le (by omega)]
    rw [e]; exact ⟨rfl, rfl⟩

end Vx
end Go.Proofs.YtnanellmaelipaaGreatDoor
/-
  Contracts: operations drawn.
-/
namespace Go.Proofs.YtnanellmaelipaaGreatDoor
namespace Vx
open Go.RowKit
set_option maxRecDepth 8000

def cBranchD : Con := { A := Str × Int, X := Str, n := 6, args := fun _ => [.ptr 0 0], boxes := fun a => [(0, 157, [.sl true 1 (eBytes a.1), .int .i64 a.2])], pre := fun a => a.1.length ≤ 2000 ∧ 0 ≤ a.2 ∧ a.2 ≤ 1073741800, post := fun _ x => x.length ≤ 4, res := fun _ x => .str x, fin := fun a _ => [(0, rdBox a.1 (a.2 + 1))], nob := false }
set_option maxHeartbeats 4000000 in
theorem branchD_has : Has Tryz.prog 254 cBranchD := by
  refine has_walk mixed tTab_ok (l := [(90, cOf)]) (HasL.cons of_has HasL.nil) [0, 2] ((fun a n (_ : Nat) => (fun _ => noInv) a n)) [] Tryz.func254 (by kernel_rfl) (code := _) (by unfold Tryz.f254; rfl) (by kernel_rfl) (by decide) (fun _ => ⟨([] : Str), Nat.zero_le 4⟩) (by intro h; first | exact fun _ => rfl | cases h) (by kernel_rfl) ?_
  intro a ha
  obtain ⟨s, p⟩ := a
  obtain ⟨h1, h2, h3⟩ : s.length ≤ 2000 ∧ 0 ≤ p ∧ p ≤ 1073741800 := ha
  simp -implicitDefEqProofs [cBranchD, cOf, tTab, eStrs_isCons, clash, kd, eByte, all_true]
  exact ⟨s, p, ⟨rfl, rfl⟩, ⟨h1, by omega, by omega⟩, by simp⟩

/-- What is known of a drawn operation. -/
def drawnO (o : OpD) : Prop := (1 ≤ o.kind ∧ o.kind ≤ 7) ∧ o.branch.length ≤ 4 ∧ o.who.length ≤ 3 ∧ o.path.length ≤ 5 ∧ o.to_.length ≤ 5 ∧ (0 ≤ o.at_ ∧ o.at_ ≤ 9) ∧ o.text.length ≤ 8 ∧ ∀ s ∈ o.text, s.length ≤ 7
def cOpD : Con := { A := Str × Int, X := OpD × Int, n := 63, args := fun _ => [.ptr 0 0], boxes := fun a => [(0, 157, [.sl true 1 (eBytes a.1), .int .i64 a.2])], pre := fun a => a.1.length ≤ 2000 ∧ 0 ≤ a.2 ∧ a.2 ≤ 1073741500, post := fun a x => drawnO x.1 ∧ a.2 ≤ x.2 ∧ x.2 ≤ a.2 + 20, res := fun _ x => .agg [.int .i64 x.1.kind, .str x.1.branch, .str x.1.who, .str x.1.path, .str x.1.to_, .int .i64 x.1.at_, .own 8 1 (eStrs x.1.text)], fin := fun a x => (0, rdBox a.1 x.2) :: ownStrs 8 x.1.text, nob := false }
set_option maxHeartbeats 4000000 in
theorem opD_has : Has Tryz.prog 220 cOpD := by
  refine has_walk mixed tTab_ok (l := [(254, cBranchD), (90, cOf), (145, cPick), (255, cPath), (256, cText)]) (HasL.cons branchD_has (HasL.cons of_has (HasL.cons pick_has (HasL.cons path_has (HasL.cons text_has HasL.nil))))) [0, 2, 3, 11, 34, 42] ((fun a n (_ : Nat) => (fun _ => noInv) a n)) [] Tryz.func220 (by kernel_rfl) (code := _) (by unfold Tryz.f220; rfl) (by kernel_rfl) (by decide) (fun a => ⟨((⟨1, [], [], [], [], 0, []⟩ : OpD), a.2), (by simp -implicitDefEqProofs [drawnO]), Int.le_refl _, by omega⟩) (by intro h; first | exact fun _ => rfl | cases h) (by kernel_rfl) ?_
  intro a ha
  obtain ⟨s, p⟩ := a
  obtain ⟨h1, h2, h3⟩ : s.length ≤ 2000 ∧ 0 ≤ p ∧ p ≤ 1073741500 := ha
  simp (maxSteps := 8000000) -implicitDefEqProofs [-kStep_move, -Bool.exists_bool, cOpD, cBranchD, cOf, cPick, cPath, cText, tTab, eStrs_isCons, clash, kd, eByte, all_true]
  have fin : ∀ (k : Int) (b w pa t : Str) (i : Int) (q : Int), (1 ≤ k ∧ k ≤ 7) → b.length ≤ 4 → w.length ≤ 3 → pa.length ≤ 5 → t.length ≤ 5 → (0 ≤ i ∧ i ≤ 9) → (p ≤ q ∧ q ≤ p + 20) → ∃ (a : OpD) (c : Int), (drawnO a ∧ p ≤ c ∧ c ≤ p + 20) ∧ (a.kind = k ∧ a.branch = b ∧ a.who = w ∧ a.path = pa ∧ a.to_ = t ∧ a.at_ = i ∧ a.text = []) ∧ (s = s ∧ c = q) ∧ a.text = [] :=
    fun k b w pa t i q h1 h2 h3 h4 h5 h6 h7 => ⟨⟨k, b, w, pa, t, i, []⟩, q, ⟨⟨h1, h2, h3, h4, h5, h6, Nat.zero_le _, by simp⟩, h7⟩, ⟨rfl, rfl, rfl, rfl, rfl, rfl, rfl⟩, ⟨rfl, rfl⟩, rfl⟩
  have fin2 : ∀ (k : Int) (b w pa t : Str) (i : Int) (l : List Str) (q : Int), (1 ≤ k ∧ k ≤ 7) → b.length ≤ 4 → w.length ≤ 3 → pa.length ≤ 5 → t.length ≤ 5 → (0 ≤ i ∧ i ≤ 9) → (l.length ≤ 8) → (∀ s ∈ l, s.length ≤ 7) → (p ≤ q ∧ q ≤ p + 20) → ∃ (a : OpD) (c : Int), (drawnO a ∧ p ≤ c ∧ c ≤ p + 20) ∧ (a.kind = k ∧ a.branch = b ∧ a.who = w ∧ a.path = pa ∧ a.to_ = t ∧ a.at_ = i ∧ a.text = l) ∧ (s = s ∧ c = q) ∧ l = a.text :=
    fun k b w pa t i l q h1 h2 h3 h4 h5 h6 g1 g2 h7 => ⟨⟨k, b, w, pa, t, i, l⟩, q, ⟨⟨h1, h2, h3, h4, h5, h6, g1, g2⟩, h7⟩, ⟨rfl, rfl, rfl, rfl, rfl, rfl, rfl⟩, ⟨rfl, rfl⟩, rfl⟩
  repeat' (first
    | intro _
    | refine ⟨_, _, ⟨rfl, rfl⟩, ⟨h1, by omega, by omega⟩, ?_⟩
    | exact fin _ _ _ _ _ _ _ (by omega) (by first | assumption | omega | decide) (by first | assumption | omega | decide) (by first | assumption | omega | decide) (by first | assumption | omega | decide) (by omega) (by omega)
    | exact fin2 _ _ _ _ _ _ _ _ (by omega) (by first | assumption | omega | decide) (by first | assumption | omega | decide) (by first | assumption | omega | decide) (by first | assumption | omega | decide) (by omega) (by assumption) (by assumption) (by omega)
    | apply And.intro)

end Vx
end Go.Proofs.YtnanellmaelipaaGreatDoor
/-
  Contracts: repositories drawn.
-/
namespace Go.Proofs.YtnanellmaelipaaGreatDoor
namespace Vx
open Go.RowKit
set_option maxRecDepth 8000

def cOpsD : Con := { A := Str × Int, X := List OpD × Int, n := 19, args := fun _ => [.ptr 0 0], boxes := fun a => [(0, 157, [.sl true 1 (eBytes a.1), .int .i64 a.2])], pre := fun a => a.1.length ≤ 2000 ∧ 0 ≤ a.2 ∧ a.2 ≤ 1073741000, post := fun a x => (x.1.length ≤ 20 ∧ ∀ o ∈ x.1, drawnO o) ∧ a.2 ≤ x.2 ∧ x.2 ≤ a.2 + 450, res := fun _ x => .own 8 7 (eOps x.1), fin := fun a x => [(0, rdBox a.1 x.2), (8, .own 219 7 true (eOps x.1))], nob := false }
set_option maxHeartbeats 4000000 in
theorem opsD_has : Has Tryz.prog 194 cOpsD := by
  refine has_walk mixed tTab_ok (l := [(147, cOne), (220, cOpD)]) (HasL.cons one_has (HasL.cons opD_has HasL.nil)) [0, 2, 3, 4] ((fun a n (_ : Nat) => (fun a _ => ⟨List OpD × Int × Nat, fun t => ⟨[(0, true, .ptr 0 0), (2, true, .nil), (3, true, .own 9 7 (eOps t.1)), (4, true, .int .i64 t.2.2)], [(0, rdBox a.1 t.2.1), (9, .own 219 7 true (eOps t.1))]⟩, fun t => t.1.length + t.2.2 ≤ 20 ∧ (∀ o ∈ t.1, drawnO o) ∧ a.2 ≤ t.2.1 ∧ t.2.1 + 20 * t.2.2 ≤ a.2 + 450, fun t => t.2.2⟩) a n)) [] Tryz.func194 (by kernel_rfl) (code := _) (by unfold Tryz.f194; rfl) (by kernel_rfl) (by decide) (fun a => ⟨(([] : List OpD), a.2), ⟨Nat.zero_le _, by simp⟩, Int.le_refl _, by omega⟩) (by intro h; first | exact fun _ => rfl | cases h) (by kernel_rfl) ?_
  intro a ha
  obtain ⟨s, p⟩ := a
  obtain ⟨h1, h2, h3⟩ : s.length ≤ 2000 ∧ 0 ≤ p ∧ p ≤ 1073741000 := ha
  simp (maxSteps := 8000000) -implicitDefEqProofs [-kStep_move, -Bool.exists_bool, cOpsD, cOne, cOpD, tTab, eStrs_isCons, clash, kd, eByte, all_true]
  refine ⟨s, p, [0, 3, 8, 14, 20], rfl, ⟨rfl, rfl⟩, ⟨h1, by omega, by omega, by simp, by simp⟩, fun y hy => ?_⟩
  have hy := hy (by simp)
  have hy2 : 0 ≤ y ∧ y ≤ 20 := by simp only [List.mem_cons, List.not_mem_nil, or_false] at hy; omega
  refine ⟨⟨[], p + 1, y.toNat, ⟨⟨rfl, by omega⟩, ⟨rfl, rfl⟩, rfl⟩, by simp; omega, by simp, by omega, by omega⟩, fun a q b ga gb gc gd => ⟨fun hb => ⟨s, q, ⟨rfl, rfl⟩, ⟨h1, by omega, by omega⟩, fun o q2 ho g1 g2 => ⟨⟨by omega, by omega⟩, ⟨by omega, by omega⟩, fun _ _ => ⟨a ++ [o], q2, b - 1, ⟨⟨(eOps_snoc _ _ _ _ _ _ _ _).symm, by omega⟩, ⟨rfl, rfl⟩, eOps_snoc _ _ _ _ _ _ _ _⟩, ⟨by simp; omega, fun x hx => ?_, by omega, by omega⟩, by omega⟩⟩⟩, fun hb => ⟨a, q, ⟨⟨by omega, gb⟩, by omega, by omega⟩, rfl, rfl, rfl⟩⟩⟩
  rcases List.mem_append.1 hx with hx | hx
  · exact gb x hx
  · simp at hx; subst hx; exact ho

def cRepoD : Con := { A := Str × Int, X := RepoD × Int, n := 7, args := fun _ => [.ptr 0 0], boxes := fun a => [(0, 157, [.sl true 1 (eBytes a.1), .int .i64 a.2])], pre := fun a => a.1.length ≤ 2000 ∧ 0 ≤ a.2 ∧ a.2 ≤ 1073740000, post := fun a x => plR x.1 ∧ a.2 ≤ x.2 ∧ x.2 ≤ a.2 + 450, res := fun _ x => .agg [.own 8 3 (eCommits x.1.commits), .own 9 2 (eHeads x.1.heads)], fin := fun a x => (0, rdBox a.1 x.2) :: (ownCommits 8 x.1.commits ++ ownHeads 9 x.1.heads), nob := false }
set_option maxHeartbeats 4000000 in
theorem repoD_has : Has Tryz.prog 146 cRepoD := by
  refine has_walk mixed tTab_ok (l := [(194, cOpsD), (193, cRepoPlayS), (127, cL7Copy)]) (HasL.cons opsD_has (HasL.cons repoPlayS_has (HasL.cons l7Copy_has HasL.nil))) [0, 2] ((fun a n (_ : Nat) => (fun _ => noInv) a n)) [] Tryz.func146 (by kernel_rfl) (code := _) (by unfold Tryz.f146; rfl) (by kernel_rfl) (by decide) (fun a => ⟨(noR, a.2), plR_no, Int.le_refl _, by omega⟩) (by intro h; first | exact fun _ => rfl | cases h) (by kernel_rfl) ?_
  intro a ha
  obtain ⟨s, p⟩ := a
  obtain ⟨h1, h2, h3⟩ : s.length ≤ 2000 ∧ 0 ≤ p ∧ p ≤ 1073740000 := ha
  simp (maxSteps := 8000000) -implicitDefEqProofs [-kStep_move, -Bool.exists_bool, cRepoD, cOpsD, cRepoPlayS, cL7Copy, Con.fn, tTab, eStrs_isCons, clash, kd, eByte, all_true]
  refine ⟨s, p, ⟨rfl, rfl⟩, ⟨h1, by omega, by omega⟩, fun l q g1 g2 g3 g4 => ⟨fun o ho => ?_, repoS_sz (playF_ok _).1, playS l, q, ⟨playF_ok _, by omega, by omega⟩, ⟨rfl, rfl⟩, ⟨rfl, rfl⟩, rfl, rfl⟩⟩
  obtain ⟨_, _, _, k1, k2, _, k3, _⟩ := g2 o ho
  exact ⟨by omega, by omega, by omega⟩

/-- What is known of a drawn repository. -/
def drawnR (r : RepoD) : Prop := r.commits.length ≤ 16 ∧ r.heads.length ≤ 100 ∧ ∀ c ∈ r.commits, c.parents.length ≤ 2 ∧ treeS c.tree = true ∧ c.who.length ≤ 6
theorem plR_drawn {r : RepoD} (h : plR r) : drawnR r := by
  obtain ⟨h1, h2, h3⟩ := (repoS_iff r).1 h.1
  refine ⟨h3, by have := ((headsB_iff _ _).1 h2).1; omega, fun c hc => ?_⟩
  obtain ⟨i, hi, rfl⟩ := List.getElem_of_mem hc
  have h4 := h1 i hi
  have e : r.commits.getD i default = r.commits[i] := by simp -implicitDefEqProofs [List.getD_eq_getElem?_getD, hi]
  unfold okCS okS1 at h4
  rw [e] at h4
  simp only [Bool.and_eq_true, decide_eq_true_eq, nameB] at h4
  exact ⟨h4.2.1.1, h4.2.2, h4.2.1.2.1.2⟩
def cAnyRepoD : Con := { A := Str × Int, X := RepoD × Int, n := 46, args := fun _ => [.ptr 0 0], boxes := fun a => [(0, 157, [.sl true 1 (eBytes a.1), .int .i64 a.2])], pre := fun a => a.1.length ≤ 2000 ∧ 0 ≤ a.2 ∧ a.2 ≤ 1073739000, post := fun a x => drawnR x.1 ∧ a.2 ≤ x.2 ∧ x.2 ≤ a.2 + 500, res := fun _ x => .agg [.sl false 3 (eCommits x.1.commits), .sl false 2 (eHeads x.1.heads)], fin := fun a x => [(0, rdBox a.1 x.2)], nob := false }
set_option maxHeartbeats 4000000 in
theorem anyRepoD_has : Has Tryz.prog 76 cAnyRepoD := by
  refine has_walk mixed tTab_ok (l := [(146, cRepoD), (145, cPick)]) (HasL.cons repoD_has (HasL.cons pick_has HasL.nil)) [0, 2, 3, 4, 17] ((fun a n (_ : Nat) => (fun _ => noInv) a n)) [] Tryz.func76 (by kernel_rfl) (code := _) (by unfold Tryz.f76; rfl) (by kernel_rfl) (by decide) (fun a => ⟨(noR, a.2), plR_drawn plR_no, Int.le_refl _, by omega⟩) (by intro h; first | exact fun _ => rfl | cases h) (by kernel_rfl) ?_
  intro a ha
  obtain ⟨s, p⟩ := a
  obtain ⟨h1, h2, h3⟩ : s.length ≤ 2000 ∧ 0 ≤ p ∧ p ≤ 1073739000 := ha
  simp (maxSteps := 8000000) -implicitDefEqProofs [-kStep_move, -Bool.exists_bool, cAnyRepoD, cRepoD, cPick, tTab, eStrs_isCons, clash, kd, eByte, all_true]
  refine ⟨s, p, ⟨rfl, rfl⟩, ⟨h1, by omega, by omega⟩, fun r q hr g1 g2 _ => ⟨fun hp _ => ⟨s, q, ⟨rfl, rfl⟩, ⟨h1, by omega, by omega, ?_⟩, fun y _ hy => ⟨s, q + 1, ⟨rfl, rfl⟩, ⟨h1, by omega, by omega⟩, fun z hz0 hz1 => ?_⟩⟩, fun _ => ⟨r, q, ⟨plR_drawn hr, by omega, by omega⟩, ⟨rfl, rfl⟩, rfl, rfl⟩⟩⟩
  · have := (plR_drawn hr).1; omega
  obtain ⟨k1, k2⟩ := hy (by omega)
  have hk : y.toNat < r.commits.length := by omega
  have e : Option.map eCommit r.commits[y.toNat]? = some (eCommit r.commits[y.toNat]) := by simp -implicitDefEqProofs [hk]
  have hd := plR_drawn hr
  have hh : 0 < r.heads.length := List.length_pos_iff.2 (hr.2 (by intro h; rw [h] at hp; simp at hp))
  have e2 : Option.map eHead r.heads[0]? = some (eHead r.heads[0]) := by simp -implicitDefEqProofs [hh]
  have ds : ∀ c : CommitD, (c.parents.length ≤ 2 ∧ treeS c.tree = true ∧ c.who.length ≤ 6) → drawnR ⟨r.commits.set y.toNat c, r.heads⟩ := fun c hc => ⟨by simp; exact hd.1, hd.2.1, fun x hx => (List.mem_or_eq_of_mem_set hx).elim (hd.2.2 x) fun h => h ▸ hc⟩
  have dc := hd.2.2 _ (List.getElem_mem hk)
  have dh : drawnR ⟨r.commits, r.heads ++ [r.heads[0]]⟩ := ⟨hd.1, by have := ((headsB_iff _ _).1 ((repoS_iff r).1 hr.1).2.1).1; simp; omega, hd.2.2⟩
  simp only [e, e2]
  simp -implicitDefEqProofs [eCommit, eHead, D.asStr, D.asInt, hk, k1, k2, hh]
  have hl : r.heads.length ≤ 100 := hd.2.1
  have hA : p ≤ q + 1 + 1 ∧ q + 1 + 1 ≤ p + 500 := ⟨by omega, by omega⟩
  have es : ∀ c : CommitD, eCommits (r.commits.set y.toNat c) = (eCommits r.commits).set y.toNat (eCommit c) := fun c => by simp -implicitDefEqProofs [eCommits, List.map_set]
  exact ⟨fun _ => ⟨_, ⟨ds ⟨[y], r.commits[y.toNat].who, r.commits[y.toNat].tree⟩ ⟨by simp, dc.2⟩, hA⟩, es _, rfl⟩, fun _ => ⟨fun _ => ⟨_, ⟨ds ⟨r.commits[y.toNat].parents, [], r.commits[y.toNat].tree⟩ ⟨dc.1, dc.2.1, Nat.zero_le _⟩, hA⟩, es _, rfl⟩, fun _ => ⟨fun _ => ⟨⟨by omega, by omega⟩, _, ⟨dh, hA⟩, rfl, by simp -implicitDefEqProofs [eHeads, eHead]⟩, fun _ => ⟨r, ⟨hd, hA⟩, rfl, rfl⟩⟩⟩⟩

def cAtD : Con := { A := (Str × Int) × RepoD, X := Int, n := 19, args := fun a => [.ptr 0 0, vRepo a.2], boxes := fun a => [(0, 157, [.sl true 1 (eBytes a.1.1), .int .i64 a.1.2])], pre := fun a => (a.1.1.length ≤ 2000 ∧ 0 ≤ a.1.2 ∧ a.1.2 ≤ 1073740000) ∧ a.2.commits.length ≤ 1000, post := fun a x => -1 ≤ x ∧ x ≤ a.2.commits.length, res := fun _ x => .int .i64 x, fin := fun a _ => [(0, rdBox a.1.1 (a.1.2 + 2))], nob := false, bty := [157] }
set_option maxHeartbeats 4000000 in
theorem atD_has : Has Tryz.prog 78 cAtD := by
  refine has_walk mixed tTab_ok (l := [(145, cPick), (147, cOne)]) (HasL.cons pick_has (HasL.cons one_has HasL.nil)) [0, 1, 3, 4] ((fun a n (_ : Nat) => (fun _ => noInv) a n)) [] Tryz.func78 (by kernel_rfl) (code := _) (by unfold Tryz.f78; rfl) (by kernel_rfl) (by decide) (fun a => ⟨(0 : Int), by omega, by omega⟩) (by intro h; first | exact fun _ => rfl | cases h) (by kernel_rfl) ?_ (hbt := .inr fun a => ⟨fun b hb => (by simp only [cAtD, List.mem_cons, List.not_mem_nil, or_false] at hb; subst hb; simp -implicitDefEqProofs [cAtD]), fun x p hp ty vs e => (by simp only [cAtD, List.mem_cons, List.not_mem_nil, or_false] at hp; subst hp; cases e; simp -implicitDefEqProofs [cAtD])⟩)
  intro a ha
  obtain ⟨⟨s, p⟩, r⟩ := a
  obtain ⟨⟨h1, h2, h3⟩, h4⟩ : (s.length ≤ 2000 ∧ 0 ≤ p ∧ p ≤ 1073740000) ∧ r.commits.length ≤ 1000 := ha
  simp (maxSteps := 8000000) -implicitDefEqProofs [-kStep_move, -Bool.exists_bool, cAtD, cPick, cOne, tTab, eStrs_isCons, clash, kd, eByte, all_true, bRepo_def]
  refine ⟨s, p, ⟨rfl, rfl⟩, ⟨h1, by omega, by omega⟩, fun y _ _ => ⟨fun _ _ => ⟨s, p + 1, [-1, r.commits.length], rfl, ⟨rfl, rfl⟩, ⟨h1, by omega, by omega, by simp, by simp⟩, fun z hz => ⟨z, ?_, rfl, rfl, by omega⟩⟩, fun _ _ => ⟨s, p + 1, ⟨rfl, rfl⟩, ⟨h1, by omega, by omega, by omega⟩, fun z hz1 hz2 => ⟨z, by omega, rfl, rfl, by omega⟩⟩⟩⟩
  have hz := hz (by simp)
  simp only [List.mem_cons, List.not_mem_nil, or_false] at hz
  omega

def cMarksD : Con := { A := (Str × Int) × RepoD, X := List HeadD × Int, n := 31, args := fun a => [.ptr 0 0, vRepo a.2], boxes := fun a => [(0, 157, [.sl true 1 (eBytes a.1.1), .int .i64 a.1.2])], pre := fun a => (a.1.1.length ≤ 2000 ∧ 0 ≤ a.1.2 ∧ a.1.2 ≤ 1073739900) ∧ a.2.commits.length ≤ 1000, post := fun a x => x.1.length ≤ 3 ∧ a.1.2 ≤ x.2 ∧ x.2 ≤ a.1.2 + 12, res := fun _ x => .own 8 2 (eHeads x.1), fin := fun a x => [(0, rdBox a.1.1 x.2), (8, .own 34 2 true (eHeads x.1))], nob := false }
def mkWords : List Str := [[109, 49], [109, 50], [109, 51]]
set_option maxHeartbeats 4000000 in
theorem marksD_has : Has Tryz.prog 77 cMarksD := by
  refine has_walk mixed tTab_ok (l := [(145, cPick), (78, cAtD)]) (HasL.cons pick_has (HasL.cons atD_has HasL.nil)) [0, 1, 3, 4, 5, 6, 7] ((fun a n (_ : Nat) => (fun a _ => ⟨List HeadD × Int × Nat, fun t => ⟨[(0, true, .ptr 0 0), (3, true, .ptr 10 0), (4, true, .nil), (5, true, .own 9 2 (eHeads t.1)), (6, true, .own 11 1 (eStrs mkWords)), (7, true, .int .i64 t.2.2)], [(0, rdBox a.1.1 t.2.1), (10, bRepo a.2), (9, .own 34 2 true (eHeads t.1)), (11, .own 9 1 true (eStrs mkWords))]⟩, fun t => t.1.length ≤ t.2.2 ∧ t.2.2 ≤ 3 ∧ a.1.2 ≤ t.2.1 ∧ t.2.1 ≤ a.1.2 + 4 * t.2.2, fun t => 3 - t.2.2⟩) a n)) [8191] Tryz.func77 (by kernel_rfl) (code := _) (by unfold Tryz.f77; rfl) (by kernel_rfl) (by decide) (fun a => ⟨(([] : List HeadD), a.1.2), Nat.zero_le _, Int.le_refl _, by omega⟩) (by intro h; first | exact fun _ => rfl | cases h) (by kernel_rfl) ?_
  intro a ha
  obtain ⟨⟨s, p⟩, r⟩ := a
  obtain ⟨⟨h1, h2, h3⟩, h4⟩ : (s.length ≤ 2000 ∧ 0 ≤ p ∧ p ≤ 1073739900) ∧ r.commits.length ≤ 1000 := ha
  simp (maxSteps := 8000000) -implicitDefEqProofs [-kStep_move, -Bool.exists_bool, cMarksD, cPick, cAtD, tTab, eStrs_isCons, clash, kd, eByte, all_true, bRepo_def]
  have hm3 : mkWords.length = 3 := rfl
  refine ⟨⟨[], p, 0, ⟨⟨rfl, rfl, rfl⟩, rfl, rfl, rfl⟩, by simp, by omega, by omega, by omega⟩, fun a q b ga gb gc gd _ => ⟨fun hb => ⟨s, q, ⟨rfl, rfl⟩, ⟨h1, by omega, by omega⟩, fun y _ _ => ⟨fun _ => ⟨hb, fun _ => ?_⟩, fun _ => ⟨⟨by omega, by omega⟩, fun _ _ => ⟨a, q + 1, b + 1, ⟨⟨rfl, by omega⟩, ⟨rfl, rfl⟩, rfl⟩, ⟨by omega, by omega, by omega, by omega⟩, by omega⟩⟩⟩⟩, fun hb => ⟨a, q, ⟨by omega, by omega, by omega⟩, rfl, rfl, rfl⟩⟩⟩
  have q1 : Option.map eStr mkWords[b]? = some (eStr mkWords[b]) := by simp -implicitDefEqProofs [hb]
  rw [q1]
  generalize mkWords[b] = w at *
  simp -implicitDefEqProofs [eStr, D.asStr]
  refine ⟨s, q + 1, ⟨rfl, rfl⟩, ⟨⟨h1, by omega, by omega⟩, h4⟩, fun y _ _ => ⟨⟨by omega, by omega⟩, ⟨by omega, by omega⟩, fun _ _ => ⟨a ++ [⟨w, y⟩], q + 1 + 2, b + 1, ⟨⟨by simp -implicitDefEqProofs [eHeads, eHead], by omega⟩, ⟨rfl, by omega⟩, by simp -implicitDefEqProofs [eHeads, eHead]⟩, ⟨by simp; omega, by omega, by omega, by omega⟩, by omega⟩⟩⟩

end Vx
end Go.Proofs.YtnanellmaelipaaGreatDoor
/-
  Contracts: draws of a repository with a word, a place, marks.
-/
namespace Go.Proofs.YtnanellmaelipaaGreatDoor
namespace Vx
open Go.RowKit
set_option maxRecDepth 8000

def cOfB : Con := { cOf with bty := [157] }
theorem ofB_has : Has Tryz.prog 90 cOfB :=
  ⟨of_has.enter, of_has.tot, of_has.nob, fun a h c hk vs β fp h1 h2 h3 h4 S => of_has.calls a h c hk vs β fp h1 h2 h3 h4 S, of_has.bldr,
    .inr fun a => ⟨fun b hb => (by simp only [cOfB, cOfB, cOf, List.mem_cons, List.not_mem_nil, or_false] at hb; subst hb; simp -implicitDefEqProofs [cOfB]), fun x p hp ty vs e => (by simp only [cOfB, cOfB, cOf, List.mem_cons, List.not_mem_nil, or_false] at hp; subst hp; cases e; simp -implicitDefEqProofs [cOfB])⟩⟩

def cDrawMarkNear : Con := { A := Str, X := RepoD × List HeadD × Int, n := 20, args := fun s => [.sl true 1 (eBytes s)], boxes := fun _ => [], pre := fun _ => True, post := fun _ x => drawnR x.1 ∧ x.2.1.length ≤ 3, res := fun _ x => .tup [.agg [.sl false 3 (eCommits x.1.commits), .sl false 2 (eHeads x.1.heads)], .own 8 2 (eHeads x.2.1), .int .i64 x.2.2], fin := fun _ x => ownHeads 8 x.2.1 }
set_option maxHeartbeats 4000000 in
theorem drawMarkNear_has : Has Tryz.prog 15 cDrawMarkNear := by
  refine has_walk mixed tTab_ok (l := [(75, cL30Open), (76, cAnyRepoD), (77, cMarksD), (78, cAtD)]) (HasL.cons l30Open_has (HasL.cons anyRepoD_has (HasL.cons marksD_has (HasL.cons atD_has HasL.nil)))) [0, 2, 3, 4, 5, 6, 7] ((fun a n (_ : Nat) => (fun _ => noInv) a n)) [8191, 12287] Tryz.func15 (by kernel_rfl) (code := _) (by unfold Tryz.f15; rfl) (by kernel_rfl) (by decide) (fun _ => ⟨(noR, [], 0), plR_drawn plR_no, Nat.zero_le _⟩) (by intro h; first | exact fun _ => rfl | cases h) (by kernel_rfl) ?_
  intro (s : Str) _
  simp (maxSteps := 8000000) -implicitDefEqProofs [-kStep_move, -Bool.exists_bool, cDrawMarkNear, cL30Open, cAnyRepoD, cMarksD, cAtD, tTab, Con.fn, eStrs_isCons, clash, kd, eByte, all_true]
  have hl : (s.take 2000).length ≤ 2000 := by simp; omega
  exact ⟨_, _, ⟨rfl, rfl⟩, ⟨hl, by omega, by omega⟩, fun r p g1 g2 g3 => ⟨_, _, ⟨rfl, rfl⟩, ⟨⟨hl, by omega, by omega⟩, by have := g1.1; omega⟩, fun m q k1 k2 k3 => ⟨_, _, ⟨rfl, rfl⟩, ⟨⟨hl, by omega, by omega⟩, by have := g1.1; omega⟩, fun y _ _ => ⟨r, ⟨g1, k1⟩, rfl, rfl⟩⟩⟩⟩

end Vx
end Go.Proofs.YtnanellmaelipaaGreatDoor
/-
  Contracts: SeekAll, both sides; lists of numbers compared.
-/
namespace Go.Proofs.YtnanellmaelipaaGreatDoor
namespace Vx
open Go.RowKit
set_option maxRecDepth 8000

def allF (r : RepoD) (w : Str) (i : Nat) : List Int := ((List.range i).map fun j : Nat => (j : Int)).filter (hasC r w)
theorem allF_hit {r : RepoD} {w : Str} {i : Nat} (h : hasC r w i = true) : allF r w (i + 1) = allF r w i ++ [(i : Int)] := by simp -implicitDefEqProofs [allF, List.range_succ, h]
theorem allF_miss {r : RepoD} {w : Str} {i : Nat} (h : hasC r w i = false) : allF r w (i + 1) = allF r w i := by simp -implicitDefEqProofs [allF, List.range_succ, h]
theorem allF_len (r : RepoD) (w : Str) (i : Nat) : (allF r w i).length ≤ i := by
  have := List.length_filter_le (hasC r w) ((List.range i).map fun j : Nat => (j : Int))
  simpa [allF] using this
def allW (r : RepoD) (w : Str) : List Int := if repoI r && nameB w then allF r w r.commits.length else []
theorem tree_at {r : RepoD} {i : Nat} (h : i < r.commits.length) : treeAt r i = r.commits[i].tree := by
  unfold treeAt
  rw [List.getD_eq_getElem?_getD, Int.toNat_natCast, List.getElem?_eq_getElem h]; rfl

end Vx
end Go.Proofs.YtnanellmaelipaaGreatDoor
/-
  Contracts: the law FnSeekTree.
-/
namespace Go.Proofs.YtnanellmaelipaaGreatDoor
namespace Vx
open Go.RowKit
set_option maxRecDepth 8000

end Vx
end Go.Proofs.YtnanellmaelipaaGreatDoor
/-
  Contracts: trees compared (smTree).
-/
namespace Go.Proofs.YtnanellmaelipaaGreatDoor
namespace Vx
open Go.RowKit
set_option maxRecDepth 8000

end Vx
end Go.Proofs.YtnanellmaelipaaGreatDoor
/-
  Contracts: numbers, heads, commits, repositories compared (smIn, smInts, smHeads, smCommit).
-/
namespace Go.Proofs.YtnanellmaelipaaGreatDoor
namespace Vx
open Go.RowKit
set_option maxRecDepth 8000

def smRA (r q : RepoD) : Inv := ⟨Nat, fun i => ⟨[(2, true, .ptr 10 0), (3, true, .ptr 11 0), (4, true, .bool false), (5, true, .int .i64 i)], [(10, bRepo r), (11, bRepo q)]⟩, fun i => i ≤ r.commits.length ∧ (r.commits.length = q.commits.length ∧ r.heads.length = q.heads.length) ∧ r.commits.take i = q.commits.take i, fun i => r.commits.length - i⟩
def smRB (r q : RepoD) : Inv := ⟨Nat, fun i => ⟨[(2, true, .ptr 10 0), (3, true, .ptr 11 0), (4, true, .bool false), (6, true, .int .i64 i)], [(10, bRepo r), (11, bRepo q)]⟩, fun i => i ≤ r.heads.length ∧ (r.commits = q.commits ∧ r.heads.length = q.heads.length) ∧ r.heads.take i = q.heads.take i, fun i => r.heads.length - i⟩
def smRInv (r q : RepoD) (n g : Nat) : Inv := if n = 4 then smRA r q else smRB r q
theorem smRInv_4 (r q g) : smRInv r q 4 g = smRA r q := rfl
theorem smRInv_9 (r q g) : smRInv r q 9 g = smRB r q := rfl
theorem RepoD.eqs (a b : RepoD) : (a = b) = (a.commits = b.commits ∧ a.heads = b.heads) := by cases a; cases b; simp
end Vx
end Go.Proofs.YtnanellmaelipaaGreatDoor
/-
  The law FnSeekAll.
-/
namespace Go.Proofs.YtnanellmaelipaaGreatDoor
namespace Vx
open Go.RowKit
set_option maxRecDepth 8000

theorem drawn_pre {r : RepoD} (h : drawnR r) : rpPre r := ⟨by have := h.1; omega, fun c hc f hf => by have := treeS_path (h.2.2 c hc).2.1 f hf; omega⟩
theorem allW_mem {r : RepoD} (h : repoI r = true) {c : Nat} (hc : c < r.commits.length) (w : Str) : ((c : Int) ∈ allW r w) ↔ 0 < (treeSeekI r.commits[c].tree w).length := by
  have hT := (repo_use h hc).2.2
  rw [seek_eq]
  unfold treeSeekS allW
  rw [← tree_eq, hT, h]
  simp only [Bool.true_and]
  cases hw : nameB w with
  | false => simp
  | true =>
    simp only [if_true, allF, List.mem_filter, List.mem_map, List.mem_range]
    have e : hasC r w (c : Int) = true ↔ 0 < (seekL (hitS w) r.commits[c].tree).length := by
      unfold hasC
      rw [tree_at hc]
      cases seekL (hitS w) r.commits[c].tree <;> simp
    constructor
    · rintro ⟨_, h2⟩; exact e.1 h2
    · intro h2; exact ⟨⟨c, hc, rfl⟩, e.2 h2⟩
theorem allW_asc (r : RepoD) (w : Str) : (allW r w).Pairwise (· < ·) := by
  unfold allW
  split
  · unfold allF
    apply List.Pairwise.filter
    rw [List.pairwise_map]
    exact List.Pairwise.imp (fun h => by omega) List.pairwise_lt_range
  · exact List.Pairwise.nil

theorem allW_len (r : RepoD) (w : Str) (h : r.commits.length ≤ 16) : (allW r w).length ≤ 16 := by
  unfold allW
  split
  · unfold allF
    refine Nat.le_trans (List.length_filter_le _ _) ?_
    simp; omega
  · simp

abbrev saEnv (r : RepoD) (w : Str) (x : List (Nat × Bool × AV)) : Sc := ⟨[(2, true, .bool false), (3, true, .ptr 10 0), (4, true, .str w), (5, true, .own 9 1 (eInts (allW r w)))] ++ x, [(10, .box 26 [.sl false 3 (eCommits r.commits), .sl false 2 (eHeads r.heads)]), (9, .own 3 1 true (eInts (allW r w)))]⟩
def saA : Inv := ⟨RepoD × Str × Nat, fun x => saEnv x.1 x.2.1 [(6, true, .int .i64 x.2.2)], fun x => drawnR x.1 ∧ repoI x.1 = true ∧ x.2.2 ≤ x.1.commits.length, fun x => 16 - x.2.2⟩
def saB : Inv := ⟨RepoD × Str × Nat, fun x => saEnv x.1 x.2.1 [(7, true, .int .i64 (x.2.2 + 1))], fun x => drawnR x.1 ∧ repoI x.1 = true ∧ x.2.2 ≤ (allW x.1 x.2.1).length, fun x => 16 - x.2.2⟩
def saInv (n g : Nat) : Inv := if n = 8 then saA else saB
theorem saInv_8 (g : Nat) : saInv 8 g = saA := rfl
theorem saInv_13 (g : Nat) : saInv 13 g = saB := rfl
end Vx
end Go.Proofs.YtnanellmaelipaaGreatDoor
/-
  Contracts: sizes of repositories.
-/
namespace Go.Proofs.YtnanellmaelipaaGreatDoor
namespace Vx
open Go.RowKit

def szI (a : List Int) (l : Int) : Int := if l - a.length < 0 then -1 else l - a.length
theorem szI_le {a : List Int} {l : Int} (h : 0 ≤ l) : szI a l ≤ l := by unfold szI; split <;> omega
def szHd (f : HeadD) (l : Int) : Int := if l - f.name.length < 0 then -1 else l - f.name.length
theorem szHd_le {f : HeadD} {l : Int} (h : 0 ≤ l) : szHd f l ≤ l := by unfold szHd; split <;> omega
def szHL : List HeadD → Int → Int
  | [], l => l
  | f :: r, l => if szHd f l < 0 then -1 else szHL r (szHd f l)
def szHeads (a : List HeadD) (l : Int) : Int := if l - a.length < 0 then -1 else szHL a (l - a.length)
theorem szHL_step {a : List HeadD} {i : Nat} {l : Int} (h : i < a.length) : szHL (a.drop i) l = if szHd a[i] l < 0 then -1 else szHL (a.drop (i + 1)) (szHd a[i] l) := by
  rw [List.drop_eq_getElem_cons h]; rfl
theorem szHL_end {a : List HeadD} {i : Nat} {l : Int} (h : a.length ≤ i) : szHL (a.drop i) l = l := by
  rw [List.drop_eq_nil_of_le h]; rfl
theorem szFL_leD : ∀ {a : List FileD} {l : Int}, 0 ≤ l → szFL a l ≤ l := by
  intro a
  induction a with
  | nil => intro l _; exact Int.le_refl l
  | cons s r ih =>
    intro l h
    simp only [szFL]
    split
    · omega
    · have h1 := szF_le (f := s) h
      have := ih (l := szF s l) (by omega); omega
theorem szFs_le {a : List FileD} {l : Int} (h : 0 ≤ l) : szFiles a l ≤ l := by
  unfold szFiles
  split
  · omega
  · have := szFL_leD (a := a) (l := l - a.length) (by omega); omega

def szCm (c : CommitD) (l : Int) : Int :=
  if szI c.parents l < 0 then -1 else if szI c.parents l - c.who.length < 0 then -1 else if szFiles c.tree (szI c.parents l - c.who.length) < 0 then -1 else szFiles c.tree (szI c.parents l - c.who.length)
theorem szCm_le {c : CommitD} {l : Int} (h : 0 ≤ l) : szCm c l ≤ l := by
  unfold szCm
  have h1 := szI_le (a := c.parents) h
  split
  · omega
  · split
    · omega
    · split
      · omega
      · have := szFs_le (a := c.tree) (l := szI c.parents l - c.who.length) (by omega); omega
def szCL : List CommitD → Int → Int
  | [], l => l
  | f :: r, l => if szCm f l < 0 then -1 else szCL r (szCm f l)
def szCommits (a : List CommitD) (l : Int) : Int := if l - a.length < 0 then -1 else szCL a (l - a.length)
theorem szCL_step {a : List CommitD} {i : Nat} {l : Int} (h : i < a.length) : szCL (a.drop i) l = if szCm a[i] l < 0 then -1 else szCL (a.drop (i + 1)) (szCm a[i] l) := by
  rw [List.drop_eq_getElem_cons h]; rfl
theorem szCL_end {a : List CommitD} {i : Nat} {l : Int} (h : a.length ≤ i) : szCL (a.drop i) l = l := by
  rw [List.drop_eq_nil_of_le h]; rfl
theorem szCL_le : ∀ {a : List CommitD} {l : Int}, 0 ≤ l → szCL a l ≤ l := by
  intro a
  induction a with
  | nil => intro l _; exact Int.le_refl l
  | cons s r ih =>
    intro l h
    simp only [szCL]
    split
    · omega
    · have h1 := szCm_le (c := s) h
      have := ih (l := szCm s l) (by omega); omega
theorem szCommits_le {a : List CommitD} {l : Int} (h : 0 ≤ l) : szCommits a l ≤ l := by
  unfold szCommits
  split
  · omega
  · have := szCL_le (a := a) (l := l - a.length) (by omega); omega
def szRp (r : RepoD) (l : Int) : Int := if szCommits r.commits l < 0 then -1 else if szHeads r.heads (szCommits r.commits l) < 0 then -1 else szHeads r.heads (szCommits r.commits l)
end Vx
end Go.Proofs.YtnanellmaelipaaGreatDoor
/-
  Contracts: comparisons of repositories.
-/
namespace Go.Proofs.YtnanellmaelipaaGreatDoor
namespace Vx
open Go.RowKit

end Vx
end Go.Proofs.YtnanellmaelipaaGreatDoor
/-
  Laws: FnExactMarksOk.
-/
namespace Go.Proofs.YtnanellmaelipaaGreatDoor
namespace Vx
open Go.RowKit
set_option maxRecDepth 8000

theorem szCm_ok {c : CommitD} {l : Int} (hl : 0 ≤ l) (h : 0 ≤ szCm c l) : (c.parents.length : Int) ≤ l ∧ (c.who.length : Int) ≤ l ∧ (c.tree.length : Int) ≤ l ∧ ∀ f ∈ c.tree, (f.path.length : Int) ≤ l ∧ (f.text.length : Int) ≤ l ∧ ∀ s ∈ f.text, (s.length : Int) ≤ l := by
  unfold szCm at h
  have h0 := szI_le (a := c.parents) hl
  split at h
  · omega
  · split at h
    · omega
    · split at h
      · omega
      · rename_i h1 h2 h3
        obtain ⟨q1, q2⟩ := szFiles_ok (Int.not_lt.1 h3)
        have hp : (c.parents.length : Int) ≤ l := by
          unfold szI at h1
          split at h1 <;> omega
        refine ⟨hp, by omega, by omega, fun f hf => ?_⟩
        obtain ⟨r1, r2, r3⟩ := q2 f hf
        exact ⟨by omega, by omega, fun s hs => by have := r3 s hs; omega⟩
theorem szCL_ok : ∀ {a : List CommitD} {l : Int}, 0 ≤ l → 0 ≤ szCL a l → ∀ c ∈ a, (c.parents.length : Int) ≤ l ∧ (c.who.length : Int) ≤ l ∧ (c.tree.length : Int) ≤ l ∧ ∀ f ∈ c.tree, (f.path.length : Int) ≤ l ∧ (f.text.length : Int) ≤ l ∧ ∀ s ∈ f.text, (s.length : Int) ≤ l := by
  intro a
  induction a with
  | nil => intro l _ _ c hc; cases hc
  | cons x r ih =>
    intro l hl h c hc
    simp only [szCL] at h
    split at h
    · omega
    · rename_i h0
      rcases List.mem_cons.1 hc with rfl | hc
      · exact szCm_ok hl (by omega)
      · have hle := szCm_le (c := x) hl
        obtain ⟨h1, h2, h3, h4⟩ := ih (by omega) h c hc
        refine ⟨by omega, by omega, by omega, fun f hf => ?_⟩
        obtain ⟨r1, r2, r3⟩ := h4 f hf
        exact ⟨by omega, by omega, fun s hs => by have := r3 s hs; omega⟩
theorem szCommits_ok {a : List CommitD} {l : Int} (h : 0 ≤ szCommits a l) : (a.length : Int) ≤ l ∧ ∀ c ∈ a, (c.parents.length : Int) ≤ l ∧ (c.who.length : Int) ≤ l ∧ (c.tree.length : Int) ≤ l ∧ ∀ f ∈ c.tree, (f.path.length : Int) ≤ l ∧ (f.text.length : Int) ≤ l ∧ ∀ s ∈ f.text, (s.length : Int) ≤ l := by
  unfold szCommits at h
  split at h
  · omega
  · refine ⟨by omega, fun c hc => ?_⟩
    obtain ⟨h1, h2, h3, h4⟩ := szCL_ok (by omega) h c hc
    refine ⟨by omega, by omega, by omega, fun f hf => ?_⟩
    obtain ⟨r1, r2, r3⟩ := h4 f hf
    exact ⟨by omega, by omega, fun s hs => by have := r3 s hs; omega⟩
theorem szHL_le : ∀ {a : List HeadD} {l : Int}, 0 ≤ l → szHL a l ≤ l := by
  intro a
  induction a with
  | nil => intro l _; exact Int.le_refl l
  | cons s r ih =>
    intro l h
    simp only [szHL]
    split
    · omega
    · have h1 := szHd_le (f := s) h
      have := ih (l := szHd s l) (by omega); omega
theorem szHeads_le {a : List HeadD} {l : Int} (h : 0 ≤ l) : szHeads a l ≤ l := by
  unfold szHeads
  split
  · omega
  · have := szHL_le (a := a) (l := l - a.length) (by omega); omega
theorem szHL_ok : ∀ {a : List HeadD} {l : Int}, 0 ≤ l → 0 ≤ szHL a l → ∀ h ∈ a, (h.name.length : Int) ≤ l := by
  intro a
  induction a with
  | nil => intro l _ _ c hc; cases hc
  | cons x r ih =>
    intro l hl h c hc
    simp only [szHL] at h
    split at h
    · omega
    · rename_i h0
      have hle := szHd_le (f := x) hl
      rcases List.mem_cons.1 hc with rfl | hc
      · unfold szHd at h0
        split at h0 <;> omega
      · have := ih (by omega) h c hc; omega
theorem szHeads_ok {a : List HeadD} {l : Int} (h : 0 ≤ szHeads a l) : (a.length : Int) ≤ l ∧ ∀ h ∈ a, (h.name.length : Int) ≤ l := by
  unfold szHeads at h
  split at h
  · omega
  · exact ⟨by omega, fun c hc => by have := szHL_ok (by omega) h c hc; omega⟩
theorem szRp_le {r : RepoD} {l : Int} (h : 0 ≤ l) : szRp r l ≤ l := by
  unfold szRp
  have h1 := szCommits_le (a := r.commits) h
  split
  · omega
  · split
    · omega
    · have := szHeads_le (a := r.heads) (l := szCommits r.commits l) (by omega); omega
theorem szRp_ok {r : RepoD} {l : Int} (hl : 0 ≤ l) (h : 0 ≤ szRp r l) : ((r.commits.length : Int) ≤ l ∧ ∀ c ∈ r.commits, (c.parents.length : Int) ≤ l ∧ (c.who.length : Int) ≤ l ∧ (c.tree.length : Int) ≤ l ∧ ∀ f ∈ c.tree, (f.path.length : Int) ≤ l ∧ (f.text.length : Int) ≤ l ∧ ∀ s ∈ f.text, (s.length : Int) ≤ l) ∧
    (r.heads.length : Int) ≤ l ∧ ∀ h ∈ r.heads, (h.name.length : Int) ≤ l := by
  unfold szRp at h
  have h1 := szCommits_le (a := r.commits) hl
  split at h
  · omega
  · split at h
    · omega
    · rename_i h2 h3
      obtain ⟨q1, q2⟩ := szHeads_ok (Int.not_lt.1 h3)
      exact ⟨szCommits_ok (Int.not_lt.1 h2), by omega, fun c hc => by have := q2 c hc; omega⟩
theorem szRp_use {r : RepoD} (h : 0 ≤ szRp r 1048576) : rpSz r ∧ rpPre r := by
  obtain ⟨⟨h1, h2⟩, h3, h4⟩ := szRp_ok (by omega) h
  refine ⟨⟨by omega, fun c hc => ?_, by omega⟩, by omega, fun c hc f hf => ?_⟩
  · obtain ⟨q1, q2, q3, q4⟩ := h2 c hc
    exact ⟨by omega, by omega, fun g hg => by have := (q4 g hg).2.1; omega⟩
  · have := ((h2 c hc).2.2.2 f hf).1; omega

end Vx
end Go.Proofs.YtnanellmaelipaaGreatDoor
/-
  The nearest mark: the program's way and the reference's are the same; the law FnExactMarkNear.
-/
namespace Go.Proofs.YtnanellmaelipaaGreatDoor
namespace Vx
open Go.RowKit
set_option maxRecDepth 8000

theorem isT_mem {l : List Bool} {x : Int} (h0 : 0 ≤ x) (h1 : x.toNat < l.length) : isT l x.toNat = decide (x ∈ listT l) := by
  rw [Bool.eq_iff_iff, decide_eq_true_iff, listT_mem]
  constructor
  · intro h; exact ⟨x.toNat, h1, h, by omega⟩
  · rintro ⟨i, _, h2, rfl⟩
    simpa using h2
theorem isT_clr (ps : List Int) : ∀ (l : List Bool) (i : Nat), (∀ p ∈ ps, 0 ≤ p) → isT (clrT l ps) i = (isT l i && !decide ((i : Int) ∈ ps)) := by
  induction ps with
  | nil => intro l i _; simp [clrT]
  | cons p r ih =>
    intro l i h
    show isT (clrT (l.set p.toNat false) r) i = _
    rw [ih _ _ fun q hq => h q (by simp [hq])]
    have hp := h p (by simp)
    by_cases e : p.toNat = i
    · have hm : (i : Int) ∈ p :: r := by have : (i : Int) = p := by omega
                                         rw [this]; simp
      have hf : isT (l.set p.toNat false) i = false := by
        unfold isT
        rw [e, List.getD_eq_getElem?_getD, List.getElem?_set_self']
        cases l[i]? <;> rfl
      rw [hf, decide_eq_true hm]; simp
    · rw [isT_set_ne _ e]
      have : ¬ (i : Int) = p := by omega
      simp [this]
theorem listT_clr (l : List Bool) (ps : List Int) (h : ∀ p ∈ ps, 0 ≤ p) : listT (clrT l ps) = (listT l).filter fun x => !decide (x ∈ ps) := by
  unfold listT listF
  rw [clrT_len, List.filter_map, List.filter_filter]
  congr 1
  apply List.filter_congr
  intro i _
  rw [isT_clr ps l i h, Bool.and_comm]
  rfl
theorem sin_new {r : RepoD} {a h : Int} (hr : repoI r = true) (ha : inN r.commits.length a = true) (hh : inN r.commits.length h = true) : listT (sinL r a [h]) = newL r h a := by
  have e : sinL r a [h] = clrT (anc r a) (listT (anc r h)) := rfl
  rw [e, listT_clr]
  · unfold newL newF
    rw [hr, ha, hh, List.take_length]; rfl
  · intro p hp
    obtain ⟨i, _, _, rfl⟩ := listT_mem.1 hp
    omega
theorem near_eq (r : RepoD) (m : List HeadD) (a : Int) : nearI r m a = nearS r m a := by
  unfold nearI nearS
  split
  · rename_i h
    simp only [Bool.and_eq_true, decide_eq_true_eq] at h
    obtain ⟨hM, h0, h1⟩ := h
    unfold marksI at hM
    simp only [Bool.and_eq_true] at hM
    obtain ⟨hr, hh⟩ := hM
    have hat : ∀ x ∈ m, inN r.commits.length x.at_ = true := fun x hx => by
      obtain ⟨i, hi, rfl⟩ := List.getElem_of_mem hx
      have := ((headsB_iff _ _).1 hh).2 i hi
      simp only [okHd, List.getD_eq_getElem?_getD, List.getElem?_eq_getElem hi, Option.getD_some, Bool.and_eq_true] at this
      exact this.1.2
    have hal : inN r.commits.length a = true := by unfold inN; simp; omega
    have hstep : ∀ s, ∀ x ∈ m, nearStep r a s x = nearStepS r a s x := fun s x hx => by
      have hx' := hat x hx
      have hx2 := hx'
      simp only [inN, Bool.and_eq_true, decide_eq_true_eq] at hx2
      unfold nearStep nearStepS
      rw [sin_new hr hal hx', isT_mem hx2.1 (by rw [anc_len]; omega)]
      by_cases hm : x.at_ ∈ listT (anc r a)
      · simp only [hm, decide_true, if_true, Bool.true_and, Bool.or_eq_true, decide_eq_true_eq]
      · simp [hm]
    unfold nearF nearFS
    rw [List.take_length]
    clear hh
    have gen : ∀ (l : List HeadD) (s : Str × Int), (∀ s, ∀ x ∈ l, nearStep r a s x = nearStepS r a s x) → l.foldl (nearStep r a) s = l.foldl (nearStepS r a) s := by
      intro l
      induction l with
      | nil => intro s _; rfl
      | cons y l ih =>
        intro s h
        rw [List.foldl_cons, List.foldl_cons, h s y (by simp)]
        exact ih _ fun s x hx => h s x (by simp [hx])
    exact gen m _ hstep
  · rfl

end Vx
end Go.Proofs.YtnanellmaelipaaGreatDoor
/-
  A contract whose own result is only looked at.
-/
namespace Go.Proofs.YtnanellmaelipaaGreatDoor
namespace Vx
open Go.RowKit
set_option maxRecDepth 8000

/-- A contract whose own result is only looked at. -/
def Con.view (k : Con) (K : Nat) (rows : k.A → k.X → List (List D)) : Con := { k with res := fun a x => .sl false K (rows a x), fin := fun _ _ => [] }
theorem Has.view {P : Program} {f : Nat} {k : Con} (H : Has P f k) (K : Nat) (rows : k.A → k.X → List (List D)) (hr : ∀ a x, k.res a x = .own 8 K (rows a x)) (hb : ∀ a, k.boxes a = []) (hl : k.lends = []) : Has P f (k.view K rows) := by
  suffices key : ∀ (a : k.A), k.pre a → ∀ (c : Cx) (_ : Kn k.need c) (vs : List Value) (β : Nat → Value) (fp : Nat → List (Nat × Nat)), c.n = k.n → c.pins = k.pins2 a β → vs.length = (k.args a).length → vs.length ≤ k.n →
      SatI c (k.start2 a) ⟨vs.toArray ++ Array.replicate (k.n - vs.length) undef, []⟩ c.w0 β fp →
      Calls P f vs.toArray c.w0 fun e w' => ∃ x : k.X, k.post a x ∧ ∃ v, e = .returned v ∧ ∃ β' fp' a', SatI c ⟨fun _ => none, get? []⟩ a' w' β' fp' ∧ RelL w' (get? []) β' c [.sl false K (rows a x)] [v] by
    exact ⟨H.enter, H.tot, H.nob, fun (a : k.A) ha c hky vs β fp hn hpin hlen hlen2 S => key a ha c hky vs β fp hn hpin hlen hlen2 S, H.bldr, H.bt.imp id fun h a => ⟨(h a).1, fun x p hp => (by cases hp)⟩⟩
  intro a ha c hky vs β fp hn hpin hlen hlen2 S
  have hp : c.pins = [] := by rw [hpin]; simp -implicitDefEqProofs [Con.pins2, hb, hl]
  refine (H.calls a ha c hky vs β fp hn hpin hlen hlen2 S).mono ?_
  rintro e w' ⟨x, hx, v, rfl, β', fp', a', E, hv⟩
  rw [hr] at hv
  have hv2 : ∃ e, Vw w' (get? (k.fin a x)) β' c false [.sl e K (rows a x)] [v] := by cases hv with | own _ h2 _ _ => exact h2
  obtain ⟨e, f, h1, h2⟩ := hv2
  refine ⟨x, hx, v, rfl, β', fp', a', ⟨?_, ?_, ?_, ?_, ?_, E.fg, E.old, E.os, E.tape, E.output, E.size, E.defers, E.tn, by simp -implicitDefEqProofs [hp]⟩, .sl ⟨e, f, h1, fun z hz => ⟨⟨?_, ?_⟩, (h2 z hz).2⟩⟩ .lnil⟩
  · intro t g av h; cases h
  · intro h blk hm; cases hm
  · intro h blk hm; cases hm
  · intro h h' blk blk' hm; cases hm
  · intro h blk hm; cases hm
  · rintro ⟨h, ty, vs, hm, _⟩; cases hm
  · intro h e k d R n cc hm; cases hm

end Vx
end Go.Proofs.YtnanellmaelipaaGreatDoor
/-
  Contracts: commits asked for (the program's AncIs, AncNew, AncLine).
-/
namespace Go.Proofs.YtnanellmaelipaaGreatDoor
namespace Vx
open Go.RowKit
set_option maxRecDepth 8000
--TAB tTabB

theorem areB_iff {r : RepoD} {l : List Int} : areB r l = true ↔ repoI r = true ∧ ∀ a ∈ l, 0 ≤ a ∧ a < r.commits.length := by
  unfold areB
  simp only [Bool.and_eq_true, List.all_eq_true, decide_eq_true_eq]
  constructor
  · rintro ⟨h1, h2⟩; exact ⟨h1, fun a ha => by have := h2 a ha; omega⟩
  · rintro ⟨h1, h2⟩; exact ⟨h1, fun a ha => by have := h2 a ha; omega⟩
def cAncestorsV : Con := cAncestors.view 1 fun a _ => eBools (anc a.1 a.2)
theorem ancestorsV_has : Has Tryz.prog 80 cAncestorsV := ancestors_has.view 1 _ (fun _ _ => rfl) (fun _ => rfl) rfl
def ancIsI (r : RepoD) (a b : Int) : Bool := areB r [a, b] && isT (anc r b) a.toNat
def cAncIs : Con := .fn 20 (RepoD × Int × Int) (fun a => [vRepo a.1, .int .i64 a.2.1, .int .i64 a.2.2]) (fun a => rpPre a.1) (fun a => .bool (ancIsI a.1 a.2.1 a.2.2)) (fun _ => [])
set_option maxHeartbeats 4000000 in
theorem ancIs_has : Has Tryz.prog 19 cAncIs := by
  refine has_walk mixed tTabB_ok (l := [(89, cAre), (80, cAncestorsV)]) (HasL.cons are_has (HasL.cons ancestorsV_has HasL.nil)) [0, 1, 2, 3, 6] ((fun a n (_ : Nat) => (fun _ => noInv) a n)) [] Tryz.func19 (by kernel_rfl) (code := _) (by unfold Tryz.f19; rfl) (by kernel_rfl) (by decide) (fun _ => ⟨(), trivial⟩) (by intro h; first | exact fun _ => rfl | cases h) (by kernel_rfl) ?_
  intro a ha
  obtain ⟨r, x, y⟩ := a
  replace ha : rpPre r := ha
  simp (maxSteps := 8000000) -implicitDefEqProofs [-kStep_move, -Bool.exists_bool, cAncIs, cAre, cAncestorsV, Con.view, cAncestors, Con.fn, tTabB, tTab, bRepo_def]
  try dsimp only
  try simp -implicitDefEqProofs only [and_assoc, exists_eq_left, exists_and_left, RepoD.ex1, RepoD.eta]
  refine ⟨[x, y], rfl, ha, fun h => ⟨h, ?_⟩, fun h => ⟨h, ?_⟩, fun _ => ⟨fun h => ⟨h, ?_⟩, fun _ => ?_⟩⟩
  · obtain ⟨h1, h2⟩ := areB_iff.1 h
    exact ⟨h1, h2 y (by simp)⟩
  · obtain ⟨h1, h2⟩ := areB_iff.1 h
    have := h2 x (by simp)
    rw [anc_len]; exact this
  · obtain ⟨h1, h2⟩ := areB_iff.1 h
    have := h2 x (by simp)
    have hx : x.toNat < (anc r y).length := by rw [anc_len]; omega
    simp -implicitDefEqProofs [hx, eBool, D.asBool]
  · unfold ancIsI
    cases h : areB r [x, y] with
    | false => rfl
    | true =>
      obtain ⟨h1, h2⟩ := areB_iff.1 h
      have := h2 x (by simp)
      have hx : x.toNat < (anc r y).length := by rw [anc_len]; omega
      simp -implicitDefEqProofs [hx, eBool, D.asBool, isT, List.getD_eq_getElem?_getD]

def ancNewI (r : RepoD) (a b : Int) : List Int := if areB r [a, b] then listT (sinL r b [a]) else []
def cAncNewI : Con := .fn 18 (RepoD × Int × Int) (fun a => [vRepo a.1, .int .i64 a.2.1, .int .i64 a.2.2]) (fun a => rpPre a.1) (fun a => .own 8 1 (eInts (ancNewI a.1 a.2.1 a.2.2))) (fun a => ownInts 8 (ancNewI a.1 a.2.1 a.2.2))
set_option maxHeartbeats 4000000 in
theorem ancNewI_has : Has Tryz.prog 20 cAncNewI := by
  refine has_walk mixed tTabB_ok (l := [(89, cAre), (81, cSince)]) (HasL.cons are_has (HasL.cons since_has HasL.nil)) [0, 1, 2, 3, 6] ((fun a n (_ : Nat) => (fun _ => noInv) a n)) [] Tryz.func20 (by kernel_rfl) (code := _) (by unfold Tryz.f20; rfl) (by kernel_rfl) (by decide) (fun _ => ⟨(), trivial⟩) (by intro h; first | exact fun _ => rfl | cases h) (by kernel_rfl) ?_
  intro a ha
  obtain ⟨r, x, y⟩ := a
  replace ha : rpPre r := ha
  simp (maxSteps := 8000000) -implicitDefEqProofs [-kStep_move, -Bool.exists_bool, cAncNewI, cAre, cSince, Con.fn, tTabB, tTab, bRepo_def]
  try dsimp only
  simp -implicitDefEqProofs only [and_assoc, exists_eq_left, exists_and_left, RepoD.ex1, RepoD.eta]
  have e0 : areB r [x, y] = false → ancNewI r x y = [] := fun h => by unfold ancNewI; rw [if_neg (by simp -implicitDefEqProofs [h])]
  have e1 : areB r [x, y] = true → ancNewI r x y = listT (sinL r y [x]) := fun h => by unfold ancNewI; rw [if_pos h]
  refine ⟨[x, y], rfl, ha, e0, fun h => ?_⟩
  obtain ⟨h1, h2⟩ := areB_iff.1 h
  exact ⟨[x], rfl, h1, (h2 y (by simp)).1, (h2 y (by simp)).2, by simp, by simpa using h2 x (by simp), e1 h, (e1 h).symm⟩

def ancLineI (r : RepoD) (a : Int) : List Int := if areB r [a] then lineP r a else []
end Vx
end Go.Proofs.YtnanellmaelipaaGreatDoor
/-
  The law FnMarkNear.
-/
namespace Go.Proofs.YtnanellmaelipaaGreatDoor
namespace Vx
open Go.RowKit
set_option maxRecDepth 8000

/-- How far a mark is. -/
def farM (r : RepoD) (a : Int) (h : HeadD) : Int := (listT (sinL r a [h.at_])).length
def isM (r : RepoD) (a : Int) (h : HeadD) : Bool := isT (anc r a) h.at_.toNat
theorem near_spec (r : RepoD) (m : List HeadD) (a : Int) : ∀ k, k ≤ m.length → (nearF r m a k = ([], -1) ∧ ∀ j, j < k → isM r a (m.getD j default) = false) ∨
    ∃ j, j < k ∧ isM r a (m.getD j default) = true ∧ nearF r m a k = ((m.getD j default).name, farM r a (m.getD j default)) ∧
      (∀ i, i < k → isM r a (m.getD i default) = true → farM r a (m.getD j default) ≤ farM r a (m.getD i default)) ∧
      ∀ i, i < j → isM r a (m.getD i default) = true → farM r a (m.getD j default) < farM r a (m.getD i default) := by
  intro k
  induction k with
  | zero => intro _; exact .inl ⟨rfl, fun j hj => absurd hj (by omega)⟩
  | succ k ih =>
    intro hk
    have g : m.getD k default = m[k] := by simp -implicitDefEqProofs [List.getD_eq_getElem?_getD, show k < m.length by omega]
    have s1 : nearF r m a (k + 1) = nearStep r a (nearF r m a k) (m.getD k default) := by
      unfold nearF; rw [take_succ' (show k < m.length by omega), List.foldl_append, g]; rfl
    have hnn : ∀ h, 0 ≤ farM r a h := fun h => by unfold farM; omega
    rw [s1]
    unfold nearStep
    cases hm : isM r a (m.getD k default) with
    | false =>
      have hm' : isT (anc r a) (m.getD k default).at_.toNat = false := hm
      rw [hm']
      simp only [Bool.false_eq_true, if_false]
      rcases ih (by omega) with ⟨h1, h2⟩ | ⟨j, h1, h2, h3, h4, h5⟩
      · refine .inl ⟨h1, fun j hj => ?_⟩
        rcases Nat.lt_or_ge j k with h | h
        · exact h2 j h
        · have : j = k := by omega
          subst this; exact hm
      · refine .inr ⟨j, by omega, h2, h3, fun i hi hi2 => ?_, h5⟩
        rcases Nat.lt_or_ge i k with h | h
        · exact h4 i h hi2
        · have : i = k := by omega
          subst this; rw [hm] at hi2; cases hi2
    | true =>
      have hm' : isT (anc r a) (m.getD k default).at_.toNat = true := hm
      rw [hm', if_pos rfl]
      rcases ih (by omega) with ⟨h1, h2⟩ | ⟨j, h1, h2, h3, h4, h5⟩
      · rw [h1, if_pos (.inl (by show (-1 : Int) < 0; omega))]
        refine .inr ⟨k, by omega, hm, rfl, fun i hi hi2 => ?_, fun i hi hi2 => ?_⟩
        · rcases Nat.lt_or_ge i k with h | h
          · rw [h2 i h] at hi2; cases hi2
          · have : i = k := by omega
            subst this; exact Int.le_refl _
        · rw [h2 i hi] at hi2; cases hi2
      · rw [h3]
        by_cases hc : farM r a (m.getD k default) < farM r a (m.getD j default)
        · rw [if_pos (.inr hc)]
          refine .inr ⟨k, by omega, hm, rfl, fun i hi hi2 => ?_, fun i hi hi2 => ?_⟩
          · rcases Nat.lt_or_ge i k with h | h
            · have := h4 i h hi2; omega
            · have : i = k := by omega
              subst this; exact Int.le_refl _
          · have := h4 i hi hi2; omega
        · have hn := hnn (m.getD j default)
          rw [if_neg (by rintro (h | h); (have h : farM r a (m.getD j default) < 0 := h; omega); exact hc h)]
          refine .inr ⟨j, by omega, h2, rfl, fun i hi hi2 => ?_, h5⟩
          rcases Nat.lt_or_ge i k with h | h
          · exact h4 i h hi2
          · have : i = k := by omega
            subst this; omega
def mnOk (r : RepoD) (m : List HeadD) (a : Int) : Prop := drawnR r ∧ m.length ≤ 3 ∧ marksI (r, m) = true ∧ (0 ≤ a ∧ a < r.commits.length)
theorem mn_near {r m a} (h : mnOk r m a) : nearI r m a = nearF r m a m.length := by
  unfold nearI
  rw [h.2.2.1, if_pos]; have := h.2.2.2; simp; omega
theorem mn_mark {r m a} (h : mnOk r m a) : repoI r = true ∧ ∀ i (hi : i < m.length), 0 ≤ m[i].at_ ∧ m[i].at_ < r.commits.length := by
  obtain ⟨hr, hh⟩ : repoI r = true ∧ headsB r.commits.length m = true := by have := h.2.2.1; unfold marksI at this; simpa using this
  refine ⟨hr, fun i hi => ?_⟩
  have := ((headsB_iff _ _).1 hh).2 i hi
  simp only [okHd, inN, List.getD_eq_getElem?_getD, List.getElem?_eq_getElem hi, Option.getD_some, Bool.and_eq_true, decide_eq_true_eq] at this
  omega
theorem mn_asc {r m a} (h : mnOk r m a) : ∀ i j (_ : i < j) (hj : j < m.length), Go.Op.bytesLess (m.getD i default).name (m.getD j default).name = true := by
  obtain ⟨hr, hh⟩ : repoI r = true ∧ headsB r.commits.length m = true := by have := h.2.2.1; unfold marksI at this; simpa using this
  have h2 := ((headsB_iff _ _).1 hh).2
  have hp := heads_pw (l := m) fun i h3 h4 => by
    have := h2 i h4
    unfold okHd at this
    simp only [Bool.and_eq_true, Bool.or_eq_true, decide_eq_true_eq] at this
    rcases this.2 with h5 | h5
    · omega
    · exact h5
  intro i j hij hj
  have := List.pairwise_iff_getElem.1 hp i j (by omega) hj hij
  simpa [List.getD_eq_getElem?_getD, hj, (show i < m.length by omega)] using this
/-- What the law asks of each mark. -/
theorem mn_fact {r m a} (h : mnOk r m a) {i : Nat} (hi : i < m.length) (hm : isM r a m[i] = true) : ¬ (nearI r m a).2 < 0 ∧ (nearI r m a).2 ≤ farM r a m[i] ∧ (farM r a m[i] = (nearI r m a).2 → Go.Op.bytesLess m[i].name (nearI r m a).1 = false) := by
  rw [mn_near h]
  have g : m.getD i default = m[i] := by simp -implicitDefEqProofs [List.getD_eq_getElem?_getD, hi]
  rcases near_spec r m a m.length (Nat.le_refl _) with ⟨h1, h2⟩ | ⟨j, h1, h2, h3, h4, h5⟩
  · have := h2 i hi; rw [g, hm] at this; cases this
  · rw [h3]
    have q := h4 i hi (by rw [g]; exact hm)
    rw [g] at q
    refine ⟨by show ¬ farM r a _ < 0; unfold farM; omega, q, fun e => ?_⟩
    rcases Nat.lt_trichotomy i j with hij | hij | hij
    · have := h5 i hij (by rw [g]; exact hm)
      rw [g] at this
      have e : farM r a m[i] = farM r a (m.getD j default) := e
      omega
    · subst hij; rw [g]; exact less_irrefl _
    · have := mn_asc h j i hij hi
      rw [g] at this
      cases hq : Go.Op.bytesLess m[i].name (m.getD j default).name with
      | false => rfl
      | true => have := less_trans this hq; rw [less_irrefl] at this; cases this
/-- Whether the one that is told was met yet. -/
def metM (r : RepoD) (m : List HeadD) (a : Int) (i : Nat) : Bool := (decide ((nearI r m a).2 < 0) && decide ((nearI r m a).1 = [])) || (m.take i).any fun h => isM r a h && (decide (h.name = (nearI r m a).1) && decide (farM r a h = (nearI r m a).2))
theorem metM_end {r m a} (h : mnOk r m a) : metM r m a m.length = true := by
  unfold metM
  rw [List.take_length]
  rw [mn_near h]
  rcases near_spec r m a m.length (Nat.le_refl _) with ⟨h1, h2⟩ | ⟨j, h1, h2, h3, h4, h5⟩
  · rw [h1]; rfl
  · rw [h3]
    have g : m.getD j default = m[j] := by simp -implicitDefEqProofs [List.getD_eq_getElem?_getD, h1]
    rw [g] at h2 ⊢
    rw [Bool.or_eq_true]
    right
    rw [List.any_eq_true]
    exact ⟨m[j], List.getElem_mem h1, by rw [h2]; simp⟩
theorem metM_succ {r m a} {i : Nat} (hi : i < m.length) : metM r m a (i + 1) = (metM r m a i || (isM r a m[i] && (decide (m[i].name = (nearI r m a).1) && decide (farM r a m[i] = (nearI r m a).2)))) := by
  unfold metM
  rw [take_succ' hi, List.any_append, Bool.or_assoc]
  simp
abbrev mnEnv (r : RepoD) (m : List HeadD) (a : Int) (i : Nat) : Sc := ⟨[(2, true, .bool false), (3, true, .ptr 10 0), (4, true, .own 9 2 (eHeads m)), (5, true, .int .i64 a), (6, true, .str (nearI r m a).1), (7, true, .int .i64 (nearI r m a).2), (10, true, .bool (metM r m a i)), (11, true, .int .i64 i)], [(10, .box 26 [.sl false 3 (eCommits r.commits), .sl false 2 (eHeads r.heads)]), (9, .own 34 2 true (eHeads m))]⟩
def mnA : Inv := ⟨RepoD × List HeadD × Int × Nat, fun x => mnEnv x.1 x.2.1 x.2.2.1 x.2.2.2, fun x => mnOk x.1 x.2.1 x.2.2.1 ∧ x.2.2.2 ≤ x.2.1.length, fun x => 3 - x.2.2.2⟩
def cFnMarkNear : Con := .fn 136 Str (fun s => [.sl true 1 (eBytes s)]) (fun _ => True) (fun _ => .bool true) (fun _ => [])
set_option maxHeartbeats 4000000 in
theorem fnMarkNear_has : Has Tryz.prog 3 cFnMarkNear := by
  refine has_walk mixed tTab_ok (l := [(15, cDrawMarkNear), (16, cMarkNearI), (17, cMarkNearS), (18, cMarksOkI), (19, cAncIs), (20, cAncNewI)]) (HasL.cons drawMarkNear_has (HasL.cons markNearI_has (HasL.cons markNearS_has (HasL.cons marksOkI_has (HasL.cons ancIs_has (HasL.cons ancNewI_has HasL.nil)))))) [0, 2, 3, 4, 5, 6, 7, 8, 9, 10, 11, 12] ((fun a n (_ : Nat) => (fun _ _ => mnA) a n)) [] Tryz.func3 (by kernel_rfl) (code := _) (by unfold Tryz.f3; rfl) (by kernel_rfl) (by decide) (fun _ => ⟨(), trivial⟩) (by intro h; first | exact fun _ => rfl | cases h) (by kernel_rfl) ?_
  intro (s : Str) _
  simp (maxSteps := 8000000) -implicitDefEqProofs [-kStep_move, -kStepC_move, -Bool.exists_bool, cFnMarkNear, cDrawMarkNear, cMarkNearI, cMarkNearS, cMarksOkI, cAncIs, cAncNewI, Con.fn, tTab, mnA, mnEnv, ← near_eq]
  try dsimp only
  simp -implicitDefEqProofs only [and_assoc, exists_eq_left, exists_and_left, RepoD.ex1, RepoD.eta]
  refine fun _ _ r m a hd hm3 => ⟨drawn_pre hd, drawn_pre hd, fun _ _ => ⟨trivial, trivial, drawn_pre hd⟩, ?_⟩
  have hrp := drawn_pre hd
  have hd16 := hd.1
  simp -implicitDefEqProofs only [not_true_eq_false, false_or, true_and, true_implies, and_true, implies_true]
  refine ⟨by cases marksI (r, m) <;> simp, fun _ _ => ⟨?_, fun _ hM h0 h1 => ⟨⟨r, rfl, rfl, 0, by simp -implicitDefEqProofs [metM], rfl, rfl, rfl, ⟨hd, hm3, hM, h0, h1⟩, Nat.zero_le _⟩, ?_⟩⟩⟩
  · rcases Int.lt_or_le a 0 with h | h
    · exact .inl (.inr h)
    · cases hq : marksI (r, m) with
      | false => exact .inl (.inl rfl)
      | true => exact .inr ⟨rfl, h⟩
  intro r m a b ok hb _
  refine ⟨fun hlt => ⟨hlt, fun _ => ?_⟩, fun hge => ?_⟩
  rotate_left
  · have : b = m.length := by omega
    subst this
    exact metM_end ok
  have qq : Option.map eHead m[b]? = some (eHead m[b]) := by simp -implicitDefEqProofs [hlt]
  have f1 := fun h => mn_fact ok hlt h
  have f2 := metM_succ (r := r) (a := a) hlt
  obtain ⟨hI, hat⟩ := mn_mark ok
  have hat := hat b hlt
  have hrp := drawn_pre ok.1
  have h3 := ok.2.1
  have ha := ok.2.2.2
  have e1 : ancIsI r m[b].at_ a = isM r a m[b] := by
    unfold ancIsI isM
    rw [areB_iff.2 ⟨hI, by simp; exact ⟨hat, ha⟩⟩, Bool.true_and]
  have e2 : ancNewI r m[b].at_ a = listT (sinL r a [m[b].at_]) := by
    unfold ancNewI
    rw [if_pos (areB_iff.2 ⟨hI, by simp; exact ⟨hat, ha⟩⟩)]
  have e3 : ((listT (sinL r a [m[b].at_])).length : Int) = farM r a m[b] := rfl
  have e4 : (listT (sinL r a [m[b].at_])).length ≤ 16 := by
    have h1 := listF_len (sinL r a [m[b].at_]) (sinL r a [m[b].at_]).length
    have h2 : (sinL r a [m[b].at_]).length = r.commits.length := by
      show (clrT (anc r a) _).length = _
      rw [clrT_len, anc_len]
    have := repo_n hI
    change (listT _).length ≤ _ at h1
    omega
  rw [qq]
  generalize m[b] = h at *
  simp -implicitDefEqProofs [eHead, D.asInt, D.asStr, e1, e2, e3]
  refine ⟨hrp, fun hi => ⟨by omega, by omega, fun _ _ => ⟨r, rfl, rfl, b + 1, by rw [f2, hi]; simp, by omega, rfl, rfl, ok, by omega, by omega⟩⟩, fun hi => ?_⟩
  obtain ⟨g1, g2, g3⟩ := f1 hi
  have g1' : 0 ≤ (nearI r m a).2 := by omega
  refine ⟨hlt, fun _ => ⟨hrp, fun a1 a2 a3 => ⟨a1, a2, a3, hlt⟩, fun _ => ⟨fun a1 a2 a3 => ⟨a1, a2, a3⟩, fun _ => ⟨fun a1 a2 => ⟨a1, a2, ?_⟩, fun _ => ⟨.inr ⟨g1', g2⟩, fun _ => ⟨g1', g2, g3, fun _ _ _ => ⟨fun hz => ⟨hz, hlt⟩, fun _ => ⟨fun hz => ⟨hz, ?_⟩, fun _ => ⟨by omega, by omega, fun _ _ => ⟨r, rfl, rfl, b + 1, by rw [f2, hi, Bool.true_and], by omega, rfl, rfl, ok, by omega, by omega⟩⟩⟩⟩⟩⟩⟩⟩⟩⟩
  · by_cases e : farM r a h = (nearI r m a).2
    · exact .inr ⟨a1, a2, e⟩
    · exact .inl e
  · by_cases e : h.name = (nearI r m a).1
    · exact .inr ⟨hz, e⟩
    · exact .inl e

end Vx
end Go.Proofs.YtnanellmaelipaaGreatDoor
