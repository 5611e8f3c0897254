/-
  Joined by program (merge.py): Df, LawA, Dg, Cm, Cn, Co, Cp, Cq, Cr, Ha, Bw, Ea, Ja, Ka. It shows what the single texts show; conditions: none but those of each lemma.
-/
import Derived.Test.YthmhaggmcfemnaaDoorWa
import Derived.Lib.Walk
import Derived.Lib.Builder
import Derived.Lib.AppendStr
import Derived.Lib.AppendZeros
import Derived.Lib.UnsafeStr
import Derived.Laws.Externs
import Derived.Laws.NewBlocks
import Derived.Shelf.RegionOpenPlain
import Derived.WalkKit
set_option linter.unusedVariables false
set_option linter.unusedSimpArgs false
set_option linter.unusedSectionVars false
/-
  Contracts: repositories (l7Ok, MarksOk).
-/
namespace Go.Proofs.YthmhaggmcfemnaaDoor
namespace Vx
open Go.RowKit
set_option maxRecDepth 8000

def rsO (r : RepoD) : Inv := ⟨Nat, fun i => ⟨[(1, true, .ptr 10 0), (2, true, .bool false), (3, true, .int .i64 i)], [(10, bRepo r)]⟩, fun i => i ≤ r.commits.length ∧ ∀ j, j < i → okCS r.commits j = true, fun i => r.commits.length - i⟩
def rsI (r : RepoD) (g : Nat) : Inv := ⟨Nat, fun k => ⟨[(1, true, .ptr 10 0), (2, true, .bool false), (3, true, .int .i64 g), (4, true, .ptr 11 0), (5, true, .int .i64 k)], [(10, bRepo r), (11, .box 101 [.sl true 1 (eInts (r.commits.getD g default).parents), .str (r.commits.getD g default).who, .sl true 2 (eFiles (r.commits.getD g default).tree)])]⟩,
  fun k => g < r.commits.length ∧ k ≤ (r.commits.getD g default).parents.length ∧ (∀ j, j < g → okCS r.commits j = true) ∧ ∀ j, j < k → oneP g (r.commits.getD g default).parents j = true, fun k => (r.commits.getD g default).parents.length - k⟩
def rsH (r : RepoD) : Inv := ⟨Nat, fun i => ⟨[(1, true, .ptr 10 0), (2, true, .bool false), (6, true, .int .i64 i)], [(10, bRepo r)]⟩, fun i => i ≤ r.heads.length ∧ (∀ j, j < r.commits.length → okCS r.commits j = true) ∧ ∀ j, j < i → okHd r.commits.length r.heads j = true, fun i => r.heads.length - i⟩
def rsInv (r : RepoD) (n g : Nat) : Inv := if n = 2 then rsO r else if n = 6 then rsI r g else rsH r
theorem rsInv_2 (r : RepoD) (g : Nat) : rsInv r 2 g = rsO r := rfl
theorem rsInv_6 (r : RepoD) (g : Nat) : rsInv r 6 g = rsI r g := rfl
theorem rsInv_13 (r : RepoD) (g : Nat) : rsInv r 13 g = rsH r := rfl

def cL7Ok : Con := .fn 126 RepoD (fun r => [vRepo r]) (fun r => r.commits.length ≤ 1073741824) (fun r => .bool (repoS r)) (fun _ => [])
set_option maxHeartbeats 4000000 in
theorem l7Ok_has : Has Tryd.prog 34 cL7Ok := by
  refine has_walk mixed tTab_ok (l := [(70, cL1In), (71, cL4Name), (27, cL4Ok)]) (HasL.cons l1In_has (HasL.cons l4Name_has (HasL.cons l4Ok_has HasL.nil))) [0, 1, 2, 3, 4, 5, 6] (fun r => rsInv r) [] Tryd.func34 (by kernel_rfl) (code := _) (by unfold Tryd.f34; rfl) (by kernel_rfl) (by decide) (fun _ => ⟨(), trivial⟩) (by intro h; first | exact fun _ => rfl | cases h) (by kernel_rfl) ?_
  intro (r : RepoD) hr
  replace hr : r.commits.length ≤ 1073741824 := hr
  have hN := fun i => @repoS_no r i
  have hN1 := fun i => @okCS_no1 r.commits i
  have hN2 := fun i k => @okCS_no2 r.commits i k
  have hY := fun i => @okCS_yes r.commits i
  have hM := fun i => @headsB_no r.commits.length r.heads i
  have hH := @repoS_noH r
  simp -implicitDefEqProofs [vc_skip, extOf, vc_seq, vc_cond, vc_block, vc_exit, vc_ret, vc_region, vc_regionD, vc_loop, kSeq_normal, kSeq_ret, kSeq_exit, kBlock_normal, kBlock_ret, kBlock_exit, kLoop_normal, kLoop_ret, kLoop_exit, kCond_bool, kNorm_app, vcOps_nil, vcOps_cons, kOps_app, kStep_some, kStep_none, vcDL_nil, vcDL_cons, kOpsD_app, kStepD_true, kStepD_false, kStepC_some, kStepC_none, kMv_app, act3_store, act3_call, act3_bs, kAct_app, kSt2_app, stealSlots, stealL, stealOne, subIn, AV.stolen, act_store, act_bs, act_append, act_call, kSet_app, kSet2_app, kSetG_app, kSetG_app0, kStore_ptr, kStore_eptr, kCallW_some, kCallC_some, kCall_some, wk_T, wk_n, wk_keep, wk_inv, wk_act, wk_dr, wk_le, aCalm, wantC, dstOk, calm, aCallK, aCall3K, subOf, subRep, aCall2K, apnd, bsMove, putBox, putOwn, partAV, mvL, AV.mv, AV.base, AV.moved, kBld, bldK, wrK, stK, AV.selfOk, AV.src, TI.flat, apSize, pickAV, St.val, St.cond, St.fn, St.next, St.set, St.trim, wipe_eq, wipeE_app, wipeM_app, pickEnv, get?, cGet, upd_app, withPuts, killAll, rm, freshP, Oper.hnd, Sc.st, ofConst, constOk, lenAV, elemLen, loadAV, ldL, ld1, fieldAddrAV, indexAddrAV, sliceAV, convAV, buildAV, fillAV, fieldAV, Out.of, binAV, AV.rows, AV.one, AV.cells, AV.deepOk, AV.toD, toDs, partRows, partRowsM, partsDeep, TK.zeroAV, TK.zeroD, byteOf, inR, Op.operands, Call.operands, passVs, passV, passL, pass1, passB, pasVs, pasV, pasL, pas1, ownsOk, okHs, okHs2, okFin, finOk2, rho, over, backRes, backAV, backAV1, backBlk, putBack, back2, back2_V, back2_1, m2, AV.wipe, AV.wipeV, AV.wipe1, Blk.wipe, AV.hs, AV.hs.hsL, alOps, Con.start2, Con.pk, bodyQ, fini, resAV, resA, firstId, Sc.from, renEnv, renT, renV, renVs, renL, ren1, renBox, renOwn, okRen, clOf, actB, setRow, flatRows, flatD, noInv, shr_nil, shr_some, kStepF_some, shareL, AV.viewed, AV.viewed1, cL7Ok, Con.fn, tTab, cL4Name, cL4Ok, cL1In, rsInv_2, rsInv_6, rsInv_13, rsO, rsI, rsH, bRepo_def]
  try dsimp only
  refine fun i hi hprev _ => ⟨fun hlt => ?_, fun hge => ?_⟩
  · have e3 : Option.map eCommit r.commits[i]? = some (eCommit r.commits[i]) := by simp -implicitDefEqProofs [List.getElem?_eq_getElem hlt]
    have hgc : r.commits.getD i default = r.commits[i] := by simp -implicitDefEqProofs [List.getD_eq_getElem?_getD, hlt]
    have n0 := hN i hlt
    have n1 := hN1 i
    have n2 := hN2 i
    have n3 := hY i
    rw [hgc] at n1 n2 n3
    simp -implicitDefEqProofs [hlt, e3, eCommit, D.asStr, D.asRows, cast_eq, and_assoc]
    try simp only [show r.commits[i]?.getD default = r.commits[i] by simp -implicitDefEqProofs [hlt]]
    generalize r.commits[i] = c at n1 n2 n3 ⊢
    clear hN hN1 hN2 hY hM hH e3 hgc
    refine ⟨hprev, fun t ht _ hinv _ => ⟨fun hlt2 => ?_, fun hge2 => ?_⟩⟩
    · have qt : Option.map eInt c.parents[t]? = some (eInt c.parents[t]) := by simp -implicitDefEqProofs [List.getElem?_eq_getElem hlt2]
      have q0 : Option.map eInt c.parents[0]? = some (eInt (c.parents[0]'(by omega))) := by simp -implicitDefEqProofs [List.getElem?_eq_getElem (show 0 < c.parents.length by omega)]
      have o : oneP i c.parents t = ((decide (0 ≤ c.parents[t]) && decide (c.parents[t] ≤ (i : Int) - 1)) && !(decide (0 < t) && decide (c.parents[t] = c.parents[0]'(by omega)))) := by
        unfold oneP inN
        rw [show c.parents.getD t 0 = c.parents[t] by simp -implicitDefEqProofs [List.getD_eq_getElem?_getD, hlt2], show c.parents.getD 0 0 = c.parents[0]'(by omega) by simp -implicitDefEqProofs [List.getD_eq_getElem?_getD, show 0 < c.parents.length by omega]]
      have n7 : oneP i c.parents t = false → repoS r = false := fun h => n0 (n2 t hlt2 h)
      have n8 : oneP i c.parents t = true → ∀ j, j < t + 1 → oneP i c.parents j = true := fun h j hj => by
        rcases Nat.lt_or_ge j t with h3 | h3
        · exact hinv j h3
        · have : j = t := by omega
          subst this; exact h
      simp -implicitDefEqProofs [qt, q0, eInt, hlt2]
      refine ⟨by omega, by omega, fun _ _ => ⟨fun h => ?_, fun g1 g2 => ⟨fun h0 => ⟨by omega, fun _ => ⟨fun he => n7 (by rw [o]; simp -implicitDefEqProofs [he, h0]), fun he => ⟨by omega, by omega, fun _ _ => ⟨t + 1, rfl, by omega, hprev, n8 (by rw [o]; simp -implicitDefEqProofs [g1, g2, he]), by omega⟩⟩⟩⟩,
        fun h0 => ⟨by omega, by omega, fun _ _ => ⟨t + 1, rfl, by omega, hprev, n8 (by rw [o, show decide (0 < t) = false by simp -implicitDefEqProofs [h0]]; simp -implicitDefEqProofs [g1, g2]), by omega⟩⟩⟩⟩⟩
      have : repoS r = false := n7 (by rw [o]; simp; omega)
      exact ⟨fun _ => this, fun _ => this⟩
    · have n9 : okS1 c = false → repoS r = false := fun h => n0 (n1 h)
      have n10 : okS1 c = true → ∀ j, j < i + 1 → okCS r.commits j = true := fun h j hj => by
        rcases Nat.lt_or_ge j i with h3 | h3
        · exact hprev j h3
        · have : j = i := by omega
          subst this
          exact n3 h (fun k hk => hinv k (by omega))
      refine fun _ => ⟨fun h => n9 (by simp -implicitDefEqProofs [okS1]; omega), fun h => ⟨fun hn => n9 (by simp -implicitDefEqProofs [okS1, hn]), fun hn => ⟨fun ht => n9 (by simp -implicitDefEqProofs [okS1, ht]), fun ht => ⟨by omega, by omega, fun _ _ => ⟨i + 1, rfl, by omega, n10 (by simp -implicitDefEqProofs [okS1, hn, ht]; omega), by omega⟩⟩⟩⟩⟩
  · clear hN hN1 hN2 hY
    have hall : ∀ j, j < r.commits.length → okCS r.commits j = true := fun j hj => hprev j (by omega)
    refine ⟨hall, fun t ht _ hinv _ => ⟨fun hlt2 => ?_, fun hge2 _ => ?_⟩⟩
    · generalize hhs : r.heads = hs at *
      have e3 : Option.map eHead hs[t]? = some (eHead hs[t]) := by simp -implicitDefEqProofs [List.getElem?_eq_getElem hlt2]
      have e4 : Option.map eHead hs[t - 1]? = some (eHead (hs[t - 1]'(by omega))) := by simp -implicitDefEqProofs [List.getElem?_eq_getElem (show t - 1 < hs.length by omega)]
      have hh : okHd r.commits.length hs t = (nameB hs[t].name && inN r.commits.length hs[t].at_ && (decide (t = 0) || Go.Op.bytesLess (hs[t - 1]'(by omega)).name hs[t].name)) := by
        unfold okHd
        rw [show hs.getD t default = hs[t] by simp -implicitDefEqProofs [List.getD_eq_getElem?_getD, hlt2], show hs.getD (t - 1) default = hs[t - 1]'(by omega) by simp -implicitDefEqProofs [List.getD_eq_getElem?_getD, show t - 1 < hs.length by omega]]
      have n7 : okHd r.commits.length hs t = false → repoS r = false := fun h => hH (hM t hlt2 h)
      have n8 : okHd r.commits.length hs t = true → ∀ j, j < t + 1 → okHd r.commits.length hs j = true := fun h j hj => by
        rcases Nat.lt_or_ge j t with h3 | h3
        · exact hinv j h3
        · have : j = t := by omega
          subst this; exact h
      have hq := leqS_iff hs[t].name (hs[t - 1]'(by omega)).name
      rw [less_eq] at hh
      unfold leqS at hq
      rw [hh] at n7 n8
      unfold inN at n7 n8
      clear hh hH hM
      simp -implicitDefEqProofs [hlt2, e3, e4, eHead, D.asStr, D.asInt, cast_eq, and_assoc]
      try simp +contextual -implicitDefEqProofs [eStr, eFile, cast_succ, cast_eq, cast_zero, List.getElem?_eq_getElem, eStrs_set, eFiles_set, eStrs_rep, eFiles_rep, ← eStrs_append, ← eFiles_append, eStrs_take, eStrs_drop, eFiles_take, eFiles_drop, eStrs_snoc, eFiles_snoc, and_assoc, hlt2]
      clear e3 e4 hinv hprev
      repeat' (first | intro _ | apply And.intro)
      all_goals first | omega | grind -ring
    · have h2 : headsB r.commits.length r.heads = decide (r.heads.length ≤ 5) := by
        unfold headsB
        have : (List.range r.heads.length).all (okHd r.commits.length r.heads) = true := by
          rw [List.all_eq_true]
          intro j hj
          have hj' : j < r.heads.length := by simpa using hj
          exact hinv j (by omega)
        rw [this, Bool.and_true]
      refine ⟨fun h16 _ => ?_, fun h16 => ?_⟩
      · rw [Bool.eq_iff_iff, repoS_iff, h2]
        simp only [decide_eq_true_eq]
        exact ⟨fun h => by have := h.2.1; omega, fun h => ⟨hall, by omega, by omega⟩⟩
      · cases hq : repoS r with
        | false => rfl
        | true => have := ((repoS_iff r).1 hq).2.2; omega

def marksI (a : RepoD × List HeadD) : Bool := repoI a.1 && headsB a.1.commits.length a.2
end Vx
end Go.Proofs.YthmhaggmcfemnaaDoor
/-
  Laws: FnExactStatLines.
-/
namespace Go.Proofs.YthmhaggmcfemnaaDoor
namespace Vx
open Go.RowKit
set_option maxRecDepth 8000

theorem szL_ok : ∀ {a : List Str} {l : Int}, 0 ≤ szL a l → ∀ s ∈ a, (s.length : Int) ≤ l := by
  intro a
  induction a with
  | nil => intro l _ s hs; cases hs
  | cons x r ih =>
    intro l h s hs
    simp only [szL] at h
    split at h
    · omega
    · rcases List.mem_cons.1 hs with rfl | hs
      · have := szL_le (a := r) (l := l - s.length) (by omega); omega
      · have := ih h s hs; omega
theorem szStrs_ok {a : List Str} {l : Int} (h : 0 ≤ szStrs a l) : (a.length : Int) ≤ l ∧ ∀ s ∈ a, (s.length : Int) ≤ l := by
  unfold szStrs at h
  split at h
  · omega
  · refine ⟨by omega, fun s hs => ?_⟩
    have := szL_ok h s hs; omega
theorem szF_ok {f : FileD} {l : Int} (h : 0 ≤ szF f l) : (f.path.length : Int) ≤ l ∧ (f.text.length : Int) ≤ l ∧ ∀ s ∈ f.text, (s.length : Int) ≤ l := by
  unfold szF at h
  split at h
  · omega
  · split at h
    · omega
    · obtain ⟨h1, h2⟩ := szStrs_ok h
      refine ⟨by omega, by omega, fun s hs => ?_⟩
      have := h2 s hs; omega
theorem szFL_ok : ∀ {a : List FileD} {l : Int}, 0 ≤ l → 0 ≤ szFL a l → ∀ f ∈ a, (f.path.length : Int) ≤ l ∧ (f.text.length : Int) ≤ l ∧ ∀ s ∈ f.text, (s.length : Int) ≤ l := by
  intro a
  induction a with
  | nil => intro l _ _ f hf; cases hf
  | cons x r ih =>
    intro l hl h f hf
    simp only [szFL] at h
    split at h
    · omega
    · rename_i h0
      rcases List.mem_cons.1 hf with rfl | hf
      · exact szF_ok (by omega)
      · have hle := szF_le (f := x) hl
        obtain ⟨h1, h2, h3⟩ := ih (by omega) h f hf
        refine ⟨by omega, by omega, fun s hs => ?_⟩
        have := h3 s hs; omega
theorem szFiles_ok {a : List FileD} {l : Int} (h : 0 ≤ szFiles a l) : (a.length : Int) ≤ l ∧ ∀ f ∈ a, (f.path.length : Int) ≤ l ∧ (f.text.length : Int) ≤ l ∧ ∀ s ∈ f.text, (s.length : Int) ≤ l := by
  unfold szFiles at h
  split at h
  · omega
  · refine ⟨by omega, fun f hf => ?_⟩
    obtain ⟨h1, h2, h3⟩ := szFL_ok (by omega) h f hf
    refine ⟨by omega, by omega, fun s hs => ?_⟩
    have := h3 s hs; omega
theorem szL_bd : ∀ {a : List Str} {l : Int}, 0 ≤ l → -1 ≤ szL a l := by
  intro a
  induction a with
  | nil => intro l h; simp [szL]; omega
  | cons x r ih =>
    intro l h
    simp only [szL]
    split
    · omega
    · exact ih (by omega)

end Vx
end Go.Proofs.YthmhaggmcfemnaaDoor
/-
  Laws: FnExactMarksOk.
-/
namespace Go.Proofs.YthmhaggmcfemnaaDoor
namespace Vx
open Go.RowKit
set_option maxRecDepth 8000

theorem szCm_ok {c : CommitD} {l : Int} (hl : 0 ≤ l) (h : 0 ≤ szCm c l) : (c.parents.length : Int) ≤ l ∧ (c.who.length : Int) ≤ l ∧ (c.tree.length : Int) ≤ l ∧ ∀ f ∈ c.tree, (f.path.length : Int) ≤ l ∧ (f.text.length : Int) ≤ l ∧ ∀ s ∈ f.text, (s.length : Int) ≤ l := by
  unfold szCm at h
  have h0 := szI_le (a := c.parents) hl
  split at h
  · omega
  · split at h
    · omega
    · split at h
      · omega
      · rename_i h1 h2 h3
        obtain ⟨q1, q2⟩ := szFiles_ok (Int.not_lt.1 h3)
        have hp : (c.parents.length : Int) ≤ l := by
          unfold szI at h1
          split at h1 <;> omega
        refine ⟨hp, by omega, by omega, fun f hf => ?_⟩
        obtain ⟨r1, r2, r3⟩ := q2 f hf
        exact ⟨by omega, by omega, fun s hs => by have := r3 s hs; omega⟩
theorem szCL_ok : ∀ {a : List CommitD} {l : Int}, 0 ≤ l → 0 ≤ szCL a l → ∀ c ∈ a, (c.parents.length : Int) ≤ l ∧ (c.who.length : Int) ≤ l ∧ (c.tree.length : Int) ≤ l ∧ ∀ f ∈ c.tree, (f.path.length : Int) ≤ l ∧ (f.text.length : Int) ≤ l ∧ ∀ s ∈ f.text, (s.length : Int) ≤ l := by
  intro a
  induction a with
  | nil => intro l _ _ c hc; cases hc
  | cons x r ih =>
    intro l hl h c hc
    simp only [szCL] at h
    split at h
    · omega
    · rename_i h0
      rcases List.mem_cons.1 hc with rfl | hc
      · exact szCm_ok hl (by omega)
      · have hle := szCm_le (c := x) hl
        obtain ⟨h1, h2, h3, h4⟩ := ih (by omega) h c hc
        refine ⟨by omega, by omega, by omega, fun f hf => ?_⟩
        obtain ⟨r1, r2, r3⟩ := h4 f hf
        exact ⟨by omega, by omega, fun s hs => by have := r3 s hs; omega⟩
theorem szCommits_ok {a : List CommitD} {l : Int} (h : 0 ≤ szCommits a l) : (a.length : Int) ≤ l ∧ ∀ c ∈ a, (c.parents.length : Int) ≤ l ∧ (c.who.length : Int) ≤ l ∧ (c.tree.length : Int) ≤ l ∧ ∀ f ∈ c.tree, (f.path.length : Int) ≤ l ∧ (f.text.length : Int) ≤ l ∧ ∀ s ∈ f.text, (s.length : Int) ≤ l := by
  unfold szCommits at h
  split at h
  · omega
  · refine ⟨by omega, fun c hc => ?_⟩
    obtain ⟨h1, h2, h3, h4⟩ := szCL_ok (by omega) h c hc
    refine ⟨by omega, by omega, by omega, fun f hf => ?_⟩
    obtain ⟨r1, r2, r3⟩ := h4 f hf
    exact ⟨by omega, by omega, fun s hs => by have := r3 s hs; omega⟩
theorem szHL_le : ∀ {a : List HeadD} {l : Int}, 0 ≤ l → szHL a l ≤ l := by
  intro a
  induction a with
  | nil => intro l _; exact Int.le_refl l
  | cons s r ih =>
    intro l h
    simp only [szHL]
    split
    · omega
    · have h1 := szHd_le (f := s) h
      have := ih (l := szHd s l) (by omega); omega
theorem szHeads_le {a : List HeadD} {l : Int} (h : 0 ≤ l) : szHeads a l ≤ l := by
  unfold szHeads
  split
  · omega
  · have := szHL_le (a := a) (l := l - a.length) (by omega); omega
theorem szHL_ok : ∀ {a : List HeadD} {l : Int}, 0 ≤ l → 0 ≤ szHL a l → ∀ h ∈ a, (h.name.length : Int) ≤ l := by
  intro a
  induction a with
  | nil => intro l _ _ c hc; cases hc
  | cons x r ih =>
    intro l hl h c hc
    simp only [szHL] at h
    split at h
    · omega
    · rename_i h0
      have hle := szHd_le (f := x) hl
      rcases List.mem_cons.1 hc with rfl | hc
      · unfold szHd at h0
        split at h0 <;> omega
      · have := ih (by omega) h c hc; omega
theorem szHeads_ok {a : List HeadD} {l : Int} (h : 0 ≤ szHeads a l) : (a.length : Int) ≤ l ∧ ∀ h ∈ a, (h.name.length : Int) ≤ l := by
  unfold szHeads at h
  split at h
  · omega
  · exact ⟨by omega, fun c hc => by have := szHL_ok (by omega) h c hc; omega⟩
theorem szRp_le {r : RepoD} {l : Int} (h : 0 ≤ l) : szRp r l ≤ l := by
  unfold szRp
  have h1 := szCommits_le (a := r.commits) h
  split
  · omega
  · split
    · omega
    · have := szHeads_le (a := r.heads) (l := szCommits r.commits l) (by omega); omega
theorem szRp_ok {r : RepoD} {l : Int} (hl : 0 ≤ l) (h : 0 ≤ szRp r l) : ((r.commits.length : Int) ≤ l ∧ ∀ c ∈ r.commits, (c.parents.length : Int) ≤ l ∧ (c.who.length : Int) ≤ l ∧ (c.tree.length : Int) ≤ l ∧ ∀ f ∈ c.tree, (f.path.length : Int) ≤ l ∧ (f.text.length : Int) ≤ l ∧ ∀ s ∈ f.text, (s.length : Int) ≤ l) ∧
    (r.heads.length : Int) ≤ l ∧ ∀ h ∈ r.heads, (h.name.length : Int) ≤ l := by
  unfold szRp at h
  have h1 := szCommits_le (a := r.commits) hl
  split at h
  · omega
  · split at h
    · omega
    · rename_i h2 h3
      obtain ⟨q1, q2⟩ := szHeads_ok (Int.not_lt.1 h3)
      exact ⟨szCommits_ok (Int.not_lt.1 h2), by omega, fun c hc => by have := q2 c hc; omega⟩
theorem szRp_use {r : RepoD} (h : 0 ≤ szRp r 1048576) : rpSz r ∧ rpPre r := by
  obtain ⟨⟨h1, h2⟩, h3, h4⟩ := szRp_ok (by omega) h
  refine ⟨⟨by omega, fun c hc => ?_, by omega⟩, by omega, fun c hc f hf => ?_⟩
  · obtain ⟨q1, q2, q3, q4⟩ := h2 c hc
    exact ⟨by omega, by omega, fun g hg => by have := (q4 g hg).2.1; omega⟩
  · have := ((h2 c hc).2.2.2 f hf).1; omega

end Vx
end Go.Proofs.YthmhaggmcfemnaaDoor
/-
  Contracts: views (both sides): what is at a path.
-/
namespace Go.Proofs.YthmhaggmcfemnaaDoor
namespace Vx
open Go.RowKit
set_option maxRecDepth 8000

/-- The first place where p holds; -1 if there is none. -/
def idxP {α : Type} (p : α → Bool) (l : List α) : Int := match l.findIdx? p with | some i => (i : Int) | none => -1
theorem idxP_hit {α : Type} {p : α → Bool} {l : List α} {i : Nat} (h : i < l.length) (hp : p l[i] = true) (hb : ∀ x, x ∈ l.take i → p x = false) : idxP p l = (i : Int) := by
  unfold idxP
  have : l.findIdx? p = some i := by
    rw [List.findIdx?_eq_some_iff_getElem]
    refine ⟨h, hp, fun j hj => ?_⟩
    have := hb l[j] (List.mem_take_iff_getElem.2 ⟨j, by omega, rfl⟩)
    simp [this]
  rw [this]
theorem idxP_miss {α : Type} {p : α → Bool} {l : List α} {i : Nat} (h : l.length ≤ i) (hb : ∀ x, x ∈ l.take i → p x = false) : idxP p l = -1 := by
  unfold idxP
  rw [List.take_of_length_le h] at hb
  rw [List.findIdx?_eq_none_iff.2 (by simpa using hb)]
theorem idxP_any {α : Type} (p : α → Bool) (l : List α) : (0 ≤ idxP p l) = (l.any p = true) := by
  apply propext
  unfold idxP
  cases h : l.findIdx? p with
  | some i =>
    obtain ⟨h1, h2, _⟩ := List.findIdx?_eq_some_iff_getElem.1 h
    simp only [Int.natCast_nonneg, true_iff, List.any_eq_true]
    exact ⟨_, List.getElem_mem h1, h2⟩
  | none =>
    have := List.findIdx?_eq_none_iff.1 h
    simp only [List.any_eq_true]
    constructor
    · intro h; omega
    · rintro ⟨x, hx, hp⟩; rw [this x hx] at hp; cases hp
theorem idxP_ge {α : Type} (p : α → Bool) (l : List α) : -1 ≤ idxP p l ∧ idxP p l < (l.length : Int) + 1 := by
  unfold idxP
  cases h : l.findIdx? p with
  | some i =>
    obtain ⟨h1, _, _⟩ := List.findIdx?_eq_some_iff_getElem.1 h
    simp only
    omega
  | none => simp only; omega
theorem take_step {α : Type} {l : List α} {i : Nat} {q : α → Prop} (h : i < l.length) (hb : ∀ x, x ∈ l.take i → q x) (hi : q l[i]) : ∀ x, x ∈ l.take (i + 1) → q x := by
  intro x hx
  rw [List.take_succ_eq_append_getElem h, List.mem_append] at hx
  rcases hx with hx | hx
  · exact hb x hx
  · simp only [List.mem_singleton] at hx
    subst hx; exact hi

abbrev fBox (f : FileD) : List AV := [.str f.path, .sl true 1 (eStrs f.text)]
def atB (p q : Str) : Bool := decide (p = q) || prefB (q ++ [47]) p
def visB (f : FileD) (l : List Str) : Bool := l.any (atB f.path)
def viewI (l : List Str) : Bool := decide (l.length ≤ 4) && l.all pathI
end Vx
end Go.Proofs.YthmhaggmcfemnaaDoor
/-
  Contracts: ViewFree, both sides; the law.
-/
namespace Go.Proofs.YthmhaggmcfemnaaDoor
namespace Vx
open Go.RowKit
set_option maxRecDepth 8000

def at25 (p q : Str) : Bool := decide (q = p) || inB q p
def in25 (l : List Str) (p : Str) : Bool := l.any (at25 p)
def viewS (l : List Str) : Bool := l.all pathS && decide (l.length ≤ 4)
def freeS (t : List FileD) (a b : List Str) : Bool := treeS t && viewS a && viewS b && t.all fun f => !(in25 a f.path && in25 b f.path)
def freeI (t : List FileD) (a b : List Str) : Bool := treeI t && viewI a && viewI b && t.all fun f => !(visB f a && visB f b)
theorem at_in (f : FileD) (q : Str) : atB f.path q = (decide (q = f.path) || inB q f.path) := by
  unfold atB
  rw [in_pref]
  congr 1
  simp only [eq_comm]
theorem vis_in (f : FileD) (l : List Str) : visB f l = in25 l f.path := by
  unfold visB in25
  congr 1
  funext q
  exact at_in f q
theorem view_eq (l : List Str) : viewI l = viewS l := by
  unfold viewI viewS
  rw [show pathI = pathS from funext path_eq, Bool.and_comm]
theorem free_eq (t : List FileD) (a b : List Str) : freeI t a b = freeS t a b := by
  unfold freeI freeS
  simp only [tree_eq, view_eq, vis_in]

theorem szStrs_le' {a : List Str} {l : Int} (h : 0 ≤ l) (h2 : l ≤ 1048576) : szStrs a l ≤ 1048576 := by have := szStrs_le (a := a) h; omega
theorem szFL_le : ∀ {a : List FileD} {l : Int}, 0 ≤ l → szFL a l ≤ l := by
  intro a
  induction a with
  | nil => intro l _; exact Int.le_refl l
  | cons s r ih =>
    intro l h
    simp only [szFL]
    split
    · omega
    · have h1 := szF_le (f := s) h
      have := ih (l := szF s l) (by omega); omega
theorem szFiles_le {a : List FileD} {l : Int} (h : 0 ≤ l) : szFiles a l ≤ l := by
  unfold szFiles
  split
  · omega
  · have := szFL_le (a := a) (l := l - a.length) (by omega); omega
end Vx
end Go.Proofs.YthmhaggmcfemnaaDoor
/-
  Contracts: marks laid and looked for.
-/
namespace Go.Proofs.YthmhaggmcfemnaaDoor
namespace Vx
open Go.RowKit
set_option maxRecDepth 8000

def digL : Nat → Nat → Str → Str
  | 0, _, out => out
  | f + 1, k, out => if k = 0 then out else digL f (k / 10) (UInt8.ofNat (48 + k % 10) :: out)
theorem digL_fuel : ∀ {f g k : Nat} {out : Str}, k < f → k < g → digL f k out = digL g k out := by
  intro f
  induction f with
  | zero => intro g k out h; omega
  | succ f ih =>
    intro g k out h1 h2
    cases g with
    | zero => omega
    | succ g =>
      simp only [digL]
      split
      · rfl
      · exact ih (by omega) (by omega)
def dig (k : Nat) (out : Str) : Str := digL (k + 1) k out
theorem dig_zero (out : Str) : dig 0 out = out := rfl
theorem dig_step {k : Nat} {out : Str} (h : 0 < k) : dig k out = dig (k / 10) (UInt8.ofNat (48 + k % 10) :: out) := by
  unfold dig
  rw [digL, if_neg (by omega)]
  exact digL_fuel (by omega) (by omega)
def markS (k : Int) : Str := if k ≤ 0 then [109, 48] else 109 :: dig k.toNat []

def cMarkText : Con := .fn 20 Int (fun k => [.int .i64 k]) (fun k => k ≤ 4611686018427387904) (fun k => .str (markS k)) (fun _ => [])
set_option maxHeartbeats 4000000 in
theorem markText_has : Has Tryd.prog 46 cMarkText := by
  refine has_walk mixed tTab_ok (l := []) HasL.nil [0, 2, 3] ((fun a n (_ : Nat) => (fun k _ => ⟨Int × Str, fun t => ⟨[(0, true, .int .i64 t.1), (2, true, .str []), (3, true, .str t.2)], []⟩, fun t => 0 ≤ t.1 ∧ 0 < (show Int from k) ∧ t.2.length + t.1.toNat ≤ (show Int from k).toNat ∧ dig t.1.toNat t.2 = dig (show Int from k).toNat [], fun t => t.1.toNat⟩) a n)) [] Tryd.func46 (by kernel_rfl) (code := _) (by unfold Tryd.f46; rfl) (by kernel_rfl) (by decide) (fun _ => ⟨(), trivial⟩) (by intro h; first | exact fun _ => rfl | cases h) (by kernel_rfl) ?_
  intro (k : Int) hk
  replace hk : k ≤ 4611686018427387904 := hk
  have hm : ∀ n : Int, 0 ≤ n → n.tmod 10 = n % 10 := fun n h => Int.tmod_eq_emod_of_nonneg h
  have hq : ∀ n : Int, 0 ≤ n → n.tdiv 10 = n / 10 := fun n h => Int.tdiv_eq_ediv_of_nonneg h
  have hs : ∀ (n : Int) (out : Str), 0 < n → dig n.toNat out = dig (n / 10).toNat (UInt8.ofNat (48 + n % 10).toNat :: out) := fun n out h => by
    rw [dig_step (by omega)]
    congr 1
    · omega
    · congr 2; omega
  have hz : ∀ out : Str, dig 0 out = out := fun _ => rfl
  have hM : maxLen = 9223372036854775807 := rfl
  simp -implicitDefEqProofs [vc_skip, extOf, vc_seq, vc_cond, vc_block, vc_exit, vc_ret, vc_region, vc_regionD, vc_loop, kSeq_normal, kSeq_ret, kSeq_exit, kBlock_normal, kBlock_ret, kBlock_exit, kLoop_normal, kLoop_ret, kLoop_exit, kCond_bool, kNorm_app, vcOps_nil, vcOps_cons, kOps_app, kStep_some, kStep_none, vcDL_nil, vcDL_cons, kOpsD_app, kStepD_true, kStepD_false, kStepC_some, kStepC_none, kMv_app, act3_store, act3_call, act3_bs, kAct_app, kSt2_app, stealSlots, stealL, stealOne, subIn, AV.stolen, act_store, act_bs, act_append, act_call, kSet_app, kSet2_app, kSetG_app, kSetG_app0, kStore_ptr, kStore_eptr, kCallW_some, kCallC_some, kCall_some, wk_T, wk_n, wk_keep, wk_inv, wk_act, wk_dr, wk_le, aCalm, wantC, dstOk, calm, aCallK, aCall3K, subOf, subRep, aCall2K, apnd, bsMove, putBox, putOwn, partAV, mvL, AV.mv, AV.base, AV.moved, kBld, bldK, wrK, stK, AV.selfOk, AV.src, TI.flat, apSize, pickAV, St.val, St.cond, St.fn, St.next, St.set, St.trim, wipe_eq, wipeE_app, wipeM_app, pickEnv, get?, cGet, upd_app, withPuts, killAll, rm, freshP, Oper.hnd, Sc.st, ofConst, constOk, lenAV, elemLen, loadAV, ldL, ld1, fieldAddrAV, indexAddrAV, sliceAV, convAV, buildAV, fillAV, fieldAV, Out.of, binAV, AV.rows, AV.one, AV.cells, AV.deepOk, AV.toD, toDs, partRows, partRowsM, partsDeep, TK.zeroAV, TK.zeroD, byteOf, inR, Op.operands, Call.operands, passVs, passV, passL, pass1, passB, pasVs, pasV, pasL, pas1, ownsOk, okHs, okHs2, okFin, finOk2, rho, over, backRes, backAV, backAV1, backBlk, putBack, back2, back2_V, back2_1, m2, AV.wipe, AV.wipeV, AV.wipe1, Blk.wipe, AV.hs, AV.hs.hsL, alOps, Con.start2, Con.pk, bodyQ, fini, resAV, resA, firstId, Sc.from, renEnv, renT, renV, renVs, renL, ren1, renBox, renOwn, okRen, clOf, actB, setRow, flatRows, flatD, noInv, shr_nil, shr_some, kStepF_some, shareL, AV.viewed, AV.viewed1, cMarkText, Con.fn, tTab]
  try dsimp only
  refine ⟨fun h => by simp [markS, h], fun h0 => ⟨⟨k, [], ⟨rfl, rfl⟩, by omega, h0, by simp, rfl⟩, ?_⟩⟩
  intro a b ha _ hl hd
  rw [hm a ha, hq a ha, hM]
  refine ⟨fun hpos => ⟨by omega, fun _ _ => ⟨by omega, fun _ _ => ⟨by omega, fun _ => ⟨by omega, fun _ => ⟨by omega, fun _ _ => ⟨_, _, ⟨rfl, rfl⟩, ⟨by omega, h0, by simp only [List.length_cons]; omega, ?_⟩, by omega⟩⟩⟩⟩⟩⟩, fun hz0 => ⟨by omega, fun _ => ?_⟩⟩
  · rw [← hs a b hpos, hd]
  · obtain rfl : a = 0 := by omega
    rw [show dig (Int.toNat 0) b = b from rfl] at hd
    simp only [markS, if_neg (show ¬ k ≤ 0 by omega), hd]

def markL (n : Nat) (k : Int) : List Str := (List.range n).map fun i : Nat => markS (k + (i : Int))
theorem markL_len (n : Nat) (k : Int) : (markL n k).length = n := by simp [markL]
theorem markL_succ (n : Nat) (k : Int) : markL (n + 1) k = markL n k ++ [markS (k + n)] := by simp [markL, List.range_succ]
def mArr (a : List Str) (k : Int) (i : Nat) : List Str := markL i k ++ a.drop i
theorem mArr_len {a : List Str} {k : Int} {i : Nat} (h : i ≤ a.length) : (mArr a k i).length = a.length := by simp [mArr, markL_len]; omega
theorem mArr_set {a : List Str} {k : Int} {i : Nat} (h : i < a.length) : (mArr a k i).set i (markS (k + i)) = mArr a k (i + 1) := by
  unfold mArr
  have e : (l' : List Str) → l' = a.drop i → l'.set 0 (markS (k + i)) = markS (k + i) :: a.drop (i + 1) := by
    rintro _ rfl
    rw [List.drop_eq_getElem_cons h]; rfl
  rw [List.set_append_right _ _ (by simp [markL_len]), markL_len, Nat.sub_self, markL_succ, e _ rfl]
  simp
theorem mArr_zero (a : List Str) (k : Int) : mArr a k 0 = a := by simp [mArr, markL]
theorem mArr_end {a : List Str} {k : Int} {i : Nat} (h : a.length ≤ i) (h2 : i ≤ a.length) : mArr a k i = markL a.length k := by
  obtain rfl : i = a.length := by omega
  simp [mArr]

def cMarkStringS : Con := { A := List Str × Int, X := Unit, n := 20, args := fun a => [.own 0 1 (eStrs a.1), .int .i64 a.2], boxes := fun _ => [], pre := fun a => 0 ≤ a.2 ∧ a.2 + a.1.length ≤ 4611686018427387904, post := fun _ _ => True, res := fun a _ => .int .i64 (a.2 + a.1.length), fin := fun a _ => [(0, .own 9 1 true (eStrs (markL a.1.length a.2)))], owns := fun a => [(0, 9, 1, eStrs a.1)], lends := [0], mv := true, sube := 9 }
set_option maxHeartbeats 4000000 in
theorem markStringS_has : Has Tryd.prog 47 cMarkStringS := by
  refine has_walk mixed tTab_ok (l := [(46, cMarkText)]) (HasL.cons markText_has HasL.nil) [0, 1, 4, 5] ((fun a n (_ : Nat) => (fun a _ => ⟨Nat, fun i => ⟨[(0, true, .own 0 1 (eStrs (mArr a.1 a.2 i))), (1, true, .int .i64 (a.2 + i)), (4, true, .int .i64 0), (5, true, .int .i64 i)], [(0, .own 9 1 true (eStrs (mArr a.1 a.2 i)))]⟩, fun i => i ≤ a.1.length, fun i => a.1.length - i⟩) a n)) [] Tryd.func47 (by kernel_rfl) (code := _) (by unfold Tryd.f47; rfl) (by kernel_rfl) (by decide) (fun _ => ⟨(), trivial⟩) (by intro h; first | exact fun _ => rfl | cases h) (by kernel_rfl) ?_
  intro a ha
  obtain ⟨l, k⟩ := a
  obtain ⟨h1, h2⟩ : 0 ≤ k ∧ k + l.length ≤ 4611686018427387904 := ha
  have e1 := fun i => @mArr_len l k i
  have e2 := fun i => @mArr_set l k i
  have e3 := mArr_zero l k
  have e4 := fun i => @mArr_end l k i
  simp -implicitDefEqProofs [vc_skip, extOf, vc_seq, vc_cond, vc_block, vc_exit, vc_ret, vc_region, vc_regionD, vc_loop, kSeq_normal, kSeq_ret, kSeq_exit, kBlock_normal, kBlock_ret, kBlock_exit, kLoop_normal, kLoop_ret, kLoop_exit, kCond_bool, kNorm_app, vcOps_nil, vcOps_cons, kOps_app, kStep_some, kStep_none, vcDL_nil, vcDL_cons, kOpsD_app, kStepD_true, kStepD_false, kStepC_some, kStepC_none, kMv_app, act3_store, act3_call, act3_bs, kAct_app, kSt2_app, stealSlots, stealL, stealOne, subIn, AV.stolen, act_store, act_bs, act_append, act_call, kSet_app, kSet2_app, kSetG_app, kSetG_app0, kStore_ptr, kStore_eptr, kCallW_some, kCallC_some, kCall_some, wk_T, wk_n, wk_keep, wk_inv, wk_act, wk_dr, wk_le, aCalm, wantC, dstOk, calm, aCallK, aCall3K, subOf, subRep, aCall2K, apnd, bsMove, putBox, putOwn, partAV, mvL, AV.mv, AV.base, AV.moved, kBld, bldK, wrK, stK, AV.selfOk, AV.src, TI.flat, apSize, pickAV, St.val, St.cond, St.fn, St.next, St.set, St.trim, wipe_eq, wipeE_app, wipeM_app, pickEnv, get?, cGet, upd_app, withPuts, killAll, rm, freshP, Oper.hnd, Sc.st, ofConst, constOk, lenAV, elemLen, loadAV, ldL, ld1, fieldAddrAV, indexAddrAV, sliceAV, convAV, buildAV, fillAV, fieldAV, Out.of, binAV, AV.rows, AV.one, AV.cells, AV.deepOk, AV.toD, toDs, partRows, partRowsM, partsDeep, TK.zeroAV, TK.zeroD, byteOf, inR, Op.operands, Call.operands, passVs, passV, passL, pass1, passB, pasVs, pasV, pasL, pas1, ownsOk, okHs, okHs2, okFin, finOk2, rho, over, backRes, backAV, backAV1, backBlk, putBack, back2, back2_V, back2_1, m2, AV.wipe, AV.wipeV, AV.wipe1, Blk.wipe, AV.hs, AV.hs.hsL, alOps, Con.start2, Con.pk, bodyQ, fini, resAV, resA, firstId, Sc.from, renEnv, renT, renV, renVs, renL, ren1, renBox, renOwn, okRen, clOf, actB, setRow, flatRows, flatD, noInv, shr_nil, shr_some, kStepF_some, shareL, AV.viewed, AV.viewed1, cMarkStringS, Con.fn, tTab, cMarkText]
  try dsimp only
  try simp +contextual [eStr, eFile, cast_succ, cast_eq, cast_zero, List.getElem?_eq_getElem, eStrs_set, eFiles_set, eStrs_rep, eFiles_rep, ← eStrs_append, ← eFiles_append, eStrs_take, eStrs_drop, eFiles_take, eFiles_drop, eStrs_snoc, eFiles_snoc, and_assoc, e1, e2, e3]
  repeat' (first | intro _ | apply And.intro)
  all_goals first | omega | grind [all_take]

def heldL (a : List Str) (k : Int) : Int := if a = markL a.length k then k + a.length else -1
def cHeldStringS : Con := .fn 22 (List Str × Int) (fun a => [.sl true 1 (eStrs a.1), .int .i64 a.2]) (fun a => 0 ≤ a.2 ∧ a.2 + a.1.length ≤ 4611686018427387904) (fun a => .int .i64 (heldL a.1 a.2)) (fun _ => [])
theorem held_hit {a : List Str} {k : Int} {i : Nat} (h : a.length ≤ i) (h2 : i ≤ a.length) (h3 : a.take i = markL i k) : heldL a k = k + i := by
  obtain rfl : i = a.length := by omega
  rw [List.take_length] at h3
  unfold heldL
  rw [if_pos h3]
theorem held_miss {a : List Str} {k : Int} {i : Nat} (h : i < a.length) (h2 : a[i] ≠ markS (k + i)) : heldL a k = -1 := by
  unfold heldL
  rw [if_neg]
  intro h3
  apply h2
  have : a[i]? = (markL a.length k)[i]? := by rw [← h3]
  rw [List.getElem?_eq_getElem h] at this
  simpa [markL, h] using this
theorem held_step {a : List Str} {k : Int} {i : Nat} (h : i < a.length) (h2 : a[i] = markS (k + i)) (h3 : a.take i = markL i k) : a.take (i + 1) = markL (i + 1) k := by
  rw [take_succ' h, markL_succ, h3, h2]
set_option maxHeartbeats 4000000 in
theorem heldStringS_has : Has Tryd.prog 48 cHeldStringS := by
  refine has_walk mixed tTab_ok (l := [(46, cMarkText)]) (HasL.cons markText_has HasL.nil) [0, 1, 4, 5] ((fun a n (_ : Nat) => (fun a _ => ⟨Nat, fun i => ⟨[(0, true, .sl true 1 (eStrs a.1)), (1, true, .int .i64 (a.2 + i)), (4, true, .int .i64 0), (5, true, .int .i64 i)], []⟩, fun i => i ≤ a.1.length ∧ a.1.take i = markL i a.2, fun i => a.1.length - i⟩) a n)) [] Tryd.func48 (by kernel_rfl) (code := _) (by unfold Tryd.f48; rfl) (by kernel_rfl) (by decide) (fun _ => ⟨(), trivial⟩) (by intro h; first | exact fun _ => rfl | cases h) (by kernel_rfl) ?_
  intro a ha
  obtain ⟨l, k⟩ := a
  obtain ⟨h1, h2⟩ : 0 ≤ k ∧ k + l.length ≤ 4611686018427387904 := ha
  have e1 := fun i => @held_hit l k i
  have e2 := fun i => @held_miss l k i
  have e3 := fun i => @held_step l k i
  have e4 : markL 0 k = [] := rfl
  simp -implicitDefEqProofs [vc_skip, extOf, vc_seq, vc_cond, vc_block, vc_exit, vc_ret, vc_region, vc_regionD, vc_loop, kSeq_normal, kSeq_ret, kSeq_exit, kBlock_normal, kBlock_ret, kBlock_exit, kLoop_normal, kLoop_ret, kLoop_exit, kCond_bool, kNorm_app, vcOps_nil, vcOps_cons, kOps_app, kStep_some, kStep_none, vcDL_nil, vcDL_cons, kOpsD_app, kStepD_true, kStepD_false, kStepC_some, kStepC_none, kMv_app, act3_store, act3_call, act3_bs, kAct_app, kSt2_app, stealSlots, stealL, stealOne, subIn, AV.stolen, act_store, act_bs, act_append, act_call, kSet_app, kSet2_app, kSetG_app, kSetG_app0, kStore_ptr, kStore_eptr, kCallW_some, kCallC_some, kCall_some, wk_T, wk_n, wk_keep, wk_inv, wk_act, wk_dr, wk_le, aCalm, wantC, dstOk, calm, aCallK, aCall3K, subOf, subRep, aCall2K, apnd, bsMove, putBox, putOwn, partAV, mvL, AV.mv, AV.base, AV.moved, kBld, bldK, wrK, stK, AV.selfOk, AV.src, TI.flat, apSize, pickAV, St.val, St.cond, St.fn, St.next, St.set, St.trim, wipe_eq, wipeE_app, wipeM_app, pickEnv, get?, cGet, upd_app, withPuts, killAll, rm, freshP, Oper.hnd, Sc.st, ofConst, constOk, lenAV, elemLen, loadAV, ldL, ld1, fieldAddrAV, indexAddrAV, sliceAV, convAV, buildAV, fillAV, fieldAV, Out.of, binAV, AV.rows, AV.one, AV.cells, AV.deepOk, AV.toD, toDs, partRows, partRowsM, partsDeep, TK.zeroAV, TK.zeroD, byteOf, inR, Op.operands, Call.operands, passVs, passV, passL, pass1, passB, pasVs, pasV, pasL, pas1, ownsOk, okHs, okHs2, okFin, finOk2, rho, over, backRes, backAV, backAV1, backBlk, putBack, back2, back2_V, back2_1, m2, AV.wipe, AV.wipeV, AV.wipe1, Blk.wipe, AV.hs, AV.hs.hsL, alOps, Con.start2, Con.pk, bodyQ, fini, resAV, resA, firstId, Sc.from, renEnv, renT, renV, renVs, renL, ren1, renBox, renOwn, okRen, clOf, actB, setRow, flatRows, flatD, noInv, shr_nil, shr_some, kStepF_some, shareL, AV.viewed, AV.viewed1, cHeldStringS, Con.fn, tTab, cMarkText]
  try dsimp only
  try simp +contextual [eStr, eFile, cast_succ, cast_eq, cast_zero, List.getElem?_eq_getElem, eStrs_set, eFiles_set, eStrs_rep, eFiles_rep, ← eStrs_append, ← eFiles_append, eStrs_take, eStrs_drop, eFiles_take, eFiles_drop, eStrs_snoc, eFiles_snoc, and_assoc]
  repeat' (first | intro _ | apply And.intro)
  all_goals first | omega | grind [all_take]

end Vx
end Go.Proofs.YthmhaggmcfemnaaDoor
/-
  Contracts: words looked for in trees, both sides.
-/
namespace Go.Proofs.YthmhaggmcfemnaaDoor
namespace Vx
open Go.RowKit
set_option maxRecDepth 8000

def startsW (w l : Str) : Bool := prefB w l && (match l.drop w.length with | [] => true | y :: _ => !wordB y.toNat)
def occ (w : Str) : Bool → Str → Bool
  | b, [] => b && startsW w []
  | b, x :: r => (b && startsW w (x :: r)) || occ w (!wordB x.toNat) r
def hasP (w : Str) : Str → Str → Bool
  | [], c => decide (c = w)
  | x :: r, c => if wordB x.toNat then hasP w r (c ++ [x]) else decide (c = w) || hasP w r []

theorem occ_run {w : Str} : ∀ {c l : Str}, (∀ x ∈ c, wordB x.toNat = true) → occ w false (c ++ l) = occ w false l := by
  intro c
  induction c with
  | nil => intro l _; rfl
  | cons x c ih =>
    intro l h
    have hx := h x (by simp)
    rw [List.cons_append]
    show (false && _ || occ w (!wordB x.toNat) (c ++ l)) = _
    rw [hx]
    simpa using ih fun y hy => h y (by simp [hy])
theorem occ_true {w x : Str} {y : UInt8} {l : Str} : occ w true ((y :: x) ++ l) = (startsW w ((y :: x) ++ l) || occ w (!wordB y.toNat) (x ++ l)) := by
  rw [List.cons_append]
  show (true && _ || _) = _
  rw [Bool.true_and]
theorem starts_eq {w c l : Str} (hw : ∀ x ∈ w, wordB x.toNat = true) (hc : ∀ x ∈ c, wordB x.toNat = true) (hl : ∀ y r, l = y :: r → wordB y.toNat = false) : startsW w (c ++ l) = decide (c = w) := by
  rw [Bool.eq_iff_iff]
  simp only [startsW, prefB, Bool.and_eq_true, decide_eq_true_eq]
  constructor
  · rintro ⟨⟨h1, h2⟩, h3⟩
    rcases Nat.lt_trichotomy w.length c.length with h | h | h
    · rw [List.drop_append_of_le_length (by omega), List.drop_eq_getElem_cons h] at h3
      simp only [List.cons_append] at h3
      rw [hc _ (List.getElem_mem h)] at h3
      cases h3
    · rw [List.take_append_of_le_length (by omega), List.take_of_length_le (by omega)] at h2
      exact h2
    · rw [List.take_append, List.take_of_length_le (by omega)] at h2
      cases l with
      | nil => simp at h1; omega
      | cons y r =>
        have hy : y ∈ w := by
          rw [← h2]
          obtain ⟨k, hk⟩ : ∃ k, w.length - c.length = k + 1 := ⟨w.length - c.length - 1, by omega⟩
          rw [hk]; simp
        have h4 := hl y r rfl
        rw [hw y hy] at h4
        cases h4
  · rintro rfl
    refine ⟨⟨by simp, by simp⟩, ?_⟩
    rw [List.drop_left]
    cases l with
    | nil => rfl
    | cons y r => simp [hl y r rfl]
theorem occ_end {w c : Str} (hw : ∀ x ∈ w, wordB x.toNat = true) (hc : ∀ x ∈ c, wordB x.toNat = true) : occ w true c = decide (c = w) := by
  have hs := starts_eq (l := []) hw hc (by simp)
  rw [List.append_nil] at hs
  cases c with
  | nil => show (true && startsW w []) = _; rw [Bool.true_and]; exact hs
  | cons x c =>
    have := occ_true (w := w) (y := x) (x := c) (l := [])
    rw [List.append_nil, List.append_nil] at this
    rw [this, hs, hc x (by simp)]
    have h2 := occ_run (w := w) (c := c) (l := []) (fun y hy => hc y (by simp [hy]))
    rw [List.append_nil] at h2
    simp [h2, occ]
theorem occ_cut {w c r : Str} {y : UInt8} (hw : ∀ x ∈ w, wordB x.toNat = true) (hc : ∀ x ∈ c, wordB x.toNat = true) (hy : wordB y.toNat = false) : occ w true (c ++ y :: r) = (decide (c = w) || occ w true r) := by
  have hs := starts_eq (l := y :: r) hw hc (fun a b h => by cases h; exact hy)
  cases c with
  | nil =>
    show (true && startsW w (y :: r) || occ w (!wordB y.toNat) r) = _
    rw [hy, Bool.true_and]
    rw [List.nil_append] at hs
    rw [hs]; rfl
  | cons x c =>
    rw [occ_true, hs, hc x (by simp)]
    have h2 := occ_run (w := w) (c := c) (l := y :: r) (fun z hz => hc z (by simp [hz]))
    simp only [Bool.not_true]
    rw [h2]
    show (_ || (false && _ || occ w (!wordB y.toNat) r)) = _
    rw [hy]; simp
theorem has_occ {w : Str} (hw : ∀ x ∈ w, wordB x.toNat = true) : ∀ {r c : Str}, (∀ x ∈ c, wordB x.toNat = true) → hasP w r c = occ w true (c ++ r) := by
  intro r
  induction r with
  | nil => intro c hc; rw [List.append_nil, occ_end hw hc]; rfl
  | cons x r ih =>
    intro c hc
    cases hx : wordB x.toNat with
    | true =>
      simp only [hasP, hx, if_true]
      rw [ih (fun y hy => by rcases List.mem_append.1 hy with h | h; exact hc y h; simp only [List.mem_singleton] at h; subst h; exact hx)]
      simp
    | false =>
      simp only [hasP, hx, Bool.false_eq_true, if_false]
      rw [occ_cut hw hc hx, ih (by simp)]
      rfl

theorem occ_short {w : Str} : ∀ {l : Str} {b : Bool}, l.length < w.length → occ w b l = false := by
  intro l
  induction l with
  | nil =>
    intro b h
    simp only [List.length_nil] at h
    show (b && startsW w []) = false
    simp only [startsW, prefB, List.length_nil, decide_eq_false (show ¬ w.length ≤ 0 by omega), Bool.false_and, Bool.and_false]
  | cons x l ih =>
    intro b h
    simp only [List.length_cons] at h
    have h1 : startsW w (x :: l) = false := by simp only [startsW, prefB, List.length_cons, decide_eq_false (show ¬ w.length ≤ l.length + 1 by omega), Bool.false_and]
    simp only [occ, h1, Bool.and_false, Bool.false_or]
    exact ih (by omega)
def bAt (l : Str) (i : Nat) : Bool := decide (i = 0) || !wordB (l.getD (i - 1) 0).toNat
def occAt (w l : Str) (i : Nat) : Bool := occ w (bAt l i) (l.drop i)
theorem occAt_zero (w l : Str) : occAt w l 0 = occ w true l := rfl
theorem starts_iff {w l : Str} {i : Nat} (h : i + w.length ≤ l.length) : startsW w (l.drop i) = (decide ((l.drop i).take w.length = w) && (decide (i + w.length = l.length) || !wordB (l.getD (i + w.length) 0).toNat)) := by
  unfold startsW prefB
  rw [List.drop_drop]
  rw [decide_eq_true (show w.length ≤ (l.drop i).length by simp; omega), Bool.true_and]
  congr 1
  by_cases he : i + w.length = l.length
  · rw [List.drop_eq_nil_of_le (by omega)]; simp [he]
  · have hlt : i + w.length < l.length := by omega
    rw [List.drop_eq_getElem_cons hlt]
    simp [he, hlt]
theorem occAt_step {w l : Str} {i : Nat} (h : i < l.length) : occAt w l i = (bAt l i && startsW w (l.drop i) || occAt w l (i + 1)) := by
  unfold occAt
  rw [List.drop_eq_getElem_cons h]
  show (_ || occ w (!wordB l[i].toNat) (l.drop (i + 1))) = _
  congr 2
  simp [bAt, h]
theorem occAt_hit {w l : Str} {i : Nat} (hw : 1 ≤ w.length) (h : i + w.length ≤ l.length) (h1 : (l.drop i).take w.length = w) (h2 : i = 0 ∨ wordB (l.getD (i - 1) 0).toNat = false) (h3 : i + w.length = l.length ∨ wordB (l.getD (i + w.length) 0).toNat = false) : occAt w l i = true := by
  rw [occAt_step (by omega), starts_iff h]
  have a1 : bAt l i = true := by unfold bAt; rcases h2 with h2 | h2 <;> simp only [h2, decide_true, Bool.true_or, Bool.not_false, Bool.or_true]
  have a2 : (decide (i + w.length = l.length) || !wordB (l.getD (i + w.length) 0).toNat) = true := by rcases h3 with h3 | h3 <;> simp only [h3, decide_true, Bool.true_or, Bool.not_false, Bool.or_true]
  rw [a1, a2, decide_eq_true h1]; rfl
theorem occAt_miss {w l : Str} {i : Nat} (hw : 1 ≤ w.length) (h : i + w.length ≤ l.length) (h1 : (l.drop i).take w.length ≠ w ∨ (0 < i ∧ wordB (l.getD (i - 1) 0).toNat = true) ∨ (i + w.length < l.length ∧ wordB (l.getD (i + w.length) 0).toNat = true)) : occAt w l i = occAt w l (i + 1) := by
  rw [occAt_step (by omega), starts_iff h]
  have : (bAt l i && (decide ((l.drop i).take w.length = w) && (decide (i + w.length = l.length) || !wordB (l.getD (i + w.length) 0).toNat))) = false := by
    rcases h1 with h1 | ⟨h1, h2⟩ | ⟨h1, h2⟩
    · rw [decide_eq_false h1]; simp
    · unfold bAt; rw [decide_eq_false (show ¬ i = 0 by omega), h2]; simp
    · rw [decide_eq_false (show ¬ i + w.length = l.length by omega), h2]; simp
  rw [this, Bool.false_or]
theorem occAt_end {w l : Str} {i : Nat} (h : l.length < i + w.length) (hi : i ≤ l.length) : occAt w l i = false := occ_short (by rw [List.length_drop]; omega)

end Vx
end Go.Proofs.YthmhaggmcfemnaaDoor
/-
  Contracts: SeekTree, both sides.
-/
namespace Go.Proofs.YthmhaggmcfemnaaDoor
namespace Vx
open Go.RowKit
set_option maxRecDepth 8000

def anyOcc (w : Str) (l : List Str) : Bool := l.any (occ w true)
def hitI (w : Str) (f : FileD) : Bool := anyOcc w f.text
def seekL (p : FileD → Bool) (t : List FileD) : List Str := (t.filter p).map FileD.path
theorem seekL_hit {p : FileD → Bool} {t : List FileD} {i : Nat} (h : i < t.length) (hp : p t[i] = true) : seekL p (t.take (i + 1)) = seekL p (t.take i) ++ [t[i].path] := by
  simp only [seekL, take_succ' h, List.filter_append, List.map_append]
  simp [List.filter_cons, hp]
theorem seekL_miss {p : FileD → Bool} {t : List FileD} {i : Nat} (h : i < t.length) (hp : p t[i] = false) : seekL p (t.take (i + 1)) = seekL p (t.take i) := by
  simp only [seekL, take_succ' h, List.filter_append, List.map_append]
  simp [List.filter_cons, hp]
theorem seekL_le (p : FileD → Bool) (t : List FileD) : (seekL p t).length ≤ t.length := by
  simp only [seekL, List.length_map]; exact List.length_filter_le p t

def treeSeekI (t : List FileD) (w : Str) : List Str := if treeI t && nameB w then seekL (hitI w) t else []
theorem nameB_len {w : Str} (h : nameB w = true) : 1 ≤ w.length ∧ w.length ≤ 6 := by
  simp only [nameB, Bool.and_eq_true, decide_eq_true_eq] at h
  exact ⟨h.1.1, h.1.2⟩
end Vx
end Go.Proofs.YthmhaggmcfemnaaDoor
/-
  Contracts: SeekTree (the reference's); both are the same.
-/
namespace Go.Proofs.YthmhaggmcfemnaaDoor
namespace Vx
open Go.RowKit
set_option maxRecDepth 8000

def hasAt (w l : Str) (fr i : Nat) : Bool := hasP w (l.drop i) (pieceAt l fr i)
theorem hasAt_in {w l : Str} {fr i : Nat} (h : i < l.length) (hf : fr ≤ i) (hb : wordB (l.getD i 0).toNat = true) : hasAt w l fr i = hasAt w l fr (i + 1) := by
  unfold hasAt
  rw [getD_nat _ _ h] at hb
  rw [List.drop_eq_getElem_cons h, piece_step h hf]
  simp only [hasP, hb, if_true]
theorem hasAt_out {w l : Str} {fr i : Nat} (h : i < l.length) (hb : wordB (l.getD i 0).toNat = false) : hasAt w l fr i = (decide (pieceAt l fr i = w) || hasAt w l (i + 1) (i + 1)) := by
  unfold hasAt
  rw [getD_nat _ _ h] at hb
  rw [List.drop_eq_getElem_cons h, piece_zero]
  simp only [hasP, hb, Bool.false_eq_true, if_false]
theorem hasAt_end {w l : Str} {fr i : Nat} (h : l.length ≤ i) : hasAt w l fr i = decide (pieceAt l fr i = w) := by
  unfold hasAt
  rw [List.drop_eq_nil_of_le h]; rfl
def hasS (w l : Str) : Bool := hasP w l []
theorem hasAt_zero (w l : Str) : hasAt w l 0 0 = hasS w l := by simp [hasAt, hasS, piece_zero]
theorem wordB_num (n : Int) : wordB n = ((decide (97 ≤ n) && decide (n ≤ 122)) || (decide (48 ≤ n) && decide (n ≤ 57))) := rfl

def anyHas (w : Str) (l : List Str) : Bool := l.any (hasS w)
def hitS (w : Str) (f : FileD) : Bool := anyHas w f.text
def treeSeekS (t : List FileD) (w : Str) : List Str := if treeS t && nameB w then seekL (hitS w) t else []
theorem seek_eq (t : List FileD) (w : Str) : treeSeekI t w = treeSeekS t w := by
  unfold treeSeekI treeSeekS
  rw [tree_eq]
  by_cases h : nameB w = true
  · have hw : ∀ x ∈ w, wordB x.toNat = true := by
      simp only [nameB, Bool.and_eq_true, List.all_eq_true] at h
      exact h.2
    have : hitI w = hitS w := by
      funext f
      unfold hitI hitS anyOcc anyHas
      congr 1
      funext l
      have := has_occ (w := w) hw (r := l) (c := []) (by simp)
      unfold hasS
      rw [this]; rfl
    rw [this]
  · simp [h]

end Vx
end Go.Proofs.YthmhaggmcfemnaaDoor
/-
  Contracts: lines of first parents, both sides; SeekSince.
-/
namespace Go.Proofs.YthmhaggmcfemnaaDoor
namespace Vx
open Go.RowKit
set_option maxRecDepth 8000

theorem repo_use {r : RepoD} (h : repoI r = true) {i : Nat} (hi : i < r.commits.length) : r.commits[i].parents.length ≤ 2 ∧ (∀ p ∈ r.commits[i].parents, 0 ≤ p ∧ p < (i : Int)) ∧ treeI r.commits[i].tree = true := by
  have h1 := ((repoI_iff r).1 h).2.1 i hi
  have hg : r.commits.getD i default = r.commits[i] := by simp -implicitDefEqProofs [List.getD_eq_getElem?_getD, hi]
  simp only [okCI, okI1, hg, Bool.and_eq_true, decide_eq_true_eq, List.all_eq_true, List.mem_range] at h1
  refine ⟨h1.1.1.1.1, fun p hp => ?_, h1.1.2⟩
  obtain ⟨k, hk, rfl⟩ := List.getElem_of_mem hp
  have h2 := h1.2 k hk
  simp only [inN, Bool.and_eq_true, decide_eq_true_eq, List.getD_eq_getElem?_getD, List.getElem?_eq_getElem hk, Option.getD_some] at h2
  omega
theorem repo_n {r : RepoD} (h : repoI r = true) : r.commits.length ≤ 16 := ((repoI_iff r).1 h).1

def firstP (r : RepoD) (a : Int) : Int := (r.commits.getD a.toNat default).parents.headD (-1)
theorem first_lt {r : RepoD} (h : repoI r = true) {a : Int} (h0 : 0 ≤ a) (h1 : a < r.commits.length) : -1 ≤ firstP r a ∧ firstP r a < a := by
  have hi : a.toNat < r.commits.length := by omega
  obtain ⟨_, h2, _⟩ := repo_use h hi
  unfold firstP
  rw [List.getD_eq_getElem?_getD, List.getElem?_eq_getElem hi, Option.getD_some]
  cases hp : r.commits[a.toNat].parents with
  | nil => simp; omega
  | cons p l =>
    have := h2 p (by rw [hp]; simp)
    simp only [List.headD_cons]
    omega
def lineF (r : RepoD) : Nat → Int → List Int
  | 0, _ => []
  | n + 1, a => if a < 0 then [] else a :: lineF r n (firstP r a)
def lineP (r : RepoD) (a : Int) : List Int := lineF r (a + 1).toNat a
theorem lineF_fuel {r : RepoD} (h : repoI r = true) : ∀ (f g : Nat) (a : Int), a < r.commits.length → (a + 1).toNat ≤ f → (a + 1).toNat ≤ g → lineF r f a = lineF r g a := by
  intro f
  induction f with
  | zero =>
    intro g a ha hf hg
    have : a < 0 := by omega
    cases g with
    | zero => rfl
    | succ g => simp -implicitDefEqProofs [lineF, this]
  | succ f ih =>
    intro g a ha hf hg
    by_cases hn : a < 0
    · cases g with
      | zero => simp -implicitDefEqProofs [lineF, hn]
      | succ g => simp -implicitDefEqProofs [lineF, hn]
    · obtain ⟨g, rfl⟩ : ∃ g', g = g' + 1 := ⟨g - 1, by omega⟩
      have hlt := first_lt h (a := a) (by omega) ha
      simp only [lineF, hn, if_false]
      rw [ih g (firstP r a) (by omega) (by omega) (by omega)]
theorem line_step {r : RepoD} (h : repoI r = true) {a : Int} (h0 : 0 ≤ a) (h1 : a < r.commits.length) : lineP r a = a :: lineP r (firstP r a) := by
  have hlt := first_lt h h0 h1
  unfold lineP
  rw [show (a + 1).toNat = a.toNat + 1 by omega]
  simp only [lineF, show ¬ a < 0 by omega, if_false]
  rw [lineF_fuel h a.toNat (firstP r a + 1).toNat (firstP r a) (by omega) (by omega) (by omega)]
theorem line_neg (r : RepoD) {a : Int} (h : a < 0) : lineP r a = [] := by
  unfold lineP
  rw [show (a + 1).toNat = 0 by omega]; rfl
theorem line_bd {r : RepoD} (h : repoI r = true) : ∀ (n : Nat) (a : Int), a < r.commits.length → a + 1 ≤ n → (lineP r a).length ≤ n ∧ ∀ b ∈ lineP r a, 0 ≤ b ∧ b < r.commits.length := by
  intro n
  induction n with
  | zero => intro a _ h2; rw [line_neg r (by omega)]; simp
  | succ n ih =>
    intro a ha h2
    by_cases hn : a < 0
    · rw [line_neg r hn]; simp
    · rw [line_step h (by omega) ha]
      have hlt := first_lt h (a := a) (by omega) ha
      obtain ⟨i1, i2⟩ := ih (firstP r a) (by omega) (by omega)
      refine ⟨by simp; omega, fun b hb => ?_⟩
      rcases List.mem_cons.1 hb with rfl | hb
      · omega
      · exact i2 b hb

def areB (r : RepoD) (l : List Int) : Bool := repoI r && l.all fun a => decide (0 ≤ a) && decide (a ≤ (r.commits.length : Int) - 1)
def treeAt (r : RepoD) (a : Int) : List FileD := (r.commits.getD a.toNat default).tree
def hasC (r : RepoD) (w : Str) (a : Int) : Bool := !(seekL (hitS w) (treeAt r a)).isEmpty
def sinceW (p : Int → Bool) : List Int → Int → Int
  | [], s => s
  | a :: l, s => if p a then sinceW p l a else s
def sinceR (r : RepoD) (a : Int) (w : Str) : Int := if repoI r && (decide (0 ≤ a) && decide (a ≤ (r.commits.length : Int) - 1)) && nameB w then sinceW (hasC r w) (lineP r a) (-1) else -1
theorem since_yes {p : Int → Bool} {l : List Int} {i : Nat} {s : Int} (h : i < l.length) (hp : p l[i] = true) : sinceW p (l.drop i) s = sinceW p (l.drop (i + 1)) l[i] := by
  rw [List.drop_eq_getElem_cons h]; simp -implicitDefEqProofs [sinceW, hp]
theorem since_no {p : Int → Bool} {l : List Int} {i : Nat} {s : Int} (h : i < l.length) (hp : p l[i] = false) : sinceW p (l.drop i) s = s := by
  rw [List.drop_eq_getElem_cons h]; simp -implicitDefEqProofs [sinceW, hp]
theorem since_end {p : Int → Bool} {l : List Int} {i : Nat} {s : Int} (h : l.length ≤ i) : sinceW p (l.drop i) s = s := by
  rw [List.drop_eq_nil_of_le h]; rfl
theorem seek_hit_eq {t : List FileD} {w : Str} (ht : treeI t = true) (hw : nameB w = true) : seekL (hitI w) t = seekL (hitS w) t := by
  have h1 := seek_eq t w
  unfold treeSeekI treeSeekS at h1
  rw [tree_eq] at h1
  rw [tree_eq] at ht
  rw [ht, hw] at h1
  simpa using h1
theorem tree_lines {t : List FileD} (h : treeI t = true) : t.length ≤ 8 ∧ ∀ f ∈ t, ∀ q ∈ f.text, q.length ≤ 1099511627776 := by
  have h8 := (treeI_le t h).1
  simp only [treeI, Bool.and_eq_true, decide_eq_true_eq, List.all_eq_true, List.mem_range] at h
  refine ⟨h8, fun f hf q hq => ?_⟩
  obtain ⟨i, hi, rfl⟩ := List.getElem_of_mem hf
  have h1 := (h.2 i hi).1
  simp only [headI, textB, List.getD_eq_getElem?_getD, List.getElem?_eq_getElem hi, Option.getD_some, Bool.and_eq_true, List.all_eq_true, decide_eq_true_eq] at h1
  have h2 := h1.1.1.2 q hq
  simp only [lineB, Bool.and_eq_true, decide_eq_true_eq] at h2
  omega

end Vx
end Go.Proofs.YthmhaggmcfemnaaDoor
/-
  strings.Builder: the library's text, walked: copyCheck, WriteString, String.
-/
set_option linter.unusedVariables false
set_option linter.unusedSimpArgs false
namespace Go.Proofs.YthmhaggmcfemnaaDoor
namespace Vx
open Go.RowKit Go.Lib

set_option maxHeartbeats 1000000 in
set_option maxRecDepth 100000 in
theorem bld_used (b : Nat) (w : World) (h0 : w.cell? ⟨b, 0, none⟩ = some (.pointer (some ⟨b, 0, none⟩))) :
    Calls Tryd.prog 95 #[.pointer (some ⟨b, 0, none⟩)] w fun e w' => e = .returned (.tuple #[]) ∧ w' = w := by
  obtain ⟨j, hj, _⟩ := Option.map_eq_some_iff.1 (show (Tryd.prog.info? 87).map (·.size) = some 2 by kernel_rfl)
  have u1 : Tryd.prog.underlying 85 = some (.pointer 87) := by kernel_rfl
  go_enter Tryd.func95, Tryd.ntmps95
  go_wp2
  rw [Lib.run_neq_ptr_same w _ u1 hj]
  go_wp2
  go_end0
  exact ⟨rfl, rfl⟩

set_option maxHeartbeats 1000000 in
set_option maxRecDepth 100000 in
theorem bld_fresh (b : Nat) (w : World) (h0 : w.cell? ⟨b, 0, none⟩ = some (.pointer none)) (hsh : w.shape? b = some (87, 2)) (hfz : w.frozen? ⟨b, 0, none⟩ = false) :
    Calls Tryd.prog 95 #[.pointer (some ⟨b, 0, none⟩)] w fun e w' => e = .returned (.tuple #[]) ∧ w' = w.setCell ⟨b, 0, none⟩ (.pointer (some ⟨b, 0, none⟩)) := by
  obtain ⟨j, hj, hjs⟩ := Option.map_eq_some_iff.1 (show (Tryd.prog.info? 87).map (·.size) = some 2 by kernel_rfl)
  have hlies : liesAt Tryd.prog Tryd.prog.depth 87 (2 / Tryd.prog.cellsOf 87) 0 87 1 = true := by kernel_rfl
  have u1 : Tryd.prog.underlying 85 = some (.pointer 87) := by kernel_rfl
  have u2 : Tryd.prog.underlying 129 = some .unsafePointer := by kernel_rfl
  go_enter Tryd.func95, Tryd.ntmps95
  go_wp2
  rw [Lib.run_to_unsafe w ⟨b, 0, none⟩ u1 u2 hj (by rw [hjs]; decide) hsh (Nat.zero_lt_succ 1)]
  simp only [Result.andThen]
  rw [Oper.upon_value]
  go_wp2
  rw [run_callFunc_extern Tryd.func108 (by kernel_rfl) (by kernel_rfl) (by kernel_rfl) (e := Extern.AbiNoEscape.same) (by kernel_rfl)]
  rw [Lib.run_noEscape]
  simp only [Result.andThen]
  rw [Oper.upon_value]
  go_wp2
  rw [Lib.run_from_unsafe w ⟨b, 0, none⟩ u2 u1 hj hsh hlies]
  simp only [Result.andThen]
  rw [Oper.upon_value]
  go_wp2
  go_end0
  exact ⟨rfl, rfl⟩

set_option maxHeartbeats 2000000 in
set_option maxRecDepth 100000 in
theorem bld_write (w w1 w2 : World) (b : Nat) (pv v v' v2 : Value) (s : ByteArray) (hb : w.heap[b]? = some (.cells #[pv, v] 87 (0, 0)))
    (hw1 : (pv = .pointer none ∧ w1 = w.setCell ⟨b, 0, none⟩ (.pointer (some ⟨b, 0, none⟩))) ∨ (pv = .pointer (some ⟨b, 0, none⟩) ∧ w1 = w)) (hb1 : w1.heap[b]? = some (.cells #[.pointer (some ⟨b, 0, none⟩), v] 87 (0, 0)))
    (hap : (Builtin.append_ #[46, 9] 46 #[v, .string s]).run Tryd.prog w1 = .ok v' w2) (hb2 : w2.heap[b]? = some (.cells #[.pointer (some ⟨b, 0, none⟩), v2] 87 (0, 0))) (hv : ∃ ao n cp, v = .slice ao n cp) (hv' : ∃ ao n cp, v' = .slice ao n cp) :
    Calls Tryd.prog 64 #[.pointer (some ⟨b, 0, none⟩), .string s] w fun e w' => e = .returned (.tuple #[.int .i64 s.size, .nilIface]) ∧ w' = w2.setCell ⟨b, 1, none⟩ v' := by
  obtain ⟨ao, n', cap, rfl⟩ := hv'
  obtain ⟨ao0, n0, cap0, rfl⟩ := hv
  have e158 : ∀ args w, (callFunc 95 args).run Tryd.prog w = .ok (.enter 95 args) w := fun args w => Go.MuLone.run_callFunc_enter Tryd.func95 (by kernel_rfl) rfl args w
  have hcc : Calls Tryd.prog 95 #[.pointer (some ⟨b, 0, none⟩)] w fun e w' => e = .returned (.tuple #[]) ∧ w' = w1 := by
    rcases hw1 with ⟨rfl, rfl⟩ | ⟨rfl, rfl⟩
    · exact bld_fresh b w (by rw [Lib.cell_of_heap hb]; rfl) (by simp [World.shape?, hb]) (Lib.frozen_of_heap hb 0)
    · exact bld_used b w1 (by rw [Lib.cell_of_heap hb]; rfl)
  have c1 : w1.cell? ⟨b, 1, none⟩ = some (.slice ao0 n0 cap0) := by rw [Lib.cell_of_heap hb1]; rfl
  have d1 : w2.cell? ⟨b, 1, none⟩ = some v2 := by rw [Lib.cell_of_heap hb2]; rfl
  have f1 : w2.frozen? ⟨b, 1, none⟩ = false := Lib.frozen_of_heap hb2 1
  go_enter Tryd.func64, Tryd.ntmps64
  go_wp2_with (go_at_fn 95; refine hcc.mono ?_)
  rintro e w1' ⟨rfl, rfl⟩
  go_wp2_with (at_builtin; refine Lib.wpList_append_run _ rfl _ _ _ _ rfl _ _ rfl rfl _ _ hap ?_)
  go_wp2
  go_ret2
  exact ⟨rfl, rfl⟩

set_option maxHeartbeats 2000000 in
set_option maxRecDepth 100000 in
theorem bld_string_nil (w : World) (b : Nat) (pv : Value) (hb : w.heap[b]? = some (.cells #[pv, .slice none 0 0] 87 (0, 0))) :
    Calls Tryd.prog 66 #[.pointer (some ⟨b, 0, none⟩)] w fun e w' => e = .returned (.string ⟨#[]⟩) ∧ w' = w.drew := by
  have hUS : ∀ (W : World) (q : Option Addr), (Builtin.unsafeString_ #[120, 3] 9 #[.pointer q, .int .i64 0]).run Tryd.prog W = .ok (.string .empty) W := fun W q => Lib.run_unsafeString_none W _ _ _ q
  have c1 : w.drew.cell? ⟨b, 1, none⟩ = some (.slice none 0 0) := by
    have : w.drew.heap[b]? = some (.cells #[pv, .slice none 0 0] 87 (0, 0)) := hb
    rw [Lib.cell_of_heap this]; rfl
  have hSD : (Builtin.unsafeSliceData_ #[46] 120 #[.slice none 0 0]).run Tryd.prog w.drew = .ok (.pointer none) w.drew := rfl
  have mixed : Tryd.prog.follows .mixedOrders = true := mixed
  go_enter Tryd.func66, Tryd.ntmps66
  go_wp2
  go_region_o
  all_goals (go_wp2; go_ret; exact ⟨rfl, rfl⟩)

set_option maxHeartbeats 2000000 in
set_option maxRecDepth 100000 in
theorem bld_string (w : World) (b g cap : Nat) (pv : Value) (cs : Array Value) (l : List UInt8) (hb : w.heap[b]? = some (.cells #[pv, .slice (some ⟨g, 0, none⟩) l.length cap] 87 (0, 0))) (hg : w.heap[g]? = some (.cells cs 5 (0, 0)))
    (hlc : l.length ≤ cs.size) (h63 : l.length ≤ 9223372036854775807) (h0 : l ≠ []) (hcap : cap ≠ 0) (hcell : ∀ (j : Nat) x, l[j]? = some x → cs[j]? = some (.int .u8 x.toNat)) :
    Calls Tryd.prog 66 #[.pointer (some ⟨b, 0, none⟩)] w fun e w' => e = .returned (.string ⟨l.toArray⟩) ∧ w' = w.drew.freeze ⟨g, 0, none⟩ l.length := by
  have c1 : w.drew.cell? ⟨b, 1, none⟩ = some (.slice (some ⟨g, 0, none⟩) l.length cap) := by
    have : w.drew.heap[b]? = some (.cells #[pv, .slice (some ⟨g, 0, none⟩) l.length cap] 87 (0, 0)) := hb
    rw [Lib.cell_of_heap this]; rfl
  have hSD : (Builtin.unsafeSliceData_ #[46] 120 #[.slice (some ⟨g, 0, none⟩) l.length cap]).run Tryd.prog w.drew = .ok (.pointer (some ⟨g, 0, none⟩)) w.drew :=
    Lib.run_unsafeSliceData_row _ _ _ _ _ _ hcap
  have hUS : (Builtin.unsafeString_ #[120, 3] 9 #[.pointer (some ⟨g, 0, none⟩), .int .i64 l.length]).run Tryd.prog w.drew = .ok (.string ⟨l.toArray⟩) (w.drew.freeze ⟨g, 0, none⟩ l.length) := by
    have hg' : w.drew.heap[g]? = some (.cells cs 5 (0, 0)) := hg
    refine Lib.run_unsafeString_row w.drew 120 3 9 5 (by kernel_rfl) (by kernel_rfl) g cs.size (by simp [World.shape?, hg']) l h0 hlc h63 ?_
    intro j x hx
    rw [Addr.add_lit]
    simp only [Nat.zero_add]
    rw [World.cell_of hg']
    exact hcell j x hx
  have mixed : Tryd.prog.follows .mixedOrders = true := mixed
  clear hcap hcell h0
  go_enter Tryd.func66, Tryd.ntmps66
  go_wp2
  go_region_o
  all_goals (go_wp2; go_ret; exact ⟨rfl, rfl⟩)
set_option maxHeartbeats 2000000 in
set_option maxRecDepth 100000 in
theorem bld_string_room (w : World) (b g cap : Nat) (pv : Value) (hb : w.heap[b]? = some (.cells #[pv, .slice (some ⟨g, 0, none⟩) 0 cap] 87 (0, 0))) (hcap : cap ≠ 0) :
    Calls Tryd.prog 66 #[.pointer (some ⟨b, 0, none⟩)] w fun e w' => e = .returned (.string ⟨#[]⟩) ∧ w' = w.drew := by
  have hUS : ∀ (W : World) (q : Option Addr), (Builtin.unsafeString_ #[120, 3] 9 #[.pointer q, .int .i64 0]).run Tryd.prog W = .ok (.string .empty) W := fun W q => Lib.run_unsafeString_none W _ _ _ q
  have c1 : w.drew.cell? ⟨b, 1, none⟩ = some (.slice (some ⟨g, 0, none⟩) 0 cap) := by
    have : w.drew.heap[b]? = some (.cells #[pv, .slice (some ⟨g, 0, none⟩) 0 cap] 87 (0, 0)) := hb
    rw [Lib.cell_of_heap this]; rfl
  have hSD : (Builtin.unsafeSliceData_ #[46] 120 #[.slice (some ⟨g, 0, none⟩) 0 cap]).run Tryd.prog w.drew = .ok (.pointer (some ⟨g, 0, none⟩)) w.drew :=
    Lib.run_unsafeSliceData_row _ _ _ _ _ _ hcap
  have mixed : Tryd.prog.follows .mixedOrders = true := mixed
  clear hcap
  go_enter Tryd.func66, Tryd.ntmps66
  go_wp2
  go_region_o
  all_goals (go_wp2; go_ret; exact ⟨rfl, rfl⟩)

set_option maxHeartbeats 2000000 in
set_option maxRecDepth 100000 in
theorem bld_string_noroom (w : World) (b g : Nat) (pv : Value) (cs : Array Value) (hb : w.heap[b]? = some (.cells #[pv, .slice (some ⟨g, 0, none⟩) 0 0] 87 (0, 0))) (hg : w.heap[g]? = some (.cells cs 5 (0, 0))) :
    Calls Tryd.prog 66 #[.pointer (some ⟨b, 0, none⟩)] w fun e w' => e = .returned (.string ⟨#[]⟩) ∧ (w' = w.drew.alloc (.view ⟨g, 0, none⟩ 5) ∨ w' = (w.alloc (.view ⟨g, 0, none⟩ 5)).drew) := by
  have hUS : ∀ (W : World) (q : Option Addr), (Builtin.unsafeString_ #[120, 3] 9 #[.pointer q, .int .i64 0]).run Tryd.prog W = .ok (.string .empty) W := fun W q => Lib.run_unsafeString_none W _ _ _ q
  have hlt : b < w.heap.size := by
    rcases Nat.lt_or_ge b w.heap.size with h' | h'
    · exact h'
    · simp [Array.getElem?_eq_none h'] at hb
  have c1 : w.drew.cell? ⟨b, 1, none⟩ = some (.slice (some ⟨g, 0, none⟩) 0 0) := by
    have : w.drew.heap[b]? = some (.cells #[pv, .slice (some ⟨g, 0, none⟩) 0 0] 87 (0, 0)) := hb
    rw [Lib.cell_of_heap this]; rfl
  have hSD : (Builtin.unsafeSliceData_ #[46] 120 #[.slice (some ⟨g, 0, none⟩) 0 0]).run Tryd.prog w.drew = .ok (.pointer (some ⟨w.drew.heap.size, 0, none⟩)) (w.drew.alloc (.view ⟨g, 0, none⟩ 5)) :=
    Lib.run_unsafeSliceData_zero w.drew _ _ 5 (by kernel_rfl) ⟨g, 0, none⟩ 0 (5, cs.size) (by have hg' : w.drew.heap[g]? = some (.cells cs 5 (0, 0)) := hg; simp [World.shape?, hg'])
  have c2 : (w.drew.alloc (.view ⟨g, 0, none⟩ 5)).cell? ⟨b, 1, none⟩ = some (.slice (some ⟨g, 0, none⟩) 0 0) := by
    have : (w.drew.alloc (.view ⟨g, 0, none⟩ 5)).heap[b]? = _ := (Lib.alloc_old w.drew _ b hlt).trans hb
    rw [Lib.cell_of_heap this]; rfl
  have c3 : (w.alloc (.view ⟨g, 0, none⟩ 5)).drew.cell? ⟨b, 1, none⟩ = some (.slice (some ⟨g, 0, none⟩) 0 0) := c2
  have c0 : w.cell? ⟨b, 1, none⟩ = some (.slice (some ⟨g, 0, none⟩) 0 0) := c1
  have mixed : Tryd.prog.follows .mixedOrders = true := mixed
  go_enter Tryd.func66, Tryd.ntmps66
  go_wp2
  go_region_o
  all_goals (go_wp2; go_ret; exact ⟨rfl, by first | exact .inl rfl | exact .inr rfl⟩)

end Vx
end Go.Proofs.YthmhaggmcfemnaaDoor
/-
  Contracts: draws (l30Open, pick, of, one).
-/
namespace Go.Proofs.YthmhaggmcfemnaaDoor
namespace Vx
open Go.RowKit
set_option maxRecDepth 8000

def eByte (b : UInt8) : List D := [.int .u8 b.toNat]
def eBytes (s : Str) : List (List D) := s.map eByte
@[simp] theorem eBytes_length (l : Str) : (eBytes l).length = l.length := by simp -implicitDefEqProofs [eBytes]
@[simp] theorem eBytes_get (l : Str) (i : Nat) : (eBytes l)[i]? = l[i]?.map eByte := by simp -implicitDefEqProofs [eBytes]
theorem eBytes_take (l : Str) (i : Nat) : (eBytes l).take i = eBytes (l.take i) := by simp -implicitDefEqProofs [eBytes]
@[simp] theorem eByte_inj (a b : UInt8) : (eByte a = eByte b) = (a = b) := by
  simp only [eByte, List.cons.injEq, D.int.injEq, true_and, and_true, eq_iff_iff]
  constructor
  · intro h; exact UInt8.toNat_inj.1 (by omega)
  · rintro rfl; rfl
@[simp] theorem eBytes_inj (a b : Str) : (eBytes a = eBytes b) = (a = b) := by
  apply propext
  constructor
  · intro h
    exact List.map_inj_right (fun x y h => by simpa using h) |>.1 h
  · rintro rfl; rfl
@[simp] theorem eBytes_all (l : Str) (f : List D → Bool) : (eBytes l).all f = l.all fun b => f (eByte b) := by simp -implicitDefEqProofs [eBytes, Function.comp_def]
theorem all_true (l : Str) : (l.all fun _ => true) = true := by simp
abbrev rdBox (s : Str) (p : Int) : Blk := .box 116 [.sl true 1 (eBytes s), .int .i64 p]

def cL30Open : Con := .fn 11 Str (fun s => [.sl true 1 (eBytes s)]) (fun _ => True) (fun _ => .ptr 8 0) (fun s => [(8, rdBox (s.take 2000) 0)])
set_option maxHeartbeats 4000000 in
theorem l30Open_has : Has Tryd.prog 50 cL30Open := by
  refine has_walk mixed tTab_ok (l := []) HasL.nil [0, 2] ((fun a n (_ : Nat) => (fun _ => noInv) a n)) [] Tryd.func50 (by kernel_rfl) (code := _) (by unfold Tryd.f50; rfl) (by kernel_rfl) (by decide) (fun _ => ⟨(), trivial⟩) (by intro h; first | exact fun _ => rfl | cases h) (by kernel_rfl) ?_
  intro (s : Str) _
  simp -implicitDefEqProofs [vc_skip, extOf, vc_seq, vc_cond, vc_block, vc_exit, vc_ret, vc_region, vc_regionD, vc_loop, kSeq_normal, kSeq_ret, kSeq_exit, kBlock_normal, kBlock_ret, kBlock_exit, kLoop_normal, kLoop_ret, kLoop_exit, kCond_bool, kNorm_app, vcOps_nil, vcOps_cons, kOps_app, kStep_some, kStep_none, vcDL_nil, vcDL_cons, kOpsD_app, kStepD_true, kStepD_false, kStepC_some, kStepC_none, kMv_app, act3_store, act3_call, act3_bs, kAct_app, kSt2_app, stealSlots, stealL, stealOne, subIn, AV.stolen, act_store, act_bs, act_append, act_call, kSet_app, kSet2_app, kSetG_app, kSetG_app0, kStore_ptr, kStore_eptr, kCallW_some, kCallC_some, kCall_some, wk_T, wk_n, wk_keep, wk_inv, wk_act, wk_dr, wk_le, aCalm, wantC, dstOk, calm, aCallK, aCall3K, subOf, subRep, aCall2K, apnd, bsMove, putBox, putOwn, partAV, mvL, AV.mv, AV.base, AV.moved, kBld, bldK, wrK, stK, AV.selfOk, AV.src, TI.flat, apSize, pickAV, St.val, St.cond, St.fn, St.next, St.set, St.trim, wipe_eq, wipeE_app, wipeM_app, pickEnv, get?, cGet, upd_app, withPuts, killAll, rm, freshP, Oper.hnd, Sc.st, ofConst, constOk, lenAV, elemLen, loadAV, ldL, ld1, fieldAddrAV, indexAddrAV, sliceAV, convAV, buildAV, fillAV, fieldAV, Out.of, binAV, AV.rows, AV.one, AV.cells, AV.deepOk, AV.toD, toDs, partRows, partRowsM, partsDeep, TK.zeroAV, TK.zeroD, byteOf, inR, Op.operands, Call.operands, passVs, passV, passL, pass1, passB, pasVs, pasV, pasL, pas1, ownsOk, okHs, okHs2, okFin, finOk2, rho, over, backRes, backAV, backAV1, backBlk, putBack, back2, back2_V, back2_1, m2, AV.wipe, AV.wipeV, AV.wipe1, Blk.wipe, AV.hs, AV.hs.hsL, alOps, Con.start2, Con.pk, bodyQ, fini, resAV, resA, firstId, Sc.from, renEnv, renT, renV, renVs, renL, ren1, renBox, renOwn, okRen, clOf, actB, setRow, flatRows, flatD, noInv, shr_nil, shr_some, kStepF_some, shareL, AV.viewed, AV.viewed1, cL30Open, Con.fn, tTab, eBytes_take]
  exact fun _ => ⟨fun h => by omega, fun h => List.take_of_length_le (by omega)⟩

theorem xor_nn {a b : Int} (h1 : 0 ≤ a) (h2 : a < 4611686018427387904) (h3 : 0 ≤ b) (h4 : b < 4611686018427387904) : 0 ≤ bitOp .xor .i64 a b := by
  unfold bitOp
  simp only []
  rw [BitVec.toNat_xor, BitVec.toNat_ofInt, BitVec.toNat_ofInt]
  have e1 : (a % ((2 ^ (IntKind.i64).bits : Nat) : Int)).toNat < 2 ^ 62 := by
    have : a % ((2 ^ (IntKind.i64).bits : Nat) : Int) = a := Int.emod_eq_of_lt h1 (by show a < (((2 : Nat) ^ 64 : Nat) : Int); omega)
    rw [this]; omega
  have e2 : (b % ((2 ^ (IntKind.i64).bits : Nat) : Int)).toNat < 2 ^ 62 := by
    have : b % ((2 ^ (IntKind.i64).bits : Nat) : Int) = b := Int.emod_eq_of_lt h3 (by show b < (((2 : Nat) ^ 64 : Nat) : Int); omega)
    rw [this]; omega
  have e3 := Nat.xor_lt_two_pow e1 e2
  rw [wrap_inR (by simp only [inR]; omega)]
  omega
def cPick : Con := { A := (Str × Int) × Int, X := Int, n := 99, args := fun a => [.ptr 0 0, .int .i64 a.2], boxes := fun a => [(0, 116, [.sl true 1 (eBytes a.1.1), .int .i64 a.1.2])], pre := fun a => a.1.1.length ≤ 2000 ∧ 0 ≤ a.1.2 ∧ a.1.2 ≤ 1073741824 ∧ a.2 ≤ 1073741824, post := fun a x => (a.2 < 1 → x = 0) ∧ (1 ≤ a.2 → 0 ≤ x ∧ x < a.2), res := fun _ x => .int .i64 x, fin := fun a _ => [(0, rdBox a.1.1 (a.1.2 + 1))], nob := false }
set_option maxHeartbeats 4000000 in
theorem pick_has : Has Tryd.prog 56 cPick := by
  refine has_walk mixed tTab_ok (l := []) HasL.nil [0, 1, 4, 5, 6] ((fun a n (_ : Nat) => (fun _ => noInv) a n)) [] Tryd.func56 (by kernel_rfl) (code := _) (by unfold Tryd.f56; rfl) (by kernel_rfl) (by decide) (fun a => ⟨(0 : Int), fun _ => rfl, fun h => ⟨Int.le_refl 0, by omega⟩⟩) (by intro h; first | exact fun _ => rfl | cases h) (by kernel_rfl) ?_
  intro a ha
  obtain ⟨⟨s, p⟩, n⟩ := a
  obtain ⟨h1, h2, h3, h4⟩ : s.length ≤ 2000 ∧ 0 ≤ p ∧ p ≤ 1073741824 ∧ n ≤ 1073741824 := ha
  simp -implicitDefEqProofs [vc_skip, extOf, vc_seq, vc_cond, vc_block, vc_exit, vc_ret, vc_region, vc_regionD, vc_loop, kSeq_normal, kSeq_ret, kSeq_exit, kBlock_normal, kBlock_ret, kBlock_exit, kLoop_normal, kLoop_ret, kLoop_exit, kCond_bool, kNorm_app, vcOps_nil, vcOps_cons, kOps_app, kStep_some, kStep_none, vcDL_nil, vcDL_cons, kOpsD_app, kStepD_true, kStepD_false, kStepC_some, kStepC_none, kMv_app, act3_store, act3_call, act3_bs, kAct_app, kSt2_app, stealSlots, stealL, stealOne, subIn, AV.stolen, act_store, act_bs, act_append, act_call, kSet_app, kSet2_app, kSetG_app, kSetG_app0, kStore_ptr, kStore_eptr, kCallW_some, kCallC_some, kCall_some, wk_T, wk_n, wk_keep, wk_inv, wk_act, wk_dr, wk_le, aCalm, wantC, dstOk, calm, aCallK, aCall3K, subOf, subRep, aCall2K, apnd, bsMove, putBox, putOwn, partAV, mvL, AV.mv, AV.base, AV.moved, kBld, bldK, wrK, stK, AV.selfOk, AV.src, TI.flat, apSize, pickAV, St.val, St.cond, St.fn, St.next, St.set, St.trim, wipe_eq, wipeE_app, wipeM_app, pickEnv, get?, cGet, upd_app, withPuts, killAll, rm, freshP, Oper.hnd, Sc.st, ofConst, constOk, lenAV, elemLen, loadAV, ldL, ld1, fieldAddrAV, indexAddrAV, sliceAV, convAV, buildAV, fillAV, fieldAV, Out.of, binAV, AV.rows, AV.one, AV.cells, AV.deepOk, AV.toD, toDs, partRows, partRowsM, partsDeep, TK.zeroAV, TK.zeroD, byteOf, inR, Op.operands, Call.operands, passVs, passV, passL, pass1, passB, pasVs, pasV, pasL, pas1, ownsOk, okHs, okHs2, okFin, finOk2, rho, over, backRes, backAV, backAV1, backBlk, putBack, back2, back2_V, back2_1, m2, AV.wipe, AV.wipeV, AV.wipe1, Blk.wipe, AV.hs, AV.hs.hsL, alOps, Con.start2, Con.pk, bodyQ, fini, resAV, resA, firstId, Sc.from, renEnv, renT, renV, renVs, renL, ren1, renBox, renOwn, okRen, clOf, actB, setRow, flatRows, flatD, noInv, shr_nil, shr_some, kStepF_some, shareL, AV.viewed, AV.viewed1, cPick, tTab]
  have e : ∀ q : Int, 0 ≤ q → q < s.length → ∃ b : Nat, b < 256 ∧ Option.map eByte s[q.toNat]? = some [.int .u8 b] := fun q a b => by
    have hq : q.toNat < s.length := by omega
    exact ⟨s[q.toNat].toNat, s[q.toNat].toNat_lt, by simp -implicitDefEqProofs [List.getElem?_eq_getElem hq, eByte]⟩
  refine ⟨by omega, fun _ _ => ⟨fun a b => by omega, fun hn _ => ⟨fun _ _ => by omega, fun hs => ⟨by omega, fun _ _ _ => ⟨fun hp => ?_, fun hp => ?_⟩⟩⟩⟩⟩
  · obtain ⟨b, hb, eb⟩ := e p h2 hp
    have t1 := Int.tmod_nonneg n (a := (b : Int)) (by omega)
    have t2 := Int.tmod_lt_of_pos (b : Int) (b := n) (by omega)
    simp -implicitDefEqProofs [eb]
    omega
  · have hl : 0 < s.length := List.length_pos_iff.2 hs
    have hL : (0 : Int) < (s.length : Int) := by omega
    have t1 := Int.tmod_nonneg (s.length : Int) (a := p) h2
    have t2 := Int.tmod_lt_of_pos p hL
    have t3 := Int.tmod_nonneg (s.length : Int) (a := p * 7 + 3) (by omega)
    have t4 := Int.tmod_lt_of_pos (p * 7 + 3) hL
    have t5 := Int.tdiv_nonneg h2 (Int.le_of_lt hL)
    have t6 : p.tdiv (s.length : Int) ≤ p := by
      have := Int.natAbs_tdiv_le_natAbs p (s.length : Int)
      omega
    obtain ⟨b1, hb1, eb1⟩ := e _ t1 t2
    obtain ⟨b2, hb2, eb2⟩ := e _ t3 t4
    simp -implicitDefEqProofs [eb1, eb2]
    generalize p.tdiv (s.length : Int) = d at t5 t6 ⊢
    generalize p.tmod (s.length : Int) = m1 at t1 t2 ⊢
    generalize (p * 7 + 3).tmod (s.length : Int) = m2 at t3 t4 ⊢
    have t7 := Int.tdiv_nonneg (a := (b1 * 131 + b2 * 1117 + p * 29 + d * 53 : Int)) (b := 64) (by omega) (by omega)
    have t8 : (b1 * 131 + b2 * 1117 + p * 29 + d * 53 : Int).tdiv 64 ≤ b1 * 131 + b2 * 1117 + p * 29 + d * 53 := by
      have := Int.natAbs_tdiv_le_natAbs (b1 * 131 + b2 * 1117 + p * 29 + d * 53 : Int) 64
      omega
    have t9 := xor_nn (a := (b1 * 131 + b2 * 1117 + p * 29 + d * 53 : Int)) (b := (b1 * 131 + b2 * 1117 + p * 29 + d * 53 : Int).tdiv 64) (by omega) (by omega) (by omega) (by omega)
    generalize (b1 * 131 + b2 * 1117 + p * 29 + d * 53 : Int).tdiv 64 = y at t7 t8 t9 ⊢
    generalize bitOp .xor .i64 (b1 * 131 + b2 * 1117 + p * 29 + d * 53 : Int) y = z at t9 ⊢
    have t10 := Int.tmod_nonneg n t9
    have t11 := Int.tmod_lt_of_pos z (b := n) (by omega)
    clear e eb1 eb2
    repeat' (first | intro _ | apply And.intro)
    all_goals first | omega | assumption | contradiction

theorem headD_mem {α : Type} {d : α} {l : List α} (h : l ≠ []) : l.headD d ∈ l := by
  cases l with
  | nil => exact absurd rfl h
  | cons x r => simp
def cOf : Con := { A := (Str × Int) × List Str, X := Str, n := 12, args := fun a => [.ptr 0 0, .sl true 1 (eStrs a.2)], boxes := fun a => [(0, 116, [.sl true 1 (eBytes a.1.1), .int .i64 a.1.2])], pre := fun a => a.1.1.length ≤ 2000 ∧ 0 ≤ a.1.2 ∧ a.1.2 ≤ 1073741824 ∧ a.2 ≠ [] ∧ a.2.length ≤ 1073741824, post := fun a x => a.2 ≠ [] → x ∈ a.2, res := fun _ x => .str x, fin := fun a _ => [(0, rdBox a.1.1 (a.1.2 + 1))], nob := false, kindly := true }
set_option maxHeartbeats 4000000 in
theorem of_has : Has Tryd.prog 93 cOf := by
  refine has_walk mixed tTab_ok (l := [(56, cPick)]) (HasL.cons pick_has HasL.nil) [0, 1, 4] ((fun a n (_ : Nat) => (fun _ => noInv) a n)) [] Tryd.func93 (by kernel_rfl) (code := _) (by unfold Tryd.f93; rfl) (by kernel_rfl) (by decide) (fun a => ⟨a.2.headD [], fun h => headD_mem h⟩) (by intro h; first | exact fun _ => rfl | cases h) (by kernel_rfl) ?_
  intro a ha
  obtain ⟨⟨s, p⟩, l⟩ := a
  obtain ⟨h1, h2, h3, h4, h5⟩ : s.length ≤ 2000 ∧ 0 ≤ p ∧ p ≤ 1073741824 ∧ l ≠ [] ∧ l.length ≤ 1073741824 := ha
  have hl : 0 < l.length := List.length_pos_iff.2 h4
  simp -implicitDefEqProofs [vc_skip, extOf, vc_seq, vc_cond, vc_block, vc_exit, vc_ret, vc_region, vc_regionD, vc_loop, kSeq_normal, kSeq_ret, kSeq_exit, kBlock_normal, kBlock_ret, kBlock_exit, kLoop_normal, kLoop_ret, kLoop_exit, kCond_bool, kNorm_app, vcOps_nil, vcOps_cons, kOps_app, kStep_some, kStep_none, vcDL_nil, vcDL_cons, kOpsD_app, kStepD_true, kStepD_false, kStepC_some, kStepC_none, kMv_app, act3_store, act3_call, act3_bs, kAct_app, kSt2_app, stealSlots, stealL, stealOne, subIn, AV.stolen, act_store, act_bs, act_append, act_call, kSet_app, kSet2_app, kSetG_app, kSetG_app0, kStore_ptr, kStore_eptr, kCallW_some, kCallC_some, kCall_some, wk_T, wk_n, wk_keep, wk_inv, wk_act, wk_dr, wk_le, aCalm, wantC, dstOk, calm, aCallK, aCall3K, subOf, subRep, aCall2K, apnd, bsMove, putBox, putOwn, partAV, mvL, AV.mv, AV.base, AV.moved, kBld, bldK, wrK, stK, AV.selfOk, AV.src, TI.flat, apSize, pickAV, St.val, St.cond, St.fn, St.next, St.set, St.trim, wipe_eq, wipeE_app, wipeM_app, pickEnv, get?, cGet, upd_app, withPuts, killAll, rm, freshP, Oper.hnd, Sc.st, ofConst, constOk, lenAV, elemLen, loadAV, ldL, ld1, fieldAddrAV, indexAddrAV, sliceAV, convAV, buildAV, fillAV, fieldAV, Out.of, binAV, AV.rows, AV.one, AV.cells, AV.deepOk, AV.toD, toDs, partRows, partRowsM, partsDeep, TK.zeroAV, TK.zeroD, byteOf, inR, Op.operands, Call.operands, passVs, passV, passL, pass1, passB, pasVs, pasV, pasL, pas1, ownsOk, okHs, okHs2, okFin, finOk2, rho, over, backRes, backAV, backAV1, backBlk, putBack, back2, back2_V, back2_1, m2, AV.wipe, AV.wipeV, AV.wipe1, Blk.wipe, AV.hs, AV.hs.hsL, alOps, Con.start2, Con.pk, bodyQ, fini, resAV, resA, firstId, Sc.from, renEnv, renT, renV, renVs, renL, ren1, renBox, renOwn, okRen, clOf, actB, setRow, flatRows, flatD, noInv, shr_nil, shr_some, kStepF_some, shareL, AV.viewed, AV.viewed1, cOf, cPick, tTab]
  refine fun _ => ⟨s, p, ⟨rfl, rfl⟩, ⟨h1, h2, h3, by omega⟩, fun y _ hy2 => ?_⟩
  obtain ⟨k1, k2⟩ := hy2 (by omega)
  have hk : y.toNat < l.length := by omega
  have e : Option.map eStr l[y.toNat]? = some (eStr l[y.toNat]) := by simp -implicitDefEqProofs [List.getElem?_eq_getElem hk]
  simp -implicitDefEqProofs [e, eStr, k1, k2]

def cOne : Con := { A := (Str × Int) × List Int, X := Int, n := 12, args := fun a => [.ptr 0 0, .sl true 1 (eInts a.2)], boxes := fun a => [(0, 116, [.sl true 1 (eBytes a.1.1), .int .i64 a.1.2])], pre := fun a => a.1.1.length ≤ 2000 ∧ 0 ≤ a.1.2 ∧ a.1.2 ≤ 1073741824 ∧ a.2 ≠ [] ∧ a.2.length ≤ 1073741824, post := fun a x => a.2 ≠ [] → x ∈ a.2, res := fun _ x => .int .i64 x, fin := fun a _ => [(0, rdBox a.1.1 (a.1.2 + 1))], nob := false, kindly := true }
set_option maxHeartbeats 4000000 in
theorem one_has : Has Tryd.prog 106 cOne := by
  refine has_walk mixed tTab_ok (l := [(56, cPick)]) (HasL.cons pick_has HasL.nil) [0, 1, 4] ((fun a n (_ : Nat) => (fun _ => noInv) a n)) [] Tryd.func106 (by kernel_rfl) (code := _) (by unfold Tryd.f106; rfl) (by kernel_rfl) (by decide) (fun a => ⟨a.2.headD 0, fun h => headD_mem h⟩) (by intro h; first | exact fun _ => rfl | cases h) (by kernel_rfl) ?_
  intro a ha
  obtain ⟨⟨s, p⟩, l⟩ := a
  obtain ⟨h1, h2, h3, h4, h5⟩ : s.length ≤ 2000 ∧ 0 ≤ p ∧ p ≤ 1073741824 ∧ l ≠ [] ∧ l.length ≤ 1073741824 := ha
  have hl : 0 < l.length := List.length_pos_iff.2 h4
  simp -implicitDefEqProofs [vc_skip, extOf, vc_seq, vc_cond, vc_block, vc_exit, vc_ret, vc_region, vc_regionD, vc_loop, kSeq_normal, kSeq_ret, kSeq_exit, kBlock_normal, kBlock_ret, kBlock_exit, kLoop_normal, kLoop_ret, kLoop_exit, kCond_bool, kNorm_app, vcOps_nil, vcOps_cons, kOps_app, kStep_some, kStep_none, vcDL_nil, vcDL_cons, kOpsD_app, kStepD_true, kStepD_false, kStepC_some, kStepC_none, kMv_app, act3_store, act3_call, act3_bs, kAct_app, kSt2_app, stealSlots, stealL, stealOne, subIn, AV.stolen, act_store, act_bs, act_append, act_call, kSet_app, kSet2_app, kSetG_app, kSetG_app0, kStore_ptr, kStore_eptr, kCallW_some, kCallC_some, kCall_some, wk_T, wk_n, wk_keep, wk_inv, wk_act, wk_dr, wk_le, aCalm, wantC, dstOk, calm, aCallK, aCall3K, subOf, subRep, aCall2K, apnd, bsMove, putBox, putOwn, partAV, mvL, AV.mv, AV.base, AV.moved, kBld, bldK, wrK, stK, AV.selfOk, AV.src, TI.flat, apSize, pickAV, St.val, St.cond, St.fn, St.next, St.set, St.trim, wipe_eq, wipeE_app, wipeM_app, pickEnv, get?, cGet, upd_app, withPuts, killAll, rm, freshP, Oper.hnd, Sc.st, ofConst, constOk, lenAV, elemLen, loadAV, ldL, ld1, fieldAddrAV, indexAddrAV, sliceAV, convAV, buildAV, fillAV, fieldAV, Out.of, binAV, AV.rows, AV.one, AV.cells, AV.deepOk, AV.toD, toDs, partRows, partRowsM, partsDeep, TK.zeroAV, TK.zeroD, byteOf, inR, Op.operands, Call.operands, passVs, passV, passL, pass1, passB, pasVs, pasV, pasL, pas1, ownsOk, okHs, okHs2, okFin, finOk2, rho, over, backRes, backAV, backAV1, backBlk, putBack, back2, back2_V, back2_1, m2, AV.wipe, AV.wipeV, AV.wipe1, Blk.wipe, AV.hs, AV.hs.hsL, alOps, Con.start2, Con.pk, bodyQ, fini, resAV, resA, firstId, Sc.from, renEnv, renT, renV, renVs, renL, ren1, renBox, renOwn, okRen, clOf, actB, setRow, flatRows, flatD, noInv, shr_nil, shr_some, kStepF_some, shareL, AV.viewed, AV.viewed1, cOne, cPick, tTab]
  refine fun _ => ⟨s, p, ⟨rfl, rfl⟩, ⟨h1, h2, h3, by omega⟩, fun y _ hy2 => ?_⟩
  obtain ⟨k1, k2⟩ := hy2 (by omega)
  have hk : y.toNat < l.length := by omega
  have e : Option.map eInt l[y.toNat]? = some (eInt l[y.toNat]) := by simp -implicitDefEqProofs [List.getElem?_eq_getElem hk]
  simp -implicitDefEqProofs [e, eInt, k1, k2]

end Vx
end Go.Proofs.YthmhaggmcfemnaaDoor
/-
  Contracts: strings.Builder; trees written by the program (treePut, TreePut).
-/
namespace Go.Proofs.YthmhaggmcfemnaaDoor
namespace Vx
open Go.RowKit
set_option maxRecDepth 8000

def tTabS : List (Nat × TI) := (87, ⟨true, [.oth (.pointer none), .sl 5 1], 32, [(85, 0), (46, 1)], 0⟩) :: tTab
theorem tTabS_ok : ∀ t ti, get? tTabS t = some ti → TOk Tryd.prog t ti := tabChk_ok (by kernel_rfl)
def cWrite : Con := { A := Unit, X := Unit, n := 19, args := fun _ => [], boxes := fun _ => [], pre := fun _ => False, post := fun _ _ => True, res := fun _ _ => .junk, fin := fun _ _ => [], mv := true, bld := (1, 87, 46, 9) }
theorem write_has : Has Tryd.prog 64 cWrite :=
  ⟨fun args w => Go.MuLone.run_callFunc_enter Tryd.func64 (by kernel_rfl) rfl args w, fun _ => ⟨(), trivial⟩, fun _ _ => rfl, fun _ h => h.elim,
    (by kernel_rfl), fun w w1 w2 b pv v v' v2 s h1 h2 h3 h4 h5 h6 h7 => bld_write w w1 w2 b pv v v' v2 s h1 h2 h3 h4 h5 h6 h7⟩
def cBStr : Con := { A := Unit, X := Unit, n := 14, args := fun _ => [], boxes := fun _ => [], pre := fun _ => False, post := fun _ _ => True, res := fun _ _ => .junk, fin := fun _ _ => [], mv := true, bld := (2, 87, 5, 0) }
theorem bStr_has : Has Tryd.prog 66 cBStr := by
  refine ⟨fun args w => Go.MuLone.run_callFunc_enter Tryd.func66 (by kernel_rfl) rfl args w, fun _ => ⟨(), trivial⟩, fun _ _ => rfl, fun _ h => h.elim, ?_⟩
  intro w b pv v l hb hv
  rcases hv with ⟨rfl, rfl⟩ | ⟨g, cap, cs, rfl, hg, h1, h2, h3, h4⟩
  · refine (bld_string_nil w b pv hb).mono ?_
    rintro e w' ⟨rfl, rfl⟩
    exact ⟨rfl, Nat.le_refl _, rfl, rfl, rfl, fun x _ => .inl rfl⟩
  · have hgl : g < w.heap.size := (Array.getElem?_eq_some_iff.1 hg).1
    by_cases h0 : l = []
    · subst h0
      by_cases hc : cap = 0
      · subst hc
        refine (bld_string_noroom w b g pv cs hb hg).mono ?_
        rintro e w' ⟨rfl, hw⟩
        have hw' : w'.heap = w.heap.push (.view ⟨g, 0, none⟩ 5) ∧ w'.os = w.os ∧ w'.tape = w.tape ∧ w'.output = w.output := by
          rcases hw with rfl | rfl <;> exact ⟨rfl, rfl, rfl, rfl⟩
        obtain ⟨z1, z2, z3, z4⟩ := hw'
        exact ⟨rfl, by rw [z1]; simp, z2, z3, z4, fun x hx => .inl (by rw [z1, Array.getElem?_push]; simp -implicitDefEqProofs [Nat.ne_of_lt hx])⟩
      · refine (bld_string_room w b g cap pv hb hc).mono ?_
        rintro e w' ⟨rfl, rfl⟩
        exact ⟨rfl, Nat.le_refl _, rfl, rfl, rfl, fun x _ => .inl rfl⟩
    · have hl : 0 < l.length := List.length_pos_iff.2 h0
      refine (bld_string w b g cap pv cs l hb hg h1 (by unfold maxLen at h3; omega) h0 (by omega) h4).mono ?_
      rintro e w' ⟨rfl, rfl⟩
      have hn : ¬ l.length = 0 := by omega
      have hh : (w.drew.freeze ⟨g, 0, none⟩ l.length).heap.size = w.heap.size ∧ ∀ x, (w.drew.freeze ⟨g, 0, none⟩ l.length).heap[x]? = if g = x then (w.heap[x]?).map (fun o => match o with | .cells c elem (lo, hi) => .cells c elem (if lo == hi then (0, 0 + l.length) else (min lo 0, max hi (0 + l.length))) | o => o) else w.heap[x]? := by
        unfold World.freeze
        rw [if_neg hn]
        exact ⟨by simp only [Array.size_modify]; rfl, fun x => by simp only [Array.getElem?_modify]; rfl⟩
      refine ⟨rfl, Nat.le_of_eq hh.1.symm, by unfold World.freeze; rw [if_neg hn]; rfl, by unfold World.freeze; rw [if_neg hn]; rfl, by unfold World.freeze; rw [if_neg hn]; rfl, fun x hx => ?_⟩
      rw [hh.2 x]
      by_cases e : g = x
      · subst e
        rw [if_pos rfl, hg]
        exact .inr ⟨_, _, _, _, rfl, rfl, rfl⟩
      · rw [if_neg e]; exact .inl rfl

def bBld (x : Str) : Blk := .box 87 [.slf 10, .own 11 1 (eBytes x)]
def oBld (x : Str) : Blk := .own 5 1 true (eBytes x)
def ptO (t : List FileD) : Inv := ⟨Nat, fun i => ⟨[(2, true, .str []), (3, true, .ptr 10 0), (8, true, .sl true 2 (eFiles t)), (9, true, .int .i64 t.length), (10, true, .int .i64 i)], [(10, .box 87 [.slf 10, .own 11 1 (eBytes (treeT (t.take i)))]), (11, .own 5 1 true (eBytes (treeT (t.take i))))]⟩, fun i => i ≤ t.length, fun i => t.length - i⟩
def ptI (t : List FileD) (g : Nat) : Inv := ⟨Nat, fun k => ⟨[(2, true, .str []), (3, true, .ptr 10 0), (8, true, .sl true 2 (eFiles t)), (9, true, .int .i64 t.length), (10, true, .int .i64 g), (26, true, .sl true 1 (eStrs (t.getD g default).text)), (27, true, .int .i64 (t.getD g default).text.length), (28, true, .int .i64 k)],
  [(10, .box 87 [.slf 10, .own 11 1 (eBytes (treeT (t.take g) ++ fileH (t.getD g default) ++ linesT ((t.getD g default).text.take k)))]), (11, .own 5 1 true (eBytes (treeT (t.take g) ++ fileH (t.getD g default) ++ linesT ((t.getD g default).text.take k))))]⟩,
  fun k => g < t.length ∧ k ≤ (t.getD g default).text.length, fun k => (t.getD g default).text.length - k⟩
def ptInv (t : List FileD) (n g : Nat) : Inv := if n = 3 then ptO t else ptI t g
theorem ptInv_3 (t : List FileD) (g : Nat) : ptInv t 3 g = ptO t := rfl
theorem ptInv_7 (t : List FileD) (g : Nat) : ptInv t 7 g = ptI t g := rfl
theorem rowsOf_eq (q : List UInt8) : rowsOf q = eBytes q := rfl
--TAB tTabS
def cTreePutT : Con := .fn 38 (List FileD) (fun t => [.sl true 2 (eFiles t)]) okT (fun t => .str (treeT t)) (fun _ => [])
set_option maxHeartbeats 4000000 in
theorem treePutT_has : Has Tryd.prog 30 cTreePutT := by
  refine has_walk mixed tTabS_ok (l := [(65, cItoa), (64, cWrite), (66, cBStr)]) (HasL.cons itoa_has (HasL.cons write_has (HasL.cons bStr_has HasL.nil))) [0, 2, 3, 5, 7, 8, 9, 10, 26, 27, 28] (fun t => ptInv t) [] Tryd.func30 (by kernel_rfl) (code := _) (by unfold Tryd.f30; rfl) (by kernel_rfl) (by decide) (fun _ => ⟨(), trivial⟩) (by intro h; first | exact fun _ => rfl | cases h) (by kernel_rfl) ?_
  intro (t : List FileD) ht
  have hb := okT_take ht
  obtain ⟨ht1, ht2⟩ : t.length ≤ 8 ∧ ∀ f ∈ t, f.path.length ≤ 1048576 ∧ f.text.length ≤ 64 ∧ ∀ s ∈ f.text, s.length ≤ 12 := ht
  simp -implicitDefEqProofs [vc_skip, extOf, vc_seq, vc_cond, vc_block, vc_exit, vc_ret, vc_region, vc_regionD, vc_loop, kSeq_normal, kSeq_ret, kSeq_exit, kBlock_normal, kBlock_ret, kBlock_exit, kLoop_normal, kLoop_ret, kLoop_exit, kCond_bool, kNorm_app, vcOps_nil, vcOps_cons, kOps_app, kStep_some, kStep_none, vcDL_nil, vcDL_cons, kOpsD_app, kStepD_true, kStepD_false, kStepC_some, kStepC_none, kMv_app, act3_store, act3_call, act3_bs, kAct_app, kSt2_app, stealSlots, stealL, stealOne, subIn, AV.stolen, act_store, act_bs, act_append, act_call, kSet_app, kSet2_app, kSetG_app, kSetG_app0, kStore_ptr, kStore_eptr, kCallW_some, kCallC_some, kCall_some, wk_T, wk_n, wk_keep, wk_inv, wk_act, wk_dr, wk_le, aCalm, wantC, dstOk, calm, aCallK, aCall3K, subOf, subRep, aCall2K, apnd, bsMove, putBox, putOwn, partAV, mvL, AV.mv, AV.base, AV.moved, kBld, bldK, wrK, stK, AV.selfOk, AV.src, TI.flat, apSize, pickAV, St.val, St.cond, St.fn, St.next, St.set, St.trim, wipe_eq, wipeE_app, wipeM_app, pickEnv, get?, cGet, upd_app, withPuts, killAll, rm, freshP, Oper.hnd, Sc.st, ofConst, constOk, lenAV, elemLen, loadAV, ldL, ld1, fieldAddrAV, indexAddrAV, sliceAV, convAV, buildAV, fillAV, fieldAV, Out.of, binAV, AV.rows, AV.one, AV.cells, AV.deepOk, AV.toD, toDs, partRows, partRowsM, partsDeep, TK.zeroAV, TK.zeroD, byteOf, inR, Op.operands, Call.operands, passVs, passV, passL, pass1, passB, pasVs, pasV, pasL, pas1, ownsOk, okHs, okHs2, okFin, finOk2, rho, over, backRes, backAV, backAV1, backBlk, putBack, back2, back2_V, back2_1, m2, AV.wipe, AV.wipeV, AV.wipe1, Blk.wipe, AV.hs, AV.hs.hsL, alOps, Con.start2, Con.pk, bodyQ, fini, resAV, resA, firstId, Sc.from, renEnv, renT, renV, renVs, renL, ren1, renBox, renOwn, okRen, clOf, actB, setRow, flatRows, flatD, noInv, shr_nil, shr_some, kStepF_some, shareL, AV.viewed, AV.viewed1, cTreePutT, Con.fn, tTabS, tTab, cItoa, cWrite, cBStr, ptInv_3, ptInv_7, ptO, ptI, rowsOf_eq]
  try dsimp only
  simp only [and_assoc, exists_eq_left, exists_and_left]
  refine fun _ => ⟨by simp -implicitDefEqProofs [treeT, eBytes], Nat.zero_le _, fun i hi => ⟨fun hlt => ⟨hlt, fun _ => ?_⟩, fun hge => by rw [List.take_of_length_le hge]⟩⟩
  have e3 : Option.map eFile t[i]? = some (eFile t[i]) := by simp -implicitDefEqProofs [List.getElem?_eq_getElem hlt]
  have hf := ht2 _ (List.getElem_mem hlt)
  have hbi := hb i
  have hbj := hb (i + 1)
  rw [treeT_take t i hlt] at hbj
  have hd := decS_len t[i].text.length
  simp only [List.length_append] at hbj
  have hg : t[i]?.getD default = t[i] := by simp -implicitDefEqProofs [hlt]
  have hfl := fileH_len t[i]
  simp -implicitDefEqProofs [e3, eFile, D.asStr, D.asRows, maxLen]
  refine ⟨by omega, fun _ => ⟨by omega, fun _ => ⟨t[i].text.length, rfl, by omega, by omega, fun _ => ⟨by omega, fun _ => ⟨by omega, fun _ => ⟨i, rfl, by rw [hg], by rw [hg], ?_, ?_, hlt, fun k _ hk => ?_⟩⟩⟩⟩⟩⟩
  · rw [hg]; simp -implicitDefEqProofs [fileH, linesT, eBytes]
  · rw [hg]; simp -implicitDefEqProofs [fileH, linesT, eBytes]
  rw [hg] at hk ⊢
  have hlb := linesT_len (t[i].text.take k) (fun s hs => hf.2.2 s (List.mem_of_mem_take hs))
  have hln : (t[i].text.take k).length ≤ 64 := by simp; omega
  refine ⟨fun hk2 => ⟨hk2, fun _ => ?_⟩, fun hk2 => ?_⟩
  · have e5 : Option.map eStr t[i].text[k]? = some (eStr t[i].text[k]) := by simp -implicitDefEqProofs [List.getElem?_eq_getElem hk2]
    have hs := hf.2.2 _ (List.getElem_mem hk2)
    have h6 := linesT_take t[i].text k hk2
    simp -implicitDefEqProofs [e5, eStr]
    have h7 : eBytes (treeT (List.take i t) ++ (fileH t[i] ++ linesT (List.take (k + 1) t[i].text))) = eBytes (treeT (List.take i t) ++ (fileH t[i] ++ linesT (List.take k t[i].text))) ++ eBytes (t[i].text[k] ++ [10]) := by
      rw [h6]; simp -implicitDefEqProofs [eBytes]
    exact ⟨by omega, fun _ => ⟨by omega, by omega, by omega, fun _ _ => ⟨k + 1, by omega, h7, h7.symm, hlt, by omega, by omega⟩⟩⟩
  · have hkk : t[i].text.take k = t[i].text := List.take_of_length_le hk2
    rw [hkk]
    exact ⟨by omega, by omega, fun _ _ => ⟨i + 1, by omega, treeT_take t i hlt, (treeT_take t i hlt).symm, by omega, by omega⟩⟩
def cTreePutI : Con := .fn 8 (List FileD) (fun t => [.sl true 2 (eFiles t)]) (fun t => ∀ f ∈ t, f.path.length ≤ 1048576) (fun t => .str (treePutS t)) (fun _ => [])
set_option maxHeartbeats 4000000 in
theorem treePutI_has : Has Tryd.prog 11 cTreePutI := by
  refine has_walk mixed tTabS_ok (l := [(23, cTreeOk), (30, cTreePutT)]) (HasL.cons treeOk_has (HasL.cons treePutT_has HasL.nil)) [0, 2] ((fun a n (_ : Nat) => (fun _ => noInv) a n)) [] Tryd.func11 (by kernel_rfl) (code := _) (by unfold Tryd.f11; rfl) (by kernel_rfl) (by decide) (fun _ => ⟨(), trivial⟩) (by intro h; first | exact fun _ => rfl | cases h) (by kernel_rfl) ?_
  intro (t : List FileD) ht
  have h1 : treeS t = true → okT t := fun h => okT_of (t := t) h ht
  have h2 : ∀ f ∈ t, f.path.length ≤ 536870912 := fun f hf => by have : f.path.length ≤ 1048576 := ht f hf; omega
  simp -implicitDefEqProofs [vc_skip, extOf, vc_seq, vc_cond, vc_block, vc_exit, vc_ret, vc_region, vc_regionD, vc_loop, kSeq_normal, kSeq_ret, kSeq_exit, kBlock_normal, kBlock_ret, kBlock_exit, kLoop_normal, kLoop_ret, kLoop_exit, kCond_bool, kNorm_app, vcOps_nil, vcOps_cons, kOps_app, kStep_some, kStep_none, vcDL_nil, vcDL_cons, kOpsD_app, kStepD_true, kStepD_false, kStepC_some, kStepC_none, kMv_app, act3_store, act3_call, act3_bs, kAct_app, kSt2_app, stealSlots, stealL, stealOne, subIn, AV.stolen, act_store, act_bs, act_append, act_call, kSet_app, kSet2_app, kSetG_app, kSetG_app0, kStore_ptr, kStore_eptr, kCallW_some, kCallC_some, kCall_some, wk_T, wk_n, wk_keep, wk_inv, wk_act, wk_dr, wk_le, aCalm, wantC, dstOk, calm, aCallK, aCall3K, subOf, subRep, aCall2K, apnd, bsMove, putBox, putOwn, partAV, mvL, AV.mv, AV.base, AV.moved, kBld, bldK, wrK, stK, AV.selfOk, AV.src, TI.flat, apSize, pickAV, St.val, St.cond, St.fn, St.next, St.set, St.trim, wipe_eq, wipeE_app, wipeM_app, pickEnv, get?, cGet, upd_app, withPuts, killAll, rm, freshP, Oper.hnd, Sc.st, ofConst, constOk, lenAV, elemLen, loadAV, ldL, ld1, fieldAddrAV, indexAddrAV, sliceAV, convAV, buildAV, fillAV, fieldAV, Out.of, binAV, AV.rows, AV.one, AV.cells, AV.deepOk, AV.toD, toDs, partRows, partRowsM, partsDeep, TK.zeroAV, TK.zeroD, byteOf, inR, Op.operands, Call.operands, passVs, passV, passL, pass1, passB, pasVs, pasV, pasL, pas1, ownsOk, okHs, okHs2, okFin, finOk2, rho, over, backRes, backAV, backAV1, backBlk, putBack, back2, back2_V, back2_1, m2, AV.wipe, AV.wipeV, AV.wipe1, Blk.wipe, AV.hs, AV.hs.hsL, alOps, Con.start2, Con.pk, bodyQ, fini, resAV, resA, firstId, Sc.from, renEnv, renT, renV, renVs, renL, ren1, renBox, renOwn, okRen, clOf, actB, setRow, flatRows, flatD, noInv, shr_nil, shr_some, kStepF_some, shareL, AV.viewed, AV.viewed1, cTreePutI, cTreeOk, cTreePutT, Con.fn, tTabS, tTab]
  try dsimp only
  rw [tree_eq]
  refine ⟨h2, fun h => ?_, fun h => ⟨h1 h, ?_⟩⟩
  · unfold treePutS; rw [h]; rfl
  · unfold treePutS; rw [h]; rfl

end Vx
end Go.Proofs.YthmhaggmcfemnaaDoor
/-
  Contracts: repositories written (l24Repo, repoPut).
-/
namespace Go.Proofs.YthmhaggmcfemnaaDoor
namespace Vx
open Go.RowKit
set_option maxRecDepth 8000

def parT (l : List Int) : Str := (l.map fun p => 32 :: decS p.toNat).flatten
def comW (c : CommitD) : Str := [99, 111, 109, 109, 105, 116, 32] ++ c.who
def comT (c : CommitD) : Str := comW c ++ parT c.parents ++ ([10] ++ treeT c.tree)
def comsT (l : List CommitD) : Str := (l.map comT).flatten
def headT (h : HeadD) : Str := [98, 114, 97, 110, 99, 104, 32] ++ h.name ++ [32] ++ decS h.at_.toNat ++ [10]
def headsT (l : List HeadD) : Str := (l.map headT).flatten
def repoT (r : RepoD) : Str := comsT r.commits ++ headsT r.heads
def okC (c : CommitD) : Prop := c.parents.length ≤ 2 ∧ (∀ p ∈ c.parents, 0 ≤ p ∧ p < 100) ∧ c.who.length ≤ 64 ∧ okT c.tree
def okH (h : HeadD) : Prop := h.name.length ≤ 64 ∧ 0 ≤ h.at_ ∧ h.at_ < 100
def okR (r : RepoD) : Prop := r.commits.length ≤ 16 ∧ (∀ c ∈ r.commits, okC c) ∧ r.heads.length ≤ 8 ∧ ∀ h ∈ r.heads, okH h
theorem parT_take (l : List Int) (k : Nat) (h : k < l.length) : parT (l.take (k + 1)) = parT (l.take k) ++ (32 :: decS l[k].toNat) := by
  unfold parT
  rw [take_succ' h, List.map_append, List.flatten_append]
  simp
theorem comsT_take (l : List CommitD) (k : Nat) (h : k < l.length) : comsT (l.take (k + 1)) = comsT (l.take k) ++ comT l[k] := by
  unfold comsT
  rw [take_succ' h, List.map_append, List.flatten_append]
  simp
theorem headsT_take (l : List HeadD) (k : Nat) (h : k < l.length) : headsT (l.take (k + 1)) = headsT (l.take k) ++ headT l[k] := by
  unfold headsT
  rw [take_succ' h, List.map_append, List.flatten_append]
  simp
theorem parT_len (l : List Int) : (parT l).length ≤ 3 * l.length := by
  induction l with
  | nil => simp -implicitDefEqProofs [parT]
  | cons p l ih =>
    have := decS_len p.toNat
    simp only [parT, List.map_cons, List.flatten_cons, List.length_append, List.length_cons] at ih ⊢
    omega
theorem comT_len {c : CommitD} (h : okC c) : (comT c).length ≤ 8401000 := by
  obtain ⟨h1, _, h3, h4⟩ := h
  have h5 := okT_take h4 c.tree.length
  rw [List.take_length] at h5
  have := parT_len c.parents
  simp only [comT, comW, List.length_append, List.length_cons, List.length_nil]
  omega
theorem comsT_len : ∀ {l : List CommitD}, (∀ c ∈ l, okC c) → (comsT l).length ≤ 8401000 * l.length := by
  intro l
  induction l with
  | nil => intro _; simp -implicitDefEqProofs [comsT]
  | cons c l ih =>
    intro h
    have h1 := comT_len (h c (by simp))
    have h2 := ih fun x hx => h x (by simp -implicitDefEqProofs [hx])
    simp only [comsT, List.map_cons, List.flatten_cons, List.length_append, List.length_cons] at h2 ⊢
    omega
theorem headsT_len : ∀ {l : List HeadD}, (∀ c ∈ l, okH c) → (headsT l).length ≤ 100 * l.length := by
  intro l
  induction l with
  | nil => intro _; simp -implicitDefEqProofs [headsT]
  | cons c l ih =>
    intro h
    have h1 := (h c (by simp)).1
    have h3 := decS_len c.at_.toNat
    have h2 := ih fun x hx => h x (by simp -implicitDefEqProofs [hx])
    simp only [headsT, headT, List.map_cons, List.flatten_cons, List.length_append, List.length_cons, List.length_nil] at h2 ⊢
    omega
theorem okR_c {r : RepoD} (h : okR r) (i : Nat) : (comsT (r.commits.take i)).length ≤ 134416000 := by
  have h1 := comsT_len (l := r.commits.take i) fun c hc => h.2.1 c (List.mem_of_mem_take hc)
  have : (r.commits.take i).length ≤ r.commits.length := by simp; omega
  have := h.1
  omega
theorem okR_h {r : RepoD} (h : okR r) (i : Nat) : (headsT (r.heads.take i)).length ≤ 800 := by
  have h1 := headsT_len (l := r.heads.take i) fun c hc => h.2.2.2 c (List.mem_of_mem_take hc)
  have : (r.heads.take i).length ≤ r.heads.length := by simp; omega
  have := h.2.2.1
  omega

def rtO (r : RepoD) : Inv := ⟨Nat, fun i => ⟨[(1, true, .ptr 10 0), (2, true, .str []), (3, true, .str (comsT (r.commits.take i))), (4, true, .int .i64 i)], [(10, bRepo r)]⟩, fun i => i ≤ r.commits.length, fun i => r.commits.length - i⟩
def rtI (r : RepoD) (g : Nat) : Inv := ⟨Nat, fun k => ⟨[(1, true, .ptr 10 0), (2, true, .str []), (3, true, .str (comsT (r.commits.take g) ++ comW (r.commits.getD g default) ++ parT ((r.commits.getD g default).parents.take k))), (4, true, .int .i64 g), (5, true, .int .i64 k)], [(10, bRepo r)]⟩, fun k => g < r.commits.length ∧ k ≤ (r.commits.getD g default).parents.length, fun k => (r.commits.getD g default).parents.length - k⟩
def rtH (r : RepoD) : Inv := ⟨Nat, fun i => ⟨[(1, true, .ptr 10 0), (2, true, .str []), (3, true, .str (comsT r.commits ++ headsT (r.heads.take i))), (6, true, .int .i64 i)], [(10, bRepo r)]⟩, fun i => i ≤ r.heads.length, fun i => r.heads.length - i⟩
def rtInv (r : RepoD) (n g : Nat) : Inv := if n = 3 then rtO r else if n = 7 then rtI r g else rtH r
theorem rtInv_3 (r : RepoD) (g : Nat) : rtInv r 3 g = rtO r := rfl
theorem rtInv_7 (r : RepoD) (g : Nat) : rtInv r 7 g = rtI r g := rfl
theorem rtInv_12 (r : RepoD) (g : Nat) : rtInv r 12 g = rtH r := rfl
def cL24Repo : Con := .fn 84 RepoD (fun r => [vRepo r]) okR (fun r => .str (repoT r)) (fun _ => [])
set_option maxHeartbeats 4000000 in
theorem l24Repo_has : Has Tryd.prog 35 cL24Repo := by
  refine has_walk mixed tTabS_ok (l := [(62, cL1Dec), (28, cL24Tree)]) (HasL.cons l1Dec_has (HasL.cons l24Tree_has HasL.nil)) [0, 1, 2, 3, 4, 5, 6] (fun r => rtInv r) [] Tryd.func35 (by kernel_rfl) (code := _) (by unfold Tryd.f35; rfl) (by kernel_rfl) (by decide) (fun _ => ⟨(), trivial⟩) (by intro h; first | exact fun _ => rfl | cases h) (by kernel_rfl) ?_
  intro (r : RepoD) hr
  have hc := okR_c hr
  have hh := okR_h hr
  obtain ⟨h1, h2, h3, h4⟩ := hr
  simp -implicitDefEqProofs [vc_skip, extOf, vc_seq, vc_cond, vc_block, vc_exit, vc_ret, vc_region, vc_regionD, vc_loop, kSeq_normal, kSeq_ret, kSeq_exit, kBlock_normal, kBlock_ret, kBlock_exit, kLoop_normal, kLoop_ret, kLoop_exit, kCond_bool, kNorm_app, vcOps_nil, vcOps_cons, kOps_app, kStep_some, kStep_none, vcDL_nil, vcDL_cons, kOpsD_app, kStepD_true, kStepD_false, kStepC_some, kStepC_none, kMv_app, act3_store, act3_call, act3_bs, kAct_app, kSt2_app, stealSlots, stealL, stealOne, subIn, AV.stolen, act_store, act_bs, act_append, act_call, kSet_app, kSet2_app, kSetG_app, kSetG_app0, kStore_ptr, kStore_eptr, kCallW_some, kCallC_some, kCall_some, wk_T, wk_n, wk_keep, wk_inv, wk_act, wk_dr, wk_le, aCalm, wantC, dstOk, calm, aCallK, aCall3K, subOf, subRep, aCall2K, apnd, bsMove, putBox, putOwn, partAV, mvL, AV.mv, AV.base, AV.moved, kBld, bldK, wrK, stK, AV.selfOk, AV.src, TI.flat, apSize, pickAV, St.val, St.cond, St.fn, St.next, St.set, St.trim, wipe_eq, wipeE_app, wipeM_app, pickEnv, get?, cGet, upd_app, withPuts, killAll, rm, freshP, Oper.hnd, Sc.st, ofConst, constOk, lenAV, elemLen, loadAV, ldL, ld1, fieldAddrAV, indexAddrAV, sliceAV, convAV, buildAV, fillAV, fieldAV, Out.of, binAV, AV.rows, AV.one, AV.cells, AV.deepOk, AV.toD, toDs, partRows, partRowsM, partsDeep, TK.zeroAV, TK.zeroD, byteOf, inR, Op.operands, Call.operands, passVs, passV, passL, pass1, passB, pasVs, pasV, pasL, pas1, ownsOk, okHs, okHs2, okFin, finOk2, rho, over, backRes, backAV, backAV1, backBlk, putBack, back2, back2_V, back2_1, m2, AV.wipe, AV.wipeV, AV.wipe1, Blk.wipe, AV.hs, AV.hs.hsL, alOps, Con.start2, Con.pk, bodyQ, fini, resAV, resA, firstId, Sc.from, renEnv, renT, renV, renVs, renL, ren1, renBox, renOwn, okRen, clOf, actB, setRow, flatRows, flatD, noInv, shr_nil, shr_some, kStepF_some, shareL, AV.viewed, AV.viewed1, cL24Repo, Con.fn, tTabS, tTab, cL1Dec, cL24Tree, rtInv_3, rtInv_7, rtInv_12, rtO, rtI, rtH, bRepo_def]
  try dsimp only
  refine ⟨⟨0, ⟨by simp -implicitDefEqProofs [comsT], rfl⟩, by omega⟩, fun i hi _ => ⟨fun hlt => ?_, fun hge => ?_⟩⟩
  · have e3 : Option.map eCommit r.commits[i]? = some (eCommit r.commits[i]) := by simp -implicitDefEqProofs [List.getElem?_eq_getElem hlt]
    have hf := h2 _ (List.getElem_mem hlt)
    obtain ⟨f1, f2, f3, f4⟩ := hf
    have hbi := hc i
    have hbj := hc (i + 1)
    rw [comsT_take r.commits i hlt] at hbj
    simp only [comT, List.length_append] at hbj
    have hg : r.commits[i]?.getD default = r.commits[i] := by simp -implicitDefEqProofs [hlt]
    simp -implicitDefEqProofs [hlt, e3, eCommit, and_assoc, maxLen]
    refine ⟨by omega, fun _ => ⟨by omega, fun _ => ⟨i, ⟨0, by rw [hg]; simp -implicitDefEqProofs [comW, parT], rfl, rfl, hlt, by omega⟩, ?_⟩⟩⟩
    intro k _ hk
    rw [hg] at hk ⊢
    have hlb := parT_len (r.commits[i].parents.take k)
    have hln : (r.commits[i].parents.take k).length ≤ 2 := by simp; omega
    have hcw : (comW r.commits[i]).length ≤ 71 := by simp -implicitDefEqProofs [comW]; omega
    simp -implicitDefEqProofs [hlt, e3, eCommit, and_assoc]
    refine fun _ => ⟨fun hk2 => ?_, fun hk2 => ?_⟩
    · have e5 : Option.map eInt r.commits[i].parents[k]? = some (eInt r.commits[i].parents[k]) := by simp -implicitDefEqProofs [List.getElem?_eq_getElem hk2]
      have hs := f2 _ (List.getElem_mem hk2)
      have h6 := parT_take r.commits[i].parents k hk2
      simp -implicitDefEqProofs [hk2, e5, eInt, and_assoc]
      have hd := decS_len r.commits[i].parents[k].toNat
      exact ⟨by omega, fun _ => ⟨r.commits[i].parents[k].toNat, by omega, by omega, by omega, fun _ => ⟨by omega, by omega, fun _ _ => ⟨k + 1, h6, rfl, by omega, by omega⟩⟩⟩⟩
    · have hkk : r.commits[i].parents.take k = r.commits[i].parents := List.take_of_length_le hk2
      rw [hkk]
      simp only [List.length_cons, List.length_nil] at hbj
      exact ⟨by omega, fun _ => ⟨f4, by omega, fun _ => ⟨by omega, by omega, fun _ _ => ⟨i + 1, by rw [comsT_take _ _ hlt]; simp -implicitDefEqProofs [comT], rfl, by omega, by omega⟩⟩⟩⟩
  · have hca := hc r.commits.length
    rw [List.take_length] at hca
    refine ⟨⟨0, ⟨by rw [List.take_of_length_le hge]; simp -implicitDefEqProofs [headsT], rfl⟩, by omega⟩, fun j hj _ => ⟨fun hlj => ?_, fun hgj => ?_⟩⟩
    · have e3 : Option.map eHead r.heads[j]? = some (eHead r.heads[j]) := by simp -implicitDefEqProofs [List.getElem?_eq_getElem hlj]
      obtain ⟨f1, f2, f3⟩ := h4 _ (List.getElem_mem hlj)
      have hbi := hh j
      have hd := decS_len r.heads[j].at_.toNat
      simp -implicitDefEqProofs [hlj, e3, eHead, and_assoc, maxLen]
      exact ⟨by omega, fun _ => ⟨by omega, fun _ => ⟨by omega, fun _ => ⟨r.heads[j].at_.toNat, by omega, by omega, by omega, fun _ => ⟨by omega, fun _ => ⟨by omega, by omega, fun _ _ => ⟨j + 1, by rw [headsT_take _ _ hlj]; simp -implicitDefEqProofs [headT], rfl, by omega, by omega⟩⟩⟩⟩⟩⟩⟩
    · rw [List.take_of_length_le hgj]; rfl

def bldR (x : Str) : List (Nat × Blk) := [(10, .box 87 [.slf 10, .own 11 1 (eBytes x)]), (11, .own 5 1 true (eBytes x))]
def rpO (r : RepoD) : Inv := ⟨Nat, fun i => ⟨[(1, true, .ptr 12 0), (2, true, .str []), (3, true, .ptr 10 0), (11, true, .sl true 3 (eCommits r.commits)), (12, true, .int .i64 r.commits.length), (13, true, .int .i64 i)],
  [(12, bRepo r), (10, .box 87 [.slf 10, .own 11 1 (eBytes (comsT (r.commits.take i)))]), (11, .own 5 1 true (eBytes (comsT (r.commits.take i))))]⟩, fun i => i ≤ r.commits.length, fun i => r.commits.length - i⟩
def rpI (r : RepoD) (g : Nat) : Inv := ⟨Nat, fun k => ⟨[(1, true, .ptr 12 0), (2, true, .str []), (3, true, .ptr 10 0), (5, true, .ptr 13 0), (11, true, .sl true 3 (eCommits r.commits)), (12, true, .int .i64 r.commits.length), (13, true, .int .i64 g), (22, true, .sl true 1 (eInts (r.commits.getD g default).parents)), (23, true, .int .i64 (r.commits.getD g default).parents.length), (24, true, .int .i64 k)],
  [(12, bRepo r), (10, .box 87 [.slf 10, .own 11 1 (eBytes (comsT (r.commits.take g) ++ comW (r.commits.getD g default) ++ parT ((r.commits.getD g default).parents.take k)))]), (11, .own 5 1 true (eBytes (comsT (r.commits.take g) ++ comW (r.commits.getD g default) ++ parT ((r.commits.getD g default).parents.take k)))),
   (13, .box 101 [.sl true 1 (eInts (r.commits.getD g default).parents), .str (r.commits.getD g default).who, .sl true 2 (eFiles (r.commits.getD g default).tree)])]⟩, fun k => g < r.commits.length ∧ k ≤ (r.commits.getD g default).parents.length, fun k => (r.commits.getD g default).parents.length - k⟩
def rpH (r : RepoD) : Inv := ⟨Nat, fun i => ⟨[(2, true, .str []), (3, true, .ptr 10 0), (40, true, .sl true 2 (eHeads r.heads)), (41, true, .int .i64 r.heads.length), (42, true, .int .i64 i)],
  [(10, .box 87 [.slf 10, .own 11 1 (eBytes (comsT r.commits ++ headsT (r.heads.take i)))]), (11, .own 5 1 true (eBytes (comsT r.commits ++ headsT (r.heads.take i))))]⟩, fun i => i ≤ r.heads.length, fun i => r.heads.length - i⟩
def rpInv (r : RepoD) (n g : Nat) : Inv := if n = 3 then rpO r else if n = 7 then rpI r g else rpH r
theorem rpInv_3 (r : RepoD) (g : Nat) : rpInv r 3 g = rpO r := rfl
theorem rpInv_7 (r : RepoD) (g : Nat) : rpInv r 7 g = rpI r g := rfl
theorem rpInv_14 (r : RepoD) (g : Nat) : rpInv r 14 g = rpH r := rfl
--TAB tTabS
def cRepoPutT : Con := .fn 58 RepoD (fun r => [vRepo r]) okR (fun r => .str (repoT r)) (fun _ => [])
set_option maxHeartbeats 4000000 in
theorem repoPutT_has : Has Tryd.prog 39 cRepoPutT := by
  refine has_walk mixed tTabS_ok (l := [(65, cItoa), (64, cWrite), (66, cBStr), (30, cTreePutT)]) (HasL.cons itoa_has (HasL.cons write_has (HasL.cons bStr_has (HasL.cons treePutT_has HasL.nil)))) [0, 1, 2, 3, 5, 7, 9, 11, 12, 13, 22, 23, 24, 40, 41, 42] (fun r => rpInv r) [] Tryd.func39 (by kernel_rfl) (code := _) (by unfold Tryd.f39; rfl) (by kernel_rfl) (by decide) (fun _ => ⟨(), trivial⟩) (by intro h; first | exact fun _ => rfl | cases h) (by kernel_rfl) ?_
  intro (r : RepoD) hr
  have hc := okR_c hr
  have hh := okR_h hr
  obtain ⟨h1, h2, h3, h4⟩ := hr
  simp -implicitDefEqProofs [vc_skip, extOf, vc_seq, vc_cond, vc_block, vc_exit, vc_ret, vc_region, vc_regionD, vc_loop, kSeq_normal, kSeq_ret, kSeq_exit, kBlock_normal, kBlock_ret, kBlock_exit, kLoop_normal, kLoop_ret, kLoop_exit, kCond_bool, kNorm_app, vcOps_nil, vcOps_cons, kOps_app, kStep_some, kStep_none, vcDL_nil, vcDL_cons, kOpsD_app, kStepD_true, kStepD_false, kStepC_some, kStepC_none, kMv_app, act3_store, act3_call, act3_bs, kAct_app, kSt2_app, stealSlots, stealL, stealOne, subIn, AV.stolen, act_store, act_bs, act_append, act_call, kSet_app, kSet2_app, kSetG_app, kSetG_app0, kStore_ptr, kStore_eptr, kCallW_some, kCallC_some, kCall_some, wk_T, wk_n, wk_keep, wk_inv, wk_act, wk_dr, wk_le, aCalm, wantC, dstOk, calm, aCallK, aCall3K, subOf, subRep, aCall2K, apnd, bsMove, putBox, putOwn, partAV, mvL, AV.mv, AV.base, AV.moved, kBld, bldK, wrK, stK, AV.selfOk, AV.src, TI.flat, apSize, pickAV, St.val, St.cond, St.fn, St.next, St.set, St.trim, wipe_eq, wipeE_app, wipeM_app, pickEnv, get?, cGet, upd_app, withPuts, killAll, rm, freshP, Oper.hnd, Sc.st, ofConst, constOk, lenAV, elemLen, loadAV, ldL, ld1, fieldAddrAV, indexAddrAV, sliceAV, convAV, buildAV, fillAV, fieldAV, Out.of, binAV, AV.rows, AV.one, AV.cells, AV.deepOk, AV.toD, toDs, partRows, partRowsM, partsDeep, TK.zeroAV, TK.zeroD, byteOf, inR, Op.operands, Call.operands, passVs, passV, passL, pass1, passB, pasVs, pasV, pasL, pas1, ownsOk, okHs, okHs2, okFin, finOk2, rho, over, backRes, backAV, backAV1, backBlk, putBack, back2, back2_V, back2_1, m2, AV.wipe, AV.wipeV, AV.wipe1, Blk.wipe, AV.hs, AV.hs.hsL, alOps, Con.start2, Con.pk, bodyQ, fini, resAV, resA, firstId, Sc.from, renEnv, renT, renV, renVs, renL, ren1, renBox, renOwn, okRen, clOf, actB, setRow, flatRows, flatD, noInv, shr_nil, shr_some, kStepF_some, shareL, AV.viewed, AV.viewed1, cRepoPutT, Con.fn, tTabS, tTab, cItoa, cWrite, cBStr, cTreePutT, rpInv_3, rpInv_7, rpInv_14, rpO, rpI, rpH, rowsOf_eq, bRepo_def]
  try dsimp only
  simp only [and_assoc, exists_eq_left, exists_and_left]
  refine fun _ => ⟨by simp -implicitDefEqProofs [comsT, eBytes], Nat.zero_le _, fun i hi => ⟨fun hlt => ⟨hlt, fun _ => ?_⟩, fun hge => ?_⟩⟩
  · have e3 : Option.map eCommit r.commits[i]? = some (eCommit r.commits[i]) := by simp -implicitDefEqProofs [List.getElem?_eq_getElem hlt]
    have hf := h2 _ (List.getElem_mem hlt)
    obtain ⟨f1, f2, f3, f4⟩ := hf
    have hbi := hc i
    have hbj := hc (i + 1)
    rw [comsT_take r.commits i hlt] at hbj
    simp only [comT, List.length_append, List.length_cons, List.length_nil] at hbj
    have hg : r.commits[i]?.getD default = r.commits[i] := by simp -implicitDefEqProofs [hlt]
    simp -implicitDefEqProofs [e3, eCommit, D.asStr, D.asRows, maxLen]
    refine ⟨by omega, fun _ => ⟨by omega, fun _ => ⟨i, rfl, by rw [hg], by rw [hg], ?_, by rw [hg], by rw [hg], by rw [hg], ?_, hlt, fun k _ hk => ?_⟩⟩⟩
    · rw [hg]; simp -implicitDefEqProofs [comW, parT, eBytes]
    · rw [hg]; simp -implicitDefEqProofs [comW, parT, eBytes]
    rw [hg] at hk ⊢
    have hlb := parT_len (r.commits[i].parents.take k)
    have hln : (r.commits[i].parents.take k).length ≤ 2 := by simp; omega
    have hcw : (comW r.commits[i]).length ≤ 71 := by simp -implicitDefEqProofs [comW]; omega
    refine ⟨fun hk2 => ⟨hk2, fun _ => ?_⟩, fun hk2 => ?_⟩
    · have e5 : Option.map eInt r.commits[i].parents[k]? = some (eInt r.commits[i].parents[k]) := by simp -implicitDefEqProofs [List.getElem?_eq_getElem hk2]
      have hs := f2 _ (List.getElem_mem hk2)
      have h6 := parT_take r.commits[i].parents k hk2
      have hd := decS_len r.commits[i].parents[k].toNat
      simp -implicitDefEqProofs [e5, eInt]
      have h7 : eBytes (comsT (r.commits.take i) ++ (comW r.commits[i] ++ parT (r.commits[i].parents.take (k + 1)))) = eBytes (comsT (r.commits.take i) ++ (comW r.commits[i] ++ parT (r.commits[i].parents.take k))) ++ eBytes (32 :: decS r.commits[i].parents[k].toNat) := by
        rw [h6]; simp -implicitDefEqProofs [eBytes]
      exact ⟨r.commits[i].parents[k].toNat, by omega, by omega, by omega, fun _ => ⟨by omega, by omega, by omega, fun _ _ => ⟨k + 1, by omega, h7, h7.symm, hlt, by omega, by omega⟩⟩⟩
    · have hkk : r.commits[i].parents.take k = r.commits[i].parents := List.take_of_length_le hk2
      rw [hkk]
      have h7 : eBytes (comsT (r.commits.take (i + 1))) = eBytes (comsT (r.commits.take i) ++ (comW r.commits[i] ++ parT r.commits[i].parents)) ++ eBytes (10 :: treeT r.commits[i].tree) := by
        rw [comsT_take _ _ hlt]; simp -implicitDefEqProofs [eBytes, comT]
      exact ⟨f4, by omega, fun _ => ⟨by omega, by omega, by omega, fun _ _ => ⟨i + 1, by omega, h7, h7.symm, by omega, by omega⟩⟩⟩
  · have hca := hc r.commits.length
    rw [List.take_length] at hca
    refine fun _ => ⟨by rw [List.take_of_length_le hge]; simp -implicitDefEqProofs [headsT], by rw [List.take_of_length_le hge]; simp -implicitDefEqProofs [headsT], Nat.zero_le _, fun j hj => ⟨fun hlj => ⟨hlj, fun _ => ?_⟩, fun hgj => ?_⟩⟩
    · have e3 : Option.map eHead r.heads[j]? = some (eHead r.heads[j]) := by simp -implicitDefEqProofs [List.getElem?_eq_getElem hlj]
      obtain ⟨f1, f2, f3⟩ := h4 _ (List.getElem_mem hlj)
      have hbi := hh j
      have hd := decS_len r.heads[j].at_.toNat
      have h7 : eBytes (comsT r.commits ++ headsT (r.heads.take (j + 1))) = eBytes (comsT r.commits ++ headsT (r.heads.take j)) ++ eBytes (98 :: 114 :: 97 :: 110 :: 99 :: 104 :: 32 :: (r.heads[j].name ++ 32 :: (decS r.heads[j].at_.toNat ++ [10]))) := by
        rw [headsT_take _ _ hlj]; simp -implicitDefEqProofs [eBytes, headT]
      simp -implicitDefEqProofs [e3, eHead, D.asStr, D.asInt, maxLen]
      exact ⟨by omega, fun _ => ⟨by omega, fun _ => ⟨r.heads[j].at_.toNat, by omega, by omega, by omega, fun _ => ⟨by omega, fun _ => ⟨by omega, by omega, by omega, fun _ _ => ⟨j + 1, by omega, h7, h7.symm, by omega, by omega⟩⟩⟩⟩⟩⟩
    · rw [List.take_of_length_le hgj]; rfl

theorem okR_of {r : RepoD} (h : repoI r = true) (hp : ∀ c ∈ r.commits, ∀ f ∈ c.tree, f.path.length ≤ 1048576) : okR r := by
  refine ⟨repo_n h, fun c hc => ?_, ?_⟩
  · obtain ⟨i, hi, rfl⟩ := List.getElem_of_mem hc
    obtain ⟨q1, q2, q3⟩ := repo_use h hi
    have h1 := ((repoI_iff r).1 h).2.1 i hi
    have hn := repo_n h
    have hg : r.commits.getD i default = r.commits[i] := by simp -implicitDefEqProofs [List.getD_eq_getElem?_getD, hi]
    simp only [okCI, okI1, hg, Bool.and_eq_true] at h1
    have hw := h1.1.1.2
    simp only [nameB, Bool.and_eq_true, decide_eq_true_eq] at hw
    exact ⟨q1, fun p hp => by have := q2 p hp; omega, by omega, okT_of (by rw [← tree_eq]; exact q3) (hp _ hc)⟩
  · obtain ⟨q1, q2⟩ := (headsB_iff _ _).1 ((repoI_iff r).1 h).2.2
    have hn := repo_n h
    refine ⟨by omega, fun x hx => ?_⟩
    obtain ⟨i, hi, rfl⟩ := List.getElem_of_mem hx
    have h1 := q2 i hi
    have hg : r.heads.getD i default = r.heads[i] := by simp -implicitDefEqProofs [List.getD_eq_getElem?_getD, hi]
    simp only [okHd, hg, Bool.and_eq_true, nameB, inN, decide_eq_true_eq] at h1
    obtain ⟨⟨⟨⟨h2, h3⟩, _⟩, h4, h5⟩, _⟩ := h1
    exact ⟨by omega, h4, by omega⟩
def repoPutD (r : RepoD) : Str := if repoI r then repoT r else []
def rqPre (r : RepoD) : Prop := r.commits.length ≤ 1073741824 ∧ ∀ c ∈ r.commits, ∀ f ∈ c.tree, f.path.length ≤ 1048576
theorem rqPre_rp {r : RepoD} (h : rqPre r) : rpPre r := ⟨h.1, fun c hc f hf => by have := h.2 c hc f hf; omega⟩
def cRepoPutS : Con := .fn 8 RepoD (fun r => [vRepo r]) rqPre (fun r => .str (repoPutD r)) (fun _ => [])
set_option maxHeartbeats 4000000 in
theorem repoPutS_has : Has Tryd.prog 14 cRepoPutS := by
  refine has_walk mixed tTabS_ok (l := [(34, cL7Ok), (35, cL24Repo)]) (HasL.cons l7Ok_has (HasL.cons l24Repo_has HasL.nil)) [0, 1, 2] ((fun a n (_ : Nat) => (fun _ => noInv) a n)) [] Tryd.func14 (by kernel_rfl) (code := _) (by unfold Tryd.f14; rfl) (by kernel_rfl) (by decide) (fun _ => ⟨(), trivial⟩) (by intro h; first | exact fun _ => rfl | cases h) (by kernel_rfl) ?_
  intro (r : RepoD) hr
  have h1 : repoI r = true → okR r := fun h => okR_of h hr.2
  have h2 : rpPre r := rqPre_rp hr
  have h3 : r.commits.length ≤ 1073741824 := hr.1
  simp -implicitDefEqProofs [vc_skip, extOf, vc_seq, vc_cond, vc_block, vc_exit, vc_ret, vc_region, vc_regionD, vc_loop, kSeq_normal, kSeq_ret, kSeq_exit, kBlock_normal, kBlock_ret, kBlock_exit, kLoop_normal, kLoop_ret, kLoop_exit, kCond_bool, kNorm_app, vcOps_nil, vcOps_cons, kOps_app, kStep_some, kStep_none, vcDL_nil, vcDL_cons, kOpsD_app, kStepD_true, kStepD_false, kStepC_some, kStepC_none, kMv_app, act3_store, act3_call, act3_bs, kAct_app, kSt2_app, stealSlots, stealL, stealOne, subIn, AV.stolen, act_store, act_bs, act_append, act_call, kSet_app, kSet2_app, kSetG_app, kSetG_app0, kStore_ptr, kStore_eptr, kCallW_some, kCallC_some, kCall_some, wk_T, wk_n, wk_keep, wk_inv, wk_act, wk_dr, wk_le, aCalm, wantC, dstOk, calm, aCallK, aCall3K, subOf, subRep, aCall2K, apnd, bsMove, putBox, putOwn, partAV, mvL, AV.mv, AV.base, AV.moved, kBld, bldK, wrK, stK, AV.selfOk, AV.src, TI.flat, apSize, pickAV, St.val, St.cond, St.fn, St.next, St.set, St.trim, wipe_eq, wipeE_app, wipeM_app, pickEnv, get?, cGet, upd_app, withPuts, killAll, rm, freshP, Oper.hnd, Sc.st, ofConst, constOk, lenAV, elemLen, loadAV, ldL, ld1, fieldAddrAV, indexAddrAV, sliceAV, convAV, buildAV, fillAV, fieldAV, Out.of, binAV, AV.rows, AV.one, AV.cells, AV.deepOk, AV.toD, toDs, partRows, partRowsM, partsDeep, TK.zeroAV, TK.zeroD, byteOf, inR, Op.operands, Call.operands, passVs, passV, passL, pass1, passB, pasVs, pasV, pasL, pas1, ownsOk, okHs, okHs2, okFin, finOk2, rho, over, backRes, backAV, backAV1, backBlk, putBack, back2, back2_V, back2_1, m2, AV.wipe, AV.wipeV, AV.wipe1, Blk.wipe, AV.hs, AV.hs.hsL, alOps, Con.start2, Con.pk, bodyQ, fini, resAV, resA, firstId, Sc.from, renEnv, renT, renV, renVs, renL, ren1, renBox, renOwn, okRen, clOf, actB, setRow, flatRows, flatD, noInv, shr_nil, shr_some, kStepF_some, shareL, AV.viewed, AV.viewed1, cRepoPutS, cL7Ok, cL24Repo, Con.fn, tTabS, tTab, bRepo_def]
  try dsimp only
  rw [← repo_eq]
  unfold repoPutD
  simp +contextual -implicitDefEqProofs [h3, h1]
def cRepoPutI : Con := .fn 8 RepoD (fun r => [vRepo r]) rqPre (fun r => .str (repoPutD r)) (fun _ => [])
set_option maxHeartbeats 4000000 in
theorem repoPutI_has : Has Tryd.prog 16 cRepoPutI := by
  refine has_walk mixed tTabS_ok (l := [(38, cRepoOk), (39, cRepoPutT)]) (HasL.cons repoOk_has (HasL.cons repoPutT_has HasL.nil)) [0, 1, 2] ((fun a n (_ : Nat) => (fun _ => noInv) a n)) [] Tryd.func16 (by kernel_rfl) (code := _) (by unfold Tryd.f16; rfl) (by kernel_rfl) (by decide) (fun _ => ⟨(), trivial⟩) (by intro h; first | exact fun _ => rfl | cases h) (by kernel_rfl) ?_
  intro (r : RepoD) hr
  have h1 : repoI r = true → okR r := fun h => okR_of h hr.2
  have h2 : rpPre r := rqPre_rp hr
  simp -implicitDefEqProofs [vc_skip, extOf, vc_seq, vc_cond, vc_block, vc_exit, vc_ret, vc_region, vc_regionD, vc_loop, kSeq_normal, kSeq_ret, kSeq_exit, kBlock_normal, kBlock_ret, kBlock_exit, kLoop_normal, kLoop_ret, kLoop_exit, kCond_bool, kNorm_app, vcOps_nil, vcOps_cons, kOps_app, kStep_some, kStep_none, vcDL_nil, vcDL_cons, kOpsD_app, kStepD_true, kStepD_false, kStepC_some, kStepC_none, kMv_app, act3_store, act3_call, act3_bs, kAct_app, kSt2_app, stealSlots, stealL, stealOne, subIn, AV.stolen, act_store, act_bs, act_append, act_call, kSet_app, kSet2_app, kSetG_app, kSetG_app0, kStore_ptr, kStore_eptr, kCallW_some, kCallC_some, kCall_some, wk_T, wk_n, wk_keep, wk_inv, wk_act, wk_dr, wk_le, aCalm, wantC, dstOk, calm, aCallK, aCall3K, subOf, subRep, aCall2K, apnd, bsMove, putBox, putOwn, partAV, mvL, AV.mv, AV.base, AV.moved, kBld, bldK, wrK, stK, AV.selfOk, AV.src, TI.flat, apSize, pickAV, St.val, St.cond, St.fn, St.next, St.set, St.trim, wipe_eq, wipeE_app, wipeM_app, pickEnv, get?, cGet, upd_app, withPuts, killAll, rm, freshP, Oper.hnd, Sc.st, ofConst, constOk, lenAV, elemLen, loadAV, ldL, ld1, fieldAddrAV, indexAddrAV, sliceAV, convAV, buildAV, fillAV, fieldAV, Out.of, binAV, AV.rows, AV.one, AV.cells, AV.deepOk, AV.toD, toDs, partRows, partRowsM, partsDeep, TK.zeroAV, TK.zeroD, byteOf, inR, Op.operands, Call.operands, passVs, passV, passL, pass1, passB, pasVs, pasV, pasL, pas1, ownsOk, okHs, okHs2, okFin, finOk2, rho, over, backRes, backAV, backAV1, backBlk, putBack, back2, back2_V, back2_1, m2, AV.wipe, AV.wipeV, AV.wipe1, Blk.wipe, AV.hs, AV.hs.hsL, alOps, Con.start2, Con.pk, bodyQ, fini, resAV, resA, firstId, Sc.from, renEnv, renT, renV, renVs, renL, ren1, renBox, renOwn, okRen, clOf, actB, setRow, flatRows, flatD, noInv, shr_nil, shr_some, kStepF_some, shareL, AV.viewed, AV.viewed1, cRepoPutI, cRepoOk, cRepoPutT, Con.fn, tTabS, tTab, bRepo_def]
  try dsimp only
  unfold repoPutD
  simp +contextual -implicitDefEqProofs [h2, h1]
theorem szRp_rq {r : RepoD} (h : 0 ≤ szRp r 1048576) : rqPre r := by
  obtain ⟨⟨h1, h2⟩, _⟩ := szRp_ok (by omega) h
  exact ⟨by omega, fun c hc f hf => by have := ((h2 c hc).2.2.2 f hf).1; omega⟩
def cFnExactRepoPut : Con := .fn 27 RepoD (fun r => [lRepo r]) (fun _ => True) (fun _ => .bool true) (fun _ => [])
set_option maxHeartbeats 4000000 in
theorem fnExactRepoPut_has : Has Tryd.prog 4 cFnExactRepoPut := by
  refine has_walk mixed tTabS_ok (l := [(13, cSzRepo), (15, cToRepo), (14, cRepoPutS), (16, cRepoPutI), (17, cEqRepo)]) (HasL.cons szRepo_has (HasL.cons toRepo_has (HasL.cons repoPutS_has (HasL.cons repoPutI_has (HasL.cons eqRepo_has HasL.nil))))) [0, 1, 2, 3, 4, 5, 6] ((fun a n (_ : Nat) => (fun _ => noInv) a n)) [] Tryd.func4 (by kernel_rfl) (code := _) (by unfold Tryd.f4; rfl) (by kernel_rfl) (by decide) (fun _ => ⟨(), trivial⟩) (by intro h; first | exact fun _ => rfl | cases h) (by kernel_rfl) ?_
  intro (r : RepoD) _
  have h1 : 0 ≤ szRp r 1048576 → rpSz r := fun h => (szRp_use h).1
  have h2 : 0 ≤ szRp r 1048576 → rqPre r := fun h => szRp_rq h
  simp -implicitDefEqProofs [vc_skip, extOf, vc_seq, vc_cond, vc_block, vc_exit, vc_ret, vc_region, vc_regionD, vc_loop, kSeq_normal, kSeq_ret, kSeq_exit, kBlock_normal, kBlock_ret, kBlock_exit, kLoop_normal, kLoop_ret, kLoop_exit, kCond_bool, kNorm_app, vcOps_nil, vcOps_cons, kOps_app, kStep_some, kStep_none, vcDL_nil, vcDL_cons, kOpsD_app, kStepD_true, kStepD_false, kStepC_some, kStepC_none, kMv_app, act3_store, act3_call, act3_bs, kAct_app, kSt2_app, stealSlots, stealL, stealOne, subIn, AV.stolen, act_store, act_bs, act_append, act_call, kSet_app, kSet2_app, kSetG_app, kSetG_app0, kStore_ptr, kStore_eptr, kCallW_some, kCallC_some, kCall_some, wk_T, wk_n, wk_keep, wk_inv, wk_act, wk_dr, wk_le, aCalm, wantC, dstOk, calm, aCallK, aCall3K, subOf, subRep, aCall2K, apnd, bsMove, putBox, putOwn, partAV, mvL, AV.mv, AV.base, AV.moved, kBld, bldK, wrK, stK, AV.selfOk, AV.src, TI.flat, apSize, pickAV, St.val, St.cond, St.fn, St.next, St.set, St.trim, wipe_eq, wipeE_app, wipeM_app, pickEnv, get?, cGet, upd_app, withPuts, killAll, rm, freshP, Oper.hnd, Sc.st, ofConst, constOk, lenAV, elemLen, loadAV, ldL, ld1, fieldAddrAV, indexAddrAV, sliceAV, convAV, buildAV, fillAV, fieldAV, Out.of, binAV, AV.rows, AV.one, AV.cells, AV.deepOk, AV.toD, toDs, partRows, partRowsM, partsDeep, TK.zeroAV, TK.zeroD, byteOf, inR, Op.operands, Call.operands, passVs, passV, passL, pass1, passB, pasVs, pasV, pasL, pas1, ownsOk, okHs, okHs2, okFin, finOk2, rho, over, backRes, backAV, backAV1, backBlk, putBack, back2, back2_V, back2_1, m2, AV.wipe, AV.wipeV, AV.wipe1, Blk.wipe, AV.hs, AV.hs.hsL, alOps, Con.start2, Con.pk, bodyQ, fini, resAV, resA, firstId, Sc.from, renEnv, renT, renV, renVs, renL, ren1, renBox, renOwn, okRen, clOf, actB, setRow, flatRows, flatD, noInv, shr_nil, shr_some, kStepF_some, shareL, AV.viewed, AV.viewed1, cFnExactRepoPut, cSzRepo, cToRepo, cRepoPutS, cRepoPutI, cEqRepo, Con.fn, tTabS, tTab]
  try dsimp only
  exact ⟨r, 1048576, ⟨⟨rfl, rfl⟩, rfl⟩, by omega, fun h => ⟨h1 h, h2 h, h1 h, h2 h, h1 h⟩⟩

end Vx
end Go.Proofs.YthmhaggmcfemnaaDoor
