/-
  Joined by program (merge.py): Ki, Cu, Hc, Hd, Kj, Kk. It shows what the single texts show; conditions: none but those of each lemma.
-/
import Derived.Test.YthmhaggmcfemnaaGreatDoorWb
set_option linter.unusedVariables false
set_option linter.unusedSimpArgs false
set_option linter.unusedSectionVars false
/-
  Contracts: repositories read (RepoRead, the program's).
-/
namespace Go.Proofs.YthmhaggmcfemnaaGreatDoor
namespace Vx
open Go.RowKit
set_option maxRecDepth 8000

def riAt (ls0 : List Str) : Nat → RepoD × List Str
  | 0 => (⟨[], []⟩, ls0)
  | i + 1 => match (riAt ls0 i).2 with
    | [] => riAt ls0 i
    | l :: ls => (riStep numS (riAt ls0 i).1 l ls).getD ((riAt ls0 i).1, [])
def riR (ls0 : List Str) : Option RepoD := riF numS ls0.length ⟨[], []⟩ ls0
def riOk (ls0 : List Str) (i : Nat) : Prop := riF numS (riAt ls0 i).2.length (riAt ls0 i).1 (riAt ls0 i).2 = riR ls0 ∧ (riAt ls0 i).1.commits.length + (riAt ls0 i).1.heads.length + (riAt ls0 i).2.length ≤ ls0.length ∧ (∀ l ∈ (riAt ls0 i).2, l.length ≤ 536870912) ∧ ∀ c ∈ (riAt ls0 i).1.commits, ∀ f ∈ c.tree, f.path.length ≤ 536870912
def riW (ls0 : List Str) (i : Nat) : List Str := spl 32 ((riAt ls0 i).2.headD []) []
def riT (ls0 : List Str) (i : Nat) : List Str := (riAt ls0 i).2.tail
theorem riW_pos (ls0 i) : 1 ≤ (riW ls0 i).length := by unfold riW; rw [spl_len]; omega
theorem rfI_mem {num} : ∀ {n : Nat} {t : List FileD} {ls : List Str}, ∀ l ∈ (rfI num n t ls).2, l ∈ ls := by
  intro n
  induction n with
  | zero => intro t ls l h; exact h
  | succ n ih =>
    intro t ls l h
    cases ls with
    | nil => exact h
    | cons x ls =>
      rw [rfI] at h
      split at h
      · split at h
        · exact List.mem_cons_of_mem _ (List.mem_of_mem_drop (ih l h))
        · exact h
      · exact h
def riNums (ls0 : List Str) (i : Nat) : List Int := ((riW ls0 i).drop 2).map fun q => (numS q).1
def riTree (ls0 : List Str) (i : Nat) : List FileD × List Str := rfI numS (riT ls0 i).length [] (riT ls0 i)
theorem ri_step {ls0 : List Str} {i : Nat} (hO : riOk ls0 i) (hne : (riAt ls0 i).2 ≠ []) :
    (((riW ls0 i).drop 2).all (fun q => (numS q).2) = false → riR ls0 = none) ∧
    (((riW ls0 i).drop 2).all (fun q => (numS q).2) = true → (riW ls0 i).getD 0 [] = wCommit → 2 ≤ (riW ls0 i).length →
      riAt ls0 (i + 1) = (⟨(riAt ls0 i).1.commits ++ [⟨riNums ls0 i, (riW ls0 i).getD 1 [], (riTree ls0 i).1⟩], (riAt ls0 i).1.heads⟩, (riTree ls0 i).2) ∧ riOk ls0 (i + 1) ∧ (riAt ls0 (i + 1)).2.length < (riAt ls0 i).2.length) ∧
    (((riW ls0 i).drop 2).all (fun q => (numS q).2) = true → ¬ ((riW ls0 i).getD 0 [] = wCommit ∧ 2 ≤ (riW ls0 i).length) → (riW ls0 i).getD 0 [] = wBranch → (riW ls0 i).length = 3 →
      riAt ls0 (i + 1) = (⟨(riAt ls0 i).1.commits, (riAt ls0 i).1.heads ++ [⟨(riW ls0 i).getD 1 [], (numS ((riW ls0 i).getD 2 [])).1⟩]⟩, riT ls0 i) ∧ riOk ls0 (i + 1) ∧ (riAt ls0 (i + 1)).2.length < (riAt ls0 i).2.length) ∧
    (((riW ls0 i).drop 2).all (fun q => (numS q).2) = true → ¬ ((riW ls0 i).getD 0 [] = wCommit ∧ 2 ≤ (riW ls0 i).length) → ¬ ((riW ls0 i).getD 0 [] = wBranch ∧ (riW ls0 i).length = 3) → riR ls0 = none) := by
  obtain ⟨h1, h2, h3, h4⟩ := hO
  have hA : riAt ls0 (i + 1) = match (riAt ls0 i).2 with
    | [] => riAt ls0 i
    | l :: ls => (riStep numS (riAt ls0 i).1 l ls).getD ((riAt ls0 i).1, []) := rfl
  unfold riW riT riTree riNums riW riT
  generalize riAt ls0 i = S at h1 h2 h3 h4 hne hA ⊢
  obtain ⟨r, L⟩ := S
  cases L with
  | nil => exact absurd rfl hne
  | cons l ls =>
    simp only [List.headD_cons, List.tail_cons, List.length_cons] at h1 h2 h4 hA ⊢
    rw [riF] at h1
    have hst : ∀ p, riStep numS r l ls = some p → riAt ls0 (i + 1) = p ∧ (riF numS p.2.length p.1 p.2 = riR ls0) := fun p hp => by
      rw [hp] at h1 hA
      have hle := riStep_le hp
      exact ⟨hA, by rw [← h1]; exact riF_fuel (Nat.le_refl _) hle⟩
    refine ⟨fun h => ?_, fun h a1 a2 => ?_, fun h a1 a2 a3 => ?_, fun h a1 a2 => ?_⟩
    · have : riStep numS r l ls = none := by unfold riStep; rw [if_neg (by rw [h]; simp)]
      rw [this] at h1; exact h1.symm
    · have hs : riStep numS r l ls = some (⟨r.commits ++ [⟨((spl 32 l []).drop 2).map fun q => (numS q).1, (spl 32 l []).getD 1 [], (rfI numS ls.length [] ls).1⟩], r.heads⟩, (rfI numS ls.length [] ls).2) := by
        unfold riStep; rw [if_pos h, if_pos ⟨a1, a2⟩]
      obtain ⟨q1, q2⟩ := hst _ hs
      have hle := riStep_le hs
      refine ⟨q1, ⟨by rw [q1]; exact q2, ?_, ?_, ?_⟩, ?_⟩
      · rw [q1]; simp at hle ⊢; omega
      · rw [q1]; intro x hx; exact h3 x (List.mem_cons_of_mem _ (rfI_mem x hx))
      · rw [q1]
        intro c hc f hf
        rcases List.mem_append.1 hc with hc | hc
        · exact h4 c hc f hf
        · rw [List.mem_singleton] at hc
          subst hc
          exact rfI_path (N := 536870912) (fun x hx => h3 x (List.mem_cons_of_mem _ hx)) (by simp) f hf
      · rw [q1]; simp at hle ⊢; omega
    · have hs : riStep numS r l ls = some (⟨r.commits, r.heads ++ [⟨(spl 32 l []).getD 1 [], (numS ((spl 32 l []).getD 2 [])).1⟩]⟩, ls) := by
        unfold riStep; rw [if_pos h, if_neg a1, if_pos ⟨a2, a3⟩]
      obtain ⟨q1, q2⟩ := hst _ hs
      refine ⟨q1, ⟨by rw [q1]; exact q2, ?_, ?_, ?_⟩, ?_⟩
      · rw [q1]; simp; omega
      · rw [q1]; intro x hx; exact h3 x (List.mem_cons_of_mem _ hx)
      · rw [q1]; exact h4
      · rw [q1]; simp
    · have : riStep numS r l ls = none := by unfold riStep; rw [if_pos h, if_neg a1, if_neg a2]
      rw [this] at h1; exact h1.symm

def riL (s : Str) : List Str := (linesI s).1
abbrev riBox (r : RepoD) : List (Nat × Blk) := [(10, bNil), (11, .box 26 [.own 13 3 (eCommits r.commits), .own 14 2 (eHeads r.heads)]), (13, .own 38 3 true (eCommits r.commits)), (14, .own 47 2 true (eHeads r.heads))]
def ruO (s : Str) : Inv := ⟨Nat, fun i => ⟨[(0, true, .str s), (2, true, .ptr 10 0), (3, true, .bool false), (4, true, .sl false 1 (eStrs (riAt (riL s) i).2)), (6, true, .ptr 11 0)], riBox (riAt (riL s) i).1⟩, fun i => riOk (riL s) i, fun i => (riAt (riL s) i).2.length⟩
def ruI (s : Str) (g : Nat) : Inv := ⟨Nat, fun j => ⟨[(0, true, .str s), (2, true, .ptr 10 0), (3, true, .bool false), (4, true, .sl false 1 (eStrs (riT (riL s) g))), (6, true, .ptr 11 0), (7, true, .sl false 1 (eStrs (riW (riL s) g))), (8, true, .own 15 1 (eInts ((riNums (riL s) g).take j))), (35, true, .sl false 1 (eStrs ((riW (riL s) g).drop 2))), (36, true, .int .i64 ((riW (riL s) g).drop 2).length), (37, true, .int .i64 j)], riBox (riAt (riL s) g).1 ++ [(15, .own 3 1 true (eInts ((riNums (riL s) g).take j)))]⟩,
  fun j => riOk (riL s) g ∧ (riAt (riL s) g).2 ≠ [] ∧ j ≤ ((riW (riL s) g).drop 2).length ∧ (((riW (riL s) g).drop 2).take j).all (fun q => (numS q).2) = true, fun j => ((riW (riL s) g).drop 2).length - j⟩
def ruInv (s : Str) (n g : Nat) : Inv := if n = 5 then ruO s else ruI s g
theorem ruInv_5 (s g) : ruInv s 5 g = ruO s := rfl
theorem ruInv_10 (s g) : ruInv s 10 g = ruI s g := rfl
def cRepoReadI : Con := { (Con.fn 115 Str (fun s => [.str s]) (fun s => s.length ≤ 1048576) (fun s => .tup [.agg [.own 8 3 (eCommits (repoReadI numS repoI s).1.commits), .own 9 2 (eHeads (repoReadI numS repoI s).1.heads)], .bool (repoReadI numS repoI s).2]) (fun s => ownCommits 8 (repoReadI numS repoI s).1.commits ++ ownHeads 9 (repoReadI numS repoI s).1.heads)) with need := numNeed }
set_option maxHeartbeats 4000000 in
theorem repoReadI_has : Has Tryz.prog 33 cRepoReadI := by
  refine has_walk mixed tTab_ok (l := [(74, cLinesOf), (75, cSplit), (76, cNumber), (77, cReadFiles), (14, cRepoOk), (78, cRepoPutT)]) (HasL.cons linesOf_has (HasL.cons split_has (HasL.cons number_has (HasL.cons readFiles_has (HasL.cons repoOk_has (HasL.cons repoPutT_has HasL.nil)))))) [0, 2, 3, 4, 5, 6, 7, 8, 10, 11, 12, 13, 35, 36, 37] (fun s => ruInv s) [] Tryz.func33 (by kernel_rfl) (code := _) (by unfold Tryz.f33; rfl) (by kernel_rfl) (by decide) (fun _ => ⟨(), trivial⟩) (by intro h; first | exact fun _ => rfl | cases h) (by kernel_rfl) ?_
  intro (s : Str) (hs : s.length ≤ 1048576)
  simp (maxSteps := 4000000) -implicitDefEqProofs [vc_skip, extOf, vc_seq, vc_cond, vc_block, vc_exit, vc_ret, vc_region, vc_regionD, vc_loop, kSeq_normal, kSeq_ret, kSeq_exit, kBlock_normal, kBlock_ret, kBlock_exit, kLoop_normal, kLoop_ret, kLoop_exit, kCond_bool, kNorm_app, vcOps_nil, vcOps_cons, kOps_app, kStep_some, kStep_none, vcDL_nil, vcDL_cons, kOpsD_app, kStepD_true, kStepD_tt, kStepD_false, ldB, btys, btyAct, kStepC_some, kStepC_none, kMv_app, act3_store, act3_call, act3_bs, kAct_app, kSt2_app, stealSlots, stealL, stealOne, subIn, AV.stolen, act_store, act_bs, act_append, act_call, kSet_app, kSet2_app, kSetG_app, kSetG_app0, kStore_ptr, kStore_eptr, kCallW_some, kCallC_some, kCall_some, wk_T, wk_n, wk_keep, wk_inv, wk_act, wk_dr, wk_le, aCalm, wantC, dstOk, calm, aCallK, aCall3K, subOf, subRep, aCall2K, apnd, bsMove, putBox, putOwn, partAV, mvL, AV.mv, AV.base, AV.moved, kBld, bldK, wrK, stK, AV.selfOk, AV.src, TI.flat, apSize, pickAV, St.val, St.cond, St.fn, St.next, St.set, St.trim, wipe_eq, wipeE_app, wipeM_app, pickEnv, get?, cGet, upd_app, withPuts, killAll, rm, freshP, Oper.hnd, Sc.st, ofConst, constOk, lenAV, elemLen, loadAV, ldL, ld1, fieldAddrAV, indexAddrAV, sliceAV, convAV, buildAV, fillAV, fieldAV, Out.of, binAV, AV.rows, AV.one, AV.cells, AV.deepOk, AV.toD, toDs, partRows, partRowsM, partsDeep, TK.zeroAV, TK.zeroD, byteOf, inR, Op.operands, Call.operands, passVs, passV, passL, pass1, passB, pasVs, pasV, pasL, pas1, ownsOk, okHs, okHs2, okFin, finOk2, rho, over, backRes, backAV, backAV1, backBlk, putBack, back2, back2_V, back2_1, m2, AV.wipe, AV.wipeV, AV.wipe1, Blk.wipe, AV.hs, AV.hs.hsL, alOps, Con.start2, Con.pk, bodyQ, fini, resAV, resA, firstId, Sc.from, renEnv, renT, renV, renVs, renL, ren1, renBox, renOwn, okRen, clOf, actB, setRow, flatRows, flatD, noInv, shr_nil, shr_some, kStepF_some, shareL, AV.viewed, AV.viewed1, cRepoReadI, cLinesOf, cSplit, cNumber, cReadFiles, cRepoOk, cRepoPutT, Con.fn, tTab, ruInv_5, ruInv_10, ruO, ruI]
  try dsimp only
  obtain ⟨lb1, lb2⟩ := linesI_bd s
  have hI0 : (linesI s).2 = false → repoReadI numS repoI s = (⟨[], []⟩, false) := fun h => by unfold repoReadI; rw [if_neg (by rw [h]; simp)]
  have hI1 : (linesI s).2 = true → riR (riL s) = none → repoReadI numS repoI s = (⟨[], []⟩, false) := fun h h2 => by
    have h3 : riF numS (linesI s).1.length ⟨[], []⟩ (linesI s).1 = none := h2
    unfold repoReadI; rw [if_pos h, h3]
  have hI2 : (linesI s).2 = true → ∀ r, riR (riL s) = some r → repoReadI numS repoI s = if repoI r = true ∧ repoT r = s then (r, true) else (⟨[], []⟩, false) := fun h r h2 => by
    have h3 : riF numS (linesI s).1.length ⟨[], []⟩ (linesI s).1 = some r := h2
    unfold repoReadI; rw [if_pos h, h3]
  refine ⟨by omega, fun hok => ⟨⟨0, ⟨rfl, rfl, rfl⟩, ⟨rfl, by simp -implicitDefEqProofs [riAt], fun l hl => by have := lb2 l hl; omega, by simp -implicitDefEqProofs [riAt]⟩⟩, fun t hO _ => ⟨fun hpos => ⟨hpos, fun _ => ?_⟩, fun hnil => ?_⟩⟩, fun hok => ?_⟩
  · have hno := hI1 hok
    clear hI0 hI1 hI2
    have hLb : (riL s).length ≤ 1048576 := by show (linesI s).1.length ≤ _; omega
    have hne : (riAt (riL s) t).2 ≠ [] := List.length_pos_iff.1 hpos
    obtain ⟨l, ls, hL⟩ : ∃ l ls, (riAt (riL s) t).2 = l :: ls := by cases hq : (riAt (riL s) t).2 with | nil => exact absurd hq hne | cons l ls => exact ⟨l, ls, rfl⟩
    obtain ⟨st1, st2, st3, st4⟩ := ri_step hO hne
    have hW : riW (riL s) t = spl 32 l [] := by unfold riW; rw [hL]; rfl
    have hT : riT (riL s) t = ls := by unfold riT; rw [hL]; rfl
    have hll : l.length ≤ 1073741824 := by have := hO.2.2.1 l (by rw [hL]; simp); omega
    have hlb := hO.2.1
    have hp := riW_pos (riL s) t
    have hwl : ∀ q ∈ riW (riL s) t, q.length ≤ 1073741824 := fun q hq => by rw [hW] at hq; have := spl_le (c := 32) (s := l) (p := []) q hq; simp at this; omega
    have hwb : (riW (riL s) t).length ≤ 1073741825 := by rw [hW, spl_len]; have : l.count 32 ≤ l.length := List.count_le_length; omega
    have hnl : (riNums (riL s) t).length = (riW (riL s) t).length - 2 := by simp -implicitDefEqProofs [riNums]
    have hls : ∀ x ∈ ls, x.length ≤ 1073741824 := fun x hx => by have := hO.2.2.1 x (by rw [hL]; simp -implicitDefEqProofs [hx]); omega
    have hlsb : ls.length ≤ 1048576 := by rw [hL] at hlb; simp at hlb; omega
    rw [hL]
    refine ⟨⟨by simp -implicitDefEqProofs [eStr], by simp -implicitDefEqProofs [eStr]⟩, fun _ _ => ⟨l, 32, ⟨by simp -implicitDefEqProofs [eStr], rfl⟩, hll, by simp; omega, fun _ _ => ?_⟩⟩
    rw [← hW]
    have hm1 : ∃ m : Int, m = (if ((riW (riL s) t).length : Int) < 2 then ((riW (riL s) t).length : Int) else 2) ∧ 0 ≤ m ∧ m ≤ (riW (riL s) t).length ∧ (m = 2 ∨ ((riW (riL s) t).length < 2 ∧ m = (riW (riL s) t).length)) := by
      refine ⟨_, rfl, ?_⟩
      split <;> omega
    obtain ⟨m, hm, hm2, hm3, hm4⟩ := hm1
    rw [← hm]
    have hdr : (riW (riL s) t).drop m.toNat = (riW (riL s) t).drop 2 := by
      rcases hm4 with h | ⟨h1, h2⟩
      · rw [h]; rfl
      · rw [List.drop_eq_nil_of_le (by omega), List.drop_eq_nil_of_le (by omega)]
    refine ⟨⟨hm2, hm3⟩, fun _ _ _ => ⟨t, ⟨0, ⟨⟨?_, rfl, .inl rfl, ?_, by omega, rfl⟩, ⟨rfl, rfl⟩, rfl, rfl, .inl rfl⟩, hO, hne, Nat.zero_le _, by simp⟩, fun j _ _ hj hall => ⟨fun hj2 => ⟨hj2, fun _ => ?_⟩, fun hj2 => ?_⟩⟩⟩
    · rw [hT]; simp -implicitDefEqProofs [eStrs]; rw [List.take_of_length_le (by simp)]
    · rw [← hdr]
      simp only [eStrs, List.map_drop]
      rw [List.take_of_length_le (by simp)]
    · have hj3 : 2 + j < (riW (riL s) t).length := by omega
      have e5 : Option.map eStr (riW (riL s) t)[2 + j]? = some (eStr (riW (riL s) t)[2 + j]) := by rw [List.getElem?_eq_getElem hj3]; rfl
      have hq := hwl _ (List.getElem_mem hj3)
      have hdj : ((riW (riL s) t).drop 2)[j]'(by simp; omega) = (riW (riL s) t)[2 + j] := by rw [List.getElem_drop]
      have e6 : ((riW (riL s) t).drop 2).take (j + 1) = ((riW (riL s) t).drop 2).take j ++ [(riW (riL s) t)[2 + j]] := by rw [take_succ' (by simp; omega), hdj]
      have e7 : (riNums (riL s) t).take (j + 1) = (riNums (riL s) t).take j ++ [(numS (riW (riL s) t)[2 + j]).1] := by
        rw [take_succ' (by rw [hnl]; omega)]
        congr 2
        simp only [riNums, List.getElem_map, hdj]
      rw [e5]
      refine ⟨⟨by simp -implicitDefEqProofs [eStr], by simp -implicitDefEqProofs [eStr]⟩, fun _ _ => ⟨by simpa [eStr] using hq, fun hk => ?_, fun hk => ?_⟩⟩
      · refine ⟨by omega, by omega, fun _ _ => ⟨j + 1, ⟨⟨?_, by omega⟩, ?_⟩, ⟨hO, hne, by omega, fun x hx => ?_⟩, by omega⟩⟩
        · rw [e7]; simp -implicitDefEqProofs [eInts, eInt, eStr]
        · rw [e7]; simp -implicitDefEqProofs [eInts, eInt, eStr]
        · rw [e6] at hx
          rcases List.mem_append.1 hx with hx | hx
          · exact hall x hx
          · rw [List.mem_singleton] at hx
            subst hx
            simpa [eStr] using hk
      · have hF : riR (riL s) = none := st1 (by
          rw [List.all_eq_false]
          exact ⟨(riW (riL s) t)[2 + j], by rw [← hdj]; exact List.getElem_mem _, by simpa [eStr] using hk⟩)
        rw [hno hF]; exact ⟨⟨⟨rfl, rfl⟩, rfl⟩, rfl, rfl⟩
    · have hj3 : j = ((riW (riL s) t).drop 2).length := by simp; omega
      have hA : ((riW (riL s) t).drop 2).all (fun q => (numS q).2) = true := by
        rw [List.all_eq_true]
        intro x hx
        exact hall x (by rw [hj3, List.take_length]; exact hx)
      have hN : (riNums (riL s) t).take j = riNums (riL s) t := List.take_of_length_le (by rw [hnl, hj3]; simp)
      rw [hN]
      replace st2 := st2 hA
      replace st3 := st3 hA
      replace st4 := st4 hA
      have hjn : j = (riNums (riL s) t).length := by rw [hnl, hj3]; simp
      clear st1 hall hj3 hN hdr hm hm2 hm3 hm4
      rw [hT]
      have gN : (riW (riL s) t).length = 3 → (riNums (riL s) t)[0]? = some (numS ((riW (riL s) t).getD 2 [])).1 := fun h3 => by
        simp -implicitDefEqProofs [riNums, List.getElem?_drop, List.getD_eq_getElem?_getD, List.getElem?_eq_getElem (show 2 < (riW (riL s) t).length by omega)]
      have hTr : riTree (riL s) t = rfI numS ls.length [] ls := by unfold riTree; rw [hT]
      rw [hTr] at st2
      rw [hT] at st3
      have hLl : (riAt (riL s) t).2.length = (l :: ls).length := by rw [hL]
      rw [hLl] at st2 st3
      generalize riW (riL s) t = W at hp hwl hwb hnl st2 st3 st4 gN ⊢
      have g0 : Option.map eStr W[0]? = some (eStr (W.getD 0 [])) := by simp -implicitDefEqProofs [List.getD_eq_getElem?_getD, List.getElem?_eq_getElem (show 0 < W.length by omega)]
      have g1 : 2 ≤ W.length → Option.map eStr W[1]? = some (eStr (W.getD 1 [])) := fun h => by simp -implicitDefEqProofs [List.getD_eq_getElem?_getD, List.getElem?_eq_getElem (show 1 < W.length by omega)]
      rw [g0]
      have hno : ¬ (W.getD 0 [] = wCommit ∧ 2 ≤ W.length) → ¬ (W.getD 0 [] = wBranch ∧ W.length = 3) → (((repoReadI numS repoI s).1.commits = [] ∧ (repoReadI numS repoI s).1.heads = []) ∧ (repoReadI numS repoI s).2 = false) ∧ (repoReadI numS repoI s).1.commits = [] ∧ (repoReadI numS repoI s).1.heads = [] := fun q1 q2 => by
        rw [hno (st4 q1 q2)]; exact ⟨⟨⟨rfl, rfl⟩, rfl⟩, rfl, rfl⟩
      refine ⟨by omega, fun _ => ⟨⟨by simp -implicitDefEqProofs [eStr], by simp -implicitDefEqProofs [eStr]⟩, fun _ _ => ⟨fun hc _ => ⟨fun h2 => ?_, fun h2 => ⟨by omega, fun _ => ⟨⟨by simp -implicitDefEqProofs [eStr], by simp -implicitDefEqProofs [eStr]⟩, fun _ _ => ⟨fun hb => ?_, fun hb => hno (fun q => by omega) (fun q => hb q.1)⟩⟩⟩⟩, fun hc => ⟨by omega, fun _ => ⟨⟨by simp -implicitDefEqProofs [eStr], by simp -implicitDefEqProofs [eStr]⟩, fun _ _ => ⟨fun hb _ => ⟨fun h3 => ?_, fun h3 => hno (fun q => hc q.1) (fun q => h3 (by omega))⟩, fun hb => hno (fun q => hc q.1) (fun q => hb q.1)⟩⟩⟩⟩⟩⟩
      · rw [g1 (by omega)]
        obtain ⟨e1, e2, e3⟩ := st2 hc (by omega)
        refine ⟨by omega, fun _ => ⟨⟨by simp -implicitDefEqProofs [eStr], by simp -implicitDefEqProofs [eStr]⟩, fun _ _ => ⟨⟨hlsb, hls⟩, ⟨by omega, by omega⟩, t + 1, ⟨?_, ⟨?_, ?_⟩, ?_, ?_⟩, e2, e3⟩⟩⟩
        · rw [e1]
        · rw [e1]; simp -implicitDefEqProofs [eCommits, eCommit, eStr]
        · rw [e1]
        · rw [e1]; simp -implicitDefEqProofs [eCommits, eCommit, eStr]
        · rw [e1]
      · have h9 : wCommit = wBranch := hc.symm.trans hb
        exact absurd h9 (by decide)
      · have h3' : W.length = 3 := by omega
        rw [g1 (by omega), gN h3']
        obtain ⟨e1, e2, e3⟩ := st3 (fun q => hc q.1) hb h3'
        refine ⟨by omega, fun _ => ⟨⟨by simp -implicitDefEqProofs [eStr], by simp -implicitDefEqProofs [eStr]⟩, fun _ _ => ⟨by omega, fun _ => ⟨⟨by simp -implicitDefEqProofs [eInt], by simp -implicitDefEqProofs [eInt]⟩, fun _ _ => ⟨⟨by omega, by omega⟩, t + 1, ⟨?_, ⟨?_, ?_⟩, ?_, ?_⟩, e2, e3⟩⟩⟩⟩⟩
        · rw [e1]
        · rw [e1]
        · rw [e1]; simp -implicitDefEqProofs [eHeads, eHead, eStr, eInt]
        · rw [e1]
        · rw [e1]; simp -implicitDefEqProofs [eHeads, eHead, eStr, eInt]
  · have hF : riR (riL s) = some (riAt (riL s) t).1 := by rw [← hO.1, hnil]; rfl
    have e1 := hI2 hok _ hF
    have hb := hO.2.1
    have hlb : (riL s).length ≤ 1048576 := by show (linesI s).1.length ≤ _; omega
    have hr : rpPre (riAt (riL s) t).1 := ⟨by omega, hO.2.2.2⟩
    generalize (riAt (riL s) t).1 = R at e1 hr ⊢
    have no : ¬ (repoI R = true ∧ repoT R = s) → repoReadI numS repoI s = (⟨[], []⟩, false) := fun h => by rw [e1, if_neg h]
    have yes : (repoI R = true ∧ repoT R = s) → repoReadI numS repoI s = (R, true) := fun h => by rw [e1, if_pos h]
    refine ⟨hr, fun h2 => ?_, fun h2 => ⟨okR_I h2, fun h3 => ?_, fun h3 => ?_⟩⟩
    · rw [no fun q => by rw [q.1] at h2; cases h2]; exact ⟨⟨⟨rfl, rfl⟩, rfl⟩, rfl, rfl⟩
    · rw [no fun q => h3 q.2]; exact ⟨⟨⟨rfl, rfl⟩, rfl⟩, rfl, rfl⟩
    · rw [yes ⟨h2, h3⟩]; exact ⟨⟨⟨rfl, rfl⟩, rfl⟩, rfl, rfl⟩
  · rw [hI0 hok]; exact ⟨⟨⟨rfl, rfl⟩, rfl⟩, rfl, rfl⟩

end Vx
end Go.Proofs.YthmhaggmcfemnaaGreatDoor
/-
  Contracts: ViewOf (the reference's), marks looked for in trees; the law FnExactViewOf.
-/
namespace Go.Proofs.YthmhaggmcfemnaaGreatDoor
namespace Vx
open Go.RowKit
set_option maxRecDepth 8000

def viewOfS (t : List FileD) (l : List Str) : List FileD := if treeS t && viewS l then filB (fun f => in25 l f.path) t else []
theorem kE_marks (t : List FileD) (k j : Int) : kE (markFs t k) j = kE t j := by
  have : nLines (markFs t k) = nLines t := by
    unfold nLines markFs
    rw [List.map_map]
    have : ((fun f : FileD => f.text.length) ∘ fun i : Nat => (⟨markS (kE (t.take i) k), markL (t.getD i default).text.length (kE (t.take i) k + 1)⟩ : FileD)) = fun i => (t.getD i default).text.length := by
      funext i; simp [markL_len]
    rw [this]
    congr 1
    apply List.ext_getElem (by simp)
    intro i h1 h2
    simp at h1
    simp [h1]
  unfold kE
  rw [this, markFs_len]
theorem markFs_take (t : List FileD) (k : Int) (i : Nat) (h : i ≤ t.length) : markFs (t.take i) k = (markFs t k).take i := by
  unfold markFs
  rw [← List.map_take, List.take_range, List.length_take, Nat.min_comm]
  rw [Nat.min_comm]
  apply List.map_congr_left
  intro j hj
  have hj : j < i := by simp at hj; omega
  rw [List.take_take, Nat.min_eq_left (by omega)]
  simp [List.getElem?_take, hj]
theorem markFs_same (t : List FileD) (k : Int) : markFs (markFs t k) k = markFs t k := by
  show (List.range (markFs t k).length).map _ = (List.range t.length).map _
  rw [markFs_len]
  apply List.map_congr_left
  intro i hi
  have hi : i < t.length := by simpa using hi
  rw [← markFs_take t k i (by omega), kE_marks]
  have : ((markFs t k).getD i default).text.length = (t.getD i default).text.length := by simp [markFs, hi, markL_len]
  rw [this]

def heldFs (t : List FileD) (k : Int) : Int := if t = markFs t k then kE t k else -1
theorem heldFs_mark (t : List FileD) (k : Int) : heldFs (markFs t k) k = kE t k := by
  unfold heldFs
  rw [markFs_same, if_pos rfl, kE_marks]
def cHeldFileS : Con := .fn 32 (List FileD × Int) (fun a => [.sl true 2 (eFiles a.1), .int .i64 a.2]) (fun a => 0 ≤ a.2 ∧ kE a.1 a.2 ≤ 1152921504606846976) (fun a => .int .i64 (heldFs a.1 a.2)) (fun _ => [])
theorem heldF_get {t : List FileD} {k : Int} {i : Nat} (h : i < t.length) : (markFs t k)[i]'(by rw [markFs_len]; exact h) = ⟨markS (kE (t.take i) k), markL t[i].text.length (kE (t.take i) k + 1)⟩ := by simp [markFs, h]
theorem heldF_miss {t : List FileD} {k : Int} {i : Nat} (h : i < t.length) (h2 : t[i].path ≠ markS (kE (t.take i) k) ∨ t[i].text ≠ markL t[i].text.length (kE (t.take i) k + 1)) : heldFs t k = -1 := by
  unfold heldFs
  rw [if_neg]
  intro h3
  have : t[i]? = (markFs t k)[i]? := by rw [← h3]
  rw [List.getElem?_eq_getElem h, List.getElem?_eq_getElem (by rw [markFs_len]; exact h), heldF_get h] at this
  have := Option.some.inj this
  rcases h2 with h2 | h2
  · exact h2 (congrArg FileD.path this)
  · exact h2 (congrArg FileD.text this)
theorem heldF_step {t : List FileD} {k : Int} {i : Nat} (h : i < t.length) (h1 : t.take i = (markFs t k).take i) (h2 : t[i].path = markS (kE (t.take i) k)) (h3 : t[i].text = markL t[i].text.length (kE (t.take i) k + 1)) : t.take (i + 1) = (markFs t k).take (i + 1) := by
  rw [take_succ' h, take_succ' (by rw [markFs_len]; exact h), heldF_get h, ← h1, ← h2, ← h3]
theorem heldF_end {t : List FileD} {k : Int} {i : Nat} (h : t.length ≤ i) (h1 : t.take i = (markFs t k).take i) : heldFs t k = kE (t.take i) k := by
  rw [List.take_of_length_le h, List.take_of_length_le (by rw [markFs_len]; exact h)] at h1
  unfold heldFs
  rw [if_pos h1, List.take_of_length_le h]
set_option maxHeartbeats 4000000 in
theorem heldFileS_has : Has Tryz.prog 117 cHeldFileS := by
  refine has_walk mixed tTab_ok (l := [(114, cMarkText), (141, cHeldStringS)]) (HasL.cons markText_has (HasL.cons heldStringS_has HasL.nil)) [0, 1, 4, 5] ((fun a n (_ : Nat) => (fun a _ => ⟨Nat, fun i => ⟨[(0, true, .sl true 2 (eFiles a.1)), (1, true, .int .i64 (kE (a.1.take i) a.2)), (4, true, .int .i64 0), (5, true, .int .i64 i)], []⟩, fun i => i ≤ a.1.length ∧ a.1.take i = (markFs a.1 a.2).take i, fun i => a.1.length - i⟩) a n)) [] Tryz.func117 (by kernel_rfl) (code := _) (by unfold Tryz.f117; rfl) (by kernel_rfl) (by decide) (fun _ => ⟨(), trivial⟩) (by intro h; first | exact fun _ => rfl | cases h) (by kernel_rfl) ?_
  intro a ha
  obtain ⟨t, k⟩ := a
  obtain ⟨q1, q2⟩ : 0 ≤ k ∧ kE t k ≤ 1152921504606846976 := ha
  have e1 := fun i => @heldF_miss t k i
  have e2 := fun i => @heldF_step t k i
  have e3 := fun i => @heldF_end t k i
  have e6 := fun i => @kE_step t k i
  have e7 := fun i => @kE_le t k i
  have e8 := kE_zero k
  simp -implicitDefEqProofs [vc_skip, extOf, vc_seq, vc_cond, vc_block, vc_exit, vc_ret, vc_region, vc_regionD, vc_loop, kSeq_normal, kSeq_ret, kSeq_exit, kBlock_normal, kBlock_ret, kBlock_exit, kLoop_normal, kLoop_ret, kLoop_exit, kCond_bool, kNorm_app, vcOps_nil, vcOps_cons, kOps_app, kStep_some, kStep_none, vcDL_nil, vcDL_cons, kOpsD_app, kStepD_true, kStepD_tt, kStepD_false, ldB, btys, btyAct, kStepC_some, kStepC_none, kMv_app, act3_store, act3_call, act3_bs, kAct_app, kSt2_app, stealSlots, stealL, stealOne, subIn, AV.stolen, act_store, act_bs, act_append, act_call, kSet_app, kSet2_app, kSetG_app, kSetG_app0, kStore_ptr, kStore_eptr, kCallW_some, kCallC_some, kCall_some, wk_T, wk_n, wk_keep, wk_inv, wk_act, wk_dr, wk_le, aCalm, wantC, dstOk, calm, aCallK, aCall3K, subOf, subRep, aCall2K, apnd, bsMove, putBox, putOwn, partAV, mvL, AV.mv, AV.base, AV.moved, kBld, bldK, wrK, stK, AV.selfOk, AV.src, TI.flat, apSize, pickAV, St.val, St.cond, St.fn, St.next, St.set, St.trim, wipe_eq, wipeE_app, wipeM_app, pickEnv, get?, cGet, upd_app, withPuts, killAll, rm, freshP, Oper.hnd, Sc.st, ofConst, constOk, lenAV, elemLen, loadAV, ldL, ld1, fieldAddrAV, indexAddrAV, sliceAV, convAV, buildAV, fillAV, fieldAV, Out.of, binAV, AV.rows, AV.one, AV.cells, AV.deepOk, AV.toD, toDs, partRows, partRowsM, partsDeep, TK.zeroAV, TK.zeroD, byteOf, inR, Op.operands, Call.operands, passVs, passV, passL, pass1, passB, pasVs, pasV, pasL, pas1, ownsOk, okHs, okHs2, okFin, finOk2, rho, over, backRes, backAV, backAV1, backBlk, putBack, back2, back2_V, back2_1, m2, AV.wipe, AV.wipeV, AV.wipe1, Blk.wipe, AV.hs, AV.hs.hsL, alOps, Con.start2, Con.pk, bodyQ, fini, resAV, resA, firstId, Sc.from, renEnv, renT, renV, renVs, renL, ren1, renBox, renOwn, okRen, clOf, actB, setRow, flatRows, flatD, noInv, shr_nil, shr_some, kStepF_some, shareL, AV.viewed, AV.viewed1, cHeldFileS, Con.fn, tTab, cMarkText, cHeldStringS, e8]
  try dsimp only
  refine ⟨⟨0, by simp [e8]⟩, fun i hi hpre _ => ⟨fun hlt => ?_, fun hge => e3 i hge hpre⟩⟩
  have g := e6 i hlt
  have g1 := e7 i
  have g2 := e7 (i + 1)
  simp [hlt, eFile, D.asStr, D.asRows, and_assoc]
  have hl : ∀ l kk, heldL l kk = if l = markL l.length kk then kk + l.length else -1 := fun _ _ => rfl
  have m1 := e1 i hlt
  have m2 := e2 i hlt hpre
  by_cases ht : t[i].text = markL t[i].text.length (kE (t.take i) k + 1)
  · have hh : heldL t[i].text (kE (t.take i) k + 1) = kE (t.take (i + 1)) k := by rw [hl, if_pos ht, g]
    rw [hh]
    exact ⟨by omega, fun hn => m1 (.inl hn), fun hp => ⟨by omega, by omega, fun _ _ => ⟨by omega, by omega, fun hn => by omega, fun _ => ⟨by omega, by omega, fun _ _ => ⟨i + 1, rfl, by omega, by omega, m2 hp ht, by omega⟩⟩⟩⟩⟩
  · have hh : heldL t[i].text (kE (t.take i) k + 1) = -1 := by rw [hl, if_neg ht]
    rw [hh]
    exact ⟨by omega, fun hn => m1 (.inl hn), fun hp => ⟨by omega, by omega, fun _ _ => ⟨by omega, by omega, fun _ => m1 (.inr ht), fun hn => by omega⟩⟩⟩

theorem view_of_eq (t : List FileD) (l : List Str) : viewOfI t l = viewOfS t l := by
  unfold viewOfI viewOfS
  rw [tree_eq, view_eq]
  simp only [vis_in]
theorem viewOfS_bd (t : List FileD) (l : List Str) : (viewOfS t l).length ≤ 8 ∧ ∀ f ∈ viewOfS t l, f.text.length ≤ 64 := by
  unfold viewOfS
  split
  · rename_i h
    simp only [Bool.and_eq_true] at h
    have h1 := treeS_le t h.1
    refine ⟨Nat.le_trans (List.length_filter_le _ _) h1.1, fun f hf => h1.2 f (List.mem_filter.1 hf).1⟩
  · simp
theorem kE_bd {t : List FileD} {A B : Nat} (h1 : t.length ≤ A) (h2 : ∀ f ∈ t, f.text.length ≤ B) (k : Int) : k ≤ kE t k ∧ kE t k ≤ k + A + B * A := by
  have h3 := nLines_bd t h2
  have h4 : B * t.length ≤ B * A := Nat.mul_le_mul_left _ h1
  unfold kE
  refine ⟨by omega, ?_⟩
  have : (nLines t : Int) ≤ ((B * A : Nat) : Int) := by omega
  rw [Int.natCast_mul] at this
  omega

end Vx
end Go.Proofs.YthmhaggmcfemnaaGreatDoor
/-
  Contracts: marks set in numbers, commits, branches, repositories.
-/
namespace Go.Proofs.YthmhaggmcfemnaaGreatDoor
namespace Vx
open Go.RowKit
set_option maxRecDepth 8000

def markI (n : Nat) (k : Int) : List Int := (List.range n).map fun i : Nat => k + (i : Int)
theorem markI_len (n : Nat) (k : Int) : (markI n k).length = n := by simp -implicitDefEqProofs [markI]
def mIArr (a : List Int) (k : Int) (i : Nat) : List Int := (markI a.length k).take i ++ a.drop i
theorem mIArr_len {a : List Int} {k : Int} {i : Nat} (h : i ≤ a.length) : (mIArr a k i).length = a.length := by simp -implicitDefEqProofs [mIArr, markI_len]; omega
theorem mIArr_zero (a : List Int) (k : Int) : mIArr a k 0 = a := by simp -implicitDefEqProofs [mIArr]
theorem mIArr_end {a : List Int} {k : Int} {i : Nat} (h : a.length ≤ i) : mIArr a k i = markI a.length k := by
  unfold mIArr
  rw [List.take_of_length_le (by rw [markI_len]; exact h), List.drop_eq_nil_of_le h, List.append_nil]
theorem mIArr_set {a : List Int} {k : Int} {i : Nat} (h : i < a.length) : (mIArr a k i).set i (k + i) = mIArr a k (i + 1) := by
  unfold mIArr
  have h1 : ((markI a.length k).take i).length = i := by rw [List.length_take, markI_len]; omega
  rw [List.set_append_right _ _ (by omega), h1, Nat.sub_self, List.drop_eq_getElem_cons h, List.set_cons_zero]
  rw [take_succ' (l := markI a.length k) (i := i) (by rw [markI_len]; exact h)]
  simp -implicitDefEqProofs [markI]
def cMarkIntS : Con := { A := List Int × Int, X := Unit, n := 19, args := fun a => [.own 0 1 (eInts a.1), .int .i64 a.2], boxes := fun _ => [], pre := fun a => 0 ≤ a.2 ∧ a.2 + a.1.length ≤ 4611686018427387904, post := fun _ _ => True, res := fun a _ => .int .i64 (a.2 + a.1.length), fin := fun a _ => [(0, .own 3 1 true (eInts (markI a.1.length a.2)))], owns := fun a => [(0, 3, 1, eInts a.1)], lends := [0], mv := true, sube := 3 }
set_option maxHeartbeats 4000000 in
theorem markIntS_has : Has Tryz.prog 113 cMarkIntS := by
  refine has_walk mixed tTab_ok (l := []) HasL.nil [0, 1, 4, 5] ((fun a n (_ : Nat) => (fun a _ => ⟨Nat, fun i => ⟨[(0, true, .own 0 1 (eInts (mIArr a.1 a.2 i))), (1, true, .int .i64 (a.2 + i)), (4, true, .int .i64 0), (5, true, .int .i64 i)], [(0, .own 3 1 true (eInts (mIArr a.1 a.2 i)))]⟩, fun i => i ≤ a.1.length, fun i => a.1.length - i⟩) a n)) [] Tryz.func113 (by kernel_rfl) (code := _) (by unfold Tryz.f113; rfl) (by kernel_rfl) (by decide) (fun _ => ⟨(), trivial⟩) (by intro h; first | exact fun _ => rfl | cases h) (by kernel_rfl) ?_
  intro a ha
  obtain ⟨l, k⟩ := a
  obtain ⟨q1, q2⟩ : 0 ≤ k ∧ k + l.length ≤ 4611686018427387904 := ha
  have e1 := fun i => @mIArr_len l k i
  have e2 := fun i => @mIArr_set l k i
  have e3 := mIArr_zero l k
  have e4 := fun i => @mIArr_end l k i
  simp -implicitDefEqProofs [vc_skip, extOf, vc_seq, vc_cond, vc_block, vc_exit, vc_ret, vc_region, vc_regionD, vc_loop, kSeq_normal, kSeq_ret, kSeq_exit, kBlock_normal, kBlock_ret, kBlock_exit, kLoop_normal, kLoop_ret, kLoop_exit, kCond_bool, kNorm_app, vcOps_nil, vcOps_cons, kOps_app, kStep_some, kStep_none, vcDL_nil, vcDL_cons, kOpsD_app, kStepD_true, kStepD_tt, kStepD_false, ldB, btys, btyAct, kStepC_some, kStepC_none, kMv_app, act3_store, act3_call, act3_bs, kAct_app, kSt2_app, stealSlots, stealL, stealOne, subIn, AV.stolen, act_store, act_bs, act_append, act_call, kSet_app, kSet2_app, kSetG_app, kSetG_app0, kStore_ptr, kStore_eptr, kCallW_some, kCallC_some, kCall_some, wk_T, wk_n, wk_keep, wk_inv, wk_act, wk_dr, wk_le, aCalm, wantC, dstOk, calm, aCallK, aCall3K, subOf, subRep, aCall2K, apnd, bsMove, putBox, putOwn, partAV, mvL, AV.mv, AV.base, AV.moved, kBld, bldK, wrK, stK, AV.selfOk, AV.src, TI.flat, apSize, pickAV, St.val, St.cond, St.fn, St.next, St.set, St.trim, wipe_eq, wipeE_app, wipeM_app, pickEnv, get?, cGet, upd_app, withPuts, killAll, rm, freshP, Oper.hnd, Sc.st, ofConst, constOk, lenAV, elemLen, loadAV, ldL, ld1, fieldAddrAV, indexAddrAV, sliceAV, convAV, buildAV, fillAV, fieldAV, Out.of, binAV, AV.rows, AV.one, AV.cells, AV.deepOk, AV.toD, toDs, partRows, partRowsM, partsDeep, TK.zeroAV, TK.zeroD, byteOf, inR, Op.operands, Call.operands, passVs, passV, passL, pass1, passB, pasVs, pasV, pasL, pas1, ownsOk, okHs, okHs2, okFin, finOk2, rho, over, backRes, backAV, backAV1, backBlk, putBack, back2, back2_V, back2_1, m2, AV.wipe, AV.wipeV, AV.wipe1, Blk.wipe, AV.hs, AV.hs.hsL, alOps, Con.start2, Con.pk, bodyQ, fini, resAV, resA, firstId, Sc.from, renEnv, renT, renV, renVs, renL, ren1, renBox, renOwn, okRen, clOf, actB, setRow, flatRows, flatD, noInv, shr_nil, shr_some, kStepF_some, shareL, AV.viewed, AV.viewed1, cMarkIntS, Con.fn, tTab]
  try dsimp only
  refine ⟨⟨0, ⟨⟨e3, by omega, rfl⟩, e3.symm⟩, Nat.zero_le _⟩, fun i hi _ => ⟨fun hlt => ⟨hlt, fun _ => ⟨hlt, ⟨by omega, by omega⟩, fun _ _ => ⟨⟨by omega, by omega⟩, fun _ _ => ?_⟩⟩⟩, fun hge => ?_⟩⟩
  · rw [e1 i hi] at hlt
    have h := e2 i hlt
    have hs : (eInts (mIArr l k i)).set i [D.int .i64 (k + i)] = eInts (mIArr l k (i + 1)) := by rw [eInts_set, h]
    exact ⟨i + 1, ⟨⟨hs.symm, by omega, by omega⟩, hs⟩, by omega, by omega⟩
  · rw [e1 i hi] at hge
    exact ⟨by omega, e4 i hge⟩

def heldI (a : List Int) (k : Int) : Int := if a = markI a.length k then k + a.length else -1
def cHeldIntS : Con := .fn 21 (List Int × Int) (fun a => [.sl true 1 (eInts a.1), .int .i64 a.2]) (fun a => 0 ≤ a.2 ∧ a.2 + a.1.length ≤ 4611686018427387904) (fun a => .int .i64 (heldI a.1 a.2)) (fun _ => [])
set_option maxHeartbeats 4000000 in
theorem heldIntS_has : Has Tryz.prog 116 cHeldIntS := by
  refine has_walk mixed tTab_ok (l := []) HasL.nil [0, 1, 4, 5] ((fun a n (_ : Nat) => (fun a _ => ⟨Nat, fun i => ⟨[(0, true, .sl true 1 (eInts a.1)), (1, true, .int .i64 (a.2 + i)), (4, true, .int .i64 0), (5, true, .int .i64 i)], []⟩, fun i => i ≤ a.1.length ∧ a.1.take i = (markI a.1.length a.2).take i, fun i => a.1.length - i⟩) a n)) [] Tryz.func116 (by kernel_rfl) (code := _) (by unfold Tryz.f116; rfl) (by kernel_rfl) (by decide) (fun _ => ⟨(), trivial⟩) (by intro h; first | exact fun _ => rfl | cases h) (by kernel_rfl) ?_
  intro a ha
  obtain ⟨l, k⟩ := a
  obtain ⟨q1, q2⟩ : 0 ≤ k ∧ k + l.length ≤ 4611686018427387904 := ha
  simp -implicitDefEqProofs [vc_skip, extOf, vc_seq, vc_cond, vc_block, vc_exit, vc_ret, vc_region, vc_regionD, vc_loop, kSeq_normal, kSeq_ret, kSeq_exit, kBlock_normal, kBlock_ret, kBlock_exit, kLoop_normal, kLoop_ret, kLoop_exit, kCond_bool, kNorm_app, vcOps_nil, vcOps_cons, kOps_app, kStep_some, kStep_none, vcDL_nil, vcDL_cons, kOpsD_app, kStepD_true, kStepD_tt, kStepD_false, ldB, btys, btyAct, kStepC_some, kStepC_none, kMv_app, act3_store, act3_call, act3_bs, kAct_app, kSt2_app, stealSlots, stealL, stealOne, subIn, AV.stolen, act_store, act_bs, act_append, act_call, kSet_app, kSet2_app, kSetG_app, kSetG_app0, kStore_ptr, kStore_eptr, kCallW_some, kCallC_some, kCall_some, wk_T, wk_n, wk_keep, wk_inv, wk_act, wk_dr, wk_le, aCalm, wantC, dstOk, calm, aCallK, aCall3K, subOf, subRep, aCall2K, apnd, bsMove, putBox, putOwn, partAV, mvL, AV.mv, AV.base, AV.moved, kBld, bldK, wrK, stK, AV.selfOk, AV.src, TI.flat, apSize, pickAV, St.val, St.cond, St.fn, St.next, St.set, St.trim, wipe_eq, wipeE_app, wipeM_app, pickEnv, get?, cGet, upd_app, withPuts, killAll, rm, freshP, Oper.hnd, Sc.st, ofConst, constOk, lenAV, elemLen, loadAV, ldL, ld1, fieldAddrAV, indexAddrAV, sliceAV, convAV, buildAV, fillAV, fieldAV, Out.of, binAV, AV.rows, AV.one, AV.cells, AV.deepOk, AV.toD, toDs, partRows, partRowsM, partsDeep, TK.zeroAV, TK.zeroD, byteOf, inR, Op.operands, Call.operands, passVs, passV, passL, pass1, passB, pasVs, pasV, pasL, pas1, ownsOk, okHs, okHs2, okFin, finOk2, rho, over, backRes, backAV, backAV1, backBlk, putBack, back2, back2_V, back2_1, m2, AV.wipe, AV.wipeV, AV.wipe1, Blk.wipe, AV.hs, AV.hs.hsL, alOps, Con.start2, Con.pk, bodyQ, fini, resAV, resA, firstId, Sc.from, renEnv, renT, renV, renVs, renL, ren1, renBox, renOwn, okRen, clOf, actB, setRow, flatRows, flatD, noInv, shr_nil, shr_some, kStepF_some, shareL, AV.viewed, AV.viewed1, cHeldIntS, Con.fn, tTab]
  try dsimp only
  have hg : ∀ i (h : i < l.length), (markI l.length k)[i]'(by rw [markI_len]; exact h) = k + i := fun i h => by simp -implicitDefEqProofs [markI]
  refine ⟨⟨0, ⟨by omega, rfl⟩, Nat.zero_le _, by simp⟩, fun i hi hp _ => ⟨fun hlt => ⟨hlt, fun _ => ⟨by simp -implicitDefEqProofs [hlt, eInt], fun _ _ => ⟨fun hne => ?_, fun he => ⟨⟨by omega, by omega⟩, fun _ _ => ⟨⟨by omega, by omega⟩, fun _ _ => ⟨i + 1, ⟨by omega, by omega⟩, ⟨by omega, ?_⟩, by omega⟩⟩⟩⟩⟩⟩, fun hge => ?_⟩⟩
  · have hne' : ¬ l[i] = k + i := by simpa [hlt, eInt] using hne
    unfold heldI
    rw [if_neg]
    intro e
    have h2 := hg i hlt
    apply hne'
    have : l[i]? = (markI l.length k)[i]? := by rw [← e]
    rw [List.getElem?_eq_getElem hlt, List.getElem?_eq_getElem (by rw [markI_len]; exact hlt), h2] at this
    exact Option.some.inj this
  · have he' : l[i] = k + i := by simpa [hlt, eInt] using he
    rw [take_succ' hlt, take_succ' (l := markI l.length k) (by rw [markI_len]; exact hlt), hp, hg i hlt, he']
  · rw [List.take_of_length_le hge, List.take_of_length_le (by rw [markI_len]; exact hge)] at hp
    unfold heldI
    rw [if_pos hp]; omega
theorem heldI_mark (n : Nat) (k : Int) : heldI (markI n k) k = k + n := by
  unfold heldI
  rw [markI_len, if_pos rfl]

def mkC (c : CommitD) (k : Int) : CommitD := ⟨markI c.parents.length k, markS (k + c.parents.length), markFs c.tree (k + c.parents.length + 1)⟩
def kC (c : CommitD) (k : Int) : Int := kE c.tree (k + c.parents.length + 1)
def kCs : List CommitD → Int → Int
  | [], k => k
  | c :: l, k => kCs l (kC c k)
def markCs : List CommitD → Int → List CommitD
  | [], _ => []
  | c :: l, k => mkC c k :: markCs l (kC c k)
theorem markCs_len : ∀ (l : List CommitD) (k : Int), (markCs l k).length = l.length
  | [], _ => rfl
  | c :: l, k => by simp -implicitDefEqProofs [markCs, markCs_len l]
theorem kCs_snoc : ∀ (l : List CommitD) (c : CommitD) (k : Int), kCs (l ++ [c]) k = kC c (kCs l k)
  | [], _, _ => rfl
  | d :: l, c, k => by simp only [List.cons_append, kCs]; exact kCs_snoc l c _
theorem markCs_get : ∀ (l : List CommitD) (k : Int) (i : Nat) (h : i < l.length), (markCs l k)[i]'(by rw [markCs_len]; exact h) = mkC l[i] (kCs (l.take i) k)
  | [], _, i, h => by simp at h
  | c :: l, k, 0, _ => rfl
  | c :: l, k, i + 1, h => by
    simp only [markCs, List.getElem_cons_succ, List.take_succ_cons, kCs]
    exact markCs_get l _ i (by simpa using h)
theorem kC_ge {c : CommitD} {k : Int} : k + c.parents.length + 1 ≤ kC c k := by
  have := (kE_le (t := c.tree) (k := k + c.parents.length + 1) c.tree.length).1
  rw [List.take_length] at this
  exact this
theorem kCs_ge : ∀ (l : List CommitD) (k : Int), k ≤ kCs l k
  | [], _ => Int.le_refl _
  | c :: l, k => by
    have h1 := kC_ge (c := c) (k := k)
    have h2 := kCs_ge l (kC c k)
    simp only [kCs]; omega
theorem kCs_split (l : List CommitD) (k : Int) (i : Nat) : kCs (l.take i) k ≤ kCs l k := by
  have : ∀ (a b : List CommitD) (k : Int), kCs (a ++ b) k = kCs b (kCs a k) := by
    intro a
    induction a with
    | nil => intro b k; rfl
    | cons c a ih => intro b k; simp only [List.cons_append, kCs]; exact ih b _
  conv => rhs; rw [← List.take_append_drop i l]
  rw [this]
  exact kCs_ge _ _
def mCArr (a : List CommitD) (k : Int) (i : Nat) : List CommitD := (markCs a k).take i ++ a.drop i
theorem mCArr_len {a : List CommitD} {k : Int} {i : Nat} (h : i ≤ a.length) : (mCArr a k i).length = a.length := by simp -implicitDefEqProofs [mCArr, markCs_len]; omega
theorem mCArr_zero (a : List CommitD) (k : Int) : mCArr a k 0 = a := by simp -implicitDefEqProofs [mCArr]
theorem mCArr_end {a : List CommitD} {k : Int} {i : Nat} (h : a.length ≤ i) : mCArr a k i = markCs a k := by
  unfold mCArr
  rw [List.take_of_length_le (by rw [markCs_len]; exact h), List.drop_eq_nil_of_le h, List.append_nil]
theorem mCArr_get {a : List CommitD} {k : Int} {i : Nat} (h : i < a.length) : (mCArr a k i)[i]? = some a[i] := by
  unfold mCArr
  rw [List.getElem?_append_right (by simp; omega), List.length_take, markCs_len, Nat.min_eq_left (by omega), Nat.sub_self, List.getElem?_drop]
  simp -implicitDefEqProofs [h]
theorem mCArr_set {a : List CommitD} {k : Int} {i : Nat} (h : i < a.length) : (mCArr a k i).set i (mkC a[i] (kCs (a.take i) k)) = mCArr a k (i + 1) := by
  unfold mCArr
  have h1 : ((markCs a k).take i).length = i := by rw [List.length_take, markCs_len]; omega
  rw [List.set_append_right _ _ (by omega), h1, Nat.sub_self, List.drop_eq_getElem_cons h, List.set_cons_zero]
  rw [take_succ' (l := markCs a k) (i := i) (by rw [markCs_len]; exact h), markCs_get a k i h]
  simp
def cMarkCommitS : Con := { A := List CommitD × Int, X := Unit, n := 35, args := fun a => [.own 0 3 (eCommits a.1), .int .i64 a.2], boxes := fun _ => [], pre := fun a => 0 ≤ a.2 ∧ kCs a.1 a.2 ≤ 1152921504606846976, post := fun _ _ => True, res := fun a _ => .int .i64 (kCs a.1 a.2), fin := fun a _ => [(0, .own 38 3 true (eCommits (markCs a.1 a.2)))], owns := fun a => [(0, 38, 3, eCommits a.1)], lends := [0], mv := true, sube := 38 }
set_option maxHeartbeats 4000000 in
theorem markCommitS_has : Has Tryz.prog 81 cMarkCommitS := by
  refine has_walk mixed tTab_ok (l := [(113, cMarkIntS), (114, cMarkText), (115, cMarkFileS)]) (HasL.cons markIntS_has (HasL.cons markText_has (HasL.cons markFileS_has HasL.nil))) [0, 1, 4, 5] ((fun a n (_ : Nat) => (fun a _ => ⟨Nat, fun i => ⟨[(0, true, .own 0 3 (eCommits (mCArr a.1 a.2 i))), (1, true, .int .i64 (kCs (a.1.take i) a.2)), (4, true, .int .i64 0), (5, true, .int .i64 i)], [(0, .own 38 3 true (eCommits (mCArr a.1 a.2 i)))]⟩, fun i => i ≤ a.1.length, fun i => a.1.length - i⟩) a n)) [] Tryz.func81 (by kernel_rfl) (code := _) (by unfold Tryz.f81; rfl) (by kernel_rfl) (by decide) (fun _ => ⟨(), trivial⟩) (by intro h; first | exact fun _ => rfl | cases h) (by kernel_rfl) ?_
  intro a ha
  obtain ⟨l, k⟩ := a
  obtain ⟨q1, q2⟩ : 0 ≤ k ∧ kCs l k ≤ 1152921504606846976 := ha
  have e1 := fun i => @mCArr_len l k i
  have e3 := mCArr_zero l k
  simp -implicitDefEqProofs [vc_skip, extOf, vc_seq, vc_cond, vc_block, vc_exit, vc_ret, vc_region, vc_regionD, vc_loop, kSeq_normal, kSeq_ret, kSeq_exit, kBlock_normal, kBlock_ret, kBlock_exit, kLoop_normal, kLoop_ret, kLoop_exit, kCond_bool, kNorm_app, vcOps_nil, vcOps_cons, kOps_app, kStep_some, kStep_none, vcDL_nil, vcDL_cons, kOpsD_app, kStepD_true, kStepD_tt, kStepD_false, ldB, btys, btyAct, kStepC_some, kStepC_none, kMv_app, act3_store, act3_call, act3_bs, kAct_app, kSt2_app, stealSlots, stealL, stealOne, subIn, AV.stolen, act_store, act_bs, act_append, act_call, kSet_app, kSet2_app, kSetG_app, kSetG_app0, kStore_ptr, kStore_eptr, kCallW_some, kCallC_some, kCall_some, wk_T, wk_n, wk_keep, wk_inv, wk_act, wk_dr, wk_le, aCalm, wantC, dstOk, calm, aCallK, aCall3K, subOf, subRep, aCall2K, apnd, bsMove, putBox, putOwn, partAV, mvL, AV.mv, AV.base, AV.moved, kBld, bldK, wrK, stK, AV.selfOk, AV.src, TI.flat, apSize, pickAV, St.val, St.cond, St.fn, St.next, St.set, St.trim, wipe_eq, wipeE_app, wipeM_app, pickEnv, get?, cGet, upd_app, withPuts, killAll, rm, freshP, Oper.hnd, Sc.st, ofConst, constOk, lenAV, elemLen, loadAV, ldL, ld1, fieldAddrAV, indexAddrAV, sliceAV, convAV, buildAV, fillAV, fieldAV, Out.of, binAV, AV.rows, AV.one, AV.cells, AV.deepOk, AV.toD, toDs, partRows, partRowsM, partsDeep, TK.zeroAV, TK.zeroD, byteOf, inR, Op.operands, Call.operands, passVs, passV, passL, pass1, passB, pasVs, pasV, pasL, pas1, ownsOk, okHs, okHs2, okFin, finOk2, rho, over, backRes, backAV, backAV1, backBlk, putBack, back2, back2_V, back2_1, m2, AV.wipe, AV.wipeV, AV.wipe1, Blk.wipe, AV.hs, AV.hs.hsL, alOps, Con.start2, Con.pk, bodyQ, fini, resAV, resA, firstId, Sc.from, renEnv, renT, renV, renVs, renL, ren1, renBox, renOwn, okRen, clOf, actB, setRow, flatRows, flatD, noInv, shr_nil, shr_some, kStepF_some, shareL, AV.viewed, AV.viewed1, cMarkCommitS, Con.fn, tTab, cMarkIntS, cMarkText, cMarkFileS]
  try dsimp only
  refine ⟨⟨0, ⟨⟨e3, rfl, rfl⟩, e3.symm⟩, Nat.zero_le _⟩, fun t ht hbig => ⟨fun hlt => ?_, fun hge => ?_⟩⟩
  · rw [e1 t ht] at hlt
    have g := mCArr_get (k := k) hlt
    have hl := e1 t ht
    have g2 : (mCArr l k t)[t]'(by omega) = l[t] := by
      rw [List.getElem?_eq_getElem (by omega)] at g; exact Option.some.inj g
    have hst := mCArr_set (k := k) hlt
    have hsn : kCs (l.take (t + 1)) k = kC l[t] (kCs (l.take t) k) := by rw [take_succ' hlt, kCs_snoc]
    have hsp := kCs_split l k (t + 1)
    rw [hsn] at hsp
    have hge1 := kCs_ge (l.take t) k
    have hkc := kC_ge (c := l[t]) (k := kCs (l.take t) k)
    generalize kCs (l.take t) k = b at *
    simp -implicitDefEqProofs [g, g2, hl, hlt, eCommit, D.asRows, and_assoc]
    have hse : (eCommits (mCArr l k t)).set t [D.sl 3 1 (eInts (markI l[t].parents.length b)), D.str (markS (b + l[t].parents.length)), D.sl 106 2 (eFiles (markFs l[t].tree (b + l[t].parents.length + 1)))] = eCommits (mCArr l k (t + 1)) := by
      rw [← hst]; unfold eCommits; rw [List.map_set]; rfl
    have hkE : kC l[t] b = kE l[t].tree (b + l[t].parents.length + 1) := rfl
    rw [hkE] at hsp hsn hkc
    refine ⟨by omega, by omega, by omega, by omega, fun _ _ => ⟨by omega, by omega, by omega, by omega, fun _ _ => ⟨t + 1, hse.symm, hsn, by omega, hse, by omega, by omega⟩⟩⟩
  · have hge' : l.length ≤ t := by rw [e1 t ht] at hge; omega
    rw [List.take_of_length_le hge', mCArr_end hge']
    simp

end Vx
end Go.Proofs.YthmhaggmcfemnaaGreatDoor
/-
  Contracts: marks set and looked for in heads; marks set in repositories.
-/
namespace Go.Proofs.YthmhaggmcfemnaaGreatDoor
namespace Vx
open Go.RowKit
set_option maxRecDepth 8000

def markHs (n : Nat) (k : Int) : List HeadD := (List.range n).map fun i : Nat => ⟨markS (k + 2 * i), k + 2 * i + 1⟩
theorem markHs_len (n : Nat) (k : Int) : (markHs n k).length = n := by simp -implicitDefEqProofs [markHs]
theorem markHs_get {n : Nat} {k : Int} {i : Nat} (h : i < n) : (markHs n k)[i]'(by rw [markHs_len]; exact h) = ⟨markS (k + 2 * i), k + 2 * i + 1⟩ := by simp -implicitDefEqProofs [markHs]
def mHA (a : List HeadD) (k : Int) (i : Nat) : List HeadD := (markHs a.length k).take i ++ a.drop i
theorem mHA_len {a : List HeadD} {k : Int} {i : Nat} (h : i ≤ a.length) : (mHA a k i).length = a.length := by simp -implicitDefEqProofs [mHA, markHs_len]; omega
theorem mHA_zero (a : List HeadD) (k : Int) : mHA a k 0 = a := by simp -implicitDefEqProofs [mHA]
theorem mHA_end {a : List HeadD} {k : Int} {i : Nat} (h : a.length ≤ i) : mHA a k i = markHs a.length k := by
  unfold mHA
  rw [List.take_of_length_le (by rw [markHs_len]; exact h), List.drop_eq_nil_of_le h, List.append_nil]
theorem mHA_get {a : List HeadD} {k : Int} {i : Nat} (h : i < a.length) : (mHA a k i)[i]? = some a[i] := by
  unfold mHA
  rw [List.getElem?_append_right (by simp; omega), List.length_take, markHs_len, Nat.min_eq_left (by omega), Nat.sub_self, List.getElem?_drop]
  simp -implicitDefEqProofs [h]
theorem mHA_set {a : List HeadD} {k : Int} {i : Nat} (h : i < a.length) : (mHA a k i).set i ⟨markS (k + 2 * i), k + 2 * i + 1⟩ = mHA a k (i + 1) := by
  unfold mHA
  have h1 : ((markHs a.length k).take i).length = i := by rw [List.length_take, markHs_len]; omega
  rw [List.set_append_right _ _ (by omega), h1, Nat.sub_self, List.drop_eq_getElem_cons h, List.set_cons_zero]
  rw [take_succ' (l := markHs a.length k) (i := i) (by rw [markHs_len]; exact h), markHs_get h]
  simp
def cMarkHeadS : Con := { A := List HeadD × Int, X := Unit, n := 28, args := fun a => [.own 0 2 (eHeads a.1), .int .i64 a.2], boxes := fun _ => [], pre := fun a => 0 ≤ a.2 ∧ a.2 + 2 * a.1.length ≤ 4611686018427387904, post := fun _ _ => True, res := fun a _ => .int .i64 (a.2 + 2 * a.1.length), fin := fun a _ => [(0, .own 47 2 true (eHeads (markHs a.1.length a.2)))], owns := fun a => [(0, 47, 2, eHeads a.1)], lends := [0], mv := true, sube := 47 }
set_option maxHeartbeats 4000000 in
theorem markHeadS_has : Has Tryz.prog 82 cMarkHeadS := by
  refine has_walk mixed tTab_ok (l := [(114, cMarkText)]) (HasL.cons markText_has HasL.nil) [0, 1, 4, 5] ((fun a n (_ : Nat) => (fun a _ => ⟨Nat, fun i => ⟨[(0, true, .own 0 2 (eHeads (mHA a.1 a.2 i))), (1, true, .int .i64 (a.2 + 2 * i)), (4, true, .int .i64 0), (5, true, .int .i64 i)], [(0, .own 47 2 true (eHeads (mHA a.1 a.2 i)))]⟩, fun i => i ≤ a.1.length, fun i => a.1.length - i⟩) a n)) [] Tryz.func82 (by kernel_rfl) (code := _) (by unfold Tryz.f82; rfl) (by kernel_rfl) (by decide) (fun _ => ⟨(), trivial⟩) (by intro h; first | exact fun _ => rfl | cases h) (by kernel_rfl) ?_
  intro a ha
  obtain ⟨l, k⟩ := a
  obtain ⟨q1, q2⟩ : 0 ≤ k ∧ k + 2 * l.length ≤ 4611686018427387904 := ha
  have e1 := fun i => @mHA_len l k i
  have e3 := mHA_zero l k
  simp -implicitDefEqProofs [vc_skip, extOf, vc_seq, vc_cond, vc_block, vc_exit, vc_ret, vc_region, vc_regionD, vc_loop, kSeq_normal, kSeq_ret, kSeq_exit, kBlock_normal, kBlock_ret, kBlock_exit, kLoop_normal, kLoop_ret, kLoop_exit, kCond_bool, kNorm_app, vcOps_nil, vcOps_cons, kOps_app, kStep_some, kStep_none, vcDL_nil, vcDL_cons, kOpsD_app, kStepD_true, kStepD_tt, kStepD_false, ldB, btys, btyAct, kStepC_some, kStepC_none, kMv_app, act3_store, act3_call, act3_bs, kAct_app, kSt2_app, stealSlots, stealL, stealOne, subIn, AV.stolen, act_store, act_bs, act_append, act_call, kSet_app, kSet2_app, kSetG_app, kSetG_app0, kStore_ptr, kStore_eptr, kCallW_some, kCallC_some, kCall_some, wk_T, wk_n, wk_keep, wk_inv, wk_act, wk_dr, wk_le, aCalm, wantC, dstOk, calm, aCallK, aCall3K, subOf, subRep, aCall2K, apnd, bsMove, putBox, putOwn, partAV, mvL, AV.mv, AV.base, AV.moved, kBld, bldK, wrK, stK, AV.selfOk, AV.src, TI.flat, apSize, pickAV, St.val, St.cond, St.fn, St.next, St.set, St.trim, wipe_eq, wipeE_app, wipeM_app, pickEnv, get?, cGet, upd_app, withPuts, killAll, rm, freshP, Oper.hnd, Sc.st, ofConst, constOk, lenAV, elemLen, loadAV, ldL, ld1, fieldAddrAV, indexAddrAV, sliceAV, convAV, buildAV, fillAV, fieldAV, Out.of, binAV, AV.rows, AV.one, AV.cells, AV.deepOk, AV.toD, toDs, partRows, partRowsM, partsDeep, TK.zeroAV, TK.zeroD, byteOf, inR, Op.operands, Call.operands, passVs, passV, passL, pass1, passB, pasVs, pasV, pasL, pas1, ownsOk, okHs, okHs2, okFin, finOk2, rho, over, backRes, backAV, backAV1, backBlk, putBack, back2, back2_V, back2_1, m2, AV.wipe, AV.wipeV, AV.wipe1, Blk.wipe, AV.hs, AV.hs.hsL, alOps, Con.start2, Con.pk, bodyQ, fini, resAV, resA, firstId, Sc.from, renEnv, renT, renV, renVs, renL, ren1, renBox, renOwn, okRen, clOf, actB, setRow, flatRows, flatD, noInv, shr_nil, shr_some, kStepF_some, shareL, AV.viewed, AV.viewed1, cMarkHeadS, Con.fn, tTab, cMarkText]
  try dsimp only
  refine ⟨⟨0, ⟨⟨e3, by omega, rfl⟩, e3.symm⟩, Nat.zero_le _⟩, fun t ht hbig => ⟨fun hlt => ?_, fun hge => ?_⟩⟩
  · rw [e1 t ht] at hlt
    have g := mHA_get (k := k) hlt
    have hl := e1 t ht
    have g2 : (mHA l k t)[t]'(by omega) = l[t] := by
      rw [List.getElem?_eq_getElem (by omega)] at g; exact Option.some.inj g
    have hst := mHA_set (k := k) hlt
    simp -implicitDefEqProofs [g, g2, hl, hlt, eHead, D.asRows, and_assoc]
    have hse : (eHeads (mHA l k t)).set t [D.str (markS (k + 2 * t)), D.int .i64 (k + 2 * t + 1)] = eHeads (mHA l k (t + 1)) := by
      rw [← hst, eHeads_set]
    exact ⟨by omega, by omega, by omega, fun _ _ => ⟨by omega, by omega, fun _ _ => ⟨by omega, by omega, fun _ _ => ⟨t + 1, hse.symm, by omega, by omega, hse, by omega, by omega⟩⟩⟩⟩
  · have hge' : l.length ≤ t := by rw [e1 t ht] at hge; omega
    rw [mHA_end hge']
    simp; omega

def heldHs (a : List HeadD) (k : Int) : Int := if a = markHs a.length k then k + 2 * a.length else -1
theorem heldHs_mark (n : Nat) (k : Int) : heldHs (markHs n k) k = k + 2 * n := by
  unfold heldHs
  rw [markHs_len, if_pos rfl]
theorem heldH_miss {l : List HeadD} {k : Int} {i : Nat} (h : i < l.length) (h2 : l[i].name ≠ markS (k + 2 * i) ∨ l[i].at_ ≠ k + 2 * i + 1) : heldHs l k = -1 := by
  unfold heldHs
  rw [if_neg]
  intro h3
  have : l[i]? = (markHs l.length k)[i]? := by rw [← h3]
  rw [List.getElem?_eq_getElem h, List.getElem?_eq_getElem (by rw [markHs_len]; exact h), markHs_get h] at this
  have := Option.some.inj this
  rcases h2 with h2 | h2
  · exact h2 (congrArg HeadD.name this)
  · exact h2 (congrArg HeadD.at_ this)
theorem heldH_step {l : List HeadD} {k : Int} {i : Nat} (h : i < l.length) (h1 : l.take i = (markHs l.length k).take i) (h2 : l[i].name = markS (k + 2 * i)) (h3 : l[i].at_ = k + 2 * i + 1) : l.take (i + 1) = (markHs l.length k).take (i + 1) := by
  rw [take_succ' h, take_succ' (by rw [markHs_len]; exact h), markHs_get h, ← h1, ← h2, ← h3]
theorem heldH_end {l : List HeadD} {k : Int} {i : Nat} (h : l.length ≤ i) (h1 : l.take i = (markHs l.length k).take i) : heldHs l k = k + 2 * l.length := by
  rw [List.take_of_length_le h, List.take_of_length_le (by rw [markHs_len]; exact h)] at h1
  unfold heldHs
  rw [if_pos h1]
def cHeldHeadS : Con := .fn 32 (List HeadD × Int) (fun a => [.sl true 2 (eHeads a.1), .int .i64 a.2]) (fun a => 0 ≤ a.2 ∧ a.2 + 2 * a.1.length ≤ 4611686018427387904) (fun a => .int .i64 (heldHs a.1 a.2)) (fun _ => [])
set_option maxHeartbeats 4000000 in
theorem heldHeadS_has : Has Tryz.prog 84 cHeldHeadS := by
  refine has_walk mixed tTab_ok (l := [(114, cMarkText)]) (HasL.cons markText_has HasL.nil) [0, 1, 4, 5] ((fun a n (_ : Nat) => (fun a _ => ⟨Nat, fun i => ⟨[(0, true, .sl true 2 (eHeads a.1)), (1, true, .int .i64 (a.2 + 2 * i)), (4, true, .int .i64 0), (5, true, .int .i64 i)], []⟩, fun i => i ≤ a.1.length ∧ a.1.take i = (markHs a.1.length a.2).take i, fun i => a.1.length - i⟩) a n)) [] Tryz.func84 (by kernel_rfl) (code := _) (by unfold Tryz.f84; rfl) (by kernel_rfl) (by decide) (fun _ => ⟨(), trivial⟩) (by intro h; first | exact fun _ => rfl | cases h) (by kernel_rfl) ?_
  intro a ha
  obtain ⟨l, k⟩ := a
  obtain ⟨q1, q2⟩ : 0 ≤ k ∧ k + 2 * l.length ≤ 4611686018427387904 := ha
  have e1 := fun i => @heldH_miss l k i
  have e2 := fun i => @heldH_step l k i
  have e3 := fun i => @heldH_end l k i
  simp -implicitDefEqProofs [vc_skip, extOf, vc_seq, vc_cond, vc_block, vc_exit, vc_ret, vc_region, vc_regionD, vc_loop, kSeq_normal, kSeq_ret, kSeq_exit, kBlock_normal, kBlock_ret, kBlock_exit, kLoop_normal, kLoop_ret, kLoop_exit, kCond_bool, kNorm_app, vcOps_nil, vcOps_cons, kOps_app, kStep_some, kStep_none, vcDL_nil, vcDL_cons, kOpsD_app, kStepD_true, kStepD_tt, kStepD_false, ldB, btys, btyAct, kStepC_some, kStepC_none, kMv_app, act3_store, act3_call, act3_bs, kAct_app, kSt2_app, stealSlots, stealL, stealOne, subIn, AV.stolen, act_store, act_bs, act_append, act_call, kSet_app, kSet2_app, kSetG_app, kSetG_app0, kStore_ptr, kStore_eptr, kCallW_some, kCallC_some, kCall_some, wk_T, wk_n, wk_keep, wk_inv, wk_act, wk_dr, wk_le, aCalm, wantC, dstOk, calm, aCallK, aCall3K, subOf, subRep, aCall2K, apnd, bsMove, putBox, putOwn, partAV, mvL, AV.mv, AV.base, AV.moved, kBld, bldK, wrK, stK, AV.selfOk, AV.src, TI.flat, apSize, pickAV, St.val, St.cond, St.fn, St.next, St.set, St.trim, wipe_eq, wipeE_app, wipeM_app, pickEnv, get?, cGet, upd_app, withPuts, killAll, rm, freshP, Oper.hnd, Sc.st, ofConst, constOk, lenAV, elemLen, loadAV, ldL, ld1, fieldAddrAV, indexAddrAV, sliceAV, convAV, buildAV, fillAV, fieldAV, Out.of, binAV, AV.rows, AV.one, AV.cells, AV.deepOk, AV.toD, toDs, partRows, partRowsM, partsDeep, TK.zeroAV, TK.zeroD, byteOf, inR, Op.operands, Call.operands, passVs, passV, passL, pass1, passB, pasVs, pasV, pasL, pas1, ownsOk, okHs, okHs2, okFin, finOk2, rho, over, backRes, backAV, backAV1, backBlk, putBack, back2, back2_V, back2_1, m2, AV.wipe, AV.wipeV, AV.wipe1, Blk.wipe, AV.hs, AV.hs.hsL, alOps, Con.start2, Con.pk, bodyQ, fini, resAV, resA, firstId, Sc.from, renEnv, renT, renV, renVs, renL, ren1, renBox, renOwn, okRen, clOf, actB, setRow, flatRows, flatD, noInv, shr_nil, shr_some, kStepF_some, shareL, AV.viewed, AV.viewed1, cHeldHeadS, Con.fn, tTab, cMarkText]
  try dsimp only
  refine ⟨⟨0, by simp⟩, fun i hi hp _ => ⟨fun hlt => ?_, fun hge => ?_⟩⟩
  · simp -implicitDefEqProofs [hlt, eHead, D.asStr, and_assoc]
    exact ⟨by omega, fun h => e1 i hlt (.inl h), fun h1 => ⟨by omega, by omega, fun _ _ => ⟨fun h => e1 i hlt (.inr h), fun h2 => ⟨by omega, by omega, fun _ _ => ⟨by omega, by omega, fun _ _ => ⟨i + 1, by omega, by omega, by omega, e2 i hlt hp h1 h2, by omega⟩⟩⟩⟩⟩⟩
  · have := e3 i hge hp
    omega

def cMarkRepo : Con := { A := RepoD × Int, X := Unit, n := 14, args := fun a => [.agg [.own 0 3 (eCommits a.1.commits), .own 1 2 (eHeads a.1.heads)], .int .i64 a.2], boxes := fun _ => [], pre := fun a => 0 ≤ a.2 ∧ kCs a.1.commits a.2 + 2 * a.1.heads.length ≤ 1152921504606846976, post := fun _ _ => True, res := fun a _ => .int .i64 (kCs a.1.commits a.2 + 2 * a.1.heads.length), fin := fun a _ => [(0, .own 38 3 true (eCommits (markCs a.1.commits a.2))), (1, .own 47 2 true (eHeads (markHs a.1.heads.length (kCs a.1.commits a.2))))], owns := fun a => [(0, 38, 3, eCommits a.1.commits), (1, 47, 2, eHeads a.1.heads)], lends := [0, 1], mv := true, sube := 38 }
set_option maxHeartbeats 4000000 in
theorem markRepo_has : Has Tryz.prog 35 cMarkRepo := by
  refine has_walk mixed tTab_ok (l := [(81, cMarkCommitS), (82, cMarkHeadS)]) (HasL.cons markCommitS_has (HasL.cons markHeadS_has HasL.nil)) [0, 1, 2, 4] ((fun a n (_ : Nat) => (fun _ => noInv) a n)) [] Tryz.func35 (by kernel_rfl) (code := _) (by unfold Tryz.f35; rfl) (by kernel_rfl) (by decide) (fun _ => ⟨(), trivial⟩) (by intro h; first | exact fun _ => rfl | cases h) (by kernel_rfl) ?_
  intro a ha
  obtain ⟨r, k⟩ := a
  obtain ⟨q1, q2⟩ : 0 ≤ k ∧ kCs r.commits k + 2 * r.heads.length ≤ 1152921504606846976 := ha
  simp -implicitDefEqProofs [vc_skip, extOf, vc_seq, vc_cond, vc_block, vc_exit, vc_ret, vc_region, vc_regionD, vc_loop, kSeq_normal, kSeq_ret, kSeq_exit, kBlock_normal, kBlock_ret, kBlock_exit, kLoop_normal, kLoop_ret, kLoop_exit, kCond_bool, kNorm_app, vcOps_nil, vcOps_cons, kOps_app, kStep_some, kStep_none, vcDL_nil, vcDL_cons, kOpsD_app, kStepD_true, kStepD_tt, kStepD_false, ldB, btys, btyAct, kStepC_some, kStepC_none, kMv_app, act3_store, act3_call, act3_bs, kAct_app, kSt2_app, stealSlots, stealL, stealOne, subIn, AV.stolen, act_store, act_bs, act_append, act_call, kSet_app, kSet2_app, kSetG_app, kSetG_app0, kStore_ptr, kStore_eptr, kCallW_some, kCallC_some, kCall_some, wk_T, wk_n, wk_keep, wk_inv, wk_act, wk_dr, wk_le, aCalm, wantC, dstOk, calm, aCallK, aCall3K, subOf, subRep, aCall2K, apnd, bsMove, putBox, putOwn, partAV, mvL, AV.mv, AV.base, AV.moved, kBld, bldK, wrK, stK, AV.selfOk, AV.src, TI.flat, apSize, pickAV, St.val, St.cond, St.fn, St.next, St.set, St.trim, wipe_eq, wipeE_app, wipeM_app, pickEnv, get?, cGet, upd_app, withPuts, killAll, rm, freshP, Oper.hnd, Sc.st, ofConst, constOk, lenAV, elemLen, loadAV, ldL, ld1, fieldAddrAV, indexAddrAV, sliceAV, convAV, buildAV, fillAV, fieldAV, Out.of, binAV, AV.rows, AV.one, AV.cells, AV.deepOk, AV.toD, toDs, partRows, partRowsM, partsDeep, TK.zeroAV, TK.zeroD, byteOf, inR, Op.operands, Call.operands, passVs, passV, passL, pass1, passB, pasVs, pasV, pasL, pas1, ownsOk, okHs, okHs2, okFin, finOk2, rho, over, backRes, backAV, backAV1, backBlk, putBack, back2, back2_V, back2_1, m2, AV.wipe, AV.wipeV, AV.wipe1, Blk.wipe, AV.hs, AV.hs.hsL, alOps, Con.start2, Con.pk, bodyQ, fini, resAV, resA, firstId, Sc.from, renEnv, renT, renV, renVs, renL, ren1, renBox, renOwn, okRen, clOf, actB, setRow, flatRows, flatD, noInv, shr_nil, shr_some, kStepF_some, shareL, AV.viewed, AV.viewed1, cMarkRepo, Con.fn, tTab, cMarkCommitS, cMarkHeadS]
  try dsimp only
  exact ⟨_, _, ⟨rfl, rfl⟩, rfl, ⟨q1, by omega⟩, _, _, ⟨rfl, rfl⟩, rfl, ⟨by have := kCs_ge r.commits k; omega, by omega⟩, rfl, rfl, rfl⟩

end Vx
end Go.Proofs.YthmhaggmcfemnaaGreatDoor
/-
  Contracts: marks looked for in commits and in repositories.
-/
namespace Go.Proofs.YthmhaggmcfemnaaGreatDoor
namespace Vx
open Go.RowKit
set_option maxRecDepth 8000

theorem mkC_same (c : CommitD) (k : Int) : mkC (mkC c k) k = mkC c k := by
  unfold mkC
  simp only [markI_len, markFs_same]
theorem kC_mark (c : CommitD) (k : Int) : kC (mkC c k) k = kC c k := by
  unfold kC
  have h1 : (mkC c k).parents.length = c.parents.length := by simp -implicitDefEqProofs [mkC, markI_len]
  have h2 : (mkC c k).tree = markFs c.tree (k + c.parents.length + 1) := rfl
  rw [h1, h2, kE_marks]
theorem markCs_same : ∀ (l : List CommitD) (k : Int), markCs (markCs l k) k = markCs l k ∧ kCs (markCs l k) k = kCs l k
  | [], _ => ⟨rfl, rfl⟩
  | c :: l, k => by
    obtain ⟨h1, h2⟩ := markCs_same l (kC c k)
    simp only [markCs, kCs, mkC_same, kC_mark, h1, h2]
    exact ⟨trivial, trivial⟩
def heldCs (l : List CommitD) (k : Int) : Int := if l = markCs l k then kCs l k else -1
theorem heldCs_mark (l : List CommitD) (k : Int) : heldCs (markCs l k) k = kCs l k := by
  unfold heldCs
  rw [(markCs_same l k).1, if_pos rfl, (markCs_same l k).2]
theorem heldC_miss {l : List CommitD} {k : Int} {i : Nat} (h : i < l.length) (h2 : l[i].parents ≠ markI l[i].parents.length (kCs (l.take i) k) ∨ l[i].who ≠ markS (kCs (l.take i) k + l[i].parents.length) ∨ l[i].tree ≠ markFs l[i].tree (kCs (l.take i) k + l[i].parents.length + 1)) : heldCs l k = -1 := by
  unfold heldCs
  rw [if_neg]
  intro h3
  have : l[i]? = (markCs l k)[i]? := by rw [← h3]
  rw [List.getElem?_eq_getElem h, List.getElem?_eq_getElem (by rw [markCs_len]; exact h), markCs_get l k i h] at this
  have := Option.some.inj this
  rcases h2 with h2 | h2 | h2
  · exact h2 (congrArg CommitD.parents this)
  · exact h2 (congrArg CommitD.who this)
  · exact h2 (congrArg CommitD.tree this)
theorem heldC_step {l : List CommitD} {k : Int} {i : Nat} (h : i < l.length) (h1 : l.take i = (markCs l k).take i) (h2 : l[i].parents = markI l[i].parents.length (kCs (l.take i) k)) (h3 : l[i].who = markS (kCs (l.take i) k + l[i].parents.length)) (h4 : l[i].tree = markFs l[i].tree (kCs (l.take i) k + l[i].parents.length + 1)) : l.take (i + 1) = (markCs l k).take (i + 1) := by
  have e : mkC l[i] (kCs (l.take i) k) = l[i] := by
    unfold mkC
    rw [← h2, ← h3, ← h4]
  rw [take_succ' h, take_succ' (by rw [markCs_len]; exact h), markCs_get l k i h, ← h1, e]
theorem heldC_end {l : List CommitD} {k : Int} {i : Nat} (h : l.length ≤ i) (h1 : l.take i = (markCs l k).take i) : heldCs l k = kCs (l.take i) k := by
  rw [List.take_of_length_le h, List.take_of_length_le (by rw [markCs_len]; exact h)] at h1
  unfold heldCs
  rw [if_pos h1, List.take_of_length_le h]
def cHeldCommitS : Con := .fn 41 (List CommitD × Int) (fun a => [.sl true 3 (eCommits a.1), .int .i64 a.2]) (fun a => 0 ≤ a.2 ∧ kCs a.1 a.2 ≤ 1152921504606846976) (fun a => .int .i64 (heldCs a.1 a.2)) (fun _ => [])
set_option maxHeartbeats 4000000 in
theorem heldCommitS_has : Has Tryz.prog 83 cHeldCommitS := by
  refine has_walk mixed tTab_ok (l := [(116, cHeldIntS), (114, cMarkText), (117, cHeldFileS)]) (HasL.cons heldIntS_has (HasL.cons markText_has (HasL.cons heldFileS_has HasL.nil))) [0, 1, 4, 5] ((fun a n (_ : Nat) => (fun a _ => ⟨Nat, fun i => ⟨[(0, true, .sl true 3 (eCommits a.1)), (1, true, .int .i64 (kCs (a.1.take i) a.2)), (4, true, .int .i64 0), (5, true, .int .i64 i)], []⟩, fun i => i ≤ a.1.length ∧ a.1.take i = (markCs a.1 a.2).take i, fun i => a.1.length - i⟩) a n)) [] Tryz.func83 (by kernel_rfl) (code := _) (by unfold Tryz.f83; rfl) (by kernel_rfl) (by decide) (fun _ => ⟨(), trivial⟩) (by intro h; first | exact fun _ => rfl | cases h) (by kernel_rfl) ?_
  intro a ha
  obtain ⟨l, k⟩ := a
  obtain ⟨q1, q2⟩ : 0 ≤ k ∧ kCs l k ≤ 1152921504606846976 := ha
  have e1 := fun i => @heldC_miss l k i
  have e2 := fun i => @heldC_step l k i
  have e3 := fun i => @heldC_end l k i
  simp -implicitDefEqProofs [vc_skip, extOf, vc_seq, vc_cond, vc_block, vc_exit, vc_ret, vc_region, vc_regionD, vc_loop, kSeq_normal, kSeq_ret, kSeq_exit, kBlock_normal, kBlock_ret, kBlock_exit, kLoop_normal, kLoop_ret, kLoop_exit, kCond_bool, kNorm_app, vcOps_nil, vcOps_cons, kOps_app, kStep_some, kStep_none, vcDL_nil, vcDL_cons, kOpsD_app, kStepD_true, kStepD_tt, kStepD_false, ldB, btys, btyAct, kStepC_some, kStepC_none, kMv_app, act3_store, act3_call, act3_bs, kAct_app, kSt2_app, stealSlots, stealL, stealOne, subIn, AV.stolen, act_store, act_bs, act_append, act_call, kSet_app, kSet2_app, kSetG_app, kSetG_app0, kStore_ptr, kStore_eptr, kCallW_some, kCallC_some, kCall_some, wk_T, wk_n, wk_keep, wk_inv, wk_act, wk_dr, wk_le, aCalm, wantC, dstOk, calm, aCallK, aCall3K, subOf, subRep, aCall2K, apnd, bsMove, putBox, putOwn, partAV, mvL, AV.mv, AV.base, AV.moved, kBld, bldK, wrK, stK, AV.selfOk, AV.src, TI.flat, apSize, pickAV, St.val, St.cond, St.fn, St.next, St.set, St.trim, wipe_eq, wipeE_app, wipeM_app, pickEnv, get?, cGet, upd_app, withPuts, killAll, rm, freshP, Oper.hnd, Sc.st, ofConst, constOk, lenAV, elemLen, loadAV, ldL, ld1, fieldAddrAV, indexAddrAV, sliceAV, convAV, buildAV, fillAV, fieldAV, Out.of, binAV, AV.rows, AV.one, AV.cells, AV.deepOk, AV.toD, toDs, partRows, partRowsM, partsDeep, TK.zeroAV, TK.zeroD, byteOf, inR, Op.operands, Call.operands, passVs, passV, passL, pass1, passB, pasVs, pasV, pasL, pas1, ownsOk, okHs, okHs2, okFin, finOk2, rho, over, backRes, backAV, backAV1, backBlk, putBack, back2, back2_V, back2_1, m2, AV.wipe, AV.wipeV, AV.wipe1, Blk.wipe, AV.hs, AV.hs.hsL, alOps, Con.start2, Con.pk, bodyQ, fini, resAV, resA, firstId, Sc.from, renEnv, renT, renV, renVs, renL, ren1, renBox, renOwn, okRen, clOf, actB, setRow, flatRows, flatD, noInv, shr_nil, shr_some, kStepF_some, shareL, AV.viewed, AV.viewed1, cHeldCommitS, Con.fn, tTab, cHeldIntS, cMarkText, cHeldFileS]
  try dsimp only
  refine ⟨⟨0, by simp -implicitDefEqProofs [kCs]⟩, fun i hi hpre _ => ⟨fun hlt => ?_, fun hge => e3 i hge hpre⟩⟩
  have hsn : kCs (l.take (i + 1)) k = kC l[i] (kCs (l.take i) k) := by rw [take_succ' hlt, kCs_snoc]
  have hsp := kCs_split l k (i + 1)
  have hge1 := kCs_ge (l.take i) k
  have hkc := kC_ge (c := l[i]) (k := kCs (l.take i) k)
  have m1 := e1 i hlt
  have m2 := e2 i hlt hpre
  rw [hsn] at hsp
  have hkE : kC l[i] (kCs (l.take i) k) = kE l[i].tree (kCs (l.take i) k + l[i].parents.length + 1) := rfl
  rw [hkE] at hsp hsn hkc
  clear e1 e2 e3 hkE
  generalize hb : kCs (l.take i) k = b at *
  simp -implicitDefEqProofs [hlt, eCommit, D.asStr, D.asRows, and_assoc]
  have hl : ∀ a kk, heldI a kk = if a = markI a.length kk then kk + a.length else -1 := fun _ _ => rfl
  have hf : ∀ a kk, heldFs a kk = if a = markFs a kk then kE a kk else -1 := fun _ _ => rfl
  by_cases hp : l[i].parents = markI l[i].parents.length b
  · have g1 : heldI l[i].parents b = b + l[i].parents.length := by rw [hl, if_pos hp]
    rw [g1]
    refine ⟨by omega, by omega, fun h => by omega, fun _ => ⟨by omega, fun h => m1 (.inr (.inl h)), fun hw => ⟨by omega, by omega, fun _ _ => ⟨by omega, by omega, ?_⟩⟩⟩⟩
    by_cases ht : l[i].tree = markFs l[i].tree (b + l[i].parents.length + 1)
    · have g2 : heldFs l[i].tree (b + l[i].parents.length + 1) = kE l[i].tree (b + l[i].parents.length + 1) := by rw [hf, if_pos ht]
      rw [g2]
      exact ⟨fun h => by omega, fun _ => ⟨by omega, by omega, fun _ _ => ⟨i + 1, hsn, by omega, by omega, m2 hp hw ht, by omega⟩⟩⟩
    · have g2 : heldFs l[i].tree (b + l[i].parents.length + 1) = -1 := by rw [hf, if_neg ht]
      rw [g2]
      exact ⟨fun _ => m1 (.inr (.inr ht)), fun h => by omega⟩
  · have g1 : heldI l[i].parents b = -1 := by rw [hl, if_neg hp]
    rw [g1]
    exact ⟨by omega, by omega, fun _ => m1 (.inl hp), fun h => by omega⟩

def heldR (r : RepoD) (k : Int) : Int := if heldCs r.commits k < 0 then -1 else if heldHs r.heads (heldCs r.commits k) < 0 then -1 else heldHs r.heads (heldCs r.commits k)
theorem heldCs_lt (l : List CommitD) (k : Int) : heldCs l k ≤ kCs l k ∨ heldCs l k = -1 := by unfold heldCs; split <;> omega
def cHeldRepo : Con := .fn 18 (RepoD × Int) (fun a => [vRepo a.1, .int .i64 a.2]) (fun a => 0 ≤ a.2 ∧ kCs a.1.commits a.2 + 2 * a.1.heads.length ≤ 1152921504606846976) (fun a => .int .i64 (heldR a.1 a.2)) (fun _ => [])
set_option maxHeartbeats 4000000 in
theorem heldRepo_has : Has Tryz.prog 36 cHeldRepo := by
  refine has_walk mixed tTab_ok (l := [(83, cHeldCommitS), (84, cHeldHeadS)]) (HasL.cons heldCommitS_has (HasL.cons heldHeadS_has HasL.nil)) [0, 1, 2, 4] ((fun a n (_ : Nat) => (fun _ => noInv) a n)) [] Tryz.func36 (by kernel_rfl) (code := _) (by unfold Tryz.f36; rfl) (by kernel_rfl) (by decide) (fun _ => ⟨(), trivial⟩) (by intro h; first | exact fun _ => rfl | cases h) (by kernel_rfl) ?_
  intro a ha
  obtain ⟨r, k⟩ := a
  obtain ⟨q1, q2⟩ : 0 ≤ k ∧ kCs r.commits k + 2 * r.heads.length ≤ 1152921504606846976 := ha
  simp -implicitDefEqProofs [vc_skip, extOf, vc_seq, vc_cond, vc_block, vc_exit, vc_ret, vc_region, vc_regionD, vc_loop, kSeq_normal, kSeq_ret, kSeq_exit, kBlock_normal, kBlock_ret, kBlock_exit, kLoop_normal, kLoop_ret, kLoop_exit, kCond_bool, kNorm_app, vcOps_nil, vcOps_cons, kOps_app, kStep_some, kStep_none, vcDL_nil, vcDL_cons, kOpsD_app, kStepD_true, kStepD_tt, kStepD_false, ldB, btys, btyAct, kStepC_some, kStepC_none, kMv_app, act3_store, act3_call, act3_bs, kAct_app, kSt2_app, stealSlots, stealL, stealOne, subIn, AV.stolen, act_store, act_bs, act_append, act_call, kSet_app, kSet2_app, kSetG_app, kSetG_app0, kStore_ptr, kStore_eptr, kCallW_some, kCallC_some, kCall_some, wk_T, wk_n, wk_keep, wk_inv, wk_act, wk_dr, wk_le, aCalm, wantC, dstOk, calm, aCallK, aCall3K, subOf, subRep, aCall2K, apnd, bsMove, putBox, putOwn, partAV, mvL, AV.mv, AV.base, AV.moved, kBld, bldK, wrK, stK, AV.selfOk, AV.src, TI.flat, apSize, pickAV, St.val, St.cond, St.fn, St.next, St.set, St.trim, wipe_eq, wipeE_app, wipeM_app, pickEnv, get?, cGet, upd_app, withPuts, killAll, rm, freshP, Oper.hnd, Sc.st, ofConst, constOk, lenAV, elemLen, loadAV, ldL, ld1, fieldAddrAV, indexAddrAV, sliceAV, convAV, buildAV, fillAV, fieldAV, Out.of, binAV, AV.rows, AV.one, AV.cells, AV.deepOk, AV.toD, toDs, partRows, partRowsM, partsDeep, TK.zeroAV, TK.zeroD, byteOf, inR, Op.operands, Call.operands, passVs, passV, passL, pass1, passB, pasVs, pasV, pasL, pas1, ownsOk, okHs, okHs2, okFin, finOk2, rho, over, backRes, backAV, backAV1, backBlk, putBack, back2, back2_V, back2_1, m2, AV.wipe, AV.wipeV, AV.wipe1, Blk.wipe, AV.hs, AV.hs.hsL, alOps, Con.start2, Con.pk, bodyQ, fini, resAV, resA, firstId, Sc.from, renEnv, renT, renV, renVs, renL, ren1, renBox, renOwn, okRen, clOf, actB, setRow, flatRows, flatD, noInv, shr_nil, shr_some, kStepF_some, shareL, AV.viewed, AV.viewed1, cHeldRepo, Con.fn, tTab, cHeldCommitS, cHeldHeadS]
  try dsimp only
  have h1 := heldCs_lt r.commits k
  refine ⟨_, _, ⟨rfl, rfl⟩, ⟨q1, by omega⟩, fun h => by unfold heldR; rw [if_pos h], fun h => ⟨_, _, ⟨rfl, rfl⟩, ⟨h, by omega⟩, fun h2 => by unfold heldR; rw [if_neg (by omega), if_pos h2], fun h2 => by unfold heldR; rw [if_neg (by omega), if_neg (by omega)]⟩⟩
def mkR (r : RepoD) (k : Int) : RepoD := ⟨markCs r.commits k, markHs r.heads.length (kCs r.commits k)⟩
theorem heldR_mark (r : RepoD) (k : Int) (hk : 0 ≤ k) : heldR (mkR r k) k = kCs r.commits k + 2 * r.heads.length := by
  have h1 : heldCs (mkR r k).commits k = kCs r.commits k := heldCs_mark _ _
  have h2 : heldHs (mkR r k).heads (kCs r.commits k) = kCs r.commits k + 2 * r.heads.length := heldHs_mark _ _
  have h3 := kCs_ge r.commits k
  unfold heldR
  rw [h1, if_neg (by omega), h2, if_neg (by omega)]
theorem kCs_marks (r : RepoD) (k : Int) : kCs (mkR r k).commits k + 2 * (mkR r k).heads.length = kCs r.commits k + 2 * r.heads.length := by
  have h1 : kCs (mkR r k).commits k = kCs r.commits k := (markCs_same r.commits k).2
  have h2 : (mkR r k).heads.length = r.heads.length := markHs_len _ _
  rw [h1, h2]

end Vx
end Go.Proofs.YthmhaggmcfemnaaGreatDoor
/-
  Contracts: the law FnExactRepoRead.
-/
namespace Go.Proofs.YthmhaggmcfemnaaGreatDoor
namespace Vx
open Go.RowKit
set_option maxRecDepth 8000

theorem repoRead_is (s : Str) : repoReadI numS repoI s = repoReadS repoI s := repoRead_eq numS_dec (fun _ h => plainR_of h) s
theorem kCs_bd : ∀ {l : List CommitD}, (∀ c ∈ l, c.parents.length ≤ 2 ∧ c.tree.length ≤ 8 ∧ ∀ f ∈ c.tree, f.text.length ≤ 10) → ∀ k : Int, kCs l k ≤ k + 91 * l.length := by
  intro l
  induction l with
  | nil => intro _ k; simp -implicitDefEqProofs [kCs]
  | cons c l ih =>
    intro h k
    obtain ⟨h1, h2, h3⟩ := h c (by simp)
    have h4 := (kE_bd h2 h3 (k + c.parents.length + 1)).2
    have h5 := ih (fun x hx => h x (by simp -implicitDefEqProofs [hx])) (kC c k)
    have h6 : kC c k = kE c.tree (k + c.parents.length + 1) := rfl
    simp only [kCs, List.length_cons]
    omega
theorem repoReadS_bd (s : Str) : 1 ≤ kCs (repoReadS repoI s).1.commits 1 ∧ kCs (repoReadS repoI s).1.commits 1 + 2 * (repoReadS repoI s).1.heads.length ≤ 2000 := by
  obtain ⟨h1, h2⟩ := repoReadS_ok (ok := repoI) (s := s)
  refine ⟨kCs_ge _ _, ?_⟩
  cases hb : (repoReadS repoI s).2 with
  | true =>
    obtain ⟨q1, _⟩ := h1 hb
    have P := plainR_of q1
    have := kCs_bd (fun c hc => ⟨(P.com c hc).2.1, (P.com c hc).2.2.2.2.1, (P.com c hc).2.2.2.2.2⟩) 1
    have h3 := P.nc
    have h4 := P.nh
    omega
  | false => rw [h2 hb]; simp -implicitDefEqProofs [kCs]
theorem exRp {x : List CommitD} {y : List HeadD} {P : RepoD → Prop} : (∃ a : RepoD, a.commits = x ∧ a.heads = y ∧ P a) = P ⟨x, y⟩ := by
  refine propext ⟨?_, fun h => ⟨⟨x, y⟩, rfl, rfl, h⟩⟩
  rintro ⟨⟨c, h⟩, rfl, rfl, h3⟩
  exact h3

def cFnExactRepoRead : Con := { (Con.fn 66 Str (fun s => [.str s]) (fun _ => True) (fun _ => .bool true) (fun _ => [])) with need := numNeed }
set_option maxHeartbeats 4000000 in
theorem fnExactRepoRead_has : Has Tryz.prog 7 cFnExactRepoRead := by
  refine has_walk mixed tTab_ok (l := [(32, cRepoReadS), (33, cRepoReadI), (34, cEqRepo), (35, cMarkRepo), (36, cHeldRepo)]) (HasL.cons repoReadS_has (HasL.cons repoReadI_has (HasL.cons eqRepo_has (HasL.cons markRepo_has (HasL.cons heldRepo_has HasL.nil))))) [0, 2, 3, 4, 5, 6, 7, 8, 9, 10] ((fun a n (_ : Nat) => (fun _ => noInv) a n)) [] Tryz.func7 (by kernel_rfl) (code := _) (by unfold Tryz.f7; rfl) (by kernel_rfl) (by decide) (fun _ => ⟨(), trivial⟩) (by intro h; first | exact fun _ => rfl | cases h) (by kernel_rfl) ?_
  intro (s : Str) _
  have g7 := repoReadS_bd s
  have he := repoRead_is s
  have hm := heldR_mark
  have hm2 := kCs_marks
  simp -implicitDefEqProofs [vc_skip, extOf, vc_seq, vc_cond, vc_block, vc_exit, vc_ret, vc_region, vc_regionD, vc_loop, kSeq_normal, kSeq_ret, kSeq_exit, kBlock_normal, kBlock_ret, kBlock_exit, kLoop_normal, kLoop_ret, kLoop_exit, kCond_bool, kNorm_app, vcOps_nil, vcOps_cons, kOps_app, kStep_some, kStep_none, vcDL_nil, vcDL_cons, kOpsD_app, kStepD_true, kStepD_tt, kStepD_false, ldB, btys, btyAct, kStepC_some, kStepC_none, kMv_app, act3_store, act3_call, act3_bs, kAct_app, kSt2_app, stealSlots, stealL, stealOne, subIn, AV.stolen, act_store, act_bs, act_append, act_call, kSet_app, kSet2_app, kSetG_app, kSetG_app0, kStore_ptr, kStore_eptr, kCallW_some, kCallC_some, kCall_some, wk_T, wk_n, wk_keep, wk_inv, wk_act, wk_dr, wk_le, aCalm, wantC, dstOk, calm, aCallK, aCall3K, subOf, subRep, aCall2K, apnd, bsMove, putBox, putOwn, partAV, mvL, AV.mv, AV.base, AV.moved, kBld, bldK, wrK, stK, AV.selfOk, AV.src, TI.flat, apSize, pickAV, St.val, St.cond, St.fn, St.next, St.set, St.trim, wipe_eq, wipeE_app, wipeM_app, pickEnv, get?, cGet, upd_app, withPuts, killAll, rm, freshP, Oper.hnd, Sc.st, ofConst, constOk, lenAV, elemLen, loadAV, ldL, ld1, fieldAddrAV, indexAddrAV, sliceAV, convAV, buildAV, fillAV, fieldAV, Out.of, binAV, AV.rows, AV.one, AV.cells, AV.deepOk, AV.toD, toDs, partRows, partRowsM, partsDeep, TK.zeroAV, TK.zeroD, byteOf, inR, Op.operands, Call.operands, passVs, passV, passL, pass1, passB, pasVs, pasV, pasL, pas1, ownsOk, okHs, okHs2, okFin, finOk2, rho, over, backRes, backAV, backAV1, backBlk, putBack, back2, back2_V, back2_1, m2, AV.wipe, AV.wipeV, AV.wipe1, Blk.wipe, AV.hs, AV.hs.hsL, alOps, Con.start2, Con.pk, bodyQ, fini, resAV, resA, firstId, Sc.from, renEnv, renT, renV, renVs, renL, ren1, renBox, renOwn, okRen, clOf, actB, setRow, flatRows, flatD, noInv, shr_nil, shr_some, kStepF_some, shareL, AV.viewed, AV.viewed1, cFnExactRepoRead, cRepoReadS, cRepoReadI, cEqRepo, cMarkRepo, cHeldRepo, Con.fn, tTab]
  try dsimp only
  rw [he]
  generalize repoReadS repoI s = R at g7 ⊢
  obtain ⟨⟨cs, hs⟩, b⟩ := R
  have q1 : heldR ⟨markCs cs 1, markHs hs.length (kCs cs 1)⟩ 1 = kCs cs 1 + 2 * hs.length := hm ⟨cs, hs⟩ 1 (by omega)
  have q2 : kCs (markCs cs 1) 1 + 2 * (markHs hs.length (kCs cs 1)).length = kCs cs 1 + 2 * hs.length := hm2 ⟨cs, hs⟩ 1
  dsimp only at g7 ⊢
  clear hm hm2 he
  simp only [and_assoc, exists_eq_left, exists_and_left, exRp, q1, q2]
  cases b <;> simp <;> omega

end Vx
end Go.Proofs.YthmhaggmcfemnaaGreatDoor
