/-
  Joined by program (merge.py): Db, Dc, Dd, De, Df, Dg, Ha, Ia, Ib, Ic, Id, RowK, RowR, RowZ. It shows what the single texts show; conditions: none but those of each lemma.
-/
import Derived.Test.YtlhkmgbmnbkaeaaDoorWa
import Derived.Test.YtlhkmgbmnbkaeaaDoorRows
import Derived.Test.YtlhkmgbmnbkaeaaDoorCards
import Derived.Test.YtlhkmgbmnbkaeaaDoorTie
import Derived.ProofKit
import Derived.OpenShut
import Derived.ShutString
import Derived.Lay
import Derived.LaidMore
import Derived.SevenTiedAt
set_option linter.unusedVariables false
set_option linter.unusedSimpArgs false
set_option linter.unusedSectionVars false
/-
  Contracts: copies of repositories.
-/
namespace Go.Proofs.YtlhkmgbmnbkaeaaDoor
namespace Vx
open Go.RowKit

def cToIntS : Con := .fn 22 (List Int) (fun a => [.sl true 1 (eInts a)]) (fun a => a.length ≤ 1048576) (fun a => .own 8 1 (eInts a)) (fun a => ownInts 8 a)
set_option maxHeartbeats 4000000 in
theorem toIntS_has : Has Tryd.prog 166 cToIntS := by
  refine has_walk mixed tTab_ok (l := []) HasL.nil [0, 2, 3, 4] ((fun a n (_ : Nat) => (fun a _ => ⟨Nat × List Int, fun t => ⟨[(0, true, .sl true 1 (eInts a)), (2, true, .nil), (3, true, .own 9 1 (eInts t.2)), (4, true, .int .i64 t.1)], ownInts 9 t.2⟩, fun t => t.1 ≤ a.length ∧ t.2.length = a.length ∧ t.2.take t.1 = a.take t.1, fun t => a.length - t.1⟩) a n)) [] Tryd.func166 (by kernel_rfl) (code := _) (by unfold Tryd.f166; rfl) (by kernel_rfl) (by decide) (fun _ => ⟨(), trivial⟩) (by intro h; first | exact fun _ => rfl | cases h) (by kernel_rfl) ?_
  intro (a : List Int) ha
  replace ha : a.length ≤ 1048576 := ha
  simp -implicitDefEqProofs [vc_skip, extOf, vc_seq, vc_cond, vc_block, vc_exit, vc_ret, vc_region, vc_regionD, vc_loop, kSeq_normal, kSeq_ret, kSeq_exit, kBlock_normal, kBlock_ret, kBlock_exit, kLoop_normal, kLoop_ret, kLoop_exit, kCond_bool, kNorm_app, vcOps_nil, vcOps_cons, kOps_app, kStep_some, kStep_none, vcDL_nil, vcDL_cons, kOpsD_app, kStepD_true, kStepD_false, kStepC_some, kStepC_none, kMv_app, act3_store, act3_call, act3_bs, kAct_app, kSt2_app, stealSlots, stealL, stealOne, subIn, AV.stolen, act_store, act_bs, act_append, act_call, kSet_app, kSet2_app, kSetG_app, kSetG_app0, kStore_ptr, kStore_eptr, kCallW_some, kCallC_some, kCall_some, wk_T, wk_n, wk_keep, wk_inv, wk_act, wk_dr, wk_le, aCalm, wantC, dstOk, calm, aCallK, aCall3K, subOf, subRep, aCall2K, apnd, bsMove, putBox, putOwn, partAV, mvL, AV.mv, AV.base, AV.moved, AV.src, TI.flat, apSize, pickAV, St.val, St.cond, St.fn, St.next, St.set, St.trim, wipe_eq, wipeE_app, wipeM_app, pickEnv, get?, cGet, upd_app, withPuts, killAll, rm, freshP, Oper.hnd, Sc.st, ofConst, constOk, lenAV, elemLen, loadAV, ldL, ld1, fieldAddrAV, indexAddrAV, sliceAV, convAV, buildAV, fillAV, fieldAV, Out.of, binAV, AV.rows, AV.one, AV.cells, AV.deepOk, AV.toD, toDs, partRows, partRowsM, partsDeep, TK.zeroAV, TK.zeroD, byteOf, inR, Op.operands, Call.operands, passVs, passV, passL, pass1, passB, pasVs, pasV, pasL, pas1, ownsOk, okHs, okHs2, okFin, finOk2, rho, over, backRes, backAV, backAV1, backBlk, putBack, back2, back2_V, back2_1, m2, AV.wipe, AV.wipeV, AV.wipe1, Blk.wipe, AV.hs, AV.hs.hsL, alOps, Con.start2, Con.pk, bodyQ, fini, resAV, resA, firstId, Sc.from, renEnv, renT, renV, renVs, renL, ren1, renBox, renOwn, okRen, clOf, actB, setRow, flatRows, flatD, noInv, shr_nil, shr_some, kStepF_some, shareL, AV.viewed, AV.viewed1, cToIntS, Con.fn, tTab]
  try dsimp only
  try simp +contextual [eStr, eFile, cast_succ, cast_eq, cast_zero, List.getElem?_eq_getElem, eStrs_set, eFiles_set, eStrs_rep, eFiles_rep, ← eStrs_append, ← eFiles_append, eStrs_take, eStrs_drop, eFiles_take, eFiles_drop, eStrs_snoc, eFiles_snoc, and_assoc, eInt, eHead, eCommit, lCommit, eInts_set, eInts_rep, eInts_take, eInts_drop, eInts_snoc, ← eInts_append, eHeads_set, eHeads_rep, eHeads_take, eHeads_drop, eHeads_snoc, ← eHeads_append, eCommits_set, eCommits_rep, eCommits_take, eCommits_drop, eCommits_snoc, ← eCommits_append]
  repeat' (first | intro _ | apply And.intro)
  all_goals first | omega | grind [all_take, set_take, eq_end]

def cToHead : Con := .fn 11 HeadD (fun f => [.agg [.str f.name, .int .i64 f.at_]]) (fun _ => True) (fun f => .agg [.str f.name, .int .i64 f.at_]) (fun _ => [])
set_option maxHeartbeats 4000000 in
theorem toHead_has : Has Tryd.prog 103 cToHead := by
  refine has_walk mixed tTab_ok (l := []) HasL.nil [0, 1, 2, 3] ((fun a n (_ : Nat) => (fun _ => noInv) a n)) [] Tryd.func103 (by kernel_rfl) (code := _) (by unfold Tryd.f103; rfl) (by kernel_rfl) (by decide) (fun _ => ⟨(), trivial⟩) (by intro h; first | exact fun _ => rfl | cases h) (by kernel_rfl) ?_
  intro f _
  obtain ⟨p, x⟩ := f
  simp -implicitDefEqProofs [vc_skip, extOf, vc_seq, vc_cond, vc_block, vc_exit, vc_ret, vc_region, vc_regionD, vc_loop, kSeq_normal, kSeq_ret, kSeq_exit, kBlock_normal, kBlock_ret, kBlock_exit, kLoop_normal, kLoop_ret, kLoop_exit, kCond_bool, kNorm_app, vcOps_nil, vcOps_cons, kOps_app, kStep_some, kStep_none, vcDL_nil, vcDL_cons, kOpsD_app, kStepD_true, kStepD_false, kStepC_some, kStepC_none, kMv_app, act3_store, act3_call, act3_bs, kAct_app, kSt2_app, stealSlots, stealL, stealOne, subIn, AV.stolen, act_store, act_bs, act_append, act_call, kSet_app, kSet2_app, kSetG_app, kSetG_app0, kStore_ptr, kStore_eptr, kCallW_some, kCallC_some, kCall_some, wk_T, wk_n, wk_keep, wk_inv, wk_act, wk_dr, wk_le, aCalm, wantC, dstOk, calm, aCallK, aCall3K, subOf, subRep, aCall2K, apnd, bsMove, putBox, putOwn, partAV, mvL, AV.mv, AV.base, AV.moved, AV.src, TI.flat, apSize, pickAV, St.val, St.cond, St.fn, St.next, St.set, St.trim, wipe_eq, wipeE_app, wipeM_app, pickEnv, get?, cGet, upd_app, withPuts, killAll, rm, freshP, Oper.hnd, Sc.st, ofConst, constOk, lenAV, elemLen, loadAV, ldL, ld1, fieldAddrAV, indexAddrAV, sliceAV, convAV, buildAV, fillAV, fieldAV, Out.of, binAV, AV.rows, AV.one, AV.cells, AV.deepOk, AV.toD, toDs, partRows, partRowsM, partsDeep, TK.zeroAV, TK.zeroD, byteOf, inR, Op.operands, Call.operands, passVs, passV, passL, pass1, passB, pasVs, pasV, pasL, pas1, ownsOk, okHs, okHs2, okFin, finOk2, rho, over, backRes, backAV, backAV1, backBlk, putBack, back2, back2_V, back2_1, m2, AV.wipe, AV.wipeV, AV.wipe1, Blk.wipe, AV.hs, AV.hs.hsL, alOps, Con.start2, Con.pk, bodyQ, fini, resAV, resA, firstId, Sc.from, renEnv, renT, renV, renVs, renL, ren1, renBox, renOwn, okRen, clOf, actB, setRow, flatRows, flatD, noInv, shr_nil, shr_some, kStepF_some, shareL, AV.viewed, AV.viewed1, cToHead, Con.fn, tTab]
  try dsimp only
  try simp +contextual [eStr, eFile, cast_succ, cast_eq, cast_zero, List.getElem?_eq_getElem, eStrs_set, eFiles_set, eStrs_rep, eFiles_rep, ← eStrs_append, ← eFiles_append, eStrs_take, eStrs_drop, eFiles_take, eFiles_drop, eStrs_snoc, eFiles_snoc, and_assoc]
  repeat' (first | intro _ | apply And.intro)
  all_goals first | omega | grind [all_take]

def cToHeadS : Con := .fn 23 (List HeadD) (fun a => [.sl true 2 (eHeads a)]) (fun a => a.length ≤ 1048576) (fun a => .own 8 2 (eHeads a)) (fun a => ownHeads 8 a)
set_option maxHeartbeats 4000000 in
theorem toHeadS_has : Has Tryd.prog 46 cToHeadS := by
  refine has_walk mixed tTab_ok (l := [(103, cToHead)]) (HasL.cons toHead_has HasL.nil) [0, 2, 3, 4] ((fun a n (_ : Nat) => (fun a _ => ⟨Nat × List HeadD, fun t => ⟨[(0, true, .sl true 2 (eHeads a)), (2, true, .nil), (3, true, .own 9 2 (eHeads t.2)), (4, true, .int .i64 t.1)], ownHeads 9 t.2⟩, fun t => t.1 ≤ a.length ∧ t.2.length = a.length ∧ t.2.take t.1 = a.take t.1, fun t => a.length - t.1⟩) a n)) [] Tryd.func46 (by kernel_rfl) (code := _) (by unfold Tryd.f46; rfl) (by kernel_rfl) (by decide) (fun _ => ⟨(), trivial⟩) (by intro h; first | exact fun _ => rfl | cases h) (by kernel_rfl) ?_
  intro (a : List HeadD) ha
  replace ha : a.length ≤ 1048576 := ha
  simp -implicitDefEqProofs [vc_skip, extOf, vc_seq, vc_cond, vc_block, vc_exit, vc_ret, vc_region, vc_regionD, vc_loop, kSeq_normal, kSeq_ret, kSeq_exit, kBlock_normal, kBlock_ret, kBlock_exit, kLoop_normal, kLoop_ret, kLoop_exit, kCond_bool, kNorm_app, vcOps_nil, vcOps_cons, kOps_app, kStep_some, kStep_none, vcDL_nil, vcDL_cons, kOpsD_app, kStepD_true, kStepD_false, kStepC_some, kStepC_none, kMv_app, act3_store, act3_call, act3_bs, kAct_app, kSt2_app, stealSlots, stealL, stealOne, subIn, AV.stolen, act_store, act_bs, act_append, act_call, kSet_app, kSet2_app, kSetG_app, kSetG_app0, kStore_ptr, kStore_eptr, kCallW_some, kCallC_some, kCall_some, wk_T, wk_n, wk_keep, wk_inv, wk_act, wk_dr, wk_le, aCalm, wantC, dstOk, calm, aCallK, aCall3K, subOf, subRep, aCall2K, apnd, bsMove, putBox, putOwn, partAV, mvL, AV.mv, AV.base, AV.moved, AV.src, TI.flat, apSize, pickAV, St.val, St.cond, St.fn, St.next, St.set, St.trim, wipe_eq, wipeE_app, wipeM_app, pickEnv, get?, cGet, upd_app, withPuts, killAll, rm, freshP, Oper.hnd, Sc.st, ofConst, constOk, lenAV, elemLen, loadAV, ldL, ld1, fieldAddrAV, indexAddrAV, sliceAV, convAV, buildAV, fillAV, fieldAV, Out.of, binAV, AV.rows, AV.one, AV.cells, AV.deepOk, AV.toD, toDs, partRows, partRowsM, partsDeep, TK.zeroAV, TK.zeroD, byteOf, inR, Op.operands, Call.operands, passVs, passV, passL, pass1, passB, pasVs, pasV, pasL, pas1, ownsOk, okHs, okHs2, okFin, finOk2, rho, over, backRes, backAV, backAV1, backBlk, putBack, back2, back2_V, back2_1, m2, AV.wipe, AV.wipeV, AV.wipe1, Blk.wipe, AV.hs, AV.hs.hsL, alOps, Con.start2, Con.pk, bodyQ, fini, resAV, resA, firstId, Sc.from, renEnv, renT, renV, renVs, renL, ren1, renBox, renOwn, okRen, clOf, actB, setRow, flatRows, flatD, noInv, shr_nil, shr_some, kStepF_some, shareL, AV.viewed, AV.viewed1, cToHeadS, Con.fn, tTab, cToHead]
  try dsimp only
  try simp +contextual [eStr, eFile, cast_succ, cast_eq, cast_zero, List.getElem?_eq_getElem, eStrs_set, eFiles_set, eStrs_rep, eFiles_rep, ← eStrs_append, ← eFiles_append, eStrs_take, eStrs_drop, eFiles_take, eFiles_drop, eStrs_snoc, eFiles_snoc, and_assoc, eInt, eHead, eCommit, lCommit, eInts_set, eInts_rep, eInts_take, eInts_drop, eInts_snoc, ← eInts_append, eHeads_set, eHeads_rep, eHeads_take, eHeads_drop, eHeads_snoc, ← eHeads_append, eCommits_set, eCommits_rep, eCommits_take, eCommits_drop, eCommits_snoc, ← eCommits_append, ← HeadD.eq_iff]
  repeat' (first | intro _ | apply And.intro)
  all_goals first | omega | grind [all_take, set_take, eq_end]

def cToCommit : Con := .fn 16 CommitD (fun f => [.agg [.sl true 1 (eInts f.parents), .str f.who, .sl true 2 (eFiles f.tree)]]) (fun f => f.parents.length ≤ 1048576 ∧ f.tree.length ≤ 1048576 ∧ ∀ g ∈ f.tree, g.text.length ≤ 1048576) (fun f => .agg [.own 8 1 (eInts f.parents), .str f.who, .own 9 2 (eFiles f.tree)]) (fun f => ownInts 8 f.parents ++ ownFiles 9 f.tree)
set_option maxHeartbeats 4000000 in
theorem toCommit_has : Has Tryd.prog 146 cToCommit := by
  refine has_walk mixed tTab_ok (l := [(166, cToIntS), (23, cToFileS)]) (HasL.cons toIntS_has (HasL.cons toFileS_has HasL.nil)) [0, 1, 2, 3] ((fun a n (_ : Nat) => (fun _ => noInv) a n)) [] Tryd.func146 (by kernel_rfl) (code := _) (by unfold Tryd.f146; rfl) (by kernel_rfl) (by decide) (fun _ => ⟨(), trivial⟩) (by intro h; first | exact fun _ => rfl | cases h) (by kernel_rfl) ?_
  intro f hf
  obtain ⟨p, x, t⟩ := f
  obtain ⟨h1, h2, h3⟩ : p.length ≤ 1048576 ∧ t.length ≤ 1048576 ∧ ∀ g ∈ t, g.text.length ≤ 1048576 := hf
  simp -implicitDefEqProofs [vc_skip, extOf, vc_seq, vc_cond, vc_block, vc_exit, vc_ret, vc_region, vc_regionD, vc_loop, kSeq_normal, kSeq_ret, kSeq_exit, kBlock_normal, kBlock_ret, kBlock_exit, kLoop_normal, kLoop_ret, kLoop_exit, kCond_bool, kNorm_app, vcOps_nil, vcOps_cons, kOps_app, kStep_some, kStep_none, vcDL_nil, vcDL_cons, kOpsD_app, kStepD_true, kStepD_false, kStepC_some, kStepC_none, kMv_app, act3_store, act3_call, act3_bs, kAct_app, kSt2_app, stealSlots, stealL, stealOne, subIn, AV.stolen, act_store, act_bs, act_append, act_call, kSet_app, kSet2_app, kSetG_app, kSetG_app0, kStore_ptr, kStore_eptr, kCallW_some, kCallC_some, kCall_some, wk_T, wk_n, wk_keep, wk_inv, wk_act, wk_dr, wk_le, aCalm, wantC, dstOk, calm, aCallK, aCall3K, subOf, subRep, aCall2K, apnd, bsMove, putBox, putOwn, partAV, mvL, AV.mv, AV.base, AV.moved, AV.src, TI.flat, apSize, pickAV, St.val, St.cond, St.fn, St.next, St.set, St.trim, wipe_eq, wipeE_app, wipeM_app, pickEnv, get?, cGet, upd_app, withPuts, killAll, rm, freshP, Oper.hnd, Sc.st, ofConst, constOk, lenAV, elemLen, loadAV, ldL, ld1, fieldAddrAV, indexAddrAV, sliceAV, convAV, buildAV, fillAV, fieldAV, Out.of, binAV, AV.rows, AV.one, AV.cells, AV.deepOk, AV.toD, toDs, partRows, partRowsM, partsDeep, TK.zeroAV, TK.zeroD, byteOf, inR, Op.operands, Call.operands, passVs, passV, passL, pass1, passB, pasVs, pasV, pasL, pas1, ownsOk, okHs, okHs2, okFin, finOk2, rho, over, backRes, backAV, backAV1, backBlk, putBack, back2, back2_V, back2_1, m2, AV.wipe, AV.wipeV, AV.wipe1, Blk.wipe, AV.hs, AV.hs.hsL, alOps, Con.start2, Con.pk, bodyQ, fini, resAV, resA, firstId, Sc.from, renEnv, renT, renV, renVs, renL, ren1, renBox, renOwn, okRen, clOf, actB, setRow, flatRows, flatD, noInv, shr_nil, shr_some, kStepF_some, shareL, AV.viewed, AV.viewed1, cToCommit, Con.fn, tTab, cToIntS, cToFileS]
  try dsimp only
  try simp +contextual [eStr, eFile, cast_succ, cast_eq, cast_zero, List.getElem?_eq_getElem, eStrs_set, eFiles_set, eStrs_rep, eFiles_rep, ← eStrs_append, ← eFiles_append, eStrs_take, eStrs_drop, eFiles_take, eFiles_drop, eStrs_snoc, eFiles_snoc, and_assoc]
  repeat' (first | intro _ | apply And.intro)
  all_goals first | omega | grind [all_take]

def cmSz (c : CommitD) : Prop := c.parents.length ≤ 1048576 ∧ c.tree.length ≤ 1048576 ∧ ∀ g ∈ c.tree, g.text.length ≤ 1048576
def cToCommitS : Con := .fn 23 (List CommitD) (fun a => [.sl true 3 (lCommits a)]) (fun a => a.length ≤ 1048576 ∧ ∀ c ∈ a, cmSz c) (fun a => .own 8 3 (eCommits a)) (fun a => ownCommits 8 a)
set_option maxHeartbeats 4000000 in
theorem toCommitS_has : Has Tryd.prog 102 cToCommitS := by
  refine has_walk mixed tTab_ok (l := [(146, cToCommit)]) (HasL.cons toCommit_has HasL.nil) [0, 2, 3, 4] ((fun a n (_ : Nat) => (fun a _ => ⟨Nat × List CommitD, fun t => ⟨[(0, true, .sl true 3 (lCommits a)), (2, true, .nil), (3, true, .own 9 3 (eCommits t.2)), (4, true, .int .i64 t.1)], ownCommits 9 t.2⟩, fun t => t.1 ≤ a.length ∧ t.2.length = a.length ∧ t.2.take t.1 = a.take t.1, fun t => a.length - t.1⟩) a n)) [] Tryd.func102 (by kernel_rfl) (code := _) (by unfold Tryd.f102; rfl) (by kernel_rfl) (by decide) (fun _ => ⟨(), trivial⟩) (by intro h; first | exact fun _ => rfl | cases h) (by kernel_rfl) ?_
  intro (a : List CommitD) ha
  obtain ⟨h1, h2⟩ : a.length ≤ 1048576 ∧ ∀ c ∈ a, cmSz c := ha
  have h3 : ∀ i (h : i < a.length), a[i].parents.length ≤ 1048576 ∧ a[i].tree.length ≤ 1048576 ∧ ∀ g ∈ a[i].tree, g.text.length ≤ 1048576 := fun i h => h2 _ (List.getElem_mem h)
  simp -implicitDefEqProofs [vc_skip, extOf, vc_seq, vc_cond, vc_block, vc_exit, vc_ret, vc_region, vc_regionD, vc_loop, kSeq_normal, kSeq_ret, kSeq_exit, kBlock_normal, kBlock_ret, kBlock_exit, kLoop_normal, kLoop_ret, kLoop_exit, kCond_bool, kNorm_app, vcOps_nil, vcOps_cons, kOps_app, kStep_some, kStep_none, vcDL_nil, vcDL_cons, kOpsD_app, kStepD_true, kStepD_false, kStepC_some, kStepC_none, kMv_app, act3_store, act3_call, act3_bs, kAct_app, kSt2_app, stealSlots, stealL, stealOne, subIn, AV.stolen, act_store, act_bs, act_append, act_call, kSet_app, kSet2_app, kSetG_app, kSetG_app0, kStore_ptr, kStore_eptr, kCallW_some, kCallC_some, kCall_some, wk_T, wk_n, wk_keep, wk_inv, wk_act, wk_dr, wk_le, aCalm, wantC, dstOk, calm, aCallK, aCall3K, subOf, subRep, aCall2K, apnd, bsMove, putBox, putOwn, partAV, mvL, AV.mv, AV.base, AV.moved, AV.src, TI.flat, apSize, pickAV, St.val, St.cond, St.fn, St.next, St.set, St.trim, wipe_eq, wipeE_app, wipeM_app, pickEnv, get?, cGet, upd_app, withPuts, killAll, rm, freshP, Oper.hnd, Sc.st, ofConst, constOk, lenAV, elemLen, loadAV, ldL, ld1, fieldAddrAV, indexAddrAV, sliceAV, convAV, buildAV, fillAV, fieldAV, Out.of, binAV, AV.rows, AV.one, AV.cells, AV.deepOk, AV.toD, toDs, partRows, partRowsM, partsDeep, TK.zeroAV, TK.zeroD, byteOf, inR, Op.operands, Call.operands, passVs, passV, passL, pass1, passB, pasVs, pasV, pasL, pas1, ownsOk, okHs, okHs2, okFin, finOk2, rho, over, backRes, backAV, backAV1, backBlk, putBack, back2, back2_V, back2_1, m2, AV.wipe, AV.wipeV, AV.wipe1, Blk.wipe, AV.hs, AV.hs.hsL, alOps, Con.start2, Con.pk, bodyQ, fini, resAV, resA, firstId, Sc.from, renEnv, renT, renV, renVs, renL, ren1, renBox, renOwn, okRen, clOf, actB, setRow, flatRows, flatD, noInv, shr_nil, shr_some, kStepF_some, shareL, AV.viewed, AV.viewed1, cToCommitS, Con.fn, tTab, cToCommit]
  try dsimp only
  try simp +contextual [eStr, eFile, cast_succ, cast_eq, cast_zero, List.getElem?_eq_getElem, eStrs_set, eFiles_set, eStrs_rep, eFiles_rep, ← eStrs_append, ← eFiles_append, eStrs_take, eStrs_drop, eFiles_take, eFiles_drop, eStrs_snoc, eFiles_snoc, and_assoc, eInt, eHead, eCommit, lCommit, eInts_set, eInts_rep, eInts_take, eInts_drop, eInts_snoc, ← eInts_append, eHeads_set, eHeads_rep, eHeads_take, eHeads_drop, eHeads_snoc, ← eHeads_append, eCommits_set, eCommits_rep, eCommits_take, eCommits_drop, eCommits_snoc, ← eCommits_append, ← CommitD.eq_iff]
  repeat' (first | intro _ | apply And.intro)
  all_goals first | omega | grind [all_take, set_take, eq_end]

def rpSz (r : RepoD) : Prop := r.commits.length ≤ 1048576 ∧ (∀ c ∈ r.commits, cmSz c) ∧ r.heads.length ≤ 1048576
def cToRepo : Con := .fn 13 RepoD (fun r => [lRepo r]) rpSz (fun r => .agg [.own 8 3 (eCommits r.commits), .own 9 2 (eHeads r.heads)]) (fun r => ownCommits 8 r.commits ++ ownHeads 9 r.heads)
set_option maxHeartbeats 4000000 in
theorem toRepo_has : Has Tryd.prog 45 cToRepo := by
  refine has_walk mixed tTab_ok (l := [(102, cToCommitS), (46, cToHeadS)]) (HasL.cons toCommitS_has (HasL.cons toHeadS_has HasL.nil)) [0, 1, 2, 3] ((fun a n (_ : Nat) => (fun _ => noInv) a n)) [] Tryd.func45 (by kernel_rfl) (code := _) (by unfold Tryd.f45; rfl) (by kernel_rfl) (by decide) (fun _ => ⟨(), trivial⟩) (by intro h; first | exact fun _ => rfl | cases h) (by kernel_rfl) ?_
  intro f hf
  obtain ⟨p, x⟩ := f
  obtain ⟨h1, h2, h3⟩ : p.length ≤ 1048576 ∧ (∀ c ∈ p, c.parents.length ≤ 1048576 ∧ c.tree.length ≤ 1048576 ∧ ∀ g ∈ c.tree, g.text.length ≤ 1048576) ∧ x.length ≤ 1048576 := hf
  simp -implicitDefEqProofs [vc_skip, extOf, vc_seq, vc_cond, vc_block, vc_exit, vc_ret, vc_region, vc_regionD, vc_loop, kSeq_normal, kSeq_ret, kSeq_exit, kBlock_normal, kBlock_ret, kBlock_exit, kLoop_normal, kLoop_ret, kLoop_exit, kCond_bool, kNorm_app, vcOps_nil, vcOps_cons, kOps_app, kStep_some, kStep_none, vcDL_nil, vcDL_cons, kOpsD_app, kStepD_true, kStepD_false, kStepC_some, kStepC_none, kMv_app, act3_store, act3_call, act3_bs, kAct_app, kSt2_app, stealSlots, stealL, stealOne, subIn, AV.stolen, act_store, act_bs, act_append, act_call, kSet_app, kSet2_app, kSetG_app, kSetG_app0, kStore_ptr, kStore_eptr, kCallW_some, kCallC_some, kCall_some, wk_T, wk_n, wk_keep, wk_inv, wk_act, wk_dr, wk_le, aCalm, wantC, dstOk, calm, aCallK, aCall3K, subOf, subRep, aCall2K, apnd, bsMove, putBox, putOwn, partAV, mvL, AV.mv, AV.base, AV.moved, AV.src, TI.flat, apSize, pickAV, St.val, St.cond, St.fn, St.next, St.set, St.trim, wipe_eq, wipeE_app, wipeM_app, pickEnv, get?, cGet, upd_app, withPuts, killAll, rm, freshP, Oper.hnd, Sc.st, ofConst, constOk, lenAV, elemLen, loadAV, ldL, ld1, fieldAddrAV, indexAddrAV, sliceAV, convAV, buildAV, fillAV, fieldAV, Out.of, binAV, AV.rows, AV.one, AV.cells, AV.deepOk, AV.toD, toDs, partRows, partRowsM, partsDeep, TK.zeroAV, TK.zeroD, byteOf, inR, Op.operands, Call.operands, passVs, passV, passL, pass1, passB, pasVs, pasV, pasL, pas1, ownsOk, okHs, okHs2, okFin, finOk2, rho, over, backRes, backAV, backAV1, backBlk, putBack, back2, back2_V, back2_1, m2, AV.wipe, AV.wipeV, AV.wipe1, Blk.wipe, AV.hs, AV.hs.hsL, alOps, Con.start2, Con.pk, bodyQ, fini, resAV, resA, firstId, Sc.from, renEnv, renT, renV, renVs, renL, ren1, renBox, renOwn, okRen, clOf, actB, setRow, flatRows, flatD, noInv, shr_nil, shr_some, kStepF_some, shareL, AV.viewed, AV.viewed1, cToRepo, Con.fn, tTab, cToCommitS, cToHeadS, cmSz]
  try dsimp only
  try simp +contextual [eStr, eFile, cast_succ, cast_eq, cast_zero, List.getElem?_eq_getElem, eStrs_set, eFiles_set, eStrs_rep, eFiles_rep, ← eStrs_append, ← eFiles_append, eStrs_take, eStrs_drop, eFiles_take, eFiles_drop, eStrs_snoc, eFiles_snoc, and_assoc]
  repeat' (first | intro _ | apply And.intro)
  all_goals first | omega | grind [all_take]

end Vx
end Go.Proofs.YtlhkmgbmnbkaeaaDoor
/-
  Contracts: comparisons of repositories.
-/
namespace Go.Proofs.YtlhkmgbmnbkaeaaDoor
namespace Vx
open Go.RowKit

def cEqIntS : Con := .fn 26 (List Int × List Int) (fun a => [.sl true 1 (eInts a.1), .sl true 1 (eInts a.2)]) (fun _ => True) (fun a => .bool (decide (a.1 = a.2))) (fun _ => [])
set_option maxHeartbeats 4000000 in
theorem eqIntS_has : Has Tryd.prog 57 cEqIntS := by
  refine has_walk mixed tTab_ok (l := []) HasL.nil [0, 1, 2, 3, 4, 5] ((fun a n (_ : Nat) => (fun a _ => ⟨Nat, fun i => ⟨[(0, true, .sl true 1 (eInts a.1)), (1, true, .sl true 1 (eInts a.2)), (4, true, .bool false), (5, true, .int .i64 i)], []⟩, fun i => i ≤ a.1.length ∧ a.1.length = a.2.length ∧ a.1.take i = a.2.take i, fun i => a.1.length - i⟩) a n)) [] Tryd.func57 (by kernel_rfl) (code := _) (by unfold Tryd.f57; rfl) (by kernel_rfl) (by decide) (fun _ => ⟨(), trivial⟩) (by intro h; first | exact fun _ => rfl | cases h) (by kernel_rfl) ?_
  intro a _
  obtain ⟨l, r⟩ := a
  simp -implicitDefEqProofs [vc_skip, extOf, vc_seq, vc_cond, vc_block, vc_exit, vc_ret, vc_region, vc_regionD, vc_loop, kSeq_normal, kSeq_ret, kSeq_exit, kBlock_normal, kBlock_ret, kBlock_exit, kLoop_normal, kLoop_ret, kLoop_exit, kCond_bool, kNorm_app, vcOps_nil, vcOps_cons, kOps_app, kStep_some, kStep_none, vcDL_nil, vcDL_cons, kOpsD_app, kStepD_true, kStepD_false, kStepC_some, kStepC_none, kMv_app, act3_store, act3_call, act3_bs, kAct_app, kSt2_app, stealSlots, stealL, stealOne, subIn, AV.stolen, act_store, act_bs, act_append, act_call, kSet_app, kSet2_app, kSetG_app, kSetG_app0, kStore_ptr, kStore_eptr, kCallW_some, kCallC_some, kCall_some, wk_T, wk_n, wk_keep, wk_inv, wk_act, wk_dr, wk_le, aCalm, wantC, dstOk, calm, aCallK, aCall3K, subOf, subRep, aCall2K, apnd, bsMove, putBox, putOwn, partAV, mvL, AV.mv, AV.base, AV.moved, AV.src, TI.flat, apSize, pickAV, St.val, St.cond, St.fn, St.next, St.set, St.trim, wipe_eq, wipeE_app, wipeM_app, pickEnv, get?, cGet, upd_app, withPuts, killAll, rm, freshP, Oper.hnd, Sc.st, ofConst, constOk, lenAV, elemLen, loadAV, ldL, ld1, fieldAddrAV, indexAddrAV, sliceAV, convAV, buildAV, fillAV, fieldAV, Out.of, binAV, AV.rows, AV.one, AV.cells, AV.deepOk, AV.toD, toDs, partRows, partRowsM, partsDeep, TK.zeroAV, TK.zeroD, byteOf, inR, Op.operands, Call.operands, passVs, passV, passL, pass1, passB, pasVs, pasV, pasL, pas1, ownsOk, okHs, okHs2, okFin, finOk2, rho, over, backRes, backAV, backAV1, backBlk, putBack, back2, back2_V, back2_1, m2, AV.wipe, AV.wipeV, AV.wipe1, Blk.wipe, AV.hs, AV.hs.hsL, alOps, Con.start2, Con.pk, bodyQ, fini, resAV, resA, firstId, Sc.from, renEnv, renT, renV, renVs, renL, ren1, renBox, renOwn, okRen, clOf, actB, setRow, flatRows, flatD, noInv, shr_nil, shr_some, kStepF_some, shareL, AV.viewed, AV.viewed1, cEqIntS, Con.fn, tTab]
  try dsimp only
  try simp +contextual [eStr, eFile, cast_succ, cast_eq, cast_zero, List.getElem?_eq_getElem, eStrs_set, eFiles_set, eStrs_rep, eFiles_rep, ← eStrs_append, ← eFiles_append, eStrs_take, eStrs_drop, eFiles_take, eFiles_drop, eStrs_snoc, eFiles_snoc, and_assoc, eInt, eHead, eCommit, lCommit, eInts_set, eInts_rep, eInts_take, eInts_drop, eInts_snoc, ← eInts_append, eHeads_set, eHeads_rep, eHeads_take, eHeads_drop, eHeads_snoc, ← eHeads_append, eCommits_set, eCommits_rep, eCommits_take, eCommits_drop, eCommits_snoc, ← eCommits_append]
  repeat' (first | intro _ | apply And.intro)
  all_goals first | omega | grind [all_take, eq_take, eq_end]

def cEqHead : Con := .fn 15 (HeadD × HeadD) (fun a => [.agg [.str a.1.name, .int .i64 a.1.at_], .agg [.str a.2.name, .int .i64 a.2.at_]]) (fun _ => True) (fun a => .bool (decide (a.1 = a.2))) (fun _ => [])
set_option maxHeartbeats 4000000 in
theorem eqHead_has : Has Tryd.prog 109 cEqHead := by
  refine has_walk mixed tTab_ok (l := []) HasL.nil [0, 1, 2, 3, 4] ((fun a n (_ : Nat) => (fun _ => noInv) a n)) [] Tryd.func109 (by kernel_rfl) (code := _) (by unfold Tryd.f109; rfl) (by kernel_rfl) (by decide) (fun _ => ⟨(), trivial⟩) (by intro h; first | exact fun _ => rfl | cases h) (by kernel_rfl) ?_
  intro a _
  obtain ⟨⟨p, x⟩, ⟨q, y⟩⟩ := a
  simp -implicitDefEqProofs [vc_skip, extOf, vc_seq, vc_cond, vc_block, vc_exit, vc_ret, vc_region, vc_regionD, vc_loop, kSeq_normal, kSeq_ret, kSeq_exit, kBlock_normal, kBlock_ret, kBlock_exit, kLoop_normal, kLoop_ret, kLoop_exit, kCond_bool, kNorm_app, vcOps_nil, vcOps_cons, kOps_app, kStep_some, kStep_none, vcDL_nil, vcDL_cons, kOpsD_app, kStepD_true, kStepD_false, kStepC_some, kStepC_none, kMv_app, act3_store, act3_call, act3_bs, kAct_app, kSt2_app, stealSlots, stealL, stealOne, subIn, AV.stolen, act_store, act_bs, act_append, act_call, kSet_app, kSet2_app, kSetG_app, kSetG_app0, kStore_ptr, kStore_eptr, kCallW_some, kCallC_some, kCall_some, wk_T, wk_n, wk_keep, wk_inv, wk_act, wk_dr, wk_le, aCalm, wantC, dstOk, calm, aCallK, aCall3K, subOf, subRep, aCall2K, apnd, bsMove, putBox, putOwn, partAV, mvL, AV.mv, AV.base, AV.moved, AV.src, TI.flat, apSize, pickAV, St.val, St.cond, St.fn, St.next, St.set, St.trim, wipe_eq, wipeE_app, wipeM_app, pickEnv, get?, cGet, upd_app, withPuts, killAll, rm, freshP, Oper.hnd, Sc.st, ofConst, constOk, lenAV, elemLen, loadAV, ldL, ld1, fieldAddrAV, indexAddrAV, sliceAV, convAV, buildAV, fillAV, fieldAV, Out.of, binAV, AV.rows, AV.one, AV.cells, AV.deepOk, AV.toD, toDs, partRows, partRowsM, partsDeep, TK.zeroAV, TK.zeroD, byteOf, inR, Op.operands, Call.operands, passVs, passV, passL, pass1, passB, pasVs, pasV, pasL, pas1, ownsOk, okHs, okHs2, okFin, finOk2, rho, over, backRes, backAV, backAV1, backBlk, putBack, back2, back2_V, back2_1, m2, AV.wipe, AV.wipeV, AV.wipe1, Blk.wipe, AV.hs, AV.hs.hsL, alOps, Con.start2, Con.pk, bodyQ, fini, resAV, resA, firstId, Sc.from, renEnv, renT, renV, renVs, renL, ren1, renBox, renOwn, okRen, clOf, actB, setRow, flatRows, flatD, noInv, shr_nil, shr_some, kStepF_some, shareL, AV.viewed, AV.viewed1, cEqHead, Con.fn, tTab]
  try dsimp only
  try simp +contextual [eStr, eFile, cast_succ, cast_eq, cast_zero, List.getElem?_eq_getElem, eStrs_set, eFiles_set, eStrs_rep, eFiles_rep, ← eStrs_append, ← eFiles_append, eStrs_take, eStrs_drop, eFiles_take, eFiles_drop, eStrs_snoc, eFiles_snoc, and_assoc]
  repeat' (first | intro _ | apply And.intro)
  all_goals first | omega | grind [all_take]

def cEqHeadS : Con := .fn 27 (List HeadD × List HeadD) (fun a => [.sl true 2 (eHeads a.1), .sl true 2 (eHeads a.2)]) (fun _ => True) (fun a => .bool (decide (a.1 = a.2))) (fun _ => [])
set_option maxHeartbeats 4000000 in
theorem eqHeadS_has : Has Tryd.prog 49 cEqHeadS := by
  refine has_walk mixed tTab_ok (l := [(109, cEqHead)]) (HasL.cons eqHead_has HasL.nil) [0, 1, 2, 3, 4, 5] ((fun a n (_ : Nat) => (fun a _ => ⟨Nat, fun i => ⟨[(0, true, .sl true 2 (eHeads a.1)), (1, true, .sl true 2 (eHeads a.2)), (4, true, .bool false), (5, true, .int .i64 i)], []⟩, fun i => i ≤ a.1.length ∧ a.1.length = a.2.length ∧ a.1.take i = a.2.take i, fun i => a.1.length - i⟩) a n)) [] Tryd.func49 (by kernel_rfl) (code := _) (by unfold Tryd.f49; rfl) (by kernel_rfl) (by decide) (fun _ => ⟨(), trivial⟩) (by intro h; first | exact fun _ => rfl | cases h) (by kernel_rfl) ?_
  intro a _
  obtain ⟨l, r⟩ := a
  simp -implicitDefEqProofs [vc_skip, extOf, vc_seq, vc_cond, vc_block, vc_exit, vc_ret, vc_region, vc_regionD, vc_loop, kSeq_normal, kSeq_ret, kSeq_exit, kBlock_normal, kBlock_ret, kBlock_exit, kLoop_normal, kLoop_ret, kLoop_exit, kCond_bool, kNorm_app, vcOps_nil, vcOps_cons, kOps_app, kStep_some, kStep_none, vcDL_nil, vcDL_cons, kOpsD_app, kStepD_true, kStepD_false, kStepC_some, kStepC_none, kMv_app, act3_store, act3_call, act3_bs, kAct_app, kSt2_app, stealSlots, stealL, stealOne, subIn, AV.stolen, act_store, act_bs, act_append, act_call, kSet_app, kSet2_app, kSetG_app, kSetG_app0, kStore_ptr, kStore_eptr, kCallW_some, kCallC_some, kCall_some, wk_T, wk_n, wk_keep, wk_inv, wk_act, wk_dr, wk_le, aCalm, wantC, dstOk, calm, aCallK, aCall3K, subOf, subRep, aCall2K, apnd, bsMove, putBox, putOwn, partAV, mvL, AV.mv, AV.base, AV.moved, AV.src, TI.flat, apSize, pickAV, St.val, St.cond, St.fn, St.next, St.set, St.trim, wipe_eq, wipeE_app, wipeM_app, pickEnv, get?, cGet, upd_app, withPuts, killAll, rm, freshP, Oper.hnd, Sc.st, ofConst, constOk, lenAV, elemLen, loadAV, ldL, ld1, fieldAddrAV, indexAddrAV, sliceAV, convAV, buildAV, fillAV, fieldAV, Out.of, binAV, AV.rows, AV.one, AV.cells, AV.deepOk, AV.toD, toDs, partRows, partRowsM, partsDeep, TK.zeroAV, TK.zeroD, byteOf, inR, Op.operands, Call.operands, passVs, passV, passL, pass1, passB, pasVs, pasV, pasL, pas1, ownsOk, okHs, okHs2, okFin, finOk2, rho, over, backRes, backAV, backAV1, backBlk, putBack, back2, back2_V, back2_1, m2, AV.wipe, AV.wipeV, AV.wipe1, Blk.wipe, AV.hs, AV.hs.hsL, alOps, Con.start2, Con.pk, bodyQ, fini, resAV, resA, firstId, Sc.from, renEnv, renT, renV, renVs, renL, ren1, renBox, renOwn, okRen, clOf, actB, setRow, flatRows, flatD, noInv, shr_nil, shr_some, kStepF_some, shareL, AV.viewed, AV.viewed1, cEqHeadS, Con.fn, tTab, cEqHead]
  try dsimp only
  try simp +contextual [eStr, eFile, cast_succ, cast_eq, cast_zero, List.getElem?_eq_getElem, eStrs_set, eFiles_set, eStrs_rep, eFiles_rep, ← eStrs_append, ← eFiles_append, eStrs_take, eStrs_drop, eFiles_take, eFiles_drop, eStrs_snoc, eFiles_snoc, and_assoc, eInt, eHead, eCommit, lCommit, eInts_set, eInts_rep, eInts_take, eInts_drop, eInts_snoc, ← eInts_append, eHeads_set, eHeads_rep, eHeads_take, eHeads_drop, eHeads_snoc, ← eHeads_append, eCommits_set, eCommits_rep, eCommits_take, eCommits_drop, eCommits_snoc, ← eCommits_append, ← HeadD.eq_iff]
  repeat' (first | intro _ | apply And.intro)
  all_goals first | omega | grind [all_take, eq_take, eq_end]

def cEqCommit : Con := .fn 22 (CommitD × CommitD) (fun a => [.agg [.sl true 1 (eInts a.1.parents), .str a.1.who, .sl true 2 (eFiles a.1.tree)], .agg [.sl true 1 (eInts a.2.parents), .str a.2.who, .sl true 2 (eFiles a.2.tree)]]) (fun _ => True) (fun a => .bool (decide (a.1 = a.2))) (fun _ => [])
set_option maxHeartbeats 4000000 in
theorem eqCommit_has : Has Tryd.prog 148 cEqCommit := by
  refine has_walk mixed tTab_ok (l := [(57, cEqIntS), (25, cEqFileS)]) (HasL.cons eqIntS_has (HasL.cons eqFileS_has HasL.nil)) [0, 1, 2, 3, 4] ((fun a n (_ : Nat) => (fun _ => noInv) a n)) [] Tryd.func148 (by kernel_rfl) (code := _) (by unfold Tryd.f148; rfl) (by kernel_rfl) (by decide) (fun _ => ⟨(), trivial⟩) (by intro h; first | exact fun _ => rfl | cases h) (by kernel_rfl) ?_
  intro a _
  obtain ⟨⟨p, x, s⟩, ⟨q, y, t⟩⟩ := a
  simp -implicitDefEqProofs [vc_skip, extOf, vc_seq, vc_cond, vc_block, vc_exit, vc_ret, vc_region, vc_regionD, vc_loop, kSeq_normal, kSeq_ret, kSeq_exit, kBlock_normal, kBlock_ret, kBlock_exit, kLoop_normal, kLoop_ret, kLoop_exit, kCond_bool, kNorm_app, vcOps_nil, vcOps_cons, kOps_app, kStep_some, kStep_none, vcDL_nil, vcDL_cons, kOpsD_app, kStepD_true, kStepD_false, kStepC_some, kStepC_none, kMv_app, act3_store, act3_call, act3_bs, kAct_app, kSt2_app, stealSlots, stealL, stealOne, subIn, AV.stolen, act_store, act_bs, act_append, act_call, kSet_app, kSet2_app, kSetG_app, kSetG_app0, kStore_ptr, kStore_eptr, kCallW_some, kCallC_some, kCall_some, wk_T, wk_n, wk_keep, wk_inv, wk_act, wk_dr, wk_le, aCalm, wantC, dstOk, calm, aCallK, aCall3K, subOf, subRep, aCall2K, apnd, bsMove, putBox, putOwn, partAV, mvL, AV.mv, AV.base, AV.moved, AV.src, TI.flat, apSize, pickAV, St.val, St.cond, St.fn, St.next, St.set, St.trim, wipe_eq, wipeE_app, wipeM_app, pickEnv, get?, cGet, upd_app, withPuts, killAll, rm, freshP, Oper.hnd, Sc.st, ofConst, constOk, lenAV, elemLen, loadAV, ldL, ld1, fieldAddrAV, indexAddrAV, sliceAV, convAV, buildAV, fillAV, fieldAV, Out.of, binAV, AV.rows, AV.one, AV.cells, AV.deepOk, AV.toD, toDs, partRows, partRowsM, partsDeep, TK.zeroAV, TK.zeroD, byteOf, inR, Op.operands, Call.operands, passVs, passV, passL, pass1, passB, pasVs, pasV, pasL, pas1, ownsOk, okHs, okHs2, okFin, finOk2, rho, over, backRes, backAV, backAV1, backBlk, putBack, back2, back2_V, back2_1, m2, AV.wipe, AV.wipeV, AV.wipe1, Blk.wipe, AV.hs, AV.hs.hsL, alOps, Con.start2, Con.pk, bodyQ, fini, resAV, resA, firstId, Sc.from, renEnv, renT, renV, renVs, renL, ren1, renBox, renOwn, okRen, clOf, actB, setRow, flatRows, flatD, noInv, shr_nil, shr_some, kStepF_some, shareL, AV.viewed, AV.viewed1, cEqCommit, Con.fn, tTab, cEqIntS, cEqFileS]
  try dsimp only
  try simp +contextual [eStr, eFile, cast_succ, cast_eq, cast_zero, List.getElem?_eq_getElem, eStrs_set, eFiles_set, eStrs_rep, eFiles_rep, ← eStrs_append, ← eFiles_append, eStrs_take, eStrs_drop, eFiles_take, eFiles_drop, eStrs_snoc, eFiles_snoc, and_assoc]
  repeat' (first | intro _ | apply And.intro)
  all_goals first | omega | grind [all_take]

def cEqCommitS : Con := .fn 27 (List CommitD × List CommitD) (fun a => [.sl true 3 (eCommits a.1), .sl true 3 (eCommits a.2)]) (fun _ => True) (fun a => .bool (decide (a.1 = a.2))) (fun _ => [])
set_option maxHeartbeats 4000000 in
theorem eqCommitS_has : Has Tryd.prog 108 cEqCommitS := by
  refine has_walk mixed tTab_ok (l := [(148, cEqCommit)]) (HasL.cons eqCommit_has HasL.nil) [0, 1, 2, 3, 4, 5] ((fun a n (_ : Nat) => (fun a _ => ⟨Nat, fun i => ⟨[(0, true, .sl true 3 (eCommits a.1)), (1, true, .sl true 3 (eCommits a.2)), (4, true, .bool false), (5, true, .int .i64 i)], []⟩, fun i => i ≤ a.1.length ∧ a.1.length = a.2.length ∧ a.1.take i = a.2.take i, fun i => a.1.length - i⟩) a n)) [] Tryd.func108 (by kernel_rfl) (code := _) (by unfold Tryd.f108; rfl) (by kernel_rfl) (by decide) (fun _ => ⟨(), trivial⟩) (by intro h; first | exact fun _ => rfl | cases h) (by kernel_rfl) ?_
  intro a _
  obtain ⟨l, r⟩ := a
  simp -implicitDefEqProofs [vc_skip, extOf, vc_seq, vc_cond, vc_block, vc_exit, vc_ret, vc_region, vc_regionD, vc_loop, kSeq_normal, kSeq_ret, kSeq_exit, kBlock_normal, kBlock_ret, kBlock_exit, kLoop_normal, kLoop_ret, kLoop_exit, kCond_bool, kNorm_app, vcOps_nil, vcOps_cons, kOps_app, kStep_some, kStep_none, vcDL_nil, vcDL_cons, kOpsD_app, kStepD_true, kStepD_false, kStepC_some, kStepC_none, kMv_app, act3_store, act3_call, act3_bs, kAct_app, kSt2_app, stealSlots, stealL, stealOne, subIn, AV.stolen, act_store, act_bs, act_append, act_call, kSet_app, kSet2_app, kSetG_app, kSetG_app0, kStore_ptr, kStore_eptr, kCallW_some, kCallC_some, kCall_some, wk_T, wk_n, wk_keep, wk_inv, wk_act, wk_dr, wk_le, aCalm, wantC, dstOk, calm, aCallK, aCall3K, subOf, subRep, aCall2K, apnd, bsMove, putBox, putOwn, partAV, mvL, AV.mv, AV.base, AV.moved, AV.src, TI.flat, apSize, pickAV, St.val, St.cond, St.fn, St.next, St.set, St.trim, wipe_eq, wipeE_app, wipeM_app, pickEnv, get?, cGet, upd_app, withPuts, killAll, rm, freshP, Oper.hnd, Sc.st, ofConst, constOk, lenAV, elemLen, loadAV, ldL, ld1, fieldAddrAV, indexAddrAV, sliceAV, convAV, buildAV, fillAV, fieldAV, Out.of, binAV, AV.rows, AV.one, AV.cells, AV.deepOk, AV.toD, toDs, partRows, partRowsM, partsDeep, TK.zeroAV, TK.zeroD, byteOf, inR, Op.operands, Call.operands, passVs, passV, passL, pass1, passB, pasVs, pasV, pasL, pas1, ownsOk, okHs, okHs2, okFin, finOk2, rho, over, backRes, backAV, backAV1, backBlk, putBack, back2, back2_V, back2_1, m2, AV.wipe, AV.wipeV, AV.wipe1, Blk.wipe, AV.hs, AV.hs.hsL, alOps, Con.start2, Con.pk, bodyQ, fini, resAV, resA, firstId, Sc.from, renEnv, renT, renV, renVs, renL, ren1, renBox, renOwn, okRen, clOf, actB, setRow, flatRows, flatD, noInv, shr_nil, shr_some, kStepF_some, shareL, AV.viewed, AV.viewed1, cEqCommitS, Con.fn, tTab, cEqCommit]
  try dsimp only
  try simp +contextual [eStr, eFile, cast_succ, cast_eq, cast_zero, List.getElem?_eq_getElem, eStrs_set, eFiles_set, eStrs_rep, eFiles_rep, ← eStrs_append, ← eFiles_append, eStrs_take, eStrs_drop, eFiles_take, eFiles_drop, eStrs_snoc, eFiles_snoc, and_assoc, eInt, eHead, eCommit, lCommit, eInts_set, eInts_rep, eInts_take, eInts_drop, eInts_snoc, ← eInts_append, eHeads_set, eHeads_rep, eHeads_take, eHeads_drop, eHeads_snoc, ← eHeads_append, eCommits_set, eCommits_rep, eCommits_take, eCommits_drop, eCommits_snoc, ← eCommits_append, ← CommitD.eq_iff]
  repeat' (first | intro _ | apply And.intro)
  all_goals first | omega | grind [all_take, eq_take, eq_end]

def cEqRepo : Con := .fn 17 (RepoD × RepoD) (fun a => [vRepo a.1, vRepo a.2]) (fun _ => True) (fun a => .bool (decide (a.1 = a.2))) (fun _ => [])
set_option maxHeartbeats 4000000 in
theorem eqRepo_has : Has Tryd.prog 48 cEqRepo := by
  refine has_walk mixed tTab_ok (l := [(108, cEqCommitS), (49, cEqHeadS)]) (HasL.cons eqCommitS_has (HasL.cons eqHeadS_has HasL.nil)) [0, 1, 2, 3, 4] ((fun a n (_ : Nat) => (fun _ => noInv) a n)) [] Tryd.func48 (by kernel_rfl) (code := _) (by unfold Tryd.f48; rfl) (by kernel_rfl) (by decide) (fun _ => ⟨(), trivial⟩) (by intro h; first | exact fun _ => rfl | cases h) (by kernel_rfl) ?_
  intro a _
  obtain ⟨⟨p, x⟩, ⟨q, y⟩⟩ := a
  simp -implicitDefEqProofs [vc_skip, extOf, vc_seq, vc_cond, vc_block, vc_exit, vc_ret, vc_region, vc_regionD, vc_loop, kSeq_normal, kSeq_ret, kSeq_exit, kBlock_normal, kBlock_ret, kBlock_exit, kLoop_normal, kLoop_ret, kLoop_exit, kCond_bool, kNorm_app, vcOps_nil, vcOps_cons, kOps_app, kStep_some, kStep_none, vcDL_nil, vcDL_cons, kOpsD_app, kStepD_true, kStepD_false, kStepC_some, kStepC_none, kMv_app, act3_store, act3_call, act3_bs, kAct_app, kSt2_app, stealSlots, stealL, stealOne, subIn, AV.stolen, act_store, act_bs, act_append, act_call, kSet_app, kSet2_app, kSetG_app, kSetG_app0, kStore_ptr, kStore_eptr, kCallW_some, kCallC_some, kCall_some, wk_T, wk_n, wk_keep, wk_inv, wk_act, wk_dr, wk_le, aCalm, wantC, dstOk, calm, aCallK, aCall3K, subOf, subRep, aCall2K, apnd, bsMove, putBox, putOwn, partAV, mvL, AV.mv, AV.base, AV.moved, AV.src, TI.flat, apSize, pickAV, St.val, St.cond, St.fn, St.next, St.set, St.trim, wipe_eq, wipeE_app, wipeM_app, pickEnv, get?, cGet, upd_app, withPuts, killAll, rm, freshP, Oper.hnd, Sc.st, ofConst, constOk, lenAV, elemLen, loadAV, ldL, ld1, fieldAddrAV, indexAddrAV, sliceAV, convAV, buildAV, fillAV, fieldAV, Out.of, binAV, AV.rows, AV.one, AV.cells, AV.deepOk, AV.toD, toDs, partRows, partRowsM, partsDeep, TK.zeroAV, TK.zeroD, byteOf, inR, Op.operands, Call.operands, passVs, passV, passL, pass1, passB, pasVs, pasV, pasL, pas1, ownsOk, okHs, okHs2, okFin, finOk2, rho, over, backRes, backAV, backAV1, backBlk, putBack, back2, back2_V, back2_1, m2, AV.wipe, AV.wipeV, AV.wipe1, Blk.wipe, AV.hs, AV.hs.hsL, alOps, Con.start2, Con.pk, bodyQ, fini, resAV, resA, firstId, Sc.from, renEnv, renT, renV, renVs, renL, ren1, renBox, renOwn, okRen, clOf, actB, setRow, flatRows, flatD, noInv, shr_nil, shr_some, kStepF_some, shareL, AV.viewed, AV.viewed1, cEqRepo, Con.fn, tTab, cEqCommitS, cEqHeadS]
  try dsimp only
  try simp +contextual [eStr, eFile, cast_succ, cast_eq, cast_zero, List.getElem?_eq_getElem, eStrs_set, eFiles_set, eStrs_rep, eFiles_rep, ← eStrs_append, ← eFiles_append, eStrs_take, eStrs_drop, eFiles_take, eFiles_drop, eStrs_snoc, eFiles_snoc, and_assoc]
  repeat' (first | intro _ | apply And.intro)
  all_goals first | omega | grind [all_take]

end Vx
end Go.Proofs.YtlhkmgbmnbkaeaaDoor
/-
  Contracts: branches (headsOk, l23Ok).
-/
namespace Go.Proofs.YtlhkmgbmnbkaeaaDoor
namespace Vx
open Go.RowKit
set_option maxRecDepth 8000

def cExists : Con := .fn 11 (RepoD × Int) (fun a => [vRepo a.1, .int .i64 a.2]) (fun a => a.1.commits.length ≤ 1073741824) (fun a => .bool (decide (0 ≤ a.2) && decide (a.2 ≤ (a.1.commits.length : Int) - 1))) (fun _ => [])
set_option maxHeartbeats 4000000 in
theorem exists_has : Has Tryd.prog 105 cExists := by
  refine has_walk mixed tTab_ok (l := [(126, cWithin)]) (HasL.cons within_has HasL.nil) [0, 1, 2, 4] ((fun a n (_ : Nat) => (fun _ => noInv) a n)) [] Tryd.func105 (by kernel_rfl) (code := _) (by unfold Tryd.f105; rfl) (by kernel_rfl) (by decide) (fun _ => ⟨(), trivial⟩) (by intro h; first | exact fun _ => rfl | cases h) (by kernel_rfl) ?_
  intro a ha
  obtain ⟨r, n⟩ := a
  replace ha : r.commits.length ≤ 1073741824 := ha
  simp -implicitDefEqProofs [vc_skip, extOf, vc_seq, vc_cond, vc_block, vc_exit, vc_ret, vc_region, vc_regionD, vc_loop, kSeq_normal, kSeq_ret, kSeq_exit, kBlock_normal, kBlock_ret, kBlock_exit, kLoop_normal, kLoop_ret, kLoop_exit, kCond_bool, kNorm_app, vcOps_nil, vcOps_cons, kOps_app, kStep_some, kStep_none, vcDL_nil, vcDL_cons, kOpsD_app, kStepD_true, kStepD_false, kStepC_some, kStepC_none, kMv_app, act3_store, act3_call, act3_bs, kAct_app, kSt2_app, stealSlots, stealL, stealOne, subIn, AV.stolen, act_store, act_bs, act_append, act_call, kSet_app, kSet2_app, kSetG_app, kSetG_app0, kStore_ptr, kStore_eptr, kCallW_some, kCallC_some, kCall_some, wk_T, wk_n, wk_keep, wk_inv, wk_act, wk_dr, wk_le, aCalm, wantC, dstOk, calm, aCallK, aCall3K, subOf, subRep, aCall2K, apnd, bsMove, putBox, putOwn, partAV, mvL, AV.mv, AV.base, AV.moved, AV.src, TI.flat, apSize, pickAV, St.val, St.cond, St.fn, St.next, St.set, St.trim, wipe_eq, wipeE_app, wipeM_app, pickEnv, get?, cGet, upd_app, withPuts, killAll, rm, freshP, Oper.hnd, Sc.st, ofConst, constOk, lenAV, elemLen, loadAV, ldL, ld1, fieldAddrAV, indexAddrAV, sliceAV, convAV, buildAV, fillAV, fieldAV, Out.of, binAV, AV.rows, AV.one, AV.cells, AV.deepOk, AV.toD, toDs, partRows, partRowsM, partsDeep, TK.zeroAV, TK.zeroD, byteOf, inR, Op.operands, Call.operands, passVs, passV, passL, pass1, passB, pasVs, pasV, pasL, pas1, ownsOk, okHs, okHs2, okFin, finOk2, rho, over, backRes, backAV, backAV1, backBlk, putBack, back2, back2_V, back2_1, m2, AV.wipe, AV.wipeV, AV.wipe1, Blk.wipe, AV.hs, AV.hs.hsL, alOps, Con.start2, Con.pk, bodyQ, fini, resAV, resA, firstId, Sc.from, renEnv, renT, renV, renVs, renL, ren1, renBox, renOwn, okRen, clOf, actB, setRow, flatRows, flatD, noInv, shr_nil, shr_some, kStepF_some, shareL, AV.viewed, AV.viewed1, cExists, Con.fn, tTab, cWithin]
  try dsimp only
  try simp +contextual -implicitDefEqProofs [eStr, eFile, cast_succ, cast_eq, cast_zero, List.getElem?_eq_getElem, eStrs_set, eFiles_set, eStrs_rep, eFiles_rep, ← eStrs_append, ← eFiles_append, eStrs_take, eStrs_drop, eFiles_take, eFiles_drop, eStrs_snoc, eFiles_snoc, and_assoc]
  repeat' (first | intro _ | apply And.intro)
  all_goals first | omega | grind [all_take]

def inN (n : Nat) (a : Int) : Bool := decide (0 ≤ a) && decide (a ≤ (n : Int) - 1)
def okHd (n : Nat) (h : List HeadD) (i : Nat) : Bool := nameB (h.getD i default).name && inN n (h.getD i default).at_ && (decide (i = 0) || Go.Op.bytesLess (h.getD (i - 1) default).name (h.getD i default).name)
def headsB (n : Nat) (h : List HeadD) : Bool := decide (h.length ≤ 5) && (List.range h.length).all (okHd n h)
theorem headsB_iff (n : Nat) (h : List HeadD) : headsB n h = true ↔ h.length ≤ 5 ∧ ∀ i, i < h.length → okHd n h i = true := by simp -implicitDefEqProofs [headsB]
theorem headsB_no {n : Nat} {h : List HeadD} {i : Nat} (hi : i < h.length) (hb : okHd n h i = false) : headsB n h = false := by
  cases hq : headsB n h with
  | false => rfl
  | true => have := ((headsB_iff n h).1 hq).2 i hi; simp -implicitDefEqProofs [hb] at this
def cHeadsOk : Con := .fn 44 (RepoD × List HeadD) (fun a => [vRepo a.1, .sl true 2 (eHeads a.2)]) (fun a => a.1.commits.length ≤ 1073741824) (fun a => .bool (headsB a.1.commits.length a.2)) (fun _ => [])
set_option maxHeartbeats 4000000 in
theorem headsOk_has : Has Tryd.prog 121 cHeadsOk := by
  refine has_walk mixed tTab_ok (l := [(70, cNameOk), (105, cExists)]) (HasL.cons nameOk_has (HasL.cons exists_has HasL.nil)) [0, 1, 2, 4, 5, 6, 10, 11, 12] ((fun a n (_ : Nat) => (fun a _ => ⟨Nat, fun i => ⟨[(1, true, .sl true 2 (eHeads a.2)), (2, true, .ptr 10 0), (4, true, .bool false), (10, true, .sl true 2 (eHeads a.2)), (11, true, .int .i64 a.2.length), (12, true, .int .i64 i)], [(10, .box 65 [.sl true 3 (eCommits a.1.commits), .sl true 2 (eHeads a.1.heads)])]⟩, fun i => i ≤ a.2.length ∧ a.2.length ≤ 5 ∧ ∀ j, j < i → okHd a.1.commits.length a.2 j = true, fun i => a.2.length - i⟩) a n)) [] Tryd.func121 (by kernel_rfl) (code := _) (by unfold Tryd.f121; rfl) (by kernel_rfl) (by decide) (fun _ => ⟨(), trivial⟩) (by intro h; first | exact fun _ => rfl | cases h) (by kernel_rfl) ?_
  intro a ha
  obtain ⟨r, t⟩ := a
  replace ha : r.commits.length ≤ 1073741824 := ha
  have hB : 5 < t.length → headsB r.commits.length t = false := fun h => by
    cases hq : headsB r.commits.length t with
    | false => rfl
    | true => have := ((headsB_iff _ _).1 hq).1; omega
  have hN := fun i => @headsB_no r.commits.length t i
  have hE := (headsB_iff r.commits.length t).2
  have hg : ∀ i (h : i < t.length), t.getD i default = t[i] := fun i h => by simp -implicitDefEqProofs [List.getD_eq_getElem?_getD, h]
  have hgg : ∀ i (h : i < t.length), t[i]?.getD default = t[i] := fun i h => by simp -implicitDefEqProofs [h]
  have e1 : ∀ k (h : k < t.length), Option.map eHead t[k]? = some (eHead t[k]) := fun k h => by simp -implicitDefEqProofs [List.getElem?_eq_getElem h]
  simp -implicitDefEqProofs [vc_skip, extOf, vc_seq, vc_cond, vc_block, vc_exit, vc_ret, vc_region, vc_regionD, vc_loop, kSeq_normal, kSeq_ret, kSeq_exit, kBlock_normal, kBlock_ret, kBlock_exit, kLoop_normal, kLoop_ret, kLoop_exit, kCond_bool, kNorm_app, vcOps_nil, vcOps_cons, kOps_app, kStep_some, kStep_none, vcDL_nil, vcDL_cons, kOpsD_app, kStepD_true, kStepD_false, kStepC_some, kStepC_none, kMv_app, act3_store, act3_call, act3_bs, kAct_app, kSt2_app, stealSlots, stealL, stealOne, subIn, AV.stolen, act_store, act_bs, act_append, act_call, kSet_app, kSet2_app, kSetG_app, kSetG_app0, kStore_ptr, kStore_eptr, kCallW_some, kCallC_some, kCall_some, wk_T, wk_n, wk_keep, wk_inv, wk_act, wk_dr, wk_le, aCalm, wantC, dstOk, calm, aCallK, aCall3K, subOf, subRep, aCall2K, apnd, bsMove, putBox, putOwn, partAV, mvL, AV.mv, AV.base, AV.moved, AV.src, TI.flat, apSize, pickAV, St.val, St.cond, St.fn, St.next, St.set, St.trim, wipe_eq, wipeE_app, wipeM_app, pickEnv, get?, cGet, upd_app, withPuts, killAll, rm, freshP, Oper.hnd, Sc.st, ofConst, constOk, lenAV, elemLen, loadAV, ldL, ld1, fieldAddrAV, indexAddrAV, sliceAV, convAV, buildAV, fillAV, fieldAV, Out.of, binAV, AV.rows, AV.one, AV.cells, AV.deepOk, AV.toD, toDs, partRows, partRowsM, partsDeep, TK.zeroAV, TK.zeroD, byteOf, inR, Op.operands, Call.operands, passVs, passV, passL, pass1, passB, pasVs, pasV, pasL, pas1, ownsOk, okHs, okHs2, okFin, finOk2, rho, over, backRes, backAV, backAV1, backBlk, putBack, back2, back2_V, back2_1, m2, AV.wipe, AV.wipeV, AV.wipe1, Blk.wipe, AV.hs, AV.hs.hsL, alOps, Con.start2, Con.pk, bodyQ, fini, resAV, resA, firstId, Sc.from, renEnv, renT, renV, renVs, renL, ren1, renBox, renOwn, okRen, clOf, actB, setRow, flatRows, flatD, noInv, shr_nil, shr_some, kStepF_some, shareL, AV.viewed, AV.viewed1, cHeadsOk, Con.fn, tTab, cNameOk, cExists]
  try dsimp only
  refine fun _ => ⟨fun h => hB (by omega), fun h5 _ => ⟨by omega, fun i hi _ hprev => ⟨fun hlt => ?_, fun hge => hE ⟨by omega, fun j hj => hprev j (by omega)⟩⟩⟩⟩
  have e3 := e1 i hlt
  have e4 := e1 (i - 1) (by omega)
  have hh : okHd r.commits.length t i = (nameB t[i].name && inN r.commits.length t[i].at_ && (decide (i = 0) || Go.Op.bytesLess (t[i - 1]'(by omega)).name t[i].name)) := by
    unfold okHd
    rw [hg i hlt, hg (i - 1) (by omega)]
  have hn := hN i hlt
  rw [hh] at hn
  unfold inN at hn hh
  simp -implicitDefEqProofs [hlt, e3, e4, eHead, D.asStr, D.asInt, cast_eq, and_assoc]
  try simp +contextual -implicitDefEqProofs [eStr, eFile, cast_succ, cast_eq, cast_zero, List.getElem?_eq_getElem, eStrs_set, eFiles_set, eStrs_rep, eFiles_rep, ← eStrs_append, ← eFiles_append, eStrs_take, eStrs_drop, eFiles_take, eFiles_drop, eStrs_snoc, eFiles_snoc, and_assoc, hlt]
  clear e1 hg hgg hN hE hB
  repeat' (first | intro _ | apply And.intro)
  all_goals first | omega | grind -ring

def cL23Ok : Con := .fn 53 (RepoD × List HeadD) (fun a => [vRepo a.1, .sl true 2 (eHeads a.2)]) (fun a => a.1.commits.length ≤ 1073741824) (fun a => .bool (headsB a.1.commits.length a.2)) (fun _ => [])
set_option maxHeartbeats 4000000 in
theorem l23Ok_has : Has Tryd.prog 97 cL23Ok := by
  refine has_walk mixed tTab_ok (l := [(73, cL4Name), (98, cL1In)]) (HasL.cons l4Name_has (HasL.cons l1In_has HasL.nil)) [0, 1, 2, 4, 5] ((fun a n (_ : Nat) => (fun a _ => ⟨Nat, fun i => ⟨[(1, true, .sl true 2 (eHeads a.2)), (2, true, .ptr 10 0), (4, true, .bool false), (5, true, .int .i64 i)], [(10, .box 65 [.sl true 3 (eCommits a.1.commits), .sl true 2 (eHeads a.1.heads)])]⟩, fun i => i ≤ a.2.length ∧ ∀ j, j < i → okHd a.1.commits.length a.2 j = true, fun i => a.2.length - i⟩) a n)) [] Tryd.func97 (by kernel_rfl) (code := _) (by unfold Tryd.f97; rfl) (by kernel_rfl) (by decide) (fun _ => ⟨(), trivial⟩) (by intro h; first | exact fun _ => rfl | cases h) (by kernel_rfl) ?_
  intro a ha
  obtain ⟨r, t⟩ := a
  replace ha : r.commits.length ≤ 1073741824 := ha
  have hN := fun i => @headsB_no r.commits.length t i
  have hg : ∀ i (h : i < t.length), t.getD i default = t[i] := fun i h => by simp -implicitDefEqProofs [List.getD_eq_getElem?_getD, h]
  have e1 : ∀ k (h : k < t.length), Option.map eHead t[k]? = some (eHead t[k]) := fun k h => by simp -implicitDefEqProofs [List.getElem?_eq_getElem h]
  simp -implicitDefEqProofs [vc_skip, extOf, vc_seq, vc_cond, vc_block, vc_exit, vc_ret, vc_region, vc_regionD, vc_loop, kSeq_normal, kSeq_ret, kSeq_exit, kBlock_normal, kBlock_ret, kBlock_exit, kLoop_normal, kLoop_ret, kLoop_exit, kCond_bool, kNorm_app, vcOps_nil, vcOps_cons, kOps_app, kStep_some, kStep_none, vcDL_nil, vcDL_cons, kOpsD_app, kStepD_true, kStepD_false, kStepC_some, kStepC_none, kMv_app, act3_store, act3_call, act3_bs, kAct_app, kSt2_app, stealSlots, stealL, stealOne, subIn, AV.stolen, act_store, act_bs, act_append, act_call, kSet_app, kSet2_app, kSetG_app, kSetG_app0, kStore_ptr, kStore_eptr, kCallW_some, kCallC_some, kCall_some, wk_T, wk_n, wk_keep, wk_inv, wk_act, wk_dr, wk_le, aCalm, wantC, dstOk, calm, aCallK, aCall3K, subOf, subRep, aCall2K, apnd, bsMove, putBox, putOwn, partAV, mvL, AV.mv, AV.base, AV.moved, AV.src, TI.flat, apSize, pickAV, St.val, St.cond, St.fn, St.next, St.set, St.trim, wipe_eq, wipeE_app, wipeM_app, pickEnv, get?, cGet, upd_app, withPuts, killAll, rm, freshP, Oper.hnd, Sc.st, ofConst, constOk, lenAV, elemLen, loadAV, ldL, ld1, fieldAddrAV, indexAddrAV, sliceAV, convAV, buildAV, fillAV, fieldAV, Out.of, binAV, AV.rows, AV.one, AV.cells, AV.deepOk, AV.toD, toDs, partRows, partRowsM, partsDeep, TK.zeroAV, TK.zeroD, byteOf, inR, Op.operands, Call.operands, passVs, passV, passL, pass1, passB, pasVs, pasV, pasL, pas1, ownsOk, okHs, okHs2, okFin, finOk2, rho, over, backRes, backAV, backAV1, backBlk, putBack, back2, back2_V, back2_1, m2, AV.wipe, AV.wipeV, AV.wipe1, Blk.wipe, AV.hs, AV.hs.hsL, alOps, Con.start2, Con.pk, bodyQ, fini, resAV, resA, firstId, Sc.from, renEnv, renT, renV, renVs, renL, ren1, renBox, renOwn, okRen, clOf, actB, setRow, flatRows, flatD, noInv, shr_nil, shr_some, kStepF_some, shareL, AV.viewed, AV.viewed1, cL23Ok, Con.fn, tTab, cL4Name, cL1In]
  try dsimp only
  refine fun i hi hprev _ => ⟨fun hlt => ?_, fun hge => ?_⟩
  · have e3 := e1 i hlt
    have e4 := e1 (i - 1) (by omega)
    have hh : okHd r.commits.length t i = (nameB t[i].name && inN r.commits.length t[i].at_ && (decide (i = 0) || Go.Op.bytesLess (t[i - 1]'(by omega)).name t[i].name)) := by
      unfold okHd
      rw [hg i hlt, hg (i - 1) (by omega)]
    have hn := hN i hlt
    rw [hh] at hn
    unfold inN at hn hh
    have hq := leqS_iff t[i].name (t[i - 1]'(by omega)).name
    rw [less_eq] at hn hh
    unfold leqS at hq
    simp -implicitDefEqProofs [hlt, e3, e4, eHead, D.asStr, D.asInt, cast_eq, and_assoc]
    try simp +contextual -implicitDefEqProofs [eStr, eFile, cast_succ, cast_eq, cast_zero, List.getElem?_eq_getElem, eStrs_set, eFiles_set, eStrs_rep, eFiles_rep, ← eStrs_append, ← eFiles_append, eStrs_take, eStrs_drop, eFiles_take, eFiles_drop, eStrs_snoc, eFiles_snoc, and_assoc, hlt]
    clear e1 hg hN
    repeat' (first | intro _ | apply And.intro)
    all_goals first | omega | grind -ring
  · have : (∀ i, i < t.length → okHd r.commits.length t i = true) := fun j hj => hprev j (by omega)
    have h2 : headsB r.commits.length t = decide (t.length ≤ 5) := by
      unfold headsB
      have : (List.range t.length).all (okHd r.commits.length t) = true := by simpa using this
      rw [this, Bool.and_true]
    rw [h2]
    intro _
    rw [Bool.eq_iff_iff]
    simp
    try omega

end Vx
end Go.Proofs.YtlhkmgbmnbkaeaaDoor
/-
  Contracts: repositories (RepoOk, l7Ok).
-/
namespace Go.Proofs.YtlhkmgbmnbkaeaaDoor
namespace Vx
open Go.RowKit
set_option maxRecDepth 8000

def okI1 (cs : List CommitD) (i : Nat) : Bool :=
  decide ((cs.getD i default).parents.length ≤ 2) && !(decide ((cs.getD i default).parents.length = 2) && decide ((cs.getD i default).parents.getD 0 0 = (cs.getD i default).parents.getD 1 0)) && nameB (cs.getD i default).who && treeI (cs.getD i default).tree
def okCI (cs : List CommitD) (i : Nat) : Bool := okI1 cs i && (List.range (cs.getD i default).parents.length).all fun k => inN i ((cs.getD i default).parents.getD k 0)
def repoI (r : RepoD) : Bool := decide (r.commits.length ≤ 16) && (List.range r.commits.length).all (okCI r.commits) && headsB r.commits.length r.heads
def rpPre (r : RepoD) : Prop := r.commits.length ≤ 1073741824 ∧ ∀ c ∈ r.commits, ∀ f ∈ c.tree, f.path.length ≤ 536870912
def bRepo (r : RepoD) : Blk := .box 65 [.sl true 3 (eCommits r.commits), .sl true 2 (eHeads r.heads)]
theorem bRepo_def (r : RepoD) : bRepo r = .box 65 [.sl true 3 (eCommits r.commits), .sl true 2 (eHeads r.heads)] := rfl
def riO (r : RepoD) : Inv := ⟨Nat, fun i => ⟨[(1, true, .ptr 10 0), (2, true, .bool false), (12, true, .sl true 3 (eCommits r.commits)), (13, true, .int .i64 r.commits.length), (14, true, .int .i64 i)], [(10, bRepo r)]⟩, fun i => i ≤ r.commits.length ∧ r.commits.length ≤ 16 ∧ ∀ j, j < i → okCI r.commits j = true, fun i => r.commits.length - i⟩
def riI (r : RepoD) (g : Nat) : Inv := ⟨Nat, fun k => ⟨[(1, true, .ptr 10 0), (2, true, .bool false), (3, true, .int .i64 g), (12, true, .sl true 3 (eCommits r.commits)), (13, true, .int .i64 r.commits.length), (14, true, .int .i64 g), (53, true, .sl true 1 (eInts (r.commits.getD g default).parents)), (54, true, .int .i64 (r.commits.getD g default).parents.length), (55, true, .int .i64 k)], [(10, bRepo r)]⟩,
  fun k => g < r.commits.length ∧ k ≤ (r.commits.getD g default).parents.length ∧ r.commits.length ≤ 16 ∧ (∀ j, j < g → okCI r.commits j = true) ∧ okI1 r.commits g = true ∧ ∀ j, j < k → inN g ((r.commits.getD g default).parents.getD j 0) = true, fun k => (r.commits.getD g default).parents.length - k⟩
def riInv (r : RepoD) (n g : Nat) : Inv := if n = 4 then riO r else riI r g
theorem riInv_4 (r : RepoD) (g : Nat) : riInv r 4 g = riO r := rfl
theorem riInv_9 (r : RepoD) (g : Nat) : riInv r 9 g = riI r g := rfl
theorem repoI_iff (r : RepoD) : repoI r = true ↔ r.commits.length ≤ 16 ∧ (∀ i, i < r.commits.length → okCI r.commits i = true) ∧ headsB r.commits.length r.heads = true := by simp -implicitDefEqProofs [repoI, and_assoc]
theorem repoI_no {r : RepoD} {i : Nat} (hi : i < r.commits.length) (hb : okCI r.commits i = false) : repoI r = false := by
  cases hq : repoI r with
  | false => rfl
  | true => have := ((repoI_iff r).1 hq).2.1 i hi; simp -implicitDefEqProofs [hb] at this
theorem repoI_big {r : RepoD} (h : 16 < r.commits.length) : repoI r = false := by
  cases hq : repoI r with
  | false => rfl
  | true => have := ((repoI_iff r).1 hq).1; omega
theorem okCI_no1 {cs : List CommitD} {i : Nat} (h : okI1 cs i = false) : okCI cs i = false := by unfold okCI; rw [h]; rfl
theorem okCI_no2 {cs : List CommitD} {i k : Nat} (hk : k < (cs.getD i default).parents.length) (h : inN i ((cs.getD i default).parents.getD k 0) = false) : okCI cs i = false := by
  unfold okCI
  have : (List.range (cs.getD i default).parents.length).all (fun k => inN i ((cs.getD i default).parents.getD k 0)) = false := by
    rw [List.all_eq_false]
    exact ⟨k, List.mem_range.2 hk, by simpa using h⟩
  rw [this, Bool.and_false]
theorem okCI_yes {cs : List CommitD} {i : Nat} (h : okI1 cs i = true) (h2 : ∀ k, k < (cs.getD i default).parents.length → inN i ((cs.getD i default).parents.getD k 0) = true) : okCI cs i = true := by
  unfold okCI
  rw [h, Bool.true_and, List.all_eq_true]
  intro k hk
  exact h2 k (by simpa using hk)

def cRepoOk : Con := .fn 70 RepoD (fun r => [vRepo r]) rpPre (fun r => .bool (repoI r)) (fun _ => [])
set_option maxHeartbeats 4000000 in
theorem repoOk_has : Has Tryd.prog 118 cRepoOk := by
  refine has_walk mixed tTab_ok (l := [(70, cNameOk), (18, cTreeOk), (126, cWithin), (121, cHeadsOk)]) (HasL.cons nameOk_has (HasL.cons treeOk_has (HasL.cons within_has (HasL.cons headsOk_has HasL.nil)))) [0, 1, 2, 3, 4, 6, 12, 13, 14, 53, 54, 55] (fun r => riInv r) [] Tryd.func118 (by kernel_rfl) (code := _) (by unfold Tryd.f118; rfl) (by kernel_rfl) (by decide) (fun _ => ⟨(), trivial⟩) (by intro h; first | exact fun _ => rfl | cases h) (by kernel_rfl) ?_
  intro (r : RepoD) hr
  obtain ⟨hr1, hr2⟩ : r.commits.length ≤ 1073741824 ∧ ∀ c ∈ r.commits, ∀ f ∈ c.tree, f.path.length ≤ 536870912 := hr
  have hp : ∀ i (h : i < r.commits.length), ∀ f ∈ r.commits[i].tree, f.path.length ≤ 536870912 := fun i h => hr2 _ (List.getElem_mem h)
  have hB := @repoI_big r
  have hN := fun i => @repoI_no r i
  have hN1 := fun i => @okCI_no1 r.commits i
  have hN2 := fun i k => @okCI_no2 r.commits i k
  have hY := fun i => @okCI_yes r.commits i
  simp -implicitDefEqProofs [vc_skip, extOf, vc_seq, vc_cond, vc_block, vc_exit, vc_ret, vc_region, vc_regionD, vc_loop, kSeq_normal, kSeq_ret, kSeq_exit, kBlock_normal, kBlock_ret, kBlock_exit, kLoop_normal, kLoop_ret, kLoop_exit, kCond_bool, kNorm_app, vcOps_nil, vcOps_cons, kOps_app, kStep_some, kStep_none, vcDL_nil, vcDL_cons, kOpsD_app, kStepD_true, kStepD_false, kStepC_some, kStepC_none, kMv_app, act3_store, act3_call, act3_bs, kAct_app, kSt2_app, stealSlots, stealL, stealOne, subIn, AV.stolen, act_store, act_bs, act_append, act_call, kSet_app, kSet2_app, kSetG_app, kSetG_app0, kStore_ptr, kStore_eptr, kCallW_some, kCallC_some, kCall_some, wk_T, wk_n, wk_keep, wk_inv, wk_act, wk_dr, wk_le, aCalm, wantC, dstOk, calm, aCallK, aCall3K, subOf, subRep, aCall2K, apnd, bsMove, putBox, putOwn, partAV, mvL, AV.mv, AV.base, AV.moved, AV.src, TI.flat, apSize, pickAV, St.val, St.cond, St.fn, St.next, St.set, St.trim, wipe_eq, wipeE_app, wipeM_app, pickEnv, get?, cGet, upd_app, withPuts, killAll, rm, freshP, Oper.hnd, Sc.st, ofConst, constOk, lenAV, elemLen, loadAV, ldL, ld1, fieldAddrAV, indexAddrAV, sliceAV, convAV, buildAV, fillAV, fieldAV, Out.of, binAV, AV.rows, AV.one, AV.cells, AV.deepOk, AV.toD, toDs, partRows, partRowsM, partsDeep, TK.zeroAV, TK.zeroD, byteOf, inR, Op.operands, Call.operands, passVs, passV, passL, pass1, passB, pasVs, pasV, pasL, pas1, ownsOk, okHs, okHs2, okFin, finOk2, rho, over, backRes, backAV, backAV1, backBlk, putBack, back2, back2_V, back2_1, m2, AV.wipe, AV.wipeV, AV.wipe1, Blk.wipe, AV.hs, AV.hs.hsL, alOps, Con.start2, Con.pk, bodyQ, fini, resAV, resA, firstId, Sc.from, renEnv, renT, renV, renVs, renL, ren1, renBox, renOwn, okRen, clOf, actB, setRow, flatRows, flatD, noInv, shr_nil, shr_some, kStepF_some, shareL, AV.viewed, AV.viewed1, cRepoOk, Con.fn, tTab, cNameOk, cTreeOk, cWithin, cHeadsOk, riInv_4, riInv_9, riO, riI, bRepo_def]
  try dsimp only
  refine fun _ => ⟨fun h => hB (by omega), fun h16 _ => ⟨by omega, fun i hi _ hprev => ⟨fun hlt => ?_, fun hge => ?_⟩⟩⟩
  · have e3 : Option.map eCommit r.commits[i]? = some (eCommit r.commits[i]) := by simp -implicitDefEqProofs [List.getElem?_eq_getElem hlt]
    have hgc : r.commits.getD i default = r.commits[i] := by simp -implicitDefEqProofs [List.getD_eq_getElem?_getD, hlt]
    have hpc := hp i hlt
    have n0 := hN i hlt
    have n1 := hN1 i
    have n2 := hN2 i
    have n3 := hY i
    have o1 : okI1 r.commits i = (decide (r.commits[i].parents.length ≤ 2) && !(decide (r.commits[i].parents.length = 2) && decide (r.commits[i].parents.getD 0 0 = r.commits[i].parents.getD 1 0)) && nameB r.commits[i].who && treeI r.commits[i].tree) := by
      unfold okI1; rw [hgc]
    rw [hgc] at n2 n3
    simp -implicitDefEqProofs [hlt, e3, eCommit, D.asStr, D.asRows, cast_eq, and_assoc]
    try simp only [show r.commits[i]?.getD default = r.commits[i] by simp -implicitDefEqProofs [hlt]]
    generalize r.commits[i] = c at hpc n2 n3 o1 ⊢
    have hq : ∀ k (h : k < c.parents.length), inN i (c.parents[k]?.getD 0) = (decide (0 ≤ c.parents[k]) && decide (c.parents[k] ≤ (i : Int) - 1)) := fun k h => by simp -implicitDefEqProofs [inN, h]
    have n4 : ∀ k (h : k < c.parents.length), (decide (0 ≤ c.parents[k]) && decide (c.parents[k] ≤ (i : Int) - 1)) = false → repoI r = false := fun k h hb => n0 (n2 k h (by rw [List.getD_eq_getElem?_getD, hq k h]; exact hb))
    have n5 : okI1 r.commits i = false → repoI r = false := fun h => n0 (n1 h)
    have n6 : okI1 r.commits i = true → (∀ j, j < c.parents.length → inN i (c.parents[j]?.getD 0) = true) → ∀ j, j < i + 1 → okCI r.commits j = true := fun h1 h2 j hj => by
      rcases Nat.lt_or_ge j i with h3 | h3
      · exact hprev j h3
      · have : j = i := by omega
        subst this
        exact n3 h1 (fun k hk => by rw [List.getD_eq_getElem?_getD]; exact h2 k hk)
    clear n3 n2 n1 n0 hN hN1 hN2 hY hp hr2 hB hgc e3
    have o2 : ∀ (h : c.parents.length = 2), okI1 r.commits i = (!(decide (c.parents[0] = c.parents[1])) && nameB c.who && treeI c.tree) := fun h => by
      rw [o1]; simp -implicitDefEqProofs [h]
    have o3 : c.parents.length ≤ 2 → ¬ c.parents.length = 2 → okI1 r.commits i = (nameB c.who && treeI c.tree) := fun h h' => by
      rw [o1]; simp -implicitDefEqProofs [h, h']
    have o4 : 2 < c.parents.length → okI1 r.commits i = false := fun h => by
      rw [o1]; simp -implicitDefEqProofs [show ¬ c.parents.length ≤ 2 by omega]
    clear o1
    refine ⟨fun h => n5 (o4 (by omega)), fun hl2 => ⟨fun h2 => ?_, fun h2 => ?_⟩⟩
    · have q0 : Option.map eInt c.parents[0]? = some (eInt c.parents[0]) := by simp -implicitDefEqProofs [List.getElem?_eq_getElem (show 0 < c.parents.length by omega)]
      have q1 : Option.map eInt c.parents[1]? = some (eInt c.parents[1]) := by simp -implicitDefEqProofs [List.getElem?_eq_getElem (show 1 < c.parents.length by omega)]
      have o5 := o2 (by omega)
      simp -implicitDefEqProofs [q0, q1, eInt]
      refine ⟨by omega, fun _ => ⟨by omega, fun _ => ⟨fun he => n5 (by rw [o5]; simp -implicitDefEqProofs [he]), fun he => ⟨fun hn => n5 (by rw [o5]; simp -implicitDefEqProofs [hn]), fun hn => ⟨hpc, fun ht => n5 (by rw [o5]; simp -implicitDefEqProofs [ht]), fun ht _ => ⟨by omega, hprev, by rw [o5]; simp -implicitDefEqProofs [he, hn, ht], fun t ht1 _ _ hok hinv => ?_⟩⟩⟩⟩⟩⟩
      clear o2 o3 o4 o5 n5
      refine ⟨fun hlt2 => ?_, fun hge2 => ?_⟩
      · have qt : Option.map eInt c.parents[t]? = some (eInt c.parents[t]) := by simp -implicitDefEqProofs [List.getElem?_eq_getElem hlt2]
        have n7 := n4 t hlt2
        have q7 := hq t hlt2
        simp -implicitDefEqProofs [qt, eInt, hlt2]
        have n8 : 0 ≤ c.parents[t] → c.parents[t] ≤ (i : Int) - 1 → ∀ j, j < t + 1 → inN i (c.parents[j]?.getD 0) = true := fun g1 g2 j hj => by
          rcases Nat.lt_or_ge j t with h3 | h3
          · exact hinv j h3
          · have : j = t := by omega
            subst this
            rw [q7]
            simp -implicitDefEqProofs [g1, g2]
        refine ⟨by omega, by omega, fun _ _ => ⟨fun h => n7 (by simp; omega), fun g1 g2 => ⟨by omega, by omega, fun _ _ => ⟨t + 1, rfl, by omega, by omega, hprev, hok, n8 g1 g2, by omega⟩⟩⟩⟩
      · have n7 := n6 hok (fun j hj => hinv j (by omega))
        exact ⟨by omega, by omega, fun _ _ => ⟨i + 1, rfl, by omega, by omega, n7, by omega⟩⟩
    · have o5 := o3 (by omega) (by omega)
      refine ⟨fun hn => n5 (by rw [o5]; simp -implicitDefEqProofs [hn]), fun hn => ⟨hpc, fun ht => n5 (by rw [o5]; simp -implicitDefEqProofs [ht]), fun ht _ => ⟨by omega, hprev, by rw [o5]; simp -implicitDefEqProofs [hn, ht], fun t ht1 _ _ hok hinv => ?_⟩⟩⟩
      clear o2 o3 o4 o5 n5
      refine ⟨fun hlt2 => ?_, fun hge2 => ?_⟩
      · have qt : Option.map eInt c.parents[t]? = some (eInt c.parents[t]) := by simp -implicitDefEqProofs [List.getElem?_eq_getElem hlt2]
        have n7 := n4 t hlt2
        have q7 := hq t hlt2
        simp -implicitDefEqProofs [qt, eInt, hlt2]
        have n8 : 0 ≤ c.parents[t] → c.parents[t] ≤ (i : Int) - 1 → ∀ j, j < t + 1 → inN i (c.parents[j]?.getD 0) = true := fun g1 g2 j hj => by
          rcases Nat.lt_or_ge j t with h3 | h3
          · exact hinv j h3
          · have : j = t := by omega
            subst this
            rw [q7]
            simp -implicitDefEqProofs [g1, g2]
        refine ⟨by omega, by omega, fun _ _ => ⟨fun h => n7 (by simp; omega), fun g1 g2 => ⟨by omega, by omega, fun _ _ => ⟨t + 1, rfl, by omega, by omega, hprev, hok, n8 g1 g2, by omega⟩⟩⟩⟩
      · have n7 := n6 hok (fun j hj => hinv j (by omega))
        exact ⟨by omega, by omega, fun _ _ => ⟨i + 1, rfl, by omega, by omega, n7, by omega⟩⟩
  · refine ⟨r, r.heads, ⟨⟨rfl, rfl⟩, rfl⟩, hr1, ?_⟩
    rw [Bool.eq_iff_iff, repoI_iff]
    exact ⟨fun h => h.2.2, fun h => ⟨by omega, fun j hj => hprev j (by omega), h⟩⟩

def oneP (i : Nat) (ps : List Int) (k : Nat) : Bool := inN i (ps.getD k 0) && !(decide (0 < k) && decide (ps.getD k 0 = ps.getD 0 0))
def okS1 (c : CommitD) : Bool := decide (c.parents.length ≤ 2) && nameB c.who && treeS c.tree
def okCS (cs : List CommitD) (i : Nat) : Bool := (List.range (cs.getD i default).parents.length).all (oneP i (cs.getD i default).parents) && okS1 (cs.getD i default)
def repoS (r : RepoD) : Bool := (List.range r.commits.length).all (okCS r.commits) && headsB r.commits.length r.heads && decide (r.commits.length ≤ 16)
theorem repoS_iff (r : RepoD) : repoS r = true ↔ (∀ i, i < r.commits.length → okCS r.commits i = true) ∧ headsB r.commits.length r.heads = true ∧ r.commits.length ≤ 16 := by simp -implicitDefEqProofs [repoS, and_assoc]
theorem repoS_no {r : RepoD} {i : Nat} (hi : i < r.commits.length) (hb : okCS r.commits i = false) : repoS r = false := by
  cases hq : repoS r with
  | false => rfl
  | true => have := ((repoS_iff r).1 hq).1 i hi; simp -implicitDefEqProofs [hb] at this
theorem repoS_noH {r : RepoD} (hb : headsB r.commits.length r.heads = false) : repoS r = false := by
  unfold repoS; rw [hb]; simp
theorem okCS_no1 {cs : List CommitD} {i : Nat} (h : okS1 (cs.getD i default) = false) : okCS cs i = false := by unfold okCS; rw [h, Bool.and_false]
theorem okCS_no2 {cs : List CommitD} {i k : Nat} (hk : k < (cs.getD i default).parents.length) (h : oneP i (cs.getD i default).parents k = false) : okCS cs i = false := by
  unfold okCS
  have : (List.range (cs.getD i default).parents.length).all (oneP i (cs.getD i default).parents) = false := by
    rw [List.all_eq_false]
    exact ⟨k, List.mem_range.2 hk, by simpa using h⟩
  rw [this, Bool.false_and]
theorem okCS_yes {cs : List CommitD} {i : Nat} (h : okS1 (cs.getD i default) = true) (h2 : ∀ k, k < (cs.getD i default).parents.length → oneP i (cs.getD i default).parents k = true) : okCS cs i = true := by
  unfold okCS
  rw [h, Bool.and_true, List.all_eq_true]
  intro k hk
  exact h2 k (by simpa using hk)

theorem repo_eq (r : RepoD) : repoI r = repoS r := by
  have h : ∀ i, okCI r.commits i = okCS r.commits i := by
    intro i
    unfold okCI okCS okI1 okS1
    generalize r.commits.getD i default = c
    rw [tree_eq]
    rw [Bool.eq_iff_iff]
    simp only [Bool.and_eq_true, List.all_eq_true, List.mem_range, decide_eq_true_eq, oneP, Bool.not_eq_true', Bool.and_eq_false_iff, decide_eq_false_iff_not]
    constructor
    · rintro ⟨⟨⟨⟨h1, h2⟩, h3⟩, h4⟩, h5⟩
      refine ⟨fun k hk => ⟨h5 k hk, ?_⟩, ⟨h1, h3⟩, h4⟩
      by_cases h0 : k = 0
      · exact .inl (by omega)
      · right
        have : k = 1 := by omega
        subst this
        rcases h2 with h2 | h2
        · omega
        · exact fun e => h2 e.symm
    · rintro ⟨h1, ⟨h2, h3⟩, h4⟩
      refine ⟨⟨⟨⟨h2, ?_⟩, h3⟩, h4⟩, fun k hk => (h1 k hk).1⟩
      by_cases h0 : c.parents.length = 2
      · right
        rcases (h1 1 (by omega)).2 with h5 | h5
        · omega
        · exact fun e => h5 e.symm
      · exact .inl h0
  rw [Bool.eq_iff_iff, repoI_iff, repoS_iff]
  simp only [h]
  exact ⟨fun ⟨a, b, c⟩ => ⟨b, c, a⟩, fun ⟨b, c, a⟩ => ⟨a, b, c⟩⟩

end Vx
end Go.Proofs.YtlhkmgbmnbkaeaaDoor
/-
  Contracts: repositories (l7Ok, MarksOk).
-/
namespace Go.Proofs.YtlhkmgbmnbkaeaaDoor
namespace Vx
open Go.RowKit
set_option maxRecDepth 8000

def rsO (r : RepoD) : Inv := ⟨Nat, fun i => ⟨[(1, true, .ptr 10 0), (2, true, .bool false), (3, true, .int .i64 i)], [(10, bRepo r)]⟩, fun i => i ≤ r.commits.length ∧ ∀ j, j < i → okCS r.commits j = true, fun i => r.commits.length - i⟩
def rsI (r : RepoD) (g : Nat) : Inv := ⟨Nat, fun k => ⟨[(1, true, .ptr 10 0), (2, true, .bool false), (3, true, .int .i64 g), (4, true, .ptr 11 0), (5, true, .int .i64 k)], [(10, bRepo r), (11, .box 127 [.sl true 1 (eInts (r.commits.getD g default).parents), .str (r.commits.getD g default).who, .sl true 2 (eFiles (r.commits.getD g default).tree)])]⟩,
  fun k => g < r.commits.length ∧ k ≤ (r.commits.getD g default).parents.length ∧ (∀ j, j < g → okCS r.commits j = true) ∧ ∀ j, j < k → oneP g (r.commits.getD g default).parents j = true, fun k => (r.commits.getD g default).parents.length - k⟩
def rsH (r : RepoD) : Inv := ⟨Nat, fun i => ⟨[(1, true, .ptr 10 0), (2, true, .bool false), (6, true, .int .i64 i)], [(10, bRepo r)]⟩, fun i => i ≤ r.heads.length ∧ (∀ j, j < r.commits.length → okCS r.commits j = true) ∧ ∀ j, j < i → okHd r.commits.length r.heads j = true, fun i => r.heads.length - i⟩
def rsInv (r : RepoD) (n g : Nat) : Inv := if n = 2 then rsO r else if n = 6 then rsI r g else rsH r
theorem rsInv_2 (r : RepoD) (g : Nat) : rsInv r 2 g = rsO r := rfl
theorem rsInv_6 (r : RepoD) (g : Nat) : rsInv r 6 g = rsI r g := rfl
theorem rsInv_13 (r : RepoD) (g : Nat) : rsInv r 13 g = rsH r := rfl

def cL7Ok : Con := .fn 126 RepoD (fun r => [vRepo r]) (fun r => r.commits.length ≤ 1073741824) (fun r => .bool (repoS r)) (fun _ => [])
set_option maxHeartbeats 4000000 in
theorem l7Ok_has : Has Tryd.prog 96 cL7Ok := by
  refine has_walk mixed tTab_ok (l := [(98, cL1In), (73, cL4Name), (72, cL4Ok)]) (HasL.cons l1In_has (HasL.cons l4Name_has (HasL.cons l4Ok_has HasL.nil))) [0, 1, 2, 3, 4, 5, 6] (fun r => rsInv r) [] Tryd.func96 (by kernel_rfl) (code := _) (by unfold Tryd.f96; rfl) (by kernel_rfl) (by decide) (fun _ => ⟨(), trivial⟩) (by intro h; first | exact fun _ => rfl | cases h) (by kernel_rfl) ?_
  intro (r : RepoD) hr
  replace hr : r.commits.length ≤ 1073741824 := hr
  have hN := fun i => @repoS_no r i
  have hN1 := fun i => @okCS_no1 r.commits i
  have hN2 := fun i k => @okCS_no2 r.commits i k
  have hY := fun i => @okCS_yes r.commits i
  have hM := fun i => @headsB_no r.commits.length r.heads i
  have hH := @repoS_noH r
  simp -implicitDefEqProofs [vc_skip, extOf, vc_seq, vc_cond, vc_block, vc_exit, vc_ret, vc_region, vc_regionD, vc_loop, kSeq_normal, kSeq_ret, kSeq_exit, kBlock_normal, kBlock_ret, kBlock_exit, kLoop_normal, kLoop_ret, kLoop_exit, kCond_bool, kNorm_app, vcOps_nil, vcOps_cons, kOps_app, kStep_some, kStep_none, vcDL_nil, vcDL_cons, kOpsD_app, kStepD_true, kStepD_false, kStepC_some, kStepC_none, kMv_app, act3_store, act3_call, act3_bs, kAct_app, kSt2_app, stealSlots, stealL, stealOne, subIn, AV.stolen, act_store, act_bs, act_append, act_call, kSet_app, kSet2_app, kSetG_app, kSetG_app0, kStore_ptr, kStore_eptr, kCallW_some, kCallC_some, kCall_some, wk_T, wk_n, wk_keep, wk_inv, wk_act, wk_dr, wk_le, aCalm, wantC, dstOk, calm, aCallK, aCall3K, subOf, subRep, aCall2K, apnd, bsMove, putBox, putOwn, partAV, mvL, AV.mv, AV.base, AV.moved, AV.src, TI.flat, apSize, pickAV, St.val, St.cond, St.fn, St.next, St.set, St.trim, wipe_eq, wipeE_app, wipeM_app, pickEnv, get?, cGet, upd_app, withPuts, killAll, rm, freshP, Oper.hnd, Sc.st, ofConst, constOk, lenAV, elemLen, loadAV, ldL, ld1, fieldAddrAV, indexAddrAV, sliceAV, convAV, buildAV, fillAV, fieldAV, Out.of, binAV, AV.rows, AV.one, AV.cells, AV.deepOk, AV.toD, toDs, partRows, partRowsM, partsDeep, TK.zeroAV, TK.zeroD, byteOf, inR, Op.operands, Call.operands, passVs, passV, passL, pass1, passB, pasVs, pasV, pasL, pas1, ownsOk, okHs, okHs2, okFin, finOk2, rho, over, backRes, backAV, backAV1, backBlk, putBack, back2, back2_V, back2_1, m2, AV.wipe, AV.wipeV, AV.wipe1, Blk.wipe, AV.hs, AV.hs.hsL, alOps, Con.start2, Con.pk, bodyQ, fini, resAV, resA, firstId, Sc.from, renEnv, renT, renV, renVs, renL, ren1, renBox, renOwn, okRen, clOf, actB, setRow, flatRows, flatD, noInv, shr_nil, shr_some, kStepF_some, shareL, AV.viewed, AV.viewed1, cL7Ok, Con.fn, tTab, cL4Name, cL4Ok, cL1In, rsInv_2, rsInv_6, rsInv_13, rsO, rsI, rsH, bRepo_def]
  try dsimp only
  refine fun i hi hprev _ => ⟨fun hlt => ?_, fun hge => ?_⟩
  · have e3 : Option.map eCommit r.commits[i]? = some (eCommit r.commits[i]) := by simp -implicitDefEqProofs [List.getElem?_eq_getElem hlt]
    have hgc : r.commits.getD i default = r.commits[i] := by simp -implicitDefEqProofs [List.getD_eq_getElem?_getD, hlt]
    have n0 := hN i hlt
    have n1 := hN1 i
    have n2 := hN2 i
    have n3 := hY i
    rw [hgc] at n1 n2 n3
    simp -implicitDefEqProofs [hlt, e3, eCommit, D.asStr, D.asRows, cast_eq, and_assoc]
    try simp only [show r.commits[i]?.getD default = r.commits[i] by simp -implicitDefEqProofs [hlt]]
    generalize r.commits[i] = c at n1 n2 n3 ⊢
    clear hN hN1 hN2 hY hM hH e3 hgc
    refine ⟨hprev, fun t ht _ hinv _ => ⟨fun hlt2 => ?_, fun hge2 => ?_⟩⟩
    · have qt : Option.map eInt c.parents[t]? = some (eInt c.parents[t]) := by simp -implicitDefEqProofs [List.getElem?_eq_getElem hlt2]
      have q0 : Option.map eInt c.parents[0]? = some (eInt (c.parents[0]'(by omega))) := by simp -implicitDefEqProofs [List.getElem?_eq_getElem (show 0 < c.parents.length by omega)]
      have o : oneP i c.parents t = ((decide (0 ≤ c.parents[t]) && decide (c.parents[t] ≤ (i : Int) - 1)) && !(decide (0 < t) && decide (c.parents[t] = c.parents[0]'(by omega)))) := by
        unfold oneP inN
        rw [show c.parents.getD t 0 = c.parents[t] by simp -implicitDefEqProofs [List.getD_eq_getElem?_getD, hlt2], show c.parents.getD 0 0 = c.parents[0]'(by omega) by simp -implicitDefEqProofs [List.getD_eq_getElem?_getD, show 0 < c.parents.length by omega]]
      have n7 : oneP i c.parents t = false → repoS r = false := fun h => n0 (n2 t hlt2 h)
      have n8 : oneP i c.parents t = true → ∀ j, j < t + 1 → oneP i c.parents j = true := fun h j hj => by
        rcases Nat.lt_or_ge j t with h3 | h3
        · exact hinv j h3
        · have : j = t := by omega
          subst this; exact h
      simp -implicitDefEqProofs [qt, q0, eInt, hlt2]
      refine ⟨by omega, by omega, fun _ _ => ⟨fun h => ?_, fun g1 g2 => ⟨fun h0 => ⟨by omega, fun _ => ⟨fun he => n7 (by rw [o]; simp -implicitDefEqProofs [he, h0]), fun he => ⟨by omega, by omega, fun _ _ => ⟨t + 1, rfl, by omega, hprev, n8 (by rw [o]; simp -implicitDefEqProofs [g1, g2, he]), by omega⟩⟩⟩⟩,
        fun h0 => ⟨by omega, by omega, fun _ _ => ⟨t + 1, rfl, by omega, hprev, n8 (by rw [o, show decide (0 < t) = false by simp -implicitDefEqProofs [h0]]; simp -implicitDefEqProofs [g1, g2]), by omega⟩⟩⟩⟩⟩
      have : repoS r = false := n7 (by rw [o]; simp; omega)
      exact ⟨fun _ => this, fun _ => this⟩
    · have n9 : okS1 c = false → repoS r = false := fun h => n0 (n1 h)
      have n10 : okS1 c = true → ∀ j, j < i + 1 → okCS r.commits j = true := fun h j hj => by
        rcases Nat.lt_or_ge j i with h3 | h3
        · exact hprev j h3
        · have : j = i := by omega
          subst this
          exact n3 h (fun k hk => hinv k (by omega))
      refine fun _ => ⟨fun h => n9 (by simp -implicitDefEqProofs [okS1]; omega), fun h => ⟨fun hn => n9 (by simp -implicitDefEqProofs [okS1, hn]), fun hn => ⟨fun ht => n9 (by simp -implicitDefEqProofs [okS1, ht]), fun ht => ⟨by omega, by omega, fun _ _ => ⟨i + 1, rfl, by omega, n10 (by simp -implicitDefEqProofs [okS1, hn, ht]; omega), by omega⟩⟩⟩⟩⟩
  · clear hN hN1 hN2 hY
    have hall : ∀ j, j < r.commits.length → okCS r.commits j = true := fun j hj => hprev j (by omega)
    refine ⟨hall, fun t ht _ hinv _ => ⟨fun hlt2 => ?_, fun hge2 _ => ?_⟩⟩
    · generalize hhs : r.heads = hs at *
      have e3 : Option.map eHead hs[t]? = some (eHead hs[t]) := by simp -implicitDefEqProofs [List.getElem?_eq_getElem hlt2]
      have e4 : Option.map eHead hs[t - 1]? = some (eHead (hs[t - 1]'(by omega))) := by simp -implicitDefEqProofs [List.getElem?_eq_getElem (show t - 1 < hs.length by omega)]
      have hh : okHd r.commits.length hs t = (nameB hs[t].name && inN r.commits.length hs[t].at_ && (decide (t = 0) || Go.Op.bytesLess (hs[t - 1]'(by omega)).name hs[t].name)) := by
        unfold okHd
        rw [show hs.getD t default = hs[t] by simp -implicitDefEqProofs [List.getD_eq_getElem?_getD, hlt2], show hs.getD (t - 1) default = hs[t - 1]'(by omega) by simp -implicitDefEqProofs [List.getD_eq_getElem?_getD, show t - 1 < hs.length by omega]]
      have n7 : okHd r.commits.length hs t = false → repoS r = false := fun h => hH (hM t hlt2 h)
      have n8 : okHd r.commits.length hs t = true → ∀ j, j < t + 1 → okHd r.commits.length hs j = true := fun h j hj => by
        rcases Nat.lt_or_ge j t with h3 | h3
        · exact hinv j h3
        · have : j = t := by omega
          subst this; exact h
      have hq := leqS_iff hs[t].name (hs[t - 1]'(by omega)).name
      rw [less_eq] at hh
      unfold leqS at hq
      rw [hh] at n7 n8
      unfold inN at n7 n8
      clear hh hH hM
      simp -implicitDefEqProofs [hlt2, e3, e4, eHead, D.asStr, D.asInt, cast_eq, and_assoc]
      try simp +contextual -implicitDefEqProofs [eStr, eFile, cast_succ, cast_eq, cast_zero, List.getElem?_eq_getElem, eStrs_set, eFiles_set, eStrs_rep, eFiles_rep, ← eStrs_append, ← eFiles_append, eStrs_take, eStrs_drop, eFiles_take, eFiles_drop, eStrs_snoc, eFiles_snoc, and_assoc, hlt2]
      clear e3 e4 hinv hprev
      repeat' (first | intro _ | apply And.intro)
      all_goals first | omega | grind -ring
    · have h2 : headsB r.commits.length r.heads = decide (r.heads.length ≤ 5) := by
        unfold headsB
        have : (List.range r.heads.length).all (okHd r.commits.length r.heads) = true := by
          rw [List.all_eq_true]
          intro j hj
          have hj' : j < r.heads.length := by simpa using hj
          exact hinv j (by omega)
        rw [this, Bool.and_true]
      refine ⟨fun h16 _ => ?_, fun h16 => ?_⟩
      · rw [Bool.eq_iff_iff, repoS_iff, h2]
        simp only [decide_eq_true_eq]
        exact ⟨fun h => by have := h.2.1; omega, fun h => ⟨hall, by omega, by omega⟩⟩
      · cases hq : repoS r with
        | false => rfl
        | true => have := ((repoS_iff r).1 hq).2.2; omega

def marksI (a : RepoD × List HeadD) : Bool := repoI a.1 && headsB a.1.commits.length a.2
def cMarksOkI : Con := .fn 12 (RepoD × List HeadD) (fun a => [vRepo a.1, .sl true 2 (eHeads a.2)]) (fun a => rpPre a.1) (fun a => .bool (marksI a)) (fun _ => [])
set_option maxHeartbeats 4000000 in
theorem marksOkI_has : Has Tryd.prog 104 cMarksOkI := by
  refine has_walk mixed tTab_ok (l := [(118, cRepoOk), (121, cHeadsOk)]) (HasL.cons repoOk_has (HasL.cons headsOk_has HasL.nil)) [0, 1, 2, 4] ((fun a n (_ : Nat) => (fun _ => noInv) a n)) [] Tryd.func104 (by kernel_rfl) (code := _) (by unfold Tryd.f104; rfl) (by kernel_rfl) (by decide) (fun _ => ⟨(), trivial⟩) (by intro h; first | exact fun _ => rfl | cases h) (by kernel_rfl) ?_
  intro a ha
  obtain ⟨r, m⟩ := a
  obtain ⟨ha2, ha3⟩ : r.commits.length ≤ 1073741824 ∧ ∀ c ∈ r.commits, ∀ f ∈ c.tree, f.path.length ≤ 536870912 := ha
  simp -implicitDefEqProofs [vc_skip, extOf, vc_seq, vc_cond, vc_block, vc_exit, vc_ret, vc_region, vc_regionD, vc_loop, kSeq_normal, kSeq_ret, kSeq_exit, kBlock_normal, kBlock_ret, kBlock_exit, kLoop_normal, kLoop_ret, kLoop_exit, kCond_bool, kNorm_app, vcOps_nil, vcOps_cons, kOps_app, kStep_some, kStep_none, vcDL_nil, vcDL_cons, kOpsD_app, kStepD_true, kStepD_false, kStepC_some, kStepC_none, kMv_app, act3_store, act3_call, act3_bs, kAct_app, kSt2_app, stealSlots, stealL, stealOne, subIn, AV.stolen, act_store, act_bs, act_append, act_call, kSet_app, kSet2_app, kSetG_app, kSetG_app0, kStore_ptr, kStore_eptr, kCallW_some, kCallC_some, kCall_some, wk_T, wk_n, wk_keep, wk_inv, wk_act, wk_dr, wk_le, aCalm, wantC, dstOk, calm, aCallK, aCall3K, subOf, subRep, aCall2K, apnd, bsMove, putBox, putOwn, partAV, mvL, AV.mv, AV.base, AV.moved, AV.src, TI.flat, apSize, pickAV, St.val, St.cond, St.fn, St.next, St.set, St.trim, wipe_eq, wipeE_app, wipeM_app, pickEnv, get?, cGet, upd_app, withPuts, killAll, rm, freshP, Oper.hnd, Sc.st, ofConst, constOk, lenAV, elemLen, loadAV, ldL, ld1, fieldAddrAV, indexAddrAV, sliceAV, convAV, buildAV, fillAV, fieldAV, Out.of, binAV, AV.rows, AV.one, AV.cells, AV.deepOk, AV.toD, toDs, partRows, partRowsM, partsDeep, TK.zeroAV, TK.zeroD, byteOf, inR, Op.operands, Call.operands, passVs, passV, passL, pass1, passB, pasVs, pasV, pasL, pas1, ownsOk, okHs, okHs2, okFin, finOk2, rho, over, backRes, backAV, backAV1, backBlk, putBack, back2, back2_V, back2_1, m2, AV.wipe, AV.wipeV, AV.wipe1, Blk.wipe, AV.hs, AV.hs.hsL, alOps, Con.start2, Con.pk, bodyQ, fini, resAV, resA, firstId, Sc.from, renEnv, renT, renV, renVs, renL, ren1, renBox, renOwn, okRen, clOf, actB, setRow, flatRows, flatD, noInv, shr_nil, shr_some, kStepF_some, shareL, AV.viewed, AV.viewed1, cMarksOkI, Con.fn, tTab, cRepoOk, cHeadsOk, marksI, rpPre]
  try dsimp only
  try simp +contextual -implicitDefEqProofs [eStr, eFile, cast_succ, cast_eq, cast_zero, List.getElem?_eq_getElem, eStrs_set, eFiles_set, eStrs_rep, eFiles_rep, ← eStrs_append, ← eFiles_append, eStrs_take, eStrs_drop, eFiles_take, eFiles_drop, eStrs_snoc, eFiles_snoc, and_assoc]
  repeat' (first | intro _ | apply And.intro)
  all_goals first | omega | grind [all_take]

end Vx
end Go.Proofs.YtlhkmgbmnbkaeaaDoor
/-
  Laws: FnExactMarksOk.
-/
namespace Go.Proofs.YtlhkmgbmnbkaeaaDoor
namespace Vx
open Go.RowKit
set_option maxRecDepth 8000

theorem szCm_ok {c : CommitD} {l : Int} (hl : 0 ≤ l) (h : 0 ≤ szCm c l) : (c.parents.length : Int) ≤ l ∧ (c.who.length : Int) ≤ l ∧ (c.tree.length : Int) ≤ l ∧ ∀ f ∈ c.tree, (f.path.length : Int) ≤ l ∧ (f.text.length : Int) ≤ l ∧ ∀ s ∈ f.text, (s.length : Int) ≤ l := by
  unfold szCm at h
  have h0 := szI_le (a := c.parents) hl
  split at h
  · omega
  · split at h
    · omega
    · split at h
      · omega
      · rename_i h1 h2 h3
        obtain ⟨q1, q2⟩ := szFiles_ok (Int.not_lt.1 h3)
        have hp : (c.parents.length : Int) ≤ l := by
          unfold szI at h1
          split at h1 <;> omega
        refine ⟨hp, by omega, by omega, fun f hf => ?_⟩
        obtain ⟨r1, r2, r3⟩ := q2 f hf
        exact ⟨by omega, by omega, fun s hs => by have := r3 s hs; omega⟩
theorem szCL_ok : ∀ {a : List CommitD} {l : Int}, 0 ≤ l → 0 ≤ szCL a l → ∀ c ∈ a, (c.parents.length : Int) ≤ l ∧ (c.who.length : Int) ≤ l ∧ (c.tree.length : Int) ≤ l ∧ ∀ f ∈ c.tree, (f.path.length : Int) ≤ l ∧ (f.text.length : Int) ≤ l ∧ ∀ s ∈ f.text, (s.length : Int) ≤ l := by
  intro a
  induction a with
  | nil => intro l _ _ c hc; cases hc
  | cons x r ih =>
    intro l hl h c hc
    simp only [szCL] at h
    split at h
    · omega
    · rename_i h0
      rcases List.mem_cons.1 hc with rfl | hc
      · exact szCm_ok hl (by omega)
      · have hle := szCm_le (c := x) hl
        obtain ⟨h1, h2, h3, h4⟩ := ih (by omega) h c hc
        refine ⟨by omega, by omega, by omega, fun f hf => ?_⟩
        obtain ⟨r1, r2, r3⟩ := h4 f hf
        exact ⟨by omega, by omega, fun s hs => by have := r3 s hs; omega⟩
theorem szCommits_ok {a : List CommitD} {l : Int} (h : 0 ≤ szCommits a l) : (a.length : Int) ≤ l ∧ ∀ c ∈ a, (c.parents.length : Int) ≤ l ∧ (c.who.length : Int) ≤ l ∧ (c.tree.length : Int) ≤ l ∧ ∀ f ∈ c.tree, (f.path.length : Int) ≤ l ∧ (f.text.length : Int) ≤ l ∧ ∀ s ∈ f.text, (s.length : Int) ≤ l := by
  unfold szCommits at h
  split at h
  · omega
  · refine ⟨by omega, fun c hc => ?_⟩
    obtain ⟨h1, h2, h3, h4⟩ := szCL_ok (by omega) h c hc
    refine ⟨by omega, by omega, by omega, fun f hf => ?_⟩
    obtain ⟨r1, r2, r3⟩ := h4 f hf
    exact ⟨by omega, by omega, fun s hs => by have := r3 s hs; omega⟩
theorem szHL_le : ∀ {a : List HeadD} {l : Int}, 0 ≤ l → szHL a l ≤ l := by
  intro a
  induction a with
  | nil => intro l _; exact Int.le_refl l
  | cons s r ih =>
    intro l h
    simp only [szHL]
    split
    · omega
    · have h1 := szHd_le (f := s) h
      have := ih (l := szHd s l) (by omega); omega
theorem szHeads_le {a : List HeadD} {l : Int} (h : 0 ≤ l) : szHeads a l ≤ l := by
  unfold szHeads
  split
  · omega
  · have := szHL_le (a := a) (l := l - a.length) (by omega); omega
theorem szHL_ok : ∀ {a : List HeadD} {l : Int}, 0 ≤ l → 0 ≤ szHL a l → ∀ h ∈ a, (h.name.length : Int) ≤ l := by
  intro a
  induction a with
  | nil => intro l _ _ c hc; cases hc
  | cons x r ih =>
    intro l hl h c hc
    simp only [szHL] at h
    split at h
    · omega
    · rename_i h0
      have hle := szHd_le (f := x) hl
      rcases List.mem_cons.1 hc with rfl | hc
      · unfold szHd at h0
        split at h0 <;> omega
      · have := ih (by omega) h c hc; omega
theorem szHeads_ok {a : List HeadD} {l : Int} (h : 0 ≤ szHeads a l) : (a.length : Int) ≤ l ∧ ∀ h ∈ a, (h.name.length : Int) ≤ l := by
  unfold szHeads at h
  split at h
  · omega
  · exact ⟨by omega, fun c hc => by have := szHL_ok (by omega) h c hc; omega⟩
theorem szRp_le {r : RepoD} {l : Int} (h : 0 ≤ l) : szRp r l ≤ l := by
  unfold szRp
  have h1 := szCommits_le (a := r.commits) h
  split
  · omega
  · split
    · omega
    · have := szHeads_le (a := r.heads) (l := szCommits r.commits l) (by omega); omega
theorem szRp_ok {r : RepoD} {l : Int} (hl : 0 ≤ l) (h : 0 ≤ szRp r l) : ((r.commits.length : Int) ≤ l ∧ ∀ c ∈ r.commits, (c.parents.length : Int) ≤ l ∧ (c.who.length : Int) ≤ l ∧ (c.tree.length : Int) ≤ l ∧ ∀ f ∈ c.tree, (f.path.length : Int) ≤ l ∧ (f.text.length : Int) ≤ l ∧ ∀ s ∈ f.text, (s.length : Int) ≤ l) ∧
    (r.heads.length : Int) ≤ l ∧ ∀ h ∈ r.heads, (h.name.length : Int) ≤ l := by
  unfold szRp at h
  have h1 := szCommits_le (a := r.commits) hl
  split at h
  · omega
  · split at h
    · omega
    · rename_i h2 h3
      obtain ⟨q1, q2⟩ := szHeads_ok (Int.not_lt.1 h3)
      exact ⟨szCommits_ok (Int.not_lt.1 h2), by omega, fun c hc => by have := q2 c hc; omega⟩
theorem szRp_use {r : RepoD} (h : 0 ≤ szRp r 1048576) : rpSz r ∧ rpPre r := by
  obtain ⟨⟨h1, h2⟩, h3, h4⟩ := szRp_ok (by omega) h
  refine ⟨⟨by omega, fun c hc => ?_, by omega⟩, by omega, fun c hc f hf => ?_⟩
  · obtain ⟨q1, q2, q3, q4⟩ := h2 c hc
    exact ⟨by omega, by omega, fun g hg => by have := (q4 g hg).2.1; omega⟩
  · have := ((h2 c hc).2.2.2 f hf).1; omega

end Vx
end Go.Proofs.YtlhkmgbmnbkaeaaDoor
/-
  Contracts: lines of first parents, both sides; SeekSince.
-/
namespace Go.Proofs.YtlhkmgbmnbkaeaaDoor
namespace Vx
open Go.RowKit
set_option maxRecDepth 8000

theorem repo_use {r : RepoD} (h : repoI r = true) {i : Nat} (hi : i < r.commits.length) : r.commits[i].parents.length ≤ 2 ∧ (∀ p ∈ r.commits[i].parents, 0 ≤ p ∧ p < (i : Int)) ∧ treeI r.commits[i].tree = true := by
  have h1 := ((repoI_iff r).1 h).2.1 i hi
  have hg : r.commits.getD i default = r.commits[i] := by simp -implicitDefEqProofs [List.getD_eq_getElem?_getD, hi]
  simp only [okCI, okI1, hg, Bool.and_eq_true, decide_eq_true_eq, List.all_eq_true, List.mem_range] at h1
  refine ⟨h1.1.1.1.1, fun p hp => ?_, h1.1.2⟩
  obtain ⟨k, hk, rfl⟩ := List.getElem_of_mem hp
  have h2 := h1.2 k hk
  simp only [inN, Bool.and_eq_true, decide_eq_true_eq, List.getD_eq_getElem?_getD, List.getElem?_eq_getElem hk, Option.getD_some] at h2
  omega
theorem repo_n {r : RepoD} (h : repoI r = true) : r.commits.length ≤ 16 := ((repoI_iff r).1 h).1

def firstP (r : RepoD) (a : Int) : Int := (r.commits.getD a.toNat default).parents.headD (-1)
theorem first_lt {r : RepoD} (h : repoI r = true) {a : Int} (h0 : 0 ≤ a) (h1 : a < r.commits.length) : -1 ≤ firstP r a ∧ firstP r a < a := by
  have hi : a.toNat < r.commits.length := by omega
  obtain ⟨_, h2, _⟩ := repo_use h hi
  unfold firstP
  rw [List.getD_eq_getElem?_getD, List.getElem?_eq_getElem hi, Option.getD_some]
  cases hp : r.commits[a.toNat].parents with
  | nil => simp; omega
  | cons p l =>
    have := h2 p (by rw [hp]; simp)
    simp only [List.headD_cons]
    omega
def lineF (r : RepoD) : Nat → Int → List Int
  | 0, _ => []
  | n + 1, a => if a < 0 then [] else a :: lineF r n (firstP r a)
def lineP (r : RepoD) (a : Int) : List Int := lineF r (a + 1).toNat a
theorem lineF_fuel {r : RepoD} (h : repoI r = true) : ∀ (f g : Nat) (a : Int), a < r.commits.length → (a + 1).toNat ≤ f → (a + 1).toNat ≤ g → lineF r f a = lineF r g a := by
  intro f
  induction f with
  | zero =>
    intro g a ha hf hg
    have : a < 0 := by omega
    cases g with
    | zero => rfl
    | succ g => simp -implicitDefEqProofs [lineF, this]
  | succ f ih =>
    intro g a ha hf hg
    by_cases hn : a < 0
    · cases g with
      | zero => simp -implicitDefEqProofs [lineF, hn]
      | succ g => simp -implicitDefEqProofs [lineF, hn]
    · obtain ⟨g, rfl⟩ : ∃ g', g = g' + 1 := ⟨g - 1, by omega⟩
      have hlt := first_lt h (a := a) (by omega) ha
      simp only [lineF, hn, if_false]
      rw [ih g (firstP r a) (by omega) (by omega) (by omega)]
theorem line_step {r : RepoD} (h : repoI r = true) {a : Int} (h0 : 0 ≤ a) (h1 : a < r.commits.length) : lineP r a = a :: lineP r (firstP r a) := by
  have hlt := first_lt h h0 h1
  unfold lineP
  rw [show (a + 1).toNat = a.toNat + 1 by omega]
  simp only [lineF, show ¬ a < 0 by omega, if_false]
  rw [lineF_fuel h a.toNat (firstP r a + 1).toNat (firstP r a) (by omega) (by omega) (by omega)]
theorem line_neg (r : RepoD) {a : Int} (h : a < 0) : lineP r a = [] := by
  unfold lineP
  rw [show (a + 1).toNat = 0 by omega]; rfl
theorem line_bd {r : RepoD} (h : repoI r = true) : ∀ (n : Nat) (a : Int), a < r.commits.length → a + 1 ≤ n → (lineP r a).length ≤ n ∧ ∀ b ∈ lineP r a, 0 ≤ b ∧ b < r.commits.length := by
  intro n
  induction n with
  | zero => intro a _ h2; rw [line_neg r (by omega)]; simp
  | succ n ih =>
    intro a ha h2
    by_cases hn : a < 0
    · rw [line_neg r hn]; simp
    · rw [line_step h (by omega) ha]
      have hlt := first_lt h (a := a) (by omega) ha
      obtain ⟨i1, i2⟩ := ih (firstP r a) (by omega) (by omega)
      refine ⟨by simp; omega, fun b hb => ?_⟩
      rcases List.mem_cons.1 hb with rfl | hb
      · omega
      · exact i2 b hb

def cFirst : Con := .fn 21 (RepoD × Int) (fun a => [vRepo a.1, .int .i64 a.2]) (fun a => 0 ≤ a.2 ∧ a.2 < a.1.commits.length) (fun a => .int .i64 (firstP a.1 a.2)) (fun _ => [])
set_option maxHeartbeats 4000000 in
theorem first_has : Has Tryd.prog 153 cFirst := by
  refine has_walk mixed tTab_ok (l := []) HasL.nil [0, 1, 2, 4] ((fun a n (_ : Nat) => (fun _ => noInv) a n)) [] Tryd.func153 (by kernel_rfl) (code := _) (by unfold Tryd.f153; rfl) (by kernel_rfl) (by decide) (fun _ => ⟨(), trivial⟩) (by intro h; first | exact fun _ => rfl | cases h) (by kernel_rfl) ?_
  intro a ha
  obtain ⟨r, n⟩ := a
  obtain ⟨h1, h2⟩ : 0 ≤ n ∧ n < r.commits.length := ha
  have hi : n.toNat < r.commits.length := by omega
  have e : Option.map eCommit r.commits[n.toNat]? = some (eCommit r.commits[n.toNat]) := by simp -implicitDefEqProofs [hi]
  have hf : firstP r n = r.commits[n.toNat].parents.headD (-1) := by unfold firstP; rw [List.getD_eq_getElem?_getD, List.getElem?_eq_getElem hi]; rfl
  simp -implicitDefEqProofs [vc_skip, extOf, vc_seq, vc_cond, vc_block, vc_exit, vc_ret, vc_region, vc_regionD, vc_loop, kSeq_normal, kSeq_ret, kSeq_exit, kBlock_normal, kBlock_ret, kBlock_exit, kLoop_normal, kLoop_ret, kLoop_exit, kCond_bool, kNorm_app, vcOps_nil, vcOps_cons, kOps_app, kStep_some, kStep_none, vcDL_nil, vcDL_cons, kOpsD_app, kStepD_true, kStepD_false, kStepC_some, kStepC_none, kMv_app, act3_store, act3_call, act3_bs, kAct_app, kSt2_app, stealSlots, stealL, stealOne, subIn, AV.stolen, act_store, act_bs, act_append, act_call, kSet_app, kSet2_app, kSetG_app, kSetG_app0, kStore_ptr, kStore_eptr, kCallW_some, kCallC_some, kCall_some, wk_T, wk_n, wk_keep, wk_inv, wk_act, wk_dr, wk_le, aCalm, wantC, dstOk, calm, aCallK, aCall3K, subOf, subRep, aCall2K, apnd, bsMove, putBox, putOwn, partAV, mvL, AV.mv, AV.base, AV.moved, AV.src, TI.flat, apSize, pickAV, St.val, St.cond, St.fn, St.next, St.set, St.trim, wipe_eq, wipeE_app, wipeM_app, pickEnv, get?, cGet, upd_app, withPuts, killAll, rm, freshP, Oper.hnd, Sc.st, ofConst, constOk, lenAV, elemLen, loadAV, ldL, ld1, fieldAddrAV, indexAddrAV, sliceAV, convAV, buildAV, fillAV, fieldAV, Out.of, binAV, AV.rows, AV.one, AV.cells, AV.deepOk, AV.toD, toDs, partRows, partRowsM, partsDeep, TK.zeroAV, TK.zeroD, byteOf, inR, Op.operands, Call.operands, passVs, passV, passL, pass1, passB, pasVs, pasV, pasL, pas1, ownsOk, okHs, okHs2, okFin, finOk2, rho, over, backRes, backAV, backAV1, backBlk, putBack, back2, back2_V, back2_1, m2, AV.wipe, AV.wipeV, AV.wipe1, Blk.wipe, AV.hs, AV.hs.hsL, alOps, Con.start2, Con.pk, bodyQ, fini, resAV, resA, firstId, Sc.from, renEnv, renT, renV, renVs, renL, ren1, renBox, renOwn, okRen, clOf, actB, setRow, flatRows, flatD, noInv, shr_nil, shr_some, kStepF_some, shareL, AV.viewed, AV.viewed1, cFirst, Con.fn, tTab, e, hf, eCommit, hi, h1, h2]
  try dsimp only
  intro _
  cases hp : r.commits[n.toNat].parents with
  | nil => simp
  | cons q l => simp -implicitDefEqProofs [eInt]

def cLineR : Con := .fn 16 (RepoD × Int) (fun a => [vRepo a.1, .int .i64 a.2]) (fun a => repoI a.1 = true ∧ 0 ≤ a.2 ∧ a.2 < a.1.commits.length) (fun a => .own 8 1 (eInts (lineP a.1 a.2))) (fun a => ownInts 8 (lineP a.1 a.2))
set_option maxHeartbeats 4000000 in
theorem lineR_has : Has Tryd.prog 116 cLineR := by
  refine has_walk mixed tTab_ok (l := [(153, cFirst)]) (HasL.cons first_has HasL.nil) [0, 1, 2, 4, 5] ((fun a n (_ : Nat) => (fun a _ => ⟨List Int × Int, fun t => ⟨[(1, true, .int .i64 t.2), (2, true, .ptr 10 0), (4, true, .nil), (5, true, .own 9 1 (eInts t.1))], [(10, bRepo a.1), (9, .own 3 1 true (eInts t.1))]⟩, fun t => t.1 ++ lineP a.1 t.2 = lineP a.1 a.2 ∧ -1 ≤ t.2 ∧ t.2 < a.1.commits.length ∧ t.1.length + (t.2 + 1).toNat ≤ 16, fun t => (t.2 + 1).toNat⟩) a n)) [] Tryd.func116 (by kernel_rfl) (code := _) (by unfold Tryd.f116; rfl) (by kernel_rfl) (by decide) (fun _ => ⟨(), trivial⟩) (by intro h; first | exact fun _ => rfl | cases h) (by kernel_rfl) ?_
  intro a ha
  obtain ⟨r, n⟩ := a
  obtain ⟨h1, h2, h3⟩ : repoI r = true ∧ 0 ≤ n ∧ n < r.commits.length := ha
  have h4 := repo_n h1
  have k1 := fun b => @line_step r h1 b
  have k2 := fun b => @line_neg r b
  have k3 := fun b => @first_lt r h1 b
  simp -implicitDefEqProofs [vc_skip, extOf, vc_seq, vc_cond, vc_block, vc_exit, vc_ret, vc_region, vc_regionD, vc_loop, kSeq_normal, kSeq_ret, kSeq_exit, kBlock_normal, kBlock_ret, kBlock_exit, kLoop_normal, kLoop_ret, kLoop_exit, kCond_bool, kNorm_app, vcOps_nil, vcOps_cons, kOps_app, kStep_some, kStep_none, vcDL_nil, vcDL_cons, kOpsD_app, kStepD_true, kStepD_false, kStepC_some, kStepC_none, kMv_app, act3_store, act3_call, act3_bs, kAct_app, kSt2_app, stealSlots, stealL, stealOne, subIn, AV.stolen, act_store, act_bs, act_append, act_call, kSet_app, kSet2_app, kSetG_app, kSetG_app0, kStore_ptr, kStore_eptr, kCallW_some, kCallC_some, kCall_some, wk_T, wk_n, wk_keep, wk_inv, wk_act, wk_dr, wk_le, aCalm, wantC, dstOk, calm, aCallK, aCall3K, subOf, subRep, aCall2K, apnd, bsMove, putBox, putOwn, partAV, mvL, AV.mv, AV.base, AV.moved, AV.src, TI.flat, apSize, pickAV, St.val, St.cond, St.fn, St.next, St.set, St.trim, wipe_eq, wipeE_app, wipeM_app, pickEnv, get?, cGet, upd_app, withPuts, killAll, rm, freshP, Oper.hnd, Sc.st, ofConst, constOk, lenAV, elemLen, loadAV, ldL, ld1, fieldAddrAV, indexAddrAV, sliceAV, convAV, buildAV, fillAV, fieldAV, Out.of, binAV, AV.rows, AV.one, AV.cells, AV.deepOk, AV.toD, toDs, partRows, partRowsM, partsDeep, TK.zeroAV, TK.zeroD, byteOf, inR, Op.operands, Call.operands, passVs, passV, passL, pass1, passB, pasVs, pasV, pasL, pas1, ownsOk, okHs, okHs2, okFin, finOk2, rho, over, backRes, backAV, backAV1, backBlk, putBack, back2, back2_V, back2_1, m2, AV.wipe, AV.wipeV, AV.wipe1, Blk.wipe, AV.hs, AV.hs.hsL, alOps, Con.start2, Con.pk, bodyQ, fini, resAV, resA, firstId, Sc.from, renEnv, renT, renV, renVs, renL, ren1, renBox, renOwn, okRen, clOf, actB, setRow, flatRows, flatD, noInv, shr_nil, shr_some, kStepF_some, shareL, AV.viewed, AV.viewed1, cLineR, Con.fn, tTab, cFirst, bRepo_def]
  try dsimp only
  refine ⟨⟨[], n, ⟨rfl, rfl⟩, rfl, by omega, h3, by simp; omega⟩, fun out b g1 g2 g3 g4 => ⟨fun hb => ?_, fun hb => ?_⟩⟩
  · have hs := k1 b hb g3
    have hf := k3 b hb g3
    refine ⟨⟨by omega, by omega⟩, r, b, ⟨⟨rfl, rfl⟩, rfl⟩, ⟨hb, g3⟩, out ++ [b], firstP r b, ⟨⟨rfl, by simp -implicitDefEqProofs [eInts, eInt]⟩, by simp -implicitDefEqProofs [eInts, eInt]⟩, ⟨?_, by omega, by omega, by simp; omega⟩, by omega⟩
    rw [← g1, hs]; simp
  · rw [k2 b hb, List.append_nil] at g1
    exact ⟨g1.symm, g1⟩

def cL8Line : Con := .fn 29 (RepoD × Int) (fun a => [vRepo a.1, .int .i64 a.2]) (fun a => repoI a.1 = true ∧ 0 ≤ a.2 ∧ a.2 < a.1.commits.length) (fun a => .own 8 1 (eInts (lineP a.1 a.2))) (fun a => ownInts 8 (lineP a.1 a.2))
set_option maxHeartbeats 4000000 in
theorem l8Line_has : Has Tryd.prog 114 cL8Line := by
  refine has_walk mixed tTab_ok (l := []) HasL.nil [0, 1, 2, 4, 5] ((fun a n (_ : Nat) => (fun a _ => ⟨List Int × Int, fun t => ⟨[(1, true, .int .i64 t.2), (2, true, .ptr 10 0), (4, true, .nil), (5, true, .own 9 1 (eInts t.1))], [(10, bRepo a.1), (9, .own 3 1 true (eInts t.1))]⟩, fun t => t.1 ++ lineP a.1 (firstP a.1 t.2) = lineP a.1 a.2 ∧ 0 ≤ t.2 ∧ t.2 < a.1.commits.length ∧ t.1.length + (t.2 + 1).toNat ≤ 17, fun t => (t.2 + 1).toNat⟩) a n)) [] Tryd.func114 (by kernel_rfl) (code := _) (by unfold Tryd.f114; rfl) (by kernel_rfl) (by decide) (fun _ => ⟨(), trivial⟩) (by intro h; first | exact fun _ => rfl | cases h) (by kernel_rfl) ?_
  intro a ha
  obtain ⟨r, n⟩ := a
  obtain ⟨h1, h2, h3⟩ : repoI r = true ∧ 0 ≤ n ∧ n < r.commits.length := ha
  have h4 := repo_n h1
  simp -implicitDefEqProofs [vc_skip, extOf, vc_seq, vc_cond, vc_block, vc_exit, vc_ret, vc_region, vc_regionD, vc_loop, kSeq_normal, kSeq_ret, kSeq_exit, kBlock_normal, kBlock_ret, kBlock_exit, kLoop_normal, kLoop_ret, kLoop_exit, kCond_bool, kNorm_app, vcOps_nil, vcOps_cons, kOps_app, kStep_some, kStep_none, vcDL_nil, vcDL_cons, kOpsD_app, kStepD_true, kStepD_false, kStepC_some, kStepC_none, kMv_app, act3_store, act3_call, act3_bs, kAct_app, kSt2_app, stealSlots, stealL, stealOne, subIn, AV.stolen, act_store, act_bs, act_append, act_call, kSet_app, kSet2_app, kSetG_app, kSetG_app0, kStore_ptr, kStore_eptr, kCallW_some, kCallC_some, kCall_some, wk_T, wk_n, wk_keep, wk_inv, wk_act, wk_dr, wk_le, aCalm, wantC, dstOk, calm, aCallK, aCall3K, subOf, subRep, aCall2K, apnd, bsMove, putBox, putOwn, partAV, mvL, AV.mv, AV.base, AV.moved, AV.src, TI.flat, apSize, pickAV, St.val, St.cond, St.fn, St.next, St.set, St.trim, wipe_eq, wipeE_app, wipeM_app, pickEnv, get?, cGet, upd_app, withPuts, killAll, rm, freshP, Oper.hnd, Sc.st, ofConst, constOk, lenAV, elemLen, loadAV, ldL, ld1, fieldAddrAV, indexAddrAV, sliceAV, convAV, buildAV, fillAV, fieldAV, Out.of, binAV, AV.rows, AV.one, AV.cells, AV.deepOk, AV.toD, toDs, partRows, partRowsM, partsDeep, TK.zeroAV, TK.zeroD, byteOf, inR, Op.operands, Call.operands, passVs, passV, passL, pass1, passB, pasVs, pasV, pasL, pas1, ownsOk, okHs, okHs2, okFin, finOk2, rho, over, backRes, backAV, backAV1, backBlk, putBack, back2, back2_V, back2_1, m2, AV.wipe, AV.wipeV, AV.wipe1, Blk.wipe, AV.hs, AV.hs.hsL, alOps, Con.start2, Con.pk, bodyQ, fini, resAV, resA, firstId, Sc.from, renEnv, renT, renV, renVs, renL, ren1, renBox, renOwn, okRen, clOf, actB, setRow, flatRows, flatD, noInv, shr_nil, shr_some, kStepF_some, shareL, AV.viewed, AV.viewed1, cL8Line, Con.fn, tTab, bRepo_def]
  try dsimp only
  have k1 := @line_step r h1
  refine ⟨⟨[n], n, ⟨⟨rfl, by simp -implicitDefEqProofs [eInts, eInt]⟩, by simp -implicitDefEqProofs [eInts, eInt]⟩, by rw [k1 h2 h3]; rfl, h2, h3, by simp; omega⟩, fun out b g1 g2 g3 g4 => ⟨⟨g2, g3⟩, fun _ _ => ?_⟩⟩
  have hi : b.toNat < r.commits.length := by omega
  have e : Option.map eCommit r.commits[b.toNat]? = some (eCommit r.commits[b.toNat]) := by simp -implicitDefEqProofs [hi]
  have hf : firstP r b = r.commits[b.toNat].parents.headD (-1) := by unfold firstP; rw [List.getD_eq_getElem?_getD, List.getElem?_eq_getElem hi]; rfl
  have hlt := first_lt h1 g2 g3
  simp -implicitDefEqProofs [e, eCommit, g2, g3]
  cases hp : r.commits[b.toNat].parents with
  | nil =>
    rw [hp] at hf
    rw [hf, line_neg r (by simp), List.append_nil] at g1
    simp
    exact ⟨g1.symm, g1⟩
  | cons q l =>
    rw [hp] at hf
    simp only [List.headD_cons] at hf
    rw [hf] at hlt
    have hq : 0 ≤ q := ((repo_use h1 hi).2.1 q (by rw [hp]; simp)).1
    simp -implicitDefEqProofs [eInt]
    exact fun _ => ⟨⟨by omega, by omega⟩, out ++ [q], q, ⟨⟨rfl, by simp -implicitDefEqProofs [eInts, eInt]⟩, by simp -implicitDefEqProofs [eInts, eInt]⟩, ⟨by rw [← g1, hf, k1 hq (by omega)]; simp, hq, by omega, by simp; omega⟩, by omega⟩

def cTreeR : Con := .fn 13 (RepoD × Int) (fun a => [vRepo a.1, .int .i64 a.2]) (fun a => 0 ≤ a.2 ∧ a.2 < a.1.commits.length) (fun a => .sl true 2 (eFiles (a.1.commits.getD a.2.toNat default).tree)) (fun _ => [])
set_option maxHeartbeats 4000000 in
theorem treeR_has : Has Tryd.prog 117 cTreeR := by
  refine has_walk mixed tTab_ok (l := []) HasL.nil [0, 1, 2, 4] ((fun a n (_ : Nat) => (fun _ => noInv) a n)) [] Tryd.func117 (by kernel_rfl) (code := _) (by unfold Tryd.f117; rfl) (by kernel_rfl) (by decide) (fun _ => ⟨(), trivial⟩) (by intro h; first | exact fun _ => rfl | cases h) (by kernel_rfl) ?_
  intro a ha
  obtain ⟨r, n⟩ := a
  obtain ⟨h1, h2⟩ : 0 ≤ n ∧ n < r.commits.length := ha
  have hi : n.toNat < r.commits.length := by omega
  have e : Option.map eCommit r.commits[n.toNat]? = some (eCommit r.commits[n.toNat]) := by simp -implicitDefEqProofs [hi]
  simp -implicitDefEqProofs [vc_skip, extOf, vc_seq, vc_cond, vc_block, vc_exit, vc_ret, vc_region, vc_regionD, vc_loop, kSeq_normal, kSeq_ret, kSeq_exit, kBlock_normal, kBlock_ret, kBlock_exit, kLoop_normal, kLoop_ret, kLoop_exit, kCond_bool, kNorm_app, vcOps_nil, vcOps_cons, kOps_app, kStep_some, kStep_none, vcDL_nil, vcDL_cons, kOpsD_app, kStepD_true, kStepD_false, kStepC_some, kStepC_none, kMv_app, act3_store, act3_call, act3_bs, kAct_app, kSt2_app, stealSlots, stealL, stealOne, subIn, AV.stolen, act_store, act_bs, act_append, act_call, kSet_app, kSet2_app, kSetG_app, kSetG_app0, kStore_ptr, kStore_eptr, kCallW_some, kCallC_some, kCall_some, wk_T, wk_n, wk_keep, wk_inv, wk_act, wk_dr, wk_le, aCalm, wantC, dstOk, calm, aCallK, aCall3K, subOf, subRep, aCall2K, apnd, bsMove, putBox, putOwn, partAV, mvL, AV.mv, AV.base, AV.moved, AV.src, TI.flat, apSize, pickAV, St.val, St.cond, St.fn, St.next, St.set, St.trim, wipe_eq, wipeE_app, wipeM_app, pickEnv, get?, cGet, upd_app, withPuts, killAll, rm, freshP, Oper.hnd, Sc.st, ofConst, constOk, lenAV, elemLen, loadAV, ldL, ld1, fieldAddrAV, indexAddrAV, sliceAV, convAV, buildAV, fillAV, fieldAV, Out.of, binAV, AV.rows, AV.one, AV.cells, AV.deepOk, AV.toD, toDs, partRows, partRowsM, partsDeep, TK.zeroAV, TK.zeroD, byteOf, inR, Op.operands, Call.operands, passVs, passV, passL, pass1, passB, pasVs, pasV, pasL, pas1, ownsOk, okHs, okHs2, okFin, finOk2, rho, over, backRes, backAV, backAV1, backBlk, putBack, back2, back2_V, back2_1, m2, AV.wipe, AV.wipeV, AV.wipe1, Blk.wipe, AV.hs, AV.hs.hsL, alOps, Con.start2, Con.pk, bodyQ, fini, resAV, resA, firstId, Sc.from, renEnv, renT, renV, renVs, renL, ren1, renBox, renOwn, okRen, clOf, actB, setRow, flatRows, flatD, noInv, shr_nil, shr_some, kStepF_some, shareL, AV.viewed, AV.viewed1, cTreeR, Con.fn, tTab, e, eCommit, hi, h1, h2]
  try dsimp only
  exact fun h => absurd h (by omega)

def areB (r : RepoD) (l : List Int) : Bool := repoI r && l.all fun a => decide (0 ≤ a) && decide (a ≤ (r.commits.length : Int) - 1)
def cAre : Con := .fn 21 (RepoD × List Int) (fun a => [vRepo a.1, .sl true 1 (eInts a.2)]) (fun a => rpPre a.1) (fun a => .bool (areB a.1 a.2)) (fun _ => [])
set_option maxHeartbeats 4000000 in
theorem are_has : Has Tryd.prog 115 cAre := by
  refine has_walk mixed tTab_ok (l := [(118, cRepoOk), (105, cExists)]) (HasL.cons repoOk_has (HasL.cons exists_has HasL.nil)) [0, 1, 2, 4, 6, 10, 11, 12] ((fun a n (_ : Nat) => (fun a _ => ⟨Nat, fun i => ⟨[(1, true, .sl true 1 (eInts a.2)), (2, true, .ptr 10 0), (4, true, .bool false), (10, true, .sl true 1 (eInts a.2)), (11, true, .int .i64 a.2.length), (12, true, .int .i64 i)], [(10, bRepo a.1)]⟩, fun i => i ≤ a.2.length ∧ ∀ x, x ∈ a.2.take i → (decide (0 ≤ x) && decide (x ≤ (a.1.commits.length : Int) - 1)) = true, fun i => a.2.length - i⟩) a n)) [] Tryd.func115 (by kernel_rfl) (code := _) (by unfold Tryd.f115; rfl) (by kernel_rfl) (by decide) (fun _ => ⟨(), trivial⟩) (by intro h; first | exact fun _ => rfl | cases h) (by kernel_rfl) ?_
  intro a ha
  obtain ⟨r, l⟩ := a
  replace ha : rpPre r := ha
  have ha2 := ha.1
  simp -implicitDefEqProofs [vc_skip, extOf, vc_seq, vc_cond, vc_block, vc_exit, vc_ret, vc_region, vc_regionD, vc_loop, kSeq_normal, kSeq_ret, kSeq_exit, kBlock_normal, kBlock_ret, kBlock_exit, kLoop_normal, kLoop_ret, kLoop_exit, kCond_bool, kNorm_app, vcOps_nil, vcOps_cons, kOps_app, kStep_some, kStep_none, vcDL_nil, vcDL_cons, kOpsD_app, kStepD_true, kStepD_false, kStepC_some, kStepC_none, kMv_app, act3_store, act3_call, act3_bs, kAct_app, kSt2_app, stealSlots, stealL, stealOne, subIn, AV.stolen, act_store, act_bs, act_append, act_call, kSet_app, kSet2_app, kSetG_app, kSetG_app0, kStore_ptr, kStore_eptr, kCallW_some, kCallC_some, kCall_some, wk_T, wk_n, wk_keep, wk_inv, wk_act, wk_dr, wk_le, aCalm, wantC, dstOk, calm, aCallK, aCall3K, subOf, subRep, aCall2K, apnd, bsMove, putBox, putOwn, partAV, mvL, AV.mv, AV.base, AV.moved, AV.src, TI.flat, apSize, pickAV, St.val, St.cond, St.fn, St.next, St.set, St.trim, wipe_eq, wipeE_app, wipeM_app, pickEnv, get?, cGet, upd_app, withPuts, killAll, rm, freshP, Oper.hnd, Sc.st, ofConst, constOk, lenAV, elemLen, loadAV, ldL, ld1, fieldAddrAV, indexAddrAV, sliceAV, convAV, buildAV, fillAV, fieldAV, Out.of, binAV, AV.rows, AV.one, AV.cells, AV.deepOk, AV.toD, toDs, partRows, partRowsM, partsDeep, TK.zeroAV, TK.zeroD, byteOf, inR, Op.operands, Call.operands, passVs, passV, passL, pass1, passB, pasVs, pasV, pasL, pas1, ownsOk, okHs, okHs2, okFin, finOk2, rho, over, backRes, backAV, backAV1, backBlk, putBack, back2, back2_V, back2_1, m2, AV.wipe, AV.wipeV, AV.wipe1, Blk.wipe, AV.hs, AV.hs.hsL, alOps, Con.start2, Con.pk, bodyQ, fini, resAV, resA, firstId, Sc.from, renEnv, renT, renV, renVs, renL, ren1, renBox, renOwn, okRen, clOf, actB, setRow, flatRows, flatD, noInv, shr_nil, shr_some, kStepF_some, shareL, AV.viewed, AV.viewed1, cAre, Con.fn, tTab, cRepoOk, cExists, bRepo_def]
  try dsimp only
  refine ⟨ha, fun h => by simp -implicitDefEqProofs [areB, h], fun h _ i hi hb => ⟨fun hlt => ⟨hlt, fun _ => ⟨by simp -implicitDefEqProofs [hlt, eInt], fun _ _ => ⟨r, l[i], ⟨⟨rfl, rfl⟩, by simp -implicitDefEqProofs [hlt, eInt]⟩, ha2, fun hbad => ?_, fun h0 h1 => ⟨⟨by omega, by omega⟩, fun _ _ => ⟨i + 1, by omega, ⟨by omega, take_step (q := fun x : Int => 0 ≤ x ∧ x ≤ (r.commits.length : Int) - 1) hlt hb ⟨h0, h1⟩⟩, by omega⟩⟩⟩⟩⟩, fun hge => ?_⟩⟩
  · unfold areB
    rw [h, Bool.true_and, List.all_eq_false]
    exact ⟨l[i], List.getElem_mem hlt, by simp; omega⟩
  · rw [List.take_of_length_le hge] at hb
    unfold areB
    rw [h, Bool.true_and, List.all_eq_true]
    intro x hx
    have := hb x hx
    simp; omega

def treeAt (r : RepoD) (a : Int) : List FileD := (r.commits.getD a.toNat default).tree
def hasC (r : RepoD) (w : Str) (a : Int) : Bool := !(seekL (hitS w) (treeAt r a)).isEmpty
def sinceW (p : Int → Bool) : List Int → Int → Int
  | [], s => s
  | a :: l, s => if p a then sinceW p l a else s
def sinceR (r : RepoD) (a : Int) (w : Str) : Int := if repoI r && (decide (0 ≤ a) && decide (a ≤ (r.commits.length : Int) - 1)) && nameB w then sinceW (hasC r w) (lineP r a) (-1) else -1
theorem since_yes {p : Int → Bool} {l : List Int} {i : Nat} {s : Int} (h : i < l.length) (hp : p l[i] = true) : sinceW p (l.drop i) s = sinceW p (l.drop (i + 1)) l[i] := by
  rw [List.drop_eq_getElem_cons h]; simp -implicitDefEqProofs [sinceW, hp]
theorem since_no {p : Int → Bool} {l : List Int} {i : Nat} {s : Int} (h : i < l.length) (hp : p l[i] = false) : sinceW p (l.drop i) s = s := by
  rw [List.drop_eq_getElem_cons h]; simp -implicitDefEqProofs [sinceW, hp]
theorem since_end {p : Int → Bool} {l : List Int} {i : Nat} {s : Int} (h : l.length ≤ i) : sinceW p (l.drop i) s = s := by
  rw [List.drop_eq_nil_of_le h]; rfl
theorem seek_hit_eq {t : List FileD} {w : Str} (ht : treeI t = true) (hw : nameB w = true) : seekL (hitI w) t = seekL (hitS w) t := by
  have h1 := seek_eq t w
  unfold treeSeekI treeSeekS at h1
  rw [tree_eq] at h1
  rw [tree_eq] at ht
  rw [ht, hw] at h1
  simpa using h1
theorem tree_lines {t : List FileD} (h : treeI t = true) : t.length ≤ 8 ∧ ∀ f ∈ t, ∀ q ∈ f.text, q.length ≤ 1099511627776 := by
  have h8 := (treeI_le t h).1
  simp only [treeI, Bool.and_eq_true, decide_eq_true_eq, List.all_eq_true, List.mem_range] at h
  refine ⟨h8, fun f hf q hq => ?_⟩
  obtain ⟨i, hi, rfl⟩ := List.getElem_of_mem hf
  have h1 := (h.2 i hi).1
  simp only [headI, textB, List.getD_eq_getElem?_getD, List.getElem?_eq_getElem hi, Option.getD_some, Bool.and_eq_true, List.all_eq_true, decide_eq_true_eq] at h1
  have h2 := h1.1.1.2 q hq
  simp only [lineB, Bool.and_eq_true, decide_eq_true_eq] at h2
  omega

def cSeekSinceI : Con := .fn 38 (RepoD × Int × Str) (fun a => [vRepo a.1, .int .i64 a.2.1, .str a.2.2]) (fun a => rpPre a.1) (fun a => .int .i64 (sinceR a.1 a.2.1 a.2.2)) (fun _ => [])
set_option maxHeartbeats 4000000 in
theorem seekSinceI_has : Has Tryd.prog 54 cSeekSinceI := by
  refine has_walk mixed tTab_ok (l := [(115, cAre), (70, cNameOk), (116, cLineR), (117, cTreeR), (71, cSeek)]) (HasL.cons are_has (HasL.cons nameOk_has (HasL.cons lineR_has (HasL.cons treeR_has (HasL.cons seek_has HasL.nil))))) [0, 1, 2, 3, 6, 7, 9, 22, 23, 24] ((fun a n (_ : Nat) => (fun a _ => ⟨Nat × Int, fun t => ⟨[(2, true, .str a.2.2), (3, true, .ptr 10 0), (6, true, .int .i64 0), (7, true, .int .i64 t.2), (22, true, .own 9 1 (eInts (lineP a.1 a.2.1))), (23, true, .int .i64 (lineP a.1 a.2.1).length), (24, true, .int .i64 t.1)], [(10, bRepo a.1), (9, .own 3 1 true (eInts (lineP a.1 a.2.1)))]⟩, fun t => t.1 ≤ (lineP a.1 a.2.1).length ∧ sinceW (hasC a.1 a.2.2) ((lineP a.1 a.2.1).drop t.1) t.2 = sinceR a.1 a.2.1 a.2.2, fun t => (lineP a.1 a.2.1).length - t.1⟩) a n)) [] Tryd.func54 (by kernel_rfl) (code := _) (by unfold Tryd.f54; rfl) (by kernel_rfl) (by decide) (fun _ => ⟨(), trivial⟩) (by intro h; first | exact fun _ => rfl | cases h) (by kernel_rfl) ?_
  intro a ha
  obtain ⟨r, n, w⟩ := a
  replace ha : rpPre r := ha
  simp -implicitDefEqProofs [vc_skip, extOf, vc_seq, vc_cond, vc_block, vc_exit, vc_ret, vc_region, vc_regionD, vc_loop, kSeq_normal, kSeq_ret, kSeq_exit, kBlock_normal, kBlock_ret, kBlock_exit, kLoop_normal, kLoop_ret, kLoop_exit, kCond_bool, kNorm_app, vcOps_nil, vcOps_cons, kOps_app, kStep_some, kStep_none, vcDL_nil, vcDL_cons, kOpsD_app, kStepD_true, kStepD_false, kStepC_some, kStepC_none, kMv_app, act3_store, act3_call, act3_bs, kAct_app, kSt2_app, stealSlots, stealL, stealOne, subIn, AV.stolen, act_store, act_bs, act_append, act_call, kSet_app, kSet2_app, kSetG_app, kSetG_app0, kStore_ptr, kStore_eptr, kCallW_some, kCallC_some, kCall_some, wk_T, wk_n, wk_keep, wk_inv, wk_act, wk_dr, wk_le, aCalm, wantC, dstOk, calm, aCallK, aCall3K, subOf, subRep, aCall2K, apnd, bsMove, putBox, putOwn, partAV, mvL, AV.mv, AV.base, AV.moved, AV.src, TI.flat, apSize, pickAV, St.val, St.cond, St.fn, St.next, St.set, St.trim, wipe_eq, wipeE_app, wipeM_app, pickEnv, get?, cGet, upd_app, withPuts, killAll, rm, freshP, Oper.hnd, Sc.st, ofConst, constOk, lenAV, elemLen, loadAV, ldL, ld1, fieldAddrAV, indexAddrAV, sliceAV, convAV, buildAV, fillAV, fieldAV, Out.of, binAV, AV.rows, AV.one, AV.cells, AV.deepOk, AV.toD, toDs, partRows, partRowsM, partsDeep, TK.zeroAV, TK.zeroD, byteOf, inR, Op.operands, Call.operands, passVs, passV, passL, pass1, passB, pasVs, pasV, pasL, pas1, ownsOk, okHs, okHs2, okFin, finOk2, rho, over, backRes, backAV, backAV1, backBlk, putBack, back2, back2_V, back2_1, m2, AV.wipe, AV.wipeV, AV.wipe1, Blk.wipe, AV.hs, AV.hs.hsL, alOps, Con.start2, Con.pk, bodyQ, fini, resAV, resA, firstId, Sc.from, renEnv, renT, renV, renVs, renL, ren1, renBox, renOwn, okRen, clOf, actB, setRow, flatRows, flatD, noInv, shr_nil, shr_some, kStepF_some, shareL, AV.viewed, AV.viewed1, cSeekSinceI, Con.fn, tTab, cAre, cNameOk, cLineR, cTreeR, cSeek, bRepo_def]
  try dsimp only
  have hW : ∀ (hr : repoI r = true) (h0 : 0 ≤ n) (h1 : n ≤ (r.commits.length : Int) - 1) (hw : nameB w = true), sinceW (hasC r w) (lineP r n) (-1) = sinceR r n w := fun hr h0 h1 hw => by
    unfold sinceR; rw [hr, hw]; simp -implicitDefEqProofs [h0, h1]
  refine ⟨r, [n], ⟨⟨rfl, rfl⟩, by simp -implicitDefEqProofs [eInts, eInt]⟩, ha, fun hA => ?_, fun hA => ?_⟩
  · unfold sinceR
    have : (repoI r && (decide (0 ≤ n) && decide (n ≤ (r.commits.length : Int) - 1))) = false := by simpa [areB] using hA
    rw [this]; simp
  · have hA' : repoI r = true ∧ 0 ≤ n ∧ n ≤ (r.commits.length : Int) - 1 := by simpa [areB] using hA
    obtain ⟨hr, h0, h1⟩ := hA'
    refine ⟨fun hw => by unfold sinceR; rw [hw]; simp, fun hw => ⟨r, n, ⟨⟨rfl, rfl⟩, rfl⟩, ⟨hr, h0, by omega⟩, fun _ => ⟨⟨0, -1, ⟨⟨rfl, rfl, rfl, rfl⟩, rfl⟩, Nat.zero_le _, hW hr h0 h1 hw⟩, fun i s hi hs => ⟨fun hlt => ?_, fun hge => by rw [← hs, since_end hge]⟩⟩⟩⟩
    have hb := (line_bd hr (n + 1).toNat n (by omega) (by omega)).2 _ (List.getElem_mem hlt)
    have hbn : (lineP r n)[i].toNat < r.commits.length := by omega
    have hT : treeI (treeAt r (lineP r n)[i]) = true := by
      unfold treeAt
      rw [List.getD_eq_getElem?_getD, List.getElem?_eq_getElem hbn]
      exact (repo_use hr hbn).2.2
    have hc := seek_hit_eq hT hw
    have ht8 := tree_lines hT
    have hwl : 1 ≤ List.length w ∧ List.length w ≤ 6 := by
      simp only [nameB, Bool.and_eq_true, decide_eq_true_eq] at hw
      exact hw.1
    have hl16 := (line_bd hr 16 n (by omega) (by have := repo_n hr; omega)).1
    refine ⟨hlt, fun _ => ⟨by simp -implicitDefEqProofs [hlt, eInt], fun _ _ => ⟨r, (lineP r n)[i], ⟨⟨rfl, rfl⟩, by simp -implicitDefEqProofs [hlt, eInt]⟩, hb, treeAt r (lineP r n)[i], w, ⟨by simp -implicitDefEqProofs [treeAt, List.getD_eq_getElem?_getD], rfl⟩, ⟨by omega, ht8.2, by omega, hwl.1⟩, fun _ => ⟨fun hnil => ?_, fun hne => ⟨⟨by omega, by omega⟩, fun _ _ => ⟨i + 1, (lineP r n)[i], ?_⟩⟩⟩⟩⟩⟩
    · rw [← hs]
      exact since_no hlt (by simp -implicitDefEqProofs [hasC, ← hc, hnil])
    · have hy := since_yes (p := hasC r w) (s := s) hlt (by simp -implicitDefEqProofs [hasC, ← hc, hne])
      exact ⟨⟨by simp -implicitDefEqProofs [hlt, eInt], by omega⟩, ⟨by omega, by rw [← hs, hy]⟩, by omega⟩

def cSeekSinceS : Con := .fn 55 (RepoD × Int × Str) (fun a => [vRepo a.1, .int .i64 a.2.1, .str a.2.2]) (fun a => rpPre a.1) (fun a => .int .i64 (sinceR a.1 a.2.1 a.2.2)) (fun _ => [])
set_option maxHeartbeats 4000000 in
theorem seekSinceS_has : Has Tryd.prog 53 cSeekSinceS := by
  refine has_walk mixed tTab_ok (l := [(96, cL7Ok), (98, cL1In), (73, cL4Name), (114, cL8Line), (17, cSeekTreeS)]) (HasL.cons l7Ok_has (HasL.cons l1In_has (HasL.cons l4Name_has (HasL.cons l8Line_has (HasL.cons seekTreeS_has HasL.nil))))) [0, 1, 2, 3, 6, 7, 8, 9] ((fun a n (_ : Nat) => (fun a _ => ⟨Nat × Int, fun t => ⟨[(2, true, .str a.2.2), (3, true, .ptr 10 0), (6, true, .int .i64 0), (7, true, .int .i64 t.2), (8, true, .own 9 1 (eInts (lineP a.1 a.2.1))), (9, true, .int .i64 t.1)], [(10, bRepo a.1), (9, .own 3 1 true (eInts (lineP a.1 a.2.1)))]⟩, fun t => t.1 ≤ (lineP a.1 a.2.1).length ∧ sinceW (hasC a.1 a.2.2) ((lineP a.1 a.2.1).drop t.1) t.2 = sinceR a.1 a.2.1 a.2.2, fun t => (lineP a.1 a.2.1).length - t.1⟩) a n)) [] Tryd.func53 (by kernel_rfl) (code := _) (by unfold Tryd.f53; rfl) (by kernel_rfl) (by decide) (fun _ => ⟨(), trivial⟩) (by intro h; first | exact fun _ => rfl | cases h) (by kernel_rfl) ?_
  intro a ha
  obtain ⟨r, n, w⟩ := a
  replace ha : rpPre r := ha
  simp -implicitDefEqProofs [vc_skip, extOf, vc_seq, vc_cond, vc_block, vc_exit, vc_ret, vc_region, vc_regionD, vc_loop, kSeq_normal, kSeq_ret, kSeq_exit, kBlock_normal, kBlock_ret, kBlock_exit, kLoop_normal, kLoop_ret, kLoop_exit, kCond_bool, kNorm_app, vcOps_nil, vcOps_cons, kOps_app, kStep_some, kStep_none, vcDL_nil, vcDL_cons, kOpsD_app, kStepD_true, kStepD_false, kStepC_some, kStepC_none, kMv_app, act3_store, act3_call, act3_bs, kAct_app, kSt2_app, stealSlots, stealL, stealOne, subIn, AV.stolen, act_store, act_bs, act_append, act_call, kSet_app, kSet2_app, kSetG_app, kSetG_app0, kStore_ptr, kStore_eptr, kCallW_some, kCallC_some, kCall_some, wk_T, wk_n, wk_keep, wk_inv, wk_act, wk_dr, wk_le, aCalm, wantC, dstOk, calm, aCallK, aCall3K, subOf, subRep, aCall2K, apnd, bsMove, putBox, putOwn, partAV, mvL, AV.mv, AV.base, AV.moved, AV.src, TI.flat, apSize, pickAV, St.val, St.cond, St.fn, St.next, St.set, St.trim, wipe_eq, wipeE_app, wipeM_app, pickEnv, get?, cGet, upd_app, withPuts, killAll, rm, freshP, Oper.hnd, Sc.st, ofConst, constOk, lenAV, elemLen, loadAV, ldL, ld1, fieldAddrAV, indexAddrAV, sliceAV, convAV, buildAV, fillAV, fieldAV, Out.of, binAV, AV.rows, AV.one, AV.cells, AV.deepOk, AV.toD, toDs, partRows, partRowsM, partsDeep, TK.zeroAV, TK.zeroD, byteOf, inR, Op.operands, Call.operands, passVs, passV, passL, pass1, passB, pasVs, pasV, pasL, pas1, ownsOk, okHs, okHs2, okFin, finOk2, rho, over, backRes, backAV, backAV1, backBlk, putBack, back2, back2_V, back2_1, m2, AV.wipe, AV.wipeV, AV.wipe1, Blk.wipe, AV.hs, AV.hs.hsL, alOps, Con.start2, Con.pk, bodyQ, fini, resAV, resA, firstId, Sc.from, renEnv, renT, renV, renVs, renL, ren1, renBox, renOwn, okRen, clOf, actB, setRow, flatRows, flatD, noInv, shr_nil, shr_some, kStepF_some, shareL, AV.viewed, AV.viewed1, cSeekSinceS, Con.fn, tTab, cL7Ok, cL1In, cL4Name, cL8Line, cSeekTreeS, bRepo_def]
  try dsimp only
  have hW : ∀ (hr : repoI r = true) (h0 : 0 ≤ n) (h1 : n ≤ (r.commits.length : Int) - 1) (hw : nameB w = true), sinceW (hasC r w) (lineP r n) (-1) = sinceR r n w := fun hr h0 h1 hw => by
    unfold sinceR; rw [hr, hw]; simp -implicitDefEqProofs [h0, h1]
  refine ⟨ha.1, fun h => by unfold sinceR; rw [repo_eq, h]; simp, fun h _ => ⟨⟨by omega, by omega⟩, fun _ _ => ⟨n, 0, _, ⟨rfl, rfl, rfl⟩, fun hbad => ?_, fun h0 h1 => ⟨fun hw => by unfold sinceR; rw [hw]; simp, fun hw => ?_⟩⟩⟩⟩
  · unfold sinceR
    have : (decide (0 ≤ n) && decide (n ≤ (r.commits.length : Int) - 1)) = false := by simp; omega
    rw [this]; simp
  · have hr : repoI r = true := by rw [repo_eq]; exact h
    refine ⟨r, n, ⟨⟨rfl, rfl⟩, rfl⟩, ⟨hr, h0, by omega⟩, ⟨0, -1, ⟨⟨rfl, rfl, rfl⟩, rfl⟩, Nat.zero_le _, hW hr h0 h1 hw⟩, fun i s hi hs _ => ⟨fun hlt => ?_, fun hge => by rw [← hs, since_end hge]⟩⟩
    have hb := (line_bd hr (n + 1).toNat n (by omega) (by omega)).2 _ (List.getElem_mem hlt)
    have hbn : (lineP r n)[i].toNat < r.commits.length := by omega
    have hTe : treeAt r (lineP r n)[i] = r.commits[(lineP r n)[i].toNat].tree := by
      unfold treeAt
      rw [List.getD_eq_getElem?_getD, List.getElem?_eq_getElem hbn]; rfl
    have hT : treeI (treeAt r (lineP r n)[i]) = true := by rw [hTe]; exact (repo_use hr hbn).2.2
    have ht8 := tree_lines hT
    have hl16 := (line_bd hr 16 n (by omega) (by have := repo_n hr; omega)).1
    have hts : treeSeekS (treeAt r (lineP r n)[i]) w = seekL (hitS w) (treeAt r (lineP r n)[i]) := by
      unfold treeSeekS; rw [← tree_eq, hT, hw]; rfl
    have e2 : Option.map eCommit r.commits[(lineP r n)[i].toNat]? = some (eCommit r.commits[(lineP r n)[i].toNat]) := by simp -implicitDefEqProofs [hbn]
    rw [hTe] at hts hT ht8
    simp -implicitDefEqProofs [hlt, eInt, hb, e2, eCommit, and_assoc, hts]
    refine ⟨ht8.2, fun hnil => ?_, fun hne => ⟨by omega, by omega, fun _ _ => ⟨i + 1, by omega, by omega, ?_, by omega⟩⟩⟩
    · rw [← hs]; exact since_no hlt (by simp -implicitDefEqProofs [hasC, hTe, hnil])
    · rw [← hs]; exact (since_yes hlt (by simp -implicitDefEqProofs [hasC, hTe, hne])).symm

end Vx
end Go.Proofs.YtlhkmgbmnbkaeaaDoor
/-
  Contracts: lists of truths; ancestors (the program's).
-/
namespace Go.Proofs.YtlhkmgbmnbkaeaaDoor
namespace Vx
open Go.RowKit
set_option maxRecDepth 8000

--TAB tTabB
def tTabB : List (Nat × TI) := (120, ⟨false, [.sl 4 1], 24, [], 4⟩) :: tTab
theorem tTabB_ok : ∀ t ti, get? tTabB t = some ti → TOk Tryd.prog t ti := tabChk_ok (by kernel_rfl)

def eBool (b : Bool) : List D := [.bool b]
@[simp] theorem eBool_inj (a b : Bool) : (eBool a = eBool b) = (a = b) := by simp -implicitDefEqProofs [eBool]
def eBools (l : List Bool) : List (List D) := l.map eBool
@[simp] theorem eBools_length (l : List Bool) : (eBools l).length = l.length := by simp -implicitDefEqProofs [eBools]
@[simp] theorem eBools_nil : eBools [] = [] := rfl
@[simp] theorem eBools_get (l : List Bool) (i : Nat) : (eBools l)[i]? = l[i]?.map eBool := by simp -implicitDefEqProofs [eBools]
@[simp] theorem eBools_getElem (l : List Bool) (i : Nat) (h : i < (eBools l).length) : (eBools l)[i] = eBool (l[i]'(by simpa using h)) := by simp -implicitDefEqProofs [eBools]
@[simp] theorem eBools_inj (a b : List Bool) : (eBools a = eBools b) = (a = b) := by
  apply propext
  constructor
  · intro h
    exact List.map_inj_right (fun x y h => by simpa using h) |>.1 h
  · rintro rfl; rfl
@[simp] theorem eBools_eq_nil (a : List Bool) : (eBools a = []) = (a = []) := by simp -implicitDefEqProofs [eBools]
@[simp] theorem nil_eq_eBools (a : List Bool) : ([] = eBools a) = (a = []) := by simp -implicitDefEqProofs [eBools, eq_comm]
theorem eBools_append (a b : List Bool) : eBools (a ++ b) = eBools a ++ eBools b := by simp -implicitDefEqProofs [eBools]
theorem eBools_take (l : List Bool) (i : Nat) : (eBools l).take i = eBools (l.take i) := by simp -implicitDefEqProofs [eBools]
theorem eBools_drop (l : List Bool) (i : Nat) : (eBools l).drop i = eBools (l.drop i) := by simp -implicitDefEqProofs [eBools]
theorem eBools_snoc (a : List Bool) (b : Bool) : eBools a ++ [[.bool b]] = eBools (a ++ [b]) := by simp -implicitDefEqProofs [eBools, eBool]
theorem eBools_set (l : List Bool) (i : Nat) (b : Bool) : (eBools l).set i [.bool b] = eBools (l.set i b) := by simp -implicitDefEqProofs [eBools, List.map_set, eBool]
theorem eBools_rep (n : Nat) (b : Bool) : List.replicate n [D.bool b] = eBools (List.replicate n b) := by simp -implicitDefEqProofs [eBools, eBool]
abbrev ownBools (h : Nat) (a : List Bool) : List (Nat × Blk) := [(h, .own 4 1 true (eBools a))]

def isT (l : List Bool) (i : Nat) : Bool := l.getD i false
def listF (l : List Bool) (i : Nat) : List Int := ((List.range i).filter (isT l)).map fun j : Nat => (j : Int)
theorem listF_hit {l : List Bool} {i : Nat} (h : isT l i = true) : listF l (i + 1) = listF l i ++ [(i : Int)] := by simp -implicitDefEqProofs [listF, List.range_succ, h]
theorem listF_miss {l : List Bool} {i : Nat} (h : isT l i = false) : listF l (i + 1) = listF l i := by simp -implicitDefEqProofs [listF, List.range_succ, h]
theorem listF_len (l : List Bool) (i : Nat) : (listF l i).length ≤ i := by
  have := List.length_filter_le (isT l) (List.range i)
  simpa [listF] using this
def listT (l : List Bool) : List Int := listF l l.length
theorem listT_mem {l : List Bool} {x : Int} : x ∈ listT l ↔ ∃ i : Nat, i < l.length ∧ isT l i = true ∧ x = i := by
  simp only [listT, listF, List.mem_map, List.mem_filter, List.mem_range]
  constructor
  · rintro ⟨i, ⟨h1, h2⟩, rfl⟩; exact ⟨i, h1, h2, rfl⟩
  · rintro ⟨i, h1, h2, rfl⟩; exact ⟨i, ⟨h1, h2⟩, rfl⟩

def cListOf : Con := .fn 20 (List Bool) (fun l => [.sl true 1 (eBools l)]) (fun l => l.length ≤ 1048576) (fun l => .own 8 1 (eInts (listT l))) (fun l => ownInts 8 (listT l))
set_option maxHeartbeats 4000000 in
theorem listOf_has : Has Tryd.prog 147 cListOf := by
  refine has_walk mixed tTabB_ok (l := []) HasL.nil [0, 2, 3, 4, 5, 6, 7, 8] ((fun a n (_ : Nat) => (fun l _ => ⟨Nat, fun i => ⟨[(2, true, .nil), (3, true, .own 9 1 (eInts (listF l i))), (6, true, .sl true 1 (eBools l)), (7, true, .int .i64 l.length), (8, true, .int .i64 i)], [(9, .own 3 1 true (eInts (listF l i)))]⟩, fun i => i ≤ l.length, fun i => l.length - i⟩) a n)) [] Tryd.func147 (by kernel_rfl) (code := _) (by unfold Tryd.f147; rfl) (by kernel_rfl) (by decide) (fun _ => ⟨(), trivial⟩) (by intro h; first | exact fun _ => rfl | cases h) (by kernel_rfl) ?_
  intro (l : List Bool) (ha : l.length ≤ 1048576)
  simp -implicitDefEqProofs [vc_skip, extOf, vc_seq, vc_cond, vc_block, vc_exit, vc_ret, vc_region, vc_regionD, vc_loop, kSeq_normal, kSeq_ret, kSeq_exit, kBlock_normal, kBlock_ret, kBlock_exit, kLoop_normal, kLoop_ret, kLoop_exit, kCond_bool, kNorm_app, vcOps_nil, vcOps_cons, kOps_app, kStep_some, kStep_none, vcDL_nil, vcDL_cons, kOpsD_app, kStepD_true, kStepD_false, kStepC_some, kStepC_none, kMv_app, act3_store, act3_call, act3_bs, kAct_app, kSt2_app, stealSlots, stealL, stealOne, subIn, AV.stolen, act_store, act_bs, act_append, act_call, kSet_app, kSet2_app, kSetG_app, kSetG_app0, kStore_ptr, kStore_eptr, kCallW_some, kCallC_some, kCall_some, wk_T, wk_n, wk_keep, wk_inv, wk_act, wk_dr, wk_le, aCalm, wantC, dstOk, calm, aCallK, aCall3K, subOf, subRep, aCall2K, apnd, bsMove, putBox, putOwn, partAV, mvL, AV.mv, AV.base, AV.moved, AV.src, TI.flat, apSize, pickAV, St.val, St.cond, St.fn, St.next, St.set, St.trim, wipe_eq, wipeE_app, wipeM_app, pickEnv, get?, cGet, upd_app, withPuts, killAll, rm, freshP, Oper.hnd, Sc.st, ofConst, constOk, lenAV, elemLen, loadAV, ldL, ld1, fieldAddrAV, indexAddrAV, sliceAV, convAV, buildAV, fillAV, fieldAV, Out.of, binAV, AV.rows, AV.one, AV.cells, AV.deepOk, AV.toD, toDs, partRows, partRowsM, partsDeep, TK.zeroAV, TK.zeroD, byteOf, inR, Op.operands, Call.operands, passVs, passV, passL, pass1, passB, pasVs, pasV, pasL, pas1, ownsOk, okHs, okHs2, okFin, finOk2, rho, over, backRes, backAV, backAV1, backBlk, putBack, back2, back2_V, back2_1, m2, AV.wipe, AV.wipeV, AV.wipe1, Blk.wipe, AV.hs, AV.hs.hsL, alOps, Con.start2, Con.pk, bodyQ, fini, resAV, resA, firstId, Sc.from, renEnv, renT, renV, renVs, renL, ren1, renBox, renOwn, okRen, clOf, actB, setRow, flatRows, flatD, noInv, shr_nil, shr_some, kStepF_some, shareL, AV.viewed, AV.viewed1, cListOf, Con.fn, tTabB, tTab]
  try dsimp only
  refine fun _ => ⟨⟨0, ⟨⟨rfl, rfl⟩, rfl⟩, Nat.zero_le _⟩, fun i hi => ⟨fun hlt => ?_, fun hge => ?_⟩⟩
  · have hl := listF_len l i
    have hi : isT l i = l[i] := by simp -implicitDefEqProofs [isT, List.getD_eq_getElem?_getD, hlt]
    simp -implicitDefEqProofs [hlt, eBool, D.asBool, and_assoc]
    refine ⟨fun h => ?_, fun h => ?_⟩
    · have e := listF_hit (hi.trans h)
      exact ⟨by omega, by omega, by omega, by omega, fun _ _ => ⟨i + 1, by rw [e]; simp -implicitDefEqProofs [eInts, eInt], by omega, by rw [e]; simp -implicitDefEqProofs [eInts, eInt], by omega, by omega⟩⟩
    · have e := listF_miss (hi.trans h)
      exact ⟨by omega, by omega, fun _ _ => ⟨i + 1, e, by omega, e.symm, by omega, by omega⟩⟩
  · have : i = l.length := by omega
    subst this
    exact ⟨rfl, rfl⟩

def cL8Has : Con := .fn 18 (List Int × Int) (fun a => [.sl true 1 (eInts a.1), .int .i64 a.2]) (fun _ => True) (fun a => .bool (decide (a.2 ∈ a.1))) (fun _ => [])
set_option maxHeartbeats 4000000 in
theorem l8Has_has : Has Tryd.prog 100 cL8Has := by
  refine has_walk mixed tTabB_ok (l := []) HasL.nil [0, 1, 4, 5] ((fun a n (_ : Nat) => (fun a _ => ⟨Nat, fun i => ⟨[(0, true, .sl true 1 (eInts a.1)), (1, true, .int .i64 a.2), (4, true, .bool false), (5, true, .int .i64 i)], []⟩, fun i => i ≤ a.1.length ∧ ∀ x, x ∈ a.1.take i → x ≠ a.2, fun i => a.1.length - i⟩) a n)) [] Tryd.func100 (by kernel_rfl) (code := _) (by unfold Tryd.f100; rfl) (by kernel_rfl) (by decide) (fun _ => ⟨(), trivial⟩) (by intro h; first | exact fun _ => rfl | cases h) (by kernel_rfl) ?_
  intro a _
  obtain ⟨l, n⟩ := a
  simp -implicitDefEqProofs [vc_skip, extOf, vc_seq, vc_cond, vc_block, vc_exit, vc_ret, vc_region, vc_regionD, vc_loop, kSeq_normal, kSeq_ret, kSeq_exit, kBlock_normal, kBlock_ret, kBlock_exit, kLoop_normal, kLoop_ret, kLoop_exit, kCond_bool, kNorm_app, vcOps_nil, vcOps_cons, kOps_app, kStep_some, kStep_none, vcDL_nil, vcDL_cons, kOpsD_app, kStepD_true, kStepD_false, kStepC_some, kStepC_none, kMv_app, act3_store, act3_call, act3_bs, kAct_app, kSt2_app, stealSlots, stealL, stealOne, subIn, AV.stolen, act_store, act_bs, act_append, act_call, kSet_app, kSet2_app, kSetG_app, kSetG_app0, kStore_ptr, kStore_eptr, kCallW_some, kCallC_some, kCall_some, wk_T, wk_n, wk_keep, wk_inv, wk_act, wk_dr, wk_le, aCalm, wantC, dstOk, calm, aCallK, aCall3K, subOf, subRep, aCall2K, apnd, bsMove, putBox, putOwn, partAV, mvL, AV.mv, AV.base, AV.moved, AV.src, TI.flat, apSize, pickAV, St.val, St.cond, St.fn, St.next, St.set, St.trim, wipe_eq, wipeE_app, wipeM_app, pickEnv, get?, cGet, upd_app, withPuts, killAll, rm, freshP, Oper.hnd, Sc.st, ofConst, constOk, lenAV, elemLen, loadAV, ldL, ld1, fieldAddrAV, indexAddrAV, sliceAV, convAV, buildAV, fillAV, fieldAV, Out.of, binAV, AV.rows, AV.one, AV.cells, AV.deepOk, AV.toD, toDs, partRows, partRowsM, partsDeep, TK.zeroAV, TK.zeroD, byteOf, inR, Op.operands, Call.operands, passVs, passV, passL, pass1, passB, pasVs, pasV, pasL, pas1, ownsOk, okHs, okHs2, okFin, finOk2, rho, over, backRes, backAV, backAV1, backBlk, putBack, back2, back2_V, back2_1, m2, AV.wipe, AV.wipeV, AV.wipe1, Blk.wipe, AV.hs, AV.hs.hsL, alOps, Con.start2, Con.pk, bodyQ, fini, resAV, resA, firstId, Sc.from, renEnv, renT, renV, renVs, renL, ren1, renBox, renOwn, okRen, clOf, actB, setRow, flatRows, flatD, noInv, shr_nil, shr_some, kStepF_some, shareL, AV.viewed, AV.viewed1, cL8Has, Con.fn, tTabB, tTab]
  try dsimp only
  refine fun i hi hb _ => ⟨fun hlt => ?_, fun hge => ?_⟩
  · simp -implicitDefEqProofs [hlt, eInt, D.asInt, and_assoc]
    refine ⟨fun h => by rw [← h]; exact List.getElem_mem hlt, fun h => ⟨by omega, by omega, fun _ _ => ⟨i + 1, by omega, by omega, fun x hx => ?_, by omega⟩⟩⟩
    rw [take_succ' hlt] at hx
    rcases List.mem_append.1 hx with h1 | h1
    · exact hb x h1
    · simp only [List.mem_singleton] at h1
      subst h1; exact h
  · rw [List.take_of_length_le hge] at hb
    exact fun h => hb n h rfl

def putT (l : List Bool) (ps : List Int) : List Bool := ps.foldl (fun l p => l.set p.toNat true) l
theorem putT_len (ps : List Int) : ∀ l : List Bool, (putT l ps).length = l.length := by
  induction ps with
  | nil => intro l; rfl
  | cons p r ih => intro l; show (putT (l.set p.toNat true) r).length = _; rw [ih]; simp
def stepA (r : RepoD) (l : List Bool) (i : Nat) : List Bool := if isT l i then putT l (r.commits.getD i default).parents else l
def ancF (r : RepoD) : Nat → List Bool → List Bool
  | 0, l => l
  | n + 1, l => ancF r n (stepA r l n)
def anc (r : RepoD) (a : Int) : List Bool := ancF r (a + 1).toNat ((List.replicate r.commits.length false).set a.toNat true)
theorem ancF_len (r : RepoD) : ∀ (n : Nat) (l : List Bool), (ancF r n l).length = l.length
  | 0, _ => rfl
  | n + 1, l => by
    show (ancF r n (stepA r l n)).length = _
    rw [ancF_len r n]
    unfold stepA
    split
    · rw [putT_len]
    · rfl
theorem anc_len (r : RepoD) (a : Int) : (anc r a).length = r.commits.length := by unfold anc; rw [ancF_len]; simp

def anO (r : RepoD) (a : Int) : Inv := ⟨List Bool × Int, fun t => ⟨[(2, true, .ptr 10 0), (4, true, .nil), (5, true, .own 9 1 (eBools t.1)), (6, true, .int .i64 t.2)], [(10, bRepo r), (9, .own 4 1 true (eBools t.1))]⟩, fun t => t.1.length = r.commits.length ∧ -1 ≤ t.2 ∧ t.2 < r.commits.length ∧ ancF r (t.2 + 1).toNat t.1 = anc r a, fun t => (t.2 + 1).toNat⟩
def anI (r : RepoD) (a : Int) (g : Nat) : Inv := ⟨List Bool × Nat, fun t => ⟨[(2, true, .ptr 10 0), (4, true, .nil), (5, true, .own 9 1 (eBools t.1)), (6, true, .int .i64 g), (30, true, .sl true 1 (eInts (r.commits.getD g default).parents)), (31, true, .int .i64 (r.commits.getD g default).parents.length), (32, true, .int .i64 t.2)], [(10, bRepo r), (9, .own 4 1 true (eBools t.1))]⟩, fun t => t.1.length = r.commits.length ∧ g < r.commits.length ∧ t.2 ≤ (r.commits.getD g default).parents.length ∧ ancF r g (putT t.1 ((r.commits.getD g default).parents.drop t.2)) = anc r a, fun t => (r.commits.getD g default).parents.length - t.2⟩
def anInv (r : RepoD) (a : Int) (n g : Nat) : Inv := if n = 4 then anO r a else anI r a g
theorem anInv_4 (r : RepoD) (a : Int) (g : Nat) : anInv r a 4 g = anO r a := rfl
theorem anInv_8 (r : RepoD) (a : Int) (g : Nat) : anInv r a 8 g = anI r a g := rfl
def cAncestors : Con := .fn 41 (RepoD × Int) (fun a => [vRepo a.1, .int .i64 a.2]) (fun a => repoI a.1 = true ∧ 0 ≤ a.2 ∧ a.2 < a.1.commits.length) (fun a => .own 8 1 (eBools (anc a.1 a.2))) (fun a => ownBools 8 (anc a.1 a.2))
set_option maxHeartbeats 4000000 in
theorem ancestors_has : Has Tryd.prog 106 cAncestors := by
  refine has_walk mixed tTabB_ok (l := []) HasL.nil [0, 1, 2, 4, 5, 6, 8, 30, 31, 32] (fun a => anInv a.1 a.2) [] Tryd.func106 (by kernel_rfl) (code := _) (by unfold Tryd.f106; rfl) (by kernel_rfl) (by decide) (fun _ => ⟨(), trivial⟩) (by intro h; first | exact fun _ => rfl | cases h) (by kernel_rfl) ?_
  intro a ha
  obtain ⟨r, n⟩ := a
  obtain ⟨h1, h2, h3⟩ : repoI r = true ∧ 0 ≤ n ∧ n < r.commits.length := ha
  have h4 := repo_n h1
  simp -implicitDefEqProofs [vc_skip, extOf, vc_seq, vc_cond, vc_block, vc_exit, vc_ret, vc_region, vc_regionD, vc_loop, kSeq_normal, kSeq_ret, kSeq_exit, kBlock_normal, kBlock_ret, kBlock_exit, kLoop_normal, kLoop_ret, kLoop_exit, kCond_bool, kNorm_app, vcOps_nil, vcOps_cons, kOps_app, kStep_some, kStep_none, vcDL_nil, vcDL_cons, kOpsD_app, kStepD_true, kStepD_false, kStepC_some, kStepC_none, kMv_app, act3_store, act3_call, act3_bs, kAct_app, kSt2_app, stealSlots, stealL, stealOne, subIn, AV.stolen, act_store, act_bs, act_append, act_call, kSet_app, kSet2_app, kSetG_app, kSetG_app0, kStore_ptr, kStore_eptr, kCallW_some, kCallC_some, kCall_some, wk_T, wk_n, wk_keep, wk_inv, wk_act, wk_dr, wk_le, aCalm, wantC, dstOk, calm, aCallK, aCall3K, subOf, subRep, aCall2K, apnd, bsMove, putBox, putOwn, partAV, mvL, AV.mv, AV.base, AV.moved, AV.src, TI.flat, apSize, pickAV, St.val, St.cond, St.fn, St.next, St.set, St.trim, wipe_eq, wipeE_app, wipeM_app, pickEnv, get?, cGet, upd_app, withPuts, killAll, rm, freshP, Oper.hnd, Sc.st, ofConst, constOk, lenAV, elemLen, loadAV, ldL, ld1, fieldAddrAV, indexAddrAV, sliceAV, convAV, buildAV, fillAV, fieldAV, Out.of, binAV, AV.rows, AV.one, AV.cells, AV.deepOk, AV.toD, toDs, partRows, partRowsM, partsDeep, TK.zeroAV, TK.zeroD, byteOf, inR, Op.operands, Call.operands, passVs, passV, passL, pass1, passB, pasVs, pasV, pasL, pas1, ownsOk, okHs, okHs2, okFin, finOk2, rho, over, backRes, backAV, backAV1, backBlk, putBack, back2, back2_V, back2_1, m2, AV.wipe, AV.wipeV, AV.wipe1, Blk.wipe, AV.hs, AV.hs.hsL, alOps, Con.start2, Con.pk, bodyQ, fini, resAV, resA, firstId, Sc.from, renEnv, renT, renV, renVs, renL, ren1, renBox, renOwn, okRen, clOf, actB, setRow, flatRows, flatD, noInv, shr_nil, shr_some, kStepF_some, shareL, AV.viewed, AV.viewed1, cAncestors, Con.fn, tTabB, tTab, anInv_4, anInv_8, anO, anI, bRepo_def]
  try dsimp only
  refine fun _ => ⟨by omega, fun _ => ⟨⟨h2, h3⟩, fun _ _ => ⟨by omega, ⟨(List.replicate r.commits.length false).set n.toNat true, n, ⟨⟨by rw [eBools_rep]; exact (eBools_set _ _ _).symm, rfl⟩, by rw [eBools_rep]; exact eBools_set _ _ _⟩, by simp, by omega, h3, rfl⟩, fun l b g1 g2 g3 g4 => ⟨fun hb => ⟨⟨hb, by omega⟩, fun _ _ => ?_⟩, fun hb => ?_⟩⟩⟩⟩
  · have hb1 : b.toNat < l.length := by omega
    have hb2 : b.toNat < r.commits.length := by omega
    obtain ⟨p1, p2, _⟩ := repo_use h1 hb2
    have hT : isT l b.toNat = l[b.toNat] := by simp -implicitDefEqProofs [isT, List.getD_eq_getElem?_getD, hb1]
    have hbb : (b + 1).toNat = b.toNat + 1 := by omega
    have hgd : r.commits.getD b.toNat default = r.commits[b.toNat] := by simp -implicitDefEqProofs [List.getD_eq_getElem?_getD, hb2]
    rw [hbb] at g4
    have g5 : ancF r b.toNat (stepA r l b.toNat) = anc r n := g4
    unfold stepA at g5
    rw [hT, hgd] at g5
    have e3 : Option.map eCommit r.commits[b.toNat]? = some (eCommit r.commits[b.toNat]) := by simp -implicitDefEqProofs [hb2]
    have hgo : r.commits[b.toNat]?.getD default = r.commits[b.toNat] := by simp -implicitDefEqProofs [hb2]
    simp -implicitDefEqProofs [hb1, eBool, D.asBool, e3, eCommit, D.asRows, hb, show b < r.commits.length by omega]
    refine ⟨fun h _ => ⟨b.toNat, ?_⟩, fun h => ⟨⟨by omega, by omega⟩, fun _ _ => ⟨l, b - 1, ⟨⟨rfl, rfl⟩, rfl⟩, ⟨g1, by omega, by omega, ?_⟩, by omega⟩⟩⟩
    · rw [if_pos h] at g5
      rw [hgo]
      generalize r.commits[b.toNat] = c at *
      refine ⟨⟨l, 0, ⟨⟨rfl, by omega, rfl, rfl, rfl⟩, rfl⟩, g1, hb2, Nat.zero_le _, g5⟩, fun m k m1 m2 m3 m4 => ⟨fun hlt => ⟨hlt, fun _ => ?_⟩, fun hge => ⟨⟨by omega, by omega⟩, fun _ _ => ⟨m, b - 1, ⟨⟨rfl, by omega⟩, rfl⟩, ⟨m1, by omega, by omega, ?_⟩, by omega⟩⟩⟩⟩
      · have hp := p2 c.parents[k] (List.getElem_mem hlt)
        have qt : Option.map eInt c.parents[k]? = some (eInt c.parents[k]) := by simp -implicitDefEqProofs [List.getElem?_eq_getElem hlt]
        simp -implicitDefEqProofs [qt, eInt, D.asInt]
        refine ⟨⟨hp.1, by omega⟩, fun _ _ => ⟨by omega, ⟨by omega, by omega⟩, fun _ _ => ⟨m.set c.parents[k].toNat true, k + 1, ⟨⟨(eBools_set _ _ _).symm, by omega⟩, eBools_set _ _ _⟩, ⟨by simp -implicitDefEqProofs [m1], m2, by omega, ?_⟩, by omega⟩⟩⟩
        rw [List.drop_eq_getElem_cons hlt] at m4
        exact m4
      · rw [List.drop_eq_nil_of_le hge] at m4
        rw [show (b - 1 + 1).toNat = b.toNat by omega]
        exact m4
    · rw [if_neg (by rw [h]; simp)] at g5
      rw [show (b - 1 + 1).toNat = b.toNat by omega]
      exact g5
  · have hbb : (b + 1).toNat = 0 := by omega
    rw [hbb] at g4
    have g5 : l = anc r n := g4
    exact ⟨g5.symm, g5⟩

end Vx
end Go.Proofs.YtlhkmgbmnbkaeaaDoor
/-
  Contracts: what is new since other commits (the program's); the nearest mark (the program's).
-/
namespace Go.Proofs.YtlhkmgbmnbkaeaaDoor
namespace Vx
open Go.RowKit
set_option maxRecDepth 8000
--TAB tTabB

def clrT (l : List Bool) (ps : List Int) : List Bool := ps.foldl (fun l p => l.set p.toNat false) l
theorem clrT_len (ps : List Int) : ∀ l : List Bool, (clrT l ps).length = l.length := by
  induction ps with
  | nil => intro l; rfl
  | cons p r ih => intro l; show (clrT (l.set p.toNat false) r).length = _; rw [ih]; simp
def sinStep (r : RepoD) (l : List Bool) (o : Int) : List Bool := clrT l (listT (anc r o))
def sinL (r : RepoD) (a : Int) (os : List Int) : List Bool := os.foldl (sinStep r) (anc r a)

def snO (r : RepoD) (a : Int) (os : List Int) : Inv := ⟨List Bool × Nat, fun t => ⟨[(3, true, .ptr 10 0), (6, true, .nil), (7, true, .own 9 1 (eBools t.1)), (15, true, .sl true 1 (eInts os)), (16, true, .int .i64 os.length), (17, true, .int .i64 t.2)], [(10, bRepo r), (9, .own 4 1 true (eBools t.1))]⟩, fun t => t.1.length = r.commits.length ∧ t.2 ≤ os.length ∧ (os.drop t.2).foldl (sinStep r) t.1 = sinL r a os, fun t => os.length - t.2⟩
def snI (r : RepoD) (a : Int) (os : List Int) (g : Nat) : Inv := ⟨List Bool × Nat, fun t => ⟨[(3, true, .ptr 10 0), (6, true, .nil), (7, true, .own 9 1 (eBools t.1)), (15, true, .sl true 1 (eInts os)), (16, true, .int .i64 os.length), (17, true, .int .i64 g), (24, true, .own 11 1 (eInts (listT (anc r (os.getD g 0))))), (25, true, .int .i64 (listT (anc r (os.getD g 0))).length), (26, true, .int .i64 t.2)], [(10, bRepo r), (9, .own 4 1 true (eBools t.1)), (11, .own 3 1 true (eInts (listT (anc r (os.getD g 0)))))]⟩, fun t => t.1.length = r.commits.length ∧ g < os.length ∧ t.2 ≤ (listT (anc r (os.getD g 0))).length ∧ (os.drop (g + 1)).foldl (sinStep r) (clrT t.1 ((listT (anc r (os.getD g 0))).drop t.2)) = sinL r a os, fun t => (listT (anc r (os.getD g 0))).length - t.2⟩
def snInv (r : RepoD) (a : Int) (os : List Int) (n g : Nat) : Inv := if n = 3 then snO r a os else snI r a os g
theorem snInv_3 (r : RepoD) (a : Int) (os : List Int) (g : Nat) : snInv r a os 3 g = snO r a os := rfl
theorem snInv_6 (r : RepoD) (a : Int) (os : List Int) (g : Nat) : snInv r a os 6 g = snI r a os g := rfl
def cSince : Con := .fn 37 (RepoD × Int × List Int) (fun a => [vRepo a.1, .int .i64 a.2.1, .sl true 1 (eInts a.2.2)]) (fun a => repoI a.1 = true ∧ (0 ≤ a.2.1 ∧ a.2.1 < a.1.commits.length) ∧ a.2.2.length ≤ 1048576 ∧ ∀ o ∈ a.2.2, 0 ≤ o ∧ o < a.1.commits.length) (fun a => .own 8 1 (eInts (listT (sinL a.1 a.2.1 a.2.2)))) (fun a => ownInts 8 (listT (sinL a.1 a.2.1 a.2.2)))
set_option maxHeartbeats 4000000 in
theorem since_has : Has Tryd.prog 107 cSince := by
  refine has_walk mixed tTabB_ok (l := [(106, cAncestors), (147, cListOf)]) (HasL.cons ancestors_has (HasL.cons listOf_has HasL.nil)) [0, 1, 2, 3, 6, 7, 9, 11, 15, 16, 17, 24, 25, 26] (fun a => snInv a.1 a.2.1 a.2.2) [] Tryd.func107 (by kernel_rfl) (code := _) (by unfold Tryd.f107; rfl) (by kernel_rfl) (by decide) (fun _ => ⟨(), trivial⟩) (by intro h; first | exact fun _ => rfl | cases h) (by kernel_rfl) ?_
  intro a ha
  obtain ⟨r, n, os⟩ := a
  obtain ⟨h1, ⟨h2, h3⟩, h4, h5⟩ : repoI r = true ∧ (0 ≤ n ∧ n < r.commits.length) ∧ os.length ≤ 1048576 ∧ ∀ o ∈ os, 0 ≤ o ∧ o < r.commits.length := ha
  have h6 := repo_n h1
  simp -implicitDefEqProofs [vc_skip, extOf, vc_seq, vc_cond, vc_block, vc_exit, vc_ret, vc_region, vc_regionD, vc_loop, kSeq_normal, kSeq_ret, kSeq_exit, kBlock_normal, kBlock_ret, kBlock_exit, kLoop_normal, kLoop_ret, kLoop_exit, kCond_bool, kNorm_app, vcOps_nil, vcOps_cons, kOps_app, kStep_some, kStep_none, vcDL_nil, vcDL_cons, kOpsD_app, kStepD_true, kStepD_false, kStepC_some, kStepC_none, kMv_app, act3_store, act3_call, act3_bs, kAct_app, kSt2_app, stealSlots, stealL, stealOne, subIn, AV.stolen, act_store, act_bs, act_append, act_call, kSet_app, kSet2_app, kSetG_app, kSetG_app0, kStore_ptr, kStore_eptr, kCallW_some, kCallC_some, kCall_some, wk_T, wk_n, wk_keep, wk_inv, wk_act, wk_dr, wk_le, aCalm, wantC, dstOk, calm, aCallK, aCall3K, subOf, subRep, aCall2K, apnd, bsMove, putBox, putOwn, partAV, mvL, AV.mv, AV.base, AV.moved, AV.src, TI.flat, apSize, pickAV, St.val, St.cond, St.fn, St.next, St.set, St.trim, wipe_eq, wipeE_app, wipeM_app, pickEnv, get?, cGet, upd_app, withPuts, killAll, rm, freshP, Oper.hnd, Sc.st, ofConst, constOk, lenAV, elemLen, loadAV, ldL, ld1, fieldAddrAV, indexAddrAV, sliceAV, convAV, buildAV, fillAV, fieldAV, Out.of, binAV, AV.rows, AV.one, AV.cells, AV.deepOk, AV.toD, toDs, partRows, partRowsM, partsDeep, TK.zeroAV, TK.zeroD, byteOf, inR, Op.operands, Call.operands, passVs, passV, passL, pass1, passB, pasVs, pasV, pasL, pas1, ownsOk, okHs, okHs2, okFin, finOk2, rho, over, backRes, backAV, backAV1, backBlk, putBack, back2, back2_V, back2_1, m2, AV.wipe, AV.wipeV, AV.wipe1, Blk.wipe, AV.hs, AV.hs.hsL, alOps, Con.start2, Con.pk, bodyQ, fini, resAV, resA, firstId, Sc.from, renEnv, renT, renV, renVs, renL, ren1, renBox, renOwn, okRen, clOf, actB, setRow, flatRows, flatD, noInv, shr_nil, shr_some, kStepF_some, shareL, AV.viewed, AV.viewed1, cSince, cAncestors, cListOf, Con.fn, tTabB, tTab, snInv_3, snInv_6, snO, snI, bRepo_def]
  try dsimp only
  simp only [and_assoc, exists_eq_left, exists_and_left, RepoD.ex1, RepoD.eta]
  have hal := anc_len r
  refine ⟨h1, h2, h3, fun _ => ⟨trivial, hal n, Nat.zero_le _, rfl, fun l k g1 g2 g3 => ⟨fun hlt => ⟨hlt, fun _ => ?_⟩, fun hge => ?_⟩⟩⟩
  · have ho := h5 os[k] (List.getElem_mem hlt)
    have hgd : os[k]?.getD 0 = os[k] := by simp -implicitDefEqProofs [hlt]
    rw [List.drop_eq_getElem_cons hlt] at g3
    have g4 : List.foldl (sinStep r) (clrT l (listT (anc r os[k]))) (List.drop (k + 1) os) = sinL r n os := g3
    have hmem : ∀ x ∈ listT (anc r os[k]), 0 ≤ x ∧ x < r.commits.length := fun x hx => by
      obtain ⟨i, q1, _, rfl⟩ := listT_mem.1 hx
      rw [hal] at q1
      omega
    have hLl := listF_len (anc r os[k]) (anc r os[k]).length
    change (listT (anc r os[k])).length ≤ _ at hLl
    rw [hal] at hLl
    simp -implicitDefEqProofs [hlt, eInt, D.asInt, h1, ho.1, ho.2, hal]
    refine ⟨by omega, fun _ => ⟨k, ?_⟩⟩
    rw [hgd]
    generalize listT (anc r os[k]) = L at *
    refine ⟨rfl, rfl, rfl, rfl, g1, hlt, g4, fun q j m1 m2 m3 m4 => ⟨fun hl2 => ⟨hl2, fun _ => ?_⟩, fun hge => ?_⟩⟩
    · have hm := hmem L[j] (List.getElem_mem hl2)
      have qt : Option.map eInt L[j]? = some (eInt L[j]) := by simp -implicitDefEqProofs [List.getElem?_eq_getElem hl2]
      simp -implicitDefEqProofs [qt, eInt, D.asInt]
      refine ⟨hm.1, by omega, fun _ _ => ⟨by omega, by omega, by omega, fun _ _ => ⟨q.set L[j].toNat false, (eBools_set _ _ _).symm, j + 1, by omega, eBools_set _ _ _, by simp -implicitDefEqProofs [m1], m2, by omega, ?_, by omega⟩⟩⟩
      rw [List.drop_eq_getElem_cons hl2] at m4
      exact m4
    · rw [List.drop_eq_nil_of_le hge] at m4
      exact ⟨by omega, by omega, fun _ _ => ⟨k + 1, by omega, m1, by omega, m4, by omega⟩⟩
  · have : k = os.length := by omega
    subst this
    rw [List.drop_length] at g3
    have g4 : l = sinL r n os := g3
    exact ⟨by omega, by rw [g4], by rw [g4]⟩

def nearStep (r : RepoD) (a : Int) (s : Str × Int) (h : HeadD) : Str × Int := if isT (anc r a) h.at_.toNat then (if s.2 < 0 ∨ ((listT (sinL r a [h.at_])).length : Int) < s.2 then (h.name, (listT (sinL r a [h.at_])).length) else s) else s
def nearF (r : RepoD) (m : List HeadD) (a : Int) (i : Nat) : Str × Int := (m.take i).foldl (nearStep r a) ([], -1)
def nearI (r : RepoD) (m : List HeadD) (a : Int) : Str × Int := if marksI (r, m) && (decide (0 ≤ a) && decide (a ≤ (r.commits.length : Int) - 1)) then nearF r m a m.length else ([], -1)
def cMarkNearI : Con := .fn 57 (RepoD × List HeadD × Int) (fun a => [vRepo a.1, .sl true 2 (eHeads a.2.1), .int .i64 a.2.2]) (fun a => rpPre a.1) (fun a => .tup [.str (nearI a.1 a.2.1 a.2.2).1, .int .i64 (nearI a.1 a.2.1 a.2.2).2]) (fun _ => [])
set_option maxHeartbeats 4000000 in
theorem markNearI_has : Has Tryd.prog 47 cMarkNearI := by
  refine has_walk mixed tTabB_ok (l := [(104, cMarksOkI), (105, cExists), (106, cAncestors), (107, cSince)]) (HasL.cons marksOkI_has (HasL.cons exists_has (HasL.cons ancestors_has (HasL.cons since_has HasL.nil)))) [0, 1, 2, 3, 6, 7, 8, 9, 11, 12, 23, 24, 25] ((fun a n (_ : Nat) => (fun a _ => ⟨Nat, fun i => ⟨[(2, true, .int .i64 a.2.2), (3, true, .ptr 10 0), (6, true, .str []), (7, true, .int .i64 0), (8, true, .str (nearF a.1 a.2.1 a.2.2 i).1), (9, true, .int .i64 (nearF a.1 a.2.1 a.2.2 i).2), (23, true, .sl true 2 (eHeads a.2.1)), (24, true, .int .i64 a.2.1.length), (25, true, .int .i64 i)], [(10, bRepo a.1)]⟩, fun i => i ≤ a.2.1.length, fun i => a.2.1.length - i⟩) a n)) [] Tryd.func47 (by kernel_rfl) (code := _) (by unfold Tryd.f47; rfl) (by kernel_rfl) (by decide) (fun _ => ⟨(), trivial⟩) (by intro h; first | exact fun _ => rfl | cases h) (by kernel_rfl) ?_
  intro a ha
  obtain ⟨r, m, n⟩ := a
  replace ha : rpPre r := ha
  simp -implicitDefEqProofs [vc_skip, extOf, vc_seq, vc_cond, vc_block, vc_exit, vc_ret, vc_region, vc_regionD, vc_loop, kSeq_normal, kSeq_ret, kSeq_exit, kBlock_normal, kBlock_ret, kBlock_exit, kLoop_normal, kLoop_ret, kLoop_exit, kCond_bool, kNorm_app, vcOps_nil, vcOps_cons, kOps_app, kStep_some, kStep_none, vcDL_nil, vcDL_cons, kOpsD_app, kStepD_true, kStepD_false, kStepC_some, kStepC_none, kMv_app, act3_store, act3_call, act3_bs, kAct_app, kSt2_app, stealSlots, stealL, stealOne, subIn, AV.stolen, act_store, act_bs, act_append, act_call, kSet_app, kSet2_app, kSetG_app, kSetG_app0, kStore_ptr, kStore_eptr, kCallW_some, kCallC_some, kCall_some, wk_T, wk_n, wk_keep, wk_inv, wk_act, wk_dr, wk_le, aCalm, wantC, dstOk, calm, aCallK, aCall3K, subOf, subRep, aCall2K, apnd, bsMove, putBox, putOwn, partAV, mvL, AV.mv, AV.base, AV.moved, AV.src, TI.flat, apSize, pickAV, St.val, St.cond, St.fn, St.next, St.set, St.trim, wipe_eq, wipeE_app, wipeM_app, pickEnv, get?, cGet, upd_app, withPuts, killAll, rm, freshP, Oper.hnd, Sc.st, ofConst, constOk, lenAV, elemLen, loadAV, ldL, ld1, fieldAddrAV, indexAddrAV, sliceAV, convAV, buildAV, fillAV, fieldAV, Out.of, binAV, AV.rows, AV.one, AV.cells, AV.deepOk, AV.toD, toDs, partRows, partRowsM, partsDeep, TK.zeroAV, TK.zeroD, byteOf, inR, Op.operands, Call.operands, passVs, passV, passL, pass1, passB, pasVs, pasV, pasL, pas1, ownsOk, okHs, okHs2, okFin, finOk2, rho, over, backRes, backAV, backAV1, backBlk, putBack, back2, back2_V, back2_1, m2, AV.wipe, AV.wipeV, AV.wipe1, Blk.wipe, AV.hs, AV.hs.hsL, alOps, Con.start2, Con.pk, bodyQ, fini, resAV, resA, firstId, Sc.from, renEnv, renT, renV, renVs, renL, ren1, renBox, renOwn, okRen, clOf, actB, setRow, flatRows, flatD, noInv, shr_nil, shr_some, kStepF_some, shareL, AV.viewed, AV.viewed1, cMarkNearI, cMarksOkI, cExists, cAncestors, cSince, Con.fn, tTabB, tTab, bRepo_def]
  try dsimp only
  simp only [and_assoc, exists_eq_left, exists_and_left, RepoD.ex1, RepoD.eta]
  have hal := anc_len r
  have e1 : marksI (r, m) = false → nearI r m n = ([], -1) := fun h => by unfold nearI; rw [h]; rfl
  have e2 : n < 0 ∨ (r.commits.length : Int) - 1 < n → nearI r m n = ([], -1) := fun h => by
    unfold nearI
    rw [if_neg]; simp; omega
  have e3 : marksI (r, m) = true → 0 ≤ n → n ≤ (r.commits.length : Int) - 1 → nearI r m n = nearF r m n m.length := fun h h1 h2 => by unfold nearI; rw [h]; simp -implicitDefEqProofs [h1, h2]
  refine ⟨ha, fun h => by rw [e1 h]; exact ⟨rfl, rfl⟩, fun hM => ⟨ha.1, fun h => by rw [e2 h]; exact ⟨rfl, rfl⟩, fun h1 h2 _ => ⟨⟨0, rfl, rfl, rfl, Nat.zero_le _⟩, fun i hi => ⟨fun hlt => ⟨hlt, fun _ => ?_⟩, fun hge => ?_⟩⟩⟩⟩
  · obtain ⟨hr, hh⟩ : repoI r = true ∧ headsB r.commits.length m = true := by unfold marksI at hM; simpa using hM
    have hat : 0 ≤ m[i].at_ ∧ m[i].at_ < r.commits.length := by
      have := ((headsB_iff _ _).1 hh).2 i hlt
      simp only [okHd, inN, List.getD_eq_getElem?_getD, List.getElem?_eq_getElem hlt, Option.getD_some, Bool.and_eq_true, decide_eq_true_eq] at this
      omega
    have hbt : m[i].at_.toNat < (anc r n).length := by rw [hal]; omega
    have s1 : nearF r m n (i + 1) = nearStep r n (nearF r m n i) m[i] := by
      unfold nearF; rw [List.take_succ_eq_append_getElem hlt, List.foldl_append]; rfl
    have hT : isT (anc r n) m[i].at_.toNat = (anc r n)[m[i].at_.toNat] := by simp -implicitDefEqProofs [isT, List.getD_eq_getElem?_getD, hbt]
    have qb : Option.map eBool (anc r n)[m[i].at_.toNat]? = some (eBool (anc r n)[m[i].at_.toNat]) := by simp -implicitDefEqProofs [hbt]
    have hLl : (listT (sinL r n [m[i].at_])).length ≤ 16 := by
      have h1 := listF_len (sinL r n [m[i].at_]) (sinL r n [m[i].at_]).length
      have h2 : (sinL r n [m[i].at_]).length = r.commits.length := by
        show (clrT (anc r n) _).length = _
        rw [clrT_len, hal]
      have := repo_n hr
      change (listT _).length ≤ _ at h1
      omega
    unfold nearStep at s1
    rw [hT] at s1
    simp -implicitDefEqProofs [hlt, eHead, D.asStr, D.asInt, qb, eBool, D.asBool, hr, h1, hal, hat]
    have hi1 : i + 1 ≤ m.length := hlt
    have tail : ∀ x : Str × Int, nearF r m n (i + 1) = x → ∃ t', (nearF r m n t').fst = x.1 ∧ (nearF r m n t').snd = x.2 ∧ (t' : Int) = (i : Int) + 1 ∧ t' ≤ m.length ∧ m.length - t' < m.length - i := fun x h => ⟨i + 1, by rw [h], by rw [h], by omega, hlt, by omega⟩
    refine ⟨by omega, fun hb => ⟨by omega, by omega, fun _ _ => tail _ (by rw [s1, if_neg (by rw [hb]; simp)])⟩, fun hb => ⟨[m[i].at_], by simp -implicitDefEqProofs [eInts, eInt], by omega, by simp, by simpa using hat, fun _ => ⟨fun hn => ⟨by omega, by omega, fun _ _ => ?_⟩, fun hn => ⟨fun hl => ⟨by omega, by omega, fun _ _ => ?_⟩, fun hl => ⟨by omega, by omega, fun _ _ => ?_⟩⟩⟩⟩⟩
    · exact tail (m[i].name, _) (by rw [s1, if_pos hb, if_pos (.inl hn)])
    · exact tail (m[i].name, _) (by rw [s1, if_pos hb, if_pos (.inr hl)])
    · exact tail _ (by rw [s1, if_pos hb, if_neg (by omega)])
  · have : i = m.length := by omega
    subst this
    rw [e3 hM h1 h2]
    exact ⟨rfl, rfl⟩

end Vx
end Go.Proofs.YtlhkmgbmnbkaeaaDoor
/-
  Contracts: the reference's lists of ancestors; its MarkNear.
-/
namespace Go.Proofs.YtlhkmgbmnbkaeaaDoor
namespace Vx
open Go.RowKit
set_option maxRecDepth 8000
--TAB tTabB

theorem isT_set_ne {l : List Bool} {p g : Nat} (b : Bool) (h : p ≠ g) : isT (l.set p b) g = isT l g := by
  unfold isT
  rw [List.getD_eq_getElem?_getD, List.getD_eq_getElem?_getD, List.getElem?_set_ne h]
def alO (r : RepoD) (a : Int) : Inv := ⟨List Bool × Int, fun t => ⟨[(2, true, .ptr 10 0), (4, true, .nil), (5, true, .own 9 1 (eBools t.1)), (6, true, .int .i64 t.2)], [(10, bRepo r), (9, .own 4 1 true (eBools t.1))]⟩, fun t => t.1.length = r.commits.length ∧ -1 ≤ t.2 ∧ t.2 < r.commits.length ∧ ancF r (t.2 + 1).toNat t.1 = anc r a, fun t => (t.2 + 1).toNat⟩
def alI (r : RepoD) (a : Int) (g : Nat) : Inv := ⟨List Bool × Nat, fun t => ⟨[(2, true, .ptr 10 0), (4, true, .nil), (5, true, .own 9 1 (eBools t.1)), (6, true, .int .i64 g), (7, true, .int .i64 t.2)], [(10, bRepo r), (9, .own 4 1 true (eBools t.1))]⟩, fun t => t.1.length = r.commits.length ∧ g < r.commits.length ∧ t.2 ≤ (r.commits.getD g default).parents.length ∧ (isT t.1 g = true → ancF r g (putT t.1 ((r.commits.getD g default).parents.drop t.2)) = anc r a) ∧ (isT t.1 g = false → ancF r g t.1 = anc r a), fun t => (r.commits.getD g default).parents.length - t.2⟩
def alT (r : RepoD) (a : Int) : Inv := ⟨Nat, fun i => ⟨[(2, true, .ptr 10 0), (4, true, .nil), (5, true, .own 9 1 (eBools (anc r a))), (8, true, .own 11 1 (eInts (listF (anc r a) i))), (9, true, .int .i64 i)], [(10, bRepo r), (9, .own 4 1 true (eBools (anc r a))), (11, .own 3 1 true (eInts (listF (anc r a) i)))]⟩, fun i => i ≤ r.commits.length, fun i => r.commits.length - i⟩
def alInv (r : RepoD) (a : Int) (n g : Nat) : Inv := if n = 4 then alO r a else if n = 7 then alI r a g else alT r a
theorem alInv_4 (r : RepoD) (a : Int) (g : Nat) : alInv r a 4 g = alO r a := rfl
theorem alInv_7 (r : RepoD) (a : Int) (g : Nat) : alInv r a 7 g = alI r a g := rfl
theorem alInv_12 (r : RepoD) (a : Int) (g : Nat) : alInv r a 12 g = alT r a := rfl
def cL8All : Con := .fn 66 (RepoD × Int) (fun a => [vRepo a.1, .int .i64 a.2]) (fun a => repoI a.1 = true ∧ 0 ≤ a.2 ∧ a.2 < a.1.commits.length) (fun a => .own 8 1 (eInts (listT (anc a.1 a.2)))) (fun a => ownInts 8 (listT (anc a.1 a.2)))
set_option maxHeartbeats 4000000 in
theorem l8All_has : Has Tryd.prog 101 cL8All := by
  refine has_walk mixed tTabB_ok (l := []) HasL.nil [0, 1, 2, 4, 5, 6, 7, 8, 9] (fun a => alInv a.1 a.2) [] Tryd.func101 (by kernel_rfl) (code := _) (by unfold Tryd.f101; rfl) (by kernel_rfl) (by decide) (fun _ => ⟨(), trivial⟩) (by intro h; first | exact fun _ => rfl | cases h) (by kernel_rfl) ?_
  intro a ha
  obtain ⟨r, n⟩ := a
  obtain ⟨h1, h2, h3⟩ : repoI r = true ∧ 0 ≤ n ∧ n < r.commits.length := ha
  have h4 := repo_n h1
  simp -implicitDefEqProofs [vc_skip, extOf, vc_seq, vc_cond, vc_block, vc_exit, vc_ret, vc_region, vc_regionD, vc_loop, kSeq_normal, kSeq_ret, kSeq_exit, kBlock_normal, kBlock_ret, kBlock_exit, kLoop_normal, kLoop_ret, kLoop_exit, kCond_bool, kNorm_app, vcOps_nil, vcOps_cons, kOps_app, kStep_some, kStep_none, vcDL_nil, vcDL_cons, kOpsD_app, kStepD_true, kStepD_false, kStepC_some, kStepC_none, kMv_app, act3_store, act3_call, act3_bs, kAct_app, kSt2_app, stealSlots, stealL, stealOne, subIn, AV.stolen, act_store, act_bs, act_append, act_call, kSet_app, kSet2_app, kSetG_app, kSetG_app0, kStore_ptr, kStore_eptr, kCallW_some, kCallC_some, kCall_some, wk_T, wk_n, wk_keep, wk_inv, wk_act, wk_dr, wk_le, aCalm, wantC, dstOk, calm, aCallK, aCall3K, subOf, subRep, aCall2K, apnd, bsMove, putBox, putOwn, partAV, mvL, AV.mv, AV.base, AV.moved, AV.src, TI.flat, apSize, pickAV, St.val, St.cond, St.fn, St.next, St.set, St.trim, wipe_eq, wipeE_app, wipeM_app, pickEnv, get?, cGet, upd_app, withPuts, killAll, rm, freshP, Oper.hnd, Sc.st, ofConst, constOk, lenAV, elemLen, loadAV, ldL, ld1, fieldAddrAV, indexAddrAV, sliceAV, convAV, buildAV, fillAV, fieldAV, Out.of, binAV, AV.rows, AV.one, AV.cells, AV.deepOk, AV.toD, toDs, partRows, partRowsM, partsDeep, TK.zeroAV, TK.zeroD, byteOf, inR, Op.operands, Call.operands, passVs, passV, passL, pass1, passB, pasVs, pasV, pasL, pas1, ownsOk, okHs, okHs2, okFin, finOk2, rho, over, backRes, backAV, backAV1, backBlk, putBack, back2, back2_V, back2_1, m2, AV.wipe, AV.wipeV, AV.wipe1, Blk.wipe, AV.hs, AV.hs.hsL, alOps, Con.start2, Con.pk, bodyQ, fini, resAV, resA, firstId, Sc.from, renEnv, renT, renV, renVs, renL, ren1, renBox, renOwn, okRen, clOf, actB, setRow, flatRows, flatD, noInv, shr_nil, shr_some, kStepF_some, shareL, AV.viewed, AV.viewed1, cL8All, Con.fn, tTabB, tTab, alInv_4, alInv_7, alInv_12, alO, alI, alT, bRepo_def]
  try dsimp only
  simp only [and_assoc, exists_eq_left, exists_and_left, RepoD.ex1, RepoD.eta]
  have hal := anc_len r n
  refine fun _ => ⟨by omega, fun _ => ⟨h2, h3, fun _ _ => ⟨by omega, ⟨(List.replicate r.commits.length false).set n.toNat true, by rw [eBools_rep]; exact (eBools_set _ _ _).symm, by rw [eBools_rep]; exact eBools_set _ _ _, by simp, by omega, h3, rfl⟩, fun l b g1 g2 g3 g4 => ⟨fun hb => ⟨b.toNat, ?_⟩, fun hb => ?_⟩⟩⟩⟩
  · have hb1 : b.toNat < l.length := by omega
    have hb2 : b.toNat < r.commits.length := by omega
    obtain ⟨p1, p2, _⟩ := repo_use h1 hb2
    have hgd : r.commits.getD b.toNat default = r.commits[b.toNat] := by simp -implicitDefEqProofs [List.getD_eq_getElem?_getD, hb2]
    have hgo : r.commits[b.toNat]?.getD default = r.commits[b.toNat] := by simp -implicitDefEqProofs [hb2]
    rw [show (b + 1).toNat = b.toNat + 1 by omega] at g4
    have g5 : ancF r b.toNat (stepA r l b.toNat) = anc r n := g4
    unfold stepA at g5
    rw [hgd] at g5
    have e3 : Option.map eCommit r.commits[b.toNat]? = some (eCommit r.commits[b.toNat]) := by simp -implicitDefEqProofs [hb2]
    rw [hgo, e3]
    generalize r.commits[b.toNat] = c at *
    refine ⟨by omega, trivial, g1, hb2, Nat.zero_le _, fun h => ?_, fun h => ?_, fun m k m1 m2 m3 m4 m5 => ⟨hb2, fun _ => ?_⟩⟩
    · rw [if_pos h] at g5; exact g5
    · rw [if_neg (by rw [h]; simp)] at g5; exact g5
    · have hbm : b.toNat < m.length := by omega
      have hT : isT m b.toNat = m[b.toNat] := by simp -implicitDefEqProofs [isT, List.getD_eq_getElem?_getD, hbm]
      have e4 : Option.map eBool m[b.toNat]? = some (eBool m[b.toNat]) := by simp -implicitDefEqProofs [hbm]
      have hmx : max b 0 = b := Int.max_eq_left hb
      simp -implicitDefEqProofs [eCommit, D.asRows, e4, eBool, hbm, hb2, hmx]
      refine fun _ => ⟨fun hl2 => ⟨fun hm => ⟨hl2, fun _ => ?_⟩, fun hm => ⟨by omega, by omega, fun _ _ => ⟨m1, by omega, by omega, m5 (hT.trans hm), by omega⟩⟩⟩, fun hge => ⟨by omega, by omega, fun _ _ => ⟨m1, by omega, by omega, ?_, by omega⟩⟩⟩
      · have hp := p2 c.parents[k] (List.getElem_mem hl2)
        have qt : Option.map eInt c.parents[k]? = some (eInt c.parents[k]) := by simp -implicitDefEqProofs [List.getElem?_eq_getElem hl2]
        simp -implicitDefEqProofs [qt, eInt, D.asInt]
        have hst : isT (m.set c.parents[k].toNat true) b.toNat = true := by rw [isT_set_ne _ (by omega)]; exact hT.trans hm
        refine ⟨hp.1, by omega, fun _ _ => ⟨by omega, by omega, by omega, fun _ _ => ⟨m.set c.parents[k].toNat true, (eBools_set _ _ _).symm, k + 1, by omega, eBools_set _ _ _, by simp -implicitDefEqProofs [m1], by omega, fun _ => ?_, fun h => ?_, by omega⟩⟩⟩
        · have := m4 (hT.trans hm)
          rw [List.drop_eq_getElem_cons hl2] at this
          exact this
        · rw [hst] at h; cases h
      · cases hm : m[b.toNat] with
        | true =>
          have := m4 (hT.trans hm)
          rw [List.drop_eq_nil_of_le hge] at this
          exact this
        | false => exact m5 (hT.trans hm)
  · rw [show (b + 1).toNat = 0 by omega] at g4
    have g5 : l = anc r n := g4
    refine ⟨g5.symm, ⟨0, rfl, rfl, g5, rfl, Nat.zero_le _⟩, fun i hi _ => ⟨fun hlt => ?_, fun hge => ?_⟩⟩
    · have hl := listF_len (anc r n) i
      have hi : isT (anc r n) i = (anc r n)[i] := by simp -implicitDefEqProofs [isT, List.getD_eq_getElem?_getD, hlt]
      rw [hal] at hlt
      simp -implicitDefEqProofs [hal, hlt, eBool, D.asBool, and_assoc]
      refine ⟨fun h => ?_, fun h => ?_⟩
      · have e := listF_hit (hi.trans h)
        exact ⟨by omega, by omega, by omega, by omega, fun _ _ => ⟨i + 1, by rw [e]; simp -implicitDefEqProofs [eInts, eInt], by omega, by rw [e]; simp -implicitDefEqProofs [eInts, eInt], by omega, by omega⟩⟩
      · have e := listF_miss (hi.trans h)
        exact ⟨by omega, by omega, fun _ _ => ⟨i + 1, e, by omega, e.symm, by omega, by omega⟩⟩
    · rw [hal] at hge
      have : i = r.commits.length := by omega
      subst this
      unfold listT
      rw [hal]
      exact ⟨rfl, rfl⟩

def newF (X Y : List Int) (i : Nat) : List Int := (Y.take i).filter fun x => !decide (x ∈ X)
theorem newF_len (X Y : List Int) (i : Nat) : (newF X Y i).length ≤ Y.length := by
  unfold newF
  exact Nat.le_trans (List.length_filter_le _ _) (by simp; omega)
def newL (r : RepoD) (a b : Int) : List Int := if repoI r && inN r.commits.length a && inN r.commits.length b then newF (listT (anc r a)) (listT (anc r b)) (listT (anc r b)).length else []
def cAncNew : Con := .fn 60 (RepoD × Int × Int) (fun a => [vRepo a.1, .int .i64 a.2.1, .int .i64 a.2.2]) (fun a => a.1.commits.length ≤ 1073741824) (fun a => .own 8 1 (eInts (newL a.1 a.2.1 a.2.2))) (fun a => ownInts 8 (newL a.1 a.2.1 a.2.2))
set_option maxHeartbeats 4000000 in
theorem ancNew_has : Has Tryd.prog 99 cAncNew := by
  refine has_walk mixed tTabB_ok (l := [(96, cL7Ok), (98, cL1In), (101, cL8All), (100, cL8Has)]) (HasL.cons l7Ok_has (HasL.cons l1In_has (HasL.cons l8All_has (HasL.cons l8Has_has HasL.nil)))) [0, 1, 2, 3, 6, 7, 8, 9, 10] ((fun a n (_ : Nat) => (fun a _ => ⟨Nat, fun i => ⟨[(3, true, .ptr 10 0), (6, true, .nil), (7, true, .own 9 1 (eInts (newF (listT (anc a.1 a.2.1)) (listT (anc a.1 a.2.2)) i))), (8, true, .own 11 1 (eInts (listT (anc a.1 a.2.1)))), (9, true, .own 12 1 (eInts (listT (anc a.1 a.2.2)))), (10, true, .int .i64 i)], [(10, bRepo a.1), (9, .own 3 1 true (eInts (newF (listT (anc a.1 a.2.1)) (listT (anc a.1 a.2.2)) i))), (11, .own 3 1 true (eInts (listT (anc a.1 a.2.1)))), (12, .own 3 1 true (eInts (listT (anc a.1 a.2.2))))]⟩, fun i => i ≤ (listT (anc a.1 a.2.2)).length, fun i => (listT (anc a.1 a.2.2)).length - i⟩) a n)) [] Tryd.func99 (by kernel_rfl) (code := _) (by unfold Tryd.f99; rfl) (by kernel_rfl) (by decide) (fun _ => ⟨(), trivial⟩) (by intro h; first | exact fun _ => rfl | cases h) (by kernel_rfl) ?_
  intro a ha
  obtain ⟨r, n, k⟩ := a
  replace ha : r.commits.length ≤ 1073741824 := ha
  simp -implicitDefEqProofs [vc_skip, extOf, vc_seq, vc_cond, vc_block, vc_exit, vc_ret, vc_region, vc_regionD, vc_loop, kSeq_normal, kSeq_ret, kSeq_exit, kBlock_normal, kBlock_ret, kBlock_exit, kLoop_normal, kLoop_ret, kLoop_exit, kCond_bool, kNorm_app, vcOps_nil, vcOps_cons, kOps_app, kStep_some, kStep_none, vcDL_nil, vcDL_cons, kOpsD_app, kStepD_true, kStepD_false, kStepC_some, kStepC_none, kMv_app, act3_store, act3_call, act3_bs, kAct_app, kSt2_app, stealSlots, stealL, stealOne, subIn, AV.stolen, act_store, act_bs, act_append, act_call, kSet_app, kSet2_app, kSetG_app, kSetG_app0, kStore_ptr, kStore_eptr, kCallW_some, kCallC_some, kCall_some, wk_T, wk_n, wk_keep, wk_inv, wk_act, wk_dr, wk_le, aCalm, wantC, dstOk, calm, aCallK, aCall3K, subOf, subRep, aCall2K, apnd, bsMove, putBox, putOwn, partAV, mvL, AV.mv, AV.base, AV.moved, AV.src, TI.flat, apSize, pickAV, St.val, St.cond, St.fn, St.next, St.set, St.trim, wipe_eq, wipeE_app, wipeM_app, pickEnv, get?, cGet, upd_app, withPuts, killAll, rm, freshP, Oper.hnd, Sc.st, ofConst, constOk, lenAV, elemLen, loadAV, ldL, ld1, fieldAddrAV, indexAddrAV, sliceAV, convAV, buildAV, fillAV, fieldAV, Out.of, binAV, AV.rows, AV.one, AV.cells, AV.deepOk, AV.toD, toDs, partRows, partRowsM, partsDeep, TK.zeroAV, TK.zeroD, byteOf, inR, Op.operands, Call.operands, passVs, passV, passL, pass1, passB, pasVs, pasV, pasL, pas1, ownsOk, okHs, okHs2, okFin, finOk2, rho, over, backRes, backAV, backAV1, backBlk, putBack, back2, back2_V, back2_1, m2, AV.wipe, AV.wipeV, AV.wipe1, Blk.wipe, AV.hs, AV.hs.hsL, alOps, Con.start2, Con.pk, bodyQ, fini, resAV, resA, firstId, Sc.from, renEnv, renT, renV, renVs, renL, ren1, renBox, renOwn, okRen, clOf, actB, setRow, flatRows, flatD, noInv, shr_nil, shr_some, kStepF_some, shareL, AV.viewed, AV.viewed1, cAncNew, cL7Ok, cL1In, cL8All, cL8Has, Con.fn, tTabB, tTab, bRepo_def]
  try dsimp only
  simp only [and_assoc, exists_eq_left, exists_and_left, RepoD.ex1, RepoD.eta]
  have e0 : repoS r = false → newL r n k = [] := fun h => by unfold newL; rw [repo_eq, h]; rfl
  have e1 : n < 0 ∨ (r.commits.length : Int) - 1 < n → newL r n k = [] := fun h => by
    unfold newL inN
    rw [if_neg]; simp; omega
  have e2 : k < 0 ∨ (r.commits.length : Int) - 1 < k → newL r n k = [] := fun h => by
    unfold newL inN
    rw [if_neg]; simp; omega
  refine ⟨ha, e0, fun hs _ => ⟨by omega, by omega, fun _ _ => ⟨e1, fun n0 n1 _ => ⟨by omega, by omega, fun _ _ => ⟨e2, fun k0 k1 => ?_⟩⟩⟩⟩⟩
  have hr : repoI r = true := by rw [repo_eq]; exact hs
  have h16 := repo_n hr
  have hLl := listF_len (anc r k) (anc r k).length
  change (listT (anc r k)).length ≤ _ at hLl
  rw [anc_len] at hLl
  have e3 : newL r n k = newF (listT (anc r n)) (listT (anc r k)) (listT (anc r k)).length := by
    unfold newL inN
    rw [if_pos]; simp -implicitDefEqProofs [hr]; omega
  rw [e3]
  generalize listT (anc r k) = Y at *
  generalize listT (anc r n) = X at *
  refine ⟨hr, n0, by omega, hr, k0, by omega, ⟨0, rfl, trivial, trivial, rfl, rfl, trivial, trivial, Nat.zero_le _⟩, fun i hi _ => ⟨fun hlt => ⟨hlt, fun _ => ?_⟩, fun hge => ?_⟩⟩
  · have s1 : newF X Y (i + 1) = newF X Y i ++ if Y[i] ∈ X then [] else [Y[i]] := by
      unfold newF
      rw [take_succ' hlt, List.filter_append]
      congr 1
      by_cases h : Y[i] ∈ X <;> simp -implicitDefEqProofs [h]
    have hnl := newF_len X Y i
    simp -implicitDefEqProofs [hlt, eInt, D.asInt]
    refine ⟨fun h => ⟨by omega, by omega, by omega, by omega, fun _ _ => ⟨i + 1, ?_, by omega, ?_, by omega, by omega⟩⟩, fun h => ⟨by omega, by omega, fun _ _ => ⟨i + 1, ?_, by omega, ?_, by omega, by omega⟩⟩⟩
    · rw [s1, if_neg h]; simp -implicitDefEqProofs [eInts, eInt]
    · rw [s1, if_neg h]; simp -implicitDefEqProofs [eInts, eInt]
    · rw [s1, if_pos h, List.append_nil]
    · rw [s1, if_pos h, List.append_nil]
  · have : i = Y.length := by omega
    subst this
    exact ⟨rfl, rfl⟩

def nearStepS (r : RepoD) (a : Int) (s : Str × Int) (h : HeadD) : Str × Int := if decide (h.at_ ∈ listT (anc r a)) && (decide (s.2 < 0) || decide (((newL r h.at_ a).length : Int) < s.2)) then (h.name, (newL r h.at_ a).length) else s
def nearFS (r : RepoD) (m : List HeadD) (a : Int) (i : Nat) : Str × Int := (m.take i).foldl (nearStepS r a) ([], -1)
def nearS (r : RepoD) (m : List HeadD) (a : Int) : Str × Int := if marksI (r, m) && (decide (0 ≤ a) && decide (a ≤ (r.commits.length : Int) - 1)) then nearFS r m a m.length else ([], -1)
def cMarkNearS : Con := .fn 71 (RepoD × List HeadD × Int) (fun a => [vRepo a.1, .sl true 2 (eHeads a.2.1), .int .i64 a.2.2]) (fun a => rpPre a.1) (fun a => .tup [.str (nearS a.1 a.2.1 a.2.2).1, .int .i64 (nearS a.1 a.2.1 a.2.2).2]) (fun _ => [])
set_option maxHeartbeats 4000000 in
theorem markNearS_has : Has Tryd.prog 44 cMarkNearS := by
  refine has_walk mixed tTabB_ok (l := [(96, cL7Ok), (97, cL23Ok), (98, cL1In), (99, cAncNew), (101, cL8All), (100, cL8Has)]) (HasL.cons l7Ok_has (HasL.cons l23Ok_has (HasL.cons l1In_has (HasL.cons ancNew_has (HasL.cons l8All_has (HasL.cons l8Has_has HasL.nil)))))) [0, 1, 2, 3, 6, 7, 8, 9, 10, 11] ((fun a n (_ : Nat) => (fun a _ => ⟨Nat, fun i => ⟨[(1, true, .sl true 2 (eHeads a.2.1)), (2, true, .int .i64 a.2.2), (3, true, .ptr 10 0), (6, true, .str []), (7, true, .int .i64 0), (8, true, .str (nearFS a.1 a.2.1 a.2.2 i).1), (9, true, .int .i64 (nearFS a.1 a.2.1 a.2.2 i).2), (10, true, .int .i64 i)], [(10, bRepo a.1)]⟩, fun i => i ≤ a.2.1.length, fun i => a.2.1.length - i⟩) a n)) [] Tryd.func44 (by kernel_rfl) (code := _) (by unfold Tryd.f44; rfl) (by kernel_rfl) (by decide) (fun _ => ⟨(), trivial⟩) (by intro h; first | exact fun _ => rfl | cases h) (by kernel_rfl) ?_
  intro a ha
  obtain ⟨r, m, n⟩ := a
  replace ha : rpPre r := ha
  have ha1 := ha.1
  simp -implicitDefEqProofs [vc_skip, extOf, vc_seq, vc_cond, vc_block, vc_exit, vc_ret, vc_region, vc_regionD, vc_loop, kSeq_normal, kSeq_ret, kSeq_exit, kBlock_normal, kBlock_ret, kBlock_exit, kLoop_normal, kLoop_ret, kLoop_exit, kCond_bool, kNorm_app, vcOps_nil, vcOps_cons, kOps_app, kStep_some, kStep_none, vcDL_nil, vcDL_cons, kOpsD_app, kStepD_true, kStepD_false, kStepC_some, kStepC_none, kMv_app, act3_store, act3_call, act3_bs, kAct_app, kSt2_app, stealSlots, stealL, stealOne, subIn, AV.stolen, act_store, act_bs, act_append, act_call, kSet_app, kSet2_app, kSetG_app, kSetG_app0, kStore_ptr, kStore_eptr, kCallW_some, kCallC_some, kCall_some, wk_T, wk_n, wk_keep, wk_inv, wk_act, wk_dr, wk_le, aCalm, wantC, dstOk, calm, aCallK, aCall3K, subOf, subRep, aCall2K, apnd, bsMove, putBox, putOwn, partAV, mvL, AV.mv, AV.base, AV.moved, AV.src, TI.flat, apSize, pickAV, St.val, St.cond, St.fn, St.next, St.set, St.trim, wipe_eq, wipeE_app, wipeM_app, pickEnv, get?, cGet, upd_app, withPuts, killAll, rm, freshP, Oper.hnd, Sc.st, ofConst, constOk, lenAV, elemLen, loadAV, ldL, ld1, fieldAddrAV, indexAddrAV, sliceAV, convAV, buildAV, fillAV, fieldAV, Out.of, binAV, AV.rows, AV.one, AV.cells, AV.deepOk, AV.toD, toDs, partRows, partRowsM, partsDeep, TK.zeroAV, TK.zeroD, byteOf, inR, Op.operands, Call.operands, passVs, passV, passL, pass1, passB, pasVs, pasV, pasL, pas1, ownsOk, okHs, okHs2, okFin, finOk2, rho, over, backRes, backAV, backAV1, backBlk, putBack, back2, back2_V, back2_1, m2, AV.wipe, AV.wipeV, AV.wipe1, Blk.wipe, AV.hs, AV.hs.hsL, alOps, Con.start2, Con.pk, bodyQ, fini, resAV, resA, firstId, Sc.from, renEnv, renT, renV, renVs, renL, ren1, renBox, renOwn, okRen, clOf, actB, setRow, flatRows, flatD, noInv, shr_nil, shr_some, kStepF_some, shareL, AV.viewed, AV.viewed1, cMarkNearS, cL7Ok, cL23Ok, cL1In, cAncNew, cL8All, cL8Has, Con.fn, tTabB, tTab, bRepo_def]
  try dsimp only
  simp only [and_assoc, exists_eq_left, exists_and_left, RepoD.ex1, RepoD.eta]
  have hmI : repoS r = true → headsB r.commits.length m = true → marksI (r, m) = true := fun a b => by unfold marksI; rw [repo_eq, a, b]; rfl
  have e0 : repoS r = false → nearS r m n = ([], -1) := fun h => by unfold nearS marksI; rw [repo_eq, h]; rfl
  have e1 : headsB r.commits.length m = false → nearS r m n = ([], -1) := fun h => by unfold nearS marksI; rw [h]; simp
  have e2 : n < 0 ∨ (r.commits.length : Int) - 1 < n → nearS r m n = ([], -1) := fun h => by
    unfold nearS
    rw [if_neg]; simp; omega
  have e3 : marksI (r, m) = true → 0 ≤ n → n ≤ (r.commits.length : Int) - 1 → nearS r m n = nearFS r m n m.length := fun h h1 h2 => by unfold nearS; rw [h]; simp -implicitDefEqProofs [h1, h2]
  refine ⟨ha1, fun h => by rw [e0 h]; exact ⟨rfl, rfl⟩, fun hs => ⟨ha1, fun h => by rw [e1 h]; exact ⟨rfl, rfl⟩, fun hh _ => ⟨by omega, by omega, fun _ _ => ⟨fun h => by rw [e2 h]; exact ⟨rfl, rfl⟩, fun n0 n1 => ⟨⟨0, rfl, rfl, rfl, Nat.zero_le _⟩, fun i hi _ => ⟨fun hlt => ⟨hlt, fun _ => ?_⟩, fun hge => ?_⟩⟩⟩⟩⟩⟩
  · have hr : repoI r = true := by rw [repo_eq]; exact hs
    have s1 : nearFS r m n (i + 1) = nearStepS r n (nearFS r m n i) m[i] := by
      unfold nearFS; rw [List.take_succ_eq_append_getElem hlt, List.foldl_append]; rfl
    unfold nearStepS at s1
    have hNl : (newL r m[i].at_ n).length ≤ 1073741824 := by
      unfold newL
      split
      · have h1 := newF_len (listT (anc r m[i].at_)) (listT (anc r n)) (listT (anc r n)).length
        have h2 := listF_len (anc r n) (anc r n).length
        change (listT (anc r n)).length ≤ _ at h2
        rw [anc_len] at h2
        omega
      · simp
    simp -implicitDefEqProofs [hlt, eHead, D.asStr, D.asInt]
    have tail : ∀ x : Str × Int, nearFS r m n (i + 1) = x → ∃ t', (nearFS r m n t').fst = x.1 ∧ (nearFS r m n t').snd = x.2 ∧ (t' : Int) = (i : Int) + 1 ∧ t' ≤ m.length ∧ m.length - t' < m.length - i := fun x h => ⟨i + 1, by rw [h], by rw [h], by omega, hlt, by omega⟩
    refine ⟨ha1, hr, n0, by omega, fun hm => ⟨fun hn => ⟨by omega, by omega, fun _ _ => ?_⟩, fun hn => ⟨fun hl => ⟨by omega, by omega, fun _ _ => ?_⟩, fun hl => ⟨by omega, by omega, fun _ _ => ?_⟩⟩⟩, fun hm => ⟨fun hn => ⟨by omega, by omega, fun _ _ => ?_⟩, fun hn => ⟨by omega, by omega, fun _ _ => ?_⟩⟩⟩
    · exact tail (m[i].name, _) (by rw [s1, if_pos (by simp -implicitDefEqProofs [hm, hn])])
    · exact tail (m[i].name, _) (by rw [s1, if_pos (by simp -implicitDefEqProofs [hm, hl])])
    · exact tail _ (by rw [s1, if_neg (by simp -implicitDefEqProofs [hm]; omega)])
    · exact tail _ (by rw [s1, if_neg (by simp -implicitDefEqProofs [hm])])
    · exact tail _ (by rw [s1, if_neg (by simp -implicitDefEqProofs [hm])])
  · have : i = m.length := by omega
    subst this
    rw [e3 (hmI hs hh) n0 n1]
    exact ⟨rfl, rfl⟩

end Vx
end Go.Proofs.YtlhkmgbmnbkaeaaDoor
/-
  The nearest mark: the program's way and the reference's are the same; the law FnExactMarkNear.
-/
namespace Go.Proofs.YtlhkmgbmnbkaeaaDoor
namespace Vx
open Go.RowKit
set_option maxRecDepth 8000

theorem isT_mem {l : List Bool} {x : Int} (h0 : 0 ≤ x) (h1 : x.toNat < l.length) : isT l x.toNat = decide (x ∈ listT l) := by
  rw [Bool.eq_iff_iff, decide_eq_true_iff, listT_mem]
  constructor
  · intro h; exact ⟨x.toNat, h1, h, by omega⟩
  · rintro ⟨i, _, h2, rfl⟩
    simpa using h2
theorem isT_clr (ps : List Int) : ∀ (l : List Bool) (i : Nat), (∀ p ∈ ps, 0 ≤ p) → isT (clrT l ps) i = (isT l i && !decide ((i : Int) ∈ ps)) := by
  induction ps with
  | nil => intro l i _; simp [clrT]
  | cons p r ih =>
    intro l i h
    show isT (clrT (l.set p.toNat false) r) i = _
    rw [ih _ _ fun q hq => h q (by simp [hq])]
    have hp := h p (by simp)
    by_cases e : p.toNat = i
    · have hm : (i : Int) ∈ p :: r := by have : (i : Int) = p := by omega
                                         rw [this]; simp
      have hf : isT (l.set p.toNat false) i = false := by
        unfold isT
        rw [e, List.getD_eq_getElem?_getD, List.getElem?_set_self']
        cases l[i]? <;> rfl
      rw [hf, decide_eq_true hm]; simp
    · rw [isT_set_ne _ e]
      have : ¬ (i : Int) = p := by omega
      simp [this]
theorem listT_clr (l : List Bool) (ps : List Int) (h : ∀ p ∈ ps, 0 ≤ p) : listT (clrT l ps) = (listT l).filter fun x => !decide (x ∈ ps) := by
  unfold listT listF
  rw [clrT_len, List.filter_map, List.filter_filter]
  congr 1
  apply List.filter_congr
  intro i _
  rw [isT_clr ps l i h, Bool.and_comm]
  rfl
theorem sin_new {r : RepoD} {a h : Int} (hr : repoI r = true) (ha : inN r.commits.length a = true) (hh : inN r.commits.length h = true) : listT (sinL r a [h]) = newL r h a := by
  have e : sinL r a [h] = clrT (anc r a) (listT (anc r h)) := rfl
  rw [e, listT_clr]
  · unfold newL newF
    rw [hr, ha, hh, List.take_length]; rfl
  · intro p hp
    obtain ⟨i, _, _, rfl⟩ := listT_mem.1 hp
    omega
theorem near_eq (r : RepoD) (m : List HeadD) (a : Int) : nearI r m a = nearS r m a := by
  unfold nearI nearS
  split
  · rename_i h
    simp only [Bool.and_eq_true, decide_eq_true_eq] at h
    obtain ⟨hM, h0, h1⟩ := h
    unfold marksI at hM
    simp only [Bool.and_eq_true] at hM
    obtain ⟨hr, hh⟩ := hM
    have hat : ∀ x ∈ m, inN r.commits.length x.at_ = true := fun x hx => by
      obtain ⟨i, hi, rfl⟩ := List.getElem_of_mem hx
      have := ((headsB_iff _ _).1 hh).2 i hi
      simp only [okHd, List.getD_eq_getElem?_getD, List.getElem?_eq_getElem hi, Option.getD_some, Bool.and_eq_true] at this
      exact this.1.2
    have hal : inN r.commits.length a = true := by unfold inN; simp; omega
    have hstep : ∀ s, ∀ x ∈ m, nearStep r a s x = nearStepS r a s x := fun s x hx => by
      have hx' := hat x hx
      have hx2 := hx'
      simp only [inN, Bool.and_eq_true, decide_eq_true_eq] at hx2
      unfold nearStep nearStepS
      rw [sin_new hr hal hx', isT_mem hx2.1 (by rw [anc_len]; omega)]
      by_cases hm : x.at_ ∈ listT (anc r a)
      · simp only [hm, decide_true, if_true, Bool.true_and, Bool.or_eq_true, decide_eq_true_eq]
      · simp [hm]
    unfold nearF nearFS
    rw [List.take_length]
    clear hh
    have gen : ∀ (l : List HeadD) (s : Str × Int), (∀ s, ∀ x ∈ l, nearStep r a s x = nearStepS r a s x) → l.foldl (nearStep r a) s = l.foldl (nearStepS r a) s := by
      intro l
      induction l with
      | nil => intro s _; rfl
      | cons y l ih =>
        intro s h
        rw [List.foldl_cons, List.foldl_cons, h s y (by simp)]
        exact ih _ fun s x hx => h s x (by simp [hx])
    exact gen m _ hstep
  · rfl

def cFnExactMarkNear : Con := .fn 62 (RepoD × List HeadD × Int) (fun a => [lRepo a.1, .sl true 2 (eHeads a.2.1), .int .i64 a.2.2]) (fun _ => True) (fun _ => .bool true) (fun _ => [])
set_option maxHeartbeats 4000000 in
theorem fnExactMarkNear_has : Has Tryd.prog 8 cFnExactMarkNear := by
  refine has_walk mixed tTab_ok (l := [(42, cSzRepo), (43, cSzHeadS), (45, cToRepo), (46, cToHeadS), (44, cMarkNearS), (47, cMarkNearI), (49, cEqHeadS), (48, cEqRepo)]) (HasL.cons szRepo_has (HasL.cons szHeadS_has (HasL.cons toRepo_has (HasL.cons toHeadS_has (HasL.cons markNearS_has (HasL.cons markNearI_has (HasL.cons eqHeadS_has (HasL.cons eqRepo_has HasL.nil)))))))) [0, 1, 2, 3, 6, 7, 8, 9, 10, 11, 12, 13] ((fun a n (_ : Nat) => (fun _ => noInv) a n)) [] Tryd.func8 (by kernel_rfl) (code := _) (by unfold Tryd.f8; rfl) (by kernel_rfl) (by decide) (fun _ => ⟨(), trivial⟩) (by intro h; first | exact fun _ => rfl | cases h) (by kernel_rfl) ?_
  intro a _
  obtain ⟨r, m, n⟩ := a
  have h1 : 0 ≤ szRp r 1048576 → rpSz r := fun h => (szRp_use h).1
  have h2 : 0 ≤ szRp r 1048576 → rpPre r := fun h => (szRp_use h).2
  have h3 : szRp r 1048576 ≤ 1048576 := szRp_le (by omega)
  have h5 : 0 ≤ szHeads m (szRp r 1048576) → m.length ≤ 1048576 := fun h => by have := (szHeads_ok h).1; omega
  have he := near_eq
  simp -implicitDefEqProofs [vc_skip, extOf, vc_seq, vc_cond, vc_block, vc_exit, vc_ret, vc_region, vc_regionD, vc_loop, kSeq_normal, kSeq_ret, kSeq_exit, kBlock_normal, kBlock_ret, kBlock_exit, kLoop_normal, kLoop_ret, kLoop_exit, kCond_bool, kNorm_app, vcOps_nil, vcOps_cons, kOps_app, kStep_some, kStep_none, vcDL_nil, vcDL_cons, kOpsD_app, kStepD_true, kStepD_false, kStepC_some, kStepC_none, kMv_app, act3_store, act3_call, act3_bs, kAct_app, kSt2_app, stealSlots, stealL, stealOne, subIn, AV.stolen, act_store, act_bs, act_append, act_call, kSet_app, kSet2_app, kSetG_app, kSetG_app0, kStore_ptr, kStore_eptr, kCallW_some, kCallC_some, kCall_some, wk_T, wk_n, wk_keep, wk_inv, wk_act, wk_dr, wk_le, aCalm, wantC, dstOk, calm, aCallK, aCall3K, subOf, subRep, aCall2K, apnd, bsMove, putBox, putOwn, partAV, mvL, AV.mv, AV.base, AV.moved, AV.src, TI.flat, apSize, pickAV, St.val, St.cond, St.fn, St.next, St.set, St.trim, wipe_eq, wipeE_app, wipeM_app, pickEnv, get?, cGet, upd_app, withPuts, killAll, rm, freshP, Oper.hnd, Sc.st, ofConst, constOk, lenAV, elemLen, loadAV, ldL, ld1, fieldAddrAV, indexAddrAV, sliceAV, convAV, buildAV, fillAV, fieldAV, Out.of, binAV, AV.rows, AV.one, AV.cells, AV.deepOk, AV.toD, toDs, partRows, partRowsM, partsDeep, TK.zeroAV, TK.zeroD, byteOf, inR, Op.operands, Call.operands, passVs, passV, passL, pass1, passB, pasVs, pasV, pasL, pas1, ownsOk, okHs, okHs2, okFin, finOk2, rho, over, backRes, backAV, backAV1, backBlk, putBack, back2, back2_V, back2_1, m2, AV.wipe, AV.wipeV, AV.wipe1, Blk.wipe, AV.hs, AV.hs.hsL, alOps, Con.start2, Con.pk, bodyQ, fini, resAV, resA, firstId, Sc.from, renEnv, renT, renV, renVs, renL, ren1, renBox, renOwn, okRen, clOf, actB, setRow, flatRows, flatD, noInv, shr_nil, shr_some, kStepF_some, shareL, AV.viewed, AV.viewed1, cFnExactMarkNear, cSzRepo, cSzHeadS, cToRepo, cToHeadS, cMarkNearS, cMarkNearI, cEqHeadS, cEqRepo, Con.fn, tTab, he]
  try dsimp only
  simp only [and_assoc, exists_eq_left, exists_and_left, RepoD.ex1, RepoD.eta]
  refine ⟨by omega, by omega, fun h => ⟨h, h3, fun hs => ?_⟩⟩
  have q1 := h1 h
  have q2 := h2 h
  have q5 := h5 hs
  exact ⟨q1, q5, q2, q1, q5, q2, trivial, fun _ => ⟨trivial, fun _ => ⟨q1, trivial, fun _ => q5⟩⟩⟩

end Vx
end Go.Proofs.YtlhkmgbmnbkaeaaDoor
/-
  Arguments opened; what all rows share.
-/
namespace Go.Proofs.YtlhkmgbmnbkaeaaDoor
open Go.ChangeShapes Go.WideShapes Go.ChangeAt Go.RowKit
namespace Vx

theorem own_knob : ownKnob Tryd.prog.godebug = none := by kernel_rfl
theorem laidOut : laidOutB Tryd.prog = true := by kernel_rfl
theorem tTab_closed : tabOk tTab = true := by decide

theorem shp_strs {T : Nat → Option TI} (hs : ∀ te, T 9 = some te → te.cells = [.str]) {ds : List D} (h : Shp T [.sl 9 1] ds) : ∃ l, ds = [.sl 9 1 (eStrs l)] := by
  cases h with
  | @sl e k te rows ks ds h1 h2 h3 =>
    cases h3
    rw [hs _ h1] at h2
    obtain ⟨l, rfl, _⟩ := rows_map (f := eStr) (p := fun _ => True) (rows := rows) (fun r hr => by
      have := h2 r hr
      cases this with
      | str q1 q2 => cases q2; exact ⟨_, rfl, trivial⟩)
    exact ⟨l, rfl⟩
theorem shp_files {T : Nat → Option TI} (hs : ∀ te, T 9 = some te → te.cells = [.str]) (hf : ∀ te, T 95 = some te → te.cells = [.str, .sl 9 1]) {ds : List D} (h : Shp T [.sl 95 2] ds) :
    ∃ l, ds = [.sl 95 2 (eFiles l)] := by
  cases h with
  | @sl e k te rows ks ds h1 h2 h3 =>
    cases h3
    rw [hf _ h1] at h2
    obtain ⟨l, rfl, _⟩ := rows_map (f := eFile) (p := fun _ => True) (rows := rows) (fun r hr => by
      have := h2 r hr
      cases this with
      | str q1 q2 =>
        obtain ⟨l, rfl⟩ := shp_strs hs q2
        exact ⟨⟨_, l⟩, rfl, trivial⟩)
    exact ⟨l, rfl⟩

section
variable {H : Type} {enc : TypeId × Value → H} {W : World} {sp : Nat → Bool} {held : Bool} {r : Reach} {base : Nat}

set_option maxRecDepth 100000 in
theorem open_files {v : Value} {d : DataW H} {p : List MemPlace} (hu : Tryd.prog.underlying 35 = some (.slice 95)) (hv : Value.okWide Tryd.prog W r base 35 v)
    (h : DataW.Trod enc Tryd.prog W 0 sp held 35 v d p) : ∃ l f, RdL false W [.sl 95 2 (eFiles l)] [v] f := by
  obtain ⟨a, n, c, rfl⟩ := okWide_slice hu hv
  obtain ⟨fuel, hf⟩ := h
  obtain ⟨ds, f, h1, h2⟩ := rd_trod tTab_ok tTab_closed fuel (t := 35) rfl hf
  obtain ⟨l, rfl⟩ := shp_files (fun te ht => by cases ht; rfl) (fun te ht => by cases ht; rfl) h2
  exact ⟨l, f, h1⟩
set_option maxRecDepth 100000 in
theorem open_strs {v : Value} {d : DataW H} {p : List MemPlace} (hu : Tryd.prog.underlying 26 = some (.slice 9)) (hv : Value.okWide Tryd.prog W r base 26 v)
    (h : DataW.Trod enc Tryd.prog W 0 sp held 26 v d p) : ∃ l f, RdL false W [.sl 9 1 (eStrs l)] [v] f := by
  obtain ⟨a, n, c, rfl⟩ := okWide_slice hu hv
  obtain ⟨fuel, hf⟩ := h
  obtain ⟨ds, f, h1, h2⟩ := rd_trod tTab_ok tTab_closed fuel (t := 26) rfl hf
  obtain ⟨l, rfl⟩ := shp_strs (fun te ht => by cases ht; rfl) h2
  exact ⟨l, f, h1⟩
set_option maxRecDepth 100000 in
theorem open_str {v : Value} {d : DataW H} {p : List MemPlace} (hu : Tryd.prog.underlying 9 = some .string) (hv : Value.okWide Tryd.prog W r base 9 v)
    (h : DataW.Trod enc Tryd.prog W 0 sp held 9 v d p) : ∃ l : Str, v = .string ⟨l.toArray⟩ ∧ l.length ≤ maxLen := by
  obtain ⟨s, rfl, _, _, hs⟩ := Go.ChangeMaps.open_string hu hv h
  exact ⟨s.data.toList, by simp, by simpa using hs⟩
end

end Vx
end Go.Proofs.YtlhkmgbmnbkaeaaDoor
/-
  Arguments opened: repositories, branches.
-/
namespace Go.Proofs.YtlhkmgbmnbkaeaaDoor
open Go.ChangeShapes Go.WideShapes Go.ChangeAt Go.RowKit
namespace Vx

def isStruct : Option TypeDesc → Bool
  | some (.struct _) => true
  | _ => false

theorem shp_ints {T : Nat → Option TI} (hs : ∀ te, T 3 = some te → te.cells = [.int .i64]) {ds0 : List TK} {ds : List D} (h : Shp T (.sl 3 1 :: ds0) ds) : ∃ l r, ds = .sl 3 1 (eInts l) :: r ∧ Shp T ds0 r := by
  cases h with
  | @sl e k te rows ks ds h1 h2 h3 =>
    rw [hs _ h1] at h2
    obtain ⟨l, rfl, _⟩ := rows_map (f := eInt) (p := fun _ => True) (rows := rows) (fun r hr => by
      have := h2 r hr
      cases this with
      | int q1 q2 => cases q2; exact ⟨_, rfl, trivial⟩)
    exact ⟨l, _, rfl, h3⟩
theorem shp_heads {T : Nat → Option TI} (hs : ∀ te, T 109 = some te → te.cells = [.str, .int .i64]) {ds : List D} (h : Shp T [.sl 109 2] ds) : ∃ l, ds = [.sl 109 2 (eHeads l)] := by
  cases h with
  | @sl e k te rows ks ds h1 h2 h3 =>
    cases h3
    rw [hs _ h1] at h2
    obtain ⟨l, rfl, _⟩ := rows_map (f := eHead) (p := fun _ => True) (rows := rows) (fun r hr => by
      have := h2 r hr
      cases this with
      | str q1 q2 =>
        cases q2 with
        | int q3 q4 => cases q4; exact ⟨⟨_, _⟩, rfl, trivial⟩)
    exact ⟨l, rfl⟩
theorem shp_commits {T : Nat → Option TI} (hi : ∀ te, T 3 = some te → te.cells = [.int .i64]) (hs : ∀ te, T 9 = some te → te.cells = [.str]) (hf : ∀ te, T 95 = some te → te.cells = [.str, .sl 9 1])
    (hc : ∀ te, T 151 = some te → te.cells = [.sl 3 1, .str, .sl 95 2]) {ds0 : List TK} {ds : List D} (h : Shp T (.sl 151 3 :: ds0) ds) : ∃ l r, ds = .sl 151 3 (lCommits l) :: r ∧ Shp T ds0 r := by
  cases h with
  | @sl e k te rows ks ds h1 h2 h3 =>
    rw [hc _ h1] at h2
    obtain ⟨l, rfl, _⟩ := rows_map (f := lCommit) (p := fun _ => True) (rows := rows) (fun r hr => by
      obtain ⟨ps, r1, rfl, q⟩ := shp_ints hi (h2 r hr)
      cases q with
      | str q1 q2 =>
        obtain ⟨l, rfl⟩ := shp_files hs hf q2
        exact ⟨⟨_, _, l⟩, rfl, trivial⟩)
    exact ⟨l, _, rfl, h3⟩

theorem rdL_cut {q : Bool} {w : World} {d : D} {ds : List D} {vs : List Value} {f : List (Nat × Nat)} (h : RdL q w (d :: ds) vs f) : ∃ v vs' f1 f2, vs = v :: vs' ∧ RdL q w [d] [v] f1 ∧ RdL q w ds vs' f2 := by
  cases h with
  | int h => exact ⟨_, _, _, _, rfl, .int .nil, h⟩
  | bool h => exact ⟨_, _, _, _, rfl, .bool .nil, h⟩
  | str q h => exact ⟨_, _, _, _, rfl, .str q .nil, h⟩
  | raw q h => exact ⟨_, _, _, _, rfl, .raw q .nil, h⟩
  | junk q h => exact ⟨_, _, _, _, rfl, .junk q .nil, h⟩
  | sl0 q1 q2 h => exact ⟨_, _, _, _, rfl, .sl0 q1 q2 .nil, h⟩
  | sl q1 q2 q3 q4 q5 q6 q7 q8 q9 h => exact ⟨_, _, _, _, rfl, .sl q1 q2 q3 q4 q5 q6 q7 q8 q9 .nil, h⟩
theorem rdL_one {q : Bool} {w : World} {e k : Nat} {rows : List (List D)} {v : Value} {f : List (Nat × Nat)} (h : RdL q w [.sl e k rows] [v] f) : v.oneCell' = true := by
  cases h <;> rfl

section
variable {H : Type} {enc : TypeId × Value → H} {W : World} {sp : Nat → Bool} {held : Bool} {r : Reach} {base : Nat}

set_option maxRecDepth 100000 in
theorem open_heads {v : Value} {d : DataW H} {p : List MemPlace} (hu : Tryd.prog.underlying 55 = some (.slice 109)) (hv : Value.okWide Tryd.prog W r base 55 v)
    (h : DataW.Trod enc Tryd.prog W 0 sp held 55 v d p) : ∃ l f, RdL false W [.sl 109 2 (eHeads l)] [v] f := by
  obtain ⟨a, n, c, rfl⟩ := okWide_slice hu hv
  obtain ⟨fuel, hf⟩ := h
  obtain ⟨ds, f, h1, h2⟩ := rd_trod tTab_ok tTab_closed fuel (t := 55) rfl hf
  obtain ⟨l, rfl⟩ := shp_heads (fun te ht => by cases ht; rfl) h2
  exact ⟨l, f, h1⟩
set_option maxRecDepth 100000 in
theorem open_repo {v : Value} {d : DataW H} {p : List MemPlace} (hu : isStruct (Tryd.prog.underlying 57) = true) (hv : Value.okWide Tryd.prog W r base 57 v)
    (h : DataW.Trod enc Tryd.prog W 0 sp held 57 v d p) : ∃ (l : RepoD) (us : List Value) (f : List (Nat × Nat)), v = .agg us.toArray ∧ (∀ u ∈ us, u.oneCell' = true) ∧ RdArgs W [.sl true 3 (lCommits l.commits), .sl true 2 (eHeads l.heads)] us f := by
  have hu' : ∃ fs, Tryd.prog.underlying 57 = some (.struct fs) := by
    revert hu
    generalize Tryd.prog.underlying 57 = o
    intro hu
    unfold isStruct at hu
    split at hu
    · exact ⟨_, rfl⟩
    · cases hu
  obtain ⟨fs, hu'⟩ := hu'
  obtain ⟨cs, rfl, _⟩ := okWide_struct hu' hv
  obtain ⟨fuel, hf⟩ := h
  obtain ⟨ds, f, h1, h2⟩ := rd_trod tTab_ok tTab_closed fuel (t := 57) rfl hf
  obtain ⟨cl, r1, rfl, h3⟩ := shp_commits (fun te ht => by cases ht; rfl) (fun te ht => by cases ht; rfl) (fun te ht => by cases ht; rfl) (fun te ht => by cases ht; rfl) h2
  obtain ⟨hl, rfl⟩ := shp_heads (fun te ht => by cases ht; rfl) h3
  obtain ⟨v1, vs, f1, f2, e1, k1, k2⟩ := rdL_cut h1
  obtain ⟨v2, vs2, f3, f4, rfl, k3, k4⟩ := rdL_cut k2
  cases k4
  have e2 : cs = #[v1, v2] := by
    apply Array.ext'
    exact e1
  subst e2
  refine ⟨⟨cl, hl⟩, [v1, v2], _, rfl, ?_, .sl k1 (.sl k3 .nil)⟩
  intro u hu
  simp only [List.mem_cons, List.not_mem_nil, or_false] at hu
  rcases hu with rfl | rfl
  · exact rdL_one k1
  · exact rdL_one k3
end

end Vx
end Go.Proofs.YtlhkmgbmnbkaeaaDoor
/-
  Arguments opened: integers.
-/
namespace Go.Proofs.YtlhkmgbmnbkaeaaDoor
open Go.ChangeShapes Go.WideShapes Go.ChangeAt Go.RowKit
namespace Vx

set_option maxRecDepth 100000 in
theorem open_int0 {H : Type} {enc : TypeId × Value → H} {W : World} {sp : Nat → Bool} {held : Bool} {r : Reach} {base : Nat} {v : Value} {d : DataW H} {p : List MemPlace} (hu : Tryd.prog.underlying 3 = some (.int .i64)) (hv : Value.okWide Tryd.prog W r base 3 v)
    (_h : DataW.Trod enc Tryd.prog W 0 sp held 3 v d p) : ∃ n : Int, v = .int .i64 n := okWide_int hu hv

end Vx
end Go.Proofs.YtlhkmgbmnbkaeaaDoor
