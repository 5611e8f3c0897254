/-
  Joined by program (merge.py): Cq, Cr, Cs, Ct, Ec, Ga, Gb, Ed, Gc, Gp, Eb, Ef, Eg, Ge, St, Gf, Cu, Gi, Gj. It shows what the single texts show; conditions: none but those of each lemma.
-/
import Derived.Test.YtlhkmgbmnbkaeaaDoorWa
set_option linter.unusedVariables false
set_option linter.unusedSimpArgs false
set_option linter.unusedSectionVars false
/-
  Contracts: SeekTree, both sides.
-/
namespace Go.Proofs.YtlhkmgbmnbkaeaaDoor
namespace Vx
open Go.RowKit
set_option maxRecDepth 8000

def cSeek1 : Con := { A := Str × Str, X := Unit, n := 7, args := fun a => [.str a.2, .ptr 0 0], boxes := fun a => [(0, 9, [.str a.1])], pre := fun a => a.2.length ≤ 1099511627776 ∧ a.1.length ≤ 1099511627776 ∧ 1 ≤ a.1.length, post := fun _ _ => True, res := fun a _ => .bool (occ a.1 true a.2), fin := fun a _ => [(0, .box 9 [.str a.1])], nob := false }
set_option maxHeartbeats 4000000 in
theorem seek1_has : Has Tryd.prog 129 cSeek1 := by
  refine has_walk mixed tTab_ok (l := [(130, cContains)]) (HasL.cons contains_has HasL.nil) [0, 1, 3] ((fun a n (_ : Nat) => (fun _ => noInv) a n)) [] Tryd.func129 (by kernel_rfl) (code := _) (by unfold Tryd.f129; rfl) (by kernel_rfl) (by decide) (fun _ => ⟨(), trivial⟩) (by intro h; first | exact fun _ => rfl | cases h) (by kernel_rfl) ?_
  intro a ha
  obtain ⟨w, l⟩ := a
  obtain ⟨q1, q2, q3⟩ : l.length ≤ 1099511627776 ∧ w.length ≤ 1099511627776 ∧ 1 ≤ w.length := ha
  simp -implicitDefEqProofs [vc_skip, extOf, vc_seq, vc_cond, vc_block, vc_exit, vc_ret, vc_region, vc_regionD, vc_loop, kSeq_normal, kSeq_ret, kSeq_exit, kBlock_normal, kBlock_ret, kBlock_exit, kLoop_normal, kLoop_ret, kLoop_exit, kCond_bool, kNorm_app, vcOps_nil, vcOps_cons, kOps_app, kStep_some, kStep_none, vcDL_nil, vcDL_cons, kOpsD_app, kStepD_true, kStepD_false, kStepC_some, kStepC_none, kMv_app, act3_store, act3_call, act3_bs, kAct_app, kSt2_app, stealSlots, stealL, stealOne, subIn, AV.stolen, act_store, act_bs, act_append, act_call, kSet_app, kSet2_app, kSetG_app, kSetG_app0, kStore_ptr, kStore_eptr, kCallW_some, kCallC_some, kCall_some, wk_T, wk_n, wk_keep, wk_inv, wk_act, wk_dr, wk_le, aCalm, wantC, dstOk, calm, aCallK, aCall3K, subOf, subRep, aCall2K, apnd, bsMove, putBox, putOwn, partAV, mvL, AV.mv, AV.base, AV.moved, AV.src, TI.flat, apSize, pickAV, St.val, St.cond, St.fn, St.next, St.set, St.trim, wipe_eq, wipeE_app, wipeM_app, pickEnv, get?, cGet, upd_app, withPuts, killAll, rm, freshP, Oper.hnd, Sc.st, ofConst, constOk, lenAV, elemLen, loadAV, ldL, ld1, fieldAddrAV, indexAddrAV, sliceAV, convAV, buildAV, fillAV, fieldAV, Out.of, binAV, AV.rows, AV.one, AV.cells, AV.deepOk, AV.toD, toDs, partRows, partRowsM, partsDeep, TK.zeroAV, TK.zeroD, byteOf, inR, Op.operands, Call.operands, passVs, passV, passL, pass1, passB, pasVs, pasV, pasL, pas1, ownsOk, okHs, okHs2, okFin, finOk2, rho, over, backRes, backAV, backAV1, backBlk, putBack, back2, back2_V, back2_1, m2, AV.wipe, AV.wipeV, AV.wipe1, Blk.wipe, AV.hs, AV.hs.hsL, alOps, Con.start2, Con.pk, bodyQ, fini, resAV, resA, firstId, Sc.from, renEnv, renT, renV, renVs, renL, ren1, renBox, renOwn, okRen, clOf, actB, setRow, flatRows, flatD, noInv, shr_nil, shr_some, kStepF_some, shareL, AV.viewed, AV.viewed1, cSeek1, Con.fn, tTab, cContains]
  try dsimp only
  try simp +contextual [eStr, eFile, cast_succ, cast_eq, cast_zero, List.getElem?_eq_getElem, eStrs_set, eFiles_set, eStrs_rep, eFiles_rep, ← eStrs_append, ← eFiles_append, eStrs_take, eStrs_drop, eFiles_take, eFiles_drop, eStrs_snoc, eFiles_snoc, and_assoc]
  repeat' (first | intro _ | apply And.intro)
  all_goals first | omega | grind [all_take]

def cIdxSeek : Con := { A := List Str × Str, X := Unit, n := 19, args := fun a => [.sl true 1 (eStrs a.1), .clo 129 [.ptr 0 0]], boxes := fun a => [(0, 9, [.str a.2])], pre := fun a => (∀ q ∈ a.1, q.length ≤ 1099511627776) ∧ a.2.length ≤ 1099511627776 ∧ 1 ≤ a.2.length, post := fun _ _ => True, res := fun a _ => .int .i64 (idxP (occ a.2 true) a.1), fin := fun a _ => [(0, .box 9 [.str a.2])], nob := false }
set_option maxHeartbeats 4000000 in
theorem idxSeek_has : Has Tryd.prog 155 cIdxSeek := by
  refine has_walk mixed tTab_ok (l := [(129, cSeek1)]) (HasL.cons seek1_has HasL.nil) [0, 1, 4, 5, 7, 8] ((fun a n (_ : Nat) => (fun a _ => ⟨Nat, fun i => ⟨[(0, true, .sl true 1 (eStrs a.1)), (1, true, .clo 129 [.ptr 0 0]), (4, true, .int .i64 0), (7, true, .int .i64 a.1.length), (8, true, .int .i64 i)], [(0, .box 9 [.str a.2])]⟩, fun i => i ≤ a.1.length ∧ ∀ x, x ∈ a.1.take i → occ a.2 true x = false, fun i => a.1.length - i⟩) a n)) [] Tryd.func155 (by kernel_rfl) (code := _) (by unfold Tryd.f155; rfl) (by kernel_rfl) (by decide) (fun _ => ⟨(), trivial⟩) (by intro h; first | exact fun _ => rfl | cases h) (by kernel_rfl) ?_
  intro a ha
  obtain ⟨l, w⟩ := a
  obtain ⟨q1, q2, q3⟩ : (∀ q ∈ l, q.length ≤ 1099511627776) ∧ w.length ≤ 1099511627776 ∧ 1 ≤ w.length := ha
  have ha' : ∀ i (h : i < l.length), l[i].length ≤ 1099511627776 := fun i h => q1 _ (List.getElem_mem h)
  have h1 := fun i => @idxP_hit _ (occ w true) l i
  have h2 := fun i => @idxP_miss _ (occ w true) l i
  have h3 := fun i => @take_step _ l i (fun y => occ w true y = false)
  simp -implicitDefEqProofs [vc_skip, extOf, vc_seq, vc_cond, vc_block, vc_exit, vc_ret, vc_region, vc_regionD, vc_loop, kSeq_normal, kSeq_ret, kSeq_exit, kBlock_normal, kBlock_ret, kBlock_exit, kLoop_normal, kLoop_ret, kLoop_exit, kCond_bool, kNorm_app, vcOps_nil, vcOps_cons, kOps_app, kStep_some, kStep_none, vcDL_nil, vcDL_cons, kOpsD_app, kStepD_true, kStepD_false, kStepC_some, kStepC_none, kMv_app, act3_store, act3_call, act3_bs, kAct_app, kSt2_app, stealSlots, stealL, stealOne, subIn, AV.stolen, act_store, act_bs, act_append, act_call, kSet_app, kSet2_app, kSetG_app, kSetG_app0, kStore_ptr, kStore_eptr, kCallW_some, kCallC_some, kCall_some, wk_T, wk_n, wk_keep, wk_inv, wk_act, wk_dr, wk_le, aCalm, wantC, dstOk, calm, aCallK, aCall3K, subOf, subRep, aCall2K, apnd, bsMove, putBox, putOwn, partAV, mvL, AV.mv, AV.base, AV.moved, AV.src, TI.flat, apSize, pickAV, St.val, St.cond, St.fn, St.next, St.set, St.trim, wipe_eq, wipeE_app, wipeM_app, pickEnv, get?, cGet, upd_app, withPuts, killAll, rm, freshP, Oper.hnd, Sc.st, ofConst, constOk, lenAV, elemLen, loadAV, ldL, ld1, fieldAddrAV, indexAddrAV, sliceAV, convAV, buildAV, fillAV, fieldAV, Out.of, binAV, AV.rows, AV.one, AV.cells, AV.deepOk, AV.toD, toDs, partRows, partRowsM, partsDeep, TK.zeroAV, TK.zeroD, byteOf, inR, Op.operands, Call.operands, passVs, passV, passL, pass1, passB, pasVs, pasV, pasL, pas1, ownsOk, okHs, okHs2, okFin, finOk2, rho, over, backRes, backAV, backAV1, backBlk, putBack, back2, back2_V, back2_1, m2, AV.wipe, AV.wipeV, AV.wipe1, Blk.wipe, AV.hs, AV.hs.hsL, alOps, Con.start2, Con.pk, bodyQ, fini, resAV, resA, firstId, Sc.from, renEnv, renT, renV, renVs, renL, ren1, renBox, renOwn, okRen, clOf, actB, setRow, flatRows, flatD, noInv, shr_nil, shr_some, kStepF_some, shareL, AV.viewed, AV.viewed1, cIdxSeek, Con.fn, tTab, cSeek1]
  try dsimp only
  try simp +contextual [eStr, eFile, cast_succ, cast_eq, cast_zero, List.getElem?_eq_getElem, eStrs_set, eFiles_set, eStrs_rep, eFiles_rep, ← eStrs_append, ← eFiles_append, eStrs_take, eStrs_drop, eFiles_take, eFiles_drop, eStrs_snoc, eFiles_snoc, and_assoc]
  repeat' (first | intro _ | apply And.intro)
  all_goals first | omega | grind [all_take, idxP_ge]

def anyOcc (w : Str) (l : List Str) : Bool := l.any (occ w true)
def cConSeek : Con := { A := List Str × Str, X := Unit, n := 9, args := fun a => [.sl true 1 (eStrs a.1), .clo 129 [.ptr 0 0]], boxes := fun a => [(0, 9, [.str a.2])], pre := fun a => (∀ q ∈ a.1, q.length ≤ 1099511627776) ∧ a.2.length ≤ 1099511627776 ∧ 1 ≤ a.2.length, post := fun _ _ => True, res := fun a _ => .bool (anyOcc a.2 a.1), fin := fun a _ => [(0, .box 9 [.str a.2])], nob := false }
set_option maxHeartbeats 4000000 in
theorem conSeek_has : Has Tryd.prog 128 cConSeek := by
  refine has_walk mixed tTab_ok (l := [(155, cIdxSeek)]) (HasL.cons idxSeek_has HasL.nil) [0, 1, 4] ((fun a n (_ : Nat) => (fun _ => noInv) a n)) [] Tryd.func128 (by kernel_rfl) (code := _) (by unfold Tryd.f128; rfl) (by kernel_rfl) (by decide) (fun _ => ⟨(), trivial⟩) (by intro h; first | exact fun _ => rfl | cases h) (by kernel_rfl) ?_
  intro a ha
  obtain ⟨l, w⟩ := a
  obtain ⟨q1, q2, q3⟩ : (∀ q ∈ l, q.length ≤ 1099511627776) ∧ w.length ≤ 1099511627776 ∧ 1 ≤ w.length := ha
  simp -implicitDefEqProofs [vc_skip, extOf, vc_seq, vc_cond, vc_block, vc_exit, vc_ret, vc_region, vc_regionD, vc_loop, kSeq_normal, kSeq_ret, kSeq_exit, kBlock_normal, kBlock_ret, kBlock_exit, kLoop_normal, kLoop_ret, kLoop_exit, kCond_bool, kNorm_app, vcOps_nil, vcOps_cons, kOps_app, kStep_some, kStep_none, vcDL_nil, vcDL_cons, kOpsD_app, kStepD_true, kStepD_false, kStepC_some, kStepC_none, kMv_app, act3_store, act3_call, act3_bs, kAct_app, kSt2_app, stealSlots, stealL, stealOne, subIn, AV.stolen, act_store, act_bs, act_append, act_call, kSet_app, kSet2_app, kSetG_app, kSetG_app0, kStore_ptr, kStore_eptr, kCallW_some, kCallC_some, kCall_some, wk_T, wk_n, wk_keep, wk_inv, wk_act, wk_dr, wk_le, aCalm, wantC, dstOk, calm, aCallK, aCall3K, subOf, subRep, aCall2K, apnd, bsMove, putBox, putOwn, partAV, mvL, AV.mv, AV.base, AV.moved, AV.src, TI.flat, apSize, pickAV, St.val, St.cond, St.fn, St.next, St.set, St.trim, wipe_eq, wipeE_app, wipeM_app, pickEnv, get?, cGet, upd_app, withPuts, killAll, rm, freshP, Oper.hnd, Sc.st, ofConst, constOk, lenAV, elemLen, loadAV, ldL, ld1, fieldAddrAV, indexAddrAV, sliceAV, convAV, buildAV, fillAV, fieldAV, Out.of, binAV, AV.rows, AV.one, AV.cells, AV.deepOk, AV.toD, toDs, partRows, partRowsM, partsDeep, TK.zeroAV, TK.zeroD, byteOf, inR, Op.operands, Call.operands, passVs, passV, passL, pass1, passB, pasVs, pasV, pasL, pas1, ownsOk, okHs, okHs2, okFin, finOk2, rho, over, backRes, backAV, backAV1, backBlk, putBack, back2, back2_V, back2_1, m2, AV.wipe, AV.wipeV, AV.wipe1, Blk.wipe, AV.hs, AV.hs.hsL, alOps, Con.start2, Con.pk, bodyQ, fini, resAV, resA, firstId, Sc.from, renEnv, renT, renV, renVs, renL, ren1, renBox, renOwn, okRen, clOf, actB, setRow, flatRows, flatD, noInv, shr_nil, shr_some, kStepF_some, shareL, AV.viewed, AV.viewed1, cConSeek, Con.fn, tTab, cIdxSeek, anyOcc]
  try dsimp only
  try simp +contextual [eStr, eFile, cast_succ, cast_eq, cast_zero, List.getElem?_eq_getElem, eStrs_set, eFiles_set, eStrs_rep, eFiles_rep, ← eStrs_append, ← eFiles_append, eStrs_take, eStrs_drop, eFiles_take, eFiles_drop, eStrs_snoc, eFiles_snoc, and_assoc, idxP_any]
  repeat' (first | intro _ | apply And.intro)
  all_goals first | omega | grind [all_take, idxP_any]

def hitI (w : Str) (f : FileD) : Bool := anyOcc w f.text
def seekL (p : FileD → Bool) (t : List FileD) : List Str := (t.filter p).map FileD.path
theorem seekL_hit {p : FileD → Bool} {t : List FileD} {i : Nat} (h : i < t.length) (hp : p t[i] = true) : seekL p (t.take (i + 1)) = seekL p (t.take i) ++ [t[i].path] := by
  simp only [seekL, take_succ' h, List.filter_append, List.map_append]
  simp [List.filter_cons, hp]
theorem seekL_miss {p : FileD → Bool} {t : List FileD} {i : Nat} (h : i < t.length) (hp : p t[i] = false) : seekL p (t.take (i + 1)) = seekL p (t.take i) := by
  simp only [seekL, take_succ' h, List.filter_append, List.map_append]
  simp [List.filter_cons, hp]
theorem seekL_le (p : FileD → Bool) (t : List FileD) : (seekL p t).length ≤ t.length := by
  simp only [seekL, List.length_map]; exact List.length_filter_le p t

def cSeek : Con := .fn 25 (List FileD × Str) (fun a => [.sl true 2 (eFiles a.1), .str a.2]) (fun a => a.1.length ≤ 1048576 ∧ (∀ f ∈ a.1, ∀ q ∈ f.text, q.length ≤ 1099511627776) ∧ a.2.length ≤ 1099511627776 ∧ 1 ≤ a.2.length) (fun a => .own 8 1 (eStrs (seekL (hitI a.2) a.1))) (fun a => ownStrs 8 (seekL (hitI a.2) a.1))
set_option maxHeartbeats 4000000 in
theorem seek_has : Has Tryd.prog 71 cSeek := by
  refine has_walk mixed tTab_ok (l := [(128, cConSeek)]) (HasL.cons conSeek_has HasL.nil) [0, 1, 3, 4, 5, 7, 8, 9, 10] ((fun a n (_ : Nat) => (fun a _ => ⟨Nat, fun i => ⟨[(3, true, .ptr 10 0), (4, true, .nil), (5, true, .own 9 1 (eStrs (seekL (hitI a.2) (a.1.take i)))), (8, true, .sl true 2 (eFiles a.1)), (9, true, .int .i64 a.1.length), (10, true, .int .i64 i)], [(10, .box 9 [.str a.2]), (9, .own 9 1 true (eStrs (seekL (hitI a.2) (a.1.take i))))]⟩, fun i => i ≤ a.1.length, fun i => a.1.length - i⟩) a n)) [] Tryd.func71 (by kernel_rfl) (code := _) (by unfold Tryd.f71; rfl) (by kernel_rfl) (by decide) (fun _ => ⟨(), trivial⟩) (by intro h; first | exact fun _ => rfl | cases h) (by kernel_rfl) ?_
  intro a ha
  obtain ⟨t, w⟩ := a
  obtain ⟨q0, q1, q2, q3⟩ : t.length ≤ 1048576 ∧ (∀ f ∈ t, ∀ q ∈ f.text, q.length ≤ 1099511627776) ∧ w.length ≤ 1099511627776 ∧ 1 ≤ w.length := ha
  have q1' : ∀ i (h : i < t.length), ∀ q ∈ t[i].text, q.length ≤ 1099511627776 := fun i h => q1 _ (List.getElem_mem h)
  have h1 := fun i => @seekL_hit (hitI w) t i
  have h2 := fun i => @seekL_miss (hitI w) t i
  have h3 := fun i => seekL_le (hitI w) (t.take i)
  have h4 : seekL (hitI w) [] = [] := rfl
  have h5 : ∀ i (h : i < t.length), anyOcc w t[i].text = hitI w t[i] := fun _ _ => rfl
  simp -implicitDefEqProofs [vc_skip, extOf, vc_seq, vc_cond, vc_block, vc_exit, vc_ret, vc_region, vc_regionD, vc_loop, kSeq_normal, kSeq_ret, kSeq_exit, kBlock_normal, kBlock_ret, kBlock_exit, kLoop_normal, kLoop_ret, kLoop_exit, kCond_bool, kNorm_app, vcOps_nil, vcOps_cons, kOps_app, kStep_some, kStep_none, vcDL_nil, vcDL_cons, kOpsD_app, kStepD_true, kStepD_false, kStepC_some, kStepC_none, kMv_app, act3_store, act3_call, act3_bs, kAct_app, kSt2_app, stealSlots, stealL, stealOne, subIn, AV.stolen, act_store, act_bs, act_append, act_call, kSet_app, kSet2_app, kSetG_app, kSetG_app0, kStore_ptr, kStore_eptr, kCallW_some, kCallC_some, kCall_some, wk_T, wk_n, wk_keep, wk_inv, wk_act, wk_dr, wk_le, aCalm, wantC, dstOk, calm, aCallK, aCall3K, subOf, subRep, aCall2K, apnd, bsMove, putBox, putOwn, partAV, mvL, AV.mv, AV.base, AV.moved, AV.src, TI.flat, apSize, pickAV, St.val, St.cond, St.fn, St.next, St.set, St.trim, wipe_eq, wipeE_app, wipeM_app, pickEnv, get?, cGet, upd_app, withPuts, killAll, rm, freshP, Oper.hnd, Sc.st, ofConst, constOk, lenAV, elemLen, loadAV, ldL, ld1, fieldAddrAV, indexAddrAV, sliceAV, convAV, buildAV, fillAV, fieldAV, Out.of, binAV, AV.rows, AV.one, AV.cells, AV.deepOk, AV.toD, toDs, partRows, partRowsM, partsDeep, TK.zeroAV, TK.zeroD, byteOf, inR, Op.operands, Call.operands, passVs, passV, passL, pass1, passB, pasVs, pasV, pasL, pas1, ownsOk, okHs, okHs2, okFin, finOk2, rho, over, backRes, backAV, backAV1, backBlk, putBack, back2, back2_V, back2_1, m2, AV.wipe, AV.wipeV, AV.wipe1, Blk.wipe, AV.hs, AV.hs.hsL, alOps, Con.start2, Con.pk, bodyQ, fini, resAV, resA, firstId, Sc.from, renEnv, renT, renV, renVs, renL, ren1, renBox, renOwn, okRen, clOf, actB, setRow, flatRows, flatD, noInv, shr_nil, shr_some, kStepF_some, shareL, AV.viewed, AV.viewed1, cSeek, Con.fn, tTab, cConSeek]
  try dsimp only
  try simp +contextual [eStr, eFile, cast_succ, cast_eq, cast_zero, List.getElem?_eq_getElem, eStrs_set, eFiles_set, eStrs_rep, eFiles_rep, ← eStrs_append, ← eFiles_append, eStrs_take, eStrs_drop, eFiles_take, eFiles_drop, eStrs_snoc, eFiles_snoc, and_assoc, h4]
  repeat' (first | intro _ | apply And.intro)
  all_goals first | omega | grind [all_take, List.take_of_length_le]

def treeSeekI (t : List FileD) (w : Str) : List Str := if treeI t && nameB w then seekL (hitI w) t else []
theorem nameB_len {w : Str} (h : nameB w = true) : 1 ≤ w.length ∧ w.length ≤ 6 := by
  simp only [nameB, Bool.and_eq_true, decide_eq_true_eq] at h
  exact ⟨h.1.1, h.1.2⟩
def cSeekTreeI : Con := .fn 16 (List FileD × Str) (fun a => [.sl true 2 (eFiles a.1), .str a.2]) (fun a => (∀ f ∈ a.1, f.path.length ≤ 536870912) ∧ (∀ f ∈ a.1, ∀ q ∈ f.text, q.length ≤ 1099511627776)) (fun a => .own 8 1 (eStrs (treeSeekI a.1 a.2))) (fun a => ownStrs 8 (treeSeekI a.1 a.2))
set_option maxHeartbeats 4000000 in
theorem seekTreeI_has : Has Tryd.prog 15 cSeekTreeI := by
  refine has_walk mixed tTab_ok (l := [(18, cTreeOk), (70, cNameOk), (71, cSeek)]) (HasL.cons treeOk_has (HasL.cons nameOk_has (HasL.cons seek_has HasL.nil))) [0, 1, 4] ((fun a n (_ : Nat) => (fun _ => noInv) a n)) [] Tryd.func15 (by kernel_rfl) (code := _) (by unfold Tryd.f15; rfl) (by kernel_rfl) (by decide) (fun _ => ⟨(), trivial⟩) (by intro h; first | exact fun _ => rfl | cases h) (by kernel_rfl) ?_
  intro a ha
  obtain ⟨t, w⟩ := a
  obtain ⟨q0, q1⟩ : (∀ f ∈ t, f.path.length ≤ 536870912) ∧ (∀ f ∈ t, ∀ q ∈ f.text, q.length ≤ 1099511627776) := ha
  have h1 := treeI_le t
  have h2 := @nameB_len w
  simp -implicitDefEqProofs [vc_skip, extOf, vc_seq, vc_cond, vc_block, vc_exit, vc_ret, vc_region, vc_regionD, vc_loop, kSeq_normal, kSeq_ret, kSeq_exit, kBlock_normal, kBlock_ret, kBlock_exit, kLoop_normal, kLoop_ret, kLoop_exit, kCond_bool, kNorm_app, vcOps_nil, vcOps_cons, kOps_app, kStep_some, kStep_none, vcDL_nil, vcDL_cons, kOpsD_app, kStepD_true, kStepD_false, kStepC_some, kStepC_none, kMv_app, act3_store, act3_call, act3_bs, kAct_app, kSt2_app, stealSlots, stealL, stealOne, subIn, AV.stolen, act_store, act_bs, act_append, act_call, kSet_app, kSet2_app, kSetG_app, kSetG_app0, kStore_ptr, kStore_eptr, kCallW_some, kCallC_some, kCall_some, wk_T, wk_n, wk_keep, wk_inv, wk_act, wk_dr, wk_le, aCalm, wantC, dstOk, calm, aCallK, aCall3K, subOf, subRep, aCall2K, apnd, bsMove, putBox, putOwn, partAV, mvL, AV.mv, AV.base, AV.moved, AV.src, TI.flat, apSize, pickAV, St.val, St.cond, St.fn, St.next, St.set, St.trim, wipe_eq, wipeE_app, wipeM_app, pickEnv, get?, cGet, upd_app, withPuts, killAll, rm, freshP, Oper.hnd, Sc.st, ofConst, constOk, lenAV, elemLen, loadAV, ldL, ld1, fieldAddrAV, indexAddrAV, sliceAV, convAV, buildAV, fillAV, fieldAV, Out.of, binAV, AV.rows, AV.one, AV.cells, AV.deepOk, AV.toD, toDs, partRows, partRowsM, partsDeep, TK.zeroAV, TK.zeroD, byteOf, inR, Op.operands, Call.operands, passVs, passV, passL, pass1, passB, pasVs, pasV, pasL, pas1, ownsOk, okHs, okHs2, okFin, finOk2, rho, over, backRes, backAV, backAV1, backBlk, putBack, back2, back2_V, back2_1, m2, AV.wipe, AV.wipeV, AV.wipe1, Blk.wipe, AV.hs, AV.hs.hsL, alOps, Con.start2, Con.pk, bodyQ, fini, resAV, resA, firstId, Sc.from, renEnv, renT, renV, renVs, renL, ren1, renBox, renOwn, okRen, clOf, actB, setRow, flatRows, flatD, noInv, shr_nil, shr_some, kStepF_some, shareL, AV.viewed, AV.viewed1, cSeekTreeI, Con.fn, tTab, cTreeOk, cNameOk, cSeek]
  try dsimp only
  try simp +contextual [eStr, eFile, cast_succ, cast_eq, cast_zero, List.getElem?_eq_getElem, eStrs_set, eFiles_set, eStrs_rep, eFiles_rep, ← eStrs_append, ← eFiles_append, eStrs_take, eStrs_drop, eFiles_take, eFiles_drop, eStrs_snoc, eFiles_snoc, and_assoc, treeSeekI, q0, q1]
  repeat' (first | intro _ | apply And.intro)
  all_goals first | omega | grind [all_take, treeSeekI]

end Vx
end Go.Proofs.YtlhkmgbmnbkaeaaDoor
/-
  Contracts: SeekTree (the reference's); both are the same.
-/
namespace Go.Proofs.YtlhkmgbmnbkaeaaDoor
namespace Vx
open Go.RowKit
set_option maxRecDepth 8000

def hasAt (w l : Str) (fr i : Nat) : Bool := hasP w (l.drop i) (pieceAt l fr i)
theorem hasAt_in {w l : Str} {fr i : Nat} (h : i < l.length) (hf : fr ≤ i) (hb : wordB (l.getD i 0).toNat = true) : hasAt w l fr i = hasAt w l fr (i + 1) := by
  unfold hasAt
  rw [getD_nat _ _ h] at hb
  rw [List.drop_eq_getElem_cons h, piece_step h hf]
  simp only [hasP, hb, if_true]
theorem hasAt_out {w l : Str} {fr i : Nat} (h : i < l.length) (hb : wordB (l.getD i 0).toNat = false) : hasAt w l fr i = (decide (pieceAt l fr i = w) || hasAt w l (i + 1) (i + 1)) := by
  unfold hasAt
  rw [getD_nat _ _ h] at hb
  rw [List.drop_eq_getElem_cons h, piece_zero]
  simp only [hasP, hb, Bool.false_eq_true, if_false]
theorem hasAt_end {w l : Str} {fr i : Nat} (h : l.length ≤ i) : hasAt w l fr i = decide (pieceAt l fr i = w) := by
  unfold hasAt
  rw [List.drop_eq_nil_of_le h]; rfl
def hasS (w l : Str) : Bool := hasP w l []
theorem hasAt_zero (w l : Str) : hasAt w l 0 0 = hasS w l := by simp [hasAt, hasS, piece_zero]
theorem wordB_num (n : Int) : wordB n = ((decide (97 ≤ n) && decide (n ≤ 122)) || (decide (48 ≤ n) && decide (n ≤ 57))) := rfl

def cL22Has : Con := .fn 49 (Str × Str) (fun a => [.str a.1, .str a.2]) (fun a => a.1.length ≤ 1099511627776) (fun a => .bool (hasS a.2 a.1)) (fun _ => [])
set_option maxHeartbeats 4000000 in
theorem l22Has_has : Has Tryd.prog 134 cL22Has := by
  refine has_walk mixed tTab_ok (l := []) HasL.nil [0, 1, 4, 5, 6] ((fun a n (_ : Nat) => (fun a _ => ⟨Nat × Nat, fun t => ⟨[(0, true, .str a.1), (1, true, .str a.2), (4, true, .bool false), (5, true, .int .i64 t.1), (6, true, .int .i64 t.2)], []⟩, fun t => t.1 ≤ t.2 ∧ t.2 ≤ a.1.length + 1 ∧ (t.2 ≤ a.1.length → hasAt a.2 a.1 t.1 t.2 = hasS a.2 a.1) ∧ (a.1.length < t.2 → hasS a.2 a.1 = false), fun t => a.1.length + 1 - t.2⟩) a n)) [] Tryd.func134 (by kernel_rfl) (code := _) (by unfold Tryd.f134; rfl) (by kernel_rfl) (by decide) (fun _ => ⟨(), trivial⟩) (by intro h; first | exact fun _ => rfl | cases h) (by kernel_rfl) ?_
  intro a ha
  obtain ⟨l, w⟩ := a
  replace ha : l.length ≤ 1099511627776 := ha
  have h0 := hasAt_zero w l
  simp -implicitDefEqProofs [vc_skip, extOf, vc_seq, vc_cond, vc_block, vc_exit, vc_ret, vc_region, vc_regionD, vc_loop, kSeq_normal, kSeq_ret, kSeq_exit, kBlock_normal, kBlock_ret, kBlock_exit, kLoop_normal, kLoop_ret, kLoop_exit, kCond_bool, kNorm_app, vcOps_nil, vcOps_cons, kOps_app, kStep_some, kStep_none, vcDL_nil, vcDL_cons, kOpsD_app, kStepD_true, kStepD_false, kStepC_some, kStepC_none, kMv_app, act3_store, act3_call, act3_bs, kAct_app, kSt2_app, stealSlots, stealL, stealOne, subIn, AV.stolen, act_store, act_bs, act_append, act_call, kSet_app, kSet2_app, kSetG_app, kSetG_app0, kStore_ptr, kStore_eptr, kCallW_some, kCallC_some, kCall_some, wk_T, wk_n, wk_keep, wk_inv, wk_act, wk_dr, wk_le, aCalm, wantC, dstOk, calm, aCallK, aCall3K, subOf, subRep, aCall2K, apnd, bsMove, putBox, putOwn, partAV, mvL, AV.mv, AV.base, AV.moved, AV.src, TI.flat, apSize, pickAV, St.val, St.cond, St.fn, St.next, St.set, St.trim, wipe_eq, wipeE_app, wipeM_app, pickEnv, get?, cGet, upd_app, withPuts, killAll, rm, freshP, Oper.hnd, Sc.st, ofConst, constOk, lenAV, elemLen, loadAV, ldL, ld1, fieldAddrAV, indexAddrAV, sliceAV, convAV, buildAV, fillAV, fieldAV, Out.of, binAV, AV.rows, AV.one, AV.cells, AV.deepOk, AV.toD, toDs, partRows, partRowsM, partsDeep, TK.zeroAV, TK.zeroD, byteOf, inR, Op.operands, Call.operands, passVs, passV, passL, pass1, passB, pasVs, pasV, pasL, pas1, ownsOk, okHs, okHs2, okFin, finOk2, rho, over, backRes, backAV, backAV1, backBlk, putBack, back2, back2_V, back2_1, m2, AV.wipe, AV.wipeV, AV.wipe1, Blk.wipe, AV.hs, AV.hs.hsL, alOps, Con.start2, Con.pk, bodyQ, fini, resAV, resA, firstId, Sc.from, renEnv, renT, renV, renVs, renL, ren1, renBox, renOwn, okRen, clOf, actB, setRow, flatRows, flatD, noInv, shr_nil, shr_some, kStepF_some, shareL, AV.viewed, AV.viewed1, cL22Has, Con.fn, tTab]
  try dsimp only
  have hW : ∀ b : Nat, (wordB ((l[b]?.getD 0).toNat : Int) = true) = ((97 ≤ ((l[b]?.getD 0).toNat : Int) ∧ ((l[b]?.getD 0).toNat : Int) ≤ 122) ∨ (48 ≤ ((l[b]?.getD 0).toNat : Int) ∧ ((l[b]?.getD 0).toNat : Int) ≤ 57)) := fun b => by simp [wordB]
  have Kin : ∀ a b : Nat, a ≤ b → b < l.length → (b ≤ l.length → hasAt w l a b = hasS w l) → ((97 ≤ ((l[b]?.getD 0).toNat : Int) ∧ ((l[b]?.getD 0).toNat : Int) ≤ 122) ∨ (48 ≤ ((l[b]?.getD 0).toNat : Int) ∧ ((l[b]?.getD 0).toNat : Int) ≤ 57)) →
      ∃ x y : Nat, ((x : Int) = a ∧ (y : Int) = b + 1) ∧ (x ≤ y ∧ y ≤ l.length + 1 ∧ (y ≤ l.length → hasAt w l x y = hasS w l) ∧ (l.length < y → hasS w l = false)) ∧ l.length + 1 - y < l.length + 1 - b := by
    intro a b h1 h2 h3 h4
    rw [← hW] at h4
    refine ⟨a, b + 1, ⟨rfl, by omega⟩, ⟨by omega, by omega, fun _ => ?_, fun h => by omega⟩, by omega⟩
    rw [← h3 (by omega), ← hasAt_in h2 h1 (by rw [List.getD_eq_getElem?_getD]; exact h4)]
  have Kp : ∀ a b : Nat, (l.drop a).take (b - a) = pieceAt l a b := fun _ _ => rfl
  have Kout : ∀ a b : Nat, a ≤ b → b ≤ l.length → (b ≤ l.length → hasAt w l a b = hasS w l) → (b < l.length → ¬ ((97 ≤ ((l[b]?.getD 0).toNat : Int) ∧ ((l[b]?.getD 0).toNat : Int) ≤ 122) ∨ (48 ≤ ((l[b]?.getD 0).toNat : Int) ∧ ((l[b]?.getD 0).toNat : Int) ≤ 57))) →
      (pieceAt l a b = w → hasS w l = true) ∧ (¬ pieceAt l a b = w → ∃ x y : Nat, ((x : Int) = (b : Int) + 1 ∧ (y : Int) = b + 1) ∧ (x ≤ y ∧ y ≤ l.length + 1 ∧ (y ≤ l.length → hasAt w l x y = hasS w l) ∧ (l.length < y → hasS w l = false)) ∧ l.length + 1 - y < l.length + 1 - b) := by
    intro a b h1 h2 h3 h4
    have h3 := h3 h2
    by_cases hb : b < l.length
    · have h5 : wordB ((l.getD b 0).toNat : Int) = false := by
        have := h4 hb
        rw [← hW] at this
        rw [List.getD_eq_getElem?_getD]
        simpa using this
      rw [hasAt_out hb h5] at h3
      refine ⟨fun h => ?_, fun h => ⟨b + 1, b + 1, ⟨by omega, by omega⟩, ⟨by omega, by omega, fun _ => ?_, fun h => by omega⟩, by omega⟩⟩
      · rw [decide_eq_true h] at h3; exact h3.symm
      · rw [decide_eq_false h] at h3; exact h3
    · rw [hasAt_end (by omega)] at h3
      refine ⟨fun h => ?_, fun h => ⟨b + 1, b + 1, ⟨by omega, by omega⟩, ⟨by omega, by omega, fun _ => by omega, fun _ => ?_⟩, by omega⟩⟩
      · rw [decide_eq_true h] at h3; exact h3.symm
      · rw [decide_eq_false h] at h3; exact h3.symm
  refine ⟨⟨0, 0, ⟨rfl, rfl⟩, by omega, by omega, fun _ => h0, fun h => by omega⟩, ?_⟩
  intro a b hab hb h1 h2 _
  simp only [Kp]
  have k1 := Kin a b hab
  have k2 := Kout a b hab
  clear Kin Kout Kp hW h0
  refine ⟨fun hle _ => ?_, fun hgt => h2 (by omega)⟩
  have k2 := k2 hle h1
  rcases Nat.lt_or_ge b l.length with hlt | hge
  · have k1 := k1 hlt h1
    clear h1 h2
    generalize ((l[b]?.getD 0).toNat : Int) = n at *
    repeat' (first | intro _ | apply And.intro)
    all_goals first | omega | exact k1 (by omega) | exact (k2 (by omega)).1 (by assumption) | exact (k2 (by omega)).2 (by assumption)
  · have k2 := k2 (by omega)
    repeat' (first | intro _ | apply And.intro)
    all_goals first | omega | exact k2.1 (by assumption) | exact k2.2 (by assumption)

def anyHas (w : Str) (l : List Str) : Bool := l.any (hasS w)
def cL22Text : Con := .fn 18 (List Str × Str) (fun a => [.sl true 1 (eStrs a.1), .str a.2]) (fun a => ∀ q ∈ a.1, q.length ≤ 1099511627776) (fun a => .bool (anyHas a.2 a.1)) (fun _ => [])
set_option maxHeartbeats 4000000 in
theorem l22Text_has : Has Tryd.prog 74 cL22Text := by
  refine has_walk mixed tTab_ok (l := [(134, cL22Has)]) (HasL.cons l22Has_has HasL.nil) [0, 1, 4, 5] ((fun a n (_ : Nat) => (fun a _ => ⟨Nat, fun i => ⟨[(0, true, .sl true 1 (eStrs a.1)), (1, true, .str a.2), (4, true, .bool false), (5, true, .int .i64 i)], []⟩, fun i => i ≤ a.1.length ∧ ∀ x, x ∈ a.1.take i → hasS a.2 x = false, fun i => a.1.length - i⟩) a n)) [] Tryd.func74 (by kernel_rfl) (code := _) (by unfold Tryd.f74; rfl) (by kernel_rfl) (by decide) (fun _ => ⟨(), trivial⟩) (by intro h; first | exact fun _ => rfl | cases h) (by kernel_rfl) ?_
  intro a ha
  obtain ⟨l, w⟩ := a
  replace ha : ∀ q ∈ l, q.length ≤ 1099511627776 := ha
  have ha' : ∀ i (h : i < l.length), l[i].length ≤ 1099511627776 := fun i h => ha _ (List.getElem_mem h)
  have h3 := fun i => @take_step _ l i (fun y => hasS w y = false)
  have h1 : ∀ i (h : i < l.length), hasS w l[i] = true → anyHas w l = true := fun i h hp => by
    unfold anyHas; rw [List.any_eq_true]; exact ⟨_, List.getElem_mem h, hp⟩
  have h2 : ∀ i, l.length ≤ i → (∀ x, x ∈ l.take i → hasS w x = false) → anyHas w l = false := fun i h hb => by
    unfold anyHas; rw [List.any_eq_false]; rw [List.take_of_length_le h] at hb; intro x hx; rw [hb x hx]; simp
  simp -implicitDefEqProofs [vc_skip, extOf, vc_seq, vc_cond, vc_block, vc_exit, vc_ret, vc_region, vc_regionD, vc_loop, kSeq_normal, kSeq_ret, kSeq_exit, kBlock_normal, kBlock_ret, kBlock_exit, kLoop_normal, kLoop_ret, kLoop_exit, kCond_bool, kNorm_app, vcOps_nil, vcOps_cons, kOps_app, kStep_some, kStep_none, vcDL_nil, vcDL_cons, kOpsD_app, kStepD_true, kStepD_false, kStepC_some, kStepC_none, kMv_app, act3_store, act3_call, act3_bs, kAct_app, kSt2_app, stealSlots, stealL, stealOne, subIn, AV.stolen, act_store, act_bs, act_append, act_call, kSet_app, kSet2_app, kSetG_app, kSetG_app0, kStore_ptr, kStore_eptr, kCallW_some, kCallC_some, kCall_some, wk_T, wk_n, wk_keep, wk_inv, wk_act, wk_dr, wk_le, aCalm, wantC, dstOk, calm, aCallK, aCall3K, subOf, subRep, aCall2K, apnd, bsMove, putBox, putOwn, partAV, mvL, AV.mv, AV.base, AV.moved, AV.src, TI.flat, apSize, pickAV, St.val, St.cond, St.fn, St.next, St.set, St.trim, wipe_eq, wipeE_app, wipeM_app, pickEnv, get?, cGet, upd_app, withPuts, killAll, rm, freshP, Oper.hnd, Sc.st, ofConst, constOk, lenAV, elemLen, loadAV, ldL, ld1, fieldAddrAV, indexAddrAV, sliceAV, convAV, buildAV, fillAV, fieldAV, Out.of, binAV, AV.rows, AV.one, AV.cells, AV.deepOk, AV.toD, toDs, partRows, partRowsM, partsDeep, TK.zeroAV, TK.zeroD, byteOf, inR, Op.operands, Call.operands, passVs, passV, passL, pass1, passB, pasVs, pasV, pasL, pas1, ownsOk, okHs, okHs2, okFin, finOk2, rho, over, backRes, backAV, backAV1, backBlk, putBack, back2, back2_V, back2_1, m2, AV.wipe, AV.wipeV, AV.wipe1, Blk.wipe, AV.hs, AV.hs.hsL, alOps, Con.start2, Con.pk, bodyQ, fini, resAV, resA, firstId, Sc.from, renEnv, renT, renV, renVs, renL, ren1, renBox, renOwn, okRen, clOf, actB, setRow, flatRows, flatD, noInv, shr_nil, shr_some, kStepF_some, shareL, AV.viewed, AV.viewed1, cL22Text, Con.fn, tTab, cL22Has]
  try dsimp only
  try simp +contextual [eStr, eFile, cast_succ, cast_eq, cast_zero, List.getElem?_eq_getElem, eStrs_set, eFiles_set, eStrs_rep, eFiles_rep, ← eStrs_append, ← eFiles_append, eStrs_take, eStrs_drop, eFiles_take, eFiles_drop, eStrs_snoc, eFiles_snoc, and_assoc]
  repeat' (first | intro _ | apply And.intro)
  all_goals first | omega | grind [all_take]

def hitS (w : Str) (f : FileD) : Bool := anyHas w f.text
def treeSeekS (t : List FileD) (w : Str) : List Str := if treeS t && nameB w then seekL (hitS w) t else []
def cSeekTreeS : Con := .fn 38 (List FileD × Str) (fun a => [.sl true 2 (eFiles a.1), .str a.2]) (fun a => ∀ f ∈ a.1, ∀ q ∈ f.text, q.length ≤ 1099511627776) (fun a => .own 8 1 (eStrs (treeSeekS a.1 a.2))) (fun a => ownStrs 8 (treeSeekS a.1 a.2))
set_option maxHeartbeats 4000000 in
theorem seekTreeS_has : Has Tryd.prog 17 cSeekTreeS := by
  refine has_walk mixed tTab_ok (l := [(72, cL4Ok), (73, cL4Name), (74, cL22Text)]) (HasL.cons l4Ok_has (HasL.cons l4Name_has (HasL.cons l22Text_has HasL.nil))) [0, 1, 4, 5, 6] ((fun a n (_ : Nat) => (fun a _ => ⟨Nat, fun i => ⟨[(0, true, .sl true 2 (eFiles a.1)), (1, true, .str a.2), (4, true, .nil), (5, true, .own 9 1 (eStrs (seekL (hitS a.2) (a.1.take i)))), (6, true, .int .i64 i)], [(9, .own 9 1 true (eStrs (seekL (hitS a.2) (a.1.take i))))]⟩, fun i => i ≤ a.1.length ∧ treeS a.1 = true ∧ nameB a.2 = true, fun i => a.1.length - i⟩) a n)) [] Tryd.func17 (by kernel_rfl) (code := _) (by unfold Tryd.f17; rfl) (by kernel_rfl) (by decide) (fun _ => ⟨(), trivial⟩) (by intro h; first | exact fun _ => rfl | cases h) (by kernel_rfl) ?_
  intro a ha
  obtain ⟨t, w⟩ := a
  replace ha : ∀ f ∈ t, ∀ q ∈ f.text, q.length ≤ 1099511627776 := ha
  have q1' : ∀ i (h : i < t.length), ∀ q ∈ t[i].text, q.length ≤ 1099511627776 := fun i h => ha _ (List.getElem_mem h)
  have q0 := treeS_le t
  have h1 := fun i => @seekL_hit (hitS w) t i
  have h2 := fun i => @seekL_miss (hitS w) t i
  have h3 := fun i => seekL_le (hitS w) (t.take i)
  have h4 : seekL (hitS w) [] = [] := rfl
  have h5 : ∀ i (h : i < t.length), anyHas w t[i].text = hitS w t[i] := fun _ _ => rfl
  simp -implicitDefEqProofs [vc_skip, extOf, vc_seq, vc_cond, vc_block, vc_exit, vc_ret, vc_region, vc_regionD, vc_loop, kSeq_normal, kSeq_ret, kSeq_exit, kBlock_normal, kBlock_ret, kBlock_exit, kLoop_normal, kLoop_ret, kLoop_exit, kCond_bool, kNorm_app, vcOps_nil, vcOps_cons, kOps_app, kStep_some, kStep_none, vcDL_nil, vcDL_cons, kOpsD_app, kStepD_true, kStepD_false, kStepC_some, kStepC_none, kMv_app, act3_store, act3_call, act3_bs, kAct_app, kSt2_app, stealSlots, stealL, stealOne, subIn, AV.stolen, act_store, act_bs, act_append, act_call, kSet_app, kSet2_app, kSetG_app, kSetG_app0, kStore_ptr, kStore_eptr, kCallW_some, kCallC_some, kCall_some, wk_T, wk_n, wk_keep, wk_inv, wk_act, wk_dr, wk_le, aCalm, wantC, dstOk, calm, aCallK, aCall3K, subOf, subRep, aCall2K, apnd, bsMove, putBox, putOwn, partAV, mvL, AV.mv, AV.base, AV.moved, AV.src, TI.flat, apSize, pickAV, St.val, St.cond, St.fn, St.next, St.set, St.trim, wipe_eq, wipeE_app, wipeM_app, pickEnv, get?, cGet, upd_app, withPuts, killAll, rm, freshP, Oper.hnd, Sc.st, ofConst, constOk, lenAV, elemLen, loadAV, ldL, ld1, fieldAddrAV, indexAddrAV, sliceAV, convAV, buildAV, fillAV, fieldAV, Out.of, binAV, AV.rows, AV.one, AV.cells, AV.deepOk, AV.toD, toDs, partRows, partRowsM, partsDeep, TK.zeroAV, TK.zeroD, byteOf, inR, Op.operands, Call.operands, passVs, passV, passL, pass1, passB, pasVs, pasV, pasL, pas1, ownsOk, okHs, okHs2, okFin, finOk2, rho, over, backRes, backAV, backAV1, backBlk, putBack, back2, back2_V, back2_1, m2, AV.wipe, AV.wipeV, AV.wipe1, Blk.wipe, AV.hs, AV.hs.hsL, alOps, Con.start2, Con.pk, bodyQ, fini, resAV, resA, firstId, Sc.from, renEnv, renT, renV, renVs, renL, ren1, renBox, renOwn, okRen, clOf, actB, setRow, flatRows, flatD, noInv, shr_nil, shr_some, kStepF_some, shareL, AV.viewed, AV.viewed1, cSeekTreeS, Con.fn, tTab, cL4Ok, cL4Name, cL22Text]
  try dsimp only
  try simp +contextual [eStr, eFile, cast_succ, cast_eq, cast_zero, List.getElem?_eq_getElem, eStrs_set, eFiles_set, eStrs_rep, eFiles_rep, ← eStrs_append, ← eFiles_append, eStrs_take, eStrs_drop, eFiles_take, eFiles_drop, eStrs_snoc, eFiles_snoc, and_assoc, h4, treeSeekS]
  repeat' (first | intro _ | apply And.intro)
  all_goals first | omega | grind [all_take, treeSeekS, List.take_of_length_le]

theorem seek_eq (t : List FileD) (w : Str) : treeSeekI t w = treeSeekS t w := by
  unfold treeSeekI treeSeekS
  rw [tree_eq]
  by_cases h : nameB w = true
  · have hw : ∀ x ∈ w, wordB x.toNat = true := by
      simp only [nameB, Bool.and_eq_true, List.all_eq_true] at h
      exact h.2
    have : hitI w = hitS w := by
      funext f
      unfold hitI hitS anyOcc anyHas
      congr 1
      funext l
      have := has_occ (w := w) hw (r := l) (c := []) (by simp)
      unfold hasS
      rw [this]; rfl
    rw [this]
  · simp [h]

end Vx
end Go.Proofs.YtlhkmgbmnbkaeaaDoor
/-
  Contracts: marks in trees; the law FnExactSeekTree.
-/
namespace Go.Proofs.YtlhkmgbmnbkaeaaDoor
namespace Vx
open Go.RowKit
set_option maxRecDepth 8000

def kE (l : List FileD) (k : Int) : Int := k + l.length + nLines l
def markFs (t : List FileD) (k : Int) : List FileD := (List.range t.length).map fun i : Nat => ⟨markS (kE (t.take i) k), markL (t.getD i default).text.length (kE (t.take i) k + 1)⟩
theorem markFs_len (t : List FileD) (k : Int) : (markFs t k).length = t.length := by simp [markFs]
def mFA (t : List FileD) (k : Int) (i : Nat) : List FileD := (markFs t k).take i ++ t.drop i
theorem mFA_len {t : List FileD} {k : Int} {i : Nat} (h : i ≤ t.length) : (mFA t k i).length = t.length := by simp [mFA, markFs_len]; omega
theorem mFA_zero (t : List FileD) (k : Int) : mFA t k 0 = t := by simp [mFA]
theorem mFA_end {t : List FileD} {k : Int} {i : Nat} (h : t.length ≤ i) : mFA t k i = markFs t k := by
  unfold mFA
  rw [List.take_of_length_le (by rw [markFs_len]; exact h), List.drop_eq_nil_of_le h, List.append_nil]
theorem mFA_get {t : List FileD} {k : Int} {i : Nat} (h : i < t.length) : (mFA t k i)[i]? = some t[i] := by
  unfold mFA
  rw [List.getElem?_append_right (by simp [markFs_len]; omega), List.length_take, markFs_len, Nat.min_eq_left (by omega), Nat.sub_self, List.drop_eq_getElem_cons h]
  rfl
theorem mFA_set {t : List FileD} {k : Int} {i : Nat} (h : i < t.length) : (mFA t k i).set i ⟨markS (kE (t.take i) k), markL t[i].text.length (kE (t.take i) k + 1)⟩ = mFA t k (i + 1) := by
  unfold mFA
  have hl : i < (markFs t k).length := by rw [markFs_len]; exact h
  have hx : (markFs t k)[i] = ⟨markS (kE (t.take i) k), markL t[i].text.length (kE (t.take i) k + 1)⟩ := by simp [markFs, h]
  rw [List.set_append_right _ _ (by simp [markFs_len]; omega), List.length_take, markFs_len, Nat.min_eq_left (by omega), Nat.sub_self, List.drop_eq_getElem_cons h, List.set_cons_zero, List.take_succ_eq_append_getElem hl, hx]
  simp
theorem kE_step {t : List FileD} {k : Int} {i : Nat} (h : i < t.length) : kE (t.take (i + 1)) k = kE (t.take i) k + 1 + t[i].text.length := by
  unfold kE
  rw [nLines_take _ _ h]
  simp; omega
theorem kE_le {t : List FileD} {k : Int} (i : Nat) : k ≤ kE (t.take i) k ∧ kE (t.take i) k ≤ kE t k := by
  have h1 : nLines (t.take i) ≤ nLines t := by
    have : nLines t = nLines (t.take i) + nLines (t.drop i) := by
      unfold nLines
      rw [← List.sum_append, ← List.map_append, List.take_append_drop]
    omega
  have h2 : (t.take i).length ≤ t.length := by simp; omega
  unfold kE
  omega
theorem kE_zero (k : Int) : kE [] k = k := by simp [kE, nLines]

def cMarkFileS : Con := { A := List FileD × Int, X := Unit, n := 28, args := fun a => [.own 0 2 (eFiles a.1), .int .i64 a.2], boxes := fun _ => [], pre := fun a => 0 ≤ a.2 ∧ kE a.1 a.2 ≤ 1152921504606846976, post := fun _ _ => True, res := fun a _ => .int .i64 (kE a.1 a.2), fin := fun a _ => [(0, .own 32 2 true (eFiles (markFs a.1 a.2)))], owns := fun a => [(0, 32, 2, eFiles a.1)], lends := [0], mv := true, sube := 32 }
set_option maxHeartbeats 4000000 in
theorem markFileS_has : Has Tryd.prog 39 cMarkFileS := by
  refine has_walk mixed tTab_ok (l := [(92, cMarkText), (40, cMarkStringS)]) (HasL.cons markText_has (HasL.cons markStringS_has HasL.nil)) [0, 1, 4, 5] ((fun a n (_ : Nat) => (fun a _ => ⟨Nat, fun i => ⟨[(0, true, .own 0 2 (eFiles (mFA a.1 a.2 i))), (1, true, .int .i64 (kE (a.1.take i) a.2)), (4, true, .int .i64 0), (5, true, .int .i64 i)], [(0, .own 32 2 true (eFiles (mFA a.1 a.2 i)))]⟩, fun i => i ≤ a.1.length, fun i => a.1.length - i⟩) a n)) [] Tryd.func39 (by kernel_rfl) (code := _) (by unfold Tryd.f39; rfl) (by kernel_rfl) (by decide) (fun _ => ⟨(), trivial⟩) (by intro h; first | exact fun _ => rfl | cases h) (by kernel_rfl) ?_
  intro a ha
  obtain ⟨t, k⟩ := a
  obtain ⟨q1, q2⟩ : 0 ≤ k ∧ kE t k ≤ 1152921504606846976 := ha
  have e1 := fun i => @mFA_len t k i
  have e2 := fun i => @mFA_set t k i
  have e3 := mFA_zero t k
  have e4 := fun i => @mFA_end t k i
  have e5 := fun i => @mFA_get t k i
  have e6 := fun i => @kE_step t k i
  have e7 := fun i => @kE_le t k i
  have e8 := kE_zero k
  simp -implicitDefEqProofs [vc_skip, extOf, vc_seq, vc_cond, vc_block, vc_exit, vc_ret, vc_region, vc_regionD, vc_loop, kSeq_normal, kSeq_ret, kSeq_exit, kBlock_normal, kBlock_ret, kBlock_exit, kLoop_normal, kLoop_ret, kLoop_exit, kCond_bool, kNorm_app, vcOps_nil, vcOps_cons, kOps_app, kStep_some, kStep_none, vcDL_nil, vcDL_cons, kOpsD_app, kStepD_true, kStepD_false, kStepC_some, kStepC_none, kMv_app, act3_store, act3_call, act3_bs, kAct_app, kSt2_app, stealSlots, stealL, stealOne, subIn, AV.stolen, act_store, act_bs, act_append, act_call, kSet_app, kSet2_app, kSetG_app, kSetG_app0, kStore_ptr, kStore_eptr, kCallW_some, kCallC_some, kCall_some, wk_T, wk_n, wk_keep, wk_inv, wk_act, wk_dr, wk_le, aCalm, wantC, dstOk, calm, aCallK, aCall3K, subOf, subRep, aCall2K, apnd, bsMove, putBox, putOwn, partAV, mvL, AV.mv, AV.base, AV.moved, AV.src, TI.flat, apSize, pickAV, St.val, St.cond, St.fn, St.next, St.set, St.trim, wipe_eq, wipeE_app, wipeM_app, pickEnv, get?, cGet, upd_app, withPuts, killAll, rm, freshP, Oper.hnd, Sc.st, ofConst, constOk, lenAV, elemLen, loadAV, ldL, ld1, fieldAddrAV, indexAddrAV, sliceAV, convAV, buildAV, fillAV, fieldAV, Out.of, binAV, AV.rows, AV.one, AV.cells, AV.deepOk, AV.toD, toDs, partRows, partRowsM, partsDeep, TK.zeroAV, TK.zeroD, byteOf, inR, Op.operands, Call.operands, passVs, passV, passL, pass1, passB, pasVs, pasV, pasL, pas1, ownsOk, okHs, okHs2, okFin, finOk2, rho, over, backRes, backAV, backAV1, backBlk, putBack, back2, back2_V, back2_1, m2, AV.wipe, AV.wipeV, AV.wipe1, Blk.wipe, AV.hs, AV.hs.hsL, alOps, Con.start2, Con.pk, bodyQ, fini, resAV, resA, firstId, Sc.from, renEnv, renT, renV, renVs, renL, ren1, renBox, renOwn, okRen, clOf, actB, setRow, flatRows, flatD, noInv, shr_nil, shr_some, kStepF_some, shareL, AV.viewed, AV.viewed1, cMarkFileS, Con.fn, tTab, cMarkText, cMarkStringS, e3, e8]
  try dsimp only
  refine ⟨⟨0, by simp [e3, e8]⟩, fun i hi _ => ⟨fun hlt => ?_, fun hge => ?_⟩⟩
  · have hlt' : i < t.length := by rw [e1 i hi] at hlt; exact hlt
    have g1 := e5 i hlt'
    have g2 : ∀ r, ((eFiles (mFA t k i)).set i r)[i]? = some r := fun r => by
      rw [List.getElem?_set_self (by rw [eFiles_length]; exact hlt)]
    have g3 := e7 i
    have g4 := e6 i hlt'
    have g5 := e7 (i + 1)
    have g6 : (eFiles (mFA t k i)).set i [D.str (markS (kE (t.take i) k)), D.sl 9 1 (eStrs (markL t[i].text.length (kE (t.take i) k + 1)))] = eFiles (mFA t k (i + 1)) := by
      rw [← e2 i hlt', eFiles_set]
    have g7 := e1 (i + 1) (by omega)
    have g8 : (mFA t k i)[i] = t[i] := by rw [List.getElem?_eq_getElem hlt] at g1; exact Option.some.inj g1
    simp [g1, g2, eFile, D.asRows, e1 i hi, hlt', hlt, and_assoc]
    rw [g8]
    exact ⟨by omega, by omega, by omega, fun _ _ => ⟨by omega, by omega, by omega, by omega, fun _ _ => ⟨i + 1, g6.symm, by omega, by omega, g6, by omega, by omega⟩⟩⟩
  · rw [e1 i hi] at hge
    rw [e4 i hge, List.take_of_length_le hge]
    exact ⟨rfl, rfl⟩

theorem nLines_bd {B : Nat} (t : List FileD) (h : ∀ f ∈ t, f.text.length ≤ B) : nLines t ≤ B * t.length := by
  induction t with
  | nil => simp [nLines]
  | cons f r ih =>
    have h1 := h f (by simp)
    have h2 := ih (fun g hg => h g (by simp [hg]))
    simp [nLines, Nat.mul_add] at h2 ⊢
    omega
theorem held_mark (n : Nat) (k : Int) : heldL (markL n k) k = k + n := by
  unfold heldL
  rw [markL_len, if_pos rfl]

end Vx
end Go.Proofs.YtlhkmgbmnbkaeaaDoor
/-
  Contracts: copies of trees; ViewOf, both sides.
-/
namespace Go.Proofs.YtlhkmgbmnbkaeaaDoor
namespace Vx
open Go.RowKit
set_option maxRecDepth 8000

theorem eStrs_str {l : List Str} {x : List D} {d : D} (h : x ∈ eStrs l) (h' : d ∈ x) : ∃ s, d = D.str s := by
  simp only [eStrs, List.mem_map] at h
  obtain ⟨s, _, rfl⟩ := h
  simp only [eStr, List.mem_singleton] at h'
  exact ⟨s, h'⟩

def cCopyText : Con := .fn 6 (List Str) (fun a => [.sl true 1 (eStrs a)]) (fun a => a.length ≤ 1048576) (fun a => .own 8 1 (eStrs a)) (fun a => ownStrs 8 a)
set_option maxHeartbeats 4000000 in
theorem copyText_has : Has Tryd.prog 140 cCopyText := by
  refine has_walk mixed tTab_ok (l := []) HasL.nil [0, 2] ((fun a n (_ : Nat) => (fun _ => noInv) a n)) [] Tryd.func140 (by kernel_rfl) (code := _) (by unfold Tryd.f140; rfl) (by kernel_rfl) (by decide) (fun _ => ⟨(), trivial⟩) (by intro h; first | exact fun _ => rfl | cases h) (by kernel_rfl) ?_
  intro (a : List Str) ha
  replace ha : a.length ≤ 1048576 := ha
  simp -implicitDefEqProofs [vc_skip, extOf, vc_seq, vc_cond, vc_block, vc_exit, vc_ret, vc_region, vc_regionD, vc_loop, kSeq_normal, kSeq_ret, kSeq_exit, kBlock_normal, kBlock_ret, kBlock_exit, kLoop_normal, kLoop_ret, kLoop_exit, kCond_bool, kNorm_app, vcOps_nil, vcOps_cons, kOps_app, kStep_some, kStep_none, vcDL_nil, vcDL_cons, kOpsD_app, kStepD_true, kStepD_false, kStepC_some, kStepC_none, kMv_app, act3_store, act3_call, act3_bs, kAct_app, kSt2_app, stealSlots, stealL, stealOne, subIn, AV.stolen, act_store, act_bs, act_append, act_call, kSet_app, kSet2_app, kSetG_app, kSetG_app0, kStore_ptr, kStore_eptr, kCallW_some, kCallC_some, kCall_some, wk_T, wk_n, wk_keep, wk_inv, wk_act, wk_dr, wk_le, aCalm, wantC, dstOk, calm, aCallK, aCall3K, subOf, subRep, aCall2K, apnd, bsMove, putBox, putOwn, partAV, mvL, AV.mv, AV.base, AV.moved, AV.src, TI.flat, apSize, pickAV, St.val, St.cond, St.fn, St.next, St.set, St.trim, wipe_eq, wipeE_app, wipeM_app, pickEnv, get?, cGet, upd_app, withPuts, killAll, rm, freshP, Oper.hnd, Sc.st, ofConst, constOk, lenAV, elemLen, loadAV, ldL, ld1, fieldAddrAV, indexAddrAV, sliceAV, convAV, buildAV, fillAV, fieldAV, Out.of, binAV, AV.rows, AV.one, AV.cells, AV.deepOk, AV.toD, toDs, partRows, partRowsM, partsDeep, TK.zeroAV, TK.zeroD, byteOf, inR, Op.operands, Call.operands, passVs, passV, passL, pass1, passB, pasVs, pasV, pasL, pas1, ownsOk, okHs, okHs2, okFin, finOk2, rho, over, backRes, backAV, backAV1, backBlk, putBack, back2, back2_V, back2_1, m2, AV.wipe, AV.wipeV, AV.wipe1, Blk.wipe, AV.hs, AV.hs.hsL, alOps, Con.start2, Con.pk, bodyQ, fini, resAV, resA, firstId, Sc.from, renEnv, renT, renV, renVs, renL, ren1, renBox, renOwn, okRen, clOf, actB, setRow, flatRows, flatD, noInv, shr_nil, shr_some, kStepF_some, shareL, AV.viewed, AV.viewed1, cCopyText, Con.fn, tTab]
  try dsimp only
  try simp +contextual [eStr, eFile, cast_succ, cast_eq, cast_zero, List.getElem?_eq_getElem, eStrs_set, eFiles_set, eStrs_rep, eFiles_rep, ← eStrs_append, ← eFiles_append, eStrs_take, eStrs_drop, eFiles_take, eFiles_drop, eStrs_snoc, eFiles_snoc, and_assoc]
  repeat' (first | intro _ | apply And.intro)
  all_goals first | omega | grind [all_take, eStrs_str]

def cCopyTree : Con := .fn 23 (List FileD) (fun a => [.sl true 2 (eFiles a)]) (fun a => a.length ≤ 1048576 ∧ ∀ f ∈ a, f.text.length ≤ 1048576) (fun a => .own 8 2 (eFiles a)) (fun a => ownFiles 8 a)
set_option maxHeartbeats 4000000 in
theorem copyTree_has : Has Tryd.prog 83 cCopyTree := by
  refine has_walk mixed tTab_ok (l := [(140, cCopyText)]) (HasL.cons copyText_has HasL.nil) [0, 2, 3, 5, 6, 7, 8] ((fun a n (_ : Nat) => (fun a _ => ⟨Nat, fun i => ⟨[(2, true, .nil), (3, true, .own 9 2 (eFiles (a.take i))), (6, true, .sl true 2 (eFiles a)), (7, true, .int .i64 a.length), (8, true, .int .i64 i)], ownFiles 9 (a.take i)⟩, fun i => i ≤ a.length, fun i => a.length - i⟩) a n)) [19] Tryd.func83 (by kernel_rfl) (code := _) (by unfold Tryd.f83; rfl) (by kernel_rfl) (by decide) (fun _ => ⟨(), trivial⟩) (by intro h; first | exact fun _ => rfl | cases h) (by kernel_rfl) ?_
  intro (a : List FileD) ha
  obtain ⟨h1, h2⟩ : a.length ≤ 1048576 ∧ ∀ f ∈ a, f.text.length ≤ 1048576 := ha
  have h3 : ∀ i (h : i < a.length), a[i].text.length ≤ 1048576 := fun i h => h2 _ (List.getElem_mem h)
  simp -implicitDefEqProofs [vc_skip, extOf, vc_seq, vc_cond, vc_block, vc_exit, vc_ret, vc_region, vc_regionD, vc_loop, kSeq_normal, kSeq_ret, kSeq_exit, kBlock_normal, kBlock_ret, kBlock_exit, kLoop_normal, kLoop_ret, kLoop_exit, kCond_bool, kNorm_app, vcOps_nil, vcOps_cons, kOps_app, kStep_some, kStep_none, vcDL_nil, vcDL_cons, kOpsD_app, kStepD_true, kStepD_false, kStepC_some, kStepC_none, kMv_app, act3_store, act3_call, act3_bs, kAct_app, kSt2_app, stealSlots, stealL, stealOne, subIn, AV.stolen, act_store, act_bs, act_append, act_call, kSet_app, kSet2_app, kSetG_app, kSetG_app0, kStore_ptr, kStore_eptr, kCallW_some, kCallC_some, kCall_some, wk_T, wk_n, wk_keep, wk_inv, wk_act, wk_dr, wk_le, aCalm, wantC, dstOk, calm, aCallK, aCall3K, subOf, subRep, aCall2K, apnd, bsMove, putBox, putOwn, partAV, mvL, AV.mv, AV.base, AV.moved, AV.src, TI.flat, apSize, pickAV, St.val, St.cond, St.fn, St.next, St.set, St.trim, wipe_eq, wipeE_app, wipeM_app, pickEnv, get?, cGet, upd_app, withPuts, killAll, rm, freshP, Oper.hnd, Sc.st, ofConst, constOk, lenAV, elemLen, loadAV, ldL, ld1, fieldAddrAV, indexAddrAV, sliceAV, convAV, buildAV, fillAV, fieldAV, Out.of, binAV, AV.rows, AV.one, AV.cells, AV.deepOk, AV.toD, toDs, partRows, partRowsM, partsDeep, TK.zeroAV, TK.zeroD, byteOf, inR, Op.operands, Call.operands, passVs, passV, passL, pass1, passB, pasVs, pasV, pasL, pas1, ownsOk, okHs, okHs2, okFin, finOk2, rho, over, backRes, backAV, backAV1, backBlk, putBack, back2, back2_V, back2_1, m2, AV.wipe, AV.wipeV, AV.wipe1, Blk.wipe, AV.hs, AV.hs.hsL, alOps, Con.start2, Con.pk, bodyQ, fini, resAV, resA, firstId, Sc.from, renEnv, renT, renV, renVs, renL, ren1, renBox, renOwn, okRen, clOf, actB, setRow, flatRows, flatD, noInv, shr_nil, shr_some, kStepF_some, shareL, AV.viewed, AV.viewed1, cCopyTree, Con.fn, tTab, cCopyText]
  try dsimp only
  try simp +contextual [eStr, eFile, cast_succ, cast_eq, cast_zero, List.getElem?_eq_getElem, eStrs_set, eFiles_set, eStrs_rep, eFiles_rep, ← eStrs_append, ← eFiles_append, eStrs_take, eStrs_drop, eFiles_take, eFiles_drop, eStrs_snoc, eFiles_snoc, and_assoc, ← FileD.eq_iff]
  repeat' (first | intro _ | apply And.intro)
  all_goals first | omega | grind [all_take, List.take_of_length_le, List.take_succ_eq_append_getElem]

def cL4Copy : Con := .fn 29 (List FileD) (fun a => [.sl true 2 (eFiles a)]) (fun a => a.length ≤ 1048576 ∧ ∀ f ∈ a, f.text.length ≤ 1048576) (fun a => .own 8 2 (eFiles a)) (fun a => ownFiles 8 a)
set_option maxHeartbeats 4000000 in
theorem l4Copy_has : Has Tryd.prog 86 cL4Copy := by
  refine has_walk mixed tTab_ok (l := []) HasL.nil [0, 2, 3, 4] ((fun a n (_ : Nat) => (fun a _ => ⟨Nat, fun i => ⟨[(0, true, .sl true 2 (eFiles a)), (2, true, .nil), (3, true, .own 9 2 (eFiles (a.take i))), (4, true, .int .i64 i)], ownFiles 9 (a.take i)⟩, fun i => i ≤ a.length, fun i => a.length - i⟩) a n)) [26] Tryd.func86 (by kernel_rfl) (code := _) (by unfold Tryd.f86; rfl) (by kernel_rfl) (by decide) (fun _ => ⟨(), trivial⟩) (by intro h; first | exact fun _ => rfl | cases h) (by kernel_rfl) ?_
  intro (a : List FileD) ha
  obtain ⟨h1, h2⟩ : a.length ≤ 1048576 ∧ ∀ f ∈ a, f.text.length ≤ 1048576 := ha
  have h3 : ∀ i (h : i < a.length), a[i].text.length ≤ 1048576 := fun i h => h2 _ (List.getElem_mem h)
  simp -implicitDefEqProofs [vc_skip, extOf, vc_seq, vc_cond, vc_block, vc_exit, vc_ret, vc_region, vc_regionD, vc_loop, kSeq_normal, kSeq_ret, kSeq_exit, kBlock_normal, kBlock_ret, kBlock_exit, kLoop_normal, kLoop_ret, kLoop_exit, kCond_bool, kNorm_app, vcOps_nil, vcOps_cons, kOps_app, kStep_some, kStep_none, vcDL_nil, vcDL_cons, kOpsD_app, kStepD_true, kStepD_false, kStepC_some, kStepC_none, kMv_app, act3_store, act3_call, act3_bs, kAct_app, kSt2_app, stealSlots, stealL, stealOne, subIn, AV.stolen, act_store, act_bs, act_append, act_call, kSet_app, kSet2_app, kSetG_app, kSetG_app0, kStore_ptr, kStore_eptr, kCallW_some, kCallC_some, kCall_some, wk_T, wk_n, wk_keep, wk_inv, wk_act, wk_dr, wk_le, aCalm, wantC, dstOk, calm, aCallK, aCall3K, subOf, subRep, aCall2K, apnd, bsMove, putBox, putOwn, partAV, mvL, AV.mv, AV.base, AV.moved, AV.src, TI.flat, apSize, pickAV, St.val, St.cond, St.fn, St.next, St.set, St.trim, wipe_eq, wipeE_app, wipeM_app, pickEnv, get?, cGet, upd_app, withPuts, killAll, rm, freshP, Oper.hnd, Sc.st, ofConst, constOk, lenAV, elemLen, loadAV, ldL, ld1, fieldAddrAV, indexAddrAV, sliceAV, convAV, buildAV, fillAV, fieldAV, Out.of, binAV, AV.rows, AV.one, AV.cells, AV.deepOk, AV.toD, toDs, partRows, partRowsM, partsDeep, TK.zeroAV, TK.zeroD, byteOf, inR, Op.operands, Call.operands, passVs, passV, passL, pass1, passB, pasVs, pasV, pasL, pas1, ownsOk, okHs, okHs2, okFin, finOk2, rho, over, backRes, backAV, backAV1, backBlk, putBack, back2, back2_V, back2_1, m2, AV.wipe, AV.wipeV, AV.wipe1, Blk.wipe, AV.hs, AV.hs.hsL, alOps, Con.start2, Con.pk, bodyQ, fini, resAV, resA, firstId, Sc.from, renEnv, renT, renV, renVs, renL, ren1, renBox, renOwn, okRen, clOf, actB, setRow, flatRows, flatD, noInv, shr_nil, shr_some, kStepF_some, shareL, AV.viewed, AV.viewed1, cL4Copy, Con.fn, tTab]
  try dsimp only
  try simp +contextual [eStr, eFile, cast_succ, cast_eq, cast_zero, List.getElem?_eq_getElem, eStrs_set, eFiles_set, eStrs_rep, eFiles_rep, ← eStrs_append, ← eFiles_append, eStrs_take, eStrs_drop, eFiles_take, eFiles_drop, eStrs_snoc, eFiles_snoc, and_assoc, ← FileD.eq_iff]
  repeat' (first | intro _ | apply And.intro)
  all_goals first | omega | grind [all_take, eStrs_str, List.take_of_length_le, List.take_succ_eq_append_getElem]

def filB (p : FileD → Bool) (t : List FileD) : List FileD := t.filter p
theorem fil_hit {p : FileD → Bool} {t : List FileD} {i : Nat} (h : i < t.length) (hp : p t[i] = true) : filB p (t.take (i + 1)) = filB p (t.take i) ++ [t[i]] := by
  unfold filB
  rw [take_succ' h, List.filter_append]
  simp [List.filter_cons, hp]
theorem fil_miss {p : FileD → Bool} {t : List FileD} {i : Nat} (h : i < t.length) (hp : p t[i] = false) : filB p (t.take (i + 1)) = filB p (t.take i) := by
  unfold filB
  rw [take_succ' h, List.filter_append]
  simp [List.filter_cons, hp]
theorem fil_le (p : FileD → Bool) (t : List FileD) (i : Nat) : (filB p (t.take i)).length ≤ i := by
  have := List.length_filter_le p (t.take i)
  unfold filB
  simp at this; omega
theorem fil_nil (p : FileD → Bool) : filB p [] = [] := rfl

/-- A copy whose texts have gone, where p holds, ahead of i. -/
def goneR (p : FileD → Bool) (t : List FileD) (i : Nat) : List (List D) := (t.take i).map (fun f => if p f then [.str f.path, .junk] else eFile f) ++ eFiles (t.drop i)
theorem goneR_len (p : FileD → Bool) (t : List FileD) (i : Nat) : (goneR p t i).length = t.length := by simp [goneR]; omega
theorem goneR_zero (p : FileD → Bool) (t : List FileD) : goneR p t 0 = eFiles t := by simp [goneR]
theorem goneR_get {p : FileD → Bool} {t : List FileD} {i : Nat} (h : i < t.length) : (goneR p t i)[i]? = some (eFile t[i]) := by
  unfold goneR
  rw [List.getElem?_append_right (by simp; omega), List.length_map, List.length_take, Nat.min_eq_left (by omega), Nat.sub_self, eFiles_get, List.drop_eq_getElem_cons h]
  rfl
theorem goneR_miss {p : FileD → Bool} {t : List FileD} {i : Nat} (h : i < t.length) (hp : p t[i] = false) : goneR p t (i + 1) = goneR p t i := by
  unfold goneR
  rw [take_succ' h, List.map_append, List.drop_eq_getElem_cons h]
  simp only [List.map_cons, List.map_nil, hp, Bool.false_eq_true, if_false, eFiles, List.append_assoc, List.cons_append, List.nil_append]
theorem goneR_hit {p : FileD → Bool} {t : List FileD} {i : Nat} (h : i < t.length) (hp : p t[i] = true) : (goneR p t i).set i [.str t[i].path, .junk] = goneR p t (i + 1) := by
  unfold goneR
  rw [take_succ' h, List.map_append]
  rw [List.set_append_right _ _ (by simp; omega), List.length_map, List.length_take, Nat.min_eq_left (by omega), Nat.sub_self, List.drop_eq_getElem_cons h]
  simp only [List.map_cons, List.map_nil, hp, if_true, eFiles, List.append_assoc, List.cons_append, List.nil_append, List.set_cons_zero]

def viewOfI (t : List FileD) (l : List Str) : List FileD := if treeI t && viewI l then filB (fun f => visB f l) t else []
def cViewOfI : Con := .fn 32 (List FileD × List Str) (fun a => [.sl true 2 (eFiles a.1), .sl true 1 (eStrs a.2)]) (fun a => (∀ f ∈ a.1, f.path.length ≤ 536870912) ∧ ∀ q ∈ a.2, q.length ≤ 536870912) (fun a => .own 8 2 (eFiles (viewOfI a.1 a.2))) (fun a => ownFiles 8 (viewOfI a.1 a.2))
set_option maxHeartbeats 4000000 in
theorem viewOfI_has : Has Tryd.prog 27 cViewOfI := by
  refine has_walk mixed tTab_ok (l := [(18, cTreeOk), (82, cViewOk), (83, cCopyTree), (84, cVisible)]) (HasL.cons treeOk_has (HasL.cons viewOk_has (HasL.cons copyTree_has (HasL.cons visible_has HasL.nil)))) [0, 1, 4, 5, 7, 17, 18, 19] ((fun a n (_ : Nat) => (fun a _ => ⟨Nat, fun i => ⟨[(0, true, .sl true 2 (eFiles a.1)), (1, true, .sl true 1 (eStrs a.2)), (4, true, .nil), (5, true, .own 9 2 (eFiles (filB (fun f => visB f a.2) (a.1.take i)))), (17, true, .own 10 2 (goneR (fun f => visB f a.2) a.1 i)), (18, true, .int .i64 a.1.length), (19, true, .int .i64 i)], [(9, .own 32 2 true (eFiles (filB (fun f => visB f a.2) (a.1.take i)))), (10, .own 32 2 true (goneR (fun f => visB f a.2) a.1 i))]⟩, fun i => i ≤ a.1.length ∧ treeI a.1 = true ∧ viewI a.2 = true, fun i => a.1.length - i⟩) a n)) [28] Tryd.func27 (by kernel_rfl) (code := _) (by unfold Tryd.f27; rfl) (by kernel_rfl) (by decide) (fun _ => ⟨(), trivial⟩) (by intro h; first | exact fun _ => rfl | cases h) (by kernel_rfl) ?_
  intro a ha
  obtain ⟨t, l⟩ := a
  obtain ⟨q0, q1⟩ : (∀ f ∈ t, f.path.length ≤ 536870912) ∧ ∀ q ∈ l, q.length ≤ 536870912 := ha
  have h1 := treeI_le t
  simp -implicitDefEqProofs [vc_skip, extOf, vc_seq, vc_cond, vc_block, vc_exit, vc_ret, vc_region, vc_regionD, vc_loop, kSeq_normal, kSeq_ret, kSeq_exit, kBlock_normal, kBlock_ret, kBlock_exit, kLoop_normal, kLoop_ret, kLoop_exit, kCond_bool, kNorm_app, vcOps_nil, vcOps_cons, kOps_app, kStep_some, kStep_none, vcDL_nil, vcDL_cons, kOpsD_app, kStepD_true, kStepD_false, kStepC_some, kStepC_none, kMv_app, act3_store, act3_call, act3_bs, kAct_app, kSt2_app, stealSlots, stealL, stealOne, subIn, AV.stolen, act_store, act_bs, act_append, act_call, kSet_app, kSet2_app, kSetG_app, kSetG_app0, kStore_ptr, kStore_eptr, kCallW_some, kCallC_some, kCall_some, wk_T, wk_n, wk_keep, wk_inv, wk_act, wk_dr, wk_le, aCalm, wantC, dstOk, calm, aCallK, aCall3K, subOf, subRep, aCall2K, apnd, bsMove, putBox, putOwn, partAV, mvL, AV.mv, AV.base, AV.moved, AV.src, TI.flat, apSize, pickAV, St.val, St.cond, St.fn, St.next, St.set, St.trim, wipe_eq, wipeE_app, wipeM_app, pickEnv, get?, cGet, upd_app, withPuts, killAll, rm, freshP, Oper.hnd, Sc.st, ofConst, constOk, lenAV, elemLen, loadAV, ldL, ld1, fieldAddrAV, indexAddrAV, sliceAV, convAV, buildAV, fillAV, fieldAV, Out.of, binAV, AV.rows, AV.one, AV.cells, AV.deepOk, AV.toD, toDs, partRows, partRowsM, partsDeep, TK.zeroAV, TK.zeroD, byteOf, inR, Op.operands, Call.operands, passVs, passV, passL, pass1, passB, pasVs, pasV, pasL, pas1, ownsOk, okHs, okHs2, okFin, finOk2, rho, over, backRes, backAV, backAV1, backBlk, putBack, back2, back2_V, back2_1, m2, AV.wipe, AV.wipeV, AV.wipe1, Blk.wipe, AV.hs, AV.hs.hsL, alOps, Con.start2, Con.pk, bodyQ, fini, resAV, resA, firstId, Sc.from, renEnv, renT, renV, renVs, renL, ren1, renBox, renOwn, okRen, clOf, actB, setRow, flatRows, flatD, noInv, shr_nil, shr_some, kStepF_some, shareL, AV.viewed, AV.viewed1, cViewOfI, Con.fn, tTab, cTreeOk, cViewOk, cCopyTree, cVisible]
  try dsimp only
  generalize hp : (fun f => visB f l) = p
  have hpv : ∀ f, visB f l = p f := fun f => by rw [← hp]
  have hI : ∀ x, treeI t = true → viewI l = true → x = filB p t → viewOfI t l = x := fun x a b c => by unfold viewOfI; rw [a, b, hp, c]; rfl
  have hF1 : treeI t = false → viewOfI t l = [] := fun h => by unfold viewOfI; rw [h]; rfl
  have hF2 : viewI l = false → viewOfI t l = [] := fun h => by unfold viewOfI; rw [h]; simp
  refine ⟨q0, hF1, fun hT => ⟨q1, hF2, fun hV => ⟨⟨by have := h1 hT; omega, fun f hf => by have := (h1 hT).2 f hf; omega⟩, fun _ => ⟨⟨0, by simp [goneR_zero, fil_nil, hT, hV]⟩, fun i hi _ _ => ⟨fun hlt => ?_, fun hge => ?_⟩⟩⟩⟩⟩
  · have g1 := goneR_get (p := p) hlt
    have g2 := goneR_len p t i
    have g3 := fil_le p t i
    have g4 := (h1 hT).1
    have g5 : (goneR p t i)[i]'(by rw [g2]; exact hlt) = eFile t[i] := by
      have := g1
      rw [List.getElem?_eq_getElem (by rw [g2]; exact hlt)] at this
      exact Option.some.inj this
    simp [g1, g5, g2, eFile, D.asStr, D.asRows, hlt, and_assoc, hpv]
    refine ⟨q1, fun hh => ⟨by omega, by omega, by omega, by omega, fun _ _ => ?_⟩, fun hh => ⟨by omega, by omega, fun _ _ => ?_⟩⟩
    · have e1 := fil_hit (p := p) hlt hh
      have e2 := goneR_hit (p := p) hlt hh
      have e3 : eFiles (filB p (t.take (i + 1))) = eFiles (filB p (t.take i)) ++ [[D.str t[i].path, D.sl 9 1 (eStrs t[i].text)]] := by rw [e1, eFiles_append]; rfl
      exact ⟨i + 1, e3, e2.symm, by omega, e3.symm, e2, by omega, hT, hV, by omega⟩
    · have e1 := fil_miss (p := p) hlt hh
      have e2 := goneR_miss (p := p) hlt hh
      exact ⟨i + 1, e1, e2, by omega, e1.symm, e2.symm, by omega, hT, hV, by omega⟩
  · have e1 := hI (filB p (t.take i)) hT hV (by rw [List.take_of_length_le hge])
    exact ⟨e1, e1.symm⟩

end Vx
end Go.Proofs.YtlhkmgbmnbkaeaaDoor
/-
  Contracts: a file put into a tree (the reference's).
-/
namespace Go.Proofs.YtlhkmgbmnbkaeaaDoor
namespace Vx
open Go.RowKit
set_option maxRecDepth 8000

def setStep (f : FileD) (acc : List FileD × Bool) (g : FileD) : List FileD × Bool :=
  if acc.2 = false ∧ Go.Op.bytesLess g.path f.path = false then (if g.path = f.path then (acc.1 ++ [f], true) else (acc.1 ++ [f] ++ [g], true))
  else (if g.path = f.path then acc else (acc.1 ++ [g], acc.2))
def setL (f : FileD) (l : List FileD) : List FileD × Bool := l.foldl (setStep f) ([], false)
def setS (t : List FileD) (f : FileD) : List FileD := if (setL f t).2 then (setL f t).1 else (setL f t).1 ++ [f]
theorem setL_succ {f : FileD} {t : List FileD} {i : Nat} (h : i < t.length) : setL f (t.take (i + 1)) = setStep f (setL f (t.take i)) t[i] := by
  unfold setL
  rw [take_succ' h, List.foldl_append]; rfl
theorem setStep_len (f : FileD) (acc : List FileD × Bool) (g : FileD) : (setStep f acc g).1.length + acc.2.toNat ≤ acc.1.length + (setStep f acc g).2.toNat + 1 := by
  unfold setStep
  split
  · rename_i h
    rw [h.1]
    split <;> simp <;> omega
  · split <;> simp <;> omega
theorem setL_len (f : FileD) (t : List FileD) : (setL f t).1.length ≤ t.length + (setL f t).2.toNat := by
  have : ∀ (t : List FileD) (acc : List FileD × Bool), (t.foldl (setStep f) acc).1.length + acc.2.toNat ≤ acc.1.length + t.length + (t.foldl (setStep f) acc).2.toNat := by
    intro t
    induction t with
    | nil => intro acc; simp
    | cons g r ih =>
      intro acc
      have h1 := ih (setStep f acc g)
      have h2 := setStep_len f acc g
      simp only [List.foldl_cons, List.length_cons]
      omega
  have := this t ([], false)
  simpa [setL] using this
theorem setL_mem (f : FileD) (t : List FileD) : ∀ g ∈ (setL f t).1, g ∈ t ∨ g = f := by
  have : ∀ (t : List FileD) (acc : List FileD × Bool), ∀ g ∈ (t.foldl (setStep f) acc).1, g ∈ acc.1 ∨ g ∈ t ∨ g = f := by
    intro t
    induction t with
    | nil => intro acc g hg; exact .inl hg
    | cons x r ih =>
      intro acc g hg
      rcases ih (setStep f acc x) g hg with h | h | h
      · unfold setStep at h
        split at h
        · split at h
          · simp at h; rcases h with h | h
            · exact .inl h
            · exact .inr (.inr h)
          · simp at h; rcases h with h | h | h
            · exact .inl h
            · exact .inr (.inr h)
            · exact .inr (.inl (by simp [h]))
        · split at h
          · exact .inl h
          · simp at h; rcases h with h | h
            · exact .inl h
            · exact .inr (.inl (by simp [h]))
      · exact .inr (.inl (by simp [h]))
      · exact .inr (.inr h)
  intro g hg
  rcases this t ([], false) g hg with h | h
  · simp at h
  · exact h
theorem setS_len (t : List FileD) (f : FileD) : (setS t f).length ≤ t.length + 1 := by
  have := setL_len f t
  unfold setS
  split
  · rename_i h; rw [h] at this; simpa using this
  · rename_i h
    have h : (setL f t).2 = false := by simpa using h
    rw [h] at this; simp at this ⊢; omega
theorem setS_mem (t : List FileD) (f : FileD) : ∀ g ∈ setS t f, g ∈ t ∨ g = f := by
  intro g hg
  unfold setS at hg
  split at hg
  · exact setL_mem f t g hg
  · rcases List.mem_append.1 hg with h | h
    · exact setL_mem f t g h
    · simp at h; exact .inr h

def cL4Set : Con := .fn 65 (List FileD × FileD) (fun a => [.sl true 2 (eFiles a.1), .agg [.str a.2.path, .sl true 1 (eStrs a.2.text)]]) (fun a => a.1.length ≤ 1048576 ∧ a.2.text.length ≤ 1048576) (fun a => .sl false 2 (eFiles (setS a.1 a.2))) (fun _ => [])
set_option maxHeartbeats 4000000 in
theorem l4Set_has : Has Tryd.prog 91 cL4Set := by
  refine has_walk mixed tTab_ok (l := []) HasL.nil [0, 1, 3, 4, 5, 6, 7] ((fun a n (_ : Nat) => (fun a _ => ⟨Nat, fun i => ⟨[(0, true, .sl true 2 (eFiles a.1)), (3, true, .ptr 10 0), (4, true, .nil), (5, true, .own 9 2 (eFiles (setL a.2 (a.1.take i)).1)), (6, true, .bool (setL a.2 (a.1.take i)).2), (7, true, .int .i64 i)], [(10, .box 32 [.str a.2.path, .sl true 1 (eStrs a.2.text)]), (9, .own 32 2 false (eFiles (setL a.2 (a.1.take i)).1))]⟩, fun i => i ≤ a.1.length, fun i => a.1.length - i⟩) a n)) [35, 62] Tryd.func91 (by kernel_rfl) (code := _) (by unfold Tryd.f91; rfl) (by kernel_rfl) (by decide) (fun _ => ⟨(), trivial⟩) (by intro h; first | exact fun _ => rfl | cases h) (by kernel_rfl) ?_
  intro a ha
  obtain ⟨t, f⟩ := a
  obtain ⟨q1, q2⟩ : t.length ≤ 1048576 ∧ f.text.length ≤ 1048576 := ha
  have a0 : setL f [] = ([], false) := rfl
  have a1 : ∀ i (h : i < t.length), (setL f (t.take i)).2 = true → ¬ t[i].path = f.path → setL f (t.take (i + 1)) = ((setL f (t.take i)).1 ++ [t[i]], true) := fun i h h1 h2 => by rw [setL_succ h]; simp [setStep, h1, h2]
  have a2 : ∀ i (h : i < t.length), (setL f (t.take i)).2 = true → t[i].path = f.path → setL f (t.take (i + 1)) = ((setL f (t.take i)).1, true) := fun i h h1 h2 => by rw [setL_succ h]; unfold setStep; rw [if_neg (by simp [h1]), if_pos h2]; exact Prod.ext rfl h1
  have a3 : ∀ i (h : i < t.length), (setL f (t.take i)).2 = false → Go.Op.bytesLess t[i].path f.path = false → ¬ t[i].path = f.path → setL f (t.take (i + 1)) = ((setL f (t.take i)).1 ++ [f] ++ [t[i]], true) := fun i h h1 h3 h2 => by rw [setL_succ h]; simp [setStep, h1, h2, h3]
  have a4 : ∀ i (h : i < t.length), (setL f (t.take i)).2 = false → Go.Op.bytesLess t[i].path f.path = false → t[i].path = f.path → setL f (t.take (i + 1)) = ((setL f (t.take i)).1 ++ [f], true) := fun i h h1 h3 h2 => by rw [setL_succ h]; rw [h2] at h3; simp [setStep, h1, h2, h3]
  have a5 : ∀ i (h : i < t.length), (setL f (t.take i)).2 = false → Go.Op.bytesLess t[i].path f.path = true → ¬ t[i].path = f.path → setL f (t.take (i + 1)) = ((setL f (t.take i)).1 ++ [t[i]], false) := fun i h h1 h3 h2 => by rw [setL_succ h]; simp [setStep, h1, h2, h3]
  have a6 : ∀ i (h : i < t.length), (setL f (t.take i)).2 = false → Go.Op.bytesLess t[i].path f.path = true → t[i].path = f.path → setL f (t.take (i + 1)) = ((setL f (t.take i)).1, false) := fun i h h1 h3 h2 => by rw [setL_succ h]; unfold setStep; rw [if_neg (by simp [h3]), if_pos h2]; exact Prod.ext rfl h1
  have a7 : ∀ i, (setL f (t.take i)).1.length ≤ 1048577 := fun i => by
    have h1 := setL_len f (t.take i)
    have h2 := Bool.toNat_le (setL f (t.take i)).2
    have h3 : (t.take i).length ≤ t.length := by simp; omega
    omega
  have a8 : (setL f t).2 = true → setS t f = (setL f t).1 := fun h => by simp [setS, h]
  have a9 : (setL f t).2 = false → setS t f = (setL f t).1 ++ [f] := fun h => by simp [setS, h]
  simp -implicitDefEqProofs [vc_skip, extOf, vc_seq, vc_cond, vc_block, vc_exit, vc_ret, vc_region, vc_regionD, vc_loop, kSeq_normal, kSeq_ret, kSeq_exit, kBlock_normal, kBlock_ret, kBlock_exit, kLoop_normal, kLoop_ret, kLoop_exit, kCond_bool, kNorm_app, vcOps_nil, vcOps_cons, kOps_app, kStep_some, kStep_none, vcDL_nil, vcDL_cons, kOpsD_app, kStepD_true, kStepD_false, kStepC_some, kStepC_none, kMv_app, act3_store, act3_call, act3_bs, kAct_app, kSt2_app, stealSlots, stealL, stealOne, subIn, AV.stolen, act_store, act_bs, act_append, act_call, kSet_app, kSet2_app, kSetG_app, kSetG_app0, kStore_ptr, kStore_eptr, kCallW_some, kCallC_some, kCall_some, wk_T, wk_n, wk_keep, wk_inv, wk_act, wk_dr, wk_le, aCalm, wantC, dstOk, calm, aCallK, aCall3K, subOf, subRep, aCall2K, apnd, bsMove, putBox, putOwn, partAV, mvL, AV.mv, AV.base, AV.moved, AV.src, TI.flat, apSize, pickAV, St.val, St.cond, St.fn, St.next, St.set, St.trim, wipe_eq, wipeE_app, wipeM_app, pickEnv, get?, cGet, upd_app, withPuts, killAll, rm, freshP, Oper.hnd, Sc.st, ofConst, constOk, lenAV, elemLen, loadAV, ldL, ld1, fieldAddrAV, indexAddrAV, sliceAV, convAV, buildAV, fillAV, fieldAV, Out.of, binAV, AV.rows, AV.one, AV.cells, AV.deepOk, AV.toD, toDs, partRows, partRowsM, partsDeep, TK.zeroAV, TK.zeroD, byteOf, inR, Op.operands, Call.operands, passVs, passV, passL, pass1, passB, pasVs, pasV, pasL, pas1, ownsOk, okHs, okHs2, okFin, finOk2, rho, over, backRes, backAV, backAV1, backBlk, putBack, back2, back2_V, back2_1, m2, AV.wipe, AV.wipeV, AV.wipe1, Blk.wipe, AV.hs, AV.hs.hsL, alOps, Con.start2, Con.pk, bodyQ, fini, resAV, resA, firstId, Sc.from, renEnv, renT, renV, renVs, renL, ren1, renBox, renOwn, okRen, clOf, actB, setRow, flatRows, flatD, noInv, shr_nil, shr_some, kStepF_some, shareL, AV.viewed, AV.viewed1, cL4Set, Con.fn, tTab]
  try dsimp only
  have b1 : ∀ (X : List FileD) (g : FileD), eFiles X ++ [[D.str f.path, D.sl 9 1 (eStrs f.text)], [D.str g.path, D.sl 9 1 (eStrs g.text)]] = eFiles (X ++ [f] ++ [g]) := fun X g => by simp [eFiles, eFile]
  refine ⟨⟨0, by simp [a0]⟩, ?_⟩
  try simp +contextual [eStr, eFile, cast_succ, cast_eq, cast_zero, List.getElem?_eq_getElem, eStrs_set, eFiles_set, eStrs_rep, eFiles_rep, ← eStrs_append, ← eFiles_append, eStrs_take, eStrs_drop, eFiles_take, eFiles_drop, eStrs_snoc, eFiles_snoc, and_assoc, b1, ← FileD.eq_iff]
  repeat' (first | intro _ | apply And.intro)
  all_goals first | omega | grind [all_take, eStrs_str, List.take_of_length_le]

end Vx
end Go.Proofs.YtlhkmgbmnbkaeaaDoor
/-
  Contracts: a file put into a tree (the program's); ViewPut, both sides.
-/
namespace Go.Proofs.YtlhkmgbmnbkaeaaDoor
namespace Vx
open Go.RowKit
set_option maxRecDepth 8000

def putKat (t : List FileD) (p : Str) : Nat → Nat
  | 0 => 0
  | k + 1 => if Go.Op.bytesLess (t.getD k default).path p then k + 1 else putKat t p k
def putK (t : List FileD) (p : Str) : Nat := putKat t p t.length
def putI (t : List FileD) (f : FileD) : List FileD × Bool :=
  if putK t f.path < t.length ∧ (t.getD (putK t f.path) default).path = f.path then (t.set (putK t f.path) f, false) else (insAtF t (putK t f.path) f, true)
theorem putKat_le (t : List FileD) (p : Str) : ∀ k, putKat t p k ≤ k := by
  intro k
  induction k with
  | zero => exact Nat.le_refl _
  | succ k ih => unfold putKat; split <;> omega
theorem putK_le (t : List FileD) (p : Str) : putK t p ≤ t.length := putKat_le t p _
theorem putI_len (t : List FileD) (f : FileD) : (putI t f).1.length ≤ t.length + 1 := by
  have := putK_le t f.path
  unfold putI
  split <;> simp [insAtF] <;> omega
theorem putI_mem (t : List FileD) (f : FileD) : ∀ g ∈ (putI t f).1, g ∈ t ∨ g = f := by
  intro g hg
  unfold putI at hg
  split at hg
  · exact List.mem_or_eq_of_mem_set hg
  · simp only [insAtF, List.mem_append, List.mem_cons] at hg
    rcases hg with h | h | h
    · exact .inl (List.mem_of_mem_take h)
    · exact .inr h
    · exact .inl (List.mem_of_mem_drop h)

theorem eFiles_one (b : FileD) (p : Str) (x : List Str) : (eFiles [b] = [[D.str p, D.sl 9 1 (eStrs x)]]) = (b = ⟨p, x⟩) := by
  obtain ⟨q, y⟩ := b
  simp [eFiles, eFile]
theorem eFiles_one' (b : FileD) (p : Str) (x : List Str) : ([[D.str p, D.sl 9 1 (eStrs x)]] = eFiles [b]) = (b = ⟨p, x⟩) := by
  rw [← eFiles_one]; exact propext ⟨Eq.symm, Eq.symm⟩

def cPut : Con := .fn 58 (List FileD × FileD) (fun a => [.sl true 2 (eFiles a.1), .agg [.str a.2.path, .sl true 1 (eStrs a.2.text)]]) (fun a => (a.1.length ≤ 1048576 ∧ ∀ f ∈ a.1, f.text.length ≤ 1048576) ∧ a.2.text.length ≤ 1048576) (fun a => .tup [.own 8 2 (eFiles (putI a.1 a.2).1), .bool (putI a.1 a.2).2]) (fun a => ownFiles 8 (putI a.1 a.2).1)
set_option maxHeartbeats 4000000 in
theorem put_has : Has Tryd.prog 88 cPut := by
  refine has_walk mixed tTab_ok (l := [(83, cCopyTree), (140, cCopyText), (143, cInsF)]) (HasL.cons copyTree_has (HasL.cons copyText_has (HasL.cons insF_has HasL.nil))) [0, 1, 3, 4, 5, 6, 7, 8] ((fun a n (_ : Nat) => (fun a _ => ⟨Nat, fun k => ⟨[(3, true, .ptr 10 0), (4, true, .nil), (5, true, .bool false), (6, true, .own 9 2 (eFiles a.1)), (7, true, .int .i64 k)], [(10, .box 32 [.str a.2.path, .sl true 1 (eStrs a.2.text)]), (9, .own 32 2 true (eFiles a.1))]⟩, fun k => k ≤ a.1.length ∧ putKat a.1 a.2.path k = putK a.1 a.2.path, fun k => k⟩) a n)) [] Tryd.func88 (by kernel_rfl) (code := _) (by unfold Tryd.f88; rfl) (by kernel_rfl) (by decide) (fun _ => ⟨(), trivial⟩) (by intro h; first | exact fun _ => rfl | cases h) (by kernel_rfl) ?_
  intro a ha
  obtain ⟨t, f⟩ := a
  obtain ⟨⟨q1, q2⟩, q3⟩ : (t.length ≤ 1048576 ∧ ∀ f ∈ t, f.text.length ≤ 1048576) ∧ f.text.length ≤ 1048576 := ha
  have g0 : putKat t f.path 0 = 0 := rfl
  have g1 : ∀ k, 0 < k → (h : k - 1 < t.length) → Go.Op.bytesLess t[k - 1].path f.path = false → putKat t f.path (k - 1) = putKat t f.path k := fun k h0 h hb => by
    obtain ⟨j, rfl⟩ : ∃ j, k = j + 1 := ⟨k - 1, by omega⟩
    simp only [Nat.add_sub_cancel] at h hb ⊢
    rw [putKat, if_neg (by simp [List.getD_eq_getElem?_getD, h, hb])]
  have g2 : ∀ k, 0 < k → (h : k - 1 < t.length) → Go.Op.bytesLess t[k - 1].path f.path = true → putKat t f.path k = k := fun k h0 h hb => by
    obtain ⟨j, rfl⟩ : ∃ j, k = j + 1 := ⟨k - 1, by omega⟩
    simp only [Nat.add_sub_cancel] at h hb
    rw [putKat, if_pos (by simp [List.getD_eq_getElem?_getD, h, hb])]
  have g3 : ∀ k (h : k < t.length), k = putK t f.path → t[k].path = f.path → putI t f = (t.set k f, false) := fun k h hk hp => by
    unfold putI
    rw [← hk, if_pos (by simp [List.getD_eq_getElem?_getD, h, hp])]
  have g4 : ∀ k, k = putK t f.path → (∀ h : k < t.length, ¬ t[k].path = f.path) → putI t f = (insAtF t k f, true) := fun k hk hp => by
    unfold putI
    rw [← hk, if_neg]
    rintro ⟨h, h2⟩
    exact hp h (by simpa [List.getD_eq_getElem?_getD, h] using h2)
  simp -implicitDefEqProofs [vc_skip, extOf, vc_seq, vc_cond, vc_block, vc_exit, vc_ret, vc_region, vc_regionD, vc_loop, kSeq_normal, kSeq_ret, kSeq_exit, kBlock_normal, kBlock_ret, kBlock_exit, kLoop_normal, kLoop_ret, kLoop_exit, kCond_bool, kNorm_app, vcOps_nil, vcOps_cons, kOps_app, kStep_some, kStep_none, vcDL_nil, vcDL_cons, kOpsD_app, kStepD_true, kStepD_false, kStepC_some, kStepC_none, kMv_app, act3_store, act3_call, act3_bs, kAct_app, kSt2_app, stealSlots, stealL, stealOne, subIn, AV.stolen, act_store, act_bs, act_append, act_call, kSet_app, kSet2_app, kSetG_app, kSetG_app0, kStore_ptr, kStore_eptr, kCallW_some, kCallC_some, kCall_some, wk_T, wk_n, wk_keep, wk_inv, wk_act, wk_dr, wk_le, aCalm, wantC, dstOk, calm, aCallK, aCall3K, subOf, subRep, aCall2K, apnd, bsMove, putBox, putOwn, partAV, mvL, AV.mv, AV.base, AV.moved, AV.src, TI.flat, apSize, pickAV, St.val, St.cond, St.fn, St.next, St.set, St.trim, wipe_eq, wipeE_app, wipeM_app, pickEnv, get?, cGet, upd_app, withPuts, killAll, rm, freshP, Oper.hnd, Sc.st, ofConst, constOk, lenAV, elemLen, loadAV, ldL, ld1, fieldAddrAV, indexAddrAV, sliceAV, convAV, buildAV, fillAV, fieldAV, Out.of, binAV, AV.rows, AV.one, AV.cells, AV.deepOk, AV.toD, toDs, partRows, partRowsM, partsDeep, TK.zeroAV, TK.zeroD, byteOf, inR, Op.operands, Call.operands, passVs, passV, passL, pass1, passB, pasVs, pasV, pasL, pas1, ownsOk, okHs, okHs2, okFin, finOk2, rho, over, backRes, backAV, backAV1, backBlk, putBack, back2, back2_V, back2_1, m2, AV.wipe, AV.wipeV, AV.wipe1, Blk.wipe, AV.hs, AV.hs.hsL, alOps, Con.start2, Con.pk, bodyQ, fini, resAV, resA, firstId, Sc.from, renEnv, renT, renV, renVs, renL, ren1, renBox, renOwn, okRen, clOf, actB, setRow, flatRows, flatD, noInv, shr_nil, shr_some, kStepF_some, shareL, AV.viewed, AV.viewed1, cPut, cCopyTree, cCopyText, cInsF, Con.fn, tTab, eFiles_one, eFiles_one']
  try dsimp only
  have tl : ∀ k, k ≤ t.length → k = putK t f.path → ∀ P : Prop, (∀ (e3 : ∀ h : k < t.length, t[k].path = f.path → putI t f = (t.set k f, false)) (e4 : (∀ h : k < t.length, ¬ t[k].path = f.path) → putI t f = (insAtF t k f, true)), P) → P := fun k hk kk P h => h (fun h => g3 k h kk) (g4 k kk)
  refine ⟨⟨q1, q2⟩, fun _ => ⟨⟨t.length, rfl, Nat.le_refl _, rfl⟩, fun k hk hp => ⟨fun h0 => ⟨⟨by omega, by omega⟩, fun _ _ => ⟨⟨by omega, by omega⟩, fun _ _ => ⟨?_, fun _ _ => ⟨fun hb => ⟨⟨by omega, by omega⟩, fun _ _ => ⟨k - 1, by omega, ⟨by omega, ?_⟩, by omega⟩⟩, fun hb => ?_⟩⟩⟩⟩, fun h0 => ?_⟩⟩⟩
  · have hlt : k - 1 < t.length := by omega
    simp [hlt, eFile]
  · have hlt : k - 1 < t.length := by omega
    rw [g1 k h0 hlt (by simpa [hlt, eFile] using hb), hp]
  · have hlt : k - 1 < t.length := by omega
    have kk : k = putK t f.path := by rw [← hp]; exact (g2 k h0 hlt (by simpa [hlt, eFile] using hb)).symm
    refine tl k hk kk _ fun e3 e4 => ?_
    refine ⟨q3, fun hlt => ⟨hlt, fun _ => ⟨by simp [hlt, eFile], fun _ _ => ⟨fun hpp => ?_, fun hpp => ?_⟩⟩⟩, fun hge => ?_⟩
    · rw [e3 hlt (by simpa [hlt, eFile] using hpp)]
      exact ⟨hlt, fun _ => ⟨hlt, ⟨(eFiles_set t k f.path f.text).symm, rfl⟩, eFiles_set t k f.path f.text⟩⟩
    · rw [e4 fun h => by simpa [hlt, eFile] using hpp]
      exact ⟨t, k, f, ⟨rfl, rfl, rfl⟩, ⟨rfl, rfl⟩, ⟨hk, q1⟩, ⟨rfl, rfl⟩, rfl⟩
    · rw [e4 fun h => absurd h (by omega)]
      exact ⟨t, k, f, ⟨rfl, rfl, rfl⟩, ⟨rfl, rfl⟩, ⟨hk, q1⟩, ⟨rfl, rfl⟩, rfl⟩
  · have kk : k = putK t f.path := by rw [← hp, h0]; exact g0.symm
    refine tl k hk kk _ fun e3 e4 => ?_
    refine ⟨q3, fun hlt => ⟨hlt, fun _ => ⟨by simp [hlt, eFile], fun _ _ => ⟨fun hpp => ?_, fun hpp => ?_⟩⟩⟩, fun hge => ?_⟩
    · rw [e3 hlt (by simpa [hlt, eFile] using hpp)]
      exact ⟨hlt, fun _ => ⟨hlt, ⟨(eFiles_set t k f.path f.text).symm, rfl⟩, eFiles_set t k f.path f.text⟩⟩
    · rw [e4 fun h => by simpa [hlt, eFile] using hpp]
      exact ⟨t, k, f, ⟨rfl, rfl, rfl⟩, ⟨rfl, rfl⟩, ⟨hk, q1⟩, ⟨rfl, rfl⟩, rfl⟩
    · rw [e4 fun h => absurd h (by omega)]
      exact ⟨t, k, f, ⟨rfl, rfl, rfl⟩, ⟨rfl, rfl⟩, ⟨hk, q1⟩, ⟨rfl, rfl⟩, rfl⟩

def cChanged : Con := { A := List FileD × List FileD, X := Unit, n := 12, args := fun a => [.sl true 2 (eFiles a.1), .own 0 2 (eFiles a.2)], boxes := fun _ => [], pre := fun a => (a.1.length ≤ 1048576 ∧ ∀ f ∈ a.1, f.text.length ≤ 1048576) ∧ ∀ f ∈ a.2, f.path.length ≤ 536870912, post := fun _ _ => True, res := fun a _ => .tup [.own 8 2 (eFiles (if treeI a.2 then a.2 else a.1)), .bool (treeI a.2)], fin := fun a _ => ownFiles 8 (if treeI a.2 then a.2 else a.1), owns := fun a => [(0, 32, 2, eFiles a.2)], mv := true }
set_option maxHeartbeats 4000000 in
theorem changed_has : Has Tryd.prog 89 cChanged := by
  refine has_walk mixed tTab_ok (l := [(18, cTreeOk), (83, cCopyTree)]) (HasL.cons treeOk_has (HasL.cons copyTree_has HasL.nil)) [0, 1, 4, 5] ((fun a n (_ : Nat) => (fun _ => noInv) a n)) [] Tryd.func89 (by kernel_rfl) (code := _) (by unfold Tryd.f89; rfl) (by kernel_rfl) (by decide) (fun _ => ⟨(), trivial⟩) (by intro h; first | exact fun _ => rfl | cases h) (by kernel_rfl) ?_
  intro a ha
  obtain ⟨t, o⟩ := a
  obtain ⟨⟨q1, q2⟩, q3⟩ : (t.length ≤ 1048576 ∧ ∀ f ∈ t, f.text.length ≤ 1048576) ∧ ∀ f ∈ o, f.path.length ≤ 536870912 := ha
  simp -implicitDefEqProofs [vc_skip, extOf, vc_seq, vc_cond, vc_block, vc_exit, vc_ret, vc_region, vc_regionD, vc_loop, kSeq_normal, kSeq_ret, kSeq_exit, kBlock_normal, kBlock_ret, kBlock_exit, kLoop_normal, kLoop_ret, kLoop_exit, kCond_bool, kNorm_app, vcOps_nil, vcOps_cons, kOps_app, kStep_some, kStep_none, vcDL_nil, vcDL_cons, kOpsD_app, kStepD_true, kStepD_false, kStepC_some, kStepC_none, kMv_app, act3_store, act3_call, act3_bs, kAct_app, kSt2_app, stealSlots, stealL, stealOne, subIn, AV.stolen, act_store, act_bs, act_append, act_call, kSet_app, kSet2_app, kSetG_app, kSetG_app0, kStore_ptr, kStore_eptr, kCallW_some, kCallC_some, kCall_some, wk_T, wk_n, wk_keep, wk_inv, wk_act, wk_dr, wk_le, aCalm, wantC, dstOk, calm, aCallK, aCall3K, subOf, subRep, aCall2K, apnd, bsMove, putBox, putOwn, partAV, mvL, AV.mv, AV.base, AV.moved, AV.src, TI.flat, apSize, pickAV, St.val, St.cond, St.fn, St.next, St.set, St.trim, wipe_eq, wipeE_app, wipeM_app, pickEnv, get?, cGet, upd_app, withPuts, killAll, rm, freshP, Oper.hnd, Sc.st, ofConst, constOk, lenAV, elemLen, loadAV, ldL, ld1, fieldAddrAV, indexAddrAV, sliceAV, convAV, buildAV, fillAV, fieldAV, Out.of, binAV, AV.rows, AV.one, AV.cells, AV.deepOk, AV.toD, toDs, partRows, partRowsM, partsDeep, TK.zeroAV, TK.zeroD, byteOf, inR, Op.operands, Call.operands, passVs, passV, passL, pass1, passB, pasVs, pasV, pasL, pas1, ownsOk, okHs, okHs2, okFin, finOk2, rho, over, backRes, backAV, backAV1, backBlk, putBack, back2, back2_V, back2_1, m2, AV.wipe, AV.wipeV, AV.wipe1, Blk.wipe, AV.hs, AV.hs.hsL, alOps, Con.start2, Con.pk, bodyQ, fini, resAV, resA, firstId, Sc.from, renEnv, renT, renV, renVs, renL, ren1, renBox, renOwn, okRen, clOf, actB, setRow, flatRows, flatD, noInv, shr_nil, shr_some, kStepF_some, shareL, AV.viewed, AV.viewed1, cChanged, Con.fn, tTab, cTreeOk, cCopyTree]
  try dsimp only
  try simp +contextual [eStr, eFile, cast_succ, cast_eq, cast_zero, List.getElem?_eq_getElem, eStrs_set, eFiles_set, eStrs_rep, eFiles_rep, ← eStrs_append, ← eFiles_append, eStrs_take, eStrs_drop, eFiles_take, eFiles_drop, eStrs_snoc, eFiles_snoc, and_assoc]
  repeat' (first | intro _ | apply And.intro)
  all_goals first | omega | grind [all_take]

def outP (ps : List Str) (o : List FileD) (l : List FileD) : List FileD := (l.filter fun f => !visB f ps).foldl (fun o f => (putI o f).1) o
def inP (o : List FileD) (l : List FileD) : List FileD := l.foldl (fun o f => (putI o f).1) o
def viewPutI (t : List FileD) (ps : List Str) (v : List FileD) : List FileD × Bool :=
  if treeI t && viewI ps then (if treeI v then (if v.all (fun f => visB f ps) then (if treeI (inP (outP ps [] t) v) then (inP (outP ps [] t) v, true) else (t, false)) else (t, false)) else (t, false)) else ([], false)

end Vx
end Go.Proofs.YtlhkmgbmnbkaeaaDoor
/-
  Contracts: ViewPut, both sides.
-/
namespace Go.Proofs.YtlhkmgbmnbkaeaaDoor
namespace Vx
open Go.RowKit
set_option maxRecDepth 8000

theorem inP_snoc (o l : List FileD) (f : FileD) : inP o (l ++ [f]) = (putI (inP o l) f).1 := by simp [inP]
theorem inP_len : ∀ (l o : List FileD), (inP o l).length ≤ o.length + l.length := by
  intro l
  induction l with
  | nil => intro o; simp [inP]
  | cons f r ih =>
    intro o
    have h1 := ih (putI o f).1
    have h2 := putI_len o f
    simp only [inP, List.foldl_cons, List.length_cons] at h1 ⊢
    omega
theorem inP_mem : ∀ (l o : List FileD), ∀ g ∈ inP o l, g ∈ o ∨ g ∈ l := by
  intro l
  induction l with
  | nil => intro o g hg; exact .inl hg
  | cons f r ih =>
    intro o g hg
    rcases ih (putI o f).1 g hg with h | h
    · rcases putI_mem o f g h with h | h
      · exact .inl h
      · exact .inr (by simp [h])
    · exact .inr (by simp [h])
theorem outP_eq (ps : List Str) (o l : List FileD) : outP ps o l = inP o (l.filter fun f => !visB f ps) := rfl
theorem outP_hit {ps : List Str} {t : List FileD} {i : Nat} (h : i < t.length) (hv : visB t[i] ps = true) : outP ps [] (t.take (i + 1)) = outP ps [] (t.take i) := by
  rw [outP_eq, outP_eq, take_succ' h, List.filter_append]; simp [List.filter_cons, hv]
theorem outP_miss {ps : List Str} {t : List FileD} {i : Nat} (h : i < t.length) (hv : visB t[i] ps = false) : outP ps [] (t.take (i + 1)) = (putI (outP ps [] (t.take i)) t[i]).1 := by
  rw [outP_eq, outP_eq, take_succ' h, List.filter_append]
  simp [List.filter_cons, hv, inP]
theorem outP_len (ps : List Str) (l : List FileD) : (outP ps [] l).length ≤ l.length := by
  rw [outP_eq]
  have h1 := inP_len (l.filter fun f => !visB f ps) []
  have h2 := List.length_filter_le (fun f => !visB f ps) l
  simp at h1; omega
theorem outP_mem (ps : List Str) (l : List FileD) : ∀ g ∈ outP ps [] l, g ∈ l := by
  intro g hg
  rw [outP_eq] at hg
  rcases inP_mem _ _ g hg with h | h
  · simp at h
  · exact (List.mem_filter.1 h).1

def okSz (t : List FileD) : Prop := t.length ≤ 1048576 ∧ (∀ f ∈ t, f.text.length ≤ 1048576) ∧ ∀ f ∈ t, f.path.length ≤ 536870912
abbrev vpEnv (a : List FileD × List Str × List FileD) : List (Nat × Bool × AV) := [(0, true, .sl true 2 (eFiles a.1)), (1, true, .sl true 1 (eStrs a.2.1)), (2, true, .sl true 2 (eFiles a.2.2)), (6, true, .nil), (7, true, .bool false)]
def vpA (a : List FileD × List Str × List FileD) : Inv := ⟨Nat, fun i => ⟨vpEnv a ++ [(8, true, .own 9 2 (eFiles (outP a.2.1 [] (a.1.take i)))), (26, true, .sl true 2 (eFiles a.1)), (27, true, .int .i64 a.1.length), (28, true, .int .i64 i)], ownFiles 9 (outP a.2.1 [] (a.1.take i))⟩, fun i => i ≤ a.1.length, fun i => a.1.length - i⟩
def vpB (a : List FileD × List Str × List FileD) : Inv := ⟨Nat, fun i => ⟨vpEnv a ++ [(8, true, .own 9 2 (eFiles (inP (outP a.2.1 [] a.1) (a.2.2.take i)))), (43, true, .sl true 2 (eFiles a.2.2)), (44, true, .int .i64 a.2.2.length), (45, true, .int .i64 i)], ownFiles 9 (inP (outP a.2.1 [] a.1) (a.2.2.take i))⟩, fun i => i ≤ a.2.2.length ∧ ∀ x, x ∈ a.2.2.take i → visB x a.2.1 = true, fun i => a.2.2.length - i⟩
def vpInv (a : List FileD × List Str × List FileD) (n _g : Nat) : Inv := if n = 7 then vpA a else vpB a
theorem vpInv_7 (a : List FileD × List Str × List FileD) (g : Nat) : vpInv a 7 g = vpA a := rfl
theorem vpInv_13 (a : List FileD × List Str × List FileD) (g : Nat) : vpInv a 13 g = vpB a := rfl
def cViewPutI : Con := .fn 67 (List FileD × List Str × List FileD) (fun a => [.sl true 2 (eFiles a.1), .sl true 1 (eStrs a.2.1), .sl true 2 (eFiles a.2.2)]) (fun a => okSz a.1 ∧ (∀ q ∈ a.2.1, q.length ≤ 536870912) ∧ okSz a.2.2) (fun a => .tup [.own 8 2 (eFiles (viewPutI a.1 a.2.1 a.2.2).1), .bool (viewPutI a.1 a.2.1 a.2.2).2]) (fun a => ownFiles 8 (viewPutI a.1 a.2.1 a.2.2).1)
set_option maxHeartbeats 4000000 in
theorem viewPutI_has : Has Tryd.prog 30 cViewPutI := by
  refine has_walk mixed tTab_ok (l := [(18, cTreeOk), (82, cViewOk), (84, cVisible), (83, cCopyTree), (88, cPut), (89, cChanged)]) (HasL.cons treeOk_has (HasL.cons viewOk_has (HasL.cons visible_has (HasL.cons copyTree_has (HasL.cons put_has (HasL.cons changed_has HasL.nil)))))) [0, 1, 2, 6, 7, 8, 10, 12, 26, 27, 28, 43, 44, 45] (fun a => vpInv a) [] Tryd.func30 (by kernel_rfl) (code := _) (by unfold Tryd.f30; rfl) (by kernel_rfl) (by decide) (fun _ => ⟨(), trivial⟩) (by intro h; first | exact fun _ => rfl | cases h) (by kernel_rfl) ?_
  intro a ha
  obtain ⟨t, ps, v⟩ := a
  obtain ⟨⟨q1, q2, q3⟩, q4, q5, q6, q7⟩ : okSz t ∧ (∀ q ∈ ps, q.length ≤ 536870912) ∧ okSz v := ha
  simp -implicitDefEqProofs [vc_skip, extOf, vc_seq, vc_cond, vc_block, vc_exit, vc_ret, vc_region, vc_regionD, vc_loop, kSeq_normal, kSeq_ret, kSeq_exit, kBlock_normal, kBlock_ret, kBlock_exit, kLoop_normal, kLoop_ret, kLoop_exit, kCond_bool, kNorm_app, vcOps_nil, vcOps_cons, kOps_app, kStep_some, kStep_none, vcDL_nil, vcDL_cons, kOpsD_app, kStepD_true, kStepD_false, kStepC_some, kStepC_none, kMv_app, act3_store, act3_call, act3_bs, kAct_app, kSt2_app, stealSlots, stealL, stealOne, subIn, AV.stolen, act_store, act_bs, act_append, act_call, kSet_app, kSet2_app, kSetG_app, kSetG_app0, kStore_ptr, kStore_eptr, kCallW_some, kCallC_some, kCall_some, wk_T, wk_n, wk_keep, wk_inv, wk_act, wk_dr, wk_le, aCalm, wantC, dstOk, calm, aCallK, aCall3K, subOf, subRep, aCall2K, apnd, bsMove, putBox, putOwn, partAV, mvL, AV.mv, AV.base, AV.moved, AV.src, TI.flat, apSize, pickAV, St.val, St.cond, St.fn, St.next, St.set, St.trim, wipe_eq, wipeE_app, wipeM_app, pickEnv, get?, cGet, upd_app, withPuts, killAll, rm, freshP, Oper.hnd, Sc.st, ofConst, constOk, lenAV, elemLen, loadAV, ldL, ld1, fieldAddrAV, indexAddrAV, sliceAV, convAV, buildAV, fillAV, fieldAV, Out.of, binAV, AV.rows, AV.one, AV.cells, AV.deepOk, AV.toD, toDs, partRows, partRowsM, partsDeep, TK.zeroAV, TK.zeroD, byteOf, inR, Op.operands, Call.operands, passVs, passV, passL, pass1, passB, pasVs, pasV, pasL, pas1, ownsOk, okHs, okHs2, okFin, finOk2, rho, over, backRes, backAV, backAV1, backBlk, putBack, back2, back2_V, back2_1, m2, AV.wipe, AV.wipeV, AV.wipe1, Blk.wipe, AV.hs, AV.hs.hsL, alOps, Con.start2, Con.pk, bodyQ, fini, resAV, resA, firstId, Sc.from, renEnv, renT, renV, renVs, renL, ren1, renBox, renOwn, okRen, clOf, actB, setRow, flatRows, flatD, noInv, shr_nil, shr_some, kStepF_some, shareL, AV.viewed, AV.viewed1, cViewPutI, cTreeOk, cViewOk, cVisible, cCopyTree, cPut, cChanged, Con.fn, tTab, vpInv_7, vpInv_13, vpA, vpB, vpEnv]
  try dsimp only
  have hO : ∀ i, ((outP ps [] (t.take i)).length ≤ 1048576 ∧ ∀ f ∈ outP ps [] (t.take i), f.text.length ≤ 1048576) := fun i => ⟨by
    have := outP_len ps (t.take i)
    simp at this; omega, fun f hf => q2 f (List.mem_of_mem_take (outP_mem _ _ f hf))⟩
  refine ⟨q3, fun h => ⟨⟨by simp [viewPutI, h], by simp [viewPutI, h]⟩, by simp [viewPutI, h]⟩, fun ht => ⟨q4, fun h => ⟨⟨by simp [viewPutI, h], by simp [viewPutI, h]⟩, by simp [viewPutI, h]⟩, fun hps => ⟨q7, fun hv => ⟨⟨q1, q2⟩, ⟨by simp [viewPutI, ht, hps, hv], by simp [viewPutI, ht, hps, hv]⟩, by simp [viewPutI, ht, hps, hv]⟩,
    fun hv _ => ⟨⟨0, ⟨⟨rfl, rfl⟩, rfl⟩, Nat.zero_le _⟩, fun i hi => ⟨fun hlt => ⟨hlt, fun _ => ⟨by simp [hlt, eFile], fun _ _ _ => ⟨t[i], ps, ⟨⟨by simp [hlt, eFile], by simp [hlt, eFile]⟩, rfl⟩, q4,
      fun hvis => ⟨outP ps [] (t.take i), t[i], ⟨rfl, by simp [hlt, eFile], by simp [hlt, eFile]⟩, ⟨hO i, q2 _ (List.getElem_mem hlt)⟩, ⟨by omega, by omega⟩, fun _ _ => ⟨i + 1, ⟨⟨outP_miss hlt hvis, by omega⟩, (outP_miss hlt hvis).symm⟩, by omega, by omega⟩⟩,
      fun hvis => ⟨⟨by omega, by omega⟩, fun _ _ => ⟨i + 1, ⟨⟨outP_hit hlt hvis, by omega⟩, (outP_hit hlt hvis).symm⟩, by omega, by omega⟩⟩⟩⟩⟩, fun hge _ => ?_⟩⟩⟩⟩⟩
  have e : t.take i = t := List.take_of_length_le hge
  have ht8 := treeI_le t ht
  have hv8 := treeI_le v hv
  have hI : ∀ j, ((inP (outP ps [] t) (v.take j)).length ≤ 1048576 ∧ ∀ f ∈ inP (outP ps [] t) (v.take j), f.text.length ≤ 1048576) := fun j => ⟨by
    have h1 := inP_len (v.take j) (outP ps [] t)
    have h2 := outP_len ps t
    simp at h1; omega, fun f hf => (inP_mem _ _ f hf).elim (fun h => q2 f (outP_mem _ _ f h)) fun h => q6 f (List.mem_of_mem_take h)⟩
  have hs : ∀ j (h : j < v.length), inP (outP ps [] t) (v.take (j + 1)) = (putI (inP (outP ps [] t) (v.take j)) v[j]).1 := fun j h => by rw [take_succ' h, inP_snoc]
  refine ⟨⟨0, ⟨⟨by rw [e]; rfl, rfl⟩, by rw [e]; rfl⟩, Nat.zero_le _, by simp⟩, fun j hj hb => ⟨fun hlt => ⟨hlt, fun _ => ⟨by simp [hlt, eFile], fun _ _ _ => ⟨v[j], ps, ⟨⟨by simp [hlt, eFile], by simp [hlt, eFile]⟩, rfl⟩, q4,
    fun hvis => ?_, fun hvis => ⟨inP (outP ps [] t) (v.take j), v[j], ⟨rfl, by simp [hlt, eFile], by simp [hlt, eFile]⟩, ⟨hI j, q6 _ (List.getElem_mem hlt)⟩, ⟨by omega, by omega⟩, fun _ _ => ⟨j + 1, ⟨⟨hs j hlt, by omega⟩, (hs j hlt).symm⟩, ⟨by omega, take_step hlt hb hvis⟩, by omega⟩⟩⟩⟩⟩, fun hge2 => ?_⟩⟩
  · have hall : (v.all fun f => visB f ps) = false := by
      rw [List.all_eq_false]
      exact ⟨v[j], List.getElem_mem hlt, by simp [hvis]⟩
    exact ⟨⟨q1, q2⟩, ⟨by simp [viewPutI, ht, hps, hv, hall], by simp [viewPutI, ht, hps, hv, hall]⟩, by simp [viewPutI, ht, hps, hv, hall]⟩
  · have e2 : v.take j = v := List.take_of_length_le hge2
    rw [e2] at hb
    have hall : (v.all fun f => visB f ps) = true := List.all_eq_true.2 hb
    rw [e2]
    have hval : viewPutI t ps v = if treeI (inP (outP ps [] t) v) = true then (inP (outP ps [] t) v, true) else (t, false) := by
      unfold viewPutI
      rw [ht, hps, hv, hall]; rfl
    refine ⟨t, _, ⟨rfl, rfl⟩, rfl, ⟨⟨q1, q2⟩, fun f hf => (inP_mem _ _ f hf).elim (fun h => q3 f (outP_mem _ _ f h)) fun h => q7 f h⟩, ?_⟩
    rw [hval]
    rcases hT : treeI (inP (outP ps [] t) v) with _ | _ <;> simp

def setP (o : List FileD) (l : List FileD) : List FileD := l.foldl setS o
theorem setP_snoc (o l : List FileD) (f : FileD) : setP o (l ++ [f]) = setS (setP o l) f := by simp [setP]
theorem setP_len : ∀ (l o : List FileD), (setP o l).length ≤ o.length + l.length := by
  intro l
  induction l with
  | nil => intro o; simp [setP]
  | cons f r ih =>
    intro o
    have h1 := ih (setS o f)
    have h2 := setS_len o f
    simp only [setP, List.foldl_cons, List.length_cons] at h1 ⊢
    omega
def viewPutS (t : List FileD) (ps : List Str) (v : List FileD) : List FileD × Bool :=
  if treeS t && viewS ps then (if treeS v then (if v.all (fun f => in25 ps f.path) then (if treeS (setP (filB (fun f => !in25 ps f.path) t) v) then (setP (filB (fun f => !in25 ps f.path) t) v, true) else (t, false)) else (t, false)) else (t, false)) else ([], false)
def vsA (a : List FileD × List Str × List FileD) : Inv := ⟨Nat, fun i => ⟨vpEnv a ++ [(8, true, .own 9 2 (eFiles (filB (fun f => !in25 a.2.1 f.path) (a.1.take i)))), (9, true, .own 11 2 (eFiles a.1)), (10, true, .int .i64 i)], [(9, .own 32 2 false (eFiles (filB (fun f => !in25 a.2.1 f.path) (a.1.take i)))), (11, .own 32 2 true (eFiles a.1))]⟩, fun i => i ≤ a.1.length, fun i => a.1.length - i⟩
def vsB (a : List FileD × List Str × List FileD) : Inv := ⟨Nat, fun i => ⟨vpEnv a ++ [(8, true, .sl false 2 (eFiles (setP (filB (fun f => !in25 a.2.1 f.path) a.1) (a.2.2.take i)))), (9, true, .own 11 2 (eFiles a.1)), (11, true, .int .i64 i)], [(11, .own 32 2 true (eFiles a.1))]⟩, fun i => i ≤ a.2.2.length ∧ ∀ x, x ∈ a.2.2.take i → in25 a.2.1 x.path = true, fun i => a.2.2.length - i⟩
def vsInv (a : List FileD × List Str × List FileD) (n _g : Nat) : Inv := if n = 6 then vsA a else vsB a
theorem vsInv_6 (a : List FileD × List Str × List FileD) (g : Nat) : vsInv a 6 g = vsA a := rfl
theorem vsInv_13 (a : List FileD × List Str × List FileD) (g : Nat) : vsInv a 13 g = vsB a := rfl
def cViewPutS : Con := .fn 74 (List FileD × List Str × List FileD) (fun a => [.sl true 2 (eFiles a.1), .sl true 1 (eStrs a.2.1), .sl true 2 (eFiles a.2.2)]) (fun a => (a.1.length ≤ 1048576 ∧ ∀ f ∈ a.1, f.text.length ≤ 1048576) ∧ (a.2.2.length ≤ 1048576 ∧ ∀ f ∈ a.2.2, f.text.length ≤ 1048576)) (fun a => .tup [.sl false 2 (eFiles (viewPutS a.1 a.2.1 a.2.2).1), .bool (viewPutS a.1 a.2.1 a.2.2).2]) (fun _ => [])
set_option maxHeartbeats 4000000 in
theorem viewPutS_has : Has Tryd.prog 36 cViewPutS := by
  refine has_walk mixed tTab_ok (l := [(72, cL4Ok), (85, cL25Paths), (86, cL4Copy), (87, cL25In), (91, cL4Set)]) (HasL.cons l4Ok_has (HasL.cons l25Paths_has (HasL.cons l4Copy_has (HasL.cons l25In_has (HasL.cons l4Set_has HasL.nil))))) [0, 1, 2, 6, 7, 8, 9, 10, 11] (fun a => vsInv a) [4138] Tryd.func36 (by kernel_rfl) (code := _) (by unfold Tryd.f36; rfl) (by kernel_rfl) (by decide) (fun _ => ⟨(), trivial⟩) (by intro h; first | exact fun _ => rfl | cases h) (by kernel_rfl) ?_
  intro a ha
  obtain ⟨t, ps, v⟩ := a
  obtain ⟨⟨q1, q2⟩, q5, q6⟩ : (t.length ≤ 1048576 ∧ ∀ f ∈ t, f.text.length ≤ 1048576) ∧ (v.length ≤ 1048576 ∧ ∀ f ∈ v, f.text.length ≤ 1048576) := ha
  simp -implicitDefEqProofs [vc_skip, extOf, vc_seq, vc_cond, vc_block, vc_exit, vc_ret, vc_region, vc_regionD, vc_loop, kSeq_normal, kSeq_ret, kSeq_exit, kBlock_normal, kBlock_ret, kBlock_exit, kLoop_normal, kLoop_ret, kLoop_exit, kCond_bool, kNorm_app, vcOps_nil, vcOps_cons, kOps_app, kStep_some, kStep_none, vcDL_nil, vcDL_cons, kOpsD_app, kStepD_true, kStepD_false, kStepC_some, kStepC_none, kMv_app, act3_store, act3_call, act3_bs, kAct_app, kSt2_app, stealSlots, stealL, stealOne, subIn, AV.stolen, act_store, act_bs, act_append, act_call, kSet_app, kSet2_app, kSetG_app, kSetG_app0, kStore_ptr, kStore_eptr, kCallW_some, kCallC_some, kCall_some, wk_T, wk_n, wk_keep, wk_inv, wk_act, wk_dr, wk_le, aCalm, wantC, dstOk, calm, aCallK, aCall3K, subOf, subRep, aCall2K, apnd, bsMove, putBox, putOwn, partAV, mvL, AV.mv, AV.base, AV.moved, AV.src, TI.flat, apSize, pickAV, St.val, St.cond, St.fn, St.next, St.set, St.trim, wipe_eq, wipeE_app, wipeM_app, pickEnv, get?, cGet, upd_app, withPuts, killAll, rm, freshP, Oper.hnd, Sc.st, ofConst, constOk, lenAV, elemLen, loadAV, ldL, ld1, fieldAddrAV, indexAddrAV, sliceAV, convAV, buildAV, fillAV, fieldAV, Out.of, binAV, AV.rows, AV.one, AV.cells, AV.deepOk, AV.toD, toDs, partRows, partRowsM, partsDeep, TK.zeroAV, TK.zeroD, byteOf, inR, Op.operands, Call.operands, passVs, passV, passL, pass1, passB, pasVs, pasV, pasL, pas1, ownsOk, okHs, okHs2, okFin, finOk2, rho, over, backRes, backAV, backAV1, backBlk, putBack, back2, back2_V, back2_1, m2, AV.wipe, AV.wipeV, AV.wipe1, Blk.wipe, AV.hs, AV.hs.hsL, alOps, Con.start2, Con.pk, bodyQ, fini, resAV, resA, firstId, Sc.from, renEnv, renT, renV, renVs, renL, ren1, renBox, renOwn, okRen, clOf, actB, setRow, flatRows, flatD, noInv, shr_nil, shr_some, kStepF_some, shareL, AV.viewed, AV.viewed1, cViewPutS, cL4Ok, cL25Paths, cL4Copy, cL25In, cL4Set, Con.fn, tTab, vsInv_6, vsInv_13, vsA, vsB, vpEnv]
  try dsimp only
  have hh : ∀ i (h : i < t.length), in25 ps t[i].path = false → filB (fun f => !in25 ps f.path) (t.take (i + 1)) = filB (fun f => !in25 ps f.path) (t.take i) ++ [t[i]] := fun i h hv => fil_hit h (by simp [hv])
  have hm : ∀ i (h : i < t.length), in25 ps t[i].path = true → filB (fun f => !in25 ps f.path) (t.take (i + 1)) = filB (fun f => !in25 ps f.path) (t.take i) := fun i h hv => fil_miss h (by simp [hv])
  have hl := fun i => fil_le (fun f => !in25 ps f.path) t i
  refine ⟨fun h => by simp [viewPutS, h], fun ht => ⟨fun h => by simp [viewPutS, h], fun hps => ⟨⟨q1, q2⟩, ⟨0, ⟨⟨rfl, rfl⟩, rfl⟩, Nat.zero_le _⟩, fun i hi _ => ⟨fun hlt => ⟨hlt, fun _ => ⟨by simp [hlt, eFile], fun _ _ => ⟨ps, t[i].path, ⟨rfl, by simp [hlt, eFile]⟩,
    fun hv => ⟨hlt, fun _ => ⟨by simp [hlt, eFile], fun _ _ _ => ⟨⟨by have := hl i; omega, by have := hl i; omega⟩, ⟨by omega, by omega⟩, fun _ _ => ⟨i + 1, ⟨⟨by rw [hh i hlt hv]; simp [eFiles, eFile, hlt], by omega⟩, by rw [hh i hlt hv]; simp [eFiles, eFile, hlt]⟩, by omega, by omega⟩⟩⟩⟩,
    fun hv => ⟨⟨by omega, by omega⟩, fun _ _ => ⟨i + 1, ⟨⟨hm i hlt hv, by omega⟩, (hm i hlt hv).symm⟩, by omega, by omega⟩⟩⟩⟩⟩, fun hge => ⟨fun hv => by simp [viewPutS, ht, hps, hv], fun hv => ?_⟩⟩⟩⟩⟩
  have e : t.take i = t := List.take_of_length_le hge
  rw [e]
  have ht8 := treeS_le t ht
  have hv8 := treeS_le v hv
  have hl2 : (filB (fun f => !in25 ps f.path) t).length ≤ 8 := by
    have := hl i
    rw [e] at this
    have h3 := List.length_filter_le (fun f => !in25 ps f.path) t
    unfold filB
    omega
  have hs : ∀ j (h : j < v.length), setP (filB (fun f => !in25 ps f.path) t) (v.take (j + 1)) = setS (setP (filB (fun f => !in25 ps f.path) t) (v.take j)) v[j] := fun j h => by rw [take_succ' h, setP_snoc]
  refine ⟨⟨0, ⟨rfl, rfl⟩, Nat.zero_le _, by simp⟩, fun j hj hb _ => ⟨fun hlt => ⟨hlt, fun _ => ⟨by simp [hlt, eFile], fun _ _ => ⟨ps, v[j].path, ⟨rfl, by simp [hlt, eFile]⟩, fun hvis => ?_, fun hvis => ⟨hlt, fun _ => ⟨by simp [hlt, eFile], fun _ _ _ => ⟨setP (filB (fun f => !in25 ps f.path) t) (v.take j), v[j], ⟨rfl, by simp [hlt, eFile], by simp [hlt, eFile]⟩, ⟨?_, q6 _ (List.getElem_mem hlt)⟩, ⟨by omega, by omega⟩, fun _ _ => ⟨j + 1, ⟨hs j hlt, by omega⟩, ⟨by omega, take_step (q := fun f : FileD => in25 ps f.path = true) hlt hb hvis⟩, by omega⟩⟩⟩⟩⟩⟩⟩, fun hge2 => ?_⟩⟩
  · have hall : (v.all fun f => in25 ps f.path) = false := by
      rw [List.all_eq_false]
      exact ⟨v[j], List.getElem_mem hlt, by simp [hvis]⟩
    simp [viewPutS, ht, hps, hv, hall]
  · have h1 := setP_len (v.take j) (filB (fun f => !in25 ps f.path) t)
    simp at h1
    omega
  · have e2 : v.take j = v := List.take_of_length_le hge2
    rw [e2] at hb ⊢
    have hall : (v.all fun f => in25 ps f.path) = true := List.all_eq_true.2 hb
    have hval : viewPutS t ps v = if treeS (setP (filB (fun f => !in25 ps f.path) t) v) = true then (setP (filB (fun f => !in25 ps f.path) t) v, true) else (t, false) := by
      unfold viewPutS
      rw [ht, hps, hv, hall]; rfl
    rw [hval]
    exact ⟨fun h => by simp [h], fun h => by simp [h]⟩

end Vx
end Go.Proofs.YtlhkmgbmnbkaeaaDoor
/-
  What the law FnSeekTree says, in plain lists.
-/
namespace Go.Proofs.YtlhkmgbmnbkaeaaDoor
namespace Vx
open Go.RowKit

theorem less_trans {a b c : Str} (h : Go.Op.bytesLess a b = true) (h' : Go.Op.bytesLess b c = true) : Go.Op.bytesLess a c = true := by
  rw [less_eq, decide_eq_true_eq] at *
  exact List.lt_trans h h'
theorem less_irrefl (a : Str) : Go.Op.bytesLess a a = false := by
  rw [less_eq, decide_eq_false_iff_not]
  exact List.lt_irrefl a
theorem tree_less {t : List FileD} (h : treeI t = true) : ∀ j i, (hij : i < j) → (hj : j < t.length) → Go.Op.bytesLess (t[i]'(by omega)).path t[j].path = true := by
  have hs : ∀ j, (h0 : 0 < j) → (hj : j < t.length) → Go.Op.bytesLess (t[j - 1]'(by omega)).path t[j].path = true := by
    intro j h0 hj
    simp only [treeI, Bool.and_eq_true, List.all_eq_true, List.mem_range] at h
    have h2 := (h.2 j hj).1
    simp only [headI, Bool.and_eq_true, Bool.or_eq_true, decide_eq_true_eq] at h2
    rcases h2.2 with h3 | h3
    · omega
    · simpa [List.getD_eq_getElem?_getD, hj, (show j - 1 < t.length by omega)] using h3
  intro j
  induction j with
  | zero => intro i hi; omega
  | succ j ih =>
    intro i hi hj
    have h1 := hs (j + 1) (by omega) hj
    by_cases e : i = j
    · subst e; exact h1
    · exact less_trans (ih i (by omega) (by omega)) h1
theorem tree_paths {t : List FileD} (h : treeI t = true) {i j : Nat} (hi : i < t.length) (hj : j < t.length) (he : t[i].path = t[j].path) : i = j := by
  rcases Nat.lt_trichotomy i j with h1 | h1 | h1
  · have := tree_less h j i h1 hj; rw [he, less_irrefl] at this; cases this
  · exact h1
  · have := tree_less h i j h1 hi; rw [he, less_irrefl] at this; cases this

/-- A text is in another one. -/
def partB (s p : Str) : Bool := (List.range (s.length + 1)).any fun i => decide (i + p.length ≤ s.length) && decide ((s.drop i).take p.length = p)
theorem partB_hit {s p : Str} {i : Nat} (h : i + p.length ≤ s.length) (h2 : (s.drop i).take p.length = p) : partB s p = true := by
  unfold partB
  rw [List.any_eq_true]
  exact ⟨i, List.mem_range.2 (by omega), by simp [h, h2]⟩
theorem partB_miss {s p : Str} (h : ∀ i, i + p.length ≤ s.length → (s.drop i).take p.length ≠ p) : partB s p = false := by
  unfold partB
  rw [List.any_eq_false]
  intro i _
  simp only [Bool.and_eq_true, decide_eq_true_eq, not_and]
  exact h i
theorem partB_mid (a p b : Str) : partB (a ++ (p ++ b)) p = true := partB_hit (i := a.length) (by simp) (by simp)
theorem hasP_part {w : Str} : ∀ {r c : Str}, hasP w r c = true → ∃ a b, c ++ r = a ++ (w ++ b) := by
  intro r
  induction r with
  | nil => intro c h; simp only [hasP, decide_eq_true_eq] at h; subst h; exact ⟨[], [], by simp⟩
  | cons x r ih =>
    intro c h
    simp only [hasP] at h
    split at h
    · obtain ⟨a, b, e⟩ := ih h
      exact ⟨a, b, by simpa using e⟩
    · simp only [Bool.or_eq_true, decide_eq_true_eq] at h
      rcases h with rfl | h
      · exact ⟨[], x :: r, by simp⟩
      · obtain ⟨a, b, e⟩ := ih h
        exact ⟨c ++ x :: a, b, by simpa using e⟩
theorem hasS_part {w l : Str} (h : hasS w l = true) : partB l w = true := by
  obtain ⟨a, b, e⟩ := hasP_part h
  rw [List.nil_append] at e
  rw [e]; exact partB_mid a w b
theorem hasP_word {w : Str} : ∀ {r c : Str}, (∀ x ∈ r, wordB x.toNat = true) → hasP w r c = decide (c ++ r = w) := by
  intro r
  induction r with
  | nil => intro c _; simp [hasP]
  | cons x r ih =>
    intro c h
    simp only [hasP, h x (by simp), if_true]
    rw [ih fun y hy => h y (by simp [hy])]
    simp
theorem hasS_self {w : Str} (h : nameB w = true) : hasS w w = true := by
  simp only [nameB, Bool.and_eq_true, List.all_eq_true] at h
  unfold hasS
  rw [hasP_word h.2]; simp
theorem hasS_see {w : Str} (h : nameB w = true) : hasS w ([115, 101, 101, 32] ++ w) = true := by
  have h0 := hasS_self h
  unfold hasS at h0 ⊢
  show hasP w (115 :: 101 :: 101 :: 32 :: w) [] = true
  simp only [hasP]
  rw [if_pos (by decide), if_pos (by decide), if_pos (by decide), if_neg (by decide), h0, Bool.or_true]

def pathIn (l : List Str) (p : Str) : Bool := decide (p ∈ l)
theorem seek_mem {t : List FileD} (ht : treeI t = true) (p : FileD → Bool) {i : Nat} (hi : i < t.length) : t[i].path ∈ seekL p t ↔ p t[i] = true := by
  unfold seekL
  simp only [List.mem_map, List.mem_filter]
  constructor
  · rintro ⟨f, ⟨hf, hp⟩, e⟩
    obtain ⟨j, hj, rfl⟩ := List.getElem_of_mem hf
    have := tree_paths ht hj hi e
    subst this
    exact hp
  · intro h; exact ⟨t[i], ⟨List.getElem_mem hi, h⟩, rfl⟩
theorem seek_split (p : FileD → Bool) (t : List FileD) {i : Nat} (hi : i < t.length) (hp : p t[i] = true) : (seekL p t)[(seekL p (t.take i)).length]? = some t[i].path := by
  have e : t.take i ++ (t[i] :: t.drop (i + 1)) = t := by rw [← List.drop_eq_getElem_cons hi, List.take_append_drop]
  have key : ∀ (a : List FileD) (x : FileD) (b : List FileD), p x = true → seekL p (a ++ x :: b) = seekL p a ++ (x.path :: seekL p b) := fun a x b h => by simp [seekL, List.filter_cons, h]
  have := key (t.take i) t[i] (t.drop (i + 1)) hp
  rw [e] at this
  rw [this]; simp
theorem hit_some {t : List FileD} {w : Str} {i : Nat} (hi : i < t.length) (h : hitS w t[i] = true) : ∃ l ∈ t[i].text, partB l w = true := by
  unfold hitS anyHas at h
  rw [List.any_eq_true] at h
  obtain ⟨l, hl, h⟩ := h
  exact ⟨l, hl, hasS_part h⟩
theorem hit_word {f : FileD} {w : Str} (hw : nameB w = true) (h : w ∈ f.text ∨ [115, 101, 101, 32] ++ w ∈ f.text) : hitS w f = true := by
  unfold hitS anyHas
  rw [List.any_eq_true]
  rcases h with h | h
  · exact ⟨_, h, hasS_self hw⟩
  · exact ⟨_, h, hasS_see hw⟩

/-- The lines of a file that have the word. -/
def someP (t : List Str) (w : Str) : Bool := t.any fun l => partB l w

end Vx
end Go.Proofs.YtlhkmgbmnbkaeaaDoor
/-
  A file put into a sorted tree: the program's way and the reference's are the same; so are both ViewPut.
-/
namespace Go.Proofs.YtlhkmgbmnbkaeaaDoor
namespace Vx
open Go.RowKit

abbrev Srt (t : List FileD) : Prop := t.Pairwise fun a b => a.path < b.path
def ins (o : List FileD) (f : FileD) : List FileD := o.filter (fun g => decide (g.path < f.path)) ++ f :: o.filter (fun g => decide (f.path < g.path))

theorem tree_srt {t : List FileD} (h : treeI t = true) : Srt t := by
  refine List.pairwise_iff_getElem.2 fun i j hi hj hij => ?_
  have := tree_less h j i hij hj
  rw [less_eq, decide_eq_true_eq] at this
  exact this
theorem srt_ins {o : List FileD} {f : FileD} (h : Srt o) : Srt (ins o f) := by
  unfold ins
  refine List.pairwise_append.2 ⟨h.filter _, List.pairwise_cons.2 ⟨fun g hg => ?_, h.filter _⟩, fun a ha b hb => ?_⟩
  · simpa using (List.mem_filter.1 hg).2
  · have h1 : a.path < f.path := by simpa using (List.mem_filter.1 ha).2
    rcases List.mem_cons.1 hb with rfl | hb
    · exact h1
    · have h2 : f.path < b.path := by simpa using (List.mem_filter.1 hb).2
      exact str_trans h1 h2

/-- Where in a sorted tree a path comes. -/
theorem ins_at {o : List FileD} {f : FileD} (h : Srt o) {k : Nat} (hk : k ≤ o.length) (h1 : ∀ j (hj : j < o.length), j < k → o[j].path < f.path) (h2 : ∀ j (hj : j < o.length), k ≤ j → ¬ o[j].path < f.path) :
    o.filter (fun g => decide (g.path < f.path)) = o.take k ∧ o.filter (fun g => decide (f.path < g.path)) = (o.drop k).filter (fun g => decide (f.path < g.path)) := by
  have e : o = o.take k ++ o.drop k := (List.take_append_drop k o).symm
  have a1 : (o.take k).filter (fun g => decide (g.path < f.path)) = o.take k := List.filter_eq_self.2 fun g hg => by
    obtain ⟨j, hj, rfl⟩ := List.getElem_of_mem hg
    simp only [List.length_take] at hj
    rw [List.getElem_take]
    exact decide_eq_true (h1 j (by omega) (by omega))
  have a2 : (o.drop k).filter (fun g => decide (g.path < f.path)) = [] := List.filter_eq_nil_iff.2 fun g hg => by
    obtain ⟨j, hj, rfl⟩ := List.getElem_of_mem hg
    simp only [List.length_drop] at hj
    rw [List.getElem_drop]
    simpa using h2 (k + j) (by omega) (by omega)
  have a3 : (o.take k).filter (fun g => decide (f.path < g.path)) = [] := List.filter_eq_nil_iff.2 fun g hg => by
    obtain ⟨j, hj, rfl⟩ := List.getElem_of_mem hg
    simp only [List.length_take] at hj
    rw [List.getElem_take]
    simpa using str_asymm (h1 j (by omega) (by omega))
  constructor
  · conv => lhs; rw [e]
    rw [List.filter_append, a1, a2, List.append_nil]
  · conv => lhs; rw [e]
    rw [List.filter_append, a3, List.nil_append]

theorem putKat_spec {o : List FileD} {p : Str} (h : Srt o) : ∀ k, k ≤ o.length → (∀ j (hj : j < o.length), k ≤ j → ¬ o[j].path < p) →
    (∀ j (hj : j < o.length), j < putKat o p k → o[j].path < p) ∧ (∀ j (hj : j < o.length), putKat o p k ≤ j → ¬ o[j].path < p) := by
  intro k
  induction k with
  | zero => intro _ h2; exact ⟨fun j _ hj => by simp [putKat] at hj, fun j hj _ => h2 j hj (Nat.zero_le _)⟩
  | succ k ih =>
    intro hk h2
    have hlt : k < o.length := by omega
    have hd : o.getD k default = o[k] := by simp [List.getD_eq_getElem?_getD, hlt]
    by_cases hb : o[k].path < p
    · have e : putKat o p (k + 1) = k + 1 := by rw [putKat, if_pos]; rw [hd, less_eq]; exact decide_eq_true hb
      rw [e]
      refine ⟨fun j hj hjk => ?_, h2⟩
      by_cases ejk : j = k
      · subst ejk; exact hb
      · exact str_trans (List.pairwise_iff_getElem.1 h j k hj hlt (by omega)) hb
    · have e : putKat o p (k + 1) = putKat o p k := by rw [putKat, if_neg]; rw [hd, less_eq]; simpa using hb
      rw [e]
      refine ih (by omega) fun j hj hjk => ?_
      by_cases ejk : j = k
      · subst ejk; exact hb
      · exact h2 j hj (by omega)

theorem putI_ins {o : List FileD} {f : FileD} (h : Srt o) : (putI o f).1 = ins o f := by
  obtain ⟨h1, h2⟩ := putKat_spec (p := f.path) h o.length (Nat.le_refl _) (fun j hj hjk => by omega)
  have hk := putK_le o f.path
  change ∀ j (hj : j < o.length), j < putK o f.path → _ at h1
  change ∀ j (hj : j < o.length), putK o f.path ≤ j → _ at h2
  generalize hkk : putK o f.path = k at h1 h2 hk
  obtain ⟨a1, a2⟩ := ins_at h hk h1 h2
  unfold ins putI
  rw [a1, a2, hkk]
  split
  · rename_i hp
    obtain ⟨hlt, hp⟩ := hp
    rw [List.getD_eq_getElem?_getD, List.getElem?_eq_getElem hlt] at hp
    simp only [Option.getD_some] at hp
    change o.set k f = _
    rw [List.set_eq_take_append_cons_drop, if_pos hlt]
    congr 2
    rw [List.drop_eq_getElem_cons hlt, List.filter_cons, if_neg (by simp [hp, str_irrefl])]
    symm
    refine List.filter_eq_self.2 fun g hg => ?_
    obtain ⟨j, hj, rfl⟩ := List.getElem_of_mem hg
    simp only [List.length_drop] at hj
    rw [List.getElem_drop]
    have := List.pairwise_iff_getElem.1 h k (k + 1 + j) hlt (by omega) (by omega)
    rw [hp] at this
    exact decide_eq_true this
  · rename_i hp
    change insAtF o k f = _
    unfold insAtF
    congr 2
    symm
    refine List.filter_eq_self.2 fun g hg => ?_
    obtain ⟨j, hj, rfl⟩ := List.getElem_of_mem hg
    simp only [List.length_drop] at hj
    rw [List.getElem_drop]
    have hlt : k < o.length := by omega
    have hne : ¬ o[k].path = f.path := fun e => hp ⟨hlt, by rw [List.getD_eq_getElem?_getD, List.getElem?_eq_getElem hlt]; exact e⟩
    have hgt := str_total _ _ (h2 k hlt (Nat.le_refl _)) hne
    by_cases hj0 : j = 0
    · subst hj0; exact decide_eq_true hgt
    · exact decide_eq_true (str_trans hgt (List.pairwise_iff_getElem.1 h k (k + j) hlt (by omega) (by omega)))

theorem setT (f : FileD) : ∀ (l acc : List FileD), l.foldl (setStep f) (acc, true) = (acc ++ l.filter (fun g => !decide (g.path = f.path)), true) := by
  intro l
  induction l with
  | nil => intro acc; simp
  | cons g r ih =>
    intro acc
    rw [List.foldl_cons]
    by_cases hp : g.path = f.path
    · have : setStep f (acc, true) g = (acc, true) := by simp [setStep, hp]
      rw [this, ih, List.filter_cons, if_neg (by simp [hp])]
    · have : setStep f (acc, true) g = (acc ++ [g], true) := by simp [setStep, hp]
      rw [this, ih, List.filter_cons, if_pos (by simp [hp])]
      simp
theorem setF (f : FileD) : ∀ (l acc : List FileD), Srt l → (if (l.foldl (setStep f) (acc, false)).2 then (l.foldl (setStep f) (acc, false)).1 else (l.foldl (setStep f) (acc, false)).1 ++ [f]) = acc ++ ins l f := by
  intro l
  induction l with
  | nil => intro acc _; simp [ins]
  | cons g r ih =>
    intro acc h
    obtain ⟨h1, h2⟩ := List.pairwise_cons.1 h
    rw [List.foldl_cons]
    by_cases hb : g.path < f.path
    · have hlb : Go.Op.bytesLess g.path f.path = true := by rw [less_eq]; exact decide_eq_true hb
      have hne : ¬ g.path = f.path := fun e => by rw [e] at hb; exact str_irrefl _ hb
      have : setStep f (acc, false) g = (acc ++ [g], false) := by simp [setStep, hlb, hne]
      rw [this, ih _ h2]
      unfold ins
      rw [List.filter_cons, if_pos (decide_eq_true hb), List.filter_cons, if_neg (by simpa using str_asymm hb)]
      simp
    · have hlb : Go.Op.bytesLess g.path f.path = false := by rw [less_eq]; exact decide_eq_false hb
      have hgr : ∀ x ∈ r, f.path < x.path := fun x hx => by
        by_cases e : g.path = f.path
        · rw [← e]; exact h1 x hx
        · exact str_trans (str_total _ _ hb e) (h1 x hx)
      have b1 : r.filter (fun x => decide (x.path < f.path)) = [] := List.filter_eq_nil_iff.2 fun x hx => by simpa using str_asymm (hgr x hx)
      have b2 : r.filter (fun x => decide (f.path < x.path)) = r := List.filter_eq_self.2 fun x hx => decide_eq_true (hgr x hx)
      have b3 : r.filter (fun x => !decide (x.path = f.path)) = r := List.filter_eq_self.2 fun x hx => by
        have := hgr x hx
        simp only [Bool.not_eq_true', decide_eq_false_iff_not]
        intro e; rw [e] at this; exact str_irrefl _ this
      by_cases e : g.path = f.path
      · have : setStep f (acc, false) g = (acc ++ [f], true) := by
          rw [e] at hlb
          simp [setStep, hlb, e]
        rw [this, setT, b3]
        simp only [if_true]
        unfold ins
        rw [List.filter_cons, if_neg (by simpa using hb), List.filter_cons, if_neg (by simp [e, str_irrefl]), b1, b2]
        simp
      · have : setStep f (acc, false) g = (acc ++ [f] ++ [g], true) := by simp [setStep, hlb, e]
        rw [this, setT, b3]
        simp only [if_true]
        unfold ins
        rw [List.filter_cons, if_neg (by simpa using hb), List.filter_cons, if_pos (decide_eq_true (str_total _ _ hb e)), b1, b2]
        simp
theorem setS_ins {o : List FileD} {f : FileD} (h : Srt o) : setS o f = ins o f := by
  have := setF f o [] h
  rw [List.nil_append] at this
  exact this

theorem inP_set : ∀ {l o : List FileD}, Srt o → inP o l = setP o l ∧ Srt (inP o l) := by
  intro l
  induction l with
  | nil => intro o h; exact ⟨rfl, h⟩
  | cons f r ih =>
    intro o h
    have e1 := putI_ins (f := f) h
    have e2 := setS_ins (f := f) h
    obtain ⟨i1, i2⟩ := ih (srt_ins (f := f) h)
    simp only [inP, setP, List.foldl_cons] at i1 i2 ⊢
    rw [e1, e2]
    exact ⟨i1, i2⟩
theorem inP_self : ∀ {l o : List FileD}, Srt (o ++ l) → inP o l = o ++ l := by
  intro l
  induction l with
  | nil => intro o _; simp [inP]
  | cons f r ih =>
    intro o h
    have ho : Srt o := (List.pairwise_append.1 h).1
    have hlt : ∀ g ∈ o, g.path < f.path := fun g hg => (List.pairwise_append.1 h).2.2 g hg f (by simp)
    have e : (putI o f).1 = o ++ [f] := by
      rw [putI_ins ho]
      unfold ins
      rw [List.filter_eq_self.2 fun g hg => decide_eq_true (hlt g hg), List.filter_eq_nil_iff.2 fun g hg => by simpa using str_asymm (hlt g hg)]
    have : inP o (f :: r) = inP (o ++ [f]) r := by simp only [inP, List.foldl_cons, e]
    rw [this, ih (by simpa using h)]
    simp

theorem viewPut_eq (t : List FileD) (ps : List Str) (v : List FileD) : viewPutI t ps v = viewPutS t ps v := by
  unfold viewPutI viewPutS
  rw [tree_eq, tree_eq, view_eq]
  have hv : (fun f : FileD => visB f ps) = fun f : FileD => in25 ps f.path := funext fun f => vis_in f ps
  rw [hv]
  by_cases ht : treeS t = true
  · have hs : Srt t := tree_srt (by rw [tree_eq]; exact ht)
    have e1 : outP ps [] t = filB (fun f => !in25 ps f.path) t := by
      rw [outP_eq]
      have : (fun f : FileD => !visB f ps) = fun f : FileD => !in25 ps f.path := funext fun f => by rw [vis_in]
      rw [this, inP_self (by simpa using hs.filter _)]
      rfl
    have e2 : inP (outP ps [] t) v = setP (filB (fun f => !in25 ps f.path) t) v := by
      rw [e1]
      exact (inP_set (hs.filter _)).1
    rw [e2, tree_eq]
  · simp [ht]

end Vx
end Go.Proofs.YtlhkmgbmnbkaeaaDoor
/-
  What the laws of views say, in plain lists.
-/
namespace Go.Proofs.YtlhkmgbmnbkaeaaDoor
namespace Vx
open Go.RowKit

theorem srt_ext : ∀ {a b : List FileD}, Srt a → Srt b → (∀ x, x ∈ a ↔ x ∈ b) → a = b := by
  intro a
  induction a with
  | nil =>
    intro b _ _ h
    cases b with
    | nil => rfl
    | cons y b => have := (h y).2 (by simp); simp at this
  | cons x a ih =>
    intro b ha hb h
    obtain ⟨ha1, ha2⟩ := List.pairwise_cons.1 ha
    cases b with
    | nil => have := (h x).1 (by simp); simp at this
    | cons y b =>
      obtain ⟨hb1, hb2⟩ := List.pairwise_cons.1 hb
      have exy : x = y := by
        rcases List.mem_cons.1 ((h x).1 (by simp)) with e | hx
        · exact e
        · rcases List.mem_cons.1 ((h y).2 (by simp)) with e | hy
          · exact e.symm
          · exact absurd (str_trans (hb1 x hx) (ha1 y hy)) (str_irrefl _)
      subst exy
      congr 1
      refine ih ha2 hb2 fun z => ?_
      constructor
      · intro hz
        rcases List.mem_cons.1 ((h z).1 (by simp [hz])) with e | hz'
        · subst e; exact absurd (ha1 z hz) (str_irrefl _)
        · exact hz'
      · intro hz
        rcases List.mem_cons.1 ((h z).2 (by simp [hz])) with e | hz'
        · subst e; exact absurd (hb1 z hz) (str_irrefl _)
        · exact hz'
theorem mem_ins {o : List FileD} {f x : FileD} : x ∈ ins o f ↔ x = f ∨ (x ∈ o ∧ x.path ≠ f.path) := by
  unfold ins
  simp only [List.mem_append, List.mem_cons, List.mem_filter, decide_eq_true_eq]
  constructor
  · rintro (⟨h1, h2⟩ | rfl | ⟨h1, h2⟩)
    · exact .inr ⟨h1, fun e => by rw [e] at h2; exact str_irrefl _ h2⟩
    · exact .inl rfl
    · exact .inr ⟨h1, fun e => by rw [e] at h2; exact str_irrefl _ h2⟩
  · rintro (rfl | ⟨h1, h2⟩)
    · exact .inr (.inl rfl)
    · by_cases h : x.path < f.path
      · exact .inl ⟨h1, h⟩
      · exact .inr (.inr ⟨h1, str_total _ _ h h2⟩)
theorem mem_inP : ∀ {l o : List FileD} {x : FileD}, Srt o → Srt l → (x ∈ inP o l ↔ x ∈ l ∨ (x ∈ o ∧ ∀ f ∈ l, x.path ≠ f.path)) := by
  intro l
  induction l with
  | nil => intro o x _ _; simp [inP]
  | cons f r ih =>
    intro o x ho hl
    obtain ⟨h1, h2⟩ := List.pairwise_cons.1 hl
    have e : inP o (f :: r) = inP (ins o f) r := by simp only [inP, List.foldl_cons, putI_ins ho]
    rw [e, ih (srt_ins ho) h2, mem_ins]
    simp only [List.mem_cons, forall_eq_or_imp]
    constructor
    · rintro (h | ⟨rfl | ⟨h3, h4⟩, h5⟩)
      · exact .inl (.inr h)
      · exact .inl (.inl rfl)
      · exact .inr ⟨h3, h4, h5⟩
    · rintro ((rfl | h) | ⟨h3, h4, h5⟩)
      · exact .inr ⟨.inl rfl, fun g hg e => by have := h1 g hg; rw [e] at this; exact str_irrefl _ this⟩
      · exact .inl h
      · exact .inr ⟨.inr ⟨h3, h4⟩, h5⟩
theorem inP_srt {l o : List FileD} (h : Srt o) : Srt (inP o l) := (inP_set h).2

/-- A tree that is ok. -/
def Okt (t : List FileD) : Prop := t.length ≤ 8 ∧ (∀ f ∈ t, textB f.text = true ∧ pathI f.path = true) ∧ Srt t ∧ t.Pairwise fun a b => pathInI a.path b.path = false
theorem okt_iff (t : List FileD) : treeI t = true ↔ Okt t := by
  have hg : ∀ i (h : i < t.length), t.getD i default = t[i] := fun i h => by simp [List.getD_eq_getElem?_getD, h]
  constructor
  · intro h
    have hs := tree_srt h
    simp only [treeI, Bool.and_eq_true, decide_eq_true_eq, List.all_eq_true, List.mem_range] at h
    refine ⟨h.1, fun f hf => ?_, hs, List.pairwise_iff_getElem.2 fun i j hi hj hij => ?_⟩
    · obtain ⟨i, hi, rfl⟩ := List.getElem_of_mem hf
      have h1 := (h.2 i hi).1
      simp only [headI, hg i hi, Bool.and_eq_true] at h1
      exact ⟨h1.1.1, h1.1.2⟩
    · have h1 := (h.2 j hj).2
      simp only [noUp, List.all_eq_true, List.mem_range, Bool.not_eq_true'] at h1
      have := h1 i hij
      rwa [hg i hi, hg j hj] at this
  · rintro ⟨h1, h2, h3, h4⟩
    simp only [treeI, Bool.and_eq_true, decide_eq_true_eq, List.all_eq_true, List.mem_range]
    refine ⟨h1, fun i hi => ⟨?_, ?_⟩⟩
    · have h5 := h2 _ (List.getElem_mem hi)
      simp only [headI, hg i hi, h5.1, h5.2, Bool.true_and, Bool.or_eq_true, decide_eq_true_eq]
      by_cases h0 : i = 0
      · exact .inl h0
      · right
        rw [hg (i - 1) (by omega), less_eq, decide_eq_true_eq]
        exact List.pairwise_iff_getElem.1 h3 (i - 1) i (by omega) hi (by omega)
    · simp only [noUp, List.all_eq_true, List.mem_range, Bool.not_eq_true']
      intro k hk
      rw [hg k (by omega), hg i hi]
      exact List.pairwise_iff_getElem.1 h4 k i (by omega) hi hk
theorem okt_filter {t : List FileD} (h : treeI t = true) (p : FileD → Bool) : treeI (t.filter p) = true := by
  obtain ⟨h1, h2, h3, h4⟩ := (okt_iff t).1 h
  exact (okt_iff _).2 ⟨Nat.le_trans (List.length_filter_le _ _) h1, fun f hf => h2 f (List.mem_filter.1 hf).1, h3.filter _, h4.filter _⟩

theorem outP_filter {ps : List Str} {t : List FileD} (h : Srt t) : outP ps [] t = t.filter fun f => !visB f ps := by
  rw [outP_eq, inP_self (by simpa using h.filter _)]; rfl
/-- What is put as it is seen changes nothing. -/
theorem view_put_self {t : List FileD} {ps : List Str} (ht : treeI t = true) (hp : viewI ps = true) :
    viewPutI t ps (viewOfI t ps) = (t, true) ∧ treeI (viewOfI t ps) = true ∧ viewOfI (viewOfI t ps) ps = viewOfI t ps := by
  have hs := tree_srt ht
  have e1 : viewOfI t ps = t.filter fun f => visB f ps := by unfold viewOfI; rw [ht, hp]; rfl
  have hv : treeI (t.filter fun f => visB f ps) = true := okt_filter ht _
  have e2 : viewOfI (t.filter fun f => visB f ps) ps = t.filter fun f => visB f ps := by
    unfold viewOfI; rw [hv, hp]; simp [filB, List.filter_filter]
  have e3 : inP (outP ps [] t) (t.filter fun f => visB f ps) = t := by
    rw [outP_filter hs]
    refine srt_ext (inP_srt (hs.filter _)) hs fun x => ?_
    rw [mem_inP (hs.filter _) (hs.filter _)]
    simp only [List.mem_filter, Bool.not_eq_true']
    constructor
    · rintro (h | h)
      · exact h.1
      · exact h.1.1
    · intro h
      cases hx : visB x ps with
      | true => exact .inl ⟨h, rfl⟩
      | false =>
        refine .inr ⟨⟨h, rfl⟩, fun f hf e => ?_⟩
        have := hf.2
        rw [vis_in, ← e, ← vis_in, hx] at this
        cases this
  have e4 : (t.filter fun f => visB f ps).all (fun f => visB f ps) = true := List.all_eq_true.2 fun f hf => (List.mem_filter.1 hf).2
  rw [e1]
  refine ⟨?_, hv, e2⟩
  unfold viewPutI
  rw [ht, hp, hv, e4, e3, ht]; rfl

/-- An empty view put. -/
theorem view_put_nil {t : List FileD} {ps : List Str} (ht : treeI t = true) (hp : viewI ps = true) : viewPutI t ps [] = (t.filter (fun f => !visB f ps), true) := by
  have hs := tree_srt ht
  have h0 : treeI [] = true := by decide
  have e : inP (outP ps [] t) [] = t.filter fun f => !visB f ps := by rw [outP_filter hs]; rfl
  unfold viewPutI
  rw [ht, hp, h0, e, okt_filter ht]; rfl
theorem view_free_law {t : List FileD} {a b : List Str} (h : freeI t a b = true) :
    (viewPutI t a []).2 = true ∧ (viewPutI (viewPutI t a []).1 b []).2 = true ∧ (viewPutI t b []).2 = true ∧ (viewPutI (viewPutI t b []).1 a []).2 = true ∧
      (viewPutI (viewPutI t a []).1 b []).1 = (viewPutI (viewPutI t b []).1 a []).1 ∧ viewOfI (viewPutI t a []).1 b = viewOfI t b ∧ freeI t b a = true := by
  unfold freeI at h
  simp only [Bool.and_eq_true, List.all_eq_true] at h
  obtain ⟨⟨⟨ht, ha⟩, hb⟩, hf⟩ := h
  have f1 := okt_filter ht fun f => !visB f a
  have f2 := okt_filter ht fun f => !visB f b
  rw [view_put_nil ht ha, view_put_nil ht hb, view_put_nil f1 hb, view_put_nil f2 ha]
  refine ⟨rfl, rfl, rfl, rfl, ?_, ?_, ?_⟩
  · simp only [List.filter_filter]
    congr 1
    funext f
    exact Bool.and_comm _ _
  · unfold viewOfI
    rw [ht, f1, hb]
    simp only [filB, Bool.true_and, if_true, List.filter_filter]
    refine List.filter_congr fun f hm => ?_
    have := hf f hm
    cases h1 : visB f a <;> cases h2 : visB f b <;> simp_all
  · unfold freeI
    simp only [Bool.and_eq_true, List.all_eq_true]
    refine ⟨⟨⟨ht, hb⟩, ha⟩, fun f hm => ?_⟩
    have := hf f hm
    rwa [Bool.and_comm]

end Vx
end Go.Proofs.YtlhkmgbmnbkaeaaDoor
/-
  Contracts: draws of lines, paths, texts.
-/
namespace Go.Proofs.YtlhkmgbmnbkaeaaDoor
namespace Vx
open Go.RowKit
set_option maxRecDepth 8000

theorem eStrs_isCons (b : List Str) (x : Str) (R : List (List D)) : (eStrs b = [D.str x] :: R) = ∃ t, b = x :: t ∧ eStrs t = R := by
  apply propext
  constructor
  · intro h
    cases b with
    | nil => cases h
    | cons y t =>
      simp only [eStrs, List.map_cons, List.cons.injEq, eStr, D.str.injEq, and_true] at h
      exact ⟨t, by rw [h.1], h.2⟩
  · rintro ⟨t, rfl, rfl⟩; rfl
theorem eInts_isCons (b : List Int) (x : Int) (R : List (List D)) : (eInts b = [D.int .i64 x] :: R) = ∃ t, b = x :: t ∧ eInts t = R := by
  apply propext
  constructor
  · intro h
    cases b with
    | nil => cases h
    | cons y t =>
      simp only [eInts, List.map_cons, List.cons.injEq, eInt, D.int.injEq, true_and, and_true] at h
      exact ⟨t, by rw [h.1], h.2⟩
  · rintro ⟨t, rfl, rfl⟩; rfl
/-- A contract of a function that draws: the code and the place; the place goes on by at most m. -/
def cLine : Con := { A := Str × Int, X := Str, n := 6, args := fun _ => [.ptr 0 0], boxes := fun a => [(0, 134, [.sl true 1 (eBytes a.1), .int .i64 a.2])], pre := fun a => a.1.length ≤ 2000 ∧ 0 ≤ a.2 ∧ a.2 ≤ 1073741824, post := fun _ x => x.length ≤ 7, res := fun _ x => .str x, fin := fun a _ => [(0, rdBox a.1 (a.2 + 1))], nob := false }
set_option maxHeartbeats 4000000 in
theorem line_has : Has Tryd.prog 168 cLine := by
  refine has_walk mixed tTab_ok (l := [(69, cOf)]) (HasL.cons of_has HasL.nil) [0, 2] ((fun a n (_ : Nat) => (fun _ => noInv) a n)) [] Tryd.func168 (by kernel_rfl) (code := _) (by unfold Tryd.f168; rfl) (by kernel_rfl) (by decide) (fun _ => ⟨([] : Str), Nat.zero_le 7⟩) (by intro h; first | exact fun _ => rfl | cases h) (by kernel_rfl) ?_
  intro a ha
  obtain ⟨s, p⟩ := a
  obtain ⟨h1, h2, h3⟩ : s.length ≤ 2000 ∧ 0 ≤ p ∧ p ≤ 1073741824 := ha
  simp -implicitDefEqProofs [vc_skip, extOf, vc_seq, vc_cond, vc_block, vc_exit, vc_ret, vc_region, vc_regionD, vc_loop, kSeq_normal, kSeq_ret, kSeq_exit, kBlock_normal, kBlock_ret, kBlock_exit, kLoop_normal, kLoop_ret, kLoop_exit, kCond_bool, kNorm_app, vcOps_nil, vcOps_cons, kOps_app, kStep_some, kStep_none, vcDL_nil, vcDL_cons, kOpsD_app, kStepD_true, kStepD_false, kStepC_some, kStepC_none, kMv_app, act3_store, act3_call, act3_bs, kAct_app, kSt2_app, stealSlots, stealL, stealOne, subIn, AV.stolen, act_store, act_bs, act_append, act_call, kSet_app, kSet2_app, kSetG_app, kSetG_app0, kStore_ptr, kStore_eptr, kCallW_some, kCallC_some, kCall_some, wk_T, wk_n, wk_keep, wk_inv, wk_act, wk_dr, wk_le, aCalm, wantC, dstOk, calm, aCallK, aCall3K, subOf, subRep, aCall2K, apnd, bsMove, putBox, putOwn, partAV, mvL, AV.mv, AV.base, AV.moved, AV.src, TI.flat, apSize, pickAV, St.val, St.cond, St.fn, St.next, St.set, St.trim, wipe_eq, wipeE_app, wipeM_app, pickEnv, get?, cGet, upd_app, withPuts, killAll, rm, freshP, Oper.hnd, Sc.st, ofConst, constOk, lenAV, elemLen, loadAV, ldL, ld1, fieldAddrAV, indexAddrAV, sliceAV, convAV, buildAV, fillAV, fieldAV, Out.of, binAV, AV.rows, AV.one, AV.cells, AV.deepOk, AV.toD, toDs, partRows, partRowsM, partsDeep, TK.zeroAV, TK.zeroD, byteOf, inR, Op.operands, Call.operands, passVs, passV, passL, pass1, passB, pasVs, pasV, pasL, pas1, ownsOk, okHs, okHs2, okFin, finOk2, rho, over, backRes, backAV, backAV1, backBlk, putBack, back2, back2_V, back2_1, m2, AV.wipe, AV.wipeV, AV.wipe1, Blk.wipe, AV.hs, AV.hs.hsL, alOps, Con.start2, Con.pk, bodyQ, fini, resAV, resA, firstId, Sc.from, renEnv, renT, renV, renVs, renL, ren1, renBox, renOwn, okRen, clOf, actB, setRow, flatRows, flatD, noInv, shr_nil, shr_some, kStepF_some, shareL, AV.viewed, AV.viewed1, cLine, cOf, tTab, eStrs_isCons, clash, kd, eByte, all_true]
  refine ⟨s, p, ⟨rfl, rfl⟩, ⟨h1, h2, h3⟩, ?_⟩
  simp
def cPath : Con := { A := Str × Int, X := Str, n := 6, args := fun _ => [.ptr 0 0], boxes := fun a => [(0, 134, [.sl true 1 (eBytes a.1), .int .i64 a.2])], pre := fun a => a.1.length ≤ 2000 ∧ 0 ≤ a.2 ∧ a.2 ≤ 1073741824, post := fun _ x => x.length ≤ 5, res := fun _ x => .str x, fin := fun a _ => [(0, rdBox a.1 (a.2 + 1))], nob := false }
set_option maxHeartbeats 4000000 in
theorem path_has : Has Tryd.prog 150 cPath := by
  refine has_walk mixed tTab_ok (l := [(69, cOf)]) (HasL.cons of_has HasL.nil) [0, 2] ((fun a n (_ : Nat) => (fun _ => noInv) a n)) [] Tryd.func150 (by kernel_rfl) (code := _) (by unfold Tryd.f150; rfl) (by kernel_rfl) (by decide) (fun _ => ⟨([] : Str), Nat.zero_le 5⟩) (by intro h; first | exact fun _ => rfl | cases h) (by kernel_rfl) ?_
  intro a ha
  obtain ⟨s, p⟩ := a
  obtain ⟨h1, h2, h3⟩ : s.length ≤ 2000 ∧ 0 ≤ p ∧ p ≤ 1073741824 := ha
  simp -implicitDefEqProofs [vc_skip, extOf, vc_seq, vc_cond, vc_block, vc_exit, vc_ret, vc_region, vc_regionD, vc_loop, kSeq_normal, kSeq_ret, kSeq_exit, kBlock_normal, kBlock_ret, kBlock_exit, kLoop_normal, kLoop_ret, kLoop_exit, kCond_bool, kNorm_app, vcOps_nil, vcOps_cons, kOps_app, kStep_some, kStep_none, vcDL_nil, vcDL_cons, kOpsD_app, kStepD_true, kStepD_false, kStepC_some, kStepC_none, kMv_app, act3_store, act3_call, act3_bs, kAct_app, kSt2_app, stealSlots, stealL, stealOne, subIn, AV.stolen, act_store, act_bs, act_append, act_call, kSet_app, kSet2_app, kSetG_app, kSetG_app0, kStore_ptr, kStore_eptr, kCallW_some, kCallC_some, kCall_some, wk_T, wk_n, wk_keep, wk_inv, wk_act, wk_dr, wk_le, aCalm, wantC, dstOk, calm, aCallK, aCall3K, subOf, subRep, aCall2K, apnd, bsMove, putBox, putOwn, partAV, mvL, AV.mv, AV.base, AV.moved, AV.src, TI.flat, apSize, pickAV, St.val, St.cond, St.fn, St.next, St.set, St.trim, wipe_eq, wipeE_app, wipeM_app, pickEnv, get?, cGet, upd_app, withPuts, killAll, rm, freshP, Oper.hnd, Sc.st, ofConst, constOk, lenAV, elemLen, loadAV, ldL, ld1, fieldAddrAV, indexAddrAV, sliceAV, convAV, buildAV, fillAV, fieldAV, Out.of, binAV, AV.rows, AV.one, AV.cells, AV.deepOk, AV.toD, toDs, partRows, partRowsM, partsDeep, TK.zeroAV, TK.zeroD, byteOf, inR, Op.operands, Call.operands, passVs, passV, passL, pass1, passB, pasVs, pasV, pasL, pas1, ownsOk, okHs, okHs2, okFin, finOk2, rho, over, backRes, backAV, backAV1, backBlk, putBack, back2, back2_V, back2_1, m2, AV.wipe, AV.wipeV, AV.wipe1, Blk.wipe, AV.hs, AV.hs.hsL, alOps, Con.start2, Con.pk, bodyQ, fini, resAV, resA, firstId, Sc.from, renEnv, renT, renV, renVs, renL, ren1, renBox, renOwn, okRen, clOf, actB, setRow, flatRows, flatD, noInv, shr_nil, shr_some, kStepF_some, shareL, AV.viewed, AV.viewed1, cPath, cOf, tTab, eStrs_isCons, clash, kd, eByte, all_true]
  refine ⟨s, p, ⟨rfl, rfl⟩, ⟨h1, h2, h3⟩, ?_⟩
  simp

def cText : Con := { A := Str × Int, X := List Str × Int, n := 19, args := fun _ => [.ptr 0 0], boxes := fun a => [(0, 134, [.sl true 1 (eBytes a.1), .int .i64 a.2])], pre := fun a => a.1.length ≤ 2000 ∧ 0 ≤ a.2 ∧ a.2 ≤ 1073741800, post := fun a x => x.1.length ≤ 8 ∧ (∀ s ∈ x.1, s.length ≤ 7) ∧ a.2 ≤ x.2 ∧ x.2 ≤ a.2 + 9, res := fun _ x => .own 8 1 (eStrs x.1), fin := fun a x => [(0, rdBox a.1 x.2), (8, .own 9 1 true (eStrs x.1))], nob := false }
set_option maxHeartbeats 4000000 in
theorem text_has : Has Tryd.prog 151 cText := by
  refine has_walk mixed tTab_ok (l := [(167, cOne), (168, cLine)]) (HasL.cons one_has (HasL.cons line_has HasL.nil)) [0, 2, 3, 4] ((fun a n (_ : Nat) => (fun a _ => ⟨List Str × Int × Nat, fun t => ⟨[(0, true, .ptr 0 0), (2, true, .nil), (3, true, .own 9 1 (eStrs t.1)), (4, true, .int .i64 t.2.2)], [(0, rdBox a.1 t.2.1), (9, .own 9 1 true (eStrs t.1))]⟩, fun t => t.1.length + t.2.2 ≤ 8 ∧ (∀ s ∈ t.1, s.length ≤ 7) ∧ a.2 ≤ t.2.1 ∧ t.2.1 ≤ a.2 + 1 + t.1.length, fun t => t.2.2⟩) a n)) [] Tryd.func151 (by kernel_rfl) (code := _) (by unfold Tryd.f151; rfl) (by kernel_rfl) (by decide) (fun a => ⟨(([] : List Str), a.2), Nat.zero_le 8, (by simp), Int.le_refl _, by omega⟩) (by intro h; first | exact fun _ => rfl | cases h) (by kernel_rfl) ?_
  intro a ha
  obtain ⟨s, p⟩ := a
  obtain ⟨h1, h2, h3⟩ : s.length ≤ 2000 ∧ 0 ≤ p ∧ p ≤ 1073741800 := ha
  simp -implicitDefEqProofs [vc_skip, extOf, vc_seq, vc_cond, vc_block, vc_exit, vc_ret, vc_region, vc_regionD, vc_loop, kSeq_normal, kSeq_ret, kSeq_exit, kBlock_normal, kBlock_ret, kBlock_exit, kLoop_normal, kLoop_ret, kLoop_exit, kCond_bool, kNorm_app, vcOps_nil, vcOps_cons, kOps_app, kStep_some, kStep_none, vcDL_nil, vcDL_cons, kOpsD_app, kStepD_true, kStepD_false, kStepC_some, kStepC_none, kMv_app, act3_store, act3_call, act3_bs, kAct_app, kSt2_app, stealSlots, stealL, stealOne, subIn, AV.stolen, act_store, act_bs, act_append, act_call, kSet_app, kSet2_app, kSetG_app, kSetG_app0, kStore_ptr, kStore_eptr, kCallW_some, kCallC_some, kCall_some, wk_T, wk_n, wk_keep, wk_inv, wk_act, wk_dr, wk_le, aCalm, wantC, dstOk, calm, aCallK, aCall3K, subOf, subRep, aCall2K, apnd, bsMove, putBox, putOwn, partAV, mvL, AV.mv, AV.base, AV.moved, AV.src, TI.flat, apSize, pickAV, St.val, St.cond, St.fn, St.next, St.set, St.trim, wipe_eq, wipeE_app, wipeM_app, pickEnv, get?, cGet, upd_app, withPuts, killAll, rm, freshP, Oper.hnd, Sc.st, ofConst, constOk, lenAV, elemLen, loadAV, ldL, ld1, fieldAddrAV, indexAddrAV, sliceAV, convAV, buildAV, fillAV, fieldAV, Out.of, binAV, AV.rows, AV.one, AV.cells, AV.deepOk, AV.toD, toDs, partRows, partRowsM, partsDeep, TK.zeroAV, TK.zeroD, byteOf, inR, Op.operands, Call.operands, passVs, passV, passL, pass1, passB, pasVs, pasV, pasL, pas1, ownsOk, okHs, okHs2, okFin, finOk2, rho, over, backRes, backAV, backAV1, backBlk, putBack, back2, back2_V, back2_1, m2, AV.wipe, AV.wipeV, AV.wipe1, Blk.wipe, AV.hs, AV.hs.hsL, alOps, Con.start2, Con.pk, bodyQ, fini, resAV, resA, firstId, Sc.from, renEnv, renT, renV, renVs, renL, ren1, renBox, renOwn, okRen, clOf, actB, setRow, flatRows, flatD, noInv, shr_nil, shr_some, kStepF_some, shareL, AV.viewed, AV.viewed1, cText, cOne, cLine, tTab, eInts_isCons, clash, kd, eByte, all_true]
  refine ⟨s, p, ⟨rfl, rfl⟩, ⟨h1, by omega, by omega⟩, ?_⟩
  refine ⟨⟨⟨[], p + 1, 0, by simp; omega⟩, ?_⟩, ⟨⟨[], p + 1, 1, by simp; omega⟩, ?_⟩, ⟨⟨[], p + 1, 3, by simp; omega⟩, ?_⟩, ⟨⟨[], p + 1, 5, by simp; omega⟩, ?_⟩, ⟨[], p + 1, 8, by simp; omega⟩, ?_⟩
  all_goals
    intro a q n g1 g2 g3 g4
    refine ⟨fun hn => ⟨s, q, ⟨rfl, rfl⟩, ⟨h1, by omega, by omega⟩, fun y hy => ⟨by omega, by omega, fun _ _ => ⟨a ++ [y], q + 1, n - 1, ⟨⟨(eStrs_snoc a y).symm, by omega⟩, ⟨rfl, rfl⟩, eStrs_snoc a y⟩, ⟨by simp; omega, fun x hx => ?_, by omega, by simp; omega⟩, by omega⟩⟩⟩, fun hn => ⟨a, q, ⟨by omega, g2, by omega, by omega⟩, rfl, rfl, rfl⟩⟩
    rcases List.mem_append.1 hx with hx | hx
    · exact g2 x hx
    · simp at hx; subst hx; exact hy

end Vx
end Go.Proofs.YtlhkmgbmnbkaeaaDoor
/-
  Contracts: trees drawn.
-/
namespace Go.Proofs.YtlhkmgbmnbkaeaaDoor
namespace Vx
open Go.RowKit
set_option maxRecDepth 8000

def treeSetS (t : List FileD) (f : FileD) : List FileD × Bool := if treeS t then (if treeS (setS t f) then (setS t f, true) else (t, false)) else ([], false)
theorem treeSetS_len (t : List FileD) (f : FileD) : (treeSetS t f).1.length ≤ t.length + 1 := by
  have := setS_len t f
  unfold treeSetS
  split
  · split <;> simp <;> omega
  · simp
theorem treeSetS_mem (t : List FileD) (f : FileD) : ∀ g ∈ (treeSetS t f).1, g ∈ t ∨ g = f := by
  intro g hg
  unfold treeSetS at hg
  split at hg
  · split at hg
    · exact setS_mem t f g hg
    · exact .inl hg
  · simp at hg

def cTreeSetS : Con := .fn 20 (List FileD × FileD) (fun a => [.sl true 2 (eFiles a.1), .agg [.str a.2.path, .sl true 1 (eStrs a.2.text)]]) (fun a => (a.1.length ≤ 1048575 ∧ ∀ f ∈ a.1, f.text.length ≤ 1048576) ∧ a.2.text.length ≤ 1048576) (fun a => .tup [.sl false 2 (eFiles (treeSetS a.1 a.2).1), .bool (treeSetS a.1 a.2).2]) (fun _ => [])
set_option maxHeartbeats 4000000 in
theorem treeSetS_has : Has Tryd.prog 149 cTreeSetS := by
  refine has_walk mixed tTab_ok (l := [(72, cL4Ok), (86, cL4Copy), (91, cL4Set)]) (HasL.cons l4Ok_has (HasL.cons l4Copy_has (HasL.cons l4Set_has HasL.nil))) [0, 1, 3, 4, 5, 6] ((fun a n (_ : Nat) => (fun _ => noInv) a n)) [] Tryd.func149 (by kernel_rfl) (code := _) (by unfold Tryd.f149; rfl) (by kernel_rfl) (by decide) (fun _ => ⟨(), trivial⟩) (by intro h; first | exact fun _ => rfl | cases h) (by kernel_rfl) ?_
  intro a ha
  obtain ⟨t, f⟩ := a
  obtain ⟨⟨q1, q2⟩, q3⟩ : (t.length ≤ 1048575 ∧ ∀ f ∈ t, f.text.length ≤ 1048576) ∧ f.text.length ≤ 1048576 := ha
  simp -implicitDefEqProofs [vc_skip, extOf, vc_seq, vc_cond, vc_block, vc_exit, vc_ret, vc_region, vc_regionD, vc_loop, kSeq_normal, kSeq_ret, kSeq_exit, kBlock_normal, kBlock_ret, kBlock_exit, kLoop_normal, kLoop_ret, kLoop_exit, kCond_bool, kNorm_app, vcOps_nil, vcOps_cons, kOps_app, kStep_some, kStep_none, vcDL_nil, vcDL_cons, kOpsD_app, kStepD_true, kStepD_false, kStepC_some, kStepC_none, kMv_app, act3_store, act3_call, act3_bs, kAct_app, kSt2_app, stealSlots, stealL, stealOne, subIn, AV.stolen, act_store, act_bs, act_append, act_call, kSet_app, kSet2_app, kSetG_app, kSetG_app0, kStore_ptr, kStore_eptr, kCallW_some, kCallC_some, kCall_some, wk_T, wk_n, wk_keep, wk_inv, wk_act, wk_dr, wk_le, aCalm, wantC, dstOk, calm, aCallK, aCall3K, subOf, subRep, aCall2K, apnd, bsMove, putBox, putOwn, partAV, mvL, AV.mv, AV.base, AV.moved, AV.src, TI.flat, apSize, pickAV, St.val, St.cond, St.fn, St.next, St.set, St.trim, wipe_eq, wipeE_app, wipeM_app, pickEnv, get?, cGet, upd_app, withPuts, killAll, rm, freshP, Oper.hnd, Sc.st, ofConst, constOk, lenAV, elemLen, loadAV, ldL, ld1, fieldAddrAV, indexAddrAV, sliceAV, convAV, buildAV, fillAV, fieldAV, Out.of, binAV, AV.rows, AV.one, AV.cells, AV.deepOk, AV.toD, toDs, partRows, partRowsM, partsDeep, TK.zeroAV, TK.zeroD, byteOf, inR, Op.operands, Call.operands, passVs, passV, passL, pass1, passB, pasVs, pasV, pasL, pas1, ownsOk, okHs, okHs2, okFin, finOk2, rho, over, backRes, backAV, backAV1, backBlk, putBack, back2, back2_V, back2_1, m2, AV.wipe, AV.wipeV, AV.wipe1, Blk.wipe, AV.hs, AV.hs.hsL, alOps, Con.start2, Con.pk, bodyQ, fini, resAV, resA, firstId, Sc.from, renEnv, renT, renV, renVs, renL, ren1, renBox, renOwn, okRen, clOf, actB, setRow, flatRows, flatD, noInv, shr_nil, shr_some, kStepF_some, shareL, AV.viewed, AV.viewed1, cTreeSetS, Con.fn, tTab, cL4Ok, cL4Copy, cL4Set, treeSetS]
  try dsimp only
  try simp +contextual -implicitDefEqProofs [eStr, eFile, cast_succ, cast_eq, cast_zero, List.getElem?_eq_getElem, eStrs_set, eFiles_set, eStrs_rep, eFiles_rep, ← eStrs_append, ← eFiles_append, eStrs_take, eStrs_drop, eFiles_take, eFiles_drop, eStrs_snoc, eFiles_snoc, and_assoc]
  repeat' (first | intro _ | apply And.intro)
  all_goals first | omega | grind [all_take, treeSetS]

def cAnyPath : Con := { A := Str × Int, X := Str, n := 11, args := fun _ => [.ptr 0 0], boxes := fun a => [(0, 134, [.sl true 1 (eBytes a.1), .int .i64 a.2])], pre := fun a => a.1.length ≤ 2000 ∧ 0 ≤ a.2 ∧ a.2 ≤ 1073741800, post := fun _ x => x.length ≤ 7, res := fun _ x => .str x, fin := fun a _ => [(0, rdBox a.1 (a.2 + 2))], nob := false }
set_option maxHeartbeats 4000000 in
theorem anyPath_has : Has Tryd.prog 124 cAnyPath := by
  refine has_walk mixed tTab_ok (l := [(110, cPick), (69, cOf), (150, cPath)]) (HasL.cons pick_has (HasL.cons of_has (HasL.cons path_has HasL.nil))) [0, 2] ((fun a n (_ : Nat) => (fun _ => noInv) a n)) [] Tryd.func124 (by kernel_rfl) (code := _) (by unfold Tryd.f124; rfl) (by kernel_rfl) (by decide) (fun _ => ⟨([] : Str), Nat.zero_le 7⟩) (by intro h; first | exact fun _ => rfl | cases h) (by kernel_rfl) ?_
  intro a ha
  obtain ⟨s, p⟩ := a
  obtain ⟨h1, h2, h3⟩ : s.length ≤ 2000 ∧ 0 ≤ p ∧ p ≤ 1073741800 := ha
  simp -implicitDefEqProofs [vc_skip, extOf, vc_seq, vc_cond, vc_block, vc_exit, vc_ret, vc_region, vc_regionD, vc_loop, kSeq_normal, kSeq_ret, kSeq_exit, kBlock_normal, kBlock_ret, kBlock_exit, kLoop_normal, kLoop_ret, kLoop_exit, kCond_bool, kNorm_app, vcOps_nil, vcOps_cons, kOps_app, kStep_some, kStep_none, vcDL_nil, vcDL_cons, kOpsD_app, kStepD_true, kStepD_false, kStepC_some, kStepC_none, kMv_app, act3_store, act3_call, act3_bs, kAct_app, kSt2_app, stealSlots, stealL, stealOne, subIn, AV.stolen, act_store, act_bs, act_append, act_call, kSet_app, kSet2_app, kSetG_app, kSetG_app0, kStore_ptr, kStore_eptr, kCallW_some, kCallC_some, kCall_some, wk_T, wk_n, wk_keep, wk_inv, wk_act, wk_dr, wk_le, aCalm, wantC, dstOk, calm, aCallK, aCall3K, subOf, subRep, aCall2K, apnd, bsMove, putBox, putOwn, partAV, mvL, AV.mv, AV.base, AV.moved, AV.src, TI.flat, apSize, pickAV, St.val, St.cond, St.fn, St.next, St.set, St.trim, wipe_eq, wipeE_app, wipeM_app, pickEnv, get?, cGet, upd_app, withPuts, killAll, rm, freshP, Oper.hnd, Sc.st, ofConst, constOk, lenAV, elemLen, loadAV, ldL, ld1, fieldAddrAV, indexAddrAV, sliceAV, convAV, buildAV, fillAV, fieldAV, Out.of, binAV, AV.rows, AV.one, AV.cells, AV.deepOk, AV.toD, toDs, partRows, partRowsM, partsDeep, TK.zeroAV, TK.zeroD, byteOf, inR, Op.operands, Call.operands, passVs, passV, passL, pass1, passB, pasVs, pasV, pasL, pas1, ownsOk, okHs, okHs2, okFin, finOk2, rho, over, backRes, backAV, backAV1, backBlk, putBack, back2, back2_V, back2_1, m2, AV.wipe, AV.wipeV, AV.wipe1, Blk.wipe, AV.hs, AV.hs.hsL, alOps, Con.start2, Con.pk, bodyQ, fini, resAV, resA, firstId, Sc.from, renEnv, renT, renV, renVs, renL, ren1, renBox, renOwn, okRen, clOf, actB, setRow, flatRows, flatD, noInv, shr_nil, shr_some, kStepF_some, shareL, AV.viewed, AV.viewed1, cAnyPath, cPick, cOf, cPath, tTab, eStrs_isCons, clash, kd, eByte, all_true]
  have e : p + 2 = p + 1 + 1 := by omega
  refine ⟨s, p, ⟨rfl, rfl⟩, ⟨h1, by omega, by omega⟩, fun y _ _ => ⟨fun _ => ⟨s, p + 1, ⟨rfl, rfl⟩, ⟨h1, by omega, by omega⟩, by simp -implicitDefEqProofs [e]⟩, fun _ => ⟨s, p + 1, ⟨rfl, rfl⟩, ⟨h1, by omega, by omega⟩, fun y hy => ⟨y, by omega, rfl, rfl, e⟩⟩⟩⟩

def cAnyText : Con := { A := Str × Int, X := List Str × Int, n := 22, args := fun _ => [.ptr 0 0], boxes := fun a => [(0, 134, [.sl true 1 (eBytes a.1), .int .i64 a.2])], pre := fun a => a.1.length ≤ 2000 ∧ 0 ≤ a.2 ∧ a.2 ≤ 1073741700, post := fun a x => x.1.length ≤ 18 ∧ (∀ s ∈ x.1, s.length ≤ 15) ∧ a.2 ≤ x.2 ∧ x.2 ≤ a.2 + 12, res := fun _ x => .own 8 1 (eStrs x.1), fin := fun a x => [(0, rdBox a.1 x.2), (8, .own 9 1 true (eStrs x.1))], nob := false }
set_option maxHeartbeats 4000000 in
theorem anyText_has : Has Tryd.prog 125 cAnyText := by
  refine has_walk mixed tTab_ok (l := [(110, cPick), (69, cOf), (151, cText)]) (HasL.cons pick_has (HasL.cons of_has (HasL.cons text_has HasL.nil))) [0, 2, 3, 7] ((fun a n (_ : Nat) => (fun _ => noInv) a n)) [] Tryd.func125 (by kernel_rfl) (code := _) (by unfold Tryd.f125; rfl) (by kernel_rfl) (by decide) (fun a => ⟨(([] : List Str), a.2), Nat.zero_le 18, (by simp), Int.le_refl _, by omega⟩) (by intro h; first | exact fun _ => rfl | cases h) (by kernel_rfl) ?_
  intro a ha
  obtain ⟨s, p⟩ := a
  obtain ⟨h1, h2, h3⟩ : s.length ≤ 2000 ∧ 0 ≤ p ∧ p ≤ 1073741700 := ha
  simp -implicitDefEqProofs [vc_skip, extOf, vc_seq, vc_cond, vc_block, vc_exit, vc_ret, vc_region, vc_regionD, vc_loop, kSeq_normal, kSeq_ret, kSeq_exit, kBlock_normal, kBlock_ret, kBlock_exit, kLoop_normal, kLoop_ret, kLoop_exit, kCond_bool, kNorm_app, vcOps_nil, vcOps_cons, kOps_app, kStep_some, kStep_none, vcDL_nil, vcDL_cons, kOpsD_app, kStepD_true, kStepD_false, kStepC_some, kStepC_none, kMv_app, act3_store, act3_call, act3_bs, kAct_app, kSt2_app, stealSlots, stealL, stealOne, subIn, AV.stolen, act_store, act_bs, act_append, act_call, kSet_app, kSet2_app, kSetG_app, kSetG_app0, kStore_ptr, kStore_eptr, kCallW_some, kCallC_some, kCall_some, wk_T, wk_n, wk_keep, wk_inv, wk_act, wk_dr, wk_le, aCalm, wantC, dstOk, calm, aCallK, aCall3K, subOf, subRep, aCall2K, apnd, bsMove, putBox, putOwn, partAV, mvL, AV.mv, AV.base, AV.moved, AV.src, TI.flat, apSize, pickAV, St.val, St.cond, St.fn, St.next, St.set, St.trim, wipe_eq, wipeE_app, wipeM_app, pickEnv, get?, cGet, upd_app, withPuts, killAll, rm, freshP, Oper.hnd, Sc.st, ofConst, constOk, lenAV, elemLen, loadAV, ldL, ld1, fieldAddrAV, indexAddrAV, sliceAV, convAV, buildAV, fillAV, fieldAV, Out.of, binAV, AV.rows, AV.one, AV.cells, AV.deepOk, AV.toD, toDs, partRows, partRowsM, partsDeep, TK.zeroAV, TK.zeroD, byteOf, inR, Op.operands, Call.operands, passVs, passV, passL, pass1, passB, pasVs, pasV, pasL, pas1, ownsOk, okHs, okHs2, okFin, finOk2, rho, over, backRes, backAV, backAV1, backBlk, putBack, back2, back2_V, back2_1, m2, AV.wipe, AV.wipeV, AV.wipe1, Blk.wipe, AV.hs, AV.hs.hsL, alOps, Con.start2, Con.pk, bodyQ, fini, resAV, resA, firstId, Sc.from, renEnv, renT, renV, renVs, renL, ren1, renBox, renOwn, okRen, clOf, actB, setRow, flatRows, flatD, noInv, shr_nil, shr_some, kStepF_some, shareL, AV.viewed, AV.viewed1, cAnyText, cPick, cOf, cText, tTab, eStrs_isCons, clash, kd, eByte, all_true]
  refine ⟨s, p, ⟨rfl, rfl⟩, ⟨h1, by omega, by omega⟩, fun l q g1 g2 g3 g4 => ⟨s, q, ⟨rfl, rfl⟩, ⟨h1, by omega, by omega⟩, fun y _ _ => ?_⟩⟩
  have one : ∀ x : Str, x.length ≤ 15 → ((l.length + 1) * 16 ≤ 140737488355328 ∧ l.length ≤ 140737488355327) ∧ ∃ a b, (a.length ≤ 18 ∧ (∀ s : Str, s ∈ a → s.length ≤ 15) ∧ p ≤ b ∧ b ≤ p + 12) ∧ eStrs a = eStrs l ++ [[D.str x]] ∧ (s = s ∧ b = q + 1 + 1) ∧ eStrs l ++ [[D.str x]] = eStrs a := by
    intro x hx
    refine ⟨⟨by omega, by omega⟩, l ++ [x], q + 1 + 1, ⟨by simp; omega, fun z hz => ?_, by omega, by omega⟩, (by simp -implicitDefEqProofs [eStrs, eStr]), ⟨rfl, rfl⟩, (by simp -implicitDefEqProofs [eStrs, eStr])⟩
    rcases List.mem_append.1 hz with hz | hz
    · have := g2 z hz; omega
    · simp at hz; subst hz; exact hx
  refine ⟨fun _ => ⟨s, q + 1, ⟨rfl, rfl⟩, ⟨h1, by omega, by omega⟩, one _ (by decide), one _ (by decide), one _ (by decide)⟩, fun _ => ⟨fun _ => ⟨⟨by omega, by omega⟩, l ++ [[49], [50], [51], [52], [53], [54], [55], [56], [57], [49, 48]], q + 1, ⟨by simp; omega, fun z hz => ?_, by omega, by omega⟩, (by simp -implicitDefEqProofs [eStrs, eStr]), ⟨rfl, rfl⟩, (by simp -implicitDefEqProofs [eStrs, eStr])⟩,
    fun _ => ⟨l, q + 1, ⟨by omega, fun z hz => by have := g2 z hz; omega, by omega, by omega⟩, rfl, ⟨rfl, rfl⟩, rfl⟩⟩⟩
  rcases List.mem_append.1 hz with hz | hz
  · have := g2 z hz; omega
  · simp at hz
    rcases hz with rfl | rfl | rfl | rfl | rfl | rfl | rfl | rfl | rfl | rfl <;> decide

/-- What is known of a drawn tree. -/
def drawnT (t : List FileD) : Prop := t.length ≤ 6 ∧ ∀ f ∈ t, f.path.length ≤ 7 ∧ f.text.length ≤ 18 ∧ ∀ s ∈ f.text, s.length ≤ 15
def cTreeD : Con := { A := Str × Int, X := List FileD × Int, n := 27, args := fun _ => [.ptr 0 0], boxes := fun a => [(0, 134, [.sl true 1 (eBytes a.1), .int .i64 a.2])], pre := fun a => a.1.length ≤ 2000 ∧ 0 ≤ a.2 ∧ a.2 ≤ 1073741600, post := fun a x => x.1.length ≤ 5 ∧ (∀ f ∈ x.1, f.path.length ≤ 7 ∧ f.text.length ≤ 18 ∧ ∀ s ∈ f.text, s.length ≤ 15) ∧ a.2 ≤ x.2 ∧ x.2 ≤ a.2 + 60, res := fun _ x => .own 8 2 (eFiles x.1), fin := fun a x => [(0, rdBox a.1 x.2), (8, .own 32 2 true (eFiles x.1))], nob := false }
set_option maxHeartbeats 4000000 in
theorem treeD_has : Has Tryd.prog 111 cTreeD := by
  refine has_walk mixed tTab_ok (l := [(110, cPick), (150, cPath), (151, cText), (149, cTreeSetS), (86, cL4Copy)]) (HasL.cons pick_has (HasL.cons path_has (HasL.cons text_has (HasL.cons treeSetS_has (HasL.cons l4Copy_has HasL.nil))))) [0, 2, 3, 4, 5] ((fun a n (_ : Nat) => (fun a _ => ⟨List FileD × Int × Nat, fun t => ⟨[(0, true, .ptr 0 0), (2, true, .nil), (3, true, .sl false 2 (eFiles t.1)), (4, true, .int .i64 t.2.2)], [(0, rdBox a.1 t.2.1)]⟩, fun t => t.1.length + t.2.2 ≤ 5 ∧ (∀ f ∈ t.1, f.path.length ≤ 7 ∧ f.text.length ≤ 18 ∧ ∀ s ∈ f.text, s.length ≤ 15) ∧ a.2 ≤ t.2.1 ∧ t.2.1 + 10 * t.2.2 ≤ a.2 + 60, fun t => t.2.2⟩) a n)) [] Tryd.func111 (by kernel_rfl) (code := _) (by unfold Tryd.f111; rfl) (by kernel_rfl) (by decide) (fun a => ⟨(([] : List FileD), a.2), Nat.zero_le 5, (by simp), Int.le_refl _, by omega⟩) (by intro h; first | exact fun _ => rfl | cases h) (by kernel_rfl) ?_
  intro a ha
  obtain ⟨s, p⟩ := a
  obtain ⟨h1, h2, h3⟩ : s.length ≤ 2000 ∧ 0 ≤ p ∧ p ≤ 1073741600 := ha
  simp -implicitDefEqProofs [vc_skip, extOf, vc_seq, vc_cond, vc_block, vc_exit, vc_ret, vc_region, vc_regionD, vc_loop, kSeq_normal, kSeq_ret, kSeq_exit, kBlock_normal, kBlock_ret, kBlock_exit, kLoop_normal, kLoop_ret, kLoop_exit, kCond_bool, kNorm_app, vcOps_nil, vcOps_cons, kOps_app, kStep_some, kStep_none, vcDL_nil, vcDL_cons, kOpsD_app, kStepD_true, kStepD_false, kStepC_some, kStepC_none, kMv_app, act3_store, act3_call, act3_bs, kAct_app, kSt2_app, stealSlots, stealL, stealOne, subIn, AV.stolen, act_store, act_bs, act_append, act_call, kSet_app, kSet2_app, kSetG_app, kSetG_app0, kStore_ptr, kStore_eptr, kCallW_some, kCallC_some, kCall_some, wk_T, wk_n, wk_keep, wk_inv, wk_act, wk_dr, wk_le, aCalm, wantC, dstOk, calm, aCallK, aCall3K, subOf, subRep, aCall2K, apnd, bsMove, putBox, putOwn, partAV, mvL, AV.mv, AV.base, AV.moved, AV.src, TI.flat, apSize, pickAV, St.val, St.cond, St.fn, St.next, St.set, St.trim, wipe_eq, wipeE_app, wipeM_app, pickEnv, get?, cGet, upd_app, withPuts, killAll, rm, freshP, Oper.hnd, Sc.st, ofConst, constOk, lenAV, elemLen, loadAV, ldL, ld1, fieldAddrAV, indexAddrAV, sliceAV, convAV, buildAV, fillAV, fieldAV, Out.of, binAV, AV.rows, AV.one, AV.cells, AV.deepOk, AV.toD, toDs, partRows, partRowsM, partsDeep, TK.zeroAV, TK.zeroD, byteOf, inR, Op.operands, Call.operands, passVs, passV, passL, pass1, passB, pasVs, pasV, pasL, pas1, ownsOk, okHs, okHs2, okFin, finOk2, rho, over, backRes, backAV, backAV1, backBlk, putBack, back2, back2_V, back2_1, m2, AV.wipe, AV.wipeV, AV.wipe1, Blk.wipe, AV.hs, AV.hs.hsL, alOps, Con.start2, Con.pk, bodyQ, fini, resAV, resA, firstId, Sc.from, renEnv, renT, renV, renVs, renL, ren1, renBox, renOwn, okRen, clOf, actB, setRow, flatRows, flatD, noInv, shr_nil, shr_some, kStepF_some, shareL, AV.viewed, AV.viewed1, cTreeD, cPick, cPath, cText, cTreeSetS, cL4Copy, tTab, clash, kd, eByte, all_true]
  refine ⟨s, p, ⟨rfl, rfl⟩, ⟨h1, by omega, by omega⟩, fun y hy hy2 => ⟨⟨[], p + 1, y.toNat, ⟨⟨rfl, by omega⟩, rfl, rfl⟩, by simp; omega, by simp, by omega, by omega⟩, fun t q n g1 g2 g3 g4 => ⟨fun hn => ?_, fun hn => ⟨⟨by omega, fun f hf => by have := (g2 f hf).2.1; omega⟩, t, q, ⟨by omega, g2, by omega, by omega⟩, rfl, rfl, rfl⟩⟩⟩⟩
  refine ⟨s, q, ⟨rfl, rfl⟩, ⟨h1, by omega, by omega⟩, fun y hy => ⟨s, q + 1, ⟨rfl, rfl⟩, ⟨h1, by omega, by omega⟩, fun l q2 k1 k2 k3 k4 => ⟨t, ⟨y, l⟩, ⟨rfl, rfl, rfl⟩, ⟨⟨by omega, fun f hf => by have := (g2 f hf).2.1; omega⟩, (by show l.length ≤ _; omega)⟩, ⟨by omega, by omega⟩, fun _ _ => ⟨(treeSetS t ⟨y, l⟩).1, q2, n - 1, ?_⟩⟩⟩⟩
  have e1 := treeSetS_len t ⟨y, l⟩
  have e2 := treeSetS_mem t ⟨y, l⟩
  refine ⟨⟨⟨rfl, by omega⟩, rfl, rfl⟩, ⟨by omega, fun f hf => ?_, by omega, by omega⟩, by omega⟩
  rcases e2 f hf with h | rfl
  · exact g2 f h
  · exact ⟨by show y.length ≤ 7; omega, by show l.length ≤ 18; omega, fun z hz => by have := k2 z hz; omega⟩

def cAnyTree : Con := { A := Str × Int, X := List FileD × Int, n := 42, args := fun _ => [.ptr 0 0], boxes := fun a => [(0, 134, [.sl true 1 (eBytes a.1), .int .i64 a.2])], pre := fun a => a.1.length ≤ 2000 ∧ 0 ≤ a.2 ∧ a.2 ≤ 1073741500, post := fun a x => drawnT x.1 ∧ a.2 ≤ x.2 ∧ x.2 ≤ a.2 + 80, res := fun _ x => .sl false 2 (eFiles x.1), fin := fun a x => [(0, rdBox a.1 x.2)], nob := false }
set_option maxHeartbeats 4000000 in
theorem anyTree_has : Has Tryd.prog 68 cAnyTree := by
  refine has_walk mixed tTab_ok (l := [(111, cTreeD), (110, cPick), (124, cAnyPath), (125, cAnyText)]) (HasL.cons treeD_has (HasL.cons pick_has (HasL.cons anyPath_has (HasL.cons anyText_has HasL.nil)))) [0, 2, 3, 4, 15] ((fun a n (_ : Nat) => (fun _ => noInv) a n)) [4135] Tryd.func68 (by kernel_rfl) (code := _) (by unfold Tryd.f68; rfl) (by kernel_rfl) (by decide) (fun a => ⟨(([] : List FileD), a.2), ⟨Nat.zero_le 6, by simp⟩, Int.le_refl _, by omega⟩) (by intro h; first | exact fun _ => rfl | cases h) (by kernel_rfl) ?_
  intro a ha
  obtain ⟨s, p⟩ := a
  obtain ⟨h1, h2, h3⟩ : s.length ≤ 2000 ∧ 0 ≤ p ∧ p ≤ 1073741500 := ha
  simp -implicitDefEqProofs [vc_skip, extOf, vc_seq, vc_cond, vc_block, vc_exit, vc_ret, vc_region, vc_regionD, vc_loop, kSeq_normal, kSeq_ret, kSeq_exit, kBlock_normal, kBlock_ret, kBlock_exit, kLoop_normal, kLoop_ret, kLoop_exit, kCond_bool, kNorm_app, vcOps_nil, vcOps_cons, kOps_app, kStep_some, kStep_none, vcDL_nil, vcDL_cons, kOpsD_app, kStepD_true, kStepD_false, kStepC_some, kStepC_none, kMv_app, act3_store, act3_call, act3_bs, kAct_app, kSt2_app, stealSlots, stealL, stealOne, subIn, AV.stolen, act_store, act_bs, act_append, act_call, kSet_app, kSet2_app, kSetG_app, kSetG_app0, kStore_ptr, kStore_eptr, kCallW_some, kCallC_some, kCall_some, wk_T, wk_n, wk_keep, wk_inv, wk_act, wk_dr, wk_le, aCalm, wantC, dstOk, calm, aCallK, aCall3K, subOf, subRep, aCall2K, apnd, bsMove, putBox, putOwn, partAV, mvL, AV.mv, AV.base, AV.moved, AV.src, TI.flat, apSize, pickAV, St.val, St.cond, St.fn, St.next, St.set, St.trim, wipe_eq, wipeE_app, wipeM_app, pickEnv, get?, cGet, upd_app, withPuts, killAll, rm, freshP, Oper.hnd, Sc.st, ofConst, constOk, lenAV, elemLen, loadAV, ldL, ld1, fieldAddrAV, indexAddrAV, sliceAV, convAV, buildAV, fillAV, fieldAV, Out.of, binAV, AV.rows, AV.one, AV.cells, AV.deepOk, AV.toD, toDs, partRows, partRowsM, partsDeep, TK.zeroAV, TK.zeroD, byteOf, inR, Op.operands, Call.operands, passVs, passV, passL, pass1, passB, pasVs, pasV, pasL, pas1, ownsOk, okHs, okHs2, okFin, finOk2, rho, over, backRes, backAV, backAV1, backBlk, putBack, back2, back2_V, back2_1, m2, AV.wipe, AV.wipeV, AV.wipe1, Blk.wipe, AV.hs, AV.hs.hsL, alOps, Con.start2, Con.pk, bodyQ, fini, resAV, resA, firstId, Sc.from, renEnv, renT, renV, renVs, renL, ren1, renBox, renOwn, okRen, clOf, actB, setRow, flatRows, flatD, noInv, shr_nil, shr_some, kStepF_some, shareL, AV.viewed, AV.viewed1, cAnyTree, cTreeD, cPick, cAnyPath, cAnyText, tTab, clash, kd, eByte, all_true]
  refine ⟨s, p, ⟨rfl, rfl⟩, ⟨h1, by omega, by omega⟩, fun t q g1 g2 g3 g4 _ => ⟨fun hp _ => ⟨s, q, ⟨rfl, rfl⟩, ⟨h1, by omega, by omega, by omega⟩, fun k _ hk => ⟨s, q + 1, ⟨rfl, rfl⟩, ⟨h1, by omega, by omega⟩, fun y _ _ => ?_⟩⟩, fun _ => ⟨t, q, ⟨⟨by omega, g2⟩, by omega, by omega⟩, rfl, rfl, rfl⟩⟩⟩
  obtain ⟨k1, k2⟩ := hk (by omega)
  have hk : k.toNat < t.length := by omega
  have e : Option.map eFile t[k.toNat]? = some (eFile t[k.toNat]) := by simp -implicitDefEqProofs [hk]
  have gk := g2 t[k.toNat] (List.getElem_mem hk)
  have ds : ∀ g : FileD, (g.path.length ≤ 7 ∧ g.text.length ≤ 18 ∧ ∀ s ∈ g.text, s.length ≤ 15) → drawnT (t.set k.toNat g) := fun g hg => ⟨by simp; omega, fun f hf => (List.mem_or_eq_of_mem_set hf).elim (g2 f) fun h => h ▸ hg⟩
  simp -implicitDefEqProofs [e, k1, k2, hk]
  refine ⟨fun _ => ⟨s, q + 2, ⟨rfl, by omega⟩, ⟨h1, by omega, by omega⟩, fun z hz => ?_⟩, fun _ => ⟨fun _ => ⟨s, q + 2, ⟨rfl, by omega⟩, ⟨h1, by omega, by omega⟩, fun l q2 m1 m2 m3 m4 => ?_⟩, fun _ => ⟨fun _ => ?_, fun _ => ?_⟩⟩⟩
  · exact ⟨t.set k.toNat ⟨z, t[k.toNat].text⟩, q + 2 + 2, ⟨ds _ ⟨hz, gk.2⟩, by omega, by omega⟩, (eFiles_set t k.toNat z t[k.toNat].text).symm, rfl, rfl⟩
  · exact ⟨by simp -implicitDefEqProofs [eFile], fun _ => ⟨t.set k.toNat ⟨t[k.toNat].path, l⟩, q2, ⟨ds _ ⟨gk.1, m1, m2⟩, by omega, by omega⟩, (eFiles_set t k.toNat t[k.toNat].path l).symm, rfl, rfl⟩⟩
  · refine ⟨⟨by simp -implicitDefEqProofs [eFile], rfl, rfl⟩, fun _ _ _ => ⟨⟨by omega, by omega⟩, t ++ [t[k.toNat]], ⟨⟨by simp; omega, fun f hf => ?_⟩, by omega, by omega⟩, by simp -implicitDefEqProofs [eFiles, eFile]⟩⟩
    rcases List.mem_append.1 hf with h | h
    · exact g2 f h
    · simp at h; subst h; exact gk
  · exact ⟨⟨by omega, g2⟩, by omega, by omega⟩

def seekWords : List Str := [[97], [120], [115, 101, 101], [101, 110, 100], [101], [101, 110], []]
def cDrawSeekTree : Con := { A := Str, X := List FileD × Str, n := 14, args := fun s => [.sl true 1 (eBytes s)], boxes := fun _ => [], pre := fun _ => True, post := fun _ x => drawnT x.1 ∧ x.2 ∈ seekWords, res := fun _ x => .tup [.sl false 2 (eFiles x.1), .str x.2], fin := fun _ _ => [] }
set_option maxHeartbeats 4000000 in
theorem drawSeekTree_has : Has Tryd.prog 14 cDrawSeekTree := by
  refine has_walk mixed tTab_ok (l := [(67, cL30Open), (68, cAnyTree), (69, cOf)]) (HasL.cons l30Open_has (HasL.cons anyTree_has (HasL.cons of_has HasL.nil))) [0, 2, 3, 4, 5] ((fun a n (_ : Nat) => (fun _ => noInv) a n)) [] Tryd.func14 (by kernel_rfl) (code := _) (by unfold Tryd.f14; rfl) (by kernel_rfl) (by decide) (fun _ => ⟨(([] : List FileD), []), ⟨Nat.zero_le 6, by simp⟩, by simp -implicitDefEqProofs [seekWords]⟩) (by intro h; first | exact fun _ => rfl | cases h) (by kernel_rfl) ?_
  intro (s : Str) _
  simp -implicitDefEqProofs [vc_skip, extOf, vc_seq, vc_cond, vc_block, vc_exit, vc_ret, vc_region, vc_regionD, vc_loop, kSeq_normal, kSeq_ret, kSeq_exit, kBlock_normal, kBlock_ret, kBlock_exit, kLoop_normal, kLoop_ret, kLoop_exit, kCond_bool, kNorm_app, vcOps_nil, vcOps_cons, kOps_app, kStep_some, kStep_none, vcDL_nil, vcDL_cons, kOpsD_app, kStepD_true, kStepD_false, kStepC_some, kStepC_none, kMv_app, act3_store, act3_call, act3_bs, kAct_app, kSt2_app, stealSlots, stealL, stealOne, subIn, AV.stolen, act_store, act_bs, act_append, act_call, kSet_app, kSet2_app, kSetG_app, kSetG_app0, kStore_ptr, kStore_eptr, kCallW_some, kCallC_some, kCall_some, wk_T, wk_n, wk_keep, wk_inv, wk_act, wk_dr, wk_le, aCalm, wantC, dstOk, calm, aCallK, aCall3K, subOf, subRep, aCall2K, apnd, bsMove, putBox, putOwn, partAV, mvL, AV.mv, AV.base, AV.moved, AV.src, TI.flat, apSize, pickAV, St.val, St.cond, St.fn, St.next, St.set, St.trim, wipe_eq, wipeE_app, wipeM_app, pickEnv, get?, cGet, upd_app, withPuts, killAll, rm, freshP, Oper.hnd, Sc.st, ofConst, constOk, lenAV, elemLen, loadAV, ldL, ld1, fieldAddrAV, indexAddrAV, sliceAV, convAV, buildAV, fillAV, fieldAV, Out.of, binAV, AV.rows, AV.one, AV.cells, AV.deepOk, AV.toD, toDs, partRows, partRowsM, partsDeep, TK.zeroAV, TK.zeroD, byteOf, inR, Op.operands, Call.operands, passVs, passV, passL, pass1, passB, pasVs, pasV, pasL, pas1, ownsOk, okHs, okHs2, okFin, finOk2, rho, over, backRes, backAV, backAV1, backBlk, putBack, back2, back2_V, back2_1, m2, AV.wipe, AV.wipeV, AV.wipe1, Blk.wipe, AV.hs, AV.hs.hsL, alOps, Con.start2, Con.pk, bodyQ, fini, resAV, resA, firstId, Sc.from, renEnv, renT, renV, renVs, renL, ren1, renBox, renOwn, okRen, clOf, actB, setRow, flatRows, flatD, noInv, shr_nil, shr_some, kStepF_some, shareL, AV.viewed, AV.viewed1, cDrawSeekTree, cL30Open, cAnyTree, cOf, tTab, Con.fn, eStrs_isCons, clash, kd, eByte, all_true]
  exact ⟨s.take 2000, 0, ⟨rfl, rfl⟩, ⟨by simp; omega, by omega, by omega⟩, fun t q g1 g2 g3 => ⟨s.take 2000, q, ⟨rfl, rfl⟩, ⟨by simp; omega, by omega, by omega⟩, by simp -implicitDefEqProofs [g1, seekWords]⟩⟩





end Vx
end Go.Proofs.YtlhkmgbmnbkaeaaDoor
/-
  Contracts: the law FnSeekTree.
-/
namespace Go.Proofs.YtlhkmgbmnbkaeaaDoor
namespace Vx
open Go.RowKit
set_option maxRecDepth 8000

def cSmTexts : Con := .fn 26 (List Str × List Str) (fun a => [.sl true 1 (eStrs a.1), .sl true 1 (eStrs a.2)]) (fun _ => True) (fun a => .bool (decide (a.1 = a.2))) (fun _ => [])
set_option maxHeartbeats 4000000 in
theorem smTexts_has : Has Tryd.prog 16 cSmTexts := by
  refine has_walk mixed tTab_ok (l := []) HasL.nil [0, 1, 4, 5] ((fun a n (_ : Nat) => (fun a _ => ⟨Nat, fun i => ⟨[(0, true, .sl true 1 (eStrs a.1)), (1, true, .sl true 1 (eStrs a.2)), (4, true, .bool false), (5, true, .int .i64 i)], []⟩, fun i => a.1.length = a.2.length ∧ i ≤ a.1.length ∧ a.1.take i = a.2.take i, fun i => a.1.length - i⟩) a n)) [] Tryd.func16 (by kernel_rfl) (code := _) (by unfold Tryd.f16; rfl) (by kernel_rfl) (by decide) (fun _ => ⟨(), trivial⟩) (by intro h; first | exact fun _ => rfl | cases h) (by kernel_rfl) ?_
  intro a _
  obtain ⟨l, m⟩ := a
  have k1 : ∀ i (h : i < l.length) (h' : i < m.length), l[i] = m[i] → l.take i = m.take i → l.take (i + 1) = m.take (i + 1) := fun i h h' e e2 => by rw [take_succ' h, take_succ' h', e, e2]
  have k2 : ∀ i, l.length = m.length → l.length ≤ i → l.take i = m.take i → l = m := fun i h h' e => by rwa [List.take_of_length_le h', List.take_of_length_le (by omega)] at e
  have k3 : ∀ i (h : i < l.length) (h' : i < m.length), ¬ l[i] = m[i] → ¬ l = m := fun i h h' e e2 => by subst e2; exact e rfl
  simp -implicitDefEqProofs [vc_skip, extOf, vc_seq, vc_cond, vc_block, vc_exit, vc_ret, vc_region, vc_regionD, vc_loop, kSeq_normal, kSeq_ret, kSeq_exit, kBlock_normal, kBlock_ret, kBlock_exit, kLoop_normal, kLoop_ret, kLoop_exit, kCond_bool, kNorm_app, vcOps_nil, vcOps_cons, kOps_app, kStep_some, kStep_none, vcDL_nil, vcDL_cons, kOpsD_app, kStepD_true, kStepD_false, kStepC_some, kStepC_none, kMv_app, act3_store, act3_call, act3_bs, kAct_app, kSt2_app, stealSlots, stealL, stealOne, subIn, AV.stolen, act_store, act_bs, act_append, act_call, kSet_app, kSet2_app, kSetG_app, kSetG_app0, kStore_ptr, kStore_eptr, kCallW_some, kCallC_some, kCall_some, wk_T, wk_n, wk_keep, wk_inv, wk_act, wk_dr, wk_le, aCalm, wantC, dstOk, calm, aCallK, aCall3K, subOf, subRep, aCall2K, apnd, bsMove, putBox, putOwn, partAV, mvL, AV.mv, AV.base, AV.moved, AV.src, TI.flat, apSize, pickAV, St.val, St.cond, St.fn, St.next, St.set, St.trim, wipe_eq, wipeE_app, wipeM_app, pickEnv, get?, cGet, upd_app, withPuts, killAll, rm, freshP, Oper.hnd, Sc.st, ofConst, constOk, lenAV, elemLen, loadAV, ldL, ld1, fieldAddrAV, indexAddrAV, sliceAV, convAV, buildAV, fillAV, fieldAV, Out.of, binAV, AV.rows, AV.one, AV.cells, AV.deepOk, AV.toD, toDs, partRows, partRowsM, partsDeep, TK.zeroAV, TK.zeroD, byteOf, inR, Op.operands, Call.operands, passVs, passV, passL, pass1, passB, pasVs, pasV, pasL, pas1, ownsOk, okHs, okHs2, okFin, finOk2, rho, over, backRes, backAV, backAV1, backBlk, putBack, back2, back2_V, back2_1, m2, AV.wipe, AV.wipeV, AV.wipe1, Blk.wipe, AV.hs, AV.hs.hsL, alOps, Con.start2, Con.pk, bodyQ, fini, resAV, resA, firstId, Sc.from, renEnv, renT, renV, renVs, renL, ren1, renBox, renOwn, okRen, clOf, actB, setRow, flatRows, flatD, noInv, shr_nil, shr_some, kStepF_some, shareL, AV.viewed, AV.viewed1, cSmTexts, Con.fn, tTab]
  try dsimp only
  try simp +contextual -implicitDefEqProofs [eStr, eFile, cast_succ, cast_eq, cast_zero, List.getElem?_eq_getElem, eStrs_set, eFiles_set, eStrs_rep, eFiles_rep, ← eStrs_append, ← eFiles_append, eStrs_take, eStrs_drop, eFiles_take, eFiles_drop, eStrs_snoc, eFiles_snoc, and_assoc]
  repeat' (first | intro _ | apply And.intro)
  all_goals first | omega | grind [all_take]

def cSmHas : Con := .fn 18 (List Str × Str) (fun a => [.sl true 1 (eStrs a.1), .str a.2]) (fun _ => True) (fun a => .bool (pathIn a.1 a.2)) (fun _ => [])
set_option maxHeartbeats 4000000 in
theorem smHas_has : Has Tryd.prog 19 cSmHas := by
  refine has_walk mixed tTab_ok (l := []) HasL.nil [0, 1, 4, 5] ((fun a n (_ : Nat) => (fun a _ => ⟨Nat, fun i => ⟨[(0, true, .sl true 1 (eStrs a.1)), (1, true, .str a.2), (4, true, .bool false), (5, true, .int .i64 i)], []⟩, fun i => i ≤ a.1.length ∧ ∀ x, x ∈ a.1.take i → ¬ x = a.2, fun i => a.1.length - i⟩) a n)) [] Tryd.func19 (by kernel_rfl) (code := _) (by unfold Tryd.f19; rfl) (by kernel_rfl) (by decide) (fun _ => ⟨(), trivial⟩) (by intro h; first | exact fun _ => rfl | cases h) (by kernel_rfl) ?_
  intro a _
  obtain ⟨l, s⟩ := a
  have h3 := fun i => @take_step _ l i (fun y => ¬ y = s)
  have h1 : ∀ i (h : i < l.length), l[i] = s → pathIn l s = true := fun i h hp => by simp -implicitDefEqProofs [pathIn, ← hp]
  have h2 : ∀ i, l.length ≤ i → (∀ x, x ∈ l.take i → ¬ x = s) → pathIn l s = false := fun i h hb => by
    rw [List.take_of_length_le h] at hb
    simp only [pathIn, decide_eq_false_iff_not]
    exact fun hm => hb s hm rfl
  simp -implicitDefEqProofs [vc_skip, extOf, vc_seq, vc_cond, vc_block, vc_exit, vc_ret, vc_region, vc_regionD, vc_loop, kSeq_normal, kSeq_ret, kSeq_exit, kBlock_normal, kBlock_ret, kBlock_exit, kLoop_normal, kLoop_ret, kLoop_exit, kCond_bool, kNorm_app, vcOps_nil, vcOps_cons, kOps_app, kStep_some, kStep_none, vcDL_nil, vcDL_cons, kOpsD_app, kStepD_true, kStepD_false, kStepC_some, kStepC_none, kMv_app, act3_store, act3_call, act3_bs, kAct_app, kSt2_app, stealSlots, stealL, stealOne, subIn, AV.stolen, act_store, act_bs, act_append, act_call, kSet_app, kSet2_app, kSetG_app, kSetG_app0, kStore_ptr, kStore_eptr, kCallW_some, kCallC_some, kCall_some, wk_T, wk_n, wk_keep, wk_inv, wk_act, wk_dr, wk_le, aCalm, wantC, dstOk, calm, aCallK, aCall3K, subOf, subRep, aCall2K, apnd, bsMove, putBox, putOwn, partAV, mvL, AV.mv, AV.base, AV.moved, AV.src, TI.flat, apSize, pickAV, St.val, St.cond, St.fn, St.next, St.set, St.trim, wipe_eq, wipeE_app, wipeM_app, pickEnv, get?, cGet, upd_app, withPuts, killAll, rm, freshP, Oper.hnd, Sc.st, ofConst, constOk, lenAV, elemLen, loadAV, ldL, ld1, fieldAddrAV, indexAddrAV, sliceAV, convAV, buildAV, fillAV, fieldAV, Out.of, binAV, AV.rows, AV.one, AV.cells, AV.deepOk, AV.toD, toDs, partRows, partRowsM, partsDeep, TK.zeroAV, TK.zeroD, byteOf, inR, Op.operands, Call.operands, passVs, passV, passL, pass1, passB, pasVs, pasV, pasL, pas1, ownsOk, okHs, okHs2, okFin, finOk2, rho, over, backRes, backAV, backAV1, backBlk, putBack, back2, back2_V, back2_1, m2, AV.wipe, AV.wipeV, AV.wipe1, Blk.wipe, AV.hs, AV.hs.hsL, alOps, Con.start2, Con.pk, bodyQ, fini, resAV, resA, firstId, Sc.from, renEnv, renT, renV, renVs, renL, ren1, renBox, renOwn, okRen, clOf, actB, setRow, flatRows, flatD, noInv, shr_nil, shr_some, kStepF_some, shareL, AV.viewed, AV.viewed1, cSmHas, Con.fn, tTab]
  try dsimp only
  try simp +contextual -implicitDefEqProofs [eStr, eFile, cast_succ, cast_eq, cast_zero, List.getElem?_eq_getElem, eStrs_set, eFiles_set, eStrs_rep, eFiles_rep, ← eStrs_append, ← eFiles_append, eStrs_take, eStrs_drop, eFiles_take, eFiles_drop, eStrs_snoc, eFiles_snoc, and_assoc]
  repeat' (first | intro _ | apply And.intro)
  all_goals first | omega | grind [all_take]

def cSmPart : Con := .fn 24 (Str × Str) (fun a => [.str a.1, .str a.2]) (fun a => a.1.length ≤ 1099511627776 ∧ a.2.length ≤ 1099511627776) (fun a => .bool (partB a.1 a.2)) (fun _ => [])
set_option maxHeartbeats 4000000 in
theorem smPart_has : Has Tryd.prog 20 cSmPart := by
  refine has_walk mixed tTab_ok (l := []) HasL.nil [0, 1, 4, 5] ((fun a n (_ : Nat) => (fun a _ => ⟨Nat, fun i => ⟨[(0, true, .str a.1), (1, true, .str a.2), (4, true, .bool false), (5, true, .int .i64 i)], []⟩, fun i => i ≤ a.1.length + 1 ∧ ∀ j, j < i → j + a.2.length ≤ a.1.length → ¬ (a.1.drop j).take a.2.length = a.2, fun i => a.1.length + 1 - i⟩) a n)) [] Tryd.func20 (by kernel_rfl) (code := _) (by unfold Tryd.f20; rfl) (by kernel_rfl) (by decide) (fun _ => ⟨(), trivial⟩) (by intro h; first | exact fun _ => rfl | cases h) (by kernel_rfl) ?_
  intro a ha
  obtain ⟨s, p⟩ := a
  obtain ⟨q1, q2⟩ : s.length ≤ 1099511627776 ∧ p.length ≤ 1099511627776 := ha
  have h1 := fun i => @partB_hit s p i
  have h2 : ∀ i : Nat, s.length < i + p.length → (∀ j, j < i → j + p.length ≤ s.length → ¬ (s.drop j).take p.length = p) → partB s p = false := fun i h hb => partB_miss fun j hj => hb j (by omega) hj
  have hn : ∀ i : Nat, ((i : Int) + p.length).toNat - i = p.length := fun i => by omega
  simp -implicitDefEqProofs [vc_skip, extOf, vc_seq, vc_cond, vc_block, vc_exit, vc_ret, vc_region, vc_regionD, vc_loop, kSeq_normal, kSeq_ret, kSeq_exit, kBlock_normal, kBlock_ret, kBlock_exit, kLoop_normal, kLoop_ret, kLoop_exit, kCond_bool, kNorm_app, vcOps_nil, vcOps_cons, kOps_app, kStep_some, kStep_none, vcDL_nil, vcDL_cons, kOpsD_app, kStepD_true, kStepD_false, kStepC_some, kStepC_none, kMv_app, act3_store, act3_call, act3_bs, kAct_app, kSt2_app, stealSlots, stealL, stealOne, subIn, AV.stolen, act_store, act_bs, act_append, act_call, kSet_app, kSet2_app, kSetG_app, kSetG_app0, kStore_ptr, kStore_eptr, kCallW_some, kCallC_some, kCall_some, wk_T, wk_n, wk_keep, wk_inv, wk_act, wk_dr, wk_le, aCalm, wantC, dstOk, calm, aCallK, aCall3K, subOf, subRep, aCall2K, apnd, bsMove, putBox, putOwn, partAV, mvL, AV.mv, AV.base, AV.moved, AV.src, TI.flat, apSize, pickAV, St.val, St.cond, St.fn, St.next, St.set, St.trim, wipe_eq, wipeE_app, wipeM_app, pickEnv, get?, cGet, upd_app, withPuts, killAll, rm, freshP, Oper.hnd, Sc.st, ofConst, constOk, lenAV, elemLen, loadAV, ldL, ld1, fieldAddrAV, indexAddrAV, sliceAV, convAV, buildAV, fillAV, fieldAV, Out.of, binAV, AV.rows, AV.one, AV.cells, AV.deepOk, AV.toD, toDs, partRows, partRowsM, partsDeep, TK.zeroAV, TK.zeroD, byteOf, inR, Op.operands, Call.operands, passVs, passV, passL, pass1, passB, pasVs, pasV, pasL, pas1, ownsOk, okHs, okHs2, okFin, finOk2, rho, over, backRes, backAV, backAV1, backBlk, putBack, back2, back2_V, back2_1, m2, AV.wipe, AV.wipeV, AV.wipe1, Blk.wipe, AV.hs, AV.hs.hsL, alOps, Con.start2, Con.pk, bodyQ, fini, resAV, resA, firstId, Sc.from, renEnv, renT, renV, renVs, renL, ren1, renBox, renOwn, okRen, clOf, actB, setRow, flatRows, flatD, noInv, shr_nil, shr_some, kStepF_some, shareL, AV.viewed, AV.viewed1, cSmPart, Con.fn, tTab]
  try dsimp only
  refine fun i hi hb _ => ⟨⟨by omega, by omega⟩, fun _ _ _ => ⟨fun hle _ => ⟨⟨by omega, by omega⟩, fun _ _ => ⟨⟨by omega, by omega⟩, fun _ _ => ⟨fun e => ?_, fun e => ⟨⟨by omega, by omega⟩, fun _ _ => ⟨i + 1, by omega, ⟨by omega, fun j hj hj2 => ?_⟩, by omega⟩⟩⟩⟩⟩, fun h => h2 i (by omega) hb⟩⟩
  · rw [hn] at e; exact h1 i (by omega) e
  · rw [hn] at e
    by_cases hji : j = i
    · subst hji; exact e
    · exact hb j (by omega) hj2

end Vx
end Go.Proofs.YtlhkmgbmnbkaeaaDoor
/-
  Contracts: what the laws of views draw.
-/
namespace Go.Proofs.YtlhkmgbmnbkaeaaDoor
namespace Vx
open Go.RowKit
set_option maxRecDepth 8000

def cSmTree : Con := .fn 42 (List FileD × List FileD) (fun a => [.sl true 2 (eFiles a.1), .sl true 2 (eFiles a.2)]) (fun _ => True) (fun a => .bool (decide (a.1 = a.2))) (fun _ => [])
set_option maxHeartbeats 4000000 in
theorem smTree_has : Has Tryd.prog 28 cSmTree := by
  refine has_walk mixed tTab_ok (l := [(16, cSmTexts)]) (HasL.cons smTexts_has HasL.nil) [0, 1, 4, 5] ((fun a n (_ : Nat) => (fun a _ => ⟨Nat, fun i => ⟨[(0, true, .sl true 2 (eFiles a.1)), (1, true, .sl true 2 (eFiles a.2)), (4, true, .bool false), (5, true, .int .i64 i)], []⟩, fun i => a.1.length = a.2.length ∧ i ≤ a.1.length ∧ a.1.take i = a.2.take i, fun i => a.1.length - i⟩) a n)) [] Tryd.func28 (by kernel_rfl) (code := _) (by unfold Tryd.f28; rfl) (by kernel_rfl) (by decide) (fun _ => ⟨(), trivial⟩) (by intro h; first | exact fun _ => rfl | cases h) (by kernel_rfl) ?_
  intro a _
  obtain ⟨l, m⟩ := a
  have k1 : ∀ i (h : i < l.length) (h' : i < m.length), l[i].path = m[i].path → l[i].text = m[i].text → l.take i = m.take i → l.take (i + 1) = m.take (i + 1) := fun i h h' e e1 e2 => by rw [take_succ' h, take_succ' h', e2, show l[i] = m[i] by rw [FileD.eq_iff]; exact ⟨e, e1⟩]
  have k2 : ∀ i, l.length = m.length → l.length ≤ i → l.take i = m.take i → l = m := fun i h h' e => by rwa [List.take_of_length_le h', List.take_of_length_le (by omega)] at e
  have k3 : ∀ i (h : i < l.length) (h' : i < m.length), ¬ l[i].path = m[i].path → ¬ l = m := fun i h h' e e2 => by subst e2; exact e rfl
  have k4 : ∀ i (h : i < l.length) (h' : i < m.length), ¬ l[i].text = m[i].text → ¬ l = m := fun i h h' e e2 => by subst e2; exact e rfl
  simp -implicitDefEqProofs [vc_skip, extOf, vc_seq, vc_cond, vc_block, vc_exit, vc_ret, vc_region, vc_regionD, vc_loop, kSeq_normal, kSeq_ret, kSeq_exit, kBlock_normal, kBlock_ret, kBlock_exit, kLoop_normal, kLoop_ret, kLoop_exit, kCond_bool, kNorm_app, vcOps_nil, vcOps_cons, kOps_app, kStep_some, kStep_none, vcDL_nil, vcDL_cons, kOpsD_app, kStepD_true, kStepD_false, kStepC_some, kStepC_none, kMv_app, act3_store, act3_call, act3_bs, kAct_app, kSt2_app, stealSlots, stealL, stealOne, subIn, AV.stolen, act_store, act_bs, act_append, act_call, kSet_app, kSet2_app, kSetG_app, kSetG_app0, kStore_ptr, kStore_eptr, kCallW_some, kCallC_some, kCall_some, wk_T, wk_n, wk_keep, wk_inv, wk_act, wk_dr, wk_le, aCalm, wantC, dstOk, calm, aCallK, aCall3K, subOf, subRep, aCall2K, apnd, bsMove, putBox, putOwn, partAV, mvL, AV.mv, AV.base, AV.moved, AV.src, TI.flat, apSize, pickAV, St.val, St.cond, St.fn, St.next, St.set, St.trim, wipe_eq, wipeE_app, wipeM_app, pickEnv, get?, cGet, upd_app, withPuts, killAll, rm, freshP, Oper.hnd, Sc.st, ofConst, constOk, lenAV, elemLen, loadAV, ldL, ld1, fieldAddrAV, indexAddrAV, sliceAV, convAV, buildAV, fillAV, fieldAV, Out.of, binAV, AV.rows, AV.one, AV.cells, AV.deepOk, AV.toD, toDs, partRows, partRowsM, partsDeep, TK.zeroAV, TK.zeroD, byteOf, inR, Op.operands, Call.operands, passVs, passV, passL, pass1, passB, pasVs, pasV, pasL, pas1, ownsOk, okHs, okHs2, okFin, finOk2, rho, over, backRes, backAV, backAV1, backBlk, putBack, back2, back2_V, back2_1, m2, AV.wipe, AV.wipeV, AV.wipe1, Blk.wipe, AV.hs, AV.hs.hsL, alOps, Con.start2, Con.pk, bodyQ, fini, resAV, resA, firstId, Sc.from, renEnv, renT, renV, renVs, renL, ren1, renBox, renOwn, okRen, clOf, actB, setRow, flatRows, flatD, noInv, shr_nil, shr_some, kStepF_some, shareL, AV.viewed, AV.viewed1, cSmTree, Con.fn, tTab, cSmTexts]
  try dsimp only
  try simp +contextual -implicitDefEqProofs [eStr, eFile, cast_succ, cast_eq, cast_zero, List.getElem?_eq_getElem, eStrs_set, eFiles_set, eStrs_rep, eFiles_rep, ← eStrs_append, ← eFiles_append, eStrs_take, eStrs_drop, eFiles_take, eFiles_drop, eStrs_snoc, eFiles_snoc, and_assoc]
  repeat' (first | intro _ | apply And.intro)
  all_goals first | omega | grind [all_take]

/-- A contract whose own result is only looked at. -/
def Con.view (k : Con) (K : Nat) (rows : k.A → k.X → List (List D)) : Con := { k with res := fun a x => .sl false K (rows a x), fin := fun _ _ => [] }
theorem Has.view {P : Program} {f : Nat} {k : Con} (H : Has P f k) (K : Nat) (rows : k.A → k.X → List (List D)) (hr : ∀ a x, k.res a x = .own 8 K (rows a x)) (hb : ∀ a, k.boxes a = []) (hl : k.lends = []) : Has P f (k.view K rows) := by
  suffices key : ∀ (a : k.A), k.pre a → ∀ (c : Cx) (vs : List Value) (β : Nat → Value) (fp : Nat → List (Nat × Nat)), c.n = k.n → c.pins = k.pins2 a β → vs.length = (k.args a).length → vs.length ≤ k.n →
      SatI c (k.start2 a) ⟨vs.toArray ++ Array.replicate (k.n - vs.length) undef, []⟩ c.w0 β fp →
      Calls P f vs.toArray c.w0 fun e w' => ∃ x : k.X, k.post a x ∧ ∃ v, e = .returned v ∧ ∃ β' fp' a', SatI c ⟨fun _ => none, get? []⟩ a' w' β' fp' ∧ RelL w' (get? []) β' c [.sl false K (rows a x)] [v] by
    exact ⟨H.enter, H.tot, H.nob, fun (a : k.A) ha c vs β fp hn hpin hlen hlen2 S => key a ha c vs β fp hn hpin hlen hlen2 S⟩
  intro a ha c vs β fp hn hpin hlen hlen2 S
  have hp : c.pins = [] := by rw [hpin]; simp -implicitDefEqProofs [Con.pins2, hb, hl]
  refine (H.calls a ha c vs β fp hn hpin hlen hlen2 S).mono ?_
  rintro e w' ⟨x, hx, v, rfl, β', fp', a', E, hv⟩
  rw [hr] at hv
  have hv2 : ∃ e, Vw w' (get? (k.fin a x)) β' c false [.sl e K (rows a x)] [v] := by cases hv with | own _ h2 _ _ => exact h2
  obtain ⟨e, f, h1, h2⟩ := hv2
  refine ⟨x, hx, v, rfl, β', fp', a', ⟨?_, ?_, ?_, ?_, ?_, E.fg, E.old, E.os, E.tape, E.output, E.size, E.defers, E.tn, by simp -implicitDefEqProofs [hp]⟩, .sl ⟨e, f, h1, fun z hz => ⟨⟨?_, ?_⟩, (h2 z hz).2⟩⟩ .lnil⟩
  · intro t g av h; cases h
  · intro h blk hm; cases hm
  · intro h blk hm; cases hm
  · intro h h' blk blk' hm; cases hm
  · intro h blk hm; cases hm
  · rintro ⟨h, ty, vs, hm, _⟩; cases hm
  · intro h e k d R n cc hm; cases hm
def cViewOfV : Con := cViewOfI.view 2 fun a _ => eFiles (viewOfI a.1 a.2)
theorem viewOfV_has : Has Tryd.prog 27 cViewOfV := viewOfI_has.view 2 _ (fun _ _ => rfl) (fun _ => rfl) rfl

def pathsD (l : List Str) : Prop := l.length ≤ 4 ∧ ∀ q ∈ l, q.length ≤ 3
def cPathsD : Con := { A := Str × Int, X := List Str × Int, n := 28, args := fun _ => [.ptr 0 0], boxes := fun a => [(0, 134, [.sl true 1 (eBytes a.1), .int .i64 a.2])], pre := fun a => a.1.length ≤ 2000 ∧ 0 ≤ a.2 ∧ a.2 ≤ 1073741600, post := fun a x => pathsD x.1 ∧ a.2 ≤ x.2 ∧ x.2 ≤ a.2 + 6, res := fun _ x => .own 8 1 (eStrs x.1), fin := fun a x => [(0, rdBox a.1 x.2), (8, .own 9 1 true (eStrs x.1))], nob := false }
set_option maxHeartbeats 4000000 in
theorem pathsD_has : Has Tryd.prog 81 cPathsD := by
  refine has_walk mixed tTab_ok (l := [(110, cPick), (69, cOf)]) (HasL.cons pick_has (HasL.cons of_has HasL.nil)) [0, 2, 3, 4] ((fun a n (_ : Nat) => (fun a _ => ⟨List Str × Int × Nat, fun t => ⟨[(0, true, .ptr 0 0), (2, true, .nil), (3, true, .own 9 1 (eStrs t.1)), (4, true, .int .i64 t.2.2)], [(0, rdBox a.1 t.2.1), (9, .own 9 1 true (eStrs t.1))]⟩, fun t => t.1.length + t.2.2 ≤ 3 ∧ (∀ s ∈ t.1, s.length ≤ 3) ∧ a.2 ≤ t.2.1 ∧ t.2.1 ≤ a.2 + 1 + t.1.length, fun t => t.2.2⟩) a n)) [] Tryd.func81 (by kernel_rfl) (code := _) (by unfold Tryd.f81; rfl) (by kernel_rfl) (by decide) (fun a => ⟨(([] : List Str), a.2), ⟨Nat.zero_le 4, (by simp)⟩, Int.le_refl _, by omega⟩) (by intro h; first | exact fun _ => rfl | cases h) (by kernel_rfl) ?_
  intro a ha
  obtain ⟨s, p⟩ := a
  obtain ⟨h1, h2, h3⟩ : s.length ≤ 2000 ∧ 0 ≤ p ∧ p ≤ 1073741600 := ha
  simp -implicitDefEqProofs [vc_skip, extOf, vc_seq, vc_cond, vc_block, vc_exit, vc_ret, vc_region, vc_regionD, vc_loop, kSeq_normal, kSeq_ret, kSeq_exit, kBlock_normal, kBlock_ret, kBlock_exit, kLoop_normal, kLoop_ret, kLoop_exit, kCond_bool, kNorm_app, vcOps_nil, vcOps_cons, kOps_app, kStep_some, kStep_none, vcDL_nil, vcDL_cons, kOpsD_app, kStepD_true, kStepD_false, kStepC_some, kStepC_none, kMv_app, act3_store, act3_call, act3_bs, kAct_app, kSt2_app, stealSlots, stealL, stealOne, subIn, AV.stolen, act_store, act_bs, act_append, act_call, kSet_app, kSet2_app, kSetG_app, kSetG_app0, kStore_ptr, kStore_eptr, kCallW_some, kCallC_some, kCall_some, wk_T, wk_n, wk_keep, wk_inv, wk_act, wk_dr, wk_le, aCalm, wantC, dstOk, calm, aCallK, aCall3K, subOf, subRep, aCall2K, apnd, bsMove, putBox, putOwn, partAV, mvL, AV.mv, AV.base, AV.moved, AV.src, TI.flat, apSize, pickAV, St.val, St.cond, St.fn, St.next, St.set, St.trim, wipe_eq, wipeE_app, wipeM_app, pickEnv, get?, cGet, upd_app, withPuts, killAll, rm, freshP, Oper.hnd, Sc.st, ofConst, constOk, lenAV, elemLen, loadAV, ldL, ld1, fieldAddrAV, indexAddrAV, sliceAV, convAV, buildAV, fillAV, fieldAV, Out.of, binAV, AV.rows, AV.one, AV.cells, AV.deepOk, AV.toD, toDs, partRows, partRowsM, partsDeep, TK.zeroAV, TK.zeroD, byteOf, inR, Op.operands, Call.operands, passVs, passV, passL, pass1, passB, pasVs, pasV, pasL, pas1, ownsOk, okHs, okHs2, okFin, finOk2, rho, over, backRes, backAV, backAV1, backBlk, putBack, back2, back2_V, back2_1, m2, AV.wipe, AV.wipeV, AV.wipe1, Blk.wipe, AV.hs, AV.hs.hsL, alOps, Con.start2, Con.pk, bodyQ, fini, resAV, resA, firstId, Sc.from, renEnv, renT, renV, renVs, renL, ren1, renBox, renOwn, okRen, clOf, actB, setRow, flatRows, flatD, noInv, shr_nil, shr_some, kStepF_some, shareL, AV.viewed, AV.viewed1, cPathsD, cPick, cOf, tTab, eStrs_isCons, clash, kd, eByte, all_true]
  refine ⟨s, p, ⟨rfl, rfl⟩, ⟨h1, by omega, by omega⟩, fun y hy hy2 => ⟨⟨[], p + 1, y.toNat, ⟨⟨rfl, by omega⟩, ⟨rfl, rfl⟩, rfl⟩, by simp; omega, by simp, by omega, by simp⟩, fun l q n g1 g2 g3 g4 => ⟨fun hn => ?_, fun hn => ?_⟩⟩⟩
  · have one : ∀ x : Str, x.length ≤ 3 → ((l.length + 1) * 16 ≤ 140737488355328 ∧ l.length ≤ 140737488355327) ∧ (-9223372036854775808 ≤ (n : Int) - 1 ∧ (n : Int) - 1 ≤ 9223372036854775807) ∧ (-9223372036854775808 ≤ (n : Int) - 1 → (n : Int) - 1 ≤ 9223372036854775807 →
        ∃ (a : List Str) (q2 : Int) (b : Nat), ((eStrs a = eStrs l ++ [[D.str x]] ∧ (b : Int) = (n : Int) - 1) ∧ (s = s ∧ q2 = q + 1) ∧ eStrs l ++ [[D.str x]] = eStrs a) ∧ (a.length + b ≤ 3 ∧ (∀ s : Str, s ∈ a → s.length ≤ 3) ∧ p ≤ q2 ∧ q2 ≤ p + 1 + (a.length : Int)) ∧ b < n) := by
      intro x hx
      refine ⟨⟨by omega, by omega⟩, ⟨by omega, by omega⟩, fun _ _ => ⟨l ++ [x], q + 1, n - 1, ⟨⟨by simp -implicitDefEqProofs [eStrs, eStr], by omega⟩, ⟨rfl, rfl⟩, by simp -implicitDefEqProofs [eStrs, eStr]⟩, ⟨by simp; omega, fun z hz => ?_, by omega, by simp; omega⟩, by omega⟩⟩
      rcases List.mem_append.1 hz with hz | hz
      · exact g2 z hz
      · simp at hz; subst hz; exact hx
    exact ⟨s, q, ⟨rfl, rfl⟩, ⟨h1, by omega, by omega⟩, one _ (by decide), one _ (by decide), one _ (by decide), one _ (by decide), one _ (by decide), one _ (by decide)⟩
  · have one : ∀ x : Str, x.length ≤ 3 → ((l.length + 1) * 16 ≤ 140737488355328 ∧ l.length ≤ 140737488355327) ∧ ∃ (a : List Str) (b : Int), (pathsD a ∧ p ≤ b ∧ b ≤ p + 6) ∧ eStrs a = eStrs l ++ [[D.str x]] ∧ (s = s ∧ b = q + 1 + 1) ∧ eStrs l ++ [[D.str x]] = eStrs a := by
      intro x hx
      refine ⟨⟨by omega, by omega⟩, l ++ [x], q + 1 + 1, ⟨⟨by simp; omega, fun z hz => ?_⟩, by omega, by omega⟩, (by simp -implicitDefEqProofs [eStrs, eStr]), ⟨rfl, rfl⟩, (by simp -implicitDefEqProofs [eStrs, eStr])⟩
      rcases List.mem_append.1 hz with hz | hz
      · exact g2 z hz
      · simp at hz; subst hz; exact hx
    exact ⟨s, q, ⟨rfl, rfl⟩, ⟨h1, by omega, by omega⟩, fun y _ _ => ⟨fun _ => ⟨s, q + 1, ⟨rfl, rfl⟩, ⟨h1, by omega, by omega⟩, one _ (by decide), one _ (by decide)⟩, fun _ => ⟨l, q + 1, ⟨⟨by omega, g2⟩, by omega, by omega⟩, rfl, ⟨rfl, rfl⟩, rfl⟩⟩⟩

def cDrawViewOf : Con := { A := Str, X := List FileD × List Str, n := 13, args := fun s => [.sl true 1 (eBytes s)], boxes := fun _ => [], pre := fun _ => True, post := fun _ x => drawnT x.1 ∧ pathsD x.2, res := fun _ x => .tup [.sl false 2 (eFiles x.1), .sl false 1 (eStrs x.2)], fin := fun _ _ => [] }
set_option maxHeartbeats 4000000 in
theorem drawViewOf_has : Has Tryd.prog 26 cDrawViewOf := by
  refine has_walk mixed tTab_ok (l := [(67, cL30Open), (68, cAnyTree), (81, cPathsD)]) (HasL.cons l30Open_has (HasL.cons anyTree_has (HasL.cons pathsD_has HasL.nil))) [0, 2, 3, 4, 5] ((fun a n (_ : Nat) => (fun _ => noInv) a n)) [] Tryd.func26 (by kernel_rfl) (code := _) (by unfold Tryd.f26; rfl) (by kernel_rfl) (by decide) (fun _ => ⟨(([] : List FileD), ([] : List Str)), ⟨Nat.zero_le 6, by simp⟩, Nat.zero_le 4, by simp⟩) (by intro h; first | exact fun _ => rfl | cases h) (by kernel_rfl) ?_
  intro (s : Str) _
  simp -implicitDefEqProofs [vc_skip, extOf, vc_seq, vc_cond, vc_block, vc_exit, vc_ret, vc_region, vc_regionD, vc_loop, kSeq_normal, kSeq_ret, kSeq_exit, kBlock_normal, kBlock_ret, kBlock_exit, kLoop_normal, kLoop_ret, kLoop_exit, kCond_bool, kNorm_app, vcOps_nil, vcOps_cons, kOps_app, kStep_some, kStep_none, vcDL_nil, vcDL_cons, kOpsD_app, kStepD_true, kStepD_false, kStepC_some, kStepC_none, kMv_app, act3_store, act3_call, act3_bs, kAct_app, kSt2_app, stealSlots, stealL, stealOne, subIn, AV.stolen, act_store, act_bs, act_append, act_call, kSet_app, kSet2_app, kSetG_app, kSetG_app0, kStore_ptr, kStore_eptr, kCallW_some, kCallC_some, kCall_some, wk_T, wk_n, wk_keep, wk_inv, wk_act, wk_dr, wk_le, aCalm, wantC, dstOk, calm, aCallK, aCall3K, subOf, subRep, aCall2K, apnd, bsMove, putBox, putOwn, partAV, mvL, AV.mv, AV.base, AV.moved, AV.src, TI.flat, apSize, pickAV, St.val, St.cond, St.fn, St.next, St.set, St.trim, wipe_eq, wipeE_app, wipeM_app, pickEnv, get?, cGet, upd_app, withPuts, killAll, rm, freshP, Oper.hnd, Sc.st, ofConst, constOk, lenAV, elemLen, loadAV, ldL, ld1, fieldAddrAV, indexAddrAV, sliceAV, convAV, buildAV, fillAV, fieldAV, Out.of, binAV, AV.rows, AV.one, AV.cells, AV.deepOk, AV.toD, toDs, partRows, partRowsM, partsDeep, TK.zeroAV, TK.zeroD, byteOf, inR, Op.operands, Call.operands, passVs, passV, passL, pass1, passB, pasVs, pasV, pasL, pas1, ownsOk, okHs, okHs2, okFin, finOk2, rho, over, backRes, backAV, backAV1, backBlk, putBack, back2, back2_V, back2_1, m2, AV.wipe, AV.wipeV, AV.wipe1, Blk.wipe, AV.hs, AV.hs.hsL, alOps, Con.start2, Con.pk, bodyQ, fini, resAV, resA, firstId, Sc.from, renEnv, renT, renV, renVs, renL, ren1, renBox, renOwn, okRen, clOf, actB, setRow, flatRows, flatD, noInv, shr_nil, shr_some, kStepF_some, shareL, AV.viewed, AV.viewed1, cDrawViewOf, cL30Open, cAnyTree, cPathsD, tTab, Con.fn, clash, kd, eByte, all_true]
  exact ⟨s.take 2000, 0, ⟨rfl, rfl⟩, ⟨by simp; omega, by omega, by omega⟩, fun t q g1 g2 g3 => ⟨s.take 2000, q, ⟨rfl, rfl⟩, ⟨by simp; omega, by omega, by omega⟩, fun l q2 g4 _ _ => ⟨g1, g4⟩⟩⟩

def cDrawViewFree : Con := { A := Str, X := List FileD × List Str × List Str, n := 18, args := fun s => [.sl true 1 (eBytes s)], boxes := fun _ => [], pre := fun _ => True, post := fun _ x => drawnT x.1 ∧ pathsD x.2.1 ∧ pathsD x.2.2, res := fun _ x => .tup [.sl false 2 (eFiles x.1), .sl false 1 (eStrs x.2.1), .sl false 1 (eStrs x.2.2)], fin := fun _ _ => [] }
set_option maxHeartbeats 4000000 in
theorem drawViewFree_has : Has Tryd.prog 32 cDrawViewFree := by
  refine has_walk mixed tTab_ok (l := [(67, cL30Open), (68, cAnyTree), (81, cPathsD)]) (HasL.cons l30Open_has (HasL.cons anyTree_has (HasL.cons pathsD_has HasL.nil))) [0, 2, 3, 4, 5, 6, 7] ((fun a n (_ : Nat) => (fun _ => noInv) a n)) [] Tryd.func32 (by kernel_rfl) (code := _) (by unfold Tryd.f32; rfl) (by kernel_rfl) (by decide) (fun _ => ⟨(([] : List FileD), ([] : List Str), ([] : List Str)), ⟨Nat.zero_le 6, by simp⟩, ⟨Nat.zero_le 4, by simp⟩, Nat.zero_le 4, by simp⟩) (by intro h; first | exact fun _ => rfl | cases h) (by kernel_rfl) ?_
  intro (s : Str) _
  simp -implicitDefEqProofs [vc_skip, extOf, vc_seq, vc_cond, vc_block, vc_exit, vc_ret, vc_region, vc_regionD, vc_loop, kSeq_normal, kSeq_ret, kSeq_exit, kBlock_normal, kBlock_ret, kBlock_exit, kLoop_normal, kLoop_ret, kLoop_exit, kCond_bool, kNorm_app, vcOps_nil, vcOps_cons, kOps_app, kStep_some, kStep_none, vcDL_nil, vcDL_cons, kOpsD_app, kStepD_true, kStepD_false, kStepC_some, kStepC_none, kMv_app, act3_store, act3_call, act3_bs, kAct_app, kSt2_app, stealSlots, stealL, stealOne, subIn, AV.stolen, act_store, act_bs, act_append, act_call, kSet_app, kSet2_app, kSetG_app, kSetG_app0, kStore_ptr, kStore_eptr, kCallW_some, kCallC_some, kCall_some, wk_T, wk_n, wk_keep, wk_inv, wk_act, wk_dr, wk_le, aCalm, wantC, dstOk, calm, aCallK, aCall3K, subOf, subRep, aCall2K, apnd, bsMove, putBox, putOwn, partAV, mvL, AV.mv, AV.base, AV.moved, AV.src, TI.flat, apSize, pickAV, St.val, St.cond, St.fn, St.next, St.set, St.trim, wipe_eq, wipeE_app, wipeM_app, pickEnv, get?, cGet, upd_app, withPuts, killAll, rm, freshP, Oper.hnd, Sc.st, ofConst, constOk, lenAV, elemLen, loadAV, ldL, ld1, fieldAddrAV, indexAddrAV, sliceAV, convAV, buildAV, fillAV, fieldAV, Out.of, binAV, AV.rows, AV.one, AV.cells, AV.deepOk, AV.toD, toDs, partRows, partRowsM, partsDeep, TK.zeroAV, TK.zeroD, byteOf, inR, Op.operands, Call.operands, passVs, passV, passL, pass1, passB, pasVs, pasV, pasL, pas1, ownsOk, okHs, okHs2, okFin, finOk2, rho, over, backRes, backAV, backAV1, backBlk, putBack, back2, back2_V, back2_1, m2, AV.wipe, AV.wipeV, AV.wipe1, Blk.wipe, AV.hs, AV.hs.hsL, alOps, Con.start2, Con.pk, bodyQ, fini, resAV, resA, firstId, Sc.from, renEnv, renT, renV, renVs, renL, ren1, renBox, renOwn, okRen, clOf, actB, setRow, flatRows, flatD, noInv, shr_nil, shr_some, kStepF_some, shareL, AV.viewed, AV.viewed1, cDrawViewFree, cL30Open, cAnyTree, cPathsD, tTab, Con.fn, clash, kd, eByte, all_true]
  exact ⟨s.take 2000, 0, ⟨rfl, rfl⟩, ⟨by simp; omega, by omega, by omega⟩, fun t q g1 g2 g3 => ⟨s.take 2000, q, ⟨rfl, rfl⟩, ⟨by simp; omega, by omega, by omega⟩, fun l q2 g4 g5 g6 => ⟨s.take 2000, q2, ⟨rfl, rfl⟩, ⟨by simp; omega, by omega, by omega⟩, fun l2 q3 g7 _ _ => ⟨t, l, l2, ⟨g1, g4, g7⟩, rfl, rfl, rfl⟩⟩⟩⟩

end Vx
end Go.Proofs.YtlhkmgbmnbkaeaaDoor
/-
  Walks in stages: regions below a number alone.
-/
namespace Go.Proofs.YtlhkmgbmnbkaeaaDoor
namespace Vx

theorem vc_regionU (N : Nat) {k : Wk} {id : Nat} {ops : Array Oper} {Q : Exit → St → Prop} {s : St} (_ : id < N) : vc k (.region id ops false) Q s = vcOps k ops ops.toList (s.trim k.keep) (kNorm Q) := rfl
theorem vc_regionDU (N : Nat) {k : Wk} {id : Nat} {ops : Array Oper} {Q : Exit → St → Prop} {s : St} (_ : id < N) : vc k (.region id ops true) Q s = k.dr ops (s.trim k.keep) (kNorm Q) := rfl

/-- Ahead of all else (↓): what a guard that is known leaves aside is not walked. -/
theorem ft_imp {p : Prop} : (false = true → p) = True := by simp
theorem tf_imp {p : Prop} : (true = false → p) = True := by simp
theorem tt_imp {p : Prop} : (true = true → p) = p := by simp
theorem ff_imp {p : Prop} : (false = false → p) = p := by simp

end Vx
end Go.Proofs.YtlhkmgbmnbkaeaaDoor
/-
  Contracts: the laws FnViewPut, FnViewFree.
-/
namespace Go.Proofs.YtlhkmgbmnbkaeaaDoor
namespace Vx
open Go.RowKit
set_option maxRecDepth 8000

theorem drawn_sz {t : List FileD} (h : drawnT t) : okSz t := ⟨by have := h.1; omega, fun f hf => by have := (h.2 f hf).2.1; omega, fun f hf => by have := (h.2 f hf).1; omega⟩
theorem viewOfI_mem (t : List FileD) (ps : List Str) : ∀ f ∈ viewOfI t ps, f ∈ t := by
  intro f hf
  unfold viewOfI at hf
  split at hf
  · exact (List.mem_filter.1 hf).1
  · simp at hf
theorem viewOfI_len (t : List FileD) (ps : List Str) : (viewOfI t ps).length ≤ t.length := by
  unfold viewOfI
  split
  · exact List.length_filter_le _ _
  · simp
theorem viewOf_sz {t : List FileD} {ps : List Str} (h : okSz t) : okSz (viewOfI t ps) := ⟨Nat.le_trans (viewOfI_len t ps) h.1, fun f hf => h.2.1 f (viewOfI_mem t ps f hf), fun f hf => h.2.2 f (viewOfI_mem t ps f hf)⟩

/-- Contracts whose results are known by a name alone (so that walks stay small). -/
def isVO (t : List FileD) (ps : List Str) (x : List FileD) : Prop := x = viewOfI t ps
structure VPR where
  l : List FileD
  ok : Bool
def isVP (t : List FileD) (ps : List Str) (v : List FileD) (x : VPR) : Prop := (x.l, x.ok) = viewPutI t ps v
theorem isVO_def {t ps x} : isVO t ps x ↔ x = viewOfI t ps := Iff.rfl
theorem isVP_def {t ps v x} : isVP t ps v x ↔ (x.l, x.ok) = viewPutI t ps v := Iff.rfl

theorem end_nil {c : Cx} {s : St} {a' : Act} {w' : World} {β' : Nat → Value} {fp' : Nat → List (Nat × Nat)} (E : SatI c s a' w' β' fp') (hp : c.pins = []) : SatI c ⟨fun _ => none, get? []⟩ a' w' β' fp' := by
  refine ⟨?_, ?_, ?_, ?_, ?_, E.fg, E.old, E.os, E.tape, E.output, E.size, E.defers, E.tn, by simp -implicitDefEqProofs [hp]⟩
  · intro t g av h; cases h
  · intro h blk hm; cases hm
  · intro h blk hm; cases hm
  · intro h h' blk blk' hm; cases hm
  · intro h blk hm; cases hm
theorem own_view {w : World} {m : Nat → Option Blk} {β : Nat → Value} {c : Cx} {h k : Nat} {rows : List (List D)} {v : Value} (hv : RelL w m β c [.own h k rows] [v]) : RelL w (get? []) β c [.sl false k rows] [v] := by
  cases hv with
  | own _ h2 _ _ =>
    obtain ⟨e, f, h1, h2⟩ := h2
    refine .sl ⟨e, f, h1, fun z hz => ⟨⟨?_, ?_⟩, (h2 z hz).2⟩⟩ .lnil
    · rintro ⟨h, ty, vs, hm, _⟩; cases hm
    · intro h e k d R n cc hm; cases hm

def cViewOfX : Con := { A := List FileD × List Str, X := List FileD, n := cViewOfI.n, args := cViewOfI.args, boxes := fun _ => [], pre := fun a => okSz a.1 ∧ ∀ q ∈ a.2, q.length ≤ 536870912, post := fun a x => isVO a.1 a.2 x, res := fun _ x => .sl false 2 (eFiles x), fin := fun _ _ => [] }
def cViewPutX : Con := { A := List FileD × List Str × List FileD, X := VPR, n := cViewPutI.n, args := cViewPutI.args, boxes := fun _ => [], pre := cViewPutI.pre, post := fun a x => isVP a.1 a.2.1 a.2.2 x, res := fun _ x => .tup [.sl false 2 (eFiles x.l), .bool x.ok], fin := fun _ _ => [] }
theorem viewOfX_has : Has Tryd.prog 27 cViewOfX := by
  refine ⟨viewOfI_has.enter, fun a => ⟨viewOfI a.1 a.2, rfl⟩, fun _ _ => rfl, ?_⟩
  intro a ha c vs β fp hn hpin hlen hlen2 S
  have hp : c.pins = [] := hpin
  refine (viewOfI_has.calls a ⟨fun f hf => ha.1.2.2 f hf, ha.2⟩ c vs β fp hn hpin hlen hlen2 S).mono ?_
  rintro e w' ⟨x, hx, v, rfl, β', fp', a', E, hv⟩
  exact ⟨viewOfI a.1 a.2, rfl, v, rfl, β', fp', a', end_nil E hp, own_view hv⟩
theorem viewPutX_has : Has Tryd.prog 30 cViewPutX := by
  refine ⟨viewPutI_has.enter, fun a => ⟨⟨(viewPutI a.1 a.2.1 a.2.2).1, (viewPutI a.1 a.2.1 a.2.2).2⟩, rfl⟩, fun _ _ => rfl, ?_⟩
  intro a ha c vs β fp hn hpin hlen hlen2 S
  have hp : c.pins = [] := hpin
  refine (viewPutI_has.calls a ha c vs β fp hn hpin hlen hlen2 S).mono ?_
  rintro e w' ⟨x, hx, v, rfl, β', fp', a', E, hv⟩
  refine ⟨⟨(viewPutI a.1 a.2.1 a.2.2).1, (viewPutI a.1 a.2.1 a.2.2).2⟩, rfl, v, rfl, β', fp', a', end_nil E hp, ?_⟩
  replace hv : RelL w' (get? (cViewPutI.fin a x)) β' c [.tup [.own 8 2 (eFiles (viewPutI a.1 a.2.1 a.2.2).1), .bool (viewPutI a.1 a.2.1 a.2.2).2]] [v] := hv
  cases hv with
  | tup h1 _ =>
    obtain ⟨u1, us, rfl, r1, r2⟩ := h1.uncons
    refine .tup ((own_view r1).append ?_) .lnil
    cases r2 with
    | bool r3 => cases r3; exact .bool .lnil
theorem viewPut_sz {t v : List FileD} {ps : List Str} (ht : okSz t) (hv : okSz v) : okSz (viewPutI t ps v).1 := by
  unfold viewPutI
  split
  · split
    · split
      · split
        · rename_i h4
          refine ⟨by have := (treeI_le _ h4).1; simp only; omega, fun f hf => ?_, fun f hf => ?_⟩
          · exact (inP_mem _ _ f hf).elim (fun h => ht.2.1 f (outP_mem _ _ f h)) fun h => hv.2.1 f h
          · exact (inP_mem _ _ f hf).elim (fun h => ht.2.2 f (outP_mem _ _ f h)) fun h => hv.2.2 f h
        · exact ht
      · exact ht
    · exact ht
  · exact ⟨by simp, by simp, by simp⟩

def cFnViewFree : Con := .fn 98 Str (fun s => [.sl true 1 (eBytes s)]) (fun _ => True) (fun _ => .bool true) (fun _ => [])
set_option maxHeartbeats 4000000 in
theorem fnViewFree_has : Has Tryd.prog 6 cFnViewFree := by
  refine has_walk mixed tTab_ok (l := [(32, cDrawViewFree), (33, cViewFreeI), (34, cViewFreeS), (30, cViewPutX), (28, cSmTree), (27, cViewOfX)]) (HasL.cons drawViewFree_has (HasL.cons viewFreeI_has (HasL.cons viewFreeS_has (HasL.cons viewPutX_has (HasL.cons smTree_has (HasL.cons viewOfX_has HasL.nil)))))) [0, 2, 3, 4, 5, 6, 7, 8, 9, 10, 11, 12, 13, 14] ((fun a n (_ : Nat) => (fun _ => noInv) a n)) [] Tryd.func6 (by kernel_rfl) (code := _) (by unfold Tryd.f6; rfl) (by kernel_rfl) (by decide) (fun _ => ⟨(), trivial⟩) (by intro h; first | exact fun _ => rfl | cases h) (by kernel_rfl) ?_
  intro (s : Str) _
  simp -implicitDefEqProofs [↓ft_imp, ↓tf_imp, ↓tt_imp, ↓ff_imp, vc_skip, extOf, vc_seq, vc_cond, vc_block, vc_exit, vc_ret, vc_regionU 7, vc_regionDU 7, vc_loop, kSeq_normal, kSeq_ret, kSeq_exit, kBlock_normal, kBlock_ret, kBlock_exit, kLoop_normal, kLoop_ret, kLoop_exit, kCond_bool, kNorm_app, vcOps_nil, vcOps_cons, kOps_app, kStep_some, kStep_none, vcDL_nil, vcDL_cons, kOpsD_app, kStepD_true, kStepD_false, kStepC_some, kStepC_none, kMv_app, act3_store, act3_call, act3_bs, kAct_app, kSt2_app, stealSlots, stealL, stealOne, subIn, AV.stolen, act_store, act_bs, act_append, act_call, kSet_app, kSet2_app, kSetG_app, kSetG_app0, kStore_ptr, kStore_eptr, kCallW_some, kCallC_some, kCall_some, wk_T, wk_n, wk_keep, wk_inv, wk_act, wk_dr, wk_le, aCalm, wantC, dstOk, calm, aCallK, aCall3K, subOf, subRep, aCall2K, apnd, bsMove, putBox, putOwn, partAV, mvL, AV.mv, AV.base, AV.moved, AV.src, TI.flat, apSize, pickAV, St.val, St.cond, St.fn, St.next, St.set, St.trim, wipe_eq, wipeE_app, wipeM_app, pickEnv, get?, cGet, upd_app, withPuts, killAll, rm, freshP, Oper.hnd, Sc.st, ofConst, constOk, lenAV, elemLen, loadAV, ldL, ld1, fieldAddrAV, indexAddrAV, sliceAV, convAV, buildAV, fillAV, fieldAV, Out.of, binAV, AV.rows, AV.one, AV.cells, AV.deepOk, AV.toD, toDs, partRows, partRowsM, partsDeep, TK.zeroAV, TK.zeroD, byteOf, inR, Op.operands, Call.operands, passVs, passV, passL, pass1, passB, pasVs, pasV, pasL, pas1, ownsOk, okHs, okHs2, okFin, finOk2, rho, over, backRes, backAV, backAV1, backBlk, putBack, back2, back2_V, back2_1, m2, AV.wipe, AV.wipeV, AV.wipe1, Blk.wipe, AV.hs, AV.hs.hsL, alOps, Con.start2, Con.pk, bodyQ, fini, resAV, resA, firstId, Sc.from, renEnv, renT, renV, renVs, renL, ren1, renBox, renOwn, okRen, clOf, actB, setRow, flatRows, flatD, noInv, shr_nil, shr_some, kStepF_some, shareL, AV.viewed, AV.viewed1, cFnViewFree, cDrawViewFree, cSmTree, cViewFreeI, cViewFreeS, Con.fn, tTab]
  try dsimp only
  refine fun _ _ t p q ht hp hq => ?_
  have z1 := drawn_sz ht
  have z2 : ∀ x ∈ p, List.length x ≤ 536870912 := fun x hx => by have := hp.2 x hx; omega
  have z3 : ∀ x ∈ q, List.length x ≤ 536870912 := fun x hx => by have := hq.2 x hx; omega
  have z0 : okSz ([] : List FileD) := ⟨by simp, by simp, by simp⟩
  refine ⟨t, p, q, ⟨rfl, rfl, rfl⟩, ⟨z1.2.2, z2, z3⟩, fun hI => ⟨t, p, q, ⟨rfl, rfl, rfl⟩, fun hS => absurd hS (by rw [← free_eq, hI]; simp), fun hS => ⟨fun _ => ?_, fun h => absurd h (by rw [hI]; simp)⟩⟩, fun hI => ?_⟩
  rotate_left
  · refine ⟨t, p, q, ⟨rfl, rfl, rfl⟩, fun hS => absurd hS (by rw [← free_eq, hI]; simp), fun hS => ⟨fun h => absurd h (by rw [hI]; simp), fun _ => ?_⟩⟩
    exact ⟨fun h => absurd h (by rw [hI]; simp), fun _ => ⟨t, p, q, ⟨rfl, rfl, rfl⟩, hS⟩⟩
  simp -implicitDefEqProofs [↓ft_imp, ↓tf_imp, ↓tt_imp, ↓ff_imp, vc_skip, extOf, vc_seq, vc_cond, vc_block, vc_exit, vc_ret, vc_regionU 8, vc_regionDU 8, vc_loop, kSeq_normal, kSeq_ret, kSeq_exit, kBlock_normal, kBlock_ret, kBlock_exit, kLoop_normal, kLoop_ret, kLoop_exit, kCond_bool, kNorm_app, vcOps_nil, vcOps_cons, kOps_app, kStep_some, kStep_none, vcDL_nil, vcDL_cons, kOpsD_app, kStepD_true, kStepD_false, kStepC_some, kStepC_none, kMv_app, act3_store, act3_call, act3_bs, kAct_app, kSt2_app, stealSlots, stealL, stealOne, subIn, AV.stolen, act_store, act_bs, act_append, act_call, kSet_app, kSet2_app, kSetG_app, kSetG_app0, kStore_ptr, kStore_eptr, kCallW_some, kCallC_some, kCall_some, wk_T, wk_n, wk_keep, wk_inv, wk_act, wk_dr, wk_le, aCalm, wantC, dstOk, calm, aCallK, aCall3K, subOf, subRep, aCall2K, apnd, bsMove, putBox, putOwn, partAV, mvL, AV.mv, AV.base, AV.moved, AV.src, TI.flat, apSize, pickAV, St.val, St.cond, St.fn, St.next, St.set, St.trim, wipe_eq, wipeE_app, wipeM_app, pickEnv, get?, cGet, upd_app, withPuts, killAll, rm, freshP, Oper.hnd, Sc.st, ofConst, constOk, lenAV, elemLen, loadAV, ldL, ld1, fieldAddrAV, indexAddrAV, sliceAV, convAV, buildAV, fillAV, fieldAV, Out.of, binAV, AV.rows, AV.one, AV.cells, AV.deepOk, AV.toD, toDs, partRows, partRowsM, partsDeep, TK.zeroAV, TK.zeroD, byteOf, inR, Op.operands, Call.operands, passVs, passV, passL, pass1, passB, pasVs, pasV, pasL, pas1, ownsOk, okHs, okHs2, okFin, finOk2, rho, over, backRes, backAV, backAV1, backBlk, putBack, back2, back2_V, back2_1, m2, AV.wipe, AV.wipeV, AV.wipe1, Blk.wipe, AV.hs, AV.hs.hsL, alOps, Con.start2, Con.pk, bodyQ, fini, resAV, resA, firstId, Sc.from, renEnv, renT, renV, renVs, renL, ren1, renBox, renOwn, okRen, clOf, actB, setRow, flatRows, flatD, noInv, shr_nil, shr_some, kStepF_some, shareL, AV.viewed, AV.viewed1, cViewPutX, cViewPutI, Con.fn, tTab]
  try dsimp only
  refine ⟨t, p, [], ⟨rfl, rfl, rfl⟩, ⟨z1, z2, z0⟩, fun y1 w1 => ?_⟩
  have o1 : okSz y1.l := by have := viewPut_sz (ps := p) z1 z0; rw [← isVP_def.1 w1] at this; exact this
  simp -implicitDefEqProofs [↓ft_imp, ↓tf_imp, ↓tt_imp, ↓ff_imp, vc_skip, extOf, vc_seq, vc_cond, vc_block, vc_exit, vc_ret, vc_regionU 9, vc_regionDU 9, vc_loop, kSeq_normal, kSeq_ret, kSeq_exit, kBlock_normal, kBlock_ret, kBlock_exit, kLoop_normal, kLoop_ret, kLoop_exit, kCond_bool, kNorm_app, vcOps_nil, vcOps_cons, kOps_app, kStep_some, kStep_none, vcDL_nil, vcDL_cons, kOpsD_app, kStepD_true, kStepD_false, kStepC_some, kStepC_none, kMv_app, act3_store, act3_call, act3_bs, kAct_app, kSt2_app, stealSlots, stealL, stealOne, subIn, AV.stolen, act_store, act_bs, act_append, act_call, kSet_app, kSet2_app, kSetG_app, kSetG_app0, kStore_ptr, kStore_eptr, kCallW_some, kCallC_some, kCall_some, wk_T, wk_n, wk_keep, wk_inv, wk_act, wk_dr, wk_le, aCalm, wantC, dstOk, calm, aCallK, aCall3K, subOf, subRep, aCall2K, apnd, bsMove, putBox, putOwn, partAV, mvL, AV.mv, AV.base, AV.moved, AV.src, TI.flat, apSize, pickAV, St.val, St.cond, St.fn, St.next, St.set, St.trim, wipe_eq, wipeE_app, wipeM_app, pickEnv, get?, cGet, upd_app, withPuts, killAll, rm, freshP, Oper.hnd, Sc.st, ofConst, constOk, lenAV, elemLen, loadAV, ldL, ld1, fieldAddrAV, indexAddrAV, sliceAV, convAV, buildAV, fillAV, fieldAV, Out.of, binAV, AV.rows, AV.one, AV.cells, AV.deepOk, AV.toD, toDs, partRows, partRowsM, partsDeep, TK.zeroAV, TK.zeroD, byteOf, inR, Op.operands, Call.operands, passVs, passV, passL, pass1, passB, pasVs, pasV, pasL, pas1, ownsOk, okHs, okHs2, okFin, finOk2, rho, over, backRes, backAV, backAV1, backBlk, putBack, back2, back2_V, back2_1, m2, AV.wipe, AV.wipeV, AV.wipe1, Blk.wipe, AV.hs, AV.hs.hsL, alOps, Con.start2, Con.pk, bodyQ, fini, resAV, resA, firstId, Sc.from, renEnv, renT, renV, renVs, renL, ren1, renBox, renOwn, okRen, clOf, actB, setRow, flatRows, flatD, noInv, shr_nil, shr_some, kStepF_some, shareL, AV.viewed, AV.viewed1, cViewPutX, cViewPutI, Con.fn, tTab]
  try dsimp only
  refine ⟨y1.l, q, [], ⟨rfl, rfl, rfl⟩, ⟨o1, z3, z0⟩, fun y2 w2 => ?_⟩
  have o2 : okSz y2.l := by have := viewPut_sz (ps := q) o1 z0; rw [← isVP_def.1 w2] at this; exact this
  simp -implicitDefEqProofs [↓ft_imp, ↓tf_imp, ↓tt_imp, ↓ff_imp, vc_skip, extOf, vc_seq, vc_cond, vc_block, vc_exit, vc_ret, vc_regionU 10, vc_regionDU 10, vc_loop, kSeq_normal, kSeq_ret, kSeq_exit, kBlock_normal, kBlock_ret, kBlock_exit, kLoop_normal, kLoop_ret, kLoop_exit, kCond_bool, kNorm_app, vcOps_nil, vcOps_cons, kOps_app, kStep_some, kStep_none, vcDL_nil, vcDL_cons, kOpsD_app, kStepD_true, kStepD_false, kStepC_some, kStepC_none, kMv_app, act3_store, act3_call, act3_bs, kAct_app, kSt2_app, stealSlots, stealL, stealOne, subIn, AV.stolen, act_store, act_bs, act_append, act_call, kSet_app, kSet2_app, kSetG_app, kSetG_app0, kStore_ptr, kStore_eptr, kCallW_some, kCallC_some, kCall_some, wk_T, wk_n, wk_keep, wk_inv, wk_act, wk_dr, wk_le, aCalm, wantC, dstOk, calm, aCallK, aCall3K, subOf, subRep, aCall2K, apnd, bsMove, putBox, putOwn, partAV, mvL, AV.mv, AV.base, AV.moved, AV.src, TI.flat, apSize, pickAV, St.val, St.cond, St.fn, St.next, St.set, St.trim, wipe_eq, wipeE_app, wipeM_app, pickEnv, get?, cGet, upd_app, withPuts, killAll, rm, freshP, Oper.hnd, Sc.st, ofConst, constOk, lenAV, elemLen, loadAV, ldL, ld1, fieldAddrAV, indexAddrAV, sliceAV, convAV, buildAV, fillAV, fieldAV, Out.of, binAV, AV.rows, AV.one, AV.cells, AV.deepOk, AV.toD, toDs, partRows, partRowsM, partsDeep, TK.zeroAV, TK.zeroD, byteOf, inR, Op.operands, Call.operands, passVs, passV, passL, pass1, passB, pasVs, pasV, pasL, pas1, ownsOk, okHs, okHs2, okFin, finOk2, rho, over, backRes, backAV, backAV1, backBlk, putBack, back2, back2_V, back2_1, m2, AV.wipe, AV.wipeV, AV.wipe1, Blk.wipe, AV.hs, AV.hs.hsL, alOps, Con.start2, Con.pk, bodyQ, fini, resAV, resA, firstId, Sc.from, renEnv, renT, renV, renVs, renL, ren1, renBox, renOwn, okRen, clOf, actB, setRow, flatRows, flatD, noInv, shr_nil, shr_some, kStepF_some, shareL, AV.viewed, AV.viewed1, cViewPutX, cViewPutI, Con.fn, tTab]
  try dsimp only
  refine ⟨t, q, [], ⟨rfl, rfl, rfl⟩, ⟨z1, z3, z0⟩, fun y3 w3 => ?_⟩
  have o3 : okSz y3.l := by have := viewPut_sz (ps := q) z1 z0; rw [← isVP_def.1 w3] at this; exact this
  simp -implicitDefEqProofs [↓ft_imp, ↓tf_imp, ↓tt_imp, ↓ff_imp, vc_skip, extOf, vc_seq, vc_cond, vc_block, vc_exit, vc_ret, vc_regionU 11, vc_regionDU 11, vc_loop, kSeq_normal, kSeq_ret, kSeq_exit, kBlock_normal, kBlock_ret, kBlock_exit, kLoop_normal, kLoop_ret, kLoop_exit, kCond_bool, kNorm_app, vcOps_nil, vcOps_cons, kOps_app, kStep_some, kStep_none, vcDL_nil, vcDL_cons, kOpsD_app, kStepD_true, kStepD_false, kStepC_some, kStepC_none, kMv_app, act3_store, act3_call, act3_bs, kAct_app, kSt2_app, stealSlots, stealL, stealOne, subIn, AV.stolen, act_store, act_bs, act_append, act_call, kSet_app, kSet2_app, kSetG_app, kSetG_app0, kStore_ptr, kStore_eptr, kCallW_some, kCallC_some, kCall_some, wk_T, wk_n, wk_keep, wk_inv, wk_act, wk_dr, wk_le, aCalm, wantC, dstOk, calm, aCallK, aCall3K, subOf, subRep, aCall2K, apnd, bsMove, putBox, putOwn, partAV, mvL, AV.mv, AV.base, AV.moved, AV.src, TI.flat, apSize, pickAV, St.val, St.cond, St.fn, St.next, St.set, St.trim, wipe_eq, wipeE_app, wipeM_app, pickEnv, get?, cGet, upd_app, withPuts, killAll, rm, freshP, Oper.hnd, Sc.st, ofConst, constOk, lenAV, elemLen, loadAV, ldL, ld1, fieldAddrAV, indexAddrAV, sliceAV, convAV, buildAV, fillAV, fieldAV, Out.of, binAV, AV.rows, AV.one, AV.cells, AV.deepOk, AV.toD, toDs, partRows, partRowsM, partsDeep, TK.zeroAV, TK.zeroD, byteOf, inR, Op.operands, Call.operands, passVs, passV, passL, pass1, passB, pasVs, pasV, pasL, pas1, ownsOk, okHs, okHs2, okFin, finOk2, rho, over, backRes, backAV, backAV1, backBlk, putBack, back2, back2_V, back2_1, m2, AV.wipe, AV.wipeV, AV.wipe1, Blk.wipe, AV.hs, AV.hs.hsL, alOps, Con.start2, Con.pk, bodyQ, fini, resAV, resA, firstId, Sc.from, renEnv, renT, renV, renVs, renL, ren1, renBox, renOwn, okRen, clOf, actB, setRow, flatRows, flatD, noInv, shr_nil, shr_some, kStepF_some, shareL, AV.viewed, AV.viewed1, cViewPutX, cViewPutI, Con.fn, tTab]
  try dsimp only
  refine ⟨y3.l, p, [], ⟨rfl, rfl, rfl⟩, ⟨o3, z2, z0⟩, fun y4 w4 => ?_⟩
  have o4 : okSz y4.l := by have := viewPut_sz (ps := p) o3 z0; rw [← isVP_def.1 w4] at this; exact this
  clear hp hq ht
  obtain ⟨l1, l2, l3, l4, l5, l6, l7⟩ := view_free_law hI
  have u1 := isVP_def.1 w1
  rw [← u1] at l1 l2 l5 l6
  have u2 := isVP_def.1 w2
  rw [← u2] at l2 l5
  have u3 := isVP_def.1 w3
  rw [← u3] at l3 l4 l5
  have u4 := isVP_def.1 w4
  rw [← u4] at l4 l5
  simp only at l1 l2 l3 l4 l5 l6
  simp -implicitDefEqProofs [↓ft_imp, ↓tf_imp, ↓tt_imp, ↓ff_imp, vc_skip, extOf, vc_seq, vc_cond, vc_block, vc_exit, vc_ret, vc_regionU 12, vc_regionDU 12, vc_loop, kSeq_normal, kSeq_ret, kSeq_exit, kBlock_normal, kBlock_ret, kBlock_exit, kLoop_normal, kLoop_ret, kLoop_exit, kCond_bool, kNorm_app, vcOps_nil, vcOps_cons, kOps_app, kStep_some, kStep_none, vcDL_nil, vcDL_cons, kOpsD_app, kStepD_true, kStepD_false, kStepC_some, kStepC_none, kMv_app, act3_store, act3_call, act3_bs, kAct_app, kSt2_app, stealSlots, stealL, stealOne, subIn, AV.stolen, act_store, act_bs, act_append, act_call, kSet_app, kSet2_app, kSetG_app, kSetG_app0, kStore_ptr, kStore_eptr, kCallW_some, kCallC_some, kCall_some, wk_T, wk_n, wk_keep, wk_inv, wk_act, wk_dr, wk_le, aCalm, wantC, dstOk, calm, aCallK, aCall3K, subOf, subRep, aCall2K, apnd, bsMove, putBox, putOwn, partAV, mvL, AV.mv, AV.base, AV.moved, AV.src, TI.flat, apSize, pickAV, St.val, St.cond, St.fn, St.next, St.set, St.trim, wipe_eq, wipeE_app, wipeM_app, pickEnv, get?, cGet, upd_app, withPuts, killAll, rm, freshP, Oper.hnd, Sc.st, ofConst, constOk, lenAV, elemLen, loadAV, ldL, ld1, fieldAddrAV, indexAddrAV, sliceAV, convAV, buildAV, fillAV, fieldAV, Out.of, binAV, AV.rows, AV.one, AV.cells, AV.deepOk, AV.toD, toDs, partRows, partRowsM, partsDeep, TK.zeroAV, TK.zeroD, byteOf, inR, Op.operands, Call.operands, passVs, passV, passL, pass1, passB, pasVs, pasV, pasL, pas1, ownsOk, okHs, okHs2, okFin, finOk2, rho, over, backRes, backAV, backAV1, backBlk, putBack, back2, back2_V, back2_1, m2, AV.wipe, AV.wipeV, AV.wipe1, Blk.wipe, AV.hs, AV.hs.hsL, alOps, Con.start2, Con.pk, bodyQ, fini, resAV, resA, firstId, Sc.from, renEnv, renT, renV, renVs, renL, ren1, renBox, renOwn, okRen, clOf, actB, setRow, flatRows, flatD, noInv, shr_nil, shr_some, kStepF_some, shareL, AV.viewed, AV.viewed1, cViewOfX, cViewOfI, cSmTree, cViewFreeI, Con.fn, tTab]
  try dsimp only
  rw [l1, l2, l3, l4]
  simp only [true_implies, false_implies, Bool.true_eq_false, and_true]
  refine ⟨y2.l, y4.l, ⟨rfl, rfl⟩, fun _ => ⟨y1.l, q, ⟨rfl, rfl⟩, ⟨o1, z3⟩, fun v1 x1 => ⟨t, q, ⟨rfl, rfl⟩, ⟨z1, z3⟩, fun v2 x2 => ⟨?_, t, q, p, ⟨rfl, rfl, rfl⟩, ⟨z1.2.2, z3, z2⟩, l7⟩⟩⟩, fun h => absurd l5 h⟩
  rw [isVO_def.1 x1, isVO_def.1 x2, l6]

end Vx
end Go.Proofs.YtlhkmgbmnbkaeaaDoor
/-
  Contracts: ViewOf (the reference's), marks looked for in trees; the law FnExactViewOf.
-/
namespace Go.Proofs.YtlhkmgbmnbkaeaaDoor
namespace Vx
open Go.RowKit
set_option maxRecDepth 8000

def viewOfS (t : List FileD) (l : List Str) : List FileD := if treeS t && viewS l then filB (fun f => in25 l f.path) t else []
def cViewOfS : Con := .fn 40 (List FileD × List Str) (fun a => [.sl true 2 (eFiles a.1), .sl true 1 (eStrs a.2)]) (fun _ => True) (fun a => .own 8 2 (eFiles (viewOfS a.1 a.2))) (fun a => ownFiles 8 (viewOfS a.1 a.2))
set_option maxHeartbeats 4000000 in
theorem viewOfS_has : Has Tryd.prog 29 cViewOfS := by
  refine has_walk mixed tTab_ok (l := [(72, cL4Ok), (85, cL25Paths), (86, cL4Copy), (87, cL25In)]) (HasL.cons l4Ok_has (HasL.cons l25Paths_has (HasL.cons l4Copy_has (HasL.cons l25In_has HasL.nil)))) [0, 1, 4, 5, 6, 7] ((fun a n (_ : Nat) => (fun a _ => ⟨Nat, fun i => ⟨[(1, true, .sl true 1 (eStrs a.2)), (4, true, .nil), (5, true, .own 9 2 (eFiles (filB (fun f => in25 a.2 f.path) (a.1.take i)))), (6, true, .own 10 2 (goneR (fun f => in25 a.2 f.path) a.1 i)), (7, true, .int .i64 i)], [(9, .own 32 2 true (eFiles (filB (fun f => in25 a.2 f.path) (a.1.take i)))), (10, .own 32 2 true (goneR (fun f => in25 a.2 f.path) a.1 i))]⟩, fun i => i ≤ a.1.length ∧ treeS a.1 = true ∧ viewS a.2 = true, fun i => a.1.length - i⟩) a n)) [37] Tryd.func29 (by kernel_rfl) (code := _) (by unfold Tryd.f29; rfl) (by kernel_rfl) (by decide) (fun _ => ⟨(), trivial⟩) (by intro h; first | exact fun _ => rfl | cases h) (by kernel_rfl) ?_
  intro a ha
  obtain ⟨t, l⟩ := a
  have h1 := treeS_le t
  simp -implicitDefEqProofs [vc_skip, extOf, vc_seq, vc_cond, vc_block, vc_exit, vc_ret, vc_region, vc_regionD, vc_loop, kSeq_normal, kSeq_ret, kSeq_exit, kBlock_normal, kBlock_ret, kBlock_exit, kLoop_normal, kLoop_ret, kLoop_exit, kCond_bool, kNorm_app, vcOps_nil, vcOps_cons, kOps_app, kStep_some, kStep_none, vcDL_nil, vcDL_cons, kOpsD_app, kStepD_true, kStepD_false, kStepC_some, kStepC_none, kMv_app, act3_store, act3_call, act3_bs, kAct_app, kSt2_app, stealSlots, stealL, stealOne, subIn, AV.stolen, act_store, act_bs, act_append, act_call, kSet_app, kSet2_app, kSetG_app, kSetG_app0, kStore_ptr, kStore_eptr, kCallW_some, kCallC_some, kCall_some, wk_T, wk_n, wk_keep, wk_inv, wk_act, wk_dr, wk_le, aCalm, wantC, dstOk, calm, aCallK, aCall3K, subOf, subRep, aCall2K, apnd, bsMove, putBox, putOwn, partAV, mvL, AV.mv, AV.base, AV.moved, AV.src, TI.flat, apSize, pickAV, St.val, St.cond, St.fn, St.next, St.set, St.trim, wipe_eq, wipeE_app, wipeM_app, pickEnv, get?, cGet, upd_app, withPuts, killAll, rm, freshP, Oper.hnd, Sc.st, ofConst, constOk, lenAV, elemLen, loadAV, ldL, ld1, fieldAddrAV, indexAddrAV, sliceAV, convAV, buildAV, fillAV, fieldAV, Out.of, binAV, AV.rows, AV.one, AV.cells, AV.deepOk, AV.toD, toDs, partRows, partRowsM, partsDeep, TK.zeroAV, TK.zeroD, byteOf, inR, Op.operands, Call.operands, passVs, passV, passL, pass1, passB, pasVs, pasV, pasL, pas1, ownsOk, okHs, okHs2, okFin, finOk2, rho, over, backRes, backAV, backAV1, backBlk, putBack, back2, back2_V, back2_1, m2, AV.wipe, AV.wipeV, AV.wipe1, Blk.wipe, AV.hs, AV.hs.hsL, alOps, Con.start2, Con.pk, bodyQ, fini, resAV, resA, firstId, Sc.from, renEnv, renT, renV, renVs, renL, ren1, renBox, renOwn, okRen, clOf, actB, setRow, flatRows, flatD, noInv, shr_nil, shr_some, kStepF_some, shareL, AV.viewed, AV.viewed1, cViewOfS, Con.fn, tTab, cL4Ok, cL25Paths, cL4Copy, cL25In]
  try dsimp only
  generalize hp : (fun f : FileD => in25 l f.path) = p
  have hpv : ∀ f : FileD, in25 l f.path = p f := fun f => by rw [← hp]
  have hI : ∀ x, treeS t = true → viewS l = true → x = filB p t → viewOfS t l = x := fun x a b c => by unfold viewOfS; rw [a, b, hp, c]; rfl
  have hF1 : treeS t = false → viewOfS t l = [] := fun h => by unfold viewOfS; rw [h]; rfl
  have hF2 : viewS l = false → viewOfS t l = [] := fun h => by unfold viewOfS; rw [h]; simp
  refine ⟨hF1, fun hT => ⟨hF2, fun hV => ⟨⟨by have := h1 hT; omega, fun f hf => by have := (h1 hT).2 f hf; omega⟩, ⟨0, by simp [goneR_zero, fil_nil, hT, hV]⟩, fun i hi _ _ _ => ⟨fun hlt => ?_, fun hge => ?_⟩⟩⟩⟩
  · have g2 := goneR_len p t i
    rw [g2] at hlt
    have g1 := goneR_get (p := p) hlt
    have g3 := fil_le p t i
    have g4 := (h1 hT).1
    have g5 : (goneR p t i)[i]'(by rw [g2]; exact hlt) = eFile t[i] := by
      have := g1
      rw [List.getElem?_eq_getElem (by rw [g2]; exact hlt)] at this
      exact Option.some.inj this
    simp [g1, g5, g2, eFile, D.asStr, D.asRows, hlt, and_assoc, hpv]
    refine ⟨fun hh => ⟨by omega, by omega, by omega, by omega, fun _ _ => ?_⟩, fun hh => ⟨by omega, by omega, fun _ _ => ?_⟩⟩
    · have e1 := fil_hit (p := p) hlt hh
      have e2 := goneR_hit (p := p) hlt hh
      have e3 : eFiles (filB p (t.take (i + 1))) = eFiles (filB p (t.take i)) ++ [[D.str t[i].path, D.sl 9 1 (eStrs t[i].text)]] := by rw [e1, eFiles_append]; rfl
      exact ⟨i + 1, e3, e2.symm, by omega, e3.symm, e2, by omega, hT, hV, by omega⟩
    · have e1 := fil_miss (p := p) hlt hh
      have e2 := goneR_miss (p := p) hlt hh
      exact ⟨i + 1, e1, e2, by omega, e1.symm, e2.symm, by omega, hT, hV, by omega⟩
  · rw [goneR_len] at hge
    have e1 := hI (filB p (t.take i)) hT hV (by rw [List.take_of_length_le hge])
    exact ⟨e1, e1.symm⟩

theorem kE_marks (t : List FileD) (k j : Int) : kE (markFs t k) j = kE t j := by
  have : nLines (markFs t k) = nLines t := by
    unfold nLines markFs
    rw [List.map_map]
    have : ((fun f : FileD => f.text.length) ∘ fun i : Nat => (⟨markS (kE (t.take i) k), markL (t.getD i default).text.length (kE (t.take i) k + 1)⟩ : FileD)) = fun i => (t.getD i default).text.length := by
      funext i; simp [markL_len]
    rw [this]
    congr 1
    apply List.ext_getElem (by simp)
    intro i h1 h2
    simp at h1
    simp [h1]
  unfold kE
  rw [this, markFs_len]
theorem markFs_take (t : List FileD) (k : Int) (i : Nat) (h : i ≤ t.length) : markFs (t.take i) k = (markFs t k).take i := by
  unfold markFs
  rw [← List.map_take, List.take_range, List.length_take, Nat.min_comm]
  rw [Nat.min_comm]
  apply List.map_congr_left
  intro j hj
  have hj : j < i := by simp at hj; omega
  rw [List.take_take, Nat.min_eq_left (by omega)]
  simp [List.getElem?_take, hj]
theorem markFs_same (t : List FileD) (k : Int) : markFs (markFs t k) k = markFs t k := by
  show (List.range (markFs t k).length).map _ = (List.range t.length).map _
  rw [markFs_len]
  apply List.map_congr_left
  intro i hi
  have hi : i < t.length := by simpa using hi
  rw [← markFs_take t k i (by omega), kE_marks]
  have : ((markFs t k).getD i default).text.length = (t.getD i default).text.length := by simp [markFs, hi, markL_len]
  rw [this]

def heldFs (t : List FileD) (k : Int) : Int := if t = markFs t k then kE t k else -1
theorem heldFs_mark (t : List FileD) (k : Int) : heldFs (markFs t k) k = kE t k := by
  unfold heldFs
  rw [markFs_same, if_pos rfl, kE_marks]
def cHeldFileS : Con := .fn 32 (List FileD × Int) (fun a => [.sl true 2 (eFiles a.1), .int .i64 a.2]) (fun a => 0 ≤ a.2 ∧ kE a.1 a.2 ≤ 1152921504606846976) (fun a => .int .i64 (heldFs a.1 a.2)) (fun _ => [])
theorem heldF_get {t : List FileD} {k : Int} {i : Nat} (h : i < t.length) : (markFs t k)[i]'(by rw [markFs_len]; exact h) = ⟨markS (kE (t.take i) k), markL t[i].text.length (kE (t.take i) k + 1)⟩ := by simp [markFs, h]
theorem heldF_miss {t : List FileD} {k : Int} {i : Nat} (h : i < t.length) (h2 : t[i].path ≠ markS (kE (t.take i) k) ∨ t[i].text ≠ markL t[i].text.length (kE (t.take i) k + 1)) : heldFs t k = -1 := by
  unfold heldFs
  rw [if_neg]
  intro h3
  have : t[i]? = (markFs t k)[i]? := by rw [← h3]
  rw [List.getElem?_eq_getElem h, List.getElem?_eq_getElem (by rw [markFs_len]; exact h), heldF_get h] at this
  have := Option.some.inj this
  rcases h2 with h2 | h2
  · exact h2 (congrArg FileD.path this)
  · exact h2 (congrArg FileD.text this)
theorem heldF_step {t : List FileD} {k : Int} {i : Nat} (h : i < t.length) (h1 : t.take i = (markFs t k).take i) (h2 : t[i].path = markS (kE (t.take i) k)) (h3 : t[i].text = markL t[i].text.length (kE (t.take i) k + 1)) : t.take (i + 1) = (markFs t k).take (i + 1) := by
  rw [take_succ' h, take_succ' (by rw [markFs_len]; exact h), heldF_get h, ← h1, ← h2, ← h3]
theorem heldF_end {t : List FileD} {k : Int} {i : Nat} (h : t.length ≤ i) (h1 : t.take i = (markFs t k).take i) : heldFs t k = kE (t.take i) k := by
  rw [List.take_of_length_le h, List.take_of_length_le (by rw [markFs_len]; exact h)] at h1
  unfold heldFs
  rw [if_pos h1, List.take_of_length_le h]
set_option maxHeartbeats 4000000 in
theorem heldFileS_has : Has Tryd.prog 41 cHeldFileS := by
  refine has_walk mixed tTab_ok (l := [(92, cMarkText), (93, cHeldStringS)]) (HasL.cons markText_has (HasL.cons heldStringS_has HasL.nil)) [0, 1, 4, 5] ((fun a n (_ : Nat) => (fun a _ => ⟨Nat, fun i => ⟨[(0, true, .sl true 2 (eFiles a.1)), (1, true, .int .i64 (kE (a.1.take i) a.2)), (4, true, .int .i64 0), (5, true, .int .i64 i)], []⟩, fun i => i ≤ a.1.length ∧ a.1.take i = (markFs a.1 a.2).take i, fun i => a.1.length - i⟩) a n)) [] Tryd.func41 (by kernel_rfl) (code := _) (by unfold Tryd.f41; rfl) (by kernel_rfl) (by decide) (fun _ => ⟨(), trivial⟩) (by intro h; first | exact fun _ => rfl | cases h) (by kernel_rfl) ?_
  intro a ha
  obtain ⟨t, k⟩ := a
  obtain ⟨q1, q2⟩ : 0 ≤ k ∧ kE t k ≤ 1152921504606846976 := ha
  have e1 := fun i => @heldF_miss t k i
  have e2 := fun i => @heldF_step t k i
  have e3 := fun i => @heldF_end t k i
  have e6 := fun i => @kE_step t k i
  have e7 := fun i => @kE_le t k i
  have e8 := kE_zero k
  simp -implicitDefEqProofs [vc_skip, extOf, vc_seq, vc_cond, vc_block, vc_exit, vc_ret, vc_region, vc_regionD, vc_loop, kSeq_normal, kSeq_ret, kSeq_exit, kBlock_normal, kBlock_ret, kBlock_exit, kLoop_normal, kLoop_ret, kLoop_exit, kCond_bool, kNorm_app, vcOps_nil, vcOps_cons, kOps_app, kStep_some, kStep_none, vcDL_nil, vcDL_cons, kOpsD_app, kStepD_true, kStepD_false, kStepC_some, kStepC_none, kMv_app, act3_store, act3_call, act3_bs, kAct_app, kSt2_app, stealSlots, stealL, stealOne, subIn, AV.stolen, act_store, act_bs, act_append, act_call, kSet_app, kSet2_app, kSetG_app, kSetG_app0, kStore_ptr, kStore_eptr, kCallW_some, kCallC_some, kCall_some, wk_T, wk_n, wk_keep, wk_inv, wk_act, wk_dr, wk_le, aCalm, wantC, dstOk, calm, aCallK, aCall3K, subOf, subRep, aCall2K, apnd, bsMove, putBox, putOwn, partAV, mvL, AV.mv, AV.base, AV.moved, AV.src, TI.flat, apSize, pickAV, St.val, St.cond, St.fn, St.next, St.set, St.trim, wipe_eq, wipeE_app, wipeM_app, pickEnv, get?, cGet, upd_app, withPuts, killAll, rm, freshP, Oper.hnd, Sc.st, ofConst, constOk, lenAV, elemLen, loadAV, ldL, ld1, fieldAddrAV, indexAddrAV, sliceAV, convAV, buildAV, fillAV, fieldAV, Out.of, binAV, AV.rows, AV.one, AV.cells, AV.deepOk, AV.toD, toDs, partRows, partRowsM, partsDeep, TK.zeroAV, TK.zeroD, byteOf, inR, Op.operands, Call.operands, passVs, passV, passL, pass1, passB, pasVs, pasV, pasL, pas1, ownsOk, okHs, okHs2, okFin, finOk2, rho, over, backRes, backAV, backAV1, backBlk, putBack, back2, back2_V, back2_1, m2, AV.wipe, AV.wipeV, AV.wipe1, Blk.wipe, AV.hs, AV.hs.hsL, alOps, Con.start2, Con.pk, bodyQ, fini, resAV, resA, firstId, Sc.from, renEnv, renT, renV, renVs, renL, ren1, renBox, renOwn, okRen, clOf, actB, setRow, flatRows, flatD, noInv, shr_nil, shr_some, kStepF_some, shareL, AV.viewed, AV.viewed1, cHeldFileS, Con.fn, tTab, cMarkText, cHeldStringS, e8]
  try dsimp only
  refine ⟨⟨0, by simp [e8]⟩, fun i hi hpre _ => ⟨fun hlt => ?_, fun hge => e3 i hge hpre⟩⟩
  have g := e6 i hlt
  have g1 := e7 i
  have g2 := e7 (i + 1)
  simp [hlt, eFile, D.asStr, D.asRows, and_assoc]
  have hl : ∀ l kk, heldL l kk = if l = markL l.length kk then kk + l.length else -1 := fun _ _ => rfl
  have m1 := e1 i hlt
  have m2 := e2 i hlt hpre
  by_cases ht : t[i].text = markL t[i].text.length (kE (t.take i) k + 1)
  · have hh : heldL t[i].text (kE (t.take i) k + 1) = kE (t.take (i + 1)) k := by rw [hl, if_pos ht, g]
    rw [hh]
    exact ⟨by omega, fun hn => m1 (.inl hn), fun hp => ⟨by omega, by omega, fun _ _ => ⟨by omega, by omega, fun hn => by omega, fun _ => ⟨by omega, by omega, fun _ _ => ⟨i + 1, rfl, by omega, by omega, m2 hp ht, by omega⟩⟩⟩⟩⟩
  · have hh : heldL t[i].text (kE (t.take i) k + 1) = -1 := by rw [hl, if_neg ht]
    rw [hh]
    exact ⟨by omega, fun hn => m1 (.inl hn), fun hp => ⟨by omega, by omega, fun _ _ => ⟨by omega, by omega, fun _ => m1 (.inr ht), fun hn => by omega⟩⟩⟩

theorem view_of_eq (t : List FileD) (l : List Str) : viewOfI t l = viewOfS t l := by
  unfold viewOfI viewOfS
  rw [tree_eq, view_eq]
  simp only [vis_in]
theorem viewOfS_bd (t : List FileD) (l : List Str) : (viewOfS t l).length ≤ 8 ∧ ∀ f ∈ viewOfS t l, f.text.length ≤ 64 := by
  unfold viewOfS
  split
  · rename_i h
    simp only [Bool.and_eq_true] at h
    have h1 := treeS_le t h.1
    refine ⟨Nat.le_trans (List.length_filter_le _ _) h1.1, fun f hf => h1.2 f (List.mem_filter.1 hf).1⟩
  · simp
theorem kE_bd {t : List FileD} {A B : Nat} (h1 : t.length ≤ A) (h2 : ∀ f ∈ t, f.text.length ≤ B) (k : Int) : k ≤ kE t k ∧ kE t k ≤ k + A + B * A := by
  have h3 := nLines_bd t h2
  have h4 : B * t.length ≤ B * A := Nat.mul_le_mul_left _ h1
  unfold kE
  refine ⟨by omega, ?_⟩
  have : (nLines t : Int) ≤ ((B * A : Nat) : Int) := by omega
  rw [Int.natCast_mul] at this
  omega

end Vx
end Go.Proofs.YtlhkmgbmnbkaeaaDoor
/-
  Contracts: DrawViewPut; a file got out of a tree; the plain law of FnViewGet.
-/
namespace Go.Proofs.YtlhkmgbmnbkaeaaDoor
namespace Vx
open Go.RowKit
set_option maxRecDepth 8000

theorem viewOfS_mem (t : List FileD) (ps : List Str) : ∀ f ∈ viewOfS t ps, f ∈ t := fun f hf => by
  rw [← view_of_eq] at hf; exact viewOfI_mem t ps f hf
theorem viewOfS_drawn {t : List FileD} {ps : List Str} (h : drawnT t) : drawnT (viewOfS t ps) := ⟨by rw [← view_of_eq]; exact Nat.le_trans (viewOfI_len t ps) h.1, fun f hf => h.2 f (viewOfS_mem t ps f hf)⟩
def cDrawViewPut : Con := { A := Str, X := List FileD × List Str × List FileD, n := 35, args := fun s => [.sl true 1 (eBytes s)], boxes := fun _ => [], pre := fun _ => True, post := fun _ x => drawnT x.1 ∧ pathsD x.2.1 ∧ drawnT x.2.2, res := fun _ x => .tup [.sl false 2 (eFiles x.1), .sl false 1 (eStrs x.2.1), .sl false 2 (eFiles x.2.2)], fin := fun _ _ => [] }
set_option maxHeartbeats 4000000 in
theorem drawViewPut_has : Has Tryd.prog 50 cDrawViewPut := by
  refine has_walk mixed tTab_ok (l := [(67, cL30Open), (68, cAnyTree), (81, cPathsD), (29, cViewOfS), (110, cPick), (111, cTreeD)]) (HasL.cons l30Open_has (HasL.cons anyTree_has (HasL.cons pathsD_has (HasL.cons viewOfS_has (HasL.cons pick_has (HasL.cons treeD_has HasL.nil)))))) [0, 2, 3, 4, 5, 6, 7, 8] ((fun a n (_ : Nat) => (fun _ => noInv) a n)) [] Tryd.func50 (by kernel_rfl) (code := _) (by unfold Tryd.f50; rfl) (by kernel_rfl) (by decide) (fun _ => ⟨(([] : List FileD), ([] : List Str), ([] : List FileD)), ⟨Nat.zero_le 6, by simp⟩, ⟨Nat.zero_le 4, by simp⟩, Nat.zero_le 6, by simp⟩) (by intro h; first | exact fun _ => rfl | cases h) (by kernel_rfl) ?_
  intro (s : Str) _
  simp -implicitDefEqProofs [↓ft_imp, ↓tf_imp, ↓tt_imp, ↓ff_imp, vc_skip, extOf, vc_seq, vc_cond, vc_block, vc_exit, vc_ret, vc_region, vc_regionD, vc_loop, kSeq_normal, kSeq_ret, kSeq_exit, kBlock_normal, kBlock_ret, kBlock_exit, kLoop_normal, kLoop_ret, kLoop_exit, kCond_bool, kNorm_app, vcOps_nil, vcOps_cons, kOps_app, kStep_some, kStep_none, vcDL_nil, vcDL_cons, kOpsD_app, kStepD_true, kStepD_false, kStepC_some, kStepC_none, kMv_app, act3_store, act3_call, act3_bs, kAct_app, kSt2_app, stealSlots, stealL, stealOne, subIn, AV.stolen, act_store, act_bs, act_append, act_call, kSet_app, kSet2_app, kSetG_app, kSetG_app0, kStore_ptr, kStore_eptr, kCallW_some, kCallC_some, kCall_some, wk_T, wk_n, wk_keep, wk_inv, wk_act, wk_dr, wk_le, aCalm, wantC, dstOk, calm, aCallK, aCall3K, subOf, subRep, aCall2K, apnd, bsMove, putBox, putOwn, partAV, mvL, AV.mv, AV.base, AV.moved, AV.src, TI.flat, apSize, pickAV, St.val, St.cond, St.fn, St.next, St.set, St.trim, wipe_eq, wipeE_app, wipeM_app, pickEnv, get?, cGet, upd_app, withPuts, killAll, rm, freshP, Oper.hnd, Sc.st, ofConst, constOk, lenAV, elemLen, loadAV, ldL, ld1, fieldAddrAV, indexAddrAV, sliceAV, convAV, buildAV, fillAV, fieldAV, Out.of, binAV, AV.rows, AV.one, AV.cells, AV.deepOk, AV.toD, toDs, partRows, partRowsM, partsDeep, TK.zeroAV, TK.zeroD, byteOf, inR, Op.operands, Call.operands, passVs, passV, passL, pass1, passB, pasVs, pasV, pasL, pas1, ownsOk, okHs, okHs2, okFin, finOk2, rho, over, backRes, backAV, backAV1, backBlk, putBack, back2, back2_V, back2_1, m2, AV.wipe, AV.wipeV, AV.wipe1, Blk.wipe, AV.hs, AV.hs.hsL, alOps, Con.start2, Con.pk, bodyQ, fini, resAV, resA, firstId, Sc.from, renEnv, renT, renV, renVs, renL, ren1, renBox, renOwn, okRen, clOf, actB, setRow, flatRows, flatD, noInv, shr_nil, shr_some, kStepF_some, shareL, AV.viewed, AV.viewed1, cDrawViewPut, cL30Open, cAnyTree, cPathsD, cViewOfS, cPick, cTreeD, tTab, Con.fn, clash, kd, eByte, all_true]
  try dsimp only
  simp only [and_assoc, exists_eq_left, exists_and_left]
  have hl : (List.take 2000 s).length ≤ 2000 := by simp; omega
  refine ⟨hl, by omega, by omega, fun t q ht q0 q1 => ⟨hl, by omega, by omega, fun p q2 hp p0 p1 => ⟨hl, by omega, by omega, fun y _ _ => ⟨fun _ => ⟨hl, by omega, by omega, fun u q3 u1 u2 u3 u4 => ⟨hl, by omega, by omega, fun z _ _ => ⟨fun _ => ⟨hl, by omega, by omega, fun w q4 w1 w2 _ _ => ⟨t, ht, p, hp, w, ⟨by omega, w2⟩, rfl, rfl, rfl⟩⟩, fun _ => ⟨t, ht, p, hp, _, viewOfS_drawn ⟨by omega, u2⟩, rfl, rfl, rfl⟩⟩⟩⟩, fun _ => ⟨hl, by omega, by omega, fun z _ _ => ⟨fun _ => ⟨hl, by omega, by omega, fun w q4 w1 w2 _ _ => ⟨t, ht, p, hp, w, ⟨by omega, w2⟩, rfl, rfl, rfl⟩⟩, fun _ => ⟨t, ht, p, hp, _, viewOfS_drawn ht, rfl, rfl, rfl⟩⟩⟩⟩⟩⟩⟩

def getI (t : List FileD) (p : Str) : List Str × Bool := match t.find? (fun f => decide (f.path = p)) with
  | some f => (f.text, true)
  | none => ([], false)
theorem getI_hit {t : List FileD} {p : Str} {i : Nat} (h : i < t.length) (h1 : ∀ j (hj : j < t.length), j < i → ¬ t[j].path = p) (h2 : t[i].path = p) : getI t p = (t[i].text, true) := by
  have : t.find? (fun f => decide (f.path = p)) = some t[i] := by
    rw [List.find?_eq_some_iff_getElem]
    refine ⟨by simp -implicitDefEqProofs [h2], i, h, rfl, fun j hj => ?_⟩
    simpa using h1 j (by omega) hj
  unfold getI; rw [this]
theorem getI_none {t : List FileD} {p : Str} (h : ∀ j (hj : j < t.length), ¬ t[j].path = p) : getI t p = ([], false) := by
  have : t.find? (fun f => decide (f.path = p)) = none := by
    rw [List.find?_eq_none]
    intro f hf
    obtain ⟨j, hj, rfl⟩ := List.getElem_of_mem hf
    simpa using h j hj
  unfold getI; rw [this]
def cGetF : Con := .fn 22 (List FileD × Str) (fun a => [.sl true 2 (eFiles a.1), .str a.2]) (fun a => ∀ f ∈ a.1, f.text.length ≤ 1048576) (fun a => .tup [.own 8 1 (eStrs (getI a.1 a.2).1), .bool (getI a.1 a.2).2]) (fun a => ownStrs 8 (getI a.1 a.2).1)
set_option maxHeartbeats 4000000 in
theorem getF_has : Has Tryd.prog 112 cGetF := by
  refine has_walk mixed tTab_ok (l := [(140, cCopyText)]) (HasL.cons copyText_has HasL.nil) [0, 1, 4, 5, 7, 8, 9, 10] ((fun a n (_ : Nat) => (fun a _ => ⟨Nat, fun i => ⟨[(1, true, .str a.2), (4, true, .nil), (5, true, .bool false), (8, true, .sl true 2 (eFiles a.1)), (9, true, .int .i64 a.1.length), (10, true, .int .i64 i)], []⟩, fun i => i ≤ a.1.length ∧ ∀ j (hj : j < a.1.length), j < i → ¬ a.1[j].path = a.2, fun i => a.1.length - i⟩) a n)) [] Tryd.func112 (by kernel_rfl) (code := _) (by unfold Tryd.f112; rfl) (by kernel_rfl) (by decide) (fun _ => ⟨(), trivial⟩) (by intro h; first | exact fun _ => rfl | cases h) (by kernel_rfl) ?_
  intro a ha
  obtain ⟨t, p⟩ := a
  replace ha : ∀ f ∈ t, f.text.length ≤ 1048576 := ha
  simp -implicitDefEqProofs [vc_skip, extOf, vc_seq, vc_cond, vc_block, vc_exit, vc_ret, vc_region, vc_regionD, vc_loop, kSeq_normal, kSeq_ret, kSeq_exit, kBlock_normal, kBlock_ret, kBlock_exit, kLoop_normal, kLoop_ret, kLoop_exit, kCond_bool, kNorm_app, vcOps_nil, vcOps_cons, kOps_app, kStep_some, kStep_none, vcDL_nil, vcDL_cons, kOpsD_app, kStepD_true, kStepD_false, kStepC_some, kStepC_none, kMv_app, act3_store, act3_call, act3_bs, kAct_app, kSt2_app, stealSlots, stealL, stealOne, subIn, AV.stolen, act_store, act_bs, act_append, act_call, kSet_app, kSet2_app, kSetG_app, kSetG_app0, kStore_ptr, kStore_eptr, kCallW_some, kCallC_some, kCall_some, wk_T, wk_n, wk_keep, wk_inv, wk_act, wk_dr, wk_le, aCalm, wantC, dstOk, calm, aCallK, aCall3K, subOf, subRep, aCall2K, apnd, bsMove, putBox, putOwn, partAV, mvL, AV.mv, AV.base, AV.moved, AV.src, TI.flat, apSize, pickAV, St.val, St.cond, St.fn, St.next, St.set, St.trim, wipe_eq, wipeE_app, wipeM_app, pickEnv, get?, cGet, upd_app, withPuts, killAll, rm, freshP, Oper.hnd, Sc.st, ofConst, constOk, lenAV, elemLen, loadAV, ldL, ld1, fieldAddrAV, indexAddrAV, sliceAV, convAV, buildAV, fillAV, fieldAV, Out.of, binAV, AV.rows, AV.one, AV.cells, AV.deepOk, AV.toD, toDs, partRows, partRowsM, partsDeep, TK.zeroAV, TK.zeroD, byteOf, inR, Op.operands, Call.operands, passVs, passV, passL, pass1, passB, pasVs, pasV, pasL, pas1, ownsOk, okHs, okHs2, okFin, finOk2, rho, over, backRes, backAV, backAV1, backBlk, putBack, back2, back2_V, back2_1, m2, AV.wipe, AV.wipeV, AV.wipe1, Blk.wipe, AV.hs, AV.hs.hsL, alOps, Con.start2, Con.pk, bodyQ, fini, resAV, resA, firstId, Sc.from, renEnv, renT, renV, renVs, renL, ren1, renBox, renOwn, okRen, clOf, actB, setRow, flatRows, flatD, noInv, shr_nil, shr_some, kStepF_some, shareL, AV.viewed, AV.viewed1, cGetF, cCopyText, Con.fn, tTab]
  try dsimp only
  refine fun _ i hi hb => ⟨fun hlt => ⟨hlt, fun _ => ?_⟩, fun hge => ?_⟩
  · have hf := ha t[i] (List.getElem_mem hlt)
    have e1 := fun h => getI_hit (p := p) hlt hb h
    simp -implicitDefEqProofs [hlt, eFile, D.asStr, D.asRows, and_assoc]
    refine ⟨fun h => ⟨hf, by rw [e1 h]; exact ⟨rfl, rfl, rfl⟩⟩, fun h => ⟨by omega, by omega, fun _ _ => ⟨i + 1, by omega, by omega, fun j hj hji => ?_, by omega⟩⟩⟩
    by_cases e : j = i
    · subst e; exact h
    · exact hb j hj (by omega)
  · rw [getI_none fun j hj => hb j hj (by omega)]
    exact ⟨⟨rfl, rfl⟩, rfl⟩
def treeGetI (t : List FileD) (p : Str) : List Str × Bool := if treeI t then getI t p else ([], false)
def cTreeGet : Con := .fn 14 (List FileD × Str) (fun a => [.sl true 2 (eFiles a.1), .str a.2]) (fun a => okSz a.1) (fun a => .tup [.own 8 1 (eStrs (treeGetI a.1 a.2).1), .bool (treeGetI a.1 a.2).2]) (fun a => ownStrs 8 (treeGetI a.1 a.2).1)
set_option maxHeartbeats 4000000 in
theorem treeGet_has : Has Tryd.prog 51 cTreeGet := by
  refine has_walk mixed tTab_ok (l := [(18, cTreeOk), (112, cGetF)]) (HasL.cons treeOk_has (HasL.cons getF_has HasL.nil)) [0, 1, 4, 5] ((fun a n (_ : Nat) => (fun _ => noInv) a n)) [] Tryd.func51 (by kernel_rfl) (code := _) (by unfold Tryd.f51; rfl) (by kernel_rfl) (by decide) (fun _ => ⟨(), trivial⟩) (by intro h; first | exact fun _ => rfl | cases h) (by kernel_rfl) ?_
  intro a ha
  obtain ⟨t, p⟩ := a
  replace ha : okSz t := ha
  simp -implicitDefEqProofs [vc_skip, extOf, vc_seq, vc_cond, vc_block, vc_exit, vc_ret, vc_region, vc_regionD, vc_loop, kSeq_normal, kSeq_ret, kSeq_exit, kBlock_normal, kBlock_ret, kBlock_exit, kLoop_normal, kLoop_ret, kLoop_exit, kCond_bool, kNorm_app, vcOps_nil, vcOps_cons, kOps_app, kStep_some, kStep_none, vcDL_nil, vcDL_cons, kOpsD_app, kStepD_true, kStepD_false, kStepC_some, kStepC_none, kMv_app, act3_store, act3_call, act3_bs, kAct_app, kSt2_app, stealSlots, stealL, stealOne, subIn, AV.stolen, act_store, act_bs, act_append, act_call, kSet_app, kSet2_app, kSetG_app, kSetG_app0, kStore_ptr, kStore_eptr, kCallW_some, kCallC_some, kCall_some, wk_T, wk_n, wk_keep, wk_inv, wk_act, wk_dr, wk_le, aCalm, wantC, dstOk, calm, aCallK, aCall3K, subOf, subRep, aCall2K, apnd, bsMove, putBox, putOwn, partAV, mvL, AV.mv, AV.base, AV.moved, AV.src, TI.flat, apSize, pickAV, St.val, St.cond, St.fn, St.next, St.set, St.trim, wipe_eq, wipeE_app, wipeM_app, pickEnv, get?, cGet, upd_app, withPuts, killAll, rm, freshP, Oper.hnd, Sc.st, ofConst, constOk, lenAV, elemLen, loadAV, ldL, ld1, fieldAddrAV, indexAddrAV, sliceAV, convAV, buildAV, fillAV, fieldAV, Out.of, binAV, AV.rows, AV.one, AV.cells, AV.deepOk, AV.toD, toDs, partRows, partRowsM, partsDeep, TK.zeroAV, TK.zeroD, byteOf, inR, Op.operands, Call.operands, passVs, passV, passL, pass1, passB, pasVs, pasV, pasL, pas1, ownsOk, okHs, okHs2, okFin, finOk2, rho, over, backRes, backAV, backAV1, backBlk, putBack, back2, back2_V, back2_1, m2, AV.wipe, AV.wipeV, AV.wipe1, Blk.wipe, AV.hs, AV.hs.hsL, alOps, Con.start2, Con.pk, bodyQ, fini, resAV, resA, firstId, Sc.from, renEnv, renT, renV, renVs, renL, ren1, renBox, renOwn, okRen, clOf, actB, setRow, flatRows, flatD, noInv, shr_nil, shr_some, kStepF_some, shareL, AV.viewed, AV.viewed1, cTreeGet, cTreeOk, cGetF, Con.fn, tTab]
  try dsimp only
  refine ⟨ha.2.2, fun h => ?_, fun h => ⟨t, p, ⟨rfl, rfl⟩, ha.2.1, ?_⟩⟩
  · unfold treeGetI; rw [h]; exact ⟨⟨rfl, rfl⟩, rfl⟩
  · unfold treeGetI; rw [h]; exact ⟨⟨rfl, rfl⟩, rfl⟩

/-- What TreeGet answers, known by a name alone. -/
structure GTR where
  text : List Str
  there : Bool
def isTG (t : List FileD) (p : Str) (x : GTR) : Prop := (x.text, x.there) = treeGetI t p
theorem isTG_def {t p x} : isTG t p x ↔ (x.text, x.there) = treeGetI t p := Iff.rfl
def cTreeGetX : Con := { A := List FileD × Str, X := GTR, n := cTreeGet.n, args := cTreeGet.args, boxes := fun _ => [], pre := cTreeGet.pre, post := fun a x => isTG a.1 a.2 x, res := fun _ x => .tup [.sl false 1 (eStrs x.text), .bool x.there], fin := fun _ _ => [] }
theorem treeGetX_has : Has Tryd.prog 51 cTreeGetX := by
  refine ⟨treeGet_has.enter, fun a => ⟨⟨(treeGetI a.1 a.2).1, (treeGetI a.1 a.2).2⟩, rfl⟩, fun _ _ => rfl, ?_⟩
  intro a ha c vs β fp hn hpin hlen hlen2 S
  have hp : c.pins = [] := hpin
  refine (treeGet_has.calls a ha c vs β fp hn hpin hlen hlen2 S).mono ?_
  rintro e w' ⟨x, hx, v, rfl, β', fp', a', E, hv⟩
  refine ⟨⟨(treeGetI a.1 a.2).1, (treeGetI a.1 a.2).2⟩, rfl, v, rfl, β', fp', a', end_nil E hp, ?_⟩
  replace hv : RelL w' (get? (cTreeGet.fin a x)) β' c [.tup [.own 8 1 (eStrs (treeGetI a.1 a.2).1), .bool (treeGetI a.1 a.2).2]] [v] := hv
  cases hv with
  | tup h1 _ =>
    obtain ⟨u1, us, rfl, r1, r2⟩ := h1.uncons
    refine .tup ((own_view r1).append ?_) .lnil
    cases r2 with
    | bool r3 => cases r3; exact .bool .lnil

theorem visB_path {f g : FileD} {ps : List Str} (h : f.path = g.path) : visB f ps = visB g ps := by unfold visB; rw [h]
theorem view_get_law {t v : List FileD} {ps : List Str} (h : (viewPutI t ps v).2 = true) :
    treeI t = true ∧ viewI ps = true ∧ treeI (viewPutI t ps v).1 = true ∧
      (∀ f ∈ t, visB f ps = false → treeGetI (viewPutI t ps v).1 f.path = (f.text, true)) ∧
      viewOfI (viewPutI t ps v).1 ps = v ∧ viewPutI (viewPutI t ps v).1 ps v = ((viewPutI t ps v).1, true) := by
  unfold viewPutI at h
  by_cases h1 : (treeI t && viewI ps) = true
  · rw [if_pos h1] at h
    by_cases h2 : treeI v = true
    · rw [if_pos h2] at h
      by_cases h3 : (v.all fun f => visB f ps) = true
      · rw [if_pos h3] at h
        by_cases h4 : treeI (inP (outP ps [] t) v) = true
        · have e : viewPutI t ps v = (inP (outP ps [] t) v, true) := by unfold viewPutI; rw [if_pos h1, if_pos h2, if_pos h3, if_pos h4]
          rw [e]
          clear h
          simp only [Bool.and_eq_true] at h1
          obtain ⟨ht, hp⟩ := h1
          have hst := tree_srt ht
          have hsv := tree_srt h2
          have hvis : ∀ f ∈ v, visB f ps = true := fun f hf => by simpa using List.all_eq_true.1 h3 f hf
          have ho := outP_filter (ps := ps) hst
          have hso : Srt (outP ps [] t) := by rw [ho]; exact hst.filter _
          have hsx := tree_srt h4
          have hmem : ∀ x, x ∈ inP (outP ps [] t) v ↔ x ∈ v ∨ (x ∈ t ∧ visB x ps = false) := fun x => by
            rw [mem_inP hso hsv, ho, List.mem_filter]
            constructor
            · rintro (h | ⟨⟨a, b⟩, _⟩)
              · exact .inl h
              · exact .inr ⟨a, by simpa using b⟩
            · rintro (h | ⟨a, b⟩)
              · exact .inl h
              · refine .inr ⟨⟨a, by simp -implicitDefEqProofs [b]⟩, fun f hf hpp => ?_⟩
                rw [visB_path hpp, hvis f hf] at b
                cases b
          generalize hx : inP (outP ps [] t) v = x at *
          have e1 : outP ps [] x = outP ps [] t := by
            rw [outP_filter hsx, ho]
            refine srt_ext (hsx.filter _) (hst.filter _) fun y => ?_
            simp only [List.mem_filter, hmem, Bool.not_eq_true']
            constructor
            · rintro ⟨h | h, hb⟩
              · rw [hvis y h] at hb; cases hb
              · exact h
            · rintro ⟨a, b⟩
              exact ⟨.inr ⟨a, b⟩, b⟩
          refine ⟨ht, hp, h4, fun f hf hb => ?_, ?_, ?_⟩
          · have hfx : f ∈ x := (hmem f).2 (.inr ⟨hf, hb⟩)
            obtain ⟨i, hi, rfl⟩ := List.getElem_of_mem hfx
            unfold treeGetI
            rw [if_pos h4]
            refine getI_hit hi (fun j hj hji hpp => ?_) rfl
            have := List.pairwise_iff_getElem.1 hsx j i hj hi hji
            rw [hpp] at this
            exact str_irrefl _ this
          · unfold viewOfI
            rw [h4, hp]
            show x.filter (fun f => visB f ps) = v
            refine srt_ext (hsx.filter _) hsv fun y => ?_
            simp only [List.mem_filter, hmem]
            constructor
            · rintro ⟨h | ⟨_, h⟩, hb⟩
              · exact h
              · rw [h] at hb; cases hb
            · intro h; exact ⟨.inl h, hvis y h⟩
          · unfold viewPutI
            rw [h4, hp, h2, h3, e1, hx, h4]; rfl
        · rw [if_neg h4] at h; cases h
      · rw [if_neg h3] at h; cases h
    · rw [if_neg h2] at h; cases h
  · rw [if_neg h1] at h; cases h
theorem view_put_no {t v : List FileD} {ps : List Str} (h : (viewPutI t ps v).2 = false) : (viewPutI t ps v).1 = t ∨ (viewPutI t ps v).1 = [] := by
  unfold viewPutI at h ⊢
  split
  · rename_i h1
    rw [if_pos h1] at h
    split
    · rename_i h2
      rw [if_pos h2] at h
      split
      · rename_i h3
        rw [if_pos h3] at h
        split
        · rename_i h4; rw [if_pos h4] at h; cases h
        · exact .inl rfl
      · exact .inl rfl
    · exact .inl rfl
  · exact .inr rfl

end Vx
end Go.Proofs.YtlhkmgbmnbkaeaaDoor
/-
  Contracts: the law FnViewGet.
-/
namespace Go.Proofs.YtlhkmgbmnbkaeaaDoor
namespace Vx
open Go.RowKit
set_option maxRecDepth 8000

/-- What FnViewGet holds in its loops. -/
structure VGX where
  t : List FileD
  p : List Str
  v : List FileD
  y : VPR
  i : Nat
structure VGI where
  o : VGX
  g : GTR
  seen : Bool
  k : Nat
def vgOk (x : VGX) : Prop := drawnT x.t ∧ pathsD x.p ∧ drawnT x.v ∧ isVP x.t x.p x.v x.y ∧ x.y.ok = true ∧ x.i ≤ x.t.length
theorem vgOk_def (x : VGX) : vgOk x ↔ drawnT x.t ∧ pathsD x.p ∧ drawnT x.v ∧ isVP x.t x.p x.v x.y ∧ x.y.ok = true ∧ x.i ≤ x.t.length := Iff.rfl
def vgIn (gh : Nat) (x : VGI) : Prop := vgOk x.o ∧ x.o.i < x.o.t.length ∧ isTG x.o.y.l (x.o.t.getD x.o.i default).path x.g ∧ x.k ≤ x.o.p.length ∧ x.seen = (x.o.p.take x.k).any (atB (x.o.t.getD x.o.i default).path) ∧ x.o.t.length - x.o.i = gh
theorem vgIn_def (gh : Nat) (x : VGI) : vgIn gh x ↔ vgOk x.o ∧ x.o.i < x.o.t.length ∧ isTG x.o.y.l (x.o.t.getD x.o.i default).path x.g ∧ x.k ≤ x.o.p.length ∧ x.seen = (x.o.p.take x.k).any (atB (x.o.t.getD x.o.i default).path) ∧ x.o.t.length - x.o.i = gh := Iff.rfl
theorem vg_facts {x : VGX} (h : vgOk x) : (okSz x.t ∧ (∀ q ∈ x.p, List.length q ≤ 536870912) ∧ okSz x.v ∧ okSz x.y.l) ∧ treeI x.t = true ∧ viewI x.p = true ∧ treeI x.y.l = true ∧ (∀ f ∈ x.t, visB f x.p = false → treeGetI x.y.l f.path = (f.text, true)) ∧ viewOfI x.y.l x.p = x.v ∧ viewPutI x.y.l x.p x.v = (x.y.l, true) := by
  obtain ⟨ht, hp, hv, wy, hk, hi⟩ := (vgOk_def _).1 h
  have e := isVP_def.1 wy
  have z1 := drawn_sz ht
  have z3 := drawn_sz hv
  have z4 := viewPut_sz (ps := x.p) z1 z3
  obtain ⟨l1, l2, l3, l4, l5, l6⟩ := view_get_law (t := x.t) (v := x.v) (ps := x.p) (by rw [← e]; exact hk)
  rw [← e] at l3 l4 l5 l6 z4
  exact ⟨⟨z1, fun q hq => by have := hp.2 q hq; omega, z3, z4⟩, l1, l2, l3, l4, l5, l6⟩
def vgO : Inv := ⟨VGX, fun x => ⟨[(2, true, .bool false), (3, true, .sl false 2 (eFiles x.t)), (4, true, .sl false 1 (eStrs x.p)), (5, true, .sl false 2 (eFiles x.v)), (6, true, .sl false 2 (eFiles x.y.l)), (10, true, .int .i64 x.i)], []⟩, vgOk, fun x => x.t.length - x.i⟩
def vgI (gh : Nat) : Inv := ⟨VGI, fun x => ⟨[(2, true, .bool false), (3, true, .sl false 2 (eFiles x.o.t)), (4, true, .sl false 1 (eStrs x.o.p)), (5, true, .sl false 2 (eFiles x.o.v)), (6, true, .sl false 2 (eFiles x.o.y.l)), (10, true, .int .i64 x.o.i), (11, true, .sl false 1 (eStrs x.g.text)), (12, true, .bool x.g.there), (13, true, .bool x.seen), (14, true, .int .i64 x.k)], []⟩, vgIn gh, fun x => x.o.p.length - x.k⟩
def vgInv (n g : Nat) : Inv := if n = 11 then vgO else vgI g
theorem vgInv_11 (g : Nat) : vgInv 11 g = vgO := rfl
theorem vgInv_16 (g : Nat) : vgInv 16 g = vgI g := rfl
def cFnViewGet : Con := .fn 159 Str (fun s => [.sl true 1 (eBytes s)]) (fun _ => True) (fun _ => .bool true) (fun _ => [])
set_option maxHeartbeats 4000000 in
theorem fnViewGet_has : Has Tryd.prog 9 cFnViewGet := by
  refine has_walk mixed tTab_ok (l := [(50, cDrawViewPut), (30, cViewPutX), (36, cViewPutS), (28, cSmTree), (18, cTreeOk), (51, cTreeGetX), (52, cPathIn), (16, cSmTexts), (27, cViewOfX)]) (HasL.cons drawViewPut_has (HasL.cons viewPutX_has (HasL.cons viewPutS_has (HasL.cons smTree_has (HasL.cons treeOk_has (HasL.cons treeGetX_has (HasL.cons pathIn_has (HasL.cons smTexts_has (HasL.cons viewOfX_has HasL.nil))))))))) [0, 2, 3, 4, 5, 6, 7, 8, 9, 10, 11, 12, 13, 14, 15, 16] (fun _ => vgInv) [] Tryd.func9 (by kernel_rfl) (code := _) (by unfold Tryd.f9; rfl) (by kernel_rfl) (by decide) (fun _ => ⟨(), trivial⟩) (by intro h; first | exact fun _ => rfl | cases h) (by kernel_rfl) ?_
  intro (s : Str) _
  simp -implicitDefEqProofs [↓ft_imp, ↓tf_imp, ↓tt_imp, ↓ff_imp, vc_skip, extOf, vc_seq, vc_cond, vc_block, vc_exit, vc_ret, vc_regionU 11, vc_regionDU 11, vc_loop, kSeq_normal, kSeq_ret, kSeq_exit, kBlock_normal, kBlock_ret, kBlock_exit, kLoop_normal, kLoop_ret, kLoop_exit, kCond_bool, kNorm_app, vcOps_nil, vcOps_cons, kOps_app, kStep_some, kStep_none, vcDL_nil, vcDL_cons, kOpsD_app, kStepD_true, kStepD_false, kStepC_some, kStepC_none, kMv_app, act3_store, act3_call, act3_bs, kAct_app, kSt2_app, stealSlots, stealL, stealOne, subIn, AV.stolen, act_store, act_bs, act_append, act_call, kSet_app, kSet2_app, kSetG_app, kSetG_app0, kStore_ptr, kStore_eptr, kCallW_some, kCallC_some, kCall_some, wk_T, wk_n, wk_keep, wk_inv, wk_act, wk_dr, wk_le, aCalm, wantC, dstOk, calm, aCallK, aCall3K, subOf, subRep, aCall2K, apnd, bsMove, putBox, putOwn, partAV, mvL, AV.mv, AV.base, AV.moved, AV.src, TI.flat, apSize, pickAV, St.val, St.cond, St.fn, St.next, St.set, St.trim, wipe_eq, wipeE_app, wipeM_app, pickEnv, get?, cGet, upd_app, withPuts, killAll, rm, freshP, Oper.hnd, Sc.st, ofConst, constOk, lenAV, elemLen, loadAV, ldL, ld1, fieldAddrAV, indexAddrAV, sliceAV, convAV, buildAV, fillAV, fieldAV, Out.of, binAV, AV.rows, AV.one, AV.cells, AV.deepOk, AV.toD, toDs, partRows, partRowsM, partsDeep, TK.zeroAV, TK.zeroD, byteOf, inR, Op.operands, Call.operands, passVs, passV, passL, pass1, passB, pasVs, pasV, pasL, pas1, ownsOk, okHs, okHs2, okFin, finOk2, rho, over, backRes, backAV, backAV1, backBlk, putBack, back2, back2_V, back2_1, m2, AV.wipe, AV.wipeV, AV.wipe1, Blk.wipe, AV.hs, AV.hs.hsL, alOps, Con.start2, Con.pk, bodyQ, fini, resAV, resA, firstId, Sc.from, renEnv, renT, renV, renVs, renL, ren1, renBox, renOwn, okRen, clOf, actB, setRow, flatRows, flatD, noInv, shr_nil, shr_some, kStepF_some, shareL, AV.viewed, AV.viewed1, cFnViewGet, cDrawViewPut, cViewPutX, cViewPutI, cViewPutS, cSmTree, cTreeOk, Con.fn, tTab, vgInv_11, vgInv_16]
  try dsimp only
  refine fun _ _ t p v ht hp hv => ?_
  have z1 := drawn_sz ht
  have zv := drawn_sz hv
  have z2 : ∀ x ∈ p, List.length x ≤ 536870912 := fun x hx => by have := hp.2 x hx; omega
  refine ⟨t, p, v, ⟨rfl, rfl, rfl⟩, ⟨z1, z2, zv⟩, fun y wy => ⟨t, p, v, ⟨rfl, rfl, rfl⟩, ⟨⟨z1.1, z1.2.1⟩, zv.1, zv.2.1⟩, ?_⟩⟩
  have e0 := isVP_def.1 wy
  have e := e0
  rw [viewPut_eq] at e
  have e1 : (viewPutS t p v).1 = y.l := by rw [← e]
  have e2 : (viewPutS t p v).2 = y.ok := by rw [← e]
  simp only [e1, e2]
  cases hk : y.ok with
  | false =>
    have hno : y.l = t ∨ y.l = [] := by
      have := view_put_no (t := t) (v := v) (ps := p) (by rw [← e0]; exact hk)
      rw [← e0] at this; exact this
    simp only [false_implies, true_implies, Bool.false_eq_true, and_true, true_and]
    exact ⟨y.l, y.l, ⟨rfl, rfl⟩, fun _ => trivial, fun _ => ⟨z1.2.2, fun _ => trivial, fun _ => ⟨y.l, t, ⟨rfl, rfl⟩, fun h _ => hno.resolve_left h⟩⟩⟩
  | true =>
    simp only [false_implies, true_implies, Bool.true_eq_false, and_true, true_and]
    refine ⟨y.l, y.l, ⟨rfl, rfl⟩, fun h => absurd rfl h, fun _ => ⟨z1.2.2, fun _ => trivial, fun hT => ?_⟩⟩
    clear e e1 e2
    simp -implicitDefEqProofs [↓ft_imp, ↓tf_imp, ↓tt_imp, ↓ff_imp, vc_skip, extOf, vc_seq, vc_cond, vc_block, vc_exit, vc_ret, vc_region, vc_regionD, vc_loop, kSeq_normal, kSeq_ret, kSeq_exit, kBlock_normal, kBlock_ret, kBlock_exit, kLoop_normal, kLoop_ret, kLoop_exit, kCond_bool, kNorm_app, vcOps_nil, vcOps_cons, kOps_app, kStep_some, kStep_none, vcDL_nil, vcDL_cons, kOpsD_app, kStepD_true, kStepD_false, kStepC_some, kStepC_none, kMv_app, act3_store, act3_call, act3_bs, kAct_app, kSt2_app, stealSlots, stealL, stealOne, subIn, AV.stolen, act_store, act_bs, act_append, act_call, kSet_app, kSet2_app, kSetG_app, kSetG_app0, kStore_ptr, kStore_eptr, kCallW_some, kCallC_some, kCall_some, wk_T, wk_n, wk_keep, wk_inv, wk_act, wk_dr, wk_le, aCalm, wantC, dstOk, calm, aCallK, aCall3K, subOf, subRep, aCall2K, apnd, bsMove, putBox, putOwn, partAV, mvL, AV.mv, AV.base, AV.moved, AV.src, TI.flat, apSize, pickAV, St.val, St.cond, St.fn, St.next, St.set, St.trim, wipe_eq, wipeE_app, wipeM_app, pickEnv, get?, cGet, upd_app, withPuts, killAll, rm, freshP, Oper.hnd, Sc.st, ofConst, constOk, lenAV, elemLen, loadAV, ldL, ld1, fieldAddrAV, indexAddrAV, sliceAV, convAV, buildAV, fillAV, fieldAV, Out.of, binAV, AV.rows, AV.one, AV.cells, AV.deepOk, AV.toD, toDs, partRows, partRowsM, partsDeep, TK.zeroAV, TK.zeroD, byteOf, inR, Op.operands, Call.operands, passVs, passV, passL, pass1, passB, pasVs, pasV, pasL, pas1, ownsOk, okHs, okHs2, okFin, finOk2, rho, over, backRes, backAV, backAV1, backBlk, putBack, back2, back2_V, back2_1, m2, AV.wipe, AV.wipeV, AV.wipe1, Blk.wipe, AV.hs, AV.hs.hsL, alOps, Con.start2, Con.pk, bodyQ, fini, resAV, resA, firstId, Sc.from, renEnv, renT, renV, renVs, renL, ren1, renBox, renOwn, okRen, clOf, actB, setRow, flatRows, flatD, noInv, shr_nil, shr_some, kStepF_some, shareL, AV.viewed, AV.viewed1, cViewPutX, cViewPutI, cSmTree, cTreeOk, cTreeGetX, cTreeGet, cPathIn, cSmTexts, cViewOfX, cViewOfI, Con.fn, tTab, vgInv_11, vgInv_16, vgO, vgI]
    try dsimp only
    refine ⟨⟨⟨t, p, v, y, 0⟩, ⟨rfl, rfl, rfl, rfl, rfl⟩, ht, hp, hv, wy, hk, Nat.zero_le _⟩, fun x hx _ => ?_⟩
    obtain ⟨⟨f1, f2, f3, f4⟩, l1, l2, l3, l4, l5, l6⟩ := vg_facts hx
    clear wy e0 hk hT z1 zv z2 ht hp hv
    obtain ⟨xt, xp, xv, xy, xi⟩ := x
    dsimp only at f1 f2 f3 f4 l1 l2 l3 l4 l5 l6 ⊢
    refine ⟨fun hlt => ⟨hlt, fun _ => ?_⟩, fun hge => ?_⟩
    · simp -implicitDefEqProofs [hlt, eFile, D.asStr]
      refine ⟨xy.l, xt[xi].path, ⟨rfl, rfl⟩, f4, fun g hg => ⟨xt.length - xi, ⟨⟨⟨xt, xp, xv, xy, xi⟩, g, false, 0⟩, ⟨rfl, rfl, rfl, rfl, rfl, rfl, rfl, rfl, rfl⟩, hx, hlt, ?_, Nat.zero_le _, rfl, rfl⟩, fun x' hx' _ => ?_⟩⟩
      · have : (xt.getD xi default).path = xt[xi].path := by simp -implicitDefEqProofs [List.getD_eq_getElem?_getD, hlt]
        show isTG xy.l (xt.getD xi default).path g
        rw [this]; exact hg
      · clear f1 f2 f3 f4 l1 l2 l3 l4 l5 l6
        obtain ⟨ho, hi', hg', hk', hs', hm'⟩ := (vgIn_def _ _).1 hx'
        obtain ⟨⟨f1, f2, f3, f4⟩, l1, l2, l3, l4, l5, l6⟩ := vg_facts ho
        obtain ⟨⟨t', p', v', y', i'⟩, g', seen, k⟩ := x'
        dsimp only at *
        have hgd : t'.getD i' default = t'[i'] := by simp -implicitDefEqProofs [List.getD_eq_getElem?_getD, hi']
        have hp4 : p'.length ≤ 4 := by unfold viewI at l2; simp only [Bool.and_eq_true, decide_eq_true_eq] at l2; exact l2.1
        have ht8 : t'.length ≤ 8 := (treeI_le _ l1).1
        have next : ∀ (h : k < p'.length) (b : Bool), b = (seen || atB t'[i'].path p'[k]) → vgIn (xt.length - xi) ⟨⟨t', p', v', y', i'⟩, g', b, k + 1⟩ := fun h b hb => by
          refine ⟨ho, hi', hg', h, ?_, hm'⟩
          show b = (p'.take (k + 1)).any _
          rw [take_succ' h, List.any_append, ← hs', hb, hgd]
          simp
        simp -implicitDefEqProofs [hi', eFile, D.asStr, D.asRows]
        have step : ∀ (h : k < p'.length) (b : Bool), b = (seen || atB t'[i'].path p'[k]) → ∃ z : VGI, (z.o.t = t' ∧ z.o.p = p' ∧ z.o.v = v' ∧ z.o.y.l = y'.l ∧ (z.o.i : Int) = (i' : Int) ∧ z.g.text = g'.text ∧ z.g.there = g'.there ∧ z.seen = b ∧ (z.k : Int) = (k : Int) + 1) ∧ vgIn (xt.length - xi) z ∧ z.o.p.length - z.k < p'.length - k := fun h b hb => ⟨_, ⟨rfl, rfl, rfl, rfl, rfl, rfl, rfl, rfl, by simp⟩, next h b hb, by simp only; omega⟩
        have onto : ∃ z : VGX, (z.t = t' ∧ z.p = p' ∧ z.v = v' ∧ z.y.l = y'.l ∧ (z.i : Int) = (i' : Int) + 1) ∧ vgOk z ∧ z.t.length - z.i < xt.length - xi := by
          obtain ⟨q1, q2, q3, q4, q5, q6⟩ := (vgOk_def _).1 ho
          exact ⟨⟨t', p', v', y', i' + 1⟩, ⟨rfl, rfl, rfl, rfl, by simp⟩, ⟨q1, q2, q3, q4, q5, hi'⟩, by simp only; omega⟩
        refine ⟨fun hlt2 => ⟨fun hs => ⟨⟨by omega, by omega⟩, fun _ _ => step hlt2 true (by rw [hs]; rfl)⟩, fun hs => ⟨hlt2, fun _ => ?_⟩⟩, fun hge => ⟨fun hs => ⟨fun _ => ⟨⟨by omega, by omega⟩, fun _ _ => onto⟩, fun _ => ⟨⟨by omega, by omega⟩, fun _ _ => onto⟩⟩, fun hs => ?_⟩⟩
        · have qt : Option.map eStr p'[k]? = some (eStr p'[k]) := by simp -implicitDefEqProofs [List.getElem?_eq_getElem hlt2]
          simp -implicitDefEqProofs [qt, eStr]
          refine ⟨fun h => ⟨⟨by omega, by omega⟩, fun _ _ => step hlt2 true (by rw [hs]; simp -implicitDefEqProofs [atB, h])⟩, fun h => ⟨hlt2, fun _ => ⟨p'[k], t'[i'].path, ⟨rfl, rfl⟩, ⟨f2 _ (List.getElem_mem hlt2), f1.2.2 _ (List.getElem_mem hi')⟩, ⟨by omega, by omega⟩, fun _ _ => step hlt2 _ ?_⟩⟩⟩
          have r1 : pathI p'[k] = true := by
            unfold viewI at l2; simp only [Bool.and_eq_true, List.all_eq_true] at l2
            exact l2.2 _ (List.getElem_mem hlt2)
          have r2 : pathI t'[i'].path = true := (((okt_iff t').1 l1).2.1 _ (List.getElem_mem hi')).2
          rw [hs]; unfold pathInI atB; rw [r1, r2]; simp -implicitDefEqProofs [h]
        · have hv : visB t'[i'] p' = false := by
            rw [List.take_of_length_le hge, hs, hgd] at hs'
            exact hs'.symm
          have e := l4 _ (List.getElem_mem hi') hv
          rw [hgd] at hg'
          have e2 := isTG_def.1 hg'
          rw [e] at e2
          have e3 : g'.text = t'[i'].text := (Prod.mk.inj e2).1
          have e4 : g'.there = true := (Prod.mk.inj e2).2
          exact ⟨fun _ => ⟨_, _, ⟨rfl, rfl⟩, e3, fun _ => ⟨⟨by omega, by omega⟩, fun _ _ => onto⟩⟩, e4⟩
    · refine ⟨xy.l, xp, xv, ⟨rfl, rfl, rfl⟩, ⟨f4, f2, f3⟩, fun u hu => ⟨f4.2.2, fun _ => ⟨xy.l, xp, ⟨rfl, rfl⟩, ⟨f4, f2⟩, fun w hw => ?_⟩, fun h => absurd h (by rw [l3]; simp)⟩⟩
      have e := isVP_def.1 hu
      rw [l6] at e
      have e3 : u.l = xy.l := (Prod.mk.inj e).1
      have e4 : u.ok = true := (Prod.mk.inj e).2
      exact ⟨by rw [isVO_def.1 hw, l5], fun _ => e3, e4⟩

end Vx
end Go.Proofs.YtlhkmgbmnbkaeaaDoor
