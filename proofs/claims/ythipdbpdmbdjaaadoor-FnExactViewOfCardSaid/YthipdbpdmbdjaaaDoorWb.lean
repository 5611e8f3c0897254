/-
  Joined by program (merge.py): Ct, Cu. It shows what the single texts show; conditions: none but those of each lemma.
-/
import Derived.Test.YthipdbpdmbdjaaaDoorWa
set_option linter.unusedVariables false
set_option linter.unusedSimpArgs false
set_option linter.unusedSectionVars false
/-
  Contracts: copies of trees; ViewOf, both sides.
-/
namespace Go.Proofs.YthipdbpdmbdjaaaDoor
namespace Vx
open Go.RowKit
set_option maxRecDepth 8000

theorem eStrs_str {l : List Str} {x : List D} {d : D} (h : x ∈ eStrs l) (h' : d ∈ x) : ∃ s, d = D.str s := by
  simp only [eStrs, List.mem_map] at h
  obtain ⟨s, _, rfl⟩ := h
  simp only [eStr, List.mem_singleton] at h'
  exact ⟨s, h'⟩

def cCopyText : Con := .fn 6 (List Str) (fun a => [.sl true 1 (eStrs a)]) (fun a => a.length ≤ 1048576) (fun a => .own 8 1 (eStrs a)) (fun a => ownStrs 8 a)
set_option maxHeartbeats 4000000 in
theorem copyText_has : Has Tryd.prog 107 cCopyText := by
  refine has_walk mixed tTab_ok (l := []) HasL.nil [0, 2] ((fun a n (_ : Nat) => (fun _ => noInv) a n)) [] Tryd.func107 (by kernel_rfl) (code := _) (by unfold Tryd.f107; rfl) (by kernel_rfl) (by decide) (fun _ => ⟨(), trivial⟩) (by intro h; first | exact fun _ => rfl | cases h) (by kernel_rfl) ?_
  intro (a : List Str) ha
  replace ha : a.length ≤ 1048576 := ha
  simp [vc_skip, vc_seq, vc_cond, vc_block, vc_exit, vc_ret, vc_region, vc_regionD, vc_loop, kSeq_normal, kSeq_ret, kSeq_exit, kBlock_normal, kBlock_ret, kBlock_exit, kLoop_normal, kLoop_ret, kLoop_exit, kCond_bool, kNorm_app, vcOps_nil, vcOps_cons, kOps_app, kStep_some, kStep_none, vcDL_nil, vcDL_cons, kOpsD_app, kStepD_true, kStepD_false, kStepC_some, kStepC_none, kMv_app, act3_store, act3_call, act3_bs, kAct_app, kSt2_app, stealSlots, stealL, stealOne, subIn, AV.stolen, act_store, act_bs, act_append, act_call, kSet_app, kSet2_app, kSetG_app, kSetG_app0, kStore_ptr, kStore_eptr, kCallW_some, kCallC_some, kCall_some, wk_T, wk_n, wk_keep, wk_inv, wk_act, wk_dr, wk_le, aCalm, wantC, dstOk, calm, aCallK, aCall3K, subOf, subRep, aCall2K, apnd, bsMove, putBox, putOwn, partAV, mvL, AV.mv, AV.base, AV.moved, AV.src, TI.flat, apSize, pickAV, St.val, St.cond, St.fn, St.next, St.set, St.trim, wipe_eq, wipeE_app, wipeM_app, pickEnv, get?, cGet, upd_app, withPuts, killAll, rm, freshP, Oper.hnd, Sc.st, ofConst, constOk, lenAV, elemLen, loadAV, ldL, ld1, fieldAddrAV, indexAddrAV, sliceAV, convAV, buildAV, fillAV, fieldAV, Out.of, binAV, AV.rows, AV.one, AV.cells, AV.deepOk, AV.toD, toDs, partRows, partRowsM, partsDeep, TK.zeroAV, TK.zeroD, byteOf, inR, Op.operands, Call.operands, passVs, passV, passL, pass1, passB, pasVs, pasV, pasL, pas1, ownsOk, okHs, okHs2, okFin, finOk2, rho, over, backRes, backAV, backAV1, backBlk, putBack, back2, back2_V, back2_1, m2, AV.wipe, AV.wipeV, AV.wipe1, Blk.wipe, AV.hs, AV.hs.hsL, alOps, Con.start2, Con.pk, bodyQ, fini, resAV, resA, firstId, Sc.from, renEnv, renT, renV, renVs, renL, ren1, renBox, renOwn, okRen, clOf, actB, setRow, flatRows, flatD, noInv, cCopyText, Con.fn, tTab]
  try dsimp only
  try simp +contextual [eStr, eFile, cast_succ, cast_eq, cast_zero, List.getElem?_eq_getElem, eStrs_set, eFiles_set, eStrs_rep, eFiles_rep, ← eStrs_append, ← eFiles_append, eStrs_take, eStrs_drop, eFiles_take, eFiles_drop, eStrs_snoc, eFiles_snoc, and_assoc]
  repeat' (first | intro _ | apply And.intro)
  all_goals first | omega | grind [all_take, eStrs_str]

def cCopyTree : Con := .fn 23 (List FileD) (fun a => [.sl true 2 (eFiles a)]) (fun a => a.length ≤ 1048576 ∧ ∀ f ∈ a, f.text.length ≤ 1048576) (fun a => .own 8 2 (eFiles a)) (fun a => ownFiles 8 a)
set_option maxHeartbeats 4000000 in
theorem copyTree_has : Has Tryd.prog 71 cCopyTree := by
  refine has_walk mixed tTab_ok (l := [(107, cCopyText)]) (HasL.cons copyText_has HasL.nil) [0, 2, 3, 5, 6, 7, 8] ((fun a n (_ : Nat) => (fun a _ => ⟨Nat, fun i => ⟨[(2, true, .nil), (3, true, .own 9 2 (eFiles (a.take i))), (6, true, .sl true 2 (eFiles a)), (7, true, .int .i64 a.length), (8, true, .int .i64 i)], ownFiles 9 (a.take i)⟩, fun i => i ≤ a.length, fun i => a.length - i⟩) a n)) [19] Tryd.func71 (by kernel_rfl) (code := _) (by unfold Tryd.f71; rfl) (by kernel_rfl) (by decide) (fun _ => ⟨(), trivial⟩) (by intro h; first | exact fun _ => rfl | cases h) (by kernel_rfl) ?_
  intro (a : List FileD) ha
  obtain ⟨h1, h2⟩ : a.length ≤ 1048576 ∧ ∀ f ∈ a, f.text.length ≤ 1048576 := ha
  have h3 : ∀ i (h : i < a.length), a[i].text.length ≤ 1048576 := fun i h => h2 _ (List.getElem_mem h)
  simp [vc_skip, vc_seq, vc_cond, vc_block, vc_exit, vc_ret, vc_region, vc_regionD, vc_loop, kSeq_normal, kSeq_ret, kSeq_exit, kBlock_normal, kBlock_ret, kBlock_exit, kLoop_normal, kLoop_ret, kLoop_exit, kCond_bool, kNorm_app, vcOps_nil, vcOps_cons, kOps_app, kStep_some, kStep_none, vcDL_nil, vcDL_cons, kOpsD_app, kStepD_true, kStepD_false, kStepC_some, kStepC_none, kMv_app, act3_store, act3_call, act3_bs, kAct_app, kSt2_app, stealSlots, stealL, stealOne, subIn, AV.stolen, act_store, act_bs, act_append, act_call, kSet_app, kSet2_app, kSetG_app, kSetG_app0, kStore_ptr, kStore_eptr, kCallW_some, kCallC_some, kCall_some, wk_T, wk_n, wk_keep, wk_inv, wk_act, wk_dr, wk_le, aCalm, wantC, dstOk, calm, aCallK, aCall3K, subOf, subRep, aCall2K, apnd, bsMove, putBox, putOwn, partAV, mvL, AV.mv, AV.base, AV.moved, AV.src, TI.flat, apSize, pickAV, St.val, St.cond, St.fn, St.next, St.set, St.trim, wipe_eq, wipeE_app, wipeM_app, pickEnv, get?, cGet, upd_app, withPuts, killAll, rm, freshP, Oper.hnd, Sc.st, ofConst, constOk, lenAV, elemLen, loadAV, ldL, ld1, fieldAddrAV, indexAddrAV, sliceAV, convAV, buildAV, fillAV, fieldAV, Out.of, binAV, AV.rows, AV.one, AV.cells, AV.deepOk, AV.toD, toDs, partRows, partRowsM, partsDeep, TK.zeroAV, TK.zeroD, byteOf, inR, Op.operands, Call.operands, passVs, passV, passL, pass1, passB, pasVs, pasV, pasL, pas1, ownsOk, okHs, okHs2, okFin, finOk2, rho, over, backRes, backAV, backAV1, backBlk, putBack, back2, back2_V, back2_1, m2, AV.wipe, AV.wipeV, AV.wipe1, Blk.wipe, AV.hs, AV.hs.hsL, alOps, Con.start2, Con.pk, bodyQ, fini, resAV, resA, firstId, Sc.from, renEnv, renT, renV, renVs, renL, ren1, renBox, renOwn, okRen, clOf, actB, setRow, flatRows, flatD, noInv, cCopyTree, Con.fn, tTab, cCopyText]
  try dsimp only
  try simp +contextual [eStr, eFile, cast_succ, cast_eq, cast_zero, List.getElem?_eq_getElem, eStrs_set, eFiles_set, eStrs_rep, eFiles_rep, ← eStrs_append, ← eFiles_append, eStrs_take, eStrs_drop, eFiles_take, eFiles_drop, eStrs_snoc, eFiles_snoc, and_assoc, ← FileD.eq_iff]
  repeat' (first | intro _ | apply And.intro)
  all_goals first | omega | grind [all_take, List.take_of_length_le, List.take_succ_eq_append_getElem]

def cL4Copy : Con := .fn 29 (List FileD) (fun a => [.sl true 2 (eFiles a)]) (fun a => a.length ≤ 1048576 ∧ ∀ f ∈ a, f.text.length ≤ 1048576) (fun a => .own 8 2 (eFiles a)) (fun a => ownFiles 8 a)
set_option maxHeartbeats 4000000 in
theorem l4Copy_has : Has Tryd.prog 70 cL4Copy := by
  refine has_walk mixed tTab_ok (l := []) HasL.nil [0, 2, 3, 4] ((fun a n (_ : Nat) => (fun a _ => ⟨Nat, fun i => ⟨[(0, true, .sl true 2 (eFiles a)), (2, true, .nil), (3, true, .own 9 2 (eFiles (a.take i))), (4, true, .int .i64 i)], ownFiles 9 (a.take i)⟩, fun i => i ≤ a.length, fun i => a.length - i⟩) a n)) [26] Tryd.func70 (by kernel_rfl) (code := _) (by unfold Tryd.f70; rfl) (by kernel_rfl) (by decide) (fun _ => ⟨(), trivial⟩) (by intro h; first | exact fun _ => rfl | cases h) (by kernel_rfl) ?_
  intro (a : List FileD) ha
  obtain ⟨h1, h2⟩ : a.length ≤ 1048576 ∧ ∀ f ∈ a, f.text.length ≤ 1048576 := ha
  have h3 : ∀ i (h : i < a.length), a[i].text.length ≤ 1048576 := fun i h => h2 _ (List.getElem_mem h)
  simp [vc_skip, vc_seq, vc_cond, vc_block, vc_exit, vc_ret, vc_region, vc_regionD, vc_loop, kSeq_normal, kSeq_ret, kSeq_exit, kBlock_normal, kBlock_ret, kBlock_exit, kLoop_normal, kLoop_ret, kLoop_exit, kCond_bool, kNorm_app, vcOps_nil, vcOps_cons, kOps_app, kStep_some, kStep_none, vcDL_nil, vcDL_cons, kOpsD_app, kStepD_true, kStepD_false, kStepC_some, kStepC_none, kMv_app, act3_store, act3_call, act3_bs, kAct_app, kSt2_app, stealSlots, stealL, stealOne, subIn, AV.stolen, act_store, act_bs, act_append, act_call, kSet_app, kSet2_app, kSetG_app, kSetG_app0, kStore_ptr, kStore_eptr, kCallW_some, kCallC_some, kCall_some, wk_T, wk_n, wk_keep, wk_inv, wk_act, wk_dr, wk_le, aCalm, wantC, dstOk, calm, aCallK, aCall3K, subOf, subRep, aCall2K, apnd, bsMove, putBox, putOwn, partAV, mvL, AV.mv, AV.base, AV.moved, AV.src, TI.flat, apSize, pickAV, St.val, St.cond, St.fn, St.next, St.set, St.trim, wipe_eq, wipeE_app, wipeM_app, pickEnv, get?, cGet, upd_app, withPuts, killAll, rm, freshP, Oper.hnd, Sc.st, ofConst, constOk, lenAV, elemLen, loadAV, ldL, ld1, fieldAddrAV, indexAddrAV, sliceAV, convAV, buildAV, fillAV, fieldAV, Out.of, binAV, AV.rows, AV.one, AV.cells, AV.deepOk, AV.toD, toDs, partRows, partRowsM, partsDeep, TK.zeroAV, TK.zeroD, byteOf, inR, Op.operands, Call.operands, passVs, passV, passL, pass1, passB, pasVs, pasV, pasL, pas1, ownsOk, okHs, okHs2, okFin, finOk2, rho, over, backRes, backAV, backAV1, backBlk, putBack, back2, back2_V, back2_1, m2, AV.wipe, AV.wipeV, AV.wipe1, Blk.wipe, AV.hs, AV.hs.hsL, alOps, Con.start2, Con.pk, bodyQ, fini, resAV, resA, firstId, Sc.from, renEnv, renT, renV, renVs, renL, ren1, renBox, renOwn, okRen, clOf, actB, setRow, flatRows, flatD, noInv, cL4Copy, Con.fn, tTab]
  try dsimp only
  try simp +contextual [eStr, eFile, cast_succ, cast_eq, cast_zero, List.getElem?_eq_getElem, eStrs_set, eFiles_set, eStrs_rep, eFiles_rep, ← eStrs_append, ← eFiles_append, eStrs_take, eStrs_drop, eFiles_take, eFiles_drop, eStrs_snoc, eFiles_snoc, and_assoc, ← FileD.eq_iff]
  repeat' (first | intro _ | apply And.intro)
  all_goals first | omega | grind [all_take, eStrs_str, List.take_of_length_le, List.take_succ_eq_append_getElem]

def filB (p : FileD → Bool) (t : List FileD) : List FileD := t.filter p
theorem fil_hit {p : FileD → Bool} {t : List FileD} {i : Nat} (h : i < t.length) (hp : p t[i] = true) : filB p (t.take (i + 1)) = filB p (t.take i) ++ [t[i]] := by
  unfold filB
  rw [take_succ' h, List.filter_append]
  simp [List.filter_cons, hp]
theorem fil_miss {p : FileD → Bool} {t : List FileD} {i : Nat} (h : i < t.length) (hp : p t[i] = false) : filB p (t.take (i + 1)) = filB p (t.take i) := by
  unfold filB
  rw [take_succ' h, List.filter_append]
  simp [List.filter_cons, hp]
theorem fil_le (p : FileD → Bool) (t : List FileD) (i : Nat) : (filB p (t.take i)).length ≤ i := by
  have := List.length_filter_le p (t.take i)
  unfold filB
  simp at this; omega
theorem fil_nil (p : FileD → Bool) : filB p [] = [] := rfl

/-- A copy whose texts have gone, where p holds, ahead of i. -/
def goneR (p : FileD → Bool) (t : List FileD) (i : Nat) : List (List D) := (t.take i).map (fun f => if p f then [.str f.path, .junk] else eFile f) ++ eFiles (t.drop i)
theorem goneR_len (p : FileD → Bool) (t : List FileD) (i : Nat) : (goneR p t i).length = t.length := by simp [goneR]; omega
theorem goneR_zero (p : FileD → Bool) (t : List FileD) : goneR p t 0 = eFiles t := by simp [goneR]
theorem goneR_get {p : FileD → Bool} {t : List FileD} {i : Nat} (h : i < t.length) : (goneR p t i)[i]? = some (eFile t[i]) := by
  unfold goneR
  rw [List.getElem?_append_right (by simp; omega), List.length_map, List.length_take, Nat.min_eq_left (by omega), Nat.sub_self, eFiles_get, List.drop_eq_getElem_cons h]
  rfl
theorem goneR_miss {p : FileD → Bool} {t : List FileD} {i : Nat} (h : i < t.length) (hp : p t[i] = false) : goneR p t (i + 1) = goneR p t i := by
  unfold goneR
  rw [take_succ' h, List.map_append, List.drop_eq_getElem_cons h]
  simp only [List.map_cons, List.map_nil, hp, Bool.false_eq_true, if_false, eFiles, List.append_assoc, List.cons_append, List.nil_append]
theorem goneR_hit {p : FileD → Bool} {t : List FileD} {i : Nat} (h : i < t.length) (hp : p t[i] = true) : (goneR p t i).set i [.str t[i].path, .junk] = goneR p t (i + 1) := by
  unfold goneR
  rw [take_succ' h, List.map_append]
  rw [List.set_append_right _ _ (by simp; omega), List.length_map, List.length_take, Nat.min_eq_left (by omega), Nat.sub_self, List.drop_eq_getElem_cons h]
  simp only [List.map_cons, List.map_nil, hp, if_true, eFiles, List.append_assoc, List.cons_append, List.nil_append, List.set_cons_zero]

def viewOfI (t : List FileD) (l : List Str) : List FileD := if treeI t && viewI l then filB (fun f => visB f l) t else []
def cViewOfI : Con := .fn 32 (List FileD × List Str) (fun a => [.sl true 2 (eFiles a.1), .sl true 1 (eStrs a.2)]) (fun a => (∀ f ∈ a.1, f.path.length ≤ 536870912) ∧ ∀ q ∈ a.2, q.length ≤ 536870912) (fun a => .own 8 2 (eFiles (viewOfI a.1 a.2))) (fun a => ownFiles 8 (viewOfI a.1 a.2))
set_option maxHeartbeats 4000000 in
theorem viewOfI_has : Has Tryd.prog 34 cViewOfI := by
  refine has_walk mixed tTab_ok (l := [(30, cTreeOk), (58, cViewOk), (71, cCopyTree), (59, cVisible)]) (HasL.cons treeOk_has (HasL.cons viewOk_has (HasL.cons copyTree_has (HasL.cons visible_has HasL.nil)))) [0, 1, 4, 5, 7, 17, 18, 19] ((fun a n (_ : Nat) => (fun a _ => ⟨Nat, fun i => ⟨[(0, true, .sl true 2 (eFiles a.1)), (1, true, .sl true 1 (eStrs a.2)), (4, true, .nil), (5, true, .own 9 2 (eFiles (filB (fun f => visB f a.2) (a.1.take i)))), (17, true, .own 10 2 (goneR (fun f => visB f a.2) a.1 i)), (18, true, .int .i64 a.1.length), (19, true, .int .i64 i)], [(9, .own 44 2 true (eFiles (filB (fun f => visB f a.2) (a.1.take i)))), (10, .own 44 2 true (goneR (fun f => visB f a.2) a.1 i))]⟩, fun i => i ≤ a.1.length ∧ treeI a.1 = true ∧ viewI a.2 = true, fun i => a.1.length - i⟩) a n)) [28] Tryd.func34 (by kernel_rfl) (code := _) (by unfold Tryd.f34; rfl) (by kernel_rfl) (by decide) (fun _ => ⟨(), trivial⟩) (by intro h; first | exact fun _ => rfl | cases h) (by kernel_rfl) ?_
  intro a ha
  obtain ⟨t, l⟩ := a
  obtain ⟨q0, q1⟩ : (∀ f ∈ t, f.path.length ≤ 536870912) ∧ ∀ q ∈ l, q.length ≤ 536870912 := ha
  have h1 := treeI_le t
  simp [vc_skip, vc_seq, vc_cond, vc_block, vc_exit, vc_ret, vc_region, vc_regionD, vc_loop, kSeq_normal, kSeq_ret, kSeq_exit, kBlock_normal, kBlock_ret, kBlock_exit, kLoop_normal, kLoop_ret, kLoop_exit, kCond_bool, kNorm_app, vcOps_nil, vcOps_cons, kOps_app, kStep_some, kStep_none, vcDL_nil, vcDL_cons, kOpsD_app, kStepD_true, kStepD_false, kStepC_some, kStepC_none, kMv_app, act3_store, act3_call, act3_bs, kAct_app, kSt2_app, stealSlots, stealL, stealOne, subIn, AV.stolen, act_store, act_bs, act_append, act_call, kSet_app, kSet2_app, kSetG_app, kSetG_app0, kStore_ptr, kStore_eptr, kCallW_some, kCallC_some, kCall_some, wk_T, wk_n, wk_keep, wk_inv, wk_act, wk_dr, wk_le, aCalm, wantC, dstOk, calm, aCallK, aCall3K, subOf, subRep, aCall2K, apnd, bsMove, putBox, putOwn, partAV, mvL, AV.mv, AV.base, AV.moved, AV.src, TI.flat, apSize, pickAV, St.val, St.cond, St.fn, St.next, St.set, St.trim, wipe_eq, wipeE_app, wipeM_app, pickEnv, get?, cGet, upd_app, withPuts, killAll, rm, freshP, Oper.hnd, Sc.st, ofConst, constOk, lenAV, elemLen, loadAV, ldL, ld1, fieldAddrAV, indexAddrAV, sliceAV, convAV, buildAV, fillAV, fieldAV, Out.of, binAV, AV.rows, AV.one, AV.cells, AV.deepOk, AV.toD, toDs, partRows, partRowsM, partsDeep, TK.zeroAV, TK.zeroD, byteOf, inR, Op.operands, Call.operands, passVs, passV, passL, pass1, passB, pasVs, pasV, pasL, pas1, ownsOk, okHs, okHs2, okFin, finOk2, rho, over, backRes, backAV, backAV1, backBlk, putBack, back2, back2_V, back2_1, m2, AV.wipe, AV.wipeV, AV.wipe1, Blk.wipe, AV.hs, AV.hs.hsL, alOps, Con.start2, Con.pk, bodyQ, fini, resAV, resA, firstId, Sc.from, renEnv, renT, renV, renVs, renL, ren1, renBox, renOwn, okRen, clOf, actB, setRow, flatRows, flatD, noInv, cViewOfI, Con.fn, tTab, cTreeOk, cViewOk, cCopyTree, cVisible]
  try dsimp only
  generalize hp : (fun f => visB f l) = p
  have hpv : ∀ f, visB f l = p f := fun f => by rw [← hp]
  have hI : ∀ x, treeI t = true → viewI l = true → x = filB p t → viewOfI t l = x := fun x a b c => by unfold viewOfI; rw [a, b, hp, c]; rfl
  have hF1 : treeI t = false → viewOfI t l = [] := fun h => by unfold viewOfI; rw [h]; rfl
  have hF2 : viewI l = false → viewOfI t l = [] := fun h => by unfold viewOfI; rw [h]; simp
  refine ⟨q0, hF1, fun hT => ⟨q1, hF2, fun hV => ⟨⟨by have := h1 hT; omega, fun f hf => by have := (h1 hT).2 f hf; omega⟩, fun _ => ⟨⟨0, by simp [goneR_zero, fil_nil, hT, hV]⟩, fun i hi _ _ => ⟨fun hlt => ?_, fun hge => ?_⟩⟩⟩⟩⟩
  · have g1 := goneR_get (p := p) hlt
    have g2 := goneR_len p t i
    have g3 := fil_le p t i
    have g4 := (h1 hT).1
    have g5 : (goneR p t i)[i]'(by rw [g2]; exact hlt) = eFile t[i] := by
      have := g1
      rw [List.getElem?_eq_getElem (by rw [g2]; exact hlt)] at this
      exact Option.some.inj this
    simp [g1, g5, g2, eFile, D.asStr, D.asRows, hlt, and_assoc, hpv]
    refine ⟨q1, fun hh => ⟨by omega, by omega, by omega, by omega, fun _ _ => ?_⟩, fun hh => ⟨by omega, by omega, fun _ _ => ?_⟩⟩
    · have e1 := fil_hit (p := p) hlt hh
      have e2 := goneR_hit (p := p) hlt hh
      have e3 : eFiles (filB p (t.take (i + 1))) = eFiles (filB p (t.take i)) ++ [[D.str t[i].path, D.sl 9 1 (eStrs t[i].text)]] := by rw [e1, eFiles_append]; rfl
      exact ⟨i + 1, e3, e2.symm, by omega, e3.symm, e2, by omega, hT, hV, by omega⟩
    · have e1 := fil_miss (p := p) hlt hh
      have e2 := goneR_miss (p := p) hlt hh
      exact ⟨i + 1, e1, e2, by omega, e1.symm, e2.symm, by omega, hT, hV, by omega⟩
  · have e1 := hI (filB p (t.take i)) hT hV (by rw [List.take_of_length_le hge])
    exact ⟨e1, e1.symm⟩

end Vx
end Go.Proofs.YthipdbpdmbdjaaaDoor
/-
  Contracts: ViewOf (the reference's), marks looked for in trees; the law FnExactViewOf.
-/
namespace Go.Proofs.YthipdbpdmbdjaaaDoor
namespace Vx
open Go.RowKit
set_option maxRecDepth 8000

def viewOfS (t : List FileD) (l : List Str) : List FileD := if treeS t && viewS l then filB (fun f => in25 l f.path) t else []
def cViewOfS : Con := .fn 40 (List FileD × List Str) (fun a => [.sl true 2 (eFiles a.1), .sl true 1 (eStrs a.2)]) (fun _ => True) (fun a => .own 8 2 (eFiles (viewOfS a.1 a.2))) (fun a => ownFiles 8 (viewOfS a.1 a.2))
set_option maxHeartbeats 4000000 in
theorem viewOfS_has : Has Tryd.prog 33 cViewOfS := by
  refine has_walk mixed tTab_ok (l := [(53, cL4Ok), (56, cL25Paths), (70, cL4Copy), (57, cL25In)]) (HasL.cons l4Ok_has (HasL.cons l25Paths_has (HasL.cons l4Copy_has (HasL.cons l25In_has HasL.nil)))) [0, 1, 4, 5, 6, 7] ((fun a n (_ : Nat) => (fun a _ => ⟨Nat, fun i => ⟨[(1, true, .sl true 1 (eStrs a.2)), (4, true, .nil), (5, true, .own 9 2 (eFiles (filB (fun f => in25 a.2 f.path) (a.1.take i)))), (6, true, .own 10 2 (goneR (fun f => in25 a.2 f.path) a.1 i)), (7, true, .int .i64 i)], [(9, .own 44 2 true (eFiles (filB (fun f => in25 a.2 f.path) (a.1.take i)))), (10, .own 44 2 true (goneR (fun f => in25 a.2 f.path) a.1 i))]⟩, fun i => i ≤ a.1.length ∧ treeS a.1 = true ∧ viewS a.2 = true, fun i => a.1.length - i⟩) a n)) [37] Tryd.func33 (by kernel_rfl) (code := _) (by unfold Tryd.f33; rfl) (by kernel_rfl) (by decide) (fun _ => ⟨(), trivial⟩) (by intro h; first | exact fun _ => rfl | cases h) (by kernel_rfl) ?_
  intro a ha
  obtain ⟨t, l⟩ := a
  have h1 := treeS_le t
  simp [vc_skip, vc_seq, vc_cond, vc_block, vc_exit, vc_ret, vc_region, vc_regionD, vc_loop, kSeq_normal, kSeq_ret, kSeq_exit, kBlock_normal, kBlock_ret, kBlock_exit, kLoop_normal, kLoop_ret, kLoop_exit, kCond_bool, kNorm_app, vcOps_nil, vcOps_cons, kOps_app, kStep_some, kStep_none, vcDL_nil, vcDL_cons, kOpsD_app, kStepD_true, kStepD_false, kStepC_some, kStepC_none, kMv_app, act3_store, act3_call, act3_bs, kAct_app, kSt2_app, stealSlots, stealL, stealOne, subIn, AV.stolen, act_store, act_bs, act_append, act_call, kSet_app, kSet2_app, kSetG_app, kSetG_app0, kStore_ptr, kStore_eptr, kCallW_some, kCallC_some, kCall_some, wk_T, wk_n, wk_keep, wk_inv, wk_act, wk_dr, wk_le, aCalm, wantC, dstOk, calm, aCallK, aCall3K, subOf, subRep, aCall2K, apnd, bsMove, putBox, putOwn, partAV, mvL, AV.mv, AV.base, AV.moved, AV.src, TI.flat, apSize, pickAV, St.val, St.cond, St.fn, St.next, St.set, St.trim, wipe_eq, wipeE_app, wipeM_app, pickEnv, get?, cGet, upd_app, withPuts, killAll, rm, freshP, Oper.hnd, Sc.st, ofConst, constOk, lenAV, elemLen, loadAV, ldL, ld1, fieldAddrAV, indexAddrAV, sliceAV, convAV, buildAV, fillAV, fieldAV, Out.of, binAV, AV.rows, AV.one, AV.cells, AV.deepOk, AV.toD, toDs, partRows, partRowsM, partsDeep, TK.zeroAV, TK.zeroD, byteOf, inR, Op.operands, Call.operands, passVs, passV, passL, pass1, passB, pasVs, pasV, pasL, pas1, ownsOk, okHs, okHs2, okFin, finOk2, rho, over, backRes, backAV, backAV1, backBlk, putBack, back2, back2_V, back2_1, m2, AV.wipe, AV.wipeV, AV.wipe1, Blk.wipe, AV.hs, AV.hs.hsL, alOps, Con.start2, Con.pk, bodyQ, fini, resAV, resA, firstId, Sc.from, renEnv, renT, renV, renVs, renL, ren1, renBox, renOwn, okRen, clOf, actB, setRow, flatRows, flatD, noInv, cViewOfS, Con.fn, tTab, cL4Ok, cL25Paths, cL4Copy, cL25In]
  try dsimp only
  generalize hp : (fun f : FileD => in25 l f.path) = p
  have hpv : ∀ f : FileD, in25 l f.path = p f := fun f => by rw [← hp]
  have hI : ∀ x, treeS t = true → viewS l = true → x = filB p t → viewOfS t l = x := fun x a b c => by unfold viewOfS; rw [a, b, hp, c]; rfl
  have hF1 : treeS t = false → viewOfS t l = [] := fun h => by unfold viewOfS; rw [h]; rfl
  have hF2 : viewS l = false → viewOfS t l = [] := fun h => by unfold viewOfS; rw [h]; simp
  refine ⟨hF1, fun hT => ⟨hF2, fun hV => ⟨⟨by have := h1 hT; omega, fun f hf => by have := (h1 hT).2 f hf; omega⟩, ⟨0, by simp [goneR_zero, fil_nil, hT, hV]⟩, fun i hi _ _ _ => ⟨fun hlt => ?_, fun hge => ?_⟩⟩⟩⟩
  · have g2 := goneR_len p t i
    rw [g2] at hlt
    have g1 := goneR_get (p := p) hlt
    have g3 := fil_le p t i
    have g4 := (h1 hT).1
    have g5 : (goneR p t i)[i]'(by rw [g2]; exact hlt) = eFile t[i] := by
      have := g1
      rw [List.getElem?_eq_getElem (by rw [g2]; exact hlt)] at this
      exact Option.some.inj this
    simp [g1, g5, g2, eFile, D.asStr, D.asRows, hlt, and_assoc, hpv]
    refine ⟨fun hh => ⟨by omega, by omega, by omega, by omega, fun _ _ => ?_⟩, fun hh => ⟨by omega, by omega, fun _ _ => ?_⟩⟩
    · have e1 := fil_hit (p := p) hlt hh
      have e2 := goneR_hit (p := p) hlt hh
      have e3 : eFiles (filB p (t.take (i + 1))) = eFiles (filB p (t.take i)) ++ [[D.str t[i].path, D.sl 9 1 (eStrs t[i].text)]] := by rw [e1, eFiles_append]; rfl
      exact ⟨i + 1, e3, e2.symm, by omega, e3.symm, e2, by omega, hT, hV, by omega⟩
    · have e1 := fil_miss (p := p) hlt hh
      have e2 := goneR_miss (p := p) hlt hh
      exact ⟨i + 1, e1, e2, by omega, e1.symm, e2.symm, by omega, hT, hV, by omega⟩
  · rw [goneR_len] at hge
    have e1 := hI (filB p (t.take i)) hT hV (by rw [List.take_of_length_le hge])
    exact ⟨e1, e1.symm⟩

theorem kE_marks (t : List FileD) (k j : Int) : kE (markFs t k) j = kE t j := by
  have : nLines (markFs t k) = nLines t := by
    unfold nLines markFs
    rw [List.map_map]
    have : ((fun f : FileD => f.text.length) ∘ fun i : Nat => (⟨markS (kE (t.take i) k), markL (t.getD i default).text.length (kE (t.take i) k + 1)⟩ : FileD)) = fun i => (t.getD i default).text.length := by
      funext i; simp [markL_len]
    rw [this]
    congr 1
    apply List.ext_getElem (by simp)
    intro i h1 h2
    simp at h1
    simp [h1]
  unfold kE
  rw [this, markFs_len]
theorem markFs_take (t : List FileD) (k : Int) (i : Nat) (h : i ≤ t.length) : markFs (t.take i) k = (markFs t k).take i := by
  unfold markFs
  rw [← List.map_take, List.take_range, List.length_take, Nat.min_comm]
  rw [Nat.min_comm]
  apply List.map_congr_left
  intro j hj
  have hj : j < i := by simp at hj; omega
  rw [List.take_take, Nat.min_eq_left (by omega)]
  simp [List.getElem?_take, hj]
theorem markFs_same (t : List FileD) (k : Int) : markFs (markFs t k) k = markFs t k := by
  show (List.range (markFs t k).length).map _ = (List.range t.length).map _
  rw [markFs_len]
  apply List.map_congr_left
  intro i hi
  have hi : i < t.length := by simpa using hi
  rw [← markFs_take t k i (by omega), kE_marks]
  have : ((markFs t k).getD i default).text.length = (t.getD i default).text.length := by simp [markFs, hi, markL_len]
  rw [this]

def heldFs (t : List FileD) (k : Int) : Int := if t = markFs t k then kE t k else -1
theorem heldFs_mark (t : List FileD) (k : Int) : heldFs (markFs t k) k = kE t k := by
  unfold heldFs
  rw [markFs_same, if_pos rfl, kE_marks]
def cHeldFileS : Con := .fn 32 (List FileD × Int) (fun a => [.sl true 2 (eFiles a.1), .int .i64 a.2]) (fun a => 0 ≤ a.2 ∧ kE a.1 a.2 ≤ 1152921504606846976) (fun a => .int .i64 (heldFs a.1 a.2)) (fun _ => [])
theorem heldF_get {t : List FileD} {k : Int} {i : Nat} (h : i < t.length) : (markFs t k)[i]'(by rw [markFs_len]; exact h) = ⟨markS (kE (t.take i) k), markL t[i].text.length (kE (t.take i) k + 1)⟩ := by simp [markFs, h]
theorem heldF_miss {t : List FileD} {k : Int} {i : Nat} (h : i < t.length) (h2 : t[i].path ≠ markS (kE (t.take i) k) ∨ t[i].text ≠ markL t[i].text.length (kE (t.take i) k + 1)) : heldFs t k = -1 := by
  unfold heldFs
  rw [if_neg]
  intro h3
  have : t[i]? = (markFs t k)[i]? := by rw [← h3]
  rw [List.getElem?_eq_getElem h, List.getElem?_eq_getElem (by rw [markFs_len]; exact h), heldF_get h] at this
  have := Option.some.inj this
  rcases h2 with h2 | h2
  · exact h2 (congrArg FileD.path this)
  · exact h2 (congrArg FileD.text this)
theorem heldF_step {t : List FileD} {k : Int} {i : Nat} (h : i < t.length) (h1 : t.take i = (markFs t k).take i) (h2 : t[i].path = markS (kE (t.take i) k)) (h3 : t[i].text = markL t[i].text.length (kE (t.take i) k + 1)) : t.take (i + 1) = (markFs t k).take (i + 1) := by
  rw [take_succ' h, take_succ' (by rw [markFs_len]; exact h), heldF_get h, ← h1, ← h2, ← h3]
theorem heldF_end {t : List FileD} {k : Int} {i : Nat} (h : t.length ≤ i) (h1 : t.take i = (markFs t k).take i) : heldFs t k = kE (t.take i) k := by
  rw [List.take_of_length_le h, List.take_of_length_le (by rw [markFs_len]; exact h)] at h1
  unfold heldFs
  rw [if_pos h1, List.take_of_length_le h]
set_option maxHeartbeats 4000000 in
theorem heldFileS_has : Has Tryd.prog 35 cHeldFileS := by
  refine has_walk mixed tTab_ok (l := [(64, cMarkText), (27, cHeldStringS)]) (HasL.cons markText_has (HasL.cons heldStringS_has HasL.nil)) [0, 1, 4, 5] ((fun a n (_ : Nat) => (fun a _ => ⟨Nat, fun i => ⟨[(0, true, .sl true 2 (eFiles a.1)), (1, true, .int .i64 (kE (a.1.take i) a.2)), (4, true, .int .i64 0), (5, true, .int .i64 i)], []⟩, fun i => i ≤ a.1.length ∧ a.1.take i = (markFs a.1 a.2).take i, fun i => a.1.length - i⟩) a n)) [] Tryd.func35 (by kernel_rfl) (code := _) (by unfold Tryd.f35; rfl) (by kernel_rfl) (by decide) (fun _ => ⟨(), trivial⟩) (by intro h; first | exact fun _ => rfl | cases h) (by kernel_rfl) ?_
  intro a ha
  obtain ⟨t, k⟩ := a
  obtain ⟨q1, q2⟩ : 0 ≤ k ∧ kE t k ≤ 1152921504606846976 := ha
  have e1 := fun i => @heldF_miss t k i
  have e2 := fun i => @heldF_step t k i
  have e3 := fun i => @heldF_end t k i
  have e6 := fun i => @kE_step t k i
  have e7 := fun i => @kE_le t k i
  have e8 := kE_zero k
  simp [vc_skip, vc_seq, vc_cond, vc_block, vc_exit, vc_ret, vc_region, vc_regionD, vc_loop, kSeq_normal, kSeq_ret, kSeq_exit, kBlock_normal, kBlock_ret, kBlock_exit, kLoop_normal, kLoop_ret, kLoop_exit, kCond_bool, kNorm_app, vcOps_nil, vcOps_cons, kOps_app, kStep_some, kStep_none, vcDL_nil, vcDL_cons, kOpsD_app, kStepD_true, kStepD_false, kStepC_some, kStepC_none, kMv_app, act3_store, act3_call, act3_bs, kAct_app, kSt2_app, stealSlots, stealL, stealOne, subIn, AV.stolen, act_store, act_bs, act_append, act_call, kSet_app, kSet2_app, kSetG_app, kSetG_app0, kStore_ptr, kStore_eptr, kCallW_some, kCallC_some, kCall_some, wk_T, wk_n, wk_keep, wk_inv, wk_act, wk_dr, wk_le, aCalm, wantC, dstOk, calm, aCallK, aCall3K, subOf, subRep, aCall2K, apnd, bsMove, putBox, putOwn, partAV, mvL, AV.mv, AV.base, AV.moved, AV.src, TI.flat, apSize, pickAV, St.val, St.cond, St.fn, St.next, St.set, St.trim, wipe_eq, wipeE_app, wipeM_app, pickEnv, get?, cGet, upd_app, withPuts, killAll, rm, freshP, Oper.hnd, Sc.st, ofConst, constOk, lenAV, elemLen, loadAV, ldL, ld1, fieldAddrAV, indexAddrAV, sliceAV, convAV, buildAV, fillAV, fieldAV, Out.of, binAV, AV.rows, AV.one, AV.cells, AV.deepOk, AV.toD, toDs, partRows, partRowsM, partsDeep, TK.zeroAV, TK.zeroD, byteOf, inR, Op.operands, Call.operands, passVs, passV, passL, pass1, passB, pasVs, pasV, pasL, pas1, ownsOk, okHs, okHs2, okFin, finOk2, rho, over, backRes, backAV, backAV1, backBlk, putBack, back2, back2_V, back2_1, m2, AV.wipe, AV.wipeV, AV.wipe1, Blk.wipe, AV.hs, AV.hs.hsL, alOps, Con.start2, Con.pk, bodyQ, fini, resAV, resA, firstId, Sc.from, renEnv, renT, renV, renVs, renL, ren1, renBox, renOwn, okRen, clOf, actB, setRow, flatRows, flatD, noInv, cHeldFileS, Con.fn, tTab, cMarkText, cHeldStringS, e8]
  try dsimp only
  refine ⟨⟨0, by simp [e8]⟩, fun i hi hpre _ => ⟨fun hlt => ?_, fun hge => e3 i hge hpre⟩⟩
  have g := e6 i hlt
  have g1 := e7 i
  have g2 := e7 (i + 1)
  simp [hlt, eFile, D.asStr, D.asRows, and_assoc]
  have hl : ∀ l kk, heldL l kk = if l = markL l.length kk then kk + l.length else -1 := fun _ _ => rfl
  have m1 := e1 i hlt
  have m2 := e2 i hlt hpre
  by_cases ht : t[i].text = markL t[i].text.length (kE (t.take i) k + 1)
  · have hh : heldL t[i].text (kE (t.take i) k + 1) = kE (t.take (i + 1)) k := by rw [hl, if_pos ht, g]
    rw [hh]
    exact ⟨by omega, fun hn => m1 (.inl hn), fun hp => ⟨by omega, by omega, fun _ _ => ⟨by omega, by omega, fun hn => by omega, fun _ => ⟨by omega, by omega, fun _ _ => ⟨i + 1, rfl, by omega, by omega, m2 hp ht, by omega⟩⟩⟩⟩⟩
  · have hh : heldL t[i].text (kE (t.take i) k + 1) = -1 := by rw [hl, if_neg ht]
    rw [hh]
    exact ⟨by omega, fun hn => m1 (.inl hn), fun hp => ⟨by omega, by omega, fun _ _ => ⟨by omega, by omega, fun _ => m1 (.inr ht), fun hn => by omega⟩⟩⟩

theorem view_of_eq (t : List FileD) (l : List Str) : viewOfI t l = viewOfS t l := by
  unfold viewOfI viewOfS
  rw [tree_eq, view_eq]
  simp only [vis_in]
theorem viewOfS_bd (t : List FileD) (l : List Str) : (viewOfS t l).length ≤ 8 ∧ ∀ f ∈ viewOfS t l, f.text.length ≤ 64 := by
  unfold viewOfS
  split
  · rename_i h
    simp only [Bool.and_eq_true] at h
    have h1 := treeS_le t h.1
    refine ⟨Nat.le_trans (List.length_filter_le _ _) h1.1, fun f hf => h1.2 f (List.mem_filter.1 hf).1⟩
  · simp
theorem kE_bd {t : List FileD} {A B : Nat} (h1 : t.length ≤ A) (h2 : ∀ f ∈ t, f.text.length ≤ B) (k : Int) : k ≤ kE t k ∧ kE t k ≤ k + A + B * A := by
  have h3 := nLines_bd t h2
  have h4 : B * t.length ≤ B * A := Nat.mul_le_mul_left _ h1
  unfold kE
  refine ⟨by omega, ?_⟩
  have : (nLines t : Int) ≤ ((B * A : Nat) : Int) := by omega
  rw [Int.natCast_mul] at this
  omega

def cFnExactViewOf : Con := .fn 92 (List FileD × List Str) (fun a => [.sl true 2 (eFiles a.1), .sl true 1 (eStrs a.2)]) (fun _ => True) (fun _ => .bool true) (fun _ => [])
set_option maxHeartbeats 4000000 in
theorem fnExactViewOf_calls (x : cFnExactViewOf.A) (hpre : cFnExactViewOf.pre x) {W : World} {vs : List Value} {fp : List (Nat × Nat)} (hr : RdArgs W (cFnExactViewOf.args x) vs fp) (hlen : vs.length ≤ cFnExactViewOf.n) : Calls Tryd.prog 7 vs.toArray W fun e w' => e = .returned (.bool true) ∧ Below W.heap.size W w' := by
  refine law_callsZ mixed tTab_ok (l := [(13, cSzFileS), (18, cSzStringS), (15, cToFileS), (20, cToStringS), (33, cViewOfS), (34, cViewOfI), (17, cEqFileS), (22, cEqStringS), (25, cMarkFileS), (26, cMarkStringS), (35, cHeldFileS)]) (HasL.cons szFileS_has (HasL.cons szStringS_has (HasL.cons toFileS_has (HasL.cons toStringS_has (HasL.cons viewOfS_has (HasL.cons viewOfI_has (HasL.cons eqFileS_has (HasL.cons eqStringS_has (HasL.cons markFileS_has (HasL.cons markStringS_has (HasL.cons heldFileS_has HasL.nil))))))))))) (n := cFnExactViewOf.n) [0, 1, 4, 5, 6, 7, 8, 9, 10, 11, 12, 13] [] [] Tryd.func7 (code := _) (by unfold Tryd.f7; rfl) (by kernel_rfl) (k := cFnExactViewOf) (x := x) rfl rfl rfl (by kernel_rfl) ?_ hr hlen
  clear hr hlen
  obtain ⟨t, a⟩ := x
  clear hpre
  have hz := fun h => szFiles_ok (a := t) (l := 1048576) h
  have g1 : 0 ≤ szFiles t 1048576 → t.length ≤ 1048576 := fun h => by have := (hz h).1; omega
  have g2 : 0 ≤ szFiles t 1048576 → ∀ f ∈ t, f.text.length ≤ 1048576 := fun h f hf => by have := (hz h).2 f hf; omega
  have g3 : 0 ≤ szFiles t 1048576 → ∀ f ∈ t, f.path.length ≤ 536870912 := fun h f hf => by have := (hz h).2 f hf; omega
  have g0 : szFiles t 1048576 ≤ 1048576 := szFiles_le (by omega)
  have g4 : ∀ l : Int, l ≤ 1048576 → 0 ≤ szStrs a l → a.length ≤ 1048576 ∧ (∀ q ∈ a, q.length ≤ 536870912) := fun l hl h => by
    have h1 := szStrs_ok h
    exact ⟨by omega, fun q hq => by have := h1.2 q hq; omega⟩
  have g5 : 0 ≤ szFiles t 1048576 → 1 ≤ kE t 1 ∧ kE t 1 ≤ 1 + 1048576 + 1048576 * 1048576 := fun h => kE_bd (g1 h) (g2 h) 1
  have g6 := viewOfS_bd t a
  have g7 : 1 ≤ kE (viewOfS t a) 1 ∧ kE (viewOfS t a) 1 ≤ 1 + 8 + 64 * 8 := kE_bd g6.1 g6.2 1
  have he := view_of_eq t a
  have hm := heldFs_mark
  have hm2 := kE_marks
  simp [vc_skip, vc_seq, vc_cond, vc_block, vc_exit, vc_ret, vc_region, vc_regionD, vc_loop, kSeq_normal, kSeq_ret, kSeq_exit, kBlock_normal, kBlock_ret, kBlock_exit, kLoop_normal, kLoop_ret, kLoop_exit, kCond_bool, kNorm_app, vcOps_nil, vcOps_cons, kOps_app, kStep_some, kStep_none, vcDL_nil, vcDL_cons, kOpsD_app, kStepD_true, kStepD_false, kStepC_some, kStepC_none, kMv_app, act3_store, act3_call, act3_bs, kAct_app, kSt2_app, stealSlots, stealL, stealOne, subIn, AV.stolen, act_store, act_bs, act_append, act_call, kSet_app, kSet2_app, kSetG_app, kSetG_app0, kStore_ptr, kStore_eptr, kCallW_some, kCallC_some, kCall_some, wk_T, wk_n, wk_keep, wk_inv, wk_act, wk_dr, wk_le, aCalm, wantC, dstOk, calm, aCallK, aCall3K, subOf, subRep, aCall2K, apnd, bsMove, putBox, putOwn, partAV, mvL, AV.mv, AV.base, AV.moved, AV.src, TI.flat, apSize, pickAV, St.val, St.cond, St.fn, St.next, St.set, St.trim, wipe_eq, wipeE_app, wipeM_app, pickEnv, get?, cGet, upd_app, withPuts, killAll, rm, freshP, Oper.hnd, Sc.st, ofConst, constOk, lenAV, elemLen, loadAV, ldL, ld1, fieldAddrAV, indexAddrAV, sliceAV, convAV, buildAV, fillAV, fieldAV, Out.of, binAV, AV.rows, AV.one, AV.cells, AV.deepOk, AV.toD, toDs, partRows, partRowsM, partsDeep, TK.zeroAV, TK.zeroD, byteOf, inR, Op.operands, Call.operands, passVs, passV, passL, pass1, passB, pasVs, pasV, pasL, pas1, ownsOk, okHs, okHs2, okFin, finOk2, rho, over, backRes, backAV, backAV1, backBlk, putBack, back2, back2_V, back2_1, m2, AV.wipe, AV.wipeV, AV.wipe1, Blk.wipe, AV.hs, AV.hs.hsL, alOps, Con.start2, Con.pk, bodyQ, fini, resAV, resA, firstId, Sc.from, renEnv, renT, renV, renVs, renL, ren1, renBox, renOwn, okRen, clOf, actB, setRow, flatRows, flatD, noInv, vcZ_seq, vcZ_cond, vcZ_region, vcZ_skip, vcZ_ret, vcZ_exit, vcZ_block, vcZ_loop, kSeqZ_normal, kSeqZ_ret, kSeqZ_exit, kCondZ_bool, kFz_true, kFz_false, freeze_eq, fzE_app, AV.fz, AV.fz1, finZ, cFnExactViewOf, Con.fn, tTab, cSzFileS, cSzStringS, cToFileS, cToStringS, cViewOfS, cViewOfI, cEqFileS, cEqStringS, cMarkFileS, cMarkStringS, cHeldFileS]
  try dsimp only
  try simp +contextual [eStr, eFile, cast_succ, cast_eq, cast_zero, List.getElem?_eq_getElem, eStrs_set, eFiles_set, eStrs_rep, eFiles_rep, ← eStrs_append, ← eFiles_append, eStrs_take, eStrs_drop, eFiles_take, eFiles_drop, eStrs_snoc, eFiles_snoc, and_assoc, he, hm, hm2]
  repeat' (first | intro _ | apply And.intro)
  all_goals first | omega | grind

end Vx
end Go.Proofs.YthipdbpdmbdjaaaDoor
