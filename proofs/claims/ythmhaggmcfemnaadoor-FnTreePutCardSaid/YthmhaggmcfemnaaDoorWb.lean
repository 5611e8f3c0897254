/-
  Joined by program (merge.py): Cs, Ct, Bw, Ja, Kd, Cu, Ke, Ed, Ec, Eb, Ef, Eg, Sm, Kf. It shows what the single texts show; conditions: none but those of each lemma.
-/
import Derived.Test.YthmhaggmcfemnaaDoorWa
import Derived.Lib.Walk
import Derived.Lib.Builder
import Derived.Lib.AppendStr
import Derived.Lib.AppendZeros
import Derived.Lib.UnsafeStr
import Derived.Laws.Externs
import Derived.Laws.NewBlocks
import Derived.Shelf.RegionOpenPlain
import Derived.WalkKit
set_option linter.unusedVariables false
set_option linter.unusedSimpArgs false
set_option linter.unusedSectionVars false
/-
  Contracts: marks in trees; the law FnExactSeekTree.
-/
namespace Go.Proofs.YthmhaggmcfemnaaDoor
namespace Vx
open Go.RowKit
set_option maxRecDepth 8000

def kE (l : List FileD) (k : Int) : Int := k + l.length + nLines l
def markFs (t : List FileD) (k : Int) : List FileD := (List.range t.length).map fun i : Nat => ⟨markS (kE (t.take i) k), markL (t.getD i default).text.length (kE (t.take i) k + 1)⟩
theorem markFs_len (t : List FileD) (k : Int) : (markFs t k).length = t.length := by simp [markFs]
def mFA (t : List FileD) (k : Int) (i : Nat) : List FileD := (markFs t k).take i ++ t.drop i
theorem mFA_len {t : List FileD} {k : Int} {i : Nat} (h : i ≤ t.length) : (mFA t k i).length = t.length := by simp [mFA, markFs_len]; omega
theorem mFA_zero (t : List FileD) (k : Int) : mFA t k 0 = t := by simp [mFA]
theorem mFA_end {t : List FileD} {k : Int} {i : Nat} (h : t.length ≤ i) : mFA t k i = markFs t k := by
  unfold mFA
  rw [List.take_of_length_le (by rw [markFs_len]; exact h), List.drop_eq_nil_of_le h, List.append_nil]
theorem mFA_get {t : List FileD} {k : Int} {i : Nat} (h : i < t.length) : (mFA t k i)[i]? = some t[i] := by
  unfold mFA
  rw [List.getElem?_append_right (by simp [markFs_len]; omega), List.length_take, markFs_len, Nat.min_eq_left (by omega), Nat.sub_self, List.drop_eq_getElem_cons h]
  rfl
theorem mFA_set {t : List FileD} {k : Int} {i : Nat} (h : i < t.length) : (mFA t k i).set i ⟨markS (kE (t.take i) k), markL t[i].text.length (kE (t.take i) k + 1)⟩ = mFA t k (i + 1) := by
  unfold mFA
  have hl : i < (markFs t k).length := by rw [markFs_len]; exact h
  have hx : (markFs t k)[i] = ⟨markS (kE (t.take i) k), markL t[i].text.length (kE (t.take i) k + 1)⟩ := by simp [markFs, h]
  rw [List.set_append_right _ _ (by simp [markFs_len]; omega), List.length_take, markFs_len, Nat.min_eq_left (by omega), Nat.sub_self, List.drop_eq_getElem_cons h, List.set_cons_zero, List.take_succ_eq_append_getElem hl, hx]
  simp
theorem kE_step {t : List FileD} {k : Int} {i : Nat} (h : i < t.length) : kE (t.take (i + 1)) k = kE (t.take i) k + 1 + t[i].text.length := by
  unfold kE
  rw [nLines_take _ _ h]
  simp; omega
theorem kE_le {t : List FileD} {k : Int} (i : Nat) : k ≤ kE (t.take i) k ∧ kE (t.take i) k ≤ kE t k := by
  have h1 : nLines (t.take i) ≤ nLines t := by
    have : nLines t = nLines (t.take i) + nLines (t.drop i) := by
      unfold nLines
      rw [← List.sum_append, ← List.map_append, List.take_append_drop]
    omega
  have h2 : (t.take i).length ≤ t.length := by simp; omega
  unfold kE
  omega
theorem kE_zero (k : Int) : kE [] k = k := by simp [kE, nLines]

def cMarkFileS : Con := { A := List FileD × Int, X := Unit, n := 28, args := fun a => [.own 0 2 (eFiles a.1), .int .i64 a.2], boxes := fun _ => [], pre := fun a => 0 ≤ a.2 ∧ kE a.1 a.2 ≤ 1152921504606846976, post := fun _ _ => True, res := fun a _ => .int .i64 (kE a.1 a.2), fin := fun a _ => [(0, .own 55 2 true (eFiles (markFs a.1 a.2)))], owns := fun a => [(0, 55, 2, eFiles a.1)], lends := [0], mv := true, sube := 55 }
set_option maxHeartbeats 4000000 in
theorem markFileS_has : Has Tryd.prog 20 cMarkFileS := by
  refine has_walk mixed tTab_ok (l := [(46, cMarkText), (47, cMarkStringS)]) (HasL.cons markText_has (HasL.cons markStringS_has HasL.nil)) [0, 1, 4, 5] ((fun a n (_ : Nat) => (fun a _ => ⟨Nat, fun i => ⟨[(0, true, .own 0 2 (eFiles (mFA a.1 a.2 i))), (1, true, .int .i64 (kE (a.1.take i) a.2)), (4, true, .int .i64 0), (5, true, .int .i64 i)], [(0, .own 55 2 true (eFiles (mFA a.1 a.2 i)))]⟩, fun i => i ≤ a.1.length, fun i => a.1.length - i⟩) a n)) [] Tryd.func20 (by kernel_rfl) (code := _) (by unfold Tryd.f20; rfl) (by kernel_rfl) (by decide) (fun _ => ⟨(), trivial⟩) (by intro h; first | exact fun _ => rfl | cases h) (by kernel_rfl) ?_
  intro a ha
  obtain ⟨t, k⟩ := a
  obtain ⟨q1, q2⟩ : 0 ≤ k ∧ kE t k ≤ 1152921504606846976 := ha
  have e1 := fun i => @mFA_len t k i
  have e2 := fun i => @mFA_set t k i
  have e3 := mFA_zero t k
  have e4 := fun i => @mFA_end t k i
  have e5 := fun i => @mFA_get t k i
  have e6 := fun i => @kE_step t k i
  have e7 := fun i => @kE_le t k i
  have e8 := kE_zero k
  simp -implicitDefEqProofs [vc_skip, extOf, vc_seq, vc_cond, vc_block, vc_exit, vc_ret, vc_region, vc_regionD, vc_loop, kSeq_normal, kSeq_ret, kSeq_exit, kBlock_normal, kBlock_ret, kBlock_exit, kLoop_normal, kLoop_ret, kLoop_exit, kCond_bool, kNorm_app, vcOps_nil, vcOps_cons, kOps_app, kStep_some, kStep_none, vcDL_nil, vcDL_cons, kOpsD_app, kStepD_true, kStepD_tt, kStepD_false, ldB, btys, btyAct, kStepC_some, kStepC_none, kMv_app, act3_store, act3_call, act3_bs, kAct_app, kSt2_app, stealSlots, stealL, stealOne, subIn, AV.stolen, act_store, act_bs, act_append, act_call, kSet_app, kSet2_app, kSetG_app, kSetG_app0, kStore_ptr, kStore_eptr, kCallW_some, kCallC_some, kCall_some, wk_T, wk_n, wk_keep, wk_inv, wk_act, wk_dr, wk_le, aCalm, wantC, dstOk, calm, aCallK, aCall3K, subOf, subRep, aCall2K, apnd, bsMove, putBox, putOwn, partAV, mvL, AV.mv, AV.base, AV.moved, kBld, bldK, wrK, stK, AV.selfOk, AV.src, TI.flat, apSize, pickAV, St.val, St.cond, St.fn, St.next, St.set, St.trim, wipe_eq, wipeE_app, wipeM_app, pickEnv, get?, cGet, upd_app, withPuts, killAll, rm, freshP, Oper.hnd, Sc.st, ofConst, constOk, lenAV, elemLen, loadAV, ldL, ld1, fieldAddrAV, indexAddrAV, sliceAV, convAV, buildAV, fillAV, fieldAV, Out.of, binAV, AV.rows, AV.one, AV.cells, AV.deepOk, AV.toD, toDs, partRows, partRowsM, partsDeep, TK.zeroAV, TK.zeroD, byteOf, inR, Op.operands, Call.operands, passVs, passV, passL, pass1, passB, pasVs, pasV, pasL, pas1, ownsOk, okHs, okHs2, okFin, finOk2, rho, over, backRes, backAV, backAV1, backBlk, putBack, back2, back2_V, back2_1, m2, AV.wipe, AV.wipeV, AV.wipe1, Blk.wipe, AV.hs, AV.hs.hsL, alOps, Con.start2, Con.pk, bodyQ, fini, resAV, resA, firstId, Sc.from, renEnv, renT, renV, renVs, renL, ren1, renBox, renOwn, okRen, clOf, actB, setRow, flatRows, flatD, noInv, shr_nil, shr_some, kStepF_some, shareL, AV.viewed, AV.viewed1, cMarkFileS, Con.fn, tTab, cMarkText, cMarkStringS, e3, e8]
  try dsimp only
  refine ⟨⟨0, by simp [e3, e8]⟩, fun i hi _ => ⟨fun hlt => ?_, fun hge => ?_⟩⟩
  · have hlt' : i < t.length := by rw [e1 i hi] at hlt; exact hlt
    have g1 := e5 i hlt'
    have g2 : ∀ r, ((eFiles (mFA t k i)).set i r)[i]? = some r := fun r => by
      rw [List.getElem?_set_self (by rw [eFiles_length]; exact hlt)]
    have g3 := e7 i
    have g4 := e6 i hlt'
    have g5 := e7 (i + 1)
    have g6 : (eFiles (mFA t k i)).set i [D.str (markS (kE (t.take i) k)), D.sl 9 1 (eStrs (markL t[i].text.length (kE (t.take i) k + 1)))] = eFiles (mFA t k (i + 1)) := by
      rw [← e2 i hlt', eFiles_set]
    have g7 := e1 (i + 1) (by omega)
    have g8 : (mFA t k i)[i] = t[i] := by rw [List.getElem?_eq_getElem hlt] at g1; exact Option.some.inj g1
    simp [g1, g2, eFile, D.asRows, e1 i hi, hlt', hlt, and_assoc]
    rw [g8]
    exact ⟨by omega, by omega, by omega, fun _ _ => ⟨by omega, by omega, by omega, by omega, fun _ _ => ⟨i + 1, g6.symm, by omega, by omega, g6, by omega, by omega⟩⟩⟩
  · rw [e1 i hi] at hge
    rw [e4 i hge, List.take_of_length_le hge]
    exact ⟨rfl, rfl⟩

theorem nLines_bd {B : Nat} (t : List FileD) (h : ∀ f ∈ t, f.text.length ≤ B) : nLines t ≤ B * t.length := by
  induction t with
  | nil => simp [nLines]
  | cons f r ih =>
    have h1 := h f (by simp)
    have h2 := ih (fun g hg => h g (by simp [hg]))
    simp [nLines, Nat.mul_add] at h2 ⊢
    omega
theorem held_mark (n : Nat) (k : Int) : heldL (markL n k) k = k + n := by
  unfold heldL
  rw [markL_len, if_pos rfl]

end Vx
end Go.Proofs.YthmhaggmcfemnaaDoor
/-
  Contracts: copies of trees; ViewOf, both sides.
-/
namespace Go.Proofs.YthmhaggmcfemnaaDoor
namespace Vx
open Go.RowKit
set_option maxRecDepth 8000

theorem eStrs_str {l : List Str} {x : List D} {d : D} (h : x ∈ eStrs l) (h' : d ∈ x) : ∃ s, d = D.str s := by
  simp only [eStrs, List.mem_map] at h
  obtain ⟨s, _, rfl⟩ := h
  simp only [eStr, List.mem_singleton] at h'
  exact ⟨s, h'⟩

def cCopyText : Con := .fn 6 (List Str) (fun a => [.sl true 1 (eStrs a)]) (fun a => a.length ≤ 1048576) (fun a => .own 8 1 (eStrs a)) (fun a => ownStrs 8 a)
set_option maxHeartbeats 4000000 in
theorem copyText_has : Has Tryd.prog 84 cCopyText := by
  refine has_walk mixed tTab_ok (l := []) HasL.nil [0, 2] ((fun a n (_ : Nat) => (fun _ => noInv) a n)) [] Tryd.func84 (by kernel_rfl) (code := _) (by unfold Tryd.f84; rfl) (by kernel_rfl) (by decide) (fun _ => ⟨(), trivial⟩) (by intro h; first | exact fun _ => rfl | cases h) (by kernel_rfl) ?_
  intro (a : List Str) ha
  replace ha : a.length ≤ 1048576 := ha
  simp -implicitDefEqProofs [vc_skip, extOf, vc_seq, vc_cond, vc_block, vc_exit, vc_ret, vc_region, vc_regionD, vc_loop, kSeq_normal, kSeq_ret, kSeq_exit, kBlock_normal, kBlock_ret, kBlock_exit, kLoop_normal, kLoop_ret, kLoop_exit, kCond_bool, kNorm_app, vcOps_nil, vcOps_cons, kOps_app, kStep_some, kStep_none, vcDL_nil, vcDL_cons, kOpsD_app, kStepD_true, kStepD_tt, kStepD_false, ldB, btys, btyAct, kStepC_some, kStepC_none, kMv_app, act3_store, act3_call, act3_bs, kAct_app, kSt2_app, stealSlots, stealL, stealOne, subIn, AV.stolen, act_store, act_bs, act_append, act_call, kSet_app, kSet2_app, kSetG_app, kSetG_app0, kStore_ptr, kStore_eptr, kCallW_some, kCallC_some, kCall_some, wk_T, wk_n, wk_keep, wk_inv, wk_act, wk_dr, wk_le, aCalm, wantC, dstOk, calm, aCallK, aCall3K, subOf, subRep, aCall2K, apnd, bsMove, putBox, putOwn, partAV, mvL, AV.mv, AV.base, AV.moved, kBld, bldK, wrK, stK, AV.selfOk, AV.src, TI.flat, apSize, pickAV, St.val, St.cond, St.fn, St.next, St.set, St.trim, wipe_eq, wipeE_app, wipeM_app, pickEnv, get?, cGet, upd_app, withPuts, killAll, rm, freshP, Oper.hnd, Sc.st, ofConst, constOk, lenAV, elemLen, loadAV, ldL, ld1, fieldAddrAV, indexAddrAV, sliceAV, convAV, buildAV, fillAV, fieldAV, Out.of, binAV, AV.rows, AV.one, AV.cells, AV.deepOk, AV.toD, toDs, partRows, partRowsM, partsDeep, TK.zeroAV, TK.zeroD, byteOf, inR, Op.operands, Call.operands, passVs, passV, passL, pass1, passB, pasVs, pasV, pasL, pas1, ownsOk, okHs, okHs2, okFin, finOk2, rho, over, backRes, backAV, backAV1, backBlk, putBack, back2, back2_V, back2_1, m2, AV.wipe, AV.wipeV, AV.wipe1, Blk.wipe, AV.hs, AV.hs.hsL, alOps, Con.start2, Con.pk, bodyQ, fini, resAV, resA, firstId, Sc.from, renEnv, renT, renV, renVs, renL, ren1, renBox, renOwn, okRen, clOf, actB, setRow, flatRows, flatD, noInv, shr_nil, shr_some, kStepF_some, shareL, AV.viewed, AV.viewed1, cCopyText, Con.fn, tTab]
  try dsimp only
  try simp +contextual [eStr, eFile, cast_succ, cast_eq, cast_zero, List.getElem?_eq_getElem, eStrs_set, eFiles_set, eStrs_rep, eFiles_rep, ← eStrs_append, ← eFiles_append, eStrs_take, eStrs_drop, eFiles_take, eFiles_drop, eStrs_snoc, eFiles_snoc, and_assoc]
  repeat' (first | intro _ | apply And.intro)
  all_goals first | omega | grind [all_take, eStrs_str]

def cL4Copy : Con := .fn 29 (List FileD) (fun a => [.sl true 2 (eFiles a)]) (fun a => a.length ≤ 1048576 ∧ ∀ f ∈ a, f.text.length ≤ 1048576) (fun a => .own 8 2 (eFiles a)) (fun a => ownFiles 8 a)
set_option maxHeartbeats 4000000 in
theorem l4Copy_has : Has Tryd.prog 92 cL4Copy := by
  refine has_walk mixed tTab_ok (l := []) HasL.nil [0, 2, 3, 4] ((fun a n (_ : Nat) => (fun a _ => ⟨Nat, fun i => ⟨[(0, true, .sl true 2 (eFiles a)), (2, true, .nil), (3, true, .own 9 2 (eFiles (a.take i))), (4, true, .int .i64 i)], ownFiles 9 (a.take i)⟩, fun i => i ≤ a.length, fun i => a.length - i⟩) a n)) [26] Tryd.func92 (by kernel_rfl) (code := _) (by unfold Tryd.f92; rfl) (by kernel_rfl) (by decide) (fun _ => ⟨(), trivial⟩) (by intro h; first | exact fun _ => rfl | cases h) (by kernel_rfl) ?_
  intro (a : List FileD) ha
  obtain ⟨h1, h2⟩ : a.length ≤ 1048576 ∧ ∀ f ∈ a, f.text.length ≤ 1048576 := ha
  have h3 : ∀ i (h : i < a.length), a[i].text.length ≤ 1048576 := fun i h => h2 _ (List.getElem_mem h)
  simp -implicitDefEqProofs [vc_skip, extOf, vc_seq, vc_cond, vc_block, vc_exit, vc_ret, vc_region, vc_regionD, vc_loop, kSeq_normal, kSeq_ret, kSeq_exit, kBlock_normal, kBlock_ret, kBlock_exit, kLoop_normal, kLoop_ret, kLoop_exit, kCond_bool, kNorm_app, vcOps_nil, vcOps_cons, kOps_app, kStep_some, kStep_none, vcDL_nil, vcDL_cons, kOpsD_app, kStepD_true, kStepD_tt, kStepD_false, ldB, btys, btyAct, kStepC_some, kStepC_none, kMv_app, act3_store, act3_call, act3_bs, kAct_app, kSt2_app, stealSlots, stealL, stealOne, subIn, AV.stolen, act_store, act_bs, act_append, act_call, kSet_app, kSet2_app, kSetG_app, kSetG_app0, kStore_ptr, kStore_eptr, kCallW_some, kCallC_some, kCall_some, wk_T, wk_n, wk_keep, wk_inv, wk_act, wk_dr, wk_le, aCalm, wantC, dstOk, calm, aCallK, aCall3K, subOf, subRep, aCall2K, apnd, bsMove, putBox, putOwn, partAV, mvL, AV.mv, AV.base, AV.moved, kBld, bldK, wrK, stK, AV.selfOk, AV.src, TI.flat, apSize, pickAV, St.val, St.cond, St.fn, St.next, St.set, St.trim, wipe_eq, wipeE_app, wipeM_app, pickEnv, get?, cGet, upd_app, withPuts, killAll, rm, freshP, Oper.hnd, Sc.st, ofConst, constOk, lenAV, elemLen, loadAV, ldL, ld1, fieldAddrAV, indexAddrAV, sliceAV, convAV, buildAV, fillAV, fieldAV, Out.of, binAV, AV.rows, AV.one, AV.cells, AV.deepOk, AV.toD, toDs, partRows, partRowsM, partsDeep, TK.zeroAV, TK.zeroD, byteOf, inR, Op.operands, Call.operands, passVs, passV, passL, pass1, passB, pasVs, pasV, pasL, pas1, ownsOk, okHs, okHs2, okFin, finOk2, rho, over, backRes, backAV, backAV1, backBlk, putBack, back2, back2_V, back2_1, m2, AV.wipe, AV.wipeV, AV.wipe1, Blk.wipe, AV.hs, AV.hs.hsL, alOps, Con.start2, Con.pk, bodyQ, fini, resAV, resA, firstId, Sc.from, renEnv, renT, renV, renVs, renL, ren1, renBox, renOwn, okRen, clOf, actB, setRow, flatRows, flatD, noInv, shr_nil, shr_some, kStepF_some, shareL, AV.viewed, AV.viewed1, cL4Copy, Con.fn, tTab]
  try dsimp only
  try simp +contextual [eStr, eFile, cast_succ, cast_eq, cast_zero, List.getElem?_eq_getElem, eStrs_set, eFiles_set, eStrs_rep, eFiles_rep, ← eStrs_append, ← eFiles_append, eStrs_take, eStrs_drop, eFiles_take, eFiles_drop, eStrs_snoc, eFiles_snoc, and_assoc, ← FileD.eq_iff]
  repeat' (first | intro _ | apply And.intro)
  all_goals first | omega | grind [all_take, eStrs_str, List.take_of_length_le, List.take_succ_eq_append_getElem]

def filB (p : FileD → Bool) (t : List FileD) : List FileD := t.filter p
theorem fil_hit {p : FileD → Bool} {t : List FileD} {i : Nat} (h : i < t.length) (hp : p t[i] = true) : filB p (t.take (i + 1)) = filB p (t.take i) ++ [t[i]] := by
  unfold filB
  rw [take_succ' h, List.filter_append]
  simp [List.filter_cons, hp]
theorem fil_miss {p : FileD → Bool} {t : List FileD} {i : Nat} (h : i < t.length) (hp : p t[i] = false) : filB p (t.take (i + 1)) = filB p (t.take i) := by
  unfold filB
  rw [take_succ' h, List.filter_append]
  simp [List.filter_cons, hp]
theorem fil_le (p : FileD → Bool) (t : List FileD) (i : Nat) : (filB p (t.take i)).length ≤ i := by
  have := List.length_filter_le p (t.take i)
  unfold filB
  simp at this; omega
theorem fil_nil (p : FileD → Bool) : filB p [] = [] := rfl

/-- A copy whose texts have gone, where p holds, ahead of i. -/
def goneR (p : FileD → Bool) (t : List FileD) (i : Nat) : List (List D) := (t.take i).map (fun f => if p f then [.str f.path, .junk] else eFile f) ++ eFiles (t.drop i)
theorem goneR_len (p : FileD → Bool) (t : List FileD) (i : Nat) : (goneR p t i).length = t.length := by simp [goneR]; omega
theorem goneR_zero (p : FileD → Bool) (t : List FileD) : goneR p t 0 = eFiles t := by simp [goneR]
theorem goneR_get {p : FileD → Bool} {t : List FileD} {i : Nat} (h : i < t.length) : (goneR p t i)[i]? = some (eFile t[i]) := by
  unfold goneR
  rw [List.getElem?_append_right (by simp; omega), List.length_map, List.length_take, Nat.min_eq_left (by omega), Nat.sub_self, eFiles_get, List.drop_eq_getElem_cons h]
  rfl
theorem goneR_miss {p : FileD → Bool} {t : List FileD} {i : Nat} (h : i < t.length) (hp : p t[i] = false) : goneR p t (i + 1) = goneR p t i := by
  unfold goneR
  rw [take_succ' h, List.map_append, List.drop_eq_getElem_cons h]
  simp only [List.map_cons, List.map_nil, hp, Bool.false_eq_true, if_false, eFiles, List.append_assoc, List.cons_append, List.nil_append]
theorem goneR_hit {p : FileD → Bool} {t : List FileD} {i : Nat} (h : i < t.length) (hp : p t[i] = true) : (goneR p t i).set i [.str t[i].path, .junk] = goneR p t (i + 1) := by
  unfold goneR
  rw [take_succ' h, List.map_append]
  rw [List.set_append_right _ _ (by simp; omega), List.length_map, List.length_take, Nat.min_eq_left (by omega), Nat.sub_self, List.drop_eq_getElem_cons h]
  simp only [List.map_cons, List.map_nil, hp, if_true, eFiles, List.append_assoc, List.cons_append, List.nil_append, List.set_cons_zero]

def viewOfI (t : List FileD) (l : List Str) : List FileD := if treeI t && viewI l then filB (fun f => visB f l) t else []
end Vx
end Go.Proofs.YthmhaggmcfemnaaDoor
/-
  strings.Builder: the library's text, walked: copyCheck, WriteString, String.
-/
set_option linter.unusedVariables false
set_option linter.unusedSimpArgs false
namespace Go.Proofs.YthmhaggmcfemnaaDoor
namespace Vx
open Go.RowKit Go.Lib

set_option maxHeartbeats 1000000 in
set_option maxRecDepth 100000 in
theorem bld_used (b : Nat) (w : World) (h0 : w.cell? ⟨b, 0, none⟩ = some (.pointer (some ⟨b, 0, none⟩))) :
    Calls Tryd.prog 95 #[.pointer (some ⟨b, 0, none⟩)] w fun e w' => e = .returned (.tuple #[]) ∧ w' = w := by
  obtain ⟨j, hj, _⟩ := Option.map_eq_some_iff.1 (show (Tryd.prog.info? 87).map (·.size) = some 2 by kernel_rfl)
  have u1 : Tryd.prog.underlying 85 = some (.pointer 87) := by kernel_rfl
  go_enter Tryd.func95, Tryd.ntmps95
  go_wp2
  rw [Lib.run_neq_ptr_same w _ u1 hj]
  go_wp2
  go_end0
  exact ⟨rfl, rfl⟩

set_option maxHeartbeats 1000000 in
set_option maxRecDepth 100000 in
theorem bld_fresh (b : Nat) (w : World) (h0 : w.cell? ⟨b, 0, none⟩ = some (.pointer none)) (hsh : w.shape? b = some (87, 2)) (hfz : w.frozen? ⟨b, 0, none⟩ = false) :
    Calls Tryd.prog 95 #[.pointer (some ⟨b, 0, none⟩)] w fun e w' => e = .returned (.tuple #[]) ∧ w' = w.setCell ⟨b, 0, none⟩ (.pointer (some ⟨b, 0, none⟩)) := by
  obtain ⟨j, hj, hjs⟩ := Option.map_eq_some_iff.1 (show (Tryd.prog.info? 87).map (·.size) = some 2 by kernel_rfl)
  have hlies : liesAt Tryd.prog Tryd.prog.depth 87 (2 / Tryd.prog.cellsOf 87) 0 87 1 = true := by kernel_rfl
  have u1 : Tryd.prog.underlying 85 = some (.pointer 87) := by kernel_rfl
  have u2 : Tryd.prog.underlying 129 = some .unsafePointer := by kernel_rfl
  go_enter Tryd.func95, Tryd.ntmps95
  go_wp2
  rw [Lib.run_to_unsafe w ⟨b, 0, none⟩ u1 u2 hj (by rw [hjs]; decide) hsh (Nat.zero_lt_succ 1)]
  simp only [Result.andThen]
  rw [Oper.upon_value]
  go_wp2
  rw [run_callFunc_extern Tryd.func108 (by kernel_rfl) (by kernel_rfl) (by kernel_rfl) (e := Extern.AbiNoEscape.same) (by kernel_rfl)]
  rw [Lib.run_noEscape]
  simp only [Result.andThen]
  rw [Oper.upon_value]
  go_wp2
  rw [Lib.run_from_unsafe w ⟨b, 0, none⟩ u2 u1 hj hsh hlies]
  simp only [Result.andThen]
  rw [Oper.upon_value]
  go_wp2
  go_end0
  exact ⟨rfl, rfl⟩

set_option maxHeartbeats 2000000 in
set_option maxRecDepth 100000 in
theorem bld_write (w w1 w2 : World) (b : Nat) (pv v v' v2 : Value) (s : ByteArray) (hb : w.heap[b]? = some (.cells #[pv, v] 87 (0, 0)))
    (hw1 : (pv = .pointer none ∧ w1 = w.setCell ⟨b, 0, none⟩ (.pointer (some ⟨b, 0, none⟩))) ∨ (pv = .pointer (some ⟨b, 0, none⟩) ∧ w1 = w)) (hb1 : w1.heap[b]? = some (.cells #[.pointer (some ⟨b, 0, none⟩), v] 87 (0, 0)))
    (hap : (Builtin.append_ #[46, 9] 46 #[v, .string s]).run Tryd.prog w1 = .ok v' w2) (hb2 : w2.heap[b]? = some (.cells #[.pointer (some ⟨b, 0, none⟩), v2] 87 (0, 0))) (hv : ∃ ao n cp, v = .slice ao n cp) (hv' : ∃ ao n cp, v' = .slice ao n cp) :
    Calls Tryd.prog 64 #[.pointer (some ⟨b, 0, none⟩), .string s] w fun e w' => e = .returned (.tuple #[.int .i64 s.size, .nilIface]) ∧ w' = w2.setCell ⟨b, 1, none⟩ v' := by
  obtain ⟨ao, n', cap, rfl⟩ := hv'
  obtain ⟨ao0, n0, cap0, rfl⟩ := hv
  have e158 : ∀ args w, (callFunc 95 args).run Tryd.prog w = .ok (.enter 95 args) w := fun args w => Go.MuLone.run_callFunc_enter Tryd.func95 (by kernel_rfl) rfl args w
  have hcc : Calls Tryd.prog 95 #[.pointer (some ⟨b, 0, none⟩)] w fun e w' => e = .returned (.tuple #[]) ∧ w' = w1 := by
    rcases hw1 with ⟨rfl, rfl⟩ | ⟨rfl, rfl⟩
    · exact bld_fresh b w (by rw [Lib.cell_of_heap hb]; rfl) (by simp [World.shape?, hb]) (Lib.frozen_of_heap hb 0)
    · exact bld_used b w1 (by rw [Lib.cell_of_heap hb]; rfl)
  have c1 : w1.cell? ⟨b, 1, none⟩ = some (.slice ao0 n0 cap0) := by rw [Lib.cell_of_heap hb1]; rfl
  have d1 : w2.cell? ⟨b, 1, none⟩ = some v2 := by rw [Lib.cell_of_heap hb2]; rfl
  have f1 : w2.frozen? ⟨b, 1, none⟩ = false := Lib.frozen_of_heap hb2 1
  go_enter Tryd.func64, Tryd.ntmps64
  go_wp2_with (go_at_fn 95; refine hcc.mono ?_)
  rintro e w1' ⟨rfl, rfl⟩
  go_wp2_with (at_builtin; refine Lib.wpList_append_run _ rfl _ _ _ _ rfl _ _ rfl rfl _ _ hap ?_)
  go_wp2
  go_ret2
  exact ⟨rfl, rfl⟩

set_option maxHeartbeats 2000000 in
set_option maxRecDepth 100000 in
theorem bld_string_nil (w : World) (b : Nat) (pv : Value) (hb : w.heap[b]? = some (.cells #[pv, .slice none 0 0] 87 (0, 0))) :
    Calls Tryd.prog 66 #[.pointer (some ⟨b, 0, none⟩)] w fun e w' => e = .returned (.string ⟨#[]⟩) ∧ w' = w.drew := by
  have hUS : ∀ (W : World) (q : Option Addr), (Builtin.unsafeString_ #[120, 3] 9 #[.pointer q, .int .i64 0]).run Tryd.prog W = .ok (.string .empty) W := fun W q => Lib.run_unsafeString_none W _ _ _ q
  have c1 : w.drew.cell? ⟨b, 1, none⟩ = some (.slice none 0 0) := by
    have : w.drew.heap[b]? = some (.cells #[pv, .slice none 0 0] 87 (0, 0)) := hb
    rw [Lib.cell_of_heap this]; rfl
  have hSD : (Builtin.unsafeSliceData_ #[46] 120 #[.slice none 0 0]).run Tryd.prog w.drew = .ok (.pointer none) w.drew := rfl
  have mixed : Tryd.prog.follows .mixedOrders = true := mixed
  go_enter Tryd.func66, Tryd.ntmps66
  go_wp2
  go_region_o
  all_goals (go_wp2; go_ret; exact ⟨rfl, rfl⟩)

set_option maxHeartbeats 2000000 in
set_option maxRecDepth 100000 in
theorem bld_string (w : World) (b g cap : Nat) (pv : Value) (cs : Array Value) (l : List UInt8) (hb : w.heap[b]? = some (.cells #[pv, .slice (some ⟨g, 0, none⟩) l.length cap] 87 (0, 0))) (hg : w.heap[g]? = some (.cells cs 5 (0, 0)))
    (hlc : l.length ≤ cs.size) (h63 : l.length ≤ 9223372036854775807) (h0 : l ≠ []) (hcap : cap ≠ 0) (hcell : ∀ (j : Nat) x, l[j]? = some x → cs[j]? = some (.int .u8 x.toNat)) :
    Calls Tryd.prog 66 #[.pointer (some ⟨b, 0, none⟩)] w fun e w' => e = .returned (.string ⟨l.toArray⟩) ∧ w' = w.drew.freeze ⟨g, 0, none⟩ l.length := by
  have c1 : w.drew.cell? ⟨b, 1, none⟩ = some (.slice (some ⟨g, 0, none⟩) l.length cap) := by
    have : w.drew.heap[b]? = some (.cells #[pv, .slice (some ⟨g, 0, none⟩) l.length cap] 87 (0, 0)) := hb
    rw [Lib.cell_of_heap this]; rfl
  have hSD : (Builtin.unsafeSliceData_ #[46] 120 #[.slice (some ⟨g, 0, none⟩) l.length cap]).run Tryd.prog w.drew = .ok (.pointer (some ⟨g, 0, none⟩)) w.drew :=
    Lib.run_unsafeSliceData_row _ _ _ _ _ _ hcap
  have hUS : (Builtin.unsafeString_ #[120, 3] 9 #[.pointer (some ⟨g, 0, none⟩), .int .i64 l.length]).run Tryd.prog w.drew = .ok (.string ⟨l.toArray⟩) (w.drew.freeze ⟨g, 0, none⟩ l.length) := by
    have hg' : w.drew.heap[g]? = some (.cells cs 5 (0, 0)) := hg
    refine Lib.run_unsafeString_row w.drew 120 3 9 5 (by kernel_rfl) (by kernel_rfl) g cs.size (by simp [World.shape?, hg']) l h0 hlc h63 ?_
    intro j x hx
    rw [Addr.add_lit]
    simp only [Nat.zero_add]
    rw [World.cell_of hg']
    exact hcell j x hx
  have mixed : Tryd.prog.follows .mixedOrders = true := mixed
  clear hcap hcell h0
  go_enter Tryd.func66, Tryd.ntmps66
  go_wp2
  go_region_o
  all_goals (go_wp2; go_ret; exact ⟨rfl, rfl⟩)
set_option maxHeartbeats 2000000 in
set_option maxRecDepth 100000 in
theorem bld_string_room (w : World) (b g cap : Nat) (pv : Value) (hb : w.heap[b]? = some (.cells #[pv, .slice (some ⟨g, 0, none⟩) 0 cap] 87 (0, 0))) (hcap : cap ≠ 0) :
    Calls Tryd.prog 66 #[.pointer (some ⟨b, 0, none⟩)] w fun e w' => e = .returned (.string ⟨#[]⟩) ∧ w' = w.drew := by
  have hUS : ∀ (W : World) (q : Option Addr), (Builtin.unsafeString_ #[120, 3] 9 #[.pointer q, .int .i64 0]).run Tryd.prog W = .ok (.string .empty) W := fun W q => Lib.run_unsafeString_none W _ _ _ q
  have c1 : w.drew.cell? ⟨b, 1, none⟩ = some (.slice (some ⟨g, 0, none⟩) 0 cap) := by
    have : w.drew.heap[b]? = some (.cells #[pv, .slice (some ⟨g, 0, none⟩) 0 cap] 87 (0, 0)) := hb
    rw [Lib.cell_of_heap this]; rfl
  have hSD : (Builtin.unsafeSliceData_ #[46] 120 #[.slice (some ⟨g, 0, none⟩) 0 cap]).run Tryd.prog w.drew = .ok (.pointer (some ⟨g, 0, none⟩)) w.drew :=
    Lib.run_unsafeSliceData_row _ _ _ _ _ _ hcap
  have mixed : Tryd.prog.follows .mixedOrders = true := mixed
  clear hcap
  go_enter Tryd.func66, Tryd.ntmps66
  go_wp2
  go_region_o
  all_goals (go_wp2; go_ret; exact ⟨rfl, rfl⟩)

set_option maxHeartbeats 2000000 in
set_option maxRecDepth 100000 in
theorem bld_string_noroom (w : World) (b g : Nat) (pv : Value) (cs : Array Value) (hb : w.heap[b]? = some (.cells #[pv, .slice (some ⟨g, 0, none⟩) 0 0] 87 (0, 0))) (hg : w.heap[g]? = some (.cells cs 5 (0, 0))) :
    Calls Tryd.prog 66 #[.pointer (some ⟨b, 0, none⟩)] w fun e w' => e = .returned (.string ⟨#[]⟩) ∧ (w' = w.drew.alloc (.view ⟨g, 0, none⟩ 5) ∨ w' = (w.alloc (.view ⟨g, 0, none⟩ 5)).drew) := by
  have hUS : ∀ (W : World) (q : Option Addr), (Builtin.unsafeString_ #[120, 3] 9 #[.pointer q, .int .i64 0]).run Tryd.prog W = .ok (.string .empty) W := fun W q => Lib.run_unsafeString_none W _ _ _ q
  have hlt : b < w.heap.size := by
    rcases Nat.lt_or_ge b w.heap.size with h' | h'
    · exact h'
    · simp [Array.getElem?_eq_none h'] at hb
  have c1 : w.drew.cell? ⟨b, 1, none⟩ = some (.slice (some ⟨g, 0, none⟩) 0 0) := by
    have : w.drew.heap[b]? = some (.cells #[pv, .slice (some ⟨g, 0, none⟩) 0 0] 87 (0, 0)) := hb
    rw [Lib.cell_of_heap this]; rfl
  have hSD : (Builtin.unsafeSliceData_ #[46] 120 #[.slice (some ⟨g, 0, none⟩) 0 0]).run Tryd.prog w.drew = .ok (.pointer (some ⟨w.drew.heap.size, 0, none⟩)) (w.drew.alloc (.view ⟨g, 0, none⟩ 5)) :=
    Lib.run_unsafeSliceData_zero w.drew _ _ 5 (by kernel_rfl) ⟨g, 0, none⟩ 0 (5, cs.size) (by have hg' : w.drew.heap[g]? = some (.cells cs 5 (0, 0)) := hg; simp [World.shape?, hg'])
  have c2 : (w.drew.alloc (.view ⟨g, 0, none⟩ 5)).cell? ⟨b, 1, none⟩ = some (.slice (some ⟨g, 0, none⟩) 0 0) := by
    have : (w.drew.alloc (.view ⟨g, 0, none⟩ 5)).heap[b]? = _ := (Lib.alloc_old w.drew _ b hlt).trans hb
    rw [Lib.cell_of_heap this]; rfl
  have c3 : (w.alloc (.view ⟨g, 0, none⟩ 5)).drew.cell? ⟨b, 1, none⟩ = some (.slice (some ⟨g, 0, none⟩) 0 0) := c2
  have c0 : w.cell? ⟨b, 1, none⟩ = some (.slice (some ⟨g, 0, none⟩) 0 0) := c1
  have mixed : Tryd.prog.follows .mixedOrders = true := mixed
  go_enter Tryd.func66, Tryd.ntmps66
  go_wp2
  go_region_o
  all_goals (go_wp2; go_ret; exact ⟨rfl, by first | exact .inl rfl | exact .inr rfl⟩)

end Vx
end Go.Proofs.YthmhaggmcfemnaaDoor
/-
  Contracts: strings.Builder; trees written by the program (treePut, TreePut).
-/
namespace Go.Proofs.YthmhaggmcfemnaaDoor
namespace Vx
open Go.RowKit
set_option maxRecDepth 8000

def tTabS : List (Nat × TI) := (87, ⟨true, [.oth (.pointer none), .sl 5 1], 32, [(85, 0), (46, 1)], 0⟩) :: tTab
theorem tTabS_ok : ∀ t ti, get? tTabS t = some ti → TOk Tryd.prog t ti := tabChk_ok (by kernel_rfl)
def cWrite : Con := { A := Unit, X := Unit, n := 19, args := fun _ => [], boxes := fun _ => [], pre := fun _ => False, post := fun _ _ => True, res := fun _ _ => .junk, fin := fun _ _ => [], mv := true, bld := (1, 87, 46, 9) }
theorem write_has : Has Tryd.prog 64 cWrite :=
  ⟨fun args w => Go.MuLone.run_callFunc_enter Tryd.func64 (by kernel_rfl) rfl args w, fun _ => ⟨(), trivial⟩, fun _ _ => rfl, fun _ h => h.elim,
    ⟨(by kernel_rfl), fun w w1 w2 b pv v v' v2 s h1 h2 h3 h4 h5 h6 h7 => bld_write w w1 w2 b pv v v' v2 s h1 h2 h3 h4 h5 h6 h7⟩, .inl rfl⟩
def cBStr : Con := { A := Unit, X := Unit, n := 14, args := fun _ => [], boxes := fun _ => [], pre := fun _ => False, post := fun _ _ => True, res := fun _ _ => .junk, fin := fun _ _ => [], mv := true, bld := (2, 87, 5, 0) }
theorem bStr_has : Has Tryd.prog 66 cBStr := by
  refine ⟨fun args w => Go.MuLone.run_callFunc_enter Tryd.func66 (by kernel_rfl) rfl args w, fun _ => ⟨(), trivial⟩, fun _ _ => rfl, fun _ h => h.elim, ?_, .inl rfl⟩
  intro w b pv v l hb hv
  rcases hv with ⟨rfl, rfl⟩ | ⟨g, cap, cs, rfl, hg, h1, h2, h3, h4⟩
  · refine (bld_string_nil w b pv hb).mono ?_
    rintro e w' ⟨rfl, rfl⟩
    exact ⟨rfl, Nat.le_refl _, rfl, rfl, rfl, fun x _ => .inl rfl⟩
  · have hgl : g < w.heap.size := (Array.getElem?_eq_some_iff.1 hg).1
    by_cases h0 : l = []
    · subst h0
      by_cases hc : cap = 0
      · subst hc
        refine (bld_string_noroom w b g pv cs hb hg).mono ?_
        rintro e w' ⟨rfl, hw⟩
        have hw' : w'.heap = w.heap.push (.view ⟨g, 0, none⟩ 5) ∧ w'.os = w.os ∧ w'.tape = w.tape ∧ w'.output = w.output := by
          rcases hw with rfl | rfl <;> exact ⟨rfl, rfl, rfl, rfl⟩
        obtain ⟨z1, z2, z3, z4⟩ := hw'
        exact ⟨rfl, by rw [z1]; simp, z2, z3, z4, fun x hx => .inl (by rw [z1, Array.getElem?_push]; simp -implicitDefEqProofs [Nat.ne_of_lt hx])⟩
      · refine (bld_string_room w b g cap pv hb hc).mono ?_
        rintro e w' ⟨rfl, rfl⟩
        exact ⟨rfl, Nat.le_refl _, rfl, rfl, rfl, fun x _ => .inl rfl⟩
    · have hl : 0 < l.length := List.length_pos_iff.2 h0
      refine (bld_string w b g cap pv cs l hb hg h1 (by unfold maxLen at h3; omega) h0 (by omega) h4).mono ?_
      rintro e w' ⟨rfl, rfl⟩
      have hn : ¬ l.length = 0 := by omega
      have hh : (w.drew.freeze ⟨g, 0, none⟩ l.length).heap.size = w.heap.size ∧ ∀ x, (w.drew.freeze ⟨g, 0, none⟩ l.length).heap[x]? = if g = x then (w.heap[x]?).map (fun o => match o with | .cells c elem (lo, hi) => .cells c elem (if lo == hi then (0, 0 + l.length) else (min lo 0, max hi (0 + l.length))) | o => o) else w.heap[x]? := by
        unfold World.freeze
        rw [if_neg hn]
        exact ⟨by simp only [Array.size_modify]; rfl, fun x => by simp only [Array.getElem?_modify]; rfl⟩
      refine ⟨rfl, Nat.le_of_eq hh.1.symm, by unfold World.freeze; rw [if_neg hn]; rfl, by unfold World.freeze; rw [if_neg hn]; rfl, by unfold World.freeze; rw [if_neg hn]; rfl, fun x hx => ?_⟩
      rw [hh.2 x]
      by_cases e : g = x
      · subst e
        rw [if_pos rfl, hg]
        exact .inr ⟨_, _, _, _, rfl, rfl, rfl⟩
      · rw [if_neg e]; exact .inl rfl

def bBld (x : Str) : Blk := .box 87 [.slf 10, .own 11 1 (eBytes x)]
def oBld (x : Str) : Blk := .own 5 1 true (eBytes x)
def ptO (t : List FileD) : Inv := ⟨Nat, fun i => ⟨[(2, true, .str []), (3, true, .ptr 10 0), (8, true, .sl true 2 (eFiles t)), (9, true, .int .i64 t.length), (10, true, .int .i64 i)], [(10, .box 87 [.slf 10, .own 11 1 (eBytes (treeT (t.take i)))]), (11, .own 5 1 true (eBytes (treeT (t.take i))))]⟩, fun i => i ≤ t.length, fun i => t.length - i⟩
def ptI (t : List FileD) (g : Nat) : Inv := ⟨Nat, fun k => ⟨[(2, true, .str []), (3, true, .ptr 10 0), (8, true, .sl true 2 (eFiles t)), (9, true, .int .i64 t.length), (10, true, .int .i64 g), (26, true, .sl true 1 (eStrs (t.getD g default).text)), (27, true, .int .i64 (t.getD g default).text.length), (28, true, .int .i64 k)],
  [(10, .box 87 [.slf 10, .own 11 1 (eBytes (treeT (t.take g) ++ fileH (t.getD g default) ++ linesT ((t.getD g default).text.take k)))]), (11, .own 5 1 true (eBytes (treeT (t.take g) ++ fileH (t.getD g default) ++ linesT ((t.getD g default).text.take k))))]⟩,
  fun k => g < t.length ∧ k ≤ (t.getD g default).text.length, fun k => (t.getD g default).text.length - k⟩
def ptInv (t : List FileD) (n g : Nat) : Inv := if n = 3 then ptO t else ptI t g
theorem ptInv_3 (t : List FileD) (g : Nat) : ptInv t 3 g = ptO t := rfl
theorem ptInv_7 (t : List FileD) (g : Nat) : ptInv t 7 g = ptI t g := rfl
theorem rowsOf_eq (q : List UInt8) : rowsOf q = eBytes q := rfl
--TAB tTabS
def cTreePutT : Con := .fn 38 (List FileD) (fun t => [.sl true 2 (eFiles t)]) okT (fun t => .str (treeT t)) (fun _ => [])
set_option maxHeartbeats 4000000 in
theorem treePutT_has : Has Tryd.prog 30 cTreePutT := by
  refine has_walk mixed tTabS_ok (l := [(65, cItoa), (64, cWrite), (66, cBStr)]) (HasL.cons itoa_has (HasL.cons write_has (HasL.cons bStr_has HasL.nil))) [0, 2, 3, 5, 7, 8, 9, 10, 26, 27, 28] (fun t => ptInv t) [] Tryd.func30 (by kernel_rfl) (code := _) (by unfold Tryd.f30; rfl) (by kernel_rfl) (by decide) (fun _ => ⟨(), trivial⟩) (by intro h; first | exact fun _ => rfl | cases h) (by kernel_rfl) ?_
  intro (t : List FileD) ht
  have hb := okT_take ht
  obtain ⟨ht1, ht2⟩ : t.length ≤ 8 ∧ ∀ f ∈ t, f.path.length ≤ 1048576 ∧ f.text.length ≤ 64 ∧ ∀ s ∈ f.text, s.length ≤ 12 := ht
  simp -implicitDefEqProofs [vc_skip, extOf, vc_seq, vc_cond, vc_block, vc_exit, vc_ret, vc_region, vc_regionD, vc_loop, kSeq_normal, kSeq_ret, kSeq_exit, kBlock_normal, kBlock_ret, kBlock_exit, kLoop_normal, kLoop_ret, kLoop_exit, kCond_bool, kNorm_app, vcOps_nil, vcOps_cons, kOps_app, kStep_some, kStep_none, vcDL_nil, vcDL_cons, kOpsD_app, kStepD_true, kStepD_tt, kStepD_false, ldB, btys, btyAct, kStepC_some, kStepC_none, kMv_app, act3_store, act3_call, act3_bs, kAct_app, kSt2_app, stealSlots, stealL, stealOne, subIn, AV.stolen, act_store, act_bs, act_append, act_call, kSet_app, kSet2_app, kSetG_app, kSetG_app0, kStore_ptr, kStore_eptr, kCallW_some, kCallC_some, kCall_some, wk_T, wk_n, wk_keep, wk_inv, wk_act, wk_dr, wk_le, aCalm, wantC, dstOk, calm, aCallK, aCall3K, subOf, subRep, aCall2K, apnd, bsMove, putBox, putOwn, partAV, mvL, AV.mv, AV.base, AV.moved, kBld, bldK, wrK, stK, AV.selfOk, AV.src, TI.flat, apSize, pickAV, St.val, St.cond, St.fn, St.next, St.set, St.trim, wipe_eq, wipeE_app, wipeM_app, pickEnv, get?, cGet, upd_app, withPuts, killAll, rm, freshP, Oper.hnd, Sc.st, ofConst, constOk, lenAV, elemLen, loadAV, ldL, ld1, fieldAddrAV, indexAddrAV, sliceAV, convAV, buildAV, fillAV, fieldAV, Out.of, binAV, AV.rows, AV.one, AV.cells, AV.deepOk, AV.toD, toDs, partRows, partRowsM, partsDeep, TK.zeroAV, TK.zeroD, byteOf, inR, Op.operands, Call.operands, passVs, passV, passL, pass1, passB, pasVs, pasV, pasL, pas1, ownsOk, okHs, okHs2, okFin, finOk2, rho, over, backRes, backAV, backAV1, backBlk, putBack, back2, back2_V, back2_1, m2, AV.wipe, AV.wipeV, AV.wipe1, Blk.wipe, AV.hs, AV.hs.hsL, alOps, Con.start2, Con.pk, bodyQ, fini, resAV, resA, firstId, Sc.from, renEnv, renT, renV, renVs, renL, ren1, renBox, renOwn, okRen, clOf, actB, setRow, flatRows, flatD, noInv, shr_nil, shr_some, kStepF_some, shareL, AV.viewed, AV.viewed1, cTreePutT, Con.fn, tTabS, tTab, cItoa, cWrite, cBStr, ptInv_3, ptInv_7, ptO, ptI, rowsOf_eq]
  try dsimp only
  simp only [and_assoc, exists_eq_left, exists_and_left]
  refine fun _ => ⟨by simp -implicitDefEqProofs [treeT, eBytes], Nat.zero_le _, fun i hi => ⟨fun hlt => ⟨hlt, fun _ => ?_⟩, fun hge => by rw [List.take_of_length_le hge]⟩⟩
  have e3 : Option.map eFile t[i]? = some (eFile t[i]) := by simp -implicitDefEqProofs [List.getElem?_eq_getElem hlt]
  have hf := ht2 _ (List.getElem_mem hlt)
  have hbi := hb i
  have hbj := hb (i + 1)
  rw [treeT_take t i hlt] at hbj
  have hd := decS_len t[i].text.length
  simp only [List.length_append] at hbj
  have hg : t[i]?.getD default = t[i] := by simp -implicitDefEqProofs [hlt]
  have hfl := fileH_len t[i]
  simp -implicitDefEqProofs [e3, eFile, D.asStr, D.asRows, maxLen]
  refine ⟨by omega, fun _ => ⟨by omega, fun _ => ⟨t[i].text.length, rfl, by omega, by omega, fun _ => ⟨by omega, fun _ => ⟨by omega, fun _ => ⟨i, rfl, by rw [hg], by rw [hg], ?_, ?_, hlt, fun k _ hk => ?_⟩⟩⟩⟩⟩⟩
  · rw [hg]; simp -implicitDefEqProofs [fileH, linesT, eBytes]
  · rw [hg]; simp -implicitDefEqProofs [fileH, linesT, eBytes]
  rw [hg] at hk ⊢
  have hlb := linesT_len (t[i].text.take k) (fun s hs => hf.2.2 s (List.mem_of_mem_take hs))
  have hln : (t[i].text.take k).length ≤ 64 := by simp; omega
  refine ⟨fun hk2 => ⟨hk2, fun _ => ?_⟩, fun hk2 => ?_⟩
  · have e5 : Option.map eStr t[i].text[k]? = some (eStr t[i].text[k]) := by simp -implicitDefEqProofs [List.getElem?_eq_getElem hk2]
    have hs := hf.2.2 _ (List.getElem_mem hk2)
    have h6 := linesT_take t[i].text k hk2
    simp -implicitDefEqProofs [e5, eStr]
    have h7 : eBytes (treeT (List.take i t) ++ (fileH t[i] ++ linesT (List.take (k + 1) t[i].text))) = eBytes (treeT (List.take i t) ++ (fileH t[i] ++ linesT (List.take k t[i].text))) ++ eBytes (t[i].text[k] ++ [10]) := by
      rw [h6]; simp -implicitDefEqProofs [eBytes]
    exact ⟨by omega, fun _ => ⟨by omega, by omega, by omega, fun _ _ => ⟨k + 1, by omega, h7, h7.symm, hlt, by omega, by omega⟩⟩⟩
  · have hkk : t[i].text.take k = t[i].text := List.take_of_length_le hk2
    rw [hkk]
    exact ⟨by omega, by omega, fun _ _ => ⟨i + 1, by omega, treeT_take t i hlt, (treeT_take t i hlt).symm, by omega, by omega⟩⟩
def cTreePutI : Con := .fn 8 (List FileD) (fun t => [.sl true 2 (eFiles t)]) (fun t => ∀ f ∈ t, f.path.length ≤ 1048576) (fun t => .str (treePutS t)) (fun _ => [])
set_option maxHeartbeats 4000000 in
theorem treePutI_has : Has Tryd.prog 11 cTreePutI := by
  refine has_walk mixed tTabS_ok (l := [(23, cTreeOk), (30, cTreePutT)]) (HasL.cons treeOk_has (HasL.cons treePutT_has HasL.nil)) [0, 2] ((fun a n (_ : Nat) => (fun _ => noInv) a n)) [] Tryd.func11 (by kernel_rfl) (code := _) (by unfold Tryd.f11; rfl) (by kernel_rfl) (by decide) (fun _ => ⟨(), trivial⟩) (by intro h; first | exact fun _ => rfl | cases h) (by kernel_rfl) ?_
  intro (t : List FileD) ht
  have h1 : treeS t = true → okT t := fun h => okT_of (t := t) h ht
  have h2 : ∀ f ∈ t, f.path.length ≤ 536870912 := fun f hf => by have : f.path.length ≤ 1048576 := ht f hf; omega
  simp -implicitDefEqProofs [vc_skip, extOf, vc_seq, vc_cond, vc_block, vc_exit, vc_ret, vc_region, vc_regionD, vc_loop, kSeq_normal, kSeq_ret, kSeq_exit, kBlock_normal, kBlock_ret, kBlock_exit, kLoop_normal, kLoop_ret, kLoop_exit, kCond_bool, kNorm_app, vcOps_nil, vcOps_cons, kOps_app, kStep_some, kStep_none, vcDL_nil, vcDL_cons, kOpsD_app, kStepD_true, kStepD_tt, kStepD_false, ldB, btys, btyAct, kStepC_some, kStepC_none, kMv_app, act3_store, act3_call, act3_bs, kAct_app, kSt2_app, stealSlots, stealL, stealOne, subIn, AV.stolen, act_store, act_bs, act_append, act_call, kSet_app, kSet2_app, kSetG_app, kSetG_app0, kStore_ptr, kStore_eptr, kCallW_some, kCallC_some, kCall_some, wk_T, wk_n, wk_keep, wk_inv, wk_act, wk_dr, wk_le, aCalm, wantC, dstOk, calm, aCallK, aCall3K, subOf, subRep, aCall2K, apnd, bsMove, putBox, putOwn, partAV, mvL, AV.mv, AV.base, AV.moved, kBld, bldK, wrK, stK, AV.selfOk, AV.src, TI.flat, apSize, pickAV, St.val, St.cond, St.fn, St.next, St.set, St.trim, wipe_eq, wipeE_app, wipeM_app, pickEnv, get?, cGet, upd_app, withPuts, killAll, rm, freshP, Oper.hnd, Sc.st, ofConst, constOk, lenAV, elemLen, loadAV, ldL, ld1, fieldAddrAV, indexAddrAV, sliceAV, convAV, buildAV, fillAV, fieldAV, Out.of, binAV, AV.rows, AV.one, AV.cells, AV.deepOk, AV.toD, toDs, partRows, partRowsM, partsDeep, TK.zeroAV, TK.zeroD, byteOf, inR, Op.operands, Call.operands, passVs, passV, passL, pass1, passB, pasVs, pasV, pasL, pas1, ownsOk, okHs, okHs2, okFin, finOk2, rho, over, backRes, backAV, backAV1, backBlk, putBack, back2, back2_V, back2_1, m2, AV.wipe, AV.wipeV, AV.wipe1, Blk.wipe, AV.hs, AV.hs.hsL, alOps, Con.start2, Con.pk, bodyQ, fini, resAV, resA, firstId, Sc.from, renEnv, renT, renV, renVs, renL, ren1, renBox, renOwn, okRen, clOf, actB, setRow, flatRows, flatD, noInv, shr_nil, shr_some, kStepF_some, shareL, AV.viewed, AV.viewed1, cTreePutI, cTreeOk, cTreePutT, Con.fn, tTabS, tTab]
  try dsimp only
  rw [tree_eq]
  refine ⟨h2, fun h => ?_, fun h => ⟨h1 h, ?_⟩⟩
  · unfold treePutS; rw [h]; rfl
  · unfold treePutS; rw [h]; rfl

end Vx
end Go.Proofs.YthmhaggmcfemnaaDoor
/-
  Contracts: lines read (linesOf, readFiles, l1Num, l24Rd).
-/
namespace Go.Proofs.YthmhaggmcfemnaaDoor
namespace Vx
open Go.RowKit
set_option maxRecDepth 8000

def tTabR : List (Nat × TI) := (68, ⟨true, [.sl 9 1, .int .i64, .bool], 40, [(52, 0), (3, 1), (4, 2)], 0⟩) :: tTab
theorem tTabR_ok : ∀ t ti, get? tTabR t = some ti → TOk Tryd.prog t ti := tabChk_ok (by kernel_rfl)
--TAB tTabR
def cLinesOf : Con := .fn 21 Str (fun s => [.str s]) (fun s => s.length ≤ 1073741824) (fun s => .tup [.sl false 1 (eStrs (linesI s).1), .bool (linesI s).2]) (fun _ => [])
set_option maxHeartbeats 4000000 in
theorem linesOf_has : Has Tryd.prog 44 cLinesOf := by
  refine has_walk mixed tTabR_ok (l := [(82, cSplit)]) (HasL.cons split_has HasL.nil) [0, 2, 3, 4, 5] ((fun a n (_ : Nat) => (fun _ => noInv) a n)) [] Tryd.func44 (by kernel_rfl) (code := _) (by unfold Tryd.f44; rfl) (by kernel_rfl) (by decide) (fun _ => ⟨(), trivial⟩) (by intro h; first | exact fun _ => rfl | cases h) (by kernel_rfl) ?_
  intro (s : Str) (hs : s.length ≤ 1073741824)
  have h1 := spl_len 10 s []
  have h2 : s.count 10 ≤ s.length := List.count_le_length
  have e0 : linesI [] = ([], true) := rfl
  have e1 : ¬ s = [] → linesI s = ((spl 10 s []).dropLast, decide ((spl 10 s []).getLastD [] = [])) := fun h => by unfold linesI; rw [if_neg h]
  have e2 : (spl 10 s []).dropLast = (spl 10 s []).take ((spl 10 s []).length - 1) := List.dropLast_eq_take
  have hlt : (spl 10 s []).length - 1 < (spl 10 s []).length := by omega
  have e3 : (spl 10 s []).getLastD [] = (spl 10 s [])[(spl 10 s []).length - 1] := by
    rw [List.getLastD_eq_getLast?, List.getLast?_eq_getElem?, List.getElem?_eq_getElem hlt]; rfl
  simp -implicitDefEqProofs [vc_skip, extOf, vc_seq, vc_cond, vc_block, vc_exit, vc_ret, vc_region, vc_regionD, vc_loop, kSeq_normal, kSeq_ret, kSeq_exit, kBlock_normal, kBlock_ret, kBlock_exit, kLoop_normal, kLoop_ret, kLoop_exit, kCond_bool, kNorm_app, vcOps_nil, vcOps_cons, kOps_app, kStep_some, kStep_none, vcDL_nil, vcDL_cons, kOpsD_app, kStepD_true, kStepD_tt, kStepD_false, ldB, btys, btyAct, kStepC_some, kStepC_none, kMv_app, act3_store, act3_call, act3_bs, kAct_app, kSt2_app, stealSlots, stealL, stealOne, subIn, AV.stolen, act_store, act_bs, act_append, act_call, kSet_app, kSet2_app, kSetG_app, kSetG_app0, kStore_ptr, kStore_eptr, kCallW_some, kCallC_some, kCall_some, wk_T, wk_n, wk_keep, wk_inv, wk_act, wk_dr, wk_le, aCalm, wantC, dstOk, calm, aCallK, aCall3K, subOf, subRep, aCall2K, apnd, bsMove, putBox, putOwn, partAV, mvL, AV.mv, AV.base, AV.moved, kBld, bldK, wrK, stK, AV.selfOk, AV.src, TI.flat, apSize, pickAV, St.val, St.cond, St.fn, St.next, St.set, St.trim, wipe_eq, wipeE_app, wipeM_app, pickEnv, get?, cGet, upd_app, withPuts, killAll, rm, freshP, Oper.hnd, Sc.st, ofConst, constOk, lenAV, elemLen, loadAV, ldL, ld1, fieldAddrAV, indexAddrAV, sliceAV, convAV, buildAV, fillAV, fieldAV, Out.of, binAV, AV.rows, AV.one, AV.cells, AV.deepOk, AV.toD, toDs, partRows, partRowsM, partsDeep, TK.zeroAV, TK.zeroD, byteOf, inR, Op.operands, Call.operands, passVs, passV, passL, pass1, passB, pasVs, pasV, pasL, pas1, ownsOk, okHs, okHs2, okFin, finOk2, rho, over, backRes, backAV, backAV1, backBlk, putBack, back2, back2_V, back2_1, m2, AV.wipe, AV.wipeV, AV.wipe1, Blk.wipe, AV.hs, AV.hs.hsL, alOps, Con.start2, Con.pk, bodyQ, fini, resAV, resA, firstId, Sc.from, renEnv, renT, renV, renVs, renL, ren1, renBox, renOwn, okRen, clOf, actB, setRow, flatRows, flatD, noInv, shr_nil, shr_some, kStepF_some, shareL, AV.viewed, AV.viewed1, cLinesOf, cSplit, Con.fn, tTabR, tTab]
  try dsimp only
  refine ⟨fun h => by subst h; exact ⟨rfl, rfl⟩, fun h => ⟨s, 10, ⟨rfl, rfl⟩, hs, fun _ => ⟨by omega, fun _ _ => ⟨by omega, fun _ _ => ⟨by omega, fun _ _ => ?_⟩⟩⟩⟩⟩
  have e4 : Option.map eStr (spl 10 s [])[(spl 10 s []).length - 1]? = some (eStr (spl 10 s [])[(spl 10 s []).length - 1]) := by rw [List.getElem?_eq_getElem hlt]; rfl
  rw [e4, e1 h, e2, e3]
  simp -implicitDefEqProofs [eStr, eStrs_take]

theorem rfI_nil {num n t} : rfI num n t [] = (t, []) := by cases n <;> rfl
def okW (w : List Str) : Prop := w.length = 3 ∧ w.getD 0 [] = [102, 105, 108, 101]
theorem rfI_step {num : Str → Int × Bool} {t : List FileD} {l : Str} {ls : List Str} :
    (¬ (spl 32 l []).length = 3 → rfI num (l :: ls).length t (l :: ls) = (t, l :: ls)) ∧
    (¬ (spl 32 l []).getD 0 [] = [102, 105, 108, 101] → rfI num (l :: ls).length t (l :: ls) = (t, l :: ls)) ∧
    ((num ((spl 32 l []).getD 2 [])).2 = false → rfI num (l :: ls).length t (l :: ls) = (t, l :: ls)) ∧
    (¬ (0 ≤ (num ((spl 32 l []).getD 2 [])).1 ∧ (num ((spl 32 l []).getD 2 [])).1 ≤ ls.length) → rfI num (l :: ls).length t (l :: ls) = (t, l :: ls)) ∧
    ((spl 32 l []).length = 3 → (spl 32 l []).getD 0 [] = [102, 105, 108, 101] → (num ((spl 32 l []).getD 2 [])).2 = true → 0 ≤ (num ((spl 32 l []).getD 2 [])).1 → (num ((spl 32 l []).getD 2 [])).1 ≤ ls.length →
      rfI num (l :: ls).length t (l :: ls) = rfI num (ls.drop (num ((spl 32 l []).getD 2 [])).1.toNat).length (t ++ [⟨(spl 32 l []).getD 1 [], ls.take (num ((spl 32 l []).getD 2 [])).1.toNat⟩]) (ls.drop (num ((spl 32 l []).getD 2 [])).1.toNat)) := by
  simp only [List.length_cons, rfI]
  refine ⟨fun h => if_neg fun q => h q.1, fun h => if_neg fun q => h q.2, fun h => ?_, fun h => ?_, fun h1 h2 h3 h4 h5 => ?_⟩
  · split
    · exact if_neg fun q => by rw [h] at q; cases q.1
    · rfl
  · split
    · exact if_neg fun q => h q.2
    · rfl
  · rw [if_pos ⟨h1, h2⟩, if_pos ⟨h3, h4, h5⟩]
    exact rfI_fuel (by simp) (Nat.le_refl _)
def lsPre (ls : List Str) : Prop := ls.length ≤ 1048576 ∧ ∀ l ∈ ls, l.length ≤ 1073741824
def cReadFiles : Con := { (Con.fn 59 (List Str) (fun ls => [.sl true 1 (eStrs ls)]) lsPre (fun ls => .tup [.own 8 2 (eFiles (rfI numS ls.length [] ls).1), .sl true 1 (eStrs (rfI numS ls.length [] ls).2)]) (fun ls => ownFiles 8 (rfI numS ls.length [] ls).1)) with need := numNeed }
set_option maxHeartbeats 4000000 in
theorem readFiles_has : Has Tryd.prog 45 cReadFiles := by
  refine has_walk mixed tTabR_ok (l := [(82, cSplit), (83, cNumber), (75, cWithin), (84, cCopyText)]) (HasL.cons split_has (HasL.cons number_has (HasL.cons within_has (HasL.cons copyText_has HasL.nil)))) [0, 2, 3, 4, 5, 6, 7] ((fun a n (_ : Nat) => (fun ls _ => ⟨List FileD × List Str, fun t => ⟨[(0, true, .sl true 1 (eStrs t.2)), (2, true, .nil), (3, true, .nil), (4, true, .own 9 2 (eFiles t.1))], ownFiles 9 t.1⟩, fun t => t.1.length + t.2.length ≤ ls.length ∧ (∀ l ∈ t.2, l.length ≤ 1073741824) ∧ rfI numS t.2.length t.1 t.2 = rfI numS ls.length [] ls, fun t => t.2.length⟩) a n)) [51] Tryd.func45 (by kernel_rfl) (code := _) (by unfold Tryd.f45; rfl) (by kernel_rfl) (by decide) (fun _ => ⟨(), trivial⟩) (by intro h; first | exact fun _ => rfl | cases h) (by kernel_rfl) ?_
  intro (ls : List Str) ⟨h1, h2⟩
  simp -implicitDefEqProofs [vc_skip, extOf, vc_seq, vc_cond, vc_block, vc_exit, vc_ret, vc_region, vc_regionD, vc_loop, kSeq_normal, kSeq_ret, kSeq_exit, kBlock_normal, kBlock_ret, kBlock_exit, kLoop_normal, kLoop_ret, kLoop_exit, kCond_bool, kNorm_app, vcOps_nil, vcOps_cons, kOps_app, kStep_some, kStep_none, vcDL_nil, vcDL_cons, kOpsD_app, kStepD_true, kStepD_tt, kStepD_false, ldB, btys, btyAct, kStepC_some, kStepC_none, kMv_app, act3_store, act3_call, act3_bs, kAct_app, kSt2_app, stealSlots, stealL, stealOne, subIn, AV.stolen, act_store, act_bs, act_append, act_call, kSet_app, kSet2_app, kSetG_app, kSetG_app0, kStore_ptr, kStore_eptr, kCallW_some, kCallC_some, kCall_some, wk_T, wk_n, wk_keep, wk_inv, wk_act, wk_dr, wk_le, aCalm, wantC, dstOk, calm, aCallK, aCall3K, subOf, subRep, aCall2K, apnd, bsMove, putBox, putOwn, partAV, mvL, AV.mv, AV.base, AV.moved, kBld, bldK, wrK, stK, AV.selfOk, AV.src, TI.flat, apSize, pickAV, St.val, St.cond, St.fn, St.next, St.set, St.trim, wipe_eq, wipeE_app, wipeM_app, pickEnv, get?, cGet, upd_app, withPuts, killAll, rm, freshP, Oper.hnd, Sc.st, ofConst, constOk, lenAV, elemLen, loadAV, ldL, ld1, fieldAddrAV, indexAddrAV, sliceAV, convAV, buildAV, fillAV, fieldAV, Out.of, binAV, AV.rows, AV.one, AV.cells, AV.deepOk, AV.toD, toDs, partRows, partRowsM, partsDeep, TK.zeroAV, TK.zeroD, byteOf, inR, Op.operands, Call.operands, passVs, passV, passL, pass1, passB, pasVs, pasV, pasL, pas1, ownsOk, okHs, okHs2, okFin, finOk2, rho, over, backRes, backAV, backAV1, backBlk, putBack, back2, back2_V, back2_1, m2, AV.wipe, AV.wipeV, AV.wipe1, Blk.wipe, AV.hs, AV.hs.hsL, alOps, Con.start2, Con.pk, bodyQ, fini, resAV, resA, firstId, Sc.from, renEnv, renT, renV, renVs, renL, ren1, renBox, renOwn, okRen, clOf, actB, setRow, flatRows, flatD, noInv, shr_nil, shr_some, kStepF_some, shareL, AV.viewed, AV.viewed1, cReadFiles, cSplit, cNumber, cWithin, cCopyText, Con.fn, tTabR, tTab]
  try dsimp only
  refine ⟨⟨[], ls, ⟨rfl, rfl⟩, by simp, h2, rfl⟩, fun t b g1 g2 g3 _ => ⟨fun hb => ⟨hb, fun _ => ?_⟩, fun hb => ?_⟩⟩
  · obtain ⟨l, r, rfl⟩ : ∃ l r, b = l :: r := by cases b with | nil => simp at hb | cons l r => exact ⟨l, r, rfl⟩
    obtain ⟨s1, s2, s3, s4, s5⟩ := rfI_step (num := numS) (t := t) (l := l) (ls := r)
    rw [g3] at s1 s2 s3 s4 s5
    clear g3
    generalize rfI numS ls.length [] ls = F at s1 s2 s3 s4 s5 ⊢
    have hl := g2 l (by simp)
    have hle := fun q hq => spl_le (c := 32) (s := l) (p := []) q hq
    simp only [List.length_cons] at g1
    simp -implicitDefEqProofs [eStr]
    refine ⟨l, 32, ⟨rfl, rfl⟩, hl, fun hw => ⟨fun h3 => by rw [s1 (by omega)]; simp, fun h3 => ⟨by omega, fun _ => ?_⟩⟩⟩
    obtain ⟨x, y, z, hw3⟩ : ∃ x y z, spl 32 l [] = [x, y, z] := by
      have h3 : (spl 32 l []).length = 3 := by omega
      match hq : spl 32 l [], h3 with
      | [x, y, z], _ => exact ⟨x, y, z, rfl⟩
    rw [hw3] at s2 s3 s4 s5 hle ⊢
    simp only [List.getD_cons_zero, List.getD_cons_succ, List.length_cons, List.length_nil] at s2 s3 s4 s5
    have hz := hle z (by simp)
    simp -implicitDefEqProofs [eStr]
    refine ⟨fun hx => by rw [s2 hx]; simp, fun hx => ⟨by simp at hz; omega, fun hk => ?_, fun hk => by rw [s3 hk]; simp⟩⟩
    have hn1 : ((numS z).1 + 1).toNat - 1 = (numS z).1.toNat := by omega
    refine fun _ => ⟨by omega, fun _ => ⟨(numS z).1, 0, r.length, ⟨rfl, rfl, rfl⟩, fun h => by rw [s4 (by omega)]; simp, fun h0 h1' => ⟨by omega, fun _ _ => ⟨by omega, fun _ _ => ⟨r.take (numS z).1.toNat, ?_, by simp; omega, by omega, by omega, fun _ _ => ⟨by omega, fun _ _ => ⟨t ++ [⟨y, r.take (numS z).1.toNat⟩], r.drop (numS z).1.toNat, ⟨⟨?_, ?_⟩, ?_⟩, ⟨by simp; omega, fun q hq => g2 q (by simp -implicitDefEqProofs [List.mem_of_mem_drop hq]), (s5 trivial hx hk h0 h1').symm⟩, by simp; omega⟩⟩⟩⟩⟩⟩⟩
    · rw [hn1]; simp -implicitDefEqProofs [eStrs]
    · have e5 : ((numS z).1 + 1).toNat = (numS z).1.toNat + 1 := by omega
      rw [e5]
      simp only [eStrs, List.map_cons, List.drop_succ_cons]
      rw [List.take_of_length_le (by simp), List.map_drop]
    · simp -implicitDefEqProofs [eFiles, eFile]
    · simp -implicitDefEqProofs [eFiles, eFile]
  · subst hb
    rw [← g3, rfI_nil]; exact ⟨⟨rfl, rfl⟩, rfl⟩

def cNumB : Con := .fn 47 Str (fun s => [.str s]) (fun s => s.length ≤ 1073741824) (fun s => .int .i64 (numB s)) (fun _ => [])
theorem numA_step {s : Str} {i : Nat} {n : Int} (h : i < s.length) : numA (s.drop i) i n = if s[i].toNat < 48 ∨ 57 < s[i].toNat ∨ 6 ≤ i then -1 else numA (s.drop (i + 1)) (i + 1) (n * 10 + ((s[i].toNat : Int) - 48)) := by
  rw [List.drop_eq_getElem_cons h]; rfl
theorem numA_end {s : Str} {i : Nat} {n : Int} (h : s.length ≤ i) : numA (s.drop i) i n = n := by
  rw [List.drop_eq_nil_of_le h]; rfl
set_option maxHeartbeats 4000000 in
theorem numB_has : Has Tryd.prog 81 cNumB := by
  refine has_walk mixed tTabR_ok (l := []) HasL.nil [0, 2, 3, 4] ((fun a n (_ : Nat) => (fun s _ => ⟨Nat × Int, fun t => ⟨[(0, true, .str s), (2, true, .int .i64 0), (3, true, .int .i64 t.2), (4, true, .int .i64 t.1)], []⟩, fun t => t.1 ≤ s.length ∧ t.1 ≤ 6 ∧ 0 ≤ t.2 ∧ t.2 < ((10 ^ t.1 : Nat) : Int) ∧ numA (s.drop t.1) t.1 t.2 = numA s 0 0, fun t => s.length - t.1⟩) a n)) [] Tryd.func81 (by kernel_rfl) (code := _) (by unfold Tryd.f81; rfl) (by kernel_rfl) (by decide) (fun _ => ⟨(), trivial⟩) (by intro h; first | exact fun _ => rfl | cases h) (by kernel_rfl) ?_
  intro (s : Str) (hs : s.length ≤ 1073741824)
  simp -implicitDefEqProofs [vc_skip, extOf, vc_seq, vc_cond, vc_block, vc_exit, vc_ret, vc_region, vc_regionD, vc_loop, kSeq_normal, kSeq_ret, kSeq_exit, kBlock_normal, kBlock_ret, kBlock_exit, kLoop_normal, kLoop_ret, kLoop_exit, kCond_bool, kNorm_app, vcOps_nil, vcOps_cons, kOps_app, kStep_some, kStep_none, vcDL_nil, vcDL_cons, kOpsD_app, kStepD_true, kStepD_tt, kStepD_false, ldB, btys, btyAct, kStepC_some, kStepC_none, kMv_app, act3_store, act3_call, act3_bs, kAct_app, kSt2_app, stealSlots, stealL, stealOne, subIn, AV.stolen, act_store, act_bs, act_append, act_call, kSet_app, kSet2_app, kSetG_app, kSetG_app0, kStore_ptr, kStore_eptr, kCallW_some, kCallC_some, kCall_some, wk_T, wk_n, wk_keep, wk_inv, wk_act, wk_dr, wk_le, aCalm, wantC, dstOk, calm, aCallK, aCall3K, subOf, subRep, aCall2K, apnd, bsMove, putBox, putOwn, partAV, mvL, AV.mv, AV.base, AV.moved, kBld, bldK, wrK, stK, AV.selfOk, AV.src, TI.flat, apSize, pickAV, St.val, St.cond, St.fn, St.next, St.set, St.trim, wipe_eq, wipeE_app, wipeM_app, pickEnv, get?, cGet, upd_app, withPuts, killAll, rm, freshP, Oper.hnd, Sc.st, ofConst, constOk, lenAV, elemLen, loadAV, ldL, ld1, fieldAddrAV, indexAddrAV, sliceAV, convAV, buildAV, fillAV, fieldAV, Out.of, binAV, AV.rows, AV.one, AV.cells, AV.deepOk, AV.toD, toDs, partRows, partRowsM, partsDeep, TK.zeroAV, TK.zeroD, byteOf, inR, Op.operands, Call.operands, passVs, passV, passL, pass1, passB, pasVs, pasV, pasL, pas1, ownsOk, okHs, okHs2, okFin, finOk2, rho, over, backRes, backAV, backAV1, backBlk, putBack, back2, back2_V, back2_1, m2, AV.wipe, AV.wipeV, AV.wipe1, Blk.wipe, AV.hs, AV.hs.hsL, alOps, Con.start2, Con.pk, bodyQ, fini, resAV, resA, firstId, Sc.from, renEnv, renT, renV, renVs, renL, ren1, renBox, renOwn, okRen, clOf, actB, setRow, flatRows, flatD, noInv, shr_nil, shr_some, kStepF_some, shareL, AV.viewed, AV.viewed1, cNumB, Con.fn, tTabR, tTab]
  try dsimp only
  refine ⟨⟨0, 0, ⟨rfl, rfl⟩, by omega, by omega, by omega, by simp, rfl⟩, fun i n g1 g2 g3 g4 g5 _ => ⟨fun hlt => ⟨hlt, fun _ => ?_⟩, fun hge _ => ?_⟩⟩
  · have e : s[i]?.getD 0 = s[i] := by simp -implicitDefEqProofs [hlt]
    rw [e]
    have st := numA_step (n := n) hlt
    rw [g5] at st
    have q : (10 : Int) ^ (i + 1) = 10 * 10 ^ i := by rw [Int.pow_succ]; omega
    have p6 : (10 : Int) ^ i ≤ 1000000 := by
      have h1 : (10 : Nat) ^ i ≤ 10 ^ 6 := Nat.pow_le_pow_right (by omega) g2
      have h2 : (((10 : Nat) ^ i : Nat) : Int) = (10 : Int) ^ i := by simp
      rw [← h2]
      omega
    have hb : s[i].toNat < 256 := s[i].toNat_lt
    have hno : (s[i].toNat < 48 ∨ 57 < s[i].toNat ∨ 6 ≤ i) → numB s = -1 := fun h => by unfold numB; rw [st, if_pos h]; simp
    have hok : ¬ (s[i].toNat < 48 ∨ 57 < s[i].toNat ∨ 6 ≤ i) → numA (s.drop (i + 1)) (i + 1) (n * 10 + ((s[i].toNat : Int) - 48)) = numA s 0 0 := fun h => by rw [st, if_neg h]
    exact ⟨fun h => hno (by omega), fun a1 => ⟨hlt, fun _ => ⟨fun h => hno (by omega), fun a2 => ⟨fun h => hno (by omega), fun a3 => ⟨by omega, fun _ _ => ⟨hlt, fun _ => ⟨by omega, fun _ _ => ⟨by omega, fun _ _ => ⟨by omega, fun _ _ => ⟨by omega, fun _ _ => ⟨i + 1, _, ⟨rfl, by omega⟩, ⟨by omega, by omega, by omega, by rw [q]; omega, hok (by omega)⟩, by omega⟩⟩⟩⟩⟩⟩⟩⟩⟩⟩⟩
  · have e5 : numA s 0 0 = n := by rw [← g5, numA_end hge]
    have nb : numB s = if s.length = 0 ∨ (1 < s.length ∧ s.getD 0 0 = 48) then -1 else n := by unfold numB; rw [e5, if_neg (by omega)]
    rw [nb]
    have hc : s[0]?.getD 0 = s.getD 0 0 := by simp -implicitDefEqProofs [List.getD_eq_getElem?_getD]
    rw [hc]
    have h48 : ∀ x : UInt8, ((x.toNat : Int) = 48) = (x = 48) := fun x => by
      apply propext
      constructor
      · intro h; exact UInt8.toNat_inj.1 (by have : (48 : UInt8).toNat = 48 := rfl; omega)
      · rintro rfl; rfl
    rw [h48]
    refine ⟨fun h => ⟨fun _ => if_pos (.inl (by simp -implicitDefEqProofs [h])), fun _ => if_pos (.inl (by simp -implicitDefEqProofs [h]))⟩, fun h _ => ?_⟩
    have hl : 0 < s.length := List.length_pos_iff.2 h
    exact ⟨fun h1 => ⟨by omega, fun _ => ⟨fun h2 => if_pos (.inr ⟨by omega, h2⟩), fun h2 => if_neg fun q => q.elim (fun q => by omega) fun q => h2 q.2⟩⟩, fun h1 => if_neg fun q => q.elim (fun q => by omega) fun q => by omega⟩

abbrev r24 (ls : List Str) (a : Nat × Bool) : Blk := .box 68 [.sl true 1 (eStrs ls), .int .i64 a.1, .bool a.2]
def r24p (ls : List Str) (a : Nat × Bool) : Prop := ls.length ≤ 1048577 ∧ a.1 ≤ 1048577
def cRdLine : Con := { A := List Str × (Nat × Bool), X := Unit, n := 36, args := fun _ => [.ptr 0 0], boxes := fun a => [(0, 68, [.sl true 1 (eStrs a.1), .int .i64 a.2.1, .bool a.2.2])], pre := fun a => r24p a.1 a.2, post := fun _ _ => True, res := fun a _ => .str (rdLine a.1 a.2).1, fin := fun a _ => [(0, r24 a.1 (rdLine a.1 a.2).2)], nob := false, bty := [68] }
set_option maxHeartbeats 4000000 in
theorem rdLine_has : Has Tryd.prog 80 cRdLine := by
  refine has_walk mixed tTabR_ok (l := []) HasL.nil [0, 2] ((fun a n (_ : Nat) => (fun _ => noInv) a n)) [] Tryd.func80 (by kernel_rfl) (code := _) (by unfold Tryd.f80; rfl) (by kernel_rfl) (by decide) (fun _ => ⟨(), trivial⟩) (by intro h; first | exact fun _ => rfl | cases h) (by kernel_rfl) ?_ (hbt := .inr fun a => ⟨fun b hb => (by simp only [cRdLine, List.mem_cons, List.not_mem_nil, or_false] at hb; subst hb; simp -implicitDefEqProofs [cRdLine]), fun x p hp ty vs e => (by simp only [cRdLine, List.mem_cons, List.not_mem_nil, or_false] at hp; subst hp; cases e; simp -implicitDefEqProofs [cRdLine])⟩)
  intro a ha
  obtain ⟨ls, i, b⟩ := a
  obtain ⟨h1, h2⟩ : ls.length ≤ 1048577 ∧ i ≤ 1048577 := ha
  simp -implicitDefEqProofs [vc_skip, extOf, vc_seq, vc_cond, vc_block, vc_exit, vc_ret, vc_region, vc_regionD, vc_loop, kSeq_normal, kSeq_ret, kSeq_exit, kBlock_normal, kBlock_ret, kBlock_exit, kLoop_normal, kLoop_ret, kLoop_exit, kCond_bool, kNorm_app, vcOps_nil, vcOps_cons, kOps_app, kStep_some, kStep_none, vcDL_nil, vcDL_cons, kOpsD_app, kStepD_true, kStepD_tt, kStepD_false, ldB, btys, btyAct, kStepC_some, kStepC_none, kMv_app, act3_store, act3_call, act3_bs, kAct_app, kSt2_app, stealSlots, stealL, stealOne, subIn, AV.stolen, act_store, act_bs, act_append, act_call, kSet_app, kSet2_app, kSetG_app, kSetG_app0, kStore_ptr, kStore_eptr, kCallW_some, kCallC_some, kCall_some, wk_T, wk_n, wk_keep, wk_inv, wk_act, wk_dr, wk_le, aCalm, wantC, dstOk, calm, aCallK, aCall3K, subOf, subRep, aCall2K, apnd, bsMove, putBox, putOwn, partAV, mvL, AV.mv, AV.base, AV.moved, kBld, bldK, wrK, stK, AV.selfOk, AV.src, TI.flat, apSize, pickAV, St.val, St.cond, St.fn, St.next, St.set, St.trim, wipe_eq, wipeE_app, wipeM_app, pickEnv, get?, cGet, upd_app, withPuts, killAll, rm, freshP, Oper.hnd, Sc.st, ofConst, constOk, lenAV, elemLen, loadAV, ldL, ld1, fieldAddrAV, indexAddrAV, sliceAV, convAV, buildAV, fillAV, fieldAV, Out.of, binAV, AV.rows, AV.one, AV.cells, AV.deepOk, AV.toD, toDs, partRows, partRowsM, partsDeep, TK.zeroAV, TK.zeroD, byteOf, inR, Op.operands, Call.operands, passVs, passV, passL, pass1, passB, pasVs, pasV, pasL, pas1, ownsOk, okHs, okHs2, okFin, finOk2, rho, over, backRes, backAV, backAV1, backBlk, putBack, back2, back2_V, back2_1, m2, AV.wipe, AV.wipeV, AV.wipe1, Blk.wipe, AV.hs, AV.hs.hsL, alOps, Con.start2, Con.pk, bodyQ, fini, resAV, resA, firstId, Sc.from, renEnv, renT, renV, renVs, renL, ren1, renBox, renOwn, okRen, clOf, actB, setRow, flatRows, flatD, noInv, shr_nil, shr_some, kStepF_some, shareL, AV.viewed, AV.viewed1, cRdLine, Con.fn, tTabR, tTab]
  try dsimp only
  refine ⟨by omega, fun _ _ => ⟨fun h => ?_, fun h => ⟨by omega, fun _ _ => ⟨by omega, fun _ => ⟨by omega, fun hi => ?_⟩⟩⟩⟩⟩
  · have e : rdLine ls (i, b) = ([], (i, true)) := if_pos (by show ls.length ≤ i + 1; omega)
    rw [e]; exact ⟨rfl, rfl, rfl⟩
  · have e : rdLine ls (i, b) = (ls.getD i [], (i + 1, b)) := if_neg (by show ¬ ls.length ≤ i + 1; omega)
    have e2 : Option.map eStr ls[i]? = some (eStr ls[i]) := by rw [List.getElem?_eq_getElem hi]; rfl
    rw [e2, e]
    simp -implicitDefEqProofs [eStr, hi]
def cRdMore : Con := { A := (List Str × (Nat × Bool)) × Str, X := Unit, n := 46, args := fun a => [.ptr 0 0, .str a.2], boxes := fun a => [(0, 68, [.sl true 1 (eStrs a.1.1), .int .i64 a.1.2.1, .bool a.1.2.2])], pre := fun a => r24p a.1.1 a.1.2 ∧ a.2.length ≤ 1048576, post := fun _ _ => True, res := fun a _ => .bool (rdMore a.1.1 a.2 a.1.2), fin := fun a _ => [(0, r24 a.1.1 a.1.2)], nob := false }
set_option maxHeartbeats 4000000 in
theorem rdMore_has : Has Tryd.prog 79 cRdMore := by
  refine has_walk mixed tTabR_ok (l := []) HasL.nil [0, 1, 4, 5] ((fun a n (_ : Nat) => (fun _ => noInv) a n)) [] Tryd.func79 (by kernel_rfl) (code := _) (by unfold Tryd.f79; rfl) (by kernel_rfl) (by decide) (fun _ => ⟨(), trivial⟩) (by intro h; first | exact fun _ => rfl | cases h) (by kernel_rfl) ?_
  intro a ha
  obtain ⟨⟨ls, i, b⟩, hd⟩ := a
  obtain ⟨⟨h1, h2⟩, h3⟩ : (ls.length ≤ 1048577 ∧ i ≤ 1048577) ∧ hd.length ≤ 1048576 := ha
  simp -implicitDefEqProofs [vc_skip, extOf, vc_seq, vc_cond, vc_block, vc_exit, vc_ret, vc_region, vc_regionD, vc_loop, kSeq_normal, kSeq_ret, kSeq_exit, kBlock_normal, kBlock_ret, kBlock_exit, kLoop_normal, kLoop_ret, kLoop_exit, kCond_bool, kNorm_app, vcOps_nil, vcOps_cons, kOps_app, kStep_some, kStep_none, vcDL_nil, vcDL_cons, kOpsD_app, kStepD_true, kStepD_tt, kStepD_false, ldB, btys, btyAct, kStepC_some, kStepC_none, kMv_app, act3_store, act3_call, act3_bs, kAct_app, kSt2_app, stealSlots, stealL, stealOne, subIn, AV.stolen, act_store, act_bs, act_append, act_call, kSet_app, kSet2_app, kSetG_app, kSetG_app0, kStore_ptr, kStore_eptr, kCallW_some, kCallC_some, kCall_some, wk_T, wk_n, wk_keep, wk_inv, wk_act, wk_dr, wk_le, aCalm, wantC, dstOk, calm, aCallK, aCall3K, subOf, subRep, aCall2K, apnd, bsMove, putBox, putOwn, partAV, mvL, AV.mv, AV.base, AV.moved, kBld, bldK, wrK, stK, AV.selfOk, AV.src, TI.flat, apSize, pickAV, St.val, St.cond, St.fn, St.next, St.set, St.trim, wipe_eq, wipeE_app, wipeM_app, pickEnv, get?, cGet, upd_app, withPuts, killAll, rm, freshP, Oper.hnd, Sc.st, ofConst, constOk, lenAV, elemLen, loadAV, ldL, ld1, fieldAddrAV, indexAddrAV, sliceAV, convAV, buildAV, fillAV, fieldAV, Out.of, binAV, AV.rows, AV.one, AV.cells, AV.deepOk, AV.toD, toDs, partRows, partRowsM, partsDeep, TK.zeroAV, TK.zeroD, byteOf, inR, Op.operands, Call.operands, passVs, passV, passL, pass1, passB, pasVs, pasV, pasL, pas1, ownsOk, okHs, okHs2, okFin, finOk2, rho, over, backRes, backAV, backAV1, backBlk, putBack, back2, back2_V, back2_1, m2, AV.wipe, AV.wipeV, AV.wipe1, Blk.wipe, AV.hs, AV.hs.hsL, alOps, Con.start2, Con.pk, bodyQ, fini, resAV, resA, firstId, Sc.from, renEnv, renT, renV, renVs, renL, ren1, renBox, renOwn, okRen, clOf, actB, setRow, flatRows, flatD, noInv, shr_nil, shr_some, kStepF_some, shareL, AV.viewed, AV.viewed1, cRdMore, Con.fn, tTabR, tTab]
  try dsimp only
  refine ⟨fun h => by subst h; rfl, fun h => ⟨by omega, fun _ _ => ⟨fun hl => ?_, fun hl => ⟨by omega, fun hi => ?_⟩⟩⟩⟩
  · have : ¬ i + 1 < ls.length := by omega
    simp -implicitDefEqProofs [rdMore, this]
  · have e2 : Option.map eStr ls[i]? = some (eStr ls[i]) := by rw [List.getElem?_eq_getElem hi]; rfl
    have e3 : rdMore ls hd (i, b) = prefB hd ls[i] := by
      have : i + 1 < ls.length := by omega
      subst h
      simp -implicitDefEqProofs [rdMore, this, hi]
    rw [e2, e3]
    simp -implicitDefEqProofs [eStr, prefB]
    exact fun _ _ => ⟨fun h _ => ⟨h, fun _ => by simp -implicitDefEqProofs [h]⟩, fun h h' => absurd h' (by omega)⟩

theorem cutL_le {b : Int} {m : Nat} : ∀ {s c : Str} {n : Nat}, ∀ q ∈ cutL b m s c n, q.length ≤ c.length + s.length := by
  intro s
  induction s with
  | nil => intro c n q hq; simp -implicitDefEqProofs [cutL] at hq; simp -implicitDefEqProofs [hq]
  | cons x s ih =>
    intro c n q hq
    simp only [cutL] at hq
    split at hq
    · split at hq
      · rcases List.mem_cons.1 hq with rfl | hq
        · simp
        · have := ih q hq; simp at this ⊢; omega
      · have := ih q hq; simp at this ⊢; omega
    · simp at hq; subst hq; simp
theorem cutB_le {s : Str} {b : Int} {m : Nat} : ∀ q ∈ cutB s b m, q.length ≤ s.length := fun q hq => by
  have := cutL_le q hq; simpa using this
theorem rdText_succ {ls : List Str} : ∀ {n : Nat} {acc : List Str} {a : Nat × Bool}, rdText ls (n + 1) acc a = ((rdText ls n acc a).1 ++ [(rdLine ls (rdText ls n acc a).2).1], (rdLine ls (rdText ls n acc a).2).2) := by
  intro n
  induction n with
  | zero => intro acc a; rfl
  | succ n ih => intro acc a; rw [rdText, ih]; rfl
theorem rdText_len {ls : List Str} : ∀ {n : Nat} {acc : List Str} {a : Nat × Bool}, (rdText ls n acc a).1.length = acc.length + n := by
  intro n
  induction n with
  | zero => intro acc a; rfl
  | succ n ih => intro acc a; rw [rdText, ih]; simp; omega
theorem rdLine_bd {ls : List Str} {a : Nat × Bool} (h : ls.length ≤ 1048577) (h1 : a.1 ≤ 1048577) : (rdLine ls a).2.1 ≤ 1048577 := by
  unfold rdLine; split
  · exact h1
  · show a.1 + 1 ≤ _; omega
theorem rdLine_len {ls : List Str} {a : Nat × Bool} (h : ∀ l ∈ ls, l.length ≤ 1073741824) : (rdLine ls a).1.length ≤ 1073741824 := by
  unfold rdLine; split
  · simp
  · rename_i h1
    have : a.1 < ls.length := by omega
    rw [List.getD_eq_getElem?_getD, List.getElem?_eq_getElem this]
    exact h _ (List.getElem_mem this)
theorem rdText_bd {ls : List Str} (h : ls.length ≤ 1048577) : ∀ {n : Nat} {acc : List Str} {a : Nat × Bool}, a.1 ≤ 1048577 → (rdText ls n acc a).2.1 ≤ 1048577 := by
  intro n
  induction n with
  | zero => intro acc a h1; exact h1
  | succ n ih => intro acc a h1; rw [rdText]; exact ih (rdLine_bd h h1)
/-- The words of the next line, and what one more file makes of what was read. -/
def trW (ls : List Str) (s : List FileD × (Nat × Bool)) : List Str := cutB (rdLine ls s.2).1 32 3
def trT (ls : List Str) (s : List FileD × (Nat × Bool)) (k : Nat) : List Str × (Nat × Bool) := rdText ls k [] (rdLine ls s.2).2
def trN (ls : List Str) (s : List FileD × (Nat × Bool)) : Int := numB ((trW ls s).getD 2 [])
def trStep (ls : List Str) (s : List FileD × (Nat × Bool)) : List FileD × (Nat × Bool) := (s.1 ++ [⟨(trW ls s).getD 1 [], (trT ls s (trN ls s).toNat).1⟩], (trT ls s (trN ls s).toNat).2)
def trAt (ls : List Str) (a : Nat × Bool) : Nat → List FileD × (Nat × Bool)
  | 0 => ([], a)
  | i + 1 => trStep ls (trAt ls a i)
theorem trAt_len {ls a} : ∀ i, (trAt ls a i).1.length = i := by
  intro i
  induction i with
  | zero => rfl
  | succ i ih => simp -implicitDefEqProofs [trAt, trStep, ih]
theorem trAt_bd {ls : List Str} {a : Nat × Bool} (h : ls.length ≤ 1048577) (h1 : a.1 ≤ 1048577) : ∀ i, (trAt ls a i).2.1 ≤ 1048577 := by
  intro i
  induction i with
  | zero => exact h1
  | succ i ih => exact rdText_bd h (rdLine_bd h ih)
def trFile : Str := [102, 105, 108, 101, 32]
theorem tr_step {ls : List Str} {a : Nat × Bool} {i : Nat} (hi : i < 8) :
    (rdMore ls trFile (trAt ls a i).2 = false → rdTree ls (8 - i) (trAt ls a i).1 (trAt ls a i).2 = trAt ls a i) ∧
    (rdMore ls trFile (trAt ls a i).2 = true → (¬ (trW ls (trAt ls a i)).length = 3 ∨ 10 < trN ls (trAt ls a i)) → rdTree ls (8 - i) (trAt ls a i).1 (trAt ls a i).2 = ([], ((rdLine ls (trAt ls a i).2).2.1, true))) ∧
    (rdMore ls trFile (trAt ls a i).2 = true → (trW ls (trAt ls a i)).length = 3 → trN ls (trAt ls a i) ≤ 10 → rdTree ls (8 - i) (trAt ls a i).1 (trAt ls a i).2 = rdTree ls (8 - (i + 1)) (trAt ls a (i + 1)).1 (trAt ls a (i + 1)).2) := by
  obtain ⟨n, hn⟩ : ∃ n, 8 - i = n + 1 := ⟨7 - i, by omega⟩
  have hn' : 8 - (i + 1) = n := by omega
  rw [hn, hn']
  refine ⟨fun h => ?_, fun h h' => ?_, fun h h1 h2 => ?_⟩
  · have h : rdMore ls [102, 105, 108, 101, 32] (trAt ls a i).2 = false := h
    rw [rdTree, h]; rfl
  · have h : rdMore ls [102, 105, 108, 101, 32] (trAt ls a i).2 = true := h
    rw [rdTree, h, if_pos rfl]
    exact if_pos h'
  · have h : rdMore ls [102, 105, 108, 101, 32] (trAt ls a i).2 = true := h
    rw [rdTree, h, if_pos rfl]
    exact if_neg fun q => q.elim (fun q => q h1) fun q => by have : trN ls (trAt ls a i) ≤ 10 := h2; have : 10 < trN ls (trAt ls a i) := q; omega

def trO (ls : List Str) (a : Nat × Bool) : Inv := ⟨Nat, fun i => ⟨[(0, true, .ptr 0 0), (2, true, .nil), (3, true, .own 9 2 (eFiles (trAt ls a i).1))], [(0, r24 ls (trAt ls a i).2), (9, .own 55 2 true (eFiles (trAt ls a i).1))]⟩,
  fun i => i ≤ 8 ∧ rdTree ls (8 - i) (trAt ls a i).1 (trAt ls a i).2 = rdTree ls 8 [] a, fun i => 8 - i⟩
def trI (ls : List Str) (a : Nat × Bool) (g : Nat) : Inv := ⟨Nat, fun k => ⟨[(0, true, .ptr 0 0), (2, true, .nil), (3, true, .own 9 2 (eFiles (trAt ls a g).1)), (4, true, .own 12 1 (eStrs (trW ls (trAt ls a g)))), (5, true, .ptr 10 0), (6, true, .int .i64 k)],
  [(0, r24 ls (trT ls (trAt ls a g) k).2), (9, .own 55 2 true (eFiles (trAt ls a g).1)), (12, .own 9 1 true (eStrs (trW ls (trAt ls a g)))), (10, .box 55 [.str ((trW ls (trAt ls a g)).getD 1 []), .own 11 1 (eStrs (trT ls (trAt ls a g) k).1)]), (11, .own 9 1 true (eStrs (trT ls (trAt ls a g) k).1))]⟩,
  fun k => g < 8 ∧ rdMore ls trFile (trAt ls a g).2 = true ∧ (trW ls (trAt ls a g)).length = 3 ∧ trN ls (trAt ls a g) ≤ 10 ∧ k ≤ (trN ls (trAt ls a g)).toNat ∧ rdTree ls (8 - g) (trAt ls a g).1 (trAt ls a g).2 = rdTree ls 8 [] a, fun k => 11 - k⟩
def trInv (ls : List Str) (a : Nat × Bool) (n g : Nat) : Inv := if n = 2 then trO ls a else trI ls a g
theorem trInv_2 (ls a g) : trInv ls a 2 g = trO ls a := rfl
theorem trInv_9 (ls a g) : trInv ls a 9 g = trI ls a g := rfl
def cRdTree : Con := { A := List Str × (Nat × Bool), X := Unit, n := 55, args := fun _ => [.ptr 0 0], boxes := fun a => [(0, 68, [.sl true 1 (eStrs a.1), .int .i64 a.2.1, .bool a.2.2])], pre := fun a => r24p a.1 a.2 ∧ ∀ l ∈ a.1, l.length ≤ 1073741824, post := fun _ _ => True, res := fun a _ => .own 8 2 (eFiles (rdTree a.1 8 [] a.2).1), fin := fun a _ => [(0, r24 a.1 (rdTree a.1 8 [] a.2).2), (8, .own 55 2 true (eFiles (rdTree a.1 8 [] a.2).1))], nob := false }
set_option maxHeartbeats 4000000 in
theorem rdTree_has : Has Tryd.prog 43 cRdTree := by
  refine has_walk mixed tTabR_ok (l := [(79, cRdMore), (80, cRdLine), (42, cL1Cut), (81, cNumB)]) (HasL.cons rdMore_has (HasL.cons rdLine_has (HasL.cons l1Cut_has (HasL.cons numB_has HasL.nil)))) [0, 2, 3, 4, 5, 6] (fun a => trInv a.1 a.2) [52, 8191] Tryd.func43 (by kernel_rfl) (code := _) (by unfold Tryd.f43; rfl) (by kernel_rfl) (by decide) (fun _ => ⟨(), trivial⟩) (by intro h; first | exact fun _ => rfl | cases h) (by kernel_rfl) ?_
  intro a ha
  obtain ⟨ls, i, b⟩ := a
  obtain ⟨⟨h1, h2⟩, h3⟩ : (ls.length ≤ 1048577 ∧ i ≤ 1048577) ∧ ∀ l ∈ ls, l.length ≤ 1073741824 := ha
  simp -implicitDefEqProofs [vc_skip, extOf, vc_seq, vc_cond, vc_block, vc_exit, vc_ret, vc_region, vc_regionD, vc_loop, kSeq_normal, kSeq_ret, kSeq_exit, kBlock_normal, kBlock_ret, kBlock_exit, kLoop_normal, kLoop_ret, kLoop_exit, kCond_bool, kNorm_app, vcOps_nil, vcOps_cons, kOps_app, kStep_some, kStep_none, vcDL_nil, vcDL_cons, kOpsD_app, kStepD_true, kStepD_tt, kStepD_false, ldB, btys, btyAct, kStepC_some, kStepC_none, kMv_app, act3_store, act3_call, act3_bs, kAct_app, kSt2_app, stealSlots, stealL, stealOne, subIn, AV.stolen, act_store, act_bs, act_append, act_call, kSet_app, kSet2_app, kSetG_app, kSetG_app0, kStore_ptr, kStore_eptr, kCallW_some, kCallC_some, kCall_some, wk_T, wk_n, wk_keep, wk_inv, wk_act, wk_dr, wk_le, aCalm, wantC, dstOk, calm, aCallK, aCall3K, subOf, subRep, aCall2K, apnd, bsMove, putBox, putOwn, partAV, mvL, AV.mv, AV.base, AV.moved, kBld, bldK, wrK, stK, AV.selfOk, AV.src, TI.flat, apSize, pickAV, St.val, St.cond, St.fn, St.next, St.set, St.trim, wipe_eq, wipeE_app, wipeM_app, pickEnv, get?, cGet, upd_app, withPuts, killAll, rm, freshP, Oper.hnd, Sc.st, ofConst, constOk, lenAV, elemLen, loadAV, ldL, ld1, fieldAddrAV, indexAddrAV, sliceAV, convAV, buildAV, fillAV, fieldAV, Out.of, binAV, AV.rows, AV.one, AV.cells, AV.deepOk, AV.toD, toDs, partRows, partRowsM, partsDeep, TK.zeroAV, TK.zeroD, byteOf, inR, Op.operands, Call.operands, passVs, passV, passL, pass1, passB, pasVs, pasV, pasL, pas1, ownsOk, okHs, okHs2, okFin, finOk2, rho, over, backRes, backAV, backAV1, backBlk, putBack, back2, back2_V, back2_1, m2, AV.wipe, AV.wipeV, AV.wipe1, Blk.wipe, AV.hs, AV.hs.hsL, alOps, Con.start2, Con.pk, bodyQ, fini, resAV, resA, firstId, Sc.from, renEnv, renT, renV, renVs, renL, ren1, renBox, renOwn, okRen, clOf, actB, setRow, flatRows, flatD, noInv, shr_nil, shr_some, kStepF_some, shareL, AV.viewed, AV.viewed1, cRdTree, cRdMore, cRdLine, cL1Cut, cNumB, Con.fn, tTabR, tTab, -Bool.exists_bool, trInv_2, trInv_9, trO, trI]
  try dsimp only
  refine ⟨⟨0, ⟨rfl, ⟨rfl, rfl⟩, rfl⟩, by omega, rfl⟩, fun t ht hR => ?_⟩
  have hbd := trAt_bd (a := (i, b)) h1 h2 t
  have hln := trAt_len (ls := ls) (a := (i, b)) t
  have h8e : t = 8 → rdTree ls 8 [] (i, b) = trAt ls (i, b) t := fun e => by rw [← hR, e]; rfl
  refine ⟨ls, (trAt ls (i, b) t).2.1, (trAt ls (i, b) t).2.2, ⟨rfl, rfl, rfl⟩, ⟨h1, hbd⟩, fun hm hl => ⟨fun h8 => ?_, fun h8 => ?_⟩, fun hm => ?_⟩
  · have hlt : t < 8 := by omega
    obtain ⟨_, s2, s3⟩ := tr_step (ls := ls) (a := (i, b)) hlt
    rw [hR] at s2 s3
    refine ⟨ls, (trAt ls (i, b) t).2.1, (trAt ls (i, b) t).2.2, ⟨rfl, rfl, rfl⟩, ⟨h1, hbd⟩, (rdLine ls (trAt ls (i, b) t).2).1, 32, 3, ⟨rfl, rfl, rfl⟩, by omega, fun hw => ⟨fun hn3 => ?_, fun h3' => ⟨by omega, fun _ => ?_⟩⟩⟩
    · rw [s2 hm (.inl fun q => hn3 (by have : (cutB (rdLine ls (trAt ls (i, b) t).2).1 32 3).length = 3 := q; omega))]
      exact ⟨rfl, ⟨rfl, rfl, rfl⟩, rfl⟩
    · have h3l : (cutB (rdLine ls (trAt ls (i, b) t).2).1 32 3).length = 3 := by omega
      have hle := fun q hq => cutB_le (s := (rdLine ls (trAt ls (i, b) t).2).1) (b := 32) (m := 3) q hq
      have hlen := rdLine_len (ls := ls) (a := (trAt ls (i, b) t).2) h3
      obtain ⟨x, y, z, hW⟩ : ∃ x y z, cutB (rdLine ls (trAt ls (i, b) t).2).1 32 3 = [x, y, z] := by
        match hq : cutB (rdLine ls (trAt ls (i, b) t).2).1 32 3, h3l with
        | [x, y, z], _ => exact ⟨x, y, z, rfl⟩
      have hT : trW ls (trAt ls (i, b) t) = [x, y, z] := hW
      have hN : trN ls (trAt ls (i, b) t) = numB z := by unfold trN; rw [hT]; rfl
      rw [hT] at s2 s3
      rw [hN] at s2 s3
      have hz := hle z (by rw [hW]; simp)
      rw [hW]
      simp -implicitDefEqProofs [eStr, -Bool.exists_bool]
      refine ⟨by omega, fun h10 => ?_, fun h10 => ?_⟩
      · rw [s2 hm (.inr h10)]
        exact ⟨rfl, ⟨rfl, rfl⟩, rfl⟩
      · have s3 := s3 hm rfl h10
        refine ⟨t, ⟨0, ⟨⟨rfl, hT, rfl⟩, ⟨⟨rfl, rfl⟩, by rw [hT]; rfl, rfl⟩, rfl, hT.symm, rfl⟩, hlt, hm, by rw [hT]; rfl, by rw [hN]; exact h10, by omega, hR⟩, fun k _ _ _ _ hk _ => ?_⟩
        rw [hN] at hk
        have hkl : (trT ls (trAt ls (i, b) t) k).1.length = k := by unfold trT; rw [rdText_len]; simp
        have hkb : (trT ls (trAt ls (i, b) t) k).2.1 ≤ 1048577 := rdText_bd h1 (rdLine_bd h1 hbd)
        have hks : trT ls (trAt ls (i, b) t) (k + 1) = ((trT ls (trAt ls (i, b) t) k).1 ++ [(rdLine ls (trT ls (trAt ls (i, b) t) k).2).1], (rdLine ls (trT ls (trAt ls (i, b) t) k).2).2) := rdText_succ
        rw [hT, hN]
        simp -implicitDefEqProofs [eStr, -Bool.exists_bool]
        refine ⟨by omega, fun hk2 => ?_, fun hk2 => ?_⟩
        · refine ⟨ls, (trT ls (trAt ls (i, b) t) k).2.1, (trT ls (trAt ls (i, b) t) k).2.2, ⟨rfl, rfl, rfl⟩, ⟨h1, hkb⟩, by rw [hkl]; omega, by omega, fun _ _ => ⟨k + 1, ?_, ?_⟩⟩
          · rw [hks]
            exact ⟨by omega, ⟨⟨rfl, rfl, rfl⟩, by simp -implicitDefEqProofs [eStrs, eStr]⟩, by simp -implicitDefEqProofs [eStrs, eStr]⟩
          · exact ⟨⟨hlt, hm, h10, by omega, hR⟩, by omega⟩
        · have hke : k = (numB z).toNat := by omega
          have ha : trAt ls (i, b) (t + 1) = ((trAt ls (i, b) t).1 ++ [⟨y, (trT ls (trAt ls (i, b) t) k).1⟩], (trT ls (trAt ls (i, b) t) k).2) := by
            show trStep ls (trAt ls (i, b) t) = _
            unfold trStep
            rw [hT, hN, ← hke]
            rfl
          refine ⟨by rw [hln]; omega, t + 1, ?_, ⟨by omega, s3.symm⟩, by omega⟩
          rw [ha]
          exact ⟨by simp -implicitDefEqProofs [eFiles, eFile], ⟨rfl, rfl⟩, by simp -implicitDefEqProofs [eFiles, eFile]⟩
  · rw [h8e (by omega)]; exact ⟨rfl, ⟨rfl, rfl, rfl⟩, rfl⟩
  · by_cases h8 : t = 8
    · rw [h8e h8]; exact ⟨rfl, ⟨rfl, rfl, rfl⟩, rfl⟩
    · have s1 := (tr_step (ls := ls) (a := (i, b)) (show t < 8 by omega)).1
      rw [hR] at s1
      rw [s1 hm]; exact ⟨rfl, ⟨rfl, rfl, rfl⟩, rfl⟩

theorem rdTree_bd {ls : List Str} (h : ls.length ≤ 1048577) : ∀ {n : Nat} {t : List FileD} {a : Nat × Bool}, a.1 ≤ 1048577 → (rdTree ls n t a).2.1 ≤ 1048577 := by
  intro n
  induction n with
  | zero => intro t a h1; exact h1
  | succ n ih =>
    intro t a h1
    rw [rdTree]
    split
    · split
      · exact rdLine_bd h h1
      · exact ih (rdText_bd h (rdLine_bd h h1))
    · exact h1

end Vx
end Go.Proofs.YthmhaggmcfemnaaDoor
/-
  Contracts: ViewOf (the reference's), marks looked for in trees; the law FnExactViewOf.
-/
namespace Go.Proofs.YthmhaggmcfemnaaDoor
namespace Vx
open Go.RowKit
set_option maxRecDepth 8000

def viewOfS (t : List FileD) (l : List Str) : List FileD := if treeS t && viewS l then filB (fun f => in25 l f.path) t else []
theorem kE_marks (t : List FileD) (k j : Int) : kE (markFs t k) j = kE t j := by
  have : nLines (markFs t k) = nLines t := by
    unfold nLines markFs
    rw [List.map_map]
    have : ((fun f : FileD => f.text.length) ∘ fun i : Nat => (⟨markS (kE (t.take i) k), markL (t.getD i default).text.length (kE (t.take i) k + 1)⟩ : FileD)) = fun i => (t.getD i default).text.length := by
      funext i; simp [markL_len]
    rw [this]
    congr 1
    apply List.ext_getElem (by simp)
    intro i h1 h2
    simp at h1
    simp [h1]
  unfold kE
  rw [this, markFs_len]
theorem markFs_take (t : List FileD) (k : Int) (i : Nat) (h : i ≤ t.length) : markFs (t.take i) k = (markFs t k).take i := by
  unfold markFs
  rw [← List.map_take, List.take_range, List.length_take, Nat.min_comm]
  rw [Nat.min_comm]
  apply List.map_congr_left
  intro j hj
  have hj : j < i := by simp at hj; omega
  rw [List.take_take, Nat.min_eq_left (by omega)]
  simp [List.getElem?_take, hj]
theorem markFs_same (t : List FileD) (k : Int) : markFs (markFs t k) k = markFs t k := by
  show (List.range (markFs t k).length).map _ = (List.range t.length).map _
  rw [markFs_len]
  apply List.map_congr_left
  intro i hi
  have hi : i < t.length := by simpa using hi
  rw [← markFs_take t k i (by omega), kE_marks]
  have : ((markFs t k).getD i default).text.length = (t.getD i default).text.length := by simp [markFs, hi, markL_len]
  rw [this]

def heldFs (t : List FileD) (k : Int) : Int := if t = markFs t k then kE t k else -1
theorem heldFs_mark (t : List FileD) (k : Int) : heldFs (markFs t k) k = kE t k := by
  unfold heldFs
  rw [markFs_same, if_pos rfl, kE_marks]
def cHeldFileS : Con := .fn 32 (List FileD × Int) (fun a => [.sl true 2 (eFiles a.1), .int .i64 a.2]) (fun a => 0 ≤ a.2 ∧ kE a.1 a.2 ≤ 1152921504606846976) (fun a => .int .i64 (heldFs a.1 a.2)) (fun _ => [])
theorem heldF_get {t : List FileD} {k : Int} {i : Nat} (h : i < t.length) : (markFs t k)[i]'(by rw [markFs_len]; exact h) = ⟨markS (kE (t.take i) k), markL t[i].text.length (kE (t.take i) k + 1)⟩ := by simp [markFs, h]
theorem heldF_miss {t : List FileD} {k : Int} {i : Nat} (h : i < t.length) (h2 : t[i].path ≠ markS (kE (t.take i) k) ∨ t[i].text ≠ markL t[i].text.length (kE (t.take i) k + 1)) : heldFs t k = -1 := by
  unfold heldFs
  rw [if_neg]
  intro h3
  have : t[i]? = (markFs t k)[i]? := by rw [← h3]
  rw [List.getElem?_eq_getElem h, List.getElem?_eq_getElem (by rw [markFs_len]; exact h), heldF_get h] at this
  have := Option.some.inj this
  rcases h2 with h2 | h2
  · exact h2 (congrArg FileD.path this)
  · exact h2 (congrArg FileD.text this)
theorem heldF_step {t : List FileD} {k : Int} {i : Nat} (h : i < t.length) (h1 : t.take i = (markFs t k).take i) (h2 : t[i].path = markS (kE (t.take i) k)) (h3 : t[i].text = markL t[i].text.length (kE (t.take i) k + 1)) : t.take (i + 1) = (markFs t k).take (i + 1) := by
  rw [take_succ' h, take_succ' (by rw [markFs_len]; exact h), heldF_get h, ← h1, ← h2, ← h3]
theorem heldF_end {t : List FileD} {k : Int} {i : Nat} (h : t.length ≤ i) (h1 : t.take i = (markFs t k).take i) : heldFs t k = kE (t.take i) k := by
  rw [List.take_of_length_le h, List.take_of_length_le (by rw [markFs_len]; exact h)] at h1
  unfold heldFs
  rw [if_pos h1, List.take_of_length_le h]
set_option maxHeartbeats 4000000 in
theorem heldFileS_has : Has Tryd.prog 21 cHeldFileS := by
  refine has_walk mixed tTab_ok (l := [(46, cMarkText), (48, cHeldStringS)]) (HasL.cons markText_has (HasL.cons heldStringS_has HasL.nil)) [0, 1, 4, 5] ((fun a n (_ : Nat) => (fun a _ => ⟨Nat, fun i => ⟨[(0, true, .sl true 2 (eFiles a.1)), (1, true, .int .i64 (kE (a.1.take i) a.2)), (4, true, .int .i64 0), (5, true, .int .i64 i)], []⟩, fun i => i ≤ a.1.length ∧ a.1.take i = (markFs a.1 a.2).take i, fun i => a.1.length - i⟩) a n)) [] Tryd.func21 (by kernel_rfl) (code := _) (by unfold Tryd.f21; rfl) (by kernel_rfl) (by decide) (fun _ => ⟨(), trivial⟩) (by intro h; first | exact fun _ => rfl | cases h) (by kernel_rfl) ?_
  intro a ha
  obtain ⟨t, k⟩ := a
  obtain ⟨q1, q2⟩ : 0 ≤ k ∧ kE t k ≤ 1152921504606846976 := ha
  have e1 := fun i => @heldF_miss t k i
  have e2 := fun i => @heldF_step t k i
  have e3 := fun i => @heldF_end t k i
  have e6 := fun i => @kE_step t k i
  have e7 := fun i => @kE_le t k i
  have e8 := kE_zero k
  simp -implicitDefEqProofs [vc_skip, extOf, vc_seq, vc_cond, vc_block, vc_exit, vc_ret, vc_region, vc_regionD, vc_loop, kSeq_normal, kSeq_ret, kSeq_exit, kBlock_normal, kBlock_ret, kBlock_exit, kLoop_normal, kLoop_ret, kLoop_exit, kCond_bool, kNorm_app, vcOps_nil, vcOps_cons, kOps_app, kStep_some, kStep_none, vcDL_nil, vcDL_cons, kOpsD_app, kStepD_true, kStepD_tt, kStepD_false, ldB, btys, btyAct, kStepC_some, kStepC_none, kMv_app, act3_store, act3_call, act3_bs, kAct_app, kSt2_app, stealSlots, stealL, stealOne, subIn, AV.stolen, act_store, act_bs, act_append, act_call, kSet_app, kSet2_app, kSetG_app, kSetG_app0, kStore_ptr, kStore_eptr, kCallW_some, kCallC_some, kCall_some, wk_T, wk_n, wk_keep, wk_inv, wk_act, wk_dr, wk_le, aCalm, wantC, dstOk, calm, aCallK, aCall3K, subOf, subRep, aCall2K, apnd, bsMove, putBox, putOwn, partAV, mvL, AV.mv, AV.base, AV.moved, kBld, bldK, wrK, stK, AV.selfOk, AV.src, TI.flat, apSize, pickAV, St.val, St.cond, St.fn, St.next, St.set, St.trim, wipe_eq, wipeE_app, wipeM_app, pickEnv, get?, cGet, upd_app, withPuts, killAll, rm, freshP, Oper.hnd, Sc.st, ofConst, constOk, lenAV, elemLen, loadAV, ldL, ld1, fieldAddrAV, indexAddrAV, sliceAV, convAV, buildAV, fillAV, fieldAV, Out.of, binAV, AV.rows, AV.one, AV.cells, AV.deepOk, AV.toD, toDs, partRows, partRowsM, partsDeep, TK.zeroAV, TK.zeroD, byteOf, inR, Op.operands, Call.operands, passVs, passV, passL, pass1, passB, pasVs, pasV, pasL, pas1, ownsOk, okHs, okHs2, okFin, finOk2, rho, over, backRes, backAV, backAV1, backBlk, putBack, back2, back2_V, back2_1, m2, AV.wipe, AV.wipeV, AV.wipe1, Blk.wipe, AV.hs, AV.hs.hsL, alOps, Con.start2, Con.pk, bodyQ, fini, resAV, resA, firstId, Sc.from, renEnv, renT, renV, renVs, renL, ren1, renBox, renOwn, okRen, clOf, actB, setRow, flatRows, flatD, noInv, shr_nil, shr_some, kStepF_some, shareL, AV.viewed, AV.viewed1, cHeldFileS, Con.fn, tTab, cMarkText, cHeldStringS, e8]
  try dsimp only
  refine ⟨⟨0, by simp [e8]⟩, fun i hi hpre _ => ⟨fun hlt => ?_, fun hge => e3 i hge hpre⟩⟩
  have g := e6 i hlt
  have g1 := e7 i
  have g2 := e7 (i + 1)
  simp [hlt, eFile, D.asStr, D.asRows, and_assoc]
  have hl : ∀ l kk, heldL l kk = if l = markL l.length kk then kk + l.length else -1 := fun _ _ => rfl
  have m1 := e1 i hlt
  have m2 := e2 i hlt hpre
  by_cases ht : t[i].text = markL t[i].text.length (kE (t.take i) k + 1)
  · have hh : heldL t[i].text (kE (t.take i) k + 1) = kE (t.take (i + 1)) k := by rw [hl, if_pos ht, g]
    rw [hh]
    exact ⟨by omega, fun hn => m1 (.inl hn), fun hp => ⟨by omega, by omega, fun _ _ => ⟨by omega, by omega, fun hn => by omega, fun _ => ⟨by omega, by omega, fun _ _ => ⟨i + 1, rfl, by omega, by omega, m2 hp ht, by omega⟩⟩⟩⟩⟩
  · have hh : heldL t[i].text (kE (t.take i) k + 1) = -1 := by rw [hl, if_neg ht]
    rw [hh]
    exact ⟨by omega, fun hn => m1 (.inl hn), fun hp => ⟨by omega, by omega, fun _ _ => ⟨by omega, by omega, fun _ => m1 (.inr ht), fun hn => by omega⟩⟩⟩

theorem view_of_eq (t : List FileD) (l : List Str) : viewOfI t l = viewOfS t l := by
  unfold viewOfI viewOfS
  rw [tree_eq, view_eq]
  simp only [vis_in]
theorem viewOfS_bd (t : List FileD) (l : List Str) : (viewOfS t l).length ≤ 8 ∧ ∀ f ∈ viewOfS t l, f.text.length ≤ 64 := by
  unfold viewOfS
  split
  · rename_i h
    simp only [Bool.and_eq_true] at h
    have h1 := treeS_le t h.1
    refine ⟨Nat.le_trans (List.length_filter_le _ _) h1.1, fun f hf => h1.2 f (List.mem_filter.1 hf).1⟩
  · simp
theorem kE_bd {t : List FileD} {A B : Nat} (h1 : t.length ≤ A) (h2 : ∀ f ∈ t, f.text.length ≤ B) (k : Int) : k ≤ kE t k ∧ kE t k ≤ k + A + B * A := by
  have h3 := nLines_bd t h2
  have h4 : B * t.length ≤ B * A := Nat.mul_le_mul_left _ h1
  unfold kE
  refine ⟨by omega, ?_⟩
  have : (nLines t : Int) ≤ ((B * A : Nat) : Int) := by omega
  rw [Int.natCast_mul] at this
  omega

end Vx
end Go.Proofs.YthmhaggmcfemnaaDoor
/-
  Contracts: trees read (TreeRead, both sides); the law FnExactTreeRead.
-/
namespace Go.Proofs.YthmhaggmcfemnaaDoor
namespace Vx
open Go.RowKit
set_option maxRecDepth 8000

theorem cutL_len' {b : Int} {m : Nat} : ∀ {s c : Str} {n : Nat}, (cutL b m s c n).length ≤ s.length + 1 := by
  intro s
  induction s with
  | nil => intro c n; simp -implicitDefEqProofs [cutL]
  | cons x s ih =>
    intro c n
    simp only [cutL]
    split
    · split
      · have := ih (c := []) (n := n + 1); simp; omega
      · have := ih (c := c ++ [x]) (n := n); simp; omega
    · simp
theorem okT_I {t : List FileD} (h : treeI t = true) : okT t := okT_of (by rw [← tree_eq]; exact h) fun f hf => by have := (treeI_plain h f hf).1.2; omega
--TAB tTabR
def cTreeReadS : Con := .fn 41 Str (fun s => [.str s]) (fun s => s.length ≤ 1048576) (fun s => .tup [.own 8 2 (eFiles (treeReadS treeI s).1), .bool (treeReadS treeI s).2]) (fun s => ownFiles 8 (treeReadS treeI s).1)
set_option maxHeartbeats 4000000 in
theorem treeReadS_has : Has Tryd.prog 18 cTreeReadS := by
  refine has_walk mixed tTabR_ok (l := [(42, cL1Cut), (43, cRdTree), (27, cL4Ok), (28, cL24Tree)]) (HasL.cons l1Cut_has (HasL.cons rdTree_has (HasL.cons l4Ok_has (HasL.cons l24Tree_has HasL.nil)))) [0, 2, 3, 4, 5] ((fun a n (_ : Nat) => (fun _ => noInv) a n)) [] Tryd.func18 (by kernel_rfl) (code := _) (by unfold Tryd.f18; rfl) (by kernel_rfl) (by decide) (fun _ => ⟨(), trivial⟩) (by intro h; first | exact fun _ => rfl | cases h) (by kernel_rfl) ?_
  intro (s : Str) (hs : s.length ≤ 1048576)
  have g1 : (cutB s 10 89).length ≤ 1048577 := by have := cutL_len' (b := 10) (m := 89) (s := s) (c := []) (n := 0); unfold cutB; omega
  have g2 : ∀ l ∈ cutB s 10 89, l.length ≤ 1073741824 := fun l hl => by have := cutB_le l hl; omega
  have e1 : ∀ F, rdTree (cutB s 10 89) 8 [] (0, false) = F → treeReadS treeI s = if F.2.2 = false ∧ F.2.1 + 1 = (cutB s 10 89).length ∧ treeI F.1 = true ∧ treeT F.1 = s then (F.1, true) else ([], false) := fun F h => by unfold treeReadS; rw [h]
  have hb := rdTree_bd (ls := cutB s 10 89) g1 (t := []) (n := 8) (a := (0, false)) (by simp)
  simp -implicitDefEqProofs [vc_skip, extOf, vc_seq, vc_cond, vc_block, vc_exit, vc_ret, vc_region, vc_regionD, vc_loop, kSeq_normal, kSeq_ret, kSeq_exit, kBlock_normal, kBlock_ret, kBlock_exit, kLoop_normal, kLoop_ret, kLoop_exit, kCond_bool, kNorm_app, vcOps_nil, vcOps_cons, kOps_app, kStep_some, kStep_none, vcDL_nil, vcDL_cons, kOpsD_app, kStepD_true, kStepD_tt, kStepD_false, ldB, btys, btyAct, kStepC_some, kStepC_none, kMv_app, act3_store, act3_call, act3_bs, kAct_app, kSt2_app, stealSlots, stealL, stealOne, subIn, AV.stolen, act_store, act_bs, act_append, act_call, kSet_app, kSet2_app, kSetG_app, kSetG_app0, kStore_ptr, kStore_eptr, kCallW_some, kCallC_some, kCall_some, wk_T, wk_n, wk_keep, wk_inv, wk_act, wk_dr, wk_le, aCalm, wantC, dstOk, calm, aCallK, aCall3K, subOf, subRep, aCall2K, apnd, bsMove, putBox, putOwn, partAV, mvL, AV.mv, AV.base, AV.moved, kBld, bldK, wrK, stK, AV.selfOk, AV.src, TI.flat, apSize, pickAV, St.val, St.cond, St.fn, St.next, St.set, St.trim, wipe_eq, wipeE_app, wipeM_app, pickEnv, get?, cGet, upd_app, withPuts, killAll, rm, freshP, Oper.hnd, Sc.st, ofConst, constOk, lenAV, elemLen, loadAV, ldL, ld1, fieldAddrAV, indexAddrAV, sliceAV, convAV, buildAV, fillAV, fieldAV, Out.of, binAV, AV.rows, AV.one, AV.cells, AV.deepOk, AV.toD, toDs, partRows, partRowsM, partsDeep, TK.zeroAV, TK.zeroD, byteOf, inR, Op.operands, Call.operands, passVs, passV, passL, pass1, passB, pasVs, pasV, pasL, pas1, ownsOk, okHs, okHs2, okFin, finOk2, rho, over, backRes, backAV, backAV1, backBlk, putBack, back2, back2_V, back2_1, m2, AV.wipe, AV.wipeV, AV.wipe1, Blk.wipe, AV.hs, AV.hs.hsL, alOps, Con.start2, Con.pk, bodyQ, fini, resAV, resA, firstId, Sc.from, renEnv, renT, renV, renVs, renL, ren1, renBox, renOwn, okRen, clOf, actB, setRow, flatRows, flatD, noInv, shr_nil, shr_some, kStepF_some, shareL, AV.viewed, AV.viewed1, cTreeReadS, cL1Cut, cRdTree, cL4Ok, cL24Tree, Con.fn, tTabR, tTab, -Bool.exists_bool]
  try dsimp only
  refine ⟨s, 10, 89, ⟨rfl, rfl, rfl⟩, by omega, cutB s 10 89, 0, false, ⟨rfl, rfl, rfl⟩, ⟨⟨g1, by omega⟩, g2⟩, ?_⟩
  generalize hF : rdTree (cutB s 10 89) 8 [] (0, false) = F at hb ⊢
  have e1 := e1 F hF
  have no : ¬ (F.2.2 = false ∧ F.2.1 + 1 = (cutB s 10 89).length ∧ treeI F.1 = true ∧ treeT F.1 = s) → treeReadS treeI s = ([], false) := fun h => by rw [e1, if_neg h]
  have yes : (F.2.2 = false ∧ F.2.1 + 1 = (cutB s 10 89).length ∧ treeI F.1 = true ∧ treeT F.1 = s) → treeReadS treeI s = (F.1, true) := fun h => by rw [e1, if_pos h]
  rw [← tree_eq]
  refine ⟨fun h => ?_, fun h0 => ⟨by omega, fun _ _ => ⟨fun h => ?_, fun h1 => ⟨fun h2 => ?_, fun h2 => ⟨okT_I h2, fun h3 => ?_, fun h3 => ?_⟩⟩⟩⟩⟩
  · rw [no fun q => by rw [q.1] at h; cases h]; exact ⟨⟨rfl, rfl⟩, rfl⟩
  · rw [no fun q => h (by have := q.2.1; omega)]; exact ⟨⟨rfl, rfl⟩, rfl⟩
  · rw [no fun q => by rw [q.2.2.1] at h2; cases h2]; exact ⟨⟨rfl, rfl⟩, rfl⟩
  · rw [no fun q => h3 q.2.2.2]; exact ⟨⟨rfl, rfl⟩, rfl⟩
  · rw [yes ⟨h0, by omega, h2, h3⟩]; exact ⟨⟨rfl, rfl⟩, rfl⟩

theorem linesI_bd (s : Str) : (linesI s).1.length ≤ s.length ∧ ∀ l ∈ (linesI s).1, l.length ≤ s.length := by
  unfold linesI
  split
  · simp
  · have h1 := spl_len 10 s []
    have h2 : s.count 10 ≤ s.length := List.count_le_length
    refine ⟨by simp; omega, fun l hl => ?_⟩
    have := spl_le (c := 10) (s := s) (p := []) l (List.dropLast_subset _ hl)
    simpa using this
theorem rfI_path {num : Str → Int × Bool} {N : Nat} : ∀ {n : Nat} {t : List FileD} {ls : List Str}, (∀ l ∈ ls, l.length ≤ N) → (∀ f ∈ t, f.path.length ≤ N) → ∀ f ∈ (rfI num n t ls).1, f.path.length ≤ N := by
  intro n
  induction n with
  | zero => intro t ls _ h; exact h
  | succ n ih =>
    intro t ls h1 h2
    cases ls with
    | nil => exact h2
    | cons l ls =>
      rw [rfI]
      split
      · split
        · refine ih (fun x hx => h1 x (by simp -implicitDefEqProofs [List.mem_of_mem_drop hx])) fun f hf => ?_
          rcases List.mem_append.1 hf with hf | hf
          · exact h2 f hf
          · have : f = _ := List.mem_singleton.1 hf
            subst this
            show ((spl 32 l []).getD 1 []).length ≤ N
            rw [List.getD_eq_getElem?_getD]
            cases hq : (spl 32 l [])[1]? with
            | none => simp
            | some q =>
              have := spl_le (c := 32) (s := l) (p := []) q (List.mem_of_getElem? hq)
              have := h1 l (by simp)
              simp at *
              omega
        · exact h2
      · exact h2

def cTreeReadI : Con := { (Con.fn 37 Str (fun s => [.str s]) (fun s => s.length ≤ 1048576) (fun s => .tup [.own 8 2 (eFiles (treeReadI numS treeI s).1), .bool (treeReadI numS treeI s).2]) (fun s => ownFiles 8 (treeReadI numS treeI s).1)) with need := numNeed }
set_option maxHeartbeats 4000000 in
theorem treeReadI_has : Has Tryd.prog 19 cTreeReadI := by
  refine has_walk mixed tTabR_ok (l := [(44, cLinesOf), (45, cReadFiles), (23, cTreeOk), (30, cTreePutT)]) (HasL.cons linesOf_has (HasL.cons readFiles_has (HasL.cons treeOk_has (HasL.cons treePutT_has HasL.nil)))) [0, 2, 3, 4, 5, 6, 7] ((fun a n (_ : Nat) => (fun _ => noInv) a n)) [] Tryd.func19 (by kernel_rfl) (code := _) (by unfold Tryd.f19; rfl) (by kernel_rfl) (by decide) (fun _ => ⟨(), trivial⟩) (by intro h; first | exact fun _ => rfl | cases h) (by kernel_rfl) ?_
  intro (s : Str) (hs : s.length ≤ 1048576)
  simp -implicitDefEqProofs [vc_skip, extOf, vc_seq, vc_cond, vc_block, vc_exit, vc_ret, vc_region, vc_regionD, vc_loop, kSeq_normal, kSeq_ret, kSeq_exit, kBlock_normal, kBlock_ret, kBlock_exit, kLoop_normal, kLoop_ret, kLoop_exit, kCond_bool, kNorm_app, vcOps_nil, vcOps_cons, kOps_app, kStep_some, kStep_none, vcDL_nil, vcDL_cons, kOpsD_app, kStepD_true, kStepD_tt, kStepD_false, ldB, btys, btyAct, kStepC_some, kStepC_none, kMv_app, act3_store, act3_call, act3_bs, kAct_app, kSt2_app, stealSlots, stealL, stealOne, subIn, AV.stolen, act_store, act_bs, act_append, act_call, kSet_app, kSet2_app, kSetG_app, kSetG_app0, kStore_ptr, kStore_eptr, kCallW_some, kCallC_some, kCall_some, wk_T, wk_n, wk_keep, wk_inv, wk_act, wk_dr, wk_le, aCalm, wantC, dstOk, calm, aCallK, aCall3K, subOf, subRep, aCall2K, apnd, bsMove, putBox, putOwn, partAV, mvL, AV.mv, AV.base, AV.moved, kBld, bldK, wrK, stK, AV.selfOk, AV.src, TI.flat, apSize, pickAV, St.val, St.cond, St.fn, St.next, St.set, St.trim, wipe_eq, wipeE_app, wipeM_app, pickEnv, get?, cGet, upd_app, withPuts, killAll, rm, freshP, Oper.hnd, Sc.st, ofConst, constOk, lenAV, elemLen, loadAV, ldL, ld1, fieldAddrAV, indexAddrAV, sliceAV, convAV, buildAV, fillAV, fieldAV, Out.of, binAV, AV.rows, AV.one, AV.cells, AV.deepOk, AV.toD, toDs, partRows, partRowsM, partsDeep, TK.zeroAV, TK.zeroD, byteOf, inR, Op.operands, Call.operands, passVs, passV, passL, pass1, passB, pasVs, pasV, pasL, pas1, ownsOk, okHs, okHs2, okFin, finOk2, rho, over, backRes, backAV, backAV1, backBlk, putBack, back2, back2_V, back2_1, m2, AV.wipe, AV.wipeV, AV.wipe1, Blk.wipe, AV.hs, AV.hs.hsL, alOps, Con.start2, Con.pk, bodyQ, fini, resAV, resA, firstId, Sc.from, renEnv, renT, renV, renVs, renL, ren1, renBox, renOwn, okRen, clOf, actB, setRow, flatRows, flatD, noInv, shr_nil, shr_some, kStepF_some, shareL, AV.viewed, AV.viewed1, cTreeReadI, cLinesOf, cReadFiles, cTreeOk, cTreePutT, Con.fn, tTabR, tTab]
  try dsimp only
  have e0 : ∀ L, linesI s = L → ∀ F, rfI numS L.1.length [] L.1 = F → treeReadI numS treeI s = if L.2 = true ∧ F.2 = [] ∧ treeI F.1 = true ∧ treeT F.1 = s then (F.1, true) else ([], false) := fun L hL F hF => by unfold treeReadI; rw [hL, hF]
  obtain ⟨b1, b2⟩ := linesI_bd s
  generalize hL : linesI s = L at b1 b2 ⊢
  have hp := rfI_path (num := numS) (N := 536870912) (n := L.1.length) (t := []) (ls := L.1) (fun l hl => by have := b2 l hl; omega) (by simp)
  generalize hF : rfI numS L.1.length [] L.1 = F at hp ⊢
  have e1 := e0 L hL F hF
  have no : ¬ (L.2 = true ∧ F.2 = [] ∧ treeI F.1 = true ∧ treeT F.1 = s) → treeReadI numS treeI s = ([], false) := fun h => by rw [e1, if_neg h]
  have yes : (L.2 = true ∧ F.2 = [] ∧ treeI F.1 = true ∧ treeT F.1 = s) → treeReadI numS treeI s = (F.1, true) := fun h => by rw [e1, if_pos h]
  refine ⟨by omega, ⟨by omega, fun l hl => by have := b2 l hl; omega⟩, fun h0 _ => ⟨fun h => ?_, fun h1 => ⟨hp, fun h2 => ?_, fun h2 => ⟨okT_I h2, fun h3 => ?_, fun h3 => ?_⟩⟩⟩, fun h => ?_⟩
  · rw [no fun q => by rw [q.2.1] at h; simp at h]; exact ⟨⟨rfl, rfl⟩, rfl⟩
  · rw [no fun q => by rw [q.2.2.1] at h2; cases h2]; exact ⟨⟨rfl, rfl⟩, rfl⟩
  · rw [no fun q => h3 q.2.2.2]; exact ⟨⟨rfl, rfl⟩, rfl⟩
  · rw [yes ⟨h0, h1, h2, h3⟩]; exact ⟨⟨rfl, rfl⟩, rfl⟩
  · rw [no fun q => by rw [q.1] at h; cases h]; exact ⟨⟨rfl, rfl⟩, rfl⟩
theorem treeRead_is (s : Str) : treeReadI numS treeI s = treeReadS treeI s := treeRead_eq numS_dec okT_treeI s
theorem treeReadS_bd (s : Str) : (treeReadS treeI s).1.length ≤ 8 ∧ ∀ f ∈ (treeReadS treeI s).1, f.text.length ≤ 10 := by
  obtain ⟨h1, h2⟩ := treeReadS_ok (ok := treeI) (s := s)
  cases hb : (treeReadS treeI s).2 with
  | true =>
    obtain ⟨q1, _⟩ := h1 hb
    exact ⟨(treeI_le _ q1).1, fun f hf => (treeI_plain q1 f hf).2.1⟩
  | false => rw [h2 hb]; simp

def cFnExactTreeRead : Con := { (Con.fn 66 Str (fun s => [.str s]) (fun _ => True) (fun _ => .bool true) (fun _ => [])) with need := numNeed }
set_option maxHeartbeats 4000000 in
theorem fnExactTreeRead_has : Has Tryd.prog 5 cFnExactTreeRead := by
  refine has_walk mixed tTabR_ok (l := [(18, cTreeReadS), (19, cTreeReadI), (12, cEqFileS), (20, cMarkFileS), (21, cHeldFileS)]) (HasL.cons treeReadS_has (HasL.cons treeReadI_has (HasL.cons eqFileS_has (HasL.cons markFileS_has (HasL.cons heldFileS_has HasL.nil))))) [0, 2, 3, 4, 5, 6, 7, 8, 9, 10] ((fun a n (_ : Nat) => (fun _ => noInv) a n)) [] Tryd.func5 (by kernel_rfl) (code := _) (by unfold Tryd.f5; rfl) (by kernel_rfl) (by decide) (fun _ => ⟨(), trivial⟩) (by intro h; first | exact fun _ => rfl | cases h) (by kernel_rfl) ?_
  intro (s : Str) _
  obtain ⟨b1, b2⟩ := treeReadS_bd s
  have g7 : 1 ≤ kE (treeReadS treeI s).1 1 ∧ kE (treeReadS treeI s).1 1 ≤ 1 + 8 + 10 * 8 := kE_bd b1 b2 1
  have he := treeRead_is s
  have hm := heldFs_mark
  have hm2 := kE_marks
  simp -implicitDefEqProofs [vc_skip, extOf, vc_seq, vc_cond, vc_block, vc_exit, vc_ret, vc_region, vc_regionD, vc_loop, kSeq_normal, kSeq_ret, kSeq_exit, kBlock_normal, kBlock_ret, kBlock_exit, kLoop_normal, kLoop_ret, kLoop_exit, kCond_bool, kNorm_app, vcOps_nil, vcOps_cons, kOps_app, kStep_some, kStep_none, vcDL_nil, vcDL_cons, kOpsD_app, kStepD_true, kStepD_tt, kStepD_false, ldB, btys, btyAct, kStepC_some, kStepC_none, kMv_app, act3_store, act3_call, act3_bs, kAct_app, kSt2_app, stealSlots, stealL, stealOne, subIn, AV.stolen, act_store, act_bs, act_append, act_call, kSet_app, kSet2_app, kSetG_app, kSetG_app0, kStore_ptr, kStore_eptr, kCallW_some, kCallC_some, kCall_some, wk_T, wk_n, wk_keep, wk_inv, wk_act, wk_dr, wk_le, aCalm, wantC, dstOk, calm, aCallK, aCall3K, subOf, subRep, aCall2K, apnd, bsMove, putBox, putOwn, partAV, mvL, AV.mv, AV.base, AV.moved, kBld, bldK, wrK, stK, AV.selfOk, AV.src, TI.flat, apSize, pickAV, St.val, St.cond, St.fn, St.next, St.set, St.trim, wipe_eq, wipeE_app, wipeM_app, pickEnv, get?, cGet, upd_app, withPuts, killAll, rm, freshP, Oper.hnd, Sc.st, ofConst, constOk, lenAV, elemLen, loadAV, ldL, ld1, fieldAddrAV, indexAddrAV, sliceAV, convAV, buildAV, fillAV, fieldAV, Out.of, binAV, AV.rows, AV.one, AV.cells, AV.deepOk, AV.toD, toDs, partRows, partRowsM, partsDeep, TK.zeroAV, TK.zeroD, byteOf, inR, Op.operands, Call.operands, passVs, passV, passL, pass1, passB, pasVs, pasV, pasL, pas1, ownsOk, okHs, okHs2, okFin, finOk2, rho, over, backRes, backAV, backAV1, backBlk, putBack, back2, back2_V, back2_1, m2, AV.wipe, AV.wipeV, AV.wipe1, Blk.wipe, AV.hs, AV.hs.hsL, alOps, Con.start2, Con.pk, bodyQ, fini, resAV, resA, firstId, Sc.from, renEnv, renT, renV, renVs, renL, ren1, renBox, renOwn, okRen, clOf, actB, setRow, flatRows, flatD, noInv, shr_nil, shr_some, kStepF_some, shareL, AV.viewed, AV.viewed1, cFnExactTreeRead, cTreeReadS, cTreeReadI, cEqFileS, cMarkFileS, cHeldFileS, Con.fn, tTabR, tTab]
  try dsimp only
  rw [he]
  generalize treeReadS treeI s = R at g7 ⊢
  have q1 := hm R.1 1
  have q2 := hm2 R.1 1 1
  simp only [and_assoc, exists_eq_left, exists_and_left, q1, q2]
  cases R.2 <;> simp <;> omega

end Vx
end Go.Proofs.YthmhaggmcfemnaaDoor
/-
  What the law FnSeekTree says, in plain lists.
-/
namespace Go.Proofs.YthmhaggmcfemnaaDoor
namespace Vx
open Go.RowKit

theorem less_trans {a b c : Str} (h : Go.Op.bytesLess a b = true) (h' : Go.Op.bytesLess b c = true) : Go.Op.bytesLess a c = true := by
  rw [less_eq, decide_eq_true_eq] at *
  exact List.lt_trans h h'
theorem less_irrefl (a : Str) : Go.Op.bytesLess a a = false := by
  rw [less_eq, decide_eq_false_iff_not]
  exact List.lt_irrefl a
theorem tree_less {t : List FileD} (h : treeI t = true) : ∀ j i, (hij : i < j) → (hj : j < t.length) → Go.Op.bytesLess (t[i]'(by omega)).path t[j].path = true := by
  have hs : ∀ j, (h0 : 0 < j) → (hj : j < t.length) → Go.Op.bytesLess (t[j - 1]'(by omega)).path t[j].path = true := by
    intro j h0 hj
    simp only [treeI, Bool.and_eq_true, List.all_eq_true, List.mem_range] at h
    have h2 := (h.2 j hj).1
    simp only [headI, Bool.and_eq_true, Bool.or_eq_true, decide_eq_true_eq] at h2
    rcases h2.2 with h3 | h3
    · omega
    · simpa [List.getD_eq_getElem?_getD, hj, (show j - 1 < t.length by omega)] using h3
  intro j
  induction j with
  | zero => intro i hi; omega
  | succ j ih =>
    intro i hi hj
    have h1 := hs (j + 1) (by omega) hj
    by_cases e : i = j
    · subst e; exact h1
    · exact less_trans (ih i (by omega) (by omega)) h1
theorem tree_paths {t : List FileD} (h : treeI t = true) {i j : Nat} (hi : i < t.length) (hj : j < t.length) (he : t[i].path = t[j].path) : i = j := by
  rcases Nat.lt_trichotomy i j with h1 | h1 | h1
  · have := tree_less h j i h1 hj; rw [he, less_irrefl] at this; cases this
  · exact h1
  · have := tree_less h i j h1 hi; rw [he, less_irrefl] at this; cases this

/-- A text is in another one. -/
def partB (s p : Str) : Bool := (List.range (s.length + 1)).any fun i => decide (i + p.length ≤ s.length) && decide ((s.drop i).take p.length = p)
theorem partB_hit {s p : Str} {i : Nat} (h : i + p.length ≤ s.length) (h2 : (s.drop i).take p.length = p) : partB s p = true := by
  unfold partB
  rw [List.any_eq_true]
  exact ⟨i, List.mem_range.2 (by omega), by simp [h, h2]⟩
theorem partB_miss {s p : Str} (h : ∀ i, i + p.length ≤ s.length → (s.drop i).take p.length ≠ p) : partB s p = false := by
  unfold partB
  rw [List.any_eq_false]
  intro i _
  simp only [Bool.and_eq_true, decide_eq_true_eq, not_and]
  exact h i
theorem partB_mid (a p b : Str) : partB (a ++ (p ++ b)) p = true := partB_hit (i := a.length) (by simp) (by simp)
theorem hasP_part {w : Str} : ∀ {r c : Str}, hasP w r c = true → ∃ a b, c ++ r = a ++ (w ++ b) := by
  intro r
  induction r with
  | nil => intro c h; simp only [hasP, decide_eq_true_eq] at h; subst h; exact ⟨[], [], by simp⟩
  | cons x r ih =>
    intro c h
    simp only [hasP] at h
    split at h
    · obtain ⟨a, b, e⟩ := ih h
      exact ⟨a, b, by simpa using e⟩
    · simp only [Bool.or_eq_true, decide_eq_true_eq] at h
      rcases h with rfl | h
      · exact ⟨[], x :: r, by simp⟩
      · obtain ⟨a, b, e⟩ := ih h
        exact ⟨c ++ x :: a, b, by simpa using e⟩
theorem hasS_part {w l : Str} (h : hasS w l = true) : partB l w = true := by
  obtain ⟨a, b, e⟩ := hasP_part h
  rw [List.nil_append] at e
  rw [e]; exact partB_mid a w b
theorem hasP_word {w : Str} : ∀ {r c : Str}, (∀ x ∈ r, wordB x.toNat = true) → hasP w r c = decide (c ++ r = w) := by
  intro r
  induction r with
  | nil => intro c _; simp [hasP]
  | cons x r ih =>
    intro c h
    simp only [hasP, h x (by simp), if_true]
    rw [ih fun y hy => h y (by simp [hy])]
    simp
theorem hasS_self {w : Str} (h : nameB w = true) : hasS w w = true := by
  simp only [nameB, Bool.and_eq_true, List.all_eq_true] at h
  unfold hasS
  rw [hasP_word h.2]; simp
theorem hasS_see {w : Str} (h : nameB w = true) : hasS w ([115, 101, 101, 32] ++ w) = true := by
  have h0 := hasS_self h
  unfold hasS at h0 ⊢
  show hasP w (115 :: 101 :: 101 :: 32 :: w) [] = true
  simp only [hasP]
  rw [if_pos (by decide), if_pos (by decide), if_pos (by decide), if_neg (by decide), h0, Bool.or_true]

def pathIn (l : List Str) (p : Str) : Bool := decide (p ∈ l)
theorem seek_mem {t : List FileD} (ht : treeI t = true) (p : FileD → Bool) {i : Nat} (hi : i < t.length) : t[i].path ∈ seekL p t ↔ p t[i] = true := by
  unfold seekL
  simp only [List.mem_map, List.mem_filter]
  constructor
  · rintro ⟨f, ⟨hf, hp⟩, e⟩
    obtain ⟨j, hj, rfl⟩ := List.getElem_of_mem hf
    have := tree_paths ht hj hi e
    subst this
    exact hp
  · intro h; exact ⟨t[i], ⟨List.getElem_mem hi, h⟩, rfl⟩
theorem seek_split (p : FileD → Bool) (t : List FileD) {i : Nat} (hi : i < t.length) (hp : p t[i] = true) : (seekL p t)[(seekL p (t.take i)).length]? = some t[i].path := by
  have e : t.take i ++ (t[i] :: t.drop (i + 1)) = t := by rw [← List.drop_eq_getElem_cons hi, List.take_append_drop]
  have key : ∀ (a : List FileD) (x : FileD) (b : List FileD), p x = true → seekL p (a ++ x :: b) = seekL p a ++ (x.path :: seekL p b) := fun a x b h => by simp [seekL, List.filter_cons, h]
  have := key (t.take i) t[i] (t.drop (i + 1)) hp
  rw [e] at this
  rw [this]; simp
theorem hit_some {t : List FileD} {w : Str} {i : Nat} (hi : i < t.length) (h : hitS w t[i] = true) : ∃ l ∈ t[i].text, partB l w = true := by
  unfold hitS anyHas at h
  rw [List.any_eq_true] at h
  obtain ⟨l, hl, h⟩ := h
  exact ⟨l, hl, hasS_part h⟩
theorem hit_word {f : FileD} {w : Str} (hw : nameB w = true) (h : w ∈ f.text ∨ [115, 101, 101, 32] ++ w ∈ f.text) : hitS w f = true := by
  unfold hitS anyHas
  rw [List.any_eq_true]
  rcases h with h | h
  · exact ⟨_, h, hasS_self hw⟩
  · exact ⟨_, h, hasS_see hw⟩

/-- The lines of a file that have the word. -/
def someP (t : List Str) (w : Str) : Bool := t.any fun l => partB l w

end Vx
end Go.Proofs.YthmhaggmcfemnaaDoor
/-
  Contracts: a file put into a tree (the reference's).
-/
namespace Go.Proofs.YthmhaggmcfemnaaDoor
namespace Vx
open Go.RowKit
set_option maxRecDepth 8000

def setStep (f : FileD) (acc : List FileD × Bool) (g : FileD) : List FileD × Bool :=
  if acc.2 = false ∧ Go.Op.bytesLess g.path f.path = false then (if g.path = f.path then (acc.1 ++ [f], true) else (acc.1 ++ [f] ++ [g], true))
  else (if g.path = f.path then acc else (acc.1 ++ [g], acc.2))
def setL (f : FileD) (l : List FileD) : List FileD × Bool := l.foldl (setStep f) ([], false)
def setS (t : List FileD) (f : FileD) : List FileD := if (setL f t).2 then (setL f t).1 else (setL f t).1 ++ [f]
theorem setL_succ {f : FileD} {t : List FileD} {i : Nat} (h : i < t.length) : setL f (t.take (i + 1)) = setStep f (setL f (t.take i)) t[i] := by
  unfold setL
  rw [take_succ' h, List.foldl_append]; rfl
theorem setStep_len (f : FileD) (acc : List FileD × Bool) (g : FileD) : (setStep f acc g).1.length + acc.2.toNat ≤ acc.1.length + (setStep f acc g).2.toNat + 1 := by
  unfold setStep
  split
  · rename_i h
    rw [h.1]
    split <;> simp <;> omega
  · split <;> simp <;> omega
theorem setL_len (f : FileD) (t : List FileD) : (setL f t).1.length ≤ t.length + (setL f t).2.toNat := by
  have : ∀ (t : List FileD) (acc : List FileD × Bool), (t.foldl (setStep f) acc).1.length + acc.2.toNat ≤ acc.1.length + t.length + (t.foldl (setStep f) acc).2.toNat := by
    intro t
    induction t with
    | nil => intro acc; simp
    | cons g r ih =>
      intro acc
      have h1 := ih (setStep f acc g)
      have h2 := setStep_len f acc g
      simp only [List.foldl_cons, List.length_cons]
      omega
  have := this t ([], false)
  simpa [setL] using this
theorem setL_mem (f : FileD) (t : List FileD) : ∀ g ∈ (setL f t).1, g ∈ t ∨ g = f := by
  have : ∀ (t : List FileD) (acc : List FileD × Bool), ∀ g ∈ (t.foldl (setStep f) acc).1, g ∈ acc.1 ∨ g ∈ t ∨ g = f := by
    intro t
    induction t with
    | nil => intro acc g hg; exact .inl hg
    | cons x r ih =>
      intro acc g hg
      rcases ih (setStep f acc x) g hg with h | h | h
      · unfold setStep at h
        split at h
        · split at h
          · simp at h; rcases h with h | h
            · exact .inl h
            · exact .inr (.inr h)
          · simp at h; rcases h with h | h | h
            · exact .inl h
            · exact .inr (.inr h)
            · exact .inr (.inl (by simp [h]))
        · split at h
          · exact .inl h
          · simp at h; rcases h with h | h
            · exact .inl h
            · exact .inr (.inl (by simp [h]))
      · exact .inr (.inl (by simp [h]))
      · exact .inr (.inr h)
  intro g hg
  rcases this t ([], false) g hg with h | h
  · simp at h
  · exact h
theorem setS_len (t : List FileD) (f : FileD) : (setS t f).length ≤ t.length + 1 := by
  have := setL_len f t
  unfold setS
  split
  · rename_i h; rw [h] at this; simpa using this
  · rename_i h
    have h : (setL f t).2 = false := by simpa using h
    rw [h] at this; simp at this ⊢; omega
theorem setS_mem (t : List FileD) (f : FileD) : ∀ g ∈ setS t f, g ∈ t ∨ g = f := by
  intro g hg
  unfold setS at hg
  split at hg
  · exact setL_mem f t g hg
  · rcases List.mem_append.1 hg with h | h
    · exact setL_mem f t g h
    · simp at h; exact .inr h

def cL4Set : Con := .fn 65 (List FileD × FileD) (fun a => [.sl true 2 (eFiles a.1), .agg [.str a.2.path, .sl true 1 (eStrs a.2.text)]]) (fun a => a.1.length ≤ 1048576 ∧ a.2.text.length ≤ 1048576) (fun a => .sl false 2 (eFiles (setS a.1 a.2))) (fun _ => [])
set_option maxHeartbeats 4000000 in
theorem l4Set_has : Has Tryd.prog 105 cL4Set := by
  refine has_walk mixed tTab_ok (l := []) HasL.nil [0, 1, 3, 4, 5, 6, 7] ((fun a n (_ : Nat) => (fun a _ => ⟨Nat, fun i => ⟨[(0, true, .sl true 2 (eFiles a.1)), (3, true, .ptr 10 0), (4, true, .nil), (5, true, .own 9 2 (eFiles (setL a.2 (a.1.take i)).1)), (6, true, .bool (setL a.2 (a.1.take i)).2), (7, true, .int .i64 i)], [(10, .box 55 [.str a.2.path, .sl true 1 (eStrs a.2.text)]), (9, .own 55 2 false (eFiles (setL a.2 (a.1.take i)).1))]⟩, fun i => i ≤ a.1.length, fun i => a.1.length - i⟩) a n)) [35, 62] Tryd.func105 (by kernel_rfl) (code := _) (by unfold Tryd.f105; rfl) (by kernel_rfl) (by decide) (fun _ => ⟨(), trivial⟩) (by intro h; first | exact fun _ => rfl | cases h) (by kernel_rfl) ?_
  intro a ha
  obtain ⟨t, f⟩ := a
  obtain ⟨q1, q2⟩ : t.length ≤ 1048576 ∧ f.text.length ≤ 1048576 := ha
  have a0 : setL f [] = ([], false) := rfl
  have a1 : ∀ i (h : i < t.length), (setL f (t.take i)).2 = true → ¬ t[i].path = f.path → setL f (t.take (i + 1)) = ((setL f (t.take i)).1 ++ [t[i]], true) := fun i h h1 h2 => by rw [setL_succ h]; simp [setStep, h1, h2]
  have a2 : ∀ i (h : i < t.length), (setL f (t.take i)).2 = true → t[i].path = f.path → setL f (t.take (i + 1)) = ((setL f (t.take i)).1, true) := fun i h h1 h2 => by rw [setL_succ h]; unfold setStep; rw [if_neg (by simp [h1]), if_pos h2]; exact Prod.ext rfl h1
  have a3 : ∀ i (h : i < t.length), (setL f (t.take i)).2 = false → Go.Op.bytesLess t[i].path f.path = false → ¬ t[i].path = f.path → setL f (t.take (i + 1)) = ((setL f (t.take i)).1 ++ [f] ++ [t[i]], true) := fun i h h1 h3 h2 => by rw [setL_succ h]; simp [setStep, h1, h2, h3]
  have a4 : ∀ i (h : i < t.length), (setL f (t.take i)).2 = false → Go.Op.bytesLess t[i].path f.path = false → t[i].path = f.path → setL f (t.take (i + 1)) = ((setL f (t.take i)).1 ++ [f], true) := fun i h h1 h3 h2 => by rw [setL_succ h]; rw [h2] at h3; simp [setStep, h1, h2, h3]
  have a5 : ∀ i (h : i < t.length), (setL f (t.take i)).2 = false → Go.Op.bytesLess t[i].path f.path = true → ¬ t[i].path = f.path → setL f (t.take (i + 1)) = ((setL f (t.take i)).1 ++ [t[i]], false) := fun i h h1 h3 h2 => by rw [setL_succ h]; simp [setStep, h1, h2, h3]
  have a6 : ∀ i (h : i < t.length), (setL f (t.take i)).2 = false → Go.Op.bytesLess t[i].path f.path = true → t[i].path = f.path → setL f (t.take (i + 1)) = ((setL f (t.take i)).1, false) := fun i h h1 h3 h2 => by rw [setL_succ h]; unfold setStep; rw [if_neg (by simp [h3]), if_pos h2]; exact Prod.ext rfl h1
  have a7 : ∀ i, (setL f (t.take i)).1.length ≤ 1048577 := fun i => by
    have h1 := setL_len f (t.take i)
    have h2 := Bool.toNat_le (setL f (t.take i)).2
    have h3 : (t.take i).length ≤ t.length := by simp; omega
    omega
  have a8 : (setL f t).2 = true → setS t f = (setL f t).1 := fun h => by simp [setS, h]
  have a9 : (setL f t).2 = false → setS t f = (setL f t).1 ++ [f] := fun h => by simp [setS, h]
  simp -implicitDefEqProofs [vc_skip, extOf, vc_seq, vc_cond, vc_block, vc_exit, vc_ret, vc_region, vc_regionD, vc_loop, kSeq_normal, kSeq_ret, kSeq_exit, kBlock_normal, kBlock_ret, kBlock_exit, kLoop_normal, kLoop_ret, kLoop_exit, kCond_bool, kNorm_app, vcOps_nil, vcOps_cons, kOps_app, kStep_some, kStep_none, vcDL_nil, vcDL_cons, kOpsD_app, kStepD_true, kStepD_tt, kStepD_false, ldB, btys, btyAct, kStepC_some, kStepC_none, kMv_app, act3_store, act3_call, act3_bs, kAct_app, kSt2_app, stealSlots, stealL, stealOne, subIn, AV.stolen, act_store, act_bs, act_append, act_call, kSet_app, kSet2_app, kSetG_app, kSetG_app0, kStore_ptr, kStore_eptr, kCallW_some, kCallC_some, kCall_some, wk_T, wk_n, wk_keep, wk_inv, wk_act, wk_dr, wk_le, aCalm, wantC, dstOk, calm, aCallK, aCall3K, subOf, subRep, aCall2K, apnd, bsMove, putBox, putOwn, partAV, mvL, AV.mv, AV.base, AV.moved, kBld, bldK, wrK, stK, AV.selfOk, AV.src, TI.flat, apSize, pickAV, St.val, St.cond, St.fn, St.next, St.set, St.trim, wipe_eq, wipeE_app, wipeM_app, pickEnv, get?, cGet, upd_app, withPuts, killAll, rm, freshP, Oper.hnd, Sc.st, ofConst, constOk, lenAV, elemLen, loadAV, ldL, ld1, fieldAddrAV, indexAddrAV, sliceAV, convAV, buildAV, fillAV, fieldAV, Out.of, binAV, AV.rows, AV.one, AV.cells, AV.deepOk, AV.toD, toDs, partRows, partRowsM, partsDeep, TK.zeroAV, TK.zeroD, byteOf, inR, Op.operands, Call.operands, passVs, passV, passL, pass1, passB, pasVs, pasV, pasL, pas1, ownsOk, okHs, okHs2, okFin, finOk2, rho, over, backRes, backAV, backAV1, backBlk, putBack, back2, back2_V, back2_1, m2, AV.wipe, AV.wipeV, AV.wipe1, Blk.wipe, AV.hs, AV.hs.hsL, alOps, Con.start2, Con.pk, bodyQ, fini, resAV, resA, firstId, Sc.from, renEnv, renT, renV, renVs, renL, ren1, renBox, renOwn, okRen, clOf, actB, setRow, flatRows, flatD, noInv, shr_nil, shr_some, kStepF_some, shareL, AV.viewed, AV.viewed1, cL4Set, Con.fn, tTab]
  try dsimp only
  have b1 : ∀ (X : List FileD) (g : FileD), eFiles X ++ [[D.str f.path, D.sl 9 1 (eStrs f.text)], [D.str g.path, D.sl 9 1 (eStrs g.text)]] = eFiles (X ++ [f] ++ [g]) := fun X g => by simp [eFiles, eFile]
  refine ⟨⟨0, by simp [a0]⟩, ?_⟩
  try simp +contextual [eStr, eFile, cast_succ, cast_eq, cast_zero, List.getElem?_eq_getElem, eStrs_set, eFiles_set, eStrs_rep, eFiles_rep, ← eStrs_append, ← eFiles_append, eStrs_take, eStrs_drop, eFiles_take, eFiles_drop, eStrs_snoc, eFiles_snoc, and_assoc, b1, ← FileD.eq_iff]
  repeat' (first | intro _ | apply And.intro)
  all_goals first | omega | grind [all_take, eStrs_str, List.take_of_length_le]

end Vx
end Go.Proofs.YthmhaggmcfemnaaDoor
/-
  Contracts: draws of lines, paths, texts.
-/
namespace Go.Proofs.YthmhaggmcfemnaaDoor
namespace Vx
open Go.RowKit
set_option maxRecDepth 8000

theorem eStrs_isCons (b : List Str) (x : Str) (R : List (List D)) : (eStrs b = [D.str x] :: R) = ∃ t, b = x :: t ∧ eStrs t = R := by
  apply propext
  constructor
  · intro h
    cases b with
    | nil => cases h
    | cons y t =>
      simp only [eStrs, List.map_cons, List.cons.injEq, eStr, D.str.injEq, and_true] at h
      exact ⟨t, by rw [h.1], h.2⟩
  · rintro ⟨t, rfl, rfl⟩; rfl
theorem eInts_isCons (b : List Int) (x : Int) (R : List (List D)) : (eInts b = [D.int .i64 x] :: R) = ∃ t, b = x :: t ∧ eInts t = R := by
  apply propext
  constructor
  · intro h
    cases b with
    | nil => cases h
    | cons y t =>
      simp only [eInts, List.map_cons, List.cons.injEq, eInt, D.int.injEq, true_and, and_true] at h
      exact ⟨t, by rw [h.1], h.2⟩
  · rintro ⟨t, rfl, rfl⟩; rfl
/-- A contract of a function that draws: the code and the place; the place goes on by at most m. -/
def cLine : Con := { A := Str × Int, X := Str, n := 6, args := fun _ => [.ptr 0 0], boxes := fun a => [(0, 116, [.sl true 1 (eBytes a.1), .int .i64 a.2])], pre := fun a => a.1.length ≤ 2000 ∧ 0 ≤ a.2 ∧ a.2 ≤ 1073741824, post := fun _ x => x.length ≤ 7, res := fun _ x => .str x, fin := fun a _ => [(0, rdBox a.1 (a.2 + 1))], nob := false }
set_option maxHeartbeats 4000000 in
theorem line_has : Has Tryd.prog 107 cLine := by
  refine has_walk mixed tTab_ok (l := [(93, cOf)]) (HasL.cons of_has HasL.nil) [0, 2] ((fun a n (_ : Nat) => (fun _ => noInv) a n)) [] Tryd.func107 (by kernel_rfl) (code := _) (by unfold Tryd.f107; rfl) (by kernel_rfl) (by decide) (fun _ => ⟨([] : Str), Nat.zero_le 7⟩) (by intro h; first | exact fun _ => rfl | cases h) (by kernel_rfl) ?_
  intro a ha
  obtain ⟨s, p⟩ := a
  obtain ⟨h1, h2, h3⟩ : s.length ≤ 2000 ∧ 0 ≤ p ∧ p ≤ 1073741824 := ha
  simp -implicitDefEqProofs [vc_skip, extOf, vc_seq, vc_cond, vc_block, vc_exit, vc_ret, vc_region, vc_regionD, vc_loop, kSeq_normal, kSeq_ret, kSeq_exit, kBlock_normal, kBlock_ret, kBlock_exit, kLoop_normal, kLoop_ret, kLoop_exit, kCond_bool, kNorm_app, vcOps_nil, vcOps_cons, kOps_app, kStep_some, kStep_none, vcDL_nil, vcDL_cons, kOpsD_app, kStepD_true, kStepD_tt, kStepD_false, ldB, btys, btyAct, kStepC_some, kStepC_none, kMv_app, act3_store, act3_call, act3_bs, kAct_app, kSt2_app, stealSlots, stealL, stealOne, subIn, AV.stolen, act_store, act_bs, act_append, act_call, kSet_app, kSet2_app, kSetG_app, kSetG_app0, kStore_ptr, kStore_eptr, kCallW_some, kCallC_some, kCall_some, wk_T, wk_n, wk_keep, wk_inv, wk_act, wk_dr, wk_le, aCalm, wantC, dstOk, calm, aCallK, aCall3K, subOf, subRep, aCall2K, apnd, bsMove, putBox, putOwn, partAV, mvL, AV.mv, AV.base, AV.moved, kBld, bldK, wrK, stK, AV.selfOk, AV.src, TI.flat, apSize, pickAV, St.val, St.cond, St.fn, St.next, St.set, St.trim, wipe_eq, wipeE_app, wipeM_app, pickEnv, get?, cGet, upd_app, withPuts, killAll, rm, freshP, Oper.hnd, Sc.st, ofConst, constOk, lenAV, elemLen, loadAV, ldL, ld1, fieldAddrAV, indexAddrAV, sliceAV, convAV, buildAV, fillAV, fieldAV, Out.of, binAV, AV.rows, AV.one, AV.cells, AV.deepOk, AV.toD, toDs, partRows, partRowsM, partsDeep, TK.zeroAV, TK.zeroD, byteOf, inR, Op.operands, Call.operands, passVs, passV, passL, pass1, passB, pasVs, pasV, pasL, pas1, ownsOk, okHs, okHs2, okFin, finOk2, rho, over, backRes, backAV, backAV1, backBlk, putBack, back2, back2_V, back2_1, m2, AV.wipe, AV.wipeV, AV.wipe1, Blk.wipe, AV.hs, AV.hs.hsL, alOps, Con.start2, Con.pk, bodyQ, fini, resAV, resA, firstId, Sc.from, renEnv, renT, renV, renVs, renL, ren1, renBox, renOwn, okRen, clOf, actB, setRow, flatRows, flatD, noInv, shr_nil, shr_some, kStepF_some, shareL, AV.viewed, AV.viewed1, cLine, cOf, tTab, eStrs_isCons, clash, kd, eByte, all_true]
  refine ⟨s, p, ⟨rfl, rfl⟩, ⟨h1, h2, h3⟩, ?_⟩
  simp
def cPath : Con := { A := Str × Int, X := Str, n := 6, args := fun _ => [.ptr 0 0], boxes := fun a => [(0, 116, [.sl true 1 (eBytes a.1), .int .i64 a.2])], pre := fun a => a.1.length ≤ 2000 ∧ 0 ≤ a.2 ∧ a.2 ≤ 1073741824, post := fun _ x => x.length ≤ 5, res := fun _ x => .str x, fin := fun a _ => [(0, rdBox a.1 (a.2 + 1))], nob := false }
set_option maxHeartbeats 4000000 in
theorem path_has : Has Tryd.prog 90 cPath := by
  refine has_walk mixed tTab_ok (l := [(93, cOf)]) (HasL.cons of_has HasL.nil) [0, 2] ((fun a n (_ : Nat) => (fun _ => noInv) a n)) [] Tryd.func90 (by kernel_rfl) (code := _) (by unfold Tryd.f90; rfl) (by kernel_rfl) (by decide) (fun _ => ⟨([] : Str), Nat.zero_le 5⟩) (by intro h; first | exact fun _ => rfl | cases h) (by kernel_rfl) ?_
  intro a ha
  obtain ⟨s, p⟩ := a
  obtain ⟨h1, h2, h3⟩ : s.length ≤ 2000 ∧ 0 ≤ p ∧ p ≤ 1073741824 := ha
  simp -implicitDefEqProofs [vc_skip, extOf, vc_seq, vc_cond, vc_block, vc_exit, vc_ret, vc_region, vc_regionD, vc_loop, kSeq_normal, kSeq_ret, kSeq_exit, kBlock_normal, kBlock_ret, kBlock_exit, kLoop_normal, kLoop_ret, kLoop_exit, kCond_bool, kNorm_app, vcOps_nil, vcOps_cons, kOps_app, kStep_some, kStep_none, vcDL_nil, vcDL_cons, kOpsD_app, kStepD_true, kStepD_tt, kStepD_false, ldB, btys, btyAct, kStepC_some, kStepC_none, kMv_app, act3_store, act3_call, act3_bs, kAct_app, kSt2_app, stealSlots, stealL, stealOne, subIn, AV.stolen, act_store, act_bs, act_append, act_call, kSet_app, kSet2_app, kSetG_app, kSetG_app0, kStore_ptr, kStore_eptr, kCallW_some, kCallC_some, kCall_some, wk_T, wk_n, wk_keep, wk_inv, wk_act, wk_dr, wk_le, aCalm, wantC, dstOk, calm, aCallK, aCall3K, subOf, subRep, aCall2K, apnd, bsMove, putBox, putOwn, partAV, mvL, AV.mv, AV.base, AV.moved, kBld, bldK, wrK, stK, AV.selfOk, AV.src, TI.flat, apSize, pickAV, St.val, St.cond, St.fn, St.next, St.set, St.trim, wipe_eq, wipeE_app, wipeM_app, pickEnv, get?, cGet, upd_app, withPuts, killAll, rm, freshP, Oper.hnd, Sc.st, ofConst, constOk, lenAV, elemLen, loadAV, ldL, ld1, fieldAddrAV, indexAddrAV, sliceAV, convAV, buildAV, fillAV, fieldAV, Out.of, binAV, AV.rows, AV.one, AV.cells, AV.deepOk, AV.toD, toDs, partRows, partRowsM, partsDeep, TK.zeroAV, TK.zeroD, byteOf, inR, Op.operands, Call.operands, passVs, passV, passL, pass1, passB, pasVs, pasV, pasL, pas1, ownsOk, okHs, okHs2, okFin, finOk2, rho, over, backRes, backAV, backAV1, backBlk, putBack, back2, back2_V, back2_1, m2, AV.wipe, AV.wipeV, AV.wipe1, Blk.wipe, AV.hs, AV.hs.hsL, alOps, Con.start2, Con.pk, bodyQ, fini, resAV, resA, firstId, Sc.from, renEnv, renT, renV, renVs, renL, ren1, renBox, renOwn, okRen, clOf, actB, setRow, flatRows, flatD, noInv, shr_nil, shr_some, kStepF_some, shareL, AV.viewed, AV.viewed1, cPath, cOf, tTab, eStrs_isCons, clash, kd, eByte, all_true]
  refine ⟨s, p, ⟨rfl, rfl⟩, ⟨h1, h2, h3⟩, ?_⟩
  simp

def cText : Con := { A := Str × Int, X := List Str × Int, n := 19, args := fun _ => [.ptr 0 0], boxes := fun a => [(0, 116, [.sl true 1 (eBytes a.1), .int .i64 a.2])], pre := fun a => a.1.length ≤ 2000 ∧ 0 ≤ a.2 ∧ a.2 ≤ 1073741800, post := fun a x => x.1.length ≤ 8 ∧ (∀ s ∈ x.1, s.length ≤ 7) ∧ a.2 ≤ x.2 ∧ x.2 ≤ a.2 + 9, res := fun _ x => .own 8 1 (eStrs x.1), fin := fun a x => [(0, rdBox a.1 x.2), (8, .own 9 1 true (eStrs x.1))], nob := false }
set_option maxHeartbeats 4000000 in
theorem text_has : Has Tryd.prog 91 cText := by
  refine has_walk mixed tTab_ok (l := [(106, cOne), (107, cLine)]) (HasL.cons one_has (HasL.cons line_has HasL.nil)) [0, 2, 3, 4] ((fun a n (_ : Nat) => (fun a _ => ⟨List Str × Int × Nat, fun t => ⟨[(0, true, .ptr 0 0), (2, true, .nil), (3, true, .own 9 1 (eStrs t.1)), (4, true, .int .i64 t.2.2)], [(0, rdBox a.1 t.2.1), (9, .own 9 1 true (eStrs t.1))]⟩, fun t => t.1.length + t.2.2 ≤ 8 ∧ (∀ s ∈ t.1, s.length ≤ 7) ∧ a.2 ≤ t.2.1 ∧ t.2.1 ≤ a.2 + 1 + t.1.length, fun t => t.2.2⟩) a n)) [] Tryd.func91 (by kernel_rfl) (code := _) (by unfold Tryd.f91; rfl) (by kernel_rfl) (by decide) (fun a => ⟨(([] : List Str), a.2), Nat.zero_le 8, (by simp), Int.le_refl _, by omega⟩) (by intro h; first | exact fun _ => rfl | cases h) (by kernel_rfl) ?_
  intro a ha
  obtain ⟨s, p⟩ := a
  obtain ⟨h1, h2, h3⟩ : s.length ≤ 2000 ∧ 0 ≤ p ∧ p ≤ 1073741800 := ha
  simp -implicitDefEqProofs [vc_skip, extOf, vc_seq, vc_cond, vc_block, vc_exit, vc_ret, vc_region, vc_regionD, vc_loop, kSeq_normal, kSeq_ret, kSeq_exit, kBlock_normal, kBlock_ret, kBlock_exit, kLoop_normal, kLoop_ret, kLoop_exit, kCond_bool, kNorm_app, vcOps_nil, vcOps_cons, kOps_app, kStep_some, kStep_none, vcDL_nil, vcDL_cons, kOpsD_app, kStepD_true, kStepD_tt, kStepD_false, ldB, btys, btyAct, kStepC_some, kStepC_none, kMv_app, act3_store, act3_call, act3_bs, kAct_app, kSt2_app, stealSlots, stealL, stealOne, subIn, AV.stolen, act_store, act_bs, act_append, act_call, kSet_app, kSet2_app, kSetG_app, kSetG_app0, kStore_ptr, kStore_eptr, kCallW_some, kCallC_some, kCall_some, wk_T, wk_n, wk_keep, wk_inv, wk_act, wk_dr, wk_le, aCalm, wantC, dstOk, calm, aCallK, aCall3K, subOf, subRep, aCall2K, apnd, bsMove, putBox, putOwn, partAV, mvL, AV.mv, AV.base, AV.moved, kBld, bldK, wrK, stK, AV.selfOk, AV.src, TI.flat, apSize, pickAV, St.val, St.cond, St.fn, St.next, St.set, St.trim, wipe_eq, wipeE_app, wipeM_app, pickEnv, get?, cGet, upd_app, withPuts, killAll, rm, freshP, Oper.hnd, Sc.st, ofConst, constOk, lenAV, elemLen, loadAV, ldL, ld1, fieldAddrAV, indexAddrAV, sliceAV, convAV, buildAV, fillAV, fieldAV, Out.of, binAV, AV.rows, AV.one, AV.cells, AV.deepOk, AV.toD, toDs, partRows, partRowsM, partsDeep, TK.zeroAV, TK.zeroD, byteOf, inR, Op.operands, Call.operands, passVs, passV, passL, pass1, passB, pasVs, pasV, pasL, pas1, ownsOk, okHs, okHs2, okFin, finOk2, rho, over, backRes, backAV, backAV1, backBlk, putBack, back2, back2_V, back2_1, m2, AV.wipe, AV.wipeV, AV.wipe1, Blk.wipe, AV.hs, AV.hs.hsL, alOps, Con.start2, Con.pk, bodyQ, fini, resAV, resA, firstId, Sc.from, renEnv, renT, renV, renVs, renL, ren1, renBox, renOwn, okRen, clOf, actB, setRow, flatRows, flatD, noInv, shr_nil, shr_some, kStepF_some, shareL, AV.viewed, AV.viewed1, cText, cOne, cLine, tTab, eInts_isCons, clash, kd, eByte, all_true]
  refine ⟨s, p, ⟨rfl, rfl⟩, ⟨h1, by omega, by omega⟩, ?_⟩
  refine ⟨⟨⟨[], p + 1, 0, by simp; omega⟩, ?_⟩, ⟨⟨[], p + 1, 1, by simp; omega⟩, ?_⟩, ⟨⟨[], p + 1, 3, by simp; omega⟩, ?_⟩, ⟨⟨[], p + 1, 5, by simp; omega⟩, ?_⟩, ⟨[], p + 1, 8, by simp; omega⟩, ?_⟩
  all_goals
    intro a q n g1 g2 g3 g4
    refine ⟨fun hn => ⟨s, q, ⟨rfl, rfl⟩, ⟨h1, by omega, by omega⟩, fun y hy => ⟨by omega, by omega, fun _ _ => ⟨a ++ [y], q + 1, n - 1, ⟨⟨(eStrs_snoc a y).symm, by omega⟩, ⟨rfl, rfl⟩, eStrs_snoc a y⟩, ⟨by simp; omega, fun x hx => ?_, by omega, by simp; omega⟩, by omega⟩⟩⟩, fun hn => ⟨a, q, ⟨by omega, g2, by omega, by omega⟩, rfl, rfl, rfl⟩⟩
    rcases List.mem_append.1 hx with hx | hx
    · exact g2 x hx
    · simp at hx; subst hx; exact hy

end Vx
end Go.Proofs.YthmhaggmcfemnaaDoor
/-
  Contracts: trees drawn.
-/
namespace Go.Proofs.YthmhaggmcfemnaaDoor
namespace Vx
open Go.RowKit
set_option maxRecDepth 8000

def treeSetS (t : List FileD) (f : FileD) : List FileD × Bool := if treeS t then (if treeS (setS t f) then (setS t f, true) else (t, false)) else ([], false)
theorem treeSetS_len (t : List FileD) (f : FileD) : (treeSetS t f).1.length ≤ t.length + 1 := by
  have := setS_len t f
  unfold treeSetS
  split
  · split <;> simp <;> omega
  · simp
theorem treeSetS_mem (t : List FileD) (f : FileD) : ∀ g ∈ (treeSetS t f).1, g ∈ t ∨ g = f := by
  intro g hg
  unfold treeSetS at hg
  split at hg
  · split at hg
    · exact setS_mem t f g hg
    · exact .inl hg
  · simp at hg

def cTreeSetS : Con := .fn 20 (List FileD × FileD) (fun a => [.sl true 2 (eFiles a.1), .agg [.str a.2.path, .sl true 1 (eStrs a.2.text)]]) (fun a => (a.1.length ≤ 1048575 ∧ ∀ f ∈ a.1, f.text.length ≤ 1048576) ∧ a.2.text.length ≤ 1048576) (fun a => .tup [.sl false 2 (eFiles (treeSetS a.1 a.2).1), .bool (treeSetS a.1 a.2).2]) (fun _ => [])
set_option maxHeartbeats 4000000 in
theorem treeSetS_has : Has Tryd.prog 89 cTreeSetS := by
  refine has_walk mixed tTab_ok (l := [(27, cL4Ok), (92, cL4Copy), (105, cL4Set)]) (HasL.cons l4Ok_has (HasL.cons l4Copy_has (HasL.cons l4Set_has HasL.nil))) [0, 1, 3, 4, 5, 6] ((fun a n (_ : Nat) => (fun _ => noInv) a n)) [] Tryd.func89 (by kernel_rfl) (code := _) (by unfold Tryd.f89; rfl) (by kernel_rfl) (by decide) (fun _ => ⟨(), trivial⟩) (by intro h; first | exact fun _ => rfl | cases h) (by kernel_rfl) ?_
  intro a ha
  obtain ⟨t, f⟩ := a
  obtain ⟨⟨q1, q2⟩, q3⟩ : (t.length ≤ 1048575 ∧ ∀ f ∈ t, f.text.length ≤ 1048576) ∧ f.text.length ≤ 1048576 := ha
  simp -implicitDefEqProofs [vc_skip, extOf, vc_seq, vc_cond, vc_block, vc_exit, vc_ret, vc_region, vc_regionD, vc_loop, kSeq_normal, kSeq_ret, kSeq_exit, kBlock_normal, kBlock_ret, kBlock_exit, kLoop_normal, kLoop_ret, kLoop_exit, kCond_bool, kNorm_app, vcOps_nil, vcOps_cons, kOps_app, kStep_some, kStep_none, vcDL_nil, vcDL_cons, kOpsD_app, kStepD_true, kStepD_tt, kStepD_false, ldB, btys, btyAct, kStepC_some, kStepC_none, kMv_app, act3_store, act3_call, act3_bs, kAct_app, kSt2_app, stealSlots, stealL, stealOne, subIn, AV.stolen, act_store, act_bs, act_append, act_call, kSet_app, kSet2_app, kSetG_app, kSetG_app0, kStore_ptr, kStore_eptr, kCallW_some, kCallC_some, kCall_some, wk_T, wk_n, wk_keep, wk_inv, wk_act, wk_dr, wk_le, aCalm, wantC, dstOk, calm, aCallK, aCall3K, subOf, subRep, aCall2K, apnd, bsMove, putBox, putOwn, partAV, mvL, AV.mv, AV.base, AV.moved, kBld, bldK, wrK, stK, AV.selfOk, AV.src, TI.flat, apSize, pickAV, St.val, St.cond, St.fn, St.next, St.set, St.trim, wipe_eq, wipeE_app, wipeM_app, pickEnv, get?, cGet, upd_app, withPuts, killAll, rm, freshP, Oper.hnd, Sc.st, ofConst, constOk, lenAV, elemLen, loadAV, ldL, ld1, fieldAddrAV, indexAddrAV, sliceAV, convAV, buildAV, fillAV, fieldAV, Out.of, binAV, AV.rows, AV.one, AV.cells, AV.deepOk, AV.toD, toDs, partRows, partRowsM, partsDeep, TK.zeroAV, TK.zeroD, byteOf, inR, Op.operands, Call.operands, passVs, passV, passL, pass1, passB, pasVs, pasV, pasL, pas1, ownsOk, okHs, okHs2, okFin, finOk2, rho, over, backRes, backAV, backAV1, backBlk, putBack, back2, back2_V, back2_1, m2, AV.wipe, AV.wipeV, AV.wipe1, Blk.wipe, AV.hs, AV.hs.hsL, alOps, Con.start2, Con.pk, bodyQ, fini, resAV, resA, firstId, Sc.from, renEnv, renT, renV, renVs, renL, ren1, renBox, renOwn, okRen, clOf, actB, setRow, flatRows, flatD, noInv, shr_nil, shr_some, kStepF_some, shareL, AV.viewed, AV.viewed1, cTreeSetS, Con.fn, tTab, cL4Ok, cL4Copy, cL4Set, treeSetS]
  try dsimp only
  try simp +contextual -implicitDefEqProofs [eStr, eFile, cast_succ, cast_eq, cast_zero, List.getElem?_eq_getElem, eStrs_set, eFiles_set, eStrs_rep, eFiles_rep, ← eStrs_append, ← eFiles_append, eStrs_take, eStrs_drop, eFiles_take, eFiles_drop, eStrs_snoc, eFiles_snoc, and_assoc]
  repeat' (first | intro _ | apply And.intro)
  all_goals first | omega | grind [all_take, treeSetS]

def cAnyPath : Con := { A := Str × Int, X := Str, n := 11, args := fun _ => [.ptr 0 0], boxes := fun a => [(0, 116, [.sl true 1 (eBytes a.1), .int .i64 a.2])], pre := fun a => a.1.length ≤ 2000 ∧ 0 ≤ a.2 ∧ a.2 ≤ 1073741800, post := fun _ x => x.length ≤ 7, res := fun _ x => .str x, fin := fun a _ => [(0, rdBox a.1 (a.2 + 2))], nob := false }
set_option maxHeartbeats 4000000 in
theorem anyPath_has : Has Tryd.prog 85 cAnyPath := by
  refine has_walk mixed tTab_ok (l := [(56, cPick), (93, cOf), (90, cPath)]) (HasL.cons pick_has (HasL.cons of_has (HasL.cons path_has HasL.nil))) [0, 2] ((fun a n (_ : Nat) => (fun _ => noInv) a n)) [] Tryd.func85 (by kernel_rfl) (code := _) (by unfold Tryd.f85; rfl) (by kernel_rfl) (by decide) (fun _ => ⟨([] : Str), Nat.zero_le 7⟩) (by intro h; first | exact fun _ => rfl | cases h) (by kernel_rfl) ?_
  intro a ha
  obtain ⟨s, p⟩ := a
  obtain ⟨h1, h2, h3⟩ : s.length ≤ 2000 ∧ 0 ≤ p ∧ p ≤ 1073741800 := ha
  simp -implicitDefEqProofs [vc_skip, extOf, vc_seq, vc_cond, vc_block, vc_exit, vc_ret, vc_region, vc_regionD, vc_loop, kSeq_normal, kSeq_ret, kSeq_exit, kBlock_normal, kBlock_ret, kBlock_exit, kLoop_normal, kLoop_ret, kLoop_exit, kCond_bool, kNorm_app, vcOps_nil, vcOps_cons, kOps_app, kStep_some, kStep_none, vcDL_nil, vcDL_cons, kOpsD_app, kStepD_true, kStepD_tt, kStepD_false, ldB, btys, btyAct, kStepC_some, kStepC_none, kMv_app, act3_store, act3_call, act3_bs, kAct_app, kSt2_app, stealSlots, stealL, stealOne, subIn, AV.stolen, act_store, act_bs, act_append, act_call, kSet_app, kSet2_app, kSetG_app, kSetG_app0, kStore_ptr, kStore_eptr, kCallW_some, kCallC_some, kCall_some, wk_T, wk_n, wk_keep, wk_inv, wk_act, wk_dr, wk_le, aCalm, wantC, dstOk, calm, aCallK, aCall3K, subOf, subRep, aCall2K, apnd, bsMove, putBox, putOwn, partAV, mvL, AV.mv, AV.base, AV.moved, kBld, bldK, wrK, stK, AV.selfOk, AV.src, TI.flat, apSize, pickAV, St.val, St.cond, St.fn, St.next, St.set, St.trim, wipe_eq, wipeE_app, wipeM_app, pickEnv, get?, cGet, upd_app, withPuts, killAll, rm, freshP, Oper.hnd, Sc.st, ofConst, constOk, lenAV, elemLen, loadAV, ldL, ld1, fieldAddrAV, indexAddrAV, sliceAV, convAV, buildAV, fillAV, fieldAV, Out.of, binAV, AV.rows, AV.one, AV.cells, AV.deepOk, AV.toD, toDs, partRows, partRowsM, partsDeep, TK.zeroAV, TK.zeroD, byteOf, inR, Op.operands, Call.operands, passVs, passV, passL, pass1, passB, pasVs, pasV, pasL, pas1, ownsOk, okHs, okHs2, okFin, finOk2, rho, over, backRes, backAV, backAV1, backBlk, putBack, back2, back2_V, back2_1, m2, AV.wipe, AV.wipeV, AV.wipe1, Blk.wipe, AV.hs, AV.hs.hsL, alOps, Con.start2, Con.pk, bodyQ, fini, resAV, resA, firstId, Sc.from, renEnv, renT, renV, renVs, renL, ren1, renBox, renOwn, okRen, clOf, actB, setRow, flatRows, flatD, noInv, shr_nil, shr_some, kStepF_some, shareL, AV.viewed, AV.viewed1, cAnyPath, cPick, cOf, cPath, tTab, eStrs_isCons, clash, kd, eByte, all_true]
  have e : p + 2 = p + 1 + 1 := by omega
  refine ⟨s, p, ⟨rfl, rfl⟩, ⟨h1, by omega, by omega⟩, fun y _ _ => ⟨fun _ => ⟨s, p + 1, ⟨rfl, rfl⟩, ⟨h1, by omega, by omega⟩, by simp -implicitDefEqProofs [e]⟩, fun _ => ⟨s, p + 1, ⟨rfl, rfl⟩, ⟨h1, by omega, by omega⟩, fun y hy => ⟨y, by omega, rfl, rfl, e⟩⟩⟩⟩

def cAnyText : Con := { A := Str × Int, X := List Str × Int, n := 22, args := fun _ => [.ptr 0 0], boxes := fun a => [(0, 116, [.sl true 1 (eBytes a.1), .int .i64 a.2])], pre := fun a => a.1.length ≤ 2000 ∧ 0 ≤ a.2 ∧ a.2 ≤ 1073741700, post := fun a x => x.1.length ≤ 18 ∧ (∀ s ∈ x.1, s.length ≤ 15) ∧ a.2 ≤ x.2 ∧ x.2 ≤ a.2 + 12, res := fun _ x => .own 8 1 (eStrs x.1), fin := fun a x => [(0, rdBox a.1 x.2), (8, .own 9 1 true (eStrs x.1))], nob := false }
set_option maxHeartbeats 4000000 in
theorem anyText_has : Has Tryd.prog 86 cAnyText := by
  refine has_walk mixed tTab_ok (l := [(56, cPick), (93, cOf), (91, cText)]) (HasL.cons pick_has (HasL.cons of_has (HasL.cons text_has HasL.nil))) [0, 2, 3, 7] ((fun a n (_ : Nat) => (fun _ => noInv) a n)) [] Tryd.func86 (by kernel_rfl) (code := _) (by unfold Tryd.f86; rfl) (by kernel_rfl) (by decide) (fun a => ⟨(([] : List Str), a.2), Nat.zero_le 18, (by simp), Int.le_refl _, by omega⟩) (by intro h; first | exact fun _ => rfl | cases h) (by kernel_rfl) ?_
  intro a ha
  obtain ⟨s, p⟩ := a
  obtain ⟨h1, h2, h3⟩ : s.length ≤ 2000 ∧ 0 ≤ p ∧ p ≤ 1073741700 := ha
  simp -implicitDefEqProofs [vc_skip, extOf, vc_seq, vc_cond, vc_block, vc_exit, vc_ret, vc_region, vc_regionD, vc_loop, kSeq_normal, kSeq_ret, kSeq_exit, kBlock_normal, kBlock_ret, kBlock_exit, kLoop_normal, kLoop_ret, kLoop_exit, kCond_bool, kNorm_app, vcOps_nil, vcOps_cons, kOps_app, kStep_some, kStep_none, vcDL_nil, vcDL_cons, kOpsD_app, kStepD_true, kStepD_tt, kStepD_false, ldB, btys, btyAct, kStepC_some, kStepC_none, kMv_app, act3_store, act3_call, act3_bs, kAct_app, kSt2_app, stealSlots, stealL, stealOne, subIn, AV.stolen, act_store, act_bs, act_append, act_call, kSet_app, kSet2_app, kSetG_app, kSetG_app0, kStore_ptr, kStore_eptr, kCallW_some, kCallC_some, kCall_some, wk_T, wk_n, wk_keep, wk_inv, wk_act, wk_dr, wk_le, aCalm, wantC, dstOk, calm, aCallK, aCall3K, subOf, subRep, aCall2K, apnd, bsMove, putBox, putOwn, partAV, mvL, AV.mv, AV.base, AV.moved, kBld, bldK, wrK, stK, AV.selfOk, AV.src, TI.flat, apSize, pickAV, St.val, St.cond, St.fn, St.next, St.set, St.trim, wipe_eq, wipeE_app, wipeM_app, pickEnv, get?, cGet, upd_app, withPuts, killAll, rm, freshP, Oper.hnd, Sc.st, ofConst, constOk, lenAV, elemLen, loadAV, ldL, ld1, fieldAddrAV, indexAddrAV, sliceAV, convAV, buildAV, fillAV, fieldAV, Out.of, binAV, AV.rows, AV.one, AV.cells, AV.deepOk, AV.toD, toDs, partRows, partRowsM, partsDeep, TK.zeroAV, TK.zeroD, byteOf, inR, Op.operands, Call.operands, passVs, passV, passL, pass1, passB, pasVs, pasV, pasL, pas1, ownsOk, okHs, okHs2, okFin, finOk2, rho, over, backRes, backAV, backAV1, backBlk, putBack, back2, back2_V, back2_1, m2, AV.wipe, AV.wipeV, AV.wipe1, Blk.wipe, AV.hs, AV.hs.hsL, alOps, Con.start2, Con.pk, bodyQ, fini, resAV, resA, firstId, Sc.from, renEnv, renT, renV, renVs, renL, ren1, renBox, renOwn, okRen, clOf, actB, setRow, flatRows, flatD, noInv, shr_nil, shr_some, kStepF_some, shareL, AV.viewed, AV.viewed1, cAnyText, cPick, cOf, cText, tTab, eStrs_isCons, clash, kd, eByte, all_true]
  refine ⟨s, p, ⟨rfl, rfl⟩, ⟨h1, by omega, by omega⟩, fun l q g1 g2 g3 g4 => ⟨s, q, ⟨rfl, rfl⟩, ⟨h1, by omega, by omega⟩, fun y _ _ => ?_⟩⟩
  have one : ∀ x : Str, x.length ≤ 15 → ((l.length + 1) * 16 ≤ 140737488355328 ∧ l.length ≤ 140737488355327) ∧ ∃ a b, (a.length ≤ 18 ∧ (∀ s : Str, s ∈ a → s.length ≤ 15) ∧ p ≤ b ∧ b ≤ p + 12) ∧ eStrs a = eStrs l ++ [[D.str x]] ∧ (s = s ∧ b = q + 1 + 1) ∧ eStrs l ++ [[D.str x]] = eStrs a := by
    intro x hx
    refine ⟨⟨by omega, by omega⟩, l ++ [x], q + 1 + 1, ⟨by simp; omega, fun z hz => ?_, by omega, by omega⟩, (by simp -implicitDefEqProofs [eStrs, eStr]), ⟨rfl, rfl⟩, (by simp -implicitDefEqProofs [eStrs, eStr])⟩
    rcases List.mem_append.1 hz with hz | hz
    · have := g2 z hz; omega
    · simp at hz; subst hz; exact hx
  refine ⟨fun _ => ⟨s, q + 1, ⟨rfl, rfl⟩, ⟨h1, by omega, by omega⟩, one _ (by decide), one _ (by decide), one _ (by decide)⟩, fun _ => ⟨fun _ => ⟨⟨by omega, by omega⟩, l ++ [[49], [50], [51], [52], [53], [54], [55], [56], [57], [49, 48]], q + 1, ⟨by simp; omega, fun z hz => ?_, by omega, by omega⟩, (by simp -implicitDefEqProofs [eStrs, eStr]), ⟨rfl, rfl⟩, (by simp -implicitDefEqProofs [eStrs, eStr])⟩,
    fun _ => ⟨l, q + 1, ⟨by omega, fun z hz => by have := g2 z hz; omega, by omega, by omega⟩, rfl, ⟨rfl, rfl⟩, rfl⟩⟩⟩
  rcases List.mem_append.1 hz with hz | hz
  · have := g2 z hz; omega
  · simp at hz
    rcases hz with rfl | rfl | rfl | rfl | rfl | rfl | rfl | rfl | rfl | rfl <;> decide

/-- What is known of a drawn tree. -/
def drawnT (t : List FileD) : Prop := t.length ≤ 6 ∧ ∀ f ∈ t, f.path.length ≤ 7 ∧ f.text.length ≤ 18 ∧ ∀ s ∈ f.text, s.length ≤ 15
def cTreeD : Con := { A := Str × Int, X := List FileD × Int, n := 27, args := fun _ => [.ptr 0 0], boxes := fun a => [(0, 116, [.sl true 1 (eBytes a.1), .int .i64 a.2])], pre := fun a => a.1.length ≤ 2000 ∧ 0 ≤ a.2 ∧ a.2 ≤ 1073741600, post := fun a x => x.1.length ≤ 5 ∧ (∀ f ∈ x.1, f.path.length ≤ 7 ∧ f.text.length ≤ 18 ∧ ∀ s ∈ f.text, s.length ≤ 15) ∧ a.2 ≤ x.2 ∧ x.2 ≤ a.2 + 60, res := fun _ x => .own 8 2 (eFiles x.1), fin := fun a x => [(0, rdBox a.1 x.2), (8, .own 55 2 true (eFiles x.1))], nob := false }
set_option maxHeartbeats 4000000 in
theorem treeD_has : Has Tryd.prog 55 cTreeD := by
  refine has_walk mixed tTab_ok (l := [(56, cPick), (90, cPath), (91, cText), (89, cTreeSetS), (92, cL4Copy)]) (HasL.cons pick_has (HasL.cons path_has (HasL.cons text_has (HasL.cons treeSetS_has (HasL.cons l4Copy_has HasL.nil))))) [0, 2, 3, 4, 5] ((fun a n (_ : Nat) => (fun a _ => ⟨List FileD × Int × Nat, fun t => ⟨[(0, true, .ptr 0 0), (2, true, .nil), (3, true, .sl false 2 (eFiles t.1)), (4, true, .int .i64 t.2.2)], [(0, rdBox a.1 t.2.1)]⟩, fun t => t.1.length + t.2.2 ≤ 5 ∧ (∀ f ∈ t.1, f.path.length ≤ 7 ∧ f.text.length ≤ 18 ∧ ∀ s ∈ f.text, s.length ≤ 15) ∧ a.2 ≤ t.2.1 ∧ t.2.1 + 10 * t.2.2 ≤ a.2 + 60, fun t => t.2.2⟩) a n)) [] Tryd.func55 (by kernel_rfl) (code := _) (by unfold Tryd.f55; rfl) (by kernel_rfl) (by decide) (fun a => ⟨(([] : List FileD), a.2), Nat.zero_le 5, (by simp), Int.le_refl _, by omega⟩) (by intro h; first | exact fun _ => rfl | cases h) (by kernel_rfl) ?_
  intro a ha
  obtain ⟨s, p⟩ := a
  obtain ⟨h1, h2, h3⟩ : s.length ≤ 2000 ∧ 0 ≤ p ∧ p ≤ 1073741600 := ha
  simp -implicitDefEqProofs [vc_skip, extOf, vc_seq, vc_cond, vc_block, vc_exit, vc_ret, vc_region, vc_regionD, vc_loop, kSeq_normal, kSeq_ret, kSeq_exit, kBlock_normal, kBlock_ret, kBlock_exit, kLoop_normal, kLoop_ret, kLoop_exit, kCond_bool, kNorm_app, vcOps_nil, vcOps_cons, kOps_app, kStep_some, kStep_none, vcDL_nil, vcDL_cons, kOpsD_app, kStepD_true, kStepD_tt, kStepD_false, ldB, btys, btyAct, kStepC_some, kStepC_none, kMv_app, act3_store, act3_call, act3_bs, kAct_app, kSt2_app, stealSlots, stealL, stealOne, subIn, AV.stolen, act_store, act_bs, act_append, act_call, kSet_app, kSet2_app, kSetG_app, kSetG_app0, kStore_ptr, kStore_eptr, kCallW_some, kCallC_some, kCall_some, wk_T, wk_n, wk_keep, wk_inv, wk_act, wk_dr, wk_le, aCalm, wantC, dstOk, calm, aCallK, aCall3K, subOf, subRep, aCall2K, apnd, bsMove, putBox, putOwn, partAV, mvL, AV.mv, AV.base, AV.moved, kBld, bldK, wrK, stK, AV.selfOk, AV.src, TI.flat, apSize, pickAV, St.val, St.cond, St.fn, St.next, St.set, St.trim, wipe_eq, wipeE_app, wipeM_app, pickEnv, get?, cGet, upd_app, withPuts, killAll, rm, freshP, Oper.hnd, Sc.st, ofConst, constOk, lenAV, elemLen, loadAV, ldL, ld1, fieldAddrAV, indexAddrAV, sliceAV, convAV, buildAV, fillAV, fieldAV, Out.of, binAV, AV.rows, AV.one, AV.cells, AV.deepOk, AV.toD, toDs, partRows, partRowsM, partsDeep, TK.zeroAV, TK.zeroD, byteOf, inR, Op.operands, Call.operands, passVs, passV, passL, pass1, passB, pasVs, pasV, pasL, pas1, ownsOk, okHs, okHs2, okFin, finOk2, rho, over, backRes, backAV, backAV1, backBlk, putBack, back2, back2_V, back2_1, m2, AV.wipe, AV.wipeV, AV.wipe1, Blk.wipe, AV.hs, AV.hs.hsL, alOps, Con.start2, Con.pk, bodyQ, fini, resAV, resA, firstId, Sc.from, renEnv, renT, renV, renVs, renL, ren1, renBox, renOwn, okRen, clOf, actB, setRow, flatRows, flatD, noInv, shr_nil, shr_some, kStepF_some, shareL, AV.viewed, AV.viewed1, cTreeD, cPick, cPath, cText, cTreeSetS, cL4Copy, tTab, clash, kd, eByte, all_true]
  refine ⟨s, p, ⟨rfl, rfl⟩, ⟨h1, by omega, by omega⟩, fun y hy hy2 => ⟨⟨[], p + 1, y.toNat, ⟨⟨rfl, by omega⟩, rfl, rfl⟩, by simp; omega, by simp, by omega, by omega⟩, fun t q n g1 g2 g3 g4 => ⟨fun hn => ?_, fun hn => ⟨⟨by omega, fun f hf => by have := (g2 f hf).2.1; omega⟩, t, q, ⟨by omega, g2, by omega, by omega⟩, rfl, rfl, rfl⟩⟩⟩⟩
  refine ⟨s, q, ⟨rfl, rfl⟩, ⟨h1, by omega, by omega⟩, fun y hy => ⟨s, q + 1, ⟨rfl, rfl⟩, ⟨h1, by omega, by omega⟩, fun l q2 k1 k2 k3 k4 => ⟨t, ⟨y, l⟩, ⟨rfl, rfl, rfl⟩, ⟨⟨by omega, fun f hf => by have := (g2 f hf).2.1; omega⟩, (by show l.length ≤ _; omega)⟩, ⟨by omega, by omega⟩, fun _ _ => ⟨(treeSetS t ⟨y, l⟩).1, q2, n - 1, ?_⟩⟩⟩⟩
  have e1 := treeSetS_len t ⟨y, l⟩
  have e2 := treeSetS_mem t ⟨y, l⟩
  refine ⟨⟨⟨rfl, by omega⟩, rfl, rfl⟩, ⟨by omega, fun f hf => ?_, by omega, by omega⟩, by omega⟩
  rcases e2 f hf with h | rfl
  · exact g2 f h
  · exact ⟨by show y.length ≤ 7; omega, by show l.length ≤ 18; omega, fun z hz => by have := k2 z hz; omega⟩

def cAnyTree : Con := { A := Str × Int, X := List FileD × Int, n := 42, args := fun _ => [.ptr 0 0], boxes := fun a => [(0, 116, [.sl true 1 (eBytes a.1), .int .i64 a.2])], pre := fun a => a.1.length ≤ 2000 ∧ 0 ≤ a.2 ∧ a.2 ≤ 1073741500, post := fun a x => drawnT x.1 ∧ a.2 ≤ x.2 ∧ x.2 ≤ a.2 + 80, res := fun _ x => .sl false 2 (eFiles x.1), fin := fun a x => [(0, rdBox a.1 x.2)], nob := false }
set_option maxHeartbeats 4000000 in
theorem anyTree_has : Has Tryd.prog 49 cAnyTree := by
  refine has_walk mixed tTab_ok (l := [(55, cTreeD), (56, cPick), (85, cAnyPath), (86, cAnyText)]) (HasL.cons treeD_has (HasL.cons pick_has (HasL.cons anyPath_has (HasL.cons anyText_has HasL.nil)))) [0, 2, 3, 4, 15] ((fun a n (_ : Nat) => (fun _ => noInv) a n)) [4135] Tryd.func49 (by kernel_rfl) (code := _) (by unfold Tryd.f49; rfl) (by kernel_rfl) (by decide) (fun a => ⟨(([] : List FileD), a.2), ⟨Nat.zero_le 6, by simp⟩, Int.le_refl _, by omega⟩) (by intro h; first | exact fun _ => rfl | cases h) (by kernel_rfl) ?_
  intro a ha
  obtain ⟨s, p⟩ := a
  obtain ⟨h1, h2, h3⟩ : s.length ≤ 2000 ∧ 0 ≤ p ∧ p ≤ 1073741500 := ha
  simp -implicitDefEqProofs [vc_skip, extOf, vc_seq, vc_cond, vc_block, vc_exit, vc_ret, vc_region, vc_regionD, vc_loop, kSeq_normal, kSeq_ret, kSeq_exit, kBlock_normal, kBlock_ret, kBlock_exit, kLoop_normal, kLoop_ret, kLoop_exit, kCond_bool, kNorm_app, vcOps_nil, vcOps_cons, kOps_app, kStep_some, kStep_none, vcDL_nil, vcDL_cons, kOpsD_app, kStepD_true, kStepD_tt, kStepD_false, ldB, btys, btyAct, kStepC_some, kStepC_none, kMv_app, act3_store, act3_call, act3_bs, kAct_app, kSt2_app, stealSlots, stealL, stealOne, subIn, AV.stolen, act_store, act_bs, act_append, act_call, kSet_app, kSet2_app, kSetG_app, kSetG_app0, kStore_ptr, kStore_eptr, kCallW_some, kCallC_some, kCall_some, wk_T, wk_n, wk_keep, wk_inv, wk_act, wk_dr, wk_le, aCalm, wantC, dstOk, calm, aCallK, aCall3K, subOf, subRep, aCall2K, apnd, bsMove, putBox, putOwn, partAV, mvL, AV.mv, AV.base, AV.moved, kBld, bldK, wrK, stK, AV.selfOk, AV.src, TI.flat, apSize, pickAV, St.val, St.cond, St.fn, St.next, St.set, St.trim, wipe_eq, wipeE_app, wipeM_app, pickEnv, get?, cGet, upd_app, withPuts, killAll, rm, freshP, Oper.hnd, Sc.st, ofConst, constOk, lenAV, elemLen, loadAV, ldL, ld1, fieldAddrAV, indexAddrAV, sliceAV, convAV, buildAV, fillAV, fieldAV, Out.of, binAV, AV.rows, AV.one, AV.cells, AV.deepOk, AV.toD, toDs, partRows, partRowsM, partsDeep, TK.zeroAV, TK.zeroD, byteOf, inR, Op.operands, Call.operands, passVs, passV, passL, pass1, passB, pasVs, pasV, pasL, pas1, ownsOk, okHs, okHs2, okFin, finOk2, rho, over, backRes, backAV, backAV1, backBlk, putBack, back2, back2_V, back2_1, m2, AV.wipe, AV.wipeV, AV.wipe1, Blk.wipe, AV.hs, AV.hs.hsL, alOps, Con.start2, Con.pk, bodyQ, fini, resAV, resA, firstId, Sc.from, renEnv, renT, renV, renVs, renL, ren1, renBox, renOwn, okRen, clOf, actB, setRow, flatRows, flatD, noInv, shr_nil, shr_some, kStepF_some, shareL, AV.viewed, AV.viewed1, cAnyTree, cTreeD, cPick, cAnyPath, cAnyText, tTab, clash, kd, eByte, all_true]
  refine ⟨s, p, ⟨rfl, rfl⟩, ⟨h1, by omega, by omega⟩, fun t q g1 g2 g3 g4 _ => ⟨fun hp _ => ⟨s, q, ⟨rfl, rfl⟩, ⟨h1, by omega, by omega, by omega⟩, fun k _ hk => ⟨s, q + 1, ⟨rfl, rfl⟩, ⟨h1, by omega, by omega⟩, fun y _ _ => ?_⟩⟩, fun _ => ⟨t, q, ⟨⟨by omega, g2⟩, by omega, by omega⟩, rfl, rfl, rfl⟩⟩⟩
  obtain ⟨k1, k2⟩ := hk (by omega)
  have hk : k.toNat < t.length := by omega
  have e : Option.map eFile t[k.toNat]? = some (eFile t[k.toNat]) := by simp -implicitDefEqProofs [hk]
  have gk := g2 t[k.toNat] (List.getElem_mem hk)
  have ds : ∀ g : FileD, (g.path.length ≤ 7 ∧ g.text.length ≤ 18 ∧ ∀ s ∈ g.text, s.length ≤ 15) → drawnT (t.set k.toNat g) := fun g hg => ⟨by simp; omega, fun f hf => (List.mem_or_eq_of_mem_set hf).elim (g2 f) fun h => h ▸ hg⟩
  simp -implicitDefEqProofs [e, k1, k2, hk]
  refine ⟨fun _ => ⟨s, q + 2, ⟨rfl, by omega⟩, ⟨h1, by omega, by omega⟩, fun z hz => ?_⟩, fun _ => ⟨fun _ => ⟨s, q + 2, ⟨rfl, by omega⟩, ⟨h1, by omega, by omega⟩, fun l q2 m1 m2 m3 m4 => ?_⟩, fun _ => ⟨fun _ => ?_, fun _ => ?_⟩⟩⟩
  · exact ⟨t.set k.toNat ⟨z, t[k.toNat].text⟩, q + 2 + 2, ⟨ds _ ⟨hz, gk.2⟩, by omega, by omega⟩, (eFiles_set t k.toNat z t[k.toNat].text).symm, rfl, rfl⟩
  · exact ⟨by simp -implicitDefEqProofs [eFile], fun _ => ⟨t.set k.toNat ⟨t[k.toNat].path, l⟩, q2, ⟨ds _ ⟨gk.1, m1, m2⟩, by omega, by omega⟩, (eFiles_set t k.toNat t[k.toNat].path l).symm, rfl, rfl⟩⟩
  · refine ⟨⟨by simp -implicitDefEqProofs [eFile], rfl, rfl⟩, fun _ _ _ => ⟨⟨by omega, by omega⟩, t ++ [t[k.toNat]], ⟨⟨by simp; omega, fun f hf => ?_⟩, by omega, by omega⟩, by simp -implicitDefEqProofs [eFiles, eFile]⟩⟩
    rcases List.mem_append.1 hf with h | h
    · exact g2 f h
    · simp at h; subst h; exact gk
  · exact ⟨⟨by omega, g2⟩, by omega, by omega⟩

def seekWords : List Str := [[97], [120], [115, 101, 101], [101, 110, 100], [101], [101, 110], []]
end Vx
end Go.Proofs.YthmhaggmcfemnaaDoor
/-
  Contracts: the law FnSeekTree.
-/
namespace Go.Proofs.YthmhaggmcfemnaaDoor
namespace Vx
open Go.RowKit
set_option maxRecDepth 8000

def cSmTexts : Con := .fn 26 (List Str × List Str) (fun a => [.sl true 1 (eStrs a.1), .sl true 1 (eStrs a.2)]) (fun _ => True) (fun a => .bool (decide (a.1 = a.2))) (fun _ => [])
set_option maxHeartbeats 4000000 in
theorem smTexts_has : Has Tryd.prog 54 cSmTexts := by
  refine has_walk mixed tTab_ok (l := []) HasL.nil [0, 1, 4, 5] ((fun a n (_ : Nat) => (fun a _ => ⟨Nat, fun i => ⟨[(0, true, .sl true 1 (eStrs a.1)), (1, true, .sl true 1 (eStrs a.2)), (4, true, .bool false), (5, true, .int .i64 i)], []⟩, fun i => a.1.length = a.2.length ∧ i ≤ a.1.length ∧ a.1.take i = a.2.take i, fun i => a.1.length - i⟩) a n)) [] Tryd.func54 (by kernel_rfl) (code := _) (by unfold Tryd.f54; rfl) (by kernel_rfl) (by decide) (fun _ => ⟨(), trivial⟩) (by intro h; first | exact fun _ => rfl | cases h) (by kernel_rfl) ?_
  intro a _
  obtain ⟨l, m⟩ := a
  have k1 : ∀ i (h : i < l.length) (h' : i < m.length), l[i] = m[i] → l.take i = m.take i → l.take (i + 1) = m.take (i + 1) := fun i h h' e e2 => by rw [take_succ' h, take_succ' h', e, e2]
  have k2 : ∀ i, l.length = m.length → l.length ≤ i → l.take i = m.take i → l = m := fun i h h' e => by rwa [List.take_of_length_le h', List.take_of_length_le (by omega)] at e
  have k3 : ∀ i (h : i < l.length) (h' : i < m.length), ¬ l[i] = m[i] → ¬ l = m := fun i h h' e e2 => by subst e2; exact e rfl
  simp -implicitDefEqProofs [vc_skip, extOf, vc_seq, vc_cond, vc_block, vc_exit, vc_ret, vc_region, vc_regionD, vc_loop, kSeq_normal, kSeq_ret, kSeq_exit, kBlock_normal, kBlock_ret, kBlock_exit, kLoop_normal, kLoop_ret, kLoop_exit, kCond_bool, kNorm_app, vcOps_nil, vcOps_cons, kOps_app, kStep_some, kStep_none, vcDL_nil, vcDL_cons, kOpsD_app, kStepD_true, kStepD_tt, kStepD_false, ldB, btys, btyAct, kStepC_some, kStepC_none, kMv_app, act3_store, act3_call, act3_bs, kAct_app, kSt2_app, stealSlots, stealL, stealOne, subIn, AV.stolen, act_store, act_bs, act_append, act_call, kSet_app, kSet2_app, kSetG_app, kSetG_app0, kStore_ptr, kStore_eptr, kCallW_some, kCallC_some, kCall_some, wk_T, wk_n, wk_keep, wk_inv, wk_act, wk_dr, wk_le, aCalm, wantC, dstOk, calm, aCallK, aCall3K, subOf, subRep, aCall2K, apnd, bsMove, putBox, putOwn, partAV, mvL, AV.mv, AV.base, AV.moved, kBld, bldK, wrK, stK, AV.selfOk, AV.src, TI.flat, apSize, pickAV, St.val, St.cond, St.fn, St.next, St.set, St.trim, wipe_eq, wipeE_app, wipeM_app, pickEnv, get?, cGet, upd_app, withPuts, killAll, rm, freshP, Oper.hnd, Sc.st, ofConst, constOk, lenAV, elemLen, loadAV, ldL, ld1, fieldAddrAV, indexAddrAV, sliceAV, convAV, buildAV, fillAV, fieldAV, Out.of, binAV, AV.rows, AV.one, AV.cells, AV.deepOk, AV.toD, toDs, partRows, partRowsM, partsDeep, TK.zeroAV, TK.zeroD, byteOf, inR, Op.operands, Call.operands, passVs, passV, passL, pass1, passB, pasVs, pasV, pasL, pas1, ownsOk, okHs, okHs2, okFin, finOk2, rho, over, backRes, backAV, backAV1, backBlk, putBack, back2, back2_V, back2_1, m2, AV.wipe, AV.wipeV, AV.wipe1, Blk.wipe, AV.hs, AV.hs.hsL, alOps, Con.start2, Con.pk, bodyQ, fini, resAV, resA, firstId, Sc.from, renEnv, renT, renV, renVs, renL, ren1, renBox, renOwn, okRen, clOf, actB, setRow, flatRows, flatD, noInv, shr_nil, shr_some, kStepF_some, shareL, AV.viewed, AV.viewed1, cSmTexts, Con.fn, tTab]
  try dsimp only
  try simp +contextual -implicitDefEqProofs [eStr, eFile, cast_succ, cast_eq, cast_zero, List.getElem?_eq_getElem, eStrs_set, eFiles_set, eStrs_rep, eFiles_rep, ← eStrs_append, ← eFiles_append, eStrs_take, eStrs_drop, eFiles_take, eFiles_drop, eStrs_snoc, eFiles_snoc, and_assoc]
  repeat' (first | intro _ | apply And.intro)
  all_goals first | omega | grind [all_take]

end Vx
end Go.Proofs.YthmhaggmcfemnaaDoor
/-
  Contracts: trees compared (smTree).
-/
namespace Go.Proofs.YthmhaggmcfemnaaDoor
namespace Vx
open Go.RowKit
set_option maxRecDepth 8000

def cSmTree : Con := .fn 42 (List FileD × List FileD) (fun a => [.sl true 2 (eFiles a.1), .sl true 2 (eFiles a.2)]) (fun _ => True) (fun a => .bool (decide (a.1 = a.2))) (fun _ => [])
set_option maxHeartbeats 4000000 in
theorem smTree_has : Has Tryd.prog 24 cSmTree := by
  refine has_walk mixed tTab_ok (l := [(54, cSmTexts)]) (HasL.cons smTexts_has HasL.nil) [0, 1, 4, 5] ((fun a n (_ : Nat) => (fun a _ => ⟨Nat, fun i => ⟨[(0, true, .sl true 2 (eFiles a.1)), (1, true, .sl true 2 (eFiles a.2)), (4, true, .bool false), (5, true, .int .i64 i)], []⟩, fun i => a.1.length = a.2.length ∧ i ≤ a.1.length ∧ a.1.take i = a.2.take i, fun i => a.1.length - i⟩) a n)) [] Tryd.func24 (by kernel_rfl) (code := _) (by unfold Tryd.f24; rfl) (by kernel_rfl) (by decide) (fun _ => ⟨(), trivial⟩) (by intro h; first | exact fun _ => rfl | cases h) (by kernel_rfl) ?_
  intro a _
  obtain ⟨l, m⟩ := a
  have k1 : ∀ i (h : i < l.length) (h' : i < m.length), l[i].path = m[i].path → l[i].text = m[i].text → l.take i = m.take i → l.take (i + 1) = m.take (i + 1) := fun i h h' e e1 e2 => by rw [take_succ' h, take_succ' h', e2, show l[i] = m[i] by rw [FileD.eq_iff]; exact ⟨e, e1⟩]
  have k2 : ∀ i, l.length = m.length → l.length ≤ i → l.take i = m.take i → l = m := fun i h h' e => by rwa [List.take_of_length_le h', List.take_of_length_le (by omega)] at e
  have k3 : ∀ i (h : i < l.length) (h' : i < m.length), ¬ l[i].path = m[i].path → ¬ l = m := fun i h h' e e2 => by subst e2; exact e rfl
  have k4 : ∀ i (h : i < l.length) (h' : i < m.length), ¬ l[i].text = m[i].text → ¬ l = m := fun i h h' e e2 => by subst e2; exact e rfl
  simp -implicitDefEqProofs [vc_skip, extOf, vc_seq, vc_cond, vc_block, vc_exit, vc_ret, vc_region, vc_regionD, vc_loop, kSeq_normal, kSeq_ret, kSeq_exit, kBlock_normal, kBlock_ret, kBlock_exit, kLoop_normal, kLoop_ret, kLoop_exit, kCond_bool, kNorm_app, vcOps_nil, vcOps_cons, kOps_app, kStep_some, kStep_none, vcDL_nil, vcDL_cons, kOpsD_app, kStepD_true, kStepD_tt, kStepD_false, ldB, btys, btyAct, kStepC_some, kStepC_none, kMv_app, act3_store, act3_call, act3_bs, kAct_app, kSt2_app, stealSlots, stealL, stealOne, subIn, AV.stolen, act_store, act_bs, act_append, act_call, kSet_app, kSet2_app, kSetG_app, kSetG_app0, kStore_ptr, kStore_eptr, kCallW_some, kCallC_some, kCall_some, wk_T, wk_n, wk_keep, wk_inv, wk_act, wk_dr, wk_le, aCalm, wantC, dstOk, calm, aCallK, aCall3K, subOf, subRep, aCall2K, apnd, bsMove, putBox, putOwn, partAV, mvL, AV.mv, AV.base, AV.moved, kBld, bldK, wrK, stK, AV.selfOk, AV.src, TI.flat, apSize, pickAV, St.val, St.cond, St.fn, St.next, St.set, St.trim, wipe_eq, wipeE_app, wipeM_app, pickEnv, get?, cGet, upd_app, withPuts, killAll, rm, freshP, Oper.hnd, Sc.st, ofConst, constOk, lenAV, elemLen, loadAV, ldL, ld1, fieldAddrAV, indexAddrAV, sliceAV, convAV, buildAV, fillAV, fieldAV, Out.of, binAV, AV.rows, AV.one, AV.cells, AV.deepOk, AV.toD, toDs, partRows, partRowsM, partsDeep, TK.zeroAV, TK.zeroD, byteOf, inR, Op.operands, Call.operands, passVs, passV, passL, pass1, passB, pasVs, pasV, pasL, pas1, ownsOk, okHs, okHs2, okFin, finOk2, rho, over, backRes, backAV, backAV1, backBlk, putBack, back2, back2_V, back2_1, m2, AV.wipe, AV.wipeV, AV.wipe1, Blk.wipe, AV.hs, AV.hs.hsL, alOps, Con.start2, Con.pk, bodyQ, fini, resAV, resA, firstId, Sc.from, renEnv, renT, renV, renVs, renL, ren1, renBox, renOwn, okRen, clOf, actB, setRow, flatRows, flatD, noInv, shr_nil, shr_some, kStepF_some, shareL, AV.viewed, AV.viewed1, cSmTree, Con.fn, tTab, cSmTexts]
  try dsimp only
  try simp +contextual -implicitDefEqProofs [eStr, eFile, cast_succ, cast_eq, cast_zero, List.getElem?_eq_getElem, eStrs_set, eFiles_set, eStrs_rep, eFiles_rep, ← eStrs_append, ← eFiles_append, eStrs_take, eStrs_drop, eFiles_take, eFiles_drop, eStrs_snoc, eFiles_snoc, and_assoc]
  repeat' (first | intro _ | apply And.intro)
  all_goals first | omega | grind [all_take]

end Vx
end Go.Proofs.YthmhaggmcfemnaaDoor
/-
  The laws FnTreePut, FnTreeRead.
-/
namespace Go.Proofs.YthmhaggmcfemnaaDoor
namespace Vx
open Go.RowKit
set_option maxRecDepth 8000

def cBent : Con := { A := (Str × Int) × Str, X := Str × Int, n := 44, args := fun a => [.ptr 0 0, .str a.2], boxes := fun a => [(0, 116, [.sl true 1 (eBytes a.1.1), .int .i64 a.1.2])], pre := fun a => a.1.1.length ≤ 2000 ∧ 0 ≤ a.1.2 ∧ a.1.2 ≤ 1073741500 ∧ a.2.length ≤ 1073741000, post := fun a x => x.1.length ≤ a.2.length + 8 ∧ a.1.2 ≤ x.2 ∧ x.2 ≤ a.1.2 + 3, res := fun _ x => .str x.1, fin := fun a x => [(0, rdBox a.1.1 x.2)], nob := false }
set_option maxHeartbeats 4000000 in
theorem bent_has : Has Tryd.prog 57 cBent := by
  refine has_walk mixed tTab_ok (l := [(56, cPick), (93, cOf)]) (HasL.cons pick_has (HasL.cons of_has HasL.nil)) [0, 1, 4, 5, 12] ((fun a n (_ : Nat) => (fun _ => noInv) a n)) [] Tryd.func57 (by kernel_rfl) (code := _) (by unfold Tryd.f57; rfl) (by kernel_rfl) (by decide) (fun a => ⟨(([] : Str), a.1.2), by simp, Int.le_refl _, by omega⟩) (by intro h; first | exact fun _ => rfl | cases h) (by kernel_rfl) ?_
  intro a ha
  obtain ⟨⟨c, p⟩, s⟩ := a
  obtain ⟨h1, h2, h3, h4⟩ : c.length ≤ 2000 ∧ 0 ≤ p ∧ p ≤ 1073741500 ∧ s.length ≤ 1073741000 := ha
  simp -implicitDefEqProofs [vc_skip, extOf, vc_seq, vc_cond, vc_block, vc_exit, vc_ret, vc_region, vc_regionD, vc_loop, kSeq_normal, kSeq_ret, kSeq_exit, kBlock_normal, kBlock_ret, kBlock_exit, kLoop_normal, kLoop_ret, kLoop_exit, kCond_bool, kNorm_app, vcOps_nil, vcOps_cons, kOps_app, kStep_some, kStep_none, vcDL_nil, vcDL_cons, kOpsD_app, kStepD_true, kStepD_tt, kStepD_false, ldB, btys, btyAct, kStepC_some, kStepC_none, kMv_app, act3_store, act3_call, act3_bs, kAct_app, kSt2_app, stealSlots, stealL, stealOne, subIn, AV.stolen, act_store, act_bs, act_append, act_call, kSet_app, kSet2_app, kSetG_app, kSetG_app0, kStore_ptr, kStore_eptr, kCallW_some, kCallC_some, kCall_some, wk_T, wk_n, wk_keep, wk_inv, wk_act, wk_dr, wk_le, aCalm, wantC, dstOk, calm, aCallK, aCall3K, subOf, subRep, aCall2K, apnd, bsMove, putBox, putOwn, partAV, mvL, AV.mv, AV.base, AV.moved, kBld, bldK, wrK, stK, AV.selfOk, AV.src, TI.flat, apSize, pickAV, St.val, St.cond, St.fn, St.next, St.set, St.trim, wipe_eq, wipeE_app, wipeM_app, pickEnv, get?, cGet, upd_app, withPuts, killAll, rm, freshP, Oper.hnd, Sc.st, ofConst, constOk, lenAV, elemLen, loadAV, ldL, ld1, fieldAddrAV, indexAddrAV, sliceAV, convAV, buildAV, fillAV, fieldAV, Out.of, binAV, AV.rows, AV.one, AV.cells, AV.deepOk, AV.toD, toDs, partRows, partRowsM, partsDeep, TK.zeroAV, TK.zeroD, byteOf, inR, Op.operands, Call.operands, passVs, passV, passL, pass1, passB, pasVs, pasV, pasL, pas1, ownsOk, okHs, okHs2, okFin, finOk2, rho, over, backRes, backAV, backAV1, backBlk, putBack, back2, back2_V, back2_1, m2, AV.wipe, AV.wipeV, AV.wipe1, Blk.wipe, AV.hs, AV.hs.hsL, alOps, Con.start2, Con.pk, bodyQ, fini, resAV, resA, firstId, Sc.from, renEnv, renT, renV, renVs, renL, ren1, renBox, renOwn, okRen, clOf, actB, setRow, flatRows, flatD, noInv, shr_nil, shr_some, kStepF_some, shareL, AV.viewed, AV.viewed1, cBent, cPick, cOf, tTab, eStrs_isCons, clash, kd, eByte, all_true]
  refine fun _ => ⟨by omega, fun _ _ => ⟨c, p, ⟨rfl, rfl⟩, ⟨h1, h2, by omega, by omega⟩, fun y _ hy => ⟨c, p + 1, ⟨rfl, rfl⟩, ⟨h1, by omega, by omega⟩, fun z _ _ => ⟨fun _ _ => ⟨fun hlt => ⟨by omega, fun _ _ => ⟨c, p + 1 + 1, ⟨rfl, rfl⟩, ⟨h1, by omega, by omega⟩, ?_⟩⟩, fun hge => ?_⟩, fun _ => ?_⟩⟩⟩⟩
  · have hm : maxLen = 9223372036854775807 := rfl
    refine ⟨?_, ?_, ?_, ?_, ?_, ?_, ?_, ?_, ?_⟩
    all_goals
      refine ⟨by omega, fun _ => ⟨by omega, fun _ _ => ⟨by omega, fun _ _ => ⟨by omega, fun _ => ⟨_, _, ⟨?_, ?_, ?_⟩, rfl, rfl, rfl⟩⟩⟩⟩⟩
      · simp; omega
      · omega
      · omega
  · exact ⟨s, _, ⟨by omega, by omega, by omega⟩, rfl, rfl, rfl⟩
  · have hm : maxLen = 9223372036854775807 := rfl
    refine ⟨fun _ => ⟨by omega, fun _ _ => ⟨_, _, ⟨by simp; omega, by omega, by omega⟩, rfl, rfl, rfl⟩⟩, fun _ => ⟨fun _ => ⟨c, p + 1 + 1, ⟨rfl, rfl⟩, ⟨h1, by omega, by omega⟩, ?_, ?_, ?_, ?_, ?_⟩, fun _ => ⟨s, _, ⟨by omega, by omega, by omega⟩, rfl, rfl, rfl⟩⟩⟩
    all_goals exact ⟨by omega, fun _ => ⟨_, _, ⟨by simp, by omega, by omega⟩, rfl, rfl, rfl⟩⟩

def cDrawTreePut : Con := { A := Str, X := List FileD, n := 6, args := fun s => [.sl true 1 (eBytes s)], boxes := fun _ => [], pre := fun _ => True, post := fun _ x => drawnT x, res := fun _ x => .sl false 2 (eFiles x), fin := fun _ _ => [] }
set_option maxHeartbeats 4000000 in
theorem drawTreePut_has : Has Tryd.prog 22 cDrawTreePut := by
  refine has_walk mixed tTab_ok (l := [(50, cL30Open), (49, cAnyTree)]) (HasL.cons l30Open_has (HasL.cons anyTree_has HasL.nil)) [0, 2] ((fun a n (_ : Nat) => (fun _ => noInv) a n)) [] Tryd.func22 (by kernel_rfl) (code := _) (by unfold Tryd.f22; rfl) (by kernel_rfl) (by decide) (fun _ => ⟨([] : List FileD), Nat.zero_le 6, by simp⟩) (by intro h; first | exact fun _ => rfl | cases h) (by kernel_rfl) ?_
  intro (s : Str) _
  simp -implicitDefEqProofs [vc_skip, extOf, vc_seq, vc_cond, vc_block, vc_exit, vc_ret, vc_region, vc_regionD, vc_loop, kSeq_normal, kSeq_ret, kSeq_exit, kBlock_normal, kBlock_ret, kBlock_exit, kLoop_normal, kLoop_ret, kLoop_exit, kCond_bool, kNorm_app, vcOps_nil, vcOps_cons, kOps_app, kStep_some, kStep_none, vcDL_nil, vcDL_cons, kOpsD_app, kStepD_true, kStepD_tt, kStepD_false, ldB, btys, btyAct, kStepC_some, kStepC_none, kMv_app, act3_store, act3_call, act3_bs, kAct_app, kSt2_app, stealSlots, stealL, stealOne, subIn, AV.stolen, act_store, act_bs, act_append, act_call, kSet_app, kSet2_app, kSetG_app, kSetG_app0, kStore_ptr, kStore_eptr, kCallW_some, kCallC_some, kCall_some, wk_T, wk_n, wk_keep, wk_inv, wk_act, wk_dr, wk_le, aCalm, wantC, dstOk, calm, aCallK, aCall3K, subOf, subRep, aCall2K, apnd, bsMove, putBox, putOwn, partAV, mvL, AV.mv, AV.base, AV.moved, kBld, bldK, wrK, stK, AV.selfOk, AV.src, TI.flat, apSize, pickAV, St.val, St.cond, St.fn, St.next, St.set, St.trim, wipe_eq, wipeE_app, wipeM_app, pickEnv, get?, cGet, upd_app, withPuts, killAll, rm, freshP, Oper.hnd, Sc.st, ofConst, constOk, lenAV, elemLen, loadAV, ldL, ld1, fieldAddrAV, indexAddrAV, sliceAV, convAV, buildAV, fillAV, fieldAV, Out.of, binAV, AV.rows, AV.one, AV.cells, AV.deepOk, AV.toD, toDs, partRows, partRowsM, partsDeep, TK.zeroAV, TK.zeroD, byteOf, inR, Op.operands, Call.operands, passVs, passV, passL, pass1, passB, pasVs, pasV, pasL, pas1, ownsOk, okHs, okHs2, okFin, finOk2, rho, over, backRes, backAV, backAV1, backBlk, putBack, back2, back2_V, back2_1, m2, AV.wipe, AV.wipeV, AV.wipe1, Blk.wipe, AV.hs, AV.hs.hsL, alOps, Con.start2, Con.pk, bodyQ, fini, resAV, resA, firstId, Sc.from, renEnv, renT, renV, renVs, renL, ren1, renBox, renOwn, okRen, clOf, actB, setRow, flatRows, flatD, noInv, shr_nil, shr_some, kStepF_some, shareL, AV.viewed, AV.viewed1, cDrawTreePut, cL30Open, cAnyTree, tTab, Con.fn, eStrs_isCons, clash, kd, eByte, all_true]
  exact ⟨s.take 2000, 0, ⟨rfl, rfl⟩, ⟨by simp; omega, by omega, by omega⟩, fun t q g1 g2 g3 => g1⟩
theorem treeT_le {t : List FileD} (h : ∀ f ∈ t, f.path.length ≤ 20 ∧ f.text.length ≤ 20 ∧ ∀ l ∈ f.text, l.length ≤ 20) : (treeT t).length ≤ 500 * t.length := by
  have hl : ∀ (x : List Str), (∀ l ∈ x, l.length ≤ 20) → (linesT x).length ≤ 21 * x.length := by
    intro x
    induction x with
    | nil => intro _; simp -implicitDefEqProofs [linesT]
    | cons l x ih =>
      intro hx
      have h1 := hx l (by simp)
      have h2 := ih fun y hy => hx y (by simp -implicitDefEqProofs [hy])
      simp only [linesT, List.map_cons, List.flatten_cons, List.length_append, List.length_cons, List.length_nil] at h2 ⊢
      omega
  induction t with
  | nil => simp -implicitDefEqProofs [treeT]
  | cons f t ih =>
    obtain ⟨h1, h2, h3⟩ := h f (by simp)
    have h4 := ih fun g hg => h g (by simp -implicitDefEqProofs [hg])
    have h5 := hl f.text h3
    have h6 := fileH_len f
    simp only [treeT, List.map_cons, List.flatten_cons, List.length_append, List.length_cons] at h4 ⊢
    omega
theorem drawn_put {t : List FileD} (h : drawnT t) : (treePutS t).length ≤ 3000 := by
  unfold treePutS
  split
  · have := treeT_le (t := t) fun f hf => by
      obtain ⟨h1, h2, h3⟩ := h.2 f hf
      exact ⟨by omega, by omega, fun l hl => by have := h3 l hl; omega⟩
    have := h.1
    omega
  · simp
theorem drawn_path {t : List FileD} (h : drawnT t) : ∀ f ∈ t, f.path.length ≤ 1048576 := fun f hf => by have := (h.2 f hf).1; omega
def cDrawTreeRead : Con := { A := Str, X := Str, n := 17, args := fun s => [.sl true 1 (eBytes s)], boxes := fun _ => [], pre := fun _ => True, post := fun _ x => x.length ≤ 4000, res := fun _ x => .str x, fin := fun _ _ => [] }
set_option maxHeartbeats 4000000 in
theorem drawTreeRead_has : Has Tryd.prog 25 cDrawTreeRead := by
  refine has_walk mixed tTab_ok (l := [(50, cL30Open), (55, cTreeD), (9, cTreePutS), (56, cPick), (57, cBent)]) (HasL.cons l30Open_has (HasL.cons treeD_has (HasL.cons treePutS_has (HasL.cons pick_has (HasL.cons bent_has HasL.nil))))) [0, 2, 3, 4] ((fun a n (_ : Nat) => (fun _ => noInv) a n)) [] Tryd.func25 (by kernel_rfl) (code := _) (by unfold Tryd.f25; rfl) (by kernel_rfl) (by decide) (fun _ => ⟨([] : Str), Nat.zero_le _⟩) (by intro h; first | exact fun _ => rfl | cases h) (by kernel_rfl) ?_
  intro (s : Str) _
  simp -implicitDefEqProofs [vc_skip, extOf, vc_seq, vc_cond, vc_block, vc_exit, vc_ret, vc_region, vc_regionD, vc_loop, kSeq_normal, kSeq_ret, kSeq_exit, kBlock_normal, kBlock_ret, kBlock_exit, kLoop_normal, kLoop_ret, kLoop_exit, kCond_bool, kNorm_app, vcOps_nil, vcOps_cons, kOps_app, kStep_some, kStep_none, vcDL_nil, vcDL_cons, kOpsD_app, kStepD_true, kStepD_tt, kStepD_false, ldB, btys, btyAct, kStepC_some, kStepC_none, kMv_app, act3_store, act3_call, act3_bs, kAct_app, kSt2_app, stealSlots, stealL, stealOne, subIn, AV.stolen, act_store, act_bs, act_append, act_call, kSet_app, kSet2_app, kSetG_app, kSetG_app0, kStore_ptr, kStore_eptr, kCallW_some, kCallC_some, kCall_some, wk_T, wk_n, wk_keep, wk_inv, wk_act, wk_dr, wk_le, aCalm, wantC, dstOk, calm, aCallK, aCall3K, subOf, subRep, aCall2K, apnd, bsMove, putBox, putOwn, partAV, mvL, AV.mv, AV.base, AV.moved, kBld, bldK, wrK, stK, AV.selfOk, AV.src, TI.flat, apSize, pickAV, St.val, St.cond, St.fn, St.next, St.set, St.trim, wipe_eq, wipeE_app, wipeM_app, pickEnv, get?, cGet, upd_app, withPuts, killAll, rm, freshP, Oper.hnd, Sc.st, ofConst, constOk, lenAV, elemLen, loadAV, ldL, ld1, fieldAddrAV, indexAddrAV, sliceAV, convAV, buildAV, fillAV, fieldAV, Out.of, binAV, AV.rows, AV.one, AV.cells, AV.deepOk, AV.toD, toDs, partRows, partRowsM, partsDeep, TK.zeroAV, TK.zeroD, byteOf, inR, Op.operands, Call.operands, passVs, passV, passL, pass1, passB, pasVs, pasV, pasL, pas1, ownsOk, okHs, okHs2, okFin, finOk2, rho, over, backRes, backAV, backAV1, backBlk, putBack, back2, back2_V, back2_1, m2, AV.wipe, AV.wipeV, AV.wipe1, Blk.wipe, AV.hs, AV.hs.hsL, alOps, Con.start2, Con.pk, bodyQ, fini, resAV, resA, firstId, Sc.from, renEnv, renT, renV, renVs, renL, ren1, renBox, renOwn, okRen, clOf, actB, setRow, flatRows, flatD, noInv, shr_nil, shr_some, kStepF_some, shareL, AV.viewed, AV.viewed1, cDrawTreeRead, cL30Open, cTreeD, cTreePutS, cPick, cBent, tTab, Con.fn, eStrs_isCons, clash, kd, eByte, all_true]
  have hl : (s.take 2000).length ≤ 2000 := by simp; omega
  refine ⟨s.take 2000, 0, ⟨rfl, rfl⟩, ⟨hl, by omega, by omega⟩, fun t q g1 g2 g3 g4 => ?_⟩
  have hp := drawn_put (t := t) ⟨by omega, g2⟩
  exact ⟨fun f hf => by have := (g2 f hf).1; omega, s.take 2000, q, ⟨rfl, rfl⟩, ⟨hl, by omega, by omega⟩, fun y _ _ => ⟨fun _ => by omega, fun _ => ⟨s.take 2000, q + 1, ⟨rfl, rfl⟩, ⟨hl, by omega, by omega, by omega⟩, fun a b k1 _ _ => by omega⟩⟩⟩

def cFnTreePut : Con := { (Con.fn 38 Str (fun s => [.sl true 1 (eBytes s)]) (fun _ => True) (fun _ => .bool true) (fun _ => [])) with need := numNeed }
set_option maxHeartbeats 4000000 in
theorem fnTreePut_has : Has Tryd.prog 6 cFnTreePut := by
  refine has_walk mixed tTab_ok (l := [(22, cDrawTreePut), (11, cTreePutI), (9, cTreePutS), (23, cTreeOk), (19, cTreeReadI), (24, cSmTree)]) (HasL.cons drawTreePut_has (HasL.cons treePutI_has (HasL.cons treePutS_has (HasL.cons treeOk_has (HasL.cons treeReadI_has (HasL.cons smTree_has HasL.nil)))))) [0, 2, 3, 4, 5, 6] ((fun a n (_ : Nat) => (fun _ => noInv) a n)) [] Tryd.func6 (by kernel_rfl) (code := _) (by unfold Tryd.f6; rfl) (by kernel_rfl) (by decide) (fun _ => ⟨(), trivial⟩) (by intro h; first | exact fun _ => rfl | cases h) (by kernel_rfl) ?_
  intro (s : Str) _
  simp -implicitDefEqProofs [vc_skip, extOf, vc_seq, vc_cond, vc_block, vc_exit, vc_ret, vc_region, vc_regionD, vc_loop, kSeq_normal, kSeq_ret, kSeq_exit, kBlock_normal, kBlock_ret, kBlock_exit, kLoop_normal, kLoop_ret, kLoop_exit, kCond_bool, kNorm_app, vcOps_nil, vcOps_cons, kOps_app, kStep_some, kStep_none, vcDL_nil, vcDL_cons, kOpsD_app, kStepD_true, kStepD_tt, kStepD_false, ldB, btys, btyAct, kStepC_some, kStepC_none, kMv_app, act3_store, act3_call, act3_bs, kAct_app, kSt2_app, stealSlots, stealL, stealOne, subIn, AV.stolen, act_store, act_bs, act_append, act_call, kSet_app, kSet2_app, kSetG_app, kSetG_app0, kStore_ptr, kStore_eptr, kCallW_some, kCallC_some, kCall_some, wk_T, wk_n, wk_keep, wk_inv, wk_act, wk_dr, wk_le, aCalm, wantC, dstOk, calm, aCallK, aCall3K, subOf, subRep, aCall2K, apnd, bsMove, putBox, putOwn, partAV, mvL, AV.mv, AV.base, AV.moved, kBld, bldK, wrK, stK, AV.selfOk, AV.src, TI.flat, apSize, pickAV, St.val, St.cond, St.fn, St.next, St.set, St.trim, wipe_eq, wipeE_app, wipeM_app, pickEnv, get?, cGet, upd_app, withPuts, killAll, rm, freshP, Oper.hnd, Sc.st, ofConst, constOk, lenAV, elemLen, loadAV, ldL, ld1, fieldAddrAV, indexAddrAV, sliceAV, convAV, buildAV, fillAV, fieldAV, Out.of, binAV, AV.rows, AV.one, AV.cells, AV.deepOk, AV.toD, toDs, partRows, partRowsM, partsDeep, TK.zeroAV, TK.zeroD, byteOf, inR, Op.operands, Call.operands, passVs, passV, passL, pass1, passB, pasVs, pasV, pasL, pas1, ownsOk, okHs, okHs2, okFin, finOk2, rho, over, backRes, backAV, backAV1, backBlk, putBack, back2, back2_V, back2_1, m2, AV.wipe, AV.wipeV, AV.wipe1, Blk.wipe, AV.hs, AV.hs.hsL, alOps, Con.start2, Con.pk, bodyQ, fini, resAV, resA, firstId, Sc.from, renEnv, renT, renV, renVs, renL, ren1, renBox, renOwn, okRen, clOf, actB, setRow, flatRows, flatD, noInv, shr_nil, shr_some, kStepF_some, shareL, AV.viewed, AV.viewed1, cFnTreePut, cDrawTreePut, cTreePutI, cTreePutS, cTreeOk, cTreeReadI, cSmTree, tTab, Con.fn]
  refine fun _ _ t hd => ⟨drawn_path hd, fun f hf => by have := drawn_path hd f hf; omega, fun _ => drawn_path hd, fun ht => ?_⟩
  have e : treePutS t = treeT t := by unfold treePutS; rw [← tree_eq, ht]; rfl
  have h1 := treeReadI_enc numS_dec okT_treeI ht
  have h2 := drawn_put hd
  rw [e] at h2 ⊢
  rw [h1]
  exact ⟨by omega, fun _ => rfl, rfl⟩
def cFnTreeRead : Con := { (Con.fn 52 Str (fun s => [.sl true 1 (eBytes s)]) (fun _ => True) (fun _ => .bool true) (fun _ => [])) with need := numNeed }
set_option maxHeartbeats 4000000 in
theorem fnTreeRead_has : Has Tryd.prog 7 cFnTreeRead := by
  refine has_walk mixed tTab_ok (l := [(25, cDrawTreeRead), (19, cTreeReadI), (18, cTreeReadS), (24, cSmTree), (11, cTreePutI), (23, cTreeOk)]) (HasL.cons drawTreeRead_has (HasL.cons treeReadI_has (HasL.cons treeReadS_has (HasL.cons smTree_has (HasL.cons treePutI_has (HasL.cons treeOk_has HasL.nil)))))) [0, 2, 3, 4, 5, 6, 7] ((fun a n (_ : Nat) => (fun _ => noInv) a n)) [] Tryd.func7 (by kernel_rfl) (code := _) (by unfold Tryd.f7; rfl) (by kernel_rfl) (by decide) (fun _ => ⟨(), trivial⟩) (by intro h; first | exact fun _ => rfl | cases h) (by kernel_rfl) ?_
  intro (s : Str) _
  simp -implicitDefEqProofs [vc_skip, extOf, vc_seq, vc_cond, vc_block, vc_exit, vc_ret, vc_region, vc_regionD, vc_loop, kSeq_normal, kSeq_ret, kSeq_exit, kBlock_normal, kBlock_ret, kBlock_exit, kLoop_normal, kLoop_ret, kLoop_exit, kCond_bool, kNorm_app, vcOps_nil, vcOps_cons, kOps_app, kStep_some, kStep_none, vcDL_nil, vcDL_cons, kOpsD_app, kStepD_true, kStepD_tt, kStepD_false, ldB, btys, btyAct, kStepC_some, kStepC_none, kMv_app, act3_store, act3_call, act3_bs, kAct_app, kSt2_app, stealSlots, stealL, stealOne, subIn, AV.stolen, act_store, act_bs, act_append, act_call, kSet_app, kSet2_app, kSetG_app, kSetG_app0, kStore_ptr, kStore_eptr, kCallW_some, kCallC_some, kCall_some, wk_T, wk_n, wk_keep, wk_inv, wk_act, wk_dr, wk_le, aCalm, wantC, dstOk, calm, aCallK, aCall3K, subOf, subRep, aCall2K, apnd, bsMove, putBox, putOwn, partAV, mvL, AV.mv, AV.base, AV.moved, kBld, bldK, wrK, stK, AV.selfOk, AV.src, TI.flat, apSize, pickAV, St.val, St.cond, St.fn, St.next, St.set, St.trim, wipe_eq, wipeE_app, wipeM_app, pickEnv, get?, cGet, upd_app, withPuts, killAll, rm, freshP, Oper.hnd, Sc.st, ofConst, constOk, lenAV, elemLen, loadAV, ldL, ld1, fieldAddrAV, indexAddrAV, sliceAV, convAV, buildAV, fillAV, fieldAV, Out.of, binAV, AV.rows, AV.one, AV.cells, AV.deepOk, AV.toD, toDs, partRows, partRowsM, partsDeep, TK.zeroAV, TK.zeroD, byteOf, inR, Op.operands, Call.operands, passVs, passV, passL, pass1, passB, pasVs, pasV, pasL, pas1, ownsOk, okHs, okHs2, okFin, finOk2, rho, over, backRes, backAV, backAV1, backBlk, putBack, back2, back2_V, back2_1, m2, AV.wipe, AV.wipeV, AV.wipe1, Blk.wipe, AV.hs, AV.hs.hsL, alOps, Con.start2, Con.pk, bodyQ, fini, resAV, resA, firstId, Sc.from, renEnv, renT, renV, renVs, renL, ren1, renBox, renOwn, okRen, clOf, actB, setRow, flatRows, flatD, noInv, shr_nil, shr_some, kStepF_some, shareL, AV.viewed, AV.viewed1, cFnTreeRead, cDrawTreeRead, cTreeReadI, cTreeReadS, cSmTree, cTreePutI, cTreeOk, tTab, Con.fn]
  refine fun _ _ y hy => ⟨by omega, ?_⟩
  obtain ⟨k1, k2⟩ := treeReadS_ok (ok := treeI) (s := y)
  rw [treeRead_is]
  generalize treeReadS treeI y = R at k1 k2 ⊢
  obtain ⟨t, b⟩ := R
  cases b with
  | false => simp
  | true =>
    obtain ⟨q1, q2⟩ := k1 rfl
    have q1 : treeI t = true := q1
    have q2 : treeT t = y := q2
    have e : treePutS t = treeT t := by unfold treePutS; rw [← tree_eq, q1]; rfl
    have hp : ∀ f ∈ t, f.path.length ≤ 20 := fun f hf => (treeI_plain q1 f hf).1.2
    have hp1 : ∀ f ∈ t, f.path.length ≤ 1048576 := fun f hf => by have := hp f hf; omega
    have hp2 : ∀ f ∈ t, f.path.length ≤ 536870912 := fun f hf => by have := hp f hf; omega
    simp -implicitDefEqProofs [e, q1, q2]
    exact ⟨t, t, ⟨rfl, rfl⟩, fun _ => ⟨hp1, hp2⟩⟩

end Vx
end Go.Proofs.YthmhaggmcfemnaaDoor
