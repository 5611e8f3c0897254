/-
  Joined by program (merge.py): Cu, Da, Db, Dc, Dd, De, Df, Dg, Ha, Hc, Hd, He, Hp, Hf, RowK, RowR. It shows what the single texts show; conditions: none but those of each lemma.
-/
import Derived.Test.YtlhkmgbmnbkaeaaDoorWa
import Derived.Test.YtlhkmgbmnbkaeaaDoorRows
import Derived.Test.YtlhkmgbmnbkaeaaDoorCards
import Derived.Test.YtlhkmgbmnbkaeaaDoorTie
import Derived.ProofKit
import Derived.OpenShut
import Derived.ShutString
import Derived.Lay
import Derived.LaidMore
import Derived.SevenTiedAt
set_option linter.unusedVariables false
set_option linter.unusedSimpArgs false
set_option linter.unusedSectionVars false
/-
  Contracts: ViewOf (the reference's), marks looked for in trees; the law FnExactViewOf.
-/
namespace Go.Proofs.YtlhkmgbmnbkaeaaDoor
namespace Vx
open Go.RowKit
set_option maxRecDepth 8000

def viewOfS (t : List FileD) (l : List Str) : List FileD := if treeS t && viewS l then filB (fun f => in25 l f.path) t else []
def cViewOfS : Con := .fn 40 (List FileD × List Str) (fun a => [.sl true 2 (eFiles a.1), .sl true 1 (eStrs a.2)]) (fun _ => True) (fun a => .own 8 2 (eFiles (viewOfS a.1 a.2))) (fun a => ownFiles 8 (viewOfS a.1 a.2))
set_option maxHeartbeats 4000000 in
theorem viewOfS_has : Has Tryd.prog 29 cViewOfS := by
  refine has_walk mixed tTab_ok (l := [(72, cL4Ok), (85, cL25Paths), (86, cL4Copy), (87, cL25In)]) (HasL.cons l4Ok_has (HasL.cons l25Paths_has (HasL.cons l4Copy_has (HasL.cons l25In_has HasL.nil)))) [0, 1, 4, 5, 6, 7] ((fun a n (_ : Nat) => (fun a _ => ⟨Nat, fun i => ⟨[(1, true, .sl true 1 (eStrs a.2)), (4, true, .nil), (5, true, .own 9 2 (eFiles (filB (fun f => in25 a.2 f.path) (a.1.take i)))), (6, true, .own 10 2 (goneR (fun f => in25 a.2 f.path) a.1 i)), (7, true, .int .i64 i)], [(9, .own 32 2 true (eFiles (filB (fun f => in25 a.2 f.path) (a.1.take i)))), (10, .own 32 2 true (goneR (fun f => in25 a.2 f.path) a.1 i))]⟩, fun i => i ≤ a.1.length ∧ treeS a.1 = true ∧ viewS a.2 = true, fun i => a.1.length - i⟩) a n)) [37] Tryd.func29 (by kernel_rfl) (code := _) (by unfold Tryd.f29; rfl) (by kernel_rfl) (by decide) (fun _ => ⟨(), trivial⟩) (by intro h; first | exact fun _ => rfl | cases h) (by kernel_rfl) ?_
  intro a ha
  obtain ⟨t, l⟩ := a
  have h1 := treeS_le t
  simp -implicitDefEqProofs [vc_skip, extOf, vc_seq, vc_cond, vc_block, vc_exit, vc_ret, vc_region, vc_regionD, vc_loop, kSeq_normal, kSeq_ret, kSeq_exit, kBlock_normal, kBlock_ret, kBlock_exit, kLoop_normal, kLoop_ret, kLoop_exit, kCond_bool, kNorm_app, vcOps_nil, vcOps_cons, kOps_app, kStep_some, kStep_none, vcDL_nil, vcDL_cons, kOpsD_app, kStepD_true, kStepD_false, kStepC_some, kStepC_none, kMv_app, act3_store, act3_call, act3_bs, kAct_app, kSt2_app, stealSlots, stealL, stealOne, subIn, AV.stolen, act_store, act_bs, act_append, act_call, kSet_app, kSet2_app, kSetG_app, kSetG_app0, kStore_ptr, kStore_eptr, kCallW_some, kCallC_some, kCall_some, wk_T, wk_n, wk_keep, wk_inv, wk_act, wk_dr, wk_le, aCalm, wantC, dstOk, calm, aCallK, aCall3K, subOf, subRep, aCall2K, apnd, bsMove, putBox, putOwn, partAV, mvL, AV.mv, AV.base, AV.moved, AV.src, TI.flat, apSize, pickAV, St.val, St.cond, St.fn, St.next, St.set, St.trim, wipe_eq, wipeE_app, wipeM_app, pickEnv, get?, cGet, upd_app, withPuts, killAll, rm, freshP, Oper.hnd, Sc.st, ofConst, constOk, lenAV, elemLen, loadAV, ldL, ld1, fieldAddrAV, indexAddrAV, sliceAV, convAV, buildAV, fillAV, fieldAV, Out.of, binAV, AV.rows, AV.one, AV.cells, AV.deepOk, AV.toD, toDs, partRows, partRowsM, partsDeep, TK.zeroAV, TK.zeroD, byteOf, inR, Op.operands, Call.operands, passVs, passV, passL, pass1, passB, pasVs, pasV, pasL, pas1, ownsOk, okHs, okHs2, okFin, finOk2, rho, over, backRes, backAV, backAV1, backBlk, putBack, back2, back2_V, back2_1, m2, AV.wipe, AV.wipeV, AV.wipe1, Blk.wipe, AV.hs, AV.hs.hsL, alOps, Con.start2, Con.pk, bodyQ, fini, resAV, resA, firstId, Sc.from, renEnv, renT, renV, renVs, renL, ren1, renBox, renOwn, okRen, clOf, actB, setRow, flatRows, flatD, noInv, shr_nil, shr_some, kStepF_some, shareL, AV.viewed, AV.viewed1, cViewOfS, Con.fn, tTab, cL4Ok, cL25Paths, cL4Copy, cL25In]
  try dsimp only
  generalize hp : (fun f : FileD => in25 l f.path) = p
  have hpv : ∀ f : FileD, in25 l f.path = p f := fun f => by rw [← hp]
  have hI : ∀ x, treeS t = true → viewS l = true → x = filB p t → viewOfS t l = x := fun x a b c => by unfold viewOfS; rw [a, b, hp, c]; rfl
  have hF1 : treeS t = false → viewOfS t l = [] := fun h => by unfold viewOfS; rw [h]; rfl
  have hF2 : viewS l = false → viewOfS t l = [] := fun h => by unfold viewOfS; rw [h]; simp
  refine ⟨hF1, fun hT => ⟨hF2, fun hV => ⟨⟨by have := h1 hT; omega, fun f hf => by have := (h1 hT).2 f hf; omega⟩, ⟨0, by simp [goneR_zero, fil_nil, hT, hV]⟩, fun i hi _ _ _ => ⟨fun hlt => ?_, fun hge => ?_⟩⟩⟩⟩
  · have g2 := goneR_len p t i
    rw [g2] at hlt
    have g1 := goneR_get (p := p) hlt
    have g3 := fil_le p t i
    have g4 := (h1 hT).1
    have g5 : (goneR p t i)[i]'(by rw [g2]; exact hlt) = eFile t[i] := by
      have := g1
      rw [List.getElem?_eq_getElem (by rw [g2]; exact hlt)] at this
      exact Option.some.inj this
    simp [g1, g5, g2, eFile, D.asStr, D.asRows, hlt, and_assoc, hpv]
    refine ⟨fun hh => ⟨by omega, by omega, by omega, by omega, fun _ _ => ?_⟩, fun hh => ⟨by omega, by omega, fun _ _ => ?_⟩⟩
    · have e1 := fil_hit (p := p) hlt hh
      have e2 := goneR_hit (p := p) hlt hh
      have e3 : eFiles (filB p (t.take (i + 1))) = eFiles (filB p (t.take i)) ++ [[D.str t[i].path, D.sl 9 1 (eStrs t[i].text)]] := by rw [e1, eFiles_append]; rfl
      exact ⟨i + 1, e3, e2.symm, by omega, e3.symm, e2, by omega, hT, hV, by omega⟩
    · have e1 := fil_miss (p := p) hlt hh
      have e2 := goneR_miss (p := p) hlt hh
      exact ⟨i + 1, e1, e2, by omega, e1.symm, e2.symm, by omega, hT, hV, by omega⟩
  · rw [goneR_len] at hge
    have e1 := hI (filB p (t.take i)) hT hV (by rw [List.take_of_length_le hge])
    exact ⟨e1, e1.symm⟩

theorem kE_marks (t : List FileD) (k j : Int) : kE (markFs t k) j = kE t j := by
  have : nLines (markFs t k) = nLines t := by
    unfold nLines markFs
    rw [List.map_map]
    have : ((fun f : FileD => f.text.length) ∘ fun i : Nat => (⟨markS (kE (t.take i) k), markL (t.getD i default).text.length (kE (t.take i) k + 1)⟩ : FileD)) = fun i => (t.getD i default).text.length := by
      funext i; simp [markL_len]
    rw [this]
    congr 1
    apply List.ext_getElem (by simp)
    intro i h1 h2
    simp at h1
    simp [h1]
  unfold kE
  rw [this, markFs_len]
theorem markFs_take (t : List FileD) (k : Int) (i : Nat) (h : i ≤ t.length) : markFs (t.take i) k = (markFs t k).take i := by
  unfold markFs
  rw [← List.map_take, List.take_range, List.length_take, Nat.min_comm]
  rw [Nat.min_comm]
  apply List.map_congr_left
  intro j hj
  have hj : j < i := by simp at hj; omega
  rw [List.take_take, Nat.min_eq_left (by omega)]
  simp [List.getElem?_take, hj]
theorem markFs_same (t : List FileD) (k : Int) : markFs (markFs t k) k = markFs t k := by
  show (List.range (markFs t k).length).map _ = (List.range t.length).map _
  rw [markFs_len]
  apply List.map_congr_left
  intro i hi
  have hi : i < t.length := by simpa using hi
  rw [← markFs_take t k i (by omega), kE_marks]
  have : ((markFs t k).getD i default).text.length = (t.getD i default).text.length := by simp [markFs, hi, markL_len]
  rw [this]

def heldFs (t : List FileD) (k : Int) : Int := if t = markFs t k then kE t k else -1
theorem heldFs_mark (t : List FileD) (k : Int) : heldFs (markFs t k) k = kE t k := by
  unfold heldFs
  rw [markFs_same, if_pos rfl, kE_marks]
def cHeldFileS : Con := .fn 32 (List FileD × Int) (fun a => [.sl true 2 (eFiles a.1), .int .i64 a.2]) (fun a => 0 ≤ a.2 ∧ kE a.1 a.2 ≤ 1152921504606846976) (fun a => .int .i64 (heldFs a.1 a.2)) (fun _ => [])
theorem heldF_get {t : List FileD} {k : Int} {i : Nat} (h : i < t.length) : (markFs t k)[i]'(by rw [markFs_len]; exact h) = ⟨markS (kE (t.take i) k), markL t[i].text.length (kE (t.take i) k + 1)⟩ := by simp [markFs, h]
theorem heldF_miss {t : List FileD} {k : Int} {i : Nat} (h : i < t.length) (h2 : t[i].path ≠ markS (kE (t.take i) k) ∨ t[i].text ≠ markL t[i].text.length (kE (t.take i) k + 1)) : heldFs t k = -1 := by
  unfold heldFs
  rw [if_neg]
  intro h3
  have : t[i]? = (markFs t k)[i]? := by rw [← h3]
  rw [List.getElem?_eq_getElem h, List.getElem?_eq_getElem (by rw [markFs_len]; exact h), heldF_get h] at this
  have := Option.some.inj this
  rcases h2 with h2 | h2
  · exact h2 (congrArg FileD.path this)
  · exact h2 (congrArg FileD.text this)
theorem heldF_step {t : List FileD} {k : Int} {i : Nat} (h : i < t.length) (h1 : t.take i = (markFs t k).take i) (h2 : t[i].path = markS (kE (t.take i) k)) (h3 : t[i].text = markL t[i].text.length (kE (t.take i) k + 1)) : t.take (i + 1) = (markFs t k).take (i + 1) := by
  rw [take_succ' h, take_succ' (by rw [markFs_len]; exact h), heldF_get h, ← h1, ← h2, ← h3]
theorem heldF_end {t : List FileD} {k : Int} {i : Nat} (h : t.length ≤ i) (h1 : t.take i = (markFs t k).take i) : heldFs t k = kE (t.take i) k := by
  rw [List.take_of_length_le h, List.take_of_length_le (by rw [markFs_len]; exact h)] at h1
  unfold heldFs
  rw [if_pos h1, List.take_of_length_le h]
set_option maxHeartbeats 4000000 in
theorem heldFileS_has : Has Tryd.prog 41 cHeldFileS := by
  refine has_walk mixed tTab_ok (l := [(92, cMarkText), (93, cHeldStringS)]) (HasL.cons markText_has (HasL.cons heldStringS_has HasL.nil)) [0, 1, 4, 5] ((fun a n (_ : Nat) => (fun a _ => ⟨Nat, fun i => ⟨[(0, true, .sl true 2 (eFiles a.1)), (1, true, .int .i64 (kE (a.1.take i) a.2)), (4, true, .int .i64 0), (5, true, .int .i64 i)], []⟩, fun i => i ≤ a.1.length ∧ a.1.take i = (markFs a.1 a.2).take i, fun i => a.1.length - i⟩) a n)) [] Tryd.func41 (by kernel_rfl) (code := _) (by unfold Tryd.f41; rfl) (by kernel_rfl) (by decide) (fun _ => ⟨(), trivial⟩) (by intro h; first | exact fun _ => rfl | cases h) (by kernel_rfl) ?_
  intro a ha
  obtain ⟨t, k⟩ := a
  obtain ⟨q1, q2⟩ : 0 ≤ k ∧ kE t k ≤ 1152921504606846976 := ha
  have e1 := fun i => @heldF_miss t k i
  have e2 := fun i => @heldF_step t k i
  have e3 := fun i => @heldF_end t k i
  have e6 := fun i => @kE_step t k i
  have e7 := fun i => @kE_le t k i
  have e8 := kE_zero k
  simp -implicitDefEqProofs [vc_skip, extOf, vc_seq, vc_cond, vc_block, vc_exit, vc_ret, vc_region, vc_regionD, vc_loop, kSeq_normal, kSeq_ret, kSeq_exit, kBlock_normal, kBlock_ret, kBlock_exit, kLoop_normal, kLoop_ret, kLoop_exit, kCond_bool, kNorm_app, vcOps_nil, vcOps_cons, kOps_app, kStep_some, kStep_none, vcDL_nil, vcDL_cons, kOpsD_app, kStepD_true, kStepD_false, kStepC_some, kStepC_none, kMv_app, act3_store, act3_call, act3_bs, kAct_app, kSt2_app, stealSlots, stealL, stealOne, subIn, AV.stolen, act_store, act_bs, act_append, act_call, kSet_app, kSet2_app, kSetG_app, kSetG_app0, kStore_ptr, kStore_eptr, kCallW_some, kCallC_some, kCall_some, wk_T, wk_n, wk_keep, wk_inv, wk_act, wk_dr, wk_le, aCalm, wantC, dstOk, calm, aCallK, aCall3K, subOf, subRep, aCall2K, apnd, bsMove, putBox, putOwn, partAV, mvL, AV.mv, AV.base, AV.moved, AV.src, TI.flat, apSize, pickAV, St.val, St.cond, St.fn, St.next, St.set, St.trim, wipe_eq, wipeE_app, wipeM_app, pickEnv, get?, cGet, upd_app, withPuts, killAll, rm, freshP, Oper.hnd, Sc.st, ofConst, constOk, lenAV, elemLen, loadAV, ldL, ld1, fieldAddrAV, indexAddrAV, sliceAV, convAV, buildAV, fillAV, fieldAV, Out.of, binAV, AV.rows, AV.one, AV.cells, AV.deepOk, AV.toD, toDs, partRows, partRowsM, partsDeep, TK.zeroAV, TK.zeroD, byteOf, inR, Op.operands, Call.operands, passVs, passV, passL, pass1, passB, pasVs, pasV, pasL, pas1, ownsOk, okHs, okHs2, okFin, finOk2, rho, over, backRes, backAV, backAV1, backBlk, putBack, back2, back2_V, back2_1, m2, AV.wipe, AV.wipeV, AV.wipe1, Blk.wipe, AV.hs, AV.hs.hsL, alOps, Con.start2, Con.pk, bodyQ, fini, resAV, resA, firstId, Sc.from, renEnv, renT, renV, renVs, renL, ren1, renBox, renOwn, okRen, clOf, actB, setRow, flatRows, flatD, noInv, shr_nil, shr_some, kStepF_some, shareL, AV.viewed, AV.viewed1, cHeldFileS, Con.fn, tTab, cMarkText, cHeldStringS, e8]
  try dsimp only
  refine ⟨⟨0, by simp [e8]⟩, fun i hi hpre _ => ⟨fun hlt => ?_, fun hge => e3 i hge hpre⟩⟩
  have g := e6 i hlt
  have g1 := e7 i
  have g2 := e7 (i + 1)
  simp [hlt, eFile, D.asStr, D.asRows, and_assoc]
  have hl : ∀ l kk, heldL l kk = if l = markL l.length kk then kk + l.length else -1 := fun _ _ => rfl
  have m1 := e1 i hlt
  have m2 := e2 i hlt hpre
  by_cases ht : t[i].text = markL t[i].text.length (kE (t.take i) k + 1)
  · have hh : heldL t[i].text (kE (t.take i) k + 1) = kE (t.take (i + 1)) k := by rw [hl, if_pos ht, g]
    rw [hh]
    exact ⟨by omega, fun hn => m1 (.inl hn), fun hp => ⟨by omega, by omega, fun _ _ => ⟨by omega, by omega, fun hn => by omega, fun _ => ⟨by omega, by omega, fun _ _ => ⟨i + 1, rfl, by omega, by omega, m2 hp ht, by omega⟩⟩⟩⟩⟩
  · have hh : heldL t[i].text (kE (t.take i) k + 1) = -1 := by rw [hl, if_neg ht]
    rw [hh]
    exact ⟨by omega, fun hn => m1 (.inl hn), fun hp => ⟨by omega, by omega, fun _ _ => ⟨by omega, by omega, fun _ => m1 (.inr ht), fun hn => by omega⟩⟩⟩

theorem view_of_eq (t : List FileD) (l : List Str) : viewOfI t l = viewOfS t l := by
  unfold viewOfI viewOfS
  rw [tree_eq, view_eq]
  simp only [vis_in]
theorem viewOfS_bd (t : List FileD) (l : List Str) : (viewOfS t l).length ≤ 8 ∧ ∀ f ∈ viewOfS t l, f.text.length ≤ 64 := by
  unfold viewOfS
  split
  · rename_i h
    simp only [Bool.and_eq_true] at h
    have h1 := treeS_le t h.1
    refine ⟨Nat.le_trans (List.length_filter_le _ _) h1.1, fun f hf => h1.2 f (List.mem_filter.1 hf).1⟩
  · simp
theorem kE_bd {t : List FileD} {A B : Nat} (h1 : t.length ≤ A) (h2 : ∀ f ∈ t, f.text.length ≤ B) (k : Int) : k ≤ kE t k ∧ kE t k ≤ k + A + B * A := by
  have h3 := nLines_bd t h2
  have h4 : B * t.length ≤ B * A := Nat.mul_le_mul_left _ h1
  unfold kE
  refine ⟨by omega, ?_⟩
  have : (nLines t : Int) ≤ ((B * A : Nat) : Int) := by omega
  rw [Int.natCast_mul] at this
  omega

end Vx
end Go.Proofs.YtlhkmgbmnbkaeaaDoor
/-
  Contracts: sizes of repositories.
-/
namespace Go.Proofs.YtlhkmgbmnbkaeaaDoor
namespace Vx
open Go.RowKit

def szI (a : List Int) (l : Int) : Int := if l - a.length < 0 then -1 else l - a.length
theorem szI_le {a : List Int} {l : Int} (h : 0 ≤ l) : szI a l ≤ l := by unfold szI; split <;> omega
def cSzIntS : Con := .fn 12 (List Int × Int) (fun a => [.sl true 1 (eInts a.1), .int .i64 a.2]) (fun a => 0 ≤ a.2 ∧ a.2 ≤ 1048576) (fun a => .int .i64 (szI a.1 a.2)) (fun _ => [])
set_option maxHeartbeats 4000000 in
theorem szIntS_has : Has Tryd.prog 165 cSzIntS := by
  refine has_walk mixed tTab_ok (l := []) HasL.nil [0, 1, 4] ((fun a n (_ : Nat) => (fun _ => noInv) a n)) [] Tryd.func165 (by kernel_rfl) (code := _) (by unfold Tryd.f165; rfl) (by kernel_rfl) (by decide) (fun _ => ⟨(), trivial⟩) (by intro h; first | exact fun _ => rfl | cases h) (by kernel_rfl) ?_
  intro a ha
  obtain ⟨f, n⟩ := a
  obtain ⟨h1, h2⟩ : 0 ≤ n ∧ n ≤ 1048576 := ha
  simp -implicitDefEqProofs [vc_skip, extOf, vc_seq, vc_cond, vc_block, vc_exit, vc_ret, vc_region, vc_regionD, vc_loop, kSeq_normal, kSeq_ret, kSeq_exit, kBlock_normal, kBlock_ret, kBlock_exit, kLoop_normal, kLoop_ret, kLoop_exit, kCond_bool, kNorm_app, vcOps_nil, vcOps_cons, kOps_app, kStep_some, kStep_none, vcDL_nil, vcDL_cons, kOpsD_app, kStepD_true, kStepD_false, kStepC_some, kStepC_none, kMv_app, act3_store, act3_call, act3_bs, kAct_app, kSt2_app, stealSlots, stealL, stealOne, subIn, AV.stolen, act_store, act_bs, act_append, act_call, kSet_app, kSet2_app, kSetG_app, kSetG_app0, kStore_ptr, kStore_eptr, kCallW_some, kCallC_some, kCall_some, wk_T, wk_n, wk_keep, wk_inv, wk_act, wk_dr, wk_le, aCalm, wantC, dstOk, calm, aCallK, aCall3K, subOf, subRep, aCall2K, apnd, bsMove, putBox, putOwn, partAV, mvL, AV.mv, AV.base, AV.moved, AV.src, TI.flat, apSize, pickAV, St.val, St.cond, St.fn, St.next, St.set, St.trim, wipe_eq, wipeE_app, wipeM_app, pickEnv, get?, cGet, upd_app, withPuts, killAll, rm, freshP, Oper.hnd, Sc.st, ofConst, constOk, lenAV, elemLen, loadAV, ldL, ld1, fieldAddrAV, indexAddrAV, sliceAV, convAV, buildAV, fillAV, fieldAV, Out.of, binAV, AV.rows, AV.one, AV.cells, AV.deepOk, AV.toD, toDs, partRows, partRowsM, partsDeep, TK.zeroAV, TK.zeroD, byteOf, inR, Op.operands, Call.operands, passVs, passV, passL, pass1, passB, pasVs, pasV, pasL, pas1, ownsOk, okHs, okHs2, okFin, finOk2, rho, over, backRes, backAV, backAV1, backBlk, putBack, back2, back2_V, back2_1, m2, AV.wipe, AV.wipeV, AV.wipe1, Blk.wipe, AV.hs, AV.hs.hsL, alOps, Con.start2, Con.pk, bodyQ, fini, resAV, resA, firstId, Sc.from, renEnv, renT, renV, renVs, renL, ren1, renBox, renOwn, okRen, clOf, actB, setRow, flatRows, flatD, noInv, shr_nil, shr_some, kStepF_some, shareL, AV.viewed, AV.viewed1, cSzIntS, Con.fn, tTab]
  try dsimp only
  try simp +contextual [eStr, eFile, cast_succ, cast_eq, cast_zero, List.getElem?_eq_getElem, eStrs_set, eFiles_set, eStrs_rep, eFiles_rep, ← eStrs_append, ← eFiles_append, eStrs_take, eStrs_drop, eFiles_take, eFiles_drop, eStrs_snoc, eFiles_snoc, and_assoc]
  repeat' (first | intro _ | apply And.intro)
  all_goals first | omega | grind [all_take, szI]

def szHd (f : HeadD) (l : Int) : Int := if l - f.name.length < 0 then -1 else l - f.name.length
theorem szHd_le {f : HeadD} {l : Int} (h : 0 ≤ l) : szHd f l ≤ l := by unfold szHd; split <;> omega
def cSzHead : Con := .fn 13 (HeadD × Int) (fun a => [.agg [.str a.1.name, .int .i64 a.1.at_], .int .i64 a.2]) (fun a => 0 ≤ a.2 ∧ a.2 ≤ 1048576) (fun a => .int .i64 (szHd a.1 a.2)) (fun _ => [])
set_option maxHeartbeats 4000000 in
theorem szHead_has : Has Tryd.prog 95 cSzHead := by
  refine has_walk mixed tTab_ok (l := []) HasL.nil [0, 1, 2, 4] ((fun a n (_ : Nat) => (fun _ => noInv) a n)) [] Tryd.func95 (by kernel_rfl) (code := _) (by unfold Tryd.f95; rfl) (by kernel_rfl) (by decide) (fun _ => ⟨(), trivial⟩) (by intro h; first | exact fun _ => rfl | cases h) (by kernel_rfl) ?_
  intro a ha
  obtain ⟨f, n⟩ := a
  obtain ⟨h1, h2⟩ : 0 ≤ n ∧ n ≤ 1048576 := ha
  simp -implicitDefEqProofs [vc_skip, extOf, vc_seq, vc_cond, vc_block, vc_exit, vc_ret, vc_region, vc_regionD, vc_loop, kSeq_normal, kSeq_ret, kSeq_exit, kBlock_normal, kBlock_ret, kBlock_exit, kLoop_normal, kLoop_ret, kLoop_exit, kCond_bool, kNorm_app, vcOps_nil, vcOps_cons, kOps_app, kStep_some, kStep_none, vcDL_nil, vcDL_cons, kOpsD_app, kStepD_true, kStepD_false, kStepC_some, kStepC_none, kMv_app, act3_store, act3_call, act3_bs, kAct_app, kSt2_app, stealSlots, stealL, stealOne, subIn, AV.stolen, act_store, act_bs, act_append, act_call, kSet_app, kSet2_app, kSetG_app, kSetG_app0, kStore_ptr, kStore_eptr, kCallW_some, kCallC_some, kCall_some, wk_T, wk_n, wk_keep, wk_inv, wk_act, wk_dr, wk_le, aCalm, wantC, dstOk, calm, aCallK, aCall3K, subOf, subRep, aCall2K, apnd, bsMove, putBox, putOwn, partAV, mvL, AV.mv, AV.base, AV.moved, AV.src, TI.flat, apSize, pickAV, St.val, St.cond, St.fn, St.next, St.set, St.trim, wipe_eq, wipeE_app, wipeM_app, pickEnv, get?, cGet, upd_app, withPuts, killAll, rm, freshP, Oper.hnd, Sc.st, ofConst, constOk, lenAV, elemLen, loadAV, ldL, ld1, fieldAddrAV, indexAddrAV, sliceAV, convAV, buildAV, fillAV, fieldAV, Out.of, binAV, AV.rows, AV.one, AV.cells, AV.deepOk, AV.toD, toDs, partRows, partRowsM, partsDeep, TK.zeroAV, TK.zeroD, byteOf, inR, Op.operands, Call.operands, passVs, passV, passL, pass1, passB, pasVs, pasV, pasL, pas1, ownsOk, okHs, okHs2, okFin, finOk2, rho, over, backRes, backAV, backAV1, backBlk, putBack, back2, back2_V, back2_1, m2, AV.wipe, AV.wipeV, AV.wipe1, Blk.wipe, AV.hs, AV.hs.hsL, alOps, Con.start2, Con.pk, bodyQ, fini, resAV, resA, firstId, Sc.from, renEnv, renT, renV, renVs, renL, ren1, renBox, renOwn, okRen, clOf, actB, setRow, flatRows, flatD, noInv, shr_nil, shr_some, kStepF_some, shareL, AV.viewed, AV.viewed1, cSzHead, Con.fn, tTab]
  try dsimp only
  try simp +contextual [eStr, eFile, cast_succ, cast_eq, cast_zero, List.getElem?_eq_getElem, eStrs_set, eFiles_set, eStrs_rep, eFiles_rep, ← eStrs_append, ← eFiles_append, eStrs_take, eStrs_drop, eFiles_take, eFiles_drop, eStrs_snoc, eFiles_snoc, and_assoc]
  repeat' (first | intro _ | apply And.intro)
  all_goals first | omega | grind [all_take, szHd]

def szHL : List HeadD → Int → Int
  | [], l => l
  | f :: r, l => if szHd f l < 0 then -1 else szHL r (szHd f l)
def szHeads (a : List HeadD) (l : Int) : Int := if l - a.length < 0 then -1 else szHL a (l - a.length)
theorem szHL_step {a : List HeadD} {i : Nat} {l : Int} (h : i < a.length) : szHL (a.drop i) l = if szHd a[i] l < 0 then -1 else szHL (a.drop (i + 1)) (szHd a[i] l) := by
  rw [List.drop_eq_getElem_cons h]; rfl
theorem szHL_end {a : List HeadD} {i : Nat} {l : Int} (h : a.length ≤ i) : szHL (a.drop i) l = l := by
  rw [List.drop_eq_nil_of_le h]; rfl
def cSzHeadS : Con := .fn 27 (List HeadD × Int) (fun a => [.sl true 2 (eHeads a.1), .int .i64 a.2]) (fun a => 0 ≤ a.2 ∧ a.2 ≤ 1048576) (fun a => .int .i64 (szHeads a.1 a.2)) (fun _ => [])
set_option maxHeartbeats 4000000 in
theorem szHeadS_has : Has Tryd.prog 43 cSzHeadS := by
  refine has_walk mixed tTab_ok (l := [(95, cSzHead)]) (HasL.cons szHead_has HasL.nil) [0, 1, 4, 5] ((fun a n (_ : Nat) => (fun a _ => ⟨Nat × Int, fun t => ⟨[(0, true, .sl true 2 (eHeads a.1)), (1, true, .int .i64 t.2), (4, true, .int .i64 0), (5, true, .int .i64 t.1)], []⟩, fun t => t.1 ≤ a.1.length ∧ 0 ≤ t.2 ∧ t.2 ≤ 1048576 ∧ szHL (a.1.drop t.1) t.2 = szHeads a.1 a.2, fun t => a.1.length - t.1⟩) a n)) [] Tryd.func43 (by kernel_rfl) (code := _) (by unfold Tryd.f43; rfl) (by kernel_rfl) (by decide) (fun _ => ⟨(), trivial⟩) (by intro h; first | exact fun _ => rfl | cases h) (by kernel_rfl) ?_
  intro a ha
  obtain ⟨l, n⟩ := a
  obtain ⟨h1, h2⟩ : 0 ≤ n ∧ n ≤ 1048576 := ha
  have hle : ∀ (f : HeadD) (l : Int), 0 ≤ l → szHd f l ≤ l := fun f l => szHd_le
  simp -implicitDefEqProofs [vc_skip, extOf, vc_seq, vc_cond, vc_block, vc_exit, vc_ret, vc_region, vc_regionD, vc_loop, kSeq_normal, kSeq_ret, kSeq_exit, kBlock_normal, kBlock_ret, kBlock_exit, kLoop_normal, kLoop_ret, kLoop_exit, kCond_bool, kNorm_app, vcOps_nil, vcOps_cons, kOps_app, kStep_some, kStep_none, vcDL_nil, vcDL_cons, kOpsD_app, kStepD_true, kStepD_false, kStepC_some, kStepC_none, kMv_app, act3_store, act3_call, act3_bs, kAct_app, kSt2_app, stealSlots, stealL, stealOne, subIn, AV.stolen, act_store, act_bs, act_append, act_call, kSet_app, kSet2_app, kSetG_app, kSetG_app0, kStore_ptr, kStore_eptr, kCallW_some, kCallC_some, kCall_some, wk_T, wk_n, wk_keep, wk_inv, wk_act, wk_dr, wk_le, aCalm, wantC, dstOk, calm, aCallK, aCall3K, subOf, subRep, aCall2K, apnd, bsMove, putBox, putOwn, partAV, mvL, AV.mv, AV.base, AV.moved, AV.src, TI.flat, apSize, pickAV, St.val, St.cond, St.fn, St.next, St.set, St.trim, wipe_eq, wipeE_app, wipeM_app, pickEnv, get?, cGet, upd_app, withPuts, killAll, rm, freshP, Oper.hnd, Sc.st, ofConst, constOk, lenAV, elemLen, loadAV, ldL, ld1, fieldAddrAV, indexAddrAV, sliceAV, convAV, buildAV, fillAV, fieldAV, Out.of, binAV, AV.rows, AV.one, AV.cells, AV.deepOk, AV.toD, toDs, partRows, partRowsM, partsDeep, TK.zeroAV, TK.zeroD, byteOf, inR, Op.operands, Call.operands, passVs, passV, passL, pass1, passB, pasVs, pasV, pasL, pas1, ownsOk, okHs, okHs2, okFin, finOk2, rho, over, backRes, backAV, backAV1, backBlk, putBack, back2, back2_V, back2_1, m2, AV.wipe, AV.wipeV, AV.wipe1, Blk.wipe, AV.hs, AV.hs.hsL, alOps, Con.start2, Con.pk, bodyQ, fini, resAV, resA, firstId, Sc.from, renEnv, renT, renV, renVs, renL, ren1, renBox, renOwn, okRen, clOf, actB, setRow, flatRows, flatD, noInv, shr_nil, shr_some, kStepF_some, shareL, AV.viewed, AV.viewed1, cSzHeadS, Con.fn, tTab, cSzHead]
  try dsimp only
  try simp +contextual [eStr, eFile, cast_succ, cast_eq, cast_zero, List.getElem?_eq_getElem, eStrs_set, eFiles_set, eStrs_rep, eFiles_rep, ← eStrs_append, ← eFiles_append, eStrs_take, eStrs_drop, eFiles_take, eFiles_drop, eStrs_snoc, eFiles_snoc, and_assoc, eInt, eHead, eCommit, lCommit, eInts_set, eInts_rep, eInts_take, eInts_drop, eInts_snoc, ← eInts_append, eHeads_set, eHeads_rep, eHeads_take, eHeads_drop, eHeads_snoc, ← eHeads_append, eCommits_set, eCommits_rep, eCommits_take, eCommits_drop, eCommits_snoc, ← eCommits_append, ← HeadD.eq_iff]
  repeat' (first | intro _ | apply And.intro)
  all_goals first | omega | grind [all_take, szHeads, szHL_step, szHL_end]

theorem szFL_leD : ∀ {a : List FileD} {l : Int}, 0 ≤ l → szFL a l ≤ l := by
  intro a
  induction a with
  | nil => intro l _; exact Int.le_refl l
  | cons s r ih =>
    intro l h
    simp only [szFL]
    split
    · omega
    · have h1 := szF_le (f := s) h
      have := ih (l := szF s l) (by omega); omega
theorem szFs_le {a : List FileD} {l : Int} (h : 0 ≤ l) : szFiles a l ≤ l := by
  unfold szFiles
  split
  · omega
  · have := szFL_leD (a := a) (l := l - a.length) (by omega); omega

def szCm (c : CommitD) (l : Int) : Int :=
  if szI c.parents l < 0 then -1 else if szI c.parents l - c.who.length < 0 then -1 else if szFiles c.tree (szI c.parents l - c.who.length) < 0 then -1 else szFiles c.tree (szI c.parents l - c.who.length)
theorem szCm_le {c : CommitD} {l : Int} (h : 0 ≤ l) : szCm c l ≤ l := by
  unfold szCm
  have h1 := szI_le (a := c.parents) h
  split
  · omega
  · split
    · omega
    · split
      · omega
      · have := szFs_le (a := c.tree) (l := szI c.parents l - c.who.length) (by omega); omega
def cSzCommit : Con := .fn 25 (CommitD × Int) (fun a => [.agg [.sl true 1 (eInts a.1.parents), .str a.1.who, .sl true 2 (eFiles a.1.tree)], .int .i64 a.2]) (fun a => 0 ≤ a.2 ∧ a.2 ≤ 1048576) (fun a => .int .i64 (szCm a.1 a.2)) (fun _ => [])
set_option maxHeartbeats 4000000 in
theorem szCommit_has : Has Tryd.prog 145 cSzCommit := by
  refine has_walk mixed tTab_ok (l := [(165, cSzIntS), (21, cSzFileS)]) (HasL.cons szIntS_has (HasL.cons szFileS_has HasL.nil)) [0, 1, 2, 4] ((fun a n (_ : Nat) => (fun _ => noInv) a n)) [] Tryd.func145 (by kernel_rfl) (code := _) (by unfold Tryd.f145; rfl) (by kernel_rfl) (by decide) (fun _ => ⟨(), trivial⟩) (by intro h; first | exact fun _ => rfl | cases h) (by kernel_rfl) ?_
  intro a ha
  obtain ⟨f, n⟩ := a
  obtain ⟨h1, h2⟩ : 0 ≤ n ∧ n ≤ 1048576 := ha
  have h3 := szI_le (a := f.parents) h1
  simp -implicitDefEqProofs [vc_skip, extOf, vc_seq, vc_cond, vc_block, vc_exit, vc_ret, vc_region, vc_regionD, vc_loop, kSeq_normal, kSeq_ret, kSeq_exit, kBlock_normal, kBlock_ret, kBlock_exit, kLoop_normal, kLoop_ret, kLoop_exit, kCond_bool, kNorm_app, vcOps_nil, vcOps_cons, kOps_app, kStep_some, kStep_none, vcDL_nil, vcDL_cons, kOpsD_app, kStepD_true, kStepD_false, kStepC_some, kStepC_none, kMv_app, act3_store, act3_call, act3_bs, kAct_app, kSt2_app, stealSlots, stealL, stealOne, subIn, AV.stolen, act_store, act_bs, act_append, act_call, kSet_app, kSet2_app, kSetG_app, kSetG_app0, kStore_ptr, kStore_eptr, kCallW_some, kCallC_some, kCall_some, wk_T, wk_n, wk_keep, wk_inv, wk_act, wk_dr, wk_le, aCalm, wantC, dstOk, calm, aCallK, aCall3K, subOf, subRep, aCall2K, apnd, bsMove, putBox, putOwn, partAV, mvL, AV.mv, AV.base, AV.moved, AV.src, TI.flat, apSize, pickAV, St.val, St.cond, St.fn, St.next, St.set, St.trim, wipe_eq, wipeE_app, wipeM_app, pickEnv, get?, cGet, upd_app, withPuts, killAll, rm, freshP, Oper.hnd, Sc.st, ofConst, constOk, lenAV, elemLen, loadAV, ldL, ld1, fieldAddrAV, indexAddrAV, sliceAV, convAV, buildAV, fillAV, fieldAV, Out.of, binAV, AV.rows, AV.one, AV.cells, AV.deepOk, AV.toD, toDs, partRows, partRowsM, partsDeep, TK.zeroAV, TK.zeroD, byteOf, inR, Op.operands, Call.operands, passVs, passV, passL, pass1, passB, pasVs, pasV, pasL, pas1, ownsOk, okHs, okHs2, okFin, finOk2, rho, over, backRes, backAV, backAV1, backBlk, putBack, back2, back2_V, back2_1, m2, AV.wipe, AV.wipeV, AV.wipe1, Blk.wipe, AV.hs, AV.hs.hsL, alOps, Con.start2, Con.pk, bodyQ, fini, resAV, resA, firstId, Sc.from, renEnv, renT, renV, renVs, renL, ren1, renBox, renOwn, okRen, clOf, actB, setRow, flatRows, flatD, noInv, shr_nil, shr_some, kStepF_some, shareL, AV.viewed, AV.viewed1, cSzCommit, Con.fn, tTab, cSzIntS, cSzFileS]
  try dsimp only
  try simp +contextual [eStr, eFile, cast_succ, cast_eq, cast_zero, List.getElem?_eq_getElem, eStrs_set, eFiles_set, eStrs_rep, eFiles_rep, ← eStrs_append, ← eFiles_append, eStrs_take, eStrs_drop, eFiles_take, eFiles_drop, eStrs_snoc, eFiles_snoc, and_assoc]
  repeat' (first | intro _ | apply And.intro)
  all_goals first | omega | grind [all_take, szCm]

def szCL : List CommitD → Int → Int
  | [], l => l
  | f :: r, l => if szCm f l < 0 then -1 else szCL r (szCm f l)
def szCommits (a : List CommitD) (l : Int) : Int := if l - a.length < 0 then -1 else szCL a (l - a.length)
theorem szCL_step {a : List CommitD} {i : Nat} {l : Int} (h : i < a.length) : szCL (a.drop i) l = if szCm a[i] l < 0 then -1 else szCL (a.drop (i + 1)) (szCm a[i] l) := by
  rw [List.drop_eq_getElem_cons h]; rfl
theorem szCL_end {a : List CommitD} {i : Nat} {l : Int} (h : a.length ≤ i) : szCL (a.drop i) l = l := by
  rw [List.drop_eq_nil_of_le h]; rfl
theorem szCL_le : ∀ {a : List CommitD} {l : Int}, 0 ≤ l → szCL a l ≤ l := by
  intro a
  induction a with
  | nil => intro l _; exact Int.le_refl l
  | cons s r ih =>
    intro l h
    simp only [szCL]
    split
    · omega
    · have h1 := szCm_le (c := s) h
      have := ih (l := szCm s l) (by omega); omega
theorem szCommits_le {a : List CommitD} {l : Int} (h : 0 ≤ l) : szCommits a l ≤ l := by
  unfold szCommits
  split
  · omega
  · have := szCL_le (a := a) (l := l - a.length) (by omega); omega
def cSzCommitS : Con := .fn 27 (List CommitD × Int) (fun a => [.sl true 3 (lCommits a.1), .int .i64 a.2]) (fun a => 0 ≤ a.2 ∧ a.2 ≤ 1048576) (fun a => .int .i64 (szCommits a.1 a.2)) (fun _ => [])
set_option maxHeartbeats 4000000 in
theorem szCommitS_has : Has Tryd.prog 94 cSzCommitS := by
  refine has_walk mixed tTab_ok (l := [(145, cSzCommit)]) (HasL.cons szCommit_has HasL.nil) [0, 1, 4, 5] ((fun a n (_ : Nat) => (fun a _ => ⟨Nat × Int, fun t => ⟨[(0, true, .sl true 3 (lCommits a.1)), (1, true, .int .i64 t.2), (4, true, .int .i64 0), (5, true, .int .i64 t.1)], []⟩, fun t => t.1 ≤ a.1.length ∧ 0 ≤ t.2 ∧ t.2 ≤ 1048576 ∧ szCL (a.1.drop t.1) t.2 = szCommits a.1 a.2, fun t => a.1.length - t.1⟩) a n)) [] Tryd.func94 (by kernel_rfl) (code := _) (by unfold Tryd.f94; rfl) (by kernel_rfl) (by decide) (fun _ => ⟨(), trivial⟩) (by intro h; first | exact fun _ => rfl | cases h) (by kernel_rfl) ?_
  intro a ha
  obtain ⟨l, n⟩ := a
  obtain ⟨h1, h2⟩ : 0 ≤ n ∧ n ≤ 1048576 := ha
  have hle : ∀ (f : CommitD) (l : Int), 0 ≤ l → szCm f l ≤ l := fun f l => szCm_le
  simp -implicitDefEqProofs [vc_skip, extOf, vc_seq, vc_cond, vc_block, vc_exit, vc_ret, vc_region, vc_regionD, vc_loop, kSeq_normal, kSeq_ret, kSeq_exit, kBlock_normal, kBlock_ret, kBlock_exit, kLoop_normal, kLoop_ret, kLoop_exit, kCond_bool, kNorm_app, vcOps_nil, vcOps_cons, kOps_app, kStep_some, kStep_none, vcDL_nil, vcDL_cons, kOpsD_app, kStepD_true, kStepD_false, kStepC_some, kStepC_none, kMv_app, act3_store, act3_call, act3_bs, kAct_app, kSt2_app, stealSlots, stealL, stealOne, subIn, AV.stolen, act_store, act_bs, act_append, act_call, kSet_app, kSet2_app, kSetG_app, kSetG_app0, kStore_ptr, kStore_eptr, kCallW_some, kCallC_some, kCall_some, wk_T, wk_n, wk_keep, wk_inv, wk_act, wk_dr, wk_le, aCalm, wantC, dstOk, calm, aCallK, aCall3K, subOf, subRep, aCall2K, apnd, bsMove, putBox, putOwn, partAV, mvL, AV.mv, AV.base, AV.moved, AV.src, TI.flat, apSize, pickAV, St.val, St.cond, St.fn, St.next, St.set, St.trim, wipe_eq, wipeE_app, wipeM_app, pickEnv, get?, cGet, upd_app, withPuts, killAll, rm, freshP, Oper.hnd, Sc.st, ofConst, constOk, lenAV, elemLen, loadAV, ldL, ld1, fieldAddrAV, indexAddrAV, sliceAV, convAV, buildAV, fillAV, fieldAV, Out.of, binAV, AV.rows, AV.one, AV.cells, AV.deepOk, AV.toD, toDs, partRows, partRowsM, partsDeep, TK.zeroAV, TK.zeroD, byteOf, inR, Op.operands, Call.operands, passVs, passV, passL, pass1, passB, pasVs, pasV, pasL, pas1, ownsOk, okHs, okHs2, okFin, finOk2, rho, over, backRes, backAV, backAV1, backBlk, putBack, back2, back2_V, back2_1, m2, AV.wipe, AV.wipeV, AV.wipe1, Blk.wipe, AV.hs, AV.hs.hsL, alOps, Con.start2, Con.pk, bodyQ, fini, resAV, resA, firstId, Sc.from, renEnv, renT, renV, renVs, renL, ren1, renBox, renOwn, okRen, clOf, actB, setRow, flatRows, flatD, noInv, shr_nil, shr_some, kStepF_some, shareL, AV.viewed, AV.viewed1, cSzCommitS, Con.fn, tTab, cSzCommit]
  try dsimp only
  try simp +contextual [eStr, eFile, cast_succ, cast_eq, cast_zero, List.getElem?_eq_getElem, eStrs_set, eFiles_set, eStrs_rep, eFiles_rep, ← eStrs_append, ← eFiles_append, eStrs_take, eStrs_drop, eFiles_take, eFiles_drop, eStrs_snoc, eFiles_snoc, and_assoc, eInt, eHead, eCommit, lCommit, eInts_set, eInts_rep, eInts_take, eInts_drop, eInts_snoc, ← eInts_append, eHeads_set, eHeads_rep, eHeads_take, eHeads_drop, eHeads_snoc, ← eHeads_append, eCommits_set, eCommits_rep, eCommits_take, eCommits_drop, eCommits_snoc, ← eCommits_append, ← CommitD.eq_iff]
  repeat' (first | intro _ | apply And.intro)
  all_goals first | omega | grind [all_take, szCommits, szCL_step, szCL_end]

def szRp (r : RepoD) (l : Int) : Int := if szCommits r.commits l < 0 then -1 else if szHeads r.heads (szCommits r.commits l) < 0 then -1 else szHeads r.heads (szCommits r.commits l)
def cSzRepo : Con := .fn 18 (RepoD × Int) (fun a => [lRepo a.1, .int .i64 a.2]) (fun a => 0 ≤ a.2 ∧ a.2 ≤ 1048576) (fun a => .int .i64 (szRp a.1 a.2)) (fun _ => [])
set_option maxHeartbeats 4000000 in
theorem szRepo_has : Has Tryd.prog 42 cSzRepo := by
  refine has_walk mixed tTab_ok (l := [(94, cSzCommitS), (43, cSzHeadS)]) (HasL.cons szCommitS_has (HasL.cons szHeadS_has HasL.nil)) [0, 1, 2, 4] ((fun a n (_ : Nat) => (fun _ => noInv) a n)) [] Tryd.func42 (by kernel_rfl) (code := _) (by unfold Tryd.f42; rfl) (by kernel_rfl) (by decide) (fun _ => ⟨(), trivial⟩) (by intro h; first | exact fun _ => rfl | cases h) (by kernel_rfl) ?_
  intro a ha
  obtain ⟨f, n⟩ := a
  obtain ⟨h1, h2⟩ : 0 ≤ n ∧ n ≤ 1048576 := ha
  have h3 := szCommits_le (a := f.commits) h1
  simp -implicitDefEqProofs [vc_skip, extOf, vc_seq, vc_cond, vc_block, vc_exit, vc_ret, vc_region, vc_regionD, vc_loop, kSeq_normal, kSeq_ret, kSeq_exit, kBlock_normal, kBlock_ret, kBlock_exit, kLoop_normal, kLoop_ret, kLoop_exit, kCond_bool, kNorm_app, vcOps_nil, vcOps_cons, kOps_app, kStep_some, kStep_none, vcDL_nil, vcDL_cons, kOpsD_app, kStepD_true, kStepD_false, kStepC_some, kStepC_none, kMv_app, act3_store, act3_call, act3_bs, kAct_app, kSt2_app, stealSlots, stealL, stealOne, subIn, AV.stolen, act_store, act_bs, act_append, act_call, kSet_app, kSet2_app, kSetG_app, kSetG_app0, kStore_ptr, kStore_eptr, kCallW_some, kCallC_some, kCall_some, wk_T, wk_n, wk_keep, wk_inv, wk_act, wk_dr, wk_le, aCalm, wantC, dstOk, calm, aCallK, aCall3K, subOf, subRep, aCall2K, apnd, bsMove, putBox, putOwn, partAV, mvL, AV.mv, AV.base, AV.moved, AV.src, TI.flat, apSize, pickAV, St.val, St.cond, St.fn, St.next, St.set, St.trim, wipe_eq, wipeE_app, wipeM_app, pickEnv, get?, cGet, upd_app, withPuts, killAll, rm, freshP, Oper.hnd, Sc.st, ofConst, constOk, lenAV, elemLen, loadAV, ldL, ld1, fieldAddrAV, indexAddrAV, sliceAV, convAV, buildAV, fillAV, fieldAV, Out.of, binAV, AV.rows, AV.one, AV.cells, AV.deepOk, AV.toD, toDs, partRows, partRowsM, partsDeep, TK.zeroAV, TK.zeroD, byteOf, inR, Op.operands, Call.operands, passVs, passV, passL, pass1, passB, pasVs, pasV, pasL, pas1, ownsOk, okHs, okHs2, okFin, finOk2, rho, over, backRes, backAV, backAV1, backBlk, putBack, back2, back2_V, back2_1, m2, AV.wipe, AV.wipeV, AV.wipe1, Blk.wipe, AV.hs, AV.hs.hsL, alOps, Con.start2, Con.pk, bodyQ, fini, resAV, resA, firstId, Sc.from, renEnv, renT, renV, renVs, renL, ren1, renBox, renOwn, okRen, clOf, actB, setRow, flatRows, flatD, noInv, shr_nil, shr_some, kStepF_some, shareL, AV.viewed, AV.viewed1, cSzRepo, Con.fn, tTab, cSzCommitS, cSzHeadS]
  try dsimp only
  try simp +contextual [eStr, eFile, cast_succ, cast_eq, cast_zero, List.getElem?_eq_getElem, eStrs_set, eFiles_set, eStrs_rep, eFiles_rep, ← eStrs_append, ← eFiles_append, eStrs_take, eStrs_drop, eFiles_take, eFiles_drop, eStrs_snoc, eFiles_snoc, and_assoc]
  repeat' (first | intro _ | apply And.intro)
  all_goals first | omega | grind [all_take, szRp]

end Vx
end Go.Proofs.YtlhkmgbmnbkaeaaDoor
/-
  Contracts: copies of repositories.
-/
namespace Go.Proofs.YtlhkmgbmnbkaeaaDoor
namespace Vx
open Go.RowKit

def cToIntS : Con := .fn 22 (List Int) (fun a => [.sl true 1 (eInts a)]) (fun a => a.length ≤ 1048576) (fun a => .own 8 1 (eInts a)) (fun a => ownInts 8 a)
set_option maxHeartbeats 4000000 in
theorem toIntS_has : Has Tryd.prog 166 cToIntS := by
  refine has_walk mixed tTab_ok (l := []) HasL.nil [0, 2, 3, 4] ((fun a n (_ : Nat) => (fun a _ => ⟨Nat × List Int, fun t => ⟨[(0, true, .sl true 1 (eInts a)), (2, true, .nil), (3, true, .own 9 1 (eInts t.2)), (4, true, .int .i64 t.1)], ownInts 9 t.2⟩, fun t => t.1 ≤ a.length ∧ t.2.length = a.length ∧ t.2.take t.1 = a.take t.1, fun t => a.length - t.1⟩) a n)) [] Tryd.func166 (by kernel_rfl) (code := _) (by unfold Tryd.f166; rfl) (by kernel_rfl) (by decide) (fun _ => ⟨(), trivial⟩) (by intro h; first | exact fun _ => rfl | cases h) (by kernel_rfl) ?_
  intro (a : List Int) ha
  replace ha : a.length ≤ 1048576 := ha
  simp -implicitDefEqProofs [vc_skip, extOf, vc_seq, vc_cond, vc_block, vc_exit, vc_ret, vc_region, vc_regionD, vc_loop, kSeq_normal, kSeq_ret, kSeq_exit, kBlock_normal, kBlock_ret, kBlock_exit, kLoop_normal, kLoop_ret, kLoop_exit, kCond_bool, kNorm_app, vcOps_nil, vcOps_cons, kOps_app, kStep_some, kStep_none, vcDL_nil, vcDL_cons, kOpsD_app, kStepD_true, kStepD_false, kStepC_some, kStepC_none, kMv_app, act3_store, act3_call, act3_bs, kAct_app, kSt2_app, stealSlots, stealL, stealOne, subIn, AV.stolen, act_store, act_bs, act_append, act_call, kSet_app, kSet2_app, kSetG_app, kSetG_app0, kStore_ptr, kStore_eptr, kCallW_some, kCallC_some, kCall_some, wk_T, wk_n, wk_keep, wk_inv, wk_act, wk_dr, wk_le, aCalm, wantC, dstOk, calm, aCallK, aCall3K, subOf, subRep, aCall2K, apnd, bsMove, putBox, putOwn, partAV, mvL, AV.mv, AV.base, AV.moved, AV.src, TI.flat, apSize, pickAV, St.val, St.cond, St.fn, St.next, St.set, St.trim, wipe_eq, wipeE_app, wipeM_app, pickEnv, get?, cGet, upd_app, withPuts, killAll, rm, freshP, Oper.hnd, Sc.st, ofConst, constOk, lenAV, elemLen, loadAV, ldL, ld1, fieldAddrAV, indexAddrAV, sliceAV, convAV, buildAV, fillAV, fieldAV, Out.of, binAV, AV.rows, AV.one, AV.cells, AV.deepOk, AV.toD, toDs, partRows, partRowsM, partsDeep, TK.zeroAV, TK.zeroD, byteOf, inR, Op.operands, Call.operands, passVs, passV, passL, pass1, passB, pasVs, pasV, pasL, pas1, ownsOk, okHs, okHs2, okFin, finOk2, rho, over, backRes, backAV, backAV1, backBlk, putBack, back2, back2_V, back2_1, m2, AV.wipe, AV.wipeV, AV.wipe1, Blk.wipe, AV.hs, AV.hs.hsL, alOps, Con.start2, Con.pk, bodyQ, fini, resAV, resA, firstId, Sc.from, renEnv, renT, renV, renVs, renL, ren1, renBox, renOwn, okRen, clOf, actB, setRow, flatRows, flatD, noInv, shr_nil, shr_some, kStepF_some, shareL, AV.viewed, AV.viewed1, cToIntS, Con.fn, tTab]
  try dsimp only
  try simp +contextual [eStr, eFile, cast_succ, cast_eq, cast_zero, List.getElem?_eq_getElem, eStrs_set, eFiles_set, eStrs_rep, eFiles_rep, ← eStrs_append, ← eFiles_append, eStrs_take, eStrs_drop, eFiles_take, eFiles_drop, eStrs_snoc, eFiles_snoc, and_assoc, eInt, eHead, eCommit, lCommit, eInts_set, eInts_rep, eInts_take, eInts_drop, eInts_snoc, ← eInts_append, eHeads_set, eHeads_rep, eHeads_take, eHeads_drop, eHeads_snoc, ← eHeads_append, eCommits_set, eCommits_rep, eCommits_take, eCommits_drop, eCommits_snoc, ← eCommits_append]
  repeat' (first | intro _ | apply And.intro)
  all_goals first | omega | grind [all_take, set_take, eq_end]

def cToHead : Con := .fn 11 HeadD (fun f => [.agg [.str f.name, .int .i64 f.at_]]) (fun _ => True) (fun f => .agg [.str f.name, .int .i64 f.at_]) (fun _ => [])
set_option maxHeartbeats 4000000 in
theorem toHead_has : Has Tryd.prog 103 cToHead := by
  refine has_walk mixed tTab_ok (l := []) HasL.nil [0, 1, 2, 3] ((fun a n (_ : Nat) => (fun _ => noInv) a n)) [] Tryd.func103 (by kernel_rfl) (code := _) (by unfold Tryd.f103; rfl) (by kernel_rfl) (by decide) (fun _ => ⟨(), trivial⟩) (by intro h; first | exact fun _ => rfl | cases h) (by kernel_rfl) ?_
  intro f _
  obtain ⟨p, x⟩ := f
  simp -implicitDefEqProofs [vc_skip, extOf, vc_seq, vc_cond, vc_block, vc_exit, vc_ret, vc_region, vc_regionD, vc_loop, kSeq_normal, kSeq_ret, kSeq_exit, kBlock_normal, kBlock_ret, kBlock_exit, kLoop_normal, kLoop_ret, kLoop_exit, kCond_bool, kNorm_app, vcOps_nil, vcOps_cons, kOps_app, kStep_some, kStep_none, vcDL_nil, vcDL_cons, kOpsD_app, kStepD_true, kStepD_false, kStepC_some, kStepC_none, kMv_app, act3_store, act3_call, act3_bs, kAct_app, kSt2_app, stealSlots, stealL, stealOne, subIn, AV.stolen, act_store, act_bs, act_append, act_call, kSet_app, kSet2_app, kSetG_app, kSetG_app0, kStore_ptr, kStore_eptr, kCallW_some, kCallC_some, kCall_some, wk_T, wk_n, wk_keep, wk_inv, wk_act, wk_dr, wk_le, aCalm, wantC, dstOk, calm, aCallK, aCall3K, subOf, subRep, aCall2K, apnd, bsMove, putBox, putOwn, partAV, mvL, AV.mv, AV.base, AV.moved, AV.src, TI.flat, apSize, pickAV, St.val, St.cond, St.fn, St.next, St.set, St.trim, wipe_eq, wipeE_app, wipeM_app, pickEnv, get?, cGet, upd_app, withPuts, killAll, rm, freshP, Oper.hnd, Sc.st, ofConst, constOk, lenAV, elemLen, loadAV, ldL, ld1, fieldAddrAV, indexAddrAV, sliceAV, convAV, buildAV, fillAV, fieldAV, Out.of, binAV, AV.rows, AV.one, AV.cells, AV.deepOk, AV.toD, toDs, partRows, partRowsM, partsDeep, TK.zeroAV, TK.zeroD, byteOf, inR, Op.operands, Call.operands, passVs, passV, passL, pass1, passB, pasVs, pasV, pasL, pas1, ownsOk, okHs, okHs2, okFin, finOk2, rho, over, backRes, backAV, backAV1, backBlk, putBack, back2, back2_V, back2_1, m2, AV.wipe, AV.wipeV, AV.wipe1, Blk.wipe, AV.hs, AV.hs.hsL, alOps, Con.start2, Con.pk, bodyQ, fini, resAV, resA, firstId, Sc.from, renEnv, renT, renV, renVs, renL, ren1, renBox, renOwn, okRen, clOf, actB, setRow, flatRows, flatD, noInv, shr_nil, shr_some, kStepF_some, shareL, AV.viewed, AV.viewed1, cToHead, Con.fn, tTab]
  try dsimp only
  try simp +contextual [eStr, eFile, cast_succ, cast_eq, cast_zero, List.getElem?_eq_getElem, eStrs_set, eFiles_set, eStrs_rep, eFiles_rep, ← eStrs_append, ← eFiles_append, eStrs_take, eStrs_drop, eFiles_take, eFiles_drop, eStrs_snoc, eFiles_snoc, and_assoc]
  repeat' (first | intro _ | apply And.intro)
  all_goals first | omega | grind [all_take]

def cToHeadS : Con := .fn 23 (List HeadD) (fun a => [.sl true 2 (eHeads a)]) (fun a => a.length ≤ 1048576) (fun a => .own 8 2 (eHeads a)) (fun a => ownHeads 8 a)
set_option maxHeartbeats 4000000 in
theorem toHeadS_has : Has Tryd.prog 46 cToHeadS := by
  refine has_walk mixed tTab_ok (l := [(103, cToHead)]) (HasL.cons toHead_has HasL.nil) [0, 2, 3, 4] ((fun a n (_ : Nat) => (fun a _ => ⟨Nat × List HeadD, fun t => ⟨[(0, true, .sl true 2 (eHeads a)), (2, true, .nil), (3, true, .own 9 2 (eHeads t.2)), (4, true, .int .i64 t.1)], ownHeads 9 t.2⟩, fun t => t.1 ≤ a.length ∧ t.2.length = a.length ∧ t.2.take t.1 = a.take t.1, fun t => a.length - t.1⟩) a n)) [] Tryd.func46 (by kernel_rfl) (code := _) (by unfold Tryd.f46; rfl) (by kernel_rfl) (by decide) (fun _ => ⟨(), trivial⟩) (by intro h; first | exact fun _ => rfl | cases h) (by kernel_rfl) ?_
  intro (a : List HeadD) ha
  replace ha : a.length ≤ 1048576 := ha
  simp -implicitDefEqProofs [vc_skip, extOf, vc_seq, vc_cond, vc_block, vc_exit, vc_ret, vc_region, vc_regionD, vc_loop, kSeq_normal, kSeq_ret, kSeq_exit, kBlock_normal, kBlock_ret, kBlock_exit, kLoop_normal, kLoop_ret, kLoop_exit, kCond_bool, kNorm_app, vcOps_nil, vcOps_cons, kOps_app, kStep_some, kStep_none, vcDL_nil, vcDL_cons, kOpsD_app, kStepD_true, kStepD_false, kStepC_some, kStepC_none, kMv_app, act3_store, act3_call, act3_bs, kAct_app, kSt2_app, stealSlots, stealL, stealOne, subIn, AV.stolen, act_store, act_bs, act_append, act_call, kSet_app, kSet2_app, kSetG_app, kSetG_app0, kStore_ptr, kStore_eptr, kCallW_some, kCallC_some, kCall_some, wk_T, wk_n, wk_keep, wk_inv, wk_act, wk_dr, wk_le, aCalm, wantC, dstOk, calm, aCallK, aCall3K, subOf, subRep, aCall2K, apnd, bsMove, putBox, putOwn, partAV, mvL, AV.mv, AV.base, AV.moved, AV.src, TI.flat, apSize, pickAV, St.val, St.cond, St.fn, St.next, St.set, St.trim, wipe_eq, wipeE_app, wipeM_app, pickEnv, get?, cGet, upd_app, withPuts, killAll, rm, freshP, Oper.hnd, Sc.st, ofConst, constOk, lenAV, elemLen, loadAV, ldL, ld1, fieldAddrAV, indexAddrAV, sliceAV, convAV, buildAV, fillAV, fieldAV, Out.of, binAV, AV.rows, AV.one, AV.cells, AV.deepOk, AV.toD, toDs, partRows, partRowsM, partsDeep, TK.zeroAV, TK.zeroD, byteOf, inR, Op.operands, Call.operands, passVs, passV, passL, pass1, passB, pasVs, pasV, pasL, pas1, ownsOk, okHs, okHs2, okFin, finOk2, rho, over, backRes, backAV, backAV1, backBlk, putBack, back2, back2_V, back2_1, m2, AV.wipe, AV.wipeV, AV.wipe1, Blk.wipe, AV.hs, AV.hs.hsL, alOps, Con.start2, Con.pk, bodyQ, fini, resAV, resA, firstId, Sc.from, renEnv, renT, renV, renVs, renL, ren1, renBox, renOwn, okRen, clOf, actB, setRow, flatRows, flatD, noInv, shr_nil, shr_some, kStepF_some, shareL, AV.viewed, AV.viewed1, cToHeadS, Con.fn, tTab, cToHead]
  try dsimp only
  try simp +contextual [eStr, eFile, cast_succ, cast_eq, cast_zero, List.getElem?_eq_getElem, eStrs_set, eFiles_set, eStrs_rep, eFiles_rep, ← eStrs_append, ← eFiles_append, eStrs_take, eStrs_drop, eFiles_take, eFiles_drop, eStrs_snoc, eFiles_snoc, and_assoc, eInt, eHead, eCommit, lCommit, eInts_set, eInts_rep, eInts_take, eInts_drop, eInts_snoc, ← eInts_append, eHeads_set, eHeads_rep, eHeads_take, eHeads_drop, eHeads_snoc, ← eHeads_append, eCommits_set, eCommits_rep, eCommits_take, eCommits_drop, eCommits_snoc, ← eCommits_append, ← HeadD.eq_iff]
  repeat' (first | intro _ | apply And.intro)
  all_goals first | omega | grind [all_take, set_take, eq_end]

def cToCommit : Con := .fn 16 CommitD (fun f => [.agg [.sl true 1 (eInts f.parents), .str f.who, .sl true 2 (eFiles f.tree)]]) (fun f => f.parents.length ≤ 1048576 ∧ f.tree.length ≤ 1048576 ∧ ∀ g ∈ f.tree, g.text.length ≤ 1048576) (fun f => .agg [.own 8 1 (eInts f.parents), .str f.who, .own 9 2 (eFiles f.tree)]) (fun f => ownInts 8 f.parents ++ ownFiles 9 f.tree)
set_option maxHeartbeats 4000000 in
theorem toCommit_has : Has Tryd.prog 146 cToCommit := by
  refine has_walk mixed tTab_ok (l := [(166, cToIntS), (23, cToFileS)]) (HasL.cons toIntS_has (HasL.cons toFileS_has HasL.nil)) [0, 1, 2, 3] ((fun a n (_ : Nat) => (fun _ => noInv) a n)) [] Tryd.func146 (by kernel_rfl) (code := _) (by unfold Tryd.f146; rfl) (by kernel_rfl) (by decide) (fun _ => ⟨(), trivial⟩) (by intro h; first | exact fun _ => rfl | cases h) (by kernel_rfl) ?_
  intro f hf
  obtain ⟨p, x, t⟩ := f
  obtain ⟨h1, h2, h3⟩ : p.length ≤ 1048576 ∧ t.length ≤ 1048576 ∧ ∀ g ∈ t, g.text.length ≤ 1048576 := hf
  simp -implicitDefEqProofs [vc_skip, extOf, vc_seq, vc_cond, vc_block, vc_exit, vc_ret, vc_region, vc_regionD, vc_loop, kSeq_normal, kSeq_ret, kSeq_exit, kBlock_normal, kBlock_ret, kBlock_exit, kLoop_normal, kLoop_ret, kLoop_exit, kCond_bool, kNorm_app, vcOps_nil, vcOps_cons, kOps_app, kStep_some, kStep_none, vcDL_nil, vcDL_cons, kOpsD_app, kStepD_true, kStepD_false, kStepC_some, kStepC_none, kMv_app, act3_store, act3_call, act3_bs, kAct_app, kSt2_app, stealSlots, stealL, stealOne, subIn, AV.stolen, act_store, act_bs, act_append, act_call, kSet_app, kSet2_app, kSetG_app, kSetG_app0, kStore_ptr, kStore_eptr, kCallW_some, kCallC_some, kCall_some, wk_T, wk_n, wk_keep, wk_inv, wk_act, wk_dr, wk_le, aCalm, wantC, dstOk, calm, aCallK, aCall3K, subOf, subRep, aCall2K, apnd, bsMove, putBox, putOwn, partAV, mvL, AV.mv, AV.base, AV.moved, AV.src, TI.flat, apSize, pickAV, St.val, St.cond, St.fn, St.next, St.set, St.trim, wipe_eq, wipeE_app, wipeM_app, pickEnv, get?, cGet, upd_app, withPuts, killAll, rm, freshP, Oper.hnd, Sc.st, ofConst, constOk, lenAV, elemLen, loadAV, ldL, ld1, fieldAddrAV, indexAddrAV, sliceAV, convAV, buildAV, fillAV, fieldAV, Out.of, binAV, AV.rows, AV.one, AV.cells, AV.deepOk, AV.toD, toDs, partRows, partRowsM, partsDeep, TK.zeroAV, TK.zeroD, byteOf, inR, Op.operands, Call.operands, passVs, passV, passL, pass1, passB, pasVs, pasV, pasL, pas1, ownsOk, okHs, okHs2, okFin, finOk2, rho, over, backRes, backAV, backAV1, backBlk, putBack, back2, back2_V, back2_1, m2, AV.wipe, AV.wipeV, AV.wipe1, Blk.wipe, AV.hs, AV.hs.hsL, alOps, Con.start2, Con.pk, bodyQ, fini, resAV, resA, firstId, Sc.from, renEnv, renT, renV, renVs, renL, ren1, renBox, renOwn, okRen, clOf, actB, setRow, flatRows, flatD, noInv, shr_nil, shr_some, kStepF_some, shareL, AV.viewed, AV.viewed1, cToCommit, Con.fn, tTab, cToIntS, cToFileS]
  try dsimp only
  try simp +contextual [eStr, eFile, cast_succ, cast_eq, cast_zero, List.getElem?_eq_getElem, eStrs_set, eFiles_set, eStrs_rep, eFiles_rep, ← eStrs_append, ← eFiles_append, eStrs_take, eStrs_drop, eFiles_take, eFiles_drop, eStrs_snoc, eFiles_snoc, and_assoc]
  repeat' (first | intro _ | apply And.intro)
  all_goals first | omega | grind [all_take]

def cmSz (c : CommitD) : Prop := c.parents.length ≤ 1048576 ∧ c.tree.length ≤ 1048576 ∧ ∀ g ∈ c.tree, g.text.length ≤ 1048576
def cToCommitS : Con := .fn 23 (List CommitD) (fun a => [.sl true 3 (lCommits a)]) (fun a => a.length ≤ 1048576 ∧ ∀ c ∈ a, cmSz c) (fun a => .own 8 3 (eCommits a)) (fun a => ownCommits 8 a)
set_option maxHeartbeats 4000000 in
theorem toCommitS_has : Has Tryd.prog 102 cToCommitS := by
  refine has_walk mixed tTab_ok (l := [(146, cToCommit)]) (HasL.cons toCommit_has HasL.nil) [0, 2, 3, 4] ((fun a n (_ : Nat) => (fun a _ => ⟨Nat × List CommitD, fun t => ⟨[(0, true, .sl true 3 (lCommits a)), (2, true, .nil), (3, true, .own 9 3 (eCommits t.2)), (4, true, .int .i64 t.1)], ownCommits 9 t.2⟩, fun t => t.1 ≤ a.length ∧ t.2.length = a.length ∧ t.2.take t.1 = a.take t.1, fun t => a.length - t.1⟩) a n)) [] Tryd.func102 (by kernel_rfl) (code := _) (by unfold Tryd.f102; rfl) (by kernel_rfl) (by decide) (fun _ => ⟨(), trivial⟩) (by intro h; first | exact fun _ => rfl | cases h) (by kernel_rfl) ?_
  intro (a : List CommitD) ha
  obtain ⟨h1, h2⟩ : a.length ≤ 1048576 ∧ ∀ c ∈ a, cmSz c := ha
  have h3 : ∀ i (h : i < a.length), a[i].parents.length ≤ 1048576 ∧ a[i].tree.length ≤ 1048576 ∧ ∀ g ∈ a[i].tree, g.text.length ≤ 1048576 := fun i h => h2 _ (List.getElem_mem h)
  simp -implicitDefEqProofs [vc_skip, extOf, vc_seq, vc_cond, vc_block, vc_exit, vc_ret, vc_region, vc_regionD, vc_loop, kSeq_normal, kSeq_ret, kSeq_exit, kBlock_normal, kBlock_ret, kBlock_exit, kLoop_normal, kLoop_ret, kLoop_exit, kCond_bool, kNorm_app, vcOps_nil, vcOps_cons, kOps_app, kStep_some, kStep_none, vcDL_nil, vcDL_cons, kOpsD_app, kStepD_true, kStepD_false, kStepC_some, kStepC_none, kMv_app, act3_store, act3_call, act3_bs, kAct_app, kSt2_app, stealSlots, stealL, stealOne, subIn, AV.stolen, act_store, act_bs, act_append, act_call, kSet_app, kSet2_app, kSetG_app, kSetG_app0, kStore_ptr, kStore_eptr, kCallW_some, kCallC_some, kCall_some, wk_T, wk_n, wk_keep, wk_inv, wk_act, wk_dr, wk_le, aCalm, wantC, dstOk, calm, aCallK, aCall3K, subOf, subRep, aCall2K, apnd, bsMove, putBox, putOwn, partAV, mvL, AV.mv, AV.base, AV.moved, AV.src, TI.flat, apSize, pickAV, St.val, St.cond, St.fn, St.next, St.set, St.trim, wipe_eq, wipeE_app, wipeM_app, pickEnv, get?, cGet, upd_app, withPuts, killAll, rm, freshP, Oper.hnd, Sc.st, ofConst, constOk, lenAV, elemLen, loadAV, ldL, ld1, fieldAddrAV, indexAddrAV, sliceAV, convAV, buildAV, fillAV, fieldAV, Out.of, binAV, AV.rows, AV.one, AV.cells, AV.deepOk, AV.toD, toDs, partRows, partRowsM, partsDeep, TK.zeroAV, TK.zeroD, byteOf, inR, Op.operands, Call.operands, passVs, passV, passL, pass1, passB, pasVs, pasV, pasL, pas1, ownsOk, okHs, okHs2, okFin, finOk2, rho, over, backRes, backAV, backAV1, backBlk, putBack, back2, back2_V, back2_1, m2, AV.wipe, AV.wipeV, AV.wipe1, Blk.wipe, AV.hs, AV.hs.hsL, alOps, Con.start2, Con.pk, bodyQ, fini, resAV, resA, firstId, Sc.from, renEnv, renT, renV, renVs, renL, ren1, renBox, renOwn, okRen, clOf, actB, setRow, flatRows, flatD, noInv, shr_nil, shr_some, kStepF_some, shareL, AV.viewed, AV.viewed1, cToCommitS, Con.fn, tTab, cToCommit]
  try dsimp only
  try simp +contextual [eStr, eFile, cast_succ, cast_eq, cast_zero, List.getElem?_eq_getElem, eStrs_set, eFiles_set, eStrs_rep, eFiles_rep, ← eStrs_append, ← eFiles_append, eStrs_take, eStrs_drop, eFiles_take, eFiles_drop, eStrs_snoc, eFiles_snoc, and_assoc, eInt, eHead, eCommit, lCommit, eInts_set, eInts_rep, eInts_take, eInts_drop, eInts_snoc, ← eInts_append, eHeads_set, eHeads_rep, eHeads_take, eHeads_drop, eHeads_snoc, ← eHeads_append, eCommits_set, eCommits_rep, eCommits_take, eCommits_drop, eCommits_snoc, ← eCommits_append, ← CommitD.eq_iff]
  repeat' (first | intro _ | apply And.intro)
  all_goals first | omega | grind [all_take, set_take, eq_end]

def rpSz (r : RepoD) : Prop := r.commits.length ≤ 1048576 ∧ (∀ c ∈ r.commits, cmSz c) ∧ r.heads.length ≤ 1048576
def cToRepo : Con := .fn 13 RepoD (fun r => [lRepo r]) rpSz (fun r => .agg [.own 8 3 (eCommits r.commits), .own 9 2 (eHeads r.heads)]) (fun r => ownCommits 8 r.commits ++ ownHeads 9 r.heads)
set_option maxHeartbeats 4000000 in
theorem toRepo_has : Has Tryd.prog 45 cToRepo := by
  refine has_walk mixed tTab_ok (l := [(102, cToCommitS), (46, cToHeadS)]) (HasL.cons toCommitS_has (HasL.cons toHeadS_has HasL.nil)) [0, 1, 2, 3] ((fun a n (_ : Nat) => (fun _ => noInv) a n)) [] Tryd.func45 (by kernel_rfl) (code := _) (by unfold Tryd.f45; rfl) (by kernel_rfl) (by decide) (fun _ => ⟨(), trivial⟩) (by intro h; first | exact fun _ => rfl | cases h) (by kernel_rfl) ?_
  intro f hf
  obtain ⟨p, x⟩ := f
  obtain ⟨h1, h2, h3⟩ : p.length ≤ 1048576 ∧ (∀ c ∈ p, c.parents.length ≤ 1048576 ∧ c.tree.length ≤ 1048576 ∧ ∀ g ∈ c.tree, g.text.length ≤ 1048576) ∧ x.length ≤ 1048576 := hf
  simp -implicitDefEqProofs [vc_skip, extOf, vc_seq, vc_cond, vc_block, vc_exit, vc_ret, vc_region, vc_regionD, vc_loop, kSeq_normal, kSeq_ret, kSeq_exit, kBlock_normal, kBlock_ret, kBlock_exit, kLoop_normal, kLoop_ret, kLoop_exit, kCond_bool, kNorm_app, vcOps_nil, vcOps_cons, kOps_app, kStep_some, kStep_none, vcDL_nil, vcDL_cons, kOpsD_app, kStepD_true, kStepD_false, kStepC_some, kStepC_none, kMv_app, act3_store, act3_call, act3_bs, kAct_app, kSt2_app, stealSlots, stealL, stealOne, subIn, AV.stolen, act_store, act_bs, act_append, act_call, kSet_app, kSet2_app, kSetG_app, kSetG_app0, kStore_ptr, kStore_eptr, kCallW_some, kCallC_some, kCall_some, wk_T, wk_n, wk_keep, wk_inv, wk_act, wk_dr, wk_le, aCalm, wantC, dstOk, calm, aCallK, aCall3K, subOf, subRep, aCall2K, apnd, bsMove, putBox, putOwn, partAV, mvL, AV.mv, AV.base, AV.moved, AV.src, TI.flat, apSize, pickAV, St.val, St.cond, St.fn, St.next, St.set, St.trim, wipe_eq, wipeE_app, wipeM_app, pickEnv, get?, cGet, upd_app, withPuts, killAll, rm, freshP, Oper.hnd, Sc.st, ofConst, constOk, lenAV, elemLen, loadAV, ldL, ld1, fieldAddrAV, indexAddrAV, sliceAV, convAV, buildAV, fillAV, fieldAV, Out.of, binAV, AV.rows, AV.one, AV.cells, AV.deepOk, AV.toD, toDs, partRows, partRowsM, partsDeep, TK.zeroAV, TK.zeroD, byteOf, inR, Op.operands, Call.operands, passVs, passV, passL, pass1, passB, pasVs, pasV, pasL, pas1, ownsOk, okHs, okHs2, okFin, finOk2, rho, over, backRes, backAV, backAV1, backBlk, putBack, back2, back2_V, back2_1, m2, AV.wipe, AV.wipeV, AV.wipe1, Blk.wipe, AV.hs, AV.hs.hsL, alOps, Con.start2, Con.pk, bodyQ, fini, resAV, resA, firstId, Sc.from, renEnv, renT, renV, renVs, renL, ren1, renBox, renOwn, okRen, clOf, actB, setRow, flatRows, flatD, noInv, shr_nil, shr_some, kStepF_some, shareL, AV.viewed, AV.viewed1, cToRepo, Con.fn, tTab, cToCommitS, cToHeadS, cmSz]
  try dsimp only
  try simp +contextual [eStr, eFile, cast_succ, cast_eq, cast_zero, List.getElem?_eq_getElem, eStrs_set, eFiles_set, eStrs_rep, eFiles_rep, ← eStrs_append, ← eFiles_append, eStrs_take, eStrs_drop, eFiles_take, eFiles_drop, eStrs_snoc, eFiles_snoc, and_assoc]
  repeat' (first | intro _ | apply And.intro)
  all_goals first | omega | grind [all_take]

end Vx
end Go.Proofs.YtlhkmgbmnbkaeaaDoor
/-
  Contracts: comparisons of repositories.
-/
namespace Go.Proofs.YtlhkmgbmnbkaeaaDoor
namespace Vx
open Go.RowKit

def cEqIntS : Con := .fn 26 (List Int × List Int) (fun a => [.sl true 1 (eInts a.1), .sl true 1 (eInts a.2)]) (fun _ => True) (fun a => .bool (decide (a.1 = a.2))) (fun _ => [])
set_option maxHeartbeats 4000000 in
theorem eqIntS_has : Has Tryd.prog 57 cEqIntS := by
  refine has_walk mixed tTab_ok (l := []) HasL.nil [0, 1, 2, 3, 4, 5] ((fun a n (_ : Nat) => (fun a _ => ⟨Nat, fun i => ⟨[(0, true, .sl true 1 (eInts a.1)), (1, true, .sl true 1 (eInts a.2)), (4, true, .bool false), (5, true, .int .i64 i)], []⟩, fun i => i ≤ a.1.length ∧ a.1.length = a.2.length ∧ a.1.take i = a.2.take i, fun i => a.1.length - i⟩) a n)) [] Tryd.func57 (by kernel_rfl) (code := _) (by unfold Tryd.f57; rfl) (by kernel_rfl) (by decide) (fun _ => ⟨(), trivial⟩) (by intro h; first | exact fun _ => rfl | cases h) (by kernel_rfl) ?_
  intro a _
  obtain ⟨l, r⟩ := a
  simp -implicitDefEqProofs [vc_skip, extOf, vc_seq, vc_cond, vc_block, vc_exit, vc_ret, vc_region, vc_regionD, vc_loop, kSeq_normal, kSeq_ret, kSeq_exit, kBlock_normal, kBlock_ret, kBlock_exit, kLoop_normal, kLoop_ret, kLoop_exit, kCond_bool, kNorm_app, vcOps_nil, vcOps_cons, kOps_app, kStep_some, kStep_none, vcDL_nil, vcDL_cons, kOpsD_app, kStepD_true, kStepD_false, kStepC_some, kStepC_none, kMv_app, act3_store, act3_call, act3_bs, kAct_app, kSt2_app, stealSlots, stealL, stealOne, subIn, AV.stolen, act_store, act_bs, act_append, act_call, kSet_app, kSet2_app, kSetG_app, kSetG_app0, kStore_ptr, kStore_eptr, kCallW_some, kCallC_some, kCall_some, wk_T, wk_n, wk_keep, wk_inv, wk_act, wk_dr, wk_le, aCalm, wantC, dstOk, calm, aCallK, aCall3K, subOf, subRep, aCall2K, apnd, bsMove, putBox, putOwn, partAV, mvL, AV.mv, AV.base, AV.moved, AV.src, TI.flat, apSize, pickAV, St.val, St.cond, St.fn, St.next, St.set, St.trim, wipe_eq, wipeE_app, wipeM_app, pickEnv, get?, cGet, upd_app, withPuts, killAll, rm, freshP, Oper.hnd, Sc.st, ofConst, constOk, lenAV, elemLen, loadAV, ldL, ld1, fieldAddrAV, indexAddrAV, sliceAV, convAV, buildAV, fillAV, fieldAV, Out.of, binAV, AV.rows, AV.one, AV.cells, AV.deepOk, AV.toD, toDs, partRows, partRowsM, partsDeep, TK.zeroAV, TK.zeroD, byteOf, inR, Op.operands, Call.operands, passVs, passV, passL, pass1, passB, pasVs, pasV, pasL, pas1, ownsOk, okHs, okHs2, okFin, finOk2, rho, over, backRes, backAV, backAV1, backBlk, putBack, back2, back2_V, back2_1, m2, AV.wipe, AV.wipeV, AV.wipe1, Blk.wipe, AV.hs, AV.hs.hsL, alOps, Con.start2, Con.pk, bodyQ, fini, resAV, resA, firstId, Sc.from, renEnv, renT, renV, renVs, renL, ren1, renBox, renOwn, okRen, clOf, actB, setRow, flatRows, flatD, noInv, shr_nil, shr_some, kStepF_some, shareL, AV.viewed, AV.viewed1, cEqIntS, Con.fn, tTab]
  try dsimp only
  try simp +contextual [eStr, eFile, cast_succ, cast_eq, cast_zero, List.getElem?_eq_getElem, eStrs_set, eFiles_set, eStrs_rep, eFiles_rep, ← eStrs_append, ← eFiles_append, eStrs_take, eStrs_drop, eFiles_take, eFiles_drop, eStrs_snoc, eFiles_snoc, and_assoc, eInt, eHead, eCommit, lCommit, eInts_set, eInts_rep, eInts_take, eInts_drop, eInts_snoc, ← eInts_append, eHeads_set, eHeads_rep, eHeads_take, eHeads_drop, eHeads_snoc, ← eHeads_append, eCommits_set, eCommits_rep, eCommits_take, eCommits_drop, eCommits_snoc, ← eCommits_append]
  repeat' (first | intro _ | apply And.intro)
  all_goals first | omega | grind [all_take, eq_take, eq_end]

def cEqHead : Con := .fn 15 (HeadD × HeadD) (fun a => [.agg [.str a.1.name, .int .i64 a.1.at_], .agg [.str a.2.name, .int .i64 a.2.at_]]) (fun _ => True) (fun a => .bool (decide (a.1 = a.2))) (fun _ => [])
set_option maxHeartbeats 4000000 in
theorem eqHead_has : Has Tryd.prog 109 cEqHead := by
  refine has_walk mixed tTab_ok (l := []) HasL.nil [0, 1, 2, 3, 4] ((fun a n (_ : Nat) => (fun _ => noInv) a n)) [] Tryd.func109 (by kernel_rfl) (code := _) (by unfold Tryd.f109; rfl) (by kernel_rfl) (by decide) (fun _ => ⟨(), trivial⟩) (by intro h; first | exact fun _ => rfl | cases h) (by kernel_rfl) ?_
  intro a _
  obtain ⟨⟨p, x⟩, ⟨q, y⟩⟩ := a
  simp -implicitDefEqProofs [vc_skip, extOf, vc_seq, vc_cond, vc_block, vc_exit, vc_ret, vc_region, vc_regionD, vc_loop, kSeq_normal, kSeq_ret, kSeq_exit, kBlock_normal, kBlock_ret, kBlock_exit, kLoop_normal, kLoop_ret, kLoop_exit, kCond_bool, kNorm_app, vcOps_nil, vcOps_cons, kOps_app, kStep_some, kStep_none, vcDL_nil, vcDL_cons, kOpsD_app, kStepD_true, kStepD_false, kStepC_some, kStepC_none, kMv_app, act3_store, act3_call, act3_bs, kAct_app, kSt2_app, stealSlots, stealL, stealOne, subIn, AV.stolen, act_store, act_bs, act_append, act_call, kSet_app, kSet2_app, kSetG_app, kSetG_app0, kStore_ptr, kStore_eptr, kCallW_some, kCallC_some, kCall_some, wk_T, wk_n, wk_keep, wk_inv, wk_act, wk_dr, wk_le, aCalm, wantC, dstOk, calm, aCallK, aCall3K, subOf, subRep, aCall2K, apnd, bsMove, putBox, putOwn, partAV, mvL, AV.mv, AV.base, AV.moved, AV.src, TI.flat, apSize, pickAV, St.val, St.cond, St.fn, St.next, St.set, St.trim, wipe_eq, wipeE_app, wipeM_app, pickEnv, get?, cGet, upd_app, withPuts, killAll, rm, freshP, Oper.hnd, Sc.st, ofConst, constOk, lenAV, elemLen, loadAV, ldL, ld1, fieldAddrAV, indexAddrAV, sliceAV, convAV, buildAV, fillAV, fieldAV, Out.of, binAV, AV.rows, AV.one, AV.cells, AV.deepOk, AV.toD, toDs, partRows, partRowsM, partsDeep, TK.zeroAV, TK.zeroD, byteOf, inR, Op.operands, Call.operands, passVs, passV, passL, pass1, passB, pasVs, pasV, pasL, pas1, ownsOk, okHs, okHs2, okFin, finOk2, rho, over, backRes, backAV, backAV1, backBlk, putBack, back2, back2_V, back2_1, m2, AV.wipe, AV.wipeV, AV.wipe1, Blk.wipe, AV.hs, AV.hs.hsL, alOps, Con.start2, Con.pk, bodyQ, fini, resAV, resA, firstId, Sc.from, renEnv, renT, renV, renVs, renL, ren1, renBox, renOwn, okRen, clOf, actB, setRow, flatRows, flatD, noInv, shr_nil, shr_some, kStepF_some, shareL, AV.viewed, AV.viewed1, cEqHead, Con.fn, tTab]
  try dsimp only
  try simp +contextual [eStr, eFile, cast_succ, cast_eq, cast_zero, List.getElem?_eq_getElem, eStrs_set, eFiles_set, eStrs_rep, eFiles_rep, ← eStrs_append, ← eFiles_append, eStrs_take, eStrs_drop, eFiles_take, eFiles_drop, eStrs_snoc, eFiles_snoc, and_assoc]
  repeat' (first | intro _ | apply And.intro)
  all_goals first | omega | grind [all_take]

def cEqHeadS : Con := .fn 27 (List HeadD × List HeadD) (fun a => [.sl true 2 (eHeads a.1), .sl true 2 (eHeads a.2)]) (fun _ => True) (fun a => .bool (decide (a.1 = a.2))) (fun _ => [])
set_option maxHeartbeats 4000000 in
theorem eqHeadS_has : Has Tryd.prog 49 cEqHeadS := by
  refine has_walk mixed tTab_ok (l := [(109, cEqHead)]) (HasL.cons eqHead_has HasL.nil) [0, 1, 2, 3, 4, 5] ((fun a n (_ : Nat) => (fun a _ => ⟨Nat, fun i => ⟨[(0, true, .sl true 2 (eHeads a.1)), (1, true, .sl true 2 (eHeads a.2)), (4, true, .bool false), (5, true, .int .i64 i)], []⟩, fun i => i ≤ a.1.length ∧ a.1.length = a.2.length ∧ a.1.take i = a.2.take i, fun i => a.1.length - i⟩) a n)) [] Tryd.func49 (by kernel_rfl) (code := _) (by unfold Tryd.f49; rfl) (by kernel_rfl) (by decide) (fun _ => ⟨(), trivial⟩) (by intro h; first | exact fun _ => rfl | cases h) (by kernel_rfl) ?_
  intro a _
  obtain ⟨l, r⟩ := a
  simp -implicitDefEqProofs [vc_skip, extOf, vc_seq, vc_cond, vc_block, vc_exit, vc_ret, vc_region, vc_regionD, vc_loop, kSeq_normal, kSeq_ret, kSeq_exit, kBlock_normal, kBlock_ret, kBlock_exit, kLoop_normal, kLoop_ret, kLoop_exit, kCond_bool, kNorm_app, vcOps_nil, vcOps_cons, kOps_app, kStep_some, kStep_none, vcDL_nil, vcDL_cons, kOpsD_app, kStepD_true, kStepD_false, kStepC_some, kStepC_none, kMv_app, act3_store, act3_call, act3_bs, kAct_app, kSt2_app, stealSlots, stealL, stealOne, subIn, AV.stolen, act_store, act_bs, act_append, act_call, kSet_app, kSet2_app, kSetG_app, kSetG_app0, kStore_ptr, kStore_eptr, kCallW_some, kCallC_some, kCall_some, wk_T, wk_n, wk_keep, wk_inv, wk_act, wk_dr, wk_le, aCalm, wantC, dstOk, calm, aCallK, aCall3K, subOf, subRep, aCall2K, apnd, bsMove, putBox, putOwn, partAV, mvL, AV.mv, AV.base, AV.moved, AV.src, TI.flat, apSize, pickAV, St.val, St.cond, St.fn, St.next, St.set, St.trim, wipe_eq, wipeE_app, wipeM_app, pickEnv, get?, cGet, upd_app, withPuts, killAll, rm, freshP, Oper.hnd, Sc.st, ofConst, constOk, lenAV, elemLen, loadAV, ldL, ld1, fieldAddrAV, indexAddrAV, sliceAV, convAV, buildAV, fillAV, fieldAV, Out.of, binAV, AV.rows, AV.one, AV.cells, AV.deepOk, AV.toD, toDs, partRows, partRowsM, partsDeep, TK.zeroAV, TK.zeroD, byteOf, inR, Op.operands, Call.operands, passVs, passV, passL, pass1, passB, pasVs, pasV, pasL, pas1, ownsOk, okHs, okHs2, okFin, finOk2, rho, over, backRes, backAV, backAV1, backBlk, putBack, back2, back2_V, back2_1, m2, AV.wipe, AV.wipeV, AV.wipe1, Blk.wipe, AV.hs, AV.hs.hsL, alOps, Con.start2, Con.pk, bodyQ, fini, resAV, resA, firstId, Sc.from, renEnv, renT, renV, renVs, renL, ren1, renBox, renOwn, okRen, clOf, actB, setRow, flatRows, flatD, noInv, shr_nil, shr_some, kStepF_some, shareL, AV.viewed, AV.viewed1, cEqHeadS, Con.fn, tTab, cEqHead]
  try dsimp only
  try simp +contextual [eStr, eFile, cast_succ, cast_eq, cast_zero, List.getElem?_eq_getElem, eStrs_set, eFiles_set, eStrs_rep, eFiles_rep, ← eStrs_append, ← eFiles_append, eStrs_take, eStrs_drop, eFiles_take, eFiles_drop, eStrs_snoc, eFiles_snoc, and_assoc, eInt, eHead, eCommit, lCommit, eInts_set, eInts_rep, eInts_take, eInts_drop, eInts_snoc, ← eInts_append, eHeads_set, eHeads_rep, eHeads_take, eHeads_drop, eHeads_snoc, ← eHeads_append, eCommits_set, eCommits_rep, eCommits_take, eCommits_drop, eCommits_snoc, ← eCommits_append, ← HeadD.eq_iff]
  repeat' (first | intro _ | apply And.intro)
  all_goals first | omega | grind [all_take, eq_take, eq_end]

def cEqCommit : Con := .fn 22 (CommitD × CommitD) (fun a => [.agg [.sl true 1 (eInts a.1.parents), .str a.1.who, .sl true 2 (eFiles a.1.tree)], .agg [.sl true 1 (eInts a.2.parents), .str a.2.who, .sl true 2 (eFiles a.2.tree)]]) (fun _ => True) (fun a => .bool (decide (a.1 = a.2))) (fun _ => [])
set_option maxHeartbeats 4000000 in
theorem eqCommit_has : Has Tryd.prog 148 cEqCommit := by
  refine has_walk mixed tTab_ok (l := [(57, cEqIntS), (25, cEqFileS)]) (HasL.cons eqIntS_has (HasL.cons eqFileS_has HasL.nil)) [0, 1, 2, 3, 4] ((fun a n (_ : Nat) => (fun _ => noInv) a n)) [] Tryd.func148 (by kernel_rfl) (code := _) (by unfold Tryd.f148; rfl) (by kernel_rfl) (by decide) (fun _ => ⟨(), trivial⟩) (by intro h; first | exact fun _ => rfl | cases h) (by kernel_rfl) ?_
  intro a _
  obtain ⟨⟨p, x, s⟩, ⟨q, y, t⟩⟩ := a
  simp -implicitDefEqProofs [vc_skip, extOf, vc_seq, vc_cond, vc_block, vc_exit, vc_ret, vc_region, vc_regionD, vc_loop, kSeq_normal, kSeq_ret, kSeq_exit, kBlock_normal, kBlock_ret, kBlock_exit, kLoop_normal, kLoop_ret, kLoop_exit, kCond_bool, kNorm_app, vcOps_nil, vcOps_cons, kOps_app, kStep_some, kStep_none, vcDL_nil, vcDL_cons, kOpsD_app, kStepD_true, kStepD_false, kStepC_some, kStepC_none, kMv_app, act3_store, act3_call, act3_bs, kAct_app, kSt2_app, stealSlots, stealL, stealOne, subIn, AV.stolen, act_store, act_bs, act_append, act_call, kSet_app, kSet2_app, kSetG_app, kSetG_app0, kStore_ptr, kStore_eptr, kCallW_some, kCallC_some, kCall_some, wk_T, wk_n, wk_keep, wk_inv, wk_act, wk_dr, wk_le, aCalm, wantC, dstOk, calm, aCallK, aCall3K, subOf, subRep, aCall2K, apnd, bsMove, putBox, putOwn, partAV, mvL, AV.mv, AV.base, AV.moved, AV.src, TI.flat, apSize, pickAV, St.val, St.cond, St.fn, St.next, St.set, St.trim, wipe_eq, wipeE_app, wipeM_app, pickEnv, get?, cGet, upd_app, withPuts, killAll, rm, freshP, Oper.hnd, Sc.st, ofConst, constOk, lenAV, elemLen, loadAV, ldL, ld1, fieldAddrAV, indexAddrAV, sliceAV, convAV, buildAV, fillAV, fieldAV, Out.of, binAV, AV.rows, AV.one, AV.cells, AV.deepOk, AV.toD, toDs, partRows, partRowsM, partsDeep, TK.zeroAV, TK.zeroD, byteOf, inR, Op.operands, Call.operands, passVs, passV, passL, pass1, passB, pasVs, pasV, pasL, pas1, ownsOk, okHs, okHs2, okFin, finOk2, rho, over, backRes, backAV, backAV1, backBlk, putBack, back2, back2_V, back2_1, m2, AV.wipe, AV.wipeV, AV.wipe1, Blk.wipe, AV.hs, AV.hs.hsL, alOps, Con.start2, Con.pk, bodyQ, fini, resAV, resA, firstId, Sc.from, renEnv, renT, renV, renVs, renL, ren1, renBox, renOwn, okRen, clOf, actB, setRow, flatRows, flatD, noInv, shr_nil, shr_some, kStepF_some, shareL, AV.viewed, AV.viewed1, cEqCommit, Con.fn, tTab, cEqIntS, cEqFileS]
  try dsimp only
  try simp +contextual [eStr, eFile, cast_succ, cast_eq, cast_zero, List.getElem?_eq_getElem, eStrs_set, eFiles_set, eStrs_rep, eFiles_rep, ← eStrs_append, ← eFiles_append, eStrs_take, eStrs_drop, eFiles_take, eFiles_drop, eStrs_snoc, eFiles_snoc, and_assoc]
  repeat' (first | intro _ | apply And.intro)
  all_goals first | omega | grind [all_take]

def cEqCommitS : Con := .fn 27 (List CommitD × List CommitD) (fun a => [.sl true 3 (eCommits a.1), .sl true 3 (eCommits a.2)]) (fun _ => True) (fun a => .bool (decide (a.1 = a.2))) (fun _ => [])
set_option maxHeartbeats 4000000 in
theorem eqCommitS_has : Has Tryd.prog 108 cEqCommitS := by
  refine has_walk mixed tTab_ok (l := [(148, cEqCommit)]) (HasL.cons eqCommit_has HasL.nil) [0, 1, 2, 3, 4, 5] ((fun a n (_ : Nat) => (fun a _ => ⟨Nat, fun i => ⟨[(0, true, .sl true 3 (eCommits a.1)), (1, true, .sl true 3 (eCommits a.2)), (4, true, .bool false), (5, true, .int .i64 i)], []⟩, fun i => i ≤ a.1.length ∧ a.1.length = a.2.length ∧ a.1.take i = a.2.take i, fun i => a.1.length - i⟩) a n)) [] Tryd.func108 (by kernel_rfl) (code := _) (by unfold Tryd.f108; rfl) (by kernel_rfl) (by decide) (fun _ => ⟨(), trivial⟩) (by intro h; first | exact fun _ => rfl | cases h) (by kernel_rfl) ?_
  intro a _
  obtain ⟨l, r⟩ := a
  simp -implicitDefEqProofs [vc_skip, extOf, vc_seq, vc_cond, vc_block, vc_exit, vc_ret, vc_region, vc_regionD, vc_loop, kSeq_normal, kSeq_ret, kSeq_exit, kBlock_normal, kBlock_ret, kBlock_exit, kLoop_normal, kLoop_ret, kLoop_exit, kCond_bool, kNorm_app, vcOps_nil, vcOps_cons, kOps_app, kStep_some, kStep_none, vcDL_nil, vcDL_cons, kOpsD_app, kStepD_true, kStepD_false, kStepC_some, kStepC_none, kMv_app, act3_store, act3_call, act3_bs, kAct_app, kSt2_app, stealSlots, stealL, stealOne, subIn, AV.stolen, act_store, act_bs, act_append, act_call, kSet_app, kSet2_app, kSetG_app, kSetG_app0, kStore_ptr, kStore_eptr, kCallW_some, kCallC_some, kCall_some, wk_T, wk_n, wk_keep, wk_inv, wk_act, wk_dr, wk_le, aCalm, wantC, dstOk, calm, aCallK, aCall3K, subOf, subRep, aCall2K, apnd, bsMove, putBox, putOwn, partAV, mvL, AV.mv, AV.base, AV.moved, AV.src, TI.flat, apSize, pickAV, St.val, St.cond, St.fn, St.next, St.set, St.trim, wipe_eq, wipeE_app, wipeM_app, pickEnv, get?, cGet, upd_app, withPuts, killAll, rm, freshP, Oper.hnd, Sc.st, ofConst, constOk, lenAV, elemLen, loadAV, ldL, ld1, fieldAddrAV, indexAddrAV, sliceAV, convAV, buildAV, fillAV, fieldAV, Out.of, binAV, AV.rows, AV.one, AV.cells, AV.deepOk, AV.toD, toDs, partRows, partRowsM, partsDeep, TK.zeroAV, TK.zeroD, byteOf, inR, Op.operands, Call.operands, passVs, passV, passL, pass1, passB, pasVs, pasV, pasL, pas1, ownsOk, okHs, okHs2, okFin, finOk2, rho, over, backRes, backAV, backAV1, backBlk, putBack, back2, back2_V, back2_1, m2, AV.wipe, AV.wipeV, AV.wipe1, Blk.wipe, AV.hs, AV.hs.hsL, alOps, Con.start2, Con.pk, bodyQ, fini, resAV, resA, firstId, Sc.from, renEnv, renT, renV, renVs, renL, ren1, renBox, renOwn, okRen, clOf, actB, setRow, flatRows, flatD, noInv, shr_nil, shr_some, kStepF_some, shareL, AV.viewed, AV.viewed1, cEqCommitS, Con.fn, tTab, cEqCommit]
  try dsimp only
  try simp +contextual [eStr, eFile, cast_succ, cast_eq, cast_zero, List.getElem?_eq_getElem, eStrs_set, eFiles_set, eStrs_rep, eFiles_rep, ← eStrs_append, ← eFiles_append, eStrs_take, eStrs_drop, eFiles_take, eFiles_drop, eStrs_snoc, eFiles_snoc, and_assoc, eInt, eHead, eCommit, lCommit, eInts_set, eInts_rep, eInts_take, eInts_drop, eInts_snoc, ← eInts_append, eHeads_set, eHeads_rep, eHeads_take, eHeads_drop, eHeads_snoc, ← eHeads_append, eCommits_set, eCommits_rep, eCommits_take, eCommits_drop, eCommits_snoc, ← eCommits_append, ← CommitD.eq_iff]
  repeat' (first | intro _ | apply And.intro)
  all_goals first | omega | grind [all_take, eq_take, eq_end]

def cEqRepo : Con := .fn 17 (RepoD × RepoD) (fun a => [vRepo a.1, vRepo a.2]) (fun _ => True) (fun a => .bool (decide (a.1 = a.2))) (fun _ => [])
set_option maxHeartbeats 4000000 in
theorem eqRepo_has : Has Tryd.prog 48 cEqRepo := by
  refine has_walk mixed tTab_ok (l := [(108, cEqCommitS), (49, cEqHeadS)]) (HasL.cons eqCommitS_has (HasL.cons eqHeadS_has HasL.nil)) [0, 1, 2, 3, 4] ((fun a n (_ : Nat) => (fun _ => noInv) a n)) [] Tryd.func48 (by kernel_rfl) (code := _) (by unfold Tryd.f48; rfl) (by kernel_rfl) (by decide) (fun _ => ⟨(), trivial⟩) (by intro h; first | exact fun _ => rfl | cases h) (by kernel_rfl) ?_
  intro a _
  obtain ⟨⟨p, x⟩, ⟨q, y⟩⟩ := a
  simp -implicitDefEqProofs [vc_skip, extOf, vc_seq, vc_cond, vc_block, vc_exit, vc_ret, vc_region, vc_regionD, vc_loop, kSeq_normal, kSeq_ret, kSeq_exit, kBlock_normal, kBlock_ret, kBlock_exit, kLoop_normal, kLoop_ret, kLoop_exit, kCond_bool, kNorm_app, vcOps_nil, vcOps_cons, kOps_app, kStep_some, kStep_none, vcDL_nil, vcDL_cons, kOpsD_app, kStepD_true, kStepD_false, kStepC_some, kStepC_none, kMv_app, act3_store, act3_call, act3_bs, kAct_app, kSt2_app, stealSlots, stealL, stealOne, subIn, AV.stolen, act_store, act_bs, act_append, act_call, kSet_app, kSet2_app, kSetG_app, kSetG_app0, kStore_ptr, kStore_eptr, kCallW_some, kCallC_some, kCall_some, wk_T, wk_n, wk_keep, wk_inv, wk_act, wk_dr, wk_le, aCalm, wantC, dstOk, calm, aCallK, aCall3K, subOf, subRep, aCall2K, apnd, bsMove, putBox, putOwn, partAV, mvL, AV.mv, AV.base, AV.moved, AV.src, TI.flat, apSize, pickAV, St.val, St.cond, St.fn, St.next, St.set, St.trim, wipe_eq, wipeE_app, wipeM_app, pickEnv, get?, cGet, upd_app, withPuts, killAll, rm, freshP, Oper.hnd, Sc.st, ofConst, constOk, lenAV, elemLen, loadAV, ldL, ld1, fieldAddrAV, indexAddrAV, sliceAV, convAV, buildAV, fillAV, fieldAV, Out.of, binAV, AV.rows, AV.one, AV.cells, AV.deepOk, AV.toD, toDs, partRows, partRowsM, partsDeep, TK.zeroAV, TK.zeroD, byteOf, inR, Op.operands, Call.operands, passVs, passV, passL, pass1, passB, pasVs, pasV, pasL, pas1, ownsOk, okHs, okHs2, okFin, finOk2, rho, over, backRes, backAV, backAV1, backBlk, putBack, back2, back2_V, back2_1, m2, AV.wipe, AV.wipeV, AV.wipe1, Blk.wipe, AV.hs, AV.hs.hsL, alOps, Con.start2, Con.pk, bodyQ, fini, resAV, resA, firstId, Sc.from, renEnv, renT, renV, renVs, renL, ren1, renBox, renOwn, okRen, clOf, actB, setRow, flatRows, flatD, noInv, shr_nil, shr_some, kStepF_some, shareL, AV.viewed, AV.viewed1, cEqRepo, Con.fn, tTab, cEqCommitS, cEqHeadS]
  try dsimp only
  try simp +contextual [eStr, eFile, cast_succ, cast_eq, cast_zero, List.getElem?_eq_getElem, eStrs_set, eFiles_set, eStrs_rep, eFiles_rep, ← eStrs_append, ← eFiles_append, eStrs_take, eStrs_drop, eFiles_take, eFiles_drop, eStrs_snoc, eFiles_snoc, and_assoc]
  repeat' (first | intro _ | apply And.intro)
  all_goals first | omega | grind [all_take]

end Vx
end Go.Proofs.YtlhkmgbmnbkaeaaDoor
/-
  Contracts: branches (headsOk, l23Ok).
-/
namespace Go.Proofs.YtlhkmgbmnbkaeaaDoor
namespace Vx
open Go.RowKit
set_option maxRecDepth 8000

def cExists : Con := .fn 11 (RepoD × Int) (fun a => [vRepo a.1, .int .i64 a.2]) (fun a => a.1.commits.length ≤ 1073741824) (fun a => .bool (decide (0 ≤ a.2) && decide (a.2 ≤ (a.1.commits.length : Int) - 1))) (fun _ => [])
set_option maxHeartbeats 4000000 in
theorem exists_has : Has Tryd.prog 105 cExists := by
  refine has_walk mixed tTab_ok (l := [(126, cWithin)]) (HasL.cons within_has HasL.nil) [0, 1, 2, 4] ((fun a n (_ : Nat) => (fun _ => noInv) a n)) [] Tryd.func105 (by kernel_rfl) (code := _) (by unfold Tryd.f105; rfl) (by kernel_rfl) (by decide) (fun _ => ⟨(), trivial⟩) (by intro h; first | exact fun _ => rfl | cases h) (by kernel_rfl) ?_
  intro a ha
  obtain ⟨r, n⟩ := a
  replace ha : r.commits.length ≤ 1073741824 := ha
  simp -implicitDefEqProofs [vc_skip, extOf, vc_seq, vc_cond, vc_block, vc_exit, vc_ret, vc_region, vc_regionD, vc_loop, kSeq_normal, kSeq_ret, kSeq_exit, kBlock_normal, kBlock_ret, kBlock_exit, kLoop_normal, kLoop_ret, kLoop_exit, kCond_bool, kNorm_app, vcOps_nil, vcOps_cons, kOps_app, kStep_some, kStep_none, vcDL_nil, vcDL_cons, kOpsD_app, kStepD_true, kStepD_false, kStepC_some, kStepC_none, kMv_app, act3_store, act3_call, act3_bs, kAct_app, kSt2_app, stealSlots, stealL, stealOne, subIn, AV.stolen, act_store, act_bs, act_append, act_call, kSet_app, kSet2_app, kSetG_app, kSetG_app0, kStore_ptr, kStore_eptr, kCallW_some, kCallC_some, kCall_some, wk_T, wk_n, wk_keep, wk_inv, wk_act, wk_dr, wk_le, aCalm, wantC, dstOk, calm, aCallK, aCall3K, subOf, subRep, aCall2K, apnd, bsMove, putBox, putOwn, partAV, mvL, AV.mv, AV.base, AV.moved, AV.src, TI.flat, apSize, pickAV, St.val, St.cond, St.fn, St.next, St.set, St.trim, wipe_eq, wipeE_app, wipeM_app, pickEnv, get?, cGet, upd_app, withPuts, killAll, rm, freshP, Oper.hnd, Sc.st, ofConst, constOk, lenAV, elemLen, loadAV, ldL, ld1, fieldAddrAV, indexAddrAV, sliceAV, convAV, buildAV, fillAV, fieldAV, Out.of, binAV, AV.rows, AV.one, AV.cells, AV.deepOk, AV.toD, toDs, partRows, partRowsM, partsDeep, TK.zeroAV, TK.zeroD, byteOf, inR, Op.operands, Call.operands, passVs, passV, passL, pass1, passB, pasVs, pasV, pasL, pas1, ownsOk, okHs, okHs2, okFin, finOk2, rho, over, backRes, backAV, backAV1, backBlk, putBack, back2, back2_V, back2_1, m2, AV.wipe, AV.wipeV, AV.wipe1, Blk.wipe, AV.hs, AV.hs.hsL, alOps, Con.start2, Con.pk, bodyQ, fini, resAV, resA, firstId, Sc.from, renEnv, renT, renV, renVs, renL, ren1, renBox, renOwn, okRen, clOf, actB, setRow, flatRows, flatD, noInv, shr_nil, shr_some, kStepF_some, shareL, AV.viewed, AV.viewed1, cExists, Con.fn, tTab, cWithin]
  try dsimp only
  try simp +contextual -implicitDefEqProofs [eStr, eFile, cast_succ, cast_eq, cast_zero, List.getElem?_eq_getElem, eStrs_set, eFiles_set, eStrs_rep, eFiles_rep, ← eStrs_append, ← eFiles_append, eStrs_take, eStrs_drop, eFiles_take, eFiles_drop, eStrs_snoc, eFiles_snoc, and_assoc]
  repeat' (first | intro _ | apply And.intro)
  all_goals first | omega | grind [all_take]

def inN (n : Nat) (a : Int) : Bool := decide (0 ≤ a) && decide (a ≤ (n : Int) - 1)
def okHd (n : Nat) (h : List HeadD) (i : Nat) : Bool := nameB (h.getD i default).name && inN n (h.getD i default).at_ && (decide (i = 0) || Go.Op.bytesLess (h.getD (i - 1) default).name (h.getD i default).name)
def headsB (n : Nat) (h : List HeadD) : Bool := decide (h.length ≤ 5) && (List.range h.length).all (okHd n h)
theorem headsB_iff (n : Nat) (h : List HeadD) : headsB n h = true ↔ h.length ≤ 5 ∧ ∀ i, i < h.length → okHd n h i = true := by simp -implicitDefEqProofs [headsB]
theorem headsB_no {n : Nat} {h : List HeadD} {i : Nat} (hi : i < h.length) (hb : okHd n h i = false) : headsB n h = false := by
  cases hq : headsB n h with
  | false => rfl
  | true => have := ((headsB_iff n h).1 hq).2 i hi; simp -implicitDefEqProofs [hb] at this
def cHeadsOk : Con := .fn 44 (RepoD × List HeadD) (fun a => [vRepo a.1, .sl true 2 (eHeads a.2)]) (fun a => a.1.commits.length ≤ 1073741824) (fun a => .bool (headsB a.1.commits.length a.2)) (fun _ => [])
set_option maxHeartbeats 4000000 in
theorem headsOk_has : Has Tryd.prog 121 cHeadsOk := by
  refine has_walk mixed tTab_ok (l := [(70, cNameOk), (105, cExists)]) (HasL.cons nameOk_has (HasL.cons exists_has HasL.nil)) [0, 1, 2, 4, 5, 6, 10, 11, 12] ((fun a n (_ : Nat) => (fun a _ => ⟨Nat, fun i => ⟨[(1, true, .sl true 2 (eHeads a.2)), (2, true, .ptr 10 0), (4, true, .bool false), (10, true, .sl true 2 (eHeads a.2)), (11, true, .int .i64 a.2.length), (12, true, .int .i64 i)], [(10, .box 65 [.sl true 3 (eCommits a.1.commits), .sl true 2 (eHeads a.1.heads)])]⟩, fun i => i ≤ a.2.length ∧ a.2.length ≤ 5 ∧ ∀ j, j < i → okHd a.1.commits.length a.2 j = true, fun i => a.2.length - i⟩) a n)) [] Tryd.func121 (by kernel_rfl) (code := _) (by unfold Tryd.f121; rfl) (by kernel_rfl) (by decide) (fun _ => ⟨(), trivial⟩) (by intro h; first | exact fun _ => rfl | cases h) (by kernel_rfl) ?_
  intro a ha
  obtain ⟨r, t⟩ := a
  replace ha : r.commits.length ≤ 1073741824 := ha
  have hB : 5 < t.length → headsB r.commits.length t = false := fun h => by
    cases hq : headsB r.commits.length t with
    | false => rfl
    | true => have := ((headsB_iff _ _).1 hq).1; omega
  have hN := fun i => @headsB_no r.commits.length t i
  have hE := (headsB_iff r.commits.length t).2
  have hg : ∀ i (h : i < t.length), t.getD i default = t[i] := fun i h => by simp -implicitDefEqProofs [List.getD_eq_getElem?_getD, h]
  have hgg : ∀ i (h : i < t.length), t[i]?.getD default = t[i] := fun i h => by simp -implicitDefEqProofs [h]
  have e1 : ∀ k (h : k < t.length), Option.map eHead t[k]? = some (eHead t[k]) := fun k h => by simp -implicitDefEqProofs [List.getElem?_eq_getElem h]
  simp -implicitDefEqProofs [vc_skip, extOf, vc_seq, vc_cond, vc_block, vc_exit, vc_ret, vc_region, vc_regionD, vc_loop, kSeq_normal, kSeq_ret, kSeq_exit, kBlock_normal, kBlock_ret, kBlock_exit, kLoop_normal, kLoop_ret, kLoop_exit, kCond_bool, kNorm_app, vcOps_nil, vcOps_cons, kOps_app, kStep_some, kStep_none, vcDL_nil, vcDL_cons, kOpsD_app, kStepD_true, kStepD_false, kStepC_some, kStepC_none, kMv_app, act3_store, act3_call, act3_bs, kAct_app, kSt2_app, stealSlots, stealL, stealOne, subIn, AV.stolen, act_store, act_bs, act_append, act_call, kSet_app, kSet2_app, kSetG_app, kSetG_app0, kStore_ptr, kStore_eptr, kCallW_some, kCallC_some, kCall_some, wk_T, wk_n, wk_keep, wk_inv, wk_act, wk_dr, wk_le, aCalm, wantC, dstOk, calm, aCallK, aCall3K, subOf, subRep, aCall2K, apnd, bsMove, putBox, putOwn, partAV, mvL, AV.mv, AV.base, AV.moved, AV.src, TI.flat, apSize, pickAV, St.val, St.cond, St.fn, St.next, St.set, St.trim, wipe_eq, wipeE_app, wipeM_app, pickEnv, get?, cGet, upd_app, withPuts, killAll, rm, freshP, Oper.hnd, Sc.st, ofConst, constOk, lenAV, elemLen, loadAV, ldL, ld1, fieldAddrAV, indexAddrAV, sliceAV, convAV, buildAV, fillAV, fieldAV, Out.of, binAV, AV.rows, AV.one, AV.cells, AV.deepOk, AV.toD, toDs, partRows, partRowsM, partsDeep, TK.zeroAV, TK.zeroD, byteOf, inR, Op.operands, Call.operands, passVs, passV, passL, pass1, passB, pasVs, pasV, pasL, pas1, ownsOk, okHs, okHs2, okFin, finOk2, rho, over, backRes, backAV, backAV1, backBlk, putBack, back2, back2_V, back2_1, m2, AV.wipe, AV.wipeV, AV.wipe1, Blk.wipe, AV.hs, AV.hs.hsL, alOps, Con.start2, Con.pk, bodyQ, fini, resAV, resA, firstId, Sc.from, renEnv, renT, renV, renVs, renL, ren1, renBox, renOwn, okRen, clOf, actB, setRow, flatRows, flatD, noInv, shr_nil, shr_some, kStepF_some, shareL, AV.viewed, AV.viewed1, cHeadsOk, Con.fn, tTab, cNameOk, cExists]
  try dsimp only
  refine fun _ => ⟨fun h => hB (by omega), fun h5 _ => ⟨by omega, fun i hi _ hprev => ⟨fun hlt => ?_, fun hge => hE ⟨by omega, fun j hj => hprev j (by omega)⟩⟩⟩⟩
  have e3 := e1 i hlt
  have e4 := e1 (i - 1) (by omega)
  have hh : okHd r.commits.length t i = (nameB t[i].name && inN r.commits.length t[i].at_ && (decide (i = 0) || Go.Op.bytesLess (t[i - 1]'(by omega)).name t[i].name)) := by
    unfold okHd
    rw [hg i hlt, hg (i - 1) (by omega)]
  have hn := hN i hlt
  rw [hh] at hn
  unfold inN at hn hh
  simp -implicitDefEqProofs [hlt, e3, e4, eHead, D.asStr, D.asInt, cast_eq, and_assoc]
  try simp +contextual -implicitDefEqProofs [eStr, eFile, cast_succ, cast_eq, cast_zero, List.getElem?_eq_getElem, eStrs_set, eFiles_set, eStrs_rep, eFiles_rep, ← eStrs_append, ← eFiles_append, eStrs_take, eStrs_drop, eFiles_take, eFiles_drop, eStrs_snoc, eFiles_snoc, and_assoc, hlt]
  clear e1 hg hgg hN hE hB
  repeat' (first | intro _ | apply And.intro)
  all_goals first | omega | grind -ring

def cL23Ok : Con := .fn 53 (RepoD × List HeadD) (fun a => [vRepo a.1, .sl true 2 (eHeads a.2)]) (fun a => a.1.commits.length ≤ 1073741824) (fun a => .bool (headsB a.1.commits.length a.2)) (fun _ => [])
set_option maxHeartbeats 4000000 in
theorem l23Ok_has : Has Tryd.prog 97 cL23Ok := by
  refine has_walk mixed tTab_ok (l := [(73, cL4Name), (98, cL1In)]) (HasL.cons l4Name_has (HasL.cons l1In_has HasL.nil)) [0, 1, 2, 4, 5] ((fun a n (_ : Nat) => (fun a _ => ⟨Nat, fun i => ⟨[(1, true, .sl true 2 (eHeads a.2)), (2, true, .ptr 10 0), (4, true, .bool false), (5, true, .int .i64 i)], [(10, .box 65 [.sl true 3 (eCommits a.1.commits), .sl true 2 (eHeads a.1.heads)])]⟩, fun i => i ≤ a.2.length ∧ ∀ j, j < i → okHd a.1.commits.length a.2 j = true, fun i => a.2.length - i⟩) a n)) [] Tryd.func97 (by kernel_rfl) (code := _) (by unfold Tryd.f97; rfl) (by kernel_rfl) (by decide) (fun _ => ⟨(), trivial⟩) (by intro h; first | exact fun _ => rfl | cases h) (by kernel_rfl) ?_
  intro a ha
  obtain ⟨r, t⟩ := a
  replace ha : r.commits.length ≤ 1073741824 := ha
  have hN := fun i => @headsB_no r.commits.length t i
  have hg : ∀ i (h : i < t.length), t.getD i default = t[i] := fun i h => by simp -implicitDefEqProofs [List.getD_eq_getElem?_getD, h]
  have e1 : ∀ k (h : k < t.length), Option.map eHead t[k]? = some (eHead t[k]) := fun k h => by simp -implicitDefEqProofs [List.getElem?_eq_getElem h]
  simp -implicitDefEqProofs [vc_skip, extOf, vc_seq, vc_cond, vc_block, vc_exit, vc_ret, vc_region, vc_regionD, vc_loop, kSeq_normal, kSeq_ret, kSeq_exit, kBlock_normal, kBlock_ret, kBlock_exit, kLoop_normal, kLoop_ret, kLoop_exit, kCond_bool, kNorm_app, vcOps_nil, vcOps_cons, kOps_app, kStep_some, kStep_none, vcDL_nil, vcDL_cons, kOpsD_app, kStepD_true, kStepD_false, kStepC_some, kStepC_none, kMv_app, act3_store, act3_call, act3_bs, kAct_app, kSt2_app, stealSlots, stealL, stealOne, subIn, AV.stolen, act_store, act_bs, act_append, act_call, kSet_app, kSet2_app, kSetG_app, kSetG_app0, kStore_ptr, kStore_eptr, kCallW_some, kCallC_some, kCall_some, wk_T, wk_n, wk_keep, wk_inv, wk_act, wk_dr, wk_le, aCalm, wantC, dstOk, calm, aCallK, aCall3K, subOf, subRep, aCall2K, apnd, bsMove, putBox, putOwn, partAV, mvL, AV.mv, AV.base, AV.moved, AV.src, TI.flat, apSize, pickAV, St.val, St.cond, St.fn, St.next, St.set, St.trim, wipe_eq, wipeE_app, wipeM_app, pickEnv, get?, cGet, upd_app, withPuts, killAll, rm, freshP, Oper.hnd, Sc.st, ofConst, constOk, lenAV, elemLen, loadAV, ldL, ld1, fieldAddrAV, indexAddrAV, sliceAV, convAV, buildAV, fillAV, fieldAV, Out.of, binAV, AV.rows, AV.one, AV.cells, AV.deepOk, AV.toD, toDs, partRows, partRowsM, partsDeep, TK.zeroAV, TK.zeroD, byteOf, inR, Op.operands, Call.operands, passVs, passV, passL, pass1, passB, pasVs, pasV, pasL, pas1, ownsOk, okHs, okHs2, okFin, finOk2, rho, over, backRes, backAV, backAV1, backBlk, putBack, back2, back2_V, back2_1, m2, AV.wipe, AV.wipeV, AV.wipe1, Blk.wipe, AV.hs, AV.hs.hsL, alOps, Con.start2, Con.pk, bodyQ, fini, resAV, resA, firstId, Sc.from, renEnv, renT, renV, renVs, renL, ren1, renBox, renOwn, okRen, clOf, actB, setRow, flatRows, flatD, noInv, shr_nil, shr_some, kStepF_some, shareL, AV.viewed, AV.viewed1, cL23Ok, Con.fn, tTab, cL4Name, cL1In]
  try dsimp only
  refine fun i hi hprev _ => ⟨fun hlt => ?_, fun hge => ?_⟩
  · have e3 := e1 i hlt
    have e4 := e1 (i - 1) (by omega)
    have hh : okHd r.commits.length t i = (nameB t[i].name && inN r.commits.length t[i].at_ && (decide (i = 0) || Go.Op.bytesLess (t[i - 1]'(by omega)).name t[i].name)) := by
      unfold okHd
      rw [hg i hlt, hg (i - 1) (by omega)]
    have hn := hN i hlt
    rw [hh] at hn
    unfold inN at hn hh
    have hq := leqS_iff t[i].name (t[i - 1]'(by omega)).name
    rw [less_eq] at hn hh
    unfold leqS at hq
    simp -implicitDefEqProofs [hlt, e3, e4, eHead, D.asStr, D.asInt, cast_eq, and_assoc]
    try simp +contextual -implicitDefEqProofs [eStr, eFile, cast_succ, cast_eq, cast_zero, List.getElem?_eq_getElem, eStrs_set, eFiles_set, eStrs_rep, eFiles_rep, ← eStrs_append, ← eFiles_append, eStrs_take, eStrs_drop, eFiles_take, eFiles_drop, eStrs_snoc, eFiles_snoc, and_assoc, hlt]
    clear e1 hg hN
    repeat' (first | intro _ | apply And.intro)
    all_goals first | omega | grind -ring
  · have : (∀ i, i < t.length → okHd r.commits.length t i = true) := fun j hj => hprev j (by omega)
    have h2 : headsB r.commits.length t = decide (t.length ≤ 5) := by
      unfold headsB
      have : (List.range t.length).all (okHd r.commits.length t) = true := by simpa using this
      rw [this, Bool.and_true]
    rw [h2]
    intro _
    rw [Bool.eq_iff_iff]
    simp
    try omega

end Vx
end Go.Proofs.YtlhkmgbmnbkaeaaDoor
/-
  Contracts: repositories (RepoOk, l7Ok).
-/
namespace Go.Proofs.YtlhkmgbmnbkaeaaDoor
namespace Vx
open Go.RowKit
set_option maxRecDepth 8000

def okI1 (cs : List CommitD) (i : Nat) : Bool :=
  decide ((cs.getD i default).parents.length ≤ 2) && !(decide ((cs.getD i default).parents.length = 2) && decide ((cs.getD i default).parents.getD 0 0 = (cs.getD i default).parents.getD 1 0)) && nameB (cs.getD i default).who && treeI (cs.getD i default).tree
def okCI (cs : List CommitD) (i : Nat) : Bool := okI1 cs i && (List.range (cs.getD i default).parents.length).all fun k => inN i ((cs.getD i default).parents.getD k 0)
def repoI (r : RepoD) : Bool := decide (r.commits.length ≤ 16) && (List.range r.commits.length).all (okCI r.commits) && headsB r.commits.length r.heads
def rpPre (r : RepoD) : Prop := r.commits.length ≤ 1073741824 ∧ ∀ c ∈ r.commits, ∀ f ∈ c.tree, f.path.length ≤ 536870912
def bRepo (r : RepoD) : Blk := .box 65 [.sl true 3 (eCommits r.commits), .sl true 2 (eHeads r.heads)]
theorem bRepo_def (r : RepoD) : bRepo r = .box 65 [.sl true 3 (eCommits r.commits), .sl true 2 (eHeads r.heads)] := rfl
def riO (r : RepoD) : Inv := ⟨Nat, fun i => ⟨[(1, true, .ptr 10 0), (2, true, .bool false), (12, true, .sl true 3 (eCommits r.commits)), (13, true, .int .i64 r.commits.length), (14, true, .int .i64 i)], [(10, bRepo r)]⟩, fun i => i ≤ r.commits.length ∧ r.commits.length ≤ 16 ∧ ∀ j, j < i → okCI r.commits j = true, fun i => r.commits.length - i⟩
def riI (r : RepoD) (g : Nat) : Inv := ⟨Nat, fun k => ⟨[(1, true, .ptr 10 0), (2, true, .bool false), (3, true, .int .i64 g), (12, true, .sl true 3 (eCommits r.commits)), (13, true, .int .i64 r.commits.length), (14, true, .int .i64 g), (53, true, .sl true 1 (eInts (r.commits.getD g default).parents)), (54, true, .int .i64 (r.commits.getD g default).parents.length), (55, true, .int .i64 k)], [(10, bRepo r)]⟩,
  fun k => g < r.commits.length ∧ k ≤ (r.commits.getD g default).parents.length ∧ r.commits.length ≤ 16 ∧ (∀ j, j < g → okCI r.commits j = true) ∧ okI1 r.commits g = true ∧ ∀ j, j < k → inN g ((r.commits.getD g default).parents.getD j 0) = true, fun k => (r.commits.getD g default).parents.length - k⟩
def riInv (r : RepoD) (n g : Nat) : Inv := if n = 4 then riO r else riI r g
theorem riInv_4 (r : RepoD) (g : Nat) : riInv r 4 g = riO r := rfl
theorem riInv_9 (r : RepoD) (g : Nat) : riInv r 9 g = riI r g := rfl
theorem repoI_iff (r : RepoD) : repoI r = true ↔ r.commits.length ≤ 16 ∧ (∀ i, i < r.commits.length → okCI r.commits i = true) ∧ headsB r.commits.length r.heads = true := by simp -implicitDefEqProofs [repoI, and_assoc]
theorem repoI_no {r : RepoD} {i : Nat} (hi : i < r.commits.length) (hb : okCI r.commits i = false) : repoI r = false := by
  cases hq : repoI r with
  | false => rfl
  | true => have := ((repoI_iff r).1 hq).2.1 i hi; simp -implicitDefEqProofs [hb] at this
theorem repoI_big {r : RepoD} (h : 16 < r.commits.length) : repoI r = false := by
  cases hq : repoI r with
  | false => rfl
  | true => have := ((repoI_iff r).1 hq).1; omega
theorem okCI_no1 {cs : List CommitD} {i : Nat} (h : okI1 cs i = false) : okCI cs i = false := by unfold okCI; rw [h]; rfl
theorem okCI_no2 {cs : List CommitD} {i k : Nat} (hk : k < (cs.getD i default).parents.length) (h : inN i ((cs.getD i default).parents.getD k 0) = false) : okCI cs i = false := by
  unfold okCI
  have : (List.range (cs.getD i default).parents.length).all (fun k => inN i ((cs.getD i default).parents.getD k 0)) = false := by
    rw [List.all_eq_false]
    exact ⟨k, List.mem_range.2 hk, by simpa using h⟩
  rw [this, Bool.and_false]
theorem okCI_yes {cs : List CommitD} {i : Nat} (h : okI1 cs i = true) (h2 : ∀ k, k < (cs.getD i default).parents.length → inN i ((cs.getD i default).parents.getD k 0) = true) : okCI cs i = true := by
  unfold okCI
  rw [h, Bool.true_and, List.all_eq_true]
  intro k hk
  exact h2 k (by simpa using hk)

def cRepoOk : Con := .fn 70 RepoD (fun r => [vRepo r]) rpPre (fun r => .bool (repoI r)) (fun _ => [])
set_option maxHeartbeats 4000000 in
theorem repoOk_has : Has Tryd.prog 118 cRepoOk := by
  refine has_walk mixed tTab_ok (l := [(70, cNameOk), (18, cTreeOk), (126, cWithin), (121, cHeadsOk)]) (HasL.cons nameOk_has (HasL.cons treeOk_has (HasL.cons within_has (HasL.cons headsOk_has HasL.nil)))) [0, 1, 2, 3, 4, 6, 12, 13, 14, 53, 54, 55] (fun r => riInv r) [] Tryd.func118 (by kernel_rfl) (code := _) (by unfold Tryd.f118; rfl) (by kernel_rfl) (by decide) (fun _ => ⟨(), trivial⟩) (by intro h; first | exact fun _ => rfl | cases h) (by kernel_rfl) ?_
  intro (r : RepoD) hr
  obtain ⟨hr1, hr2⟩ : r.commits.length ≤ 1073741824 ∧ ∀ c ∈ r.commits, ∀ f ∈ c.tree, f.path.length ≤ 536870912 := hr
  have hp : ∀ i (h : i < r.commits.length), ∀ f ∈ r.commits[i].tree, f.path.length ≤ 536870912 := fun i h => hr2 _ (List.getElem_mem h)
  have hB := @repoI_big r
  have hN := fun i => @repoI_no r i
  have hN1 := fun i => @okCI_no1 r.commits i
  have hN2 := fun i k => @okCI_no2 r.commits i k
  have hY := fun i => @okCI_yes r.commits i
  simp -implicitDefEqProofs [vc_skip, extOf, vc_seq, vc_cond, vc_block, vc_exit, vc_ret, vc_region, vc_regionD, vc_loop, kSeq_normal, kSeq_ret, kSeq_exit, kBlock_normal, kBlock_ret, kBlock_exit, kLoop_normal, kLoop_ret, kLoop_exit, kCond_bool, kNorm_app, vcOps_nil, vcOps_cons, kOps_app, kStep_some, kStep_none, vcDL_nil, vcDL_cons, kOpsD_app, kStepD_true, kStepD_false, kStepC_some, kStepC_none, kMv_app, act3_store, act3_call, act3_bs, kAct_app, kSt2_app, stealSlots, stealL, stealOne, subIn, AV.stolen, act_store, act_bs, act_append, act_call, kSet_app, kSet2_app, kSetG_app, kSetG_app0, kStore_ptr, kStore_eptr, kCallW_some, kCallC_some, kCall_some, wk_T, wk_n, wk_keep, wk_inv, wk_act, wk_dr, wk_le, aCalm, wantC, dstOk, calm, aCallK, aCall3K, subOf, subRep, aCall2K, apnd, bsMove, putBox, putOwn, partAV, mvL, AV.mv, AV.base, AV.moved, AV.src, TI.flat, apSize, pickAV, St.val, St.cond, St.fn, St.next, St.set, St.trim, wipe_eq, wipeE_app, wipeM_app, pickEnv, get?, cGet, upd_app, withPuts, killAll, rm, freshP, Oper.hnd, Sc.st, ofConst, constOk, lenAV, elemLen, loadAV, ldL, ld1, fieldAddrAV, indexAddrAV, sliceAV, convAV, buildAV, fillAV, fieldAV, Out.of, binAV, AV.rows, AV.one, AV.cells, AV.deepOk, AV.toD, toDs, partRows, partRowsM, partsDeep, TK.zeroAV, TK.zeroD, byteOf, inR, Op.operands, Call.operands, passVs, passV, passL, pass1, passB, pasVs, pasV, pasL, pas1, ownsOk, okHs, okHs2, okFin, finOk2, rho, over, backRes, backAV, backAV1, backBlk, putBack, back2, back2_V, back2_1, m2, AV.wipe, AV.wipeV, AV.wipe1, Blk.wipe, AV.hs, AV.hs.hsL, alOps, Con.start2, Con.pk, bodyQ, fini, resAV, resA, firstId, Sc.from, renEnv, renT, renV, renVs, renL, ren1, renBox, renOwn, okRen, clOf, actB, setRow, flatRows, flatD, noInv, shr_nil, shr_some, kStepF_some, shareL, AV.viewed, AV.viewed1, cRepoOk, Con.fn, tTab, cNameOk, cTreeOk, cWithin, cHeadsOk, riInv_4, riInv_9, riO, riI, bRepo_def]
  try dsimp only
  refine fun _ => ⟨fun h => hB (by omega), fun h16 _ => ⟨by omega, fun i hi _ hprev => ⟨fun hlt => ?_, fun hge => ?_⟩⟩⟩
  · have e3 : Option.map eCommit r.commits[i]? = some (eCommit r.commits[i]) := by simp -implicitDefEqProofs [List.getElem?_eq_getElem hlt]
    have hgc : r.commits.getD i default = r.commits[i] := by simp -implicitDefEqProofs [List.getD_eq_getElem?_getD, hlt]
    have hpc := hp i hlt
    have n0 := hN i hlt
    have n1 := hN1 i
    have n2 := hN2 i
    have n3 := hY i
    have o1 : okI1 r.commits i = (decide (r.commits[i].parents.length ≤ 2) && !(decide (r.commits[i].parents.length = 2) && decide (r.commits[i].parents.getD 0 0 = r.commits[i].parents.getD 1 0)) && nameB r.commits[i].who && treeI r.commits[i].tree) := by
      unfold okI1; rw [hgc]
    rw [hgc] at n2 n3
    simp -implicitDefEqProofs [hlt, e3, eCommit, D.asStr, D.asRows, cast_eq, and_assoc]
    try simp only [show r.commits[i]?.getD default = r.commits[i] by simp -implicitDefEqProofs [hlt]]
    generalize r.commits[i] = c at hpc n2 n3 o1 ⊢
    have hq : ∀ k (h : k < c.parents.length), inN i (c.parents[k]?.getD 0) = (decide (0 ≤ c.parents[k]) && decide (c.parents[k] ≤ (i : Int) - 1)) := fun k h => by simp -implicitDefEqProofs [inN, h]
    have n4 : ∀ k (h : k < c.parents.length), (decide (0 ≤ c.parents[k]) && decide (c.parents[k] ≤ (i : Int) - 1)) = false → repoI r = false := fun k h hb => n0 (n2 k h (by rw [List.getD_eq_getElem?_getD, hq k h]; exact hb))
    have n5 : okI1 r.commits i = false → repoI r = false := fun h => n0 (n1 h)
    have n6 : okI1 r.commits i = true → (∀ j, j < c.parents.length → inN i (c.parents[j]?.getD 0) = true) → ∀ j, j < i + 1 → okCI r.commits j = true := fun h1 h2 j hj => by
      rcases Nat.lt_or_ge j i with h3 | h3
      · exact hprev j h3
      · have : j = i := by omega
        subst this
        exact n3 h1 (fun k hk => by rw [List.getD_eq_getElem?_getD]; exact h2 k hk)
    clear n3 n2 n1 n0 hN hN1 hN2 hY hp hr2 hB hgc e3
    have o2 : ∀ (h : c.parents.length = 2), okI1 r.commits i = (!(decide (c.parents[0] = c.parents[1])) && nameB c.who && treeI c.tree) := fun h => by
      rw [o1]; simp -implicitDefEqProofs [h]
    have o3 : c.parents.length ≤ 2 → ¬ c.parents.length = 2 → okI1 r.commits i = (nameB c.who && treeI c.tree) := fun h h' => by
      rw [o1]; simp -implicitDefEqProofs [h, h']
    have o4 : 2 < c.parents.length → okI1 r.commits i = false := fun h => by
      rw [o1]; simp -implicitDefEqProofs [show ¬ c.parents.length ≤ 2 by omega]
    clear o1
    refine ⟨fun h => n5 (o4 (by omega)), fun hl2 => ⟨fun h2 => ?_, fun h2 => ?_⟩⟩
    · have q0 : Option.map eInt c.parents[0]? = some (eInt c.parents[0]) := by simp -implicitDefEqProofs [List.getElem?_eq_getElem (show 0 < c.parents.length by omega)]
      have q1 : Option.map eInt c.parents[1]? = some (eInt c.parents[1]) := by simp -implicitDefEqProofs [List.getElem?_eq_getElem (show 1 < c.parents.length by omega)]
      have o5 := o2 (by omega)
      simp -implicitDefEqProofs [q0, q1, eInt]
      refine ⟨by omega, fun _ => ⟨by omega, fun _ => ⟨fun he => n5 (by rw [o5]; simp -implicitDefEqProofs [he]), fun he => ⟨fun hn => n5 (by rw [o5]; simp -implicitDefEqProofs [hn]), fun hn => ⟨hpc, fun ht => n5 (by rw [o5]; simp -implicitDefEqProofs [ht]), fun ht _ => ⟨by omega, hprev, by rw [o5]; simp -implicitDefEqProofs [he, hn, ht], fun t ht1 _ _ hok hinv => ?_⟩⟩⟩⟩⟩⟩
      clear o2 o3 o4 o5 n5
      refine ⟨fun hlt2 => ?_, fun hge2 => ?_⟩
      · have qt : Option.map eInt c.parents[t]? = some (eInt c.parents[t]) := by simp -implicitDefEqProofs [List.getElem?_eq_getElem hlt2]
        have n7 := n4 t hlt2
        have q7 := hq t hlt2
        simp -implicitDefEqProofs [qt, eInt, hlt2]
        have n8 : 0 ≤ c.parents[t] → c.parents[t] ≤ (i : Int) - 1 → ∀ j, j < t + 1 → inN i (c.parents[j]?.getD 0) = true := fun g1 g2 j hj => by
          rcases Nat.lt_or_ge j t with h3 | h3
          · exact hinv j h3
          · have : j = t := by omega
            subst this
            rw [q7]
            simp -implicitDefEqProofs [g1, g2]
        refine ⟨by omega, by omega, fun _ _ => ⟨fun h => n7 (by simp; omega), fun g1 g2 => ⟨by omega, by omega, fun _ _ => ⟨t + 1, rfl, by omega, by omega, hprev, hok, n8 g1 g2, by omega⟩⟩⟩⟩
      · have n7 := n6 hok (fun j hj => hinv j (by omega))
        exact ⟨by omega, by omega, fun _ _ => ⟨i + 1, rfl, by omega, by omega, n7, by omega⟩⟩
    · have o5 := o3 (by omega) (by omega)
      refine ⟨fun hn => n5 (by rw [o5]; simp -implicitDefEqProofs [hn]), fun hn => ⟨hpc, fun ht => n5 (by rw [o5]; simp -implicitDefEqProofs [ht]), fun ht _ => ⟨by omega, hprev, by rw [o5]; simp -implicitDefEqProofs [hn, ht], fun t ht1 _ _ hok hinv => ?_⟩⟩⟩
      clear o2 o3 o4 o5 n5
      refine ⟨fun hlt2 => ?_, fun hge2 => ?_⟩
      · have qt : Option.map eInt c.parents[t]? = some (eInt c.parents[t]) := by simp -implicitDefEqProofs [List.getElem?_eq_getElem hlt2]
        have n7 := n4 t hlt2
        have q7 := hq t hlt2
        simp -implicitDefEqProofs [qt, eInt, hlt2]
        have n8 : 0 ≤ c.parents[t] → c.parents[t] ≤ (i : Int) - 1 → ∀ j, j < t + 1 → inN i (c.parents[j]?.getD 0) = true := fun g1 g2 j hj => by
          rcases Nat.lt_or_ge j t with h3 | h3
          · exact hinv j h3
          · have : j = t := by omega
            subst this
            rw [q7]
            simp -implicitDefEqProofs [g1, g2]
        refine ⟨by omega, by omega, fun _ _ => ⟨fun h => n7 (by simp; omega), fun g1 g2 => ⟨by omega, by omega, fun _ _ => ⟨t + 1, rfl, by omega, by omega, hprev, hok, n8 g1 g2, by omega⟩⟩⟩⟩
      · have n7 := n6 hok (fun j hj => hinv j (by omega))
        exact ⟨by omega, by omega, fun _ _ => ⟨i + 1, rfl, by omega, by omega, n7, by omega⟩⟩
  · refine ⟨r, r.heads, ⟨⟨rfl, rfl⟩, rfl⟩, hr1, ?_⟩
    rw [Bool.eq_iff_iff, repoI_iff]
    exact ⟨fun h => h.2.2, fun h => ⟨by omega, fun j hj => hprev j (by omega), h⟩⟩

def oneP (i : Nat) (ps : List Int) (k : Nat) : Bool := inN i (ps.getD k 0) && !(decide (0 < k) && decide (ps.getD k 0 = ps.getD 0 0))
def okS1 (c : CommitD) : Bool := decide (c.parents.length ≤ 2) && nameB c.who && treeS c.tree
def okCS (cs : List CommitD) (i : Nat) : Bool := (List.range (cs.getD i default).parents.length).all (oneP i (cs.getD i default).parents) && okS1 (cs.getD i default)
def repoS (r : RepoD) : Bool := (List.range r.commits.length).all (okCS r.commits) && headsB r.commits.length r.heads && decide (r.commits.length ≤ 16)
theorem repoS_iff (r : RepoD) : repoS r = true ↔ (∀ i, i < r.commits.length → okCS r.commits i = true) ∧ headsB r.commits.length r.heads = true ∧ r.commits.length ≤ 16 := by simp -implicitDefEqProofs [repoS, and_assoc]
theorem repoS_no {r : RepoD} {i : Nat} (hi : i < r.commits.length) (hb : okCS r.commits i = false) : repoS r = false := by
  cases hq : repoS r with
  | false => rfl
  | true => have := ((repoS_iff r).1 hq).1 i hi; simp -implicitDefEqProofs [hb] at this
theorem repoS_noH {r : RepoD} (hb : headsB r.commits.length r.heads = false) : repoS r = false := by
  unfold repoS; rw [hb]; simp
theorem okCS_no1 {cs : List CommitD} {i : Nat} (h : okS1 (cs.getD i default) = false) : okCS cs i = false := by unfold okCS; rw [h, Bool.and_false]
theorem okCS_no2 {cs : List CommitD} {i k : Nat} (hk : k < (cs.getD i default).parents.length) (h : oneP i (cs.getD i default).parents k = false) : okCS cs i = false := by
  unfold okCS
  have : (List.range (cs.getD i default).parents.length).all (oneP i (cs.getD i default).parents) = false := by
    rw [List.all_eq_false]
    exact ⟨k, List.mem_range.2 hk, by simpa using h⟩
  rw [this, Bool.false_and]
theorem okCS_yes {cs : List CommitD} {i : Nat} (h : okS1 (cs.getD i default) = true) (h2 : ∀ k, k < (cs.getD i default).parents.length → oneP i (cs.getD i default).parents k = true) : okCS cs i = true := by
  unfold okCS
  rw [h, Bool.and_true, List.all_eq_true]
  intro k hk
  exact h2 k (by simpa using hk)

theorem repo_eq (r : RepoD) : repoI r = repoS r := by
  have h : ∀ i, okCI r.commits i = okCS r.commits i := by
    intro i
    unfold okCI okCS okI1 okS1
    generalize r.commits.getD i default = c
    rw [tree_eq]
    rw [Bool.eq_iff_iff]
    simp only [Bool.and_eq_true, List.all_eq_true, List.mem_range, decide_eq_true_eq, oneP, Bool.not_eq_true', Bool.and_eq_false_iff, decide_eq_false_iff_not]
    constructor
    · rintro ⟨⟨⟨⟨h1, h2⟩, h3⟩, h4⟩, h5⟩
      refine ⟨fun k hk => ⟨h5 k hk, ?_⟩, ⟨h1, h3⟩, h4⟩
      by_cases h0 : k = 0
      · exact .inl (by omega)
      · right
        have : k = 1 := by omega
        subst this
        rcases h2 with h2 | h2
        · omega
        · exact fun e => h2 e.symm
    · rintro ⟨h1, ⟨h2, h3⟩, h4⟩
      refine ⟨⟨⟨⟨h2, ?_⟩, h3⟩, h4⟩, fun k hk => (h1 k hk).1⟩
      by_cases h0 : c.parents.length = 2
      · right
        rcases (h1 1 (by omega)).2 with h5 | h5
        · omega
        · exact fun e => h5 e.symm
      · exact .inl h0
  rw [Bool.eq_iff_iff, repoI_iff, repoS_iff]
  simp only [h]
  exact ⟨fun ⟨a, b, c⟩ => ⟨b, c, a⟩, fun ⟨b, c, a⟩ => ⟨a, b, c⟩⟩

end Vx
end Go.Proofs.YtlhkmgbmnbkaeaaDoor
/-
  Contracts: repositories (l7Ok, MarksOk).
-/
namespace Go.Proofs.YtlhkmgbmnbkaeaaDoor
namespace Vx
open Go.RowKit
set_option maxRecDepth 8000

def rsO (r : RepoD) : Inv := ⟨Nat, fun i => ⟨[(1, true, .ptr 10 0), (2, true, .bool false), (3, true, .int .i64 i)], [(10, bRepo r)]⟩, fun i => i ≤ r.commits.length ∧ ∀ j, j < i → okCS r.commits j = true, fun i => r.commits.length - i⟩
def rsI (r : RepoD) (g : Nat) : Inv := ⟨Nat, fun k => ⟨[(1, true, .ptr 10 0), (2, true, .bool false), (3, true, .int .i64 g), (4, true, .ptr 11 0), (5, true, .int .i64 k)], [(10, bRepo r), (11, .box 127 [.sl true 1 (eInts (r.commits.getD g default).parents), .str (r.commits.getD g default).who, .sl true 2 (eFiles (r.commits.getD g default).tree)])]⟩,
  fun k => g < r.commits.length ∧ k ≤ (r.commits.getD g default).parents.length ∧ (∀ j, j < g → okCS r.commits j = true) ∧ ∀ j, j < k → oneP g (r.commits.getD g default).parents j = true, fun k => (r.commits.getD g default).parents.length - k⟩
def rsH (r : RepoD) : Inv := ⟨Nat, fun i => ⟨[(1, true, .ptr 10 0), (2, true, .bool false), (6, true, .int .i64 i)], [(10, bRepo r)]⟩, fun i => i ≤ r.heads.length ∧ (∀ j, j < r.commits.length → okCS r.commits j = true) ∧ ∀ j, j < i → okHd r.commits.length r.heads j = true, fun i => r.heads.length - i⟩
def rsInv (r : RepoD) (n g : Nat) : Inv := if n = 2 then rsO r else if n = 6 then rsI r g else rsH r
theorem rsInv_2 (r : RepoD) (g : Nat) : rsInv r 2 g = rsO r := rfl
theorem rsInv_6 (r : RepoD) (g : Nat) : rsInv r 6 g = rsI r g := rfl
theorem rsInv_13 (r : RepoD) (g : Nat) : rsInv r 13 g = rsH r := rfl

def cL7Ok : Con := .fn 126 RepoD (fun r => [vRepo r]) (fun r => r.commits.length ≤ 1073741824) (fun r => .bool (repoS r)) (fun _ => [])
set_option maxHeartbeats 4000000 in
theorem l7Ok_has : Has Tryd.prog 96 cL7Ok := by
  refine has_walk mixed tTab_ok (l := [(98, cL1In), (73, cL4Name), (72, cL4Ok)]) (HasL.cons l1In_has (HasL.cons l4Name_has (HasL.cons l4Ok_has HasL.nil))) [0, 1, 2, 3, 4, 5, 6] (fun r => rsInv r) [] Tryd.func96 (by kernel_rfl) (code := _) (by unfold Tryd.f96; rfl) (by kernel_rfl) (by decide) (fun _ => ⟨(), trivial⟩) (by intro h; first | exact fun _ => rfl | cases h) (by kernel_rfl) ?_
  intro (r : RepoD) hr
  replace hr : r.commits.length ≤ 1073741824 := hr
  have hN := fun i => @repoS_no r i
  have hN1 := fun i => @okCS_no1 r.commits i
  have hN2 := fun i k => @okCS_no2 r.commits i k
  have hY := fun i => @okCS_yes r.commits i
  have hM := fun i => @headsB_no r.commits.length r.heads i
  have hH := @repoS_noH r
  simp -implicitDefEqProofs [vc_skip, extOf, vc_seq, vc_cond, vc_block, vc_exit, vc_ret, vc_region, vc_regionD, vc_loop, kSeq_normal, kSeq_ret, kSeq_exit, kBlock_normal, kBlock_ret, kBlock_exit, kLoop_normal, kLoop_ret, kLoop_exit, kCond_bool, kNorm_app, vcOps_nil, vcOps_cons, kOps_app, kStep_some, kStep_none, vcDL_nil, vcDL_cons, kOpsD_app, kStepD_true, kStepD_false, kStepC_some, kStepC_none, kMv_app, act3_store, act3_call, act3_bs, kAct_app, kSt2_app, stealSlots, stealL, stealOne, subIn, AV.stolen, act_store, act_bs, act_append, act_call, kSet_app, kSet2_app, kSetG_app, kSetG_app0, kStore_ptr, kStore_eptr, kCallW_some, kCallC_some, kCall_some, wk_T, wk_n, wk_keep, wk_inv, wk_act, wk_dr, wk_le, aCalm, wantC, dstOk, calm, aCallK, aCall3K, subOf, subRep, aCall2K, apnd, bsMove, putBox, putOwn, partAV, mvL, AV.mv, AV.base, AV.moved, AV.src, TI.flat, apSize, pickAV, St.val, St.cond, St.fn, St.next, St.set, St.trim, wipe_eq, wipeE_app, wipeM_app, pickEnv, get?, cGet, upd_app, withPuts, killAll, rm, freshP, Oper.hnd, Sc.st, ofConst, constOk, lenAV, elemLen, loadAV, ldL, ld1, fieldAddrAV, indexAddrAV, sliceAV, convAV, buildAV, fillAV, fieldAV, Out.of, binAV, AV.rows, AV.one, AV.cells, AV.deepOk, AV.toD, toDs, partRows, partRowsM, partsDeep, TK.zeroAV, TK.zeroD, byteOf, inR, Op.operands, Call.operands, passVs, passV, passL, pass1, passB, pasVs, pasV, pasL, pas1, ownsOk, okHs, okHs2, okFin, finOk2, rho, over, backRes, backAV, backAV1, backBlk, putBack, back2, back2_V, back2_1, m2, AV.wipe, AV.wipeV, AV.wipe1, Blk.wipe, AV.hs, AV.hs.hsL, alOps, Con.start2, Con.pk, bodyQ, fini, resAV, resA, firstId, Sc.from, renEnv, renT, renV, renVs, renL, ren1, renBox, renOwn, okRen, clOf, actB, setRow, flatRows, flatD, noInv, shr_nil, shr_some, kStepF_some, shareL, AV.viewed, AV.viewed1, cL7Ok, Con.fn, tTab, cL4Name, cL4Ok, cL1In, rsInv_2, rsInv_6, rsInv_13, rsO, rsI, rsH, bRepo_def]
  try dsimp only
  refine fun i hi hprev _ => ⟨fun hlt => ?_, fun hge => ?_⟩
  · have e3 : Option.map eCommit r.commits[i]? = some (eCommit r.commits[i]) := by simp -implicitDefEqProofs [List.getElem?_eq_getElem hlt]
    have hgc : r.commits.getD i default = r.commits[i] := by simp -implicitDefEqProofs [List.getD_eq_getElem?_getD, hlt]
    have n0 := hN i hlt
    have n1 := hN1 i
    have n2 := hN2 i
    have n3 := hY i
    rw [hgc] at n1 n2 n3
    simp -implicitDefEqProofs [hlt, e3, eCommit, D.asStr, D.asRows, cast_eq, and_assoc]
    try simp only [show r.commits[i]?.getD default = r.commits[i] by simp -implicitDefEqProofs [hlt]]
    generalize r.commits[i] = c at n1 n2 n3 ⊢
    clear hN hN1 hN2 hY hM hH e3 hgc
    refine ⟨hprev, fun t ht _ hinv _ => ⟨fun hlt2 => ?_, fun hge2 => ?_⟩⟩
    · have qt : Option.map eInt c.parents[t]? = some (eInt c.parents[t]) := by simp -implicitDefEqProofs [List.getElem?_eq_getElem hlt2]
      have q0 : Option.map eInt c.parents[0]? = some (eInt (c.parents[0]'(by omega))) := by simp -implicitDefEqProofs [List.getElem?_eq_getElem (show 0 < c.parents.length by omega)]
      have o : oneP i c.parents t = ((decide (0 ≤ c.parents[t]) && decide (c.parents[t] ≤ (i : Int) - 1)) && !(decide (0 < t) && decide (c.parents[t] = c.parents[0]'(by omega)))) := by
        unfold oneP inN
        rw [show c.parents.getD t 0 = c.parents[t] by simp -implicitDefEqProofs [List.getD_eq_getElem?_getD, hlt2], show c.parents.getD 0 0 = c.parents[0]'(by omega) by simp -implicitDefEqProofs [List.getD_eq_getElem?_getD, show 0 < c.parents.length by omega]]
      have n7 : oneP i c.parents t = false → repoS r = false := fun h => n0 (n2 t hlt2 h)
      have n8 : oneP i c.parents t = true → ∀ j, j < t + 1 → oneP i c.parents j = true := fun h j hj => by
        rcases Nat.lt_or_ge j t with h3 | h3
        · exact hinv j h3
        · have : j = t := by omega
          subst this; exact h
      simp -implicitDefEqProofs [qt, q0, eInt, hlt2]
      refine ⟨by omega, by omega, fun _ _ => ⟨fun h => ?_, fun g1 g2 => ⟨fun h0 => ⟨by omega, fun _ => ⟨fun he => n7 (by rw [o]; simp -implicitDefEqProofs [he, h0]), fun he => ⟨by omega, by omega, fun _ _ => ⟨t + 1, rfl, by omega, hprev, n8 (by rw [o]; simp -implicitDefEqProofs [g1, g2, he]), by omega⟩⟩⟩⟩,
        fun h0 => ⟨by omega, by omega, fun _ _ => ⟨t + 1, rfl, by omega, hprev, n8 (by rw [o, show decide (0 < t) = false by simp -implicitDefEqProofs [h0]]; simp -implicitDefEqProofs [g1, g2]), by omega⟩⟩⟩⟩⟩
      have : repoS r = false := n7 (by rw [o]; simp; omega)
      exact ⟨fun _ => this, fun _ => this⟩
    · have n9 : okS1 c = false → repoS r = false := fun h => n0 (n1 h)
      have n10 : okS1 c = true → ∀ j, j < i + 1 → okCS r.commits j = true := fun h j hj => by
        rcases Nat.lt_or_ge j i with h3 | h3
        · exact hprev j h3
        · have : j = i := by omega
          subst this
          exact n3 h (fun k hk => hinv k (by omega))
      refine fun _ => ⟨fun h => n9 (by simp -implicitDefEqProofs [okS1]; omega), fun h => ⟨fun hn => n9 (by simp -implicitDefEqProofs [okS1, hn]), fun hn => ⟨fun ht => n9 (by simp -implicitDefEqProofs [okS1, ht]), fun ht => ⟨by omega, by omega, fun _ _ => ⟨i + 1, rfl, by omega, n10 (by simp -implicitDefEqProofs [okS1, hn, ht]; omega), by omega⟩⟩⟩⟩⟩
  · clear hN hN1 hN2 hY
    have hall : ∀ j, j < r.commits.length → okCS r.commits j = true := fun j hj => hprev j (by omega)
    refine ⟨hall, fun t ht _ hinv _ => ⟨fun hlt2 => ?_, fun hge2 _ => ?_⟩⟩
    · generalize hhs : r.heads = hs at *
      have e3 : Option.map eHead hs[t]? = some (eHead hs[t]) := by simp -implicitDefEqProofs [List.getElem?_eq_getElem hlt2]
      have e4 : Option.map eHead hs[t - 1]? = some (eHead (hs[t - 1]'(by omega))) := by simp -implicitDefEqProofs [List.getElem?_eq_getElem (show t - 1 < hs.length by omega)]
      have hh : okHd r.commits.length hs t = (nameB hs[t].name && inN r.commits.length hs[t].at_ && (decide (t = 0) || Go.Op.bytesLess (hs[t - 1]'(by omega)).name hs[t].name)) := by
        unfold okHd
        rw [show hs.getD t default = hs[t] by simp -implicitDefEqProofs [List.getD_eq_getElem?_getD, hlt2], show hs.getD (t - 1) default = hs[t - 1]'(by omega) by simp -implicitDefEqProofs [List.getD_eq_getElem?_getD, show t - 1 < hs.length by omega]]
      have n7 : okHd r.commits.length hs t = false → repoS r = false := fun h => hH (hM t hlt2 h)
      have n8 : okHd r.commits.length hs t = true → ∀ j, j < t + 1 → okHd r.commits.length hs j = true := fun h j hj => by
        rcases Nat.lt_or_ge j t with h3 | h3
        · exact hinv j h3
        · have : j = t := by omega
          subst this; exact h
      have hq := leqS_iff hs[t].name (hs[t - 1]'(by omega)).name
      rw [less_eq] at hh
      unfold leqS at hq
      rw [hh] at n7 n8
      unfold inN at n7 n8
      clear hh hH hM
      simp -implicitDefEqProofs [hlt2, e3, e4, eHead, D.asStr, D.asInt, cast_eq, and_assoc]
      try simp +contextual -implicitDefEqProofs [eStr, eFile, cast_succ, cast_eq, cast_zero, List.getElem?_eq_getElem, eStrs_set, eFiles_set, eStrs_rep, eFiles_rep, ← eStrs_append, ← eFiles_append, eStrs_take, eStrs_drop, eFiles_take, eFiles_drop, eStrs_snoc, eFiles_snoc, and_assoc, hlt2]
      clear e3 e4 hinv hprev
      repeat' (first | intro _ | apply And.intro)
      all_goals first | omega | grind -ring
    · have h2 : headsB r.commits.length r.heads = decide (r.heads.length ≤ 5) := by
        unfold headsB
        have : (List.range r.heads.length).all (okHd r.commits.length r.heads) = true := by
          rw [List.all_eq_true]
          intro j hj
          have hj' : j < r.heads.length := by simpa using hj
          exact hinv j (by omega)
        rw [this, Bool.and_true]
      refine ⟨fun h16 _ => ?_, fun h16 => ?_⟩
      · rw [Bool.eq_iff_iff, repoS_iff, h2]
        simp only [decide_eq_true_eq]
        exact ⟨fun h => by have := h.2.1; omega, fun h => ⟨hall, by omega, by omega⟩⟩
      · cases hq : repoS r with
        | false => rfl
        | true => have := ((repoS_iff r).1 hq).2.2; omega

def marksI (a : RepoD × List HeadD) : Bool := repoI a.1 && headsB a.1.commits.length a.2
def cMarksOkI : Con := .fn 12 (RepoD × List HeadD) (fun a => [vRepo a.1, .sl true 2 (eHeads a.2)]) (fun a => rpPre a.1) (fun a => .bool (marksI a)) (fun _ => [])
set_option maxHeartbeats 4000000 in
theorem marksOkI_has : Has Tryd.prog 104 cMarksOkI := by
  refine has_walk mixed tTab_ok (l := [(118, cRepoOk), (121, cHeadsOk)]) (HasL.cons repoOk_has (HasL.cons headsOk_has HasL.nil)) [0, 1, 2, 4] ((fun a n (_ : Nat) => (fun _ => noInv) a n)) [] Tryd.func104 (by kernel_rfl) (code := _) (by unfold Tryd.f104; rfl) (by kernel_rfl) (by decide) (fun _ => ⟨(), trivial⟩) (by intro h; first | exact fun _ => rfl | cases h) (by kernel_rfl) ?_
  intro a ha
  obtain ⟨r, m⟩ := a
  obtain ⟨ha2, ha3⟩ : r.commits.length ≤ 1073741824 ∧ ∀ c ∈ r.commits, ∀ f ∈ c.tree, f.path.length ≤ 536870912 := ha
  simp -implicitDefEqProofs [vc_skip, extOf, vc_seq, vc_cond, vc_block, vc_exit, vc_ret, vc_region, vc_regionD, vc_loop, kSeq_normal, kSeq_ret, kSeq_exit, kBlock_normal, kBlock_ret, kBlock_exit, kLoop_normal, kLoop_ret, kLoop_exit, kCond_bool, kNorm_app, vcOps_nil, vcOps_cons, kOps_app, kStep_some, kStep_none, vcDL_nil, vcDL_cons, kOpsD_app, kStepD_true, kStepD_false, kStepC_some, kStepC_none, kMv_app, act3_store, act3_call, act3_bs, kAct_app, kSt2_app, stealSlots, stealL, stealOne, subIn, AV.stolen, act_store, act_bs, act_append, act_call, kSet_app, kSet2_app, kSetG_app, kSetG_app0, kStore_ptr, kStore_eptr, kCallW_some, kCallC_some, kCall_some, wk_T, wk_n, wk_keep, wk_inv, wk_act, wk_dr, wk_le, aCalm, wantC, dstOk, calm, aCallK, aCall3K, subOf, subRep, aCall2K, apnd, bsMove, putBox, putOwn, partAV, mvL, AV.mv, AV.base, AV.moved, AV.src, TI.flat, apSize, pickAV, St.val, St.cond, St.fn, St.next, St.set, St.trim, wipe_eq, wipeE_app, wipeM_app, pickEnv, get?, cGet, upd_app, withPuts, killAll, rm, freshP, Oper.hnd, Sc.st, ofConst, constOk, lenAV, elemLen, loadAV, ldL, ld1, fieldAddrAV, indexAddrAV, sliceAV, convAV, buildAV, fillAV, fieldAV, Out.of, binAV, AV.rows, AV.one, AV.cells, AV.deepOk, AV.toD, toDs, partRows, partRowsM, partsDeep, TK.zeroAV, TK.zeroD, byteOf, inR, Op.operands, Call.operands, passVs, passV, passL, pass1, passB, pasVs, pasV, pasL, pas1, ownsOk, okHs, okHs2, okFin, finOk2, rho, over, backRes, backAV, backAV1, backBlk, putBack, back2, back2_V, back2_1, m2, AV.wipe, AV.wipeV, AV.wipe1, Blk.wipe, AV.hs, AV.hs.hsL, alOps, Con.start2, Con.pk, bodyQ, fini, resAV, resA, firstId, Sc.from, renEnv, renT, renV, renVs, renL, ren1, renBox, renOwn, okRen, clOf, actB, setRow, flatRows, flatD, noInv, shr_nil, shr_some, kStepF_some, shareL, AV.viewed, AV.viewed1, cMarksOkI, Con.fn, tTab, cRepoOk, cHeadsOk, marksI, rpPre]
  try dsimp only
  try simp +contextual -implicitDefEqProofs [eStr, eFile, cast_succ, cast_eq, cast_zero, List.getElem?_eq_getElem, eStrs_set, eFiles_set, eStrs_rep, eFiles_rep, ← eStrs_append, ← eFiles_append, eStrs_take, eStrs_drop, eFiles_take, eFiles_drop, eStrs_snoc, eFiles_snoc, and_assoc]
  repeat' (first | intro _ | apply And.intro)
  all_goals first | omega | grind [all_take]

end Vx
end Go.Proofs.YtlhkmgbmnbkaeaaDoor
/-
  Laws: FnExactMarksOk.
-/
namespace Go.Proofs.YtlhkmgbmnbkaeaaDoor
namespace Vx
open Go.RowKit
set_option maxRecDepth 8000

theorem szCm_ok {c : CommitD} {l : Int} (hl : 0 ≤ l) (h : 0 ≤ szCm c l) : (c.parents.length : Int) ≤ l ∧ (c.who.length : Int) ≤ l ∧ (c.tree.length : Int) ≤ l ∧ ∀ f ∈ c.tree, (f.path.length : Int) ≤ l ∧ (f.text.length : Int) ≤ l ∧ ∀ s ∈ f.text, (s.length : Int) ≤ l := by
  unfold szCm at h
  have h0 := szI_le (a := c.parents) hl
  split at h
  · omega
  · split at h
    · omega
    · split at h
      · omega
      · rename_i h1 h2 h3
        obtain ⟨q1, q2⟩ := szFiles_ok (Int.not_lt.1 h3)
        have hp : (c.parents.length : Int) ≤ l := by
          unfold szI at h1
          split at h1 <;> omega
        refine ⟨hp, by omega, by omega, fun f hf => ?_⟩
        obtain ⟨r1, r2, r3⟩ := q2 f hf
        exact ⟨by omega, by omega, fun s hs => by have := r3 s hs; omega⟩
theorem szCL_ok : ∀ {a : List CommitD} {l : Int}, 0 ≤ l → 0 ≤ szCL a l → ∀ c ∈ a, (c.parents.length : Int) ≤ l ∧ (c.who.length : Int) ≤ l ∧ (c.tree.length : Int) ≤ l ∧ ∀ f ∈ c.tree, (f.path.length : Int) ≤ l ∧ (f.text.length : Int) ≤ l ∧ ∀ s ∈ f.text, (s.length : Int) ≤ l := by
  intro a
  induction a with
  | nil => intro l _ _ c hc; cases hc
  | cons x r ih =>
    intro l hl h c hc
    simp only [szCL] at h
    split at h
    · omega
    · rename_i h0
      rcases List.mem_cons.1 hc with rfl | hc
      · exact szCm_ok hl (by omega)
      · have hle := szCm_le (c := x) hl
        obtain ⟨h1, h2, h3, h4⟩ := ih (by omega) h c hc
        refine ⟨by omega, by omega, by omega, fun f hf => ?_⟩
        obtain ⟨r1, r2, r3⟩ := h4 f hf
        exact ⟨by omega, by omega, fun s hs => by have := r3 s hs; omega⟩
theorem szCommits_ok {a : List CommitD} {l : Int} (h : 0 ≤ szCommits a l) : (a.length : Int) ≤ l ∧ ∀ c ∈ a, (c.parents.length : Int) ≤ l ∧ (c.who.length : Int) ≤ l ∧ (c.tree.length : Int) ≤ l ∧ ∀ f ∈ c.tree, (f.path.length : Int) ≤ l ∧ (f.text.length : Int) ≤ l ∧ ∀ s ∈ f.text, (s.length : Int) ≤ l := by
  unfold szCommits at h
  split at h
  · omega
  · refine ⟨by omega, fun c hc => ?_⟩
    obtain ⟨h1, h2, h3, h4⟩ := szCL_ok (by omega) h c hc
    refine ⟨by omega, by omega, by omega, fun f hf => ?_⟩
    obtain ⟨r1, r2, r3⟩ := h4 f hf
    exact ⟨by omega, by omega, fun s hs => by have := r3 s hs; omega⟩
theorem szHL_le : ∀ {a : List HeadD} {l : Int}, 0 ≤ l → szHL a l ≤ l := by
  intro a
  induction a with
  | nil => intro l _; exact Int.le_refl l
  | cons s r ih =>
    intro l h
    simp only [szHL]
    split
    · omega
    · have h1 := szHd_le (f := s) h
      have := ih (l := szHd s l) (by omega); omega
theorem szHeads_le {a : List HeadD} {l : Int} (h : 0 ≤ l) : szHeads a l ≤ l := by
  unfold szHeads
  split
  · omega
  · have := szHL_le (a := a) (l := l - a.length) (by omega); omega
theorem szHL_ok : ∀ {a : List HeadD} {l : Int}, 0 ≤ l → 0 ≤ szHL a l → ∀ h ∈ a, (h.name.length : Int) ≤ l := by
  intro a
  induction a with
  | nil => intro l _ _ c hc; cases hc
  | cons x r ih =>
    intro l hl h c hc
    simp only [szHL] at h
    split at h
    · omega
    · rename_i h0
      have hle := szHd_le (f := x) hl
      rcases List.mem_cons.1 hc with rfl | hc
      · unfold szHd at h0
        split at h0 <;> omega
      · have := ih (by omega) h c hc; omega
theorem szHeads_ok {a : List HeadD} {l : Int} (h : 0 ≤ szHeads a l) : (a.length : Int) ≤ l ∧ ∀ h ∈ a, (h.name.length : Int) ≤ l := by
  unfold szHeads at h
  split at h
  · omega
  · exact ⟨by omega, fun c hc => by have := szHL_ok (by omega) h c hc; omega⟩
theorem szRp_le {r : RepoD} {l : Int} (h : 0 ≤ l) : szRp r l ≤ l := by
  unfold szRp
  have h1 := szCommits_le (a := r.commits) h
  split
  · omega
  · split
    · omega
    · have := szHeads_le (a := r.heads) (l := szCommits r.commits l) (by omega); omega
theorem szRp_ok {r : RepoD} {l : Int} (hl : 0 ≤ l) (h : 0 ≤ szRp r l) : ((r.commits.length : Int) ≤ l ∧ ∀ c ∈ r.commits, (c.parents.length : Int) ≤ l ∧ (c.who.length : Int) ≤ l ∧ (c.tree.length : Int) ≤ l ∧ ∀ f ∈ c.tree, (f.path.length : Int) ≤ l ∧ (f.text.length : Int) ≤ l ∧ ∀ s ∈ f.text, (s.length : Int) ≤ l) ∧
    (r.heads.length : Int) ≤ l ∧ ∀ h ∈ r.heads, (h.name.length : Int) ≤ l := by
  unfold szRp at h
  have h1 := szCommits_le (a := r.commits) hl
  split at h
  · omega
  · split at h
    · omega
    · rename_i h2 h3
      obtain ⟨q1, q2⟩ := szHeads_ok (Int.not_lt.1 h3)
      exact ⟨szCommits_ok (Int.not_lt.1 h2), by omega, fun c hc => by have := q2 c hc; omega⟩
theorem szRp_use {r : RepoD} (h : 0 ≤ szRp r 1048576) : rpSz r ∧ rpPre r := by
  obtain ⟨⟨h1, h2⟩, h3, h4⟩ := szRp_ok (by omega) h
  refine ⟨⟨by omega, fun c hc => ?_, by omega⟩, by omega, fun c hc f hf => ?_⟩
  · obtain ⟨q1, q2, q3, q4⟩ := h2 c hc
    exact ⟨by omega, by omega, fun g hg => by have := (q4 g hg).2.1; omega⟩
  · have := ((h2 c hc).2.2.2 f hf).1; omega

end Vx
end Go.Proofs.YtlhkmgbmnbkaeaaDoor
/-
  Contracts: lines of first parents, both sides; SeekSince.
-/
namespace Go.Proofs.YtlhkmgbmnbkaeaaDoor
namespace Vx
open Go.RowKit
set_option maxRecDepth 8000

theorem repo_use {r : RepoD} (h : repoI r = true) {i : Nat} (hi : i < r.commits.length) : r.commits[i].parents.length ≤ 2 ∧ (∀ p ∈ r.commits[i].parents, 0 ≤ p ∧ p < (i : Int)) ∧ treeI r.commits[i].tree = true := by
  have h1 := ((repoI_iff r).1 h).2.1 i hi
  have hg : r.commits.getD i default = r.commits[i] := by simp -implicitDefEqProofs [List.getD_eq_getElem?_getD, hi]
  simp only [okCI, okI1, hg, Bool.and_eq_true, decide_eq_true_eq, List.all_eq_true, List.mem_range] at h1
  refine ⟨h1.1.1.1.1, fun p hp => ?_, h1.1.2⟩
  obtain ⟨k, hk, rfl⟩ := List.getElem_of_mem hp
  have h2 := h1.2 k hk
  simp only [inN, Bool.and_eq_true, decide_eq_true_eq, List.getD_eq_getElem?_getD, List.getElem?_eq_getElem hk, Option.getD_some] at h2
  omega
theorem repo_n {r : RepoD} (h : repoI r = true) : r.commits.length ≤ 16 := ((repoI_iff r).1 h).1

def firstP (r : RepoD) (a : Int) : Int := (r.commits.getD a.toNat default).parents.headD (-1)
theorem first_lt {r : RepoD} (h : repoI r = true) {a : Int} (h0 : 0 ≤ a) (h1 : a < r.commits.length) : -1 ≤ firstP r a ∧ firstP r a < a := by
  have hi : a.toNat < r.commits.length := by omega
  obtain ⟨_, h2, _⟩ := repo_use h hi
  unfold firstP
  rw [List.getD_eq_getElem?_getD, List.getElem?_eq_getElem hi, Option.getD_some]
  cases hp : r.commits[a.toNat].parents with
  | nil => simp; omega
  | cons p l =>
    have := h2 p (by rw [hp]; simp)
    simp only [List.headD_cons]
    omega
def lineF (r : RepoD) : Nat → Int → List Int
  | 0, _ => []
  | n + 1, a => if a < 0 then [] else a :: lineF r n (firstP r a)
def lineP (r : RepoD) (a : Int) : List Int := lineF r (a + 1).toNat a
theorem lineF_fuel {r : RepoD} (h : repoI r = true) : ∀ (f g : Nat) (a : Int), a < r.commits.length → (a + 1).toNat ≤ f → (a + 1).toNat ≤ g → lineF r f a = lineF r g a := by
  intro f
  induction f with
  | zero =>
    intro g a ha hf hg
    have : a < 0 := by omega
    cases g with
    | zero => rfl
    | succ g => simp -implicitDefEqProofs [lineF, this]
  | succ f ih =>
    intro g a ha hf hg
    by_cases hn : a < 0
    · cases g with
      | zero => simp -implicitDefEqProofs [lineF, hn]
      | succ g => simp -implicitDefEqProofs [lineF, hn]
    · obtain ⟨g, rfl⟩ : ∃ g', g = g' + 1 := ⟨g - 1, by omega⟩
      have hlt := first_lt h (a := a) (by omega) ha
      simp only [lineF, hn, if_false]
      rw [ih g (firstP r a) (by omega) (by omega) (by omega)]
theorem line_step {r : RepoD} (h : repoI r = true) {a : Int} (h0 : 0 ≤ a) (h1 : a < r.commits.length) : lineP r a = a :: lineP r (firstP r a) := by
  have hlt := first_lt h h0 h1
  unfold lineP
  rw [show (a + 1).toNat = a.toNat + 1 by omega]
  simp only [lineF, show ¬ a < 0 by omega, if_false]
  rw [lineF_fuel h a.toNat (firstP r a + 1).toNat (firstP r a) (by omega) (by omega) (by omega)]
theorem line_neg (r : RepoD) {a : Int} (h : a < 0) : lineP r a = [] := by
  unfold lineP
  rw [show (a + 1).toNat = 0 by omega]; rfl
theorem line_bd {r : RepoD} (h : repoI r = true) : ∀ (n : Nat) (a : Int), a < r.commits.length → a + 1 ≤ n → (lineP r a).length ≤ n ∧ ∀ b ∈ lineP r a, 0 ≤ b ∧ b < r.commits.length := by
  intro n
  induction n with
  | zero => intro a _ h2; rw [line_neg r (by omega)]; simp
  | succ n ih =>
    intro a ha h2
    by_cases hn : a < 0
    · rw [line_neg r hn]; simp
    · rw [line_step h (by omega) ha]
      have hlt := first_lt h (a := a) (by omega) ha
      obtain ⟨i1, i2⟩ := ih (firstP r a) (by omega) (by omega)
      refine ⟨by simp; omega, fun b hb => ?_⟩
      rcases List.mem_cons.1 hb with rfl | hb
      · omega
      · exact i2 b hb

def cFirst : Con := .fn 21 (RepoD × Int) (fun a => [vRepo a.1, .int .i64 a.2]) (fun a => 0 ≤ a.2 ∧ a.2 < a.1.commits.length) (fun a => .int .i64 (firstP a.1 a.2)) (fun _ => [])
set_option maxHeartbeats 4000000 in
theorem first_has : Has Tryd.prog 153 cFirst := by
  refine has_walk mixed tTab_ok (l := []) HasL.nil [0, 1, 2, 4] ((fun a n (_ : Nat) => (fun _ => noInv) a n)) [] Tryd.func153 (by kernel_rfl) (code := _) (by unfold Tryd.f153; rfl) (by kernel_rfl) (by decide) (fun _ => ⟨(), trivial⟩) (by intro h; first | exact fun _ => rfl | cases h) (by kernel_rfl) ?_
  intro a ha
  obtain ⟨r, n⟩ := a
  obtain ⟨h1, h2⟩ : 0 ≤ n ∧ n < r.commits.length := ha
  have hi : n.toNat < r.commits.length := by omega
  have e : Option.map eCommit r.commits[n.toNat]? = some (eCommit r.commits[n.toNat]) := by simp -implicitDefEqProofs [hi]
  have hf : firstP r n = r.commits[n.toNat].parents.headD (-1) := by unfold firstP; rw [List.getD_eq_getElem?_getD, List.getElem?_eq_getElem hi]; rfl
  simp -implicitDefEqProofs [vc_skip, extOf, vc_seq, vc_cond, vc_block, vc_exit, vc_ret, vc_region, vc_regionD, vc_loop, kSeq_normal, kSeq_ret, kSeq_exit, kBlock_normal, kBlock_ret, kBlock_exit, kLoop_normal, kLoop_ret, kLoop_exit, kCond_bool, kNorm_app, vcOps_nil, vcOps_cons, kOps_app, kStep_some, kStep_none, vcDL_nil, vcDL_cons, kOpsD_app, kStepD_true, kStepD_false, kStepC_some, kStepC_none, kMv_app, act3_store, act3_call, act3_bs, kAct_app, kSt2_app, stealSlots, stealL, stealOne, subIn, AV.stolen, act_store, act_bs, act_append, act_call, kSet_app, kSet2_app, kSetG_app, kSetG_app0, kStore_ptr, kStore_eptr, kCallW_some, kCallC_some, kCall_some, wk_T, wk_n, wk_keep, wk_inv, wk_act, wk_dr, wk_le, aCalm, wantC, dstOk, calm, aCallK, aCall3K, subOf, subRep, aCall2K, apnd, bsMove, putBox, putOwn, partAV, mvL, AV.mv, AV.base, AV.moved, AV.src, TI.flat, apSize, pickAV, St.val, St.cond, St.fn, St.next, St.set, St.trim, wipe_eq, wipeE_app, wipeM_app, pickEnv, get?, cGet, upd_app, withPuts, killAll, rm, freshP, Oper.hnd, Sc.st, ofConst, constOk, lenAV, elemLen, loadAV, ldL, ld1, fieldAddrAV, indexAddrAV, sliceAV, convAV, buildAV, fillAV, fieldAV, Out.of, binAV, AV.rows, AV.one, AV.cells, AV.deepOk, AV.toD, toDs, partRows, partRowsM, partsDeep, TK.zeroAV, TK.zeroD, byteOf, inR, Op.operands, Call.operands, passVs, passV, passL, pass1, passB, pasVs, pasV, pasL, pas1, ownsOk, okHs, okHs2, okFin, finOk2, rho, over, backRes, backAV, backAV1, backBlk, putBack, back2, back2_V, back2_1, m2, AV.wipe, AV.wipeV, AV.wipe1, Blk.wipe, AV.hs, AV.hs.hsL, alOps, Con.start2, Con.pk, bodyQ, fini, resAV, resA, firstId, Sc.from, renEnv, renT, renV, renVs, renL, ren1, renBox, renOwn, okRen, clOf, actB, setRow, flatRows, flatD, noInv, shr_nil, shr_some, kStepF_some, shareL, AV.viewed, AV.viewed1, cFirst, Con.fn, tTab, e, hf, eCommit, hi, h1, h2]
  try dsimp only
  intro _
  cases hp : r.commits[n.toNat].parents with
  | nil => simp
  | cons q l => simp -implicitDefEqProofs [eInt]

def cLineR : Con := .fn 16 (RepoD × Int) (fun a => [vRepo a.1, .int .i64 a.2]) (fun a => repoI a.1 = true ∧ 0 ≤ a.2 ∧ a.2 < a.1.commits.length) (fun a => .own 8 1 (eInts (lineP a.1 a.2))) (fun a => ownInts 8 (lineP a.1 a.2))
set_option maxHeartbeats 4000000 in
theorem lineR_has : Has Tryd.prog 116 cLineR := by
  refine has_walk mixed tTab_ok (l := [(153, cFirst)]) (HasL.cons first_has HasL.nil) [0, 1, 2, 4, 5] ((fun a n (_ : Nat) => (fun a _ => ⟨List Int × Int, fun t => ⟨[(1, true, .int .i64 t.2), (2, true, .ptr 10 0), (4, true, .nil), (5, true, .own 9 1 (eInts t.1))], [(10, bRepo a.1), (9, .own 3 1 true (eInts t.1))]⟩, fun t => t.1 ++ lineP a.1 t.2 = lineP a.1 a.2 ∧ -1 ≤ t.2 ∧ t.2 < a.1.commits.length ∧ t.1.length + (t.2 + 1).toNat ≤ 16, fun t => (t.2 + 1).toNat⟩) a n)) [] Tryd.func116 (by kernel_rfl) (code := _) (by unfold Tryd.f116; rfl) (by kernel_rfl) (by decide) (fun _ => ⟨(), trivial⟩) (by intro h; first | exact fun _ => rfl | cases h) (by kernel_rfl) ?_
  intro a ha
  obtain ⟨r, n⟩ := a
  obtain ⟨h1, h2, h3⟩ : repoI r = true ∧ 0 ≤ n ∧ n < r.commits.length := ha
  have h4 := repo_n h1
  have k1 := fun b => @line_step r h1 b
  have k2 := fun b => @line_neg r b
  have k3 := fun b => @first_lt r h1 b
  simp -implicitDefEqProofs [vc_skip, extOf, vc_seq, vc_cond, vc_block, vc_exit, vc_ret, vc_region, vc_regionD, vc_loop, kSeq_normal, kSeq_ret, kSeq_exit, kBlock_normal, kBlock_ret, kBlock_exit, kLoop_normal, kLoop_ret, kLoop_exit, kCond_bool, kNorm_app, vcOps_nil, vcOps_cons, kOps_app, kStep_some, kStep_none, vcDL_nil, vcDL_cons, kOpsD_app, kStepD_true, kStepD_false, kStepC_some, kStepC_none, kMv_app, act3_store, act3_call, act3_bs, kAct_app, kSt2_app, stealSlots, stealL, stealOne, subIn, AV.stolen, act_store, act_bs, act_append, act_call, kSet_app, kSet2_app, kSetG_app, kSetG_app0, kStore_ptr, kStore_eptr, kCallW_some, kCallC_some, kCall_some, wk_T, wk_n, wk_keep, wk_inv, wk_act, wk_dr, wk_le, aCalm, wantC, dstOk, calm, aCallK, aCall3K, subOf, subRep, aCall2K, apnd, bsMove, putBox, putOwn, partAV, mvL, AV.mv, AV.base, AV.moved, AV.src, TI.flat, apSize, pickAV, St.val, St.cond, St.fn, St.next, St.set, St.trim, wipe_eq, wipeE_app, wipeM_app, pickEnv, get?, cGet, upd_app, withPuts, killAll, rm, freshP, Oper.hnd, Sc.st, ofConst, constOk, lenAV, elemLen, loadAV, ldL, ld1, fieldAddrAV, indexAddrAV, sliceAV, convAV, buildAV, fillAV, fieldAV, Out.of, binAV, AV.rows, AV.one, AV.cells, AV.deepOk, AV.toD, toDs, partRows, partRowsM, partsDeep, TK.zeroAV, TK.zeroD, byteOf, inR, Op.operands, Call.operands, passVs, passV, passL, pass1, passB, pasVs, pasV, pasL, pas1, ownsOk, okHs, okHs2, okFin, finOk2, rho, over, backRes, backAV, backAV1, backBlk, putBack, back2, back2_V, back2_1, m2, AV.wipe, AV.wipeV, AV.wipe1, Blk.wipe, AV.hs, AV.hs.hsL, alOps, Con.start2, Con.pk, bodyQ, fini, resAV, resA, firstId, Sc.from, renEnv, renT, renV, renVs, renL, ren1, renBox, renOwn, okRen, clOf, actB, setRow, flatRows, flatD, noInv, shr_nil, shr_some, kStepF_some, shareL, AV.viewed, AV.viewed1, cLineR, Con.fn, tTab, cFirst, bRepo_def]
  try dsimp only
  refine ⟨⟨[], n, ⟨rfl, rfl⟩, rfl, by omega, h3, by simp; omega⟩, fun out b g1 g2 g3 g4 => ⟨fun hb => ?_, fun hb => ?_⟩⟩
  · have hs := k1 b hb g3
    have hf := k3 b hb g3
    refine ⟨⟨by omega, by omega⟩, r, b, ⟨⟨rfl, rfl⟩, rfl⟩, ⟨hb, g3⟩, out ++ [b], firstP r b, ⟨⟨rfl, by simp -implicitDefEqProofs [eInts, eInt]⟩, by simp -implicitDefEqProofs [eInts, eInt]⟩, ⟨?_, by omega, by omega, by simp; omega⟩, by omega⟩
    rw [← g1, hs]; simp
  · rw [k2 b hb, List.append_nil] at g1
    exact ⟨g1.symm, g1⟩

def cL8Line : Con := .fn 29 (RepoD × Int) (fun a => [vRepo a.1, .int .i64 a.2]) (fun a => repoI a.1 = true ∧ 0 ≤ a.2 ∧ a.2 < a.1.commits.length) (fun a => .own 8 1 (eInts (lineP a.1 a.2))) (fun a => ownInts 8 (lineP a.1 a.2))
set_option maxHeartbeats 4000000 in
theorem l8Line_has : Has Tryd.prog 114 cL8Line := by
  refine has_walk mixed tTab_ok (l := []) HasL.nil [0, 1, 2, 4, 5] ((fun a n (_ : Nat) => (fun a _ => ⟨List Int × Int, fun t => ⟨[(1, true, .int .i64 t.2), (2, true, .ptr 10 0), (4, true, .nil), (5, true, .own 9 1 (eInts t.1))], [(10, bRepo a.1), (9, .own 3 1 true (eInts t.1))]⟩, fun t => t.1 ++ lineP a.1 (firstP a.1 t.2) = lineP a.1 a.2 ∧ 0 ≤ t.2 ∧ t.2 < a.1.commits.length ∧ t.1.length + (t.2 + 1).toNat ≤ 17, fun t => (t.2 + 1).toNat⟩) a n)) [] Tryd.func114 (by kernel_rfl) (code := _) (by unfold Tryd.f114; rfl) (by kernel_rfl) (by decide) (fun _ => ⟨(), trivial⟩) (by intro h; first | exact fun _ => rfl | cases h) (by kernel_rfl) ?_
  intro a ha
  obtain ⟨r, n⟩ := a
  obtain ⟨h1, h2, h3⟩ : repoI r = true ∧ 0 ≤ n ∧ n < r.commits.length := ha
  have h4 := repo_n h1
  simp -implicitDefEqProofs [vc_skip, extOf, vc_seq, vc_cond, vc_block, vc_exit, vc_ret, vc_region, vc_regionD, vc_loop, kSeq_normal, kSeq_ret, kSeq_exit, kBlock_normal, kBlock_ret, kBlock_exit, kLoop_normal, kLoop_ret, kLoop_exit, kCond_bool, kNorm_app, vcOps_nil, vcOps_cons, kOps_app, kStep_some, kStep_none, vcDL_nil, vcDL_cons, kOpsD_app, kStepD_true, kStepD_false, kStepC_some, kStepC_none, kMv_app, act3_store, act3_call, act3_bs, kAct_app, kSt2_app, stealSlots, stealL, stealOne, subIn, AV.stolen, act_store, act_bs, act_append, act_call, kSet_app, kSet2_app, kSetG_app, kSetG_app0, kStore_ptr, kStore_eptr, kCallW_some, kCallC_some, kCall_some, wk_T, wk_n, wk_keep, wk_inv, wk_act, wk_dr, wk_le, aCalm, wantC, dstOk, calm, aCallK, aCall3K, subOf, subRep, aCall2K, apnd, bsMove, putBox, putOwn, partAV, mvL, AV.mv, AV.base, AV.moved, AV.src, TI.flat, apSize, pickAV, St.val, St.cond, St.fn, St.next, St.set, St.trim, wipe_eq, wipeE_app, wipeM_app, pickEnv, get?, cGet, upd_app, withPuts, killAll, rm, freshP, Oper.hnd, Sc.st, ofConst, constOk, lenAV, elemLen, loadAV, ldL, ld1, fieldAddrAV, indexAddrAV, sliceAV, convAV, buildAV, fillAV, fieldAV, Out.of, binAV, AV.rows, AV.one, AV.cells, AV.deepOk, AV.toD, toDs, partRows, partRowsM, partsDeep, TK.zeroAV, TK.zeroD, byteOf, inR, Op.operands, Call.operands, passVs, passV, passL, pass1, passB, pasVs, pasV, pasL, pas1, ownsOk, okHs, okHs2, okFin, finOk2, rho, over, backRes, backAV, backAV1, backBlk, putBack, back2, back2_V, back2_1, m2, AV.wipe, AV.wipeV, AV.wipe1, Blk.wipe, AV.hs, AV.hs.hsL, alOps, Con.start2, Con.pk, bodyQ, fini, resAV, resA, firstId, Sc.from, renEnv, renT, renV, renVs, renL, ren1, renBox, renOwn, okRen, clOf, actB, setRow, flatRows, flatD, noInv, shr_nil, shr_some, kStepF_some, shareL, AV.viewed, AV.viewed1, cL8Line, Con.fn, tTab, bRepo_def]
  try dsimp only
  have k1 := @line_step r h1
  refine ⟨⟨[n], n, ⟨⟨rfl, by simp -implicitDefEqProofs [eInts, eInt]⟩, by simp -implicitDefEqProofs [eInts, eInt]⟩, by rw [k1 h2 h3]; rfl, h2, h3, by simp; omega⟩, fun out b g1 g2 g3 g4 => ⟨⟨g2, g3⟩, fun _ _ => ?_⟩⟩
  have hi : b.toNat < r.commits.length := by omega
  have e : Option.map eCommit r.commits[b.toNat]? = some (eCommit r.commits[b.toNat]) := by simp -implicitDefEqProofs [hi]
  have hf : firstP r b = r.commits[b.toNat].parents.headD (-1) := by unfold firstP; rw [List.getD_eq_getElem?_getD, List.getElem?_eq_getElem hi]; rfl
  have hlt := first_lt h1 g2 g3
  simp -implicitDefEqProofs [e, eCommit, g2, g3]
  cases hp : r.commits[b.toNat].parents with
  | nil =>
    rw [hp] at hf
    rw [hf, line_neg r (by simp), List.append_nil] at g1
    simp
    exact ⟨g1.symm, g1⟩
  | cons q l =>
    rw [hp] at hf
    simp only [List.headD_cons] at hf
    rw [hf] at hlt
    have hq : 0 ≤ q := ((repo_use h1 hi).2.1 q (by rw [hp]; simp)).1
    simp -implicitDefEqProofs [eInt]
    exact fun _ => ⟨⟨by omega, by omega⟩, out ++ [q], q, ⟨⟨rfl, by simp -implicitDefEqProofs [eInts, eInt]⟩, by simp -implicitDefEqProofs [eInts, eInt]⟩, ⟨by rw [← g1, hf, k1 hq (by omega)]; simp, hq, by omega, by simp; omega⟩, by omega⟩

def cTreeR : Con := .fn 13 (RepoD × Int) (fun a => [vRepo a.1, .int .i64 a.2]) (fun a => 0 ≤ a.2 ∧ a.2 < a.1.commits.length) (fun a => .sl true 2 (eFiles (a.1.commits.getD a.2.toNat default).tree)) (fun _ => [])
set_option maxHeartbeats 4000000 in
theorem treeR_has : Has Tryd.prog 117 cTreeR := by
  refine has_walk mixed tTab_ok (l := []) HasL.nil [0, 1, 2, 4] ((fun a n (_ : Nat) => (fun _ => noInv) a n)) [] Tryd.func117 (by kernel_rfl) (code := _) (by unfold Tryd.f117; rfl) (by kernel_rfl) (by decide) (fun _ => ⟨(), trivial⟩) (by intro h; first | exact fun _ => rfl | cases h) (by kernel_rfl) ?_
  intro a ha
  obtain ⟨r, n⟩ := a
  obtain ⟨h1, h2⟩ : 0 ≤ n ∧ n < r.commits.length := ha
  have hi : n.toNat < r.commits.length := by omega
  have e : Option.map eCommit r.commits[n.toNat]? = some (eCommit r.commits[n.toNat]) := by simp -implicitDefEqProofs [hi]
  simp -implicitDefEqProofs [vc_skip, extOf, vc_seq, vc_cond, vc_block, vc_exit, vc_ret, vc_region, vc_regionD, vc_loop, kSeq_normal, kSeq_ret, kSeq_exit, kBlock_normal, kBlock_ret, kBlock_exit, kLoop_normal, kLoop_ret, kLoop_exit, kCond_bool, kNorm_app, vcOps_nil, vcOps_cons, kOps_app, kStep_some, kStep_none, vcDL_nil, vcDL_cons, kOpsD_app, kStepD_true, kStepD_false, kStepC_some, kStepC_none, kMv_app, act3_store, act3_call, act3_bs, kAct_app, kSt2_app, stealSlots, stealL, stealOne, subIn, AV.stolen, act_store, act_bs, act_append, act_call, kSet_app, kSet2_app, kSetG_app, kSetG_app0, kStore_ptr, kStore_eptr, kCallW_some, kCallC_some, kCall_some, wk_T, wk_n, wk_keep, wk_inv, wk_act, wk_dr, wk_le, aCalm, wantC, dstOk, calm, aCallK, aCall3K, subOf, subRep, aCall2K, apnd, bsMove, putBox, putOwn, partAV, mvL, AV.mv, AV.base, AV.moved, AV.src, TI.flat, apSize, pickAV, St.val, St.cond, St.fn, St.next, St.set, St.trim, wipe_eq, wipeE_app, wipeM_app, pickEnv, get?, cGet, upd_app, withPuts, killAll, rm, freshP, Oper.hnd, Sc.st, ofConst, constOk, lenAV, elemLen, loadAV, ldL, ld1, fieldAddrAV, indexAddrAV, sliceAV, convAV, buildAV, fillAV, fieldAV, Out.of, binAV, AV.rows, AV.one, AV.cells, AV.deepOk, AV.toD, toDs, partRows, partRowsM, partsDeep, TK.zeroAV, TK.zeroD, byteOf, inR, Op.operands, Call.operands, passVs, passV, passL, pass1, passB, pasVs, pasV, pasL, pas1, ownsOk, okHs, okHs2, okFin, finOk2, rho, over, backRes, backAV, backAV1, backBlk, putBack, back2, back2_V, back2_1, m2, AV.wipe, AV.wipeV, AV.wipe1, Blk.wipe, AV.hs, AV.hs.hsL, alOps, Con.start2, Con.pk, bodyQ, fini, resAV, resA, firstId, Sc.from, renEnv, renT, renV, renVs, renL, ren1, renBox, renOwn, okRen, clOf, actB, setRow, flatRows, flatD, noInv, shr_nil, shr_some, kStepF_some, shareL, AV.viewed, AV.viewed1, cTreeR, Con.fn, tTab, e, eCommit, hi, h1, h2]
  try dsimp only
  exact fun h => absurd h (by omega)

def areB (r : RepoD) (l : List Int) : Bool := repoI r && l.all fun a => decide (0 ≤ a) && decide (a ≤ (r.commits.length : Int) - 1)
def cAre : Con := .fn 21 (RepoD × List Int) (fun a => [vRepo a.1, .sl true 1 (eInts a.2)]) (fun a => rpPre a.1) (fun a => .bool (areB a.1 a.2)) (fun _ => [])
set_option maxHeartbeats 4000000 in
theorem are_has : Has Tryd.prog 115 cAre := by
  refine has_walk mixed tTab_ok (l := [(118, cRepoOk), (105, cExists)]) (HasL.cons repoOk_has (HasL.cons exists_has HasL.nil)) [0, 1, 2, 4, 6, 10, 11, 12] ((fun a n (_ : Nat) => (fun a _ => ⟨Nat, fun i => ⟨[(1, true, .sl true 1 (eInts a.2)), (2, true, .ptr 10 0), (4, true, .bool false), (10, true, .sl true 1 (eInts a.2)), (11, true, .int .i64 a.2.length), (12, true, .int .i64 i)], [(10, bRepo a.1)]⟩, fun i => i ≤ a.2.length ∧ ∀ x, x ∈ a.2.take i → (decide (0 ≤ x) && decide (x ≤ (a.1.commits.length : Int) - 1)) = true, fun i => a.2.length - i⟩) a n)) [] Tryd.func115 (by kernel_rfl) (code := _) (by unfold Tryd.f115; rfl) (by kernel_rfl) (by decide) (fun _ => ⟨(), trivial⟩) (by intro h; first | exact fun _ => rfl | cases h) (by kernel_rfl) ?_
  intro a ha
  obtain ⟨r, l⟩ := a
  replace ha : rpPre r := ha
  have ha2 := ha.1
  simp -implicitDefEqProofs [vc_skip, extOf, vc_seq, vc_cond, vc_block, vc_exit, vc_ret, vc_region, vc_regionD, vc_loop, kSeq_normal, kSeq_ret, kSeq_exit, kBlock_normal, kBlock_ret, kBlock_exit, kLoop_normal, kLoop_ret, kLoop_exit, kCond_bool, kNorm_app, vcOps_nil, vcOps_cons, kOps_app, kStep_some, kStep_none, vcDL_nil, vcDL_cons, kOpsD_app, kStepD_true, kStepD_false, kStepC_some, kStepC_none, kMv_app, act3_store, act3_call, act3_bs, kAct_app, kSt2_app, stealSlots, stealL, stealOne, subIn, AV.stolen, act_store, act_bs, act_append, act_call, kSet_app, kSet2_app, kSetG_app, kSetG_app0, kStore_ptr, kStore_eptr, kCallW_some, kCallC_some, kCall_some, wk_T, wk_n, wk_keep, wk_inv, wk_act, wk_dr, wk_le, aCalm, wantC, dstOk, calm, aCallK, aCall3K, subOf, subRep, aCall2K, apnd, bsMove, putBox, putOwn, partAV, mvL, AV.mv, AV.base, AV.moved, AV.src, TI.flat, apSize, pickAV, St.val, St.cond, St.fn, St.next, St.set, St.trim, wipe_eq, wipeE_app, wipeM_app, pickEnv, get?, cGet, upd_app, withPuts, killAll, rm, freshP, Oper.hnd, Sc.st, ofConst, constOk, lenAV, elemLen, loadAV, ldL, ld1, fieldAddrAV, indexAddrAV, sliceAV, convAV, buildAV, fillAV, fieldAV, Out.of, binAV, AV.rows, AV.one, AV.cells, AV.deepOk, AV.toD, toDs, partRows, partRowsM, partsDeep, TK.zeroAV, TK.zeroD, byteOf, inR, Op.operands, Call.operands, passVs, passV, passL, pass1, passB, pasVs, pasV, pasL, pas1, ownsOk, okHs, okHs2, okFin, finOk2, rho, over, backRes, backAV, backAV1, backBlk, putBack, back2, back2_V, back2_1, m2, AV.wipe, AV.wipeV, AV.wipe1, Blk.wipe, AV.hs, AV.hs.hsL, alOps, Con.start2, Con.pk, bodyQ, fini, resAV, resA, firstId, Sc.from, renEnv, renT, renV, renVs, renL, ren1, renBox, renOwn, okRen, clOf, actB, setRow, flatRows, flatD, noInv, shr_nil, shr_some, kStepF_some, shareL, AV.viewed, AV.viewed1, cAre, Con.fn, tTab, cRepoOk, cExists, bRepo_def]
  try dsimp only
  refine ⟨ha, fun h => by simp -implicitDefEqProofs [areB, h], fun h _ i hi hb => ⟨fun hlt => ⟨hlt, fun _ => ⟨by simp -implicitDefEqProofs [hlt, eInt], fun _ _ => ⟨r, l[i], ⟨⟨rfl, rfl⟩, by simp -implicitDefEqProofs [hlt, eInt]⟩, ha2, fun hbad => ?_, fun h0 h1 => ⟨⟨by omega, by omega⟩, fun _ _ => ⟨i + 1, by omega, ⟨by omega, take_step (q := fun x : Int => 0 ≤ x ∧ x ≤ (r.commits.length : Int) - 1) hlt hb ⟨h0, h1⟩⟩, by omega⟩⟩⟩⟩⟩, fun hge => ?_⟩⟩
  · unfold areB
    rw [h, Bool.true_and, List.all_eq_false]
    exact ⟨l[i], List.getElem_mem hlt, by simp; omega⟩
  · rw [List.take_of_length_le hge] at hb
    unfold areB
    rw [h, Bool.true_and, List.all_eq_true]
    intro x hx
    have := hb x hx
    simp; omega

def treeAt (r : RepoD) (a : Int) : List FileD := (r.commits.getD a.toNat default).tree
def hasC (r : RepoD) (w : Str) (a : Int) : Bool := !(seekL (hitS w) (treeAt r a)).isEmpty
def sinceW (p : Int → Bool) : List Int → Int → Int
  | [], s => s
  | a :: l, s => if p a then sinceW p l a else s
def sinceR (r : RepoD) (a : Int) (w : Str) : Int := if repoI r && (decide (0 ≤ a) && decide (a ≤ (r.commits.length : Int) - 1)) && nameB w then sinceW (hasC r w) (lineP r a) (-1) else -1
theorem since_yes {p : Int → Bool} {l : List Int} {i : Nat} {s : Int} (h : i < l.length) (hp : p l[i] = true) : sinceW p (l.drop i) s = sinceW p (l.drop (i + 1)) l[i] := by
  rw [List.drop_eq_getElem_cons h]; simp -implicitDefEqProofs [sinceW, hp]
theorem since_no {p : Int → Bool} {l : List Int} {i : Nat} {s : Int} (h : i < l.length) (hp : p l[i] = false) : sinceW p (l.drop i) s = s := by
  rw [List.drop_eq_getElem_cons h]; simp -implicitDefEqProofs [sinceW, hp]
theorem since_end {p : Int → Bool} {l : List Int} {i : Nat} {s : Int} (h : l.length ≤ i) : sinceW p (l.drop i) s = s := by
  rw [List.drop_eq_nil_of_le h]; rfl
theorem seek_hit_eq {t : List FileD} {w : Str} (ht : treeI t = true) (hw : nameB w = true) : seekL (hitI w) t = seekL (hitS w) t := by
  have h1 := seek_eq t w
  unfold treeSeekI treeSeekS at h1
  rw [tree_eq] at h1
  rw [tree_eq] at ht
  rw [ht, hw] at h1
  simpa using h1
theorem tree_lines {t : List FileD} (h : treeI t = true) : t.length ≤ 8 ∧ ∀ f ∈ t, ∀ q ∈ f.text, q.length ≤ 1099511627776 := by
  have h8 := (treeI_le t h).1
  simp only [treeI, Bool.and_eq_true, decide_eq_true_eq, List.all_eq_true, List.mem_range] at h
  refine ⟨h8, fun f hf q hq => ?_⟩
  obtain ⟨i, hi, rfl⟩ := List.getElem_of_mem hf
  have h1 := (h.2 i hi).1
  simp only [headI, textB, List.getD_eq_getElem?_getD, List.getElem?_eq_getElem hi, Option.getD_some, Bool.and_eq_true, List.all_eq_true, decide_eq_true_eq] at h1
  have h2 := h1.1.1.2 q hq
  simp only [lineB, Bool.and_eq_true, decide_eq_true_eq] at h2
  omega

def cSeekSinceI : Con := .fn 38 (RepoD × Int × Str) (fun a => [vRepo a.1, .int .i64 a.2.1, .str a.2.2]) (fun a => rpPre a.1) (fun a => .int .i64 (sinceR a.1 a.2.1 a.2.2)) (fun _ => [])
set_option maxHeartbeats 4000000 in
theorem seekSinceI_has : Has Tryd.prog 54 cSeekSinceI := by
  refine has_walk mixed tTab_ok (l := [(115, cAre), (70, cNameOk), (116, cLineR), (117, cTreeR), (71, cSeek)]) (HasL.cons are_has (HasL.cons nameOk_has (HasL.cons lineR_has (HasL.cons treeR_has (HasL.cons seek_has HasL.nil))))) [0, 1, 2, 3, 6, 7, 9, 22, 23, 24] ((fun a n (_ : Nat) => (fun a _ => ⟨Nat × Int, fun t => ⟨[(2, true, .str a.2.2), (3, true, .ptr 10 0), (6, true, .int .i64 0), (7, true, .int .i64 t.2), (22, true, .own 9 1 (eInts (lineP a.1 a.2.1))), (23, true, .int .i64 (lineP a.1 a.2.1).length), (24, true, .int .i64 t.1)], [(10, bRepo a.1), (9, .own 3 1 true (eInts (lineP a.1 a.2.1)))]⟩, fun t => t.1 ≤ (lineP a.1 a.2.1).length ∧ sinceW (hasC a.1 a.2.2) ((lineP a.1 a.2.1).drop t.1) t.2 = sinceR a.1 a.2.1 a.2.2, fun t => (lineP a.1 a.2.1).length - t.1⟩) a n)) [] Tryd.func54 (by kernel_rfl) (code := _) (by unfold Tryd.f54; rfl) (by kernel_rfl) (by decide) (fun _ => ⟨(), trivial⟩) (by intro h; first | exact fun _ => rfl | cases h) (by kernel_rfl) ?_
  intro a ha
  obtain ⟨r, n, w⟩ := a
  replace ha : rpPre r := ha
  simp -implicitDefEqProofs [vc_skip, extOf, vc_seq, vc_cond, vc_block, vc_exit, vc_ret, vc_region, vc_regionD, vc_loop, kSeq_normal, kSeq_ret, kSeq_exit, kBlock_normal, kBlock_ret, kBlock_exit, kLoop_normal, kLoop_ret, kLoop_exit, kCond_bool, kNorm_app, vcOps_nil, vcOps_cons, kOps_app, kStep_some, kStep_none, vcDL_nil, vcDL_cons, kOpsD_app, kStepD_true, kStepD_false, kStepC_some, kStepC_none, kMv_app, act3_store, act3_call, act3_bs, kAct_app, kSt2_app, stealSlots, stealL, stealOne, subIn, AV.stolen, act_store, act_bs, act_append, act_call, kSet_app, kSet2_app, kSetG_app, kSetG_app0, kStore_ptr, kStore_eptr, kCallW_some, kCallC_some, kCall_some, wk_T, wk_n, wk_keep, wk_inv, wk_act, wk_dr, wk_le, aCalm, wantC, dstOk, calm, aCallK, aCall3K, subOf, subRep, aCall2K, apnd, bsMove, putBox, putOwn, partAV, mvL, AV.mv, AV.base, AV.moved, AV.src, TI.flat, apSize, pickAV, St.val, St.cond, St.fn, St.next, St.set, St.trim, wipe_eq, wipeE_app, wipeM_app, pickEnv, get?, cGet, upd_app, withPuts, killAll, rm, freshP, Oper.hnd, Sc.st, ofConst, constOk, lenAV, elemLen, loadAV, ldL, ld1, fieldAddrAV, indexAddrAV, sliceAV, convAV, buildAV, fillAV, fieldAV, Out.of, binAV, AV.rows, AV.one, AV.cells, AV.deepOk, AV.toD, toDs, partRows, partRowsM, partsDeep, TK.zeroAV, TK.zeroD, byteOf, inR, Op.operands, Call.operands, passVs, passV, passL, pass1, passB, pasVs, pasV, pasL, pas1, ownsOk, okHs, okHs2, okFin, finOk2, rho, over, backRes, backAV, backAV1, backBlk, putBack, back2, back2_V, back2_1, m2, AV.wipe, AV.wipeV, AV.wipe1, Blk.wipe, AV.hs, AV.hs.hsL, alOps, Con.start2, Con.pk, bodyQ, fini, resAV, resA, firstId, Sc.from, renEnv, renT, renV, renVs, renL, ren1, renBox, renOwn, okRen, clOf, actB, setRow, flatRows, flatD, noInv, shr_nil, shr_some, kStepF_some, shareL, AV.viewed, AV.viewed1, cSeekSinceI, Con.fn, tTab, cAre, cNameOk, cLineR, cTreeR, cSeek, bRepo_def]
  try dsimp only
  have hW : ∀ (hr : repoI r = true) (h0 : 0 ≤ n) (h1 : n ≤ (r.commits.length : Int) - 1) (hw : nameB w = true), sinceW (hasC r w) (lineP r n) (-1) = sinceR r n w := fun hr h0 h1 hw => by
    unfold sinceR; rw [hr, hw]; simp -implicitDefEqProofs [h0, h1]
  refine ⟨r, [n], ⟨⟨rfl, rfl⟩, by simp -implicitDefEqProofs [eInts, eInt]⟩, ha, fun hA => ?_, fun hA => ?_⟩
  · unfold sinceR
    have : (repoI r && (decide (0 ≤ n) && decide (n ≤ (r.commits.length : Int) - 1))) = false := by simpa [areB] using hA
    rw [this]; simp
  · have hA' : repoI r = true ∧ 0 ≤ n ∧ n ≤ (r.commits.length : Int) - 1 := by simpa [areB] using hA
    obtain ⟨hr, h0, h1⟩ := hA'
    refine ⟨fun hw => by unfold sinceR; rw [hw]; simp, fun hw => ⟨r, n, ⟨⟨rfl, rfl⟩, rfl⟩, ⟨hr, h0, by omega⟩, fun _ => ⟨⟨0, -1, ⟨⟨rfl, rfl, rfl, rfl⟩, rfl⟩, Nat.zero_le _, hW hr h0 h1 hw⟩, fun i s hi hs => ⟨fun hlt => ?_, fun hge => by rw [← hs, since_end hge]⟩⟩⟩⟩
    have hb := (line_bd hr (n + 1).toNat n (by omega) (by omega)).2 _ (List.getElem_mem hlt)
    have hbn : (lineP r n)[i].toNat < r.commits.length := by omega
    have hT : treeI (treeAt r (lineP r n)[i]) = true := by
      unfold treeAt
      rw [List.getD_eq_getElem?_getD, List.getElem?_eq_getElem hbn]
      exact (repo_use hr hbn).2.2
    have hc := seek_hit_eq hT hw
    have ht8 := tree_lines hT
    have hwl : 1 ≤ List.length w ∧ List.length w ≤ 6 := by
      simp only [nameB, Bool.and_eq_true, decide_eq_true_eq] at hw
      exact hw.1
    have hl16 := (line_bd hr 16 n (by omega) (by have := repo_n hr; omega)).1
    refine ⟨hlt, fun _ => ⟨by simp -implicitDefEqProofs [hlt, eInt], fun _ _ => ⟨r, (lineP r n)[i], ⟨⟨rfl, rfl⟩, by simp -implicitDefEqProofs [hlt, eInt]⟩, hb, treeAt r (lineP r n)[i], w, ⟨by simp -implicitDefEqProofs [treeAt, List.getD_eq_getElem?_getD], rfl⟩, ⟨by omega, ht8.2, by omega, hwl.1⟩, fun _ => ⟨fun hnil => ?_, fun hne => ⟨⟨by omega, by omega⟩, fun _ _ => ⟨i + 1, (lineP r n)[i], ?_⟩⟩⟩⟩⟩⟩
    · rw [← hs]
      exact since_no hlt (by simp -implicitDefEqProofs [hasC, ← hc, hnil])
    · have hy := since_yes (p := hasC r w) (s := s) hlt (by simp -implicitDefEqProofs [hasC, ← hc, hne])
      exact ⟨⟨by simp -implicitDefEqProofs [hlt, eInt], by omega⟩, ⟨by omega, by rw [← hs, hy]⟩, by omega⟩

def cSeekSinceS : Con := .fn 55 (RepoD × Int × Str) (fun a => [vRepo a.1, .int .i64 a.2.1, .str a.2.2]) (fun a => rpPre a.1) (fun a => .int .i64 (sinceR a.1 a.2.1 a.2.2)) (fun _ => [])
set_option maxHeartbeats 4000000 in
theorem seekSinceS_has : Has Tryd.prog 53 cSeekSinceS := by
  refine has_walk mixed tTab_ok (l := [(96, cL7Ok), (98, cL1In), (73, cL4Name), (114, cL8Line), (17, cSeekTreeS)]) (HasL.cons l7Ok_has (HasL.cons l1In_has (HasL.cons l4Name_has (HasL.cons l8Line_has (HasL.cons seekTreeS_has HasL.nil))))) [0, 1, 2, 3, 6, 7, 8, 9] ((fun a n (_ : Nat) => (fun a _ => ⟨Nat × Int, fun t => ⟨[(2, true, .str a.2.2), (3, true, .ptr 10 0), (6, true, .int .i64 0), (7, true, .int .i64 t.2), (8, true, .own 9 1 (eInts (lineP a.1 a.2.1))), (9, true, .int .i64 t.1)], [(10, bRepo a.1), (9, .own 3 1 true (eInts (lineP a.1 a.2.1)))]⟩, fun t => t.1 ≤ (lineP a.1 a.2.1).length ∧ sinceW (hasC a.1 a.2.2) ((lineP a.1 a.2.1).drop t.1) t.2 = sinceR a.1 a.2.1 a.2.2, fun t => (lineP a.1 a.2.1).length - t.1⟩) a n)) [] Tryd.func53 (by kernel_rfl) (code := _) (by unfold Tryd.f53; rfl) (by kernel_rfl) (by decide) (fun _ => ⟨(), trivial⟩) (by intro h; first | exact fun _ => rfl | cases h) (by kernel_rfl) ?_
  intro a ha
  obtain ⟨r, n, w⟩ := a
  replace ha : rpPre r := ha
  simp -implicitDefEqProofs [vc_skip, extOf, vc_seq, vc_cond, vc_block, vc_exit, vc_ret, vc_region, vc_regionD, vc_loop, kSeq_normal, kSeq_ret, kSeq_exit, kBlock_normal, kBlock_ret, kBlock_exit, kLoop_normal, kLoop_ret, kLoop_exit, kCond_bool, kNorm_app, vcOps_nil, vcOps_cons, kOps_app, kStep_some, kStep_none, vcDL_nil, vcDL_cons, kOpsD_app, kStepD_true, kStepD_false, kStepC_some, kStepC_none, kMv_app, act3_store, act3_call, act3_bs, kAct_app, kSt2_app, stealSlots, stealL, stealOne, subIn, AV.stolen, act_store, act_bs, act_append, act_call, kSet_app, kSet2_app, kSetG_app, kSetG_app0, kStore_ptr, kStore_eptr, kCallW_some, kCallC_some, kCall_some, wk_T, wk_n, wk_keep, wk_inv, wk_act, wk_dr, wk_le, aCalm, wantC, dstOk, calm, aCallK, aCall3K, subOf, subRep, aCall2K, apnd, bsMove, putBox, putOwn, partAV, mvL, AV.mv, AV.base, AV.moved, AV.src, TI.flat, apSize, pickAV, St.val, St.cond, St.fn, St.next, St.set, St.trim, wipe_eq, wipeE_app, wipeM_app, pickEnv, get?, cGet, upd_app, withPuts, killAll, rm, freshP, Oper.hnd, Sc.st, ofConst, constOk, lenAV, elemLen, loadAV, ldL, ld1, fieldAddrAV, indexAddrAV, sliceAV, convAV, buildAV, fillAV, fieldAV, Out.of, binAV, AV.rows, AV.one, AV.cells, AV.deepOk, AV.toD, toDs, partRows, partRowsM, partsDeep, TK.zeroAV, TK.zeroD, byteOf, inR, Op.operands, Call.operands, passVs, passV, passL, pass1, passB, pasVs, pasV, pasL, pas1, ownsOk, okHs, okHs2, okFin, finOk2, rho, over, backRes, backAV, backAV1, backBlk, putBack, back2, back2_V, back2_1, m2, AV.wipe, AV.wipeV, AV.wipe1, Blk.wipe, AV.hs, AV.hs.hsL, alOps, Con.start2, Con.pk, bodyQ, fini, resAV, resA, firstId, Sc.from, renEnv, renT, renV, renVs, renL, ren1, renBox, renOwn, okRen, clOf, actB, setRow, flatRows, flatD, noInv, shr_nil, shr_some, kStepF_some, shareL, AV.viewed, AV.viewed1, cSeekSinceS, Con.fn, tTab, cL7Ok, cL1In, cL4Name, cL8Line, cSeekTreeS, bRepo_def]
  try dsimp only
  have hW : ∀ (hr : repoI r = true) (h0 : 0 ≤ n) (h1 : n ≤ (r.commits.length : Int) - 1) (hw : nameB w = true), sinceW (hasC r w) (lineP r n) (-1) = sinceR r n w := fun hr h0 h1 hw => by
    unfold sinceR; rw [hr, hw]; simp -implicitDefEqProofs [h0, h1]
  refine ⟨ha.1, fun h => by unfold sinceR; rw [repo_eq, h]; simp, fun h _ => ⟨⟨by omega, by omega⟩, fun _ _ => ⟨n, 0, _, ⟨rfl, rfl, rfl⟩, fun hbad => ?_, fun h0 h1 => ⟨fun hw => by unfold sinceR; rw [hw]; simp, fun hw => ?_⟩⟩⟩⟩
  · unfold sinceR
    have : (decide (0 ≤ n) && decide (n ≤ (r.commits.length : Int) - 1)) = false := by simp; omega
    rw [this]; simp
  · have hr : repoI r = true := by rw [repo_eq]; exact h
    refine ⟨r, n, ⟨⟨rfl, rfl⟩, rfl⟩, ⟨hr, h0, by omega⟩, ⟨0, -1, ⟨⟨rfl, rfl, rfl⟩, rfl⟩, Nat.zero_le _, hW hr h0 h1 hw⟩, fun i s hi hs _ => ⟨fun hlt => ?_, fun hge => by rw [← hs, since_end hge]⟩⟩
    have hb := (line_bd hr (n + 1).toNat n (by omega) (by omega)).2 _ (List.getElem_mem hlt)
    have hbn : (lineP r n)[i].toNat < r.commits.length := by omega
    have hTe : treeAt r (lineP r n)[i] = r.commits[(lineP r n)[i].toNat].tree := by
      unfold treeAt
      rw [List.getD_eq_getElem?_getD, List.getElem?_eq_getElem hbn]; rfl
    have hT : treeI (treeAt r (lineP r n)[i]) = true := by rw [hTe]; exact (repo_use hr hbn).2.2
    have ht8 := tree_lines hT
    have hl16 := (line_bd hr 16 n (by omega) (by have := repo_n hr; omega)).1
    have hts : treeSeekS (treeAt r (lineP r n)[i]) w = seekL (hitS w) (treeAt r (lineP r n)[i]) := by
      unfold treeSeekS; rw [← tree_eq, hT, hw]; rfl
    have e2 : Option.map eCommit r.commits[(lineP r n)[i].toNat]? = some (eCommit r.commits[(lineP r n)[i].toNat]) := by simp -implicitDefEqProofs [hbn]
    rw [hTe] at hts hT ht8
    simp -implicitDefEqProofs [hlt, eInt, hb, e2, eCommit, and_assoc, hts]
    refine ⟨ht8.2, fun hnil => ?_, fun hne => ⟨by omega, by omega, fun _ _ => ⟨i + 1, by omega, by omega, ?_, by omega⟩⟩⟩
    · rw [← hs]; exact since_no hlt (by simp -implicitDefEqProofs [hasC, hTe, hnil])
    · rw [← hs]; exact (since_yes hlt (by simp -implicitDefEqProofs [hasC, hTe, hne])).symm

end Vx
end Go.Proofs.YtlhkmgbmnbkaeaaDoor
/-
  Contracts: marks set in numbers, commits, branches, repositories.
-/
namespace Go.Proofs.YtlhkmgbmnbkaeaaDoor
namespace Vx
open Go.RowKit
set_option maxRecDepth 8000

def markI (n : Nat) (k : Int) : List Int := (List.range n).map fun i : Nat => k + (i : Int)
theorem markI_len (n : Nat) (k : Int) : (markI n k).length = n := by simp -implicitDefEqProofs [markI]
def mIArr (a : List Int) (k : Int) (i : Nat) : List Int := (markI a.length k).take i ++ a.drop i
theorem mIArr_len {a : List Int} {k : Int} {i : Nat} (h : i ≤ a.length) : (mIArr a k i).length = a.length := by simp -implicitDefEqProofs [mIArr, markI_len]; omega
theorem mIArr_zero (a : List Int) (k : Int) : mIArr a k 0 = a := by simp -implicitDefEqProofs [mIArr]
theorem mIArr_end {a : List Int} {k : Int} {i : Nat} (h : a.length ≤ i) : mIArr a k i = markI a.length k := by
  unfold mIArr
  rw [List.take_of_length_le (by rw [markI_len]; exact h), List.drop_eq_nil_of_le h, List.append_nil]
theorem mIArr_set {a : List Int} {k : Int} {i : Nat} (h : i < a.length) : (mIArr a k i).set i (k + i) = mIArr a k (i + 1) := by
  unfold mIArr
  have h1 : ((markI a.length k).take i).length = i := by rw [List.length_take, markI_len]; omega
  rw [List.set_append_right _ _ (by omega), h1, Nat.sub_self, List.drop_eq_getElem_cons h, List.set_cons_zero]
  rw [take_succ' (l := markI a.length k) (i := i) (by rw [markI_len]; exact h)]
  simp -implicitDefEqProofs [markI]
def cMarkIntS : Con := { A := List Int × Int, X := Unit, n := 19, args := fun a => [.own 0 1 (eInts a.1), .int .i64 a.2], boxes := fun _ => [], pre := fun a => 0 ≤ a.2 ∧ a.2 + a.1.length ≤ 4611686018427387904, post := fun _ _ => True, res := fun a _ => .int .i64 (a.2 + a.1.length), fin := fun a _ => [(0, .own 3 1 true (eInts (markI a.1.length a.2)))], owns := fun a => [(0, 3, 1, eInts a.1)], lends := [0], mv := true, sube := 3 }
set_option maxHeartbeats 4000000 in
theorem markIntS_has : Has Tryd.prog 59 cMarkIntS := by
  refine has_walk mixed tTab_ok (l := []) HasL.nil [0, 1, 4, 5] ((fun a n (_ : Nat) => (fun a _ => ⟨Nat, fun i => ⟨[(0, true, .own 0 1 (eInts (mIArr a.1 a.2 i))), (1, true, .int .i64 (a.2 + i)), (4, true, .int .i64 0), (5, true, .int .i64 i)], [(0, .own 3 1 true (eInts (mIArr a.1 a.2 i)))]⟩, fun i => i ≤ a.1.length, fun i => a.1.length - i⟩) a n)) [] Tryd.func59 (by kernel_rfl) (code := _) (by unfold Tryd.f59; rfl) (by kernel_rfl) (by decide) (fun _ => ⟨(), trivial⟩) (by intro h; first | exact fun _ => rfl | cases h) (by kernel_rfl) ?_
  intro a ha
  obtain ⟨l, k⟩ := a
  obtain ⟨q1, q2⟩ : 0 ≤ k ∧ k + l.length ≤ 4611686018427387904 := ha
  have e1 := fun i => @mIArr_len l k i
  have e2 := fun i => @mIArr_set l k i
  have e3 := mIArr_zero l k
  have e4 := fun i => @mIArr_end l k i
  simp -implicitDefEqProofs [vc_skip, extOf, vc_seq, vc_cond, vc_block, vc_exit, vc_ret, vc_region, vc_regionD, vc_loop, kSeq_normal, kSeq_ret, kSeq_exit, kBlock_normal, kBlock_ret, kBlock_exit, kLoop_normal, kLoop_ret, kLoop_exit, kCond_bool, kNorm_app, vcOps_nil, vcOps_cons, kOps_app, kStep_some, kStep_none, vcDL_nil, vcDL_cons, kOpsD_app, kStepD_true, kStepD_false, kStepC_some, kStepC_none, kMv_app, act3_store, act3_call, act3_bs, kAct_app, kSt2_app, stealSlots, stealL, stealOne, subIn, AV.stolen, act_store, act_bs, act_append, act_call, kSet_app, kSet2_app, kSetG_app, kSetG_app0, kStore_ptr, kStore_eptr, kCallW_some, kCallC_some, kCall_some, wk_T, wk_n, wk_keep, wk_inv, wk_act, wk_dr, wk_le, aCalm, wantC, dstOk, calm, aCallK, aCall3K, subOf, subRep, aCall2K, apnd, bsMove, putBox, putOwn, partAV, mvL, AV.mv, AV.base, AV.moved, AV.src, TI.flat, apSize, pickAV, St.val, St.cond, St.fn, St.next, St.set, St.trim, wipe_eq, wipeE_app, wipeM_app, pickEnv, get?, cGet, upd_app, withPuts, killAll, rm, freshP, Oper.hnd, Sc.st, ofConst, constOk, lenAV, elemLen, loadAV, ldL, ld1, fieldAddrAV, indexAddrAV, sliceAV, convAV, buildAV, fillAV, fieldAV, Out.of, binAV, AV.rows, AV.one, AV.cells, AV.deepOk, AV.toD, toDs, partRows, partRowsM, partsDeep, TK.zeroAV, TK.zeroD, byteOf, inR, Op.operands, Call.operands, passVs, passV, passL, pass1, passB, pasVs, pasV, pasL, pas1, ownsOk, okHs, okHs2, okFin, finOk2, rho, over, backRes, backAV, backAV1, backBlk, putBack, back2, back2_V, back2_1, m2, AV.wipe, AV.wipeV, AV.wipe1, Blk.wipe, AV.hs, AV.hs.hsL, alOps, Con.start2, Con.pk, bodyQ, fini, resAV, resA, firstId, Sc.from, renEnv, renT, renV, renVs, renL, ren1, renBox, renOwn, okRen, clOf, actB, setRow, flatRows, flatD, noInv, shr_nil, shr_some, kStepF_some, shareL, AV.viewed, AV.viewed1, cMarkIntS, Con.fn, tTab]
  try dsimp only
  refine ⟨⟨0, ⟨⟨e3, by omega, rfl⟩, e3.symm⟩, Nat.zero_le _⟩, fun i hi _ => ⟨fun hlt => ⟨hlt, fun _ => ⟨hlt, ⟨by omega, by omega⟩, fun _ _ => ⟨⟨by omega, by omega⟩, fun _ _ => ?_⟩⟩⟩, fun hge => ?_⟩⟩
  · rw [e1 i hi] at hlt
    have h := e2 i hlt
    have hs : (eInts (mIArr l k i)).set i [D.int .i64 (k + i)] = eInts (mIArr l k (i + 1)) := by rw [eInts_set, h]
    exact ⟨i + 1, ⟨⟨hs.symm, by omega, by omega⟩, hs⟩, by omega, by omega⟩
  · rw [e1 i hi] at hge
    exact ⟨by omega, e4 i hge⟩

def heldI (a : List Int) (k : Int) : Int := if a = markI a.length k then k + a.length else -1
def cHeldIntS : Con := .fn 21 (List Int × Int) (fun a => [.sl true 1 (eInts a.1), .int .i64 a.2]) (fun a => 0 ≤ a.2 ∧ a.2 + a.1.length ≤ 4611686018427387904) (fun a => .int .i64 (heldI a.1 a.2)) (fun _ => [])
set_option maxHeartbeats 4000000 in
theorem heldIntS_has : Has Tryd.prog 60 cHeldIntS := by
  refine has_walk mixed tTab_ok (l := []) HasL.nil [0, 1, 4, 5] ((fun a n (_ : Nat) => (fun a _ => ⟨Nat, fun i => ⟨[(0, true, .sl true 1 (eInts a.1)), (1, true, .int .i64 (a.2 + i)), (4, true, .int .i64 0), (5, true, .int .i64 i)], []⟩, fun i => i ≤ a.1.length ∧ a.1.take i = (markI a.1.length a.2).take i, fun i => a.1.length - i⟩) a n)) [] Tryd.func60 (by kernel_rfl) (code := _) (by unfold Tryd.f60; rfl) (by kernel_rfl) (by decide) (fun _ => ⟨(), trivial⟩) (by intro h; first | exact fun _ => rfl | cases h) (by kernel_rfl) ?_
  intro a ha
  obtain ⟨l, k⟩ := a
  obtain ⟨q1, q2⟩ : 0 ≤ k ∧ k + l.length ≤ 4611686018427387904 := ha
  simp -implicitDefEqProofs [vc_skip, extOf, vc_seq, vc_cond, vc_block, vc_exit, vc_ret, vc_region, vc_regionD, vc_loop, kSeq_normal, kSeq_ret, kSeq_exit, kBlock_normal, kBlock_ret, kBlock_exit, kLoop_normal, kLoop_ret, kLoop_exit, kCond_bool, kNorm_app, vcOps_nil, vcOps_cons, kOps_app, kStep_some, kStep_none, vcDL_nil, vcDL_cons, kOpsD_app, kStepD_true, kStepD_false, kStepC_some, kStepC_none, kMv_app, act3_store, act3_call, act3_bs, kAct_app, kSt2_app, stealSlots, stealL, stealOne, subIn, AV.stolen, act_store, act_bs, act_append, act_call, kSet_app, kSet2_app, kSetG_app, kSetG_app0, kStore_ptr, kStore_eptr, kCallW_some, kCallC_some, kCall_some, wk_T, wk_n, wk_keep, wk_inv, wk_act, wk_dr, wk_le, aCalm, wantC, dstOk, calm, aCallK, aCall3K, subOf, subRep, aCall2K, apnd, bsMove, putBox, putOwn, partAV, mvL, AV.mv, AV.base, AV.moved, AV.src, TI.flat, apSize, pickAV, St.val, St.cond, St.fn, St.next, St.set, St.trim, wipe_eq, wipeE_app, wipeM_app, pickEnv, get?, cGet, upd_app, withPuts, killAll, rm, freshP, Oper.hnd, Sc.st, ofConst, constOk, lenAV, elemLen, loadAV, ldL, ld1, fieldAddrAV, indexAddrAV, sliceAV, convAV, buildAV, fillAV, fieldAV, Out.of, binAV, AV.rows, AV.one, AV.cells, AV.deepOk, AV.toD, toDs, partRows, partRowsM, partsDeep, TK.zeroAV, TK.zeroD, byteOf, inR, Op.operands, Call.operands, passVs, passV, passL, pass1, passB, pasVs, pasV, pasL, pas1, ownsOk, okHs, okHs2, okFin, finOk2, rho, over, backRes, backAV, backAV1, backBlk, putBack, back2, back2_V, back2_1, m2, AV.wipe, AV.wipeV, AV.wipe1, Blk.wipe, AV.hs, AV.hs.hsL, alOps, Con.start2, Con.pk, bodyQ, fini, resAV, resA, firstId, Sc.from, renEnv, renT, renV, renVs, renL, ren1, renBox, renOwn, okRen, clOf, actB, setRow, flatRows, flatD, noInv, shr_nil, shr_some, kStepF_some, shareL, AV.viewed, AV.viewed1, cHeldIntS, Con.fn, tTab]
  try dsimp only
  have hg : ∀ i (h : i < l.length), (markI l.length k)[i]'(by rw [markI_len]; exact h) = k + i := fun i h => by simp -implicitDefEqProofs [markI]
  refine ⟨⟨0, ⟨by omega, rfl⟩, Nat.zero_le _, by simp⟩, fun i hi hp _ => ⟨fun hlt => ⟨hlt, fun _ => ⟨by simp -implicitDefEqProofs [hlt, eInt], fun _ _ => ⟨fun hne => ?_, fun he => ⟨⟨by omega, by omega⟩, fun _ _ => ⟨⟨by omega, by omega⟩, fun _ _ => ⟨i + 1, ⟨by omega, by omega⟩, ⟨by omega, ?_⟩, by omega⟩⟩⟩⟩⟩⟩, fun hge => ?_⟩⟩
  · have hne' : ¬ l[i] = k + i := by simpa [hlt, eInt] using hne
    unfold heldI
    rw [if_neg]
    intro e
    have h2 := hg i hlt
    apply hne'
    have : l[i]? = (markI l.length k)[i]? := by rw [← e]
    rw [List.getElem?_eq_getElem hlt, List.getElem?_eq_getElem (by rw [markI_len]; exact hlt), h2] at this
    exact Option.some.inj this
  · have he' : l[i] = k + i := by simpa [hlt, eInt] using he
    rw [take_succ' hlt, take_succ' (l := markI l.length k) (by rw [markI_len]; exact hlt), hp, hg i hlt, he']
  · rw [List.take_of_length_le hge, List.take_of_length_le (by rw [markI_len]; exact hge)] at hp
    unfold heldI
    rw [if_pos hp]; omega
theorem heldI_mark (n : Nat) (k : Int) : heldI (markI n k) k = k + n := by
  unfold heldI
  rw [markI_len, if_pos rfl]

def mkC (c : CommitD) (k : Int) : CommitD := ⟨markI c.parents.length k, markS (k + c.parents.length), markFs c.tree (k + c.parents.length + 1)⟩
def kC (c : CommitD) (k : Int) : Int := kE c.tree (k + c.parents.length + 1)
def kCs : List CommitD → Int → Int
  | [], k => k
  | c :: l, k => kCs l (kC c k)
def markCs : List CommitD → Int → List CommitD
  | [], _ => []
  | c :: l, k => mkC c k :: markCs l (kC c k)
theorem markCs_len : ∀ (l : List CommitD) (k : Int), (markCs l k).length = l.length
  | [], _ => rfl
  | c :: l, k => by simp -implicitDefEqProofs [markCs, markCs_len l]
theorem kCs_snoc : ∀ (l : List CommitD) (c : CommitD) (k : Int), kCs (l ++ [c]) k = kC c (kCs l k)
  | [], _, _ => rfl
  | d :: l, c, k => by simp only [List.cons_append, kCs]; exact kCs_snoc l c _
theorem markCs_get : ∀ (l : List CommitD) (k : Int) (i : Nat) (h : i < l.length), (markCs l k)[i]'(by rw [markCs_len]; exact h) = mkC l[i] (kCs (l.take i) k)
  | [], _, i, h => by simp at h
  | c :: l, k, 0, _ => rfl
  | c :: l, k, i + 1, h => by
    simp only [markCs, List.getElem_cons_succ, List.take_succ_cons, kCs]
    exact markCs_get l _ i (by simpa using h)
theorem kC_ge {c : CommitD} {k : Int} : k + c.parents.length + 1 ≤ kC c k := by
  have := (kE_le (t := c.tree) (k := k + c.parents.length + 1) c.tree.length).1
  rw [List.take_length] at this
  exact this
theorem kCs_ge : ∀ (l : List CommitD) (k : Int), k ≤ kCs l k
  | [], _ => Int.le_refl _
  | c :: l, k => by
    have h1 := kC_ge (c := c) (k := k)
    have h2 := kCs_ge l (kC c k)
    simp only [kCs]; omega
theorem kCs_split (l : List CommitD) (k : Int) (i : Nat) : kCs (l.take i) k ≤ kCs l k := by
  have : ∀ (a b : List CommitD) (k : Int), kCs (a ++ b) k = kCs b (kCs a k) := by
    intro a
    induction a with
    | nil => intro b k; rfl
    | cons c a ih => intro b k; simp only [List.cons_append, kCs]; exact ih b _
  conv => rhs; rw [← List.take_append_drop i l]
  rw [this]
  exact kCs_ge _ _
def mCArr (a : List CommitD) (k : Int) (i : Nat) : List CommitD := (markCs a k).take i ++ a.drop i
theorem mCArr_len {a : List CommitD} {k : Int} {i : Nat} (h : i ≤ a.length) : (mCArr a k i).length = a.length := by simp -implicitDefEqProofs [mCArr, markCs_len]; omega
theorem mCArr_zero (a : List CommitD) (k : Int) : mCArr a k 0 = a := by simp -implicitDefEqProofs [mCArr]
theorem mCArr_end {a : List CommitD} {k : Int} {i : Nat} (h : a.length ≤ i) : mCArr a k i = markCs a k := by
  unfold mCArr
  rw [List.take_of_length_le (by rw [markCs_len]; exact h), List.drop_eq_nil_of_le h, List.append_nil]
theorem mCArr_get {a : List CommitD} {k : Int} {i : Nat} (h : i < a.length) : (mCArr a k i)[i]? = some a[i] := by
  unfold mCArr
  rw [List.getElem?_append_right (by simp; omega), List.length_take, markCs_len, Nat.min_eq_left (by omega), Nat.sub_self, List.getElem?_drop]
  simp -implicitDefEqProofs [h]
theorem mCArr_set {a : List CommitD} {k : Int} {i : Nat} (h : i < a.length) : (mCArr a k i).set i (mkC a[i] (kCs (a.take i) k)) = mCArr a k (i + 1) := by
  unfold mCArr
  have h1 : ((markCs a k).take i).length = i := by rw [List.length_take, markCs_len]; omega
  rw [List.set_append_right _ _ (by omega), h1, Nat.sub_self, List.drop_eq_getElem_cons h, List.set_cons_zero]
  rw [take_succ' (l := markCs a k) (i := i) (by rw [markCs_len]; exact h), markCs_get a k i h]
  simp
def cMarkCommitS : Con := { A := List CommitD × Int, X := Unit, n := 35, args := fun a => [.own 0 3 (eCommits a.1), .int .i64 a.2], boxes := fun _ => [], pre := fun a => 0 ≤ a.2 ∧ kCs a.1 a.2 ≤ 1152921504606846976, post := fun _ _ => True, res := fun a _ => .int .i64 (kCs a.1 a.2), fin := fun a _ => [(0, .own 127 3 true (eCommits (markCs a.1 a.2)))], owns := fun a => [(0, 127, 3, eCommits a.1)], lends := [0], mv := true, sube := 127 }
set_option maxHeartbeats 4000000 in
theorem markCommitS_has : Has Tryd.prog 119 cMarkCommitS := by
  refine has_walk mixed tTab_ok (l := [(59, cMarkIntS), (92, cMarkText), (39, cMarkFileS)]) (HasL.cons markIntS_has (HasL.cons markText_has (HasL.cons markFileS_has HasL.nil))) [0, 1, 4, 5] ((fun a n (_ : Nat) => (fun a _ => ⟨Nat, fun i => ⟨[(0, true, .own 0 3 (eCommits (mCArr a.1 a.2 i))), (1, true, .int .i64 (kCs (a.1.take i) a.2)), (4, true, .int .i64 0), (5, true, .int .i64 i)], [(0, .own 127 3 true (eCommits (mCArr a.1 a.2 i)))]⟩, fun i => i ≤ a.1.length, fun i => a.1.length - i⟩) a n)) [] Tryd.func119 (by kernel_rfl) (code := _) (by unfold Tryd.f119; rfl) (by kernel_rfl) (by decide) (fun _ => ⟨(), trivial⟩) (by intro h; first | exact fun _ => rfl | cases h) (by kernel_rfl) ?_
  intro a ha
  obtain ⟨l, k⟩ := a
  obtain ⟨q1, q2⟩ : 0 ≤ k ∧ kCs l k ≤ 1152921504606846976 := ha
  have e1 := fun i => @mCArr_len l k i
  have e3 := mCArr_zero l k
  simp -implicitDefEqProofs [vc_skip, extOf, vc_seq, vc_cond, vc_block, vc_exit, vc_ret, vc_region, vc_regionD, vc_loop, kSeq_normal, kSeq_ret, kSeq_exit, kBlock_normal, kBlock_ret, kBlock_exit, kLoop_normal, kLoop_ret, kLoop_exit, kCond_bool, kNorm_app, vcOps_nil, vcOps_cons, kOps_app, kStep_some, kStep_none, vcDL_nil, vcDL_cons, kOpsD_app, kStepD_true, kStepD_false, kStepC_some, kStepC_none, kMv_app, act3_store, act3_call, act3_bs, kAct_app, kSt2_app, stealSlots, stealL, stealOne, subIn, AV.stolen, act_store, act_bs, act_append, act_call, kSet_app, kSet2_app, kSetG_app, kSetG_app0, kStore_ptr, kStore_eptr, kCallW_some, kCallC_some, kCall_some, wk_T, wk_n, wk_keep, wk_inv, wk_act, wk_dr, wk_le, aCalm, wantC, dstOk, calm, aCallK, aCall3K, subOf, subRep, aCall2K, apnd, bsMove, putBox, putOwn, partAV, mvL, AV.mv, AV.base, AV.moved, AV.src, TI.flat, apSize, pickAV, St.val, St.cond, St.fn, St.next, St.set, St.trim, wipe_eq, wipeE_app, wipeM_app, pickEnv, get?, cGet, upd_app, withPuts, killAll, rm, freshP, Oper.hnd, Sc.st, ofConst, constOk, lenAV, elemLen, loadAV, ldL, ld1, fieldAddrAV, indexAddrAV, sliceAV, convAV, buildAV, fillAV, fieldAV, Out.of, binAV, AV.rows, AV.one, AV.cells, AV.deepOk, AV.toD, toDs, partRows, partRowsM, partsDeep, TK.zeroAV, TK.zeroD, byteOf, inR, Op.operands, Call.operands, passVs, passV, passL, pass1, passB, pasVs, pasV, pasL, pas1, ownsOk, okHs, okHs2, okFin, finOk2, rho, over, backRes, backAV, backAV1, backBlk, putBack, back2, back2_V, back2_1, m2, AV.wipe, AV.wipeV, AV.wipe1, Blk.wipe, AV.hs, AV.hs.hsL, alOps, Con.start2, Con.pk, bodyQ, fini, resAV, resA, firstId, Sc.from, renEnv, renT, renV, renVs, renL, ren1, renBox, renOwn, okRen, clOf, actB, setRow, flatRows, flatD, noInv, shr_nil, shr_some, kStepF_some, shareL, AV.viewed, AV.viewed1, cMarkCommitS, Con.fn, tTab, cMarkIntS, cMarkText, cMarkFileS]
  try dsimp only
  refine ⟨⟨0, ⟨⟨e3, rfl, rfl⟩, e3.symm⟩, Nat.zero_le _⟩, fun t ht hbig => ⟨fun hlt => ?_, fun hge => ?_⟩⟩
  · rw [e1 t ht] at hlt
    have g := mCArr_get (k := k) hlt
    have hl := e1 t ht
    have g2 : (mCArr l k t)[t]'(by omega) = l[t] := by
      rw [List.getElem?_eq_getElem (by omega)] at g; exact Option.some.inj g
    have hst := mCArr_set (k := k) hlt
    have hsn : kCs (l.take (t + 1)) k = kC l[t] (kCs (l.take t) k) := by rw [take_succ' hlt, kCs_snoc]
    have hsp := kCs_split l k (t + 1)
    rw [hsn] at hsp
    have hge1 := kCs_ge (l.take t) k
    have hkc := kC_ge (c := l[t]) (k := kCs (l.take t) k)
    generalize kCs (l.take t) k = b at *
    simp -implicitDefEqProofs [g, g2, hl, hlt, eCommit, D.asRows, and_assoc]
    have hse : (eCommits (mCArr l k t)).set t [D.sl 3 1 (eInts (markI l[t].parents.length b)), D.str (markS (b + l[t].parents.length)), D.sl 32 2 (eFiles (markFs l[t].tree (b + l[t].parents.length + 1)))] = eCommits (mCArr l k (t + 1)) := by
      rw [← hst]; unfold eCommits; rw [List.map_set]; rfl
    have hkE : kC l[t] b = kE l[t].tree (b + l[t].parents.length + 1) := rfl
    rw [hkE] at hsp hsn hkc
    refine ⟨by omega, by omega, by omega, by omega, fun _ _ => ⟨by omega, by omega, by omega, by omega, fun _ _ => ⟨t + 1, hse.symm, hsn, by omega, hse, by omega, by omega⟩⟩⟩
  · have hge' : l.length ≤ t := by rw [e1 t ht] at hge; omega
    rw [List.take_of_length_le hge', mCArr_end hge']
    simp

end Vx
end Go.Proofs.YtlhkmgbmnbkaeaaDoor
/-
  Contracts: marks set and looked for in heads; marks set in repositories.
-/
namespace Go.Proofs.YtlhkmgbmnbkaeaaDoor
namespace Vx
open Go.RowKit
set_option maxRecDepth 8000

def markHs (n : Nat) (k : Int) : List HeadD := (List.range n).map fun i : Nat => ⟨markS (k + 2 * i), k + 2 * i + 1⟩
theorem markHs_len (n : Nat) (k : Int) : (markHs n k).length = n := by simp -implicitDefEqProofs [markHs]
theorem markHs_get {n : Nat} {k : Int} {i : Nat} (h : i < n) : (markHs n k)[i]'(by rw [markHs_len]; exact h) = ⟨markS (k + 2 * i), k + 2 * i + 1⟩ := by simp -implicitDefEqProofs [markHs]
def mHA (a : List HeadD) (k : Int) (i : Nat) : List HeadD := (markHs a.length k).take i ++ a.drop i
theorem mHA_len {a : List HeadD} {k : Int} {i : Nat} (h : i ≤ a.length) : (mHA a k i).length = a.length := by simp -implicitDefEqProofs [mHA, markHs_len]; omega
theorem mHA_zero (a : List HeadD) (k : Int) : mHA a k 0 = a := by simp -implicitDefEqProofs [mHA]
theorem mHA_end {a : List HeadD} {k : Int} {i : Nat} (h : a.length ≤ i) : mHA a k i = markHs a.length k := by
  unfold mHA
  rw [List.take_of_length_le (by rw [markHs_len]; exact h), List.drop_eq_nil_of_le h, List.append_nil]
theorem mHA_get {a : List HeadD} {k : Int} {i : Nat} (h : i < a.length) : (mHA a k i)[i]? = some a[i] := by
  unfold mHA
  rw [List.getElem?_append_right (by simp; omega), List.length_take, markHs_len, Nat.min_eq_left (by omega), Nat.sub_self, List.getElem?_drop]
  simp -implicitDefEqProofs [h]
theorem mHA_set {a : List HeadD} {k : Int} {i : Nat} (h : i < a.length) : (mHA a k i).set i ⟨markS (k + 2 * i), k + 2 * i + 1⟩ = mHA a k (i + 1) := by
  unfold mHA
  have h1 : ((markHs a.length k).take i).length = i := by rw [List.length_take, markHs_len]; omega
  rw [List.set_append_right _ _ (by omega), h1, Nat.sub_self, List.drop_eq_getElem_cons h, List.set_cons_zero]
  rw [take_succ' (l := markHs a.length k) (i := i) (by rw [markHs_len]; exact h), markHs_get h]
  simp
def cMarkHeadS : Con := { A := List HeadD × Int, X := Unit, n := 28, args := fun a => [.own 0 2 (eHeads a.1), .int .i64 a.2], boxes := fun _ => [], pre := fun a => 0 ≤ a.2 ∧ a.2 + 2 * a.1.length ≤ 4611686018427387904, post := fun _ _ => True, res := fun a _ => .int .i64 (a.2 + 2 * a.1.length), fin := fun a _ => [(0, .own 114 2 true (eHeads (markHs a.1.length a.2)))], owns := fun a => [(0, 114, 2, eHeads a.1)], lends := [0], mv := true, sube := 114 }
set_option maxHeartbeats 4000000 in
theorem markHeadS_has : Has Tryd.prog 63 cMarkHeadS := by
  refine has_walk mixed tTab_ok (l := [(92, cMarkText)]) (HasL.cons markText_has HasL.nil) [0, 1, 4, 5] ((fun a n (_ : Nat) => (fun a _ => ⟨Nat, fun i => ⟨[(0, true, .own 0 2 (eHeads (mHA a.1 a.2 i))), (1, true, .int .i64 (a.2 + 2 * i)), (4, true, .int .i64 0), (5, true, .int .i64 i)], [(0, .own 114 2 true (eHeads (mHA a.1 a.2 i)))]⟩, fun i => i ≤ a.1.length, fun i => a.1.length - i⟩) a n)) [] Tryd.func63 (by kernel_rfl) (code := _) (by unfold Tryd.f63; rfl) (by kernel_rfl) (by decide) (fun _ => ⟨(), trivial⟩) (by intro h; first | exact fun _ => rfl | cases h) (by kernel_rfl) ?_
  intro a ha
  obtain ⟨l, k⟩ := a
  obtain ⟨q1, q2⟩ : 0 ≤ k ∧ k + 2 * l.length ≤ 4611686018427387904 := ha
  have e1 := fun i => @mHA_len l k i
  have e3 := mHA_zero l k
  simp -implicitDefEqProofs [vc_skip, extOf, vc_seq, vc_cond, vc_block, vc_exit, vc_ret, vc_region, vc_regionD, vc_loop, kSeq_normal, kSeq_ret, kSeq_exit, kBlock_normal, kBlock_ret, kBlock_exit, kLoop_normal, kLoop_ret, kLoop_exit, kCond_bool, kNorm_app, vcOps_nil, vcOps_cons, kOps_app, kStep_some, kStep_none, vcDL_nil, vcDL_cons, kOpsD_app, kStepD_true, kStepD_false, kStepC_some, kStepC_none, kMv_app, act3_store, act3_call, act3_bs, kAct_app, kSt2_app, stealSlots, stealL, stealOne, subIn, AV.stolen, act_store, act_bs, act_append, act_call, kSet_app, kSet2_app, kSetG_app, kSetG_app0, kStore_ptr, kStore_eptr, kCallW_some, kCallC_some, kCall_some, wk_T, wk_n, wk_keep, wk_inv, wk_act, wk_dr, wk_le, aCalm, wantC, dstOk, calm, aCallK, aCall3K, subOf, subRep, aCall2K, apnd, bsMove, putBox, putOwn, partAV, mvL, AV.mv, AV.base, AV.moved, AV.src, TI.flat, apSize, pickAV, St.val, St.cond, St.fn, St.next, St.set, St.trim, wipe_eq, wipeE_app, wipeM_app, pickEnv, get?, cGet, upd_app, withPuts, killAll, rm, freshP, Oper.hnd, Sc.st, ofConst, constOk, lenAV, elemLen, loadAV, ldL, ld1, fieldAddrAV, indexAddrAV, sliceAV, convAV, buildAV, fillAV, fieldAV, Out.of, binAV, AV.rows, AV.one, AV.cells, AV.deepOk, AV.toD, toDs, partRows, partRowsM, partsDeep, TK.zeroAV, TK.zeroD, byteOf, inR, Op.operands, Call.operands, passVs, passV, passL, pass1, passB, pasVs, pasV, pasL, pas1, ownsOk, okHs, okHs2, okFin, finOk2, rho, over, backRes, backAV, backAV1, backBlk, putBack, back2, back2_V, back2_1, m2, AV.wipe, AV.wipeV, AV.wipe1, Blk.wipe, AV.hs, AV.hs.hsL, alOps, Con.start2, Con.pk, bodyQ, fini, resAV, resA, firstId, Sc.from, renEnv, renT, renV, renVs, renL, ren1, renBox, renOwn, okRen, clOf, actB, setRow, flatRows, flatD, noInv, shr_nil, shr_some, kStepF_some, shareL, AV.viewed, AV.viewed1, cMarkHeadS, Con.fn, tTab, cMarkText]
  try dsimp only
  refine ⟨⟨0, ⟨⟨e3, by omega, rfl⟩, e3.symm⟩, Nat.zero_le _⟩, fun t ht hbig => ⟨fun hlt => ?_, fun hge => ?_⟩⟩
  · rw [e1 t ht] at hlt
    have g := mHA_get (k := k) hlt
    have hl := e1 t ht
    have g2 : (mHA l k t)[t]'(by omega) = l[t] := by
      rw [List.getElem?_eq_getElem (by omega)] at g; exact Option.some.inj g
    have hst := mHA_set (k := k) hlt
    simp -implicitDefEqProofs [g, g2, hl, hlt, eHead, D.asRows, and_assoc]
    have hse : (eHeads (mHA l k t)).set t [D.str (markS (k + 2 * t)), D.int .i64 (k + 2 * t + 1)] = eHeads (mHA l k (t + 1)) := by
      rw [← hst, eHeads_set]
    exact ⟨by omega, by omega, by omega, fun _ _ => ⟨by omega, by omega, fun _ _ => ⟨by omega, by omega, fun _ _ => ⟨t + 1, hse.symm, by omega, by omega, hse, by omega, by omega⟩⟩⟩⟩
  · have hge' : l.length ≤ t := by rw [e1 t ht] at hge; omega
    rw [mHA_end hge']
    simp; omega

def heldHs (a : List HeadD) (k : Int) : Int := if a = markHs a.length k then k + 2 * a.length else -1
theorem heldHs_mark (n : Nat) (k : Int) : heldHs (markHs n k) k = k + 2 * n := by
  unfold heldHs
  rw [markHs_len, if_pos rfl]
theorem heldH_miss {l : List HeadD} {k : Int} {i : Nat} (h : i < l.length) (h2 : l[i].name ≠ markS (k + 2 * i) ∨ l[i].at_ ≠ k + 2 * i + 1) : heldHs l k = -1 := by
  unfold heldHs
  rw [if_neg]
  intro h3
  have : l[i]? = (markHs l.length k)[i]? := by rw [← h3]
  rw [List.getElem?_eq_getElem h, List.getElem?_eq_getElem (by rw [markHs_len]; exact h), markHs_get h] at this
  have := Option.some.inj this
  rcases h2 with h2 | h2
  · exact h2 (congrArg HeadD.name this)
  · exact h2 (congrArg HeadD.at_ this)
theorem heldH_step {l : List HeadD} {k : Int} {i : Nat} (h : i < l.length) (h1 : l.take i = (markHs l.length k).take i) (h2 : l[i].name = markS (k + 2 * i)) (h3 : l[i].at_ = k + 2 * i + 1) : l.take (i + 1) = (markHs l.length k).take (i + 1) := by
  rw [take_succ' h, take_succ' (by rw [markHs_len]; exact h), markHs_get h, ← h1, ← h2, ← h3]
theorem heldH_end {l : List HeadD} {k : Int} {i : Nat} (h : l.length ≤ i) (h1 : l.take i = (markHs l.length k).take i) : heldHs l k = k + 2 * l.length := by
  rw [List.take_of_length_le h, List.take_of_length_le (by rw [markHs_len]; exact h)] at h1
  unfold heldHs
  rw [if_pos h1]
def cHeldHeadS : Con := .fn 32 (List HeadD × Int) (fun a => [.sl true 2 (eHeads a.1), .int .i64 a.2]) (fun a => 0 ≤ a.2 ∧ a.2 + 2 * a.1.length ≤ 4611686018427387904) (fun a => .int .i64 (heldHs a.1 a.2)) (fun _ => [])
set_option maxHeartbeats 4000000 in
theorem heldHeadS_has : Has Tryd.prog 64 cHeldHeadS := by
  refine has_walk mixed tTab_ok (l := [(92, cMarkText)]) (HasL.cons markText_has HasL.nil) [0, 1, 4, 5] ((fun a n (_ : Nat) => (fun a _ => ⟨Nat, fun i => ⟨[(0, true, .sl true 2 (eHeads a.1)), (1, true, .int .i64 (a.2 + 2 * i)), (4, true, .int .i64 0), (5, true, .int .i64 i)], []⟩, fun i => i ≤ a.1.length ∧ a.1.take i = (markHs a.1.length a.2).take i, fun i => a.1.length - i⟩) a n)) [] Tryd.func64 (by kernel_rfl) (code := _) (by unfold Tryd.f64; rfl) (by kernel_rfl) (by decide) (fun _ => ⟨(), trivial⟩) (by intro h; first | exact fun _ => rfl | cases h) (by kernel_rfl) ?_
  intro a ha
  obtain ⟨l, k⟩ := a
  obtain ⟨q1, q2⟩ : 0 ≤ k ∧ k + 2 * l.length ≤ 4611686018427387904 := ha
  have e1 := fun i => @heldH_miss l k i
  have e2 := fun i => @heldH_step l k i
  have e3 := fun i => @heldH_end l k i
  simp -implicitDefEqProofs [vc_skip, extOf, vc_seq, vc_cond, vc_block, vc_exit, vc_ret, vc_region, vc_regionD, vc_loop, kSeq_normal, kSeq_ret, kSeq_exit, kBlock_normal, kBlock_ret, kBlock_exit, kLoop_normal, kLoop_ret, kLoop_exit, kCond_bool, kNorm_app, vcOps_nil, vcOps_cons, kOps_app, kStep_some, kStep_none, vcDL_nil, vcDL_cons, kOpsD_app, kStepD_true, kStepD_false, kStepC_some, kStepC_none, kMv_app, act3_store, act3_call, act3_bs, kAct_app, kSt2_app, stealSlots, stealL, stealOne, subIn, AV.stolen, act_store, act_bs, act_append, act_call, kSet_app, kSet2_app, kSetG_app, kSetG_app0, kStore_ptr, kStore_eptr, kCallW_some, kCallC_some, kCall_some, wk_T, wk_n, wk_keep, wk_inv, wk_act, wk_dr, wk_le, aCalm, wantC, dstOk, calm, aCallK, aCall3K, subOf, subRep, aCall2K, apnd, bsMove, putBox, putOwn, partAV, mvL, AV.mv, AV.base, AV.moved, AV.src, TI.flat, apSize, pickAV, St.val, St.cond, St.fn, St.next, St.set, St.trim, wipe_eq, wipeE_app, wipeM_app, pickEnv, get?, cGet, upd_app, withPuts, killAll, rm, freshP, Oper.hnd, Sc.st, ofConst, constOk, lenAV, elemLen, loadAV, ldL, ld1, fieldAddrAV, indexAddrAV, sliceAV, convAV, buildAV, fillAV, fieldAV, Out.of, binAV, AV.rows, AV.one, AV.cells, AV.deepOk, AV.toD, toDs, partRows, partRowsM, partsDeep, TK.zeroAV, TK.zeroD, byteOf, inR, Op.operands, Call.operands, passVs, passV, passL, pass1, passB, pasVs, pasV, pasL, pas1, ownsOk, okHs, okHs2, okFin, finOk2, rho, over, backRes, backAV, backAV1, backBlk, putBack, back2, back2_V, back2_1, m2, AV.wipe, AV.wipeV, AV.wipe1, Blk.wipe, AV.hs, AV.hs.hsL, alOps, Con.start2, Con.pk, bodyQ, fini, resAV, resA, firstId, Sc.from, renEnv, renT, renV, renVs, renL, ren1, renBox, renOwn, okRen, clOf, actB, setRow, flatRows, flatD, noInv, shr_nil, shr_some, kStepF_some, shareL, AV.viewed, AV.viewed1, cHeldHeadS, Con.fn, tTab, cMarkText]
  try dsimp only
  refine ⟨⟨0, by simp⟩, fun i hi hp _ => ⟨fun hlt => ?_, fun hge => ?_⟩⟩
  · simp -implicitDefEqProofs [hlt, eHead, D.asStr, and_assoc]
    exact ⟨by omega, fun h => e1 i hlt (.inl h), fun h1 => ⟨by omega, by omega, fun _ _ => ⟨fun h => e1 i hlt (.inr h), fun h2 => ⟨by omega, by omega, fun _ _ => ⟨by omega, by omega, fun _ _ => ⟨i + 1, by omega, by omega, by omega, e2 i hlt hp h1 h2, by omega⟩⟩⟩⟩⟩⟩
  · have := e3 i hge hp
    omega

def cMarkRepo : Con := { A := RepoD × Int, X := Unit, n := 14, args := fun a => [.agg [.own 0 3 (eCommits a.1.commits), .own 1 2 (eHeads a.1.heads)], .int .i64 a.2], boxes := fun _ => [], pre := fun a => 0 ≤ a.2 ∧ kCs a.1.commits a.2 + 2 * a.1.heads.length ≤ 1152921504606846976, post := fun _ _ => True, res := fun a _ => .int .i64 (kCs a.1.commits a.2 + 2 * a.1.heads.length), fin := fun a _ => [(0, .own 127 3 true (eCommits (markCs a.1.commits a.2))), (1, .own 114 2 true (eHeads (markHs a.1.heads.length (kCs a.1.commits a.2))))], owns := fun a => [(0, 127, 3, eCommits a.1.commits), (1, 114, 2, eHeads a.1.heads)], lends := [0, 1], mv := true, sube := 127 }
set_option maxHeartbeats 4000000 in
theorem markRepo_has : Has Tryd.prog 58 cMarkRepo := by
  refine has_walk mixed tTab_ok (l := [(119, cMarkCommitS), (63, cMarkHeadS)]) (HasL.cons markCommitS_has (HasL.cons markHeadS_has HasL.nil)) [0, 1, 2, 4] ((fun a n (_ : Nat) => (fun _ => noInv) a n)) [] Tryd.func58 (by kernel_rfl) (code := _) (by unfold Tryd.f58; rfl) (by kernel_rfl) (by decide) (fun _ => ⟨(), trivial⟩) (by intro h; first | exact fun _ => rfl | cases h) (by kernel_rfl) ?_
  intro a ha
  obtain ⟨r, k⟩ := a
  obtain ⟨q1, q2⟩ : 0 ≤ k ∧ kCs r.commits k + 2 * r.heads.length ≤ 1152921504606846976 := ha
  simp -implicitDefEqProofs [vc_skip, extOf, vc_seq, vc_cond, vc_block, vc_exit, vc_ret, vc_region, vc_regionD, vc_loop, kSeq_normal, kSeq_ret, kSeq_exit, kBlock_normal, kBlock_ret, kBlock_exit, kLoop_normal, kLoop_ret, kLoop_exit, kCond_bool, kNorm_app, vcOps_nil, vcOps_cons, kOps_app, kStep_some, kStep_none, vcDL_nil, vcDL_cons, kOpsD_app, kStepD_true, kStepD_false, kStepC_some, kStepC_none, kMv_app, act3_store, act3_call, act3_bs, kAct_app, kSt2_app, stealSlots, stealL, stealOne, subIn, AV.stolen, act_store, act_bs, act_append, act_call, kSet_app, kSet2_app, kSetG_app, kSetG_app0, kStore_ptr, kStore_eptr, kCallW_some, kCallC_some, kCall_some, wk_T, wk_n, wk_keep, wk_inv, wk_act, wk_dr, wk_le, aCalm, wantC, dstOk, calm, aCallK, aCall3K, subOf, subRep, aCall2K, apnd, bsMove, putBox, putOwn, partAV, mvL, AV.mv, AV.base, AV.moved, AV.src, TI.flat, apSize, pickAV, St.val, St.cond, St.fn, St.next, St.set, St.trim, wipe_eq, wipeE_app, wipeM_app, pickEnv, get?, cGet, upd_app, withPuts, killAll, rm, freshP, Oper.hnd, Sc.st, ofConst, constOk, lenAV, elemLen, loadAV, ldL, ld1, fieldAddrAV, indexAddrAV, sliceAV, convAV, buildAV, fillAV, fieldAV, Out.of, binAV, AV.rows, AV.one, AV.cells, AV.deepOk, AV.toD, toDs, partRows, partRowsM, partsDeep, TK.zeroAV, TK.zeroD, byteOf, inR, Op.operands, Call.operands, passVs, passV, passL, pass1, passB, pasVs, pasV, pasL, pas1, ownsOk, okHs, okHs2, okFin, finOk2, rho, over, backRes, backAV, backAV1, backBlk, putBack, back2, back2_V, back2_1, m2, AV.wipe, AV.wipeV, AV.wipe1, Blk.wipe, AV.hs, AV.hs.hsL, alOps, Con.start2, Con.pk, bodyQ, fini, resAV, resA, firstId, Sc.from, renEnv, renT, renV, renVs, renL, ren1, renBox, renOwn, okRen, clOf, actB, setRow, flatRows, flatD, noInv, shr_nil, shr_some, kStepF_some, shareL, AV.viewed, AV.viewed1, cMarkRepo, Con.fn, tTab, cMarkCommitS, cMarkHeadS]
  try dsimp only
  exact ⟨_, _, ⟨rfl, rfl⟩, rfl, ⟨q1, by omega⟩, _, _, ⟨rfl, rfl⟩, rfl, ⟨by have := kCs_ge r.commits k; omega, by omega⟩, rfl, rfl, rfl⟩

end Vx
end Go.Proofs.YtlhkmgbmnbkaeaaDoor
/-
  Contracts: SeekAll, both sides; lists of numbers compared.
-/
namespace Go.Proofs.YtlhkmgbmnbkaeaaDoor
namespace Vx
open Go.RowKit
set_option maxRecDepth 8000

def allF (r : RepoD) (w : Str) (i : Nat) : List Int := ((List.range i).map fun j : Nat => (j : Int)).filter (hasC r w)
theorem allF_hit {r : RepoD} {w : Str} {i : Nat} (h : hasC r w i = true) : allF r w (i + 1) = allF r w i ++ [(i : Int)] := by simp -implicitDefEqProofs [allF, List.range_succ, h]
theorem allF_miss {r : RepoD} {w : Str} {i : Nat} (h : hasC r w i = false) : allF r w (i + 1) = allF r w i := by simp -implicitDefEqProofs [allF, List.range_succ, h]
theorem allF_len (r : RepoD) (w : Str) (i : Nat) : (allF r w i).length ≤ i := by
  have := List.length_filter_le (hasC r w) ((List.range i).map fun j : Nat => (j : Int))
  simpa [allF] using this
def allW (r : RepoD) (w : Str) : List Int := if repoI r && nameB w then allF r w r.commits.length else []
theorem tree_at {r : RepoD} {i : Nat} (h : i < r.commits.length) : treeAt r i = r.commits[i].tree := by
  unfold treeAt
  rw [List.getD_eq_getElem?_getD, Int.toNat_natCast, List.getElem?_eq_getElem h]; rfl

def cSeekAllI : Con := .fn 36 (RepoD × Str) (fun a => [vRepo a.1, .str a.2]) (fun a => rpPre a.1) (fun a => .own 8 1 (eInts (allW a.1 a.2))) (fun a => ownInts 8 (allW a.1 a.2))
set_option maxHeartbeats 4000000 in
theorem seekAllI_has : Has Tryd.prog 56 cSeekAllI := by
  refine has_walk mixed tTab_ok (l := [(118, cRepoOk), (70, cNameOk), (71, cSeek)]) (HasL.cons repoOk_has (HasL.cons nameOk_has (HasL.cons seek_has HasL.nil))) [0, 1, 2, 4, 5, 6, 7, 17, 18, 19] ((fun a n (_ : Nat) => (fun a _ => ⟨Nat, fun i => ⟨[(1, true, .str a.2), (2, true, .ptr 10 0), (4, true, .nil), (5, true, .own 9 1 (eInts (allF a.1 a.2 i))), (17, true, .sl true 3 (eCommits a.1.commits)), (18, true, .int .i64 a.1.commits.length), (19, true, .int .i64 i)], [(10, bRepo a.1), (9, .own 3 1 true (eInts (allF a.1 a.2 i)))]⟩, fun i => i ≤ a.1.commits.length, fun i => a.1.commits.length - i⟩) a n)) [] Tryd.func56 (by kernel_rfl) (code := _) (by unfold Tryd.f56; rfl) (by kernel_rfl) (by decide) (fun _ => ⟨(), trivial⟩) (by intro h; first | exact fun _ => rfl | cases h) (by kernel_rfl) ?_
  intro a ha
  obtain ⟨r, w⟩ := a
  replace ha : rpPre r := ha
  simp -implicitDefEqProofs [vc_skip, extOf, vc_seq, vc_cond, vc_block, vc_exit, vc_ret, vc_region, vc_regionD, vc_loop, kSeq_normal, kSeq_ret, kSeq_exit, kBlock_normal, kBlock_ret, kBlock_exit, kLoop_normal, kLoop_ret, kLoop_exit, kCond_bool, kNorm_app, vcOps_nil, vcOps_cons, kOps_app, kStep_some, kStep_none, vcDL_nil, vcDL_cons, kOpsD_app, kStepD_true, kStepD_false, kStepC_some, kStepC_none, kMv_app, act3_store, act3_call, act3_bs, kAct_app, kSt2_app, stealSlots, stealL, stealOne, subIn, AV.stolen, act_store, act_bs, act_append, act_call, kSet_app, kSet2_app, kSetG_app, kSetG_app0, kStore_ptr, kStore_eptr, kCallW_some, kCallC_some, kCall_some, wk_T, wk_n, wk_keep, wk_inv, wk_act, wk_dr, wk_le, aCalm, wantC, dstOk, calm, aCallK, aCall3K, subOf, subRep, aCall2K, apnd, bsMove, putBox, putOwn, partAV, mvL, AV.mv, AV.base, AV.moved, AV.src, TI.flat, apSize, pickAV, St.val, St.cond, St.fn, St.next, St.set, St.trim, wipe_eq, wipeE_app, wipeM_app, pickEnv, get?, cGet, upd_app, withPuts, killAll, rm, freshP, Oper.hnd, Sc.st, ofConst, constOk, lenAV, elemLen, loadAV, ldL, ld1, fieldAddrAV, indexAddrAV, sliceAV, convAV, buildAV, fillAV, fieldAV, Out.of, binAV, AV.rows, AV.one, AV.cells, AV.deepOk, AV.toD, toDs, partRows, partRowsM, partsDeep, TK.zeroAV, TK.zeroD, byteOf, inR, Op.operands, Call.operands, passVs, passV, passL, pass1, passB, pasVs, pasV, pasL, pas1, ownsOk, okHs, okHs2, okFin, finOk2, rho, over, backRes, backAV, backAV1, backBlk, putBack, back2, back2_V, back2_1, m2, AV.wipe, AV.wipeV, AV.wipe1, Blk.wipe, AV.hs, AV.hs.hsL, alOps, Con.start2, Con.pk, bodyQ, fini, resAV, resA, firstId, Sc.from, renEnv, renT, renV, renVs, renL, ren1, renBox, renOwn, okRen, clOf, actB, setRow, flatRows, flatD, noInv, shr_nil, shr_some, kStepF_some, shareL, AV.viewed, AV.viewed1, cSeekAllI, Con.fn, tTab, cRepoOk, cNameOk, cSeek, bRepo_def]
  try dsimp only
  refine ⟨ha, fun h => by unfold allW; rw [h]; rfl, fun hr => ⟨fun h => by unfold allW; rw [h]; simp, fun hw _ => ⟨⟨0, ⟨⟨rfl, rfl⟩, rfl⟩, Nat.zero_le _⟩, fun i hi => ⟨fun hlt => ?_, fun hge => ?_⟩⟩⟩⟩
  · have hT := (repo_use hr hlt).2.2
    have ht8 := tree_lines hT
    have hc := seek_hit_eq hT hw
    have hn := repo_n hr
    have hl := allF_len r w i
    have hwl : 1 ≤ List.length w ∧ List.length w ≤ 6 := by
      simp only [nameB, Bool.and_eq_true, decide_eq_true_eq] at hw
      exact hw.1
    have hta := tree_at hlt
    simp -implicitDefEqProofs [hlt, eCommit, D.asRows, D.asStr, and_assoc]
    refine ⟨by omega, ht8.2, by omega, by omega, fun _ => ⟨fun hp => ?_, fun hz => ?_⟩⟩
    · have hh : hasC r w i = true := by
        unfold hasC
        rw [hta, ← hc]
        cases hq : seekL (hitI w) r.commits[i].tree with
        | nil => rw [hq] at hp; simp at hp
        | cons a b => rfl
      have e := allF_hit hh
      exact ⟨by omega, by omega, by omega, by omega, fun _ _ => ⟨i + 1, by rw [e]; simp -implicitDefEqProofs [eInts, eInt], by omega, by rw [e]; simp -implicitDefEqProofs [eInts, eInt], by omega, by omega⟩⟩
    · have hh : hasC r w i = false := by
        unfold hasC
        rw [hta, ← hc, hz]; rfl
      have e := allF_miss hh
      exact ⟨by omega, by omega, fun _ _ => ⟨i + 1, e, by omega, e.symm, by omega, by omega⟩⟩
  · have : allW r w = allF r w i := by
      unfold allW
      rw [hr, hw, show i = r.commits.length by omega]; rfl
    exact ⟨this, this.symm⟩

def cSeekAllS : Con := .fn 38 (RepoD × Str) (fun a => [vRepo a.1, .str a.2]) (fun a => rpPre a.1) (fun a => .own 8 1 (eInts (allW a.1 a.2))) (fun a => ownInts 8 (allW a.1 a.2))
set_option maxHeartbeats 4000000 in
theorem seekAllS_has : Has Tryd.prog 55 cSeekAllS := by
  refine has_walk mixed tTab_ok (l := [(96, cL7Ok), (73, cL4Name), (17, cSeekTreeS)]) (HasL.cons l7Ok_has (HasL.cons l4Name_has (HasL.cons seekTreeS_has HasL.nil))) [0, 1, 2, 4, 5, 6] ((fun a n (_ : Nat) => (fun a _ => ⟨Nat, fun i => ⟨[(1, true, .str a.2), (2, true, .ptr 10 0), (4, true, .nil), (5, true, .own 9 1 (eInts (allF a.1 a.2 i))), (6, true, .int .i64 i)], [(10, bRepo a.1), (9, .own 3 1 true (eInts (allF a.1 a.2 i)))]⟩, fun i => i ≤ a.1.commits.length, fun i => a.1.commits.length - i⟩) a n)) [] Tryd.func55 (by kernel_rfl) (code := _) (by unfold Tryd.f55; rfl) (by kernel_rfl) (by decide) (fun _ => ⟨(), trivial⟩) (by intro h; first | exact fun _ => rfl | cases h) (by kernel_rfl) ?_
  intro a ha
  obtain ⟨r, w⟩ := a
  replace ha : rpPre r := ha
  simp -implicitDefEqProofs [vc_skip, extOf, vc_seq, vc_cond, vc_block, vc_exit, vc_ret, vc_region, vc_regionD, vc_loop, kSeq_normal, kSeq_ret, kSeq_exit, kBlock_normal, kBlock_ret, kBlock_exit, kLoop_normal, kLoop_ret, kLoop_exit, kCond_bool, kNorm_app, vcOps_nil, vcOps_cons, kOps_app, kStep_some, kStep_none, vcDL_nil, vcDL_cons, kOpsD_app, kStepD_true, kStepD_false, kStepC_some, kStepC_none, kMv_app, act3_store, act3_call, act3_bs, kAct_app, kSt2_app, stealSlots, stealL, stealOne, subIn, AV.stolen, act_store, act_bs, act_append, act_call, kSet_app, kSet2_app, kSetG_app, kSetG_app0, kStore_ptr, kStore_eptr, kCallW_some, kCallC_some, kCall_some, wk_T, wk_n, wk_keep, wk_inv, wk_act, wk_dr, wk_le, aCalm, wantC, dstOk, calm, aCallK, aCall3K, subOf, subRep, aCall2K, apnd, bsMove, putBox, putOwn, partAV, mvL, AV.mv, AV.base, AV.moved, AV.src, TI.flat, apSize, pickAV, St.val, St.cond, St.fn, St.next, St.set, St.trim, wipe_eq, wipeE_app, wipeM_app, pickEnv, get?, cGet, upd_app, withPuts, killAll, rm, freshP, Oper.hnd, Sc.st, ofConst, constOk, lenAV, elemLen, loadAV, ldL, ld1, fieldAddrAV, indexAddrAV, sliceAV, convAV, buildAV, fillAV, fieldAV, Out.of, binAV, AV.rows, AV.one, AV.cells, AV.deepOk, AV.toD, toDs, partRows, partRowsM, partsDeep, TK.zeroAV, TK.zeroD, byteOf, inR, Op.operands, Call.operands, passVs, passV, passL, pass1, passB, pasVs, pasV, pasL, pas1, ownsOk, okHs, okHs2, okFin, finOk2, rho, over, backRes, backAV, backAV1, backBlk, putBack, back2, back2_V, back2_1, m2, AV.wipe, AV.wipeV, AV.wipe1, Blk.wipe, AV.hs, AV.hs.hsL, alOps, Con.start2, Con.pk, bodyQ, fini, resAV, resA, firstId, Sc.from, renEnv, renT, renV, renVs, renL, ren1, renBox, renOwn, okRen, clOf, actB, setRow, flatRows, flatD, noInv, shr_nil, shr_some, kStepF_some, shareL, AV.viewed, AV.viewed1, cSeekAllS, Con.fn, tTab, cL7Ok, cL4Name, cSeekTreeS, bRepo_def]
  try dsimp only
  refine ⟨ha.1, fun h => by unfold allW; rw [repo_eq, h]; rfl, fun hs => ⟨fun h => by unfold allW; rw [h]; simp, fun hw => ⟨⟨0, ⟨⟨rfl, rfl⟩, rfl⟩, Nat.zero_le _⟩, fun i hi _ => ⟨fun hlt => ?_, fun hge => ?_⟩⟩⟩⟩
  · have hr : repoI r = true := by rw [repo_eq]; exact hs
    have hT := (repo_use hr hlt).2.2
    have ht8 := tree_lines hT
    have hn := repo_n hr
    have hl := allF_len r w i
    have hta := tree_at hlt
    have hts : treeSeekS r.commits[i].tree w = seekL (hitS w) r.commits[i].tree := by
      unfold treeSeekS; rw [← tree_eq, hT, hw]; rfl
    simp -implicitDefEqProofs [hlt, eCommit, D.asRows, D.asStr, and_assoc, hts]
    refine ⟨ht8.2, fun _ => ⟨fun hp => ?_, fun hz => ?_⟩⟩
    · have hh : hasC r w i = true := by
        unfold hasC
        rw [hta]
        cases hq : seekL (hitS w) r.commits[i].tree with
        | nil => rw [hq] at hp; simp at hp
        | cons a b => rfl
      have e := allF_hit hh
      exact ⟨by omega, by omega, by omega, by omega, fun _ _ => ⟨i + 1, by rw [e]; simp -implicitDefEqProofs [eInts, eInt], by omega, by rw [e]; simp -implicitDefEqProofs [eInts, eInt], by omega, by omega⟩⟩
    · have hh : hasC r w i = false := by
        unfold hasC
        rw [hta, hz]; rfl
      have e := allF_miss hh
      exact ⟨by omega, by omega, fun _ _ => ⟨i + 1, e, by omega, e.symm, by omega, by omega⟩⟩
  · have : allW r w = allF r w i := by
      unfold allW
      rw [repo_eq, hs, hw, show i = r.commits.length by omega]; rfl
    exact ⟨this, this.symm⟩

end Vx
end Go.Proofs.YtlhkmgbmnbkaeaaDoor
/-
  What sizes bound: the marks of a repository.
-/
namespace Go.Proofs.YtlhkmgbmnbkaeaaDoor
namespace Vx
open Go.RowKit

theorem szL_pos : ∀ {a : List Str} {l : Int}, 0 ≤ l → 0 ≤ szL a l → szL a l ≤ l
  | [], l, _, _ => Int.le_refl l
  | s :: r, l, h, h2 => by
    simp only [szL] at h2 ⊢
    split at h2
    · omega
    · rename_i h3
      rw [if_neg h3]
      have := szL_pos (a := r) (l := l - s.length) (by omega) h2
      omega
theorem szStrs_bud {a : List Str} {l : Int} (h : 0 ≤ szStrs a l) : szStrs a l + a.length ≤ l := by
  unfold szStrs at h ⊢
  split at h
  · omega
  · rename_i h3
    rw [if_neg h3]
    have := szL_pos (by omega) h
    omega
theorem szF_bud {f : FileD} {l : Int} (h : 0 ≤ szF f l) : szF f l + f.text.length ≤ l := by
  unfold szF at h ⊢
  split at h
  · omega
  · rename_i h3
    rw [if_neg h3]
    split at h
    · omega
    · rename_i h4
      rw [if_neg h4]
      have := szStrs_bud h
      omega
theorem szFL_bud : ∀ {a : List FileD} {l : Int}, 0 ≤ szFL a l → szFL a l + nLines a ≤ l
  | [], l, _ => by simp -implicitDefEqProofs [szFL, nLines]
  | f :: r, l, h => by
    simp only [szFL] at h ⊢
    split at h
    · omega
    · rename_i h3
      rw [if_neg h3]
      have h1 := szFL_bud (a := r) (l := szF f l) h
      have h2 := szF_bud (f := f) (l := l) (by omega)
      have : nLines (f :: r) = f.text.length + nLines r := by simp -implicitDefEqProofs [nLines]
      omega
theorem szFiles_bud {a : List FileD} {l : Int} (h : 0 ≤ szFiles a l) : szFiles a l + a.length + nLines a ≤ l := by
  unfold szFiles at h ⊢
  split at h
  · omega
  · rename_i h3
    rw [if_neg h3]
    have := szFL_bud h
    omega
theorem szCm_bud {c : CommitD} {l : Int} (h : 0 ≤ szCm c l) (k : Int) : szCm c l + (kC c k - k) ≤ l + 1 := by
  have hk : kC c k = k + c.parents.length + 1 + c.tree.length + nLines c.tree := rfl
  unfold szCm at h ⊢
  split at h
  · omega
  · rename_i h3
    rw [if_neg h3]
    split at h
    · omega
    · rename_i h4
      rw [if_neg h4]
      split at h
      · omega
      · rename_i h5
        rw [if_neg h5]
        have h6 := szFiles_bud h
        have h7 : szI c.parents l = l - c.parents.length := by
          unfold szI at h3 ⊢
          split
          · rename_i h8; rw [if_pos h8] at h3; omega
          · rfl
        omega
theorem szCL_bud : ∀ {a : List CommitD} {l : Int} (_ : 0 ≤ szCL a l) (k : Int), szCL a l + (kCs a k - k) ≤ l + a.length
  | [], l, _, k => by simp -implicitDefEqProofs [szCL, kCs]
  | c :: r, l, h, k => by
    simp only [szCL] at h ⊢
    split at h
    · omega
    · rename_i h3
      rw [if_neg h3]
      have h1 := szCL_bud (a := r) (l := szCm c l) h (kC c k)
      have h2 := szCm_bud (c := c) (l := l) (by omega) k
      simp only [kCs, List.length_cons]
      omega
theorem szCommits_bud {a : List CommitD} {l : Int} (h : 0 ≤ szCommits a l) (k : Int) : szCommits a l + (kCs a k - k) ≤ l := by
  unfold szCommits at h ⊢
  split at h
  · omega
  · rename_i h3
    rw [if_neg h3]
    have := szCL_bud h k
    omega
theorem szRp_bud {r : RepoD} {l : Int} (h : 0 ≤ szRp r l) (k : Int) : k ≤ kCs r.commits k + 2 * r.heads.length ∧ kCs r.commits k + 2 * r.heads.length ≤ k + 2 * l := by
  have hk := kCs_ge r.commits k
  unfold szRp at h
  split at h
  · omega
  · rename_i h3
    split at h
    · omega
    · rename_i h4
      have h1 := szCommits_bud (a := r.commits) (l := l) (by omega) k
      have h2 := (szHeads_ok h).1
      omega

end Vx
end Go.Proofs.YtlhkmgbmnbkaeaaDoor
/-
  Contracts: the law FnExactSeekAll.
-/
namespace Go.Proofs.YtlhkmgbmnbkaeaaDoor
namespace Vx
open Go.RowKit
set_option maxRecDepth 8000

theorem allW_len (r : RepoD) (w : Str) : (allW r w).length ≤ 16 := by
  unfold allW
  split
  · rename_i h
    simp only [Bool.and_eq_true] at h
    have := repo_n h.1
    have := allF_len r w r.commits.length
    omega
  · simp

def cFnExactSeekAll : Con := .fn 77 (RepoD × Str) (fun a => [lRepo a.1, .str a.2]) (fun _ => True) (fun _ => .bool true) (fun _ => [])
set_option maxHeartbeats 4000000 in
theorem fnExactSeekAll_has : Has Tryd.prog 11 cFnExactSeekAll := by
  refine has_walk mixed tTab_ok (l := [(42, cSzRepo), (45, cToRepo), (55, cSeekAllS), (56, cSeekAllI), (57, cEqIntS), (48, cEqRepo), (58, cMarkRepo), (59, cMarkIntS), (60, cHeldIntS)]) (HasL.cons szRepo_has (HasL.cons toRepo_has (HasL.cons seekAllS_has (HasL.cons seekAllI_has (HasL.cons eqIntS_has (HasL.cons eqRepo_has (HasL.cons markRepo_has (HasL.cons markIntS_has (HasL.cons heldIntS_has HasL.nil))))))))) [0, 1, 2, 4, 5, 6, 7, 8, 9, 10, 11, 12] ((fun a n (_ : Nat) => (fun _ => noInv) a n)) [] Tryd.func11 (by kernel_rfl) (code := _) (by unfold Tryd.f11; rfl) (by kernel_rfl) (by decide) (fun _ => ⟨(), trivial⟩) (by intro h; first | exact fun _ => rfl | cases h) (by kernel_rfl) ?_
  intro a _
  obtain ⟨r, w⟩ := a
  have h1 : 0 ≤ szRp r 1048576 → rpSz r := fun h => (szRp_use h).1
  have h2 : 0 ≤ szRp r 1048576 → rpPre r := fun h => (szRp_use h).2
  have h3 := allW_len r w
  have h4 : 0 ≤ szRp r 1048576 → _ := fun h => szRp_bud h 1
  have hm := heldI_mark
  simp -implicitDefEqProofs [vc_skip, extOf, vc_seq, vc_cond, vc_block, vc_exit, vc_ret, vc_region, vc_regionD, vc_loop, kSeq_normal, kSeq_ret, kSeq_exit, kBlock_normal, kBlock_ret, kBlock_exit, kLoop_normal, kLoop_ret, kLoop_exit, kCond_bool, kNorm_app, vcOps_nil, vcOps_cons, kOps_app, kStep_some, kStep_none, vcDL_nil, vcDL_cons, kOpsD_app, kStepD_true, kStepD_false, kStepC_some, kStepC_none, kMv_app, act3_store, act3_call, act3_bs, kAct_app, kSt2_app, stealSlots, stealL, stealOne, subIn, AV.stolen, act_store, act_bs, act_append, act_call, kSet_app, kSet2_app, kSetG_app, kSetG_app0, kStore_ptr, kStore_eptr, kCallW_some, kCallC_some, kCall_some, wk_T, wk_n, wk_keep, wk_inv, wk_act, wk_dr, wk_le, aCalm, wantC, dstOk, calm, aCallK, aCall3K, subOf, subRep, aCall2K, apnd, bsMove, putBox, putOwn, partAV, mvL, AV.mv, AV.base, AV.moved, AV.src, TI.flat, apSize, pickAV, St.val, St.cond, St.fn, St.next, St.set, St.trim, wipe_eq, wipeE_app, wipeM_app, pickEnv, get?, cGet, upd_app, withPuts, killAll, rm, freshP, Oper.hnd, Sc.st, ofConst, constOk, lenAV, elemLen, loadAV, ldL, ld1, fieldAddrAV, indexAddrAV, sliceAV, convAV, buildAV, fillAV, fieldAV, Out.of, binAV, AV.rows, AV.one, AV.cells, AV.deepOk, AV.toD, toDs, partRows, partRowsM, partsDeep, TK.zeroAV, TK.zeroD, byteOf, inR, Op.operands, Call.operands, passVs, passV, passL, pass1, passB, pasVs, pasV, pasL, pas1, ownsOk, okHs, okHs2, okFin, finOk2, rho, over, backRes, backAV, backAV1, backBlk, putBack, back2, back2_V, back2_1, m2, AV.wipe, AV.wipeV, AV.wipe1, Blk.wipe, AV.hs, AV.hs.hsL, alOps, Con.start2, Con.pk, bodyQ, fini, resAV, resA, firstId, Sc.from, renEnv, renT, renV, renVs, renL, ren1, renBox, renOwn, okRen, clOf, actB, setRow, flatRows, flatD, noInv, shr_nil, shr_some, kStepF_some, shareL, AV.viewed, AV.viewed1, cFnExactSeekAll, cSzRepo, cToRepo, cSeekAllS, cSeekAllI, cEqIntS, cEqRepo, cMarkRepo, cMarkIntS, cHeldIntS, Con.fn, tTab]
  try dsimp only
  refine fun _ _ => ⟨r, _, ⟨⟨rfl, rfl⟩, rfl⟩, ⟨by omega, by omega⟩, fun h => ?_⟩
  have q1 := h1 h
  have q2 := h2 h
  have q4 := h4 h
  refine ⟨q1, r, w, ⟨⟨rfl, rfl⟩, rfl⟩, q2, q1, r, w, ⟨⟨rfl, rfl⟩, rfl⟩, q2, _, _, ⟨rfl, rfl⟩, rfl, fun _ => ⟨q1, r, r, ⟨⟨rfl, rfl⟩, rfl, rfl⟩, rfl, fun _ => ⟨r, 1, ⟨⟨rfl, rfl⟩, rfl⟩, ⟨rfl, rfl⟩, ⟨by omega, by omega⟩, by omega, fun _ => ?_⟩⟩⟩
  have hm1 : heldI (markI (allW r w).length 1) 1 = 1 + (allW r w).length := hm _ _
  have hml : (markI (allW r w).length 1).length = (allW r w).length := markI_len _ _
  exact ⟨_, _, ⟨rfl, rfl⟩, rfl, fun _ => ⟨_, _, ⟨rfl, rfl⟩, rfl, ⟨by omega, by omega⟩, _, _, ⟨rfl, rfl⟩, ⟨by omega, by omega⟩, by omega, fun _ => ⟨hm1, fun _ => ⟨q1, r, w, ⟨⟨rfl, rfl⟩, rfl⟩, q2, _, _, ⟨rfl, rfl⟩, rfl, fun _ => ⟨_, _, ⟨rfl, rfl⟩, ⟨by omega, by omega⟩, by omega, fun _ => hm1⟩⟩⟩⟩⟩

end Vx
end Go.Proofs.YtlhkmgbmnbkaeaaDoor
/-
  Arguments opened; what all rows share.
-/
namespace Go.Proofs.YtlhkmgbmnbkaeaaDoor
open Go.ChangeShapes Go.WideShapes Go.ChangeAt Go.RowKit
namespace Vx

theorem own_knob : ownKnob Tryd.prog.godebug = none := by kernel_rfl
theorem laidOut : laidOutB Tryd.prog = true := by kernel_rfl
theorem tTab_closed : tabOk tTab = true := by decide

theorem shp_strs {T : Nat → Option TI} (hs : ∀ te, T 9 = some te → te.cells = [.str]) {ds : List D} (h : Shp T [.sl 9 1] ds) : ∃ l, ds = [.sl 9 1 (eStrs l)] := by
  cases h with
  | @sl e k te rows ks ds h1 h2 h3 =>
    cases h3
    rw [hs _ h1] at h2
    obtain ⟨l, rfl, _⟩ := rows_map (f := eStr) (p := fun _ => True) (rows := rows) (fun r hr => by
      have := h2 r hr
      cases this with
      | str q1 q2 => cases q2; exact ⟨_, rfl, trivial⟩)
    exact ⟨l, rfl⟩
theorem shp_files {T : Nat → Option TI} (hs : ∀ te, T 9 = some te → te.cells = [.str]) (hf : ∀ te, T 95 = some te → te.cells = [.str, .sl 9 1]) {ds : List D} (h : Shp T [.sl 95 2] ds) :
    ∃ l, ds = [.sl 95 2 (eFiles l)] := by
  cases h with
  | @sl e k te rows ks ds h1 h2 h3 =>
    cases h3
    rw [hf _ h1] at h2
    obtain ⟨l, rfl, _⟩ := rows_map (f := eFile) (p := fun _ => True) (rows := rows) (fun r hr => by
      have := h2 r hr
      cases this with
      | str q1 q2 =>
        obtain ⟨l, rfl⟩ := shp_strs hs q2
        exact ⟨⟨_, l⟩, rfl, trivial⟩)
    exact ⟨l, rfl⟩

section
variable {H : Type} {enc : TypeId × Value → H} {W : World} {sp : Nat → Bool} {held : Bool} {r : Reach} {base : Nat}

set_option maxRecDepth 100000 in
theorem open_files {v : Value} {d : DataW H} {p : List MemPlace} (hu : Tryd.prog.underlying 35 = some (.slice 95)) (hv : Value.okWide Tryd.prog W r base 35 v)
    (h : DataW.Trod enc Tryd.prog W 0 sp held 35 v d p) : ∃ l f, RdL false W [.sl 95 2 (eFiles l)] [v] f := by
  obtain ⟨a, n, c, rfl⟩ := okWide_slice hu hv
  obtain ⟨fuel, hf⟩ := h
  obtain ⟨ds, f, h1, h2⟩ := rd_trod tTab_ok tTab_closed fuel (t := 35) rfl hf
  obtain ⟨l, rfl⟩ := shp_files (fun te ht => by cases ht; rfl) (fun te ht => by cases ht; rfl) h2
  exact ⟨l, f, h1⟩
set_option maxRecDepth 100000 in
theorem open_strs {v : Value} {d : DataW H} {p : List MemPlace} (hu : Tryd.prog.underlying 26 = some (.slice 9)) (hv : Value.okWide Tryd.prog W r base 26 v)
    (h : DataW.Trod enc Tryd.prog W 0 sp held 26 v d p) : ∃ l f, RdL false W [.sl 9 1 (eStrs l)] [v] f := by
  obtain ⟨a, n, c, rfl⟩ := okWide_slice hu hv
  obtain ⟨fuel, hf⟩ := h
  obtain ⟨ds, f, h1, h2⟩ := rd_trod tTab_ok tTab_closed fuel (t := 26) rfl hf
  obtain ⟨l, rfl⟩ := shp_strs (fun te ht => by cases ht; rfl) h2
  exact ⟨l, f, h1⟩
set_option maxRecDepth 100000 in
theorem open_str {v : Value} {d : DataW H} {p : List MemPlace} (hu : Tryd.prog.underlying 9 = some .string) (hv : Value.okWide Tryd.prog W r base 9 v)
    (h : DataW.Trod enc Tryd.prog W 0 sp held 9 v d p) : ∃ l : Str, v = .string ⟨l.toArray⟩ ∧ l.length ≤ maxLen := by
  obtain ⟨s, rfl, _, _, hs⟩ := Go.ChangeMaps.open_string hu hv h
  exact ⟨s.data.toList, by simp, by simpa using hs⟩
end

end Vx
end Go.Proofs.YtlhkmgbmnbkaeaaDoor
/-
  Arguments opened: repositories, branches.
-/
namespace Go.Proofs.YtlhkmgbmnbkaeaaDoor
open Go.ChangeShapes Go.WideShapes Go.ChangeAt Go.RowKit
namespace Vx

def isStruct : Option TypeDesc → Bool
  | some (.struct _) => true
  | _ => false

theorem shp_ints {T : Nat → Option TI} (hs : ∀ te, T 3 = some te → te.cells = [.int .i64]) {ds0 : List TK} {ds : List D} (h : Shp T (.sl 3 1 :: ds0) ds) : ∃ l r, ds = .sl 3 1 (eInts l) :: r ∧ Shp T ds0 r := by
  cases h with
  | @sl e k te rows ks ds h1 h2 h3 =>
    rw [hs _ h1] at h2
    obtain ⟨l, rfl, _⟩ := rows_map (f := eInt) (p := fun _ => True) (rows := rows) (fun r hr => by
      have := h2 r hr
      cases this with
      | int q1 q2 => cases q2; exact ⟨_, rfl, trivial⟩)
    exact ⟨l, _, rfl, h3⟩
theorem shp_heads {T : Nat → Option TI} (hs : ∀ te, T 109 = some te → te.cells = [.str, .int .i64]) {ds : List D} (h : Shp T [.sl 109 2] ds) : ∃ l, ds = [.sl 109 2 (eHeads l)] := by
  cases h with
  | @sl e k te rows ks ds h1 h2 h3 =>
    cases h3
    rw [hs _ h1] at h2
    obtain ⟨l, rfl, _⟩ := rows_map (f := eHead) (p := fun _ => True) (rows := rows) (fun r hr => by
      have := h2 r hr
      cases this with
      | str q1 q2 =>
        cases q2 with
        | int q3 q4 => cases q4; exact ⟨⟨_, _⟩, rfl, trivial⟩)
    exact ⟨l, rfl⟩
theorem shp_commits {T : Nat → Option TI} (hi : ∀ te, T 3 = some te → te.cells = [.int .i64]) (hs : ∀ te, T 9 = some te → te.cells = [.str]) (hf : ∀ te, T 95 = some te → te.cells = [.str, .sl 9 1])
    (hc : ∀ te, T 151 = some te → te.cells = [.sl 3 1, .str, .sl 95 2]) {ds0 : List TK} {ds : List D} (h : Shp T (.sl 151 3 :: ds0) ds) : ∃ l r, ds = .sl 151 3 (lCommits l) :: r ∧ Shp T ds0 r := by
  cases h with
  | @sl e k te rows ks ds h1 h2 h3 =>
    rw [hc _ h1] at h2
    obtain ⟨l, rfl, _⟩ := rows_map (f := lCommit) (p := fun _ => True) (rows := rows) (fun r hr => by
      obtain ⟨ps, r1, rfl, q⟩ := shp_ints hi (h2 r hr)
      cases q with
      | str q1 q2 =>
        obtain ⟨l, rfl⟩ := shp_files hs hf q2
        exact ⟨⟨_, _, l⟩, rfl, trivial⟩)
    exact ⟨l, _, rfl, h3⟩

theorem rdL_cut {q : Bool} {w : World} {d : D} {ds : List D} {vs : List Value} {f : List (Nat × Nat)} (h : RdL q w (d :: ds) vs f) : ∃ v vs' f1 f2, vs = v :: vs' ∧ RdL q w [d] [v] f1 ∧ RdL q w ds vs' f2 := by
  cases h with
  | int h => exact ⟨_, _, _, _, rfl, .int .nil, h⟩
  | bool h => exact ⟨_, _, _, _, rfl, .bool .nil, h⟩
  | str q h => exact ⟨_, _, _, _, rfl, .str q .nil, h⟩
  | raw q h => exact ⟨_, _, _, _, rfl, .raw q .nil, h⟩
  | junk q h => exact ⟨_, _, _, _, rfl, .junk q .nil, h⟩
  | sl0 q1 q2 h => exact ⟨_, _, _, _, rfl, .sl0 q1 q2 .nil, h⟩
  | sl q1 q2 q3 q4 q5 q6 q7 q8 q9 h => exact ⟨_, _, _, _, rfl, .sl q1 q2 q3 q4 q5 q6 q7 q8 q9 .nil, h⟩
theorem rdL_one {q : Bool} {w : World} {e k : Nat} {rows : List (List D)} {v : Value} {f : List (Nat × Nat)} (h : RdL q w [.sl e k rows] [v] f) : v.oneCell' = true := by
  cases h <;> rfl

section
variable {H : Type} {enc : TypeId × Value → H} {W : World} {sp : Nat → Bool} {held : Bool} {r : Reach} {base : Nat}

set_option maxRecDepth 100000 in
theorem open_heads {v : Value} {d : DataW H} {p : List MemPlace} (hu : Tryd.prog.underlying 55 = some (.slice 109)) (hv : Value.okWide Tryd.prog W r base 55 v)
    (h : DataW.Trod enc Tryd.prog W 0 sp held 55 v d p) : ∃ l f, RdL false W [.sl 109 2 (eHeads l)] [v] f := by
  obtain ⟨a, n, c, rfl⟩ := okWide_slice hu hv
  obtain ⟨fuel, hf⟩ := h
  obtain ⟨ds, f, h1, h2⟩ := rd_trod tTab_ok tTab_closed fuel (t := 55) rfl hf
  obtain ⟨l, rfl⟩ := shp_heads (fun te ht => by cases ht; rfl) h2
  exact ⟨l, f, h1⟩
set_option maxRecDepth 100000 in
theorem open_repo {v : Value} {d : DataW H} {p : List MemPlace} (hu : isStruct (Tryd.prog.underlying 57) = true) (hv : Value.okWide Tryd.prog W r base 57 v)
    (h : DataW.Trod enc Tryd.prog W 0 sp held 57 v d p) : ∃ (l : RepoD) (us : List Value) (f : List (Nat × Nat)), v = .agg us.toArray ∧ (∀ u ∈ us, u.oneCell' = true) ∧ RdArgs W [.sl true 3 (lCommits l.commits), .sl true 2 (eHeads l.heads)] us f := by
  have hu' : ∃ fs, Tryd.prog.underlying 57 = some (.struct fs) := by
    revert hu
    generalize Tryd.prog.underlying 57 = o
    intro hu
    unfold isStruct at hu
    split at hu
    · exact ⟨_, rfl⟩
    · cases hu
  obtain ⟨fs, hu'⟩ := hu'
  obtain ⟨cs, rfl, _⟩ := okWide_struct hu' hv
  obtain ⟨fuel, hf⟩ := h
  obtain ⟨ds, f, h1, h2⟩ := rd_trod tTab_ok tTab_closed fuel (t := 57) rfl hf
  obtain ⟨cl, r1, rfl, h3⟩ := shp_commits (fun te ht => by cases ht; rfl) (fun te ht => by cases ht; rfl) (fun te ht => by cases ht; rfl) (fun te ht => by cases ht; rfl) h2
  obtain ⟨hl, rfl⟩ := shp_heads (fun te ht => by cases ht; rfl) h3
  obtain ⟨v1, vs, f1, f2, e1, k1, k2⟩ := rdL_cut h1
  obtain ⟨v2, vs2, f3, f4, rfl, k3, k4⟩ := rdL_cut k2
  cases k4
  have e2 : cs = #[v1, v2] := by
    apply Array.ext'
    exact e1
  subst e2
  refine ⟨⟨cl, hl⟩, [v1, v2], _, rfl, ?_, .sl k1 (.sl k3 .nil)⟩
  intro u hu
  simp only [List.mem_cons, List.not_mem_nil, or_false] at hu
  rcases hu with rfl | rfl
  · exact rdL_one k1
  · exact rdL_one k3
end

end Vx
end Go.Proofs.YtlhkmgbmnbkaeaaDoor
