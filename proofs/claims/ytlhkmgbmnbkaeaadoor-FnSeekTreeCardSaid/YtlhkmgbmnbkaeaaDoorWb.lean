/-
  Joined by program (merge.py): Ea, Eb, Ec, Ed, Ef, Eg, Eh, RowK, RowY. It shows what the single texts show; conditions: none but those of each lemma.
-/
import Derived.Test.YtlhkmgbmnbkaeaaDoorWa
import Derived.Test.YtlhkmgbmnbkaeaaDoorRows
import Derived.Test.YtlhkmgbmnbkaeaaDoorCards
import Derived.Test.YtlhkmgbmnbkaeaaDoorTie
import Derived.ProofKit
import Derived.OpenShut
import Derived.ShutString
import Derived.Lay
import Derived.LaidMore
import Derived.SevenTiedAt
set_option linter.unusedVariables false
set_option linter.unusedSimpArgs false
set_option linter.unusedSectionVars false
/-
  Contracts: draws (l30Open, pick, of, one).
-/
namespace Go.Proofs.YtlhkmgbmnbkaeaaDoor
namespace Vx
open Go.RowKit
set_option maxRecDepth 8000

def eByte (b : UInt8) : List D := [.int .u8 b.toNat]
def eBytes (s : Str) : List (List D) := s.map eByte
@[simp] theorem eBytes_length (l : Str) : (eBytes l).length = l.length := by simp -implicitDefEqProofs [eBytes]
@[simp] theorem eBytes_get (l : Str) (i : Nat) : (eBytes l)[i]? = l[i]?.map eByte := by simp -implicitDefEqProofs [eBytes]
theorem eBytes_take (l : Str) (i : Nat) : (eBytes l).take i = eBytes (l.take i) := by simp -implicitDefEqProofs [eBytes]
@[simp] theorem eByte_inj (a b : UInt8) : (eByte a = eByte b) = (a = b) := by
  simp only [eByte, List.cons.injEq, D.int.injEq, true_and, and_true, eq_iff_iff]
  constructor
  · intro h; exact UInt8.toNat_inj.1 (by omega)
  · rintro rfl; rfl
@[simp] theorem eBytes_inj (a b : Str) : (eBytes a = eBytes b) = (a = b) := by
  apply propext
  constructor
  · intro h
    exact List.map_inj_right (fun x y h => by simpa using h) |>.1 h
  · rintro rfl; rfl
@[simp] theorem eBytes_all (l : Str) (f : List D → Bool) : (eBytes l).all f = l.all fun b => f (eByte b) := by simp -implicitDefEqProofs [eBytes, Function.comp_def]
theorem all_true (l : Str) : (l.all fun _ => true) = true := by simp
abbrev rdBox (s : Str) (p : Int) : Blk := .box 134 [.sl true 1 (eBytes s), .int .i64 p]

def cL30Open : Con := .fn 11 Str (fun s => [.sl true 1 (eBytes s)]) (fun _ => True) (fun _ => .ptr 8 0) (fun s => [(8, rdBox (s.take 2000) 0)])
set_option maxHeartbeats 4000000 in
theorem l30Open_has : Has Tryd.prog 67 cL30Open := by
  refine has_walk mixed tTab_ok (l := []) HasL.nil [0, 2] ((fun a n (_ : Nat) => (fun _ => noInv) a n)) [] Tryd.func67 (by kernel_rfl) (code := _) (by unfold Tryd.f67; rfl) (by kernel_rfl) (by decide) (fun _ => ⟨(), trivial⟩) (by intro h; first | exact fun _ => rfl | cases h) (by kernel_rfl) ?_
  intro (s : Str) _
  simp -implicitDefEqProofs [vc_skip, extOf, vc_seq, vc_cond, vc_block, vc_exit, vc_ret, vc_region, vc_regionD, vc_loop, kSeq_normal, kSeq_ret, kSeq_exit, kBlock_normal, kBlock_ret, kBlock_exit, kLoop_normal, kLoop_ret, kLoop_exit, kCond_bool, kNorm_app, vcOps_nil, vcOps_cons, kOps_app, kStep_some, kStep_none, vcDL_nil, vcDL_cons, kOpsD_app, kStepD_true, kStepD_false, kStepC_some, kStepC_none, kMv_app, act3_store, act3_call, act3_bs, kAct_app, kSt2_app, stealSlots, stealL, stealOne, subIn, AV.stolen, act_store, act_bs, act_append, act_call, kSet_app, kSet2_app, kSetG_app, kSetG_app0, kStore_ptr, kStore_eptr, kCallW_some, kCallC_some, kCall_some, wk_T, wk_n, wk_keep, wk_inv, wk_act, wk_dr, wk_le, aCalm, wantC, dstOk, calm, aCallK, aCall3K, subOf, subRep, aCall2K, apnd, bsMove, putBox, putOwn, partAV, mvL, AV.mv, AV.base, AV.moved, AV.src, TI.flat, apSize, pickAV, St.val, St.cond, St.fn, St.next, St.set, St.trim, wipe_eq, wipeE_app, wipeM_app, pickEnv, get?, cGet, upd_app, withPuts, killAll, rm, freshP, Oper.hnd, Sc.st, ofConst, constOk, lenAV, elemLen, loadAV, ldL, ld1, fieldAddrAV, indexAddrAV, sliceAV, convAV, buildAV, fillAV, fieldAV, Out.of, binAV, AV.rows, AV.one, AV.cells, AV.deepOk, AV.toD, toDs, partRows, partRowsM, partsDeep, TK.zeroAV, TK.zeroD, byteOf, inR, Op.operands, Call.operands, passVs, passV, passL, pass1, passB, pasVs, pasV, pasL, pas1, ownsOk, okHs, okHs2, okFin, finOk2, rho, over, backRes, backAV, backAV1, backBlk, putBack, back2, back2_V, back2_1, m2, AV.wipe, AV.wipeV, AV.wipe1, Blk.wipe, AV.hs, AV.hs.hsL, alOps, Con.start2, Con.pk, bodyQ, fini, resAV, resA, firstId, Sc.from, renEnv, renT, renV, renVs, renL, ren1, renBox, renOwn, okRen, clOf, actB, setRow, flatRows, flatD, noInv, shr_nil, shr_some, kStepF_some, shareL, AV.viewed, AV.viewed1, cL30Open, Con.fn, tTab, eBytes_take]
  exact fun _ => ⟨fun h => by omega, fun h => List.take_of_length_le (by omega)⟩

theorem xor_nn {a b : Int} (h1 : 0 ≤ a) (h2 : a < 4611686018427387904) (h3 : 0 ≤ b) (h4 : b < 4611686018427387904) : 0 ≤ bitOp .xor .i64 a b := by
  unfold bitOp
  simp only []
  rw [BitVec.toNat_xor, BitVec.toNat_ofInt, BitVec.toNat_ofInt]
  have e1 : (a % ((2 ^ (IntKind.i64).bits : Nat) : Int)).toNat < 2 ^ 62 := by
    have : a % ((2 ^ (IntKind.i64).bits : Nat) : Int) = a := Int.emod_eq_of_lt h1 (by show a < (((2 : Nat) ^ 64 : Nat) : Int); omega)
    rw [this]; omega
  have e2 : (b % ((2 ^ (IntKind.i64).bits : Nat) : Int)).toNat < 2 ^ 62 := by
    have : b % ((2 ^ (IntKind.i64).bits : Nat) : Int) = b := Int.emod_eq_of_lt h3 (by show b < (((2 : Nat) ^ 64 : Nat) : Int); omega)
    rw [this]; omega
  have e3 := Nat.xor_lt_two_pow e1 e2
  rw [wrap_inR (by simp only [inR]; omega)]
  omega
def cPick : Con := { A := (Str × Int) × Int, X := Int, n := 99, args := fun a => [.ptr 0 0, .int .i64 a.2], boxes := fun a => [(0, 134, [.sl true 1 (eBytes a.1.1), .int .i64 a.1.2])], pre := fun a => a.1.1.length ≤ 2000 ∧ 0 ≤ a.1.2 ∧ a.1.2 ≤ 1073741824 ∧ a.2 ≤ 1073741824, post := fun a x => (a.2 < 1 → x = 0) ∧ (1 ≤ a.2 → 0 ≤ x ∧ x < a.2), res := fun _ x => .int .i64 x, fin := fun a _ => [(0, rdBox a.1.1 (a.1.2 + 1))], nob := false }
set_option maxHeartbeats 4000000 in
theorem pick_has : Has Tryd.prog 110 cPick := by
  refine has_walk mixed tTab_ok (l := []) HasL.nil [0, 1, 4, 5, 6] ((fun a n (_ : Nat) => (fun _ => noInv) a n)) [] Tryd.func110 (by kernel_rfl) (code := _) (by unfold Tryd.f110; rfl) (by kernel_rfl) (by decide) (fun a => ⟨(0 : Int), fun _ => rfl, fun h => ⟨Int.le_refl 0, by omega⟩⟩) (by intro h; first | exact fun _ => rfl | cases h) (by kernel_rfl) ?_
  intro a ha
  obtain ⟨⟨s, p⟩, n⟩ := a
  obtain ⟨h1, h2, h3, h4⟩ : s.length ≤ 2000 ∧ 0 ≤ p ∧ p ≤ 1073741824 ∧ n ≤ 1073741824 := ha
  simp -implicitDefEqProofs [vc_skip, extOf, vc_seq, vc_cond, vc_block, vc_exit, vc_ret, vc_region, vc_regionD, vc_loop, kSeq_normal, kSeq_ret, kSeq_exit, kBlock_normal, kBlock_ret, kBlock_exit, kLoop_normal, kLoop_ret, kLoop_exit, kCond_bool, kNorm_app, vcOps_nil, vcOps_cons, kOps_app, kStep_some, kStep_none, vcDL_nil, vcDL_cons, kOpsD_app, kStepD_true, kStepD_false, kStepC_some, kStepC_none, kMv_app, act3_store, act3_call, act3_bs, kAct_app, kSt2_app, stealSlots, stealL, stealOne, subIn, AV.stolen, act_store, act_bs, act_append, act_call, kSet_app, kSet2_app, kSetG_app, kSetG_app0, kStore_ptr, kStore_eptr, kCallW_some, kCallC_some, kCall_some, wk_T, wk_n, wk_keep, wk_inv, wk_act, wk_dr, wk_le, aCalm, wantC, dstOk, calm, aCallK, aCall3K, subOf, subRep, aCall2K, apnd, bsMove, putBox, putOwn, partAV, mvL, AV.mv, AV.base, AV.moved, AV.src, TI.flat, apSize, pickAV, St.val, St.cond, St.fn, St.next, St.set, St.trim, wipe_eq, wipeE_app, wipeM_app, pickEnv, get?, cGet, upd_app, withPuts, killAll, rm, freshP, Oper.hnd, Sc.st, ofConst, constOk, lenAV, elemLen, loadAV, ldL, ld1, fieldAddrAV, indexAddrAV, sliceAV, convAV, buildAV, fillAV, fieldAV, Out.of, binAV, AV.rows, AV.one, AV.cells, AV.deepOk, AV.toD, toDs, partRows, partRowsM, partsDeep, TK.zeroAV, TK.zeroD, byteOf, inR, Op.operands, Call.operands, passVs, passV, passL, pass1, passB, pasVs, pasV, pasL, pas1, ownsOk, okHs, okHs2, okFin, finOk2, rho, over, backRes, backAV, backAV1, backBlk, putBack, back2, back2_V, back2_1, m2, AV.wipe, AV.wipeV, AV.wipe1, Blk.wipe, AV.hs, AV.hs.hsL, alOps, Con.start2, Con.pk, bodyQ, fini, resAV, resA, firstId, Sc.from, renEnv, renT, renV, renVs, renL, ren1, renBox, renOwn, okRen, clOf, actB, setRow, flatRows, flatD, noInv, shr_nil, shr_some, kStepF_some, shareL, AV.viewed, AV.viewed1, cPick, tTab]
  have e : ∀ q : Int, 0 ≤ q → q < s.length → ∃ b : Nat, b < 256 ∧ Option.map eByte s[q.toNat]? = some [.int .u8 b] := fun q a b => by
    have hq : q.toNat < s.length := by omega
    exact ⟨s[q.toNat].toNat, s[q.toNat].toNat_lt, by simp -implicitDefEqProofs [List.getElem?_eq_getElem hq, eByte]⟩
  refine ⟨by omega, fun _ _ => ⟨fun a b => by omega, fun hn _ => ⟨fun _ _ => by omega, fun hs => ⟨by omega, fun _ _ _ => ⟨fun hp => ?_, fun hp => ?_⟩⟩⟩⟩⟩
  · obtain ⟨b, hb, eb⟩ := e p h2 hp
    have t1 := Int.tmod_nonneg n (a := (b : Int)) (by omega)
    have t2 := Int.tmod_lt_of_pos (b : Int) (b := n) (by omega)
    simp -implicitDefEqProofs [eb]
    omega
  · have hl : 0 < s.length := List.length_pos_iff.2 hs
    have hL : (0 : Int) < (s.length : Int) := by omega
    have t1 := Int.tmod_nonneg (s.length : Int) (a := p) h2
    have t2 := Int.tmod_lt_of_pos p hL
    have t3 := Int.tmod_nonneg (s.length : Int) (a := p * 7 + 3) (by omega)
    have t4 := Int.tmod_lt_of_pos (p * 7 + 3) hL
    have t5 := Int.tdiv_nonneg h2 (Int.le_of_lt hL)
    have t6 : p.tdiv (s.length : Int) ≤ p := by
      have := Int.natAbs_tdiv_le_natAbs p (s.length : Int)
      omega
    obtain ⟨b1, hb1, eb1⟩ := e _ t1 t2
    obtain ⟨b2, hb2, eb2⟩ := e _ t3 t4
    simp -implicitDefEqProofs [eb1, eb2]
    generalize p.tdiv (s.length : Int) = d at t5 t6 ⊢
    generalize p.tmod (s.length : Int) = m1 at t1 t2 ⊢
    generalize (p * 7 + 3).tmod (s.length : Int) = m2 at t3 t4 ⊢
    have t7 := Int.tdiv_nonneg (a := (b1 * 131 + b2 * 1117 + p * 29 + d * 53 : Int)) (b := 64) (by omega) (by omega)
    have t8 : (b1 * 131 + b2 * 1117 + p * 29 + d * 53 : Int).tdiv 64 ≤ b1 * 131 + b2 * 1117 + p * 29 + d * 53 := by
      have := Int.natAbs_tdiv_le_natAbs (b1 * 131 + b2 * 1117 + p * 29 + d * 53 : Int) 64
      omega
    have t9 := xor_nn (a := (b1 * 131 + b2 * 1117 + p * 29 + d * 53 : Int)) (b := (b1 * 131 + b2 * 1117 + p * 29 + d * 53 : Int).tdiv 64) (by omega) (by omega) (by omega) (by omega)
    generalize (b1 * 131 + b2 * 1117 + p * 29 + d * 53 : Int).tdiv 64 = y at t7 t8 t9 ⊢
    generalize bitOp .xor .i64 (b1 * 131 + b2 * 1117 + p * 29 + d * 53 : Int) y = z at t9 ⊢
    have t10 := Int.tmod_nonneg n t9
    have t11 := Int.tmod_lt_of_pos z (b := n) (by omega)
    clear e eb1 eb2
    repeat' (first | intro _ | apply And.intro)
    all_goals first | omega | assumption | contradiction

theorem headD_mem {α : Type} {d : α} {l : List α} (h : l ≠ []) : l.headD d ∈ l := by
  cases l with
  | nil => exact absurd rfl h
  | cons x r => simp
def cOf : Con := { A := (Str × Int) × List Str, X := Str, n := 12, args := fun a => [.ptr 0 0, .sl true 1 (eStrs a.2)], boxes := fun a => [(0, 134, [.sl true 1 (eBytes a.1.1), .int .i64 a.1.2])], pre := fun a => a.1.1.length ≤ 2000 ∧ 0 ≤ a.1.2 ∧ a.1.2 ≤ 1073741824 ∧ a.2 ≠ [] ∧ a.2.length ≤ 1073741824, post := fun a x => a.2 ≠ [] → x ∈ a.2, res := fun _ x => .str x, fin := fun a _ => [(0, rdBox a.1.1 (a.1.2 + 1))], nob := false, kindly := true }
set_option maxHeartbeats 4000000 in
theorem of_has : Has Tryd.prog 69 cOf := by
  refine has_walk mixed tTab_ok (l := [(110, cPick)]) (HasL.cons pick_has HasL.nil) [0, 1, 4] ((fun a n (_ : Nat) => (fun _ => noInv) a n)) [] Tryd.func69 (by kernel_rfl) (code := _) (by unfold Tryd.f69; rfl) (by kernel_rfl) (by decide) (fun a => ⟨a.2.headD [], fun h => headD_mem h⟩) (by intro h; first | exact fun _ => rfl | cases h) (by kernel_rfl) ?_
  intro a ha
  obtain ⟨⟨s, p⟩, l⟩ := a
  obtain ⟨h1, h2, h3, h4, h5⟩ : s.length ≤ 2000 ∧ 0 ≤ p ∧ p ≤ 1073741824 ∧ l ≠ [] ∧ l.length ≤ 1073741824 := ha
  have hl : 0 < l.length := List.length_pos_iff.2 h4
  simp -implicitDefEqProofs [vc_skip, extOf, vc_seq, vc_cond, vc_block, vc_exit, vc_ret, vc_region, vc_regionD, vc_loop, kSeq_normal, kSeq_ret, kSeq_exit, kBlock_normal, kBlock_ret, kBlock_exit, kLoop_normal, kLoop_ret, kLoop_exit, kCond_bool, kNorm_app, vcOps_nil, vcOps_cons, kOps_app, kStep_some, kStep_none, vcDL_nil, vcDL_cons, kOpsD_app, kStepD_true, kStepD_false, kStepC_some, kStepC_none, kMv_app, act3_store, act3_call, act3_bs, kAct_app, kSt2_app, stealSlots, stealL, stealOne, subIn, AV.stolen, act_store, act_bs, act_append, act_call, kSet_app, kSet2_app, kSetG_app, kSetG_app0, kStore_ptr, kStore_eptr, kCallW_some, kCallC_some, kCall_some, wk_T, wk_n, wk_keep, wk_inv, wk_act, wk_dr, wk_le, aCalm, wantC, dstOk, calm, aCallK, aCall3K, subOf, subRep, aCall2K, apnd, bsMove, putBox, putOwn, partAV, mvL, AV.mv, AV.base, AV.moved, AV.src, TI.flat, apSize, pickAV, St.val, St.cond, St.fn, St.next, St.set, St.trim, wipe_eq, wipeE_app, wipeM_app, pickEnv, get?, cGet, upd_app, withPuts, killAll, rm, freshP, Oper.hnd, Sc.st, ofConst, constOk, lenAV, elemLen, loadAV, ldL, ld1, fieldAddrAV, indexAddrAV, sliceAV, convAV, buildAV, fillAV, fieldAV, Out.of, binAV, AV.rows, AV.one, AV.cells, AV.deepOk, AV.toD, toDs, partRows, partRowsM, partsDeep, TK.zeroAV, TK.zeroD, byteOf, inR, Op.operands, Call.operands, passVs, passV, passL, pass1, passB, pasVs, pasV, pasL, pas1, ownsOk, okHs, okHs2, okFin, finOk2, rho, over, backRes, backAV, backAV1, backBlk, putBack, back2, back2_V, back2_1, m2, AV.wipe, AV.wipeV, AV.wipe1, Blk.wipe, AV.hs, AV.hs.hsL, alOps, Con.start2, Con.pk, bodyQ, fini, resAV, resA, firstId, Sc.from, renEnv, renT, renV, renVs, renL, ren1, renBox, renOwn, okRen, clOf, actB, setRow, flatRows, flatD, noInv, shr_nil, shr_some, kStepF_some, shareL, AV.viewed, AV.viewed1, cOf, cPick, tTab]
  refine fun _ => ⟨s, p, ⟨rfl, rfl⟩, ⟨h1, h2, h3, by omega⟩, fun y _ hy2 => ?_⟩
  obtain ⟨k1, k2⟩ := hy2 (by omega)
  have hk : y.toNat < l.length := by omega
  have e : Option.map eStr l[y.toNat]? = some (eStr l[y.toNat]) := by simp -implicitDefEqProofs [List.getElem?_eq_getElem hk]
  simp -implicitDefEqProofs [e, eStr, k1, k2]

def cOne : Con := { A := (Str × Int) × List Int, X := Int, n := 12, args := fun a => [.ptr 0 0, .sl true 1 (eInts a.2)], boxes := fun a => [(0, 134, [.sl true 1 (eBytes a.1.1), .int .i64 a.1.2])], pre := fun a => a.1.1.length ≤ 2000 ∧ 0 ≤ a.1.2 ∧ a.1.2 ≤ 1073741824 ∧ a.2 ≠ [] ∧ a.2.length ≤ 1073741824, post := fun a x => a.2 ≠ [] → x ∈ a.2, res := fun _ x => .int .i64 x, fin := fun a _ => [(0, rdBox a.1.1 (a.1.2 + 1))], nob := false, kindly := true }
set_option maxHeartbeats 4000000 in
theorem one_has : Has Tryd.prog 167 cOne := by
  refine has_walk mixed tTab_ok (l := [(110, cPick)]) (HasL.cons pick_has HasL.nil) [0, 1, 4] ((fun a n (_ : Nat) => (fun _ => noInv) a n)) [] Tryd.func167 (by kernel_rfl) (code := _) (by unfold Tryd.f167; rfl) (by kernel_rfl) (by decide) (fun a => ⟨a.2.headD 0, fun h => headD_mem h⟩) (by intro h; first | exact fun _ => rfl | cases h) (by kernel_rfl) ?_
  intro a ha
  obtain ⟨⟨s, p⟩, l⟩ := a
  obtain ⟨h1, h2, h3, h4, h5⟩ : s.length ≤ 2000 ∧ 0 ≤ p ∧ p ≤ 1073741824 ∧ l ≠ [] ∧ l.length ≤ 1073741824 := ha
  have hl : 0 < l.length := List.length_pos_iff.2 h4
  simp -implicitDefEqProofs [vc_skip, extOf, vc_seq, vc_cond, vc_block, vc_exit, vc_ret, vc_region, vc_regionD, vc_loop, kSeq_normal, kSeq_ret, kSeq_exit, kBlock_normal, kBlock_ret, kBlock_exit, kLoop_normal, kLoop_ret, kLoop_exit, kCond_bool, kNorm_app, vcOps_nil, vcOps_cons, kOps_app, kStep_some, kStep_none, vcDL_nil, vcDL_cons, kOpsD_app, kStepD_true, kStepD_false, kStepC_some, kStepC_none, kMv_app, act3_store, act3_call, act3_bs, kAct_app, kSt2_app, stealSlots, stealL, stealOne, subIn, AV.stolen, act_store, act_bs, act_append, act_call, kSet_app, kSet2_app, kSetG_app, kSetG_app0, kStore_ptr, kStore_eptr, kCallW_some, kCallC_some, kCall_some, wk_T, wk_n, wk_keep, wk_inv, wk_act, wk_dr, wk_le, aCalm, wantC, dstOk, calm, aCallK, aCall3K, subOf, subRep, aCall2K, apnd, bsMove, putBox, putOwn, partAV, mvL, AV.mv, AV.base, AV.moved, AV.src, TI.flat, apSize, pickAV, St.val, St.cond, St.fn, St.next, St.set, St.trim, wipe_eq, wipeE_app, wipeM_app, pickEnv, get?, cGet, upd_app, withPuts, killAll, rm, freshP, Oper.hnd, Sc.st, ofConst, constOk, lenAV, elemLen, loadAV, ldL, ld1, fieldAddrAV, indexAddrAV, sliceAV, convAV, buildAV, fillAV, fieldAV, Out.of, binAV, AV.rows, AV.one, AV.cells, AV.deepOk, AV.toD, toDs, partRows, partRowsM, partsDeep, TK.zeroAV, TK.zeroD, byteOf, inR, Op.operands, Call.operands, passVs, passV, passL, pass1, passB, pasVs, pasV, pasL, pas1, ownsOk, okHs, okHs2, okFin, finOk2, rho, over, backRes, backAV, backAV1, backBlk, putBack, back2, back2_V, back2_1, m2, AV.wipe, AV.wipeV, AV.wipe1, Blk.wipe, AV.hs, AV.hs.hsL, alOps, Con.start2, Con.pk, bodyQ, fini, resAV, resA, firstId, Sc.from, renEnv, renT, renV, renVs, renL, ren1, renBox, renOwn, okRen, clOf, actB, setRow, flatRows, flatD, noInv, shr_nil, shr_some, kStepF_some, shareL, AV.viewed, AV.viewed1, cOne, cPick, tTab]
  refine fun _ => ⟨s, p, ⟨rfl, rfl⟩, ⟨h1, h2, h3, by omega⟩, fun y _ hy2 => ?_⟩
  obtain ⟨k1, k2⟩ := hy2 (by omega)
  have hk : y.toNat < l.length := by omega
  have e : Option.map eInt l[y.toNat]? = some (eInt l[y.toNat]) := by simp -implicitDefEqProofs [List.getElem?_eq_getElem hk]
  simp -implicitDefEqProofs [e, eInt, k1, k2]

end Vx
end Go.Proofs.YtlhkmgbmnbkaeaaDoor
/-
  Contracts: draws of lines, paths, texts.
-/
namespace Go.Proofs.YtlhkmgbmnbkaeaaDoor
namespace Vx
open Go.RowKit
set_option maxRecDepth 8000

theorem eStrs_isCons (b : List Str) (x : Str) (R : List (List D)) : (eStrs b = [D.str x] :: R) = ∃ t, b = x :: t ∧ eStrs t = R := by
  apply propext
  constructor
  · intro h
    cases b with
    | nil => cases h
    | cons y t =>
      simp only [eStrs, List.map_cons, List.cons.injEq, eStr, D.str.injEq, and_true] at h
      exact ⟨t, by rw [h.1], h.2⟩
  · rintro ⟨t, rfl, rfl⟩; rfl
theorem eInts_isCons (b : List Int) (x : Int) (R : List (List D)) : (eInts b = [D.int .i64 x] :: R) = ∃ t, b = x :: t ∧ eInts t = R := by
  apply propext
  constructor
  · intro h
    cases b with
    | nil => cases h
    | cons y t =>
      simp only [eInts, List.map_cons, List.cons.injEq, eInt, D.int.injEq, true_and, and_true] at h
      exact ⟨t, by rw [h.1], h.2⟩
  · rintro ⟨t, rfl, rfl⟩; rfl
/-- A contract of a function that draws: the code and the place; the place goes on by at most m. -/
def cLine : Con := { A := Str × Int, X := Str, n := 6, args := fun _ => [.ptr 0 0], boxes := fun a => [(0, 134, [.sl true 1 (eBytes a.1), .int .i64 a.2])], pre := fun a => a.1.length ≤ 2000 ∧ 0 ≤ a.2 ∧ a.2 ≤ 1073741824, post := fun _ x => x.length ≤ 7, res := fun _ x => .str x, fin := fun a _ => [(0, rdBox a.1 (a.2 + 1))], nob := false }
set_option maxHeartbeats 4000000 in
theorem line_has : Has Tryd.prog 168 cLine := by
  refine has_walk mixed tTab_ok (l := [(69, cOf)]) (HasL.cons of_has HasL.nil) [0, 2] ((fun a n (_ : Nat) => (fun _ => noInv) a n)) [] Tryd.func168 (by kernel_rfl) (code := _) (by unfold Tryd.f168; rfl) (by kernel_rfl) (by decide) (fun _ => ⟨([] : Str), Nat.zero_le 7⟩) (by intro h; first | exact fun _ => rfl | cases h) (by kernel_rfl) ?_
  intro a ha
  obtain ⟨s, p⟩ := a
  obtain ⟨h1, h2, h3⟩ : s.length ≤ 2000 ∧ 0 ≤ p ∧ p ≤ 1073741824 := ha
  simp -implicitDefEqProofs [vc_skip, extOf, vc_seq, vc_cond, vc_block, vc_exit, vc_ret, vc_region, vc_regionD, vc_loop, kSeq_normal, kSeq_ret, kSeq_exit, kBlock_normal, kBlock_ret, kBlock_exit, kLoop_normal, kLoop_ret, kLoop_exit, kCond_bool, kNorm_app, vcOps_nil, vcOps_cons, kOps_app, kStep_some, kStep_none, vcDL_nil, vcDL_cons, kOpsD_app, kStepD_true, kStepD_false, kStepC_some, kStepC_none, kMv_app, act3_store, act3_call, act3_bs, kAct_app, kSt2_app, stealSlots, stealL, stealOne, subIn, AV.stolen, act_store, act_bs, act_append, act_call, kSet_app, kSet2_app, kSetG_app, kSetG_app0, kStore_ptr, kStore_eptr, kCallW_some, kCallC_some, kCall_some, wk_T, wk_n, wk_keep, wk_inv, wk_act, wk_dr, wk_le, aCalm, wantC, dstOk, calm, aCallK, aCall3K, subOf, subRep, aCall2K, apnd, bsMove, putBox, putOwn, partAV, mvL, AV.mv, AV.base, AV.moved, AV.src, TI.flat, apSize, pickAV, St.val, St.cond, St.fn, St.next, St.set, St.trim, wipe_eq, wipeE_app, wipeM_app, pickEnv, get?, cGet, upd_app, withPuts, killAll, rm, freshP, Oper.hnd, Sc.st, ofConst, constOk, lenAV, elemLen, loadAV, ldL, ld1, fieldAddrAV, indexAddrAV, sliceAV, convAV, buildAV, fillAV, fieldAV, Out.of, binAV, AV.rows, AV.one, AV.cells, AV.deepOk, AV.toD, toDs, partRows, partRowsM, partsDeep, TK.zeroAV, TK.zeroD, byteOf, inR, Op.operands, Call.operands, passVs, passV, passL, pass1, passB, pasVs, pasV, pasL, pas1, ownsOk, okHs, okHs2, okFin, finOk2, rho, over, backRes, backAV, backAV1, backBlk, putBack, back2, back2_V, back2_1, m2, AV.wipe, AV.wipeV, AV.wipe1, Blk.wipe, AV.hs, AV.hs.hsL, alOps, Con.start2, Con.pk, bodyQ, fini, resAV, resA, firstId, Sc.from, renEnv, renT, renV, renVs, renL, ren1, renBox, renOwn, okRen, clOf, actB, setRow, flatRows, flatD, noInv, shr_nil, shr_some, kStepF_some, shareL, AV.viewed, AV.viewed1, cLine, cOf, tTab, eStrs_isCons, clash, kd, eByte, all_true]
  refine ⟨s, p, ⟨rfl, rfl⟩, ⟨h1, h2, h3⟩, ?_⟩
  simp
def cPath : Con := { A := Str × Int, X := Str, n := 6, args := fun _ => [.ptr 0 0], boxes := fun a => [(0, 134, [.sl true 1 (eBytes a.1), .int .i64 a.2])], pre := fun a => a.1.length ≤ 2000 ∧ 0 ≤ a.2 ∧ a.2 ≤ 1073741824, post := fun _ x => x.length ≤ 5, res := fun _ x => .str x, fin := fun a _ => [(0, rdBox a.1 (a.2 + 1))], nob := false }
set_option maxHeartbeats 4000000 in
theorem path_has : Has Tryd.prog 150 cPath := by
  refine has_walk mixed tTab_ok (l := [(69, cOf)]) (HasL.cons of_has HasL.nil) [0, 2] ((fun a n (_ : Nat) => (fun _ => noInv) a n)) [] Tryd.func150 (by kernel_rfl) (code := _) (by unfold Tryd.f150; rfl) (by kernel_rfl) (by decide) (fun _ => ⟨([] : Str), Nat.zero_le 5⟩) (by intro h; first | exact fun _ => rfl | cases h) (by kernel_rfl) ?_
  intro a ha
  obtain ⟨s, p⟩ := a
  obtain ⟨h1, h2, h3⟩ : s.length ≤ 2000 ∧ 0 ≤ p ∧ p ≤ 1073741824 := ha
  simp -implicitDefEqProofs [vc_skip, extOf, vc_seq, vc_cond, vc_block, vc_exit, vc_ret, vc_region, vc_regionD, vc_loop, kSeq_normal, kSeq_ret, kSeq_exit, kBlock_normal, kBlock_ret, kBlock_exit, kLoop_normal, kLoop_ret, kLoop_exit, kCond_bool, kNorm_app, vcOps_nil, vcOps_cons, kOps_app, kStep_some, kStep_none, vcDL_nil, vcDL_cons, kOpsD_app, kStepD_true, kStepD_false, kStepC_some, kStepC_none, kMv_app, act3_store, act3_call, act3_bs, kAct_app, kSt2_app, stealSlots, stealL, stealOne, subIn, AV.stolen, act_store, act_bs, act_append, act_call, kSet_app, kSet2_app, kSetG_app, kSetG_app0, kStore_ptr, kStore_eptr, kCallW_some, kCallC_some, kCall_some, wk_T, wk_n, wk_keep, wk_inv, wk_act, wk_dr, wk_le, aCalm, wantC, dstOk, calm, aCallK, aCall3K, subOf, subRep, aCall2K, apnd, bsMove, putBox, putOwn, partAV, mvL, AV.mv, AV.base, AV.moved, AV.src, TI.flat, apSize, pickAV, St.val, St.cond, St.fn, St.next, St.set, St.trim, wipe_eq, wipeE_app, wipeM_app, pickEnv, get?, cGet, upd_app, withPuts, killAll, rm, freshP, Oper.hnd, Sc.st, ofConst, constOk, lenAV, elemLen, loadAV, ldL, ld1, fieldAddrAV, indexAddrAV, sliceAV, convAV, buildAV, fillAV, fieldAV, Out.of, binAV, AV.rows, AV.one, AV.cells, AV.deepOk, AV.toD, toDs, partRows, partRowsM, partsDeep, TK.zeroAV, TK.zeroD, byteOf, inR, Op.operands, Call.operands, passVs, passV, passL, pass1, passB, pasVs, pasV, pasL, pas1, ownsOk, okHs, okHs2, okFin, finOk2, rho, over, backRes, backAV, backAV1, backBlk, putBack, back2, back2_V, back2_1, m2, AV.wipe, AV.wipeV, AV.wipe1, Blk.wipe, AV.hs, AV.hs.hsL, alOps, Con.start2, Con.pk, bodyQ, fini, resAV, resA, firstId, Sc.from, renEnv, renT, renV, renVs, renL, ren1, renBox, renOwn, okRen, clOf, actB, setRow, flatRows, flatD, noInv, shr_nil, shr_some, kStepF_some, shareL, AV.viewed, AV.viewed1, cPath, cOf, tTab, eStrs_isCons, clash, kd, eByte, all_true]
  refine ⟨s, p, ⟨rfl, rfl⟩, ⟨h1, h2, h3⟩, ?_⟩
  simp

def cText : Con := { A := Str × Int, X := List Str × Int, n := 19, args := fun _ => [.ptr 0 0], boxes := fun a => [(0, 134, [.sl true 1 (eBytes a.1), .int .i64 a.2])], pre := fun a => a.1.length ≤ 2000 ∧ 0 ≤ a.2 ∧ a.2 ≤ 1073741800, post := fun a x => x.1.length ≤ 8 ∧ (∀ s ∈ x.1, s.length ≤ 7) ∧ a.2 ≤ x.2 ∧ x.2 ≤ a.2 + 9, res := fun _ x => .own 8 1 (eStrs x.1), fin := fun a x => [(0, rdBox a.1 x.2), (8, .own 9 1 true (eStrs x.1))], nob := false }
set_option maxHeartbeats 4000000 in
theorem text_has : Has Tryd.prog 151 cText := by
  refine has_walk mixed tTab_ok (l := [(167, cOne), (168, cLine)]) (HasL.cons one_has (HasL.cons line_has HasL.nil)) [0, 2, 3, 4] ((fun a n (_ : Nat) => (fun a _ => ⟨List Str × Int × Nat, fun t => ⟨[(0, true, .ptr 0 0), (2, true, .nil), (3, true, .own 9 1 (eStrs t.1)), (4, true, .int .i64 t.2.2)], [(0, rdBox a.1 t.2.1), (9, .own 9 1 true (eStrs t.1))]⟩, fun t => t.1.length + t.2.2 ≤ 8 ∧ (∀ s ∈ t.1, s.length ≤ 7) ∧ a.2 ≤ t.2.1 ∧ t.2.1 ≤ a.2 + 1 + t.1.length, fun t => t.2.2⟩) a n)) [] Tryd.func151 (by kernel_rfl) (code := _) (by unfold Tryd.f151; rfl) (by kernel_rfl) (by decide) (fun a => ⟨(([] : List Str), a.2), Nat.zero_le 8, (by simp), Int.le_refl _, by omega⟩) (by intro h; first | exact fun _ => rfl | cases h) (by kernel_rfl) ?_
  intro a ha
  obtain ⟨s, p⟩ := a
  obtain ⟨h1, h2, h3⟩ : s.length ≤ 2000 ∧ 0 ≤ p ∧ p ≤ 1073741800 := ha
  simp -implicitDefEqProofs [vc_skip, extOf, vc_seq, vc_cond, vc_block, vc_exit, vc_ret, vc_region, vc_regionD, vc_loop, kSeq_normal, kSeq_ret, kSeq_exit, kBlock_normal, kBlock_ret, kBlock_exit, kLoop_normal, kLoop_ret, kLoop_exit, kCond_bool, kNorm_app, vcOps_nil, vcOps_cons, kOps_app, kStep_some, kStep_none, vcDL_nil, vcDL_cons, kOpsD_app, kStepD_true, kStepD_false, kStepC_some, kStepC_none, kMv_app, act3_store, act3_call, act3_bs, kAct_app, kSt2_app, stealSlots, stealL, stealOne, subIn, AV.stolen, act_store, act_bs, act_append, act_call, kSet_app, kSet2_app, kSetG_app, kSetG_app0, kStore_ptr, kStore_eptr, kCallW_some, kCallC_some, kCall_some, wk_T, wk_n, wk_keep, wk_inv, wk_act, wk_dr, wk_le, aCalm, wantC, dstOk, calm, aCallK, aCall3K, subOf, subRep, aCall2K, apnd, bsMove, putBox, putOwn, partAV, mvL, AV.mv, AV.base, AV.moved, AV.src, TI.flat, apSize, pickAV, St.val, St.cond, St.fn, St.next, St.set, St.trim, wipe_eq, wipeE_app, wipeM_app, pickEnv, get?, cGet, upd_app, withPuts, killAll, rm, freshP, Oper.hnd, Sc.st, ofConst, constOk, lenAV, elemLen, loadAV, ldL, ld1, fieldAddrAV, indexAddrAV, sliceAV, convAV, buildAV, fillAV, fieldAV, Out.of, binAV, AV.rows, AV.one, AV.cells, AV.deepOk, AV.toD, toDs, partRows, partRowsM, partsDeep, TK.zeroAV, TK.zeroD, byteOf, inR, Op.operands, Call.operands, passVs, passV, passL, pass1, passB, pasVs, pasV, pasL, pas1, ownsOk, okHs, okHs2, okFin, finOk2, rho, over, backRes, backAV, backAV1, backBlk, putBack, back2, back2_V, back2_1, m2, AV.wipe, AV.wipeV, AV.wipe1, Blk.wipe, AV.hs, AV.hs.hsL, alOps, Con.start2, Con.pk, bodyQ, fini, resAV, resA, firstId, Sc.from, renEnv, renT, renV, renVs, renL, ren1, renBox, renOwn, okRen, clOf, actB, setRow, flatRows, flatD, noInv, shr_nil, shr_some, kStepF_some, shareL, AV.viewed, AV.viewed1, cText, cOne, cLine, tTab, eInts_isCons, clash, kd, eByte, all_true]
  refine ⟨s, p, ⟨rfl, rfl⟩, ⟨h1, by omega, by omega⟩, ?_⟩
  refine ⟨⟨⟨[], p + 1, 0, by simp; omega⟩, ?_⟩, ⟨⟨[], p + 1, 1, by simp; omega⟩, ?_⟩, ⟨⟨[], p + 1, 3, by simp; omega⟩, ?_⟩, ⟨⟨[], p + 1, 5, by simp; omega⟩, ?_⟩, ⟨[], p + 1, 8, by simp; omega⟩, ?_⟩
  all_goals
    intro a q n g1 g2 g3 g4
    refine ⟨fun hn => ⟨s, q, ⟨rfl, rfl⟩, ⟨h1, by omega, by omega⟩, fun y hy => ⟨by omega, by omega, fun _ _ => ⟨a ++ [y], q + 1, n - 1, ⟨⟨(eStrs_snoc a y).symm, by omega⟩, ⟨rfl, rfl⟩, eStrs_snoc a y⟩, ⟨by simp; omega, fun x hx => ?_, by omega, by simp; omega⟩, by omega⟩⟩⟩, fun hn => ⟨a, q, ⟨by omega, g2, by omega, by omega⟩, rfl, rfl, rfl⟩⟩
    rcases List.mem_append.1 hx with hx | hx
    · exact g2 x hx
    · simp at hx; subst hx; exact hy

end Vx
end Go.Proofs.YtlhkmgbmnbkaeaaDoor
/-
  Contracts: a file put into a tree (the reference's).
-/
namespace Go.Proofs.YtlhkmgbmnbkaeaaDoor
namespace Vx
open Go.RowKit
set_option maxRecDepth 8000

def setStep (f : FileD) (acc : List FileD × Bool) (g : FileD) : List FileD × Bool :=
  if acc.2 = false ∧ Go.Op.bytesLess g.path f.path = false then (if g.path = f.path then (acc.1 ++ [f], true) else (acc.1 ++ [f] ++ [g], true))
  else (if g.path = f.path then acc else (acc.1 ++ [g], acc.2))
def setL (f : FileD) (l : List FileD) : List FileD × Bool := l.foldl (setStep f) ([], false)
def setS (t : List FileD) (f : FileD) : List FileD := if (setL f t).2 then (setL f t).1 else (setL f t).1 ++ [f]
theorem setL_succ {f : FileD} {t : List FileD} {i : Nat} (h : i < t.length) : setL f (t.take (i + 1)) = setStep f (setL f (t.take i)) t[i] := by
  unfold setL
  rw [take_succ' h, List.foldl_append]; rfl
theorem setStep_len (f : FileD) (acc : List FileD × Bool) (g : FileD) : (setStep f acc g).1.length + acc.2.toNat ≤ acc.1.length + (setStep f acc g).2.toNat + 1 := by
  unfold setStep
  split
  · rename_i h
    rw [h.1]
    split <;> simp <;> omega
  · split <;> simp <;> omega
theorem setL_len (f : FileD) (t : List FileD) : (setL f t).1.length ≤ t.length + (setL f t).2.toNat := by
  have : ∀ (t : List FileD) (acc : List FileD × Bool), (t.foldl (setStep f) acc).1.length + acc.2.toNat ≤ acc.1.length + t.length + (t.foldl (setStep f) acc).2.toNat := by
    intro t
    induction t with
    | nil => intro acc; simp
    | cons g r ih =>
      intro acc
      have h1 := ih (setStep f acc g)
      have h2 := setStep_len f acc g
      simp only [List.foldl_cons, List.length_cons]
      omega
  have := this t ([], false)
  simpa [setL] using this
theorem setL_mem (f : FileD) (t : List FileD) : ∀ g ∈ (setL f t).1, g ∈ t ∨ g = f := by
  have : ∀ (t : List FileD) (acc : List FileD × Bool), ∀ g ∈ (t.foldl (setStep f) acc).1, g ∈ acc.1 ∨ g ∈ t ∨ g = f := by
    intro t
    induction t with
    | nil => intro acc g hg; exact .inl hg
    | cons x r ih =>
      intro acc g hg
      rcases ih (setStep f acc x) g hg with h | h | h
      · unfold setStep at h
        split at h
        · split at h
          · simp at h; rcases h with h | h
            · exact .inl h
            · exact .inr (.inr h)
          · simp at h; rcases h with h | h | h
            · exact .inl h
            · exact .inr (.inr h)
            · exact .inr (.inl (by simp [h]))
        · split at h
          · exact .inl h
          · simp at h; rcases h with h | h
            · exact .inl h
            · exact .inr (.inl (by simp [h]))
      · exact .inr (.inl (by simp [h]))
      · exact .inr (.inr h)
  intro g hg
  rcases this t ([], false) g hg with h | h
  · simp at h
  · exact h
theorem setS_len (t : List FileD) (f : FileD) : (setS t f).length ≤ t.length + 1 := by
  have := setL_len f t
  unfold setS
  split
  · rename_i h; rw [h] at this; simpa using this
  · rename_i h
    have h : (setL f t).2 = false := by simpa using h
    rw [h] at this; simp at this ⊢; omega
theorem setS_mem (t : List FileD) (f : FileD) : ∀ g ∈ setS t f, g ∈ t ∨ g = f := by
  intro g hg
  unfold setS at hg
  split at hg
  · exact setL_mem f t g hg
  · rcases List.mem_append.1 hg with h | h
    · exact setL_mem f t g h
    · simp at h; exact .inr h

def cL4Set : Con := .fn 65 (List FileD × FileD) (fun a => [.sl true 2 (eFiles a.1), .agg [.str a.2.path, .sl true 1 (eStrs a.2.text)]]) (fun a => a.1.length ≤ 1048576 ∧ a.2.text.length ≤ 1048576) (fun a => .sl false 2 (eFiles (setS a.1 a.2))) (fun _ => [])
set_option maxHeartbeats 4000000 in
theorem l4Set_has : Has Tryd.prog 91 cL4Set := by
  refine has_walk mixed tTab_ok (l := []) HasL.nil [0, 1, 3, 4, 5, 6, 7] ((fun a n (_ : Nat) => (fun a _ => ⟨Nat, fun i => ⟨[(0, true, .sl true 2 (eFiles a.1)), (3, true, .ptr 10 0), (4, true, .nil), (5, true, .own 9 2 (eFiles (setL a.2 (a.1.take i)).1)), (6, true, .bool (setL a.2 (a.1.take i)).2), (7, true, .int .i64 i)], [(10, .box 32 [.str a.2.path, .sl true 1 (eStrs a.2.text)]), (9, .own 32 2 false (eFiles (setL a.2 (a.1.take i)).1))]⟩, fun i => i ≤ a.1.length, fun i => a.1.length - i⟩) a n)) [35, 62] Tryd.func91 (by kernel_rfl) (code := _) (by unfold Tryd.f91; rfl) (by kernel_rfl) (by decide) (fun _ => ⟨(), trivial⟩) (by intro h; first | exact fun _ => rfl | cases h) (by kernel_rfl) ?_
  intro a ha
  obtain ⟨t, f⟩ := a
  obtain ⟨q1, q2⟩ : t.length ≤ 1048576 ∧ f.text.length ≤ 1048576 := ha
  have a0 : setL f [] = ([], false) := rfl
  have a1 : ∀ i (h : i < t.length), (setL f (t.take i)).2 = true → ¬ t[i].path = f.path → setL f (t.take (i + 1)) = ((setL f (t.take i)).1 ++ [t[i]], true) := fun i h h1 h2 => by rw [setL_succ h]; simp [setStep, h1, h2]
  have a2 : ∀ i (h : i < t.length), (setL f (t.take i)).2 = true → t[i].path = f.path → setL f (t.take (i + 1)) = ((setL f (t.take i)).1, true) := fun i h h1 h2 => by rw [setL_succ h]; unfold setStep; rw [if_neg (by simp [h1]), if_pos h2]; exact Prod.ext rfl h1
  have a3 : ∀ i (h : i < t.length), (setL f (t.take i)).2 = false → Go.Op.bytesLess t[i].path f.path = false → ¬ t[i].path = f.path → setL f (t.take (i + 1)) = ((setL f (t.take i)).1 ++ [f] ++ [t[i]], true) := fun i h h1 h3 h2 => by rw [setL_succ h]; simp [setStep, h1, h2, h3]
  have a4 : ∀ i (h : i < t.length), (setL f (t.take i)).2 = false → Go.Op.bytesLess t[i].path f.path = false → t[i].path = f.path → setL f (t.take (i + 1)) = ((setL f (t.take i)).1 ++ [f], true) := fun i h h1 h3 h2 => by rw [setL_succ h]; rw [h2] at h3; simp [setStep, h1, h2, h3]
  have a5 : ∀ i (h : i < t.length), (setL f (t.take i)).2 = false → Go.Op.bytesLess t[i].path f.path = true → ¬ t[i].path = f.path → setL f (t.take (i + 1)) = ((setL f (t.take i)).1 ++ [t[i]], false) := fun i h h1 h3 h2 => by rw [setL_succ h]; simp [setStep, h1, h2, h3]
  have a6 : ∀ i (h : i < t.length), (setL f (t.take i)).2 = false → Go.Op.bytesLess t[i].path f.path = true → t[i].path = f.path → setL f (t.take (i + 1)) = ((setL f (t.take i)).1, false) := fun i h h1 h3 h2 => by rw [setL_succ h]; unfold setStep; rw [if_neg (by simp [h3]), if_pos h2]; exact Prod.ext rfl h1
  have a7 : ∀ i, (setL f (t.take i)).1.length ≤ 1048577 := fun i => by
    have h1 := setL_len f (t.take i)
    have h2 := Bool.toNat_le (setL f (t.take i)).2
    have h3 : (t.take i).length ≤ t.length := by simp; omega
    omega
  have a8 : (setL f t).2 = true → setS t f = (setL f t).1 := fun h => by simp [setS, h]
  have a9 : (setL f t).2 = false → setS t f = (setL f t).1 ++ [f] := fun h => by simp [setS, h]
  simp -implicitDefEqProofs [vc_skip, extOf, vc_seq, vc_cond, vc_block, vc_exit, vc_ret, vc_region, vc_regionD, vc_loop, kSeq_normal, kSeq_ret, kSeq_exit, kBlock_normal, kBlock_ret, kBlock_exit, kLoop_normal, kLoop_ret, kLoop_exit, kCond_bool, kNorm_app, vcOps_nil, vcOps_cons, kOps_app, kStep_some, kStep_none, vcDL_nil, vcDL_cons, kOpsD_app, kStepD_true, kStepD_false, kStepC_some, kStepC_none, kMv_app, act3_store, act3_call, act3_bs, kAct_app, kSt2_app, stealSlots, stealL, stealOne, subIn, AV.stolen, act_store, act_bs, act_append, act_call, kSet_app, kSet2_app, kSetG_app, kSetG_app0, kStore_ptr, kStore_eptr, kCallW_some, kCallC_some, kCall_some, wk_T, wk_n, wk_keep, wk_inv, wk_act, wk_dr, wk_le, aCalm, wantC, dstOk, calm, aCallK, aCall3K, subOf, subRep, aCall2K, apnd, bsMove, putBox, putOwn, partAV, mvL, AV.mv, AV.base, AV.moved, AV.src, TI.flat, apSize, pickAV, St.val, St.cond, St.fn, St.next, St.set, St.trim, wipe_eq, wipeE_app, wipeM_app, pickEnv, get?, cGet, upd_app, withPuts, killAll, rm, freshP, Oper.hnd, Sc.st, ofConst, constOk, lenAV, elemLen, loadAV, ldL, ld1, fieldAddrAV, indexAddrAV, sliceAV, convAV, buildAV, fillAV, fieldAV, Out.of, binAV, AV.rows, AV.one, AV.cells, AV.deepOk, AV.toD, toDs, partRows, partRowsM, partsDeep, TK.zeroAV, TK.zeroD, byteOf, inR, Op.operands, Call.operands, passVs, passV, passL, pass1, passB, pasVs, pasV, pasL, pas1, ownsOk, okHs, okHs2, okFin, finOk2, rho, over, backRes, backAV, backAV1, backBlk, putBack, back2, back2_V, back2_1, m2, AV.wipe, AV.wipeV, AV.wipe1, Blk.wipe, AV.hs, AV.hs.hsL, alOps, Con.start2, Con.pk, bodyQ, fini, resAV, resA, firstId, Sc.from, renEnv, renT, renV, renVs, renL, ren1, renBox, renOwn, okRen, clOf, actB, setRow, flatRows, flatD, noInv, shr_nil, shr_some, kStepF_some, shareL, AV.viewed, AV.viewed1, cL4Set, Con.fn, tTab]
  try dsimp only
  have b1 : ∀ (X : List FileD) (g : FileD), eFiles X ++ [[D.str f.path, D.sl 9 1 (eStrs f.text)], [D.str g.path, D.sl 9 1 (eStrs g.text)]] = eFiles (X ++ [f] ++ [g]) := fun X g => by simp [eFiles, eFile]
  refine ⟨⟨0, by simp [a0]⟩, ?_⟩
  try simp +contextual [eStr, eFile, cast_succ, cast_eq, cast_zero, List.getElem?_eq_getElem, eStrs_set, eFiles_set, eStrs_rep, eFiles_rep, ← eStrs_append, ← eFiles_append, eStrs_take, eStrs_drop, eFiles_take, eFiles_drop, eStrs_snoc, eFiles_snoc, and_assoc, b1, ← FileD.eq_iff]
  repeat' (first | intro _ | apply And.intro)
  all_goals first | omega | grind [all_take, eStrs_str, List.take_of_length_le]

end Vx
end Go.Proofs.YtlhkmgbmnbkaeaaDoor
/-
  What the law FnSeekTree says, in plain lists.
-/
namespace Go.Proofs.YtlhkmgbmnbkaeaaDoor
namespace Vx
open Go.RowKit

theorem less_trans {a b c : Str} (h : Go.Op.bytesLess a b = true) (h' : Go.Op.bytesLess b c = true) : Go.Op.bytesLess a c = true := by
  rw [less_eq, decide_eq_true_eq] at *
  exact List.lt_trans h h'
theorem less_irrefl (a : Str) : Go.Op.bytesLess a a = false := by
  rw [less_eq, decide_eq_false_iff_not]
  exact List.lt_irrefl a
theorem tree_less {t : List FileD} (h : treeI t = true) : ∀ j i, (hij : i < j) → (hj : j < t.length) → Go.Op.bytesLess (t[i]'(by omega)).path t[j].path = true := by
  have hs : ∀ j, (h0 : 0 < j) → (hj : j < t.length) → Go.Op.bytesLess (t[j - 1]'(by omega)).path t[j].path = true := by
    intro j h0 hj
    simp only [treeI, Bool.and_eq_true, List.all_eq_true, List.mem_range] at h
    have h2 := (h.2 j hj).1
    simp only [headI, Bool.and_eq_true, Bool.or_eq_true, decide_eq_true_eq] at h2
    rcases h2.2 with h3 | h3
    · omega
    · simpa [List.getD_eq_getElem?_getD, hj, (show j - 1 < t.length by omega)] using h3
  intro j
  induction j with
  | zero => intro i hi; omega
  | succ j ih =>
    intro i hi hj
    have h1 := hs (j + 1) (by omega) hj
    by_cases e : i = j
    · subst e; exact h1
    · exact less_trans (ih i (by omega) (by omega)) h1
theorem tree_paths {t : List FileD} (h : treeI t = true) {i j : Nat} (hi : i < t.length) (hj : j < t.length) (he : t[i].path = t[j].path) : i = j := by
  rcases Nat.lt_trichotomy i j with h1 | h1 | h1
  · have := tree_less h j i h1 hj; rw [he, less_irrefl] at this; cases this
  · exact h1
  · have := tree_less h i j h1 hi; rw [he, less_irrefl] at this; cases this

/-- A text is in another one. -/
def partB (s p : Str) : Bool := (List.range (s.length + 1)).any fun i => decide (i + p.length ≤ s.length) && decide ((s.drop i).take p.length = p)
theorem partB_hit {s p : Str} {i : Nat} (h : i + p.length ≤ s.length) (h2 : (s.drop i).take p.length = p) : partB s p = true := by
  unfold partB
  rw [List.any_eq_true]
  exact ⟨i, List.mem_range.2 (by omega), by simp [h, h2]⟩
theorem partB_miss {s p : Str} (h : ∀ i, i + p.length ≤ s.length → (s.drop i).take p.length ≠ p) : partB s p = false := by
  unfold partB
  rw [List.any_eq_false]
  intro i _
  simp only [Bool.and_eq_true, decide_eq_true_eq, not_and]
  exact h i
theorem partB_mid (a p b : Str) : partB (a ++ (p ++ b)) p = true := partB_hit (i := a.length) (by simp) (by simp)
theorem hasP_part {w : Str} : ∀ {r c : Str}, hasP w r c = true → ∃ a b, c ++ r = a ++ (w ++ b) := by
  intro r
  induction r with
  | nil => intro c h; simp only [hasP, decide_eq_true_eq] at h; subst h; exact ⟨[], [], by simp⟩
  | cons x r ih =>
    intro c h
    simp only [hasP] at h
    split at h
    · obtain ⟨a, b, e⟩ := ih h
      exact ⟨a, b, by simpa using e⟩
    · simp only [Bool.or_eq_true, decide_eq_true_eq] at h
      rcases h with rfl | h
      · exact ⟨[], x :: r, by simp⟩
      · obtain ⟨a, b, e⟩ := ih h
        exact ⟨c ++ x :: a, b, by simpa using e⟩
theorem hasS_part {w l : Str} (h : hasS w l = true) : partB l w = true := by
  obtain ⟨a, b, e⟩ := hasP_part h
  rw [List.nil_append] at e
  rw [e]; exact partB_mid a w b
theorem hasP_word {w : Str} : ∀ {r c : Str}, (∀ x ∈ r, wordB x.toNat = true) → hasP w r c = decide (c ++ r = w) := by
  intro r
  induction r with
  | nil => intro c _; simp [hasP]
  | cons x r ih =>
    intro c h
    simp only [hasP, h x (by simp), if_true]
    rw [ih fun y hy => h y (by simp [hy])]
    simp
theorem hasS_self {w : Str} (h : nameB w = true) : hasS w w = true := by
  simp only [nameB, Bool.and_eq_true, List.all_eq_true] at h
  unfold hasS
  rw [hasP_word h.2]; simp
theorem hasS_see {w : Str} (h : nameB w = true) : hasS w ([115, 101, 101, 32] ++ w) = true := by
  have h0 := hasS_self h
  unfold hasS at h0 ⊢
  show hasP w (115 :: 101 :: 101 :: 32 :: w) [] = true
  simp only [hasP]
  rw [if_pos (by decide), if_pos (by decide), if_pos (by decide), if_neg (by decide), h0, Bool.or_true]

def pathIn (l : List Str) (p : Str) : Bool := decide (p ∈ l)
theorem seek_mem {t : List FileD} (ht : treeI t = true) (p : FileD → Bool) {i : Nat} (hi : i < t.length) : t[i].path ∈ seekL p t ↔ p t[i] = true := by
  unfold seekL
  simp only [List.mem_map, List.mem_filter]
  constructor
  · rintro ⟨f, ⟨hf, hp⟩, e⟩
    obtain ⟨j, hj, rfl⟩ := List.getElem_of_mem hf
    have := tree_paths ht hj hi e
    subst this
    exact hp
  · intro h; exact ⟨t[i], ⟨List.getElem_mem hi, h⟩, rfl⟩
theorem seek_split (p : FileD → Bool) (t : List FileD) {i : Nat} (hi : i < t.length) (hp : p t[i] = true) : (seekL p t)[(seekL p (t.take i)).length]? = some t[i].path := by
  have e : t.take i ++ (t[i] :: t.drop (i + 1)) = t := by rw [← List.drop_eq_getElem_cons hi, List.take_append_drop]
  have key : ∀ (a : List FileD) (x : FileD) (b : List FileD), p x = true → seekL p (a ++ x :: b) = seekL p a ++ (x.path :: seekL p b) := fun a x b h => by simp [seekL, List.filter_cons, h]
  have := key (t.take i) t[i] (t.drop (i + 1)) hp
  rw [e] at this
  rw [this]; simp
theorem hit_some {t : List FileD} {w : Str} {i : Nat} (hi : i < t.length) (h : hitS w t[i] = true) : ∃ l ∈ t[i].text, partB l w = true := by
  unfold hitS anyHas at h
  rw [List.any_eq_true] at h
  obtain ⟨l, hl, h⟩ := h
  exact ⟨l, hl, hasS_part h⟩
theorem hit_word {f : FileD} {w : Str} (hw : nameB w = true) (h : w ∈ f.text ∨ [115, 101, 101, 32] ++ w ∈ f.text) : hitS w f = true := by
  unfold hitS anyHas
  rw [List.any_eq_true]
  rcases h with h | h
  · exact ⟨_, h, hasS_self hw⟩
  · exact ⟨_, h, hasS_see hw⟩

/-- The lines of a file that have the word. -/
def someP (t : List Str) (w : Str) : Bool := t.any fun l => partB l w

end Vx
end Go.Proofs.YtlhkmgbmnbkaeaaDoor
/-
  Contracts: trees drawn.
-/
namespace Go.Proofs.YtlhkmgbmnbkaeaaDoor
namespace Vx
open Go.RowKit
set_option maxRecDepth 8000

def treeSetS (t : List FileD) (f : FileD) : List FileD × Bool := if treeS t then (if treeS (setS t f) then (setS t f, true) else (t, false)) else ([], false)
theorem treeSetS_len (t : List FileD) (f : FileD) : (treeSetS t f).1.length ≤ t.length + 1 := by
  have := setS_len t f
  unfold treeSetS
  split
  · split <;> simp <;> omega
  · simp
theorem treeSetS_mem (t : List FileD) (f : FileD) : ∀ g ∈ (treeSetS t f).1, g ∈ t ∨ g = f := by
  intro g hg
  unfold treeSetS at hg
  split at hg
  · split at hg
    · exact setS_mem t f g hg
    · exact .inl hg
  · simp at hg

def cTreeSetS : Con := .fn 20 (List FileD × FileD) (fun a => [.sl true 2 (eFiles a.1), .agg [.str a.2.path, .sl true 1 (eStrs a.2.text)]]) (fun a => (a.1.length ≤ 1048575 ∧ ∀ f ∈ a.1, f.text.length ≤ 1048576) ∧ a.2.text.length ≤ 1048576) (fun a => .tup [.sl false 2 (eFiles (treeSetS a.1 a.2).1), .bool (treeSetS a.1 a.2).2]) (fun _ => [])
set_option maxHeartbeats 4000000 in
theorem treeSetS_has : Has Tryd.prog 149 cTreeSetS := by
  refine has_walk mixed tTab_ok (l := [(72, cL4Ok), (86, cL4Copy), (91, cL4Set)]) (HasL.cons l4Ok_has (HasL.cons l4Copy_has (HasL.cons l4Set_has HasL.nil))) [0, 1, 3, 4, 5, 6] ((fun a n (_ : Nat) => (fun _ => noInv) a n)) [] Tryd.func149 (by kernel_rfl) (code := _) (by unfold Tryd.f149; rfl) (by kernel_rfl) (by decide) (fun _ => ⟨(), trivial⟩) (by intro h; first | exact fun _ => rfl | cases h) (by kernel_rfl) ?_
  intro a ha
  obtain ⟨t, f⟩ := a
  obtain ⟨⟨q1, q2⟩, q3⟩ : (t.length ≤ 1048575 ∧ ∀ f ∈ t, f.text.length ≤ 1048576) ∧ f.text.length ≤ 1048576 := ha
  simp -implicitDefEqProofs [vc_skip, extOf, vc_seq, vc_cond, vc_block, vc_exit, vc_ret, vc_region, vc_regionD, vc_loop, kSeq_normal, kSeq_ret, kSeq_exit, kBlock_normal, kBlock_ret, kBlock_exit, kLoop_normal, kLoop_ret, kLoop_exit, kCond_bool, kNorm_app, vcOps_nil, vcOps_cons, kOps_app, kStep_some, kStep_none, vcDL_nil, vcDL_cons, kOpsD_app, kStepD_true, kStepD_false, kStepC_some, kStepC_none, kMv_app, act3_store, act3_call, act3_bs, kAct_app, kSt2_app, stealSlots, stealL, stealOne, subIn, AV.stolen, act_store, act_bs, act_append, act_call, kSet_app, kSet2_app, kSetG_app, kSetG_app0, kStore_ptr, kStore_eptr, kCallW_some, kCallC_some, kCall_some, wk_T, wk_n, wk_keep, wk_inv, wk_act, wk_dr, wk_le, aCalm, wantC, dstOk, calm, aCallK, aCall3K, subOf, subRep, aCall2K, apnd, bsMove, putBox, putOwn, partAV, mvL, AV.mv, AV.base, AV.moved, AV.src, TI.flat, apSize, pickAV, St.val, St.cond, St.fn, St.next, St.set, St.trim, wipe_eq, wipeE_app, wipeM_app, pickEnv, get?, cGet, upd_app, withPuts, killAll, rm, freshP, Oper.hnd, Sc.st, ofConst, constOk, lenAV, elemLen, loadAV, ldL, ld1, fieldAddrAV, indexAddrAV, sliceAV, convAV, buildAV, fillAV, fieldAV, Out.of, binAV, AV.rows, AV.one, AV.cells, AV.deepOk, AV.toD, toDs, partRows, partRowsM, partsDeep, TK.zeroAV, TK.zeroD, byteOf, inR, Op.operands, Call.operands, passVs, passV, passL, pass1, passB, pasVs, pasV, pasL, pas1, ownsOk, okHs, okHs2, okFin, finOk2, rho, over, backRes, backAV, backAV1, backBlk, putBack, back2, back2_V, back2_1, m2, AV.wipe, AV.wipeV, AV.wipe1, Blk.wipe, AV.hs, AV.hs.hsL, alOps, Con.start2, Con.pk, bodyQ, fini, resAV, resA, firstId, Sc.from, renEnv, renT, renV, renVs, renL, ren1, renBox, renOwn, okRen, clOf, actB, setRow, flatRows, flatD, noInv, shr_nil, shr_some, kStepF_some, shareL, AV.viewed, AV.viewed1, cTreeSetS, Con.fn, tTab, cL4Ok, cL4Copy, cL4Set, treeSetS]
  try dsimp only
  try simp +contextual -implicitDefEqProofs [eStr, eFile, cast_succ, cast_eq, cast_zero, List.getElem?_eq_getElem, eStrs_set, eFiles_set, eStrs_rep, eFiles_rep, ← eStrs_append, ← eFiles_append, eStrs_take, eStrs_drop, eFiles_take, eFiles_drop, eStrs_snoc, eFiles_snoc, and_assoc]
  repeat' (first | intro _ | apply And.intro)
  all_goals first | omega | grind [all_take, treeSetS]

def cAnyPath : Con := { A := Str × Int, X := Str, n := 11, args := fun _ => [.ptr 0 0], boxes := fun a => [(0, 134, [.sl true 1 (eBytes a.1), .int .i64 a.2])], pre := fun a => a.1.length ≤ 2000 ∧ 0 ≤ a.2 ∧ a.2 ≤ 1073741800, post := fun _ x => x.length ≤ 7, res := fun _ x => .str x, fin := fun a _ => [(0, rdBox a.1 (a.2 + 2))], nob := false }
set_option maxHeartbeats 4000000 in
theorem anyPath_has : Has Tryd.prog 124 cAnyPath := by
  refine has_walk mixed tTab_ok (l := [(110, cPick), (69, cOf), (150, cPath)]) (HasL.cons pick_has (HasL.cons of_has (HasL.cons path_has HasL.nil))) [0, 2] ((fun a n (_ : Nat) => (fun _ => noInv) a n)) [] Tryd.func124 (by kernel_rfl) (code := _) (by unfold Tryd.f124; rfl) (by kernel_rfl) (by decide) (fun _ => ⟨([] : Str), Nat.zero_le 7⟩) (by intro h; first | exact fun _ => rfl | cases h) (by kernel_rfl) ?_
  intro a ha
  obtain ⟨s, p⟩ := a
  obtain ⟨h1, h2, h3⟩ : s.length ≤ 2000 ∧ 0 ≤ p ∧ p ≤ 1073741800 := ha
  simp -implicitDefEqProofs [vc_skip, extOf, vc_seq, vc_cond, vc_block, vc_exit, vc_ret, vc_region, vc_regionD, vc_loop, kSeq_normal, kSeq_ret, kSeq_exit, kBlock_normal, kBlock_ret, kBlock_exit, kLoop_normal, kLoop_ret, kLoop_exit, kCond_bool, kNorm_app, vcOps_nil, vcOps_cons, kOps_app, kStep_some, kStep_none, vcDL_nil, vcDL_cons, kOpsD_app, kStepD_true, kStepD_false, kStepC_some, kStepC_none, kMv_app, act3_store, act3_call, act3_bs, kAct_app, kSt2_app, stealSlots, stealL, stealOne, subIn, AV.stolen, act_store, act_bs, act_append, act_call, kSet_app, kSet2_app, kSetG_app, kSetG_app0, kStore_ptr, kStore_eptr, kCallW_some, kCallC_some, kCall_some, wk_T, wk_n, wk_keep, wk_inv, wk_act, wk_dr, wk_le, aCalm, wantC, dstOk, calm, aCallK, aCall3K, subOf, subRep, aCall2K, apnd, bsMove, putBox, putOwn, partAV, mvL, AV.mv, AV.base, AV.moved, AV.src, TI.flat, apSize, pickAV, St.val, St.cond, St.fn, St.next, St.set, St.trim, wipe_eq, wipeE_app, wipeM_app, pickEnv, get?, cGet, upd_app, withPuts, killAll, rm, freshP, Oper.hnd, Sc.st, ofConst, constOk, lenAV, elemLen, loadAV, ldL, ld1, fieldAddrAV, indexAddrAV, sliceAV, convAV, buildAV, fillAV, fieldAV, Out.of, binAV, AV.rows, AV.one, AV.cells, AV.deepOk, AV.toD, toDs, partRows, partRowsM, partsDeep, TK.zeroAV, TK.zeroD, byteOf, inR, Op.operands, Call.operands, passVs, passV, passL, pass1, passB, pasVs, pasV, pasL, pas1, ownsOk, okHs, okHs2, okFin, finOk2, rho, over, backRes, backAV, backAV1, backBlk, putBack, back2, back2_V, back2_1, m2, AV.wipe, AV.wipeV, AV.wipe1, Blk.wipe, AV.hs, AV.hs.hsL, alOps, Con.start2, Con.pk, bodyQ, fini, resAV, resA, firstId, Sc.from, renEnv, renT, renV, renVs, renL, ren1, renBox, renOwn, okRen, clOf, actB, setRow, flatRows, flatD, noInv, shr_nil, shr_some, kStepF_some, shareL, AV.viewed, AV.viewed1, cAnyPath, cPick, cOf, cPath, tTab, eStrs_isCons, clash, kd, eByte, all_true]
  have e : p + 2 = p + 1 + 1 := by omega
  refine ⟨s, p, ⟨rfl, rfl⟩, ⟨h1, by omega, by omega⟩, fun y _ _ => ⟨fun _ => ⟨s, p + 1, ⟨rfl, rfl⟩, ⟨h1, by omega, by omega⟩, by simp -implicitDefEqProofs [e]⟩, fun _ => ⟨s, p + 1, ⟨rfl, rfl⟩, ⟨h1, by omega, by omega⟩, fun y hy => ⟨y, by omega, rfl, rfl, e⟩⟩⟩⟩

def cAnyText : Con := { A := Str × Int, X := List Str × Int, n := 22, args := fun _ => [.ptr 0 0], boxes := fun a => [(0, 134, [.sl true 1 (eBytes a.1), .int .i64 a.2])], pre := fun a => a.1.length ≤ 2000 ∧ 0 ≤ a.2 ∧ a.2 ≤ 1073741700, post := fun a x => x.1.length ≤ 18 ∧ (∀ s ∈ x.1, s.length ≤ 15) ∧ a.2 ≤ x.2 ∧ x.2 ≤ a.2 + 12, res := fun _ x => .own 8 1 (eStrs x.1), fin := fun a x => [(0, rdBox a.1 x.2), (8, .own 9 1 true (eStrs x.1))], nob := false }
set_option maxHeartbeats 4000000 in
theorem anyText_has : Has Tryd.prog 125 cAnyText := by
  refine has_walk mixed tTab_ok (l := [(110, cPick), (69, cOf), (151, cText)]) (HasL.cons pick_has (HasL.cons of_has (HasL.cons text_has HasL.nil))) [0, 2, 3, 7] ((fun a n (_ : Nat) => (fun _ => noInv) a n)) [] Tryd.func125 (by kernel_rfl) (code := _) (by unfold Tryd.f125; rfl) (by kernel_rfl) (by decide) (fun a => ⟨(([] : List Str), a.2), Nat.zero_le 18, (by simp), Int.le_refl _, by omega⟩) (by intro h; first | exact fun _ => rfl | cases h) (by kernel_rfl) ?_
  intro a ha
  obtain ⟨s, p⟩ := a
  obtain ⟨h1, h2, h3⟩ : s.length ≤ 2000 ∧ 0 ≤ p ∧ p ≤ 1073741700 := ha
  simp -implicitDefEqProofs [vc_skip, extOf, vc_seq, vc_cond, vc_block, vc_exit, vc_ret, vc_region, vc_regionD, vc_loop, kSeq_normal, kSeq_ret, kSeq_exit, kBlock_normal, kBlock_ret, kBlock_exit, kLoop_normal, kLoop_ret, kLoop_exit, kCond_bool, kNorm_app, vcOps_nil, vcOps_cons, kOps_app, kStep_some, kStep_none, vcDL_nil, vcDL_cons, kOpsD_app, kStepD_true, kStepD_false, kStepC_some, kStepC_none, kMv_app, act3_store, act3_call, act3_bs, kAct_app, kSt2_app, stealSlots, stealL, stealOne, subIn, AV.stolen, act_store, act_bs, act_append, act_call, kSet_app, kSet2_app, kSetG_app, kSetG_app0, kStore_ptr, kStore_eptr, kCallW_some, kCallC_some, kCall_some, wk_T, wk_n, wk_keep, wk_inv, wk_act, wk_dr, wk_le, aCalm, wantC, dstOk, calm, aCallK, aCall3K, subOf, subRep, aCall2K, apnd, bsMove, putBox, putOwn, partAV, mvL, AV.mv, AV.base, AV.moved, AV.src, TI.flat, apSize, pickAV, St.val, St.cond, St.fn, St.next, St.set, St.trim, wipe_eq, wipeE_app, wipeM_app, pickEnv, get?, cGet, upd_app, withPuts, killAll, rm, freshP, Oper.hnd, Sc.st, ofConst, constOk, lenAV, elemLen, loadAV, ldL, ld1, fieldAddrAV, indexAddrAV, sliceAV, convAV, buildAV, fillAV, fieldAV, Out.of, binAV, AV.rows, AV.one, AV.cells, AV.deepOk, AV.toD, toDs, partRows, partRowsM, partsDeep, TK.zeroAV, TK.zeroD, byteOf, inR, Op.operands, Call.operands, passVs, passV, passL, pass1, passB, pasVs, pasV, pasL, pas1, ownsOk, okHs, okHs2, okFin, finOk2, rho, over, backRes, backAV, backAV1, backBlk, putBack, back2, back2_V, back2_1, m2, AV.wipe, AV.wipeV, AV.wipe1, Blk.wipe, AV.hs, AV.hs.hsL, alOps, Con.start2, Con.pk, bodyQ, fini, resAV, resA, firstId, Sc.from, renEnv, renT, renV, renVs, renL, ren1, renBox, renOwn, okRen, clOf, actB, setRow, flatRows, flatD, noInv, shr_nil, shr_some, kStepF_some, shareL, AV.viewed, AV.viewed1, cAnyText, cPick, cOf, cText, tTab, eStrs_isCons, clash, kd, eByte, all_true]
  refine ⟨s, p, ⟨rfl, rfl⟩, ⟨h1, by omega, by omega⟩, fun l q g1 g2 g3 g4 => ⟨s, q, ⟨rfl, rfl⟩, ⟨h1, by omega, by omega⟩, fun y _ _ => ?_⟩⟩
  have one : ∀ x : Str, x.length ≤ 15 → ((l.length + 1) * 16 ≤ 140737488355328 ∧ l.length ≤ 140737488355327) ∧ ∃ a b, (a.length ≤ 18 ∧ (∀ s : Str, s ∈ a → s.length ≤ 15) ∧ p ≤ b ∧ b ≤ p + 12) ∧ eStrs a = eStrs l ++ [[D.str x]] ∧ (s = s ∧ b = q + 1 + 1) ∧ eStrs l ++ [[D.str x]] = eStrs a := by
    intro x hx
    refine ⟨⟨by omega, by omega⟩, l ++ [x], q + 1 + 1, ⟨by simp; omega, fun z hz => ?_, by omega, by omega⟩, (by simp -implicitDefEqProofs [eStrs, eStr]), ⟨rfl, rfl⟩, (by simp -implicitDefEqProofs [eStrs, eStr])⟩
    rcases List.mem_append.1 hz with hz | hz
    · have := g2 z hz; omega
    · simp at hz; subst hz; exact hx
  refine ⟨fun _ => ⟨s, q + 1, ⟨rfl, rfl⟩, ⟨h1, by omega, by omega⟩, one _ (by decide), one _ (by decide), one _ (by decide)⟩, fun _ => ⟨fun _ => ⟨⟨by omega, by omega⟩, l ++ [[49], [50], [51], [52], [53], [54], [55], [56], [57], [49, 48]], q + 1, ⟨by simp; omega, fun z hz => ?_, by omega, by omega⟩, (by simp -implicitDefEqProofs [eStrs, eStr]), ⟨rfl, rfl⟩, (by simp -implicitDefEqProofs [eStrs, eStr])⟩,
    fun _ => ⟨l, q + 1, ⟨by omega, fun z hz => by have := g2 z hz; omega, by omega, by omega⟩, rfl, ⟨rfl, rfl⟩, rfl⟩⟩⟩
  rcases List.mem_append.1 hz with hz | hz
  · have := g2 z hz; omega
  · simp at hz
    rcases hz with rfl | rfl | rfl | rfl | rfl | rfl | rfl | rfl | rfl | rfl <;> decide

/-- What is known of a drawn tree. -/
def drawnT (t : List FileD) : Prop := t.length ≤ 6 ∧ ∀ f ∈ t, f.path.length ≤ 7 ∧ f.text.length ≤ 18 ∧ ∀ s ∈ f.text, s.length ≤ 15
def cTreeD : Con := { A := Str × Int, X := List FileD × Int, n := 27, args := fun _ => [.ptr 0 0], boxes := fun a => [(0, 134, [.sl true 1 (eBytes a.1), .int .i64 a.2])], pre := fun a => a.1.length ≤ 2000 ∧ 0 ≤ a.2 ∧ a.2 ≤ 1073741600, post := fun a x => x.1.length ≤ 5 ∧ (∀ f ∈ x.1, f.path.length ≤ 7 ∧ f.text.length ≤ 18 ∧ ∀ s ∈ f.text, s.length ≤ 15) ∧ a.2 ≤ x.2 ∧ x.2 ≤ a.2 + 60, res := fun _ x => .own 8 2 (eFiles x.1), fin := fun a x => [(0, rdBox a.1 x.2), (8, .own 32 2 true (eFiles x.1))], nob := false }
set_option maxHeartbeats 4000000 in
theorem treeD_has : Has Tryd.prog 111 cTreeD := by
  refine has_walk mixed tTab_ok (l := [(110, cPick), (150, cPath), (151, cText), (149, cTreeSetS), (86, cL4Copy)]) (HasL.cons pick_has (HasL.cons path_has (HasL.cons text_has (HasL.cons treeSetS_has (HasL.cons l4Copy_has HasL.nil))))) [0, 2, 3, 4, 5] ((fun a n (_ : Nat) => (fun a _ => ⟨List FileD × Int × Nat, fun t => ⟨[(0, true, .ptr 0 0), (2, true, .nil), (3, true, .sl false 2 (eFiles t.1)), (4, true, .int .i64 t.2.2)], [(0, rdBox a.1 t.2.1)]⟩, fun t => t.1.length + t.2.2 ≤ 5 ∧ (∀ f ∈ t.1, f.path.length ≤ 7 ∧ f.text.length ≤ 18 ∧ ∀ s ∈ f.text, s.length ≤ 15) ∧ a.2 ≤ t.2.1 ∧ t.2.1 + 10 * t.2.2 ≤ a.2 + 60, fun t => t.2.2⟩) a n)) [] Tryd.func111 (by kernel_rfl) (code := _) (by unfold Tryd.f111; rfl) (by kernel_rfl) (by decide) (fun a => ⟨(([] : List FileD), a.2), Nat.zero_le 5, (by simp), Int.le_refl _, by omega⟩) (by intro h; first | exact fun _ => rfl | cases h) (by kernel_rfl) ?_
  intro a ha
  obtain ⟨s, p⟩ := a
  obtain ⟨h1, h2, h3⟩ : s.length ≤ 2000 ∧ 0 ≤ p ∧ p ≤ 1073741600 := ha
  simp -implicitDefEqProofs [vc_skip, extOf, vc_seq, vc_cond, vc_block, vc_exit, vc_ret, vc_region, vc_regionD, vc_loop, kSeq_normal, kSeq_ret, kSeq_exit, kBlock_normal, kBlock_ret, kBlock_exit, kLoop_normal, kLoop_ret, kLoop_exit, kCond_bool, kNorm_app, vcOps_nil, vcOps_cons, kOps_app, kStep_some, kStep_none, vcDL_nil, vcDL_cons, kOpsD_app, kStepD_true, kStepD_false, kStepC_some, kStepC_none, kMv_app, act3_store, act3_call, act3_bs, kAct_app, kSt2_app, stealSlots, stealL, stealOne, subIn, AV.stolen, act_store, act_bs, act_append, act_call, kSet_app, kSet2_app, kSetG_app, kSetG_app0, kStore_ptr, kStore_eptr, kCallW_some, kCallC_some, kCall_some, wk_T, wk_n, wk_keep, wk_inv, wk_act, wk_dr, wk_le, aCalm, wantC, dstOk, calm, aCallK, aCall3K, subOf, subRep, aCall2K, apnd, bsMove, putBox, putOwn, partAV, mvL, AV.mv, AV.base, AV.moved, AV.src, TI.flat, apSize, pickAV, St.val, St.cond, St.fn, St.next, St.set, St.trim, wipe_eq, wipeE_app, wipeM_app, pickEnv, get?, cGet, upd_app, withPuts, killAll, rm, freshP, Oper.hnd, Sc.st, ofConst, constOk, lenAV, elemLen, loadAV, ldL, ld1, fieldAddrAV, indexAddrAV, sliceAV, convAV, buildAV, fillAV, fieldAV, Out.of, binAV, AV.rows, AV.one, AV.cells, AV.deepOk, AV.toD, toDs, partRows, partRowsM, partsDeep, TK.zeroAV, TK.zeroD, byteOf, inR, Op.operands, Call.operands, passVs, passV, passL, pass1, passB, pasVs, pasV, pasL, pas1, ownsOk, okHs, okHs2, okFin, finOk2, rho, over, backRes, backAV, backAV1, backBlk, putBack, back2, back2_V, back2_1, m2, AV.wipe, AV.wipeV, AV.wipe1, Blk.wipe, AV.hs, AV.hs.hsL, alOps, Con.start2, Con.pk, bodyQ, fini, resAV, resA, firstId, Sc.from, renEnv, renT, renV, renVs, renL, ren1, renBox, renOwn, okRen, clOf, actB, setRow, flatRows, flatD, noInv, shr_nil, shr_some, kStepF_some, shareL, AV.viewed, AV.viewed1, cTreeD, cPick, cPath, cText, cTreeSetS, cL4Copy, tTab, clash, kd, eByte, all_true]
  refine ⟨s, p, ⟨rfl, rfl⟩, ⟨h1, by omega, by omega⟩, fun y hy hy2 => ⟨⟨[], p + 1, y.toNat, ⟨⟨rfl, by omega⟩, rfl, rfl⟩, by simp; omega, by simp, by omega, by omega⟩, fun t q n g1 g2 g3 g4 => ⟨fun hn => ?_, fun hn => ⟨⟨by omega, fun f hf => by have := (g2 f hf).2.1; omega⟩, t, q, ⟨by omega, g2, by omega, by omega⟩, rfl, rfl, rfl⟩⟩⟩⟩
  refine ⟨s, q, ⟨rfl, rfl⟩, ⟨h1, by omega, by omega⟩, fun y hy => ⟨s, q + 1, ⟨rfl, rfl⟩, ⟨h1, by omega, by omega⟩, fun l q2 k1 k2 k3 k4 => ⟨t, ⟨y, l⟩, ⟨rfl, rfl, rfl⟩, ⟨⟨by omega, fun f hf => by have := (g2 f hf).2.1; omega⟩, (by show l.length ≤ _; omega)⟩, ⟨by omega, by omega⟩, fun _ _ => ⟨(treeSetS t ⟨y, l⟩).1, q2, n - 1, ?_⟩⟩⟩⟩
  have e1 := treeSetS_len t ⟨y, l⟩
  have e2 := treeSetS_mem t ⟨y, l⟩
  refine ⟨⟨⟨rfl, by omega⟩, rfl, rfl⟩, ⟨by omega, fun f hf => ?_, by omega, by omega⟩, by omega⟩
  rcases e2 f hf with h | rfl
  · exact g2 f h
  · exact ⟨by show y.length ≤ 7; omega, by show l.length ≤ 18; omega, fun z hz => by have := k2 z hz; omega⟩

def cAnyTree : Con := { A := Str × Int, X := List FileD × Int, n := 42, args := fun _ => [.ptr 0 0], boxes := fun a => [(0, 134, [.sl true 1 (eBytes a.1), .int .i64 a.2])], pre := fun a => a.1.length ≤ 2000 ∧ 0 ≤ a.2 ∧ a.2 ≤ 1073741500, post := fun a x => drawnT x.1 ∧ a.2 ≤ x.2 ∧ x.2 ≤ a.2 + 80, res := fun _ x => .sl false 2 (eFiles x.1), fin := fun a x => [(0, rdBox a.1 x.2)], nob := false }
set_option maxHeartbeats 4000000 in
theorem anyTree_has : Has Tryd.prog 68 cAnyTree := by
  refine has_walk mixed tTab_ok (l := [(111, cTreeD), (110, cPick), (124, cAnyPath), (125, cAnyText)]) (HasL.cons treeD_has (HasL.cons pick_has (HasL.cons anyPath_has (HasL.cons anyText_has HasL.nil)))) [0, 2, 3, 4, 15] ((fun a n (_ : Nat) => (fun _ => noInv) a n)) [4135] Tryd.func68 (by kernel_rfl) (code := _) (by unfold Tryd.f68; rfl) (by kernel_rfl) (by decide) (fun a => ⟨(([] : List FileD), a.2), ⟨Nat.zero_le 6, by simp⟩, Int.le_refl _, by omega⟩) (by intro h; first | exact fun _ => rfl | cases h) (by kernel_rfl) ?_
  intro a ha
  obtain ⟨s, p⟩ := a
  obtain ⟨h1, h2, h3⟩ : s.length ≤ 2000 ∧ 0 ≤ p ∧ p ≤ 1073741500 := ha
  simp -implicitDefEqProofs [vc_skip, extOf, vc_seq, vc_cond, vc_block, vc_exit, vc_ret, vc_region, vc_regionD, vc_loop, kSeq_normal, kSeq_ret, kSeq_exit, kBlock_normal, kBlock_ret, kBlock_exit, kLoop_normal, kLoop_ret, kLoop_exit, kCond_bool, kNorm_app, vcOps_nil, vcOps_cons, kOps_app, kStep_some, kStep_none, vcDL_nil, vcDL_cons, kOpsD_app, kStepD_true, kStepD_false, kStepC_some, kStepC_none, kMv_app, act3_store, act3_call, act3_bs, kAct_app, kSt2_app, stealSlots, stealL, stealOne, subIn, AV.stolen, act_store, act_bs, act_append, act_call, kSet_app, kSet2_app, kSetG_app, kSetG_app0, kStore_ptr, kStore_eptr, kCallW_some, kCallC_some, kCall_some, wk_T, wk_n, wk_keep, wk_inv, wk_act, wk_dr, wk_le, aCalm, wantC, dstOk, calm, aCallK, aCall3K, subOf, subRep, aCall2K, apnd, bsMove, putBox, putOwn, partAV, mvL, AV.mv, AV.base, AV.moved, AV.src, TI.flat, apSize, pickAV, St.val, St.cond, St.fn, St.next, St.set, St.trim, wipe_eq, wipeE_app, wipeM_app, pickEnv, get?, cGet, upd_app, withPuts, killAll, rm, freshP, Oper.hnd, Sc.st, ofConst, constOk, lenAV, elemLen, loadAV, ldL, ld1, fieldAddrAV, indexAddrAV, sliceAV, convAV, buildAV, fillAV, fieldAV, Out.of, binAV, AV.rows, AV.one, AV.cells, AV.deepOk, AV.toD, toDs, partRows, partRowsM, partsDeep, TK.zeroAV, TK.zeroD, byteOf, inR, Op.operands, Call.operands, passVs, passV, passL, pass1, passB, pasVs, pasV, pasL, pas1, ownsOk, okHs, okHs2, okFin, finOk2, rho, over, backRes, backAV, backAV1, backBlk, putBack, back2, back2_V, back2_1, m2, AV.wipe, AV.wipeV, AV.wipe1, Blk.wipe, AV.hs, AV.hs.hsL, alOps, Con.start2, Con.pk, bodyQ, fini, resAV, resA, firstId, Sc.from, renEnv, renT, renV, renVs, renL, ren1, renBox, renOwn, okRen, clOf, actB, setRow, flatRows, flatD, noInv, shr_nil, shr_some, kStepF_some, shareL, AV.viewed, AV.viewed1, cAnyTree, cTreeD, cPick, cAnyPath, cAnyText, tTab, clash, kd, eByte, all_true]
  refine ⟨s, p, ⟨rfl, rfl⟩, ⟨h1, by omega, by omega⟩, fun t q g1 g2 g3 g4 _ => ⟨fun hp _ => ⟨s, q, ⟨rfl, rfl⟩, ⟨h1, by omega, by omega, by omega⟩, fun k _ hk => ⟨s, q + 1, ⟨rfl, rfl⟩, ⟨h1, by omega, by omega⟩, fun y _ _ => ?_⟩⟩, fun _ => ⟨t, q, ⟨⟨by omega, g2⟩, by omega, by omega⟩, rfl, rfl, rfl⟩⟩⟩
  obtain ⟨k1, k2⟩ := hk (by omega)
  have hk : k.toNat < t.length := by omega
  have e : Option.map eFile t[k.toNat]? = some (eFile t[k.toNat]) := by simp -implicitDefEqProofs [hk]
  have gk := g2 t[k.toNat] (List.getElem_mem hk)
  have ds : ∀ g : FileD, (g.path.length ≤ 7 ∧ g.text.length ≤ 18 ∧ ∀ s ∈ g.text, s.length ≤ 15) → drawnT (t.set k.toNat g) := fun g hg => ⟨by simp; omega, fun f hf => (List.mem_or_eq_of_mem_set hf).elim (g2 f) fun h => h ▸ hg⟩
  simp -implicitDefEqProofs [e, k1, k2, hk]
  refine ⟨fun _ => ⟨s, q + 2, ⟨rfl, by omega⟩, ⟨h1, by omega, by omega⟩, fun z hz => ?_⟩, fun _ => ⟨fun _ => ⟨s, q + 2, ⟨rfl, by omega⟩, ⟨h1, by omega, by omega⟩, fun l q2 m1 m2 m3 m4 => ?_⟩, fun _ => ⟨fun _ => ?_, fun _ => ?_⟩⟩⟩
  · exact ⟨t.set k.toNat ⟨z, t[k.toNat].text⟩, q + 2 + 2, ⟨ds _ ⟨hz, gk.2⟩, by omega, by omega⟩, (eFiles_set t k.toNat z t[k.toNat].text).symm, rfl, rfl⟩
  · exact ⟨by simp -implicitDefEqProofs [eFile], fun _ => ⟨t.set k.toNat ⟨t[k.toNat].path, l⟩, q2, ⟨ds _ ⟨gk.1, m1, m2⟩, by omega, by omega⟩, (eFiles_set t k.toNat t[k.toNat].path l).symm, rfl, rfl⟩⟩
  · refine ⟨⟨by simp -implicitDefEqProofs [eFile], rfl, rfl⟩, fun _ _ _ => ⟨⟨by omega, by omega⟩, t ++ [t[k.toNat]], ⟨⟨by simp; omega, fun f hf => ?_⟩, by omega, by omega⟩, by simp -implicitDefEqProofs [eFiles, eFile]⟩⟩
    rcases List.mem_append.1 hf with h | h
    · exact g2 f h
    · simp at h; subst h; exact gk
  · exact ⟨⟨by omega, g2⟩, by omega, by omega⟩

def seekWords : List Str := [[97], [120], [115, 101, 101], [101, 110, 100], [101], [101, 110], []]
def cDrawSeekTree : Con := { A := Str, X := List FileD × Str, n := 14, args := fun s => [.sl true 1 (eBytes s)], boxes := fun _ => [], pre := fun _ => True, post := fun _ x => drawnT x.1 ∧ x.2 ∈ seekWords, res := fun _ x => .tup [.sl false 2 (eFiles x.1), .str x.2], fin := fun _ _ => [] }
set_option maxHeartbeats 4000000 in
theorem drawSeekTree_has : Has Tryd.prog 14 cDrawSeekTree := by
  refine has_walk mixed tTab_ok (l := [(67, cL30Open), (68, cAnyTree), (69, cOf)]) (HasL.cons l30Open_has (HasL.cons anyTree_has (HasL.cons of_has HasL.nil))) [0, 2, 3, 4, 5] ((fun a n (_ : Nat) => (fun _ => noInv) a n)) [] Tryd.func14 (by kernel_rfl) (code := _) (by unfold Tryd.f14; rfl) (by kernel_rfl) (by decide) (fun _ => ⟨(([] : List FileD), []), ⟨Nat.zero_le 6, by simp⟩, by simp -implicitDefEqProofs [seekWords]⟩) (by intro h; first | exact fun _ => rfl | cases h) (by kernel_rfl) ?_
  intro (s : Str) _
  simp -implicitDefEqProofs [vc_skip, extOf, vc_seq, vc_cond, vc_block, vc_exit, vc_ret, vc_region, vc_regionD, vc_loop, kSeq_normal, kSeq_ret, kSeq_exit, kBlock_normal, kBlock_ret, kBlock_exit, kLoop_normal, kLoop_ret, kLoop_exit, kCond_bool, kNorm_app, vcOps_nil, vcOps_cons, kOps_app, kStep_some, kStep_none, vcDL_nil, vcDL_cons, kOpsD_app, kStepD_true, kStepD_false, kStepC_some, kStepC_none, kMv_app, act3_store, act3_call, act3_bs, kAct_app, kSt2_app, stealSlots, stealL, stealOne, subIn, AV.stolen, act_store, act_bs, act_append, act_call, kSet_app, kSet2_app, kSetG_app, kSetG_app0, kStore_ptr, kStore_eptr, kCallW_some, kCallC_some, kCall_some, wk_T, wk_n, wk_keep, wk_inv, wk_act, wk_dr, wk_le, aCalm, wantC, dstOk, calm, aCallK, aCall3K, subOf, subRep, aCall2K, apnd, bsMove, putBox, putOwn, partAV, mvL, AV.mv, AV.base, AV.moved, AV.src, TI.flat, apSize, pickAV, St.val, St.cond, St.fn, St.next, St.set, St.trim, wipe_eq, wipeE_app, wipeM_app, pickEnv, get?, cGet, upd_app, withPuts, killAll, rm, freshP, Oper.hnd, Sc.st, ofConst, constOk, lenAV, elemLen, loadAV, ldL, ld1, fieldAddrAV, indexAddrAV, sliceAV, convAV, buildAV, fillAV, fieldAV, Out.of, binAV, AV.rows, AV.one, AV.cells, AV.deepOk, AV.toD, toDs, partRows, partRowsM, partsDeep, TK.zeroAV, TK.zeroD, byteOf, inR, Op.operands, Call.operands, passVs, passV, passL, pass1, passB, pasVs, pasV, pasL, pas1, ownsOk, okHs, okHs2, okFin, finOk2, rho, over, backRes, backAV, backAV1, backBlk, putBack, back2, back2_V, back2_1, m2, AV.wipe, AV.wipeV, AV.wipe1, Blk.wipe, AV.hs, AV.hs.hsL, alOps, Con.start2, Con.pk, bodyQ, fini, resAV, resA, firstId, Sc.from, renEnv, renT, renV, renVs, renL, ren1, renBox, renOwn, okRen, clOf, actB, setRow, flatRows, flatD, noInv, shr_nil, shr_some, kStepF_some, shareL, AV.viewed, AV.viewed1, cDrawSeekTree, cL30Open, cAnyTree, cOf, tTab, Con.fn, eStrs_isCons, clash, kd, eByte, all_true]
  exact ⟨s.take 2000, 0, ⟨rfl, rfl⟩, ⟨by simp; omega, by omega, by omega⟩, fun t q g1 g2 g3 => ⟨s.take 2000, q, ⟨rfl, rfl⟩, ⟨by simp; omega, by omega, by omega⟩, by simp -implicitDefEqProofs [g1, seekWords]⟩⟩





end Vx
end Go.Proofs.YtlhkmgbmnbkaeaaDoor
/-
  Contracts: the law FnSeekTree.
-/
namespace Go.Proofs.YtlhkmgbmnbkaeaaDoor
namespace Vx
open Go.RowKit
set_option maxRecDepth 8000

def cSmTexts : Con := .fn 26 (List Str × List Str) (fun a => [.sl true 1 (eStrs a.1), .sl true 1 (eStrs a.2)]) (fun _ => True) (fun a => .bool (decide (a.1 = a.2))) (fun _ => [])
set_option maxHeartbeats 4000000 in
theorem smTexts_has : Has Tryd.prog 16 cSmTexts := by
  refine has_walk mixed tTab_ok (l := []) HasL.nil [0, 1, 4, 5] ((fun a n (_ : Nat) => (fun a _ => ⟨Nat, fun i => ⟨[(0, true, .sl true 1 (eStrs a.1)), (1, true, .sl true 1 (eStrs a.2)), (4, true, .bool false), (5, true, .int .i64 i)], []⟩, fun i => a.1.length = a.2.length ∧ i ≤ a.1.length ∧ a.1.take i = a.2.take i, fun i => a.1.length - i⟩) a n)) [] Tryd.func16 (by kernel_rfl) (code := _) (by unfold Tryd.f16; rfl) (by kernel_rfl) (by decide) (fun _ => ⟨(), trivial⟩) (by intro h; first | exact fun _ => rfl | cases h) (by kernel_rfl) ?_
  intro a _
  obtain ⟨l, m⟩ := a
  have k1 : ∀ i (h : i < l.length) (h' : i < m.length), l[i] = m[i] → l.take i = m.take i → l.take (i + 1) = m.take (i + 1) := fun i h h' e e2 => by rw [take_succ' h, take_succ' h', e, e2]
  have k2 : ∀ i, l.length = m.length → l.length ≤ i → l.take i = m.take i → l = m := fun i h h' e => by rwa [List.take_of_length_le h', List.take_of_length_le (by omega)] at e
  have k3 : ∀ i (h : i < l.length) (h' : i < m.length), ¬ l[i] = m[i] → ¬ l = m := fun i h h' e e2 => by subst e2; exact e rfl
  simp -implicitDefEqProofs [vc_skip, extOf, vc_seq, vc_cond, vc_block, vc_exit, vc_ret, vc_region, vc_regionD, vc_loop, kSeq_normal, kSeq_ret, kSeq_exit, kBlock_normal, kBlock_ret, kBlock_exit, kLoop_normal, kLoop_ret, kLoop_exit, kCond_bool, kNorm_app, vcOps_nil, vcOps_cons, kOps_app, kStep_some, kStep_none, vcDL_nil, vcDL_cons, kOpsD_app, kStepD_true, kStepD_false, kStepC_some, kStepC_none, kMv_app, act3_store, act3_call, act3_bs, kAct_app, kSt2_app, stealSlots, stealL, stealOne, subIn, AV.stolen, act_store, act_bs, act_append, act_call, kSet_app, kSet2_app, kSetG_app, kSetG_app0, kStore_ptr, kStore_eptr, kCallW_some, kCallC_some, kCall_some, wk_T, wk_n, wk_keep, wk_inv, wk_act, wk_dr, wk_le, aCalm, wantC, dstOk, calm, aCallK, aCall3K, subOf, subRep, aCall2K, apnd, bsMove, putBox, putOwn, partAV, mvL, AV.mv, AV.base, AV.moved, AV.src, TI.flat, apSize, pickAV, St.val, St.cond, St.fn, St.next, St.set, St.trim, wipe_eq, wipeE_app, wipeM_app, pickEnv, get?, cGet, upd_app, withPuts, killAll, rm, freshP, Oper.hnd, Sc.st, ofConst, constOk, lenAV, elemLen, loadAV, ldL, ld1, fieldAddrAV, indexAddrAV, sliceAV, convAV, buildAV, fillAV, fieldAV, Out.of, binAV, AV.rows, AV.one, AV.cells, AV.deepOk, AV.toD, toDs, partRows, partRowsM, partsDeep, TK.zeroAV, TK.zeroD, byteOf, inR, Op.operands, Call.operands, passVs, passV, passL, pass1, passB, pasVs, pasV, pasL, pas1, ownsOk, okHs, okHs2, okFin, finOk2, rho, over, backRes, backAV, backAV1, backBlk, putBack, back2, back2_V, back2_1, m2, AV.wipe, AV.wipeV, AV.wipe1, Blk.wipe, AV.hs, AV.hs.hsL, alOps, Con.start2, Con.pk, bodyQ, fini, resAV, resA, firstId, Sc.from, renEnv, renT, renV, renVs, renL, ren1, renBox, renOwn, okRen, clOf, actB, setRow, flatRows, flatD, noInv, shr_nil, shr_some, kStepF_some, shareL, AV.viewed, AV.viewed1, cSmTexts, Con.fn, tTab]
  try dsimp only
  try simp +contextual -implicitDefEqProofs [eStr, eFile, cast_succ, cast_eq, cast_zero, List.getElem?_eq_getElem, eStrs_set, eFiles_set, eStrs_rep, eFiles_rep, ← eStrs_append, ← eFiles_append, eStrs_take, eStrs_drop, eFiles_take, eFiles_drop, eStrs_snoc, eFiles_snoc, and_assoc]
  repeat' (first | intro _ | apply And.intro)
  all_goals first | omega | grind [all_take]

def cSmHas : Con := .fn 18 (List Str × Str) (fun a => [.sl true 1 (eStrs a.1), .str a.2]) (fun _ => True) (fun a => .bool (pathIn a.1 a.2)) (fun _ => [])
set_option maxHeartbeats 4000000 in
theorem smHas_has : Has Tryd.prog 19 cSmHas := by
  refine has_walk mixed tTab_ok (l := []) HasL.nil [0, 1, 4, 5] ((fun a n (_ : Nat) => (fun a _ => ⟨Nat, fun i => ⟨[(0, true, .sl true 1 (eStrs a.1)), (1, true, .str a.2), (4, true, .bool false), (5, true, .int .i64 i)], []⟩, fun i => i ≤ a.1.length ∧ ∀ x, x ∈ a.1.take i → ¬ x = a.2, fun i => a.1.length - i⟩) a n)) [] Tryd.func19 (by kernel_rfl) (code := _) (by unfold Tryd.f19; rfl) (by kernel_rfl) (by decide) (fun _ => ⟨(), trivial⟩) (by intro h; first | exact fun _ => rfl | cases h) (by kernel_rfl) ?_
  intro a _
  obtain ⟨l, s⟩ := a
  have h3 := fun i => @take_step _ l i (fun y => ¬ y = s)
  have h1 : ∀ i (h : i < l.length), l[i] = s → pathIn l s = true := fun i h hp => by simp -implicitDefEqProofs [pathIn, ← hp]
  have h2 : ∀ i, l.length ≤ i → (∀ x, x ∈ l.take i → ¬ x = s) → pathIn l s = false := fun i h hb => by
    rw [List.take_of_length_le h] at hb
    simp only [pathIn, decide_eq_false_iff_not]
    exact fun hm => hb s hm rfl
  simp -implicitDefEqProofs [vc_skip, extOf, vc_seq, vc_cond, vc_block, vc_exit, vc_ret, vc_region, vc_regionD, vc_loop, kSeq_normal, kSeq_ret, kSeq_exit, kBlock_normal, kBlock_ret, kBlock_exit, kLoop_normal, kLoop_ret, kLoop_exit, kCond_bool, kNorm_app, vcOps_nil, vcOps_cons, kOps_app, kStep_some, kStep_none, vcDL_nil, vcDL_cons, kOpsD_app, kStepD_true, kStepD_false, kStepC_some, kStepC_none, kMv_app, act3_store, act3_call, act3_bs, kAct_app, kSt2_app, stealSlots, stealL, stealOne, subIn, AV.stolen, act_store, act_bs, act_append, act_call, kSet_app, kSet2_app, kSetG_app, kSetG_app0, kStore_ptr, kStore_eptr, kCallW_some, kCallC_some, kCall_some, wk_T, wk_n, wk_keep, wk_inv, wk_act, wk_dr, wk_le, aCalm, wantC, dstOk, calm, aCallK, aCall3K, subOf, subRep, aCall2K, apnd, bsMove, putBox, putOwn, partAV, mvL, AV.mv, AV.base, AV.moved, AV.src, TI.flat, apSize, pickAV, St.val, St.cond, St.fn, St.next, St.set, St.trim, wipe_eq, wipeE_app, wipeM_app, pickEnv, get?, cGet, upd_app, withPuts, killAll, rm, freshP, Oper.hnd, Sc.st, ofConst, constOk, lenAV, elemLen, loadAV, ldL, ld1, fieldAddrAV, indexAddrAV, sliceAV, convAV, buildAV, fillAV, fieldAV, Out.of, binAV, AV.rows, AV.one, AV.cells, AV.deepOk, AV.toD, toDs, partRows, partRowsM, partsDeep, TK.zeroAV, TK.zeroD, byteOf, inR, Op.operands, Call.operands, passVs, passV, passL, pass1, passB, pasVs, pasV, pasL, pas1, ownsOk, okHs, okHs2, okFin, finOk2, rho, over, backRes, backAV, backAV1, backBlk, putBack, back2, back2_V, back2_1, m2, AV.wipe, AV.wipeV, AV.wipe1, Blk.wipe, AV.hs, AV.hs.hsL, alOps, Con.start2, Con.pk, bodyQ, fini, resAV, resA, firstId, Sc.from, renEnv, renT, renV, renVs, renL, ren1, renBox, renOwn, okRen, clOf, actB, setRow, flatRows, flatD, noInv, shr_nil, shr_some, kStepF_some, shareL, AV.viewed, AV.viewed1, cSmHas, Con.fn, tTab]
  try dsimp only
  try simp +contextual -implicitDefEqProofs [eStr, eFile, cast_succ, cast_eq, cast_zero, List.getElem?_eq_getElem, eStrs_set, eFiles_set, eStrs_rep, eFiles_rep, ← eStrs_append, ← eFiles_append, eStrs_take, eStrs_drop, eFiles_take, eFiles_drop, eStrs_snoc, eFiles_snoc, and_assoc]
  repeat' (first | intro _ | apply And.intro)
  all_goals first | omega | grind [all_take]

def cSmPart : Con := .fn 24 (Str × Str) (fun a => [.str a.1, .str a.2]) (fun a => a.1.length ≤ 1099511627776 ∧ a.2.length ≤ 1099511627776) (fun a => .bool (partB a.1 a.2)) (fun _ => [])
set_option maxHeartbeats 4000000 in
theorem smPart_has : Has Tryd.prog 20 cSmPart := by
  refine has_walk mixed tTab_ok (l := []) HasL.nil [0, 1, 4, 5] ((fun a n (_ : Nat) => (fun a _ => ⟨Nat, fun i => ⟨[(0, true, .str a.1), (1, true, .str a.2), (4, true, .bool false), (5, true, .int .i64 i)], []⟩, fun i => i ≤ a.1.length + 1 ∧ ∀ j, j < i → j + a.2.length ≤ a.1.length → ¬ (a.1.drop j).take a.2.length = a.2, fun i => a.1.length + 1 - i⟩) a n)) [] Tryd.func20 (by kernel_rfl) (code := _) (by unfold Tryd.f20; rfl) (by kernel_rfl) (by decide) (fun _ => ⟨(), trivial⟩) (by intro h; first | exact fun _ => rfl | cases h) (by kernel_rfl) ?_
  intro a ha
  obtain ⟨s, p⟩ := a
  obtain ⟨q1, q2⟩ : s.length ≤ 1099511627776 ∧ p.length ≤ 1099511627776 := ha
  have h1 := fun i => @partB_hit s p i
  have h2 : ∀ i : Nat, s.length < i + p.length → (∀ j, j < i → j + p.length ≤ s.length → ¬ (s.drop j).take p.length = p) → partB s p = false := fun i h hb => partB_miss fun j hj => hb j (by omega) hj
  have hn : ∀ i : Nat, ((i : Int) + p.length).toNat - i = p.length := fun i => by omega
  simp -implicitDefEqProofs [vc_skip, extOf, vc_seq, vc_cond, vc_block, vc_exit, vc_ret, vc_region, vc_regionD, vc_loop, kSeq_normal, kSeq_ret, kSeq_exit, kBlock_normal, kBlock_ret, kBlock_exit, kLoop_normal, kLoop_ret, kLoop_exit, kCond_bool, kNorm_app, vcOps_nil, vcOps_cons, kOps_app, kStep_some, kStep_none, vcDL_nil, vcDL_cons, kOpsD_app, kStepD_true, kStepD_false, kStepC_some, kStepC_none, kMv_app, act3_store, act3_call, act3_bs, kAct_app, kSt2_app, stealSlots, stealL, stealOne, subIn, AV.stolen, act_store, act_bs, act_append, act_call, kSet_app, kSet2_app, kSetG_app, kSetG_app0, kStore_ptr, kStore_eptr, kCallW_some, kCallC_some, kCall_some, wk_T, wk_n, wk_keep, wk_inv, wk_act, wk_dr, wk_le, aCalm, wantC, dstOk, calm, aCallK, aCall3K, subOf, subRep, aCall2K, apnd, bsMove, putBox, putOwn, partAV, mvL, AV.mv, AV.base, AV.moved, AV.src, TI.flat, apSize, pickAV, St.val, St.cond, St.fn, St.next, St.set, St.trim, wipe_eq, wipeE_app, wipeM_app, pickEnv, get?, cGet, upd_app, withPuts, killAll, rm, freshP, Oper.hnd, Sc.st, ofConst, constOk, lenAV, elemLen, loadAV, ldL, ld1, fieldAddrAV, indexAddrAV, sliceAV, convAV, buildAV, fillAV, fieldAV, Out.of, binAV, AV.rows, AV.one, AV.cells, AV.deepOk, AV.toD, toDs, partRows, partRowsM, partsDeep, TK.zeroAV, TK.zeroD, byteOf, inR, Op.operands, Call.operands, passVs, passV, passL, pass1, passB, pasVs, pasV, pasL, pas1, ownsOk, okHs, okHs2, okFin, finOk2, rho, over, backRes, backAV, backAV1, backBlk, putBack, back2, back2_V, back2_1, m2, AV.wipe, AV.wipeV, AV.wipe1, Blk.wipe, AV.hs, AV.hs.hsL, alOps, Con.start2, Con.pk, bodyQ, fini, resAV, resA, firstId, Sc.from, renEnv, renT, renV, renVs, renL, ren1, renBox, renOwn, okRen, clOf, actB, setRow, flatRows, flatD, noInv, shr_nil, shr_some, kStepF_some, shareL, AV.viewed, AV.viewed1, cSmPart, Con.fn, tTab]
  try dsimp only
  refine fun i hi hb _ => ⟨⟨by omega, by omega⟩, fun _ _ _ => ⟨fun hle _ => ⟨⟨by omega, by omega⟩, fun _ _ => ⟨⟨by omega, by omega⟩, fun _ _ => ⟨fun e => ?_, fun e => ⟨⟨by omega, by omega⟩, fun _ _ => ⟨i + 1, by omega, ⟨by omega, fun j hj hj2 => ?_⟩, by omega⟩⟩⟩⟩⟩, fun h => h2 i (by omega) hb⟩⟩
  · rw [hn] at e; exact h1 i (by omega) e
  · rw [hn] at e
    by_cases hji : j = i
    · subst hji; exact e
    · exact hb j (by omega) hj2

end Vx
end Go.Proofs.YtlhkmgbmnbkaeaaDoor
/-
  The law FnSeekTree.
-/
namespace Go.Proofs.YtlhkmgbmnbkaeaaDoor
namespace Vx
open Go.RowKit
set_option maxRecDepth 8000

def lawT (t : List FileD) (w : Str) : Prop := drawnT t ∧ treeI t = true ∧ w ∈ seekWords ∧ w ≠ []
def hitN (t : List FileD) (w : Str) (i : Nat) : Nat := (seekL (hitS w) (t.take i)).length
abbrev seekEnv (t : List FileD) (w : Str) (i : Nat) : List (Nat × Bool × AV) := [(2, true, .bool false), (3, true, .sl false 2 (eFiles t)), (4, true, .str w), (5, true, .own 9 1 (eStrs (seekL (hitS w) t))), (6, true, .int .i64 (hitN t w i)), (7, true, .int .i64 i)]
def fsO : Inv := ⟨List FileD × Str × Nat, fun x => ⟨seekEnv x.1 x.2.1 x.2.2, ownStrs 9 (seekL (hitS x.2.1) x.1)⟩, fun x => lawT x.1 x.2.1 ∧ x.2.2 ≤ x.1.length, fun x => 6 - x.2.2⟩
def fsI (g : Nat) : Inv := ⟨List FileD × Str × Nat, fun x => ⟨seekEnv x.1 x.2.1 g ++ [(8, true, .bool (hitS x.2.1 (x.1.getD g default))), (9, true, .bool (someP ((x.1.getD g default).text.take x.2.2) x.2.1)), (10, true, .int .i64 x.2.2)], ownStrs 9 (seekL (hitS x.2.1) x.1)⟩, fun x => lawT x.1 x.2.1 ∧ g < x.1.length ∧ x.2.2 ≤ (x.1.getD g default).text.length, fun x => 18 - x.2.2⟩
def fsInv (n g : Nat) : Inv := if n = 9 then fsO else fsI g
theorem fsInv_9 (g : Nat) : fsInv 9 g = fsO := rfl
theorem fsInv_14 (g : Nat) : fsInv 14 g = fsI g := rfl
def cFnSeekTree : Con := .fn 127 Str (fun s => [.sl true 1 (eBytes s)]) (fun _ => True) (fun _ => .bool true) (fun _ => [])
set_option maxHeartbeats 4000000 in
theorem fnSeekTree_has : Has Tryd.prog 3 cFnSeekTree := by
  refine has_walk mixed tTab_ok (l := [(14, cDrawSeekTree), (15, cSeekTreeI), (17, cSeekTreeS), (16, cSmTexts), (18, cTreeOk), (19, cSmHas), (20, cSmPart)]) (HasL.cons drawSeekTree_has (HasL.cons seekTreeI_has (HasL.cons seekTreeS_has (HasL.cons smTexts_has (HasL.cons treeOk_has (HasL.cons smHas_has (HasL.cons smPart_has HasL.nil))))))) [0, 2, 3, 4, 5, 6, 7, 8, 9, 10] (fun _ => fsInv) [] Tryd.func3 (by kernel_rfl) (code := _) (by unfold Tryd.f3; rfl) (by kernel_rfl) (by decide) (fun _ => ⟨(), trivial⟩) (by intro h; first | exact fun _ => rfl | cases h) (by kernel_rfl) ?_
  intro (s : Str) _
  simp (maxSteps := 2000000) -implicitDefEqProofs [vc_skip, extOf, vc_seq, vc_cond, vc_block, vc_exit, vc_ret, vc_region, vc_regionD, vc_loop, kSeq_normal, kSeq_ret, kSeq_exit, kBlock_normal, kBlock_ret, kBlock_exit, kLoop_normal, kLoop_ret, kLoop_exit, kCond_bool, kNorm_app, vcOps_nil, vcOps_cons, kOps_app, kStep_some, kStep_none, vcDL_nil, vcDL_cons, kOpsD_app, kStepD_true, kStepD_false, kStepC_some, kStepC_none, kMv_app, act3_store, act3_call, act3_bs, kAct_app, kSt2_app, stealSlots, stealL, stealOne, subIn, AV.stolen, act_store, act_bs, act_append, act_call, kSet_app, kSet2_app, kSetG_app, kSetG_app0, kStore_ptr, kStore_eptr, kCallW_some, kCallC_some, kCall_some, wk_T, wk_n, wk_keep, wk_inv, wk_act, wk_dr, wk_le, aCalm, wantC, dstOk, calm, aCallK, aCall3K, subOf, subRep, aCall2K, apnd, bsMove, putBox, putOwn, partAV, mvL, AV.mv, AV.base, AV.moved, AV.src, TI.flat, apSize, pickAV, St.val, St.cond, St.fn, St.next, St.set, St.trim, wipe_eq, wipeE_app, wipeM_app, pickEnv, get?, cGet, upd_app, withPuts, killAll, rm, freshP, Oper.hnd, Sc.st, ofConst, constOk, lenAV, elemLen, loadAV, ldL, ld1, fieldAddrAV, indexAddrAV, sliceAV, convAV, buildAV, fillAV, fieldAV, Out.of, binAV, AV.rows, AV.one, AV.cells, AV.deepOk, AV.toD, toDs, partRows, partRowsM, partsDeep, TK.zeroAV, TK.zeroD, byteOf, inR, Op.operands, Call.operands, passVs, passV, passL, pass1, passB, pasVs, pasV, pasL, pas1, ownsOk, okHs, okHs2, okFin, finOk2, rho, over, backRes, backAV, backAV1, backBlk, putBack, back2, back2_V, back2_1, m2, AV.wipe, AV.wipeV, AV.wipe1, Blk.wipe, AV.hs, AV.hs.hsL, alOps, Con.start2, Con.pk, bodyQ, fini, resAV, resA, firstId, Sc.from, renEnv, renT, renV, renVs, renL, ren1, renBox, renOwn, okRen, clOf, actB, setRow, flatRows, flatD, noInv, shr_nil, shr_some, kStepF_some, shareL, AV.viewed, AV.viewed1, cFnSeekTree, cDrawSeekTree, cSeekTreeI, cSeekTreeS, cSmTexts, cTreeOk, cSmHas, cSmPart, Con.fn, tTab, fsInv_9, fsInv_14, fsO, fsI, seekEnv]
  have hsz : ∀ t, drawnT t → (∀ f ∈ t, List.length f.path ≤ 536870912) ∧ ∀ f ∈ t, ∀ q ∈ f.text, List.length q ≤ 1099511627776 := fun t hd => ⟨fun f hf => by have := (hd.2 f hf).1; omega, fun f hf q hq => by have := (hd.2 f hf).2.2 q hq; omega⟩
  have hnm : ∀ w, w ∈ seekWords → ¬ w = [] → nameB w = true := by
    intro w hw hne
    simp only [seekWords, List.mem_cons, List.not_mem_nil, or_false] at hw
    rcases hw with rfl | rfl | rfl | rfl | rfl | rfl | rfl
    all_goals first | rfl | exact absurd rfl hne
  have htS : ∀ t w, treeI t = true → nameB w = true → treeSeekI t w = seekL (hitS w) t := fun t w ht hw => by
    rw [seek_eq]; unfold treeSeekS; rw [← tree_eq, ht, hw]; rfl
  refine fun _ _ t w hd hw => ⟨t, w, ⟨rfl, rfl⟩, hsz t hd, t, w, ⟨rfl, rfl⟩, (hsz t hd).2, _, _, ⟨rfl, rfl⟩, fun h => absurd (seek_eq t w) h, fun _ => ⟨(hsz t hd).1, fun _ => ⟨t, w, ⟨rfl, rfl⟩, (hsz t hd).2, seek_eq t w⟩, fun ht => ⟨fun _ => ⟨t, w, ⟨rfl, rfl⟩, (hsz t hd).2, seek_eq t w⟩, fun hne => ⟨⟨t, w, 0, ⟨⟨rfl, rfl, (htS t w ht (hnm w hw hne)).symm, rfl, rfl⟩, htS t w ht (hnm w hw hne)⟩, ⟨hd, ht, hw, hne⟩, Nat.zero_le _⟩, ?_⟩⟩⟩⟩
  intro t w i hl hi _
  have hl0 := hl
  obtain ⟨hd, ht, hw, hne⟩ := hl
  refine ⟨fun hlt => ⟨hlt, fun _ => ⟨by simp -implicitDefEqProofs [hlt, eFile], fun _ _ => ⟨_, _, ⟨rfl, rfl⟩, i, ⟨t, w, 0, ⟨⟨rfl, rfl, rfl, rfl, rfl, ?_, by simp -implicitDefEqProofs [someP], rfl⟩, rfl⟩, hl0, hlt, Nat.zero_le _⟩, ?_⟩⟩⟩, fun hge _ => by unfold hitN; rw [List.take_of_length_le hge]⟩
  · have := seek_mem ht (hitS w) hlt
    simp -implicitDefEqProofs [hlt, eFile, pathIn, this]
  intro t w k hl hi hk
  have hl0 := hl
  obtain ⟨hd, ht, hw, hne⟩ := hl
  have hg : t[i]?.getD default = t[i] := by simp -implicitDefEqProofs [hi]
  have e : Option.map eFile t[i]? = some (eFile t[i]) := by simp -implicitDefEqProofs [hi]
  rw [hg] at hk
  simp -implicitDefEqProofs only [e, hg]
  simp -implicitDefEqProofs [eFile, hi, hl0]
  have hf := hd.2 _ (List.getElem_mem hi)
  have h6 := hd.1
  have hwl : List.length w ≤ 3 := by
    simp only [seekWords, List.mem_cons, List.not_mem_nil, or_false] at hw
    rcases hw with rfl | rfl | rfl | rfl | rfl | rfl | rfl <;> decide
  have hmL : 4 + List.length w ≤ maxLen := by unfold maxLen; omega
  have hnw := hnm w hw hne
  refine fun _ => ⟨fun hlt => ?_, fun hge => ?_⟩
  · have ek : t[i].text[k]? = some t[i].text[k] := List.getElem?_eq_getElem hlt
    have hq : t[i].text[k].length ≤ 15 := hf.2.2 _ (List.getElem_mem hlt)
    have s1 : someP (t[i].text.take (k + 1)) w = (someP (t[i].text.take k) w || partB t[i].text[k] w) := by unfold someP; rw [take_succ' hlt, List.any_append]; simp only [List.any_cons, List.any_nil, Bool.or_false]
    refine ⟨fun hs => ⟨⟨by omega, by omega⟩, fun _ _ => ⟨t, w, k + 1, ⟨⟨rfl, rfl, rfl, rfl, by rw [hg], by rw [hg, s1, hs]; rfl, by omega⟩, rfl⟩, ⟨hl0, hi, by rw [hg]; omega⟩, by omega⟩⟩, fun hs => ⟨hlt, fun _ => ⟨by simp -implicitDefEqProofs [ek, eStr], fun _ _ => ⟨_, _, ⟨rfl, rfl⟩, ⟨?_, by omega⟩, ⟨by omega, by omega⟩, fun _ _ => ⟨t, w, k + 1, ⟨⟨rfl, rfl, rfl, rfl, by rw [hg], ?_, by omega⟩, rfl⟩, ⟨hl0, hi, by rw [hg]; omega⟩, by omega⟩⟩⟩⟩⟩
    · simp -implicitDefEqProofs [ek, eStr]; omega
    · rw [hg, s1, hs]; simp -implicitDefEqProofs [ek, eStr]
  · rcases hh : hitS w t[i] with _ | _
    · have p1 : pathIn t[i].text w = false := by
        rw [Bool.eq_false_iff]
        intro h
        have := hit_word (f := t[i]) hnw (.inl (by simpa [pathIn] using h))
        rw [hh] at this; cases this
      have p2 : pathIn t[i].text (115 :: 101 :: 101 :: 32 :: w) = false := by
        rw [Bool.eq_false_iff]
        intro h
        have := hit_word (f := t[i]) hnw (.inr (by simpa [pathIn] using h))
        rw [hh] at this; cases this
      have f2h : hitN t w (i + 1) = hitN t w i := by unfold hitN; rw [seekL_miss hi hh]
      simp -implicitDefEqProofs [hh, p1, p2, hmL, and_assoc]
      constructor <;> intro _ <;> exact ⟨by omega, by omega, fun _ _ => ⟨i + 1, by rw [f2h], by omega, hl0, by omega, by omega⟩⟩
    · have f3 : someP (t[i].text.take k) w = true := by
        rw [List.take_of_length_le hge]
        obtain ⟨l, h1, h2⟩ := hit_some hi hh
        exact List.any_eq_true.2 ⟨l, h1, h2⟩
      have f1b := seek_split (hitS w) t hi hh
      have f1a : hitN t w i < (seekL (hitS w) t).length := (List.getElem?_eq_some_iff.1 f1b).1
      have f1c : (seekL (hitS w) t)[hitN t w i]? = some t[i].path := f1b
      have f2h : hitN t w (i + 1) = hitN t w i + 1 := by unfold hitN; rw [seekL_hit hi hh]; simp
      simp -implicitDefEqProofs [hh, f3, f1a, f1c, eStr, hmL, and_assoc]
      have hgt : (seekL (hitS w) t)[hitN t w i] = t[i].path := by
        rw [List.getElem?_eq_getElem f1a] at f1c
        exact Option.some.inj f1c
      have hb := seekL_le (hitS w) t
      repeat' (first | intro _ | apply And.intro)
      all_goals first | omega | exact hgt | exact ⟨i + 1, by rw [f2h]; omega, by omega, hl0, by omega, by omega⟩ | (simp_all; done)

end Vx
end Go.Proofs.YtlhkmgbmnbkaeaaDoor
/-
  Arguments opened; what all rows share.
-/
namespace Go.Proofs.YtlhkmgbmnbkaeaaDoor
open Go.ChangeShapes Go.WideShapes Go.ChangeAt Go.RowKit
namespace Vx

theorem own_knob : ownKnob Tryd.prog.godebug = none := by kernel_rfl
theorem laidOut : laidOutB Tryd.prog = true := by kernel_rfl
theorem tTab_closed : tabOk tTab = true := by decide

theorem shp_strs {T : Nat → Option TI} (hs : ∀ te, T 9 = some te → te.cells = [.str]) {ds : List D} (h : Shp T [.sl 9 1] ds) : ∃ l, ds = [.sl 9 1 (eStrs l)] := by
  cases h with
  | @sl e k te rows ks ds h1 h2 h3 =>
    cases h3
    rw [hs _ h1] at h2
    obtain ⟨l, rfl, _⟩ := rows_map (f := eStr) (p := fun _ => True) (rows := rows) (fun r hr => by
      have := h2 r hr
      cases this with
      | str q1 q2 => cases q2; exact ⟨_, rfl, trivial⟩)
    exact ⟨l, rfl⟩
theorem shp_files {T : Nat → Option TI} (hs : ∀ te, T 9 = some te → te.cells = [.str]) (hf : ∀ te, T 95 = some te → te.cells = [.str, .sl 9 1]) {ds : List D} (h : Shp T [.sl 95 2] ds) :
    ∃ l, ds = [.sl 95 2 (eFiles l)] := by
  cases h with
  | @sl e k te rows ks ds h1 h2 h3 =>
    cases h3
    rw [hf _ h1] at h2
    obtain ⟨l, rfl, _⟩ := rows_map (f := eFile) (p := fun _ => True) (rows := rows) (fun r hr => by
      have := h2 r hr
      cases this with
      | str q1 q2 =>
        obtain ⟨l, rfl⟩ := shp_strs hs q2
        exact ⟨⟨_, l⟩, rfl, trivial⟩)
    exact ⟨l, rfl⟩

section
variable {H : Type} {enc : TypeId × Value → H} {W : World} {sp : Nat → Bool} {held : Bool} {r : Reach} {base : Nat}

set_option maxRecDepth 100000 in
theorem open_files {v : Value} {d : DataW H} {p : List MemPlace} (hu : Tryd.prog.underlying 35 = some (.slice 95)) (hv : Value.okWide Tryd.prog W r base 35 v)
    (h : DataW.Trod enc Tryd.prog W 0 sp held 35 v d p) : ∃ l f, RdL false W [.sl 95 2 (eFiles l)] [v] f := by
  obtain ⟨a, n, c, rfl⟩ := okWide_slice hu hv
  obtain ⟨fuel, hf⟩ := h
  obtain ⟨ds, f, h1, h2⟩ := rd_trod tTab_ok tTab_closed fuel (t := 35) rfl hf
  obtain ⟨l, rfl⟩ := shp_files (fun te ht => by cases ht; rfl) (fun te ht => by cases ht; rfl) h2
  exact ⟨l, f, h1⟩
set_option maxRecDepth 100000 in
theorem open_strs {v : Value} {d : DataW H} {p : List MemPlace} (hu : Tryd.prog.underlying 26 = some (.slice 9)) (hv : Value.okWide Tryd.prog W r base 26 v)
    (h : DataW.Trod enc Tryd.prog W 0 sp held 26 v d p) : ∃ l f, RdL false W [.sl 9 1 (eStrs l)] [v] f := by
  obtain ⟨a, n, c, rfl⟩ := okWide_slice hu hv
  obtain ⟨fuel, hf⟩ := h
  obtain ⟨ds, f, h1, h2⟩ := rd_trod tTab_ok tTab_closed fuel (t := 26) rfl hf
  obtain ⟨l, rfl⟩ := shp_strs (fun te ht => by cases ht; rfl) h2
  exact ⟨l, f, h1⟩
set_option maxRecDepth 100000 in
theorem open_str {v : Value} {d : DataW H} {p : List MemPlace} (hu : Tryd.prog.underlying 9 = some .string) (hv : Value.okWide Tryd.prog W r base 9 v)
    (h : DataW.Trod enc Tryd.prog W 0 sp held 9 v d p) : ∃ l : Str, v = .string ⟨l.toArray⟩ ∧ l.length ≤ maxLen := by
  obtain ⟨s, rfl, _, _, hs⟩ := Go.ChangeMaps.open_string hu hv h
  exact ⟨s.data.toList, by simp, by simpa using hs⟩
end

end Vx
end Go.Proofs.YtlhkmgbmnbkaeaaDoor
/-
  Arguments opened: bytes.
-/
namespace Go.Proofs.YtlhkmgbmnbkaeaaDoor
open Go.ChangeShapes Go.WideShapes Go.ChangeAt Go.RowKit
namespace Vx

theorem shp_bytes {T : Nat → Option TI} (hs : ∀ te, T 5 = some te → te.cells = [.int .u8]) {ds : List D} (h : Shp T [.sl 5 1] ds) : ∃ l, ds = [.sl 5 1 (eBytes l)] := by
  cases h with
  | @sl e k te rows ks ds h1 h2 h3 =>
    cases h3
    rw [hs _ h1] at h2
    obtain ⟨l, rfl, _⟩ := rows_map (f := eByte) (p := fun _ => True) (rows := rows) (fun r hr => by
      have := h2 r hr
      cases this with
      | @int k n _ _ q1 q2 =>
        cases q2
        have q3 : IntKind.u8.min ≤ n ∧ n ≤ IntKind.u8.max := by simpa only [Lit.wf, Bool.and_eq_true, decide_eq_true_eq] using q1
        have q4 : IntKind.u8.min = 0 := rfl
        have q5 : IntKind.u8.max = 255 := rfl
        rw [q4, q5] at q3
        refine ⟨UInt8.ofNat n.toNat, ?_, trivial⟩
        have : (UInt8.ofNat n.toNat).toNat = n.toNat := by rw [UInt8.toNat_ofNat']; omega
        simp only [eByte, this]
        congr 2
        omega)
    exact ⟨l, rfl⟩

section
variable {H : Type} {enc : TypeId × Value → H} {W : World} {sp : Nat → Bool} {held : Bool} {r : Reach} {base : Nat}
set_option maxRecDepth 100000 in
theorem open_bytes {v : Value} {d : DataW H} {p : List MemPlace} (hu : Tryd.prog.underlying 22 = some (.slice 5)) (hv : Value.okWide Tryd.prog W r base 22 v)
    (h : DataW.Trod enc Tryd.prog W 0 sp held 22 v d p) : ∃ l f, RdL false W [.sl 5 1 (eBytes l)] [v] f := by
  obtain ⟨a, n, c, rfl⟩ := okWide_slice hu hv
  obtain ⟨fuel, hf⟩ := h
  obtain ⟨ds, f, h1, h2⟩ := rd_trod tTab_ok tTab_closed fuel (t := 22) rfl hf
  obtain ⟨l, rfl⟩ := shp_bytes (fun te ht => by cases ht; rfl) h2
  exact ⟨l, f, h1⟩
end

end Vx
end Go.Proofs.YtlhkmgbmnbkaeaaDoor
