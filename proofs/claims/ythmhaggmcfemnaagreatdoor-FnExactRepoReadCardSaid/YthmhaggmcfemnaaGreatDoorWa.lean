/-
  Joined by program (merge.py): Base, RowK, Dh, Lib, Shq, Kb, RowU, Ca, Cb, Cc, Ce, Cd, Cf, Cg, Ch, Ci, Cj, Ck, Cl, Di, Pa, Kc, Cm, LawA, Cn, Co, Cp, Cq, Cr, Cs, Ct. It shows what the single texts show; conditions: none but those of each lemma.
-/
import Derived.Test.YthmhaggmcfemnaaGreatDoorVc
import Derived.Test.YthmhaggmcfemnaaGreatDoorProg
import Derived.KernelRfl
import Derived.Test.YthmhaggmcfemnaaGreatDoorRows
import Derived.Test.YthmhaggmcfemnaaGreatDoorCards
import Derived.Test.YthmhaggmcfemnaaGreatDoorTie
import Derived.ProofKit
import Derived.OpenShut
import Derived.ShutString
import Derived.Lay
import Derived.LaidMore
import Derived.SevenTiedAt
import Derived.Lib.Walk
import Derived.Lib.Strings
import Derived.Lib.Bytealg
import Derived.Handy
import Derived.Shelf.Strconv.ErrVarAll
import Derived.Shelf.Strconv.Itoa3
import Derived.Lib.AtoiErrMem
import Derived.BigCall
import Derived.Stop.LaidErr
import Derived.Lib.LaidTab
set_option linter.unusedVariables false
set_option linter.unusedSimpArgs false
set_option linter.unusedSectionVars false
/-
  The types of the program, as the walks want them; data of the program's types.
-/
namespace Go.Proofs.YthmhaggmcfemnaaGreatDoor
open Vx
namespace Vx

def tTab : List (Nat × TI) := [
(3, ⟨false, [.int .i64], 8, [], 0⟩),
(4, ⟨false, [.bool], 1, [], 0⟩),
(9, ⟨false, [.str], 16, [], 0⟩),
(34, ⟨false, [.sl 9 1], 24, [], 9⟩),
(22, ⟨false, [.sl 5 1], 24, [], 5⟩),
(106, ⟨true, [.str, .sl 9 1], 40, [(9, 0), (34, 1)], 0⟩),
(36, ⟨false, [.sl 106 2], 24, [], 106⟩),
(29, ⟨false, [.sl 3 1], 24, [], 3⟩),
(47, ⟨true, [.str, .int .i64], 24, [(9, 0), (3, 1)], 0⟩),
(24, ⟨false, [.sl 47 2], 24, [], 47⟩),
(38, ⟨true, [.sl 3 1, .str, .sl 106 2], 64, [(29, 0), (9, 1), (36, 2)], 0⟩),
(23, ⟨false, [.sl 38 3], 24, [], 38⟩),
(26, ⟨true, [.sl 38 3, .sl 47 2], 48, [(23, 0), (24, 1)], 0⟩),
(103, ⟨true, [.sl 5 1, .int .i64], 32, [(22, 0), (3, 1)], 0⟩),
  (5, ⟨false, [.int .u8], 1, [], 0⟩)]

theorem tTab_ok : ∀ t ti, get? tTab t = some ti → TOk Tryz.prog t ti := tabChk_ok (by kernel_rfl)

theorem mixed : Tryz.prog.follows .mixedOrders = true := by kernel_rfl

def noInv : Nat → Inv := fun _ => ⟨Unit, fun _ => ⟨[], []⟩, fun _ => True, fun _ => 0⟩

theorem upd_app {α : Type} (f : Nat → α) (d : Nat) (v : α) (h : Nat) : upd f d v h = if h = d then v else f h := rfl
def wipeE (e : Nat → Option (Bool × AV)) (m : Nat → Option Blk) : Nat → Option (Bool × AV) := fun t => (e t).map fun p => (p.1, p.2.wipe m)
def wipeM (m : Nat → Option Blk) : Nat → Option Blk := fun h => (m h).map (Blk.wipe m)
theorem wipe_eq (s : St) (m : Nat → Option Blk) : s.wipe m = ⟨wipeE s.e m, wipeM m⟩ := rfl
theorem wipeE_app (e : Nat → Option (Bool × AV)) (m : Nat → Option Blk) (t : Nat) : wipeE e m t = (e t).map fun p => (p.1, p.2.wipe m) := rfl
theorem wipeM_app (m : Nat → Option Blk) (h : Nat) : wipeM m h = (m h).map (Blk.wipe m) := rfl

abbrev Str := List UInt8
def eStr (s : Str) : List D := [.str s]
def eStrs (l : List Str) : List (List D) := l.map eStr

structure FileD where
  path : Str
  text : List Str
  deriving DecidableEq, Inhabited

def eFile (f : FileD) : List D := [.str f.path, .sl 9 1 (eStrs f.text)]
def eFiles (l : List FileD) : List (List D) := l.map eFile

@[simp] theorem eStrs_length (l : List Str) : (eStrs l).length = l.length := by simp [eStrs]
@[simp] theorem eStrs_nil : eStrs [] = [] := rfl
@[simp] theorem eStrs_get (l : List Str) (i : Nat) : (eStrs l)[i]? = l[i]?.map eStr := by simp [eStrs]
@[simp] theorem eStrs_getElem (l : List Str) (i : Nat) (h : i < (eStrs l).length) : (eStrs l)[i] = eStr (l[i]'(by simpa using h)) := by simp [eStrs]
@[simp] theorem eStr_inj (a b : Str) : (eStr a = eStr b) = (a = b) := by simp [eStr]
@[simp] theorem eStrs_inj (a b : List Str) : (eStrs a = eStrs b) = (a = b) := by
  apply propext
  constructor
  · intro h
    exact List.map_inj_right (fun x y h => by simpa using h) |>.1 h
  · rintro rfl; rfl
@[simp] theorem eStrs_eq_nil (a : List Str) : (eStrs a = []) = (a = []) := by simp [eStrs]
@[simp] theorem nil_eq_eStrs (a : List Str) : ([] = eStrs a) = (a = []) := by simp [eStrs, eq_comm]
theorem eStrs_append (a b : List Str) : eStrs (a ++ b) = eStrs a ++ eStrs b := by simp [eStrs]
theorem eStrs_snoc (a : List Str) (x : Str) : eStrs a ++ [[.str x]] = eStrs (a ++ [x]) := by simp [eStrs, eStr]
theorem eStrs_set (l : List Str) (i : Nat) (s : Str) : (eStrs l).set i [.str s] = eStrs (l.set i s) := by simp [eStrs, List.map_set, eStr]
theorem eStrs_take (l : List Str) (i : Nat) : (eStrs l).take i = eStrs (l.take i) := by simp [eStrs]
theorem eStrs_drop (l : List Str) (i : Nat) : (eStrs l).drop i = eStrs (l.drop i) := by simp [eStrs]
theorem eStrs_rep (n : Nat) : List.replicate n [D.str []] = eStrs (List.replicate n []) := by simp [eStrs, eStr]
@[simp] theorem eStrs_flat (l : List Str) : (∀ x ∈ eStrs l, ∀ d ∈ x, flatD d) = True := by
  simp only [eq_iff_iff, iff_true]
  intro x hx d hd
  simp only [eStrs, List.mem_map] at hx
  obtain ⟨s, _, rfl⟩ := hx
  simp only [eStr, List.mem_singleton] at hd
  subst hd
  trivial
@[simp] theorem eFiles_length (l : List FileD) : (eFiles l).length = l.length := by simp [eFiles]
@[simp] theorem eFiles_nil : eFiles [] = [] := rfl
@[simp] theorem eFiles_get (l : List FileD) (i : Nat) : (eFiles l)[i]? = l[i]?.map eFile := by simp [eFiles]
@[simp] theorem eFiles_getElem (l : List FileD) (i : Nat) (h : i < (eFiles l).length) : (eFiles l)[i] = eFile (l[i]'(by simpa using h)) := by simp [eFiles]
@[simp] theorem eFile_inj (a b : FileD) : (eFile a = eFile b) = (a = b) := by
  cases a; cases b; simp [eFile]
@[simp] theorem eFiles_inj (a b : List FileD) : (eFiles a = eFiles b) = (a = b) := by
  apply propext
  constructor
  · intro h
    exact List.map_inj_right (fun x y h => by simpa using h) |>.1 h
  · rintro rfl; rfl
@[simp] theorem eFiles_eq_nil (a : List FileD) : (eFiles a = []) = (a = []) := by simp [eFiles]
@[simp] theorem nil_eq_eFiles (a : List FileD) : ([] = eFiles a) = (a = []) := by simp [eFiles, eq_comm]
theorem eFiles_snoc (a : List FileD) (p : Str) (t : List Str) : eFiles a ++ [[.str p, .sl 9 1 (eStrs t)]] = eFiles (a ++ [⟨p, t⟩]) := by simp [eFiles, eFile]
theorem eFiles_append (a b : List FileD) : eFiles (a ++ b) = eFiles a ++ eFiles b := by simp [eFiles]
theorem eFiles_take (l : List FileD) (i : Nat) : (eFiles l).take i = eFiles (l.take i) := by simp [eFiles]
theorem eFiles_drop (l : List FileD) (i : Nat) : (eFiles l).drop i = eFiles (l.drop i) := by simp [eFiles]
theorem eFiles_set (l : List FileD) (i : Nat) (p : Str) (t : List Str) : (eFiles l).set i [.str p, .sl 9 1 (eStrs t)] = eFiles (l.set i ⟨p, t⟩) := by simp [eFiles, List.map_set, eFile]
theorem eFiles_rep (n : Nat) : List.replicate n [D.str [], .sl 9 1 []] = eFiles (List.replicate n ⟨[], []⟩) := by simp [eFiles, eFile]

@[simp] theorem FileD.eta (f : FileD) : (⟨f.path, f.text⟩ : FileD) = f := rfl
@[simp] theorem asStr_str (s : Str) : D.asStr (.str s) = s := rfl
@[simp] theorem asRows_sl (e k : Nat) (r : List (List D)) : D.asRows (.sl e k r) = r := rfl
@[simp] theorem asInt_int (k : IntKind) (n : Int) : D.asInt (.int k n) = n := rfl
@[simp] theorem asBool_bool (b : Bool) : D.asBool (.bool b) = b := rfl

theorem cast_succ (a b : Nat) : ((a : Int) = (b : Int) + 1) = (a = b + 1) := by apply propext; omega
theorem cast_eq (a b : Nat) : ((a : Int) = (b : Int)) = (a = b) := by apply propext; omega
theorem cast_zero (a : Nat) : ((a : Int) = 0) = (a = 0) := by apply propext; omega
theorem take_succ' {α : Type} {l : List α} {i : Nat} (h : i < l.length) : l.take (i + 1) = l.take i ++ [l[i]] := List.take_succ_eq_append_getElem h

@[simp] theorem getD_nat (l : Str) (i : Nat) (h : i < l.length) : l.getD i 0 = l[i] := by simp [List.getD_eq_getElem?_getD, h]
theorem all_take {α : Type} {l : List α} {p : α → Bool} {i : Nat} (h : i < l.length) : (l.take (i + 1)).all p = ((l.take i).all p && p l[i]) := by
  rw [take_succ' h, List.all_append]; simp
theorem all_false {α : Type} {l : List α} {p : α → Bool} {i : Nat} (h : i < l.length) (hp : p l[i] = false) : l.all p = false := by
  rw [List.all_eq_false]
  exact ⟨l[i], List.getElem_mem h, by simp [hp]⟩
theorem all_end {α : Type} {l : List α} {p : α → Bool} {i : Nat} (h : l.length ≤ i) (hp : (l.take i).all p = true) : l.all p = true := by
  rwa [List.take_of_length_le h] at hp
theorem eq_take {α : Type} {l r : List α} {i : Nat} (h1 : i < l.length) (h2 : i < r.length) (h : l.take i = r.take i) (he : l[i] = r[i]) : l.take (i + 1) = r.take (i + 1) := by
  rw [take_succ' h1, take_succ' h2, h, he]
theorem eq_end {α : Type} {l r : List α} {i : Nat} (h0 : l.length = r.length) (h1 : l.length ≤ i) (h : l.take i = r.take i) : l = r := by
  rw [List.take_of_length_le h1, List.take_of_length_le (by omega)] at h
  exact h

theorem set_take {α : Type} {o a : List α} {i : Nat} (h1 : i < o.length) (h2 : i < a.length) (h : o.take i = a.take i) : (o.set i a[i]).take (i + 1) = a.take (i + 1) := by
  rw [take_succ' (by simpa using h1), take_succ' h2, List.take_set_of_le (Nat.le_refl i), h]; simp
theorem FileD.eq_iff (a b : FileD) : (a = b) = (a.path = b.path ∧ a.text = b.text) := by
  cases a; cases b; simp

@[simp] theorem FileD.ex1 (p : Str) (x : List Str) (Q : FileD → Prop) : (∃ a : FileD, a.path = p ∧ a.text = x ∧ Q a) = Q ⟨p, x⟩ := by
  apply propext
  constructor
  · rintro ⟨⟨a, b⟩, rfl, rfl, h⟩; exact h
  · intro h; exact ⟨⟨p, x⟩, rfl, rfl, h⟩
@[simp] theorem FileD.ex2 (p : Str) (x : List Str) (Q : FileD → Prop) : (∃ a : FileD, (a.path = p ∧ a.text = x) ∧ Q a) = Q ⟨p, x⟩ := by
  apply propext
  constructor
  · rintro ⟨⟨a, b⟩, ⟨rfl, rfl⟩, h⟩; exact h
  · intro h; exact ⟨⟨p, x⟩, ⟨rfl, rfl⟩, h⟩
theorem cast_one (a : Nat) : ((a : Int) = 1) = (a = 1) := by apply propext; omega

end Vx
end Go.Proofs.YthmhaggmcfemnaaGreatDoor
/-
  Arguments opened; what all rows share.
-/
namespace Go.Proofs.YthmhaggmcfemnaaGreatDoor
open Go.ChangeShapes Go.WideShapes Go.ChangeAt Go.RowKit
namespace Vx

theorem own_knob : ownKnob Tryz.prog.godebug = none := by kernel_rfl
theorem laidOut : laidOutB Tryz.prog = true := by kernel_rfl
theorem tTab_closed : tabOk tTab = true := by decide

theorem shp_strs {T : Nat → Option TI} (hs : ∀ te, T 9 = some te → te.cells = [.str]) {ds : List D} (h : Shp T [.sl 9 1] ds) : ∃ l, ds = [.sl 9 1 (eStrs l)] := by
  cases h with
  | @sl e k te rows ks ds h1 h2 h3 =>
    cases h3
    rw [hs _ h1] at h2
    obtain ⟨l, rfl, _⟩ := rows_map (f := eStr) (p := fun _ => True) (rows := rows) (fun r hr => by
      have := h2 r hr
      cases this with
      | str q1 q2 => cases q2; exact ⟨_, rfl, trivial⟩)
    exact ⟨l, rfl⟩

section
variable {H : Type} {enc : TypeId × Value → H} {W : World} {sp : Nat → Bool} {held : Bool} {r : Reach} {base : Nat}

set_option maxRecDepth 100000 in
theorem open_strs {v : Value} {d : DataW H} {p : List MemPlace} (hu : Tryz.prog.underlying 34 = some (.slice 9)) (hv : Value.okWide Tryz.prog W r base 34 v)
    (h : DataW.Trod enc Tryz.prog W 0 sp held 34 v d p) : ∃ l f, RdL false W [.sl 9 1 (eStrs l)] [v] f := by
  obtain ⟨a, n, c, rfl⟩ := okWide_slice hu hv
  obtain ⟨fuel, hf⟩ := h
  obtain ⟨ds, f, h1, h2⟩ := rd_trod tTab_ok tTab_closed fuel (t := 34) rfl hf
  obtain ⟨l, rfl⟩ := shp_strs (fun te ht => by cases ht; rfl) h2
  exact ⟨l, f, h1⟩
set_option maxRecDepth 100000 in
theorem open_str {v : Value} {d : DataW H} {p : List MemPlace} (hu : Tryz.prog.underlying 9 = some .string) (hv : Value.okWide Tryz.prog W r base 9 v)
    (h : DataW.Trod enc Tryz.prog W 0 sp held 9 v d p) : ∃ l : Str, v = .string ⟨l.toArray⟩ ∧ l.length ≤ maxLen := by
  obtain ⟨s, rfl, _, _, hs⟩ := Go.ChangeMaps.open_string hu hv h
  exact ⟨s.data.toList, by simp, by simpa using hs⟩
end

end Vx
end Go.Proofs.YthmhaggmcfemnaaGreatDoor
/-
  Contracts: small numbers as text (strconv.Itoa, l1Dec).
-/
namespace Go.Proofs.YthmhaggmcfemnaaGreatDoor
namespace Vx
open Go.RowKit
set_option maxRecDepth 8000

def decS (n : Nat) : Str := if n < 10 then [UInt8.ofNat (48 + n)] else [UInt8.ofNat (48 + n / 10), UInt8.ofNat (48 + n % 10)]
def cSmall : Con := .fn 15 Nat (fun n => [.int .i64 n]) (fun n => n < 100) (fun n => .str (decS n)) (fun _ => [])
set_option maxHeartbeats 4000000 in
theorem small_has : Has Tryz.prog 186 cSmall := by
  refine has_walk mixed tTab_ok (l := []) HasL.nil [0, 2] ((fun a n (_ : Nat) => (fun _ => noInv) a n)) [] Tryz.func186 (by kernel_rfl) (code := _) (by unfold Tryz.f186; rfl) (by kernel_rfl) (by decide) (fun _ => ⟨(), trivial⟩) (by intro h; first | exact fun _ => rfl | cases h) (by kernel_rfl) ?_
  intro (n : Nat) (hn : n < 100)
  simp -implicitDefEqProofs [vc_skip, extOf, vc_seq, vc_cond, vc_block, vc_exit, vc_ret, vc_region, vc_regionD, vc_loop, kSeq_normal, kSeq_ret, kSeq_exit, kBlock_normal, kBlock_ret, kBlock_exit, kLoop_normal, kLoop_ret, kLoop_exit, kCond_bool, kNorm_app, vcOps_nil, vcOps_cons, kOps_app, kStep_some, kStep_none, vcDL_nil, vcDL_cons, kOpsD_app, kStepD_true, kStepD_tt, kStepD_false, ldB, btys, btyAct, kStepC_some, kStepC_none, kMv_app, act3_store, act3_call, act3_bs, kAct_app, kSt2_app, stealSlots, stealL, stealOne, subIn, AV.stolen, act_store, act_bs, act_append, act_call, kSet_app, kSet2_app, kSetG_app, kSetG_app0, kStore_ptr, kStore_eptr, kCallW_some, kCallC_some, kCall_some, wk_T, wk_n, wk_keep, wk_inv, wk_act, wk_dr, wk_le, aCalm, wantC, dstOk, calm, aCallK, aCall3K, subOf, subRep, aCall2K, apnd, bsMove, putBox, putOwn, partAV, mvL, AV.mv, AV.base, AV.moved, kBld, bldK, wrK, stK, AV.selfOk, AV.src, TI.flat, apSize, pickAV, St.val, St.cond, St.fn, St.next, St.set, St.trim, wipe_eq, wipeE_app, wipeM_app, pickEnv, get?, cGet, upd_app, withPuts, killAll, rm, freshP, Oper.hnd, Sc.st, ofConst, constOk, lenAV, elemLen, loadAV, ldL, ld1, fieldAddrAV, indexAddrAV, sliceAV, convAV, buildAV, fillAV, fieldAV, Out.of, binAV, AV.rows, AV.one, AV.cells, AV.deepOk, AV.toD, toDs, partRows, partRowsM, partsDeep, TK.zeroAV, TK.zeroD, byteOf, inR, Op.operands, Call.operands, passVs, passV, passL, pass1, passB, pasVs, pasV, pasL, pas1, ownsOk, okHs, okHs2, okFin, finOk2, rho, over, backRes, backAV, backAV1, backBlk, putBack, back2, back2_V, back2_1, m2, AV.wipe, AV.wipeV, AV.wipe1, Blk.wipe, AV.hs, AV.hs.hsL, alOps, Con.start2, Con.pk, bodyQ, fini, resAV, resA, firstId, Sc.from, renEnv, renT, renV, renVs, renL, ren1, renBox, renOwn, okRen, clOf, actB, setRow, flatRows, flatD, noInv, shr_nil, shr_some, kStepF_some, shareL, AV.viewed, AV.viewed1, cSmall, Con.fn, tTab]
  refine ⟨fun h => ⟨by omega, fun a1 a2 => ⟨by omega, fun a3 a4 => ?_⟩⟩, fun h => ⟨by omega, fun a1 a2 => ⟨by omega, fun a3 a4 => ⟨by omega, fun a5 a6 => ⟨by omega, fun a7 a8 a9 => ?_⟩⟩⟩⟩⟩
  · have h10 : n < 10 := by omega
    clear h hn a1 a2 a3 a4
    revert n
    decide
  · rw [show ((n : Int) * 2 + 2).toNat - ((n : Int) * 2).toNat = 2 by omega, show ((n : Int) * 2).toNat = n * 2 by omega]
    have h10 : 10 ≤ n := by omega
    clear h a1 a2 a3 a4 a5 a6 a7 a8 a9
    revert h10
    revert hn
    revert n
    decide

def cFormatInt : Con := .fn 54 Nat (fun n => [.int .i64 n, .int .i64 10]) (fun n => n < 100) (fun n => .str (decS n)) (fun _ => [])
set_option maxHeartbeats 4000000 in
theorem formatInt_has : Has Tryz.prog 159 cFormatInt := by
  refine has_walk mixed tTab_ok (l := [(186, cSmall)]) (HasL.cons small_has HasL.nil) [0, 1, 4, 5, 6, 7, 9] ((fun a n (_ : Nat) => (fun _ => noInv) a n)) [] Tryz.func159 (by kernel_rfl) (code := _) (by unfold Tryz.f159; rfl) (by kernel_rfl) (by decide) (fun _ => ⟨(), trivial⟩) (by intro h; first | exact fun _ => rfl | cases h) (by kernel_rfl) ?_
  intro (n : Nat) (hn : n < 100)
  simp -implicitDefEqProofs [vc_skip, extOf, vc_seq, vc_cond, vc_block, vc_exit, vc_ret, vc_region, vc_regionD, vc_loop, kSeq_normal, kSeq_ret, kSeq_exit, kBlock_normal, kBlock_ret, kBlock_exit, kLoop_normal, kLoop_ret, kLoop_exit, kCond_bool, kNorm_app, vcOps_nil, vcOps_cons, kOps_app, kStep_some, kStep_none, vcDL_nil, vcDL_cons, kOpsD_app, kStepD_true, kStepD_tt, kStepD_false, ldB, btys, btyAct, kStepC_some, kStepC_none, kMv_app, act3_store, act3_call, act3_bs, kAct_app, kSt2_app, stealSlots, stealL, stealOne, subIn, AV.stolen, act_store, act_bs, act_append, act_call, kSet_app, kSet2_app, kSetG_app, kSetG_app0, kStore_ptr, kStore_eptr, kCallW_some, kCallC_some, kCall_some, wk_T, wk_n, wk_keep, wk_inv, wk_act, wk_dr, wk_le, aCalm, wantC, dstOk, calm, aCallK, aCall3K, subOf, subRep, aCall2K, apnd, bsMove, putBox, putOwn, partAV, mvL, AV.mv, AV.base, AV.moved, kBld, bldK, wrK, stK, AV.selfOk, AV.src, TI.flat, apSize, pickAV, St.val, St.cond, St.fn, St.next, St.set, St.trim, wipe_eq, wipeE_app, wipeM_app, pickEnv, get?, cGet, upd_app, withPuts, killAll, rm, freshP, Oper.hnd, Sc.st, ofConst, constOk, lenAV, elemLen, loadAV, ldL, ld1, fieldAddrAV, indexAddrAV, sliceAV, convAV, buildAV, fillAV, fieldAV, Out.of, binAV, AV.rows, AV.one, AV.cells, AV.deepOk, AV.toD, toDs, partRows, partRowsM, partsDeep, TK.zeroAV, TK.zeroD, byteOf, inR, Op.operands, Call.operands, passVs, passV, passL, pass1, passB, pasVs, pasV, pasL, pas1, ownsOk, okHs, okHs2, okFin, finOk2, rho, over, backRes, backAV, backAV1, backBlk, putBack, back2, back2_V, back2_1, m2, AV.wipe, AV.wipeV, AV.wipe1, Blk.wipe, AV.hs, AV.hs.hsL, alOps, Con.start2, Con.pk, bodyQ, fini, resAV, resA, firstId, Sc.from, renEnv, renT, renV, renVs, renL, ren1, renBox, renOwn, okRen, clOf, actB, setRow, flatRows, flatD, noInv, shr_nil, shr_some, kStepF_some, shareL, AV.viewed, AV.viewed1, cFormatInt, cSmall, Con.fn, tTab]
  refine ⟨fun _ => ⟨n, rfl, hn, rfl⟩, fun h => absurd h (by omega)⟩
def cItoaI : Con := .fn 5 Nat (fun n => [.int .i64 n]) (fun n => n < 100) (fun n => .str (decS n)) (fun _ => [])
set_option maxHeartbeats 4000000 in
theorem itoaI_has : Has Tryz.prog 136 cItoaI := by
  refine has_walk mixed tTab_ok (l := [(159, cFormatInt)]) (HasL.cons formatInt_has HasL.nil) [0, 2] ((fun a n (_ : Nat) => (fun _ => noInv) a n)) [] Tryz.func136 (by kernel_rfl) (code := _) (by unfold Tryz.f136; rfl) (by kernel_rfl) (by decide) (fun _ => ⟨(), trivial⟩) (by intro h; first | exact fun _ => rfl | cases h) (by kernel_rfl) ?_
  intro (n : Nat) (hn : n < 100)
  simp -implicitDefEqProofs [vc_skip, extOf, vc_seq, vc_cond, vc_block, vc_exit, vc_ret, vc_region, vc_regionD, vc_loop, kSeq_normal, kSeq_ret, kSeq_exit, kBlock_normal, kBlock_ret, kBlock_exit, kLoop_normal, kLoop_ret, kLoop_exit, kCond_bool, kNorm_app, vcOps_nil, vcOps_cons, kOps_app, kStep_some, kStep_none, vcDL_nil, vcDL_cons, kOpsD_app, kStepD_true, kStepD_tt, kStepD_false, ldB, btys, btyAct, kStepC_some, kStepC_none, kMv_app, act3_store, act3_call, act3_bs, kAct_app, kSt2_app, stealSlots, stealL, stealOne, subIn, AV.stolen, act_store, act_bs, act_append, act_call, kSet_app, kSet2_app, kSetG_app, kSetG_app0, kStore_ptr, kStore_eptr, kCallW_some, kCallC_some, kCall_some, wk_T, wk_n, wk_keep, wk_inv, wk_act, wk_dr, wk_le, aCalm, wantC, dstOk, calm, aCallK, aCall3K, subOf, subRep, aCall2K, apnd, bsMove, putBox, putOwn, partAV, mvL, AV.mv, AV.base, AV.moved, kBld, bldK, wrK, stK, AV.selfOk, AV.src, TI.flat, apSize, pickAV, St.val, St.cond, St.fn, St.next, St.set, St.trim, wipe_eq, wipeE_app, wipeM_app, pickEnv, get?, cGet, upd_app, withPuts, killAll, rm, freshP, Oper.hnd, Sc.st, ofConst, constOk, lenAV, elemLen, loadAV, ldL, ld1, fieldAddrAV, indexAddrAV, sliceAV, convAV, buildAV, fillAV, fieldAV, Out.of, binAV, AV.rows, AV.one, AV.cells, AV.deepOk, AV.toD, toDs, partRows, partRowsM, partsDeep, TK.zeroAV, TK.zeroD, byteOf, inR, Op.operands, Call.operands, passVs, passV, passL, pass1, passB, pasVs, pasV, pasL, pas1, ownsOk, okHs, okHs2, okFin, finOk2, rho, over, backRes, backAV, backAV1, backBlk, putBack, back2, back2_V, back2_1, m2, AV.wipe, AV.wipeV, AV.wipe1, Blk.wipe, AV.hs, AV.hs.hsL, alOps, Con.start2, Con.pk, bodyQ, fini, resAV, resA, firstId, Sc.from, renEnv, renT, renV, renVs, renL, ren1, renBox, renOwn, okRen, clOf, actB, setRow, flatRows, flatD, noInv, shr_nil, shr_some, kStepF_some, shareL, AV.viewed, AV.viewed1, cItoaI, Con.fn, tTab, cFormatInt]
  try dsimp only
  try simp +contextual -implicitDefEqProofs [eStr, eFile, cast_succ, cast_eq, cast_zero, List.getElem?_eq_getElem, eStrs_set, eFiles_set, eStrs_rep, eFiles_rep, ← eStrs_append, ← eFiles_append, eStrs_take, eStrs_drop, eFiles_take, eFiles_drop, eStrs_snoc, eFiles_snoc, and_assoc]
  repeat' (first | intro _ | apply And.intro)
  all_goals first | omega | grind [all_take]
def cItoa : Con := .fn 5 Nat (fun n => [.int .i64 n]) (fun n => n < 100) (fun n => .str (decS n)) (fun _ => [])
set_option maxHeartbeats 4000000 in
theorem itoa_has : Has Tryz.prog 106 cItoa := by
  refine has_walk mixed tTab_ok (l := [(136, cItoaI)]) (HasL.cons itoaI_has HasL.nil) [0, 2] ((fun a n (_ : Nat) => (fun _ => noInv) a n)) [] Tryz.func106 (by kernel_rfl) (code := _) (by unfold Tryz.f106; rfl) (by kernel_rfl) (by decide) (fun _ => ⟨(), trivial⟩) (by intro h; first | exact fun _ => rfl | cases h) (by kernel_rfl) ?_
  intro (n : Nat) (hn : n < 100)
  simp -implicitDefEqProofs [vc_skip, extOf, vc_seq, vc_cond, vc_block, vc_exit, vc_ret, vc_region, vc_regionD, vc_loop, kSeq_normal, kSeq_ret, kSeq_exit, kBlock_normal, kBlock_ret, kBlock_exit, kLoop_normal, kLoop_ret, kLoop_exit, kCond_bool, kNorm_app, vcOps_nil, vcOps_cons, kOps_app, kStep_some, kStep_none, vcDL_nil, vcDL_cons, kOpsD_app, kStepD_true, kStepD_tt, kStepD_false, ldB, btys, btyAct, kStepC_some, kStepC_none, kMv_app, act3_store, act3_call, act3_bs, kAct_app, kSt2_app, stealSlots, stealL, stealOne, subIn, AV.stolen, act_store, act_bs, act_append, act_call, kSet_app, kSet2_app, kSetG_app, kSetG_app0, kStore_ptr, kStore_eptr, kCallW_some, kCallC_some, kCall_some, wk_T, wk_n, wk_keep, wk_inv, wk_act, wk_dr, wk_le, aCalm, wantC, dstOk, calm, aCallK, aCall3K, subOf, subRep, aCall2K, apnd, bsMove, putBox, putOwn, partAV, mvL, AV.mv, AV.base, AV.moved, kBld, bldK, wrK, stK, AV.selfOk, AV.src, TI.flat, apSize, pickAV, St.val, St.cond, St.fn, St.next, St.set, St.trim, wipe_eq, wipeE_app, wipeM_app, pickEnv, get?, cGet, upd_app, withPuts, killAll, rm, freshP, Oper.hnd, Sc.st, ofConst, constOk, lenAV, elemLen, loadAV, ldL, ld1, fieldAddrAV, indexAddrAV, sliceAV, convAV, buildAV, fillAV, fieldAV, Out.of, binAV, AV.rows, AV.one, AV.cells, AV.deepOk, AV.toD, toDs, partRows, partRowsM, partsDeep, TK.zeroAV, TK.zeroD, byteOf, inR, Op.operands, Call.operands, passVs, passV, passL, pass1, passB, pasVs, pasV, pasL, pas1, ownsOk, okHs, okHs2, okFin, finOk2, rho, over, backRes, backAV, backAV1, backBlk, putBack, back2, back2_V, back2_1, m2, AV.wipe, AV.wipeV, AV.wipe1, Blk.wipe, AV.hs, AV.hs.hsL, alOps, Con.start2, Con.pk, bodyQ, fini, resAV, resA, firstId, Sc.from, renEnv, renT, renV, renVs, renL, ren1, renBox, renOwn, okRen, clOf, actB, setRow, flatRows, flatD, noInv, shr_nil, shr_some, kStepF_some, shareL, AV.viewed, AV.viewed1, cItoa, Con.fn, tTab, cItoaI]
  try dsimp only
  try simp +contextual -implicitDefEqProofs [eStr, eFile, cast_succ, cast_eq, cast_zero, List.getElem?_eq_getElem, eStrs_set, eFiles_set, eStrs_rep, eFiles_rep, ← eStrs_append, ← eFiles_append, eStrs_take, eStrs_drop, eFiles_take, eFiles_drop, eStrs_snoc, eFiles_snoc, and_assoc]
  repeat' (first | intro _ | apply And.intro)
  all_goals first | omega | grind [all_take]

theorem has_none {P : Program} {f : Nat} {fn : Func} {code : Code} {k : Con} (hf : P.funcs[f]? = some fn) (hname : (fn.name == "runtime.NumGoroutine") = false) (hb : fn.body = some code) (tot : ∀ a, ∃ x, k.post a x) (nob : k.nob = true → ∀ a, k.boxes a = []) (hp : ∀ a, ¬ k.pre a) (hbd : k.bld = (0, 0, 0, 0) := by rfl) (hbt : k.bty = [] := by rfl) : Has P f k :=
  ⟨fun args w => Go.MuLone.run_callFunc_enter hf hname hb args w, tot, nob, fun a ha => absurd ha (hp a), by rw [hbd]; trivial, .inl hbt⟩
def cL1Dec0 : Con := .fn 28 Nat (fun n => [.int .i64 n]) (fun _ => False) (fun n => .str (decS n)) (fun _ => [])
theorem l1Dec0_has : Has Tryz.prog 102 cL1Dec0 :=
  has_none Tryz.func102 (by kernel_rfl) (code := _) (by unfold Tryz.f102; rfl) (fun _ => ⟨(), trivial⟩) (by intro _ _; rfl) (fun _ h => h)
def cL1Dec1 : Con := .fn 28 Nat (fun n => [.int .i64 n]) (fun n => n < 10) (fun n => .str (decS n)) (fun _ => [])
set_option maxHeartbeats 4000000 in
theorem l1Dec1_has : Has Tryz.prog 102 cL1Dec1 := by
  refine has_walk mixed tTab_ok (l := [(102, cL1Dec0)]) (HasL.cons l1Dec0_has HasL.nil) [0, 2] ((fun a n (_ : Nat) => (fun _ => noInv) a n)) [] Tryz.func102 (by kernel_rfl) (code := _) (by unfold Tryz.f102; rfl) (by kernel_rfl) (by decide) (fun _ => ⟨(), trivial⟩) (by intro h; first | exact fun _ => rfl | cases h) (by kernel_rfl) ?_
  intro (n : Nat) (hn : n < 10)
  simp -implicitDefEqProofs [vc_skip, extOf, vc_seq, vc_cond, vc_block, vc_exit, vc_ret, vc_region, vc_regionD, vc_loop, kSeq_normal, kSeq_ret, kSeq_exit, kBlock_normal, kBlock_ret, kBlock_exit, kLoop_normal, kLoop_ret, kLoop_exit, kCond_bool, kNorm_app, vcOps_nil, vcOps_cons, kOps_app, kStep_some, kStep_none, vcDL_nil, vcDL_cons, kOpsD_app, kStepD_true, kStepD_tt, kStepD_false, ldB, btys, btyAct, kStepC_some, kStepC_none, kMv_app, act3_store, act3_call, act3_bs, kAct_app, kSt2_app, stealSlots, stealL, stealOne, subIn, AV.stolen, act_store, act_bs, act_append, act_call, kSet_app, kSet2_app, kSetG_app, kSetG_app0, kStore_ptr, kStore_eptr, kCallW_some, kCallC_some, kCall_some, wk_T, wk_n, wk_keep, wk_inv, wk_act, wk_dr, wk_le, aCalm, wantC, dstOk, calm, aCallK, aCall3K, subOf, subRep, aCall2K, apnd, bsMove, putBox, putOwn, partAV, mvL, AV.mv, AV.base, AV.moved, kBld, bldK, wrK, stK, AV.selfOk, AV.src, TI.flat, apSize, pickAV, St.val, St.cond, St.fn, St.next, St.set, St.trim, wipe_eq, wipeE_app, wipeM_app, pickEnv, get?, cGet, upd_app, withPuts, killAll, rm, freshP, Oper.hnd, Sc.st, ofConst, constOk, lenAV, elemLen, loadAV, ldL, ld1, fieldAddrAV, indexAddrAV, sliceAV, convAV, buildAV, fillAV, fieldAV, Out.of, binAV, AV.rows, AV.one, AV.cells, AV.deepOk, AV.toD, toDs, partRows, partRowsM, partsDeep, TK.zeroAV, TK.zeroD, byteOf, inR, Op.operands, Call.operands, passVs, passV, passL, pass1, passB, pasVs, pasV, pasL, pas1, ownsOk, okHs, okHs2, okFin, finOk2, rho, over, backRes, backAV, backAV1, backBlk, putBack, back2, back2_V, back2_1, m2, AV.wipe, AV.wipeV, AV.wipe1, Blk.wipe, AV.hs, AV.hs.hsL, alOps, Con.start2, Con.pk, bodyQ, fini, resAV, resA, firstId, Sc.from, renEnv, renT, renV, renVs, renL, ren1, renBox, renOwn, okRen, clOf, actB, setRow, flatRows, flatD, noInv, shr_nil, shr_some, kStepF_some, shareL, AV.viewed, AV.viewed1, cL1Dec1, cL1Dec0, Con.fn, tTab]
  refine ⟨fun h => absurd h (by omega), fun h => absurd h (by omega), fun h => ⟨by omega, fun _ _ => ⟨by omega, fun _ _ => ⟨by omega, fun _ => ?_⟩⟩⟩, fun h => absurd h (by omega)⟩
  rw [show (48 + (n : Int)).toNat = 48 + n by omega]
  simp -implicitDefEqProofs [decS, hn]
def cL1Dec : Con := .fn 28 Nat (fun n => [.int .i64 n]) (fun n => n < 100) (fun n => .str (decS n)) (fun _ => [])
set_option maxHeartbeats 4000000 in
theorem l1Dec_has : Has Tryz.prog 102 cL1Dec := by
  refine has_walk mixed tTab_ok (l := [(102, cL1Dec1)]) (HasL.cons l1Dec1_has HasL.nil) [0, 2] ((fun a n (_ : Nat) => (fun _ => noInv) a n)) [] Tryz.func102 (by kernel_rfl) (code := _) (by unfold Tryz.f102; rfl) (by kernel_rfl) (by decide) (fun _ => ⟨(), trivial⟩) (by intro h; first | exact fun _ => rfl | cases h) (by kernel_rfl) ?_
  intro (n : Nat) (hn : n < 100)
  simp -implicitDefEqProofs [vc_skip, extOf, vc_seq, vc_cond, vc_block, vc_exit, vc_ret, vc_region, vc_regionD, vc_loop, kSeq_normal, kSeq_ret, kSeq_exit, kBlock_normal, kBlock_ret, kBlock_exit, kLoop_normal, kLoop_ret, kLoop_exit, kCond_bool, kNorm_app, vcOps_nil, vcOps_cons, kOps_app, kStep_some, kStep_none, vcDL_nil, vcDL_cons, kOpsD_app, kStepD_true, kStepD_tt, kStepD_false, ldB, btys, btyAct, kStepC_some, kStepC_none, kMv_app, act3_store, act3_call, act3_bs, kAct_app, kSt2_app, stealSlots, stealL, stealOne, subIn, AV.stolen, act_store, act_bs, act_append, act_call, kSet_app, kSet2_app, kSetG_app, kSetG_app0, kStore_ptr, kStore_eptr, kCallW_some, kCallC_some, kCall_some, wk_T, wk_n, wk_keep, wk_inv, wk_act, wk_dr, wk_le, aCalm, wantC, dstOk, calm, aCallK, aCall3K, subOf, subRep, aCall2K, apnd, bsMove, putBox, putOwn, partAV, mvL, AV.mv, AV.base, AV.moved, kBld, bldK, wrK, stK, AV.selfOk, AV.src, TI.flat, apSize, pickAV, St.val, St.cond, St.fn, St.next, St.set, St.trim, wipe_eq, wipeE_app, wipeM_app, pickEnv, get?, cGet, upd_app, withPuts, killAll, rm, freshP, Oper.hnd, Sc.st, ofConst, constOk, lenAV, elemLen, loadAV, ldL, ld1, fieldAddrAV, indexAddrAV, sliceAV, convAV, buildAV, fillAV, fieldAV, Out.of, binAV, AV.rows, AV.one, AV.cells, AV.deepOk, AV.toD, toDs, partRows, partRowsM, partsDeep, TK.zeroAV, TK.zeroD, byteOf, inR, Op.operands, Call.operands, passVs, passV, passL, pass1, passB, pasVs, pasV, pasL, pas1, ownsOk, okHs, okHs2, okFin, finOk2, rho, over, backRes, backAV, backAV1, backBlk, putBack, back2, back2_V, back2_1, m2, AV.wipe, AV.wipeV, AV.wipe1, Blk.wipe, AV.hs, AV.hs.hsL, alOps, Con.start2, Con.pk, bodyQ, fini, resAV, resA, firstId, Sc.from, renEnv, renT, renV, renVs, renL, ren1, renBox, renOwn, okRen, clOf, actB, setRow, flatRows, flatD, noInv, shr_nil, shr_some, kStepF_some, shareL, AV.viewed, AV.viewed1, cL1Dec, cL1Dec1, Con.fn, tTab]
  have hm : (n : Int).tmod 10 = ((n % 10 : Nat) : Int) := (Int.ofNat_tmod n 10).symm
  rw [hm]
  refine ⟨fun h => absurd h (by omega), fun h => absurd h (by omega), fun h => ⟨by omega, fun _ _ => ⟨by omega, fun _ _ => ⟨by omega, fun _ => ?_⟩⟩⟩, fun h => ⟨by omega, fun _ _ => ⟨n / 10, by omega, by omega, by omega, fun _ _ => ⟨by omega, fun _ _ => ⟨by omega, fun _ => ?_⟩⟩⟩⟩⟩
  · rw [show (48 + (n : Int)).toNat = 48 + n by omega]
    simp -implicitDefEqProofs [decS, show n < 10 by omega]
  · have h1 : decS (n / 10) = [UInt8.ofNat (48 + n / 10)] := by simp -implicitDefEqProofs [decS, show n / 10 < 10 by omega]
    rw [h1]
    refine ⟨by simp -implicitDefEqProofs [maxLen], fun _ => ?_⟩
    rw [show (48 + ((n % 10 : Nat) : Int)).toNat = 48 + n % 10 by omega]
    simp -implicitDefEqProofs [decS, show ¬ n < 10 by omega]
end Vx
end Go.Proofs.YthmhaggmcfemnaaGreatDoor
/-
  Contracts of functions that read scalars alone, out of their calls; the library's search functions at one byte.
-/
namespace Go.Proofs.YthmhaggmcfemnaaGreatDoor
namespace Vx
open Go.RowKit

/-- Scalars. -/
def scal : AV → Option Value
  | .int k n => some (.int k n)
  | .bool b => some (.bool b)
  | .str s => some (.string ⟨s.toArray⟩)
  | _ => none

theorem scal_rel {w m β c v x u} (h : RelL w m β c [v] [u]) (hs : scal v = some x) : u = x := by
  cases v <;> simp only [scal, Option.some.injEq, reduceCtorEq] at hs
  all_goals cases h; exact hs

theorem scals_rel {w m β c} : ∀ {vs : List AV} {us xs : List Value}, RelL w m β c vs us → vs.mapM scal = some xs → us = xs := by
  intro vs
  induction vs with
  | nil => intro us xs h hm; cases h; simp at hm; exact hm.symm
  | cons v vs ih =>
    intro us xs h hm
    obtain ⟨u, us', rfl, h1, h2⟩ := h.uncons
    rw [List.mapM_cons] at hm
    cases hv : scal v with
    | none => rw [hv] at hm; simp at hm
    | some x =>
      rw [hv] at hm
      cases hvs : vs.mapM scal with
      | none => rw [hvs] at hm; simp at hm
      | some ys =>
        rw [hvs] at hm
        simp at hm
        subst hm
        rw [scal_rel h1 hv, ih h2 hvs]

theorem rel_scal {w m β c v x} (hs : scal v = some x) (hok : ∀ s, v = .str s → s.length ≤ maxLen) : RelL w m β c [v] [x] := by
  cases v <;> simp only [scal, Option.some.injEq, reduceCtorEq] at hs
  all_goals subst hs
  · exact .int .lnil
  · exact .bool .lnil
  · exact .str (hok _ rfl) .lnil

/-- The arguments, off the first state. -/
theorem start_rel {c : Cx} {k : Con} {x : k.A} {vs : List Value} {w β fp} (hl : vs.length = (k.args x).length) (S : SatI c (k.start2 x) ⟨vs.toArray ++ Array.replicate (k.n - vs.length) undef, []⟩ w β fp) :
    RelL w (k.start2 x).m β c (k.args x) vs := by
  have key : ∀ (i : Nat) (v : AV) (u : Value), (k.args x)[i]? = some v → vs[i]? = some u → RelL w (k.start2 x).m β c [v] [u] := by
    intro i v u hv hu
    have := (S.env i true v (by simp [Con.start2, hv])).2.1 rfl
    have hi : i < vs.length := (List.getElem?_eq_some_iff.1 hu).1
    have e : (vs.toArray ++ Array.replicate (k.n - vs.length) undef).getD i undef = u := by
      rw [Array.getD_eq_getD_getElem?, Array.getElem?_append_left (by simpa using hi)]
      simp [hu]
    rw [e] at this
    exact this
  clear S
  generalize k.args x = xs at hl key
  induction xs generalizing vs with
  | nil => cases vs with | nil => exact .lnil | cons => simp at hl
  | cons v xs ih =>
    cases vs with
    | nil => simp at hl
    | cons u vs =>
      exact (key 0 v u rfl rfl).append (ih (by simpa using hl) fun i v' u' h1 h2 => key (i + 1) v' u' h1 h2)

/-- A contract of a function that reads scalars alone, out of its calls. -/
theorem has_pure {P : Program} {f : Nat} {n : Nat} {A : Type} {args : A → List AV} {pre : A → Prop} {res : A → AV} {rv : A → Value}
    (henter : ∀ args w, (callFunc f args).run P w = .ok (.enter f args) w) (hres : ∀ a, scal (res a) = some (rv a)) (hstr : ∀ a s, pre a → res a = .str s → s.length ≤ maxLen)
    (h : ∀ a vs w, pre a → (args a).mapM scal = some vs → Calls P f vs.toArray w fun e w' => e = .returned (rv a) ∧ w' = w) (hsc : ∀ a, ∃ vs, (args a).mapM scal = some vs) :
    Has P f (.fn n A args pre res (fun _ => [])) := by
  refine ⟨henter, fun _ => ⟨(), trivial⟩, fun _ _ => rfl, ?_, trivial, .inl rfl⟩
  intro a hp c _ vs β fp hcn hpins hl1 hl2 S
  obtain ⟨us, hus⟩ := hsc a
  have hvs : vs = us := scals_rel (start_rel hl1 S) hus
  subst hvs
  refine (h a vs c.w0 hp hus).mono ?_
  rintro e w' ⟨rfl, rfl⟩
  refine ⟨(), trivial, rv a, rfl, β, fp, ⟨Array.replicate c.n undef, []⟩, ⟨?_, ?_, ?_, ?_, ?_, S.fg, S.old, S.os, S.tape, S.output, S.size, rfl, by simp, ?_⟩, ?_⟩
  · intro t g av ht; cases ht
  · intro h blk hm; cases hm
  · intro h blk hm; cases hm
  · intro h h' blk blk' hm; cases hm
  · intro h blk hm; cases hm
  · rw [hpins]; intro p hp; simp [Con.pins2] at hp
  · exact rel_scal (hres a) (fun s hs => hstr a s hp hs)

set_option maxHeartbeats 1000000 in
set_option maxRecDepth 100000 in
theorem indexByte_call (s : ByteArray) (c : Int) (w : World) :
    Calls Tryz.prog 179 #[.string s, .int .u8 c] w fun e w' => e = .returned (.int .i64 (Lib.indexByte s.data.toList c.toNat.toUInt8)) ∧ w' = w := by
  go_enter Tryz.func179, Tryz.ntmps179
  go_wp2
  rw [run_callFunc_extern Tryz.func199 (by kernel_rfl) (by kernel_rfl) (by kernel_rfl) (e := Extern.BytealgIndexByte.indexByte) (by kernel_rfl), Lib.run_indexByteString]
  simp only [Result.andThen]
  rw [Oper.upon_value]
  go_wp2
  go_ret
  exact ⟨rfl, rfl⟩

set_option maxHeartbeats 2000000 in
set_option maxRecDepth 100000 in
theorem indexOne_call (s : ByteArray) (c : UInt8) (w : World) :
    Calls Tryz.prog 153 #[.string s, .string ⟨#[c]⟩] w fun e w' => e = .returned (.int .i64 (Lib.indexByte s.data.toList c)) ∧ w' = w := by
  go_enter Tryz.func153, Tryz.ntmps153
  go_wp2_with (go_at_call 179; refine (indexByte_call _ _ _).mono ?_; rintro e w' ⟨rfl, rfl⟩)
  · have h : ([c] == s.toList) = true := by assumption
    go_ret
    refine ⟨?_, rfl⟩
    have e : s.data.toList = [c] := by rw [← Lib.toList_data]; exact (beq_iff_eq.1 h).symm
    rw [e]
    simp [Lib.indexByte]
  · go_ret
    exact ⟨rfl, rfl⟩

set_option maxHeartbeats 2000000 in
set_option maxRecDepth 100000 in
theorem stringsIndexOne_call (s : ByteArray) (c : UInt8) (w : World) :
    Calls Tryz.prog 133 #[.string s, .string ⟨#[c]⟩] w fun e w' => e = .returned (.int .i64 (Lib.indexByte s.data.toList c)) ∧ w' = w := by
  go_enter Tryz.func133, Tryz.ntmps133
  go_wp2_with (go_at_call 153; refine (indexOne_call _ _ _).mono ?_; rintro e w' ⟨rfl, rfl⟩)
  go_ret
  exact ⟨rfl, rfl⟩

set_option maxHeartbeats 1000000 in
set_option maxRecDepth 100000 in
theorem countOne_call (s : ByteArray) (c : UInt8) (w : World) :
    Calls Tryz.prog 132 #[.string s, .string ⟨#[c]⟩] w fun e w' => e = .returned (.int .i64 (Lib.countByte s.data.toList c)) ∧ w' = w := by
  go_enter Tryz.func132, Tryz.ntmps132
  go_wp2
  rw [run_callFunc_extern Tryz.func152 (by kernel_rfl) (by kernel_rfl) (by kernel_rfl) (e := Extern.BytealgCount.count) (by kernel_rfl), Lib.run_countString]
  simp only [Result.andThen]
  rw [Oper.upon_value]
  go_wp2
  go_ret
  exact ⟨rfl, rfl⟩

/-- The place of a byte in a text; -1 if it is not there. -/
def idxB : Str → UInt8 → Int
  | [], _ => -1
  | b :: l, c => if b = c then 0 else if idxB l c < 0 then -1 else idxB l c + 1

theorem idxB_lib (s : Str) (c : UInt8) : Lib.indexByte s c = idxB s c := by
  induction s with
  | nil => rfl
  | cons b l ih =>
    have hge := Lib.indexByte_ge l c
    simp only [Lib.indexByte, idxB, ih] at hge ⊢
    by_cases hb : b = c
    · simp [hb]
    · simp only [beq_iff_eq, hb, if_false]
      by_cases h : idxB l c < 0
      · rw [if_pos h, if_pos (by omega)]
      · rw [if_neg h, if_neg (by omega)]

def cStringsIndex : Con := .fn 8 (Str × UInt8) (fun a => [.str a.1, .str [a.2]]) (fun _ => True) (fun a => .int .i64 (idxB a.1 a.2)) (fun _ => [])
theorem stringsIndex_has : Has Tryz.prog 133 cStringsIndex :=
  has_pure (rv := fun a => .int .i64 (idxB a.1 a.2)) (fun args w => Go.MuLone.run_callFunc_enter Tryz.func133 (by kernel_rfl) rfl args w) (fun _ => rfl) (fun a s _ h => by cases h)
    (fun a vs w _ hv => by
      obtain ⟨s, c⟩ := a
      simp [scal] at hv
      subst hv
      have := stringsIndexOne_call ⟨s.toArray⟩ c w
      simpa [idxB_lib] using this) (fun a => ⟨_, rfl⟩)

def cStringsCount : Con := .fn 34 (Str × UInt8) (fun a => [.str a.1, .str [a.2]]) (fun _ => True) (fun a => .int .i64 (a.1.count a.2)) (fun _ => [])
theorem stringsCount_has : Has Tryz.prog 132 cStringsCount :=
  has_pure (rv := fun a => .int .i64 (a.1.count a.2)) (fun args w => Go.MuLone.run_callFunc_enter Tryz.func132 (by kernel_rfl) rfl args w) (fun _ => rfl) (fun a s _ h => by cases h)
    (fun a vs w _ hv => by
      obtain ⟨s, c⟩ := a
      simp [scal] at hv
      subst hv
      have := countOne_call ⟨s.toArray⟩ c w
      simpa [Lib.countByte] using this) (fun a => ⟨_, rfl⟩)

end Vx
end Go.Proofs.YthmhaggmcfemnaaGreatDoor
/-
  DERIVED: THE SHELF's CONTRACTS AT THIS DUMP, IN PLAIN WORDS (tools/lay-plain.mjs out of 'YthmhaggmcfemnaaGreatDoorShelf.lean', which tools/lay-shelf.mjs wrote): THE SAME DECLARATIONS UNDER THE SAME NAMES: 'import', 'namespace', 'open', 'def', 'theorem' AND NOTHING ELSE: no command of the shelf's: FOR A HAND-IN. Each laying: the table of numbers ('.._ren') and one theorem, a field a fact of the dump's own or the kernel's comparison; each contract: ONE APPLICATION.
-/
namespace Go.Proofs
open Go.Shelf
def Tryz.laysItoa_ren : Go.Shelf.Ren := ⟨fun | 171 => 106 | 243 => 136 | 246 => 159 | 283 => 186 | 284 => 187 | 285 => 188 | 286 => 189 | 129 => 204 | 317 => 203 | 318 => 205 | 319 => 206 | 320 => 207 | 337 => 211 | 338 => 212 | n => n, fun | 3 => 3 | 9 => 9 | 2 => 2 | 4 => 4 | 171 => 182 | 0 => 0 | 53 => 175 | 37 => 22 | 5 => 5 | 173 => 185 | 212 => 205 | 51 => 197 | 20 => 20 | 213 => 206 | 46 => 174 | 232 => 216 | 233 => 217 | n => n, fun | 17 => 5 | 18 => 6 | 19 => 7 | n => n⟩
theorem Tryz.laysItoa : Go.Proofs.LaysM.n171 Tryz.prog Tryz.laysItoa_ren := {
  mixed := by kernel_rfl
  f129 := Tryz.func204.trans (congrArg some (by kernel_rfl))
  f171 := Tryz.func106.trans (congrArg some (by kernel_rfl))
  f243 := Tryz.func136.trans (congrArg some (by kernel_rfl))
  f246 := Tryz.func159.trans (congrArg some (by kernel_rfl))
  f283 := Tryz.func186.trans (congrArg some (by kernel_rfl))
  f284 := Tryz.func187.trans (congrArg some (by kernel_rfl))
  f285 := Tryz.func188.trans (congrArg some (by kernel_rfl))
  f286 := Tryz.func189.trans (congrArg some (by kernel_rfl))
  f317 := Tryz.func203.trans (congrArg some (by kernel_rfl))
  f318 := Tryz.func205.trans (congrArg some (by kernel_rfl))
  f319 := Tryz.func206.trans (congrArg some (by kernel_rfl))
  f320 := Tryz.func207.trans (congrArg some (by kernel_rfl))
  f337 := Tryz.func211.trans (congrArg some (by kernel_rfl))
  f338 := Tryz.func212.trans (congrArg some (by kernel_rfl))
  t0 := Tryz.underlying0
  a0 := Tryz.isAgg0
  z0 := Tryz.sizeOf0
  v0 := Tryz.zeroValue0
  t2 := Tryz.underlying2
  a2 := Tryz.isAgg2
  z2 := Tryz.sizeOf2
  v2 := Tryz.zeroValue2
  t3 := Tryz.underlying3
  a3 := Tryz.isAgg3
  z3 := Tryz.sizeOf3
  v3 := Tryz.zeroValue3
  t4 := Tryz.underlying4
  a4 := Tryz.isAgg4
  z4 := Tryz.sizeOf4
  v4 := Tryz.zeroValue4
  t5 := Tryz.underlying5
  a5 := Tryz.isAgg5
  z5 := Tryz.sizeOf5
  v5 := Tryz.zeroValue5
  t9 := Tryz.underlying9
  a9 := Tryz.isAgg9
  z9 := Tryz.sizeOf9
  v9 := Tryz.zeroValue9
  t20 := Tryz.underlying20
  a20 := Tryz.isAgg20
  z20 := Tryz.sizeOf20
  v20 := Tryz.zeroValue20
  t37 := Tryz.underlying22
  a37 := Tryz.isAgg22
  z37 := Tryz.sizeOf22
  v37 := Tryz.zeroValue22
  t46 := Tryz.underlying174
  a46 := Tryz.isAgg174
  z46 := Tryz.sizeOf174
  v46 := Tryz.zeroValue174
  t51 := Tryz.underlying197
  a51 := Tryz.isAgg197
  z51 := Tryz.sizeOf197
  v51 := Tryz.zeroValue197
  t53 := Tryz.underlying175
  a53 := Tryz.isAgg175
  z53 := Tryz.sizeOf175
  v53 := Tryz.zeroValue175
  t171 := Tryz.underlying182
  a171 := Tryz.isAgg182
  z171 := Tryz.sizeOf182
  v171 := Tryz.zeroValue182
  t173 := Tryz.underlying185
  a173 := Tryz.isAgg185
  z173 := Tryz.sizeOf185
  v173 := Tryz.zeroValue185
  t212 := Tryz.underlying205
  a212 := Tryz.isAgg205
  z212 := Tryz.sizeOf205
  v212 := Tryz.zeroValue205
  t213 := Tryz.underlying206
  a213 := Tryz.isAgg206
  z213 := Tryz.sizeOf206
  t232 := Tryz.underlying216
  a232 := Tryz.isAgg216
  z232 := Tryz.sizeOf216
  v232 := Tryz.zeroValue216
  t233 := Tryz.underlying217
  a233 := Tryz.isAgg217
  z233 := Tryz.sizeOf217
  v233 := Tryz.zeroValue217
  g17 := by kernel_rfl
  g18 := by kernel_rfl
  g19 := by kernel_rfl
  i0 := by kernel_rfl
  i2 := by kernel_rfl
  i3 := by kernel_rfl
  i4 := by kernel_rfl
  i5 := by kernel_rfl
  i9 := by kernel_rfl
  i20 := by kernel_rfl
  i37 := by kernel_rfl
  i46 := by kernel_rfl
  i51 := by kernel_rfl
  i53 := by kernel_rfl
  i171 := by kernel_rfl
  i173 := by kernel_rfl
  i212 := by kernel_rfl
  i232 := by kernel_rfl
  i233 := by kernel_rfl
  m17 := by kernel_rfl
  m18 := by kernel_rfl
  m19 := by kernel_rfl }
def Tryz.laysAtoi_ren : Go.Shelf.Ren := ⟨fun | 172 => 105 | 244 => 134 | 245 => 135 | 247 => 154 | 279 => 155 | 280 => 156 | 281 => 157 | 282 => 158 | 287 => 183 | 316 => 184 | 171 => 106 | 205 => 185 | 321 => 201 | 322 => 202 | 243 => 136 | 246 => 159 | 283 => 186 | 284 => 187 | 285 => 188 | 286 => 189 | 129 => 204 | 317 => 203 | 318 => 205 | 319 => 206 | 320 => 207 | 337 => 211 | 338 => 212 | n => n, fun | 9 => 9 | 3 => 3 | 75 => 118 | 76 => 119 | 4 => 4 | 5 => 5 | 167 => 151 | 37 => 22 | 0 => 0 | 85 => 152 | 2 => 2 | 168 => 154 | 53 => 175 | 175 => 176 | 46 => 174 | 210 => 180 | 127 => 138 | 145 => 203 | 143 => 201 | 21 => 21 | 171 => 182 | 173 => 185 | 212 => 205 | 51 => 197 | 20 => 20 | 213 => 206 | 232 => 216 | 233 => 217 | 80 => 86 | n => n, fun | 15 => 1 | 16 => 2 | 17 => 5 | 18 => 6 | 19 => 7 | n => n⟩
theorem Tryz.laysAtoi : Go.Proofs.LaysC.n172 Tryz.prog Tryz.laysAtoi_ren := {
  mixed := by kernel_rfl
  f129 := Tryz.func204.trans (congrArg some (by kernel_rfl))
  f171 := Tryz.func106.trans (congrArg some (by kernel_rfl))
  f172 := Tryz.func105.trans (congrArg some (by kernel_rfl))
  f205 := Tryz.func185.trans (congrArg some (by kernel_rfl))
  f243 := Tryz.func136.trans (congrArg some (by kernel_rfl))
  f244 := Tryz.func134.trans (congrArg some (by kernel_rfl))
  f245 := Tryz.func135.trans (congrArg some (by kernel_rfl))
  f246 := Tryz.func159.trans (congrArg some (by kernel_rfl))
  f247 := Tryz.func154.trans (congrArg some (by kernel_rfl))
  f279 := Tryz.func155.trans (congrArg some (by kernel_rfl))
  f280 := Tryz.func156.trans (congrArg some (by kernel_rfl))
  f281 := Tryz.func157.trans (congrArg some (by kernel_rfl))
  f282 := Tryz.func158.trans (congrArg some (by kernel_rfl))
  f283 := Tryz.func186.trans (congrArg some (by kernel_rfl))
  f284 := Tryz.func187.trans (congrArg some (by kernel_rfl))
  f285 := Tryz.func188.trans (congrArg some (by kernel_rfl))
  f286 := Tryz.func189.trans (congrArg some (by kernel_rfl))
  f287 := Tryz.func183.trans (congrArg some (by kernel_rfl))
  f316 := Tryz.func184.trans (congrArg some (by kernel_rfl))
  f317 := Tryz.func203.trans (congrArg some (by kernel_rfl))
  f318 := Tryz.func205.trans (congrArg some (by kernel_rfl))
  f319 := Tryz.func206.trans (congrArg some (by kernel_rfl))
  f320 := Tryz.func207.trans (congrArg some (by kernel_rfl))
  f321 := Tryz.func201.trans (congrArg some (by kernel_rfl))
  f322 := Tryz.func202.trans (congrArg some (by kernel_rfl))
  f337 := Tryz.func211.trans (congrArg some (by kernel_rfl))
  f338 := Tryz.func212.trans (congrArg some (by kernel_rfl))
  t0 := Tryz.underlying0
  a0 := Tryz.isAgg0
  z0 := Tryz.sizeOf0
  v0 := Tryz.zeroValue0
  t2 := Tryz.underlying2
  a2 := Tryz.isAgg2
  z2 := Tryz.sizeOf2
  v2 := Tryz.zeroValue2
  t3 := Tryz.underlying3
  a3 := Tryz.isAgg3
  z3 := Tryz.sizeOf3
  v3 := Tryz.zeroValue3
  t4 := Tryz.underlying4
  a4 := Tryz.isAgg4
  z4 := Tryz.sizeOf4
  v4 := Tryz.zeroValue4
  t5 := Tryz.underlying5
  a5 := Tryz.isAgg5
  z5 := Tryz.sizeOf5
  v5 := Tryz.zeroValue5
  t9 := Tryz.underlying9
  a9 := Tryz.isAgg9
  z9 := Tryz.sizeOf9
  v9 := Tryz.zeroValue9
  t20 := Tryz.underlying20
  a20 := Tryz.isAgg20
  z20 := Tryz.sizeOf20
  v20 := Tryz.zeroValue20
  t21 := Tryz.underlying21
  a21 := Tryz.isAgg21
  z21 := Tryz.sizeOf21
  v21 := Tryz.zeroValue21
  t37 := Tryz.underlying22
  a37 := Tryz.isAgg22
  z37 := Tryz.sizeOf22
  v37 := Tryz.zeroValue22
  t46 := Tryz.underlying174
  a46 := Tryz.isAgg174
  z46 := Tryz.sizeOf174
  v46 := Tryz.zeroValue174
  t51 := Tryz.underlying197
  a51 := Tryz.isAgg197
  z51 := Tryz.sizeOf197
  v51 := Tryz.zeroValue197
  t53 := Tryz.underlying175
  a53 := Tryz.isAgg175
  z53 := Tryz.sizeOf175
  v53 := Tryz.zeroValue175
  t75 := Tryz.underlying118
  a75 := Tryz.isAgg118
  z75 := Tryz.sizeOf118
  v75 := Tryz.zeroValue118
  t76 := Tryz.underlying119
  a76 := Tryz.isAgg119
  z76 := Tryz.sizeOf119
  v76 := Tryz.zeroValue119
  t85 := Tryz.underlying152
  a85 := Tryz.isAgg152
  z85 := Tryz.sizeOf152
  v85 := Tryz.zeroValue152
  t127 := Tryz.underlying138
  a127 := Tryz.isAgg138
  z127 := Tryz.sizeOf138
  v127 := Tryz.zeroValue138
  t143 := Tryz.underlying201
  a143 := Tryz.isAgg201
  z143 := Tryz.sizeOf201
  v143 := Tryz.zeroValue201
  t145 := Tryz.underlying203
  a145 := Tryz.isAgg203
  z145 := Tryz.sizeOf203
  v145 := Tryz.zeroValue203
  t167 := Tryz.underlying151
  a167 := Tryz.isAgg151
  z167 := Tryz.sizeOf151
  v167 := Tryz.zeroValue151
  t168 := Tryz.underlying154
  a168 := Tryz.isAgg154
  z168 := Tryz.sizeOf154
  v168 := Tryz.zeroValue154
  t171 := Tryz.underlying182
  a171 := Tryz.isAgg182
  z171 := Tryz.sizeOf182
  v171 := Tryz.zeroValue182
  t173 := Tryz.underlying185
  a173 := Tryz.isAgg185
  z173 := Tryz.sizeOf185
  v173 := Tryz.zeroValue185
  t175 := Tryz.underlying176
  a175 := Tryz.isAgg176
  z175 := Tryz.sizeOf176
  v175 := Tryz.zeroValue176
  t210 := Tryz.underlying180
  a210 := Tryz.isAgg180
  z210 := Tryz.sizeOf180
  v210 := Tryz.zeroValue180
  t212 := Tryz.underlying205
  a212 := Tryz.isAgg205
  z212 := Tryz.sizeOf205
  v212 := Tryz.zeroValue205
  t213 := Tryz.underlying206
  a213 := Tryz.isAgg206
  z213 := Tryz.sizeOf206
  t232 := Tryz.underlying216
  a232 := Tryz.isAgg216
  z232 := Tryz.sizeOf216
  v232 := Tryz.zeroValue216
  t233 := Tryz.underlying217
  a233 := Tryz.isAgg217
  z233 := Tryz.sizeOf217
  v233 := Tryz.zeroValue217
  g15 := by kernel_rfl
  g16 := by kernel_rfl
  g17 := by kernel_rfl
  g18 := by kernel_rfl
  g19 := by kernel_rfl
  t80 := Tryz.underlying86
  a80 := Tryz.isAgg86
  z80 := Tryz.sizeOf86
  v80 := Tryz.zeroValue86
  i0 := by kernel_rfl
  i2 := by kernel_rfl
  i3 := by kernel_rfl
  i4 := by kernel_rfl
  i5 := by kernel_rfl
  i9 := by kernel_rfl
  i20 := by kernel_rfl
  i21 := by kernel_rfl
  i37 := by kernel_rfl
  i46 := by kernel_rfl
  i51 := by kernel_rfl
  i53 := by kernel_rfl
  i75 := by kernel_rfl
  i76 := by kernel_rfl
  i80 := by kernel_rfl
  i85 := by kernel_rfl
  i127 := by kernel_rfl
  i143 := by kernel_rfl
  i145 := by kernel_rfl
  i167 := by kernel_rfl
  i168 := by kernel_rfl
  i171 := by kernel_rfl
  i173 := by kernel_rfl
  i175 := by kernel_rfl
  i210 := by kernel_rfl
  i212 := by kernel_rfl
  i232 := by kernel_rfl
  i233 := by kernel_rfl
  m15 := by kernel_rfl
  m16 := by kernel_rfl
  m17 := by kernel_rfl
  m18 := by kernel_rfl
  m19 := by kernel_rfl
  c0 := by kernel_rfl
  c2 := by kernel_rfl
  c3 := by kernel_rfl
  c4 := by kernel_rfl
  c5 := by kernel_rfl
  c9 := by kernel_rfl
  c20 := by kernel_rfl
  c21 := by kernel_rfl
  c37 := by kernel_rfl
  c46 := by kernel_rfl
  c51 := by kernel_rfl
  c53 := by kernel_rfl
  c75 := by kernel_rfl
  c76 := by kernel_rfl
  c80 := by kernel_rfl
  c85 := by kernel_rfl
  c127 := by kernel_rfl
  c143 := by kernel_rfl
  c145 := by kernel_rfl
  c167 := by kernel_rfl
  c168 := by kernel_rfl
  c171 := by kernel_rfl
  c173 := by kernel_rfl
  c175 := by kernel_rfl
  c210 := by kernel_rfl
  c212 := by kernel_rfl
  c213 := by kernel_rfl
  c232 := by kernel_rfl
  c233 := by kernel_rfl }
end Go.Proofs
/-
  strconv.Atoi and strconv.Itoa at every argument, off the library's shelf; the program's number.
-/
namespace Go.Proofs.YthmhaggmcfemnaaGreatDoor
namespace Vx
open Go.RowKit Go.Shelf
set_option maxRecDepth 8000

/-- The variables and the table that strconv's numbers read. -/
def numNeed (w : World) : Prop :=
  (∃ tp p, w.var? Tryz.prog "strconv.ErrSyntax" = some #[.iface tp p]) ∧ (∃ tp p, w.var? Tryz.prog "strconv.ErrRange" = some #[.iface tp p]) ∧
  ∃ e fz, w.heap[5]? = some (.cells (Lib.pow10Tab.map fun z => Value.int .u64 z).toArray e fz)
theorem pow10_tab {w : World} {e fz} (h : w.heap[5]? = some (.cells (Lib.pow10Tab.map fun z => Value.int .u64 z).toArray e fz)) (n : Int) (h0 : -9223372036854775808 ≤ n) (h1 : n ≤ 9223372036854775807) :
    Calls Tryz.prog 106 #[.int .i64 n] w fun e w' => e = .returned (.string ⟨(Lib.itoa n).toArray⟩) ∧ Below w.heap.size w w' := by
  refine (Any.strconv_Itoa Tryz.laysItoa n h0 h1 w ?_).mono ?_
  · unfold Lib.TabIs World.var?
    generalize hg : Tryz.prog.globalNamed _ = o
    have : o = some 5 := by rw [← hg]; kernel_rfl
    rw [this]
    simp only [Option.bind_some, h]
  · rintro e w' ⟨rfl, k, os, rfl⟩
    refine ⟨rfl, rfl, rfl, rfl, ?_, fun b hb => ?_⟩
    · simp [Go.Sort.grow, World.drewN]
    · simp only [Go.Sort.grow, World.drewN]
      exact Array.getElem?_append_left hb

/-- The program's number: what strconv.Atoi reads, and whether it is written so. -/
def numS (s : Str) : Int × Bool := match Lib.atoiAll s with
  | .ok v => (v, decide (Lib.itoa v = s))
  | .range => (Lib.atoiSat s, false)
  | _ => (0, false)

set_option maxHeartbeats 4000000 in
set_option maxRecDepth 100000 in
theorem number_call (s : ByteArray) (hs : s.size ≤ 1073741824) (w : World) (hl : numNeed w) :
    Calls Tryz.prog 76 #[.string s] w fun e w' => e = .returned (.tuple #[.int .i64 (numS s.data.toList).1, .bool (numS s.data.toList).2]) ∧ Below w.heap.size w w' := by
  obtain ⟨⟨tp1, p1, hv1⟩, ⟨tp2, p2, hv2⟩, e3, fz3, hv3⟩ := hl
  have hlt : 5 < w.heap.size := (Array.getElem?_eq_some_iff.1 hv3).1
  rcases hx : Lib.atoiAll s.data.toList with v | _ | _
  · skip
    have e1 : numS s.data.toList = (v, decide (Lib.itoa v = s.data.toList)) := by unfold numS; rw [hx]
    rw [e1]
    obtain ⟨b0, b1⟩ := Lib.atoiAll_bounds hx
    have hA : Calls Tryz.prog 105 #[.string s] w fun e w' => e = .returned (.tuple #[.int .i64 v, .nilIface]) ∧ Below w.heap.size w w' := by
      refine (Any.strconv_Atoi_ok Tryz.laysAtoi s (by omega) v hx w).mono ?_
      rintro e w' ⟨rfl, hw⟩
      refine ⟨rfl, ?_⟩
      rcases hw with rfl | ⟨t, rfl⟩
      · exact Below.refl _ _
      · exact Lib.bytesWorld_below _ _ _
    go_enter Tryz.func76, Tryz.ntmps76
    go_wp2_with (first | (go_at_call 105; refine hA.mono ?_; rintro e w1 ⟨rfl, hw1⟩) | (go_at_call 106; refine (pow10_tab ((hw1.block _ hlt).trans hv3) v b0 b1).mono ?_; rintro e w2 ⟨rfl, hw2⟩))
    go_ret2
    refine ⟨?_, hw1.trans ⟨hw2.os, hw2.tape, hw2.output, hw2.size, fun b hb => hw2.block b (Nat.lt_of_lt_of_le hb hw1.size)⟩⟩
    rw [← Lib.toList_data]
    have hb : (Lib.itoa v == s.toList) = decide (Lib.itoa v = s.toList) := by rw [Bool.eq_iff_iff]; simp
    rw [← hb]
    rfl
  · skip
    have e1 : numS s.data.toList = (0, false) := by unfold numS; rw [hx]
    rw [e1]
    go_enter Tryz.func76, Tryz.ntmps76
    go_wp2_with (go_at_call 105; refine (Any.strconv_Atoi_syntax_var Tryz.laysAtoi s (by omega) hx tp1 p1 w hv1).mono ?_)
    rintro e W1 ⟨N, rfl, -, -, hb⟩
    go_wp2
    go_ret2
    exact ⟨rfl, hb⟩
  · skip
    have e1 : numS s.data.toList = (Lib.atoiSat s.data.toList, false) := by unfold numS; rw [hx]
    rw [e1]
    go_enter Tryz.func76, Tryz.ntmps76
    go_wp2_with (go_at_call 105; refine (Any.strconv_Atoi_range_var Tryz.laysAtoi s (by omega) hx tp2 p2 w hv2).mono ?_)
    rintro e W1 ⟨N, rfl, -, -, hb⟩
    go_wp2
    go_ret2
    exact ⟨rfl, hb⟩

def cNumber : Con := { (Con.fn 20 Str (fun s => [.str s]) (fun s => s.length ≤ 1073741824) (fun s => .tup [.int .i64 (numS s).1, .bool (numS s).2]) (fun _ => [])) with need := numNeed }
theorem number_has : Has Tryz.prog 76 cNumber := by
  refine ⟨fun args w => Go.MuLone.run_callFunc_enter Tryz.func76 (by kernel_rfl) rfl args w, fun _ => ⟨(), trivial⟩, fun _ _ => rfl, ?_, trivial, .inl rfl⟩
  intro (s : Str) (hp : s.length ≤ 1073741824) c hky vs β fp hcn hpins hl1 hl2 S
  have hvs : vs = [.string ⟨s.toArray⟩] := scals_rel (start_rel hl1 S) rfl
  subst hvs
  refine (number_call ⟨s.toArray⟩ (by simpa [ByteArray.size] using hp) c.w0 (hky _ fun _ _ => rfl)).mono ?_
  rintro e w' ⟨rfl, hb⟩
  have hpp : c.pins = [] := hpins
  refine ⟨(), trivial, _, rfl, β, fp, ⟨Array.replicate c.n undef, []⟩, ⟨?_, ?_, ?_, ?_, ?_, S.fg, fun b hb' => ⟨(S.old b hb').1, hb.block b (S.old b hb').1⟩, hb.os, hb.tape, hb.output, hb.size, rfl, by simp, ?_⟩, ?_⟩
  · intro t g av ht; cases ht
  · intro h blk hm; cases hm
  · intro h blk hm; cases hm
  · intro h h' blk blk' hm; cases hm
  · intro h blk hm; cases hm
  · rw [hpp]; intro p hp; cases hp
  · exact .tup (.int (.bool .lnil)) .lnil
/-- Small numbers are read as they are written. -/
theorem numS_dec (n : Nat) (h : n < 100) : numS (decS n) = ((n : Int), true) := by
  have h1 : Lib.atoiAll (decS n) = .ok (n : Int) := by
    revert h; revert n; decide
  have h2 : Lib.itoa (n : Int) = decS n := by
    unfold Lib.itoa
    rw [if_neg (by omega), Int.toNat_natCast, Lib.decDigits]
    unfold decS
    split
    · rfl
    · rw [Lib.decDigits, dif_pos (by omega)]; rfl
  unfold numS
  rw [h1]
  simp [h2]

end Vx
end Go.Proofs.YthmhaggmcfemnaaGreatDoor
/-
  What strconv reads, off a row's laid variables.
-/
namespace Go.Proofs.YthmhaggmcfemnaaGreatDoor
open Go.ChangeShapes Go.WideShapes Go.ChangeAt Go.RowKit
namespace Vx
set_option maxRecDepth 100000

theorem star_err : ("*" ++ "errors.errorString" : String) = "*errors.errorString" := by decide
theorem row_err (u : TypeId) (h : Tryz.prog.typeName? 3 u = some "*errors.errorString") : u = 201 :=
  typeName_ptr_named (nm := "errors.errorString") (by rw [star_err]; kernel_rfl) (by kernel_rfl) (by decide) u (by rw [star_err]; exact h)
theorem laid_need {W : World} {x1 x2 x4 : String × DataW Unit} {nm : String} {r : List (String × DataW Unit)} (hg : Tryz.prog.globalNamed nm = some 5)
    (h : laidMet Tryz.prog (x1 :: x2 :: (nm, Rows.laid_internal_strconv_uint64pow10) :: x4 :: ("strconv.ErrRange", Rows.laid_strconv_ErrRange) :: ("strconv.ErrSyntax", Rows.laid_strconv_ErrSyntax) :: r) W) :
    ∀ w : World, (∀ b, b < W.heap.size → w.heap[b]? = W.heap[b]?) → numNeed w := by
  have tab : Lib.TabIs Tryz.prog W nm .u64 Lib.pow10Tab := Lib.tabIs_of_head (t := 205) (e := 175) (n := 20) hg (by kernel_rfl) Tryz.underlying205 Tryz.underlying175 (by kernel_rfl) (by kernel_rfl) h.tail.tail
  obtain ⟨a0, s0, hv0, -, -, -⟩ := laid_sentinel (ti := 118) (g := 2) h.tail.tail.tail.tail (by kernel_rfl) (by kernel_rfl) Tryz.underlying118 row_err Tryz.underlying201 Tryz.underlying203 rfl rfl Tryz.underlying9 (by kernel_rfl) (by kernel_rfl)
  obtain ⟨a1, s1, hv1, -, -, -⟩ := laid_sentinel (ti := 118) (g := 1) h.tail.tail.tail.tail.tail (by kernel_rfl) (by kernel_rfl) Tryz.underlying118 row_err Tryz.underlying201 Tryz.underlying203 rfl rfl Tryz.underlying9 (by kernel_rfl) (by kernel_rfl)
  have key : ∀ {nm : String} {cs : Array Value} {w : World}, (∀ b, b < W.heap.size → w.heap[b]? = W.heap[b]?) → W.var? Tryz.prog nm = some cs → w.var? Tryz.prog nm = some cs := by
    intro nm cs w hw hv
    unfold World.var? at hv ⊢
    cases hgn : Tryz.prog.globalNamed nm with
    | none => rw [hgn] at hv; cases hv
    | some g =>
      rw [hgn] at hv
      simp only [Option.bind_some] at hv ⊢
      have hlt : g < W.heap.size := by
        rcases Nat.lt_or_ge g W.heap.size with q | q
        · exact q
        · rw [Array.getElem?_eq_none q] at hv; cases hv
      rw [hw g hlt]; exact hv
  intro w hw
  refine ⟨⟨_, _, key hw hv1⟩, ⟨_, _, key hw hv0⟩, ?_⟩
  have h2 := key hw tab
  unfold World.var? at h2
  rw [hg] at h2
  simp only [Option.bind_some] at h2
  split at h2
  · rename_i cs e fz hc
    exact ⟨e, fz, by rw [hc]; cases h2; rfl⟩
  · cases h2

end Vx
end Go.Proofs.YthmhaggmcfemnaaGreatDoor
/-
  Contracts: bytes, names, lines.
-/
namespace Go.Proofs.YthmhaggmcfemnaaGreatDoor
namespace Vx
open Go.RowKit

def cWithin : Con := .fn 15 (Int × Int × Int) (fun a => [.int .i64 a.1, .int .i64 a.2.1, .int .i64 a.2.2]) (fun _ => True) (fun a => .bool (decide (a.2.1 ≤ a.1) && decide (a.1 ≤ a.2.2))) (fun _ => [])
set_option maxHeartbeats 4000000 in
theorem within_has : Has Tryz.prog 51 cWithin := by
  refine has_walk mixed tTab_ok (l := []) HasL.nil [0, 1, 2, 6] ((fun a n (_ : Nat) => (fun _ => noInv) a n)) [] Tryz.func51 (by kernel_rfl) (code := _) (by unfold Tryz.f51; rfl) (by kernel_rfl) (by decide) (fun _ => ⟨(), trivial⟩) (by intro h; first | exact fun _ => rfl | cases h) (by kernel_rfl) ?_
  intro a _
  obtain ⟨n, lo, hi⟩ := a
  simp -implicitDefEqProofs [vc_skip, extOf, vc_seq, vc_cond, vc_block, vc_exit, vc_ret, vc_region, vc_regionD, vc_loop, kSeq_normal, kSeq_ret, kSeq_exit, kBlock_normal, kBlock_ret, kBlock_exit, kLoop_normal, kLoop_ret, kLoop_exit, kCond_bool, kNorm_app, vcOps_nil, vcOps_cons, kOps_app, kStep_some, kStep_none, vcDL_nil, vcDL_cons, kOpsD_app, kStepD_true, kStepD_tt, kStepD_false, ldB, btys, btyAct, kStepC_some, kStepC_none, kMv_app, act3_store, act3_call, act3_bs, kAct_app, kSt2_app, stealSlots, stealL, stealOne, subIn, AV.stolen, act_store, act_bs, act_append, act_call, kSet_app, kSet2_app, kSetG_app, kSetG_app0, kStore_ptr, kStore_eptr, kCallW_some, kCallC_some, kCall_some, wk_T, wk_n, wk_keep, wk_inv, wk_act, wk_dr, wk_le, aCalm, wantC, dstOk, calm, aCallK, aCall3K, subOf, subRep, aCall2K, apnd, bsMove, putBox, putOwn, partAV, mvL, AV.mv, AV.base, AV.moved, kBld, bldK, wrK, stK, AV.selfOk, AV.src, TI.flat, apSize, pickAV, St.val, St.cond, St.fn, St.next, St.set, St.trim, wipe_eq, wipeE_app, wipeM_app, pickEnv, get?, cGet, upd_app, withPuts, killAll, rm, freshP, Oper.hnd, Sc.st, ofConst, constOk, lenAV, elemLen, loadAV, ldL, ld1, fieldAddrAV, indexAddrAV, sliceAV, convAV, buildAV, fillAV, fieldAV, Out.of, binAV, AV.rows, AV.one, AV.cells, AV.deepOk, AV.toD, toDs, partRows, partRowsM, partsDeep, TK.zeroAV, TK.zeroD, byteOf, inR, Op.operands, Call.operands, passVs, passV, passL, pass1, passB, pasVs, pasV, pasL, pas1, ownsOk, okHs, okHs2, okFin, finOk2, rho, over, backRes, backAV, backAV1, backBlk, putBack, back2, back2_V, back2_1, m2, AV.wipe, AV.wipeV, AV.wipe1, Blk.wipe, AV.hs, AV.hs.hsL, alOps, Con.start2, Con.pk, bodyQ, fini, resAV, resA, firstId, Sc.from, renEnv, renT, renV, renVs, renL, ren1, renBox, renOwn, okRen, clOf, actB, setRow, flatRows, flatD, noInv, shr_nil, shr_some, kStepF_some, shareL, AV.viewed, AV.viewed1, cWithin, Con.fn, tTab]
  omega

def cL1In : Con := .fn 15 (Int × Int × Int) (fun a => [.int .i64 a.1, .int .i64 a.2.1, .int .i64 a.2.2]) (fun _ => True) (fun a => .bool (decide (a.2.1 ≤ a.1) && decide (a.1 ≤ a.2.2))) (fun _ => [])
set_option maxHeartbeats 4000000 in
theorem l1In_has : Has Tryz.prog 59 cL1In := by
  refine has_walk mixed tTab_ok (l := []) HasL.nil [0, 1, 2, 6] ((fun a n (_ : Nat) => (fun _ => noInv) a n)) [] Tryz.func59 (by kernel_rfl) (code := _) (by unfold Tryz.f59; rfl) (by kernel_rfl) (by decide) (fun _ => ⟨(), trivial⟩) (by intro h; first | exact fun _ => rfl | cases h) (by kernel_rfl) ?_
  intro a _
  obtain ⟨n, lo, hi⟩ := a
  simp -implicitDefEqProofs [vc_skip, extOf, vc_seq, vc_cond, vc_block, vc_exit, vc_ret, vc_region, vc_regionD, vc_loop, kSeq_normal, kSeq_ret, kSeq_exit, kBlock_normal, kBlock_ret, kBlock_exit, kLoop_normal, kLoop_ret, kLoop_exit, kCond_bool, kNorm_app, vcOps_nil, vcOps_cons, kOps_app, kStep_some, kStep_none, vcDL_nil, vcDL_cons, kOpsD_app, kStepD_true, kStepD_tt, kStepD_false, ldB, btys, btyAct, kStepC_some, kStepC_none, kMv_app, act3_store, act3_call, act3_bs, kAct_app, kSt2_app, stealSlots, stealL, stealOne, subIn, AV.stolen, act_store, act_bs, act_append, act_call, kSet_app, kSet2_app, kSetG_app, kSetG_app0, kStore_ptr, kStore_eptr, kCallW_some, kCallC_some, kCall_some, wk_T, wk_n, wk_keep, wk_inv, wk_act, wk_dr, wk_le, aCalm, wantC, dstOk, calm, aCallK, aCall3K, subOf, subRep, aCall2K, apnd, bsMove, putBox, putOwn, partAV, mvL, AV.mv, AV.base, AV.moved, kBld, bldK, wrK, stK, AV.selfOk, AV.src, TI.flat, apSize, pickAV, St.val, St.cond, St.fn, St.next, St.set, St.trim, wipe_eq, wipeE_app, wipeM_app, pickEnv, get?, cGet, upd_app, withPuts, killAll, rm, freshP, Oper.hnd, Sc.st, ofConst, constOk, lenAV, elemLen, loadAV, ldL, ld1, fieldAddrAV, indexAddrAV, sliceAV, convAV, buildAV, fillAV, fieldAV, Out.of, binAV, AV.rows, AV.one, AV.cells, AV.deepOk, AV.toD, toDs, partRows, partRowsM, partsDeep, TK.zeroAV, TK.zeroD, byteOf, inR, Op.operands, Call.operands, passVs, passV, passL, pass1, passB, pasVs, pasV, pasL, pas1, ownsOk, okHs, okHs2, okFin, finOk2, rho, over, backRes, backAV, backAV1, backBlk, putBack, back2, back2_V, back2_1, m2, AV.wipe, AV.wipeV, AV.wipe1, Blk.wipe, AV.hs, AV.hs.hsL, alOps, Con.start2, Con.pk, bodyQ, fini, resAV, resA, firstId, Sc.from, renEnv, renT, renV, renVs, renL, ren1, renBox, renOwn, okRen, clOf, actB, setRow, flatRows, flatD, noInv, shr_nil, shr_some, kStepF_some, shareL, AV.viewed, AV.viewed1, cL1In, Con.fn, tTab]
  omega

def wordB (n : Int) : Bool := (decide (97 ≤ n) && decide (n ≤ 122)) || (decide (48 ≤ n) && decide (n ≤ 57))
def cWordByte : Con := .fn 17 Int (fun a => [.int .u8 a]) (fun _ => True) (fun a => .bool (wordB a)) (fun _ => [])
set_option maxHeartbeats 4000000 in
theorem wordByte_has : Has Tryz.prog 89 cWordByte := by
  refine has_walk mixed tTab_ok (l := []) HasL.nil [0, 2] ((fun a n (_ : Nat) => (fun _ => noInv) a n)) [] Tryz.func89 (by kernel_rfl) (code := _) (by unfold Tryz.f89; rfl) (by kernel_rfl) (by decide) (fun _ => ⟨(), trivial⟩) (by intro h; first | exact fun _ => rfl | cases h) (by kernel_rfl) ?_
  intro a _
  simp -implicitDefEqProofs [vc_skip, extOf, vc_seq, vc_cond, vc_block, vc_exit, vc_ret, vc_region, vc_regionD, vc_loop, kSeq_normal, kSeq_ret, kSeq_exit, kBlock_normal, kBlock_ret, kBlock_exit, kLoop_normal, kLoop_ret, kLoop_exit, kCond_bool, kNorm_app, vcOps_nil, vcOps_cons, kOps_app, kStep_some, kStep_none, vcDL_nil, vcDL_cons, kOpsD_app, kStepD_true, kStepD_tt, kStepD_false, ldB, btys, btyAct, kStepC_some, kStepC_none, kMv_app, act3_store, act3_call, act3_bs, kAct_app, kSt2_app, stealSlots, stealL, stealOne, subIn, AV.stolen, act_store, act_bs, act_append, act_call, kSet_app, kSet2_app, kSetG_app, kSetG_app0, kStore_ptr, kStore_eptr, kCallW_some, kCallC_some, kCall_some, wk_T, wk_n, wk_keep, wk_inv, wk_act, wk_dr, wk_le, aCalm, wantC, dstOk, calm, aCallK, aCall3K, subOf, subRep, aCall2K, apnd, bsMove, putBox, putOwn, partAV, mvL, AV.mv, AV.base, AV.moved, kBld, bldK, wrK, stK, AV.selfOk, AV.src, TI.flat, apSize, pickAV, St.val, St.cond, St.fn, St.next, St.set, St.trim, wipe_eq, wipeE_app, wipeM_app, pickEnv, get?, cGet, upd_app, withPuts, killAll, rm, freshP, Oper.hnd, Sc.st, ofConst, constOk, lenAV, elemLen, loadAV, ldL, ld1, fieldAddrAV, indexAddrAV, sliceAV, convAV, buildAV, fillAV, fieldAV, Out.of, binAV, AV.rows, AV.one, AV.cells, AV.deepOk, AV.toD, toDs, partRows, partRowsM, partsDeep, TK.zeroAV, TK.zeroD, byteOf, inR, Op.operands, Call.operands, passVs, passV, passL, pass1, passB, pasVs, pasV, pasL, pas1, ownsOk, okHs, okHs2, okFin, finOk2, rho, over, backRes, backAV, backAV1, backBlk, putBack, back2, back2_V, back2_1, m2, AV.wipe, AV.wipeV, AV.wipe1, Blk.wipe, AV.hs, AV.hs.hsL, alOps, Con.start2, Con.pk, bodyQ, fini, resAV, resA, firstId, Sc.from, renEnv, renT, renV, renVs, renL, ren1, renBox, renOwn, okRen, clOf, actB, setRow, flatRows, flatD, noInv, shr_nil, shr_some, kStepF_some, shareL, AV.viewed, AV.viewed1, cWordByte, Con.fn, tTab, wordB]
  repeat' (first | intro _ | apply And.intro)
  all_goals first | omega | grind

def nameB (s : Str) : Bool := decide (1 ≤ s.length) && decide (s.length ≤ 6) && s.all fun b => wordB b.toNat
def cNameOk : Con := .fn 19 Str (fun s => [.str s]) (fun _ => True) (fun s => .bool (nameB s)) (fun _ => [])
set_option maxHeartbeats 4000000 in
theorem nameOk_has : Has Tryz.prog 45 cNameOk := by
  refine has_walk mixed tTab_ok (l := [(51, cWithin), (89, cWordByte)]) (HasL.cons within_has (HasL.cons wordByte_has HasL.nil)) [0, 2, 3] ((fun a n (_ : Nat) => (fun s _ => ⟨Nat, fun i => ⟨[(0, true, .str s), (2, true, .bool false), (3, true, .int .i64 i)], []⟩, fun i => i ≤ s.length ∧ 1 ≤ s.length ∧ s.length ≤ 6 ∧ (s.take i).all (fun b => wordB b.toNat) = true, fun i => s.length - i⟩) a n)) [] Tryz.func45 (by kernel_rfl) (code := _) (by unfold Tryz.f45; rfl) (by kernel_rfl) (by decide) (fun _ => ⟨(), trivial⟩) (by intro h; first | exact fun _ => rfl | cases h) (by kernel_rfl) ?_
  intro (s : Str) _
  simp -implicitDefEqProofs [vc_skip, extOf, vc_seq, vc_cond, vc_block, vc_exit, vc_ret, vc_region, vc_regionD, vc_loop, kSeq_normal, kSeq_ret, kSeq_exit, kBlock_normal, kBlock_ret, kBlock_exit, kLoop_normal, kLoop_ret, kLoop_exit, kCond_bool, kNorm_app, vcOps_nil, vcOps_cons, kOps_app, kStep_some, kStep_none, vcDL_nil, vcDL_cons, kOpsD_app, kStepD_true, kStepD_tt, kStepD_false, ldB, btys, btyAct, kStepC_some, kStepC_none, kMv_app, act3_store, act3_call, act3_bs, kAct_app, kSt2_app, stealSlots, stealL, stealOne, subIn, AV.stolen, act_store, act_bs, act_append, act_call, kSet_app, kSet2_app, kSetG_app, kSetG_app0, kStore_ptr, kStore_eptr, kCallW_some, kCallC_some, kCall_some, wk_T, wk_n, wk_keep, wk_inv, wk_act, wk_dr, wk_le, aCalm, wantC, dstOk, calm, aCallK, aCall3K, subOf, subRep, aCall2K, apnd, bsMove, putBox, putOwn, partAV, mvL, AV.mv, AV.base, AV.moved, kBld, bldK, wrK, stK, AV.selfOk, AV.src, TI.flat, apSize, pickAV, St.val, St.cond, St.fn, St.next, St.set, St.trim, wipe_eq, wipeE_app, wipeM_app, pickEnv, get?, cGet, upd_app, withPuts, killAll, rm, freshP, Oper.hnd, Sc.st, ofConst, constOk, lenAV, elemLen, loadAV, ldL, ld1, fieldAddrAV, indexAddrAV, sliceAV, convAV, buildAV, fillAV, fieldAV, Out.of, binAV, AV.rows, AV.one, AV.cells, AV.deepOk, AV.toD, toDs, partRows, partRowsM, partsDeep, TK.zeroAV, TK.zeroD, byteOf, inR, Op.operands, Call.operands, passVs, passV, passL, pass1, passB, pasVs, pasV, pasL, pas1, ownsOk, okHs, okHs2, okFin, finOk2, rho, over, backRes, backAV, backAV1, backBlk, putBack, back2, back2_V, back2_1, m2, AV.wipe, AV.wipeV, AV.wipe1, Blk.wipe, AV.hs, AV.hs.hsL, alOps, Con.start2, Con.pk, bodyQ, fini, resAV, resA, firstId, Sc.from, renEnv, renT, renV, renVs, renL, ren1, renBox, renOwn, okRen, clOf, actB, setRow, flatRows, flatD, noInv, shr_nil, shr_some, kStepF_some, shareL, AV.viewed, AV.viewed1, cNameOk, Con.fn, tTab, cWithin, cWordByte]
  try dsimp only
  try simp +contextual [eStr, eFile, cast_succ, cast_eq, cast_zero, List.getElem?_eq_getElem, eStrs_set, eFiles_set, eStrs_rep, eFiles_rep, ← eStrs_append, ← eFiles_append, eStrs_take, eStrs_drop, eFiles_take, eFiles_drop, eStrs_snoc, eFiles_snoc, and_assoc]
  repeat' (first | intro _ | apply And.intro)
  all_goals first | omega | grind [all_take, nameB, List.take_succ_eq_append_getElem]

def cL4Name : Con := .fn 35 Str (fun s => [.str s]) (fun _ => True) (fun s => .bool (nameB s)) (fun _ => [])
set_option maxHeartbeats 4000000 in
theorem l4Name_has : Has Tryz.prog 48 cL4Name := by
  refine has_walk mixed tTab_ok (l := [(59, cL1In)]) (HasL.cons l1In_has HasL.nil) [0, 2, 3] ((fun a n (_ : Nat) => (fun s _ => ⟨Nat, fun i => ⟨[(0, true, .str s), (2, true, .bool false), (3, true, .int .i64 i)], []⟩, fun i => i ≤ s.length ∧ (s.take i).all (fun b => wordB b.toNat) = true, fun i => s.length - i⟩) a n)) [] Tryz.func48 (by kernel_rfl) (code := _) (by unfold Tryz.f48; rfl) (by kernel_rfl) (by decide) (fun _ => ⟨(), trivial⟩) (by intro h; first | exact fun _ => rfl | cases h) (by kernel_rfl) ?_
  intro (s : Str) _
  simp -implicitDefEqProofs [vc_skip, extOf, vc_seq, vc_cond, vc_block, vc_exit, vc_ret, vc_region, vc_regionD, vc_loop, kSeq_normal, kSeq_ret, kSeq_exit, kBlock_normal, kBlock_ret, kBlock_exit, kLoop_normal, kLoop_ret, kLoop_exit, kCond_bool, kNorm_app, vcOps_nil, vcOps_cons, kOps_app, kStep_some, kStep_none, vcDL_nil, vcDL_cons, kOpsD_app, kStepD_true, kStepD_tt, kStepD_false, ldB, btys, btyAct, kStepC_some, kStepC_none, kMv_app, act3_store, act3_call, act3_bs, kAct_app, kSt2_app, stealSlots, stealL, stealOne, subIn, AV.stolen, act_store, act_bs, act_append, act_call, kSet_app, kSet2_app, kSetG_app, kSetG_app0, kStore_ptr, kStore_eptr, kCallW_some, kCallC_some, kCall_some, wk_T, wk_n, wk_keep, wk_inv, wk_act, wk_dr, wk_le, aCalm, wantC, dstOk, calm, aCallK, aCall3K, subOf, subRep, aCall2K, apnd, bsMove, putBox, putOwn, partAV, mvL, AV.mv, AV.base, AV.moved, kBld, bldK, wrK, stK, AV.selfOk, AV.src, TI.flat, apSize, pickAV, St.val, St.cond, St.fn, St.next, St.set, St.trim, wipe_eq, wipeE_app, wipeM_app, pickEnv, get?, cGet, upd_app, withPuts, killAll, rm, freshP, Oper.hnd, Sc.st, ofConst, constOk, lenAV, elemLen, loadAV, ldL, ld1, fieldAddrAV, indexAddrAV, sliceAV, convAV, buildAV, fillAV, fieldAV, Out.of, binAV, AV.rows, AV.one, AV.cells, AV.deepOk, AV.toD, toDs, partRows, partRowsM, partsDeep, TK.zeroAV, TK.zeroD, byteOf, inR, Op.operands, Call.operands, passVs, passV, passL, pass1, passB, pasVs, pasV, pasL, pas1, ownsOk, okHs, okHs2, okFin, finOk2, rho, over, backRes, backAV, backAV1, backBlk, putBack, back2, back2_V, back2_1, m2, AV.wipe, AV.wipeV, AV.wipe1, Blk.wipe, AV.hs, AV.hs.hsL, alOps, Con.start2, Con.pk, bodyQ, fini, resAV, resA, firstId, Sc.from, renEnv, renT, renV, renVs, renL, ren1, renBox, renOwn, okRen, clOf, actB, setRow, flatRows, flatD, noInv, shr_nil, shr_some, kStepF_some, shareL, AV.viewed, AV.viewed1, cL4Name, Con.fn, tTab, cL1In]
  try dsimp only
  try simp +contextual [eStr, eFile, cast_succ, cast_eq, cast_zero, List.getElem?_eq_getElem, eStrs_set, eFiles_set, eStrs_rep, eFiles_rep, ← eStrs_append, ← eFiles_append, eStrs_take, eStrs_drop, eFiles_take, eFiles_drop, eStrs_snoc, eFiles_snoc, and_assoc]
  repeat' (first | intro _ | apply And.intro)
  all_goals first | omega | grind [all_take, nameB, wordB, List.take_succ_eq_append_getElem]

def lineB (s : Str) : Bool := decide (s.length ≤ 12) && s.all fun b => decide (32 ≤ b.toNat) && decide (b.toNat ≤ 126)
def cLineOk : Con := .fn 23 Str (fun s => [.str s]) (fun _ => True) (fun s => .bool (lineB s)) (fun _ => [])
set_option maxHeartbeats 4000000 in
theorem lineOk_has : Has Tryz.prog 127 cLineOk := by
  refine has_walk mixed tTab_ok (l := []) HasL.nil [0, 2, 3] ((fun a n (_ : Nat) => (fun s _ => ⟨Nat, fun i => ⟨[(0, true, .str s), (2, true, .bool false), (3, true, .int .i64 i)], []⟩, fun i => i ≤ s.length ∧ s.length ≤ 12 ∧ (s.take i).all (fun b => decide (32 ≤ b.toNat) && decide (b.toNat ≤ 126)) = true, fun i => s.length - i⟩) a n)) [] Tryz.func127 (by kernel_rfl) (code := _) (by unfold Tryz.f127; rfl) (by kernel_rfl) (by decide) (fun _ => ⟨(), trivial⟩) (by intro h; first | exact fun _ => rfl | cases h) (by kernel_rfl) ?_
  intro (s : Str) _
  simp -implicitDefEqProofs [vc_skip, extOf, vc_seq, vc_cond, vc_block, vc_exit, vc_ret, vc_region, vc_regionD, vc_loop, kSeq_normal, kSeq_ret, kSeq_exit, kBlock_normal, kBlock_ret, kBlock_exit, kLoop_normal, kLoop_ret, kLoop_exit, kCond_bool, kNorm_app, vcOps_nil, vcOps_cons, kOps_app, kStep_some, kStep_none, vcDL_nil, vcDL_cons, kOpsD_app, kStepD_true, kStepD_tt, kStepD_false, ldB, btys, btyAct, kStepC_some, kStepC_none, kMv_app, act3_store, act3_call, act3_bs, kAct_app, kSt2_app, stealSlots, stealL, stealOne, subIn, AV.stolen, act_store, act_bs, act_append, act_call, kSet_app, kSet2_app, kSetG_app, kSetG_app0, kStore_ptr, kStore_eptr, kCallW_some, kCallC_some, kCall_some, wk_T, wk_n, wk_keep, wk_inv, wk_act, wk_dr, wk_le, aCalm, wantC, dstOk, calm, aCallK, aCall3K, subOf, subRep, aCall2K, apnd, bsMove, putBox, putOwn, partAV, mvL, AV.mv, AV.base, AV.moved, kBld, bldK, wrK, stK, AV.selfOk, AV.src, TI.flat, apSize, pickAV, St.val, St.cond, St.fn, St.next, St.set, St.trim, wipe_eq, wipeE_app, wipeM_app, pickEnv, get?, cGet, upd_app, withPuts, killAll, rm, freshP, Oper.hnd, Sc.st, ofConst, constOk, lenAV, elemLen, loadAV, ldL, ld1, fieldAddrAV, indexAddrAV, sliceAV, convAV, buildAV, fillAV, fieldAV, Out.of, binAV, AV.rows, AV.one, AV.cells, AV.deepOk, AV.toD, toDs, partRows, partRowsM, partsDeep, TK.zeroAV, TK.zeroD, byteOf, inR, Op.operands, Call.operands, passVs, passV, passL, pass1, passB, pasVs, pasV, pasL, pas1, ownsOk, okHs, okHs2, okFin, finOk2, rho, over, backRes, backAV, backAV1, backBlk, putBack, back2, back2_V, back2_1, m2, AV.wipe, AV.wipeV, AV.wipe1, Blk.wipe, AV.hs, AV.hs.hsL, alOps, Con.start2, Con.pk, bodyQ, fini, resAV, resA, firstId, Sc.from, renEnv, renT, renV, renVs, renL, ren1, renBox, renOwn, okRen, clOf, actB, setRow, flatRows, flatD, noInv, shr_nil, shr_some, kStepF_some, shareL, AV.viewed, AV.viewed1, cLineOk, Con.fn, tTab]
  try dsimp only
  try simp +contextual [eStr, eFile, cast_succ, cast_eq, cast_zero, List.getElem?_eq_getElem, eStrs_set, eFiles_set, eStrs_rep, eFiles_rep, ← eStrs_append, ← eFiles_append, eStrs_take, eStrs_drop, eFiles_take, eFiles_drop, eStrs_snoc, eFiles_snoc, and_assoc]
  repeat' (first | intro _ | apply And.intro)
  all_goals first | omega | grind [all_take, lineB, List.take_succ_eq_append_getElem]

def cL1Line : Con := .fn 23 Str (fun s => [.str s]) (fun _ => True) (fun s => .bool (lineB s)) (fun _ => [])
set_option maxHeartbeats 4000000 in
theorem l1Line_has : Has Tryz.prog 147 cL1Line := by
  refine has_walk mixed tTab_ok (l := []) HasL.nil [0, 2, 3] ((fun a n (_ : Nat) => (fun s _ => ⟨Nat, fun i => ⟨[(0, true, .str s), (2, true, .bool false), (3, true, .int .i64 i)], []⟩, fun i => i ≤ s.length ∧ (s.take i).all (fun b => decide (32 ≤ b.toNat) && decide (b.toNat ≤ 126)) = true, fun i => s.length - i⟩) a n)) [] Tryz.func147 (by kernel_rfl) (code := _) (by unfold Tryz.f147; rfl) (by kernel_rfl) (by decide) (fun _ => ⟨(), trivial⟩) (by intro h; first | exact fun _ => rfl | cases h) (by kernel_rfl) ?_
  intro (s : Str) _
  simp -implicitDefEqProofs [vc_skip, extOf, vc_seq, vc_cond, vc_block, vc_exit, vc_ret, vc_region, vc_regionD, vc_loop, kSeq_normal, kSeq_ret, kSeq_exit, kBlock_normal, kBlock_ret, kBlock_exit, kLoop_normal, kLoop_ret, kLoop_exit, kCond_bool, kNorm_app, vcOps_nil, vcOps_cons, kOps_app, kStep_some, kStep_none, vcDL_nil, vcDL_cons, kOpsD_app, kStepD_true, kStepD_tt, kStepD_false, ldB, btys, btyAct, kStepC_some, kStepC_none, kMv_app, act3_store, act3_call, act3_bs, kAct_app, kSt2_app, stealSlots, stealL, stealOne, subIn, AV.stolen, act_store, act_bs, act_append, act_call, kSet_app, kSet2_app, kSetG_app, kSetG_app0, kStore_ptr, kStore_eptr, kCallW_some, kCallC_some, kCall_some, wk_T, wk_n, wk_keep, wk_inv, wk_act, wk_dr, wk_le, aCalm, wantC, dstOk, calm, aCallK, aCall3K, subOf, subRep, aCall2K, apnd, bsMove, putBox, putOwn, partAV, mvL, AV.mv, AV.base, AV.moved, kBld, bldK, wrK, stK, AV.selfOk, AV.src, TI.flat, apSize, pickAV, St.val, St.cond, St.fn, St.next, St.set, St.trim, wipe_eq, wipeE_app, wipeM_app, pickEnv, get?, cGet, upd_app, withPuts, killAll, rm, freshP, Oper.hnd, Sc.st, ofConst, constOk, lenAV, elemLen, loadAV, ldL, ld1, fieldAddrAV, indexAddrAV, sliceAV, convAV, buildAV, fillAV, fieldAV, Out.of, binAV, AV.rows, AV.one, AV.cells, AV.deepOk, AV.toD, toDs, partRows, partRowsM, partsDeep, TK.zeroAV, TK.zeroD, byteOf, inR, Op.operands, Call.operands, passVs, passV, passL, pass1, passB, pasVs, pasV, pasL, pas1, ownsOk, okHs, okHs2, okFin, finOk2, rho, over, backRes, backAV, backAV1, backBlk, putBack, back2, back2_V, back2_1, m2, AV.wipe, AV.wipeV, AV.wipe1, Blk.wipe, AV.hs, AV.hs.hsL, alOps, Con.start2, Con.pk, bodyQ, fini, resAV, resA, firstId, Sc.from, renEnv, renT, renV, renVs, renL, ren1, renBox, renOwn, okRen, clOf, actB, setRow, flatRows, flatD, noInv, shr_nil, shr_some, kStepF_some, shareL, AV.viewed, AV.viewed1, cL1Line, Con.fn, tTab]
  try dsimp only
  try simp +contextual [eStr, eFile, cast_succ, cast_eq, cast_zero, List.getElem?_eq_getElem, eStrs_set, eFiles_set, eStrs_rep, eFiles_rep, ← eStrs_append, ← eFiles_append, eStrs_take, eStrs_drop, eFiles_take, eFiles_drop, eStrs_snoc, eFiles_snoc, and_assoc]
  repeat' (first | intro _ | apply And.intro)
  all_goals first | omega | grind [all_take, lineB, List.take_succ_eq_append_getElem]

end Vx
end Go.Proofs.YthmhaggmcfemnaaGreatDoor
/-
  Contracts: texts.
-/
namespace Go.Proofs.YthmhaggmcfemnaaGreatDoor
namespace Vx
open Go.RowKit

def textB (t : List Str) : Bool := decide (t.length ≤ 10) && t.all lineB
def cTextOk : Con := .fn 18 (List Str) (fun t => [.sl true 1 (eStrs t)]) (fun _ => True) (fun t => .bool (textB t)) (fun _ => [])
set_option maxHeartbeats 4000000 in
theorem textOk_has : Has Tryz.prog 95 cTextOk := by
  refine has_walk mixed tTab_ok (l := [(127, cLineOk)]) (HasL.cons lineOk_has HasL.nil) [0, 2, 4, 8, 9, 10] ((fun a n (_ : Nat) => (fun t _ => ⟨Nat, fun i => ⟨[(2, true, .bool false), (8, true, .sl true 1 (eStrs t)), (9, true, .int .i64 t.length), (10, true, .int .i64 i)], []⟩, fun i => i ≤ t.length ∧ t.length ≤ 10 ∧ (t.take i).all lineB = true, fun i => t.length - i⟩) a n)) [] Tryz.func95 (by kernel_rfl) (code := _) (by unfold Tryz.f95; rfl) (by kernel_rfl) (by decide) (fun _ => ⟨(), trivial⟩) (by intro h; first | exact fun _ => rfl | cases h) (by kernel_rfl) ?_
  intro (t : List Str) _
  simp -implicitDefEqProofs [vc_skip, extOf, vc_seq, vc_cond, vc_block, vc_exit, vc_ret, vc_region, vc_regionD, vc_loop, kSeq_normal, kSeq_ret, kSeq_exit, kBlock_normal, kBlock_ret, kBlock_exit, kLoop_normal, kLoop_ret, kLoop_exit, kCond_bool, kNorm_app, vcOps_nil, vcOps_cons, kOps_app, kStep_some, kStep_none, vcDL_nil, vcDL_cons, kOpsD_app, kStepD_true, kStepD_tt, kStepD_false, ldB, btys, btyAct, kStepC_some, kStepC_none, kMv_app, act3_store, act3_call, act3_bs, kAct_app, kSt2_app, stealSlots, stealL, stealOne, subIn, AV.stolen, act_store, act_bs, act_append, act_call, kSet_app, kSet2_app, kSetG_app, kSetG_app0, kStore_ptr, kStore_eptr, kCallW_some, kCallC_some, kCall_some, wk_T, wk_n, wk_keep, wk_inv, wk_act, wk_dr, wk_le, aCalm, wantC, dstOk, calm, aCallK, aCall3K, subOf, subRep, aCall2K, apnd, bsMove, putBox, putOwn, partAV, mvL, AV.mv, AV.base, AV.moved, kBld, bldK, wrK, stK, AV.selfOk, AV.src, TI.flat, apSize, pickAV, St.val, St.cond, St.fn, St.next, St.set, St.trim, wipe_eq, wipeE_app, wipeM_app, pickEnv, get?, cGet, upd_app, withPuts, killAll, rm, freshP, Oper.hnd, Sc.st, ofConst, constOk, lenAV, elemLen, loadAV, ldL, ld1, fieldAddrAV, indexAddrAV, sliceAV, convAV, buildAV, fillAV, fieldAV, Out.of, binAV, AV.rows, AV.one, AV.cells, AV.deepOk, AV.toD, toDs, partRows, partRowsM, partsDeep, TK.zeroAV, TK.zeroD, byteOf, inR, Op.operands, Call.operands, passVs, passV, passL, pass1, passB, pasVs, pasV, pasL, pas1, ownsOk, okHs, okHs2, okFin, finOk2, rho, over, backRes, backAV, backAV1, backBlk, putBack, back2, back2_V, back2_1, m2, AV.wipe, AV.wipeV, AV.wipe1, Blk.wipe, AV.hs, AV.hs.hsL, alOps, Con.start2, Con.pk, bodyQ, fini, resAV, resA, firstId, Sc.from, renEnv, renT, renV, renVs, renL, ren1, renBox, renOwn, okRen, clOf, actB, setRow, flatRows, flatD, noInv, shr_nil, shr_some, kStepF_some, shareL, AV.viewed, AV.viewed1, cTextOk, Con.fn, tTab, cLineOk]
  try dsimp only
  try simp +contextual [eStr, eFile, cast_succ, cast_eq, cast_zero, List.getElem?_eq_getElem, eStrs_set, eFiles_set, eStrs_rep, eFiles_rep, ← eStrs_append, ← eFiles_append, eStrs_take, eStrs_drop, eFiles_take, eFiles_drop, eStrs_snoc, eFiles_snoc, and_assoc]
  repeat' (first | intro _ | apply And.intro)
  all_goals first | omega | grind [all_take, textB, List.take_succ_eq_append_getElem]

def cL1Ok : Con := .fn 19 (List Str) (fun t => [.sl true 1 (eStrs t)]) (fun _ => True) (fun t => .bool (textB t)) (fun _ => [])
set_option maxHeartbeats 4000000 in
theorem l1Ok_has : Has Tryz.prog 124 cL1Ok := by
  refine has_walk mixed tTab_ok (l := [(147, cL1Line)]) (HasL.cons l1Line_has HasL.nil) [0, 2, 3] ((fun a n (_ : Nat) => (fun t _ => ⟨Nat, fun i => ⟨[(0, true, .sl true 1 (eStrs t)), (2, true, .bool false), (3, true, .int .i64 i)], []⟩, fun i => i ≤ t.length ∧ (t.take i).all lineB = true, fun i => t.length - i⟩) a n)) [] Tryz.func124 (by kernel_rfl) (code := _) (by unfold Tryz.f124; rfl) (by kernel_rfl) (by decide) (fun _ => ⟨(), trivial⟩) (by intro h; first | exact fun _ => rfl | cases h) (by kernel_rfl) ?_
  intro (t : List Str) _
  simp -implicitDefEqProofs [vc_skip, extOf, vc_seq, vc_cond, vc_block, vc_exit, vc_ret, vc_region, vc_regionD, vc_loop, kSeq_normal, kSeq_ret, kSeq_exit, kBlock_normal, kBlock_ret, kBlock_exit, kLoop_normal, kLoop_ret, kLoop_exit, kCond_bool, kNorm_app, vcOps_nil, vcOps_cons, kOps_app, kStep_some, kStep_none, vcDL_nil, vcDL_cons, kOpsD_app, kStepD_true, kStepD_tt, kStepD_false, ldB, btys, btyAct, kStepC_some, kStepC_none, kMv_app, act3_store, act3_call, act3_bs, kAct_app, kSt2_app, stealSlots, stealL, stealOne, subIn, AV.stolen, act_store, act_bs, act_append, act_call, kSet_app, kSet2_app, kSetG_app, kSetG_app0, kStore_ptr, kStore_eptr, kCallW_some, kCallC_some, kCall_some, wk_T, wk_n, wk_keep, wk_inv, wk_act, wk_dr, wk_le, aCalm, wantC, dstOk, calm, aCallK, aCall3K, subOf, subRep, aCall2K, apnd, bsMove, putBox, putOwn, partAV, mvL, AV.mv, AV.base, AV.moved, kBld, bldK, wrK, stK, AV.selfOk, AV.src, TI.flat, apSize, pickAV, St.val, St.cond, St.fn, St.next, St.set, St.trim, wipe_eq, wipeE_app, wipeM_app, pickEnv, get?, cGet, upd_app, withPuts, killAll, rm, freshP, Oper.hnd, Sc.st, ofConst, constOk, lenAV, elemLen, loadAV, ldL, ld1, fieldAddrAV, indexAddrAV, sliceAV, convAV, buildAV, fillAV, fieldAV, Out.of, binAV, AV.rows, AV.one, AV.cells, AV.deepOk, AV.toD, toDs, partRows, partRowsM, partsDeep, TK.zeroAV, TK.zeroD, byteOf, inR, Op.operands, Call.operands, passVs, passV, passL, pass1, passB, pasVs, pasV, pasL, pas1, ownsOk, okHs, okHs2, okFin, finOk2, rho, over, backRes, backAV, backAV1, backBlk, putBack, back2, back2_V, back2_1, m2, AV.wipe, AV.wipeV, AV.wipe1, Blk.wipe, AV.hs, AV.hs.hsL, alOps, Con.start2, Con.pk, bodyQ, fini, resAV, resA, firstId, Sc.from, renEnv, renT, renV, renVs, renL, ren1, renBox, renOwn, okRen, clOf, actB, setRow, flatRows, flatD, noInv, shr_nil, shr_some, kStepF_some, shareL, AV.viewed, AV.viewed1, cL1Ok, Con.fn, tTab, cL1Line]
  try dsimp only
  try simp +contextual [eStr, eFile, cast_succ, cast_eq, cast_zero, List.getElem?_eq_getElem, eStrs_set, eFiles_set, eStrs_rep, eFiles_rep, ← eStrs_append, ← eFiles_append, eStrs_take, eStrs_drop, eFiles_take, eFiles_drop, eStrs_snoc, eFiles_snoc, and_assoc]
  repeat' (first | intro _ | apply And.intro)
  all_goals first | omega | grind [all_take, textB, List.take_succ_eq_append_getElem]

def cEqStringS : Con := .fn 26 (List Str × List Str) (fun a => [.sl true 1 (eStrs a.1), .sl true 1 (eStrs a.2)]) (fun _ => True) (fun a => .bool (decide (a.1 = a.2))) (fun _ => [])
set_option maxHeartbeats 4000000 in
theorem eqStringS_has : Has Tryz.prog 190 cEqStringS := by
  refine has_walk mixed tTab_ok (l := []) HasL.nil [0, 1, 2, 3, 4, 5] ((fun a n (_ : Nat) => (fun a _ => ⟨Nat, fun i => ⟨[(0, true, .sl true 1 (eStrs a.1)), (1, true, .sl true 1 (eStrs a.2)), (4, true, .bool false), (5, true, .int .i64 i)], []⟩, fun i => i ≤ a.1.length ∧ a.1.length = a.2.length ∧ a.1.take i = a.2.take i, fun i => a.1.length - i⟩) a n)) [] Tryz.func190 (by kernel_rfl) (code := _) (by unfold Tryz.f190; rfl) (by kernel_rfl) (by decide) (fun _ => ⟨(), trivial⟩) (by intro h; first | exact fun _ => rfl | cases h) (by kernel_rfl) ?_
  intro a _
  obtain ⟨l, r⟩ := a
  simp -implicitDefEqProofs [vc_skip, extOf, vc_seq, vc_cond, vc_block, vc_exit, vc_ret, vc_region, vc_regionD, vc_loop, kSeq_normal, kSeq_ret, kSeq_exit, kBlock_normal, kBlock_ret, kBlock_exit, kLoop_normal, kLoop_ret, kLoop_exit, kCond_bool, kNorm_app, vcOps_nil, vcOps_cons, kOps_app, kStep_some, kStep_none, vcDL_nil, vcDL_cons, kOpsD_app, kStepD_true, kStepD_tt, kStepD_false, ldB, btys, btyAct, kStepC_some, kStepC_none, kMv_app, act3_store, act3_call, act3_bs, kAct_app, kSt2_app, stealSlots, stealL, stealOne, subIn, AV.stolen, act_store, act_bs, act_append, act_call, kSet_app, kSet2_app, kSetG_app, kSetG_app0, kStore_ptr, kStore_eptr, kCallW_some, kCallC_some, kCall_some, wk_T, wk_n, wk_keep, wk_inv, wk_act, wk_dr, wk_le, aCalm, wantC, dstOk, calm, aCallK, aCall3K, subOf, subRep, aCall2K, apnd, bsMove, putBox, putOwn, partAV, mvL, AV.mv, AV.base, AV.moved, kBld, bldK, wrK, stK, AV.selfOk, AV.src, TI.flat, apSize, pickAV, St.val, St.cond, St.fn, St.next, St.set, St.trim, wipe_eq, wipeE_app, wipeM_app, pickEnv, get?, cGet, upd_app, withPuts, killAll, rm, freshP, Oper.hnd, Sc.st, ofConst, constOk, lenAV, elemLen, loadAV, ldL, ld1, fieldAddrAV, indexAddrAV, sliceAV, convAV, buildAV, fillAV, fieldAV, Out.of, binAV, AV.rows, AV.one, AV.cells, AV.deepOk, AV.toD, toDs, partRows, partRowsM, partsDeep, TK.zeroAV, TK.zeroD, byteOf, inR, Op.operands, Call.operands, passVs, passV, passL, pass1, passB, pasVs, pasV, pasL, pas1, ownsOk, okHs, okHs2, okFin, finOk2, rho, over, backRes, backAV, backAV1, backBlk, putBack, back2, back2_V, back2_1, m2, AV.wipe, AV.wipeV, AV.wipe1, Blk.wipe, AV.hs, AV.hs.hsL, alOps, Con.start2, Con.pk, bodyQ, fini, resAV, resA, firstId, Sc.from, renEnv, renT, renV, renVs, renL, ren1, renBox, renOwn, okRen, clOf, actB, setRow, flatRows, flatD, noInv, shr_nil, shr_some, kStepF_some, shareL, AV.viewed, AV.viewed1, cEqStringS, Con.fn, tTab]
  try dsimp only
  try simp +contextual [eStr, eFile, cast_succ, cast_eq, cast_zero, List.getElem?_eq_getElem, eStrs_set, eFiles_set, eStrs_rep, eFiles_rep, ← eStrs_append, ← eFiles_append, eStrs_take, eStrs_drop, eFiles_take, eFiles_drop, eStrs_snoc, eFiles_snoc, and_assoc]
  repeat' (first | intro _ | apply And.intro)
  all_goals first | omega | grind [all_take, eq_take, eq_end]

/-- What is left of a size. -/
def szL : List Str → Int → Int
  | [], l => l
  | s :: r, l => if l - s.length < 0 then -1 else szL r (l - s.length)
def szStrs (a : List Str) (l : Int) : Int := if l - a.length < 0 then -1 else szL a (l - a.length)
theorem szL_step {a : List Str} {i : Nat} {l : Int} (h : i < a.length) : szL (a.drop i) l = if l - a[i].length < 0 then -1 else szL (a.drop (i + 1)) (l - a[i].length) := by
  rw [List.drop_eq_getElem_cons h]; rfl
theorem szL_end {a : List Str} {i : Nat} {l : Int} (h : a.length ≤ i) : szL (a.drop i) l = l := by
  rw [List.drop_eq_nil_of_le h]; rfl
end Vx
end Go.Proofs.YthmhaggmcfemnaaGreatDoor
/-
  Contracts: sizes, copies and comparisons of files.
-/
namespace Go.Proofs.YthmhaggmcfemnaaGreatDoor
namespace Vx
open Go.RowKit

abbrev ownStrs (h : Nat) (a : List Str) : List (Nat × Blk) := [(h, .own 9 1 true (eStrs a))]
abbrev ownFiles (h : Nat) (a : List FileD) : List (Nat × Blk) := [(h, .own 106 2 true (eFiles a))]

def szF (f : FileD) (l : Int) : Int := if l - f.path.length < 0 then -1 else if szStrs f.text (l - f.path.length) < 0 then -1 else szStrs f.text (l - f.path.length)
end Vx
end Go.Proofs.YthmhaggmcfemnaaGreatDoor
/-
  Contracts: a file's copy.
-/
namespace Go.Proofs.YthmhaggmcfemnaaGreatDoor
namespace Vx
open Go.RowKit

end Vx
end Go.Proofs.YthmhaggmcfemnaaGreatDoor
/-
  Contracts: sizes, copies and comparisons of files (2).
-/
namespace Go.Proofs.YthmhaggmcfemnaaGreatDoor
namespace Vx
open Go.RowKit

def szFL : List FileD → Int → Int
  | [], l => l
  | f :: r, l => if szF f l < 0 then -1 else szFL r (szF f l)
def szFiles (a : List FileD) (l : Int) : Int := if l - a.length < 0 then -1 else szFL a (l - a.length)
theorem szFL_step {a : List FileD} {i : Nat} {l : Int} (h : i < a.length) : szFL (a.drop i) l = if szF a[i] l < 0 then -1 else szFL (a.drop (i + 1)) (szF a[i] l) := by
  rw [List.drop_eq_getElem_cons h]; rfl
theorem szFL_end {a : List FileD} {i : Nat} {l : Int} (h : a.length ≤ i) : szFL (a.drop i) l = l := by
  rw [List.drop_eq_nil_of_le h]; rfl
theorem szL_le : ∀ {a : List Str} {l : Int}, 0 ≤ l → szL a l ≤ l := by
  intro a
  induction a with
  | nil => intro l _; exact Int.le_refl l
  | cons s r ih =>
    intro l h
    simp only [szL]
    split
    · omega
    · have := ih (l := l - s.length) (by omega); omega
theorem szStrs_le {a : List Str} {l : Int} (h : 0 ≤ l) : szStrs a l ≤ l := by
  unfold szStrs
  split
  · omega
  · have := szL_le (a := a) (l := l - a.length) (by omega); omega
theorem szF_le {f : FileD} {l : Int} (h : 0 ≤ l) : szF f l ≤ l := by
  unfold szF
  split
  · omega
  · split
    · omega
    · have := szStrs_le (a := f.text) (l := l - f.path.length) (by omega); omega
def cEqFile : Con := .fn 16 (FileD × FileD) (fun a => [.agg [.str a.1.path, .sl true 1 (eStrs a.1.text)], .agg [.str a.2.path, .sl true 1 (eStrs a.2.text)]]) (fun _ => True) (fun a => .bool (decide (a.1 = a.2))) (fun _ => [])
set_option maxHeartbeats 4000000 in
theorem eqFile_has : Has Tryz.prog 161 cEqFile := by
  refine has_walk mixed tTab_ok (l := [(190, cEqStringS)]) (HasL.cons eqStringS_has HasL.nil) [0, 1, 2, 3, 4] ((fun a n (_ : Nat) => (fun _ => noInv) a n)) [] Tryz.func161 (by kernel_rfl) (code := _) (by unfold Tryz.f161; rfl) (by kernel_rfl) (by decide) (fun _ => ⟨(), trivial⟩) (by intro h; first | exact fun _ => rfl | cases h) (by kernel_rfl) ?_
  intro a _
  obtain ⟨⟨p, x⟩, ⟨q, y⟩⟩ := a
  simp -implicitDefEqProofs [vc_skip, extOf, vc_seq, vc_cond, vc_block, vc_exit, vc_ret, vc_region, vc_regionD, vc_loop, kSeq_normal, kSeq_ret, kSeq_exit, kBlock_normal, kBlock_ret, kBlock_exit, kLoop_normal, kLoop_ret, kLoop_exit, kCond_bool, kNorm_app, vcOps_nil, vcOps_cons, kOps_app, kStep_some, kStep_none, vcDL_nil, vcDL_cons, kOpsD_app, kStepD_true, kStepD_tt, kStepD_false, ldB, btys, btyAct, kStepC_some, kStepC_none, kMv_app, act3_store, act3_call, act3_bs, kAct_app, kSt2_app, stealSlots, stealL, stealOne, subIn, AV.stolen, act_store, act_bs, act_append, act_call, kSet_app, kSet2_app, kSetG_app, kSetG_app0, kStore_ptr, kStore_eptr, kCallW_some, kCallC_some, kCall_some, wk_T, wk_n, wk_keep, wk_inv, wk_act, wk_dr, wk_le, aCalm, wantC, dstOk, calm, aCallK, aCall3K, subOf, subRep, aCall2K, apnd, bsMove, putBox, putOwn, partAV, mvL, AV.mv, AV.base, AV.moved, kBld, bldK, wrK, stK, AV.selfOk, AV.src, TI.flat, apSize, pickAV, St.val, St.cond, St.fn, St.next, St.set, St.trim, wipe_eq, wipeE_app, wipeM_app, pickEnv, get?, cGet, upd_app, withPuts, killAll, rm, freshP, Oper.hnd, Sc.st, ofConst, constOk, lenAV, elemLen, loadAV, ldL, ld1, fieldAddrAV, indexAddrAV, sliceAV, convAV, buildAV, fillAV, fieldAV, Out.of, binAV, AV.rows, AV.one, AV.cells, AV.deepOk, AV.toD, toDs, partRows, partRowsM, partsDeep, TK.zeroAV, TK.zeroD, byteOf, inR, Op.operands, Call.operands, passVs, passV, passL, pass1, passB, pasVs, pasV, pasL, pas1, ownsOk, okHs, okHs2, okFin, finOk2, rho, over, backRes, backAV, backAV1, backBlk, putBack, back2, back2_V, back2_1, m2, AV.wipe, AV.wipeV, AV.wipe1, Blk.wipe, AV.hs, AV.hs.hsL, alOps, Con.start2, Con.pk, bodyQ, fini, resAV, resA, firstId, Sc.from, renEnv, renT, renV, renVs, renL, ren1, renBox, renOwn, okRen, clOf, actB, setRow, flatRows, flatD, noInv, shr_nil, shr_some, kStepF_some, shareL, AV.viewed, AV.viewed1, cEqFile, Con.fn, tTab, cEqStringS]
  try dsimp only
  try simp +contextual [eStr, eFile, cast_succ, cast_eq, cast_zero, List.getElem?_eq_getElem, eStrs_set, eFiles_set, eStrs_rep, eFiles_rep, ← eStrs_append, ← eFiles_append, eStrs_take, eStrs_drop, eFiles_take, eFiles_drop, eStrs_snoc, eFiles_snoc, and_assoc]
  repeat' (first | intro _ | apply And.intro)
  all_goals first | omega | grind [all_take]

def cEqFileS : Con := .fn 27 (List FileD × List FileD) (fun a => [.sl true 2 (eFiles a.1), .sl true 2 (eFiles a.2)]) (fun _ => True) (fun a => .bool (decide (a.1 = a.2))) (fun _ => [])
set_option maxHeartbeats 4000000 in
theorem eqFileS_has : Has Tryz.prog 139 cEqFileS := by
  refine has_walk mixed tTab_ok (l := [(161, cEqFile)]) (HasL.cons eqFile_has HasL.nil) [0, 1, 2, 3, 4, 5] ((fun a n (_ : Nat) => (fun a _ => ⟨Nat, fun i => ⟨[(0, true, .sl true 2 (eFiles a.1)), (1, true, .sl true 2 (eFiles a.2)), (4, true, .bool false), (5, true, .int .i64 i)], []⟩, fun i => i ≤ a.1.length ∧ a.1.length = a.2.length ∧ a.1.take i = a.2.take i, fun i => a.1.length - i⟩) a n)) [] Tryz.func139 (by kernel_rfl) (code := _) (by unfold Tryz.f139; rfl) (by kernel_rfl) (by decide) (fun _ => ⟨(), trivial⟩) (by intro h; first | exact fun _ => rfl | cases h) (by kernel_rfl) ?_
  intro a _
  obtain ⟨l, r⟩ := a
  simp -implicitDefEqProofs [vc_skip, extOf, vc_seq, vc_cond, vc_block, vc_exit, vc_ret, vc_region, vc_regionD, vc_loop, kSeq_normal, kSeq_ret, kSeq_exit, kBlock_normal, kBlock_ret, kBlock_exit, kLoop_normal, kLoop_ret, kLoop_exit, kCond_bool, kNorm_app, vcOps_nil, vcOps_cons, kOps_app, kStep_some, kStep_none, vcDL_nil, vcDL_cons, kOpsD_app, kStepD_true, kStepD_tt, kStepD_false, ldB, btys, btyAct, kStepC_some, kStepC_none, kMv_app, act3_store, act3_call, act3_bs, kAct_app, kSt2_app, stealSlots, stealL, stealOne, subIn, AV.stolen, act_store, act_bs, act_append, act_call, kSet_app, kSet2_app, kSetG_app, kSetG_app0, kStore_ptr, kStore_eptr, kCallW_some, kCallC_some, kCall_some, wk_T, wk_n, wk_keep, wk_inv, wk_act, wk_dr, wk_le, aCalm, wantC, dstOk, calm, aCallK, aCall3K, subOf, subRep, aCall2K, apnd, bsMove, putBox, putOwn, partAV, mvL, AV.mv, AV.base, AV.moved, kBld, bldK, wrK, stK, AV.selfOk, AV.src, TI.flat, apSize, pickAV, St.val, St.cond, St.fn, St.next, St.set, St.trim, wipe_eq, wipeE_app, wipeM_app, pickEnv, get?, cGet, upd_app, withPuts, killAll, rm, freshP, Oper.hnd, Sc.st, ofConst, constOk, lenAV, elemLen, loadAV, ldL, ld1, fieldAddrAV, indexAddrAV, sliceAV, convAV, buildAV, fillAV, fieldAV, Out.of, binAV, AV.rows, AV.one, AV.cells, AV.deepOk, AV.toD, toDs, partRows, partRowsM, partsDeep, TK.zeroAV, TK.zeroD, byteOf, inR, Op.operands, Call.operands, passVs, passV, passL, pass1, passB, pasVs, pasV, pasL, pas1, ownsOk, okHs, okHs2, okFin, finOk2, rho, over, backRes, backAV, backAV1, backBlk, putBack, back2, back2_V, back2_1, m2, AV.wipe, AV.wipeV, AV.wipe1, Blk.wipe, AV.hs, AV.hs.hsL, alOps, Con.start2, Con.pk, bodyQ, fini, resAV, resA, firstId, Sc.from, renEnv, renT, renV, renVs, renL, ren1, renBox, renOwn, okRen, clOf, actB, setRow, flatRows, flatD, noInv, shr_nil, shr_some, kStepF_some, shareL, AV.viewed, AV.viewed1, cEqFileS, Con.fn, tTab, cEqFile]
  try dsimp only
  try simp +contextual [eStr, eFile, cast_succ, cast_eq, cast_zero, List.getElem?_eq_getElem, eStrs_set, eFiles_set, eStrs_rep, eFiles_rep, ← eStrs_append, ← eFiles_append, eStrs_take, eStrs_drop, eFiles_take, eFiles_drop, eStrs_snoc, eFiles_snoc, and_assoc, ← FileD.eq_iff]
  repeat' (first | intro _ | apply And.intro)
  all_goals first | omega | grind [all_take, eq_take, eq_end]

end Vx
end Go.Proofs.YthmhaggmcfemnaaGreatDoor
/-
  Contracts: prefixes, paths.
-/
namespace Go.Proofs.YthmhaggmcfemnaaGreatDoor
namespace Vx
open Go.RowKit

def prefB (p s : Str) : Bool := decide (p.length ≤ s.length) && decide (s.take p.length = p)
def cSlHasPrefix : Con := .fn 18 (Str × Str) (fun a => [.str a.1, .str a.2]) (fun _ => True) (fun a => .bool (prefB a.2 a.1)) (fun _ => [])
set_option maxHeartbeats 4000000 in
theorem slHasPrefix_has : Has Tryz.prog 148 cSlHasPrefix := by
  refine has_walk mixed tTab_ok (l := []) HasL.nil [0, 1, 4] ((fun a n (_ : Nat) => (fun _ => noInv) a n)) [] Tryz.func148 (by kernel_rfl) (code := _) (by unfold Tryz.f148; rfl) (by kernel_rfl) (by decide) (fun _ => ⟨(), trivial⟩) (by intro h; first | exact fun _ => rfl | cases h) (by kernel_rfl) ?_
  intro a _
  obtain ⟨s, p⟩ := a
  simp -implicitDefEqProofs [vc_skip, extOf, vc_seq, vc_cond, vc_block, vc_exit, vc_ret, vc_region, vc_regionD, vc_loop, kSeq_normal, kSeq_ret, kSeq_exit, kBlock_normal, kBlock_ret, kBlock_exit, kLoop_normal, kLoop_ret, kLoop_exit, kCond_bool, kNorm_app, vcOps_nil, vcOps_cons, kOps_app, kStep_some, kStep_none, vcDL_nil, vcDL_cons, kOpsD_app, kStepD_true, kStepD_tt, kStepD_false, ldB, btys, btyAct, kStepC_some, kStepC_none, kMv_app, act3_store, act3_call, act3_bs, kAct_app, kSt2_app, stealSlots, stealL, stealOne, subIn, AV.stolen, act_store, act_bs, act_append, act_call, kSet_app, kSet2_app, kSetG_app, kSetG_app0, kStore_ptr, kStore_eptr, kCallW_some, kCallC_some, kCall_some, wk_T, wk_n, wk_keep, wk_inv, wk_act, wk_dr, wk_le, aCalm, wantC, dstOk, calm, aCallK, aCall3K, subOf, subRep, aCall2K, apnd, bsMove, putBox, putOwn, partAV, mvL, AV.mv, AV.base, AV.moved, kBld, bldK, wrK, stK, AV.selfOk, AV.src, TI.flat, apSize, pickAV, St.val, St.cond, St.fn, St.next, St.set, St.trim, wipe_eq, wipeE_app, wipeM_app, pickEnv, get?, cGet, upd_app, withPuts, killAll, rm, freshP, Oper.hnd, Sc.st, ofConst, constOk, lenAV, elemLen, loadAV, ldL, ld1, fieldAddrAV, indexAddrAV, sliceAV, convAV, buildAV, fillAV, fieldAV, Out.of, binAV, AV.rows, AV.one, AV.cells, AV.deepOk, AV.toD, toDs, partRows, partRowsM, partsDeep, TK.zeroAV, TK.zeroD, byteOf, inR, Op.operands, Call.operands, passVs, passV, passL, pass1, passB, pasVs, pasV, pasL, pas1, ownsOk, okHs, okHs2, okFin, finOk2, rho, over, backRes, backAV, backAV1, backBlk, putBack, back2, back2_V, back2_1, m2, AV.wipe, AV.wipeV, AV.wipe1, Blk.wipe, AV.hs, AV.hs.hsL, alOps, Con.start2, Con.pk, bodyQ, fini, resAV, resA, firstId, Sc.from, renEnv, renT, renV, renVs, renL, ren1, renBox, renOwn, okRen, clOf, actB, setRow, flatRows, flatD, noInv, shr_nil, shr_some, kStepF_some, shareL, AV.viewed, AV.viewed1, cSlHasPrefix, Con.fn, tTab, prefB]
  try dsimp only
  try simp +contextual [eStr, eFile, cast_succ, cast_eq, cast_zero, List.getElem?_eq_getElem, eStrs_set, eFiles_set, eStrs_rep, eFiles_rep, ← eStrs_append, ← eFiles_append, eStrs_take, eStrs_drop, eFiles_take, eFiles_drop, eStrs_snoc, eFiles_snoc, and_assoc]
  repeat' (first | intro _ | apply And.intro)
  all_goals first | omega | grind [all_take]

def cHasPrefix : Con := .fn 8 (Str × Str) (fun a => [.str a.1, .str a.2]) (fun _ => True) (fun a => .bool (prefB a.2 a.1)) (fun _ => [])
set_option maxHeartbeats 4000000 in
theorem hasPrefix_has : Has Tryz.prog 128 cHasPrefix := by
  refine has_walk mixed tTab_ok (l := [(148, cSlHasPrefix)]) (HasL.cons slHasPrefix_has HasL.nil) [0, 1, 4] ((fun a n (_ : Nat) => (fun _ => noInv) a n)) [] Tryz.func128 (by kernel_rfl) (code := _) (by unfold Tryz.f128; rfl) (by kernel_rfl) (by decide) (fun _ => ⟨(), trivial⟩) (by intro h; first | exact fun _ => rfl | cases h) (by kernel_rfl) ?_
  intro a _
  obtain ⟨s, p⟩ := a
  simp -implicitDefEqProofs [vc_skip, extOf, vc_seq, vc_cond, vc_block, vc_exit, vc_ret, vc_region, vc_regionD, vc_loop, kSeq_normal, kSeq_ret, kSeq_exit, kBlock_normal, kBlock_ret, kBlock_exit, kLoop_normal, kLoop_ret, kLoop_exit, kCond_bool, kNorm_app, vcOps_nil, vcOps_cons, kOps_app, kStep_some, kStep_none, vcDL_nil, vcDL_cons, kOpsD_app, kStepD_true, kStepD_tt, kStepD_false, ldB, btys, btyAct, kStepC_some, kStepC_none, kMv_app, act3_store, act3_call, act3_bs, kAct_app, kSt2_app, stealSlots, stealL, stealOne, subIn, AV.stolen, act_store, act_bs, act_append, act_call, kSet_app, kSet2_app, kSetG_app, kSetG_app0, kStore_ptr, kStore_eptr, kCallW_some, kCallC_some, kCall_some, wk_T, wk_n, wk_keep, wk_inv, wk_act, wk_dr, wk_le, aCalm, wantC, dstOk, calm, aCallK, aCall3K, subOf, subRep, aCall2K, apnd, bsMove, putBox, putOwn, partAV, mvL, AV.mv, AV.base, AV.moved, kBld, bldK, wrK, stK, AV.selfOk, AV.src, TI.flat, apSize, pickAV, St.val, St.cond, St.fn, St.next, St.set, St.trim, wipe_eq, wipeE_app, wipeM_app, pickEnv, get?, cGet, upd_app, withPuts, killAll, rm, freshP, Oper.hnd, Sc.st, ofConst, constOk, lenAV, elemLen, loadAV, ldL, ld1, fieldAddrAV, indexAddrAV, sliceAV, convAV, buildAV, fillAV, fieldAV, Out.of, binAV, AV.rows, AV.one, AV.cells, AV.deepOk, AV.toD, toDs, partRows, partRowsM, partsDeep, TK.zeroAV, TK.zeroD, byteOf, inR, Op.operands, Call.operands, passVs, passV, passL, pass1, passB, pasVs, pasV, pasL, pas1, ownsOk, okHs, okHs2, okFin, finOk2, rho, over, backRes, backAV, backAV1, backBlk, putBack, back2, back2_V, back2_1, m2, AV.wipe, AV.wipeV, AV.wipe1, Blk.wipe, AV.hs, AV.hs.hsL, alOps, Con.start2, Con.pk, bodyQ, fini, resAV, resA, firstId, Sc.from, renEnv, renT, renV, renVs, renL, ren1, renBox, renOwn, okRen, clOf, actB, setRow, flatRows, flatD, noInv, shr_nil, shr_some, kStepF_some, shareL, AV.viewed, AV.viewed1, cHasPrefix, Con.fn, tTab, cSlHasPrefix]
  try dsimp only
  try simp +contextual [eStr, eFile, cast_succ, cast_eq, cast_zero, List.getElem?_eq_getElem, eStrs_set, eFiles_set, eStrs_rep, eFiles_rep, ← eStrs_append, ← eFiles_append, eStrs_take, eStrs_drop, eFiles_take, eFiles_drop, eStrs_snoc, eFiles_snoc, and_assoc]
  repeat' (first | intro _ | apply And.intro)
  all_goals first | omega | grind [all_take]

def inB (d p : Str) : Bool := decide (d.length < p.length) && decide (p.take d.length = d) && decide (p.getD d.length 0 = 47)
theorem u8_eq (a : UInt8) : ((a.toNat : Int) = 47) = (a = 47) := by
  apply propext
  constructor
  · intro h
    have : a.toNat = 47 := by omega
    exact UInt8.toNat_inj.1 (by simpa using this)
  · rintro rfl; rfl
def cL4In : Con := .fn 25 (Str × Str) (fun a => [.str a.1, .str a.2]) (fun _ => True) (fun a => .bool (inB a.1 a.2)) (fun _ => [])
set_option maxHeartbeats 4000000 in
theorem l4In_has : Has Tryz.prog 125 cL4In := by
  refine has_walk mixed tTab_ok (l := []) HasL.nil [0, 1, 4] ((fun a n (_ : Nat) => (fun _ => noInv) a n)) [] Tryz.func125 (by kernel_rfl) (code := _) (by unfold Tryz.f125; rfl) (by kernel_rfl) (by decide) (fun _ => ⟨(), trivial⟩) (by intro h; first | exact fun _ => rfl | cases h) (by kernel_rfl) ?_
  intro a _
  obtain ⟨d, p⟩ := a
  simp -implicitDefEqProofs [vc_skip, extOf, vc_seq, vc_cond, vc_block, vc_exit, vc_ret, vc_region, vc_regionD, vc_loop, kSeq_normal, kSeq_ret, kSeq_exit, kBlock_normal, kBlock_ret, kBlock_exit, kLoop_normal, kLoop_ret, kLoop_exit, kCond_bool, kNorm_app, vcOps_nil, vcOps_cons, kOps_app, kStep_some, kStep_none, vcDL_nil, vcDL_cons, kOpsD_app, kStepD_true, kStepD_tt, kStepD_false, ldB, btys, btyAct, kStepC_some, kStepC_none, kMv_app, act3_store, act3_call, act3_bs, kAct_app, kSt2_app, stealSlots, stealL, stealOne, subIn, AV.stolen, act_store, act_bs, act_append, act_call, kSet_app, kSet2_app, kSetG_app, kSetG_app0, kStore_ptr, kStore_eptr, kCallW_some, kCallC_some, kCall_some, wk_T, wk_n, wk_keep, wk_inv, wk_act, wk_dr, wk_le, aCalm, wantC, dstOk, calm, aCallK, aCall3K, subOf, subRep, aCall2K, apnd, bsMove, putBox, putOwn, partAV, mvL, AV.mv, AV.base, AV.moved, kBld, bldK, wrK, stK, AV.selfOk, AV.src, TI.flat, apSize, pickAV, St.val, St.cond, St.fn, St.next, St.set, St.trim, wipe_eq, wipeE_app, wipeM_app, pickEnv, get?, cGet, upd_app, withPuts, killAll, rm, freshP, Oper.hnd, Sc.st, ofConst, constOk, lenAV, elemLen, loadAV, ldL, ld1, fieldAddrAV, indexAddrAV, sliceAV, convAV, buildAV, fillAV, fieldAV, Out.of, binAV, AV.rows, AV.one, AV.cells, AV.deepOk, AV.toD, toDs, partRows, partRowsM, partsDeep, TK.zeroAV, TK.zeroD, byteOf, inR, Op.operands, Call.operands, passVs, passV, passL, pass1, passB, pasVs, pasV, pasL, pas1, ownsOk, okHs, okHs2, okFin, finOk2, rho, over, backRes, backAV, backAV1, backBlk, putBack, back2, back2_V, back2_1, m2, AV.wipe, AV.wipeV, AV.wipe1, Blk.wipe, AV.hs, AV.hs.hsL, alOps, Con.start2, Con.pk, bodyQ, fini, resAV, resA, firstId, Sc.from, renEnv, renT, renV, renVs, renL, ren1, renBox, renOwn, okRen, clOf, actB, setRow, flatRows, flatD, noInv, shr_nil, shr_some, kStepF_some, shareL, AV.viewed, AV.viewed1, cL4In, Con.fn, tTab, inB, u8_eq]
  try dsimp only
  try simp +contextual [eStr, eFile, cast_succ, cast_eq, cast_zero, List.getElem?_eq_getElem, eStrs_set, eFiles_set, eStrs_rep, eFiles_rep, ← eStrs_append, ← eFiles_append, eStrs_take, eStrs_drop, eFiles_take, eFiles_drop, eStrs_snoc, eFiles_snoc, and_assoc, u8_eq]
  repeat' (first | intro _ | apply And.intro)
  all_goals first | omega | grind [all_take, u8_eq]

/-- A text cut at a byte, so many times at most; c: what is ahead of the rest in its piece; n: the pieces ahead. -/
def cutL (b : Int) (most : Nat) : Str → Str → Nat → List Str
  | [], c, _ => [c]
  | x :: r, c, n => if n < most then (if (x.toNat : Int) = b then c :: cutL b most r [] (n + 1) else cutL b most r (c ++ [x]) n) else [c ++ x :: r]
theorem cutL_stop {b : Int} {most : Nat} {r c : Str} {n : Nat} (h : most ≤ n) : cutL b most r c n = [c ++ r] := by
  cases r with
  | nil => simp [cutL]
  | cons x r => simp [cutL, Nat.not_lt.2 h]
def pieceAt (s : Str) (fr i : Nat) : Str := (s.drop fr).take (i - fr)
theorem piece_end {s : Str} {fr i : Nat} (h : fr ≤ i) : pieceAt s fr i ++ s.drop i = s.drop fr := by
  unfold pieceAt
  have : s.drop i = (s.drop fr).drop (i - fr) := by rw [List.drop_drop]; congr 1; omega
  rw [this, List.take_append_drop]
theorem piece_len {s : Str} {fr i : Nat} (h : s.length ≤ i) (hf : fr ≤ i) : pieceAt s fr i = s.drop fr := by
  unfold pieceAt
  exact List.take_of_length_le (by rw [List.length_drop]; omega)
theorem piece_zero {s : Str} {fr : Nat} : pieceAt s fr fr = [] := by simp [pieceAt]
theorem piece_step {s : Str} {fr i : Nat} (h : i < s.length) (hf : fr ≤ i) : pieceAt s fr (i + 1) = pieceAt s fr i ++ [s[i]] := by
  unfold pieceAt
  rw [show i + 1 - fr = (i - fr) + 1 by omega, List.take_succ_eq_append_getElem (by rw [List.length_drop]; omega)]
  congr 2
  rw [List.getElem_drop]
  congr 1
  omega
theorem cut_step {b : Int} {most : Nat} {s : Str} {fr i n : Nat} (h : i < s.length) (hf : fr ≤ i) (hn : n < most) :
    cutL b most (s.drop i) (pieceAt s fr i) n = if (s[i].toNat : Int) = b then pieceAt s fr i :: cutL b most (s.drop (i + 1)) (pieceAt s (i + 1) (i + 1)) (n + 1) else cutL b most (s.drop (i + 1)) (pieceAt s fr (i + 1)) n := by
  rw [List.drop_eq_getElem_cons h, piece_zero, piece_step h hf]
  simp [cutL, hn]
theorem cut_end {b : Int} {most : Nat} {s : Str} {fr i n : Nat} (h : s.length ≤ i) (hf : fr ≤ i) : cutL b most (s.drop i) (pieceAt s fr i) n = [s.drop fr] := by
  rw [List.drop_eq_nil_of_le h, ← piece_len h hf]; rfl
theorem cut_most {b : Int} {most : Nat} {s : Str} {fr i n : Nat} (h : most ≤ n) (hf : fr ≤ i) : cutL b most (s.drop i) (pieceAt s fr i) n = [s.drop fr] := by
  rw [cutL_stop h, piece_end hf]
def cutB (s : Str) (b : Int) (most : Nat) : List Str := cutL b most s [] 0
theorem cut_start {b : Int} {most : Nat} {s : Str} : cutL b most (s.drop 0) (pieceAt s 0 0) 0 = cutB s b most := rfl

end Vx
end Go.Proofs.YthmhaggmcfemnaaGreatDoor
/-
  Contracts: a text cut at a byte; paths (the reference's).
-/
namespace Go.Proofs.YthmhaggmcfemnaaGreatDoor
namespace Vx
open Go.RowKit

theorem piece_eq (s : Str) (fr i : Nat) : (s.drop fr).take (i - fr) = pieceAt s fr i := rfl
theorem piece_full (s : Str) (fr : Nat) : pieceAt s fr s.length = s.drop fr := by
  unfold pieceAt
  exact List.take_of_length_le (by rw [List.length_drop]; omega)

def cL1Cut : Con := .fn 43 (Str × Int × Nat) (fun a => [.str a.1, .int .u8 a.2.1, .int .i64 a.2.2]) (fun a => a.2.2 ≤ 1000000) (fun a => .own 8 1 (eStrs (cutB a.1 a.2.1 a.2.2))) (fun a => ownStrs 8 (cutB a.1 a.2.1 a.2.2))
set_option maxHeartbeats 4000000 in
theorem l1Cut_has : Has Tryz.prog 68 cL1Cut := by
  refine has_walk mixed tTab_ok (l := []) HasL.nil [0, 1, 2, 6, 7, 8, 9] ((fun a n (_ : Nat) => (fun a _ => ⟨List Str × Nat × Nat, fun t => ⟨[(0, true, .str a.1), (1, true, .int .u8 a.2.1), (2, true, .int .i64 a.2.2), (6, true, .nil), (7, true, .own 9 1 (eStrs t.1)), (8, true, .int .i64 t.2.1), (9, true, .int .i64 t.2.2)], ownStrs 9 t.1⟩, fun t => t.2.1 ≤ t.2.2 ∧ t.2.2 ≤ a.1.length ∧ t.1.length ≤ a.2.2 ∧ t.1 ++ cutL a.2.1 a.2.2 (a.1.drop t.2.2) (pieceAt a.1 t.2.1 t.2.2) t.1.length = cutB a.1 a.2.1 a.2.2, fun t => a.1.length - t.2.2⟩) a n)) [] Tryz.func68 (by kernel_rfl) (code := _) (by unfold Tryz.f68; rfl) (by kernel_rfl) (by decide) (fun _ => ⟨(), trivial⟩) (by intro h; first | exact fun _ => rfl | cases h) (by kernel_rfl) ?_
  intro a ha
  obtain ⟨s, b, most⟩ := a
  replace ha : most ≤ 1000000 := ha
  have hs : cutL b most s (pieceAt s 0 0) 0 = cutB s b most := rfl
  simp -implicitDefEqProofs [vc_skip, extOf, vc_seq, vc_cond, vc_block, vc_exit, vc_ret, vc_region, vc_regionD, vc_loop, kSeq_normal, kSeq_ret, kSeq_exit, kBlock_normal, kBlock_ret, kBlock_exit, kLoop_normal, kLoop_ret, kLoop_exit, kCond_bool, kNorm_app, vcOps_nil, vcOps_cons, kOps_app, kStep_some, kStep_none, vcDL_nil, vcDL_cons, kOpsD_app, kStepD_true, kStepD_tt, kStepD_false, ldB, btys, btyAct, kStepC_some, kStepC_none, kMv_app, act3_store, act3_call, act3_bs, kAct_app, kSt2_app, stealSlots, stealL, stealOne, subIn, AV.stolen, act_store, act_bs, act_append, act_call, kSet_app, kSet2_app, kSetG_app, kSetG_app0, kStore_ptr, kStore_eptr, kCallW_some, kCallC_some, kCall_some, wk_T, wk_n, wk_keep, wk_inv, wk_act, wk_dr, wk_le, aCalm, wantC, dstOk, calm, aCallK, aCall3K, subOf, subRep, aCall2K, apnd, bsMove, putBox, putOwn, partAV, mvL, AV.mv, AV.base, AV.moved, kBld, bldK, wrK, stK, AV.selfOk, AV.src, TI.flat, apSize, pickAV, St.val, St.cond, St.fn, St.next, St.set, St.trim, wipe_eq, wipeE_app, wipeM_app, pickEnv, get?, cGet, upd_app, withPuts, killAll, rm, freshP, Oper.hnd, Sc.st, ofConst, constOk, lenAV, elemLen, loadAV, ldL, ld1, fieldAddrAV, indexAddrAV, sliceAV, convAV, buildAV, fillAV, fieldAV, Out.of, binAV, AV.rows, AV.one, AV.cells, AV.deepOk, AV.toD, toDs, partRows, partRowsM, partsDeep, TK.zeroAV, TK.zeroD, byteOf, inR, Op.operands, Call.operands, passVs, passV, passL, pass1, passB, pasVs, pasV, pasL, pas1, ownsOk, okHs, okHs2, okFin, finOk2, rho, over, backRes, backAV, backAV1, backBlk, putBack, back2, back2_V, back2_1, m2, AV.wipe, AV.wipeV, AV.wipe1, Blk.wipe, AV.hs, AV.hs.hsL, alOps, Con.start2, Con.pk, bodyQ, fini, resAV, resA, firstId, Sc.from, renEnv, renT, renV, renVs, renL, ren1, renBox, renOwn, okRen, clOf, actB, setRow, flatRows, flatD, noInv, shr_nil, shr_some, kStepF_some, shareL, AV.viewed, AV.viewed1, cL1Cut, Con.fn, tTab]
  try dsimp only
  try simp +contextual [eStr, eFile, cast_succ, cast_eq, cast_zero, List.getElem?_eq_getElem, eStrs_set, eFiles_set, eStrs_rep, eFiles_rep, ← eStrs_append, ← eFiles_append, eStrs_take, eStrs_drop, eFiles_take, eFiles_drop, eStrs_snoc, eFiles_snoc, and_assoc, piece_eq, piece_full]
  repeat' (first | intro _ | apply And.intro)
  all_goals first | omega | grind [all_take, cut_step, cut_end, cut_most]

end Vx
end Go.Proofs.YthmhaggmcfemnaaGreatDoor
/-
  Contracts: paths and trees (the reference's).
-/
namespace Go.Proofs.YthmhaggmcfemnaaGreatDoor
namespace Vx
open Go.RowKit

theorem cast_three (a : Nat) : ((a : Int) = 3) = (a = 3) := by apply propext; omega

def pathS (s : Str) : Bool := (cutB s 47 3).all nameB && decide ((cutB s 47 3).length ≤ 3)
def cL4Path : Con := .fn 22 Str (fun s => [.str s]) (fun _ => True) (fun s => .bool (pathS s)) (fun _ => [])
set_option maxHeartbeats 4000000 in
theorem l4Path_has : Has Tryz.prog 123 cL4Path := by
  refine has_walk mixed tTab_ok (l := [(68, cL1Cut), (48, cL4Name)]) (HasL.cons l1Cut_has (HasL.cons l4Name_has HasL.nil)) [0, 2, 3, 4] ((fun a n (_ : Nat) => (fun s _ => ⟨Nat, fun i => ⟨[(2, true, .bool false), (3, true, .own 9 1 (eStrs (cutB s 47 3))), (4, true, .int .i64 i)], ownStrs 9 (cutB s 47 3)⟩, fun i => i ≤ (cutB s 47 3).length ∧ ((cutB s 47 3).take i).all nameB = true, fun i => (cutB s 47 3).length - i⟩) a n)) [] Tryz.func123 (by kernel_rfl) (code := _) (by unfold Tryz.f123; rfl) (by kernel_rfl) (by decide) (fun _ => ⟨(), trivial⟩) (by intro h; first | exact fun _ => rfl | cases h) (by kernel_rfl) ?_
  intro (s : Str) _
  simp -implicitDefEqProofs [vc_skip, extOf, vc_seq, vc_cond, vc_block, vc_exit, vc_ret, vc_region, vc_regionD, vc_loop, kSeq_normal, kSeq_ret, kSeq_exit, kBlock_normal, kBlock_ret, kBlock_exit, kLoop_normal, kLoop_ret, kLoop_exit, kCond_bool, kNorm_app, vcOps_nil, vcOps_cons, kOps_app, kStep_some, kStep_none, vcDL_nil, vcDL_cons, kOpsD_app, kStepD_true, kStepD_tt, kStepD_false, ldB, btys, btyAct, kStepC_some, kStepC_none, kMv_app, act3_store, act3_call, act3_bs, kAct_app, kSt2_app, stealSlots, stealL, stealOne, subIn, AV.stolen, act_store, act_bs, act_append, act_call, kSet_app, kSet2_app, kSetG_app, kSetG_app0, kStore_ptr, kStore_eptr, kCallW_some, kCallC_some, kCall_some, wk_T, wk_n, wk_keep, wk_inv, wk_act, wk_dr, wk_le, aCalm, wantC, dstOk, calm, aCallK, aCall3K, subOf, subRep, aCall2K, apnd, bsMove, putBox, putOwn, partAV, mvL, AV.mv, AV.base, AV.moved, kBld, bldK, wrK, stK, AV.selfOk, AV.src, TI.flat, apSize, pickAV, St.val, St.cond, St.fn, St.next, St.set, St.trim, wipe_eq, wipeE_app, wipeM_app, pickEnv, get?, cGet, upd_app, withPuts, killAll, rm, freshP, Oper.hnd, Sc.st, ofConst, constOk, lenAV, elemLen, loadAV, ldL, ld1, fieldAddrAV, indexAddrAV, sliceAV, convAV, buildAV, fillAV, fieldAV, Out.of, binAV, AV.rows, AV.one, AV.cells, AV.deepOk, AV.toD, toDs, partRows, partRowsM, partsDeep, TK.zeroAV, TK.zeroD, byteOf, inR, Op.operands, Call.operands, passVs, passV, passL, pass1, passB, pasVs, pasV, pasL, pas1, ownsOk, okHs, okHs2, okFin, finOk2, rho, over, backRes, backAV, backAV1, backBlk, putBack, back2, back2_V, back2_1, m2, AV.wipe, AV.wipeV, AV.wipe1, Blk.wipe, AV.hs, AV.hs.hsL, alOps, Con.start2, Con.pk, bodyQ, fini, resAV, resA, firstId, Sc.from, renEnv, renT, renV, renVs, renL, ren1, renBox, renOwn, okRen, clOf, actB, setRow, flatRows, flatD, noInv, shr_nil, shr_some, kStepF_some, shareL, AV.viewed, AV.viewed1, cL4Path, Con.fn, tTab, cL1Cut, cL4Name]
  try dsimp only
  try simp +contextual [eStr, eFile, cast_succ, cast_eq, cast_zero, List.getElem?_eq_getElem, eStrs_set, eFiles_set, eStrs_rep, eFiles_rep, ← eStrs_append, ← eFiles_append, eStrs_take, eStrs_drop, eFiles_take, eFiles_drop, eStrs_snoc, eFiles_snoc, and_assoc, cast_three]
  repeat' (first | intro _ | apply And.intro)
  all_goals first | omega | grind [all_take, pathS, List.take_succ_eq_append_getElem]

end Vx
end Go.Proofs.YthmhaggmcfemnaaGreatDoor
/-
  Contracts: trees (the reference's).
-/
namespace Go.Proofs.YthmhaggmcfemnaaGreatDoor
namespace Vx
open Go.RowKit

def leqS (a b : Str) : Bool := Go.Op.bytesLess a b || decide (a = b)
def okHead (t : List FileD) (i : Nat) : Bool := pathS (t.getD i default).path && textB (t.getD i default).text && (decide (i = 0) || !leqS (t.getD i default).path (t.getD (i - 1) default).path)
def noIn (t : List FileD) (i : Nat) : Bool := t.all fun g => !inB (t.getD i default).path g.path
def treeS (t : List FileD) : Bool := (List.range t.length).all (fun i => okHead t i && noIn t i) && decide (t.length ≤ 8)
def cL4Ok : Con := .fn 65 (List FileD) (fun t => [.sl true 2 (eFiles t)]) (fun _ => True) (fun t => .bool (treeS t)) (fun _ => [])
def l4OkO (t : List FileD) : Inv := ⟨Nat, fun i => ⟨[(0, true, .sl true 2 (eFiles t)), (2, true, .bool false), (3, true, .int .i64 i)], []⟩, fun i => i ≤ t.length ∧ ∀ j, j < i → okHead t j = true ∧ noIn t j = true, fun i => t.length - i⟩
def l4OkI (t : List FileD) (g : Nat) : Inv := ⟨Nat, fun k => ⟨[(0, true, .sl true 2 (eFiles t)), (2, true, .bool false), (3, true, .int .i64 g), (4, true, .int .i64 k)], []⟩, fun x => g < t.length ∧ x ≤ t.length ∧ (∀ j, j < g → okHead t j = true ∧ noIn t j = true) ∧ okHead t g = true ∧ ∀ k, k < x → inB (t.getD g default).path (t.getD k default).path = false, fun x => t.length - x⟩
def l4OkInv (t : List FileD) (n g : Nat) : Inv := if n = 2 then l4OkO t else l4OkI t g
theorem l4OkInv_2 (t : List FileD) (g : Nat) : l4OkInv t 2 g = l4OkO t := rfl
theorem l4OkInv_7 (t : List FileD) (g : Nat) : l4OkInv t 7 g = l4OkI t g := rfl
set_option maxRecDepth 8000
set_option maxHeartbeats 4000000 in
theorem l4Ok_has : Has Tryz.prog 93 cL4Ok := by
  refine has_walk mixed tTab_ok (l := [(123, cL4Path), (124, cL1Ok), (125, cL4In), (59, cL1In)]) (HasL.cons l4Path_has (HasL.cons l1Ok_has (HasL.cons l4In_has (HasL.cons l1In_has HasL.nil)))) [0, 2, 3, 4] (fun t => l4OkInv t) [] Tryz.func93 (by kernel_rfl) (code := _) (by unfold Tryz.f93; rfl) (by kernel_rfl) (by decide) (fun _ => ⟨(), trivial⟩) (by intro h; first | exact fun _ => rfl | cases h) (by kernel_rfl) ?_
  intro (t : List FileD) _
  have hs : ∀ i, t.length ≤ i → ¬ i < t.length := by omega
  have hE : treeS t = true ↔ (∀ i, i < t.length → okHead t i = true ∧ noIn t i = true) ∧ t.length ≤ 8 := by
    simp [treeS]
  have hF : ∀ i, i < t.length → (okHead t i && noIn t i) = false → treeS t = false := by
    intro i hi h
    rcases hb : treeS t with _ | _
    · rfl
    · exact absurd ((hE.1 hb).1 i hi) (by simpa using h)
  have hH : ∀ i, i < t.length → okHead t i = false → treeS t = false := fun i hi h => hF i hi (by simp [h])
  have hN : ∀ i k, i < t.length → k < t.length → inB (t.getD i default).path (t.getD k default).path = true → treeS t = false := by
    intro i k hi hk h
    refine hF i hi ?_
    have : noIn t i = false := by
      simp only [noIn, List.all_eq_false]
      exact ⟨t[k], List.getElem_mem hk, by simp [List.getD_eq_getElem?_getD, hk] at h ⊢; simpa [hk] using h⟩
    simp [this]
  have hI : ∀ i, (∀ k, k < t.length → inB (t.getD i default).path (t.getD k default).path = false) → noIn t i = true := by
    intro i h
    simp only [noIn, List.all_eq_true]
    intro g hg
    obtain ⟨k, hk, rfl⟩ := List.getElem_of_mem hg
    have := h k hk
    simpa [List.getD_eq_getElem?_getD, hk] using this
  simp -implicitDefEqProofs [vc_skip, extOf, vc_seq, vc_cond, vc_block, vc_exit, vc_ret, vc_region, vc_regionD, vc_loop, kSeq_normal, kSeq_ret, kSeq_exit, kBlock_normal, kBlock_ret, kBlock_exit, kLoop_normal, kLoop_ret, kLoop_exit, kCond_bool, kNorm_app, vcOps_nil, vcOps_cons, kOps_app, kStep_some, kStep_none, vcDL_nil, vcDL_cons, kOpsD_app, kStepD_true, kStepD_tt, kStepD_false, ldB, btys, btyAct, kStepC_some, kStepC_none, kMv_app, act3_store, act3_call, act3_bs, kAct_app, kSt2_app, stealSlots, stealL, stealOne, subIn, AV.stolen, act_store, act_bs, act_append, act_call, kSet_app, kSet2_app, kSetG_app, kSetG_app0, kStore_ptr, kStore_eptr, kCallW_some, kCallC_some, kCall_some, wk_T, wk_n, wk_keep, wk_inv, wk_act, wk_dr, wk_le, aCalm, wantC, dstOk, calm, aCallK, aCall3K, subOf, subRep, aCall2K, apnd, bsMove, putBox, putOwn, partAV, mvL, AV.mv, AV.base, AV.moved, kBld, bldK, wrK, stK, AV.selfOk, AV.src, TI.flat, apSize, pickAV, St.val, St.cond, St.fn, St.next, St.set, St.trim, wipe_eq, wipeE_app, wipeM_app, pickEnv, get?, cGet, upd_app, withPuts, killAll, rm, freshP, Oper.hnd, Sc.st, ofConst, constOk, lenAV, elemLen, loadAV, ldL, ld1, fieldAddrAV, indexAddrAV, sliceAV, convAV, buildAV, fillAV, fieldAV, Out.of, binAV, AV.rows, AV.one, AV.cells, AV.deepOk, AV.toD, toDs, partRows, partRowsM, partsDeep, TK.zeroAV, TK.zeroD, byteOf, inR, Op.operands, Call.operands, passVs, passV, passL, pass1, passB, pasVs, pasV, pasL, pas1, ownsOk, okHs, okHs2, okFin, finOk2, rho, over, backRes, backAV, backAV1, backBlk, putBack, back2, back2_V, back2_1, m2, AV.wipe, AV.wipeV, AV.wipe1, Blk.wipe, AV.hs, AV.hs.hsL, alOps, Con.start2, Con.pk, bodyQ, fini, resAV, resA, firstId, Sc.from, renEnv, renT, renV, renVs, renL, ren1, renBox, renOwn, okRen, clOf, actB, setRow, flatRows, flatD, noInv, shr_nil, shr_some, kStepF_some, shareL, AV.viewed, AV.viewed1, cL4Ok, Con.fn, tTab, cL4Path, cL1Ok, cL4In, cL1In, l4OkInv_2, l4OkInv_7, l4OkO, l4OkI]
  try dsimp only
  intro i hi hj hl
  have e1 : ∀ k (h : k < t.length), Option.map eFile t[k]? = some (eFile t[k]) := by
    intro k h
    simp [List.getElem?_eq_getElem h]
  have e2 : i < t.length → i - 1 < t.length := by omega
  constructor
  · intro hlt
    have e3 := e1 i hlt
    have e4 := e1 (i - 1) (e2 hlt)
    simp [hlt, e2 hlt, e3, e4, eFile, eStr, D.asStr, D.asRows]
    try simp +contextual [eStr, eFile, cast_succ, cast_eq, cast_zero, List.getElem?_eq_getElem, eStrs_set, eFiles_set, eStrs_rep, eFiles_rep, ← eStrs_append, ← eFiles_append, eStrs_take, eStrs_drop, eFiles_take, eFiles_drop, eStrs_snoc, eFiles_snoc, and_assoc]
    repeat' (first | intro _ | apply And.intro)
    all_goals first | omega | grind [all_take, okHead, leqS]
  · have hX : t.length ≤ i → treeS t = decide (t.length ≤ 8) := by
      intro h
      have : treeS t = true ↔ t.length ≤ 8 := by
        rw [hE]
        exact ⟨fun h => h.2, fun h8 => ⟨fun j hj' => hj j (by omega), h8⟩⟩
      cases h' : treeS t <;> simp_all
    try simp +contextual [eStr, eFile, cast_succ, cast_eq, cast_zero, List.getElem?_eq_getElem, eStrs_set, eFiles_set, eStrs_rep, eFiles_rep, ← eStrs_append, ← eFiles_append, eStrs_take, eStrs_drop, eFiles_take, eFiles_drop, eStrs_snoc, eFiles_snoc, and_assoc]
    repeat' (first | intro _ | apply And.intro)
    all_goals first | omega | grind [all_take, okHead, leqS]

end Vx
end Go.Proofs.YthmhaggmcfemnaaGreatDoor
/-
  Contracts: the number of a tree's lines (the reference's).
-/
namespace Go.Proofs.YthmhaggmcfemnaaGreatDoor
namespace Vx
open Go.RowKit

def nLines (t : List FileD) : Nat := (t.map fun f => f.text.length).sum
def statS (t : List FileD) : Int := if treeS t then (nLines t : Int) else -1
theorem nLines_take (t : List FileD) (i : Nat) (h : i < t.length) : nLines (t.take (i + 1)) = nLines (t.take i) + t[i].text.length := by
  unfold nLines
  rw [List.take_succ_eq_append_getElem h, List.map_append, List.sum_append]
  rfl
theorem treeS_le (t : List FileD) (h : treeS t = true) : t.length ≤ 8 ∧ ∀ f ∈ t, f.text.length ≤ 64 := by
  simp only [treeS, Bool.and_eq_true, decide_eq_true_eq, List.all_eq_true, List.mem_range, okHead] at h
  refine ⟨h.2, fun f hf => ?_⟩
  obtain ⟨i, hi, rfl⟩ := List.getElem_of_mem hf
  have := (h.1 i hi).1.1.2
  simp [List.getD_eq_getElem?_getD, hi, textB] at this
  omega
theorem nLines_le (t : List FileD) (h : ∀ f ∈ t, f.text.length ≤ 64) : nLines t ≤ 64 * t.length := by
  induction t with
  | nil => simp [nLines]
  | cons f r ih =>
    have h1 := h f (by simp)
    have h2 := ih (fun g hg => h g (by simp [hg]))
    simp [nLines] at h2 ⊢
    omega
theorem nLines_take_le (t : List FileD) (h : treeS t = true) (i : Nat) : nLines (t.take i) ≤ 512 := by
  have h1 := treeS_le t h
  have h2 := nLines_le (t.take i) (fun f hf => h1.2 f (List.mem_of_mem_take hf))
  have : (t.take i).length ≤ t.length := by simp; omega
  omega

end Vx
end Go.Proofs.YthmhaggmcfemnaaGreatDoor
/-
  Contracts: strings.Split at one byte; paths and trees (the program's).
-/
namespace Go.Proofs.YthmhaggmcfemnaaGreatDoor
namespace Vx
open Go.RowKit

/-- A text split at a byte; what is ahead of the rest in its piece. -/
def spl (c : UInt8) : Str → Str → List Str
  | [], p => [p]
  | x :: r, p => if x = c then p :: spl c r [] else spl c r (p ++ [x])

theorem idxB_lt (s : Str) (c : UInt8) : idxB s c < s.length := by
  induction s with
  | nil => simp [idxB]
  | cons b l ih =>
    simp only [idxB, List.length_cons]
    split
    · omega
    · split <;> omega
theorem spl_none {c : UInt8} : ∀ {s p : Str}, idxB s c < 0 → spl c s p = [p ++ s] ∧ s.count c = 0 := by
  intro s
  induction s with
  | nil => intro p _; simp [spl]
  | cons b l ih =>
    intro p h
    simp only [idxB] at h
    split at h
    · omega
    · rename_i hb
      split at h
      · rename_i hl
        have := ih (p := p ++ [b]) hl
        simp only [spl, if_neg hb]
        refine ⟨by rw [this.1]; simp, ?_⟩
        rw [List.count_cons, this.2]
        simp [hb]
      · omega
theorem spl_some {c : UInt8} : ∀ {s p : Str}, 0 ≤ idxB s c → spl c s p = (p ++ s.take (idxB s c).toNat) :: spl c (s.drop ((idxB s c).toNat + 1)) [] ∧ s.count c = (s.drop ((idxB s c).toNat + 1)).count c + 1 := by
  intro s
  induction s with
  | nil => intro p h; simp [idxB] at h
  | cons b l ih =>
    intro p h
    by_cases hb : b = c
    · subst hb
      simp [idxB, spl]
    · simp only [idxB, if_neg hb] at h ⊢
      split at h
      · omega
      · rename_i hl
        rw [if_neg hl]
        obtain ⟨h1, h2⟩ := ih (p := p ++ [b]) (by omega)
        have e : (idxB l c + 1).toNat = (idxB l c).toNat + 1 := by omega
        rw [e]
        simp only [spl, if_neg hb, List.take_succ_cons, List.drop_succ_cons]
        refine ⟨by rw [h1]; simp, ?_⟩
        rw [List.count_cons, h2]
        simp [hb]
theorem spl_len (c : UInt8) : ∀ (s p : Str), (spl c s p).length = s.count c + 1 := by
  intro s
  induction s with
  | nil => intro p; simp [spl]
  | cons b l ih =>
    intro p
    simp only [spl]
    split
    · rename_i h
      subst h
      simp [ih]
    · rename_i h
      rw [ih, List.count_cons]
      simp [h]
theorem set_rep {α : Type} (d : List α) (k : Nat) (z x : α) (h : 0 < k) : (d ++ List.replicate k z).set d.length x = (d ++ [x]) ++ List.replicate (k - 1) z := by
  obtain ⟨k, rfl⟩ : ∃ j, k = j + 1 := ⟨k - 1, by omega⟩
  rw [List.set_append_right _ _ (Nat.le_refl _)]
  simp [List.replicate_succ]

def cGenSplit : Con := .fn 66 (Str × UInt8) (fun a => [.str a.1, .str [a.2], .int .i64 0, .int .i64 (-1)]) (fun a => a.1.length ≤ 1073741824) (fun a => .sl false 1 (eStrs (spl a.2 a.1 []))) (fun _ => [])
def gsArr (N : Nat) (d : List Str) : List Str := d ++ List.replicate (N - d.length) []
theorem gsArr_len (N : Nat) (d : List Str) (h : d.length ≤ N) : (gsArr N d).length = N := by simp [gsArr]; omega
theorem gsArr_set (N : Nat) (d : List Str) (x : Str) (h : d.length < N) : (gsArr N d).set d.length x = gsArr N (d ++ [x]) := by
  unfold gsArr
  rw [set_rep _ _ _ _ (by omega)]
  simp only [List.length_append, List.length_cons, List.length_nil]
  congr 2
theorem gsArr_full (N : Nat) (d : List Str) (h : d.length = N) : gsArr N d = d := by simp [gsArr, h]
theorem gsArr_nil (N : Nat) : gsArr N [] = List.replicate N [] := by simp [gsArr]

set_option maxRecDepth 8000
set_option maxHeartbeats 4000000 in
theorem genSplit_has : Has Tryz.prog 104 cGenSplit := by
  refine has_walk mixed tTab_ok (l := [(132, cStringsCount), (133, cStringsIndex)]) (HasL.cons stringsCount_has (HasL.cons stringsIndex_has HasL.nil)) [0, 1, 2, 3, 8, 9, 10, 11] ((fun a n (_ : Nat) => (fun a _ => ⟨List Str × Str, fun t => ⟨[(0, true, .str t.2), (1, true, .str [a.2]), (2, true, .int .i64 0), (3, true, .int .i64 (a.1.count a.2)), (8, true, .nil), (9, true, .own 9 1 (eStrs (gsArr (a.1.count a.2 + 1) t.1))), (10, true, .int .i64 t.1.length)], ownStrs 9 (gsArr (a.1.count a.2 + 1) t.1)⟩, fun t => t.1.length + t.2.count a.2 = a.1.count a.2 ∧ t.2.length ≤ a.1.length ∧ t.1 ++ spl a.2 t.2 [] = spl a.2 a.1 [], fun t => a.1.count a.2 - t.1.length⟩) a n)) [] Tryz.func104 (by kernel_rfl) (code := _) (by unfold Tryz.f104; rfl) (by kernel_rfl) (by decide) (fun _ => ⟨(), trivial⟩) (by intro h; first | exact fun _ => rfl | cases h) (by kernel_rfl) ?_
  intro a ha
  obtain ⟨s, c⟩ := a
  replace ha : s.length ≤ 1073741824 := ha
  have hc : s.count c ≤ s.length := List.count_le_length
  simp -implicitDefEqProofs [vc_skip, extOf, vc_seq, vc_cond, vc_block, vc_exit, vc_ret, vc_region, vc_regionD, vc_loop, kSeq_normal, kSeq_ret, kSeq_exit, kBlock_normal, kBlock_ret, kBlock_exit, kLoop_normal, kLoop_ret, kLoop_exit, kCond_bool, kNorm_app, vcOps_nil, vcOps_cons, kOps_app, kStep_some, kStep_none, vcDL_nil, vcDL_cons, kOpsD_app, kStepD_true, kStepD_tt, kStepD_false, ldB, btys, btyAct, kStepC_some, kStepC_none, kMv_app, act3_store, act3_call, act3_bs, kAct_app, kSt2_app, stealSlots, stealL, stealOne, subIn, AV.stolen, act_store, act_bs, act_append, act_call, kSet_app, kSet2_app, kSetG_app, kSetG_app0, kStore_ptr, kStore_eptr, kCallW_some, kCallC_some, kCall_some, wk_T, wk_n, wk_keep, wk_inv, wk_act, wk_dr, wk_le, aCalm, wantC, dstOk, calm, aCallK, aCall3K, subOf, subRep, aCall2K, apnd, bsMove, putBox, putOwn, partAV, mvL, AV.mv, AV.base, AV.moved, kBld, bldK, wrK, stK, AV.selfOk, AV.src, TI.flat, apSize, pickAV, St.val, St.cond, St.fn, St.next, St.set, St.trim, wipe_eq, wipeE_app, wipeM_app, pickEnv, get?, cGet, upd_app, withPuts, killAll, rm, freshP, Oper.hnd, Sc.st, ofConst, constOk, lenAV, elemLen, loadAV, ldL, ld1, fieldAddrAV, indexAddrAV, sliceAV, convAV, buildAV, fillAV, fieldAV, Out.of, binAV, AV.rows, AV.one, AV.cells, AV.deepOk, AV.toD, toDs, partRows, partRowsM, partsDeep, TK.zeroAV, TK.zeroD, byteOf, inR, Op.operands, Call.operands, passVs, passV, passL, pass1, passB, pasVs, pasV, pasL, pas1, ownsOk, okHs, okHs2, okFin, finOk2, rho, over, backRes, backAV, backAV1, backBlk, putBack, back2, back2_V, back2_1, m2, AV.wipe, AV.wipeV, AV.wipe1, Blk.wipe, AV.hs, AV.hs.hsL, alOps, Con.start2, Con.pk, bodyQ, fini, resAV, resA, firstId, Sc.from, renEnv, renT, renV, renVs, renL, ren1, renBox, renOwn, okRen, clOf, actB, setRow, flatRows, flatD, noInv, shr_nil, shr_some, kStepF_some, shareL, AV.viewed, AV.viewed1, cGenSplit, cStringsCount, cStringsIndex, Con.fn, tTab]
  try dsimp only
  have hif : ¬ s.length < s.count c := by omega
  have hr : (List.replicate ((s.count c : Int) + 1).toNat [D.str []]) = eStrs (gsArr (s.count c + 1) []) := by
    rw [show ((s.count c : Int) + 1).toNat = s.count c + 1 by omega, gsArr_nil, eStrs_rep]
  have K1 : ∀ (a : List Str) (b : Str), a.length + b.count c = s.count c → a.length < (gsArr (s.count c + 1) a).length := fun a b h => by rw [gsArr_len _ _ (by omega)]; omega
  have K2 : ∀ (a : List Str) (b : Str), a.length + b.count c = s.count c → a ++ spl c b [] = spl c s [] → (idxB b c < 0 ∨ s.count c ≤ a.length) → spl c s [] = ((gsArr (s.count c + 1) a).set a.length b).take (a.length + 1) := by
    intro a b h1 h2 h3
    have h4 : idxB b c < 0 := by
      rcases h3 with h | h
      · exact h
      · refine Classical.byContradiction fun hn => ?_
        have := (spl_some (p := []) (Int.not_lt.1 hn)).2
        omega
    have h5 := spl_none (p := []) h4
    rw [← h2, h5.1, gsArr_set _ _ _ (by omega)]
    unfold gsArr
    rw [List.take_left' (by simp)]
    rfl
  have K3 : ∀ (b : Str), idxB b c < b.length := fun b => idxB_lt b c
  have K4 : ∀ (a : List Str) (b : Str), a.length + b.count c = s.count c → b.length ≤ s.length → a ++ spl c b [] = spl c s [] → 0 ≤ idxB b c →
      ∃ x, gsArr (s.count c + 1) x = (gsArr (s.count c + 1) a).set a.length (b.take (idxB b c).toNat) ∧ x.length = a.length + 1 ∧ (gsArr (s.count c + 1) a).set a.length (b.take (idxB b c).toNat) = gsArr (s.count c + 1) x ∧
        x.length + ((b.drop (idxB b c + 1).toNat).take (b.length - (idxB b c + 1).toNat)).count c = s.count c ∧ b.length ≤ s.length + (idxB b c + 1).toNat ∧
        x ++ spl c ((b.drop (idxB b c + 1).toNat).take (b.length - (idxB b c + 1).toNat)) [] = spl c s [] ∧ s.count c - x.length < s.count c - a.length := by
    intro a b h1 h2 h3 h4
    obtain ⟨h5, h6⟩ := spl_some (p := []) h4
    have e1 : (idxB b c + 1).toNat = (idxB b c).toNat + 1 := by omega
    have e2 : (b.drop (idxB b c + 1).toNat).take (b.length - (idxB b c + 1).toNat) = b.drop ((idxB b c).toNat + 1) := by
      rw [e1]; exact List.take_of_length_le (by simp)
    rw [e2]
    refine ⟨a ++ [b.take (idxB b c).toNat], (gsArr_set _ _ _ (by omega)).symm, by simp, gsArr_set _ _ _ (by omega), by simp; omega, by omega, ?_, by simp; omega⟩
    rw [← h3, h5]
    simp
  simp +contextual [eStr, eFile, cast_succ, cast_eq, cast_zero, List.getElem?_eq_getElem, eStrs_set, eFiles_set, eStrs_rep, eFiles_rep, ← eStrs_append, ← eFiles_append, eStrs_take, eStrs_drop, eFiles_take, eFiles_drop, eStrs_snoc, eFiles_snoc, and_assoc, hif, hr]
  repeat' (first | intro _ | apply And.intro)
  all_goals first | omega | grind [gsArr_nil] | exact K4 _ _ (by omega) (by omega) (by assumption) (by omega)

def cSplit : Con := .fn 8 (Str × UInt8) (fun a => [.str a.1, .str [a.2]]) (fun a => a.1.length ≤ 1073741824) (fun a => .sl false 1 (eStrs (spl a.2 a.1 []))) (fun _ => [])
set_option maxHeartbeats 4000000 in
theorem split_has : Has Tryz.prog 75 cSplit := by
  refine has_walk mixed tTab_ok (l := [(104, cGenSplit)]) (HasL.cons genSplit_has HasL.nil) [0, 1, 4] ((fun a n (_ : Nat) => (fun _ => noInv) a n)) [] Tryz.func75 (by kernel_rfl) (code := _) (by unfold Tryz.f75; rfl) (by kernel_rfl) (by decide) (fun _ => ⟨(), trivial⟩) (by intro h; first | exact fun _ => rfl | cases h) (by kernel_rfl) ?_
  intro a ha
  obtain ⟨s, c⟩ := a
  replace ha : s.length ≤ 1073741824 := ha
  simp -implicitDefEqProofs [vc_skip, extOf, vc_seq, vc_cond, vc_block, vc_exit, vc_ret, vc_region, vc_regionD, vc_loop, kSeq_normal, kSeq_ret, kSeq_exit, kBlock_normal, kBlock_ret, kBlock_exit, kLoop_normal, kLoop_ret, kLoop_exit, kCond_bool, kNorm_app, vcOps_nil, vcOps_cons, kOps_app, kStep_some, kStep_none, vcDL_nil, vcDL_cons, kOpsD_app, kStepD_true, kStepD_tt, kStepD_false, ldB, btys, btyAct, kStepC_some, kStepC_none, kMv_app, act3_store, act3_call, act3_bs, kAct_app, kSt2_app, stealSlots, stealL, stealOne, subIn, AV.stolen, act_store, act_bs, act_append, act_call, kSet_app, kSet2_app, kSetG_app, kSetG_app0, kStore_ptr, kStore_eptr, kCallW_some, kCallC_some, kCall_some, wk_T, wk_n, wk_keep, wk_inv, wk_act, wk_dr, wk_le, aCalm, wantC, dstOk, calm, aCallK, aCall3K, subOf, subRep, aCall2K, apnd, bsMove, putBox, putOwn, partAV, mvL, AV.mv, AV.base, AV.moved, kBld, bldK, wrK, stK, AV.selfOk, AV.src, TI.flat, apSize, pickAV, St.val, St.cond, St.fn, St.next, St.set, St.trim, wipe_eq, wipeE_app, wipeM_app, pickEnv, get?, cGet, upd_app, withPuts, killAll, rm, freshP, Oper.hnd, Sc.st, ofConst, constOk, lenAV, elemLen, loadAV, ldL, ld1, fieldAddrAV, indexAddrAV, sliceAV, convAV, buildAV, fillAV, fieldAV, Out.of, binAV, AV.rows, AV.one, AV.cells, AV.deepOk, AV.toD, toDs, partRows, partRowsM, partsDeep, TK.zeroAV, TK.zeroD, byteOf, inR, Op.operands, Call.operands, passVs, passV, passL, pass1, passB, pasVs, pasV, pasL, pas1, ownsOk, okHs, okHs2, okFin, finOk2, rho, over, backRes, backAV, backAV1, backBlk, putBack, back2, back2_V, back2_1, m2, AV.wipe, AV.wipeV, AV.wipe1, Blk.wipe, AV.hs, AV.hs.hsL, alOps, Con.start2, Con.pk, bodyQ, fini, resAV, resA, firstId, Sc.from, renEnv, renT, renV, renVs, renL, ren1, renBox, renOwn, okRen, clOf, actB, setRow, flatRows, flatD, noInv, shr_nil, shr_some, kStepF_some, shareL, AV.viewed, AV.viewed1, cSplit, Con.fn, tTab, cGenSplit]
  try dsimp only
  try simp +contextual [eStr, eFile, cast_succ, cast_eq, cast_zero, List.getElem?_eq_getElem, eStrs_set, eFiles_set, eStrs_rep, eFiles_rep, ← eStrs_append, ← eFiles_append, eStrs_take, eStrs_drop, eFiles_take, eFiles_drop, eStrs_snoc, eFiles_snoc, and_assoc]
  repeat' (first | intro _ | apply And.intro)
  all_goals first | omega | grind [all_take]

def pathI (s : Str) : Bool := decide ((spl 47 s []).length ≤ 3) && (spl 47 s []).all nameB
def cPathOk : Con := .fn 21 Str (fun s => [.str s]) (fun s => s.length ≤ 1073741824) (fun s => .bool (pathI s)) (fun _ => [])
set_option maxHeartbeats 4000000 in
theorem pathOk_has : Has Tryz.prog 96 cPathOk := by
  refine has_walk mixed tTab_ok (l := [(75, cSplit), (45, cNameOk)]) (HasL.cons split_has (HasL.cons nameOk_has HasL.nil)) [0, 2, 3, 5, 11, 12, 13] ((fun a n (_ : Nat) => (fun s _ => ⟨Nat, fun i => ⟨[(2, true, .bool false), (11, true, .sl false 1 (eStrs (spl 47 s []))), (12, true, .int .i64 (spl 47 s []).length), (13, true, .int .i64 i)], []⟩, fun i => i ≤ (spl 47 s []).length ∧ (spl 47 s []).length ≤ 3 ∧ ((spl 47 s []).take i).all nameB = true, fun i => (spl 47 s []).length - i⟩) a n)) [] Tryz.func96 (by kernel_rfl) (code := _) (by unfold Tryz.f96; rfl) (by kernel_rfl) (by decide) (fun _ => ⟨(), trivial⟩) (by intro h; first | exact fun _ => rfl | cases h) (by kernel_rfl) ?_
  intro (s : Str) hs
  replace hs : s.length ≤ 1073741824 := hs
  simp -implicitDefEqProofs [vc_skip, extOf, vc_seq, vc_cond, vc_block, vc_exit, vc_ret, vc_region, vc_regionD, vc_loop, kSeq_normal, kSeq_ret, kSeq_exit, kBlock_normal, kBlock_ret, kBlock_exit, kLoop_normal, kLoop_ret, kLoop_exit, kCond_bool, kNorm_app, vcOps_nil, vcOps_cons, kOps_app, kStep_some, kStep_none, vcDL_nil, vcDL_cons, kOpsD_app, kStepD_true, kStepD_tt, kStepD_false, ldB, btys, btyAct, kStepC_some, kStepC_none, kMv_app, act3_store, act3_call, act3_bs, kAct_app, kSt2_app, stealSlots, stealL, stealOne, subIn, AV.stolen, act_store, act_bs, act_append, act_call, kSet_app, kSet2_app, kSetG_app, kSetG_app0, kStore_ptr, kStore_eptr, kCallW_some, kCallC_some, kCall_some, wk_T, wk_n, wk_keep, wk_inv, wk_act, wk_dr, wk_le, aCalm, wantC, dstOk, calm, aCallK, aCall3K, subOf, subRep, aCall2K, apnd, bsMove, putBox, putOwn, partAV, mvL, AV.mv, AV.base, AV.moved, kBld, bldK, wrK, stK, AV.selfOk, AV.src, TI.flat, apSize, pickAV, St.val, St.cond, St.fn, St.next, St.set, St.trim, wipe_eq, wipeE_app, wipeM_app, pickEnv, get?, cGet, upd_app, withPuts, killAll, rm, freshP, Oper.hnd, Sc.st, ofConst, constOk, lenAV, elemLen, loadAV, ldL, ld1, fieldAddrAV, indexAddrAV, sliceAV, convAV, buildAV, fillAV, fieldAV, Out.of, binAV, AV.rows, AV.one, AV.cells, AV.deepOk, AV.toD, toDs, partRows, partRowsM, partsDeep, TK.zeroAV, TK.zeroD, byteOf, inR, Op.operands, Call.operands, passVs, passV, passL, pass1, passB, pasVs, pasV, pasL, pas1, ownsOk, okHs, okHs2, okFin, finOk2, rho, over, backRes, backAV, backAV1, backBlk, putBack, back2, back2_V, back2_1, m2, AV.wipe, AV.wipeV, AV.wipe1, Blk.wipe, AV.hs, AV.hs.hsL, alOps, Con.start2, Con.pk, bodyQ, fini, resAV, resA, firstId, Sc.from, renEnv, renT, renV, renVs, renL, ren1, renBox, renOwn, okRen, clOf, actB, setRow, flatRows, flatD, noInv, shr_nil, shr_some, kStepF_some, shareL, AV.viewed, AV.viewed1, cPathOk, Con.fn, tTab, cSplit, cNameOk]
  try dsimp only
  try simp +contextual [eStr, eFile, cast_succ, cast_eq, cast_zero, List.getElem?_eq_getElem, eStrs_set, eFiles_set, eStrs_rep, eFiles_rep, ← eStrs_append, ← eFiles_append, eStrs_take, eStrs_drop, eFiles_take, eFiles_drop, eStrs_snoc, eFiles_snoc, and_assoc]
  repeat' (first | intro _ | apply And.intro)
  all_goals first | omega | grind [all_take, pathI, List.take_succ_eq_append_getElem]

end Vx
end Go.Proofs.YthmhaggmcfemnaaGreatDoor
/-
  Contracts: trees (the program's).
-/
namespace Go.Proofs.YthmhaggmcfemnaaGreatDoor
namespace Vx
open Go.RowKit
set_option maxRecDepth 8000

def pathInI (d p : Str) : Bool := pathI d && pathI p && prefB (d ++ [47]) p
def cPathIn : Con := .fn 17 (Str × Str) (fun a => [.str a.1, .str a.2]) (fun a => a.1.length ≤ 536870912 ∧ a.2.length ≤ 536870912) (fun a => .bool (pathInI a.1 a.2)) (fun _ => [])
set_option maxHeartbeats 4000000 in
theorem pathIn_has : Has Tryz.prog 97 cPathIn := by
  refine has_walk mixed tTab_ok (l := [(96, cPathOk), (128, cHasPrefix)]) (HasL.cons pathOk_has (HasL.cons hasPrefix_has HasL.nil)) [0, 1, 4] ((fun a n (_ : Nat) => (fun _ => noInv) a n)) [] Tryz.func97 (by kernel_rfl) (code := _) (by unfold Tryz.f97; rfl) (by kernel_rfl) (by decide) (fun _ => ⟨(), trivial⟩) (by intro h; first | exact fun _ => rfl | cases h) (by kernel_rfl) ?_
  intro a ha
  obtain ⟨d, p⟩ := a
  obtain ⟨h1, h2⟩ : d.length ≤ 536870912 ∧ p.length ≤ 536870912 := ha
  simp -implicitDefEqProofs [vc_skip, extOf, vc_seq, vc_cond, vc_block, vc_exit, vc_ret, vc_region, vc_regionD, vc_loop, kSeq_normal, kSeq_ret, kSeq_exit, kBlock_normal, kBlock_ret, kBlock_exit, kLoop_normal, kLoop_ret, kLoop_exit, kCond_bool, kNorm_app, vcOps_nil, vcOps_cons, kOps_app, kStep_some, kStep_none, vcDL_nil, vcDL_cons, kOpsD_app, kStepD_true, kStepD_tt, kStepD_false, ldB, btys, btyAct, kStepC_some, kStepC_none, kMv_app, act3_store, act3_call, act3_bs, kAct_app, kSt2_app, stealSlots, stealL, stealOne, subIn, AV.stolen, act_store, act_bs, act_append, act_call, kSet_app, kSet2_app, kSetG_app, kSetG_app0, kStore_ptr, kStore_eptr, kCallW_some, kCallC_some, kCall_some, wk_T, wk_n, wk_keep, wk_inv, wk_act, wk_dr, wk_le, aCalm, wantC, dstOk, calm, aCallK, aCall3K, subOf, subRep, aCall2K, apnd, bsMove, putBox, putOwn, partAV, mvL, AV.mv, AV.base, AV.moved, kBld, bldK, wrK, stK, AV.selfOk, AV.src, TI.flat, apSize, pickAV, St.val, St.cond, St.fn, St.next, St.set, St.trim, wipe_eq, wipeE_app, wipeM_app, pickEnv, get?, cGet, upd_app, withPuts, killAll, rm, freshP, Oper.hnd, Sc.st, ofConst, constOk, lenAV, elemLen, loadAV, ldL, ld1, fieldAddrAV, indexAddrAV, sliceAV, convAV, buildAV, fillAV, fieldAV, Out.of, binAV, AV.rows, AV.one, AV.cells, AV.deepOk, AV.toD, toDs, partRows, partRowsM, partsDeep, TK.zeroAV, TK.zeroD, byteOf, inR, Op.operands, Call.operands, passVs, passV, passL, pass1, passB, pasVs, pasV, pasL, pas1, ownsOk, okHs, okHs2, okFin, finOk2, rho, over, backRes, backAV, backAV1, backBlk, putBack, back2, back2_V, back2_1, m2, AV.wipe, AV.wipeV, AV.wipe1, Blk.wipe, AV.hs, AV.hs.hsL, alOps, Con.start2, Con.pk, bodyQ, fini, resAV, resA, firstId, Sc.from, renEnv, renT, renV, renVs, renL, ren1, renBox, renOwn, okRen, clOf, actB, setRow, flatRows, flatD, noInv, shr_nil, shr_some, kStepF_some, shareL, AV.viewed, AV.viewed1, cPathIn, Con.fn, tTab, cPathOk, cHasPrefix]
  try dsimp only
  try simp +contextual [eStr, eFile, cast_succ, cast_eq, cast_zero, List.getElem?_eq_getElem, eStrs_set, eFiles_set, eStrs_rep, eFiles_rep, ← eStrs_append, ← eFiles_append, eStrs_take, eStrs_drop, eFiles_take, eFiles_drop, eStrs_snoc, eFiles_snoc, and_assoc]
  repeat' (first | intro _ | apply And.intro)
  all_goals first | omega | grind [all_take, pathInI, maxLen]

def headI (t : List FileD) (i : Nat) : Bool := textB (t.getD i default).text && pathI (t.getD i default).path && (decide (i = 0) || Go.Op.bytesLess (t.getD (i - 1) default).path (t.getD i default).path)
def noUp (t : List FileD) (i : Nat) : Bool := (List.range i).all fun k => !pathInI (t.getD k default).path (t.getD i default).path
def treeI (t : List FileD) : Bool := decide (t.length ≤ 8) && (List.range t.length).all fun i => headI t i && noUp t i
def cTreeOk : Con := .fn 57 (List FileD) (fun t => [.sl true 2 (eFiles t)]) (fun t => ∀ f ∈ t, f.path.length ≤ 536870912) (fun t => .bool (treeI t)) (fun _ => [])
def tiO (t : List FileD) : Inv := ⟨Nat, fun i => ⟨[(0, true, .sl true 2 (eFiles t)), (2, true, .bool false), (10, true, .sl true 2 (eFiles t)), (11, true, .int .i64 t.length), (12, true, .int .i64 i)], []⟩, fun i => i ≤ t.length ∧ t.length ≤ 8 ∧ ∀ j, j < i → headI t j = true ∧ noUp t j = true, fun i => t.length - i⟩
def tiI (t : List FileD) (g : Nat) : Inv := ⟨Nat, fun k => ⟨[(0, true, .sl true 2 (eFiles t)), (2, true, .bool false), (3, true, .int .i64 g), (4, true, .ptr 10 0), (10, true, .sl true 2 (eFiles t)), (11, true, .int .i64 t.length), (12, true, .int .i64 g), (44, true, .sl true 2 (eFiles (t.take g))), (45, true, .int .i64 g), (46, true, .int .i64 k)],
    [(10, .box 106 [.str (t.getD g default).path, .sl true 1 (eStrs (t.getD g default).text)])]⟩, fun x => g < t.length ∧ x ≤ g ∧ t.length ≤ 8 ∧ (∀ j, j < g → headI t j = true ∧ noUp t j = true) ∧ headI t g = true ∧ ∀ k, k < x → pathInI (t.getD k default).path (t.getD g default).path = false, fun x => g - x⟩
def tiInv (t : List FileD) (n g : Nat) : Inv := if n = 4 then tiO t else tiI t g
theorem tiInv_4 (t : List FileD) (g : Nat) : tiInv t 4 g = tiO t := rfl
theorem tiInv_9 (t : List FileD) (g : Nat) : tiInv t 9 g = tiI t g := rfl
set_option maxHeartbeats 4000000 in
theorem treeOk_has : Has Tryz.prog 50 cTreeOk := by
  refine has_walk mixed tTab_ok (l := [(95, cTextOk), (96, cPathOk), (97, cPathIn)]) (HasL.cons textOk_has (HasL.cons pathOk_has (HasL.cons pathIn_has HasL.nil))) [0, 2, 3, 4, 6, 10, 11, 12, 44, 45, 46] (fun t => tiInv t) [] Tryz.func50 (by kernel_rfl) (code := _) (by unfold Tryz.f50; rfl) (by kernel_rfl) (by decide) (fun _ => ⟨(), trivial⟩) (by intro h; first | exact fun _ => rfl | cases h) (by kernel_rfl) ?_
  intro (t : List FileD) ht
  replace ht : ∀ f ∈ t, f.path.length ≤ 536870912 := ht
  have hp : ∀ i (h : i < t.length), (t[i]).path.length ≤ 536870912 := fun i h => ht _ (List.getElem_mem h)
  simp -implicitDefEqProofs [vc_skip, extOf, vc_seq, vc_cond, vc_block, vc_exit, vc_ret, vc_region, vc_regionD, vc_loop, kSeq_normal, kSeq_ret, kSeq_exit, kBlock_normal, kBlock_ret, kBlock_exit, kLoop_normal, kLoop_ret, kLoop_exit, kCond_bool, kNorm_app, vcOps_nil, vcOps_cons, kOps_app, kStep_some, kStep_none, vcDL_nil, vcDL_cons, kOpsD_app, kStepD_true, kStepD_tt, kStepD_false, ldB, btys, btyAct, kStepC_some, kStepC_none, kMv_app, act3_store, act3_call, act3_bs, kAct_app, kSt2_app, stealSlots, stealL, stealOne, subIn, AV.stolen, act_store, act_bs, act_append, act_call, kSet_app, kSet2_app, kSetG_app, kSetG_app0, kStore_ptr, kStore_eptr, kCallW_some, kCallC_some, kCall_some, wk_T, wk_n, wk_keep, wk_inv, wk_act, wk_dr, wk_le, aCalm, wantC, dstOk, calm, aCallK, aCall3K, subOf, subRep, aCall2K, apnd, bsMove, putBox, putOwn, partAV, mvL, AV.mv, AV.base, AV.moved, kBld, bldK, wrK, stK, AV.selfOk, AV.src, TI.flat, apSize, pickAV, St.val, St.cond, St.fn, St.next, St.set, St.trim, wipe_eq, wipeE_app, wipeM_app, pickEnv, get?, cGet, upd_app, withPuts, killAll, rm, freshP, Oper.hnd, Sc.st, ofConst, constOk, lenAV, elemLen, loadAV, ldL, ld1, fieldAddrAV, indexAddrAV, sliceAV, convAV, buildAV, fillAV, fieldAV, Out.of, binAV, AV.rows, AV.one, AV.cells, AV.deepOk, AV.toD, toDs, partRows, partRowsM, partsDeep, TK.zeroAV, TK.zeroD, byteOf, inR, Op.operands, Call.operands, passVs, passV, passL, pass1, passB, pasVs, pasV, pasL, pas1, ownsOk, okHs, okHs2, okFin, finOk2, rho, over, backRes, backAV, backAV1, backBlk, putBack, back2, back2_V, back2_1, m2, AV.wipe, AV.wipeV, AV.wipe1, Blk.wipe, AV.hs, AV.hs.hsL, alOps, Con.start2, Con.pk, bodyQ, fini, resAV, resA, firstId, Sc.from, renEnv, renT, renV, renVs, renL, ren1, renBox, renOwn, okRen, clOf, actB, setRow, flatRows, flatD, noInv, shr_nil, shr_some, kStepF_some, shareL, AV.viewed, AV.viewed1, cTreeOk, Con.fn, tTab, cTextOk, cPathOk, cPathIn, tiInv_4, tiInv_9, tiO, tiI]
  try dsimp only
  have hE : treeI t = true ↔ t.length ≤ 8 ∧ ∀ i, i < t.length → headI t i = true ∧ noUp t i = true := by
    simp [treeI]
  have hF : ∀ i, i < t.length → (headI t i && noUp t i) = false → treeI t = false := by
    intro i hi h
    rcases hb : treeI t with _ | _
    · rfl
    · exact absurd ((hE.1 hb).2 i hi) (by simpa using h)
  have hH : ∀ i, i < t.length → headI t i = false → treeI t = false := fun i hi h => hF i hi (by simp [h])
  have hN : ∀ i k, i < t.length → k < i → pathInI (t.getD k default).path (t.getD i default).path = true → treeI t = false := by
    intro i k hi hk h
    refine hF i hi ?_
    have : noUp t i = false := by
      simp only [noUp, List.all_eq_false]
      exact ⟨k, List.mem_range.2 hk, by simpa using h⟩
    simp [this]
  have hI : ∀ i, (∀ k, k < i → pathInI (t.getD k default).path (t.getD i default).path = false) → noUp t i = true := by
    intro i h
    simp only [noUp, List.all_eq_true, List.mem_range]
    intro k hk
    simp only [h k hk, Bool.not_false]
  have hB : 8 < t.length → treeI t = false := by
    intro h
    rcases hb : treeI t with _ | _
    · rfl
    · exact absurd (hE.1 hb).1 (by omega)
  have e1 : ∀ k (h : k < t.length), Option.map eFile t[k]? = some (eFile t[k]) := fun k h => by simp [List.getElem?_eq_getElem h]
  have e2 : ∀ i, i < t.length → i - 1 < t.length := fun i h => by omega
  have e4 : ∀ i k (h : k < i) (h2 : i < t.length), Option.map eFile (List.take i t)[k]? = some (eFile t[k]) := fun i k h h2 => by
    rw [List.getElem?_take, if_pos h]; exact e1 k (by omega)
  have hg : ∀ i (h : i < t.length), t.getD i default = t[i] := fun i h => by simp [List.getD_eq_getElem?_getD, h]
  intro _
  refine ⟨fun h => hB (by omega), fun h8 _ => ⟨by omega, fun i hi h8' hprev => ⟨fun hlt => ?_, fun hge => ?_⟩⟩⟩
  · have e3 := e1 i hlt
    have e3' := e1 (i - 1) (e2 i hlt)
    have hpi := hp i hlt
    have hgi := hg i hlt
    have hgi' := hg (i - 1) (e2 i hlt)
    have hh : headI t i = (textB t[i].text && pathI t[i].path && (decide (i = 0) || Go.Op.bytesLess t[i - 1].path t[i].path)) := by simp only [headI, hgi, hgi']
    have hm : min i t.length = i := by omega
    have hgg : t[i]?.getD default = t[i] := by simpa [List.getD_eq_getElem?_getD] using hgi
    simp [hlt, e2 i hlt, e3, e3', eFile, eStr, D.asStr, D.asRows, hm, cast_eq, and_assoc, hgg]
    try simp +contextual [eStr, eFile, cast_succ, cast_eq, cast_zero, List.getElem?_eq_getElem, eStrs_set, eFiles_set, eStrs_rep, eFiles_rep, ← eStrs_append, ← eFiles_append, eStrs_take, eStrs_drop, eFiles_take, eFiles_drop, eStrs_snoc, eFiles_snoc, and_assoc, e4, hgg, hm, hlt, D.asStr, D.asRows, cast_one]
    repeat' (first | intro _ | apply And.intro)
    all_goals first | omega | grind
  · have hT : treeI t = true := hE.2 ⟨h8', fun j hj => hprev j (by omega)⟩
    simp [hT]
    repeat' (first | intro _ | apply And.intro)
    all_goals first | omega | grind

def nLin (t : List FileD) : Nat := (t.map fun f => f.text.length).sum
def statI (t : List FileD) : Int := if treeI t then (nLines t : Int) else -1
theorem treeI_le (t : List FileD) (h : treeI t = true) : t.length ≤ 8 ∧ ∀ f ∈ t, f.text.length ≤ 64 := by
  simp only [treeI, Bool.and_eq_true, decide_eq_true_eq, List.all_eq_true, List.mem_range, headI] at h
  refine ⟨h.1, fun f hf => ?_⟩
  obtain ⟨i, hi, rfl⟩ := List.getElem_of_mem hf
  have := (h.2 i hi).1.1.1
  simp [List.getD_eq_getElem?_getD, hi, textB] at this
  omega
theorem nLinesI_take_le (t : List FileD) (h : treeI t = true) (i : Nat) : nLines (t.take i) ≤ 512 := by
  have h1 := treeI_le t h
  have h2 := nLines_le (t.take i) (fun f hf => h1.2 f (List.mem_of_mem_take hf))
  have : (t.take i).length ≤ t.length := by simp; omega
  omega
end Vx
end Go.Proofs.YthmhaggmcfemnaaGreatDoor
/-
  Contracts: trees written (l24Tree).
-/
namespace Go.Proofs.YthmhaggmcfemnaaGreatDoor
namespace Vx
open Go.RowKit
set_option maxRecDepth 8000

def linesT (l : List Str) : Str := (l.map fun s => s ++ [10]).flatten
def fileH (f : FileD) : Str := [102, 105, 108, 101, 32] ++ f.path ++ [32] ++ decS f.text.length ++ [10]
def treeT (t : List FileD) : Str := (t.map fun f => fileH f ++ linesT f.text).flatten
def okT (t : List FileD) : Prop := t.length ≤ 8 ∧ ∀ f ∈ t, f.path.length ≤ 1048576 ∧ f.text.length ≤ 64 ∧ ∀ s ∈ f.text, s.length ≤ 12
theorem linesT_take (l : List Str) (k : Nat) (h : k < l.length) : linesT (l.take (k + 1)) = linesT (l.take k) ++ (l[k] ++ [10]) := by
  unfold linesT
  rw [take_succ' h, List.map_append, List.flatten_append]
  simp
theorem treeT_take (t : List FileD) (i : Nat) (h : i < t.length) : treeT (t.take (i + 1)) = treeT (t.take i) ++ (fileH t[i] ++ linesT t[i].text) := by
  unfold treeT
  rw [take_succ' h, List.map_append, List.flatten_append]
  simp
theorem linesT_len (l : List Str) (h : ∀ s ∈ l, s.length ≤ 12) : (linesT l).length ≤ 13 * l.length := by
  induction l with
  | nil => simp -implicitDefEqProofs [linesT]
  | cons s r ih =>
    have h1 := h s (by simp)
    have h2 := ih (fun s hs => h s (by simp -implicitDefEqProofs [hs]))
    simp only [linesT, List.map_cons, List.flatten_cons, List.length_append, List.length_cons, List.length_nil] at h2 ⊢
    omega
theorem decS_len (n : Nat) : (decS n).length ≤ 2 := by unfold decS; split <;> simp
theorem fileH_len (f : FileD) : (fileH f).length ≤ f.path.length + 9 := by
  have := decS_len f.text.length
  simp only [fileH, List.length_append, List.length_cons, List.length_nil]
  omega
theorem treeT_len (t : List FileD) (h : ∀ f ∈ t, f.path.length ≤ 1048576 ∧ f.text.length ≤ 64 ∧ ∀ s ∈ f.text, s.length ≤ 12) : (treeT t).length ≤ 1050000 * t.length := by
  induction t with
  | nil => simp -implicitDefEqProofs [treeT]
  | cons f r ih =>
    obtain ⟨h1, h2, h3⟩ := h f (by simp)
    have h4 := ih (fun s hs => h s (by simp -implicitDefEqProofs [hs]))
    have h5 := linesT_len f.text h3
    have h6 := fileH_len f
    simp only [treeT, List.map_cons, List.flatten_cons, List.length_append, List.length_cons] at h4 ⊢
    omega
theorem okT_take {t : List FileD} (h : okT t) (i : Nat) : (treeT (t.take i)).length ≤ 8400000 := by
  have h1 := treeT_len (t.take i) (fun f hf => h.2 f (List.mem_of_mem_take hf))
  have : (t.take i).length ≤ t.length := by simp; omega
  have := h.1
  omega

def ltO (t : List FileD) : Inv := ⟨Nat, fun i => ⟨[(0, true, .sl true 2 (eFiles t)), (2, true, .str []), (3, true, .str (treeT (t.take i))), (4, true, .int .i64 i)], []⟩, fun i => i ≤ t.length, fun i => t.length - i⟩
def ltI (t : List FileD) (g : Nat) : Inv := ⟨Nat, fun k => ⟨[(0, true, .sl true 2 (eFiles t)), (2, true, .str []), (3, true, .str (treeT (t.take g) ++ fileH (t.getD g default) ++ linesT ((t.getD g default).text.take k))), (4, true, .int .i64 g), (5, true, .int .i64 k)], []⟩, fun k => g < t.length ∧ k ≤ (t.getD g default).text.length, fun k => (t.getD g default).text.length - k⟩
def ltInv (t : List FileD) (n g : Nat) : Inv := if n = 3 then ltO t else ltI t g
theorem ltInv_3 (t : List FileD) (g : Nat) : ltInv t 3 g = ltO t := rfl
theorem ltInv_7 (t : List FileD) (g : Nat) : ltInv t 7 g = ltI t g := rfl
def cL24Tree : Con := .fn 52 (List FileD) (fun t => [.sl true 2 (eFiles t)]) okT (fun t => .str (treeT t)) (fun _ => [])
set_option maxHeartbeats 4000000 in
theorem l24Tree_has : Has Tryz.prog 103 cL24Tree := by
  refine has_walk mixed tTab_ok (l := [(102, cL1Dec)]) (HasL.cons l1Dec_has HasL.nil) [0, 2, 3, 4, 5] (fun t => ltInv t) [] Tryz.func103 (by kernel_rfl) (code := _) (by unfold Tryz.f103; rfl) (by kernel_rfl) (by decide) (fun _ => ⟨(), trivial⟩) (by intro h; first | exact fun _ => rfl | cases h) (by kernel_rfl) ?_
  intro (t : List FileD) ht
  have hb := okT_take ht
  obtain ⟨ht1, ht2⟩ : t.length ≤ 8 ∧ ∀ f ∈ t, f.path.length ≤ 1048576 ∧ f.text.length ≤ 64 ∧ ∀ s ∈ f.text, s.length ≤ 12 := ht
  simp -implicitDefEqProofs [vc_skip, extOf, vc_seq, vc_cond, vc_block, vc_exit, vc_ret, vc_region, vc_regionD, vc_loop, kSeq_normal, kSeq_ret, kSeq_exit, kBlock_normal, kBlock_ret, kBlock_exit, kLoop_normal, kLoop_ret, kLoop_exit, kCond_bool, kNorm_app, vcOps_nil, vcOps_cons, kOps_app, kStep_some, kStep_none, vcDL_nil, vcDL_cons, kOpsD_app, kStepD_true, kStepD_tt, kStepD_false, ldB, btys, btyAct, kStepC_some, kStepC_none, kMv_app, act3_store, act3_call, act3_bs, kAct_app, kSt2_app, stealSlots, stealL, stealOne, subIn, AV.stolen, act_store, act_bs, act_append, act_call, kSet_app, kSet2_app, kSetG_app, kSetG_app0, kStore_ptr, kStore_eptr, kCallW_some, kCallC_some, kCall_some, wk_T, wk_n, wk_keep, wk_inv, wk_act, wk_dr, wk_le, aCalm, wantC, dstOk, calm, aCallK, aCall3K, subOf, subRep, aCall2K, apnd, bsMove, putBox, putOwn, partAV, mvL, AV.mv, AV.base, AV.moved, kBld, bldK, wrK, stK, AV.selfOk, AV.src, TI.flat, apSize, pickAV, St.val, St.cond, St.fn, St.next, St.set, St.trim, wipe_eq, wipeE_app, wipeM_app, pickEnv, get?, cGet, upd_app, withPuts, killAll, rm, freshP, Oper.hnd, Sc.st, ofConst, constOk, lenAV, elemLen, loadAV, ldL, ld1, fieldAddrAV, indexAddrAV, sliceAV, convAV, buildAV, fillAV, fieldAV, Out.of, binAV, AV.rows, AV.one, AV.cells, AV.deepOk, AV.toD, toDs, partRows, partRowsM, partsDeep, TK.zeroAV, TK.zeroD, byteOf, inR, Op.operands, Call.operands, passVs, passV, passL, pass1, passB, pasVs, pasV, pasL, pas1, ownsOk, okHs, okHs2, okFin, finOk2, rho, over, backRes, backAV, backAV1, backBlk, putBack, back2, back2_V, back2_1, m2, AV.wipe, AV.wipeV, AV.wipe1, Blk.wipe, AV.hs, AV.hs.hsL, alOps, Con.start2, Con.pk, bodyQ, fini, resAV, resA, firstId, Sc.from, renEnv, renT, renV, renVs, renL, ren1, renBox, renOwn, okRen, clOf, actB, setRow, flatRows, flatD, noInv, shr_nil, shr_some, kStepF_some, shareL, AV.viewed, AV.viewed1, cL24Tree, Con.fn, tTab, cL1Dec, ltInv_3, ltInv_7, ltO, ltI]
  refine ⟨⟨0, ⟨by simp -implicitDefEqProofs [treeT], rfl⟩, by omega⟩, fun i hi _ => ⟨fun hlt => ?_, fun hge => by rw [List.take_of_length_le hge]⟩⟩
  have e3 : Option.map eFile t[i]? = some (eFile t[i]) := by simp -implicitDefEqProofs [List.getElem?_eq_getElem hlt]
  have hf := ht2 _ (List.getElem_mem hlt)
  have hbi := hb i
  have hbj := hb (i + 1)
  rw [treeT_take t i hlt] at hbj
  have hd := decS_len t[i].text.length
  simp only [List.length_append] at hbj
  have hg : t[i]?.getD default = t[i] := by simp -implicitDefEqProofs [hlt]
  simp -implicitDefEqProofs [hlt, e3, eFile, and_assoc, maxLen]
  refine ⟨by omega, fun _ => ⟨by omega, fun _ => ⟨by omega, fun _ => ⟨t[i].text.length, rfl, by omega, by omega, fun _ => ⟨by omega, fun _ => ⟨i, ⟨0, by rw [hg]; simp -implicitDefEqProofs [fileH, linesT], rfl, rfl, hlt, by omega⟩, ?_⟩⟩⟩⟩⟩⟩
  intro k _ hk
  rw [hg] at hk ⊢
  have hlb := linesT_len (t[i].text.take k) (fun s hs => hf.2.2 s (List.mem_of_mem_take hs))
  have hln : (t[i].text.take k).length ≤ 64 := by simp; omega
  have hfl := fileH_len t[i]
  simp -implicitDefEqProofs [hlt, e3, eFile, and_assoc]
  refine fun _ => ⟨fun hk2 => ?_, fun hk2 => ?_⟩
  · have e5 : Option.map eStr t[i].text[k]? = some (eStr t[i].text[k]) := by simp -implicitDefEqProofs [List.getElem?_eq_getElem hk2]
    have hs := hf.2.2 _ (List.getElem_mem hk2)
    have h6 := linesT_take t[i].text k hk2
    simp -implicitDefEqProofs [hk2, e5, eStr, and_assoc]
    exact ⟨by omega, fun _ => ⟨by omega, fun _ => ⟨by omega, by omega, fun _ _ => ⟨k + 1, h6, rfl, by omega, by omega⟩⟩⟩⟩
  · have hkk : t[i].text.take k = t[i].text := List.take_of_length_le hk2
    rw [hkk]
    exact ⟨by omega, by omega, fun _ _ => ⟨i + 1, treeT_take t i hlt, rfl, by omega, by omega⟩⟩

theorem okT_of {t : List FileD} (h : treeS t = true) (hp : ∀ f ∈ t, f.path.length ≤ 1048576) : okT t := by
  obtain ⟨h1, h2⟩ := treeS_le t h
  refine ⟨h1, fun f hf => ⟨hp f hf, h2 f hf, fun s hs => ?_⟩⟩
  simp only [treeS, Bool.and_eq_true, decide_eq_true_eq, List.all_eq_true, List.mem_range, okHead] at h
  obtain ⟨i, hi, rfl⟩ := List.getElem_of_mem hf
  have := (h.1 i hi).1.1.2
  simp only [List.getD_eq_getElem?_getD, List.getElem?_eq_getElem hi, Option.getD_some, textB, Bool.and_eq_true, List.all_eq_true] at this
  have := this.2 s hs
  simp only [lineB, Bool.and_eq_true, decide_eq_true_eq] at this
  exact this.1
def treePutS (t : List FileD) : Str := if treeS t then treeT t else []
end Vx
end Go.Proofs.YthmhaggmcfemnaaGreatDoor
/-
  Plain laws: paths and trees, the program's and the reference's, are the same.
-/
namespace Go.Proofs.YthmhaggmcfemnaaGreatDoor
namespace Vx
open Go.RowKit

theorem less_eq : ∀ (x y : Str), Go.Op.bytesLess x y = decide (x < y)
  | [], [] => by simp [Go.Op.bytesLess]
  | _ :: _, [] => by simp [Go.Op.bytesLess]
  | [], _ :: _ => by simp [Go.Op.bytesLess]
  | a :: x, b :: y => by
    rw [Go.Op.bytesLess, less_eq x y]
    simp only [List.cons_lt_cons_iff]
    by_cases h1 : a < b <;> by_cases h2 : a = b <;> by_cases h3 : x < y <;> simp [h1, h2, h3]
theorem str_irrefl (a : Str) : ¬ a < a := List.lt_irrefl a
theorem str_trans {a b c : Str} (h : a < b) (h' : b < c) : a < c := List.lt_trans h h'
theorem str_total (a b : Str) (h : ¬ a < b) (hne : a ≠ b) : b < a := by
  have h1 : b ≤ a := List.not_lt.1 h
  exact Classical.byContradiction fun h2 => hne (List.le_antisymm (List.not_lt.1 h2) h1)
theorem str_asymm {a b : Str} (h : a < b) : ¬ b < a := fun h' => str_irrefl a (str_trans h h')
theorem leqS_iff (a b : Str) : leqS a b = !decide (b < a) := by
  unfold leqS
  rw [less_eq]
  by_cases h : a < b
  · simp [h, str_asymm h]
  · by_cases e : a = b
    · subst e; simp [str_irrefl]
    · simp [h, e, str_total a b h e]

theorem cut_spl {b : UInt8} {most : Nat} : ∀ {r c : Str} {n : Nat}, n + r.count b ≤ most → cutL (b.toNat : Int) most r c n = spl b r c := by
  intro r
  induction r with
  | nil => intro c n _; rfl
  | cons x r ih =>
    intro c n h
    have hx : ((x.toNat : Int) = (b.toNat : Int)) = (x = b) := by
      apply propext
      constructor
      · intro h; exact UInt8.toNat_inj.1 (by omega)
      · rintro rfl; rfl
    by_cases hb : x = b
    · subst hb
      rw [List.count_cons_self] at h
      simp only [cutL, spl, if_true, show n < most by omega]
      rw [ih (by omega)]
    · rw [List.count_cons_of_ne hb] at h
      simp only [cutL, spl, hx, hb, if_false]
      split
      · exact ih h
      · have h0 : r.count b = 0 := by omega
        have : ∀ (q p : Str), q.count b = 0 → spl b q p = [p ++ q] := by
          intro q
          induction q with
          | nil => intro p _; simp [spl]
          | cons y q ih2 =>
            intro p hq
            have hy : y ≠ b := by rintro rfl; simp at hq
            rw [List.count_cons_of_ne hy] at hq
            simp only [spl, hy, if_false]
            rw [ih2 _ hq]; simp
        rw [this r _ h0]; simp
theorem cut_len {b : UInt8} {most : Nat} : ∀ {r c : Str} {n : Nat}, n ≤ most → most < n + r.count b → (cutL (b.toNat : Int) most r c n).length = most - n + 1 := by
  intro r
  induction r with
  | nil => intro c n h1 h2; simp at h2; omega
  | cons x r ih =>
    intro c n h1 h2
    have hx : ((x.toNat : Int) = (b.toNat : Int)) = (x = b) := by
      apply propext
      constructor
      · intro h; exact UInt8.toNat_inj.1 (by omega)
      · rintro rfl; rfl
    simp only [cutL, hx]
    split
    · split
      · rename_i hb
        subst hb
        rw [List.count_cons_self] at h2
        rw [List.length_cons, ih (by omega) (by omega)]
        omega
      · rename_i hb
        rw [List.count_cons_of_ne hb] at h2
        rw [ih h1 h2]
    · simp; omega

theorem path_eq (s : Str) : pathI s = pathS s := by
  unfold pathI pathS
  by_cases h : s.count 47 ≤ 3
  · have : cutB s 47 3 = spl 47 s [] := cut_spl (b := 47) (most := 3) (by omega)
    rw [this, Bool.and_comm]
  · have h1 : (cutB s 47 3).length = 4 := cut_len (b := 47) (most := 3) (r := s) (c := []) (n := 0) (by omega) (by omega)
    have h2 := spl_len 47 s []
    simp [h1, h2, h]
    omega

theorem in_pref (d p : Str) : inB d p = prefB (d ++ [47]) p := by
  unfold inB prefB
  by_cases h : d.length < p.length
  · have e : p.take (d.length + 1) = p.take d.length ++ [p[d.length]] := List.take_succ_eq_append_getElem h
    simp only [List.length_append, List.length_cons, List.length_nil, Nat.zero_add, e, h, show d.length + 1 ≤ p.length by omega, decide_true, Bool.true_and]
    have hg : p.getD d.length 0 = p[d.length] := getD_nat _ _ h
    rw [hg, Bool.eq_iff_iff]
    simp only [Bool.and_eq_true, decide_eq_true_eq]
    constructor
    · rintro ⟨h1, h2⟩; rw [h1, h2]
    · intro h1
      have := List.append_inj h1 (by simp; omega)
      exact ⟨this.1, by simpa using this.2⟩
  · simp [h]
    omega

theorem pref_lt {d p : Str} (h : prefB (d ++ [47]) p = true) : d < p := by
  unfold prefB at h
  simp only [Bool.and_eq_true, decide_eq_true_eq, List.length_append, List.length_cons, List.length_nil, Nat.zero_add] at h
  have e : p = d ++ (47 :: p.drop (d.length + 1)) := by
    have := List.take_append_drop (d.length + 1) p
    rw [h.2] at this
    simpa using this.symm
  rw [e]
  generalize p.drop (d.length + 1) = q
  clear h e
  induction d with
  | nil => exact List.nil_lt_cons _ _
  | cons x d ih => exact List.cons_lt_cons_iff.2 (.inr ⟨rfl, ih⟩)

theorem tree_eq (t : List FileD) : treeI t = treeS t := by
  have hasc : (∀ i, i < t.length → headI t i = true) → ∀ i k, i < k → k < t.length → (t.getD i default).path < (t.getD k default).path := by
    intro h i k hik hk
    induction k with
    | zero => omega
    | succ k ih =>
      have h1 := h (k + 1) hk
      simp only [headI, Bool.and_eq_true, Bool.or_eq_true, decide_eq_true_eq, less_eq, Nat.add_sub_cancel] at h1
      have h2 : (t.getD k default).path < (t.getD (k + 1) default).path := by
        rcases h1.2 with h2 | h2
        · omega
        · exact h2
      rcases Nat.lt_or_ge i k with h3 | h3
      · exact str_trans (ih h3 (by omega)) h2
      · have : i = k := by omega
        subst this; exact h2
  have hhead : ∀ i, okHead t i = headI t i := by
    intro i
    simp only [okHead, headI, path_eq, leqS_iff, less_eq, Bool.not_not]
    rw [Bool.and_comm (pathS _)]
  rw [Bool.eq_iff_iff]
  simp only [treeI, treeS, Bool.and_eq_true, decide_eq_true_eq, List.all_eq_true, List.mem_range, hhead]
  constructor
  · rintro ⟨h8, h⟩
    refine ⟨fun i hi => ⟨(h i hi).1, ?_⟩, h8⟩
    simp only [noIn, List.all_eq_true, Bool.not_eq_true']
    intro g hg
    obtain ⟨k, hk, rfl⟩ := List.getElem_of_mem hg
    rw [show t[k] = t.getD k default by simp [List.getD_eq_getElem?_getD, hk], in_pref]
    cases hp : prefB ((t.getD i default).path ++ [47]) (t.getD k default).path with
    | false => rfl
    | true =>
      exfalso
      have hlt := pref_lt hp
      have hik : i < k := by
        rcases Nat.lt_trichotomy i k with h1 | h1 | h1
        · exact h1
        · subst h1; exact absurd hlt (str_irrefl _)
        · exact absurd hlt (str_asymm (hasc (fun i hi => (h i hi).1) k i h1 hi))
      have h2 := (h k hk).2
      simp only [noUp, List.all_eq_true, List.mem_range, Bool.not_eq_true'] at h2
      have h3 := h2 i hik
      have p1 := (h i hi).1
      have p2 := (h k hk).1
      simp only [headI, Bool.and_eq_true] at p1 p2
      simp only [pathInI, p1.1.2, p2.1.2, hp, Bool.and_self, reduceCtorEq] at h3
  · rintro ⟨h, h8⟩
    refine ⟨h8, fun i hi => ⟨(h i hi).1, ?_⟩⟩
    simp only [noUp, List.all_eq_true, List.mem_range, Bool.not_eq_true']
    intro k hk
    have h2 := (h k (by omega)).2
    simp only [noIn, List.all_eq_true, Bool.not_eq_true'] at h2
    have h3 := h2 _ (List.getElem_mem hi)
    rw [show t[i] = t.getD i default by simp [List.getD_eq_getElem?_getD, hi], in_pref] at h3
    simp only [pathInI, h3, Bool.and_false]

theorem stat_eq (t : List FileD) : statI t = statS t := by
  unfold statI statS
  rw [tree_eq]

end Vx
end Go.Proofs.YthmhaggmcfemnaaGreatDoor
/-
  Plain law: trees read back from their lines, both ways of reading.
-/
namespace Go.Proofs.YthmhaggmcfemnaaGreatDoor
namespace Vx
open Go.RowKit
set_option maxRecDepth 8000

theorem spl_app {c : UInt8} : ∀ {l r p : Str}, c ∉ l → spl c (l ++ r) p = spl c r (p ++ l) := by
  intro l
  induction l with
  | nil => intro r p _; simp
  | cons x l ih =>
    intro r p h
    have hx : ¬ x = c := fun e => h (by simp [e])
    simp only [List.cons_append, spl, hx, if_false]
    rw [ih (fun hm => h (by simp [hm]))]
    simp
theorem spl_lines : ∀ {ls : List Str}, (∀ l ∈ ls, (10 : UInt8) ∉ l) → spl 10 (linesT ls) [] = ls ++ [[]] := by
  intro ls
  induction ls with
  | nil => intro _; rfl
  | cons l ls ih =>
    intro h
    have e : linesT (l :: ls) = l ++ (10 :: linesT ls) := by simp [linesT]
    rw [e, spl_app (h l (by simp))]
    simp only [spl, if_true, List.nil_append, List.cons_append]
    rw [ih fun x hx => h x (by simp [hx])]
theorem spl_le {c : UInt8} : ∀ {s p : Str}, ∀ q ∈ spl c s p, q.length ≤ p.length + s.length := by
  intro s
  induction s with
  | nil => intro p q hq; simp [spl] at hq; simp [hq]
  | cons x s ih =>
    intro p q hq
    simp only [spl] at hq
    split at hq
    · rcases List.mem_cons.1 hq with rfl | hq
      · simp
      · have := ih q hq; simp at this ⊢; omega
    · have := ih q hq; simp at this ⊢; omega
theorem spl_sum {c : UInt8} : ∀ {s p : Str}, ((spl c s p).map fun q => q.length + 1).sum = p.length + s.length + 1 := by
  intro s
  induction s with
  | nil => intro p; simp [spl]
  | cons x s ih =>
    intro p
    simp only [spl]
    split
    · simp [ih]; omega
    · rw [ih]; simp; omega
theorem spl_none' {c : UInt8} {s p : Str} (h : c ∉ s) : spl c s p = [p ++ s] := by
  have := spl_app (r := []) (p := p) h
  simpa [spl] using this

/-- What a line is. -/
def headL (f : FileD) : Str := [102, 105, 108, 101, 32] ++ f.path ++ [32] ++ decS f.text.length
def encT (t : List FileD) : List Str := (t.map fun f => headL f :: f.text).flatten
theorem treeT_enc (t : List FileD) : treeT t = linesT (encT t) := by
  induction t with
  | nil => rfl
  | cons f t ih =>
    have e1 : treeT (f :: t) = (fileH f ++ linesT f.text) ++ treeT t := by simp [treeT]
    have e2 : linesT (encT (f :: t)) = (fileH f ++ linesT f.text) ++ linesT (encT t) := by simp [encT, linesT, headL, fileH]
    rw [e1, e2, ih]
theorem decS_no {n : Nat} (h : n < 100) (c : UInt8) (hc : c.toNat < 48) : c ∉ decS n := by
  have key : ∀ k : Nat, k < 10 → ¬ c = UInt8.ofNat (48 + k) := fun k hk e => by
    have : c.toNat = 48 + k := by rw [e]; simp; omega
    omega
  unfold decS
  split
  · rename_i h1; simpa using key n h1
  · have h1 := key (n / 10) (by omega)
    have h2 := key (n % 10) (by omega)
    simp only [List.mem_cons, List.not_mem_nil, or_false]
    rintro (e | e)
    · exact h1 e
    · exact h2 e
def plainT (t : List FileD) : Prop := ∀ f ∈ t, (∀ b ∈ f.path, 32 < b.toNat) ∧ f.text.length < 100 ∧ ∀ l ∈ f.text, (10 : UInt8) ∉ l
theorem headL_no {f : FileD} (h1 : ∀ b ∈ f.path, 32 < b.toNat) (h2 : f.text.length < 100) : (10 : UInt8) ∉ headL f := by
  have := decS_no h2 10 (by decide)
  simp only [headL, List.mem_append, not_or]
  exact ⟨⟨⟨by decide, fun h => by have := h1 _ h; simp at this⟩, by decide⟩, this⟩
theorem headL_words {f : FileD} (h1 : ∀ b ∈ f.path, 32 < b.toNat) (h2 : f.text.length < 100) : spl 32 (headL f) [] = [[102, 105, 108, 101], f.path, decS f.text.length] := by
  have e : headL f = [102, 105, 108, 101] ++ (32 :: (f.path ++ (32 :: decS f.text.length))) := by simp [headL]
  rw [e, spl_app (by decide)]
  simp only [spl, if_true, List.nil_append]
  rw [spl_app (fun h => by have := h1 _ h; simp at this)]
  simp only [spl, if_true, List.nil_append]
  rw [spl_none' (decS_no h2 32 (by decide))]
  rfl
theorem encT_no {t : List FileD} (h : plainT t) : ∀ l ∈ encT t, (10 : UInt8) ∉ l := by
  intro l hl
  simp only [encT, List.mem_flatten, List.mem_map] at hl
  obtain ⟨_, ⟨f, hf, rfl⟩, hl⟩ := hl
  obtain ⟨h1, h2, h3⟩ := h f hf
  rcases List.mem_cons.1 hl with rfl | hl
  · exact headL_no h1 h2
  · exact h3 l hl

/-- The program's readFiles: what is read so far, and the lines left. -/
def rfI (num : Str → Int × Bool) : Nat → List FileD → List Str → List FileD × List Str
  | 0, t, ls => (t, ls)
  | _ + 1, t, [] => (t, [])
  | n + 1, t, l :: ls =>
    if (spl 32 l []).length = 3 ∧ (spl 32 l []).getD 0 [] = [102, 105, 108, 101] then
      (if (num ((spl 32 l []).getD 2 [])).2 = true ∧ 0 ≤ (num ((spl 32 l []).getD 2 [])).1 ∧ (num ((spl 32 l []).getD 2 [])).1 ≤ ls.length then
        rfI num n (t ++ [⟨(spl 32 l []).getD 1 [], ls.take (num ((spl 32 l []).getD 2 [])).1.toNat⟩]) (ls.drop (num ((spl 32 l []).getD 2 [])).1.toNat)
      else (t, l :: ls))
    else (t, l :: ls)
theorem rfI_fuel {num} : ∀ {n m : Nat} {t : List FileD} {ls : List Str}, ls.length ≤ n → ls.length ≤ m → rfI num n t ls = rfI num m t ls := by
  intro n
  induction n with
  | zero =>
    intro m t ls h1 _
    have : ls = [] := List.eq_nil_of_length_eq_zero (by omega)
    subst this
    cases m <;> rfl
  | succ n ih =>
    intro m t ls h1 h2
    cases ls with
    | nil => cases m <;> rfl
    | cons l ls =>
      obtain ⟨m, rfl⟩ : ∃ k, m = k + 1 := ⟨m - 1, by simp at h2; omega⟩
      simp only [rfI]
      simp at h1 h2
      split
      · split
        · exact ih (by simp; omega) (by simp; omega)
        · rfl
      · rfl
/-- Lines behind a tree: none, or one that begins with another word. -/
def stopsL (rest : List Str) : Prop := rest = [] ∨ ∃ l r, rest = l :: r ∧ (spl 32 l []).getD 0 [] ≠ [102, 105, 108, 101]
theorem rfI_enc {num} (hnum : ∀ n : Nat, n < 100 → num (decS n) = ((n : Int), true)) {rest : List Str} (hr : stopsL rest) : ∀ {t : List FileD} (_ : plainT t) (acc : List FileD) (n : Nat), (encT t ++ rest).length ≤ n → rfI num n acc (encT t ++ rest) = (acc ++ t, rest) := by
  intro t
  induction t with
  | nil =>
    intro _ acc n _
    simp only [encT, List.map_nil, List.flatten_nil, List.nil_append, List.append_nil]
    rcases hr with rfl | ⟨l, r, rfl, h⟩
    · cases n <;> rfl
    · cases n with
      | zero => rfl
      | succ n => simp only [rfI]; rw [if_neg (fun q => h q.2)]
  | cons f t ih =>
    intro hp acc n hn
    obtain ⟨h1, h2, h3⟩ := hp f (by simp)
    have e : encT (f :: t) ++ rest = headL f :: (f.text ++ (encT t ++ rest)) := by simp [encT]
    rw [e] at hn ⊢
    obtain ⟨n, rfl⟩ : ∃ k, n = k + 1 := ⟨n - 1, by simp at hn; omega⟩
    simp only [rfI, headL_words h1 h2]
    simp only [List.getD_cons_zero, List.getD_cons_succ, hnum _ h2, List.length_cons, List.length_nil]
    rw [if_pos ⟨trivial, trivial⟩, if_pos ⟨by simp, by omega, by simp; omega⟩]
    simp only [Int.toNat_natCast, List.take_left, List.drop_left]
    rw [ih (fun g hg => hp g (by simp [hg])) _ n (by simp at hn ⊢; omega)]
    simp

def linesI (s : Str) : List Str × Bool := if s = [] then ([], true) else ((spl 10 s []).dropLast, decide ((spl 10 s []).getLastD [] = []))
theorem linesI_enc {ls : List Str} (h : ∀ l ∈ ls, (10 : UInt8) ∉ l) : linesI (linesT ls) = (ls, true) := by
  unfold linesI
  rw [spl_lines h]
  cases ls with
  | nil => rfl
  | cons l ls =>
    rw [if_neg (by simp [linesT]), List.dropLast_concat, List.getLastD_concat]
    rfl
def treeReadI (num : Str → Int × Bool) (ok : List FileD → Bool) (s : Str) : List FileD × Bool :=
  if (linesI s).2 = true ∧ (rfI num (linesI s).1.length [] (linesI s).1).2 = [] ∧ ok (rfI num (linesI s).1.length [] (linesI s).1).1 = true ∧ treeT (rfI num (linesI s).1.length [] (linesI s).1).1 = s then ((rfI num (linesI s).1.length [] (linesI s).1).1, true) else ([], false)

/-- The reference's lines: at, bad. -/
def rdLine (ls : List Str) (a : Nat × Bool) : Str × (Nat × Bool) := if ls.length ≤ a.1 + 1 then ([], (a.1, true)) else (ls.getD a.1 [], (a.1 + 1, a.2))
def rdText (ls : List Str) : Nat → List Str → (Nat × Bool) → List Str × (Nat × Bool)
  | 0, acc, a => (acc, a)
  | n + 1, acc, a => rdText ls n (acc ++ [(rdLine ls a).1]) (rdLine ls a).2
def rdMore (ls : List Str) (head : Str) (a : Nat × Bool) : Bool := !a.2 && decide (a.1 + 1 < ls.length) && prefB head (ls.getD a.1 [])
/-- l1Num. -/
def numA : Str → Nat → Int → Int
  | [], _, n => n
  | x :: r, i, n => if x.toNat < 48 ∨ 57 < x.toNat ∨ 6 ≤ i then -1 else numA r (i + 1) (n * 10 + ((x.toNat : Int) - 48))
def numB (s : Str) : Int := if numA s 0 0 = -1 then -1 else if s.length = 0 ∨ (1 < s.length ∧ s.getD 0 0 = 48) then -1 else numA s 0 0
def rdTree (ls : List Str) : Nat → List FileD → (Nat × Bool) → List FileD × (Nat × Bool)
  | 0, t, a => (t, a)
  | n + 1, t, a =>
    if rdMore ls [102, 105, 108, 101, 32] a then
      (if ¬ (cutB (rdLine ls a).1 32 3).length = 3 ∨ 10 < numB ((cutB (rdLine ls a).1 32 3).getD 2 []) then ([], ((rdLine ls a).2.1, true))
      else rdTree ls n (t ++ [⟨(cutB (rdLine ls a).1 32 3).getD 1 [], (rdText ls (numB ((cutB (rdLine ls a).1 32 3).getD 2 [])).toNat [] (rdLine ls a).2).1⟩]) (rdText ls (numB ((cutB (rdLine ls a).1 32 3).getD 2 [])).toNat [] (rdLine ls a).2).2)
    else (t, a)
theorem rdText_enc {ls : List Str} : ∀ {x : List Str} {acc : List Str} {a : Nat} {r : List Str}, ls.drop a = x ++ r → r ≠ [] → rdText ls x.length acc (a, false) = (acc ++ x, (a + x.length, false)) := by
  intro x
  induction x with
  | nil => intro acc a r _ _; simp [rdText]
  | cons l x ih =>
    intro acc a r h hr
    have hlen : (ls.drop a).length = x.length + 1 + r.length := by rw [h]; simp; omega
    have hr1 : 0 < r.length := List.length_pos_iff.2 hr
    rw [List.length_drop] at hlen
    have hg : ls.getD a [] = l := by
      have : (ls.drop a)[0]? = some l := by rw [h]; rfl
      rw [List.getElem?_drop, Nat.add_zero] at this
      simp [List.getD_eq_getElem?_getD, this]
    have hd : ls.drop (a + 1) = x ++ r := by
      rw [← List.drop_drop, h]; rfl
    simp only [rdText, rdLine, List.length_cons]
    rw [if_neg (show ¬ ls.length ≤ a + 1 by omega)]
    simp only [hg]
    rw [ih hd hr]
    simp
    omega
theorem numB_dec {n : Nat} (h : n < 100) : numB (decS n) = n := by
  revert h
  revert n
  decide
/-- Lines behind a tree. -/
def stopsS (rest : List Str) : Prop := (∃ l, rest = [l]) ∨ ∃ l m r, rest = l :: m :: r ∧ prefB [102, 105, 108, 101, 32] l = false
theorem rdTree_enc {ls : List Str} {rest : List Str} (hr : stopsS rest) : ∀ {t : List FileD} (_ : plainT t) (_ : ∀ f ∈ t, f.text.length ≤ 10) (acc : List FileD) (n a : Nat), t.length < n ∨ (t.length ≤ n) → ls.drop a = encT t ++ rest → rdTree ls n acc (a, false) = (acc ++ t, (a + (encT t).length, false)) := by
  have hr0 : rest ≠ [] := by rcases hr with ⟨l, rfl⟩ | ⟨l, m, r, rfl, _⟩ <;> simp
  intro t
  induction t with
  | nil =>
    intro _ _ acc n a _ h
    simp only [encT, List.map_nil, List.flatten_nil, List.nil_append] at h
    have hlen : ls.length - a = rest.length := by rw [← List.length_drop, h]
    cases n with
    | zero => simp [rdTree, encT]
    | succ n =>
      have hm : rdMore ls [102, 105, 108, 101, 32] (a, false) = false := by
        rcases hr with ⟨l, rfl⟩ | ⟨l, m, r, rfl, hp⟩
        · simp only [rdMore, Bool.not_false, Bool.true_and]
          have : ¬ a + 1 < ls.length := by simp at hlen; omega
          simp [this]
        · have hg : ls.getD a [] = l := by
            have : (ls.drop a)[0]? = some l := by rw [h]; rfl
            rw [List.getElem?_drop, Nat.add_zero] at this
            simp [List.getD_eq_getElem?_getD, this]
          simp only [rdMore, hg, hp, Bool.and_false]
      simp only [rdTree, hm]
      simp [encT]
  | cons f t ih =>
    intro hp ht acc n a hn h
    obtain ⟨h1, h2, h3⟩ := hp f (by simp)
    have h10 := ht f (by simp)
    obtain ⟨n, rfl⟩ : ∃ k, n = k + 1 := ⟨n - 1, by simp at hn; omega⟩
    have e : encT (f :: t) ++ rest = headL f :: (f.text ++ (encT t ++ rest)) := by simp [encT]
    rw [e] at h
    have hrl : 0 < rest.length := List.length_pos_iff.2 hr0
    have hlen : ls.length - a = f.text.length + (encT t).length + rest.length + 1 := by rw [← List.length_drop, h]; simp; omega
    have hg : ls.getD a [] = headL f := by
      have : (ls.drop a)[0]? = some (headL f) := by rw [h]; rfl
      rw [List.getElem?_drop, Nat.add_zero] at this
      simp [List.getD_eq_getElem?_getD, this]
    have hd : ls.drop (a + 1) = f.text ++ (encT t ++ rest) := by rw [← List.drop_drop, h]; rfl
    have hm : rdMore ls [102, 105, 108, 101, 32] (a, false) = true := by
      simp only [rdMore, hg, Bool.not_false, Bool.true_and, Bool.and_eq_true, decide_eq_true_eq]
      refine ⟨by omega, ?_⟩
      simp [prefB, headL]
    have hl : rdLine ls (a, false) = (headL f, (a + 1, false)) := by
      unfold rdLine
      rw [if_neg (show ¬ ls.length ≤ a + 1 by omega), hg]
    have hw : cutB (headL f) 32 3 = [[102, 105, 108, 101], f.path, decS f.text.length] := by
      have hc : (headL f).count 32 ≤ 3 := by
        have := spl_len 32 (headL f) []
        rw [headL_words h1 h2] at this
        simp at this
        omega
      have : cutB (headL f) ((32 : UInt8).toNat : Int) 3 = spl 32 (headL f) [] := cut_spl (by omega)
      rw [headL_words h1 h2] at this
      exact this
    simp only [rdTree, hm, if_true, hl, hw, List.getD_cons_zero, List.getD_cons_succ, numB_dec h2, List.length_cons, List.length_nil]
    rw [if_neg (show ¬(¬True ∨ (10:Int) < (f.text.length : Int)) by simp; omega)]
    rw [Int.toNat_natCast, rdText_enc hd (by simp [hr0])]
    simp only [List.nil_append]
    have hd2 : ls.drop (a + 1 + f.text.length) = encT t ++ rest := by
      rw [← List.drop_drop, hd]; simp
    rw [ih (fun g hg => hp g (by simp [hg])) (fun g hg => ht g (by simp [hg])) _ n _ (.inr (by simp at hn; omega)) hd2]
    simp [encT]
    omega
def treeReadS (ok : List FileD → Bool) (s : Str) : List FileD × Bool :=
  if (rdTree (cutB s 10 89) 8 [] (0, false)).2.2 = false ∧ (rdTree (cutB s 10 89) 8 [] (0, false)).2.1 + 1 = (cutB s 10 89).length ∧ ok (rdTree (cutB s 10 89) 8 [] (0, false)).1 = true ∧ treeT (rdTree (cutB s 10 89) 8 [] (0, false)).1 = s then ((rdTree (cutB s 10 89) 8 [] (0, false)).1, true) else ([], false)

structure OkT (ok : List FileD → Bool) : Prop where
  n : ∀ {t}, ok t = true → t.length ≤ 8
  plain : ∀ {t}, ok t = true → plainT t
  ten : ∀ {t}, ok t = true → ∀ f ∈ t, f.text.length ≤ 10
theorem enc_len {t : List FileD} (h : ∀ f ∈ t, f.text.length ≤ 10) : (encT t).length ≤ 11 * t.length := by
  induction t with
  | nil => simp [encT]
  | cons f t ih =>
    have h1 := h f (by simp)
    have h2 := ih fun g hg => h g (by simp [hg])
    have : encT (f :: t) = headL f :: (f.text ++ encT t) := by simp [encT]
    rw [this]
    simp; omega
theorem treeReadI_enc {num} (hnum : ∀ n : Nat, n < 100 → num (decS n) = ((n : Int), true)) {ok} (O : OkT ok) {t : List FileD} (h : ok t = true) : treeReadI num ok (treeT t) = (t, true) := by
  have h1 : linesI (treeT t) = (encT t, true) := by rw [treeT_enc]; exact linesI_enc (encT_no (O.plain h))
  have h2 : rfI num (encT t).length [] (encT t) = (t, []) := by
    have := rfI_enc hnum (rest := []) (.inl rfl) (O.plain h) [] (encT t).length (by simp)
    simpa using this
  unfold treeReadI
  rw [h1]
  simp only [h2]
  simp [h]
theorem treeReadS_enc {ok} (O : OkT ok) {t : List FileD} (h : ok t = true) : treeReadS ok (treeT t) = (t, true) := by
  have hl := enc_len (O.ten h)
  have hn := O.n h
  have h1 : cutB (treeT t) 10 89 = encT t ++ [[]] := by
    have e : spl 10 (treeT t) [] = encT t ++ [[]] := by rw [treeT_enc]; exact spl_lines (encT_no (O.plain h))
    have hc : (treeT t).count 10 ≤ 89 := by
      have := spl_len 10 (treeT t) []
      rw [e] at this
      simp at this
      omega
    have : cutB (treeT t) ((10 : UInt8).toNat : Int) 89 = spl 10 (treeT t) [] := cut_spl (by omega)
    rw [e] at this
    exact this
  have h2 : rdTree (encT t ++ [[]]) 8 [] (0, false) = (t, ((encT t).length, false)) := by
    have := rdTree_enc (ls := encT t ++ [[]]) (rest := [[]]) (.inl ⟨[], rfl⟩) (O.plain h) (O.ten h) [] 8 0 (.inr hn) rfl
    simpa using this
  unfold treeReadS
  rw [h1]
  simp only [h2]
  simp [h]
theorem treeReadI_ok {num ok s} : ((treeReadI num ok s).2 = true → ok (treeReadI num ok s).1 = true ∧ treeT (treeReadI num ok s).1 = s) ∧ ((treeReadI num ok s).2 = false → (treeReadI num ok s).1 = []) := by
  generalize hx : treeReadI num ok s = x
  unfold treeReadI at hx
  split at hx
  · rename_i h; subst hx; exact ⟨fun _ => ⟨h.2.2.1, h.2.2.2⟩, fun h => (by cases h)⟩
  · subst hx; exact ⟨fun h => (by cases h), fun _ => rfl⟩
theorem treeReadS_ok {ok s} : ((treeReadS ok s).2 = true → ok (treeReadS ok s).1 = true ∧ treeT (treeReadS ok s).1 = s) ∧ ((treeReadS ok s).2 = false → (treeReadS ok s).1 = []) := by
  generalize hx : treeReadS ok s = x
  unfold treeReadS at hx
  split at hx
  · rename_i h; subst hx; exact ⟨fun _ => ⟨h.2.2.1, h.2.2.2⟩, fun h => (by cases h)⟩
  · subst hx; exact ⟨fun h => (by cases h), fun _ => rfl⟩
theorem treeRead_eq {num} (hnum : ∀ n : Nat, n < 100 → num (decS n) = ((n : Int), true)) {ok} (O : OkT ok) (s : Str) : treeReadI num ok s = treeReadS ok s := by
  obtain ⟨a1, a2⟩ := treeReadI_ok (num := num) (ok := ok) (s := s)
  obtain ⟨b1, b2⟩ := treeReadS_ok (ok := ok) (s := s)
  cases hI : (treeReadI num ok s).2 with
  | true =>
    obtain ⟨h1, h2⟩ := a1 hI
    have h3 := treeReadS_enc O h1
    rw [h2] at h3
    rw [h3]; exact Prod.ext rfl hI
  | false =>
    cases hS : (treeReadS ok s).2 with
    | true =>
      obtain ⟨h1, h2⟩ := b1 hS
      have h3 := treeReadI_enc hnum O h1
      rw [h2] at h3
      rw [h3] at hI; cases hI
    | false => exact Prod.ext ((a2 hI).trans (b2 hS).symm) (hI.trans hS.symm)

theorem spl_mem {c : UInt8} : ∀ {s p : Str}, ∀ b ∈ s, b = c ∨ ∃ q ∈ spl c s p, b ∈ q := by
  intro s
  induction s with
  | nil => intro p b hb; cases hb
  | cons x s ih =>
    intro p b hb
    have keep : ∀ (s p : Str), ∀ y ∈ p, ∃ q ∈ spl c s p, y ∈ q := by
      intro s
      induction s with
      | nil => intro p y hy; exact ⟨p, by simp [spl], hy⟩
      | cons z s ih2 =>
        intro p y hy
        simp only [spl]
        split
        · exact ⟨p, by simp, hy⟩
        · exact ih2 (p ++ [z]) y (by simp [hy])
    simp only [spl]
    split
    · rename_i hx
      rcases List.mem_cons.1 hb with rfl | hb
      · exact .inl hx
      · rcases ih (p := []) b hb with h | ⟨q, h1, h2⟩
        · exact .inl h
        · exact .inr ⟨q, by simp [h1], h2⟩
    · rcases List.mem_cons.1 hb with rfl | hb
      · exact .inr (keep s (p ++ [b]) b (by simp))
      · exact ih b hb
theorem pathI_plain {s : Str} (h : pathI s = true) : (∀ b ∈ s, 32 < b.toNat) ∧ s.length ≤ 20 := by
  simp only [pathI, Bool.and_eq_true, decide_eq_true_eq, List.all_eq_true] at h
  obtain ⟨h1, h2⟩ := h
  constructor
  · intro b hb
    rcases spl_mem (c := 47) (p := []) b hb with rfl | ⟨q, hq, hbq⟩
    · decide
    · have h3 := h2 q hq
      simp only [nameB, Bool.and_eq_true, List.all_eq_true] at h3
      have h4 := h3.2 b hbq
      simp only [wordB, Bool.or_eq_true, Bool.and_eq_true, decide_eq_true_eq] at h4
      omega
  · have h3 := spl_sum (c := 47) (s := s) (p := [])
    have h4 : ∀ (l : List Str), (∀ q ∈ l, nameB q = true) → ((l.map fun q => q.length + 1).sum) ≤ 7 * l.length := by
      intro l
      induction l with
      | nil => intro _; simp
      | cons q l ih =>
        intro h
        have a := ih fun x hx => h x (by simp [hx])
        have b := h q (by simp)
        simp only [nameB, Bool.and_eq_true, decide_eq_true_eq] at b
        simp only [List.map_cons, List.sum_cons, List.length_cons]
        omega
    have h5 := h4 _ h2
    rw [h3] at h5
    simp at h5
    omega
theorem treeI_plain {t : List FileD} (h : treeI t = true) : ∀ f ∈ t, ((∀ b ∈ f.path, 32 < b.toNat) ∧ f.path.length ≤ 20) ∧ f.text.length ≤ 10 ∧ ∀ l ∈ f.text, (10 : UInt8) ∉ l := by
  intro f hf
  simp only [treeI, Bool.and_eq_true, decide_eq_true_eq, List.all_eq_true, List.mem_range, headI] at h
  obtain ⟨i, hi, rfl⟩ := List.getElem_of_mem hf
  have h1 := (h.2 i hi).1.1
  have hg : t.getD i default = t[i] := by simp [List.getD_eq_getElem?_getD, hi]
  rw [hg] at h1
  refine ⟨pathI_plain h1.2, ?_⟩
  have h2 := h1.1
  simp only [textB, Bool.and_eq_true, decide_eq_true_eq, List.all_eq_true] at h2
  refine ⟨h2.1, fun l hl h10 => ?_⟩
  have h3 := h2.2 l hl
  simp only [lineB, Bool.and_eq_true, List.all_eq_true, decide_eq_true_eq] at h3
  have := h3.2 10 h10
  simp at this
theorem okT_treeI : OkT treeI := ⟨fun h => (treeI_le _ h).1, fun h f hf => by
    obtain ⟨⟨h1, _⟩, h2, h3⟩ := treeI_plain h f hf
    exact ⟨h1, by omega, h3⟩, fun h f hf => (treeI_plain h f hf).2.1⟩

theorem cutL_len' {b : Int} {m : Nat} : ∀ {s c : Str} {n : Nat}, (cutL b m s c n).length ≤ s.length + 1 := by
  intro s
  induction s with
  | nil => intro c n; simp [cutL]
  | cons x s ih =>
    intro c n
    simp only [cutL]
    split
    · split
      · have := ih (c := []) (n := n + 1); simp; omega
      · have := ih (c := c ++ [x]) (n := n); simp; omega
    · simp
theorem linesI_bd (s : Str) : (linesI s).1.length ≤ s.length ∧ ∀ l ∈ (linesI s).1, l.length ≤ s.length := by
  unfold linesI
  split
  · simp
  · have h1 := spl_len 10 s []
    have h2 : s.count 10 ≤ s.length := List.count_le_length
    refine ⟨by simp; omega, fun l hl => ?_⟩
    have := spl_le (c := 10) (s := s) (p := []) l (List.dropLast_subset _ hl)
    simpa using this
theorem rfI_path {num : Str → Int × Bool} {N : Nat} : ∀ {n : Nat} {t : List FileD} {ls : List Str}, (∀ l ∈ ls, l.length ≤ N) → (∀ f ∈ t, f.path.length ≤ N) → ∀ f ∈ (rfI num n t ls).1, f.path.length ≤ N := by
  intro n
  induction n with
  | zero => intro t ls _ h; exact h
  | succ n ih =>
    intro t ls h1 h2
    cases ls with
    | nil => exact h2
    | cons l ls =>
      rw [rfI]
      split
      · split
        · refine ih (fun x hx => h1 x (by simp [List.mem_of_mem_drop hx])) fun f hf => ?_
          rcases List.mem_append.1 hf with hf | hf
          · exact h2 f hf
          · have : f = _ := List.mem_singleton.1 hf
            subst this
            show ((spl 32 l []).getD 1 []).length ≤ N
            rw [List.getD_eq_getElem?_getD]
            cases hq : (spl 32 l [])[1]? with
            | none => simp
            | some q =>
              have := spl_le (c := 32) (s := l) (p := []) q (List.mem_of_getElem? hq)
              have := h1 l (by simp)
              simp at *
              omega
        · exact h2
      · exact h2

end Vx
end Go.Proofs.YthmhaggmcfemnaaGreatDoor
/-
  Contracts: views (both sides): what is at a path.
-/
namespace Go.Proofs.YthmhaggmcfemnaaGreatDoor
namespace Vx
open Go.RowKit
set_option maxRecDepth 8000

/-- The first place where p holds; -1 if there is none. -/
def idxP {α : Type} (p : α → Bool) (l : List α) : Int := match l.findIdx? p with | some i => (i : Int) | none => -1
theorem idxP_hit {α : Type} {p : α → Bool} {l : List α} {i : Nat} (h : i < l.length) (hp : p l[i] = true) (hb : ∀ x, x ∈ l.take i → p x = false) : idxP p l = (i : Int) := by
  unfold idxP
  have : l.findIdx? p = some i := by
    rw [List.findIdx?_eq_some_iff_getElem]
    refine ⟨h, hp, fun j hj => ?_⟩
    have := hb l[j] (List.mem_take_iff_getElem.2 ⟨j, by omega, rfl⟩)
    simp [this]
  rw [this]
theorem idxP_miss {α : Type} {p : α → Bool} {l : List α} {i : Nat} (h : l.length ≤ i) (hb : ∀ x, x ∈ l.take i → p x = false) : idxP p l = -1 := by
  unfold idxP
  rw [List.take_of_length_le h] at hb
  rw [List.findIdx?_eq_none_iff.2 (by simpa using hb)]
theorem idxP_any {α : Type} (p : α → Bool) (l : List α) : (0 ≤ idxP p l) = (l.any p = true) := by
  apply propext
  unfold idxP
  cases h : l.findIdx? p with
  | some i =>
    obtain ⟨h1, h2, _⟩ := List.findIdx?_eq_some_iff_getElem.1 h
    simp only [Int.natCast_nonneg, true_iff, List.any_eq_true]
    exact ⟨_, List.getElem_mem h1, h2⟩
  | none =>
    have := List.findIdx?_eq_none_iff.1 h
    simp only [List.any_eq_true]
    constructor
    · intro h; omega
    · rintro ⟨x, hx, hp⟩; rw [this x hx] at hp; cases hp
theorem idxP_ge {α : Type} (p : α → Bool) (l : List α) : -1 ≤ idxP p l ∧ idxP p l < (l.length : Int) + 1 := by
  unfold idxP
  cases h : l.findIdx? p with
  | some i =>
    obtain ⟨h1, _, _⟩ := List.findIdx?_eq_some_iff_getElem.1 h
    simp only
    omega
  | none => simp only; omega
theorem take_step {α : Type} {l : List α} {i : Nat} {q : α → Prop} (h : i < l.length) (hb : ∀ x, x ∈ l.take i → q x) (hi : q l[i]) : ∀ x, x ∈ l.take (i + 1) → q x := by
  intro x hx
  rw [List.take_succ_eq_append_getElem h, List.mem_append] at hx
  rcases hx with hx | hx
  · exact hb x hx
  · simp only [List.mem_singleton] at hx
    subst hx; exact hi

abbrev fBox (f : FileD) : List AV := [.str f.path, .sl true 1 (eStrs f.text)]
def atB (p q : Str) : Bool := decide (p = q) || prefB (q ++ [47]) p
def visB (f : FileD) (l : List Str) : Bool := l.any (atB f.path)
def viewI (l : List Str) : Bool := decide (l.length ≤ 4) && l.all pathI
end Vx
end Go.Proofs.YthmhaggmcfemnaaGreatDoor
/-
  Laws: FnExactStatLines.
-/
namespace Go.Proofs.YthmhaggmcfemnaaGreatDoor
namespace Vx
open Go.RowKit
set_option maxRecDepth 8000

theorem szL_ok : ∀ {a : List Str} {l : Int}, 0 ≤ szL a l → ∀ s ∈ a, (s.length : Int) ≤ l := by
  intro a
  induction a with
  | nil => intro l _ s hs; cases hs
  | cons x r ih =>
    intro l h s hs
    simp only [szL] at h
    split at h
    · omega
    · rcases List.mem_cons.1 hs with rfl | hs
      · have := szL_le (a := r) (l := l - s.length) (by omega); omega
      · have := ih h s hs; omega
theorem szStrs_ok {a : List Str} {l : Int} (h : 0 ≤ szStrs a l) : (a.length : Int) ≤ l ∧ ∀ s ∈ a, (s.length : Int) ≤ l := by
  unfold szStrs at h
  split at h
  · omega
  · refine ⟨by omega, fun s hs => ?_⟩
    have := szL_ok h s hs; omega
theorem szF_ok {f : FileD} {l : Int} (h : 0 ≤ szF f l) : (f.path.length : Int) ≤ l ∧ (f.text.length : Int) ≤ l ∧ ∀ s ∈ f.text, (s.length : Int) ≤ l := by
  unfold szF at h
  split at h
  · omega
  · split at h
    · omega
    · obtain ⟨h1, h2⟩ := szStrs_ok h
      refine ⟨by omega, by omega, fun s hs => ?_⟩
      have := h2 s hs; omega
theorem szFL_ok : ∀ {a : List FileD} {l : Int}, 0 ≤ l → 0 ≤ szFL a l → ∀ f ∈ a, (f.path.length : Int) ≤ l ∧ (f.text.length : Int) ≤ l ∧ ∀ s ∈ f.text, (s.length : Int) ≤ l := by
  intro a
  induction a with
  | nil => intro l _ _ f hf; cases hf
  | cons x r ih =>
    intro l hl h f hf
    simp only [szFL] at h
    split at h
    · omega
    · rename_i h0
      rcases List.mem_cons.1 hf with rfl | hf
      · exact szF_ok (by omega)
      · have hle := szF_le (f := x) hl
        obtain ⟨h1, h2, h3⟩ := ih (by omega) h f hf
        refine ⟨by omega, by omega, fun s hs => ?_⟩
        have := h3 s hs; omega
theorem szFiles_ok {a : List FileD} {l : Int} (h : 0 ≤ szFiles a l) : (a.length : Int) ≤ l ∧ ∀ f ∈ a, (f.path.length : Int) ≤ l ∧ (f.text.length : Int) ≤ l ∧ ∀ s ∈ f.text, (s.length : Int) ≤ l := by
  unfold szFiles at h
  split at h
  · omega
  · refine ⟨by omega, fun f hf => ?_⟩
    obtain ⟨h1, h2, h3⟩ := szFL_ok (by omega) h f hf
    refine ⟨by omega, by omega, fun s hs => ?_⟩
    have := h3 s hs; omega
theorem szL_bd : ∀ {a : List Str} {l : Int}, 0 ≤ l → -1 ≤ szL a l := by
  intro a
  induction a with
  | nil => intro l h; simp [szL]; omega
  | cons x r ih =>
    intro l h
    simp only [szL]
    split
    · omega
    · exact ih (by omega)

end Vx
end Go.Proofs.YthmhaggmcfemnaaGreatDoor
/-
  Contracts: ViewFree, both sides; the law.
-/
namespace Go.Proofs.YthmhaggmcfemnaaGreatDoor
namespace Vx
open Go.RowKit
set_option maxRecDepth 8000

def at25 (p q : Str) : Bool := decide (q = p) || inB q p
def in25 (l : List Str) (p : Str) : Bool := l.any (at25 p)
def viewS (l : List Str) : Bool := l.all pathS && decide (l.length ≤ 4)
def freeS (t : List FileD) (a b : List Str) : Bool := treeS t && viewS a && viewS b && t.all fun f => !(in25 a f.path && in25 b f.path)
def freeI (t : List FileD) (a b : List Str) : Bool := treeI t && viewI a && viewI b && t.all fun f => !(visB f a && visB f b)
theorem at_in (f : FileD) (q : Str) : atB f.path q = (decide (q = f.path) || inB q f.path) := by
  unfold atB
  rw [in_pref]
  congr 1
  simp only [eq_comm]
theorem vis_in (f : FileD) (l : List Str) : visB f l = in25 l f.path := by
  unfold visB in25
  congr 1
  funext q
  exact at_in f q
theorem view_eq (l : List Str) : viewI l = viewS l := by
  unfold viewI viewS
  rw [show pathI = pathS from funext path_eq, Bool.and_comm]
theorem free_eq (t : List FileD) (a b : List Str) : freeI t a b = freeS t a b := by
  unfold freeI freeS
  simp only [tree_eq, view_eq, vis_in]

theorem szStrs_le' {a : List Str} {l : Int} (h : 0 ≤ l) (h2 : l ≤ 1048576) : szStrs a l ≤ 1048576 := by have := szStrs_le (a := a) h; omega
theorem szFL_le : ∀ {a : List FileD} {l : Int}, 0 ≤ l → szFL a l ≤ l := by
  intro a
  induction a with
  | nil => intro l _; exact Int.le_refl l
  | cons s r ih =>
    intro l h
    simp only [szFL]
    split
    · omega
    · have h1 := szF_le (f := s) h
      have := ih (l := szF s l) (by omega); omega
theorem szFiles_le {a : List FileD} {l : Int} (h : 0 ≤ l) : szFiles a l ≤ l := by
  unfold szFiles
  split
  · omega
  · have := szFL_le (a := a) (l := l - a.length) (by omega); omega
end Vx
end Go.Proofs.YthmhaggmcfemnaaGreatDoor
/-
  Contracts: marks laid and looked for.
-/
namespace Go.Proofs.YthmhaggmcfemnaaGreatDoor
namespace Vx
open Go.RowKit
set_option maxRecDepth 8000

def digL : Nat → Nat → Str → Str
  | 0, _, out => out
  | f + 1, k, out => if k = 0 then out else digL f (k / 10) (UInt8.ofNat (48 + k % 10) :: out)
theorem digL_fuel : ∀ {f g k : Nat} {out : Str}, k < f → k < g → digL f k out = digL g k out := by
  intro f
  induction f with
  | zero => intro g k out h; omega
  | succ f ih =>
    intro g k out h1 h2
    cases g with
    | zero => omega
    | succ g =>
      simp only [digL]
      split
      · rfl
      · exact ih (by omega) (by omega)
def dig (k : Nat) (out : Str) : Str := digL (k + 1) k out
theorem dig_zero (out : Str) : dig 0 out = out := rfl
theorem dig_step {k : Nat} {out : Str} (h : 0 < k) : dig k out = dig (k / 10) (UInt8.ofNat (48 + k % 10) :: out) := by
  unfold dig
  rw [digL, if_neg (by omega)]
  exact digL_fuel (by omega) (by omega)
def markS (k : Int) : Str := if k ≤ 0 then [109, 48] else 109 :: dig k.toNat []

def cMarkText : Con := .fn 20 Int (fun k => [.int .i64 k]) (fun k => k ≤ 4611686018427387904) (fun k => .str (markS k)) (fun _ => [])
set_option maxHeartbeats 4000000 in
theorem markText_has : Has Tryz.prog 114 cMarkText := by
  refine has_walk mixed tTab_ok (l := []) HasL.nil [0, 2, 3] ((fun a n (_ : Nat) => (fun k _ => ⟨Int × Str, fun t => ⟨[(0, true, .int .i64 t.1), (2, true, .str []), (3, true, .str t.2)], []⟩, fun t => 0 ≤ t.1 ∧ 0 < (show Int from k) ∧ t.2.length + t.1.toNat ≤ (show Int from k).toNat ∧ dig t.1.toNat t.2 = dig (show Int from k).toNat [], fun t => t.1.toNat⟩) a n)) [] Tryz.func114 (by kernel_rfl) (code := _) (by unfold Tryz.f114; rfl) (by kernel_rfl) (by decide) (fun _ => ⟨(), trivial⟩) (by intro h; first | exact fun _ => rfl | cases h) (by kernel_rfl) ?_
  intro (k : Int) hk
  replace hk : k ≤ 4611686018427387904 := hk
  have hm : ∀ n : Int, 0 ≤ n → n.tmod 10 = n % 10 := fun n h => Int.tmod_eq_emod_of_nonneg h
  have hq : ∀ n : Int, 0 ≤ n → n.tdiv 10 = n / 10 := fun n h => Int.tdiv_eq_ediv_of_nonneg h
  have hs : ∀ (n : Int) (out : Str), 0 < n → dig n.toNat out = dig (n / 10).toNat (UInt8.ofNat (48 + n % 10).toNat :: out) := fun n out h => by
    rw [dig_step (by omega)]
    congr 1
    · omega
    · congr 2; omega
  have hz : ∀ out : Str, dig 0 out = out := fun _ => rfl
  have hM : maxLen = 9223372036854775807 := rfl
  simp -implicitDefEqProofs [vc_skip, extOf, vc_seq, vc_cond, vc_block, vc_exit, vc_ret, vc_region, vc_regionD, vc_loop, kSeq_normal, kSeq_ret, kSeq_exit, kBlock_normal, kBlock_ret, kBlock_exit, kLoop_normal, kLoop_ret, kLoop_exit, kCond_bool, kNorm_app, vcOps_nil, vcOps_cons, kOps_app, kStep_some, kStep_none, vcDL_nil, vcDL_cons, kOpsD_app, kStepD_true, kStepD_tt, kStepD_false, ldB, btys, btyAct, kStepC_some, kStepC_none, kMv_app, act3_store, act3_call, act3_bs, kAct_app, kSt2_app, stealSlots, stealL, stealOne, subIn, AV.stolen, act_store, act_bs, act_append, act_call, kSet_app, kSet2_app, kSetG_app, kSetG_app0, kStore_ptr, kStore_eptr, kCallW_some, kCallC_some, kCall_some, wk_T, wk_n, wk_keep, wk_inv, wk_act, wk_dr, wk_le, aCalm, wantC, dstOk, calm, aCallK, aCall3K, subOf, subRep, aCall2K, apnd, bsMove, putBox, putOwn, partAV, mvL, AV.mv, AV.base, AV.moved, kBld, bldK, wrK, stK, AV.selfOk, AV.src, TI.flat, apSize, pickAV, St.val, St.cond, St.fn, St.next, St.set, St.trim, wipe_eq, wipeE_app, wipeM_app, pickEnv, get?, cGet, upd_app, withPuts, killAll, rm, freshP, Oper.hnd, Sc.st, ofConst, constOk, lenAV, elemLen, loadAV, ldL, ld1, fieldAddrAV, indexAddrAV, sliceAV, convAV, buildAV, fillAV, fieldAV, Out.of, binAV, AV.rows, AV.one, AV.cells, AV.deepOk, AV.toD, toDs, partRows, partRowsM, partsDeep, TK.zeroAV, TK.zeroD, byteOf, inR, Op.operands, Call.operands, passVs, passV, passL, pass1, passB, pasVs, pasV, pasL, pas1, ownsOk, okHs, okHs2, okFin, finOk2, rho, over, backRes, backAV, backAV1, backBlk, putBack, back2, back2_V, back2_1, m2, AV.wipe, AV.wipeV, AV.wipe1, Blk.wipe, AV.hs, AV.hs.hsL, alOps, Con.start2, Con.pk, bodyQ, fini, resAV, resA, firstId, Sc.from, renEnv, renT, renV, renVs, renL, ren1, renBox, renOwn, okRen, clOf, actB, setRow, flatRows, flatD, noInv, shr_nil, shr_some, kStepF_some, shareL, AV.viewed, AV.viewed1, cMarkText, Con.fn, tTab]
  try dsimp only
  refine ⟨fun h => by simp [markS, h], fun h0 => ⟨⟨k, [], ⟨rfl, rfl⟩, by omega, h0, by simp, rfl⟩, ?_⟩⟩
  intro a b ha _ hl hd
  rw [hm a ha, hq a ha, hM]
  refine ⟨fun hpos => ⟨by omega, fun _ _ => ⟨by omega, fun _ _ => ⟨by omega, fun _ => ⟨by omega, fun _ => ⟨by omega, fun _ _ => ⟨_, _, ⟨rfl, rfl⟩, ⟨by omega, h0, by simp only [List.length_cons]; omega, ?_⟩, by omega⟩⟩⟩⟩⟩⟩, fun hz0 => ⟨by omega, fun _ => ?_⟩⟩
  · rw [← hs a b hpos, hd]
  · obtain rfl : a = 0 := by omega
    rw [show dig (Int.toNat 0) b = b from rfl] at hd
    simp only [markS, if_neg (show ¬ k ≤ 0 by omega), hd]

def markL (n : Nat) (k : Int) : List Str := (List.range n).map fun i : Nat => markS (k + (i : Int))
theorem markL_len (n : Nat) (k : Int) : (markL n k).length = n := by simp [markL]
theorem markL_succ (n : Nat) (k : Int) : markL (n + 1) k = markL n k ++ [markS (k + n)] := by simp [markL, List.range_succ]
def mArr (a : List Str) (k : Int) (i : Nat) : List Str := markL i k ++ a.drop i
theorem mArr_len {a : List Str} {k : Int} {i : Nat} (h : i ≤ a.length) : (mArr a k i).length = a.length := by simp [mArr, markL_len]; omega
theorem mArr_set {a : List Str} {k : Int} {i : Nat} (h : i < a.length) : (mArr a k i).set i (markS (k + i)) = mArr a k (i + 1) := by
  unfold mArr
  have e : (l' : List Str) → l' = a.drop i → l'.set 0 (markS (k + i)) = markS (k + i) :: a.drop (i + 1) := by
    rintro _ rfl
    rw [List.drop_eq_getElem_cons h]; rfl
  rw [List.set_append_right _ _ (by simp [markL_len]), markL_len, Nat.sub_self, markL_succ, e _ rfl]
  simp
theorem mArr_zero (a : List Str) (k : Int) : mArr a k 0 = a := by simp [mArr, markL]
theorem mArr_end {a : List Str} {k : Int} {i : Nat} (h : a.length ≤ i) (h2 : i ≤ a.length) : mArr a k i = markL a.length k := by
  obtain rfl : i = a.length := by omega
  simp [mArr]

def cMarkStringS : Con := { A := List Str × Int, X := Unit, n := 20, args := fun a => [.own 0 1 (eStrs a.1), .int .i64 a.2], boxes := fun _ => [], pre := fun a => 0 ≤ a.2 ∧ a.2 + a.1.length ≤ 4611686018427387904, post := fun _ _ => True, res := fun a _ => .int .i64 (a.2 + a.1.length), fin := fun a _ => [(0, .own 9 1 true (eStrs (markL a.1.length a.2)))], owns := fun a => [(0, 9, 1, eStrs a.1)], lends := [0], mv := true, sube := 9 }
set_option maxHeartbeats 4000000 in
theorem markStringS_has : Has Tryz.prog 140 cMarkStringS := by
  refine has_walk mixed tTab_ok (l := [(114, cMarkText)]) (HasL.cons markText_has HasL.nil) [0, 1, 4, 5] ((fun a n (_ : Nat) => (fun a _ => ⟨Nat, fun i => ⟨[(0, true, .own 0 1 (eStrs (mArr a.1 a.2 i))), (1, true, .int .i64 (a.2 + i)), (4, true, .int .i64 0), (5, true, .int .i64 i)], [(0, .own 9 1 true (eStrs (mArr a.1 a.2 i)))]⟩, fun i => i ≤ a.1.length, fun i => a.1.length - i⟩) a n)) [] Tryz.func140 (by kernel_rfl) (code := _) (by unfold Tryz.f140; rfl) (by kernel_rfl) (by decide) (fun _ => ⟨(), trivial⟩) (by intro h; first | exact fun _ => rfl | cases h) (by kernel_rfl) ?_
  intro a ha
  obtain ⟨l, k⟩ := a
  obtain ⟨h1, h2⟩ : 0 ≤ k ∧ k + l.length ≤ 4611686018427387904 := ha
  have e1 := fun i => @mArr_len l k i
  have e2 := fun i => @mArr_set l k i
  have e3 := mArr_zero l k
  have e4 := fun i => @mArr_end l k i
  simp -implicitDefEqProofs [vc_skip, extOf, vc_seq, vc_cond, vc_block, vc_exit, vc_ret, vc_region, vc_regionD, vc_loop, kSeq_normal, kSeq_ret, kSeq_exit, kBlock_normal, kBlock_ret, kBlock_exit, kLoop_normal, kLoop_ret, kLoop_exit, kCond_bool, kNorm_app, vcOps_nil, vcOps_cons, kOps_app, kStep_some, kStep_none, vcDL_nil, vcDL_cons, kOpsD_app, kStepD_true, kStepD_tt, kStepD_false, ldB, btys, btyAct, kStepC_some, kStepC_none, kMv_app, act3_store, act3_call, act3_bs, kAct_app, kSt2_app, stealSlots, stealL, stealOne, subIn, AV.stolen, act_store, act_bs, act_append, act_call, kSet_app, kSet2_app, kSetG_app, kSetG_app0, kStore_ptr, kStore_eptr, kCallW_some, kCallC_some, kCall_some, wk_T, wk_n, wk_keep, wk_inv, wk_act, wk_dr, wk_le, aCalm, wantC, dstOk, calm, aCallK, aCall3K, subOf, subRep, aCall2K, apnd, bsMove, putBox, putOwn, partAV, mvL, AV.mv, AV.base, AV.moved, kBld, bldK, wrK, stK, AV.selfOk, AV.src, TI.flat, apSize, pickAV, St.val, St.cond, St.fn, St.next, St.set, St.trim, wipe_eq, wipeE_app, wipeM_app, pickEnv, get?, cGet, upd_app, withPuts, killAll, rm, freshP, Oper.hnd, Sc.st, ofConst, constOk, lenAV, elemLen, loadAV, ldL, ld1, fieldAddrAV, indexAddrAV, sliceAV, convAV, buildAV, fillAV, fieldAV, Out.of, binAV, AV.rows, AV.one, AV.cells, AV.deepOk, AV.toD, toDs, partRows, partRowsM, partsDeep, TK.zeroAV, TK.zeroD, byteOf, inR, Op.operands, Call.operands, passVs, passV, passL, pass1, passB, pasVs, pasV, pasL, pas1, ownsOk, okHs, okHs2, okFin, finOk2, rho, over, backRes, backAV, backAV1, backBlk, putBack, back2, back2_V, back2_1, m2, AV.wipe, AV.wipeV, AV.wipe1, Blk.wipe, AV.hs, AV.hs.hsL, alOps, Con.start2, Con.pk, bodyQ, fini, resAV, resA, firstId, Sc.from, renEnv, renT, renV, renVs, renL, ren1, renBox, renOwn, okRen, clOf, actB, setRow, flatRows, flatD, noInv, shr_nil, shr_some, kStepF_some, shareL, AV.viewed, AV.viewed1, cMarkStringS, Con.fn, tTab, cMarkText]
  try dsimp only
  try simp +contextual [eStr, eFile, cast_succ, cast_eq, cast_zero, List.getElem?_eq_getElem, eStrs_set, eFiles_set, eStrs_rep, eFiles_rep, ← eStrs_append, ← eFiles_append, eStrs_take, eStrs_drop, eFiles_take, eFiles_drop, eStrs_snoc, eFiles_snoc, and_assoc, e1, e2, e3]
  repeat' (first | intro _ | apply And.intro)
  all_goals first | omega | grind [all_take]

def heldL (a : List Str) (k : Int) : Int := if a = markL a.length k then k + a.length else -1
def cHeldStringS : Con := .fn 22 (List Str × Int) (fun a => [.sl true 1 (eStrs a.1), .int .i64 a.2]) (fun a => 0 ≤ a.2 ∧ a.2 + a.1.length ≤ 4611686018427387904) (fun a => .int .i64 (heldL a.1 a.2)) (fun _ => [])
theorem held_hit {a : List Str} {k : Int} {i : Nat} (h : a.length ≤ i) (h2 : i ≤ a.length) (h3 : a.take i = markL i k) : heldL a k = k + i := by
  obtain rfl : i = a.length := by omega
  rw [List.take_length] at h3
  unfold heldL
  rw [if_pos h3]
theorem held_miss {a : List Str} {k : Int} {i : Nat} (h : i < a.length) (h2 : a[i] ≠ markS (k + i)) : heldL a k = -1 := by
  unfold heldL
  rw [if_neg]
  intro h3
  apply h2
  have : a[i]? = (markL a.length k)[i]? := by rw [← h3]
  rw [List.getElem?_eq_getElem h] at this
  simpa [markL, h] using this
theorem held_step {a : List Str} {k : Int} {i : Nat} (h : i < a.length) (h2 : a[i] = markS (k + i)) (h3 : a.take i = markL i k) : a.take (i + 1) = markL (i + 1) k := by
  rw [take_succ' h, markL_succ, h3, h2]
set_option maxHeartbeats 4000000 in
theorem heldStringS_has : Has Tryz.prog 141 cHeldStringS := by
  refine has_walk mixed tTab_ok (l := [(114, cMarkText)]) (HasL.cons markText_has HasL.nil) [0, 1, 4, 5] ((fun a n (_ : Nat) => (fun a _ => ⟨Nat, fun i => ⟨[(0, true, .sl true 1 (eStrs a.1)), (1, true, .int .i64 (a.2 + i)), (4, true, .int .i64 0), (5, true, .int .i64 i)], []⟩, fun i => i ≤ a.1.length ∧ a.1.take i = markL i a.2, fun i => a.1.length - i⟩) a n)) [] Tryz.func141 (by kernel_rfl) (code := _) (by unfold Tryz.f141; rfl) (by kernel_rfl) (by decide) (fun _ => ⟨(), trivial⟩) (by intro h; first | exact fun _ => rfl | cases h) (by kernel_rfl) ?_
  intro a ha
  obtain ⟨l, k⟩ := a
  obtain ⟨h1, h2⟩ : 0 ≤ k ∧ k + l.length ≤ 4611686018427387904 := ha
  have e1 := fun i => @held_hit l k i
  have e2 := fun i => @held_miss l k i
  have e3 := fun i => @held_step l k i
  have e4 : markL 0 k = [] := rfl
  simp -implicitDefEqProofs [vc_skip, extOf, vc_seq, vc_cond, vc_block, vc_exit, vc_ret, vc_region, vc_regionD, vc_loop, kSeq_normal, kSeq_ret, kSeq_exit, kBlock_normal, kBlock_ret, kBlock_exit, kLoop_normal, kLoop_ret, kLoop_exit, kCond_bool, kNorm_app, vcOps_nil, vcOps_cons, kOps_app, kStep_some, kStep_none, vcDL_nil, vcDL_cons, kOpsD_app, kStepD_true, kStepD_tt, kStepD_false, ldB, btys, btyAct, kStepC_some, kStepC_none, kMv_app, act3_store, act3_call, act3_bs, kAct_app, kSt2_app, stealSlots, stealL, stealOne, subIn, AV.stolen, act_store, act_bs, act_append, act_call, kSet_app, kSet2_app, kSetG_app, kSetG_app0, kStore_ptr, kStore_eptr, kCallW_some, kCallC_some, kCall_some, wk_T, wk_n, wk_keep, wk_inv, wk_act, wk_dr, wk_le, aCalm, wantC, dstOk, calm, aCallK, aCall3K, subOf, subRep, aCall2K, apnd, bsMove, putBox, putOwn, partAV, mvL, AV.mv, AV.base, AV.moved, kBld, bldK, wrK, stK, AV.selfOk, AV.src, TI.flat, apSize, pickAV, St.val, St.cond, St.fn, St.next, St.set, St.trim, wipe_eq, wipeE_app, wipeM_app, pickEnv, get?, cGet, upd_app, withPuts, killAll, rm, freshP, Oper.hnd, Sc.st, ofConst, constOk, lenAV, elemLen, loadAV, ldL, ld1, fieldAddrAV, indexAddrAV, sliceAV, convAV, buildAV, fillAV, fieldAV, Out.of, binAV, AV.rows, AV.one, AV.cells, AV.deepOk, AV.toD, toDs, partRows, partRowsM, partsDeep, TK.zeroAV, TK.zeroD, byteOf, inR, Op.operands, Call.operands, passVs, passV, passL, pass1, passB, pasVs, pasV, pasL, pas1, ownsOk, okHs, okHs2, okFin, finOk2, rho, over, backRes, backAV, backAV1, backBlk, putBack, back2, back2_V, back2_1, m2, AV.wipe, AV.wipeV, AV.wipe1, Blk.wipe, AV.hs, AV.hs.hsL, alOps, Con.start2, Con.pk, bodyQ, fini, resAV, resA, firstId, Sc.from, renEnv, renT, renV, renVs, renL, ren1, renBox, renOwn, okRen, clOf, actB, setRow, flatRows, flatD, noInv, shr_nil, shr_some, kStepF_some, shareL, AV.viewed, AV.viewed1, cHeldStringS, Con.fn, tTab, cMarkText]
  try dsimp only
  try simp +contextual [eStr, eFile, cast_succ, cast_eq, cast_zero, List.getElem?_eq_getElem, eStrs_set, eFiles_set, eStrs_rep, eFiles_rep, ← eStrs_append, ← eFiles_append, eStrs_take, eStrs_drop, eFiles_take, eFiles_drop, eStrs_snoc, eFiles_snoc, and_assoc]
  repeat' (first | intro _ | apply And.intro)
  all_goals first | omega | grind [all_take]

end Vx
end Go.Proofs.YthmhaggmcfemnaaGreatDoor
/-
  Contracts: words looked for in trees, both sides.
-/
namespace Go.Proofs.YthmhaggmcfemnaaGreatDoor
namespace Vx
open Go.RowKit
set_option maxRecDepth 8000

def startsW (w l : Str) : Bool := prefB w l && (match l.drop w.length with | [] => true | y :: _ => !wordB y.toNat)
def occ (w : Str) : Bool → Str → Bool
  | b, [] => b && startsW w []
  | b, x :: r => (b && startsW w (x :: r)) || occ w (!wordB x.toNat) r
def hasP (w : Str) : Str → Str → Bool
  | [], c => decide (c = w)
  | x :: r, c => if wordB x.toNat then hasP w r (c ++ [x]) else decide (c = w) || hasP w r []

theorem occ_run {w : Str} : ∀ {c l : Str}, (∀ x ∈ c, wordB x.toNat = true) → occ w false (c ++ l) = occ w false l := by
  intro c
  induction c with
  | nil => intro l _; rfl
  | cons x c ih =>
    intro l h
    have hx := h x (by simp)
    rw [List.cons_append]
    show (false && _ || occ w (!wordB x.toNat) (c ++ l)) = _
    rw [hx]
    simpa using ih fun y hy => h y (by simp [hy])
theorem occ_true {w x : Str} {y : UInt8} {l : Str} : occ w true ((y :: x) ++ l) = (startsW w ((y :: x) ++ l) || occ w (!wordB y.toNat) (x ++ l)) := by
  rw [List.cons_append]
  show (true && _ || _) = _
  rw [Bool.true_and]
theorem starts_eq {w c l : Str} (hw : ∀ x ∈ w, wordB x.toNat = true) (hc : ∀ x ∈ c, wordB x.toNat = true) (hl : ∀ y r, l = y :: r → wordB y.toNat = false) : startsW w (c ++ l) = decide (c = w) := by
  rw [Bool.eq_iff_iff]
  simp only [startsW, prefB, Bool.and_eq_true, decide_eq_true_eq]
  constructor
  · rintro ⟨⟨h1, h2⟩, h3⟩
    rcases Nat.lt_trichotomy w.length c.length with h | h | h
    · rw [List.drop_append_of_le_length (by omega), List.drop_eq_getElem_cons h] at h3
      simp only [List.cons_append] at h3
      rw [hc _ (List.getElem_mem h)] at h3
      cases h3
    · rw [List.take_append_of_le_length (by omega), List.take_of_length_le (by omega)] at h2
      exact h2
    · rw [List.take_append, List.take_of_length_le (by omega)] at h2
      cases l with
      | nil => simp at h1; omega
      | cons y r =>
        have hy : y ∈ w := by
          rw [← h2]
          obtain ⟨k, hk⟩ : ∃ k, w.length - c.length = k + 1 := ⟨w.length - c.length - 1, by omega⟩
          rw [hk]; simp
        have h4 := hl y r rfl
        rw [hw y hy] at h4
        cases h4
  · rintro rfl
    refine ⟨⟨by simp, by simp⟩, ?_⟩
    rw [List.drop_left]
    cases l with
    | nil => rfl
    | cons y r => simp [hl y r rfl]
theorem occ_end {w c : Str} (hw : ∀ x ∈ w, wordB x.toNat = true) (hc : ∀ x ∈ c, wordB x.toNat = true) : occ w true c = decide (c = w) := by
  have hs := starts_eq (l := []) hw hc (by simp)
  rw [List.append_nil] at hs
  cases c with
  | nil => show (true && startsW w []) = _; rw [Bool.true_and]; exact hs
  | cons x c =>
    have := occ_true (w := w) (y := x) (x := c) (l := [])
    rw [List.append_nil, List.append_nil] at this
    rw [this, hs, hc x (by simp)]
    have h2 := occ_run (w := w) (c := c) (l := []) (fun y hy => hc y (by simp [hy]))
    rw [List.append_nil] at h2
    simp [h2, occ]
theorem occ_cut {w c r : Str} {y : UInt8} (hw : ∀ x ∈ w, wordB x.toNat = true) (hc : ∀ x ∈ c, wordB x.toNat = true) (hy : wordB y.toNat = false) : occ w true (c ++ y :: r) = (decide (c = w) || occ w true r) := by
  have hs := starts_eq (l := y :: r) hw hc (fun a b h => by cases h; exact hy)
  cases c with
  | nil =>
    show (true && startsW w (y :: r) || occ w (!wordB y.toNat) r) = _
    rw [hy, Bool.true_and]
    rw [List.nil_append] at hs
    rw [hs]; rfl
  | cons x c =>
    rw [occ_true, hs, hc x (by simp)]
    have h2 := occ_run (w := w) (c := c) (l := y :: r) (fun z hz => hc z (by simp [hz]))
    simp only [Bool.not_true]
    rw [h2]
    show (_ || (false && _ || occ w (!wordB y.toNat) r)) = _
    rw [hy]; simp
theorem has_occ {w : Str} (hw : ∀ x ∈ w, wordB x.toNat = true) : ∀ {r c : Str}, (∀ x ∈ c, wordB x.toNat = true) → hasP w r c = occ w true (c ++ r) := by
  intro r
  induction r with
  | nil => intro c hc; rw [List.append_nil, occ_end hw hc]; rfl
  | cons x r ih =>
    intro c hc
    cases hx : wordB x.toNat with
    | true =>
      simp only [hasP, hx, if_true]
      rw [ih (fun y hy => by rcases List.mem_append.1 hy with h | h; exact hc y h; simp only [List.mem_singleton] at h; subst h; exact hx)]
      simp
    | false =>
      simp only [hasP, hx, Bool.false_eq_true, if_false]
      rw [occ_cut hw hc hx, ih (by simp)]
      rfl

theorem occ_short {w : Str} : ∀ {l : Str} {b : Bool}, l.length < w.length → occ w b l = false := by
  intro l
  induction l with
  | nil =>
    intro b h
    simp only [List.length_nil] at h
    show (b && startsW w []) = false
    simp only [startsW, prefB, List.length_nil, decide_eq_false (show ¬ w.length ≤ 0 by omega), Bool.false_and, Bool.and_false]
  | cons x l ih =>
    intro b h
    simp only [List.length_cons] at h
    have h1 : startsW w (x :: l) = false := by simp only [startsW, prefB, List.length_cons, decide_eq_false (show ¬ w.length ≤ l.length + 1 by omega), Bool.false_and]
    simp only [occ, h1, Bool.and_false, Bool.false_or]
    exact ih (by omega)
def bAt (l : Str) (i : Nat) : Bool := decide (i = 0) || !wordB (l.getD (i - 1) 0).toNat
def occAt (w l : Str) (i : Nat) : Bool := occ w (bAt l i) (l.drop i)
theorem occAt_zero (w l : Str) : occAt w l 0 = occ w true l := rfl
theorem starts_iff {w l : Str} {i : Nat} (h : i + w.length ≤ l.length) : startsW w (l.drop i) = (decide ((l.drop i).take w.length = w) && (decide (i + w.length = l.length) || !wordB (l.getD (i + w.length) 0).toNat)) := by
  unfold startsW prefB
  rw [List.drop_drop]
  rw [decide_eq_true (show w.length ≤ (l.drop i).length by simp; omega), Bool.true_and]
  congr 1
  by_cases he : i + w.length = l.length
  · rw [List.drop_eq_nil_of_le (by omega)]; simp [he]
  · have hlt : i + w.length < l.length := by omega
    rw [List.drop_eq_getElem_cons hlt]
    simp [he, hlt]
theorem occAt_step {w l : Str} {i : Nat} (h : i < l.length) : occAt w l i = (bAt l i && startsW w (l.drop i) || occAt w l (i + 1)) := by
  unfold occAt
  rw [List.drop_eq_getElem_cons h]
  show (_ || occ w (!wordB l[i].toNat) (l.drop (i + 1))) = _
  congr 2
  simp [bAt, h]
theorem occAt_hit {w l : Str} {i : Nat} (hw : 1 ≤ w.length) (h : i + w.length ≤ l.length) (h1 : (l.drop i).take w.length = w) (h2 : i = 0 ∨ wordB (l.getD (i - 1) 0).toNat = false) (h3 : i + w.length = l.length ∨ wordB (l.getD (i + w.length) 0).toNat = false) : occAt w l i = true := by
  rw [occAt_step (by omega), starts_iff h]
  have a1 : bAt l i = true := by unfold bAt; rcases h2 with h2 | h2 <;> simp only [h2, decide_true, Bool.true_or, Bool.not_false, Bool.or_true]
  have a2 : (decide (i + w.length = l.length) || !wordB (l.getD (i + w.length) 0).toNat) = true := by rcases h3 with h3 | h3 <;> simp only [h3, decide_true, Bool.true_or, Bool.not_false, Bool.or_true]
  rw [a1, a2, decide_eq_true h1]; rfl
theorem occAt_miss {w l : Str} {i : Nat} (hw : 1 ≤ w.length) (h : i + w.length ≤ l.length) (h1 : (l.drop i).take w.length ≠ w ∨ (0 < i ∧ wordB (l.getD (i - 1) 0).toNat = true) ∨ (i + w.length < l.length ∧ wordB (l.getD (i + w.length) 0).toNat = true)) : occAt w l i = occAt w l (i + 1) := by
  rw [occAt_step (by omega), starts_iff h]
  have : (bAt l i && (decide ((l.drop i).take w.length = w) && (decide (i + w.length = l.length) || !wordB (l.getD (i + w.length) 0).toNat))) = false := by
    rcases h1 with h1 | ⟨h1, h2⟩ | ⟨h1, h2⟩
    · rw [decide_eq_false h1]; simp
    · unfold bAt; rw [decide_eq_false (show ¬ i = 0 by omega), h2]; simp
    · rw [decide_eq_false (show ¬ i + w.length = l.length by omega), h2]; simp
  rw [this, Bool.false_or]
theorem occAt_end {w l : Str} {i : Nat} (h : l.length < i + w.length) (hi : i ≤ l.length) : occAt w l i = false := occ_short (by rw [List.length_drop]; omega)

def cContains : Con := .fn 51 (Str × Str) (fun a => [.str a.1, .str a.2]) (fun a => a.1.length ≤ 1099511627776 ∧ a.2.length ≤ 1099511627776 ∧ 1 ≤ a.2.length) (fun a => .bool (occ a.2 true a.1)) (fun _ => [])
set_option maxHeartbeats 4000000 in
theorem contains_has : Has Tryz.prog 92 cContains := by
  refine has_walk mixed tTab_ok (l := [(89, cWordByte)]) (HasL.cons wordByte_has HasL.nil) [0, 1, 4, 5, 6] ((fun a n (_ : Nat) => (fun a _ => ⟨Nat, fun i => ⟨[(0, true, .str a.1), (1, true, .str a.2), (4, true, .bool false), (5, true, .int .i64 i)], []⟩, fun i => i ≤ a.1.length ∧ occAt a.2 a.1 i = occ a.2 true a.1, fun i => a.1.length - i⟩) a n)) [] Tryz.func92 (by kernel_rfl) (code := _) (by unfold Tryz.f92; rfl) (by kernel_rfl) (by decide) (fun _ => ⟨(), trivial⟩) (by intro h; first | exact fun _ => rfl | cases h) (by kernel_rfl) ?_
  intro a ha
  obtain ⟨l, w⟩ := a
  obtain ⟨q1, q2, q3⟩ : l.length ≤ 1099511627776 ∧ w.length ≤ 1099511627776 ∧ 1 ≤ w.length := ha
  have h1 := fun i => @occAt_hit w l i q3
  have h2 := fun i => @occAt_miss w l i q3
  have h3 := fun i => @occAt_end w l i
  have h0 := occAt_zero w l
  have hn : ∀ i : Nat, ((i : Int) + w.length).toNat - i = w.length := fun i => by omega
  have hn2 : ∀ i : Nat, ((i : Int) + w.length).toNat = i + w.length := fun i => by omega
  have hn3 : ∀ i : Nat, ((i : Int) - 1).toNat = i - 1 := fun i => by omega
  simp -implicitDefEqProofs [vc_skip, extOf, vc_seq, vc_cond, vc_block, vc_exit, vc_ret, vc_region, vc_regionD, vc_loop, kSeq_normal, kSeq_ret, kSeq_exit, kBlock_normal, kBlock_ret, kBlock_exit, kLoop_normal, kLoop_ret, kLoop_exit, kCond_bool, kNorm_app, vcOps_nil, vcOps_cons, kOps_app, kStep_some, kStep_none, vcDL_nil, vcDL_cons, kOpsD_app, kStepD_true, kStepD_tt, kStepD_false, ldB, btys, btyAct, kStepC_some, kStepC_none, kMv_app, act3_store, act3_call, act3_bs, kAct_app, kSt2_app, stealSlots, stealL, stealOne, subIn, AV.stolen, act_store, act_bs, act_append, act_call, kSet_app, kSet2_app, kSetG_app, kSetG_app0, kStore_ptr, kStore_eptr, kCallW_some, kCallC_some, kCall_some, wk_T, wk_n, wk_keep, wk_inv, wk_act, wk_dr, wk_le, aCalm, wantC, dstOk, calm, aCallK, aCall3K, subOf, subRep, aCall2K, apnd, bsMove, putBox, putOwn, partAV, mvL, AV.mv, AV.base, AV.moved, kBld, bldK, wrK, stK, AV.selfOk, AV.src, TI.flat, apSize, pickAV, St.val, St.cond, St.fn, St.next, St.set, St.trim, wipe_eq, wipeE_app, wipeM_app, pickEnv, get?, cGet, upd_app, withPuts, killAll, rm, freshP, Oper.hnd, Sc.st, ofConst, constOk, lenAV, elemLen, loadAV, ldL, ld1, fieldAddrAV, indexAddrAV, sliceAV, convAV, buildAV, fillAV, fieldAV, Out.of, binAV, AV.rows, AV.one, AV.cells, AV.deepOk, AV.toD, toDs, partRows, partRowsM, partsDeep, TK.zeroAV, TK.zeroD, byteOf, inR, Op.operands, Call.operands, passVs, passV, passL, pass1, passB, pasVs, pasV, pasL, pas1, ownsOk, okHs, okHs2, okFin, finOk2, rho, over, backRes, backAV, backAV1, backBlk, putBack, back2, back2_V, back2_1, m2, AV.wipe, AV.wipeV, AV.wipe1, Blk.wipe, AV.hs, AV.hs.hsL, alOps, Con.start2, Con.pk, bodyQ, fini, resAV, resA, firstId, Sc.from, renEnv, renT, renV, renVs, renL, ren1, renBox, renOwn, okRen, clOf, actB, setRow, flatRows, flatD, noInv, shr_nil, shr_some, kStepF_some, shareL, AV.viewed, AV.viewed1, cContains, Con.fn, tTab, cWordByte]
  try dsimp only
  simp only [List.getD_eq_getElem?_getD] at h1 h2
  refine ⟨h0, fun t ht hoc _ => ⟨by omega, fun _ _ _ => ⟨fun hle _ => ⟨by omega, fun _ _ => ⟨by omega, fun _ _ => ?_⟩⟩, fun _ => ?_⟩⟩⟩
  · have e1 : t + w.length ≤ l.length := by omega
    have k1 := h1 t e1
    have k2 := h2 t e1
    have kx : occAt w l t = occAt w l (t + 1) → ∃ t' : Nat, (t' : Int) = t + 1 ∧ (t' ≤ l.length ∧ occAt w l t' = occ w true l) ∧ l.length - t' < l.length - t := fun h => ⟨t + 1, by omega, ⟨by omega, by rw [← h, hoc]⟩, by omega⟩
    simp only [hn2, Nat.add_sub_cancel_left]
    clear h1 h2 h3 h0 hn hn2 hn3
    repeat' (first | intro _ | apply And.intro)
    all_goals first | omega | grind
  · rw [← hoc]; exact h3 t (by omega) ht

end Vx
end Go.Proofs.YthmhaggmcfemnaaGreatDoor
/-
  Contracts: SeekTree, both sides.
-/
namespace Go.Proofs.YthmhaggmcfemnaaGreatDoor
namespace Vx
open Go.RowKit
set_option maxRecDepth 8000

def cSeek1 : Con := { A := Str × Str, X := Unit, n := 7, args := fun a => [.str a.2, .ptr 0 0], boxes := fun a => [(0, 9, [.str a.1])], pre := fun a => a.2.length ≤ 1099511627776 ∧ a.1.length ≤ 1099511627776 ∧ 1 ≤ a.1.length, post := fun _ _ => True, res := fun a _ => .bool (occ a.1 true a.2), fin := fun a _ => [(0, .box 9 [.str a.1])], nob := false }
set_option maxHeartbeats 4000000 in
theorem seek1_has : Has Tryz.prog 91 cSeek1 := by
  refine has_walk mixed tTab_ok (l := [(92, cContains)]) (HasL.cons contains_has HasL.nil) [0, 1, 3] ((fun a n (_ : Nat) => (fun _ => noInv) a n)) [] Tryz.func91 (by kernel_rfl) (code := _) (by unfold Tryz.f91; rfl) (by kernel_rfl) (by decide) (fun _ => ⟨(), trivial⟩) (by intro h; first | exact fun _ => rfl | cases h) (by kernel_rfl) ?_
  intro a ha
  obtain ⟨w, l⟩ := a
  obtain ⟨q1, q2, q3⟩ : l.length ≤ 1099511627776 ∧ w.length ≤ 1099511627776 ∧ 1 ≤ w.length := ha
  simp -implicitDefEqProofs [vc_skip, extOf, vc_seq, vc_cond, vc_block, vc_exit, vc_ret, vc_region, vc_regionD, vc_loop, kSeq_normal, kSeq_ret, kSeq_exit, kBlock_normal, kBlock_ret, kBlock_exit, kLoop_normal, kLoop_ret, kLoop_exit, kCond_bool, kNorm_app, vcOps_nil, vcOps_cons, kOps_app, kStep_some, kStep_none, vcDL_nil, vcDL_cons, kOpsD_app, kStepD_true, kStepD_tt, kStepD_false, ldB, btys, btyAct, kStepC_some, kStepC_none, kMv_app, act3_store, act3_call, act3_bs, kAct_app, kSt2_app, stealSlots, stealL, stealOne, subIn, AV.stolen, act_store, act_bs, act_append, act_call, kSet_app, kSet2_app, kSetG_app, kSetG_app0, kStore_ptr, kStore_eptr, kCallW_some, kCallC_some, kCall_some, wk_T, wk_n, wk_keep, wk_inv, wk_act, wk_dr, wk_le, aCalm, wantC, dstOk, calm, aCallK, aCall3K, subOf, subRep, aCall2K, apnd, bsMove, putBox, putOwn, partAV, mvL, AV.mv, AV.base, AV.moved, kBld, bldK, wrK, stK, AV.selfOk, AV.src, TI.flat, apSize, pickAV, St.val, St.cond, St.fn, St.next, St.set, St.trim, wipe_eq, wipeE_app, wipeM_app, pickEnv, get?, cGet, upd_app, withPuts, killAll, rm, freshP, Oper.hnd, Sc.st, ofConst, constOk, lenAV, elemLen, loadAV, ldL, ld1, fieldAddrAV, indexAddrAV, sliceAV, convAV, buildAV, fillAV, fieldAV, Out.of, binAV, AV.rows, AV.one, AV.cells, AV.deepOk, AV.toD, toDs, partRows, partRowsM, partsDeep, TK.zeroAV, TK.zeroD, byteOf, inR, Op.operands, Call.operands, passVs, passV, passL, pass1, passB, pasVs, pasV, pasL, pas1, ownsOk, okHs, okHs2, okFin, finOk2, rho, over, backRes, backAV, backAV1, backBlk, putBack, back2, back2_V, back2_1, m2, AV.wipe, AV.wipeV, AV.wipe1, Blk.wipe, AV.hs, AV.hs.hsL, alOps, Con.start2, Con.pk, bodyQ, fini, resAV, resA, firstId, Sc.from, renEnv, renT, renV, renVs, renL, ren1, renBox, renOwn, okRen, clOf, actB, setRow, flatRows, flatD, noInv, shr_nil, shr_some, kStepF_some, shareL, AV.viewed, AV.viewed1, cSeek1, Con.fn, tTab, cContains]
  try dsimp only
  try simp +contextual [eStr, eFile, cast_succ, cast_eq, cast_zero, List.getElem?_eq_getElem, eStrs_set, eFiles_set, eStrs_rep, eFiles_rep, ← eStrs_append, ← eFiles_append, eStrs_take, eStrs_drop, eFiles_take, eFiles_drop, eStrs_snoc, eFiles_snoc, and_assoc]
  repeat' (first | intro _ | apply And.intro)
  all_goals first | omega | grind [all_take]

def cIdxSeek : Con := { A := List Str × Str, X := Unit, n := 19, args := fun a => [.sl true 1 (eStrs a.1), .clo 91 [.ptr 0 0]], boxes := fun a => [(0, 9, [.str a.2])], pre := fun a => (∀ q ∈ a.1, q.length ≤ 1099511627776) ∧ a.2.length ≤ 1099511627776 ∧ 1 ≤ a.2.length, post := fun _ _ => True, res := fun a _ => .int .i64 (idxP (occ a.2 true) a.1), fin := fun a _ => [(0, .box 9 [.str a.2])], nob := false }
set_option maxHeartbeats 4000000 in
theorem idxSeek_has : Has Tryz.prog 122 cIdxSeek := by
  refine has_walk mixed tTab_ok (l := [(91, cSeek1)]) (HasL.cons seek1_has HasL.nil) [0, 1, 4, 5, 7, 8] ((fun a n (_ : Nat) => (fun a _ => ⟨Nat, fun i => ⟨[(0, true, .sl true 1 (eStrs a.1)), (1, true, .clo 91 [.ptr 0 0]), (4, true, .int .i64 0), (7, true, .int .i64 a.1.length), (8, true, .int .i64 i)], [(0, .box 9 [.str a.2])]⟩, fun i => i ≤ a.1.length ∧ ∀ x, x ∈ a.1.take i → occ a.2 true x = false, fun i => a.1.length - i⟩) a n)) [] Tryz.func122 (by kernel_rfl) (code := _) (by unfold Tryz.f122; rfl) (by kernel_rfl) (by decide) (fun _ => ⟨(), trivial⟩) (by intro h; first | exact fun _ => rfl | cases h) (by kernel_rfl) ?_
  intro a ha
  obtain ⟨l, w⟩ := a
  obtain ⟨q1, q2, q3⟩ : (∀ q ∈ l, q.length ≤ 1099511627776) ∧ w.length ≤ 1099511627776 ∧ 1 ≤ w.length := ha
  have ha' : ∀ i (h : i < l.length), l[i].length ≤ 1099511627776 := fun i h => q1 _ (List.getElem_mem h)
  have h1 := fun i => @idxP_hit _ (occ w true) l i
  have h2 := fun i => @idxP_miss _ (occ w true) l i
  have h3 := fun i => @take_step _ l i (fun y => occ w true y = false)
  simp -implicitDefEqProofs [vc_skip, extOf, vc_seq, vc_cond, vc_block, vc_exit, vc_ret, vc_region, vc_regionD, vc_loop, kSeq_normal, kSeq_ret, kSeq_exit, kBlock_normal, kBlock_ret, kBlock_exit, kLoop_normal, kLoop_ret, kLoop_exit, kCond_bool, kNorm_app, vcOps_nil, vcOps_cons, kOps_app, kStep_some, kStep_none, vcDL_nil, vcDL_cons, kOpsD_app, kStepD_true, kStepD_tt, kStepD_false, ldB, btys, btyAct, kStepC_some, kStepC_none, kMv_app, act3_store, act3_call, act3_bs, kAct_app, kSt2_app, stealSlots, stealL, stealOne, subIn, AV.stolen, act_store, act_bs, act_append, act_call, kSet_app, kSet2_app, kSetG_app, kSetG_app0, kStore_ptr, kStore_eptr, kCallW_some, kCallC_some, kCall_some, wk_T, wk_n, wk_keep, wk_inv, wk_act, wk_dr, wk_le, aCalm, wantC, dstOk, calm, aCallK, aCall3K, subOf, subRep, aCall2K, apnd, bsMove, putBox, putOwn, partAV, mvL, AV.mv, AV.base, AV.moved, kBld, bldK, wrK, stK, AV.selfOk, AV.src, TI.flat, apSize, pickAV, St.val, St.cond, St.fn, St.next, St.set, St.trim, wipe_eq, wipeE_app, wipeM_app, pickEnv, get?, cGet, upd_app, withPuts, killAll, rm, freshP, Oper.hnd, Sc.st, ofConst, constOk, lenAV, elemLen, loadAV, ldL, ld1, fieldAddrAV, indexAddrAV, sliceAV, convAV, buildAV, fillAV, fieldAV, Out.of, binAV, AV.rows, AV.one, AV.cells, AV.deepOk, AV.toD, toDs, partRows, partRowsM, partsDeep, TK.zeroAV, TK.zeroD, byteOf, inR, Op.operands, Call.operands, passVs, passV, passL, pass1, passB, pasVs, pasV, pasL, pas1, ownsOk, okHs, okHs2, okFin, finOk2, rho, over, backRes, backAV, backAV1, backBlk, putBack, back2, back2_V, back2_1, m2, AV.wipe, AV.wipeV, AV.wipe1, Blk.wipe, AV.hs, AV.hs.hsL, alOps, Con.start2, Con.pk, bodyQ, fini, resAV, resA, firstId, Sc.from, renEnv, renT, renV, renVs, renL, ren1, renBox, renOwn, okRen, clOf, actB, setRow, flatRows, flatD, noInv, shr_nil, shr_some, kStepF_some, shareL, AV.viewed, AV.viewed1, cIdxSeek, Con.fn, tTab, cSeek1]
  try dsimp only
  try simp +contextual [eStr, eFile, cast_succ, cast_eq, cast_zero, List.getElem?_eq_getElem, eStrs_set, eFiles_set, eStrs_rep, eFiles_rep, ← eStrs_append, ← eFiles_append, eStrs_take, eStrs_drop, eFiles_take, eFiles_drop, eStrs_snoc, eFiles_snoc, and_assoc]
  repeat' (first | intro _ | apply And.intro)
  all_goals first | omega | grind [all_take, idxP_ge]

def anyOcc (w : Str) (l : List Str) : Bool := l.any (occ w true)
def cConSeek : Con := { A := List Str × Str, X := Unit, n := 9, args := fun a => [.sl true 1 (eStrs a.1), .clo 91 [.ptr 0 0]], boxes := fun a => [(0, 9, [.str a.2])], pre := fun a => (∀ q ∈ a.1, q.length ≤ 1099511627776) ∧ a.2.length ≤ 1099511627776 ∧ 1 ≤ a.2.length, post := fun _ _ => True, res := fun a _ => .bool (anyOcc a.2 a.1), fin := fun a _ => [(0, .box 9 [.str a.2])], nob := false }
set_option maxHeartbeats 4000000 in
theorem conSeek_has : Has Tryz.prog 90 cConSeek := by
  refine has_walk mixed tTab_ok (l := [(122, cIdxSeek)]) (HasL.cons idxSeek_has HasL.nil) [0, 1, 4] ((fun a n (_ : Nat) => (fun _ => noInv) a n)) [] Tryz.func90 (by kernel_rfl) (code := _) (by unfold Tryz.f90; rfl) (by kernel_rfl) (by decide) (fun _ => ⟨(), trivial⟩) (by intro h; first | exact fun _ => rfl | cases h) (by kernel_rfl) ?_
  intro a ha
  obtain ⟨l, w⟩ := a
  obtain ⟨q1, q2, q3⟩ : (∀ q ∈ l, q.length ≤ 1099511627776) ∧ w.length ≤ 1099511627776 ∧ 1 ≤ w.length := ha
  simp -implicitDefEqProofs [vc_skip, extOf, vc_seq, vc_cond, vc_block, vc_exit, vc_ret, vc_region, vc_regionD, vc_loop, kSeq_normal, kSeq_ret, kSeq_exit, kBlock_normal, kBlock_ret, kBlock_exit, kLoop_normal, kLoop_ret, kLoop_exit, kCond_bool, kNorm_app, vcOps_nil, vcOps_cons, kOps_app, kStep_some, kStep_none, vcDL_nil, vcDL_cons, kOpsD_app, kStepD_true, kStepD_tt, kStepD_false, ldB, btys, btyAct, kStepC_some, kStepC_none, kMv_app, act3_store, act3_call, act3_bs, kAct_app, kSt2_app, stealSlots, stealL, stealOne, subIn, AV.stolen, act_store, act_bs, act_append, act_call, kSet_app, kSet2_app, kSetG_app, kSetG_app0, kStore_ptr, kStore_eptr, kCallW_some, kCallC_some, kCall_some, wk_T, wk_n, wk_keep, wk_inv, wk_act, wk_dr, wk_le, aCalm, wantC, dstOk, calm, aCallK, aCall3K, subOf, subRep, aCall2K, apnd, bsMove, putBox, putOwn, partAV, mvL, AV.mv, AV.base, AV.moved, kBld, bldK, wrK, stK, AV.selfOk, AV.src, TI.flat, apSize, pickAV, St.val, St.cond, St.fn, St.next, St.set, St.trim, wipe_eq, wipeE_app, wipeM_app, pickEnv, get?, cGet, upd_app, withPuts, killAll, rm, freshP, Oper.hnd, Sc.st, ofConst, constOk, lenAV, elemLen, loadAV, ldL, ld1, fieldAddrAV, indexAddrAV, sliceAV, convAV, buildAV, fillAV, fieldAV, Out.of, binAV, AV.rows, AV.one, AV.cells, AV.deepOk, AV.toD, toDs, partRows, partRowsM, partsDeep, TK.zeroAV, TK.zeroD, byteOf, inR, Op.operands, Call.operands, passVs, passV, passL, pass1, passB, pasVs, pasV, pasL, pas1, ownsOk, okHs, okHs2, okFin, finOk2, rho, over, backRes, backAV, backAV1, backBlk, putBack, back2, back2_V, back2_1, m2, AV.wipe, AV.wipeV, AV.wipe1, Blk.wipe, AV.hs, AV.hs.hsL, alOps, Con.start2, Con.pk, bodyQ, fini, resAV, resA, firstId, Sc.from, renEnv, renT, renV, renVs, renL, ren1, renBox, renOwn, okRen, clOf, actB, setRow, flatRows, flatD, noInv, shr_nil, shr_some, kStepF_some, shareL, AV.viewed, AV.viewed1, cConSeek, Con.fn, tTab, cIdxSeek, anyOcc]
  try dsimp only
  try simp +contextual [eStr, eFile, cast_succ, cast_eq, cast_zero, List.getElem?_eq_getElem, eStrs_set, eFiles_set, eStrs_rep, eFiles_rep, ← eStrs_append, ← eFiles_append, eStrs_take, eStrs_drop, eFiles_take, eFiles_drop, eStrs_snoc, eFiles_snoc, and_assoc, idxP_any]
  repeat' (first | intro _ | apply And.intro)
  all_goals first | omega | grind [all_take, idxP_any]

def hitI (w : Str) (f : FileD) : Bool := anyOcc w f.text
def seekL (p : FileD → Bool) (t : List FileD) : List Str := (t.filter p).map FileD.path
theorem seekL_hit {p : FileD → Bool} {t : List FileD} {i : Nat} (h : i < t.length) (hp : p t[i] = true) : seekL p (t.take (i + 1)) = seekL p (t.take i) ++ [t[i].path] := by
  simp only [seekL, take_succ' h, List.filter_append, List.map_append]
  simp [List.filter_cons, hp]
theorem seekL_miss {p : FileD → Bool} {t : List FileD} {i : Nat} (h : i < t.length) (hp : p t[i] = false) : seekL p (t.take (i + 1)) = seekL p (t.take i) := by
  simp only [seekL, take_succ' h, List.filter_append, List.map_append]
  simp [List.filter_cons, hp]
theorem seekL_le (p : FileD → Bool) (t : List FileD) : (seekL p t).length ≤ t.length := by
  simp only [seekL, List.length_map]; exact List.length_filter_le p t

def cSeek : Con := .fn 25 (List FileD × Str) (fun a => [.sl true 2 (eFiles a.1), .str a.2]) (fun a => a.1.length ≤ 1048576 ∧ (∀ f ∈ a.1, ∀ q ∈ f.text, q.length ≤ 1099511627776) ∧ a.2.length ≤ 1099511627776 ∧ 1 ≤ a.2.length) (fun a => .own 8 1 (eStrs (seekL (hitI a.2) a.1))) (fun a => ownStrs 8 (seekL (hitI a.2) a.1))
set_option maxHeartbeats 4000000 in
theorem seek_has : Has Tryz.prog 46 cSeek := by
  refine has_walk mixed tTab_ok (l := [(90, cConSeek)]) (HasL.cons conSeek_has HasL.nil) [0, 1, 3, 4, 5, 7, 8, 9, 10] ((fun a n (_ : Nat) => (fun a _ => ⟨Nat, fun i => ⟨[(3, true, .ptr 10 0), (4, true, .nil), (5, true, .own 9 1 (eStrs (seekL (hitI a.2) (a.1.take i)))), (8, true, .sl true 2 (eFiles a.1)), (9, true, .int .i64 a.1.length), (10, true, .int .i64 i)], [(10, .box 9 [.str a.2]), (9, .own 9 1 true (eStrs (seekL (hitI a.2) (a.1.take i))))]⟩, fun i => i ≤ a.1.length, fun i => a.1.length - i⟩) a n)) [] Tryz.func46 (by kernel_rfl) (code := _) (by unfold Tryz.f46; rfl) (by kernel_rfl) (by decide) (fun _ => ⟨(), trivial⟩) (by intro h; first | exact fun _ => rfl | cases h) (by kernel_rfl) ?_
  intro a ha
  obtain ⟨t, w⟩ := a
  obtain ⟨q0, q1, q2, q3⟩ : t.length ≤ 1048576 ∧ (∀ f ∈ t, ∀ q ∈ f.text, q.length ≤ 1099511627776) ∧ w.length ≤ 1099511627776 ∧ 1 ≤ w.length := ha
  have q1' : ∀ i (h : i < t.length), ∀ q ∈ t[i].text, q.length ≤ 1099511627776 := fun i h => q1 _ (List.getElem_mem h)
  have h1 := fun i => @seekL_hit (hitI w) t i
  have h2 := fun i => @seekL_miss (hitI w) t i
  have h3 := fun i => seekL_le (hitI w) (t.take i)
  have h4 : seekL (hitI w) [] = [] := rfl
  have h5 : ∀ i (h : i < t.length), anyOcc w t[i].text = hitI w t[i] := fun _ _ => rfl
  simp -implicitDefEqProofs [vc_skip, extOf, vc_seq, vc_cond, vc_block, vc_exit, vc_ret, vc_region, vc_regionD, vc_loop, kSeq_normal, kSeq_ret, kSeq_exit, kBlock_normal, kBlock_ret, kBlock_exit, kLoop_normal, kLoop_ret, kLoop_exit, kCond_bool, kNorm_app, vcOps_nil, vcOps_cons, kOps_app, kStep_some, kStep_none, vcDL_nil, vcDL_cons, kOpsD_app, kStepD_true, kStepD_tt, kStepD_false, ldB, btys, btyAct, kStepC_some, kStepC_none, kMv_app, act3_store, act3_call, act3_bs, kAct_app, kSt2_app, stealSlots, stealL, stealOne, subIn, AV.stolen, act_store, act_bs, act_append, act_call, kSet_app, kSet2_app, kSetG_app, kSetG_app0, kStore_ptr, kStore_eptr, kCallW_some, kCallC_some, kCall_some, wk_T, wk_n, wk_keep, wk_inv, wk_act, wk_dr, wk_le, aCalm, wantC, dstOk, calm, aCallK, aCall3K, subOf, subRep, aCall2K, apnd, bsMove, putBox, putOwn, partAV, mvL, AV.mv, AV.base, AV.moved, kBld, bldK, wrK, stK, AV.selfOk, AV.src, TI.flat, apSize, pickAV, St.val, St.cond, St.fn, St.next, St.set, St.trim, wipe_eq, wipeE_app, wipeM_app, pickEnv, get?, cGet, upd_app, withPuts, killAll, rm, freshP, Oper.hnd, Sc.st, ofConst, constOk, lenAV, elemLen, loadAV, ldL, ld1, fieldAddrAV, indexAddrAV, sliceAV, convAV, buildAV, fillAV, fieldAV, Out.of, binAV, AV.rows, AV.one, AV.cells, AV.deepOk, AV.toD, toDs, partRows, partRowsM, partsDeep, TK.zeroAV, TK.zeroD, byteOf, inR, Op.operands, Call.operands, passVs, passV, passL, pass1, passB, pasVs, pasV, pasL, pas1, ownsOk, okHs, okHs2, okFin, finOk2, rho, over, backRes, backAV, backAV1, backBlk, putBack, back2, back2_V, back2_1, m2, AV.wipe, AV.wipeV, AV.wipe1, Blk.wipe, AV.hs, AV.hs.hsL, alOps, Con.start2, Con.pk, bodyQ, fini, resAV, resA, firstId, Sc.from, renEnv, renT, renV, renVs, renL, ren1, renBox, renOwn, okRen, clOf, actB, setRow, flatRows, flatD, noInv, shr_nil, shr_some, kStepF_some, shareL, AV.viewed, AV.viewed1, cSeek, Con.fn, tTab, cConSeek]
  try dsimp only
  try simp +contextual [eStr, eFile, cast_succ, cast_eq, cast_zero, List.getElem?_eq_getElem, eStrs_set, eFiles_set, eStrs_rep, eFiles_rep, ← eStrs_append, ← eFiles_append, eStrs_take, eStrs_drop, eFiles_take, eFiles_drop, eStrs_snoc, eFiles_snoc, and_assoc, h4]
  repeat' (first | intro _ | apply And.intro)
  all_goals first | omega | grind [all_take, List.take_of_length_le]

def treeSeekI (t : List FileD) (w : Str) : List Str := if treeI t && nameB w then seekL (hitI w) t else []
theorem nameB_len {w : Str} (h : nameB w = true) : 1 ≤ w.length ∧ w.length ≤ 6 := by
  simp only [nameB, Bool.and_eq_true, decide_eq_true_eq] at h
  exact ⟨h.1.1, h.1.2⟩
def cSeekTreeI : Con := .fn 16 (List FileD × Str) (fun a => [.sl true 2 (eFiles a.1), .str a.2]) (fun a => (∀ f ∈ a.1, f.path.length ≤ 536870912) ∧ (∀ f ∈ a.1, ∀ q ∈ f.text, q.length ≤ 1099511627776)) (fun a => .own 8 1 (eStrs (treeSeekI a.1 a.2))) (fun a => ownStrs 8 (treeSeekI a.1 a.2))
set_option maxHeartbeats 4000000 in
theorem seekTreeI_has : Has Tryz.prog 16 cSeekTreeI := by
  refine has_walk mixed tTab_ok (l := [(50, cTreeOk), (45, cNameOk), (46, cSeek)]) (HasL.cons treeOk_has (HasL.cons nameOk_has (HasL.cons seek_has HasL.nil))) [0, 1, 4] ((fun a n (_ : Nat) => (fun _ => noInv) a n)) [] Tryz.func16 (by kernel_rfl) (code := _) (by unfold Tryz.f16; rfl) (by kernel_rfl) (by decide) (fun _ => ⟨(), trivial⟩) (by intro h; first | exact fun _ => rfl | cases h) (by kernel_rfl) ?_
  intro a ha
  obtain ⟨t, w⟩ := a
  obtain ⟨q0, q1⟩ : (∀ f ∈ t, f.path.length ≤ 536870912) ∧ (∀ f ∈ t, ∀ q ∈ f.text, q.length ≤ 1099511627776) := ha
  have h1 := treeI_le t
  have h2 := @nameB_len w
  simp -implicitDefEqProofs [vc_skip, extOf, vc_seq, vc_cond, vc_block, vc_exit, vc_ret, vc_region, vc_regionD, vc_loop, kSeq_normal, kSeq_ret, kSeq_exit, kBlock_normal, kBlock_ret, kBlock_exit, kLoop_normal, kLoop_ret, kLoop_exit, kCond_bool, kNorm_app, vcOps_nil, vcOps_cons, kOps_app, kStep_some, kStep_none, vcDL_nil, vcDL_cons, kOpsD_app, kStepD_true, kStepD_tt, kStepD_false, ldB, btys, btyAct, kStepC_some, kStepC_none, kMv_app, act3_store, act3_call, act3_bs, kAct_app, kSt2_app, stealSlots, stealL, stealOne, subIn, AV.stolen, act_store, act_bs, act_append, act_call, kSet_app, kSet2_app, kSetG_app, kSetG_app0, kStore_ptr, kStore_eptr, kCallW_some, kCallC_some, kCall_some, wk_T, wk_n, wk_keep, wk_inv, wk_act, wk_dr, wk_le, aCalm, wantC, dstOk, calm, aCallK, aCall3K, subOf, subRep, aCall2K, apnd, bsMove, putBox, putOwn, partAV, mvL, AV.mv, AV.base, AV.moved, kBld, bldK, wrK, stK, AV.selfOk, AV.src, TI.flat, apSize, pickAV, St.val, St.cond, St.fn, St.next, St.set, St.trim, wipe_eq, wipeE_app, wipeM_app, pickEnv, get?, cGet, upd_app, withPuts, killAll, rm, freshP, Oper.hnd, Sc.st, ofConst, constOk, lenAV, elemLen, loadAV, ldL, ld1, fieldAddrAV, indexAddrAV, sliceAV, convAV, buildAV, fillAV, fieldAV, Out.of, binAV, AV.rows, AV.one, AV.cells, AV.deepOk, AV.toD, toDs, partRows, partRowsM, partsDeep, TK.zeroAV, TK.zeroD, byteOf, inR, Op.operands, Call.operands, passVs, passV, passL, pass1, passB, pasVs, pasV, pasL, pas1, ownsOk, okHs, okHs2, okFin, finOk2, rho, over, backRes, backAV, backAV1, backBlk, putBack, back2, back2_V, back2_1, m2, AV.wipe, AV.wipeV, AV.wipe1, Blk.wipe, AV.hs, AV.hs.hsL, alOps, Con.start2, Con.pk, bodyQ, fini, resAV, resA, firstId, Sc.from, renEnv, renT, renV, renVs, renL, ren1, renBox, renOwn, okRen, clOf, actB, setRow, flatRows, flatD, noInv, shr_nil, shr_some, kStepF_some, shareL, AV.viewed, AV.viewed1, cSeekTreeI, Con.fn, tTab, cTreeOk, cNameOk, cSeek]
  try dsimp only
  try simp +contextual [eStr, eFile, cast_succ, cast_eq, cast_zero, List.getElem?_eq_getElem, eStrs_set, eFiles_set, eStrs_rep, eFiles_rep, ← eStrs_append, ← eFiles_append, eStrs_take, eStrs_drop, eFiles_take, eFiles_drop, eStrs_snoc, eFiles_snoc, and_assoc, treeSeekI, q0, q1]
  repeat' (first | intro _ | apply And.intro)
  all_goals first | omega | grind [all_take, treeSeekI]

end Vx
end Go.Proofs.YthmhaggmcfemnaaGreatDoor
/-
  Contracts: SeekTree (the reference's); both are the same.
-/
namespace Go.Proofs.YthmhaggmcfemnaaGreatDoor
namespace Vx
open Go.RowKit
set_option maxRecDepth 8000

def hasAt (w l : Str) (fr i : Nat) : Bool := hasP w (l.drop i) (pieceAt l fr i)
theorem hasAt_in {w l : Str} {fr i : Nat} (h : i < l.length) (hf : fr ≤ i) (hb : wordB (l.getD i 0).toNat = true) : hasAt w l fr i = hasAt w l fr (i + 1) := by
  unfold hasAt
  rw [getD_nat _ _ h] at hb
  rw [List.drop_eq_getElem_cons h, piece_step h hf]
  simp only [hasP, hb, if_true]
theorem hasAt_out {w l : Str} {fr i : Nat} (h : i < l.length) (hb : wordB (l.getD i 0).toNat = false) : hasAt w l fr i = (decide (pieceAt l fr i = w) || hasAt w l (i + 1) (i + 1)) := by
  unfold hasAt
  rw [getD_nat _ _ h] at hb
  rw [List.drop_eq_getElem_cons h, piece_zero]
  simp only [hasP, hb, Bool.false_eq_true, if_false]
theorem hasAt_end {w l : Str} {fr i : Nat} (h : l.length ≤ i) : hasAt w l fr i = decide (pieceAt l fr i = w) := by
  unfold hasAt
  rw [List.drop_eq_nil_of_le h]; rfl
def hasS (w l : Str) : Bool := hasP w l []
theorem hasAt_zero (w l : Str) : hasAt w l 0 0 = hasS w l := by simp [hasAt, hasS, piece_zero]
theorem wordB_num (n : Int) : wordB n = ((decide (97 ≤ n) && decide (n ≤ 122)) || (decide (48 ≤ n) && decide (n ≤ 57))) := rfl

def cL22Has : Con := .fn 49 (Str × Str) (fun a => [.str a.1, .str a.2]) (fun a => a.1.length ≤ 1099511627776) (fun a => .bool (hasS a.2 a.1)) (fun _ => [])
set_option maxHeartbeats 4000000 in
theorem l22Has_has : Has Tryz.prog 126 cL22Has := by
  refine has_walk mixed tTab_ok (l := []) HasL.nil [0, 1, 4, 5, 6] ((fun a n (_ : Nat) => (fun a _ => ⟨Nat × Nat, fun t => ⟨[(0, true, .str a.1), (1, true, .str a.2), (4, true, .bool false), (5, true, .int .i64 t.1), (6, true, .int .i64 t.2)], []⟩, fun t => t.1 ≤ t.2 ∧ t.2 ≤ a.1.length + 1 ∧ (t.2 ≤ a.1.length → hasAt a.2 a.1 t.1 t.2 = hasS a.2 a.1) ∧ (a.1.length < t.2 → hasS a.2 a.1 = false), fun t => a.1.length + 1 - t.2⟩) a n)) [] Tryz.func126 (by kernel_rfl) (code := _) (by unfold Tryz.f126; rfl) (by kernel_rfl) (by decide) (fun _ => ⟨(), trivial⟩) (by intro h; first | exact fun _ => rfl | cases h) (by kernel_rfl) ?_
  intro a ha
  obtain ⟨l, w⟩ := a
  replace ha : l.length ≤ 1099511627776 := ha
  have h0 := hasAt_zero w l
  simp -implicitDefEqProofs [vc_skip, extOf, vc_seq, vc_cond, vc_block, vc_exit, vc_ret, vc_region, vc_regionD, vc_loop, kSeq_normal, kSeq_ret, kSeq_exit, kBlock_normal, kBlock_ret, kBlock_exit, kLoop_normal, kLoop_ret, kLoop_exit, kCond_bool, kNorm_app, vcOps_nil, vcOps_cons, kOps_app, kStep_some, kStep_none, vcDL_nil, vcDL_cons, kOpsD_app, kStepD_true, kStepD_tt, kStepD_false, ldB, btys, btyAct, kStepC_some, kStepC_none, kMv_app, act3_store, act3_call, act3_bs, kAct_app, kSt2_app, stealSlots, stealL, stealOne, subIn, AV.stolen, act_store, act_bs, act_append, act_call, kSet_app, kSet2_app, kSetG_app, kSetG_app0, kStore_ptr, kStore_eptr, kCallW_some, kCallC_some, kCall_some, wk_T, wk_n, wk_keep, wk_inv, wk_act, wk_dr, wk_le, aCalm, wantC, dstOk, calm, aCallK, aCall3K, subOf, subRep, aCall2K, apnd, bsMove, putBox, putOwn, partAV, mvL, AV.mv, AV.base, AV.moved, kBld, bldK, wrK, stK, AV.selfOk, AV.src, TI.flat, apSize, pickAV, St.val, St.cond, St.fn, St.next, St.set, St.trim, wipe_eq, wipeE_app, wipeM_app, pickEnv, get?, cGet, upd_app, withPuts, killAll, rm, freshP, Oper.hnd, Sc.st, ofConst, constOk, lenAV, elemLen, loadAV, ldL, ld1, fieldAddrAV, indexAddrAV, sliceAV, convAV, buildAV, fillAV, fieldAV, Out.of, binAV, AV.rows, AV.one, AV.cells, AV.deepOk, AV.toD, toDs, partRows, partRowsM, partsDeep, TK.zeroAV, TK.zeroD, byteOf, inR, Op.operands, Call.operands, passVs, passV, passL, pass1, passB, pasVs, pasV, pasL, pas1, ownsOk, okHs, okHs2, okFin, finOk2, rho, over, backRes, backAV, backAV1, backBlk, putBack, back2, back2_V, back2_1, m2, AV.wipe, AV.wipeV, AV.wipe1, Blk.wipe, AV.hs, AV.hs.hsL, alOps, Con.start2, Con.pk, bodyQ, fini, resAV, resA, firstId, Sc.from, renEnv, renT, renV, renVs, renL, ren1, renBox, renOwn, okRen, clOf, actB, setRow, flatRows, flatD, noInv, shr_nil, shr_some, kStepF_some, shareL, AV.viewed, AV.viewed1, cL22Has, Con.fn, tTab]
  try dsimp only
  have hW : ∀ b : Nat, (wordB ((l[b]?.getD 0).toNat : Int) = true) = ((97 ≤ ((l[b]?.getD 0).toNat : Int) ∧ ((l[b]?.getD 0).toNat : Int) ≤ 122) ∨ (48 ≤ ((l[b]?.getD 0).toNat : Int) ∧ ((l[b]?.getD 0).toNat : Int) ≤ 57)) := fun b => by simp [wordB]
  have Kin : ∀ a b : Nat, a ≤ b → b < l.length → (b ≤ l.length → hasAt w l a b = hasS w l) → ((97 ≤ ((l[b]?.getD 0).toNat : Int) ∧ ((l[b]?.getD 0).toNat : Int) ≤ 122) ∨ (48 ≤ ((l[b]?.getD 0).toNat : Int) ∧ ((l[b]?.getD 0).toNat : Int) ≤ 57)) →
      ∃ x y : Nat, ((x : Int) = a ∧ (y : Int) = b + 1) ∧ (x ≤ y ∧ y ≤ l.length + 1 ∧ (y ≤ l.length → hasAt w l x y = hasS w l) ∧ (l.length < y → hasS w l = false)) ∧ l.length + 1 - y < l.length + 1 - b := by
    intro a b h1 h2 h3 h4
    rw [← hW] at h4
    refine ⟨a, b + 1, ⟨rfl, by omega⟩, ⟨by omega, by omega, fun _ => ?_, fun h => by omega⟩, by omega⟩
    rw [← h3 (by omega), ← hasAt_in h2 h1 (by rw [List.getD_eq_getElem?_getD]; exact h4)]
  have Kp : ∀ a b : Nat, (l.drop a).take (b - a) = pieceAt l a b := fun _ _ => rfl
  have Kout : ∀ a b : Nat, a ≤ b → b ≤ l.length → (b ≤ l.length → hasAt w l a b = hasS w l) → (b < l.length → ¬ ((97 ≤ ((l[b]?.getD 0).toNat : Int) ∧ ((l[b]?.getD 0).toNat : Int) ≤ 122) ∨ (48 ≤ ((l[b]?.getD 0).toNat : Int) ∧ ((l[b]?.getD 0).toNat : Int) ≤ 57))) →
      (pieceAt l a b = w → hasS w l = true) ∧ (¬ pieceAt l a b = w → ∃ x y : Nat, ((x : Int) = (b : Int) + 1 ∧ (y : Int) = b + 1) ∧ (x ≤ y ∧ y ≤ l.length + 1 ∧ (y ≤ l.length → hasAt w l x y = hasS w l) ∧ (l.length < y → hasS w l = false)) ∧ l.length + 1 - y < l.length + 1 - b) := by
    intro a b h1 h2 h3 h4
    have h3 := h3 h2
    by_cases hb : b < l.length
    · have h5 : wordB ((l.getD b 0).toNat : Int) = false := by
        have := h4 hb
        rw [← hW] at this
        rw [List.getD_eq_getElem?_getD]
        simpa using this
      rw [hasAt_out hb h5] at h3
      refine ⟨fun h => ?_, fun h => ⟨b + 1, b + 1, ⟨by omega, by omega⟩, ⟨by omega, by omega, fun _ => ?_, fun h => by omega⟩, by omega⟩⟩
      · rw [decide_eq_true h] at h3; exact h3.symm
      · rw [decide_eq_false h] at h3; exact h3
    · rw [hasAt_end (by omega)] at h3
      refine ⟨fun h => ?_, fun h => ⟨b + 1, b + 1, ⟨by omega, by omega⟩, ⟨by omega, by omega, fun _ => by omega, fun _ => ?_⟩, by omega⟩⟩
      · rw [decide_eq_true h] at h3; exact h3.symm
      · rw [decide_eq_false h] at h3; exact h3.symm
  refine ⟨⟨0, 0, ⟨rfl, rfl⟩, by omega, by omega, fun _ => h0, fun h => by omega⟩, ?_⟩
  intro a b hab hb h1 h2 _
  simp only [Kp]
  have k1 := Kin a b hab
  have k2 := Kout a b hab
  clear Kin Kout Kp hW h0
  refine ⟨fun hle _ => ?_, fun hgt => h2 (by omega)⟩
  have k2 := k2 hle h1
  rcases Nat.lt_or_ge b l.length with hlt | hge
  · have k1 := k1 hlt h1
    clear h1 h2
    generalize ((l[b]?.getD 0).toNat : Int) = n at *
    repeat' (first | intro _ | apply And.intro)
    all_goals first | omega | exact k1 (by omega) | exact (k2 (by omega)).1 (by assumption) | exact (k2 (by omega)).2 (by assumption)
  · have k2 := k2 (by omega)
    repeat' (first | intro _ | apply And.intro)
    all_goals first | omega | exact k2.1 (by assumption) | exact k2.2 (by assumption)

def anyHas (w : Str) (l : List Str) : Bool := l.any (hasS w)
def cL22Text : Con := .fn 18 (List Str × Str) (fun a => [.sl true 1 (eStrs a.1), .str a.2]) (fun a => ∀ q ∈ a.1, q.length ≤ 1099511627776) (fun a => .bool (anyHas a.2 a.1)) (fun _ => [])
set_option maxHeartbeats 4000000 in
theorem l22Text_has : Has Tryz.prog 94 cL22Text := by
  refine has_walk mixed tTab_ok (l := [(126, cL22Has)]) (HasL.cons l22Has_has HasL.nil) [0, 1, 4, 5] ((fun a n (_ : Nat) => (fun a _ => ⟨Nat, fun i => ⟨[(0, true, .sl true 1 (eStrs a.1)), (1, true, .str a.2), (4, true, .bool false), (5, true, .int .i64 i)], []⟩, fun i => i ≤ a.1.length ∧ ∀ x, x ∈ a.1.take i → hasS a.2 x = false, fun i => a.1.length - i⟩) a n)) [] Tryz.func94 (by kernel_rfl) (code := _) (by unfold Tryz.f94; rfl) (by kernel_rfl) (by decide) (fun _ => ⟨(), trivial⟩) (by intro h; first | exact fun _ => rfl | cases h) (by kernel_rfl) ?_
  intro a ha
  obtain ⟨l, w⟩ := a
  replace ha : ∀ q ∈ l, q.length ≤ 1099511627776 := ha
  have ha' : ∀ i (h : i < l.length), l[i].length ≤ 1099511627776 := fun i h => ha _ (List.getElem_mem h)
  have h3 := fun i => @take_step _ l i (fun y => hasS w y = false)
  have h1 : ∀ i (h : i < l.length), hasS w l[i] = true → anyHas w l = true := fun i h hp => by
    unfold anyHas; rw [List.any_eq_true]; exact ⟨_, List.getElem_mem h, hp⟩
  have h2 : ∀ i, l.length ≤ i → (∀ x, x ∈ l.take i → hasS w x = false) → anyHas w l = false := fun i h hb => by
    unfold anyHas; rw [List.any_eq_false]; rw [List.take_of_length_le h] at hb; intro x hx; rw [hb x hx]; simp
  simp -implicitDefEqProofs [vc_skip, extOf, vc_seq, vc_cond, vc_block, vc_exit, vc_ret, vc_region, vc_regionD, vc_loop, kSeq_normal, kSeq_ret, kSeq_exit, kBlock_normal, kBlock_ret, kBlock_exit, kLoop_normal, kLoop_ret, kLoop_exit, kCond_bool, kNorm_app, vcOps_nil, vcOps_cons, kOps_app, kStep_some, kStep_none, vcDL_nil, vcDL_cons, kOpsD_app, kStepD_true, kStepD_tt, kStepD_false, ldB, btys, btyAct, kStepC_some, kStepC_none, kMv_app, act3_store, act3_call, act3_bs, kAct_app, kSt2_app, stealSlots, stealL, stealOne, subIn, AV.stolen, act_store, act_bs, act_append, act_call, kSet_app, kSet2_app, kSetG_app, kSetG_app0, kStore_ptr, kStore_eptr, kCallW_some, kCallC_some, kCall_some, wk_T, wk_n, wk_keep, wk_inv, wk_act, wk_dr, wk_le, aCalm, wantC, dstOk, calm, aCallK, aCall3K, subOf, subRep, aCall2K, apnd, bsMove, putBox, putOwn, partAV, mvL, AV.mv, AV.base, AV.moved, kBld, bldK, wrK, stK, AV.selfOk, AV.src, TI.flat, apSize, pickAV, St.val, St.cond, St.fn, St.next, St.set, St.trim, wipe_eq, wipeE_app, wipeM_app, pickEnv, get?, cGet, upd_app, withPuts, killAll, rm, freshP, Oper.hnd, Sc.st, ofConst, constOk, lenAV, elemLen, loadAV, ldL, ld1, fieldAddrAV, indexAddrAV, sliceAV, convAV, buildAV, fillAV, fieldAV, Out.of, binAV, AV.rows, AV.one, AV.cells, AV.deepOk, AV.toD, toDs, partRows, partRowsM, partsDeep, TK.zeroAV, TK.zeroD, byteOf, inR, Op.operands, Call.operands, passVs, passV, passL, pass1, passB, pasVs, pasV, pasL, pas1, ownsOk, okHs, okHs2, okFin, finOk2, rho, over, backRes, backAV, backAV1, backBlk, putBack, back2, back2_V, back2_1, m2, AV.wipe, AV.wipeV, AV.wipe1, Blk.wipe, AV.hs, AV.hs.hsL, alOps, Con.start2, Con.pk, bodyQ, fini, resAV, resA, firstId, Sc.from, renEnv, renT, renV, renVs, renL, ren1, renBox, renOwn, okRen, clOf, actB, setRow, flatRows, flatD, noInv, shr_nil, shr_some, kStepF_some, shareL, AV.viewed, AV.viewed1, cL22Text, Con.fn, tTab, cL22Has]
  try dsimp only
  try simp +contextual [eStr, eFile, cast_succ, cast_eq, cast_zero, List.getElem?_eq_getElem, eStrs_set, eFiles_set, eStrs_rep, eFiles_rep, ← eStrs_append, ← eFiles_append, eStrs_take, eStrs_drop, eFiles_take, eFiles_drop, eStrs_snoc, eFiles_snoc, and_assoc]
  repeat' (first | intro _ | apply And.intro)
  all_goals first | omega | grind [all_take]

def hitS (w : Str) (f : FileD) : Bool := anyHas w f.text
def treeSeekS (t : List FileD) (w : Str) : List Str := if treeS t && nameB w then seekL (hitS w) t else []
def cSeekTreeS : Con := .fn 38 (List FileD × Str) (fun a => [.sl true 2 (eFiles a.1), .str a.2]) (fun a => ∀ f ∈ a.1, ∀ q ∈ f.text, q.length ≤ 1099511627776) (fun a => .own 8 1 (eStrs (treeSeekS a.1 a.2))) (fun a => ownStrs 8 (treeSeekS a.1 a.2))
set_option maxHeartbeats 4000000 in
theorem seekTreeS_has : Has Tryz.prog 49 cSeekTreeS := by
  refine has_walk mixed tTab_ok (l := [(93, cL4Ok), (48, cL4Name), (94, cL22Text)]) (HasL.cons l4Ok_has (HasL.cons l4Name_has (HasL.cons l22Text_has HasL.nil))) [0, 1, 4, 5, 6] ((fun a n (_ : Nat) => (fun a _ => ⟨Nat, fun i => ⟨[(0, true, .sl true 2 (eFiles a.1)), (1, true, .str a.2), (4, true, .nil), (5, true, .own 9 1 (eStrs (seekL (hitS a.2) (a.1.take i)))), (6, true, .int .i64 i)], [(9, .own 9 1 true (eStrs (seekL (hitS a.2) (a.1.take i))))]⟩, fun i => i ≤ a.1.length ∧ treeS a.1 = true ∧ nameB a.2 = true, fun i => a.1.length - i⟩) a n)) [] Tryz.func49 (by kernel_rfl) (code := _) (by unfold Tryz.f49; rfl) (by kernel_rfl) (by decide) (fun _ => ⟨(), trivial⟩) (by intro h; first | exact fun _ => rfl | cases h) (by kernel_rfl) ?_
  intro a ha
  obtain ⟨t, w⟩ := a
  replace ha : ∀ f ∈ t, ∀ q ∈ f.text, q.length ≤ 1099511627776 := ha
  have q1' : ∀ i (h : i < t.length), ∀ q ∈ t[i].text, q.length ≤ 1099511627776 := fun i h => ha _ (List.getElem_mem h)
  have q0 := treeS_le t
  have h1 := fun i => @seekL_hit (hitS w) t i
  have h2 := fun i => @seekL_miss (hitS w) t i
  have h3 := fun i => seekL_le (hitS w) (t.take i)
  have h4 : seekL (hitS w) [] = [] := rfl
  have h5 : ∀ i (h : i < t.length), anyHas w t[i].text = hitS w t[i] := fun _ _ => rfl
  simp -implicitDefEqProofs [vc_skip, extOf, vc_seq, vc_cond, vc_block, vc_exit, vc_ret, vc_region, vc_regionD, vc_loop, kSeq_normal, kSeq_ret, kSeq_exit, kBlock_normal, kBlock_ret, kBlock_exit, kLoop_normal, kLoop_ret, kLoop_exit, kCond_bool, kNorm_app, vcOps_nil, vcOps_cons, kOps_app, kStep_some, kStep_none, vcDL_nil, vcDL_cons, kOpsD_app, kStepD_true, kStepD_tt, kStepD_false, ldB, btys, btyAct, kStepC_some, kStepC_none, kMv_app, act3_store, act3_call, act3_bs, kAct_app, kSt2_app, stealSlots, stealL, stealOne, subIn, AV.stolen, act_store, act_bs, act_append, act_call, kSet_app, kSet2_app, kSetG_app, kSetG_app0, kStore_ptr, kStore_eptr, kCallW_some, kCallC_some, kCall_some, wk_T, wk_n, wk_keep, wk_inv, wk_act, wk_dr, wk_le, aCalm, wantC, dstOk, calm, aCallK, aCall3K, subOf, subRep, aCall2K, apnd, bsMove, putBox, putOwn, partAV, mvL, AV.mv, AV.base, AV.moved, kBld, bldK, wrK, stK, AV.selfOk, AV.src, TI.flat, apSize, pickAV, St.val, St.cond, St.fn, St.next, St.set, St.trim, wipe_eq, wipeE_app, wipeM_app, pickEnv, get?, cGet, upd_app, withPuts, killAll, rm, freshP, Oper.hnd, Sc.st, ofConst, constOk, lenAV, elemLen, loadAV, ldL, ld1, fieldAddrAV, indexAddrAV, sliceAV, convAV, buildAV, fillAV, fieldAV, Out.of, binAV, AV.rows, AV.one, AV.cells, AV.deepOk, AV.toD, toDs, partRows, partRowsM, partsDeep, TK.zeroAV, TK.zeroD, byteOf, inR, Op.operands, Call.operands, passVs, passV, passL, pass1, passB, pasVs, pasV, pasL, pas1, ownsOk, okHs, okHs2, okFin, finOk2, rho, over, backRes, backAV, backAV1, backBlk, putBack, back2, back2_V, back2_1, m2, AV.wipe, AV.wipeV, AV.wipe1, Blk.wipe, AV.hs, AV.hs.hsL, alOps, Con.start2, Con.pk, bodyQ, fini, resAV, resA, firstId, Sc.from, renEnv, renT, renV, renVs, renL, ren1, renBox, renOwn, okRen, clOf, actB, setRow, flatRows, flatD, noInv, shr_nil, shr_some, kStepF_some, shareL, AV.viewed, AV.viewed1, cSeekTreeS, Con.fn, tTab, cL4Ok, cL4Name, cL22Text]
  try dsimp only
  try simp +contextual [eStr, eFile, cast_succ, cast_eq, cast_zero, List.getElem?_eq_getElem, eStrs_set, eFiles_set, eStrs_rep, eFiles_rep, ← eStrs_append, ← eFiles_append, eStrs_take, eStrs_drop, eFiles_take, eFiles_drop, eStrs_snoc, eFiles_snoc, and_assoc, h4, treeSeekS]
  repeat' (first | intro _ | apply And.intro)
  all_goals first | omega | grind [all_take, treeSeekS, List.take_of_length_le]

theorem seek_eq (t : List FileD) (w : Str) : treeSeekI t w = treeSeekS t w := by
  unfold treeSeekI treeSeekS
  rw [tree_eq]
  by_cases h : nameB w = true
  · have hw : ∀ x ∈ w, wordB x.toNat = true := by
      simp only [nameB, Bool.and_eq_true, List.all_eq_true] at h
      exact h.2
    have : hitI w = hitS w := by
      funext f
      unfold hitI hitS anyOcc anyHas
      congr 1
      funext l
      have := has_occ (w := w) hw (r := l) (c := []) (by simp)
      unfold hasS
      rw [this]; rfl
    rw [this]
  · simp [h]

end Vx
end Go.Proofs.YthmhaggmcfemnaaGreatDoor
/-
  Contracts: marks in trees; the law FnExactSeekTree.
-/
namespace Go.Proofs.YthmhaggmcfemnaaGreatDoor
namespace Vx
open Go.RowKit
set_option maxRecDepth 8000

def kE (l : List FileD) (k : Int) : Int := k + l.length + nLines l
def markFs (t : List FileD) (k : Int) : List FileD := (List.range t.length).map fun i : Nat => ⟨markS (kE (t.take i) k), markL (t.getD i default).text.length (kE (t.take i) k + 1)⟩
theorem markFs_len (t : List FileD) (k : Int) : (markFs t k).length = t.length := by simp [markFs]
def mFA (t : List FileD) (k : Int) (i : Nat) : List FileD := (markFs t k).take i ++ t.drop i
theorem mFA_len {t : List FileD} {k : Int} {i : Nat} (h : i ≤ t.length) : (mFA t k i).length = t.length := by simp [mFA, markFs_len]; omega
theorem mFA_zero (t : List FileD) (k : Int) : mFA t k 0 = t := by simp [mFA]
theorem mFA_end {t : List FileD} {k : Int} {i : Nat} (h : t.length ≤ i) : mFA t k i = markFs t k := by
  unfold mFA
  rw [List.take_of_length_le (by rw [markFs_len]; exact h), List.drop_eq_nil_of_le h, List.append_nil]
theorem mFA_get {t : List FileD} {k : Int} {i : Nat} (h : i < t.length) : (mFA t k i)[i]? = some t[i] := by
  unfold mFA
  rw [List.getElem?_append_right (by simp [markFs_len]; omega), List.length_take, markFs_len, Nat.min_eq_left (by omega), Nat.sub_self, List.drop_eq_getElem_cons h]
  rfl
theorem mFA_set {t : List FileD} {k : Int} {i : Nat} (h : i < t.length) : (mFA t k i).set i ⟨markS (kE (t.take i) k), markL t[i].text.length (kE (t.take i) k + 1)⟩ = mFA t k (i + 1) := by
  unfold mFA
  have hl : i < (markFs t k).length := by rw [markFs_len]; exact h
  have hx : (markFs t k)[i] = ⟨markS (kE (t.take i) k), markL t[i].text.length (kE (t.take i) k + 1)⟩ := by simp [markFs, h]
  rw [List.set_append_right _ _ (by simp [markFs_len]; omega), List.length_take, markFs_len, Nat.min_eq_left (by omega), Nat.sub_self, List.drop_eq_getElem_cons h, List.set_cons_zero, List.take_succ_eq_append_getElem hl, hx]
  simp
theorem kE_step {t : List FileD} {k : Int} {i : Nat} (h : i < t.length) : kE (t.take (i + 1)) k = kE (t.take i) k + 1 + t[i].text.length := by
  unfold kE
  rw [nLines_take _ _ h]
  simp; omega
theorem kE_le {t : List FileD} {k : Int} (i : Nat) : k ≤ kE (t.take i) k ∧ kE (t.take i) k ≤ kE t k := by
  have h1 : nLines (t.take i) ≤ nLines t := by
    have : nLines t = nLines (t.take i) + nLines (t.drop i) := by
      unfold nLines
      rw [← List.sum_append, ← List.map_append, List.take_append_drop]
    omega
  have h2 : (t.take i).length ≤ t.length := by simp; omega
  unfold kE
  omega
theorem kE_zero (k : Int) : kE [] k = k := by simp [kE, nLines]

def cMarkFileS : Con := { A := List FileD × Int, X := Unit, n := 28, args := fun a => [.own 0 2 (eFiles a.1), .int .i64 a.2], boxes := fun _ => [], pre := fun a => 0 ≤ a.2 ∧ kE a.1 a.2 ≤ 1152921504606846976, post := fun _ _ => True, res := fun a _ => .int .i64 (kE a.1 a.2), fin := fun a _ => [(0, .own 106 2 true (eFiles (markFs a.1 a.2)))], owns := fun a => [(0, 106, 2, eFiles a.1)], lends := [0], mv := true, sube := 106 }
set_option maxHeartbeats 4000000 in
theorem markFileS_has : Has Tryz.prog 115 cMarkFileS := by
  refine has_walk mixed tTab_ok (l := [(114, cMarkText), (140, cMarkStringS)]) (HasL.cons markText_has (HasL.cons markStringS_has HasL.nil)) [0, 1, 4, 5] ((fun a n (_ : Nat) => (fun a _ => ⟨Nat, fun i => ⟨[(0, true, .own 0 2 (eFiles (mFA a.1 a.2 i))), (1, true, .int .i64 (kE (a.1.take i) a.2)), (4, true, .int .i64 0), (5, true, .int .i64 i)], [(0, .own 106 2 true (eFiles (mFA a.1 a.2 i)))]⟩, fun i => i ≤ a.1.length, fun i => a.1.length - i⟩) a n)) [] Tryz.func115 (by kernel_rfl) (code := _) (by unfold Tryz.f115; rfl) (by kernel_rfl) (by decide) (fun _ => ⟨(), trivial⟩) (by intro h; first | exact fun _ => rfl | cases h) (by kernel_rfl) ?_
  intro a ha
  obtain ⟨t, k⟩ := a
  obtain ⟨q1, q2⟩ : 0 ≤ k ∧ kE t k ≤ 1152921504606846976 := ha
  have e1 := fun i => @mFA_len t k i
  have e2 := fun i => @mFA_set t k i
  have e3 := mFA_zero t k
  have e4 := fun i => @mFA_end t k i
  have e5 := fun i => @mFA_get t k i
  have e6 := fun i => @kE_step t k i
  have e7 := fun i => @kE_le t k i
  have e8 := kE_zero k
  simp -implicitDefEqProofs [vc_skip, extOf, vc_seq, vc_cond, vc_block, vc_exit, vc_ret, vc_region, vc_regionD, vc_loop, kSeq_normal, kSeq_ret, kSeq_exit, kBlock_normal, kBlock_ret, kBlock_exit, kLoop_normal, kLoop_ret, kLoop_exit, kCond_bool, kNorm_app, vcOps_nil, vcOps_cons, kOps_app, kStep_some, kStep_none, vcDL_nil, vcDL_cons, kOpsD_app, kStepD_true, kStepD_tt, kStepD_false, ldB, btys, btyAct, kStepC_some, kStepC_none, kMv_app, act3_store, act3_call, act3_bs, kAct_app, kSt2_app, stealSlots, stealL, stealOne, subIn, AV.stolen, act_store, act_bs, act_append, act_call, kSet_app, kSet2_app, kSetG_app, kSetG_app0, kStore_ptr, kStore_eptr, kCallW_some, kCallC_some, kCall_some, wk_T, wk_n, wk_keep, wk_inv, wk_act, wk_dr, wk_le, aCalm, wantC, dstOk, calm, aCallK, aCall3K, subOf, subRep, aCall2K, apnd, bsMove, putBox, putOwn, partAV, mvL, AV.mv, AV.base, AV.moved, kBld, bldK, wrK, stK, AV.selfOk, AV.src, TI.flat, apSize, pickAV, St.val, St.cond, St.fn, St.next, St.set, St.trim, wipe_eq, wipeE_app, wipeM_app, pickEnv, get?, cGet, upd_app, withPuts, killAll, rm, freshP, Oper.hnd, Sc.st, ofConst, constOk, lenAV, elemLen, loadAV, ldL, ld1, fieldAddrAV, indexAddrAV, sliceAV, convAV, buildAV, fillAV, fieldAV, Out.of, binAV, AV.rows, AV.one, AV.cells, AV.deepOk, AV.toD, toDs, partRows, partRowsM, partsDeep, TK.zeroAV, TK.zeroD, byteOf, inR, Op.operands, Call.operands, passVs, passV, passL, pass1, passB, pasVs, pasV, pasL, pas1, ownsOk, okHs, okHs2, okFin, finOk2, rho, over, backRes, backAV, backAV1, backBlk, putBack, back2, back2_V, back2_1, m2, AV.wipe, AV.wipeV, AV.wipe1, Blk.wipe, AV.hs, AV.hs.hsL, alOps, Con.start2, Con.pk, bodyQ, fini, resAV, resA, firstId, Sc.from, renEnv, renT, renV, renVs, renL, ren1, renBox, renOwn, okRen, clOf, actB, setRow, flatRows, flatD, noInv, shr_nil, shr_some, kStepF_some, shareL, AV.viewed, AV.viewed1, cMarkFileS, Con.fn, tTab, cMarkText, cMarkStringS, e3, e8]
  try dsimp only
  refine ⟨⟨0, by simp [e3, e8]⟩, fun i hi _ => ⟨fun hlt => ?_, fun hge => ?_⟩⟩
  · have hlt' : i < t.length := by rw [e1 i hi] at hlt; exact hlt
    have g1 := e5 i hlt'
    have g2 : ∀ r, ((eFiles (mFA t k i)).set i r)[i]? = some r := fun r => by
      rw [List.getElem?_set_self (by rw [eFiles_length]; exact hlt)]
    have g3 := e7 i
    have g4 := e6 i hlt'
    have g5 := e7 (i + 1)
    have g6 : (eFiles (mFA t k i)).set i [D.str (markS (kE (t.take i) k)), D.sl 9 1 (eStrs (markL t[i].text.length (kE (t.take i) k + 1)))] = eFiles (mFA t k (i + 1)) := by
      rw [← e2 i hlt', eFiles_set]
    have g7 := e1 (i + 1) (by omega)
    have g8 : (mFA t k i)[i] = t[i] := by rw [List.getElem?_eq_getElem hlt] at g1; exact Option.some.inj g1
    simp [g1, g2, eFile, D.asRows, e1 i hi, hlt', hlt, and_assoc]
    rw [g8]
    exact ⟨by omega, by omega, by omega, fun _ _ => ⟨by omega, by omega, by omega, by omega, fun _ _ => ⟨i + 1, g6.symm, by omega, by omega, g6, by omega, by omega⟩⟩⟩
  · rw [e1 i hi] at hge
    rw [e4 i hge, List.take_of_length_le hge]
    exact ⟨rfl, rfl⟩

theorem nLines_bd {B : Nat} (t : List FileD) (h : ∀ f ∈ t, f.text.length ≤ B) : nLines t ≤ B * t.length := by
  induction t with
  | nil => simp [nLines]
  | cons f r ih =>
    have h1 := h f (by simp)
    have h2 := ih (fun g hg => h g (by simp [hg]))
    simp [nLines, Nat.mul_add] at h2 ⊢
    omega
theorem held_mark (n : Nat) (k : Int) : heldL (markL n k) k = k + n := by
  unfold heldL
  rw [markL_len, if_pos rfl]

end Vx
end Go.Proofs.YthmhaggmcfemnaaGreatDoor
/-
  Contracts: copies of trees; ViewOf, both sides.
-/
namespace Go.Proofs.YthmhaggmcfemnaaGreatDoor
namespace Vx
open Go.RowKit
set_option maxRecDepth 8000

theorem eStrs_str {l : List Str} {x : List D} {d : D} (h : x ∈ eStrs l) (h' : d ∈ x) : ∃ s, d = D.str s := by
  simp only [eStrs, List.mem_map] at h
  obtain ⟨s, _, rfl⟩ := h
  simp only [eStr, List.mem_singleton] at h'
  exact ⟨s, h'⟩

def cCopyText : Con := .fn 6 (List Str) (fun a => [.sl true 1 (eStrs a)]) (fun a => a.length ≤ 1048576) (fun a => .own 8 1 (eStrs a)) (fun a => ownStrs 8 a)
set_option maxHeartbeats 4000000 in
theorem copyText_has : Has Tryz.prog 107 cCopyText := by
  refine has_walk mixed tTab_ok (l := []) HasL.nil [0, 2] ((fun a n (_ : Nat) => (fun _ => noInv) a n)) [] Tryz.func107 (by kernel_rfl) (code := _) (by unfold Tryz.f107; rfl) (by kernel_rfl) (by decide) (fun _ => ⟨(), trivial⟩) (by intro h; first | exact fun _ => rfl | cases h) (by kernel_rfl) ?_
  intro (a : List Str) ha
  replace ha : a.length ≤ 1048576 := ha
  simp -implicitDefEqProofs [vc_skip, extOf, vc_seq, vc_cond, vc_block, vc_exit, vc_ret, vc_region, vc_regionD, vc_loop, kSeq_normal, kSeq_ret, kSeq_exit, kBlock_normal, kBlock_ret, kBlock_exit, kLoop_normal, kLoop_ret, kLoop_exit, kCond_bool, kNorm_app, vcOps_nil, vcOps_cons, kOps_app, kStep_some, kStep_none, vcDL_nil, vcDL_cons, kOpsD_app, kStepD_true, kStepD_tt, kStepD_false, ldB, btys, btyAct, kStepC_some, kStepC_none, kMv_app, act3_store, act3_call, act3_bs, kAct_app, kSt2_app, stealSlots, stealL, stealOne, subIn, AV.stolen, act_store, act_bs, act_append, act_call, kSet_app, kSet2_app, kSetG_app, kSetG_app0, kStore_ptr, kStore_eptr, kCallW_some, kCallC_some, kCall_some, wk_T, wk_n, wk_keep, wk_inv, wk_act, wk_dr, wk_le, aCalm, wantC, dstOk, calm, aCallK, aCall3K, subOf, subRep, aCall2K, apnd, bsMove, putBox, putOwn, partAV, mvL, AV.mv, AV.base, AV.moved, kBld, bldK, wrK, stK, AV.selfOk, AV.src, TI.flat, apSize, pickAV, St.val, St.cond, St.fn, St.next, St.set, St.trim, wipe_eq, wipeE_app, wipeM_app, pickEnv, get?, cGet, upd_app, withPuts, killAll, rm, freshP, Oper.hnd, Sc.st, ofConst, constOk, lenAV, elemLen, loadAV, ldL, ld1, fieldAddrAV, indexAddrAV, sliceAV, convAV, buildAV, fillAV, fieldAV, Out.of, binAV, AV.rows, AV.one, AV.cells, AV.deepOk, AV.toD, toDs, partRows, partRowsM, partsDeep, TK.zeroAV, TK.zeroD, byteOf, inR, Op.operands, Call.operands, passVs, passV, passL, pass1, passB, pasVs, pasV, pasL, pas1, ownsOk, okHs, okHs2, okFin, finOk2, rho, over, backRes, backAV, backAV1, backBlk, putBack, back2, back2_V, back2_1, m2, AV.wipe, AV.wipeV, AV.wipe1, Blk.wipe, AV.hs, AV.hs.hsL, alOps, Con.start2, Con.pk, bodyQ, fini, resAV, resA, firstId, Sc.from, renEnv, renT, renV, renVs, renL, ren1, renBox, renOwn, okRen, clOf, actB, setRow, flatRows, flatD, noInv, shr_nil, shr_some, kStepF_some, shareL, AV.viewed, AV.viewed1, cCopyText, Con.fn, tTab]
  try dsimp only
  try simp +contextual [eStr, eFile, cast_succ, cast_eq, cast_zero, List.getElem?_eq_getElem, eStrs_set, eFiles_set, eStrs_rep, eFiles_rep, ← eStrs_append, ← eFiles_append, eStrs_take, eStrs_drop, eFiles_take, eFiles_drop, eStrs_snoc, eFiles_snoc, and_assoc]
  repeat' (first | intro _ | apply And.intro)
  all_goals first | omega | grind [all_take, eStrs_str]

def cL4Copy : Con := .fn 29 (List FileD) (fun a => [.sl true 2 (eFiles a)]) (fun a => a.length ≤ 1048576 ∧ ∀ f ∈ a, f.text.length ≤ 1048576) (fun a => .own 8 2 (eFiles a)) (fun a => ownFiles 8 a)
set_option maxHeartbeats 4000000 in
theorem l4Copy_has : Has Tryz.prog 162 cL4Copy := by
  refine has_walk mixed tTab_ok (l := []) HasL.nil [0, 2, 3, 4] ((fun a n (_ : Nat) => (fun a _ => ⟨Nat, fun i => ⟨[(0, true, .sl true 2 (eFiles a)), (2, true, .nil), (3, true, .own 9 2 (eFiles (a.take i))), (4, true, .int .i64 i)], ownFiles 9 (a.take i)⟩, fun i => i ≤ a.length, fun i => a.length - i⟩) a n)) [26] Tryz.func162 (by kernel_rfl) (code := _) (by unfold Tryz.f162; rfl) (by kernel_rfl) (by decide) (fun _ => ⟨(), trivial⟩) (by intro h; first | exact fun _ => rfl | cases h) (by kernel_rfl) ?_
  intro (a : List FileD) ha
  obtain ⟨h1, h2⟩ : a.length ≤ 1048576 ∧ ∀ f ∈ a, f.text.length ≤ 1048576 := ha
  have h3 : ∀ i (h : i < a.length), a[i].text.length ≤ 1048576 := fun i h => h2 _ (List.getElem_mem h)
  simp -implicitDefEqProofs [vc_skip, extOf, vc_seq, vc_cond, vc_block, vc_exit, vc_ret, vc_region, vc_regionD, vc_loop, kSeq_normal, kSeq_ret, kSeq_exit, kBlock_normal, kBlock_ret, kBlock_exit, kLoop_normal, kLoop_ret, kLoop_exit, kCond_bool, kNorm_app, vcOps_nil, vcOps_cons, kOps_app, kStep_some, kStep_none, vcDL_nil, vcDL_cons, kOpsD_app, kStepD_true, kStepD_tt, kStepD_false, ldB, btys, btyAct, kStepC_some, kStepC_none, kMv_app, act3_store, act3_call, act3_bs, kAct_app, kSt2_app, stealSlots, stealL, stealOne, subIn, AV.stolen, act_store, act_bs, act_append, act_call, kSet_app, kSet2_app, kSetG_app, kSetG_app0, kStore_ptr, kStore_eptr, kCallW_some, kCallC_some, kCall_some, wk_T, wk_n, wk_keep, wk_inv, wk_act, wk_dr, wk_le, aCalm, wantC, dstOk, calm, aCallK, aCall3K, subOf, subRep, aCall2K, apnd, bsMove, putBox, putOwn, partAV, mvL, AV.mv, AV.base, AV.moved, kBld, bldK, wrK, stK, AV.selfOk, AV.src, TI.flat, apSize, pickAV, St.val, St.cond, St.fn, St.next, St.set, St.trim, wipe_eq, wipeE_app, wipeM_app, pickEnv, get?, cGet, upd_app, withPuts, killAll, rm, freshP, Oper.hnd, Sc.st, ofConst, constOk, lenAV, elemLen, loadAV, ldL, ld1, fieldAddrAV, indexAddrAV, sliceAV, convAV, buildAV, fillAV, fieldAV, Out.of, binAV, AV.rows, AV.one, AV.cells, AV.deepOk, AV.toD, toDs, partRows, partRowsM, partsDeep, TK.zeroAV, TK.zeroD, byteOf, inR, Op.operands, Call.operands, passVs, passV, passL, pass1, passB, pasVs, pasV, pasL, pas1, ownsOk, okHs, okHs2, okFin, finOk2, rho, over, backRes, backAV, backAV1, backBlk, putBack, back2, back2_V, back2_1, m2, AV.wipe, AV.wipeV, AV.wipe1, Blk.wipe, AV.hs, AV.hs.hsL, alOps, Con.start2, Con.pk, bodyQ, fini, resAV, resA, firstId, Sc.from, renEnv, renT, renV, renVs, renL, ren1, renBox, renOwn, okRen, clOf, actB, setRow, flatRows, flatD, noInv, shr_nil, shr_some, kStepF_some, shareL, AV.viewed, AV.viewed1, cL4Copy, Con.fn, tTab]
  try dsimp only
  try simp +contextual [eStr, eFile, cast_succ, cast_eq, cast_zero, List.getElem?_eq_getElem, eStrs_set, eFiles_set, eStrs_rep, eFiles_rep, ← eStrs_append, ← eFiles_append, eStrs_take, eStrs_drop, eFiles_take, eFiles_drop, eStrs_snoc, eFiles_snoc, and_assoc, ← FileD.eq_iff]
  repeat' (first | intro _ | apply And.intro)
  all_goals first | omega | grind [all_take, eStrs_str, List.take_of_length_le, List.take_succ_eq_append_getElem]

def filB (p : FileD → Bool) (t : List FileD) : List FileD := t.filter p
theorem fil_hit {p : FileD → Bool} {t : List FileD} {i : Nat} (h : i < t.length) (hp : p t[i] = true) : filB p (t.take (i + 1)) = filB p (t.take i) ++ [t[i]] := by
  unfold filB
  rw [take_succ' h, List.filter_append]
  simp [List.filter_cons, hp]
theorem fil_miss {p : FileD → Bool} {t : List FileD} {i : Nat} (h : i < t.length) (hp : p t[i] = false) : filB p (t.take (i + 1)) = filB p (t.take i) := by
  unfold filB
  rw [take_succ' h, List.filter_append]
  simp [List.filter_cons, hp]
theorem fil_le (p : FileD → Bool) (t : List FileD) (i : Nat) : (filB p (t.take i)).length ≤ i := by
  have := List.length_filter_le p (t.take i)
  unfold filB
  simp at this; omega
theorem fil_nil (p : FileD → Bool) : filB p [] = [] := rfl

/-- A copy whose texts have gone, where p holds, ahead of i. -/
def goneR (p : FileD → Bool) (t : List FileD) (i : Nat) : List (List D) := (t.take i).map (fun f => if p f then [.str f.path, .junk] else eFile f) ++ eFiles (t.drop i)
theorem goneR_len (p : FileD → Bool) (t : List FileD) (i : Nat) : (goneR p t i).length = t.length := by simp [goneR]; omega
theorem goneR_zero (p : FileD → Bool) (t : List FileD) : goneR p t 0 = eFiles t := by simp [goneR]
theorem goneR_get {p : FileD → Bool} {t : List FileD} {i : Nat} (h : i < t.length) : (goneR p t i)[i]? = some (eFile t[i]) := by
  unfold goneR
  rw [List.getElem?_append_right (by simp; omega), List.length_map, List.length_take, Nat.min_eq_left (by omega), Nat.sub_self, eFiles_get, List.drop_eq_getElem_cons h]
  rfl
theorem goneR_miss {p : FileD → Bool} {t : List FileD} {i : Nat} (h : i < t.length) (hp : p t[i] = false) : goneR p t (i + 1) = goneR p t i := by
  unfold goneR
  rw [take_succ' h, List.map_append, List.drop_eq_getElem_cons h]
  simp only [List.map_cons, List.map_nil, hp, Bool.false_eq_true, if_false, eFiles, List.append_assoc, List.cons_append, List.nil_append]
theorem goneR_hit {p : FileD → Bool} {t : List FileD} {i : Nat} (h : i < t.length) (hp : p t[i] = true) : (goneR p t i).set i [.str t[i].path, .junk] = goneR p t (i + 1) := by
  unfold goneR
  rw [take_succ' h, List.map_append]
  rw [List.set_append_right _ _ (by simp; omega), List.length_map, List.length_take, Nat.min_eq_left (by omega), Nat.sub_self, List.drop_eq_getElem_cons h]
  simp only [List.map_cons, List.map_nil, hp, if_true, eFiles, List.append_assoc, List.cons_append, List.nil_append, List.set_cons_zero]

def viewOfI (t : List FileD) (l : List Str) : List FileD := if treeI t && viewI l then filB (fun f => visB f l) t else []
end Vx
end Go.Proofs.YthmhaggmcfemnaaGreatDoor
