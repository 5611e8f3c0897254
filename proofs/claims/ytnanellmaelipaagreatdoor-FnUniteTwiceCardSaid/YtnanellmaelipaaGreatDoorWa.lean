/-
  Joined by program (merge.py): Base, RowK, Rep, Ea, RowY, RowG, Ca, Cb, Cc, Ce, Cd, Cf, Cg, Ch, Ci, Cj, Lib, Ck, Cl, Pa, Cm, LawA, Cn, Co, Cp, Cq, Cr, Cs, Ct, Ec, Eb, Ef, Cu, Dd, De, La, Lf, Lg, Ma, Md, Mk, Df, Ha, Ia, Ib, Ic, Db, Lb, Lc, Ld, Ed, Mb, Mf. It shows what the single texts show; conditions: none but those of each lemma.
-/
import Derived.Test.YtnanellmaelipaaGreatDoorVc
import Derived.Test.YtnanellmaelipaaGreatDoorProg
import Derived.KernelRfl
import Derived.Test.YtnanellmaelipaaGreatDoorRows
import Derived.Test.YtnanellmaelipaaGreatDoorCards
import Derived.Test.YtnanellmaelipaaGreatDoorTie
import Derived.ProofKit
import Derived.OpenShut
import Derived.ShutString
import Derived.Lay
import Derived.LaidMore
import Derived.SevenTiedAt
import Derived.Lib.Walk
import Derived.Lib.Strings
import Derived.Lib.Bytealg
import Derived.Handy
set_option linter.unusedVariables false
set_option linter.unusedSimpArgs false
set_option linter.unusedSectionVars false
namespace Go.Proofs.YtnanellmaelipaaGreatDoor
open Vx
namespace Vx
def tTab : List (Nat × TI) := [
(3, ⟨false, [.int .i64], 8, [], 0⟩),
(4, ⟨false, [.bool], 1, [], 0⟩),
(9, ⟨false, [.str], 16, [], 0⟩),
(57, ⟨false, [.sl 9 1], 24, [], 9⟩),
(22, ⟨false, [.sl 5 1], 24, [], 5⟩),
(240, ⟨true, [.str, .sl 9 1], 40, [(9, 0), (57, 1)], 0⟩),
(61, ⟨true, [.str, .sl 9 1], 40, [(9, 0), (57, 1)], 0⟩),
(186, ⟨false, [.sl 240 2], 24, [], 240⟩),
(54, ⟨false, [.sl 61 2], 24, [], 61⟩),
(35, ⟨false, [.sl 3 1], 24, [], 3⟩),
(190, ⟨true, [.str, .int .i64], 24, [(9, 0), (3, 1)], 1⟩),
(34, ⟨true, [.str, .int .i64], 24, [(9, 0), (3, 1)], 1⟩),
(86, ⟨false, [.sl 190 2], 24, [], 190⟩),
(24, ⟨false, [.sl 34 2], 24, [], 34⟩),
(188, ⟨true, [.sl 3 1, .str, .sl 240 2], 64, [(35, 0), (9, 1), (186, 2)], 0⟩),
(56, ⟨true, [.sl 3 1, .str, .sl 61 2], 64, [(35, 0), (9, 1), (54, 2)], 0⟩),
(85, ⟨false, [.sl 188 3], 24, [], 188⟩),
(23, ⟨false, [.sl 56 3], 24, [], 56⟩),
(88, ⟨true, [.sl 188 3, .sl 190 2], 48, [(85, 0), (86, 1)], 0⟩),
(26, ⟨true, [.sl 56 3, .sl 34 2], 48, [(23, 0), (24, 1)], 0⟩),
(157, ⟨true, [.sl 5 1, .int .i64], 32, [(22, 0), (3, 1)], 0⟩),
(219, ⟨true, [.int .i64, .str, .str, .str, .str, .int .i64, .sl 9 1], 104, [(3, 0), (9, 1), (9, 2), (9, 3), (9, 4), (3, 5), (57, 6)], 0⟩),
(197, ⟨false, [.sl 219 7], 24, [], 219⟩),
(211, ⟨true, [.str, .int .i64], 24, [(9, 0), (3, 1)], 1⟩),
(180, ⟨false, [.sl 211 2], 24, [], 211⟩),
(270, ⟨true, [.bool, .sl 9 1, .sl 9 1, .sl 9 1, .sl 9 1], 104, [(4, 0), (57, 1), (57, 2), (57, 3), (57, 4)], 0⟩),
(266, ⟨false, [.sl 270 5], 24, [], 270⟩),
(125, ⟨false, [.sl 35 1], 24, [], 35⟩),
  (5, ⟨false, [.int .u8], 1, [], 0⟩)]
theorem tTab_ok : ∀ t ti, get? tTab t = some ti → TOk Tryz.prog t ti := tabChk_ok (by kernel_rfl)
theorem mixed : Tryz.prog.follows .mixedOrders = true := by kernel_rfl
def noInv : Nat → Inv := fun _ => ⟨Unit, fun _ => ⟨[], []⟩, fun _ => True, fun _ => 0⟩
theorem upd_app {α : Type} (f : Nat → α) (d : Nat) (v : α) (h : Nat) : upd f d v h = if h = d then v else f h := rfl
def wipeE (e : Nat → Option (Bool × AV)) (m : Nat → Option Blk) : Nat → Option (Bool × AV) := fun t => (e t).map fun p => (p.1, p.2.wipe m)
def wipeM (m : Nat → Option Blk) : Nat → Option Blk := fun h => (m h).map (Blk.wipe m)
theorem wipe_eq (s : St) (m : Nat → Option Blk) : s.wipe m = ⟨wipeE s.e m, wipeM m⟩ := rfl
theorem wipeE_app (e : Nat → Option (Bool × AV)) (m : Nat → Option Blk) (t : Nat) : wipeE e m t = (e t).map fun p => (p.1, p.2.wipe m) := rfl
theorem wipeM_app (m : Nat → Option Blk) (h : Nat) : wipeM m h = (m h).map (Blk.wipe m) := rfl
abbrev Str := List UInt8
def eStr (s : Str) : List D := [.str s]
def eStrs (l : List Str) : List (List D) := l.map eStr
structure FileD where
  path : Str
  text : List Str
  deriving DecidableEq, Inhabited
def eFile (f : FileD) : List D := [.str f.path, .sl 9 1 (eStrs f.text)]
def eFiles (l : List FileD) : List (List D) := l.map eFile
@[simp] theorem eStrs_length (l : List Str) : (eStrs l).length = l.length := by simp [eStrs]
@[simp] theorem eStrs_nil : eStrs [] = [] := rfl
@[simp] theorem eStrs_get (l : List Str) (i : Nat) : (eStrs l)[i]? = l[i]?.map eStr := by simp [eStrs]
@[simp] theorem eStrs_getElem (l : List Str) (i : Nat) (h : i < (eStrs l).length) : (eStrs l)[i] = eStr (l[i]'(by simpa using h)) := by simp [eStrs]
@[simp] theorem eStr_inj (a b : Str) : (eStr a = eStr b) = (a = b) := by simp [eStr]
@[simp] theorem eStrs_inj (a b : List Str) : (eStrs a = eStrs b) = (a = b) := by
  apply propext
  constructor
  · intro h
    exact List.map_inj_right (fun x y h => by simpa using h) |>.1 h
  · rintro rfl; rfl
@[simp] theorem eStrs_eq_nil (a : List Str) : (eStrs a = []) = (a = []) := by simp [eStrs]
@[simp] theorem nil_eq_eStrs (a : List Str) : ([] = eStrs a) = (a = []) := by simp [eStrs, eq_comm]
theorem eStrs_append (a b : List Str) : eStrs (a ++ b) = eStrs a ++ eStrs b := by simp [eStrs]
theorem eStrs_snoc (a : List Str) (x : Str) : eStrs a ++ [[.str x]] = eStrs (a ++ [x]) := by simp [eStrs, eStr]
theorem eStrs_set (l : List Str) (i : Nat) (s : Str) : (eStrs l).set i [.str s] = eStrs (l.set i s) := by simp [eStrs, List.map_set, eStr]
theorem eStrs_take (l : List Str) (i : Nat) : (eStrs l).take i = eStrs (l.take i) := by simp [eStrs]
theorem eStrs_drop (l : List Str) (i : Nat) : (eStrs l).drop i = eStrs (l.drop i) := by simp [eStrs]
theorem eStrs_rep (n : Nat) : List.replicate n [D.str []] = eStrs (List.replicate n []) := by simp [eStrs, eStr]
@[simp] theorem eStrs_flat (l : List Str) : (∀ x ∈ eStrs l, ∀ d ∈ x, flatD d) = True := by
  simp only [eq_iff_iff, iff_true]
  intro x hx d hd
  simp only [eStrs, List.mem_map] at hx
  obtain ⟨s, _, rfl⟩ := hx
  simp only [eStr, List.mem_singleton] at hd
  subst hd
  trivial
@[simp] theorem eFiles_length (l : List FileD) : (eFiles l).length = l.length := by simp [eFiles]
@[simp] theorem eFiles_nil : eFiles [] = [] := rfl
@[simp] theorem eFiles_get (l : List FileD) (i : Nat) : (eFiles l)[i]? = l[i]?.map eFile := by simp [eFiles]
@[simp] theorem eFiles_getElem (l : List FileD) (i : Nat) (h : i < (eFiles l).length) : (eFiles l)[i] = eFile (l[i]'(by simpa using h)) := by simp [eFiles]
@[simp] theorem eFile_inj (a b : FileD) : (eFile a = eFile b) = (a = b) := by
  cases a; cases b; simp [eFile]
@[simp] theorem eFiles_inj (a b : List FileD) : (eFiles a = eFiles b) = (a = b) := by
  apply propext
  constructor
  · intro h
    exact List.map_inj_right (fun x y h => by simpa using h) |>.1 h
  · rintro rfl; rfl
@[simp] theorem eFiles_eq_nil (a : List FileD) : (eFiles a = []) = (a = []) := by simp [eFiles]
@[simp] theorem nil_eq_eFiles (a : List FileD) : ([] = eFiles a) = (a = []) := by simp [eFiles, eq_comm]
theorem eFiles_snoc (a : List FileD) (p : Str) (t : List Str) : eFiles a ++ [[.str p, .sl 9 1 (eStrs t)]] = eFiles (a ++ [⟨p, t⟩]) := by simp [eFiles, eFile]
theorem eFiles_append (a b : List FileD) : eFiles (a ++ b) = eFiles a ++ eFiles b := by simp [eFiles]
theorem eFiles_take (l : List FileD) (i : Nat) : (eFiles l).take i = eFiles (l.take i) := by simp [eFiles]
theorem eFiles_drop (l : List FileD) (i : Nat) : (eFiles l).drop i = eFiles (l.drop i) := by simp [eFiles]
theorem eFiles_set (l : List FileD) (i : Nat) (p : Str) (t : List Str) : (eFiles l).set i [.str p, .sl 9 1 (eStrs t)] = eFiles (l.set i ⟨p, t⟩) := by simp [eFiles, List.map_set, eFile]
theorem eFiles_rep (n : Nat) : List.replicate n [D.str [], .sl 9 1 []] = eFiles (List.replicate n ⟨[], []⟩) := by simp [eFiles, eFile]
@[simp] theorem FileD.eta (f : FileD) : (⟨f.path, f.text⟩ : FileD) = f := rfl
@[simp] theorem asStr_str (s : Str) : D.asStr (.str s) = s := rfl
@[simp] theorem asRows_sl (e k : Nat) (r : List (List D)) : D.asRows (.sl e k r) = r := rfl
@[simp] theorem asInt_int (k : IntKind) (n : Int) : D.asInt (.int k n) = n := rfl
@[simp] theorem asBool_bool (b : Bool) : D.asBool (.bool b) = b := rfl
theorem cast_succ (a b : Nat) : ((a : Int) = (b : Int) + 1) = (a = b + 1) := by apply propext; omega
theorem cast_eq (a b : Nat) : ((a : Int) = (b : Int)) = (a = b) := by apply propext; omega
theorem cast_zero (a : Nat) : ((a : Int) = 0) = (a = 0) := by apply propext; omega
theorem take_succ' {α : Type} {l : List α} {i : Nat} (h : i < l.length) : l.take (i + 1) = l.take i ++ [l[i]] := List.take_succ_eq_append_getElem h
@[simp] theorem getD_nat (l : Str) (i : Nat) (h : i < l.length) : l.getD i 0 = l[i] := by simp [List.getD_eq_getElem?_getD, h]
theorem all_take {α : Type} {l : List α} {p : α → Bool} {i : Nat} (h : i < l.length) : (l.take (i + 1)).all p = ((l.take i).all p && p l[i]) := by
  rw [take_succ' h, List.all_append]; simp
theorem eq_take {α : Type} {l r : List α} {i : Nat} (h1 : i < l.length) (h2 : i < r.length) (h : l.take i = r.take i) (he : l[i] = r[i]) : l.take (i + 1) = r.take (i + 1) := by
  rw [take_succ' h1, take_succ' h2, h, he]
theorem eq_end {α : Type} {l r : List α} {i : Nat} (h0 : l.length = r.length) (h1 : l.length ≤ i) (h : l.take i = r.take i) : l = r := by
  rw [List.take_of_length_le h1, List.take_of_length_le (by omega)] at h
  exact h
theorem FileD.eq_iff (a b : FileD) : (a = b) = (a.path = b.path ∧ a.text = b.text) := by
  cases a; cases b; simp
@[simp] theorem FileD.ex1 (p : Str) (x : List Str) (Q : FileD → Prop) : (∃ a : FileD, a.path = p ∧ a.text = x ∧ Q a) = Q ⟨p, x⟩ := by
  apply propext
  constructor
  · rintro ⟨⟨a, b⟩, rfl, rfl, h⟩; exact h
  · intro h; exact ⟨⟨p, x⟩, rfl, rfl, h⟩
@[simp] theorem FileD.ex2 (p : Str) (x : List Str) (Q : FileD → Prop) : (∃ a : FileD, (a.path = p ∧ a.text = x) ∧ Q a) = Q ⟨p, x⟩ := by
  apply propext
  constructor
  · rintro ⟨⟨a, b⟩, ⟨rfl, rfl⟩, h⟩; exact h
  · intro h; exact ⟨⟨p, x⟩, ⟨rfl, rfl⟩, h⟩
theorem cast_one (a : Nat) : ((a : Int) = 1) = (a = 1) := by apply propext; omega
/- What unfolds a walk. -/
attribute [simp] vc_skip extOf vc_seq vc_cond vc_block vc_exit vc_ret vc_region vc_regionD vc_loop kSeq_normal kSeq_ret kSeq_exit kBlock_normal kBlock_ret kBlock_exit kLoop_normal kLoop_ret kLoop_exit kCond_bool kNorm_app vcOps_nil vcOps_cons kOps_app kStep_some kStep_none vcDL_nil vcDL_cons kOpsD_app kStepD_true kStepD_tt kStepD_tf kStepD_false kStepD_ff flB ldMv subN boxLd AV.sgl ldB btys btyAct kStepC_some kStepC_none kMv_app act3_store act3_call act3_append actS_false actS_true stApp_tmp stApp_const kStA_true kStA_false AV.isSub act3_bs kAct_app kSt2_app stealSlots stealL stealOne subIn AV.stolen act_store act_bs act_append act_call kSet_app kSet2_app kSetG_app kSetG_app0 kStore_ptr kStore_eptr kStore_sptr putSub kCallW_some kCallC_some kCall_some wk_T wk_n wk_keep wk_inv wk_act wk_dr wk_le aCalm wantC dstOk calm aCallK aCall3K aCall4K pasVs4 pasV4 pasL4 pas4 pasB4 keys4 finOk4 ren4 back4B m4 subOf subRep aCall2K apnd bsMove putBox putOwn partAV mvL AV.mv AV.base AV.moved kBld bldK wrK stK AV.selfOk AV.src TI.flat apSize pickAV St.val St.cond St.fn St.next St.set St.trim wipe_eq wipeE_app wipeM_app pickEnv get? cGet upd_app withPuts killAll rm freshP Oper.hnd Sc.st ofConst constOk lenAV elemLen loadAV ldL ld1 fieldAddrAV indexAddrAV sliceAV convAV buildAV fillAV fieldAV Out.of binAV aggCmp AV.rows AV.one AV.cells AV.deepOk AV.toD toDs partRows partRowsM partsDeep TK.zeroAV TK.zeroD byteOf inR Op.operands Call.operands passVs passV passL pass1 passB pasVs pasV pasL pas1 ownsOk okHs okHs2 okFin finOk2 rho over backRes backAV backAV1 backBlk putBack back2 back2_V back2_1 m2 AV.wipe AV.wipeV AV.wipe1 Blk.wipe AV.hs AV.hs.hsL alOps Con.start2 Con.pk bodyQ fini resAV resA firstId Sc.from renEnv renT renV renVs renL ren1 renBox renOwn okRen clOf ldMk ldMk1 actB setRow flatRows flatD noInv shr_nil shr_some kStepF_some shareL AV.viewed AV.viewed1
end Vx
end Go.Proofs.YtnanellmaelipaaGreatDoor
namespace Go.Proofs.YtnanellmaelipaaGreatDoor
open Go.ChangeShapes Go.WideShapes Go.ChangeAt Go.RowKit
namespace Vx
theorem own_knob : ownKnob Tryz.prog.godebug = none := by kernel_rfl
theorem laidOut : laidOutB Tryz.prog = true := by kernel_rfl
theorem tTab_closed : tabOk tTab = true := by decide
section
variable {H : Type} {enc : TypeId × Value → H} {W : World} {sp : Nat → Bool} {held : Bool} {r : Reach} {base : Nat}
end
end Vx
end Go.Proofs.YtnanellmaelipaaGreatDoor
namespace Go.Proofs.YtnanellmaelipaaGreatDoor
namespace Vx
def eInt (n : Int) : List D := [.int .i64 n]
@[simp] theorem eInt_inj (a b : Int) : (eInt a = eInt b) = (a = b) := by simp [eInt]
def eInts (l : List Int) : List (List D) := l.map eInt
@[simp] theorem eInts_length (l : List Int) : (eInts l).length = l.length := by simp [eInts]
@[simp] theorem eInts_nil : eInts [] = [] := rfl
@[simp] theorem eInts_get (l : List Int) (i : Nat) : (eInts l)[i]? = l[i]?.map eInt := by simp [eInts]
@[simp] theorem eInts_getElem (l : List Int) (i : Nat) (h : i < (eInts l).length) : (eInts l)[i] = eInt (l[i]'(by simpa using h)) := by simp [eInts]
@[simp] theorem eInts_inj (a b : List Int) : (eInts a = eInts b) = (a = b) := by
  apply propext
  constructor
  · intro h
    exact List.map_inj_right (fun x y h => by simpa using h) |>.1 h
  · rintro rfl; rfl
@[simp] theorem eInts_eq_nil (a : List Int) : (eInts a = []) = (a = []) := by simp [eInts]
@[simp] theorem nil_eq_eInts (a : List Int) : ([] = eInts a) = (a = []) := by simp [eInts, eq_comm]
theorem eInts_snoc (a : List Int) (n : Int) : eInts a ++ [[.int .i64 n]] = eInts (a ++ [n]) := by simp [eInts, eInt]
@[simp] theorem eInts_flat (l : List Int) : (∀ x ∈ eInts l, ∀ d ∈ x, flatD d) = True := by
  simp only [eq_iff_iff, iff_true]
  intro x hx d hd
  simp only [eInts, List.mem_map] at hx
  obtain ⟨s, _, rfl⟩ := hx
  simp only [eInt, List.mem_singleton] at hd
  subst hd
  trivial
structure HeadD where
  name : Str
  at_ : Int
  deriving DecidableEq, Inhabited
def eHead (a : HeadD) : List D := [.str a.name, .int .i64 a.at_]
@[simp] theorem eHead_inj (a b : HeadD) : (eHead a = eHead b) = (a = b) := by
  cases a; cases b; simp [eHead]
@[simp] theorem HeadD.eta (a : HeadD) : (⟨a.name, a.at_⟩ : HeadD) = a := rfl
theorem HeadD.eq_iff (a b : HeadD) : (a = b) = (a.name = b.name ∧ a.at_ = b.at_) := by
  cases a; cases b; simp
@[simp] theorem HeadD.ex1 (x_name : Str) (x_at_ : Int) (Q : HeadD → Prop) : (∃ a : HeadD, a.name = x_name ∧ a.at_ = x_at_ ∧ Q a) = Q ⟨x_name, x_at_⟩ := by
  apply propext
  constructor
  · rintro ⟨⟨_, _⟩, rfl, rfl, h⟩; exact h
  · intro h; exact ⟨⟨x_name, x_at_⟩, rfl, rfl, h⟩
@[simp] theorem HeadD.ex2 (x_name : Str) (x_at_ : Int) (Q : HeadD → Prop) : (∃ a : HeadD, (a.name = x_name ∧ a.at_ = x_at_) ∧ Q a) = Q ⟨x_name, x_at_⟩ := by
  apply propext
  constructor
  · rintro ⟨⟨_, _⟩, ⟨rfl, rfl⟩, h⟩; exact h
  · intro h; exact ⟨⟨x_name, x_at_⟩, ⟨rfl, rfl⟩, h⟩
@[simp] theorem HeadD.ex0 (x_name : Str) (x_at_ : Int) : (∃ a : HeadD, a.name = x_name ∧ a.at_ = x_at_) = True := by
  simp only [eq_iff_iff, iff_true]
  exact ⟨⟨x_name, x_at_⟩, rfl, rfl⟩
def eHeads (l : List HeadD) : List (List D) := l.map eHead
@[simp] theorem eHeads_length (l : List HeadD) : (eHeads l).length = l.length := by simp [eHeads]
@[simp] theorem eHeads_nil : eHeads [] = [] := rfl
@[simp] theorem eHeads_get (l : List HeadD) (i : Nat) : (eHeads l)[i]? = l[i]?.map eHead := by simp [eHeads]
@[simp] theorem eHeads_getElem (l : List HeadD) (i : Nat) (h : i < (eHeads l).length) : (eHeads l)[i] = eHead (l[i]'(by simpa using h)) := by simp [eHeads]
@[simp] theorem eHeads_inj (a b : List HeadD) : (eHeads a = eHeads b) = (a = b) := by
  apply propext
  constructor
  · intro h
    exact List.map_inj_right (fun x y h => by simpa using h) |>.1 h
  · rintro rfl; rfl
@[simp] theorem eHeads_eq_nil (a : List HeadD) : (eHeads a = []) = (a = []) := by simp [eHeads]
@[simp] theorem nil_eq_eHeads (a : List HeadD) : ([] = eHeads a) = (a = []) := by simp [eHeads, eq_comm]
theorem eHeads_snoc (a : List HeadD) (s : Str) (n : Int) : eHeads a ++ [[.str s, .int .i64 n]] = eHeads (a ++ [⟨s, n⟩]) := by simp [eHeads, eHead]
theorem eHeads_set (l : List HeadD) (i : Nat) (s : Str) (n : Int) : (eHeads l).set i [.str s, .int .i64 n] = eHeads (l.set i ⟨s, n⟩) := by simp [eHeads, List.map_set, eHead]
@[simp] theorem eHeads_flat (l : List HeadD) : (∀ x ∈ eHeads l, ∀ d ∈ x, flatD d) = True := by
  simp only [eq_iff_iff, iff_true]
  intro x hx d hd
  simp only [eHeads, List.mem_map] at hx
  obtain ⟨s, _, rfl⟩ := hx
  simp only [eHead, List.mem_cons, List.not_mem_nil, or_false] at hd
  rcases hd with rfl | rfl <;> trivial
structure CommitD where
  parents : List Int
  who : Str
  tree : List FileD
  deriving DecidableEq, Inhabited
def eCommit (a : CommitD) : List D := [.sl 3 1 (eInts a.parents), .str a.who, .sl 61 2 (eFiles a.tree)]
@[simp] theorem eCommit_inj (a b : CommitD) : (eCommit a = eCommit b) = (a = b) := by
  cases a; cases b; simp [eCommit]
@[simp] theorem CommitD.eta (a : CommitD) : (⟨a.parents, a.who, a.tree⟩ : CommitD) = a := rfl
theorem CommitD.eq_iff (a b : CommitD) : (a = b) = (a.parents = b.parents ∧ a.who = b.who ∧ a.tree = b.tree) := by
  cases a; cases b; simp
@[simp] theorem CommitD.ex1 (x_parents : List Int) (x_who : Str) (x_tree : List FileD) (Q : CommitD → Prop) : (∃ a : CommitD, a.parents = x_parents ∧ a.who = x_who ∧ a.tree = x_tree ∧ Q a) = Q ⟨x_parents, x_who, x_tree⟩ := by
  apply propext
  constructor
  · rintro ⟨⟨_, _, _⟩, rfl, rfl, rfl, h⟩; exact h
  · intro h; exact ⟨⟨x_parents, x_who, x_tree⟩, rfl, rfl, rfl, h⟩
@[simp] theorem CommitD.ex2 (x_parents : List Int) (x_who : Str) (x_tree : List FileD) (Q : CommitD → Prop) : (∃ a : CommitD, (a.parents = x_parents ∧ a.who = x_who ∧ a.tree = x_tree) ∧ Q a) = Q ⟨x_parents, x_who, x_tree⟩ := by
  apply propext
  constructor
  · rintro ⟨⟨_, _, _⟩, ⟨rfl, rfl, rfl⟩, h⟩; exact h
  · intro h; exact ⟨⟨x_parents, x_who, x_tree⟩, ⟨rfl, rfl, rfl⟩, h⟩
@[simp] theorem CommitD.ex0 (x_parents : List Int) (x_who : Str) (x_tree : List FileD) : (∃ a : CommitD, a.parents = x_parents ∧ a.who = x_who ∧ a.tree = x_tree) = True := by
  simp only [eq_iff_iff, iff_true]
  exact ⟨⟨x_parents, x_who, x_tree⟩, rfl, rfl, rfl⟩
def eCommits (l : List CommitD) : List (List D) := l.map eCommit
@[simp] theorem eCommits_length (l : List CommitD) : (eCommits l).length = l.length := by simp [eCommits]
@[simp] theorem eCommits_nil : eCommits [] = [] := rfl
@[simp] theorem eCommits_get (l : List CommitD) (i : Nat) : (eCommits l)[i]? = l[i]?.map eCommit := by simp [eCommits]
@[simp] theorem eCommits_getElem (l : List CommitD) (i : Nat) (h : i < (eCommits l).length) : (eCommits l)[i] = eCommit (l[i]'(by simpa using h)) := by simp [eCommits]
@[simp] theorem eCommits_inj (a b : List CommitD) : (eCommits a = eCommits b) = (a = b) := by
  apply propext
  constructor
  · intro h
    exact List.map_inj_right (fun x y h => by simpa using h) |>.1 h
  · rintro rfl; rfl
@[simp] theorem eCommits_eq_nil (a : List CommitD) : (eCommits a = []) = (a = []) := by simp [eCommits]
@[simp] theorem nil_eq_eCommits (a : List CommitD) : ([] = eCommits a) = (a = []) := by simp [eCommits, eq_comm]
theorem eCommits_snoc (a : List CommitD) (p : List Int) (w : Str) (t : List FileD) : eCommits a ++ [[.sl 3 1 (eInts p), .str w, .sl 61 2 (eFiles t)]] = eCommits (a ++ [⟨p, w, t⟩]) := by simp [eCommits, eCommit]
structure RepoD where
  commits : List CommitD
  heads : List HeadD
  deriving DecidableEq, Inhabited
def eRepo (a : RepoD) : List D := [.sl 56 3 (eCommits a.commits), .sl 34 2 (eHeads a.heads)]
@[simp] theorem eRepo_inj (a b : RepoD) : (eRepo a = eRepo b) = (a = b) := by
  cases a; cases b; simp [eRepo]
@[simp] theorem RepoD.eta (a : RepoD) : (⟨a.commits, a.heads⟩ : RepoD) = a := rfl
theorem RepoD.eq_iff (a b : RepoD) : (a = b) = (a.commits = b.commits ∧ a.heads = b.heads) := by
  cases a; cases b; simp
@[simp] theorem RepoD.ex1 (x_commits : List CommitD) (x_heads : List HeadD) (Q : RepoD → Prop) : (∃ a : RepoD, a.commits = x_commits ∧ a.heads = x_heads ∧ Q a) = Q ⟨x_commits, x_heads⟩ := by
  apply propext
  constructor
  · rintro ⟨⟨_, _⟩, rfl, rfl, h⟩; exact h
  · intro h; exact ⟨⟨x_commits, x_heads⟩, rfl, rfl, h⟩
@[simp] theorem RepoD.ex2 (x_commits : List CommitD) (x_heads : List HeadD) (Q : RepoD → Prop) : (∃ a : RepoD, (a.commits = x_commits ∧ a.heads = x_heads) ∧ Q a) = Q ⟨x_commits, x_heads⟩ := by
  apply propext
  constructor
  · rintro ⟨⟨_, _⟩, ⟨rfl, rfl⟩, h⟩; exact h
  · intro h; exact ⟨⟨x_commits, x_heads⟩, ⟨rfl, rfl⟩, h⟩
@[simp] theorem RepoD.ex0 (x_commits : List CommitD) (x_heads : List HeadD) : (∃ a : RepoD, a.commits = x_commits ∧ a.heads = x_heads) = True := by
  simp only [eq_iff_iff, iff_true]
  exact ⟨⟨x_commits, x_heads⟩, rfl, rfl⟩
abbrev vRepo (r : RepoD) : AV := .agg [.sl true 3 (eCommits r.commits), .sl true 2 (eHeads r.heads)]
abbrev ownInts (h : Nat) (a : List Int) : List (Nat × Blk) := [(h, .own 3 1 true (eInts a))]
abbrev ownHeads (h : Nat) (a : List HeadD) : List (Nat × Blk) := [(h, .own 34 2 true (eHeads a))]
abbrev ownCommits (h : Nat) (a : List CommitD) : List (Nat × Blk) := [(h, .own 56 3 true (eCommits a))]
end Vx
end Go.Proofs.YtnanellmaelipaaGreatDoor
namespace Go.Proofs.YtnanellmaelipaaGreatDoor
set_option maxHeartbeats 4000000
namespace Vx
open Go.RowKit
set_option maxRecDepth 8000
def eByte (b : UInt8) : List D := [.int .u8 b.toNat]
def eBytes (s : Str) : List (List D) := s.map eByte
@[simp] theorem eBytes_length (l : Str) : (eBytes l).length = l.length := by simp -implicitDefEqProofs [eBytes]
@[simp] theorem eBytes_get (l : Str) (i : Nat) : (eBytes l)[i]? = l[i]?.map eByte := by simp -implicitDefEqProofs [eBytes]
theorem eBytes_take (l : Str) (i : Nat) : (eBytes l).take i = eBytes (l.take i) := by simp -implicitDefEqProofs [eBytes]
@[simp] theorem eByte_inj (a b : UInt8) : (eByte a = eByte b) = (a = b) := by
  simp only [eByte, List.cons.injEq, D.int.injEq, true_and, and_true, eq_iff_iff]
  constructor
  · intro h; exact UInt8.toNat_inj.1 (by omega)
  · rintro rfl; rfl
@[simp] theorem eBytes_inj (a b : Str) : (eBytes a = eBytes b) = (a = b) := by
  apply propext
  constructor
  · intro h
    exact List.map_inj_right (fun x y h => by simpa using h) |>.1 h
  · rintro rfl; rfl
@[simp] theorem eBytes_all (l : Str) (f : List D → Bool) : (eBytes l).all f = l.all fun b => f (eByte b) := by simp -implicitDefEqProofs [eBytes, Function.comp_def]
theorem all_true (l : Str) : (l.all fun _ => true) = true := by simp
abbrev rdBox (s : Str) (p : Int) : Blk := .box 157 [.sl true 1 (eBytes s), .int .i64 p]
def cL30Open : Con := .fn 11 Str (fun s => [.sl true 1 (eBytes s)]) (fun _ => True) (fun _ => .ptr 8 0) (fun s => [(8, rdBox (s.take 2000) 0)])
theorem l30Open_has : Has Tryz.prog 75 cL30Open := by
  refine has_walk mixed tTab_ok (l := []) HasL.nil [0, 2] ((fun a n (_ : Nat) => (fun _ => noInv) a n)) [] Tryz.func75 (by kernel_rfl) (code := _) (by unfold Tryz.f75; rfl) (by kernel_rfl) (by decide) (fun _ => ⟨(), trivial⟩) (by intro h; first | exact fun _ => rfl | cases h) (by kernel_rfl) ?_
  intro (s : Str) _
  simp -implicitDefEqProofs [cL30Open, Con.fn, tTab, eBytes_take]
  exact fun _ => ⟨fun h => by omega, fun h => List.take_of_length_le (by omega)⟩
theorem xor_nn {a b : Int} (h1 : 0 ≤ a) (h2 : a < 4611686018427387904) (h3 : 0 ≤ b) (h4 : b < 4611686018427387904) : 0 ≤ bitOp .xor .i64 a b := by
  unfold bitOp
  simp only []
  rw [BitVec.toNat_xor, BitVec.toNat_ofInt, BitVec.toNat_ofInt]
  have e1 : (a % ((2 ^ (IntKind.i64).bits : Nat) : Int)).toNat < 2 ^ 62 := by
    have : a % ((2 ^ (IntKind.i64).bits : Nat) : Int) = a := Int.emod_eq_of_lt h1 (by show a < (((2 : Nat) ^ 64 : Nat) : Int); omega)
    rw [this]; omega
  have e2 : (b % ((2 ^ (IntKind.i64).bits : Nat) : Int)).toNat < 2 ^ 62 := by
    have : b % ((2 ^ (IntKind.i64).bits : Nat) : Int) = b := Int.emod_eq_of_lt h3 (by show b < (((2 : Nat) ^ 64 : Nat) : Int); omega)
    rw [this]; omega
  have e3 := Nat.xor_lt_two_pow e1 e2
  rw [wrap_inR (by simp only [inR]; omega)]
  omega
def cPick : Con := { A := (Str × Int) × Int, X := Int, n := 99, args := fun a => [.ptr 0 0, .int .i64 a.2], boxes := fun a => [(0, 157, [.sl true 1 (eBytes a.1.1), .int .i64 a.1.2])], pre := fun a => a.1.1.length ≤ 2000 ∧ 0 ≤ a.1.2 ∧ a.1.2 ≤ 1073741824 ∧ a.2 ≤ 1073741824, post := fun a x => (a.2 < 1 → x = 0) ∧ (1 ≤ a.2 → 0 ≤ x ∧ x < a.2), res := fun _ x => .int .i64 x, fin := fun a _ => [(0, rdBox a.1.1 (a.1.2 + 1))], nob := false }
theorem pick_has : Has Tryz.prog 145 cPick := by
  refine has_walk mixed tTab_ok (l := []) HasL.nil [0, 1, 4, 5, 6] ((fun a n (_ : Nat) => (fun _ => noInv) a n)) [] Tryz.func145 (by kernel_rfl) (code := _) (by unfold Tryz.f145; rfl) (by kernel_rfl) (by decide) (fun a => ⟨(0 : Int), fun _ => rfl, fun h => ⟨Int.le_refl 0, by omega⟩⟩) (by intro h; first | exact fun _ => rfl | cases h) (by kernel_rfl) ?_
  intro a ha
  obtain ⟨⟨s, p⟩, n⟩ := a
  obtain ⟨h1, h2, h3, h4⟩ : s.length ≤ 2000 ∧ 0 ≤ p ∧ p ≤ 1073741824 ∧ n ≤ 1073741824 := ha
  simp -implicitDefEqProofs [cPick, tTab]
  have e : ∀ q : Int, 0 ≤ q → q < s.length → ∃ b : Nat, b < 256 ∧ Option.map eByte s[q.toNat]? = some [.int .u8 b] := fun q a b => by
    have hq : q.toNat < s.length := by omega
    exact ⟨s[q.toNat].toNat, s[q.toNat].toNat_lt, by simp -implicitDefEqProofs [List.getElem?_eq_getElem hq, eByte]⟩
  refine ⟨by omega, fun _ _ => ⟨fun a b => by omega, fun hn _ => ⟨fun _ _ => by omega, fun hs => ⟨by omega, fun _ _ _ => ⟨fun hp => ?_, fun hp => ?_⟩⟩⟩⟩⟩
  · obtain ⟨b, hb, eb⟩ := e p h2 hp
    have t1 := Int.tmod_nonneg n (a := (b : Int)) (by omega)
    have t2 := Int.tmod_lt_of_pos (b : Int) (b := n) (by omega)
    simp -implicitDefEqProofs [eb]
    omega
  · have hl : 0 < s.length := List.length_pos_iff.2 hs
    have hL : (0 : Int) < (s.length : Int) := by omega
    have t1 := Int.tmod_nonneg (s.length : Int) (a := p) h2
    have t2 := Int.tmod_lt_of_pos p hL
    have t3 := Int.tmod_nonneg (s.length : Int) (a := p * 7 + 3) (by omega)
    have t4 := Int.tmod_lt_of_pos (p * 7 + 3) hL
    have t5 := Int.tdiv_nonneg h2 (Int.le_of_lt hL)
    have t6 : p.tdiv (s.length : Int) ≤ p := by
      have := Int.natAbs_tdiv_le_natAbs p (s.length : Int)
      omega
    obtain ⟨b1, hb1, eb1⟩ := e _ t1 t2
    obtain ⟨b2, hb2, eb2⟩ := e _ t3 t4
    simp -implicitDefEqProofs [eb1, eb2]
    generalize p.tdiv (s.length : Int) = d at t5 t6 ⊢
    generalize p.tmod (s.length : Int) = m1 at t1 t2 ⊢
    generalize (p * 7 + 3).tmod (s.length : Int) = m2 at t3 t4 ⊢
    have t7 := Int.tdiv_nonneg (a := (b1 * 131 + b2 * 1117 + p * 29 + d * 53 : Int)) (b := 64) (by omega) (by omega)
    have t8 : (b1 * 131 + b2 * 1117 + p * 29 + d * 53 : Int).tdiv 64 ≤ b1 * 131 + b2 * 1117 + p * 29 + d * 53 := by
      have := Int.natAbs_tdiv_le_natAbs (b1 * 131 + b2 * 1117 + p * 29 + d * 53 : Int) 64
      omega
    have t9 := xor_nn (a := (b1 * 131 + b2 * 1117 + p * 29 + d * 53 : Int)) (b := (b1 * 131 + b2 * 1117 + p * 29 + d * 53 : Int).tdiv 64) (by omega) (by omega) (by omega) (by omega)
    generalize (b1 * 131 + b2 * 1117 + p * 29 + d * 53 : Int).tdiv 64 = y at t7 t8 t9 ⊢
    generalize bitOp .xor .i64 (b1 * 131 + b2 * 1117 + p * 29 + d * 53 : Int) y = z at t9 ⊢
    have t10 := Int.tmod_nonneg n t9
    have t11 := Int.tmod_lt_of_pos z (b := n) (by omega)
    clear e eb1 eb2
    repeat' (first | intro _ | apply And.intro)
    all_goals first | omega | assumption | contradiction
theorem headD_mem {α : Type} {d : α} {l : List α} (h : l ≠ []) : l.headD d ∈ l := by
  cases l with
  | nil => exact absurd rfl h
  | cons x r => simp
def cOf : Con := { A := (Str × Int) × List Str, X := Str, n := 12, args := fun a => [.ptr 0 0, .sl true 1 (eStrs a.2)], boxes := fun a => [(0, 157, [.sl true 1 (eBytes a.1.1), .int .i64 a.1.2])], pre := fun a => a.1.1.length ≤ 2000 ∧ 0 ≤ a.1.2 ∧ a.1.2 ≤ 1073741824 ∧ a.2 ≠ [] ∧ a.2.length ≤ 1073741824, post := fun a x => a.2 ≠ [] → x ∈ a.2, res := fun _ x => .str x, fin := fun a _ => [(0, rdBox a.1.1 (a.1.2 + 1))], nob := false, kindly := true }
theorem of_has : Has Tryz.prog 90 cOf := by
  refine has_walk mixed tTab_ok (l := [(145, cPick)]) (HasL.cons pick_has HasL.nil) [0, 1, 4] ((fun a n (_ : Nat) => (fun _ => noInv) a n)) [] Tryz.func90 (by kernel_rfl) (code := _) (by unfold Tryz.f90; rfl) (by kernel_rfl) (by decide) (fun a => ⟨a.2.headD [], fun h => headD_mem h⟩) (by intro h; first | exact fun _ => rfl | cases h) (by kernel_rfl) ?_
  intro a ha
  obtain ⟨⟨s, p⟩, l⟩ := a
  obtain ⟨h1, h2, h3, h4, h5⟩ : s.length ≤ 2000 ∧ 0 ≤ p ∧ p ≤ 1073741824 ∧ l ≠ [] ∧ l.length ≤ 1073741824 := ha
  have hl : 0 < l.length := List.length_pos_iff.2 h4
  simp -implicitDefEqProofs [cOf, cPick, tTab]
  refine fun _ => ⟨s, p, ⟨rfl, rfl⟩, ⟨h1, h2, h3, by omega⟩, fun y _ hy2 => ?_⟩
  obtain ⟨k1, k2⟩ := hy2 (by omega)
  have hk : y.toNat < l.length := by omega
  have e : Option.map eStr l[y.toNat]? = some (eStr l[y.toNat]) := by simp -implicitDefEqProofs [List.getElem?_eq_getElem hk]
  simp -implicitDefEqProofs [e, eStr, k1, k2]
def cOne : Con := { A := (Str × Int) × List Int, X := Int, n := 12, args := fun a => [.ptr 0 0, .sl true 1 (eInts a.2)], boxes := fun a => [(0, 157, [.sl true 1 (eBytes a.1.1), .int .i64 a.1.2])], pre := fun a => a.1.1.length ≤ 2000 ∧ 0 ≤ a.1.2 ∧ a.1.2 ≤ 1073741824 ∧ a.2 ≠ [] ∧ a.2.length ≤ 1073741824, post := fun a x => a.2 ≠ [] → x ∈ a.2, res := fun _ x => .int .i64 x, fin := fun a _ => [(0, rdBox a.1.1 (a.1.2 + 1))], nob := false, kindly := true }
theorem one_has : Has Tryz.prog 147 cOne := by
  refine has_walk mixed tTab_ok (l := [(145, cPick)]) (HasL.cons pick_has HasL.nil) [0, 1, 4] ((fun a n (_ : Nat) => (fun _ => noInv) a n)) [] Tryz.func147 (by kernel_rfl) (code := _) (by unfold Tryz.f147; rfl) (by kernel_rfl) (by decide) (fun a => ⟨a.2.headD 0, fun h => headD_mem h⟩) (by intro h; first | exact fun _ => rfl | cases h) (by kernel_rfl) ?_
  intro a ha
  obtain ⟨⟨s, p⟩, l⟩ := a
  obtain ⟨h1, h2, h3, h4, h5⟩ : s.length ≤ 2000 ∧ 0 ≤ p ∧ p ≤ 1073741824 ∧ l ≠ [] ∧ l.length ≤ 1073741824 := ha
  have hl : 0 < l.length := List.length_pos_iff.2 h4
  simp -implicitDefEqProofs [cOne, cPick, tTab]
  refine fun _ => ⟨s, p, ⟨rfl, rfl⟩, ⟨h1, h2, h3, by omega⟩, fun y _ hy2 => ?_⟩
  obtain ⟨k1, k2⟩ := hy2 (by omega)
  have hk : y.toNat < l.length := by omega
  have e : Option.map eInt l[y.toNat]? = some (eInt l[y.toNat]) := by simp -implicitDefEqProofs [List.getElem?_eq_getElem hk]
  simp -implicitDefEqProofs [e, eInt, k1, k2]
end Vx
end Go.Proofs.YtnanellmaelipaaGreatDoor
namespace Go.Proofs.YtnanellmaelipaaGreatDoor
open Go.ChangeShapes Go.WideShapes Go.ChangeAt Go.RowKit
namespace Vx
theorem shp_bytes {T : Nat → Option TI} (hs : ∀ te, T 5 = some te → te.cells = [.int .u8]) {ds : List D} (h : Shp T [.sl 5 1] ds) : ∃ l, ds = [.sl 5 1 (eBytes l)] := by
  cases h with
  | @sl e k te rows ks ds h1 h2 h3 =>
    cases h3
    rw [hs _ h1] at h2
    obtain ⟨l, rfl, _⟩ := rows_map (f := eByte) (p := fun _ => True) (rows := rows) (fun r hr => by
      have := h2 r hr
      cases this with
      | @int k n _ _ q1 q2 =>
        cases q2
        have q3 : IntKind.u8.min ≤ n ∧ n ≤ IntKind.u8.max := by simpa only [Lit.wf, Bool.and_eq_true, decide_eq_true_eq] using q1
        have q4 : IntKind.u8.min = 0 := rfl
        have q5 : IntKind.u8.max = 255 := rfl
        rw [q4, q5] at q3
        refine ⟨UInt8.ofNat n.toNat, ?_, trivial⟩
        have : (UInt8.ofNat n.toNat).toNat = n.toNat := by rw [UInt8.toNat_ofNat']; omega
        simp only [eByte, this]
        congr 2
        omega)
    exact ⟨l, rfl⟩
section
variable {H : Type} {enc : TypeId × Value → H} {W : World} {sp : Nat → Bool} {held : Bool} {r : Reach} {base : Nat}
set_option maxRecDepth 100000 in
theorem open_bytes {v : Value} {d : DataW H} {p : List MemPlace} (hu : Tryz.prog.underlying 22 = some (.slice 5)) (hv : Value.okWide Tryz.prog W r base 22 v)
    (h : DataW.Trod enc Tryz.prog W 0 sp held 22 v d p) : ∃ l f, RdL false W [.sl 5 1 (eBytes l)] [v] f := by
  obtain ⟨a, n, c, rfl⟩ := okWide_slice hu hv
  obtain ⟨fuel, hf⟩ := h
  obtain ⟨ds, f, h1, h2⟩ := rd_trod tTab_ok tTab_closed fuel (t := 22) rfl hf
  obtain ⟨l, rfl⟩ := shp_bytes (fun te ht => by cases ht; rfl) h2
  exact ⟨l, f, h1⟩
end
end Vx
end Go.Proofs.YtnanellmaelipaaGreatDoor
namespace Go.Proofs.YtnanellmaelipaaGreatDoor
namespace Vx
open Go.ChangeShapes Go.WideShapes Go.ChangeAt Go.RowKit
theorem g_laid : laidOutB Tryz.pinned.checked.prog = true := by kernel_rfl
theorem g_maps : mapsRowed Tryz.pinned.checked.prog = true := by kernel_rfl
theorem g_stops : Tryz.pinned.checked.prog.stopsHeard = true := by kernel_rfl
theorem g_enter : Tryz.pinned.checked.prog.mayEnter = true := by kernel_rfl
theorem g_lift : Tryz.pinned.checked.prog.liftsFinal = false := by kernel_rfl
theorem g_main : Tryz.pinned.checked.prog.mainIs = some (Rows.fnMarkNearCard.stood.harness.1, Rows.fnMarkNearCard.stood.harness.2.toList) := by kernel_rfl
theorem g_looks : Rows.fnMarkNearCard.stood.looks = Tryz.pinned.checked.prog.looks [] := by kernel_rfl
end Vx
end Go.Proofs.YtnanellmaelipaaGreatDoor
namespace Go.Proofs.YtnanellmaelipaaGreatDoor
set_option maxHeartbeats 4000000
namespace Vx
open Go.RowKit
def cWithin : Con := .fn 15 (Int × Int × Int) (fun a => [.int .i64 a.1, .int .i64 a.2.1, .int .i64 a.2.2]) (fun _ => True) (fun a => .bool (decide (a.2.1 ≤ a.1) && decide (a.1 ≤ a.2.2))) (fun _ => [])
theorem within_has : Has Tryz.prog 99 cWithin := by
  refine has_walk mixed tTab_ok (l := []) HasL.nil [0, 1, 2, 6] ((fun a n (_ : Nat) => (fun _ => noInv) a n)) [] Tryz.func99 (by kernel_rfl) (code := _) (by unfold Tryz.f99; rfl) (by kernel_rfl) (by decide) (fun _ => ⟨(), trivial⟩) (by intro h; first | exact fun _ => rfl | cases h) (by kernel_rfl) ?_
  intro a _
  obtain ⟨n, lo, hi⟩ := a
  simp -implicitDefEqProofs [cWithin, Con.fn, tTab]
  omega
def cL1In : Con := .fn 15 (Int × Int × Int) (fun a => [.int .i64 a.1, .int .i64 a.2.1, .int .i64 a.2.2]) (fun _ => True) (fun a => .bool (decide (a.2.1 ≤ a.1) && decide (a.1 ≤ a.2.2))) (fun _ => [])
theorem l1In_has : Has Tryz.prog 84 cL1In := by
  refine has_walk mixed tTab_ok (l := []) HasL.nil [0, 1, 2, 6] ((fun a n (_ : Nat) => (fun _ => noInv) a n)) [] Tryz.func84 (by kernel_rfl) (code := _) (by unfold Tryz.f84; rfl) (by kernel_rfl) (by decide) (fun _ => ⟨(), trivial⟩) (by intro h; first | exact fun _ => rfl | cases h) (by kernel_rfl) ?_
  intro a _
  obtain ⟨n, lo, hi⟩ := a
  simp -implicitDefEqProofs [cL1In, Con.fn, tTab]
  omega
def wordB (n : Int) : Bool := (decide (97 ≤ n) && decide (n ≤ 122)) || (decide (48 ≤ n) && decide (n ≤ 57))
def cWordByte : Con := .fn 17 Int (fun a => [.int .u8 a]) (fun _ => True) (fun a => .bool (wordB a)) (fun _ => [])
theorem wordByte_has : Has Tryz.prog 149 cWordByte := by
  refine has_walk mixed tTab_ok (l := []) HasL.nil [0, 2] ((fun a n (_ : Nat) => (fun _ => noInv) a n)) [] Tryz.func149 (by kernel_rfl) (code := _) (by unfold Tryz.f149; rfl) (by kernel_rfl) (by decide) (fun _ => ⟨(), trivial⟩) (by intro h; first | exact fun _ => rfl | cases h) (by kernel_rfl) ?_
  intro a _
  simp -implicitDefEqProofs [cWordByte, Con.fn, tTab, wordB]
  repeat' (first | intro _ | apply And.intro)
  all_goals first | omega | grind
def nameB (s : Str) : Bool := decide (1 ≤ s.length) && decide (s.length ≤ 6) && s.all fun b => wordB b.toNat
def cNameOk : Con := .fn 19 Str (fun s => [.str s]) (fun _ => True) (fun s => .bool (nameB s)) (fun _ => [])
theorem nameOk_has : Has Tryz.prog 91 cNameOk := by
  refine has_walk mixed tTab_ok (l := [(99, cWithin), (149, cWordByte)]) (HasL.cons within_has (HasL.cons wordByte_has HasL.nil)) [0, 2, 3] ((fun a n (_ : Nat) => (fun s _ => ⟨Nat, fun i => ⟨[(0, true, .str s), (2, true, .bool false), (3, true, .int .i64 i)], []⟩, fun i => i ≤ s.length ∧ 1 ≤ s.length ∧ s.length ≤ 6 ∧ (s.take i).all (fun b => wordB b.toNat) = true, fun i => s.length - i⟩) a n)) [] Tryz.func91 (by kernel_rfl) (code := _) (by unfold Tryz.f91; rfl) (by kernel_rfl) (by decide) (fun _ => ⟨(), trivial⟩) (by intro h; first | exact fun _ => rfl | cases h) (by kernel_rfl) ?_
  intro (s : Str) _
  simp -implicitDefEqProofs [cNameOk, Con.fn, tTab, cWithin, cWordByte]
  try dsimp only
  try simp +contextual [eStr, eFile, cast_succ, cast_eq, cast_zero, List.getElem?_eq_getElem, eStrs_set, eFiles_set, eStrs_rep, eFiles_rep, ← eStrs_append, ← eFiles_append, eStrs_take, eStrs_drop, eFiles_take, eFiles_drop, eStrs_snoc, eFiles_snoc, and_assoc]
  repeat' (first | intro _ | apply And.intro)
  all_goals first | omega | grind [all_take, nameB, List.take_succ_eq_append_getElem]
def cL4Name : Con := .fn 35 Str (fun s => [.str s]) (fun _ => True) (fun s => .bool (nameB s)) (fun _ => [])
theorem l4Name_has : Has Tryz.prog 95 cL4Name := by
  refine has_walk mixed tTab_ok (l := [(84, cL1In)]) (HasL.cons l1In_has HasL.nil) [0, 2, 3] ((fun a n (_ : Nat) => (fun s _ => ⟨Nat, fun i => ⟨[(0, true, .str s), (2, true, .bool false), (3, true, .int .i64 i)], []⟩, fun i => i ≤ s.length ∧ (s.take i).all (fun b => wordB b.toNat) = true, fun i => s.length - i⟩) a n)) [] Tryz.func95 (by kernel_rfl) (code := _) (by unfold Tryz.f95; rfl) (by kernel_rfl) (by decide) (fun _ => ⟨(), trivial⟩) (by intro h; first | exact fun _ => rfl | cases h) (by kernel_rfl) ?_
  intro (s : Str) _
  simp -implicitDefEqProofs [cL4Name, Con.fn, tTab, cL1In]
  try dsimp only
  try simp +contextual [eStr, eFile, cast_succ, cast_eq, cast_zero, List.getElem?_eq_getElem, eStrs_set, eFiles_set, eStrs_rep, eFiles_rep, ← eStrs_append, ← eFiles_append, eStrs_take, eStrs_drop, eFiles_take, eFiles_drop, eStrs_snoc, eFiles_snoc, and_assoc]
  repeat' (first | intro _ | apply And.intro)
  all_goals first | omega | grind [all_take, nameB, wordB, List.take_succ_eq_append_getElem]
def lineB (s : Str) : Bool := decide (s.length ≤ 12) && s.all fun b => decide (32 ≤ b.toNat) && decide (b.toNat ≤ 126)
def cLineOk : Con := .fn 23 Str (fun s => [.str s]) (fun _ => True) (fun s => .bool (lineB s)) (fun _ => [])
theorem lineOk_has : Has Tryz.prog 163 cLineOk := by
  refine has_walk mixed tTab_ok (l := []) HasL.nil [0, 2, 3] ((fun a n (_ : Nat) => (fun s _ => ⟨Nat, fun i => ⟨[(0, true, .str s), (2, true, .bool false), (3, true, .int .i64 i)], []⟩, fun i => i ≤ s.length ∧ s.length ≤ 12 ∧ (s.take i).all (fun b => decide (32 ≤ b.toNat) && decide (b.toNat ≤ 126)) = true, fun i => s.length - i⟩) a n)) [] Tryz.func163 (by kernel_rfl) (code := _) (by unfold Tryz.f163; rfl) (by kernel_rfl) (by decide) (fun _ => ⟨(), trivial⟩) (by intro h; first | exact fun _ => rfl | cases h) (by kernel_rfl) ?_
  intro (s : Str) _
  simp -implicitDefEqProofs [cLineOk, Con.fn, tTab]
  try dsimp only
  try simp +contextual [eStr, eFile, cast_succ, cast_eq, cast_zero, List.getElem?_eq_getElem, eStrs_set, eFiles_set, eStrs_rep, eFiles_rep, ← eStrs_append, ← eFiles_append, eStrs_take, eStrs_drop, eFiles_take, eFiles_drop, eStrs_snoc, eFiles_snoc, and_assoc]
  repeat' (first | intro _ | apply And.intro)
  all_goals first | omega | grind [all_take, lineB, List.take_succ_eq_append_getElem]
def cL1Line : Con := .fn 23 Str (fun s => [.str s]) (fun _ => True) (fun s => .bool (lineB s)) (fun _ => [])
theorem l1Line_has : Has Tryz.prog 204 cL1Line := by
  refine has_walk mixed tTab_ok (l := []) HasL.nil [0, 2, 3] ((fun a n (_ : Nat) => (fun s _ => ⟨Nat, fun i => ⟨[(0, true, .str s), (2, true, .bool false), (3, true, .int .i64 i)], []⟩, fun i => i ≤ s.length ∧ (s.take i).all (fun b => decide (32 ≤ b.toNat) && decide (b.toNat ≤ 126)) = true, fun i => s.length - i⟩) a n)) [] Tryz.func204 (by kernel_rfl) (code := _) (by unfold Tryz.f204; rfl) (by kernel_rfl) (by decide) (fun _ => ⟨(), trivial⟩) (by intro h; first | exact fun _ => rfl | cases h) (by kernel_rfl) ?_
  intro (s : Str) _
  simp -implicitDefEqProofs [cL1Line, Con.fn, tTab]
  try dsimp only
  try simp +contextual [eStr, eFile, cast_succ, cast_eq, cast_zero, List.getElem?_eq_getElem, eStrs_set, eFiles_set, eStrs_rep, eFiles_rep, ← eStrs_append, ← eFiles_append, eStrs_take, eStrs_drop, eFiles_take, eFiles_drop, eStrs_snoc, eFiles_snoc, and_assoc]
  repeat' (first | intro _ | apply And.intro)
  all_goals first | omega | grind [all_take, lineB, List.take_succ_eq_append_getElem]
end Vx
end Go.Proofs.YtnanellmaelipaaGreatDoor
namespace Go.Proofs.YtnanellmaelipaaGreatDoor
set_option maxHeartbeats 4000000
namespace Vx
open Go.RowKit
def textB (t : List Str) : Bool := decide (t.length ≤ 10) && t.all lineB
def cTextOk : Con := .fn 18 (List Str) (fun t => [.sl true 1 (eStrs t)]) (fun _ => True) (fun t => .bool (textB t)) (fun _ => [])
theorem textOk_has : Has Tryz.prog 109 cTextOk := by
  refine has_walk mixed tTab_ok (l := [(163, cLineOk)]) (HasL.cons lineOk_has HasL.nil) [0, 2, 4, 8, 9, 10] ((fun a n (_ : Nat) => (fun t _ => ⟨Nat, fun i => ⟨[(2, true, .bool false), (8, true, .sl true 1 (eStrs t)), (9, true, .int .i64 t.length), (10, true, .int .i64 i)], []⟩, fun i => i ≤ t.length ∧ t.length ≤ 10 ∧ (t.take i).all lineB = true, fun i => t.length - i⟩) a n)) [] Tryz.func109 (by kernel_rfl) (code := _) (by unfold Tryz.f109; rfl) (by kernel_rfl) (by decide) (fun _ => ⟨(), trivial⟩) (by intro h; first | exact fun _ => rfl | cases h) (by kernel_rfl) ?_
  intro (t : List Str) _
  simp -implicitDefEqProofs [cTextOk, Con.fn, tTab, cLineOk]
  try dsimp only
  try simp +contextual [eStr, eFile, cast_succ, cast_eq, cast_zero, List.getElem?_eq_getElem, eStrs_set, eFiles_set, eStrs_rep, eFiles_rep, ← eStrs_append, ← eFiles_append, eStrs_take, eStrs_drop, eFiles_take, eFiles_drop, eStrs_snoc, eFiles_snoc, and_assoc]
  repeat' (first | intro _ | apply And.intro)
  all_goals first | omega | grind [all_take, textB, List.take_succ_eq_append_getElem]
def cL1Ok : Con := .fn 19 (List Str) (fun t => [.sl true 1 (eStrs t)]) (fun _ => True) (fun t => .bool (textB t)) (fun _ => [])
theorem l1Ok_has : Has Tryz.prog 165 cL1Ok := by
  refine has_walk mixed tTab_ok (l := [(204, cL1Line)]) (HasL.cons l1Line_has HasL.nil) [0, 2, 3] ((fun a n (_ : Nat) => (fun t _ => ⟨Nat, fun i => ⟨[(0, true, .sl true 1 (eStrs t)), (2, true, .bool false), (3, true, .int .i64 i)], []⟩, fun i => i ≤ t.length ∧ (t.take i).all lineB = true, fun i => t.length - i⟩) a n)) [] Tryz.func165 (by kernel_rfl) (code := _) (by unfold Tryz.f165; rfl) (by kernel_rfl) (by decide) (fun _ => ⟨(), trivial⟩) (by intro h; first | exact fun _ => rfl | cases h) (by kernel_rfl) ?_
  intro (t : List Str) _
  simp -implicitDefEqProofs [cL1Ok, Con.fn, tTab, cL1Line]
  try dsimp only
  try simp +contextual [eStr, eFile, cast_succ, cast_eq, cast_zero, List.getElem?_eq_getElem, eStrs_set, eFiles_set, eStrs_rep, eFiles_rep, ← eStrs_append, ← eFiles_append, eStrs_take, eStrs_drop, eFiles_take, eFiles_drop, eStrs_snoc, eFiles_snoc, and_assoc]
  repeat' (first | intro _ | apply And.intro)
  all_goals first | omega | grind [all_take, textB, List.take_succ_eq_append_getElem]
end Vx
end Go.Proofs.YtnanellmaelipaaGreatDoor
namespace Go.Proofs.YtnanellmaelipaaGreatDoor
namespace Vx
open Go.RowKit
abbrev ownStrs (h : Nat) (a : List Str) : List (Nat × Blk) := [(h, .own 9 1 true (eStrs a))]
abbrev ownFiles (h : Nat) (a : List FileD) : List (Nat × Blk) := [(h, .own 61 2 true (eFiles a))]
end Vx
end Go.Proofs.YtnanellmaelipaaGreatDoor
namespace Go.Proofs.YtnanellmaelipaaGreatDoor
namespace Vx
open Go.RowKit
end Vx
end Go.Proofs.YtnanellmaelipaaGreatDoor
namespace Go.Proofs.YtnanellmaelipaaGreatDoor
namespace Vx
open Go.RowKit
end Vx
end Go.Proofs.YtnanellmaelipaaGreatDoor
namespace Go.Proofs.YtnanellmaelipaaGreatDoor
set_option maxHeartbeats 4000000
namespace Vx
open Go.RowKit
def prefB (p s : Str) : Bool := decide (p.length ≤ s.length) && decide (s.take p.length = p)
def cSlHasPrefix : Con := .fn 18 (Str × Str) (fun a => [.str a.1, .str a.2]) (fun _ => True) (fun a => .bool (prefB a.2 a.1)) (fun _ => [])
theorem slHasPrefix_has : Has Tryz.prog 222 cSlHasPrefix := by
  refine has_walk mixed tTab_ok (l := []) HasL.nil [0, 1, 4] ((fun a n (_ : Nat) => (fun _ => noInv) a n)) [] Tryz.func222 (by kernel_rfl) (code := _) (by unfold Tryz.f222; rfl) (by kernel_rfl) (by decide) (fun _ => ⟨(), trivial⟩) (by intro h; first | exact fun _ => rfl | cases h) (by kernel_rfl) ?_
  intro a _
  obtain ⟨s, p⟩ := a
  simp -implicitDefEqProofs [cSlHasPrefix, Con.fn, tTab, prefB]
  try dsimp only
  try simp +contextual [eStr, eFile, cast_succ, cast_eq, cast_zero, List.getElem?_eq_getElem, eStrs_set, eFiles_set, eStrs_rep, eFiles_rep, ← eStrs_append, ← eFiles_append, eStrs_take, eStrs_drop, eFiles_take, eFiles_drop, eStrs_snoc, eFiles_snoc, and_assoc]
  repeat' (first | intro _ | apply And.intro)
  all_goals first | omega | grind [all_take]
def cHasPrefix : Con := .fn 8 (Str × Str) (fun a => [.str a.1, .str a.2]) (fun _ => True) (fun a => .bool (prefB a.2 a.1)) (fun _ => [])
theorem hasPrefix_has : Has Tryz.prog 198 cHasPrefix := by
  refine has_walk mixed tTab_ok (l := [(222, cSlHasPrefix)]) (HasL.cons slHasPrefix_has HasL.nil) [0, 1, 4] ((fun a n (_ : Nat) => (fun _ => noInv) a n)) [] Tryz.func198 (by kernel_rfl) (code := _) (by unfold Tryz.f198; rfl) (by kernel_rfl) (by decide) (fun _ => ⟨(), trivial⟩) (by intro h; first | exact fun _ => rfl | cases h) (by kernel_rfl) ?_
  intro a _
  obtain ⟨s, p⟩ := a
  simp -implicitDefEqProofs [cHasPrefix, Con.fn, tTab, cSlHasPrefix]
  try dsimp only
  try simp +contextual [eStr, eFile, cast_succ, cast_eq, cast_zero, List.getElem?_eq_getElem, eStrs_set, eFiles_set, eStrs_rep, eFiles_rep, ← eStrs_append, ← eFiles_append, eStrs_take, eStrs_drop, eFiles_take, eFiles_drop, eStrs_snoc, eFiles_snoc, and_assoc]
  repeat' (first | intro _ | apply And.intro)
  all_goals first | omega | grind [all_take]
def inB (d p : Str) : Bool := decide (d.length < p.length) && decide (p.take d.length = d) && decide (p.getD d.length 0 = 47)
theorem u8_eq (a : UInt8) : ((a.toNat : Int) = 47) = (a = 47) := by
  apply propext
  constructor
  · intro h
    have : a.toNat = 47 := by omega
    exact UInt8.toNat_inj.1 (by simpa using this)
  · rintro rfl; rfl
def cL4In : Con := .fn 25 (Str × Str) (fun a => [.str a.1, .str a.2]) (fun _ => True) (fun a => .bool (inB a.1 a.2)) (fun _ => [])
theorem l4In_has : Has Tryz.prog 166 cL4In := by
  refine has_walk mixed tTab_ok (l := []) HasL.nil [0, 1, 4] ((fun a n (_ : Nat) => (fun _ => noInv) a n)) [] Tryz.func166 (by kernel_rfl) (code := _) (by unfold Tryz.f166; rfl) (by kernel_rfl) (by decide) (fun _ => ⟨(), trivial⟩) (by intro h; first | exact fun _ => rfl | cases h) (by kernel_rfl) ?_
  intro a _
  obtain ⟨d, p⟩ := a
  simp -implicitDefEqProofs [cL4In, Con.fn, tTab, inB, u8_eq]
  try dsimp only
  try simp +contextual [eStr, eFile, cast_succ, cast_eq, cast_zero, List.getElem?_eq_getElem, eStrs_set, eFiles_set, eStrs_rep, eFiles_rep, ← eStrs_append, ← eFiles_append, eStrs_take, eStrs_drop, eFiles_take, eFiles_drop, eStrs_snoc, eFiles_snoc, and_assoc, u8_eq]
  repeat' (first | intro _ | apply And.intro)
  all_goals first | omega | grind [all_take, u8_eq]
def cutL (b : Int) (most : Nat) : Str → Str → Nat → List Str
  | [], c, _ => [c]
  | x :: r, c, n => if n < most then (if (x.toNat : Int) = b then c :: cutL b most r [] (n + 1) else cutL b most r (c ++ [x]) n) else [c ++ x :: r]
theorem cutL_stop {b : Int} {most : Nat} {r c : Str} {n : Nat} (h : most ≤ n) : cutL b most r c n = [c ++ r] := by
  cases r with
  | nil => simp [cutL]
  | cons x r => simp [cutL, Nat.not_lt.2 h]
def pieceAt (s : Str) (fr i : Nat) : Str := (s.drop fr).take (i - fr)
theorem piece_end {s : Str} {fr i : Nat} (h : fr ≤ i) : pieceAt s fr i ++ s.drop i = s.drop fr := by
  unfold pieceAt
  have : s.drop i = (s.drop fr).drop (i - fr) := by rw [List.drop_drop]; congr 1; omega
  rw [this, List.take_append_drop]
theorem piece_len {s : Str} {fr i : Nat} (h : s.length ≤ i) (hf : fr ≤ i) : pieceAt s fr i = s.drop fr := by
  unfold pieceAt
  exact List.take_of_length_le (by rw [List.length_drop]; omega)
theorem piece_zero {s : Str} {fr : Nat} : pieceAt s fr fr = [] := by simp [pieceAt]
theorem piece_step {s : Str} {fr i : Nat} (h : i < s.length) (hf : fr ≤ i) : pieceAt s fr (i + 1) = pieceAt s fr i ++ [s[i]] := by
  unfold pieceAt
  rw [show i + 1 - fr = (i - fr) + 1 by omega, List.take_succ_eq_append_getElem (by rw [List.length_drop]; omega)]
  congr 2
  rw [List.getElem_drop]
  congr 1
  omega
theorem cut_step {b : Int} {most : Nat} {s : Str} {fr i n : Nat} (h : i < s.length) (hf : fr ≤ i) (hn : n < most) :
    cutL b most (s.drop i) (pieceAt s fr i) n = if (s[i].toNat : Int) = b then pieceAt s fr i :: cutL b most (s.drop (i + 1)) (pieceAt s (i + 1) (i + 1)) (n + 1) else cutL b most (s.drop (i + 1)) (pieceAt s fr (i + 1)) n := by
  rw [List.drop_eq_getElem_cons h, piece_zero, piece_step h hf]
  simp [cutL, hn]
theorem cut_end {b : Int} {most : Nat} {s : Str} {fr i n : Nat} (h : s.length ≤ i) (hf : fr ≤ i) : cutL b most (s.drop i) (pieceAt s fr i) n = [s.drop fr] := by
  rw [List.drop_eq_nil_of_le h, ← piece_len h hf]; rfl
theorem cut_most {b : Int} {most : Nat} {s : Str} {fr i n : Nat} (h : most ≤ n) (hf : fr ≤ i) : cutL b most (s.drop i) (pieceAt s fr i) n = [s.drop fr] := by
  rw [cutL_stop h, piece_end hf]
def cutB (s : Str) (b : Int) (most : Nat) : List Str := cutL b most s [] 0
end Vx
end Go.Proofs.YtnanellmaelipaaGreatDoor
namespace Go.Proofs.YtnanellmaelipaaGreatDoor
set_option maxHeartbeats 4000000
namespace Vx
open Go.RowKit
theorem piece_eq (s : Str) (fr i : Nat) : (s.drop fr).take (i - fr) = pieceAt s fr i := rfl
theorem piece_full (s : Str) (fr : Nat) : pieceAt s fr s.length = s.drop fr := by
  unfold pieceAt
  exact List.take_of_length_le (by rw [List.length_drop]; omega)
def cL1Cut : Con := .fn 43 (Str × Int × Nat) (fun a => [.str a.1, .int .u8 a.2.1, .int .i64 a.2.2]) (fun a => a.2.2 ≤ 1000000) (fun a => .own 8 1 (eStrs (cutB a.1 a.2.1 a.2.2))) (fun a => ownStrs 8 (cutB a.1 a.2.1 a.2.2))
theorem l1Cut_has : Has Tryz.prog 203 cL1Cut := by
  refine has_walk mixed tTab_ok (l := []) HasL.nil [0, 1, 2, 6, 7, 8, 9] ((fun a n (_ : Nat) => (fun a _ => ⟨List Str × Nat × Nat, fun t => ⟨[(0, true, .str a.1), (1, true, .int .u8 a.2.1), (2, true, .int .i64 a.2.2), (6, true, .nil), (7, true, .own 9 1 (eStrs t.1)), (8, true, .int .i64 t.2.1), (9, true, .int .i64 t.2.2)], ownStrs 9 t.1⟩, fun t => t.2.1 ≤ t.2.2 ∧ t.2.2 ≤ a.1.length ∧ t.1.length ≤ a.2.2 ∧ t.1 ++ cutL a.2.1 a.2.2 (a.1.drop t.2.2) (pieceAt a.1 t.2.1 t.2.2) t.1.length = cutB a.1 a.2.1 a.2.2, fun t => a.1.length - t.2.2⟩) a n)) [] Tryz.func203 (by kernel_rfl) (code := _) (by unfold Tryz.f203; rfl) (by kernel_rfl) (by decide) (fun _ => ⟨(), trivial⟩) (by intro h; first | exact fun _ => rfl | cases h) (by kernel_rfl) ?_
  intro a ha
  obtain ⟨s, b, most⟩ := a
  replace ha : most ≤ 1000000 := ha
  have hs : cutL b most s (pieceAt s 0 0) 0 = cutB s b most := rfl
  simp -implicitDefEqProofs [cL1Cut, Con.fn, tTab]
  try dsimp only
  try simp +contextual [eStr, eFile, cast_succ, cast_eq, cast_zero, List.getElem?_eq_getElem, eStrs_set, eFiles_set, eStrs_rep, eFiles_rep, ← eStrs_append, ← eFiles_append, eStrs_take, eStrs_drop, eFiles_take, eFiles_drop, eStrs_snoc, eFiles_snoc, and_assoc, piece_eq, piece_full]
  repeat' (first | intro _ | apply And.intro)
  all_goals first | omega | grind [all_take, cut_step, cut_end, cut_most]
end Vx
end Go.Proofs.YtnanellmaelipaaGreatDoor
namespace Go.Proofs.YtnanellmaelipaaGreatDoor
set_option maxHeartbeats 4000000
namespace Vx
open Go.RowKit
theorem cast_three (a : Nat) : ((a : Int) = 3) = (a = 3) := by apply propext; omega
def pathS (s : Str) : Bool := (cutB s 47 3).all nameB && decide ((cutB s 47 3).length ≤ 3)
def cL4Path : Con := .fn 22 Str (fun s => [.str s]) (fun _ => True) (fun s => .bool (pathS s)) (fun _ => [])
theorem l4Path_has : Has Tryz.prog 164 cL4Path := by
  refine has_walk mixed tTab_ok (l := [(203, cL1Cut), (95, cL4Name)]) (HasL.cons l1Cut_has (HasL.cons l4Name_has HasL.nil)) [0, 2, 3, 4] ((fun a n (_ : Nat) => (fun s _ => ⟨Nat, fun i => ⟨[(2, true, .bool false), (3, true, .own 9 1 (eStrs (cutB s 47 3))), (4, true, .int .i64 i)], ownStrs 9 (cutB s 47 3)⟩, fun i => i ≤ (cutB s 47 3).length ∧ ((cutB s 47 3).take i).all nameB = true, fun i => (cutB s 47 3).length - i⟩) a n)) [] Tryz.func164 (by kernel_rfl) (code := _) (by unfold Tryz.f164; rfl) (by kernel_rfl) (by decide) (fun _ => ⟨(), trivial⟩) (by intro h; first | exact fun _ => rfl | cases h) (by kernel_rfl) ?_
  intro (s : Str) _
  simp -implicitDefEqProofs [cL4Path, Con.fn, tTab, cL1Cut, cL4Name]
  try dsimp only
  try simp +contextual [eStr, eFile, cast_succ, cast_eq, cast_zero, List.getElem?_eq_getElem, eStrs_set, eFiles_set, eStrs_rep, eFiles_rep, ← eStrs_append, ← eFiles_append, eStrs_take, eStrs_drop, eFiles_take, eFiles_drop, eStrs_snoc, eFiles_snoc, and_assoc, cast_three]
  repeat' (first | intro _ | apply And.intro)
  all_goals first | omega | grind [all_take, pathS, List.take_succ_eq_append_getElem]
end Vx
end Go.Proofs.YtnanellmaelipaaGreatDoor
namespace Go.Proofs.YtnanellmaelipaaGreatDoor
set_option maxHeartbeats 4000000
namespace Vx
open Go.RowKit
def leqS (a b : Str) : Bool := Go.Op.bytesLess a b || decide (a = b)
def okHead (t : List FileD) (i : Nat) : Bool := pathS (t.getD i default).path && textB (t.getD i default).text && (decide (i = 0) || !leqS (t.getD i default).path (t.getD (i - 1) default).path)
def noIn (t : List FileD) (i : Nat) : Bool := t.all fun g => !inB (t.getD i default).path g.path
def treeS (t : List FileD) : Bool := (List.range t.length).all (fun i => okHead t i && noIn t i) && decide (t.length ≤ 8)
def cL4Ok : Con := .fn 65 (List FileD) (fun t => [.sl true 2 (eFiles t)]) (fun _ => True) (fun t => .bool (treeS t)) (fun _ => [])
def l4OkO (t : List FileD) : Inv := ⟨Nat, fun i => ⟨[(0, true, .sl true 2 (eFiles t)), (2, true, .bool false), (3, true, .int .i64 i)], []⟩, fun i => i ≤ t.length ∧ ∀ j, j < i → okHead t j = true ∧ noIn t j = true, fun i => t.length - i⟩
def l4OkI (t : List FileD) (g : Nat) : Inv := ⟨Nat, fun k => ⟨[(0, true, .sl true 2 (eFiles t)), (2, true, .bool false), (3, true, .int .i64 g), (4, true, .int .i64 k)], []⟩, fun x => g < t.length ∧ x ≤ t.length ∧ (∀ j, j < g → okHead t j = true ∧ noIn t j = true) ∧ okHead t g = true ∧ ∀ k, k < x → inB (t.getD g default).path (t.getD k default).path = false, fun x => t.length - x⟩
def l4OkInv (t : List FileD) (n g : Nat) : Inv := if n = 2 then l4OkO t else l4OkI t g
theorem l4OkInv_2 (t : List FileD) (g : Nat) : l4OkInv t 2 g = l4OkO t := rfl
theorem l4OkInv_7 (t : List FileD) (g : Nat) : l4OkInv t 7 g = l4OkI t g := rfl
set_option maxRecDepth 8000
theorem l4Ok_has : Has Tryz.prog 110 cL4Ok := by
  refine has_walk mixed tTab_ok (l := [(164, cL4Path), (165, cL1Ok), (166, cL4In), (84, cL1In)]) (HasL.cons l4Path_has (HasL.cons l1Ok_has (HasL.cons l4In_has (HasL.cons l1In_has HasL.nil)))) [0, 2, 3, 4] (fun t => l4OkInv t) [] Tryz.func110 (by kernel_rfl) (code := _) (by unfold Tryz.f110; rfl) (by kernel_rfl) (by decide) (fun _ => ⟨(), trivial⟩) (by intro h; first | exact fun _ => rfl | cases h) (by kernel_rfl) ?_
  intro (t : List FileD) _
  have hs : ∀ i, t.length ≤ i → ¬ i < t.length := by omega
  have hE : treeS t = true ↔ (∀ i, i < t.length → okHead t i = true ∧ noIn t i = true) ∧ t.length ≤ 8 := by
    simp [treeS]
  have hF : ∀ i, i < t.length → (okHead t i && noIn t i) = false → treeS t = false := by
    intro i hi h
    rcases hb : treeS t with _ | _
    · rfl
    · exact absurd ((hE.1 hb).1 i hi) (by simpa using h)
  have hH : ∀ i, i < t.length → okHead t i = false → treeS t = false := fun i hi h => hF i hi (by simp [h])
  have hN : ∀ i k, i < t.length → k < t.length → inB (t.getD i default).path (t.getD k default).path = true → treeS t = false := by
    intro i k hi hk h
    refine hF i hi ?_
    have : noIn t i = false := by
      simp only [noIn, List.all_eq_false]
      exact ⟨t[k], List.getElem_mem hk, by simp [List.getD_eq_getElem?_getD, hk] at h ⊢; simpa [hk] using h⟩
    simp [this]
  have hI : ∀ i, (∀ k, k < t.length → inB (t.getD i default).path (t.getD k default).path = false) → noIn t i = true := by
    intro i h
    simp only [noIn, List.all_eq_true]
    intro g hg
    obtain ⟨k, hk, rfl⟩ := List.getElem_of_mem hg
    have := h k hk
    simpa [List.getD_eq_getElem?_getD, hk] using this
  simp -implicitDefEqProofs [cL4Ok, Con.fn, tTab, cL4Path, cL1Ok, cL4In, cL1In, l4OkInv_2, l4OkInv_7, l4OkO, l4OkI]
  try dsimp only
  intro i hi hj hl
  have e1 : ∀ k (h : k < t.length), Option.map eFile t[k]? = some (eFile t[k]) := by
    intro k h
    simp [List.getElem?_eq_getElem h]
  have e2 : i < t.length → i - 1 < t.length := by omega
  constructor
  · intro hlt
    have e3 := e1 i hlt
    have e4 := e1 (i - 1) (e2 hlt)
    simp [hlt, e2 hlt, e3, e4, eFile, eStr, D.asStr, D.asRows]
    try simp +contextual [eStr, eFile, cast_succ, cast_eq, cast_zero, List.getElem?_eq_getElem, eStrs_set, eFiles_set, eStrs_rep, eFiles_rep, ← eStrs_append, ← eFiles_append, eStrs_take, eStrs_drop, eFiles_take, eFiles_drop, eStrs_snoc, eFiles_snoc, and_assoc]
    repeat' (first | intro _ | apply And.intro)
    all_goals first | omega | grind [all_take, okHead, leqS]
  · have hX : t.length ≤ i → treeS t = decide (t.length ≤ 8) := by
      intro h
      have : treeS t = true ↔ t.length ≤ 8 := by
        rw [hE]
        exact ⟨fun h => h.2, fun h8 => ⟨fun j hj' => hj j (by omega), h8⟩⟩
      cases h' : treeS t <;> simp_all
    try simp +contextual [eStr, eFile, cast_succ, cast_eq, cast_zero, List.getElem?_eq_getElem, eStrs_set, eFiles_set, eStrs_rep, eFiles_rep, ← eStrs_append, ← eFiles_append, eStrs_take, eStrs_drop, eFiles_take, eFiles_drop, eStrs_snoc, eFiles_snoc, and_assoc]
    repeat' (first | intro _ | apply And.intro)
    all_goals first | omega | grind [all_take, okHead, leqS]
end Vx
end Go.Proofs.YtnanellmaelipaaGreatDoor
namespace Go.Proofs.YtnanellmaelipaaGreatDoor
namespace Vx
open Go.RowKit
theorem treeS_le (t : List FileD) (h : treeS t = true) : t.length ≤ 8 ∧ ∀ f ∈ t, f.text.length ≤ 64 := by
  simp only [treeS, Bool.and_eq_true, decide_eq_true_eq, List.all_eq_true, List.mem_range, okHead] at h
  refine ⟨h.2, fun f hf => ?_⟩
  obtain ⟨i, hi, rfl⟩ := List.getElem_of_mem hf
  have := (h.1 i hi).1.1.2
  simp [List.getD_eq_getElem?_getD, hi, textB] at this
  omega
end Vx
end Go.Proofs.YtnanellmaelipaaGreatDoor
namespace Go.Proofs.YtnanellmaelipaaGreatDoor
namespace Vx
open Go.RowKit
def scal : AV → Option Value
  | .int k n => some (.int k n)
  | .bool b => some (.bool b)
  | .str s => some (.string ⟨s.toArray⟩)
  | _ => none
theorem scal_rel {w m β c v x u} (h : RelL w m β c [v] [u]) (hs : scal v = some x) : u = x := by
  cases v <;> simp only [scal, Option.some.injEq, reduceCtorEq] at hs
  all_goals cases h; exact hs
theorem scals_rel {w m β c} : ∀ {vs : List AV} {us xs : List Value}, RelL w m β c vs us → vs.mapM scal = some xs → us = xs := by
  intro vs
  induction vs with
  | nil => intro us xs h hm; cases h; simp at hm; exact hm.symm
  | cons v vs ih =>
    intro us xs h hm
    obtain ⟨u, us', rfl, h1, h2⟩ := h.uncons
    rw [List.mapM_cons] at hm
    cases hv : scal v with
    | none => rw [hv] at hm; simp at hm
    | some x =>
      rw [hv] at hm
      cases hvs : vs.mapM scal with
      | none => rw [hvs] at hm; simp at hm
      | some ys =>
        rw [hvs] at hm
        simp at hm
        subst hm
        rw [scal_rel h1 hv, ih h2 hvs]
theorem rel_scal {w m β c v x} (hs : scal v = some x) (hok : ∀ s, v = .str s → s.length ≤ maxLen) : RelL w m β c [v] [x] := by
  cases v <;> simp only [scal, Option.some.injEq, reduceCtorEq] at hs
  all_goals subst hs
  · exact .int .lnil
  · exact .bool .lnil
  · exact .str (hok _ rfl) .lnil
theorem start_rel {c : Cx} {k : Con} {x : k.A} {vs : List Value} {w β fp} (hl : vs.length = (k.args x).length) (S : SatI c (k.start2 x) ⟨vs.toArray ++ Array.replicate (k.n - vs.length) undef, []⟩ w β fp) :
    RelL w (k.start2 x).m β c (k.args x) vs := by
  have key : ∀ (i : Nat) (v : AV) (u : Value), (k.args x)[i]? = some v → vs[i]? = some u → RelL w (k.start2 x).m β c [v] [u] := by
    intro i v u hv hu
    have := (S.env i true v (by simp [Con.start2, hv])).2.1 rfl
    have hi : i < vs.length := (List.getElem?_eq_some_iff.1 hu).1
    have e : (vs.toArray ++ Array.replicate (k.n - vs.length) undef).getD i undef = u := by
      rw [Array.getD_eq_getD_getElem?, Array.getElem?_append_left (by simpa using hi)]
      simp [hu]
    rw [e] at this
    exact this
  clear S
  generalize k.args x = xs at hl key
  induction xs generalizing vs with
  | nil => cases vs with | nil => exact .lnil | cons => simp at hl
  | cons v xs ih =>
    cases vs with
    | nil => simp at hl
    | cons u vs =>
      exact (key 0 v u rfl rfl).append (ih (by simpa using hl) fun i v' u' h1 h2 => key (i + 1) v' u' h1 h2)
theorem has_pure {P : Program} {f : Nat} {n : Nat} {A : Type} {args : A → List AV} {pre : A → Prop} {res : A → AV} {rv : A → Value}
    (henter : ∀ args w, (callFunc f args).run P w = .ok (.enter f args) w) (hres : ∀ a, scal (res a) = some (rv a)) (hstr : ∀ a s, pre a → res a = .str s → s.length ≤ maxLen)
    (h : ∀ a vs w, pre a → (args a).mapM scal = some vs → Calls P f vs.toArray w fun e w' => e = .returned (rv a) ∧ w' = w) (hsc : ∀ a, ∃ vs, (args a).mapM scal = some vs) :
    Has P f (.fn n A args pre res (fun _ => [])) := by
  refine ⟨henter, fun _ => ⟨(), trivial⟩, fun _ _ => rfl, ?_, trivial, .inl rfl⟩
  intro a hp c _ vs β fp hcn hpins hl1 hl2 S
  obtain ⟨us, hus⟩ := hsc a
  have hvs : vs = us := scals_rel (start_rel hl1 S) hus
  subst hvs
  refine (h a vs c.w0 hp hus).mono ?_
  rintro e w' ⟨rfl, rfl⟩
  refine ⟨(), trivial, rv a, rfl, β, fp, ⟨Array.replicate c.n undef, []⟩, ⟨?_, ?_, ?_, ?_, ?_, S.fg, S.old, S.os, S.tape, S.output, S.size, rfl, by simp, ?_⟩, ?_⟩
  · intro t g av ht; cases ht
  · intro h blk hm; cases hm
  · intro h blk hm; cases hm
  · intro h h' blk blk' hm; cases hm
  · intro h blk hm; cases hm
  · rw [hpins]; intro p hp; simp [Con.pins2] at hp
  · exact rel_scal (hres a) (fun s hs => hstr a s hp hs)
set_option maxHeartbeats 1000000 in
set_option maxRecDepth 100000 in
theorem indexByte_call (s : ByteArray) (c : Int) (w : World) :
    Calls Tryz.prog 291 #[.string s, .int .u8 c] w fun e w' => e = .returned (.int .i64 (Lib.indexByte s.data.toList c.toNat.toUInt8)) ∧ w' = w := by
  go_enter Tryz.func291, Tryz.ntmps291
  go_wp2
  rw [run_callFunc_extern Tryz.func296 (by kernel_rfl) (by kernel_rfl) (by kernel_rfl) (e := Extern.BytealgIndexByte.indexByte) (by kernel_rfl), Lib.run_indexByteString]
  simp only [Result.andThen]
  rw [Oper.upon_value]
  go_wp2
  go_ret
  exact ⟨rfl, rfl⟩
set_option maxHeartbeats 2000000 in
set_option maxRecDepth 100000 in
theorem indexOne_call (s : ByteArray) (c : UInt8) (w : World) :
    Calls Tryz.prog 283 #[.string s, .string ⟨#[c]⟩] w fun e w' => e = .returned (.int .i64 (Lib.indexByte s.data.toList c)) ∧ w' = w := by
  go_enter Tryz.func283, Tryz.ntmps283
  go_wp2_with (go_at_call 291; refine (indexByte_call _ _ _).mono ?_; rintro e w' ⟨rfl, rfl⟩)
  · have h : ([c] == s.toList) = true := by assumption
    go_ret
    refine ⟨?_, rfl⟩
    have e : s.data.toList = [c] := by rw [← Lib.toList_data]; exact (beq_iff_eq.1 h).symm
    rw [e]
    simp [Lib.indexByte]
  · go_ret
    exact ⟨rfl, rfl⟩
set_option maxHeartbeats 2000000 in
set_option maxRecDepth 100000 in
theorem stringsIndexOne_call (s : ByteArray) (c : UInt8) (w : World) :
    Calls Tryz.prog 259 #[.string s, .string ⟨#[c]⟩] w fun e w' => e = .returned (.int .i64 (Lib.indexByte s.data.toList c)) ∧ w' = w := by
  go_enter Tryz.func259, Tryz.ntmps259
  go_wp2_with (go_at_call 283; refine (indexOne_call _ _ _).mono ?_; rintro e w' ⟨rfl, rfl⟩)
  go_ret
  exact ⟨rfl, rfl⟩
set_option maxHeartbeats 1000000 in
set_option maxRecDepth 100000 in
theorem countOne_call (s : ByteArray) (c : UInt8) (w : World) :
    Calls Tryz.prog 258 #[.string s, .string ⟨#[c]⟩] w fun e w' => e = .returned (.int .i64 (Lib.countByte s.data.toList c)) ∧ w' = w := by
  go_enter Tryz.func258, Tryz.ntmps258
  go_wp2
  rw [run_callFunc_extern Tryz.func282 (by kernel_rfl) (by kernel_rfl) (by kernel_rfl) (e := Extern.BytealgCount.count) (by kernel_rfl), Lib.run_countString]
  simp only [Result.andThen]
  rw [Oper.upon_value]
  go_wp2
  go_ret
  exact ⟨rfl, rfl⟩
def idxB : Str → UInt8 → Int
  | [], _ => -1
  | b :: l, c => if b = c then 0 else if idxB l c < 0 then -1 else idxB l c + 1
theorem idxB_lib (s : Str) (c : UInt8) : Lib.indexByte s c = idxB s c := by
  induction s with
  | nil => rfl
  | cons b l ih =>
    have hge := Lib.indexByte_ge l c
    simp only [Lib.indexByte, idxB, ih] at hge ⊢
    by_cases hb : b = c
    · simp [hb]
    · simp only [beq_iff_eq, hb, if_false]
      by_cases h : idxB l c < 0
      · rw [if_pos h, if_pos (by omega)]
      · rw [if_neg h, if_neg (by omega)]
def cStringsIndex : Con := .fn 8 (Str × UInt8) (fun a => [.str a.1, .str [a.2]]) (fun _ => True) (fun a => .int .i64 (idxB a.1 a.2)) (fun _ => [])
theorem stringsIndex_has : Has Tryz.prog 259 cStringsIndex :=
  has_pure (rv := fun a => .int .i64 (idxB a.1 a.2)) (fun args w => Go.MuLone.run_callFunc_enter Tryz.func259 (by kernel_rfl) rfl args w) (fun _ => rfl) (fun a s _ h => by cases h)
    (fun a vs w _ hv => by
      obtain ⟨s, c⟩ := a
      simp [scal] at hv
      subst hv
      have := stringsIndexOne_call ⟨s.toArray⟩ c w
      simpa [idxB_lib] using this) (fun a => ⟨_, rfl⟩)
def cStringsCount : Con := .fn 34 (Str × UInt8) (fun a => [.str a.1, .str [a.2]]) (fun _ => True) (fun a => .int .i64 (a.1.count a.2)) (fun _ => [])
theorem stringsCount_has : Has Tryz.prog 258 cStringsCount :=
  has_pure (rv := fun a => .int .i64 (a.1.count a.2)) (fun args w => Go.MuLone.run_callFunc_enter Tryz.func258 (by kernel_rfl) rfl args w) (fun _ => rfl) (fun a s _ h => by cases h)
    (fun a vs w _ hv => by
      obtain ⟨s, c⟩ := a
      simp [scal] at hv
      subst hv
      have := countOne_call ⟨s.toArray⟩ c w
      simpa [Lib.countByte] using this) (fun a => ⟨_, rfl⟩)
end Vx
end Go.Proofs.YtnanellmaelipaaGreatDoor
namespace Go.Proofs.YtnanellmaelipaaGreatDoor
set_option maxHeartbeats 4000000
namespace Vx
open Go.RowKit
def spl (c : UInt8) : Str → Str → List Str
  | [], p => [p]
  | x :: r, p => if x = c then p :: spl c r [] else spl c r (p ++ [x])
theorem idxB_lt (s : Str) (c : UInt8) : idxB s c < s.length := by
  induction s with
  | nil => simp [idxB]
  | cons b l ih =>
    simp only [idxB, List.length_cons]
    split
    · omega
    · split <;> omega
theorem spl_none {c : UInt8} : ∀ {s p : Str}, idxB s c < 0 → spl c s p = [p ++ s] ∧ s.count c = 0 := by
  intro s
  induction s with
  | nil => intro p _; simp [spl]
  | cons b l ih =>
    intro p h
    simp only [idxB] at h
    split at h
    · omega
    · rename_i hb
      split at h
      · rename_i hl
        have := ih (p := p ++ [b]) hl
        simp only [spl, if_neg hb]
        refine ⟨by rw [this.1]; simp, ?_⟩
        rw [List.count_cons, this.2]
        simp [hb]
      · omega
theorem spl_some {c : UInt8} : ∀ {s p : Str}, 0 ≤ idxB s c → spl c s p = (p ++ s.take (idxB s c).toNat) :: spl c (s.drop ((idxB s c).toNat + 1)) [] ∧ s.count c = (s.drop ((idxB s c).toNat + 1)).count c + 1 := by
  intro s
  induction s with
  | nil => intro p h; simp [idxB] at h
  | cons b l ih =>
    intro p h
    by_cases hb : b = c
    · subst hb
      simp [idxB, spl]
    · simp only [idxB, if_neg hb] at h ⊢
      split at h
      · omega
      · rename_i hl
        rw [if_neg hl]
        obtain ⟨h1, h2⟩ := ih (p := p ++ [b]) (by omega)
        have e : (idxB l c + 1).toNat = (idxB l c).toNat + 1 := by omega
        rw [e]
        simp only [spl, if_neg hb, List.take_succ_cons, List.drop_succ_cons]
        refine ⟨by rw [h1]; simp, ?_⟩
        rw [List.count_cons, h2]
        simp [hb]
theorem spl_len (c : UInt8) : ∀ (s p : Str), (spl c s p).length = s.count c + 1 := by
  intro s
  induction s with
  | nil => intro p; simp [spl]
  | cons b l ih =>
    intro p
    simp only [spl]
    split
    · rename_i h
      subst h
      simp [ih]
    · rename_i h
      rw [ih, List.count_cons]
      simp [h]
theorem set_rep {α : Type} (d : List α) (k : Nat) (z x : α) (h : 0 < k) : (d ++ List.replicate k z).set d.length x = (d ++ [x]) ++ List.replicate (k - 1) z := by
  obtain ⟨k, rfl⟩ : ∃ j, k = j + 1 := ⟨k - 1, by omega⟩
  rw [List.set_append_right _ _ (Nat.le_refl _)]
  simp [List.replicate_succ]
def cGenSplit : Con := .fn 66 (Str × UInt8) (fun a => [.str a.1, .str [a.2], .int .i64 0, .int .i64 (-1)]) (fun a => a.1.length ≤ 1073741824) (fun a => .sl false 1 (eStrs (spl a.2 a.1 []))) (fun _ => [])
def gsArr (N : Nat) (d : List Str) : List Str := d ++ List.replicate (N - d.length) []
theorem gsArr_len (N : Nat) (d : List Str) (h : d.length ≤ N) : (gsArr N d).length = N := by simp [gsArr]; omega
theorem gsArr_set (N : Nat) (d : List Str) (x : Str) (h : d.length < N) : (gsArr N d).set d.length x = gsArr N (d ++ [x]) := by
  unfold gsArr
  rw [set_rep _ _ _ _ (by omega)]
  simp only [List.length_append, List.length_cons, List.length_nil]
  congr 2
theorem gsArr_nil (N : Nat) : gsArr N [] = List.replicate N [] := by simp [gsArr]
set_option maxRecDepth 8000
theorem genSplit_has : Has Tryz.prog 221 cGenSplit := by
  refine has_walk mixed tTab_ok (l := [(258, cStringsCount), (259, cStringsIndex)]) (HasL.cons stringsCount_has (HasL.cons stringsIndex_has HasL.nil)) [0, 1, 2, 3, 8, 9, 10, 11] ((fun a n (_ : Nat) => (fun a _ => ⟨List Str × Str, fun t => ⟨[(0, true, .str t.2), (1, true, .str [a.2]), (2, true, .int .i64 0), (3, true, .int .i64 (a.1.count a.2)), (8, true, .nil), (9, true, .own 9 1 (eStrs (gsArr (a.1.count a.2 + 1) t.1))), (10, true, .int .i64 t.1.length)], ownStrs 9 (gsArr (a.1.count a.2 + 1) t.1)⟩, fun t => t.1.length + t.2.count a.2 = a.1.count a.2 ∧ t.2.length ≤ a.1.length ∧ t.1 ++ spl a.2 t.2 [] = spl a.2 a.1 [], fun t => a.1.count a.2 - t.1.length⟩) a n)) [] Tryz.func221 (by kernel_rfl) (code := _) (by unfold Tryz.f221; rfl) (by kernel_rfl) (by decide) (fun _ => ⟨(), trivial⟩) (by intro h; first | exact fun _ => rfl | cases h) (by kernel_rfl) ?_
  intro a ha
  obtain ⟨s, c⟩ := a
  replace ha : s.length ≤ 1073741824 := ha
  have hc : s.count c ≤ s.length := List.count_le_length
  simp -implicitDefEqProofs [cGenSplit, cStringsCount, cStringsIndex, Con.fn, tTab]
  try dsimp only
  have hif : ¬ s.length < s.count c := by omega
  have hr : (List.replicate ((s.count c : Int) + 1).toNat [D.str []]) = eStrs (gsArr (s.count c + 1) []) := by
    rw [show ((s.count c : Int) + 1).toNat = s.count c + 1 by omega, gsArr_nil, eStrs_rep]
  have K1 : ∀ (a : List Str) (b : Str), a.length + b.count c = s.count c → a.length < (gsArr (s.count c + 1) a).length := fun a b h => by rw [gsArr_len _ _ (by omega)]; omega
  have K2 : ∀ (a : List Str) (b : Str), a.length + b.count c = s.count c → a ++ spl c b [] = spl c s [] → (idxB b c < 0 ∨ s.count c ≤ a.length) → spl c s [] = ((gsArr (s.count c + 1) a).set a.length b).take (a.length + 1) := by
    intro a b h1 h2 h3
    have h4 : idxB b c < 0 := by
      rcases h3 with h | h
      · exact h
      · refine Classical.byContradiction fun hn => ?_
        have := (spl_some (p := []) (Int.not_lt.1 hn)).2
        omega
    have h5 := spl_none (p := []) h4
    rw [← h2, h5.1, gsArr_set _ _ _ (by omega)]
    unfold gsArr
    rw [List.take_left' (by simp)]
    rfl
  have K3 : ∀ (b : Str), idxB b c < b.length := fun b => idxB_lt b c
  have K4 : ∀ (a : List Str) (b : Str), a.length + b.count c = s.count c → b.length ≤ s.length → a ++ spl c b [] = spl c s [] → 0 ≤ idxB b c →
      ∃ x, gsArr (s.count c + 1) x = (gsArr (s.count c + 1) a).set a.length (b.take (idxB b c).toNat) ∧ x.length = a.length + 1 ∧ (gsArr (s.count c + 1) a).set a.length (b.take (idxB b c).toNat) = gsArr (s.count c + 1) x ∧
        x.length + ((b.drop (idxB b c + 1).toNat).take (b.length - (idxB b c + 1).toNat)).count c = s.count c ∧ b.length ≤ s.length + (idxB b c + 1).toNat ∧
        x ++ spl c ((b.drop (idxB b c + 1).toNat).take (b.length - (idxB b c + 1).toNat)) [] = spl c s [] ∧ s.count c - x.length < s.count c - a.length := by
    intro a b h1 h2 h3 h4
    obtain ⟨h5, h6⟩ := spl_some (p := []) h4
    have e1 : (idxB b c + 1).toNat = (idxB b c).toNat + 1 := by omega
    have e2 : (b.drop (idxB b c + 1).toNat).take (b.length - (idxB b c + 1).toNat) = b.drop ((idxB b c).toNat + 1) := by
      rw [e1]; exact List.take_of_length_le (by simp)
    rw [e2]
    refine ⟨a ++ [b.take (idxB b c).toNat], (gsArr_set _ _ _ (by omega)).symm, by simp, gsArr_set _ _ _ (by omega), by simp; omega, by omega, ?_, by simp; omega⟩
    rw [← h3, h5]
    simp
  simp +contextual [eStr, eFile, cast_succ, cast_eq, cast_zero, List.getElem?_eq_getElem, eStrs_set, eFiles_set, eStrs_rep, eFiles_rep, ← eStrs_append, ← eFiles_append, eStrs_take, eStrs_drop, eFiles_take, eFiles_drop, eStrs_snoc, eFiles_snoc, and_assoc, hif, hr]
  repeat' (first | intro _ | apply And.intro)
  all_goals first | omega | grind [gsArr_nil] | exact K4 _ _ (by omega) (by omega) (by assumption) (by omega)
def cSplit : Con := .fn 8 (Str × UInt8) (fun a => [.str a.1, .str [a.2]]) (fun a => a.1.length ≤ 1073741824) (fun a => .sl false 1 (eStrs (spl a.2 a.1 []))) (fun _ => [])
theorem split_has : Has Tryz.prog 197 cSplit := by
  refine has_walk mixed tTab_ok (l := [(221, cGenSplit)]) (HasL.cons genSplit_has HasL.nil) [0, 1, 4] ((fun a n (_ : Nat) => (fun _ => noInv) a n)) [] Tryz.func197 (by kernel_rfl) (code := _) (by unfold Tryz.f197; rfl) (by kernel_rfl) (by decide) (fun _ => ⟨(), trivial⟩) (by intro h; first | exact fun _ => rfl | cases h) (by kernel_rfl) ?_
  intro a ha
  obtain ⟨s, c⟩ := a
  replace ha : s.length ≤ 1073741824 := ha
  simp -implicitDefEqProofs [cSplit, Con.fn, tTab, cGenSplit]
  try dsimp only
  try simp +contextual [eStr, eFile, cast_succ, cast_eq, cast_zero, List.getElem?_eq_getElem, eStrs_set, eFiles_set, eStrs_rep, eFiles_rep, ← eStrs_append, ← eFiles_append, eStrs_take, eStrs_drop, eFiles_take, eFiles_drop, eStrs_snoc, eFiles_snoc, and_assoc]
  repeat' (first | intro _ | apply And.intro)
  all_goals first | omega | grind [all_take]
def pathI (s : Str) : Bool := decide ((spl 47 s []).length ≤ 3) && (spl 47 s []).all nameB
def cPathOk : Con := .fn 21 Str (fun s => [.str s]) (fun s => s.length ≤ 1073741824) (fun s => .bool (pathI s)) (fun _ => [])
theorem pathOk_has : Has Tryz.prog 154 cPathOk := by
  refine has_walk mixed tTab_ok (l := [(197, cSplit), (91, cNameOk)]) (HasL.cons split_has (HasL.cons nameOk_has HasL.nil)) [0, 2, 3, 5, 11, 12, 13] ((fun a n (_ : Nat) => (fun s _ => ⟨Nat, fun i => ⟨[(2, true, .bool false), (11, true, .sl false 1 (eStrs (spl 47 s []))), (12, true, .int .i64 (spl 47 s []).length), (13, true, .int .i64 i)], []⟩, fun i => i ≤ (spl 47 s []).length ∧ (spl 47 s []).length ≤ 3 ∧ ((spl 47 s []).take i).all nameB = true, fun i => (spl 47 s []).length - i⟩) a n)) [] Tryz.func154 (by kernel_rfl) (code := _) (by unfold Tryz.f154; rfl) (by kernel_rfl) (by decide) (fun _ => ⟨(), trivial⟩) (by intro h; first | exact fun _ => rfl | cases h) (by kernel_rfl) ?_
  intro (s : Str) hs
  replace hs : s.length ≤ 1073741824 := hs
  simp -implicitDefEqProofs [cPathOk, Con.fn, tTab, cSplit, cNameOk]
  try dsimp only
  try simp +contextual [eStr, eFile, cast_succ, cast_eq, cast_zero, List.getElem?_eq_getElem, eStrs_set, eFiles_set, eStrs_rep, eFiles_rep, ← eStrs_append, ← eFiles_append, eStrs_take, eStrs_drop, eFiles_take, eFiles_drop, eStrs_snoc, eFiles_snoc, and_assoc]
  repeat' (first | intro _ | apply And.intro)
  all_goals first | omega | grind [all_take, pathI, List.take_succ_eq_append_getElem]
end Vx
end Go.Proofs.YtnanellmaelipaaGreatDoor
namespace Go.Proofs.YtnanellmaelipaaGreatDoor
set_option maxHeartbeats 4000000
namespace Vx
open Go.RowKit
set_option maxRecDepth 8000
def pathInI (d p : Str) : Bool := pathI d && pathI p && prefB (d ++ [47]) p
def cPathIn : Con := .fn 17 (Str × Str) (fun a => [.str a.1, .str a.2]) (fun a => a.1.length ≤ 536870912 ∧ a.2.length ≤ 536870912) (fun a => .bool (pathInI a.1 a.2)) (fun _ => [])
theorem pathIn_has : Has Tryz.prog 155 cPathIn := by
  refine has_walk mixed tTab_ok (l := [(154, cPathOk), (198, cHasPrefix)]) (HasL.cons pathOk_has (HasL.cons hasPrefix_has HasL.nil)) [0, 1, 4] ((fun a n (_ : Nat) => (fun _ => noInv) a n)) [] Tryz.func155 (by kernel_rfl) (code := _) (by unfold Tryz.f155; rfl) (by kernel_rfl) (by decide) (fun _ => ⟨(), trivial⟩) (by intro h; first | exact fun _ => rfl | cases h) (by kernel_rfl) ?_
  intro a ha
  obtain ⟨d, p⟩ := a
  obtain ⟨h1, h2⟩ : d.length ≤ 536870912 ∧ p.length ≤ 536870912 := ha
  simp -implicitDefEqProofs [cPathIn, Con.fn, tTab, cPathOk, cHasPrefix]
  try dsimp only
  try simp +contextual [eStr, eFile, cast_succ, cast_eq, cast_zero, List.getElem?_eq_getElem, eStrs_set, eFiles_set, eStrs_rep, eFiles_rep, ← eStrs_append, ← eFiles_append, eStrs_take, eStrs_drop, eFiles_take, eFiles_drop, eStrs_snoc, eFiles_snoc, and_assoc]
  repeat' (first | intro _ | apply And.intro)
  all_goals first | omega | grind [all_take, pathInI, maxLen]
def headI (t : List FileD) (i : Nat) : Bool := textB (t.getD i default).text && pathI (t.getD i default).path && (decide (i = 0) || Go.Op.bytesLess (t.getD (i - 1) default).path (t.getD i default).path)
def noUp (t : List FileD) (i : Nat) : Bool := (List.range i).all fun k => !pathInI (t.getD k default).path (t.getD i default).path
def treeI (t : List FileD) : Bool := decide (t.length ≤ 8) && (List.range t.length).all fun i => headI t i && noUp t i
def cTreeOk : Con := .fn 57 (List FileD) (fun t => [.sl true 2 (eFiles t)]) (fun t => ∀ f ∈ t, f.path.length ≤ 536870912) (fun t => .bool (treeI t)) (fun _ => [])
def tiO (t : List FileD) : Inv := ⟨Nat, fun i => ⟨[(0, true, .sl true 2 (eFiles t)), (2, true, .bool false), (10, true, .sl true 2 (eFiles t)), (11, true, .int .i64 t.length), (12, true, .int .i64 i)], []⟩, fun i => i ≤ t.length ∧ t.length ≤ 8 ∧ ∀ j, j < i → headI t j = true ∧ noUp t j = true, fun i => t.length - i⟩
def tiI (t : List FileD) (g : Nat) : Inv := ⟨Nat, fun k => ⟨[(0, true, .sl true 2 (eFiles t)), (2, true, .bool false), (3, true, .int .i64 g), (4, true, .ptr 10 0), (10, true, .sl true 2 (eFiles t)), (11, true, .int .i64 t.length), (12, true, .int .i64 g), (44, true, .sl true 2 (eFiles (t.take g))), (45, true, .int .i64 g), (46, true, .int .i64 k)],
    [(10, .box 61 [.str (t.getD g default).path, .sl true 1 (eStrs (t.getD g default).text)])]⟩, fun x => g < t.length ∧ x ≤ g ∧ t.length ≤ 8 ∧ (∀ j, j < g → headI t j = true ∧ noUp t j = true) ∧ headI t g = true ∧ ∀ k, k < x → pathInI (t.getD k default).path (t.getD g default).path = false, fun x => g - x⟩
def tiInv (t : List FileD) (n g : Nat) : Inv := if n = 4 then tiO t else tiI t g
theorem tiInv_4 (t : List FileD) (g : Nat) : tiInv t 4 g = tiO t := rfl
theorem tiInv_9 (t : List FileD) (g : Nat) : tiInv t 9 g = tiI t g := rfl
theorem treeOk_has : Has Tryz.prog 98 cTreeOk := by
  refine has_walk mixed tTab_ok (l := [(109, cTextOk), (154, cPathOk), (155, cPathIn)]) (HasL.cons textOk_has (HasL.cons pathOk_has (HasL.cons pathIn_has HasL.nil))) [0, 2, 3, 4, 6, 10, 11, 12, 44, 45, 46] (fun t => tiInv t) [] Tryz.func98 (by kernel_rfl) (code := _) (by unfold Tryz.f98; rfl) (by kernel_rfl) (by decide) (fun _ => ⟨(), trivial⟩) (by intro h; first | exact fun _ => rfl | cases h) (by kernel_rfl) ?_
  intro (t : List FileD) ht
  replace ht : ∀ f ∈ t, f.path.length ≤ 536870912 := ht
  have hp : ∀ i (h : i < t.length), (t[i]).path.length ≤ 536870912 := fun i h => ht _ (List.getElem_mem h)
  simp -implicitDefEqProofs [cTreeOk, Con.fn, tTab, cTextOk, cPathOk, cPathIn, tiInv_4, tiInv_9, tiO, tiI]
  try dsimp only
  have hE : treeI t = true ↔ t.length ≤ 8 ∧ ∀ i, i < t.length → headI t i = true ∧ noUp t i = true := by
    simp [treeI]
  have hF : ∀ i, i < t.length → (headI t i && noUp t i) = false → treeI t = false := by
    intro i hi h
    rcases hb : treeI t with _ | _
    · rfl
    · exact absurd ((hE.1 hb).2 i hi) (by simpa using h)
  have hH : ∀ i, i < t.length → headI t i = false → treeI t = false := fun i hi h => hF i hi (by simp [h])
  have hN : ∀ i k, i < t.length → k < i → pathInI (t.getD k default).path (t.getD i default).path = true → treeI t = false := by
    intro i k hi hk h
    refine hF i hi ?_
    have : noUp t i = false := by
      simp only [noUp, List.all_eq_false]
      exact ⟨k, List.mem_range.2 hk, by simpa using h⟩
    simp [this]
  have hI : ∀ i, (∀ k, k < i → pathInI (t.getD k default).path (t.getD i default).path = false) → noUp t i = true := by
    intro i h
    simp only [noUp, List.all_eq_true, List.mem_range]
    intro k hk
    simp only [h k hk, Bool.not_false]
  have hB : 8 < t.length → treeI t = false := by
    intro h
    rcases hb : treeI t with _ | _
    · rfl
    · exact absurd (hE.1 hb).1 (by omega)
  have e1 : ∀ k (h : k < t.length), Option.map eFile t[k]? = some (eFile t[k]) := fun k h => by simp [List.getElem?_eq_getElem h]
  have e2 : ∀ i, i < t.length → i - 1 < t.length := fun i h => by omega
  have e4 : ∀ i k (h : k < i) (h2 : i < t.length), Option.map eFile (List.take i t)[k]? = some (eFile t[k]) := fun i k h h2 => by
    rw [List.getElem?_take, if_pos h]; exact e1 k (by omega)
  have hg : ∀ i (h : i < t.length), t.getD i default = t[i] := fun i h => by simp [List.getD_eq_getElem?_getD, h]
  intro _
  refine ⟨fun h => hB (by omega), fun h8 _ => ⟨by omega, fun i hi h8' hprev => ⟨fun hlt => ?_, fun hge => ?_⟩⟩⟩
  · have e3 := e1 i hlt
    have e3' := e1 (i - 1) (e2 i hlt)
    have hpi := hp i hlt
    have hgi := hg i hlt
    have hgi' := hg (i - 1) (e2 i hlt)
    have hh : headI t i = (textB t[i].text && pathI t[i].path && (decide (i = 0) || Go.Op.bytesLess t[i - 1].path t[i].path)) := by simp only [headI, hgi, hgi']
    have hm : min i t.length = i := by omega
    have hgg : t[i]?.getD default = t[i] := by simpa [List.getD_eq_getElem?_getD] using hgi
    simp [hlt, e2 i hlt, e3, e3', eFile, eStr, D.asStr, D.asRows, hm, cast_eq, and_assoc, hgg]
    try simp +contextual [eStr, eFile, cast_succ, cast_eq, cast_zero, List.getElem?_eq_getElem, eStrs_set, eFiles_set, eStrs_rep, eFiles_rep, ← eStrs_append, ← eFiles_append, eStrs_take, eStrs_drop, eFiles_take, eFiles_drop, eStrs_snoc, eFiles_snoc, and_assoc, e4, hgg, hm, hlt, D.asStr, D.asRows, cast_one]
    repeat' (first | intro _ | apply And.intro)
    all_goals first | omega | grind
  · have hT : treeI t = true := hE.2 ⟨h8', fun j hj => hprev j (by omega)⟩
    simp [hT]
    repeat' (first | intro _ | apply And.intro)
    all_goals first | omega | grind
theorem treeI_le (t : List FileD) (h : treeI t = true) : t.length ≤ 8 ∧ ∀ f ∈ t, f.text.length ≤ 64 := by
  simp only [treeI, Bool.and_eq_true, decide_eq_true_eq, List.all_eq_true, List.mem_range, headI] at h
  refine ⟨h.1, fun f hf => ?_⟩
  obtain ⟨i, hi, rfl⟩ := List.getElem_of_mem hf
  have := (h.2 i hi).1.1.1
  simp [List.getD_eq_getElem?_getD, hi, textB] at this
  omega
end Vx
end Go.Proofs.YtnanellmaelipaaGreatDoor
namespace Go.Proofs.YtnanellmaelipaaGreatDoor
namespace Vx
open Go.RowKit
theorem less_eq : ∀ (x y : Str), Go.Op.bytesLess x y = decide (x < y)
  | [], [] => by simp [Go.Op.bytesLess]
  | _ :: _, [] => by simp [Go.Op.bytesLess]
  | [], _ :: _ => by simp [Go.Op.bytesLess]
  | a :: x, b :: y => by
    rw [Go.Op.bytesLess, less_eq x y]
    simp only [List.cons_lt_cons_iff]
    by_cases h1 : a < b <;> by_cases h2 : a = b <;> by_cases h3 : x < y <;> simp [h1, h2, h3]
theorem str_irrefl (a : Str) : ¬ a < a := List.lt_irrefl a
theorem str_trans {a b c : Str} (h : a < b) (h' : b < c) : a < c := List.lt_trans h h'
theorem str_total (a b : Str) (h : ¬ a < b) (hne : a ≠ b) : b < a := by
  have h1 : b ≤ a := List.not_lt.1 h
  exact Classical.byContradiction fun h2 => hne (List.le_antisymm (List.not_lt.1 h2) h1)
theorem str_asymm {a b : Str} (h : a < b) : ¬ b < a := fun h' => str_irrefl a (str_trans h h')
theorem leqS_iff (a b : Str) : leqS a b = !decide (b < a) := by
  unfold leqS
  rw [less_eq]
  by_cases h : a < b
  · simp [h, str_asymm h]
  · by_cases e : a = b
    · subst e; simp [str_irrefl]
    · simp [h, e, str_total a b h e]
theorem cut_spl {b : UInt8} {most : Nat} : ∀ {r c : Str} {n : Nat}, n + r.count b ≤ most → cutL (b.toNat : Int) most r c n = spl b r c := by
  intro r
  induction r with
  | nil => intro c n _; rfl
  | cons x r ih =>
    intro c n h
    have hx : ((x.toNat : Int) = (b.toNat : Int)) = (x = b) := by
      apply propext
      constructor
      · intro h; exact UInt8.toNat_inj.1 (by omega)
      · rintro rfl; rfl
    by_cases hb : x = b
    · subst hb
      rw [List.count_cons_self] at h
      simp only [cutL, spl, if_true, show n < most by omega]
      rw [ih (by omega)]
    · rw [List.count_cons_of_ne hb] at h
      simp only [cutL, spl, hx, hb, if_false]
      split
      · exact ih h
      · have h0 : r.count b = 0 := by omega
        have : ∀ (q p : Str), q.count b = 0 → spl b q p = [p ++ q] := by
          intro q
          induction q with
          | nil => intro p _; simp [spl]
          | cons y q ih2 =>
            intro p hq
            have hy : y ≠ b := by rintro rfl; simp at hq
            rw [List.count_cons_of_ne hy] at hq
            simp only [spl, hy, if_false]
            rw [ih2 _ hq]; simp
        rw [this r _ h0]; simp
theorem cut_len {b : UInt8} {most : Nat} : ∀ {r c : Str} {n : Nat}, n ≤ most → most < n + r.count b → (cutL (b.toNat : Int) most r c n).length = most - n + 1 := by
  intro r
  induction r with
  | nil => intro c n h1 h2; simp at h2; omega
  | cons x r ih =>
    intro c n h1 h2
    have hx : ((x.toNat : Int) = (b.toNat : Int)) = (x = b) := by
      apply propext
      constructor
      · intro h; exact UInt8.toNat_inj.1 (by omega)
      · rintro rfl; rfl
    simp only [cutL, hx]
    split
    · split
      · rename_i hb
        subst hb
        rw [List.count_cons_self] at h2
        rw [List.length_cons, ih (by omega) (by omega)]
        omega
      · rename_i hb
        rw [List.count_cons_of_ne hb] at h2
        rw [ih h1 h2]
    · simp; omega
theorem path_eq (s : Str) : pathI s = pathS s := by
  unfold pathI pathS
  by_cases h : s.count 47 ≤ 3
  · have : cutB s 47 3 = spl 47 s [] := cut_spl (b := 47) (most := 3) (by omega)
    rw [this, Bool.and_comm]
  · have h1 : (cutB s 47 3).length = 4 := cut_len (b := 47) (most := 3) (r := s) (c := []) (n := 0) (by omega) (by omega)
    have h2 := spl_len 47 s []
    simp [h1, h2, h]
    omega
theorem in_pref (d p : Str) : inB d p = prefB (d ++ [47]) p := by
  unfold inB prefB
  by_cases h : d.length < p.length
  · have e : p.take (d.length + 1) = p.take d.length ++ [p[d.length]] := List.take_succ_eq_append_getElem h
    simp only [List.length_append, List.length_cons, List.length_nil, Nat.zero_add, e, h, show d.length + 1 ≤ p.length by omega, decide_true, Bool.true_and]
    have hg : p.getD d.length 0 = p[d.length] := getD_nat _ _ h
    rw [hg, Bool.eq_iff_iff]
    simp only [Bool.and_eq_true, decide_eq_true_eq]
    constructor
    · rintro ⟨h1, h2⟩; rw [h1, h2]
    · intro h1
      have := List.append_inj h1 (by simp; omega)
      exact ⟨this.1, by simpa using this.2⟩
  · simp [h]
    omega
theorem pref_lt {d p : Str} (h : prefB (d ++ [47]) p = true) : d < p := by
  unfold prefB at h
  simp only [Bool.and_eq_true, decide_eq_true_eq, List.length_append, List.length_cons, List.length_nil, Nat.zero_add] at h
  have e : p = d ++ (47 :: p.drop (d.length + 1)) := by
    have := List.take_append_drop (d.length + 1) p
    rw [h.2] at this
    simpa using this.symm
  rw [e]
  generalize p.drop (d.length + 1) = q
  clear h e
  induction d with
  | nil => exact List.nil_lt_cons _ _
  | cons x d ih => exact List.cons_lt_cons_iff.2 (.inr ⟨rfl, ih⟩)
theorem tree_eq (t : List FileD) : treeI t = treeS t := by
  have hasc : (∀ i, i < t.length → headI t i = true) → ∀ i k, i < k → k < t.length → (t.getD i default).path < (t.getD k default).path := by
    intro h i k hik hk
    induction k with
    | zero => omega
    | succ k ih =>
      have h1 := h (k + 1) hk
      simp only [headI, Bool.and_eq_true, Bool.or_eq_true, decide_eq_true_eq, less_eq, Nat.add_sub_cancel] at h1
      have h2 : (t.getD k default).path < (t.getD (k + 1) default).path := by
        rcases h1.2 with h2 | h2
        · omega
        · exact h2
      rcases Nat.lt_or_ge i k with h3 | h3
      · exact str_trans (ih h3 (by omega)) h2
      · have : i = k := by omega
        subst this; exact h2
  have hhead : ∀ i, okHead t i = headI t i := by
    intro i
    simp only [okHead, headI, path_eq, leqS_iff, less_eq, Bool.not_not]
    rw [Bool.and_comm (pathS _)]
  rw [Bool.eq_iff_iff]
  simp only [treeI, treeS, Bool.and_eq_true, decide_eq_true_eq, List.all_eq_true, List.mem_range, hhead]
  constructor
  · rintro ⟨h8, h⟩
    refine ⟨fun i hi => ⟨(h i hi).1, ?_⟩, h8⟩
    simp only [noIn, List.all_eq_true, Bool.not_eq_true']
    intro g hg
    obtain ⟨k, hk, rfl⟩ := List.getElem_of_mem hg
    rw [show t[k] = t.getD k default by simp [List.getD_eq_getElem?_getD, hk], in_pref]
    cases hp : prefB ((t.getD i default).path ++ [47]) (t.getD k default).path with
    | false => rfl
    | true =>
      exfalso
      have hlt := pref_lt hp
      have hik : i < k := by
        rcases Nat.lt_trichotomy i k with h1 | h1 | h1
        · exact h1
        · subst h1; exact absurd hlt (str_irrefl _)
        · exact absurd hlt (str_asymm (hasc (fun i hi => (h i hi).1) k i h1 hi))
      have h2 := (h k hk).2
      simp only [noUp, List.all_eq_true, List.mem_range, Bool.not_eq_true'] at h2
      have h3 := h2 i hik
      have p1 := (h i hi).1
      have p2 := (h k hk).1
      simp only [headI, Bool.and_eq_true] at p1 p2
      simp only [pathInI, p1.1.2, p2.1.2, hp, Bool.and_self, reduceCtorEq] at h3
  · rintro ⟨h, h8⟩
    refine ⟨h8, fun i hi => ⟨(h i hi).1, ?_⟩⟩
    simp only [noUp, List.all_eq_true, List.mem_range, Bool.not_eq_true']
    intro k hk
    have h2 := (h k (by omega)).2
    simp only [noIn, List.all_eq_true, Bool.not_eq_true'] at h2
    have h3 := h2 _ (List.getElem_mem hi)
    rw [show t[i] = t.getD i default by simp [List.getD_eq_getElem?_getD, hi], in_pref] at h3
    simp only [pathInI, h3, Bool.and_false]
end Vx
end Go.Proofs.YtnanellmaelipaaGreatDoor
namespace Go.Proofs.YtnanellmaelipaaGreatDoor
namespace Vx
open Go.RowKit
set_option maxRecDepth 8000
end Vx
end Go.Proofs.YtnanellmaelipaaGreatDoor
namespace Go.Proofs.YtnanellmaelipaaGreatDoor
namespace Vx
open Go.RowKit
set_option maxRecDepth 8000
end Vx
end Go.Proofs.YtnanellmaelipaaGreatDoor
namespace Go.Proofs.YtnanellmaelipaaGreatDoor
namespace Vx
open Go.RowKit
set_option maxRecDepth 8000
end Vx
end Go.Proofs.YtnanellmaelipaaGreatDoor
namespace Go.Proofs.YtnanellmaelipaaGreatDoor
namespace Vx
open Go.RowKit
set_option maxRecDepth 8000
end Vx
end Go.Proofs.YtnanellmaelipaaGreatDoor
namespace Go.Proofs.YtnanellmaelipaaGreatDoor
namespace Vx
open Go.RowKit
set_option maxRecDepth 8000
end Vx
end Go.Proofs.YtnanellmaelipaaGreatDoor
namespace Go.Proofs.YtnanellmaelipaaGreatDoor
namespace Vx
open Go.RowKit
set_option maxRecDepth 8000
end Vx
end Go.Proofs.YtnanellmaelipaaGreatDoor
namespace Go.Proofs.YtnanellmaelipaaGreatDoor
namespace Vx
open Go.RowKit
set_option maxRecDepth 8000
end Vx
end Go.Proofs.YtnanellmaelipaaGreatDoor
namespace Go.Proofs.YtnanellmaelipaaGreatDoor
namespace Vx
open Go.RowKit
set_option maxRecDepth 8000
end Vx
end Go.Proofs.YtnanellmaelipaaGreatDoor
namespace Go.Proofs.YtnanellmaelipaaGreatDoor
set_option maxHeartbeats 4000000
namespace Vx
open Go.RowKit
set_option maxRecDepth 8000
theorem eStrs_str {l : List Str} {x : List D} {d : D} (h : x ∈ eStrs l) (h' : d ∈ x) : ∃ s, d = D.str s := by
  simp only [eStrs, List.mem_map] at h
  obtain ⟨s, _, rfl⟩ := h
  simp only [eStr, List.mem_singleton] at h'
  exact ⟨s, h'⟩
def cCopyText : Con := .fn 6 (List Str) (fun a => [.sl true 1 (eStrs a)]) (fun a => a.length ≤ 1048576) (fun a => .own 8 1 (eStrs a)) (fun a => ownStrs 8 a)
theorem copyText_has : Has Tryz.prog 162 cCopyText := by
  refine has_walk mixed tTab_ok (l := []) HasL.nil [0, 2] ((fun a n (_ : Nat) => (fun _ => noInv) a n)) [] Tryz.func162 (by kernel_rfl) (code := _) (by unfold Tryz.f162; rfl) (by kernel_rfl) (by decide) (fun _ => ⟨(), trivial⟩) (by intro h; first | exact fun _ => rfl | cases h) (by kernel_rfl) ?_
  intro (a : List Str) ha
  replace ha : a.length ≤ 1048576 := ha
  simp -implicitDefEqProofs [cCopyText, Con.fn, tTab]
  try dsimp only
  try simp +contextual [eStr, eFile, cast_succ, cast_eq, cast_zero, List.getElem?_eq_getElem, eStrs_set, eFiles_set, eStrs_rep, eFiles_rep, ← eStrs_append, ← eFiles_append, eStrs_take, eStrs_drop, eFiles_take, eFiles_drop, eStrs_snoc, eFiles_snoc, and_assoc]
  repeat' (first | intro _ | apply And.intro)
  all_goals first | omega | grind [all_take, eStrs_str]
def cCopyTree : Con := .fn 23 (List FileD) (fun a => [.sl true 2 (eFiles a)]) (fun a => a.length ≤ 1048576 ∧ ∀ f ∈ a, f.text.length ≤ 1048576) (fun a => .own 8 2 (eFiles a)) (fun a => ownFiles 8 a)
theorem copyTree_has : Has Tryz.prog 142 cCopyTree := by
  refine has_walk mixed tTab_ok (l := [(162, cCopyText)]) (HasL.cons copyText_has HasL.nil) [0, 2, 3, 5, 6, 7, 8] ((fun a n (_ : Nat) => (fun a _ => ⟨Nat, fun i => ⟨[(2, true, .nil), (3, true, .own 9 2 (eFiles (a.take i))), (6, true, .sl true 2 (eFiles a)), (7, true, .int .i64 a.length), (8, true, .int .i64 i)], ownFiles 9 (a.take i)⟩, fun i => i ≤ a.length, fun i => a.length - i⟩) a n)) [19] Tryz.func142 (by kernel_rfl) (code := _) (by unfold Tryz.f142; rfl) (by kernel_rfl) (by decide) (fun _ => ⟨(), trivial⟩) (by intro h; first | exact fun _ => rfl | cases h) (by kernel_rfl) ?_
  intro (a : List FileD) ha
  obtain ⟨h1, h2⟩ : a.length ≤ 1048576 ∧ ∀ f ∈ a, f.text.length ≤ 1048576 := ha
  have h3 : ∀ i (h : i < a.length), a[i].text.length ≤ 1048576 := fun i h => h2 _ (List.getElem_mem h)
  simp -implicitDefEqProofs [cCopyTree, Con.fn, tTab, cCopyText]
  try dsimp only
  try simp +contextual [eStr, eFile, cast_succ, cast_eq, cast_zero, List.getElem?_eq_getElem, eStrs_set, eFiles_set, eStrs_rep, eFiles_rep, ← eStrs_append, ← eFiles_append, eStrs_take, eStrs_drop, eFiles_take, eFiles_drop, eStrs_snoc, eFiles_snoc, and_assoc, ← FileD.eq_iff]
  repeat' (first | intro _ | apply And.intro)
  all_goals first | omega | grind [all_take, List.take_of_length_le, List.take_succ_eq_append_getElem]
def cL4Copy : Con := .fn 29 (List FileD) (fun a => [.sl true 2 (eFiles a)]) (fun a => a.length ≤ 1048576 ∧ ∀ f ∈ a, f.text.length ≤ 1048576) (fun a => .own 8 2 (eFiles a)) (fun a => ownFiles 8 a)
theorem l4Copy_has : Has Tryz.prog 209 cL4Copy := by
  refine has_walk mixed tTab_ok (l := []) HasL.nil [0, 2, 3, 4] ((fun a n (_ : Nat) => (fun a _ => ⟨Nat, fun i => ⟨[(0, true, .sl true 2 (eFiles a)), (2, true, .nil), (3, true, .own 9 2 (eFiles (a.take i))), (4, true, .int .i64 i)], ownFiles 9 (a.take i)⟩, fun i => i ≤ a.length, fun i => a.length - i⟩) a n)) [26] Tryz.func209 (by kernel_rfl) (code := _) (by unfold Tryz.f209; rfl) (by kernel_rfl) (by decide) (fun _ => ⟨(), trivial⟩) (by intro h; first | exact fun _ => rfl | cases h) (by kernel_rfl) ?_
  intro (a : List FileD) ha
  obtain ⟨h1, h2⟩ : a.length ≤ 1048576 ∧ ∀ f ∈ a, f.text.length ≤ 1048576 := ha
  have h3 : ∀ i (h : i < a.length), a[i].text.length ≤ 1048576 := fun i h => h2 _ (List.getElem_mem h)
  simp -implicitDefEqProofs [cL4Copy, Con.fn, tTab]
  try dsimp only
  try simp +contextual [eStr, eFile, cast_succ, cast_eq, cast_zero, List.getElem?_eq_getElem, eStrs_set, eFiles_set, eStrs_rep, eFiles_rep, ← eStrs_append, ← eFiles_append, eStrs_take, eStrs_drop, eFiles_take, eFiles_drop, eStrs_snoc, eFiles_snoc, and_assoc, ← FileD.eq_iff]
  repeat' (first | intro _ | apply And.intro)
  all_goals first | omega | grind [all_take, eStrs_str, List.take_of_length_le, List.take_succ_eq_append_getElem]
def filB (p : FileD → Bool) (t : List FileD) : List FileD := t.filter p
theorem fil_hit {p : FileD → Bool} {t : List FileD} {i : Nat} (h : i < t.length) (hp : p t[i] = true) : filB p (t.take (i + 1)) = filB p (t.take i) ++ [t[i]] := by
  unfold filB
  rw [take_succ' h, List.filter_append]
  simp [List.filter_cons, hp]
theorem fil_miss {p : FileD → Bool} {t : List FileD} {i : Nat} (h : i < t.length) (hp : p t[i] = false) : filB p (t.take (i + 1)) = filB p (t.take i) := by
  unfold filB
  rw [take_succ' h, List.filter_append]
  simp [List.filter_cons, hp]
end Vx
end Go.Proofs.YtnanellmaelipaaGreatDoor
namespace Go.Proofs.YtnanellmaelipaaGreatDoor
set_option maxHeartbeats 4000000
namespace Vx
open Go.RowKit
set_option maxRecDepth 8000
def setStep (f : FileD) (acc : List FileD × Bool) (g : FileD) : List FileD × Bool :=
  if acc.2 = false ∧ Go.Op.bytesLess g.path f.path = false then (if g.path = f.path then (acc.1 ++ [f], true) else (acc.1 ++ [f] ++ [g], true))
  else (if g.path = f.path then acc else (acc.1 ++ [g], acc.2))
def setL (f : FileD) (l : List FileD) : List FileD × Bool := l.foldl (setStep f) ([], false)
def setS (t : List FileD) (f : FileD) : List FileD := if (setL f t).2 then (setL f t).1 else (setL f t).1 ++ [f]
theorem setL_succ {f : FileD} {t : List FileD} {i : Nat} (h : i < t.length) : setL f (t.take (i + 1)) = setStep f (setL f (t.take i)) t[i] := by
  unfold setL
  rw [take_succ' h, List.foldl_append]; rfl
theorem setStep_len (f : FileD) (acc : List FileD × Bool) (g : FileD) : (setStep f acc g).1.length + acc.2.toNat ≤ acc.1.length + (setStep f acc g).2.toNat + 1 := by
  unfold setStep
  split
  · rename_i h
    rw [h.1]
    split <;> simp <;> omega
  · split <;> simp <;> omega
theorem setL_len (f : FileD) (t : List FileD) : (setL f t).1.length ≤ t.length + (setL f t).2.toNat := by
  have : ∀ (t : List FileD) (acc : List FileD × Bool), (t.foldl (setStep f) acc).1.length + acc.2.toNat ≤ acc.1.length + t.length + (t.foldl (setStep f) acc).2.toNat := by
    intro t
    induction t with
    | nil => intro acc; simp
    | cons g r ih =>
      intro acc
      have h1 := ih (setStep f acc g)
      have h2 := setStep_len f acc g
      simp only [List.foldl_cons, List.length_cons]
      omega
  have := this t ([], false)
  simpa [setL] using this
theorem setS_len (t : List FileD) (f : FileD) : (setS t f).length ≤ t.length + 1 := by
  have := setL_len f t
  unfold setS
  split
  · rename_i h; rw [h] at this; simpa using this
  · rename_i h
    have h : (setL f t).2 = false := by simpa using h
    rw [h] at this; simp at this ⊢; omega
def cL4Set : Con := .fn 65 (List FileD × FileD) (fun a => [.sl true 2 (eFiles a.1), .agg [.str a.2.path, .sl true 1 (eStrs a.2.text)]]) (fun a => a.1.length ≤ 1048576 ∧ a.2.text.length ≤ 1048576) (fun a => .sl false 2 (eFiles (setS a.1 a.2))) (fun _ => [])
theorem l4Set_has : Has Tryz.prog 275 cL4Set := by
  refine has_walk mixed tTab_ok (l := []) HasL.nil [0, 1, 3, 4, 5, 6, 7] ((fun a n (_ : Nat) => (fun a _ => ⟨Nat, fun i => ⟨[(0, true, .sl true 2 (eFiles a.1)), (3, true, .ptr 10 0), (4, true, .nil), (5, true, .own 9 2 (eFiles (setL a.2 (a.1.take i)).1)), (6, true, .bool (setL a.2 (a.1.take i)).2), (7, true, .int .i64 i)], [(10, .box 61 [.str a.2.path, .sl true 1 (eStrs a.2.text)]), (9, .own 61 2 false (eFiles (setL a.2 (a.1.take i)).1))]⟩, fun i => i ≤ a.1.length, fun i => a.1.length - i⟩) a n)) [35, 62] Tryz.func275 (by kernel_rfl) (code := _) (by unfold Tryz.f275; rfl) (by kernel_rfl) (by decide) (fun _ => ⟨(), trivial⟩) (by intro h; first | exact fun _ => rfl | cases h) (by kernel_rfl) ?_
  intro a ha
  obtain ⟨t, f⟩ := a
  obtain ⟨q1, q2⟩ : t.length ≤ 1048576 ∧ f.text.length ≤ 1048576 := ha
  have a0 : setL f [] = ([], false) := rfl
  have a1 : ∀ i (h : i < t.length), (setL f (t.take i)).2 = true → ¬ t[i].path = f.path → setL f (t.take (i + 1)) = ((setL f (t.take i)).1 ++ [t[i]], true) := fun i h h1 h2 => by rw [setL_succ h]; simp [setStep, h1, h2]
  have a2 : ∀ i (h : i < t.length), (setL f (t.take i)).2 = true → t[i].path = f.path → setL f (t.take (i + 1)) = ((setL f (t.take i)).1, true) := fun i h h1 h2 => by rw [setL_succ h]; unfold setStep; rw [if_neg (by simp [h1]), if_pos h2]; exact Prod.ext rfl h1
  have a3 : ∀ i (h : i < t.length), (setL f (t.take i)).2 = false → Go.Op.bytesLess t[i].path f.path = false → ¬ t[i].path = f.path → setL f (t.take (i + 1)) = ((setL f (t.take i)).1 ++ [f] ++ [t[i]], true) := fun i h h1 h3 h2 => by rw [setL_succ h]; simp [setStep, h1, h2, h3]
  have a4 : ∀ i (h : i < t.length), (setL f (t.take i)).2 = false → Go.Op.bytesLess t[i].path f.path = false → t[i].path = f.path → setL f (t.take (i + 1)) = ((setL f (t.take i)).1 ++ [f], true) := fun i h h1 h3 h2 => by rw [setL_succ h]; rw [h2] at h3; simp [setStep, h1, h2, h3]
  have a5 : ∀ i (h : i < t.length), (setL f (t.take i)).2 = false → Go.Op.bytesLess t[i].path f.path = true → ¬ t[i].path = f.path → setL f (t.take (i + 1)) = ((setL f (t.take i)).1 ++ [t[i]], false) := fun i h h1 h3 h2 => by rw [setL_succ h]; simp [setStep, h1, h2, h3]
  have a6 : ∀ i (h : i < t.length), (setL f (t.take i)).2 = false → Go.Op.bytesLess t[i].path f.path = true → t[i].path = f.path → setL f (t.take (i + 1)) = ((setL f (t.take i)).1, false) := fun i h h1 h3 h2 => by rw [setL_succ h]; unfold setStep; rw [if_neg (by simp [h3]), if_pos h2]; exact Prod.ext rfl h1
  have a7 : ∀ i, (setL f (t.take i)).1.length ≤ 1048577 := fun i => by
    have h1 := setL_len f (t.take i)
    have h2 := Bool.toNat_le (setL f (t.take i)).2
    have h3 : (t.take i).length ≤ t.length := by simp; omega
    omega
  have a8 : (setL f t).2 = true → setS t f = (setL f t).1 := fun h => by simp [setS, h]
  have a9 : (setL f t).2 = false → setS t f = (setL f t).1 ++ [f] := fun h => by simp [setS, h]
  simp -implicitDefEqProofs [cL4Set, Con.fn, tTab]
  try dsimp only
  have b1 : ∀ (X : List FileD) (g : FileD), eFiles X ++ [[D.str f.path, D.sl 9 1 (eStrs f.text)], [D.str g.path, D.sl 9 1 (eStrs g.text)]] = eFiles (X ++ [f] ++ [g]) := fun X g => by simp [eFiles, eFile]
  refine ⟨⟨0, by simp [a0]⟩, ?_⟩
  try simp +contextual [eStr, eFile, cast_succ, cast_eq, cast_zero, List.getElem?_eq_getElem, eStrs_set, eFiles_set, eStrs_rep, eFiles_rep, ← eStrs_append, ← eFiles_append, eStrs_take, eStrs_drop, eFiles_take, eFiles_drop, eStrs_snoc, eFiles_snoc, and_assoc, b1, ← FileD.eq_iff]
  repeat' (first | intro _ | apply And.intro)
  all_goals first | omega | grind [all_take, eStrs_str, List.take_of_length_le]
end Vx
end Go.Proofs.YtnanellmaelipaaGreatDoor
namespace Go.Proofs.YtnanellmaelipaaGreatDoor
set_option maxHeartbeats 4000000
namespace Vx
open Go.RowKit
set_option maxRecDepth 8000
theorem eStrs_isCons (b : List Str) (x : Str) (R : List (List D)) : (eStrs b = [D.str x] :: R) = ∃ t, b = x :: t ∧ eStrs t = R := by
  apply propext
  constructor
  · intro h
    cases b with
    | nil => cases h
    | cons y t =>
      simp only [eStrs, List.map_cons, List.cons.injEq, eStr, D.str.injEq, and_true] at h
      exact ⟨t, by rw [h.1], h.2⟩
  · rintro ⟨t, rfl, rfl⟩; rfl
theorem eInts_isCons (b : List Int) (x : Int) (R : List (List D)) : (eInts b = [D.int .i64 x] :: R) = ∃ t, b = x :: t ∧ eInts t = R := by
  apply propext
  constructor
  · intro h
    cases b with
    | nil => cases h
    | cons y t =>
      simp only [eInts, List.map_cons, List.cons.injEq, eInt, D.int.injEq, true_and, and_true] at h
      exact ⟨t, by rw [h.1], h.2⟩
  · rintro ⟨t, rfl, rfl⟩; rfl
def cLine : Con := { A := Str × Int, X := Str, n := 6, args := fun _ => [.ptr 0 0], boxes := fun a => [(0, 157, [.sl true 1 (eBytes a.1), .int .i64 a.2])], pre := fun a => a.1.length ≤ 2000 ∧ 0 ≤ a.2 ∧ a.2 ≤ 1073741824, post := fun _ x => x.length ≤ 7, res := fun _ x => .str x, fin := fun a _ => [(0, rdBox a.1 (a.2 + 1))], nob := false }
theorem line_has : Has Tryz.prog 279 cLine := by
  refine has_walk mixed tTab_ok (l := [(90, cOf)]) (HasL.cons of_has HasL.nil) [0, 2] ((fun a n (_ : Nat) => (fun _ => noInv) a n)) [] Tryz.func279 (by kernel_rfl) (code := _) (by unfold Tryz.f279; rfl) (by kernel_rfl) (by decide) (fun _ => ⟨([] : Str), Nat.zero_le 7⟩) (by intro h; first | exact fun _ => rfl | cases h) (by kernel_rfl) ?_
  intro a ha
  obtain ⟨s, p⟩ := a
  obtain ⟨h1, h2, h3⟩ : s.length ≤ 2000 ∧ 0 ≤ p ∧ p ≤ 1073741824 := ha
  simp -implicitDefEqProofs [cLine, cOf, tTab, eStrs_isCons, clash, kd, eByte, all_true]
  refine ⟨s, p, ⟨rfl, rfl⟩, ⟨h1, h2, h3⟩, ?_⟩
  simp
def cPath : Con := { A := Str × Int, X := Str, n := 6, args := fun _ => [.ptr 0 0], boxes := fun a => [(0, 157, [.sl true 1 (eBytes a.1), .int .i64 a.2])], pre := fun a => a.1.length ≤ 2000 ∧ 0 ≤ a.2 ∧ a.2 ≤ 1073741824, post := fun _ x => x.length ≤ 5, res := fun _ x => .str x, fin := fun a _ => [(0, rdBox a.1 (a.2 + 1))], nob := false }
theorem path_has : Has Tryz.prog 255 cPath := by
  refine has_walk mixed tTab_ok (l := [(90, cOf)]) (HasL.cons of_has HasL.nil) [0, 2] ((fun a n (_ : Nat) => (fun _ => noInv) a n)) [] Tryz.func255 (by kernel_rfl) (code := _) (by unfold Tryz.f255; rfl) (by kernel_rfl) (by decide) (fun _ => ⟨([] : Str), Nat.zero_le 5⟩) (by intro h; first | exact fun _ => rfl | cases h) (by kernel_rfl) ?_
  intro a ha
  obtain ⟨s, p⟩ := a
  obtain ⟨h1, h2, h3⟩ : s.length ≤ 2000 ∧ 0 ≤ p ∧ p ≤ 1073741824 := ha
  simp -implicitDefEqProofs [cPath, cOf, tTab, eStrs_isCons, clash, kd, eByte, all_true]
  refine ⟨s, p, ⟨rfl, rfl⟩, ⟨h1, h2, h3⟩, ?_⟩
  simp
def cText : Con := { A := Str × Int, X := List Str × Int, n := 19, args := fun _ => [.ptr 0 0], boxes := fun a => [(0, 157, [.sl true 1 (eBytes a.1), .int .i64 a.2])], pre := fun a => a.1.length ≤ 2000 ∧ 0 ≤ a.2 ∧ a.2 ≤ 1073741800, post := fun a x => x.1.length ≤ 8 ∧ (∀ s ∈ x.1, s.length ≤ 7) ∧ a.2 ≤ x.2 ∧ x.2 ≤ a.2 + 9, res := fun _ x => .own 8 1 (eStrs x.1), fin := fun a x => [(0, rdBox a.1 x.2), (8, .own 9 1 true (eStrs x.1))], nob := false }
theorem text_has : Has Tryz.prog 256 cText := by
  refine has_walk mixed tTab_ok (l := [(147, cOne), (279, cLine)]) (HasL.cons one_has (HasL.cons line_has HasL.nil)) [0, 2, 3, 4] ((fun a n (_ : Nat) => (fun a _ => ⟨List Str × Int × Nat, fun t => ⟨[(0, true, .ptr 0 0), (2, true, .nil), (3, true, .own 9 1 (eStrs t.1)), (4, true, .int .i64 t.2.2)], [(0, rdBox a.1 t.2.1), (9, .own 9 1 true (eStrs t.1))]⟩, fun t => t.1.length + t.2.2 ≤ 8 ∧ (∀ s ∈ t.1, s.length ≤ 7) ∧ a.2 ≤ t.2.1 ∧ t.2.1 ≤ a.2 + 1 + t.1.length, fun t => t.2.2⟩) a n)) [] Tryz.func256 (by kernel_rfl) (code := _) (by unfold Tryz.f256; rfl) (by kernel_rfl) (by decide) (fun a => ⟨(([] : List Str), a.2), Nat.zero_le 8, (by simp), Int.le_refl _, by omega⟩) (by intro h; first | exact fun _ => rfl | cases h) (by kernel_rfl) ?_
  intro a ha
  obtain ⟨s, p⟩ := a
  obtain ⟨h1, h2, h3⟩ : s.length ≤ 2000 ∧ 0 ≤ p ∧ p ≤ 1073741800 := ha
  simp -implicitDefEqProofs [cText, cOne, cLine, tTab, eInts_isCons, clash, kd, eByte, all_true]
  refine ⟨s, p, ⟨rfl, rfl⟩, ⟨h1, by omega, by omega⟩, ?_⟩
  refine ⟨⟨⟨[], p + 1, 0, by simp; omega⟩, ?_⟩, ⟨⟨[], p + 1, 1, by simp; omega⟩, ?_⟩, ⟨⟨[], p + 1, 3, by simp; omega⟩, ?_⟩, ⟨⟨[], p + 1, 5, by simp; omega⟩, ?_⟩, ⟨[], p + 1, 8, by simp; omega⟩, ?_⟩
  all_goals
    intro a q n g1 g2 g3 g4
    refine ⟨fun hn => ⟨s, q, ⟨rfl, rfl⟩, ⟨h1, by omega, by omega⟩, fun y hy => ⟨by omega, by omega, fun _ _ => ⟨a ++ [y], q + 1, n - 1, ⟨⟨(eStrs_snoc a y).symm, by omega⟩, ⟨rfl, rfl⟩, eStrs_snoc a y⟩, ⟨by simp; omega, fun x hx => ?_, by omega, by simp; omega⟩, by omega⟩⟩⟩, fun hn => ⟨a, q, ⟨by omega, g2, by omega, by omega⟩, rfl, rfl, rfl⟩⟩
    rcases List.mem_append.1 hx with hx | hx
    · exact g2 x hx
    · simp at hx; subst hx; exact hy
end Vx
end Go.Proofs.YtnanellmaelipaaGreatDoor
namespace Go.Proofs.YtnanellmaelipaaGreatDoor
set_option maxHeartbeats 4000000
namespace Vx
open Go.RowKit
set_option maxRecDepth 8000
def treeSetS (t : List FileD) (f : FileD) : List FileD × Bool := if treeS t then (if treeS (setS t f) then (setS t f, true) else (t, false)) else ([], false)
def cTreeSetS : Con := .fn 20 (List FileD × FileD) (fun a => [.sl true 2 (eFiles a.1), .agg [.str a.2.path, .sl true 1 (eStrs a.2.text)]]) (fun a => (a.1.length ≤ 1048575 ∧ ∀ f ∈ a.1, f.text.length ≤ 1048576) ∧ a.2.text.length ≤ 1048576) (fun a => .tup [.sl false 2 (eFiles (treeSetS a.1 a.2).1), .bool (treeSetS a.1 a.2).2]) (fun _ => [])
theorem treeSetS_has : Has Tryz.prog 247 cTreeSetS := by
  refine has_walk mixed tTab_ok (l := [(110, cL4Ok), (209, cL4Copy), (275, cL4Set)]) (HasL.cons l4Ok_has (HasL.cons l4Copy_has (HasL.cons l4Set_has HasL.nil))) [0, 1, 3, 4, 5, 6] ((fun a n (_ : Nat) => (fun _ => noInv) a n)) [] Tryz.func247 (by kernel_rfl) (code := _) (by unfold Tryz.f247; rfl) (by kernel_rfl) (by decide) (fun _ => ⟨(), trivial⟩) (by intro h; first | exact fun _ => rfl | cases h) (by kernel_rfl) ?_
  intro a ha
  obtain ⟨t, f⟩ := a
  obtain ⟨⟨q1, q2⟩, q3⟩ : (t.length ≤ 1048575 ∧ ∀ f ∈ t, f.text.length ≤ 1048576) ∧ f.text.length ≤ 1048576 := ha
  simp -implicitDefEqProofs [cTreeSetS, Con.fn, tTab, cL4Ok, cL4Copy, cL4Set, treeSetS]
  try dsimp only
  try simp +contextual -implicitDefEqProofs [eStr, eFile, cast_succ, cast_eq, cast_zero, List.getElem?_eq_getElem, eStrs_set, eFiles_set, eStrs_rep, eFiles_rep, ← eStrs_append, ← eFiles_append, eStrs_take, eStrs_drop, eFiles_take, eFiles_drop, eStrs_snoc, eFiles_snoc, and_assoc]
  repeat' (first | intro _ | apply And.intro)
  all_goals first | omega | grind [all_take, treeSetS]
end Vx
end Go.Proofs.YtnanellmaelipaaGreatDoor
namespace Go.Proofs.YtnanellmaelipaaGreatDoor
namespace Vx
open Go.RowKit
set_option maxRecDepth 8000
end Vx
end Go.Proofs.YtnanellmaelipaaGreatDoor
namespace Go.Proofs.YtnanellmaelipaaGreatDoor
set_option maxHeartbeats 4000000
namespace Vx
open Go.RowKit
set_option maxRecDepth 8000
def cExists : Con := .fn 11 (RepoD × Int) (fun a => [vRepo a.1, .int .i64 a.2]) (fun a => a.1.commits.length ≤ 1073741824) (fun a => .bool (decide (0 ≤ a.2) && decide (a.2 ≤ (a.1.commits.length : Int) - 1))) (fun _ => [])
theorem exists_has : Has Tryz.prog 79 cExists := by
  refine has_walk mixed tTab_ok (l := [(99, cWithin)]) (HasL.cons within_has HasL.nil) [0, 1, 2, 4] ((fun a n (_ : Nat) => (fun _ => noInv) a n)) [] Tryz.func79 (by kernel_rfl) (code := _) (by unfold Tryz.f79; rfl) (by kernel_rfl) (by decide) (fun _ => ⟨(), trivial⟩) (by intro h; first | exact fun _ => rfl | cases h) (by kernel_rfl) ?_
  intro a ha
  obtain ⟨r, n⟩ := a
  replace ha : r.commits.length ≤ 1073741824 := ha
  simp -implicitDefEqProofs [cExists, Con.fn, tTab, cWithin]
  try dsimp only
  try simp +contextual -implicitDefEqProofs [eStr, eFile, cast_succ, cast_eq, cast_zero, List.getElem?_eq_getElem, eStrs_set, eFiles_set, eStrs_rep, eFiles_rep, ← eStrs_append, ← eFiles_append, eStrs_take, eStrs_drop, eFiles_take, eFiles_drop, eStrs_snoc, eFiles_snoc, and_assoc]
  repeat' (first | intro _ | apply And.intro)
  all_goals first | omega | grind [all_take]
def inN (n : Nat) (a : Int) : Bool := decide (0 ≤ a) && decide (a ≤ (n : Int) - 1)
def okHd (n : Nat) (h : List HeadD) (i : Nat) : Bool := nameB (h.getD i default).name && inN n (h.getD i default).at_ && (decide (i = 0) || Go.Op.bytesLess (h.getD (i - 1) default).name (h.getD i default).name)
def headsB (n : Nat) (h : List HeadD) : Bool := decide (h.length ≤ 5) && (List.range h.length).all (okHd n h)
theorem headsB_iff (n : Nat) (h : List HeadD) : headsB n h = true ↔ h.length ≤ 5 ∧ ∀ i, i < h.length → okHd n h i = true := by simp -implicitDefEqProofs [headsB]
theorem headsB_no {n : Nat} {h : List HeadD} {i : Nat} (hi : i < h.length) (hb : okHd n h i = false) : headsB n h = false := by
  cases hq : headsB n h with
  | false => rfl
  | true => have := ((headsB_iff n h).1 hq).2 i hi; simp -implicitDefEqProofs [hb] at this
def cHeadsOk : Con := .fn 44 (RepoD × List HeadD) (fun a => [vRepo a.1, .sl true 2 (eHeads a.2)]) (fun a => a.1.commits.length ≤ 1073741824) (fun a => .bool (headsB a.1.commits.length a.2)) (fun _ => [])
theorem headsOk_has : Has Tryz.prog 88 cHeadsOk := by
  refine has_walk mixed tTab_ok (l := [(91, cNameOk), (79, cExists)]) (HasL.cons nameOk_has (HasL.cons exists_has HasL.nil)) [0, 1, 2, 4, 5, 6, 10, 11, 12] ((fun a n (_ : Nat) => (fun a _ => ⟨Nat, fun i => ⟨[(1, true, .sl true 2 (eHeads a.2)), (2, true, .ptr 10 0), (4, true, .bool false), (10, true, .sl true 2 (eHeads a.2)), (11, true, .int .i64 a.2.length), (12, true, .int .i64 i)], [(10, .box 26 [.sl true 3 (eCommits a.1.commits), .sl true 2 (eHeads a.1.heads)])]⟩, fun i => i ≤ a.2.length ∧ a.2.length ≤ 5 ∧ ∀ j, j < i → okHd a.1.commits.length a.2 j = true, fun i => a.2.length - i⟩) a n)) [] Tryz.func88 (by kernel_rfl) (code := _) (by unfold Tryz.f88; rfl) (by kernel_rfl) (by decide) (fun _ => ⟨(), trivial⟩) (by intro h; first | exact fun _ => rfl | cases h) (by kernel_rfl) ?_
  intro a ha
  obtain ⟨r, t⟩ := a
  replace ha : r.commits.length ≤ 1073741824 := ha
  have hB : 5 < t.length → headsB r.commits.length t = false := fun h => by
    cases hq : headsB r.commits.length t with
    | false => rfl
    | true => have := ((headsB_iff _ _).1 hq).1; omega
  have hN := fun i => @headsB_no r.commits.length t i
  have hE := (headsB_iff r.commits.length t).2
  have hg : ∀ i (h : i < t.length), t.getD i default = t[i] := fun i h => by simp -implicitDefEqProofs [List.getD_eq_getElem?_getD, h]
  have hgg : ∀ i (h : i < t.length), t[i]?.getD default = t[i] := fun i h => by simp -implicitDefEqProofs [h]
  have e1 : ∀ k (h : k < t.length), Option.map eHead t[k]? = some (eHead t[k]) := fun k h => by simp -implicitDefEqProofs [List.getElem?_eq_getElem h]
  simp -implicitDefEqProofs [cHeadsOk, Con.fn, tTab, cNameOk, cExists]
  try dsimp only
  refine fun _ => ⟨fun h => hB (by omega), fun h5 _ => ⟨by omega, fun i hi _ hprev => ⟨fun hlt => ?_, fun hge => hE ⟨by omega, fun j hj => hprev j (by omega)⟩⟩⟩⟩
  have e3 := e1 i hlt
  have e4 := e1 (i - 1) (by omega)
  have hh : okHd r.commits.length t i = (nameB t[i].name && inN r.commits.length t[i].at_ && (decide (i = 0) || Go.Op.bytesLess (t[i - 1]'(by omega)).name t[i].name)) := by
    unfold okHd
    rw [hg i hlt, hg (i - 1) (by omega)]
  have hn := hN i hlt
  rw [hh] at hn
  unfold inN at hn hh
  simp -implicitDefEqProofs [hlt, e3, e4, eHead, D.asStr, D.asInt, cast_eq, and_assoc]
  try simp +contextual -implicitDefEqProofs [eStr, eFile, cast_succ, cast_eq, cast_zero, List.getElem?_eq_getElem, eStrs_set, eFiles_set, eStrs_rep, eFiles_rep, ← eStrs_append, ← eFiles_append, eStrs_take, eStrs_drop, eFiles_take, eFiles_drop, eStrs_snoc, eFiles_snoc, and_assoc, hlt]
  clear e1 hg hgg hN hE hB
  repeat' (first | intro _ | apply And.intro)
  all_goals first | omega | grind -ring
end Vx
end Go.Proofs.YtnanellmaelipaaGreatDoor
namespace Go.Proofs.YtnanellmaelipaaGreatDoor
set_option maxHeartbeats 4000000
namespace Vx
open Go.RowKit
set_option maxRecDepth 8000
def okI1 (cs : List CommitD) (i : Nat) : Bool :=
  decide ((cs.getD i default).parents.length ≤ 2) && !(decide ((cs.getD i default).parents.length = 2) && decide ((cs.getD i default).parents.getD 0 0 = (cs.getD i default).parents.getD 1 0)) && nameB (cs.getD i default).who && treeI (cs.getD i default).tree
def okCI (cs : List CommitD) (i : Nat) : Bool := okI1 cs i && (List.range (cs.getD i default).parents.length).all fun k => inN i ((cs.getD i default).parents.getD k 0)
def repoI (r : RepoD) : Bool := decide (r.commits.length ≤ 16) && (List.range r.commits.length).all (okCI r.commits) && headsB r.commits.length r.heads
def rpPre (r : RepoD) : Prop := r.commits.length ≤ 1073741824 ∧ ∀ c ∈ r.commits, ∀ f ∈ c.tree, f.path.length ≤ 536870912
def bRepo (r : RepoD) : Blk := .box 26 [.sl true 3 (eCommits r.commits), .sl true 2 (eHeads r.heads)]
theorem bRepo_def (r : RepoD) : bRepo r = .box 26 [.sl true 3 (eCommits r.commits), .sl true 2 (eHeads r.heads)] := rfl
def riO (r : RepoD) : Inv := ⟨Nat, fun i => ⟨[(1, true, .ptr 10 0), (2, true, .bool false), (12, true, .sl true 3 (eCommits r.commits)), (13, true, .int .i64 r.commits.length), (14, true, .int .i64 i)], [(10, bRepo r)]⟩, fun i => i ≤ r.commits.length ∧ r.commits.length ≤ 16 ∧ ∀ j, j < i → okCI r.commits j = true, fun i => r.commits.length - i⟩
def riI (r : RepoD) (g : Nat) : Inv := ⟨Nat, fun k => ⟨[(1, true, .ptr 10 0), (2, true, .bool false), (3, true, .int .i64 g), (12, true, .sl true 3 (eCommits r.commits)), (13, true, .int .i64 r.commits.length), (14, true, .int .i64 g), (53, true, .sl true 1 (eInts (r.commits.getD g default).parents)), (54, true, .int .i64 (r.commits.getD g default).parents.length), (55, true, .int .i64 k)], [(10, bRepo r)]⟩,
  fun k => g < r.commits.length ∧ k ≤ (r.commits.getD g default).parents.length ∧ r.commits.length ≤ 16 ∧ (∀ j, j < g → okCI r.commits j = true) ∧ okI1 r.commits g = true ∧ ∀ j, j < k → inN g ((r.commits.getD g default).parents.getD j 0) = true, fun k => (r.commits.getD g default).parents.length - k⟩
def riInv (r : RepoD) (n g : Nat) : Inv := if n = 4 then riO r else riI r g
theorem riInv_4 (r : RepoD) (g : Nat) : riInv r 4 g = riO r := rfl
theorem riInv_9 (r : RepoD) (g : Nat) : riInv r 9 g = riI r g := rfl
theorem repoI_iff (r : RepoD) : repoI r = true ↔ r.commits.length ≤ 16 ∧ (∀ i, i < r.commits.length → okCI r.commits i = true) ∧ headsB r.commits.length r.heads = true := by simp -implicitDefEqProofs [repoI, and_assoc]
theorem repoI_no {r : RepoD} {i : Nat} (hi : i < r.commits.length) (hb : okCI r.commits i = false) : repoI r = false := by
  cases hq : repoI r with
  | false => rfl
  | true => have := ((repoI_iff r).1 hq).2.1 i hi; simp -implicitDefEqProofs [hb] at this
theorem repoI_big {r : RepoD} (h : 16 < r.commits.length) : repoI r = false := by
  cases hq : repoI r with
  | false => rfl
  | true => have := ((repoI_iff r).1 hq).1; omega
theorem okCI_no1 {cs : List CommitD} {i : Nat} (h : okI1 cs i = false) : okCI cs i = false := by unfold okCI; rw [h]; rfl
theorem okCI_no2 {cs : List CommitD} {i k : Nat} (hk : k < (cs.getD i default).parents.length) (h : inN i ((cs.getD i default).parents.getD k 0) = false) : okCI cs i = false := by
  unfold okCI
  have : (List.range (cs.getD i default).parents.length).all (fun k => inN i ((cs.getD i default).parents.getD k 0)) = false := by
    rw [List.all_eq_false]
    exact ⟨k, List.mem_range.2 hk, by simpa using h⟩
  rw [this, Bool.and_false]
theorem okCI_yes {cs : List CommitD} {i : Nat} (h : okI1 cs i = true) (h2 : ∀ k, k < (cs.getD i default).parents.length → inN i ((cs.getD i default).parents.getD k 0) = true) : okCI cs i = true := by
  unfold okCI
  rw [h, Bool.true_and, List.all_eq_true]
  intro k hk
  exact h2 k (by simpa using hk)
def cRepoOk : Con := .fn 70 RepoD (fun r => [vRepo r]) rpPre (fun r => .bool (repoI r)) (fun _ => [])
theorem repoOk_has : Has Tryz.prog 24 cRepoOk := by
  refine has_walk mixed tTab_ok (l := [(91, cNameOk), (98, cTreeOk), (99, cWithin), (88, cHeadsOk)]) (HasL.cons nameOk_has (HasL.cons treeOk_has (HasL.cons within_has (HasL.cons headsOk_has HasL.nil)))) [0, 1, 2, 3, 4, 6, 12, 13, 14, 53, 54, 55] (fun r => riInv r) [] Tryz.func24 (by kernel_rfl) (code := _) (by unfold Tryz.f24; rfl) (by kernel_rfl) (by decide) (fun _ => ⟨(), trivial⟩) (by intro h; first | exact fun _ => rfl | cases h) (by kernel_rfl) ?_
  intro (r : RepoD) hr
  obtain ⟨hr1, hr2⟩ : r.commits.length ≤ 1073741824 ∧ ∀ c ∈ r.commits, ∀ f ∈ c.tree, f.path.length ≤ 536870912 := hr
  have hp : ∀ i (h : i < r.commits.length), ∀ f ∈ r.commits[i].tree, f.path.length ≤ 536870912 := fun i h => hr2 _ (List.getElem_mem h)
  have hB := @repoI_big r
  have hN := fun i => @repoI_no r i
  have hN1 := fun i => @okCI_no1 r.commits i
  have hN2 := fun i k => @okCI_no2 r.commits i k
  have hY := fun i => @okCI_yes r.commits i
  simp -implicitDefEqProofs [cRepoOk, Con.fn, tTab, cNameOk, cTreeOk, cWithin, cHeadsOk, riInv_4, riInv_9, riO, riI, bRepo_def]
  try dsimp only
  refine fun _ => ⟨fun h => hB (by omega), fun h16 _ => ⟨by omega, fun i hi _ hprev => ⟨fun hlt => ?_, fun hge => ?_⟩⟩⟩
  · have e3 : Option.map eCommit r.commits[i]? = some (eCommit r.commits[i]) := by simp -implicitDefEqProofs [List.getElem?_eq_getElem hlt]
    have hgc : r.commits.getD i default = r.commits[i] := by simp -implicitDefEqProofs [List.getD_eq_getElem?_getD, hlt]
    have hpc := hp i hlt
    have n0 := hN i hlt
    have n1 := hN1 i
    have n2 := hN2 i
    have n3 := hY i
    have o1 : okI1 r.commits i = (decide (r.commits[i].parents.length ≤ 2) && !(decide (r.commits[i].parents.length = 2) && decide (r.commits[i].parents.getD 0 0 = r.commits[i].parents.getD 1 0)) && nameB r.commits[i].who && treeI r.commits[i].tree) := by
      unfold okI1; rw [hgc]
    rw [hgc] at n2 n3
    simp -implicitDefEqProofs [hlt, e3, eCommit, D.asStr, D.asRows, cast_eq, and_assoc]
    try simp only [show r.commits[i]?.getD default = r.commits[i] by simp -implicitDefEqProofs [hlt]]
    generalize r.commits[i] = c at hpc n2 n3 o1 ⊢
    have hq : ∀ k (h : k < c.parents.length), inN i (c.parents[k]?.getD 0) = (decide (0 ≤ c.parents[k]) && decide (c.parents[k] ≤ (i : Int) - 1)) := fun k h => by simp -implicitDefEqProofs [inN, h]
    have n4 : ∀ k (h : k < c.parents.length), (decide (0 ≤ c.parents[k]) && decide (c.parents[k] ≤ (i : Int) - 1)) = false → repoI r = false := fun k h hb => n0 (n2 k h (by rw [List.getD_eq_getElem?_getD, hq k h]; exact hb))
    have n5 : okI1 r.commits i = false → repoI r = false := fun h => n0 (n1 h)
    have n6 : okI1 r.commits i = true → (∀ j, j < c.parents.length → inN i (c.parents[j]?.getD 0) = true) → ∀ j, j < i + 1 → okCI r.commits j = true := fun h1 h2 j hj => by
      rcases Nat.lt_or_ge j i with h3 | h3
      · exact hprev j h3
      · have : j = i := by omega
        subst this
        exact n3 h1 (fun k hk => by rw [List.getD_eq_getElem?_getD]; exact h2 k hk)
    clear n3 n2 n1 n0 hN hN1 hN2 hY hp hr2 hB hgc e3
    have o2 : ∀ (h : c.parents.length = 2), okI1 r.commits i = (!(decide (c.parents[0] = c.parents[1])) && nameB c.who && treeI c.tree) := fun h => by
      rw [o1]; simp -implicitDefEqProofs [h]
    have o3 : c.parents.length ≤ 2 → ¬ c.parents.length = 2 → okI1 r.commits i = (nameB c.who && treeI c.tree) := fun h h' => by
      rw [o1]; simp -implicitDefEqProofs [h, h']
    have o4 : 2 < c.parents.length → okI1 r.commits i = false := fun h => by
      rw [o1]; simp -implicitDefEqProofs [show ¬ c.parents.length ≤ 2 by omega]
    clear o1
    refine ⟨fun h => n5 (o4 (by omega)), fun hl2 => ⟨fun h2 => ?_, fun h2 => ?_⟩⟩
    · have q0 : Option.map eInt c.parents[0]? = some (eInt c.parents[0]) := by simp -implicitDefEqProofs [List.getElem?_eq_getElem (show 0 < c.parents.length by omega)]
      have q1 : Option.map eInt c.parents[1]? = some (eInt c.parents[1]) := by simp -implicitDefEqProofs [List.getElem?_eq_getElem (show 1 < c.parents.length by omega)]
      have o5 := o2 (by omega)
      simp -implicitDefEqProofs [q0, q1, eInt]
      refine ⟨by omega, fun _ => ⟨by omega, fun _ => ⟨fun he => n5 (by rw [o5]; simp -implicitDefEqProofs [he]), fun he => ⟨fun hn => n5 (by rw [o5]; simp -implicitDefEqProofs [hn]), fun hn => ⟨hpc, fun ht => n5 (by rw [o5]; simp -implicitDefEqProofs [ht]), fun ht _ => ⟨by omega, hprev, by rw [o5]; simp -implicitDefEqProofs [he, hn, ht], fun t ht1 _ _ hok hinv => ?_⟩⟩⟩⟩⟩⟩
      clear o2 o3 o4 o5 n5
      refine ⟨fun hlt2 => ?_, fun hge2 => ?_⟩
      · have qt : Option.map eInt c.parents[t]? = some (eInt c.parents[t]) := by simp -implicitDefEqProofs [List.getElem?_eq_getElem hlt2]
        have n7 := n4 t hlt2
        have q7 := hq t hlt2
        simp -implicitDefEqProofs [qt, eInt, hlt2]
        have n8 : 0 ≤ c.parents[t] → c.parents[t] ≤ (i : Int) - 1 → ∀ j, j < t + 1 → inN i (c.parents[j]?.getD 0) = true := fun g1 g2 j hj => by
          rcases Nat.lt_or_ge j t with h3 | h3
          · exact hinv j h3
          · have : j = t := by omega
            subst this
            rw [q7]
            simp -implicitDefEqProofs [g1, g2]
        refine ⟨by omega, by omega, fun _ _ => ⟨fun h => n7 (by simp; omega), fun g1 g2 => ⟨by omega, by omega, fun _ _ => ⟨t + 1, rfl, by omega, by omega, hprev, hok, n8 g1 g2, by omega⟩⟩⟩⟩
      · have n7 := n6 hok (fun j hj => hinv j (by omega))
        exact ⟨by omega, by omega, fun _ _ => ⟨i + 1, rfl, by omega, by omega, n7, by omega⟩⟩
    · have o5 := o3 (by omega) (by omega)
      refine ⟨fun hn => n5 (by rw [o5]; simp -implicitDefEqProofs [hn]), fun hn => ⟨hpc, fun ht => n5 (by rw [o5]; simp -implicitDefEqProofs [ht]), fun ht _ => ⟨by omega, hprev, by rw [o5]; simp -implicitDefEqProofs [hn, ht], fun t ht1 _ _ hok hinv => ?_⟩⟩⟩
      clear o2 o3 o4 o5 n5
      refine ⟨fun hlt2 => ?_, fun hge2 => ?_⟩
      · have qt : Option.map eInt c.parents[t]? = some (eInt c.parents[t]) := by simp -implicitDefEqProofs [List.getElem?_eq_getElem hlt2]
        have n7 := n4 t hlt2
        have q7 := hq t hlt2
        simp -implicitDefEqProofs [qt, eInt, hlt2]
        have n8 : 0 ≤ c.parents[t] → c.parents[t] ≤ (i : Int) - 1 → ∀ j, j < t + 1 → inN i (c.parents[j]?.getD 0) = true := fun g1 g2 j hj => by
          rcases Nat.lt_or_ge j t with h3 | h3
          · exact hinv j h3
          · have : j = t := by omega
            subst this
            rw [q7]
            simp -implicitDefEqProofs [g1, g2]
        refine ⟨by omega, by omega, fun _ _ => ⟨fun h => n7 (by simp; omega), fun g1 g2 => ⟨by omega, by omega, fun _ _ => ⟨t + 1, rfl, by omega, by omega, hprev, hok, n8 g1 g2, by omega⟩⟩⟩⟩
      · have n7 := n6 hok (fun j hj => hinv j (by omega))
        exact ⟨by omega, by omega, fun _ _ => ⟨i + 1, rfl, by omega, by omega, n7, by omega⟩⟩
  · refine ⟨r, r.heads, ⟨⟨rfl, rfl⟩, rfl⟩, hr1, ?_⟩
    rw [Bool.eq_iff_iff, repoI_iff]
    exact ⟨fun h => h.2.2, fun h => ⟨by omega, fun j hj => hprev j (by omega), h⟩⟩
def oneP (i : Nat) (ps : List Int) (k : Nat) : Bool := inN i (ps.getD k 0) && !(decide (0 < k) && decide (ps.getD k 0 = ps.getD 0 0))
def okS1 (c : CommitD) : Bool := decide (c.parents.length ≤ 2) && nameB c.who && treeS c.tree
def okCS (cs : List CommitD) (i : Nat) : Bool := (List.range (cs.getD i default).parents.length).all (oneP i (cs.getD i default).parents) && okS1 (cs.getD i default)
def repoS (r : RepoD) : Bool := (List.range r.commits.length).all (okCS r.commits) && headsB r.commits.length r.heads && decide (r.commits.length ≤ 16)
theorem repoS_iff (r : RepoD) : repoS r = true ↔ (∀ i, i < r.commits.length → okCS r.commits i = true) ∧ headsB r.commits.length r.heads = true ∧ r.commits.length ≤ 16 := by simp -implicitDefEqProofs [repoS, and_assoc]
theorem repoS_no {r : RepoD} {i : Nat} (hi : i < r.commits.length) (hb : okCS r.commits i = false) : repoS r = false := by
  cases hq : repoS r with
  | false => rfl
  | true => have := ((repoS_iff r).1 hq).1 i hi; simp -implicitDefEqProofs [hb] at this
theorem repoS_noH {r : RepoD} (hb : headsB r.commits.length r.heads = false) : repoS r = false := by
  unfold repoS; rw [hb]; simp
theorem okCS_no1 {cs : List CommitD} {i : Nat} (h : okS1 (cs.getD i default) = false) : okCS cs i = false := by unfold okCS; rw [h, Bool.and_false]
theorem okCS_no2 {cs : List CommitD} {i k : Nat} (hk : k < (cs.getD i default).parents.length) (h : oneP i (cs.getD i default).parents k = false) : okCS cs i = false := by
  unfold okCS
  have : (List.range (cs.getD i default).parents.length).all (oneP i (cs.getD i default).parents) = false := by
    rw [List.all_eq_false]
    exact ⟨k, List.mem_range.2 hk, by simpa using h⟩
  rw [this, Bool.false_and]
theorem okCS_yes {cs : List CommitD} {i : Nat} (h : okS1 (cs.getD i default) = true) (h2 : ∀ k, k < (cs.getD i default).parents.length → oneP i (cs.getD i default).parents k = true) : okCS cs i = true := by
  unfold okCS
  rw [h, Bool.and_true, List.all_eq_true]
  intro k hk
  exact h2 k (by simpa using hk)
theorem repo_eq (r : RepoD) : repoI r = repoS r := by
  have h : ∀ i, okCI r.commits i = okCS r.commits i := by
    intro i
    unfold okCI okCS okI1 okS1
    generalize r.commits.getD i default = c
    rw [tree_eq]
    rw [Bool.eq_iff_iff]
    simp only [Bool.and_eq_true, List.all_eq_true, List.mem_range, decide_eq_true_eq, oneP, Bool.not_eq_true', Bool.and_eq_false_iff, decide_eq_false_iff_not]
    constructor
    · rintro ⟨⟨⟨⟨h1, h2⟩, h3⟩, h4⟩, h5⟩
      refine ⟨fun k hk => ⟨h5 k hk, ?_⟩, ⟨h1, h3⟩, h4⟩
      by_cases h0 : k = 0
      · exact .inl (by omega)
      · right
        have : k = 1 := by omega
        subst this
        rcases h2 with h2 | h2
        · omega
        · exact fun e => h2 e.symm
    · rintro ⟨h1, ⟨h2, h3⟩, h4⟩
      refine ⟨⟨⟨⟨h2, ?_⟩, h3⟩, h4⟩, fun k hk => (h1 k hk).1⟩
      by_cases h0 : c.parents.length = 2
      · right
        rcases (h1 1 (by omega)).2 with h5 | h5
        · omega
        · exact fun e => h5 e.symm
      · exact .inl h0
  rw [Bool.eq_iff_iff, repoI_iff, repoS_iff]
  simp only [h]
  exact ⟨fun ⟨a, b, c⟩ => ⟨b, c, a⟩, fun ⟨b, c, a⟩ => ⟨a, b, c⟩⟩
end Vx
end Go.Proofs.YtnanellmaelipaaGreatDoor
namespace Go.Proofs.YtnanellmaelipaaGreatDoor
set_option maxHeartbeats 4000000
namespace Vx
open Go.RowKit
set_option maxRecDepth 8000
def cL1Same : Con := .fn 26 (List Str × List Str) (fun a => [.sl true 1 (eStrs a.1), .sl true 1 (eStrs a.2)]) (fun _ => True) (fun a => .bool (decide (a.1 = a.2))) (fun _ => [])
theorem l1Same_has : Has Tryz.prog 236 cL1Same := by
  refine has_walk mixed tTab_ok (l := []) HasL.nil [0, 1, 4, 5] ((fun a n (_ : Nat) => (fun a _ => ⟨Nat, fun i => ⟨[(0, true, .sl true 1 (eStrs a.1)), (1, true, .sl true 1 (eStrs a.2)), (4, true, .bool false), (5, true, .int .i64 i)], []⟩, fun i => i ≤ a.1.length ∧ a.1.length = a.2.length ∧ a.1.take i = a.2.take i, fun i => a.1.length - i⟩) a n)) [] Tryz.func236 (by kernel_rfl) (code := _) (by unfold Tryz.f236; rfl) (by kernel_rfl) (by decide) (fun _ => ⟨(), trivial⟩) (by intro h; first | exact fun _ => rfl | cases h) (by kernel_rfl) ?_
  intro a _
  obtain ⟨l, r⟩ := a
  simp -implicitDefEqProofs [cL1Same, Con.fn, tTab]
  try dsimp only
  try simp +contextual -implicitDefEqProofs [eStr, eFile, cast_succ, cast_eq, cast_zero, List.getElem?_eq_getElem, eStrs_set, eFiles_set, eStrs_rep, eFiles_rep, ← eStrs_append, ← eFiles_append, eStrs_take, eStrs_drop, eFiles_take, eFiles_drop, eStrs_snoc, eFiles_snoc, and_assoc]
  repeat' (first | intro _ | apply And.intro)
  all_goals first | omega | grind [all_take, eq_take, eq_end]
def getL : List FileD → Str → List Str × Bool
  | [], _ => ([], false)
  | f :: l, p => if f.path = p then (f.text, true) else getL l p
def cL4Get : Con := .fn 25 (List FileD × Str) (fun a => [.sl true 2 (eFiles a.1), .str a.2]) (fun _ => True) (fun a => .tup [.sl true 1 (eStrs (getL a.1 a.2).1), .bool (getL a.1 a.2).2]) (fun _ => [])
theorem l4Get_has : Has Tryz.prog 160 cL4Get := by
  refine has_walk mixed tTab_ok (l := []) HasL.nil [0, 1, 4, 5, 6] ((fun a n (_ : Nat) => (fun a _ => ⟨Nat, fun i => ⟨[(0, true, .sl true 2 (eFiles a.1)), (1, true, .str a.2), (4, true, .nil), (5, true, .bool false), (6, true, .int .i64 i)], []⟩, fun i => i ≤ a.1.length ∧ getL (a.1.drop i) a.2 = getL a.1 a.2, fun i => a.1.length - i⟩) a n)) [] Tryz.func160 (by kernel_rfl) (code := _) (by unfold Tryz.f160; rfl) (by kernel_rfl) (by decide) (fun _ => ⟨(), trivial⟩) (by intro h; first | exact fun _ => rfl | cases h) (by kernel_rfl) ?_
  intro a _
  obtain ⟨t, p⟩ := a
  have e1 : ∀ i (h : i < t.length), getL (t.drop i) p = if t[i].path = p then (t[i].text, true) else getL (t.drop (i + 1)) p := fun i h => by rw [List.drop_eq_getElem_cons h]; rfl
  have e2 : ∀ i, t.length ≤ i → getL (t.drop i) p = ([], false) := fun i h => by rw [List.drop_eq_nil_of_le h]; rfl
  simp -implicitDefEqProofs [cL4Get, Con.fn, tTab]
  try dsimp only
  refine fun i hi hpre _ => ⟨fun hlt => ?_, fun hge => ?_⟩
  · have g := e1 i hlt
    rw [hpre] at g
    simp -implicitDefEqProofs [hlt, eFile, D.asStr, D.asRows, and_assoc]
    refine ⟨fun h => ?_, fun h => ⟨by omega, by omega, fun _ _ => ⟨i + 1, by omega, by omega, ?_, by omega⟩⟩⟩
    · rw [g, if_pos h]; exact ⟨rfl, rfl⟩
    · rw [g, if_neg h]
  · rw [← hpre, e2 i hge]; exact ⟨rfl, rfl⟩
def atL : List HeadD → Str → Int
  | [], _ => -1
  | h :: l, n => if h.name = n then h.at_ else atL l n
def cL7At : Con := .fn 27 (RepoD × Str) (fun a => [vRepo a.1, .str a.2]) (fun _ => True) (fun a => .int .i64 (atL a.1.heads a.2)) (fun _ => [])
theorem l7At_has : Has Tryz.prog 124 cL7At := by
  refine has_walk mixed tTab_ok (l := []) HasL.nil [0, 1, 2, 4, 5] ((fun a n (_ : Nat) => (fun a _ => ⟨Nat, fun i => ⟨[(1, true, .str a.2), (2, true, .ptr 10 0), (4, true, .int .i64 0), (5, true, .int .i64 i)], [(10, bRepo a.1)]⟩, fun i => i ≤ a.1.heads.length ∧ atL (a.1.heads.drop i) a.2 = atL a.1.heads a.2, fun i => a.1.heads.length - i⟩) a n)) [] Tryz.func124 (by kernel_rfl) (code := _) (by unfold Tryz.f124; rfl) (by kernel_rfl) (by decide) (fun _ => ⟨(), trivial⟩) (by intro h; first | exact fun _ => rfl | cases h) (by kernel_rfl) ?_
  intro a _
  obtain ⟨r, p⟩ := a
  have e1 : ∀ i (h : i < r.heads.length), atL (r.heads.drop i) p = if r.heads[i].name = p then r.heads[i].at_ else atL (r.heads.drop (i + 1)) p := fun i h => by rw [List.drop_eq_getElem_cons h]; rfl
  have e2 : ∀ i, r.heads.length ≤ i → atL (r.heads.drop i) p = -1 := fun i h => by rw [List.drop_eq_nil_of_le h]; rfl
  simp -implicitDefEqProofs [cL7At, Con.fn, tTab, bRepo_def]
  try dsimp only
  refine fun i hi hpre _ => ⟨fun hlt => ?_, fun hge => by rw [← hpre, e2 i hge]⟩
  have g := e1 i hlt
  rw [hpre] at g
  simp -implicitDefEqProofs [hlt, eHead, D.asStr, D.asInt, and_assoc]
  refine ⟨fun h => ?_, fun h => ⟨by omega, by omega, fun _ _ => ⟨i + 1, by omega, by omega, ?_, by omega⟩⟩⟩
  · rw [g, if_pos h]
  · rw [g, if_neg h]
def dropB (p : Str) (f : FileD) : Bool := decide (f.path ≠ p) && !inB p f.path
def cL4Drop : Con := .fn 39 (List FileD × Str) (fun a => [.sl true 2 (eFiles a.1), .str a.2]) (fun a => a.1.length ≤ 1048576) (fun a => .sl false 2 (eFiles (filB (dropB a.2) a.1))) (fun _ => [])
theorem l4Drop_has : Has Tryz.prog 277 cL4Drop := by
  refine has_walk mixed tTab_ok (l := [(166, cL4In)]) (HasL.cons l4In_has HasL.nil) [0, 1, 4, 5, 6] ((fun a n (_ : Nat) => (fun a _ => ⟨Nat, fun i => ⟨[(0, true, .sl true 2 (eFiles a.1)), (1, true, .str a.2), (4, true, .nil), (5, true, .own 9 2 (eFiles (filB (dropB a.2) (a.1.take i)))), (6, true, .int .i64 i)], [(9, .own 61 2 false (eFiles (filB (dropB a.2) (a.1.take i))))]⟩, fun i => i ≤ a.1.length, fun i => a.1.length - i⟩) a n)) [36] Tryz.func277 (by kernel_rfl) (code := _) (by unfold Tryz.f277; rfl) (by kernel_rfl) (by decide) (fun _ => ⟨(), trivial⟩) (by intro h; first | exact fun _ => rfl | cases h) (by kernel_rfl) ?_
  intro a ha
  obtain ⟨t, p⟩ := a
  replace ha : t.length ≤ 1048576 := ha
  have e1 := fun i h => @fil_hit (dropB p) t i h
  have e2 := fun i h => @fil_miss (dropB p) t i h
  simp -implicitDefEqProofs [cL4Drop, cL4In, Con.fn, tTab]
  try dsimp only
  refine ⟨⟨0, by simp -implicitDefEqProofs [filB]⟩, fun i hi _ => ⟨fun hlt => ?_, fun hge => ?_⟩⟩
  · have g1 := e1 i hlt
    have g2 := e2 i hlt
    have hl : (filB (dropB p) (t.take i)).length ≤ 1048576 := by have := List.length_filter_le (dropB p) (t.take i); unfold filB; simp at this ⊢; omega
    simp -implicitDefEqProofs [hlt, eFile, D.asStr, D.asRows, and_assoc]
    refine ⟨fun h => ⟨fun hi2 => ⟨by omega, by omega, by omega, by omega, fun _ _ => ⟨i + 1, ?_, by omega, ?_, by omega, by omega⟩⟩, fun hi2 => ⟨by omega, by omega, fun _ _ => ⟨i + 1, ?_, by omega, ?_, by omega, by omega⟩⟩⟩, fun h => ⟨by omega, by omega, fun _ _ => ⟨i + 1, ?_, by omega, ?_, by omega, by omega⟩⟩⟩
    · rw [g1 (by simp -implicitDefEqProofs [dropB, h, hi2])]; simp -implicitDefEqProofs [eFiles, eFile]
    · rw [g1 (by simp -implicitDefEqProofs [dropB, h, hi2])]; simp -implicitDefEqProofs [eFiles, eFile]
    · rw [g2 (by simp -implicitDefEqProofs [dropB, h, hi2])]
    · rw [g2 (by simp -implicitDefEqProofs [dropB, h, hi2])]
    · rw [g2 (by simp -implicitDefEqProofs [dropB, h])]
    · rw [g2 (by simp -implicitDefEqProofs [dropB, h])]
  · rw [List.take_of_length_le hge]
end Vx
end Go.Proofs.YtnanellmaelipaaGreatDoor
namespace Go.Proofs.YtnanellmaelipaaGreatDoor
set_option maxHeartbeats 4000000
namespace Vx
open Go.RowKit
set_option maxRecDepth 8000
def lcs : List Str → List Str → Int
  | [], _ => 0
  | _ :: _, [] => 0
  | x :: a, y :: b => if x = y then lcs a b + 1 else if lcs (x :: a) b ≤ lcs a (y :: b) then lcs a (y :: b) else lcs (x :: a) b
termination_by a b => a.length + b.length
def eRow (r : List Int) : List D := [.sl 3 1 (eInts r)]
def eRows (t : List (List Int)) : List (List D) := t.map eRow
@[simp] theorem eRows_length (l : List (List Int)) : (eRows l).length = l.length := by simp -implicitDefEqProofs [eRows]
@[simp] theorem eRows_nil : eRows [] = [] := rfl
@[simp] theorem eRows_get (l : List (List Int)) (i : Nat) : (eRows l)[i]? = l[i]?.map eRow := by simp -implicitDefEqProofs [eRows]
def tabF (a b : List Str) (p q : Nat) : List (List Int) := (List.range (a.length + 1)).map fun r => (List.range (b.length + 1)).map fun c => if p ≤ r ∨ (r + 1 = p ∧ q ≤ c) then lcs (a.drop r) (b.drop c) else 0
theorem rep_succ (i n : Nat) : eRows (List.replicate (i + 1) (List.replicate (n + 1) 0)) = eRows (List.replicate i (List.replicate (n + 1) 0)) ++ [[D.sl 3 1 (List.replicate (n + 1) [D.int .i64 0])]] := by
  rw [List.replicate_succ']
  simp -implicitDefEqProofs [eRows, eRow, eInts, eInt]
theorem tab_len {a b : List Str} {p q : Nat} : (tabF a b p q).length = a.length + 1 := by simp -implicitDefEqProofs [tabF]
def tabR (a b : List Str) (p q r : Nat) : List Int := (List.range (b.length + 1)).map fun c => if p ≤ r ∨ (r + 1 = p ∧ q ≤ c) then lcs (a.drop r) (b.drop c) else 0
theorem tab_row {a b : List Str} {p q r : Nat} (h : r ≤ a.length) : (tabF a b p q)[r]? = some (tabR a b p q r) := by
  simp -implicitDefEqProofs [tabF, tabR, List.getElem?_map, List.getElem?_range (show r < a.length + 1 by omega)]
theorem lcs_nil_l (b : List Str) : lcs [] b = 0 := by rw [lcs]
theorem lcs_nil_r (a : List Str) : lcs a [] = 0 := by cases a <;> rw [lcs]
theorem tab_first {a b : List Str} {i : Nat} (h : a.length + 1 = i) : tabF a b a.length (b.length + 1) = List.replicate i (List.replicate (b.length + 1) 0) := by
  subst h
  apply List.ext_getElem
  · simp -implicitDefEqProofs [tabF]
  · intro r h1 h2
    apply List.ext_getElem
    · simp -implicitDefEqProofs [tabF]
    · intro c h3 h4
      simp only [tabF, List.getElem_map, List.getElem_range, List.getElem_replicate]
      split
      · rename_i h5
        have h6 : a.drop r = [] := by
          rcases h5 with h5 | ⟨_, h5⟩
          · exact List.drop_eq_nil_of_le h5
          · simp -implicitDefEqProofs [tabF] at h3; omega
        rw [h6, lcs_nil_l]
      · rfl
theorem tab_col {a b : List Str} {p : Nat} : tabF a b p b.length = tabF a b p (b.length + 1) := by
  unfold tabF
  apply List.map_congr_left
  intro r _
  apply List.map_congr_left
  intro c hc
  have hc : c < b.length + 1 := by simpa using hc
  by_cases h : p ≤ r
  · rw [if_pos (.inl h), if_pos (.inl h)]
  · by_cases h2 : r + 1 = p ∧ b.length ≤ c
    · rw [if_pos (.inr h2), if_neg (by omega), List.drop_eq_nil_of_le h2.2, lcs_nil_r]
    · rw [if_neg (by omega), if_neg (by omega)]
theorem tab_next {a b : List Str} {p : Nat} (h : 0 < p) : tabF a b (p - 1) (b.length + 1) = tabF a b p 0 := by
  unfold tabF
  apply List.map_congr_left
  intro r _
  apply List.map_congr_left
  intro c hc
  have hc : c < b.length + 1 := by simpa using hc
  by_cases h2 : p ≤ r + 1
  · rw [if_pos (.inl (by omega)), if_pos (by omega)]
  · rw [if_neg (by omega), if_neg (by omega)]
theorem tab_zero {a b : List Str} {q : Nat} : tabF a b 0 q = tabF a b 0 0 := by
  unfold tabF
  apply List.map_congr_left
  intro r _
  apply List.map_congr_left
  intro c _
  rw [if_pos (.inl (Nat.zero_le _)), if_pos (.inl (Nat.zero_le _))]
theorem tabR_len {a b : List Str} {p q r : Nat} : (tabR a b p q r).length = b.length + 1 := by simp -implicitDefEqProofs [tabR]
theorem tabR_get {a b : List Str} {p q r c : Nat} (h : c ≤ b.length) : (tabR a b p q r)[c]? = some (if p ≤ r ∨ (r + 1 = p ∧ q ≤ c) then lcs (a.drop r) (b.drop c) else 0) := by
  simp -implicitDefEqProofs [tabR, List.getElem?_map, List.getElem?_range (show c < b.length + 1 by omega)]
theorem lcs_bd (a b : List Str) : 0 ≤ lcs a b ∧ lcs a b ≤ a.length := by
  fun_induction lcs a b
  · simp
  · simp; omega
  · simp_all; omega
  · simp_all; omega
  · simp_all
theorem lcs_step {a b : List Str} {p q : Nat} (hp : 0 < p) (hp2 : p ≤ a.length) (hq : 0 < q) (hq2 : q ≤ b.length) : lcs (a.drop (p - 1)) (b.drop (q - 1)) = if a[p - 1] = b[q - 1] then lcs (a.drop p) (b.drop q) + 1 else if lcs (a.drop (p - 1)) (b.drop q) ≤ lcs (a.drop p) (b.drop (q - 1)) then lcs (a.drop p) (b.drop (q - 1)) else lcs (a.drop (p - 1)) (b.drop q) := by
  have e1 : a.drop (p - 1) = a[p - 1] :: a.drop p := by rw [List.drop_eq_getElem_cons (show p - 1 < a.length by omega), show p - 1 + 1 = p by omega]
  have e2 : b.drop (q - 1) = b[q - 1] :: b.drop q := by rw [List.drop_eq_getElem_cons (show q - 1 < b.length by omega), show q - 1 + 1 = q by omega]
  rw [e1, e2, lcs]
theorem tab_put {a b : List Str} {p q : Nat} (hp : 0 < p) (hp2 : p ≤ a.length) (hq : 0 < q) (hq2 : q ≤ b.length) : ∀ v, v = lcs (a.drop (p - 1)) (b.drop (q - 1)) → (eRows (tabF a b p q)).set (p - 1) [D.sl 3 1 ((eInts (tabR a b p q (p - 1))).set (q - 1) [D.int .i64 v])] = eRows (tabF a b p (q - 1)) := by
  intro v hv
  have e : (tabF a b p q).set (p - 1) ((tabR a b p q (p - 1)).set (q - 1) v) = tabF a b p (q - 1) := by
    apply List.ext_getElem
    · simp -implicitDefEqProofs [tabF]
    · intro r h1 h2
      rw [List.getElem_set]
      split
      · rename_i hr
        subst hr
        apply List.ext_getElem
        · simp -implicitDefEqProofs [tabF, tabR]
        · intro c h3 h4
          rw [List.getElem_set]
          split
          · rename_i hc
            subst hc
            simp only [tabF, List.getElem_map, List.getElem_range]
            rw [if_pos (by omega), hv]
          · rename_i hc
            simp only [tabF, tabR, List.getElem_map, List.getElem_range]
            by_cases h : p ≤ p - 1 ∨ (p - 1 + 1 = p ∧ q ≤ c)
            · rw [if_pos h, if_pos (by omega)]
            · rw [if_neg h, if_neg (by omega)]
      · rename_i hr
        simp only [tabF, List.getElem_map, List.getElem_range]
        apply List.map_congr_left
        intro c _
        by_cases h : p ≤ r ∨ (r + 1 = p ∧ q ≤ c)
        · rw [if_pos h, if_pos (by omega)]
        · rw [if_neg h, if_neg (by omega)]
  rw [← e]
  simp -implicitDefEqProofs [eRows, eRow, eInts, List.map_set, eInt]
def l1tA (a b : List Str) : Inv := ⟨Nat, fun i => ⟨[(0, true, .sl true 1 (eStrs a)), (1, true, .sl true 1 (eStrs b)), (4, true, .nil), (5, true, .own 9 1 (eRows (List.replicate i (List.replicate (b.length + 1) 0)))), (6, true, .int .i64 i)], [(9, .own 35 1 true (eRows (List.replicate i (List.replicate (b.length + 1) 0))))]⟩, fun i => i ≤ a.length + 1, fun i => a.length + 1 - i⟩
def l1tB (a b : List Str) : Inv := ⟨Nat, fun p => ⟨[(0, true, .sl true 1 (eStrs a)), (1, true, .sl true 1 (eStrs b)), (4, true, .nil), (5, true, .own 9 1 (eRows (tabF a b p (b.length + 1)))), (7, true, .int .i64 ((p : Int) - 1))], [(9, .own 35 1 true (eRows (tabF a b p (b.length + 1))))]⟩, fun p => p ≤ a.length, fun p => p⟩
def l1tC (a b : List Str) (g : Nat) : Inv := ⟨Nat, fun q => ⟨[(0, true, .sl true 1 (eStrs a)), (1, true, .sl true 1 (eStrs b)), (4, true, .nil), (5, true, .own 9 1 (eRows (tabF a b g q))), (7, true, .int .i64 ((g : Int) - 1)), (8, true, .int .i64 ((q : Int) - 1))], [(9, .own 35 1 true (eRows (tabF a b g q)))]⟩, fun q => q ≤ b.length ∧ 0 < g ∧ g ≤ a.length, fun q => q⟩
def l1tInv (a b : List Str) (n g : Nat) : Inv := if n = 3 then l1tA a b else if n = 7 then l1tB a b else l1tC a b g
theorem l1tInv_3 (a b g) : l1tInv a b 3 g = l1tA a b := rfl
theorem l1tInv_7 (a b g) : l1tInv a b 7 g = l1tB a b := rfl
theorem l1tInv_10 (a b g) : l1tInv a b 10 g = l1tC a b g := rfl
def cL1Table : Con := .fn 110 (List Str × List Str) (fun a => [.sl true 1 (eStrs a.1), .sl true 1 (eStrs a.2)]) (fun a => a.1.length ≤ 1048576 ∧ a.2.length ≤ 1048576) (fun a => .own 8 1 (eRows (tabF a.1 a.2 0 0))) (fun a => [(8, .own 35 1 true (eRows (tabF a.1 a.2 0 0)))])
theorem l1Table_has : Has Tryz.prog 161 cL1Table := by
  refine has_walk mixed tTab_ok (l := []) HasL.nil [0, 1, 4, 5, 6, 7, 8] (fun a => l1tInv a.1 a.2) [] Tryz.func161 (by kernel_rfl) (code := _) (by unfold Tryz.f161; rfl) (by kernel_rfl) (by decide) (fun _ => ⟨(), trivial⟩) (by intro h; first | exact fun _ => rfl | cases h) (by kernel_rfl) ?_
  intro a ha
  obtain ⟨a, b⟩ := a
  obtain ⟨h1, h2⟩ : a.length ≤ 1048576 ∧ b.length ≤ 1048576 := ha
  simp (maxSteps := 4000000) [cL1Table, Con.fn, tTab, l1tInv_3, l1tInv_7, l1tInv_10, l1tA, l1tB, l1tC]
  try dsimp only
  refine ⟨⟨0, by simp⟩, fun i hi _ => ⟨fun hlt _ => ⟨by omega, fun _ _ => ⟨by omega, fun _ _ _ => ⟨by omega, by omega, fun _ _ => ⟨i + 1, ⟨⟨?_, by omega⟩, ?_⟩, by omega, by omega⟩⟩⟩⟩, fun hge _ => ⟨by omega, fun _ _ => ⟨⟨a.length, ⟨⟨?_, rfl⟩, ?_⟩, Nat.le_refl _⟩, fun p hp => ⟨fun h1p _ => ⟨by omega, fun _ _ => ⟨p, ⟨b.length, ⟨⟨?_, rfl, rfl⟩, ?_⟩, Nat.le_refl _, by omega, hp⟩, fun q hq hg hga => ⟨fun hq1 => ?_, fun hq0 => ⟨by omega, fun _ _ => ⟨p - 1, ⟨⟨?_, by omega⟩, ?_⟩, by omega, by omega⟩⟩⟩⟩⟩, fun hp0 => ?_⟩⟩⟩⟩⟩
  · rw [rep_succ]
  · rw [rep_succ]
  · rw [tab_first (show a.length + 1 = i by omega)]
  · rw [tab_first (show a.length + 1 = i by omega)]
  · rw [tab_col]
  · rw [tab_col]
  · obtain ⟨T, hT⟩ : ∃ T, T = tabF a b p q := ⟨_, rfl⟩
    have t1 := @tab_len a b p q
    have t2 := tab_row (a := a) (b := b) (p := p) (q := q) (r := p) (by omega)
    have t3 := tab_row (a := a) (b := b) (p := p) (q := q) (r := p - 1) (by omega)
    have t4 : a[p - 1]? = some a[p - 1] := List.getElem?_eq_getElem (by omega)
    have t5 : b[q - 1]? = some b[q - 1] := List.getElem?_eq_getElem (by omega)
    have u1 := @tabR_len a b p q p
    have u2 := @tabR_len a b p q (p - 1)
    have u3 : (tabR a b p q p)[q]? = some (lcs (a.drop p) (b.drop q)) := by rw [tabR_get (by omega), if_pos (by omega)]
    have u4 : (tabR a b p q p)[q - 1]? = some (lcs (a.drop p) (b.drop (q - 1))) := by rw [tabR_get (by omega), if_pos (by omega)]
    have u5 : (tabR a b p q (p - 1))[q]? = some (lcs (a.drop (p - 1)) (b.drop q)) := by rw [tabR_get (by omega), if_pos (by omega)]
    have v1 := lcs_bd (a.drop p) (b.drop q)
    have v2 := lcs_bd (a.drop p) (b.drop (q - 1))
    have v3 := lcs_bd (a.drop (p - 1)) (b.drop q)
    have v4 : (a.drop p).length ≤ a.length := by simp
    have v5 : (a.drop (p - 1)).length ≤ a.length := by simp
    have w1 := tab_put (a := a) (b := b) (p := p) (q := q) hg hga (by omega) hq
    have w2 := lcs_step (a := a) (b := b) (p := p) (q := q) hg hga (by omega) hq
    rw [← hT] at t1 t2 t3 w1 ⊢
    clear hT
    generalize lcs (a.drop p) (b.drop q) = L11 at *
    generalize lcs (a.drop p) (b.drop (q - 1)) = L10 at *
    generalize lcs (a.drop (p - 1)) (b.drop q) = L01 at *
    generalize tabR a b p q p = rB at *
    generalize tabR a b p q (p - 1) = rA at *
    simp -implicitDefEqProofs [t1, t2, t3, t4, t5, u1, u2, u3, u4, u5, eInt, eStr, D.asStr, eRow, D.asRows, D.asInt, and_assoc]
    have fin : ∀ v, v = lcs (a.drop (p - 1)) (b.drop (q - 1)) → ∃ t', eRows (tabF a b p t') = (eRows T).set (p - 1) [D.sl 3 1 ((eInts rA).set (q - 1) [D.int .i64 v])] ∧ (t' : Int) = q - 1 ∧ (eRows T).set (p - 1) [D.sl 3 1 ((eInts rA).set (q - 1) [D.int .i64 v])] = eRows (tabF a b p t') ∧ t' ≤ b.length ∧ 0 < p ∧ p ≤ a.length ∧ t' < q :=
      fun v hv => ⟨q - 1, (w1 v hv).symm, by omega, w1 v hv, by omega, hg, hga, by omega⟩
    repeat' (first | intro _ | apply And.intro)
    all_goals first | omega | exact fin _ (by rw [w2, if_pos (by assumption)]) | exact fin _ (by rw [w2, if_neg (by assumption), if_pos (by assumption)]) | exact fin _ (by rw [w2, if_neg (by assumption), if_neg (by omega)])
  · rw [show q = 0 by omega, tab_next (by omega)]
  · rw [show q = 0 by omega, tab_next (by omega)]
  · rw [show p = 0 by omega, tab_zero]; exact ⟨rfl, rfl⟩
end Vx
end Go.Proofs.YtnanellmaelipaaGreatDoor
namespace Go.Proofs.YtnanellmaelipaaGreatDoor
set_option maxHeartbeats 4000000
namespace Vx
open Go.RowKit
set_option maxRecDepth 8000
def mt : List Str → List Str → Nat → List Int
  | [], _, _ => []
  | _ :: a, [], k => -1 :: mt a [] k
  | x :: a, y :: b, k => if x = y then (k : Int) :: mt a b (k + 1) else if lcs (x :: a) b ≤ lcs a (y :: b) then -1 :: mt a (y :: b) k else mt (x :: a) b (k + 1)
termination_by a b => a.length + b.length
theorem mt_len (a b : List Str) (k : Nat) : (mt a b k).length = a.length := by
  fun_induction mt a b k <;> simp_all
theorem mt_end {a b : List Str} {i k : Nat} (h : i < a.length) (hk : b.length ≤ k) : mt (a.drop i) (b.drop k) k = -1 :: mt (a.drop (i + 1)) (b.drop k) k := by
  rw [List.drop_eq_getElem_cons h, List.drop_eq_nil_of_le hk, mt]
theorem mt_step {a b : List Str} {i k : Nat} (h : i < a.length) (hk : k < b.length) : mt (a.drop i) (b.drop k) k = if a[i] = b[k] then (k : Int) :: mt (a.drop (i + 1)) (b.drop (k + 1)) (k + 1) else if lcs (a.drop i) (b.drop (k + 1)) ≤ lcs (a.drop (i + 1)) (b.drop k) then -1 :: mt (a.drop (i + 1)) (b.drop k) k else mt (a.drop i) (b.drop (k + 1)) (k + 1) := by
  have e1 : a.drop i = a[i] :: a.drop (i + 1) := List.drop_eq_getElem_cons h
  have e2 : b.drop k = b[k] :: b.drop (k + 1) := List.drop_eq_getElem_cons hk
  rw [e1, e2, mt]
theorem snocI (o : List Int) (v : Int) : eInts (o ++ [v]) = eInts o ++ [[D.int .i64 v]] := by simp -implicitDefEqProofs [eInts, eInt]
def l1m (a b : List Str) : Inv := ⟨Nat × Nat × List Int, fun t => ⟨[(0, true, .sl true 1 (eStrs a)), (1, true, .sl true 1 (eStrs b)), (4, true, .nil), (5, true, .own 9 1 (eRows (tabF a b 0 0))), (6, true, .own 10 1 (eInts t.2.2)), (7, true, .int .i64 t.2.1), (8, true, .int .i64 t.1)], [(9, .own 35 1 true (eRows (tabF a b 0 0))), (10, .own 3 1 true (eInts t.2.2))]⟩,
  fun t => t.1 ≤ a.length ∧ t.2.1 ≤ b.length ∧ t.2.2.length = t.1 ∧ t.2.2 ++ mt (a.drop t.1) (b.drop t.2.1) t.2.1 = mt a b 0, fun t => (a.length - t.1) + (b.length - t.2.1)⟩
def cL1Match : Con := .fn 73 (List Str × List Str) (fun a => [.sl true 1 (eStrs a.1), .sl true 1 (eStrs a.2)]) (fun a => a.1.length ≤ 1048576 ∧ a.2.length ≤ 1048576) (fun a => .own 8 1 (eInts (mt a.1 a.2 0))) (fun a => ownInts 8 (mt a.1 a.2 0))
theorem l1Match_has : Has Tryz.prog 269 cL1Match := by
  refine has_walk mixed tTab_ok (l := [(161, cL1Table)]) (HasL.cons l1Table_has HasL.nil) [0, 1, 4, 5, 6, 7, 8] ((fun a n (_ : Nat) => (fun a _ => l1m a.1 a.2) a n)) [] Tryz.func269 (by kernel_rfl) (code := _) (by unfold Tryz.f269; rfl) (by kernel_rfl) (by decide) (fun _ => ⟨(), trivial⟩) (by intro h; first | exact fun _ => rfl | cases h) (by kernel_rfl) ?_
  intro a ha
  obtain ⟨a, b⟩ := a
  obtain ⟨h1, h2⟩ : a.length ≤ 1048576 ∧ b.length ≤ 1048576 := ha
  simp (maxSteps := 4000000) [cL1Match, cL1Table, Con.fn, tTab, l1m]
  try dsimp only
  refine ⟨a, b, ⟨rfl, rfl⟩, ⟨h1, h2⟩, ⟨0, 0, [], ⟨⟨rfl, rfl, rfl, rfl⟩, rfl, rfl⟩, Nat.zero_le _, Nat.zero_le _, rfl, by simp⟩, fun i k out hi hk hl hm _ => ⟨fun hlt => ?_, fun hge => ?_⟩⟩
  · have t1 := @tab_len a b 0 0
    have t2 := tab_row (a := a) (b := b) (p := 0) (q := 0) (r := i) (by omega)
    have t3 := tab_row (a := a) (b := b) (p := 0) (q := 0) (r := i + 1) (by omega)
    have u1 := @tabR_len a b 0 0 i
    have u2 := @tabR_len a b 0 0 (i + 1)
    have t4 : a[i]? = some a[i] := List.getElem?_eq_getElem hlt
    have m0 := mt_end (a := a) (b := b) (i := i) (k := k) hlt
    rcases Nat.lt_or_ge k b.length with hkb | hkb
    · have t5 : b[k]? = some b[k] := List.getElem?_eq_getElem hkb
      have u3 : (tabR a b 0 0 (i + 1))[k]? = some (lcs (a.drop (i + 1)) (b.drop k)) := by rw [tabR_get (by omega), if_pos (by omega)]
      have u4 : (tabR a b 0 0 i)[k + 1]? = some (lcs (a.drop i) (b.drop (k + 1))) := by rw [tabR_get (by omega), if_pos (by omega)]
      have m1 := mt_step (a := a) (b := b) (i := i) (k := k) hlt hkb
      generalize tabF a b 0 0 = T at *
      generalize tabR a b 0 0 i = rA at *
      generalize tabR a b 0 0 (i + 1) = rB at *
      generalize lcs (a.drop (i + 1)) (b.drop k) = L1 at *
      generalize lcs (a.drop i) (b.drop (k + 1)) = L2 at *
      have g1 : ¬ b.length ≤ k := by omega
      obtain ⟨_, u6⟩ := List.getElem?_eq_some_iff.1 u4
      simp -implicitDefEqProofs [hkb, g1, t1, t2, t3, t4, t5, u1, u2, u3, u4, u6, eInt, eStr, D.asStr, eRow, D.asRows, D.asInt, and_assoc]
      refine ⟨hlt, fun _ => ⟨fun e => ⟨by omega, by omega, by omega, by omega, fun _ _ => ⟨by omega, by omega, fun _ _ => ⟨i + 1, k + 1, out ++ [(k : Int)], snocI _ _, by omega, by omega, (snocI _ _).symm, by omega, by omega, by simp -implicitDefEqProofs [hl], ?_, by omega⟩⟩⟩, fun e => ⟨by omega, by omega, fun _ _ => ⟨by omega, by omega, fun _ _ => ⟨by omega, fun _ => ⟨by omega, fun _ => ⟨by omega, by omega, fun _ _ => ⟨by omega, fun _ => ⟨fun c => ⟨by omega, by omega, by omega, by omega, fun _ _ => ⟨i + 1, k, out ++ [-1], snocI _ _, by omega, by omega, (snocI _ _).symm, by omega, by omega, by simp -implicitDefEqProofs [hl], ?_, by omega⟩⟩, fun c => ⟨by omega, by omega, fun _ _ => ⟨i, k + 1, by omega, by omega, by omega, by omega, hl, ?_, by omega⟩⟩⟩⟩⟩⟩⟩⟩⟩⟩⟩
      · rw [← hm, m1, if_pos e]; simp
      · rw [← hm, m1, if_neg e, if_pos c]; simp
      · rw [← hm, m1, if_neg e, if_neg (by omega)]
    · have g1 : ¬ k < b.length := by omega
      simp -implicitDefEqProofs [hkb, g1, t4, eStr, D.asStr, and_assoc]
      refine ⟨by omega, by omega, by omega, by omega, fun _ _ => ⟨i + 1, k, out ++ [-1], snocI _ _, by omega, by omega, (snocI _ _).symm, by omega, by omega, by simp -implicitDefEqProofs [hl], ?_, by omega⟩⟩
      rw [← hm, m0 (by omega)]; simp
  · rw [List.drop_eq_nil_of_le hge, mt, List.append_nil] at hm
    exact ⟨hm.symm, hm⟩
end Vx
end Go.Proofs.YtnanellmaelipaaGreatDoor
namespace Go.Proofs.YtnanellmaelipaaGreatDoor
namespace Vx
open Go.RowKit
set_option maxRecDepth 8000
structure PartD where
  clash : Bool
  lines : List Str
  old : List Str
  one : List Str
  two : List Str
  deriving DecidableEq, Inhabited
def ePart (a : PartD) : List D := [.bool a.clash, .sl 9 1 (eStrs a.lines), .sl 9 1 (eStrs a.old), .sl 9 1 (eStrs a.one), .sl 9 1 (eStrs a.two)]
@[simp] theorem ePart_inj (a b : PartD) : (ePart a = ePart b) = (a = b) := by
  cases a; cases b; simp -implicitDefEqProofs [ePart]
@[simp] theorem PartD.eta (a : PartD) : (⟨a.clash, a.lines, a.old, a.one, a.two⟩ : PartD) = a := rfl
theorem PartD.eq_iff (a b : PartD) : (a = b) = (a.clash = b.clash ∧ a.lines = b.lines ∧ a.old = b.old ∧ a.one = b.one ∧ a.two = b.two) := by
  cases a; cases b; simp
@[simp] theorem PartD.ex1 (x_clash : Bool) (x_lines : List Str) (x_old : List Str) (x_one : List Str) (x_two : List Str) (Q : PartD → Prop) : (∃ a : PartD, a.clash = x_clash ∧ a.lines = x_lines ∧ a.old = x_old ∧ a.one = x_one ∧ a.two = x_two ∧ Q a) = Q ⟨x_clash, x_lines, x_old, x_one, x_two⟩ := by
  apply propext
  constructor
  · rintro ⟨⟨_, _, _, _, _⟩, rfl, rfl, rfl, rfl, rfl, h⟩; exact h
  · intro h; exact ⟨⟨x_clash, x_lines, x_old, x_one, x_two⟩, rfl, rfl, rfl, rfl, rfl, h⟩
@[simp] theorem PartD.ex2 (x_clash : Bool) (x_lines : List Str) (x_old : List Str) (x_one : List Str) (x_two : List Str) (Q : PartD → Prop) : (∃ a : PartD, (a.clash = x_clash ∧ a.lines = x_lines ∧ a.old = x_old ∧ a.one = x_one ∧ a.two = x_two) ∧ Q a) = Q ⟨x_clash, x_lines, x_old, x_one, x_two⟩ := by
  apply propext
  constructor
  · rintro ⟨⟨_, _, _, _, _⟩, ⟨rfl, rfl, rfl, rfl, rfl⟩, h⟩; exact h
  · intro h; exact ⟨⟨x_clash, x_lines, x_old, x_one, x_two⟩, ⟨rfl, rfl, rfl, rfl, rfl⟩, h⟩
@[simp] theorem PartD.ex0 (x_clash : Bool) (x_lines : List Str) (x_old : List Str) (x_one : List Str) (x_two : List Str) : (∃ a : PartD, a.clash = x_clash ∧ a.lines = x_lines ∧ a.old = x_old ∧ a.one = x_one ∧ a.two = x_two) = True := by
  simp only [eq_iff_iff, iff_true]
  exact ⟨⟨x_clash, x_lines, x_old, x_one, x_two⟩, rfl, rfl, rfl, rfl, rfl⟩
def eParts (l : List PartD) : List (List D) := l.map ePart
@[simp] theorem eParts_length (l : List PartD) : (eParts l).length = l.length := by simp -implicitDefEqProofs [eParts]
@[simp] theorem eParts_nil : eParts [] = [] := rfl
@[simp] theorem eParts_get (l : List PartD) (i : Nat) : (eParts l)[i]? = l[i]?.map ePart := by simp -implicitDefEqProofs [eParts]
@[simp] theorem eParts_getElem (l : List PartD) (i : Nat) (h : i < (eParts l).length) : (eParts l)[i] = ePart (l[i]'(by simpa using h)) := by simp -implicitDefEqProofs [eParts]
@[simp] theorem eParts_inj (a b : List PartD) : (eParts a = eParts b) = (a = b) := by
  apply propext
  constructor
  · intro h
    exact List.map_inj_right (fun x y h => by simpa using h) |>.1 h
  · rintro rfl; rfl
@[simp] theorem eParts_eq_nil (a : List PartD) : (eParts a = []) = (a = []) := by simp -implicitDefEqProofs [eParts]
@[simp] theorem nil_eq_eParts (a : List PartD) : ([] = eParts a) = (a = []) := by simp -implicitDefEqProofs [eParts, eq_comm]
theorem eParts_append (a b : List PartD) : eParts (a ++ b) = eParts a ++ eParts b := by simp -implicitDefEqProofs [eParts]
abbrev ownParts (h : Nat) (a : List PartD) : List (Nat × Blk) := [(h, .own 270 5 true (eParts a))]
def part3 (o a b : List Str) : PartD := if a = o ∨ a = b then ⟨false, b, [], [], []⟩ else if b = o then ⟨false, a, [], [], []⟩ else ⟨true, [], o, a, b⟩
theorem part3_lines (o a b : List Str) : (part3 o a b).lines.length ≤ a.length + b.length := by
  unfold part3
  split
  · simp
  · split <;> simp
def put3 (l : List PartD) (p : PartD) : List PartD :=
  if p.clash = false ∧ p.lines = [] then l
  else match l.getLast? with
    | some q => if p.clash = false ∧ q.clash = false then l.set (l.length - 1) ⟨q.clash, q.lines ++ p.lines, q.old, q.one, q.two⟩ else l ++ [p]
    | none => l ++ [p]
theorem put3_len (l : List PartD) (p : PartD) : (put3 l p).length ≤ l.length + 1 := by
  unfold put3
  split
  · omega
  · split
    · split <;> simp
    · simp
theorem put3_bd {l : List PartD} {p : PartD} {n : Nat} (h : ∀ q ∈ l, q.lines.length ≤ n) : ∀ q ∈ put3 l p, q.lines.length ≤ n + p.lines.length := by
  intro q hq
  unfold put3 at hq
  split at hq
  · have := h q hq; omega
  · split at hq
    · rename_i r hr
      split at hq
      · rcases List.mem_or_eq_of_mem_set hq with hq | hq
        · have := h q hq; omega
        · subst hq
          have := h r (List.mem_of_getLast? hr)
          simp; omega
      · rcases List.mem_append.1 hq with hq | hq
        · have := h q hq; omega
        · simp at hq; subst hq; omega
    · rcases List.mem_append.1 hq with hq | hq
      · have := h q hq; omega
      · simp at hq; subst hq; omega
def asc : Int → Int → List Int → Prop
  | _, _, [] => True
  | k, n, x :: l => (x < 0 ∧ asc k n l) ∨ (k ≤ x ∧ x < n ∧ asc (x + 1) n l)
theorem asc_mono : ∀ {l : List Int} {k k' n : Int}, k ≤ k' → asc k' n l → asc k n l
  | [], _, _, _, _, _ => trivial
  | x :: l, k, k', n, h, h2 => by
    rcases h2 with ⟨h3, h4⟩ | ⟨h3, h4, h5⟩
    · exact .inl ⟨h3, asc_mono h h4⟩
    · exact .inr ⟨by omega, h4, h5⟩
theorem asc_snoc : ∀ {l : List Int} {k n : Int}, k ≤ n → asc k n l → asc k (n + 1) (l ++ [n])
  | [], k, n, h, _ => .inr ⟨h, by omega, trivial⟩
  | x :: l, k, n, h, h2 => by
    rcases h2 with ⟨h3, h4⟩ | ⟨h3, h4, h5⟩
    · exact .inl ⟨h3, asc_snoc h h4⟩
    · exact .inr ⟨h3, by omega, asc_snoc (by omega) h5⟩
theorem mt_asc (a b : List Str) (k : Nat) : asc k (k + b.length) (mt a b k) := by
  fun_induction mt a b k with
  | case1 => trivial
  | case2 x a k ih => exact .inl ⟨by omega, ih⟩
  | case3 a y b k ih =>
    refine .inr ⟨by omega, by simp only [List.length_cons]; omega, ?_⟩
    have e : ((k + 1 : Nat) : Int) + b.length = k + (y :: b).length := by simp only [List.length_cons]; omega
    rw [e] at ih
    exact ih
  | case4 x a y b k h h2 ih => exact .inl ⟨by omega, ih⟩
  | case5 x a y b k h1 h2 ih =>
    have e : ((k + 1 : Nat) : Int) + b.length = k + (y :: b).length := by simp only [List.length_cons]; omega
    rw [e] at ih
    exact asc_mono (by omega) ih
def mtE (a b : List Str) : List Int := mt a b 0 ++ [(b.length : Int)]
theorem mtE_len (a b : List Str) : (mtE a b).length = a.length + 1 := by simp -implicitDefEqProofs [mtE, mt_len]
theorem mtE_asc (a b : List Str) : asc 0 (b.length + 1) (mtE a b) := by
  have h := mt_asc a b 0
  have := asc_snoc (k := 0) (n := b.length) (by omega) (by simpa using h)
  exact this
theorem asc_at {l : List Int} {i : Nat} {k n : Int} (h : i < l.length) (ha : asc k n (l.drop i)) : (l[i] < 0 ∧ asc k n (l.drop (i + 1))) ∨ (k ≤ l[i] ∧ l[i] < n ∧ asc (l[i] + 1) n (l.drop (i + 1))) := by
  rw [List.drop_eq_getElem_cons h] at ha
  exact ha
structure S3 where
  io : Nat
  ia : Nat
  ib : Nat
  out : List PartD
def step3 (o a b : List Str) (x y : Int) (i : Nat) (s : S3) : S3 :=
  if x < 0 ∨ y < 0 then s
  else ⟨i + 1, x.toNat + 1, y.toNat + 1,
    if i < o.length then put3 (put3 s.out (part3 ((o.take i).drop s.io) ((a.take x.toNat).drop s.ia) ((b.take y.toNat).drop s.ib))) ⟨false, [o.getD i []], [], [], []⟩
    else put3 s.out (part3 ((o.take i).drop s.io) ((a.take x.toNat).drop s.ia) ((b.take y.toNat).drop s.ib))⟩
def run3 (o a b : List Str) : Nat → S3
  | 0 => ⟨0, 0, 0, []⟩
  | i + 1 => step3 o a b ((mtE o a).getD i 0) ((mtE o b).getD i 0) i (run3 o a b i)
def of3 (o a b : List Str) : List PartD := (run3 o a b (o.length + 1)).out
def Ok3 (o a b : List Str) (i : Nat) (s : S3) : Prop :=
  s.io ≤ i ∧ s.ia ≤ a.length + 1 ∧ s.ib ≤ b.length + 1 ∧ asc s.ia (a.length + 1) ((mtE o a).drop i) ∧ asc s.ib (b.length + 1) ((mtE o b).drop i) ∧ s.out.length ≤ 2 * i ∧ ∀ q ∈ s.out, q.lines.length ≤ s.io + s.ia + s.ib
theorem ok3_0 (o a b : List Str) : Ok3 o a b 0 ⟨0, 0, 0, []⟩ := ⟨by simp, by simp, by simp, by simpa using mtE_asc o a, by simpa using mtE_asc o b, by simp, by simp⟩
theorem ok3_step {o a b : List Str} {i : Nat} {s : S3} (hi : i < o.length + 1) (h : Ok3 o a b i s) : Ok3 o a b (i + 1) (step3 o a b ((mtE o a).getD i 0) ((mtE o b).getD i 0) i s) := by
  obtain ⟨h1, h2, h3, h4, h5, h6, h7⟩ := h
  have la := mtE_len o a
  have lb := mtE_len o b
  have ga : (mtE o a).getD i 0 = (mtE o a)[i]'(by omega) := by simp -implicitDefEqProofs [List.getD_eq_getElem?_getD, List.getElem?_eq_getElem (show i < (mtE o a).length by omega)]
  have gb : (mtE o b).getD i 0 = (mtE o b)[i]'(by omega) := by simp -implicitDefEqProofs [List.getD_eq_getElem?_getD, List.getElem?_eq_getElem (show i < (mtE o b).length by omega)]
  rw [ga, gb]
  have h4 := asc_at (l := mtE o a) (by omega) h4
  have h5 := asc_at (l := mtE o b) (by omega) h5
  generalize (mtE o a)[i]'(by omega) = x at *
  generalize (mtE o b)[i]'(by omega) = y at *
  unfold step3
  split
  · rename_i hxy
    refine ⟨by omega, h2, h3, ?_, ?_, by omega, h7⟩
    · rcases h4 with h4 | h4
      · exact h4.2
      · exact asc_mono (by omega) h4.2.2
    · rcases h5 with h5 | h5
      · exact h5.2
      · exact asc_mono (by omega) h5.2.2
  · rename_i hxy
    rcases h4 with h4 | ⟨h4, h41, h42⟩
    · omega
    rcases h5 with h5 | ⟨h5, h51, h52⟩
    · omega
    have ex : ((x.toNat + 1 : Nat) : Int) = x + 1 := by omega
    have ey : ((y.toNat + 1 : Nat) : Int) = y + 1 := by omega
    have b1 := part3_lines ((o.take i).drop s.io) ((a.take x.toNat).drop s.ia) ((b.take y.toNat).drop s.ib)
    have b2 := put3_bd (p := part3 ((o.take i).drop s.io) ((a.take x.toNat).drop s.ia) ((b.take y.toNat).drop s.ib)) h7
    have b3 := put3_len s.out (part3 ((o.take i).drop s.io) ((a.take x.toNat).drop s.ia) ((b.take y.toNat).drop s.ib))
    generalize part3 ((o.take i).drop s.io) ((a.take x.toNat).drop s.ia) ((b.take y.toNat).drop s.ib) = p at *
    have b1 : p.lines.length ≤ (x.toNat - s.ia) + (y.toNat - s.ib) := by
      refine Nat.le_trans b1 ?_
      simp only [List.length_drop, List.length_take]
      omega
    refine ⟨by simp, by simp; omega, by simp; omega, by simpa only [ex] using h42, by simpa only [ey] using h52, ?_, ?_⟩
    · show (if i < o.length then _ else _ : List PartD).length ≤ _
      split
      · have := put3_len (put3 s.out p) ⟨false, [o.getD i []], [], [], []⟩
        omega
      · omega
    · show ∀ q ∈ (if i < o.length then _ else _ : List PartD), _
      split
      · intro q hq
        have := put3_bd (p := ⟨false, [o.getD i []], [], [], []⟩) b2 q hq
        simp at this
        show q.lines.length ≤ (i + 1) + (x.toNat + 1) + (y.toNat + 1)
        omega
      · intro q hq
        have := b2 q hq
        show q.lines.length ≤ (i + 1) + (x.toNat + 1) + (y.toNat + 1)
        omega
theorem ok3_run (o a b : List Str) : ∀ i, i ≤ o.length + 1 → Ok3 o a b i (run3 o a b i)
  | 0, _ => ok3_0 o a b
  | i + 1, h => ok3_step (by omega) (ok3_run o a b i (by omega))
def text3 (l : List PartD) : List Str × Bool := if l.any (·.clash) then ([], false) else if textB (l.flatMap (·.lines)) then (l.flatMap (·.lines), true) else ([], false)
end Vx
end Go.Proofs.YtnanellmaelipaaGreatDoor
namespace Go.Proofs.YtnanellmaelipaaGreatDoor
set_option maxHeartbeats 4000000
namespace Vx
open Go.RowKit
set_option maxRecDepth 8000
def cL3Part : Con := .fn 36 (List Str × List Str × List Str) (fun a => [.sl true 1 (eStrs a.1), .sl true 1 (eStrs a.2.1), .sl true 1 (eStrs a.2.2)]) (fun a => a.1.length ≤ 1048576 ∧ a.2.1.length ≤ 1048576 ∧ a.2.2.length ≤ 1048576) (fun a => .agg [.bool (part3 a.1 a.2.1 a.2.2).clash, .own 8 1 (eStrs (part3 a.1 a.2.1 a.2.2).lines), .own 9 1 (eStrs (part3 a.1 a.2.1 a.2.2).old), .own 10 1 (eStrs (part3 a.1 a.2.1 a.2.2).one), .own 11 1 (eStrs (part3 a.1 a.2.1 a.2.2).two)]) (fun a => ownStrs 8 (part3 a.1 a.2.1 a.2.2).lines ++ ownStrs 9 (part3 a.1 a.2.1 a.2.2).old ++ ownStrs 10 (part3 a.1 a.2.1 a.2.2).one ++ ownStrs 11 (part3 a.1 a.2.1 a.2.2).two)
theorem l3Part_has : Has Tryz.prog 287 cL3Part := by
  refine has_walk mixed tTab_ok (l := [(236, cL1Same)]) (HasL.cons l1Same_has HasL.nil) [0, 1, 2, 6, 7] ((fun a n (_ : Nat) => (fun _ => noInv) a n)) [] Tryz.func287 (by kernel_rfl) (code := _) (by unfold Tryz.f287; rfl) (by kernel_rfl) (by decide) (fun _ => ⟨(), trivial⟩) (by intro h; first | exact fun _ => rfl | cases h) (by kernel_rfl) ?_
  intro a ha
  obtain ⟨o, a, b⟩ := a
  obtain ⟨h1, h2, h3⟩ : o.length ≤ 1048576 ∧ a.length ≤ 1048576 ∧ b.length ≤ 1048576 := ha
  simp -implicitDefEqProofs [cL3Part, cL1Same, Con.fn, tTab]
  try dsimp only
  have f : ∀ (t : List Str), ∀ x ∈ eStrs t, ∀ d ∈ x, match d with | .sl _ _ _ => False | _ => True := fun t => (eStrs_flat t).mpr trivial
  have e1 : a = o → part3 o a b = ⟨false, b, [], [], []⟩ := fun h => by unfold part3; rw [if_pos (.inl h)]
  have e2 : a = b → part3 o a b = ⟨false, b, [], [], []⟩ := fun h => by unfold part3; rw [if_pos (.inr h)]
  have e3 : ¬ a = o → ¬ a = b → b = o → part3 o a b = ⟨false, a, [], [], []⟩ := fun h h' h2 => by unfold part3; rw [if_neg (by simp -implicitDefEqProofs [h, h']), if_pos h2]
  have e4 : ¬ a = o → ¬ a = b → ¬ b = o → part3 o a b = ⟨true, [], o, a, b⟩ := fun h h' h2 => by unfold part3; rw [if_neg (by simp -implicitDefEqProofs [h, h']), if_neg h2]
  refine ⟨a, o, ⟨rfl, rfl⟩, fun h => ⟨fun _ => ?_, fun h' => absurd h h'⟩, fun h => ⟨a, b, ⟨rfl, rfl⟩, fun h2 => ?_, fun h2 => ⟨b, o, ⟨rfl, rfl⟩, fun h3 => ?_, fun h3 => ?_⟩⟩⟩
  · rw [e1 h]; exact ⟨f b, ⟨by omega, by omega⟩, ⟨rfl, rfl, rfl, rfl, rfl⟩, rfl, rfl, rfl, rfl⟩
  · rw [e2 h2]; exact ⟨f b, ⟨by omega, by omega⟩, ⟨rfl, rfl, rfl, rfl, rfl⟩, rfl, rfl, rfl, rfl⟩
  · rw [e3 h h2 h3]; exact ⟨f a, ⟨by omega, by omega⟩, ⟨rfl, rfl, rfl, rfl, rfl⟩, rfl, rfl, rfl, rfl⟩
  · rw [e4 h h2 h3]; exact ⟨f o, ⟨by omega, by omega⟩, f a, ⟨by omega, by omega⟩, f b, ⟨by omega, by omega⟩, ⟨rfl, rfl, rfl, rfl, rfl⟩, rfl, rfl, rfl, rfl⟩
theorem put3_e0 {l : List PartD} {p : PartD} (h : p.clash = false) (h' : p.lines = []) : put3 l p = l := by unfold put3; rw [if_pos ⟨h, h'⟩]
theorem put3_e1 {m : List PartD} {q p : PartD} (h : q.clash = false) (h' : p.clash = false) (hx : ¬ p.lines = []) : put3 (m ++ [q]) p = m ++ [⟨q.clash, q.lines ++ p.lines, q.old, q.one, q.two⟩] := by unfold put3; rw [if_neg (by simp -implicitDefEqProofs [hx])]; simp -implicitDefEqProofs [h, h']
theorem put3_e2 {m : List PartD} {q p : PartD} (h : q.clash = true) (hx : ¬ (p.clash = false ∧ p.lines = [])) : put3 (m ++ [q]) p = m ++ [q] ++ [p] := by unfold put3; rw [if_neg hx]; simp -implicitDefEqProofs [h]
theorem put3_e3 {l : List PartD} {p : PartD} (h : p.clash = true) : put3 l p = l ++ [p] := by
  unfold put3; rw [if_neg (by simp -implicitDefEqProofs [h])]
  split
  · simp -implicitDefEqProofs [h]
  · rfl
theorem put3_e4 {p : PartD} (h : ¬ (p.clash = false ∧ p.lines = [])) : put3 [] p = [p] := by unfold put3; rw [if_neg h]; simp
def l3A : (List PartD × PartD) ⊕ (List PartD × List Str) → List PartD
  | .inl a => a.1
  | .inr a => a.1
def l3P : (List PartD × PartD) ⊕ (List PartD × List Str) → PartD
  | .inl a => a.2
  | .inr a => ⟨false, a.2, [], [], []⟩
def l3Args : (List PartD × PartD) ⊕ (List PartD × List Str) → List AV
  | .inl a => [.own 0 5 (eParts a.1), .agg [.bool a.2.clash, .own 1 1 (eStrs a.2.lines), .own 2 1 (eStrs a.2.old), .own 3 1 (eStrs a.2.one), .own 4 1 (eStrs a.2.two)]]
  | .inr a => [.own 0 5 (eParts a.1), .agg [.bool false, .own 1 1 (eStrs a.2), .nil, .nil, .nil]]
def l3Owns : (List PartD × PartD) ⊕ (List PartD × List Str) → List (Nat × Nat × Nat × List (List D))
  | .inl a => [(0, 270, 5, eParts a.1), (1, 9, 1, eStrs a.2.lines), (2, 9, 1, eStrs a.2.old), (3, 9, 1, eStrs a.2.one), (4, 9, 1, eStrs a.2.two)]
  | .inr a => [(0, 270, 5, eParts a.1), (1, 9, 1, eStrs a.2)]
def cL3Put : Con := { A := (List PartD × PartD) ⊕ (List PartD × List Str), X := Unit, n := 53, args := l3Args, boxes := fun _ => [], pre := fun a => (l3A a).length ≤ 1048576 ∧ (∀ q ∈ l3A a, q.lines.length ≤ 1073741824) ∧ (l3P a).lines.length ≤ 1073741824, post := fun _ _ => True, res := fun a _ => .own 8 5 (eParts (put3 (l3A a) (l3P a))), fin := fun a _ => ownParts 8 (put3 (l3A a) (l3P a)), owns := l3Owns, mv := true }
theorem l3Put_has : Has Tryz.prog 286 cL3Put := by
  refine has_walk mixed tTab_ok (l := []) HasL.nil [0, 1, 3, 4, 5] ((fun a n (_ : Nat) => (fun _ => noInv) a n)) [12287, 12333] Tryz.func286 (by kernel_rfl) (code := _) (by unfold Tryz.f286; rfl) (by kernel_rfl) (by decide) (fun _ => ⟨(), trivial⟩) (by intro h; first | exact fun _ => rfl | cases h) (by kernel_rfl) ?_
  intro a ha
  rcases a with ⟨l, p⟩ | ⟨l, x⟩
  · obtain ⟨h1, h2, h3⟩ : l.length ≤ 1048576 ∧ (∀ q ∈ l, q.lines.length ≤ 1073741824) ∧ p.lines.length ≤ 1073741824 := ha
    simp -implicitDefEqProofs [cL3Put, l3Args, l3Owns, l3A, l3P, Con.fn, tTab]
    try dsimp only
    have f : ∀ (t : List Str), ∀ x ∈ eStrs t, ∀ d ∈ x, match d with | .sl _ _ _ => False | _ => True := fun t => (eStrs_flat t).mpr trivial
    have sn : ∀ k : List PartD, eParts k ++ [[D.bool p.clash, D.sl 9 1 (eStrs p.lines), D.sl 9 1 (eStrs p.old), D.sl 9 1 (eStrs p.one), D.sl 9 1 (eStrs p.two)]] = eParts (k ++ [p]) := fun k => by simp -implicitDefEqProofs [eParts, ePart]
    rw [sn]
    rcases List.eq_nil_or_concat l with rfl | ⟨m, q, rfl⟩
    · simp
      repeat' (first | intro _ | apply And.intro)
      all_goals first | omega | (cases (Eq.trans (Eq.symm ‹p.clash = true›) ‹p.clash = false›)) | exact f _ | exact f _ _ (by assumption) _ (by assumption) | exact put3_e0 (by first | assumption | rfl) (by assumption) | exact (put3_e0 (by first | assumption | rfl) (by assumption)).symm | exact put3_e4 (by simp_all) | exact (put3_e4 (by simp_all)).symm | (rw [put3_e1 (by assumption) (by first | assumption | rfl) (by assumption)]; simp -implicitDefEqProofs [eParts, ePart, eStrs]) | (rw [put3_e3 (by assumption)]; simp) | (rw [put3_e2 (by assumption) (by simp_all)]; simp)
    · have he : ∀ r, (eParts m ++ [r])[m.length]? = some r := fun r => by rw [List.getElem?_append_right (by simp)]; simp
      have hs : ∀ r, (eParts (m ++ [q])).set m.length r = eParts m ++ [r] := fun r => by simp -implicitDefEqProofs [eParts]
      have hq : (m ++ [q])[m.length]? = some q := by simp
      have hql := h2 q (by simp)
      have ee : ∀ r r', (eParts m ++ [r] = eParts (m ++ [r'])) = (r = ePart r') := fun r r' => by simp -implicitDefEqProofs [eParts]
      have h1 : m.length + 1 ≤ 1048576 := by simpa using h1
      simp -implicitDefEqProofs [he, hs, ePart, D.asBool, D.asRows]
      repeat' (first | intro _ | apply And.intro)
      all_goals first | omega | (cases (Eq.trans (Eq.symm ‹p.clash = true›) ‹p.clash = false›)) | exact f _ | exact f _ _ (by assumption) _ (by assumption) | exact put3_e0 (by first | assumption | rfl) (by assumption) | exact (put3_e0 (by first | assumption | rfl) (by assumption)).symm | exact put3_e4 (by simp_all) | exact (put3_e4 (by simp_all)).symm | (rw [put3_e1 (by assumption) (by first | assumption | rfl) (by assumption)]; simp -implicitDefEqProofs [eParts, ePart, eStrs]) | (rw [put3_e3 (by assumption)]; simp) | (rw [put3_e2 (by assumption) (by simp_all)]; simp)
  · obtain ⟨h1, h2, h3⟩ : l.length ≤ 1048576 ∧ (∀ q ∈ l, q.lines.length ≤ 1073741824) ∧ x.length ≤ 1073741824 := ha
    simp -implicitDefEqProofs [cL3Put, l3Args, l3Owns, l3A, l3P, Con.fn, tTab]
    try dsimp only
    have f : ∀ (t : List Str), ∀ x ∈ eStrs t, ∀ d ∈ x, match d with | .sl _ _ _ => False | _ => True := fun t => (eStrs_flat t).mpr trivial
    have sn : ∀ k : List PartD, eParts k ++ [[D.bool false, D.sl 9 1 (eStrs x), D.sl 9 1 [], D.sl 9 1 [], D.sl 9 1 []]] = eParts (k ++ [⟨false, x, [], [], []⟩]) := fun k => by simp -implicitDefEqProofs [eParts, ePart]
    rw [sn]
    rcases List.eq_nil_or_concat l with rfl | ⟨m, q, rfl⟩
    · simp
      repeat' (first | intro _ | apply And.intro)
      all_goals first | omega | (cases (Eq.trans (Eq.symm ‹p.clash = true›) ‹p.clash = false›)) | exact f _ | exact f _ _ (by assumption) _ (by assumption) | exact put3_e0 (by first | assumption | rfl) (by assumption) | exact (put3_e0 (by first | assumption | rfl) (by assumption)).symm | exact put3_e4 (by simp_all) | exact (put3_e4 (by simp_all)).symm | (rw [put3_e1 (by assumption) (by first | assumption | rfl) (by assumption)]; simp -implicitDefEqProofs [eParts, ePart, eStrs]) | (rw [put3_e3 (by assumption)]; simp) | (rw [put3_e2 (by assumption) (by simp_all)]; simp)
    · have he : ∀ r, (eParts m ++ [r])[m.length]? = some r := fun r => by rw [List.getElem?_append_right (by simp)]; simp
      have hs : ∀ r, (eParts (m ++ [q])).set m.length r = eParts m ++ [r] := fun r => by simp -implicitDefEqProofs [eParts]
      have hq : (m ++ [q])[m.length]? = some q := by simp
      have hql := h2 q (by simp)
      have ee : ∀ r r', (eParts m ++ [r] = eParts (m ++ [r'])) = (r = ePart r') := fun r r' => by simp -implicitDefEqProofs [eParts]
      have h1 : m.length + 1 ≤ 1048576 := by simpa using h1
      simp -implicitDefEqProofs [he, hs, ePart, D.asBool, D.asRows]
      repeat' (first | intro _ | apply And.intro)
      all_goals first | omega | (cases (Eq.trans (Eq.symm ‹p.clash = true›) ‹p.clash = false›)) | exact f _ | exact f _ _ (by assumption) _ (by assumption) | exact put3_e0 (by first | assumption | rfl) (by assumption) | exact (put3_e0 (by first | assumption | rfl) (by assumption)).symm | exact put3_e4 (by simp_all) | exact (put3_e4 (by simp_all)).symm | (rw [put3_e1 (by assumption) (by first | assumption | rfl) (by assumption)]; simp -implicitDefEqProofs [eParts, ePart, eStrs]) | (rw [put3_e3 (by assumption)]; simp) | (rw [put3_e2 (by assumption) (by simp_all)]; simp)
end Vx
end Go.Proofs.YtnanellmaelipaaGreatDoor
namespace Go.Proofs.YtnanellmaelipaaGreatDoor
set_option maxHeartbeats 4000000
namespace Vx
open Go.RowKit
set_option maxRecDepth 8000
theorem mtE_snoc (o a : List Str) : eInts (mt o a 0) ++ [[D.int .i64 (a.length : Int)]] = eInts (mtE o a) := by simp -implicitDefEqProofs [mtE, eInts, eInt]
def l3oI (o a b : List Str) : Inv := ⟨Nat, fun i => ⟨[(0, true, .sl true 1 (eStrs o)), (1, true, .sl true 1 (eStrs a)), (2, true, .sl true 1 (eStrs b)), (6, true, .nil), (7, true, .own 9 5 (eParts (run3 o a b i).out)), (8, true, .own 10 1 (eInts (mtE o a))), (9, true, .own 11 1 (eInts (mtE o b))), (10, true, .int .i64 (run3 o a b i).io), (11, true, .int .i64 (run3 o a b i).ia), (12, true, .int .i64 (run3 o a b i).ib), (13, true, .int .i64 i)], [(9, .own 270 5 true (eParts (run3 o a b i).out)), (10, .own 3 1 true (eInts (mtE o a))), (11, .own 3 1 true (eInts (mtE o b)))]⟩, fun i => i ≤ o.length + 1, fun i => o.length + 1 - i⟩
def cL3Of : Con := .fn 93 (List Str × List Str × List Str) (fun a => [.sl true 1 (eStrs a.1), .sl true 1 (eStrs a.2.1), .sl true 1 (eStrs a.2.2)]) (fun a => a.1.length ≤ 100000 ∧ a.2.1.length ≤ 100000 ∧ a.2.2.length ≤ 100000) (fun a => .own 8 5 (eParts (of3 a.1 a.2.1 a.2.2))) (fun a => ownParts 8 (of3 a.1 a.2.1 a.2.2))
theorem l3Of_has : Has Tryz.prog 272 cL3Of := by
  refine has_walk mixed tTab_ok (l := [(269, cL1Match), (287, cL3Part), (286, cL3Put)]) (HasL.cons l1Match_has (HasL.cons l3Part_has (HasL.cons l3Put_has HasL.nil))) [0, 1, 2, 6, 7, 8, 9, 10, 11, 12, 13] ((fun a n (_ : Nat) => (fun a _ => l3oI a.1 a.2.1 a.2.2) a n)) [] Tryz.func272 (by kernel_rfl) (code := _) (by unfold Tryz.f272; rfl) (by kernel_rfl) (by decide) (fun _ => ⟨(), trivial⟩) (by intro h; first | exact fun _ => rfl | cases h) (by kernel_rfl) ?_
  intro a ha
  obtain ⟨o, a, b⟩ := a
  obtain ⟨h1, h2, h3⟩ : o.length ≤ 100000 ∧ a.length ≤ 100000 ∧ b.length ≤ 100000 := ha
  simp (maxSteps := 4000000) -implicitDefEqProofs [cL3Of, cL1Match, cL3Part, cL3Put, l3Args, l3Owns, l3A, l3P, Con.fn, tTab, l3oI, Sum.exists]
  try dsimp only
  have ea := mtE_snoc o a
  have eb := mtE_snoc o b
  have la := mtE_len o a
  have lb := mtE_len o b
  have m1 := mt_len o a 0
  have m2 := mt_len o b 0
  refine ⟨o, a, ⟨rfl, rfl⟩, ⟨by omega, by omega⟩, fun _ => ⟨⟨by omega, by omega⟩, o, b, ⟨rfl, rfl⟩, ⟨by omega, by omega⟩, fun _ => ⟨⟨by omega, by omega⟩, ⟨0, ⟨⟨rfl, ea.symm, eb.symm, rfl, rfl, rfl, rfl⟩, rfl, ea, eb⟩, Nat.zero_le _⟩, fun t ht hla => ⟨fun hlt => ?_, fun hge => ?_⟩⟩⟩⟩
  · have ok := ok3_run o a b t ht
    have st : run3 o a b (t + 1) = step3 o a b ((mtE o a).getD t 0) ((mtE o b).getD t 0) t (run3 o a b t) := rfl
    obtain ⟨k1, k2, k3, k4, k5, k6, k7⟩ := ok
    have ga : (mtE o a).getD t 0 = (mtE o a)[t]'(by omega) := by simp -implicitDefEqProofs [List.getD_eq_getElem?_getD, List.getElem?_eq_getElem (show t < (mtE o a).length by omega)]
    have gb : (mtE o b).getD t 0 = (mtE o b)[t]'(by omega) := by simp -implicitDefEqProofs [List.getD_eq_getElem?_getD, List.getElem?_eq_getElem (show t < (mtE o b).length by omega)]
    have k4 := asc_at (l := mtE o a) (by omega) k4
    have k5 := asc_at (l := mtE o b) (by omega) k5
    have oa : (mtE o a)[t]? = some ((mtE o a)[t]'(by omega)) := List.getElem?_eq_getElem (by omega)
    have ob : (mtE o b)[t]? = some ((mtE o b)[t]'(by omega)) := List.getElem?_eq_getElem (by omega)
    rw [ga, gb] at st
    rw [oa, ob]
    generalize (mtE o a)[t]'(by omega) = x at *
    generalize (mtE o b)[t]'(by omega) = y at *
    generalize run3 o a b t = S at *
    obtain ⟨io, ia, ib, out⟩ := S
    simp only at k1 k2 k3 k4 k5 k6 k7
    simp -implicitDefEqProofs [eInt, D.asInt, hlt, la, lb, eStrs_take, eStrs_drop]
    have skip : x < 0 ∨ y < 0 → run3 o a b (t + 1) = ⟨io, ia, ib, out⟩ := fun h => by rw [st]; unfold step3; rw [if_pos h]
    have p1 : (List.take (t - io) (List.drop io o)) = (o.take t).drop io := (List.drop_take).symm
    have p2 : (List.take (x.toNat - ia) (List.drop ia a)) = (a.take x.toNat).drop ia := (List.drop_take).symm
    have p3 : (List.take (y.toNat - ib) (List.drop ib b)) = (b.take y.toNat).drop ib := (List.drop_take).symm
    rw [p1, p2, p3]
    refine ⟨by omega, fun _ => ⟨fun hx => ⟨⟨by omega, by omega⟩, fun _ _ => ⟨t + 1, by rw [skip (.inl hx)]; exact ⟨⟨⟨rfl, rfl, rfl, rfl, by omega⟩, rfl⟩, by omega, by omega⟩⟩⟩, fun hx => ⟨by omega, fun _ => ⟨fun hy => ⟨⟨by omega, by omega⟩, fun _ _ => ⟨t + 1, by rw [skip (.inr hy)]; exact ⟨⟨⟨rfl, rfl, rfl, rfl, by omega⟩, rfl⟩, by omega, by omega⟩⟩⟩, fun hy => ?_⟩⟩⟩⟩
    have st2 : run3 o a b (t + 1) = ⟨t + 1, x.toNat + 1, y.toNat + 1, if t < o.length then put3 (put3 out (part3 ((o.take t).drop io) ((a.take x.toNat).drop ia) ((b.take y.toNat).drop ib))) ⟨false, [o.getD t []], [], [], []⟩ else put3 out (part3 ((o.take t).drop io) ((a.take x.toNat).drop ia) ((b.take y.toNat).drop ib))⟩ := by rw [st]; unfold step3; rw [if_neg (by omega)]
    have l1 : ((o.take t).drop io).length ≤ 100000 := by simp; omega
    have l2 : ((a.take x.toNat).drop ia).length ≤ 100000 := by simp; omega
    have l3 : ((b.take y.toNat).drop ib).length ≤ 100000 := by simp; omega
    have pl := part3_lines ((o.take t).drop io) ((a.take x.toNat).drop ia) ((b.take y.toNat).drop ib)
    refine ⟨⟨k1, by omega⟩, fun _ _ => ⟨by omega, fun _ => ⟨⟨by omega, by omega⟩, fun _ _ => ⟨by omega, fun _ => ⟨⟨by omega, by omega⟩, fun _ _ => ⟨_, _, _, ⟨rfl, rfl, rfl⟩, ⟨by omega, by omega, by omega⟩, out, part3 _ _ _, ⟨rfl, rfl, rfl, rfl, rfl, rfl⟩, ⟨rfl, rfl, rfl, rfl, rfl⟩, ?_, ?_⟩⟩⟩⟩⟩⟩
    · rintro q1 q2 (⟨rfl, rfl⟩ | ⟨rfl, rfl⟩ | ⟨rfl, rfl⟩ | ⟨rfl, rfl⟩ | ⟨rfl, rfl⟩) <;> simp
    have pl2 := put3_len out (part3 ((o.take t).drop io) ((a.take x.toNat).drop ia) ((b.take y.toNat).drop ib))
    have pb := put3_bd (p := part3 ((o.take t).drop io) ((a.take x.toNat).drop ia) ((b.take y.toNat).drop ib)) k7
    generalize part3 ((o.take t).drop io) ((a.take x.toNat).drop ia) ((b.take y.toNat).drop ib) = p at *
    refine ⟨⟨by omega, fun q hq => by have := k7 q hq; omega, by omega⟩, fun _ => ⟨fun hto => ?_, fun hto => ?_⟩⟩
    · have go : o.getD t [] = o[t] := by simp -implicitDefEqProofs [List.getD_eq_getElem?_getD, hto]
      rw [if_pos hto, go] at st2
      simp -implicitDefEqProofs [hto, eStr, D.asStr]
      refine ⟨put3 out p, [o[t]], ⟨rfl, rfl⟩, ⟨rfl, rfl⟩, ?_, ⟨by omega, fun q hq => by have := pb q hq; omega, by simp⟩, ⟨by omega, by omega⟩, fun _ _ => ⟨by omega, fun _ => ⟨⟨by omega, by omega⟩, fun _ _ => ⟨by omega, fun _ => ⟨⟨by omega, by omega⟩, fun _ _ => ⟨⟨by omega, by omega⟩, fun _ _ => ⟨t + 1, ?_⟩⟩⟩⟩⟩⟩⟩
      · rintro q1 q2 (⟨rfl, rfl⟩ | ⟨rfl, rfl⟩) <;> simp
      · rw [st2]
        exact ⟨⟨⟨rfl, by simp, by simp; omega, by simp; omega, by omega⟩, rfl⟩, by omega, by omega⟩
    · rw [if_neg (by omega)] at st2
      refine ⟨⟨by omega, by omega⟩, fun _ _ => ⟨by omega, fun _ => ⟨⟨by omega, by omega⟩, fun _ _ => ⟨by omega, fun _ => ⟨⟨by omega, by omega⟩, fun _ _ => ⟨⟨by omega, by omega⟩, fun _ _ => ⟨t + 1, ?_⟩⟩⟩⟩⟩⟩⟩
      rw [st2]
      exact ⟨⟨⟨rfl, by simp, by simp; omega, by simp; omega, by omega⟩, rfl⟩, by omega, by omega⟩
  · have : t = o.length + 1 := by omega
    subst this
    exact ⟨rfl, rfl⟩
def linesF (l : List PartD) (i : Nat) : List Str := (l.take i).flatMap (·.lines)
def cL3Text : Con := .fn 29 (List PartD) (fun l => [.sl true 5 (eParts l)]) (fun l => l.length ≤ 1048576 ∧ ∀ q ∈ l, q.lines.length ≤ 1048576) (fun l => .tup [.sl false 1 (eStrs (text3 l).1), .bool (text3 l).2]) (fun _ => [])
theorem l3Text_has : Has Tryz.prog 271 cL3Text := by
  refine has_walk mixed tTab_ok (l := [(165, cL1Ok)]) (HasL.cons l1Ok_has HasL.nil) [0, 2, 3, 4, 5] ((fun a n (_ : Nat) => (fun l _ => ⟨Nat, fun i => ⟨[(0, true, .sl true 5 (eParts l)), (2, true, .nil), (3, true, .bool false), (4, true, .own 9 1 (eStrs (linesF l i))), (5, true, .int .i64 i)], [(9, .own 9 1 true (eStrs (linesF l i)))]⟩, fun i => i ≤ l.length ∧ (l.take i).any (·.clash) = false, fun i => l.length - i⟩) a n)) [] Tryz.func271 (by kernel_rfl) (code := _) (by unfold Tryz.f271; rfl) (by kernel_rfl) (by decide) (fun _ => ⟨(), trivial⟩) (by intro h; first | exact fun _ => rfl | cases h) (by kernel_rfl) ?_
  intro (l : List PartD) ha
  obtain ⟨h1, h2⟩ : l.length ≤ 1048576 ∧ ∀ q ∈ l, q.lines.length ≤ 1048576 := ha
  simp -implicitDefEqProofs [cL3Text, cL1Ok, Con.fn, tTab]
  try dsimp only
  have hl0 : ∀ i, i ≤ l.length → (linesF l i).length ≤ i * 1048576 := fun i => by
    induction i with
    | zero => intro _; simp -implicitDefEqProofs [linesF]
    | succ i ih =>
      intro h
      have e : linesF l (i + 1) = linesF l i ++ l[i].lines := by unfold linesF; rw [take_succ' (show i < l.length by omega), List.flatMap_append]; simp
      have := h2 l[i] (List.getElem_mem _)
      have := ih (by omega)
      rw [e, List.length_append]; clear e; omega
  have f : ∀ (t : List Str), ∀ x ∈ eStrs t, ∀ d ∈ x, match d with | .sl _ _ _ => False | _ => True := fun t => (eStrs_flat t).mpr trivial
  have hn0 : (∃ q ∈ l, q.clash = true) → text3 l = ([], false) := fun ⟨q, h, h'⟩ => by unfold text3; rw [if_pos (by simp; exact ⟨q, h, h'⟩)]
  have hn1 : (∀ q ∈ l, q.clash = false) → textB (linesF l l.length) = false → text3 l = ([], false) := fun h h' => by
    unfold text3 linesF at *; rw [List.take_length] at h'; rw [if_neg (by simp; exact h), if_neg (by simp -implicitDefEqProofs [h'])]
  have hn2 : (∀ q ∈ l, q.clash = false) → textB (linesF l l.length) = true → text3 l = (linesF l l.length, true) := fun h h' => by
    unfold text3 linesF at *; rw [List.take_length] at *; rw [if_neg (by simp; exact h), if_pos h']
  refine ⟨⟨0, ⟨⟨rfl, rfl⟩, rfl⟩, Nat.zero_le _, by simp⟩, fun t ht hc _ => ⟨fun hlt => ⟨hlt, fun _ => ?_⟩, fun hge => ?_⟩⟩
  · have e : linesF l (t + 1) = linesF l t ++ l[t].lines := by unfold linesF; rw [take_succ' hlt, List.flatMap_append]; simp
    have q1 := h2 l[t] (List.getElem_mem hlt)
    have q2 := hl0 t ht
    have q3 : l[t] ∈ l := List.getElem_mem hlt
    have q4 : ∀ x ∈ l.take (t + 1), x ∈ l.take t ∨ x = l[t] := fun x hx => by rw [take_succ' hlt] at hx; exact (List.mem_append.1 hx).imp id (fun h => List.mem_singleton.1 h)
    have qq : Option.map ePart l[t]? = some (ePart l[t]) := by simp -implicitDefEqProofs [hlt]
    rw [qq]
    generalize l[t] = q at *
    simp -implicitDefEqProofs [ePart, D.asBool, D.asRows]
    refine ⟨fun h => by rw [hn0 ⟨q, q3, h⟩]; exact ⟨rfl, rfl⟩, fun h => ⟨hlt, fun _ => ⟨f _, ⟨by omega, by omega⟩, ⟨by omega, by omega⟩, fun _ _ => ⟨t + 1, ⟨⟨by rw [e, eStrs_append], by omega⟩, by rw [e, eStrs_append]⟩, ⟨by omega, fun x hx => (q4 x hx).elim (hc x) (fun hx => hx ▸ h)⟩, by omega⟩⟩⟩⟩
  · have : t = l.length := by omega
    subst this
    rw [List.take_length] at hc
    exact ⟨fun h => by rw [hn1 hc h]; exact ⟨rfl, rfl⟩, fun h => by rw [hn2 hc h]; exact ⟨rfl, rfl⟩⟩
end Vx
end Go.Proofs.YtnanellmaelipaaGreatDoor
namespace Go.Proofs.YtnanellmaelipaaGreatDoor
set_option maxHeartbeats 4000000
namespace Vx
open Go.RowKit
set_option maxRecDepth 8000
def rsO (r : RepoD) : Inv := ⟨Nat, fun i => ⟨[(1, true, .ptr 10 0), (2, true, .bool false), (3, true, .int .i64 i)], [(10, bRepo r)]⟩, fun i => i ≤ r.commits.length ∧ ∀ j, j < i → okCS r.commits j = true, fun i => r.commits.length - i⟩
def rsI (r : RepoD) (g : Nat) : Inv := ⟨Nat, fun k => ⟨[(1, true, .ptr 10 0), (2, true, .bool false), (3, true, .int .i64 g), (4, true, .ptr 11 0), (5, true, .int .i64 k)], [(10, bRepo r), (11, .box 56 [.sl true 1 (eInts (r.commits.getD g default).parents), .str (r.commits.getD g default).who, .sl true 2 (eFiles (r.commits.getD g default).tree)])]⟩,
  fun k => g < r.commits.length ∧ k ≤ (r.commits.getD g default).parents.length ∧ (∀ j, j < g → okCS r.commits j = true) ∧ ∀ j, j < k → oneP g (r.commits.getD g default).parents j = true, fun k => (r.commits.getD g default).parents.length - k⟩
def rsH (r : RepoD) : Inv := ⟨Nat, fun i => ⟨[(1, true, .ptr 10 0), (2, true, .bool false), (6, true, .int .i64 i)], [(10, bRepo r)]⟩, fun i => i ≤ r.heads.length ∧ (∀ j, j < r.commits.length → okCS r.commits j = true) ∧ ∀ j, j < i → okHd r.commits.length r.heads j = true, fun i => r.heads.length - i⟩
def rsInv (r : RepoD) (n g : Nat) : Inv := if n = 2 then rsO r else if n = 6 then rsI r g else rsH r
theorem rsInv_2 (r : RepoD) (g : Nat) : rsInv r 2 g = rsO r := rfl
theorem rsInv_6 (r : RepoD) (g : Nat) : rsInv r 6 g = rsI r g := rfl
theorem rsInv_13 (r : RepoD) (g : Nat) : rsInv r 13 g = rsH r := rfl
def cL7Ok : Con := .fn 126 RepoD (fun r => [vRepo r]) (fun r => r.commits.length ≤ 1073741824) (fun r => .bool (repoS r)) (fun _ => [])
theorem l7Ok_has : Has Tryz.prog 82 cL7Ok := by
  refine has_walk mixed tTab_ok (l := [(84, cL1In), (95, cL4Name), (110, cL4Ok)]) (HasL.cons l1In_has (HasL.cons l4Name_has (HasL.cons l4Ok_has HasL.nil))) [0, 1, 2, 3, 4, 5, 6] (fun r => rsInv r) [] Tryz.func82 (by kernel_rfl) (code := _) (by unfold Tryz.f82; rfl) (by kernel_rfl) (by decide) (fun _ => ⟨(), trivial⟩) (by intro h; first | exact fun _ => rfl | cases h) (by kernel_rfl) ?_
  intro (r : RepoD) hr
  replace hr : r.commits.length ≤ 1073741824 := hr
  have hN := fun i => @repoS_no r i
  have hN1 := fun i => @okCS_no1 r.commits i
  have hN2 := fun i k => @okCS_no2 r.commits i k
  have hY := fun i => @okCS_yes r.commits i
  have hM := fun i => @headsB_no r.commits.length r.heads i
  have hH := @repoS_noH r
  simp -implicitDefEqProofs [cL7Ok, Con.fn, tTab, cL4Name, cL4Ok, cL1In, rsInv_2, rsInv_6, rsInv_13, rsO, rsI, rsH, bRepo_def]
  try dsimp only
  refine fun i hi hprev _ => ⟨fun hlt => ?_, fun hge => ?_⟩
  · have e3 : Option.map eCommit r.commits[i]? = some (eCommit r.commits[i]) := by simp -implicitDefEqProofs [List.getElem?_eq_getElem hlt]
    have hgc : r.commits.getD i default = r.commits[i] := by simp -implicitDefEqProofs [List.getD_eq_getElem?_getD, hlt]
    have n0 := hN i hlt
    have n1 := hN1 i
    have n2 := hN2 i
    have n3 := hY i
    rw [hgc] at n1 n2 n3
    simp -implicitDefEqProofs [hlt, e3, eCommit, D.asStr, D.asRows, cast_eq, and_assoc]
    try simp only [show r.commits[i]?.getD default = r.commits[i] by simp -implicitDefEqProofs [hlt]]
    generalize r.commits[i] = c at n1 n2 n3 ⊢
    clear hN hN1 hN2 hY hM hH e3 hgc
    refine ⟨hprev, fun t ht _ hinv _ => ⟨fun hlt2 => ?_, fun hge2 => ?_⟩⟩
    · have qt : Option.map eInt c.parents[t]? = some (eInt c.parents[t]) := by simp -implicitDefEqProofs [List.getElem?_eq_getElem hlt2]
      have q0 : Option.map eInt c.parents[0]? = some (eInt (c.parents[0]'(by omega))) := by simp -implicitDefEqProofs [List.getElem?_eq_getElem (show 0 < c.parents.length by omega)]
      have o : oneP i c.parents t = ((decide (0 ≤ c.parents[t]) && decide (c.parents[t] ≤ (i : Int) - 1)) && !(decide (0 < t) && decide (c.parents[t] = c.parents[0]'(by omega)))) := by
        unfold oneP inN
        rw [show c.parents.getD t 0 = c.parents[t] by simp -implicitDefEqProofs [List.getD_eq_getElem?_getD, hlt2], show c.parents.getD 0 0 = c.parents[0]'(by omega) by simp -implicitDefEqProofs [List.getD_eq_getElem?_getD, show 0 < c.parents.length by omega]]
      have n7 : oneP i c.parents t = false → repoS r = false := fun h => n0 (n2 t hlt2 h)
      have n8 : oneP i c.parents t = true → ∀ j, j < t + 1 → oneP i c.parents j = true := fun h j hj => by
        rcases Nat.lt_or_ge j t with h3 | h3
        · exact hinv j h3
        · have : j = t := by omega
          subst this; exact h
      simp -implicitDefEqProofs [qt, q0, eInt, hlt2]
      refine ⟨by omega, by omega, fun _ _ => ⟨fun h => ?_, fun g1 g2 => ⟨fun h0 => ⟨by omega, fun _ => ⟨fun he => n7 (by rw [o]; simp -implicitDefEqProofs [he, h0]), fun he => ⟨by omega, by omega, fun _ _ => ⟨t + 1, rfl, by omega, hprev, n8 (by rw [o]; simp -implicitDefEqProofs [g1, g2, he]), by omega⟩⟩⟩⟩,
        fun h0 => ⟨by omega, by omega, fun _ _ => ⟨t + 1, rfl, by omega, hprev, n8 (by rw [o, show decide (0 < t) = false by simp -implicitDefEqProofs [h0]]; simp -implicitDefEqProofs [g1, g2]), by omega⟩⟩⟩⟩⟩
      have : repoS r = false := n7 (by rw [o]; simp; omega)
      exact ⟨fun _ => this, fun _ => this⟩
    · have n9 : okS1 c = false → repoS r = false := fun h => n0 (n1 h)
      have n10 : okS1 c = true → ∀ j, j < i + 1 → okCS r.commits j = true := fun h j hj => by
        rcases Nat.lt_or_ge j i with h3 | h3
        · exact hprev j h3
        · have : j = i := by omega
          subst this
          exact n3 h (fun k hk => hinv k (by omega))
      refine fun _ => ⟨fun h => n9 (by simp -implicitDefEqProofs [okS1]; omega), fun h => ⟨fun hn => n9 (by simp -implicitDefEqProofs [okS1, hn]), fun hn => ⟨fun ht => n9 (by simp -implicitDefEqProofs [okS1, ht]), fun ht => ⟨by omega, by omega, fun _ _ => ⟨i + 1, rfl, by omega, n10 (by simp -implicitDefEqProofs [okS1, hn, ht]; omega), by omega⟩⟩⟩⟩⟩
  · clear hN hN1 hN2 hY
    have hall : ∀ j, j < r.commits.length → okCS r.commits j = true := fun j hj => hprev j (by omega)
    refine ⟨hall, fun t ht _ hinv _ => ⟨fun hlt2 => ?_, fun hge2 _ => ?_⟩⟩
    · generalize hhs : r.heads = hs at *
      have e3 : Option.map eHead hs[t]? = some (eHead hs[t]) := by simp -implicitDefEqProofs [List.getElem?_eq_getElem hlt2]
      have e4 : Option.map eHead hs[t - 1]? = some (eHead (hs[t - 1]'(by omega))) := by simp -implicitDefEqProofs [List.getElem?_eq_getElem (show t - 1 < hs.length by omega)]
      have hh : okHd r.commits.length hs t = (nameB hs[t].name && inN r.commits.length hs[t].at_ && (decide (t = 0) || Go.Op.bytesLess (hs[t - 1]'(by omega)).name hs[t].name)) := by
        unfold okHd
        rw [show hs.getD t default = hs[t] by simp -implicitDefEqProofs [List.getD_eq_getElem?_getD, hlt2], show hs.getD (t - 1) default = hs[t - 1]'(by omega) by simp -implicitDefEqProofs [List.getD_eq_getElem?_getD, show t - 1 < hs.length by omega]]
      have n7 : okHd r.commits.length hs t = false → repoS r = false := fun h => hH (hM t hlt2 h)
      have n8 : okHd r.commits.length hs t = true → ∀ j, j < t + 1 → okHd r.commits.length hs j = true := fun h j hj => by
        rcases Nat.lt_or_ge j t with h3 | h3
        · exact hinv j h3
        · have : j = t := by omega
          subst this; exact h
      have hq := leqS_iff hs[t].name (hs[t - 1]'(by omega)).name
      rw [less_eq] at hh
      unfold leqS at hq
      rw [hh] at n7 n8
      unfold inN at n7 n8
      clear hh hH hM
      simp -implicitDefEqProofs [hlt2, e3, e4, eHead, D.asStr, D.asInt, cast_eq, and_assoc]
      try simp +contextual -implicitDefEqProofs [eStr, eFile, cast_succ, cast_eq, cast_zero, List.getElem?_eq_getElem, eStrs_set, eFiles_set, eStrs_rep, eFiles_rep, ← eStrs_append, ← eFiles_append, eStrs_take, eStrs_drop, eFiles_take, eFiles_drop, eStrs_snoc, eFiles_snoc, and_assoc, hlt2]
      clear e3 e4 hinv hprev
      repeat' (first | intro _ | apply And.intro)
      all_goals first | omega | grind -ring
    · have h2 : headsB r.commits.length r.heads = decide (r.heads.length ≤ 5) := by
        unfold headsB
        have : (List.range r.heads.length).all (okHd r.commits.length r.heads) = true := by
          rw [List.all_eq_true]
          intro j hj
          have hj' : j < r.heads.length := by simpa using hj
          exact hinv j (by omega)
        rw [this, Bool.and_true]
      refine ⟨fun h16 _ => ?_, fun h16 => ?_⟩
      · rw [Bool.eq_iff_iff, repoS_iff, h2]
        simp only [decide_eq_true_eq]
        exact ⟨fun h => by have := h.2.1; omega, fun h => ⟨hall, by omega, by omega⟩⟩
      · cases hq : repoS r with
        | false => rfl
        | true => have := ((repoS_iff r).1 hq).2.2; omega
end Vx
end Go.Proofs.YtnanellmaelipaaGreatDoor
namespace Go.Proofs.YtnanellmaelipaaGreatDoor
set_option maxHeartbeats 4000000
namespace Vx
open Go.RowKit
set_option maxRecDepth 8000
theorem repo_use {r : RepoD} (h : repoI r = true) {i : Nat} (hi : i < r.commits.length) : r.commits[i].parents.length ≤ 2 ∧ (∀ p ∈ r.commits[i].parents, 0 ≤ p ∧ p < (i : Int)) ∧ treeI r.commits[i].tree = true := by
  have h1 := ((repoI_iff r).1 h).2.1 i hi
  have hg : r.commits.getD i default = r.commits[i] := by simp -implicitDefEqProofs [List.getD_eq_getElem?_getD, hi]
  simp only [okCI, okI1, hg, Bool.and_eq_true, decide_eq_true_eq, List.all_eq_true, List.mem_range] at h1
  refine ⟨h1.1.1.1.1, fun p hp => ?_, h1.1.2⟩
  obtain ⟨k, hk, rfl⟩ := List.getElem_of_mem hp
  have h2 := h1.2 k hk
  simp only [inN, Bool.and_eq_true, decide_eq_true_eq, List.getD_eq_getElem?_getD, List.getElem?_eq_getElem hk, Option.getD_some] at h2
  omega
theorem repo_n {r : RepoD} (h : repoI r = true) : r.commits.length ≤ 16 := ((repoI_iff r).1 h).1
def cTreeR : Con := .fn 13 (RepoD × Int) (fun a => [vRepo a.1, .int .i64 a.2]) (fun a => 0 ≤ a.2 ∧ a.2 < a.1.commits.length) (fun a => .sl true 2 (eFiles (a.1.commits.getD a.2.toNat default).tree)) (fun _ => [])
theorem treeR_has : Has Tryz.prog 94 cTreeR := by
  refine has_walk mixed tTab_ok (l := []) HasL.nil [0, 1, 2, 4] ((fun a n (_ : Nat) => (fun _ => noInv) a n)) [] Tryz.func94 (by kernel_rfl) (code := _) (by unfold Tryz.f94; rfl) (by kernel_rfl) (by decide) (fun _ => ⟨(), trivial⟩) (by intro h; first | exact fun _ => rfl | cases h) (by kernel_rfl) ?_
  intro a ha
  obtain ⟨r, n⟩ := a
  obtain ⟨h1, h2⟩ : 0 ≤ n ∧ n < r.commits.length := ha
  have hi : n.toNat < r.commits.length := by omega
  have e : Option.map eCommit r.commits[n.toNat]? = some (eCommit r.commits[n.toNat]) := by simp -implicitDefEqProofs [hi]
  simp -implicitDefEqProofs [cTreeR, Con.fn, tTab, e, eCommit, hi, h1, h2]
  try dsimp only
  exact fun h => absurd h (by omega)
def treeAt (r : RepoD) (a : Int) : List FileD := (r.commits.getD a.toNat default).tree
end Vx
end Go.Proofs.YtnanellmaelipaaGreatDoor
namespace Go.Proofs.YtnanellmaelipaaGreatDoor
set_option maxHeartbeats 4000000
namespace Vx
open Go.RowKit
set_option maxRecDepth 8000
--TAB tTabB
def tTabB : List (Nat × TI) := (108, ⟨false, [.sl 4 1], 24, [], 4⟩) :: tTab
theorem tTabB_ok : ∀ t ti, get? tTabB t = some ti → TOk Tryz.prog t ti := tabChk_ok (by kernel_rfl)
def eBool (b : Bool) : List D := [.bool b]
@[simp] theorem eBool_inj (a b : Bool) : (eBool a = eBool b) = (a = b) := by simp -implicitDefEqProofs [eBool]
def eBools (l : List Bool) : List (List D) := l.map eBool
@[simp] theorem eBools_length (l : List Bool) : (eBools l).length = l.length := by simp -implicitDefEqProofs [eBools]
@[simp] theorem eBools_nil : eBools [] = [] := rfl
@[simp] theorem eBools_get (l : List Bool) (i : Nat) : (eBools l)[i]? = l[i]?.map eBool := by simp -implicitDefEqProofs [eBools]
@[simp] theorem eBools_getElem (l : List Bool) (i : Nat) (h : i < (eBools l).length) : (eBools l)[i] = eBool (l[i]'(by simpa using h)) := by simp -implicitDefEqProofs [eBools]
@[simp] theorem eBools_inj (a b : List Bool) : (eBools a = eBools b) = (a = b) := by
  apply propext
  constructor
  · intro h
    exact List.map_inj_right (fun x y h => by simpa using h) |>.1 h
  · rintro rfl; rfl
@[simp] theorem eBools_eq_nil (a : List Bool) : (eBools a = []) = (a = []) := by simp -implicitDefEqProofs [eBools]
@[simp] theorem nil_eq_eBools (a : List Bool) : ([] = eBools a) = (a = []) := by simp -implicitDefEqProofs [eBools, eq_comm]
theorem eBools_set (l : List Bool) (i : Nat) (b : Bool) : (eBools l).set i [.bool b] = eBools (l.set i b) := by simp -implicitDefEqProofs [eBools, List.map_set, eBool]
theorem eBools_rep (n : Nat) (b : Bool) : List.replicate n [D.bool b] = eBools (List.replicate n b) := by simp -implicitDefEqProofs [eBools, eBool]
abbrev ownBools (h : Nat) (a : List Bool) : List (Nat × Blk) := [(h, .own 4 1 true (eBools a))]
def isT (l : List Bool) (i : Nat) : Bool := l.getD i false
def listF (l : List Bool) (i : Nat) : List Int := ((List.range i).filter (isT l)).map fun j : Nat => (j : Int)
theorem listF_hit {l : List Bool} {i : Nat} (h : isT l i = true) : listF l (i + 1) = listF l i ++ [(i : Int)] := by simp -implicitDefEqProofs [listF, List.range_succ, h]
theorem listF_miss {l : List Bool} {i : Nat} (h : isT l i = false) : listF l (i + 1) = listF l i := by simp -implicitDefEqProofs [listF, List.range_succ, h]
theorem listF_len (l : List Bool) (i : Nat) : (listF l i).length ≤ i := by
  have := List.length_filter_le (isT l) (List.range i)
  simpa [listF] using this
def listT (l : List Bool) : List Int := listF l l.length
theorem listT_mem {l : List Bool} {x : Int} : x ∈ listT l ↔ ∃ i : Nat, i < l.length ∧ isT l i = true ∧ x = i := by
  simp only [listT, listF, List.mem_map, List.mem_filter, List.mem_range]
  constructor
  · rintro ⟨i, ⟨h1, h2⟩, rfl⟩; exact ⟨i, h1, h2, rfl⟩
  · rintro ⟨i, h1, h2, rfl⟩; exact ⟨i, ⟨h1, h2⟩, rfl⟩
def cListOf : Con := .fn 20 (List Bool) (fun l => [.sl true 1 (eBools l)]) (fun l => l.length ≤ 1048576) (fun l => .own 8 1 (eInts (listT l))) (fun l => ownInts 8 (listT l))
theorem listOf_has : Has Tryz.prog 148 cListOf := by
  refine has_walk mixed tTabB_ok (l := []) HasL.nil [0, 2, 3, 4, 5, 6, 7, 8] ((fun a n (_ : Nat) => (fun l _ => ⟨Nat, fun i => ⟨[(2, true, .nil), (3, true, .own 9 1 (eInts (listF l i))), (6, true, .sl true 1 (eBools l)), (7, true, .int .i64 l.length), (8, true, .int .i64 i)], [(9, .own 3 1 true (eInts (listF l i)))]⟩, fun i => i ≤ l.length, fun i => l.length - i⟩) a n)) [] Tryz.func148 (by kernel_rfl) (code := _) (by unfold Tryz.f148; rfl) (by kernel_rfl) (by decide) (fun _ => ⟨(), trivial⟩) (by intro h; first | exact fun _ => rfl | cases h) (by kernel_rfl) ?_
  intro (l : List Bool) (ha : l.length ≤ 1048576)
  simp -implicitDefEqProofs [cListOf, Con.fn, tTabB, tTab]
  try dsimp only
  refine fun _ => ⟨⟨0, ⟨⟨rfl, rfl⟩, rfl⟩, Nat.zero_le _⟩, fun i hi => ⟨fun hlt => ?_, fun hge => ?_⟩⟩
  · have hl := listF_len l i
    have hi : isT l i = l[i] := by simp -implicitDefEqProofs [isT, List.getD_eq_getElem?_getD, hlt]
    simp -implicitDefEqProofs [hlt, eBool, D.asBool, and_assoc]
    refine ⟨fun h => ?_, fun h => ?_⟩
    · have e := listF_hit (hi.trans h)
      exact ⟨by omega, by omega, by omega, by omega, fun _ _ => ⟨i + 1, by rw [e]; simp -implicitDefEqProofs [eInts, eInt], by omega, by rw [e]; simp -implicitDefEqProofs [eInts, eInt], by omega, by omega⟩⟩
    · have e := listF_miss (hi.trans h)
      exact ⟨by omega, by omega, fun _ _ => ⟨i + 1, e, by omega, e.symm, by omega, by omega⟩⟩
  · have : i = l.length := by omega
    subst this
    exact ⟨rfl, rfl⟩
def cL8Has : Con := .fn 18 (List Int × Int) (fun a => [.sl true 1 (eInts a.1), .int .i64 a.2]) (fun _ => True) (fun a => .bool (decide (a.2 ∈ a.1))) (fun _ => [])
theorem l8Has_has : Has Tryz.prog 86 cL8Has := by
  refine has_walk mixed tTabB_ok (l := []) HasL.nil [0, 1, 4, 5] ((fun a n (_ : Nat) => (fun a _ => ⟨Nat, fun i => ⟨[(0, true, .sl true 1 (eInts a.1)), (1, true, .int .i64 a.2), (4, true, .bool false), (5, true, .int .i64 i)], []⟩, fun i => i ≤ a.1.length ∧ ∀ x, x ∈ a.1.take i → x ≠ a.2, fun i => a.1.length - i⟩) a n)) [] Tryz.func86 (by kernel_rfl) (code := _) (by unfold Tryz.f86; rfl) (by kernel_rfl) (by decide) (fun _ => ⟨(), trivial⟩) (by intro h; first | exact fun _ => rfl | cases h) (by kernel_rfl) ?_
  intro a _
  obtain ⟨l, n⟩ := a
  simp -implicitDefEqProofs [cL8Has, Con.fn, tTabB, tTab]
  try dsimp only
  refine fun i hi hb _ => ⟨fun hlt => ?_, fun hge => ?_⟩
  · simp -implicitDefEqProofs [hlt, eInt, D.asInt, and_assoc]
    refine ⟨fun h => by rw [← h]; exact List.getElem_mem hlt, fun h => ⟨by omega, by omega, fun _ _ => ⟨i + 1, by omega, by omega, fun x hx => ?_, by omega⟩⟩⟩
    rw [take_succ' hlt] at hx
    rcases List.mem_append.1 hx with h1 | h1
    · exact hb x h1
    · simp only [List.mem_singleton] at h1
      subst h1; exact h
  · rw [List.take_of_length_le hge] at hb
    exact fun h => hb n h rfl
def putT (l : List Bool) (ps : List Int) : List Bool := ps.foldl (fun l p => l.set p.toNat true) l
theorem putT_len (ps : List Int) : ∀ l : List Bool, (putT l ps).length = l.length := by
  induction ps with
  | nil => intro l; rfl
  | cons p r ih => intro l; show (putT (l.set p.toNat true) r).length = _; rw [ih]; simp
def stepA (r : RepoD) (l : List Bool) (i : Nat) : List Bool := if isT l i then putT l (r.commits.getD i default).parents else l
def ancF (r : RepoD) : Nat → List Bool → List Bool
  | 0, l => l
  | n + 1, l => ancF r n (stepA r l n)
def anc (r : RepoD) (a : Int) : List Bool := ancF r (a + 1).toNat ((List.replicate r.commits.length false).set a.toNat true)
theorem ancF_len (r : RepoD) : ∀ (n : Nat) (l : List Bool), (ancF r n l).length = l.length
  | 0, _ => rfl
  | n + 1, l => by
    show (ancF r n (stepA r l n)).length = _
    rw [ancF_len r n]
    unfold stepA
    split
    · rw [putT_len]
    · rfl
theorem anc_len (r : RepoD) (a : Int) : (anc r a).length = r.commits.length := by unfold anc; rw [ancF_len]; simp
def anO (r : RepoD) (a : Int) : Inv := ⟨List Bool × Int, fun t => ⟨[(2, true, .ptr 10 0), (4, true, .nil), (5, true, .own 9 1 (eBools t.1)), (6, true, .int .i64 t.2)], [(10, bRepo r), (9, .own 4 1 true (eBools t.1))]⟩, fun t => t.1.length = r.commits.length ∧ -1 ≤ t.2 ∧ t.2 < r.commits.length ∧ ancF r (t.2 + 1).toNat t.1 = anc r a, fun t => (t.2 + 1).toNat⟩
def anI (r : RepoD) (a : Int) (g : Nat) : Inv := ⟨List Bool × Nat, fun t => ⟨[(2, true, .ptr 10 0), (4, true, .nil), (5, true, .own 9 1 (eBools t.1)), (6, true, .int .i64 g), (30, true, .sl true 1 (eInts (r.commits.getD g default).parents)), (31, true, .int .i64 (r.commits.getD g default).parents.length), (32, true, .int .i64 t.2)], [(10, bRepo r), (9, .own 4 1 true (eBools t.1))]⟩, fun t => t.1.length = r.commits.length ∧ g < r.commits.length ∧ t.2 ≤ (r.commits.getD g default).parents.length ∧ ancF r g (putT t.1 ((r.commits.getD g default).parents.drop t.2)) = anc r a, fun t => (r.commits.getD g default).parents.length - t.2⟩
def anInv (r : RepoD) (a : Int) (n g : Nat) : Inv := if n = 4 then anO r a else anI r a g
theorem anInv_4 (r : RepoD) (a : Int) (g : Nat) : anInv r a 4 g = anO r a := rfl
theorem anInv_8 (r : RepoD) (a : Int) (g : Nat) : anInv r a 8 g = anI r a g := rfl
def cAncestors : Con := .fn 41 (RepoD × Int) (fun a => [vRepo a.1, .int .i64 a.2]) (fun a => repoI a.1 = true ∧ 0 ≤ a.2 ∧ a.2 < a.1.commits.length) (fun a => .own 8 1 (eBools (anc a.1 a.2))) (fun a => ownBools 8 (anc a.1 a.2))
theorem ancestors_has : Has Tryz.prog 80 cAncestors := by
  refine has_walk mixed tTabB_ok (l := []) HasL.nil [0, 1, 2, 4, 5, 6, 8, 30, 31, 32] (fun a => anInv a.1 a.2) [] Tryz.func80 (by kernel_rfl) (code := _) (by unfold Tryz.f80; rfl) (by kernel_rfl) (by decide) (fun _ => ⟨(), trivial⟩) (by intro h; first | exact fun _ => rfl | cases h) (by kernel_rfl) ?_
  intro a ha
  obtain ⟨r, n⟩ := a
  obtain ⟨h1, h2, h3⟩ : repoI r = true ∧ 0 ≤ n ∧ n < r.commits.length := ha
  have h4 := repo_n h1
  simp -implicitDefEqProofs [cAncestors, Con.fn, tTabB, tTab, anInv_4, anInv_8, anO, anI, bRepo_def]
  try dsimp only
  refine fun _ => ⟨by omega, fun _ => ⟨⟨h2, h3⟩, fun _ _ => ⟨by omega, ⟨(List.replicate r.commits.length false).set n.toNat true, n, ⟨⟨by rw [eBools_rep]; exact (eBools_set _ _ _).symm, rfl⟩, by rw [eBools_rep]; exact eBools_set _ _ _⟩, by simp, by omega, h3, rfl⟩, fun l b g1 g2 g3 g4 => ⟨fun hb => ⟨⟨hb, by omega⟩, fun _ _ => ?_⟩, fun hb => ?_⟩⟩⟩⟩
  · have hb1 : b.toNat < l.length := by omega
    have hb2 : b.toNat < r.commits.length := by omega
    obtain ⟨p1, p2, _⟩ := repo_use h1 hb2
    have hT : isT l b.toNat = l[b.toNat] := by simp -implicitDefEqProofs [isT, List.getD_eq_getElem?_getD, hb1]
    have hbb : (b + 1).toNat = b.toNat + 1 := by omega
    have hgd : r.commits.getD b.toNat default = r.commits[b.toNat] := by simp -implicitDefEqProofs [List.getD_eq_getElem?_getD, hb2]
    rw [hbb] at g4
    have g5 : ancF r b.toNat (stepA r l b.toNat) = anc r n := g4
    unfold stepA at g5
    rw [hT, hgd] at g5
    have e3 : Option.map eCommit r.commits[b.toNat]? = some (eCommit r.commits[b.toNat]) := by simp -implicitDefEqProofs [hb2]
    have hgo : r.commits[b.toNat]?.getD default = r.commits[b.toNat] := by simp -implicitDefEqProofs [hb2]
    simp -implicitDefEqProofs [hb1, eBool, D.asBool, e3, eCommit, D.asRows, hb, show b < r.commits.length by omega]
    refine ⟨fun h _ => ⟨b.toNat, ?_⟩, fun h => ⟨⟨by omega, by omega⟩, fun _ _ => ⟨l, b - 1, ⟨⟨rfl, rfl⟩, rfl⟩, ⟨g1, by omega, by omega, ?_⟩, by omega⟩⟩⟩
    · rw [if_pos h] at g5
      rw [hgo]
      generalize r.commits[b.toNat] = c at *
      refine ⟨⟨l, 0, ⟨⟨rfl, by omega, rfl, rfl, rfl⟩, rfl⟩, g1, hb2, Nat.zero_le _, g5⟩, fun m k m1 m2 m3 m4 => ⟨fun hlt => ⟨hlt, fun _ => ?_⟩, fun hge => ⟨⟨by omega, by omega⟩, fun _ _ => ⟨m, b - 1, ⟨⟨rfl, by omega⟩, rfl⟩, ⟨m1, by omega, by omega, ?_⟩, by omega⟩⟩⟩⟩
      · have hp := p2 c.parents[k] (List.getElem_mem hlt)
        have qt : Option.map eInt c.parents[k]? = some (eInt c.parents[k]) := by simp -implicitDefEqProofs [List.getElem?_eq_getElem hlt]
        simp -implicitDefEqProofs [qt, eInt, D.asInt]
        refine ⟨⟨hp.1, by omega⟩, fun _ _ => ⟨by omega, ⟨by omega, by omega⟩, fun _ _ => ⟨m.set c.parents[k].toNat true, k + 1, ⟨⟨(eBools_set _ _ _).symm, by omega⟩, eBools_set _ _ _⟩, ⟨by simp -implicitDefEqProofs [m1], m2, by omega, ?_⟩, by omega⟩⟩⟩
        rw [List.drop_eq_getElem_cons hlt] at m4
        exact m4
      · rw [List.drop_eq_nil_of_le hge] at m4
        rw [show (b - 1 + 1).toNat = b.toNat by omega]
        exact m4
    · rw [if_neg (by rw [h]; simp)] at g5
      rw [show (b - 1 + 1).toNat = b.toNat by omega]
      exact g5
  · have hbb : (b + 1).toNat = 0 := by omega
    rw [hbb] at g4
    have g5 : l = anc r n := g4
    exact ⟨g5.symm, g5⟩
end Vx
end Go.Proofs.YtnanellmaelipaaGreatDoor
namespace Go.Proofs.YtnanellmaelipaaGreatDoor
namespace Vx
open Go.RowKit
set_option maxRecDepth 8000
--TAB tTabB
end Vx
end Go.Proofs.YtnanellmaelipaaGreatDoor
namespace Go.Proofs.YtnanellmaelipaaGreatDoor
set_option maxHeartbeats 4000000
namespace Vx
open Go.RowKit
set_option maxRecDepth 8000
--TAB tTabB
theorem isT_set_ne {l : List Bool} {p g : Nat} (b : Bool) (h : p ≠ g) : isT (l.set p b) g = isT l g := by
  unfold isT
  rw [List.getD_eq_getElem?_getD, List.getD_eq_getElem?_getD, List.getElem?_set_ne h]
def alO (r : RepoD) (a : Int) : Inv := ⟨List Bool × Int, fun t => ⟨[(2, true, .ptr 10 0), (4, true, .nil), (5, true, .own 9 1 (eBools t.1)), (6, true, .int .i64 t.2)], [(10, bRepo r), (9, .own 4 1 true (eBools t.1))]⟩, fun t => t.1.length = r.commits.length ∧ -1 ≤ t.2 ∧ t.2 < r.commits.length ∧ ancF r (t.2 + 1).toNat t.1 = anc r a, fun t => (t.2 + 1).toNat⟩
def alI (r : RepoD) (a : Int) (g : Nat) : Inv := ⟨List Bool × Nat, fun t => ⟨[(2, true, .ptr 10 0), (4, true, .nil), (5, true, .own 9 1 (eBools t.1)), (6, true, .int .i64 g), (7, true, .int .i64 t.2)], [(10, bRepo r), (9, .own 4 1 true (eBools t.1))]⟩, fun t => t.1.length = r.commits.length ∧ g < r.commits.length ∧ t.2 ≤ (r.commits.getD g default).parents.length ∧ (isT t.1 g = true → ancF r g (putT t.1 ((r.commits.getD g default).parents.drop t.2)) = anc r a) ∧ (isT t.1 g = false → ancF r g t.1 = anc r a), fun t => (r.commits.getD g default).parents.length - t.2⟩
def alT (r : RepoD) (a : Int) : Inv := ⟨Nat, fun i => ⟨[(2, true, .ptr 10 0), (4, true, .nil), (5, true, .own 9 1 (eBools (anc r a))), (8, true, .own 11 1 (eInts (listF (anc r a) i))), (9, true, .int .i64 i)], [(10, bRepo r), (9, .own 4 1 true (eBools (anc r a))), (11, .own 3 1 true (eInts (listF (anc r a) i)))]⟩, fun i => i ≤ r.commits.length, fun i => r.commits.length - i⟩
def alInv (r : RepoD) (a : Int) (n g : Nat) : Inv := if n = 4 then alO r a else if n = 7 then alI r a g else alT r a
theorem alInv_4 (r : RepoD) (a : Int) (g : Nat) : alInv r a 4 g = alO r a := rfl
theorem alInv_7 (r : RepoD) (a : Int) (g : Nat) : alInv r a 7 g = alI r a g := rfl
theorem alInv_12 (r : RepoD) (a : Int) (g : Nat) : alInv r a 12 g = alT r a := rfl
def cL8All : Con := .fn 66 (RepoD × Int) (fun a => [vRepo a.1, .int .i64 a.2]) (fun a => repoI a.1 = true ∧ 0 ≤ a.2 ∧ a.2 < a.1.commits.length) (fun a => .own 8 1 (eInts (listT (anc a.1 a.2)))) (fun a => ownInts 8 (listT (anc a.1 a.2)))
theorem l8All_has : Has Tryz.prog 87 cL8All := by
  refine has_walk mixed tTabB_ok (l := []) HasL.nil [0, 1, 2, 4, 5, 6, 7, 8, 9] (fun a => alInv a.1 a.2) [] Tryz.func87 (by kernel_rfl) (code := _) (by unfold Tryz.f87; rfl) (by kernel_rfl) (by decide) (fun _ => ⟨(), trivial⟩) (by intro h; first | exact fun _ => rfl | cases h) (by kernel_rfl) ?_
  intro a ha
  obtain ⟨r, n⟩ := a
  obtain ⟨h1, h2, h3⟩ : repoI r = true ∧ 0 ≤ n ∧ n < r.commits.length := ha
  have h4 := repo_n h1
  simp -implicitDefEqProofs [cL8All, Con.fn, tTabB, tTab, alInv_4, alInv_7, alInv_12, alO, alI, alT, bRepo_def]
  try dsimp only
  simp only [and_assoc, exists_eq_left, exists_and_left, RepoD.ex1, RepoD.eta]
  have hal := anc_len r n
  refine fun _ => ⟨by omega, fun _ => ⟨h2, h3, fun _ _ => ⟨by omega, ⟨(List.replicate r.commits.length false).set n.toNat true, by rw [eBools_rep]; exact (eBools_set _ _ _).symm, by rw [eBools_rep]; exact eBools_set _ _ _, by simp, by omega, h3, rfl⟩, fun l b g1 g2 g3 g4 => ⟨fun hb => ⟨b.toNat, ?_⟩, fun hb => ?_⟩⟩⟩⟩
  · have hb1 : b.toNat < l.length := by omega
    have hb2 : b.toNat < r.commits.length := by omega
    obtain ⟨p1, p2, _⟩ := repo_use h1 hb2
    have hgd : r.commits.getD b.toNat default = r.commits[b.toNat] := by simp -implicitDefEqProofs [List.getD_eq_getElem?_getD, hb2]
    have hgo : r.commits[b.toNat]?.getD default = r.commits[b.toNat] := by simp -implicitDefEqProofs [hb2]
    rw [show (b + 1).toNat = b.toNat + 1 by omega] at g4
    have g5 : ancF r b.toNat (stepA r l b.toNat) = anc r n := g4
    unfold stepA at g5
    rw [hgd] at g5
    have e3 : Option.map eCommit r.commits[b.toNat]? = some (eCommit r.commits[b.toNat]) := by simp -implicitDefEqProofs [hb2]
    rw [hgo, e3]
    generalize r.commits[b.toNat] = c at *
    refine ⟨by omega, trivial, g1, hb2, Nat.zero_le _, fun h => ?_, fun h => ?_, fun m k m1 m2 m3 m4 m5 => ⟨hb2, fun _ => ?_⟩⟩
    · rw [if_pos h] at g5; exact g5
    · rw [if_neg (by rw [h]; simp)] at g5; exact g5
    · have hbm : b.toNat < m.length := by omega
      have hT : isT m b.toNat = m[b.toNat] := by simp -implicitDefEqProofs [isT, List.getD_eq_getElem?_getD, hbm]
      have e4 : Option.map eBool m[b.toNat]? = some (eBool m[b.toNat]) := by simp -implicitDefEqProofs [hbm]
      have hmx : max b 0 = b := Int.max_eq_left hb
      simp -implicitDefEqProofs [eCommit, D.asRows, e4, eBool, hbm, hb2, hmx]
      refine fun _ => ⟨fun hl2 => ⟨fun hm => ⟨hl2, fun _ => ?_⟩, fun hm => ⟨by omega, by omega, fun _ _ => ⟨m1, by omega, by omega, m5 (hT.trans hm), by omega⟩⟩⟩, fun hge => ⟨by omega, by omega, fun _ _ => ⟨m1, by omega, by omega, ?_, by omega⟩⟩⟩
      · have hp := p2 c.parents[k] (List.getElem_mem hl2)
        have qt : Option.map eInt c.parents[k]? = some (eInt c.parents[k]) := by simp -implicitDefEqProofs [List.getElem?_eq_getElem hl2]
        simp -implicitDefEqProofs [qt, eInt, D.asInt]
        have hst : isT (m.set c.parents[k].toNat true) b.toNat = true := by rw [isT_set_ne _ (by omega)]; exact hT.trans hm
        refine ⟨hp.1, by omega, fun _ _ => ⟨by omega, by omega, by omega, fun _ _ => ⟨m.set c.parents[k].toNat true, (eBools_set _ _ _).symm, k + 1, by omega, eBools_set _ _ _, by simp -implicitDefEqProofs [m1], by omega, fun _ => ?_, fun h => ?_, by omega⟩⟩⟩
        · have := m4 (hT.trans hm)
          rw [List.drop_eq_getElem_cons hl2] at this
          exact this
        · rw [hst] at h; cases h
      · cases hm : m[b.toNat] with
        | true =>
          have := m4 (hT.trans hm)
          rw [List.drop_eq_nil_of_le hge] at this
          exact this
        | false => exact m5 (hT.trans hm)
  · rw [show (b + 1).toNat = 0 by omega] at g4
    have g5 : l = anc r n := g4
    refine ⟨g5.symm, ⟨0, rfl, rfl, g5, rfl, Nat.zero_le _⟩, fun i hi _ => ⟨fun hlt => ?_, fun hge => ?_⟩⟩
    · have hl := listF_len (anc r n) i
      have hi : isT (anc r n) i = (anc r n)[i] := by simp -implicitDefEqProofs [isT, List.getD_eq_getElem?_getD, hlt]
      rw [hal] at hlt
      simp -implicitDefEqProofs [hal, hlt, eBool, D.asBool, and_assoc]
      refine ⟨fun h => ?_, fun h => ?_⟩
      · have e := listF_hit (hi.trans h)
        exact ⟨by omega, by omega, by omega, by omega, fun _ _ => ⟨i + 1, by rw [e]; simp -implicitDefEqProofs [eInts, eInt], by omega, by rw [e]; simp -implicitDefEqProofs [eInts, eInt], by omega, by omega⟩⟩
      · have e := listF_miss (hi.trans h)
        exact ⟨by omega, by omega, fun _ _ => ⟨i + 1, e, by omega, e.symm, by omega, by omega⟩⟩
    · rw [hal] at hge
      have : i = r.commits.length := by omega
      subst this
      unfold listT
      rw [hal]
      exact ⟨rfl, rfl⟩
end Vx
end Go.Proofs.YtnanellmaelipaaGreatDoor
namespace Go.Proofs.YtnanellmaelipaaGreatDoor
namespace Vx
open Go.RowKit
def cmSz (c : CommitD) : Prop := c.parents.length ≤ 1048576 ∧ c.tree.length ≤ 1048576 ∧ ∀ g ∈ c.tree, g.text.length ≤ 1048576
def rpSz (r : RepoD) : Prop := r.commits.length ≤ 1048576 ∧ (∀ c ∈ r.commits, cmSz c) ∧ r.heads.length ≤ 1048576
end Vx
end Go.Proofs.YtnanellmaelipaaGreatDoor
namespace Go.Proofs.YtnanellmaelipaaGreatDoor
set_option maxHeartbeats 4000000
namespace Vx
open Go.RowKit
set_option maxRecDepth 8000
theorem flatI (p : List Int) : ∀ x ∈ eInts p, ∀ d ∈ x, match d with | .sl _ _ _ => False | _ => True := by
  intro x hx d hd
  simp only [eInts, List.mem_map] at hx
  obtain ⟨i, _, rfl⟩ := hx
  simp only [eInt, List.mem_singleton] at hd
  subst hd; trivial
theorem flatH (p : List HeadD) : ∀ x ∈ eHeads p, ∀ d ∈ x, match d with | .sl _ _ _ => False | _ => True := by
  intro x hx d hd
  simp only [eHeads, List.mem_map] at hx
  obtain ⟨i, _, rfl⟩ := hx
  simp only [eHead, List.mem_cons, List.not_mem_nil, or_false] at hd
  rcases hd with rfl | rfl <;> trivial
def cL7CopyCommit : Con := .fn 13 CommitD (fun f => [.agg [.sl true 1 (eInts f.parents), .str f.who, .sl true 2 (eFiles f.tree)]]) (fun f => cmSz f) (fun f => .agg [.own 8 1 (eInts f.parents), .str f.who, .own 9 2 (eFiles f.tree)]) (fun f => ownInts 8 f.parents ++ ownFiles 9 f.tree)
theorem l7CopyCommit_has : Has Tryz.prog 178 cL7CopyCommit := by
  refine has_walk mixed tTab_ok (l := [(209, cL4Copy)]) (HasL.cons l4Copy_has HasL.nil) [0, 1, 2] ((fun a n (_ : Nat) => (fun _ => noInv) a n)) [] Tryz.func178 (by kernel_rfl) (code := _) (by unfold Tryz.f178; rfl) (by kernel_rfl) (by decide) (fun _ => ⟨(), trivial⟩) (by intro h; first | exact fun _ => rfl | cases h) (by kernel_rfl) ?_
  intro f hf
  obtain ⟨p, x, t⟩ := f
  obtain ⟨h1, h2, h3⟩ : p.length ≤ 1048576 ∧ t.length ≤ 1048576 ∧ ∀ g ∈ t, g.text.length ≤ 1048576 := hf
  simp -implicitDefEqProofs [cL7CopyCommit, cL4Copy, Con.fn, tTab]
  try dsimp only
  exact ⟨flatI p, by omega, h2, h3⟩
abbrev bNilR : Blk := .box 26 [.nil, .nil]
def l7cO (r : RepoD) : Inv := ⟨Nat, fun i => ⟨[(1, true, .ptr 12 0), (2, true, .ptr 10 0), (3, true, .ptr 11 0), (4, true, .int .i64 i)], [(12, bRepo r), (10, bNilR), (11, .box 26 [.own 13 3 (eCommits (r.commits.take i)), .own 14 2 (eHeads r.heads)]), (13, .own 56 3 true (eCommits (r.commits.take i))), (14, .own 34 2 true (eHeads r.heads))]⟩, fun i => i ≤ r.commits.length, fun i => r.commits.length - i⟩
def cL7Copy : Con := .fn 29 RepoD (fun r => [vRepo r]) rpSz (fun r => .agg [.own 8 3 (eCommits r.commits), .own 9 2 (eHeads r.heads)]) (fun r => ownCommits 8 r.commits ++ ownHeads 9 r.heads)
theorem l7Copy_has : Has Tryz.prog 127 cL7Copy := by
  refine has_walk mixed tTab_ok (l := [(178, cL7CopyCommit)]) (HasL.cons l7CopyCommit_has HasL.nil) [0, 1, 2, 3, 4] ((fun a n (_ : Nat) => (fun r _ => l7cO r) a n)) [25, 26] Tryz.func127 (by kernel_rfl) (code := _) (by unfold Tryz.f127; rfl) (by kernel_rfl) (by decide) (fun _ => ⟨(), trivial⟩) (by intro h; first | exact fun _ => rfl | cases h) (by kernel_rfl) ?_
  intro (r : RepoD) hr
  obtain ⟨h1, h2, h3⟩ : r.commits.length ≤ 1048576 ∧ (∀ c ∈ r.commits, cmSz c) ∧ r.heads.length ≤ 1048576 := hr
  simp -implicitDefEqProofs [cL7Copy, cL7CopyCommit, Con.fn, tTab, l7cO, bRepo_def]
  try dsimp only
  refine ⟨flatH r.heads, by omega, ⟨0, ⟨rfl, .inl rfl⟩, Nat.zero_le _⟩, fun i hi _ => ⟨fun hlt => ?_, fun hge => ?_⟩⟩
  · have e : r.commits.take (i + 1) = r.commits.take i ++ [r.commits[i]] := take_succ' hlt
    have hc := h2 _ (List.getElem_mem hlt)
    simp -implicitDefEqProofs [hlt, eCommit, D.asStr, D.asRows, and_assoc]
    refine ⟨hc, by omega, by omega, by omega, by omega, fun _ _ => ⟨i + 1, by omega, ?_, ?_, by omega, by omega⟩⟩
    · rw [e, eCommits_snoc]
    · rw [e, eCommits_snoc]
  · rw [List.take_of_length_le hge]; exact ⟨rfl, rfl⟩
def hStep (n : Str) (a : Int) (acc : List HeadD × Bool) (g : HeadD) : List HeadD × Bool :=
  if acc.2 = false ∧ Go.Op.bytesLess g.name n = false then (if g.name = n then (acc.1 ++ [⟨n, a⟩], true) else (acc.1 ++ [⟨n, a⟩] ++ [g], true))
  else (if g.name = n then acc else (acc.1 ++ [g], acc.2))
def hL (n : Str) (a : Int) (l : List HeadD) : List HeadD × Bool := l.foldl (hStep n a) ([], false)
def hSet (l : List HeadD) (n : Str) (a : Int) : List HeadD := if (hL n a l).2 then (hL n a l).1 else (hL n a l).1 ++ [⟨n, a⟩]
theorem hL_succ {n : Str} {a : Int} {t : List HeadD} {i : Nat} (h : i < t.length) : hL n a (t.take (i + 1)) = hStep n a (hL n a (t.take i)) t[i] := by
  unfold hL
  rw [take_succ' h, List.foldl_append]; rfl
theorem hStep_len (n : Str) (a : Int) (acc : List HeadD × Bool) (g : HeadD) : (hStep n a acc g).1.length + acc.2.toNat ≤ acc.1.length + (hStep n a acc g).2.toNat + 1 := by
  unfold hStep
  split
  · rename_i h
    rw [h.1]
    split <;> simp <;> omega
  · split <;> simp <;> omega
theorem hL_len (n : Str) (a : Int) (t : List HeadD) : (hL n a t).1.length ≤ t.length + (hL n a t).2.toNat := by
  have : ∀ (t : List HeadD) (acc : List HeadD × Bool), (t.foldl (hStep n a) acc).1.length + acc.2.toNat ≤ acc.1.length + t.length + (t.foldl (hStep n a) acc).2.toNat := by
    intro t
    induction t with
    | nil => intro acc; simp
    | cons g r ih =>
      intro acc
      have h1 := ih (hStep n a acc g)
      have h2 := hStep_len n a acc g
      simp only [List.foldl_cons, List.length_cons]
      omega
  have := this t ([], false)
  simpa [hL] using this
def l7hO (r : RepoD) (n : Str) (a : Int) : Inv := ⟨Nat, fun i => ⟨[(1, true, .str n), (2, true, .int .i64 a), (3, true, .ptr 12 0), (6, true, .ptr 10 0), (7, true, .ptr 11 0), (8, true, .bool (hL n a (r.heads.take i)).2), (9, true, .int .i64 i)], [(12, bRepo r), (10, bNilR), (11, .box 26 [.sl true 3 (eCommits r.commits), .own 14 2 (eHeads (hL n a (r.heads.take i)).1)]), (14, .own 34 2 true (eHeads (hL n a (r.heads.take i)).1))]⟩, fun i => i ≤ r.heads.length, fun i => r.heads.length - i⟩
def cL7Head : Con := .fn 69 (RepoD × Str × Int) (fun a => [vRepo a.1, .str a.2.1, .int .i64 a.2.2]) (fun a => a.1.heads.length ≤ 1048576) (fun a => .agg [.sl true 3 (eCommits a.1.commits), .own 9 2 (eHeads (hSet a.1.heads a.2.1 a.2.2))]) (fun a => ownHeads 9 (hSet a.1.heads a.2.1 a.2.2))
theorem l7Head_has : Has Tryz.prog 179 cL7Head := by
  refine has_walk mixed tTab_ok (l := []) HasL.nil [0, 1, 2, 3, 6, 7, 8, 9] ((fun a n (_ : Nat) => (fun a _ => l7hO a.1 a.2.1 a.2.2) a n)) [] Tryz.func179 (by kernel_rfl) (code := _) (by unfold Tryz.f179; rfl) (by kernel_rfl) (by decide) (fun _ => ⟨(), trivial⟩) (by intro h; first | exact fun _ => rfl | cases h) (by kernel_rfl) ?_
  intro a ha
  obtain ⟨r, n, a⟩ := a
  replace ha : r.heads.length ≤ 1048576 := ha
  have a0 : hL n a [] = ([], false) := rfl
  have a7 : ∀ i, (hL n a (r.heads.take i)).1.length ≤ 1048577 := fun i => by
    have h1 := hL_len n a (r.heads.take i)
    have h2 := Bool.toNat_le (hL n a (r.heads.take i)).2
    have h3 : (r.heads.take i).length ≤ r.heads.length := by simp; omega
    omega
  simp -implicitDefEqProofs [cL7Head, Con.fn, tTab, l7hO, bRepo_def]
  try dsimp only
  have b1 : ∀ (X : List HeadD) (g : HeadD), eHeads X ++ [[D.str n, D.int .i64 a], [D.str g.name, D.int .i64 g.at_]] = eHeads (X ++ [⟨n, a⟩] ++ [g]) := fun X g => by simp -implicitDefEqProofs [eHeads, eHead]
  have b2 : ∀ (X : List HeadD) (g : HeadD), eHeads X ++ [[D.str g.name, D.int .i64 g.at_]] = eHeads (X ++ [g]) := fun X g => by simp -implicitDefEqProofs [eHeads, eHead]
  have b3 : ∀ (X : List HeadD), eHeads X ++ [[D.str n, D.int .i64 a]] = eHeads (X ++ [⟨n, a⟩]) := fun X => by simp -implicitDefEqProofs [eHeads, eHead]
  refine ⟨⟨0, by simp -implicitDefEqProofs [a0]⟩, fun i hi _ => ⟨fun hlt => ?_, fun hge => ?_⟩⟩
  · have g := hL_succ (n := n) (a := a) hlt
    have gl := a7 i
    generalize hX : hL n a (r.heads.take i) = X at g gl ⊢
    obtain ⟨X, q⟩ := X
    simp -implicitDefEqProofs [hlt, eHead, D.asStr, D.asInt, and_assoc]
    rw [b1, b2, b3]
    have gl : X.length ≤ 1048577 := gl
    have fin : ∀ (Y : List HeadD) (b : Bool), hL n a (r.heads.take (i + 1)) = (Y, b) → ∀ c, b = c → ∃ t', (hL n a (r.heads.take t')).2 = c ∧ (t' : Int) = i + 1 ∧ eHeads (hL n a (r.heads.take t')).1 = eHeads Y ∧ eHeads Y = eHeads (hL n a (r.heads.take t')).1 ∧ t' ≤ r.heads.length ∧ r.heads.length - t' < r.heads.length - i := fun Y b h c hc => ⟨i + 1, by rw [h]; exact hc, by omega, by rw [h], by rw [h], by omega, by omega⟩
    have fin2 : ∀ (Y : List HeadD) (b : Bool), hL n a (r.heads.take (i + 1)) = (Y, b) → ∀ c, b = c → ∃ t', (hL n a (r.heads.take t')).2 = c ∧ (t' : Int) = i + 1 ∧ (hL n a (r.heads.take t')).1 = Y ∧ Y = (hL n a (r.heads.take t')).1 ∧ t' ≤ r.heads.length ∧ r.heads.length - t' < r.heads.length - i := fun Y b h c hc => ⟨i + 1, by rw [h]; exact hc, by omega, by rw [h], by rw [h], by omega, by omega⟩
    refine ⟨fun hq => ⟨fun h => ⟨by omega, by omega, by omega, by omega, fun _ _ => fin _ q ?_ _ rfl⟩, fun h => ⟨by omega, by omega, fun _ _ => fin2 _ q ?_ _ rfl⟩⟩,
      fun hq => ⟨fun hb => ⟨by omega, by omega, fun h => ⟨by omega, by omega, by omega, by omega, fun _ _ => fin _ true ?_ _ rfl⟩, fun h => ⟨by omega, by omega, fun _ _ => fin _ true ?_ _ rfl⟩⟩,
        fun hb => ⟨fun h => ⟨by omega, by omega, by omega, by omega, fun _ _ => fin _ q ?_ _ rfl⟩, fun h => ⟨by omega, by omega, fun _ _ => fin2 _ q ?_ _ rfl⟩⟩⟩⟩
    all_goals rw [g]; unfold hStep
    · rw [if_neg (by simp -implicitDefEqProofs [hq]), if_neg h]
    · rw [if_neg (by simp -implicitDefEqProofs [hq]), if_pos h]
    · rw [if_pos ⟨hq, hb⟩, if_neg h]
    · rw [if_pos ⟨hq, hb⟩, if_pos h]
    · rw [if_neg (by simp -implicitDefEqProofs [hb]), if_neg h]
    · rw [if_neg (by simp -implicitDefEqProofs [hb]), if_pos h]
  · rw [List.take_of_length_le hge]
    have gl := a7 r.heads.length
    rw [List.take_length] at gl
    rw [b3]
    refine ⟨fun h => ?_, fun h => ⟨by omega, ?_⟩⟩
    · unfold hSet; rw [if_pos h]; exact ⟨rfl, rfl⟩
    · unfold hSet; rw [if_neg (by simp -implicitDefEqProofs [h])]; exact ⟨rfl, rfl⟩
end Vx
end Go.Proofs.YtnanellmaelipaaGreatDoor
namespace Go.Proofs.YtnanellmaelipaaGreatDoor
set_option maxHeartbeats 4000000
namespace Vx
open Go.RowKit
set_option maxRecDepth 8000
def addR (r : RepoD) (n : Str) (c : CommitD) : RepoD := ⟨r.commits ++ [c], hSet r.heads n r.commits.length⟩
def cL7Add : Con := .fn 24 (RepoD × Str × CommitD) (fun a => [vRepo a.1, .str a.2.1, .agg [.sl true 1 (eInts a.2.2.parents), .str a.2.2.who, .sl true 2 (eFiles a.2.2.tree)]]) (fun a => a.1.commits.length ≤ 1048576 ∧ a.1.heads.length ≤ 1048576) (fun a => .agg [.sl false 3 (eCommits (addR a.1 a.2.1 a.2.2).commits), .sl false 2 (eHeads (addR a.1 a.2.1 a.2.2).heads)]) (fun _ => [])
theorem l7Add_has : Has Tryz.prog 182 cL7Add := by
  refine has_walk mixed tTab_ok (l := [(179, cL7Head)]) (HasL.cons l7Head_has HasL.nil) [0, 1, 2, 3, 5, 6, 7] ((fun a n (_ : Nat) => (fun _ => noInv) a n)) [4109] Tryz.func182 (by kernel_rfl) (code := _) (by unfold Tryz.f182; rfl) (by kernel_rfl) (by decide) (fun _ => ⟨(), trivial⟩) (by intro h; first | exact fun _ => rfl | cases h) (by kernel_rfl) ?_
  intro a ha
  obtain ⟨r, n, c⟩ := a
  obtain ⟨h1, h2⟩ : r.commits.length ≤ 1048576 ∧ r.heads.length ≤ 1048576 := ha
  simp -implicitDefEqProofs [cL7Add, cL7Head, Con.fn, tTab, bRepo_def]
  try dsimp only
  exact ⟨by omega, by omega, fun _ => ⟨⟨r.commits ++ [c], r.heads⟩, n, r.commits.length, ⟨⟨by simp -implicitDefEqProofs [eCommits, eCommit], rfl⟩, rfl, rfl⟩, h2, rfl, rfl⟩⟩
def repoBranchS (r : RepoD) (n : Str) (a : Int) : RepoD × Bool := if repoS r then (if 0 ≤ atL r.heads n ∨ repoS ⟨r.commits, hSet r.heads n a⟩ = false then (r, false) else (⟨r.commits, hSet r.heads n a⟩, true)) else (⟨[], []⟩, false)
def cRepoBranch : Con := .fn 30 (RepoD × Str × Int) (fun a => [vRepo a.1, .str a.2.1, .int .i64 a.2.2]) (fun a => rpSz a.1) (fun a => .tup [.agg [.sl false 3 (eCommits (repoBranchS a.1 a.2.1 a.2.2).1.commits), .sl false 2 (eHeads (repoBranchS a.1 a.2.1 a.2.2).1.heads)], .bool (repoBranchS a.1 a.2.1 a.2.2).2]) (fun _ => [])
theorem repoBranch_has : Has Tryz.prog 251 cRepoBranch := by
  refine has_walk mixed tTab_ok (l := [(82, cL7Ok), (127, cL7Copy), (179, cL7Head), (124, cL7At)]) (HasL.cons l7Ok_has (HasL.cons l7Copy_has (HasL.cons l7Head_has (HasL.cons l7At_has HasL.nil)))) [0, 1, 2, 3, 6, 7, 8] ((fun a n (_ : Nat) => (fun _ => noInv) a n)) [] Tryz.func251 (by kernel_rfl) (code := _) (by unfold Tryz.f251; rfl) (by kernel_rfl) (by decide) (fun _ => ⟨(), trivial⟩) (by intro h; first | exact fun _ => rfl | cases h) (by kernel_rfl) ?_
  intro a ha
  obtain ⟨r, n, at_⟩ := a
  replace ha : rpSz r := ha
  have ha2 := ha
  obtain ⟨h1, h2, h3⟩ : r.commits.length ≤ 1048576 ∧ (∀ c ∈ r.commits, cmSz c) ∧ r.heads.length ≤ 1048576 := ha2
  simp -implicitDefEqProofs [cRepoBranch, cL7Ok, cL7Copy, cL7Head, cL7At, Con.fn, tTab, bRepo_def]
  try dsimp only
  have e0 : repoS r = false → repoBranchS r n at_ = (⟨[], []⟩, false) := fun h => by unfold repoBranchS; rw [if_neg (by simp -implicitDefEqProofs [h])]
  have e1 : repoS r = true → (0 ≤ atL r.heads n ∨ repoS ⟨r.commits, hSet r.heads n at_⟩ = false) → repoBranchS r n at_ = (r, false) := fun h h2 => by unfold repoBranchS; rw [if_pos h, if_pos h2]
  have e2 : repoS r = true → ¬ (0 ≤ atL r.heads n ∨ repoS ⟨r.commits, hSet r.heads n at_⟩ = false) → repoBranchS r n at_ = (⟨r.commits, hSet r.heads n at_⟩, true) := fun h h2 => by unfold repoBranchS; rw [if_pos h, if_neg h2]
  refine ⟨by omega, fun h => by rw [e0 h]; exact ⟨⟨rfl, rfl⟩, rfl⟩, fun h => ⟨ha, r, n, at_, ⟨⟨rfl, rfl⟩, rfl, rfl⟩, h3, r, n, ⟨⟨rfl, rfl⟩, rfl⟩, fun hq => ⟨ha, by rw [e1 h (.inl hq)]; exact ⟨⟨rfl, rfl⟩, rfl⟩⟩, fun hq => ⟨by omega, fun ho => ⟨ha, by rw [e1 h (.inr ho)]; exact ⟨⟨rfl, rfl⟩, rfl⟩⟩, fun ho => ?_⟩⟩⟩
  rw [e2 h (by rintro (q | q); omega; rw [ho] at q; cases q)]; exact ⟨⟨rfl, rfl⟩, rfl⟩
def comC (r : RepoD) (n who : Str) (t : List FileD) : CommitD := ⟨if 0 ≤ atL r.heads n then [atL r.heads n] else [], who, t⟩
def repoCommitS (r : RepoD) (n who : Str) (t : List FileD) : RepoD × Bool := if repoS r then (if repoS (addR r n (comC r n who t)) then (addR r n (comC r n who t), true) else (r, false)) else (⟨[], []⟩, false)
def cRepoCommit : Con := .fn 40 (RepoD × Str × Str × List FileD) (fun a => [vRepo a.1, .str a.2.1, .str a.2.2.1, .sl true 2 (eFiles a.2.2.2)]) (fun a => rpSz a.1 ∧ a.2.2.2.length ≤ 1048576 ∧ ∀ f ∈ a.2.2.2, f.text.length ≤ 1048576) (fun a => .tup [.agg [.sl false 3 (eCommits (repoCommitS a.1 a.2.1 a.2.2.1 a.2.2.2).1.commits), .sl false 2 (eHeads (repoCommitS a.1 a.2.1 a.2.2.1 a.2.2.2).1.heads)], .bool (repoCommitS a.1 a.2.1 a.2.2.1 a.2.2.2).2]) (fun _ => [])
theorem repoCommit_has : Has Tryz.prog 276 cRepoCommit := by
  refine has_walk mixed tTab_ok (l := [(82, cL7Ok), (209, cL4Copy), (124, cL7At), (127, cL7Copy), (182, cL7Add)]) (HasL.cons l7Ok_has (HasL.cons l4Copy_has (HasL.cons l7At_has (HasL.cons l7Copy_has (HasL.cons l7Add_has HasL.nil))))) [0, 1, 2, 3, 4, 8, 9, 10, 11] ((fun a n (_ : Nat) => (fun _ => noInv) a n)) [] Tryz.func276 (by kernel_rfl) (code := _) (by unfold Tryz.f276; rfl) (by kernel_rfl) (by decide) (fun _ => ⟨(), trivial⟩) (by intro h; first | exact fun _ => rfl | cases h) (by kernel_rfl) ?_
  intro a ha
  obtain ⟨r, n, who, t⟩ := a
  obtain ⟨ha, h4, h5⟩ : rpSz r ∧ t.length ≤ 1048576 ∧ ∀ f ∈ t, f.text.length ≤ 1048576 := ha
  have ha2 := ha
  obtain ⟨h1, h2, h3⟩ : r.commits.length ≤ 1048576 ∧ (∀ c ∈ r.commits, cmSz c) ∧ r.heads.length ≤ 1048576 := ha2
  simp -implicitDefEqProofs [cRepoCommit, cL7Ok, cL7Copy, cL7Add, cL7At, cL4Copy, Con.fn, tTab, bRepo_def]
  try dsimp only
  have e0 : repoS r = false → repoCommitS r n who t = (⟨[], []⟩, false) := fun h => by unfold repoCommitS; rw [if_neg (by simp -implicitDefEqProofs [h])]
  have e1 : repoS r = true → repoS (addR r n (comC r n who t)) = false → repoCommitS r n who t = (r, false) := fun h h2 => by unfold repoCommitS; rw [if_pos h, if_neg (by simp -implicitDefEqProofs [h2])]
  have e2 : repoS r = true → repoS (addR r n (comC r n who t)) = true → repoCommitS r n who t = (addR r n (comC r n who t), true) := fun h h2 => by unfold repoCommitS; rw [if_pos h, if_pos h2]
  have hl : ∀ c, (addR r n c).commits.length ≤ 1073741824 := fun c => by simp -implicitDefEqProofs [addR]; omega
  refine ⟨by omega, fun h => by rw [e0 h]; exact ⟨⟨rfl, rfl⟩, rfl⟩, fun h => ⟨⟨h4, h5⟩, r, n, ⟨⟨rfl, rfl⟩, rfl⟩, fun hq => ?_, fun hq => ?_⟩⟩
  · have hc : comC r n who t = ⟨[atL r.heads n], who, t⟩ := by unfold comC; rw [if_pos hq]
    rw [hc] at e1 e2
    refine ⟨r, n, ⟨⟨rfl, rfl⟩, rfl⟩, ha, r, n, ⟨[atL r.heads n], who, t⟩, ⟨⟨rfl, rfl⟩, rfl, rfl, rfl, rfl⟩, ⟨h1, h3⟩, hl _, fun ho => ⟨ha, by rw [e1 h ho]; exact ⟨⟨rfl, rfl⟩, rfl⟩⟩, fun ho => by rw [e2 h ho]; exact ⟨⟨rfl, rfl⟩, rfl⟩⟩
  · have hc : comC r n who t = ⟨[], who, t⟩ := by unfold comC; rw [if_neg (by omega)]
    rw [hc] at e1 e2
    refine ⟨ha, r, n, ⟨[], who, t⟩, ⟨⟨rfl, rfl⟩, rfl, rfl, rfl, rfl⟩, ⟨h1, h3⟩, hl _, fun ho => ⟨ha, by rw [e1 h ho]; exact ⟨⟨rfl, rfl⟩, rfl⟩⟩, fun ho => by rw [e2 h ho]; exact ⟨⟨rfl, rfl⟩, rfl⟩⟩
end Vx
end Go.Proofs.YtnanellmaelipaaGreatDoor
namespace Go.Proofs.YtnanellmaelipaaGreatDoor
set_option maxHeartbeats 4000000
namespace Vx
open Go.RowKit
set_option maxRecDepth 8000
def treeDropS (t : List FileD) (p : Str) : List FileD × Bool := if treeS t then (filB (dropB p) t, decide ((filB (dropB p) t).length < t.length)) else ([], false)
def cTreeDropS : Con := .fn 20 (List FileD × Str) (fun a => [.sl true 2 (eFiles a.1), .str a.2]) (fun a => a.1.length ≤ 1048576 ∧ ∀ f ∈ a.1, f.text.length ≤ 1048576) (fun a => .tup [.sl false 2 (eFiles (treeDropS a.1 a.2).1), .bool (treeDropS a.1 a.2).2]) (fun _ => [])
theorem treeDropS_has : Has Tryz.prog 249 cTreeDropS := by
  refine has_walk mixed tTab_ok (l := [(110, cL4Ok), (209, cL4Copy), (277, cL4Drop)]) (HasL.cons l4Ok_has (HasL.cons l4Copy_has (HasL.cons l4Drop_has HasL.nil))) [0, 1, 4, 5, 6] ((fun a n (_ : Nat) => (fun _ => noInv) a n)) [] Tryz.func249 (by kernel_rfl) (code := _) (by unfold Tryz.f249; rfl) (by kernel_rfl) (by decide) (fun _ => ⟨(), trivial⟩) (by intro h; first | exact fun _ => rfl | cases h) (by kernel_rfl) ?_
  intro a ha
  obtain ⟨t, p⟩ := a
  obtain ⟨h1, h2⟩ : t.length ≤ 1048576 ∧ ∀ f ∈ t, f.text.length ≤ 1048576 := ha
  simp -implicitDefEqProofs [cTreeDropS, cL4Ok, cL4Copy, cL4Drop, Con.fn, tTab]
  try dsimp only
  refine ⟨fun h => by unfold treeDropS; rw [if_neg (by simp -implicitDefEqProofs [h])]; exact ⟨rfl, rfl⟩, fun h => ⟨⟨h1, h2⟩, t, p, ⟨rfl, rfl⟩, h1, fun _ _ => by unfold treeDropS; rw [if_pos h]; exact ⟨rfl, rfl⟩⟩⟩
def mvHit (p : Str) (f : FileD) : Bool := decide (f.path = p) || inB p f.path
def mvStep (p to : Str) (o : List FileD) (f : FileD) : List FileD := if mvHit p f then setS o ⟨to ++ f.path.drop p.length, f.text⟩ else o
def mvFs (p to : Str) (o : List FileD) (t : List FileD) : List FileD := t.foldl (mvStep p to) o
theorem mvFs_succ {p to : Str} {o t : List FileD} {i : Nat} (h : i < t.length) : mvFs p to o (t.take (i + 1)) = mvStep p to (mvFs p to o (t.take i)) t[i] := by
  unfold mvFs
  rw [take_succ' h, List.foldl_append]; rfl
theorem mvFs_len (p to : Str) (o t : List FileD) : (mvFs p to o t).length ≤ o.length + t.length := by
  unfold mvFs
  induction t generalizing o with
  | nil => simp
  | cons f t ih =>
    have h1 := ih (mvStep p to o f)
    have h2 : (mvStep p to o f).length ≤ o.length + 1 := by
      unfold mvStep
      split
      · exact setS_len _ _
      · omega
    simp only [List.foldl_cons, List.length_cons]
    omega
theorem inB_len {p q : Str} (h : inB p q = true) : p.length < q.length := by
  unfold inB at h
  simp only [Bool.and_eq_true, decide_eq_true_eq] at h
  omega
def treeMoveS (t : List FileD) (p to : Str) : List FileD × Bool :=
  if treeS t then
    (if (filB (dropB p) t).length = t.length ∨ pathS to = false then (t, false)
    else if treeS (mvFs p to (filB (dropB p) t) t) = false ∨ ¬ (mvFs p to (filB (dropB p) t) t).length = t.length then (t, false)
    else (mvFs p to (filB (dropB p) t) t, true))
  else ([], false)
def mvO (t : List FileD) (p to : Str) : Inv := ⟨Nat, fun i => ⟨[(0, true, .sl true 2 (eFiles t)), (1, true, .str p), (2, true, .str to), (6, true, .nil), (7, true, .bool false), (8, true, .sl false 2 (eFiles (mvFs p to (filB (dropB p) t) (t.take i)))), (9, true, .int .i64 t.length), (10, true, .int .i64 i)], []⟩, fun i => i ≤ t.length ∧ treeS t = true, fun i => t.length - i⟩
def cTreeMoveS : Con := .fn 84 (List FileD × Str × Str) (fun a => [.sl true 2 (eFiles a.1), .str a.2.1, .str a.2.2]) (fun a => a.1.length ≤ 1048576 ∧ (∀ f ∈ a.1, f.text.length ≤ 1048576) ∧ a.2.2.length ≤ 1048576 ∧ ∀ f ∈ a.1, f.path.length ≤ 1048576) (fun a => .tup [.sl false 2 (eFiles (treeMoveS a.1 a.2.1 a.2.2).1), .bool (treeMoveS a.1 a.2.1 a.2.2).2]) (fun _ => [])
theorem treeMoveS_has : Has Tryz.prog 250 cTreeMoveS := by
  refine has_walk mixed tTab_ok (l := [(110, cL4Ok), (209, cL4Copy), (277, cL4Drop), (164, cL4Path), (166, cL4In), (275, cL4Set)]) (HasL.cons l4Ok_has (HasL.cons l4Copy_has (HasL.cons l4Drop_has (HasL.cons l4Path_has (HasL.cons l4In_has (HasL.cons l4Set_has HasL.nil)))))) [0, 1, 2, 6, 7, 8, 9, 10] ((fun a n (_ : Nat) => (fun a _ => mvO a.1 a.2.1 a.2.2) a n)) [] Tryz.func250 (by kernel_rfl) (code := _) (by unfold Tryz.f250; rfl) (by kernel_rfl) (by decide) (fun _ => ⟨(), trivial⟩) (by intro h; first | exact fun _ => rfl | cases h) (by kernel_rfl) ?_
  intro a ha
  obtain ⟨t, p, to⟩ := a
  obtain ⟨h1, h2, h3, h4⟩ : t.length ≤ 1048576 ∧ (∀ f ∈ t, f.text.length ≤ 1048576) ∧ to.length ≤ 1048576 ∧ ∀ f ∈ t, f.path.length ≤ 1048576 := ha
  simp -implicitDefEqProofs [cTreeMoveS, cL4Ok, cL4Copy, cL4Drop, cL4Path, cL4In, cL4Set, Con.fn, tTab, mvO]
  try dsimp only
  have e0 : treeS t = false → treeMoveS t p to = ([], false) := fun h => by unfold treeMoveS; rw [if_neg (by simp -implicitDefEqProofs [h])]
  have e1 : treeS t = true → ((filB (dropB p) t).length = t.length ∨ pathS to = false) → treeMoveS t p to = (t, false) := fun h q => by unfold treeMoveS; rw [if_pos h, if_pos q]
  have e2 : treeS t = true → ¬ ((filB (dropB p) t).length = t.length ∨ pathS to = false) → (treeS (mvFs p to (filB (dropB p) t) t) = false ∨ ¬ (mvFs p to (filB (dropB p) t) t).length = t.length) → treeMoveS t p to = (t, false) := fun h q w => by unfold treeMoveS; rw [if_pos h, if_neg q, if_pos w]
  have e3 : treeS t = true → ¬ ((filB (dropB p) t).length = t.length ∨ pathS to = false) → ¬ (treeS (mvFs p to (filB (dropB p) t) t) = false ∨ ¬ (mvFs p to (filB (dropB p) t) t).length = t.length) → treeMoveS t p to = (mvFs p to (filB (dropB p) t) t, true) := fun h q w => by unfold treeMoveS; rw [if_pos h, if_neg q, if_neg w]
  refine ⟨fun h => by rw [e0 h]; exact ⟨rfl, rfl⟩, fun h => ⟨⟨h1, h2⟩, t, p, ⟨rfl, rfl⟩, h1, fun _ _ => ⟨fun q => ⟨⟨h1, h2⟩, by rw [e1 h (.inl (by omega))]; exact ⟨rfl, rfl⟩⟩, fun q => ⟨fun w => ⟨⟨h1, h2⟩, by rw [e1 h (.inr w)]; exact ⟨rfl, rfl⟩⟩, fun w _ => ⟨⟨0, ⟨by simp -implicitDefEqProofs [mvFs], rfl⟩, Nat.zero_le _, h⟩, fun i hi _ _ => ⟨fun hlt => ?_, fun hge => ?_⟩⟩⟩⟩⟩⟩
  · have g := mvFs_succ (p := p) (to := to) (o := filB (dropB p) t) hlt
    have h8 := (treeS_le t h).1
    have gl := mvFs_len p to (filB (dropB p) t) (t.take i)
    have gf := List.length_filter_le (dropB p) t
    have gf : (filB (dropB p) t).length ≤ t.length := gf
    have gt : (t.take i).length ≤ t.length := by simp; omega
    have gp := h4 _ (List.getElem_mem hlt)
    have gx := h2 _ (List.getElem_mem hlt)
    have gi := @inB_len p t[i].path
    clear e0 e1 e2 e3
    generalize mvFs p to (filB (dropB p) t) (t.take i) = X at g gl ⊢
    simp -implicitDefEqProofs [hlt, eFile, D.asStr, D.asRows, and_assoc]
    have gtk : List.take (List.length t[i].path - List.length p) (List.drop (List.length p) t[i].path) = t[i].path.drop p.length := List.take_of_length_le (by simp)
    rw [gtk]
    have hm : maxLen = 9223372036854775807 := rfl
    refine ⟨fun e => ⟨by rw [e]; omega, fun _ => ⟨by omega, fun _ => ⟨by omega, gx, by omega, by omega, fun _ _ => ⟨i + 1, ?_, by omega, by omega, h, by omega⟩⟩⟩⟩,
      fun e => ⟨fun c => ⟨by have := gi c; omega, fun _ => ⟨by omega, fun _ => ⟨by omega, gx, by omega, by omega, fun _ _ => ⟨i + 1, ?_, by omega, by omega, h, by omega⟩⟩⟩⟩, fun c => ⟨by omega, by omega, fun _ _ => ⟨i + 1, ?_, by omega, by omega, h, by omega⟩⟩⟩⟩
    · rw [g]; unfold mvStep; rw [if_pos (by simp -implicitDefEqProofs [mvHit, e])]
    · rw [g]; unfold mvStep; rw [if_pos (by simp -implicitDefEqProofs [mvHit, c])]
    · rw [g]; unfold mvStep; rw [if_neg (by simp -implicitDefEqProofs [mvHit, c, e])]
  · rw [List.take_of_length_le hge]
    have hn : ¬ ((filB (dropB p) t).length = t.length ∨ pathS to = false) := by rintro (c | c); omega; rw [w] at c; cases c
    have e2 := e2 h hn
    have e3 := e3 h hn
    generalize mvFs p to (filB (dropB p) t) t = X at e2 e3 ⊢
    refine ⟨fun c => ⟨⟨h1, h2⟩, by rw [e2 (.inl c)]; exact ⟨rfl, rfl⟩⟩, fun c _ => ⟨fun d => ⟨⟨h1, h2⟩, by rw [e2 (.inr (by omega))]; exact ⟨rfl, rfl⟩⟩, fun d => ?_⟩⟩
    rw [e3 (by rintro (k | k); rw [c] at k; cases k; omega)]; exact ⟨rfl, rfl⟩
end Vx
end Go.Proofs.YtnanellmaelipaaGreatDoor
namespace Go.Proofs.YtnanellmaelipaaGreatDoor
namespace Vx
open Go.RowKit
theorem less_trans {a b c : Str} (h : Go.Op.bytesLess a b = true) (h' : Go.Op.bytesLess b c = true) : Go.Op.bytesLess a c = true := by
  rw [less_eq, decide_eq_true_eq] at *
  exact List.lt_trans h h'
theorem less_irrefl (a : Str) : Go.Op.bytesLess a a = false := by
  rw [less_eq, decide_eq_false_iff_not]
  exact List.lt_irrefl a
end Vx
end Go.Proofs.YtnanellmaelipaaGreatDoor
namespace Go.Proofs.YtnanellmaelipaaGreatDoor
namespace Vx
open Go.RowKit
set_option maxRecDepth 8000
def putS : List Str → Str → List Str
  | [], s => [s]
  | x :: l, s => if Go.Op.bytesLess x s then x :: putS l s else if x = s then x :: l else s :: x :: l
theorem putS_len (l : List Str) (s : Str) : (putS l s).length ≤ l.length + 1 := by
  induction l with
  | nil => simp -implicitDefEqProofs [putS]
  | cons x l ih =>
    unfold putS
    split
    · simp; omega
    · split <;> simp
theorem putS_step {l : List Str} {s : Str} {k : Nat} (h : k < l.length) (hp : l.take k ++ putS (l.drop k) s = putS l s) (hl : Go.Op.bytesLess l[k] s = true) : l.take (k + 1) ++ putS (l.drop (k + 1)) s = putS l s := by
  rw [List.drop_eq_getElem_cons h, putS, if_pos hl] at hp
  rw [take_succ' h, List.append_assoc]
  exact hp
theorem putS_end {l : List Str} {s : Str} {k : Nat} (h : l.length ≤ k) (hp : l.take k ++ putS (l.drop k) s = putS l s) : putS l s = l.take k ++ [s] ++ l.drop k := by
  rw [List.drop_eq_nil_of_le h] at hp ⊢
  rw [← hp]; simp -implicitDefEqProofs [putS]
theorem putS_eq {l : List Str} {s : Str} {k : Nat} (h : k < l.length) (hp : l.take k ++ putS (l.drop k) s = putS l s) (hl : Go.Op.bytesLess l[k] s = false) (he : l[k] = s) : putS l s = l := by
  rw [List.drop_eq_getElem_cons h, putS, if_neg (by simp -implicitDefEqProofs [hl]), if_pos he, ← List.drop_eq_getElem_cons h, List.take_append_drop] at hp
  exact hp.symm
theorem putS_ne {l : List Str} {s : Str} {k : Nat} (h : k < l.length) (hp : l.take k ++ putS (l.drop k) s = putS l s) (hl : Go.Op.bytesLess l[k] s = false) (he : ¬ l[k] = s) : putS l s = l.take k ++ [s] ++ l.drop k := by
  rw [List.drop_eq_getElem_cons h, putS, if_neg (by simp -implicitDefEqProofs [hl]), if_neg he, ← List.drop_eq_getElem_cons h] at hp
  rw [← hp]; simp
def putFs (l : List Str) (t : List FileD) : List Str := t.foldl (fun l f => putS l f.path) l
theorem putFs_succ {l : List Str} {t : List FileD} {i : Nat} (h : i < t.length) : putFs l (t.take (i + 1)) = putS (putFs l (t.take i)) t[i].path := by
  unfold putFs
  rw [take_succ' h, List.foldl_append]; rfl
theorem putFs_len (t : List FileD) : ∀ l, (putFs l t).length ≤ l.length + t.length := by
  induction t with
  | nil => intro l; simp -implicitDefEqProofs [putFs]
  | cons f t ih =>
    intro l
    have h1 := ih (putS l f.path)
    have h2 := putS_len l f.path
    show (putFs (putS l f.path) t).length ≤ _
    simp only [List.length_cons]
    omega
def paths6 (o a b : List FileD) : List Str := putFs (putFs (putFs [] o) a) b
theorem paths6_len (o a b : List FileD) : (paths6 o a b).length ≤ o.length + a.length + b.length := by
  have h1 := putFs_len b (putFs (putFs [] o) a)
  have h2 := putFs_len a (putFs [] o)
  have h3 := putFs_len o []
  simp at h3
  show (putFs (putFs (putFs [] o) a) b).length ≤ _
  omega
def same6 (a b : List Str × Bool) : Bool := decide (a.2 = b.2) && (!a.2 || decide (a.1 = b.1))
def one6 (o a b : List FileD) (p : Str) : List Str × Bool × Int :=
  if same6 (getL a p) (getL o p) || same6 (getL a p) (getL b p) then ((getL b p).1, (getL b p).2, 0)
  else if same6 (getL b p) (getL o p) then ((getL a p).1, (getL a p).2, 0)
  else if !(getL a p).2 || !(getL b p).2 then ((getL o p).1, (getL o p).2, 1)
  else if !(getL o p).2 then ([], false, 2)
  else if (text3 (of3 (getL o p).1 (getL a p).1 (getL b p).1)).2 then ((text3 (of3 (getL o p).1 (getL a p).1 (getL b p).1)).1, true, 0)
  else ((getL o p).1, true, 3)
theorem getL_len {t : List FileD} {n : Nat} (h : ∀ f ∈ t, f.text.length ≤ n) (p : Str) : (getL t p).1.length ≤ n := by
  induction t with
  | nil => simp -implicitDefEqProofs [getL]
  | cons f t ih =>
    unfold getL
    split
    · exact h f (by simp)
    · exact ih fun g hg => h g (by simp -implicitDefEqProofs [hg])
theorem textB_len {t : List Str} (h : textB t = true) : t.length ≤ 10 := by
  unfold textB at h
  simp only [Bool.and_eq_true, decide_eq_true_eq] at h
  exact h.1
theorem text3_len (l : List PartD) : (text3 l).1.length ≤ 10 := by
  unfold text3
  split
  · simp
  · split
    · rename_i h; exact textB_len h
    · simp
theorem one6_len {o a b : List FileD} {p : Str} {n : Nat} (hn : 10 ≤ n) (ho : ∀ f ∈ o, f.text.length ≤ n) (ha : ∀ f ∈ a, f.text.length ≤ n) (hb : ∀ f ∈ b, f.text.length ≤ n) : (one6 o a b p).1.length ≤ n := by
  have h1 := getL_len ho p
  have h2 := getL_len ha p
  have h3 := getL_len hb p
  have h4 := text3_len (of3 (getL o p).1 (getL a p).1 (getL b p).1)
  unfold one6
  split
  · exact h3
  · split
    · exact h2
    · split
      · exact h1
      · split
        · simp
        · split
          · show (text3 _).1.length ≤ n; omega
          · exact h1
def stepJ (o a b : List FileD) (s : List FileD × List HeadD) (p : Str) : List FileD × List HeadD :=
  (if (one6 o a b p).2.1 then s.1 ++ [⟨p, (one6 o a b p).1⟩] else s.1, if 0 < (one6 o a b p).2.2 then s.2 ++ [⟨p, (one6 o a b p).2.2⟩] else s.2)
def runJ (o a b : List FileD) (l : List Str) : List FileD × List HeadD := l.foldl (stepJ o a b) ([], [])
theorem runJ_succ {o a b : List FileD} {l : List Str} {i : Nat} (h : i < l.length) : runJ o a b (l.take (i + 1)) = stepJ o a b (runJ o a b (l.take i)) l[i] := by
  unfold runJ
  rw [take_succ' h, List.foldl_append]; rfl
theorem runJ_len (o a b : List FileD) (l : List Str) : (runJ o a b l).1.length ≤ l.length ∧ (runJ o a b l).2.length ≤ l.length := by
  have : ∀ (l : List Str) (s : List FileD × List HeadD), (l.foldl (stepJ o a b) s).1.length ≤ s.1.length + l.length ∧ (l.foldl (stepJ o a b) s).2.length ≤ s.2.length + l.length := by
    intro l
    induction l with
    | nil => intro s; simp
    | cons p l ih =>
      intro s
      obtain ⟨h1, h2⟩ := ih (stepJ o a b s p)
      have h3 : (stepJ o a b s p).1.length ≤ s.1.length + 1 ∧ (stepJ o a b s p).2.length ≤ s.2.length + 1 := by
        unfold stepJ
        constructor
        · show (if _ then _ else _ : List FileD).length ≤ _
          split <;> simp
        · show (if _ then _ else _ : List HeadD).length ≤ _
          split <;> simp
      simp only [List.foldl_cons, List.length_cons]
      omega
  have := this l ([], [])
  simpa [runJ] using this
def of6 (o a b : List FileD) : List FileD × List HeadD := runJ o a b (paths6 o a b)
def join6 (o a b : List FileD) : List FileD × List HeadD := if (of6 o a b).2 = [] ∧ treeS (of6 o a b).1 = false then (o, [⟨[], 4⟩]) else of6 o a b
theorem join6_tree {o a b : List FileD} (h : (join6 o a b).2 = []) : treeS (join6 o a b).1 = true := by
  unfold join6 at h ⊢
  split
  · rename_i h2; rw [if_pos h2] at h; simp at h
  · rename_i h2
    rw [if_neg h2] at h
    cases hq : treeS (of6 o a b).1 with
    | true => rfl
    | false => exact absurd ⟨h, hq⟩ h2
def both8 (r : RepoD) (a b : Int) (i : Nat) : List Int := ((listT (anc r a)).take i).filter fun x => decide (x ∈ listT (anc r b))
def bestF (r : RepoD) (l : List Int) (i k : Nat) : Bool := (List.range k).all fun j => decide (j = i) || !decide (l.getD i 0 ∈ listT (anc r (l.getD j 0)))
def baseF (r : RepoD) (l : List Int) (i : Nat) : List Int := ((List.range i).filter fun j => bestF r l j l.length).map fun j => l.getD j 0
def bases8 (r : RepoD) (a b : Int) : List Int := baseF r (both8 r a b (listT (anc r a)).length) (both8 r a b (listT (anc r a)).length).length
def base9 (r : RepoD) (a b : Int) : List FileD := match (bases8 r a b).getLast? with
  | none => []
  | some c => treeAt r c
def noR : RepoD := ⟨[], []⟩
def unite9 (r : RepoD) (n w : Str) (b : Int) : RepoD × Int :=
  if b ∈ listT (anc r (atL r.heads n)) then (r, 2)
  else if atL r.heads n ∈ listT (anc r b) then (⟨r.commits, hSet r.heads n b⟩, 3)
  else if (join6 (base9 r (atL r.heads n) b) (treeAt r (atL r.heads n)) (treeAt r b)).2 = [] then
    (if repoS (addR r n ⟨[atL r.heads n, b], w, (join6 (base9 r (atL r.heads n) b) (treeAt r (atL r.heads n)) (treeAt r b)).1⟩) then
      (addR r n ⟨[atL r.heads n, b], w, (join6 (base9 r (atL r.heads n) b) (treeAt r (atL r.heads n)) (treeAt r b)).1⟩, 0) else (r, 5))
  else (r, 4)
def uniteS (r : RepoD) (n w : Str) (b : Int) : RepoD × Int :=
  if repoS r then (if atL r.heads n < 0 ∨ nameB w = false ∨ ¬ (0 ≤ b ∧ b < r.commits.length) then (r, 1) else unite9 r n w b) else (noR, 1)
def ahead10 (r : RepoD) (c : Int) : List FileD := match (r.commits.getD c.toNat default).parents with
  | [] => []
  | p :: _ => treeAt r p
def put10 (r : RepoD) (n w : Str) (o b : List FileD) : RepoD × Int :=
  if (join6 o (treeAt r (atL r.heads n)) b).2 = [] then
    (if repoS (addR r n ⟨[atL r.heads n], w, (join6 o (treeAt r (atL r.heads n)) b).1⟩) then (addR r n ⟨[atL r.heads n], w, (join6 o (treeAt r (atL r.heads n)) b).1⟩, 0) else (r, 5))
  else (r, 4)
def pickS (back : Bool) (r : RepoD) (n w : Str) (c : Int) : RepoD × Int :=
  if repoS r then (if atL r.heads n < 0 ∨ nameB w = false ∨ ¬ (0 ≤ c ∧ c < r.commits.length) then (r, 1)
    else if back then put10 r n w (treeAt r c) (ahead10 r c) else put10 r n w (ahead10 r c) (treeAt r c)) else (noR, 1)
theorem heads_pw : ∀ {l : List HeadD}, (∀ i, 0 < i → i < l.length → Go.Op.bytesLess (l.getD (i - 1) default).name (l.getD i default).name = true) → l.Pairwise fun a b => Go.Op.bytesLess a.name b.name = true
  | [], _ => .nil
  | [x], _ => by simp
  | x :: y :: t, h => by
    have ih := heads_pw (l := y :: t) fun i h1 h2 => by
      have := h (i + 1) (by omega) (by simp only [List.length_cons] at h2 ⊢; omega)
      rw [show i + 1 - 1 = (i - 1) + 1 by omega, List.getD_cons_succ, List.getD_cons_succ] at this
      exact this
    have hxy := h 1 (by omega) (by simp)
    have hxy : Go.Op.bytesLess x.name y.name = true := by simpa using hxy
    refine List.pairwise_cons.2 ⟨fun z hz => ?_, ih⟩
    rcases List.mem_cons.1 hz with rfl | hz
    · exact hxy
    · exact less_trans hxy ((List.pairwise_cons.1 ih).1 z hz)
theorem hL_true (n : Str) (a : Int) : ∀ (l X : List HeadD), l.foldl (hStep n a) (X, true) = (X ++ l.filter (fun g => decide (g.name ≠ n)), true)
  | [], X => by simp
  | g :: l, X => by
    rw [List.foldl_cons]
    by_cases h : g.name = n
    · have e : hStep n a (X, true) g = (X, true) := by unfold hStep; simp -implicitDefEqProofs [h]
      rw [e, hL_true n a l X]; simp -implicitDefEqProofs [h]
    · have e : hStep n a (X, true) g = (X ++ [g], true) := by unfold hStep; simp -implicitDefEqProofs [h]
      rw [e, hL_true n a l (X ++ [g])]; simp -implicitDefEqProofs [h]
def hAt (n : Str) (a : Int) (h : HeadD) : HeadD := if h.name = n then ⟨n, a⟩ else h
theorem hL_sorted (n : Str) (a : Int) : ∀ (l X : List HeadD), (l.Pairwise fun a b => Go.Op.bytesLess a.name b.name = true) → (∃ h ∈ l, h.name = n) → l.foldl (hStep n a) (X, false) = (X ++ l.map (hAt n a), true)
  | [], X, _, h => by obtain ⟨_, h, _⟩ := h; simp at h
  | g :: l, X, hp, hn => by
    obtain ⟨hp1, hp2⟩ := List.pairwise_cons.1 hp
    rw [List.foldl_cons]
    by_cases h : g.name = n
    · have e : hStep n a (X, false) g = (X ++ [⟨n, a⟩], true) := by unfold hStep; simp -implicitDefEqProofs [h, less_irrefl]
      have hne : ∀ z ∈ l, ¬ z.name = n := fun z hz hc => by
        have := hp1 z hz
        rw [h, hc, less_irrefl] at this
        cases this
      have e2 : l.filter (fun g => decide (g.name ≠ n)) = l := by rw [List.filter_eq_self]; intro z hz; simp -implicitDefEqProofs [hne z hz]
      have e3 : l.map (hAt n a) = l := by
        have : l.map (hAt n a) = l.map id := List.map_congr_left fun z hz => by simp -implicitDefEqProofs [hAt, hne z hz]
        rw [this]; simp
      rw [e, hL_true, e2]; simp -implicitDefEqProofs [e3, hAt, h]
    · obtain ⟨z, hz, hzn⟩ := hn
      have hz : z ∈ l := by
        rcases List.mem_cons.1 hz with rfl | hz
        · exact absurd hzn h
        · exact hz
      have hl : Go.Op.bytesLess g.name n = true := by rw [← hzn]; exact hp1 z hz
      have e : hStep n a (X, false) g = (X ++ [g], false) := by unfold hStep; simp -implicitDefEqProofs [h, hl]
      rw [e, hL_sorted n a l (X ++ [g]) hp2 ⟨z, hz, hzn⟩]; simp -implicitDefEqProofs [hAt, h]
theorem hSet_map {l : List HeadD} {n : Str} {a : Int} (hl : ∀ i, 0 < i → i < l.length → Go.Op.bytesLess (l.getD (i - 1) default).name (l.getD i default).name = true) (hn : ∃ h ∈ l, h.name = n) :
    hSet l n a = l.map (hAt n a) := by
  unfold hSet hL
  rw [hL_sorted n a l [] (heads_pw hl) hn]
  simp
theorem atL_mem {l : List HeadD} {n : Str} (h : 0 ≤ atL l n) : ∃ h ∈ l, h.name = n := by
  induction l with
  | nil => simp -implicitDefEqProofs [atL] at h
  | cons g l ih =>
    unfold atL at h
    split at h
    · rename_i e; exact ⟨g, by simp, e⟩
    · obtain ⟨x, h1, h2⟩ := ih h; exact ⟨x, by simp -implicitDefEqProofs [h1], h2⟩
theorem atL_le {l : List HeadD} {n : Str} {k : Nat} (hl : headsB k l = true) : atL l n < k ∧ -1 ≤ atL l n ∨ atL l n = -1 := by
  have h2 := ((headsB_iff _ _).1 hl).2
  have : ∀ (l' : List HeadD), (∀ h ∈ l', 0 ≤ h.at_ ∧ h.at_ < k) → atL l' n < k ∧ -1 ≤ atL l' n ∨ atL l' n = -1 := by
    intro l'
    induction l' with
    | nil => intro _; right; rfl
    | cons g l' ih =>
      intro h
      unfold atL
      split
      · left; have := h g (by simp); omega
      · exact ih fun x hx => h x (by simp -implicitDefEqProofs [hx])
  refine this l fun h hh => ?_
  obtain ⟨i, hi, rfl⟩ := List.getElem_of_mem hh
  have := h2 i hi
  simp only [okHd, inN, List.getD_eq_getElem?_getD, List.getElem?_eq_getElem hi, Option.getD_some, Bool.and_eq_true, decide_eq_true_eq] at this
  omega
theorem headsB_set {k : Nat} {l : List HeadD} {n : Str} {b : Int} (h : headsB k l = true) (hn : 0 ≤ atL l n) (hb : 0 ≤ b ∧ b < k) : headsB k (hSet l n b) = true := by
  obtain ⟨h1, h2⟩ := (headsB_iff _ _).1 h
  have hg : ∀ i (hi : i < l.length), l.getD i default = l[i] := fun i hi => by simp -implicitDefEqProofs [List.getD_eq_getElem?_getD, hi]
  rw [hSet_map (fun i h3 h4 => by
    have := h2 i h4
    unfold okHd at this
    simp only [Bool.and_eq_true, Bool.or_eq_true, decide_eq_true_eq] at this
    rcases this.2 with h5 | h5
    · omega
    · exact h5) (atL_mem hn), headsB_iff]
  have hm : ∀ i (hi : i < l.length), (l.map (hAt n b)).getD i default = hAt n b l[i] := fun i hi => by simp -implicitDefEqProofs [List.getD_eq_getElem?_getD, hi]
  have hname : ∀ g : HeadD, (hAt n b g).name = g.name := fun g => by unfold hAt; split <;> simp_all
  refine ⟨by simpa using h1, fun i hi => ?_⟩
  have hi : i < l.length := by simpa using hi
  have h3 := h2 i hi
  unfold okHd at h3 ⊢
  rw [hm i hi, hname]
  rw [hg i hi] at h3
  have hat : inN k (hAt n b l[i]).at_ = true := by
    simp only [Bool.and_eq_true] at h3
    unfold hAt
    split
    · simp only [inN, Bool.and_eq_true, decide_eq_true_eq]; omega
    · exact h3.1.2
  rw [hat]
  rcases Nat.eq_zero_or_pos i with h0 | h0
  · subst h0
    simp only [Bool.and_eq_true] at h3
    simp -implicitDefEqProofs [h3.1.1]
  · rw [hm (i - 1) (by omega), hname]
    rw [hg (i - 1) (by omega)] at h3
    simp only [Bool.and_eq_true] at h3 ⊢
    exact ⟨⟨h3.1.1, trivial⟩, h3.2⟩
theorem repoS_heads {r : RepoD} {n : Str} {b : Int} (h : repoS r = true) (hn : 0 ≤ atL r.heads n) (hb : 0 ≤ b ∧ b < r.commits.length) : repoS ⟨r.commits, hSet r.heads n b⟩ = true := by
  obtain ⟨h1, h2, h3⟩ := (repoS_iff r).1 h
  exact (repoS_iff _).2 ⟨h1, headsB_set h2 hn hb, h3⟩
theorem hSet_ne (l : List HeadD) (n : Str) (a : Int) : hSet l n a ≠ [] := by
  have : ∀ (l : List HeadD) (s : List HeadD × Bool), (s.2 = true → s.1 ≠ []) → ((l.foldl (hStep n a) s).2 = true → (l.foldl (hStep n a) s).1 ≠ []) := by
    intro l
    induction l with
    | nil => intro s h; exact h
    | cons g l ih =>
      intro s h
      refine ih (hStep n a s g) ?_
      unfold hStep
      split
      · split <;> simp
      · split
        · exact h
        · simp
  unfold hSet
  split
  · rename_i h; exact this l ([], false) (by simp) h
  · simp
theorem unite9_ok {r : RepoD} {n w : Str} {b : Int} (h : repoS r = true) (hn : 0 ≤ atL r.heads n) (hb : 0 ≤ b ∧ b < r.commits.length) (hh : r.commits ≠ [] → r.heads ≠ []) :
    repoS (unite9 r n w b).1 = true ∧ ((unite9 r n w b).1.commits ≠ [] → (unite9 r n w b).1.heads ≠ []) := by
  unfold unite9
  split
  · exact ⟨h, hh⟩
  · split
    · exact ⟨repoS_heads h hn hb, fun _ => hSet_ne _ _ _⟩
    · split
      · split
        · rename_i q; exact ⟨q, fun _ => hSet_ne _ _ _⟩
        · exact ⟨h, hh⟩
      · exact ⟨h, hh⟩
theorem uniteS_ok {r : RepoD} {n w : Str} {b : Int} (h : repoS r = true) (hh : r.commits ≠ [] → r.heads ≠ []) :
    repoS (uniteS r n w b).1 = true ∧ ((uniteS r n w b).1.commits ≠ [] → (uniteS r n w b).1.heads ≠ []) := by
  unfold uniteS
  rw [if_pos h]
  split
  · exact ⟨h, hh⟩
  · rename_i q
    exact unite9_ok h (by omega) (by omega) hh
theorem put10_ok {r : RepoD} {n w : Str} {o b : List FileD} (h : repoS r = true) (hh : r.commits ≠ [] → r.heads ≠ []) :
    repoS (put10 r n w o b).1 = true ∧ ((put10 r n w o b).1.commits ≠ [] → (put10 r n w o b).1.heads ≠ []) := by
  unfold put10
  split
  · split
    · rename_i q; exact ⟨q, fun _ => hSet_ne _ _ _⟩
    · exact ⟨h, hh⟩
  · exact ⟨h, hh⟩
theorem pickS_ok {k : Bool} {r : RepoD} {n w : Str} {c : Int} (h : repoS r = true) (hh : r.commits ≠ [] → r.heads ≠ []) :
    repoS (pickS k r n w c).1 = true ∧ ((pickS k r n w c).1.commits ≠ [] → (pickS k r n w c).1.heads ≠ []) := by
  unfold pickS
  rw [if_pos h]
  split
  · exact ⟨h, hh⟩
  · split
    · exact put10_ok h hh
    · exact put10_ok h hh
end Vx
end Go.Proofs.YtnanellmaelipaaGreatDoor
namespace Go.Proofs.YtnanellmaelipaaGreatDoor
set_option maxHeartbeats 4000000
namespace Vx
open Go.RowKit
set_option maxRecDepth 8000
def cL6Same : Con := .fn 21 ((List Str × Bool) × (List Str × Bool)) (fun a => [.sl true 1 (eStrs a.1.1), .bool a.1.2, .sl true 1 (eStrs a.2.1), .bool a.2.2]) (fun _ => True) (fun a => .bool (same6 a.1 a.2)) (fun _ => [])
theorem l6Same_has : Has Tryz.prog 270 cL6Same := by
  refine has_walk mixed tTab_ok (l := [(236, cL1Same)]) (HasL.cons l1Same_has HasL.nil) [0, 1, 2, 3, 8] ((fun a n (_ : Nat) => (fun _ => noInv) a n)) [] Tryz.func270 (by kernel_rfl) (code := _) (by unfold Tryz.f270; rfl) (by kernel_rfl) (by decide) (fun _ => ⟨(), trivial⟩) (by intro h; first | exact fun _ => rfl | cases h) (by kernel_rfl) ?_
  intro a _
  obtain ⟨⟨x, i⟩, y, j⟩ := a
  simp -implicitDefEqProofs [cL6Same, cL1Same, Con.fn, tTab]
  try dsimp only
  cases i <;> cases j <;> simp -implicitDefEqProofs [same6, and_assoc]
theorem of3_bd (o a b : List Str) : (of3 o a b).length ≤ 2 * (o.length + 1) ∧ ∀ q ∈ of3 o a b, q.lines.length ≤ o.length + a.length + b.length + 3 := by
  obtain ⟨h1, h2, h3, h4, h5, h6, h7⟩ := ok3_run o a b (o.length + 1) (Nat.le_refl _)
  exact ⟨h6, fun q hq => by have := h7 q hq; omega⟩
def cL6One : Con := .fn 82 (List FileD × List FileD × List FileD × Str) (fun a => [.sl true 2 (eFiles a.1), .sl true 2 (eFiles a.2.1), .sl true 2 (eFiles a.2.2.1), .str a.2.2.2]) (fun a => (∀ f ∈ a.1, f.text.length ≤ 64) ∧ (∀ f ∈ a.2.1, f.text.length ≤ 64) ∧ ∀ f ∈ a.2.2.1, f.text.length ≤ 64) (fun a => .tup [.sl false 1 (eStrs (one6 a.1 a.2.1 a.2.2.1 a.2.2.2).1), .bool (one6 a.1 a.2.1 a.2.2.1 a.2.2.2).2.1, .int .i64 (one6 a.1 a.2.1 a.2.2.1 a.2.2.2).2.2]) (fun _ => [])
theorem l6One_has : Has Tryz.prog 239 cL6One := by
  refine has_walk mixed tTab_ok (l := [(160, cL4Get), (270, cL6Same), (272, cL3Of), (271, cL3Text)]) (HasL.cons l4Get_has (HasL.cons l6Same_has (HasL.cons l3Of_has (HasL.cons l3Text_has HasL.nil)))) [0, 1, 2, 3, 8, 9, 10, 11, 12, 13, 14, 15, 16, 17, 18, 37] ((fun a n (_ : Nat) => (fun _ => noInv) a n)) [] Tryz.func239 (by kernel_rfl) (code := _) (by unfold Tryz.f239; rfl) (by kernel_rfl) (by decide) (fun _ => ⟨(), trivial⟩) (by intro h; first | exact fun _ => rfl | cases h) (by kernel_rfl) ?_
  intro a ha
  obtain ⟨o, a, b, p⟩ := a
  obtain ⟨h1, h2, h3⟩ : (∀ f ∈ o, f.text.length ≤ 64) ∧ (∀ f ∈ a, f.text.length ≤ 64) ∧ ∀ f ∈ b, f.text.length ≤ 64 := ha
  have g1 := getL_len h1 p
  have g2 := getL_len h2 p
  have g3 := getL_len h3 p
  simp (maxSteps := 8000000) -implicitDefEqProofs [-kStep_move, -Bool.exists_bool, cL6One, cL4Get, cL6Same, cL3Of, cL3Text, Con.fn, tTab]
  try dsimp only
  have so : ∀ x y : List Str × Bool, same6 (x.1, x.2) (y.1, y.2) = same6 x y := fun _ _ => rfl
  have ob := of3_bd (getL o p).1 (getL a p).1 (getL b p).1
  generalize hO : getL o p = O at *
  generalize hA : getL a p = A at *
  generalize hB : getL b p = B at *
  have e1 : (same6 A O = true ∨ same6 A B = true) → one6 o a b p = (B.1, B.2, 0) := fun h => by unfold one6; rw [hO, hA, hB]; rw [if_pos (by simpa using h)]
  have e2 : same6 A O = false → same6 A B = false → same6 B O = true → one6 o a b p = (A.1, A.2, 0) := fun h h' h2 => by unfold one6; rw [hO, hA, hB]; rw [if_neg (by simp -implicitDefEqProofs [h, h']), if_pos h2]
  have e3 : same6 A O = false → same6 A B = false → same6 B O = false → (A.2 = false ∨ B.2 = false) → one6 o a b p = (O.1, O.2, 1) := fun h h' h2 h3 => by unfold one6; rw [hO, hA, hB]; rw [if_neg (by simp -implicitDefEqProofs [h, h']), if_neg (by simp -implicitDefEqProofs [h2]), if_pos (by simpa using h3)]
  have e4 : same6 A O = false → same6 A B = false → same6 B O = false → A.2 = true → B.2 = true → O.2 = false → one6 o a b p = ([], false, 2) := fun h h' h2 h3 h4 h5 => by unfold one6; rw [hO, hA, hB]; rw [if_neg (by simp -implicitDefEqProofs [h, h']), if_neg (by simp -implicitDefEqProofs [h2]), if_neg (by simp -implicitDefEqProofs [h3, h4]), if_pos (by simp -implicitDefEqProofs [h5])]
  have e5 : same6 A O = false → same6 A B = false → same6 B O = false → A.2 = true → B.2 = true → O.2 = true → (text3 (of3 O.1 A.1 B.1)).2 = true → one6 o a b p = ((text3 (of3 O.1 A.1 B.1)).1, true, 0) := fun h h' h2 h3 h4 h5 h6 => by unfold one6; rw [hO, hA, hB]; rw [if_neg (by simp -implicitDefEqProofs [h, h']), if_neg (by simp -implicitDefEqProofs [h2]), if_neg (by simp -implicitDefEqProofs [h3, h4]), if_neg (by simp -implicitDefEqProofs [h5]), if_pos h6]
  have e6 : same6 A O = false → same6 A B = false → same6 B O = false → A.2 = true → B.2 = true → O.2 = true → (text3 (of3 O.1 A.1 B.1)).2 = false → one6 o a b p = (O.1, true, 3) := fun h h' h2 h3 h4 h5 h6 => by unfold one6; rw [hO, hA, hB]; rw [if_neg (by simp -implicitDefEqProofs [h, h']), if_neg (by simp -implicitDefEqProofs [h2]), if_neg (by simp -implicitDefEqProofs [h3, h4]), if_neg (by simp -implicitDefEqProofs [h5]), if_neg (by simp -implicitDefEqProofs [h6])]
  refine ⟨o, p, ⟨rfl, rfl⟩, a, p, ⟨rfl, rfl⟩, b, p, ⟨rfl, rfl⟩, ?_⟩
  rw [hO, hA, hB]
  refine ⟨_, _, _, _, ⟨rfl, rfl, rfl, rfl⟩, fun h => ⟨fun _ => ?_, fun h' => absurd (h.symm.trans h') (by decide)⟩, fun h => ⟨_, _, _, _, ⟨rfl, rfl, rfl, rfl⟩, fun h2 => ?_, fun h2 => ⟨_, _, _, _, ⟨rfl, rfl, rfl, rfl⟩, fun h3 => ?_, fun h3 => ⟨fun h4 => ?_, fun h4 h5 => ⟨fun h6 => ?_, fun h6 => ⟨_, _, _, ⟨rfl, rfl, rfl⟩, ⟨by omega, by omega, by omega⟩, ⟨by omega, fun q hq => by have := ob.2 q hq; omega⟩, ?_⟩⟩⟩⟩⟩⟩
  · rw [e1 (.inl h)]; exact ⟨rfl, rfl, rfl⟩
  · rw [e1 (.inr h2)]; exact ⟨rfl, rfl, rfl⟩
  · rw [e2 h h2 h3]; exact ⟨rfl, rfl, rfl⟩
  · rw [e3 h h2 h3 h4]; exact ⟨rfl, rfl, rfl⟩
  · rw [e4 h h2 h3 h4 h5 h6]; exact ⟨rfl, rfl, rfl⟩
  · exact ⟨fun h7 => by rw [e6 h h2 h3 h4 h5 h6 h7]; exact ⟨rfl, rfl, rfl⟩, fun h7 => by rw [e5 h h2 h3 h4 h5 h6 h7]; exact ⟨rfl, rfl, rfl⟩⟩
end Vx
end Go.Proofs.YtnanellmaelipaaGreatDoor
