/-
  Joined by program (merge.py): Base, RowK, Rep, Ea, RowY, RowG, Ca, Cb, Cc, Ce, Cd, Cf, Cg, Ch, Ci, Cj, Lib, Ck, Cl, Pa, Cm, LawA, Cn, Co, Cp, Cq, Cr, Cs, Ct, Ec, Eb, Ef, Cu, Dd, De, La, Lf, Lg, Ma, Md, Mk, Df, Ha, Ia, Ib, Ic, Db. It shows what the single texts show; conditions: none but those of each lemma.
-/
import Derived.Test.YtnanellmaelipaaGreatDoorVd
import Derived.Test.YtnanellmaelipaaGreatDoorProg
import Derived.KernelRfl
import Derived.Test.YtnanellmaelipaaGreatDoorRows
import Derived.Test.YtnanellmaelipaaGreatDoorCards
import Derived.Test.YtnanellmaelipaaGreatDoorTie
import Derived.ProofKit
import Derived.OpenShut
import Derived.ShutString
import Derived.Lay
import Derived.LaidMore
import Derived.SevenTiedAt
import Derived.Lib.Walk
import Derived.Lib.Strings
import Derived.Lib.Bytealg
import Derived.Handy
set_option linter.unusedVariables false
set_option linter.unusedSimpArgs false
set_option linter.unusedSectionVars false
/-
  The types of the program, as the walks want them; data of the program's types.
-/
namespace Go.Proofs.YtnanellmaelipaaGreatDoor
open Vx
namespace Vx

def tTab : List (Nat × TI) := [
(3, ⟨false, [.int .i64], 8, [], 0⟩),
(4, ⟨false, [.bool], 1, [], 0⟩),
(9, ⟨false, [.str], 16, [], 0⟩),
(57, ⟨false, [.sl 9 1], 24, [], 9⟩),
(22, ⟨false, [.sl 5 1], 24, [], 5⟩),
(240, ⟨true, [.str, .sl 9 1], 40, [(9, 0), (57, 1)], 0⟩),
(61, ⟨true, [.str, .sl 9 1], 40, [(9, 0), (57, 1)], 0⟩),
(186, ⟨false, [.sl 240 2], 24, [], 240⟩),
(54, ⟨false, [.sl 61 2], 24, [], 61⟩),
(35, ⟨false, [.sl 3 1], 24, [], 3⟩),
(190, ⟨true, [.str, .int .i64], 24, [(9, 0), (3, 1)], 1⟩),
(34, ⟨true, [.str, .int .i64], 24, [(9, 0), (3, 1)], 1⟩),
(86, ⟨false, [.sl 190 2], 24, [], 190⟩),
(24, ⟨false, [.sl 34 2], 24, [], 34⟩),
(188, ⟨true, [.sl 3 1, .str, .sl 240 2], 64, [(35, 0), (9, 1), (186, 2)], 0⟩),
(56, ⟨true, [.sl 3 1, .str, .sl 61 2], 64, [(35, 0), (9, 1), (54, 2)], 0⟩),
(85, ⟨false, [.sl 188 3], 24, [], 188⟩),
(23, ⟨false, [.sl 56 3], 24, [], 56⟩),
(88, ⟨true, [.sl 188 3, .sl 190 2], 48, [(85, 0), (86, 1)], 0⟩),
(26, ⟨true, [.sl 56 3, .sl 34 2], 48, [(23, 0), (24, 1)], 0⟩),
(157, ⟨true, [.sl 5 1, .int .i64], 32, [(22, 0), (3, 1)], 0⟩),
(219, ⟨true, [.int .i64, .str, .str, .str, .str, .int .i64, .sl 9 1], 104, [(3, 0), (9, 1), (9, 2), (9, 3), (9, 4), (3, 5), (57, 6)], 0⟩),
(197, ⟨false, [.sl 219 7], 24, [], 219⟩),
(211, ⟨true, [.str, .int .i64], 24, [(9, 0), (3, 1)], 1⟩),
(180, ⟨false, [.sl 211 2], 24, [], 211⟩),
(270, ⟨true, [.bool, .sl 9 1, .sl 9 1, .sl 9 1, .sl 9 1], 104, [(4, 0), (57, 1), (57, 2), (57, 3), (57, 4)], 0⟩),
(266, ⟨false, [.sl 270 5], 24, [], 270⟩),
(125, ⟨false, [.sl 35 1], 24, [], 35⟩),
  (5, ⟨false, [.int .u8], 1, [], 0⟩)]

theorem tTab_ok : ∀ t ti, get? tTab t = some ti → TOk Tryz.prog t ti := tabChk_ok (by kernel_rfl)

theorem mixed : Tryz.prog.follows .mixedOrders = true := by kernel_rfl

def noInv : Nat → Inv := fun _ => ⟨Unit, fun _ => ⟨[], []⟩, fun _ => True, fun _ => 0⟩

theorem upd_app {α : Type} (f : Nat → α) (d : Nat) (v : α) (h : Nat) : upd f d v h = if h = d then v else f h := rfl
def wipeE (e : Nat → Option (Bool × AV)) (m : Nat → Option Blk) : Nat → Option (Bool × AV) := fun t => (e t).map fun p => (p.1, p.2.wipe m)
def wipeM (m : Nat → Option Blk) : Nat → Option Blk := fun h => (m h).map (Blk.wipe m)
theorem wipe_eq (s : St) (m : Nat → Option Blk) : s.wipe m = ⟨wipeE s.e m, wipeM m⟩ := rfl
theorem wipeE_app (e : Nat → Option (Bool × AV)) (m : Nat → Option Blk) (t : Nat) : wipeE e m t = (e t).map fun p => (p.1, p.2.wipe m) := rfl
theorem wipeM_app (m : Nat → Option Blk) (h : Nat) : wipeM m h = (m h).map (Blk.wipe m) := rfl

abbrev Str := List UInt8
def eStr (s : Str) : List D := [.str s]
def eStrs (l : List Str) : List (List D) := l.map eStr

structure FileD where
  path : Str
  text : List Str
  deriving DecidableEq, Inhabited

def eFile (f : FileD) : List D := [.str f.path, .sl 9 1 (eStrs f.text)]
def eFiles (l : List FileD) : List (List D) := l.map eFile

@[simp] theorem eStrs_length (l : List Str) : (eStrs l).length = l.length := by simp [eStrs]
@[simp] theorem eStrs_nil : eStrs [] = [] := rfl
@[simp] theorem eStrs_get (l : List Str) (i : Nat) : (eStrs l)[i]? = l[i]?.map eStr := by simp [eStrs]
@[simp] theorem eStrs_getElem (l : List Str) (i : Nat) (h : i < (eStrs l).length) : (eStrs l)[i] = eStr (l[i]'(by simpa using h)) := by simp [eStrs]
@[simp] theorem eStr_inj (a b : Str) : (eStr a = eStr b) = (a = b) := by simp [eStr]
@[simp] theorem eStrs_inj (a b : List Str) : (eStrs a = eStrs b) = (a = b) := by
  apply propext
  constructor
  · intro h
    exact List.map_inj_right (fun x y h => by simpa using h) |>.1 h
  · rintro rfl; rfl
@[simp] theorem eStrs_eq_nil (a : List Str) : (eStrs a = []) = (a = []) := by simp [eStrs]
@[simp] theorem nil_eq_eStrs (a : List Str) : ([] = eStrs a) = (a = []) := by simp [eStrs, eq_comm]
theorem eStrs_append (a b : List Str) : eStrs (a ++ b) = eStrs a ++ eStrs b := by simp [eStrs]
theorem eStrs_snoc (a : List Str) (x : Str) : eStrs a ++ [[.str x]] = eStrs (a ++ [x]) := by simp [eStrs, eStr]
theorem eStrs_set (l : List Str) (i : Nat) (s : Str) : (eStrs l).set i [.str s] = eStrs (l.set i s) := by simp [eStrs, List.map_set, eStr]
theorem eStrs_take (l : List Str) (i : Nat) : (eStrs l).take i = eStrs (l.take i) := by simp [eStrs]
theorem eStrs_drop (l : List Str) (i : Nat) : (eStrs l).drop i = eStrs (l.drop i) := by simp [eStrs]
theorem eStrs_rep (n : Nat) : List.replicate n [D.str []] = eStrs (List.replicate n []) := by simp [eStrs, eStr]
@[simp] theorem eStrs_flat (l : List Str) : (∀ x ∈ eStrs l, ∀ d ∈ x, flatD d) = True := by
  simp only [eq_iff_iff, iff_true]
  intro x hx d hd
  simp only [eStrs, List.mem_map] at hx
  obtain ⟨s, _, rfl⟩ := hx
  simp only [eStr, List.mem_singleton] at hd
  subst hd
  trivial
@[simp] theorem eFiles_length (l : List FileD) : (eFiles l).length = l.length := by simp [eFiles]
@[simp] theorem eFiles_nil : eFiles [] = [] := rfl
@[simp] theorem eFiles_get (l : List FileD) (i : Nat) : (eFiles l)[i]? = l[i]?.map eFile := by simp [eFiles]
@[simp] theorem eFiles_getElem (l : List FileD) (i : Nat) (h : i < (eFiles l).length) : (eFiles l)[i] = eFile (l[i]'(by simpa using h)) := by simp [eFiles]
@[simp] theorem eFile_inj (a b : FileD) : (eFile a = eFile b) = (a = b) := by
  cases a; cases b; simp [eFile]
@[simp] theorem eFiles_inj (a b : List FileD) : (eFiles a = eFiles b) = (a = b) := by
  apply propext
  constructor
  · intro h
    exact List.map_inj_right (fun x y h => by simpa using h) |>.1 h
  · rintro rfl; rfl
@[simp] theorem eFiles_eq_nil (a : List FileD) : (eFiles a = []) = (a = []) := by simp [eFiles]
@[simp] theorem nil_eq_eFiles (a : List FileD) : ([] = eFiles a) = (a = []) := by simp [eFiles, eq_comm]
theorem eFiles_snoc (a : List FileD) (p : Str) (t : List Str) : eFiles a ++ [[.str p, .sl 9 1 (eStrs t)]] = eFiles (a ++ [⟨p, t⟩]) := by simp [eFiles, eFile]
theorem eFiles_append (a b : List FileD) : eFiles (a ++ b) = eFiles a ++ eFiles b := by simp [eFiles]
theorem eFiles_take (l : List FileD) (i : Nat) : (eFiles l).take i = eFiles (l.take i) := by simp [eFiles]
theorem eFiles_drop (l : List FileD) (i : Nat) : (eFiles l).drop i = eFiles (l.drop i) := by simp [eFiles]
theorem eFiles_set (l : List FileD) (i : Nat) (p : Str) (t : List Str) : (eFiles l).set i [.str p, .sl 9 1 (eStrs t)] = eFiles (l.set i ⟨p, t⟩) := by simp [eFiles, List.map_set, eFile]
theorem eFiles_rep (n : Nat) : List.replicate n [D.str [], .sl 9 1 []] = eFiles (List.replicate n ⟨[], []⟩) := by simp [eFiles, eFile]

@[simp] theorem FileD.eta (f : FileD) : (⟨f.path, f.text⟩ : FileD) = f := rfl
@[simp] theorem asStr_str (s : Str) : D.asStr (.str s) = s := rfl
@[simp] theorem asRows_sl (e k : Nat) (r : List (List D)) : D.asRows (.sl e k r) = r := rfl
@[simp] theorem asInt_int (k : IntKind) (n : Int) : D.asInt (.int k n) = n := rfl
@[simp] theorem asBool_bool (b : Bool) : D.asBool (.bool b) = b := rfl

theorem cast_succ (a b : Nat) : ((a : Int) = (b : Int) + 1) = (a = b + 1) := by apply propext; omega
theorem cast_eq (a b : Nat) : ((a : Int) = (b : Int)) = (a = b) := by apply propext; omega
theorem cast_zero (a : Nat) : ((a : Int) = 0) = (a = 0) := by apply propext; omega
theorem take_succ' {α : Type} {l : List α} {i : Nat} (h : i < l.length) : l.take (i + 1) = l.take i ++ [l[i]] := List.take_succ_eq_append_getElem h

@[simp] theorem getD_nat (l : Str) (i : Nat) (h : i < l.length) : l.getD i 0 = l[i] := by simp [List.getD_eq_getElem?_getD, h]
theorem all_take {α : Type} {l : List α} {p : α → Bool} {i : Nat} (h : i < l.length) : (l.take (i + 1)).all p = ((l.take i).all p && p l[i]) := by
  rw [take_succ' h, List.all_append]; simp
theorem all_false {α : Type} {l : List α} {p : α → Bool} {i : Nat} (h : i < l.length) (hp : p l[i] = false) : l.all p = false := by
  rw [List.all_eq_false]
  exact ⟨l[i], List.getElem_mem h, by simp [hp]⟩
theorem all_end {α : Type} {l : List α} {p : α → Bool} {i : Nat} (h : l.length ≤ i) (hp : (l.take i).all p = true) : l.all p = true := by
  rwa [List.take_of_length_le h] at hp
theorem eq_take {α : Type} {l r : List α} {i : Nat} (h1 : i < l.length) (h2 : i < r.length) (h : l.take i = r.take i) (he : l[i] = r[i]) : l.take (i + 1) = r.take (i + 1) := by
  rw [take_succ' h1, take_succ' h2, h, he]
theorem eq_end {α : Type} {l r : List α} {i : Nat} (h0 : l.length = r.length) (h1 : l.length ≤ i) (h : l.take i = r.take i) : l = r := by
  rw [List.take_of_length_le h1, List.take_of_length_le (by omega)] at h
  exact h

theorem set_take {α : Type} {o a : List α} {i : Nat} (h1 : i < o.length) (h2 : i < a.length) (h : o.take i = a.take i) : (o.set i a[i]).take (i + 1) = a.take (i + 1) := by
  rw [take_succ' (by simpa using h1), take_succ' h2, List.take_set_of_le (Nat.le_refl i), h]; simp
theorem FileD.eq_iff (a b : FileD) : (a = b) = (a.path = b.path ∧ a.text = b.text) := by
  cases a; cases b; simp

@[simp] theorem FileD.ex1 (p : Str) (x : List Str) (Q : FileD → Prop) : (∃ a : FileD, a.path = p ∧ a.text = x ∧ Q a) = Q ⟨p, x⟩ := by
  apply propext
  constructor
  · rintro ⟨⟨a, b⟩, rfl, rfl, h⟩; exact h
  · intro h; exact ⟨⟨p, x⟩, rfl, rfl, h⟩
@[simp] theorem FileD.ex2 (p : Str) (x : List Str) (Q : FileD → Prop) : (∃ a : FileD, (a.path = p ∧ a.text = x) ∧ Q a) = Q ⟨p, x⟩ := by
  apply propext
  constructor
  · rintro ⟨⟨a, b⟩, ⟨rfl, rfl⟩, h⟩; exact h
  · intro h; exact ⟨⟨p, x⟩, ⟨rfl, rfl⟩, h⟩
theorem cast_one (a : Nat) : ((a : Int) = 1) = (a = 1) := by apply propext; omega

/- What unfolds a walk. -/
attribute [simp] vc_skip extOf vc_seq vc_cond vc_block vc_exit vc_ret vc_region vc_regionD vc_loop kSeq_normal kSeq_ret kSeq_exit kBlock_normal kBlock_ret kBlock_exit kLoop_normal kLoop_ret kLoop_exit kCond_bool kNorm_app vcOps_nil vcOps_cons kOps_app kStep_some kStep_none vcDL_nil vcDL_cons kOpsD_app kStepD_true kStepD_tt kStepD_tf kStepD_false kStepD_ff flB ldMv subN boxLd AV.sgl ldB btys btyAct kStepC_some kStepC_none kMv_app act3_store act3_call act3_append actS_false actS_true stApp_tmp stApp_const kStA_true kStA_false AV.isSub act3_bs kAct_app kSt2_app stealSlots stealL stealOne subIn AV.stolen act_store act_bs act_append act_call kSet_app kSet2_app kSetG_app kSetG_app0 kStore_ptr kStore_eptr kStore_sptr putSub kCallW_some kCallC_some kCall_some wk_T wk_n wk_keep wk_inv wk_act wk_dr wk_le aCalm wantC dstOk calm aCallK aCall3K aCall4K pasVs4 pasV4 pasL4 pas4 pasB4 keys4 finOk4 ren4 back4B m4 subOf subRep aCall2K apnd bsMove putBox putOwn partAV mvL AV.mv AV.base AV.moved kBld bldK wrK stK AV.selfOk AV.src TI.flat apSize pickAV St.val St.cond St.fn St.next St.set St.trim wipe_eq wipeE_app wipeM_app pickEnv get? cGet upd_app withPuts killAll rm freshP Oper.hnd Sc.st ofConst constOk lenAV elemLen loadAV ldL ld1 fieldAddrAV indexAddrAV sliceAV convAV buildAV fillAV fieldAV Out.of binAV aggCmp AV.rows AV.one AV.cells AV.deepOk AV.toD toDs partRows partRowsM partsDeep TK.zeroAV TK.zeroD byteOf inR Op.operands Call.operands passVs passV passL pass1 passB pasVs pasV pasL pas1 ownsOk okHs okHs2 okFin finOk2 rho over backRes backAV backAV1 backBlk putBack back2 back2_V back2_1 m2 AV.wipe AV.wipeV AV.wipe1 Blk.wipe AV.hs AV.hs.hsL alOps Con.start2 Con.pk bodyQ fini resAV resA firstId Sc.from renEnv renT renV renVs renL ren1 renBox renOwn okRen clOf ldMk ldMk1 actB setRow flatRows flatD noInv shr_nil shr_some kStepF_some shareL AV.viewed AV.viewed1

end Vx
end Go.Proofs.YtnanellmaelipaaGreatDoor
/-
  Arguments opened; what all rows share.
-/
namespace Go.Proofs.YtnanellmaelipaaGreatDoor
open Go.ChangeShapes Go.WideShapes Go.ChangeAt Go.RowKit
namespace Vx

theorem own_knob : ownKnob Tryz.prog.godebug = none := by kernel_rfl
theorem laidOut : laidOutB Tryz.prog = true := by kernel_rfl
theorem tTab_closed : tabOk tTab = true := by decide

theorem shp_strs {T : Nat → Option TI} (hs : ∀ te, T 9 = some te → te.cells = [.str]) {ds : List D} (h : Shp T [.sl 9 1] ds) : ∃ l, ds = [.sl 9 1 (eStrs l)] := by
  cases h with
  | @sl e k te rows ks ds h1 h2 h3 =>
    cases h3
    rw [hs _ h1] at h2
    obtain ⟨l, rfl, _⟩ := rows_map (f := eStr) (p := fun _ => True) (rows := rows) (fun r hr => by
      have := h2 r hr
      cases this with
      | str q1 q2 => cases q2; exact ⟨_, rfl, trivial⟩)
    exact ⟨l, rfl⟩

section
variable {H : Type} {enc : TypeId × Value → H} {W : World} {sp : Nat → Bool} {held : Bool} {r : Reach} {base : Nat}

set_option maxRecDepth 100000 in
theorem open_strs {v : Value} {d : DataW H} {p : List MemPlace} (hu : Tryz.prog.underlying 57 = some (.slice 9)) (hv : Value.okWide Tryz.prog W r base 57 v)
    (h : DataW.Trod enc Tryz.prog W 0 sp held 57 v d p) : ∃ l f, RdL false W [.sl 9 1 (eStrs l)] [v] f := by
  obtain ⟨a, n, c, rfl⟩ := okWide_slice hu hv
  obtain ⟨fuel, hf⟩ := h
  obtain ⟨ds, f, h1, h2⟩ := rd_trod tTab_ok tTab_closed fuel (t := 57) rfl hf
  obtain ⟨l, rfl⟩ := shp_strs (fun te ht => by cases ht; rfl) h2
  exact ⟨l, f, h1⟩
set_option maxRecDepth 100000 in
theorem open_str {v : Value} {d : DataW H} {p : List MemPlace} (hu : Tryz.prog.underlying 9 = some .string) (hv : Value.okWide Tryz.prog W r base 9 v)
    (h : DataW.Trod enc Tryz.prog W 0 sp held 9 v d p) : ∃ l : Str, v = .string ⟨l.toArray⟩ ∧ l.length ≤ maxLen := by
  obtain ⟨s, rfl, _, _, hs⟩ := Go.ChangeMaps.open_string hu hv h
  exact ⟨s.data.toList, by simp, by simpa using hs⟩
end

end Vx
end Go.Proofs.YtnanellmaelipaaGreatDoor
/-
  Data of the program's types: numbers, branches, commits, repositories. (Printed by enc.py.)
-/
namespace Go.Proofs.YtnanellmaelipaaGreatDoor
namespace Vx

def eInt (n : Int) : List D := [.int .i64 n]
@[simp] theorem eInt_inj (a b : Int) : (eInt a = eInt b) = (a = b) := by simp [eInt]
def eInts (l : List Int) : List (List D) := l.map eInt
@[simp] theorem eInts_length (l : List Int) : (eInts l).length = l.length := by simp [eInts]
@[simp] theorem eInts_nil : eInts [] = [] := rfl
@[simp] theorem eInts_get (l : List Int) (i : Nat) : (eInts l)[i]? = l[i]?.map eInt := by simp [eInts]
@[simp] theorem eInts_getElem (l : List Int) (i : Nat) (h : i < (eInts l).length) : (eInts l)[i] = eInt (l[i]'(by simpa using h)) := by simp [eInts]
@[simp] theorem eInts_inj (a b : List Int) : (eInts a = eInts b) = (a = b) := by
  apply propext
  constructor
  · intro h
    exact List.map_inj_right (fun x y h => by simpa using h) |>.1 h
  · rintro rfl; rfl
@[simp] theorem eInts_eq_nil (a : List Int) : (eInts a = []) = (a = []) := by simp [eInts]
@[simp] theorem nil_eq_eInts (a : List Int) : ([] = eInts a) = (a = []) := by simp [eInts, eq_comm]
theorem eInts_append (a b : List Int) : eInts (a ++ b) = eInts a ++ eInts b := by simp [eInts]
theorem eInts_take (l : List Int) (i : Nat) : (eInts l).take i = eInts (l.take i) := by simp [eInts]
theorem eInts_drop (l : List Int) (i : Nat) : (eInts l).drop i = eInts (l.drop i) := by simp [eInts]
theorem eInts_snoc (a : List Int) (n : Int) : eInts a ++ [[.int .i64 n]] = eInts (a ++ [n]) := by simp [eInts, eInt]
theorem eInts_set (l : List Int) (i : Nat) (n : Int) : (eInts l).set i [.int .i64 n] = eInts (l.set i n) := by simp [eInts, List.map_set, eInt]
theorem eInts_rep (n : Nat) : List.replicate n [D.int .i64 0] = eInts (List.replicate n 0) := by simp [eInts, eInt]
@[simp] theorem eInts_flat (l : List Int) : (∀ x ∈ eInts l, ∀ d ∈ x, flatD d) = True := by
  simp only [eq_iff_iff, iff_true]
  intro x hx d hd
  simp only [eInts, List.mem_map] at hx
  obtain ⟨s, _, rfl⟩ := hx
  simp only [eInt, List.mem_singleton] at hd
  subst hd
  trivial

structure HeadD where
  name : Str
  at_ : Int
  deriving DecidableEq, Inhabited

def eHead (a : HeadD) : List D := [.str a.name, .int .i64 a.at_]
@[simp] theorem eHead_inj (a b : HeadD) : (eHead a = eHead b) = (a = b) := by
  cases a; cases b; simp [eHead]
@[simp] theorem HeadD.eta (a : HeadD) : (⟨a.name, a.at_⟩ : HeadD) = a := rfl
theorem HeadD.eq_iff (a b : HeadD) : (a = b) = (a.name = b.name ∧ a.at_ = b.at_) := by
  cases a; cases b; simp
@[simp] theorem HeadD.ex1 (x_name : Str) (x_at_ : Int) (Q : HeadD → Prop) : (∃ a : HeadD, a.name = x_name ∧ a.at_ = x_at_ ∧ Q a) = Q ⟨x_name, x_at_⟩ := by
  apply propext
  constructor
  · rintro ⟨⟨_, _⟩, rfl, rfl, h⟩; exact h
  · intro h; exact ⟨⟨x_name, x_at_⟩, rfl, rfl, h⟩
@[simp] theorem HeadD.ex2 (x_name : Str) (x_at_ : Int) (Q : HeadD → Prop) : (∃ a : HeadD, (a.name = x_name ∧ a.at_ = x_at_) ∧ Q a) = Q ⟨x_name, x_at_⟩ := by
  apply propext
  constructor
  · rintro ⟨⟨_, _⟩, ⟨rfl, rfl⟩, h⟩; exact h
  · intro h; exact ⟨⟨x_name, x_at_⟩, ⟨rfl, rfl⟩, h⟩
@[simp] theorem HeadD.ex0 (x_name : Str) (x_at_ : Int) : (∃ a : HeadD, a.name = x_name ∧ a.at_ = x_at_) = True := by
  simp only [eq_iff_iff, iff_true]
  exact ⟨⟨x_name, x_at_⟩, rfl, rfl⟩
def eHeads (l : List HeadD) : List (List D) := l.map eHead
@[simp] theorem eHeads_length (l : List HeadD) : (eHeads l).length = l.length := by simp [eHeads]
@[simp] theorem eHeads_nil : eHeads [] = [] := rfl
@[simp] theorem eHeads_get (l : List HeadD) (i : Nat) : (eHeads l)[i]? = l[i]?.map eHead := by simp [eHeads]
@[simp] theorem eHeads_getElem (l : List HeadD) (i : Nat) (h : i < (eHeads l).length) : (eHeads l)[i] = eHead (l[i]'(by simpa using h)) := by simp [eHeads]
@[simp] theorem eHeads_inj (a b : List HeadD) : (eHeads a = eHeads b) = (a = b) := by
  apply propext
  constructor
  · intro h
    exact List.map_inj_right (fun x y h => by simpa using h) |>.1 h
  · rintro rfl; rfl
@[simp] theorem eHeads_eq_nil (a : List HeadD) : (eHeads a = []) = (a = []) := by simp [eHeads]
@[simp] theorem nil_eq_eHeads (a : List HeadD) : ([] = eHeads a) = (a = []) := by simp [eHeads, eq_comm]
theorem eHeads_append (a b : List HeadD) : eHeads (a ++ b) = eHeads a ++ eHeads b := by simp [eHeads]
theorem eHeads_take (l : List HeadD) (i : Nat) : (eHeads l).take i = eHeads (l.take i) := by simp [eHeads]
theorem eHeads_drop (l : List HeadD) (i : Nat) : (eHeads l).drop i = eHeads (l.drop i) := by simp [eHeads]
theorem eHeads_snoc (a : List HeadD) (s : Str) (n : Int) : eHeads a ++ [[.str s, .int .i64 n]] = eHeads (a ++ [⟨s, n⟩]) := by simp [eHeads, eHead]
theorem eHeads_set (l : List HeadD) (i : Nat) (s : Str) (n : Int) : (eHeads l).set i [.str s, .int .i64 n] = eHeads (l.set i ⟨s, n⟩) := by simp [eHeads, List.map_set, eHead]
theorem eHeads_rep (n : Nat) : List.replicate n [D.str [], D.int .i64 0] = eHeads (List.replicate n ⟨[], 0⟩) := by simp [eHeads, eHead]
@[simp] theorem eHeads_flat (l : List HeadD) : (∀ x ∈ eHeads l, ∀ d ∈ x, flatD d) = True := by
  simp only [eq_iff_iff, iff_true]
  intro x hx d hd
  simp only [eHeads, List.mem_map] at hx
  obtain ⟨s, _, rfl⟩ := hx
  simp only [eHead, List.mem_cons, List.not_mem_nil, or_false] at hd
  rcases hd with rfl | rfl <;> trivial

structure CommitD where
  parents : List Int
  who : Str
  tree : List FileD
  deriving DecidableEq, Inhabited

def eCommit (a : CommitD) : List D := [.sl 3 1 (eInts a.parents), .str a.who, .sl 61 2 (eFiles a.tree)]
@[simp] theorem eCommit_inj (a b : CommitD) : (eCommit a = eCommit b) = (a = b) := by
  cases a; cases b; simp [eCommit]
@[simp] theorem CommitD.eta (a : CommitD) : (⟨a.parents, a.who, a.tree⟩ : CommitD) = a := rfl
theorem CommitD.eq_iff (a b : CommitD) : (a = b) = (a.parents = b.parents ∧ a.who = b.who ∧ a.tree = b.tree) := by
  cases a; cases b; simp
@[simp] theorem CommitD.ex1 (x_parents : List Int) (x_who : Str) (x_tree : List FileD) (Q : CommitD → Prop) : (∃ a : CommitD, a.parents = x_parents ∧ a.who = x_who ∧ a.tree = x_tree ∧ Q a) = Q ⟨x_parents, x_who, x_tree⟩ := by
  apply propext
  constructor
  · rintro ⟨⟨_, _, _⟩, rfl, rfl, rfl, h⟩; exact h
  · intro h; exact ⟨⟨x_parents, x_who, x_tree⟩, rfl, rfl, rfl, h⟩
@[simp] theorem CommitD.ex2 (x_parents : List Int) (x_who : Str) (x_tree : List FileD) (Q : CommitD → Prop) : (∃ a : CommitD, (a.parents = x_parents ∧ a.who = x_who ∧ a.tree = x_tree) ∧ Q a) = Q ⟨x_parents, x_who, x_tree⟩ := by
  apply propext
  constructor
  · rintro ⟨⟨_, _, _⟩, ⟨rfl, rfl, rfl⟩, h⟩; exact h
  · intro h; exact ⟨⟨x_parents, x_who, x_tree⟩, ⟨rfl, rfl, rfl⟩, h⟩
@[simp] theorem CommitD.ex0 (x_parents : List Int) (x_who : Str) (x_tree : List FileD) : (∃ a : CommitD, a.parents = x_parents ∧ a.who = x_who ∧ a.tree = x_tree) = True := by
  simp only [eq_iff_iff, iff_true]
  exact ⟨⟨x_parents, x_who, x_tree⟩, rfl, rfl, rfl⟩
def eCommits (l : List CommitD) : List (List D) := l.map eCommit
@[simp] theorem eCommits_length (l : List CommitD) : (eCommits l).length = l.length := by simp [eCommits]
@[simp] theorem eCommits_nil : eCommits [] = [] := rfl
@[simp] theorem eCommits_get (l : List CommitD) (i : Nat) : (eCommits l)[i]? = l[i]?.map eCommit := by simp [eCommits]
@[simp] theorem eCommits_getElem (l : List CommitD) (i : Nat) (h : i < (eCommits l).length) : (eCommits l)[i] = eCommit (l[i]'(by simpa using h)) := by simp [eCommits]
@[simp] theorem eCommits_inj (a b : List CommitD) : (eCommits a = eCommits b) = (a = b) := by
  apply propext
  constructor
  · intro h
    exact List.map_inj_right (fun x y h => by simpa using h) |>.1 h
  · rintro rfl; rfl
@[simp] theorem eCommits_eq_nil (a : List CommitD) : (eCommits a = []) = (a = []) := by simp [eCommits]
@[simp] theorem nil_eq_eCommits (a : List CommitD) : ([] = eCommits a) = (a = []) := by simp [eCommits, eq_comm]
theorem eCommits_append (a b : List CommitD) : eCommits (a ++ b) = eCommits a ++ eCommits b := by simp [eCommits]
theorem eCommits_take (l : List CommitD) (i : Nat) : (eCommits l).take i = eCommits (l.take i) := by simp [eCommits]
theorem eCommits_drop (l : List CommitD) (i : Nat) : (eCommits l).drop i = eCommits (l.drop i) := by simp [eCommits]
theorem eCommits_snoc (a : List CommitD) (p : List Int) (w : Str) (t : List FileD) : eCommits a ++ [[.sl 3 1 (eInts p), .str w, .sl 61 2 (eFiles t)]] = eCommits (a ++ [⟨p, w, t⟩]) := by simp [eCommits, eCommit]
theorem eCommits_set (l : List CommitD) (i : Nat) (p : List Int) (w : Str) (t : List FileD) : (eCommits l).set i [.sl 3 1 (eInts p), .str w, .sl 61 2 (eFiles t)] = eCommits (l.set i ⟨p, w, t⟩) := by simp [eCommits, List.map_set, eCommit]
theorem eCommits_rep (n : Nat) : List.replicate n [D.sl 3 1 [], D.str [], D.sl 61 2 []] = eCommits (List.replicate n ⟨[], [], []⟩) := by simp [eCommits, eCommit]

structure RepoD where
  commits : List CommitD
  heads : List HeadD
  deriving DecidableEq, Inhabited

def eRepo (a : RepoD) : List D := [.sl 56 3 (eCommits a.commits), .sl 34 2 (eHeads a.heads)]
@[simp] theorem eRepo_inj (a b : RepoD) : (eRepo a = eRepo b) = (a = b) := by
  cases a; cases b; simp [eRepo]
@[simp] theorem RepoD.eta (a : RepoD) : (⟨a.commits, a.heads⟩ : RepoD) = a := rfl
theorem RepoD.eq_iff (a b : RepoD) : (a = b) = (a.commits = b.commits ∧ a.heads = b.heads) := by
  cases a; cases b; simp
@[simp] theorem RepoD.ex1 (x_commits : List CommitD) (x_heads : List HeadD) (Q : RepoD → Prop) : (∃ a : RepoD, a.commits = x_commits ∧ a.heads = x_heads ∧ Q a) = Q ⟨x_commits, x_heads⟩ := by
  apply propext
  constructor
  · rintro ⟨⟨_, _⟩, rfl, rfl, h⟩; exact h
  · intro h; exact ⟨⟨x_commits, x_heads⟩, rfl, rfl, h⟩
@[simp] theorem RepoD.ex2 (x_commits : List CommitD) (x_heads : List HeadD) (Q : RepoD → Prop) : (∃ a : RepoD, (a.commits = x_commits ∧ a.heads = x_heads) ∧ Q a) = Q ⟨x_commits, x_heads⟩ := by
  apply propext
  constructor
  · rintro ⟨⟨_, _⟩, ⟨rfl, rfl⟩, h⟩; exact h
  · intro h; exact ⟨⟨x_commits, x_heads⟩, ⟨rfl, rfl⟩, h⟩
@[simp] theorem RepoD.ex0 (x_commits : List CommitD) (x_heads : List HeadD) : (∃ a : RepoD, a.commits = x_commits ∧ a.heads = x_heads) = True := by
  simp only [eq_iff_iff, iff_true]
  exact ⟨⟨x_commits, x_heads⟩, rfl, rfl⟩
abbrev vRepo (r : RepoD) : AV := .agg [.sl true 3 (eCommits r.commits), .sl true 2 (eHeads r.heads)]
abbrev ownInts (h : Nat) (a : List Int) : List (Nat × Blk) := [(h, .own 3 1 true (eInts a))]
abbrev ownHeads (h : Nat) (a : List HeadD) : List (Nat × Blk) := [(h, .own 34 2 true (eHeads a))]
abbrev ownCommits (h : Nat) (a : List CommitD) : List (Nat × Blk) := [(h, .own 56 3 true (eCommits a))]

end Vx
end Go.Proofs.YtnanellmaelipaaGreatDoor
/-
  Contracts: draws (l30Open, pick, of, one).
-/
namespace Go.Proofs.YtnanellmaelipaaGreatDoor
namespace Vx
open Go.RowKit
set_option maxRecDepth 8000

def eByte (b : UInt8) : List D := [.int .u8 b.toNat]
def eBytes (s : Str) : List (List D) := s.map eByte
@[simp] theorem eBytes_length (l : Str) : (eBytes l).length = l.length := by simp -implicitDefEqProofs [eBytes]
@[simp] theorem eBytes_get (l : Str) (i : Nat) : (eBytes l)[i]? = l[i]?.map eByte := by simp -implicitDefEqProofs [eBytes]
theorem eBytes_take (l : Str) (i : Nat) : (eBytes l).take i = eBytes (l.take i) := by simp -implicitDefEqProofs [eBytes]
@[simp] theorem eByte_inj (a b : UInt8) : (eByte a = eByte b) = (a = b) := by
  simp only [eByte, List.cons.injEq, D.int.injEq, true_and, and_true, eq_iff_iff]
  constructor
  · intro h; exact UInt8.toNat_inj.1 (by omega)
  · rintro rfl; rfl
@[simp] theorem eBytes_inj (a b : Str) : (eBytes a = eBytes b) = (a = b) := by
  apply propext
  constructor
  · intro h
    exact List.map_inj_right (fun x y h => by simpa using h) |>.1 h
  · rintro rfl; rfl
@[simp] theorem eBytes_all (l : Str) (f : List D → Bool) : (eBytes l).all f = l.all fun b => f (eByte b) := by simp -implicitDefEqProofs [eBytes, Function.comp_def]
theorem all_true (l : Str) : (l.all fun _ => true) = true := by simp
abbrev rdBox (s : Str) (p : Int) : Blk := .box 157 [.sl true 1 (eBytes s), .int .i64 p]

def cL30Open : Con := .fn 11 Str (fun s => [.sl true 1 (eBytes s)]) (fun _ => True) (fun _ => .ptr 8 0) (fun s => [(8, rdBox (s.take 2000) 0)])
set_option maxHeartbeats 4000000 in
theorem l30Open_has : Has Tryz.prog 75 cL30Open := by
  refine has_walk mixed tTab_ok (l := []) HasL.nil [0, 2] ((fun a n (_ : Nat) => (fun _ => noInv) a n)) [] Tryz.func75 (by kernel_rfl) (code := _) (by unfold Tryz.f75; rfl) (by kernel_rfl) (by decide) (fun _ => ⟨(), trivial⟩) (by intro h; first | exact fun _ => rfl | cases h) (by kernel_rfl) ?_
  intro (s : Str) _
  simp -implicitDefEqProofs [cL30Open, Con.fn, tTab, eBytes_take]
  exact fun _ => ⟨fun h => by omega, fun h => List.take_of_length_le (by omega)⟩

theorem xor_nn {a b : Int} (h1 : 0 ≤ a) (h2 : a < 4611686018427387904) (h3 : 0 ≤ b) (h4 : b < 4611686018427387904) : 0 ≤ bitOp .xor .i64 a b := by
  unfold bitOp
  simp only []
  rw [BitVec.toNat_xor, BitVec.toNat_ofInt, BitVec.toNat_ofInt]
  have e1 : (a % ((2 ^ (IntKind.i64).bits : Nat) : Int)).toNat < 2 ^ 62 := by
    have : a % ((2 ^ (IntKind.i64).bits : Nat) : Int) = a := Int.emod_eq_of_lt h1 (by show a < (((2 : Nat) ^ 64 : Nat) : Int); omega)
    rw [this]; omega
  have e2 : (b % ((2 ^ (IntKind.i64).bits : Nat) : Int)).toNat < 2 ^ 62 := by
    have : b % ((2 ^ (IntKind.i64).bits : Nat) : Int) = b := Int.emod_eq_of_lt h3 (by show b < (((2 : Nat) ^ 64 : Nat) : Int); omega)
    rw [this]; omega
  have e3 := Nat.xor_lt_two_pow e1 e2
  rw [wrap_inR (by simp only [inR]; omega)]
  omega
def cPick : Con := { A := (Str × Int) × Int, X := Int, n := 99, args := fun a => [.ptr 0 0, .int .i64 a.2], boxes := fun a => [(0, 157, [.sl true 1 (eBytes a.1.1), .int .i64 a.1.2])], pre := fun a => a.1.1.length ≤ 2000 ∧ 0 ≤ a.1.2 ∧ a.1.2 ≤ 1073741824 ∧ a.2 ≤ 1073741824, post := fun a x => (a.2 < 1 → x = 0) ∧ (1 ≤ a.2 → 0 ≤ x ∧ x < a.2), res := fun _ x => .int .i64 x, fin := fun a _ => [(0, rdBox a.1.1 (a.1.2 + 1))], nob := false }
set_option maxHeartbeats 4000000 in
theorem pick_has : Has Tryz.prog 145 cPick := by
  refine has_walk mixed tTab_ok (l := []) HasL.nil [0, 1, 4, 5, 6] ((fun a n (_ : Nat) => (fun _ => noInv) a n)) [] Tryz.func145 (by kernel_rfl) (code := _) (by unfold Tryz.f145; rfl) (by kernel_rfl) (by decide) (fun a => ⟨(0 : Int), fun _ => rfl, fun h => ⟨Int.le_refl 0, by omega⟩⟩) (by intro h; first | exact fun _ => rfl | cases h) (by kernel_rfl) ?_
  intro a ha
  obtain ⟨⟨s, p⟩, n⟩ := a
  obtain ⟨h1, h2, h3, h4⟩ : s.length ≤ 2000 ∧ 0 ≤ p ∧ p ≤ 1073741824 ∧ n ≤ 1073741824 := ha
  simp -implicitDefEqProofs [cPick, tTab]
  have e : ∀ q : Int, 0 ≤ q → q < s.length → ∃ b : Nat, b < 256 ∧ Option.map eByte s[q.toNat]? = some [.int .u8 b] := fun q a b => by
    have hq : q.toNat < s.length := by omega
    exact ⟨s[q.toNat].toNat, s[q.toNat].toNat_lt, by simp -implicitDefEqProofs [List.getElem?_eq_getElem hq, eByte]⟩
  refine ⟨by omega, fun _ _ => ⟨fun a b => by omega, fun hn _ => ⟨fun _ _ => by omega, fun hs => ⟨by omega, fun _ _ _ => ⟨fun hp => ?_, fun hp => ?_⟩⟩⟩⟩⟩
  · obtain ⟨b, hb, eb⟩ := e p h2 hp
    have t1 := Int.tmod_nonneg n (a := (b : Int)) (by omega)
    have t2 := Int.tmod_lt_of_pos (b : Int) (b := n) (by omega)
    simp -implicitDefEqProofs [eb]
    omega
  · have hl : 0 < s.length := List.length_pos_iff.2 hs
    have hL : (0 : Int) < (s.length : Int) := by omega
    have t1 := Int.tmod_nonneg (s.length : Int) (a := p) h2
    have t2 := Int.tmod_lt_of_pos p hL
    have t3 := Int.tmod_nonneg (s.length : Int) (a := p * 7 + 3) (by omega)
    have t4 := Int.tmod_lt_of_pos (p * 7 + 3) hL
    have t5 := Int.tdiv_nonneg h2 (Int.le_of_lt hL)
    have t6 : p.tdiv (s.length : Int) ≤ p := by
      have := Int.natAbs_tdiv_le_natAbs p (s.length : Int)
      omega
    obtain ⟨b1, hb1, eb1⟩ := e _ t1 t2
    obtain ⟨b2, hb2, eb2⟩ := e _ t3 t4
    simp -implicitDefEqProofs [eb1, eb2]
    generalize p.tdiv (s.length : Int) = d at t5 t6 ⊢
    generalize p.tmod (s.length : Int) = m1 at t1 t2 ⊢
    generalize (p * 7 + 3).tmod (s.length : Int) = m2 at t3 t4 ⊢
    have t7 := Int.tdiv_nonneg (a := (b1 * 131 + b2 * 1117 + p * 29 + d * 53 : Int)) (b := 64) (by omega) (by omega)
    have t8 : (b1 * 131 + b2 * 1117 + p * 29 + d * 53 : Int).tdiv 64 ≤ b1 * 131 + b2 * 1117 + p * 29 + d * 53 := by
      have := Int.natAbs_tdiv_le_natAbs (b1 * 131 + b2 * 1117 + p * 29 + d * 53 : Int) 64
      omega
    have t9 := xor_nn (a := (b1 * 131 + b2 * 1117 + p * 29 + d * 53 : Int)) (b := (b1 * 131 + b2 * 1117 + p * 29 + d * 53 : Int).tdiv 64) (by omega) (by omega) (by omega) (by omega)
    generalize (b1 * 131 + b2 * 1117 + p * 29 + d * 53 : Int).tdiv 64 = y at t7 t8 t9 ⊢
    generalize bitOp .xor .i64 (b1 * 131 + b2 * 1117 + p * 29 + d * 53 : Int) y = z at t9 ⊢
    have t10 := Int.tmod_nonneg n t9
    have t11 := Int.tmod_lt_of_pos z (b := n) (by omega)
    clear e eb1 eb2
    repeat' (first | intro _ | apply And.intro)
    all_goals first | omega | assumption | contradiction

theorem headD_mem {α : Type} {d : α} {l : List α} (h : l ≠ []) : l.headD d ∈ l := by
  cases l with
  | nil => exact absurd rfl h
  | cons x r => simp
def cOf : Con := { A := (Str × Int) × List Str, X := Str, n := 12, args := fun a => [.ptr 0 0, .sl true 1 (eStrs a.2)], boxes := fun a => [(0, 157, [.sl true 1 (eBytes a.1.1), .int .i64 a.1.2])], pre := fun a => a.1.1.length ≤ 2000 ∧ 0 ≤ a.1.2 ∧ a.1.2 ≤ 1073741824 ∧ a.2 ≠ [] ∧ a.2.length ≤ 1073741824, post := fun a x => a.2 ≠ [] → x ∈ a.2, res := fun _ x => .str x, fin := fun a _ => [(0, rdBox a.1.1 (a.1.2 + 1))], nob := false, kindly := true }
set_option maxHeartbeats 4000000 in
theorem of_has : Has Tryz.prog 90 cOf := by
  refine has_walk mixed tTab_ok (l := [(145, cPick)]) (HasL.cons pick_has HasL.nil) [0, 1, 4] ((fun a n (_ : Nat) => (fun _ => noInv) a n)) [] Tryz.func90 (by kernel_rfl) (code := _) (by unfold Tryz.f90; rfl) (by kernel_rfl) (by decide) (fun a => ⟨a.2.headD [], fun h => headD_mem h⟩) (by intro h; first | exact fun _ => rfl | cases h) (by kernel_rfl) ?_
  intro a ha
  obtain ⟨⟨s, p⟩, l⟩ := a
  obtain ⟨h1, h2, h3, h4, h5⟩ : s.length ≤ 2000 ∧ 0 ≤ p ∧ p ≤ 1073741824 ∧ l ≠ [] ∧ l.length ≤ 1073741824 := ha
  have hl : 0 < l.length := List.length_pos_iff.2 h4
  simp -implicitDefEqProofs [cOf, cPick, tTab]
  refine fun _ => ⟨s, p, ⟨rfl, rfl⟩, ⟨h1, h2, h3, by omega⟩, fun y _ hy2 => ?_⟩
  obtain ⟨k1, k2⟩ := hy2 (by omega)
  have hk : y.toNat < l.length := by omega
  have e : Option.map eStr l[y.toNat]? = some (eStr l[y.toNat]) := by simp -implicitDefEqProofs [List.getElem?_eq_getElem hk]
  simp -implicitDefEqProofs [e, eStr, k1, k2]

def cOne : Con := { A := (Str × Int) × List Int, X := Int, n := 12, args := fun a => [.ptr 0 0, .sl true 1 (eInts a.2)], boxes := fun a => [(0, 157, [.sl true 1 (eBytes a.1.1), .int .i64 a.1.2])], pre := fun a => a.1.1.length ≤ 2000 ∧ 0 ≤ a.1.2 ∧ a.1.2 ≤ 1073741824 ∧ a.2 ≠ [] ∧ a.2.length ≤ 1073741824, post := fun a x => a.2 ≠ [] → x ∈ a.2, res := fun _ x => .int .i64 x, fin := fun a _ => [(0, rdBox a.1.1 (a.1.2 + 1))], nob := false, kindly := true }
set_option maxHeartbeats 4000000 in
theorem one_has : Has Tryz.prog 147 cOne := by
  refine has_walk mixed tTab_ok (l := [(145, cPick)]) (HasL.cons pick_has HasL.nil) [0, 1, 4] ((fun a n (_ : Nat) => (fun _ => noInv) a n)) [] Tryz.func147 (by kernel_rfl) (code := _) (by unfold Tryz.f147; rfl) (by kernel_rfl) (by decide) (fun a => ⟨a.2.headD 0, fun h => headD_mem h⟩) (by intro h; first | exact fun _ => rfl | cases h) (by kernel_rfl) ?_
  intro a ha
  obtain ⟨⟨s, p⟩, l⟩ := a
  obtain ⟨h1, h2, h3, h4, h5⟩ : s.length ≤ 2000 ∧ 0 ≤ p ∧ p ≤ 1073741824 ∧ l ≠ [] ∧ l.length ≤ 1073741824 := ha
  have hl : 0 < l.length := List.length_pos_iff.2 h4
  simp -implicitDefEqProofs [cOne, cPick, tTab]
  refine fun _ => ⟨s, p, ⟨rfl, rfl⟩, ⟨h1, h2, h3, by omega⟩, fun y _ hy2 => ?_⟩
  obtain ⟨k1, k2⟩ := hy2 (by omega)
  have hk : y.toNat < l.length := by omega
  have e : Option.map eInt l[y.toNat]? = some (eInt l[y.toNat]) := by simp -implicitDefEqProofs [List.getElem?_eq_getElem hk]
  simp -implicitDefEqProofs [e, eInt, k1, k2]

end Vx
end Go.Proofs.YtnanellmaelipaaGreatDoor
/-
  Arguments opened: bytes.
-/
namespace Go.Proofs.YtnanellmaelipaaGreatDoor
open Go.ChangeShapes Go.WideShapes Go.ChangeAt Go.RowKit
namespace Vx

theorem shp_bytes {T : Nat → Option TI} (hs : ∀ te, T 5 = some te → te.cells = [.int .u8]) {ds : List D} (h : Shp T [.sl 5 1] ds) : ∃ l, ds = [.sl 5 1 (eBytes l)] := by
  cases h with
  | @sl e k te rows ks ds h1 h2 h3 =>
    cases h3
    rw [hs _ h1] at h2
    obtain ⟨l, rfl, _⟩ := rows_map (f := eByte) (p := fun _ => True) (rows := rows) (fun r hr => by
      have := h2 r hr
      cases this with
      | @int k n _ _ q1 q2 =>
        cases q2
        have q3 : IntKind.u8.min ≤ n ∧ n ≤ IntKind.u8.max := by simpa only [Lit.wf, Bool.and_eq_true, decide_eq_true_eq] using q1
        have q4 : IntKind.u8.min = 0 := rfl
        have q5 : IntKind.u8.max = 255 := rfl
        rw [q4, q5] at q3
        refine ⟨UInt8.ofNat n.toNat, ?_, trivial⟩
        have : (UInt8.ofNat n.toNat).toNat = n.toNat := by rw [UInt8.toNat_ofNat']; omega
        simp only [eByte, this]
        congr 2
        omega)
    exact ⟨l, rfl⟩

section
variable {H : Type} {enc : TypeId × Value → H} {W : World} {sp : Nat → Bool} {held : Bool} {r : Reach} {base : Nat}
set_option maxRecDepth 100000 in
theorem open_bytes {v : Value} {d : DataW H} {p : List MemPlace} (hu : Tryz.prog.underlying 22 = some (.slice 5)) (hv : Value.okWide Tryz.prog W r base 22 v)
    (h : DataW.Trod enc Tryz.prog W 0 sp held 22 v d p) : ∃ l f, RdL false W [.sl 5 1 (eBytes l)] [v] f := by
  obtain ⟨a, n, c, rfl⟩ := okWide_slice hu hv
  obtain ⟨fuel, hf⟩ := h
  obtain ⟨ds, f, h1, h2⟩ := rd_trod tTab_ok tTab_closed fuel (t := 22) rfl hf
  obtain ⟨l, rfl⟩ := shp_bytes (fun te ht => by cases ht; rfl) h2
  exact ⟨l, f, h1⟩
end

end Vx
end Go.Proofs.YtnanellmaelipaaGreatDoor
/-
  What is told of the whole program, once for all rows: each by itself, for the checker's memory.
-/
namespace Go.Proofs.YtnanellmaelipaaGreatDoor
namespace Vx
open Go.ChangeShapes Go.WideShapes Go.ChangeAt Go.RowKit

theorem g_laid : laidOutB Tryz.pinned.checked.prog = true := by kernel_rfl
theorem g_maps : mapsRowed Tryz.pinned.checked.prog = true := by kernel_rfl
theorem g_stops : Tryz.pinned.checked.prog.stopsHeard = true := by kernel_rfl
theorem g_enter : Tryz.pinned.checked.prog.mayEnter = true := by kernel_rfl
theorem g_lift : Tryz.pinned.checked.prog.liftsFinal = false := by kernel_rfl
theorem g_main : Tryz.pinned.checked.prog.mainIs = some (Rows.fnMarkNearCard.stood.harness.1, Rows.fnMarkNearCard.stood.harness.2.toList) := by kernel_rfl
theorem g_looks : Rows.fnMarkNearCard.stood.looks = Tryz.pinned.checked.prog.looks [] := by kernel_rfl

end Vx
end Go.Proofs.YtnanellmaelipaaGreatDoor
/-
  Contracts: bytes, names, lines.
-/
namespace Go.Proofs.YtnanellmaelipaaGreatDoor
namespace Vx
open Go.RowKit

def cWithin : Con := .fn 15 (Int × Int × Int) (fun a => [.int .i64 a.1, .int .i64 a.2.1, .int .i64 a.2.2]) (fun _ => True) (fun a => .bool (decide (a.2.1 ≤ a.1) && decide (a.1 ≤ a.2.2))) (fun _ => [])
set_option maxHeartbeats 4000000 in
theorem within_has : Has Tryz.prog 99 cWithin := by
  refine has_walk mixed tTab_ok (l := []) HasL.nil [0, 1, 2, 6] ((fun a n (_ : Nat) => (fun _ => noInv) a n)) [] Tryz.func99 (by kernel_rfl) (code := _) (by unfold Tryz.f99; rfl) (by kernel_rfl) (by decide) (fun _ => ⟨(), trivial⟩) (by intro h; first | exact fun _ => rfl | cases h) (by kernel_rfl) ?_
  intro a _
  obtain ⟨n, lo, hi⟩ := a
  simp -implicitDefEqProofs [cWithin, Con.fn, tTab]
  omega

def cL1In : Con := .fn 15 (Int × Int × Int) (fun a => [.int .i64 a.1, .int .i64 a.2.1, .int .i64 a.2.2]) (fun _ => True) (fun a => .bool (decide (a.2.1 ≤ a.1) && decide (a.1 ≤ a.2.2))) (fun _ => [])
set_option maxHeartbeats 4000000 in
theorem l1In_has : Has Tryz.prog 84 cL1In := by
  refine has_walk mixed tTab_ok (l := []) HasL.nil [0, 1, 2, 6] ((fun a n (_ : Nat) => (fun _ => noInv) a n)) [] Tryz.func84 (by kernel_rfl) (code := _) (by unfold Tryz.f84; rfl) (by kernel_rfl) (by decide) (fun _ => ⟨(), trivial⟩) (by intro h; first | exact fun _ => rfl | cases h) (by kernel_rfl) ?_
  intro a _
  obtain ⟨n, lo, hi⟩ := a
  simp -implicitDefEqProofs [cL1In, Con.fn, tTab]
  omega

def wordB (n : Int) : Bool := (decide (97 ≤ n) && decide (n ≤ 122)) || (decide (48 ≤ n) && decide (n ≤ 57))
def cWordByte : Con := .fn 17 Int (fun a => [.int .u8 a]) (fun _ => True) (fun a => .bool (wordB a)) (fun _ => [])
set_option maxHeartbeats 4000000 in
theorem wordByte_has : Has Tryz.prog 149 cWordByte := by
  refine has_walk mixed tTab_ok (l := []) HasL.nil [0, 2] ((fun a n (_ : Nat) => (fun _ => noInv) a n)) [] Tryz.func149 (by kernel_rfl) (code := _) (by unfold Tryz.f149; rfl) (by kernel_rfl) (by decide) (fun _ => ⟨(), trivial⟩) (by intro h; first | exact fun _ => rfl | cases h) (by kernel_rfl) ?_
  intro a _
  simp -implicitDefEqProofs [cWordByte, Con.fn, tTab, wordB]
  repeat' (first | intro _ | apply And.intro)
  all_goals first | omega | grind

def nameB (s : Str) : Bool := decide (1 ≤ s.length) && decide (s.length ≤ 6) && s.all fun b => wordB b.toNat
def cNameOk : Con := .fn 19 Str (fun s => [.str s]) (fun _ => True) (fun s => .bool (nameB s)) (fun _ => [])
set_option maxHeartbeats 4000000 in
theorem nameOk_has : Has Tryz.prog 91 cNameOk := by
  refine has_walk mixed tTab_ok (l := [(99, cWithin), (149, cWordByte)]) (HasL.cons within_has (HasL.cons wordByte_has HasL.nil)) [0, 2, 3] ((fun a n (_ : Nat) => (fun s _ => ⟨Nat, fun i => ⟨[(0, true, .str s), (2, true, .bool false), (3, true, .int .i64 i)], []⟩, fun i => i ≤ s.length ∧ 1 ≤ s.length ∧ s.length ≤ 6 ∧ (s.take i).all (fun b => wordB b.toNat) = true, fun i => s.length - i⟩) a n)) [] Tryz.func91 (by kernel_rfl) (code := _) (by unfold Tryz.f91; rfl) (by kernel_rfl) (by decide) (fun _ => ⟨(), trivial⟩) (by intro h; first | exact fun _ => rfl | cases h) (by kernel_rfl) ?_
  intro (s : Str) _
  simp -implicitDefEqProofs [cNameOk, Con.fn, tTab, cWithin, cWordByte]
  try dsimp only
  try simp +contextual [eStr, eFile, cast_succ, cast_eq, cast_zero, List.getElem?_eq_getElem, eStrs_set, eFiles_set, eStrs_rep, eFiles_rep, ← eStrs_append, ← eFiles_append, eStrs_take, eStrs_drop, eFiles_take, eFiles_drop, eStrs_snoc, eFiles_snoc, and_assoc]
  repeat' (first | intro _ | apply And.intro)
  all_goals first | omega | grind [all_take, nameB, List.take_succ_eq_append_getElem]

def cL4Name : Con := .fn 35 Str (fun s => [.str s]) (fun _ => True) (fun s => .bool (nameB s)) (fun _ => [])
set_option maxHeartbeats 4000000 in
theorem l4Name_has : Has Tryz.prog 95 cL4Name := by
  refine has_walk mixed tTab_ok (l := [(84, cL1In)]) (HasL.cons l1In_has HasL.nil) [0, 2, 3] ((fun a n (_ : Nat) => (fun s _ => ⟨Nat, fun i => ⟨[(0, true, .str s), (2, true, .bool false), (3, true, .int .i64 i)], []⟩, fun i => i ≤ s.length ∧ (s.take i).all (fun b => wordB b.toNat) = true, fun i => s.length - i⟩) a n)) [] Tryz.func95 (by kernel_rfl) (code := _) (by unfold Tryz.f95; rfl) (by kernel_rfl) (by decide) (fun _ => ⟨(), trivial⟩) (by intro h; first | exact fun _ => rfl | cases h) (by kernel_rfl) ?_
  intro (s : Str) _
  simp -implicitDefEqProofs [cL4Name, Con.fn, tTab, cL1In]
  try dsimp only
  try simp +contextual [eStr, eFile, cast_succ, cast_eq, cast_zero, List.getElem?_eq_getElem, eStrs_set, eFiles_set, eStrs_rep, eFiles_rep, ← eStrs_append, ← eFiles_append, eStrs_take, eStrs_drop, eFiles_take, eFiles_drop, eStrs_snoc, eFiles_snoc, and_assoc]
  repeat' (first | intro _ | apply And.intro)
  all_goals first | omega | grind [all_take, nameB, wordB, List.take_succ_eq_append_getElem]

def lineB (s : Str) : Bool := decide (s.length ≤ 12) && s.all fun b => decide (32 ≤ b.toNat) && decide (b.toNat ≤ 126)
def cLineOk : Con := .fn 23 Str (fun s => [.str s]) (fun _ => True) (fun s => .bool (lineB s)) (fun _ => [])
set_option maxHeartbeats 4000000 in
theorem lineOk_has : Has Tryz.prog 163 cLineOk := by
  refine has_walk mixed tTab_ok (l := []) HasL.nil [0, 2, 3] ((fun a n (_ : Nat) => (fun s _ => ⟨Nat, fun i => ⟨[(0, true, .str s), (2, true, .bool false), (3, true, .int .i64 i)], []⟩, fun i => i ≤ s.length ∧ s.length ≤ 12 ∧ (s.take i).all (fun b => decide (32 ≤ b.toNat) && decide (b.toNat ≤ 126)) = true, fun i => s.length - i⟩) a n)) [] Tryz.func163 (by kernel_rfl) (code := _) (by unfold Tryz.f163; rfl) (by kernel_rfl) (by decide) (fun _ => ⟨(), trivial⟩) (by intro h; first | exact fun _ => rfl | cases h) (by kernel_rfl) ?_
  intro (s : Str) _
  simp -implicitDefEqProofs [cLineOk, Con.fn, tTab]
  try dsimp only
  try simp +contextual [eStr, eFile, cast_succ, cast_eq, cast_zero, List.getElem?_eq_getElem, eStrs_set, eFiles_set, eStrs_rep, eFiles_rep, ← eStrs_append, ← eFiles_append, eStrs_take, eStrs_drop, eFiles_take, eFiles_drop, eStrs_snoc, eFiles_snoc, and_assoc]
  repeat' (first | intro _ | apply And.intro)
  all_goals first | omega | grind [all_take, lineB, List.take_succ_eq_append_getElem]

def cL1Line : Con := .fn 23 Str (fun s => [.str s]) (fun _ => True) (fun s => .bool (lineB s)) (fun _ => [])
set_option maxHeartbeats 4000000 in
theorem l1Line_has : Has Tryz.prog 204 cL1Line := by
  refine has_walk mixed tTab_ok (l := []) HasL.nil [0, 2, 3] ((fun a n (_ : Nat) => (fun s _ => ⟨Nat, fun i => ⟨[(0, true, .str s), (2, true, .bool false), (3, true, .int .i64 i)], []⟩, fun i => i ≤ s.length ∧ (s.take i).all (fun b => decide (32 ≤ b.toNat) && decide (b.toNat ≤ 126)) = true, fun i => s.length - i⟩) a n)) [] Tryz.func204 (by kernel_rfl) (code := _) (by unfold Tryz.f204; rfl) (by kernel_rfl) (by decide) (fun _ => ⟨(), trivial⟩) (by intro h; first | exact fun _ => rfl | cases h) (by kernel_rfl) ?_
  intro (s : Str) _
  simp -implicitDefEqProofs [cL1Line, Con.fn, tTab]
  try dsimp only
  try simp +contextual [eStr, eFile, cast_succ, cast_eq, cast_zero, List.getElem?_eq_getElem, eStrs_set, eFiles_set, eStrs_rep, eFiles_rep, ← eStrs_append, ← eFiles_append, eStrs_take, eStrs_drop, eFiles_take, eFiles_drop, eStrs_snoc, eFiles_snoc, and_assoc]
  repeat' (first | intro _ | apply And.intro)
  all_goals first | omega | grind [all_take, lineB, List.take_succ_eq_append_getElem]

end Vx
end Go.Proofs.YtnanellmaelipaaGreatDoor
/-
  Contracts: texts.
-/
namespace Go.Proofs.YtnanellmaelipaaGreatDoor
namespace Vx
open Go.RowKit

def textB (t : List Str) : Bool := decide (t.length ≤ 10) && t.all lineB
def cTextOk : Con := .fn 18 (List Str) (fun t => [.sl true 1 (eStrs t)]) (fun _ => True) (fun t => .bool (textB t)) (fun _ => [])
set_option maxHeartbeats 4000000 in
theorem textOk_has : Has Tryz.prog 109 cTextOk := by
  refine has_walk mixed tTab_ok (l := [(163, cLineOk)]) (HasL.cons lineOk_has HasL.nil) [0, 2, 4, 8, 9, 10] ((fun a n (_ : Nat) => (fun t _ => ⟨Nat, fun i => ⟨[(2, true, .bool false), (8, true, .sl true 1 (eStrs t)), (9, true, .int .i64 t.length), (10, true, .int .i64 i)], []⟩, fun i => i ≤ t.length ∧ t.length ≤ 10 ∧ (t.take i).all lineB = true, fun i => t.length - i⟩) a n)) [] Tryz.func109 (by kernel_rfl) (code := _) (by unfold Tryz.f109; rfl) (by kernel_rfl) (by decide) (fun _ => ⟨(), trivial⟩) (by intro h; first | exact fun _ => rfl | cases h) (by kernel_rfl) ?_
  intro (t : List Str) _
  simp -implicitDefEqProofs [cTextOk, Con.fn, tTab, cLineOk]
  try dsimp only
  try simp +contextual [eStr, eFile, cast_succ, cast_eq, cast_zero, List.getElem?_eq_getElem, eStrs_set, eFiles_set, eStrs_rep, eFiles_rep, ← eStrs_append, ← eFiles_append, eStrs_take, eStrs_drop, eFiles_take, eFiles_drop, eStrs_snoc, eFiles_snoc, and_assoc]
  repeat' (first | intro _ | apply And.intro)
  all_goals first | omega | grind [all_take, textB, List.take_succ_eq_append_getElem]

def cL1Ok : Con := .fn 19 (List Str) (fun t => [.sl true 1 (eStrs t)]) (fun _ => True) (fun t => .bool (textB t)) (fun _ => [])
set_option maxHeartbeats 4000000 in
theorem l1Ok_has : Has Tryz.prog 165 cL1Ok := by
  refine has_walk mixed tTab_ok (l := [(204, cL1Line)]) (HasL.cons l1Line_has HasL.nil) [0, 2, 3] ((fun a n (_ : Nat) => (fun t _ => ⟨Nat, fun i => ⟨[(0, true, .sl true 1 (eStrs t)), (2, true, .bool false), (3, true, .int .i64 i)], []⟩, fun i => i ≤ t.length ∧ (t.take i).all lineB = true, fun i => t.length - i⟩) a n)) [] Tryz.func165 (by kernel_rfl) (code := _) (by unfold Tryz.f165; rfl) (by kernel_rfl) (by decide) (fun _ => ⟨(), trivial⟩) (by intro h; first | exact fun _ => rfl | cases h) (by kernel_rfl) ?_
  intro (t : List Str) _
  simp -implicitDefEqProofs [cL1Ok, Con.fn, tTab, cL1Line]
  try dsimp only
  try simp +contextual [eStr, eFile, cast_succ, cast_eq, cast_zero, List.getElem?_eq_getElem, eStrs_set, eFiles_set, eStrs_rep, eFiles_rep, ← eStrs_append, ← eFiles_append, eStrs_take, eStrs_drop, eFiles_take, eFiles_drop, eStrs_snoc, eFiles_snoc, and_assoc]
  repeat' (first | intro _ | apply And.intro)
  all_goals first | omega | grind [all_take, textB, List.take_succ_eq_append_getElem]

/-- What is left of a size. -/
def szL : List Str → Int → Int
  | [], l => l
  | s :: r, l => if l - s.length < 0 then -1 else szL r (l - s.length)
def szStrs (a : List Str) (l : Int) : Int := if l - a.length < 0 then -1 else szL a (l - a.length)
theorem szL_step {a : List Str} {i : Nat} {l : Int} (h : i < a.length) : szL (a.drop i) l = if l - a[i].length < 0 then -1 else szL (a.drop (i + 1)) (l - a[i].length) := by
  rw [List.drop_eq_getElem_cons h]; rfl
theorem szL_end {a : List Str} {i : Nat} {l : Int} (h : a.length ≤ i) : szL (a.drop i) l = l := by
  rw [List.drop_eq_nil_of_le h]; rfl
end Vx
end Go.Proofs.YtnanellmaelipaaGreatDoor
/-
  Contracts: sizes, copies and comparisons of files.
-/
namespace Go.Proofs.YtnanellmaelipaaGreatDoor
namespace Vx
open Go.RowKit

abbrev ownStrs (h : Nat) (a : List Str) : List (Nat × Blk) := [(h, .own 9 1 true (eStrs a))]
abbrev ownFiles (h : Nat) (a : List FileD) : List (Nat × Blk) := [(h, .own 61 2 true (eFiles a))]

def szF (f : FileD) (l : Int) : Int := if l - f.path.length < 0 then -1 else if szStrs f.text (l - f.path.length) < 0 then -1 else szStrs f.text (l - f.path.length)
end Vx
end Go.Proofs.YtnanellmaelipaaGreatDoor
/-
  Contracts: a file's copy.
-/
namespace Go.Proofs.YtnanellmaelipaaGreatDoor
namespace Vx
open Go.RowKit

end Vx
end Go.Proofs.YtnanellmaelipaaGreatDoor
/-
  Contracts: sizes, copies and comparisons of files (2).
-/
namespace Go.Proofs.YtnanellmaelipaaGreatDoor
namespace Vx
open Go.RowKit

def szFL : List FileD → Int → Int
  | [], l => l
  | f :: r, l => if szF f l < 0 then -1 else szFL r (szF f l)
def szFiles (a : List FileD) (l : Int) : Int := if l - a.length < 0 then -1 else szFL a (l - a.length)
theorem szFL_step {a : List FileD} {i : Nat} {l : Int} (h : i < a.length) : szFL (a.drop i) l = if szF a[i] l < 0 then -1 else szFL (a.drop (i + 1)) (szF a[i] l) := by
  rw [List.drop_eq_getElem_cons h]; rfl
theorem szFL_end {a : List FileD} {i : Nat} {l : Int} (h : a.length ≤ i) : szFL (a.drop i) l = l := by
  rw [List.drop_eq_nil_of_le h]; rfl
theorem szL_le : ∀ {a : List Str} {l : Int}, 0 ≤ l → szL a l ≤ l := by
  intro a
  induction a with
  | nil => intro l _; exact Int.le_refl l
  | cons s r ih =>
    intro l h
    simp only [szL]
    split
    · omega
    · have := ih (l := l - s.length) (by omega); omega
theorem szStrs_le {a : List Str} {l : Int} (h : 0 ≤ l) : szStrs a l ≤ l := by
  unfold szStrs
  split
  · omega
  · have := szL_le (a := a) (l := l - a.length) (by omega); omega
theorem szF_le {f : FileD} {l : Int} (h : 0 ≤ l) : szF f l ≤ l := by
  unfold szF
  split
  · omega
  · split
    · omega
    · have := szStrs_le (a := f.text) (l := l - f.path.length) (by omega); omega
end Vx
end Go.Proofs.YtnanellmaelipaaGreatDoor
/-
  Contracts: prefixes, paths.
-/
namespace Go.Proofs.YtnanellmaelipaaGreatDoor
namespace Vx
open Go.RowKit

def prefB (p s : Str) : Bool := decide (p.length ≤ s.length) && decide (s.take p.length = p)
def cSlHasPrefix : Con := .fn 18 (Str × Str) (fun a => [.str a.1, .str a.2]) (fun _ => True) (fun a => .bool (prefB a.2 a.1)) (fun _ => [])
set_option maxHeartbeats 4000000 in
theorem slHasPrefix_has : Has Tryz.prog 222 cSlHasPrefix := by
  refine has_walk mixed tTab_ok (l := []) HasL.nil [0, 1, 4] ((fun a n (_ : Nat) => (fun _ => noInv) a n)) [] Tryz.func222 (by kernel_rfl) (code := _) (by unfold Tryz.f222; rfl) (by kernel_rfl) (by decide) (fun _ => ⟨(), trivial⟩) (by intro h; first | exact fun _ => rfl | cases h) (by kernel_rfl) ?_
  intro a _
  obtain ⟨s, p⟩ := a
  simp -implicitDefEqProofs [cSlHasPrefix, Con.fn, tTab, prefB]
  try dsimp only
  try simp +contextual [eStr, eFile, cast_succ, cast_eq, cast_zero, List.getElem?_eq_getElem, eStrs_set, eFiles_set, eStrs_rep, eFiles_rep, ← eStrs_append, ← eFiles_append, eStrs_take, eStrs_drop, eFiles_take, eFiles_drop, eStrs_snoc, eFiles_snoc, and_assoc]
  repeat' (first | intro _ | apply And.intro)
  all_goals first | omega | grind [all_take]

def cHasPrefix : Con := .fn 8 (Str × Str) (fun a => [.str a.1, .str a.2]) (fun _ => True) (fun a => .bool (prefB a.2 a.1)) (fun _ => [])
set_option maxHeartbeats 4000000 in
theorem hasPrefix_has : Has Tryz.prog 198 cHasPrefix := by
  refine has_walk mixed tTab_ok (l := [(222, cSlHasPrefix)]) (HasL.cons slHasPrefix_has HasL.nil) [0, 1, 4] ((fun a n (_ : Nat) => (fun _ => noInv) a n)) [] Tryz.func198 (by kernel_rfl) (code := _) (by unfold Tryz.f198; rfl) (by kernel_rfl) (by decide) (fun _ => ⟨(), trivial⟩) (by intro h; first | exact fun _ => rfl | cases h) (by kernel_rfl) ?_
  intro a _
  obtain ⟨s, p⟩ := a
  simp -implicitDefEqProofs [cHasPrefix, Con.fn, tTab, cSlHasPrefix]
  try dsimp only
  try simp +contextual [eStr, eFile, cast_succ, cast_eq, cast_zero, List.getElem?_eq_getElem, eStrs_set, eFiles_set, eStrs_rep, eFiles_rep, ← eStrs_append, ← eFiles_append, eStrs_take, eStrs_drop, eFiles_take, eFiles_drop, eStrs_snoc, eFiles_snoc, and_assoc]
  repeat' (first | intro _ | apply And.intro)
  all_goals first | omega | grind [all_take]

def inB (d p : Str) : Bool := decide (d.length < p.length) && decide (p.take d.length = d) && decide (p.getD d.length 0 = 47)
theorem u8_eq (a : UInt8) : ((a.toNat : Int) = 47) = (a = 47) := by
  apply propext
  constructor
  · intro h
    have : a.toNat = 47 := by omega
    exact UInt8.toNat_inj.1 (by simpa using this)
  · rintro rfl; rfl
def cL4In : Con := .fn 25 (Str × Str) (fun a => [.str a.1, .str a.2]) (fun _ => True) (fun a => .bool (inB a.1 a.2)) (fun _ => [])
set_option maxHeartbeats 4000000 in
theorem l4In_has : Has Tryz.prog 166 cL4In := by
  refine has_walk mixed tTab_ok (l := []) HasL.nil [0, 1, 4] ((fun a n (_ : Nat) => (fun _ => noInv) a n)) [] Tryz.func166 (by kernel_rfl) (code := _) (by unfold Tryz.f166; rfl) (by kernel_rfl) (by decide) (fun _ => ⟨(), trivial⟩) (by intro h; first | exact fun _ => rfl | cases h) (by kernel_rfl) ?_
  intro a _
  obtain ⟨d, p⟩ := a
  simp -implicitDefEqProofs [cL4In, Con.fn, tTab, inB, u8_eq]
  try dsimp only
  try simp +contextual [eStr, eFile, cast_succ, cast_eq, cast_zero, List.getElem?_eq_getElem, eStrs_set, eFiles_set, eStrs_rep, eFiles_rep, ← eStrs_append, ← eFiles_append, eStrs_take, eStrs_drop, eFiles_take, eFiles_drop, eStrs_snoc, eFiles_snoc, and_assoc, u8_eq]
  repeat' (first | intro _ | apply And.intro)
  all_goals first | omega | grind [all_take, u8_eq]

/-- A text cut at a byte, so many times at most; c: what is ahead of the rest in its piece; n: the pieces ahead. -/
def cutL (b : Int) (most : Nat) : Str → Str → Nat → List Str
  | [], c, _ => [c]
  | x :: r, c, n => if n < most then (if (x.toNat : Int) = b then c :: cutL b most r [] (n + 1) else cutL b most r (c ++ [x]) n) else [c ++ x :: r]
theorem cutL_stop {b : Int} {most : Nat} {r c : Str} {n : Nat} (h : most ≤ n) : cutL b most r c n = [c ++ r] := by
  cases r with
  | nil => simp [cutL]
  | cons x r => simp [cutL, Nat.not_lt.2 h]
def pieceAt (s : Str) (fr i : Nat) : Str := (s.drop fr).take (i - fr)
theorem piece_end {s : Str} {fr i : Nat} (h : fr ≤ i) : pieceAt s fr i ++ s.drop i = s.drop fr := by
  unfold pieceAt
  have : s.drop i = (s.drop fr).drop (i - fr) := by rw [List.drop_drop]; congr 1; omega
  rw [this, List.take_append_drop]
theorem piece_len {s : Str} {fr i : Nat} (h : s.length ≤ i) (hf : fr ≤ i) : pieceAt s fr i = s.drop fr := by
  unfold pieceAt
  exact List.take_of_length_le (by rw [List.length_drop]; omega)
theorem piece_zero {s : Str} {fr : Nat} : pieceAt s fr fr = [] := by simp [pieceAt]
theorem piece_step {s : Str} {fr i : Nat} (h : i < s.length) (hf : fr ≤ i) : pieceAt s fr (i + 1) = pieceAt s fr i ++ [s[i]] := by
  unfold pieceAt
  rw [show i + 1 - fr = (i - fr) + 1 by omega, List.take_succ_eq_append_getElem (by rw [List.length_drop]; omega)]
  congr 2
  rw [List.getElem_drop]
  congr 1
  omega
theorem cut_step {b : Int} {most : Nat} {s : Str} {fr i n : Nat} (h : i < s.length) (hf : fr ≤ i) (hn : n < most) :
    cutL b most (s.drop i) (pieceAt s fr i) n = if (s[i].toNat : Int) = b then pieceAt s fr i :: cutL b most (s.drop (i + 1)) (pieceAt s (i + 1) (i + 1)) (n + 1) else cutL b most (s.drop (i + 1)) (pieceAt s fr (i + 1)) n := by
  rw [List.drop_eq_getElem_cons h, piece_zero, piece_step h hf]
  simp [cutL, hn]
theorem cut_end {b : Int} {most : Nat} {s : Str} {fr i n : Nat} (h : s.length ≤ i) (hf : fr ≤ i) : cutL b most (s.drop i) (pieceAt s fr i) n = [s.drop fr] := by
  rw [List.drop_eq_nil_of_le h, ← piece_len h hf]; rfl
theorem cut_most {b : Int} {most : Nat} {s : Str} {fr i n : Nat} (h : most ≤ n) (hf : fr ≤ i) : cutL b most (s.drop i) (pieceAt s fr i) n = [s.drop fr] := by
  rw [cutL_stop h, piece_end hf]
def cutB (s : Str) (b : Int) (most : Nat) : List Str := cutL b most s [] 0
theorem cut_start {b : Int} {most : Nat} {s : Str} : cutL b most (s.drop 0) (pieceAt s 0 0) 0 = cutB s b most := rfl

end Vx
end Go.Proofs.YtnanellmaelipaaGreatDoor
/-
  Contracts: a text cut at a byte; paths (the reference's).
-/
namespace Go.Proofs.YtnanellmaelipaaGreatDoor
namespace Vx
open Go.RowKit

theorem piece_eq (s : Str) (fr i : Nat) : (s.drop fr).take (i - fr) = pieceAt s fr i := rfl
theorem piece_full (s : Str) (fr : Nat) : pieceAt s fr s.length = s.drop fr := by
  unfold pieceAt
  exact List.take_of_length_le (by rw [List.length_drop]; omega)

def cL1Cut : Con := .fn 43 (Str × Int × Nat) (fun a => [.str a.1, .int .u8 a.2.1, .int .i64 a.2.2]) (fun a => a.2.2 ≤ 1000000) (fun a => .own 8 1 (eStrs (cutB a.1 a.2.1 a.2.2))) (fun a => ownStrs 8 (cutB a.1 a.2.1 a.2.2))
set_option maxHeartbeats 4000000 in
theorem l1Cut_has : Has Tryz.prog 203 cL1Cut := by
  refine has_walk mixed tTab_ok (l := []) HasL.nil [0, 1, 2, 6, 7, 8, 9] ((fun a n (_ : Nat) => (fun a _ => ⟨List Str × Nat × Nat, fun t => ⟨[(0, true, .str a.1), (1, true, .int .u8 a.2.1), (2, true, .int .i64 a.2.2), (6, true, .nil), (7, true, .own 9 1 (eStrs t.1)), (8, true, .int .i64 t.2.1), (9, true, .int .i64 t.2.2)], ownStrs 9 t.1⟩, fun t => t.2.1 ≤ t.2.2 ∧ t.2.2 ≤ a.1.length ∧ t.1.length ≤ a.2.2 ∧ t.1 ++ cutL a.2.1 a.2.2 (a.1.drop t.2.2) (pieceAt a.1 t.2.1 t.2.2) t.1.length = cutB a.1 a.2.1 a.2.2, fun t => a.1.length - t.2.2⟩) a n)) [] Tryz.func203 (by kernel_rfl) (code := _) (by unfold Tryz.f203; rfl) (by kernel_rfl) (by decide) (fun _ => ⟨(), trivial⟩) (by intro h; first | exact fun _ => rfl | cases h) (by kernel_rfl) ?_
  intro a ha
  obtain ⟨s, b, most⟩ := a
  replace ha : most ≤ 1000000 := ha
  have hs : cutL b most s (pieceAt s 0 0) 0 = cutB s b most := rfl
  simp -implicitDefEqProofs [cL1Cut, Con.fn, tTab]
  try dsimp only
  try simp +contextual [eStr, eFile, cast_succ, cast_eq, cast_zero, List.getElem?_eq_getElem, eStrs_set, eFiles_set, eStrs_rep, eFiles_rep, ← eStrs_append, ← eFiles_append, eStrs_take, eStrs_drop, eFiles_take, eFiles_drop, eStrs_snoc, eFiles_snoc, and_assoc, piece_eq, piece_full]
  repeat' (first | intro _ | apply And.intro)
  all_goals first | omega | grind [all_take, cut_step, cut_end, cut_most]

end Vx
end Go.Proofs.YtnanellmaelipaaGreatDoor
/-
  Contracts: paths and trees (the reference's).
-/
namespace Go.Proofs.YtnanellmaelipaaGreatDoor
namespace Vx
open Go.RowKit

theorem cast_three (a : Nat) : ((a : Int) = 3) = (a = 3) := by apply propext; omega

def pathS (s : Str) : Bool := (cutB s 47 3).all nameB && decide ((cutB s 47 3).length ≤ 3)
def cL4Path : Con := .fn 22 Str (fun s => [.str s]) (fun _ => True) (fun s => .bool (pathS s)) (fun _ => [])
set_option maxHeartbeats 4000000 in
theorem l4Path_has : Has Tryz.prog 164 cL4Path := by
  refine has_walk mixed tTab_ok (l := [(203, cL1Cut), (95, cL4Name)]) (HasL.cons l1Cut_has (HasL.cons l4Name_has HasL.nil)) [0, 2, 3, 4] ((fun a n (_ : Nat) => (fun s _ => ⟨Nat, fun i => ⟨[(2, true, .bool false), (3, true, .own 9 1 (eStrs (cutB s 47 3))), (4, true, .int .i64 i)], ownStrs 9 (cutB s 47 3)⟩, fun i => i ≤ (cutB s 47 3).length ∧ ((cutB s 47 3).take i).all nameB = true, fun i => (cutB s 47 3).length - i⟩) a n)) [] Tryz.func164 (by kernel_rfl) (code := _) (by unfold Tryz.f164; rfl) (by kernel_rfl) (by decide) (fun _ => ⟨(), trivial⟩) (by intro h; first | exact fun _ => rfl | cases h) (by kernel_rfl) ?_
  intro (s : Str) _
  simp -implicitDefEqProofs [cL4Path, Con.fn, tTab, cL1Cut, cL4Name]
  try dsimp only
  try simp +contextual [eStr, eFile, cast_succ, cast_eq, cast_zero, List.getElem?_eq_getElem, eStrs_set, eFiles_set, eStrs_rep, eFiles_rep, ← eStrs_append, ← eFiles_append, eStrs_take, eStrs_drop, eFiles_take, eFiles_drop, eStrs_snoc, eFiles_snoc, and_assoc, cast_three]
  repeat' (first | intro _ | apply And.intro)
  all_goals first | omega | grind [all_take, pathS, List.take_succ_eq_append_getElem]

end Vx
end Go.Proofs.YtnanellmaelipaaGreatDoor
/-
  Contracts: trees (the reference's).
-/
namespace Go.Proofs.YtnanellmaelipaaGreatDoor
namespace Vx
open Go.RowKit

def leqS (a b : Str) : Bool := Go.Op.bytesLess a b || decide (a = b)
def okHead (t : List FileD) (i : Nat) : Bool := pathS (t.getD i default).path && textB (t.getD i default).text && (decide (i = 0) || !leqS (t.getD i default).path (t.getD (i - 1) default).path)
def noIn (t : List FileD) (i : Nat) : Bool := t.all fun g => !inB (t.getD i default).path g.path
def treeS (t : List FileD) : Bool := (List.range t.length).all (fun i => okHead t i && noIn t i) && decide (t.length ≤ 8)
def cL4Ok : Con := .fn 65 (List FileD) (fun t => [.sl true 2 (eFiles t)]) (fun _ => True) (fun t => .bool (treeS t)) (fun _ => [])
def l4OkO (t : List FileD) : Inv := ⟨Nat, fun i => ⟨[(0, true, .sl true 2 (eFiles t)), (2, true, .bool false), (3, true, .int .i64 i)], []⟩, fun i => i ≤ t.length ∧ ∀ j, j < i → okHead t j = true ∧ noIn t j = true, fun i => t.length - i⟩
def l4OkI (t : List FileD) (g : Nat) : Inv := ⟨Nat, fun k => ⟨[(0, true, .sl true 2 (eFiles t)), (2, true, .bool false), (3, true, .int .i64 g), (4, true, .int .i64 k)], []⟩, fun x => g < t.length ∧ x ≤ t.length ∧ (∀ j, j < g → okHead t j = true ∧ noIn t j = true) ∧ okHead t g = true ∧ ∀ k, k < x → inB (t.getD g default).path (t.getD k default).path = false, fun x => t.length - x⟩
def l4OkInv (t : List FileD) (n g : Nat) : Inv := if n = 2 then l4OkO t else l4OkI t g
theorem l4OkInv_2 (t : List FileD) (g : Nat) : l4OkInv t 2 g = l4OkO t := rfl
theorem l4OkInv_7 (t : List FileD) (g : Nat) : l4OkInv t 7 g = l4OkI t g := rfl
set_option maxRecDepth 8000
set_option maxHeartbeats 4000000 in
theorem l4Ok_has : Has Tryz.prog 110 cL4Ok := by
  refine has_walk mixed tTab_ok (l := [(164, cL4Path), (165, cL1Ok), (166, cL4In), (84, cL1In)]) (HasL.cons l4Path_has (HasL.cons l1Ok_has (HasL.cons l4In_has (HasL.cons l1In_has HasL.nil)))) [0, 2, 3, 4] (fun t => l4OkInv t) [] Tryz.func110 (by kernel_rfl) (code := _) (by unfold Tryz.f110; rfl) (by kernel_rfl) (by decide) (fun _ => ⟨(), trivial⟩) (by intro h; first | exact fun _ => rfl | cases h) (by kernel_rfl) ?_
  intro (t : List FileD) _
  have hs : ∀ i, t.length ≤ i → ¬ i < t.length := by omega
  have hE : treeS t = true ↔ (∀ i, i < t.length → okHead t i = true ∧ noIn t i = true) ∧ t.length ≤ 8 := by
    simp [treeS]
  have hF : ∀ i, i < t.length → (okHead t i && noIn t i) = false → treeS t = false := by
    intro i hi h
    rcases hb : treeS t with _ | _
    · rfl
    · exact absurd ((hE.1 hb).1 i hi) (by simpa using h)
  have hH : ∀ i, i < t.length → okHead t i = false → treeS t = false := fun i hi h => hF i hi (by simp [h])
  have hN : ∀ i k, i < t.length → k < t.length → inB (t.getD i default).path (t.getD k default).path = true → treeS t = false := by
    intro i k hi hk h
    refine hF i hi ?_
    have : noIn t i = false := by
      simp only [noIn, List.all_eq_false]
      exact ⟨t[k], List.getElem_mem hk, by simp [List.getD_eq_getElem?_getD, hk] at h ⊢; simpa [hk] using h⟩
    simp [this]
  have hI : ∀ i, (∀ k, k < t.length → inB (t.getD i default).path (t.getD k default).path = false) → noIn t i = true := by
    intro i h
    simp only [noIn, List.all_eq_true]
    intro g hg
    obtain ⟨k, hk, rfl⟩ := List.getElem_of_mem hg
    have := h k hk
    simpa [List.getD_eq_getElem?_getD, hk] using this
  simp -implicitDefEqProofs [cL4Ok, Con.fn, tTab, cL4Path, cL1Ok, cL4In, cL1In, l4OkInv_2, l4OkInv_7, l4OkO, l4OkI]
  try dsimp only
  intro i hi hj hl
  have e1 : ∀ k (h : k < t.length), Option.map eFile t[k]? = some (eFile t[k]) := by
    intro k h
    simp [List.getElem?_eq_getElem h]
  have e2 : i < t.length → i - 1 < t.length := by omega
  constructor
  · intro hlt
    have e3 := e1 i hlt
    have e4 := e1 (i - 1) (e2 hlt)
    simp [hlt, e2 hlt, e3, e4, eFile, eStr, D.asStr, D.asRows]
    try simp +contextual [eStr, eFile, cast_succ, cast_eq, cast_zero, List.getElem?_eq_getElem, eStrs_set, eFiles_set, eStrs_rep, eFiles_rep, ← eStrs_append, ← eFiles_append, eStrs_take, eStrs_drop, eFiles_take, eFiles_drop, eStrs_snoc, eFiles_snoc, and_assoc]
    repeat' (first | intro _ | apply And.intro)
    all_goals first | omega | grind [all_take, okHead, leqS]
  · have hX : t.length ≤ i → treeS t = decide (t.length ≤ 8) := by
      intro h
      have : treeS t = true ↔ t.length ≤ 8 := by
        rw [hE]
        exact ⟨fun h => h.2, fun h8 => ⟨fun j hj' => hj j (by omega), h8⟩⟩
      cases h' : treeS t <;> simp_all
    try simp +contextual [eStr, eFile, cast_succ, cast_eq, cast_zero, List.getElem?_eq_getElem, eStrs_set, eFiles_set, eStrs_rep, eFiles_rep, ← eStrs_append, ← eFiles_append, eStrs_take, eStrs_drop, eFiles_take, eFiles_drop, eStrs_snoc, eFiles_snoc, and_assoc]
    repeat' (first | intro _ | apply And.intro)
    all_goals first | omega | grind [all_take, okHead, leqS]

end Vx
end Go.Proofs.YtnanellmaelipaaGreatDoor
/-
  Contracts: the number of a tree's lines (the reference's).
-/
namespace Go.Proofs.YtnanellmaelipaaGreatDoor
namespace Vx
open Go.RowKit

def nLines (t : List FileD) : Nat := (t.map fun f => f.text.length).sum
def statS (t : List FileD) : Int := if treeS t then (nLines t : Int) else -1
theorem nLines_take (t : List FileD) (i : Nat) (h : i < t.length) : nLines (t.take (i + 1)) = nLines (t.take i) + t[i].text.length := by
  unfold nLines
  rw [List.take_succ_eq_append_getElem h, List.map_append, List.sum_append]
  rfl
theorem treeS_le (t : List FileD) (h : treeS t = true) : t.length ≤ 8 ∧ ∀ f ∈ t, f.text.length ≤ 64 := by
  simp only [treeS, Bool.and_eq_true, decide_eq_true_eq, List.all_eq_true, List.mem_range, okHead] at h
  refine ⟨h.2, fun f hf => ?_⟩
  obtain ⟨i, hi, rfl⟩ := List.getElem_of_mem hf
  have := (h.1 i hi).1.1.2
  simp [List.getD_eq_getElem?_getD, hi, textB] at this
  omega
theorem nLines_le (t : List FileD) (h : ∀ f ∈ t, f.text.length ≤ 64) : nLines t ≤ 64 * t.length := by
  induction t with
  | nil => simp [nLines]
  | cons f r ih =>
    have h1 := h f (by simp)
    have h2 := ih (fun g hg => h g (by simp [hg]))
    simp [nLines] at h2 ⊢
    omega
theorem nLines_take_le (t : List FileD) (h : treeS t = true) (i : Nat) : nLines (t.take i) ≤ 512 := by
  have h1 := treeS_le t h
  have h2 := nLines_le (t.take i) (fun f hf => h1.2 f (List.mem_of_mem_take hf))
  have : (t.take i).length ≤ t.length := by simp; omega
  omega

end Vx
end Go.Proofs.YtnanellmaelipaaGreatDoor
/-
  Contracts of functions that read scalars alone, out of their calls; the library's search functions at one byte.
-/
namespace Go.Proofs.YtnanellmaelipaaGreatDoor
namespace Vx
open Go.RowKit

/-- Scalars. -/
def scal : AV → Option Value
  | .int k n => some (.int k n)
  | .bool b => some (.bool b)
  | .str s => some (.string ⟨s.toArray⟩)
  | _ => none

theorem scal_rel {w m β c v x u} (h : RelL w m β c [v] [u]) (hs : scal v = some x) : u = x := by
  cases v <;> simp only [scal, Option.some.injEq, reduceCtorEq] at hs
  all_goals cases h; exact hs

theorem scals_rel {w m β c} : ∀ {vs : List AV} {us xs : List Value}, RelL w m β c vs us → vs.mapM scal = some xs → us = xs := by
  intro vs
  induction vs with
  | nil => intro us xs h hm; cases h; simp at hm; exact hm.symm
  | cons v vs ih =>
    intro us xs h hm
    obtain ⟨u, us', rfl, h1, h2⟩ := h.uncons
    rw [List.mapM_cons] at hm
    cases hv : scal v with
    | none => rw [hv] at hm; simp at hm
    | some x =>
      rw [hv] at hm
      cases hvs : vs.mapM scal with
      | none => rw [hvs] at hm; simp at hm
      | some ys =>
        rw [hvs] at hm
        simp at hm
        subst hm
        rw [scal_rel h1 hv, ih h2 hvs]

theorem rel_scal {w m β c v x} (hs : scal v = some x) (hok : ∀ s, v = .str s → s.length ≤ maxLen) : RelL w m β c [v] [x] := by
  cases v <;> simp only [scal, Option.some.injEq, reduceCtorEq] at hs
  all_goals subst hs
  · exact .int .lnil
  · exact .bool .lnil
  · exact .str (hok _ rfl) .lnil

/-- The arguments, off the first state. -/
theorem start_rel {c : Cx} {k : Con} {x : k.A} {vs : List Value} {w β fp} (hl : vs.length = (k.args x).length) (S : SatI c (k.start2 x) ⟨vs.toArray ++ Array.replicate (k.n - vs.length) undef, []⟩ w β fp) :
    RelL w (k.start2 x).m β c (k.args x) vs := by
  have key : ∀ (i : Nat) (v : AV) (u : Value), (k.args x)[i]? = some v → vs[i]? = some u → RelL w (k.start2 x).m β c [v] [u] := by
    intro i v u hv hu
    have := (S.env i true v (by simp [Con.start2, hv])).2.1 rfl
    have hi : i < vs.length := (List.getElem?_eq_some_iff.1 hu).1
    have e : (vs.toArray ++ Array.replicate (k.n - vs.length) undef).getD i undef = u := by
      rw [Array.getD_eq_getD_getElem?, Array.getElem?_append_left (by simpa using hi)]
      simp [hu]
    rw [e] at this
    exact this
  clear S
  generalize k.args x = xs at hl key
  induction xs generalizing vs with
  | nil => cases vs with | nil => exact .lnil | cons => simp at hl
  | cons v xs ih =>
    cases vs with
    | nil => simp at hl
    | cons u vs =>
      exact (key 0 v u rfl rfl).append (ih (by simpa using hl) fun i v' u' h1 h2 => key (i + 1) v' u' h1 h2)

/-- A contract of a function that reads scalars alone, out of its calls. -/
theorem has_pure {P : Program} {f : Nat} {n : Nat} {A : Type} {args : A → List AV} {pre : A → Prop} {res : A → AV} {rv : A → Value}
    (henter : ∀ args w, (callFunc f args).run P w = .ok (.enter f args) w) (hres : ∀ a, scal (res a) = some (rv a)) (hstr : ∀ a s, pre a → res a = .str s → s.length ≤ maxLen)
    (h : ∀ a vs w, pre a → (args a).mapM scal = some vs → Calls P f vs.toArray w fun e w' => e = .returned (rv a) ∧ w' = w) (hsc : ∀ a, ∃ vs, (args a).mapM scal = some vs) :
    Has P f (.fn n A args pre res (fun _ => [])) := by
  refine ⟨henter, fun _ => ⟨(), trivial⟩, fun _ _ => rfl, ?_, trivial, .inl rfl⟩
  intro a hp c _ vs β fp hcn hpins hl1 hl2 S
  obtain ⟨us, hus⟩ := hsc a
  have hvs : vs = us := scals_rel (start_rel hl1 S) hus
  subst hvs
  refine (h a vs c.w0 hp hus).mono ?_
  rintro e w' ⟨rfl, rfl⟩
  refine ⟨(), trivial, rv a, rfl, β, fp, ⟨Array.replicate c.n undef, []⟩, ⟨?_, ?_, ?_, ?_, ?_, S.fg, S.old, S.os, S.tape, S.output, S.size, rfl, by simp, ?_⟩, ?_⟩
  · intro t g av ht; cases ht
  · intro h blk hm; cases hm
  · intro h blk hm; cases hm
  · intro h h' blk blk' hm; cases hm
  · intro h blk hm; cases hm
  · rw [hpins]; intro p hp; simp [Con.pins2] at hp
  · exact rel_scal (hres a) (fun s hs => hstr a s hp hs)

set_option maxHeartbeats 1000000 in
set_option maxRecDepth 100000 in
theorem indexByte_call (s : ByteArray) (c : Int) (w : World) :
    Calls Tryz.prog 291 #[.string s, .int .u8 c] w fun e w' => e = .returned (.int .i64 (Lib.indexByte s.data.toList c.toNat.toUInt8)) ∧ w' = w := by
  go_enter Tryz.func291, Tryz.ntmps291
  go_wp2
  rw [run_callFunc_extern Tryz.func296 (by kernel_rfl) (by kernel_rfl) (by kernel_rfl) (e := Extern.BytealgIndexByte.indexByte) (by kernel_rfl), Lib.run_indexByteString]
  simp only [Result.andThen]
  rw [Oper.upon_value]
  go_wp2
  go_ret
  exact ⟨rfl, rfl⟩

set_option maxHeartbeats 2000000 in
set_option maxRecDepth 100000 in
theorem indexOne_call (s : ByteArray) (c : UInt8) (w : World) :
    Calls Tryz.prog 283 #[.string s, .string ⟨#[c]⟩] w fun e w' => e = .returned (.int .i64 (Lib.indexByte s.data.toList c)) ∧ w' = w := by
  go_enter Tryz.func283, Tryz.ntmps283
  go_wp2_with (go_at_call 291; refine (indexByte_call _ _ _).mono ?_; rintro e w' ⟨rfl, rfl⟩)
  · have h : ([c] == s.toList) = true := by assumption
    go_ret
    refine ⟨?_, rfl⟩
    have e : s.data.toList = [c] := by rw [← Lib.toList_data]; exact (beq_iff_eq.1 h).symm
    rw [e]
    simp [Lib.indexByte]
  · go_ret
    exact ⟨rfl, rfl⟩

set_option maxHeartbeats 2000000 in
set_option maxRecDepth 100000 in
theorem stringsIndexOne_call (s : ByteArray) (c : UInt8) (w : World) :
    Calls Tryz.prog 259 #[.string s, .string ⟨#[c]⟩] w fun e w' => e = .returned (.int .i64 (Lib.indexByte s.data.toList c)) ∧ w' = w := by
  go_enter Tryz.func259, Tryz.ntmps259
  go_wp2_with (go_at_call 283; refine (indexOne_call _ _ _).mono ?_; rintro e w' ⟨rfl, rfl⟩)
  go_ret
  exact ⟨rfl, rfl⟩

set_option maxHeartbeats 1000000 in
set_option maxRecDepth 100000 in
theorem countOne_call (s : ByteArray) (c : UInt8) (w : World) :
    Calls Tryz.prog 258 #[.string s, .string ⟨#[c]⟩] w fun e w' => e = .returned (.int .i64 (Lib.countByte s.data.toList c)) ∧ w' = w := by
  go_enter Tryz.func258, Tryz.ntmps258
  go_wp2
  rw [run_callFunc_extern Tryz.func282 (by kernel_rfl) (by kernel_rfl) (by kernel_rfl) (e := Extern.BytealgCount.count) (by kernel_rfl), Lib.run_countString]
  simp only [Result.andThen]
  rw [Oper.upon_value]
  go_wp2
  go_ret
  exact ⟨rfl, rfl⟩

/-- The place of a byte in a text; -1 if it is not there. -/
def idxB : Str → UInt8 → Int
  | [], _ => -1
  | b :: l, c => if b = c then 0 else if idxB l c < 0 then -1 else idxB l c + 1

theorem idxB_lib (s : Str) (c : UInt8) : Lib.indexByte s c = idxB s c := by
  induction s with
  | nil => rfl
  | cons b l ih =>
    have hge := Lib.indexByte_ge l c
    simp only [Lib.indexByte, idxB, ih] at hge ⊢
    by_cases hb : b = c
    · simp [hb]
    · simp only [beq_iff_eq, hb, if_false]
      by_cases h : idxB l c < 0
      · rw [if_pos h, if_pos (by omega)]
      · rw [if_neg h, if_neg (by omega)]

def cStringsIndex : Con := .fn 8 (Str × UInt8) (fun a => [.str a.1, .str [a.2]]) (fun _ => True) (fun a => .int .i64 (idxB a.1 a.2)) (fun _ => [])
theorem stringsIndex_has : Has Tryz.prog 259 cStringsIndex :=
  has_pure (rv := fun a => .int .i64 (idxB a.1 a.2)) (fun args w => Go.MuLone.run_callFunc_enter Tryz.func259 (by kernel_rfl) rfl args w) (fun _ => rfl) (fun a s _ h => by cases h)
    (fun a vs w _ hv => by
      obtain ⟨s, c⟩ := a
      simp [scal] at hv
      subst hv
      have := stringsIndexOne_call ⟨s.toArray⟩ c w
      simpa [idxB_lib] using this) (fun a => ⟨_, rfl⟩)

def cStringsCount : Con := .fn 34 (Str × UInt8) (fun a => [.str a.1, .str [a.2]]) (fun _ => True) (fun a => .int .i64 (a.1.count a.2)) (fun _ => [])
theorem stringsCount_has : Has Tryz.prog 258 cStringsCount :=
  has_pure (rv := fun a => .int .i64 (a.1.count a.2)) (fun args w => Go.MuLone.run_callFunc_enter Tryz.func258 (by kernel_rfl) rfl args w) (fun _ => rfl) (fun a s _ h => by cases h)
    (fun a vs w _ hv => by
      obtain ⟨s, c⟩ := a
      simp [scal] at hv
      subst hv
      have := countOne_call ⟨s.toArray⟩ c w
      simpa [Lib.countByte] using this) (fun a => ⟨_, rfl⟩)

end Vx
end Go.Proofs.YtnanellmaelipaaGreatDoor
/-
  Contracts: strings.Split at one byte; paths and trees (the program's).
-/
namespace Go.Proofs.YtnanellmaelipaaGreatDoor
namespace Vx
open Go.RowKit

/-- A text split at a byte; what is ahead of the rest in its piece. -/
def spl (c : UInt8) : Str → Str → List Str
  | [], p => [p]
  | x :: r, p => if x = c then p :: spl c r [] else spl c r (p ++ [x])

theorem idxB_lt (s : Str) (c : UInt8) : idxB s c < s.length := by
  induction s with
  | nil => simp [idxB]
  | cons b l ih =>
    simp only [idxB, List.length_cons]
    split
    · omega
    · split <;> omega
theorem spl_none {c : UInt8} : ∀ {s p : Str}, idxB s c < 0 → spl c s p = [p ++ s] ∧ s.count c = 0 := by
  intro s
  induction s with
  | nil => intro p _; simp [spl]
  | cons b l ih =>
    intro p h
    simp only [idxB] at h
    split at h
    · omega
    · rename_i hb
      split at h
      · rename_i hl
        have := ih (p := p ++ [b]) hl
        simp only [spl, if_neg hb]
        refine ⟨by rw [this.1]; simp, ?_⟩
        rw [List.count_cons, this.2]
        simp [hb]
      · omega
theorem spl_some {c : UInt8} : ∀ {s p : Str}, 0 ≤ idxB s c → spl c s p = (p ++ s.take (idxB s c).toNat) :: spl c (s.drop ((idxB s c).toNat + 1)) [] ∧ s.count c = (s.drop ((idxB s c).toNat + 1)).count c + 1 := by
  intro s
  induction s with
  | nil => intro p h; simp [idxB] at h
  | cons b l ih =>
    intro p h
    by_cases hb : b = c
    · subst hb
      simp [idxB, spl]
    · simp only [idxB, if_neg hb] at h ⊢
      split at h
      · omega
      · rename_i hl
        rw [if_neg hl]
        obtain ⟨h1, h2⟩ := ih (p := p ++ [b]) (by omega)
        have e : (idxB l c + 1).toNat = (idxB l c).toNat + 1 := by omega
        rw [e]
        simp only [spl, if_neg hb, List.take_succ_cons, List.drop_succ_cons]
        refine ⟨by rw [h1]; simp, ?_⟩
        rw [List.count_cons, h2]
        simp [hb]
theorem spl_len (c : UInt8) : ∀ (s p : Str), (spl c s p).length = s.count c + 1 := by
  intro s
  induction s with
  | nil => intro p; simp [spl]
  | cons b l ih =>
    intro p
    simp only [spl]
    split
    · rename_i h
      subst h
      simp [ih]
    · rename_i h
      rw [ih, List.count_cons]
      simp [h]
theorem set_rep {α : Type} (d : List α) (k : Nat) (z x : α) (h : 0 < k) : (d ++ List.replicate k z).set d.length x = (d ++ [x]) ++ List.replicate (k - 1) z := by
  obtain ⟨k, rfl⟩ : ∃ j, k = j + 1 := ⟨k - 1, by omega⟩
  rw [List.set_append_right _ _ (Nat.le_refl _)]
  simp [List.replicate_succ]

def cGenSplit : Con := .fn 66 (Str × UInt8) (fun a => [.str a.1, .str [a.2], .int .i64 0, .int .i64 (-1)]) (fun a => a.1.length ≤ 1073741824) (fun a => .sl false 1 (eStrs (spl a.2 a.1 []))) (fun _ => [])
def gsArr (N : Nat) (d : List Str) : List Str := d ++ List.replicate (N - d.length) []
theorem gsArr_len (N : Nat) (d : List Str) (h : d.length ≤ N) : (gsArr N d).length = N := by simp [gsArr]; omega
theorem gsArr_set (N : Nat) (d : List Str) (x : Str) (h : d.length < N) : (gsArr N d).set d.length x = gsArr N (d ++ [x]) := by
  unfold gsArr
  rw [set_rep _ _ _ _ (by omega)]
  simp only [List.length_append, List.length_cons, List.length_nil]
  congr 2
theorem gsArr_full (N : Nat) (d : List Str) (h : d.length = N) : gsArr N d = d := by simp [gsArr, h]
theorem gsArr_nil (N : Nat) : gsArr N [] = List.replicate N [] := by simp [gsArr]

set_option maxRecDepth 8000
set_option maxHeartbeats 4000000 in
theorem genSplit_has : Has Tryz.prog 221 cGenSplit := by
  refine has_walk mixed tTab_ok (l := [(258, cStringsCount), (259, cStringsIndex)]) (HasL.cons stringsCount_has (HasL.cons stringsIndex_has HasL.nil)) [0, 1, 2, 3, 8, 9, 10, 11] ((fun a n (_ : Nat) => (fun a _ => ⟨List Str × Str, fun t => ⟨[(0, true, .str t.2), (1, true, .str [a.2]), (2, true, .int .i64 0), (3, true, .int .i64 (a.1.count a.2)), (8, true, .nil), (9, true, .own 9 1 (eStrs (gsArr (a.1.count a.2 + 1) t.1))), (10, true, .int .i64 t.1.length)], ownStrs 9 (gsArr (a.1.count a.2 + 1) t.1)⟩, fun t => t.1.length + t.2.count a.2 = a.1.count a.2 ∧ t.2.length ≤ a.1.length ∧ t.1 ++ spl a.2 t.2 [] = spl a.2 a.1 [], fun t => a.1.count a.2 - t.1.length⟩) a n)) [] Tryz.func221 (by kernel_rfl) (code := _) (by unfold Tryz.f221; rfl) (by kernel_rfl) (by decide) (fun _ => ⟨(), trivial⟩) (by intro h; first | exact fun _ => rfl | cases h) (by kernel_rfl) ?_
  intro a ha
  obtain ⟨s, c⟩ := a
  replace ha : s.length ≤ 1073741824 := ha
  have hc : s.count c ≤ s.length := List.count_le_length
  simp -implicitDefEqProofs [cGenSplit, cStringsCount, cStringsIndex, Con.fn, tTab]
  try dsimp only
  have hif : ¬ s.length < s.count c := by omega
  have hr : (List.replicate ((s.count c : Int) + 1).toNat [D.str []]) = eStrs (gsArr (s.count c + 1) []) := by
    rw [show ((s.count c : Int) + 1).toNat = s.count c + 1 by omega, gsArr_nil, eStrs_rep]
  have K1 : ∀ (a : List Str) (b : Str), a.length + b.count c = s.count c → a.length < (gsArr (s.count c + 1) a).length := fun a b h => by rw [gsArr_len _ _ (by omega)]; omega
  have K2 : ∀ (a : List Str) (b : Str), a.length + b.count c = s.count c → a ++ spl c b [] = spl c s [] → (idxB b c < 0 ∨ s.count c ≤ a.length) → spl c s [] = ((gsArr (s.count c + 1) a).set a.length b).take (a.length + 1) := by
    intro a b h1 h2 h3
    have h4 : idxB b c < 0 := by
      rcases h3 with h | h
      · exact h
      · refine Classical.byContradiction fun hn => ?_
        have := (spl_some (p := []) (Int.not_lt.1 hn)).2
        omega
    have h5 := spl_none (p := []) h4
    rw [← h2, h5.1, gsArr_set _ _ _ (by omega)]
    unfold gsArr
    rw [List.take_left' (by simp)]
    rfl
  have K3 : ∀ (b : Str), idxB b c < b.length := fun b => idxB_lt b c
  have K4 : ∀ (a : List Str) (b : Str), a.length + b.count c = s.count c → b.length ≤ s.length → a ++ spl c b [] = spl c s [] → 0 ≤ idxB b c →
      ∃ x, gsArr (s.count c + 1) x = (gsArr (s.count c + 1) a).set a.length (b.take (idxB b c).toNat) ∧ x.length = a.length + 1 ∧ (gsArr (s.count c + 1) a).set a.length (b.take (idxB b c).toNat) = gsArr (s.count c + 1) x ∧
        x.length + ((b.drop (idxB b c + 1).toNat).take (b.length - (idxB b c + 1).toNat)).count c = s.count c ∧ b.length ≤ s.length + (idxB b c + 1).toNat ∧
        x ++ spl c ((b.drop (idxB b c + 1).toNat).take (b.length - (idxB b c + 1).toNat)) [] = spl c s [] ∧ s.count c - x.length < s.count c - a.length := by
    intro a b h1 h2 h3 h4
    obtain ⟨h5, h6⟩ := spl_some (p := []) h4
    have e1 : (idxB b c + 1).toNat = (idxB b c).toNat + 1 := by omega
    have e2 : (b.drop (idxB b c + 1).toNat).take (b.length - (idxB b c + 1).toNat) = b.drop ((idxB b c).toNat + 1) := by
      rw [e1]; exact List.take_of_length_le (by simp)
    rw [e2]
    refine ⟨a ++ [b.take (idxB b c).toNat], (gsArr_set _ _ _ (by omega)).symm, by simp, gsArr_set _ _ _ (by omega), by simp; omega, by omega, ?_, by simp; omega⟩
    rw [← h3, h5]
    simp
  simp +contextual [eStr, eFile, cast_succ, cast_eq, cast_zero, List.getElem?_eq_getElem, eStrs_set, eFiles_set, eStrs_rep, eFiles_rep, ← eStrs_append, ← eFiles_append, eStrs_take, eStrs_drop, eFiles_take, eFiles_drop, eStrs_snoc, eFiles_snoc, and_assoc, hif, hr]
  repeat' (first | intro _ | apply And.intro)
  all_goals first | omega | grind [gsArr_nil] | exact K4 _ _ (by omega) (by omega) (by assumption) (by omega)

def cSplit : Con := .fn 8 (Str × UInt8) (fun a => [.str a.1, .str [a.2]]) (fun a => a.1.length ≤ 1073741824) (fun a => .sl false 1 (eStrs (spl a.2 a.1 []))) (fun _ => [])
set_option maxHeartbeats 4000000 in
theorem split_has : Has Tryz.prog 197 cSplit := by
  refine has_walk mixed tTab_ok (l := [(221, cGenSplit)]) (HasL.cons genSplit_has HasL.nil) [0, 1, 4] ((fun a n (_ : Nat) => (fun _ => noInv) a n)) [] Tryz.func197 (by kernel_rfl) (code := _) (by unfold Tryz.f197; rfl) (by kernel_rfl) (by decide) (fun _ => ⟨(), trivial⟩) (by intro h; first | exact fun _ => rfl | cases h) (by kernel_rfl) ?_
  intro a ha
  obtain ⟨s, c⟩ := a
  replace ha : s.length ≤ 1073741824 := ha
  simp -implicitDefEqProofs [cSplit, Con.fn, tTab, cGenSplit]
  try dsimp only
  try simp +contextual [eStr, eFile, cast_succ, cast_eq, cast_zero, List.getElem?_eq_getElem, eStrs_set, eFiles_set, eStrs_rep, eFiles_rep, ← eStrs_append, ← eFiles_append, eStrs_take, eStrs_drop, eFiles_take, eFiles_drop, eStrs_snoc, eFiles_snoc, and_assoc]
  repeat' (first | intro _ | apply And.intro)
  all_goals first | omega | grind [all_take]

def pathI (s : Str) : Bool := decide ((spl 47 s []).length ≤ 3) && (spl 47 s []).all nameB
def cPathOk : Con := .fn 21 Str (fun s => [.str s]) (fun s => s.length ≤ 1073741824) (fun s => .bool (pathI s)) (fun _ => [])
set_option maxHeartbeats 4000000 in
theorem pathOk_has : Has Tryz.prog 154 cPathOk := by
  refine has_walk mixed tTab_ok (l := [(197, cSplit), (91, cNameOk)]) (HasL.cons split_has (HasL.cons nameOk_has HasL.nil)) [0, 2, 3, 5, 11, 12, 13] ((fun a n (_ : Nat) => (fun s _ => ⟨Nat, fun i => ⟨[(2, true, .bool false), (11, true, .sl false 1 (eStrs (spl 47 s []))), (12, true, .int .i64 (spl 47 s []).length), (13, true, .int .i64 i)], []⟩, fun i => i ≤ (spl 47 s []).length ∧ (spl 47 s []).length ≤ 3 ∧ ((spl 47 s []).take i).all nameB = true, fun i => (spl 47 s []).length - i⟩) a n)) [] Tryz.func154 (by kernel_rfl) (code := _) (by unfold Tryz.f154; rfl) (by kernel_rfl) (by decide) (fun _ => ⟨(), trivial⟩) (by intro h; first | exact fun _ => rfl | cases h) (by kernel_rfl) ?_
  intro (s : Str) hs
  replace hs : s.length ≤ 1073741824 := hs
  simp -implicitDefEqProofs [cPathOk, Con.fn, tTab, cSplit, cNameOk]
  try dsimp only
  try simp +contextual [eStr, eFile, cast_succ, cast_eq, cast_zero, List.getElem?_eq_getElem, eStrs_set, eFiles_set, eStrs_rep, eFiles_rep, ← eStrs_append, ← eFiles_append, eStrs_take, eStrs_drop, eFiles_take, eFiles_drop, eStrs_snoc, eFiles_snoc, and_assoc]
  repeat' (first | intro _ | apply And.intro)
  all_goals first | omega | grind [all_take, pathI, List.take_succ_eq_append_getElem]

end Vx
end Go.Proofs.YtnanellmaelipaaGreatDoor
/-
  Contracts: trees (the program's).
-/
namespace Go.Proofs.YtnanellmaelipaaGreatDoor
namespace Vx
open Go.RowKit
set_option maxRecDepth 8000

def pathInI (d p : Str) : Bool := pathI d && pathI p && prefB (d ++ [47]) p
def cPathIn : Con := .fn 17 (Str × Str) (fun a => [.str a.1, .str a.2]) (fun a => a.1.length ≤ 536870912 ∧ a.2.length ≤ 536870912) (fun a => .bool (pathInI a.1 a.2)) (fun _ => [])
set_option maxHeartbeats 4000000 in
theorem pathIn_has : Has Tryz.prog 155 cPathIn := by
  refine has_walk mixed tTab_ok (l := [(154, cPathOk), (198, cHasPrefix)]) (HasL.cons pathOk_has (HasL.cons hasPrefix_has HasL.nil)) [0, 1, 4] ((fun a n (_ : Nat) => (fun _ => noInv) a n)) [] Tryz.func155 (by kernel_rfl) (code := _) (by unfold Tryz.f155; rfl) (by kernel_rfl) (by decide) (fun _ => ⟨(), trivial⟩) (by intro h; first | exact fun _ => rfl | cases h) (by kernel_rfl) ?_
  intro a ha
  obtain ⟨d, p⟩ := a
  obtain ⟨h1, h2⟩ : d.length ≤ 536870912 ∧ p.length ≤ 536870912 := ha
  simp -implicitDefEqProofs [cPathIn, Con.fn, tTab, cPathOk, cHasPrefix]
  try dsimp only
  try simp +contextual [eStr, eFile, cast_succ, cast_eq, cast_zero, List.getElem?_eq_getElem, eStrs_set, eFiles_set, eStrs_rep, eFiles_rep, ← eStrs_append, ← eFiles_append, eStrs_take, eStrs_drop, eFiles_take, eFiles_drop, eStrs_snoc, eFiles_snoc, and_assoc]
  repeat' (first | intro _ | apply And.intro)
  all_goals first | omega | grind [all_take, pathInI, maxLen]

def headI (t : List FileD) (i : Nat) : Bool := textB (t.getD i default).text && pathI (t.getD i default).path && (decide (i = 0) || Go.Op.bytesLess (t.getD (i - 1) default).path (t.getD i default).path)
def noUp (t : List FileD) (i : Nat) : Bool := (List.range i).all fun k => !pathInI (t.getD k default).path (t.getD i default).path
def treeI (t : List FileD) : Bool := decide (t.length ≤ 8) && (List.range t.length).all fun i => headI t i && noUp t i
def cTreeOk : Con := .fn 57 (List FileD) (fun t => [.sl true 2 (eFiles t)]) (fun t => ∀ f ∈ t, f.path.length ≤ 536870912) (fun t => .bool (treeI t)) (fun _ => [])
def tiO (t : List FileD) : Inv := ⟨Nat, fun i => ⟨[(0, true, .sl true 2 (eFiles t)), (2, true, .bool false), (10, true, .sl true 2 (eFiles t)), (11, true, .int .i64 t.length), (12, true, .int .i64 i)], []⟩, fun i => i ≤ t.length ∧ t.length ≤ 8 ∧ ∀ j, j < i → headI t j = true ∧ noUp t j = true, fun i => t.length - i⟩
def tiI (t : List FileD) (g : Nat) : Inv := ⟨Nat, fun k => ⟨[(0, true, .sl true 2 (eFiles t)), (2, true, .bool false), (3, true, .int .i64 g), (4, true, .ptr 10 0), (10, true, .sl true 2 (eFiles t)), (11, true, .int .i64 t.length), (12, true, .int .i64 g), (44, true, .sl true 2 (eFiles (t.take g))), (45, true, .int .i64 g), (46, true, .int .i64 k)],
    [(10, .box 61 [.str (t.getD g default).path, .sl true 1 (eStrs (t.getD g default).text)])]⟩, fun x => g < t.length ∧ x ≤ g ∧ t.length ≤ 8 ∧ (∀ j, j < g → headI t j = true ∧ noUp t j = true) ∧ headI t g = true ∧ ∀ k, k < x → pathInI (t.getD k default).path (t.getD g default).path = false, fun x => g - x⟩
def tiInv (t : List FileD) (n g : Nat) : Inv := if n = 4 then tiO t else tiI t g
theorem tiInv_4 (t : List FileD) (g : Nat) : tiInv t 4 g = tiO t := rfl
theorem tiInv_9 (t : List FileD) (g : Nat) : tiInv t 9 g = tiI t g := rfl
set_option maxHeartbeats 4000000 in
theorem treeOk_has : Has Tryz.prog 98 cTreeOk := by
  refine has_walk mixed tTab_ok (l := [(109, cTextOk), (154, cPathOk), (155, cPathIn)]) (HasL.cons textOk_has (HasL.cons pathOk_has (HasL.cons pathIn_has HasL.nil))) [0, 2, 3, 4, 6, 10, 11, 12, 44, 45, 46] (fun t => tiInv t) [] Tryz.func98 (by kernel_rfl) (code := _) (by unfold Tryz.f98; rfl) (by kernel_rfl) (by decide) (fun _ => ⟨(), trivial⟩) (by intro h; first | exact fun _ => rfl | cases h) (by kernel_rfl) ?_
  intro (t : List FileD) ht
  replace ht : ∀ f ∈ t, f.path.length ≤ 536870912 := ht
  have hp : ∀ i (h : i < t.length), (t[i]).path.length ≤ 536870912 := fun i h => ht _ (List.getElem_mem h)
  simp -implicitDefEqProofs [cTreeOk, Con.fn, tTab, cTextOk, cPathOk, cPathIn, tiInv_4, tiInv_9, tiO, tiI]
  try dsimp only
  have hE : treeI t = true ↔ t.length ≤ 8 ∧ ∀ i, i < t.length → headI t i = true ∧ noUp t i = true := by
    simp [treeI]
  have hF : ∀ i, i < t.length → (headI t i && noUp t i) = false → treeI t = false := by
    intro i hi h
    rcases hb : treeI t with _ | _
    · rfl
    · exact absurd ((hE.1 hb).2 i hi) (by simpa using h)
  have hH : ∀ i, i < t.length → headI t i = false → treeI t = false := fun i hi h => hF i hi (by simp [h])
  have hN : ∀ i k, i < t.length → k < i → pathInI (t.getD k default).path (t.getD i default).path = true → treeI t = false := by
    intro i k hi hk h
    refine hF i hi ?_
    have : noUp t i = false := by
      simp only [noUp, List.all_eq_false]
      exact ⟨k, List.mem_range.2 hk, by simpa using h⟩
    simp [this]
  have hI : ∀ i, (∀ k, k < i → pathInI (t.getD k default).path (t.getD i default).path = false) → noUp t i = true := by
    intro i h
    simp only [noUp, List.all_eq_true, List.mem_range]
    intro k hk
    simp only [h k hk, Bool.not_false]
  have hB : 8 < t.length → treeI t = false := by
    intro h
    rcases hb : treeI t with _ | _
    · rfl
    · exact absurd (hE.1 hb).1 (by omega)
  have e1 : ∀ k (h : k < t.length), Option.map eFile t[k]? = some (eFile t[k]) := fun k h => by simp [List.getElem?_eq_getElem h]
  have e2 : ∀ i, i < t.length → i - 1 < t.length := fun i h => by omega
  have e4 : ∀ i k (h : k < i) (h2 : i < t.length), Option.map eFile (List.take i t)[k]? = some (eFile t[k]) := fun i k h h2 => by
    rw [List.getElem?_take, if_pos h]; exact e1 k (by omega)
  have hg : ∀ i (h : i < t.length), t.getD i default = t[i] := fun i h => by simp [List.getD_eq_getElem?_getD, h]
  intro _
  refine ⟨fun h => hB (by omega), fun h8 _ => ⟨by omega, fun i hi h8' hprev => ⟨fun hlt => ?_, fun hge => ?_⟩⟩⟩
  · have e3 := e1 i hlt
    have e3' := e1 (i - 1) (e2 i hlt)
    have hpi := hp i hlt
    have hgi := hg i hlt
    have hgi' := hg (i - 1) (e2 i hlt)
    have hh : headI t i = (textB t[i].text && pathI t[i].path && (decide (i = 0) || Go.Op.bytesLess t[i - 1].path t[i].path)) := by simp only [headI, hgi, hgi']
    have hm : min i t.length = i := by omega
    have hgg : t[i]?.getD default = t[i] := by simpa [List.getD_eq_getElem?_getD] using hgi
    simp [hlt, e2 i hlt, e3, e3', eFile, eStr, D.asStr, D.asRows, hm, cast_eq, and_assoc, hgg]
    try simp +contextual [eStr, eFile, cast_succ, cast_eq, cast_zero, List.getElem?_eq_getElem, eStrs_set, eFiles_set, eStrs_rep, eFiles_rep, ← eStrs_append, ← eFiles_append, eStrs_take, eStrs_drop, eFiles_take, eFiles_drop, eStrs_snoc, eFiles_snoc, and_assoc, e4, hgg, hm, hlt, D.asStr, D.asRows, cast_one]
    repeat' (first | intro _ | apply And.intro)
    all_goals first | omega | grind
  · have hT : treeI t = true := hE.2 ⟨h8', fun j hj => hprev j (by omega)⟩
    simp [hT]
    repeat' (first | intro _ | apply And.intro)
    all_goals first | omega | grind

def nLin (t : List FileD) : Nat := (t.map fun f => f.text.length).sum
def statI (t : List FileD) : Int := if treeI t then (nLines t : Int) else -1
theorem treeI_le (t : List FileD) (h : treeI t = true) : t.length ≤ 8 ∧ ∀ f ∈ t, f.text.length ≤ 64 := by
  simp only [treeI, Bool.and_eq_true, decide_eq_true_eq, List.all_eq_true, List.mem_range, headI] at h
  refine ⟨h.1, fun f hf => ?_⟩
  obtain ⟨i, hi, rfl⟩ := List.getElem_of_mem hf
  have := (h.2 i hi).1.1.1
  simp [List.getD_eq_getElem?_getD, hi, textB] at this
  omega
theorem nLinesI_take_le (t : List FileD) (h : treeI t = true) (i : Nat) : nLines (t.take i) ≤ 512 := by
  have h1 := treeI_le t h
  have h2 := nLines_le (t.take i) (fun f hf => h1.2 f (List.mem_of_mem_take hf))
  have : (t.take i).length ≤ t.length := by simp; omega
  omega
end Vx
end Go.Proofs.YtnanellmaelipaaGreatDoor
/-
  Plain laws: paths and trees, the program's and the reference's, are the same.
-/
namespace Go.Proofs.YtnanellmaelipaaGreatDoor
namespace Vx
open Go.RowKit

theorem less_eq : ∀ (x y : Str), Go.Op.bytesLess x y = decide (x < y)
  | [], [] => by simp [Go.Op.bytesLess]
  | _ :: _, [] => by simp [Go.Op.bytesLess]
  | [], _ :: _ => by simp [Go.Op.bytesLess]
  | a :: x, b :: y => by
    rw [Go.Op.bytesLess, less_eq x y]
    simp only [List.cons_lt_cons_iff]
    by_cases h1 : a < b <;> by_cases h2 : a = b <;> by_cases h3 : x < y <;> simp [h1, h2, h3]
theorem str_irrefl (a : Str) : ¬ a < a := List.lt_irrefl a
theorem str_trans {a b c : Str} (h : a < b) (h' : b < c) : a < c := List.lt_trans h h'
theorem str_total (a b : Str) (h : ¬ a < b) (hne : a ≠ b) : b < a := by
  have h1 : b ≤ a := List.not_lt.1 h
  exact Classical.byContradiction fun h2 => hne (List.le_antisymm (List.not_lt.1 h2) h1)
theorem str_asymm {a b : Str} (h : a < b) : ¬ b < a := fun h' => str_irrefl a (str_trans h h')
theorem leqS_iff (a b : Str) : leqS a b = !decide (b < a) := by
  unfold leqS
  rw [less_eq]
  by_cases h : a < b
  · simp [h, str_asymm h]
  · by_cases e : a = b
    · subst e; simp [str_irrefl]
    · simp [h, e, str_total a b h e]

theorem cut_spl {b : UInt8} {most : Nat} : ∀ {r c : Str} {n : Nat}, n + r.count b ≤ most → cutL (b.toNat : Int) most r c n = spl b r c := by
  intro r
  induction r with
  | nil => intro c n _; rfl
  | cons x r ih =>
    intro c n h
    have hx : ((x.toNat : Int) = (b.toNat : Int)) = (x = b) := by
      apply propext
      constructor
      · intro h; exact UInt8.toNat_inj.1 (by omega)
      · rintro rfl; rfl
    by_cases hb : x = b
    · subst hb
      rw [List.count_cons_self] at h
      simp only [cutL, spl, if_true, show n < most by omega]
      rw [ih (by omega)]
    · rw [List.count_cons_of_ne hb] at h
      simp only [cutL, spl, hx, hb, if_false]
      split
      · exact ih h
      · have h0 : r.count b = 0 := by omega
        have : ∀ (q p : Str), q.count b = 0 → spl b q p = [p ++ q] := by
          intro q
          induction q with
          | nil => intro p _; simp [spl]
          | cons y q ih2 =>
            intro p hq
            have hy : y ≠ b := by rintro rfl; simp at hq
            rw [List.count_cons_of_ne hy] at hq
            simp only [spl, hy, if_false]
            rw [ih2 _ hq]; simp
        rw [this r _ h0]; simp
theorem cut_len {b : UInt8} {most : Nat} : ∀ {r c : Str} {n : Nat}, n ≤ most → most < n + r.count b → (cutL (b.toNat : Int) most r c n).length = most - n + 1 := by
  intro r
  induction r with
  | nil => intro c n h1 h2; simp at h2; omega
  | cons x r ih =>
    intro c n h1 h2
    have hx : ((x.toNat : Int) = (b.toNat : Int)) = (x = b) := by
      apply propext
      constructor
      · intro h; exact UInt8.toNat_inj.1 (by omega)
      · rintro rfl; rfl
    simp only [cutL, hx]
    split
    · split
      · rename_i hb
        subst hb
        rw [List.count_cons_self] at h2
        rw [List.length_cons, ih (by omega) (by omega)]
        omega
      · rename_i hb
        rw [List.count_cons_of_ne hb] at h2
        rw [ih h1 h2]
    · simp; omega

theorem path_eq (s : Str) : pathI s = pathS s := by
  unfold pathI pathS
  by_cases h : s.count 47 ≤ 3
  · have : cutB s 47 3 = spl 47 s [] := cut_spl (b := 47) (most := 3) (by omega)
    rw [this, Bool.and_comm]
  · have h1 : (cutB s 47 3).length = 4 := cut_len (b := 47) (most := 3) (r := s) (c := []) (n := 0) (by omega) (by omega)
    have h2 := spl_len 47 s []
    simp [h1, h2, h]
    omega

theorem in_pref (d p : Str) : inB d p = prefB (d ++ [47]) p := by
  unfold inB prefB
  by_cases h : d.length < p.length
  · have e : p.take (d.length + 1) = p.take d.length ++ [p[d.length]] := List.take_succ_eq_append_getElem h
    simp only [List.length_append, List.length_cons, List.length_nil, Nat.zero_add, e, h, show d.length + 1 ≤ p.length by omega, decide_true, Bool.true_and]
    have hg : p.getD d.length 0 = p[d.length] := getD_nat _ _ h
    rw [hg, Bool.eq_iff_iff]
    simp only [Bool.and_eq_true, decide_eq_true_eq]
    constructor
    · rintro ⟨h1, h2⟩; rw [h1, h2]
    · intro h1
      have := List.append_inj h1 (by simp; omega)
      exact ⟨this.1, by simpa using this.2⟩
  · simp [h]
    omega

theorem pref_lt {d p : Str} (h : prefB (d ++ [47]) p = true) : d < p := by
  unfold prefB at h
  simp only [Bool.and_eq_true, decide_eq_true_eq, List.length_append, List.length_cons, List.length_nil, Nat.zero_add] at h
  have e : p = d ++ (47 :: p.drop (d.length + 1)) := by
    have := List.take_append_drop (d.length + 1) p
    rw [h.2] at this
    simpa using this.symm
  rw [e]
  generalize p.drop (d.length + 1) = q
  clear h e
  induction d with
  | nil => exact List.nil_lt_cons _ _
  | cons x d ih => exact List.cons_lt_cons_iff.2 (.inr ⟨rfl, ih⟩)

theorem tree_eq (t : List FileD) : treeI t = treeS t := by
  have hasc : (∀ i, i < t.length → headI t i = true) → ∀ i k, i < k → k < t.length → (t.getD i default).path < (t.getD k default).path := by
    intro h i k hik hk
    induction k with
    | zero => omega
    | succ k ih =>
      have h1 := h (k + 1) hk
      simp only [headI, Bool.and_eq_true, Bool.or_eq_true, decide_eq_true_eq, less_eq, Nat.add_sub_cancel] at h1
      have h2 : (t.getD k default).path < (t.getD (k + 1) default).path := by
        rcases h1.2 with h2 | h2
        · omega
        · exact h2
      rcases Nat.lt_or_ge i k with h3 | h3
      · exact str_trans (ih h3 (by omega)) h2
      · have : i = k := by omega
        subst this; exact h2
  have hhead : ∀ i, okHead t i = headI t i := by
    intro i
    simp only [okHead, headI, path_eq, leqS_iff, less_eq, Bool.not_not]
    rw [Bool.and_comm (pathS _)]
  rw [Bool.eq_iff_iff]
  simp only [treeI, treeS, Bool.and_eq_true, decide_eq_true_eq, List.all_eq_true, List.mem_range, hhead]
  constructor
  · rintro ⟨h8, h⟩
    refine ⟨fun i hi => ⟨(h i hi).1, ?_⟩, h8⟩
    simp only [noIn, List.all_eq_true, Bool.not_eq_true']
    intro g hg
    obtain ⟨k, hk, rfl⟩ := List.getElem_of_mem hg
    rw [show t[k] = t.getD k default by simp [List.getD_eq_getElem?_getD, hk], in_pref]
    cases hp : prefB ((t.getD i default).path ++ [47]) (t.getD k default).path with
    | false => rfl
    | true =>
      exfalso
      have hlt := pref_lt hp
      have hik : i < k := by
        rcases Nat.lt_trichotomy i k with h1 | h1 | h1
        · exact h1
        · subst h1; exact absurd hlt (str_irrefl _)
        · exact absurd hlt (str_asymm (hasc (fun i hi => (h i hi).1) k i h1 hi))
      have h2 := (h k hk).2
      simp only [noUp, List.all_eq_true, List.mem_range, Bool.not_eq_true'] at h2
      have h3 := h2 i hik
      have p1 := (h i hi).1
      have p2 := (h k hk).1
      simp only [headI, Bool.and_eq_true] at p1 p2
      simp only [pathInI, p1.1.2, p2.1.2, hp, Bool.and_self, reduceCtorEq] at h3
  · rintro ⟨h, h8⟩
    refine ⟨h8, fun i hi => ⟨(h i hi).1, ?_⟩⟩
    simp only [noUp, List.all_eq_true, List.mem_range, Bool.not_eq_true']
    intro k hk
    have h2 := (h k (by omega)).2
    simp only [noIn, List.all_eq_true, Bool.not_eq_true'] at h2
    have h3 := h2 _ (List.getElem_mem hi)
    rw [show t[i] = t.getD i default by simp [List.getD_eq_getElem?_getD, hi], in_pref] at h3
    simp only [pathInI, h3, Bool.and_false]

theorem stat_eq (t : List FileD) : statI t = statS t := by
  unfold statI statS
  rw [tree_eq]

end Vx
end Go.Proofs.YtnanellmaelipaaGreatDoor
/-
  Contracts: views (both sides): what is at a path.
-/
namespace Go.Proofs.YtnanellmaelipaaGreatDoor
namespace Vx
open Go.RowKit
set_option maxRecDepth 8000

/-- The first place where p holds; -1 if there is none. -/
def idxP {α : Type} (p : α → Bool) (l : List α) : Int := match l.findIdx? p with | some i => (i : Int) | none => -1
theorem idxP_hit {α : Type} {p : α → Bool} {l : List α} {i : Nat} (h : i < l.length) (hp : p l[i] = true) (hb : ∀ x, x ∈ l.take i → p x = false) : idxP p l = (i : Int) := by
  unfold idxP
  have : l.findIdx? p = some i := by
    rw [List.findIdx?_eq_some_iff_getElem]
    refine ⟨h, hp, fun j hj => ?_⟩
    have := hb l[j] (List.mem_take_iff_getElem.2 ⟨j, by omega, rfl⟩)
    simp [this]
  rw [this]
theorem idxP_miss {α : Type} {p : α → Bool} {l : List α} {i : Nat} (h : l.length ≤ i) (hb : ∀ x, x ∈ l.take i → p x = false) : idxP p l = -1 := by
  unfold idxP
  rw [List.take_of_length_le h] at hb
  rw [List.findIdx?_eq_none_iff.2 (by simpa using hb)]
theorem idxP_any {α : Type} (p : α → Bool) (l : List α) : (0 ≤ idxP p l) = (l.any p = true) := by
  apply propext
  unfold idxP
  cases h : l.findIdx? p with
  | some i =>
    obtain ⟨h1, h2, _⟩ := List.findIdx?_eq_some_iff_getElem.1 h
    simp only [Int.natCast_nonneg, true_iff, List.any_eq_true]
    exact ⟨_, List.getElem_mem h1, h2⟩
  | none =>
    have := List.findIdx?_eq_none_iff.1 h
    simp only [List.any_eq_true]
    constructor
    · intro h; omega
    · rintro ⟨x, hx, hp⟩; rw [this x hx] at hp; cases hp
theorem idxP_ge {α : Type} (p : α → Bool) (l : List α) : -1 ≤ idxP p l ∧ idxP p l < (l.length : Int) + 1 := by
  unfold idxP
  cases h : l.findIdx? p with
  | some i =>
    obtain ⟨h1, _, _⟩ := List.findIdx?_eq_some_iff_getElem.1 h
    simp only
    omega
  | none => simp only; omega
theorem take_step {α : Type} {l : List α} {i : Nat} {q : α → Prop} (h : i < l.length) (hb : ∀ x, x ∈ l.take i → q x) (hi : q l[i]) : ∀ x, x ∈ l.take (i + 1) → q x := by
  intro x hx
  rw [List.take_succ_eq_append_getElem h, List.mem_append] at hx
  rcases hx with hx | hx
  · exact hb x hx
  · simp only [List.mem_singleton] at hx
    subst hx; exact hi

abbrev fBox (f : FileD) : List AV := [.str f.path, .sl true 1 (eStrs f.text)]
def atB (p q : Str) : Bool := decide (p = q) || prefB (q ++ [47]) p
def visB (f : FileD) (l : List Str) : Bool := l.any (atB f.path)
def viewI (l : List Str) : Bool := decide (l.length ≤ 4) && l.all pathI
end Vx
end Go.Proofs.YtnanellmaelipaaGreatDoor
/-
  Laws: FnExactStatLines.
-/
namespace Go.Proofs.YtnanellmaelipaaGreatDoor
namespace Vx
open Go.RowKit
set_option maxRecDepth 8000

theorem szL_ok : ∀ {a : List Str} {l : Int}, 0 ≤ szL a l → ∀ s ∈ a, (s.length : Int) ≤ l := by
  intro a
  induction a with
  | nil => intro l _ s hs; cases hs
  | cons x r ih =>
    intro l h s hs
    simp only [szL] at h
    split at h
    · omega
    · rcases List.mem_cons.1 hs with rfl | hs
      · have := szL_le (a := r) (l := l - s.length) (by omega); omega
      · have := ih h s hs; omega
theorem szStrs_ok {a : List Str} {l : Int} (h : 0 ≤ szStrs a l) : (a.length : Int) ≤ l ∧ ∀ s ∈ a, (s.length : Int) ≤ l := by
  unfold szStrs at h
  split at h
  · omega
  · refine ⟨by omega, fun s hs => ?_⟩
    have := szL_ok h s hs; omega
theorem szF_ok {f : FileD} {l : Int} (h : 0 ≤ szF f l) : (f.path.length : Int) ≤ l ∧ (f.text.length : Int) ≤ l ∧ ∀ s ∈ f.text, (s.length : Int) ≤ l := by
  unfold szF at h
  split at h
  · omega
  · split at h
    · omega
    · obtain ⟨h1, h2⟩ := szStrs_ok h
      refine ⟨by omega, by omega, fun s hs => ?_⟩
      have := h2 s hs; omega
theorem szFL_ok : ∀ {a : List FileD} {l : Int}, 0 ≤ l → 0 ≤ szFL a l → ∀ f ∈ a, (f.path.length : Int) ≤ l ∧ (f.text.length : Int) ≤ l ∧ ∀ s ∈ f.text, (s.length : Int) ≤ l := by
  intro a
  induction a with
  | nil => intro l _ _ f hf; cases hf
  | cons x r ih =>
    intro l hl h f hf
    simp only [szFL] at h
    split at h
    · omega
    · rename_i h0
      rcases List.mem_cons.1 hf with rfl | hf
      · exact szF_ok (by omega)
      · have hle := szF_le (f := x) hl
        obtain ⟨h1, h2, h3⟩ := ih (by omega) h f hf
        refine ⟨by omega, by omega, fun s hs => ?_⟩
        have := h3 s hs; omega
theorem szFiles_ok {a : List FileD} {l : Int} (h : 0 ≤ szFiles a l) : (a.length : Int) ≤ l ∧ ∀ f ∈ a, (f.path.length : Int) ≤ l ∧ (f.text.length : Int) ≤ l ∧ ∀ s ∈ f.text, (s.length : Int) ≤ l := by
  unfold szFiles at h
  split at h
  · omega
  · refine ⟨by omega, fun f hf => ?_⟩
    obtain ⟨h1, h2, h3⟩ := szFL_ok (by omega) h f hf
    refine ⟨by omega, by omega, fun s hs => ?_⟩
    have := h3 s hs; omega
theorem szL_bd : ∀ {a : List Str} {l : Int}, 0 ≤ l → -1 ≤ szL a l := by
  intro a
  induction a with
  | nil => intro l h; simp [szL]; omega
  | cons x r ih =>
    intro l h
    simp only [szL]
    split
    · omega
    · exact ih (by omega)

end Vx
end Go.Proofs.YtnanellmaelipaaGreatDoor
/-
  Contracts: ViewFree, both sides; the law.
-/
namespace Go.Proofs.YtnanellmaelipaaGreatDoor
namespace Vx
open Go.RowKit
set_option maxRecDepth 8000

def at25 (p q : Str) : Bool := decide (q = p) || inB q p
def in25 (l : List Str) (p : Str) : Bool := l.any (at25 p)
def viewS (l : List Str) : Bool := l.all pathS && decide (l.length ≤ 4)
def freeS (t : List FileD) (a b : List Str) : Bool := treeS t && viewS a && viewS b && t.all fun f => !(in25 a f.path && in25 b f.path)
def freeI (t : List FileD) (a b : List Str) : Bool := treeI t && viewI a && viewI b && t.all fun f => !(visB f a && visB f b)
theorem at_in (f : FileD) (q : Str) : atB f.path q = (decide (q = f.path) || inB q f.path) := by
  unfold atB
  rw [in_pref]
  congr 1
  simp only [eq_comm]
theorem vis_in (f : FileD) (l : List Str) : visB f l = in25 l f.path := by
  unfold visB in25
  congr 1
  funext q
  exact at_in f q
theorem view_eq (l : List Str) : viewI l = viewS l := by
  unfold viewI viewS
  rw [show pathI = pathS from funext path_eq, Bool.and_comm]
theorem free_eq (t : List FileD) (a b : List Str) : freeI t a b = freeS t a b := by
  unfold freeI freeS
  simp only [tree_eq, view_eq, vis_in]

theorem szStrs_le' {a : List Str} {l : Int} (h : 0 ≤ l) (h2 : l ≤ 1048576) : szStrs a l ≤ 1048576 := by have := szStrs_le (a := a) h; omega
theorem szFL_le : ∀ {a : List FileD} {l : Int}, 0 ≤ l → szFL a l ≤ l := by
  intro a
  induction a with
  | nil => intro l _; exact Int.le_refl l
  | cons s r ih =>
    intro l h
    simp only [szFL]
    split
    · omega
    · have h1 := szF_le (f := s) h
      have := ih (l := szF s l) (by omega); omega
theorem szFiles_le {a : List FileD} {l : Int} (h : 0 ≤ l) : szFiles a l ≤ l := by
  unfold szFiles
  split
  · omega
  · have := szFL_le (a := a) (l := l - a.length) (by omega); omega
end Vx
end Go.Proofs.YtnanellmaelipaaGreatDoor
/-
  Contracts: marks laid and looked for.
-/
namespace Go.Proofs.YtnanellmaelipaaGreatDoor
namespace Vx
open Go.RowKit
set_option maxRecDepth 8000

def digL : Nat → Nat → Str → Str
  | 0, _, out => out
  | f + 1, k, out => if k = 0 then out else digL f (k / 10) (UInt8.ofNat (48 + k % 10) :: out)
theorem digL_fuel : ∀ {f g k : Nat} {out : Str}, k < f → k < g → digL f k out = digL g k out := by
  intro f
  induction f with
  | zero => intro g k out h; omega
  | succ f ih =>
    intro g k out h1 h2
    cases g with
    | zero => omega
    | succ g =>
      simp only [digL]
      split
      · rfl
      · exact ih (by omega) (by omega)
def dig (k : Nat) (out : Str) : Str := digL (k + 1) k out
theorem dig_zero (out : Str) : dig 0 out = out := rfl
theorem dig_step {k : Nat} {out : Str} (h : 0 < k) : dig k out = dig (k / 10) (UInt8.ofNat (48 + k % 10) :: out) := by
  unfold dig
  rw [digL, if_neg (by omega)]
  exact digL_fuel (by omega) (by omega)
def markS (k : Int) : Str := if k ≤ 0 then [109, 48] else 109 :: dig k.toNat []

def markL (n : Nat) (k : Int) : List Str := (List.range n).map fun i : Nat => markS (k + (i : Int))
theorem markL_len (n : Nat) (k : Int) : (markL n k).length = n := by simp [markL]
theorem markL_succ (n : Nat) (k : Int) : markL (n + 1) k = markL n k ++ [markS (k + n)] := by simp [markL, List.range_succ]
def mArr (a : List Str) (k : Int) (i : Nat) : List Str := markL i k ++ a.drop i
theorem mArr_len {a : List Str} {k : Int} {i : Nat} (h : i ≤ a.length) : (mArr a k i).length = a.length := by simp [mArr, markL_len]; omega
theorem mArr_set {a : List Str} {k : Int} {i : Nat} (h : i < a.length) : (mArr a k i).set i (markS (k + i)) = mArr a k (i + 1) := by
  unfold mArr
  have e : (l' : List Str) → l' = a.drop i → l'.set 0 (markS (k + i)) = markS (k + i) :: a.drop (i + 1) := by
    rintro _ rfl
    rw [List.drop_eq_getElem_cons h]; rfl
  rw [List.set_append_right _ _ (by simp [markL_len]), markL_len, Nat.sub_self, markL_succ, e _ rfl]
  simp
theorem mArr_zero (a : List Str) (k : Int) : mArr a k 0 = a := by simp [mArr, markL]
theorem mArr_end {a : List Str} {k : Int} {i : Nat} (h : a.length ≤ i) (h2 : i ≤ a.length) : mArr a k i = markL a.length k := by
  obtain rfl : i = a.length := by omega
  simp [mArr]

def heldL (a : List Str) (k : Int) : Int := if a = markL a.length k then k + a.length else -1
theorem held_hit {a : List Str} {k : Int} {i : Nat} (h : a.length ≤ i) (h2 : i ≤ a.length) (h3 : a.take i = markL i k) : heldL a k = k + i := by
  obtain rfl : i = a.length := by omega
  rw [List.take_length] at h3
  unfold heldL
  rw [if_pos h3]
theorem held_miss {a : List Str} {k : Int} {i : Nat} (h : i < a.length) (h2 : a[i] ≠ markS (k + i)) : heldL a k = -1 := by
  unfold heldL
  rw [if_neg]
  intro h3
  apply h2
  have : a[i]? = (markL a.length k)[i]? := by rw [← h3]
  rw [List.getElem?_eq_getElem h] at this
  simpa [markL, h] using this
theorem held_step {a : List Str} {k : Int} {i : Nat} (h : i < a.length) (h2 : a[i] = markS (k + i)) (h3 : a.take i = markL i k) : a.take (i + 1) = markL (i + 1) k := by
  rw [take_succ' h, markL_succ, h3, h2]
end Vx
end Go.Proofs.YtnanellmaelipaaGreatDoor
/-
  Contracts: words looked for in trees, both sides.
-/
namespace Go.Proofs.YtnanellmaelipaaGreatDoor
namespace Vx
open Go.RowKit
set_option maxRecDepth 8000

def startsW (w l : Str) : Bool := prefB w l && (match l.drop w.length with | [] => true | y :: _ => !wordB y.toNat)
def occ (w : Str) : Bool → Str → Bool
  | b, [] => b && startsW w []
  | b, x :: r => (b && startsW w (x :: r)) || occ w (!wordB x.toNat) r
def hasP (w : Str) : Str → Str → Bool
  | [], c => decide (c = w)
  | x :: r, c => if wordB x.toNat then hasP w r (c ++ [x]) else decide (c = w) || hasP w r []

theorem occ_run {w : Str} : ∀ {c l : Str}, (∀ x ∈ c, wordB x.toNat = true) → occ w false (c ++ l) = occ w false l := by
  intro c
  induction c with
  | nil => intro l _; rfl
  | cons x c ih =>
    intro l h
    have hx := h x (by simp)
    rw [List.cons_append]
    show (false && _ || occ w (!wordB x.toNat) (c ++ l)) = _
    rw [hx]
    simpa using ih fun y hy => h y (by simp [hy])
theorem occ_true {w x : Str} {y : UInt8} {l : Str} : occ w true ((y :: x) ++ l) = (startsW w ((y :: x) ++ l) || occ w (!wordB y.toNat) (x ++ l)) := by
  rw [List.cons_append]
  show (true && _ || _) = _
  rw [Bool.true_and]
theorem starts_eq {w c l : Str} (hw : ∀ x ∈ w, wordB x.toNat = true) (hc : ∀ x ∈ c, wordB x.toNat = true) (hl : ∀ y r, l = y :: r → wordB y.toNat = false) : startsW w (c ++ l) = decide (c = w) := by
  rw [Bool.eq_iff_iff]
  simp only [startsW, prefB, Bool.and_eq_true, decide_eq_true_eq]
  constructor
  · rintro ⟨⟨h1, h2⟩, h3⟩
    rcases Nat.lt_trichotomy w.length c.length with h | h | h
    · rw [List.drop_append_of_le_length (by omega), List.drop_eq_getElem_cons h] at h3
      simp only [List.cons_append] at h3
      rw [hc _ (List.getElem_mem h)] at h3
      cases h3
    · rw [List.take_append_of_le_length (by omega), List.take_of_length_le (by omega)] at h2
      exact h2
    · rw [List.take_append, List.take_of_length_le (by omega)] at h2
      cases l with
      | nil => simp at h1; omega
      | cons y r =>
        have hy : y ∈ w := by
          rw [← h2]
          obtain ⟨k, hk⟩ : ∃ k, w.length - c.length = k + 1 := ⟨w.length - c.length - 1, by omega⟩
          rw [hk]; simp
        have h4 := hl y r rfl
        rw [hw y hy] at h4
        cases h4
  · rintro rfl
    refine ⟨⟨by simp, by simp⟩, ?_⟩
    rw [List.drop_left]
    cases l with
    | nil => rfl
    | cons y r => simp [hl y r rfl]
theorem occ_end {w c : Str} (hw : ∀ x ∈ w, wordB x.toNat = true) (hc : ∀ x ∈ c, wordB x.toNat = true) : occ w true c = decide (c = w) := by
  have hs := starts_eq (l := []) hw hc (by simp)
  rw [List.append_nil] at hs
  cases c with
  | nil => show (true && startsW w []) = _; rw [Bool.true_and]; exact hs
  | cons x c =>
    have := occ_true (w := w) (y := x) (x := c) (l := [])
    rw [List.append_nil, List.append_nil] at this
    rw [this, hs, hc x (by simp)]
    have h2 := occ_run (w := w) (c := c) (l := []) (fun y hy => hc y (by simp [hy]))
    rw [List.append_nil] at h2
    simp [h2, occ]
theorem occ_cut {w c r : Str} {y : UInt8} (hw : ∀ x ∈ w, wordB x.toNat = true) (hc : ∀ x ∈ c, wordB x.toNat = true) (hy : wordB y.toNat = false) : occ w true (c ++ y :: r) = (decide (c = w) || occ w true r) := by
  have hs := starts_eq (l := y :: r) hw hc (fun a b h => by cases h; exact hy)
  cases c with
  | nil =>
    show (true && startsW w (y :: r) || occ w (!wordB y.toNat) r) = _
    rw [hy, Bool.true_and]
    rw [List.nil_append] at hs
    rw [hs]; rfl
  | cons x c =>
    rw [occ_true, hs, hc x (by simp)]
    have h2 := occ_run (w := w) (c := c) (l := y :: r) (fun z hz => hc z (by simp [hz]))
    simp only [Bool.not_true]
    rw [h2]
    show (_ || (false && _ || occ w (!wordB y.toNat) r)) = _
    rw [hy]; simp
theorem has_occ {w : Str} (hw : ∀ x ∈ w, wordB x.toNat = true) : ∀ {r c : Str}, (∀ x ∈ c, wordB x.toNat = true) → hasP w r c = occ w true (c ++ r) := by
  intro r
  induction r with
  | nil => intro c hc; rw [List.append_nil, occ_end hw hc]; rfl
  | cons x r ih =>
    intro c hc
    cases hx : wordB x.toNat with
    | true =>
      simp only [hasP, hx, if_true]
      rw [ih (fun y hy => by rcases List.mem_append.1 hy with h | h; exact hc y h; simp only [List.mem_singleton] at h; subst h; exact hx)]
      simp
    | false =>
      simp only [hasP, hx, Bool.false_eq_true, if_false]
      rw [occ_cut hw hc hx, ih (by simp)]
      rfl

theorem occ_short {w : Str} : ∀ {l : Str} {b : Bool}, l.length < w.length → occ w b l = false := by
  intro l
  induction l with
  | nil =>
    intro b h
    simp only [List.length_nil] at h
    show (b && startsW w []) = false
    simp only [startsW, prefB, List.length_nil, decide_eq_false (show ¬ w.length ≤ 0 by omega), Bool.false_and, Bool.and_false]
  | cons x l ih =>
    intro b h
    simp only [List.length_cons] at h
    have h1 : startsW w (x :: l) = false := by simp only [startsW, prefB, List.length_cons, decide_eq_false (show ¬ w.length ≤ l.length + 1 by omega), Bool.false_and]
    simp only [occ, h1, Bool.and_false, Bool.false_or]
    exact ih (by omega)
def bAt (l : Str) (i : Nat) : Bool := decide (i = 0) || !wordB (l.getD (i - 1) 0).toNat
def occAt (w l : Str) (i : Nat) : Bool := occ w (bAt l i) (l.drop i)
theorem occAt_zero (w l : Str) : occAt w l 0 = occ w true l := rfl
theorem starts_iff {w l : Str} {i : Nat} (h : i + w.length ≤ l.length) : startsW w (l.drop i) = (decide ((l.drop i).take w.length = w) && (decide (i + w.length = l.length) || !wordB (l.getD (i + w.length) 0).toNat)) := by
  unfold startsW prefB
  rw [List.drop_drop]
  rw [decide_eq_true (show w.length ≤ (l.drop i).length by simp; omega), Bool.true_and]
  congr 1
  by_cases he : i + w.length = l.length
  · rw [List.drop_eq_nil_of_le (by omega)]; simp [he]
  · have hlt : i + w.length < l.length := by omega
    rw [List.drop_eq_getElem_cons hlt]
    simp [he, hlt]
theorem occAt_step {w l : Str} {i : Nat} (h : i < l.length) : occAt w l i = (bAt l i && startsW w (l.drop i) || occAt w l (i + 1)) := by
  unfold occAt
  rw [List.drop_eq_getElem_cons h]
  show (_ || occ w (!wordB l[i].toNat) (l.drop (i + 1))) = _
  congr 2
  simp [bAt, h]
theorem occAt_hit {w l : Str} {i : Nat} (hw : 1 ≤ w.length) (h : i + w.length ≤ l.length) (h1 : (l.drop i).take w.length = w) (h2 : i = 0 ∨ wordB (l.getD (i - 1) 0).toNat = false) (h3 : i + w.length = l.length ∨ wordB (l.getD (i + w.length) 0).toNat = false) : occAt w l i = true := by
  rw [occAt_step (by omega), starts_iff h]
  have a1 : bAt l i = true := by unfold bAt; rcases h2 with h2 | h2 <;> simp only [h2, decide_true, Bool.true_or, Bool.not_false, Bool.or_true]
  have a2 : (decide (i + w.length = l.length) || !wordB (l.getD (i + w.length) 0).toNat) = true := by rcases h3 with h3 | h3 <;> simp only [h3, decide_true, Bool.true_or, Bool.not_false, Bool.or_true]
  rw [a1, a2, decide_eq_true h1]; rfl
theorem occAt_miss {w l : Str} {i : Nat} (hw : 1 ≤ w.length) (h : i + w.length ≤ l.length) (h1 : (l.drop i).take w.length ≠ w ∨ (0 < i ∧ wordB (l.getD (i - 1) 0).toNat = true) ∨ (i + w.length < l.length ∧ wordB (l.getD (i + w.length) 0).toNat = true)) : occAt w l i = occAt w l (i + 1) := by
  rw [occAt_step (by omega), starts_iff h]
  have : (bAt l i && (decide ((l.drop i).take w.length = w) && (decide (i + w.length = l.length) || !wordB (l.getD (i + w.length) 0).toNat))) = false := by
    rcases h1 with h1 | ⟨h1, h2⟩ | ⟨h1, h2⟩
    · rw [decide_eq_false h1]; simp
    · unfold bAt; rw [decide_eq_false (show ¬ i = 0 by omega), h2]; simp
    · rw [decide_eq_false (show ¬ i + w.length = l.length by omega), h2]; simp
  rw [this, Bool.false_or]
theorem occAt_end {w l : Str} {i : Nat} (h : l.length < i + w.length) (hi : i ≤ l.length) : occAt w l i = false := occ_short (by rw [List.length_drop]; omega)

end Vx
end Go.Proofs.YtnanellmaelipaaGreatDoor
/-
  Contracts: SeekTree, both sides.
-/
namespace Go.Proofs.YtnanellmaelipaaGreatDoor
namespace Vx
open Go.RowKit
set_option maxRecDepth 8000

def anyOcc (w : Str) (l : List Str) : Bool := l.any (occ w true)
def hitI (w : Str) (f : FileD) : Bool := anyOcc w f.text
def seekL (p : FileD → Bool) (t : List FileD) : List Str := (t.filter p).map FileD.path
theorem seekL_hit {p : FileD → Bool} {t : List FileD} {i : Nat} (h : i < t.length) (hp : p t[i] = true) : seekL p (t.take (i + 1)) = seekL p (t.take i) ++ [t[i].path] := by
  simp only [seekL, take_succ' h, List.filter_append, List.map_append]
  simp [List.filter_cons, hp]
theorem seekL_miss {p : FileD → Bool} {t : List FileD} {i : Nat} (h : i < t.length) (hp : p t[i] = false) : seekL p (t.take (i + 1)) = seekL p (t.take i) := by
  simp only [seekL, take_succ' h, List.filter_append, List.map_append]
  simp [List.filter_cons, hp]
theorem seekL_le (p : FileD → Bool) (t : List FileD) : (seekL p t).length ≤ t.length := by
  simp only [seekL, List.length_map]; exact List.length_filter_le p t

def treeSeekI (t : List FileD) (w : Str) : List Str := if treeI t && nameB w then seekL (hitI w) t else []
theorem nameB_len {w : Str} (h : nameB w = true) : 1 ≤ w.length ∧ w.length ≤ 6 := by
  simp only [nameB, Bool.and_eq_true, decide_eq_true_eq] at h
  exact ⟨h.1.1, h.1.2⟩
end Vx
end Go.Proofs.YtnanellmaelipaaGreatDoor
/-
  Contracts: SeekTree (the reference's); both are the same.
-/
namespace Go.Proofs.YtnanellmaelipaaGreatDoor
namespace Vx
open Go.RowKit
set_option maxRecDepth 8000

def hasAt (w l : Str) (fr i : Nat) : Bool := hasP w (l.drop i) (pieceAt l fr i)
theorem hasAt_in {w l : Str} {fr i : Nat} (h : i < l.length) (hf : fr ≤ i) (hb : wordB (l.getD i 0).toNat = true) : hasAt w l fr i = hasAt w l fr (i + 1) := by
  unfold hasAt
  rw [getD_nat _ _ h] at hb
  rw [List.drop_eq_getElem_cons h, piece_step h hf]
  simp only [hasP, hb, if_true]
theorem hasAt_out {w l : Str} {fr i : Nat} (h : i < l.length) (hb : wordB (l.getD i 0).toNat = false) : hasAt w l fr i = (decide (pieceAt l fr i = w) || hasAt w l (i + 1) (i + 1)) := by
  unfold hasAt
  rw [getD_nat _ _ h] at hb
  rw [List.drop_eq_getElem_cons h, piece_zero]
  simp only [hasP, hb, Bool.false_eq_true, if_false]
theorem hasAt_end {w l : Str} {fr i : Nat} (h : l.length ≤ i) : hasAt w l fr i = decide (pieceAt l fr i = w) := by
  unfold hasAt
  rw [List.drop_eq_nil_of_le h]; rfl
def hasS (w l : Str) : Bool := hasP w l []
theorem hasAt_zero (w l : Str) : hasAt w l 0 0 = hasS w l := by simp [hasAt, hasS, piece_zero]
theorem wordB_num (n : Int) : wordB n = ((decide (97 ≤ n) && decide (n ≤ 122)) || (decide (48 ≤ n) && decide (n ≤ 57))) := rfl

def anyHas (w : Str) (l : List Str) : Bool := l.any (hasS w)
def hitS (w : Str) (f : FileD) : Bool := anyHas w f.text
def treeSeekS (t : List FileD) (w : Str) : List Str := if treeS t && nameB w then seekL (hitS w) t else []
theorem seek_eq (t : List FileD) (w : Str) : treeSeekI t w = treeSeekS t w := by
  unfold treeSeekI treeSeekS
  rw [tree_eq]
  by_cases h : nameB w = true
  · have hw : ∀ x ∈ w, wordB x.toNat = true := by
      simp only [nameB, Bool.and_eq_true, List.all_eq_true] at h
      exact h.2
    have : hitI w = hitS w := by
      funext f
      unfold hitI hitS anyOcc anyHas
      congr 1
      funext l
      have := has_occ (w := w) hw (r := l) (c := []) (by simp)
      unfold hasS
      rw [this]; rfl
    rw [this]
  · simp [h]

end Vx
end Go.Proofs.YtnanellmaelipaaGreatDoor
/-
  Contracts: marks in trees; the law FnExactSeekTree.
-/
namespace Go.Proofs.YtnanellmaelipaaGreatDoor
namespace Vx
open Go.RowKit
set_option maxRecDepth 8000

def kE (l : List FileD) (k : Int) : Int := k + l.length + nLines l
def markFs (t : List FileD) (k : Int) : List FileD := (List.range t.length).map fun i : Nat => ⟨markS (kE (t.take i) k), markL (t.getD i default).text.length (kE (t.take i) k + 1)⟩
theorem markFs_len (t : List FileD) (k : Int) : (markFs t k).length = t.length := by simp [markFs]
def mFA (t : List FileD) (k : Int) (i : Nat) : List FileD := (markFs t k).take i ++ t.drop i
theorem mFA_len {t : List FileD} {k : Int} {i : Nat} (h : i ≤ t.length) : (mFA t k i).length = t.length := by simp [mFA, markFs_len]; omega
theorem mFA_zero (t : List FileD) (k : Int) : mFA t k 0 = t := by simp [mFA]
theorem mFA_end {t : List FileD} {k : Int} {i : Nat} (h : t.length ≤ i) : mFA t k i = markFs t k := by
  unfold mFA
  rw [List.take_of_length_le (by rw [markFs_len]; exact h), List.drop_eq_nil_of_le h, List.append_nil]
theorem mFA_get {t : List FileD} {k : Int} {i : Nat} (h : i < t.length) : (mFA t k i)[i]? = some t[i] := by
  unfold mFA
  rw [List.getElem?_append_right (by simp [markFs_len]; omega), List.length_take, markFs_len, Nat.min_eq_left (by omega), Nat.sub_self, List.drop_eq_getElem_cons h]
  rfl
theorem mFA_set {t : List FileD} {k : Int} {i : Nat} (h : i < t.length) : (mFA t k i).set i ⟨markS (kE (t.take i) k), markL t[i].text.length (kE (t.take i) k + 1)⟩ = mFA t k (i + 1) := by
  unfold mFA
  have hl : i < (markFs t k).length := by rw [markFs_len]; exact h
  have hx : (markFs t k)[i] = ⟨markS (kE (t.take i) k), markL t[i].text.length (kE (t.take i) k + 1)⟩ := by simp [markFs, h]
  rw [List.set_append_right _ _ (by simp [markFs_len]; omega), List.length_take, markFs_len, Nat.min_eq_left (by omega), Nat.sub_self, List.drop_eq_getElem_cons h, List.set_cons_zero, List.take_succ_eq_append_getElem hl, hx]
  simp
theorem kE_step {t : List FileD} {k : Int} {i : Nat} (h : i < t.length) : kE (t.take (i + 1)) k = kE (t.take i) k + 1 + t[i].text.length := by
  unfold kE
  rw [nLines_take _ _ h]
  simp; omega
theorem kE_le {t : List FileD} {k : Int} (i : Nat) : k ≤ kE (t.take i) k ∧ kE (t.take i) k ≤ kE t k := by
  have h1 : nLines (t.take i) ≤ nLines t := by
    have : nLines t = nLines (t.take i) + nLines (t.drop i) := by
      unfold nLines
      rw [← List.sum_append, ← List.map_append, List.take_append_drop]
    omega
  have h2 : (t.take i).length ≤ t.length := by simp; omega
  unfold kE
  omega
theorem kE_zero (k : Int) : kE [] k = k := by simp [kE, nLines]

theorem nLines_bd {B : Nat} (t : List FileD) (h : ∀ f ∈ t, f.text.length ≤ B) : nLines t ≤ B * t.length := by
  induction t with
  | nil => simp [nLines]
  | cons f r ih =>
    have h1 := h f (by simp)
    have h2 := ih (fun g hg => h g (by simp [hg]))
    simp [nLines, Nat.mul_add] at h2 ⊢
    omega
theorem held_mark (n : Nat) (k : Int) : heldL (markL n k) k = k + n := by
  unfold heldL
  rw [markL_len, if_pos rfl]

end Vx
end Go.Proofs.YtnanellmaelipaaGreatDoor
/-
  Contracts: copies of trees; ViewOf, both sides.
-/
namespace Go.Proofs.YtnanellmaelipaaGreatDoor
namespace Vx
open Go.RowKit
set_option maxRecDepth 8000

theorem eStrs_str {l : List Str} {x : List D} {d : D} (h : x ∈ eStrs l) (h' : d ∈ x) : ∃ s, d = D.str s := by
  simp only [eStrs, List.mem_map] at h
  obtain ⟨s, _, rfl⟩ := h
  simp only [eStr, List.mem_singleton] at h'
  exact ⟨s, h'⟩

def cL4Copy : Con := .fn 29 (List FileD) (fun a => [.sl true 2 (eFiles a)]) (fun a => a.length ≤ 1048576 ∧ ∀ f ∈ a, f.text.length ≤ 1048576) (fun a => .own 8 2 (eFiles a)) (fun a => ownFiles 8 a)
set_option maxHeartbeats 4000000 in
theorem l4Copy_has : Has Tryz.prog 209 cL4Copy := by
  refine has_walk mixed tTab_ok (l := []) HasL.nil [0, 2, 3, 4] ((fun a n (_ : Nat) => (fun a _ => ⟨Nat, fun i => ⟨[(0, true, .sl true 2 (eFiles a)), (2, true, .nil), (3, true, .own 9 2 (eFiles (a.take i))), (4, true, .int .i64 i)], ownFiles 9 (a.take i)⟩, fun i => i ≤ a.length, fun i => a.length - i⟩) a n)) [26] Tryz.func209 (by kernel_rfl) (code := _) (by unfold Tryz.f209; rfl) (by kernel_rfl) (by decide) (fun _ => ⟨(), trivial⟩) (by intro h; first | exact fun _ => rfl | cases h) (by kernel_rfl) ?_
  intro (a : List FileD) ha
  obtain ⟨h1, h2⟩ : a.length ≤ 1048576 ∧ ∀ f ∈ a, f.text.length ≤ 1048576 := ha
  have h3 : ∀ i (h : i < a.length), a[i].text.length ≤ 1048576 := fun i h => h2 _ (List.getElem_mem h)
  simp -implicitDefEqProofs [cL4Copy, Con.fn, tTab]
  try dsimp only
  try simp +contextual [eStr, eFile, cast_succ, cast_eq, cast_zero, List.getElem?_eq_getElem, eStrs_set, eFiles_set, eStrs_rep, eFiles_rep, ← eStrs_append, ← eFiles_append, eStrs_take, eStrs_drop, eFiles_take, eFiles_drop, eStrs_snoc, eFiles_snoc, and_assoc, ← FileD.eq_iff]
  repeat' (first | intro _ | apply And.intro)
  all_goals first | omega | grind [all_take, eStrs_str, List.take_of_length_le, List.take_succ_eq_append_getElem]

def filB (p : FileD → Bool) (t : List FileD) : List FileD := t.filter p
theorem fil_hit {p : FileD → Bool} {t : List FileD} {i : Nat} (h : i < t.length) (hp : p t[i] = true) : filB p (t.take (i + 1)) = filB p (t.take i) ++ [t[i]] := by
  unfold filB
  rw [take_succ' h, List.filter_append]
  simp [List.filter_cons, hp]
theorem fil_miss {p : FileD → Bool} {t : List FileD} {i : Nat} (h : i < t.length) (hp : p t[i] = false) : filB p (t.take (i + 1)) = filB p (t.take i) := by
  unfold filB
  rw [take_succ' h, List.filter_append]
  simp [List.filter_cons, hp]
theorem fil_le (p : FileD → Bool) (t : List FileD) (i : Nat) : (filB p (t.take i)).length ≤ i := by
  have := List.length_filter_le p (t.take i)
  unfold filB
  simp at this; omega
theorem fil_nil (p : FileD → Bool) : filB p [] = [] := rfl

/-- A copy whose texts have gone, where p holds, ahead of i. -/
def goneR (p : FileD → Bool) (t : List FileD) (i : Nat) : List (List D) := (t.take i).map (fun f => if p f then [.str f.path, .junk] else eFile f) ++ eFiles (t.drop i)
theorem goneR_len (p : FileD → Bool) (t : List FileD) (i : Nat) : (goneR p t i).length = t.length := by simp [goneR]; omega
theorem goneR_zero (p : FileD → Bool) (t : List FileD) : goneR p t 0 = eFiles t := by simp [goneR]
theorem goneR_get {p : FileD → Bool} {t : List FileD} {i : Nat} (h : i < t.length) : (goneR p t i)[i]? = some (eFile t[i]) := by
  unfold goneR
  rw [List.getElem?_append_right (by simp; omega), List.length_map, List.length_take, Nat.min_eq_left (by omega), Nat.sub_self, eFiles_get, List.drop_eq_getElem_cons h]
  rfl
theorem goneR_miss {p : FileD → Bool} {t : List FileD} {i : Nat} (h : i < t.length) (hp : p t[i] = false) : goneR p t (i + 1) = goneR p t i := by
  unfold goneR
  rw [take_succ' h, List.map_append, List.drop_eq_getElem_cons h]
  simp only [List.map_cons, List.map_nil, hp, Bool.false_eq_true, if_false, eFiles, List.append_assoc, List.cons_append, List.nil_append]
theorem goneR_hit {p : FileD → Bool} {t : List FileD} {i : Nat} (h : i < t.length) (hp : p t[i] = true) : (goneR p t i).set i [.str t[i].path, .junk] = goneR p t (i + 1) := by
  unfold goneR
  rw [take_succ' h, List.map_append]
  rw [List.set_append_right _ _ (by simp; omega), List.length_map, List.length_take, Nat.min_eq_left (by omega), Nat.sub_self, List.drop_eq_getElem_cons h]
  simp only [List.map_cons, List.map_nil, hp, if_true, eFiles, List.append_assoc, List.cons_append, List.nil_append, List.set_cons_zero]

def viewOfI (t : List FileD) (l : List Str) : List FileD := if treeI t && viewI l then filB (fun f => visB f l) t else []
end Vx
end Go.Proofs.YtnanellmaelipaaGreatDoor
/-
  Contracts: a file put into a tree (the reference's).
-/
namespace Go.Proofs.YtnanellmaelipaaGreatDoor
namespace Vx
open Go.RowKit
set_option maxRecDepth 8000

def setStep (f : FileD) (acc : List FileD × Bool) (g : FileD) : List FileD × Bool :=
  if acc.2 = false ∧ Go.Op.bytesLess g.path f.path = false then (if g.path = f.path then (acc.1 ++ [f], true) else (acc.1 ++ [f] ++ [g], true))
  else (if g.path = f.path then acc else (acc.1 ++ [g], acc.2))
def setL (f : FileD) (l : List FileD) : List FileD × Bool := l.foldl (setStep f) ([], false)
def setS (t : List FileD) (f : FileD) : List FileD := if (setL f t).2 then (setL f t).1 else (setL f t).1 ++ [f]
theorem setL_succ {f : FileD} {t : List FileD} {i : Nat} (h : i < t.length) : setL f (t.take (i + 1)) = setStep f (setL f (t.take i)) t[i] := by
  unfold setL
  rw [take_succ' h, List.foldl_append]; rfl
theorem setStep_len (f : FileD) (acc : List FileD × Bool) (g : FileD) : (setStep f acc g).1.length + acc.2.toNat ≤ acc.1.length + (setStep f acc g).2.toNat + 1 := by
  unfold setStep
  split
  · rename_i h
    rw [h.1]
    split <;> simp <;> omega
  · split <;> simp <;> omega
theorem setL_len (f : FileD) (t : List FileD) : (setL f t).1.length ≤ t.length + (setL f t).2.toNat := by
  have : ∀ (t : List FileD) (acc : List FileD × Bool), (t.foldl (setStep f) acc).1.length + acc.2.toNat ≤ acc.1.length + t.length + (t.foldl (setStep f) acc).2.toNat := by
    intro t
    induction t with
    | nil => intro acc; simp
    | cons g r ih =>
      intro acc
      have h1 := ih (setStep f acc g)
      have h2 := setStep_len f acc g
      simp only [List.foldl_cons, List.length_cons]
      omega
  have := this t ([], false)
  simpa [setL] using this
theorem setL_mem (f : FileD) (t : List FileD) : ∀ g ∈ (setL f t).1, g ∈ t ∨ g = f := by
  have : ∀ (t : List FileD) (acc : List FileD × Bool), ∀ g ∈ (t.foldl (setStep f) acc).1, g ∈ acc.1 ∨ g ∈ t ∨ g = f := by
    intro t
    induction t with
    | nil => intro acc g hg; exact .inl hg
    | cons x r ih =>
      intro acc g hg
      rcases ih (setStep f acc x) g hg with h | h | h
      · unfold setStep at h
        split at h
        · split at h
          · simp at h; rcases h with h | h
            · exact .inl h
            · exact .inr (.inr h)
          · simp at h; rcases h with h | h | h
            · exact .inl h
            · exact .inr (.inr h)
            · exact .inr (.inl (by simp [h]))
        · split at h
          · exact .inl h
          · simp at h; rcases h with h | h
            · exact .inl h
            · exact .inr (.inl (by simp [h]))
      · exact .inr (.inl (by simp [h]))
      · exact .inr (.inr h)
  intro g hg
  rcases this t ([], false) g hg with h | h
  · simp at h
  · exact h
theorem setS_len (t : List FileD) (f : FileD) : (setS t f).length ≤ t.length + 1 := by
  have := setL_len f t
  unfold setS
  split
  · rename_i h; rw [h] at this; simpa using this
  · rename_i h
    have h : (setL f t).2 = false := by simpa using h
    rw [h] at this; simp at this ⊢; omega
theorem setS_mem (t : List FileD) (f : FileD) : ∀ g ∈ setS t f, g ∈ t ∨ g = f := by
  intro g hg
  unfold setS at hg
  split at hg
  · exact setL_mem f t g hg
  · rcases List.mem_append.1 hg with h | h
    · exact setL_mem f t g h
    · simp at h; exact .inr h

def cL4Set : Con := .fn 65 (List FileD × FileD) (fun a => [.sl true 2 (eFiles a.1), .agg [.str a.2.path, .sl true 1 (eStrs a.2.text)]]) (fun a => a.1.length ≤ 1048576 ∧ a.2.text.length ≤ 1048576) (fun a => .sl false 2 (eFiles (setS a.1 a.2))) (fun _ => [])
set_option maxHeartbeats 4000000 in
theorem l4Set_has : Has Tryz.prog 275 cL4Set := by
  refine has_walk mixed tTab_ok (l := []) HasL.nil [0, 1, 3, 4, 5, 6, 7] ((fun a n (_ : Nat) => (fun a _ => ⟨Nat, fun i => ⟨[(0, true, .sl true 2 (eFiles a.1)), (3, true, .ptr 10 0), (4, true, .nil), (5, true, .own 9 2 (eFiles (setL a.2 (a.1.take i)).1)), (6, true, .bool (setL a.2 (a.1.take i)).2), (7, true, .int .i64 i)], [(10, .box 61 [.str a.2.path, .sl true 1 (eStrs a.2.text)]), (9, .own 61 2 false (eFiles (setL a.2 (a.1.take i)).1))]⟩, fun i => i ≤ a.1.length, fun i => a.1.length - i⟩) a n)) [35, 62] Tryz.func275 (by kernel_rfl) (code := _) (by unfold Tryz.f275; rfl) (by kernel_rfl) (by decide) (fun _ => ⟨(), trivial⟩) (by intro h; first | exact fun _ => rfl | cases h) (by kernel_rfl) ?_
  intro a ha
  obtain ⟨t, f⟩ := a
  obtain ⟨q1, q2⟩ : t.length ≤ 1048576 ∧ f.text.length ≤ 1048576 := ha
  have a0 : setL f [] = ([], false) := rfl
  have a1 : ∀ i (h : i < t.length), (setL f (t.take i)).2 = true → ¬ t[i].path = f.path → setL f (t.take (i + 1)) = ((setL f (t.take i)).1 ++ [t[i]], true) := fun i h h1 h2 => by rw [setL_succ h]; simp [setStep, h1, h2]
  have a2 : ∀ i (h : i < t.length), (setL f (t.take i)).2 = true → t[i].path = f.path → setL f (t.take (i + 1)) = ((setL f (t.take i)).1, true) := fun i h h1 h2 => by rw [setL_succ h]; unfold setStep; rw [if_neg (by simp [h1]), if_pos h2]; exact Prod.ext rfl h1
  have a3 : ∀ i (h : i < t.length), (setL f (t.take i)).2 = false → Go.Op.bytesLess t[i].path f.path = false → ¬ t[i].path = f.path → setL f (t.take (i + 1)) = ((setL f (t.take i)).1 ++ [f] ++ [t[i]], true) := fun i h h1 h3 h2 => by rw [setL_succ h]; simp [setStep, h1, h2, h3]
  have a4 : ∀ i (h : i < t.length), (setL f (t.take i)).2 = false → Go.Op.bytesLess t[i].path f.path = false → t[i].path = f.path → setL f (t.take (i + 1)) = ((setL f (t.take i)).1 ++ [f], true) := fun i h h1 h3 h2 => by rw [setL_succ h]; rw [h2] at h3; simp [setStep, h1, h2, h3]
  have a5 : ∀ i (h : i < t.length), (setL f (t.take i)).2 = false → Go.Op.bytesLess t[i].path f.path = true → ¬ t[i].path = f.path → setL f (t.take (i + 1)) = ((setL f (t.take i)).1 ++ [t[i]], false) := fun i h h1 h3 h2 => by rw [setL_succ h]; simp [setStep, h1, h2, h3]
  have a6 : ∀ i (h : i < t.length), (setL f (t.take i)).2 = false → Go.Op.bytesLess t[i].path f.path = true → t[i].path = f.path → setL f (t.take (i + 1)) = ((setL f (t.take i)).1, false) := fun i h h1 h3 h2 => by rw [setL_succ h]; unfold setStep; rw [if_neg (by simp [h3]), if_pos h2]; exact Prod.ext rfl h1
  have a7 : ∀ i, (setL f (t.take i)).1.length ≤ 1048577 := fun i => by
    have h1 := setL_len f (t.take i)
    have h2 := Bool.toNat_le (setL f (t.take i)).2
    have h3 : (t.take i).length ≤ t.length := by simp; omega
    omega
  have a8 : (setL f t).2 = true → setS t f = (setL f t).1 := fun h => by simp [setS, h]
  have a9 : (setL f t).2 = false → setS t f = (setL f t).1 ++ [f] := fun h => by simp [setS, h]
  simp -implicitDefEqProofs [cL4Set, Con.fn, tTab]
  try dsimp only
  have b1 : ∀ (X : List FileD) (g : FileD), eFiles X ++ [[D.str f.path, D.sl 9 1 (eStrs f.text)], [D.str g.path, D.sl 9 1 (eStrs g.text)]] = eFiles (X ++ [f] ++ [g]) := fun X g => by simp [eFiles, eFile]
  refine ⟨⟨0, by simp [a0]⟩, ?_⟩
  try simp +contextual [eStr, eFile, cast_succ, cast_eq, cast_zero, List.getElem?_eq_getElem, eStrs_set, eFiles_set, eStrs_rep, eFiles_rep, ← eStrs_append, ← eFiles_append, eStrs_take, eStrs_drop, eFiles_take, eFiles_drop, eStrs_snoc, eFiles_snoc, and_assoc, b1, ← FileD.eq_iff]
  repeat' (first | intro _ | apply And.intro)
  all_goals first | omega | grind [all_take, eStrs_str, List.take_of_length_le]

end Vx
end Go.Proofs.YtnanellmaelipaaGreatDoor
/-
  Contracts: draws of lines, paths, texts.
-/
namespace Go.Proofs.YtnanellmaelipaaGreatDoor
namespace Vx
open Go.RowKit
set_option maxRecDepth 8000

theorem eStrs_isCons (b : List Str) (x : Str) (R : List (List D)) : (eStrs b = [D.str x] :: R) = ∃ t, b = x :: t ∧ eStrs t = R := by
  apply propext
  constructor
  · intro h
    cases b with
    | nil => cases h
    | cons y t =>
      simp only [eStrs, List.map_cons, List.cons.injEq, eStr, D.str.injEq, and_true] at h
      exact ⟨t, by rw [h.1], h.2⟩
  · rintro ⟨t, rfl, rfl⟩; rfl
theorem eInts_isCons (b : List Int) (x : Int) (R : List (List D)) : (eInts b = [D.int .i64 x] :: R) = ∃ t, b = x :: t ∧ eInts t = R := by
  apply propext
  constructor
  · intro h
    cases b with
    | nil => cases h
    | cons y t =>
      simp only [eInts, List.map_cons, List.cons.injEq, eInt, D.int.injEq, true_and, and_true] at h
      exact ⟨t, by rw [h.1], h.2⟩
  · rintro ⟨t, rfl, rfl⟩; rfl
/-- A contract of a function that draws: the code and the place; the place goes on by at most m. -/
def cLine : Con := { A := Str × Int, X := Str, n := 6, args := fun _ => [.ptr 0 0], boxes := fun a => [(0, 157, [.sl true 1 (eBytes a.1), .int .i64 a.2])], pre := fun a => a.1.length ≤ 2000 ∧ 0 ≤ a.2 ∧ a.2 ≤ 1073741824, post := fun _ x => x.length ≤ 7, res := fun _ x => .str x, fin := fun a _ => [(0, rdBox a.1 (a.2 + 1))], nob := false }
set_option maxHeartbeats 4000000 in
theorem line_has : Has Tryz.prog 279 cLine := by
  refine has_walk mixed tTab_ok (l := [(90, cOf)]) (HasL.cons of_has HasL.nil) [0, 2] ((fun a n (_ : Nat) => (fun _ => noInv) a n)) [] Tryz.func279 (by kernel_rfl) (code := _) (by unfold Tryz.f279; rfl) (by kernel_rfl) (by decide) (fun _ => ⟨([] : Str), Nat.zero_le 7⟩) (by intro h; first | exact fun _ => rfl | cases h) (by kernel_rfl) ?_
  intro a ha
  obtain ⟨s, p⟩ := a
  obtain ⟨h1, h2, h3⟩ : s.length ≤ 2000 ∧ 0 ≤ p ∧ p ≤ 1073741824 := ha
  simp -implicitDefEqProofs [cLine, cOf, tTab, eStrs_isCons, clash, kd, eByte, all_true]
  refine ⟨s, p, ⟨rfl, rfl⟩, ⟨h1, h2, h3⟩, ?_⟩
  simp
def cPath : Con := { A := Str × Int, X := Str, n := 6, args := fun _ => [.ptr 0 0], boxes := fun a => [(0, 157, [.sl true 1 (eBytes a.1), .int .i64 a.2])], pre := fun a => a.1.length ≤ 2000 ∧ 0 ≤ a.2 ∧ a.2 ≤ 1073741824, post := fun _ x => x.length ≤ 5, res := fun _ x => .str x, fin := fun a _ => [(0, rdBox a.1 (a.2 + 1))], nob := false }
set_option maxHeartbeats 4000000 in
theorem path_has : Has Tryz.prog 255 cPath := by
  refine has_walk mixed tTab_ok (l := [(90, cOf)]) (HasL.cons of_has HasL.nil) [0, 2] ((fun a n (_ : Nat) => (fun _ => noInv) a n)) [] Tryz.func255 (by kernel_rfl) (code := _) (by unfold Tryz.f255; rfl) (by kernel_rfl) (by decide) (fun _ => ⟨([] : Str), Nat.zero_le 5⟩) (by intro h; first | exact fun _ => rfl | cases h) (by kernel_rfl) ?_
  intro a ha
  obtain ⟨s, p⟩ := a
  obtain ⟨h1, h2, h3⟩ : s.length ≤ 2000 ∧ 0 ≤ p ∧ p ≤ 1073741824 := ha
  simp -implicitDefEqProofs [cPath, cOf, tTab, eStrs_isCons, clash, kd, eByte, all_true]
  refine ⟨s, p, ⟨rfl, rfl⟩, ⟨h1, h2, h3⟩, ?_⟩
  simp

def cText : Con := { A := Str × Int, X := List Str × Int, n := 19, args := fun _ => [.ptr 0 0], boxes := fun a => [(0, 157, [.sl true 1 (eBytes a.1), .int .i64 a.2])], pre := fun a => a.1.length ≤ 2000 ∧ 0 ≤ a.2 ∧ a.2 ≤ 1073741800, post := fun a x => x.1.length ≤ 8 ∧ (∀ s ∈ x.1, s.length ≤ 7) ∧ a.2 ≤ x.2 ∧ x.2 ≤ a.2 + 9, res := fun _ x => .own 8 1 (eStrs x.1), fin := fun a x => [(0, rdBox a.1 x.2), (8, .own 9 1 true (eStrs x.1))], nob := false }
set_option maxHeartbeats 4000000 in
theorem text_has : Has Tryz.prog 256 cText := by
  refine has_walk mixed tTab_ok (l := [(147, cOne), (279, cLine)]) (HasL.cons one_has (HasL.cons line_has HasL.nil)) [0, 2, 3, 4] ((fun a n (_ : Nat) => (fun a _ => ⟨List Str × Int × Nat, fun t => ⟨[(0, true, .ptr 0 0), (2, true, .nil), (3, true, .own 9 1 (eStrs t.1)), (4, true, .int .i64 t.2.2)], [(0, rdBox a.1 t.2.1), (9, .own 9 1 true (eStrs t.1))]⟩, fun t => t.1.length + t.2.2 ≤ 8 ∧ (∀ s ∈ t.1, s.length ≤ 7) ∧ a.2 ≤ t.2.1 ∧ t.2.1 ≤ a.2 + 1 + t.1.length, fun t => t.2.2⟩) a n)) [] Tryz.func256 (by kernel_rfl) (code := _) (by unfold Tryz.f256; rfl) (by kernel_rfl) (by decide) (fun a => ⟨(([] : List Str), a.2), Nat.zero_le 8, (by simp), Int.le_refl _, by omega⟩) (by intro h; first | exact fun _ => rfl | cases h) (by kernel_rfl) ?_
  intro a ha
  obtain ⟨s, p⟩ := a
  obtain ⟨h1, h2, h3⟩ : s.length ≤ 2000 ∧ 0 ≤ p ∧ p ≤ 1073741800 := ha
  simp -implicitDefEqProofs [cText, cOne, cLine, tTab, eInts_isCons, clash, kd, eByte, all_true]
  refine ⟨s, p, ⟨rfl, rfl⟩, ⟨h1, by omega, by omega⟩, ?_⟩
  refine ⟨⟨⟨[], p + 1, 0, by simp; omega⟩, ?_⟩, ⟨⟨[], p + 1, 1, by simp; omega⟩, ?_⟩, ⟨⟨[], p + 1, 3, by simp; omega⟩, ?_⟩, ⟨⟨[], p + 1, 5, by simp; omega⟩, ?_⟩, ⟨[], p + 1, 8, by simp; omega⟩, ?_⟩
  all_goals
    intro a q n g1 g2 g3 g4
    refine ⟨fun hn => ⟨s, q, ⟨rfl, rfl⟩, ⟨h1, by omega, by omega⟩, fun y hy => ⟨by omega, by omega, fun _ _ => ⟨a ++ [y], q + 1, n - 1, ⟨⟨(eStrs_snoc a y).symm, by omega⟩, ⟨rfl, rfl⟩, eStrs_snoc a y⟩, ⟨by simp; omega, fun x hx => ?_, by omega, by simp; omega⟩, by omega⟩⟩⟩, fun hn => ⟨a, q, ⟨by omega, g2, by omega, by omega⟩, rfl, rfl, rfl⟩⟩
    rcases List.mem_append.1 hx with hx | hx
    · exact g2 x hx
    · simp at hx; subst hx; exact hy

end Vx
end Go.Proofs.YtnanellmaelipaaGreatDoor
/-
  Contracts: trees drawn.
-/
namespace Go.Proofs.YtnanellmaelipaaGreatDoor
namespace Vx
open Go.RowKit
set_option maxRecDepth 8000

def treeSetS (t : List FileD) (f : FileD) : List FileD × Bool := if treeS t then (if treeS (setS t f) then (setS t f, true) else (t, false)) else ([], false)
theorem treeSetS_len (t : List FileD) (f : FileD) : (treeSetS t f).1.length ≤ t.length + 1 := by
  have := setS_len t f
  unfold treeSetS
  split
  · split <;> simp <;> omega
  · simp
theorem treeSetS_mem (t : List FileD) (f : FileD) : ∀ g ∈ (treeSetS t f).1, g ∈ t ∨ g = f := by
  intro g hg
  unfold treeSetS at hg
  split at hg
  · split at hg
    · exact setS_mem t f g hg
    · exact .inl hg
  · simp at hg

def cTreeSetS : Con := .fn 20 (List FileD × FileD) (fun a => [.sl true 2 (eFiles a.1), .agg [.str a.2.path, .sl true 1 (eStrs a.2.text)]]) (fun a => (a.1.length ≤ 1048575 ∧ ∀ f ∈ a.1, f.text.length ≤ 1048576) ∧ a.2.text.length ≤ 1048576) (fun a => .tup [.sl false 2 (eFiles (treeSetS a.1 a.2).1), .bool (treeSetS a.1 a.2).2]) (fun _ => [])
set_option maxHeartbeats 4000000 in
theorem treeSetS_has : Has Tryz.prog 247 cTreeSetS := by
  refine has_walk mixed tTab_ok (l := [(110, cL4Ok), (209, cL4Copy), (275, cL4Set)]) (HasL.cons l4Ok_has (HasL.cons l4Copy_has (HasL.cons l4Set_has HasL.nil))) [0, 1, 3, 4, 5, 6] ((fun a n (_ : Nat) => (fun _ => noInv) a n)) [] Tryz.func247 (by kernel_rfl) (code := _) (by unfold Tryz.f247; rfl) (by kernel_rfl) (by decide) (fun _ => ⟨(), trivial⟩) (by intro h; first | exact fun _ => rfl | cases h) (by kernel_rfl) ?_
  intro a ha
  obtain ⟨t, f⟩ := a
  obtain ⟨⟨q1, q2⟩, q3⟩ : (t.length ≤ 1048575 ∧ ∀ f ∈ t, f.text.length ≤ 1048576) ∧ f.text.length ≤ 1048576 := ha
  simp -implicitDefEqProofs [cTreeSetS, Con.fn, tTab, cL4Ok, cL4Copy, cL4Set, treeSetS]
  try dsimp only
  try simp +contextual -implicitDefEqProofs [eStr, eFile, cast_succ, cast_eq, cast_zero, List.getElem?_eq_getElem, eStrs_set, eFiles_set, eStrs_rep, eFiles_rep, ← eStrs_append, ← eFiles_append, eStrs_take, eStrs_drop, eFiles_take, eFiles_drop, eStrs_snoc, eFiles_snoc, and_assoc]
  repeat' (first | intro _ | apply And.intro)
  all_goals first | omega | grind [all_take, treeSetS]

/-- What is known of a drawn tree. -/
def drawnT (t : List FileD) : Prop := t.length ≤ 6 ∧ ∀ f ∈ t, f.path.length ≤ 7 ∧ f.text.length ≤ 18 ∧ ∀ s ∈ f.text, s.length ≤ 15
def seekWords : List Str := [[97], [120], [115, 101, 101], [101, 110, 100], [101], [101, 110], []]
end Vx
end Go.Proofs.YtnanellmaelipaaGreatDoor
/-
  Contracts: ViewOf (the reference's), marks looked for in trees; the law FnExactViewOf.
-/
namespace Go.Proofs.YtnanellmaelipaaGreatDoor
namespace Vx
open Go.RowKit
set_option maxRecDepth 8000

def viewOfS (t : List FileD) (l : List Str) : List FileD := if treeS t && viewS l then filB (fun f => in25 l f.path) t else []
theorem kE_marks (t : List FileD) (k j : Int) : kE (markFs t k) j = kE t j := by
  have : nLines (markFs t k) = nLines t := by
    unfold nLines markFs
    rw [List.map_map]
    have : ((fun f : FileD => f.text.length) ∘ fun i : Nat => (⟨markS (kE (t.take i) k), markL (t.getD i default).text.length (kE (t.take i) k + 1)⟩ : FileD)) = fun i => (t.getD i default).text.length := by
      funext i; simp [markL_len]
    rw [this]
    congr 1
    apply List.ext_getElem (by simp)
    intro i h1 h2
    simp at h1
    simp [h1]
  unfold kE
  rw [this, markFs_len]
theorem markFs_take (t : List FileD) (k : Int) (i : Nat) (h : i ≤ t.length) : markFs (t.take i) k = (markFs t k).take i := by
  unfold markFs
  rw [← List.map_take, List.take_range, List.length_take, Nat.min_comm]
  rw [Nat.min_comm]
  apply List.map_congr_left
  intro j hj
  have hj : j < i := by simp at hj; omega
  rw [List.take_take, Nat.min_eq_left (by omega)]
  simp [List.getElem?_take, hj]
theorem markFs_same (t : List FileD) (k : Int) : markFs (markFs t k) k = markFs t k := by
  show (List.range (markFs t k).length).map _ = (List.range t.length).map _
  rw [markFs_len]
  apply List.map_congr_left
  intro i hi
  have hi : i < t.length := by simpa using hi
  rw [← markFs_take t k i (by omega), kE_marks]
  have : ((markFs t k).getD i default).text.length = (t.getD i default).text.length := by simp [markFs, hi, markL_len]
  rw [this]

def heldFs (t : List FileD) (k : Int) : Int := if t = markFs t k then kE t k else -1
theorem heldFs_mark (t : List FileD) (k : Int) : heldFs (markFs t k) k = kE t k := by
  unfold heldFs
  rw [markFs_same, if_pos rfl, kE_marks]
theorem heldF_get {t : List FileD} {k : Int} {i : Nat} (h : i < t.length) : (markFs t k)[i]'(by rw [markFs_len]; exact h) = ⟨markS (kE (t.take i) k), markL t[i].text.length (kE (t.take i) k + 1)⟩ := by simp [markFs, h]
theorem heldF_miss {t : List FileD} {k : Int} {i : Nat} (h : i < t.length) (h2 : t[i].path ≠ markS (kE (t.take i) k) ∨ t[i].text ≠ markL t[i].text.length (kE (t.take i) k + 1)) : heldFs t k = -1 := by
  unfold heldFs
  rw [if_neg]
  intro h3
  have : t[i]? = (markFs t k)[i]? := by rw [← h3]
  rw [List.getElem?_eq_getElem h, List.getElem?_eq_getElem (by rw [markFs_len]; exact h), heldF_get h] at this
  have := Option.some.inj this
  rcases h2 with h2 | h2
  · exact h2 (congrArg FileD.path this)
  · exact h2 (congrArg FileD.text this)
theorem heldF_step {t : List FileD} {k : Int} {i : Nat} (h : i < t.length) (h1 : t.take i = (markFs t k).take i) (h2 : t[i].path = markS (kE (t.take i) k)) (h3 : t[i].text = markL t[i].text.length (kE (t.take i) k + 1)) : t.take (i + 1) = (markFs t k).take (i + 1) := by
  rw [take_succ' h, take_succ' (by rw [markFs_len]; exact h), heldF_get h, ← h1, ← h2, ← h3]
theorem heldF_end {t : List FileD} {k : Int} {i : Nat} (h : t.length ≤ i) (h1 : t.take i = (markFs t k).take i) : heldFs t k = kE (t.take i) k := by
  rw [List.take_of_length_le h, List.take_of_length_le (by rw [markFs_len]; exact h)] at h1
  unfold heldFs
  rw [if_pos h1, List.take_of_length_le h]
theorem view_of_eq (t : List FileD) (l : List Str) : viewOfI t l = viewOfS t l := by
  unfold viewOfI viewOfS
  rw [tree_eq, view_eq]
  simp only [vis_in]
theorem viewOfS_bd (t : List FileD) (l : List Str) : (viewOfS t l).length ≤ 8 ∧ ∀ f ∈ viewOfS t l, f.text.length ≤ 64 := by
  unfold viewOfS
  split
  · rename_i h
    simp only [Bool.and_eq_true] at h
    have h1 := treeS_le t h.1
    refine ⟨Nat.le_trans (List.length_filter_le _ _) h1.1, fun f hf => h1.2 f (List.mem_filter.1 hf).1⟩
  · simp
theorem kE_bd {t : List FileD} {A B : Nat} (h1 : t.length ≤ A) (h2 : ∀ f ∈ t, f.text.length ≤ B) (k : Int) : k ≤ kE t k ∧ kE t k ≤ k + A + B * A := by
  have h3 := nLines_bd t h2
  have h4 : B * t.length ≤ B * A := Nat.mul_le_mul_left _ h1
  unfold kE
  refine ⟨by omega, ?_⟩
  have : (nLines t : Int) ≤ ((B * A : Nat) : Int) := by omega
  rw [Int.natCast_mul] at this
  omega

end Vx
end Go.Proofs.YtnanellmaelipaaGreatDoor
/-
  Contracts: branches (headsOk, l23Ok).
-/
namespace Go.Proofs.YtnanellmaelipaaGreatDoor
namespace Vx
open Go.RowKit
set_option maxRecDepth 8000

def cExists : Con := .fn 11 (RepoD × Int) (fun a => [vRepo a.1, .int .i64 a.2]) (fun a => a.1.commits.length ≤ 1073741824) (fun a => .bool (decide (0 ≤ a.2) && decide (a.2 ≤ (a.1.commits.length : Int) - 1))) (fun _ => [])
set_option maxHeartbeats 4000000 in
theorem exists_has : Has Tryz.prog 79 cExists := by
  refine has_walk mixed tTab_ok (l := [(99, cWithin)]) (HasL.cons within_has HasL.nil) [0, 1, 2, 4] ((fun a n (_ : Nat) => (fun _ => noInv) a n)) [] Tryz.func79 (by kernel_rfl) (code := _) (by unfold Tryz.f79; rfl) (by kernel_rfl) (by decide) (fun _ => ⟨(), trivial⟩) (by intro h; first | exact fun _ => rfl | cases h) (by kernel_rfl) ?_
  intro a ha
  obtain ⟨r, n⟩ := a
  replace ha : r.commits.length ≤ 1073741824 := ha
  simp -implicitDefEqProofs [cExists, Con.fn, tTab, cWithin]
  try dsimp only
  try simp +contextual -implicitDefEqProofs [eStr, eFile, cast_succ, cast_eq, cast_zero, List.getElem?_eq_getElem, eStrs_set, eFiles_set, eStrs_rep, eFiles_rep, ← eStrs_append, ← eFiles_append, eStrs_take, eStrs_drop, eFiles_take, eFiles_drop, eStrs_snoc, eFiles_snoc, and_assoc]
  repeat' (first | intro _ | apply And.intro)
  all_goals first | omega | grind [all_take]

def inN (n : Nat) (a : Int) : Bool := decide (0 ≤ a) && decide (a ≤ (n : Int) - 1)
def okHd (n : Nat) (h : List HeadD) (i : Nat) : Bool := nameB (h.getD i default).name && inN n (h.getD i default).at_ && (decide (i = 0) || Go.Op.bytesLess (h.getD (i - 1) default).name (h.getD i default).name)
def headsB (n : Nat) (h : List HeadD) : Bool := decide (h.length ≤ 5) && (List.range h.length).all (okHd n h)
theorem headsB_iff (n : Nat) (h : List HeadD) : headsB n h = true ↔ h.length ≤ 5 ∧ ∀ i, i < h.length → okHd n h i = true := by simp -implicitDefEqProofs [headsB]
theorem headsB_no {n : Nat} {h : List HeadD} {i : Nat} (hi : i < h.length) (hb : okHd n h i = false) : headsB n h = false := by
  cases hq : headsB n h with
  | false => rfl
  | true => have := ((headsB_iff n h).1 hq).2 i hi; simp -implicitDefEqProofs [hb] at this
def cHeadsOk : Con := .fn 44 (RepoD × List HeadD) (fun a => [vRepo a.1, .sl true 2 (eHeads a.2)]) (fun a => a.1.commits.length ≤ 1073741824) (fun a => .bool (headsB a.1.commits.length a.2)) (fun _ => [])
set_option maxHeartbeats 4000000 in
theorem headsOk_has : Has Tryz.prog 88 cHeadsOk := by
  refine has_walk mixed tTab_ok (l := [(91, cNameOk), (79, cExists)]) (HasL.cons nameOk_has (HasL.cons exists_has HasL.nil)) [0, 1, 2, 4, 5, 6, 10, 11, 12] ((fun a n (_ : Nat) => (fun a _ => ⟨Nat, fun i => ⟨[(1, true, .sl true 2 (eHeads a.2)), (2, true, .ptr 10 0), (4, true, .bool false), (10, true, .sl true 2 (eHeads a.2)), (11, true, .int .i64 a.2.length), (12, true, .int .i64 i)], [(10, .box 26 [.sl true 3 (eCommits a.1.commits), .sl true 2 (eHeads a.1.heads)])]⟩, fun i => i ≤ a.2.length ∧ a.2.length ≤ 5 ∧ ∀ j, j < i → okHd a.1.commits.length a.2 j = true, fun i => a.2.length - i⟩) a n)) [] Tryz.func88 (by kernel_rfl) (code := _) (by unfold Tryz.f88; rfl) (by kernel_rfl) (by decide) (fun _ => ⟨(), trivial⟩) (by intro h; first | exact fun _ => rfl | cases h) (by kernel_rfl) ?_
  intro a ha
  obtain ⟨r, t⟩ := a
  replace ha : r.commits.length ≤ 1073741824 := ha
  have hB : 5 < t.length → headsB r.commits.length t = false := fun h => by
    cases hq : headsB r.commits.length t with
    | false => rfl
    | true => have := ((headsB_iff _ _).1 hq).1; omega
  have hN := fun i => @headsB_no r.commits.length t i
  have hE := (headsB_iff r.commits.length t).2
  have hg : ∀ i (h : i < t.length), t.getD i default = t[i] := fun i h => by simp -implicitDefEqProofs [List.getD_eq_getElem?_getD, h]
  have hgg : ∀ i (h : i < t.length), t[i]?.getD default = t[i] := fun i h => by simp -implicitDefEqProofs [h]
  have e1 : ∀ k (h : k < t.length), Option.map eHead t[k]? = some (eHead t[k]) := fun k h => by simp -implicitDefEqProofs [List.getElem?_eq_getElem h]
  simp -implicitDefEqProofs [cHeadsOk, Con.fn, tTab, cNameOk, cExists]
  try dsimp only
  refine fun _ => ⟨fun h => hB (by omega), fun h5 _ => ⟨by omega, fun i hi _ hprev => ⟨fun hlt => ?_, fun hge => hE ⟨by omega, fun j hj => hprev j (by omega)⟩⟩⟩⟩
  have e3 := e1 i hlt
  have e4 := e1 (i - 1) (by omega)
  have hh : okHd r.commits.length t i = (nameB t[i].name && inN r.commits.length t[i].at_ && (decide (i = 0) || Go.Op.bytesLess (t[i - 1]'(by omega)).name t[i].name)) := by
    unfold okHd
    rw [hg i hlt, hg (i - 1) (by omega)]
  have hn := hN i hlt
  rw [hh] at hn
  unfold inN at hn hh
  simp -implicitDefEqProofs [hlt, e3, e4, eHead, D.asStr, D.asInt, cast_eq, and_assoc]
  try simp +contextual -implicitDefEqProofs [eStr, eFile, cast_succ, cast_eq, cast_zero, List.getElem?_eq_getElem, eStrs_set, eFiles_set, eStrs_rep, eFiles_rep, ← eStrs_append, ← eFiles_append, eStrs_take, eStrs_drop, eFiles_take, eFiles_drop, eStrs_snoc, eFiles_snoc, and_assoc, hlt]
  clear e1 hg hgg hN hE hB
  repeat' (first | intro _ | apply And.intro)
  all_goals first | omega | grind -ring

def cL23Ok : Con := .fn 53 (RepoD × List HeadD) (fun a => [vRepo a.1, .sl true 2 (eHeads a.2)]) (fun a => a.1.commits.length ≤ 1073741824) (fun a => .bool (headsB a.1.commits.length a.2)) (fun _ => [])
set_option maxHeartbeats 4000000 in
theorem l23Ok_has : Has Tryz.prog 83 cL23Ok := by
  refine has_walk mixed tTab_ok (l := [(95, cL4Name), (84, cL1In)]) (HasL.cons l4Name_has (HasL.cons l1In_has HasL.nil)) [0, 1, 2, 4, 5] ((fun a n (_ : Nat) => (fun a _ => ⟨Nat, fun i => ⟨[(1, true, .sl true 2 (eHeads a.2)), (2, true, .ptr 10 0), (4, true, .bool false), (5, true, .int .i64 i)], [(10, .box 26 [.sl true 3 (eCommits a.1.commits), .sl true 2 (eHeads a.1.heads)])]⟩, fun i => i ≤ a.2.length ∧ ∀ j, j < i → okHd a.1.commits.length a.2 j = true, fun i => a.2.length - i⟩) a n)) [] Tryz.func83 (by kernel_rfl) (code := _) (by unfold Tryz.f83; rfl) (by kernel_rfl) (by decide) (fun _ => ⟨(), trivial⟩) (by intro h; first | exact fun _ => rfl | cases h) (by kernel_rfl) ?_
  intro a ha
  obtain ⟨r, t⟩ := a
  replace ha : r.commits.length ≤ 1073741824 := ha
  have hN := fun i => @headsB_no r.commits.length t i
  have hg : ∀ i (h : i < t.length), t.getD i default = t[i] := fun i h => by simp -implicitDefEqProofs [List.getD_eq_getElem?_getD, h]
  have e1 : ∀ k (h : k < t.length), Option.map eHead t[k]? = some (eHead t[k]) := fun k h => by simp -implicitDefEqProofs [List.getElem?_eq_getElem h]
  simp -implicitDefEqProofs [cL23Ok, Con.fn, tTab, cL4Name, cL1In]
  try dsimp only
  refine fun i hi hprev _ => ⟨fun hlt => ?_, fun hge => ?_⟩
  · have e3 := e1 i hlt
    have e4 := e1 (i - 1) (by omega)
    have hh : okHd r.commits.length t i = (nameB t[i].name && inN r.commits.length t[i].at_ && (decide (i = 0) || Go.Op.bytesLess (t[i - 1]'(by omega)).name t[i].name)) := by
      unfold okHd
      rw [hg i hlt, hg (i - 1) (by omega)]
    have hn := hN i hlt
    rw [hh] at hn
    unfold inN at hn hh
    have hq := leqS_iff t[i].name (t[i - 1]'(by omega)).name
    rw [less_eq] at hn hh
    unfold leqS at hq
    simp -implicitDefEqProofs [hlt, e3, e4, eHead, D.asStr, D.asInt, cast_eq, and_assoc]
    try simp +contextual -implicitDefEqProofs [eStr, eFile, cast_succ, cast_eq, cast_zero, List.getElem?_eq_getElem, eStrs_set, eFiles_set, eStrs_rep, eFiles_rep, ← eStrs_append, ← eFiles_append, eStrs_take, eStrs_drop, eFiles_take, eFiles_drop, eStrs_snoc, eFiles_snoc, and_assoc, hlt]
    clear e1 hg hN
    repeat' (first | intro _ | apply And.intro)
    all_goals first | omega | grind -ring
  · have : (∀ i, i < t.length → okHd r.commits.length t i = true) := fun j hj => hprev j (by omega)
    have h2 : headsB r.commits.length t = decide (t.length ≤ 5) := by
      unfold headsB
      have : (List.range t.length).all (okHd r.commits.length t) = true := by simpa using this
      rw [this, Bool.and_true]
    rw [h2]
    intro _
    rw [Bool.eq_iff_iff]
    simp
    try omega

end Vx
end Go.Proofs.YtnanellmaelipaaGreatDoor
/-
  Contracts: repositories (RepoOk, l7Ok).
-/
namespace Go.Proofs.YtnanellmaelipaaGreatDoor
namespace Vx
open Go.RowKit
set_option maxRecDepth 8000

def okI1 (cs : List CommitD) (i : Nat) : Bool :=
  decide ((cs.getD i default).parents.length ≤ 2) && !(decide ((cs.getD i default).parents.length = 2) && decide ((cs.getD i default).parents.getD 0 0 = (cs.getD i default).parents.getD 1 0)) && nameB (cs.getD i default).who && treeI (cs.getD i default).tree
def okCI (cs : List CommitD) (i : Nat) : Bool := okI1 cs i && (List.range (cs.getD i default).parents.length).all fun k => inN i ((cs.getD i default).parents.getD k 0)
def repoI (r : RepoD) : Bool := decide (r.commits.length ≤ 16) && (List.range r.commits.length).all (okCI r.commits) && headsB r.commits.length r.heads
def rpPre (r : RepoD) : Prop := r.commits.length ≤ 1073741824 ∧ ∀ c ∈ r.commits, ∀ f ∈ c.tree, f.path.length ≤ 536870912
def bRepo (r : RepoD) : Blk := .box 26 [.sl true 3 (eCommits r.commits), .sl true 2 (eHeads r.heads)]
theorem bRepo_def (r : RepoD) : bRepo r = .box 26 [.sl true 3 (eCommits r.commits), .sl true 2 (eHeads r.heads)] := rfl
def riO (r : RepoD) : Inv := ⟨Nat, fun i => ⟨[(1, true, .ptr 10 0), (2, true, .bool false), (12, true, .sl true 3 (eCommits r.commits)), (13, true, .int .i64 r.commits.length), (14, true, .int .i64 i)], [(10, bRepo r)]⟩, fun i => i ≤ r.commits.length ∧ r.commits.length ≤ 16 ∧ ∀ j, j < i → okCI r.commits j = true, fun i => r.commits.length - i⟩
def riI (r : RepoD) (g : Nat) : Inv := ⟨Nat, fun k => ⟨[(1, true, .ptr 10 0), (2, true, .bool false), (3, true, .int .i64 g), (12, true, .sl true 3 (eCommits r.commits)), (13, true, .int .i64 r.commits.length), (14, true, .int .i64 g), (53, true, .sl true 1 (eInts (r.commits.getD g default).parents)), (54, true, .int .i64 (r.commits.getD g default).parents.length), (55, true, .int .i64 k)], [(10, bRepo r)]⟩,
  fun k => g < r.commits.length ∧ k ≤ (r.commits.getD g default).parents.length ∧ r.commits.length ≤ 16 ∧ (∀ j, j < g → okCI r.commits j = true) ∧ okI1 r.commits g = true ∧ ∀ j, j < k → inN g ((r.commits.getD g default).parents.getD j 0) = true, fun k => (r.commits.getD g default).parents.length - k⟩
def riInv (r : RepoD) (n g : Nat) : Inv := if n = 4 then riO r else riI r g
theorem riInv_4 (r : RepoD) (g : Nat) : riInv r 4 g = riO r := rfl
theorem riInv_9 (r : RepoD) (g : Nat) : riInv r 9 g = riI r g := rfl
theorem repoI_iff (r : RepoD) : repoI r = true ↔ r.commits.length ≤ 16 ∧ (∀ i, i < r.commits.length → okCI r.commits i = true) ∧ headsB r.commits.length r.heads = true := by simp -implicitDefEqProofs [repoI, and_assoc]
theorem repoI_no {r : RepoD} {i : Nat} (hi : i < r.commits.length) (hb : okCI r.commits i = false) : repoI r = false := by
  cases hq : repoI r with
  | false => rfl
  | true => have := ((repoI_iff r).1 hq).2.1 i hi; simp -implicitDefEqProofs [hb] at this
theorem repoI_big {r : RepoD} (h : 16 < r.commits.length) : repoI r = false := by
  cases hq : repoI r with
  | false => rfl
  | true => have := ((repoI_iff r).1 hq).1; omega
theorem okCI_no1 {cs : List CommitD} {i : Nat} (h : okI1 cs i = false) : okCI cs i = false := by unfold okCI; rw [h]; rfl
theorem okCI_no2 {cs : List CommitD} {i k : Nat} (hk : k < (cs.getD i default).parents.length) (h : inN i ((cs.getD i default).parents.getD k 0) = false) : okCI cs i = false := by
  unfold okCI
  have : (List.range (cs.getD i default).parents.length).all (fun k => inN i ((cs.getD i default).parents.getD k 0)) = false := by
    rw [List.all_eq_false]
    exact ⟨k, List.mem_range.2 hk, by simpa using h⟩
  rw [this, Bool.and_false]
theorem okCI_yes {cs : List CommitD} {i : Nat} (h : okI1 cs i = true) (h2 : ∀ k, k < (cs.getD i default).parents.length → inN i ((cs.getD i default).parents.getD k 0) = true) : okCI cs i = true := by
  unfold okCI
  rw [h, Bool.true_and, List.all_eq_true]
  intro k hk
  exact h2 k (by simpa using hk)

def cRepoOk : Con := .fn 70 RepoD (fun r => [vRepo r]) rpPre (fun r => .bool (repoI r)) (fun _ => [])
set_option maxHeartbeats 4000000 in
theorem repoOk_has : Has Tryz.prog 24 cRepoOk := by
  refine has_walk mixed tTab_ok (l := [(91, cNameOk), (98, cTreeOk), (99, cWithin), (88, cHeadsOk)]) (HasL.cons nameOk_has (HasL.cons treeOk_has (HasL.cons within_has (HasL.cons headsOk_has HasL.nil)))) [0, 1, 2, 3, 4, 6, 12, 13, 14, 53, 54, 55] (fun r => riInv r) [] Tryz.func24 (by kernel_rfl) (code := _) (by unfold Tryz.f24; rfl) (by kernel_rfl) (by decide) (fun _ => ⟨(), trivial⟩) (by intro h; first | exact fun _ => rfl | cases h) (by kernel_rfl) ?_
  intro (r : RepoD) hr
  obtain ⟨hr1, hr2⟩ : r.commits.length ≤ 1073741824 ∧ ∀ c ∈ r.commits, ∀ f ∈ c.tree, f.path.length ≤ 536870912 := hr
  have hp : ∀ i (h : i < r.commits.length), ∀ f ∈ r.commits[i].tree, f.path.length ≤ 536870912 := fun i h => hr2 _ (List.getElem_mem h)
  have hB := @repoI_big r
  have hN := fun i => @repoI_no r i
  have hN1 := fun i => @okCI_no1 r.commits i
  have hN2 := fun i k => @okCI_no2 r.commits i k
  have hY := fun i => @okCI_yes r.commits i
  simp -implicitDefEqProofs [cRepoOk, Con.fn, tTab, cNameOk, cTreeOk, cWithin, cHeadsOk, riInv_4, riInv_9, riO, riI, bRepo_def]
  try dsimp only
  refine fun _ => ⟨fun h => hB (by omega), fun h16 _ => ⟨by omega, fun i hi _ hprev => ⟨fun hlt => ?_, fun hge => ?_⟩⟩⟩
  · have e3 : Option.map eCommit r.commits[i]? = some (eCommit r.commits[i]) := by simp -implicitDefEqProofs [List.getElem?_eq_getElem hlt]
    have hgc : r.commits.getD i default = r.commits[i] := by simp -implicitDefEqProofs [List.getD_eq_getElem?_getD, hlt]
    have hpc := hp i hlt
    have n0 := hN i hlt
    have n1 := hN1 i
    have n2 := hN2 i
    have n3 := hY i
    have o1 : okI1 r.commits i = (decide (r.commits[i].parents.length ≤ 2) && !(decide (r.commits[i].parents.length = 2) && decide (r.commits[i].parents.getD 0 0 = r.commits[i].parents.getD 1 0)) && nameB r.commits[i].who && treeI r.commits[i].tree) := by
      unfold okI1; rw [hgc]
    rw [hgc] at n2 n3
    simp -implicitDefEqProofs [hlt, e3, eCommit, D.asStr, D.asRows, cast_eq, and_assoc]
    try simp only [show r.commits[i]?.getD default = r.commits[i] by simp -implicitDefEqProofs [hlt]]
    generalize r.commits[i] = c at hpc n2 n3 o1 ⊢
    have hq : ∀ k (h : k < c.parents.length), inN i (c.parents[k]?.getD 0) = (decide (0 ≤ c.parents[k]) && decide (c.parents[k] ≤ (i : Int) - 1)) := fun k h => by simp -implicitDefEqProofs [inN, h]
    have n4 : ∀ k (h : k < c.parents.length), (decide (0 ≤ c.parents[k]) && decide (c.parents[k] ≤ (i : Int) - 1)) = false → repoI r = false := fun k h hb => n0 (n2 k h (by rw [List.getD_eq_getElem?_getD, hq k h]; exact hb))
    have n5 : okI1 r.commits i = false → repoI r = false := fun h => n0 (n1 h)
    have n6 : okI1 r.commits i = true → (∀ j, j < c.parents.length → inN i (c.parents[j]?.getD 0) = true) → ∀ j, j < i + 1 → okCI r.commits j = true := fun h1 h2 j hj => by
      rcases Nat.lt_or_ge j i with h3 | h3
      · exact hprev j h3
      · have : j = i := by omega
        subst this
        exact n3 h1 (fun k hk => by rw [List.getD_eq_getElem?_getD]; exact h2 k hk)
    clear n3 n2 n1 n0 hN hN1 hN2 hY hp hr2 hB hgc e3
    have o2 : ∀ (h : c.parents.length = 2), okI1 r.commits i = (!(decide (c.parents[0] = c.parents[1])) && nameB c.who && treeI c.tree) := fun h => by
      rw [o1]; simp -implicitDefEqProofs [h]
    have o3 : c.parents.length ≤ 2 → ¬ c.parents.length = 2 → okI1 r.commits i = (nameB c.who && treeI c.tree) := fun h h' => by
      rw [o1]; simp -implicitDefEqProofs [h, h']
    have o4 : 2 < c.parents.length → okI1 r.commits i = false := fun h => by
      rw [o1]; simp -implicitDefEqProofs [show ¬ c.parents.length ≤ 2 by omega]
    clear o1
    refine ⟨fun h => n5 (o4 (by omega)), fun hl2 => ⟨fun h2 => ?_, fun h2 => ?_⟩⟩
    · have q0 : Option.map eInt c.parents[0]? = some (eInt c.parents[0]) := by simp -implicitDefEqProofs [List.getElem?_eq_getElem (show 0 < c.parents.length by omega)]
      have q1 : Option.map eInt c.parents[1]? = some (eInt c.parents[1]) := by simp -implicitDefEqProofs [List.getElem?_eq_getElem (show 1 < c.parents.length by omega)]
      have o5 := o2 (by omega)
      simp -implicitDefEqProofs [q0, q1, eInt]
      refine ⟨by omega, fun _ => ⟨by omega, fun _ => ⟨fun he => n5 (by rw [o5]; simp -implicitDefEqProofs [he]), fun he => ⟨fun hn => n5 (by rw [o5]; simp -implicitDefEqProofs [hn]), fun hn => ⟨hpc, fun ht => n5 (by rw [o5]; simp -implicitDefEqProofs [ht]), fun ht _ => ⟨by omega, hprev, by rw [o5]; simp -implicitDefEqProofs [he, hn, ht], fun t ht1 _ _ hok hinv => ?_⟩⟩⟩⟩⟩⟩
      clear o2 o3 o4 o5 n5
      refine ⟨fun hlt2 => ?_, fun hge2 => ?_⟩
      · have qt : Option.map eInt c.parents[t]? = some (eInt c.parents[t]) := by simp -implicitDefEqProofs [List.getElem?_eq_getElem hlt2]
        have n7 := n4 t hlt2
        have q7 := hq t hlt2
        simp -implicitDefEqProofs [qt, eInt, hlt2]
        have n8 : 0 ≤ c.parents[t] → c.parents[t] ≤ (i : Int) - 1 → ∀ j, j < t + 1 → inN i (c.parents[j]?.getD 0) = true := fun g1 g2 j hj => by
          rcases Nat.lt_or_ge j t with h3 | h3
          · exact hinv j h3
          · have : j = t := by omega
            subst this
            rw [q7]
            simp -implicitDefEqProofs [g1, g2]
        refine ⟨by omega, by omega, fun _ _ => ⟨fun h => n7 (by simp; omega), fun g1 g2 => ⟨by omega, by omega, fun _ _ => ⟨t + 1, rfl, by omega, by omega, hprev, hok, n8 g1 g2, by omega⟩⟩⟩⟩
      · have n7 := n6 hok (fun j hj => hinv j (by omega))
        exact ⟨by omega, by omega, fun _ _ => ⟨i + 1, rfl, by omega, by omega, n7, by omega⟩⟩
    · have o5 := o3 (by omega) (by omega)
      refine ⟨fun hn => n5 (by rw [o5]; simp -implicitDefEqProofs [hn]), fun hn => ⟨hpc, fun ht => n5 (by rw [o5]; simp -implicitDefEqProofs [ht]), fun ht _ => ⟨by omega, hprev, by rw [o5]; simp -implicitDefEqProofs [hn, ht], fun t ht1 _ _ hok hinv => ?_⟩⟩⟩
      clear o2 o3 o4 o5 n5
      refine ⟨fun hlt2 => ?_, fun hge2 => ?_⟩
      · have qt : Option.map eInt c.parents[t]? = some (eInt c.parents[t]) := by simp -implicitDefEqProofs [List.getElem?_eq_getElem hlt2]
        have n7 := n4 t hlt2
        have q7 := hq t hlt2
        simp -implicitDefEqProofs [qt, eInt, hlt2]
        have n8 : 0 ≤ c.parents[t] → c.parents[t] ≤ (i : Int) - 1 → ∀ j, j < t + 1 → inN i (c.parents[j]?.getD 0) = true := fun g1 g2 j hj => by
          rcases Nat.lt_or_ge j t with h3 | h3
          · exact hinv j h3
          · have : j = t := by omega
            subst this
            rw [q7]
            simp -implicitDefEqProofs [g1, g2]
        refine ⟨by omega, by omega, fun _ _ => ⟨fun h => n7 (by simp; omega), fun g1 g2 => ⟨by omega, by omega, fun _ _ => ⟨t + 1, rfl, by omega, by omega, hprev, hok, n8 g1 g2, by omega⟩⟩⟩⟩
      · have n7 := n6 hok (fun j hj => hinv j (by omega))
        exact ⟨by omega, by omega, fun _ _ => ⟨i + 1, rfl, by omega, by omega, n7, by omega⟩⟩
  · refine ⟨r, r.heads, ⟨⟨rfl, rfl⟩, rfl⟩, hr1, ?_⟩
    rw [Bool.eq_iff_iff, repoI_iff]
    exact ⟨fun h => h.2.2, fun h => ⟨by omega, fun j hj => hprev j (by omega), h⟩⟩

def oneP (i : Nat) (ps : List Int) (k : Nat) : Bool := inN i (ps.getD k 0) && !(decide (0 < k) && decide (ps.getD k 0 = ps.getD 0 0))
def okS1 (c : CommitD) : Bool := decide (c.parents.length ≤ 2) && nameB c.who && treeS c.tree
def okCS (cs : List CommitD) (i : Nat) : Bool := (List.range (cs.getD i default).parents.length).all (oneP i (cs.getD i default).parents) && okS1 (cs.getD i default)
def repoS (r : RepoD) : Bool := (List.range r.commits.length).all (okCS r.commits) && headsB r.commits.length r.heads && decide (r.commits.length ≤ 16)
theorem repoS_iff (r : RepoD) : repoS r = true ↔ (∀ i, i < r.commits.length → okCS r.commits i = true) ∧ headsB r.commits.length r.heads = true ∧ r.commits.length ≤ 16 := by simp -implicitDefEqProofs [repoS, and_assoc]
theorem repoS_no {r : RepoD} {i : Nat} (hi : i < r.commits.length) (hb : okCS r.commits i = false) : repoS r = false := by
  cases hq : repoS r with
  | false => rfl
  | true => have := ((repoS_iff r).1 hq).1 i hi; simp -implicitDefEqProofs [hb] at this
theorem repoS_noH {r : RepoD} (hb : headsB r.commits.length r.heads = false) : repoS r = false := by
  unfold repoS; rw [hb]; simp
theorem okCS_no1 {cs : List CommitD} {i : Nat} (h : okS1 (cs.getD i default) = false) : okCS cs i = false := by unfold okCS; rw [h, Bool.and_false]
theorem okCS_no2 {cs : List CommitD} {i k : Nat} (hk : k < (cs.getD i default).parents.length) (h : oneP i (cs.getD i default).parents k = false) : okCS cs i = false := by
  unfold okCS
  have : (List.range (cs.getD i default).parents.length).all (oneP i (cs.getD i default).parents) = false := by
    rw [List.all_eq_false]
    exact ⟨k, List.mem_range.2 hk, by simpa using h⟩
  rw [this, Bool.false_and]
theorem okCS_yes {cs : List CommitD} {i : Nat} (h : okS1 (cs.getD i default) = true) (h2 : ∀ k, k < (cs.getD i default).parents.length → oneP i (cs.getD i default).parents k = true) : okCS cs i = true := by
  unfold okCS
  rw [h, Bool.and_true, List.all_eq_true]
  intro k hk
  exact h2 k (by simpa using hk)

theorem repo_eq (r : RepoD) : repoI r = repoS r := by
  have h : ∀ i, okCI r.commits i = okCS r.commits i := by
    intro i
    unfold okCI okCS okI1 okS1
    generalize r.commits.getD i default = c
    rw [tree_eq]
    rw [Bool.eq_iff_iff]
    simp only [Bool.and_eq_true, List.all_eq_true, List.mem_range, decide_eq_true_eq, oneP, Bool.not_eq_true', Bool.and_eq_false_iff, decide_eq_false_iff_not]
    constructor
    · rintro ⟨⟨⟨⟨h1, h2⟩, h3⟩, h4⟩, h5⟩
      refine ⟨fun k hk => ⟨h5 k hk, ?_⟩, ⟨h1, h3⟩, h4⟩
      by_cases h0 : k = 0
      · exact .inl (by omega)
      · right
        have : k = 1 := by omega
        subst this
        rcases h2 with h2 | h2
        · omega
        · exact fun e => h2 e.symm
    · rintro ⟨h1, ⟨h2, h3⟩, h4⟩
      refine ⟨⟨⟨⟨h2, ?_⟩, h3⟩, h4⟩, fun k hk => (h1 k hk).1⟩
      by_cases h0 : c.parents.length = 2
      · right
        rcases (h1 1 (by omega)).2 with h5 | h5
        · omega
        · exact fun e => h5 e.symm
      · exact .inl h0
  rw [Bool.eq_iff_iff, repoI_iff, repoS_iff]
  simp only [h]
  exact ⟨fun ⟨a, b, c⟩ => ⟨b, c, a⟩, fun ⟨b, c, a⟩ => ⟨a, b, c⟩⟩

end Vx
end Go.Proofs.YtnanellmaelipaaGreatDoor
/-
  Contracts: texts alike, a file looked up, a head looked up, files dropped (the reference's).
-/
namespace Go.Proofs.YtnanellmaelipaaGreatDoor
namespace Vx
open Go.RowKit
set_option maxRecDepth 8000

def cL1Same : Con := .fn 26 (List Str × List Str) (fun a => [.sl true 1 (eStrs a.1), .sl true 1 (eStrs a.2)]) (fun _ => True) (fun a => .bool (decide (a.1 = a.2))) (fun _ => [])
set_option maxHeartbeats 4000000 in
theorem l1Same_has : Has Tryz.prog 236 cL1Same := by
  refine has_walk mixed tTab_ok (l := []) HasL.nil [0, 1, 4, 5] ((fun a n (_ : Nat) => (fun a _ => ⟨Nat, fun i => ⟨[(0, true, .sl true 1 (eStrs a.1)), (1, true, .sl true 1 (eStrs a.2)), (4, true, .bool false), (5, true, .int .i64 i)], []⟩, fun i => i ≤ a.1.length ∧ a.1.length = a.2.length ∧ a.1.take i = a.2.take i, fun i => a.1.length - i⟩) a n)) [] Tryz.func236 (by kernel_rfl) (code := _) (by unfold Tryz.f236; rfl) (by kernel_rfl) (by decide) (fun _ => ⟨(), trivial⟩) (by intro h; first | exact fun _ => rfl | cases h) (by kernel_rfl) ?_
  intro a _
  obtain ⟨l, r⟩ := a
  simp -implicitDefEqProofs [cL1Same, Con.fn, tTab]
  try dsimp only
  try simp +contextual -implicitDefEqProofs [eStr, eFile, cast_succ, cast_eq, cast_zero, List.getElem?_eq_getElem, eStrs_set, eFiles_set, eStrs_rep, eFiles_rep, ← eStrs_append, ← eFiles_append, eStrs_take, eStrs_drop, eFiles_take, eFiles_drop, eStrs_snoc, eFiles_snoc, and_assoc]
  repeat' (first | intro _ | apply And.intro)
  all_goals first | omega | grind [all_take, eq_take, eq_end]

def getL : List FileD → Str → List Str × Bool
  | [], _ => ([], false)
  | f :: l, p => if f.path = p then (f.text, true) else getL l p
def cL4Get : Con := .fn 25 (List FileD × Str) (fun a => [.sl true 2 (eFiles a.1), .str a.2]) (fun _ => True) (fun a => .tup [.sl true 1 (eStrs (getL a.1 a.2).1), .bool (getL a.1 a.2).2]) (fun _ => [])
set_option maxHeartbeats 4000000 in
theorem l4Get_has : Has Tryz.prog 160 cL4Get := by
  refine has_walk mixed tTab_ok (l := []) HasL.nil [0, 1, 4, 5, 6] ((fun a n (_ : Nat) => (fun a _ => ⟨Nat, fun i => ⟨[(0, true, .sl true 2 (eFiles a.1)), (1, true, .str a.2), (4, true, .nil), (5, true, .bool false), (6, true, .int .i64 i)], []⟩, fun i => i ≤ a.1.length ∧ getL (a.1.drop i) a.2 = getL a.1 a.2, fun i => a.1.length - i⟩) a n)) [] Tryz.func160 (by kernel_rfl) (code := _) (by unfold Tryz.f160; rfl) (by kernel_rfl) (by decide) (fun _ => ⟨(), trivial⟩) (by intro h; first | exact fun _ => rfl | cases h) (by kernel_rfl) ?_
  intro a _
  obtain ⟨t, p⟩ := a
  have e1 : ∀ i (h : i < t.length), getL (t.drop i) p = if t[i].path = p then (t[i].text, true) else getL (t.drop (i + 1)) p := fun i h => by rw [List.drop_eq_getElem_cons h]; rfl
  have e2 : ∀ i, t.length ≤ i → getL (t.drop i) p = ([], false) := fun i h => by rw [List.drop_eq_nil_of_le h]; rfl
  simp -implicitDefEqProofs [cL4Get, Con.fn, tTab]
  try dsimp only
  refine fun i hi hpre _ => ⟨fun hlt => ?_, fun hge => ?_⟩
  · have g := e1 i hlt
    rw [hpre] at g
    simp -implicitDefEqProofs [hlt, eFile, D.asStr, D.asRows, and_assoc]
    refine ⟨fun h => ?_, fun h => ⟨by omega, by omega, fun _ _ => ⟨i + 1, by omega, by omega, ?_, by omega⟩⟩⟩
    · rw [g, if_pos h]; exact ⟨rfl, rfl⟩
    · rw [g, if_neg h]
  · rw [← hpre, e2 i hge]; exact ⟨rfl, rfl⟩

def atL : List HeadD → Str → Int
  | [], _ => -1
  | h :: l, n => if h.name = n then h.at_ else atL l n
def cL7At : Con := .fn 27 (RepoD × Str) (fun a => [vRepo a.1, .str a.2]) (fun _ => True) (fun a => .int .i64 (atL a.1.heads a.2)) (fun _ => [])
set_option maxHeartbeats 4000000 in
theorem l7At_has : Has Tryz.prog 124 cL7At := by
  refine has_walk mixed tTab_ok (l := []) HasL.nil [0, 1, 2, 4, 5] ((fun a n (_ : Nat) => (fun a _ => ⟨Nat, fun i => ⟨[(1, true, .str a.2), (2, true, .ptr 10 0), (4, true, .int .i64 0), (5, true, .int .i64 i)], [(10, bRepo a.1)]⟩, fun i => i ≤ a.1.heads.length ∧ atL (a.1.heads.drop i) a.2 = atL a.1.heads a.2, fun i => a.1.heads.length - i⟩) a n)) [] Tryz.func124 (by kernel_rfl) (code := _) (by unfold Tryz.f124; rfl) (by kernel_rfl) (by decide) (fun _ => ⟨(), trivial⟩) (by intro h; first | exact fun _ => rfl | cases h) (by kernel_rfl) ?_
  intro a _
  obtain ⟨r, p⟩ := a
  have e1 : ∀ i (h : i < r.heads.length), atL (r.heads.drop i) p = if r.heads[i].name = p then r.heads[i].at_ else atL (r.heads.drop (i + 1)) p := fun i h => by rw [List.drop_eq_getElem_cons h]; rfl
  have e2 : ∀ i, r.heads.length ≤ i → atL (r.heads.drop i) p = -1 := fun i h => by rw [List.drop_eq_nil_of_le h]; rfl
  simp -implicitDefEqProofs [cL7At, Con.fn, tTab, bRepo_def]
  try dsimp only
  refine fun i hi hpre _ => ⟨fun hlt => ?_, fun hge => by rw [← hpre, e2 i hge]⟩
  have g := e1 i hlt
  rw [hpre] at g
  simp -implicitDefEqProofs [hlt, eHead, D.asStr, D.asInt, and_assoc]
  refine ⟨fun h => ?_, fun h => ⟨by omega, by omega, fun _ _ => ⟨i + 1, by omega, by omega, ?_, by omega⟩⟩⟩
  · rw [g, if_pos h]
  · rw [g, if_neg h]

def dropB (p : Str) (f : FileD) : Bool := decide (f.path ≠ p) && !inB p f.path
def cL4Drop : Con := .fn 39 (List FileD × Str) (fun a => [.sl true 2 (eFiles a.1), .str a.2]) (fun a => a.1.length ≤ 1048576) (fun a => .sl false 2 (eFiles (filB (dropB a.2) a.1))) (fun _ => [])
set_option maxHeartbeats 4000000 in
theorem l4Drop_has : Has Tryz.prog 277 cL4Drop := by
  refine has_walk mixed tTab_ok (l := [(166, cL4In)]) (HasL.cons l4In_has HasL.nil) [0, 1, 4, 5, 6] ((fun a n (_ : Nat) => (fun a _ => ⟨Nat, fun i => ⟨[(0, true, .sl true 2 (eFiles a.1)), (1, true, .str a.2), (4, true, .nil), (5, true, .own 9 2 (eFiles (filB (dropB a.2) (a.1.take i)))), (6, true, .int .i64 i)], [(9, .own 61 2 false (eFiles (filB (dropB a.2) (a.1.take i))))]⟩, fun i => i ≤ a.1.length, fun i => a.1.length - i⟩) a n)) [36] Tryz.func277 (by kernel_rfl) (code := _) (by unfold Tryz.f277; rfl) (by kernel_rfl) (by decide) (fun _ => ⟨(), trivial⟩) (by intro h; first | exact fun _ => rfl | cases h) (by kernel_rfl) ?_
  intro a ha
  obtain ⟨t, p⟩ := a
  replace ha : t.length ≤ 1048576 := ha
  have e1 := fun i h => @fil_hit (dropB p) t i h
  have e2 := fun i h => @fil_miss (dropB p) t i h
  simp -implicitDefEqProofs [cL4Drop, cL4In, Con.fn, tTab]
  try dsimp only
  refine ⟨⟨0, by simp -implicitDefEqProofs [filB]⟩, fun i hi _ => ⟨fun hlt => ?_, fun hge => ?_⟩⟩
  · have g1 := e1 i hlt
    have g2 := e2 i hlt
    have hl : (filB (dropB p) (t.take i)).length ≤ 1048576 := by have := List.length_filter_le (dropB p) (t.take i); unfold filB; simp at this ⊢; omega
    simp -implicitDefEqProofs [hlt, eFile, D.asStr, D.asRows, and_assoc]
    refine ⟨fun h => ⟨fun hi2 => ⟨by omega, by omega, by omega, by omega, fun _ _ => ⟨i + 1, ?_, by omega, ?_, by omega, by omega⟩⟩, fun hi2 => ⟨by omega, by omega, fun _ _ => ⟨i + 1, ?_, by omega, ?_, by omega, by omega⟩⟩⟩, fun h => ⟨by omega, by omega, fun _ _ => ⟨i + 1, ?_, by omega, ?_, by omega, by omega⟩⟩⟩
    · rw [g1 (by simp -implicitDefEqProofs [dropB, h, hi2])]; simp -implicitDefEqProofs [eFiles, eFile]
    · rw [g1 (by simp -implicitDefEqProofs [dropB, h, hi2])]; simp -implicitDefEqProofs [eFiles, eFile]
    · rw [g2 (by simp -implicitDefEqProofs [dropB, h, hi2])]
    · rw [g2 (by simp -implicitDefEqProofs [dropB, h, hi2])]
    · rw [g2 (by simp -implicitDefEqProofs [dropB, h])]
    · rw [g2 (by simp -implicitDefEqProofs [dropB, h])]
  · rw [List.take_of_length_le hge]

end Vx
end Go.Proofs.YtnanellmaelipaaGreatDoor
/-
  Contracts: the table of common lines (the reference's l1Table).
-/
namespace Go.Proofs.YtnanellmaelipaaGreatDoor
namespace Vx
open Go.RowKit
set_option maxRecDepth 8000

def lcs : List Str → List Str → Int
  | [], _ => 0
  | _ :: _, [] => 0
  | x :: a, y :: b => if x = y then lcs a b + 1 else if lcs (x :: a) b ≤ lcs a (y :: b) then lcs a (y :: b) else lcs (x :: a) b
termination_by a b => a.length + b.length
def eRow (r : List Int) : List D := [.sl 3 1 (eInts r)]
def eRows (t : List (List Int)) : List (List D) := t.map eRow
@[simp] theorem eRows_length (l : List (List Int)) : (eRows l).length = l.length := by simp -implicitDefEqProofs [eRows]
@[simp] theorem eRows_nil : eRows [] = [] := rfl
@[simp] theorem eRows_get (l : List (List Int)) (i : Nat) : (eRows l)[i]? = l[i]?.map eRow := by simp -implicitDefEqProofs [eRows]
def tabF (a b : List Str) (p q : Nat) : List (List Int) := (List.range (a.length + 1)).map fun r => (List.range (b.length + 1)).map fun c => if p ≤ r ∨ (r + 1 = p ∧ q ≤ c) then lcs (a.drop r) (b.drop c) else 0
theorem rep_succ (i n : Nat) : eRows (List.replicate (i + 1) (List.replicate (n + 1) 0)) = eRows (List.replicate i (List.replicate (n + 1) 0)) ++ [[D.sl 3 1 (List.replicate (n + 1) [D.int .i64 0])]] := by
  rw [List.replicate_succ']
  simp -implicitDefEqProofs [eRows, eRow, eInts, eInt]
theorem tab_len {a b : List Str} {p q : Nat} : (tabF a b p q).length = a.length + 1 := by simp -implicitDefEqProofs [tabF]
def tabR (a b : List Str) (p q r : Nat) : List Int := (List.range (b.length + 1)).map fun c => if p ≤ r ∨ (r + 1 = p ∧ q ≤ c) then lcs (a.drop r) (b.drop c) else 0
theorem tab_row {a b : List Str} {p q r : Nat} (h : r ≤ a.length) : (tabF a b p q)[r]? = some (tabR a b p q r) := by
  simp -implicitDefEqProofs [tabF, tabR, List.getElem?_map, List.getElem?_range (show r < a.length + 1 by omega)]
theorem lcs_nil_l (b : List Str) : lcs [] b = 0 := by rw [lcs]
theorem lcs_nil_r (a : List Str) : lcs a [] = 0 := by cases a <;> rw [lcs]
theorem tab_first {a b : List Str} {i : Nat} (h : a.length + 1 = i) : tabF a b a.length (b.length + 1) = List.replicate i (List.replicate (b.length + 1) 0) := by
  subst h
  apply List.ext_getElem
  · simp -implicitDefEqProofs [tabF]
  · intro r h1 h2
    apply List.ext_getElem
    · simp -implicitDefEqProofs [tabF]
    · intro c h3 h4
      simp only [tabF, List.getElem_map, List.getElem_range, List.getElem_replicate]
      split
      · rename_i h5
        have h6 : a.drop r = [] := by
          rcases h5 with h5 | ⟨_, h5⟩
          · exact List.drop_eq_nil_of_le h5
          · simp -implicitDefEqProofs [tabF] at h3; omega
        rw [h6, lcs_nil_l]
      · rfl
theorem tab_col {a b : List Str} {p : Nat} : tabF a b p b.length = tabF a b p (b.length + 1) := by
  unfold tabF
  apply List.map_congr_left
  intro r _
  apply List.map_congr_left
  intro c hc
  have hc : c < b.length + 1 := by simpa using hc
  by_cases h : p ≤ r
  · rw [if_pos (.inl h), if_pos (.inl h)]
  · by_cases h2 : r + 1 = p ∧ b.length ≤ c
    · rw [if_pos (.inr h2), if_neg (by omega), List.drop_eq_nil_of_le h2.2, lcs_nil_r]
    · rw [if_neg (by omega), if_neg (by omega)]
theorem tab_next {a b : List Str} {p : Nat} (h : 0 < p) : tabF a b (p - 1) (b.length + 1) = tabF a b p 0 := by
  unfold tabF
  apply List.map_congr_left
  intro r _
  apply List.map_congr_left
  intro c hc
  have hc : c < b.length + 1 := by simpa using hc
  by_cases h2 : p ≤ r + 1
  · rw [if_pos (.inl (by omega)), if_pos (by omega)]
  · rw [if_neg (by omega), if_neg (by omega)]
theorem tab_zero {a b : List Str} {q : Nat} : tabF a b 0 q = tabF a b 0 0 := by
  unfold tabF
  apply List.map_congr_left
  intro r _
  apply List.map_congr_left
  intro c _
  rw [if_pos (.inl (Nat.zero_le _)), if_pos (.inl (Nat.zero_le _))]
theorem tabR_len {a b : List Str} {p q r : Nat} : (tabR a b p q r).length = b.length + 1 := by simp -implicitDefEqProofs [tabR]
theorem tabR_get {a b : List Str} {p q r c : Nat} (h : c ≤ b.length) : (tabR a b p q r)[c]? = some (if p ≤ r ∨ (r + 1 = p ∧ q ≤ c) then lcs (a.drop r) (b.drop c) else 0) := by
  simp -implicitDefEqProofs [tabR, List.getElem?_map, List.getElem?_range (show c < b.length + 1 by omega)]
theorem lcs_bd (a b : List Str) : 0 ≤ lcs a b ∧ lcs a b ≤ a.length := by
  fun_induction lcs a b
  · simp
  · simp; omega
  · simp_all; omega
  · simp_all; omega
  · simp_all
theorem lcs_step {a b : List Str} {p q : Nat} (hp : 0 < p) (hp2 : p ≤ a.length) (hq : 0 < q) (hq2 : q ≤ b.length) : lcs (a.drop (p - 1)) (b.drop (q - 1)) = if a[p - 1] = b[q - 1] then lcs (a.drop p) (b.drop q) + 1 else if lcs (a.drop (p - 1)) (b.drop q) ≤ lcs (a.drop p) (b.drop (q - 1)) then lcs (a.drop p) (b.drop (q - 1)) else lcs (a.drop (p - 1)) (b.drop q) := by
  have e1 : a.drop (p - 1) = a[p - 1] :: a.drop p := by rw [List.drop_eq_getElem_cons (show p - 1 < a.length by omega), show p - 1 + 1 = p by omega]
  have e2 : b.drop (q - 1) = b[q - 1] :: b.drop q := by rw [List.drop_eq_getElem_cons (show q - 1 < b.length by omega), show q - 1 + 1 = q by omega]
  rw [e1, e2, lcs]
theorem tab_put {a b : List Str} {p q : Nat} (hp : 0 < p) (hp2 : p ≤ a.length) (hq : 0 < q) (hq2 : q ≤ b.length) : ∀ v, v = lcs (a.drop (p - 1)) (b.drop (q - 1)) → (eRows (tabF a b p q)).set (p - 1) [D.sl 3 1 ((eInts (tabR a b p q (p - 1))).set (q - 1) [D.int .i64 v])] = eRows (tabF a b p (q - 1)) := by
  intro v hv
  have e : (tabF a b p q).set (p - 1) ((tabR a b p q (p - 1)).set (q - 1) v) = tabF a b p (q - 1) := by
    apply List.ext_getElem
    · simp -implicitDefEqProofs [tabF]
    · intro r h1 h2
      rw [List.getElem_set]
      split
      · rename_i hr
        subst hr
        apply List.ext_getElem
        · simp -implicitDefEqProofs [tabF, tabR]
        · intro c h3 h4
          rw [List.getElem_set]
          split
          · rename_i hc
            subst hc
            simp only [tabF, List.getElem_map, List.getElem_range]
            rw [if_pos (by omega), hv]
          · rename_i hc
            simp only [tabF, tabR, List.getElem_map, List.getElem_range]
            by_cases h : p ≤ p - 1 ∨ (p - 1 + 1 = p ∧ q ≤ c)
            · rw [if_pos h, if_pos (by omega)]
            · rw [if_neg h, if_neg (by omega)]
      · rename_i hr
        simp only [tabF, List.getElem_map, List.getElem_range]
        apply List.map_congr_left
        intro c _
        by_cases h : p ≤ r ∨ (r + 1 = p ∧ q ≤ c)
        · rw [if_pos h, if_pos (by omega)]
        · rw [if_neg h, if_neg (by omega)]
  rw [← e]
  simp -implicitDefEqProofs [eRows, eRow, eInts, List.map_set, eInt]
def l1tA (a b : List Str) : Inv := ⟨Nat, fun i => ⟨[(0, true, .sl true 1 (eStrs a)), (1, true, .sl true 1 (eStrs b)), (4, true, .nil), (5, true, .own 9 1 (eRows (List.replicate i (List.replicate (b.length + 1) 0)))), (6, true, .int .i64 i)], [(9, .own 35 1 true (eRows (List.replicate i (List.replicate (b.length + 1) 0))))]⟩, fun i => i ≤ a.length + 1, fun i => a.length + 1 - i⟩
def l1tB (a b : List Str) : Inv := ⟨Nat, fun p => ⟨[(0, true, .sl true 1 (eStrs a)), (1, true, .sl true 1 (eStrs b)), (4, true, .nil), (5, true, .own 9 1 (eRows (tabF a b p (b.length + 1)))), (7, true, .int .i64 ((p : Int) - 1))], [(9, .own 35 1 true (eRows (tabF a b p (b.length + 1))))]⟩, fun p => p ≤ a.length, fun p => p⟩
def l1tC (a b : List Str) (g : Nat) : Inv := ⟨Nat, fun q => ⟨[(0, true, .sl true 1 (eStrs a)), (1, true, .sl true 1 (eStrs b)), (4, true, .nil), (5, true, .own 9 1 (eRows (tabF a b g q))), (7, true, .int .i64 ((g : Int) - 1)), (8, true, .int .i64 ((q : Int) - 1))], [(9, .own 35 1 true (eRows (tabF a b g q)))]⟩, fun q => q ≤ b.length ∧ 0 < g ∧ g ≤ a.length, fun q => q⟩
def l1tInv (a b : List Str) (n g : Nat) : Inv := if n = 3 then l1tA a b else if n = 7 then l1tB a b else l1tC a b g
theorem l1tInv_3 (a b g) : l1tInv a b 3 g = l1tA a b := rfl
theorem l1tInv_7 (a b g) : l1tInv a b 7 g = l1tB a b := rfl
theorem l1tInv_10 (a b g) : l1tInv a b 10 g = l1tC a b g := rfl
def cL1Table : Con := .fn 110 (List Str × List Str) (fun a => [.sl true 1 (eStrs a.1), .sl true 1 (eStrs a.2)]) (fun a => a.1.length ≤ 1048576 ∧ a.2.length ≤ 1048576) (fun a => .own 8 1 (eRows (tabF a.1 a.2 0 0))) (fun a => [(8, .own 35 1 true (eRows (tabF a.1 a.2 0 0)))])
set_option maxHeartbeats 4000000 in
theorem l1Table_has : Has Tryz.prog 161 cL1Table := by
  refine has_walk mixed tTab_ok (l := []) HasL.nil [0, 1, 4, 5, 6, 7, 8] (fun a => l1tInv a.1 a.2) [] Tryz.func161 (by kernel_rfl) (code := _) (by unfold Tryz.f161; rfl) (by kernel_rfl) (by decide) (fun _ => ⟨(), trivial⟩) (by intro h; first | exact fun _ => rfl | cases h) (by kernel_rfl) ?_
  intro a ha
  obtain ⟨a, b⟩ := a
  obtain ⟨h1, h2⟩ : a.length ≤ 1048576 ∧ b.length ≤ 1048576 := ha
  simp (maxSteps := 4000000) [cL1Table, Con.fn, tTab, l1tInv_3, l1tInv_7, l1tInv_10, l1tA, l1tB, l1tC]
  try dsimp only
  refine ⟨⟨0, by simp⟩, fun i hi _ => ⟨fun hlt _ => ⟨by omega, fun _ _ => ⟨by omega, fun _ _ _ => ⟨by omega, by omega, fun _ _ => ⟨i + 1, ⟨⟨?_, by omega⟩, ?_⟩, by omega, by omega⟩⟩⟩⟩, fun hge _ => ⟨by omega, fun _ _ => ⟨⟨a.length, ⟨⟨?_, rfl⟩, ?_⟩, Nat.le_refl _⟩, fun p hp => ⟨fun h1p _ => ⟨by omega, fun _ _ => ⟨p, ⟨b.length, ⟨⟨?_, rfl, rfl⟩, ?_⟩, Nat.le_refl _, by omega, hp⟩, fun q hq hg hga => ⟨fun hq1 => ?_, fun hq0 => ⟨by omega, fun _ _ => ⟨p - 1, ⟨⟨?_, by omega⟩, ?_⟩, by omega, by omega⟩⟩⟩⟩⟩, fun hp0 => ?_⟩⟩⟩⟩⟩
  · rw [rep_succ]
  · rw [rep_succ]
  · rw [tab_first (show a.length + 1 = i by omega)]
  · rw [tab_first (show a.length + 1 = i by omega)]
  · rw [tab_col]
  · rw [tab_col]
  · obtain ⟨T, hT⟩ : ∃ T, T = tabF a b p q := ⟨_, rfl⟩
    have t1 := @tab_len a b p q
    have t2 := tab_row (a := a) (b := b) (p := p) (q := q) (r := p) (by omega)
    have t3 := tab_row (a := a) (b := b) (p := p) (q := q) (r := p - 1) (by omega)
    have t4 : a[p - 1]? = some a[p - 1] := List.getElem?_eq_getElem (by omega)
    have t5 : b[q - 1]? = some b[q - 1] := List.getElem?_eq_getElem (by omega)
    have u1 := @tabR_len a b p q p
    have u2 := @tabR_len a b p q (p - 1)
    have u3 : (tabR a b p q p)[q]? = some (lcs (a.drop p) (b.drop q)) := by rw [tabR_get (by omega), if_pos (by omega)]
    have u4 : (tabR a b p q p)[q - 1]? = some (lcs (a.drop p) (b.drop (q - 1))) := by rw [tabR_get (by omega), if_pos (by omega)]
    have u5 : (tabR a b p q (p - 1))[q]? = some (lcs (a.drop (p - 1)) (b.drop q)) := by rw [tabR_get (by omega), if_pos (by omega)]
    have v1 := lcs_bd (a.drop p) (b.drop q)
    have v2 := lcs_bd (a.drop p) (b.drop (q - 1))
    have v3 := lcs_bd (a.drop (p - 1)) (b.drop q)
    have v4 : (a.drop p).length ≤ a.length := by simp
    have v5 : (a.drop (p - 1)).length ≤ a.length := by simp
    have w1 := tab_put (a := a) (b := b) (p := p) (q := q) hg hga (by omega) hq
    have w2 := lcs_step (a := a) (b := b) (p := p) (q := q) hg hga (by omega) hq
    rw [← hT] at t1 t2 t3 w1 ⊢
    clear hT
    generalize lcs (a.drop p) (b.drop q) = L11 at *
    generalize lcs (a.drop p) (b.drop (q - 1)) = L10 at *
    generalize lcs (a.drop (p - 1)) (b.drop q) = L01 at *
    generalize tabR a b p q p = rB at *
    generalize tabR a b p q (p - 1) = rA at *
    simp -implicitDefEqProofs [t1, t2, t3, t4, t5, u1, u2, u3, u4, u5, eInt, eStr, D.asStr, eRow, D.asRows, D.asInt, and_assoc]
    have fin : ∀ v, v = lcs (a.drop (p - 1)) (b.drop (q - 1)) → ∃ t', eRows (tabF a b p t') = (eRows T).set (p - 1) [D.sl 3 1 ((eInts rA).set (q - 1) [D.int .i64 v])] ∧ (t' : Int) = q - 1 ∧ (eRows T).set (p - 1) [D.sl 3 1 ((eInts rA).set (q - 1) [D.int .i64 v])] = eRows (tabF a b p t') ∧ t' ≤ b.length ∧ 0 < p ∧ p ≤ a.length ∧ t' < q :=
      fun v hv => ⟨q - 1, (w1 v hv).symm, by omega, w1 v hv, by omega, hg, hga, by omega⟩
    repeat' (first | intro _ | apply And.intro)
    all_goals first | omega | exact fin _ (by rw [w2, if_pos (by assumption)]) | exact fin _ (by rw [w2, if_neg (by assumption), if_pos (by assumption)]) | exact fin _ (by rw [w2, if_neg (by assumption), if_neg (by omega)])
  · rw [show q = 0 by omega, tab_next (by omega)]
  · rw [show q = 0 by omega, tab_next (by omega)]
  · rw [show p = 0 by omega, tab_zero]; exact ⟨rfl, rfl⟩

end Vx
end Go.Proofs.YtnanellmaelipaaGreatDoor
/-
  Contracts: lines matched (the reference's l1Match).
-/
namespace Go.Proofs.YtnanellmaelipaaGreatDoor
namespace Vx
open Go.RowKit
set_option maxRecDepth 8000

def mt : List Str → List Str → Nat → List Int
  | [], _, _ => []
  | _ :: a, [], k => -1 :: mt a [] k
  | x :: a, y :: b, k => if x = y then (k : Int) :: mt a b (k + 1) else if lcs (x :: a) b ≤ lcs a (y :: b) then -1 :: mt a (y :: b) k else mt (x :: a) b (k + 1)
termination_by a b => a.length + b.length
theorem mt_len (a b : List Str) (k : Nat) : (mt a b k).length = a.length := by
  fun_induction mt a b k <;> simp_all
theorem mt_end {a b : List Str} {i k : Nat} (h : i < a.length) (hk : b.length ≤ k) : mt (a.drop i) (b.drop k) k = -1 :: mt (a.drop (i + 1)) (b.drop k) k := by
  rw [List.drop_eq_getElem_cons h, List.drop_eq_nil_of_le hk, mt]
theorem mt_step {a b : List Str} {i k : Nat} (h : i < a.length) (hk : k < b.length) : mt (a.drop i) (b.drop k) k = if a[i] = b[k] then (k : Int) :: mt (a.drop (i + 1)) (b.drop (k + 1)) (k + 1) else if lcs (a.drop i) (b.drop (k + 1)) ≤ lcs (a.drop (i + 1)) (b.drop k) then -1 :: mt (a.drop (i + 1)) (b.drop k) k else mt (a.drop i) (b.drop (k + 1)) (k + 1) := by
  have e1 : a.drop i = a[i] :: a.drop (i + 1) := List.drop_eq_getElem_cons h
  have e2 : b.drop k = b[k] :: b.drop (k + 1) := List.drop_eq_getElem_cons hk
  rw [e1, e2, mt]
theorem snocI (o : List Int) (v : Int) : eInts (o ++ [v]) = eInts o ++ [[D.int .i64 v]] := by simp -implicitDefEqProofs [eInts, eInt]
def l1m (a b : List Str) : Inv := ⟨Nat × Nat × List Int, fun t => ⟨[(0, true, .sl true 1 (eStrs a)), (1, true, .sl true 1 (eStrs b)), (4, true, .nil), (5, true, .own 9 1 (eRows (tabF a b 0 0))), (6, true, .own 10 1 (eInts t.2.2)), (7, true, .int .i64 t.2.1), (8, true, .int .i64 t.1)], [(9, .own 35 1 true (eRows (tabF a b 0 0))), (10, .own 3 1 true (eInts t.2.2))]⟩,
  fun t => t.1 ≤ a.length ∧ t.2.1 ≤ b.length ∧ t.2.2.length = t.1 ∧ t.2.2 ++ mt (a.drop t.1) (b.drop t.2.1) t.2.1 = mt a b 0, fun t => (a.length - t.1) + (b.length - t.2.1)⟩
def cL1Match : Con := .fn 73 (List Str × List Str) (fun a => [.sl true 1 (eStrs a.1), .sl true 1 (eStrs a.2)]) (fun a => a.1.length ≤ 1048576 ∧ a.2.length ≤ 1048576) (fun a => .own 8 1 (eInts (mt a.1 a.2 0))) (fun a => ownInts 8 (mt a.1 a.2 0))
set_option maxHeartbeats 4000000 in
theorem l1Match_has : Has Tryz.prog 269 cL1Match := by
  refine has_walk mixed tTab_ok (l := [(161, cL1Table)]) (HasL.cons l1Table_has HasL.nil) [0, 1, 4, 5, 6, 7, 8] ((fun a n (_ : Nat) => (fun a _ => l1m a.1 a.2) a n)) [] Tryz.func269 (by kernel_rfl) (code := _) (by unfold Tryz.f269; rfl) (by kernel_rfl) (by decide) (fun _ => ⟨(), trivial⟩) (by intro h; first | exact fun _ => rfl | cases h) (by kernel_rfl) ?_
  intro a ha
  obtain ⟨a, b⟩ := a
  obtain ⟨h1, h2⟩ : a.length ≤ 1048576 ∧ b.length ≤ 1048576 := ha
  simp (maxSteps := 4000000) [cL1Match, cL1Table, Con.fn, tTab, l1m]
  try dsimp only
  refine ⟨a, b, ⟨rfl, rfl⟩, ⟨h1, h2⟩, ⟨0, 0, [], ⟨⟨rfl, rfl, rfl, rfl⟩, rfl, rfl⟩, Nat.zero_le _, Nat.zero_le _, rfl, by simp⟩, fun i k out hi hk hl hm _ => ⟨fun hlt => ?_, fun hge => ?_⟩⟩
  · have t1 := @tab_len a b 0 0
    have t2 := tab_row (a := a) (b := b) (p := 0) (q := 0) (r := i) (by omega)
    have t3 := tab_row (a := a) (b := b) (p := 0) (q := 0) (r := i + 1) (by omega)
    have u1 := @tabR_len a b 0 0 i
    have u2 := @tabR_len a b 0 0 (i + 1)
    have t4 : a[i]? = some a[i] := List.getElem?_eq_getElem hlt
    have m0 := mt_end (a := a) (b := b) (i := i) (k := k) hlt
    rcases Nat.lt_or_ge k b.length with hkb | hkb
    · have t5 : b[k]? = some b[k] := List.getElem?_eq_getElem hkb
      have u3 : (tabR a b 0 0 (i + 1))[k]? = some (lcs (a.drop (i + 1)) (b.drop k)) := by rw [tabR_get (by omega), if_pos (by omega)]
      have u4 : (tabR a b 0 0 i)[k + 1]? = some (lcs (a.drop i) (b.drop (k + 1))) := by rw [tabR_get (by omega), if_pos (by omega)]
      have m1 := mt_step (a := a) (b := b) (i := i) (k := k) hlt hkb
      generalize tabF a b 0 0 = T at *
      generalize tabR a b 0 0 i = rA at *
      generalize tabR a b 0 0 (i + 1) = rB at *
      generalize lcs (a.drop (i + 1)) (b.drop k) = L1 at *
      generalize lcs (a.drop i) (b.drop (k + 1)) = L2 at *
      have g1 : ¬ b.length ≤ k := by omega
      obtain ⟨_, u6⟩ := List.getElem?_eq_some_iff.1 u4
      simp -implicitDefEqProofs [hkb, g1, t1, t2, t3, t4, t5, u1, u2, u3, u4, u6, eInt, eStr, D.asStr, eRow, D.asRows, D.asInt, and_assoc]
      refine ⟨hlt, fun _ => ⟨fun e => ⟨by omega, by omega, by omega, by omega, fun _ _ => ⟨by omega, by omega, fun _ _ => ⟨i + 1, k + 1, out ++ [(k : Int)], snocI _ _, by omega, by omega, (snocI _ _).symm, by omega, by omega, by simp -implicitDefEqProofs [hl], ?_, by omega⟩⟩⟩, fun e => ⟨by omega, by omega, fun _ _ => ⟨by omega, by omega, fun _ _ => ⟨by omega, fun _ => ⟨by omega, fun _ => ⟨by omega, by omega, fun _ _ => ⟨by omega, fun _ => ⟨fun c => ⟨by omega, by omega, by omega, by omega, fun _ _ => ⟨i + 1, k, out ++ [-1], snocI _ _, by omega, by omega, (snocI _ _).symm, by omega, by omega, by simp -implicitDefEqProofs [hl], ?_, by omega⟩⟩, fun c => ⟨by omega, by omega, fun _ _ => ⟨i, k + 1, by omega, by omega, by omega, by omega, hl, ?_, by omega⟩⟩⟩⟩⟩⟩⟩⟩⟩⟩⟩
      · rw [← hm, m1, if_pos e]; simp
      · rw [← hm, m1, if_neg e, if_pos c]; simp
      · rw [← hm, m1, if_neg e, if_neg (by omega)]
    · have g1 : ¬ k < b.length := by omega
      simp -implicitDefEqProofs [hkb, g1, t4, eStr, D.asStr, and_assoc]
      refine ⟨by omega, by omega, by omega, by omega, fun _ _ => ⟨i + 1, k, out ++ [-1], snocI _ _, by omega, by omega, (snocI _ _).symm, by omega, by omega, by simp -implicitDefEqProofs [hl], ?_, by omega⟩⟩
      rw [← hm, m0 (by omega)]; simp
  · rw [List.drop_eq_nil_of_le hge, mt, List.append_nil] at hm
    exact ⟨hm.symm, hm⟩

end Vx
end Go.Proofs.YtnanellmaelipaaGreatDoor
/-
  Parts of merged texts: data, models of what the reference does with them, plain lemmas.
-/
namespace Go.Proofs.YtnanellmaelipaaGreatDoor
namespace Vx
open Go.RowKit
set_option maxRecDepth 8000

structure PartD where
  clash : Bool
  lines : List Str
  old : List Str
  one : List Str
  two : List Str
  deriving DecidableEq, Inhabited

def ePart (a : PartD) : List D := [.bool a.clash, .sl 9 1 (eStrs a.lines), .sl 9 1 (eStrs a.old), .sl 9 1 (eStrs a.one), .sl 9 1 (eStrs a.two)]
@[simp] theorem ePart_inj (a b : PartD) : (ePart a = ePart b) = (a = b) := by
  cases a; cases b; simp -implicitDefEqProofs [ePart]
@[simp] theorem PartD.eta (a : PartD) : (⟨a.clash, a.lines, a.old, a.one, a.two⟩ : PartD) = a := rfl
theorem PartD.eq_iff (a b : PartD) : (a = b) = (a.clash = b.clash ∧ a.lines = b.lines ∧ a.old = b.old ∧ a.one = b.one ∧ a.two = b.two) := by
  cases a; cases b; simp
@[simp] theorem PartD.ex1 (x_clash : Bool) (x_lines : List Str) (x_old : List Str) (x_one : List Str) (x_two : List Str) (Q : PartD → Prop) : (∃ a : PartD, a.clash = x_clash ∧ a.lines = x_lines ∧ a.old = x_old ∧ a.one = x_one ∧ a.two = x_two ∧ Q a) = Q ⟨x_clash, x_lines, x_old, x_one, x_two⟩ := by
  apply propext
  constructor
  · rintro ⟨⟨_, _, _, _, _⟩, rfl, rfl, rfl, rfl, rfl, h⟩; exact h
  · intro h; exact ⟨⟨x_clash, x_lines, x_old, x_one, x_two⟩, rfl, rfl, rfl, rfl, rfl, h⟩
@[simp] theorem PartD.ex2 (x_clash : Bool) (x_lines : List Str) (x_old : List Str) (x_one : List Str) (x_two : List Str) (Q : PartD → Prop) : (∃ a : PartD, (a.clash = x_clash ∧ a.lines = x_lines ∧ a.old = x_old ∧ a.one = x_one ∧ a.two = x_two) ∧ Q a) = Q ⟨x_clash, x_lines, x_old, x_one, x_two⟩ := by
  apply propext
  constructor
  · rintro ⟨⟨_, _, _, _, _⟩, ⟨rfl, rfl, rfl, rfl, rfl⟩, h⟩; exact h
  · intro h; exact ⟨⟨x_clash, x_lines, x_old, x_one, x_two⟩, ⟨rfl, rfl, rfl, rfl, rfl⟩, h⟩
@[simp] theorem PartD.ex0 (x_clash : Bool) (x_lines : List Str) (x_old : List Str) (x_one : List Str) (x_two : List Str) : (∃ a : PartD, a.clash = x_clash ∧ a.lines = x_lines ∧ a.old = x_old ∧ a.one = x_one ∧ a.two = x_two) = True := by
  simp only [eq_iff_iff, iff_true]
  exact ⟨⟨x_clash, x_lines, x_old, x_one, x_two⟩, rfl, rfl, rfl, rfl, rfl⟩
def eParts (l : List PartD) : List (List D) := l.map ePart
@[simp] theorem eParts_length (l : List PartD) : (eParts l).length = l.length := by simp -implicitDefEqProofs [eParts]
@[simp] theorem eParts_nil : eParts [] = [] := rfl
@[simp] theorem eParts_get (l : List PartD) (i : Nat) : (eParts l)[i]? = l[i]?.map ePart := by simp -implicitDefEqProofs [eParts]
@[simp] theorem eParts_getElem (l : List PartD) (i : Nat) (h : i < (eParts l).length) : (eParts l)[i] = ePart (l[i]'(by simpa using h)) := by simp -implicitDefEqProofs [eParts]
@[simp] theorem eParts_inj (a b : List PartD) : (eParts a = eParts b) = (a = b) := by
  apply propext
  constructor
  · intro h
    exact List.map_inj_right (fun x y h => by simpa using h) |>.1 h
  · rintro rfl; rfl
@[simp] theorem eParts_eq_nil (a : List PartD) : (eParts a = []) = (a = []) := by simp -implicitDefEqProofs [eParts]
@[simp] theorem nil_eq_eParts (a : List PartD) : ([] = eParts a) = (a = []) := by simp -implicitDefEqProofs [eParts, eq_comm]
theorem eParts_append (a b : List PartD) : eParts (a ++ b) = eParts a ++ eParts b := by simp -implicitDefEqProofs [eParts]
theorem eParts_take (l : List PartD) (i : Nat) : (eParts l).take i = eParts (l.take i) := by simp -implicitDefEqProofs [eParts]
theorem eParts_drop (l : List PartD) (i : Nat) : (eParts l).drop i = eParts (l.drop i) := by simp -implicitDefEqProofs [eParts]
theorem eParts_snoc (a : List PartD) (q1 : Bool) (q2 q3 q4 q5 : List Str) : eParts a ++ [[.bool q1, .sl 9 1 (eStrs q2), .sl 9 1 (eStrs q3), .sl 9 1 (eStrs q4), .sl 9 1 (eStrs q5)]] = eParts (a ++ [⟨q1, q2, q3, q4, q5⟩]) := by simp -implicitDefEqProofs [eParts, ePart]
theorem eParts_set (l : List PartD) (i : Nat) (q1 : Bool) (q2 q3 q4 q5 : List Str) : (eParts l).set i [.bool q1, .sl 9 1 (eStrs q2), .sl 9 1 (eStrs q3), .sl 9 1 (eStrs q4), .sl 9 1 (eStrs q5)] = eParts (l.set i ⟨q1, q2, q3, q4, q5⟩) := by simp -implicitDefEqProofs [eParts, List.map_set, ePart]
abbrev ownParts (h : Nat) (a : List PartD) : List (Nat × Blk) := [(h, .own 270 5 true (eParts a))]

/-- What two sides made of a piece. -/
def part3 (o a b : List Str) : PartD := if a = o ∨ a = b then ⟨false, b, [], [], []⟩ else if b = o then ⟨false, a, [], [], []⟩ else ⟨true, [], o, a, b⟩
theorem part3_lines (o a b : List Str) : (part3 o a b).lines.length ≤ a.length + b.length := by
  unfold part3
  split
  · simp
  · split <;> simp
/-- A part put behind others. -/
def put3 (l : List PartD) (p : PartD) : List PartD :=
  if p.clash = false ∧ p.lines = [] then l
  else match l.getLast? with
    | some q => if p.clash = false ∧ q.clash = false then l.set (l.length - 1) ⟨q.clash, q.lines ++ p.lines, q.old, q.one, q.two⟩ else l ++ [p]
    | none => l ++ [p]
theorem put3_len (l : List PartD) (p : PartD) : (put3 l p).length ≤ l.length + 1 := by
  unfold put3
  split
  · omega
  · split
    · split <;> simp
    · simp
theorem put3_bd {l : List PartD} {p : PartD} {n : Nat} (h : ∀ q ∈ l, q.lines.length ≤ n) : ∀ q ∈ put3 l p, q.lines.length ≤ n + p.lines.length := by
  intro q hq
  unfold put3 at hq
  split at hq
  · have := h q hq; omega
  · split at hq
    · rename_i r hr
      split at hq
      · rcases List.mem_or_eq_of_mem_set hq with hq | hq
        · have := h q hq; omega
        · subst hq
          have := h r (List.mem_of_getLast? hr)
          simp; omega
      · rcases List.mem_append.1 hq with hq | hq
        · have := h q hq; omega
        · simp at hq; subst hq; omega
    · rcases List.mem_append.1 hq with hq | hq
      · have := h q hq; omega
      · simp at hq; subst hq; omega

/-- Numbers that are none, or rise. -/
def asc : Int → Int → List Int → Prop
  | _, _, [] => True
  | k, n, x :: l => (x < 0 ∧ asc k n l) ∨ (k ≤ x ∧ x < n ∧ asc (x + 1) n l)
theorem asc_mono : ∀ {l : List Int} {k k' n : Int}, k ≤ k' → asc k' n l → asc k n l
  | [], _, _, _, _, _ => trivial
  | x :: l, k, k', n, h, h2 => by
    rcases h2 with ⟨h3, h4⟩ | ⟨h3, h4, h5⟩
    · exact .inl ⟨h3, asc_mono h h4⟩
    · exact .inr ⟨by omega, h4, h5⟩
theorem asc_snoc : ∀ {l : List Int} {k n : Int}, k ≤ n → asc k n l → asc k (n + 1) (l ++ [n])
  | [], k, n, h, _ => .inr ⟨h, by omega, trivial⟩
  | x :: l, k, n, h, h2 => by
    rcases h2 with ⟨h3, h4⟩ | ⟨h3, h4, h5⟩
    · exact .inl ⟨h3, asc_snoc h h4⟩
    · exact .inr ⟨h3, by omega, asc_snoc (by omega) h5⟩
theorem mt_asc (a b : List Str) (k : Nat) : asc k (k + b.length) (mt a b k) := by
  fun_induction mt a b k with
  | case1 => trivial
  | case2 x a k ih => exact .inl ⟨by omega, ih⟩
  | case3 a y b k ih =>
    refine .inr ⟨by omega, by simp only [List.length_cons]; omega, ?_⟩
    have e : ((k + 1 : Nat) : Int) + b.length = k + (y :: b).length := by simp only [List.length_cons]; omega
    rw [e] at ih
    exact ih
  | case4 x a y b k h h2 ih => exact .inl ⟨by omega, ih⟩
  | case5 x a y b k h1 h2 ih =>
    have e : ((k + 1 : Nat) : Int) + b.length = k + (y :: b).length := by simp only [List.length_cons]; omega
    rw [e] at ih
    exact asc_mono (by omega) ih
/-- Where the lines of a text are in another one; behind them its end. -/
def mtE (a b : List Str) : List Int := mt a b 0 ++ [(b.length : Int)]
theorem mtE_len (a b : List Str) : (mtE a b).length = a.length + 1 := by simp -implicitDefEqProofs [mtE, mt_len]
theorem mtE_asc (a b : List Str) : asc 0 (b.length + 1) (mtE a b) := by
  have h := mt_asc a b 0
  have := asc_snoc (k := 0) (n := b.length) (by omega) (by simpa using h)
  exact this
theorem asc_at {l : List Int} {i : Nat} {k n : Int} (h : i < l.length) (ha : asc k n (l.drop i)) : (l[i] < 0 ∧ asc k n (l.drop (i + 1))) ∨ (k ≤ l[i] ∧ l[i] < n ∧ asc (l[i] + 1) n (l.drop (i + 1))) := by
  rw [List.drop_eq_getElem_cons h] at ha
  exact ha

structure S3 where
  io : Nat
  ia : Nat
  ib : Nat
  out : List PartD
def step3 (o a b : List Str) (x y : Int) (i : Nat) (s : S3) : S3 :=
  if x < 0 ∨ y < 0 then s
  else ⟨i + 1, x.toNat + 1, y.toNat + 1,
    if i < o.length then put3 (put3 s.out (part3 ((o.take i).drop s.io) ((a.take x.toNat).drop s.ia) ((b.take y.toNat).drop s.ib))) ⟨false, [o.getD i []], [], [], []⟩
    else put3 s.out (part3 ((o.take i).drop s.io) ((a.take x.toNat).drop s.ia) ((b.take y.toNat).drop s.ib))⟩
def run3 (o a b : List Str) : Nat → S3
  | 0 => ⟨0, 0, 0, []⟩
  | i + 1 => step3 o a b ((mtE o a).getD i 0) ((mtE o b).getD i 0) i (run3 o a b i)
def of3 (o a b : List Str) : List PartD := (run3 o a b (o.length + 1)).out
/-- What holds of the walk ahead of place i. -/
def Ok3 (o a b : List Str) (i : Nat) (s : S3) : Prop :=
  s.io ≤ i ∧ s.ia ≤ a.length + 1 ∧ s.ib ≤ b.length + 1 ∧ asc s.ia (a.length + 1) ((mtE o a).drop i) ∧ asc s.ib (b.length + 1) ((mtE o b).drop i) ∧ s.out.length ≤ 2 * i ∧ ∀ q ∈ s.out, q.lines.length ≤ s.io + s.ia + s.ib
theorem ok3_0 (o a b : List Str) : Ok3 o a b 0 ⟨0, 0, 0, []⟩ := ⟨by simp, by simp, by simp, by simpa using mtE_asc o a, by simpa using mtE_asc o b, by simp, by simp⟩
theorem ok3_step {o a b : List Str} {i : Nat} {s : S3} (hi : i < o.length + 1) (h : Ok3 o a b i s) : Ok3 o a b (i + 1) (step3 o a b ((mtE o a).getD i 0) ((mtE o b).getD i 0) i s) := by
  obtain ⟨h1, h2, h3, h4, h5, h6, h7⟩ := h
  have la := mtE_len o a
  have lb := mtE_len o b
  have ga : (mtE o a).getD i 0 = (mtE o a)[i]'(by omega) := by simp -implicitDefEqProofs [List.getD_eq_getElem?_getD, List.getElem?_eq_getElem (show i < (mtE o a).length by omega)]
  have gb : (mtE o b).getD i 0 = (mtE o b)[i]'(by omega) := by simp -implicitDefEqProofs [List.getD_eq_getElem?_getD, List.getElem?_eq_getElem (show i < (mtE o b).length by omega)]
  rw [ga, gb]
  have h4 := asc_at (l := mtE o a) (by omega) h4
  have h5 := asc_at (l := mtE o b) (by omega) h5
  generalize (mtE o a)[i]'(by omega) = x at *
  generalize (mtE o b)[i]'(by omega) = y at *
  unfold step3
  split
  · rename_i hxy
    refine ⟨by omega, h2, h3, ?_, ?_, by omega, h7⟩
    · rcases h4 with h4 | h4
      · exact h4.2
      · exact asc_mono (by omega) h4.2.2
    · rcases h5 with h5 | h5
      · exact h5.2
      · exact asc_mono (by omega) h5.2.2
  · rename_i hxy
    rcases h4 with h4 | ⟨h4, h41, h42⟩
    · omega
    rcases h5 with h5 | ⟨h5, h51, h52⟩
    · omega
    have ex : ((x.toNat + 1 : Nat) : Int) = x + 1 := by omega
    have ey : ((y.toNat + 1 : Nat) : Int) = y + 1 := by omega
    have b1 := part3_lines ((o.take i).drop s.io) ((a.take x.toNat).drop s.ia) ((b.take y.toNat).drop s.ib)
    have b2 := put3_bd (p := part3 ((o.take i).drop s.io) ((a.take x.toNat).drop s.ia) ((b.take y.toNat).drop s.ib)) h7
    have b3 := put3_len s.out (part3 ((o.take i).drop s.io) ((a.take x.toNat).drop s.ia) ((b.take y.toNat).drop s.ib))
    generalize part3 ((o.take i).drop s.io) ((a.take x.toNat).drop s.ia) ((b.take y.toNat).drop s.ib) = p at *
    have b1 : p.lines.length ≤ (x.toNat - s.ia) + (y.toNat - s.ib) := by
      refine Nat.le_trans b1 ?_
      simp only [List.length_drop, List.length_take]
      omega
    refine ⟨by simp, by simp; omega, by simp; omega, by simpa only [ex] using h42, by simpa only [ey] using h52, ?_, ?_⟩
    · show (if i < o.length then _ else _ : List PartD).length ≤ _
      split
      · have := put3_len (put3 s.out p) ⟨false, [o.getD i []], [], [], []⟩
        omega
      · omega
    · show ∀ q ∈ (if i < o.length then _ else _ : List PartD), _
      split
      · intro q hq
        have := put3_bd (p := ⟨false, [o.getD i []], [], [], []⟩) b2 q hq
        simp at this
        show q.lines.length ≤ (i + 1) + (x.toNat + 1) + (y.toNat + 1)
        omega
      · intro q hq
        have := b2 q hq
        show q.lines.length ≤ (i + 1) + (x.toNat + 1) + (y.toNat + 1)
        omega
theorem ok3_run (o a b : List Str) : ∀ i, i ≤ o.length + 1 → Ok3 o a b i (run3 o a b i)
  | 0, _ => ok3_0 o a b
  | i + 1, h => ok3_step (by omega) (ok3_run o a b i (by omega))

/-- All lines of parts. -/
def text3 (l : List PartD) : List Str × Bool := if l.any (·.clash) then ([], false) else if textB (l.flatMap (·.lines)) then (l.flatMap (·.lines), true) else ([], false)

end Vx
end Go.Proofs.YtnanellmaelipaaGreatDoor
/-
  Contracts: parts of merged texts (the reference's l3Part, l3Put, l3Of, l3Text).
-/
namespace Go.Proofs.YtnanellmaelipaaGreatDoor
namespace Vx
open Go.RowKit
set_option maxRecDepth 8000

def cL3Part : Con := .fn 36 (List Str × List Str × List Str) (fun a => [.sl true 1 (eStrs a.1), .sl true 1 (eStrs a.2.1), .sl true 1 (eStrs a.2.2)]) (fun a => a.1.length ≤ 1048576 ∧ a.2.1.length ≤ 1048576 ∧ a.2.2.length ≤ 1048576) (fun a => .agg [.bool (part3 a.1 a.2.1 a.2.2).clash, .own 8 1 (eStrs (part3 a.1 a.2.1 a.2.2).lines), .own 9 1 (eStrs (part3 a.1 a.2.1 a.2.2).old), .own 10 1 (eStrs (part3 a.1 a.2.1 a.2.2).one), .own 11 1 (eStrs (part3 a.1 a.2.1 a.2.2).two)]) (fun a => ownStrs 8 (part3 a.1 a.2.1 a.2.2).lines ++ ownStrs 9 (part3 a.1 a.2.1 a.2.2).old ++ ownStrs 10 (part3 a.1 a.2.1 a.2.2).one ++ ownStrs 11 (part3 a.1 a.2.1 a.2.2).two)
set_option maxHeartbeats 4000000 in
theorem l3Part_has : Has Tryz.prog 287 cL3Part := by
  refine has_walk mixed tTab_ok (l := [(236, cL1Same)]) (HasL.cons l1Same_has HasL.nil) [0, 1, 2, 6, 7] ((fun a n (_ : Nat) => (fun _ => noInv) a n)) [] Tryz.func287 (by kernel_rfl) (code := _) (by unfold Tryz.f287; rfl) (by kernel_rfl) (by decide) (fun _ => ⟨(), trivial⟩) (by intro h; first | exact fun _ => rfl | cases h) (by kernel_rfl) ?_
  intro a ha
  obtain ⟨o, a, b⟩ := a
  obtain ⟨h1, h2, h3⟩ : o.length ≤ 1048576 ∧ a.length ≤ 1048576 ∧ b.length ≤ 1048576 := ha
  simp -implicitDefEqProofs [cL3Part, cL1Same, Con.fn, tTab]
  try dsimp only
  have f : ∀ (t : List Str), ∀ x ∈ eStrs t, ∀ d ∈ x, match d with | .sl _ _ _ => False | _ => True := fun t => (eStrs_flat t).mpr trivial
  have e1 : a = o → part3 o a b = ⟨false, b, [], [], []⟩ := fun h => by unfold part3; rw [if_pos (.inl h)]
  have e2 : a = b → part3 o a b = ⟨false, b, [], [], []⟩ := fun h => by unfold part3; rw [if_pos (.inr h)]
  have e3 : ¬ a = o → ¬ a = b → b = o → part3 o a b = ⟨false, a, [], [], []⟩ := fun h h' h2 => by unfold part3; rw [if_neg (by simp -implicitDefEqProofs [h, h']), if_pos h2]
  have e4 : ¬ a = o → ¬ a = b → ¬ b = o → part3 o a b = ⟨true, [], o, a, b⟩ := fun h h' h2 => by unfold part3; rw [if_neg (by simp -implicitDefEqProofs [h, h']), if_neg h2]
  refine ⟨a, o, ⟨rfl, rfl⟩, fun h => ⟨fun _ => ?_, fun h' => absurd h h'⟩, fun h => ⟨a, b, ⟨rfl, rfl⟩, fun h2 => ?_, fun h2 => ⟨b, o, ⟨rfl, rfl⟩, fun h3 => ?_, fun h3 => ?_⟩⟩⟩
  · rw [e1 h]; exact ⟨f b, ⟨by omega, by omega⟩, ⟨rfl, rfl, rfl, rfl, rfl⟩, rfl, rfl, rfl, rfl⟩
  · rw [e2 h2]; exact ⟨f b, ⟨by omega, by omega⟩, ⟨rfl, rfl, rfl, rfl, rfl⟩, rfl, rfl, rfl, rfl⟩
  · rw [e3 h h2 h3]; exact ⟨f a, ⟨by omega, by omega⟩, ⟨rfl, rfl, rfl, rfl, rfl⟩, rfl, rfl, rfl, rfl⟩
  · rw [e4 h h2 h3]; exact ⟨f o, ⟨by omega, by omega⟩, f a, ⟨by omega, by omega⟩, f b, ⟨by omega, by omega⟩, ⟨rfl, rfl, rfl, rfl, rfl⟩, rfl, rfl, rfl, rfl⟩

theorem put3_e0 {l : List PartD} {p : PartD} (h : p.clash = false) (h' : p.lines = []) : put3 l p = l := by unfold put3; rw [if_pos ⟨h, h'⟩]
theorem put3_e1 {m : List PartD} {q p : PartD} (h : q.clash = false) (h' : p.clash = false) (hx : ¬ p.lines = []) : put3 (m ++ [q]) p = m ++ [⟨q.clash, q.lines ++ p.lines, q.old, q.one, q.two⟩] := by unfold put3; rw [if_neg (by simp -implicitDefEqProofs [hx])]; simp -implicitDefEqProofs [h, h']
theorem put3_e2 {m : List PartD} {q p : PartD} (h : q.clash = true) (hx : ¬ (p.clash = false ∧ p.lines = [])) : put3 (m ++ [q]) p = m ++ [q] ++ [p] := by unfold put3; rw [if_neg hx]; simp -implicitDefEqProofs [h]
theorem put3_e3 {l : List PartD} {p : PartD} (h : p.clash = true) : put3 l p = l ++ [p] := by
  unfold put3; rw [if_neg (by simp -implicitDefEqProofs [h])]
  split
  · simp -implicitDefEqProofs [h]
  · rfl
theorem put3_e4 {p : PartD} (h : ¬ (p.clash = false ∧ p.lines = [])) : put3 [] p = [p] := by unfold put3; rw [if_neg h]; simp

/-- Calls are of two kinds: with a part all of which is handed over, and with one of lines alone. -/
def l3A : (List PartD × PartD) ⊕ (List PartD × List Str) → List PartD
  | .inl a => a.1
  | .inr a => a.1
def l3P : (List PartD × PartD) ⊕ (List PartD × List Str) → PartD
  | .inl a => a.2
  | .inr a => ⟨false, a.2, [], [], []⟩
def l3Args : (List PartD × PartD) ⊕ (List PartD × List Str) → List AV
  | .inl a => [.own 0 5 (eParts a.1), .agg [.bool a.2.clash, .own 1 1 (eStrs a.2.lines), .own 2 1 (eStrs a.2.old), .own 3 1 (eStrs a.2.one), .own 4 1 (eStrs a.2.two)]]
  | .inr a => [.own 0 5 (eParts a.1), .agg [.bool false, .own 1 1 (eStrs a.2), .nil, .nil, .nil]]
def l3Owns : (List PartD × PartD) ⊕ (List PartD × List Str) → List (Nat × Nat × Nat × List (List D))
  | .inl a => [(0, 270, 5, eParts a.1), (1, 9, 1, eStrs a.2.lines), (2, 9, 1, eStrs a.2.old), (3, 9, 1, eStrs a.2.one), (4, 9, 1, eStrs a.2.two)]
  | .inr a => [(0, 270, 5, eParts a.1), (1, 9, 1, eStrs a.2)]
def cL3Put : Con := { A := (List PartD × PartD) ⊕ (List PartD × List Str), X := Unit, n := 53, args := l3Args, boxes := fun _ => [], pre := fun a => (l3A a).length ≤ 1048576 ∧ (∀ q ∈ l3A a, q.lines.length ≤ 1073741824) ∧ (l3P a).lines.length ≤ 1073741824, post := fun _ _ => True, res := fun a _ => .own 8 5 (eParts (put3 (l3A a) (l3P a))), fin := fun a _ => ownParts 8 (put3 (l3A a) (l3P a)), owns := l3Owns, mv := true }
set_option maxHeartbeats 4000000 in
theorem l3Put_has : Has Tryz.prog 286 cL3Put := by
  refine has_walk mixed tTab_ok (l := []) HasL.nil [0, 1, 3, 4, 5] ((fun a n (_ : Nat) => (fun _ => noInv) a n)) [12287, 12333] Tryz.func286 (by kernel_rfl) (code := _) (by unfold Tryz.f286; rfl) (by kernel_rfl) (by decide) (fun _ => ⟨(), trivial⟩) (by intro h; first | exact fun _ => rfl | cases h) (by kernel_rfl) ?_
  intro a ha
  rcases a with ⟨l, p⟩ | ⟨l, x⟩
  · obtain ⟨h1, h2, h3⟩ : l.length ≤ 1048576 ∧ (∀ q ∈ l, q.lines.length ≤ 1073741824) ∧ p.lines.length ≤ 1073741824 := ha
    simp -implicitDefEqProofs [cL3Put, l3Args, l3Owns, l3A, l3P, Con.fn, tTab]
    try dsimp only
    have f : ∀ (t : List Str), ∀ x ∈ eStrs t, ∀ d ∈ x, match d with | .sl _ _ _ => False | _ => True := fun t => (eStrs_flat t).mpr trivial
    have sn : ∀ k : List PartD, eParts k ++ [[D.bool p.clash, D.sl 9 1 (eStrs p.lines), D.sl 9 1 (eStrs p.old), D.sl 9 1 (eStrs p.one), D.sl 9 1 (eStrs p.two)]] = eParts (k ++ [p]) := fun k => by simp -implicitDefEqProofs [eParts, ePart]
    rw [sn]
    rcases List.eq_nil_or_concat l with rfl | ⟨m, q, rfl⟩
    · simp
      repeat' (first | intro _ | apply And.intro)
      all_goals first | omega | (cases (Eq.trans (Eq.symm ‹p.clash = true›) ‹p.clash = false›)) | exact f _ | exact f _ _ (by assumption) _ (by assumption) | exact put3_e0 (by first | assumption | rfl) (by assumption) | exact (put3_e0 (by first | assumption | rfl) (by assumption)).symm | exact put3_e4 (by simp_all) | exact (put3_e4 (by simp_all)).symm | (rw [put3_e1 (by assumption) (by first | assumption | rfl) (by assumption)]; simp -implicitDefEqProofs [eParts, ePart, eStrs]) | (rw [put3_e3 (by assumption)]; simp) | (rw [put3_e2 (by assumption) (by simp_all)]; simp)
    · have he : ∀ r, (eParts m ++ [r])[m.length]? = some r := fun r => by rw [List.getElem?_append_right (by simp)]; simp
      have hs : ∀ r, (eParts (m ++ [q])).set m.length r = eParts m ++ [r] := fun r => by simp -implicitDefEqProofs [eParts]
      have hq : (m ++ [q])[m.length]? = some q := by simp
      have hql := h2 q (by simp)
      have ee : ∀ r r', (eParts m ++ [r] = eParts (m ++ [r'])) = (r = ePart r') := fun r r' => by simp -implicitDefEqProofs [eParts]
      have h1 : m.length + 1 ≤ 1048576 := by simpa using h1
      simp -implicitDefEqProofs [he, hs, ePart, D.asBool, D.asRows]
      repeat' (first | intro _ | apply And.intro)
      all_goals first | omega | (cases (Eq.trans (Eq.symm ‹p.clash = true›) ‹p.clash = false›)) | exact f _ | exact f _ _ (by assumption) _ (by assumption) | exact put3_e0 (by first | assumption | rfl) (by assumption) | exact (put3_e0 (by first | assumption | rfl) (by assumption)).symm | exact put3_e4 (by simp_all) | exact (put3_e4 (by simp_all)).symm | (rw [put3_e1 (by assumption) (by first | assumption | rfl) (by assumption)]; simp -implicitDefEqProofs [eParts, ePart, eStrs]) | (rw [put3_e3 (by assumption)]; simp) | (rw [put3_e2 (by assumption) (by simp_all)]; simp)
  · obtain ⟨h1, h2, h3⟩ : l.length ≤ 1048576 ∧ (∀ q ∈ l, q.lines.length ≤ 1073741824) ∧ x.length ≤ 1073741824 := ha
    simp -implicitDefEqProofs [cL3Put, l3Args, l3Owns, l3A, l3P, Con.fn, tTab]
    try dsimp only
    have f : ∀ (t : List Str), ∀ x ∈ eStrs t, ∀ d ∈ x, match d with | .sl _ _ _ => False | _ => True := fun t => (eStrs_flat t).mpr trivial
    have sn : ∀ k : List PartD, eParts k ++ [[D.bool false, D.sl 9 1 (eStrs x), D.sl 9 1 [], D.sl 9 1 [], D.sl 9 1 []]] = eParts (k ++ [⟨false, x, [], [], []⟩]) := fun k => by simp -implicitDefEqProofs [eParts, ePart]
    rw [sn]
    rcases List.eq_nil_or_concat l with rfl | ⟨m, q, rfl⟩
    · simp
      repeat' (first | intro _ | apply And.intro)
      all_goals first | omega | (cases (Eq.trans (Eq.symm ‹p.clash = true›) ‹p.clash = false›)) | exact f _ | exact f _ _ (by assumption) _ (by assumption) | exact put3_e0 (by first | assumption | rfl) (by assumption) | exact (put3_e0 (by first | assumption | rfl) (by assumption)).symm | exact put3_e4 (by simp_all) | exact (put3_e4 (by simp_all)).symm | (rw [put3_e1 (by assumption) (by first | assumption | rfl) (by assumption)]; simp -implicitDefEqProofs [eParts, ePart, eStrs]) | (rw [put3_e3 (by assumption)]; simp) | (rw [put3_e2 (by assumption) (by simp_all)]; simp)
    · have he : ∀ r, (eParts m ++ [r])[m.length]? = some r := fun r => by rw [List.getElem?_append_right (by simp)]; simp
      have hs : ∀ r, (eParts (m ++ [q])).set m.length r = eParts m ++ [r] := fun r => by simp -implicitDefEqProofs [eParts]
      have hq : (m ++ [q])[m.length]? = some q := by simp
      have hql := h2 q (by simp)
      have ee : ∀ r r', (eParts m ++ [r] = eParts (m ++ [r'])) = (r = ePart r') := fun r r' => by simp -implicitDefEqProofs [eParts]
      have h1 : m.length + 1 ≤ 1048576 := by simpa using h1
      simp -implicitDefEqProofs [he, hs, ePart, D.asBool, D.asRows]
      repeat' (first | intro _ | apply And.intro)
      all_goals first | omega | (cases (Eq.trans (Eq.symm ‹p.clash = true›) ‹p.clash = false›)) | exact f _ | exact f _ _ (by assumption) _ (by assumption) | exact put3_e0 (by first | assumption | rfl) (by assumption) | exact (put3_e0 (by first | assumption | rfl) (by assumption)).symm | exact put3_e4 (by simp_all) | exact (put3_e4 (by simp_all)).symm | (rw [put3_e1 (by assumption) (by first | assumption | rfl) (by assumption)]; simp -implicitDefEqProofs [eParts, ePart, eStrs]) | (rw [put3_e3 (by assumption)]; simp) | (rw [put3_e2 (by assumption) (by simp_all)]; simp)

end Vx
end Go.Proofs.YtnanellmaelipaaGreatDoor
/-
  Contracts: merged texts (the reference's l3Of, l3Text).
-/
namespace Go.Proofs.YtnanellmaelipaaGreatDoor
namespace Vx
open Go.RowKit
set_option maxRecDepth 8000

theorem mtE_snoc (o a : List Str) : eInts (mt o a 0) ++ [[D.int .i64 (a.length : Int)]] = eInts (mtE o a) := by simp -implicitDefEqProofs [mtE, eInts, eInt]
def l3oI (o a b : List Str) : Inv := ⟨Nat, fun i => ⟨[(0, true, .sl true 1 (eStrs o)), (1, true, .sl true 1 (eStrs a)), (2, true, .sl true 1 (eStrs b)), (6, true, .nil), (7, true, .own 9 5 (eParts (run3 o a b i).out)), (8, true, .own 10 1 (eInts (mtE o a))), (9, true, .own 11 1 (eInts (mtE o b))), (10, true, .int .i64 (run3 o a b i).io), (11, true, .int .i64 (run3 o a b i).ia), (12, true, .int .i64 (run3 o a b i).ib), (13, true, .int .i64 i)], [(9, .own 270 5 true (eParts (run3 o a b i).out)), (10, .own 3 1 true (eInts (mtE o a))), (11, .own 3 1 true (eInts (mtE o b)))]⟩, fun i => i ≤ o.length + 1, fun i => o.length + 1 - i⟩
def cL3Of : Con := .fn 93 (List Str × List Str × List Str) (fun a => [.sl true 1 (eStrs a.1), .sl true 1 (eStrs a.2.1), .sl true 1 (eStrs a.2.2)]) (fun a => a.1.length ≤ 100000 ∧ a.2.1.length ≤ 100000 ∧ a.2.2.length ≤ 100000) (fun a => .own 8 5 (eParts (of3 a.1 a.2.1 a.2.2))) (fun a => ownParts 8 (of3 a.1 a.2.1 a.2.2))
set_option maxHeartbeats 4000000 in
theorem l3Of_has : Has Tryz.prog 272 cL3Of := by
  refine has_walk mixed tTab_ok (l := [(269, cL1Match), (287, cL3Part), (286, cL3Put)]) (HasL.cons l1Match_has (HasL.cons l3Part_has (HasL.cons l3Put_has HasL.nil))) [0, 1, 2, 6, 7, 8, 9, 10, 11, 12, 13] ((fun a n (_ : Nat) => (fun a _ => l3oI a.1 a.2.1 a.2.2) a n)) [] Tryz.func272 (by kernel_rfl) (code := _) (by unfold Tryz.f272; rfl) (by kernel_rfl) (by decide) (fun _ => ⟨(), trivial⟩) (by intro h; first | exact fun _ => rfl | cases h) (by kernel_rfl) ?_
  intro a ha
  obtain ⟨o, a, b⟩ := a
  obtain ⟨h1, h2, h3⟩ : o.length ≤ 100000 ∧ a.length ≤ 100000 ∧ b.length ≤ 100000 := ha
  simp (maxSteps := 4000000) -implicitDefEqProofs [cL3Of, cL1Match, cL3Part, cL3Put, l3Args, l3Owns, l3A, l3P, Con.fn, tTab, l3oI, Sum.exists]
  try dsimp only
  have ea := mtE_snoc o a
  have eb := mtE_snoc o b
  have la := mtE_len o a
  have lb := mtE_len o b
  have m1 := mt_len o a 0
  have m2 := mt_len o b 0
  refine ⟨o, a, ⟨rfl, rfl⟩, ⟨by omega, by omega⟩, fun _ => ⟨⟨by omega, by omega⟩, o, b, ⟨rfl, rfl⟩, ⟨by omega, by omega⟩, fun _ => ⟨⟨by omega, by omega⟩, ⟨0, ⟨⟨rfl, ea.symm, eb.symm, rfl, rfl, rfl, rfl⟩, rfl, ea, eb⟩, Nat.zero_le _⟩, fun t ht hla => ⟨fun hlt => ?_, fun hge => ?_⟩⟩⟩⟩
  · have ok := ok3_run o a b t ht
    have st : run3 o a b (t + 1) = step3 o a b ((mtE o a).getD t 0) ((mtE o b).getD t 0) t (run3 o a b t) := rfl
    obtain ⟨k1, k2, k3, k4, k5, k6, k7⟩ := ok
    have ga : (mtE o a).getD t 0 = (mtE o a)[t]'(by omega) := by simp -implicitDefEqProofs [List.getD_eq_getElem?_getD, List.getElem?_eq_getElem (show t < (mtE o a).length by omega)]
    have gb : (mtE o b).getD t 0 = (mtE o b)[t]'(by omega) := by simp -implicitDefEqProofs [List.getD_eq_getElem?_getD, List.getElem?_eq_getElem (show t < (mtE o b).length by omega)]
    have k4 := asc_at (l := mtE o a) (by omega) k4
    have k5 := asc_at (l := mtE o b) (by omega) k5
    have oa : (mtE o a)[t]? = some ((mtE o a)[t]'(by omega)) := List.getElem?_eq_getElem (by omega)
    have ob : (mtE o b)[t]? = some ((mtE o b)[t]'(by omega)) := List.getElem?_eq_getElem (by omega)
    rw [ga, gb] at st
    rw [oa, ob]
    generalize (mtE o a)[t]'(by omega) = x at *
    generalize (mtE o b)[t]'(by omega) = y at *
    generalize run3 o a b t = S at *
    obtain ⟨io, ia, ib, out⟩ := S
    simp only at k1 k2 k3 k4 k5 k6 k7
    simp -implicitDefEqProofs [eInt, D.asInt, hlt, la, lb, eStrs_take, eStrs_drop]
    have skip : x < 0 ∨ y < 0 → run3 o a b (t + 1) = ⟨io, ia, ib, out⟩ := fun h => by rw [st]; unfold step3; rw [if_pos h]
    have p1 : (List.take (t - io) (List.drop io o)) = (o.take t).drop io := (List.drop_take).symm
    have p2 : (List.take (x.toNat - ia) (List.drop ia a)) = (a.take x.toNat).drop ia := (List.drop_take).symm
    have p3 : (List.take (y.toNat - ib) (List.drop ib b)) = (b.take y.toNat).drop ib := (List.drop_take).symm
    rw [p1, p2, p3]
    refine ⟨by omega, fun _ => ⟨fun hx => ⟨⟨by omega, by omega⟩, fun _ _ => ⟨t + 1, by rw [skip (.inl hx)]; exact ⟨⟨⟨rfl, rfl, rfl, rfl, by omega⟩, rfl⟩, by omega, by omega⟩⟩⟩, fun hx => ⟨by omega, fun _ => ⟨fun hy => ⟨⟨by omega, by omega⟩, fun _ _ => ⟨t + 1, by rw [skip (.inr hy)]; exact ⟨⟨⟨rfl, rfl, rfl, rfl, by omega⟩, rfl⟩, by omega, by omega⟩⟩⟩, fun hy => ?_⟩⟩⟩⟩
    have st2 : run3 o a b (t + 1) = ⟨t + 1, x.toNat + 1, y.toNat + 1, if t < o.length then put3 (put3 out (part3 ((o.take t).drop io) ((a.take x.toNat).drop ia) ((b.take y.toNat).drop ib))) ⟨false, [o.getD t []], [], [], []⟩ else put3 out (part3 ((o.take t).drop io) ((a.take x.toNat).drop ia) ((b.take y.toNat).drop ib))⟩ := by rw [st]; unfold step3; rw [if_neg (by omega)]
    have l1 : ((o.take t).drop io).length ≤ 100000 := by simp; omega
    have l2 : ((a.take x.toNat).drop ia).length ≤ 100000 := by simp; omega
    have l3 : ((b.take y.toNat).drop ib).length ≤ 100000 := by simp; omega
    have pl := part3_lines ((o.take t).drop io) ((a.take x.toNat).drop ia) ((b.take y.toNat).drop ib)
    refine ⟨⟨k1, by omega⟩, fun _ _ => ⟨by omega, fun _ => ⟨⟨by omega, by omega⟩, fun _ _ => ⟨by omega, fun _ => ⟨⟨by omega, by omega⟩, fun _ _ => ⟨_, _, _, ⟨rfl, rfl, rfl⟩, ⟨by omega, by omega, by omega⟩, out, part3 _ _ _, ⟨rfl, rfl, rfl, rfl, rfl, rfl⟩, ⟨rfl, rfl, rfl, rfl, rfl⟩, ?_, ?_⟩⟩⟩⟩⟩⟩
    · rintro q1 q2 (⟨rfl, rfl⟩ | ⟨rfl, rfl⟩ | ⟨rfl, rfl⟩ | ⟨rfl, rfl⟩ | ⟨rfl, rfl⟩) <;> simp
    have pl2 := put3_len out (part3 ((o.take t).drop io) ((a.take x.toNat).drop ia) ((b.take y.toNat).drop ib))
    have pb := put3_bd (p := part3 ((o.take t).drop io) ((a.take x.toNat).drop ia) ((b.take y.toNat).drop ib)) k7
    generalize part3 ((o.take t).drop io) ((a.take x.toNat).drop ia) ((b.take y.toNat).drop ib) = p at *
    refine ⟨⟨by omega, fun q hq => by have := k7 q hq; omega, by omega⟩, fun _ => ⟨fun hto => ?_, fun hto => ?_⟩⟩
    · have go : o.getD t [] = o[t] := by simp -implicitDefEqProofs [List.getD_eq_getElem?_getD, hto]
      rw [if_pos hto, go] at st2
      simp -implicitDefEqProofs [hto, eStr, D.asStr]
      refine ⟨put3 out p, [o[t]], ⟨rfl, rfl⟩, ⟨rfl, rfl⟩, ?_, ⟨by omega, fun q hq => by have := pb q hq; omega, by simp⟩, ⟨by omega, by omega⟩, fun _ _ => ⟨by omega, fun _ => ⟨⟨by omega, by omega⟩, fun _ _ => ⟨by omega, fun _ => ⟨⟨by omega, by omega⟩, fun _ _ => ⟨⟨by omega, by omega⟩, fun _ _ => ⟨t + 1, ?_⟩⟩⟩⟩⟩⟩⟩
      · rintro q1 q2 (⟨rfl, rfl⟩ | ⟨rfl, rfl⟩) <;> simp
      · rw [st2]
        exact ⟨⟨⟨rfl, by simp, by simp; omega, by simp; omega, by omega⟩, rfl⟩, by omega, by omega⟩
    · rw [if_neg (by omega)] at st2
      refine ⟨⟨by omega, by omega⟩, fun _ _ => ⟨by omega, fun _ => ⟨⟨by omega, by omega⟩, fun _ _ => ⟨by omega, fun _ => ⟨⟨by omega, by omega⟩, fun _ _ => ⟨⟨by omega, by omega⟩, fun _ _ => ⟨t + 1, ?_⟩⟩⟩⟩⟩⟩⟩
      rw [st2]
      exact ⟨⟨⟨rfl, by simp, by simp; omega, by simp; omega, by omega⟩, rfl⟩, by omega, by omega⟩
  · have : t = o.length + 1 := by omega
    subst this
    exact ⟨rfl, rfl⟩

def linesF (l : List PartD) (i : Nat) : List Str := (l.take i).flatMap (·.lines)
def cL3Text : Con := .fn 29 (List PartD) (fun l => [.sl true 5 (eParts l)]) (fun l => l.length ≤ 1048576 ∧ ∀ q ∈ l, q.lines.length ≤ 1048576) (fun l => .tup [.sl false 1 (eStrs (text3 l).1), .bool (text3 l).2]) (fun _ => [])
set_option maxHeartbeats 4000000 in
theorem l3Text_has : Has Tryz.prog 271 cL3Text := by
  refine has_walk mixed tTab_ok (l := [(165, cL1Ok)]) (HasL.cons l1Ok_has HasL.nil) [0, 2, 3, 4, 5] ((fun a n (_ : Nat) => (fun l _ => ⟨Nat, fun i => ⟨[(0, true, .sl true 5 (eParts l)), (2, true, .nil), (3, true, .bool false), (4, true, .own 9 1 (eStrs (linesF l i))), (5, true, .int .i64 i)], [(9, .own 9 1 true (eStrs (linesF l i)))]⟩, fun i => i ≤ l.length ∧ (l.take i).any (·.clash) = false, fun i => l.length - i⟩) a n)) [] Tryz.func271 (by kernel_rfl) (code := _) (by unfold Tryz.f271; rfl) (by kernel_rfl) (by decide) (fun _ => ⟨(), trivial⟩) (by intro h; first | exact fun _ => rfl | cases h) (by kernel_rfl) ?_
  intro (l : List PartD) ha
  obtain ⟨h1, h2⟩ : l.length ≤ 1048576 ∧ ∀ q ∈ l, q.lines.length ≤ 1048576 := ha
  simp -implicitDefEqProofs [cL3Text, cL1Ok, Con.fn, tTab]
  try dsimp only
  have hl0 : ∀ i, i ≤ l.length → (linesF l i).length ≤ i * 1048576 := fun i => by
    induction i with
    | zero => intro _; simp -implicitDefEqProofs [linesF]
    | succ i ih =>
      intro h
      have e : linesF l (i + 1) = linesF l i ++ l[i].lines := by unfold linesF; rw [take_succ' (show i < l.length by omega), List.flatMap_append]; simp
      have := h2 l[i] (List.getElem_mem _)
      have := ih (by omega)
      rw [e, List.length_append]; clear e; omega
  have f : ∀ (t : List Str), ∀ x ∈ eStrs t, ∀ d ∈ x, match d with | .sl _ _ _ => False | _ => True := fun t => (eStrs_flat t).mpr trivial
  have hn0 : (∃ q ∈ l, q.clash = true) → text3 l = ([], false) := fun ⟨q, h, h'⟩ => by unfold text3; rw [if_pos (by simp; exact ⟨q, h, h'⟩)]
  have hn1 : (∀ q ∈ l, q.clash = false) → textB (linesF l l.length) = false → text3 l = ([], false) := fun h h' => by
    unfold text3 linesF at *; rw [List.take_length] at h'; rw [if_neg (by simp; exact h), if_neg (by simp -implicitDefEqProofs [h'])]
  have hn2 : (∀ q ∈ l, q.clash = false) → textB (linesF l l.length) = true → text3 l = (linesF l l.length, true) := fun h h' => by
    unfold text3 linesF at *; rw [List.take_length] at *; rw [if_neg (by simp; exact h), if_pos h']
  refine ⟨⟨0, ⟨⟨rfl, rfl⟩, rfl⟩, Nat.zero_le _, by simp⟩, fun t ht hc _ => ⟨fun hlt => ⟨hlt, fun _ => ?_⟩, fun hge => ?_⟩⟩
  · have e : linesF l (t + 1) = linesF l t ++ l[t].lines := by unfold linesF; rw [take_succ' hlt, List.flatMap_append]; simp
    have q1 := h2 l[t] (List.getElem_mem hlt)
    have q2 := hl0 t ht
    have q3 : l[t] ∈ l := List.getElem_mem hlt
    have q4 : ∀ x ∈ l.take (t + 1), x ∈ l.take t ∨ x = l[t] := fun x hx => by rw [take_succ' hlt] at hx; exact (List.mem_append.1 hx).imp id (fun h => List.mem_singleton.1 h)
    have qq : Option.map ePart l[t]? = some (ePart l[t]) := by simp -implicitDefEqProofs [hlt]
    rw [qq]
    generalize l[t] = q at *
    simp -implicitDefEqProofs [ePart, D.asBool, D.asRows]
    refine ⟨fun h => by rw [hn0 ⟨q, q3, h⟩]; exact ⟨rfl, rfl⟩, fun h => ⟨hlt, fun _ => ⟨f _, ⟨by omega, by omega⟩, ⟨by omega, by omega⟩, fun _ _ => ⟨t + 1, ⟨⟨by rw [e, eStrs_append], by omega⟩, by rw [e, eStrs_append]⟩, ⟨by omega, fun x hx => (q4 x hx).elim (hc x) (fun hx => hx ▸ h)⟩, by omega⟩⟩⟩⟩
  · have : t = l.length := by omega
    subst this
    rw [List.take_length] at hc
    exact ⟨fun h => by rw [hn1 hc h]; exact ⟨rfl, rfl⟩, fun h => by rw [hn2 hc h]; exact ⟨rfl, rfl⟩⟩

end Vx
end Go.Proofs.YtnanellmaelipaaGreatDoor
/-
  Contracts: repositories (l7Ok, MarksOk).
-/
namespace Go.Proofs.YtnanellmaelipaaGreatDoor
namespace Vx
open Go.RowKit
set_option maxRecDepth 8000

def rsO (r : RepoD) : Inv := ⟨Nat, fun i => ⟨[(1, true, .ptr 10 0), (2, true, .bool false), (3, true, .int .i64 i)], [(10, bRepo r)]⟩, fun i => i ≤ r.commits.length ∧ ∀ j, j < i → okCS r.commits j = true, fun i => r.commits.length - i⟩
def rsI (r : RepoD) (g : Nat) : Inv := ⟨Nat, fun k => ⟨[(1, true, .ptr 10 0), (2, true, .bool false), (3, true, .int .i64 g), (4, true, .ptr 11 0), (5, true, .int .i64 k)], [(10, bRepo r), (11, .box 56 [.sl true 1 (eInts (r.commits.getD g default).parents), .str (r.commits.getD g default).who, .sl true 2 (eFiles (r.commits.getD g default).tree)])]⟩,
  fun k => g < r.commits.length ∧ k ≤ (r.commits.getD g default).parents.length ∧ (∀ j, j < g → okCS r.commits j = true) ∧ ∀ j, j < k → oneP g (r.commits.getD g default).parents j = true, fun k => (r.commits.getD g default).parents.length - k⟩
def rsH (r : RepoD) : Inv := ⟨Nat, fun i => ⟨[(1, true, .ptr 10 0), (2, true, .bool false), (6, true, .int .i64 i)], [(10, bRepo r)]⟩, fun i => i ≤ r.heads.length ∧ (∀ j, j < r.commits.length → okCS r.commits j = true) ∧ ∀ j, j < i → okHd r.commits.length r.heads j = true, fun i => r.heads.length - i⟩
def rsInv (r : RepoD) (n g : Nat) : Inv := if n = 2 then rsO r else if n = 6 then rsI r g else rsH r
theorem rsInv_2 (r : RepoD) (g : Nat) : rsInv r 2 g = rsO r := rfl
theorem rsInv_6 (r : RepoD) (g : Nat) : rsInv r 6 g = rsI r g := rfl
theorem rsInv_13 (r : RepoD) (g : Nat) : rsInv r 13 g = rsH r := rfl

def cL7Ok : Con := .fn 126 RepoD (fun r => [vRepo r]) (fun r => r.commits.length ≤ 1073741824) (fun r => .bool (repoS r)) (fun _ => [])
set_option maxHeartbeats 4000000 in
theorem l7Ok_has : Has Tryz.prog 82 cL7Ok := by
  refine has_walk mixed tTab_ok (l := [(84, cL1In), (95, cL4Name), (110, cL4Ok)]) (HasL.cons l1In_has (HasL.cons l4Name_has (HasL.cons l4Ok_has HasL.nil))) [0, 1, 2, 3, 4, 5, 6] (fun r => rsInv r) [] Tryz.func82 (by kernel_rfl) (code := _) (by unfold Tryz.f82; rfl) (by kernel_rfl) (by decide) (fun _ => ⟨(), trivial⟩) (by intro h; first | exact fun _ => rfl | cases h) (by kernel_rfl) ?_
  intro (r : RepoD) hr
  replace hr : r.commits.length ≤ 1073741824 := hr
  have hN := fun i => @repoS_no r i
  have hN1 := fun i => @okCS_no1 r.commits i
  have hN2 := fun i k => @okCS_no2 r.commits i k
  have hY := fun i => @okCS_yes r.commits i
  have hM := fun i => @headsB_no r.commits.length r.heads i
  have hH := @repoS_noH r
  simp -implicitDefEqProofs [cL7Ok, Con.fn, tTab, cL4Name, cL4Ok, cL1In, rsInv_2, rsInv_6, rsInv_13, rsO, rsI, rsH, bRepo_def]
  try dsimp only
  refine fun i hi hprev _ => ⟨fun hlt => ?_, fun hge => ?_⟩
  · have e3 : Option.map eCommit r.commits[i]? = some (eCommit r.commits[i]) := by simp -implicitDefEqProofs [List.getElem?_eq_getElem hlt]
    have hgc : r.commits.getD i default = r.commits[i] := by simp -implicitDefEqProofs [List.getD_eq_getElem?_getD, hlt]
    have n0 := hN i hlt
    have n1 := hN1 i
    have n2 := hN2 i
    have n3 := hY i
    rw [hgc] at n1 n2 n3
    simp -implicitDefEqProofs [hlt, e3, eCommit, D.asStr, D.asRows, cast_eq, and_assoc]
    try simp only [show r.commits[i]?.getD default = r.commits[i] by simp -implicitDefEqProofs [hlt]]
    generalize r.commits[i] = c at n1 n2 n3 ⊢
    clear hN hN1 hN2 hY hM hH e3 hgc
    refine ⟨hprev, fun t ht _ hinv _ => ⟨fun hlt2 => ?_, fun hge2 => ?_⟩⟩
    · have qt : Option.map eInt c.parents[t]? = some (eInt c.parents[t]) := by simp -implicitDefEqProofs [List.getElem?_eq_getElem hlt2]
      have q0 : Option.map eInt c.parents[0]? = some (eInt (c.parents[0]'(by omega))) := by simp -implicitDefEqProofs [List.getElem?_eq_getElem (show 0 < c.parents.length by omega)]
      have o : oneP i c.parents t = ((decide (0 ≤ c.parents[t]) && decide (c.parents[t] ≤ (i : Int) - 1)) && !(decide (0 < t) && decide (c.parents[t] = c.parents[0]'(by omega)))) := by
        unfold oneP inN
        rw [show c.parents.getD t 0 = c.parents[t] by simp -implicitDefEqProofs [List.getD_eq_getElem?_getD, hlt2], show c.parents.getD 0 0 = c.parents[0]'(by omega) by simp -implicitDefEqProofs [List.getD_eq_getElem?_getD, show 0 < c.parents.length by omega]]
      have n7 : oneP i c.parents t = false → repoS r = false := fun h => n0 (n2 t hlt2 h)
      have n8 : oneP i c.parents t = true → ∀ j, j < t + 1 → oneP i c.parents j = true := fun h j hj => by
        rcases Nat.lt_or_ge j t with h3 | h3
        · exact hinv j h3
        · have : j = t := by omega
          subst this; exact h
      simp -implicitDefEqProofs [qt, q0, eInt, hlt2]
      refine ⟨by omega, by omega, fun _ _ => ⟨fun h => ?_, fun g1 g2 => ⟨fun h0 => ⟨by omega, fun _ => ⟨fun he => n7 (by rw [o]; simp -implicitDefEqProofs [he, h0]), fun he => ⟨by omega, by omega, fun _ _ => ⟨t + 1, rfl, by omega, hprev, n8 (by rw [o]; simp -implicitDefEqProofs [g1, g2, he]), by omega⟩⟩⟩⟩,
        fun h0 => ⟨by omega, by omega, fun _ _ => ⟨t + 1, rfl, by omega, hprev, n8 (by rw [o, show decide (0 < t) = false by simp -implicitDefEqProofs [h0]]; simp -implicitDefEqProofs [g1, g2]), by omega⟩⟩⟩⟩⟩
      have : repoS r = false := n7 (by rw [o]; simp; omega)
      exact ⟨fun _ => this, fun _ => this⟩
    · have n9 : okS1 c = false → repoS r = false := fun h => n0 (n1 h)
      have n10 : okS1 c = true → ∀ j, j < i + 1 → okCS r.commits j = true := fun h j hj => by
        rcases Nat.lt_or_ge j i with h3 | h3
        · exact hprev j h3
        · have : j = i := by omega
          subst this
          exact n3 h (fun k hk => hinv k (by omega))
      refine fun _ => ⟨fun h => n9 (by simp -implicitDefEqProofs [okS1]; omega), fun h => ⟨fun hn => n9 (by simp -implicitDefEqProofs [okS1, hn]), fun hn => ⟨fun ht => n9 (by simp -implicitDefEqProofs [okS1, ht]), fun ht => ⟨by omega, by omega, fun _ _ => ⟨i + 1, rfl, by omega, n10 (by simp -implicitDefEqProofs [okS1, hn, ht]; omega), by omega⟩⟩⟩⟩⟩
  · clear hN hN1 hN2 hY
    have hall : ∀ j, j < r.commits.length → okCS r.commits j = true := fun j hj => hprev j (by omega)
    refine ⟨hall, fun t ht _ hinv _ => ⟨fun hlt2 => ?_, fun hge2 _ => ?_⟩⟩
    · generalize hhs : r.heads = hs at *
      have e3 : Option.map eHead hs[t]? = some (eHead hs[t]) := by simp -implicitDefEqProofs [List.getElem?_eq_getElem hlt2]
      have e4 : Option.map eHead hs[t - 1]? = some (eHead (hs[t - 1]'(by omega))) := by simp -implicitDefEqProofs [List.getElem?_eq_getElem (show t - 1 < hs.length by omega)]
      have hh : okHd r.commits.length hs t = (nameB hs[t].name && inN r.commits.length hs[t].at_ && (decide (t = 0) || Go.Op.bytesLess (hs[t - 1]'(by omega)).name hs[t].name)) := by
        unfold okHd
        rw [show hs.getD t default = hs[t] by simp -implicitDefEqProofs [List.getD_eq_getElem?_getD, hlt2], show hs.getD (t - 1) default = hs[t - 1]'(by omega) by simp -implicitDefEqProofs [List.getD_eq_getElem?_getD, show t - 1 < hs.length by omega]]
      have n7 : okHd r.commits.length hs t = false → repoS r = false := fun h => hH (hM t hlt2 h)
      have n8 : okHd r.commits.length hs t = true → ∀ j, j < t + 1 → okHd r.commits.length hs j = true := fun h j hj => by
        rcases Nat.lt_or_ge j t with h3 | h3
        · exact hinv j h3
        · have : j = t := by omega
          subst this; exact h
      have hq := leqS_iff hs[t].name (hs[t - 1]'(by omega)).name
      rw [less_eq] at hh
      unfold leqS at hq
      rw [hh] at n7 n8
      unfold inN at n7 n8
      clear hh hH hM
      simp -implicitDefEqProofs [hlt2, e3, e4, eHead, D.asStr, D.asInt, cast_eq, and_assoc]
      try simp +contextual -implicitDefEqProofs [eStr, eFile, cast_succ, cast_eq, cast_zero, List.getElem?_eq_getElem, eStrs_set, eFiles_set, eStrs_rep, eFiles_rep, ← eStrs_append, ← eFiles_append, eStrs_take, eStrs_drop, eFiles_take, eFiles_drop, eStrs_snoc, eFiles_snoc, and_assoc, hlt2]
      clear e3 e4 hinv hprev
      repeat' (first | intro _ | apply And.intro)
      all_goals first | omega | grind -ring
    · have h2 : headsB r.commits.length r.heads = decide (r.heads.length ≤ 5) := by
        unfold headsB
        have : (List.range r.heads.length).all (okHd r.commits.length r.heads) = true := by
          rw [List.all_eq_true]
          intro j hj
          have hj' : j < r.heads.length := by simpa using hj
          exact hinv j (by omega)
        rw [this, Bool.and_true]
      refine ⟨fun h16 _ => ?_, fun h16 => ?_⟩
      · rw [Bool.eq_iff_iff, repoS_iff, h2]
        simp only [decide_eq_true_eq]
        exact ⟨fun h => by have := h.2.1; omega, fun h => ⟨hall, by omega, by omega⟩⟩
      · cases hq : repoS r with
        | false => rfl
        | true => have := ((repoS_iff r).1 hq).2.2; omega

def marksI (a : RepoD × List HeadD) : Bool := repoI a.1 && headsB a.1.commits.length a.2
def cMarksOkS : Con := .fn 12 (RepoD × List HeadD) (fun a => [vRepo a.1, .sl true 2 (eHeads a.2)]) (fun a => a.1.commits.length ≤ 1073741824) (fun a => .bool (marksI a)) (fun _ => [])
set_option maxHeartbeats 4000000 in
theorem marksOkS_has : Has Tryz.prog 32 cMarksOkS := by
  refine has_walk mixed tTab_ok (l := [(82, cL7Ok), (83, cL23Ok)]) (HasL.cons l7Ok_has (HasL.cons l23Ok_has HasL.nil)) [0, 1, 2, 4] ((fun a n (_ : Nat) => (fun _ => noInv) a n)) [] Tryz.func32 (by kernel_rfl) (code := _) (by unfold Tryz.f32; rfl) (by kernel_rfl) (by decide) (fun _ => ⟨(), trivial⟩) (by intro h; first | exact fun _ => rfl | cases h) (by kernel_rfl) ?_
  intro a ha
  obtain ⟨r, m⟩ := a
  replace ha : r.commits.length ≤ 1073741824 := ha
  simp -implicitDefEqProofs [cMarksOkS, Con.fn, tTab, cL7Ok, cL23Ok, marksI, repo_eq]
  try dsimp only
  try simp +contextual -implicitDefEqProofs [eStr, eFile, cast_succ, cast_eq, cast_zero, List.getElem?_eq_getElem, eStrs_set, eFiles_set, eStrs_rep, eFiles_rep, ← eStrs_append, ← eFiles_append, eStrs_take, eStrs_drop, eFiles_take, eFiles_drop, eStrs_snoc, eFiles_snoc, and_assoc]
  repeat' (first | intro _ | apply And.intro)
  all_goals first | omega | grind [all_take]
def cMarksOkI : Con := .fn 12 (RepoD × List HeadD) (fun a => [vRepo a.1, .sl true 2 (eHeads a.2)]) (fun a => rpPre a.1) (fun a => .bool (marksI a)) (fun _ => [])
set_option maxHeartbeats 4000000 in
theorem marksOkI_has : Has Tryz.prog 18 cMarksOkI := by
  refine has_walk mixed tTab_ok (l := [(24, cRepoOk), (88, cHeadsOk)]) (HasL.cons repoOk_has (HasL.cons headsOk_has HasL.nil)) [0, 1, 2, 4] ((fun a n (_ : Nat) => (fun _ => noInv) a n)) [] Tryz.func18 (by kernel_rfl) (code := _) (by unfold Tryz.f18; rfl) (by kernel_rfl) (by decide) (fun _ => ⟨(), trivial⟩) (by intro h; first | exact fun _ => rfl | cases h) (by kernel_rfl) ?_
  intro a ha
  obtain ⟨r, m⟩ := a
  obtain ⟨ha2, ha3⟩ : r.commits.length ≤ 1073741824 ∧ ∀ c ∈ r.commits, ∀ f ∈ c.tree, f.path.length ≤ 536870912 := ha
  simp -implicitDefEqProofs [cMarksOkI, Con.fn, tTab, cRepoOk, cHeadsOk, marksI, rpPre]
  try dsimp only
  try simp +contextual -implicitDefEqProofs [eStr, eFile, cast_succ, cast_eq, cast_zero, List.getElem?_eq_getElem, eStrs_set, eFiles_set, eStrs_rep, eFiles_rep, ← eStrs_append, ← eFiles_append, eStrs_take, eStrs_drop, eFiles_take, eFiles_drop, eStrs_snoc, eFiles_snoc, and_assoc]
  repeat' (first | intro _ | apply And.intro)
  all_goals first | omega | grind [all_take]

end Vx
end Go.Proofs.YtnanellmaelipaaGreatDoor
/-
  Contracts: lines of first parents, both sides; SeekSince.
-/
namespace Go.Proofs.YtnanellmaelipaaGreatDoor
namespace Vx
open Go.RowKit
set_option maxRecDepth 8000

theorem repo_use {r : RepoD} (h : repoI r = true) {i : Nat} (hi : i < r.commits.length) : r.commits[i].parents.length ≤ 2 ∧ (∀ p ∈ r.commits[i].parents, 0 ≤ p ∧ p < (i : Int)) ∧ treeI r.commits[i].tree = true := by
  have h1 := ((repoI_iff r).1 h).2.1 i hi
  have hg : r.commits.getD i default = r.commits[i] := by simp -implicitDefEqProofs [List.getD_eq_getElem?_getD, hi]
  simp only [okCI, okI1, hg, Bool.and_eq_true, decide_eq_true_eq, List.all_eq_true, List.mem_range] at h1
  refine ⟨h1.1.1.1.1, fun p hp => ?_, h1.1.2⟩
  obtain ⟨k, hk, rfl⟩ := List.getElem_of_mem hp
  have h2 := h1.2 k hk
  simp only [inN, Bool.and_eq_true, decide_eq_true_eq, List.getD_eq_getElem?_getD, List.getElem?_eq_getElem hk, Option.getD_some] at h2
  omega
theorem repo_n {r : RepoD} (h : repoI r = true) : r.commits.length ≤ 16 := ((repoI_iff r).1 h).1

def firstP (r : RepoD) (a : Int) : Int := (r.commits.getD a.toNat default).parents.headD (-1)
theorem first_lt {r : RepoD} (h : repoI r = true) {a : Int} (h0 : 0 ≤ a) (h1 : a < r.commits.length) : -1 ≤ firstP r a ∧ firstP r a < a := by
  have hi : a.toNat < r.commits.length := by omega
  obtain ⟨_, h2, _⟩ := repo_use h hi
  unfold firstP
  rw [List.getD_eq_getElem?_getD, List.getElem?_eq_getElem hi, Option.getD_some]
  cases hp : r.commits[a.toNat].parents with
  | nil => simp; omega
  | cons p l =>
    have := h2 p (by rw [hp]; simp)
    simp only [List.headD_cons]
    omega
def lineF (r : RepoD) : Nat → Int → List Int
  | 0, _ => []
  | n + 1, a => if a < 0 then [] else a :: lineF r n (firstP r a)
def lineP (r : RepoD) (a : Int) : List Int := lineF r (a + 1).toNat a
theorem lineF_fuel {r : RepoD} (h : repoI r = true) : ∀ (f g : Nat) (a : Int), a < r.commits.length → (a + 1).toNat ≤ f → (a + 1).toNat ≤ g → lineF r f a = lineF r g a := by
  intro f
  induction f with
  | zero =>
    intro g a ha hf hg
    have : a < 0 := by omega
    cases g with
    | zero => rfl
    | succ g => simp -implicitDefEqProofs [lineF, this]
  | succ f ih =>
    intro g a ha hf hg
    by_cases hn : a < 0
    · cases g with
      | zero => simp -implicitDefEqProofs [lineF, hn]
      | succ g => simp -implicitDefEqProofs [lineF, hn]
    · obtain ⟨g, rfl⟩ : ∃ g', g = g' + 1 := ⟨g - 1, by omega⟩
      have hlt := first_lt h (a := a) (by omega) ha
      simp only [lineF, hn, if_false]
      rw [ih g (firstP r a) (by omega) (by omega) (by omega)]
theorem line_step {r : RepoD} (h : repoI r = true) {a : Int} (h0 : 0 ≤ a) (h1 : a < r.commits.length) : lineP r a = a :: lineP r (firstP r a) := by
  have hlt := first_lt h h0 h1
  unfold lineP
  rw [show (a + 1).toNat = a.toNat + 1 by omega]
  simp only [lineF, show ¬ a < 0 by omega, if_false]
  rw [lineF_fuel h a.toNat (firstP r a + 1).toNat (firstP r a) (by omega) (by omega) (by omega)]
theorem line_neg (r : RepoD) {a : Int} (h : a < 0) : lineP r a = [] := by
  unfold lineP
  rw [show (a + 1).toNat = 0 by omega]; rfl
theorem line_bd {r : RepoD} (h : repoI r = true) : ∀ (n : Nat) (a : Int), a < r.commits.length → a + 1 ≤ n → (lineP r a).length ≤ n ∧ ∀ b ∈ lineP r a, 0 ≤ b ∧ b < r.commits.length := by
  intro n
  induction n with
  | zero => intro a _ h2; rw [line_neg r (by omega)]; simp
  | succ n ih =>
    intro a ha h2
    by_cases hn : a < 0
    · rw [line_neg r hn]; simp
    · rw [line_step h (by omega) ha]
      have hlt := first_lt h (a := a) (by omega) ha
      obtain ⟨i1, i2⟩ := ih (firstP r a) (by omega) (by omega)
      refine ⟨by simp; omega, fun b hb => ?_⟩
      rcases List.mem_cons.1 hb with rfl | hb
      · omega
      · exact i2 b hb

def areB (r : RepoD) (l : List Int) : Bool := repoI r && l.all fun a => decide (0 ≤ a) && decide (a ≤ (r.commits.length : Int) - 1)
def treeAt (r : RepoD) (a : Int) : List FileD := (r.commits.getD a.toNat default).tree
def hasC (r : RepoD) (w : Str) (a : Int) : Bool := !(seekL (hitS w) (treeAt r a)).isEmpty
def sinceW (p : Int → Bool) : List Int → Int → Int
  | [], s => s
  | a :: l, s => if p a then sinceW p l a else s
def sinceR (r : RepoD) (a : Int) (w : Str) : Int := if repoI r && (decide (0 ≤ a) && decide (a ≤ (r.commits.length : Int) - 1)) && nameB w then sinceW (hasC r w) (lineP r a) (-1) else -1
theorem since_yes {p : Int → Bool} {l : List Int} {i : Nat} {s : Int} (h : i < l.length) (hp : p l[i] = true) : sinceW p (l.drop i) s = sinceW p (l.drop (i + 1)) l[i] := by
  rw [List.drop_eq_getElem_cons h]; simp -implicitDefEqProofs [sinceW, hp]
theorem since_no {p : Int → Bool} {l : List Int} {i : Nat} {s : Int} (h : i < l.length) (hp : p l[i] = false) : sinceW p (l.drop i) s = s := by
  rw [List.drop_eq_getElem_cons h]; simp -implicitDefEqProofs [sinceW, hp]
theorem since_end {p : Int → Bool} {l : List Int} {i : Nat} {s : Int} (h : l.length ≤ i) : sinceW p (l.drop i) s = s := by
  rw [List.drop_eq_nil_of_le h]; rfl
theorem seek_hit_eq {t : List FileD} {w : Str} (ht : treeI t = true) (hw : nameB w = true) : seekL (hitI w) t = seekL (hitS w) t := by
  have h1 := seek_eq t w
  unfold treeSeekI treeSeekS at h1
  rw [tree_eq] at h1
  rw [tree_eq] at ht
  rw [ht, hw] at h1
  simpa using h1
theorem tree_lines {t : List FileD} (h : treeI t = true) : t.length ≤ 8 ∧ ∀ f ∈ t, ∀ q ∈ f.text, q.length ≤ 1099511627776 := by
  have h8 := (treeI_le t h).1
  simp only [treeI, Bool.and_eq_true, decide_eq_true_eq, List.all_eq_true, List.mem_range] at h
  refine ⟨h8, fun f hf q hq => ?_⟩
  obtain ⟨i, hi, rfl⟩ := List.getElem_of_mem hf
  have h1 := (h.2 i hi).1
  simp only [headI, textB, List.getD_eq_getElem?_getD, List.getElem?_eq_getElem hi, Option.getD_some, Bool.and_eq_true, List.all_eq_true, decide_eq_true_eq] at h1
  have h2 := h1.1.1.2 q hq
  simp only [lineB, Bool.and_eq_true, decide_eq_true_eq] at h2
  omega

end Vx
end Go.Proofs.YtnanellmaelipaaGreatDoor
/-
  Contracts: lists of truths; ancestors (the program's).
-/
namespace Go.Proofs.YtnanellmaelipaaGreatDoor
namespace Vx
open Go.RowKit
set_option maxRecDepth 8000

--TAB tTabB
def tTabB : List (Nat × TI) := (108, ⟨false, [.sl 4 1], 24, [], 4⟩) :: tTab
theorem tTabB_ok : ∀ t ti, get? tTabB t = some ti → TOk Tryz.prog t ti := tabChk_ok (by kernel_rfl)

def eBool (b : Bool) : List D := [.bool b]
@[simp] theorem eBool_inj (a b : Bool) : (eBool a = eBool b) = (a = b) := by simp -implicitDefEqProofs [eBool]
def eBools (l : List Bool) : List (List D) := l.map eBool
@[simp] theorem eBools_length (l : List Bool) : (eBools l).length = l.length := by simp -implicitDefEqProofs [eBools]
@[simp] theorem eBools_nil : eBools [] = [] := rfl
@[simp] theorem eBools_get (l : List Bool) (i : Nat) : (eBools l)[i]? = l[i]?.map eBool := by simp -implicitDefEqProofs [eBools]
@[simp] theorem eBools_getElem (l : List Bool) (i : Nat) (h : i < (eBools l).length) : (eBools l)[i] = eBool (l[i]'(by simpa using h)) := by simp -implicitDefEqProofs [eBools]
@[simp] theorem eBools_inj (a b : List Bool) : (eBools a = eBools b) = (a = b) := by
  apply propext
  constructor
  · intro h
    exact List.map_inj_right (fun x y h => by simpa using h) |>.1 h
  · rintro rfl; rfl
@[simp] theorem eBools_eq_nil (a : List Bool) : (eBools a = []) = (a = []) := by simp -implicitDefEqProofs [eBools]
@[simp] theorem nil_eq_eBools (a : List Bool) : ([] = eBools a) = (a = []) := by simp -implicitDefEqProofs [eBools, eq_comm]
theorem eBools_append (a b : List Bool) : eBools (a ++ b) = eBools a ++ eBools b := by simp -implicitDefEqProofs [eBools]
theorem eBools_take (l : List Bool) (i : Nat) : (eBools l).take i = eBools (l.take i) := by simp -implicitDefEqProofs [eBools]
theorem eBools_drop (l : List Bool) (i : Nat) : (eBools l).drop i = eBools (l.drop i) := by simp -implicitDefEqProofs [eBools]
theorem eBools_snoc (a : List Bool) (b : Bool) : eBools a ++ [[.bool b]] = eBools (a ++ [b]) := by simp -implicitDefEqProofs [eBools, eBool]
theorem eBools_set (l : List Bool) (i : Nat) (b : Bool) : (eBools l).set i [.bool b] = eBools (l.set i b) := by simp -implicitDefEqProofs [eBools, List.map_set, eBool]
theorem eBools_rep (n : Nat) (b : Bool) : List.replicate n [D.bool b] = eBools (List.replicate n b) := by simp -implicitDefEqProofs [eBools, eBool]
abbrev ownBools (h : Nat) (a : List Bool) : List (Nat × Blk) := [(h, .own 4 1 true (eBools a))]

def isT (l : List Bool) (i : Nat) : Bool := l.getD i false
def listF (l : List Bool) (i : Nat) : List Int := ((List.range i).filter (isT l)).map fun j : Nat => (j : Int)
theorem listF_hit {l : List Bool} {i : Nat} (h : isT l i = true) : listF l (i + 1) = listF l i ++ [(i : Int)] := by simp -implicitDefEqProofs [listF, List.range_succ, h]
theorem listF_miss {l : List Bool} {i : Nat} (h : isT l i = false) : listF l (i + 1) = listF l i := by simp -implicitDefEqProofs [listF, List.range_succ, h]
theorem listF_len (l : List Bool) (i : Nat) : (listF l i).length ≤ i := by
  have := List.length_filter_le (isT l) (List.range i)
  simpa [listF] using this
def listT (l : List Bool) : List Int := listF l l.length
theorem listT_mem {l : List Bool} {x : Int} : x ∈ listT l ↔ ∃ i : Nat, i < l.length ∧ isT l i = true ∧ x = i := by
  simp only [listT, listF, List.mem_map, List.mem_filter, List.mem_range]
  constructor
  · rintro ⟨i, ⟨h1, h2⟩, rfl⟩; exact ⟨i, h1, h2, rfl⟩
  · rintro ⟨i, h1, h2, rfl⟩; exact ⟨i, ⟨h1, h2⟩, rfl⟩

def cL8Has : Con := .fn 18 (List Int × Int) (fun a => [.sl true 1 (eInts a.1), .int .i64 a.2]) (fun _ => True) (fun a => .bool (decide (a.2 ∈ a.1))) (fun _ => [])
set_option maxHeartbeats 4000000 in
theorem l8Has_has : Has Tryz.prog 86 cL8Has := by
  refine has_walk mixed tTabB_ok (l := []) HasL.nil [0, 1, 4, 5] ((fun a n (_ : Nat) => (fun a _ => ⟨Nat, fun i => ⟨[(0, true, .sl true 1 (eInts a.1)), (1, true, .int .i64 a.2), (4, true, .bool false), (5, true, .int .i64 i)], []⟩, fun i => i ≤ a.1.length ∧ ∀ x, x ∈ a.1.take i → x ≠ a.2, fun i => a.1.length - i⟩) a n)) [] Tryz.func86 (by kernel_rfl) (code := _) (by unfold Tryz.f86; rfl) (by kernel_rfl) (by decide) (fun _ => ⟨(), trivial⟩) (by intro h; first | exact fun _ => rfl | cases h) (by kernel_rfl) ?_
  intro a _
  obtain ⟨l, n⟩ := a
  simp -implicitDefEqProofs [cL8Has, Con.fn, tTabB, tTab]
  try dsimp only
  refine fun i hi hb _ => ⟨fun hlt => ?_, fun hge => ?_⟩
  · simp -implicitDefEqProofs [hlt, eInt, D.asInt, and_assoc]
    refine ⟨fun h => by rw [← h]; exact List.getElem_mem hlt, fun h => ⟨by omega, by omega, fun _ _ => ⟨i + 1, by omega, by omega, fun x hx => ?_, by omega⟩⟩⟩
    rw [take_succ' hlt] at hx
    rcases List.mem_append.1 hx with h1 | h1
    · exact hb x h1
    · simp only [List.mem_singleton] at h1
      subst h1; exact h
  · rw [List.take_of_length_le hge] at hb
    exact fun h => hb n h rfl

def putT (l : List Bool) (ps : List Int) : List Bool := ps.foldl (fun l p => l.set p.toNat true) l
theorem putT_len (ps : List Int) : ∀ l : List Bool, (putT l ps).length = l.length := by
  induction ps with
  | nil => intro l; rfl
  | cons p r ih => intro l; show (putT (l.set p.toNat true) r).length = _; rw [ih]; simp
def stepA (r : RepoD) (l : List Bool) (i : Nat) : List Bool := if isT l i then putT l (r.commits.getD i default).parents else l
def ancF (r : RepoD) : Nat → List Bool → List Bool
  | 0, l => l
  | n + 1, l => ancF r n (stepA r l n)
def anc (r : RepoD) (a : Int) : List Bool := ancF r (a + 1).toNat ((List.replicate r.commits.length false).set a.toNat true)
theorem ancF_len (r : RepoD) : ∀ (n : Nat) (l : List Bool), (ancF r n l).length = l.length
  | 0, _ => rfl
  | n + 1, l => by
    show (ancF r n (stepA r l n)).length = _
    rw [ancF_len r n]
    unfold stepA
    split
    · rw [putT_len]
    · rfl
theorem anc_len (r : RepoD) (a : Int) : (anc r a).length = r.commits.length := by unfold anc; rw [ancF_len]; simp

def anO (r : RepoD) (a : Int) : Inv := ⟨List Bool × Int, fun t => ⟨[(2, true, .ptr 10 0), (4, true, .nil), (5, true, .own 9 1 (eBools t.1)), (6, true, .int .i64 t.2)], [(10, bRepo r), (9, .own 4 1 true (eBools t.1))]⟩, fun t => t.1.length = r.commits.length ∧ -1 ≤ t.2 ∧ t.2 < r.commits.length ∧ ancF r (t.2 + 1).toNat t.1 = anc r a, fun t => (t.2 + 1).toNat⟩
def anI (r : RepoD) (a : Int) (g : Nat) : Inv := ⟨List Bool × Nat, fun t => ⟨[(2, true, .ptr 10 0), (4, true, .nil), (5, true, .own 9 1 (eBools t.1)), (6, true, .int .i64 g), (30, true, .sl true 1 (eInts (r.commits.getD g default).parents)), (31, true, .int .i64 (r.commits.getD g default).parents.length), (32, true, .int .i64 t.2)], [(10, bRepo r), (9, .own 4 1 true (eBools t.1))]⟩, fun t => t.1.length = r.commits.length ∧ g < r.commits.length ∧ t.2 ≤ (r.commits.getD g default).parents.length ∧ ancF r g (putT t.1 ((r.commits.getD g default).parents.drop t.2)) = anc r a, fun t => (r.commits.getD g default).parents.length - t.2⟩
def anInv (r : RepoD) (a : Int) (n g : Nat) : Inv := if n = 4 then anO r a else anI r a g
theorem anInv_4 (r : RepoD) (a : Int) (g : Nat) : anInv r a 4 g = anO r a := rfl
theorem anInv_8 (r : RepoD) (a : Int) (g : Nat) : anInv r a 8 g = anI r a g := rfl
end Vx
end Go.Proofs.YtnanellmaelipaaGreatDoor
/-
  Contracts: what is new since other commits (the program's); the nearest mark (the program's).
-/
namespace Go.Proofs.YtnanellmaelipaaGreatDoor
namespace Vx
open Go.RowKit
set_option maxRecDepth 8000
--TAB tTabB

def clrT (l : List Bool) (ps : List Int) : List Bool := ps.foldl (fun l p => l.set p.toNat false) l
theorem clrT_len (ps : List Int) : ∀ l : List Bool, (clrT l ps).length = l.length := by
  induction ps with
  | nil => intro l; rfl
  | cons p r ih => intro l; show (clrT (l.set p.toNat false) r).length = _; rw [ih]; simp
def sinStep (r : RepoD) (l : List Bool) (o : Int) : List Bool := clrT l (listT (anc r o))
def sinL (r : RepoD) (a : Int) (os : List Int) : List Bool := os.foldl (sinStep r) (anc r a)

def snO (r : RepoD) (a : Int) (os : List Int) : Inv := ⟨List Bool × Nat, fun t => ⟨[(3, true, .ptr 10 0), (6, true, .nil), (7, true, .own 9 1 (eBools t.1)), (15, true, .sl true 1 (eInts os)), (16, true, .int .i64 os.length), (17, true, .int .i64 t.2)], [(10, bRepo r), (9, .own 4 1 true (eBools t.1))]⟩, fun t => t.1.length = r.commits.length ∧ t.2 ≤ os.length ∧ (os.drop t.2).foldl (sinStep r) t.1 = sinL r a os, fun t => os.length - t.2⟩
def snI (r : RepoD) (a : Int) (os : List Int) (g : Nat) : Inv := ⟨List Bool × Nat, fun t => ⟨[(3, true, .ptr 10 0), (6, true, .nil), (7, true, .own 9 1 (eBools t.1)), (15, true, .sl true 1 (eInts os)), (16, true, .int .i64 os.length), (17, true, .int .i64 g), (24, true, .own 11 1 (eInts (listT (anc r (os.getD g 0))))), (25, true, .int .i64 (listT (anc r (os.getD g 0))).length), (26, true, .int .i64 t.2)], [(10, bRepo r), (9, .own 4 1 true (eBools t.1)), (11, .own 3 1 true (eInts (listT (anc r (os.getD g 0)))))]⟩, fun t => t.1.length = r.commits.length ∧ g < os.length ∧ t.2 ≤ (listT (anc r (os.getD g 0))).length ∧ (os.drop (g + 1)).foldl (sinStep r) (clrT t.1 ((listT (anc r (os.getD g 0))).drop t.2)) = sinL r a os, fun t => (listT (anc r (os.getD g 0))).length - t.2⟩
def snInv (r : RepoD) (a : Int) (os : List Int) (n g : Nat) : Inv := if n = 3 then snO r a os else snI r a os g
theorem snInv_3 (r : RepoD) (a : Int) (os : List Int) (g : Nat) : snInv r a os 3 g = snO r a os := rfl
theorem snInv_6 (r : RepoD) (a : Int) (os : List Int) (g : Nat) : snInv r a os 6 g = snI r a os g := rfl
def nearStep (r : RepoD) (a : Int) (s : Str × Int) (h : HeadD) : Str × Int := if isT (anc r a) h.at_.toNat then (if s.2 < 0 ∨ ((listT (sinL r a [h.at_])).length : Int) < s.2 then (h.name, (listT (sinL r a [h.at_])).length) else s) else s
def nearF (r : RepoD) (m : List HeadD) (a : Int) (i : Nat) : Str × Int := (m.take i).foldl (nearStep r a) ([], -1)
def nearI (r : RepoD) (m : List HeadD) (a : Int) : Str × Int := if marksI (r, m) && (decide (0 ≤ a) && decide (a ≤ (r.commits.length : Int) - 1)) then nearF r m a m.length else ([], -1)
end Vx
end Go.Proofs.YtnanellmaelipaaGreatDoor
/-
  Contracts: the reference's lists of ancestors; its MarkNear.
-/
namespace Go.Proofs.YtnanellmaelipaaGreatDoor
namespace Vx
open Go.RowKit
set_option maxRecDepth 8000
--TAB tTabB

theorem isT_set_ne {l : List Bool} {p g : Nat} (b : Bool) (h : p ≠ g) : isT (l.set p b) g = isT l g := by
  unfold isT
  rw [List.getD_eq_getElem?_getD, List.getD_eq_getElem?_getD, List.getElem?_set_ne h]
def alO (r : RepoD) (a : Int) : Inv := ⟨List Bool × Int, fun t => ⟨[(2, true, .ptr 10 0), (4, true, .nil), (5, true, .own 9 1 (eBools t.1)), (6, true, .int .i64 t.2)], [(10, bRepo r), (9, .own 4 1 true (eBools t.1))]⟩, fun t => t.1.length = r.commits.length ∧ -1 ≤ t.2 ∧ t.2 < r.commits.length ∧ ancF r (t.2 + 1).toNat t.1 = anc r a, fun t => (t.2 + 1).toNat⟩
def alI (r : RepoD) (a : Int) (g : Nat) : Inv := ⟨List Bool × Nat, fun t => ⟨[(2, true, .ptr 10 0), (4, true, .nil), (5, true, .own 9 1 (eBools t.1)), (6, true, .int .i64 g), (7, true, .int .i64 t.2)], [(10, bRepo r), (9, .own 4 1 true (eBools t.1))]⟩, fun t => t.1.length = r.commits.length ∧ g < r.commits.length ∧ t.2 ≤ (r.commits.getD g default).parents.length ∧ (isT t.1 g = true → ancF r g (putT t.1 ((r.commits.getD g default).parents.drop t.2)) = anc r a) ∧ (isT t.1 g = false → ancF r g t.1 = anc r a), fun t => (r.commits.getD g default).parents.length - t.2⟩
def alT (r : RepoD) (a : Int) : Inv := ⟨Nat, fun i => ⟨[(2, true, .ptr 10 0), (4, true, .nil), (5, true, .own 9 1 (eBools (anc r a))), (8, true, .own 11 1 (eInts (listF (anc r a) i))), (9, true, .int .i64 i)], [(10, bRepo r), (9, .own 4 1 true (eBools (anc r a))), (11, .own 3 1 true (eInts (listF (anc r a) i)))]⟩, fun i => i ≤ r.commits.length, fun i => r.commits.length - i⟩
def alInv (r : RepoD) (a : Int) (n g : Nat) : Inv := if n = 4 then alO r a else if n = 7 then alI r a g else alT r a
theorem alInv_4 (r : RepoD) (a : Int) (g : Nat) : alInv r a 4 g = alO r a := rfl
theorem alInv_7 (r : RepoD) (a : Int) (g : Nat) : alInv r a 7 g = alI r a g := rfl
theorem alInv_12 (r : RepoD) (a : Int) (g : Nat) : alInv r a 12 g = alT r a := rfl
def cL8All : Con := .fn 66 (RepoD × Int) (fun a => [vRepo a.1, .int .i64 a.2]) (fun a => repoI a.1 = true ∧ 0 ≤ a.2 ∧ a.2 < a.1.commits.length) (fun a => .own 8 1 (eInts (listT (anc a.1 a.2)))) (fun a => ownInts 8 (listT (anc a.1 a.2)))
set_option maxHeartbeats 4000000 in
theorem l8All_has : Has Tryz.prog 87 cL8All := by
  refine has_walk mixed tTabB_ok (l := []) HasL.nil [0, 1, 2, 4, 5, 6, 7, 8, 9] (fun a => alInv a.1 a.2) [] Tryz.func87 (by kernel_rfl) (code := _) (by unfold Tryz.f87; rfl) (by kernel_rfl) (by decide) (fun _ => ⟨(), trivial⟩) (by intro h; first | exact fun _ => rfl | cases h) (by kernel_rfl) ?_
  intro a ha
  obtain ⟨r, n⟩ := a
  obtain ⟨h1, h2, h3⟩ : repoI r = true ∧ 0 ≤ n ∧ n < r.commits.length := ha
  have h4 := repo_n h1
  simp -implicitDefEqProofs [cL8All, Con.fn, tTabB, tTab, alInv_4, alInv_7, alInv_12, alO, alI, alT, bRepo_def]
  try dsimp only
  simp only [and_assoc, exists_eq_left, exists_and_left, RepoD.ex1, RepoD.eta]
  have hal := anc_len r n
  refine fun _ => ⟨by omega, fun _ => ⟨h2, h3, fun _ _ => ⟨by omega, ⟨(List.replicate r.commits.length false).set n.toNat true, by rw [eBools_rep]; exact (eBools_set _ _ _).symm, by rw [eBools_rep]; exact eBools_set _ _ _, by simp, by omega, h3, rfl⟩, fun l b g1 g2 g3 g4 => ⟨fun hb => ⟨b.toNat, ?_⟩, fun hb => ?_⟩⟩⟩⟩
  · have hb1 : b.toNat < l.length := by omega
    have hb2 : b.toNat < r.commits.length := by omega
    obtain ⟨p1, p2, _⟩ := repo_use h1 hb2
    have hgd : r.commits.getD b.toNat default = r.commits[b.toNat] := by simp -implicitDefEqProofs [List.getD_eq_getElem?_getD, hb2]
    have hgo : r.commits[b.toNat]?.getD default = r.commits[b.toNat] := by simp -implicitDefEqProofs [hb2]
    rw [show (b + 1).toNat = b.toNat + 1 by omega] at g4
    have g5 : ancF r b.toNat (stepA r l b.toNat) = anc r n := g4
    unfold stepA at g5
    rw [hgd] at g5
    have e3 : Option.map eCommit r.commits[b.toNat]? = some (eCommit r.commits[b.toNat]) := by simp -implicitDefEqProofs [hb2]
    rw [hgo, e3]
    generalize r.commits[b.toNat] = c at *
    refine ⟨by omega, trivial, g1, hb2, Nat.zero_le _, fun h => ?_, fun h => ?_, fun m k m1 m2 m3 m4 m5 => ⟨hb2, fun _ => ?_⟩⟩
    · rw [if_pos h] at g5; exact g5
    · rw [if_neg (by rw [h]; simp)] at g5; exact g5
    · have hbm : b.toNat < m.length := by omega
      have hT : isT m b.toNat = m[b.toNat] := by simp -implicitDefEqProofs [isT, List.getD_eq_getElem?_getD, hbm]
      have e4 : Option.map eBool m[b.toNat]? = some (eBool m[b.toNat]) := by simp -implicitDefEqProofs [hbm]
      have hmx : max b 0 = b := Int.max_eq_left hb
      simp -implicitDefEqProofs [eCommit, D.asRows, e4, eBool, hbm, hb2, hmx]
      refine fun _ => ⟨fun hl2 => ⟨fun hm => ⟨hl2, fun _ => ?_⟩, fun hm => ⟨by omega, by omega, fun _ _ => ⟨m1, by omega, by omega, m5 (hT.trans hm), by omega⟩⟩⟩, fun hge => ⟨by omega, by omega, fun _ _ => ⟨m1, by omega, by omega, ?_, by omega⟩⟩⟩
      · have hp := p2 c.parents[k] (List.getElem_mem hl2)
        have qt : Option.map eInt c.parents[k]? = some (eInt c.parents[k]) := by simp -implicitDefEqProofs [List.getElem?_eq_getElem hl2]
        simp -implicitDefEqProofs [qt, eInt, D.asInt]
        have hst : isT (m.set c.parents[k].toNat true) b.toNat = true := by rw [isT_set_ne _ (by omega)]; exact hT.trans hm
        refine ⟨hp.1, by omega, fun _ _ => ⟨by omega, by omega, by omega, fun _ _ => ⟨m.set c.parents[k].toNat true, (eBools_set _ _ _).symm, k + 1, by omega, eBools_set _ _ _, by simp -implicitDefEqProofs [m1], by omega, fun _ => ?_, fun h => ?_, by omega⟩⟩⟩
        · have := m4 (hT.trans hm)
          rw [List.drop_eq_getElem_cons hl2] at this
          exact this
        · rw [hst] at h; cases h
      · cases hm : m[b.toNat] with
        | true =>
          have := m4 (hT.trans hm)
          rw [List.drop_eq_nil_of_le hge] at this
          exact this
        | false => exact m5 (hT.trans hm)
  · rw [show (b + 1).toNat = 0 by omega] at g4
    have g5 : l = anc r n := g4
    refine ⟨g5.symm, ⟨0, rfl, rfl, g5, rfl, Nat.zero_le _⟩, fun i hi _ => ⟨fun hlt => ?_, fun hge => ?_⟩⟩
    · have hl := listF_len (anc r n) i
      have hi : isT (anc r n) i = (anc r n)[i] := by simp -implicitDefEqProofs [isT, List.getD_eq_getElem?_getD, hlt]
      rw [hal] at hlt
      simp -implicitDefEqProofs [hal, hlt, eBool, D.asBool, and_assoc]
      refine ⟨fun h => ?_, fun h => ?_⟩
      · have e := listF_hit (hi.trans h)
        exact ⟨by omega, by omega, by omega, by omega, fun _ _ => ⟨i + 1, by rw [e]; simp -implicitDefEqProofs [eInts, eInt], by omega, by rw [e]; simp -implicitDefEqProofs [eInts, eInt], by omega, by omega⟩⟩
      · have e := listF_miss (hi.trans h)
        exact ⟨by omega, by omega, fun _ _ => ⟨i + 1, e, by omega, e.symm, by omega, by omega⟩⟩
    · rw [hal] at hge
      have : i = r.commits.length := by omega
      subst this
      unfold listT
      rw [hal]
      exact ⟨rfl, rfl⟩

def newF (X Y : List Int) (i : Nat) : List Int := (Y.take i).filter fun x => !decide (x ∈ X)
theorem newF_len (X Y : List Int) (i : Nat) : (newF X Y i).length ≤ Y.length := by
  unfold newF
  exact Nat.le_trans (List.length_filter_le _ _) (by simp; omega)
def newL (r : RepoD) (a b : Int) : List Int := if repoI r && inN r.commits.length a && inN r.commits.length b then newF (listT (anc r a)) (listT (anc r b)) (listT (anc r b)).length else []
def nearStepS (r : RepoD) (a : Int) (s : Str × Int) (h : HeadD) : Str × Int := if decide (h.at_ ∈ listT (anc r a)) && (decide (s.2 < 0) || decide (((newL r h.at_ a).length : Int) < s.2)) then (h.name, (newL r h.at_ a).length) else s
def nearFS (r : RepoD) (m : List HeadD) (a : Int) (i : Nat) : Str × Int := (m.take i).foldl (nearStepS r a) ([], -1)
def nearS (r : RepoD) (m : List HeadD) (a : Int) : Str × Int := if marksI (r, m) && (decide (0 ≤ a) && decide (a ≤ (r.commits.length : Int) - 1)) then nearFS r m a m.length else ([], -1)
end Vx
end Go.Proofs.YtnanellmaelipaaGreatDoor
/-
  Contracts: copies of repositories.
-/
namespace Go.Proofs.YtnanellmaelipaaGreatDoor
namespace Vx
open Go.RowKit

def cmSz (c : CommitD) : Prop := c.parents.length ≤ 1048576 ∧ c.tree.length ≤ 1048576 ∧ ∀ g ∈ c.tree, g.text.length ≤ 1048576
def rpSz (r : RepoD) : Prop := r.commits.length ≤ 1048576 ∧ (∀ c ∈ r.commits, cmSz c) ∧ r.heads.length ≤ 1048576
end Vx
end Go.Proofs.YtnanellmaelipaaGreatDoor
