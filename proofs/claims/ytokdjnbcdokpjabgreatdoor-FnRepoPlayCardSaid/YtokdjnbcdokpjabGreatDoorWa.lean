/-
  Joined by program (merge.py): Base, RowK, Rep, Ea, RowY, RowG, Ca, Cb, Cc, Ce, Cd, Cf, Cg, Ch, Ci, Cj, Lib, Ck, Cl, Pa, Cm, LawA, Cn, Co, Cp, Cq, Cr, Cs, Ct, Ec, Eb, Ef, Cu, Dd, De, La, Lf, Lg, Ma, Df, Ha, Ia, Ib, Ic, Db, Lb, Lc, Ld, Ed, Mb, Na, Da, Dc, Dg, Id, Vw, Oa, Ta. It shows what the single texts show; conditions: none but those of each lemma.
-/
import Derived.Test.YtokdjnbcdokpjabGreatDoorVc
import Derived.Test.YtokdjnbcdokpjabGreatDoorProg
import Derived.KernelRfl
import Derived.Test.YtokdjnbcdokpjabGreatDoorRows
import Derived.Test.YtokdjnbcdokpjabGreatDoorCards
import Derived.Test.YtokdjnbcdokpjabGreatDoorTie
import Derived.ProofKit
import Derived.OpenShut
import Derived.ShutString
import Derived.Lay
import Derived.LaidMore
import Derived.SevenTiedAt
import Derived.Lib.Walk
import Derived.Lib.Strings
import Derived.Lib.Bytealg
import Derived.Handy
set_option linter.unusedVariables false
set_option linter.unusedSimpArgs false
set_option linter.unusedSectionVars false
namespace Go.Proofs.YtokdjnbcdokpjabGreatDoor
open Vx
namespace Vx
def tTab : List (Nat × TI) := [
(3, ⟨false, [.int .i64], 8, [], 0⟩),
(4, ⟨false, [.bool], 1, [], 0⟩),
(9, ⟨false, [.str], 16, [], 0⟩),
(26, ⟨false, [.sl 9 1], 24, [], 9⟩),
(44, ⟨false, [.sl 5 1], 24, [], 5⟩),
(186, ⟨true, [.str, .sl 9 1], 40, [(9, 0), (26, 1)], 0⟩),
(66, ⟨true, [.str, .sl 9 1], 40, [(9, 0), (26, 1)], 0⟩),
(124, ⟨false, [.sl 186 2], 24, [], 186⟩),
(61, ⟨false, [.sl 66 2], 24, [], 66⟩),
(33, ⟨false, [.sl 3 1], 24, [], 3⟩),
(128, ⟨true, [.str, .int .i64], 24, [(9, 0), (3, 1)], 1⟩),
(69, ⟨true, [.str, .int .i64], 24, [(9, 0), (3, 1)], 1⟩),
(23, ⟨false, [.sl 128 2], 24, [], 128⟩),
(30, ⟨false, [.sl 69 2], 24, [], 69⟩),
(126, ⟨true, [.sl 3 1, .str, .sl 186 2], 64, [(33, 0), (9, 1), (124, 2)], 0⟩),
(102, ⟨true, [.sl 3 1, .str, .sl 66 2], 64, [(33, 0), (9, 1), (61, 2)], 0⟩),
(22, ⟨false, [.sl 126 3], 24, [], 126⟩),
(29, ⟨false, [.sl 102 3], 24, [], 102⟩),
(25, ⟨true, [.sl 126 3, .sl 128 2], 48, [(22, 0), (23, 1)], 0⟩),
(32, ⟨true, [.sl 102 3, .sl 69 2], 48, [(29, 0), (30, 1)], 0⟩),
(140, ⟨true, [.sl 5 1, .int .i64], 32, [(44, 0), (3, 1)], 0⟩),
(58, ⟨true, [.int .i64, .str, .str, .str, .str, .int .i64, .sl 9 1], 104, [(3, 0), (9, 1), (9, 2), (9, 3), (9, 4), (3, 5), (26, 6)], 0⟩),
(53, ⟨false, [.sl 58 7], 24, [], 58⟩),
(76, ⟨true, [.int .i64, .str, .str, .str, .str, .int .i64, .sl 9 1], 104, [(3, 0), (9, 1), (9, 2), (9, 3), (9, 4), (3, 5), (26, 6)], 0⟩),
(70, ⟨false, [.sl 76 7], 24, [], 76⟩),
(188, ⟨true, [.str, .int .i64], 24, [(9, 0), (3, 1)], 1⟩),
(156, ⟨false, [.sl 188 2], 24, [], 188⟩),
(229, ⟨true, [.bool, .sl 9 1, .sl 9 1, .sl 9 1, .sl 9 1], 104, [(4, 0), (26, 1), (26, 2), (26, 3), (26, 4)], 0⟩),
(223, ⟨false, [.sl 229 5], 24, [], 229⟩),
(252, ⟨false, [.sl 33 1], 24, [], 33⟩),
 (5, ⟨false, [.int .u8], 1, [], 0⟩)]
theorem a0g : ∀ t ti, get? tTab t = some ti -> TOk Tryz.prog t ti := b0u (by kernel_rfl)
theorem mixed : Tryz.prog.follows .mixedOrders = true := by kernel_rfl
def a0s : Nat -> Inv := fun _ => ⟨Unit, fun _ => ⟨[], []⟩, fun _ => True, fun _ => 0⟩
theorem c8P {α : Type} (f : Nat -> α) (d : Nat) (v : α) (h : Nat) : upd f d v h = if h = d then v else f h := rfl
def c7s (e : Nat -> Option (Bool × AV)) (m : Nat -> Option Blk) : Nat -> Option (Bool × AV) := fun t => (e t).map fun p => (p.1, p.2.wipe m)
def c7t (m : Nat -> Option Blk) : Nat -> Option Blk := fun h => (m h).map (Blk.wipe m)
theorem c8W (s : St) (m : Nat -> Option Blk) : s.wipe m = ⟨c7s s.e m, c7t m⟩ := rfl
theorem c4B (e : Nat -> Option (Bool × AV)) (m : Nat -> Option Blk) (t : Nat) : c7s e m t = (e t).map fun p => (p.1, p.2.wipe m) := rfl
theorem c4C (m : Nat -> Option Blk) (h : Nat) : c7t m h = (m h).map (Blk.wipe m) := rfl
abbrev Str := List UInt8
def eStr (s : Str) : List D := [.str s]
def a0a (l : List Str) : List (List D) := l.map eStr
structure FileD where
 path : Str
 text : List Str
 deriving DecidableEq, Inhabited
def a0p (f : FileD) : List D := [.str f.path, .sl 9 1 (a0a f.text)]
def a0b (l : List FileD) : List (List D) := l.map a0p
@[simp] theorem eStrs_length (l : List Str) : (a0a l).length = l.length := by simp [a0a]
@[simp] theorem eStrs_nil : a0a [] = [] := rfl
@[simp] theorem eStrs_get (l : List Str) (i : Nat) : (a0a l)[i]? = l[i]?.map eStr := by simp [a0a]
@[simp] theorem eStrs_getElem (l : List Str) (i : Nat) (h : i < (a0a l).length) : (a0a l)[i] = eStr (l[i]'(by simpa using h)) := by simp [a0a]
@[simp] theorem eStr_inj (a b : Str) : (eStr a = eStr b) = (a = b) := by simp [eStr]
@[simp] theorem eStrs_inj (a b : List Str) : (a0a a = a0a b) = (a = b) := by
 apply propext
 constructor
 ·intro h
  exact List.map_inj_right (fun x y h => by simpa using h) |>.1 h
 ·rintro rfl; rfl
@[simp] theorem eStrs_eq_nil (a : List Str) : (a0a a = []) = (a = []) := by simp [a0a]
@[simp] theorem nil_eq_eStrs (a : List Str) : ([] = a0a a) = (a = []) := by simp [a0a, eq_comm]
theorem a0n (a b : List Str) : a0a (a ++ b) = a0a a ++ a0a b := by simp [a0a]
theorem a0z (a : List Str) (x : Str) : a0a a ++ [[.str x]] = a0a (a ++ [x]) := by simp [a0a, eStr]
theorem a0P (l : List Str) (i : Nat) (s : Str) : (a0a l).set i [.str s] = a0a (l.set i s) := by simp [a0a, List.map_set, eStr]
theorem a0w (l : List Str) (i : Nat) : (a0a l).take i = a0a (l.take i) := by simp [a0a]
theorem a0F (l : List Str) (i : Nat) : (a0a l).drop i = a0a (l.drop i) := by simp [a0a]
theorem a0L (n : Nat) : List.replicate n [D.str []] = a0a (List.replicate n []) := by simp [a0a, eStr]
@[simp] theorem eStrs_flat (l : List Str) : (∀ x ∈ a0a l, ∀ d ∈ x, a7n d) = True := by
 simp only [eq_iff_iff, iff_true]
 intro x hx d hd
 simp only [a0a, List.mem_map] at hx
 obtain ⟨s, _, rfl⟩ := hx
 simp only [eStr, List.mem_singleton] at hd
 subst hd
 trivial
@[simp] theorem eFiles_length (l : List FileD) : (a0b l).length = l.length := by simp [a0b]
@[simp] theorem eFiles_nil : a0b [] = [] := rfl
@[simp] theorem eFiles_get (l : List FileD) (i : Nat) : (a0b l)[i]? = l[i]?.map a0p := by simp [a0b]
@[simp] theorem eFiles_getElem (l : List FileD) (i : Nat) (h : i < (a0b l).length) : (a0b l)[i] = a0p (l[i]'(by simpa using h)) := by simp [a0b]
@[simp] theorem eFile_inj (a b : FileD) : (a0p a = a0p b) = (a = b) := by
 cases a; cases b; simp [a0p]
@[simp] theorem eFiles_inj (a b : List FileD) : (a0b a = a0b b) = (a = b) := by
 apply propext
 constructor
 ·intro h
  exact List.map_inj_right (fun x y h => by simpa using h) |>.1 h
 ·rintro rfl; rfl
@[simp] theorem eFiles_eq_nil (a : List FileD) : (a0b a = []) = (a = []) := by simp [a0b]
@[simp] theorem nil_eq_eFiles (a : List FileD) : ([] = a0b a) = (a = []) := by simp [a0b, eq_comm]
theorem a0v (a : List FileD) (p : Str) (t : List Str) : a0b a ++ [[.str p, .sl 9 1 (a0a t)]] = a0b (a ++ [⟨p, t⟩]) := by simp [a0b, a0p]
theorem a0q (a b : List FileD) : a0b (a ++ b) = a0b a ++ a0b b := by simp [a0b]
theorem a0D (l : List FileD) (i : Nat) : (a0b l).take i = a0b (l.take i) := by simp [a0b]
theorem a0C (l : List FileD) (i : Nat) : (a0b l).drop i = a0b (l.drop i) := by simp [a0b]
theorem a0y (l : List FileD) (i : Nat) (p : Str) (t : List Str) : (a0b l).set i [.str p, .sl 9 1 (a0a t)] = a0b (l.set i ⟨p, t⟩) := by simp [a0b, List.map_set, a0p]
theorem a0H (n : Nat) : List.replicate n [D.str [], .sl 9 1 []] = a0b (List.replicate n ⟨[], []⟩) := by simp [a0b, a0p]
@[simp] theorem FileD.eta (f : FileD) : (⟨f.path, f.text⟩ : FileD) = f := rfl
@[simp] theorem asStr_str (s : Str) : D.asStr (.str s) = s := rfl
@[simp] theorem asRows_sl (e k : Nat) (r : List (List D)) : D.asRows (.sl e k r) = r := rfl
@[simp] theorem asInt_int (k : IntKind) (n : Int) : D.asInt (.int k n) = n := rfl
@[simp] theorem asBool_bool (b : Bool) : D.asBool (.bool b) = b := rfl
theorem a0N (a b : Nat) : ((a : Int) = (b : Int) + 1) = (a = b + 1) := by apply propext; omega
theorem a0V (a b : Nat) : ((a : Int) = (b : Int)) = (a = b) := by apply propext; omega
theorem a0O (a : Nat) : ((a : Int) = 0) = (a = 0) := by apply propext; omega
theorem a0x {α : Type} {l : List α} {i : Nat} (h : i < l.length) : l.take (i + 1) = l.take i ++ [l[i]] := List.take_succ_eq_append_getElem h
@[simp] theorem getD_nat (l : Str) (i : Nat) (h : i < l.length) : l.getD i 0 = l[i] := by simp [List.getD_eq_getElem?_getD, h]
theorem a1b {α : Type} {l : List α} {p : α -> Bool} {i : Nat} (h : i < l.length) : (l.take (i + 1)).all p = ((l.take i).all p && p l[i]) := by
 rw [a0x h, List.all_append]; simp
theorem a6F {α : Type} {l r : List α} {i : Nat} (h1 : i < l.length) (h2 : i < r.length) (h : l.take i = r.take i) (he : l[i] = r[i]) : l.take (i + 1) = r.take (i + 1) := by
 rw [a0x h1, a0x h2, h, he]
theorem a9R {α : Type} {l r : List α} {i : Nat} (h0 : l.length = r.length) (h1 : l.length <= i) (h : l.take i = r.take i) : l = r := by
 rw [List.take_of_length_le h1, List.take_of_length_le (by omega)] at h
 exact h
theorem FileD.eq_iff (a b : FileD) : (a = b) = (a.path = b.path /\ a.text = b.text) := by
 cases a; cases b; simp
@[simp] theorem FileD.ex1 (p : Str) (x : List Str) (Q : FileD -> Prop) : (∃ a : FileD, a.path = p /\ a.text = x /\ Q a) = Q ⟨p, x⟩ := by
 apply propext
 constructor
 ·rintro ⟨⟨a, b⟩, rfl, rfl, h⟩; exact h
 ·intro h; exact ⟨⟨p, x⟩, rfl, rfl, h⟩
@[simp] theorem FileD.ex2 (p : Str) (x : List Str) (Q : FileD -> Prop) : (∃ a : FileD, (a.path = p /\ a.text = x) /\ Q a) = Q ⟨p, x⟩ := by
 apply propext
 constructor
 ·rintro ⟨⟨a, b⟩, ⟨rfl, rfl⟩, h⟩; exact h
 ·intro h; exact ⟨⟨p, x⟩, ⟨rfl, rfl⟩, h⟩
theorem c5b (a : Nat) : ((a : Int) = 1) = (a = 1) := by apply propext; omega
/- What unfolds a walk. -/
attribute [simp] c8U a2K c9x c8R c7b c8S c9w c4A c1Q c8T b8v c5G c3h b5p c0M b8s b6Z c3e c0Q c0P c3f c4z c1P c5F b2P c0V c6Z c4y c3g b8x c3n c3m b7a c3l flB ldMv subN a1F AV.sgl ldB btys a4d b1i b8w c7X b9P c2a b8d a2R c2b c4o b8Z c3k c0U AV.isSub c7v c5E c5I a3L b0t a2A b0U AV.stolen c2c c8Z b9R c4J c5H c3i c3j c0T c0W b8z b8A a8l b8u b8t c0O wk_T wk_n c8Y c9z c9y c9T c9U a0X a2d a2w calm a5e a3V b0C a6b b5M a8X pas4 b0P a2B a7T ren4 a2D m4 a4b a5B a3y apnd a4c a8k a6c b0i mvL AV.mv AV.base AV.moved kBld bldK wrK stK AV.selfOk AV.src TI.flat a5Y a8g St.val St.cond St.fn St.next St.set St.trim c8W c4B c4C a6J get? cGet c8P a4n a0T rm a4g Oper.hnd Sc.st a8e b0M a8U a0M a4h ldL ld1 a3r a3s a5O a6S a3X a3O a5K Out.of b0E a6L AV.rows AV.one AV.cells AV.deepOk AV.toD toDs a2O a2h a2T TK.zeroAV TK.zeroD byteOf inR Op.operands Call.operands a3l a7r a5y a6s a3x a5x pasV pasL pas1 a3C okHs a7p a5W a5o rho over a5G a5i a3W a2s a2V a3F a3c a3b m2 AV.wipe AV.wipeV AV.wipe1 Blk.wipe AV.hs AV.hs.hsL a5g Con.start2 Con.pk b5C fini b5O resA a2L Sc.from b0o renT renV b3k renL ren1 a8m b0p c7p clOf ldMk c1j actB setRow a8P a7n a0s c8I c6O b8y a4E AV.viewed AV.viewed1
end Vx
end Go.Proofs.YtokdjnbcdokpjabGreatDoor
namespace Go.Proofs.YtokdjnbcdokpjabGreatDoor
open Go.ChangeShapes Go.WideShapes Go.ChangeAt Go.RowKit
namespace Vx
theorem a6Z : ownKnob Tryz.prog.godebug = none := by kernel_rfl
theorem laidOut : laidOutB Tryz.prog = true := by kernel_rfl
theorem b9a : b5R tTab = true := by decide
section
variable {H : Type} {enc : TypeId × Value -> H} {W : World} {sp : Nat -> Bool} {held : Bool} {r : Reach} {base : Nat}
end
end Vx
end Go.Proofs.YtokdjnbcdokpjabGreatDoor
namespace Go.Proofs.YtokdjnbcdokpjabGreatDoor
namespace Vx
def eInt (n : Int) : List D := [.int .i64 n]
@[simp] theorem eInt_inj (a b : Int) : (eInt a = eInt b) = (a = b) := by simp [eInt]
def a0h (l : List Int) : List (List D) := l.map eInt
@[simp] theorem eInts_length (l : List Int) : (a0h l).length = l.length := by simp [a0h]
@[simp] theorem eInts_nil : a0h [] = [] := rfl
@[simp] theorem eInts_get (l : List Int) (i : Nat) : (a0h l)[i]? = l[i]?.map eInt := by simp [a0h]
@[simp] theorem eInts_getElem (l : List Int) (i : Nat) (h : i < (a0h l).length) : (a0h l)[i] = eInt (l[i]'(by simpa using h)) := by simp [a0h]
@[simp] theorem eInts_inj (a b : List Int) : (a0h a = a0h b) = (a = b) := by
 apply propext
 constructor
 ·intro h
  exact List.map_inj_right (fun x y h => by simpa using h) |>.1 h
 ·rintro rfl; rfl
@[simp] theorem eInts_eq_nil (a : List Int) : (a0h a = []) = (a = []) := by simp [a0h]
@[simp] theorem nil_eq_eInts (a : List Int) : ([] = a0h a) = (a = []) := by simp [a0h, eq_comm]
theorem b2F (a : List Int) (n : Int) : a0h a ++ [[.int .i64 n]] = a0h (a ++ [n]) := by simp [a0h, eInt]
@[simp] theorem eInts_flat (l : List Int) : (∀ x ∈ a0h l, ∀ d ∈ x, a7n d) = True := by
 simp only [eq_iff_iff, iff_true]
 intro x hx d hd
 simp only [a0h, List.mem_map] at hx
 obtain ⟨s, _, rfl⟩ := hx
 simp only [eInt, List.mem_singleton] at hd
 subst hd
 trivial
structure HeadD where
 name : Str
 at_ : Int
 deriving DecidableEq, Inhabited
def a1d (a : HeadD) : List D := [.str a.name, .int .i64 a.at_]
@[simp] theorem eHead_inj (a b : HeadD) : (a1d a = a1d b) = (a = b) := by
 cases a; cases b; simp [a1d]
@[simp] theorem HeadD.eta (a : HeadD) : (⟨a.name, a.at_⟩ : HeadD) = a := rfl
theorem HeadD.eq_iff (a b : HeadD) : (a = b) = (a.name = b.name /\ a.at_ = b.at_) := by
 cases a; cases b; simp
@[simp] theorem HeadD.ex1 (x_name : Str) (x_at_ : Int) (Q : HeadD -> Prop) : (∃ a : HeadD, a.name = x_name /\ a.at_ = x_at_ /\ Q a) = Q ⟨x_name, x_at_⟩ := by
 apply propext
 constructor
 ·rintro ⟨⟨_, _⟩, rfl, rfl, h⟩; exact h
 ·intro h; exact ⟨⟨x_name, x_at_⟩, rfl, rfl, h⟩
@[simp] theorem HeadD.ex2 (x_name : Str) (x_at_ : Int) (Q : HeadD -> Prop) : (∃ a : HeadD, (a.name = x_name /\ a.at_ = x_at_) /\ Q a) = Q ⟨x_name, x_at_⟩ := by
 apply propext
 constructor
 ·rintro ⟨⟨_, _⟩, ⟨rfl, rfl⟩, h⟩; exact h
 ·intro h; exact ⟨⟨x_name, x_at_⟩, ⟨rfl, rfl⟩, h⟩
@[simp] theorem HeadD.ex0 (x_name : Str) (x_at_ : Int) : (∃ a : HeadD, a.name = x_name /\ a.at_ = x_at_) = True := by
 simp only [eq_iff_iff, iff_true]
 exact ⟨⟨x_name, x_at_⟩, rfl, rfl⟩
def a0c (l : List HeadD) : List (List D) := l.map a1d
@[simp] theorem eHeads_length (l : List HeadD) : (a0c l).length = l.length := by simp [a0c]
@[simp] theorem eHeads_nil : a0c [] = [] := rfl
@[simp] theorem eHeads_get (l : List HeadD) (i : Nat) : (a0c l)[i]? = l[i]?.map a1d := by simp [a0c]
@[simp] theorem eHeads_getElem (l : List HeadD) (i : Nat) (h : i < (a0c l).length) : (a0c l)[i] = a1d (l[i]'(by simpa using h)) := by simp [a0c]
@[simp] theorem eHeads_inj (a b : List HeadD) : (a0c a = a0c b) = (a = b) := by
 apply propext
 constructor
 ·intro h
  exact List.map_inj_right (fun x y h => by simpa using h) |>.1 h
 ·rintro rfl; rfl
@[simp] theorem eHeads_eq_nil (a : List HeadD) : (a0c a = []) = (a = []) := by simp [a0c]
@[simp] theorem nil_eq_eHeads (a : List HeadD) : ([] = a0c a) = (a = []) := by simp [a0c, eq_comm]
theorem b1g (a : List HeadD) (s : Str) (n : Int) : a0c a ++ [[.str s, .int .i64 n]] = a0c (a ++ [⟨s, n⟩]) := by simp [a0c, a1d]
theorem b2E (l : List HeadD) (i : Nat) (s : Str) (n : Int) : (a0c l).set i [.str s, .int .i64 n] = a0c (l.set i ⟨s, n⟩) := by simp [a0c, List.map_set, a1d]
@[simp] theorem eHeads_flat (l : List HeadD) : (∀ x ∈ a0c l, ∀ d ∈ x, a7n d) = True := by
 simp only [eq_iff_iff, iff_true]
 intro x hx d hd
 simp only [a0c, List.mem_map] at hx
 obtain ⟨s, _, rfl⟩ := hx
 simp only [a1d, List.mem_cons, List.not_mem_nil, or_false] at hd
 rcases hd with rfl | rfl <;> trivial
structure CommitD where
 parents : List Int
 who : Str
 tree : List FileD
 deriving DecidableEq, Inhabited
def a0E (a : CommitD) : List D := [.sl 3 1 (a0h a.parents), .str a.who, .sl 66 2 (a0b a.tree)]
@[simp] theorem eCommit_inj (a b : CommitD) : (a0E a = a0E b) = (a = b) := by
 cases a; cases b; simp [a0E]
@[simp] theorem CommitD.eta (a : CommitD) : (⟨a.parents, a.who, a.tree⟩ : CommitD) = a := rfl
theorem CommitD.eq_iff (a b : CommitD) : (a = b) = (a.parents = b.parents /\ a.who = b.who /\ a.tree = b.tree) := by
 cases a; cases b; simp
@[simp] theorem CommitD.ex1 (x_parents : List Int) (x_who : Str) (x_tree : List FileD) (Q : CommitD -> Prop) : (∃ a : CommitD, a.parents = x_parents /\ a.who = x_who /\ a.tree = x_tree /\ Q a) = Q ⟨x_parents, x_who, x_tree⟩ := by
 apply propext
 constructor
 ·rintro ⟨⟨_, _, _⟩, rfl, rfl, rfl, h⟩; exact h
 ·intro h; exact ⟨⟨x_parents, x_who, x_tree⟩, rfl, rfl, rfl, h⟩
@[simp] theorem CommitD.ex2 (x_parents : List Int) (x_who : Str) (x_tree : List FileD) (Q : CommitD -> Prop) : (∃ a : CommitD, (a.parents = x_parents /\ a.who = x_who /\ a.tree = x_tree) /\ Q a) = Q ⟨x_parents, x_who, x_tree⟩ := by
 apply propext
 constructor
 ·rintro ⟨⟨_, _, _⟩, ⟨rfl, rfl, rfl⟩, h⟩; exact h
 ·intro h; exact ⟨⟨x_parents, x_who, x_tree⟩, ⟨rfl, rfl, rfl⟩, h⟩
@[simp] theorem CommitD.ex0 (x_parents : List Int) (x_who : Str) (x_tree : List FileD) : (∃ a : CommitD, a.parents = x_parents /\ a.who = x_who /\ a.tree = x_tree) = True := by
 simp only [eq_iff_iff, iff_true]
 exact ⟨⟨x_parents, x_who, x_tree⟩, rfl, rfl, rfl⟩
def a0e (l : List CommitD) : List (List D) := l.map a0E
@[simp] theorem eCommits_length (l : List CommitD) : (a0e l).length = l.length := by simp [a0e]
@[simp] theorem eCommits_nil : a0e [] = [] := rfl
@[simp] theorem eCommits_get (l : List CommitD) (i : Nat) : (a0e l)[i]? = l[i]?.map a0E := by simp [a0e]
@[simp] theorem eCommits_getElem (l : List CommitD) (i : Nat) (h : i < (a0e l).length) : (a0e l)[i] = a0E (l[i]'(by simpa using h)) := by simp [a0e]
@[simp] theorem eCommits_inj (a b : List CommitD) : (a0e a = a0e b) = (a = b) := by
 apply propext
 constructor
 ·intro h
  exact List.map_inj_right (fun x y h => by simpa using h) |>.1 h
 ·rintro rfl; rfl
@[simp] theorem eCommits_eq_nil (a : List CommitD) : (a0e a = []) = (a = []) := by simp [a0e]
@[simp] theorem nil_eq_eCommits (a : List CommitD) : ([] = a0e a) = (a = []) := by simp [a0e, eq_comm]
theorem a3d (a : List CommitD) (p : List Int) (w : Str) (t : List FileD) : a0e a ++ [[.sl 3 1 (a0h p), .str w, .sl 66 2 (a0b t)]] = a0e (a ++ [⟨p, w, t⟩]) := by simp [a0e, a0E]
structure RepoD where
 commits : List CommitD
 heads : List HeadD
 deriving DecidableEq, Inhabited
def c0w (a : RepoD) : List D := [.sl 102 3 (a0e a.commits), .sl 69 2 (a0c a.heads)]
@[simp] theorem eRepo_inj (a b : RepoD) : (c0w a = c0w b) = (a = b) := by
 cases a; cases b; simp [c0w]
@[simp] theorem RepoD.eta (a : RepoD) : (⟨a.commits, a.heads⟩ : RepoD) = a := rfl
theorem RepoD.eq_iff (a b : RepoD) : (a = b) = (a.commits = b.commits /\ a.heads = b.heads) := by
 cases a; cases b; simp
@[simp] theorem RepoD.ex1 (x_commits : List CommitD) (x_heads : List HeadD) (Q : RepoD -> Prop) : (∃ a : RepoD, a.commits = x_commits /\ a.heads = x_heads /\ Q a) = Q ⟨x_commits, x_heads⟩ := by
 apply propext
 constructor
 ·rintro ⟨⟨_, _⟩, rfl, rfl, h⟩; exact h
 ·intro h; exact ⟨⟨x_commits, x_heads⟩, rfl, rfl, h⟩
@[simp] theorem RepoD.ex2 (x_commits : List CommitD) (x_heads : List HeadD) (Q : RepoD -> Prop) : (∃ a : RepoD, (a.commits = x_commits /\ a.heads = x_heads) /\ Q a) = Q ⟨x_commits, x_heads⟩ := by
 apply propext
 constructor
 ·rintro ⟨⟨_, _⟩, ⟨rfl, rfl⟩, h⟩; exact h
 ·intro h; exact ⟨⟨x_commits, x_heads⟩, ⟨rfl, rfl⟩, h⟩
@[simp] theorem RepoD.ex0 (x_commits : List CommitD) (x_heads : List HeadD) : (∃ a : RepoD, a.commits = x_commits /\ a.heads = x_heads) = True := by
 simp only [eq_iff_iff, iff_true]
 exact ⟨⟨x_commits, x_heads⟩, rfl, rfl⟩
abbrev a0Y (r : RepoD) : AV := .agg [.sl true 3 (a0e r.commits), .sl true 2 (a0c r.heads)]
abbrev a4v (h : Nat) (a : List Int) : List (Nat × Blk) := [(h, .own 3 1 true (a0h a))]
abbrev a2e (h : Nat) (a : List HeadD) : List (Nat × Blk) := [(h, .own 69 2 true (a0c a))]
abbrev a1S (h : Nat) (a : List CommitD) : List (Nat × Blk) := [(h, .own 102 3 true (a0e a))]
end Vx
end Go.Proofs.YtokdjnbcdokpjabGreatDoor
namespace Go.Proofs.YtokdjnbcdokpjabGreatDoor
set_option maxHeartbeats 4000000
namespace Vx
open Go.RowKit
set_option maxRecDepth 8000
def a2x (b : UInt8) : List D := [.int .u8 b.toNat]
def a1g (s : Str) : List (List D) := s.map a2x
@[simp] theorem eBytes_length (l : Str) : (a1g l).length = l.length := by simp -implicitDefEqProofs [a1g]
@[simp] theorem eBytes_get (l : Str) (i : Nat) : (a1g l)[i]? = l[i]?.map a2x := by simp -implicitDefEqProofs [a1g]
theorem b8m (l : Str) (i : Nat) : (a1g l).take i = a1g (l.take i) := by simp -implicitDefEqProofs [a1g]
@[simp] theorem eByte_inj (a b : UInt8) : (a2x a = a2x b) = (a = b) := by
 simp only [a2x, List.cons.injEq, D.int.injEq, true_and, and_true, eq_iff_iff]
 constructor
 ·intro h; exact UInt8.toNat_inj.1 (by omega)
 ·rintro rfl; rfl
@[simp] theorem eBytes_inj (a b : Str) : (a1g a = a1g b) = (a = b) := by
 apply propext
 constructor
 ·intro h
  exact List.map_inj_right (fun x y h => by simpa using h) |>.1 h
 ·rintro rfl; rfl
@[simp] theorem eBytes_all (l : Str) (f : List D -> Bool) : (a1g l).all f = l.all fun b => f (a2x b) := by simp -implicitDefEqProofs [a1g, Function.comp_def]
theorem a2M (l : Str) : (l.all fun _ => true) = true := by simp
abbrev a3m (s : Str) (p : Int) : Blk := .box 140 [.sl true 1 (a1g s), .int .i64 p]
def a6M : Con := .fn 11 Str (fun s => [.sl true 1 (a1g s)]) (fun _ => True) (fun _ => .ptr 8 0) (fun s => [(8, a3m (s.take 2000) 0)])
theorem a7G : Has Tryz.prog 68 a6M := by
 refine a0d mixed a0g HasL.nil [0, 2] ((fun a n (_ : Nat) => (fun _ => a0s) a n)) [] Tryz.func68 (by unfold Tryz.f68; rfl) (fun _ => ⟨(), trivial⟩) ?_
 intro (s : Str) _
 simp -implicitDefEqProofs [a6M, Con.fn, tTab, b8m]
 exact fun _ => ⟨fun h => by omega, fun h => List.take_of_length_le (by omega)⟩
theorem c9C {a b : Int} (h1 : 0 <= a) (h2 : a < 4611686018427387904) (h3 : 0 <= b) (h4 : b < 4611686018427387904) : 0 <= a5R .xor .i64 a b := by
 unfold a5R
 simp only []
 rw [BitVec.toNat_xor, BitVec.toNat_ofInt, BitVec.toNat_ofInt]
 have e1 : (a % ((2 ^ (IntKind.i64).bits : Nat) : Int)).toNat < 2 ^ 62 := by
  have : a % ((2 ^ (IntKind.i64).bits : Nat) : Int) = a := Int.emod_eq_of_lt h1 (by show a < (((2 : Nat) ^ 64 : Nat) : Int); omega)
  rw [this]; omega
 have e2 : (b % ((2 ^ (IntKind.i64).bits : Nat) : Int)).toNat < 2 ^ 62 := by
  have : b % ((2 ^ (IntKind.i64).bits : Nat) : Int) = b := Int.emod_eq_of_lt h3 (by show b < (((2 : Nat) ^ 64 : Nat) : Int); omega)
  rw [this]; omega
 have e3 := Nat.xor_lt_two_pow e1 e2
 rw [a4P (by simp only [inR]; omega)]
 omega
def a6n : Con := { A := (Str × Int) × Int, X := Int, n := 99, args := fun a => [.ptr 0 0, .int .i64 a.2], boxes := fun a => [(0, 140, [.sl true 1 (a1g a.1.1), .int .i64 a.1.2])], pre := fun a => a.1.1.length <= 2000 /\ 0 <= a.1.2 /\ a.1.2 <= 1073741824 /\ a.2 <= 1073741824, post := fun a x => (a.2 < 1 -> x = 0) /\ (1 <= a.2 -> 0 <= x /\ x < a.2), res := fun _ x => .int .i64 x, fin := fun a _ => [(0, a3m a.1.1 (a.1.2 + 1))], nob := false }
theorem a4L : Has Tryz.prog 70 a6n := by
 refine a0d mixed a0g HasL.nil [0, 1, 4, 5, 6] ((fun a n (_ : Nat) => (fun _ => a0s) a n)) [] Tryz.func70 (by unfold Tryz.f70; rfl) (fun a => ⟨(0 : Int), fun _ => rfl, fun h => ⟨Int.le_refl 0, by omega⟩⟩) ?_
 intro a ha
 obtain ⟨⟨s, p⟩, n⟩ := a
 obtain ⟨h1, h2, h3, h4⟩ : s.length <= 2000 /\ 0 <= p /\ p <= 1073741824 /\ n <= 1073741824 := ha
 simp -implicitDefEqProofs [a6n, tTab]
 have e : ∀ q : Int, 0 <= q -> q < s.length -> ∃ b : Nat, b < 256 /\ Option.map a2x s[q.toNat]? = some [.int .u8 b] := fun q a b => by
  have hq : q.toNat < s.length := by omega
  exact ⟨s[q.toNat].toNat, s[q.toNat].toNat_lt, by simp -implicitDefEqProofs [List.getElem?_eq_getElem hq, a2x]⟩
 refine ⟨by omega, fun _ _ => ⟨fun a b => by omega, fun hn _ => ⟨fun _ _ => by omega, fun hs => ⟨by omega, fun _ _ _ => ⟨fun hp => ?_, fun hp => ?_⟩⟩⟩⟩⟩
 ·obtain ⟨b, hb, eb⟩ := e p h2 hp
  have t1 := Int.tmod_nonneg n (a := (b : Int)) (by omega)
  have t2 := Int.tmod_lt_of_pos (b : Int) (b := n) (by omega)
  simp -implicitDefEqProofs [eb]
  omega
 ·have hl : 0 < s.length := List.length_pos_iff.2 hs
  have hL : (0 : Int) < (s.length : Int) := by omega
  have t1 := Int.tmod_nonneg (s.length : Int) (a := p) h2
  have t2 := Int.tmod_lt_of_pos p hL
  have t3 := Int.tmod_nonneg (s.length : Int) (a := p * 7 + 3) (by omega)
  have t4 := Int.tmod_lt_of_pos (p * 7 + 3) hL
  have t5 := Int.tdiv_nonneg h2 (Int.le_of_lt hL)
  have t6 : p.tdiv (s.length : Int) <= p := by
   have := Int.natAbs_tdiv_le_natAbs p (s.length : Int)
   omega
  obtain ⟨b1, hb1, eb1⟩ := e _ t1 t2
  obtain ⟨b2, hb2, eb2⟩ := e _ t3 t4
  simp -implicitDefEqProofs [eb1, eb2]
  generalize p.tdiv (s.length : Int) = d at t5 t6 ⊢
  generalize p.tmod (s.length : Int) = m1 at t1 t2 ⊢
  generalize (p * 7 + 3).tmod (s.length : Int) = m2 at t3 t4 ⊢
  have t7 := Int.tdiv_nonneg (a := (b1 * 131 + b2 * 1117 + p * 29 + d * 53 : Int)) (b := 64) (by omega) (by omega)
  have t8 : (b1 * 131 + b2 * 1117 + p * 29 + d * 53 : Int).tdiv 64 <= b1 * 131 + b2 * 1117 + p * 29 + d * 53 := by
   have := Int.natAbs_tdiv_le_natAbs (b1 * 131 + b2 * 1117 + p * 29 + d * 53 : Int) 64
   omega
  have t9 := c9C (a := (b1 * 131 + b2 * 1117 + p * 29 + d * 53 : Int)) (b := (b1 * 131 + b2 * 1117 + p * 29 + d * 53 : Int).tdiv 64) (by omega) (by omega) (by omega) (by omega)
  generalize (b1 * 131 + b2 * 1117 + p * 29 + d * 53 : Int).tdiv 64 = y at t7 t8 t9 ⊢
  generalize a5R .xor .i64 (b1 * 131 + b2 * 1117 + p * 29 + d * 53 : Int) y = z at t9 ⊢
  have t10 := Int.tmod_nonneg n t9
  have t11 := Int.tmod_lt_of_pos z (b := n) (by omega)
  clear e eb1 eb2
  repeat' (first | intro _ | apply And.intro)
  all_goals first | omega | assumption | contradiction
theorem b4E {α : Type} {d : α} {l : List α} (h : l ≠ []) : l.headD d ∈ l := by
 cases l with
 | nil => exact absurd rfl h
 | cons x r => simp
def cOf : Con := { A := (Str × Int) × List Str, X := Str, n := 12, args := fun a => [.ptr 0 0, .sl true 1 (a0a a.2)], boxes := fun a => [(0, 140, [.sl true 1 (a1g a.1.1), .int .i64 a.1.2])], pre := fun a => a.1.1.length <= 2000 /\ 0 <= a.1.2 /\ a.1.2 <= 1073741824 /\ a.2 ≠ [] /\ a.2.length <= 1073741824, post := fun a x => a.2 ≠ [] -> x ∈ a.2, res := fun _ x => .str x, fin := fun a _ => [(0, a3m a.1.1 (a.1.2 + 1))], nob := false, kindly := true }
theorem of_has : Has Tryz.prog 71 cOf := by
 refine a0d mixed a0g (HasL.cons a4L HasL.nil) [0, 1, 4] ((fun a n (_ : Nat) => (fun _ => a0s) a n)) [] Tryz.func71 (by unfold Tryz.f71; rfl) (fun a => ⟨a.2.headD [], fun h => b4E h⟩) ?_
 intro a ha
 obtain ⟨⟨s, p⟩, l⟩ := a
 obtain ⟨h1, h2, h3, h4, h5⟩ : s.length <= 2000 /\ 0 <= p /\ p <= 1073741824 /\ l ≠ [] /\ l.length <= 1073741824 := ha
 have hl : 0 < l.length := List.length_pos_iff.2 h4
 simp -implicitDefEqProofs [cOf, a6n, tTab]
 refine fun _ => ⟨s, p, ⟨rfl, rfl⟩, ⟨h1, h2, h3, by omega⟩, fun y _ hy2 => ?_⟩
 obtain ⟨k1, k2⟩ := hy2 (by omega)
 have hk : y.toNat < l.length := by omega
 have e : Option.map eStr l[y.toNat]? = some (eStr l[y.toNat]) := by simp -implicitDefEqProofs [List.getElem?_eq_getElem hk]
 simp -implicitDefEqProofs [e, eStr, k1, k2]
def cOne : Con := { A := (Str × Int) × List Int, X := Int, n := 12, args := fun a => [.ptr 0 0, .sl true 1 (a0h a.2)], boxes := fun a => [(0, 140, [.sl true 1 (a1g a.1.1), .int .i64 a.1.2])], pre := fun a => a.1.1.length <= 2000 /\ 0 <= a.1.2 /\ a.1.2 <= 1073741824 /\ a.2 ≠ [] /\ a.2.length <= 1073741824, post := fun a x => a.2 ≠ [] -> x ∈ a.2, res := fun _ x => .int .i64 x, fin := fun a _ => [(0, a3m a.1.1 (a.1.2 + 1))], nob := false, kindly := true }
theorem one_has : Has Tryz.prog 118 cOne := by
 refine a0d mixed a0g (HasL.cons a4L HasL.nil) [0, 1, 4] ((fun a n (_ : Nat) => (fun _ => a0s) a n)) [] Tryz.func118 (by unfold Tryz.f118; rfl) (fun a => ⟨a.2.headD 0, fun h => b4E h⟩) ?_
 intro a ha
 obtain ⟨⟨s, p⟩, l⟩ := a
 obtain ⟨h1, h2, h3, h4, h5⟩ : s.length <= 2000 /\ 0 <= p /\ p <= 1073741824 /\ l ≠ [] /\ l.length <= 1073741824 := ha
 have hl : 0 < l.length := List.length_pos_iff.2 h4
 simp -implicitDefEqProofs [cOne, a6n, tTab]
 refine fun _ => ⟨s, p, ⟨rfl, rfl⟩, ⟨h1, h2, h3, by omega⟩, fun y _ hy2 => ?_⟩
 obtain ⟨k1, k2⟩ := hy2 (by omega)
 have hk : y.toNat < l.length := by omega
 have e : Option.map eInt l[y.toNat]? = some (eInt l[y.toNat]) := by simp -implicitDefEqProofs [List.getElem?_eq_getElem hk]
 simp -implicitDefEqProofs [e, eInt, k1, k2]
end Vx
end Go.Proofs.YtokdjnbcdokpjabGreatDoor
namespace Go.Proofs.YtokdjnbcdokpjabGreatDoor
open Go.ChangeShapes Go.WideShapes Go.ChangeAt Go.RowKit
namespace Vx
theorem c4k {T : Nat -> Option TI} (hs : ∀ te, T 5 = some te -> te.cells = [.int .u8]) {ds : List D} (h : Shp T [.sl 5 1] ds) : ∃ l, ds = [.sl 5 1 (a1g l)] := by
 cases h with
 | @sl e k te rows ks ds h1 h2 h3 =>
  cases h3
  rw [hs _ h1] at h2
  obtain ⟨l, rfl, _⟩ := c6J (f := a2x) (p := fun _ => True) (rows := rows) (fun r hr => by
   have := h2 r hr
   cases this with
   | @int k n _ _ q1 q2 =>
    cases q2
    have q3 : IntKind.u8.min <= n /\ n <= IntKind.u8.max := by simpa only [Lit.wf, Bool.and_eq_true, decide_eq_true_eq] using q1
    have q4 : IntKind.u8.min = 0 := rfl
    have q5 : IntKind.u8.max = 255 := rfl
    rw [q4, q5] at q3
    refine ⟨UInt8.ofNat n.toNat, ?_, trivial⟩
    have : (UInt8.ofNat n.toNat).toNat = n.toNat := by rw [UInt8.toNat_ofNat']; omega
    simp only [a2x, this]
    congr 2
    omega)
  exact ⟨l, rfl⟩
section
variable {H : Type} {enc : TypeId × Value -> H} {W : World} {sp : Nat -> Bool} {held : Bool} {r : Reach} {base : Nat}
set_option maxRecDepth 100000 in
theorem a5v {v : Value} {d : DataW H} {p : List MemPlace} (hu : Tryz.prog.underlying 44 = some (.slice 5)) (hv : Value.okWide Tryz.prog W r base 44 v)
  (h : DataW.Trod enc Tryz.prog W 0 sp held 44 v d p) : ∃ l f, RdL false W [.sl 5 1 (a1g l)] [v] f := by
 obtain ⟨a, n, c, rfl⟩ := okWide_slice hu hv
 obtain ⟨fuel, hf⟩ := h
 obtain ⟨ds, f, h1, h2⟩ := c8u a0g b9a fuel (t := 44) rfl hf
 obtain ⟨l, rfl⟩ := c4k (fun te ht => by cases ht; rfl) h2
 exact ⟨l, f, h1⟩
end
end Vx
end Go.Proofs.YtokdjnbcdokpjabGreatDoor
namespace Go.Proofs.YtokdjnbcdokpjabGreatDoor
namespace Vx
open Go.ChangeShapes Go.WideShapes Go.ChangeAt Go.RowKit
theorem a9S : laidOutB Tryz.pinned.checked.prog = true := by kernel_rfl
theorem a9V : mapsRowed Tryz.pinned.checked.prog = true := by kernel_rfl
theorem a7W : Tryz.pinned.checked.prog.stopsHeard = true := by kernel_rfl
theorem a7U : Tryz.pinned.checked.prog.mayEnter = true := by kernel_rfl
theorem a9T : Tryz.pinned.checked.prog.liftsFinal = false := by kernel_rfl
theorem a9U : Tryz.pinned.checked.prog.mainIs = some (Rows.fnExactQueueRunCard.stood.harness.1, Rows.fnExactQueueRunCard.stood.harness.2.toList) := by kernel_rfl
theorem a7V : Rows.fnExactQueueRunCard.stood.looks = Tryz.pinned.checked.prog.looks [] := by kernel_rfl
end Vx
end Go.Proofs.YtokdjnbcdokpjabGreatDoor
namespace Go.Proofs.YtokdjnbcdokpjabGreatDoor
set_option maxHeartbeats 4000000
namespace Vx
open Go.RowKit
def a6E : Con := .fn 15 (Int × Int × Int) (fun a => [.int .i64 a.1, .int .i64 a.2.1, .int .i64 a.2.2]) (fun _ => True) (fun a => .bool (decide (a.2.1 <= a.1) && decide (a.1 <= a.2.2))) (fun _ => [])
theorem a6z : Has Tryz.prog 75 a6E := by
 refine a0d mixed a0g HasL.nil [0, 1, 2, 6] ((fun a n (_ : Nat) => (fun _ => a0s) a n)) [] Tryz.func75 (by unfold Tryz.f75; rfl) (fun _ => ⟨(), trivial⟩) ?_
 intro a _
 obtain ⟨n, lo, hi⟩ := a
 simp -implicitDefEqProofs [a6E, Con.fn, tTab]
 omega
def a6m : Con := .fn 15 (Int × Int × Int) (fun a => [.int .i64 a.1, .int .i64 a.2.1, .int .i64 a.2.2]) (fun _ => True) (fun a => .bool (decide (a.2.1 <= a.1) && decide (a.1 <= a.2.2))) (fun _ => [])
theorem a4K : Has Tryz.prog 97 a6m := by
 refine a0d mixed a0g HasL.nil [0, 1, 2, 6] ((fun a n (_ : Nat) => (fun _ => a0s) a n)) [] Tryz.func97 (by unfold Tryz.f97; rfl) (fun _ => ⟨(), trivial⟩) ?_
 intro a _
 obtain ⟨n, lo, hi⟩ := a
 simp -implicitDefEqProofs [a6m, Con.fn, tTab]
 omega
def a9l (n : Int) : Bool := (decide (97 <= n) && decide (n <= 122)) || (decide (48 <= n) && decide (n <= 57))
def a9M : Con := .fn 17 Int (fun a => [.int .u8 a]) (fun _ => True) (fun a => .bool (a9l a)) (fun _ => [])
theorem b8b : Has Tryz.prog 114 a9M := by
 refine a0d mixed a0g HasL.nil [0, 2] ((fun a n (_ : Nat) => (fun _ => a0s) a n)) [] Tryz.func114 (by unfold Tryz.f114; rfl) (fun _ => ⟨(), trivial⟩) ?_
 intro a _
 simp -implicitDefEqProofs [a9M, Con.fn, tTab, a9l]
 repeat' (first | intro _ | apply And.intro)
 all_goals first | omega | grind
def a1a (s : Str) : Bool := decide (1 <= s.length) && decide (s.length <= 6) && s.all fun b => a9l b.toNat
def a4V : Con := .fn 19 Str (fun s => [.str s]) (fun _ => True) (fun s => .bool (a1a s)) (fun _ => [])
theorem a4u : Has Tryz.prog 73 a4V := by
 refine a0d mixed a0g (HasL.cons a6z (HasL.cons b8b HasL.nil)) [0, 2, 3] ((fun a n (_ : Nat) => (fun s _ => ⟨Nat, fun i => ⟨[(0, true, .str s), (2, true, .bool false), (3, true, .int .i64 i)], []⟩, fun i => i <= s.length /\ 1 <= s.length /\ s.length <= 6 /\ (s.take i).all (fun b => a9l b.toNat) = true, fun i => s.length - i⟩) a n)) [] Tryz.func73 (by unfold Tryz.f73; rfl) (fun _ => ⟨(), trivial⟩) ?_
 intro (s : Str) _
 simp -implicitDefEqProofs [a4V, Con.fn, tTab, a6E, a9M]
 try dsimp only
 try simp +contextual [eStr, a0p, a0N, a0V, a0O, List.getElem?_eq_getElem, a0P, a0y, a0L, a0H, <- a0n, <- a0q, a0w, a0F, a0D, a0C, a0z, a0v, and_assoc]
 repeat' (first | intro _ | apply And.intro)
 all_goals first | omega | grind [a1b, a1a, List.take_succ_eq_append_getElem]
def a4U : Con := .fn 35 Str (fun s => [.str s]) (fun _ => True) (fun s => .bool (a1a s)) (fun _ => [])
theorem a4s : Has Tryz.prog 98 a4U := by
 refine a0d mixed a0g (HasL.cons a4K HasL.nil) [0, 2, 3] ((fun a n (_ : Nat) => (fun s _ => ⟨Nat, fun i => ⟨[(0, true, .str s), (2, true, .bool false), (3, true, .int .i64 i)], []⟩, fun i => i <= s.length /\ (s.take i).all (fun b => a9l b.toNat) = true, fun i => s.length - i⟩) a n)) [] Tryz.func98 (by unfold Tryz.f98; rfl) (fun _ => ⟨(), trivial⟩) ?_
 intro (s : Str) _
 simp -implicitDefEqProofs [a4U, Con.fn, tTab, a6m]
 try dsimp only
 try simp +contextual [eStr, a0p, a0N, a0V, a0O, List.getElem?_eq_getElem, a0P, a0y, a0L, a0H, <- a0n, <- a0q, a0w, a0F, a0D, a0C, a0z, a0v, and_assoc]
 repeat' (first | intro _ | apply And.intro)
 all_goals first | omega | grind [a1b, a1a, a9l, List.take_succ_eq_append_getElem]
def a5U (s : Str) : Bool := decide (s.length <= 12) && s.all fun b => decide (32 <= b.toNat) && decide (b.toNat <= 126)
def b3L : Con := .fn 23 Str (fun s => [.str s]) (fun _ => True) (fun s => .bool (a5U s)) (fun _ => [])
theorem c1k : Has Tryz.prog 157 b3L := by
 refine a0d mixed a0g HasL.nil [0, 2, 3] ((fun a n (_ : Nat) => (fun s _ => ⟨Nat, fun i => ⟨[(0, true, .str s), (2, true, .bool false), (3, true, .int .i64 i)], []⟩, fun i => i <= s.length /\ s.length <= 12 /\ (s.take i).all (fun b => decide (32 <= b.toNat) && decide (b.toNat <= 126)) = true, fun i => s.length - i⟩) a n)) [] Tryz.func157 (by unfold Tryz.f157; rfl) (fun _ => ⟨(), trivial⟩) ?_
 intro (s : Str) _
 simp -implicitDefEqProofs [b3L, Con.fn, tTab]
 try dsimp only
 try simp +contextual [eStr, a0p, a0N, a0V, a0O, List.getElem?_eq_getElem, a0P, a0y, a0L, a0H, <- a0n, <- a0q, a0w, a0F, a0D, a0C, a0z, a0v, and_assoc]
 repeat' (first | intro _ | apply And.intro)
 all_goals first | omega | grind [a1b, a5U, List.take_succ_eq_append_getElem]
def b3F : Con := .fn 23 Str (fun s => [.str s]) (fun _ => True) (fun s => .bool (a5U s)) (fun _ => [])
theorem c0X : Has Tryz.prog 176 b3F := by
 refine a0d mixed a0g HasL.nil [0, 2, 3] ((fun a n (_ : Nat) => (fun s _ => ⟨Nat, fun i => ⟨[(0, true, .str s), (2, true, .bool false), (3, true, .int .i64 i)], []⟩, fun i => i <= s.length /\ (s.take i).all (fun b => decide (32 <= b.toNat) && decide (b.toNat <= 126)) = true, fun i => s.length - i⟩) a n)) [] Tryz.func176 (by unfold Tryz.f176; rfl) (fun _ => ⟨(), trivial⟩) ?_
 intro (s : Str) _
 simp -implicitDefEqProofs [b3F, Con.fn, tTab]
 try dsimp only
 try simp +contextual [eStr, a0p, a0N, a0V, a0O, List.getElem?_eq_getElem, a0P, a0y, a0L, a0H, <- a0n, <- a0q, a0w, a0F, a0D, a0C, a0z, a0v, and_assoc]
 repeat' (first | intro _ | apply And.intro)
 all_goals first | omega | grind [a1b, a5U, List.take_succ_eq_append_getElem]
def a1j (t : List Str) : Bool := decide (t.length <= 10) && t.all a5U
def a6D : Con := .fn 18 (List Str) (fun t => [.sl true 1 (a0a t)]) (fun _ => True) (fun t => .bool (a1j t)) (fun _ => [])
theorem a6x : Has Tryz.prog 115 a6D := by
 refine a0d mixed a0g (HasL.cons c1k HasL.nil) [0, 2, 4, 8, 9, 10] ((fun a n (_ : Nat) => (fun t _ => ⟨Nat, fun i => ⟨[(2, true, .bool false), (8, true, .sl true 1 (a0a t)), (9, true, .int .i64 t.length), (10, true, .int .i64 i)], []⟩, fun i => i <= t.length /\ t.length <= 10 /\ (t.take i).all a5U = true, fun i => t.length - i⟩) a n)) [] Tryz.func115 (by unfold Tryz.f115; rfl) (fun _ => ⟨(), trivial⟩) ?_
 intro (t : List Str) _
 simp -implicitDefEqProofs [a6D, Con.fn, tTab, b3L]
 try dsimp only
 try simp +contextual [eStr, a0p, a0N, a0V, a0O, List.getElem?_eq_getElem, a0P, a0y, a0L, a0H, <- a0n, <- a0q, a0w, a0F, a0D, a0C, a0z, a0v, and_assoc]
 repeat' (first | intro _ | apply And.intro)
 all_goals first | omega | grind [a1b, a1j, List.take_succ_eq_append_getElem]
def b2w : Con := .fn 19 (List Str) (fun t => [.sl true 1 (a0a t)]) (fun _ => True) (fun t => .bool (a1j t)) (fun _ => [])
theorem b1W : Has Tryz.prog 140 b2w := by
 refine a0d mixed a0g (HasL.cons c0X HasL.nil) [0, 2, 3] ((fun a n (_ : Nat) => (fun t _ => ⟨Nat, fun i => ⟨[(0, true, .sl true 1 (a0a t)), (2, true, .bool false), (3, true, .int .i64 i)], []⟩, fun i => i <= t.length /\ (t.take i).all a5U = true, fun i => t.length - i⟩) a n)) [] Tryz.func140 (by unfold Tryz.f140; rfl) (fun _ => ⟨(), trivial⟩) ?_
 intro (t : List Str) _
 simp -implicitDefEqProofs [b2w, Con.fn, tTab, b3F]
 try dsimp only
 try simp +contextual [eStr, a0p, a0N, a0V, a0O, List.getElem?_eq_getElem, a0P, a0y, a0L, a0H, <- a0n, <- a0q, a0w, a0F, a0D, a0C, a0z, a0v, and_assoc]
 repeat' (first | intro _ | apply And.intro)
 all_goals first | omega | grind [a1b, a1j, List.take_succ_eq_append_getElem]
abbrev a1Y (h : Nat) (a : List Str) : List (Nat × Blk) := [(h, .own 9 1 true (a0a a))]
abbrev a2m (h : Nat) (a : List FileD) : List (Nat × Blk) := [(h, .own 66 2 true (a0b a))]


def a5z (p s : Str) : Bool := decide (p.length <= s.length) && decide (s.take p.length = p)
def a6P : Con := .fn 18 (Str × Str) (fun a => [.str a.1, .str a.2]) (fun _ => True) (fun a => .bool (a5z a.2 a.1)) (fun _ => [])
theorem b3r : Has Tryz.prog 188 a6P := by
 refine a0d mixed a0g HasL.nil [0, 1, 4] ((fun a n (_ : Nat) => (fun _ => a0s) a n)) [] Tryz.func188 (by unfold Tryz.f188; rfl) (fun _ => ⟨(), trivial⟩) ?_
 intro a _
 obtain ⟨s, p⟩ := a
 simp -implicitDefEqProofs [a6P, Con.fn, tTab, a5z]
 try dsimp only
 try simp +contextual [eStr, a0p, a0N, a0V, a0O, List.getElem?_eq_getElem, a0P, a0y, a0L, a0H, <- a0n, <- a0q, a0w, a0F, a0D, a0C, a0z, a0v, and_assoc]
 repeat' (first | intro _ | apply And.intro)
 all_goals first | omega | grind [a1b]
def a6l : Con := .fn 8 (Str × Str) (fun a => [.str a.1, .str a.2]) (fun _ => True) (fun a => .bool (a5z a.2 a.1)) (fun _ => [])
theorem a9n : Has Tryz.prog 159 a6l := by
 refine a0d mixed a0g (HasL.cons b3r HasL.nil) [0, 1, 4] ((fun a n (_ : Nat) => (fun _ => a0s) a n)) [] Tryz.func159 (by unfold Tryz.f159; rfl) (fun _ => ⟨(), trivial⟩) ?_
 intro a _
 obtain ⟨s, p⟩ := a
 simp -implicitDefEqProofs [a6l, Con.fn, tTab, a6P]
 try dsimp only
 try simp +contextual [eStr, a0p, a0N, a0V, a0O, List.getElem?_eq_getElem, a0P, a0y, a0L, a0H, <- a0n, <- a0q, a0w, a0F, a0D, a0C, a0z, a0v, and_assoc]
 repeat' (first | intro _ | apply And.intro)
 all_goals first | omega | grind [a1b]
def inB (d p : Str) : Bool := decide (d.length < p.length) && decide (p.take d.length = d) && decide (p.getD d.length 0 = 47)
theorem c1O (a : UInt8) : ((a.toNat : Int) = 47) = (a = 47) := by
 apply propext
 constructor
 ·intro h
  have : a.toNat = 47 := by omega
  exact UInt8.toNat_inj.1 (by simpa using this)
 ·rintro rfl; rfl
def b2y : Con := .fn 25 (Str × Str) (fun a => [.str a.1, .str a.2]) (fun _ => True) (fun a => .bool (inB a.1 a.2)) (fun _ => [])
theorem b1X : Has Tryz.prog 141 b2y := by
 refine a0d mixed a0g HasL.nil [0, 1, 4] ((fun a n (_ : Nat) => (fun _ => a0s) a n)) [] Tryz.func141 (by unfold Tryz.f141; rfl) (fun _ => ⟨(), trivial⟩) ?_
 intro a _
 obtain ⟨d, p⟩ := a
 simp -implicitDefEqProofs [b2y, Con.fn, tTab, inB, c1O]
 try dsimp only
 try simp +contextual [eStr, a0p, a0N, a0V, a0O, List.getElem?_eq_getElem, a0P, a0y, a0L, a0H, <- a0n, <- a0q, a0w, a0F, a0D, a0C, a0z, a0v, and_assoc, c1O]
 repeat' (first | intro _ | apply And.intro)
 all_goals first | omega | grind [a1b, c1O]
def cutL (b : Int) (most : Nat) : Str -> Str -> Nat -> List Str
 | [], c, _ => [c]
 | x :: r, c, n => if n < most then (if (x.toNat : Int) = b then c :: cutL b most r [] (n + 1) else cutL b most r (c ++ [x]) n) else [c ++ x :: r]
theorem c2F {b : Int} {most : Nat} {r c : Str} {n : Nat} (h : most <= n) : cutL b most r c n = [c ++ r] := by
 cases r with
 | nil => simp [cutL]
 | cons x r => simp [cutL, Nat.not_lt.2 h]
def a1I (s : Str) (fr i : Nat) : Str := (s.drop fr).take (i - fr)
theorem c3Q {s : Str} {fr i : Nat} (h : fr <= i) : a1I s fr i ++ s.drop i = s.drop fr := by
 unfold a1I
 have : s.drop i = (s.drop fr).drop (i - fr) := by rw [List.drop_drop]; congr 1; omega
 rw [this, List.take_append_drop]
theorem c3R {s : Str} {fr i : Nat} (h : s.length <= i) (hf : fr <= i) : a1I s fr i = s.drop fr := by
 unfold a1I
 exact List.take_of_length_le (by rw [List.length_drop]; omega)
theorem c1z {s : Str} {fr : Nat} : a1I s fr fr = [] := by simp [a1I]
theorem c1y {s : Str} {fr i : Nat} (h : i < s.length) (hf : fr <= i) : a1I s fr (i + 1) = a1I s fr i ++ [s[i]] := by
 unfold a1I
 rw [show i + 1 - fr = (i - fr) + 1 by omega, List.take_succ_eq_append_getElem (by rw [List.length_drop]; omega)]
 congr 2
 rw [List.getElem_drop]
 congr 1
 omega
theorem c5k {b : Int} {most : Nat} {s : Str} {fr i n : Nat} (h : i < s.length) (hf : fr <= i) (hn : n < most) :
  cutL b most (s.drop i) (a1I s fr i) n = if (s[i].toNat : Int) = b then a1I s fr i :: cutL b most (s.drop (i + 1)) (a1I s (i + 1) (i + 1)) (n + 1) else cutL b most (s.drop (i + 1)) (a1I s fr (i + 1)) n := by
 rw [List.drop_eq_getElem_cons h, c1z, c1y h hf]
 simp [cutL, hn]
theorem c7N {b : Int} {most : Nat} {s : Str} {fr i n : Nat} (h : s.length <= i) (hf : fr <= i) : cutL b most (s.drop i) (a1I s fr i) n = [s.drop fr] := by
 rw [List.drop_eq_nil_of_le h, <- c3R h hf]; rfl
theorem c5j {b : Int} {most : Nat} {s : Str} {fr i n : Nat} (h : most <= n) (hf : fr <= i) : cutL b most (s.drop i) (a1I s fr i) n = [s.drop fr] := by
 rw [c2F h, c3Q hf]
def cutB (s : Str) (b : Int) (most : Nat) : List Str := cutL b most s [] 0
theorem c6u (s : Str) (fr i : Nat) : (s.drop fr).take (i - fr) = a1I s fr i := rfl
theorem c1x (s : Str) (fr : Nat) : a1I s fr s.length = s.drop fr := by
 unfold a1I
 exact List.take_of_length_le (by rw [List.length_drop]; omega)
def b6s : Con := .fn 43 (Str × Int × Nat) (fun a => [.str a.1, .int .u8 a.2.1, .int .i64 a.2.2]) (fun a => a.2.2 <= 1000000) (fun a => .own 8 1 (a0a (cutB a.1 a.2.1 a.2.2))) (fun a => a1Y 8 (cutB a.1 a.2.1 a.2.2))
theorem c3o : Has Tryz.prog 163 b6s := by
 refine a0d mixed a0g HasL.nil [0, 1, 2, 6, 7, 8, 9] ((fun a n (_ : Nat) => (fun a _ => ⟨List Str × Nat × Nat, fun t => ⟨[(0, true, .str a.1), (1, true, .int .u8 a.2.1), (2, true, .int .i64 a.2.2), (6, true, .nil), (7, true, .own 9 1 (a0a t.1)), (8, true, .int .i64 t.2.1), (9, true, .int .i64 t.2.2)], a1Y 9 t.1⟩, fun t => t.2.1 <= t.2.2 /\ t.2.2 <= a.1.length /\ t.1.length <= a.2.2 /\ t.1 ++ cutL a.2.1 a.2.2 (a.1.drop t.2.2) (a1I a.1 t.2.1 t.2.2) t.1.length = cutB a.1 a.2.1 a.2.2, fun t => a.1.length - t.2.2⟩) a n)) [] Tryz.func163 (by unfold Tryz.f163; rfl) (fun _ => ⟨(), trivial⟩) ?_
 intro a ha
 obtain ⟨s, b, most⟩ := a
 replace ha : most <= 1000000 := ha
 have hs : cutL b most s (a1I s 0 0) 0 = cutB s b most := rfl
 simp -implicitDefEqProofs [b6s, Con.fn, tTab]
 try dsimp only
 try simp +contextual [eStr, a0p, a0N, a0V, a0O, List.getElem?_eq_getElem, a0P, a0y, a0L, a0H, <- a0n, <- a0q, a0w, a0F, a0D, a0C, a0z, a0v, and_assoc, c6u, c1x]
 repeat' (first | intro _ | apply And.intro)
 all_goals first | omega | grind [a1b, c5k, c7N, c5j]
theorem c0t (a : Nat) : ((a : Int) = 3) = (a = 3) := by apply propext; omega
def a2Y (s : Str) : Bool := (cutB s 47 3).all a1a && decide ((cutB s 47 3).length <= 3)
def a7O : Con := .fn 22 Str (fun s => [.str s]) (fun _ => True) (fun s => .bool (a2Y s)) (fun _ => [])
theorem a8R : Has Tryz.prog 121 a7O := by
 refine a0d mixed a0g (HasL.cons c3o (HasL.cons a4s HasL.nil)) [0, 2, 3, 4] ((fun a n (_ : Nat) => (fun s _ => ⟨Nat, fun i => ⟨[(2, true, .bool false), (3, true, .own 9 1 (a0a (cutB s 47 3))), (4, true, .int .i64 i)], a1Y 9 (cutB s 47 3)⟩, fun i => i <= (cutB s 47 3).length /\ ((cutB s 47 3).take i).all a1a = true, fun i => (cutB s 47 3).length - i⟩) a n)) [] Tryz.func121 (by unfold Tryz.f121; rfl) (fun _ => ⟨(), trivial⟩) ?_
 intro (s : Str) _
 simp -implicitDefEqProofs [a7O, Con.fn, tTab, b6s, a4U]
 try dsimp only
 try simp +contextual [eStr, a0p, a0N, a0V, a0O, List.getElem?_eq_getElem, a0P, a0y, a0L, a0H, <- a0n, <- a0q, a0w, a0F, a0D, a0C, a0z, a0v, and_assoc, c0t]
 repeat' (first | intro _ | apply And.intro)
 all_goals first | omega | grind [a1b, a2Y, List.take_succ_eq_append_getElem]
def leqS (a b : Str) : Bool := Go.Op.bytesLess a b || decide (a = b)
def a3R (t : List FileD) (i : Nat) : Bool := a2Y (t.getD i default).path && a1j (t.getD i default).text && (decide (i = 0) || !leqS (t.getD i default).path (t.getD (i - 1) default).path)
def noIn (t : List FileD) (i : Nat) : Bool := t.all fun g => !inB (t.getD i default).path g.path
def a0W (t : List FileD) : Bool := (List.range t.length).all (fun i => a3R t i && noIn t i) && decide (t.length <= 8)
def a8z : Con := .fn 65 (List FileD) (fun t => [.sl true 2 (a0b t)]) (fun _ => True) (fun t => .bool (a0W t)) (fun _ => [])
def c1c (t : List FileD) : Inv := ⟨Nat, fun i => ⟨[(0, true, .sl true 2 (a0b t)), (2, true, .bool false), (3, true, .int .i64 i)], []⟩, fun i => i <= t.length /\ ∀ j, j < i -> a3R t j = true /\ noIn t j = true, fun i => t.length - i⟩
def c1b (t : List FileD) (g : Nat) : Inv := ⟨Nat, fun k => ⟨[(0, true, .sl true 2 (a0b t)), (2, true, .bool false), (3, true, .int .i64 g), (4, true, .int .i64 k)], []⟩, fun x => g < t.length /\ x <= t.length /\ (∀ j, j < g -> a3R t j = true /\ noIn t j = true) /\ a3R t g = true /\ ∀ k, k < x -> inB (t.getD g default).path (t.getD k default).path = false, fun x => t.length - x⟩
def b4d (t : List FileD) (n g : Nat) : Inv := if n = 2 then c1c t else c1b t g
theorem c3s (t : List FileD) (g : Nat) : b4d t 2 g = c1c t := rfl
theorem c3t (t : List FileD) (g : Nat) : b4d t 7 g = c1b t g := rfl
set_option maxRecDepth 8000
theorem a6X : Has Tryz.prog 99 a8z := by
 refine a0d mixed a0g (HasL.cons a8R (HasL.cons b1W (HasL.cons b1X (HasL.cons a4K HasL.nil)))) [0, 2, 3, 4] (fun t => b4d t) [] Tryz.func99 (by unfold Tryz.f99; rfl) (fun _ => ⟨(), trivial⟩) ?_
 intro (t : List FileD) _
 have hs : ∀ i, t.length <= i -> ¬ i < t.length := by omega
 have hE : a0W t = true ↔ (∀ i, i < t.length -> a3R t i = true /\ noIn t i = true) /\ t.length <= 8 := by
  simp [a0W]
 have hF : ∀ i, i < t.length -> (a3R t i && noIn t i) = false -> a0W t = false := by
  intro i hi h
  rcases hb : a0W t with _ | _
  ·rfl
  ·exact absurd ((hE.1 hb).1 i hi) (by simpa using h)
 have hH : ∀ i, i < t.length -> a3R t i = false -> a0W t = false := fun i hi h => hF i hi (by simp [h])
 have hN : ∀ i k, i < t.length -> k < t.length -> inB (t.getD i default).path (t.getD k default).path = true -> a0W t = false := by
  intro i k hi hk h
  refine hF i hi ?_
  have : noIn t i = false := by
   simp only [noIn, List.all_eq_false]
   exact ⟨t[k], List.getElem_mem hk, by simp [List.getD_eq_getElem?_getD, hk] at h ⊢; simpa [hk] using h⟩
  simp [this]
 have hI : ∀ i, (∀ k, k < t.length -> inB (t.getD i default).path (t.getD k default).path = false) -> noIn t i = true := by
  intro i h
  simp only [noIn, List.all_eq_true]
  intro g hg
  obtain ⟨k, hk, rfl⟩ := List.getElem_of_mem hg
  have := h k hk
  simpa [List.getD_eq_getElem?_getD, hk] using this
 simp -implicitDefEqProofs [a8z, Con.fn, tTab, a7O, b2w, b2y, a6m, c3s, c3t, c1c, c1b]
 try dsimp only
 intro i hi hj hl
 have e1 : ∀ k (h : k < t.length), Option.map a0p t[k]? = some (a0p t[k]) := by
  intro k h
  simp [List.getElem?_eq_getElem h]
 have e2 : i < t.length -> i - 1 < t.length := by omega
 constructor
 ·intro hlt
  have e3 := e1 i hlt
  have e4 := e1 (i - 1) (e2 hlt)
  simp [hlt, e2 hlt, e3, e4, a0p, eStr, D.asStr, D.asRows]
  try simp +contextual [eStr, a0p, a0N, a0V, a0O, List.getElem?_eq_getElem, a0P, a0y, a0L, a0H, <- a0n, <- a0q, a0w, a0F, a0D, a0C, a0z, a0v, and_assoc]
  repeat' (first | intro _ | apply And.intro)
  all_goals first | omega | grind [a1b, a3R, leqS]
 ·have hX : t.length <= i -> a0W t = decide (t.length <= 8) := by
   intro h
   have : a0W t = true ↔ t.length <= 8 := by
    rw [hE]
    exact ⟨fun h => h.2, fun h8 => ⟨fun j hj' => hj j (by omega), h8⟩⟩
   cases h' : a0W t <;> simp_all
  try simp +contextual [eStr, a0p, a0N, a0V, a0O, List.getElem?_eq_getElem, a0P, a0y, a0L, a0H, <- a0n, <- a0q, a0w, a0F, a0D, a0C, a0z, a0v, and_assoc]
  repeat' (first | intro _ | apply And.intro)
  all_goals first | omega | grind [a1b, a3R, leqS]
theorem a4N (t : List FileD) (h : a0W t = true) : t.length <= 8 /\ ∀ f ∈ t, f.text.length <= 64 := by
 simp only [a0W, Bool.and_eq_true, decide_eq_true_eq, List.all_eq_true, List.mem_range, a3R] at h
 refine ⟨h.2, fun f hf => ?_⟩
 obtain ⟨i, hi, rfl⟩ := List.getElem_of_mem hf
 have := (h.1 i hi).1.1.2
 simp [List.getD_eq_getElem?_getD, hi, a1j] at this
 omega
def scal : AV -> Option Value
 | .int k n => some (.int k n)
 | .bool b => some (.bool b)
 | .str s => some (.string ⟨s.toArray⟩)
 | _ => none
theorem c6L {w m β c v x u} (h : RelL w m β c [v] [u]) (hs : scal v = some x) : u = x := by
 cases v <;> simp only [scal, Option.some.injEq, reduceCtorEq] at hs
 all_goals cases h; exact hs
theorem c4g {w m β c} : ∀ {vs : List AV} {us xs : List Value}, RelL w m β c vs us -> vs.mapM scal = some xs -> us = xs := by
 intro vs
 induction vs with
 | nil => intro us xs h hm; cases h; simp at hm; exact hm.symm
 | cons v vs ih =>
  intro us xs h hm
  obtain ⟨u, us', rfl, h1, h2⟩ := h.uncons
  rw [List.mapM_cons] at hm
  cases hv : scal v with
  | none => rw [hv] at hm; simp at hm
  | some x =>
   rw [hv] at hm
   cases hvs : vs.mapM scal with
   | none => rw [hvs] at hm; simp at hm
   | some ys =>
    rw [hvs] at hm
    simp at hm
    subst hm
    rw [c6L h1 hv, ih h2 hvs]
theorem c6E {w m β c v x} (hs : scal v = some x) (hok : ∀ s, v = .str s -> s.length <= maxLen) : RelL w m β c [v] [x] := by
 cases v <;> simp only [scal, Option.some.injEq, reduceCtorEq] at hs
 all_goals subst hs
 ·exact .int .lnil
 ·exact .bool .lnil
 ·exact .str (hok _ rfl) .lnil
theorem a5b {c : Cx} {k : Con} {x : k.A} {vs : List Value} {w β fp} (hl : vs.length = (k.args x).length) (S : SatI c (k.start2 x) ⟨vs.toArray ++ Array.replicate (k.n - vs.length) undef, []⟩ w β fp) :
  RelL w (k.start2 x).m β c (k.args x) vs := by
 have key : ∀ (i : Nat) (v : AV) (u : Value), (k.args x)[i]? = some v -> vs[i]? = some u -> RelL w (k.start2 x).m β c [v] [u] := by
  intro i v u hv hu
  have := (S.env i true v (by simp [Con.start2, hv])).2.1 rfl
  have hi : i < vs.length := (List.getElem?_eq_some_iff.1 hu).1
  have e : (vs.toArray ++ Array.replicate (k.n - vs.length) undef).getD i undef = u := by
   rw [Array.getD_eq_getD_getElem?, Array.getElem?_append_left (by simpa using hi)]
   simp [hu]
  rw [e] at this
  exact this
 clear S
 generalize k.args x = xs at hl key
 induction xs generalizing vs with
 | nil => cases vs with | nil => exact .lnil | cons => simp at hl
 | cons v xs ih =>
  cases vs with
  | nil => simp at hl
  | cons u vs =>
   exact (key 0 v u rfl rfl).append (ih (by simpa using hl) fun i v' u' h1 h2 => key (i + 1) v' u' h1 h2)
theorem b6O {P : Program} {f : Nat} {n : Nat} {A : Type} {args : A -> List AV} {pre : A -> Prop} {res : A -> AV} {rv : A -> Value}
  (henter : ∀ args w, (callFunc f args).run P w = .ok (.enter f args) w) (hres : ∀ a, scal (res a) = some (rv a)) (hstr : ∀ a s, pre a -> res a = .str s -> s.length <= maxLen)
  (h : ∀ a vs w, pre a -> (args a).mapM scal = some vs -> Calls P f vs.toArray w fun e w' => e = .returned (rv a) /\ w' = w) (hsc : ∀ a, ∃ vs, (args a).mapM scal = some vs) :
  Has P f (.fn n A args pre res (fun _ => [])) := by
 refine ⟨henter, fun _ => ⟨(), trivial⟩, fun _ _ => rfl, ?_, trivial, .inl rfl⟩
 intro a hp c _ vs β fp hcn hpins hl1 hl2 S
 obtain ⟨us, hus⟩ := hsc a
 have hvs : vs = us := c4g (a5b hl1 S) hus
 subst hvs
 refine (h a vs c.w0 hp hus).mono ?_
 rintro e w' ⟨rfl, rfl⟩
 refine ⟨(), trivial, rv a, rfl, β, fp, ⟨Array.replicate c.n undef, []⟩, ⟨?_, ?_, ?_, ?_, ?_, S.fg, S.old, S.os, S.tape, S.output, S.size, rfl, by simp, ?_⟩, ?_⟩
 ·intro t g av ht; cases ht
 ·intro h blk hm; cases hm
 ·intro h blk hm; cases hm
 ·intro h h' blk blk' hm; cases hm
 ·intro h blk hm; cases hm
 ·rw [hpins]; intro p hp; simp [Con.pins2] at hp
 ·exact c6E (hres a) (fun s hs => hstr a s hp hs)
set_option maxHeartbeats 1000000 in
set_option maxRecDepth 100000 in
theorem b4a (s : ByteArray) (c : Int) (w : World) :
  Calls Tryz.prog 205 #[.string s, .int .u8 c] w fun e w' => e = .returned (.int .i64 (Lib.indexByte s.data.toList c.toNat.toUInt8)) /\ w' = w := by
 go_enter Tryz.func205, Tryz.ntmps205
 go_wp2
 rw [run_callFunc_extern Tryz.func226 (by kernel_rfl) (by kernel_rfl) (by kernel_rfl) (e := Extern.BytealgIndexByte.indexByte) (by kernel_rfl), Lib.run_indexByteString]
 simp only [Result.andThen]
 rw [Oper.upon_value]
 go_wp2
 go_ret
 exact ⟨rfl, rfl⟩
set_option maxHeartbeats 2000000 in
set_option maxRecDepth 100000 in
theorem b5n (s : ByteArray) (c : UInt8) (w : World) :
  Calls Tryz.prog 190 #[.string s, .string ⟨#[c]⟩] w fun e w' => e = .returned (.int .i64 (Lib.indexByte s.data.toList c)) /\ w' = w := by
 go_enter Tryz.func190, Tryz.ntmps190
 go_wp2_with (go_at_call 205; refine (b4a _ _ _).mono ?_; rintro e w' ⟨rfl, rfl⟩)
 ·have h : ([c] == s.toList) = true := by assumption
  go_ret
  refine ⟨?_, rfl⟩
  have e : s.data.toList = [c] := by rw [<- Lib.toList_data]; exact (beq_iff_eq.1 h).symm
  rw [e]
  simp [Lib.indexByte]
 ·go_ret
  exact ⟨rfl, rfl⟩
set_option maxHeartbeats 2000000 in
set_option maxRecDepth 100000 in
theorem a9f (s : ByteArray) (c : UInt8) (w : World) :
  Calls Tryz.prog 169 #[.string s, .string ⟨#[c]⟩] w fun e w' => e = .returned (.int .i64 (Lib.indexByte s.data.toList c)) /\ w' = w := by
 go_enter Tryz.func169, Tryz.ntmps169
 go_wp2_with (go_at_call 190; refine (b5n _ _ _).mono ?_; rintro e w' ⟨rfl, rfl⟩)
 go_ret
 exact ⟨rfl, rfl⟩
set_option maxHeartbeats 1000000 in
set_option maxRecDepth 100000 in
theorem b5k (s : ByteArray) (c : UInt8) (w : World) :
  Calls Tryz.prog 204 #[.string s, .string ⟨#[c]⟩] w fun e w' => e = .returned (.int .i64 (Lib.countByte s.data.toList c)) /\ w' = w := by
 go_enter Tryz.func204, Tryz.ntmps204
 go_wp2
 rw [run_callFunc_extern Tryz.func225 (by kernel_rfl) (by kernel_rfl) (by kernel_rfl) (e := Extern.BytealgCount.count) (by kernel_rfl), Lib.run_countString]
 simp only [Result.andThen]
 rw [Oper.upon_value]
 go_wp2
 go_ret
 exact ⟨rfl, rfl⟩
def idxB : Str -> UInt8 -> Int
 | [], _ => -1
 | b :: l, c => if b = c then 0 else if idxB l c < 0 then -1 else idxB l c + 1
theorem c5x (s : Str) (c : UInt8) : Lib.indexByte s c = idxB s c := by
 induction s with
 | nil => rfl
 | cons b l ih =>
  have hge := Lib.indexByte_ge l c
  simp only [Lib.indexByte, idxB, ih] at hge ⊢
  by_cases hb : b = c
  ·simp [hb]
  ·simp only [beq_iff_eq, hb, if_false]
   by_cases h : idxB l c < 0
   ·rw [if_pos h, if_pos (by omega)]
   ·rw [if_neg h, if_neg (by omega)]
def a6i : Con := .fn 8 (Str × UInt8) (fun a => [.str a.1, .str [a.2]]) (fun _ => True) (fun a => .int .i64 (idxB a.1 a.2)) (fun _ => [])
theorem a7c : Has Tryz.prog 169 a6i :=
 b6O (rv := fun a => .int .i64 (idxB a.1 a.2)) (fun args w => Go.MuLone.run_callFunc_enter Tryz.func169 (by kernel_rfl) rfl args w) (fun _ => rfl) (fun a s _ h => by cases h)
  (fun a vs w _ hv => by
   obtain ⟨s, c⟩ := a
   simp [scal] at hv
   subst hv
   have := a9f ⟨s.toArray⟩ c w
   simpa [c5x] using this) (fun a => ⟨_, rfl⟩)
def a9m : Con := .fn 34 (Str × UInt8) (fun a => [.str a.1, .str [a.2]]) (fun _ => True) (fun a => .int .i64 (a.1.count a.2)) (fun _ => [])
theorem b2g : Has Tryz.prog 204 a9m :=
 b6O (rv := fun a => .int .i64 (a.1.count a.2)) (fun args w => Go.MuLone.run_callFunc_enter Tryz.func204 (by kernel_rfl) rfl args w) (fun _ => rfl) (fun a s _ h => by cases h)
  (fun a vs w _ hv => by
   obtain ⟨s, c⟩ := a
   simp [scal] at hv
   subst hv
   have := b5k ⟨s.toArray⟩ c w
   simpa [Lib.countByte] using this) (fun a => ⟨_, rfl⟩)
def spl (c : UInt8) : Str -> Str -> List Str
 | [], p => [p]
 | x :: r, p => if x = c then p :: spl c r [] else spl c r (p ++ [x])
theorem c7U (s : Str) (c : UInt8) : idxB s c < s.length := by
 induction s with
 | nil => simp [idxB]
 | cons b l ih =>
  simp only [idxB, List.length_cons]
  split
  ·omega
  ·split <;> omega
theorem c6S {c : UInt8} : ∀ {s p : Str}, idxB s c < 0 -> spl c s p = [p ++ s] /\ s.count c = 0 := by
 intro s
 induction s with
 | nil => intro p _; simp [spl]
 | cons b l ih =>
  intro p h
  simp only [idxB] at h
  split at h
  ·omega
  ·rename_i hb
   split at h
   ·rename_i hl
    have := ih (p := p ++ [b]) hl
    simp only [spl, if_neg hb]
    refine ⟨by rw [this.1]; simp, ?_⟩
    rw [List.count_cons, this.2]
    simp [hb]
   ·omega
theorem b7O {c : UInt8} : ∀ {s p : Str}, 0 <= idxB s c -> spl c s p = (p ++ s.take (idxB s c).toNat) :: spl c (s.drop ((idxB s c).toNat + 1)) [] /\ s.count c = (s.drop ((idxB s c).toNat + 1)).count c + 1 := by
 intro s
 induction s with
 | nil => intro p h; simp [idxB] at h
 | cons b l ih =>
  intro p h
  by_cases hb : b = c
  ·subst hb
   simp [idxB, spl]
  ·simp only [idxB, if_neg hb] at h ⊢
   split at h
   ·omega
   ·rename_i hl
    rw [if_neg hl]
    obtain ⟨h1, h2⟩ := ih (p := p ++ [b]) (by omega)
    have e : (idxB l c + 1).toNat = (idxB l c).toNat + 1 := by omega
    rw [e]
    simp only [spl, if_neg hb, List.take_succ_cons, List.drop_succ_cons]
    refine ⟨by rw [h1]; simp, ?_⟩
    rw [List.count_cons, h2]
    simp [hb]
theorem c8J (c : UInt8) : ∀ (s p : Str), (spl c s p).length = s.count c + 1 := by
 intro s
 induction s with
 | nil => intro p; simp [spl]
 | cons b l ih =>
  intro p
  simp only [spl]
  split
  ·rename_i h
   subst h
   simp [ih]
  ·rename_i h
   rw [ih, List.count_cons]
   simp [h]
theorem c8H {α : Type} (d : List α) (k : Nat) (z x : α) (h : 0 < k) : (d ++ List.replicate k z).set d.length x = (d ++ [x]) ++ List.replicate (k - 1) z := by
 obtain ⟨k, rfl⟩ : ∃ j, k = j + 1 := ⟨k - 1, by omega⟩
 rw [List.set_append_right _ _ (Nat.le_refl _)]
 simp [List.replicate_succ]
def a9D : Con := .fn 66 (Str × UInt8) (fun a => [.str a.1, .str [a.2], .int .i64 0, .int .i64 (-1)]) (fun a => a.1.length <= 1073741824) (fun a => .sl false 1 (a0a (spl a.2 a.1 []))) (fun _ => [])
def a3j (N : Nat) (d : List Str) : List Str := d ++ List.replicate (N - d.length) []
theorem c2R (N : Nat) (d : List Str) (h : d.length <= N) : (a3j N d).length = N := by simp [a3j]; omega
theorem a9W (N : Nat) (d : List Str) (x : Str) (h : d.length < N) : (a3j N d).set d.length x = a3j N (d ++ [x]) := by
 unfold a3j
 rw [c8H _ _ _ _ (by omega)]
 simp only [List.length_append, List.length_cons, List.length_nil]
 congr 2
theorem b4C (N : Nat) : a3j N [] = List.replicate N [] := by simp [a3j]
set_option maxRecDepth 8000
theorem b6N : Has Tryz.prog 187 a9D := by
 refine a0d mixed a0g (HasL.cons b2g (HasL.cons a7c HasL.nil)) [0, 1, 2, 3, 8, 9, 10, 11] ((fun a n (_ : Nat) => (fun a _ => ⟨List Str × Str, fun t => ⟨[(0, true, .str t.2), (1, true, .str [a.2]), (2, true, .int .i64 0), (3, true, .int .i64 (a.1.count a.2)), (8, true, .nil), (9, true, .own 9 1 (a0a (a3j (a.1.count a.2 + 1) t.1))), (10, true, .int .i64 t.1.length)], a1Y 9 (a3j (a.1.count a.2 + 1) t.1)⟩, fun t => t.1.length + t.2.count a.2 = a.1.count a.2 /\ t.2.length <= a.1.length /\ t.1 ++ spl a.2 t.2 [] = spl a.2 a.1 [], fun t => a.1.count a.2 - t.1.length⟩) a n)) [] Tryz.func187 (by unfold Tryz.f187; rfl) (fun _ => ⟨(), trivial⟩) ?_
 intro a ha
 obtain ⟨s, c⟩ := a
 replace ha : s.length <= 1073741824 := ha
 have hc : s.count c <= s.length := List.count_le_length
 simp -implicitDefEqProofs [a9D, a9m, a6i, Con.fn, tTab]
 try dsimp only
 have hif : ¬ s.length < s.count c := by omega
 have hr : (List.replicate ((s.count c : Int) + 1).toNat [D.str []]) = a0a (a3j (s.count c + 1) []) := by
  rw [show ((s.count c : Int) + 1).toNat = s.count c + 1 by omega, b4C, a0L]
 have K1 : ∀ (a : List Str) (b : Str), a.length + b.count c = s.count c -> a.length < (a3j (s.count c + 1) a).length := fun a b h => by rw [c2R _ _ (by omega)]; omega
 have K2 : ∀ (a : List Str) (b : Str), a.length + b.count c = s.count c -> a ++ spl c b [] = spl c s [] -> (idxB b c < 0 \/ s.count c <= a.length) -> spl c s [] = ((a3j (s.count c + 1) a).set a.length b).take (a.length + 1) := by
  intro a b h1 h2 h3
  have h4 : idxB b c < 0 := by
   rcases h3 with h | h
   ·exact h
   ·refine Classical.byContradiction fun hn => ?_
    have := (b7O (p := []) (Int.not_lt.1 hn)).2
    omega
  have h5 := c6S (p := []) h4
  rw [<- h2, h5.1, a9W _ _ _ (by omega)]
  unfold a3j
  rw [List.take_left' (by simp)]
  rfl
 have K3 : ∀ (b : Str), idxB b c < b.length := fun b => c7U b c
 have K4 : ∀ (a : List Str) (b : Str), a.length + b.count c = s.count c -> b.length <= s.length -> a ++ spl c b [] = spl c s [] -> 0 <= idxB b c ->
   ∃ x, a3j (s.count c + 1) x = (a3j (s.count c + 1) a).set a.length (b.take (idxB b c).toNat) /\ x.length = a.length + 1 /\ (a3j (s.count c + 1) a).set a.length (b.take (idxB b c).toNat) = a3j (s.count c + 1) x /\
    x.length + ((b.drop (idxB b c + 1).toNat).take (b.length - (idxB b c + 1).toNat)).count c = s.count c /\ b.length <= s.length + (idxB b c + 1).toNat /\
    x ++ spl c ((b.drop (idxB b c + 1).toNat).take (b.length - (idxB b c + 1).toNat)) [] = spl c s [] /\ s.count c - x.length < s.count c - a.length := by
  intro a b h1 h2 h3 h4
  obtain ⟨h5, h6⟩ := b7O (p := []) h4
  have e1 : (idxB b c + 1).toNat = (idxB b c).toNat + 1 := by omega
  have e2 : (b.drop (idxB b c + 1).toNat).take (b.length - (idxB b c + 1).toNat) = b.drop ((idxB b c).toNat + 1) := by
   rw [e1]; exact List.take_of_length_le (by simp)
  rw [e2]
  refine ⟨a ++ [b.take (idxB b c).toNat], (a9W _ _ _ (by omega)).symm, by simp, a9W _ _ _ (by omega), by simp; omega, by omega, ?_, by simp; omega⟩
  rw [<- h3, h5]
  simp
 simp +contextual [eStr, a0p, a0N, a0V, a0O, List.getElem?_eq_getElem, a0P, a0y, a0L, a0H, <- a0n, <- a0q, a0w, a0F, a0D, a0C, a0z, a0v, and_assoc, hif, hr]
 repeat' (first | intro _ | apply And.intro)
 all_goals first | omega | grind [b4C] | exact K4 _ _ (by omega) (by omega) (by assumption) (by omega)
def b6z : Con := .fn 8 (Str × UInt8) (fun a => [.str a.1, .str [a.2]]) (fun a => a.1.length <= 1073741824) (fun a => .sl false 1 (a0a (spl a.2 a.1 []))) (fun _ => [])
theorem c4m : Has Tryz.prog 158 b6z := by
 refine a0d mixed a0g (HasL.cons b6N HasL.nil) [0, 1, 4] ((fun a n (_ : Nat) => (fun _ => a0s) a n)) [] Tryz.func158 (by unfold Tryz.f158; rfl) (fun _ => ⟨(), trivial⟩) ?_
 intro a ha
 obtain ⟨s, c⟩ := a
 replace ha : s.length <= 1073741824 := ha
 simp -implicitDefEqProofs [b6z, Con.fn, tTab, a9D]
 try dsimp only
 try simp +contextual [eStr, a0p, a0N, a0V, a0O, List.getElem?_eq_getElem, a0P, a0y, a0L, a0H, <- a0n, <- a0q, a0w, a0F, a0D, a0C, a0z, a0v, and_assoc]
 repeat' (first | intro _ | apply And.intro)
 all_goals first | omega | grind [a1b]
def a2X (s : Str) : Bool := decide ((spl 47 s []).length <= 3) && (spl 47 s []).all a1a
def a6B : Con := .fn 21 Str (fun s => [.str s]) (fun s => s.length <= 1073741824) (fun s => .bool (a2X s)) (fun _ => [])
theorem a6t : Has Tryz.prog 116 a6B := by
 refine a0d mixed a0g (HasL.cons c4m (HasL.cons a4u HasL.nil)) [0, 2, 3, 5, 11, 12, 13] ((fun a n (_ : Nat) => (fun s _ => ⟨Nat, fun i => ⟨[(2, true, .bool false), (11, true, .sl false 1 (a0a (spl 47 s []))), (12, true, .int .i64 (spl 47 s []).length), (13, true, .int .i64 i)], []⟩, fun i => i <= (spl 47 s []).length /\ (spl 47 s []).length <= 3 /\ ((spl 47 s []).take i).all a1a = true, fun i => (spl 47 s []).length - i⟩) a n)) [] Tryz.func116 (by unfold Tryz.f116; rfl) (fun _ => ⟨(), trivial⟩) ?_
 intro (s : Str) hs
 replace hs : s.length <= 1073741824 := hs
 simp -implicitDefEqProofs [a6B, Con.fn, tTab, b6z, a4V]
 try dsimp only
 try simp +contextual [eStr, a0p, a0N, a0V, a0O, List.getElem?_eq_getElem, a0P, a0y, a0L, a0H, <- a0n, <- a0q, a0w, a0F, a0D, a0C, a0z, a0v, and_assoc]
 repeat' (first | intro _ | apply And.intro)
 all_goals first | omega | grind [a1b, a2X, List.take_succ_eq_append_getElem]
set_option maxRecDepth 8000
def a4X (d p : Str) : Bool := a2X d && a2X p && a5z (d ++ [47]) p
def b3P : Con := .fn 17 (Str × Str) (fun a => [.str a.1, .str a.2]) (fun a => a.1.length <= 536870912 /\ a.2.length <= 536870912) (fun a => .bool (a4X a.1 a.2)) (fun _ => [])
theorem c1u : Has Tryz.prog 117 b3P := by
 refine a0d mixed a0g (HasL.cons a6t (HasL.cons a9n HasL.nil)) [0, 1, 4] ((fun a n (_ : Nat) => (fun _ => a0s) a n)) [] Tryz.func117 (by unfold Tryz.f117; rfl) (fun _ => ⟨(), trivial⟩) ?_
 intro a ha
 obtain ⟨d, p⟩ := a
 obtain ⟨h1, h2⟩ : d.length <= 536870912 /\ p.length <= 536870912 := ha
 simp -implicitDefEqProofs [b3P, Con.fn, tTab, a6B, a6l]
 try dsimp only
 try simp +contextual [eStr, a0p, a0N, a0V, a0O, List.getElem?_eq_getElem, a0P, a0y, a0L, a0H, <- a0n, <- a0q, a0w, a0F, a0D, a0C, a0z, a0v, and_assoc]
 repeat' (first | intro _ | apply And.intro)
 all_goals first | omega | grind [a1b, a4X, maxLen]
def a2W (t : List FileD) (i : Nat) : Bool := a1j (t.getD i default).text && a2X (t.getD i default).path && (decide (i = 0) || Go.Op.bytesLess (t.getD (i - 1) default).path (t.getD i default).path)
def noUp (t : List FileD) (i : Nat) : Bool := (List.range i).all fun k => !a4X (t.getD k default).path (t.getD i default).path
def a0r (t : List FileD) : Bool := decide (t.length <= 8) && (List.range t.length).all fun i => a2W t i && noUp t i
def a4q : Con := .fn 57 (List FileD) (fun t => [.sl true 2 (a0b t)]) (fun t => ∀ f ∈ t, f.path.length <= 536870912) (fun t => .bool (a0r t)) (fun _ => [])
def tiO (t : List FileD) : Inv := ⟨Nat, fun i => ⟨[(0, true, .sl true 2 (a0b t)), (2, true, .bool false), (10, true, .sl true 2 (a0b t)), (11, true, .int .i64 t.length), (12, true, .int .i64 i)], []⟩, fun i => i <= t.length /\ t.length <= 8 /\ ∀ j, j < i -> a2W t j = true /\ noUp t j = true, fun i => t.length - i⟩
def tiI (t : List FileD) (g : Nat) : Inv := ⟨Nat, fun k => ⟨[(0, true, .sl true 2 (a0b t)), (2, true, .bool false), (3, true, .int .i64 g), (4, true, .ptr 10 0), (10, true, .sl true 2 (a0b t)), (11, true, .int .i64 t.length), (12, true, .int .i64 g), (44, true, .sl true 2 (a0b (t.take g))), (45, true, .int .i64 g), (46, true, .int .i64 k)],
  [(10, .box 66 [.str (t.getD g default).path, .sl true 1 (a0a (t.getD g default).text)])]⟩, fun x => g < t.length /\ x <= g /\ t.length <= 8 /\ (∀ j, j < g -> a2W t j = true /\ noUp t j = true) /\ a2W t g = true /\ ∀ k, k < x -> a4X (t.getD k default).path (t.getD g default).path = false, fun x => g - x⟩
def c1M (t : List FileD) (n g : Nat) : Inv := if n = 4 then tiO t else tiI t g
theorem c8M (t : List FileD) (g : Nat) : c1M t 4 g = tiO t := rfl
theorem c8N (t : List FileD) (g : Nat) : c1M t 9 g = tiI t g := rfl
theorem a3M : Has Tryz.prog 74 a4q := by
 refine a0d mixed a0g (HasL.cons a6x (HasL.cons a6t (HasL.cons c1u HasL.nil))) [0, 2, 3, 4, 6, 10, 11, 12, 44, 45, 46] (fun t => c1M t) [] Tryz.func74 (by unfold Tryz.f74; rfl) (fun _ => ⟨(), trivial⟩) ?_
 intro (t : List FileD) ht
 replace ht : ∀ f ∈ t, f.path.length <= 536870912 := ht
 have hp : ∀ i (h : i < t.length), (t[i]).path.length <= 536870912 := fun i h => ht _ (List.getElem_mem h)
 simp -implicitDefEqProofs [a4q, Con.fn, tTab, a6D, a6B, b3P, c8M, c8N, tiO, tiI]
 try dsimp only
 have hE : a0r t = true ↔ t.length <= 8 /\ ∀ i, i < t.length -> a2W t i = true /\ noUp t i = true := by
  simp [a0r]
 have hF : ∀ i, i < t.length -> (a2W t i && noUp t i) = false -> a0r t = false := by
  intro i hi h
  rcases hb : a0r t with _ | _
  ·rfl
  ·exact absurd ((hE.1 hb).2 i hi) (by simpa using h)
 have hH : ∀ i, i < t.length -> a2W t i = false -> a0r t = false := fun i hi h => hF i hi (by simp [h])
 have hN : ∀ i k, i < t.length -> k < i -> a4X (t.getD k default).path (t.getD i default).path = true -> a0r t = false := by
  intro i k hi hk h
  refine hF i hi ?_
  have : noUp t i = false := by
   simp only [noUp, List.all_eq_false]
   exact ⟨k, List.mem_range.2 hk, by simpa using h⟩
  simp [this]
 have hI : ∀ i, (∀ k, k < i -> a4X (t.getD k default).path (t.getD i default).path = false) -> noUp t i = true := by
  intro i h
  simp only [noUp, List.all_eq_true, List.mem_range]
  intro k hk
  simp only [h k hk, Bool.not_false]
 have hB : 8 < t.length -> a0r t = false := by
  intro h
  rcases hb : a0r t with _ | _
  ·rfl
  ·exact absurd (hE.1 hb).1 (by omega)
 have e1 : ∀ k (h : k < t.length), Option.map a0p t[k]? = some (a0p t[k]) := fun k h => by simp [List.getElem?_eq_getElem h]
 have e2 : ∀ i, i < t.length -> i - 1 < t.length := fun i h => by omega
 have e4 : ∀ i k (h : k < i) (h2 : i < t.length), Option.map a0p (List.take i t)[k]? = some (a0p t[k]) := fun i k h h2 => by
  rw [List.getElem?_take, if_pos h]; exact e1 k (by omega)
 have hg : ∀ i (h : i < t.length), t.getD i default = t[i] := fun i h => by simp [List.getD_eq_getElem?_getD, h]
 intro _
 refine ⟨fun h => hB (by omega), fun h8 _ => ⟨by omega, fun i hi h8' hprev => ⟨fun hlt => ?_, fun hge => ?_⟩⟩⟩
 ·have e3 := e1 i hlt
  have e3' := e1 (i - 1) (e2 i hlt)
  have hpi := hp i hlt
  have hgi := hg i hlt
  have hgi' := hg (i - 1) (e2 i hlt)
  have hh : a2W t i = (a1j t[i].text && a2X t[i].path && (decide (i = 0) || Go.Op.bytesLess t[i - 1].path t[i].path)) := by simp only [a2W, hgi, hgi']
  have hm : min i t.length = i := by omega
  have hgg : t[i]?.getD default = t[i] := by simpa [List.getD_eq_getElem?_getD] using hgi
  simp [hlt, e2 i hlt, e3, e3', a0p, eStr, D.asStr, D.asRows, hm, a0V, and_assoc, hgg]
  try simp +contextual [eStr, a0p, a0N, a0V, a0O, List.getElem?_eq_getElem, a0P, a0y, a0L, a0H, <- a0n, <- a0q, a0w, a0F, a0D, a0C, a0z, a0v, and_assoc, e4, hgg, hm, hlt, D.asStr, D.asRows, c5b]
  repeat' (first | intro _ | apply And.intro)
  all_goals first | omega | grind
 ·have hT : a0r t = true := hE.2 ⟨h8', fun j hj => hprev j (by omega)⟩
  simp [hT]
  repeat' (first | intro _ | apply And.intro)
  all_goals first | omega | grind
theorem a9i (t : List FileD) (h : a0r t = true) : t.length <= 8 /\ ∀ f ∈ t, f.text.length <= 64 := by
 simp only [a0r, Bool.and_eq_true, decide_eq_true_eq, List.all_eq_true, List.mem_range, a2W] at h
 refine ⟨h.1, fun f hf => ?_⟩
 obtain ⟨i, hi, rfl⟩ := List.getElem_of_mem hf
 have := (h.2 i hi).1.1.1
 simp [List.getD_eq_getElem?_getD, hi, a1j] at this
 omega
theorem a2U : ∀ (x y : Str), Go.Op.bytesLess x y = decide (x < y)
 | [], [] => by simp [Go.Op.bytesLess]
 | _ :: _, [] => by simp [Go.Op.bytesLess]
 | [], _ :: _ => by simp [Go.Op.bytesLess]
 | a :: x, b :: y => by
  rw [Go.Op.bytesLess, a2U x y]
  simp only [List.cons_lt_cons_iff]
  by_cases h1 : a < b <;> by_cases h2 : a = b <;> by_cases h3 : x < y <;> simp [h1, h2, h3]
theorem a2S (a : Str) : ¬ a < a := List.lt_irrefl a
theorem a4k {a b c : Str} (h : a < b) (h' : b < c) : a < c := List.lt_trans h h'
theorem a5c (a b : Str) (h : ¬ a < b) (hne : a ≠ b) : b < a := by
 have h1 : b <= a := List.not_lt.1 h
 exact Classical.byContradiction fun h2 => hne (List.le_antisymm (List.not_lt.1 h2) h1)
theorem a4j {a b : Str} (h : a < b) : ¬ b < a := fun h' => a2S a (a4k h h')
theorem b7h (a b : Str) : leqS a b = !decide (b < a) := by
 unfold leqS
 rw [a2U]
 by_cases h : a < b
 ·simp [h, a4j h]
 ·by_cases e : a = b
  ·subst e; simp [a2S]
  ·simp [h, e, a5c a b h e]
theorem c7P {b : UInt8} {most : Nat} : ∀ {r c : Str} {n : Nat}, n + r.count b <= most -> cutL (b.toNat : Int) most r c n = spl b r c := by
 intro r
 induction r with
 | nil => intro c n _; rfl
 | cons x r ih =>
  intro c n h
  have hx : ((x.toNat : Int) = (b.toNat : Int)) = (x = b) := by
   apply propext
   constructor
   ·intro h; exact UInt8.toNat_inj.1 (by omega)
   ·rintro rfl; rfl
  by_cases hb : x = b
  ·subst hb
   rw [List.count_cons_self] at h
   simp only [cutL, spl, if_true, show n < most by omega]
   rw [ih (by omega)]
  ·rw [List.count_cons_of_ne hb] at h
   simp only [cutL, spl, hx, hb, if_false]
   split
   ·exact ih h
   ·have h0 : r.count b = 0 := by omega
    have : ∀ (q p : Str), q.count b = 0 -> spl b q p = [p ++ q] := by
     intro q
     induction q with
     | nil => intro p _; simp [spl]
     | cons y q ih2 =>
      intro p hq
      have hy : y ≠ b := by rintro rfl; simp at hq
      rw [List.count_cons_of_ne hy] at hq
      simp only [spl, hy, if_false]
      rw [ih2 _ hq]; simp
    rw [this r _ h0]; simp
theorem c7O {b : UInt8} {most : Nat} : ∀ {r c : Str} {n : Nat}, n <= most -> most < n + r.count b -> (cutL (b.toNat : Int) most r c n).length = most - n + 1 := by
 intro r
 induction r with
 | nil => intro c n h1 h2; simp at h2; omega
 | cons x r ih =>
  intro c n h1 h2
  have hx : ((x.toNat : Int) = (b.toNat : Int)) = (x = b) := by
   apply propext
   constructor
   ·intro h; exact UInt8.toNat_inj.1 (by omega)
   ·rintro rfl; rfl
  simp only [cutL, hx]
  split
  ·split
   ·rename_i hb
    subst hb
    rw [List.count_cons_self] at h2
    rw [List.length_cons, ih (by omega) (by omega)]
    omega
   ·rename_i hb
    rw [List.count_cons_of_ne hb] at h2
    rw [ih h1 h2]
  ·simp; omega
theorem a6I (s : Str) : a2X s = a2Y s := by
 unfold a2X a2Y
 by_cases h : s.count 47 <= 3
 ·have : cutB s 47 3 = spl 47 s [] := c7P (b := 47) (most := 3) (by omega)
  rw [this, Bool.and_comm]
 ·have h1 : (cutB s 47 3).length = 4 := c7O (b := 47) (most := 3) (r := s) (c := []) (n := 0) (by omega) (by omega)
  have h2 := c8J 47 s []
  simp [h1, h2, h]
  omega
theorem b3Y (d p : Str) : inB d p = a5z (d ++ [47]) p := by
 unfold inB a5z
 by_cases h : d.length < p.length
 ·have e : p.take (d.length + 1) = p.take d.length ++ [p[d.length]] := List.take_succ_eq_append_getElem h
  simp only [List.length_append, List.length_cons, List.length_nil, Nat.zero_add, e, h, show d.length + 1 <= p.length by omega, decide_true, Bool.true_and]
  have hg : p.getD d.length 0 = p[d.length] := getD_nat _ _ h
  rw [hg, Bool.eq_iff_iff]
  simp only [Bool.and_eq_true, decide_eq_true_eq]
  constructor
  ·rintro ⟨h1, h2⟩; rw [h1, h2]
  ·intro h1
   have := List.append_inj h1 (by simp; omega)
   exact ⟨this.1, by simpa using this.2⟩
 ·simp [h]
  omega
theorem c8o {d p : Str} (h : a5z (d ++ [47]) p = true) : d < p := by
 unfold a5z at h
 simp only [Bool.and_eq_true, decide_eq_true_eq, List.length_append, List.length_cons, List.length_nil, Nat.zero_add] at h
 have e : p = d ++ (47 :: p.drop (d.length + 1)) := by
  have := List.take_append_drop (d.length + 1) p
  rw [h.2] at this
  simpa using this.symm
 rw [e]
 generalize p.drop (d.length + 1) = q
 clear h e
 induction d with
 | nil => exact List.nil_lt_cons _ _
 | cons x d ih => exact List.cons_lt_cons_iff.2 (.inr ⟨rfl, ih⟩)
theorem a2t (t : List FileD) : a0r t = a0W t := by
 have hasc : (∀ i, i < t.length -> a2W t i = true) -> ∀ i k, i < k -> k < t.length -> (t.getD i default).path < (t.getD k default).path := by
  intro h i k hik hk
  induction k with
  | zero => omega
  | succ k ih =>
   have h1 := h (k + 1) hk
   simp only [a2W, Bool.and_eq_true, Bool.or_eq_true, decide_eq_true_eq, a2U, Nat.add_sub_cancel] at h1
   have h2 : (t.getD k default).path < (t.getD (k + 1) default).path := by
    rcases h1.2 with h2 | h2
    ·omega
    ·exact h2
   rcases Nat.lt_or_ge i k with h3 | h3
   ·exact a4k (ih h3 (by omega)) h2
   ·have : i = k := by omega
    subst this; exact h2
 have hhead : ∀ i, a3R t i = a2W t i := by
  intro i
  simp only [a3R, a2W, a6I, b7h, a2U, Bool.not_not]
  rw [Bool.and_comm (a2Y _)]
 rw [Bool.eq_iff_iff]
 simp only [a0r, a0W, Bool.and_eq_true, decide_eq_true_eq, List.all_eq_true, List.mem_range, hhead]
 constructor
 ·rintro ⟨h8, h⟩
  refine ⟨fun i hi => ⟨(h i hi).1, ?_⟩, h8⟩
  simp only [noIn, List.all_eq_true, Bool.not_eq_true']
  intro g hg
  obtain ⟨k, hk, rfl⟩ := List.getElem_of_mem hg
  rw [show t[k] = t.getD k default by simp [List.getD_eq_getElem?_getD, hk], b3Y]
  cases hp : a5z ((t.getD i default).path ++ [47]) (t.getD k default).path with
  | false => rfl
  | true =>
   exfalso
   have hlt := c8o hp
   have hik : i < k := by
    rcases Nat.lt_trichotomy i k with h1 | h1 | h1
    ·exact h1
    ·subst h1; exact absurd hlt (a2S _)
    ·exact absurd hlt (a4j (hasc (fun i hi => (h i hi).1) k i h1 hi))
   have h2 := (h k hk).2
   simp only [noUp, List.all_eq_true, List.mem_range, Bool.not_eq_true'] at h2
   have h3 := h2 i hik
   have p1 := (h i hi).1
   have p2 := (h k hk).1
   simp only [a2W, Bool.and_eq_true] at p1 p2
   simp only [a4X, p1.1.2, p2.1.2, hp, Bool.and_self, reduceCtorEq] at h3
 ·rintro ⟨h, h8⟩
  refine ⟨h8, fun i hi => ⟨(h i hi).1, ?_⟩⟩
  simp only [noUp, List.all_eq_true, List.mem_range, Bool.not_eq_true']
  intro k hk
  have h2 := (h k (by omega)).2
  simp only [noIn, List.all_eq_true, Bool.not_eq_true'] at h2
  have h3 := h2 _ (List.getElem_mem hi)
  rw [show t[i] = t.getD i default by simp [List.getD_eq_getElem?_getD, hi], b3Y] at h3
  simp only [a4X, h3, Bool.and_false]
theorem c4t {α : Type} {l : List α} {i : Nat} {q : α -> Prop} (h : i < l.length) (hb : ∀ x, x ∈ l.take i -> q x) (hi : q l[i]) : ∀ x, x ∈ l.take (i + 1) -> q x := by
 intro x hx
 rw [List.take_succ_eq_append_getElem h, List.mem_append] at hx
 rcases hx with hx | hx
 ·exact hb x hx
 ·simp only [List.mem_singleton] at hx
  subst hx; exact hi
def atB (p q : Str) : Bool := decide (p = q) || a5z (q ++ [47]) p
def b5E : Con := .fn 16 (FileD × Str) (fun a => [.agg [.str a.1.path, .sl true 1 (a0a a.1.text)], .str a.2]) (fun a => a.2.length <= 536870912) (fun a => .bool (atB a.1.path a.2)) (fun _ => [])
theorem b6V : Has Tryz.prog 133 b5E := by
 refine a0d mixed a0g (HasL.cons a9n HasL.nil) [0, 1, 2, 4] ((fun a n (_ : Nat) => (fun _ => a0s) a n)) [] Tryz.func133 (by unfold Tryz.f133; rfl) (fun _ => ⟨(), trivial⟩) ?_
 intro a ha
 obtain ⟨⟨p, x⟩, q⟩ := a
 replace ha : q.length <= 536870912 := ha
 simp -implicitDefEqProofs [b5E, Con.fn, tTab, a6l]
 try dsimp only
 try simp +contextual [eStr, a0p, a0N, a0V, a0O, List.getElem?_eq_getElem, a0P, a0y, a0L, a0H, <- a0n, <- a0q, a0w, a0F, a0D, a0C, a0z, a0v, and_assoc]
 repeat' (first | intro _ | apply And.intro)
 all_goals first | omega | grind [a1b, atB, maxLen]

theorem c7g (f : FileD) (q : Str) : atB f.path q = (decide (q = f.path) || inB q f.path) := by
 unfold atB
 rw [b3Y]
 congr 1
 simp only [eq_comm]





theorem a9Q {l : List Str} {x : List D} {d : D} (h : x ∈ a0a l) (h' : d ∈ x) : ∃ s, d = D.str s := by
 simp only [a0a, List.mem_map] at h
 obtain ⟨s, _, rfl⟩ := h
 simp only [eStr, List.mem_singleton] at h'
 exact ⟨s, h'⟩
def a4S : Con := .fn 6 (List Str) (fun a => [.sl true 1 (a0a a)]) (fun a => a.length <= 1048576) (fun a => .own 8 1 (a0a a)) (fun a => a1Y 8 a)
theorem a5l : Has Tryz.prog 136 a4S := by
 refine a0d mixed a0g HasL.nil [0, 2] ((fun a n (_ : Nat) => (fun _ => a0s) a n)) [] Tryz.func136 (by unfold Tryz.f136; rfl) (fun _ => ⟨(), trivial⟩) ?_
 intro (a : List Str) ha
 replace ha : a.length <= 1048576 := ha
 simp -implicitDefEqProofs [a4S, Con.fn, tTab]
 try dsimp only
 try simp +contextual [eStr, a0p, a0N, a0V, a0O, List.getElem?_eq_getElem, a0P, a0y, a0L, a0H, <- a0n, <- a0q, a0w, a0F, a0D, a0C, a0z, a0v, and_assoc]
 repeat' (first | intro _ | apply And.intro)
 all_goals first | omega | grind [a1b, a9Q]
def a2E : Con := .fn 23 (List FileD) (fun a => [.sl true 2 (a0b a)]) (fun a => a.length <= 1048576 /\ ∀ f ∈ a, f.text.length <= 1048576) (fun a => .own 8 2 (a0b a)) (fun a => a2m 8 a)
theorem a2l : Has Tryz.prog 91 a2E := by
 refine a0d mixed a0g (HasL.cons a5l HasL.nil) [0, 2, 3, 5, 6, 7, 8] ((fun a n (_ : Nat) => (fun a _ => ⟨Nat, fun i => ⟨[(2, true, .nil), (3, true, .own 9 2 (a0b (a.take i))), (6, true, .sl true 2 (a0b a)), (7, true, .int .i64 a.length), (8, true, .int .i64 i)], a2m 9 (a.take i)⟩, fun i => i <= a.length, fun i => a.length - i⟩) a n)) [19] Tryz.func91 (by unfold Tryz.f91; rfl) (fun _ => ⟨(), trivial⟩) ?_
 intro (a : List FileD) ha
 obtain ⟨h1, h2⟩ : a.length <= 1048576 /\ ∀ f ∈ a, f.text.length <= 1048576 := ha
 have h3 : ∀ i (h : i < a.length), a[i].text.length <= 1048576 := fun i h => h2 _ (List.getElem_mem h)
 simp -implicitDefEqProofs [a2E, Con.fn, tTab, a4S]
 try dsimp only
 try simp +contextual [eStr, a0p, a0N, a0V, a0O, List.getElem?_eq_getElem, a0P, a0y, a0L, a0H, <- a0n, <- a0q, a0w, a0F, a0D, a0C, a0z, a0v, and_assoc, <- FileD.eq_iff]
 repeat' (first | intro _ | apply And.intro)
 all_goals first | omega | grind [a1b, List.take_of_length_le, List.take_succ_eq_append_getElem]
def a4T : Con := .fn 29 (List FileD) (fun a => [.sl true 2 (a0b a)]) (fun a => a.length <= 1048576 /\ ∀ f ∈ a, f.text.length <= 1048576) (fun a => .own 8 2 (a0b a)) (fun a => a2m 8 a)
theorem a4r : Has Tryz.prog 142 a4T := by
 refine a0d mixed a0g HasL.nil [0, 2, 3, 4] ((fun a n (_ : Nat) => (fun a _ => ⟨Nat, fun i => ⟨[(0, true, .sl true 2 (a0b a)), (2, true, .nil), (3, true, .own 9 2 (a0b (a.take i))), (4, true, .int .i64 i)], a2m 9 (a.take i)⟩, fun i => i <= a.length, fun i => a.length - i⟩) a n)) [26] Tryz.func142 (by unfold Tryz.f142; rfl) (fun _ => ⟨(), trivial⟩) ?_
 intro (a : List FileD) ha
 obtain ⟨h1, h2⟩ : a.length <= 1048576 /\ ∀ f ∈ a, f.text.length <= 1048576 := ha
 have h3 : ∀ i (h : i < a.length), a[i].text.length <= 1048576 := fun i h => h2 _ (List.getElem_mem h)
 simp -implicitDefEqProofs [a4T, Con.fn, tTab]
 try dsimp only
 try simp +contextual [eStr, a0p, a0N, a0V, a0O, List.getElem?_eq_getElem, a0P, a0y, a0L, a0H, <- a0n, <- a0q, a0w, a0F, a0D, a0C, a0z, a0v, and_assoc, <- FileD.eq_iff]
 repeat' (first | intro _ | apply And.intro)
 all_goals first | omega | grind [a1b, a9Q, List.take_of_length_le, List.take_succ_eq_append_getElem]
def filB (p : FileD -> Bool) (t : List FileD) : List FileD := t.filter p
theorem b3T {p : FileD -> Bool} {t : List FileD} {i : Nat} (h : i < t.length) (hp : p t[i] = true) : filB p (t.take (i + 1)) = filB p (t.take i) ++ [t[i]] := by
 unfold filB
 rw [a0x h, List.filter_append]
 simp [List.filter_cons, hp]
theorem b1P {p : FileD -> Bool} {t : List FileD} {i : Nat} (h : i < t.length) (hp : p t[i] = false) : filB p (t.take (i + 1)) = filB p (t.take i) := by
 unfold filB
 rw [a0x h, List.filter_append]
 simp [List.filter_cons, hp]
theorem c2H (p : FileD -> Bool) (t : List FileD) (i : Nat) : (filB p (t.take i)).length <= i := by
 have := List.length_filter_le p (t.take i)
 unfold filB
 simp at this; omega
theorem b9q (p : FileD -> Bool) : filB p [] = [] := rfl
def a3G (p : FileD -> Bool) (t : List FileD) (i : Nat) : List (List D) := (t.take i).map (fun f => if p f then [.str f.path, .junk] else a0p f) ++ a0b (t.drop i)
theorem c2Q (p : FileD -> Bool) (t : List FileD) (i : Nat) : (a3G p t i).length = t.length := by simp [a3G]; omega
theorem c0D (p : FileD -> Bool) (t : List FileD) : a3G p t 0 = a0b t := by simp [a3G]
theorem c2O {p : FileD -> Bool} {t : List FileD} {i : Nat} (h : i < t.length) : (a3G p t i)[i]? = some (a0p t[i]) := by
 unfold a3G
 rw [List.getElem?_append_right (by simp; omega), List.length_map, List.length_take, Nat.min_eq_left (by omega), Nat.sub_self, eFiles_get, List.drop_eq_getElem_cons h]
 rfl
theorem c0C {p : FileD -> Bool} {t : List FileD} {i : Nat} (h : i < t.length) (hp : p t[i] = false) : a3G p t (i + 1) = a3G p t i := by
 unfold a3G
 rw [a0x h, List.map_append, List.drop_eq_getElem_cons h]
 simp only [List.map_cons, List.map_nil, hp, Bool.false_eq_true, if_false, a0b, List.append_assoc, List.cons_append, List.nil_append]
theorem c2P {p : FileD -> Bool} {t : List FileD} {i : Nat} (h : i < t.length) (hp : p t[i] = true) : (a3G p t i).set i [.str t[i].path, .junk] = a3G p t (i + 1) := by
 unfold a3G
 rw [a0x h, List.map_append]
 rw [List.set_append_right _ _ (by simp; omega), List.length_map, List.length_take, Nat.min_eq_left (by omega), Nat.sub_self, List.drop_eq_getElem_cons h]
 simp only [List.map_cons, List.map_nil, hp, if_true, a0b, List.append_assoc, List.cons_append, List.nil_append, List.set_cons_zero]
def a1k (f : FileD) (acc : List FileD × Bool) (g : FileD) : List FileD × Bool :=
 if acc.2 = false /\ Go.Op.bytesLess g.path f.path = false then (if g.path = f.path then (acc.1 ++ [f], true) else (acc.1 ++ [f] ++ [g], true))
 else (if g.path = f.path then acc else (acc.1 ++ [g], acc.2))
def setL (f : FileD) (l : List FileD) : List FileD × Bool := l.foldl (a1k f) ([], false)
def setS (t : List FileD) (f : FileD) : List FileD := if (setL f t).2 then (setL f t).1 else (setL f t).1 ++ [f]
theorem a5a {f : FileD} {t : List FileD} {i : Nat} (h : i < t.length) : setL f (t.take (i + 1)) = a1k f (setL f (t.take i)) t[i] := by
 unfold setL
 rw [a0x h, List.foldl_append]; rfl
theorem b8W (f : FileD) (acc : List FileD × Bool) (g : FileD) : (a1k f acc g).1.length + acc.2.toNat <= acc.1.length + (a1k f acc g).2.toNat + 1 := by
 unfold a1k
 split
 ·rename_i h
  rw [h.1]
  split <;> simp <;> omega
 ·split <;> simp <;> omega
theorem b7M (f : FileD) (t : List FileD) : (setL f t).1.length <= t.length + (setL f t).2.toNat := by
 have : ∀ (t : List FileD) (acc : List FileD × Bool), (t.foldl (a1k f) acc).1.length + acc.2.toNat <= acc.1.length + t.length + (t.foldl (a1k f) acc).2.toNat := by
  intro t
  induction t with
  | nil => intro acc; simp
  | cons g r ih =>
   intro acc
   have h1 := ih (a1k f acc g)
   have h2 := b8W f acc g
   simp only [List.foldl_cons, List.length_cons]
   omega
 have := this t ([], false)
 simpa [setL] using this
theorem c6N (t : List FileD) (f : FileD) : (setS t f).length <= t.length + 1 := by
 have := b7M f t
 unfold setS
 split
 ·rename_i h; rw [h] at this; simpa using this
 ·rename_i h
  have h : (setL f t).2 = false := by simpa using h
  rw [h] at this; simp at this ⊢; omega
def b2z : Con := .fn 65 (List FileD × FileD) (fun a => [.sl true 2 (a0b a.1), .agg [.str a.2.path, .sl true 1 (a0a a.2.text)]]) (fun a => a.1.length <= 1048576 /\ a.2.text.length <= 1048576) (fun a => .sl false 2 (a0b (setS a.1 a.2))) (fun _ => [])
theorem b4L : Has Tryz.prog 164 b2z := by
 refine a0d mixed a0g HasL.nil [0, 1, 3, 4, 5, 6, 7] ((fun a n (_ : Nat) => (fun a _ => ⟨Nat, fun i => ⟨[(0, true, .sl true 2 (a0b a.1)), (3, true, .ptr 10 0), (4, true, .nil), (5, true, .own 9 2 (a0b (setL a.2 (a.1.take i)).1)), (6, true, .bool (setL a.2 (a.1.take i)).2), (7, true, .int .i64 i)], [(10, .box 66 [.str a.2.path, .sl true 1 (a0a a.2.text)]), (9, .own 66 2 false (a0b (setL a.2 (a.1.take i)).1))]⟩, fun i => i <= a.1.length, fun i => a.1.length - i⟩) a n)) [35, 62] Tryz.func164 (by unfold Tryz.f164; rfl) (fun _ => ⟨(), trivial⟩) ?_
 intro a ha
 obtain ⟨t, f⟩ := a
 obtain ⟨q1, q2⟩ : t.length <= 1048576 /\ f.text.length <= 1048576 := ha
 have a0 : setL f [] = ([], false) := rfl
 have a1 : ∀ i (h : i < t.length), (setL f (t.take i)).2 = true -> ¬ t[i].path = f.path -> setL f (t.take (i + 1)) = ((setL f (t.take i)).1 ++ [t[i]], true) := fun i h h1 h2 => by rw [a5a h]; simp [a1k, h1, h2]
 have a2 : ∀ i (h : i < t.length), (setL f (t.take i)).2 = true -> t[i].path = f.path -> setL f (t.take (i + 1)) = ((setL f (t.take i)).1, true) := fun i h h1 h2 => by rw [a5a h]; unfold a1k; rw [if_neg (by simp [h1]), if_pos h2]; exact Prod.ext rfl h1
 have a3 : ∀ i (h : i < t.length), (setL f (t.take i)).2 = false -> Go.Op.bytesLess t[i].path f.path = false -> ¬ t[i].path = f.path -> setL f (t.take (i + 1)) = ((setL f (t.take i)).1 ++ [f] ++ [t[i]], true) := fun i h h1 h3 h2 => by rw [a5a h]; simp [a1k, h1, h2, h3]
 have a4 : ∀ i (h : i < t.length), (setL f (t.take i)).2 = false -> Go.Op.bytesLess t[i].path f.path = false -> t[i].path = f.path -> setL f (t.take (i + 1)) = ((setL f (t.take i)).1 ++ [f], true) := fun i h h1 h3 h2 => by rw [a5a h]; rw [h2] at h3; simp [a1k, h1, h2, h3]
 have a5 : ∀ i (h : i < t.length), (setL f (t.take i)).2 = false -> Go.Op.bytesLess t[i].path f.path = true -> ¬ t[i].path = f.path -> setL f (t.take (i + 1)) = ((setL f (t.take i)).1 ++ [t[i]], false) := fun i h h1 h3 h2 => by rw [a5a h]; simp [a1k, h1, h2, h3]
 have a6 : ∀ i (h : i < t.length), (setL f (t.take i)).2 = false -> Go.Op.bytesLess t[i].path f.path = true -> t[i].path = f.path -> setL f (t.take (i + 1)) = ((setL f (t.take i)).1, false) := fun i h h1 h3 h2 => by rw [a5a h]; unfold a1k; rw [if_neg (by simp [h3]), if_pos h2]; exact Prod.ext rfl h1
 have a7 : ∀ i, (setL f (t.take i)).1.length <= 1048577 := fun i => by
  have h1 := b7M f (t.take i)
  have h2 := Bool.toNat_le (setL f (t.take i)).2
  have h3 : (t.take i).length <= t.length := by simp; omega
  omega
 have a8 : (setL f t).2 = true -> setS t f = (setL f t).1 := fun h => by simp [setS, h]
 have a9 : (setL f t).2 = false -> setS t f = (setL f t).1 ++ [f] := fun h => by simp [setS, h]
 simp -implicitDefEqProofs [b2z, Con.fn, tTab]
 try dsimp only
 have b1 : ∀ (X : List FileD) (g : FileD), a0b X ++ [[D.str f.path, D.sl 9 1 (a0a f.text)], [D.str g.path, D.sl 9 1 (a0a g.text)]] = a0b (X ++ [f] ++ [g]) := fun X g => by simp [a0b, a0p]
 refine ⟨⟨0, by simp [a0]⟩, ?_⟩
 try simp +contextual [eStr, a0p, a0N, a0V, a0O, List.getElem?_eq_getElem, a0P, a0y, a0L, a0H, <- a0n, <- a0q, a0w, a0F, a0D, a0C, a0z, a0v, and_assoc, b1, <- FileD.eq_iff]
 repeat' (first | intro _ | apply And.intro)
 all_goals first | omega | grind [a1b, a9Q, List.take_of_length_le]
theorem a1L (b : List Str) (x : Str) (R : List (List D)) : (a0a b = [D.str x] :: R) = ∃ t, b = x :: t /\ a0a t = R := by
 apply propext
 constructor
 ·intro h
  cases b with
  | nil => cases h
  | cons y t =>
   simp only [a0a, List.map_cons, List.cons.injEq, eStr, D.str.injEq, and_true] at h
   exact ⟨t, by rw [h.1], h.2⟩
 ·rintro ⟨t, rfl, rfl⟩; rfl
theorem b6G (b : List Int) (x : Int) (R : List (List D)) : (a0h b = [D.int .i64 x] :: R) = ∃ t, b = x :: t /\ a0h t = R := by
 apply propext
 constructor
 ·intro h
  cases b with
  | nil => cases h
  | cons y t =>
   simp only [a0h, List.map_cons, List.cons.injEq, eInt, D.int.injEq, true_and, and_true] at h
   exact ⟨t, by rw [h.1], h.2⟩
 ·rintro ⟨t, rfl, rfl⟩; rfl
def c0l : Con := { A := Str × Int, X := Str, n := 6, args := fun _ => [.ptr 0 0], boxes := fun a => [(0, 140, [.sl true 1 (a1g a.1), .int .i64 a.2])], pre := fun a => a.1.length <= 2000 /\ 0 <= a.2 /\ a.2 <= 1073741824, post := fun _ x => x.length <= 7, res := fun _ x => .str x, fin := fun a _ => [(0, a3m a.1 (a.2 + 1))], nob := false }
theorem c5W : Has Tryz.prog 189 c0l := by
 refine a0d mixed a0g (HasL.cons of_has HasL.nil) [0, 2] ((fun a n (_ : Nat) => (fun _ => a0s) a n)) [] Tryz.func189 (by unfold Tryz.f189; rfl) (fun _ => ⟨([] : Str), Nat.zero_le 7⟩) ?_
 intro a ha
 obtain ⟨s, p⟩ := a
 obtain ⟨h1, h2, h3⟩ : s.length <= 2000 /\ 0 <= p /\ p <= 1073741824 := ha
 simp -implicitDefEqProofs [c0l, cOf, tTab, a1L, clash, kd, a2x, a2M]
 refine ⟨s, p, ⟨rfl, rfl⟩, ⟨h1, h2, h3⟩, ?_⟩
 simp
def c0n : Con := { A := Str × Int, X := Str, n := 6, args := fun _ => [.ptr 0 0], boxes := fun a => [(0, 140, [.sl true 1 (a1g a.1), .int .i64 a.2])], pre := fun a => a.1.length <= 2000 /\ 0 <= a.2 /\ a.2 <= 1073741824, post := fun _ x => x.length <= 5, res := fun _ x => .str x, fin := fun a _ => [(0, a3m a.1 (a.2 + 1))], nob := false }
theorem c6t : Has Tryz.prog 161 c0n := by
 refine a0d mixed a0g (HasL.cons of_has HasL.nil) [0, 2] ((fun a n (_ : Nat) => (fun _ => a0s) a n)) [] Tryz.func161 (by unfold Tryz.f161; rfl) (fun _ => ⟨([] : Str), Nat.zero_le 5⟩) ?_
 intro a ha
 obtain ⟨s, p⟩ := a
 obtain ⟨h1, h2, h3⟩ : s.length <= 2000 /\ 0 <= p /\ p <= 1073741824 := ha
 simp -implicitDefEqProofs [c0n, cOf, tTab, a1L, clash, kd, a2x, a2M]
 refine ⟨s, p, ⟨rfl, rfl⟩, ⟨h1, h2, h3⟩, ?_⟩
 simp
def c0o : Con := { A := Str × Int, X := List Str × Int, n := 19, args := fun _ => [.ptr 0 0], boxes := fun a => [(0, 140, [.sl true 1 (a1g a.1), .int .i64 a.2])], pre := fun a => a.1.length <= 2000 /\ 0 <= a.2 /\ a.2 <= 1073741800, post := fun a x => x.1.length <= 8 /\ (∀ s ∈ x.1, s.length <= 7) /\ a.2 <= x.2 /\ x.2 <= a.2 + 9, res := fun _ x => .own 8 1 (a0a x.1), fin := fun a x => [(0, a3m a.1 x.2), (8, .own 9 1 true (a0a x.1))], nob := false }
theorem c6V : Has Tryz.prog 162 c0o := by
 refine a0d mixed a0g (HasL.cons one_has (HasL.cons c5W HasL.nil)) [0, 2, 3, 4] ((fun a n (_ : Nat) => (fun a _ => ⟨List Str × Int × Nat, fun t => ⟨[(0, true, .ptr 0 0), (2, true, .nil), (3, true, .own 9 1 (a0a t.1)), (4, true, .int .i64 t.2.2)], [(0, a3m a.1 t.2.1), (9, .own 9 1 true (a0a t.1))]⟩, fun t => t.1.length + t.2.2 <= 8 /\ (∀ s ∈ t.1, s.length <= 7) /\ a.2 <= t.2.1 /\ t.2.1 <= a.2 + 1 + t.1.length, fun t => t.2.2⟩) a n)) [] Tryz.func162 (by unfold Tryz.f162; rfl) (fun a => ⟨(([] : List Str), a.2), Nat.zero_le 8, (by simp), Int.le_refl _, by omega⟩) ?_
 intro a ha
 obtain ⟨s, p⟩ := a
 obtain ⟨h1, h2, h3⟩ : s.length <= 2000 /\ 0 <= p /\ p <= 1073741800 := ha
 simp -implicitDefEqProofs [c0o, cOne, c0l, tTab, b6G, clash, kd, a2x, a2M]
 refine ⟨s, p, ⟨rfl, rfl⟩, ⟨h1, by omega, by omega⟩, ?_⟩
 refine ⟨⟨⟨[], p + 1, 0, by simp; omega⟩, ?_⟩, ⟨⟨[], p + 1, 1, by simp; omega⟩, ?_⟩, ⟨⟨[], p + 1, 3, by simp; omega⟩, ?_⟩, ⟨⟨[], p + 1, 5, by simp; omega⟩, ?_⟩, ⟨[], p + 1, 8, by simp; omega⟩, ?_⟩
 all_goals
  intro a q n g1 g2 g3 g4
  refine ⟨fun hn => ⟨s, q, ⟨rfl, rfl⟩, ⟨h1, by omega, by omega⟩, fun y hy => ⟨by omega, by omega, fun _ _ => ⟨a ++ [y], q + 1, n - 1, ⟨⟨(a0z a y).symm, by omega⟩, ⟨rfl, rfl⟩, a0z a y⟩, ⟨by simp; omega, fun x hx => ?_, by omega, by simp; omega⟩, by omega⟩⟩⟩, fun hn => ⟨a, q, ⟨by omega, g2, by omega, by omega⟩, rfl, rfl, rfl⟩⟩
  rcases List.mem_append.1 hx with hx | hx
  ·exact g2 x hx
  ·simp at hx; subst hx; exact hy
def a2f (t : List FileD) (f : FileD) : List FileD × Bool := if a0W t then (if a0W (setS t f) then (setS t f, true) else (t, false)) else ([], false)
def a9L : Con := .fn 20 (List FileD × FileD) (fun a => [.sl true 2 (a0b a.1), .agg [.str a.2.path, .sl true 1 (a0a a.2.text)]]) (fun a => (a.1.length <= 1048575 /\ ∀ f ∈ a.1, f.text.length <= 1048576) /\ a.2.text.length <= 1048576) (fun a => .tup [.sl false 2 (a0b (a2f a.1 a.2).1), .bool (a2f a.1 a.2).2]) (fun _ => [])
theorem b7W : Has Tryz.prog 123 a9L := by
 refine a0d mixed a0g (HasL.cons a6X (HasL.cons a4r (HasL.cons b4L HasL.nil))) [0, 1, 3, 4, 5, 6] ((fun a n (_ : Nat) => (fun _ => a0s) a n)) [] Tryz.func123 (by unfold Tryz.f123; rfl) (fun _ => ⟨(), trivial⟩) ?_
 intro a ha
 obtain ⟨t, f⟩ := a
 obtain ⟨⟨q1, q2⟩, q3⟩ : (t.length <= 1048575 /\ ∀ f ∈ t, f.text.length <= 1048576) /\ f.text.length <= 1048576 := ha
 simp -implicitDefEqProofs [a9L, Con.fn, tTab, a8z, a4T, b2z, a2f]
 try dsimp only
 try simp +contextual -implicitDefEqProofs [eStr, a0p, a0N, a0V, a0O, List.getElem?_eq_getElem, a0P, a0y, a0L, a0H, <- a0n, <- a0q, a0w, a0F, a0D, a0C, a0z, a0v, and_assoc]
 repeat' (first | intro _ | apply And.intro)
 all_goals first | omega | grind [a1b, a2f]

def a5H : Con := .fn 11 (RepoD × Int) (fun a => [a0Y a.1, .int .i64 a.2]) (fun a => a.1.commits.length <= 1073741824) (fun a => .bool (decide (0 <= a.2) && decide (a.2 <= (a.1.commits.length : Int) - 1))) (fun _ => [])
theorem a5n : Has Tryz.prog 90 a5H := by
 refine a0d mixed a0g (HasL.cons a6z HasL.nil) [0, 1, 2, 4] ((fun a n (_ : Nat) => (fun _ => a0s) a n)) [] Tryz.func90 (by unfold Tryz.f90; rfl) (fun _ => ⟨(), trivial⟩) ?_
 intro a ha
 obtain ⟨r, n⟩ := a
 replace ha : r.commits.length <= 1073741824 := ha
 simp -implicitDefEqProofs [a5H, Con.fn, tTab, a6E]
 try dsimp only
 try simp +contextual -implicitDefEqProofs [eStr, a0p, a0N, a0V, a0O, List.getElem?_eq_getElem, a0P, a0y, a0L, a0H, <- a0n, <- a0q, a0w, a0F, a0D, a0C, a0z, a0v, and_assoc]
 repeat' (first | intro _ | apply And.intro)
 all_goals first | omega | grind [a1b]
def inN (n : Nat) (a : Int) : Bool := decide (0 <= a) && decide (a <= (n : Int) - 1)
def okHd (n : Nat) (h : List HeadD) (i : Nat) : Bool := a1a (h.getD i default).name && inN n (h.getD i default).at_ && (decide (i = 0) || Go.Op.bytesLess (h.getD (i - 1) default).name (h.getD i default).name)
def a1M (n : Nat) (h : List HeadD) : Bool := decide (h.length <= 5) && (List.range h.length).all (okHd n h)
theorem a1R (n : Nat) (h : List HeadD) : a1M n h = true ↔ h.length <= 5 /\ ∀ i, i < h.length -> okHd n h i = true := by simp -implicitDefEqProofs [a1M]
theorem b4F {n : Nat} {h : List HeadD} {i : Nat} (hi : i < h.length) (hb : okHd n h i = false) : a1M n h = false := by
 cases hq : a1M n h with
 | false => rfl
 | true => have := ((a1R n h).1 hq).2 i hi; simp -implicitDefEqProofs [hb] at this
def b1z : Con := .fn 44 (RepoD × List HeadD) (fun a => [a0Y a.1, .sl true 2 (a0c a.2)]) (fun a => a.1.commits.length <= 1073741824) (fun a => .bool (a1M a.1.commits.length a.2)) (fun _ => [])
theorem b8r : Has Tryz.prog 76 b1z := by
 refine a0d mixed a0g (HasL.cons a4u (HasL.cons a5n HasL.nil)) [0, 1, 2, 4, 5, 6, 10, 11, 12] ((fun a n (_ : Nat) => (fun a _ => ⟨Nat, fun i => ⟨[(1, true, .sl true 2 (a0c a.2)), (2, true, .ptr 10 0), (4, true, .bool false), (10, true, .sl true 2 (a0c a.2)), (11, true, .int .i64 a.2.length), (12, true, .int .i64 i)], [(10, .box 32 [.sl true 3 (a0e a.1.commits), .sl true 2 (a0c a.1.heads)])]⟩, fun i => i <= a.2.length /\ a.2.length <= 5 /\ ∀ j, j < i -> okHd a.1.commits.length a.2 j = true, fun i => a.2.length - i⟩) a n)) [] Tryz.func76 (by unfold Tryz.f76; rfl) (fun _ => ⟨(), trivial⟩) ?_
 intro a ha
 obtain ⟨r, t⟩ := a
 replace ha : r.commits.length <= 1073741824 := ha
 have hB : 5 < t.length -> a1M r.commits.length t = false := fun h => by
  cases hq : a1M r.commits.length t with
  | false => rfl
  | true => have := ((a1R _ _).1 hq).1; omega
 have hN := fun i => @b4F r.commits.length t i
 have hE := (a1R r.commits.length t).2
 have hg : ∀ i (h : i < t.length), t.getD i default = t[i] := fun i h => by simp -implicitDefEqProofs [List.getD_eq_getElem?_getD, h]
 have hgg : ∀ i (h : i < t.length), t[i]?.getD default = t[i] := fun i h => by simp -implicitDefEqProofs [h]
 have e1 : ∀ k (h : k < t.length), Option.map a1d t[k]? = some (a1d t[k]) := fun k h => by simp -implicitDefEqProofs [List.getElem?_eq_getElem h]
 simp -implicitDefEqProofs [b1z, Con.fn, tTab, a4V, a5H]
 try dsimp only
 refine fun _ => ⟨fun h => hB (by omega), fun h5 _ => ⟨by omega, fun i hi _ hprev => ⟨fun hlt => ?_, fun hge => hE ⟨by omega, fun j hj => hprev j (by omega)⟩⟩⟩⟩
 have e3 := e1 i hlt
 have e4 := e1 (i - 1) (by omega)
 have hh : okHd r.commits.length t i = (a1a t[i].name && inN r.commits.length t[i].at_ && (decide (i = 0) || Go.Op.bytesLess (t[i - 1]'(by omega)).name t[i].name)) := by
  unfold okHd
  rw [hg i hlt, hg (i - 1) (by omega)]
 have hn := hN i hlt
 rw [hh] at hn
 unfold inN at hn hh
 simp -implicitDefEqProofs [hlt, e3, e4, a1d, D.asStr, D.asInt, a0V, and_assoc]
 try simp +contextual -implicitDefEqProofs [eStr, a0p, a0N, a0V, a0O, List.getElem?_eq_getElem, a0P, a0y, a0L, a0H, <- a0n, <- a0q, a0w, a0F, a0D, a0C, a0z, a0v, and_assoc, hlt]
 clear e1 hg hgg hN hE hB
 repeat' (first | intro _ | apply And.intro)
 all_goals first | omega | grind -ring
def okI1 (cs : List CommitD) (i : Nat) : Bool :=
 decide ((cs.getD i default).parents.length <= 2) && !(decide ((cs.getD i default).parents.length = 2) && decide ((cs.getD i default).parents.getD 0 0 = (cs.getD i default).parents.getD 1 0)) && a1a (cs.getD i default).who && a0r (cs.getD i default).tree
def okCI (cs : List CommitD) (i : Nat) : Bool := okI1 cs i && (List.range (cs.getD i default).parents.length).all fun k => inN i ((cs.getD i default).parents.getD k 0)
def a0j (r : RepoD) : Bool := decide (r.commits.length <= 16) && (List.range r.commits.length).all (okCI r.commits) && a1M r.commits.length r.heads
def a1V (r : RepoD) : Prop := r.commits.length <= 1073741824 /\ ∀ c ∈ r.commits, ∀ f ∈ c.tree, f.path.length <= 536870912
def a1P (r : RepoD) : Blk := .box 32 [.sl true 3 (a0e r.commits), .sl true 2 (a0c r.heads)]
theorem a0t (r : RepoD) : a1P r = .box 32 [.sl true 3 (a0e r.commits), .sl true 2 (a0c r.heads)] := rfl
def riO (r : RepoD) : Inv := ⟨Nat, fun i => ⟨[(1, true, .ptr 10 0), (2, true, .bool false), (12, true, .sl true 3 (a0e r.commits)), (13, true, .int .i64 r.commits.length), (14, true, .int .i64 i)], [(10, a1P r)]⟩, fun i => i <= r.commits.length /\ r.commits.length <= 16 /\ ∀ j, j < i -> okCI r.commits j = true, fun i => r.commits.length - i⟩
def riI (r : RepoD) (g : Nat) : Inv := ⟨Nat, fun k => ⟨[(1, true, .ptr 10 0), (2, true, .bool false), (3, true, .int .i64 g), (12, true, .sl true 3 (a0e r.commits)), (13, true, .int .i64 r.commits.length), (14, true, .int .i64 g), (53, true, .sl true 1 (a0h (r.commits.getD g default).parents)), (54, true, .int .i64 (r.commits.getD g default).parents.length), (55, true, .int .i64 k)], [(10, a1P r)]⟩,
 fun k => g < r.commits.length /\ k <= (r.commits.getD g default).parents.length /\ r.commits.length <= 16 /\ (∀ j, j < g -> okCI r.commits j = true) /\ okI1 r.commits g = true /\ ∀ j, j < k -> inN g ((r.commits.getD g default).parents.getD j 0) = true, fun k => (r.commits.getD g default).parents.length - k⟩
def c1F (r : RepoD) (n g : Nat) : Inv := if n = 4 then riO r else riI r g
theorem c8x (r : RepoD) (g : Nat) : c1F r 4 g = riO r := rfl
theorem c8y (r : RepoD) (g : Nat) : c1F r 9 g = riI r g := rfl
theorem a4Z (r : RepoD) : a0j r = true ↔ r.commits.length <= 16 /\ (∀ i, i < r.commits.length -> okCI r.commits i = true) /\ a1M r.commits.length r.heads = true := by simp -implicitDefEqProofs [a0j, and_assoc]
theorem c6G {r : RepoD} {i : Nat} (hi : i < r.commits.length) (hb : okCI r.commits i = false) : a0j r = false := by
 cases hq : a0j r with
 | false => rfl
 | true => have := ((a4Z r).1 hq).2.1 i hi; simp -implicitDefEqProofs [hb] at this
theorem c4d {r : RepoD} (h : 16 < r.commits.length) : a0j r = false := by
 cases hq : a0j r with
 | false => rfl
 | true => have := ((a4Z r).1 hq).1; omega
theorem c6f {cs : List CommitD} {i : Nat} (h : okI1 cs i = false) : okCI cs i = false := by unfold okCI; rw [h]; rfl
theorem c6g {cs : List CommitD} {i k : Nat} (hk : k < (cs.getD i default).parents.length) (h : inN i ((cs.getD i default).parents.getD k 0) = false) : okCI cs i = false := by
 unfold okCI
 have : (List.range (cs.getD i default).parents.length).all (fun k => inN i ((cs.getD i default).parents.getD k 0)) = false := by
  rw [List.all_eq_false]
  exact ⟨k, List.mem_range.2 hk, by simpa using h⟩
 rw [this, Bool.and_false]
theorem c6h {cs : List CommitD} {i : Nat} (h : okI1 cs i = true) (h2 : ∀ k, k < (cs.getD i default).parents.length -> inN i ((cs.getD i default).parents.getD k 0) = true) : okCI cs i = true := by
 unfold okCI
 rw [h, Bool.true_and, List.all_eq_true]
 intro k hk
 exact h2 k (by simpa using hk)
def a2z : Con := .fn 70 RepoD (fun r => [a0Y r]) a1V (fun r => .bool (a0j r)) (fun _ => [])
theorem a1T : Has Tryz.prog 28 a2z := by
 refine a0d mixed a0g (HasL.cons a4u (HasL.cons a3M (HasL.cons a6z (HasL.cons b8r HasL.nil)))) [0, 1, 2, 3, 4, 6, 12, 13, 14, 53, 54, 55] (fun r => c1F r) [] Tryz.func28 (by unfold Tryz.f28; rfl) (fun _ => ⟨(), trivial⟩) ?_
 intro (r : RepoD) hr
 obtain ⟨hr1, hr2⟩ : r.commits.length <= 1073741824 /\ ∀ c ∈ r.commits, ∀ f ∈ c.tree, f.path.length <= 536870912 := hr
 have hp : ∀ i (h : i < r.commits.length), ∀ f ∈ r.commits[i].tree, f.path.length <= 536870912 := fun i h => hr2 _ (List.getElem_mem h)
 have hB := @c4d r
 have hN := fun i => @c6G r i
 have hN1 := fun i => @c6f r.commits i
 have hN2 := fun i k => @c6g r.commits i k
 have hY := fun i => @c6h r.commits i
 simp -implicitDefEqProofs [a2z, Con.fn, tTab, a4V, a4q, a6E, b1z, c8x, c8y, riO, riI, a0t]
 try dsimp only
 refine fun _ => ⟨fun h => hB (by omega), fun h16 _ => ⟨by omega, fun i hi _ hprev => ⟨fun hlt => ?_, fun hge => ?_⟩⟩⟩
 ·have e3 : Option.map a0E r.commits[i]? = some (a0E r.commits[i]) := by simp -implicitDefEqProofs [List.getElem?_eq_getElem hlt]
  have hgc : r.commits.getD i default = r.commits[i] := by simp -implicitDefEqProofs [List.getD_eq_getElem?_getD, hlt]
  have hpc := hp i hlt
  have n0 := hN i hlt
  have n1 := hN1 i
  have n2 := hN2 i
  have n3 := hY i
  have o1 : okI1 r.commits i = (decide (r.commits[i].parents.length <= 2) && !(decide (r.commits[i].parents.length = 2) && decide (r.commits[i].parents.getD 0 0 = r.commits[i].parents.getD 1 0)) && a1a r.commits[i].who && a0r r.commits[i].tree) := by
   unfold okI1; rw [hgc]
  rw [hgc] at n2 n3
  simp -implicitDefEqProofs [hlt, e3, a0E, D.asStr, D.asRows, a0V, and_assoc]
  try simp only [show r.commits[i]?.getD default = r.commits[i] by simp -implicitDefEqProofs [hlt]]
  generalize r.commits[i] = c at hpc n2 n3 o1 ⊢
  have hq : ∀ k (h : k < c.parents.length), inN i (c.parents[k]?.getD 0) = (decide (0 <= c.parents[k]) && decide (c.parents[k] <= (i : Int) - 1)) := fun k h => by simp -implicitDefEqProofs [inN, h]
  have n4 : ∀ k (h : k < c.parents.length), (decide (0 <= c.parents[k]) && decide (c.parents[k] <= (i : Int) - 1)) = false -> a0j r = false := fun k h hb => n0 (n2 k h (by rw [List.getD_eq_getElem?_getD, hq k h]; exact hb))
  have n5 : okI1 r.commits i = false -> a0j r = false := fun h => n0 (n1 h)
  have n6 : okI1 r.commits i = true -> (∀ j, j < c.parents.length -> inN i (c.parents[j]?.getD 0) = true) -> ∀ j, j < i + 1 -> okCI r.commits j = true := fun h1 h2 j hj => by
   rcases Nat.lt_or_ge j i with h3 | h3
   ·exact hprev j h3
   ·have : j = i := by omega
    subst this
    exact n3 h1 (fun k hk => by rw [List.getD_eq_getElem?_getD]; exact h2 k hk)
  clear n3 n2 n1 n0 hN hN1 hN2 hY hp hr2 hB hgc e3
  have o2 : ∀ (h : c.parents.length = 2), okI1 r.commits i = (!(decide (c.parents[0] = c.parents[1])) && a1a c.who && a0r c.tree) := fun h => by
   rw [o1]; simp -implicitDefEqProofs [h]
  have o3 : c.parents.length <= 2 -> ¬ c.parents.length = 2 -> okI1 r.commits i = (a1a c.who && a0r c.tree) := fun h h' => by
   rw [o1]; simp -implicitDefEqProofs [h, h']
  have o4 : 2 < c.parents.length -> okI1 r.commits i = false := fun h => by
   rw [o1]; simp -implicitDefEqProofs [show ¬ c.parents.length <= 2 by omega]
  clear o1
  refine ⟨fun h => n5 (o4 (by omega)), fun hl2 => ⟨fun h2 => ?_, fun h2 => ?_⟩⟩
  ·have q0 : Option.map eInt c.parents[0]? = some (eInt c.parents[0]) := by simp -implicitDefEqProofs [List.getElem?_eq_getElem (show 0 < c.parents.length by omega)]
   have q1 : Option.map eInt c.parents[1]? = some (eInt c.parents[1]) := by simp -implicitDefEqProofs [List.getElem?_eq_getElem (show 1 < c.parents.length by omega)]
   have o5 := o2 (by omega)
   simp -implicitDefEqProofs [q0, q1, eInt]
   refine ⟨by omega, fun _ => ⟨by omega, fun _ => ⟨fun he => n5 (by rw [o5]; simp -implicitDefEqProofs [he]), fun he => ⟨fun hn => n5 (by rw [o5]; simp -implicitDefEqProofs [hn]), fun hn => ⟨hpc, fun ht => n5 (by rw [o5]; simp -implicitDefEqProofs [ht]), fun ht _ => ⟨by omega, hprev, by rw [o5]; simp -implicitDefEqProofs [he, hn, ht], fun t ht1 _ _ hok hinv => ?_⟩⟩⟩⟩⟩⟩
   clear o2 o3 o4 o5 n5
   refine ⟨fun hlt2 => ?_, fun hge2 => ?_⟩
   ·have qt : Option.map eInt c.parents[t]? = some (eInt c.parents[t]) := by simp -implicitDefEqProofs [List.getElem?_eq_getElem hlt2]
    have n7 := n4 t hlt2
    have q7 := hq t hlt2
    simp -implicitDefEqProofs [qt, eInt, hlt2]
    have n8 : 0 <= c.parents[t] -> c.parents[t] <= (i : Int) - 1 -> ∀ j, j < t + 1 -> inN i (c.parents[j]?.getD 0) = true := fun g1 g2 j hj => by
     rcases Nat.lt_or_ge j t with h3 | h3
     ·exact hinv j h3
     ·have : j = t := by omega
      subst this
      rw [q7]
      simp -implicitDefEqProofs [g1, g2]
    refine ⟨by omega, by omega, fun _ _ => ⟨fun h => n7 (by simp; omega), fun g1 g2 => ⟨by omega, by omega, fun _ _ => ⟨t + 1, rfl, by omega, by omega, hprev, hok, n8 g1 g2, by omega⟩⟩⟩⟩
   ·have n7 := n6 hok (fun j hj => hinv j (by omega))
    exact ⟨by omega, by omega, fun _ _ => ⟨i + 1, rfl, by omega, by omega, n7, by omega⟩⟩
  ·have o5 := o3 (by omega) (by omega)
   refine ⟨fun hn => n5 (by rw [o5]; simp -implicitDefEqProofs [hn]), fun hn => ⟨hpc, fun ht => n5 (by rw [o5]; simp -implicitDefEqProofs [ht]), fun ht _ => ⟨by omega, hprev, by rw [o5]; simp -implicitDefEqProofs [hn, ht], fun t ht1 _ _ hok hinv => ?_⟩⟩⟩
   clear o2 o3 o4 o5 n5
   refine ⟨fun hlt2 => ?_, fun hge2 => ?_⟩
   ·have qt : Option.map eInt c.parents[t]? = some (eInt c.parents[t]) := by simp -implicitDefEqProofs [List.getElem?_eq_getElem hlt2]
    have n7 := n4 t hlt2
    have q7 := hq t hlt2
    simp -implicitDefEqProofs [qt, eInt, hlt2]
    have n8 : 0 <= c.parents[t] -> c.parents[t] <= (i : Int) - 1 -> ∀ j, j < t + 1 -> inN i (c.parents[j]?.getD 0) = true := fun g1 g2 j hj => by
     rcases Nat.lt_or_ge j t with h3 | h3
     ·exact hinv j h3
     ·have : j = t := by omega
      subst this
      rw [q7]
      simp -implicitDefEqProofs [g1, g2]
    refine ⟨by omega, by omega, fun _ _ => ⟨fun h => n7 (by simp; omega), fun g1 g2 => ⟨by omega, by omega, fun _ _ => ⟨t + 1, rfl, by omega, by omega, hprev, hok, n8 g1 g2, by omega⟩⟩⟩⟩
   ·have n7 := n6 hok (fun j hj => hinv j (by omega))
    exact ⟨by omega, by omega, fun _ _ => ⟨i + 1, rfl, by omega, by omega, n7, by omega⟩⟩
 ·refine ⟨r, r.heads, ⟨⟨rfl, rfl⟩, rfl⟩, hr1, ?_⟩
  rw [Bool.eq_iff_iff, a4Z]
  exact ⟨fun h => h.2.2, fun h => ⟨by omega, fun j hj => hprev j (by omega), h⟩⟩
def oneP (i : Nat) (ps : List Int) (k : Nat) : Bool := inN i (ps.getD k 0) && !(decide (0 < k) && decide (ps.getD k 0 = ps.getD 0 0))
def okS1 (c : CommitD) : Bool := decide (c.parents.length <= 2) && a1a c.who && a0W c.tree
def okCS (cs : List CommitD) (i : Nat) : Bool := (List.range (cs.getD i default).parents.length).all (oneP i (cs.getD i default).parents) && okS1 (cs.getD i default)
def a0f (r : RepoD) : Bool := (List.range r.commits.length).all (okCS r.commits) && a1M r.commits.length r.heads && decide (r.commits.length <= 16)
theorem a0Q (r : RepoD) : a0f r = true ↔ (∀ i, i < r.commits.length -> okCS r.commits i = true) /\ a1M r.commits.length r.heads = true /\ r.commits.length <= 16 := by simp -implicitDefEqProofs [a0f, and_assoc]
theorem c6H {r : RepoD} {i : Nat} (hi : i < r.commits.length) (hb : okCS r.commits i = false) : a0f r = false := by
 cases hq : a0f r with
 | false => rfl
 | true => have := ((a0Q r).1 hq).1 i hi; simp -implicitDefEqProofs [hb] at this
theorem c4e {r : RepoD} (hb : a1M r.commits.length r.heads = false) : a0f r = false := by
 unfold a0f; rw [hb]; simp
theorem c6i {cs : List CommitD} {i : Nat} (h : okS1 (cs.getD i default) = false) : okCS cs i = false := by unfold okCS; rw [h, Bool.and_false]
theorem c6j {cs : List CommitD} {i k : Nat} (hk : k < (cs.getD i default).parents.length) (h : oneP i (cs.getD i default).parents k = false) : okCS cs i = false := by
 unfold okCS
 have : (List.range (cs.getD i default).parents.length).all (oneP i (cs.getD i default).parents) = false := by
  rw [List.all_eq_false]
  exact ⟨k, List.mem_range.2 hk, by simpa using h⟩
 rw [this, Bool.false_and]
theorem c6k {cs : List CommitD} {i : Nat} (h : okS1 (cs.getD i default) = true) (h2 : ∀ k, k < (cs.getD i default).parents.length -> oneP i (cs.getD i default).parents k = true) : okCS cs i = true := by
 unfold okCS
 rw [h, Bool.and_true, List.all_eq_true]
 intro k hk
 exact h2 k (by simpa using hk)
theorem a0A (r : RepoD) : a0j r = a0f r := by
 have h : ∀ i, okCI r.commits i = okCS r.commits i := by
  intro i
  unfold okCI okCS okI1 okS1
  generalize r.commits.getD i default = c
  rw [a2t]
  rw [Bool.eq_iff_iff]
  simp only [Bool.and_eq_true, List.all_eq_true, List.mem_range, decide_eq_true_eq, oneP, Bool.not_eq_true', Bool.and_eq_false_iff, decide_eq_false_iff_not]
  constructor
  ·rintro ⟨⟨⟨⟨h1, h2⟩, h3⟩, h4⟩, h5⟩
   refine ⟨fun k hk => ⟨h5 k hk, ?_⟩, ⟨h1, h3⟩, h4⟩
   by_cases h0 : k = 0
   ·exact .inl (by omega)
   ·right
    have : k = 1 := by omega
    subst this
    rcases h2 with h2 | h2
    ·omega
    ·exact fun e => h2 e.symm
  ·rintro ⟨h1, ⟨h2, h3⟩, h4⟩
   refine ⟨⟨⟨⟨h2, ?_⟩, h3⟩, h4⟩, fun k hk => (h1 k hk).1⟩
   by_cases h0 : c.parents.length = 2
   ·right
    rcases (h1 1 (by omega)).2 with h5 | h5
    ·omega
    ·exact fun e => h5 e.symm
   ·exact .inl h0
 rw [Bool.eq_iff_iff, a4Z, a0Q]
 simp only [h]
 exact ⟨fun ⟨a, b, c⟩ => ⟨b, c, a⟩, fun ⟨b, c, a⟩ => ⟨a, b, c⟩⟩
def b0H : Con := .fn 26 (List Str × List Str) (fun a => [.sl true 1 (a0a a.1), .sl true 1 (a0a a.2)]) (fun _ => True) (fun a => .bool (decide (a.1 = a.2))) (fun _ => [])
theorem b2T : Has Tryz.prog 228 b0H := by
 refine a0d mixed a0g HasL.nil [0, 1, 4, 5] ((fun a n (_ : Nat) => (fun a _ => ⟨Nat, fun i => ⟨[(0, true, .sl true 1 (a0a a.1)), (1, true, .sl true 1 (a0a a.2)), (4, true, .bool false), (5, true, .int .i64 i)], []⟩, fun i => i <= a.1.length /\ a.1.length = a.2.length /\ a.1.take i = a.2.take i, fun i => a.1.length - i⟩) a n)) [] Tryz.func228 (by unfold Tryz.f228; rfl) (fun _ => ⟨(), trivial⟩) ?_
 intro a _
 obtain ⟨l, r⟩ := a
 simp -implicitDefEqProofs [b0H, Con.fn, tTab]
 try dsimp only
 try simp +contextual -implicitDefEqProofs [eStr, a0p, a0N, a0V, a0O, List.getElem?_eq_getElem, a0P, a0y, a0L, a0H, <- a0n, <- a0q, a0w, a0F, a0D, a0C, a0z, a0v, and_assoc]
 repeat' (first | intro _ | apply And.intro)
 all_goals first | omega | grind [a1b, a6F, a9R]
def getL : List FileD -> Str -> List Str × Bool
 | [], _ => ([], false)
 | f :: l, p => if f.path = p then (f.text, true) else getL l p
def b6t : Con := .fn 25 (List FileD × Str) (fun a => [.sl true 2 (a0b a.1), .str a.2]) (fun _ => True) (fun a => .tup [.sl true 1 (a0a (getL a.1 a.2).1), .bool (getL a.1 a.2).2]) (fun _ => [])
theorem c3r : Has Tryz.prog 213 b6t := by
 refine a0d mixed a0g HasL.nil [0, 1, 4, 5, 6] ((fun a n (_ : Nat) => (fun a _ => ⟨Nat, fun i => ⟨[(0, true, .sl true 2 (a0b a.1)), (1, true, .str a.2), (4, true, .nil), (5, true, .bool false), (6, true, .int .i64 i)], []⟩, fun i => i <= a.1.length /\ getL (a.1.drop i) a.2 = getL a.1 a.2, fun i => a.1.length - i⟩) a n)) [] Tryz.func213 (by unfold Tryz.f213; rfl) (fun _ => ⟨(), trivial⟩) ?_
 intro a _
 obtain ⟨t, p⟩ := a
 have e1 : ∀ i (h : i < t.length), getL (t.drop i) p = if t[i].path = p then (t[i].text, true) else getL (t.drop (i + 1)) p := fun i h => by rw [List.drop_eq_getElem_cons h]; rfl
 have e2 : ∀ i, t.length <= i -> getL (t.drop i) p = ([], false) := fun i h => by rw [List.drop_eq_nil_of_le h]; rfl
 simp -implicitDefEqProofs [b6t, Con.fn, tTab]
 try dsimp only
 refine fun i hi hpre _ => ⟨fun hlt => ?_, fun hge => ?_⟩
 ·have g := e1 i hlt
  rw [hpre] at g
  simp -implicitDefEqProofs [hlt, a0p, D.asStr, D.asRows, and_assoc]
  refine ⟨fun h => ?_, fun h => ⟨by omega, by omega, fun _ _ => ⟨i + 1, by omega, by omega, ?_, by omega⟩⟩⟩
  ·rw [g, if_pos h]; exact ⟨rfl, rfl⟩
  ·rw [g, if_neg h]
 ·rw [<- hpre, e2 i hge]; exact ⟨rfl, rfl⟩
def atL : List HeadD -> Str -> Int
 | [], _ => -1
 | h :: l, n => if h.name = n then h.at_ else atL l n
def a5j : Con := .fn 27 (RepoD × Str) (fun a => [a0Y a.1, .str a.2]) (fun _ => True) (fun a => .int .i64 (atL a.1.heads a.2)) (fun _ => [])
theorem a3I : Has Tryz.prog 55 a5j := by
 refine a0d mixed a0g HasL.nil [0, 1, 2, 4, 5] ((fun a n (_ : Nat) => (fun a _ => ⟨Nat, fun i => ⟨[(1, true, .str a.2), (2, true, .ptr 10 0), (4, true, .int .i64 0), (5, true, .int .i64 i)], [(10, a1P a.1)]⟩, fun i => i <= a.1.heads.length /\ atL (a.1.heads.drop i) a.2 = atL a.1.heads a.2, fun i => a.1.heads.length - i⟩) a n)) [] Tryz.func55 (by unfold Tryz.f55; rfl) (fun _ => ⟨(), trivial⟩) ?_
 intro a _
 obtain ⟨r, p⟩ := a
 have e1 : ∀ i (h : i < r.heads.length), atL (r.heads.drop i) p = if r.heads[i].name = p then r.heads[i].at_ else atL (r.heads.drop (i + 1)) p := fun i h => by rw [List.drop_eq_getElem_cons h]; rfl
 have e2 : ∀ i, r.heads.length <= i -> atL (r.heads.drop i) p = -1 := fun i h => by rw [List.drop_eq_nil_of_le h]; rfl
 simp -implicitDefEqProofs [a5j, Con.fn, tTab, a0t]
 try dsimp only
 refine fun i hi hpre _ => ⟨fun hlt => ?_, fun hge => by rw [<- hpre, e2 i hge]⟩
 have g := e1 i hlt
 rw [hpre] at g
 simp -implicitDefEqProofs [hlt, a1d, D.asStr, D.asInt, and_assoc]
 refine ⟨fun h => ?_, fun h => ⟨by omega, by omega, fun _ _ => ⟨i + 1, by omega, by omega, ?_, by omega⟩⟩⟩
 ·rw [g, if_pos h]
 ·rw [g, if_neg h]
def a1l (p : Str) (f : FileD) : Bool := decide (f.path ≠ p) && !inB p f.path
def b0I : Con := .fn 39 (List FileD × Str) (fun a => [.sl true 2 (a0b a.1), .str a.2]) (fun a => a.1.length <= 1048576) (fun a => .sl false 2 (a0b (filB (a1l a.2) a.1))) (fun _ => [])
theorem b2X : Has Tryz.prog 166 b0I := by
 refine a0d mixed a0g (HasL.cons b1X HasL.nil) [0, 1, 4, 5, 6] ((fun a n (_ : Nat) => (fun a _ => ⟨Nat, fun i => ⟨[(0, true, .sl true 2 (a0b a.1)), (1, true, .str a.2), (4, true, .nil), (5, true, .own 9 2 (a0b (filB (a1l a.2) (a.1.take i)))), (6, true, .int .i64 i)], [(9, .own 66 2 false (a0b (filB (a1l a.2) (a.1.take i))))]⟩, fun i => i <= a.1.length, fun i => a.1.length - i⟩) a n)) [36] Tryz.func166 (by unfold Tryz.f166; rfl) (fun _ => ⟨(), trivial⟩) ?_
 intro a ha
 obtain ⟨t, p⟩ := a
 replace ha : t.length <= 1048576 := ha
 have e1 := fun i h => @b3T (a1l p) t i h
 have e2 := fun i h => @b1P (a1l p) t i h
 simp -implicitDefEqProofs [b0I, b2y, Con.fn, tTab]
 try dsimp only
 refine ⟨⟨0, by simp -implicitDefEqProofs [filB]⟩, fun i hi _ => ⟨fun hlt => ?_, fun hge => ?_⟩⟩
 ·have g1 := e1 i hlt
  have g2 := e2 i hlt
  have hl : (filB (a1l p) (t.take i)).length <= 1048576 := by have := List.length_filter_le (a1l p) (t.take i); unfold filB; simp at this ⊢; omega
  simp -implicitDefEqProofs [hlt, a0p, D.asStr, D.asRows, and_assoc]
  refine ⟨fun h => ⟨fun hi2 => ⟨by omega, by omega, by omega, by omega, fun _ _ => ⟨i + 1, ?_, by omega, ?_, by omega, by omega⟩⟩, fun hi2 => ⟨by omega, by omega, fun _ _ => ⟨i + 1, ?_, by omega, ?_, by omega, by omega⟩⟩⟩, fun h => ⟨by omega, by omega, fun _ _ => ⟨i + 1, ?_, by omega, ?_, by omega, by omega⟩⟩⟩
  ·rw [g1 (by simp -implicitDefEqProofs [a1l, h, hi2])]; simp -implicitDefEqProofs [a0b, a0p]
  ·rw [g1 (by simp -implicitDefEqProofs [a1l, h, hi2])]; simp -implicitDefEqProofs [a0b, a0p]
  ·rw [g2 (by simp -implicitDefEqProofs [a1l, h, hi2])]
  ·rw [g2 (by simp -implicitDefEqProofs [a1l, h, hi2])]
  ·rw [g2 (by simp -implicitDefEqProofs [a1l, h])]
  ·rw [g2 (by simp -implicitDefEqProofs [a1l, h])]
 ·rw [List.take_of_length_le hge]
def lcs : List Str -> List Str -> Int
 | [], _ => 0
 | _ :: _, [] => 0
 | x :: a, y :: b => if x = y then lcs a b + 1 else if lcs (x :: a) b <= lcs a (y :: b) then lcs a (y :: b) else lcs (x :: a) b
termination_by a b => a.length + b.length
def eRow (r : List Int) : List D := [.sl 3 1 (a0h r)]
def a1f (t : List (List Int)) : List (List D) := t.map eRow
@[simp] theorem eRows_length (l : List (List Int)) : (a1f l).length = l.length := by simp -implicitDefEqProofs [a1f]
@[simp] theorem eRows_nil : a1f [] = [] := rfl
@[simp] theorem eRows_get (l : List (List Int)) (i : Nat) : (a1f l)[i]? = l[i]?.map eRow := by simp -implicitDefEqProofs [a1f]
def tabF (a b : List Str) (p q : Nat) : List (List Int) := (List.range (a.length + 1)).map fun r => (List.range (b.length + 1)).map fun c => if p <= r \/ (r + 1 = p /\ q <= c) then lcs (a.drop r) (b.drop c) else 0
theorem b7I (i n : Nat) : a1f (List.replicate (i + 1) (List.replicate (n + 1) 0)) = a1f (List.replicate i (List.replicate (n + 1) 0)) ++ [[D.sl 3 1 (List.replicate (n + 1) [D.int .i64 0])]] := by
 rw [List.replicate_succ']
 simp -implicitDefEqProofs [a1f, eRow, a0h, eInt]
theorem b0W {a b : List Str} {p q : Nat} : (tabF a b p q).length = a.length + 1 := by simp -implicitDefEqProofs [tabF]
def tabR (a b : List Str) (p q r : Nat) : List Int := (List.range (b.length + 1)).map fun c => if p <= r \/ (r + 1 = p /\ q <= c) then lcs (a.drop r) (b.drop c) else 0
theorem a5d {a b : List Str} {p q r : Nat} (h : r <= a.length) : (tabF a b p q)[r]? = some (tabR a b p q r) := by
 simp -implicitDefEqProofs [tabF, tabR, List.getElem?_map, List.getElem?_range (show r < a.length + 1 by omega)]
theorem c3A (b : List Str) : lcs [] b = 0 := by rw [lcs]
theorem c3B (a : List Str) : lcs a [] = 0 := by cases a <;> rw [lcs]
theorem a7v {a b : List Str} {i : Nat} (h : a.length + 1 = i) : tabF a b a.length (b.length + 1) = List.replicate i (List.replicate (b.length + 1) 0) := by
 subst h
 apply List.ext_getElem
 ·simp -implicitDefEqProofs [tabF]
 ·intro r h1 h2
  apply List.ext_getElem
  ·simp -implicitDefEqProofs [tabF]
  ·intro c h3 h4
   simp only [tabF, List.getElem_map, List.getElem_range, List.getElem_replicate]
   split
   ·rename_i h5
    have h6 : a.drop r = [] := by
     rcases h5 with h5 | ⟨_, h5⟩
     ·exact List.drop_eq_nil_of_le h5
     ·simp -implicitDefEqProofs [tabF] at h3; omega
    rw [h6, c3A]
   ·rfl
theorem b0V {a b : List Str} {p : Nat} : tabF a b p b.length = tabF a b p (b.length + 1) := by
 unfold tabF
 apply List.map_congr_left
 intro r _
 apply List.map_congr_left
 intro c hc
 have hc : c < b.length + 1 := by simpa using hc
 by_cases h : p <= r
 ·rw [if_pos (.inl h), if_pos (.inl h)]
 ·by_cases h2 : r + 1 = p /\ b.length <= c
  ·rw [if_pos (.inr h2), if_neg (by omega), List.drop_eq_nil_of_le h2.2, c3B]
  ·rw [if_neg (by omega), if_neg (by omega)]
theorem a9g {a b : List Str} {p : Nat} (h : 0 < p) : tabF a b (p - 1) (b.length + 1) = tabF a b p 0 := by
 unfold tabF
 apply List.map_congr_left
 intro r _
 apply List.map_congr_left
 intro c hc
 have hc : c < b.length + 1 := by simpa using hc
 by_cases h2 : p <= r + 1
 ·rw [if_pos (.inl (by omega)), if_pos (by omega)]
 ·rw [if_neg (by omega), if_neg (by omega)]
theorem b7S {a b : List Str} {q : Nat} : tabF a b 0 q = tabF a b 0 0 := by
 unfold tabF
 apply List.map_congr_left
 intro r _
 apply List.map_congr_left
 intro c _
 rw [if_pos (.inl (Nat.zero_le _)), if_pos (.inl (Nat.zero_le _))]
theorem a4l {a b : List Str} {p q r : Nat} : (tabR a b p q r).length = b.length + 1 := by simp -implicitDefEqProofs [tabR]
theorem a3u {a b : List Str} {p q r c : Nat} (h : c <= b.length) : (tabR a b p q r)[c]? = some (if p <= r \/ (r + 1 = p /\ q <= c) then lcs (a.drop r) (b.drop c) else 0) := by
 simp -implicitDefEqProofs [tabR, List.getElem?_map, List.getElem?_range (show c < b.length + 1 by omega)]
theorem a8c (a b : List Str) : 0 <= lcs a b /\ lcs a b <= a.length := by
 fun_induction lcs a b
 ·simp
 ·simp; omega
 ·simp_all; omega
 ·simp_all; omega
 ·simp_all
theorem b7f {a b : List Str} {p q : Nat} (hp : 0 < p) (hp2 : p <= a.length) (hq : 0 < q) (hq2 : q <= b.length) : lcs (a.drop (p - 1)) (b.drop (q - 1)) = if a[p - 1] = b[q - 1] then lcs (a.drop p) (b.drop q) + 1 else if lcs (a.drop (p - 1)) (b.drop q) <= lcs (a.drop p) (b.drop (q - 1)) then lcs (a.drop p) (b.drop (q - 1)) else lcs (a.drop (p - 1)) (b.drop q) := by
 have e1 : a.drop (p - 1) = a[p - 1] :: a.drop p := by rw [List.drop_eq_getElem_cons (show p - 1 < a.length by omega), show p - 1 + 1 = p by omega]
 have e2 : b.drop (q - 1) = b[q - 1] :: b.drop q := by rw [List.drop_eq_getElem_cons (show q - 1 < b.length by omega), show q - 1 + 1 = q by omega]
 rw [e1, e2, lcs]
theorem b9K {a b : List Str} {p q : Nat} (hp : 0 < p) (hp2 : p <= a.length) (hq : 0 < q) (hq2 : q <= b.length) : ∀ v, v = lcs (a.drop (p - 1)) (b.drop (q - 1)) -> (a1f (tabF a b p q)).set (p - 1) [D.sl 3 1 ((a0h (tabR a b p q (p - 1))).set (q - 1) [D.int .i64 v])] = a1f (tabF a b p (q - 1)) := by
 intro v hv
 have e : (tabF a b p q).set (p - 1) ((tabR a b p q (p - 1)).set (q - 1) v) = tabF a b p (q - 1) := by
  apply List.ext_getElem
  ·simp -implicitDefEqProofs [tabF]
  ·intro r h1 h2
   rw [List.getElem_set]
   split
   ·rename_i hr
    subst hr
    apply List.ext_getElem
    ·simp -implicitDefEqProofs [tabF, tabR]
    ·intro c h3 h4
     rw [List.getElem_set]
     split
     ·rename_i hc
      subst hc
      simp only [tabF, List.getElem_map, List.getElem_range]
      rw [if_pos (by omega), hv]
     ·rename_i hc
      simp only [tabF, tabR, List.getElem_map, List.getElem_range]
      by_cases h : p <= p - 1 \/ (p - 1 + 1 = p /\ q <= c)
      ·rw [if_pos h, if_pos (by omega)]
      ·rw [if_neg h, if_neg (by omega)]
   ·rename_i hr
    simp only [tabF, List.getElem_map, List.getElem_range]
    apply List.map_congr_left
    intro c _
    by_cases h : p <= r \/ (r + 1 = p /\ q <= c)
    ·rw [if_pos h, if_pos (by omega)]
    ·rw [if_neg h, if_neg (by omega)]
 rw [<- e]
 simp -implicitDefEqProofs [a1f, eRow, a0h, List.map_set, eInt]
def l1tA (a b : List Str) : Inv := ⟨Nat, fun i => ⟨[(0, true, .sl true 1 (a0a a)), (1, true, .sl true 1 (a0a b)), (4, true, .nil), (5, true, .own 9 1 (a1f (List.replicate i (List.replicate (b.length + 1) 0)))), (6, true, .int .i64 i)], [(9, .own 33 1 true (a1f (List.replicate i (List.replicate (b.length + 1) 0))))]⟩, fun i => i <= a.length + 1, fun i => a.length + 1 - i⟩
def l1tB (a b : List Str) : Inv := ⟨Nat, fun p => ⟨[(0, true, .sl true 1 (a0a a)), (1, true, .sl true 1 (a0a b)), (4, true, .nil), (5, true, .own 9 1 (a1f (tabF a b p (b.length + 1)))), (7, true, .int .i64 ((p : Int) - 1))], [(9, .own 33 1 true (a1f (tabF a b p (b.length + 1))))]⟩, fun p => p <= a.length, fun p => p⟩
def l1tC (a b : List Str) (g : Nat) : Inv := ⟨Nat, fun q => ⟨[(0, true, .sl true 1 (a0a a)), (1, true, .sl true 1 (a0a b)), (4, true, .nil), (5, true, .own 9 1 (a1f (tabF a b g q))), (7, true, .int .i64 ((g : Int) - 1)), (8, true, .int .i64 ((q : Int) - 1))], [(9, .own 33 1 true (a1f (tabF a b g q)))]⟩, fun q => q <= b.length /\ 0 < g /\ g <= a.length, fun q => q⟩
def b2U (a b : List Str) (n g : Nat) : Inv := if n = 3 then l1tA a b else if n = 7 then l1tB a b else l1tC a b g
theorem c5L (a b g) : b2U a b 3 g = l1tA a b := rfl
theorem c5M (a b g) : b2U a b 7 g = l1tB a b := rfl
theorem c3p (a b g) : b2U a b 10 g = l1tC a b g := rfl
def b1D : Con := .fn 110 (List Str × List Str) (fun a => [.sl true 1 (a0a a.1), .sl true 1 (a0a a.2)]) (fun a => a.1.length <= 1048576 /\ a.2.length <= 1048576) (fun a => .own 8 1 (a1f (tabF a.1 a.2 0 0))) (fun a => [(8, .own 33 1 true (a1f (tabF a.1 a.2 0 0)))])
theorem b8F : Has Tryz.prog 247 b1D := by
 refine a0d mixed a0g HasL.nil [0, 1, 4, 5, 6, 7, 8] (fun a => b2U a.1 a.2) [] Tryz.func247 (by unfold Tryz.f247; rfl) (fun _ => ⟨(), trivial⟩) ?_
 intro a ha
 obtain ⟨a, b⟩ := a
 obtain ⟨h1, h2⟩ : a.length <= 1048576 /\ b.length <= 1048576 := ha
 simp (maxSteps := 4000000) [b1D, Con.fn, tTab, c5L, c5M, c3p, l1tA, l1tB, l1tC]
 try dsimp only
 refine ⟨⟨0, by simp⟩, fun i hi _ => ⟨fun hlt _ => ⟨by omega, fun _ _ => ⟨by omega, fun _ _ _ => ⟨by omega, by omega, fun _ _ => ⟨i + 1, ⟨⟨?_, by omega⟩, ?_⟩, by omega, by omega⟩⟩⟩⟩, fun hge _ => ⟨by omega, fun _ _ => ⟨⟨a.length, ⟨⟨?_, rfl⟩, ?_⟩, Nat.le_refl _⟩, fun p hp => ⟨fun h1p _ => ⟨by omega, fun _ _ => ⟨p, ⟨b.length, ⟨⟨?_, rfl, rfl⟩, ?_⟩, Nat.le_refl _, by omega, hp⟩, fun q hq hg hga => ⟨fun hq1 => ?_, fun hq0 => ⟨by omega, fun _ _ => ⟨p - 1, ⟨⟨?_, by omega⟩, ?_⟩, by omega, by omega⟩⟩⟩⟩⟩, fun hp0 => ?_⟩⟩⟩⟩⟩
 ·rw [b7I]
 ·rw [b7I]
 ·rw [a7v (show a.length + 1 = i by omega)]
 ·rw [a7v (show a.length + 1 = i by omega)]
 ·rw [b0V]
 ·rw [b0V]
 ·obtain ⟨T, hT⟩ : ∃ T, T = tabF a b p q := ⟨_, rfl⟩
  have t1 := @b0W a b p q
  have t2 := a5d (a := a) (b := b) (p := p) (q := q) (r := p) (by omega)
  have t3 := a5d (a := a) (b := b) (p := p) (q := q) (r := p - 1) (by omega)
  have t4 : a[p - 1]? = some a[p - 1] := List.getElem?_eq_getElem (by omega)
  have t5 : b[q - 1]? = some b[q - 1] := List.getElem?_eq_getElem (by omega)
  have u1 := @a4l a b p q p
  have u2 := @a4l a b p q (p - 1)
  have u3 : (tabR a b p q p)[q]? = some (lcs (a.drop p) (b.drop q)) := by rw [a3u (by omega), if_pos (by omega)]
  have u4 : (tabR a b p q p)[q - 1]? = some (lcs (a.drop p) (b.drop (q - 1))) := by rw [a3u (by omega), if_pos (by omega)]
  have u5 : (tabR a b p q (p - 1))[q]? = some (lcs (a.drop (p - 1)) (b.drop q)) := by rw [a3u (by omega), if_pos (by omega)]
  have v1 := a8c (a.drop p) (b.drop q)
  have v2 := a8c (a.drop p) (b.drop (q - 1))
  have v3 := a8c (a.drop (p - 1)) (b.drop q)
  have v4 : (a.drop p).length <= a.length := by simp
  have v5 : (a.drop (p - 1)).length <= a.length := by simp
  have w1 := b9K (a := a) (b := b) (p := p) (q := q) hg hga (by omega) hq
  have w2 := b7f (a := a) (b := b) (p := p) (q := q) hg hga (by omega) hq
  rw [<- hT] at t1 t2 t3 w1 ⊢
  clear hT
  generalize lcs (a.drop p) (b.drop q) = L11 at *
  generalize lcs (a.drop p) (b.drop (q - 1)) = L10 at *
  generalize lcs (a.drop (p - 1)) (b.drop q) = L01 at *
  generalize tabR a b p q p = rB at *
  generalize tabR a b p q (p - 1) = rA at *
  simp -implicitDefEqProofs [t1, t2, t3, t4, t5, u1, u2, u3, u4, u5, eInt, eStr, D.asStr, eRow, D.asRows, D.asInt, and_assoc]
  have fin : ∀ v, v = lcs (a.drop (p - 1)) (b.drop (q - 1)) -> ∃ t', a1f (tabF a b p t') = (a1f T).set (p - 1) [D.sl 3 1 ((a0h rA).set (q - 1) [D.int .i64 v])] /\ (t' : Int) = q - 1 /\ (a1f T).set (p - 1) [D.sl 3 1 ((a0h rA).set (q - 1) [D.int .i64 v])] = a1f (tabF a b p t') /\ t' <= b.length /\ 0 < p /\ p <= a.length /\ t' < q :=
   fun v hv => ⟨q - 1, (w1 v hv).symm, by omega, w1 v hv, by omega, hg, hga, by omega⟩
  repeat' (first | intro _ | apply And.intro)
  all_goals first | omega | exact fin _ (by rw [w2, if_pos (by assumption)]) | exact fin _ (by rw [w2, if_neg (by assumption), if_pos (by assumption)]) | exact fin _ (by rw [w2, if_neg (by assumption), if_neg (by omega)])
 ·rw [show q = 0 by omega, a9g (by omega)]
 ·rw [show q = 0 by omega, a9g (by omega)]
 ·rw [show p = 0 by omega, b7S]; exact ⟨rfl, rfl⟩
def mt : List Str -> List Str -> Nat -> List Int
 | [], _, _ => []
 | _ :: a, [], k => -1 :: mt a [] k
 | x :: a, y :: b, k => if x = y then (k : Int) :: mt a b (k + 1) else if lcs (x :: a) b <= lcs a (y :: b) then -1 :: mt a (y :: b) k else mt (x :: a) b (k + 1)
termination_by a b => a.length + b.length
theorem a8d (a b : List Str) (k : Nat) : (mt a b k).length = a.length := by
 fun_induction mt a b k <;> simp_all
theorem c3E {a b : List Str} {i k : Nat} (h : i < a.length) (hk : b.length <= k) : mt (a.drop i) (b.drop k) k = -1 :: mt (a.drop (i + 1)) (b.drop k) k := by
 rw [List.drop_eq_getElem_cons h, List.drop_eq_nil_of_le hk, mt]
theorem b9x {a b : List Str} {i k : Nat} (h : i < a.length) (hk : k < b.length) : mt (a.drop i) (b.drop k) k = if a[i] = b[k] then (k : Int) :: mt (a.drop (i + 1)) (b.drop (k + 1)) (k + 1) else if lcs (a.drop i) (b.drop (k + 1)) <= lcs (a.drop (i + 1)) (b.drop k) then -1 :: mt (a.drop (i + 1)) (b.drop k) k else mt (a.drop i) (b.drop (k + 1)) (k + 1) := by
 have e1 : a.drop i = a[i] :: a.drop (i + 1) := List.drop_eq_getElem_cons h
 have e2 : b.drop k = b[k] :: b.drop (k + 1) := List.drop_eq_getElem_cons hk
 rw [e1, e2, mt]
theorem a4H (o : List Int) (v : Int) : a0h (o ++ [v]) = a0h o ++ [[D.int .i64 v]] := by simp -implicitDefEqProofs [a0h, eInt]
def l1m (a b : List Str) : Inv := ⟨Nat × Nat × List Int, fun t => ⟨[(0, true, .sl true 1 (a0a a)), (1, true, .sl true 1 (a0a b)), (4, true, .nil), (5, true, .own 9 1 (a1f (tabF a b 0 0))), (6, true, .own 10 1 (a0h t.2.2)), (7, true, .int .i64 t.2.1), (8, true, .int .i64 t.1)], [(9, .own 33 1 true (a1f (tabF a b 0 0))), (10, .own 3 1 true (a0h t.2.2))]⟩,
 fun t => t.1 <= a.length /\ t.2.1 <= b.length /\ t.2.2.length = t.1 /\ t.2.2 ++ mt (a.drop t.1) (b.drop t.2.1) t.2.1 = mt a b 0, fun t => (a.length - t.1) + (b.length - t.2.1)⟩
def b1C : Con := .fn 73 (List Str × List Str) (fun a => [.sl true 1 (a0a a.1), .sl true 1 (a0a a.2)]) (fun a => a.1.length <= 1048576 /\ a.2.length <= 1048576) (fun a => .own 8 1 (a0h (mt a.1 a.2 0))) (fun a => a4v 8 (mt a.1 a.2 0))
theorem b8E : Has Tryz.prog 229 b1C := by
 refine a0d mixed a0g (HasL.cons b8F HasL.nil) [0, 1, 4, 5, 6, 7, 8] ((fun a n (_ : Nat) => (fun a _ => l1m a.1 a.2) a n)) [] Tryz.func229 (by unfold Tryz.f229; rfl) (fun _ => ⟨(), trivial⟩) ?_
 intro a ha
 obtain ⟨a, b⟩ := a
 obtain ⟨h1, h2⟩ : a.length <= 1048576 /\ b.length <= 1048576 := ha
 simp (maxSteps := 4000000) [b1C, b1D, Con.fn, tTab, l1m]
 try dsimp only
 refine ⟨a, b, ⟨rfl, rfl⟩, ⟨h1, h2⟩, ⟨0, 0, [], ⟨⟨rfl, rfl, rfl, rfl⟩, rfl, rfl⟩, Nat.zero_le _, Nat.zero_le _, rfl, by simp⟩, fun i k out hi hk hl hm _ => ⟨fun hlt => ?_, fun hge => ?_⟩⟩
 ·have t1 := @b0W a b 0 0
  have t2 := a5d (a := a) (b := b) (p := 0) (q := 0) (r := i) (by omega)
  have t3 := a5d (a := a) (b := b) (p := 0) (q := 0) (r := i + 1) (by omega)
  have u1 := @a4l a b 0 0 i
  have u2 := @a4l a b 0 0 (i + 1)
  have t4 : a[i]? = some a[i] := List.getElem?_eq_getElem hlt
  have m0 := c3E (a := a) (b := b) (i := i) (k := k) hlt
  rcases Nat.lt_or_ge k b.length with hkb | hkb
  ·have t5 : b[k]? = some b[k] := List.getElem?_eq_getElem hkb
   have u3 : (tabR a b 0 0 (i + 1))[k]? = some (lcs (a.drop (i + 1)) (b.drop k)) := by rw [a3u (by omega), if_pos (by omega)]
   have u4 : (tabR a b 0 0 i)[k + 1]? = some (lcs (a.drop i) (b.drop (k + 1))) := by rw [a3u (by omega), if_pos (by omega)]
   have m1 := b9x (a := a) (b := b) (i := i) (k := k) hlt hkb
   generalize tabF a b 0 0 = T at *
   generalize tabR a b 0 0 i = rA at *
   generalize tabR a b 0 0 (i + 1) = rB at *
   generalize lcs (a.drop (i + 1)) (b.drop k) = L1 at *
   generalize lcs (a.drop i) (b.drop (k + 1)) = L2 at *
   have g1 : ¬ b.length <= k := by omega
   obtain ⟨_, u6⟩ := List.getElem?_eq_some_iff.1 u4
   simp -implicitDefEqProofs [hkb, g1, t1, t2, t3, t4, t5, u1, u2, u3, u4, u6, eInt, eStr, D.asStr, eRow, D.asRows, D.asInt, and_assoc]
   refine ⟨hlt, fun _ => ⟨fun e => ⟨by omega, by omega, by omega, by omega, fun _ _ => ⟨by omega, by omega, fun _ _ => ⟨i + 1, k + 1, out ++ [(k : Int)], a4H _ _, by omega, by omega, (a4H _ _).symm, by omega, by omega, by simp -implicitDefEqProofs [hl], ?_, by omega⟩⟩⟩, fun e => ⟨by omega, by omega, fun _ _ => ⟨by omega, by omega, fun _ _ => ⟨by omega, fun _ => ⟨by omega, fun _ => ⟨by omega, by omega, fun _ _ => ⟨by omega, fun _ => ⟨fun c => ⟨by omega, by omega, by omega, by omega, fun _ _ => ⟨i + 1, k, out ++ [-1], a4H _ _, by omega, by omega, (a4H _ _).symm, by omega, by omega, by simp -implicitDefEqProofs [hl], ?_, by omega⟩⟩, fun c => ⟨by omega, by omega, fun _ _ => ⟨i, k + 1, by omega, by omega, by omega, by omega, hl, ?_, by omega⟩⟩⟩⟩⟩⟩⟩⟩⟩⟩⟩
   ·rw [<- hm, m1, if_pos e]; simp
   ·rw [<- hm, m1, if_neg e, if_pos c]; simp
   ·rw [<- hm, m1, if_neg e, if_neg (by omega)]
  ·have g1 : ¬ k < b.length := by omega
   simp -implicitDefEqProofs [hkb, g1, t4, eStr, D.asStr, and_assoc]
   refine ⟨by omega, by omega, by omega, by omega, fun _ _ => ⟨i + 1, k, out ++ [-1], a4H _ _, by omega, by omega, (a4H _ _).symm, by omega, by omega, by simp -implicitDefEqProofs [hl], ?_, by omega⟩⟩
   rw [<- hm, m0 (by omega)]; simp
 ·rw [List.drop_eq_nil_of_le hge, mt, List.append_nil] at hm
  exact ⟨hm.symm, hm⟩
structure PartD where
 clash : Bool
 lines : List Str
 old : List Str
 one : List Str
 two : List Str
 deriving DecidableEq, Inhabited
def a1U (a : PartD) : List D := [.bool a.clash, .sl 9 1 (a0a a.lines), .sl 9 1 (a0a a.old), .sl 9 1 (a0a a.one), .sl 9 1 (a0a a.two)]
@[simp] theorem ePart_inj (a b : PartD) : (a1U a = a1U b) = (a = b) := by
 cases a; cases b; simp -implicitDefEqProofs [a1U]
@[simp] theorem PartD.eta (a : PartD) : (⟨a.clash, a.lines, a.old, a.one, a.two⟩ : PartD) = a := rfl
theorem PartD.eq_iff (a b : PartD) : (a = b) = (a.clash = b.clash /\ a.lines = b.lines /\ a.old = b.old /\ a.one = b.one /\ a.two = b.two) := by
 cases a; cases b; simp
@[simp] theorem PartD.ex1 (x_clash : Bool) (x_lines : List Str) (x_old : List Str) (x_one : List Str) (x_two : List Str) (Q : PartD -> Prop) : (∃ a : PartD, a.clash = x_clash /\ a.lines = x_lines /\ a.old = x_old /\ a.one = x_one /\ a.two = x_two /\ Q a) = Q ⟨x_clash, x_lines, x_old, x_one, x_two⟩ := by
 apply propext
 constructor
 ·rintro ⟨⟨_, _, _, _, _⟩, rfl, rfl, rfl, rfl, rfl, h⟩; exact h
 ·intro h; exact ⟨⟨x_clash, x_lines, x_old, x_one, x_two⟩, rfl, rfl, rfl, rfl, rfl, h⟩
@[simp] theorem PartD.ex2 (x_clash : Bool) (x_lines : List Str) (x_old : List Str) (x_one : List Str) (x_two : List Str) (Q : PartD -> Prop) : (∃ a : PartD, (a.clash = x_clash /\ a.lines = x_lines /\ a.old = x_old /\ a.one = x_one /\ a.two = x_two) /\ Q a) = Q ⟨x_clash, x_lines, x_old, x_one, x_two⟩ := by
 apply propext
 constructor
 ·rintro ⟨⟨_, _, _, _, _⟩, ⟨rfl, rfl, rfl, rfl, rfl⟩, h⟩; exact h
 ·intro h; exact ⟨⟨x_clash, x_lines, x_old, x_one, x_two⟩, ⟨rfl, rfl, rfl, rfl, rfl⟩, h⟩
@[simp] theorem PartD.ex0 (x_clash : Bool) (x_lines : List Str) (x_old : List Str) (x_one : List Str) (x_two : List Str) : (∃ a : PartD, a.clash = x_clash /\ a.lines = x_lines /\ a.old = x_old /\ a.one = x_one /\ a.two = x_two) = True := by
 simp only [eq_iff_iff, iff_true]
 exact ⟨⟨x_clash, x_lines, x_old, x_one, x_two⟩, rfl, rfl, rfl, rfl, rfl⟩
def a0m (l : List PartD) : List (List D) := l.map a1U
@[simp] theorem eParts_length (l : List PartD) : (a0m l).length = l.length := by simp -implicitDefEqProofs [a0m]
@[simp] theorem eParts_nil : a0m [] = [] := rfl
@[simp] theorem eParts_get (l : List PartD) (i : Nat) : (a0m l)[i]? = l[i]?.map a1U := by simp -implicitDefEqProofs [a0m]
@[simp] theorem eParts_getElem (l : List PartD) (i : Nat) (h : i < (a0m l).length) : (a0m l)[i] = a1U (l[i]'(by simpa using h)) := by simp -implicitDefEqProofs [a0m]
@[simp] theorem eParts_inj (a b : List PartD) : (a0m a = a0m b) = (a = b) := by
 apply propext
 constructor
 ·intro h
  exact List.map_inj_right (fun x y h => by simpa using h) |>.1 h
 ·rintro rfl; rfl
@[simp] theorem eParts_eq_nil (a : List PartD) : (a0m a = []) = (a = []) := by simp -implicitDefEqProofs [a0m]
@[simp] theorem nil_eq_eParts (a : List PartD) : ([] = a0m a) = (a = []) := by simp -implicitDefEqProofs [a0m, eq_comm]
theorem b5l (a b : List PartD) : a0m (a ++ b) = a0m a ++ a0m b := by simp -implicitDefEqProofs [a0m]
abbrev b1Z (h : Nat) (a : List PartD) : List (Nat × Blk) := [(h, .own 229 5 true (a0m a))]
def a1h (o a b : List Str) : PartD := if a = o \/ a = b then ⟨false, b, [], [], []⟩ else if b = o then ⟨false, a, [], [], []⟩ else ⟨true, [], o, a, b⟩
theorem b1l (o a b : List Str) : (a1h o a b).lines.length <= a.length + b.length := by
 unfold a1h
 split
 ·simp
 ·split <;> simp
def put3 (l : List PartD) (p : PartD) : List PartD :=
 if p.clash = false /\ p.lines = [] then l
 else match l.getLast? with
  | some q => if p.clash = false /\ q.clash = false then l.set (l.length - 1) ⟨q.clash, q.lines ++ p.lines, q.old, q.one, q.two⟩ else l ++ [p]
  | none => l ++ [p]
theorem a8Y (l : List PartD) (p : PartD) : (put3 l p).length <= l.length + 1 := by
 unfold put3
 split
 ·omega
 ·split
  ·split <;> simp
  ·simp
theorem b0Q {l : List PartD} {p : PartD} {n : Nat} (h : ∀ q ∈ l, q.lines.length <= n) : ∀ q ∈ put3 l p, q.lines.length <= n + p.lines.length := by
 intro q hq
 unfold put3 at hq
 split at hq
 ·have := h q hq; omega
 ·split at hq
  ·rename_i r hr
   split at hq
   ·rcases List.mem_or_eq_of_mem_set hq with hq | hq
    ·have := h q hq; omega
    ·subst hq
     have := h r (List.mem_of_getLast? hr)
     simp; omega
   ·rcases List.mem_append.1 hq with hq | hq
    ·have := h q hq; omega
    ·simp at hq; subst hq; omega
  ·rcases List.mem_append.1 hq with hq | hq
   ·have := h q hq; omega
   ·simp at hq; subst hq; omega
def asc : Int -> Int -> List Int -> Prop
 | _, _, [] => True
 | k, n, x :: l => (x < 0 /\ asc k n l) \/ (k <= x /\ x < n /\ asc (x + 1) n l)
theorem a8t : ∀ {l : List Int} {k k' n : Int}, k <= k' -> asc k' n l -> asc k n l
 | [], _, _, _, _, _ => trivial
 | x :: l, k, k', n, h, h2 => by
  rcases h2 with ⟨h3, h4⟩ | ⟨h3, h4, h5⟩
  ·exact .inl ⟨h3, a8t h h4⟩
  ·exact .inr ⟨by omega, h4, h5⟩
theorem b1u : ∀ {l : List Int} {k n : Int}, k <= n -> asc k n l -> asc k (n + 1) (l ++ [n])
 | [], k, n, h, _ => .inr ⟨h, by omega, trivial⟩
 | x :: l, k, n, h, h2 => by
  rcases h2 with ⟨h3, h4⟩ | ⟨h3, h4, h5⟩
  ·exact .inl ⟨h3, b1u h h4⟩
  ·exact .inr ⟨h3, by omega, b1u (by omega) h5⟩
theorem c9o (a b : List Str) (k : Nat) : asc k (k + b.length) (mt a b k) := by
 fun_induction mt a b k with
 | case1 => trivial
 | case2 x a k ih => exact .inl ⟨by omega, ih⟩
 | case3 a y b k ih =>
  refine .inr ⟨by omega, by simp only [List.length_cons]; omega, ?_⟩
  have e : ((k + 1 : Nat) : Int) + b.length = k + (y :: b).length := by simp only [List.length_cons]; omega
  rw [e] at ih
  exact ih
 | case4 x a y b k h h2 ih => exact .inl ⟨by omega, ih⟩
 | case5 x a y b k h1 h2 ih =>
  have e : ((k + 1 : Nat) : Int) + b.length = k + (y :: b).length := by simp only [List.length_cons]; omega
  rw [e] at ih
  exact a8t (by omega) ih
def mtE (a b : List Str) : List Int := mt a b 0 ++ [(b.length : Int)]
theorem a6H (a b : List Str) : (mtE a b).length = a.length + 1 := by simp -implicitDefEqProofs [mtE, a8d]
theorem b9w (a b : List Str) : asc 0 (b.length + 1) (mtE a b) := by
 have h := c9o a b 0
 have := b1u (k := 0) (n := b.length) (by omega) (by simpa using h)
 exact this
theorem a7L {l : List Int} {i : Nat} {k n : Int} (h : i < l.length) (ha : asc k n (l.drop i)) : (l[i] < 0 /\ asc k n (l.drop (i + 1))) \/ (k <= l[i] /\ l[i] < n /\ asc (l[i] + 1) n (l.drop (i + 1))) := by
 rw [List.drop_eq_getElem_cons h] at ha
 exact ha
structure S3 where
 io : Nat
 ia : Nat
 ib : Nat
 out : List PartD
def a6w (o a b : List Str) (x y : Int) (i : Nat) (s : S3) : S3 :=
 if x < 0 \/ y < 0 then s
 else ⟨i + 1, x.toNat + 1, y.toNat + 1,
  if i < o.length then put3 (put3 s.out (a1h ((o.take i).drop s.io) ((a.take x.toNat).drop s.ia) ((b.take y.toNat).drop s.ib))) ⟨false, [o.getD i []], [], [], []⟩
  else put3 s.out (a1h ((o.take i).drop s.io) ((a.take x.toNat).drop s.ia) ((b.take y.toNat).drop s.ib))⟩
def run3 (o a b : List Str) : Nat -> S3
 | 0 => ⟨0, 0, 0, []⟩
 | i + 1 => a6w o a b ((mtE o a).getD i 0) ((mtE o b).getD i 0) i (run3 o a b i)
def of3 (o a b : List Str) : List PartD := (run3 o a b (o.length + 1)).out
def Ok3 (o a b : List Str) (i : Nat) (s : S3) : Prop :=
 s.io <= i /\ s.ia <= a.length + 1 /\ s.ib <= b.length + 1 /\ asc s.ia (a.length + 1) ((mtE o a).drop i) /\ asc s.ib (b.length + 1) ((mtE o b).drop i) /\ s.out.length <= 2 * i /\ ∀ q ∈ s.out, q.lines.length <= s.io + s.ia + s.ib
theorem c9J (o a b : List Str) : Ok3 o a b 0 ⟨0, 0, 0, []⟩ := ⟨by simp, by simp, by simp, by simpa using b9w o a, by simpa using b9w o b, by simp, by simp⟩
theorem c6e {o a b : List Str} {i : Nat} {s : S3} (hi : i < o.length + 1) (h : Ok3 o a b i s) : Ok3 o a b (i + 1) (a6w o a b ((mtE o a).getD i 0) ((mtE o b).getD i 0) i s) := by
 obtain ⟨h1, h2, h3, h4, h5, h6, h7⟩ := h
 have la := a6H o a
 have lb := a6H o b
 have ga : (mtE o a).getD i 0 = (mtE o a)[i]'(by omega) := by simp -implicitDefEqProofs [List.getD_eq_getElem?_getD, List.getElem?_eq_getElem (show i < (mtE o a).length by omega)]
 have gb : (mtE o b).getD i 0 = (mtE o b)[i]'(by omega) := by simp -implicitDefEqProofs [List.getD_eq_getElem?_getD, List.getElem?_eq_getElem (show i < (mtE o b).length by omega)]
 rw [ga, gb]
 have h4 := a7L (l := mtE o a) (by omega) h4
 have h5 := a7L (l := mtE o b) (by omega) h5
 generalize (mtE o a)[i]'(by omega) = x at *
 generalize (mtE o b)[i]'(by omega) = y at *
 unfold a6w
 split
 ·rename_i hxy
  refine ⟨by omega, h2, h3, ?_, ?_, by omega, h7⟩
  ·rcases h4 with h4 | h4
   ·exact h4.2
   ·exact a8t (by omega) h4.2.2
  ·rcases h5 with h5 | h5
   ·exact h5.2
   ·exact a8t (by omega) h5.2.2
 ·rename_i hxy
  rcases h4 with h4 | ⟨h4, h41, h42⟩
  ·omega
  rcases h5 with h5 | ⟨h5, h51, h52⟩
  ·omega
  have ex : ((x.toNat + 1 : Nat) : Int) = x + 1 := by omega
  have ey : ((y.toNat + 1 : Nat) : Int) = y + 1 := by omega
  have b1 := b1l ((o.take i).drop s.io) ((a.take x.toNat).drop s.ia) ((b.take y.toNat).drop s.ib)
  have b2 := b0Q (p := a1h ((o.take i).drop s.io) ((a.take x.toNat).drop s.ia) ((b.take y.toNat).drop s.ib)) h7
  have b3 := a8Y s.out (a1h ((o.take i).drop s.io) ((a.take x.toNat).drop s.ia) ((b.take y.toNat).drop s.ib))
  generalize a1h ((o.take i).drop s.io) ((a.take x.toNat).drop s.ia) ((b.take y.toNat).drop s.ib) = p at *
  have b1 : p.lines.length <= (x.toNat - s.ia) + (y.toNat - s.ib) := by
   refine Nat.le_trans b1 ?_
   simp only [List.length_drop, List.length_take]
   omega
  refine ⟨by simp, by simp; omega, by simp; omega, by simpa only [ex] using h42, by simpa only [ey] using h52, ?_, ?_⟩
  ·show (if i < o.length then _ else _ : List PartD).length <= _
   split
   ·have := a8Y (put3 s.out p) ⟨false, [o.getD i []], [], [], []⟩
    omega
   ·omega
  ·show ∀ q ∈ (if i < o.length then _ else _ : List PartD), _
   split
   ·intro q hq
    have := b0Q (p := ⟨false, [o.getD i []], [], [], []⟩) b2 q hq
    simp at this
    show q.lines.length <= (i + 1) + (x.toNat + 1) + (y.toNat + 1)
    omega
   ·intro q hq
    have := b2 q hq
    show q.lines.length <= (i + 1) + (x.toNat + 1) + (y.toNat + 1)
    omega
theorem a8f (o a b : List Str) : ∀ i, i <= o.length + 1 -> Ok3 o a b i (run3 o a b i)
 | 0, _ => c9J o a b
 | i + 1, h => c6e (by omega) (a8f o a b i (by omega))
def a2c (l : List PartD) : List Str × Bool := if l.any (·.clash) then ([], false) else if a1j (l.flatMap (·.lines)) then (l.flatMap (·.lines), true) else ([], false)
def rsO (r : RepoD) : Inv := ⟨Nat, fun i => ⟨[(1, true, .ptr 10 0), (2, true, .bool false), (3, true, .int .i64 i)], [(10, a1P r)]⟩, fun i => i <= r.commits.length /\ ∀ j, j < i -> okCS r.commits j = true, fun i => r.commits.length - i⟩
def rsI (r : RepoD) (g : Nat) : Inv := ⟨Nat, fun k => ⟨[(1, true, .ptr 10 0), (2, true, .bool false), (3, true, .int .i64 g), (4, true, .ptr 11 0), (5, true, .int .i64 k)], [(10, a1P r), (11, .box 102 [.sl true 1 (a0h (r.commits.getD g default).parents), .str (r.commits.getD g default).who, .sl true 2 (a0b (r.commits.getD g default).tree)])]⟩,
 fun k => g < r.commits.length /\ k <= (r.commits.getD g default).parents.length /\ (∀ j, j < g -> okCS r.commits j = true) /\ ∀ j, j < k -> oneP g (r.commits.getD g default).parents j = true, fun k => (r.commits.getD g default).parents.length - k⟩
def rsH (r : RepoD) : Inv := ⟨Nat, fun i => ⟨[(1, true, .ptr 10 0), (2, true, .bool false), (6, true, .int .i64 i)], [(10, a1P r)]⟩, fun i => i <= r.heads.length /\ (∀ j, j < r.commits.length -> okCS r.commits j = true) /\ ∀ j, j < i -> okHd r.commits.length r.heads j = true, fun i => r.heads.length - i⟩
def b5Q (r : RepoD) (n g : Nat) : Inv := if n = 2 then rsO r else if n = 6 then rsI r g else rsH r
theorem c8A (r : RepoD) (g : Nat) : b5Q r 2 g = rsO r := rfl
theorem c8B (r : RepoD) (g : Nat) : b5Q r 6 g = rsI r g := rfl
theorem c6K (r : RepoD) (g : Nat) : b5Q r 13 g = rsH r := rfl
def a5k : Con := .fn 126 RepoD (fun r => [a0Y r]) (fun r => r.commits.length <= 1073741824) (fun r => .bool (a0f r)) (fun _ => [])
theorem a3J : Has Tryz.prog 52 a5k := by
 refine a0d mixed a0g (HasL.cons a4K (HasL.cons a4s (HasL.cons a6X HasL.nil))) [0, 1, 2, 3, 4, 5, 6] (fun r => b5Q r) [] Tryz.func52 (by unfold Tryz.f52; rfl) (fun _ => ⟨(), trivial⟩) ?_
 intro (r : RepoD) hr
 replace hr : r.commits.length <= 1073741824 := hr
 have hN := fun i => @c6H r i
 have hN1 := fun i => @c6i r.commits i
 have hN2 := fun i k => @c6j r.commits i k
 have hY := fun i => @c6k r.commits i
 have hM := fun i => @b4F r.commits.length r.heads i
 have hH := @c4e r
 simp -implicitDefEqProofs [a5k, Con.fn, tTab, a4U, a8z, a6m, c8A, c8B, c6K, rsO, rsI, rsH, a0t]
 try dsimp only
 refine fun i hi hprev _ => ⟨fun hlt => ?_, fun hge => ?_⟩
 ·have e3 : Option.map a0E r.commits[i]? = some (a0E r.commits[i]) := by simp -implicitDefEqProofs [List.getElem?_eq_getElem hlt]
  have hgc : r.commits.getD i default = r.commits[i] := by simp -implicitDefEqProofs [List.getD_eq_getElem?_getD, hlt]
  have n0 := hN i hlt
  have n1 := hN1 i
  have n2 := hN2 i
  have n3 := hY i
  rw [hgc] at n1 n2 n3
  simp -implicitDefEqProofs [hlt, e3, a0E, D.asStr, D.asRows, a0V, and_assoc]
  try simp only [show r.commits[i]?.getD default = r.commits[i] by simp -implicitDefEqProofs [hlt]]
  generalize r.commits[i] = c at n1 n2 n3 ⊢
  clear hN hN1 hN2 hY hM hH e3 hgc
  refine ⟨hprev, fun t ht _ hinv _ => ⟨fun hlt2 => ?_, fun hge2 => ?_⟩⟩
  ·have qt : Option.map eInt c.parents[t]? = some (eInt c.parents[t]) := by simp -implicitDefEqProofs [List.getElem?_eq_getElem hlt2]
   have q0 : Option.map eInt c.parents[0]? = some (eInt (c.parents[0]'(by omega))) := by simp -implicitDefEqProofs [List.getElem?_eq_getElem (show 0 < c.parents.length by omega)]
   have o : oneP i c.parents t = ((decide (0 <= c.parents[t]) && decide (c.parents[t] <= (i : Int) - 1)) && !(decide (0 < t) && decide (c.parents[t] = c.parents[0]'(by omega)))) := by
    unfold oneP inN
    rw [show c.parents.getD t 0 = c.parents[t] by simp -implicitDefEqProofs [List.getD_eq_getElem?_getD, hlt2], show c.parents.getD 0 0 = c.parents[0]'(by omega) by simp -implicitDefEqProofs [List.getD_eq_getElem?_getD, show 0 < c.parents.length by omega]]
   have n7 : oneP i c.parents t = false -> a0f r = false := fun h => n0 (n2 t hlt2 h)
   have n8 : oneP i c.parents t = true -> ∀ j, j < t + 1 -> oneP i c.parents j = true := fun h j hj => by
    rcases Nat.lt_or_ge j t with h3 | h3
    ·exact hinv j h3
    ·have : j = t := by omega
     subst this; exact h
   simp -implicitDefEqProofs [qt, q0, eInt, hlt2]
   refine ⟨by omega, by omega, fun _ _ => ⟨fun h => ?_, fun g1 g2 => ⟨fun h0 => ⟨by omega, fun _ => ⟨fun he => n7 (by rw [o]; simp -implicitDefEqProofs [he, h0]), fun he => ⟨by omega, by omega, fun _ _ => ⟨t + 1, rfl, by omega, hprev, n8 (by rw [o]; simp -implicitDefEqProofs [g1, g2, he]), by omega⟩⟩⟩⟩,
    fun h0 => ⟨by omega, by omega, fun _ _ => ⟨t + 1, rfl, by omega, hprev, n8 (by rw [o, show decide (0 < t) = false by simp -implicitDefEqProofs [h0]]; simp -implicitDefEqProofs [g1, g2]), by omega⟩⟩⟩⟩⟩
   have : a0f r = false := n7 (by rw [o]; simp; omega)
   exact ⟨fun _ => this, fun _ => this⟩
  ·have n9 : okS1 c = false -> a0f r = false := fun h => n0 (n1 h)
   have n10 : okS1 c = true -> ∀ j, j < i + 1 -> okCS r.commits j = true := fun h j hj => by
    rcases Nat.lt_or_ge j i with h3 | h3
    ·exact hprev j h3
    ·have : j = i := by omega
     subst this
     exact n3 h (fun k hk => hinv k (by omega))
   refine fun _ => ⟨fun h => n9 (by simp -implicitDefEqProofs [okS1]; omega), fun h => ⟨fun hn => n9 (by simp -implicitDefEqProofs [okS1, hn]), fun hn => ⟨fun ht => n9 (by simp -implicitDefEqProofs [okS1, ht]), fun ht => ⟨by omega, by omega, fun _ _ => ⟨i + 1, rfl, by omega, n10 (by simp -implicitDefEqProofs [okS1, hn, ht]; omega), by omega⟩⟩⟩⟩⟩
 ·clear hN hN1 hN2 hY
  have hall : ∀ j, j < r.commits.length -> okCS r.commits j = true := fun j hj => hprev j (by omega)
  refine ⟨hall, fun t ht _ hinv _ => ⟨fun hlt2 => ?_, fun hge2 _ => ?_⟩⟩
  ·generalize hhs : r.heads = hs at *
   have e3 : Option.map a1d hs[t]? = some (a1d hs[t]) := by simp -implicitDefEqProofs [List.getElem?_eq_getElem hlt2]
   have e4 : Option.map a1d hs[t - 1]? = some (a1d (hs[t - 1]'(by omega))) := by simp -implicitDefEqProofs [List.getElem?_eq_getElem (show t - 1 < hs.length by omega)]
   have hh : okHd r.commits.length hs t = (a1a hs[t].name && inN r.commits.length hs[t].at_ && (decide (t = 0) || Go.Op.bytesLess (hs[t - 1]'(by omega)).name hs[t].name)) := by
    unfold okHd
    rw [show hs.getD t default = hs[t] by simp -implicitDefEqProofs [List.getD_eq_getElem?_getD, hlt2], show hs.getD (t - 1) default = hs[t - 1]'(by omega) by simp -implicitDefEqProofs [List.getD_eq_getElem?_getD, show t - 1 < hs.length by omega]]
   have n7 : okHd r.commits.length hs t = false -> a0f r = false := fun h => hH (hM t hlt2 h)
   have n8 : okHd r.commits.length hs t = true -> ∀ j, j < t + 1 -> okHd r.commits.length hs j = true := fun h j hj => by
    rcases Nat.lt_or_ge j t with h3 | h3
    ·exact hinv j h3
    ·have : j = t := by omega
     subst this; exact h
   have hq := b7h hs[t].name (hs[t - 1]'(by omega)).name
   rw [a2U] at hh
   unfold leqS at hq
   rw [hh] at n7 n8
   unfold inN at n7 n8
   clear hh hH hM
   simp -implicitDefEqProofs [hlt2, e3, e4, a1d, D.asStr, D.asInt, a0V, and_assoc]
   try simp +contextual -implicitDefEqProofs [eStr, a0p, a0N, a0V, a0O, List.getElem?_eq_getElem, a0P, a0y, a0L, a0H, <- a0n, <- a0q, a0w, a0F, a0D, a0C, a0z, a0v, and_assoc, hlt2]
   clear e3 e4 hinv hprev
   repeat' (first | intro _ | apply And.intro)
   all_goals first | omega | grind -ring
  ·have h2 : a1M r.commits.length r.heads = decide (r.heads.length <= 5) := by
    unfold a1M
    have : (List.range r.heads.length).all (okHd r.commits.length r.heads) = true := by
     rw [List.all_eq_true]
     intro j hj
     have hj' : j < r.heads.length := by simpa using hj
     exact hinv j (by omega)
    rw [this, Bool.and_true]
   refine ⟨fun h16 _ => ?_, fun h16 => ?_⟩
   ·rw [Bool.eq_iff_iff, a0Q, h2]
    simp only [decide_eq_true_eq]
    exact ⟨fun h => by have := h.2.1; omega, fun h => ⟨hall, by omega, by omega⟩⟩
   ·cases hq : a0f r with
    | false => rfl
    | true => have := ((a0Q r).1 hq).2.2; omega
theorem a2P {r : RepoD} (h : a0j r = true) {i : Nat} (hi : i < r.commits.length) : r.commits[i].parents.length <= 2 /\ (∀ p ∈ r.commits[i].parents, 0 <= p /\ p < (i : Int)) /\ a0r r.commits[i].tree = true := by
 have h1 := ((a4Z r).1 h).2.1 i hi
 have hg : r.commits.getD i default = r.commits[i] := by simp -implicitDefEqProofs [List.getD_eq_getElem?_getD, hi]
 simp only [okCI, okI1, hg, Bool.and_eq_true, decide_eq_true_eq, List.all_eq_true, List.mem_range] at h1
 refine ⟨h1.1.1.1.1, fun p hp => ?_, h1.1.2⟩
 obtain ⟨k, hk, rfl⟩ := List.getElem_of_mem hp
 have h2 := h1.2 k hk
 simp only [inN, Bool.and_eq_true, decide_eq_true_eq, List.getD_eq_getElem?_getD, List.getElem?_eq_getElem hk, Option.getD_some] at h2
 omega
theorem a3o {r : RepoD} (h : a0j r = true) : r.commits.length <= 16 := ((a4Z r).1 h).1
def a5r (r : RepoD) (a : Int) : Int := (r.commits.getD a.toNat default).parents.headD (-1)
theorem c5o {r : RepoD} (h : a0j r = true) {a : Int} (h0 : 0 <= a) (h1 : a < r.commits.length) : -1 <= a5r r a /\ a5r r a < a := by
 have hi : a.toNat < r.commits.length := by omega
 obtain ⟨_, h2, _⟩ := a2P h hi
 unfold a5r
 rw [List.getD_eq_getElem?_getD, List.getElem?_eq_getElem hi, Option.getD_some]
 cases hp : r.commits[a.toNat].parents with
 | nil => simp; omega
 | cons p l =>
  have := h2 p (by rw [hp]; simp)
  simp only [List.headD_cons]
  omega
def b6q : Con := .fn 21 (RepoD × Int) (fun a => [a0Y a.1, .int .i64 a.2]) (fun a => 0 <= a.2 /\ a.2 < a.1.commits.length) (fun a => .int .i64 (a5r a.1 a.2)) (fun _ => [])
theorem c2J : Has Tryz.prog 134 b6q := by
 refine a0d mixed a0g HasL.nil [0, 1, 2, 4] ((fun a n (_ : Nat) => (fun _ => a0s) a n)) [] Tryz.func134 (by unfold Tryz.f134; rfl) (fun _ => ⟨(), trivial⟩) ?_
 intro a ha
 obtain ⟨r, n⟩ := a
 obtain ⟨h1, h2⟩ : 0 <= n /\ n < r.commits.length := ha
 have hi : n.toNat < r.commits.length := by omega
 have e : Option.map a0E r.commits[n.toNat]? = some (a0E r.commits[n.toNat]) := by simp -implicitDefEqProofs [hi]
 have hf : a5r r n = r.commits[n.toNat].parents.headD (-1) := by unfold a5r; rw [List.getD_eq_getElem?_getD, List.getElem?_eq_getElem hi]; rfl
 simp -implicitDefEqProofs [b6q, Con.fn, tTab, e, hf, a0E, hi, h1, h2]
 try dsimp only
 intro _
 cases hp : r.commits[n.toNat].parents with
 | nil => simp
 | cons q l => simp -implicitDefEqProofs [eInt]
def a7R : Con := .fn 13 (RepoD × Int) (fun a => [a0Y a.1, .int .i64 a.2]) (fun a => 0 <= a.2 /\ a.2 < a.1.commits.length) (fun a => .sl true 2 (a0b (a.1.commits.getD a.2.toNat default).tree)) (fun _ => [])
theorem a7w : Has Tryz.prog 84 a7R := by
 refine a0d mixed a0g HasL.nil [0, 1, 2, 4] ((fun a n (_ : Nat) => (fun _ => a0s) a n)) [] Tryz.func84 (by unfold Tryz.f84; rfl) (fun _ => ⟨(), trivial⟩) ?_
 intro a ha
 obtain ⟨r, n⟩ := a
 obtain ⟨h1, h2⟩ : 0 <= n /\ n < r.commits.length := ha
 have hi : n.toNat < r.commits.length := by omega
 have e : Option.map a0E r.commits[n.toNat]? = some (a0E r.commits[n.toNat]) := by simp -implicitDefEqProofs [hi]
 simp -implicitDefEqProofs [a7R, Con.fn, tTab, e, a0E, hi, h1, h2]
 try dsimp only
 exact fun h => absurd h (by omega)
def areB (r : RepoD) (l : List Int) : Bool := a0j r && l.all fun a => decide (0 <= a) && decide (a <= (r.commits.length : Int) - 1)
def cAre : Con := .fn 21 (RepoD × List Int) (fun a => [a0Y a.1, .sl true 1 (a0h a.2)]) (fun a => a1V a.1) (fun a => .bool (areB a.1 a.2)) (fun _ => [])
theorem c7F : Has Tryz.prog 77 cAre := by
 refine a0d mixed a0g (HasL.cons a1T (HasL.cons a5n HasL.nil)) [0, 1, 2, 4, 6, 10, 11, 12] ((fun a n (_ : Nat) => (fun a _ => ⟨Nat, fun i => ⟨[(1, true, .sl true 1 (a0h a.2)), (2, true, .ptr 10 0), (4, true, .bool false), (10, true, .sl true 1 (a0h a.2)), (11, true, .int .i64 a.2.length), (12, true, .int .i64 i)], [(10, a1P a.1)]⟩, fun i => i <= a.2.length /\ ∀ x, x ∈ a.2.take i -> (decide (0 <= x) && decide (x <= (a.1.commits.length : Int) - 1)) = true, fun i => a.2.length - i⟩) a n)) [] Tryz.func77 (by unfold Tryz.f77; rfl) (fun _ => ⟨(), trivial⟩) ?_
 intro a ha
 obtain ⟨r, l⟩ := a
 replace ha : a1V r := ha
 have ha2 := ha.1
 simp -implicitDefEqProofs [cAre, Con.fn, tTab, a2z, a5H, a0t]
 try dsimp only
 refine ⟨ha, fun h => by simp -implicitDefEqProofs [areB, h], fun h _ i hi hb => ⟨fun hlt => ⟨hlt, fun _ => ⟨by simp -implicitDefEqProofs [hlt, eInt], fun _ _ => ⟨r, l[i], ⟨⟨rfl, rfl⟩, by simp -implicitDefEqProofs [hlt, eInt]⟩, ha2, fun hbad => ?_, fun h0 h1 => ⟨⟨by omega, by omega⟩, fun _ _ => ⟨i + 1, by omega, ⟨by omega, c4t (q := fun x : Int => 0 <= x /\ x <= (r.commits.length : Int) - 1) hlt hb ⟨h0, h1⟩⟩, by omega⟩⟩⟩⟩⟩, fun hge => ?_⟩⟩
 ·unfold areB
  rw [h, Bool.true_and, List.all_eq_false]
  exact ⟨l[i], List.getElem_mem hlt, by simp; omega⟩
 ·rw [List.take_of_length_le hge] at hb
  unfold areB
  rw [h, Bool.true_and, List.all_eq_true]
  intro x hx
  have := hb x hx
  simp; omega
def a0o (r : RepoD) (a : Int) : List FileD := (r.commits.getD a.toNat default).tree
--TAB a0G
def a0G : List (Nat × TI) := (108, ⟨false, [.sl 4 1], 24, [], 4⟩) :: tTab
theorem a0B : ∀ t ti, get? a0G t = some ti -> TOk Tryz.prog t ti := b0u (by kernel_rfl)
def a1D (b : Bool) : List D := [.bool b]
@[simp] theorem eBool_inj (a b : Bool) : (a1D a = a1D b) = (a = b) := by simp -implicitDefEqProofs [a1D]
def a0I (l : List Bool) : List (List D) := l.map a1D
@[simp] theorem eBools_length (l : List Bool) : (a0I l).length = l.length := by simp -implicitDefEqProofs [a0I]
@[simp] theorem eBools_nil : a0I [] = [] := rfl
@[simp] theorem eBools_get (l : List Bool) (i : Nat) : (a0I l)[i]? = l[i]?.map a1D := by simp -implicitDefEqProofs [a0I]
@[simp] theorem eBools_getElem (l : List Bool) (i : Nat) (h : i < (a0I l).length) : (a0I l)[i] = a1D (l[i]'(by simpa using h)) := by simp -implicitDefEqProofs [a0I]
@[simp] theorem eBools_inj (a b : List Bool) : (a0I a = a0I b) = (a = b) := by
 apply propext
 constructor
 ·intro h
  exact List.map_inj_right (fun x y h => by simpa using h) |>.1 h
 ·rintro rfl; rfl
@[simp] theorem eBools_eq_nil (a : List Bool) : (a0I a = []) = (a = []) := by simp -implicitDefEqProofs [a0I]
@[simp] theorem nil_eq_eBools (a : List Bool) : ([] = a0I a) = (a = []) := by simp -implicitDefEqProofs [a0I, eq_comm]
theorem a1E (l : List Bool) (i : Nat) (b : Bool) : (a0I l).set i [.bool b] = a0I (l.set i b) := by simp -implicitDefEqProofs [a0I, List.map_set, a1D]
theorem a3i (n : Nat) (b : Bool) : List.replicate n [D.bool b] = a0I (List.replicate n b) := by simp -implicitDefEqProofs [a0I, a1D]
abbrev b7t (h : Nat) (a : List Bool) : List (Nat × Blk) := [(h, .own 4 1 true (a0I a))]
def isT (l : List Bool) (i : Nat) : Bool := l.getD i false
def a3w (l : List Bool) (i : Nat) : List Int := ((List.range i).filter (isT l)).map fun j : Nat => (j : Int)
theorem b0e {l : List Bool} {i : Nat} (h : isT l i = true) : a3w l (i + 1) = a3w l i ++ [(i : Int)] := by simp -implicitDefEqProofs [a3w, List.range_succ, h]
theorem a8W {l : List Bool} {i : Nat} (h : isT l i = false) : a3w l (i + 1) = a3w l i := by simp -implicitDefEqProofs [a3w, List.range_succ, h]
theorem a6a (l : List Bool) (i : Nat) : (a3w l i).length <= i := by
 have := List.length_filter_le (isT l) (List.range i)
 simpa [a3w] using this
def a0l (l : List Bool) : List Int := a3w l l.length
theorem listT_mem {l : List Bool} {x : Int} : x ∈ a0l l ↔ ∃ i : Nat, i < l.length /\ isT l i = true /\ x = i := by
 simp only [a0l, a3w, List.mem_map, List.mem_filter, List.mem_range]
 constructor
 ·rintro ⟨i, ⟨h1, h2⟩, rfl⟩; exact ⟨i, h1, h2, rfl⟩
 ·rintro ⟨i, h1, h2, rfl⟩; exact ⟨i, ⟨h1, h2⟩, rfl⟩
def b3M : Con := .fn 20 (List Bool) (fun l => [.sl true 1 (a0I l)]) (fun l => l.length <= 1048576) (fun l => .own 8 1 (a0h (a0l l))) (fun l => a4v 8 (a0l l))
theorem c1l : Has Tryz.prog 185 b3M := by
 refine a0d mixed a0B HasL.nil [0, 2, 3, 4, 5, 6, 7, 8] ((fun a n (_ : Nat) => (fun l _ => ⟨Nat, fun i => ⟨[(2, true, .nil), (3, true, .own 9 1 (a0h (a3w l i))), (6, true, .sl true 1 (a0I l)), (7, true, .int .i64 l.length), (8, true, .int .i64 i)], [(9, .own 3 1 true (a0h (a3w l i)))]⟩, fun i => i <= l.length, fun i => l.length - i⟩) a n)) [] Tryz.func185 (by unfold Tryz.f185; rfl) (fun _ => ⟨(), trivial⟩) ?_
 intro (l : List Bool) (ha : l.length <= 1048576)
 simp -implicitDefEqProofs [b3M, Con.fn, a0G, tTab]
 try dsimp only
 refine fun _ => ⟨⟨0, ⟨⟨rfl, rfl⟩, rfl⟩, Nat.zero_le _⟩, fun i hi => ⟨fun hlt => ?_, fun hge => ?_⟩⟩
 ·have hl := a6a l i
  have hi : isT l i = l[i] := by simp -implicitDefEqProofs [isT, List.getD_eq_getElem?_getD, hlt]
  simp -implicitDefEqProofs [hlt, a1D, D.asBool, and_assoc]
  refine ⟨fun h => ?_, fun h => ?_⟩
  ·have e := b0e (hi.trans h)
   exact ⟨by omega, by omega, by omega, by omega, fun _ _ => ⟨i + 1, by rw [e]; simp -implicitDefEqProofs [a0h, eInt], by omega, by rw [e]; simp -implicitDefEqProofs [a0h, eInt], by omega, by omega⟩⟩
  ·have e := a8W (hi.trans h)
   exact ⟨by omega, by omega, fun _ _ => ⟨i + 1, e, by omega, e.symm, by omega, by omega⟩⟩
 ·have : i = l.length := by omega
  subst this
  exact ⟨rfl, rfl⟩
def b2A : Con := .fn 18 (List Int × Int) (fun a => [.sl true 1 (a0h a.1), .int .i64 a.2]) (fun _ => True) (fun a => .bool (decide (a.2 ∈ a.1))) (fun _ => [])
theorem b4M : Has Tryz.prog 143 b2A := by
 refine a0d mixed a0B HasL.nil [0, 1, 4, 5] ((fun a n (_ : Nat) => (fun a _ => ⟨Nat, fun i => ⟨[(0, true, .sl true 1 (a0h a.1)), (1, true, .int .i64 a.2), (4, true, .bool false), (5, true, .int .i64 i)], []⟩, fun i => i <= a.1.length /\ ∀ x, x ∈ a.1.take i -> x ≠ a.2, fun i => a.1.length - i⟩) a n)) [] Tryz.func143 (by unfold Tryz.f143; rfl) (fun _ => ⟨(), trivial⟩) ?_
 intro a _
 obtain ⟨l, n⟩ := a
 simp -implicitDefEqProofs [b2A, Con.fn, a0G, tTab]
 try dsimp only
 refine fun i hi hb _ => ⟨fun hlt => ?_, fun hge => ?_⟩
 ·simp -implicitDefEqProofs [hlt, eInt, D.asInt, and_assoc]
  refine ⟨fun h => by rw [<- h]; exact List.getElem_mem hlt, fun h => ⟨by omega, by omega, fun _ _ => ⟨i + 1, by omega, by omega, fun x hx => ?_, by omega⟩⟩⟩
  rw [a0x hlt] at hx
  rcases List.mem_append.1 hx with h1 | h1
  ·exact hb x h1
  ·simp only [List.mem_singleton] at h1
   subst h1; exact h
 ·rw [List.take_of_length_le hge] at hb
  exact fun h => hb n h rfl
def putT (l : List Bool) (ps : List Int) : List Bool := ps.foldl (fun l p => l.set p.toNat true) l
theorem b7H (ps : List Int) : ∀ l : List Bool, (putT l ps).length = l.length := by
 induction ps with
 | nil => intro l; rfl
 | cons p r ih => intro l; show (putT (l.set p.toNat true) r).length = _; rw [ih]; simp
def a4z (r : RepoD) (l : List Bool) (i : Nat) : List Bool := if isT l i then putT l (r.commits.getD i default).parents else l
def ancF (r : RepoD) : Nat -> List Bool -> List Bool
 | 0, l => l
 | n + 1, l => ancF r n (a4z r l n)
def anc (r : RepoD) (a : Int) : List Bool := ancF r (a + 1).toNat ((List.replicate r.commits.length false).set a.toNat true)
theorem b6b (r : RepoD) : ∀ (n : Nat) (l : List Bool), (ancF r n l).length = l.length
 | 0, _ => rfl
 | n + 1, l => by
  show (ancF r n (a4z r l n)).length = _
  rw [b6b r n]
  unfold a4z
  split
  ·rw [b7H]
  ·rfl
theorem a1X (r : RepoD) (a : Int) : (anc r a).length = r.commits.length := by unfold anc; rw [b6b]; simp
def anO (r : RepoD) (a : Int) : Inv := ⟨List Bool × Int, fun t => ⟨[(2, true, .ptr 10 0), (4, true, .nil), (5, true, .own 9 1 (a0I t.1)), (6, true, .int .i64 t.2)], [(10, a1P r), (9, .own 4 1 true (a0I t.1))]⟩, fun t => t.1.length = r.commits.length /\ -1 <= t.2 /\ t.2 < r.commits.length /\ ancF r (t.2 + 1).toNat t.1 = anc r a, fun t => (t.2 + 1).toNat⟩
def anI (r : RepoD) (a : Int) (g : Nat) : Inv := ⟨List Bool × Nat, fun t => ⟨[(2, true, .ptr 10 0), (4, true, .nil), (5, true, .own 9 1 (a0I t.1)), (6, true, .int .i64 g), (30, true, .sl true 1 (a0h (r.commits.getD g default).parents)), (31, true, .int .i64 (r.commits.getD g default).parents.length), (32, true, .int .i64 t.2)], [(10, a1P r), (9, .own 4 1 true (a0I t.1))]⟩, fun t => t.1.length = r.commits.length /\ g < r.commits.length /\ t.2 <= (r.commits.getD g default).parents.length /\ ancF r g (putT t.1 ((r.commits.getD g default).parents.drop t.2)) = anc r a, fun t => (r.commits.getD g default).parents.length - t.2⟩
def b9U (r : RepoD) (a : Int) (n g : Nat) : Inv := if n = 4 then anO r a else anI r a g
theorem c7z (r : RepoD) (a : Int) (g : Nat) : b9U r a 4 g = anO r a := rfl
theorem c7A (r : RepoD) (a : Int) (g : Nat) : b9U r a 8 g = anI r a g := rfl
def cAncestors : Con := .fn 41 (RepoD × Int) (fun a => [a0Y a.1, .int .i64 a.2]) (fun a => a0j a.1 = true /\ 0 <= a.2 /\ a.2 < a.1.commits.length) (fun a => .own 8 1 (a0I (anc a.1 a.2))) (fun a => b7t 8 (anc a.1 a.2))
theorem ancestors_has : Has Tryz.prog 78 cAncestors := by
 refine a0d mixed a0B HasL.nil [0, 1, 2, 4, 5, 6, 8, 30, 31, 32] (fun a => b9U a.1 a.2) [] Tryz.func78 (by unfold Tryz.f78; rfl) (fun _ => ⟨(), trivial⟩) ?_
 intro a ha
 obtain ⟨r, n⟩ := a
 obtain ⟨h1, h2, h3⟩ : a0j r = true /\ 0 <= n /\ n < r.commits.length := ha
 have h4 := a3o h1
 simp -implicitDefEqProofs [cAncestors, Con.fn, a0G, tTab, c7z, c7A, anO, anI, a0t]
 try dsimp only
 refine fun _ => ⟨by omega, fun _ => ⟨⟨h2, h3⟩, fun _ _ => ⟨by omega, ⟨(List.replicate r.commits.length false).set n.toNat true, n, ⟨⟨by rw [a3i]; exact (a1E _ _ _).symm, rfl⟩, by rw [a3i]; exact a1E _ _ _⟩, by simp, by omega, h3, rfl⟩, fun l b g1 g2 g3 g4 => ⟨fun hb => ⟨⟨hb, by omega⟩, fun _ _ => ?_⟩, fun hb => ?_⟩⟩⟩⟩
 ·have hb1 : b.toNat < l.length := by omega
  have hb2 : b.toNat < r.commits.length := by omega
  obtain ⟨p1, p2, _⟩ := a2P h1 hb2
  have hT : isT l b.toNat = l[b.toNat] := by simp -implicitDefEqProofs [isT, List.getD_eq_getElem?_getD, hb1]
  have hbb : (b + 1).toNat = b.toNat + 1 := by omega
  have hgd : r.commits.getD b.toNat default = r.commits[b.toNat] := by simp -implicitDefEqProofs [List.getD_eq_getElem?_getD, hb2]
  rw [hbb] at g4
  have g5 : ancF r b.toNat (a4z r l b.toNat) = anc r n := g4
  unfold a4z at g5
  rw [hT, hgd] at g5
  have e3 : Option.map a0E r.commits[b.toNat]? = some (a0E r.commits[b.toNat]) := by simp -implicitDefEqProofs [hb2]
  have hgo : r.commits[b.toNat]?.getD default = r.commits[b.toNat] := by simp -implicitDefEqProofs [hb2]
  simp -implicitDefEqProofs [hb1, a1D, D.asBool, e3, a0E, D.asRows, hb, show b < r.commits.length by omega]
  refine ⟨fun h _ => ⟨b.toNat, ?_⟩, fun h => ⟨⟨by omega, by omega⟩, fun _ _ => ⟨l, b - 1, ⟨⟨rfl, rfl⟩, rfl⟩, ⟨g1, by omega, by omega, ?_⟩, by omega⟩⟩⟩
  ·rw [if_pos h] at g5
   rw [hgo]
   generalize r.commits[b.toNat] = c at *
   refine ⟨⟨l, 0, ⟨⟨rfl, by omega, rfl, rfl, rfl⟩, rfl⟩, g1, hb2, Nat.zero_le _, g5⟩, fun m k m1 m2 m3 m4 => ⟨fun hlt => ⟨hlt, fun _ => ?_⟩, fun hge => ⟨⟨by omega, by omega⟩, fun _ _ => ⟨m, b - 1, ⟨⟨rfl, by omega⟩, rfl⟩, ⟨m1, by omega, by omega, ?_⟩, by omega⟩⟩⟩⟩
   ·have hp := p2 c.parents[k] (List.getElem_mem hlt)
    have qt : Option.map eInt c.parents[k]? = some (eInt c.parents[k]) := by simp -implicitDefEqProofs [List.getElem?_eq_getElem hlt]
    simp -implicitDefEqProofs [qt, eInt, D.asInt]
    refine ⟨⟨hp.1, by omega⟩, fun _ _ => ⟨by omega, ⟨by omega, by omega⟩, fun _ _ => ⟨m.set c.parents[k].toNat true, k + 1, ⟨⟨(a1E _ _ _).symm, by omega⟩, a1E _ _ _⟩, ⟨by simp -implicitDefEqProofs [m1], m2, by omega, ?_⟩, by omega⟩⟩⟩
    rw [List.drop_eq_getElem_cons hlt] at m4
    exact m4
   ·rw [List.drop_eq_nil_of_le hge] at m4
    rw [show (b - 1 + 1).toNat = b.toNat by omega]
    exact m4
  ·rw [if_neg (by rw [h]; simp)] at g5
   rw [show (b - 1 + 1).toNat = b.toNat by omega]
   exact g5
 ·have hbb : (b + 1).toNat = 0 := by omega
  rw [hbb] at g4
  have g5 : l = anc r n := g4
  exact ⟨g5.symm, g5⟩
--TAB a0G
--TAB a0G
theorem b2L {l : List Bool} {p g : Nat} (b : Bool) (h : p ≠ g) : isT (l.set p b) g = isT l g := by
 unfold isT
 rw [List.getD_eq_getElem?_getD, List.getD_eq_getElem?_getD, List.getElem?_set_ne h]
def alO (r : RepoD) (a : Int) : Inv := ⟨List Bool × Int, fun t => ⟨[(2, true, .ptr 10 0), (4, true, .nil), (5, true, .own 9 1 (a0I t.1)), (6, true, .int .i64 t.2)], [(10, a1P r), (9, .own 4 1 true (a0I t.1))]⟩, fun t => t.1.length = r.commits.length /\ -1 <= t.2 /\ t.2 < r.commits.length /\ ancF r (t.2 + 1).toNat t.1 = anc r a, fun t => (t.2 + 1).toNat⟩
def alI (r : RepoD) (a : Int) (g : Nat) : Inv := ⟨List Bool × Nat, fun t => ⟨[(2, true, .ptr 10 0), (4, true, .nil), (5, true, .own 9 1 (a0I t.1)), (6, true, .int .i64 g), (7, true, .int .i64 t.2)], [(10, a1P r), (9, .own 4 1 true (a0I t.1))]⟩, fun t => t.1.length = r.commits.length /\ g < r.commits.length /\ t.2 <= (r.commits.getD g default).parents.length /\ (isT t.1 g = true -> ancF r g (putT t.1 ((r.commits.getD g default).parents.drop t.2)) = anc r a) /\ (isT t.1 g = false -> ancF r g t.1 = anc r a), fun t => (r.commits.getD g default).parents.length - t.2⟩
def alT (r : RepoD) (a : Int) : Inv := ⟨Nat, fun i => ⟨[(2, true, .ptr 10 0), (4, true, .nil), (5, true, .own 9 1 (a0I (anc r a))), (8, true, .own 11 1 (a0h (a3w (anc r a) i))), (9, true, .int .i64 i)], [(10, a1P r), (9, .own 4 1 true (a0I (anc r a))), (11, .own 3 1 true (a0h (a3w (anc r a) i)))]⟩, fun i => i <= r.commits.length, fun i => r.commits.length - i⟩
def b2l (r : RepoD) (a : Int) (n g : Nat) : Inv := if n = 4 then alO r a else if n = 7 then alI r a g else alT r a
theorem b9d (r : RepoD) (a : Int) (g : Nat) : b2l r a 4 g = alO r a := rfl
theorem b9e (r : RepoD) (a : Int) (g : Nat) : b2l r a 7 g = alI r a g := rfl
theorem b5Y (r : RepoD) (a : Int) (g : Nat) : b2l r a 12 g = alT r a := rfl
def b6w : Con := .fn 66 (RepoD × Int) (fun a => [a0Y a.1, .int .i64 a.2]) (fun a => a0j a.1 = true /\ 0 <= a.2 /\ a.2 < a.1.commits.length) (fun a => .own 8 1 (a0h (a0l (anc a.1 a.2)))) (fun a => a4v 8 (a0l (anc a.1 a.2)))
theorem c3x : Has Tryz.prog 144 b6w := by
 refine a0d mixed a0B HasL.nil [0, 1, 2, 4, 5, 6, 7, 8, 9] (fun a => b2l a.1 a.2) [] Tryz.func144 (by unfold Tryz.f144; rfl) (fun _ => ⟨(), trivial⟩) ?_
 intro a ha
 obtain ⟨r, n⟩ := a
 obtain ⟨h1, h2, h3⟩ : a0j r = true /\ 0 <= n /\ n < r.commits.length := ha
 have h4 := a3o h1
 simp -implicitDefEqProofs [b6w, Con.fn, a0G, tTab, b9d, b9e, b5Y, alO, alI, alT, a0t]
 try dsimp only
 simp only [and_assoc, exists_eq_left, exists_and_left, RepoD.ex1, RepoD.eta]
 have hal := a1X r n
 refine fun _ => ⟨by omega, fun _ => ⟨h2, h3, fun _ _ => ⟨by omega, ⟨(List.replicate r.commits.length false).set n.toNat true, by rw [a3i]; exact (a1E _ _ _).symm, by rw [a3i]; exact a1E _ _ _, by simp, by omega, h3, rfl⟩, fun l b g1 g2 g3 g4 => ⟨fun hb => ⟨b.toNat, ?_⟩, fun hb => ?_⟩⟩⟩⟩
 ·have hb1 : b.toNat < l.length := by omega
  have hb2 : b.toNat < r.commits.length := by omega
  obtain ⟨p1, p2, _⟩ := a2P h1 hb2
  have hgd : r.commits.getD b.toNat default = r.commits[b.toNat] := by simp -implicitDefEqProofs [List.getD_eq_getElem?_getD, hb2]
  have hgo : r.commits[b.toNat]?.getD default = r.commits[b.toNat] := by simp -implicitDefEqProofs [hb2]
  rw [show (b + 1).toNat = b.toNat + 1 by omega] at g4
  have g5 : ancF r b.toNat (a4z r l b.toNat) = anc r n := g4
  unfold a4z at g5
  rw [hgd] at g5
  have e3 : Option.map a0E r.commits[b.toNat]? = some (a0E r.commits[b.toNat]) := by simp -implicitDefEqProofs [hb2]
  rw [hgo, e3]
  generalize r.commits[b.toNat] = c at *
  refine ⟨by omega, trivial, g1, hb2, Nat.zero_le _, fun h => ?_, fun h => ?_, fun m k m1 m2 m3 m4 m5 => ⟨hb2, fun _ => ?_⟩⟩
  ·rw [if_pos h] at g5; exact g5
  ·rw [if_neg (by rw [h]; simp)] at g5; exact g5
  ·have hbm : b.toNat < m.length := by omega
   have hT : isT m b.toNat = m[b.toNat] := by simp -implicitDefEqProofs [isT, List.getD_eq_getElem?_getD, hbm]
   have e4 : Option.map a1D m[b.toNat]? = some (a1D m[b.toNat]) := by simp -implicitDefEqProofs [hbm]
   have hmx : max b 0 = b := Int.max_eq_left hb
   simp -implicitDefEqProofs [a0E, D.asRows, e4, a1D, hbm, hb2, hmx]
   refine fun _ => ⟨fun hl2 => ⟨fun hm => ⟨hl2, fun _ => ?_⟩, fun hm => ⟨by omega, by omega, fun _ _ => ⟨m1, by omega, by omega, m5 (hT.trans hm), by omega⟩⟩⟩, fun hge => ⟨by omega, by omega, fun _ _ => ⟨m1, by omega, by omega, ?_, by omega⟩⟩⟩
   ·have hp := p2 c.parents[k] (List.getElem_mem hl2)
    have qt : Option.map eInt c.parents[k]? = some (eInt c.parents[k]) := by simp -implicitDefEqProofs [List.getElem?_eq_getElem hl2]
    simp -implicitDefEqProofs [qt, eInt, D.asInt]
    have hst : isT (m.set c.parents[k].toNat true) b.toNat = true := by rw [b2L _ (by omega)]; exact hT.trans hm
    refine ⟨hp.1, by omega, fun _ _ => ⟨by omega, by omega, by omega, fun _ _ => ⟨m.set c.parents[k].toNat true, (a1E _ _ _).symm, k + 1, by omega, a1E _ _ _, by simp -implicitDefEqProofs [m1], by omega, fun _ => ?_, fun h => ?_, by omega⟩⟩⟩
    ·have := m4 (hT.trans hm)
     rw [List.drop_eq_getElem_cons hl2] at this
     exact this
    ·rw [hst] at h; cases h
   ·cases hm : m[b.toNat] with
    | true =>
     have := m4 (hT.trans hm)
     rw [List.drop_eq_nil_of_le hge] at this
     exact this
    | false => exact m5 (hT.trans hm)
 ·rw [show (b + 1).toNat = 0 by omega] at g4
  have g5 : l = anc r n := g4
  refine ⟨g5.symm, ⟨0, rfl, rfl, g5, rfl, Nat.zero_le _⟩, fun i hi _ => ⟨fun hlt => ?_, fun hge => ?_⟩⟩
  ·have hl := a6a (anc r n) i
   have hi : isT (anc r n) i = (anc r n)[i] := by simp -implicitDefEqProofs [isT, List.getD_eq_getElem?_getD, hlt]
   rw [hal] at hlt
   simp -implicitDefEqProofs [hal, hlt, a1D, D.asBool, and_assoc]
   refine ⟨fun h => ?_, fun h => ?_⟩
   ·have e := b0e (hi.trans h)
    exact ⟨by omega, by omega, by omega, by omega, fun _ _ => ⟨i + 1, by rw [e]; simp -implicitDefEqProofs [a0h, eInt], by omega, by rw [e]; simp -implicitDefEqProofs [a0h, eInt], by omega, by omega⟩⟩
   ·have e := a8W (hi.trans h)
    exact ⟨by omega, by omega, fun _ _ => ⟨i + 1, e, by omega, e.symm, by omega, by omega⟩⟩
  ·rw [hal] at hge
   have : i = r.commits.length := by omega
   subst this
   unfold a0l
   rw [hal]
   exact ⟨rfl, rfl⟩
def cmSz (c : CommitD) : Prop := c.parents.length <= 1048576 /\ c.tree.length <= 1048576 /\ ∀ g ∈ c.tree, g.text.length <= 1048576
def rpSz (r : RepoD) : Prop := r.commits.length <= 1048576 /\ (∀ c ∈ r.commits, cmSz c) /\ r.heads.length <= 1048576
theorem c7l (p : List Int) : ∀ x ∈ a0h p, ∀ d ∈ x, match d with | .sl _ _ _ => False | _ => True := by
 intro x hx d hd
 simp only [a0h, List.mem_map] at hx
 obtain ⟨i, _, rfl⟩ := hx
 simp only [eInt, List.mem_singleton] at hd
 subst hd; trivial
theorem c7k (p : List HeadD) : ∀ x ∈ a0c p, ∀ d ∈ x, match d with | .sl _ _ _ => False | _ => True := by
 intro x hx d hd
 simp only [a0c, List.mem_map] at hx
 obtain ⟨i, _, rfl⟩ := hx
 simp only [a1d, List.mem_cons, List.not_mem_nil, or_false] at hd
 rcases hd with rfl | rfl <;> trivial
def a6h : Con := .fn 13 CommitD (fun f => [.agg [.sl true 1 (a0h f.parents), .str f.who, .sl true 2 (a0b f.tree)]]) (fun f => cmSz f) (fun f => .agg [.own 8 1 (a0h f.parents), .str f.who, .own 9 2 (a0b f.tree)]) (fun f => a4v 8 f.parents ++ a2m 9 f.tree)
theorem b1Y : Has Tryz.prog 100 a6h := by
 refine a0d mixed a0g (HasL.cons a4r HasL.nil) [0, 1, 2] ((fun a n (_ : Nat) => (fun _ => a0s) a n)) [] Tryz.func100 (by unfold Tryz.f100; rfl) (fun _ => ⟨(), trivial⟩) ?_
 intro f hf
 obtain ⟨p, x, t⟩ := f
 obtain ⟨h1, h2, h3⟩ : p.length <= 1048576 /\ t.length <= 1048576 /\ ∀ g ∈ t, g.text.length <= 1048576 := hf
 simp -implicitDefEqProofs [a6h, a4T, Con.fn, tTab]
 try dsimp only
 exact ⟨c7l p, by omega, h2, h3⟩
abbrev a6k : Blk := .box 32 [.nil, .nil]
def l7cO (r : RepoD) : Inv := ⟨Nat, fun i => ⟨[(1, true, .ptr 12 0), (2, true, .ptr 10 0), (3, true, .ptr 11 0), (4, true, .int .i64 i)], [(12, a1P r), (10, a6k), (11, .box 32 [.own 13 3 (a0e (r.commits.take i)), .own 14 2 (a0c r.heads)]), (13, .own 102 3 true (a0e (r.commits.take i))), (14, .own 69 2 true (a0c r.heads))]⟩, fun i => i <= r.commits.length, fun i => r.commits.length - i⟩
def a3Y : Con := .fn 29 RepoD (fun r => [a0Y r]) rpSz (fun r => .agg [.own 8 3 (a0e r.commits), .own 9 2 (a0c r.heads)]) (fun r => a1S 8 r.commits ++ a2e 9 r.heads)
theorem a3k : Has Tryz.prog 53 a3Y := by
 refine a0d mixed a0g (HasL.cons b1Y HasL.nil) [0, 1, 2, 3, 4] ((fun a n (_ : Nat) => (fun r _ => l7cO r) a n)) [25, 26] Tryz.func53 (by unfold Tryz.f53; rfl) (fun _ => ⟨(), trivial⟩) ?_
 intro (r : RepoD) hr
 obtain ⟨h1, h2, h3⟩ : r.commits.length <= 1048576 /\ (∀ c ∈ r.commits, cmSz c) /\ r.heads.length <= 1048576 := hr
 simp -implicitDefEqProofs [a3Y, a6h, Con.fn, tTab, l7cO, a0t]
 try dsimp only
 refine ⟨c7k r.heads, by omega, ⟨0, ⟨rfl, .inl rfl⟩, Nat.zero_le _⟩, fun i hi _ => ⟨fun hlt => ?_, fun hge => ?_⟩⟩
 ·have e : r.commits.take (i + 1) = r.commits.take i ++ [r.commits[i]] := a0x hlt
  have hc := h2 _ (List.getElem_mem hlt)
  simp -implicitDefEqProofs [hlt, a0E, D.asStr, D.asRows, and_assoc]
  refine ⟨hc, by omega, by omega, by omega, by omega, fun _ _ => ⟨i + 1, by omega, ?_, ?_, by omega, by omega⟩⟩
  ·rw [e, a3d]
  ·rw [e, a3d]
 ·rw [List.take_of_length_le hge]; exact ⟨rfl, rfl⟩
def a1K (n : Str) (a : Int) (acc : List HeadD × Bool) (g : HeadD) : List HeadD × Bool :=
 if acc.2 = false /\ Go.Op.bytesLess g.name n = false then (if g.name = n then (acc.1 ++ [⟨n, a⟩], true) else (acc.1 ++ [⟨n, a⟩] ++ [g], true))
 else (if g.name = n then acc else (acc.1 ++ [g], acc.2))
def hL (n : Str) (a : Int) (l : List HeadD) : List HeadD × Bool := l.foldl (a1K n a) ([], false)
def hSet (l : List HeadD) (n : Str) (a : Int) : List HeadD := if (hL n a l).2 then (hL n a l).1 else (hL n a l).1 ++ [⟨n, a⟩]
theorem c7T {n : Str} {a : Int} {t : List HeadD} {i : Nat} (h : i < t.length) : hL n a (t.take (i + 1)) = a1K n a (hL n a (t.take i)) t[i] := by
 unfold hL
 rw [a0x h, List.foldl_append]; rfl
theorem c2T (n : Str) (a : Int) (acc : List HeadD × Bool) (g : HeadD) : (a1K n a acc g).1.length + acc.2.toNat <= acc.1.length + (a1K n a acc g).2.toNat + 1 := by
 unfold a1K
 split
 ·rename_i h
  rw [h.1]
  split <;> simp <;> omega
 ·split <;> simp <;> omega
theorem c9i (n : Str) (a : Int) (t : List HeadD) : (hL n a t).1.length <= t.length + (hL n a t).2.toNat := by
 have : ∀ (t : List HeadD) (acc : List HeadD × Bool), (t.foldl (a1K n a) acc).1.length + acc.2.toNat <= acc.1.length + t.length + (t.foldl (a1K n a) acc).2.toNat := by
  intro t
  induction t with
  | nil => intro acc; simp
  | cons g r ih =>
   intro acc
   have h1 := ih (a1K n a acc g)
   have h2 := c2T n a acc g
   simp only [List.foldl_cons, List.length_cons]
   omega
 have := this t ([], false)
 simpa [hL] using this
def l7hO (r : RepoD) (n : Str) (a : Int) : Inv := ⟨Nat, fun i => ⟨[(1, true, .str n), (2, true, .int .i64 a), (3, true, .ptr 12 0), (6, true, .ptr 10 0), (7, true, .ptr 11 0), (8, true, .bool (hL n a (r.heads.take i)).2), (9, true, .int .i64 i)], [(12, a1P r), (10, a6k), (11, .box 32 [.sl true 3 (a0e r.commits), .own 14 2 (a0c (hL n a (r.heads.take i)).1)]), (14, .own 69 2 true (a0c (hL n a (r.heads.take i)).1))]⟩, fun i => i <= r.heads.length, fun i => r.heads.length - i⟩
def a7P : Con := .fn 69 (RepoD × Str × Int) (fun a => [a0Y a.1, .str a.2.1, .int .i64 a.2.2]) (fun a => a.1.heads.length <= 1048576) (fun a => .agg [.sl true 3 (a0e a.1.commits), .own 9 2 (a0c (hSet a.1.heads a.2.1 a.2.2))]) (fun a => a2e 9 (hSet a.1.heads a.2.1 a.2.2))
theorem a8S : Has Tryz.prog 145 a7P := by
 refine a0d mixed a0g HasL.nil [0, 1, 2, 3, 6, 7, 8, 9] ((fun a n (_ : Nat) => (fun a _ => l7hO a.1 a.2.1 a.2.2) a n)) [] Tryz.func145 (by unfold Tryz.f145; rfl) (fun _ => ⟨(), trivial⟩) ?_
 intro a ha
 obtain ⟨r, n, a⟩ := a
 replace ha : r.heads.length <= 1048576 := ha
 have a0 : hL n a [] = ([], false) := rfl
 have a7 : ∀ i, (hL n a (r.heads.take i)).1.length <= 1048577 := fun i => by
  have h1 := c9i n a (r.heads.take i)
  have h2 := Bool.toNat_le (hL n a (r.heads.take i)).2
  have h3 : (r.heads.take i).length <= r.heads.length := by simp; omega
  omega
 simp -implicitDefEqProofs [a7P, Con.fn, tTab, l7hO, a0t]
 try dsimp only
 have b1 : ∀ (X : List HeadD) (g : HeadD), a0c X ++ [[D.str n, D.int .i64 a], [D.str g.name, D.int .i64 g.at_]] = a0c (X ++ [⟨n, a⟩] ++ [g]) := fun X g => by simp -implicitDefEqProofs [a0c, a1d]
 have b2 : ∀ (X : List HeadD) (g : HeadD), a0c X ++ [[D.str g.name, D.int .i64 g.at_]] = a0c (X ++ [g]) := fun X g => by simp -implicitDefEqProofs [a0c, a1d]
 have b3 : ∀ (X : List HeadD), a0c X ++ [[D.str n, D.int .i64 a]] = a0c (X ++ [⟨n, a⟩]) := fun X => by simp -implicitDefEqProofs [a0c, a1d]
 refine ⟨⟨0, by simp -implicitDefEqProofs [a0]⟩, fun i hi _ => ⟨fun hlt => ?_, fun hge => ?_⟩⟩
 ·have g := c7T (n := n) (a := a) hlt
  have gl := a7 i
  generalize hX : hL n a (r.heads.take i) = X at g gl ⊢
  obtain ⟨X, q⟩ := X
  simp -implicitDefEqProofs [hlt, a1d, D.asStr, D.asInt, and_assoc]
  rw [b1, b2, b3]
  have gl : X.length <= 1048577 := gl
  have fin : ∀ (Y : List HeadD) (b : Bool), hL n a (r.heads.take (i + 1)) = (Y, b) -> ∀ c, b = c -> ∃ t', (hL n a (r.heads.take t')).2 = c /\ (t' : Int) = i + 1 /\ a0c (hL n a (r.heads.take t')).1 = a0c Y /\ a0c Y = a0c (hL n a (r.heads.take t')).1 /\ t' <= r.heads.length /\ r.heads.length - t' < r.heads.length - i := fun Y b h c hc => ⟨i + 1, by rw [h]; exact hc, by omega, by rw [h], by rw [h], by omega, by omega⟩
  have fin2 : ∀ (Y : List HeadD) (b : Bool), hL n a (r.heads.take (i + 1)) = (Y, b) -> ∀ c, b = c -> ∃ t', (hL n a (r.heads.take t')).2 = c /\ (t' : Int) = i + 1 /\ (hL n a (r.heads.take t')).1 = Y /\ Y = (hL n a (r.heads.take t')).1 /\ t' <= r.heads.length /\ r.heads.length - t' < r.heads.length - i := fun Y b h c hc => ⟨i + 1, by rw [h]; exact hc, by omega, by rw [h], by rw [h], by omega, by omega⟩
  refine ⟨fun hq => ⟨fun h => ⟨by omega, by omega, by omega, by omega, fun _ _ => fin _ q ?_ _ rfl⟩, fun h => ⟨by omega, by omega, fun _ _ => fin2 _ q ?_ _ rfl⟩⟩,
   fun hq => ⟨fun hb => ⟨by omega, by omega, fun h => ⟨by omega, by omega, by omega, by omega, fun _ _ => fin _ true ?_ _ rfl⟩, fun h => ⟨by omega, by omega, fun _ _ => fin _ true ?_ _ rfl⟩⟩,
    fun hb => ⟨fun h => ⟨by omega, by omega, by omega, by omega, fun _ _ => fin _ q ?_ _ rfl⟩, fun h => ⟨by omega, by omega, fun _ _ => fin2 _ q ?_ _ rfl⟩⟩⟩⟩
  all_goals rw [g]; unfold a1K
  ·rw [if_neg (by simp -implicitDefEqProofs [hq]), if_neg h]
  ·rw [if_neg (by simp -implicitDefEqProofs [hq]), if_pos h]
  ·rw [if_pos ⟨hq, hb⟩, if_neg h]
  ·rw [if_pos ⟨hq, hb⟩, if_pos h]
  ·rw [if_neg (by simp -implicitDefEqProofs [hb]), if_neg h]
  ·rw [if_neg (by simp -implicitDefEqProofs [hb]), if_pos h]
 ·rw [List.take_of_length_le hge]
  have gl := a7 r.heads.length
  rw [List.take_length] at gl
  rw [b3]
  refine ⟨fun h => ?_, fun h => ⟨by omega, ?_⟩⟩
  ·unfold hSet; rw [if_pos h]; exact ⟨rfl, rfl⟩
  ·unfold hSet; rw [if_neg (by simp -implicitDefEqProofs [h])]; exact ⟨rfl, rfl⟩
def addR (r : RepoD) (n : Str) (c : CommitD) : RepoD := ⟨r.commits ++ [c], hSet r.heads n r.commits.length⟩
def a9F : Con := .fn 24 (RepoD × Str × CommitD) (fun a => [a0Y a.1, .str a.2.1, .agg [.sl true 1 (a0h a.2.2.parents), .str a.2.2.who, .sl true 2 (a0b a.2.2.tree)]]) (fun a => a.1.commits.length <= 1048576 /\ a.1.heads.length <= 1048576) (fun a => .agg [.sl false 3 (a0e (addR a.1 a.2.1 a.2.2).commits), .sl false 2 (a0c (addR a.1 a.2.1 a.2.2).heads)]) (fun _ => [])
theorem b0d : Has Tryz.prog 148 a9F := by
 refine a0d mixed a0g (HasL.cons a8S HasL.nil) [0, 1, 2, 3, 5, 6, 7] ((fun a n (_ : Nat) => (fun _ => a0s) a n)) [4109] Tryz.func148 (by unfold Tryz.f148; rfl) (fun _ => ⟨(), trivial⟩) ?_
 intro a ha
 obtain ⟨r, n, c⟩ := a
 obtain ⟨h1, h2⟩ : r.commits.length <= 1048576 /\ r.heads.length <= 1048576 := ha
 simp -implicitDefEqProofs [a9F, a7P, Con.fn, tTab, a0t]
 try dsimp only
 exact ⟨by omega, by omega, fun _ => ⟨⟨r.commits ++ [c], r.heads⟩, n, r.commits.length, ⟨⟨by simp -implicitDefEqProofs [a0e, a0E], rfl⟩, rfl, rfl⟩, h2, rfl, rfl⟩⟩
def a0u (r : RepoD) (n : Str) (a : Int) : RepoD × Bool := if a0f r then (if 0 <= atL r.heads n \/ a0f ⟨r.commits, hSet r.heads n a⟩ = false then (r, false) else (⟨r.commits, hSet r.heads n a⟩, true)) else (⟨[], []⟩, false)
def a7C : Con := .fn 30 (RepoD × Str × Int) (fun a => [a0Y a.1, .str a.2.1, .int .i64 a.2.2]) (fun a => rpSz a.1) (fun a => .tup [.agg [.sl false 3 (a0e (a0u a.1 a.2.1 a.2.2).1.commits), .sl false 2 (a0c (a0u a.1 a.2.1 a.2.2).1.heads)], .bool (a0u a.1 a.2.1 a.2.2).2]) (fun _ => [])
theorem b4o : Has Tryz.prog 127 a7C := by
 refine a0d mixed a0g (HasL.cons a3J (HasL.cons a3k (HasL.cons a8S (HasL.cons a3I HasL.nil)))) [0, 1, 2, 3, 6, 7, 8] ((fun a n (_ : Nat) => (fun _ => a0s) a n)) [] Tryz.func127 (by unfold Tryz.f127; rfl) (fun _ => ⟨(), trivial⟩) ?_
 intro a ha
 obtain ⟨r, n, at_⟩ := a
 replace ha : rpSz r := ha
 have ha2 := ha
 obtain ⟨h1, h2, h3⟩ : r.commits.length <= 1048576 /\ (∀ c ∈ r.commits, cmSz c) /\ r.heads.length <= 1048576 := ha2
 simp -implicitDefEqProofs [a7C, a5k, a3Y, a7P, a5j, Con.fn, tTab, a0t]
 try dsimp only
 have e0 : a0f r = false -> a0u r n at_ = (⟨[], []⟩, false) := fun h => by unfold a0u; rw [if_neg (by simp -implicitDefEqProofs [h])]
 have e1 : a0f r = true -> (0 <= atL r.heads n \/ a0f ⟨r.commits, hSet r.heads n at_⟩ = false) -> a0u r n at_ = (r, false) := fun h h2 => by unfold a0u; rw [if_pos h, if_pos h2]
 have e2 : a0f r = true -> ¬ (0 <= atL r.heads n \/ a0f ⟨r.commits, hSet r.heads n at_⟩ = false) -> a0u r n at_ = (⟨r.commits, hSet r.heads n at_⟩, true) := fun h h2 => by unfold a0u; rw [if_pos h, if_neg h2]
 refine ⟨by omega, fun h => by rw [e0 h]; exact ⟨⟨rfl, rfl⟩, rfl⟩, fun h => ⟨ha, r, n, at_, ⟨⟨rfl, rfl⟩, rfl, rfl⟩, h3, r, n, ⟨⟨rfl, rfl⟩, rfl⟩, fun hq => ⟨ha, by rw [e1 h (.inl hq)]; exact ⟨⟨rfl, rfl⟩, rfl⟩⟩, fun hq => ⟨by omega, fun ho => ⟨ha, by rw [e1 h (.inr ho)]; exact ⟨⟨rfl, rfl⟩, rfl⟩⟩, fun ho => ?_⟩⟩⟩
 rw [e2 h (by rintro (q | q); omega; rw [ho] at q; cases q)]; exact ⟨⟨rfl, rfl⟩, rfl⟩
def comC (r : RepoD) (n who : Str) (t : List FileD) : CommitD := ⟨if 0 <= atL r.heads n then [atL r.heads n] else [], who, t⟩
def a0U (r : RepoD) (n who : Str) (t : List FileD) : RepoD × Bool := if a0f r then (if a0f (addR r n (comC r n who t)) then (addR r n (comC r n who t), true) else (r, false)) else (⟨[], []⟩, false)
def a7D : Con := .fn 40 (RepoD × Str × Str × List FileD) (fun a => [a0Y a.1, .str a.2.1, .str a.2.2.1, .sl true 2 (a0b a.2.2.2)]) (fun a => rpSz a.1 /\ a.2.2.2.length <= 1048576 /\ ∀ f ∈ a.2.2.2, f.text.length <= 1048576) (fun a => .tup [.agg [.sl false 3 (a0e (a0U a.1 a.2.1 a.2.2.1 a.2.2.2).1.commits), .sl false 2 (a0c (a0U a.1 a.2.1 a.2.2.1 a.2.2.2).1.heads)], .bool (a0U a.1 a.2.1 a.2.2.1 a.2.2.2).2]) (fun _ => [])
theorem b4q : Has Tryz.prog 165 a7D := by
 refine a0d mixed a0g (HasL.cons a3J (HasL.cons a4r (HasL.cons a3I (HasL.cons a3k (HasL.cons b0d HasL.nil))))) [0, 1, 2, 3, 4, 8, 9, 10, 11] ((fun a n (_ : Nat) => (fun _ => a0s) a n)) [] Tryz.func165 (by unfold Tryz.f165; rfl) (fun _ => ⟨(), trivial⟩) ?_
 intro a ha
 obtain ⟨r, n, who, t⟩ := a
 obtain ⟨ha, h4, h5⟩ : rpSz r /\ t.length <= 1048576 /\ ∀ f ∈ t, f.text.length <= 1048576 := ha
 have ha2 := ha
 obtain ⟨h1, h2, h3⟩ : r.commits.length <= 1048576 /\ (∀ c ∈ r.commits, cmSz c) /\ r.heads.length <= 1048576 := ha2
 simp -implicitDefEqProofs [a7D, a5k, a3Y, a9F, a5j, a4T, Con.fn, tTab, a0t]
 try dsimp only
 have e0 : a0f r = false -> a0U r n who t = (⟨[], []⟩, false) := fun h => by unfold a0U; rw [if_neg (by simp -implicitDefEqProofs [h])]
 have e1 : a0f r = true -> a0f (addR r n (comC r n who t)) = false -> a0U r n who t = (r, false) := fun h h2 => by unfold a0U; rw [if_pos h, if_neg (by simp -implicitDefEqProofs [h2])]
 have e2 : a0f r = true -> a0f (addR r n (comC r n who t)) = true -> a0U r n who t = (addR r n (comC r n who t), true) := fun h h2 => by unfold a0U; rw [if_pos h, if_pos h2]
 have hl : ∀ c, (addR r n c).commits.length <= 1073741824 := fun c => by simp -implicitDefEqProofs [addR]; omega
 refine ⟨by omega, fun h => by rw [e0 h]; exact ⟨⟨rfl, rfl⟩, rfl⟩, fun h => ⟨⟨h4, h5⟩, r, n, ⟨⟨rfl, rfl⟩, rfl⟩, fun hq => ?_, fun hq => ?_⟩⟩
 ·have hc : comC r n who t = ⟨[atL r.heads n], who, t⟩ := by unfold comC; rw [if_pos hq]
  rw [hc] at e1 e2
  refine ⟨r, n, ⟨⟨rfl, rfl⟩, rfl⟩, ha, r, n, ⟨[atL r.heads n], who, t⟩, ⟨⟨rfl, rfl⟩, rfl, rfl, rfl, rfl⟩, ⟨h1, h3⟩, hl _, fun ho => ⟨ha, by rw [e1 h ho]; exact ⟨⟨rfl, rfl⟩, rfl⟩⟩, fun ho => by rw [e2 h ho]; exact ⟨⟨rfl, rfl⟩, rfl⟩⟩
 ·have hc : comC r n who t = ⟨[], who, t⟩ := by unfold comC; rw [if_neg (by omega)]
  rw [hc] at e1 e2
  refine ⟨ha, r, n, ⟨[], who, t⟩, ⟨⟨rfl, rfl⟩, rfl, rfl, rfl, rfl⟩, ⟨h1, h3⟩, hl _, fun ho => ⟨ha, by rw [e1 h ho]; exact ⟨⟨rfl, rfl⟩, rfl⟩⟩, fun ho => by rw [e2 h ho]; exact ⟨⟨rfl, rfl⟩, rfl⟩⟩
def a2i (t : List FileD) (p : Str) : List FileD × Bool := if a0W t then (filB (a1l p) t, decide ((filB (a1l p) t).length < t.length)) else ([], false)
def a8G : Con := .fn 20 (List FileD × Str) (fun a => [.sl true 2 (a0b a.1), .str a.2]) (fun a => a.1.length <= 1048576 /\ ∀ f ∈ a.1, f.text.length <= 1048576) (fun a => .tup [.sl false 2 (a0b (a2i a.1 a.2).1), .bool (a2i a.1 a.2).2]) (fun _ => [])
theorem b5y : Has Tryz.prog 125 a8G := by
 refine a0d mixed a0g (HasL.cons a6X (HasL.cons a4r (HasL.cons b2X HasL.nil))) [0, 1, 4, 5, 6] ((fun a n (_ : Nat) => (fun _ => a0s) a n)) [] Tryz.func125 (by unfold Tryz.f125; rfl) (fun _ => ⟨(), trivial⟩) ?_
 intro a ha
 obtain ⟨t, p⟩ := a
 obtain ⟨h1, h2⟩ : t.length <= 1048576 /\ ∀ f ∈ t, f.text.length <= 1048576 := ha
 simp -implicitDefEqProofs [a8G, a8z, a4T, b0I, Con.fn, tTab]
 try dsimp only
 refine ⟨fun h => by unfold a2i; rw [if_neg (by simp -implicitDefEqProofs [h])]; exact ⟨rfl, rfl⟩, fun h => ⟨⟨h1, h2⟩, t, p, ⟨rfl, rfl⟩, h1, fun _ _ => by unfold a2i; rw [if_pos h]; exact ⟨rfl, rfl⟩⟩⟩
def a6r (p : Str) (f : FileD) : Bool := decide (f.path = p) || inB p f.path
def a3P (p to : Str) (o : List FileD) (f : FileD) : List FileD := if a6r p f then setS o ⟨to ++ f.path.drop p.length, f.text⟩ else o
def mvFs (p to : Str) (o : List FileD) (t : List FileD) : List FileD := t.foldl (a3P p to) o
theorem c3F {p to : Str} {o t : List FileD} {i : Nat} (h : i < t.length) : mvFs p to o (t.take (i + 1)) = a3P p to (mvFs p to o (t.take i)) t[i] := by
 unfold mvFs
 rw [a0x h, List.foldl_append]; rfl
theorem c5Z (p to : Str) (o t : List FileD) : (mvFs p to o t).length <= o.length + t.length := by
 unfold mvFs
 induction t generalizing o with
 | nil => simp
 | cons f t ih =>
  have h1 := ih (a3P p to o f)
  have h2 : (a3P p to o f).length <= o.length + 1 := by
   unfold a3P
   split
   ·exact c6N _ _
   ·omega
  simp only [List.foldl_cons, List.length_cons]
  omega
theorem c7V {p q : Str} (h : inB p q = true) : p.length < q.length := by
 unfold inB at h
 simp only [Bool.and_eq_true, decide_eq_true_eq] at h
 omega
def a1A (t : List FileD) (p to : Str) : List FileD × Bool :=
 if a0W t then
  (if (filB (a1l p) t).length = t.length \/ a2Y to = false then (t, false)
  else if a0W (mvFs p to (filB (a1l p) t) t) = false \/ ¬ (mvFs p to (filB (a1l p) t) t).length = t.length then (t, false)
  else (mvFs p to (filB (a1l p) t) t, true))
 else ([], false)
def mvO (t : List FileD) (p to : Str) : Inv := ⟨Nat, fun i => ⟨[(0, true, .sl true 2 (a0b t)), (1, true, .str p), (2, true, .str to), (6, true, .nil), (7, true, .bool false), (8, true, .sl false 2 (a0b (mvFs p to (filB (a1l p) t) (t.take i)))), (9, true, .int .i64 t.length), (10, true, .int .i64 i)], []⟩, fun i => i <= t.length /\ a0W t = true, fun i => t.length - i⟩
def a8I : Con := .fn 84 (List FileD × Str × Str) (fun a => [.sl true 2 (a0b a.1), .str a.2.1, .str a.2.2]) (fun a => a.1.length <= 1048576 /\ (∀ f ∈ a.1, f.text.length <= 1048576) /\ a.2.2.length <= 1048576 /\ ∀ f ∈ a.1, f.path.length <= 1048576) (fun a => .tup [.sl false 2 (a0b (a1A a.1 a.2.1 a.2.2).1), .bool (a1A a.1 a.2.1 a.2.2).2]) (fun _ => [])
theorem b5A : Has Tryz.prog 126 a8I := by
 refine a0d mixed a0g (HasL.cons a6X (HasL.cons a4r (HasL.cons b2X (HasL.cons a8R (HasL.cons b1X (HasL.cons b4L HasL.nil)))))) [0, 1, 2, 6, 7, 8, 9, 10] ((fun a n (_ : Nat) => (fun a _ => mvO a.1 a.2.1 a.2.2) a n)) [] Tryz.func126 (by unfold Tryz.f126; rfl) (fun _ => ⟨(), trivial⟩) ?_
 intro a ha
 obtain ⟨t, p, to⟩ := a
 obtain ⟨h1, h2, h3, h4⟩ : t.length <= 1048576 /\ (∀ f ∈ t, f.text.length <= 1048576) /\ to.length <= 1048576 /\ ∀ f ∈ t, f.path.length <= 1048576 := ha
 simp -implicitDefEqProofs [a8I, a8z, a4T, b0I, a7O, b2y, b2z, Con.fn, tTab, mvO]
 try dsimp only
 have e0 : a0W t = false -> a1A t p to = ([], false) := fun h => by unfold a1A; rw [if_neg (by simp -implicitDefEqProofs [h])]
 have e1 : a0W t = true -> ((filB (a1l p) t).length = t.length \/ a2Y to = false) -> a1A t p to = (t, false) := fun h q => by unfold a1A; rw [if_pos h, if_pos q]
 have e2 : a0W t = true -> ¬ ((filB (a1l p) t).length = t.length \/ a2Y to = false) -> (a0W (mvFs p to (filB (a1l p) t) t) = false \/ ¬ (mvFs p to (filB (a1l p) t) t).length = t.length) -> a1A t p to = (t, false) := fun h q w => by unfold a1A; rw [if_pos h, if_neg q, if_pos w]
 have e3 : a0W t = true -> ¬ ((filB (a1l p) t).length = t.length \/ a2Y to = false) -> ¬ (a0W (mvFs p to (filB (a1l p) t) t) = false \/ ¬ (mvFs p to (filB (a1l p) t) t).length = t.length) -> a1A t p to = (mvFs p to (filB (a1l p) t) t, true) := fun h q w => by unfold a1A; rw [if_pos h, if_neg q, if_neg w]
 refine ⟨fun h => by rw [e0 h]; exact ⟨rfl, rfl⟩, fun h => ⟨⟨h1, h2⟩, t, p, ⟨rfl, rfl⟩, h1, fun _ _ => ⟨fun q => ⟨⟨h1, h2⟩, by rw [e1 h (.inl (by omega))]; exact ⟨rfl, rfl⟩⟩, fun q => ⟨fun w => ⟨⟨h1, h2⟩, by rw [e1 h (.inr w)]; exact ⟨rfl, rfl⟩⟩, fun w _ => ⟨⟨0, ⟨by simp -implicitDefEqProofs [mvFs], rfl⟩, Nat.zero_le _, h⟩, fun i hi _ _ => ⟨fun hlt => ?_, fun hge => ?_⟩⟩⟩⟩⟩⟩
 ·have g := c3F (p := p) (to := to) (o := filB (a1l p) t) hlt
  have h8 := (a4N t h).1
  have gl := c5Z p to (filB (a1l p) t) (t.take i)
  have gf := List.length_filter_le (a1l p) t
  have gf : (filB (a1l p) t).length <= t.length := gf
  have gt : (t.take i).length <= t.length := by simp; omega
  have gp := h4 _ (List.getElem_mem hlt)
  have gx := h2 _ (List.getElem_mem hlt)
  have gi := @c7V p t[i].path
  clear e0 e1 e2 e3
  generalize mvFs p to (filB (a1l p) t) (t.take i) = X at g gl ⊢
  simp -implicitDefEqProofs [hlt, a0p, D.asStr, D.asRows, and_assoc]
  have gtk : List.take (List.length t[i].path - List.length p) (List.drop (List.length p) t[i].path) = t[i].path.drop p.length := List.take_of_length_le (by simp)
  rw [gtk]
  have hm : maxLen = 9223372036854775807 := rfl
  refine ⟨fun e => ⟨by rw [e]; omega, fun _ => ⟨by omega, fun _ => ⟨by omega, gx, by omega, by omega, fun _ _ => ⟨i + 1, ?_, by omega, by omega, h, by omega⟩⟩⟩⟩,
   fun e => ⟨fun c => ⟨by have := gi c; omega, fun _ => ⟨by omega, fun _ => ⟨by omega, gx, by omega, by omega, fun _ _ => ⟨i + 1, ?_, by omega, by omega, h, by omega⟩⟩⟩⟩, fun c => ⟨by omega, by omega, fun _ _ => ⟨i + 1, ?_, by omega, by omega, h, by omega⟩⟩⟩⟩
  ·rw [g]; unfold a3P; rw [if_pos (by simp -implicitDefEqProofs [a6r, e])]
  ·rw [g]; unfold a3P; rw [if_pos (by simp -implicitDefEqProofs [a6r, c])]
  ·rw [g]; unfold a3P; rw [if_neg (by simp -implicitDefEqProofs [a6r, c, e])]
 ·rw [List.take_of_length_le hge]
  have hn : ¬ ((filB (a1l p) t).length = t.length \/ a2Y to = false) := by rintro (c | c); omega; rw [w] at c; cases c
  have e2 := e2 h hn
  have e3 := e3 h hn
  generalize mvFs p to (filB (a1l p) t) t = X at e2 e3 ⊢
  refine ⟨fun c => ⟨⟨h1, h2⟩, by rw [e2 (.inl c)]; exact ⟨rfl, rfl⟩⟩, fun c _ => ⟨fun d => ⟨⟨h1, h2⟩, by rw [e2 (.inr (by omega))]; exact ⟨rfl, rfl⟩⟩, fun d => ?_⟩⟩
  rw [e3 (by rintro (k | k); rw [c] at k; cases k; omega)]; exact ⟨rfl, rfl⟩
theorem a8V {a b c : Str} (h : Go.Op.bytesLess a b = true) (h' : Go.Op.bytesLess b c = true) : Go.Op.bytesLess a c = true := by
 rw [a2U, decide_eq_true_eq] at *
 exact List.lt_trans h h'
theorem a5T (a : Str) : Go.Op.bytesLess a a = false := by
 rw [a2U, decide_eq_false_iff_not]
 exact List.lt_irrefl a
theorem c4v {t : List FileD} (h : a0r t = true) : ∀ j i, (hij : i < j) -> (hj : j < t.length) -> Go.Op.bytesLess (t[i]'(by omega)).path t[j].path = true := by
 have hs : ∀ j, (h0 : 0 < j) -> (hj : j < t.length) -> Go.Op.bytesLess (t[j - 1]'(by omega)).path t[j].path = true := by
  intro j h0 hj
  simp only [a0r, Bool.and_eq_true, List.all_eq_true, List.mem_range] at h
  have h2 := (h.2 j hj).1
  simp only [a2W, Bool.and_eq_true, Bool.or_eq_true, decide_eq_true_eq] at h2
  rcases h2.2 with h3 | h3
  ·omega
  ·simpa [List.getD_eq_getElem?_getD, hj, (show j - 1 < t.length by omega)] using h3
 intro j
 induction j with
 | zero => intro i hi; omega
 | succ j ih =>
  intro i hi hj
  have h1 := hs (j + 1) (by omega) hj
  by_cases e : i = j
  ·subst e; exact h1
  ·exact a8V (ih i (by omega) (by omega)) h1
def putS : List Str -> Str -> List Str
 | [], s => [s]
 | x :: l, s => if Go.Op.bytesLess x s then x :: putS l s else if x = s then x :: l else s :: x :: l
theorem c6B (l : List Str) (s : Str) : (putS l s).length <= l.length + 1 := by
 induction l with
 | nil => simp -implicitDefEqProofs [putS]
 | cons x l ih =>
  unfold putS
  split
  ·simp; omega
  ·split <;> simp
theorem c3Y {l : List Str} {s : Str} {k : Nat} (h : k < l.length) (hp : l.take k ++ putS (l.drop k) s = putS l s) (hl : Go.Op.bytesLess l[k] s = true) : l.take (k + 1) ++ putS (l.drop (k + 1)) s = putS l s := by
 rw [List.drop_eq_getElem_cons h, putS, if_pos hl] at hp
 rw [a0x h, List.append_assoc]
 exact hp
theorem c6A {l : List Str} {s : Str} {k : Nat} (h : l.length <= k) (hp : l.take k ++ putS (l.drop k) s = putS l s) : putS l s = l.take k ++ [s] ++ l.drop k := by
 rw [List.drop_eq_nil_of_le h] at hp ⊢
 rw [<- hp]; simp -implicitDefEqProofs [putS]
theorem c8q {l : List Str} {s : Str} {k : Nat} (h : k < l.length) (hp : l.take k ++ putS (l.drop k) s = putS l s) (hl : Go.Op.bytesLess l[k] s = false) (he : l[k] = s) : putS l s = l := by
 rw [List.drop_eq_getElem_cons h, putS, if_neg (by simp -implicitDefEqProofs [hl]), if_pos he, <- List.drop_eq_getElem_cons h, List.take_append_drop] at hp
 exact hp.symm
theorem c8r {l : List Str} {s : Str} {k : Nat} (h : k < l.length) (hp : l.take k ++ putS (l.drop k) s = putS l s) (hl : Go.Op.bytesLess l[k] s = false) (he : ¬ l[k] = s) : putS l s = l.take k ++ [s] ++ l.drop k := by
 rw [List.drop_eq_getElem_cons h, putS, if_neg (by simp -implicitDefEqProofs [hl]), if_neg he, <- List.drop_eq_getElem_cons h] at hp
 rw [<- hp]; simp
def a1u (l : List Str) (t : List FileD) : List Str := t.foldl (fun l f => putS l f.path) l
theorem a8Z {l : List Str} {t : List FileD} {i : Nat} (h : i < t.length) : a1u l (t.take (i + 1)) = putS (a1u l (t.take i)) t[i].path := by
 unfold a1u
 rw [a0x h, List.foldl_append]; rfl
theorem a3D (t : List FileD) : ∀ l, (a1u l t).length <= l.length + t.length := by
 induction t with
 | nil => intro l; simp -implicitDefEqProofs [a1u]
 | cons f t ih =>
  intro l
  have h1 := ih (putS l f.path)
  have h2 := c6B l f.path
  show (a1u (putS l f.path) t).length <= _
  simp only [List.length_cons]
  omega
def a0S (o a b : List FileD) : List Str := a1u (a1u (a1u [] o) a) b
theorem b3f (o a b : List FileD) : (a0S o a b).length <= o.length + a.length + b.length := by
 have h1 := a3D b (a1u (a1u [] o) a)
 have h2 := a3D a (a1u [] o)
 have h3 := a3D o []
 simp at h3
 show (a1u (a1u (a1u [] o) a) b).length <= _
 omega
def a1W (a b : List Str × Bool) : Bool := decide (a.2 = b.2) && (!a.2 || decide (a.1 = b.1))
def one6 (o a b : List FileD) (p : Str) : List Str × Bool × Int :=
 if a1W (getL a p) (getL o p) || a1W (getL a p) (getL b p) then ((getL b p).1, (getL b p).2, 0)
 else if a1W (getL b p) (getL o p) then ((getL a p).1, (getL a p).2, 0)
 else if !(getL a p).2 || !(getL b p).2 then ((getL o p).1, (getL o p).2, 1)
 else if !(getL o p).2 then ([], false, 2)
 else if (a2c (of3 (getL o p).1 (getL a p).1 (getL b p).1)).2 then ((a2c (of3 (getL o p).1 (getL a p).1 (getL b p).1)).1, true, 0)
 else ((getL o p).1, true, 3)
theorem a5L {t : List FileD} {n : Nat} (h : ∀ f ∈ t, f.text.length <= n) (p : Str) : (getL t p).1.length <= n := by
 induction t with
 | nil => simp -implicitDefEqProofs [getL]
 | cons f t ih =>
  unfold getL
  split
  ·exact h f (by simp)
  ·exact ih fun g hg => h g (by simp -implicitDefEqProofs [hg])
theorem a4m {t : List Str} (h : a1j t = true) : t.length <= 10 := by
 unfold a1j at h
 simp only [Bool.and_eq_true, decide_eq_true_eq] at h
 exact h.1
theorem c4u (l : List PartD) : (a2c l).1.length <= 10 := by
 unfold a2c
 split
 ·simp
 ·split
  ·rename_i h; exact a4m h
  ·simp
theorem b7q {o a b : List FileD} {p : Str} {n : Nat} (hn : 10 <= n) (ho : ∀ f ∈ o, f.text.length <= n) (ha : ∀ f ∈ a, f.text.length <= n) (hb : ∀ f ∈ b, f.text.length <= n) : (one6 o a b p).1.length <= n := by
 have h1 := a5L ho p
 have h2 := a5L ha p
 have h3 := a5L hb p
 have h4 := c4u (of3 (getL o p).1 (getL a p).1 (getL b p).1)
 unfold one6
 split
 ·exact h3
 ·split
  ·exact h2
  ·split
   ·exact h1
   ·split
    ·simp
    ·split
     ·show (a2c _).1.length <= n; omega
     ·exact h1
def stepJ (o a b : List FileD) (s : List FileD × List HeadD) (p : Str) : List FileD × List HeadD :=
 (if (one6 o a b p).2.1 then s.1 ++ [⟨p, (one6 o a b p).1⟩] else s.1, if 0 < (one6 o a b p).2.2 then s.2 ++ [⟨p, (one6 o a b p).2.2⟩] else s.2)
def runJ (o a b : List FileD) (l : List Str) : List FileD × List HeadD := l.foldl (stepJ o a b) ([], [])
theorem b5a {o a b : List FileD} {l : List Str} {i : Nat} (h : i < l.length) : runJ o a b (l.take (i + 1)) = stepJ o a b (runJ o a b (l.take i)) l[i] := by
 unfold runJ
 rw [a0x h, List.foldl_append]; rfl
theorem b7L (o a b : List FileD) (l : List Str) : (runJ o a b l).1.length <= l.length /\ (runJ o a b l).2.length <= l.length := by
 have : ∀ (l : List Str) (s : List FileD × List HeadD), (l.foldl (stepJ o a b) s).1.length <= s.1.length + l.length /\ (l.foldl (stepJ o a b) s).2.length <= s.2.length + l.length := by
  intro l
  induction l with
  | nil => intro s; simp
  | cons p l ih =>
   intro s
   obtain ⟨h1, h2⟩ := ih (stepJ o a b s p)
   have h3 : (stepJ o a b s p).1.length <= s.1.length + 1 /\ (stepJ o a b s p).2.length <= s.2.length + 1 := by
    unfold stepJ
    constructor
    ·show (if _ then _ else _ : List FileD).length <= _
     split <;> simp
    ·show (if _ then _ else _ : List HeadD).length <= _
     split <;> simp
   simp only [List.foldl_cons, List.length_cons]
   omega
 have := this l ([], [])
 simpa [runJ] using this
def of6 (o a b : List FileD) : List FileD × List HeadD := runJ o a b (a0S o a b)
def a1n (o a b : List FileD) : List FileD × List HeadD := if (of6 o a b).2 = [] /\ a0W (of6 o a b).1 = false then (o, [⟨[], 4⟩]) else of6 o a b
theorem c0I {o a b : List FileD} (h : (a1n o a b).2 = []) : a0W (a1n o a b).1 = true := by
 unfold a1n at h ⊢
 split
 ·rename_i h2; rw [if_pos h2] at h; simp at h
 ·rename_i h2
  rw [if_neg h2] at h
  cases hq : a0W (of6 o a b).1 with
  | true => rfl
  | false => exact absurd ⟨h, hq⟩ h2
def a1J (r : RepoD) (a b : Int) (i : Nat) : List Int := ((a0l (anc r a)).take i).filter fun x => decide (x ∈ a0l (anc r b))
def a8u (r : RepoD) (l : List Int) (i k : Nat) : Bool := (List.range k).all fun j => decide (j = i) || !decide (l.getD i 0 ∈ a0l (anc r (l.getD j 0)))
def a3h (r : RepoD) (l : List Int) (i : Nat) : List Int := ((List.range i).filter fun j => a8u r l j l.length).map fun j => l.getD j 0
def a3N (r : RepoD) (a b : Int) : List Int := a3h r (a1J r a b (a0l (anc r a)).length) (a1J r a b (a0l (anc r a)).length).length
def a2j (r : RepoD) (a b : Int) : List FileD := match (a3N r a b).getLast? with
 | none => []
 | some c => a0o r c
def noR : RepoD := ⟨[], []⟩
def a2q (r : RepoD) (n w : Str) (b : Int) : RepoD × Int :=
 if b ∈ a0l (anc r (atL r.heads n)) then (r, 2)
 else if atL r.heads n ∈ a0l (anc r b) then (⟨r.commits, hSet r.heads n b⟩, 3)
 else if (a1n (a2j r (atL r.heads n) b) (a0o r (atL r.heads n)) (a0o r b)).2 = [] then
  (if a0f (addR r n ⟨[atL r.heads n, b], w, (a1n (a2j r (atL r.heads n) b) (a0o r (atL r.heads n)) (a0o r b)).1⟩) then
   (addR r n ⟨[atL r.heads n, b], w, (a1n (a2j r (atL r.heads n) b) (a0o r (atL r.heads n)) (a0o r b)).1⟩, 0) else (r, 5))
 else (r, 4)
def a0K (r : RepoD) (n w : Str) (b : Int) : RepoD × Int :=
 if a0f r then (if atL r.heads n < 0 \/ a1a w = false \/ ¬ (0 <= b /\ b < r.commits.length) then (r, 1) else a2q r n w b) else (noR, 1)
def a2r (r : RepoD) (c : Int) : List FileD := match (r.commits.getD c.toNat default).parents with
 | [] => []
 | p :: _ => a0o r p
def a2y (r : RepoD) (n w : Str) (o b : List FileD) : RepoD × Int :=
 if (a1n o (a0o r (atL r.heads n)) b).2 = [] then
  (if a0f (addR r n ⟨[atL r.heads n], w, (a1n o (a0o r (atL r.heads n)) b).1⟩) then (addR r n ⟨[atL r.heads n], w, (a1n o (a0o r (atL r.heads n)) b).1⟩, 0) else (r, 5))
 else (r, 4)
def a1t (back : Bool) (r : RepoD) (n w : Str) (c : Int) : RepoD × Int :=
 if a0f r then (if atL r.heads n < 0 \/ a1a w = false \/ ¬ (0 <= c /\ c < r.commits.length) then (r, 1)
  else if back then a2y r n w (a0o r c) (a2r r c) else a2y r n w (a2r r c) (a0o r c)) else (noR, 1)
theorem a8Q : ∀ {l : List HeadD}, (∀ i, 0 < i -> i < l.length -> Go.Op.bytesLess (l.getD (i - 1) default).name (l.getD i default).name = true) -> l.Pairwise fun a b => Go.Op.bytesLess a.name b.name = true
 | [], _ => .nil
 | [x], _ => by simp
 | x :: y :: t, h => by
  have ih := a8Q (l := y :: t) fun i h1 h2 => by
   have := h (i + 1) (by omega) (by simp only [List.length_cons] at h2 ⊢; omega)
   rw [show i + 1 - 1 = (i - 1) + 1 by omega, List.getD_cons_succ, List.getD_cons_succ] at this
   exact this
  have hxy := h 1 (by omega) (by simp)
  have hxy : Go.Op.bytesLess x.name y.name = true := by simpa using hxy
  refine List.pairwise_cons.2 ⟨fun z hz => ?_, ih⟩
  rcases List.mem_cons.1 hz with rfl | hz
  ·exact hxy
  ·exact a8V hxy ((List.pairwise_cons.1 ih).1 z hz)
theorem b0N (n : Str) (a : Int) : ∀ (l X : List HeadD), l.foldl (a1K n a) (X, true) = (X ++ l.filter (fun g => decide (g.name ≠ n)), true)
 | [], X => by simp
 | g :: l, X => by
  rw [List.foldl_cons]
  by_cases h : g.name = n
  ·have e : a1K n a (X, true) g = (X, true) := by unfold a1K; simp -implicitDefEqProofs [h]
   rw [e, b0N n a l X]; simp -implicitDefEqProofs [h]
  ·have e : a1K n a (X, true) g = (X ++ [g], true) := by unfold a1K; simp -implicitDefEqProofs [h]
   rw [e, b0N n a l (X ++ [g])]; simp -implicitDefEqProofs [h]
def hAt (n : Str) (a : Int) (h : HeadD) : HeadD := if h.name = n then ⟨n, a⟩ else h
theorem b4D (n : Str) (a : Int) : ∀ (l X : List HeadD), (l.Pairwise fun a b => Go.Op.bytesLess a.name b.name = true) -> (∃ h ∈ l, h.name = n) -> l.foldl (a1K n a) (X, false) = (X ++ l.map (hAt n a), true)
 | [], X, _, h => by obtain ⟨_, h, _⟩ := h; simp at h
 | g :: l, X, hp, hn => by
  obtain ⟨hp1, hp2⟩ := List.pairwise_cons.1 hp
  rw [List.foldl_cons]
  by_cases h : g.name = n
  ·have e : a1K n a (X, false) g = (X ++ [⟨n, a⟩], true) := by unfold a1K; simp -implicitDefEqProofs [h, a5T]
   have hne : ∀ z ∈ l, ¬ z.name = n := fun z hz hc => by
    have := hp1 z hz
    rw [h, hc, a5T] at this
    cases this
   have e2 : l.filter (fun g => decide (g.name ≠ n)) = l := by rw [List.filter_eq_self]; intro z hz; simp -implicitDefEqProofs [hne z hz]
   have e3 : l.map (hAt n a) = l := by
    have : l.map (hAt n a) = l.map id := List.map_congr_left fun z hz => by simp -implicitDefEqProofs [hAt, hne z hz]
    rw [this]; simp
   rw [e, b0N, e2]; simp -implicitDefEqProofs [e3, hAt, h]
  ·obtain ⟨z, hz, hzn⟩ := hn
   have hz : z ∈ l := by
    rcases List.mem_cons.1 hz with rfl | hz
    ·exact absurd hzn h
    ·exact hz
   have hl : Go.Op.bytesLess g.name n = true := by rw [<- hzn]; exact hp1 z hz
   have e : a1K n a (X, false) g = (X ++ [g], false) := by unfold a1K; simp -implicitDefEqProofs [h, hl]
   rw [e, b4D n a l (X ++ [g]) hp2 ⟨z, hz, hzn⟩]; simp -implicitDefEqProofs [hAt, h]
theorem b1U {l : List HeadD} {n : Str} {a : Int} (hl : ∀ i, 0 < i -> i < l.length -> Go.Op.bytesLess (l.getD (i - 1) default).name (l.getD i default).name = true) (hn : ∃ h ∈ l, h.name = n) :
  hSet l n a = l.map (hAt n a) := by
 unfold hSet hL
 rw [b4D n a l [] (a8Q hl) hn]
 simp
theorem c7G {l : List HeadD} {n : Str} (h : 0 <= atL l n) : ∃ h ∈ l, h.name = n := by
 induction l with
 | nil => simp -implicitDefEqProofs [atL] at h
 | cons g l ih =>
  unfold atL at h
  split at h
  ·rename_i e; exact ⟨g, by simp, e⟩
  ·obtain ⟨x, h1, h2⟩ := ih h; exact ⟨x, by simp -implicitDefEqProofs [h1], h2⟩
theorem a9z {l : List HeadD} {n : Str} {k : Nat} (hl : a1M k l = true) : atL l n < k /\ -1 <= atL l n \/ atL l n = -1 := by
 have h2 := ((a1R _ _).1 hl).2
 have : ∀ (l' : List HeadD), (∀ h ∈ l', 0 <= h.at_ /\ h.at_ < k) -> atL l' n < k /\ -1 <= atL l' n \/ atL l' n = -1 := by
  intro l'
  induction l' with
  | nil => intro _; right; rfl
  | cons g l' ih =>
   intro h
   unfold atL
   split
   ·left; have := h g (by simp); omega
   ·exact ih fun x hx => h x (by simp -implicitDefEqProofs [hx])
 refine this l fun h hh => ?_
 obtain ⟨i, hi, rfl⟩ := List.getElem_of_mem hh
 have := h2 i hi
 simp only [okHd, inN, List.getD_eq_getElem?_getD, List.getElem?_eq_getElem hi, Option.getD_some, Bool.and_eq_true, decide_eq_true_eq] at this
 omega
theorem c0E {k : Nat} {l : List HeadD} {n : Str} {b : Int} (h : a1M k l = true) (hn : 0 <= atL l n) (hb : 0 <= b /\ b < k) : a1M k (hSet l n b) = true := by
 obtain ⟨h1, h2⟩ := (a1R _ _).1 h
 have hg : ∀ i (hi : i < l.length), l.getD i default = l[i] := fun i hi => by simp -implicitDefEqProofs [List.getD_eq_getElem?_getD, hi]
 rw [b1U (fun i h3 h4 => by
  have := h2 i h4
  unfold okHd at this
  simp only [Bool.and_eq_true, Bool.or_eq_true, decide_eq_true_eq] at this
  rcases this.2 with h5 | h5
  ·omega
  ·exact h5) (c7G hn), a1R]
 have hm : ∀ i (hi : i < l.length), (l.map (hAt n b)).getD i default = hAt n b l[i] := fun i hi => by simp -implicitDefEqProofs [List.getD_eq_getElem?_getD, hi]
 have hname : ∀ g : HeadD, (hAt n b g).name = g.name := fun g => by unfold hAt; split <;> simp_all
 refine ⟨by simpa using h1, fun i hi => ?_⟩
 have hi : i < l.length := by simpa using hi
 have h3 := h2 i hi
 unfold okHd at h3 ⊢
 rw [hm i hi, hname]
 rw [hg i hi] at h3
 have hat : inN k (hAt n b l[i]).at_ = true := by
  simp only [Bool.and_eq_true] at h3
  unfold hAt
  split
  ·simp only [inN, Bool.and_eq_true, decide_eq_true_eq]; omega
  ·exact h3.1.2
 rw [hat]
 rcases Nat.eq_zero_or_pos i with h0 | h0
 ·subst h0
  simp only [Bool.and_eq_true] at h3
  simp -implicitDefEqProofs [h3.1.1]
 ·rw [hm (i - 1) (by omega), hname]
  rw [hg (i - 1) (by omega)] at h3
  simp only [Bool.and_eq_true] at h3 ⊢
  exact ⟨⟨h3.1.1, trivial⟩, h3.2⟩
theorem b8S {r : RepoD} {n : Str} {b : Int} (h : a0f r = true) (hn : 0 <= atL r.heads n) (hb : 0 <= b /\ b < r.commits.length) : a0f ⟨r.commits, hSet r.heads n b⟩ = true := by
 obtain ⟨h1, h2, h3⟩ := (a0Q r).1 h
 exact (a0Q _).2 ⟨h1, c0E h2 hn hb, h3⟩
theorem a7X (l : List HeadD) (n : Str) (a : Int) : hSet l n a ≠ [] := by
 have : ∀ (l : List HeadD) (s : List HeadD × Bool), (s.2 = true -> s.1 ≠ []) -> ((l.foldl (a1K n a) s).2 = true -> (l.foldl (a1K n a) s).1 ≠ []) := by
  intro l
  induction l with
  | nil => intro s h; exact h
  | cons g l ih =>
   intro s h
   refine ih (a1K n a s g) ?_
   unfold a1K
   split
   ·split <;> simp
   ·split
    ·exact h
    ·simp
 unfold hSet
 split
 ·rename_i h; exact this l ([], false) (by simp) h
 ·simp
theorem c4w {r : RepoD} {n w : Str} {b : Int} (h : a0f r = true) (hn : 0 <= atL r.heads n) (hb : 0 <= b /\ b < r.commits.length) (hh : r.commits ≠ [] -> r.heads ≠ []) :
  a0f (a2q r n w b).1 = true /\ ((a2q r n w b).1.commits ≠ [] -> (a2q r n w b).1.heads ≠ []) := by
 unfold a2q
 split
 ·exact ⟨h, hh⟩
 ·split
  ·exact ⟨b8S h hn hb, fun _ => a7X _ _ _⟩
  ·split
   ·split
    ·rename_i q; exact ⟨q, fun _ => a7X _ _ _⟩
    ·exact ⟨h, hh⟩
   ·exact ⟨h, hh⟩
theorem b5f {r : RepoD} {n w : Str} {b : Int} (h : a0f r = true) (hh : r.commits ≠ [] -> r.heads ≠ []) :
  a0f (a0K r n w b).1 = true /\ ((a0K r n w b).1.commits ≠ [] -> (a0K r n w b).1.heads ≠ []) := by
 unfold a0K
 rw [if_pos h]
 split
 ·exact ⟨h, hh⟩
 ·rename_i q
  exact c4w h (by omega) (by omega) hh
theorem b7E {r : RepoD} {n w : Str} {o b : List FileD} (h : a0f r = true) (hh : r.commits ≠ [] -> r.heads ≠ []) :
  a0f (a2y r n w o b).1 = true /\ ((a2y r n w o b).1.commits ≠ [] -> (a2y r n w o b).1.heads ≠ []) := by
 unfold a2y
 split
 ·split
  ·rename_i q; exact ⟨q, fun _ => a7X _ _ _⟩
  ·exact ⟨h, hh⟩
 ·exact ⟨h, hh⟩
theorem b7A {k : Bool} {r : RepoD} {n w : Str} {c : Int} (h : a0f r = true) (hh : r.commits ≠ [] -> r.heads ≠ []) :
  a0f (a1t k r n w c).1 = true /\ ((a1t k r n w c).1.commits ≠ [] -> (a1t k r n w c).1.heads ≠ []) := by
 unfold a1t
 rw [if_pos h]
 split
 ·exact ⟨h, hh⟩
 ·split
  ·exact b7E h hh
  ·exact b7E h hh
def clrN (l : List Bool) (i : Int) (ks : List Int) : List Bool := ks.foldl (fun l k => if k = i then l else l.set k.toNat false) l
theorem b6A (i : Int) (ks : List Int) : ∀ l : List Bool, (clrN l i ks).length = l.length := by
 induction ks with
 | nil => intro l; rfl
 | cons p r ih =>
  intro l
  show (clrN (if p = i then l else l.set p.toNat false) i r).length = _
  rw [ih]; split <;> simp
def comB (r : RepoD) (a b : Int) : List Bool := (List.range r.commits.length).map fun i => isT (anc r a) i && isT (anc r b) i
theorem a8K (r : RepoD) (a b : Int) : (comB r a b).length = r.commits.length := by simp -implicitDefEqProofs [comB]
def bigT (r : RepoD) (L : List Int) (l : List Bool) : List Bool := L.foldl (fun l i => clrN l i (a0l (anc r i))) l
theorem a8v (r : RepoD) (L : List Int) : ∀ l : List Bool, (bigT r L l).length = l.length := by
 induction L with
 | nil => intro l; rfl
 | cons i L ih =>
  intro l
  show (bigT r L (clrN l i (a0l (anc r i)))).length = _
  rw [ih, b6A]
def a1Z (r : RepoD) (a b : Int) : List Int := a0l (bigT r (a0l (comB r a b)) (comB r a b))
theorem c7W {l : List Bool} {p g : Nat} : isT (l.set p false) g = (isT l g && !decide (p = g)) := by
 unfold isT
 rw [List.getD_eq_getElem?_getD, List.getD_eq_getElem?_getD]
 by_cases h : p = g
 ·subst h
  rw [List.getElem?_set_self']
  cases l[p]? <;> simp
 ·rw [List.getElem?_set_ne h]; simp -implicitDefEqProofs [h]
theorem c5e (i : Int) {ks : List Int} (hk : ∀ k ∈ ks, 0 <= k) (g : Nat) : ∀ l : List Bool, isT (clrN l i ks) g = (isT l g && (decide ((g : Int) = i) || !decide ((g : Int) ∈ ks))) := by
 induction ks with
 | nil => intro l; simp -implicitDefEqProofs [clrN]
 | cons p r ih =>
  intro l
  show isT (clrN (if p = i then l else l.set p.toNat false) i r) g = _
  rw [ih (fun k hk' => hk k (by simp -implicitDefEqProofs [hk']))]
  have hp := hk p (by simp)
  split
  ·rename_i h
   subst h
   cases hq : isT l g <;> simp
   by_cases hg : (g : Int) = p
   ·simp -implicitDefEqProofs [hg]
   ·simp -implicitDefEqProofs [hg]
  ·rename_i h
   rw [c7W]
   have e : (p.toNat = g) = ((g : Int) = p) := by apply propext; omega
   cases hq : isT l g <;> simp -implicitDefEqProofs [e]
   by_cases hg : (g : Int) = p
   ·simp -implicitDefEqProofs [hg, h]
   ·simp -implicitDefEqProofs [hg]
theorem c5X {l : List Bool} : ∀ k ∈ a0l l, 0 <= k := fun k hk => by obtain ⟨i, _, _, rfl⟩ := listT_mem.1 hk; omega
theorem c4X (r : RepoD) (L : List Int) (g : Nat) : ∀ l : List Bool, isT (bigT r L l) g = (isT l g && L.all fun i => decide ((g : Int) = i) || !decide ((g : Int) ∈ a0l (anc r i))) := by
 induction L with
 | nil => intro l; simp -implicitDefEqProofs [bigT]
 | cons i L ih =>
  intro l
  show isT (bigT r L (clrN l i (a0l (anc r i)))) g = _
  rw [ih, c5e i c5X, List.all_cons, Bool.and_assoc]
def lastB (r : RepoD) (L : List Int) (x : Int) : Bool := L.all fun y => decide (x = y) || !decide (x ∈ a0l (anc r y))
theorem b0f {l m : List Bool} (hl : l.length = m.length) (p : Int -> Bool) (h : ∀ g : Nat, isT m g = (isT l g && p g)) : a0l m = (a0l l).filter p := by
 unfold a0l a3w
 rw [<- hl, List.filter_map, List.filter_filter]
 congr 1
 apply List.filter_congr
 intro g _
 rw [h g, Bool.and_comm]; rfl
theorem c2p (r : RepoD) (a b : Int) : a1Z r a b = (a0l (comB r a b)).filter (lastB r (a0l (comB r a b))) :=
 b0f (a8v _ _ _).symm _ fun g => c4X r _ g _
theorem b0O {l : List Bool} {g : Nat} (h : isT l g = true) : g < l.length := by
 unfold isT at h
 rcases Nat.lt_or_ge g l.length with h2 | h2
 ·exact h2
 ·rw [List.getD_eq_getElem?_getD, List.getElem?_eq_none h2] at h; simp at h
theorem c5C {r : RepoD} {a b : Int} (g : Nat) : isT (comB r a b) g = (isT (anc r a) g && isT (anc r b) g) := by
 have hla := a1X r a
 rcases Nat.lt_or_ge g r.commits.length with h | h
 ·unfold comB
  rw [isT, List.getD_eq_getElem?_getD, List.getElem?_map, List.getElem?_range h]; rfl
 ·have e1 : isT (comB r a b) g = false := by
   cases q : isT (comB r a b) g with
   | false => rfl
   | true => have := b0O q; rw [a8K] at this; omega
  have e2 : isT (anc r a) g = false := by
   cases q : isT (anc r a) g with
   | false => rfl
   | true => have := b0O q; rw [hla] at this; omega
  rw [e1, e2]; rfl
theorem c4Y (r : RepoD) (a b : Int) : a1J r a b (a0l (anc r a)).length = a0l (comB r a b) := by
 unfold a1J
 rw [List.take_length]
 refine (b0f (by rw [a8K, a1X]) _ fun g => ?_).symm
 rw [c5C]
 congr 1
 rw [Bool.eq_iff_iff, decide_eq_true_eq, listT_mem]
 constructor
 ·intro h; exact ⟨g, b0O h, h, rfl⟩
 ·rintro ⟨i, _, h, e⟩
  have : g = i := by omega
  rw [this]; exact h
theorem b8J (l : List Bool) : (a0l l).Nodup := by
 unfold a0l a3w
 rw [List.nodup_iff_pairwise_ne, List.pairwise_map]
 exact (List.Pairwise.filter _ List.pairwise_lt_range).imp fun h => by omega
theorem b6I {L : List Int} (p : Int -> Bool) : ((List.range L.length).filter fun i => p (L.getD i 0)).map (fun j => L.getD j 0) = L.filter p := by
 have e : L = (List.range L.length).map fun j => L.getD j 0 := by
  apply List.ext_getElem
  ·simp
  ·intro i h1 h2
   simp -implicitDefEqProofs [List.getD_eq_getElem?_getD, h1]
 have h : L.filter p = ((List.range L.length).map fun j => L.getD j 0).filter p := congrArg (List.filter p) e
 rw [h, List.filter_map]; rfl
theorem b6k (r : RepoD) (a b : Int) : a1Z r a b = a3N r a b := by
 rw [c2p]
 unfold a3N
 rw [c4Y]
 have hnd := b8J (comB r a b)
 generalize a0l (comB r a b) = L at *
 rw [<- b6I (lastB r L)]
 unfold a3h
 congr 1
 apply List.filter_congr
 intro i hi
 have hi : i < L.length := by simpa using hi
 have gi : L.getD i 0 = L[i] := by simp -implicitDefEqProofs [List.getD_eq_getElem?_getD, hi]
 unfold lastB a8u
 rw [Bool.eq_iff_iff, List.all_eq_true, List.all_eq_true]
 simp only [List.mem_range, Bool.or_eq_true, decide_eq_true_eq, Bool.not_eq_true', decide_eq_false_iff_not]
 constructor
 ·intro h j hj
  have gj : L.getD j 0 = L[j] := by simp -implicitDefEqProofs [List.getD_eq_getElem?_getD, hj]
  rcases h L[j] (List.getElem_mem hj) with h | h
  ·left
   rw [gi] at h
   exact ((List.getElem_inj hnd).1 h).symm
  ·right; rw [gj]; exact h
 ·intro h y hy
  obtain ⟨j, hj, rfl⟩ := List.getElem_of_mem hy
  have gj : L.getD j 0 = L[j] := by simp -implicitDefEqProofs [List.getD_eq_getElem?_getD, hj]
  rcases h j hj with h | h
  ·left; subst h; exact gi
  ·right; rw [gj] at h; exact h



theorem a7Z {l : List Bool} {x : Int} (h0 : 0 <= x) (h1 : x.toNat < l.length) : isT l x.toNat = decide (x ∈ a0l l) := by
 rw [Bool.eq_iff_iff, decide_eq_true_iff, listT_mem]
 constructor
 ·intro h; exact ⟨x.toNat, h1, h, by omega⟩
 ·rintro ⟨i, _, h2, rfl⟩
  simpa using h2
def Con.view (k : Con) (K : Nat) (rows : k.A -> k.X -> List (List D)) : Con := { k with res := fun a x => .sl false K (rows a x), fin := fun _ _ => [] }
theorem Has.view {P : Program} {f : Nat} {k : Con} (H : Has P f k) (K : Nat) (rows : k.A -> k.X -> List (List D)) (hr : ∀ a x, k.res a x = .own 8 K (rows a x)) (hb : ∀ a, k.boxes a = []) (hl : k.lends = []) : Has P f (k.view K rows) := by
 suffices key : ∀ (a : k.A), k.pre a -> ∀ (c : Cx) (_ : Kn k.need c) (vs : List Value) (β : Nat -> Value) (fp : Nat -> List (Nat × Nat)), c.n = k.n -> c.pins = k.pins2 a β -> vs.length = (k.args a).length -> vs.length <= k.n ->
   SatI c (k.start2 a) ⟨vs.toArray ++ Array.replicate (k.n - vs.length) undef, []⟩ c.w0 β fp ->
   Calls P f vs.toArray c.w0 fun e w' => ∃ x : k.X, k.post a x /\ ∃ v, e = .returned v /\ ∃ β' fp' a', SatI c ⟨fun _ => none, get? []⟩ a' w' β' fp' /\ RelL w' (get? []) β' c [.sl false K (rows a x)] [v] by
  exact ⟨H.enter, H.tot, H.nob, fun (a : k.A) ha c hky vs β fp hn hpin hlen hlen2 S => key a ha c hky vs β fp hn hpin hlen hlen2 S, H.bldr, H.bt.imp id fun h a => ⟨(h a).1, fun x p hp => (by cases hp)⟩⟩
 intro a ha c hky vs β fp hn hpin hlen hlen2 S
 have hp : c.pins = [] := by rw [hpin]; simp -implicitDefEqProofs [Con.pins2, hb, hl]
 refine (H.calls a ha c hky vs β fp hn hpin hlen hlen2 S).mono ?_
 rintro e w' ⟨x, hx, v, rfl, β', fp', a', E, hv⟩
 rw [hr] at hv
 have hv2 : ∃ e, Vw w' (get? (k.fin a x)) β' c false [.sl e K (rows a x)] [v] := by cases hv with | own _ h2 _ _ => exact h2
 obtain ⟨e, f, h1, h2⟩ := hv2
 refine ⟨x, hx, v, rfl, β', fp', a', ⟨?_, ?_, ?_, ?_, ?_, E.fg, E.old, E.os, E.tape, E.output, E.size, E.defers, E.tn, by simp -implicitDefEqProofs [hp]⟩, .sl ⟨e, f, h1, fun z hz => ⟨⟨?_, ?_⟩, (h2 z hz).2⟩⟩ .lnil⟩
 ·intro t g av h; cases h
 ·intro h blk hm; cases hm
 ·intro h blk hm; cases hm
 ·intro h h' blk blk' hm; cases hm
 ·intro h blk hm; cases hm
 ·rintro ⟨h, ty, vs, hm, _⟩; cases hm
 ·intro h e k d R n cc hm; cases hm
--TAB a0G
theorem areB_iff {r : RepoD} {l : List Int} : areB r l = true ↔ a0j r = true /\ ∀ a ∈ l, 0 <= a /\ a < r.commits.length := by
 unfold areB
 simp only [Bool.and_eq_true, List.all_eq_true, decide_eq_true_eq]
 constructor
 ·rintro ⟨h1, h2⟩; exact ⟨h1, fun a ha => by have := h2 a ha; omega⟩
 ·rintro ⟨h1, h2⟩; exact ⟨h1, fun a ha => by have := h2 a ha; omega⟩
def b0Z : Con := cAncestors.view 1 fun a _ => a0I (anc a.1 a.2)
theorem b3x : Has Tryz.prog 78 b0Z := ancestors_has.view 1 _ (fun _ _ => rfl) (fun _ => rfl) rfl
def b2n (r : RepoD) (a b : Int) : Bool := areB r [a, b] && isT (anc r b) a.toNat
def b6n : Con := .fn 20 (RepoD × Int × Int) (fun a => [a0Y a.1, .int .i64 a.2.1, .int .i64 a.2.2]) (fun a => a1V a.1) (fun a => .bool (b2n a.1 a.2.1 a.2.2)) (fun _ => [])
theorem c2e : Has Tryz.prog 31 b6n := by
 refine a0d mixed a0B (HasL.cons c7F (HasL.cons b3x HasL.nil)) [0, 1, 2, 3, 6] ((fun a n (_ : Nat) => (fun _ => a0s) a n)) [] Tryz.func31 (by unfold Tryz.f31; rfl) (fun _ => ⟨(), trivial⟩) ?_
 intro a ha
 obtain ⟨r, x, y⟩ := a
 replace ha : a1V r := ha
 simp (maxSteps := 8000000) -implicitDefEqProofs [-kStep_move, -Bool.exists_bool, b6n, cAre, b0Z, Con.view, cAncestors, Con.fn, a0G, tTab, a0t]
 try dsimp only
 try simp -implicitDefEqProofs only [and_assoc, exists_eq_left, exists_and_left, RepoD.ex1, RepoD.eta]
 refine ⟨[x, y], rfl, ha, fun h => ⟨h, ?_⟩, fun h => ⟨h, ?_⟩, fun _ => ⟨fun h => ⟨h, ?_⟩, fun _ => ?_⟩⟩
 ·obtain ⟨h1, h2⟩ := areB_iff.1 h
  exact ⟨h1, h2 y (by simp)⟩
 ·obtain ⟨h1, h2⟩ := areB_iff.1 h
  have := h2 x (by simp)
  rw [a1X]; exact this
 ·obtain ⟨h1, h2⟩ := areB_iff.1 h
  have := h2 x (by simp)
  have hx : x.toNat < (anc r y).length := by rw [a1X]; omega
  simp -implicitDefEqProofs [hx, a1D, D.asBool]
 ·unfold b2n
  cases h : areB r [x, y] with
  | false => rfl
  | true =>
   obtain ⟨h1, h2⟩ := areB_iff.1 h
   have := h2 x (by simp)
   have hx : x.toNat < (anc r y).length := by rw [a1X]; omega
   simp -implicitDefEqProofs [hx, a1D, D.asBool, isT, List.getD_eq_getElem?_getD]
--TAB a0G
def b3C : Con := .fn 8 (List Bool) (fun a => [.sl true 1 (a0I a)]) (fun a => a ≠ [] /\ a.length <= 1048576) (fun a => .own 8 1 (a0I a)) (fun a => b7t 8 a)
theorem c0u : Has Tryz.prog 184 b3C := by
 refine a0d mixed a0B HasL.nil [0, 2] ((fun a n (_ : Nat) => (fun _ => a0s) a n)) [] Tryz.func184 (by unfold Tryz.f184; rfl) (fun _ => ⟨(), trivial⟩) ?_
 intro (a : List Bool) ha
 obtain ⟨h0, ha⟩ : a ≠ [] /\ a.length <= 1048576 := ha
 have h1 : ¬ a0I a = [] := by simpa [a0I] using h0
 simp (maxSteps := 8000000) -implicitDefEqProofs [-Bool.exists_bool, b3C, Con.fn, a0G, tTab, h1]
 try dsimp only
 refine ⟨fun x hx d hd => ?_, by omega⟩
 simp only [a0I, List.mem_map] at hx
 obtain ⟨y, _, rfl⟩ := hx
 simp only [a1D, List.mem_singleton] at hd
 subst hd; trivial
def comP (r : RepoD) (a b : Int) (i : Nat) : List Bool := (List.range r.commits.length).map fun j => decide (j < i) && (isT (anc r a) j && isT (anc r b) j)
theorem c5h (r a b i) : (comP r a b i).length = r.commits.length := by simp -implicitDefEqProofs [comP]
theorem c2C (r a b) : comP r a b 0 = List.replicate r.commits.length false := by
 unfold comP
 apply List.ext_getElem
 ·simp
 ·intro i h1 h2; simp
theorem b6C {r a b} {i j : Nat} (h : j < (comP r a b i).length) : (comP r a b i)[j] = (decide (j < i) && (isT (anc r a) j && isT (anc r b) j)) := by
 simp -implicitDefEqProofs [comP]
theorem c2D {r a b} {i : Nat} : (comP r a b i).set i (isT (anc r a) i && isT (anc r b) i) = comP r a b (i + 1) := by
 apply List.ext_getElem
 ·simp -implicitDefEqProofs [comP]
 ·intro j h1 h2
  rw [List.getElem_set, b6C h2]
  by_cases e : i = j
  ·subst e; simp
  ·rw [if_neg e, b6C]
   have : decide (j < i + 1) = decide (j < i) := by
    rw [decide_eq_decide]; omega
   rw [this]
theorem c5g (r a b) : comP r a b r.commits.length = comB r a b := by
 unfold comP comB
 apply List.map_congr_left
 intro j hj
 have : j < r.commits.length := by simpa using hj
 simp -implicitDefEqProofs [this]
theorem c2r {r : RepoD} {L : List Int} {C : List Bool} {i : Nat} (h : i < L.length) : bigT r (L.take (i + 1)) C = clrN (bigT r (L.take i) C) L[i] (a0l (anc r L[i])) := by
 unfold bigT
 rw [a0x h, List.foldl_append]; rfl
theorem c2y {i : Int} {ks : List Int} {l : List Bool} {k : Nat} (h : k < ks.length) : clrN l i (ks.take (k + 1)) = if ks[k] = i then clrN l i (ks.take k) else (clrN l i (ks.take k)).set ks[k].toNat false := by
 unfold clrN
 rw [a0x h, List.foldl_append]; rfl
def bsA (r : RepoD) (a b : Int) : Inv := ⟨Nat, fun i => ⟨[(3, true, .ptr 10 0), (6, true, .nil), (7, true, .own 11 1 (a0I (anc r a))), (8, true, .own 12 1 (a0I (anc r b))), (9, true, .own 13 1 (a0I (comP r a b i))), (27, true, .int .i64 r.commits.length), (28, true, .int .i64 i)],
 [(10, a1P r), (11, .own 4 1 true (a0I (anc r a))), (12, .own 4 1 true (a0I (anc r b))), (13, .own 4 1 true (a0I (comP r a b i)))]⟩, fun i => i <= r.commits.length, fun i => r.commits.length - i⟩
def bsB (r : RepoD) (a b : Int) : Inv := ⟨Nat, fun i => ⟨[(3, true, .ptr 10 0), (6, true, .nil), (11, true, .own 14 1 (a0I (bigT r ((a0l (comB r a b)).take i) (comB r a b)))), (48, true, .own 15 1 (a0h (a0l (comB r a b)))), (49, true, .int .i64 (a0l (comB r a b)).length), (50, true, .int .i64 i)],
 [(10, a1P r), (14, .own 4 1 true (a0I (bigT r ((a0l (comB r a b)).take i) (comB r a b)))), (15, .own 3 1 true (a0h (a0l (comB r a b))))]⟩, fun i => i <= (a0l (comB r a b)).length, fun i => (a0l (comB r a b)).length - i⟩
def bsX (r : RepoD) (a b : Int) (g : Nat) : Int := (a0l (comB r a b)).getD g 0
def bsT (r : RepoD) (a b : Int) (g k : Nat) : List Bool := clrN (bigT r ((a0l (comB r a b)).take g) (comB r a b)) (bsX r a b g) ((a0l (anc r (bsX r a b g))).take k)
def bsC (r : RepoD) (a b : Int) (g : Nat) : Inv := ⟨Nat, fun k => ⟨[(3, true, .ptr 10 0), (6, true, .nil), (11, true, .own 14 1 (a0I (bsT r a b g k))), (13, true, .int .i64 (bsX r a b g)), (48, true, .own 15 1 (a0h (a0l (comB r a b)))), (49, true, .int .i64 (a0l (comB r a b)).length), (50, true, .int .i64 g), (57, true, .own 9 1 (a0h (a0l (anc r (bsX r a b g))))), (58, true, .int .i64 (a0l (anc r (bsX r a b g))).length), (59, true, .int .i64 k)],
 [(10, a1P r), (14, .own 4 1 true (a0I (bsT r a b g k))), (15, .own 3 1 true (a0h (a0l (comB r a b)))), (9, .own 3 1 true (a0h (a0l (anc r (bsX r a b g)))))]⟩, fun k => g < (a0l (comB r a b)).length /\ k <= (a0l (anc r (bsX r a b g))).length, fun k => (a0l (anc r (bsX r a b g))).length - k⟩
def b5D (r : RepoD) (a b : Int) (n g : Nat) : Inv := if n = 4 then bsA r a b else if n = 10 then bsB r a b else bsC r a b g
theorem c7J (r a b g) : b5D r a b 4 g = bsA r a b := rfl
theorem c4Z (r a b g) : b5D r a b 10 g = bsB r a b := rfl
theorem c5a (r a b g) : b5D r a b 13 g = bsC r a b g := rfl
def b6p : Con := .fn 73 (RepoD × Int × Int) (fun a => [a0Y a.1, .int .i64 a.2.1, .int .i64 a.2.2]) (fun a => a0j a.1 = true /\ (0 <= a.2.1 /\ a.2.1 < a.1.commits.length) /\ (0 <= a.2.2 /\ a.2.2 < a.1.commits.length)) (fun a => .own 8 1 (a0h (a1Z a.1 a.2.1 a.2.2))) (fun a => a4v 8 (a1Z a.1 a.2.1 a.2.2))
theorem c2q : Has Tryz.prog 154 b6p := by
 refine a0d mixed a0B (HasL.cons ancestors_has (HasL.cons c0u (HasL.cons c1l HasL.nil))) [0, 1, 2, 3, 6, 7, 8, 9, 10, 11, 13, 15, 27, 28, 48, 49, 50, 57, 58, 59] (fun a => b5D a.1 a.2.1 a.2.2) [] Tryz.func154 (by unfold Tryz.f154; rfl) (fun _ => ⟨(), trivial⟩) ?_
 intro a ha
 obtain ⟨r, a, b⟩ := a
 obtain ⟨h1, h2, h3⟩ : a0j r = true /\ (0 <= a /\ a < r.commits.length) /\ (0 <= b /\ b < r.commits.length) := ha
 have h6 := a3o h1
 simp (maxSteps := 8000000) [b6p, cAncestors, b3C, b3M, Con.fn, a0G, tTab, c7J, c4Z, c5a, bsA, bsB, bsC, a0t]
 try dsimp only
 try simp only [and_assoc, exists_eq_left, exists_and_left, RepoD.ex1, RepoD.eta]
 have hal := a1X r
 have hC := c5h r a b
 have hcb := a8K r a b
 refine ⟨h1, h2.1, h2.2, h1, h3.1, h3.2, fun _ => ⟨by omega, fun _ _ => ⟨trivial, trivial, ⟨0, ?_, rfl, trivial, trivial, ?_, Nat.zero_le _⟩, fun i hi => ⟨fun hlt => ?_, fun hge => ?_⟩⟩⟩⟩
 ·rw [c2C, a3i]
 ·rw [c2C, a3i]
 ·have la : i < (anc r a).length := by rw [hal]; exact hlt
  have lb : i < (anc r b).length := by rw [hal]; exact hlt
  have lc : i < (comP r a b i).length := by rw [hC]; exact hlt
  have e1 : Option.map a1D (anc r a)[i]? = some (a1D (anc r a)[i]) := by simp -implicitDefEqProofs [la]
  have e2 : Option.map a1D (anc r b)[i]? = some (a1D (anc r b)[i]) := by simp -implicitDefEqProofs [lb]
  have s1 := c2D (r := r) (a := a) (b := b) (i := i)
  have i1 : isT (anc r a) i = (anc r a)[i] := by simp -implicitDefEqProofs [isT, List.getD_eq_getElem?_getD, la]
  have i2 : isT (anc r b) i = (anc r b)[i] := by simp -implicitDefEqProofs [isT, List.getD_eq_getElem?_getD, lb]
  rw [i1, i2] at s1
  rw [e1, e2]
  generalize (anc r a)[i] = x at *
  generalize (anc r b)[i] = y at *
  have fin : ∀ z, z = (x && y) -> ∃ t', a0I (comP r a b t') = (a0I (comP r a b i)).set i [D.bool z] /\ (t' : Int) = i + 1 /\ (a0I (comP r a b i)).set i [D.bool z] = a0I (comP r a b t') /\ t' <= r.commits.length /\ r.commits.length - t' < r.commits.length - i := fun z hz => by
   have e : (a0I (comP r a b i)).set i [D.bool z] = a0I (comP r a b (i + 1)) := by rw [<- s1, hz]; exact a1E _ _ _
   exact ⟨i + 1, e.symm, by omega, e, by omega, by omega⟩
  simp -implicitDefEqProofs [a1D, D.asBool, lc, la, lb]
  exact ⟨fun hx => ⟨by omega, by omega, fun _ _ => fin y (by rw [hx]; rfl)⟩, fun hx => ⟨by omega, by omega, fun _ _ => fin false (by rw [hx]; rfl)⟩⟩
 ·have : i = r.commits.length := by omega
  subst this
  rw [c5g]
  have hne : ¬ comB r a b = [] := fun e => by rw [e] at hcb; simp at hcb; omega
  have hmem : ∀ x ∈ a0l (comB r a b), 0 <= x /\ x < r.commits.length := fun x hx => by
   obtain ⟨i, q1, _, rfl⟩ := listT_mem.1 hx
   rw [hcb] at q1
   omega
  refine ⟨hne, by omega, by omega, fun _ => ⟨⟨0, by simp -implicitDefEqProofs [bigT], rfl, rfl, rfl, by simp -implicitDefEqProofs [bigT], rfl, Nat.zero_le _⟩, fun i hi => ⟨fun hlt => ⟨hlt, fun _ => ?_⟩, fun hge => ?_⟩⟩⟩
  ·have hx := hmem _ (List.getElem_mem hlt)
   have e1 : Option.map eInt (a0l (comB r a b))[i]? = some (eInt (a0l (comB r a b))[i]) := by simp -implicitDefEqProofs [hlt]
   have hgx : bsX r a b i = (a0l (comB r a b))[i] := by simp -implicitDefEqProofs [bsX, List.getD_eq_getElem?_getD, hlt]
   have hs := c2r (r := r) (C := comB r a b) hlt
   have hT : ∀ k, bsT r a b i k = clrN (bigT r ((a0l (comB r a b)).take i) (comB r a b)) (bsX r a b i) ((a0l (anc r (bsX r a b i))).take k) := fun _ => rfl
   have hbl := a8v r ((a0l (comB r a b)).take i) (comB r a b)
   rw [e1]
   rw [<- hgx] at hs hx ⊢
   generalize hxx : bsX r a b i = x at *
   simp -implicitDefEqProofs [eInt, D.asInt, h1, hx.1, hx.2, hal]
   refine ⟨by omega, fun _ => ⟨i, ?_⟩⟩
   rw [hxx]
   have hLm : ∀ y ∈ a0l (anc r x), 0 <= y /\ y < r.commits.length := fun y hy => by
    obtain ⟨i, q1, _, rfl⟩ := listT_mem.1 hy
    rw [hal] at q1
    omega
   generalize a0l (anc r x) = L at *
   have hbT : ∀ k, (bsT r a b i k).length = r.commits.length := fun k => by rw [hT, b6A, hbl, hcb]
   refine ⟨⟨0, by rw [hT]; simp -implicitDefEqProofs [clrN], rfl, rfl, rfl, rfl, rfl, by rw [hT]; simp -implicitDefEqProofs [clrN], rfl, hlt, Nat.zero_le _⟩, fun k hg hk => ⟨fun hl2 => ⟨hl2, fun _ => ?_⟩, fun hge2 => ?_⟩⟩
   ·have e2 : Option.map eInt L[k]? = some (eInt L[k]) := by simp -implicitDefEqProofs [List.getElem?_eq_getElem hl2]
    have hy := hLm _ (List.getElem_mem hl2)
    have hc := c2y (i := x) (l := bigT r ((a0l (comB r a b)).take i) (comB r a b)) hl2
    rw [<- hT, <- hT] at hc
    have hbk := hbT k
    rw [e2]
    generalize L[k] = y at *
    simp -implicitDefEqProofs [eInt, hbk]
    exact ⟨fun hne => ⟨hy.1, by omega, fun _ _ => ⟨by omega, by omega, by omega, fun _ _ => ⟨k + 1, by rw [hc, if_neg hne]; exact (a1E _ _ _).symm, by omega, by rw [hc, if_neg hne]; exact a1E _ _ _, hg, by omega, by omega⟩⟩⟩,
     fun heq => ⟨by omega, by omega, fun _ _ => ⟨k + 1, by rw [hc, if_pos heq], by omega, by rw [hc, if_pos heq], hg, by omega, by omega⟩⟩⟩
   ·have : k = L.length := by omega
    subst this
    have e3 : bsT r a b i L.length = bigT r ((a0l (comB r a b)).take (i + 1)) (comB r a b) := by rw [hT, List.take_length, hs]
    rw [e3]
    exact ⟨by omega, by omega, fun _ _ => ⟨i + 1, rfl, by omega, rfl, by omega, by omega⟩⟩
  ·have : i = (a0l (comB r a b)).length := by omega
   subst this
   rw [List.take_length]
   have hbl := a8v r (a0l (comB r a b)) (comB r a b)
   exact ⟨by omega, rfl, rfl⟩
end Vx
end Go.Proofs.YtokdjnbcdokpjabGreatDoor
