/-
  Joined by program (merge.py): Base, RowK, Rep, Ea, RowY, RowG, Ca, Cb, Cc, Ce, Cd, Cf, Cg, Ch, Ci, Cj, Lib, Ck, Cl, Pa, Cm, LawA, Cn, Co, Cp, Cq, Cr, Cs, Ct, Ec, Eb, Ef, Cu, Dd, De, La, Lf, Lg, Ma, Df, Ha, Ia, Ib, Ic, Db, Lb, Lc, Ld, Ed, Mb, Na, Da, Dc, Dg, Id, Vw, Oa, Ta, Fa. It shows what the single texts show; conditions: none but those of each lemma.
-/
import Derived.Test.YtokdjnbcdokpjaaGreatDoorVc
import Derived.Test.YtokdjnbcdokpjaaGreatDoorProg
import Derived.KernelRfl
import Derived.Test.YtokdjnbcdokpjaaGreatDoorRows
import Derived.Test.YtokdjnbcdokpjaaGreatDoorCards
import Derived.Test.YtokdjnbcdokpjaaGreatDoorTie
import Derived.ProofKit
import Derived.OpenShut
import Derived.ShutString
import Derived.Lay
import Derived.LaidMore
import Derived.SevenTiedAt
import Derived.Lib.Walk
import Derived.Lib.Strings
import Derived.Lib.Bytealg
import Derived.Handy
import Derived.Lib.SliceRun
import Derived.Lib.JoinLaws
import Derived.Lib.AppendZeros
import Derived.Lib.AppendZerosOnto
import Derived.Lib.Overlaps
import Derived.Laws.Externs
import Derived.Laws.IdiomCopy
import Derived.Laws.NewBlocks
import Derived.Shelf.RegionOpenPlain
set_option linter.unusedVariables false
set_option linter.unusedSimpArgs false
set_option linter.unusedSectionVars false
namespace Go.Proofs.YtokdjnbcdokpjaaGreatDoor
open Vx
namespace Vx
def tTab : List (Nat × TI) := [
(3, ⟨false, [.int .i64], 8, [], 0⟩),
(4, ⟨false, [.bool], 1, [], 0⟩),
(9, ⟨false, [.str], 16, [], 0⟩),
(35, ⟨false, [.sl 9 1], 24, [], 9⟩),
(22, ⟨false, [.sl 5 1], 24, [], 5⟩),
(199, ⟨true, [.str, .sl 9 1], 40, [(9, 0), (35, 1)], 0⟩),
(39, ⟨true, [.str, .sl 9 1], 40, [(9, 0), (35, 1)], 0⟩),
(138, ⟨false, [.sl 199 2], 24, [], 199⟩),
(31, ⟨false, [.sl 39 2], 24, [], 39⟩),
(32, ⟨false, [.sl 3 1], 24, [], 3⟩),
(142, ⟨true, [.str, .int .i64], 24, [(9, 0), (3, 1)], 1⟩),
(113, ⟨true, [.str, .int .i64], 24, [(9, 0), (3, 1)], 1⟩),
(51, ⟨false, [.sl 142 2], 24, [], 142⟩),
(24, ⟨false, [.sl 113 2], 24, [], 113⟩),
(140, ⟨true, [.sl 3 1, .str, .sl 199 2], 64, [(32, 0), (9, 1), (138, 2)], 0⟩),
(34, ⟨true, [.sl 3 1, .str, .sl 39 2], 64, [(32, 0), (9, 1), (31, 2)], 0⟩),
(50, ⟨false, [.sl 140 3], 24, [], 140⟩),
(23, ⟨false, [.sl 34 3], 24, [], 34⟩),
(53, ⟨true, [.sl 140 3, .sl 142 2], 48, [(50, 0), (51, 1)], 0⟩),
(26, ⟨true, [.sl 34 3, .sl 113 2], 48, [(23, 0), (24, 1)], 0⟩),
(149, ⟨true, [.sl 5 1, .int .i64], 32, [(22, 0), (3, 1)], 0⟩),
(204, ⟨true, [.int .i64, .str, .str, .str, .str, .int .i64, .sl 9 1], 104, [(3, 0), (9, 1), (9, 2), (9, 3), (9, 4), (3, 5), (35, 6)], 0⟩),
(177, ⟨false, [.sl 204 7], 24, [], 204⟩),
(180, ⟨true, [.str, .int .i64], 24, [(9, 0), (3, 1)], 1⟩),
(154, ⟨false, [.sl 180 2], 24, [], 180⟩),
(122, ⟨true, [.bool, .sl 9 1, .sl 9 1, .sl 9 1, .sl 9 1], 104, [(4, 0), (35, 1), (35, 2), (35, 3), (35, 4)], 0⟩),
(163, ⟨false, [.sl 122 5], 24, [], 122⟩),
(83, ⟨false, [.sl 32 1], 24, [], 32⟩),
 (5, ⟨false, [.int .u8], 1, [], 0⟩)]
theorem a0h : ∀ t ti, get? tTab t = some ti -> TOk Tryz.prog t ti := a9B (by kernel_rfl)
theorem mixed : Tryz.prog.follows .mixedOrders = true := by kernel_rfl
def a0r : Nat -> Inv := fun _ => ⟨Unit, fun _ => ⟨[], []⟩, fun _ => True, fun _ => 0⟩
theorem c7G {α : Type} (f : Nat -> α) (d : Nat) (v : α) (h : Nat) : upd f d v h = if h = d then v else f h := rfl
def c6k (e : Nat -> Option (Bool × AV)) (m : Nat -> Option Blk) : Nat -> Option (Bool × AV) := fun t => (e t).map fun p => (p.1, p.2.wipe m)
def c6l (m : Nat -> Option Blk) : Nat -> Option Blk := fun h => (m h).map (Blk.wipe m)
theorem c7N (s : St) (m : Nat -> Option Blk) : s.wipe m = ⟨c6k s.e m, c6l m⟩ := rfl
theorem c3x (e : Nat -> Option (Bool × AV)) (m : Nat -> Option Blk) (t : Nat) : c6k e m t = (e t).map fun p => (p.1, p.2.wipe m) := rfl
theorem c3y (m : Nat -> Option Blk) (h : Nat) : c6l m h = (m h).map (Blk.wipe m) := rfl
abbrev Str := List UInt8
def eStr (s : Str) : List D := [.str s]
def a0a (l : List Str) : List (List D) := l.map eStr
structure FileD where
 path : Str
 text : List Str
 deriving DecidableEq, Inhabited
def a0z (f : FileD) : List D := [.str f.path, .sl 9 1 (a0a f.text)]
def a0b (l : List FileD) : List (List D) := l.map a0z
@[simp] theorem eStrs_length (l : List Str) : (a0a l).length = l.length := by simp [a0a]
@[simp] theorem eStrs_nil : a0a [] = [] := rfl
@[simp] theorem eStrs_get (l : List Str) (i : Nat) : (a0a l)[i]? = l[i]?.map eStr := by simp [a0a]
@[simp] theorem eStrs_getElem (l : List Str) (i : Nat) (h : i < (a0a l).length) : (a0a l)[i] = eStr (l[i]'(by simpa using h)) := by simp [a0a]
@[simp] theorem eStr_inj (a b : Str) : (eStr a = eStr b) = (a = b) := by simp [eStr]
@[simp] theorem eStrs_inj (a b : List Str) : (a0a a = a0a b) = (a = b) := by
 apply propext
 constructor
 ·intro h
  exact List.map_inj_right (fun x y h => by simpa using h) |>.1 h
 ·rintro rfl; rfl
@[simp] theorem eStrs_eq_nil (a : List Str) : (a0a a = []) = (a = []) := by simp [a0a]
@[simp] theorem nil_eq_eStrs (a : List Str) : ([] = a0a a) = (a = []) := by simp [a0a, eq_comm]
theorem a0o (a b : List Str) : a0a (a ++ b) = a0a a ++ a0a b := by simp [a0a]
theorem a0y (a : List Str) (x : Str) : a0a a ++ [[.str x]] = a0a (a ++ [x]) := by simp [a0a, eStr]
theorem a0O (l : List Str) (i : Nat) (s : Str) : (a0a l).set i [.str s] = a0a (l.set i s) := by simp [a0a, List.map_set, eStr]
theorem a0v (l : List Str) (i : Nat) : (a0a l).take i = a0a (l.take i) := by simp [a0a]
theorem a0C (l : List Str) (i : Nat) : (a0a l).drop i = a0a (l.drop i) := by simp [a0a]
theorem a0J (n : Nat) : List.replicate n [D.str []] = a0a (List.replicate n []) := by simp [a0a, eStr]
@[simp] theorem eStrs_flat (l : List Str) : (∀ x ∈ a0a l, ∀ d ∈ x, a6B d) = True := by
 simp only [eq_iff_iff, iff_true]
 intro x hx d hd
 simp only [a0a, List.mem_map] at hx
 obtain ⟨s, _, rfl⟩ := hx
 simp only [eStr, List.mem_singleton] at hd
 subst hd
 trivial
@[simp] theorem eFiles_length (l : List FileD) : (a0b l).length = l.length := by simp [a0b]
@[simp] theorem eFiles_nil : a0b [] = [] := rfl
@[simp] theorem eFiles_get (l : List FileD) (i : Nat) : (a0b l)[i]? = l[i]?.map a0z := by simp [a0b]
@[simp] theorem eFiles_getElem (l : List FileD) (i : Nat) (h : i < (a0b l).length) : (a0b l)[i] = a0z (l[i]'(by simpa using h)) := by simp [a0b]
@[simp] theorem eFile_inj (a b : FileD) : (a0z a = a0z b) = (a = b) := by
 cases a; cases b; simp [a0z]
@[simp] theorem eFiles_inj (a b : List FileD) : (a0b a = a0b b) = (a = b) := by
 apply propext
 constructor
 ·intro h
  exact List.map_inj_right (fun x y h => by simpa using h) |>.1 h
 ·rintro rfl; rfl
@[simp] theorem eFiles_eq_nil (a : List FileD) : (a0b a = []) = (a = []) := by simp [a0b]
@[simp] theorem nil_eq_eFiles (a : List FileD) : ([] = a0b a) = (a = []) := by simp [a0b, eq_comm]
theorem a0t (a : List FileD) (p : Str) (t : List Str) : a0b a ++ [[.str p, .sl 9 1 (a0a t)]] = a0b (a ++ [⟨p, t⟩]) := by simp [a0b, a0z]
theorem a0p (a b : List FileD) : a0b (a ++ b) = a0b a ++ a0b b := by simp [a0b]
theorem a0B (l : List FileD) (i : Nat) : (a0b l).take i = a0b (l.take i) := by simp [a0b]
theorem a0A (l : List FileD) (i : Nat) : (a0b l).drop i = a0b (l.drop i) := by simp [a0b]
theorem a0F (l : List FileD) (i : Nat) (p : Str) (t : List Str) : (a0b l).set i [.str p, .sl 9 1 (a0a t)] = a0b (l.set i ⟨p, t⟩) := by simp [a0b, List.map_set, a0z]
theorem a0E (n : Nat) : List.replicate n [D.str [], .sl 9 1 []] = a0b (List.replicate n ⟨[], []⟩) := by simp [a0b, a0z]
@[simp] theorem FileD.eta (f : FileD) : (⟨f.path, f.text⟩ : FileD) = f := rfl
@[simp] theorem asStr_str (s : Str) : D.asStr (.str s) = s := rfl
@[simp] theorem asRows_sl (e k : Nat) (r : List (List D)) : D.asRows (.sl e k r) = r := rfl
@[simp] theorem asInt_int (k : IntKind) (n : Int) : D.asInt (.int k n) = n := rfl
@[simp] theorem asBool_bool (b : Bool) : D.asBool (.bool b) = b := rfl
theorem a0M (a b : Nat) : ((a : Int) = (b : Int) + 1) = (a = b + 1) := by apply propext; omega
theorem a0W (a b : Nat) : ((a : Int) = (b : Int)) = (a = b) := by apply propext; omega
theorem a0N (a : Nat) : ((a : Int) = 0) = (a = 0) := by apply propext; omega
theorem a0w {α : Type} {l : List α} {i : Nat} (h : i < l.length) : l.take (i + 1) = l.take i ++ [l[i]] := List.take_succ_eq_append_getElem h
@[simp] theorem getD_nat (l : Str) (i : Nat) (h : i < l.length) : l.getD i 0 = l[i] := by simp [List.getD_eq_getElem?_getD, h]
theorem a1c {α : Type} {l : List α} {p : α -> Bool} {i : Nat} (h : i < l.length) : (l.take (i + 1)).all p = ((l.take i).all p && p l[i]) := by
 rw [a0w h, List.all_append]; simp
theorem a5V {α : Type} {l r : List α} {i : Nat} (h1 : i < l.length) (h2 : i < r.length) (h : l.take i = r.take i) (he : l[i] = r[i]) : l.take (i + 1) = r.take (i + 1) := by
 rw [a0w h1, a0w h2, h, he]
theorem a9a {α : Type} {l r : List α} {i : Nat} (h0 : l.length = r.length) (h1 : l.length <= i) (h : l.take i = r.take i) : l = r := by
 rw [List.take_of_length_le h1, List.take_of_length_le (by omega)] at h
 exact h
theorem FileD.eq_iff (a b : FileD) : (a = b) = (a.path = b.path /\ a.text = b.text) := by
 cases a; cases b; simp
@[simp] theorem FileD.ex1 (p : Str) (x : List Str) (Q : FileD -> Prop) : (∃ a : FileD, a.path = p /\ a.text = x /\ Q a) = Q ⟨p, x⟩ := by
 apply propext
 constructor
 ·rintro ⟨⟨a, b⟩, rfl, rfl, h⟩; exact h
 ·intro h; exact ⟨⟨p, x⟩, rfl, rfl, h⟩
@[simp] theorem FileD.ex2 (p : Str) (x : List Str) (Q : FileD -> Prop) : (∃ a : FileD, (a.path = p /\ a.text = x) /\ Q a) = Q ⟨p, x⟩ := by
 apply propext
 constructor
 ·rintro ⟨⟨a, b⟩, ⟨rfl, rfl⟩, h⟩; exact h
 ·intro h; exact ⟨⟨p, x⟩, ⟨rfl, rfl⟩, h⟩
theorem c3W (a : Nat) : ((a : Int) = 1) = (a = 1) := by apply propext; omega
/- What unfolds a walk. -/
attribute [simp] c7L a2r c8n c7I c5Q c7J c8m c3w c0N c7K b7u c4u c1W b4t b9E b7r b6a c1T b9I b9H c1U c3v c0M c4t b2a b9N c5O c3u c1V b7w c2c c2b b6b c2a flB ldMv subN a1F AV.sgl ldB btys a3M b0o b7v c6P b8O c0X b7d a2y c0Y c3j b7V c1Z b9M AV.isSub c6n c4s c4w a3v a9x a2k b0d AV.stolen c0Z c7Q b8Q c3F c4v c1X c1Y b9L b9O b7y b7z a7x b7t b7s b9G wk_T wk_n c7P c8p c8o c8L c8M a0X a1X a2j calm a4D a3C a9H a5A b4O a8k pas4 a9Z a2m a7j ren4 a2o m4 a3K a4Z a3a apnd a3L a7w a5C a9n mvL AV.mv AV.base AV.moved kBld bldK wrK stK AV.selfOk AV.src TI.flat a6e a7s St.val St.cond St.fn St.next St.set St.trim c7N c3x c3y a5Y get? cGet c7G a3X a0P rm a3O Oper.hnd Sc.st a7r a9U a8f a0I a3Q ldL ld1 a2V a2W a5l a6h a3E a3z a5i Out.of a9K a6c AV.rows AV.one AV.cells AV.deepOk AV.toD toDs a2v a1Z a2A TK.zeroAV TK.zeroD byteOf inR Op.operands Call.operands a2P a6F a4Y a5O a2Z a4X pasV pasL pas1 a3f okHs a6E a5s a4O rho over a5g a4I a3D a2g a2C a3l a2I a2H m2 AV.wipe AV.wipeV AV.wipe1 Blk.wipe AV.hs AV.hs.hsL a4F Con.start2 Con.pk b4E fini b4P resA a2s Sc.from a9s renT renV b2x renL ren1 a7y a9t c6f clOf ldMk c0c actB setRow a7Z a6B a0r c7w c5D b7x a4j AV.viewed AV.viewed1
end Vx
end Go.Proofs.YtokdjnbcdokpjaaGreatDoor
namespace Go.Proofs.YtokdjnbcdokpjaaGreatDoor
open Go.ChangeShapes Go.WideShapes Go.ChangeAt Go.RowKit
namespace Vx
theorem b1h : ownKnob Tryz.prog.godebug = none := by kernel_rfl
theorem laidOut : laidOutB Tryz.prog = true := by kernel_rfl
theorem b7W : b4S tTab = true := by decide
section
variable {H : Type} {enc : TypeId × Value -> H} {W : World} {sp : Nat -> Bool} {held : Bool} {r : Reach} {base : Nat}
end
end Vx
end Go.Proofs.YtokdjnbcdokpjaaGreatDoor
namespace Go.Proofs.YtokdjnbcdokpjaaGreatDoor
namespace Vx
def eInt (n : Int) : List D := [.int .i64 n]
@[simp] theorem eInt_inj (a b : Int) : (eInt a = eInt b) = (a = b) := by simp [eInt]
def a0f (l : List Int) : List (List D) := l.map eInt
@[simp] theorem eInts_length (l : List Int) : (a0f l).length = l.length := by simp [a0f]
@[simp] theorem eInts_nil : a0f [] = [] := rfl
@[simp] theorem eInts_get (l : List Int) (i : Nat) : (a0f l)[i]? = l[i]?.map eInt := by simp [a0f]
@[simp] theorem eInts_getElem (l : List Int) (i : Nat) (h : i < (a0f l).length) : (a0f l)[i] = eInt (l[i]'(by simpa using h)) := by simp [a0f]
@[simp] theorem eInts_inj (a b : List Int) : (a0f a = a0f b) = (a = b) := by
 apply propext
 constructor
 ·intro h
  exact List.map_inj_right (fun x y h => by simpa using h) |>.1 h
 ·rintro rfl; rfl
@[simp] theorem eInts_eq_nil (a : List Int) : (a0f a = []) = (a = []) := by simp [a0f]
@[simp] theorem nil_eq_eInts (a : List Int) : ([] = a0f a) = (a = []) := by simp [a0f, eq_comm]
theorem b1R (a : List Int) (n : Int) : a0f a ++ [[.int .i64 n]] = a0f (a ++ [n]) := by simp [a0f, eInt]
@[simp] theorem eInts_flat (l : List Int) : (∀ x ∈ a0f l, ∀ d ∈ x, a6B d) = True := by
 simp only [eq_iff_iff, iff_true]
 intro x hx d hd
 simp only [a0f, List.mem_map] at hx
 obtain ⟨s, _, rfl⟩ := hx
 simp only [eInt, List.mem_singleton] at hd
 subst hd
 trivial
structure HeadD where
 name : Str
 at_ : Int
 deriving DecidableEq, Inhabited
def a1f (a : HeadD) : List D := [.str a.name, .int .i64 a.at_]
@[simp] theorem eHead_inj (a b : HeadD) : (a1f a = a1f b) = (a = b) := by
 cases a; cases b; simp [a1f]
@[simp] theorem HeadD.eta (a : HeadD) : (⟨a.name, a.at_⟩ : HeadD) = a := rfl
theorem HeadD.eq_iff (a b : HeadD) : (a = b) = (a.name = b.name /\ a.at_ = b.at_) := by
 cases a; cases b; simp
@[simp] theorem HeadD.ex1 (x_name : Str) (x_at_ : Int) (Q : HeadD -> Prop) : (∃ a : HeadD, a.name = x_name /\ a.at_ = x_at_ /\ Q a) = Q ⟨x_name, x_at_⟩ := by
 apply propext
 constructor
 ·rintro ⟨⟨_, _⟩, rfl, rfl, h⟩; exact h
 ·intro h; exact ⟨⟨x_name, x_at_⟩, rfl, rfl, h⟩
@[simp] theorem HeadD.ex2 (x_name : Str) (x_at_ : Int) (Q : HeadD -> Prop) : (∃ a : HeadD, (a.name = x_name /\ a.at_ = x_at_) /\ Q a) = Q ⟨x_name, x_at_⟩ := by
 apply propext
 constructor
 ·rintro ⟨⟨_, _⟩, ⟨rfl, rfl⟩, h⟩; exact h
 ·intro h; exact ⟨⟨x_name, x_at_⟩, ⟨rfl, rfl⟩, h⟩
@[simp] theorem HeadD.ex0 (x_name : Str) (x_at_ : Int) : (∃ a : HeadD, a.name = x_name /\ a.at_ = x_at_) = True := by
 simp only [eq_iff_iff, iff_true]
 exact ⟨⟨x_name, x_at_⟩, rfl, rfl⟩
def a0c (l : List HeadD) : List (List D) := l.map a1f
@[simp] theorem eHeads_length (l : List HeadD) : (a0c l).length = l.length := by simp [a0c]
@[simp] theorem eHeads_nil : a0c [] = [] := rfl
@[simp] theorem eHeads_get (l : List HeadD) (i : Nat) : (a0c l)[i]? = l[i]?.map a1f := by simp [a0c]
@[simp] theorem eHeads_getElem (l : List HeadD) (i : Nat) (h : i < (a0c l).length) : (a0c l)[i] = a1f (l[i]'(by simpa using h)) := by simp [a0c]
@[simp] theorem eHeads_inj (a b : List HeadD) : (a0c a = a0c b) = (a = b) := by
 apply propext
 constructor
 ·intro h
  exact List.map_inj_right (fun x y h => by simpa using h) |>.1 h
 ·rintro rfl; rfl
@[simp] theorem eHeads_eq_nil (a : List HeadD) : (a0c a = []) = (a = []) := by simp [a0c]
@[simp] theorem nil_eq_eHeads (a : List HeadD) : ([] = a0c a) = (a = []) := by simp [a0c, eq_comm]
theorem b0m (a : List HeadD) (s : Str) (n : Int) : a0c a ++ [[.str s, .int .i64 n]] = a0c (a ++ [⟨s, n⟩]) := by simp [a0c, a1f]
theorem b1Q (l : List HeadD) (i : Nat) (s : Str) (n : Int) : (a0c l).set i [.str s, .int .i64 n] = a0c (l.set i ⟨s, n⟩) := by simp [a0c, List.map_set, a1f]
@[simp] theorem eHeads_flat (l : List HeadD) : (∀ x ∈ a0c l, ∀ d ∈ x, a6B d) = True := by
 simp only [eq_iff_iff, iff_true]
 intro x hx d hd
 simp only [a0c, List.mem_map] at hx
 obtain ⟨s, _, rfl⟩ := hx
 simp only [a1f, List.mem_cons, List.not_mem_nil, or_false] at hd
 rcases hd with rfl | rfl <;> trivial
structure CommitD where
 parents : List Int
 who : Str
 tree : List FileD
 deriving DecidableEq, Inhabited
def a0k (a : CommitD) : List D := [.sl 3 1 (a0f a.parents), .str a.who, .sl 39 2 (a0b a.tree)]
@[simp] theorem eCommit_inj (a b : CommitD) : (a0k a = a0k b) = (a = b) := by
 cases a; cases b; simp [a0k]
@[simp] theorem CommitD.eta (a : CommitD) : (⟨a.parents, a.who, a.tree⟩ : CommitD) = a := rfl
theorem CommitD.eq_iff (a b : CommitD) : (a = b) = (a.parents = b.parents /\ a.who = b.who /\ a.tree = b.tree) := by
 cases a; cases b; simp
@[simp] theorem CommitD.ex1 (x_parents : List Int) (x_who : Str) (x_tree : List FileD) (Q : CommitD -> Prop) : (∃ a : CommitD, a.parents = x_parents /\ a.who = x_who /\ a.tree = x_tree /\ Q a) = Q ⟨x_parents, x_who, x_tree⟩ := by
 apply propext
 constructor
 ·rintro ⟨⟨_, _, _⟩, rfl, rfl, rfl, h⟩; exact h
 ·intro h; exact ⟨⟨x_parents, x_who, x_tree⟩, rfl, rfl, rfl, h⟩
@[simp] theorem CommitD.ex2 (x_parents : List Int) (x_who : Str) (x_tree : List FileD) (Q : CommitD -> Prop) : (∃ a : CommitD, (a.parents = x_parents /\ a.who = x_who /\ a.tree = x_tree) /\ Q a) = Q ⟨x_parents, x_who, x_tree⟩ := by
 apply propext
 constructor
 ·rintro ⟨⟨_, _, _⟩, ⟨rfl, rfl, rfl⟩, h⟩; exact h
 ·intro h; exact ⟨⟨x_parents, x_who, x_tree⟩, ⟨rfl, rfl, rfl⟩, h⟩
@[simp] theorem CommitD.ex0 (x_parents : List Int) (x_who : Str) (x_tree : List FileD) : (∃ a : CommitD, a.parents = x_parents /\ a.who = x_who /\ a.tree = x_tree) = True := by
 simp only [eq_iff_iff, iff_true]
 exact ⟨⟨x_parents, x_who, x_tree⟩, rfl, rfl, rfl⟩
def a0i (l : List CommitD) : List (List D) := l.map a0k
@[simp] theorem eCommits_length (l : List CommitD) : (a0i l).length = l.length := by simp [a0i]
@[simp] theorem eCommits_nil : a0i [] = [] := rfl
@[simp] theorem eCommits_get (l : List CommitD) (i : Nat) : (a0i l)[i]? = l[i]?.map a0k := by simp [a0i]
@[simp] theorem eCommits_getElem (l : List CommitD) (i : Nat) (h : i < (a0i l).length) : (a0i l)[i] = a0k (l[i]'(by simpa using h)) := by simp [a0i]
@[simp] theorem eCommits_inj (a b : List CommitD) : (a0i a = a0i b) = (a = b) := by
 apply propext
 constructor
 ·intro h
  exact List.map_inj_right (fun x y h => by simpa using h) |>.1 h
 ·rintro rfl; rfl
@[simp] theorem eCommits_eq_nil (a : List CommitD) : (a0i a = []) = (a = []) := by simp [a0i]
@[simp] theorem nil_eq_eCommits (a : List CommitD) : ([] = a0i a) = (a = []) := by simp [a0i, eq_comm]
theorem a3y (a : List CommitD) (p : List Int) (w : Str) (t : List FileD) : a0i a ++ [[.sl 3 1 (a0f p), .str w, .sl 39 2 (a0b t)]] = a0i (a ++ [⟨p, w, t⟩]) := by simp [a0i, a0k]
structure RepoD where
 commits : List CommitD
 heads : List HeadD
 deriving DecidableEq, Inhabited
def b9r (a : RepoD) : List D := [.sl 34 3 (a0i a.commits), .sl 113 2 (a0c a.heads)]
@[simp] theorem eRepo_inj (a b : RepoD) : (b9r a = b9r b) = (a = b) := by
 cases a; cases b; simp [b9r]
@[simp] theorem RepoD.eta (a : RepoD) : (⟨a.commits, a.heads⟩ : RepoD) = a := rfl
theorem RepoD.eq_iff (a b : RepoD) : (a = b) = (a.commits = b.commits /\ a.heads = b.heads) := by
 cases a; cases b; simp
@[simp] theorem RepoD.ex1 (x_commits : List CommitD) (x_heads : List HeadD) (Q : RepoD -> Prop) : (∃ a : RepoD, a.commits = x_commits /\ a.heads = x_heads /\ Q a) = Q ⟨x_commits, x_heads⟩ := by
 apply propext
 constructor
 ·rintro ⟨⟨_, _⟩, rfl, rfl, h⟩; exact h
 ·intro h; exact ⟨⟨x_commits, x_heads⟩, rfl, rfl, h⟩
@[simp] theorem RepoD.ex2 (x_commits : List CommitD) (x_heads : List HeadD) (Q : RepoD -> Prop) : (∃ a : RepoD, (a.commits = x_commits /\ a.heads = x_heads) /\ Q a) = Q ⟨x_commits, x_heads⟩ := by
 apply propext
 constructor
 ·rintro ⟨⟨_, _⟩, ⟨rfl, rfl⟩, h⟩; exact h
 ·intro h; exact ⟨⟨x_commits, x_heads⟩, ⟨rfl, rfl⟩, h⟩
@[simp] theorem RepoD.ex0 (x_commits : List CommitD) (x_heads : List HeadD) : (∃ a : RepoD, a.commits = x_commits /\ a.heads = x_heads) = True := by
 simp only [eq_iff_iff, iff_true]
 exact ⟨⟨x_commits, x_heads⟩, rfl, rfl⟩
abbrev a0V (r : RepoD) : AV := .agg [.sl true 3 (a0i r.commits), .sl true 2 (a0c r.heads)]
abbrev a3d (h : Nat) (a : List Int) : List (Nat × Blk) := [(h, .own 3 1 true (a0f a))]
abbrev a2E (h : Nat) (a : List HeadD) : List (Nat × Blk) := [(h, .own 113 2 true (a0c a))]
abbrev a2z (h : Nat) (a : List CommitD) : List (Nat × Blk) := [(h, .own 34 3 true (a0i a))]
end Vx
end Go.Proofs.YtokdjnbcdokpjaaGreatDoor
namespace Go.Proofs.YtokdjnbcdokpjaaGreatDoor
set_option maxHeartbeats 4000000
namespace Vx
open Go.RowKit
set_option maxRecDepth 8000
def a2l (b : UInt8) : List D := [.int .u8 b.toNat]
def a1l (s : Str) : List (List D) := s.map a2l
@[simp] theorem eBytes_length (l : Str) : (a1l l).length = l.length := by simp -implicitDefEqProofs [a1l]
@[simp] theorem eBytes_get (l : Str) (i : Nat) : (a1l l)[i]? = l[i]?.map a2l := by simp -implicitDefEqProofs [a1l]
theorem b7m (l : Str) (i : Nat) : (a1l l).take i = a1l (l.take i) := by simp -implicitDefEqProofs [a1l]
@[simp] theorem eByte_inj (a b : UInt8) : (a2l a = a2l b) = (a = b) := by
 simp only [a2l, List.cons.injEq, D.int.injEq, true_and, and_true, eq_iff_iff]
 constructor
 ·intro h; exact UInt8.toNat_inj.1 (by omega)
 ·rintro rfl; rfl
@[simp] theorem eBytes_inj (a b : Str) : (a1l a = a1l b) = (a = b) := by
 apply propext
 constructor
 ·intro h
  exact List.map_inj_right (fun x y h => by simpa using h) |>.1 h
 ·rintro rfl; rfl
@[simp] theorem eBytes_all (l : Str) (f : List D -> Bool) : (a1l l).all f = l.all fun b => f (a2l b) := by simp -implicitDefEqProofs [a1l, Function.comp_def]
theorem a2D (l : Str) : (l.all fun _ => true) = true := by simp
abbrev a3s (s : Str) (p : Int) : Blk := .box 149 [.sl true 1 (a1l s), .int .i64 p]
def a7M : Con := .fn 11 Str (fun s => [.sl true 1 (a1l s)]) (fun _ => True) (fun _ => .ptr 8 0) (fun s => [(8, a3s (s.take 2000) 0)])
theorem b0q : Has Tryz.prog 86 a7M := by
 refine a0d mixed a0h HasL.nil [0, 2] ((fun a n (_ : Nat) => (fun _ => a0r) a n)) [] Tryz.func86 (by unfold Tryz.f86; rfl) (fun _ => ⟨(), trivial⟩) ?_
 intro (s : Str) _
 simp -implicitDefEqProofs [a7M, Con.fn, tTab, b7m]
 exact fun _ => ⟨fun h => by omega, fun h => List.take_of_length_le (by omega)⟩
theorem c8s {a b : Int} (h1 : 0 <= a) (h2 : a < 4611686018427387904) (h3 : 0 <= b) (h4 : b < 4611686018427387904) : 0 <= a5o .xor .i64 a b := by
 unfold a5o
 simp only []
 rw [BitVec.toNat_xor, BitVec.toNat_ofInt, BitVec.toNat_ofInt]
 have e1 : (a % ((2 ^ (IntKind.i64).bits : Nat) : Int)).toNat < 2 ^ 62 := by
  have : a % ((2 ^ (IntKind.i64).bits : Nat) : Int) = a := Int.emod_eq_of_lt h1 (by show a < (((2 : Nat) ^ 64 : Nat) : Int); omega)
  rw [this]; omega
 have e2 : (b % ((2 ^ (IntKind.i64).bits : Nat) : Int)).toNat < 2 ^ 62 := by
  have : b % ((2 ^ (IntKind.i64).bits : Nat) : Int) = b := Int.emod_eq_of_lt h3 (by show b < (((2 : Nat) ^ 64 : Nat) : Int); omega)
  rw [this]; omega
 have e3 := Nat.xor_lt_two_pow e1 e2
 rw [a4o (by simp only [inR]; omega)]
 omega
def a7P : Con := { A := (Str × Int) × Int, X := Int, n := 99, args := fun a => [.ptr 0 0, .int .i64 a.2], boxes := fun a => [(0, 149, [.sl true 1 (a1l a.1.1), .int .i64 a.1.2])], pre := fun a => a.1.1.length <= 2000 /\ 0 <= a.1.2 /\ a.1.2 <= 1073741824 /\ a.2 <= 1073741824, post := fun a x => (a.2 < 1 -> x = 0) /\ (1 <= a.2 -> 0 <= x /\ x < a.2), res := fun _ x => .int .i64 x, fin := fun a _ => [(0, a3s a.1.1 (a.1.2 + 1))], nob := false }
theorem a6t : Has Tryz.prog 121 a7P := by
 refine a0d mixed a0h HasL.nil [0, 1, 4, 5, 6] ((fun a n (_ : Nat) => (fun _ => a0r) a n)) [] Tryz.func121 (by unfold Tryz.f121; rfl) (fun a => ⟨(0 : Int), fun _ => rfl, fun h => ⟨Int.le_refl 0, by omega⟩⟩) ?_
 intro a ha
 obtain ⟨⟨s, p⟩, n⟩ := a
 obtain ⟨h1, h2, h3, h4⟩ : s.length <= 2000 /\ 0 <= p /\ p <= 1073741824 /\ n <= 1073741824 := ha
 simp -implicitDefEqProofs [a7P, tTab]
 have e : ∀ q : Int, 0 <= q -> q < s.length -> ∃ b : Nat, b < 256 /\ Option.map a2l s[q.toNat]? = some [.int .u8 b] := fun q a b => by
  have hq : q.toNat < s.length := by omega
  exact ⟨s[q.toNat].toNat, s[q.toNat].toNat_lt, by simp -implicitDefEqProofs [List.getElem?_eq_getElem hq, a2l]⟩
 refine ⟨by omega, fun _ _ => ⟨fun a b => by omega, fun hn _ => ⟨fun _ _ => by omega, fun hs => ⟨by omega, fun _ _ _ => ⟨fun hp => ?_, fun hp => ?_⟩⟩⟩⟩⟩
 ·obtain ⟨b, hb, eb⟩ := e p h2 hp
  have t1 := Int.tmod_nonneg n (a := (b : Int)) (by omega)
  have t2 := Int.tmod_lt_of_pos (b : Int) (b := n) (by omega)
  simp -implicitDefEqProofs [eb]
  omega
 ·have hl : 0 < s.length := List.length_pos_iff.2 hs
  have hL : (0 : Int) < (s.length : Int) := by omega
  have t1 := Int.tmod_nonneg (s.length : Int) (a := p) h2
  have t2 := Int.tmod_lt_of_pos p hL
  have t3 := Int.tmod_nonneg (s.length : Int) (a := p * 7 + 3) (by omega)
  have t4 := Int.tmod_lt_of_pos (p * 7 + 3) hL
  have t5 := Int.tdiv_nonneg h2 (Int.le_of_lt hL)
  have t6 : p.tdiv (s.length : Int) <= p := by
   have := Int.natAbs_tdiv_le_natAbs p (s.length : Int)
   omega
  obtain ⟨b1, hb1, eb1⟩ := e _ t1 t2
  obtain ⟨b2, hb2, eb2⟩ := e _ t3 t4
  simp -implicitDefEqProofs [eb1, eb2]
  generalize p.tdiv (s.length : Int) = d at t5 t6 ⊢
  generalize p.tmod (s.length : Int) = m1 at t1 t2 ⊢
  generalize (p * 7 + 3).tmod (s.length : Int) = m2 at t3 t4 ⊢
  have t7 := Int.tdiv_nonneg (a := (b1 * 131 + b2 * 1117 + p * 29 + d * 53 : Int)) (b := 64) (by omega) (by omega)
  have t8 : (b1 * 131 + b2 * 1117 + p * 29 + d * 53 : Int).tdiv 64 <= b1 * 131 + b2 * 1117 + p * 29 + d * 53 := by
   have := Int.natAbs_tdiv_le_natAbs (b1 * 131 + b2 * 1117 + p * 29 + d * 53 : Int) 64
   omega
  have t9 := c8s (a := (b1 * 131 + b2 * 1117 + p * 29 + d * 53 : Int)) (b := (b1 * 131 + b2 * 1117 + p * 29 + d * 53 : Int).tdiv 64) (by omega) (by omega) (by omega) (by omega)
  generalize (b1 * 131 + b2 * 1117 + p * 29 + d * 53 : Int).tdiv 64 = y at t7 t8 t9 ⊢
  generalize a5o .xor .i64 (b1 * 131 + b2 * 1117 + p * 29 + d * 53 : Int) y = z at t9 ⊢
  have t10 := Int.tmod_nonneg n t9
  have t11 := Int.tmod_lt_of_pos z (b := n) (by omega)
  clear e eb1 eb2
  repeat' (first | intro _ | apply And.intro)
  all_goals first | omega | assumption | contradiction
theorem b3O {α : Type} {d : α} {l : List α} (h : l ≠ []) : l.headD d ∈ l := by
 cases l with
 | nil => exact absurd rfl h
 | cons x r => simp
def cOf : Con := { A := (Str × Int) × List Str, X := Str, n := 12, args := fun a => [.ptr 0 0, .sl true 1 (a0a a.2)], boxes := fun a => [(0, 149, [.sl true 1 (a1l a.1.1), .int .i64 a.1.2])], pre := fun a => a.1.1.length <= 2000 /\ 0 <= a.1.2 /\ a.1.2 <= 1073741824 /\ a.2 ≠ [] /\ a.2.length <= 1073741824, post := fun a x => a.2 ≠ [] -> x ∈ a.2, res := fun _ x => .str x, fin := fun a _ => [(0, a3s a.1.1 (a.1.2 + 1))], nob := false, kindly := true }
theorem of_has : Has Tryz.prog 88 cOf := by
 refine a0d mixed a0h (HasL.cons a6t HasL.nil) [0, 1, 4] ((fun a n (_ : Nat) => (fun _ => a0r) a n)) [] Tryz.func88 (by unfold Tryz.f88; rfl) (fun a => ⟨a.2.headD [], fun h => b3O h⟩) ?_
 intro a ha
 obtain ⟨⟨s, p⟩, l⟩ := a
 obtain ⟨h1, h2, h3, h4, h5⟩ : s.length <= 2000 /\ 0 <= p /\ p <= 1073741824 /\ l ≠ [] /\ l.length <= 1073741824 := ha
 have hl : 0 < l.length := List.length_pos_iff.2 h4
 simp -implicitDefEqProofs [cOf, a7P, tTab]
 refine fun _ => ⟨s, p, ⟨rfl, rfl⟩, ⟨h1, h2, h3, by omega⟩, fun y _ hy2 => ?_⟩
 obtain ⟨k1, k2⟩ := hy2 (by omega)
 have hk : y.toNat < l.length := by omega
 have e : Option.map eStr l[y.toNat]? = some (eStr l[y.toNat]) := by simp -implicitDefEqProofs [List.getElem?_eq_getElem hk]
 simp -implicitDefEqProofs [e, eStr, k1, k2]
def cOne : Con := { A := (Str × Int) × List Int, X := Int, n := 12, args := fun a => [.ptr 0 0, .sl true 1 (a0f a.2)], boxes := fun a => [(0, 149, [.sl true 1 (a1l a.1.1), .int .i64 a.1.2])], pre := fun a => a.1.1.length <= 2000 /\ 0 <= a.1.2 /\ a.1.2 <= 1073741824 /\ a.2 ≠ [] /\ a.2.length <= 1073741824, post := fun a x => a.2 ≠ [] -> x ∈ a.2, res := fun _ x => .int .i64 x, fin := fun a _ => [(0, a3s a.1.1 (a.1.2 + 1))], nob := false, kindly := true }
theorem one_has : Has Tryz.prog 134 cOne := by
 refine a0d mixed a0h (HasL.cons a6t HasL.nil) [0, 1, 4] ((fun a n (_ : Nat) => (fun _ => a0r) a n)) [] Tryz.func134 (by unfold Tryz.f134; rfl) (fun a => ⟨a.2.headD 0, fun h => b3O h⟩) ?_
 intro a ha
 obtain ⟨⟨s, p⟩, l⟩ := a
 obtain ⟨h1, h2, h3, h4, h5⟩ : s.length <= 2000 /\ 0 <= p /\ p <= 1073741824 /\ l ≠ [] /\ l.length <= 1073741824 := ha
 have hl : 0 < l.length := List.length_pos_iff.2 h4
 simp -implicitDefEqProofs [cOne, a7P, tTab]
 refine fun _ => ⟨s, p, ⟨rfl, rfl⟩, ⟨h1, h2, h3, by omega⟩, fun y _ hy2 => ?_⟩
 obtain ⟨k1, k2⟩ := hy2 (by omega)
 have hk : y.toNat < l.length := by omega
 have e : Option.map eInt l[y.toNat]? = some (eInt l[y.toNat]) := by simp -implicitDefEqProofs [List.getElem?_eq_getElem hk]
 simp -implicitDefEqProofs [e, eInt, k1, k2]
end Vx
end Go.Proofs.YtokdjnbcdokpjaaGreatDoor
namespace Go.Proofs.YtokdjnbcdokpjaaGreatDoor
open Go.ChangeShapes Go.WideShapes Go.ChangeAt Go.RowKit
namespace Vx
theorem c3g {T : Nat -> Option TI} (hs : ∀ te, T 5 = some te -> te.cells = [.int .u8]) {ds : List D} (h : Shp T [.sl 5 1] ds) : ∃ l, ds = [.sl 5 1 (a1l l)] := by
 cases h with
 | @sl e k te rows ks ds h1 h2 h3 =>
  cases h3
  rw [hs _ h1] at h2
  obtain ⟨l, rfl, _⟩ := c5x (f := a2l) (p := fun _ => True) (rows := rows) (fun r hr => by
   have := h2 r hr
   cases this with
   | @int k n _ _ q1 q2 =>
    cases q2
    have q3 : IntKind.u8.min <= n /\ n <= IntKind.u8.max := by simpa only [Lit.wf, Bool.and_eq_true, decide_eq_true_eq] using q1
    have q4 : IntKind.u8.min = 0 := rfl
    have q5 : IntKind.u8.max = 255 := rfl
    rw [q4, q5] at q3
    refine ⟨UInt8.ofNat n.toNat, ?_, trivial⟩
    have : (UInt8.ofNat n.toNat).toNat = n.toNat := by rw [UInt8.toNat_ofNat']; omega
    simp only [a2l, this]
    congr 2
    omega)
  exact ⟨l, rfl⟩
section
variable {H : Type} {enc : TypeId × Value -> H} {W : World} {sp : Nat -> Bool} {held : Bool} {r : Reach} {base : Nat}
set_option maxRecDepth 100000 in
theorem a8j {v : Value} {d : DataW H} {p : List MemPlace} (hu : Tryz.prog.underlying 22 = some (.slice 5)) (hv : Value.okWide Tryz.prog W r base 22 v)
  (h : DataW.Trod enc Tryz.prog W 0 sp held 22 v d p) : ∃ l f, RdL false W [.sl 5 1 (a1l l)] [v] f := by
 obtain ⟨a, n, c, rfl⟩ := okWide_slice hu hv
 obtain ⟨fuel, hf⟩ := h
 obtain ⟨ds, f, h1, h2⟩ := c7k a0h b7W fuel (t := 22) rfl hf
 obtain ⟨l, rfl⟩ := c3g (fun te ht => by cases ht; rfl) h2
 exact ⟨l, f, h1⟩
end
end Vx
end Go.Proofs.YtokdjnbcdokpjaaGreatDoor
namespace Go.Proofs.YtokdjnbcdokpjaaGreatDoor
namespace Vx
open Go.ChangeShapes Go.WideShapes Go.ChangeAt Go.RowKit
theorem b5K : laidOutB Tryz.pinned.checked.prog = true := by kernel_rfl
theorem b5N : mapsRowed Tryz.pinned.checked.prog = true := by kernel_rfl
theorem b3i : Tryz.pinned.checked.prog.stopsHeard = true := by kernel_rfl
theorem b3g : Tryz.pinned.checked.prog.mayEnter = true := by kernel_rfl
theorem b5L : Tryz.pinned.checked.prog.liftsFinal = false := by kernel_rfl
theorem b5M : Tryz.pinned.checked.prog.mainIs = some (Rows.fnStatOfCard.stood.harness.1, Rows.fnStatOfCard.stood.harness.2.toList) := by kernel_rfl
theorem b3h : Rows.fnStatOfCard.stood.looks = Tryz.pinned.checked.prog.looks [] := by kernel_rfl
end Vx
end Go.Proofs.YtokdjnbcdokpjaaGreatDoor
namespace Go.Proofs.YtokdjnbcdokpjaaGreatDoor
set_option maxHeartbeats 4000000
namespace Vx
open Go.RowKit
def a7h : Con := .fn 15 (Int × Int × Int) (fun a => [.int .i64 a.1, .int .i64 a.2.1, .int .i64 a.2.2]) (fun _ => True) (fun a => .bool (decide (a.2.1 <= a.1) && decide (a.1 <= a.2.2))) (fun _ => [])
theorem a8x : Has Tryz.prog 72 a7h := by
 refine a0d mixed a0h HasL.nil [0, 1, 2, 6] ((fun a n (_ : Nat) => (fun _ => a0r) a n)) [] Tryz.func72 (by unfold Tryz.f72; rfl) (fun _ => ⟨(), trivial⟩) ?_
 intro a _
 obtain ⟨n, lo, hi⟩ := a
 simp -implicitDefEqProofs [a7h, Con.fn, tTab]
 omega
def a4J : Con := .fn 15 (Int × Int × Int) (fun a => [.int .i64 a.1, .int .i64 a.2.1, .int .i64 a.2.2]) (fun _ => True) (fun a => .bool (decide (a.2.1 <= a.1) && decide (a.1 <= a.2.2))) (fun _ => [])
theorem a3m : Has Tryz.prog 61 a4J := by
 refine a0d mixed a0h HasL.nil [0, 1, 2, 6] ((fun a n (_ : Nat) => (fun _ => a0r) a n)) [] Tryz.func61 (by unfold Tryz.f61; rfl) (fun _ => ⟨(), trivial⟩) ?_
 intro a _
 obtain ⟨n, lo, hi⟩ := a
 simp -implicitDefEqProofs [a4J, Con.fn, tTab]
 omega
def a8y (n : Int) : Bool := (decide (97 <= n) && decide (n <= 122)) || (decide (48 <= n) && decide (n <= 57))
def a8W : Con := .fn 17 Int (fun a => [.int .u8 a]) (fun _ => True) (fun a => .bool (a8y a)) (fun _ => [])
theorem b7b : Has Tryz.prog 122 a8W := by
 refine a0d mixed a0h HasL.nil [0, 2] ((fun a n (_ : Nat) => (fun _ => a0r) a n)) [] Tryz.func122 (by unfold Tryz.f122; rfl) (fun _ => ⟨(), trivial⟩) ?_
 intro a _
 simp -implicitDefEqProofs [a8W, Con.fn, tTab, a8y]
 repeat' (first | intro _ | apply And.intro)
 all_goals first | omega | grind
def a0Q (s : Str) : Bool := decide (1 <= s.length) && decide (s.length <= 6) && s.all fun b => a8y b.toNat
def a5h : Con := .fn 19 Str (fun s => [.str s]) (fun _ => True) (fun s => .bool (a0Q s)) (fun _ => [])
theorem a4U : Has Tryz.prog 71 a5h := by
 refine a0d mixed a0h (HasL.cons a8x (HasL.cons b7b HasL.nil)) [0, 2, 3] ((fun a n (_ : Nat) => (fun s _ => ⟨Nat, fun i => ⟨[(0, true, .str s), (2, true, .bool false), (3, true, .int .i64 i)], []⟩, fun i => i <= s.length /\ 1 <= s.length /\ s.length <= 6 /\ (s.take i).all (fun b => a8y b.toNat) = true, fun i => s.length - i⟩) a n)) [] Tryz.func71 (by unfold Tryz.f71; rfl) (fun _ => ⟨(), trivial⟩) ?_
 intro (s : Str) _
 simp -implicitDefEqProofs [a5h, Con.fn, tTab, a7h, a8W]
 try dsimp only
 try simp +contextual [eStr, a0z, a0M, a0W, a0N, List.getElem?_eq_getElem, a0O, a0F, a0J, a0E, <- a0o, <- a0p, a0v, a0C, a0B, a0A, a0y, a0t, and_assoc]
 repeat' (first | intro _ | apply And.intro)
 all_goals first | omega | grind [a1c, a0Q, List.take_succ_eq_append_getElem]
def a4v : Con := .fn 35 Str (fun s => [.str s]) (fun _ => True) (fun s => .bool (a0Q s)) (fun _ => [])
theorem a4d : Has Tryz.prog 91 a4v := by
 refine a0d mixed a0h (HasL.cons a3m HasL.nil) [0, 2, 3] ((fun a n (_ : Nat) => (fun s _ => ⟨Nat, fun i => ⟨[(0, true, .str s), (2, true, .bool false), (3, true, .int .i64 i)], []⟩, fun i => i <= s.length /\ (s.take i).all (fun b => a8y b.toNat) = true, fun i => s.length - i⟩) a n)) [] Tryz.func91 (by unfold Tryz.f91; rfl) (fun _ => ⟨(), trivial⟩) ?_
 intro (s : Str) _
 simp -implicitDefEqProofs [a4v, Con.fn, tTab, a4J]
 try dsimp only
 try simp +contextual [eStr, a0z, a0M, a0W, a0N, List.getElem?_eq_getElem, a0O, a0F, a0J, a0E, <- a0o, <- a0p, a0v, a0C, a0B, a0A, a0y, a0t, and_assoc]
 repeat' (first | intro _ | apply And.intro)
 all_goals first | omega | grind [a1c, a0Q, a8y, List.take_succ_eq_append_getElem]
def a6D (s : Str) : Bool := decide (s.length <= 12) && s.all fun b => decide (32 <= b.toNat) && decide (b.toNat <= 126)
def b2W : Con := .fn 23 Str (fun s => [.str s]) (fun _ => True) (fun s => .bool (a6D s)) (fun _ => [])
theorem c0d : Has Tryz.prog 117 b2W := by
 refine a0d mixed a0h HasL.nil [0, 2, 3] ((fun a n (_ : Nat) => (fun s _ => ⟨Nat, fun i => ⟨[(0, true, .str s), (2, true, .bool false), (3, true, .int .i64 i)], []⟩, fun i => i <= s.length /\ s.length <= 12 /\ (s.take i).all (fun b => decide (32 <= b.toNat) && decide (b.toNat <= 126)) = true, fun i => s.length - i⟩) a n)) [] Tryz.func117 (by unfold Tryz.f117; rfl) (fun _ => ⟨(), trivial⟩) ?_
 intro (s : Str) _
 simp -implicitDefEqProofs [b2W, Con.fn, tTab]
 try dsimp only
 try simp +contextual [eStr, a0z, a0M, a0W, a0N, List.getElem?_eq_getElem, a0O, a0F, a0J, a0E, <- a0o, <- a0p, a0v, a0C, a0B, a0A, a0y, a0t, and_assoc]
 repeat' (first | intro _ | apply And.intro)
 all_goals first | omega | grind [a1c, a6D, List.take_succ_eq_append_getElem]
def b2Q : Con := .fn 23 Str (fun s => [.str s]) (fun _ => True) (fun s => .bool (a6D s)) (fun _ => [])
theorem b9P : Has Tryz.prog 155 b2Q := by
 refine a0d mixed a0h HasL.nil [0, 2, 3] ((fun a n (_ : Nat) => (fun s _ => ⟨Nat, fun i => ⟨[(0, true, .str s), (2, true, .bool false), (3, true, .int .i64 i)], []⟩, fun i => i <= s.length /\ (s.take i).all (fun b => decide (32 <= b.toNat) && decide (b.toNat <= 126)) = true, fun i => s.length - i⟩) a n)) [] Tryz.func155 (by unfold Tryz.f155; rfl) (fun _ => ⟨(), trivial⟩) ?_
 intro (s : Str) _
 simp -implicitDefEqProofs [b2Q, Con.fn, tTab]
 try dsimp only
 try simp +contextual [eStr, a0z, a0M, a0W, a0N, List.getElem?_eq_getElem, a0O, a0F, a0J, a0E, <- a0o, <- a0p, a0v, a0C, a0B, a0A, a0y, a0t, and_assoc]
 repeat' (first | intro _ | apply And.intro)
 all_goals first | omega | grind [a1c, a6D, List.take_succ_eq_append_getElem]
def a1i (t : List Str) : Bool := decide (t.length <= 10) && t.all a6D
def a7f : Con := .fn 18 (List Str) (fun t => [.sl true 1 (a0a t)]) (fun _ => True) (fun t => .bool (a1i t)) (fun _ => [])
theorem a8v : Has Tryz.prog 66 a7f := by
 refine a0d mixed a0h (HasL.cons c0d HasL.nil) [0, 2, 4, 8, 9, 10] ((fun a n (_ : Nat) => (fun t _ => ⟨Nat, fun i => ⟨[(2, true, .bool false), (8, true, .sl true 1 (a0a t)), (9, true, .int .i64 t.length), (10, true, .int .i64 i)], []⟩, fun i => i <= t.length /\ t.length <= 10 /\ (t.take i).all a6D = true, fun i => t.length - i⟩) a n)) [] Tryz.func66 (by unfold Tryz.f66; rfl) (fun _ => ⟨(), trivial⟩) ?_
 intro (t : List Str) _
 simp -implicitDefEqProofs [a7f, Con.fn, tTab, b2W]
 try dsimp only
 try simp +contextual [eStr, a0z, a0M, a0W, a0N, List.getElem?_eq_getElem, a0O, a0F, a0J, a0E, <- a0o, <- a0p, a0v, a0C, a0B, a0A, a0y, a0t, and_assoc]
 repeat' (first | intro _ | apply And.intro)
 all_goals first | omega | grind [a1c, a1i, List.take_succ_eq_append_getElem]
def b1D : Con := .fn 19 (List Str) (fun t => [.sl true 1 (a0a t)]) (fun _ => True) (fun t => .bool (a1i t)) (fun _ => [])
theorem b1b : Has Tryz.prog 119 b1D := by
 refine a0d mixed a0h (HasL.cons b9P HasL.nil) [0, 2, 3] ((fun a n (_ : Nat) => (fun t _ => ⟨Nat, fun i => ⟨[(0, true, .sl true 1 (a0a t)), (2, true, .bool false), (3, true, .int .i64 i)], []⟩, fun i => i <= t.length /\ (t.take i).all a6D = true, fun i => t.length - i⟩) a n)) [] Tryz.func119 (by unfold Tryz.f119; rfl) (fun _ => ⟨(), trivial⟩) ?_
 intro (t : List Str) _
 simp -implicitDefEqProofs [b1D, Con.fn, tTab, b2Q]
 try dsimp only
 try simp +contextual [eStr, a0z, a0M, a0W, a0N, List.getElem?_eq_getElem, a0O, a0F, a0J, a0E, <- a0o, <- a0p, a0v, a0C, a0B, a0A, a0y, a0t, and_assoc]
 repeat' (first | intro _ | apply And.intro)
 all_goals first | omega | grind [a1c, a1i, List.take_succ_eq_append_getElem]
abbrev a2h (h : Nat) (a : List Str) : List (Nat × Blk) := [(h, .own 9 1 true (a0a a))]
abbrev a3r (h : Nat) (a : List FileD) : List (Nat × Blk) := [(h, .own 39 2 true (a0b a))]


def a5Q (p s : Str) : Bool := decide (p.length <= s.length) && decide (s.take p.length = p)
def a6f : Con := .fn 18 (Str × Str) (fun a => [.str a.1, .str a.2]) (fun _ => True) (fun a => .bool (a5Q a.2 a.1)) (fun _ => [])
theorem b2A : Has Tryz.prog 184 a6f := by
 refine a0d mixed a0h HasL.nil [0, 1, 4] ((fun a n (_ : Nat) => (fun _ => a0r) a n)) [] Tryz.func184 (by unfold Tryz.f184; rfl) (fun _ => ⟨(), trivial⟩) ?_
 intro a _
 obtain ⟨s, p⟩ := a
 simp -implicitDefEqProofs [a6f, Con.fn, tTab, a5Q]
 try dsimp only
 try simp +contextual [eStr, a0z, a0M, a0W, a0N, List.getElem?_eq_getElem, a0O, a0F, a0J, a0E, <- a0o, <- a0p, a0v, a0C, a0B, a0A, a0y, a0t, and_assoc]
 repeat' (first | intro _ | apply And.intro)
 all_goals first | omega | grind [a1c]
def a7L : Con := .fn 8 (Str × Str) (fun a => [.str a.1, .str a.2]) (fun _ => True) (fun a => .bool (a5Q a.2 a.1)) (fun _ => [])
theorem b4q : Has Tryz.prog 153 a7L := by
 refine a0d mixed a0h (HasL.cons b2A HasL.nil) [0, 1, 4] ((fun a n (_ : Nat) => (fun _ => a0r) a n)) [] Tryz.func153 (by unfold Tryz.f153; rfl) (fun _ => ⟨(), trivial⟩) ?_
 intro a _
 obtain ⟨s, p⟩ := a
 simp -implicitDefEqProofs [a7L, Con.fn, tTab, a6f]
 try dsimp only
 try simp +contextual [eStr, a0z, a0M, a0W, a0N, List.getElem?_eq_getElem, a0O, a0F, a0J, a0E, <- a0o, <- a0p, a0v, a0C, a0B, a0A, a0y, a0t, and_assoc]
 repeat' (first | intro _ | apply And.intro)
 all_goals first | omega | grind [a1c]
def inB (d p : Str) : Bool := decide (d.length < p.length) && decide (p.take d.length = d) && decide (p.getD d.length 0 = 47)
theorem c0K (a : UInt8) : ((a.toNat : Int) = 47) = (a = 47) := by
 apply propext
 constructor
 ·intro h
  have : a.toNat = 47 := by omega
  exact UInt8.toNat_inj.1 (by simpa using this)
 ·rintro rfl; rfl
def b1F : Con := .fn 25 (Str × Str) (fun a => [.str a.1, .str a.2]) (fun _ => True) (fun a => .bool (inB a.1 a.2)) (fun _ => [])
theorem b1c : Has Tryz.prog 120 b1F := by
 refine a0d mixed a0h HasL.nil [0, 1, 4] ((fun a n (_ : Nat) => (fun _ => a0r) a n)) [] Tryz.func120 (by unfold Tryz.f120; rfl) (fun _ => ⟨(), trivial⟩) ?_
 intro a _
 obtain ⟨d, p⟩ := a
 simp -implicitDefEqProofs [b1F, Con.fn, tTab, inB, c0K]
 try dsimp only
 try simp +contextual [eStr, a0z, a0M, a0W, a0N, List.getElem?_eq_getElem, a0O, a0F, a0J, a0E, <- a0o, <- a0p, a0v, a0C, a0B, a0A, a0y, a0t, and_assoc, c0K]
 repeat' (first | intro _ | apply And.intro)
 all_goals first | omega | grind [a1c, c0K]
def cutL (b : Int) (most : Nat) : Str -> Str -> Nat -> List Str
 | [], c, _ => [c]
 | x :: r, c, n => if n < most then (if (x.toNat : Int) = b then c :: cutL b most r [] (n + 1) else cutL b most r (c ++ [x]) n) else [c ++ x :: r]
theorem c1z {b : Int} {most : Nat} {r c : Str} {n : Nat} (h : most <= n) : cutL b most r c n = [c ++ r] := by
 cases r with
 | nil => simp [cutL]
 | cons x r => simp [cutL, Nat.not_lt.2 h]
def a1J (s : Str) (fr i : Nat) : Str := (s.drop fr).take (i - fr)
theorem c2K {s : Str} {fr i : Nat} (h : fr <= i) : a1J s fr i ++ s.drop i = s.drop fr := by
 unfold a1J
 have : s.drop i = (s.drop fr).drop (i - fr) := by rw [List.drop_drop]; congr 1; omega
 rw [this, List.take_append_drop]
theorem c2L {s : Str} {fr i : Nat} (h : s.length <= i) (hf : fr <= i) : a1J s fr i = s.drop fr := by
 unfold a1J
 exact List.take_of_length_le (by rw [List.length_drop]; omega)
theorem c0s {s : Str} {fr : Nat} : a1J s fr fr = [] := by simp [a1J]
theorem c0r {s : Str} {fr i : Nat} (h : i < s.length) (hf : fr <= i) : a1J s fr (i + 1) = a1J s fr i ++ [s[i]] := by
 unfold a1J
 rw [show i + 1 - fr = (i - fr) + 1 by omega, List.take_succ_eq_append_getElem (by rw [List.length_drop]; omega)]
 congr 2
 rw [List.getElem_drop]
 congr 1
 omega
theorem c4f {b : Int} {most : Nat} {s : Str} {fr i n : Nat} (h : i < s.length) (hf : fr <= i) (hn : n < most) :
  cutL b most (s.drop i) (a1J s fr i) n = if (s[i].toNat : Int) = b then a1J s fr i :: cutL b most (s.drop (i + 1)) (a1J s (i + 1) (i + 1)) (n + 1) else cutL b most (s.drop (i + 1)) (a1J s fr (i + 1)) n := by
 rw [List.drop_eq_getElem_cons h, c0s, c0r h hf]
 simp [cutL, hn]
theorem c6C {b : Int} {most : Nat} {s : Str} {fr i n : Nat} (h : s.length <= i) (hf : fr <= i) : cutL b most (s.drop i) (a1J s fr i) n = [s.drop fr] := by
 rw [List.drop_eq_nil_of_le h, <- c2L h hf]; rfl
theorem c4e {b : Int} {most : Nat} {s : Str} {fr i n : Nat} (h : most <= n) (hf : fr <= i) : cutL b most (s.drop i) (a1J s fr i) n = [s.drop fr] := by
 rw [c1z h, c2K hf]
def cutB (s : Str) (b : Int) (most : Nat) : List Str := cutL b most s [] 0
theorem c5j (s : Str) (fr i : Nat) : (s.drop fr).take (i - fr) = a1J s fr i := rfl
theorem c0q (s : Str) (fr : Nat) : a1J s fr s.length = s.drop fr := by
 unfold a1J
 exact List.take_of_length_le (by rw [List.length_drop]; omega)
def b5r : Con := .fn 43 (Str × Int × Nat) (fun a => [.str a.1, .int .u8 a.2.1, .int .i64 a.2.2]) (fun a => a.2.2 <= 1000000) (fun a => .own 8 1 (a0a (cutB a.1 a.2.1 a.2.2))) (fun a => a2h 8 (cutB a.1 a.2.1 a.2.2))
theorem c2f : Has Tryz.prog 154 b5r := by
 refine a0d mixed a0h HasL.nil [0, 1, 2, 6, 7, 8, 9] ((fun a n (_ : Nat) => (fun a _ => ⟨List Str × Nat × Nat, fun t => ⟨[(0, true, .str a.1), (1, true, .int .u8 a.2.1), (2, true, .int .i64 a.2.2), (6, true, .nil), (7, true, .own 9 1 (a0a t.1)), (8, true, .int .i64 t.2.1), (9, true, .int .i64 t.2.2)], a2h 9 t.1⟩, fun t => t.2.1 <= t.2.2 /\ t.2.2 <= a.1.length /\ t.1.length <= a.2.2 /\ t.1 ++ cutL a.2.1 a.2.2 (a.1.drop t.2.2) (a1J a.1 t.2.1 t.2.2) t.1.length = cutB a.1 a.2.1 a.2.2, fun t => a.1.length - t.2.2⟩) a n)) [] Tryz.func154 (by unfold Tryz.f154; rfl) (fun _ => ⟨(), trivial⟩) ?_
 intro a ha
 obtain ⟨s, b, most⟩ := a
 replace ha : most <= 1000000 := ha
 have hs : cutL b most s (a1J s 0 0) 0 = cutB s b most := rfl
 simp -implicitDefEqProofs [b5r, Con.fn, tTab]
 try dsimp only
 try simp +contextual [eStr, a0z, a0M, a0W, a0N, List.getElem?_eq_getElem, a0O, a0F, a0J, a0E, <- a0o, <- a0p, a0v, a0C, a0B, a0A, a0y, a0t, and_assoc, c5j, c0q]
 repeat' (first | intro _ | apply And.intro)
 all_goals first | omega | grind [a1c, c4f, c6C, c4e]
theorem b9o (a : Nat) : ((a : Int) = 3) = (a = 3) := by apply propext; omega
def a2Q (s : Str) : Bool := (cutB s 47 3).all a0Q && decide ((cutB s 47 3).length <= 3)
def a7c : Con := .fn 22 Str (fun s => [.str s]) (fun _ => True) (fun s => .bool (a2Q s)) (fun _ => [])
theorem a8d : Has Tryz.prog 118 a7c := by
 refine a0d mixed a0h (HasL.cons c2f (HasL.cons a4d HasL.nil)) [0, 2, 3, 4] ((fun a n (_ : Nat) => (fun s _ => ⟨Nat, fun i => ⟨[(2, true, .bool false), (3, true, .own 9 1 (a0a (cutB s 47 3))), (4, true, .int .i64 i)], a2h 9 (cutB s 47 3)⟩, fun i => i <= (cutB s 47 3).length /\ ((cutB s 47 3).take i).all a0Q = true, fun i => (cutB s 47 3).length - i⟩) a n)) [] Tryz.func118 (by unfold Tryz.f118; rfl) (fun _ => ⟨(), trivial⟩) ?_
 intro (s : Str) _
 simp -implicitDefEqProofs [a7c, Con.fn, tTab, b5r, a4v]
 try dsimp only
 try simp +contextual [eStr, a0z, a0M, a0W, a0N, List.getElem?_eq_getElem, a0O, a0F, a0J, a0E, <- a0o, <- a0p, a0v, a0C, a0B, a0A, a0y, a0t, and_assoc, b9o]
 repeat' (first | intro _ | apply And.intro)
 all_goals first | omega | grind [a1c, a2Q, List.take_succ_eq_append_getElem]
def leqS (a b : Str) : Bool := Go.Op.bytesLess a b || decide (a = b)
def a3B (t : List FileD) (i : Nat) : Bool := a2Q (t.getD i default).path && a1i (t.getD i default).text && (decide (i = 0) || !leqS (t.getD i default).path (t.getD (i - 1) default).path)
def noIn (t : List FileD) (i : Nat) : Bool := t.all fun g => !inB (t.getD i default).path g.path
def a0S (t : List FileD) : Bool := (List.range t.length).all (fun i => a3B t i && noIn t i) && decide (t.length <= 8)
def a7N : Con := .fn 65 (List FileD) (fun t => [.sl true 2 (a0b t)]) (fun _ => True) (fun t => .bool (a0S t)) (fun _ => [])
def b9T (t : List FileD) : Inv := ⟨Nat, fun i => ⟨[(0, true, .sl true 2 (a0b t)), (2, true, .bool false), (3, true, .int .i64 i)], []⟩, fun i => i <= t.length /\ ∀ j, j < i -> a3B t j = true /\ noIn t j = true, fun i => t.length - i⟩
def b9S (t : List FileD) (g : Nat) : Inv := ⟨Nat, fun k => ⟨[(0, true, .sl true 2 (a0b t)), (2, true, .bool false), (3, true, .int .i64 g), (4, true, .int .i64 k)], []⟩, fun x => g < t.length /\ x <= t.length /\ (∀ j, j < g -> a3B t j = true /\ noIn t j = true) /\ a3B t g = true /\ ∀ k, k < x -> inB (t.getD g default).path (t.getD k default).path = false, fun x => t.length - x⟩
def b3n (t : List FileD) (n g : Nat) : Inv := if n = 2 then b9T t else b9S t g
theorem c2j (t : List FileD) (g : Nat) : b3n t 2 g = b9T t := rfl
theorem c2k (t : List FileD) (g : Nat) : b3n t 7 g = b9S t g := rfl
set_option maxRecDepth 8000
theorem a6p : Has Tryz.prog 67 a7N := by
 refine a0d mixed a0h (HasL.cons a8d (HasL.cons b1b (HasL.cons b1c (HasL.cons a3m HasL.nil)))) [0, 2, 3, 4] (fun t => b3n t) [] Tryz.func67 (by unfold Tryz.f67; rfl) (fun _ => ⟨(), trivial⟩) ?_
 intro (t : List FileD) _
 have hs : ∀ i, t.length <= i -> ¬ i < t.length := by omega
 have hE : a0S t = true ↔ (∀ i, i < t.length -> a3B t i = true /\ noIn t i = true) /\ t.length <= 8 := by
  simp [a0S]
 have hF : ∀ i, i < t.length -> (a3B t i && noIn t i) = false -> a0S t = false := by
  intro i hi h
  rcases hb : a0S t with _ | _
  ·rfl
  ·exact absurd ((hE.1 hb).1 i hi) (by simpa using h)
 have hH : ∀ i, i < t.length -> a3B t i = false -> a0S t = false := fun i hi h => hF i hi (by simp [h])
 have hN : ∀ i k, i < t.length -> k < t.length -> inB (t.getD i default).path (t.getD k default).path = true -> a0S t = false := by
  intro i k hi hk h
  refine hF i hi ?_
  have : noIn t i = false := by
   simp only [noIn, List.all_eq_false]
   exact ⟨t[k], List.getElem_mem hk, by simp [List.getD_eq_getElem?_getD, hk] at h ⊢; simpa [hk] using h⟩
  simp [this]
 have hI : ∀ i, (∀ k, k < t.length -> inB (t.getD i default).path (t.getD k default).path = false) -> noIn t i = true := by
  intro i h
  simp only [noIn, List.all_eq_true]
  intro g hg
  obtain ⟨k, hk, rfl⟩ := List.getElem_of_mem hg
  have := h k hk
  simpa [List.getD_eq_getElem?_getD, hk] using this
 simp -implicitDefEqProofs [a7N, Con.fn, tTab, a7c, b1D, b1F, a4J, c2j, c2k, b9T, b9S]
 try dsimp only
 intro i hi hj hl
 have e1 : ∀ k (h : k < t.length), Option.map a0z t[k]? = some (a0z t[k]) := by
  intro k h
  simp [List.getElem?_eq_getElem h]
 have e2 : i < t.length -> i - 1 < t.length := by omega
 constructor
 ·intro hlt
  have e3 := e1 i hlt
  have e4 := e1 (i - 1) (e2 hlt)
  simp [hlt, e2 hlt, e3, e4, a0z, eStr, D.asStr, D.asRows]
  try simp +contextual [eStr, a0z, a0M, a0W, a0N, List.getElem?_eq_getElem, a0O, a0F, a0J, a0E, <- a0o, <- a0p, a0v, a0C, a0B, a0A, a0y, a0t, and_assoc]
  repeat' (first | intro _ | apply And.intro)
  all_goals first | omega | grind [a1c, a3B, leqS]
 ·have hX : t.length <= i -> a0S t = decide (t.length <= 8) := by
   intro h
   have : a0S t = true ↔ t.length <= 8 := by
    rw [hE]
    exact ⟨fun h => h.2, fun h8 => ⟨fun j hj' => hj j (by omega), h8⟩⟩
   cases h' : a0S t <;> simp_all
  try simp +contextual [eStr, a0z, a0M, a0W, a0N, List.getElem?_eq_getElem, a0O, a0F, a0J, a0E, <- a0o, <- a0p, a0v, a0C, a0B, a0A, a0y, a0t, and_assoc]
  repeat' (first | intro _ | apply And.intro)
  all_goals first | omega | grind [a1c, a3B, leqS]
theorem a4n (t : List FileD) (h : a0S t = true) : t.length <= 8 /\ ∀ f ∈ t, f.text.length <= 64 := by
 simp only [a0S, Bool.and_eq_true, decide_eq_true_eq, List.all_eq_true, List.mem_range, a3B] at h
 refine ⟨h.2, fun f hf => ?_⟩
 obtain ⟨i, hi, rfl⟩ := List.getElem_of_mem hf
 have := (h.1 i hi).1.1.2
 simp [List.getD_eq_getElem?_getD, hi, a1i] at this
 omega
def scal : AV -> Option Value
 | .int k n => some (.int k n)
 | .bool b => some (.bool b)
 | .str s => some (.string ⟨s.toArray⟩)
 | _ => none
theorem c5A {w m β c v x u} (h : RelL w m β c [v] [u]) (hs : scal v = some x) : u = x := by
 cases v <;> simp only [scal, Option.some.injEq, reduceCtorEq] at hs
 all_goals cases h; exact hs
theorem c3d {w m β c} : ∀ {vs : List AV} {us xs : List Value}, RelL w m β c vs us -> vs.mapM scal = some xs -> us = xs := by
 intro vs
 induction vs with
 | nil => intro us xs h hm; cases h; simp at hm; exact hm.symm
 | cons v vs ih =>
  intro us xs h hm
  obtain ⟨u, us', rfl, h1, h2⟩ := h.uncons
  rw [List.mapM_cons] at hm
  cases hv : scal v with
  | none => rw [hv] at hm; simp at hm
  | some x =>
   rw [hv] at hm
   cases hvs : vs.mapM scal with
   | none => rw [hvs] at hm; simp at hm
   | some ys =>
    rw [hvs] at hm
    simp at hm
    subst hm
    rw [c5A h1 hv, ih h2 hvs]
theorem c5s {w m β c v x} (hs : scal v = some x) (hok : ∀ s, v = .str s -> s.length <= maxLen) : RelL w m β c [v] [x] := by
 cases v <;> simp only [scal, Option.some.injEq, reduceCtorEq] at hs
 all_goals subst hs
 ·exact .int .lnil
 ·exact .bool .lnil
 ·exact .str (hok _ rfl) .lnil
theorem a6H {c : Cx} {k : Con} {x : k.A} {vs : List Value} {w β fp} (hl : vs.length = (k.args x).length) (S : SatI c (k.start2 x) ⟨vs.toArray ++ Array.replicate (k.n - vs.length) undef, []⟩ w β fp) :
  RelL w (k.start2 x).m β c (k.args x) vs := by
 have key : ∀ (i : Nat) (v : AV) (u : Value), (k.args x)[i]? = some v -> vs[i]? = some u -> RelL w (k.start2 x).m β c [v] [u] := by
  intro i v u hv hu
  have := (S.env i true v (by simp [Con.start2, hv])).2.1 rfl
  have hi : i < vs.length := (List.getElem?_eq_some_iff.1 hu).1
  have e : (vs.toArray ++ Array.replicate (k.n - vs.length) undef).getD i undef = u := by
   rw [Array.getD_eq_getD_getElem?, Array.getElem?_append_left (by simpa using hi)]
   simp [hu]
  rw [e] at this
  exact this
 clear S
 generalize k.args x = xs at hl key
 induction xs generalizing vs with
 | nil => cases vs with | nil => exact .lnil | cons => simp at hl
 | cons v xs ih =>
  cases vs with
  | nil => simp at hl
  | cons u vs =>
   exact (key 0 v u rfl rfl).append (ih (by simpa using hl) fun i v' u' h1 h2 => key (i + 1) v' u' h1 h2)
theorem b5R {P : Program} {f : Nat} {n : Nat} {A : Type} {args : A -> List AV} {pre : A -> Prop} {res : A -> AV} {rv : A -> Value}
  (henter : ∀ args w, (callFunc f args).run P w = .ok (.enter f args) w) (hres : ∀ a, scal (res a) = some (rv a)) (hstr : ∀ a s, pre a -> res a = .str s -> s.length <= maxLen)
  (h : ∀ a vs w, pre a -> (args a).mapM scal = some vs -> Calls P f vs.toArray w fun e w' => e = .returned (rv a) /\ w' = w) (hsc : ∀ a, ∃ vs, (args a).mapM scal = some vs) :
  Has P f (.fn n A args pre res (fun _ => [])) := by
 refine ⟨henter, fun _ => ⟨(), trivial⟩, fun _ _ => rfl, ?_, trivial, .inl rfl⟩
 intro a hp c _ vs β fp hcn hpins hl1 hl2 S
 obtain ⟨us, hus⟩ := hsc a
 have hvs : vs = us := c3d (a6H hl1 S) hus
 subst hvs
 refine (h a vs c.w0 hp hus).mono ?_
 rintro e w' ⟨rfl, rfl⟩
 refine ⟨(), trivial, rv a, rfl, β, fp, ⟨Array.replicate c.n undef, []⟩, ⟨?_, ?_, ?_, ?_, ?_, S.fg, S.old, S.os, S.tape, S.output, S.size, rfl, by simp, ?_⟩, ?_⟩
 ·intro t g av ht; cases ht
 ·intro h blk hm; cases hm
 ·intro h blk hm; cases hm
 ·intro h h' blk blk' hm; cases hm
 ·intro h blk hm; cases hm
 ·rw [hpins]; intro p hp; simp [Con.pins2] at hp
 ·exact c5s (hres a) (fun s hs => hstr a s hp hs)
set_option maxHeartbeats 1000000 in
set_option maxRecDepth 100000 in
theorem b3k (s : ByteArray) (c : Int) (w : World) :
  Calls Tryz.prog 234 #[.string s, .int .u8 c] w fun e w' => e = .returned (.int .i64 (Lib.indexByte s.data.toList c.toNat.toUInt8)) /\ w' = w := by
 go_enter Tryz.func234, Tryz.ntmps234
 go_wp2
 rw [run_callFunc_extern Tryz.func238 (by kernel_rfl) (by kernel_rfl) (by kernel_rfl) (e := Extern.BytealgIndexByte.indexByte) (by kernel_rfl), Lib.run_indexByteString]
 simp only [Result.andThen]
 rw [Oper.upon_value]
 go_wp2
 go_ret
 exact ⟨rfl, rfl⟩
set_option maxHeartbeats 2000000 in
set_option maxRecDepth 100000 in
theorem b4r (s : ByteArray) (c : UInt8) (w : World) :
  Calls Tryz.prog 223 #[.string s, .string ⟨#[c]⟩] w fun e w' => e = .returned (.int .i64 (Lib.indexByte s.data.toList c)) /\ w' = w := by
 go_enter Tryz.func223, Tryz.ntmps223
 go_wp2_with (go_at_call 234; refine (b3k _ _ _).mono ?_; rintro e w' ⟨rfl, rfl⟩)
 ·have h : ([c] == s.toList) = true := by assumption
  go_ret
  refine ⟨?_, rfl⟩
  have e : s.data.toList = [c] := by rw [<- Lib.toList_data]; exact (beq_iff_eq.1 h).symm
  rw [e]
  simp [Lib.indexByte]
 ·go_ret
  exact ⟨rfl, rfl⟩
set_option maxHeartbeats 2000000 in
set_option maxRecDepth 100000 in
theorem a8t (s : ByteArray) (c : UInt8) (w : World) :
  Calls Tryz.prog 203 #[.string s, .string ⟨#[c]⟩] w fun e w' => e = .returned (.int .i64 (Lib.indexByte s.data.toList c)) /\ w' = w := by
 go_enter Tryz.func203, Tryz.ntmps203
 go_wp2_with (go_at_call 223; refine (b4r _ _ _).mono ?_; rintro e w' ⟨rfl, rfl⟩)
 go_ret
 exact ⟨rfl, rfl⟩
set_option maxHeartbeats 1000000 in
set_option maxRecDepth 100000 in
theorem b4o (s : ByteArray) (c : UInt8) (w : World) :
  Calls Tryz.prog 202 #[.string s, .string ⟨#[c]⟩] w fun e w' => e = .returned (.int .i64 (Lib.countByte s.data.toList c)) /\ w' = w := by
 go_enter Tryz.func202, Tryz.ntmps202
 go_wp2
 rw [run_callFunc_extern Tryz.func222 (by kernel_rfl) (by kernel_rfl) (by kernel_rfl) (e := Extern.BytealgCount.count) (by kernel_rfl), Lib.run_countString]
 simp only [Result.andThen]
 rw [Oper.upon_value]
 go_wp2
 go_ret
 exact ⟨rfl, rfl⟩
def idxB : Str -> UInt8 -> Int
 | [], _ => -1
 | b :: l, c => if b = c then 0 else if idxB l c < 0 then -1 else idxB l c + 1
theorem c4n (s : Str) (c : UInt8) : Lib.indexByte s c = idxB s c := by
 induction s with
 | nil => rfl
 | cons b l ih =>
  have hge := Lib.indexByte_ge l c
  simp only [Lib.indexByte, idxB, ih] at hge ⊢
  by_cases hb : b = c
  ·simp [hb]
  ·simp only [beq_iff_eq, hb, if_false]
   by_cases h : idxB l c < 0
   ·rw [if_pos h, if_pos (by omega)]
   ·rw [if_neg h, if_neg (by omega)]
def a8A : Con := .fn 8 (Str × UInt8) (fun a => [.str a.1, .str [a.2]]) (fun _ => True) (fun a => .int .i64 (idxB a.1 a.2)) (fun _ => [])
theorem b1p : Has Tryz.prog 203 a8A :=
 b5R (rv := fun a => .int .i64 (idxB a.1 a.2)) (fun args w => Go.MuLone.run_callFunc_enter Tryz.func203 (by kernel_rfl) rfl args w) (fun _ => rfl) (fun a s _ h => by cases h)
  (fun a vs w _ hv => by
   obtain ⟨s, c⟩ := a
   simp [scal] at hv
   subst hv
   have := a8t ⟨s.toArray⟩ c w
   simpa [c4n] using this) (fun a => ⟨_, rfl⟩)
def a8z : Con := .fn 34 (Str × UInt8) (fun a => [.str a.1, .str [a.2]]) (fun _ => True) (fun a => .int .i64 (a.1.count a.2)) (fun _ => [])
theorem b1o : Has Tryz.prog 202 a8z :=
 b5R (rv := fun a => .int .i64 (a.1.count a.2)) (fun args w => Go.MuLone.run_callFunc_enter Tryz.func202 (by kernel_rfl) rfl args w) (fun _ => rfl) (fun a s _ h => by cases h)
  (fun a vs w _ hv => by
   obtain ⟨s, c⟩ := a
   simp [scal] at hv
   subst hv
   have := b4o ⟨s.toArray⟩ c w
   simpa [Lib.countByte] using this) (fun a => ⟨_, rfl⟩)
def spl (c : UInt8) : Str -> Str -> List Str
 | [], p => [p]
 | x :: r, p => if x = c then p :: spl c r [] else spl c r (p ++ [x])
theorem c6J (s : Str) (c : UInt8) : idxB s c < s.length := by
 induction s with
 | nil => simp [idxB]
 | cons b l ih =>
  simp only [idxB, List.length_cons]
  split
  ·omega
  ·split <;> omega
theorem c5H {c : UInt8} : ∀ {s p : Str}, idxB s c < 0 -> spl c s p = [p ++ s] /\ s.count c = 0 := by
 intro s
 induction s with
 | nil => intro p _; simp [spl]
 | cons b l ih =>
  intro p h
  simp only [idxB] at h
  split at h
  ·omega
  ·rename_i hb
   split at h
   ·rename_i hl
    have := ih (p := p ++ [b]) hl
    simp only [spl, if_neg hb]
    refine ⟨by rw [this.1]; simp, ?_⟩
    rw [List.count_cons, this.2]
    simp [hb]
   ·omega
theorem b6L {c : UInt8} : ∀ {s p : Str}, 0 <= idxB s c -> spl c s p = (p ++ s.take (idxB s c).toNat) :: spl c (s.drop ((idxB s c).toNat + 1)) [] /\ s.count c = (s.drop ((idxB s c).toNat + 1)).count c + 1 := by
 intro s
 induction s with
 | nil => intro p h; simp [idxB] at h
 | cons b l ih =>
  intro p h
  by_cases hb : b = c
  ·subst hb
   simp [idxB, spl]
  ·simp only [idxB, if_neg hb] at h ⊢
   split at h
   ·omega
   ·rename_i hl
    rw [if_neg hl]
    obtain ⟨h1, h2⟩ := ih (p := p ++ [b]) (by omega)
    have e : (idxB l c + 1).toNat = (idxB l c).toNat + 1 := by omega
    rw [e]
    simp only [spl, if_neg hb, List.take_succ_cons, List.drop_succ_cons]
    refine ⟨by rw [h1]; simp, ?_⟩
    rw [List.count_cons, h2]
    simp [hb]
theorem c7A (c : UInt8) : ∀ (s p : Str), (spl c s p).length = s.count c + 1 := by
 intro s
 induction s with
 | nil => intro p; simp [spl]
 | cons b l ih =>
  intro p
  simp only [spl]
  split
  ·rename_i h
   subst h
   simp [ih]
  ·rename_i h
   rw [ih, List.count_cons]
   simp [h]
theorem c7v {α : Type} (d : List α) (k : Nat) (z x : α) (h : 0 < k) : (d ++ List.replicate k z).set d.length x = (d ++ [x]) ++ List.replicate (k - 1) z := by
 obtain ⟨k, rfl⟩ : ∃ j, k = j + 1 := ⟨k - 1, by omega⟩
 rw [List.set_append_right _ _ (Nat.le_refl _)]
 simp [List.replicate_succ]
def a8P : Con := .fn 66 (Str × UInt8) (fun a => [.str a.1, .str [a.2], .int .i64 0, .int .i64 (-1)]) (fun a => a.1.length <= 1073741824) (fun a => .sl false 1 (a0a (spl a.2 a.1 []))) (fun _ => [])
def a2N (N : Nat) (d : List Str) : List Str := d ++ List.replicate (N - d.length) []
theorem c1H (N : Nat) (d : List Str) (h : d.length <= N) : (a2N N d).length = N := by simp [a2N]; omega
theorem a9b (N : Nat) (d : List Str) (x : Str) (h : d.length < N) : (a2N N d).set d.length x = a2N N (d ++ [x]) := by
 unfold a2N
 rw [c7v _ _ _ _ (by omega)]
 simp only [List.length_append, List.length_cons, List.length_nil]
 congr 2
theorem b3M (N : Nat) : a2N N [] = List.replicate N [] := by simp [a2N]
set_option maxRecDepth 8000
theorem b5O : Has Tryz.prog 183 a8P := by
 refine a0d mixed a0h (HasL.cons b1o (HasL.cons b1p HasL.nil)) [0, 1, 2, 3, 8, 9, 10, 11] ((fun a n (_ : Nat) => (fun a _ => ⟨List Str × Str, fun t => ⟨[(0, true, .str t.2), (1, true, .str [a.2]), (2, true, .int .i64 0), (3, true, .int .i64 (a.1.count a.2)), (8, true, .nil), (9, true, .own 9 1 (a0a (a2N (a.1.count a.2 + 1) t.1))), (10, true, .int .i64 t.1.length)], a2h 9 (a2N (a.1.count a.2 + 1) t.1)⟩, fun t => t.1.length + t.2.count a.2 = a.1.count a.2 /\ t.2.length <= a.1.length /\ t.1 ++ spl a.2 t.2 [] = spl a.2 a.1 [], fun t => a.1.count a.2 - t.1.length⟩) a n)) [] Tryz.func183 (by unfold Tryz.f183; rfl) (fun _ => ⟨(), trivial⟩) ?_
 intro a ha
 obtain ⟨s, c⟩ := a
 replace ha : s.length <= 1073741824 := ha
 have hc : s.count c <= s.length := List.count_le_length
 simp -implicitDefEqProofs [a8P, a8z, a8A, Con.fn, tTab]
 try dsimp only
 have hif : ¬ s.length < s.count c := by omega
 have hr : (List.replicate ((s.count c : Int) + 1).toNat [D.str []]) = a0a (a2N (s.count c + 1) []) := by
  rw [show ((s.count c : Int) + 1).toNat = s.count c + 1 by omega, b3M, a0J]
 have K1 : ∀ (a : List Str) (b : Str), a.length + b.count c = s.count c -> a.length < (a2N (s.count c + 1) a).length := fun a b h => by rw [c1H _ _ (by omega)]; omega
 have K2 : ∀ (a : List Str) (b : Str), a.length + b.count c = s.count c -> a ++ spl c b [] = spl c s [] -> (idxB b c < 0 \/ s.count c <= a.length) -> spl c s [] = ((a2N (s.count c + 1) a).set a.length b).take (a.length + 1) := by
  intro a b h1 h2 h3
  have h4 : idxB b c < 0 := by
   rcases h3 with h | h
   ·exact h
   ·refine Classical.byContradiction fun hn => ?_
    have := (b6L (p := []) (Int.not_lt.1 hn)).2
    omega
  have h5 := c5H (p := []) h4
  rw [<- h2, h5.1, a9b _ _ _ (by omega)]
  unfold a2N
  rw [List.take_left' (by simp)]
  rfl
 have K3 : ∀ (b : Str), idxB b c < b.length := fun b => c6J b c
 have K4 : ∀ (a : List Str) (b : Str), a.length + b.count c = s.count c -> b.length <= s.length -> a ++ spl c b [] = spl c s [] -> 0 <= idxB b c ->
   ∃ x, a2N (s.count c + 1) x = (a2N (s.count c + 1) a).set a.length (b.take (idxB b c).toNat) /\ x.length = a.length + 1 /\ (a2N (s.count c + 1) a).set a.length (b.take (idxB b c).toNat) = a2N (s.count c + 1) x /\
    x.length + ((b.drop (idxB b c + 1).toNat).take (b.length - (idxB b c + 1).toNat)).count c = s.count c /\ b.length <= s.length + (idxB b c + 1).toNat /\
    x ++ spl c ((b.drop (idxB b c + 1).toNat).take (b.length - (idxB b c + 1).toNat)) [] = spl c s [] /\ s.count c - x.length < s.count c - a.length := by
  intro a b h1 h2 h3 h4
  obtain ⟨h5, h6⟩ := b6L (p := []) h4
  have e1 : (idxB b c + 1).toNat = (idxB b c).toNat + 1 := by omega
  have e2 : (b.drop (idxB b c + 1).toNat).take (b.length - (idxB b c + 1).toNat) = b.drop ((idxB b c).toNat + 1) := by
   rw [e1]; exact List.take_of_length_le (by simp)
  rw [e2]
  refine ⟨a ++ [b.take (idxB b c).toNat], (a9b _ _ _ (by omega)).symm, by simp, a9b _ _ _ (by omega), by simp; omega, by omega, ?_, by simp; omega⟩
  rw [<- h3, h5]
  simp
 simp +contextual [eStr, a0z, a0M, a0W, a0N, List.getElem?_eq_getElem, a0O, a0F, a0J, a0E, <- a0o, <- a0p, a0v, a0C, a0B, a0A, a0y, a0t, and_assoc, hif, hr]
 repeat' (first | intro _ | apply And.intro)
 all_goals first | omega | grind [b3M] | exact K4 _ _ (by omega) (by omega) (by assumption) (by omega)
def b5w : Con := .fn 8 (Str × UInt8) (fun a => [.str a.1, .str [a.2]]) (fun a => a.1.length <= 1073741824) (fun a => .sl false 1 (a0a (spl a.2 a.1 []))) (fun _ => [])
theorem c3i : Has Tryz.prog 152 b5w := by
 refine a0d mixed a0h (HasL.cons b5O HasL.nil) [0, 1, 4] ((fun a n (_ : Nat) => (fun _ => a0r) a n)) [] Tryz.func152 (by unfold Tryz.f152; rfl) (fun _ => ⟨(), trivial⟩) ?_
 intro a ha
 obtain ⟨s, c⟩ := a
 replace ha : s.length <= 1073741824 := ha
 simp -implicitDefEqProofs [b5w, Con.fn, tTab, a8P]
 try dsimp only
 try simp +contextual [eStr, a0z, a0M, a0W, a0N, List.getElem?_eq_getElem, a0O, a0F, a0J, a0E, <- a0o, <- a0p, a0v, a0C, a0B, a0A, a0y, a0t, and_assoc]
 repeat' (first | intro _ | apply And.intro)
 all_goals first | omega | grind [a1c]
def a5t (s : Str) : Bool := decide ((spl 47 s []).length <= 3) && (spl 47 s []).all a0Q
def a9R : Con := .fn 21 Str (fun s => [.str s]) (fun s => s.length <= 1073741824) (fun s => .bool (a5t s)) (fun _ => [])
theorem b2r : Has Tryz.prog 114 a9R := by
 refine a0d mixed a0h (HasL.cons c3i (HasL.cons a4U HasL.nil)) [0, 2, 3, 5, 11, 12, 13] ((fun a n (_ : Nat) => (fun s _ => ⟨Nat, fun i => ⟨[(2, true, .bool false), (11, true, .sl false 1 (a0a (spl 47 s []))), (12, true, .int .i64 (spl 47 s []).length), (13, true, .int .i64 i)], []⟩, fun i => i <= (spl 47 s []).length /\ (spl 47 s []).length <= 3 /\ ((spl 47 s []).take i).all a0Q = true, fun i => (spl 47 s []).length - i⟩) a n)) [] Tryz.func114 (by unfold Tryz.f114; rfl) (fun _ => ⟨(), trivial⟩) ?_
 intro (s : Str) hs
 replace hs : s.length <= 1073741824 := hs
 simp -implicitDefEqProofs [a9R, Con.fn, tTab, b5w, a5h]
 try dsimp only
 try simp +contextual [eStr, a0z, a0M, a0W, a0N, List.getElem?_eq_getElem, a0O, a0F, a0J, a0E, <- a0o, <- a0p, a0v, a0C, a0B, a0A, a0y, a0t, and_assoc]
 repeat' (first | intro _ | apply And.intro)
 all_goals first | omega | grind [a1c, a5t, List.take_succ_eq_append_getElem]
set_option maxRecDepth 8000
def a4z (d p : Str) : Bool := a5t d && a5t p && a5Q (d ++ [47]) p
def b2Z : Con := .fn 17 (Str × Str) (fun a => [.str a.1, .str a.2]) (fun a => a.1.length <= 536870912 /\ a.2.length <= 536870912) (fun a => .bool (a4z a.1 a.2)) (fun _ => [])
theorem c0n : Has Tryz.prog 115 b2Z := by
 refine a0d mixed a0h (HasL.cons b2r (HasL.cons b4q HasL.nil)) [0, 1, 4] ((fun a n (_ : Nat) => (fun _ => a0r) a n)) [] Tryz.func115 (by unfold Tryz.f115; rfl) (fun _ => ⟨(), trivial⟩) ?_
 intro a ha
 obtain ⟨d, p⟩ := a
 obtain ⟨h1, h2⟩ : d.length <= 536870912 /\ p.length <= 536870912 := ha
 simp -implicitDefEqProofs [b2Z, Con.fn, tTab, a9R, a7L]
 try dsimp only
 try simp +contextual [eStr, a0z, a0M, a0W, a0N, List.getElem?_eq_getElem, a0O, a0F, a0J, a0E, <- a0o, <- a0p, a0v, a0C, a0B, a0A, a0y, a0t, and_assoc]
 repeat' (first | intro _ | apply And.intro)
 all_goals first | omega | grind [a1c, a4z, maxLen]
def a2F (t : List FileD) (i : Nat) : Bool := a1i (t.getD i default).text && a5t (t.getD i default).path && (decide (i = 0) || Go.Op.bytesLess (t.getD (i - 1) default).path (t.getD i default).path)
def noUp (t : List FileD) (i : Nat) : Bool := (List.range i).all fun k => !a4z (t.getD k default).path (t.getD i default).path
def a0s (t : List FileD) : Bool := decide (t.length <= 8) && (List.range t.length).all fun i => a2F t i && noUp t i
def a5U : Con := .fn 57 (List FileD) (fun t => [.sl true 2 (a0b t)]) (fun t => ∀ f ∈ t, f.path.length <= 536870912) (fun t => .bool (a0s t)) (fun _ => [])
def tiO (t : List FileD) : Inv := ⟨Nat, fun i => ⟨[(0, true, .sl true 2 (a0b t)), (2, true, .bool false), (10, true, .sl true 2 (a0b t)), (11, true, .int .i64 t.length), (12, true, .int .i64 i)], []⟩, fun i => i <= t.length /\ t.length <= 8 /\ ∀ j, j < i -> a2F t j = true /\ noUp t j = true, fun i => t.length - i⟩
def tiI (t : List FileD) (g : Nat) : Inv := ⟨Nat, fun k => ⟨[(0, true, .sl true 2 (a0b t)), (2, true, .bool false), (3, true, .int .i64 g), (4, true, .ptr 10 0), (10, true, .sl true 2 (a0b t)), (11, true, .int .i64 t.length), (12, true, .int .i64 g), (44, true, .sl true 2 (a0b (t.take g))), (45, true, .int .i64 g), (46, true, .int .i64 k)],
  [(10, .box 39 [.str (t.getD g default).path, .sl true 1 (a0a (t.getD g default).text)])]⟩, fun x => g < t.length /\ x <= g /\ t.length <= 8 /\ (∀ j, j < g -> a2F t j = true /\ noUp t j = true) /\ a2F t g = true /\ ∀ k, k < x -> a4z (t.getD k default).path (t.getD g default).path = false, fun x => g - x⟩
def c0J (t : List FileD) (n g : Nat) : Inv := if n = 4 then tiO t else tiI t g
theorem c7D (t : List FileD) (g : Nat) : c0J t 4 g = tiO t := rfl
theorem c7E (t : List FileD) (g : Nat) : c0J t 9 g = tiI t g := rfl
theorem a5S : Has Tryz.prog 64 a5U := by
 refine a0d mixed a0h (HasL.cons a8v (HasL.cons b2r (HasL.cons c0n HasL.nil))) [0, 2, 3, 4, 6, 10, 11, 12, 44, 45, 46] (fun t => c0J t) [] Tryz.func64 (by unfold Tryz.f64; rfl) (fun _ => ⟨(), trivial⟩) ?_
 intro (t : List FileD) ht
 replace ht : ∀ f ∈ t, f.path.length <= 536870912 := ht
 have hp : ∀ i (h : i < t.length), (t[i]).path.length <= 536870912 := fun i h => ht _ (List.getElem_mem h)
 simp -implicitDefEqProofs [a5U, Con.fn, tTab, a7f, a9R, b2Z, c7D, c7E, tiO, tiI]
 try dsimp only
 have hE : a0s t = true ↔ t.length <= 8 /\ ∀ i, i < t.length -> a2F t i = true /\ noUp t i = true := by
  simp [a0s]
 have hF : ∀ i, i < t.length -> (a2F t i && noUp t i) = false -> a0s t = false := by
  intro i hi h
  rcases hb : a0s t with _ | _
  ·rfl
  ·exact absurd ((hE.1 hb).2 i hi) (by simpa using h)
 have hH : ∀ i, i < t.length -> a2F t i = false -> a0s t = false := fun i hi h => hF i hi (by simp [h])
 have hN : ∀ i k, i < t.length -> k < i -> a4z (t.getD k default).path (t.getD i default).path = true -> a0s t = false := by
  intro i k hi hk h
  refine hF i hi ?_
  have : noUp t i = false := by
   simp only [noUp, List.all_eq_false]
   exact ⟨k, List.mem_range.2 hk, by simpa using h⟩
  simp [this]
 have hI : ∀ i, (∀ k, k < i -> a4z (t.getD k default).path (t.getD i default).path = false) -> noUp t i = true := by
  intro i h
  simp only [noUp, List.all_eq_true, List.mem_range]
  intro k hk
  simp only [h k hk, Bool.not_false]
 have hB : 8 < t.length -> a0s t = false := by
  intro h
  rcases hb : a0s t with _ | _
  ·rfl
  ·exact absurd (hE.1 hb).1 (by omega)
 have e1 : ∀ k (h : k < t.length), Option.map a0z t[k]? = some (a0z t[k]) := fun k h => by simp [List.getElem?_eq_getElem h]
 have e2 : ∀ i, i < t.length -> i - 1 < t.length := fun i h => by omega
 have e4 : ∀ i k (h : k < i) (h2 : i < t.length), Option.map a0z (List.take i t)[k]? = some (a0z t[k]) := fun i k h h2 => by
  rw [List.getElem?_take, if_pos h]; exact e1 k (by omega)
 have hg : ∀ i (h : i < t.length), t.getD i default = t[i] := fun i h => by simp [List.getD_eq_getElem?_getD, h]
 intro _
 refine ⟨fun h => hB (by omega), fun h8 _ => ⟨by omega, fun i hi h8' hprev => ⟨fun hlt => ?_, fun hge => ?_⟩⟩⟩
 ·have e3 := e1 i hlt
  have e3' := e1 (i - 1) (e2 i hlt)
  have hpi := hp i hlt
  have hgi := hg i hlt
  have hgi' := hg (i - 1) (e2 i hlt)
  have hh : a2F t i = (a1i t[i].text && a5t t[i].path && (decide (i = 0) || Go.Op.bytesLess t[i - 1].path t[i].path)) := by simp only [a2F, hgi, hgi']
  have hm : min i t.length = i := by omega
  have hgg : t[i]?.getD default = t[i] := by simpa [List.getD_eq_getElem?_getD] using hgi
  simp [hlt, e2 i hlt, e3, e3', a0z, eStr, D.asStr, D.asRows, hm, a0W, and_assoc, hgg]
  try simp +contextual [eStr, a0z, a0M, a0W, a0N, List.getElem?_eq_getElem, a0O, a0F, a0J, a0E, <- a0o, <- a0p, a0v, a0C, a0B, a0A, a0y, a0t, and_assoc, e4, hgg, hm, hlt, D.asStr, D.asRows, c3W]
  repeat' (first | intro _ | apply And.intro)
  all_goals first | omega | grind
 ·have hT : a0s t = true := hE.2 ⟨h8', fun j hj => hprev j (by omega)⟩
  simp [hT]
  repeat' (first | intro _ | apply And.intro)
  all_goals first | omega | grind
theorem a8w (t : List FileD) (h : a0s t = true) : t.length <= 8 /\ ∀ f ∈ t, f.text.length <= 64 := by
 simp only [a0s, Bool.and_eq_true, decide_eq_true_eq, List.all_eq_true, List.mem_range, a2F] at h
 refine ⟨h.1, fun f hf => ?_⟩
 obtain ⟨i, hi, rfl⟩ := List.getElem_of_mem hf
 have := (h.2 i hi).1.1.1
 simp [List.getD_eq_getElem?_getD, hi, a1i] at this
 omega
theorem a4e : ∀ (x y : Str), Go.Op.bytesLess x y = decide (x < y)
 | [], [] => by simp [Go.Op.bytesLess]
 | _ :: _, [] => by simp [Go.Op.bytesLess]
 | [], _ :: _ => by simp [Go.Op.bytesLess]
 | a :: x, b :: y => by
  rw [Go.Op.bytesLess, a4e x y]
  simp only [List.cons_lt_cons_iff]
  by_cases h1 : a < b <;> by_cases h2 : a = b <;> by_cases h3 : x < y <;> simp [h1, h2, h3]
theorem a3w (a : Str) : ¬ a < a := List.lt_irrefl a
theorem a9A {a b c : Str} (h : a < b) (h' : b < c) : a < c := List.lt_trans h h'
theorem a9z (a b : Str) (h : ¬ a < b) (hne : a ≠ b) : b < a := by
 have h1 : b <= a := List.not_lt.1 h
 exact Classical.byContradiction fun h2 => hne (List.le_antisymm (List.not_lt.1 h2) h1)
theorem a9y {a b : Str} (h : a < b) : ¬ b < a := fun h' => a3w a (a9A h h')
theorem b6i (a b : Str) : leqS a b = !decide (b < a) := by
 unfold leqS
 rw [a4e]
 by_cases h : a < b
 ·simp [h, a9y h]
 ·by_cases e : a = b
  ·subst e; simp [a3w]
  ·simp [h, e, a9z a b h e]
theorem c6E {b : UInt8} {most : Nat} : ∀ {r c : Str} {n : Nat}, n + r.count b <= most -> cutL (b.toNat : Int) most r c n = spl b r c := by
 intro r
 induction r with
 | nil => intro c n _; rfl
 | cons x r ih =>
  intro c n h
  have hx : ((x.toNat : Int) = (b.toNat : Int)) = (x = b) := by
   apply propext
   constructor
   ·intro h; exact UInt8.toNat_inj.1 (by omega)
   ·rintro rfl; rfl
  by_cases hb : x = b
  ·subst hb
   rw [List.count_cons_self] at h
   simp only [cutL, spl, if_true, show n < most by omega]
   rw [ih (by omega)]
  ·rw [List.count_cons_of_ne hb] at h
   simp only [cutL, spl, hx, hb, if_false]
   split
   ·exact ih h
   ·have h0 : r.count b = 0 := by omega
    have : ∀ (q p : Str), q.count b = 0 -> spl b q p = [p ++ q] := by
     intro q
     induction q with
     | nil => intro p _; simp [spl]
     | cons y q ih2 =>
      intro p hq
      have hy : y ≠ b := by rintro rfl; simp at hq
      rw [List.count_cons_of_ne hy] at hq
      simp only [spl, hy, if_false]
      rw [ih2 _ hq]; simp
    rw [this r _ h0]; simp
theorem c6D {b : UInt8} {most : Nat} : ∀ {r c : Str} {n : Nat}, n <= most -> most < n + r.count b -> (cutL (b.toNat : Int) most r c n).length = most - n + 1 := by
 intro r
 induction r with
 | nil => intro c n h1 h2; simp at h2; omega
 | cons x r ih =>
  intro c n h1 h2
  have hx : ((x.toNat : Int) = (b.toNat : Int)) = (x = b) := by
   apply propext
   constructor
   ·intro h; exact UInt8.toNat_inj.1 (by omega)
   ·rintro rfl; rfl
  simp only [cutL, hx]
  split
  ·split
   ·rename_i hb
    subst hb
    rw [List.count_cons_self] at h2
    rw [List.length_cons, ih (by omega) (by omega)]
    omega
   ·rename_i hb
    rw [List.count_cons_of_ne hb] at h2
    rw [ih h1 h2]
  ·simp; omega
theorem c7d (s : Str) : a5t s = a2Q s := by
 unfold a5t a2Q
 by_cases h : s.count 47 <= 3
 ·have : cutB s 47 3 = spl 47 s [] := c6E (b := 47) (most := 3) (by omega)
  rw [this, Bool.and_comm]
 ·have h1 : (cutB s 47 3).length = 4 := c6D (b := 47) (most := 3) (r := s) (c := []) (n := 0) (by omega) (by omega)
  have h2 := c7A 47 s []
  simp [h1, h2, h]
  omega
theorem b8q (d p : Str) : inB d p = a5Q (d ++ [47]) p := by
 unfold inB a5Q
 by_cases h : d.length < p.length
 ·have e : p.take (d.length + 1) = p.take d.length ++ [p[d.length]] := List.take_succ_eq_append_getElem h
  simp only [List.length_append, List.length_cons, List.length_nil, Nat.zero_add, e, h, show d.length + 1 <= p.length by omega, decide_true, Bool.true_and]
  have hg : p.getD d.length 0 = p[d.length] := getD_nat _ _ h
  rw [hg, Bool.eq_iff_iff]
  simp only [Bool.and_eq_true, decide_eq_true_eq]
  constructor
  ·rintro ⟨h1, h2⟩; rw [h1, h2]
  ·intro h1
   have := List.append_inj h1 (by simp; omega)
   exact ⟨this.1, by simpa using this.2⟩
 ·simp [h]
  omega
theorem c7f {d p : Str} (h : a5Q (d ++ [47]) p = true) : d < p := by
 unfold a5Q at h
 simp only [Bool.and_eq_true, decide_eq_true_eq, List.length_append, List.length_cons, List.length_nil, Nat.zero_add] at h
 have e : p = d ++ (47 :: p.drop (d.length + 1)) := by
  have := List.take_append_drop (d.length + 1) p
  rw [h.2] at this
  simpa using this.symm
 rw [e]
 generalize p.drop (d.length + 1) = q
 clear h e
 induction d with
 | nil => exact List.nil_lt_cons _ _
 | cons x d ih => exact List.cons_lt_cons_iff.2 (.inr ⟨rfl, ih⟩)
theorem a3J (t : List FileD) : a0s t = a0S t := by
 have hasc : (∀ i, i < t.length -> a2F t i = true) -> ∀ i k, i < k -> k < t.length -> (t.getD i default).path < (t.getD k default).path := by
  intro h i k hik hk
  induction k with
  | zero => omega
  | succ k ih =>
   have h1 := h (k + 1) hk
   simp only [a2F, Bool.and_eq_true, Bool.or_eq_true, decide_eq_true_eq, a4e, Nat.add_sub_cancel] at h1
   have h2 : (t.getD k default).path < (t.getD (k + 1) default).path := by
    rcases h1.2 with h2 | h2
    ·omega
    ·exact h2
   rcases Nat.lt_or_ge i k with h3 | h3
   ·exact a9A (ih h3 (by omega)) h2
   ·have : i = k := by omega
    subst this; exact h2
 have hhead : ∀ i, a3B t i = a2F t i := by
  intro i
  simp only [a3B, a2F, c7d, b6i, a4e, Bool.not_not]
  rw [Bool.and_comm (a2Q _)]
 rw [Bool.eq_iff_iff]
 simp only [a0s, a0S, Bool.and_eq_true, decide_eq_true_eq, List.all_eq_true, List.mem_range, hhead]
 constructor
 ·rintro ⟨h8, h⟩
  refine ⟨fun i hi => ⟨(h i hi).1, ?_⟩, h8⟩
  simp only [noIn, List.all_eq_true, Bool.not_eq_true']
  intro g hg
  obtain ⟨k, hk, rfl⟩ := List.getElem_of_mem hg
  rw [show t[k] = t.getD k default by simp [List.getD_eq_getElem?_getD, hk], b8q]
  cases hp : a5Q ((t.getD i default).path ++ [47]) (t.getD k default).path with
  | false => rfl
  | true =>
   exfalso
   have hlt := c7f hp
   have hik : i < k := by
    rcases Nat.lt_trichotomy i k with h1 | h1 | h1
    ·exact h1
    ·subst h1; exact absurd hlt (a3w _)
    ·exact absurd hlt (a9y (hasc (fun i hi => (h i hi).1) k i h1 hi))
   have h2 := (h k hk).2
   simp only [noUp, List.all_eq_true, List.mem_range, Bool.not_eq_true'] at h2
   have h3 := h2 i hik
   have p1 := (h i hi).1
   have p2 := (h k hk).1
   simp only [a2F, Bool.and_eq_true] at p1 p2
   simp only [a4z, p1.1.2, p2.1.2, hp, Bool.and_self, reduceCtorEq] at h3
 ·rintro ⟨h, h8⟩
  refine ⟨h8, fun i hi => ⟨(h i hi).1, ?_⟩⟩
  simp only [noUp, List.all_eq_true, List.mem_range, Bool.not_eq_true']
  intro k hk
  have h2 := (h k (by omega)).2
  simp only [noIn, List.all_eq_true, Bool.not_eq_true'] at h2
  have h3 := h2 _ (List.getElem_mem hi)
  rw [show t[i] = t.getD i default by simp [List.getD_eq_getElem?_getD, hi], b8q] at h3
  simp only [a4z, h3, Bool.and_false]
theorem c3o {α : Type} {l : List α} {i : Nat} {q : α -> Prop} (h : i < l.length) (hb : ∀ x, x ∈ l.take i -> q x) (hi : q l[i]) : ∀ x, x ∈ l.take (i + 1) -> q x := by
 intro x hx
 rw [List.take_succ_eq_append_getElem h, List.mem_append] at hx
 rcases hx with hx | hx
 ·exact hb x hx
 ·simp only [List.mem_singleton] at hx
  subst hx; exact hi







theorem a8Z {l : List Str} {x : List D} {d : D} (h : x ∈ a0a l) (h' : d ∈ x) : ∃ s, d = D.str s := by
 simp only [a0a, List.mem_map] at h
 obtain ⟨s, _, rfl⟩ := h
 simp only [eStr, List.mem_singleton] at h'
 exact ⟨s, h'⟩
def a5x : Con := .fn 6 (List Str) (fun a => [.sl true 1 (a0a a)]) (fun a => a.length <= 1048576) (fun a => .own 8 1 (a0a a)) (fun a => a2h 8 a)
theorem a6i : Has Tryz.prog 116 a5x := by
 refine a0d mixed a0h HasL.nil [0, 2] ((fun a n (_ : Nat) => (fun _ => a0r) a n)) [] Tryz.func116 (by unfold Tryz.f116; rfl) (fun _ => ⟨(), trivial⟩) ?_
 intro (a : List Str) ha
 replace ha : a.length <= 1048576 := ha
 simp -implicitDefEqProofs [a5x, Con.fn, tTab]
 try dsimp only
 try simp +contextual [eStr, a0z, a0M, a0W, a0N, List.getElem?_eq_getElem, a0O, a0F, a0J, a0E, <- a0o, <- a0p, a0v, a0C, a0B, a0A, a0y, a0t, and_assoc]
 repeat' (first | intro _ | apply And.intro)
 all_goals first | omega | grind [a1c, a8Z]
def a4s : Con := .fn 23 (List FileD) (fun a => [.sl true 2 (a0b a)]) (fun a => a.length <= 1048576 /\ ∀ f ∈ a, f.text.length <= 1048576) (fun a => .own 8 2 (a0b a)) (fun a => a3r 8 a)
theorem a4M : Has Tryz.prog 99 a4s := by
 refine a0d mixed a0h (HasL.cons a6i HasL.nil) [0, 2, 3, 5, 6, 7, 8] ((fun a n (_ : Nat) => (fun a _ => ⟨Nat, fun i => ⟨[(2, true, .nil), (3, true, .own 9 2 (a0b (a.take i))), (6, true, .sl true 2 (a0b a)), (7, true, .int .i64 a.length), (8, true, .int .i64 i)], a3r 9 (a.take i)⟩, fun i => i <= a.length, fun i => a.length - i⟩) a n)) [19] Tryz.func99 (by unfold Tryz.f99; rfl) (fun _ => ⟨(), trivial⟩) ?_
 intro (a : List FileD) ha
 obtain ⟨h1, h2⟩ : a.length <= 1048576 /\ ∀ f ∈ a, f.text.length <= 1048576 := ha
 have h3 : ∀ i (h : i < a.length), a[i].text.length <= 1048576 := fun i h => h2 _ (List.getElem_mem h)
 simp -implicitDefEqProofs [a4s, Con.fn, tTab, a5x]
 try dsimp only
 try simp +contextual [eStr, a0z, a0M, a0W, a0N, List.getElem?_eq_getElem, a0O, a0F, a0J, a0E, <- a0o, <- a0p, a0v, a0C, a0B, a0A, a0y, a0t, and_assoc, <- FileD.eq_iff]
 repeat' (first | intro _ | apply And.intro)
 all_goals first | omega | grind [a1c, List.take_of_length_le, List.take_succ_eq_append_getElem]
def a4u : Con := .fn 29 (List FileD) (fun a => [.sl true 2 (a0b a)]) (fun a => a.length <= 1048576 /\ ∀ f ∈ a, f.text.length <= 1048576) (fun a => .own 8 2 (a0b a)) (fun a => a3r 8 a)
theorem a4c : Has Tryz.prog 164 a4u := by
 refine a0d mixed a0h HasL.nil [0, 2, 3, 4] ((fun a n (_ : Nat) => (fun a _ => ⟨Nat, fun i => ⟨[(0, true, .sl true 2 (a0b a)), (2, true, .nil), (3, true, .own 9 2 (a0b (a.take i))), (4, true, .int .i64 i)], a3r 9 (a.take i)⟩, fun i => i <= a.length, fun i => a.length - i⟩) a n)) [26] Tryz.func164 (by unfold Tryz.f164; rfl) (fun _ => ⟨(), trivial⟩) ?_
 intro (a : List FileD) ha
 obtain ⟨h1, h2⟩ : a.length <= 1048576 /\ ∀ f ∈ a, f.text.length <= 1048576 := ha
 have h3 : ∀ i (h : i < a.length), a[i].text.length <= 1048576 := fun i h => h2 _ (List.getElem_mem h)
 simp -implicitDefEqProofs [a4u, Con.fn, tTab]
 try dsimp only
 try simp +contextual [eStr, a0z, a0M, a0W, a0N, List.getElem?_eq_getElem, a0O, a0F, a0J, a0E, <- a0o, <- a0p, a0v, a0C, a0B, a0A, a0y, a0t, and_assoc, <- FileD.eq_iff]
 repeat' (first | intro _ | apply And.intro)
 all_goals first | omega | grind [a1c, a8Z, List.take_of_length_le, List.take_succ_eq_append_getElem]
def filB (p : FileD -> Bool) (t : List FileD) : List FileD := t.filter p
theorem c6G {p : FileD -> Bool} {t : List FileD} {i : Nat} (h : i < t.length) (hp : p t[i] = true) : filB p (t.take (i + 1)) = filB p (t.take i) ++ [t[i]] := by
 unfold filB
 rw [a0w h, List.filter_append]
 simp [List.filter_cons, hp]
theorem c4j {p : FileD -> Bool} {t : List FileD} {i : Nat} (h : i < t.length) (hp : p t[i] = false) : filB p (t.take (i + 1)) = filB p (t.take i) := by
 unfold filB
 rw [a0w h, List.filter_append]
 simp [List.filter_cons, hp]
def a2t (f : FileD) (acc : List FileD × Bool) (g : FileD) : List FileD × Bool :=
 if acc.2 = false /\ Go.Op.bytesLess g.path f.path = false then (if g.path = f.path then (acc.1 ++ [f], true) else (acc.1 ++ [f] ++ [g], true))
 else (if g.path = f.path then acc else (acc.1 ++ [g], acc.2))
def setL (f : FileD) (l : List FileD) : List FileD × Bool := l.foldl (a2t f) ([], false)
def setS (t : List FileD) (f : FileD) : List FileD := if (setL f t).2 then (setL f t).1 else (setL f t).1 ++ [f]
theorem a4B {f : FileD} {t : List FileD} {i : Nat} (h : i < t.length) : setL f (t.take (i + 1)) = a2t f (setL f (t.take i)) t[i] := by
 unfold setL
 rw [a0w h, List.foldl_append]; rfl
theorem b7T (f : FileD) (acc : List FileD × Bool) (g : FileD) : (a2t f acc g).1.length + acc.2.toNat <= acc.1.length + (a2t f acc g).2.toNat + 1 := by
 unfold a2t
 split
 ·rename_i h
  rw [h.1]
  split <;> simp <;> omega
 ·split <;> simp <;> omega
theorem b6I (f : FileD) (t : List FileD) : (setL f t).1.length <= t.length + (setL f t).2.toNat := by
 have : ∀ (t : List FileD) (acc : List FileD × Bool), (t.foldl (a2t f) acc).1.length + acc.2.toNat <= acc.1.length + t.length + (t.foldl (a2t f) acc).2.toNat := by
  intro t
  induction t with
  | nil => intro acc; simp
  | cons g r ih =>
   intro acc
   have h1 := ih (a2t f acc g)
   have h2 := b7T f acc g
   simp only [List.foldl_cons, List.length_cons]
   omega
 have := this t ([], false)
 simpa [setL] using this
theorem c5C (t : List FileD) (f : FileD) : (setS t f).length <= t.length + 1 := by
 have := b6I f t
 unfold setS
 split
 ·rename_i h; rw [h] at this; simpa using this
 ·rename_i h
  have h : (setL f t).2 = false := by simpa using h
  rw [h] at this; simp at this ⊢; omega
def b1G : Con := .fn 65 (List FileD × FileD) (fun a => [.sl true 2 (a0b a.1), .agg [.str a.2.path, .sl true 1 (a0a a.2.text)]]) (fun a => a.1.length <= 1048576 /\ a.2.text.length <= 1048576) (fun a => .sl false 2 (a0b (setS a.1 a.2))) (fun _ => [])
theorem b3S : Has Tryz.prog 224 b1G := by
 refine a0d mixed a0h HasL.nil [0, 1, 3, 4, 5, 6, 7] ((fun a n (_ : Nat) => (fun a _ => ⟨Nat, fun i => ⟨[(0, true, .sl true 2 (a0b a.1)), (3, true, .ptr 10 0), (4, true, .nil), (5, true, .own 9 2 (a0b (setL a.2 (a.1.take i)).1)), (6, true, .bool (setL a.2 (a.1.take i)).2), (7, true, .int .i64 i)], [(10, .box 39 [.str a.2.path, .sl true 1 (a0a a.2.text)]), (9, .own 39 2 false (a0b (setL a.2 (a.1.take i)).1))]⟩, fun i => i <= a.1.length, fun i => a.1.length - i⟩) a n)) [35, 62] Tryz.func224 (by unfold Tryz.f224; rfl) (fun _ => ⟨(), trivial⟩) ?_
 intro a ha
 obtain ⟨t, f⟩ := a
 obtain ⟨q1, q2⟩ : t.length <= 1048576 /\ f.text.length <= 1048576 := ha
 have a0 : setL f [] = ([], false) := rfl
 have a1 : ∀ i (h : i < t.length), (setL f (t.take i)).2 = true -> ¬ t[i].path = f.path -> setL f (t.take (i + 1)) = ((setL f (t.take i)).1 ++ [t[i]], true) := fun i h h1 h2 => by rw [a4B h]; simp [a2t, h1, h2]
 have a2 : ∀ i (h : i < t.length), (setL f (t.take i)).2 = true -> t[i].path = f.path -> setL f (t.take (i + 1)) = ((setL f (t.take i)).1, true) := fun i h h1 h2 => by rw [a4B h]; unfold a2t; rw [if_neg (by simp [h1]), if_pos h2]; exact Prod.ext rfl h1
 have a3 : ∀ i (h : i < t.length), (setL f (t.take i)).2 = false -> Go.Op.bytesLess t[i].path f.path = false -> ¬ t[i].path = f.path -> setL f (t.take (i + 1)) = ((setL f (t.take i)).1 ++ [f] ++ [t[i]], true) := fun i h h1 h3 h2 => by rw [a4B h]; simp [a2t, h1, h2, h3]
 have a4 : ∀ i (h : i < t.length), (setL f (t.take i)).2 = false -> Go.Op.bytesLess t[i].path f.path = false -> t[i].path = f.path -> setL f (t.take (i + 1)) = ((setL f (t.take i)).1 ++ [f], true) := fun i h h1 h3 h2 => by rw [a4B h]; rw [h2] at h3; simp [a2t, h1, h2, h3]
 have a5 : ∀ i (h : i < t.length), (setL f (t.take i)).2 = false -> Go.Op.bytesLess t[i].path f.path = true -> ¬ t[i].path = f.path -> setL f (t.take (i + 1)) = ((setL f (t.take i)).1 ++ [t[i]], false) := fun i h h1 h3 h2 => by rw [a4B h]; simp [a2t, h1, h2, h3]
 have a6 : ∀ i (h : i < t.length), (setL f (t.take i)).2 = false -> Go.Op.bytesLess t[i].path f.path = true -> t[i].path = f.path -> setL f (t.take (i + 1)) = ((setL f (t.take i)).1, false) := fun i h h1 h3 h2 => by rw [a4B h]; unfold a2t; rw [if_neg (by simp [h3]), if_pos h2]; exact Prod.ext rfl h1
 have a7 : ∀ i, (setL f (t.take i)).1.length <= 1048577 := fun i => by
  have h1 := b6I f (t.take i)
  have h2 := Bool.toNat_le (setL f (t.take i)).2
  have h3 : (t.take i).length <= t.length := by simp; omega
  omega
 have a8 : (setL f t).2 = true -> setS t f = (setL f t).1 := fun h => by simp [setS, h]
 have a9 : (setL f t).2 = false -> setS t f = (setL f t).1 ++ [f] := fun h => by simp [setS, h]
 simp -implicitDefEqProofs [b1G, Con.fn, tTab]
 try dsimp only
 have b1 : ∀ (X : List FileD) (g : FileD), a0b X ++ [[D.str f.path, D.sl 9 1 (a0a f.text)], [D.str g.path, D.sl 9 1 (a0a g.text)]] = a0b (X ++ [f] ++ [g]) := fun X g => by simp [a0b, a0z]
 refine ⟨⟨0, by simp [a0]⟩, ?_⟩
 try simp +contextual [eStr, a0z, a0M, a0W, a0N, List.getElem?_eq_getElem, a0O, a0F, a0J, a0E, <- a0o, <- a0p, a0v, a0C, a0B, a0A, a0y, a0t, and_assoc, b1, <- FileD.eq_iff]
 repeat' (first | intro _ | apply And.intro)
 all_goals first | omega | grind [a1c, a8Z, List.take_of_length_le]
theorem a1S (b : List Str) (x : Str) (R : List (List D)) : (a0a b = [D.str x] :: R) = ∃ t, b = x :: t /\ a0a t = R := by
 apply propext
 constructor
 ·intro h
  cases b with
  | nil => cases h
  | cons y t =>
   simp only [a0a, List.map_cons, List.cons.injEq, eStr, D.str.injEq, and_true] at h
   exact ⟨t, by rw [h.1], h.2⟩
 ·rintro ⟨t, rfl, rfl⟩; rfl
theorem b5E (b : List Int) (x : Int) (R : List (List D)) : (a0f b = [D.int .i64 x] :: R) = ∃ t, b = x :: t /\ a0f t = R := by
 apply propext
 constructor
 ·intro h
  cases b with
  | nil => cases h
  | cons y t =>
   simp only [a0f, List.map_cons, List.cons.injEq, eInt, D.int.injEq, true_and, and_true] at h
   exact ⟨t, by rw [h.1], h.2⟩
 ·rintro ⟨t, rfl, rfl⟩; rfl
def b9g : Con := { A := Str × Int, X := Str, n := 6, args := fun _ => [.ptr 0 0], boxes := fun a => [(0, 149, [.sl true 1 (a1l a.1), .int .i64 a.2])], pre := fun a => a.1.length <= 2000 /\ 0 <= a.2 /\ a.2 <= 1073741824, post := fun _ x => x.length <= 7, res := fun _ x => .str x, fin := fun a _ => [(0, a3s a.1 (a.2 + 1))], nob := false }
theorem c4K : Has Tryz.prog 227 b9g := by
 refine a0d mixed a0h (HasL.cons of_has HasL.nil) [0, 2] ((fun a n (_ : Nat) => (fun _ => a0r) a n)) [] Tryz.func227 (by unfold Tryz.f227; rfl) (fun _ => ⟨([] : Str), Nat.zero_le 7⟩) ?_
 intro a ha
 obtain ⟨s, p⟩ := a
 obtain ⟨h1, h2, h3⟩ : s.length <= 2000 /\ 0 <= p /\ p <= 1073741824 := ha
 simp -implicitDefEqProofs [b9g, cOf, tTab, a1S, clash, kd, a2l, a2D]
 refine ⟨s, p, ⟨rfl, rfl⟩, ⟨h1, h2, h3⟩, ?_⟩
 simp
def b9i : Con := { A := Str × Int, X := Str, n := 6, args := fun _ => [.ptr 0 0], boxes := fun a => [(0, 149, [.sl true 1 (a1l a.1), .int .i64 a.2])], pre := fun a => a.1.length <= 2000 /\ 0 <= a.2 /\ a.2 <= 1073741824, post := fun _ x => x.length <= 5, res := fun _ x => .str x, fin := fun a _ => [(0, a3s a.1 (a.2 + 1))], nob := false }
theorem c5i : Has Tryz.prog 213 b9i := by
 refine a0d mixed a0h (HasL.cons of_has HasL.nil) [0, 2] ((fun a n (_ : Nat) => (fun _ => a0r) a n)) [] Tryz.func213 (by unfold Tryz.f213; rfl) (fun _ => ⟨([] : Str), Nat.zero_le 5⟩) ?_
 intro a ha
 obtain ⟨s, p⟩ := a
 obtain ⟨h1, h2, h3⟩ : s.length <= 2000 /\ 0 <= p /\ p <= 1073741824 := ha
 simp -implicitDefEqProofs [b9i, cOf, tTab, a1S, clash, kd, a2l, a2D]
 refine ⟨s, p, ⟨rfl, rfl⟩, ⟨h1, h2, h3⟩, ?_⟩
 simp
def b9j : Con := { A := Str × Int, X := List Str × Int, n := 19, args := fun _ => [.ptr 0 0], boxes := fun a => [(0, 149, [.sl true 1 (a1l a.1), .int .i64 a.2])], pre := fun a => a.1.length <= 2000 /\ 0 <= a.2 /\ a.2 <= 1073741800, post := fun a x => x.1.length <= 8 /\ (∀ s ∈ x.1, s.length <= 7) /\ a.2 <= x.2 /\ x.2 <= a.2 + 9, res := fun _ x => .own 8 1 (a0a x.1), fin := fun a x => [(0, a3s a.1 x.2), (8, .own 9 1 true (a0a x.1))], nob := false }
theorem c5L : Has Tryz.prog 214 b9j := by
 refine a0d mixed a0h (HasL.cons one_has (HasL.cons c4K HasL.nil)) [0, 2, 3, 4] ((fun a n (_ : Nat) => (fun a _ => ⟨List Str × Int × Nat, fun t => ⟨[(0, true, .ptr 0 0), (2, true, .nil), (3, true, .own 9 1 (a0a t.1)), (4, true, .int .i64 t.2.2)], [(0, a3s a.1 t.2.1), (9, .own 9 1 true (a0a t.1))]⟩, fun t => t.1.length + t.2.2 <= 8 /\ (∀ s ∈ t.1, s.length <= 7) /\ a.2 <= t.2.1 /\ t.2.1 <= a.2 + 1 + t.1.length, fun t => t.2.2⟩) a n)) [] Tryz.func214 (by unfold Tryz.f214; rfl) (fun a => ⟨(([] : List Str), a.2), Nat.zero_le 8, (by simp), Int.le_refl _, by omega⟩) ?_
 intro a ha
 obtain ⟨s, p⟩ := a
 obtain ⟨h1, h2, h3⟩ : s.length <= 2000 /\ 0 <= p /\ p <= 1073741800 := ha
 simp -implicitDefEqProofs [b9j, cOne, b9g, tTab, b5E, clash, kd, a2l, a2D]
 refine ⟨s, p, ⟨rfl, rfl⟩, ⟨h1, by omega, by omega⟩, ?_⟩
 refine ⟨⟨⟨[], p + 1, 0, by simp; omega⟩, ?_⟩, ⟨⟨[], p + 1, 1, by simp; omega⟩, ?_⟩, ⟨⟨[], p + 1, 3, by simp; omega⟩, ?_⟩, ⟨⟨[], p + 1, 5, by simp; omega⟩, ?_⟩, ⟨[], p + 1, 8, by simp; omega⟩, ?_⟩
 all_goals
  intro a q n g1 g2 g3 g4
  refine ⟨fun hn => ⟨s, q, ⟨rfl, rfl⟩, ⟨h1, by omega, by omega⟩, fun y hy => ⟨by omega, by omega, fun _ _ => ⟨a ++ [y], q + 1, n - 1, ⟨⟨(a0y a y).symm, by omega⟩, ⟨rfl, rfl⟩, a0y a y⟩, ⟨by simp; omega, fun x hx => ?_, by omega, by simp; omega⟩, by omega⟩⟩⟩, fun hn => ⟨a, q, ⟨by omega, g2, by omega, by omega⟩, rfl, rfl, rfl⟩⟩
  rcases List.mem_append.1 hx with hx | hx
  ·exact g2 x hx
  ·simp at hx; subst hx; exact hy
def a3W (t : List FileD) (f : FileD) : List FileD × Bool := if a0S t then (if a0S (setS t f) then (setS t f, true) else (t, false)) else ([], false)
def a8V : Con := .fn 20 (List FileD × FileD) (fun a => [.sl true 2 (a0b a.1), .agg [.str a.2.path, .sl true 1 (a0a a.2.text)]]) (fun a => (a.1.length <= 1048575 /\ ∀ f ∈ a.1, f.text.length <= 1048576) /\ a.2.text.length <= 1048576) (fun a => .tup [.sl false 2 (a0b (a3W a.1 a.2).1), .bool (a3W a.1 a.2).2]) (fun _ => [])
theorem b6V : Has Tryz.prog 206 a8V := by
 refine a0d mixed a0h (HasL.cons a6p (HasL.cons a4c (HasL.cons b3S HasL.nil))) [0, 1, 3, 4, 5, 6] ((fun a n (_ : Nat) => (fun _ => a0r) a n)) [] Tryz.func206 (by unfold Tryz.f206; rfl) (fun _ => ⟨(), trivial⟩) ?_
 intro a ha
 obtain ⟨t, f⟩ := a
 obtain ⟨⟨q1, q2⟩, q3⟩ : (t.length <= 1048575 /\ ∀ f ∈ t, f.text.length <= 1048576) /\ f.text.length <= 1048576 := ha
 simp -implicitDefEqProofs [a8V, Con.fn, tTab, a7N, a4u, b1G, a3W]
 try dsimp only
 try simp +contextual -implicitDefEqProofs [eStr, a0z, a0M, a0W, a0N, List.getElem?_eq_getElem, a0O, a0F, a0J, a0E, <- a0o, <- a0p, a0v, a0C, a0B, a0A, a0y, a0t, and_assoc]
 repeat' (first | intro _ | apply And.intro)
 all_goals first | omega | grind [a1c, a3W]

def a4t : Con := .fn 11 (RepoD × Int) (fun a => [a0V a.1, .int .i64 a.2]) (fun a => a.1.commits.length <= 1073741824) (fun a => .bool (decide (0 <= a.2) && decide (a.2 <= (a.1.commits.length : Int) - 1))) (fun _ => [])
theorem a4b : Has Tryz.prog 98 a4t := by
 refine a0d mixed a0h (HasL.cons a8x HasL.nil) [0, 1, 2, 4] ((fun a n (_ : Nat) => (fun _ => a0r) a n)) [] Tryz.func98 (by unfold Tryz.f98; rfl) (fun _ => ⟨(), trivial⟩) ?_
 intro a ha
 obtain ⟨r, n⟩ := a
 replace ha : r.commits.length <= 1073741824 := ha
 simp -implicitDefEqProofs [a4t, Con.fn, tTab, a7h]
 try dsimp only
 try simp +contextual -implicitDefEqProofs [eStr, a0z, a0M, a0W, a0N, List.getElem?_eq_getElem, a0O, a0F, a0J, a0E, <- a0o, <- a0p, a0v, a0C, a0B, a0A, a0y, a0t, and_assoc]
 repeat' (first | intro _ | apply And.intro)
 all_goals first | omega | grind [a1c]
def inN (n : Nat) (a : Int) : Bool := decide (0 <= a) && decide (a <= (n : Int) - 1)
def okHd (n : Nat) (h : List HeadD) (i : Nat) : Bool := a0Q (h.getD i default).name && inN n (h.getD i default).at_ && (decide (i = 0) || Go.Op.bytesLess (h.getD (i - 1) default).name (h.getD i default).name)
def a1U (n : Nat) (h : List HeadD) : Bool := decide (h.length <= 5) && (List.range h.length).all (okHd n h)
theorem a2b (n : Nat) (h : List HeadD) : a1U n h = true ↔ h.length <= 5 /\ ∀ i, i < h.length -> okHd n h i = true := by simp -implicitDefEqProofs [a1U]
theorem b3P {n : Nat} {h : List HeadD} {i : Nat} (hi : i < h.length) (hb : okHd n h i = false) : a1U n h = false := by
 cases hq : a1U n h with
 | false => rfl
 | true => have := ((a2b n h).1 hq).2 i hi; simp -implicitDefEqProofs [hb] at this
def b0H : Con := .fn 44 (RepoD × List HeadD) (fun a => [a0V a.1, .sl true 2 (a0c a.2)]) (fun a => a.1.commits.length <= 1073741824) (fun a => .bool (a1U a.1.commits.length a.2)) (fun _ => [])
theorem b7q : Has Tryz.prog 73 b0H := by
 refine a0d mixed a0h (HasL.cons a4U (HasL.cons a4b HasL.nil)) [0, 1, 2, 4, 5, 6, 10, 11, 12] ((fun a n (_ : Nat) => (fun a _ => ⟨Nat, fun i => ⟨[(1, true, .sl true 2 (a0c a.2)), (2, true, .ptr 10 0), (4, true, .bool false), (10, true, .sl true 2 (a0c a.2)), (11, true, .int .i64 a.2.length), (12, true, .int .i64 i)], [(10, .box 26 [.sl true 3 (a0i a.1.commits), .sl true 2 (a0c a.1.heads)])]⟩, fun i => i <= a.2.length /\ a.2.length <= 5 /\ ∀ j, j < i -> okHd a.1.commits.length a.2 j = true, fun i => a.2.length - i⟩) a n)) [] Tryz.func73 (by unfold Tryz.f73; rfl) (fun _ => ⟨(), trivial⟩) ?_
 intro a ha
 obtain ⟨r, t⟩ := a
 replace ha : r.commits.length <= 1073741824 := ha
 have hB : 5 < t.length -> a1U r.commits.length t = false := fun h => by
  cases hq : a1U r.commits.length t with
  | false => rfl
  | true => have := ((a2b _ _).1 hq).1; omega
 have hN := fun i => @b3P r.commits.length t i
 have hE := (a2b r.commits.length t).2
 have hg : ∀ i (h : i < t.length), t.getD i default = t[i] := fun i h => by simp -implicitDefEqProofs [List.getD_eq_getElem?_getD, h]
 have hgg : ∀ i (h : i < t.length), t[i]?.getD default = t[i] := fun i h => by simp -implicitDefEqProofs [h]
 have e1 : ∀ k (h : k < t.length), Option.map a1f t[k]? = some (a1f t[k]) := fun k h => by simp -implicitDefEqProofs [List.getElem?_eq_getElem h]
 simp -implicitDefEqProofs [b0H, Con.fn, tTab, a5h, a4t]
 try dsimp only
 refine fun _ => ⟨fun h => hB (by omega), fun h5 _ => ⟨by omega, fun i hi _ hprev => ⟨fun hlt => ?_, fun hge => hE ⟨by omega, fun j hj => hprev j (by omega)⟩⟩⟩⟩
 have e3 := e1 i hlt
 have e4 := e1 (i - 1) (by omega)
 have hh : okHd r.commits.length t i = (a0Q t[i].name && inN r.commits.length t[i].at_ && (decide (i = 0) || Go.Op.bytesLess (t[i - 1]'(by omega)).name t[i].name)) := by
  unfold okHd
  rw [hg i hlt, hg (i - 1) (by omega)]
 have hn := hN i hlt
 rw [hh] at hn
 unfold inN at hn hh
 simp -implicitDefEqProofs [hlt, e3, e4, a1f, D.asStr, D.asInt, a0W, and_assoc]
 try simp +contextual -implicitDefEqProofs [eStr, a0z, a0M, a0W, a0N, List.getElem?_eq_getElem, a0O, a0F, a0J, a0E, <- a0o, <- a0p, a0v, a0C, a0B, a0A, a0y, a0t, and_assoc, hlt]
 clear e1 hg hgg hN hE hB
 repeat' (first | intro _ | apply And.intro)
 all_goals first | omega | grind -ring
def okI1 (cs : List CommitD) (i : Nat) : Bool :=
 decide ((cs.getD i default).parents.length <= 2) && !(decide ((cs.getD i default).parents.length = 2) && decide ((cs.getD i default).parents.getD 0 0 = (cs.getD i default).parents.getD 1 0)) && a0Q (cs.getD i default).who && a0s (cs.getD i default).tree
def okCI (cs : List CommitD) (i : Nat) : Bool := okI1 cs i && (List.range (cs.getD i default).parents.length).all fun k => inN i ((cs.getD i default).parents.getD k 0)
def a0l (r : RepoD) : Bool := decide (r.commits.length <= 16) && (List.range r.commits.length).all (okCI r.commits) && a1U r.commits.length r.heads
def a2a (r : RepoD) : Prop := r.commits.length <= 1073741824 /\ ∀ c ∈ r.commits, ∀ f ∈ c.tree, f.path.length <= 536870912
def a1z (r : RepoD) : Blk := .box 26 [.sl true 3 (a0i r.commits), .sl true 2 (a0c r.heads)]
theorem a0q (r : RepoD) : a1z r = .box 26 [.sl true 3 (a0i r.commits), .sl true 2 (a0c r.heads)] := rfl
def riO (r : RepoD) : Inv := ⟨Nat, fun i => ⟨[(1, true, .ptr 10 0), (2, true, .bool false), (12, true, .sl true 3 (a0i r.commits)), (13, true, .int .i64 r.commits.length), (14, true, .int .i64 i)], [(10, a1z r)]⟩, fun i => i <= r.commits.length /\ r.commits.length <= 16 /\ ∀ j, j < i -> okCI r.commits j = true, fun i => r.commits.length - i⟩
def riI (r : RepoD) (g : Nat) : Inv := ⟨Nat, fun k => ⟨[(1, true, .ptr 10 0), (2, true, .bool false), (3, true, .int .i64 g), (12, true, .sl true 3 (a0i r.commits)), (13, true, .int .i64 r.commits.length), (14, true, .int .i64 g), (53, true, .sl true 1 (a0f (r.commits.getD g default).parents)), (54, true, .int .i64 (r.commits.getD g default).parents.length), (55, true, .int .i64 k)], [(10, a1z r)]⟩,
 fun k => g < r.commits.length /\ k <= (r.commits.getD g default).parents.length /\ r.commits.length <= 16 /\ (∀ j, j < g -> okCI r.commits j = true) /\ okI1 r.commits g = true /\ ∀ j, j < k -> inN g ((r.commits.getD g default).parents.getD j 0) = true, fun k => (r.commits.getD g default).parents.length - k⟩
def c0y (r : RepoD) (n g : Nat) : Inv := if n = 4 then riO r else riI r g
theorem c7n (r : RepoD) (g : Nat) : c0y r 4 g = riO r := rfl
theorem c7o (r : RepoD) (g : Nat) : c0y r 9 g = riI r g := rfl
theorem a4A (r : RepoD) : a0l r = true ↔ r.commits.length <= 16 /\ (∀ i, i < r.commits.length -> okCI r.commits i = true) /\ a1U r.commits.length r.heads = true := by simp -implicitDefEqProofs [a0l, and_assoc]
theorem c5u {r : RepoD} {i : Nat} (hi : i < r.commits.length) (hb : okCI r.commits i = false) : a0l r = false := by
 cases hq : a0l r with
 | false => rfl
 | true => have := ((a4A r).1 hq).2.1 i hi; simp -implicitDefEqProofs [hb] at this
theorem c2Y {r : RepoD} (h : 16 < r.commits.length) : a0l r = false := by
 cases hq : a0l r with
 | false => rfl
 | true => have := ((a4A r).1 hq).1; omega
theorem c4T {cs : List CommitD} {i : Nat} (h : okI1 cs i = false) : okCI cs i = false := by unfold okCI; rw [h]; rfl
theorem c4U {cs : List CommitD} {i k : Nat} (hk : k < (cs.getD i default).parents.length) (h : inN i ((cs.getD i default).parents.getD k 0) = false) : okCI cs i = false := by
 unfold okCI
 have : (List.range (cs.getD i default).parents.length).all (fun k => inN i ((cs.getD i default).parents.getD k 0)) = false := by
  rw [List.all_eq_false]
  exact ⟨k, List.mem_range.2 hk, by simpa using h⟩
 rw [this, Bool.and_false]
theorem c4V {cs : List CommitD} {i : Nat} (h : okI1 cs i = true) (h2 : ∀ k, k < (cs.getD i default).parents.length -> inN i ((cs.getD i default).parents.getD k 0) = true) : okCI cs i = true := by
 unfold okCI
 rw [h, Bool.true_and, List.all_eq_true]
 intro k hk
 exact h2 k (by simpa using hk)
def a3F : Con := .fn 70 RepoD (fun r => [a0V r]) a2a (fun r => .bool (a0l r)) (fun _ => [])
theorem a2R : Has Tryz.prog 22 a3F := by
 refine a0d mixed a0h (HasL.cons a4U (HasL.cons a5S (HasL.cons a8x (HasL.cons b7q HasL.nil)))) [0, 1, 2, 3, 4, 6, 12, 13, 14, 53, 54, 55] (fun r => c0y r) [] Tryz.func22 (by unfold Tryz.f22; rfl) (fun _ => ⟨(), trivial⟩) ?_
 intro (r : RepoD) hr
 obtain ⟨hr1, hr2⟩ : r.commits.length <= 1073741824 /\ ∀ c ∈ r.commits, ∀ f ∈ c.tree, f.path.length <= 536870912 := hr
 have hp : ∀ i (h : i < r.commits.length), ∀ f ∈ r.commits[i].tree, f.path.length <= 536870912 := fun i h => hr2 _ (List.getElem_mem h)
 have hB := @c2Y r
 have hN := fun i => @c5u r i
 have hN1 := fun i => @c4T r.commits i
 have hN2 := fun i k => @c4U r.commits i k
 have hY := fun i => @c4V r.commits i
 simp -implicitDefEqProofs [a3F, Con.fn, tTab, a5h, a5U, a7h, b0H, c7n, c7o, riO, riI, a0q]
 try dsimp only
 refine fun _ => ⟨fun h => hB (by omega), fun h16 _ => ⟨by omega, fun i hi _ hprev => ⟨fun hlt => ?_, fun hge => ?_⟩⟩⟩
 ·have e3 : Option.map a0k r.commits[i]? = some (a0k r.commits[i]) := by simp -implicitDefEqProofs [List.getElem?_eq_getElem hlt]
  have hgc : r.commits.getD i default = r.commits[i] := by simp -implicitDefEqProofs [List.getD_eq_getElem?_getD, hlt]
  have hpc := hp i hlt
  have n0 := hN i hlt
  have n1 := hN1 i
  have n2 := hN2 i
  have n3 := hY i
  have o1 : okI1 r.commits i = (decide (r.commits[i].parents.length <= 2) && !(decide (r.commits[i].parents.length = 2) && decide (r.commits[i].parents.getD 0 0 = r.commits[i].parents.getD 1 0)) && a0Q r.commits[i].who && a0s r.commits[i].tree) := by
   unfold okI1; rw [hgc]
  rw [hgc] at n2 n3
  simp -implicitDefEqProofs [hlt, e3, a0k, D.asStr, D.asRows, a0W, and_assoc]
  try simp only [show r.commits[i]?.getD default = r.commits[i] by simp -implicitDefEqProofs [hlt]]
  generalize r.commits[i] = c at hpc n2 n3 o1 ⊢
  have hq : ∀ k (h : k < c.parents.length), inN i (c.parents[k]?.getD 0) = (decide (0 <= c.parents[k]) && decide (c.parents[k] <= (i : Int) - 1)) := fun k h => by simp -implicitDefEqProofs [inN, h]
  have n4 : ∀ k (h : k < c.parents.length), (decide (0 <= c.parents[k]) && decide (c.parents[k] <= (i : Int) - 1)) = false -> a0l r = false := fun k h hb => n0 (n2 k h (by rw [List.getD_eq_getElem?_getD, hq k h]; exact hb))
  have n5 : okI1 r.commits i = false -> a0l r = false := fun h => n0 (n1 h)
  have n6 : okI1 r.commits i = true -> (∀ j, j < c.parents.length -> inN i (c.parents[j]?.getD 0) = true) -> ∀ j, j < i + 1 -> okCI r.commits j = true := fun h1 h2 j hj => by
   rcases Nat.lt_or_ge j i with h3 | h3
   ·exact hprev j h3
   ·have : j = i := by omega
    subst this
    exact n3 h1 (fun k hk => by rw [List.getD_eq_getElem?_getD]; exact h2 k hk)
  clear n3 n2 n1 n0 hN hN1 hN2 hY hp hr2 hB hgc e3
  have o2 : ∀ (h : c.parents.length = 2), okI1 r.commits i = (!(decide (c.parents[0] = c.parents[1])) && a0Q c.who && a0s c.tree) := fun h => by
   rw [o1]; simp -implicitDefEqProofs [h]
  have o3 : c.parents.length <= 2 -> ¬ c.parents.length = 2 -> okI1 r.commits i = (a0Q c.who && a0s c.tree) := fun h h' => by
   rw [o1]; simp -implicitDefEqProofs [h, h']
  have o4 : 2 < c.parents.length -> okI1 r.commits i = false := fun h => by
   rw [o1]; simp -implicitDefEqProofs [show ¬ c.parents.length <= 2 by omega]
  clear o1
  refine ⟨fun h => n5 (o4 (by omega)), fun hl2 => ⟨fun h2 => ?_, fun h2 => ?_⟩⟩
  ·have q0 : Option.map eInt c.parents[0]? = some (eInt c.parents[0]) := by simp -implicitDefEqProofs [List.getElem?_eq_getElem (show 0 < c.parents.length by omega)]
   have q1 : Option.map eInt c.parents[1]? = some (eInt c.parents[1]) := by simp -implicitDefEqProofs [List.getElem?_eq_getElem (show 1 < c.parents.length by omega)]
   have o5 := o2 (by omega)
   simp -implicitDefEqProofs [q0, q1, eInt]
   refine ⟨by omega, fun _ => ⟨by omega, fun _ => ⟨fun he => n5 (by rw [o5]; simp -implicitDefEqProofs [he]), fun he => ⟨fun hn => n5 (by rw [o5]; simp -implicitDefEqProofs [hn]), fun hn => ⟨hpc, fun ht => n5 (by rw [o5]; simp -implicitDefEqProofs [ht]), fun ht _ => ⟨by omega, hprev, by rw [o5]; simp -implicitDefEqProofs [he, hn, ht], fun t ht1 _ _ hok hinv => ?_⟩⟩⟩⟩⟩⟩
   clear o2 o3 o4 o5 n5
   refine ⟨fun hlt2 => ?_, fun hge2 => ?_⟩
   ·have qt : Option.map eInt c.parents[t]? = some (eInt c.parents[t]) := by simp -implicitDefEqProofs [List.getElem?_eq_getElem hlt2]
    have n7 := n4 t hlt2
    have q7 := hq t hlt2
    simp -implicitDefEqProofs [qt, eInt, hlt2]
    have n8 : 0 <= c.parents[t] -> c.parents[t] <= (i : Int) - 1 -> ∀ j, j < t + 1 -> inN i (c.parents[j]?.getD 0) = true := fun g1 g2 j hj => by
     rcases Nat.lt_or_ge j t with h3 | h3
     ·exact hinv j h3
     ·have : j = t := by omega
      subst this
      rw [q7]
      simp -implicitDefEqProofs [g1, g2]
    refine ⟨by omega, by omega, fun _ _ => ⟨fun h => n7 (by simp; omega), fun g1 g2 => ⟨by omega, by omega, fun _ _ => ⟨t + 1, rfl, by omega, by omega, hprev, hok, n8 g1 g2, by omega⟩⟩⟩⟩
   ·have n7 := n6 hok (fun j hj => hinv j (by omega))
    exact ⟨by omega, by omega, fun _ _ => ⟨i + 1, rfl, by omega, by omega, n7, by omega⟩⟩
  ·have o5 := o3 (by omega) (by omega)
   refine ⟨fun hn => n5 (by rw [o5]; simp -implicitDefEqProofs [hn]), fun hn => ⟨hpc, fun ht => n5 (by rw [o5]; simp -implicitDefEqProofs [ht]), fun ht _ => ⟨by omega, hprev, by rw [o5]; simp -implicitDefEqProofs [hn, ht], fun t ht1 _ _ hok hinv => ?_⟩⟩⟩
   clear o2 o3 o4 o5 n5
   refine ⟨fun hlt2 => ?_, fun hge2 => ?_⟩
   ·have qt : Option.map eInt c.parents[t]? = some (eInt c.parents[t]) := by simp -implicitDefEqProofs [List.getElem?_eq_getElem hlt2]
    have n7 := n4 t hlt2
    have q7 := hq t hlt2
    simp -implicitDefEqProofs [qt, eInt, hlt2]
    have n8 : 0 <= c.parents[t] -> c.parents[t] <= (i : Int) - 1 -> ∀ j, j < t + 1 -> inN i (c.parents[j]?.getD 0) = true := fun g1 g2 j hj => by
     rcases Nat.lt_or_ge j t with h3 | h3
     ·exact hinv j h3
     ·have : j = t := by omega
      subst this
      rw [q7]
      simp -implicitDefEqProofs [g1, g2]
    refine ⟨by omega, by omega, fun _ _ => ⟨fun h => n7 (by simp; omega), fun g1 g2 => ⟨by omega, by omega, fun _ _ => ⟨t + 1, rfl, by omega, by omega, hprev, hok, n8 g1 g2, by omega⟩⟩⟩⟩
   ·have n7 := n6 hok (fun j hj => hinv j (by omega))
    exact ⟨by omega, by omega, fun _ _ => ⟨i + 1, rfl, by omega, by omega, n7, by omega⟩⟩
 ·refine ⟨r, r.heads, ⟨⟨rfl, rfl⟩, rfl⟩, hr1, ?_⟩
  rw [Bool.eq_iff_iff, a4A]
  exact ⟨fun h => h.2.2, fun h => ⟨by omega, fun j hj => hprev j (by omega), h⟩⟩
def oneP (i : Nat) (ps : List Int) (k : Nat) : Bool := inN i (ps.getD k 0) && !(decide (0 < k) && decide (ps.getD k 0 = ps.getD 0 0))
def okS1 (c : CommitD) : Bool := decide (c.parents.length <= 2) && a0Q c.who && a0S c.tree
def okCS (cs : List CommitD) (i : Nat) : Bool := (List.range (cs.getD i default).parents.length).all (oneP i (cs.getD i default).parents) && okS1 (cs.getD i default)
def a0j (r : RepoD) : Bool := (List.range r.commits.length).all (okCS r.commits) && a1U r.commits.length r.heads && decide (r.commits.length <= 16)
theorem a0T (r : RepoD) : a0j r = true ↔ (∀ i, i < r.commits.length -> okCS r.commits i = true) /\ a1U r.commits.length r.heads = true /\ r.commits.length <= 16 := by simp -implicitDefEqProofs [a0j, and_assoc]
theorem c5v {r : RepoD} {i : Nat} (hi : i < r.commits.length) (hb : okCS r.commits i = false) : a0j r = false := by
 cases hq : a0j r with
 | false => rfl
 | true => have := ((a0T r).1 hq).1 i hi; simp -implicitDefEqProofs [hb] at this
theorem c2Z {r : RepoD} (hb : a1U r.commits.length r.heads = false) : a0j r = false := by
 unfold a0j; rw [hb]; simp
theorem c4W {cs : List CommitD} {i : Nat} (h : okS1 (cs.getD i default) = false) : okCS cs i = false := by unfold okCS; rw [h, Bool.and_false]
theorem c4X {cs : List CommitD} {i k : Nat} (hk : k < (cs.getD i default).parents.length) (h : oneP i (cs.getD i default).parents k = false) : okCS cs i = false := by
 unfold okCS
 have : (List.range (cs.getD i default).parents.length).all (oneP i (cs.getD i default).parents) = false := by
  rw [List.all_eq_false]
  exact ⟨k, List.mem_range.2 hk, by simpa using h⟩
 rw [this, Bool.false_and]
theorem c4Y {cs : List CommitD} {i : Nat} (h : okS1 (cs.getD i default) = true) (h2 : ∀ k, k < (cs.getD i default).parents.length -> oneP i (cs.getD i default).parents k = true) : okCS cs i = true := by
 unfold okCS
 rw [h, Bool.and_true, List.all_eq_true]
 intro k hk
 exact h2 k (by simpa using hk)
theorem a0D (r : RepoD) : a0l r = a0j r := by
 have h : ∀ i, okCI r.commits i = okCS r.commits i := by
  intro i
  unfold okCI okCS okI1 okS1
  generalize r.commits.getD i default = c
  rw [a3J]
  rw [Bool.eq_iff_iff]
  simp only [Bool.and_eq_true, List.all_eq_true, List.mem_range, decide_eq_true_eq, oneP, Bool.not_eq_true', Bool.and_eq_false_iff, decide_eq_false_iff_not]
  constructor
  ·rintro ⟨⟨⟨⟨h1, h2⟩, h3⟩, h4⟩, h5⟩
   refine ⟨fun k hk => ⟨h5 k hk, ?_⟩, ⟨h1, h3⟩, h4⟩
   by_cases h0 : k = 0
   ·exact .inl (by omega)
   ·right
    have : k = 1 := by omega
    subst this
    rcases h2 with h2 | h2
    ·omega
    ·exact fun e => h2 e.symm
  ·rintro ⟨h1, ⟨h2, h3⟩, h4⟩
   refine ⟨⟨⟨⟨h2, ?_⟩, h3⟩, h4⟩, fun k hk => (h1 k hk).1⟩
   by_cases h0 : c.parents.length = 2
   ·right
    rcases (h1 1 (by omega)).2 with h5 | h5
    ·omega
    ·exact fun e => h5 e.symm
   ·exact .inl h0
 rw [Bool.eq_iff_iff, a4A, a0T]
 simp only [h]
 exact ⟨fun ⟨a, b, c⟩ => ⟨b, c, a⟩, fun ⟨b, c, a⟩ => ⟨a, b, c⟩⟩
def a9N : Con := .fn 26 (List Str × List Str) (fun a => [.sl true 1 (a0a a.1), .sl true 1 (a0a a.2)]) (fun _ => True) (fun a => .bool (decide (a.1 = a.2))) (fun _ => [])
theorem b2d : Has Tryz.prog 228 a9N := by
 refine a0d mixed a0h HasL.nil [0, 1, 4, 5] ((fun a n (_ : Nat) => (fun a _ => ⟨Nat, fun i => ⟨[(0, true, .sl true 1 (a0a a.1)), (1, true, .sl true 1 (a0a a.2)), (4, true, .bool false), (5, true, .int .i64 i)], []⟩, fun i => i <= a.1.length /\ a.1.length = a.2.length /\ a.1.take i = a.2.take i, fun i => a.1.length - i⟩) a n)) [] Tryz.func228 (by unfold Tryz.f228; rfl) (fun _ => ⟨(), trivial⟩) ?_
 intro a _
 obtain ⟨l, r⟩ := a
 simp -implicitDefEqProofs [a9N, Con.fn, tTab]
 try dsimp only
 try simp +contextual -implicitDefEqProofs [eStr, a0z, a0M, a0W, a0N, List.getElem?_eq_getElem, a0O, a0F, a0J, a0E, <- a0o, <- a0p, a0v, a0C, a0B, a0A, a0y, a0t, and_assoc]
 repeat' (first | intro _ | apply And.intro)
 all_goals first | omega | grind [a1c, a5V, a9a]
def getL : List FileD -> Str -> List Str × Bool
 | [], _ => ([], false)
 | f :: l, p => if f.path = p then (f.text, true) else getL l p
def b5s : Con := .fn 25 (List FileD × Str) (fun a => [.sl true 2 (a0b a.1), .str a.2]) (fun _ => True) (fun a => .tup [.sl true 1 (a0a (getL a.1 a.2).1), .bool (getL a.1 a.2).2]) (fun _ => [])
theorem c2i : Has Tryz.prog 112 b5s := by
 refine a0d mixed a0h HasL.nil [0, 1, 4, 5, 6] ((fun a n (_ : Nat) => (fun a _ => ⟨Nat, fun i => ⟨[(0, true, .sl true 2 (a0b a.1)), (1, true, .str a.2), (4, true, .nil), (5, true, .bool false), (6, true, .int .i64 i)], []⟩, fun i => i <= a.1.length /\ getL (a.1.drop i) a.2 = getL a.1 a.2, fun i => a.1.length - i⟩) a n)) [] Tryz.func112 (by unfold Tryz.f112; rfl) (fun _ => ⟨(), trivial⟩) ?_
 intro a _
 obtain ⟨t, p⟩ := a
 have e1 : ∀ i (h : i < t.length), getL (t.drop i) p = if t[i].path = p then (t[i].text, true) else getL (t.drop (i + 1)) p := fun i h => by rw [List.drop_eq_getElem_cons h]; rfl
 have e2 : ∀ i, t.length <= i -> getL (t.drop i) p = ([], false) := fun i h => by rw [List.drop_eq_nil_of_le h]; rfl
 simp -implicitDefEqProofs [b5s, Con.fn, tTab]
 try dsimp only
 refine fun i hi hpre _ => ⟨fun hlt => ?_, fun hge => ?_⟩
 ·have g := e1 i hlt
  rw [hpre] at g
  simp -implicitDefEqProofs [hlt, a0z, D.asStr, D.asRows, and_assoc]
  refine ⟨fun h => ?_, fun h => ⟨by omega, by omega, fun _ _ => ⟨i + 1, by omega, by omega, ?_, by omega⟩⟩⟩
  ·rw [g, if_pos h]; exact ⟨rfl, rfl⟩
  ·rw [g, if_neg h]
 ·rw [<- hpre, e2 i hge]; exact ⟨rfl, rfl⟩
def atL : List HeadD -> Str -> Int
 | [], _ => -1
 | h :: l, n => if h.name = n then h.at_ else atL l n
def a4K : Con := .fn 27 (RepoD × Str) (fun a => [a0V a.1, .str a.2]) (fun _ => True) (fun a => .int .i64 (atL a.1.heads a.2)) (fun _ => [])
theorem a3n : Has Tryz.prog 90 a4K := by
 refine a0d mixed a0h HasL.nil [0, 1, 2, 4, 5] ((fun a n (_ : Nat) => (fun a _ => ⟨Nat, fun i => ⟨[(1, true, .str a.2), (2, true, .ptr 10 0), (4, true, .int .i64 0), (5, true, .int .i64 i)], [(10, a1z a.1)]⟩, fun i => i <= a.1.heads.length /\ atL (a.1.heads.drop i) a.2 = atL a.1.heads a.2, fun i => a.1.heads.length - i⟩) a n)) [] Tryz.func90 (by unfold Tryz.f90; rfl) (fun _ => ⟨(), trivial⟩) ?_
 intro a _
 obtain ⟨r, p⟩ := a
 have e1 : ∀ i (h : i < r.heads.length), atL (r.heads.drop i) p = if r.heads[i].name = p then r.heads[i].at_ else atL (r.heads.drop (i + 1)) p := fun i h => by rw [List.drop_eq_getElem_cons h]; rfl
 have e2 : ∀ i, r.heads.length <= i -> atL (r.heads.drop i) p = -1 := fun i h => by rw [List.drop_eq_nil_of_le h]; rfl
 simp -implicitDefEqProofs [a4K, Con.fn, tTab, a0q]
 try dsimp only
 refine fun i hi hpre _ => ⟨fun hlt => ?_, fun hge => by rw [<- hpre, e2 i hge]⟩
 have g := e1 i hlt
 rw [hpre] at g
 simp -implicitDefEqProofs [hlt, a1f, D.asStr, D.asInt, and_assoc]
 refine ⟨fun h => ?_, fun h => ⟨by omega, by omega, fun _ _ => ⟨i + 1, by omega, by omega, ?_, by omega⟩⟩⟩
 ·rw [g, if_pos h]
 ·rw [g, if_neg h]
def a1r (p : Str) (f : FileD) : Bool := decide (f.path ≠ p) && !inB p f.path
def a9O : Con := .fn 39 (List FileD × Str) (fun a => [.sl true 2 (a0b a.1), .str a.2]) (fun a => a.1.length <= 1048576) (fun a => .sl false 2 (a0b (filB (a1r a.2) a.1))) (fun _ => [])
theorem b2h : Has Tryz.prog 226 a9O := by
 refine a0d mixed a0h (HasL.cons b1c HasL.nil) [0, 1, 4, 5, 6] ((fun a n (_ : Nat) => (fun a _ => ⟨Nat, fun i => ⟨[(0, true, .sl true 2 (a0b a.1)), (1, true, .str a.2), (4, true, .nil), (5, true, .own 9 2 (a0b (filB (a1r a.2) (a.1.take i)))), (6, true, .int .i64 i)], [(9, .own 39 2 false (a0b (filB (a1r a.2) (a.1.take i))))]⟩, fun i => i <= a.1.length, fun i => a.1.length - i⟩) a n)) [36] Tryz.func226 (by unfold Tryz.f226; rfl) (fun _ => ⟨(), trivial⟩) ?_
 intro a ha
 obtain ⟨t, p⟩ := a
 replace ha : t.length <= 1048576 := ha
 have e1 := fun i h => @c6G (a1r p) t i h
 have e2 := fun i h => @c4j (a1r p) t i h
 simp -implicitDefEqProofs [a9O, b1F, Con.fn, tTab]
 try dsimp only
 refine ⟨⟨0, by simp -implicitDefEqProofs [filB]⟩, fun i hi _ => ⟨fun hlt => ?_, fun hge => ?_⟩⟩
 ·have g1 := e1 i hlt
  have g2 := e2 i hlt
  have hl : (filB (a1r p) (t.take i)).length <= 1048576 := by have := List.length_filter_le (a1r p) (t.take i); unfold filB; simp at this ⊢; omega
  simp -implicitDefEqProofs [hlt, a0z, D.asStr, D.asRows, and_assoc]
  refine ⟨fun h => ⟨fun hi2 => ⟨by omega, by omega, by omega, by omega, fun _ _ => ⟨i + 1, ?_, by omega, ?_, by omega, by omega⟩⟩, fun hi2 => ⟨by omega, by omega, fun _ _ => ⟨i + 1, ?_, by omega, ?_, by omega, by omega⟩⟩⟩, fun h => ⟨by omega, by omega, fun _ _ => ⟨i + 1, ?_, by omega, ?_, by omega, by omega⟩⟩⟩
  ·rw [g1 (by simp -implicitDefEqProofs [a1r, h, hi2])]; simp -implicitDefEqProofs [a0b, a0z]
  ·rw [g1 (by simp -implicitDefEqProofs [a1r, h, hi2])]; simp -implicitDefEqProofs [a0b, a0z]
  ·rw [g2 (by simp -implicitDefEqProofs [a1r, h, hi2])]
  ·rw [g2 (by simp -implicitDefEqProofs [a1r, h, hi2])]
  ·rw [g2 (by simp -implicitDefEqProofs [a1r, h])]
  ·rw [g2 (by simp -implicitDefEqProofs [a1r, h])]
 ·rw [List.take_of_length_le hge]
def lcs : List Str -> List Str -> Int
 | [], _ => 0
 | _ :: _, [] => 0
 | x :: a, y :: b => if x = y then lcs a b + 1 else if lcs (x :: a) b <= lcs a (y :: b) then lcs a (y :: b) else lcs (x :: a) b
termination_by a b => a.length + b.length
def eRow (r : List Int) : List D := [.sl 3 1 (a0f r)]
def a1g (t : List (List Int)) : List (List D) := t.map eRow
@[simp] theorem eRows_length (l : List (List Int)) : (a1g l).length = l.length := by simp -implicitDefEqProofs [a1g]
@[simp] theorem eRows_nil : a1g [] = [] := rfl
@[simp] theorem eRows_get (l : List (List Int)) (i : Nat) : (a1g l)[i]? = l[i]?.map eRow := by simp -implicitDefEqProofs [a1g]
def tabF (a b : List Str) (p q : Nat) : List (List Int) := (List.range (a.length + 1)).map fun r => (List.range (b.length + 1)).map fun c => if p <= r \/ (r + 1 = p /\ q <= c) then lcs (a.drop r) (b.drop c) else 0
theorem b6F (i n : Nat) : a1g (List.replicate (i + 1) (List.replicate (n + 1) 0)) = a1g (List.replicate i (List.replicate (n + 1) 0)) ++ [[D.sl 3 1 (List.replicate (n + 1) [D.int .i64 0])]] := by
 rw [List.replicate_succ']
 simp -implicitDefEqProofs [a1g, eRow, a0f, eInt]
theorem b0f {a b : List Str} {p q : Nat} : (tabF a b p q).length = a.length + 1 := by simp -implicitDefEqProofs [tabF]
def tabR (a b : List Str) (p q r : Nat) : List Int := (List.range (b.length + 1)).map fun c => if p <= r \/ (r + 1 = p /\ q <= c) then lcs (a.drop r) (b.drop c) else 0
theorem a4C {a b : List Str} {p q r : Nat} (h : r <= a.length) : (tabF a b p q)[r]? = some (tabR a b p q r) := by
 simp -implicitDefEqProofs [tabF, tabR, List.getElem?_map, List.getElem?_range (show r < a.length + 1 by omega)]
theorem c2q (b : List Str) : lcs [] b = 0 := by rw [lcs]
theorem c2r (a : List Str) : lcs a [] = 0 := by cases a <;> rw [lcs]
theorem a6J {a b : List Str} {i : Nat} (h : a.length + 1 = i) : tabF a b a.length (b.length + 1) = List.replicate i (List.replicate (b.length + 1) 0) := by
 subst h
 apply List.ext_getElem
 ·simp -implicitDefEqProofs [tabF]
 ·intro r h1 h2
  apply List.ext_getElem
  ·simp -implicitDefEqProofs [tabF]
  ·intro c h3 h4
   simp only [tabF, List.getElem_map, List.getElem_range, List.getElem_replicate]
   split
   ·rename_i h5
    have h6 : a.drop r = [] := by
     rcases h5 with h5 | ⟨_, h5⟩
     ·exact List.drop_eq_nil_of_le h5
     ·simp -implicitDefEqProofs [tabF] at h3; omega
    rw [h6, c2q]
   ·rfl
theorem b0e {a b : List Str} {p : Nat} : tabF a b p b.length = tabF a b p (b.length + 1) := by
 unfold tabF
 apply List.map_congr_left
 intro r _
 apply List.map_congr_left
 intro c hc
 have hc : c < b.length + 1 := by simpa using hc
 by_cases h : p <= r
 ·rw [if_pos (.inl h), if_pos (.inl h)]
 ·by_cases h2 : r + 1 = p /\ b.length <= c
  ·rw [if_pos (.inr h2), if_neg (by omega), List.drop_eq_nil_of_le h2.2, c2r]
  ·rw [if_neg (by omega), if_neg (by omega)]
theorem a8u {a b : List Str} {p : Nat} (h : 0 < p) : tabF a b (p - 1) (b.length + 1) = tabF a b p 0 := by
 unfold tabF
 apply List.map_congr_left
 intro r _
 apply List.map_congr_left
 intro c hc
 have hc : c < b.length + 1 := by simpa using hc
 by_cases h2 : p <= r + 1
 ·rw [if_pos (.inl (by omega)), if_pos (by omega)]
 ·rw [if_neg (by omega), if_neg (by omega)]
theorem b6Q {a b : List Str} {q : Nat} : tabF a b 0 q = tabF a b 0 0 := by
 unfold tabF
 apply List.map_congr_left
 intro r _
 apply List.map_congr_left
 intro c _
 rw [if_pos (.inl (Nat.zero_le _)), if_pos (.inl (Nat.zero_le _))]
theorem a3U {a b : List Str} {p q r : Nat} : (tabR a b p q r).length = b.length + 1 := by simp -implicitDefEqProofs [tabR]
theorem a2X {a b : List Str} {p q r c : Nat} (h : c <= b.length) : (tabR a b p q r)[c]? = some (if p <= r \/ (r + 1 = p /\ q <= c) then lcs (a.drop r) (b.drop c) else 0) := by
 simp -implicitDefEqProofs [tabR, List.getElem?_map, List.getElem?_range (show c < b.length + 1 by omega)]
theorem a7q (a b : List Str) : 0 <= lcs a b /\ lcs a b <= a.length := by
 fun_induction lcs a b
 ·simp
 ·simp; omega
 ·simp_all; omega
 ·simp_all; omega
 ·simp_all
theorem b6g {a b : List Str} {p q : Nat} (hp : 0 < p) (hp2 : p <= a.length) (hq : 0 < q) (hq2 : q <= b.length) : lcs (a.drop (p - 1)) (b.drop (q - 1)) = if a[p - 1] = b[q - 1] then lcs (a.drop p) (b.drop q) + 1 else if lcs (a.drop (p - 1)) (b.drop q) <= lcs (a.drop p) (b.drop (q - 1)) then lcs (a.drop p) (b.drop (q - 1)) else lcs (a.drop (p - 1)) (b.drop q) := by
 have e1 : a.drop (p - 1) = a[p - 1] :: a.drop p := by rw [List.drop_eq_getElem_cons (show p - 1 < a.length by omega), show p - 1 + 1 = p by omega]
 have e2 : b.drop (q - 1) = b[q - 1] :: b.drop q := by rw [List.drop_eq_getElem_cons (show q - 1 < b.length by omega), show q - 1 + 1 = q by omega]
 rw [e1, e2, lcs]
theorem b8J {a b : List Str} {p q : Nat} (hp : 0 < p) (hp2 : p <= a.length) (hq : 0 < q) (hq2 : q <= b.length) : ∀ v, v = lcs (a.drop (p - 1)) (b.drop (q - 1)) -> (a1g (tabF a b p q)).set (p - 1) [D.sl 3 1 ((a0f (tabR a b p q (p - 1))).set (q - 1) [D.int .i64 v])] = a1g (tabF a b p (q - 1)) := by
 intro v hv
 have e : (tabF a b p q).set (p - 1) ((tabR a b p q (p - 1)).set (q - 1) v) = tabF a b p (q - 1) := by
  apply List.ext_getElem
  ·simp -implicitDefEqProofs [tabF]
  ·intro r h1 h2
   rw [List.getElem_set]
   split
   ·rename_i hr
    subst hr
    apply List.ext_getElem
    ·simp -implicitDefEqProofs [tabF, tabR]
    ·intro c h3 h4
     rw [List.getElem_set]
     split
     ·rename_i hc
      subst hc
      simp only [tabF, List.getElem_map, List.getElem_range]
      rw [if_pos (by omega), hv]
     ·rename_i hc
      simp only [tabF, tabR, List.getElem_map, List.getElem_range]
      by_cases h : p <= p - 1 \/ (p - 1 + 1 = p /\ q <= c)
      ·rw [if_pos h, if_pos (by omega)]
      ·rw [if_neg h, if_neg (by omega)]
   ·rename_i hr
    simp only [tabF, List.getElem_map, List.getElem_range]
    apply List.map_congr_left
    intro c _
    by_cases h : p <= r \/ (r + 1 = p /\ q <= c)
    ·rw [if_pos h, if_pos (by omega)]
    ·rw [if_neg h, if_neg (by omega)]
 rw [<- e]
 simp -implicitDefEqProofs [a1g, eRow, a0f, List.map_set, eInt]
def l1tA (a b : List Str) : Inv := ⟨Nat, fun i => ⟨[(0, true, .sl true 1 (a0a a)), (1, true, .sl true 1 (a0a b)), (4, true, .nil), (5, true, .own 9 1 (a1g (List.replicate i (List.replicate (b.length + 1) 0)))), (6, true, .int .i64 i)], [(9, .own 32 1 true (a1g (List.replicate i (List.replicate (b.length + 1) 0))))]⟩, fun i => i <= a.length + 1, fun i => a.length + 1 - i⟩
def l1tB (a b : List Str) : Inv := ⟨Nat, fun p => ⟨[(0, true, .sl true 1 (a0a a)), (1, true, .sl true 1 (a0a b)), (4, true, .nil), (5, true, .own 9 1 (a1g (tabF a b p (b.length + 1)))), (7, true, .int .i64 ((p : Int) - 1))], [(9, .own 32 1 true (a1g (tabF a b p (b.length + 1))))]⟩, fun p => p <= a.length, fun p => p⟩
def l1tC (a b : List Str) (g : Nat) : Inv := ⟨Nat, fun q => ⟨[(0, true, .sl true 1 (a0a a)), (1, true, .sl true 1 (a0a b)), (4, true, .nil), (5, true, .own 9 1 (a1g (tabF a b g q))), (7, true, .int .i64 ((g : Int) - 1)), (8, true, .int .i64 ((q : Int) - 1))], [(9, .own 32 1 true (a1g (tabF a b g q)))]⟩, fun q => q <= b.length /\ 0 < g /\ g <= a.length, fun q => q⟩
def b2e (a b : List Str) (n g : Nat) : Inv := if n = 3 then l1tA a b else if n = 7 then l1tB a b else l1tC a b g
theorem c4z (a b g) : b2e a b 3 g = l1tA a b := rfl
theorem c4A (a b g) : b2e a b 7 g = l1tB a b := rfl
theorem c2g (a b g) : b2e a b 10 g = l1tC a b g := rfl
def b0L : Con := .fn 110 (List Str × List Str) (fun a => [.sl true 1 (a0a a.1), .sl true 1 (a0a a.2)]) (fun a => a.1.length <= 1048576 /\ a.2.length <= 1048576) (fun a => .own 8 1 (a1g (tabF a.1 a.2 0 0))) (fun a => [(8, .own 32 1 true (a1g (tabF a.1 a.2 0 0)))])
theorem b7E : Has Tryz.prog 113 b0L := by
 refine a0d mixed a0h HasL.nil [0, 1, 4, 5, 6, 7, 8] (fun a => b2e a.1 a.2) [] Tryz.func113 (by unfold Tryz.f113; rfl) (fun _ => ⟨(), trivial⟩) ?_
 intro a ha
 obtain ⟨a, b⟩ := a
 obtain ⟨h1, h2⟩ : a.length <= 1048576 /\ b.length <= 1048576 := ha
 simp (maxSteps := 4000000) [b0L, Con.fn, tTab, c4z, c4A, c2g, l1tA, l1tB, l1tC]
 try dsimp only
 refine ⟨⟨0, by simp⟩, fun i hi _ => ⟨fun hlt _ => ⟨by omega, fun _ _ => ⟨by omega, fun _ _ _ => ⟨by omega, by omega, fun _ _ => ⟨i + 1, ⟨⟨?_, by omega⟩, ?_⟩, by omega, by omega⟩⟩⟩⟩, fun hge _ => ⟨by omega, fun _ _ => ⟨⟨a.length, ⟨⟨?_, rfl⟩, ?_⟩, Nat.le_refl _⟩, fun p hp => ⟨fun h1p _ => ⟨by omega, fun _ _ => ⟨p, ⟨b.length, ⟨⟨?_, rfl, rfl⟩, ?_⟩, Nat.le_refl _, by omega, hp⟩, fun q hq hg hga => ⟨fun hq1 => ?_, fun hq0 => ⟨by omega, fun _ _ => ⟨p - 1, ⟨⟨?_, by omega⟩, ?_⟩, by omega, by omega⟩⟩⟩⟩⟩, fun hp0 => ?_⟩⟩⟩⟩⟩
 ·rw [b6F]
 ·rw [b6F]
 ·rw [a6J (show a.length + 1 = i by omega)]
 ·rw [a6J (show a.length + 1 = i by omega)]
 ·rw [b0e]
 ·rw [b0e]
 ·obtain ⟨T, hT⟩ : ∃ T, T = tabF a b p q := ⟨_, rfl⟩
  have t1 := @b0f a b p q
  have t2 := a4C (a := a) (b := b) (p := p) (q := q) (r := p) (by omega)
  have t3 := a4C (a := a) (b := b) (p := p) (q := q) (r := p - 1) (by omega)
  have t4 : a[p - 1]? = some a[p - 1] := List.getElem?_eq_getElem (by omega)
  have t5 : b[q - 1]? = some b[q - 1] := List.getElem?_eq_getElem (by omega)
  have u1 := @a3U a b p q p
  have u2 := @a3U a b p q (p - 1)
  have u3 : (tabR a b p q p)[q]? = some (lcs (a.drop p) (b.drop q)) := by rw [a2X (by omega), if_pos (by omega)]
  have u4 : (tabR a b p q p)[q - 1]? = some (lcs (a.drop p) (b.drop (q - 1))) := by rw [a2X (by omega), if_pos (by omega)]
  have u5 : (tabR a b p q (p - 1))[q]? = some (lcs (a.drop (p - 1)) (b.drop q)) := by rw [a2X (by omega), if_pos (by omega)]
  have v1 := a7q (a.drop p) (b.drop q)
  have v2 := a7q (a.drop p) (b.drop (q - 1))
  have v3 := a7q (a.drop (p - 1)) (b.drop q)
  have v4 : (a.drop p).length <= a.length := by simp
  have v5 : (a.drop (p - 1)).length <= a.length := by simp
  have w1 := b8J (a := a) (b := b) (p := p) (q := q) hg hga (by omega) hq
  have w2 := b6g (a := a) (b := b) (p := p) (q := q) hg hga (by omega) hq
  rw [<- hT] at t1 t2 t3 w1 ⊢
  clear hT
  generalize lcs (a.drop p) (b.drop q) = L11 at *
  generalize lcs (a.drop p) (b.drop (q - 1)) = L10 at *
  generalize lcs (a.drop (p - 1)) (b.drop q) = L01 at *
  generalize tabR a b p q p = rB at *
  generalize tabR a b p q (p - 1) = rA at *
  simp -implicitDefEqProofs [t1, t2, t3, t4, t5, u1, u2, u3, u4, u5, eInt, eStr, D.asStr, eRow, D.asRows, D.asInt, and_assoc]
  have fin : ∀ v, v = lcs (a.drop (p - 1)) (b.drop (q - 1)) -> ∃ t', a1g (tabF a b p t') = (a1g T).set (p - 1) [D.sl 3 1 ((a0f rA).set (q - 1) [D.int .i64 v])] /\ (t' : Int) = q - 1 /\ (a1g T).set (p - 1) [D.sl 3 1 ((a0f rA).set (q - 1) [D.int .i64 v])] = a1g (tabF a b p t') /\ t' <= b.length /\ 0 < p /\ p <= a.length /\ t' < q :=
   fun v hv => ⟨q - 1, (w1 v hv).symm, by omega, w1 v hv, by omega, hg, hga, by omega⟩
  repeat' (first | intro _ | apply And.intro)
  all_goals first | omega | exact fin _ (by rw [w2, if_pos (by assumption)]) | exact fin _ (by rw [w2, if_neg (by assumption), if_pos (by assumption)]) | exact fin _ (by rw [w2, if_neg (by assumption), if_neg (by omega)])
 ·rw [show q = 0 by omega, a8u (by omega)]
 ·rw [show q = 0 by omega, a8u (by omega)]
 ·rw [show p = 0 by omega, b6Q]; exact ⟨rfl, rfl⟩
def mt : List Str -> List Str -> Nat -> List Int
 | [], _, _ => []
 | _ :: a, [], k => -1 :: mt a [] k
 | x :: a, y :: b, k => if x = y then (k : Int) :: mt a b (k + 1) else if lcs (x :: a) b <= lcs a (y :: b) then -1 :: mt a (y :: b) k else mt (x :: a) b (k + 1)
termination_by a b => a.length + b.length
theorem a4T (a b : List Str) (k : Nat) : (mt a b k).length = a.length := by
 fun_induction mt a b k <;> simp_all
theorem c2v {a b : List Str} {i k : Nat} (h : i < a.length) (hk : b.length <= k) : mt (a.drop i) (b.drop k) k = -1 :: mt (a.drop (i + 1)) (b.drop k) k := by
 rw [List.drop_eq_getElem_cons h, List.drop_eq_nil_of_le hk, mt]
theorem b8u {a b : List Str} {i k : Nat} (h : i < a.length) (hk : k < b.length) : mt (a.drop i) (b.drop k) k = if a[i] = b[k] then (k : Int) :: mt (a.drop (i + 1)) (b.drop (k + 1)) (k + 1) else if lcs (a.drop i) (b.drop (k + 1)) <= lcs (a.drop (i + 1)) (b.drop k) then -1 :: mt (a.drop (i + 1)) (b.drop k) k else mt (a.drop i) (b.drop (k + 1)) (k + 1) := by
 have e1 : a.drop i = a[i] :: a.drop (i + 1) := List.drop_eq_getElem_cons h
 have e2 : b.drop k = b[k] :: b.drop (k + 1) := List.drop_eq_getElem_cons hk
 rw [e1, e2, mt]
theorem a4l (o : List Int) (v : Int) : a0f (o ++ [v]) = a0f o ++ [[D.int .i64 v]] := by simp -implicitDefEqProofs [a0f, eInt]
def l1m (a b : List Str) : Inv := ⟨Nat × Nat × List Int, fun t => ⟨[(0, true, .sl true 1 (a0a a)), (1, true, .sl true 1 (a0a b)), (4, true, .nil), (5, true, .own 9 1 (a1g (tabF a b 0 0))), (6, true, .own 10 1 (a0f t.2.2)), (7, true, .int .i64 t.2.1), (8, true, .int .i64 t.1)], [(9, .own 32 1 true (a1g (tabF a b 0 0))), (10, .own 3 1 true (a0f t.2.2))]⟩,
 fun t => t.1 <= a.length /\ t.2.1 <= b.length /\ t.2.2.length = t.1 /\ t.2.2 ++ mt (a.drop t.1) (b.drop t.2.1) t.2.1 = mt a b 0, fun t => (a.length - t.1) + (b.length - t.2.1)⟩
def b0K : Con := .fn 73 (List Str × List Str) (fun a => [.sl true 1 (a0a a.1), .sl true 1 (a0a a.2)]) (fun a => a.1.length <= 1048576 /\ a.2.length <= 1048576) (fun a => .own 8 1 (a0f (mt a.1 a.2 0))) (fun a => a3d 8 (mt a.1 a.2 0))
theorem b7D : Has Tryz.prog 229 b0K := by
 refine a0d mixed a0h (HasL.cons b7E HasL.nil) [0, 1, 4, 5, 6, 7, 8] ((fun a n (_ : Nat) => (fun a _ => l1m a.1 a.2) a n)) [] Tryz.func229 (by unfold Tryz.f229; rfl) (fun _ => ⟨(), trivial⟩) ?_
 intro a ha
 obtain ⟨a, b⟩ := a
 obtain ⟨h1, h2⟩ : a.length <= 1048576 /\ b.length <= 1048576 := ha
 simp (maxSteps := 4000000) [b0K, b0L, Con.fn, tTab, l1m]
 try dsimp only
 refine ⟨a, b, ⟨rfl, rfl⟩, ⟨h1, h2⟩, ⟨0, 0, [], ⟨⟨rfl, rfl, rfl, rfl⟩, rfl, rfl⟩, Nat.zero_le _, Nat.zero_le _, rfl, by simp⟩, fun i k out hi hk hl hm _ => ⟨fun hlt => ?_, fun hge => ?_⟩⟩
 ·have t1 := @b0f a b 0 0
  have t2 := a4C (a := a) (b := b) (p := 0) (q := 0) (r := i) (by omega)
  have t3 := a4C (a := a) (b := b) (p := 0) (q := 0) (r := i + 1) (by omega)
  have u1 := @a3U a b 0 0 i
  have u2 := @a3U a b 0 0 (i + 1)
  have t4 : a[i]? = some a[i] := List.getElem?_eq_getElem hlt
  have m0 := c2v (a := a) (b := b) (i := i) (k := k) hlt
  rcases Nat.lt_or_ge k b.length with hkb | hkb
  ·have t5 : b[k]? = some b[k] := List.getElem?_eq_getElem hkb
   have u3 : (tabR a b 0 0 (i + 1))[k]? = some (lcs (a.drop (i + 1)) (b.drop k)) := by rw [a2X (by omega), if_pos (by omega)]
   have u4 : (tabR a b 0 0 i)[k + 1]? = some (lcs (a.drop i) (b.drop (k + 1))) := by rw [a2X (by omega), if_pos (by omega)]
   have m1 := b8u (a := a) (b := b) (i := i) (k := k) hlt hkb
   generalize tabF a b 0 0 = T at *
   generalize tabR a b 0 0 i = rA at *
   generalize tabR a b 0 0 (i + 1) = rB at *
   generalize lcs (a.drop (i + 1)) (b.drop k) = L1 at *
   generalize lcs (a.drop i) (b.drop (k + 1)) = L2 at *
   have g1 : ¬ b.length <= k := by omega
   obtain ⟨_, u6⟩ := List.getElem?_eq_some_iff.1 u4
   simp -implicitDefEqProofs [hkb, g1, t1, t2, t3, t4, t5, u1, u2, u3, u4, u6, eInt, eStr, D.asStr, eRow, D.asRows, D.asInt, and_assoc]
   refine ⟨hlt, fun _ => ⟨fun e => ⟨by omega, by omega, by omega, by omega, fun _ _ => ⟨by omega, by omega, fun _ _ => ⟨i + 1, k + 1, out ++ [(k : Int)], a4l _ _, by omega, by omega, (a4l _ _).symm, by omega, by omega, by simp -implicitDefEqProofs [hl], ?_, by omega⟩⟩⟩, fun e => ⟨by omega, by omega, fun _ _ => ⟨by omega, by omega, fun _ _ => ⟨by omega, fun _ => ⟨by omega, fun _ => ⟨by omega, by omega, fun _ _ => ⟨by omega, fun _ => ⟨fun c => ⟨by omega, by omega, by omega, by omega, fun _ _ => ⟨i + 1, k, out ++ [-1], a4l _ _, by omega, by omega, (a4l _ _).symm, by omega, by omega, by simp -implicitDefEqProofs [hl], ?_, by omega⟩⟩, fun c => ⟨by omega, by omega, fun _ _ => ⟨i, k + 1, by omega, by omega, by omega, by omega, hl, ?_, by omega⟩⟩⟩⟩⟩⟩⟩⟩⟩⟩⟩
   ·rw [<- hm, m1, if_pos e]; simp
   ·rw [<- hm, m1, if_neg e, if_pos c]; simp
   ·rw [<- hm, m1, if_neg e, if_neg (by omega)]
  ·have g1 : ¬ k < b.length := by omega
   simp -implicitDefEqProofs [hkb, g1, t4, eStr, D.asStr, and_assoc]
   refine ⟨by omega, by omega, by omega, by omega, fun _ _ => ⟨i + 1, k, out ++ [-1], a4l _ _, by omega, by omega, (a4l _ _).symm, by omega, by omega, by simp -implicitDefEqProofs [hl], ?_, by omega⟩⟩
   rw [<- hm, m0 (by omega)]; simp
 ·rw [List.drop_eq_nil_of_le hge, mt, List.append_nil] at hm
  exact ⟨hm.symm, hm⟩
structure PartD where
 clash : Bool
 lines : List Str
 old : List Str
 one : List Str
 two : List Str
 deriving DecidableEq, Inhabited
def a1Q (a : PartD) : List D := [.bool a.clash, .sl 9 1 (a0a a.lines), .sl 9 1 (a0a a.old), .sl 9 1 (a0a a.one), .sl 9 1 (a0a a.two)]
@[simp] theorem ePart_inj (a b : PartD) : (a1Q a = a1Q b) = (a = b) := by
 cases a; cases b; simp -implicitDefEqProofs [a1Q]
@[simp] theorem PartD.eta (a : PartD) : (⟨a.clash, a.lines, a.old, a.one, a.two⟩ : PartD) = a := rfl
theorem PartD.eq_iff (a b : PartD) : (a = b) = (a.clash = b.clash /\ a.lines = b.lines /\ a.old = b.old /\ a.one = b.one /\ a.two = b.two) := by
 cases a; cases b; simp
@[simp] theorem PartD.ex1 (x_clash : Bool) (x_lines : List Str) (x_old : List Str) (x_one : List Str) (x_two : List Str) (Q : PartD -> Prop) : (∃ a : PartD, a.clash = x_clash /\ a.lines = x_lines /\ a.old = x_old /\ a.one = x_one /\ a.two = x_two /\ Q a) = Q ⟨x_clash, x_lines, x_old, x_one, x_two⟩ := by
 apply propext
 constructor
 ·rintro ⟨⟨_, _, _, _, _⟩, rfl, rfl, rfl, rfl, rfl, h⟩; exact h
 ·intro h; exact ⟨⟨x_clash, x_lines, x_old, x_one, x_two⟩, rfl, rfl, rfl, rfl, rfl, h⟩
@[simp] theorem PartD.ex2 (x_clash : Bool) (x_lines : List Str) (x_old : List Str) (x_one : List Str) (x_two : List Str) (Q : PartD -> Prop) : (∃ a : PartD, (a.clash = x_clash /\ a.lines = x_lines /\ a.old = x_old /\ a.one = x_one /\ a.two = x_two) /\ Q a) = Q ⟨x_clash, x_lines, x_old, x_one, x_two⟩ := by
 apply propext
 constructor
 ·rintro ⟨⟨_, _, _, _, _⟩, ⟨rfl, rfl, rfl, rfl, rfl⟩, h⟩; exact h
 ·intro h; exact ⟨⟨x_clash, x_lines, x_old, x_one, x_two⟩, ⟨rfl, rfl, rfl, rfl, rfl⟩, h⟩
@[simp] theorem PartD.ex0 (x_clash : Bool) (x_lines : List Str) (x_old : List Str) (x_one : List Str) (x_two : List Str) : (∃ a : PartD, a.clash = x_clash /\ a.lines = x_lines /\ a.old = x_old /\ a.one = x_one /\ a.two = x_two) = True := by
 simp only [eq_iff_iff, iff_true]
 exact ⟨⟨x_clash, x_lines, x_old, x_one, x_two⟩, rfl, rfl, rfl, rfl, rfl⟩
def a0n (l : List PartD) : List (List D) := l.map a1Q
@[simp] theorem eParts_length (l : List PartD) : (a0n l).length = l.length := by simp -implicitDefEqProofs [a0n]
@[simp] theorem eParts_nil : a0n [] = [] := rfl
@[simp] theorem eParts_get (l : List PartD) (i : Nat) : (a0n l)[i]? = l[i]?.map a1Q := by simp -implicitDefEqProofs [a0n]
@[simp] theorem eParts_getElem (l : List PartD) (i : Nat) (h : i < (a0n l).length) : (a0n l)[i] = a1Q (l[i]'(by simpa using h)) := by simp -implicitDefEqProofs [a0n]
@[simp] theorem eParts_inj (a b : List PartD) : (a0n a = a0n b) = (a = b) := by
 apply propext
 constructor
 ·intro h
  exact List.map_inj_right (fun x y h => by simpa using h) |>.1 h
 ·rintro rfl; rfl
@[simp] theorem eParts_eq_nil (a : List PartD) : (a0n a = []) = (a = []) := by simp -implicitDefEqProofs [a0n]
@[simp] theorem nil_eq_eParts (a : List PartD) : ([] = a0n a) = (a = []) := by simp -implicitDefEqProofs [a0n, eq_comm]
theorem b4p (a b : List PartD) : a0n (a ++ b) = a0n a ++ a0n b := by simp -implicitDefEqProofs [a0n]
abbrev b1g (h : Nat) (a : List PartD) : List (Nat × Blk) := [(h, .own 122 5 true (a0n a))]
def a0Y (o a b : List Str) : PartD := if a = o \/ a = b then ⟨false, b, [], [], []⟩ else if b = o then ⟨false, a, [], [], []⟩ else ⟨true, [], o, a, b⟩
theorem b0s (o a b : List Str) : (a0Y o a b).lines.length <= a.length + b.length := by
 unfold a0Y
 split
 ·simp
 ·split <;> simp
def put3 (l : List PartD) (p : PartD) : List PartD :=
 if p.clash = false /\ p.lines = [] then l
 else match l.getLast? with
  | some q => if p.clash = false /\ q.clash = false then l.set (l.length - 1) ⟨q.clash, q.lines ++ p.lines, q.old, q.one, q.two⟩ else l ++ [p]
  | none => l ++ [p]
theorem a8m (l : List PartD) (p : PartD) : (put3 l p).length <= l.length + 1 := by
 unfold put3
 split
 ·omega
 ·split
  ·split <;> simp
  ·simp
theorem b0a {l : List PartD} {p : PartD} {n : Nat} (h : ∀ q ∈ l, q.lines.length <= n) : ∀ q ∈ put3 l p, q.lines.length <= n + p.lines.length := by
 intro q hq
 unfold put3 at hq
 split at hq
 ·have := h q hq; omega
 ·split at hq
  ·rename_i r hr
   split at hq
   ·rcases List.mem_or_eq_of_mem_set hq with hq | hq
    ·have := h q hq; omega
    ·subst hq
     have := h r (List.mem_of_getLast? hr)
     simp; omega
   ·rcases List.mem_append.1 hq with hq | hq
    ·have := h q hq; omega
    ·simp at hq; subst hq; omega
  ·rcases List.mem_append.1 hq with hq | hq
   ·have := h q hq; omega
   ·simp at hq; subst hq; omega
def asc : Int -> Int -> List Int -> Prop
 | _, _, [] => True
 | k, n, x :: l => (x < 0 /\ asc k n l) \/ (k <= x /\ x < n /\ asc (x + 1) n l)
theorem a7G : ∀ {l : List Int} {k k' n : Int}, k <= k' -> asc k' n l -> asc k n l
 | [], _, _, _, _, _ => trivial
 | x :: l, k, k', n, h, h2 => by
  rcases h2 with ⟨h3, h4⟩ | ⟨h3, h4, h5⟩
  ·exact .inl ⟨h3, a7G h h4⟩
  ·exact .inr ⟨by omega, h4, h5⟩
theorem b0A : ∀ {l : List Int} {k n : Int}, k <= n -> asc k n l -> asc k (n + 1) (l ++ [n])
 | [], k, n, h, _ => .inr ⟨h, by omega, trivial⟩
 | x :: l, k, n, h, h2 => by
  rcases h2 with ⟨h3, h4⟩ | ⟨h3, h4, h5⟩
  ·exact .inl ⟨h3, b0A h h4⟩
  ·exact .inr ⟨h3, by omega, b0A (by omega) h5⟩
theorem c7Z (a b : List Str) (k : Nat) : asc k (k + b.length) (mt a b k) := by
 fun_induction mt a b k with
 | case1 => trivial
 | case2 x a k ih => exact .inl ⟨by omega, ih⟩
 | case3 a y b k ih =>
  refine .inr ⟨by omega, by simp only [List.length_cons]; omega, ?_⟩
  have e : ((k + 1 : Nat) : Int) + b.length = k + (y :: b).length := by simp only [List.length_cons]; omega
  rw [e] at ih
  exact ih
 | case4 x a y b k h h2 ih => exact .inl ⟨by omega, ih⟩
 | case5 x a y b k h1 h2 ih =>
  have e : ((k + 1 : Nat) : Int) + b.length = k + (y :: b).length := by simp only [List.length_cons]; omega
  rw [e] at ih
  exact a7G (by omega) ih
def mtE (a b : List Str) : List Int := mt a b 0 ++ [(b.length : Int)]
theorem a4y (a b : List Str) : (mtE a b).length = a.length + 1 := by simp -implicitDefEqProofs [mtE, a4T]
theorem b8s (a b : List Str) : asc 0 (b.length + 1) (mtE a b) := by
 have h := c7Z a b 0
 have := b0A (k := 0) (n := b.length) (by omega) (by simpa using h)
 exact this
theorem a5w {l : List Int} {i : Nat} {k n : Int} (h : i < l.length) (ha : asc k n (l.drop i)) : (l[i] < 0 /\ asc k n (l.drop (i + 1))) \/ (k <= l[i] /\ l[i] < n /\ asc (l[i] + 1) n (l.drop (i + 1))) := by
 rw [List.drop_eq_getElem_cons h] at ha
 exact ha
structure S3 where
 io : Nat
 ia : Nat
 ib : Nat
 out : List PartD
def a2c (o a b : List Str) (x y : Int) (i : Nat) (s : S3) : S3 :=
 if x < 0 \/ y < 0 then s
 else ⟨i + 1, x.toNat + 1, y.toNat + 1,
  if i < o.length then put3 (put3 s.out (a0Y ((o.take i).drop s.io) ((a.take x.toNat).drop s.ia) ((b.take y.toNat).drop s.ib))) ⟨false, [o.getD i []], [], [], []⟩
  else put3 s.out (a0Y ((o.take i).drop s.io) ((a.take x.toNat).drop s.ia) ((b.take y.toNat).drop s.ib))⟩
def run3 (o a b : List Str) : Nat -> S3
 | 0 => ⟨0, 0, 0, []⟩
 | i + 1 => a2c o a b ((mtE o a).getD i 0) ((mtE o b).getD i 0) i (run3 o a b i)
def of3 (o a b : List Str) : List PartD := (run3 o a b (o.length + 1)).out
def Ok3 (o a b : List Str) (i : Nat) (s : S3) : Prop :=
 s.io <= i /\ s.ia <= a.length + 1 /\ s.ib <= b.length + 1 /\ asc s.ia (a.length + 1) ((mtE o a).drop i) /\ asc s.ib (b.length + 1) ((mtE o b).drop i) /\ s.out.length <= 2 * i /\ ∀ q ∈ s.out, q.lines.length <= s.io + s.ia + s.ib
theorem c8B (o a b : List Str) : Ok3 o a b 0 ⟨0, 0, 0, []⟩ := ⟨by simp, by simp, by simp, by simpa using b8s o a, by simpa using b8s o b, by simp, by simp⟩
theorem c4S {o a b : List Str} {i : Nat} {s : S3} (hi : i < o.length + 1) (h : Ok3 o a b i s) : Ok3 o a b (i + 1) (a2c o a b ((mtE o a).getD i 0) ((mtE o b).getD i 0) i s) := by
 obtain ⟨h1, h2, h3, h4, h5, h6, h7⟩ := h
 have la := a4y o a
 have lb := a4y o b
 have ga : (mtE o a).getD i 0 = (mtE o a)[i]'(by omega) := by simp -implicitDefEqProofs [List.getD_eq_getElem?_getD, List.getElem?_eq_getElem (show i < (mtE o a).length by omega)]
 have gb : (mtE o b).getD i 0 = (mtE o b)[i]'(by omega) := by simp -implicitDefEqProofs [List.getD_eq_getElem?_getD, List.getElem?_eq_getElem (show i < (mtE o b).length by omega)]
 rw [ga, gb]
 have h4 := a5w (l := mtE o a) (by omega) h4
 have h5 := a5w (l := mtE o b) (by omega) h5
 generalize (mtE o a)[i]'(by omega) = x at *
 generalize (mtE o b)[i]'(by omega) = y at *
 unfold a2c
 split
 ·rename_i hxy
  refine ⟨by omega, h2, h3, ?_, ?_, by omega, h7⟩
  ·rcases h4 with h4 | h4
   ·exact h4.2
   ·exact a7G (by omega) h4.2.2
  ·rcases h5 with h5 | h5
   ·exact h5.2
   ·exact a7G (by omega) h5.2.2
 ·rename_i hxy
  rcases h4 with h4 | ⟨h4, h41, h42⟩
  ·omega
  rcases h5 with h5 | ⟨h5, h51, h52⟩
  ·omega
  have ex : ((x.toNat + 1 : Nat) : Int) = x + 1 := by omega
  have ey : ((y.toNat + 1 : Nat) : Int) = y + 1 := by omega
  have b1 := b0s ((o.take i).drop s.io) ((a.take x.toNat).drop s.ia) ((b.take y.toNat).drop s.ib)
  have b2 := b0a (p := a0Y ((o.take i).drop s.io) ((a.take x.toNat).drop s.ia) ((b.take y.toNat).drop s.ib)) h7
  have b3 := a8m s.out (a0Y ((o.take i).drop s.io) ((a.take x.toNat).drop s.ia) ((b.take y.toNat).drop s.ib))
  generalize a0Y ((o.take i).drop s.io) ((a.take x.toNat).drop s.ia) ((b.take y.toNat).drop s.ib) = p at *
  have b1 : p.lines.length <= (x.toNat - s.ia) + (y.toNat - s.ib) := by
   refine Nat.le_trans b1 ?_
   simp only [List.length_drop, List.length_take]
   omega
  refine ⟨by simp, by simp; omega, by simp; omega, by simpa only [ex] using h42, by simpa only [ey] using h52, ?_, ?_⟩
  ·show (if i < o.length then _ else _ : List PartD).length <= _
   split
   ·have := a8m (put3 s.out p) ⟨false, [o.getD i []], [], [], []⟩
    omega
   ·omega
  ·show ∀ q ∈ (if i < o.length then _ else _ : List PartD), _
   split
   ·intro q hq
    have := b0a (p := ⟨false, [o.getD i []], [], [], []⟩) b2 q hq
    simp at this
    show q.lines.length <= (i + 1) + (x.toNat + 1) + (y.toNat + 1)
    omega
   ·intro q hq
    have := b2 q hq
    show q.lines.length <= (i + 1) + (x.toNat + 1) + (y.toNat + 1)
    omega
theorem a5k (o a b : List Str) : ∀ i, i <= o.length + 1 -> Ok3 o a b i (run3 o a b i)
 | 0, _ => c8B o a b
 | i + 1, h => c4S (by omega) (a5k o a b i (by omega))
def a1v (l : List PartD) : List Str × Bool := if l.any (·.clash) then ([], false) else if a1i (l.flatMap (·.lines)) then (l.flatMap (·.lines), true) else ([], false)
def rsO (r : RepoD) : Inv := ⟨Nat, fun i => ⟨[(1, true, .ptr 10 0), (2, true, .bool false), (3, true, .int .i64 i)], [(10, a1z r)]⟩, fun i => i <= r.commits.length /\ ∀ j, j < i -> okCS r.commits j = true, fun i => r.commits.length - i⟩
def rsI (r : RepoD) (g : Nat) : Inv := ⟨Nat, fun k => ⟨[(1, true, .ptr 10 0), (2, true, .bool false), (3, true, .int .i64 g), (4, true, .ptr 11 0), (5, true, .int .i64 k)], [(10, a1z r), (11, .box 34 [.sl true 1 (a0f (r.commits.getD g default).parents), .str (r.commits.getD g default).who, .sl true 2 (a0b (r.commits.getD g default).tree)])]⟩,
 fun k => g < r.commits.length /\ k <= (r.commits.getD g default).parents.length /\ (∀ j, j < g -> okCS r.commits j = true) /\ ∀ j, j < k -> oneP g (r.commits.getD g default).parents j = true, fun k => (r.commits.getD g default).parents.length - k⟩
def rsH (r : RepoD) : Inv := ⟨Nat, fun i => ⟨[(1, true, .ptr 10 0), (2, true, .bool false), (6, true, .int .i64 i)], [(10, a1z r)]⟩, fun i => i <= r.heads.length /\ (∀ j, j < r.commits.length -> okCS r.commits j = true) /\ ∀ j, j < i -> okHd r.commits.length r.heads j = true, fun i => r.heads.length - i⟩
def b4R (r : RepoD) (n g : Nat) : Inv := if n = 2 then rsO r else if n = 6 then rsI r g else rsH r
theorem c7p (r : RepoD) (g : Nat) : b4R r 2 g = rsO r := rfl
theorem c7q (r : RepoD) (g : Nat) : b4R r 6 g = rsI r g := rfl
theorem c5y (r : RepoD) (g : Nat) : b4R r 13 g = rsH r := rfl
def a4L : Con := .fn 126 RepoD (fun r => [a0V r]) (fun r => r.commits.length <= 1073741824) (fun r => .bool (a0j r)) (fun _ => [])
theorem a3p : Has Tryz.prog 60 a4L := by
 refine a0d mixed a0h (HasL.cons a3m (HasL.cons a4d (HasL.cons a6p HasL.nil))) [0, 1, 2, 3, 4, 5, 6] (fun r => b4R r) [] Tryz.func60 (by unfold Tryz.f60; rfl) (fun _ => ⟨(), trivial⟩) ?_
 intro (r : RepoD) hr
 replace hr : r.commits.length <= 1073741824 := hr
 have hN := fun i => @c5v r i
 have hN1 := fun i => @c4W r.commits i
 have hN2 := fun i k => @c4X r.commits i k
 have hY := fun i => @c4Y r.commits i
 have hM := fun i => @b3P r.commits.length r.heads i
 have hH := @c2Z r
 simp -implicitDefEqProofs [a4L, Con.fn, tTab, a4v, a7N, a4J, c7p, c7q, c5y, rsO, rsI, rsH, a0q]
 try dsimp only
 refine fun i hi hprev _ => ⟨fun hlt => ?_, fun hge => ?_⟩
 ·have e3 : Option.map a0k r.commits[i]? = some (a0k r.commits[i]) := by simp -implicitDefEqProofs [List.getElem?_eq_getElem hlt]
  have hgc : r.commits.getD i default = r.commits[i] := by simp -implicitDefEqProofs [List.getD_eq_getElem?_getD, hlt]
  have n0 := hN i hlt
  have n1 := hN1 i
  have n2 := hN2 i
  have n3 := hY i
  rw [hgc] at n1 n2 n3
  simp -implicitDefEqProofs [hlt, e3, a0k, D.asStr, D.asRows, a0W, and_assoc]
  try simp only [show r.commits[i]?.getD default = r.commits[i] by simp -implicitDefEqProofs [hlt]]
  generalize r.commits[i] = c at n1 n2 n3 ⊢
  clear hN hN1 hN2 hY hM hH e3 hgc
  refine ⟨hprev, fun t ht _ hinv _ => ⟨fun hlt2 => ?_, fun hge2 => ?_⟩⟩
  ·have qt : Option.map eInt c.parents[t]? = some (eInt c.parents[t]) := by simp -implicitDefEqProofs [List.getElem?_eq_getElem hlt2]
   have q0 : Option.map eInt c.parents[0]? = some (eInt (c.parents[0]'(by omega))) := by simp -implicitDefEqProofs [List.getElem?_eq_getElem (show 0 < c.parents.length by omega)]
   have o : oneP i c.parents t = ((decide (0 <= c.parents[t]) && decide (c.parents[t] <= (i : Int) - 1)) && !(decide (0 < t) && decide (c.parents[t] = c.parents[0]'(by omega)))) := by
    unfold oneP inN
    rw [show c.parents.getD t 0 = c.parents[t] by simp -implicitDefEqProofs [List.getD_eq_getElem?_getD, hlt2], show c.parents.getD 0 0 = c.parents[0]'(by omega) by simp -implicitDefEqProofs [List.getD_eq_getElem?_getD, show 0 < c.parents.length by omega]]
   have n7 : oneP i c.parents t = false -> a0j r = false := fun h => n0 (n2 t hlt2 h)
   have n8 : oneP i c.parents t = true -> ∀ j, j < t + 1 -> oneP i c.parents j = true := fun h j hj => by
    rcases Nat.lt_or_ge j t with h3 | h3
    ·exact hinv j h3
    ·have : j = t := by omega
     subst this; exact h
   simp -implicitDefEqProofs [qt, q0, eInt, hlt2]
   refine ⟨by omega, by omega, fun _ _ => ⟨fun h => ?_, fun g1 g2 => ⟨fun h0 => ⟨by omega, fun _ => ⟨fun he => n7 (by rw [o]; simp -implicitDefEqProofs [he, h0]), fun he => ⟨by omega, by omega, fun _ _ => ⟨t + 1, rfl, by omega, hprev, n8 (by rw [o]; simp -implicitDefEqProofs [g1, g2, he]), by omega⟩⟩⟩⟩,
    fun h0 => ⟨by omega, by omega, fun _ _ => ⟨t + 1, rfl, by omega, hprev, n8 (by rw [o, show decide (0 < t) = false by simp -implicitDefEqProofs [h0]]; simp -implicitDefEqProofs [g1, g2]), by omega⟩⟩⟩⟩⟩
   have : a0j r = false := n7 (by rw [o]; simp; omega)
   exact ⟨fun _ => this, fun _ => this⟩
  ·have n9 : okS1 c = false -> a0j r = false := fun h => n0 (n1 h)
   have n10 : okS1 c = true -> ∀ j, j < i + 1 -> okCS r.commits j = true := fun h j hj => by
    rcases Nat.lt_or_ge j i with h3 | h3
    ·exact hprev j h3
    ·have : j = i := by omega
     subst this
     exact n3 h (fun k hk => hinv k (by omega))
   refine fun _ => ⟨fun h => n9 (by simp -implicitDefEqProofs [okS1]; omega), fun h => ⟨fun hn => n9 (by simp -implicitDefEqProofs [okS1, hn]), fun hn => ⟨fun ht => n9 (by simp -implicitDefEqProofs [okS1, ht]), fun ht => ⟨by omega, by omega, fun _ _ => ⟨i + 1, rfl, by omega, n10 (by simp -implicitDefEqProofs [okS1, hn, ht]; omega), by omega⟩⟩⟩⟩⟩
 ·clear hN hN1 hN2 hY
  have hall : ∀ j, j < r.commits.length -> okCS r.commits j = true := fun j hj => hprev j (by omega)
  refine ⟨hall, fun t ht _ hinv _ => ⟨fun hlt2 => ?_, fun hge2 _ => ?_⟩⟩
  ·generalize hhs : r.heads = hs at *
   have e3 : Option.map a1f hs[t]? = some (a1f hs[t]) := by simp -implicitDefEqProofs [List.getElem?_eq_getElem hlt2]
   have e4 : Option.map a1f hs[t - 1]? = some (a1f (hs[t - 1]'(by omega))) := by simp -implicitDefEqProofs [List.getElem?_eq_getElem (show t - 1 < hs.length by omega)]
   have hh : okHd r.commits.length hs t = (a0Q hs[t].name && inN r.commits.length hs[t].at_ && (decide (t = 0) || Go.Op.bytesLess (hs[t - 1]'(by omega)).name hs[t].name)) := by
    unfold okHd
    rw [show hs.getD t default = hs[t] by simp -implicitDefEqProofs [List.getD_eq_getElem?_getD, hlt2], show hs.getD (t - 1) default = hs[t - 1]'(by omega) by simp -implicitDefEqProofs [List.getD_eq_getElem?_getD, show t - 1 < hs.length by omega]]
   have n7 : okHd r.commits.length hs t = false -> a0j r = false := fun h => hH (hM t hlt2 h)
   have n8 : okHd r.commits.length hs t = true -> ∀ j, j < t + 1 -> okHd r.commits.length hs j = true := fun h j hj => by
    rcases Nat.lt_or_ge j t with h3 | h3
    ·exact hinv j h3
    ·have : j = t := by omega
     subst this; exact h
   have hq := b6i hs[t].name (hs[t - 1]'(by omega)).name
   rw [a4e] at hh
   unfold leqS at hq
   rw [hh] at n7 n8
   unfold inN at n7 n8
   clear hh hH hM
   simp -implicitDefEqProofs [hlt2, e3, e4, a1f, D.asStr, D.asInt, a0W, and_assoc]
   try simp +contextual -implicitDefEqProofs [eStr, a0z, a0M, a0W, a0N, List.getElem?_eq_getElem, a0O, a0F, a0J, a0E, <- a0o, <- a0p, a0v, a0C, a0B, a0A, a0y, a0t, and_assoc, hlt2]
   clear e3 e4 hinv hprev
   repeat' (first | intro _ | apply And.intro)
   all_goals first | omega | grind -ring
  ·have h2 : a1U r.commits.length r.heads = decide (r.heads.length <= 5) := by
    unfold a1U
    have : (List.range r.heads.length).all (okHd r.commits.length r.heads) = true := by
     rw [List.all_eq_true]
     intro j hj
     have hj' : j < r.heads.length := by simpa using hj
     exact hinv j (by omega)
    rw [this, Bool.and_true]
   refine ⟨fun h16 _ => ?_, fun h16 => ?_⟩
   ·rw [Bool.eq_iff_iff, a0T, h2]
    simp only [decide_eq_true_eq]
    exact ⟨fun h => by have := h.2.1; omega, fun h => ⟨hall, by omega, by omega⟩⟩
   ·cases hq : a0j r with
    | false => rfl
    | true => have := ((a0T r).1 hq).2.2; omega
theorem a1O {r : RepoD} (h : a0l r = true) {i : Nat} (hi : i < r.commits.length) : r.commits[i].parents.length <= 2 /\ (∀ p ∈ r.commits[i].parents, 0 <= p /\ p < (i : Int)) /\ a0s r.commits[i].tree = true := by
 have h1 := ((a4A r).1 h).2.1 i hi
 have hg : r.commits.getD i default = r.commits[i] := by simp -implicitDefEqProofs [List.getD_eq_getElem?_getD, hi]
 simp only [okCI, okI1, hg, Bool.and_eq_true, decide_eq_true_eq, List.all_eq_true, List.mem_range] at h1
 refine ⟨h1.1.1.1.1, fun p hp => ?_, h1.1.2⟩
 obtain ⟨k, hk, rfl⟩ := List.getElem_of_mem hp
 have h2 := h1.2 k hk
 simp only [inN, Bool.and_eq_true, decide_eq_true_eq, List.getD_eq_getElem?_getD, List.getElem?_eq_getElem hk, Option.getD_some] at h2
 omega
theorem a2x {r : RepoD} (h : a0l r = true) : r.commits.length <= 16 := ((a4A r).1 h).1
def a4R (r : RepoD) (a : Int) : Int := (r.commits.getD a.toNat default).parents.headD (-1)
theorem c4k {r : RepoD} (h : a0l r = true) {a : Int} (h0 : 0 <= a) (h1 : a < r.commits.length) : -1 <= a4R r a /\ a4R r a < a := by
 have hi : a.toNat < r.commits.length := by omega
 obtain ⟨_, h2, _⟩ := a1O h hi
 unfold a4R
 rw [List.getD_eq_getElem?_getD, List.getElem?_eq_getElem hi, Option.getD_some]
 cases hp : r.commits[a.toNat].parents with
 | nil => simp; omega
 | cons p l =>
  have := h2 p (by rw [hp]; simp)
  simp only [List.headD_cons]
  omega
def b5n : Con := .fn 21 (RepoD × Int) (fun a => [a0V a.1, .int .i64 a.2]) (fun a => 0 <= a.2 /\ a.2 < a.1.commits.length) (fun a => .int .i64 (a4R a.1 a.2)) (fun _ => [])
theorem c1C : Has Tryz.prog 56 b5n := by
 refine a0d mixed a0h HasL.nil [0, 1, 2, 4] ((fun a n (_ : Nat) => (fun _ => a0r) a n)) [] Tryz.func56 (by unfold Tryz.f56; rfl) (fun _ => ⟨(), trivial⟩) ?_
 intro a ha
 obtain ⟨r, n⟩ := a
 obtain ⟨h1, h2⟩ : 0 <= n /\ n < r.commits.length := ha
 have hi : n.toNat < r.commits.length := by omega
 have e : Option.map a0k r.commits[n.toNat]? = some (a0k r.commits[n.toNat]) := by simp -implicitDefEqProofs [hi]
 have hf : a4R r n = r.commits[n.toNat].parents.headD (-1) := by unfold a4R; rw [List.getD_eq_getElem?_getD, List.getElem?_eq_getElem hi]; rfl
 simp -implicitDefEqProofs [b5n, Con.fn, tTab, e, hf, a0k, hi, h1, h2]
 try dsimp only
 intro _
 cases hp : r.commits[n.toNat].parents with
 | nil => simp
 | cons q l => simp -implicitDefEqProofs [eInt]
def a7g : Con := .fn 13 (RepoD × Int) (fun a => [a0V a.1, .int .i64 a.2]) (fun a => 0 <= a.2 /\ a.2 < a.1.commits.length) (fun a => .sl true 2 (a0b (a.1.commits.getD a.2.toNat default).tree)) (fun _ => [])
theorem a6K : Has Tryz.prog 55 a7g := by
 refine a0d mixed a0h HasL.nil [0, 1, 2, 4] ((fun a n (_ : Nat) => (fun _ => a0r) a n)) [] Tryz.func55 (by unfold Tryz.f55; rfl) (fun _ => ⟨(), trivial⟩) ?_
 intro a ha
 obtain ⟨r, n⟩ := a
 obtain ⟨h1, h2⟩ : 0 <= n /\ n < r.commits.length := ha
 have hi : n.toNat < r.commits.length := by omega
 have e : Option.map a0k r.commits[n.toNat]? = some (a0k r.commits[n.toNat]) := by simp -implicitDefEqProofs [hi]
 simp -implicitDefEqProofs [a7g, Con.fn, tTab, e, a0k, hi, h1, h2]
 try dsimp only
 exact fun h => absurd h (by omega)
def areB (r : RepoD) (l : List Int) : Bool := a0l r && l.all fun a => decide (0 <= a) && decide (a <= (r.commits.length : Int) - 1)
def cAre : Con := .fn 21 (RepoD × List Int) (fun a => [a0V a.1, .sl true 1 (a0f a.2)]) (fun a => a2a a.1) (fun a => .bool (areB a.1 a.2)) (fun _ => [])
theorem b2I : Has Tryz.prog 54 cAre := by
 refine a0d mixed a0h (HasL.cons a2R (HasL.cons a4b HasL.nil)) [0, 1, 2, 4, 6, 10, 11, 12] ((fun a n (_ : Nat) => (fun a _ => ⟨Nat, fun i => ⟨[(1, true, .sl true 1 (a0f a.2)), (2, true, .ptr 10 0), (4, true, .bool false), (10, true, .sl true 1 (a0f a.2)), (11, true, .int .i64 a.2.length), (12, true, .int .i64 i)], [(10, a1z a.1)]⟩, fun i => i <= a.2.length /\ ∀ x, x ∈ a.2.take i -> (decide (0 <= x) && decide (x <= (a.1.commits.length : Int) - 1)) = true, fun i => a.2.length - i⟩) a n)) [] Tryz.func54 (by unfold Tryz.f54; rfl) (fun _ => ⟨(), trivial⟩) ?_
 intro a ha
 obtain ⟨r, l⟩ := a
 replace ha : a2a r := ha
 have ha2 := ha.1
 simp -implicitDefEqProofs [cAre, Con.fn, tTab, a3F, a4t, a0q]
 try dsimp only
 refine ⟨ha, fun h => by simp -implicitDefEqProofs [areB, h], fun h _ i hi hb => ⟨fun hlt => ⟨hlt, fun _ => ⟨by simp -implicitDefEqProofs [hlt, eInt], fun _ _ => ⟨r, l[i], ⟨⟨rfl, rfl⟩, by simp -implicitDefEqProofs [hlt, eInt]⟩, ha2, fun hbad => ?_, fun h0 h1 => ⟨⟨by omega, by omega⟩, fun _ _ => ⟨i + 1, by omega, ⟨by omega, c3o (q := fun x : Int => 0 <= x /\ x <= (r.commits.length : Int) - 1) hlt hb ⟨h0, h1⟩⟩, by omega⟩⟩⟩⟩⟩, fun hge => ?_⟩⟩
 ·unfold areB
  rw [h, Bool.true_and, List.all_eq_false]
  exact ⟨l[i], List.getElem_mem hlt, by simp; omega⟩
 ·rw [List.take_of_length_le hge] at hb
  unfold areB
  rw [h, Bool.true_and, List.all_eq_true]
  intro x hx
  have := hb x hx
  simp; omega
def a0e (r : RepoD) (a : Int) : List FileD := (r.commits.getD a.toNat default).tree
--TAB a0R
def a0R : List (Nat × TI) := (114, ⟨false, [.sl 4 1], 24, [], 4⟩) :: tTab
theorem a0K : ∀ t ti, get? a0R t = some ti -> TOk Tryz.prog t ti := a9B (by kernel_rfl)
def a1E (b : Bool) : List D := [.bool b]
@[simp] theorem eBool_inj (a b : Bool) : (a1E a = a1E b) = (a = b) := by simp -implicitDefEqProofs [a1E]
def a0x (l : List Bool) : List (List D) := l.map a1E
@[simp] theorem eBools_length (l : List Bool) : (a0x l).length = l.length := by simp -implicitDefEqProofs [a0x]
@[simp] theorem eBools_nil : a0x [] = [] := rfl
@[simp] theorem eBools_get (l : List Bool) (i : Nat) : (a0x l)[i]? = l[i]?.map a1E := by simp -implicitDefEqProofs [a0x]
@[simp] theorem eBools_getElem (l : List Bool) (i : Nat) (h : i < (a0x l).length) : (a0x l)[i] = a1E (l[i]'(by simpa using h)) := by simp -implicitDefEqProofs [a0x]
@[simp] theorem eBools_inj (a b : List Bool) : (a0x a = a0x b) = (a = b) := by
 apply propext
 constructor
 ·intro h
  exact List.map_inj_right (fun x y h => by simpa using h) |>.1 h
 ·rintro rfl; rfl
@[simp] theorem eBools_eq_nil (a : List Bool) : (a0x a = []) = (a = []) := by simp -implicitDefEqProofs [a0x]
@[simp] theorem nil_eq_eBools (a : List Bool) : ([] = a0x a) = (a = []) := by simp -implicitDefEqProofs [a0x, eq_comm]
theorem a1s (l : List Bool) (i : Nat) (b : Bool) : (a0x l).set i [.bool b] = a0x (l.set i b) := by simp -implicitDefEqProofs [a0x, List.map_set, a1E]
theorem a2M (n : Nat) (b : Bool) : List.replicate n [D.bool b] = a0x (List.replicate n b) := by simp -implicitDefEqProofs [a0x, a1E]
abbrev b6t (h : Nat) (a : List Bool) : List (Nat × Blk) := [(h, .own 4 1 true (a0x a))]
def isT (l : List Bool) (i : Nat) : Bool := l.getD i false
def a2O (l : List Bool) (i : Nat) : List Int := ((List.range i).filter (isT l)).map fun j : Nat => (j : Int)
theorem a9i {l : List Bool} {i : Nat} (h : isT l i = true) : a2O l (i + 1) = a2O l i ++ [(i : Int)] := by simp -implicitDefEqProofs [a2O, List.range_succ, h]
theorem a8h {l : List Bool} {i : Nat} (h : isT l i = false) : a2O l (i + 1) = a2O l i := by simp -implicitDefEqProofs [a2O, List.range_succ, h]
theorem a3i (l : List Bool) (i : Nat) : (a2O l i).length <= i := by
 have := List.length_filter_le (isT l) (List.range i)
 simpa [a2O] using this
def a0g (l : List Bool) : List Int := a2O l l.length
theorem listT_mem {l : List Bool} {x : Int} : x ∈ a0g l ↔ ∃ i : Nat, i < l.length /\ isT l i = true /\ x = i := by
 simp only [a0g, a2O, List.mem_map, List.mem_filter, List.mem_range]
 constructor
 ·rintro ⟨i, ⟨h1, h2⟩, rfl⟩; exact ⟨i, h1, h2, rfl⟩
 ·rintro ⟨i, h1, h2, rfl⟩; exact ⟨i, ⟨h1, h2⟩, rfl⟩
def a9Q : Con := .fn 20 (List Bool) (fun l => [.sl true 1 (a0x l)]) (fun l => l.length <= 1048576) (fun l => .own 8 1 (a0f (a0g l))) (fun l => a3d 8 (a0g l))
theorem b2l : Has Tryz.prog 144 a9Q := by
 refine a0d mixed a0K HasL.nil [0, 2, 3, 4, 5, 6, 7, 8] ((fun a n (_ : Nat) => (fun l _ => ⟨Nat, fun i => ⟨[(2, true, .nil), (3, true, .own 9 1 (a0f (a2O l i))), (6, true, .sl true 1 (a0x l)), (7, true, .int .i64 l.length), (8, true, .int .i64 i)], [(9, .own 3 1 true (a0f (a2O l i)))]⟩, fun i => i <= l.length, fun i => l.length - i⟩) a n)) [] Tryz.func144 (by unfold Tryz.f144; rfl) (fun _ => ⟨(), trivial⟩) ?_
 intro (l : List Bool) (ha : l.length <= 1048576)
 simp -implicitDefEqProofs [a9Q, Con.fn, a0R, tTab]
 try dsimp only
 refine fun _ => ⟨⟨0, ⟨⟨rfl, rfl⟩, rfl⟩, Nat.zero_le _⟩, fun i hi => ⟨fun hlt => ?_, fun hge => ?_⟩⟩
 ·have hl := a3i l i
  have hi : isT l i = l[i] := by simp -implicitDefEqProofs [isT, List.getD_eq_getElem?_getD, hlt]
  simp -implicitDefEqProofs [hlt, a1E, D.asBool, and_assoc]
  refine ⟨fun h => ?_, fun h => ?_⟩
  ·have e := a9i (hi.trans h)
   exact ⟨by omega, by omega, by omega, by omega, fun _ _ => ⟨i + 1, by rw [e]; simp -implicitDefEqProofs [a0f, eInt], by omega, by rw [e]; simp -implicitDefEqProofs [a0f, eInt], by omega, by omega⟩⟩
  ·have e := a8h (hi.trans h)
   exact ⟨by omega, by omega, fun _ _ => ⟨i + 1, e, by omega, e.symm, by omega, by omega⟩⟩
 ·have : i = l.length := by omega
  subst this
  exact ⟨rfl, rfl⟩
def a8S : Con := .fn 18 (List Int × Int) (fun a => [.sl true 1 (a0f a.1), .int .i64 a.2]) (fun _ => True) (fun a => .bool (decide (a.2 ∈ a.1))) (fun _ => [])
theorem a9g : Has Tryz.prog 136 a8S := by
 refine a0d mixed a0K HasL.nil [0, 1, 4, 5] ((fun a n (_ : Nat) => (fun a _ => ⟨Nat, fun i => ⟨[(0, true, .sl true 1 (a0f a.1)), (1, true, .int .i64 a.2), (4, true, .bool false), (5, true, .int .i64 i)], []⟩, fun i => i <= a.1.length /\ ∀ x, x ∈ a.1.take i -> x ≠ a.2, fun i => a.1.length - i⟩) a n)) [] Tryz.func136 (by unfold Tryz.f136; rfl) (fun _ => ⟨(), trivial⟩) ?_
 intro a _
 obtain ⟨l, n⟩ := a
 simp -implicitDefEqProofs [a8S, Con.fn, a0R, tTab]
 try dsimp only
 refine fun i hi hb _ => ⟨fun hlt => ?_, fun hge => ?_⟩
 ·simp -implicitDefEqProofs [hlt, eInt, D.asInt, and_assoc]
  refine ⟨fun h => by rw [<- h]; exact List.getElem_mem hlt, fun h => ⟨by omega, by omega, fun _ _ => ⟨i + 1, by omega, by omega, fun x hx => ?_, by omega⟩⟩⟩
  rw [a0w hlt] at hx
  rcases List.mem_append.1 hx with h1 | h1
  ·exact hb x h1
  ·simp only [List.mem_singleton] at h1
   subst h1; exact h
 ·rw [List.take_of_length_le hge] at hb
  exact fun h => hb n h rfl
def putT (l : List Bool) (ps : List Int) : List Bool := ps.foldl (fun l p => l.set p.toNat true) l
theorem b6E (ps : List Int) : ∀ l : List Bool, (putT l ps).length = l.length := by
 induction ps with
 | nil => intro l; rfl
 | cons p r ih => intro l; show (putT (l.set p.toNat true) r).length = _; rw [ih]; simp
def a4i (r : RepoD) (l : List Bool) (i : Nat) : List Bool := if isT l i then putT l (r.commits.getD i default).parents else l
def ancF (r : RepoD) : Nat -> List Bool -> List Bool
 | 0, l => l
 | n + 1, l => ancF r n (a4i r l n)
def anc (r : RepoD) (a : Int) : List Bool := ancF r (a + 1).toNat ((List.replicate r.commits.length false).set a.toNat true)
theorem b5c (r : RepoD) : ∀ (n : Nat) (l : List Bool), (ancF r n l).length = l.length
 | 0, _ => rfl
 | n + 1, l => by
  show (ancF r n (a4i r l n)).length = _
  rw [b5c r n]
  unfold a4i
  split
  ·rw [b6E]
  ·rfl
theorem a1G (r : RepoD) (a : Int) : (anc r a).length = r.commits.length := by unfold anc; rw [b5c]; simp
def anO (r : RepoD) (a : Int) : Inv := ⟨List Bool × Int, fun t => ⟨[(2, true, .ptr 10 0), (4, true, .nil), (5, true, .own 9 1 (a0x t.1)), (6, true, .int .i64 t.2)], [(10, a1z r), (9, .own 4 1 true (a0x t.1))]⟩, fun t => t.1.length = r.commits.length /\ -1 <= t.2 /\ t.2 < r.commits.length /\ ancF r (t.2 + 1).toNat t.1 = anc r a, fun t => (t.2 + 1).toNat⟩
def anI (r : RepoD) (a : Int) (g : Nat) : Inv := ⟨List Bool × Nat, fun t => ⟨[(2, true, .ptr 10 0), (4, true, .nil), (5, true, .own 9 1 (a0x t.1)), (6, true, .int .i64 g), (30, true, .sl true 1 (a0f (r.commits.getD g default).parents)), (31, true, .int .i64 (r.commits.getD g default).parents.length), (32, true, .int .i64 t.2)], [(10, a1z r), (9, .own 4 1 true (a0x t.1))]⟩, fun t => t.1.length = r.commits.length /\ g < r.commits.length /\ t.2 <= (r.commits.getD g default).parents.length /\ ancF r g (putT t.1 ((r.commits.getD g default).parents.drop t.2)) = anc r a, fun t => (r.commits.getD g default).parents.length - t.2⟩
def b8T (r : RepoD) (a : Int) (n g : Nat) : Inv := if n = 4 then anO r a else anI r a g
theorem c6r (r : RepoD) (a : Int) (g : Nat) : b8T r a 4 g = anO r a := rfl
theorem c6s (r : RepoD) (a : Int) (g : Nat) : b8T r a 8 g = anI r a g := rfl
def cAncestors : Con := .fn 41 (RepoD × Int) (fun a => [a0V a.1, .int .i64 a.2]) (fun a => a0l a.1 = true /\ 0 <= a.2 /\ a.2 < a.1.commits.length) (fun a => .own 8 1 (a0x (anc a.1 a.2))) (fun a => b6t 8 (anc a.1 a.2))
theorem ancestors_has : Has Tryz.prog 95 cAncestors := by
 refine a0d mixed a0K HasL.nil [0, 1, 2, 4, 5, 6, 8, 30, 31, 32] (fun a => b8T a.1 a.2) [] Tryz.func95 (by unfold Tryz.f95; rfl) (fun _ => ⟨(), trivial⟩) ?_
 intro a ha
 obtain ⟨r, n⟩ := a
 obtain ⟨h1, h2, h3⟩ : a0l r = true /\ 0 <= n /\ n < r.commits.length := ha
 have h4 := a2x h1
 simp -implicitDefEqProofs [cAncestors, Con.fn, a0R, tTab, c6r, c6s, anO, anI, a0q]
 try dsimp only
 refine fun _ => ⟨by omega, fun _ => ⟨⟨h2, h3⟩, fun _ _ => ⟨by omega, ⟨(List.replicate r.commits.length false).set n.toNat true, n, ⟨⟨by rw [a2M]; exact (a1s _ _ _).symm, rfl⟩, by rw [a2M]; exact a1s _ _ _⟩, by simp, by omega, h3, rfl⟩, fun l b g1 g2 g3 g4 => ⟨fun hb => ⟨⟨hb, by omega⟩, fun _ _ => ?_⟩, fun hb => ?_⟩⟩⟩⟩
 ·have hb1 : b.toNat < l.length := by omega
  have hb2 : b.toNat < r.commits.length := by omega
  obtain ⟨p1, p2, _⟩ := a1O h1 hb2
  have hT : isT l b.toNat = l[b.toNat] := by simp -implicitDefEqProofs [isT, List.getD_eq_getElem?_getD, hb1]
  have hbb : (b + 1).toNat = b.toNat + 1 := by omega
  have hgd : r.commits.getD b.toNat default = r.commits[b.toNat] := by simp -implicitDefEqProofs [List.getD_eq_getElem?_getD, hb2]
  rw [hbb] at g4
  have g5 : ancF r b.toNat (a4i r l b.toNat) = anc r n := g4
  unfold a4i at g5
  rw [hT, hgd] at g5
  have e3 : Option.map a0k r.commits[b.toNat]? = some (a0k r.commits[b.toNat]) := by simp -implicitDefEqProofs [hb2]
  have hgo : r.commits[b.toNat]?.getD default = r.commits[b.toNat] := by simp -implicitDefEqProofs [hb2]
  simp -implicitDefEqProofs [hb1, a1E, D.asBool, e3, a0k, D.asRows, hb, show b < r.commits.length by omega]
  refine ⟨fun h _ => ⟨b.toNat, ?_⟩, fun h => ⟨⟨by omega, by omega⟩, fun _ _ => ⟨l, b - 1, ⟨⟨rfl, rfl⟩, rfl⟩, ⟨g1, by omega, by omega, ?_⟩, by omega⟩⟩⟩
  ·rw [if_pos h] at g5
   rw [hgo]
   generalize r.commits[b.toNat] = c at *
   refine ⟨⟨l, 0, ⟨⟨rfl, by omega, rfl, rfl, rfl⟩, rfl⟩, g1, hb2, Nat.zero_le _, g5⟩, fun m k m1 m2 m3 m4 => ⟨fun hlt => ⟨hlt, fun _ => ?_⟩, fun hge => ⟨⟨by omega, by omega⟩, fun _ _ => ⟨m, b - 1, ⟨⟨rfl, by omega⟩, rfl⟩, ⟨m1, by omega, by omega, ?_⟩, by omega⟩⟩⟩⟩
   ·have hp := p2 c.parents[k] (List.getElem_mem hlt)
    have qt : Option.map eInt c.parents[k]? = some (eInt c.parents[k]) := by simp -implicitDefEqProofs [List.getElem?_eq_getElem hlt]
    simp -implicitDefEqProofs [qt, eInt, D.asInt]
    refine ⟨⟨hp.1, by omega⟩, fun _ _ => ⟨by omega, ⟨by omega, by omega⟩, fun _ _ => ⟨m.set c.parents[k].toNat true, k + 1, ⟨⟨(a1s _ _ _).symm, by omega⟩, a1s _ _ _⟩, ⟨by simp -implicitDefEqProofs [m1], m2, by omega, ?_⟩, by omega⟩⟩⟩
    rw [List.drop_eq_getElem_cons hlt] at m4
    exact m4
   ·rw [List.drop_eq_nil_of_le hge] at m4
    rw [show (b - 1 + 1).toNat = b.toNat by omega]
    exact m4
  ·rw [if_neg (by rw [h]; simp)] at g5
   rw [show (b - 1 + 1).toNat = b.toNat by omega]
   exact g5
 ·have hbb : (b + 1).toNat = 0 := by omega
  rw [hbb] at g4
  have g5 : l = anc r n := g4
  exact ⟨g5.symm, g5⟩
--TAB a0R
def clrT (l : List Bool) (ps : List Int) : List Bool := ps.foldl (fun l p => l.set p.toNat false) l
theorem b5y (ps : List Int) : ∀ l : List Bool, (clrT l ps).length = l.length := by
 induction ps with
 | nil => intro l; rfl
 | cons p r ih => intro l; show (clrT (l.set p.toNat false) r).length = _; rw [ih]; simp
def a7z (r : RepoD) (l : List Bool) (o : Int) : List Bool := clrT l (a0g (anc r o))
def sinL (r : RepoD) (a : Int) (os : List Int) : List Bool := os.foldl (a7z r) (anc r a)
def snO (r : RepoD) (a : Int) (os : List Int) : Inv := ⟨List Bool × Nat, fun t => ⟨[(3, true, .ptr 10 0), (6, true, .nil), (7, true, .own 9 1 (a0x t.1)), (15, true, .sl true 1 (a0f os)), (16, true, .int .i64 os.length), (17, true, .int .i64 t.2)], [(10, a1z r), (9, .own 4 1 true (a0x t.1))]⟩, fun t => t.1.length = r.commits.length /\ t.2 <= os.length /\ (os.drop t.2).foldl (a7z r) t.1 = sinL r a os, fun t => os.length - t.2⟩
def snI (r : RepoD) (a : Int) (os : List Int) (g : Nat) : Inv := ⟨List Bool × Nat, fun t => ⟨[(3, true, .ptr 10 0), (6, true, .nil), (7, true, .own 9 1 (a0x t.1)), (15, true, .sl true 1 (a0f os)), (16, true, .int .i64 os.length), (17, true, .int .i64 g), (24, true, .own 11 1 (a0f (a0g (anc r (os.getD g 0))))), (25, true, .int .i64 (a0g (anc r (os.getD g 0))).length), (26, true, .int .i64 t.2)], [(10, a1z r), (9, .own 4 1 true (a0x t.1)), (11, .own 3 1 true (a0f (a0g (anc r (os.getD g 0)))))]⟩, fun t => t.1.length = r.commits.length /\ g < os.length /\ t.2 <= (a0g (anc r (os.getD g 0))).length /\ (os.drop (g + 1)).foldl (a7z r) (clrT t.1 ((a0g (anc r (os.getD g 0))).drop t.2)) = sinL r a os, fun t => (a0g (anc r (os.getD g 0))).length - t.2⟩
def c0E (r : RepoD) (a : Int) (os : List Int) (n g : Nat) : Inv := if n = 3 then snO r a os else snI r a os g
theorem c7y (r : RepoD) (a : Int) (os : List Int) (g : Nat) : c0E r a os 3 g = snO r a os := rfl
theorem c7z (r : RepoD) (a : Int) (os : List Int) (g : Nat) : c0E r a os 6 g = snI r a os g := rfl
def b1J : Con := .fn 37 (RepoD × Int × List Int) (fun a => [a0V a.1, .int .i64 a.2.1, .sl true 1 (a0f a.2.2)]) (fun a => a0l a.1 = true /\ (0 <= a.2.1 /\ a.2.1 < a.1.commits.length) /\ a.2.2.length <= 1048576 /\ ∀ o ∈ a.2.2, 0 <= o /\ o < a.1.commits.length) (fun a => .own 8 1 (a0f (a0g (sinL a.1 a.2.1 a.2.2)))) (fun a => a3d 8 (a0g (sinL a.1 a.2.1 a.2.2)))
theorem b4g : Has Tryz.prog 106 b1J := by
 refine a0d mixed a0K (HasL.cons ancestors_has (HasL.cons b2l HasL.nil)) [0, 1, 2, 3, 6, 7, 9, 11, 15, 16, 17, 24, 25, 26] (fun a => c0E a.1 a.2.1 a.2.2) [] Tryz.func106 (by unfold Tryz.f106; rfl) (fun _ => ⟨(), trivial⟩) ?_
 intro a ha
 obtain ⟨r, n, os⟩ := a
 obtain ⟨h1, ⟨h2, h3⟩, h4, h5⟩ : a0l r = true /\ (0 <= n /\ n < r.commits.length) /\ os.length <= 1048576 /\ ∀ o ∈ os, 0 <= o /\ o < r.commits.length := ha
 have h6 := a2x h1
 simp -implicitDefEqProofs [b1J, cAncestors, a9Q, Con.fn, a0R, tTab, c7y, c7z, snO, snI, a0q]
 try dsimp only
 simp only [and_assoc, exists_eq_left, exists_and_left, RepoD.ex1, RepoD.eta]
 have hal := a1G r
 refine ⟨h1, h2, h3, fun _ => ⟨trivial, hal n, Nat.zero_le _, rfl, fun l k g1 g2 g3 => ⟨fun hlt => ⟨hlt, fun _ => ?_⟩, fun hge => ?_⟩⟩⟩
 ·have ho := h5 os[k] (List.getElem_mem hlt)
  have hgd : os[k]?.getD 0 = os[k] := by simp -implicitDefEqProofs [hlt]
  rw [List.drop_eq_getElem_cons hlt] at g3
  have g4 : List.foldl (a7z r) (clrT l (a0g (anc r os[k]))) (List.drop (k + 1) os) = sinL r n os := g3
  have hmem : ∀ x ∈ a0g (anc r os[k]), 0 <= x /\ x < r.commits.length := fun x hx => by
   obtain ⟨i, q1, _, rfl⟩ := listT_mem.1 hx
   rw [hal] at q1
   omega
  have hLl := a3i (anc r os[k]) (anc r os[k]).length
  change (a0g (anc r os[k])).length <= _ at hLl
  rw [hal] at hLl
  simp -implicitDefEqProofs [hlt, eInt, D.asInt, h1, ho.1, ho.2, hal]
  refine ⟨by omega, fun _ => ⟨k, ?_⟩⟩
  rw [hgd]
  generalize a0g (anc r os[k]) = L at *
  refine ⟨rfl, rfl, rfl, rfl, g1, hlt, g4, fun q j m1 m2 m3 m4 => ⟨fun hl2 => ⟨hl2, fun _ => ?_⟩, fun hge => ?_⟩⟩
  ·have hm := hmem L[j] (List.getElem_mem hl2)
   have qt : Option.map eInt L[j]? = some (eInt L[j]) := by simp -implicitDefEqProofs [List.getElem?_eq_getElem hl2]
   simp -implicitDefEqProofs [qt, eInt, D.asInt]
   refine ⟨hm.1, by omega, fun _ _ => ⟨by omega, by omega, by omega, fun _ _ => ⟨q.set L[j].toNat false, (a1s _ _ _).symm, j + 1, by omega, a1s _ _ _, by simp -implicitDefEqProofs [m1], m2, by omega, ?_, by omega⟩⟩⟩
   rw [List.drop_eq_getElem_cons hl2] at m4
   exact m4
  ·rw [List.drop_eq_nil_of_le hge] at m4
   exact ⟨by omega, by omega, fun _ _ => ⟨k + 1, by omega, m1, by omega, m4, by omega⟩⟩
 ·have : k = os.length := by omega
  subst this
  rw [List.drop_length] at g3
  have g4 : l = sinL r n os := g3
  exact ⟨by omega, by rw [g4], by rw [g4]⟩
--TAB a0R
theorem a8b {l : List Bool} {p g : Nat} (b : Bool) (h : p ≠ g) : isT (l.set p b) g = isT l g := by
 unfold isT
 rw [List.getD_eq_getElem?_getD, List.getD_eq_getElem?_getD, List.getElem?_set_ne h]
def alO (r : RepoD) (a : Int) : Inv := ⟨List Bool × Int, fun t => ⟨[(2, true, .ptr 10 0), (4, true, .nil), (5, true, .own 9 1 (a0x t.1)), (6, true, .int .i64 t.2)], [(10, a1z r), (9, .own 4 1 true (a0x t.1))]⟩, fun t => t.1.length = r.commits.length /\ -1 <= t.2 /\ t.2 < r.commits.length /\ ancF r (t.2 + 1).toNat t.1 = anc r a, fun t => (t.2 + 1).toNat⟩
def alI (r : RepoD) (a : Int) (g : Nat) : Inv := ⟨List Bool × Nat, fun t => ⟨[(2, true, .ptr 10 0), (4, true, .nil), (5, true, .own 9 1 (a0x t.1)), (6, true, .int .i64 g), (7, true, .int .i64 t.2)], [(10, a1z r), (9, .own 4 1 true (a0x t.1))]⟩, fun t => t.1.length = r.commits.length /\ g < r.commits.length /\ t.2 <= (r.commits.getD g default).parents.length /\ (isT t.1 g = true -> ancF r g (putT t.1 ((r.commits.getD g default).parents.drop t.2)) = anc r a) /\ (isT t.1 g = false -> ancF r g t.1 = anc r a), fun t => (r.commits.getD g default).parents.length - t.2⟩
def alT (r : RepoD) (a : Int) : Inv := ⟨Nat, fun i => ⟨[(2, true, .ptr 10 0), (4, true, .nil), (5, true, .own 9 1 (a0x (anc r a))), (8, true, .own 11 1 (a0f (a2O (anc r a) i))), (9, true, .int .i64 i)], [(10, a1z r), (9, .own 4 1 true (a0x (anc r a))), (11, .own 3 1 true (a0f (a2O (anc r a) i)))]⟩, fun i => i <= r.commits.length, fun i => r.commits.length - i⟩
def b1t (r : RepoD) (a : Int) (n g : Nat) : Inv := if n = 4 then alO r a else if n = 7 then alI r a g else alT r a
theorem b7Z (r : RepoD) (a : Int) (g : Nat) : b1t r a 4 g = alO r a := rfl
theorem b8a (r : RepoD) (a : Int) (g : Nat) : b1t r a 7 g = alI r a g := rfl
theorem b4Y (r : RepoD) (a : Int) (g : Nat) : b1t r a 12 g = alT r a := rfl
def b1H : Con := .fn 66 (RepoD × Int) (fun a => [a0V a.1, .int .i64 a.2]) (fun a => a0l a.1 = true /\ 0 <= a.2 /\ a.2 < a.1.commits.length) (fun a => .own 8 1 (a0f (a0g (anc a.1 a.2)))) (fun a => a3d 8 (a0g (anc a.1 a.2)))
theorem b3T : Has Tryz.prog 137 b1H := by
 refine a0d mixed a0K HasL.nil [0, 1, 2, 4, 5, 6, 7, 8, 9] (fun a => b1t a.1 a.2) [] Tryz.func137 (by unfold Tryz.f137; rfl) (fun _ => ⟨(), trivial⟩) ?_
 intro a ha
 obtain ⟨r, n⟩ := a
 obtain ⟨h1, h2, h3⟩ : a0l r = true /\ 0 <= n /\ n < r.commits.length := ha
 have h4 := a2x h1
 simp -implicitDefEqProofs [b1H, Con.fn, a0R, tTab, b7Z, b8a, b4Y, alO, alI, alT, a0q]
 try dsimp only
 simp only [and_assoc, exists_eq_left, exists_and_left, RepoD.ex1, RepoD.eta]
 have hal := a1G r n
 refine fun _ => ⟨by omega, fun _ => ⟨h2, h3, fun _ _ => ⟨by omega, ⟨(List.replicate r.commits.length false).set n.toNat true, by rw [a2M]; exact (a1s _ _ _).symm, by rw [a2M]; exact a1s _ _ _, by simp, by omega, h3, rfl⟩, fun l b g1 g2 g3 g4 => ⟨fun hb => ⟨b.toNat, ?_⟩, fun hb => ?_⟩⟩⟩⟩
 ·have hb1 : b.toNat < l.length := by omega
  have hb2 : b.toNat < r.commits.length := by omega
  obtain ⟨p1, p2, _⟩ := a1O h1 hb2
  have hgd : r.commits.getD b.toNat default = r.commits[b.toNat] := by simp -implicitDefEqProofs [List.getD_eq_getElem?_getD, hb2]
  have hgo : r.commits[b.toNat]?.getD default = r.commits[b.toNat] := by simp -implicitDefEqProofs [hb2]
  rw [show (b + 1).toNat = b.toNat + 1 by omega] at g4
  have g5 : ancF r b.toNat (a4i r l b.toNat) = anc r n := g4
  unfold a4i at g5
  rw [hgd] at g5
  have e3 : Option.map a0k r.commits[b.toNat]? = some (a0k r.commits[b.toNat]) := by simp -implicitDefEqProofs [hb2]
  rw [hgo, e3]
  generalize r.commits[b.toNat] = c at *
  refine ⟨by omega, trivial, g1, hb2, Nat.zero_le _, fun h => ?_, fun h => ?_, fun m k m1 m2 m3 m4 m5 => ⟨hb2, fun _ => ?_⟩⟩
  ·rw [if_pos h] at g5; exact g5
  ·rw [if_neg (by rw [h]; simp)] at g5; exact g5
  ·have hbm : b.toNat < m.length := by omega
   have hT : isT m b.toNat = m[b.toNat] := by simp -implicitDefEqProofs [isT, List.getD_eq_getElem?_getD, hbm]
   have e4 : Option.map a1E m[b.toNat]? = some (a1E m[b.toNat]) := by simp -implicitDefEqProofs [hbm]
   have hmx : max b 0 = b := Int.max_eq_left hb
   simp -implicitDefEqProofs [a0k, D.asRows, e4, a1E, hbm, hb2, hmx]
   refine fun _ => ⟨fun hl2 => ⟨fun hm => ⟨hl2, fun _ => ?_⟩, fun hm => ⟨by omega, by omega, fun _ _ => ⟨m1, by omega, by omega, m5 (hT.trans hm), by omega⟩⟩⟩, fun hge => ⟨by omega, by omega, fun _ _ => ⟨m1, by omega, by omega, ?_, by omega⟩⟩⟩
   ·have hp := p2 c.parents[k] (List.getElem_mem hl2)
    have qt : Option.map eInt c.parents[k]? = some (eInt c.parents[k]) := by simp -implicitDefEqProofs [List.getElem?_eq_getElem hl2]
    simp -implicitDefEqProofs [qt, eInt, D.asInt]
    have hst : isT (m.set c.parents[k].toNat true) b.toNat = true := by rw [a8b _ (by omega)]; exact hT.trans hm
    refine ⟨hp.1, by omega, fun _ _ => ⟨by omega, by omega, by omega, fun _ _ => ⟨m.set c.parents[k].toNat true, (a1s _ _ _).symm, k + 1, by omega, a1s _ _ _, by simp -implicitDefEqProofs [m1], by omega, fun _ => ?_, fun h => ?_, by omega⟩⟩⟩
    ·have := m4 (hT.trans hm)
     rw [List.drop_eq_getElem_cons hl2] at this
     exact this
    ·rw [hst] at h; cases h
   ·cases hm : m[b.toNat] with
    | true =>
     have := m4 (hT.trans hm)
     rw [List.drop_eq_nil_of_le hge] at this
     exact this
    | false => exact m5 (hT.trans hm)
 ·rw [show (b + 1).toNat = 0 by omega] at g4
  have g5 : l = anc r n := g4
  refine ⟨g5.symm, ⟨0, rfl, rfl, g5, rfl, Nat.zero_le _⟩, fun i hi _ => ⟨fun hlt => ?_, fun hge => ?_⟩⟩
  ·have hl := a3i (anc r n) i
   have hi : isT (anc r n) i = (anc r n)[i] := by simp -implicitDefEqProofs [isT, List.getD_eq_getElem?_getD, hlt]
   rw [hal] at hlt
   simp -implicitDefEqProofs [hal, hlt, a1E, D.asBool, and_assoc]
   refine ⟨fun h => ?_, fun h => ?_⟩
   ·have e := a9i (hi.trans h)
    exact ⟨by omega, by omega, by omega, by omega, fun _ _ => ⟨i + 1, by rw [e]; simp -implicitDefEqProofs [a0f, eInt], by omega, by rw [e]; simp -implicitDefEqProofs [a0f, eInt], by omega, by omega⟩⟩
   ·have e := a8h (hi.trans h)
    exact ⟨by omega, by omega, fun _ _ => ⟨i + 1, e, by omega, e.symm, by omega, by omega⟩⟩
  ·rw [hal] at hge
   have : i = r.commits.length := by omega
   subst this
   unfold a0g
   rw [hal]
   exact ⟨rfl, rfl⟩
def newF (X Y : List Int) (i : Nat) : List Int := (Y.take i).filter fun x => !decide (x ∈ X)
theorem c4Q (X Y : List Int) (i : Nat) : (newF X Y i).length <= Y.length := by
 unfold newF
 exact Nat.le_trans (List.length_filter_le _ _) (by simp; omega)
def newL (r : RepoD) (a b : Int) : List Int := if a0l r && inN r.commits.length a && inN r.commits.length b then newF (a0g (anc r a)) (a0g (anc r b)) (a0g (anc r b)).length else []
def b2M : Con := .fn 60 (RepoD × Int × Int) (fun a => [a0V a.1, .int .i64 a.2.1, .int .i64 a.2.2]) (fun a => a.1.commits.length <= 1073741824) (fun a => .own 8 1 (a0f (newL a.1 a.2.1 a.2.2))) (fun a => a3d 8 (newL a.1 a.2.1 a.2.2))
theorem b8U : Has Tryz.prog 107 b2M := by
 refine a0d mixed a0K (HasL.cons a3p (HasL.cons a3m (HasL.cons b3T (HasL.cons a9g HasL.nil)))) [0, 1, 2, 3, 6, 7, 8, 9, 10] ((fun a n (_ : Nat) => (fun a _ => ⟨Nat, fun i => ⟨[(3, true, .ptr 10 0), (6, true, .nil), (7, true, .own 9 1 (a0f (newF (a0g (anc a.1 a.2.1)) (a0g (anc a.1 a.2.2)) i))), (8, true, .own 11 1 (a0f (a0g (anc a.1 a.2.1)))), (9, true, .own 12 1 (a0f (a0g (anc a.1 a.2.2)))), (10, true, .int .i64 i)], [(10, a1z a.1), (9, .own 3 1 true (a0f (newF (a0g (anc a.1 a.2.1)) (a0g (anc a.1 a.2.2)) i))), (11, .own 3 1 true (a0f (a0g (anc a.1 a.2.1)))), (12, .own 3 1 true (a0f (a0g (anc a.1 a.2.2))))]⟩, fun i => i <= (a0g (anc a.1 a.2.2)).length, fun i => (a0g (anc a.1 a.2.2)).length - i⟩) a n)) [] Tryz.func107 (by unfold Tryz.f107; rfl) (fun _ => ⟨(), trivial⟩) ?_
 intro a ha
 obtain ⟨r, n, k⟩ := a
 replace ha : r.commits.length <= 1073741824 := ha
 simp -implicitDefEqProofs [b2M, a4L, a4J, b1H, a8S, Con.fn, a0R, tTab, a0q]
 try dsimp only
 simp only [and_assoc, exists_eq_left, exists_and_left, RepoD.ex1, RepoD.eta]
 have e0 : a0j r = false -> newL r n k = [] := fun h => by unfold newL; rw [a0D, h]; rfl
 have e1 : n < 0 \/ (r.commits.length : Int) - 1 < n -> newL r n k = [] := fun h => by
  unfold newL inN
  rw [if_neg]; simp; omega
 have e2 : k < 0 \/ (r.commits.length : Int) - 1 < k -> newL r n k = [] := fun h => by
  unfold newL inN
  rw [if_neg]; simp; omega
 refine ⟨ha, e0, fun hs _ => ⟨by omega, by omega, fun _ _ => ⟨e1, fun n0 n1 _ => ⟨by omega, by omega, fun _ _ => ⟨e2, fun k0 k1 => ?_⟩⟩⟩⟩⟩
 have hr : a0l r = true := by rw [a0D]; exact hs
 have h16 := a2x hr
 have hLl := a3i (anc r k) (anc r k).length
 change (a0g (anc r k)).length <= _ at hLl
 rw [a1G] at hLl
 have e3 : newL r n k = newF (a0g (anc r n)) (a0g (anc r k)) (a0g (anc r k)).length := by
  unfold newL inN
  rw [if_pos]; simp -implicitDefEqProofs [hr]; omega
 rw [e3]
 generalize a0g (anc r k) = Y at *
 generalize a0g (anc r n) = X at *
 refine ⟨hr, n0, by omega, hr, k0, by omega, ⟨0, rfl, trivial, trivial, rfl, rfl, trivial, trivial, Nat.zero_le _⟩, fun i hi _ => ⟨fun hlt => ⟨hlt, fun _ => ?_⟩, fun hge => ?_⟩⟩
 ·have s1 : newF X Y (i + 1) = newF X Y i ++ if Y[i] ∈ X then [] else [Y[i]] := by
   unfold newF
   rw [a0w hlt, List.filter_append]
   congr 1
   by_cases h : Y[i] ∈ X <;> simp -implicitDefEqProofs [h]
  have hnl := c4Q X Y i
  simp -implicitDefEqProofs [hlt, eInt, D.asInt]
  refine ⟨fun h => ⟨by omega, by omega, by omega, by omega, fun _ _ => ⟨i + 1, ?_, by omega, ?_, by omega, by omega⟩⟩, fun h => ⟨by omega, by omega, fun _ _ => ⟨i + 1, ?_, by omega, ?_, by omega, by omega⟩⟩⟩
  ·rw [s1, if_neg h]; simp -implicitDefEqProofs [a0f, eInt]
  ·rw [s1, if_neg h]; simp -implicitDefEqProofs [a0f, eInt]
  ·rw [s1, if_pos h, List.append_nil]
  ·rw [s1, if_pos h, List.append_nil]
 ·have : i = Y.length := by omega
  subst this
  exact ⟨rfl, rfl⟩
def cmSz (c : CommitD) : Prop := c.parents.length <= 1048576 /\ c.tree.length <= 1048576 /\ ∀ g ∈ c.tree, g.text.length <= 1048576
def rpSz (r : RepoD) : Prop := r.commits.length <= 1048576 /\ (∀ c ∈ r.commits, cmSz c) /\ r.heads.length <= 1048576
theorem c5Z (p : List Int) : ∀ x ∈ a0f p, ∀ d ∈ x, match d with | .sl _ _ _ => False | _ => True := by
 intro x hx d hd
 simp only [a0f, List.mem_map] at hx
 obtain ⟨i, _, rfl⟩ := hx
 simp only [eInt, List.mem_singleton] at hd
 subst hd; trivial
theorem c5Y (p : List HeadD) : ∀ x ∈ a0c p, ∀ d ∈ x, match d with | .sl _ _ _ => False | _ => True := by
 intro x hx d hd
 simp only [a0c, List.mem_map] at hx
 obtain ⟨i, _, rfl⟩ := hx
 simp only [a1f, List.mem_cons, List.not_mem_nil, or_false] at hd
 rcases hd with rfl | rfl <;> trivial
def a5G : Con := .fn 13 CommitD (fun f => [.agg [.sl true 1 (a0f f.parents), .str f.who, .sl true 2 (a0b f.tree)]]) (fun f => cmSz f) (fun f => .agg [.own 8 1 (a0f f.parents), .str f.who, .own 9 2 (a0b f.tree)]) (fun f => a3d 8 f.parents ++ a3r 9 f.tree)
theorem b1d : Has Tryz.prog 135 a5G := by
 refine a0d mixed a0h (HasL.cons a4c HasL.nil) [0, 1, 2] ((fun a n (_ : Nat) => (fun _ => a0r) a n)) [] Tryz.func135 (by unfold Tryz.f135; rfl) (fun _ => ⟨(), trivial⟩) ?_
 intro f hf
 obtain ⟨p, x, t⟩ := f
 obtain ⟨h1, h2, h3⟩ : p.length <= 1048576 /\ t.length <= 1048576 /\ ∀ g ∈ t, g.text.length <= 1048576 := hf
 simp -implicitDefEqProofs [a5G, a4u, Con.fn, tTab]
 try dsimp only
 exact ⟨c5Z p, by omega, h2, h3⟩
abbrev a7H : Blk := .box 26 [.nil, .nil]
def l7cO (r : RepoD) : Inv := ⟨Nat, fun i => ⟨[(1, true, .ptr 12 0), (2, true, .ptr 10 0), (3, true, .ptr 11 0), (4, true, .int .i64 i)], [(12, a1z r), (10, a7H), (11, .box 26 [.own 13 3 (a0i (r.commits.take i)), .own 14 2 (a0c r.heads)]), (13, .own 34 3 true (a0i (r.commits.take i))), (14, .own 113 2 true (a0c r.heads))]⟩, fun i => i <= r.commits.length, fun i => r.commits.length - i⟩
def a4a : Con := .fn 29 RepoD (fun r => [a0V r]) rpSz (fun r => .agg [.own 8 3 (a0i r.commits), .own 9 2 (a0c r.heads)]) (fun r => a2z 8 r.commits ++ a2E 9 r.heads)
theorem a3o : Has Tryz.prog 92 a4a := by
 refine a0d mixed a0h (HasL.cons b1d HasL.nil) [0, 1, 2, 3, 4] ((fun a n (_ : Nat) => (fun r _ => l7cO r) a n)) [25, 26] Tryz.func92 (by unfold Tryz.f92; rfl) (fun _ => ⟨(), trivial⟩) ?_
 intro (r : RepoD) hr
 obtain ⟨h1, h2, h3⟩ : r.commits.length <= 1048576 /\ (∀ c ∈ r.commits, cmSz c) /\ r.heads.length <= 1048576 := hr
 simp -implicitDefEqProofs [a4a, a5G, Con.fn, tTab, l7cO, a0q]
 try dsimp only
 refine ⟨c5Y r.heads, by omega, ⟨0, ⟨rfl, .inl rfl⟩, Nat.zero_le _⟩, fun i hi _ => ⟨fun hlt => ?_, fun hge => ?_⟩⟩
 ·have e : r.commits.take (i + 1) = r.commits.take i ++ [r.commits[i]] := a0w hlt
  have hc := h2 _ (List.getElem_mem hlt)
  simp -implicitDefEqProofs [hlt, a0k, D.asStr, D.asRows, and_assoc]
  refine ⟨hc, by omega, by omega, by omega, by omega, fun _ _ => ⟨i + 1, by omega, ?_, ?_, by omega, by omega⟩⟩
  ·rw [e, a3y]
  ·rw [e, a3y]
 ·rw [List.take_of_length_le hge]; exact ⟨rfl, rfl⟩
def a1L (n : Str) (a : Int) (acc : List HeadD × Bool) (g : HeadD) : List HeadD × Bool :=
 if acc.2 = false /\ Go.Op.bytesLess g.name n = false then (if g.name = n then (acc.1 ++ [⟨n, a⟩], true) else (acc.1 ++ [⟨n, a⟩] ++ [g], true))
 else (if g.name = n then acc else (acc.1 ++ [g], acc.2))
def hL (n : Str) (a : Int) (l : List HeadD) : List HeadD × Bool := l.foldl (a1L n a) ([], false)
def hSet (l : List HeadD) (n : Str) (a : Int) : List HeadD := if (hL n a l).2 then (hL n a l).1 else (hL n a l).1 ++ [⟨n, a⟩]
theorem c6I {n : Str} {a : Int} {t : List HeadD} {i : Nat} (h : i < t.length) : hL n a (t.take (i + 1)) = a1L n a (hL n a (t.take i)) t[i] := by
 unfold hL
 rw [a0w h, List.foldl_append]; rfl
theorem c1J (n : Str) (a : Int) (acc : List HeadD × Bool) (g : HeadD) : (a1L n a acc g).1.length + acc.2.toNat <= acc.1.length + (a1L n a acc g).2.toNat + 1 := by
 unfold a1L
 split
 ·rename_i h
  rw [h.1]
  split <;> simp <;> omega
 ·split <;> simp <;> omega
theorem c7V (n : Str) (a : Int) (t : List HeadD) : (hL n a t).1.length <= t.length + (hL n a t).2.toNat := by
 have : ∀ (t : List HeadD) (acc : List HeadD × Bool), (t.foldl (a1L n a) acc).1.length + acc.2.toNat <= acc.1.length + t.length + (t.foldl (a1L n a) acc).2.toNat := by
  intro t
  induction t with
  | nil => intro acc; simp
  | cons g r ih =>
   intro acc
   have h1 := ih (a1L n a acc g)
   have h2 := c1J n a acc g
   simp only [List.foldl_cons, List.length_cons]
   omega
 have := this t ([], false)
 simpa [hL] using this
def l7hO (r : RepoD) (n : Str) (a : Int) : Inv := ⟨Nat, fun i => ⟨[(1, true, .str n), (2, true, .int .i64 a), (3, true, .ptr 12 0), (6, true, .ptr 10 0), (7, true, .ptr 11 0), (8, true, .bool (hL n a (r.heads.take i)).2), (9, true, .int .i64 i)], [(12, a1z r), (10, a7H), (11, .box 26 [.sl true 3 (a0i r.commits), .own 14 2 (a0c (hL n a (r.heads.take i)).1)]), (14, .own 113 2 true (a0c (hL n a (r.heads.take i)).1))]⟩, fun i => i <= r.heads.length, fun i => r.heads.length - i⟩
def a5T : Con := .fn 69 (RepoD × Str × Int) (fun a => [a0V a.1, .str a.2.1, .int .i64 a.2.2]) (fun a => a.1.heads.length <= 1048576) (fun a => .agg [.sl true 3 (a0i a.1.commits), .own 9 2 (a0c (hSet a.1.heads a.2.1 a.2.2))]) (fun a => a2E 9 (hSet a.1.heads a.2.1 a.2.2))
theorem a5N : Has Tryz.prog 108 a5T := by
 refine a0d mixed a0h HasL.nil [0, 1, 2, 3, 6, 7, 8, 9] ((fun a n (_ : Nat) => (fun a _ => l7hO a.1 a.2.1 a.2.2) a n)) [] Tryz.func108 (by unfold Tryz.f108; rfl) (fun _ => ⟨(), trivial⟩) ?_
 intro a ha
 obtain ⟨r, n, a⟩ := a
 replace ha : r.heads.length <= 1048576 := ha
 have a0 : hL n a [] = ([], false) := rfl
 have a7 : ∀ i, (hL n a (r.heads.take i)).1.length <= 1048577 := fun i => by
  have h1 := c7V n a (r.heads.take i)
  have h2 := Bool.toNat_le (hL n a (r.heads.take i)).2
  have h3 : (r.heads.take i).length <= r.heads.length := by simp; omega
  omega
 simp -implicitDefEqProofs [a5T, Con.fn, tTab, l7hO, a0q]
 try dsimp only
 have b1 : ∀ (X : List HeadD) (g : HeadD), a0c X ++ [[D.str n, D.int .i64 a], [D.str g.name, D.int .i64 g.at_]] = a0c (X ++ [⟨n, a⟩] ++ [g]) := fun X g => by simp -implicitDefEqProofs [a0c, a1f]
 have b2 : ∀ (X : List HeadD) (g : HeadD), a0c X ++ [[D.str g.name, D.int .i64 g.at_]] = a0c (X ++ [g]) := fun X g => by simp -implicitDefEqProofs [a0c, a1f]
 have b3 : ∀ (X : List HeadD), a0c X ++ [[D.str n, D.int .i64 a]] = a0c (X ++ [⟨n, a⟩]) := fun X => by simp -implicitDefEqProofs [a0c, a1f]
 refine ⟨⟨0, by simp -implicitDefEqProofs [a0]⟩, fun i hi _ => ⟨fun hlt => ?_, fun hge => ?_⟩⟩
 ·have g := c6I (n := n) (a := a) hlt
  have gl := a7 i
  generalize hX : hL n a (r.heads.take i) = X at g gl ⊢
  obtain ⟨X, q⟩ := X
  simp -implicitDefEqProofs [hlt, a1f, D.asStr, D.asInt, and_assoc]
  rw [b1, b2, b3]
  have gl : X.length <= 1048577 := gl
  have fin : ∀ (Y : List HeadD) (b : Bool), hL n a (r.heads.take (i + 1)) = (Y, b) -> ∀ c, b = c -> ∃ t', (hL n a (r.heads.take t')).2 = c /\ (t' : Int) = i + 1 /\ a0c (hL n a (r.heads.take t')).1 = a0c Y /\ a0c Y = a0c (hL n a (r.heads.take t')).1 /\ t' <= r.heads.length /\ r.heads.length - t' < r.heads.length - i := fun Y b h c hc => ⟨i + 1, by rw [h]; exact hc, by omega, by rw [h], by rw [h], by omega, by omega⟩
  have fin2 : ∀ (Y : List HeadD) (b : Bool), hL n a (r.heads.take (i + 1)) = (Y, b) -> ∀ c, b = c -> ∃ t', (hL n a (r.heads.take t')).2 = c /\ (t' : Int) = i + 1 /\ (hL n a (r.heads.take t')).1 = Y /\ Y = (hL n a (r.heads.take t')).1 /\ t' <= r.heads.length /\ r.heads.length - t' < r.heads.length - i := fun Y b h c hc => ⟨i + 1, by rw [h]; exact hc, by omega, by rw [h], by rw [h], by omega, by omega⟩
  refine ⟨fun hq => ⟨fun h => ⟨by omega, by omega, by omega, by omega, fun _ _ => fin _ q ?_ _ rfl⟩, fun h => ⟨by omega, by omega, fun _ _ => fin2 _ q ?_ _ rfl⟩⟩,
   fun hq => ⟨fun hb => ⟨by omega, by omega, fun h => ⟨by omega, by omega, by omega, by omega, fun _ _ => fin _ true ?_ _ rfl⟩, fun h => ⟨by omega, by omega, fun _ _ => fin _ true ?_ _ rfl⟩⟩,
    fun hb => ⟨fun h => ⟨by omega, by omega, by omega, by omega, fun _ _ => fin _ q ?_ _ rfl⟩, fun h => ⟨by omega, by omega, fun _ _ => fin2 _ q ?_ _ rfl⟩⟩⟩⟩
  all_goals rw [g]; unfold a1L
  ·rw [if_neg (by simp -implicitDefEqProofs [hq]), if_neg h]
  ·rw [if_neg (by simp -implicitDefEqProofs [hq]), if_pos h]
  ·rw [if_pos ⟨hq, hb⟩, if_neg h]
  ·rw [if_pos ⟨hq, hb⟩, if_pos h]
  ·rw [if_neg (by simp -implicitDefEqProofs [hb]), if_neg h]
  ·rw [if_neg (by simp -implicitDefEqProofs [hb]), if_pos h]
 ·rw [List.take_of_length_le hge]
  have gl := a7 r.heads.length
  rw [List.take_length] at gl
  rw [b3]
  refine ⟨fun h => ?_, fun h => ⟨by omega, ?_⟩⟩
  ·unfold hSet; rw [if_pos h]; exact ⟨rfl, rfl⟩
  ·unfold hSet; rw [if_neg (by simp -implicitDefEqProofs [h])]; exact ⟨rfl, rfl⟩
def addR (r : RepoD) (n : Str) (c : CommitD) : RepoD := ⟨r.commits ++ [c], hSet r.heads n r.commits.length⟩
def a8R : Con := .fn 24 (RepoD × Str × CommitD) (fun a => [a0V a.1, .str a.2.1, .agg [.sl true 1 (a0f a.2.2.parents), .str a.2.2.who, .sl true 2 (a0b a.2.2.tree)]]) (fun a => a.1.commits.length <= 1048576 /\ a.1.heads.length <= 1048576) (fun a => .agg [.sl false 3 (a0i (addR a.1 a.2.1 a.2.2).commits), .sl false 2 (a0c (addR a.1 a.2.1 a.2.2).heads)]) (fun _ => [])
theorem a9f : Has Tryz.prog 140 a8R := by
 refine a0d mixed a0h (HasL.cons a5N HasL.nil) [0, 1, 2, 3, 5, 6, 7] ((fun a n (_ : Nat) => (fun _ => a0r) a n)) [4109] Tryz.func140 (by unfold Tryz.f140; rfl) (fun _ => ⟨(), trivial⟩) ?_
 intro a ha
 obtain ⟨r, n, c⟩ := a
 obtain ⟨h1, h2⟩ : r.commits.length <= 1048576 /\ r.heads.length <= 1048576 := ha
 simp -implicitDefEqProofs [a8R, a5T, Con.fn, tTab, a0q]
 try dsimp only
 exact ⟨by omega, by omega, fun _ => ⟨⟨r.commits ++ [c], r.heads⟩, n, r.commits.length, ⟨⟨by simp -implicitDefEqProofs [a0i, a0k], rfl⟩, rfl, rfl⟩, h2, rfl, rfl⟩⟩
def a1n (r : RepoD) (n : Str) (a : Int) : RepoD × Bool := if a0j r then (if 0 <= atL r.heads n \/ a0j ⟨r.commits, hSet r.heads n a⟩ = false then (r, false) else (⟨r.commits, hSet r.heads n a⟩, true)) else (⟨[], []⟩, false)
def a6S : Con := .fn 30 (RepoD × Str × Int) (fun a => [a0V a.1, .str a.2.1, .int .i64 a.2.2]) (fun a => rpSz a.1) (fun a => .tup [.agg [.sl false 3 (a0i (a1n a.1 a.2.1 a.2.2).1.commits), .sl false 2 (a0c (a1n a.1 a.2.1 a.2.2).1.heads)], .bool (a1n a.1 a.2.1 a.2.2).2]) (fun _ => [])
theorem b3w : Has Tryz.prog 210 a6S := by
 refine a0d mixed a0h (HasL.cons a3p (HasL.cons a3o (HasL.cons a5N (HasL.cons a3n HasL.nil)))) [0, 1, 2, 3, 6, 7, 8] ((fun a n (_ : Nat) => (fun _ => a0r) a n)) [] Tryz.func210 (by unfold Tryz.f210; rfl) (fun _ => ⟨(), trivial⟩) ?_
 intro a ha
 obtain ⟨r, n, at_⟩ := a
 replace ha : rpSz r := ha
 have ha2 := ha
 obtain ⟨h1, h2, h3⟩ : r.commits.length <= 1048576 /\ (∀ c ∈ r.commits, cmSz c) /\ r.heads.length <= 1048576 := ha2
 simp -implicitDefEqProofs [a6S, a4L, a4a, a5T, a4K, Con.fn, tTab, a0q]
 try dsimp only
 have e0 : a0j r = false -> a1n r n at_ = (⟨[], []⟩, false) := fun h => by unfold a1n; rw [if_neg (by simp -implicitDefEqProofs [h])]
 have e1 : a0j r = true -> (0 <= atL r.heads n \/ a0j ⟨r.commits, hSet r.heads n at_⟩ = false) -> a1n r n at_ = (r, false) := fun h h2 => by unfold a1n; rw [if_pos h, if_pos h2]
 have e2 : a0j r = true -> ¬ (0 <= atL r.heads n \/ a0j ⟨r.commits, hSet r.heads n at_⟩ = false) -> a1n r n at_ = (⟨r.commits, hSet r.heads n at_⟩, true) := fun h h2 => by unfold a1n; rw [if_pos h, if_neg h2]
 refine ⟨by omega, fun h => by rw [e0 h]; exact ⟨⟨rfl, rfl⟩, rfl⟩, fun h => ⟨ha, r, n, at_, ⟨⟨rfl, rfl⟩, rfl, rfl⟩, h3, r, n, ⟨⟨rfl, rfl⟩, rfl⟩, fun hq => ⟨ha, by rw [e1 h (.inl hq)]; exact ⟨⟨rfl, rfl⟩, rfl⟩⟩, fun hq => ⟨by omega, fun ho => ⟨ha, by rw [e1 h (.inr ho)]; exact ⟨⟨rfl, rfl⟩, rfl⟩⟩, fun ho => ?_⟩⟩⟩
 rw [e2 h (by rintro (q | q); omega; rw [ho] at q; cases q)]; exact ⟨⟨rfl, rfl⟩, rfl⟩
def comC (r : RepoD) (n who : Str) (t : List FileD) : CommitD := ⟨if 0 <= atL r.heads n then [atL r.heads n] else [], who, t⟩
def a1A (r : RepoD) (n who : Str) (t : List FileD) : RepoD × Bool := if a0j r then (if a0j (addR r n (comC r n who t)) then (addR r n (comC r n who t), true) else (r, false)) else (⟨[], []⟩, false)
def a6T : Con := .fn 40 (RepoD × Str × Str × List FileD) (fun a => [a0V a.1, .str a.2.1, .str a.2.2.1, .sl true 2 (a0b a.2.2.2)]) (fun a => rpSz a.1 /\ a.2.2.2.length <= 1048576 /\ ∀ f ∈ a.2.2.2, f.text.length <= 1048576) (fun a => .tup [.agg [.sl false 3 (a0i (a1A a.1 a.2.1 a.2.2.1 a.2.2.2).1.commits), .sl false 2 (a0c (a1A a.1 a.2.1 a.2.2.1 a.2.2.2).1.heads)], .bool (a1A a.1 a.2.1 a.2.2.1 a.2.2.2).2]) (fun _ => [])
theorem b3y : Has Tryz.prog 225 a6T := by
 refine a0d mixed a0h (HasL.cons a3p (HasL.cons a4c (HasL.cons a3n (HasL.cons a3o (HasL.cons a9f HasL.nil))))) [0, 1, 2, 3, 4, 8, 9, 10, 11] ((fun a n (_ : Nat) => (fun _ => a0r) a n)) [] Tryz.func225 (by unfold Tryz.f225; rfl) (fun _ => ⟨(), trivial⟩) ?_
 intro a ha
 obtain ⟨r, n, who, t⟩ := a
 obtain ⟨ha, h4, h5⟩ : rpSz r /\ t.length <= 1048576 /\ ∀ f ∈ t, f.text.length <= 1048576 := ha
 have ha2 := ha
 obtain ⟨h1, h2, h3⟩ : r.commits.length <= 1048576 /\ (∀ c ∈ r.commits, cmSz c) /\ r.heads.length <= 1048576 := ha2
 simp -implicitDefEqProofs [a6T, a4L, a4a, a8R, a4K, a4u, Con.fn, tTab, a0q]
 try dsimp only
 have e0 : a0j r = false -> a1A r n who t = (⟨[], []⟩, false) := fun h => by unfold a1A; rw [if_neg (by simp -implicitDefEqProofs [h])]
 have e1 : a0j r = true -> a0j (addR r n (comC r n who t)) = false -> a1A r n who t = (r, false) := fun h h2 => by unfold a1A; rw [if_pos h, if_neg (by simp -implicitDefEqProofs [h2])]
 have e2 : a0j r = true -> a0j (addR r n (comC r n who t)) = true -> a1A r n who t = (addR r n (comC r n who t), true) := fun h h2 => by unfold a1A; rw [if_pos h, if_pos h2]
 have hl : ∀ c, (addR r n c).commits.length <= 1073741824 := fun c => by simp -implicitDefEqProofs [addR]; omega
 refine ⟨by omega, fun h => by rw [e0 h]; exact ⟨⟨rfl, rfl⟩, rfl⟩, fun h => ⟨⟨h4, h5⟩, r, n, ⟨⟨rfl, rfl⟩, rfl⟩, fun hq => ?_, fun hq => ?_⟩⟩
 ·have hc : comC r n who t = ⟨[atL r.heads n], who, t⟩ := by unfold comC; rw [if_pos hq]
  rw [hc] at e1 e2
  refine ⟨r, n, ⟨⟨rfl, rfl⟩, rfl⟩, ha, r, n, ⟨[atL r.heads n], who, t⟩, ⟨⟨rfl, rfl⟩, rfl, rfl, rfl, rfl⟩, ⟨h1, h3⟩, hl _, fun ho => ⟨ha, by rw [e1 h ho]; exact ⟨⟨rfl, rfl⟩, rfl⟩⟩, fun ho => by rw [e2 h ho]; exact ⟨⟨rfl, rfl⟩, rfl⟩⟩
 ·have hc : comC r n who t = ⟨[], who, t⟩ := by unfold comC; rw [if_neg (by omega)]
  rw [hc] at e1 e2
  refine ⟨ha, r, n, ⟨[], who, t⟩, ⟨⟨rfl, rfl⟩, rfl, rfl, rfl, rfl⟩, ⟨h1, h3⟩, hl _, fun ho => ⟨ha, by rw [e1 h ho]; exact ⟨⟨rfl, rfl⟩, rfl⟩⟩, fun ho => by rw [e2 h ho]; exact ⟨⟨rfl, rfl⟩, rfl⟩⟩
def a3k (t : List FileD) (p : Str) : List FileD × Bool := if a0S t then (filB (a1r p) t, decide ((filB (a1r p) t).length < t.length)) else ([], false)
def a7U : Con := .fn 20 (List FileD × Str) (fun a => [.sl true 2 (a0b a.1), .str a.2]) (fun a => a.1.length <= 1048576 /\ ∀ f ∈ a.1, f.text.length <= 1048576) (fun a => .tup [.sl false 2 (a0b (a3k a.1 a.2).1), .bool (a3k a.1 a.2).2]) (fun _ => [])
theorem b4A : Has Tryz.prog 208 a7U := by
 refine a0d mixed a0h (HasL.cons a6p (HasL.cons a4c (HasL.cons b2h HasL.nil))) [0, 1, 4, 5, 6] ((fun a n (_ : Nat) => (fun _ => a0r) a n)) [] Tryz.func208 (by unfold Tryz.f208; rfl) (fun _ => ⟨(), trivial⟩) ?_
 intro a ha
 obtain ⟨t, p⟩ := a
 obtain ⟨h1, h2⟩ : t.length <= 1048576 /\ ∀ f ∈ t, f.text.length <= 1048576 := ha
 simp -implicitDefEqProofs [a7U, a7N, a4u, a9O, Con.fn, tTab]
 try dsimp only
 refine ⟨fun h => by unfold a3k; rw [if_neg (by simp -implicitDefEqProofs [h])]; exact ⟨rfl, rfl⟩, fun h => ⟨⟨h1, h2⟩, t, p, ⟨rfl, rfl⟩, h1, fun _ _ => by unfold a3k; rw [if_pos h]; exact ⟨rfl, rfl⟩⟩⟩
def b4M (p : Str) (f : FileD) : Bool := decide (f.path = p) || inB p f.path
def a5z (p to : Str) (o : List FileD) (f : FileD) : List FileD := if b4M p f then setS o ⟨to ++ f.path.drop p.length, f.text⟩ else o
def mvFs (p to : Str) (o : List FileD) (t : List FileD) : List FileD := t.foldl (a5z p to) o
theorem c2w {p to : Str} {o t : List FileD} {i : Nat} (h : i < t.length) : mvFs p to o (t.take (i + 1)) = a5z p to (mvFs p to o (t.take i)) t[i] := by
 unfold mvFs
 rw [a0w h, List.foldl_append]; rfl
theorem c4O (p to : Str) (o t : List FileD) : (mvFs p to o t).length <= o.length + t.length := by
 unfold mvFs
 induction t generalizing o with
 | nil => simp
 | cons f t ih =>
  have h1 := ih (a5z p to o f)
  have h2 : (a5z p to o f).length <= o.length + 1 := by
   unfold a5z
   split
   ·exact c5C _ _
   ·omega
  simp only [List.foldl_cons, List.length_cons]
  omega
theorem c6K {p q : Str} (h : inB p q = true) : p.length < q.length := by
 unfold inB at h
 simp only [Bool.and_eq_true, decide_eq_true_eq] at h
 omega
def a1R (t : List FileD) (p to : Str) : List FileD × Bool :=
 if a0S t then
  (if (filB (a1r p) t).length = t.length \/ a2Q to = false then (t, false)
  else if a0S (mvFs p to (filB (a1r p) t) t) = false \/ ¬ (mvFs p to (filB (a1r p) t) t).length = t.length then (t, false)
  else (mvFs p to (filB (a1r p) t) t, true))
 else ([], false)
def mvO (t : List FileD) (p to : Str) : Inv := ⟨Nat, fun i => ⟨[(0, true, .sl true 2 (a0b t)), (1, true, .str p), (2, true, .str to), (6, true, .nil), (7, true, .bool false), (8, true, .sl false 2 (a0b (mvFs p to (filB (a1r p) t) (t.take i)))), (9, true, .int .i64 t.length), (10, true, .int .i64 i)], []⟩, fun i => i <= t.length /\ a0S t = true, fun i => t.length - i⟩
def a7V : Con := .fn 84 (List FileD × Str × Str) (fun a => [.sl true 2 (a0b a.1), .str a.2.1, .str a.2.2]) (fun a => a.1.length <= 1048576 /\ (∀ f ∈ a.1, f.text.length <= 1048576) /\ a.2.2.length <= 1048576 /\ ∀ f ∈ a.1, f.path.length <= 1048576) (fun a => .tup [.sl false 2 (a0b (a1R a.1 a.2.1 a.2.2).1), .bool (a1R a.1 a.2.1 a.2.2).2]) (fun _ => [])
theorem b4B : Has Tryz.prog 209 a7V := by
 refine a0d mixed a0h (HasL.cons a6p (HasL.cons a4c (HasL.cons b2h (HasL.cons a8d (HasL.cons b1c (HasL.cons b3S HasL.nil)))))) [0, 1, 2, 6, 7, 8, 9, 10] ((fun a n (_ : Nat) => (fun a _ => mvO a.1 a.2.1 a.2.2) a n)) [] Tryz.func209 (by unfold Tryz.f209; rfl) (fun _ => ⟨(), trivial⟩) ?_
 intro a ha
 obtain ⟨t, p, to⟩ := a
 obtain ⟨h1, h2, h3, h4⟩ : t.length <= 1048576 /\ (∀ f ∈ t, f.text.length <= 1048576) /\ to.length <= 1048576 /\ ∀ f ∈ t, f.path.length <= 1048576 := ha
 simp -implicitDefEqProofs [a7V, a7N, a4u, a9O, a7c, b1F, b1G, Con.fn, tTab, mvO]
 try dsimp only
 have e0 : a0S t = false -> a1R t p to = ([], false) := fun h => by unfold a1R; rw [if_neg (by simp -implicitDefEqProofs [h])]
 have e1 : a0S t = true -> ((filB (a1r p) t).length = t.length \/ a2Q to = false) -> a1R t p to = (t, false) := fun h q => by unfold a1R; rw [if_pos h, if_pos q]
 have e2 : a0S t = true -> ¬ ((filB (a1r p) t).length = t.length \/ a2Q to = false) -> (a0S (mvFs p to (filB (a1r p) t) t) = false \/ ¬ (mvFs p to (filB (a1r p) t) t).length = t.length) -> a1R t p to = (t, false) := fun h q w => by unfold a1R; rw [if_pos h, if_neg q, if_pos w]
 have e3 : a0S t = true -> ¬ ((filB (a1r p) t).length = t.length \/ a2Q to = false) -> ¬ (a0S (mvFs p to (filB (a1r p) t) t) = false \/ ¬ (mvFs p to (filB (a1r p) t) t).length = t.length) -> a1R t p to = (mvFs p to (filB (a1r p) t) t, true) := fun h q w => by unfold a1R; rw [if_pos h, if_neg q, if_neg w]
 refine ⟨fun h => by rw [e0 h]; exact ⟨rfl, rfl⟩, fun h => ⟨⟨h1, h2⟩, t, p, ⟨rfl, rfl⟩, h1, fun _ _ => ⟨fun q => ⟨⟨h1, h2⟩, by rw [e1 h (.inl (by omega))]; exact ⟨rfl, rfl⟩⟩, fun q => ⟨fun w => ⟨⟨h1, h2⟩, by rw [e1 h (.inr w)]; exact ⟨rfl, rfl⟩⟩, fun w _ => ⟨⟨0, ⟨by simp -implicitDefEqProofs [mvFs], rfl⟩, Nat.zero_le _, h⟩, fun i hi _ _ => ⟨fun hlt => ?_, fun hge => ?_⟩⟩⟩⟩⟩⟩
 ·have g := c2w (p := p) (to := to) (o := filB (a1r p) t) hlt
  have h8 := (a4n t h).1
  have gl := c4O p to (filB (a1r p) t) (t.take i)
  have gf := List.length_filter_le (a1r p) t
  have gf : (filB (a1r p) t).length <= t.length := gf
  have gt : (t.take i).length <= t.length := by simp; omega
  have gp := h4 _ (List.getElem_mem hlt)
  have gx := h2 _ (List.getElem_mem hlt)
  have gi := @c6K p t[i].path
  clear e0 e1 e2 e3
  generalize mvFs p to (filB (a1r p) t) (t.take i) = X at g gl ⊢
  simp -implicitDefEqProofs [hlt, a0z, D.asStr, D.asRows, and_assoc]
  have gtk : List.take (List.length t[i].path - List.length p) (List.drop (List.length p) t[i].path) = t[i].path.drop p.length := List.take_of_length_le (by simp)
  rw [gtk]
  have hm : maxLen = 9223372036854775807 := rfl
  refine ⟨fun e => ⟨by rw [e]; omega, fun _ => ⟨by omega, fun _ => ⟨by omega, gx, by omega, by omega, fun _ _ => ⟨i + 1, ?_, by omega, by omega, h, by omega⟩⟩⟩⟩,
   fun e => ⟨fun c => ⟨by have := gi c; omega, fun _ => ⟨by omega, fun _ => ⟨by omega, gx, by omega, by omega, fun _ _ => ⟨i + 1, ?_, by omega, by omega, h, by omega⟩⟩⟩⟩, fun c => ⟨by omega, by omega, fun _ _ => ⟨i + 1, ?_, by omega, by omega, h, by omega⟩⟩⟩⟩
  ·rw [g]; unfold a5z; rw [if_pos (by simp -implicitDefEqProofs [b4M, e])]
  ·rw [g]; unfold a5z; rw [if_pos (by simp -implicitDefEqProofs [b4M, c])]
  ·rw [g]; unfold a5z; rw [if_neg (by simp -implicitDefEqProofs [b4M, c, e])]
 ·rw [List.take_of_length_le hge]
  have hn : ¬ ((filB (a1r p) t).length = t.length \/ a2Q to = false) := by rintro (c | c); omega; rw [w] at c; cases c
  have e2 := e2 h hn
  have e3 := e3 h hn
  generalize mvFs p to (filB (a1r p) t) t = X at e2 e3 ⊢
  refine ⟨fun c => ⟨⟨h1, h2⟩, by rw [e2 (.inl c)]; exact ⟨rfl, rfl⟩⟩, fun c _ => ⟨fun d => ⟨⟨h1, h2⟩, by rw [e2 (.inr (by omega))]; exact ⟨rfl, rfl⟩⟩, fun d => ?_⟩⟩
  rw [e3 (by rintro (k | k); rw [c] at k; cases k; omega)]; exact ⟨rfl, rfl⟩
theorem a8g {a b c : Str} (h : Go.Op.bytesLess a b = true) (h' : Go.Op.bytesLess b c = true) : Go.Op.bytesLess a c = true := by
 rw [a4e, decide_eq_true_eq] at *
 exact List.lt_trans h h'
theorem a5q (a : Str) : Go.Op.bytesLess a a = false := by
 rw [a4e, decide_eq_false_iff_not]
 exact List.lt_irrefl a
theorem c3r {t : List FileD} (h : a0s t = true) : ∀ j i, (hij : i < j) -> (hj : j < t.length) -> Go.Op.bytesLess (t[i]'(by omega)).path t[j].path = true := by
 have hs : ∀ j, (h0 : 0 < j) -> (hj : j < t.length) -> Go.Op.bytesLess (t[j - 1]'(by omega)).path t[j].path = true := by
  intro j h0 hj
  simp only [a0s, Bool.and_eq_true, List.all_eq_true, List.mem_range] at h
  have h2 := (h.2 j hj).1
  simp only [a2F, Bool.and_eq_true, Bool.or_eq_true, decide_eq_true_eq] at h2
  rcases h2.2 with h3 | h3
  ·omega
  ·simpa [List.getD_eq_getElem?_getD, hj, (show j - 1 < t.length by omega)] using h3
 intro j
 induction j with
 | zero => intro i hi; omega
 | succ j ih =>
  intro i hi hj
  have h1 := hs (j + 1) (by omega) hj
  by_cases e : i = j
  ·subst e; exact h1
  ·exact a8g (ih i (by omega) (by omega)) h1
def putS : List Str -> Str -> List Str
 | [], s => [s]
 | x :: l, s => if Go.Op.bytesLess x s then x :: putS l s else if x = s then x :: l else s :: x :: l
theorem c5p (l : List Str) (s : Str) : (putS l s).length <= l.length + 1 := by
 induction l with
 | nil => simp -implicitDefEqProofs [putS]
 | cons x l ih =>
  unfold putS
  split
  ·simp; omega
  ·split <;> simp
theorem c2T {l : List Str} {s : Str} {k : Nat} (h : k < l.length) (hp : l.take k ++ putS (l.drop k) s = putS l s) (hl : Go.Op.bytesLess l[k] s = true) : l.take (k + 1) ++ putS (l.drop (k + 1)) s = putS l s := by
 rw [List.drop_eq_getElem_cons h, putS, if_pos hl] at hp
 rw [a0w h, List.append_assoc]
 exact hp
theorem c5o {l : List Str} {s : Str} {k : Nat} (h : l.length <= k) (hp : l.take k ++ putS (l.drop k) s = putS l s) : putS l s = l.take k ++ [s] ++ l.drop k := by
 rw [List.drop_eq_nil_of_le h] at hp ⊢
 rw [<- hp]; simp -implicitDefEqProofs [putS]
theorem c7i {l : List Str} {s : Str} {k : Nat} (h : k < l.length) (hp : l.take k ++ putS (l.drop k) s = putS l s) (hl : Go.Op.bytesLess l[k] s = false) (he : l[k] = s) : putS l s = l := by
 rw [List.drop_eq_getElem_cons h, putS, if_neg (by simp -implicitDefEqProofs [hl]), if_pos he, <- List.drop_eq_getElem_cons h, List.take_append_drop] at hp
 exact hp.symm
theorem c7j {l : List Str} {s : Str} {k : Nat} (h : k < l.length) (hp : l.take k ++ putS (l.drop k) s = putS l s) (hl : Go.Op.bytesLess l[k] s = false) (he : ¬ l[k] = s) : putS l s = l.take k ++ [s] ++ l.drop k := by
 rw [List.drop_eq_getElem_cons h, putS, if_neg (by simp -implicitDefEqProofs [hl]), if_neg he, <- List.drop_eq_getElem_cons h] at hp
 rw [<- hp]; simp
def a1u (l : List Str) (t : List FileD) : List Str := t.foldl (fun l f => putS l f.path) l
theorem a8n {l : List Str} {t : List FileD} {i : Nat} (h : i < t.length) : a1u l (t.take (i + 1)) = putS (a1u l (t.take i)) t[i].path := by
 unfold a1u
 rw [a0w h, List.foldl_append]; rfl
theorem a3j (t : List FileD) : ∀ l, (a1u l t).length <= l.length + t.length := by
 induction t with
 | nil => intro l; simp -implicitDefEqProofs [a1u]
 | cons f t ih =>
  intro l
  have h1 := ih (putS l f.path)
  have h2 := c5p l f.path
  show (a1u (putS l f.path) t).length <= _
  simp only [List.length_cons]
  omega
def a0H (o a b : List FileD) : List Str := a1u (a1u (a1u [] o) a) b
theorem b2s (o a b : List FileD) : (a0H o a b).length <= o.length + a.length + b.length := by
 have h1 := a3j b (a1u (a1u [] o) a)
 have h2 := a3j a (a1u [] o)
 have h3 := a3j o []
 simp at h3
 show (a1u (a1u (a1u [] o) a) b).length <= _
 omega
def a1y (a b : List Str × Bool) : Bool := decide (a.2 = b.2) && (!a.2 || decide (a.1 = b.1))
def one6 (o a b : List FileD) (p : Str) : List Str × Bool × Int :=
 if a1y (getL a p) (getL o p) || a1y (getL a p) (getL b p) then ((getL b p).1, (getL b p).2, 0)
 else if a1y (getL b p) (getL o p) then ((getL a p).1, (getL a p).2, 0)
 else if !(getL a p).2 || !(getL b p).2 then ((getL o p).1, (getL o p).2, 1)
 else if !(getL o p).2 then ([], false, 2)
 else if (a1v (of3 (getL o p).1 (getL a p).1 (getL b p).1)).2 then ((a1v (of3 (getL o p).1 (getL a p).1 (getL b p).1)).1, true, 0)
 else ((getL o p).1, true, 3)
theorem a5j {t : List FileD} {n : Nat} (h : ∀ f ∈ t, f.text.length <= n) (p : Str) : (getL t p).1.length <= n := by
 induction t with
 | nil => simp -implicitDefEqProofs [getL]
 | cons f t ih =>
  unfold getL
  split
  ·exact h f (by simp)
  ·exact ih fun g hg => h g (by simp -implicitDefEqProofs [hg])
theorem a3V {t : List Str} (h : a1i t = true) : t.length <= 10 := by
 unfold a1i at h
 simp only [Bool.and_eq_true, decide_eq_true_eq] at h
 exact h.1
theorem c3p (l : List PartD) : (a1v l).1.length <= 10 := by
 unfold a1v
 split
 ·simp
 ·split
  ·rename_i h; exact a3V h
  ·simp
theorem b6r {o a b : List FileD} {p : Str} {n : Nat} (hn : 10 <= n) (ho : ∀ f ∈ o, f.text.length <= n) (ha : ∀ f ∈ a, f.text.length <= n) (hb : ∀ f ∈ b, f.text.length <= n) : (one6 o a b p).1.length <= n := by
 have h1 := a5j ho p
 have h2 := a5j ha p
 have h3 := a5j hb p
 have h4 := c3p (of3 (getL o p).1 (getL a p).1 (getL b p).1)
 unfold one6
 split
 ·exact h3
 ·split
  ·exact h2
  ·split
   ·exact h1
   ·split
    ·simp
    ·split
     ·show (a1v _).1.length <= n; omega
     ·exact h1
def stepJ (o a b : List FileD) (s : List FileD × List HeadD) (p : Str) : List FileD × List HeadD :=
 (if (one6 o a b p).2.1 then s.1 ++ [⟨p, (one6 o a b p).1⟩] else s.1, if 0 < (one6 o a b p).2.2 then s.2 ++ [⟨p, (one6 o a b p).2.2⟩] else s.2)
def runJ (o a b : List FileD) (l : List Str) : List FileD × List HeadD := l.foldl (stepJ o a b) ([], [])
theorem b4e {o a b : List FileD} {l : List Str} {i : Nat} (h : i < l.length) : runJ o a b (l.take (i + 1)) = stepJ o a b (runJ o a b (l.take i)) l[i] := by
 unfold runJ
 rw [a0w h, List.foldl_append]; rfl
theorem b6H (o a b : List FileD) (l : List Str) : (runJ o a b l).1.length <= l.length /\ (runJ o a b l).2.length <= l.length := by
 have : ∀ (l : List Str) (s : List FileD × List HeadD), (l.foldl (stepJ o a b) s).1.length <= s.1.length + l.length /\ (l.foldl (stepJ o a b) s).2.length <= s.2.length + l.length := by
  intro l
  induction l with
  | nil => intro s; simp
  | cons p l ih =>
   intro s
   obtain ⟨h1, h2⟩ := ih (stepJ o a b s p)
   have h3 : (stepJ o a b s p).1.length <= s.1.length + 1 /\ (stepJ o a b s p).2.length <= s.2.length + 1 := by
    unfold stepJ
    constructor
    ·show (if _ then _ else _ : List FileD).length <= _
     split <;> simp
    ·show (if _ then _ else _ : List HeadD).length <= _
     split <;> simp
   simp only [List.foldl_cons, List.length_cons]
   omega
 have := this l ([], [])
 simpa [runJ] using this
def of6 (o a b : List FileD) : List FileD × List HeadD := runJ o a b (a0H o a b)
def a1b (o a b : List FileD) : List FileD × List HeadD := if (of6 o a b).2 = [] /\ a0S (of6 o a b).1 = false then (o, [⟨[], 4⟩]) else of6 o a b
theorem b9B {o a b : List FileD} (h : (a1b o a b).2 = []) : a0S (a1b o a b).1 = true := by
 unfold a1b at h ⊢
 split
 ·rename_i h2; rw [if_pos h2] at h; simp at h
 ·rename_i h2
  rw [if_neg h2] at h
  cases hq : a0S (of6 o a b).1 with
  | true => rfl
  | false => exact absurd ⟨h, hq⟩ h2
def a1K (r : RepoD) (a b : Int) (i : Nat) : List Int := ((a0g (anc r a)).take i).filter fun x => decide (x ∈ a0g (anc r b))
def a7I (r : RepoD) (l : List Int) (i k : Nat) : Bool := (List.range k).all fun j => decide (j = i) || !decide (l.getD i 0 ∈ a0g (anc r (l.getD j 0)))
def a2L (r : RepoD) (l : List Int) (i : Nat) : List Int := ((List.range i).filter fun j => a7I r l j l.length).map fun j => l.getD j 0
def a3x (r : RepoD) (a b : Int) : List Int := a2L r (a1K r a b (a0g (anc r a)).length) (a1K r a b (a0g (anc r a)).length).length
def a1P (r : RepoD) (a b : Int) : List FileD := match (a3x r a b).getLast? with
 | none => []
 | some c => a0e r c
def noR : RepoD := ⟨[], []⟩
def a2f (r : RepoD) (n w : Str) (b : Int) : RepoD × Int :=
 if b ∈ a0g (anc r (atL r.heads n)) then (r, 2)
 else if atL r.heads n ∈ a0g (anc r b) then (⟨r.commits, hSet r.heads n b⟩, 3)
 else if (a1b (a1P r (atL r.heads n) b) (a0e r (atL r.heads n)) (a0e r b)).2 = [] then
  (if a0j (addR r n ⟨[atL r.heads n, b], w, (a1b (a1P r (atL r.heads n) b) (a0e r (atL r.heads n)) (a0e r b)).1⟩) then
   (addR r n ⟨[atL r.heads n, b], w, (a1b (a1P r (atL r.heads n) b) (a0e r (atL r.heads n)) (a0e r b)).1⟩, 0) else (r, 5))
 else (r, 4)
def a0u (r : RepoD) (n w : Str) (b : Int) : RepoD × Int :=
 if a0j r then (if atL r.heads n < 0 \/ a0Q w = false \/ ¬ (0 <= b /\ b < r.commits.length) then (r, 1) else a2f r n w b) else (noR, 1)
def a1h (r : RepoD) (c : Int) : List FileD := match (r.commits.getD c.toNat default).parents with
 | [] => []
 | p :: _ => a0e r p
def a1e (r : RepoD) (n w : Str) (o b : List FileD) : RepoD × Int :=
 if (a1b o (a0e r (atL r.heads n)) b).2 = [] then
  (if a0j (addR r n ⟨[atL r.heads n], w, (a1b o (a0e r (atL r.heads n)) b).1⟩) then (addR r n ⟨[atL r.heads n], w, (a1b o (a0e r (atL r.heads n)) b).1⟩, 0) else (r, 5))
 else (r, 4)
def a0U (back : Bool) (r : RepoD) (n w : Str) (c : Int) : RepoD × Int :=
 if a0j r then (if atL r.heads n < 0 \/ a0Q w = false \/ ¬ (0 <= c /\ c < r.commits.length) then (r, 1)
  else if back then a1e r n w (a0e r c) (a1h r c) else a1e r n w (a1h r c) (a0e r c)) else (noR, 1)
theorem a8a : ∀ {l : List HeadD}, (∀ i, 0 < i -> i < l.length -> Go.Op.bytesLess (l.getD (i - 1) default).name (l.getD i default).name = true) -> l.Pairwise fun a b => Go.Op.bytesLess a.name b.name = true
 | [], _ => .nil
 | [x], _ => by simp
 | x :: y :: t, h => by
  have ih := a8a (l := y :: t) fun i h1 h2 => by
   have := h (i + 1) (by omega) (by simp only [List.length_cons] at h2 ⊢; omega)
   rw [show i + 1 - 1 = (i - 1) + 1 by omega, List.getD_cons_succ, List.getD_cons_succ] at this
   exact this
  have hxy := h 1 (by omega) (by simp)
  have hxy : Go.Op.bytesLess x.name y.name = true := by simpa using hxy
  refine List.pairwise_cons.2 ⟨fun z hz => ?_, ih⟩
  rcases List.mem_cons.1 hz with rfl | hz
  ·exact hxy
  ·exact a8g hxy ((List.pairwise_cons.1 ih).1 z hz)
theorem a9V (n : Str) (a : Int) : ∀ (l X : List HeadD), l.foldl (a1L n a) (X, true) = (X ++ l.filter (fun g => decide (g.name ≠ n)), true)
 | [], X => by simp
 | g :: l, X => by
  rw [List.foldl_cons]
  by_cases h : g.name = n
  ·have e : a1L n a (X, true) g = (X, true) := by unfold a1L; simp -implicitDefEqProofs [h]
   rw [e, a9V n a l X]; simp -implicitDefEqProofs [h]
  ·have e : a1L n a (X, true) g = (X ++ [g], true) := by unfold a1L; simp -implicitDefEqProofs [h]
   rw [e, a9V n a l (X ++ [g])]; simp -implicitDefEqProofs [h]
def hAt (n : Str) (a : Int) (h : HeadD) : HeadD := if h.name = n then ⟨n, a⟩ else h
theorem b3N (n : Str) (a : Int) : ∀ (l X : List HeadD), (l.Pairwise fun a b => Go.Op.bytesLess a.name b.name = true) -> (∃ h ∈ l, h.name = n) -> l.foldl (a1L n a) (X, false) = (X ++ l.map (hAt n a), true)
 | [], X, _, h => by obtain ⟨_, h, _⟩ := h; simp at h
 | g :: l, X, hp, hn => by
  obtain ⟨hp1, hp2⟩ := List.pairwise_cons.1 hp
  rw [List.foldl_cons]
  by_cases h : g.name = n
  ·have e : a1L n a (X, false) g = (X ++ [⟨n, a⟩], true) := by unfold a1L; simp -implicitDefEqProofs [h, a5q]
   have hne : ∀ z ∈ l, ¬ z.name = n := fun z hz hc => by
    have := hp1 z hz
    rw [h, hc, a5q] at this
    cases this
   have e2 : l.filter (fun g => decide (g.name ≠ n)) = l := by rw [List.filter_eq_self]; intro z hz; simp -implicitDefEqProofs [hne z hz]
   have e3 : l.map (hAt n a) = l := by
    have : l.map (hAt n a) = l.map id := List.map_congr_left fun z hz => by simp -implicitDefEqProofs [hAt, hne z hz]
    rw [this]; simp
   rw [e, a9V, e2]; simp -implicitDefEqProofs [e3, hAt, h]
  ·obtain ⟨z, hz, hzn⟩ := hn
   have hz : z ∈ l := by
    rcases List.mem_cons.1 hz with rfl | hz
    ·exact absurd hzn h
    ·exact hz
   have hl : Go.Op.bytesLess g.name n = true := by rw [<- hzn]; exact hp1 z hz
   have e : a1L n a (X, false) g = (X ++ [g], false) := by unfold a1L; simp -implicitDefEqProofs [h, hl]
   rw [e, b3N n a l (X ++ [g]) hp2 ⟨z, hz, hzn⟩]; simp -implicitDefEqProofs [hAt, h]
theorem b0Z {l : List HeadD} {n : Str} {a : Int} (hl : ∀ i, 0 < i -> i < l.length -> Go.Op.bytesLess (l.getD (i - 1) default).name (l.getD i default).name = true) (hn : ∃ h ∈ l, h.name = n) :
  hSet l n a = l.map (hAt n a) := by
 unfold hSet hL
 rw [b3N n a l [] (a8a hl) hn]
 simp
theorem c6x {l : List HeadD} {n : Str} (h : 0 <= atL l n) : ∃ h ∈ l, h.name = n := by
 induction l with
 | nil => simp -implicitDefEqProofs [atL] at h
 | cons g l ih =>
  unfold atL at h
  split at h
  ·rename_i e; exact ⟨g, by simp, e⟩
  ·obtain ⟨x, h1, h2⟩ := ih h; exact ⟨x, by simp -implicitDefEqProofs [h1], h2⟩
theorem b1x {l : List HeadD} {n : Str} {k : Nat} (hl : a1U k l = true) : atL l n < k /\ -1 <= atL l n \/ atL l n = -1 := by
 have h2 := ((a2b _ _).1 hl).2
 have : ∀ (l' : List HeadD), (∀ h ∈ l', 0 <= h.at_ /\ h.at_ < k) -> atL l' n < k /\ -1 <= atL l' n \/ atL l' n = -1 := by
  intro l'
  induction l' with
  | nil => intro _; right; rfl
  | cons g l' ih =>
   intro h
   unfold atL
   split
   ·left; have := h g (by simp); omega
   ·exact ih fun x hx => h x (by simp -implicitDefEqProofs [hx])
 refine this l fun h hh => ?_
 obtain ⟨i, hi, rfl⟩ := List.getElem_of_mem hh
 have := h2 i hi
 simp only [okHd, inN, List.getD_eq_getElem?_getD, List.getElem?_eq_getElem hi, Option.getD_some, Bool.and_eq_true, decide_eq_true_eq] at this
 omega
theorem b9w {k : Nat} {l : List HeadD} {n : Str} {b : Int} (h : a1U k l = true) (hn : 0 <= atL l n) (hb : 0 <= b /\ b < k) : a1U k (hSet l n b) = true := by
 obtain ⟨h1, h2⟩ := (a2b _ _).1 h
 have hg : ∀ i (hi : i < l.length), l.getD i default = l[i] := fun i hi => by simp -implicitDefEqProofs [List.getD_eq_getElem?_getD, hi]
 rw [b0Z (fun i h3 h4 => by
  have := h2 i h4
  unfold okHd at this
  simp only [Bool.and_eq_true, Bool.or_eq_true, decide_eq_true_eq] at this
  rcases this.2 with h5 | h5
  ·omega
  ·exact h5) (c6x hn), a2b]
 have hm : ∀ i (hi : i < l.length), (l.map (hAt n b)).getD i default = hAt n b l[i] := fun i hi => by simp -implicitDefEqProofs [List.getD_eq_getElem?_getD, hi]
 have hname : ∀ g : HeadD, (hAt n b g).name = g.name := fun g => by unfold hAt; split <;> simp_all
 refine ⟨by simpa using h1, fun i hi => ?_⟩
 have hi : i < l.length := by simpa using hi
 have h3 := h2 i hi
 unfold okHd at h3 ⊢
 rw [hm i hi, hname]
 rw [hg i hi] at h3
 have hat : inN k (hAt n b l[i]).at_ = true := by
  simp only [Bool.and_eq_true] at h3
  unfold hAt
  split
  ·simp only [inN, Bool.and_eq_true, decide_eq_true_eq]; omega
  ·exact h3.1.2
 rw [hat]
 rcases Nat.eq_zero_or_pos i with h0 | h0
 ·subst h0
  simp only [Bool.and_eq_true] at h3
  simp -implicitDefEqProofs [h3.1.1]
 ·rw [hm (i - 1) (by omega), hname]
  rw [hg (i - 1) (by omega)] at h3
  simp only [Bool.and_eq_true] at h3 ⊢
  exact ⟨⟨h3.1.1, trivial⟩, h3.2⟩
theorem a6W {r : RepoD} {n : Str} {b : Int} (h : a0j r = true) (hn : 0 <= atL r.heads n) (hb : 0 <= b /\ b < r.commits.length) : a0j ⟨r.commits, hSet r.heads n b⟩ = true := by
 obtain ⟨h1, h2, h3⟩ := (a0T r).1 h
 exact (a0T _).2 ⟨h1, b9w h2 hn hb, h3⟩
theorem a7l (l : List HeadD) (n : Str) (a : Int) : hSet l n a ≠ [] := by
 have : ∀ (l : List HeadD) (s : List HeadD × Bool), (s.2 = true -> s.1 ≠ []) -> ((l.foldl (a1L n a) s).2 = true -> (l.foldl (a1L n a) s).1 ≠ []) := by
  intro l
  induction l with
  | nil => intro s h; exact h
  | cons g l ih =>
   intro s h
   refine ih (a1L n a s g) ?_
   unfold a1L
   split
   ·split <;> simp
   ·split
    ·exact h
    ·simp
 unfold hSet
 split
 ·rename_i h; exact this l ([], false) (by simp) h
 ·simp
theorem c3s {r : RepoD} {n w : Str} {b : Int} (h : a0j r = true) (hn : 0 <= atL r.heads n) (hb : 0 <= b /\ b < r.commits.length) (hh : r.commits ≠ [] -> r.heads ≠ []) :
  a0j (a2f r n w b).1 = true /\ ((a2f r n w b).1.commits ≠ [] -> (a2f r n w b).1.heads ≠ []) := by
 unfold a2f
 split
 ·exact ⟨h, hh⟩
 ·split
  ·exact ⟨a6W h hn hb, fun _ => a7l _ _ _⟩
  ·split
   ·split
    ·rename_i q; exact ⟨q, fun _ => a7l _ _ _⟩
    ·exact ⟨h, hh⟩
   ·exact ⟨h, hh⟩
theorem b4k {r : RepoD} {n w : Str} {b : Int} (h : a0j r = true) (hh : r.commits ≠ [] -> r.heads ≠ []) :
  a0j (a0u r n w b).1 = true /\ ((a0u r n w b).1.commits ≠ [] -> (a0u r n w b).1.heads ≠ []) := by
 unfold a0u
 rw [if_pos h]
 split
 ·exact ⟨h, hh⟩
 ·rename_i q
  exact c3s h (by omega) (by omega) hh
theorem b6C {r : RepoD} {n w : Str} {o b : List FileD} (h : a0j r = true) (hh : r.commits ≠ [] -> r.heads ≠ []) :
  a0j (a1e r n w o b).1 = true /\ ((a1e r n w o b).1.commits ≠ [] -> (a1e r n w o b).1.heads ≠ []) := by
 unfold a1e
 split
 ·split
  ·rename_i q; exact ⟨q, fun _ => a7l _ _ _⟩
  ·exact ⟨h, hh⟩
 ·exact ⟨h, hh⟩
theorem b6A {k : Bool} {r : RepoD} {n w : Str} {c : Int} (h : a0j r = true) (hh : r.commits ≠ [] -> r.heads ≠ []) :
  a0j (a0U k r n w c).1 = true /\ ((a0U k r n w c).1.commits ≠ [] -> (a0U k r n w c).1.heads ≠ []) := by
 unfold a0U
 rw [if_pos h]
 split
 ·exact ⟨h, hh⟩
 ·split
  ·exact b6C h hh
  ·exact b6C h hh
def clrN (l : List Bool) (i : Int) (ks : List Int) : List Bool := ks.foldl (fun l k => if k = i then l else l.set k.toNat false) l
theorem b5x (i : Int) (ks : List Int) : ∀ l : List Bool, (clrN l i ks).length = l.length := by
 induction ks with
 | nil => intro l; rfl
 | cons p r ih =>
  intro l
  show (clrN (if p = i then l else l.set p.toNat false) i r).length = _
  rw [ih]; split <;> simp
def comB (r : RepoD) (a b : Int) : List Bool := (List.range r.commits.length).map fun i => isT (anc r a) i && isT (anc r b) i
theorem a7X (r : RepoD) (a b : Int) : (comB r a b).length = r.commits.length := by simp -implicitDefEqProofs [comB]
def bigT (r : RepoD) (L : List Int) (l : List Bool) : List Bool := L.foldl (fun l i => clrN l i (a0g (anc r i))) l
theorem a7J (r : RepoD) (L : List Int) : ∀ l : List Bool, (bigT r L l).length = l.length := by
 induction L with
 | nil => intro l; rfl
 | cons i L ih =>
  intro l
  show (bigT r L (clrN l i (a0g (anc r i)))).length = _
  rw [ih, b5x]
def a1B (r : RepoD) (a b : Int) : List Int := a0g (bigT r (a0g (comB r a b)) (comB r a b))
theorem c6N {l : List Bool} {p g : Nat} : isT (l.set p false) g = (isT l g && !decide (p = g)) := by
 unfold isT
 rw [List.getD_eq_getElem?_getD, List.getD_eq_getElem?_getD]
 by_cases h : p = g
 ·subst h
  rw [List.getElem?_set_self']
  cases l[p]? <;> simp
 ·rw [List.getElem?_set_ne h]; simp -implicitDefEqProofs [h]
theorem c3Z (i : Int) {ks : List Int} (hk : ∀ k ∈ ks, 0 <= k) (g : Nat) : ∀ l : List Bool, isT (clrN l i ks) g = (isT l g && (decide ((g : Int) = i) || !decide ((g : Int) ∈ ks))) := by
 induction ks with
 | nil => intro l; simp -implicitDefEqProofs [clrN]
 | cons p r ih =>
  intro l
  show isT (clrN (if p = i then l else l.set p.toNat false) i r) g = _
  rw [ih (fun k hk' => hk k (by simp -implicitDefEqProofs [hk']))]
  have hp := hk p (by simp)
  split
  ·rename_i h
   subst h
   cases hq : isT l g <;> simp
   by_cases hg : (g : Int) = p
   ·simp -implicitDefEqProofs [hg]
   ·simp -implicitDefEqProofs [hg]
  ·rename_i h
   rw [c6N]
   have e : (p.toNat = g) = ((g : Int) = p) := by apply propext; omega
   cases hq : isT l g <;> simp -implicitDefEqProofs [e]
   by_cases hg : (g : Int) = p
   ·simp -implicitDefEqProofs [hg, h]
   ·simp -implicitDefEqProofs [hg]
theorem c4L {l : List Bool} : ∀ k ∈ a0g l, 0 <= k := fun k hk => by obtain ⟨i, _, _, rfl⟩ := listT_mem.1 hk; omega
theorem c3S (r : RepoD) (L : List Int) (g : Nat) : ∀ l : List Bool, isT (bigT r L l) g = (isT l g && L.all fun i => decide ((g : Int) = i) || !decide ((g : Int) ∈ a0g (anc r i))) := by
 induction L with
 | nil => intro l; simp -implicitDefEqProofs [bigT]
 | cons i L ih =>
  intro l
  show isT (bigT r L (clrN l i (a0g (anc r i)))) g = _
  rw [ih, c3Z i c4L, List.all_cons, Bool.and_assoc]
def lastB (r : RepoD) (L : List Int) (x : Int) : Bool := L.all fun y => decide (x = y) || !decide (x ∈ a0g (anc r y))
theorem a9j {l m : List Bool} (hl : l.length = m.length) (p : Int -> Bool) (h : ∀ g : Nat, isT m g = (isT l g && p g)) : a0g m = (a0g l).filter p := by
 unfold a0g a2O
 rw [<- hl, List.filter_map, List.filter_filter]
 congr 1
 apply List.filter_congr
 intro g _
 rw [h g, Bool.and_comm]; rfl
theorem c1l (r : RepoD) (a b : Int) : a1B r a b = (a0g (comB r a b)).filter (lastB r (a0g (comB r a b))) :=
 a9j (a7J _ _ _).symm _ fun g => c3S r _ g _
theorem a9W {l : List Bool} {g : Nat} (h : isT l g = true) : g < l.length := by
 unfold isT at h
 rcases Nat.lt_or_ge g l.length with h2 | h2
 ·exact h2
 ·rw [List.getD_eq_getElem?_getD, List.getElem?_eq_none h2] at h; simp at h
theorem c4q {r : RepoD} {a b : Int} (g : Nat) : isT (comB r a b) g = (isT (anc r a) g && isT (anc r b) g) := by
 have hla := a1G r a
 rcases Nat.lt_or_ge g r.commits.length with h | h
 ·unfold comB
  rw [isT, List.getD_eq_getElem?_getD, List.getElem?_map, List.getElem?_range h]; rfl
 ·have e1 : isT (comB r a b) g = false := by
   cases q : isT (comB r a b) g with
   | false => rfl
   | true => have := a9W q; rw [a7X] at this; omega
  have e2 : isT (anc r a) g = false := by
   cases q : isT (anc r a) g with
   | false => rfl
   | true => have := a9W q; rw [hla] at this; omega
  rw [e1, e2]; rfl
theorem c3T (r : RepoD) (a b : Int) : a1K r a b (a0g (anc r a)).length = a0g (comB r a b) := by
 unfold a1K
 rw [List.take_length]
 refine (a9j (by rw [a7X, a1G]) _ fun g => ?_).symm
 rw [c4q]
 congr 1
 rw [Bool.eq_iff_iff, decide_eq_true_eq, listT_mem]
 constructor
 ·intro h; exact ⟨g, a9W h, h, rfl⟩
 ·rintro ⟨i, _, h, e⟩
  have : g = i := by omega
  rw [this]; exact h
theorem b7I (l : List Bool) : (a0g l).Nodup := by
 unfold a0g a2O
 rw [List.nodup_iff_pairwise_ne, List.pairwise_map]
 exact (List.Pairwise.filter _ List.pairwise_lt_range).imp fun h => by omega
theorem b5G {L : List Int} (p : Int -> Bool) : ((List.range L.length).filter fun i => p (L.getD i 0)).map (fun j => L.getD j 0) = L.filter p := by
 have e : L = (List.range L.length).map fun j => L.getD j 0 := by
  apply List.ext_getElem
  ·simp
  ·intro i h1 h2
   simp -implicitDefEqProofs [List.getD_eq_getElem?_getD, h1]
 have h : L.filter p = ((List.range L.length).map fun j => L.getD j 0).filter p := congrArg (List.filter p) e
 rw [h, List.filter_map]; rfl
theorem b0B (r : RepoD) (a b : Int) : a1B r a b = a3x r a b := by
 rw [c1l]
 unfold a3x
 rw [c3T]
 have hnd := b7I (comB r a b)
 generalize a0g (comB r a b) = L at *
 rw [<- b5G (lastB r L)]
 unfold a2L
 congr 1
 apply List.filter_congr
 intro i hi
 have hi : i < L.length := by simpa using hi
 have gi : L.getD i 0 = L[i] := by simp -implicitDefEqProofs [List.getD_eq_getElem?_getD, hi]
 unfold lastB a7I
 rw [Bool.eq_iff_iff, List.all_eq_true, List.all_eq_true]
 simp only [List.mem_range, Bool.or_eq_true, decide_eq_true_eq, Bool.not_eq_true', decide_eq_false_iff_not]
 constructor
 ·intro h j hj
  have gj : L.getD j 0 = L[j] := by simp -implicitDefEqProofs [List.getD_eq_getElem?_getD, hj]
  rcases h L[j] (List.getElem_mem hj) with h | h
  ·left
   rw [gi] at h
   exact ((List.getElem_inj hnd).1 h).symm
  ·right; rw [gj]; exact h
 ·intro h y hy
  obtain ⟨j, hj, rfl⟩ := List.getElem_of_mem hy
  have gj : L.getD j 0 = L[j] := by simp -implicitDefEqProofs [List.getD_eq_getElem?_getD, hj]
  rcases h j hj with h | h
  ·left; subst h; exact gi
  ·right; rw [gj] at h; exact h



theorem a7n {l : List Bool} {x : Int} (h0 : 0 <= x) (h1 : x.toNat < l.length) : isT l x.toNat = decide (x ∈ a0g l) := by
 rw [Bool.eq_iff_iff, decide_eq_true_iff, listT_mem]
 constructor
 ·intro h; exact ⟨x.toNat, h1, h, by omega⟩
 ·rintro ⟨i, _, h2, rfl⟩
  simpa using h2
theorem c6M (ps : List Int) : ∀ (l : List Bool) (i : Nat), (∀ p ∈ ps, 0 <= p) -> isT (clrT l ps) i = (isT l i && !decide ((i : Int) ∈ ps)) := by
  induction ps with
  | nil => intro l i _; simp [clrT]
  | cons p r ih =>
    intro l i h
    show isT (clrT (l.set p.toNat false) r) i = _
    rw [ih _ _ fun q hq => h q (by simp [hq])]
    have hp := h p (by simp)
    by_cases e : p.toNat = i
    · have hm : (i : Int) ∈ p :: r := by have : (i : Int) = p := by omega
                                         rw [this]; simp
      have hf : isT (l.set p.toNat false) i = false := by
        unfold isT
        rw [e, List.getD_eq_getElem?_getD, List.getElem?_set_self']
        cases l[i]? <;> rfl
      rw [hf, decide_eq_true hm]; simp
    · rw [a8b _ e]
      have : ¬ (i : Int) = p := by omega
      simp [this]
theorem c2t (l : List Bool) (ps : List Int) (h : ∀ p ∈ ps, 0 <= p) : a0g (clrT l ps) = (a0g l).filter fun x => !decide (x ∈ ps) := by
 unfold a0g a2O
 rw [b5y, List.filter_map, List.filter_filter]
 congr 1
 apply List.filter_congr
 intro i _
 rw [c6M ps l i h, Bool.and_comm]
 rfl
theorem c7x {r : RepoD} {a h : Int} (hr : a0l r = true) (ha : inN r.commits.length a = true) (hh : inN r.commits.length h = true) : a0g (sinL r a [h]) = newL r h a := by
 have e : sinL r a [h] = clrT (anc r a) (a0g (anc r h)) := rfl
 rw [e, c2t]
 ·unfold newL newF
  rw [hr, ha, hh, List.take_length]; rfl
 ·intro p hp
  obtain ⟨i, _, _, rfl⟩ := listT_mem.1 hp
  omega
def Con.view (k : Con) (K : Nat) (rows : k.A -> k.X -> List (List D)) : Con := { k with res := fun a x => .sl false K (rows a x), fin := fun _ _ => [] }
theorem Has.view {P : Program} {f : Nat} {k : Con} (H : Has P f k) (K : Nat) (rows : k.A -> k.X -> List (List D)) (hr : ∀ a x, k.res a x = .own 8 K (rows a x)) (hb : ∀ a, k.boxes a = []) (hl : k.lends = []) : Has P f (k.view K rows) := by
 suffices key : ∀ (a : k.A), k.pre a -> ∀ (c : Cx) (_ : Kn k.need c) (vs : List Value) (β : Nat -> Value) (fp : Nat -> List (Nat × Nat)), c.n = k.n -> c.pins = k.pins2 a β -> vs.length = (k.args a).length -> vs.length <= k.n ->
   SatI c (k.start2 a) ⟨vs.toArray ++ Array.replicate (k.n - vs.length) undef, []⟩ c.w0 β fp ->
   Calls P f vs.toArray c.w0 fun e w' => ∃ x : k.X, k.post a x /\ ∃ v, e = .returned v /\ ∃ β' fp' a', SatI c ⟨fun _ => none, get? []⟩ a' w' β' fp' /\ RelL w' (get? []) β' c [.sl false K (rows a x)] [v] by
  exact ⟨H.enter, H.tot, H.nob, fun (a : k.A) ha c hky vs β fp hn hpin hlen hlen2 S => key a ha c hky vs β fp hn hpin hlen hlen2 S, H.bldr, H.bt.imp id fun h a => ⟨(h a).1, fun x p hp => (by cases hp)⟩⟩
 intro a ha c hky vs β fp hn hpin hlen hlen2 S
 have hp : c.pins = [] := by rw [hpin]; simp -implicitDefEqProofs [Con.pins2, hb, hl]
 refine (H.calls a ha c hky vs β fp hn hpin hlen hlen2 S).mono ?_
 rintro e w' ⟨x, hx, v, rfl, β', fp', a', E, hv⟩
 rw [hr] at hv
 have hv2 : ∃ e, Vw w' (get? (k.fin a x)) β' c false [.sl e K (rows a x)] [v] := by cases hv with | own _ h2 _ _ => exact h2
 obtain ⟨e, f, h1, h2⟩ := hv2
 refine ⟨x, hx, v, rfl, β', fp', a', ⟨?_, ?_, ?_, ?_, ?_, E.fg, E.old, E.os, E.tape, E.output, E.size, E.defers, E.tn, by simp -implicitDefEqProofs [hp]⟩, .sl ⟨e, f, h1, fun z hz => ⟨⟨?_, ?_⟩, (h2 z hz).2⟩⟩ .lnil⟩
 ·intro t g av h; cases h
 ·intro h blk hm; cases hm
 ·intro h blk hm; cases hm
 ·intro h h' blk blk' hm; cases hm
 ·intro h blk hm; cases hm
 ·rintro ⟨h, ty, vs, hm, _⟩; cases hm
 ·intro h e k d R n cc hm; cases hm
--TAB a0R
theorem areB_iff {r : RepoD} {l : List Int} : areB r l = true ↔ a0l r = true /\ ∀ a ∈ l, 0 <= a /\ a < r.commits.length := by
 unfold areB
 simp only [Bool.and_eq_true, List.all_eq_true, decide_eq_true_eq]
 constructor
 ·rintro ⟨h1, h2⟩; exact ⟨h1, fun a ha => by have := h2 a ha; omega⟩
 ·rintro ⟨h1, h2⟩; exact ⟨h1, fun a ha => by have := h2 a ha; omega⟩
def b0h : Con := cAncestors.view 1 fun a _ => a0x (anc a.1 a.2)
theorem b2H : Has Tryz.prog 95 b0h := ancestors_has.view 1 _ (fun _ _ => rfl) (fun _ => rfl) rfl
def b1v (r : RepoD) (a b : Int) : Bool := areB r [a, b] && isT (anc r b) a.toNat
def b5l : Con := .fn 20 (RepoD × Int × Int) (fun a => [a0V a.1, .int .i64 a.2.1, .int .i64 a.2.2]) (fun a => a2a a.1) (fun a => .bool (b1v a.1 a.2.1 a.2.2)) (fun _ => [])
theorem c1c : Has Tryz.prog 40 b5l := by
 refine a0d mixed a0K (HasL.cons b2I (HasL.cons b2H HasL.nil)) [0, 1, 2, 3, 6] ((fun a n (_ : Nat) => (fun _ => a0r) a n)) [] Tryz.func40 (by unfold Tryz.f40; rfl) (fun _ => ⟨(), trivial⟩) ?_
 intro a ha
 obtain ⟨r, x, y⟩ := a
 replace ha : a2a r := ha
 simp (maxSteps := 8000000) -implicitDefEqProofs [-kStep_move, -Bool.exists_bool, b5l, cAre, b0h, Con.view, cAncestors, Con.fn, a0R, tTab, a0q]
 try dsimp only
 try simp -implicitDefEqProofs only [and_assoc, exists_eq_left, exists_and_left, RepoD.ex1, RepoD.eta]
 refine ⟨[x, y], rfl, ha, fun h => ⟨h, ?_⟩, fun h => ⟨h, ?_⟩, fun _ => ⟨fun h => ⟨h, ?_⟩, fun _ => ?_⟩⟩
 ·obtain ⟨h1, h2⟩ := areB_iff.1 h
  exact ⟨h1, h2 y (by simp)⟩
 ·obtain ⟨h1, h2⟩ := areB_iff.1 h
  have := h2 x (by simp)
  rw [a1G]; exact this
 ·obtain ⟨h1, h2⟩ := areB_iff.1 h
  have := h2 x (by simp)
  have hx : x.toNat < (anc r y).length := by rw [a1G]; omega
  simp -implicitDefEqProofs [hx, a1E, D.asBool]
 ·unfold b1v
  cases h : areB r [x, y] with
  | false => rfl
  | true =>
   obtain ⟨h1, h2⟩ := areB_iff.1 h
   have := h2 x (by simp)
   have hx : x.toNat < (anc r y).length := by rw [a1G]; omega
   simp -implicitDefEqProofs [hx, a1E, D.asBool, isT, List.getD_eq_getElem?_getD]
def a4r (r : RepoD) (a b : Int) : List Int := if areB r [a, b] then a0g (sinL r b [a]) else []
def b0E : Con := .fn 18 (RepoD × Int × Int) (fun a => [a0V a.1, .int .i64 a.2.1, .int .i64 a.2.2]) (fun a => a2a a.1) (fun a => .own 8 1 (a0f (a4r a.1 a.2.1 a.2.2))) (fun a => a3d 8 (a4r a.1 a.2.1 a.2.2))
theorem b7f : Has Tryz.prog 52 b0E := by
 refine a0d mixed a0K (HasL.cons b2I (HasL.cons b4g HasL.nil)) [0, 1, 2, 3, 6] ((fun a n (_ : Nat) => (fun _ => a0r) a n)) [] Tryz.func52 (by unfold Tryz.f52; rfl) (fun _ => ⟨(), trivial⟩) ?_
 intro a ha
 obtain ⟨r, x, y⟩ := a
 replace ha : a2a r := ha
 simp (maxSteps := 8000000) -implicitDefEqProofs [-kStep_move, -Bool.exists_bool, b0E, cAre, b1J, Con.fn, a0R, tTab, a0q]
 try dsimp only
 simp -implicitDefEqProofs only [and_assoc, exists_eq_left, exists_and_left, RepoD.ex1, RepoD.eta]
 have e0 : areB r [x, y] = false -> a4r r x y = [] := fun h => by unfold a4r; rw [if_neg (by simp -implicitDefEqProofs [h])]
 have e1 : areB r [x, y] = true -> a4r r x y = a0g (sinL r y [x]) := fun h => by unfold a4r; rw [if_pos h]
 refine ⟨[x, y], rfl, ha, e0, fun h => ?_⟩
 obtain ⟨h1, h2⟩ := areB_iff.1 h
 exact ⟨[x], rfl, h1, (h2 y (by simp)).1, (h2 y (by simp)).2, by simp, by simpa using h2 x (by simp), e1 h, (e1 h).symm⟩
--TAB a0R
def b2N : Con := .fn 8 (List Bool) (fun a => [.sl true 1 (a0x a)]) (fun a => a ≠ [] /\ a.length <= 1048576) (fun a => .own 8 1 (a0x a)) (fun a => b6t 8 a)
theorem b9p : Has Tryz.prog 143 b2N := by
 refine a0d mixed a0K HasL.nil [0, 2] ((fun a n (_ : Nat) => (fun _ => a0r) a n)) [] Tryz.func143 (by unfold Tryz.f143; rfl) (fun _ => ⟨(), trivial⟩) ?_
 intro (a : List Bool) ha
 obtain ⟨h0, ha⟩ : a ≠ [] /\ a.length <= 1048576 := ha
 have h1 : ¬ a0x a = [] := by simpa [a0x] using h0
 simp (maxSteps := 8000000) -implicitDefEqProofs [-Bool.exists_bool, b2N, Con.fn, a0R, tTab, h1]
 try dsimp only
 refine ⟨fun x hx d hd => ?_, by omega⟩
 simp only [a0x, List.mem_map] at hx
 obtain ⟨y, _, rfl⟩ := hx
 simp only [a1E, List.mem_singleton] at hd
 subst hd; trivial
def comP (r : RepoD) (a b : Int) (i : Nat) : List Bool := (List.range r.commits.length).map fun j => decide (j < i) && (isT (anc r a) j && isT (anc r b) j)
theorem c4c (r a b i) : (comP r a b i).length = r.commits.length := by simp -implicitDefEqProofs [comP]
theorem c1w (r a b) : comP r a b 0 = List.replicate r.commits.length false := by
 unfold comP
 apply List.ext_getElem
 ·simp
 ·intro i h1 h2; simp
theorem b5A {r a b} {i j : Nat} (h : j < (comP r a b i).length) : (comP r a b i)[j] = (decide (j < i) && (isT (anc r a) j && isT (anc r b) j)) := by
 simp -implicitDefEqProofs [comP]
theorem c1x {r a b} {i : Nat} : (comP r a b i).set i (isT (anc r a) i && isT (anc r b) i) = comP r a b (i + 1) := by
 apply List.ext_getElem
 ·simp -implicitDefEqProofs [comP]
 ·intro j h1 h2
  rw [List.getElem_set, b5A h2]
  by_cases e : i = j
  ·subst e; simp
  ·rw [if_neg e, b5A]
   have : decide (j < i + 1) = decide (j < i) := by
    rw [decide_eq_decide]; omega
   rw [this]
theorem c4b (r a b) : comP r a b r.commits.length = comB r a b := by
 unfold comP comB
 apply List.map_congr_left
 intro j hj
 have : j < r.commits.length := by simpa using hj
 simp -implicitDefEqProofs [this]
theorem c1m {r : RepoD} {L : List Int} {C : List Bool} {i : Nat} (h : i < L.length) : bigT r (L.take (i + 1)) C = clrN (bigT r (L.take i) C) L[i] (a0g (anc r L[i])) := by
 unfold bigT
 rw [a0w h, List.foldl_append]; rfl
theorem c1s {i : Int} {ks : List Int} {l : List Bool} {k : Nat} (h : k < ks.length) : clrN l i (ks.take (k + 1)) = if ks[k] = i then clrN l i (ks.take k) else (clrN l i (ks.take k)).set ks[k].toNat false := by
 unfold clrN
 rw [a0w h, List.foldl_append]; rfl
def bsA (r : RepoD) (a b : Int) : Inv := ⟨Nat, fun i => ⟨[(3, true, .ptr 10 0), (6, true, .nil), (7, true, .own 11 1 (a0x (anc r a))), (8, true, .own 12 1 (a0x (anc r b))), (9, true, .own 13 1 (a0x (comP r a b i))), (27, true, .int .i64 r.commits.length), (28, true, .int .i64 i)],
 [(10, a1z r), (11, .own 4 1 true (a0x (anc r a))), (12, .own 4 1 true (a0x (anc r b))), (13, .own 4 1 true (a0x (comP r a b i)))]⟩, fun i => i <= r.commits.length, fun i => r.commits.length - i⟩
def bsB (r : RepoD) (a b : Int) : Inv := ⟨Nat, fun i => ⟨[(3, true, .ptr 10 0), (6, true, .nil), (11, true, .own 14 1 (a0x (bigT r ((a0g (comB r a b)).take i) (comB r a b)))), (48, true, .own 15 1 (a0f (a0g (comB r a b)))), (49, true, .int .i64 (a0g (comB r a b)).length), (50, true, .int .i64 i)],
 [(10, a1z r), (14, .own 4 1 true (a0x (bigT r ((a0g (comB r a b)).take i) (comB r a b)))), (15, .own 3 1 true (a0f (a0g (comB r a b))))]⟩, fun i => i <= (a0g (comB r a b)).length, fun i => (a0g (comB r a b)).length - i⟩
def bsX (r : RepoD) (a b : Int) (g : Nat) : Int := (a0g (comB r a b)).getD g 0
def bsT (r : RepoD) (a b : Int) (g k : Nat) : List Bool := clrN (bigT r ((a0g (comB r a b)).take g) (comB r a b)) (bsX r a b g) ((a0g (anc r (bsX r a b g))).take k)
def bsC (r : RepoD) (a b : Int) (g : Nat) : Inv := ⟨Nat, fun k => ⟨[(3, true, .ptr 10 0), (6, true, .nil), (11, true, .own 14 1 (a0x (bsT r a b g k))), (13, true, .int .i64 (bsX r a b g)), (48, true, .own 15 1 (a0f (a0g (comB r a b)))), (49, true, .int .i64 (a0g (comB r a b)).length), (50, true, .int .i64 g), (57, true, .own 9 1 (a0f (a0g (anc r (bsX r a b g))))), (58, true, .int .i64 (a0g (anc r (bsX r a b g))).length), (59, true, .int .i64 k)],
 [(10, a1z r), (14, .own 4 1 true (a0x (bsT r a b g k))), (15, .own 3 1 true (a0f (a0g (comB r a b)))), (9, .own 3 1 true (a0f (a0g (anc r (bsX r a b g)))))]⟩, fun k => g < (a0g (comB r a b)).length /\ k <= (a0g (anc r (bsX r a b g))).length, fun k => (a0g (anc r (bsX r a b g))).length - k⟩
def b4F (r : RepoD) (a b : Int) (n g : Nat) : Inv := if n = 4 then bsA r a b else if n = 10 then bsB r a b else bsC r a b g
theorem c6y (r a b g) : b4F r a b 4 g = bsA r a b := rfl
theorem c3U (r a b g) : b4F r a b 10 g = bsB r a b := rfl
theorem c3V (r a b g) : b4F r a b 13 g = bsC r a b g := rfl
def b1C : Con := .fn 73 (RepoD × Int × Int) (fun a => [a0V a.1, .int .i64 a.2.1, .int .i64 a.2.2]) (fun a => a0l a.1 = true /\ (0 <= a.2.1 /\ a.2.1 < a.1.commits.length) /\ (0 <= a.2.2 /\ a.2.2 < a.1.commits.length)) (fun a => .own 8 1 (a0f (a1B a.1 a.2.1 a.2.2))) (fun a => a3d 8 (a1B a.1 a.2.1 a.2.2))
theorem b3G : Has Tryz.prog 100 b1C := by
 refine a0d mixed a0K (HasL.cons ancestors_has (HasL.cons b9p (HasL.cons b2l HasL.nil))) [0, 1, 2, 3, 6, 7, 8, 9, 10, 11, 13, 15, 27, 28, 48, 49, 50, 57, 58, 59] (fun a => b4F a.1 a.2.1 a.2.2) [] Tryz.func100 (by unfold Tryz.f100; rfl) (fun _ => ⟨(), trivial⟩) ?_
 intro a ha
 obtain ⟨r, a, b⟩ := a
 obtain ⟨h1, h2, h3⟩ : a0l r = true /\ (0 <= a /\ a < r.commits.length) /\ (0 <= b /\ b < r.commits.length) := ha
 have h6 := a2x h1
 simp (maxSteps := 8000000) [b1C, cAncestors, b2N, a9Q, Con.fn, a0R, tTab, c6y, c3U, c3V, bsA, bsB, bsC, a0q]
 try dsimp only
 try simp only [and_assoc, exists_eq_left, exists_and_left, RepoD.ex1, RepoD.eta]
 have hal := a1G r
 have hC := c4c r a b
 have hcb := a7X r a b
 refine ⟨h1, h2.1, h2.2, h1, h3.1, h3.2, fun _ => ⟨by omega, fun _ _ => ⟨trivial, trivial, ⟨0, ?_, rfl, trivial, trivial, ?_, Nat.zero_le _⟩, fun i hi => ⟨fun hlt => ?_, fun hge => ?_⟩⟩⟩⟩
 ·rw [c1w, a2M]
 ·rw [c1w, a2M]
 ·have la : i < (anc r a).length := by rw [hal]; exact hlt
  have lb : i < (anc r b).length := by rw [hal]; exact hlt
  have lc : i < (comP r a b i).length := by rw [hC]; exact hlt
  have e1 : Option.map a1E (anc r a)[i]? = some (a1E (anc r a)[i]) := by simp -implicitDefEqProofs [la]
  have e2 : Option.map a1E (anc r b)[i]? = some (a1E (anc r b)[i]) := by simp -implicitDefEqProofs [lb]
  have s1 := c1x (r := r) (a := a) (b := b) (i := i)
  have i1 : isT (anc r a) i = (anc r a)[i] := by simp -implicitDefEqProofs [isT, List.getD_eq_getElem?_getD, la]
  have i2 : isT (anc r b) i = (anc r b)[i] := by simp -implicitDefEqProofs [isT, List.getD_eq_getElem?_getD, lb]
  rw [i1, i2] at s1
  rw [e1, e2]
  generalize (anc r a)[i] = x at *
  generalize (anc r b)[i] = y at *
  have fin : ∀ z, z = (x && y) -> ∃ t', a0x (comP r a b t') = (a0x (comP r a b i)).set i [D.bool z] /\ (t' : Int) = i + 1 /\ (a0x (comP r a b i)).set i [D.bool z] = a0x (comP r a b t') /\ t' <= r.commits.length /\ r.commits.length - t' < r.commits.length - i := fun z hz => by
   have e : (a0x (comP r a b i)).set i [D.bool z] = a0x (comP r a b (i + 1)) := by rw [<- s1, hz]; exact a1s _ _ _
   exact ⟨i + 1, e.symm, by omega, e, by omega, by omega⟩
  simp -implicitDefEqProofs [a1E, D.asBool, lc, la, lb]
  exact ⟨fun hx => ⟨by omega, by omega, fun _ _ => fin y (by rw [hx]; rfl)⟩, fun hx => ⟨by omega, by omega, fun _ _ => fin false (by rw [hx]; rfl)⟩⟩
 ·have : i = r.commits.length := by omega
  subst this
  rw [c4b]
  have hne : ¬ comB r a b = [] := fun e => by rw [e] at hcb; simp at hcb; omega
  have hmem : ∀ x ∈ a0g (comB r a b), 0 <= x /\ x < r.commits.length := fun x hx => by
   obtain ⟨i, q1, _, rfl⟩ := listT_mem.1 hx
   rw [hcb] at q1
   omega
  refine ⟨hne, by omega, by omega, fun _ => ⟨⟨0, by simp -implicitDefEqProofs [bigT], rfl, rfl, rfl, by simp -implicitDefEqProofs [bigT], rfl, Nat.zero_le _⟩, fun i hi => ⟨fun hlt => ⟨hlt, fun _ => ?_⟩, fun hge => ?_⟩⟩⟩
  ·have hx := hmem _ (List.getElem_mem hlt)
   have e1 : Option.map eInt (a0g (comB r a b))[i]? = some (eInt (a0g (comB r a b))[i]) := by simp -implicitDefEqProofs [hlt]
   have hgx : bsX r a b i = (a0g (comB r a b))[i] := by simp -implicitDefEqProofs [bsX, List.getD_eq_getElem?_getD, hlt]
   have hs := c1m (r := r) (C := comB r a b) hlt
   have hT : ∀ k, bsT r a b i k = clrN (bigT r ((a0g (comB r a b)).take i) (comB r a b)) (bsX r a b i) ((a0g (anc r (bsX r a b i))).take k) := fun _ => rfl
   have hbl := a7J r ((a0g (comB r a b)).take i) (comB r a b)
   rw [e1]
   rw [<- hgx] at hs hx ⊢
   generalize hxx : bsX r a b i = x at *
   simp -implicitDefEqProofs [eInt, D.asInt, h1, hx.1, hx.2, hal]
   refine ⟨by omega, fun _ => ⟨i, ?_⟩⟩
   rw [hxx]
   have hLm : ∀ y ∈ a0g (anc r x), 0 <= y /\ y < r.commits.length := fun y hy => by
    obtain ⟨i, q1, _, rfl⟩ := listT_mem.1 hy
    rw [hal] at q1
    omega
   generalize a0g (anc r x) = L at *
   have hbT : ∀ k, (bsT r a b i k).length = r.commits.length := fun k => by rw [hT, b5x, hbl, hcb]
   refine ⟨⟨0, by rw [hT]; simp -implicitDefEqProofs [clrN], rfl, rfl, rfl, rfl, rfl, by rw [hT]; simp -implicitDefEqProofs [clrN], rfl, hlt, Nat.zero_le _⟩, fun k hg hk => ⟨fun hl2 => ⟨hl2, fun _ => ?_⟩, fun hge2 => ?_⟩⟩
   ·have e2 : Option.map eInt L[k]? = some (eInt L[k]) := by simp -implicitDefEqProofs [List.getElem?_eq_getElem hl2]
    have hy := hLm _ (List.getElem_mem hl2)
    have hc := c1s (i := x) (l := bigT r ((a0g (comB r a b)).take i) (comB r a b)) hl2
    rw [<- hT, <- hT] at hc
    have hbk := hbT k
    rw [e2]
    generalize L[k] = y at *
    simp -implicitDefEqProofs [eInt, hbk]
    exact ⟨fun hne => ⟨hy.1, by omega, fun _ _ => ⟨by omega, by omega, by omega, fun _ _ => ⟨k + 1, by rw [hc, if_neg hne]; exact (a1s _ _ _).symm, by omega, by rw [hc, if_neg hne]; exact a1s _ _ _, hg, by omega, by omega⟩⟩⟩,
     fun heq => ⟨by omega, by omega, fun _ _ => ⟨k + 1, by rw [hc, if_pos heq], by omega, by rw [hc, if_pos heq], hg, by omega, by omega⟩⟩⟩
   ·have : k = L.length := by omega
    subst this
    have e3 : bsT r a b i L.length = bigT r ((a0g (comB r a b)).take (i + 1)) (comB r a b) := by rw [hT, List.take_length, hs]
    rw [e3]
    exact ⟨by omega, by omega, fun _ _ => ⟨i + 1, rfl, by omega, rfl, by omega, by omega⟩⟩
  ·have : i = (a0g (comB r a b)).length := by omega
   subst this
   rw [List.take_length]
   have hbl := a7J r (a0g (comB r a b)) (comB r a b)
   exact ⟨by omega, rfl, rfl⟩
end Vx
end Go.Proofs.YtokdjnbcdokpjaaGreatDoor
set_option linter.unusedVariables false
set_option linter.unusedSimpArgs false
namespace Go.Proofs.YtokdjnbcdokpjaaGreatDoor
namespace Vx
open Go.RowKit Go.Lib
theorem a3u {P : Program} (k : Nat) (w : World) (dT sT ty elem : TypeId) (b o dLen dCap : Nat) (a : Addr) (sLen sCap : Nat) (cs : List Value)
  (hu : P.underlying dT = some (.slice elem)) (hs : (P.info? elem).map (·.size) = some k) (hn : cs.length = Nat.min sLen dLen * k)
  (hsrc : ∀ (j : Nat) v, cs[j]? = some v -> w.cell? (a.add j) = some v) (hc : ∀ j, j < cs.length -> (w.cell? ⟨b, o + j, none⟩).isSome = true) (hf : ∀ j, j < cs.length -> w.frozen? ⟨b, o + j, none⟩ = false) (h1 : ∀ v ∈ cs, v.oneCell' = true) :
  (Builtin.copy_ #[dT, sT] ty #[.slice (some ⟨b, o, none⟩) dLen dCap, .slice (some a) sLen sCap]).run P w = .ok (goInt (Nat.min sLen dLen)) (w.setCells b o cs) := by
 have hl := run_loadCells_list (P := P) w a cs hsrc
 have hst := run_storeCells_cells (P := P) b o cs 0 w (by simpa using hc) (by simpa using hf) h1
 cases hq : P.info? elem with
 | none => simp [hq] at hs
 | some i =>
  have hi : i.size = k := by simpa [hq] using hs
  simp [Builtin.copy_, run_underlying hu, Builtin.lenOf, Builtin.firstCells, sizeOf, typeInfo, hq, hi, <- hn, hl, hst]
theorem wp_copy_runI {P : Program} (w : World) {o : Oper} {a : Act} {K : Act -> World -> Prop} {Q : Exit -> Act -> World -> Prop} (d s : Operand) (t t' : TypeId)
  (ho : o.op = .call { callee := .builtin .copy, args := #[d, s], argTypes := #[t, t'] }) (v u : Value) (hd : a.eval d = v) (hs : a.eval s = u) {v' : Value} {w' : World}
  (hr : (Builtin.copy_ #[t, t'] o.type #[v, u]).run P w = .ok v' w') (h : K (a.put o.dst v') w') : o.wp P a w K Q := by
 unfold Oper.wp execOp
 simp only [ho, resolve, invoke, builtin, Sem.run_bind, Sem.run_pure, Result.andThen_ok, List.map_toArray, List.map_cons, List.map_nil, hd, hs, hr]
 exact h
theorem wpList_copy_runI {P : Program} (w : World) {ops : Array Oper} {rest : List Oper} {o : Oper} {a : Act} {Q : Exit -> Act -> World -> Prop} (hgd : o.guard = none) (d s : Operand) (t t' : TypeId)
  (ho : o.op = .call { callee := .builtin .copy, args := #[d, s], argTypes := #[t, t'] }) (v u : Value) (hd : a.eval d = v) (hs : a.eval s = u) {v' : Value} {w' : World}
  (hr : (Builtin.copy_ #[t, t'] o.type #[v, u]).run P w = .ok v' w') (h : wpList P ops Q rest (a.put o.dst v') w') : wpList P ops Q (o :: rest) a w :=
 wpList_plain hgd fun _ hK => wp_copy_runI w d s t t' ho v u hd hs hr (hK _ _ h)
theorem step_copy_runI {P : Program} {ops : Array Oper} {o : Oper} {a : Act} {w : World} {K : Act -> World -> Prop} {Q : Exit -> Act -> World -> Prop} {E : Prop}
  (hg : o.guard = none) (d x : Operand) (dT sT : TypeId) (hop : o.op = Op.call { callee := Callee.builtin Builtin.copy, args := #[d, x], argTypes := #[dT, sT] })
  (v u : Value) (hd : a.eval d = v) (hx : a.eval x = u) {v' : Value} {w' : World} (hr : (Builtin.copy_ #[dT, sT] o.type #[v, u]).run P w = .ok v' w') (hK : K (a.put o.dst v') w') :
  if Region.wanted o (yielded ops a.tmps) = true then Oper.wp P o a w K Q else E := by
 have hw : Region.wanted o (yielded ops a.tmps) = true := by simp [Region.wanted, hg]
 rw [if_pos hw]
 unfold Oper.wp
 simp [execOp, hop, resolve, invoke, builtin, hd, hx, hr, Result.andThen]
 exact hK
theorem a6l (b : Nat) (vs : List Value) (o : Nat) (w : World) (h : ∀ j, j < vs.length -> (w.cell? ⟨b, o + j, none⟩).isSome = true) (k : Nat) (hk : (w.cell? ⟨b, k, none⟩).isSome = true) : ((w.setCells b o vs).cell? ⟨b, k, none⟩).isSome = true := by
 by_cases hin : o <= k /\ k < o + vs.length
 ·have := World.cell?_setCells_in b vs o w h (k - o) (by omega)
  rw [show o + (k - o) = k by omega] at this
  rw [this]; rfl
 ·rw [World.cell?_setCells_out b vs o w ⟨b, k, none⟩ (fun _ _ => by show k < o \/ o + vs.length <= k; omega)]
  exact hk
end Vx
end Go.Proofs.YtokdjnbcdokpjaaGreatDoor
