/-
  Joined by program (merge.py): Base, RowK, Rep, RowR, RowZ, RowG, Ca, Cb, Cc, Ce, Cd, Cf, Cg, Ch, Ci, Cj, Lib, Ck, Cl, Pa, Cm, LawA, Cn, Co, Cp, Cq, Cr, Cs, Ct, Ec, Ea, Eb, Ef, Cu, Dd, De, La, Lf, Lg, Ma, Df, Ha, Ia, Ib, Ic, Db, Lb, Lc, Ld, Ed, Mb, Na, Da, Dc, Dg, Id, Vw, Oa. It shows what the single texts show; conditions: none but those of each lemma.
-/
import Derived.Test.YtokdjnbcdokpjabGreatDoorVc
import Derived.Test.YtokdjnbcdokpjabGreatDoorProg
import Derived.KernelRfl
import Derived.Test.YtokdjnbcdokpjabGreatDoorRows
import Derived.Test.YtokdjnbcdokpjabGreatDoorCards
import Derived.Test.YtokdjnbcdokpjabGreatDoorTie
import Derived.ProofKit
import Derived.OpenShut
import Derived.ShutString
import Derived.Lay
import Derived.LaidMore
import Derived.SevenTiedAt
import Derived.Lib.Walk
import Derived.Lib.Strings
import Derived.Lib.Bytealg
import Derived.Handy
set_option linter.unusedVariables false
set_option linter.unusedSimpArgs false
set_option linter.unusedSectionVars false
namespace Go.Proofs.YtokdjnbcdokpjabGreatDoor
open Vx
namespace Vx
def tTab : List (Nat × TI) := [
(3, ⟨false, [.int .i64], 8, [], 0⟩),
(4, ⟨false, [.bool], 1, [], 0⟩),
(9, ⟨false, [.str], 16, [], 0⟩),
(26, ⟨false, [.sl 9 1], 24, [], 9⟩),
(44, ⟨false, [.sl 5 1], 24, [], 5⟩),
(186, ⟨true, [.str, .sl 9 1], 40, [(9, 0), (26, 1)], 0⟩),
(66, ⟨true, [.str, .sl 9 1], 40, [(9, 0), (26, 1)], 0⟩),
(124, ⟨false, [.sl 186 2], 24, [], 186⟩),
(61, ⟨false, [.sl 66 2], 24, [], 66⟩),
(33, ⟨false, [.sl 3 1], 24, [], 3⟩),
(128, ⟨true, [.str, .int .i64], 24, [(9, 0), (3, 1)], 1⟩),
(69, ⟨true, [.str, .int .i64], 24, [(9, 0), (3, 1)], 1⟩),
(23, ⟨false, [.sl 128 2], 24, [], 128⟩),
(30, ⟨false, [.sl 69 2], 24, [], 69⟩),
(126, ⟨true, [.sl 3 1, .str, .sl 186 2], 64, [(33, 0), (9, 1), (124, 2)], 0⟩),
(102, ⟨true, [.sl 3 1, .str, .sl 66 2], 64, [(33, 0), (9, 1), (61, 2)], 0⟩),
(22, ⟨false, [.sl 126 3], 24, [], 126⟩),
(29, ⟨false, [.sl 102 3], 24, [], 102⟩),
(25, ⟨true, [.sl 126 3, .sl 128 2], 48, [(22, 0), (23, 1)], 0⟩),
(32, ⟨true, [.sl 102 3, .sl 69 2], 48, [(29, 0), (30, 1)], 0⟩),
(140, ⟨true, [.sl 5 1, .int .i64], 32, [(44, 0), (3, 1)], 0⟩),
(58, ⟨true, [.int .i64, .str, .str, .str, .str, .int .i64, .sl 9 1], 104, [(3, 0), (9, 1), (9, 2), (9, 3), (9, 4), (3, 5), (26, 6)], 0⟩),
(53, ⟨false, [.sl 58 7], 24, [], 58⟩),
(76, ⟨true, [.int .i64, .str, .str, .str, .str, .int .i64, .sl 9 1], 104, [(3, 0), (9, 1), (9, 2), (9, 3), (9, 4), (3, 5), (26, 6)], 0⟩),
(70, ⟨false, [.sl 76 7], 24, [], 76⟩),
(188, ⟨true, [.str, .int .i64], 24, [(9, 0), (3, 1)], 1⟩),
(156, ⟨false, [.sl 188 2], 24, [], 188⟩),
(229, ⟨true, [.bool, .sl 9 1, .sl 9 1, .sl 9 1, .sl 9 1], 104, [(4, 0), (26, 1), (26, 2), (26, 3), (26, 4)], 0⟩),
(223, ⟨false, [.sl 229 5], 24, [], 229⟩),
(252, ⟨false, [.sl 33 1], 24, [], 33⟩),
 (5, ⟨false, [.int .u8], 1, [], 0⟩)]
theorem a0i : ∀ t ti, get? tTab t = some ti -> TOk Tryz.prog t ti := a8A (by kernel_rfl)
theorem mixed : Tryz.prog.follows .mixedOrders = true := by kernel_rfl
def a0L : Nat -> Inv := fun _ => ⟨Unit, fun _ => ⟨[], []⟩, fun _ => True, fun _ => 0⟩
theorem c7X {α : Type} (f : Nat -> α) (d : Nat) (v : α) (h : Nat) : upd f d v h = if h = d then v else f h := rfl
def c6k (e : Nat -> Option (Bool × AV)) (m : Nat -> Option Blk) : Nat -> Option (Bool × AV) := fun t => (e t).map fun p => (p.1, p.2.wipe m)
def c6l (m : Nat -> Option Blk) : Nat -> Option Blk := fun h => (m h).map (Blk.wipe m)
theorem c8g (s : St) (m : Nat -> Option Blk) : s.wipe m = ⟨c6k s.e m, c6l m⟩ := rfl
theorem c3v (e : Nat -> Option (Bool × AV)) (m : Nat -> Option Blk) (t : Nat) : c6k e m t = (e t).map fun p => (p.1, p.2.wipe m) := rfl
theorem c3w (m : Nat -> Option Blk) (h : Nat) : c6l m h = (m h).map (Blk.wipe m) := rfl
abbrev Str := List UInt8
def eStr (s : Str) : List D := [.str s]
def a0a (l : List Str) : List (List D) := l.map eStr
structure FileD where
 path : Str
 text : List Str
 deriving DecidableEq, Inhabited
def a0y (f : FileD) : List D := [.str f.path, .sl 9 1 (a0a f.text)]
def a0c (l : List FileD) : List (List D) := l.map a0y
@[simp] theorem eStrs_length (l : List Str) : (a0a l).length = l.length := by simp [a0a]
@[simp] theorem eStrs_nil : a0a [] = [] := rfl
@[simp] theorem eStrs_get (l : List Str) (i : Nat) : (a0a l)[i]? = l[i]?.map eStr := by simp [a0a]
@[simp] theorem eStrs_getElem (l : List Str) (i : Nat) (h : i < (a0a l).length) : (a0a l)[i] = eStr (l[i]'(by simpa using h)) := by simp [a0a]
@[simp] theorem eStr_inj (a b : Str) : (eStr a = eStr b) = (a = b) := by simp [eStr]
@[simp] theorem eStrs_inj (a b : List Str) : (a0a a = a0a b) = (a = b) := by
 apply propext
 constructor
 ·intro h
  exact List.map_inj_right (fun x y h => by simpa using h) |>.1 h
 ·rintro rfl; rfl
@[simp] theorem eStrs_eq_nil (a : List Str) : (a0a a = []) = (a = []) := by simp [a0a]
@[simp] theorem nil_eq_eStrs (a : List Str) : ([] = a0a a) = (a = []) := by simp [a0a, eq_comm]
theorem a0h (a b : List Str) : a0a (a ++ b) = a0a a ++ a0a b := by simp [a0a]
theorem a0o (a : List Str) (x : Str) : a0a a ++ [[.str x]] = a0a (a ++ [x]) := by simp [a0a, eStr]
theorem a0u (l : List Str) (i : Nat) (s : Str) : (a0a l).set i [.str s] = a0a (l.set i s) := by simp [a0a, List.map_set, eStr]
theorem a0m (l : List Str) (i : Nat) : (a0a l).take i = a0a (l.take i) := by simp [a0a]
theorem a0n (l : List Str) (i : Nat) : (a0a l).drop i = a0a (l.drop i) := by simp [a0a]
theorem a0r (n : Nat) : List.replicate n [D.str []] = a0a (List.replicate n []) := by simp [a0a, eStr]
@[simp] theorem eStrs_flat (l : List Str) : (∀ x ∈ a0a l, ∀ d ∈ x, a6b d) = True := by
 simp only [eq_iff_iff, iff_true]
 intro x hx d hd
 simp only [a0a, List.mem_map] at hx
 obtain ⟨s, _, rfl⟩ := hx
 simp only [eStr, List.mem_singleton] at hd
 subst hd
 trivial
@[simp] theorem eFiles_length (l : List FileD) : (a0c l).length = l.length := by simp [a0c]
@[simp] theorem eFiles_nil : a0c [] = [] := rfl
@[simp] theorem eFiles_get (l : List FileD) (i : Nat) : (a0c l)[i]? = l[i]?.map a0y := by simp [a0c]
@[simp] theorem eFiles_getElem (l : List FileD) (i : Nat) (h : i < (a0c l).length) : (a0c l)[i] = a0y (l[i]'(by simpa using h)) := by simp [a0c]
@[simp] theorem eFile_inj (a b : FileD) : (a0y a = a0y b) = (a = b) := by
 cases a; cases b; simp [a0y]
@[simp] theorem eFiles_inj (a b : List FileD) : (a0c a = a0c b) = (a = b) := by
 apply propext
 constructor
 ·intro h
  exact List.map_inj_right (fun x y h => by simpa using h) |>.1 h
 ·rintro rfl; rfl
@[simp] theorem eFiles_eq_nil (a : List FileD) : (a0c a = []) = (a = []) := by simp [a0c]
@[simp] theorem nil_eq_eFiles (a : List FileD) : ([] = a0c a) = (a = []) := by simp [a0c, eq_comm]
theorem a0j (a : List FileD) (p : Str) (t : List Str) : a0c a ++ [[.str p, .sl 9 1 (a0a t)]] = a0c (a ++ [⟨p, t⟩]) := by simp [a0c, a0y]
theorem a0f (a b : List FileD) : a0c (a ++ b) = a0c a ++ a0c b := by simp [a0c]
theorem a0l (l : List FileD) (i : Nat) : (a0c l).take i = a0c (l.take i) := by simp [a0c]
theorem a0k (l : List FileD) (i : Nat) : (a0c l).drop i = a0c (l.drop i) := by simp [a0c]
theorem a0p (l : List FileD) (i : Nat) (p : Str) (t : List Str) : (a0c l).set i [.str p, .sl 9 1 (a0a t)] = a0c (l.set i ⟨p, t⟩) := by simp [a0c, List.map_set, a0y]
theorem a0q (n : Nat) : List.replicate n [D.str [], .sl 9 1 []] = a0c (List.replicate n ⟨[], []⟩) := by simp [a0c, a0y]
@[simp] theorem FileD.eta (f : FileD) : (⟨f.path, f.text⟩ : FileD) = f := rfl
@[simp] theorem asStr_str (s : Str) : D.asStr (.str s) = s := rfl
@[simp] theorem asRows_sl (e k : Nat) (r : List (List D)) : D.asRows (.sl e k r) = r := rfl
@[simp] theorem asInt_int (k : IntKind) (n : Int) : D.asInt (.int k n) = n := rfl
@[simp] theorem asBool_bool (b : Bool) : D.asBool (.bool b) = b := rfl
theorem a0s (a b : Nat) : ((a : Int) = (b : Int) + 1) = (a = b + 1) := by apply propext; omega
theorem a0z (a b : Nat) : ((a : Int) = (b : Int)) = (a = b) := by apply propext; omega
theorem a0t (a : Nat) : ((a : Int) = 0) = (a = 0) := by apply propext; omega
theorem a0A {α : Type} {l : List α} {i : Nat} (h : i < l.length) : l.take (i + 1) = l.take i ++ [l[i]] := List.take_succ_eq_append_getElem h
@[simp] theorem getD_nat (l : Str) (i : Nat) (h : i < l.length) : l.getD i 0 = l[i] := by simp [List.getD_eq_getElem?_getD, h]
theorem a0B {α : Type} {l : List α} {p : α -> Bool} {i : Nat} (h : i < l.length) : (l.take (i + 1)).all p = ((l.take i).all p && p l[i]) := by
 rw [a0A h, List.all_append]; simp
theorem a4J {α : Type} {l r : List α} {i : Nat} (h1 : i < l.length) (h2 : i < r.length) (h : l.take i = r.take i) (he : l[i] = r[i]) : l.take (i + 1) = r.take (i + 1) := by
 rw [a0A h1, a0A h2, h, he]
theorem a3z {α : Type} {l r : List α} {i : Nat} (h0 : l.length = r.length) (h1 : l.length <= i) (h : l.take i = r.take i) : l = r := by
 rw [List.take_of_length_le h1, List.take_of_length_le (by omega)] at h
 exact h
theorem a5U {α : Type} {o a : List α} {i : Nat} (h1 : i < o.length) (h2 : i < a.length) (h : o.take i = a.take i) : (o.set i a[i]).take (i + 1) = a.take (i + 1) := by
 rw [a0A (by simpa using h1), a0A h2, List.take_set_of_le (Nat.le_refl i), h]; simp
theorem FileD.eq_iff (a b : FileD) : (a = b) = (a.path = b.path /\ a.text = b.text) := by
 cases a; cases b; simp
@[simp] theorem FileD.ex1 (p : Str) (x : List Str) (Q : FileD -> Prop) : (∃ a : FileD, a.path = p /\ a.text = x /\ Q a) = Q ⟨p, x⟩ := by
 apply propext
 constructor
 ·rintro ⟨⟨a, b⟩, rfl, rfl, h⟩; exact h
 ·intro h; exact ⟨⟨p, x⟩, rfl, rfl, h⟩
@[simp] theorem FileD.ex2 (p : Str) (x : List Str) (Q : FileD -> Prop) : (∃ a : FileD, (a.path = p /\ a.text = x) /\ Q a) = Q ⟨p, x⟩ := by
 apply propext
 constructor
 ·rintro ⟨⟨a, b⟩, ⟨rfl, rfl⟩, h⟩; exact h
 ·intro h; exact ⟨⟨p, x⟩, ⟨rfl, rfl⟩, h⟩
theorem c3V (a : Nat) : ((a : Int) = 1) = (a = 1) := by apply propext; omega
/- What unfolds a walk. -/
attribute [simp] c8e a2B c8M c8b c5T c8c c8L c3u c0v c8d b6A c4v c1N b3q b8Y b6w b5a c1J b9e b9c c1K c3s c0t c4u b0S b9k c5N c3r c1L b6C c1T c1S b5c c1R flB ldMv subN a1q AV.sgl ldB btys a3K a9r b6B c6U b7Z c0F b6h a2H c0G c3c b7b c1Q b9j AV.isSub c6n c4s c4x a3x a8w a2m a9j AV.stolen c0H c8j b8b c3D c4w c1O c1P b9i b9l b6E b6F a6R b6y b6x b9b wk_T wk_n c8i c8O c8N c9i c9j a0M a1S a2j calm a4n a3E a8G a5f b3P a7z pas4 a9c a2q a6C ren4 a2u m4 a3I a4D a3n apnd a3J a6Q a5g a8p mvL AV.mv AV.base AV.moved kBld bldK wrK stK AV.selfOk AV.src TI.flat a5D a6L St.val St.cond St.fn St.next St.set St.trim c8g c3v c3w a5A get? cGet c7X a3T a0J rm a3N Oper.hnd Sc.st a6J a8W a7w a0F a3O ldL ld1 a3g a3h a4M a5J a3G a3A a4K Out.of a8J a5C AV.rows AV.one AV.cells AV.deepOk AV.toD toDs a2F a1W a2L TK.zeroAV TK.zeroD byteOf inR Op.operands Call.operands a3f a6i a4B a5s a3m a4A pasV pasL pas1 a3r okHs a6h a4T a4v rho over a4I a4r a3F a2d a2M a3u a2R a2Q m2 AV.wipe AV.wipeV AV.wipe1 Blk.wipe AV.hs AV.hs.hsL a4p Con.start2 Con.pk b3F fini a9g resA a2C Sc.from a8t renT renV b1r renL ren1 a6S a8u c6h clOf ldMk b9B actB setRow a7q a6b a0L c7F c5z b6D a4f AV.viewed AV.viewed1
end Vx
end Go.Proofs.YtokdjnbcdokpjabGreatDoor
namespace Go.Proofs.YtokdjnbcdokpjabGreatDoor
open Go.ChangeShapes Go.WideShapes Go.ChangeAt Go.RowKit
namespace Vx
theorem c5b : ownKnob Tryz.prog.godebug = none := by kernel_rfl
theorem laidOut : laidOutB Tryz.prog = true := by kernel_rfl
theorem a9y : b3U tTab = true := by decide
theorem b5L {T : Nat -> Option TI} (hs : ∀ te, T 9 = some te -> te.cells = [.str]) {ds : List D} (h : Shp T [.sl 9 1] ds) : ∃ l, ds = [.sl 9 1 (a0a l)] := by
 cases h with
 | @sl e k te rows ks ds h1 h2 h3 =>
  cases h3
  rw [hs _ h1] at h2
  obtain ⟨l, rfl, _⟩ := a5S (f := eStr) (p := fun _ => True) (rows := rows) (fun r hr => by
   have := h2 r hr
   cases this with
   | str q1 q2 => cases q2; exact ⟨_, rfl, trivial⟩)
  exact ⟨l, rfl⟩
theorem c2X {T : Nat -> Option TI} (hs : ∀ te, T 9 = some te -> te.cells = [.str]) (hf : ∀ te, T 186 = some te -> te.cells = [.str, .sl 9 1]) {ds : List D} (h : Shp T [.sl 186 2] ds) :
  ∃ l, ds = [.sl 186 2 (a0c l)] := by
 cases h with
 | @sl e k te rows ks ds h1 h2 h3 =>
  cases h3
  rw [hf _ h1] at h2
  obtain ⟨l, rfl, _⟩ := a5S (f := a0y) (p := fun _ => True) (rows := rows) (fun r hr => by
   have := h2 r hr
   cases this with
   | str q1 q2 =>
    obtain ⟨l, rfl⟩ := b5L hs q2
    exact ⟨⟨_, l⟩, rfl, trivial⟩)
  exact ⟨l, rfl⟩
section
variable {H : Type} {enc : TypeId × Value -> H} {W : World} {sp : Nat -> Bool} {held : Bool} {r : Reach} {base : Nat}
set_option maxRecDepth 100000 in
theorem open_strs {v : Value} {d : DataW H} {p : List MemPlace} (hu : Tryz.prog.underlying 26 = some (.slice 9)) (hv : Value.okWide Tryz.prog W r base 26 v)
  (h : DataW.Trod enc Tryz.prog W 0 sp held 26 v d p) : ∃ l f, RdL false W [.sl 9 1 (a0a l)] [v] f := by
 obtain ⟨a, n, c, rfl⟩ := okWide_slice hu hv
 obtain ⟨fuel, hf⟩ := h
 obtain ⟨ds, f, h1, h2⟩ := b7N a0i a9y fuel (t := 26) rfl hf
 obtain ⟨l, rfl⟩ := b5L (fun te ht => by cases ht; rfl) h2
 exact ⟨l, f, h1⟩
set_option maxRecDepth 100000 in
theorem b5u {v : Value} {d : DataW H} {p : List MemPlace} (hu : Tryz.prog.underlying 9 = some .string) (hv : Value.okWide Tryz.prog W r base 9 v)
  (h : DataW.Trod enc Tryz.prog W 0 sp held 9 v d p) : ∃ l : Str, v = .string ⟨l.toArray⟩ /\ l.length <= maxLen := by
 obtain ⟨s, rfl, _, _, hs⟩ := Go.ChangeMaps.open_string hu hv h
 exact ⟨s.data.toList, by simp, by simpa using hs⟩
end
end Vx
end Go.Proofs.YtokdjnbcdokpjabGreatDoor
namespace Go.Proofs.YtokdjnbcdokpjabGreatDoor
namespace Vx
def eInt (n : Int) : List D := [.int .i64 n]
@[simp] theorem eInt_inj (a b : Int) : (eInt a = eInt b) = (a = b) := by simp [eInt]
def a0d (l : List Int) : List (List D) := l.map eInt
@[simp] theorem eInts_length (l : List Int) : (a0d l).length = l.length := by simp [a0d]
@[simp] theorem eInts_nil : a0d [] = [] := rfl
@[simp] theorem eInts_get (l : List Int) (i : Nat) : (a0d l)[i]? = l[i]?.map eInt := by simp [a0d]
@[simp] theorem eInts_getElem (l : List Int) (i : Nat) (h : i < (a0d l).length) : (a0d l)[i] = eInt (l[i]'(by simpa using h)) := by simp [a0d]
@[simp] theorem eInts_inj (a b : List Int) : (a0d a = a0d b) = (a = b) := by
 apply propext
 constructor
 ·intro h
  exact List.map_inj_right (fun x y h => by simpa using h) |>.1 h
 ·rintro rfl; rfl
@[simp] theorem eInts_eq_nil (a : List Int) : (a0d a = []) = (a = []) := by simp [a0d]
@[simp] theorem nil_eq_eInts (a : List Int) : ([] = a0d a) = (a = []) := by simp [a0d, eq_comm]
theorem a2x (a b : List Int) : a0d (a ++ b) = a0d a ++ a0d b := by simp [a0d]
theorem a3b (l : List Int) (i : Nat) : (a0d l).take i = a0d (l.take i) := by simp [a0d]
theorem a2Z (l : List Int) (i : Nat) : (a0d l).drop i = a0d (l.drop i) := by simp [a0d]
theorem a2o (a : List Int) (n : Int) : a0d a ++ [[.int .i64 n]] = a0d (a ++ [n]) := by simp [a0d, eInt]
theorem a3a (l : List Int) (i : Nat) (n : Int) : (a0d l).set i [.int .i64 n] = a0d (l.set i n) := by simp [a0d, List.map_set, eInt]
theorem a3s (n : Nat) : List.replicate n [D.int .i64 0] = a0d (List.replicate n 0) := by simp [a0d, eInt]
@[simp] theorem eInts_flat (l : List Int) : (∀ x ∈ a0d l, ∀ d ∈ x, a6b d) = True := by
 simp only [eq_iff_iff, iff_true]
 intro x hx d hd
 simp only [a0d, List.mem_map] at hx
 obtain ⟨s, _, rfl⟩ := hx
 simp only [eInt, List.mem_singleton] at hd
 subst hd
 trivial
structure HeadD where
 name : Str
 at_ : Int
 deriving DecidableEq, Inhabited
def a0R (a : HeadD) : List D := [.str a.name, .int .i64 a.at_]
@[simp] theorem eHead_inj (a b : HeadD) : (a0R a = a0R b) = (a = b) := by
 cases a; cases b; simp [a0R]
@[simp] theorem HeadD.eta (a : HeadD) : (⟨a.name, a.at_⟩ : HeadD) = a := rfl
theorem HeadD.eq_iff (a b : HeadD) : (a = b) = (a.name = b.name /\ a.at_ = b.at_) := by
 cases a; cases b; simp
@[simp] theorem HeadD.ex1 (x_name : Str) (x_at_ : Int) (Q : HeadD -> Prop) : (∃ a : HeadD, a.name = x_name /\ a.at_ = x_at_ /\ Q a) = Q ⟨x_name, x_at_⟩ := by
 apply propext
 constructor
 ·rintro ⟨⟨_, _⟩, rfl, rfl, h⟩; exact h
 ·intro h; exact ⟨⟨x_name, x_at_⟩, rfl, rfl, h⟩
@[simp] theorem HeadD.ex2 (x_name : Str) (x_at_ : Int) (Q : HeadD -> Prop) : (∃ a : HeadD, (a.name = x_name /\ a.at_ = x_at_) /\ Q a) = Q ⟨x_name, x_at_⟩ := by
 apply propext
 constructor
 ·rintro ⟨⟨_, _⟩, ⟨rfl, rfl⟩, h⟩; exact h
 ·intro h; exact ⟨⟨x_name, x_at_⟩, ⟨rfl, rfl⟩, h⟩
@[simp] theorem HeadD.ex0 (x_name : Str) (x_at_ : Int) : (∃ a : HeadD, a.name = x_name /\ a.at_ = x_at_) = True := by
 simp only [eq_iff_iff, iff_true]
 exact ⟨⟨x_name, x_at_⟩, rfl, rfl⟩
def a0b (l : List HeadD) : List (List D) := l.map a0R
@[simp] theorem eHeads_length (l : List HeadD) : (a0b l).length = l.length := by simp [a0b]
@[simp] theorem eHeads_nil : a0b [] = [] := rfl
@[simp] theorem eHeads_get (l : List HeadD) (i : Nat) : (a0b l)[i]? = l[i]?.map a0R := by simp [a0b]
@[simp] theorem eHeads_getElem (l : List HeadD) (i : Nat) (h : i < (a0b l).length) : (a0b l)[i] = a0R (l[i]'(by simpa using h)) := by simp [a0b]
@[simp] theorem eHeads_inj (a b : List HeadD) : (a0b a = a0b b) = (a = b) := by
 apply propext
 constructor
 ·intro h
  exact List.map_inj_right (fun x y h => by simpa using h) |>.1 h
 ·rintro rfl; rfl
@[simp] theorem eHeads_eq_nil (a : List HeadD) : (a0b a = []) = (a = []) := by simp [a0b]
@[simp] theorem nil_eq_eHeads (a : List HeadD) : ([] = a0b a) = (a = []) := by simp [a0b, eq_comm]
theorem a2h (a b : List HeadD) : a0b (a ++ b) = a0b a ++ a0b b := by simp [a0b]
theorem a2K (l : List HeadD) (i : Nat) : (a0b l).take i = a0b (l.take i) := by simp [a0b]
theorem a2J (l : List HeadD) (i : Nat) : (a0b l).drop i = a0b (l.drop i) := by simp [a0b]
theorem a1Z (a : List HeadD) (s : Str) (n : Int) : a0b a ++ [[.str s, .int .i64 n]] = a0b (a ++ [⟨s, n⟩]) := by simp [a0b, a0R]
theorem a2a (l : List HeadD) (i : Nat) (s : Str) (n : Int) : (a0b l).set i [.str s, .int .i64 n] = a0b (l.set i ⟨s, n⟩) := by simp [a0b, List.map_set, a0R]
theorem a2Y (n : Nat) : List.replicate n [D.str [], D.int .i64 0] = a0b (List.replicate n ⟨[], 0⟩) := by simp [a0b, a0R]
@[simp] theorem eHeads_flat (l : List HeadD) : (∀ x ∈ a0b l, ∀ d ∈ x, a6b d) = True := by
 simp only [eq_iff_iff, iff_true]
 intro x hx d hd
 simp only [a0b, List.mem_map] at hx
 obtain ⟨s, _, rfl⟩ := hx
 simp only [a0R, List.mem_cons, List.not_mem_nil, or_false] at hd
 rcases hd with rfl | rfl <;> trivial
structure CommitD where
 parents : List Int
 who : Str
 tree : List FileD
 deriving DecidableEq, Inhabited
def a0E (a : CommitD) : List D := [.sl 3 1 (a0d a.parents), .str a.who, .sl 66 2 (a0c a.tree)]
@[simp] theorem eCommit_inj (a b : CommitD) : (a0E a = a0E b) = (a = b) := by
 cases a; cases b; simp [a0E]
@[simp] theorem CommitD.eta (a : CommitD) : (⟨a.parents, a.who, a.tree⟩ : CommitD) = a := rfl
theorem CommitD.eq_iff (a b : CommitD) : (a = b) = (a.parents = b.parents /\ a.who = b.who /\ a.tree = b.tree) := by
 cases a; cases b; simp
@[simp] theorem CommitD.ex1 (x_parents : List Int) (x_who : Str) (x_tree : List FileD) (Q : CommitD -> Prop) : (∃ a : CommitD, a.parents = x_parents /\ a.who = x_who /\ a.tree = x_tree /\ Q a) = Q ⟨x_parents, x_who, x_tree⟩ := by
 apply propext
 constructor
 ·rintro ⟨⟨_, _, _⟩, rfl, rfl, rfl, h⟩; exact h
 ·intro h; exact ⟨⟨x_parents, x_who, x_tree⟩, rfl, rfl, rfl, h⟩
@[simp] theorem CommitD.ex2 (x_parents : List Int) (x_who : Str) (x_tree : List FileD) (Q : CommitD -> Prop) : (∃ a : CommitD, (a.parents = x_parents /\ a.who = x_who /\ a.tree = x_tree) /\ Q a) = Q ⟨x_parents, x_who, x_tree⟩ := by
 apply propext
 constructor
 ·rintro ⟨⟨_, _, _⟩, ⟨rfl, rfl, rfl⟩, h⟩; exact h
 ·intro h; exact ⟨⟨x_parents, x_who, x_tree⟩, ⟨rfl, rfl, rfl⟩, h⟩
@[simp] theorem CommitD.ex0 (x_parents : List Int) (x_who : Str) (x_tree : List FileD) : (∃ a : CommitD, a.parents = x_parents /\ a.who = x_who /\ a.tree = x_tree) = True := by
 simp only [eq_iff_iff, iff_true]
 exact ⟨⟨x_parents, x_who, x_tree⟩, rfl, rfl, rfl⟩
def a0g (l : List CommitD) : List (List D) := l.map a0E
@[simp] theorem eCommits_length (l : List CommitD) : (a0g l).length = l.length := by simp [a0g]
@[simp] theorem eCommits_nil : a0g [] = [] := rfl
@[simp] theorem eCommits_get (l : List CommitD) (i : Nat) : (a0g l)[i]? = l[i]?.map a0E := by simp [a0g]
@[simp] theorem eCommits_getElem (l : List CommitD) (i : Nat) (h : i < (a0g l).length) : (a0g l)[i] = a0E (l[i]'(by simpa using h)) := by simp [a0g]
@[simp] theorem eCommits_inj (a b : List CommitD) : (a0g a = a0g b) = (a = b) := by
 apply propext
 constructor
 ·intro h
  exact List.map_inj_right (fun x y h => by simpa using h) |>.1 h
 ·rintro rfl; rfl
@[simp] theorem eCommits_eq_nil (a : List CommitD) : (a0g a = []) = (a = []) := by simp [a0g]
@[simp] theorem nil_eq_eCommits (a : List CommitD) : ([] = a0g a) = (a = []) := by simp [a0g, eq_comm]
theorem a1I (a b : List CommitD) : a0g (a ++ b) = a0g a ++ a0g b := by simp [a0g]
theorem a2g (l : List CommitD) (i : Nat) : (a0g l).take i = a0g (l.take i) := by simp [a0g]
theorem a2f (l : List CommitD) (i : Nat) : (a0g l).drop i = a0g (l.drop i) := by simp [a0g]
theorem a1e (a : List CommitD) (p : List Int) (w : Str) (t : List FileD) : a0g a ++ [[.sl 3 1 (a0d p), .str w, .sl 66 2 (a0c t)]] = a0g (a ++ [⟨p, w, t⟩]) := by simp [a0g, a0E]
theorem a2w (l : List CommitD) (i : Nat) (p : List Int) (w : Str) (t : List FileD) : (a0g l).set i [.sl 3 1 (a0d p), .str w, .sl 66 2 (a0c t)] = a0g (l.set i ⟨p, w, t⟩) := by simp [a0g, List.map_set, a0E]
theorem a2v (n : Nat) : List.replicate n [D.sl 3 1 [], D.str [], D.sl 66 2 []] = a0g (List.replicate n ⟨[], [], []⟩) := by simp [a0g, a0E]
structure RepoD where
 commits : List CommitD
 heads : List HeadD
 deriving DecidableEq, Inhabited
def b8z (a : RepoD) : List D := [.sl 102 3 (a0g a.commits), .sl 69 2 (a0b a.heads)]
@[simp] theorem eRepo_inj (a b : RepoD) : (b8z a = b8z b) = (a = b) := by
 cases a; cases b; simp [b8z]
@[simp] theorem RepoD.eta (a : RepoD) : (⟨a.commits, a.heads⟩ : RepoD) = a := rfl
theorem RepoD.eq_iff (a b : RepoD) : (a = b) = (a.commits = b.commits /\ a.heads = b.heads) := by
 cases a; cases b; simp
@[simp] theorem RepoD.ex1 (x_commits : List CommitD) (x_heads : List HeadD) (Q : RepoD -> Prop) : (∃ a : RepoD, a.commits = x_commits /\ a.heads = x_heads /\ Q a) = Q ⟨x_commits, x_heads⟩ := by
 apply propext
 constructor
 ·rintro ⟨⟨_, _⟩, rfl, rfl, h⟩; exact h
 ·intro h; exact ⟨⟨x_commits, x_heads⟩, rfl, rfl, h⟩
@[simp] theorem RepoD.ex2 (x_commits : List CommitD) (x_heads : List HeadD) (Q : RepoD -> Prop) : (∃ a : RepoD, (a.commits = x_commits /\ a.heads = x_heads) /\ Q a) = Q ⟨x_commits, x_heads⟩ := by
 apply propext
 constructor
 ·rintro ⟨⟨_, _⟩, ⟨rfl, rfl⟩, h⟩; exact h
 ·intro h; exact ⟨⟨x_commits, x_heads⟩, ⟨rfl, rfl⟩, h⟩
@[simp] theorem RepoD.ex0 (x_commits : List CommitD) (x_heads : List HeadD) : (∃ a : RepoD, a.commits = x_commits /\ a.heads = x_heads) = True := by
 simp only [eq_iff_iff, iff_true]
 exact ⟨⟨x_commits, x_heads⟩, rfl, rfl⟩
def a2l (a : CommitD) : List D := [.sl 3 1 (a0d a.parents), .str a.who, .sl 186 2 (a0c a.tree)]
@[simp] theorem lCommit_inj (a b : CommitD) : (a2l a = a2l b) = (a = b) := by
 cases a; cases b; simp [a2l]
def a1g (l : List CommitD) : List (List D) := l.map a2l
@[simp] theorem lCommits_length (l : List CommitD) : (a1g l).length = l.length := by simp [a1g]
@[simp] theorem lCommits_nil : a1g [] = [] := rfl
@[simp] theorem lCommits_get (l : List CommitD) (i : Nat) : (a1g l)[i]? = l[i]?.map a2l := by simp [a1g]
@[simp] theorem lCommits_getElem (l : List CommitD) (i : Nat) (h : i < (a1g l).length) : (a1g l)[i] = a2l (l[i]'(by simpa using h)) := by simp [a1g]
@[simp] theorem lCommits_inj (a b : List CommitD) : (a1g a = a1g b) = (a = b) := by
 apply propext
 constructor
 ·intro h
  exact List.map_inj_right (fun x y h => by simpa using h) |>.1 h
 ·rintro rfl; rfl
@[simp] theorem lCommits_eq_nil (a : List CommitD) : (a1g a = []) = (a = []) := by simp [a1g]
@[simp] theorem nil_eq_lCommits (a : List CommitD) : ([] = a1g a) = (a = []) := by simp [a1g, eq_comm]
abbrev b9z (r : RepoD) : AV := .agg [.sl true 3 (a1g r.commits), .sl true 2 (a0b r.heads)]
abbrev a1E (r : RepoD) : AV := .agg [.sl true 3 (a0g r.commits), .sl true 2 (a0b r.heads)]
abbrev a2S (h : Nat) (a : List Int) : List (Nat × Blk) := [(h, .own 3 1 true (a0d a))]
abbrev a2E (h : Nat) (a : List HeadD) : List (Nat × Blk) := [(h, .own 69 2 true (a0b a))]
abbrev a2t (h : Nat) (a : List CommitD) : List (Nat × Blk) := [(h, .own 102 3 true (a0g a))]
end Vx
end Go.Proofs.YtokdjnbcdokpjabGreatDoor
namespace Go.Proofs.YtokdjnbcdokpjabGreatDoor
open Go.ChangeShapes Go.WideShapes Go.ChangeAt Go.RowKit
namespace Vx
def isStruct : Option TypeDesc -> Bool
 | some (.struct _) => true
 | _ => false
theorem c5y {T : Nat -> Option TI} (hs : ∀ te, T 3 = some te -> te.cells = [.int .i64]) {ds0 : List TK} {ds : List D} (h : Shp T (.sl 3 1 :: ds0) ds) : ∃ l r, ds = .sl 3 1 (a0d l) :: r /\ Shp T ds0 r := by
 cases h with
 | @sl e k te rows ks ds h1 h2 h3 =>
  rw [hs _ h1] at h2
  obtain ⟨l, rfl, _⟩ := a5S (f := eInt) (p := fun _ => True) (rows := rows) (fun r hr => by
   have := h2 r hr
   cases this with
   | int q1 q2 => cases q2; exact ⟨_, rfl, trivial⟩)
  exact ⟨l, _, rfl, h3⟩
theorem c2Y {T : Nat -> Option TI} (hs : ∀ te, T 128 = some te -> te.cells = [.str, .int .i64]) {ds : List D} (h : Shp T [.sl 128 2] ds) : ∃ l, ds = [.sl 128 2 (a0b l)] := by
 cases h with
 | @sl e k te rows ks ds h1 h2 h3 =>
  cases h3
  rw [hs _ h1] at h2
  obtain ⟨l, rfl, _⟩ := a5S (f := a0R) (p := fun _ => True) (rows := rows) (fun r hr => by
   have := h2 r hr
   cases this with
   | str q1 q2 =>
    cases q2 with
    | int q3 q4 => cases q4; exact ⟨⟨_, _⟩, rfl, trivial⟩)
  exact ⟨l, rfl⟩
theorem b7a {T : Nat -> Option TI} (hi : ∀ te, T 3 = some te -> te.cells = [.int .i64]) (hs : ∀ te, T 9 = some te -> te.cells = [.str]) (hf : ∀ te, T 186 = some te -> te.cells = [.str, .sl 9 1])
  (hc : ∀ te, T 126 = some te -> te.cells = [.sl 3 1, .str, .sl 186 2]) {ds0 : List TK} {ds : List D} (h : Shp T (.sl 126 3 :: ds0) ds) : ∃ l r, ds = .sl 126 3 (a1g l) :: r /\ Shp T ds0 r := by
 cases h with
 | @sl e k te rows ks ds h1 h2 h3 =>
  rw [hc _ h1] at h2
  obtain ⟨l, rfl, _⟩ := a5S (f := a2l) (p := fun _ => True) (rows := rows) (fun r hr => by
   obtain ⟨ps, r1, rfl, q⟩ := c5y hi (h2 r hr)
   cases q with
   | str q1 q2 =>
    obtain ⟨l, rfl⟩ := c2X hs hf q2
    exact ⟨⟨_, _, l⟩, rfl, trivial⟩)
  exact ⟨l, _, rfl, h3⟩
theorem b7L {q : Bool} {w : World} {d : D} {ds : List D} {vs : List Value} {f : List (Nat × Nat)} (h : RdL q w (d :: ds) vs f) : ∃ v vs' f1 f2, vs = v :: vs' /\ RdL q w [d] [v] f1 /\ RdL q w ds vs' f2 := by
 cases h with
 | int h => exact ⟨_, _, _, _, rfl, .int .nil, h⟩
 | bool h => exact ⟨_, _, _, _, rfl, .bool .nil, h⟩
 | str q h => exact ⟨_, _, _, _, rfl, .str q .nil, h⟩
 | raw q h => exact ⟨_, _, _, _, rfl, .raw q .nil, h⟩
 | junk q h => exact ⟨_, _, _, _, rfl, .junk q .nil, h⟩
 | sl0 q1 q2 h => exact ⟨_, _, _, _, rfl, .sl0 q1 q2 .nil, h⟩
 | sl q1 q2 q3 q4 q5 q6 q7 q8 q9 h => exact ⟨_, _, _, _, rfl, .sl q1 q2 q3 q4 q5 q6 q7 q8 q9 .nil, h⟩
theorem b7M {q : Bool} {w : World} {e k : Nat} {rows : List (List D)} {v : Value} {f : List (Nat × Nat)} (h : RdL q w [.sl e k rows] [v] f) : v.oneCell' = true := by
 cases h <;> rfl
section
variable {H : Type} {enc : TypeId × Value -> H} {W : World} {sp : Nat -> Bool} {held : Bool} {r : Reach} {base : Nat}
set_option maxRecDepth 100000 in
theorem c2w {v : Value} {d : DataW H} {p : List MemPlace} (hu : isStruct (Tryz.prog.underlying 25) = true) (hv : Value.okWide Tryz.prog W r base 25 v)
  (h : DataW.Trod enc Tryz.prog W 0 sp held 25 v d p) : ∃ (l : RepoD) (us : List Value) (f : List (Nat × Nat)), v = .agg us.toArray /\ (∀ u ∈ us, u.oneCell' = true) /\ RdArgs W [.sl true 3 (a1g l.commits), .sl true 2 (a0b l.heads)] us f := by
 have hu' : ∃ fs, Tryz.prog.underlying 25 = some (.struct fs) := by
  revert hu
  generalize Tryz.prog.underlying 25 = o
  intro hu
  unfold isStruct at hu
  split at hu
  ·exact ⟨_, rfl⟩
  ·cases hu
 obtain ⟨fs, hu'⟩ := hu'
 obtain ⟨cs, rfl, _⟩ := okWide_struct hu' hv
 obtain ⟨fuel, hf⟩ := h
 obtain ⟨ds, f, h1, h2⟩ := b7N a0i a9y fuel (t := 25) rfl hf
 obtain ⟨cl, r1, rfl, h3⟩ := b7a (fun te ht => by cases ht; rfl) (fun te ht => by cases ht; rfl) (fun te ht => by cases ht; rfl) (fun te ht => by cases ht; rfl) h2
 obtain ⟨hl, rfl⟩ := c2Y (fun te ht => by cases ht; rfl) h3
 obtain ⟨v1, vs, f1, f2, e1, k1, k2⟩ := b7L h1
 obtain ⟨v2, vs2, f3, f4, rfl, k3, k4⟩ := b7L k2
 cases k4
 have e2 : cs = #[v1, v2] := by
  apply Array.ext'
  exact e1
 subst e2
 refine ⟨⟨cl, hl⟩, [v1, v2], _, rfl, ?_, .sl k1 (.sl k3 .nil)⟩
 intro u hu
 simp only [List.mem_cons, List.not_mem_nil, or_false] at hu
 rcases hu with rfl | rfl
 ·exact b7M k1
 ·exact b7M k3
end
end Vx
end Go.Proofs.YtokdjnbcdokpjabGreatDoor
namespace Go.Proofs.YtokdjnbcdokpjabGreatDoor
open Go.ChangeShapes Go.WideShapes Go.ChangeAt Go.RowKit
namespace Vx
end Vx
end Go.Proofs.YtokdjnbcdokpjabGreatDoor
namespace Go.Proofs.YtokdjnbcdokpjabGreatDoor
namespace Vx
open Go.ChangeShapes Go.WideShapes Go.ChangeAt Go.RowKit
theorem c8q : laidOutB Tryz.pinned.checked.prog = true := by kernel_rfl
theorem c8t : mapsRowed Tryz.pinned.checked.prog = true := by kernel_rfl
theorem c6M : Tryz.pinned.checked.prog.stopsHeard = true := by kernel_rfl
theorem c6K : Tryz.pinned.checked.prog.mayEnter = true := by kernel_rfl
theorem c8r : Tryz.pinned.checked.prog.liftsFinal = false := by kernel_rfl
theorem c8s : Tryz.pinned.checked.prog.mainIs = some (Rows.fnExactQueueRunCard.stood.harness.1, Rows.fnExactQueueRunCard.stood.harness.2.toList) := by kernel_rfl
theorem c6L : Rows.fnExactQueueRunCard.stood.looks = Tryz.pinned.checked.prog.looks [] := by kernel_rfl
end Vx
end Go.Proofs.YtokdjnbcdokpjabGreatDoor
namespace Go.Proofs.YtokdjnbcdokpjabGreatDoor
set_option maxHeartbeats 4000000
namespace Vx
open Go.RowKit
def a6B : Con := .fn 15 (Int × Int × Int) (fun a => [.int .i64 a.1, .int .i64 a.2.1, .int .i64 a.2.2]) (fun _ => True) (fun a => .bool (decide (a.2.1 <= a.1) && decide (a.1 <= a.2.2))) (fun _ => [])
theorem a7I : Has Tryz.prog 75 a6B := by
 refine a0e mixed a0i HasL.nil [0, 1, 2, 6] ((fun a n (_ : Nat) => (fun _ => a0L) a n)) [] Tryz.func75 (by unfold Tryz.f75; rfl) (fun _ => ⟨(), trivial⟩) ?_
 intro a _
 obtain ⟨n, lo, hi⟩ := a
 simp -implicitDefEqProofs [a6B, Con.fn, tTab]
 omega
def a8N : Con := .fn 15 (Int × Int × Int) (fun a => [.int .i64 a.1, .int .i64 a.2.1, .int .i64 a.2.2]) (fun _ => True) (fun a => .bool (decide (a.2.1 <= a.1) && decide (a.1 <= a.2.2))) (fun _ => [])
theorem a7t : Has Tryz.prog 97 a8N := by
 refine a0e mixed a0i HasL.nil [0, 1, 2, 6] ((fun a n (_ : Nat) => (fun _ => a0L) a n)) [] Tryz.func97 (by unfold Tryz.f97; rfl) (fun _ => ⟨(), trivial⟩) ?_
 intro a _
 obtain ⟨n, lo, hi⟩ := a
 simp -implicitDefEqProofs [a8N, Con.fn, tTab]
 omega
def a7J (n : Int) : Bool := (decide (97 <= n) && decide (n <= 122)) || (decide (48 <= n) && decide (n <= 57))
def a8e : Con := .fn 17 Int (fun a => [.int .u8 a]) (fun _ => True) (fun a => .bool (a7J a)) (fun _ => [])
theorem b6f : Has Tryz.prog 114 a8e := by
 refine a0e mixed a0i HasL.nil [0, 2] ((fun a n (_ : Nat) => (fun _ => a0L) a n)) [] Tryz.func114 (by unfold Tryz.f114; rfl) (fun _ => ⟨(), trivial⟩) ?_
 intro a _
 simp -implicitDefEqProofs [a8e, Con.fn, tTab, a7J]
 repeat' (first | intro _ | apply And.intro)
 all_goals first | omega | grind
def a1o (s : Str) : Bool := decide (1 <= s.length) && decide (s.length <= 6) && s.all fun b => a7J b.toNat
def a5x : Con := .fn 19 Str (fun s => [.str s]) (fun _ => True) (fun s => .bool (a1o s)) (fun _ => [])
theorem a5r : Has Tryz.prog 73 a5x := by
 refine a0e mixed a0i (HasL.cons a7I (HasL.cons b6f HasL.nil)) [0, 2, 3] ((fun a n (_ : Nat) => (fun s _ => ⟨Nat, fun i => ⟨[(0, true, .str s), (2, true, .bool false), (3, true, .int .i64 i)], []⟩, fun i => i <= s.length /\ 1 <= s.length /\ s.length <= 6 /\ (s.take i).all (fun b => a7J b.toNat) = true, fun i => s.length - i⟩) a n)) [] Tryz.func73 (by unfold Tryz.f73; rfl) (fun _ => ⟨(), trivial⟩) ?_
 intro (s : Str) _
 simp -implicitDefEqProofs [a5x, Con.fn, tTab, a6B, a8e]
 try dsimp only
 try simp +contextual [eStr, a0y, a0s, a0z, a0t, List.getElem?_eq_getElem, a0u, a0p, a0r, a0q, <- a0h, <- a0f, a0m, a0n, a0l, a0k, a0o, a0j, and_assoc]
 repeat' (first | intro _ | apply And.intro)
 all_goals first | omega | grind [a0B, a1o, List.take_succ_eq_append_getElem]
def a6y : Con := .fn 35 Str (fun s => [.str s]) (fun _ => True) (fun s => .bool (a1o s)) (fun _ => [])
theorem a7u : Has Tryz.prog 98 a6y := by
 refine a0e mixed a0i (HasL.cons a7t HasL.nil) [0, 2, 3] ((fun a n (_ : Nat) => (fun s _ => ⟨Nat, fun i => ⟨[(0, true, .str s), (2, true, .bool false), (3, true, .int .i64 i)], []⟩, fun i => i <= s.length /\ (s.take i).all (fun b => a7J b.toNat) = true, fun i => s.length - i⟩) a n)) [] Tryz.func98 (by unfold Tryz.f98; rfl) (fun _ => ⟨(), trivial⟩) ?_
 intro (s : Str) _
 simp -implicitDefEqProofs [a6y, Con.fn, tTab, a8N]
 try dsimp only
 try simp +contextual [eStr, a0y, a0s, a0z, a0t, List.getElem?_eq_getElem, a0u, a0p, a0r, a0q, <- a0h, <- a0f, a0m, a0n, a0l, a0k, a0o, a0j, and_assoc]
 repeat' (first | intro _ | apply And.intro)
 all_goals first | omega | grind [a0B, a1o, a7J, List.take_succ_eq_append_getElem]
def a6f (s : Str) : Bool := decide (s.length <= 12) && s.all fun b => decide (32 <= b.toNat) && decide (b.toNat <= 126)
def b1S : Con := .fn 23 Str (fun s => [.str s]) (fun _ => True) (fun s => .bool (a6f s)) (fun _ => [])
theorem b9C : Has Tryz.prog 157 b1S := by
 refine a0e mixed a0i HasL.nil [0, 2, 3] ((fun a n (_ : Nat) => (fun s _ => ⟨Nat, fun i => ⟨[(0, true, .str s), (2, true, .bool false), (3, true, .int .i64 i)], []⟩, fun i => i <= s.length /\ s.length <= 12 /\ (s.take i).all (fun b => decide (32 <= b.toNat) && decide (b.toNat <= 126)) = true, fun i => s.length - i⟩) a n)) [] Tryz.func157 (by unfold Tryz.f157; rfl) (fun _ => ⟨(), trivial⟩) ?_
 intro (s : Str) _
 simp -implicitDefEqProofs [b1S, Con.fn, tTab]
 try dsimp only
 try simp +contextual [eStr, a0y, a0s, a0z, a0t, List.getElem?_eq_getElem, a0u, a0p, a0r, a0q, <- a0h, <- a0f, a0m, a0n, a0l, a0k, a0o, a0j, and_assoc]
 repeat' (first | intro _ | apply And.intro)
 all_goals first | omega | grind [a0B, a6f, List.take_succ_eq_append_getElem]
def b1K : Con := .fn 23 Str (fun s => [.str s]) (fun _ => True) (fun s => .bool (a6f s)) (fun _ => [])
theorem b9m : Has Tryz.prog 176 b1K := by
 refine a0e mixed a0i HasL.nil [0, 2, 3] ((fun a n (_ : Nat) => (fun s _ => ⟨Nat, fun i => ⟨[(0, true, .str s), (2, true, .bool false), (3, true, .int .i64 i)], []⟩, fun i => i <= s.length /\ (s.take i).all (fun b => decide (32 <= b.toNat) && decide (b.toNat <= 126)) = true, fun i => s.length - i⟩) a n)) [] Tryz.func176 (by unfold Tryz.f176; rfl) (fun _ => ⟨(), trivial⟩) ?_
 intro (s : Str) _
 simp -implicitDefEqProofs [b1K, Con.fn, tTab]
 try dsimp only
 try simp +contextual [eStr, a0y, a0s, a0z, a0t, List.getElem?_eq_getElem, a0u, a0p, a0r, a0q, <- a0h, <- a0f, a0m, a0n, a0l, a0k, a0o, a0j, and_assoc]
 repeat' (first | intro _ | apply And.intro)
 all_goals first | omega | grind [a0B, a6f, List.take_succ_eq_append_getElem]
def a1d (t : List Str) : Bool := decide (t.length <= 10) && t.all a6f
def a6z : Con := .fn 18 (List Str) (fun t => [.sl true 1 (a0a t)]) (fun _ => True) (fun t => .bool (a1d t)) (fun _ => [])
theorem a7G : Has Tryz.prog 115 a6z := by
 refine a0e mixed a0i (HasL.cons b9C HasL.nil) [0, 2, 4, 8, 9, 10] ((fun a n (_ : Nat) => (fun t _ => ⟨Nat, fun i => ⟨[(2, true, .bool false), (8, true, .sl true 1 (a0a t)), (9, true, .int .i64 t.length), (10, true, .int .i64 i)], []⟩, fun i => i <= t.length /\ t.length <= 10 /\ (t.take i).all a6f = true, fun i => t.length - i⟩) a n)) [] Tryz.func115 (by unfold Tryz.f115; rfl) (fun _ => ⟨(), trivial⟩) ?_
 intro (t : List Str) _
 simp -implicitDefEqProofs [a6z, Con.fn, tTab, b1S]
 try dsimp only
 try simp +contextual [eStr, a0y, a0s, a0z, a0t, List.getElem?_eq_getElem, a0u, a0p, a0r, a0q, <- a0h, <- a0f, a0m, a0n, a0l, a0k, a0o, a0j, and_assoc]
 repeat' (first | intro _ | apply And.intro)
 all_goals first | omega | grind [a0B, a1d, List.take_succ_eq_append_getElem]
def b3H : Con := .fn 19 (List Str) (fun t => [.sl true 1 (a0a t)]) (fun _ => True) (fun t => .bool (a1d t)) (fun _ => [])
theorem b5f : Has Tryz.prog 140 b3H := by
 refine a0e mixed a0i (HasL.cons b9m HasL.nil) [0, 2, 3] ((fun a n (_ : Nat) => (fun t _ => ⟨Nat, fun i => ⟨[(0, true, .sl true 1 (a0a t)), (2, true, .bool false), (3, true, .int .i64 i)], []⟩, fun i => i <= t.length /\ (t.take i).all a6f = true, fun i => t.length - i⟩) a n)) [] Tryz.func140 (by unfold Tryz.f140; rfl) (fun _ => ⟨(), trivial⟩) ?_
 intro (t : List Str) _
 simp -implicitDefEqProofs [b3H, Con.fn, tTab, b1K]
 try dsimp only
 try simp +contextual [eStr, a0y, a0s, a0z, a0t, List.getElem?_eq_getElem, a0u, a0p, a0r, a0q, <- a0h, <- a0f, a0m, a0n, a0l, a0k, a0o, a0j, and_assoc]
 repeat' (first | intro _ | apply And.intro)
 all_goals first | omega | grind [a0B, a1d, List.take_succ_eq_append_getElem]
def a4s : Con := .fn 26 (List Str × List Str) (fun a => [.sl true 1 (a0a a.1), .sl true 1 (a0a a.2)]) (fun _ => True) (fun a => .bool (decide (a.1 = a.2))) (fun _ => [])
theorem a7N : Has Tryz.prog 19 a4s := by
 refine a0e mixed a0i HasL.nil [0, 1, 2, 3, 4, 5] ((fun a n (_ : Nat) => (fun a _ => ⟨Nat, fun i => ⟨[(0, true, .sl true 1 (a0a a.1)), (1, true, .sl true 1 (a0a a.2)), (4, true, .bool false), (5, true, .int .i64 i)], []⟩, fun i => i <= a.1.length /\ a.1.length = a.2.length /\ a.1.take i = a.2.take i, fun i => a.1.length - i⟩) a n)) [] Tryz.func19 (by unfold Tryz.f19; rfl) (fun _ => ⟨(), trivial⟩) ?_
 intro a _
 obtain ⟨l, r⟩ := a
 simp -implicitDefEqProofs [a4s, Con.fn, tTab]
 try dsimp only
 try simp +contextual [eStr, a0y, a0s, a0z, a0t, List.getElem?_eq_getElem, a0u, a0p, a0r, a0q, <- a0h, <- a0f, a0m, a0n, a0l, a0k, a0o, a0j, and_assoc]
 repeat' (first | intro _ | apply And.intro)
 all_goals first | omega | grind [a0B, a4J, a3z]
def szL : List Str -> Int -> Int
 | [], l => l
 | s :: r, l => if l - s.length < 0 then -1 else szL r (l - s.length)
def a3D (a : List Str) (l : Int) : Int := if l - a.length < 0 then -1 else szL a (l - a.length)
def a4t : Con := .fn 28 (List Str × Int) (fun a => [.sl true 1 (a0a a.1), .int .i64 a.2]) (fun a => 0 <= a.2 /\ a.2 <= 1048576) (fun a => .int .i64 (a3D a.1 a.2)) (fun _ => [])
theorem c5J {a : List Str} {i : Nat} {l : Int} (h : i < a.length) : szL (a.drop i) l = if l - a[i].length < 0 then -1 else szL (a.drop (i + 1)) (l - a[i].length) := by
 rw [List.drop_eq_getElem_cons h]; rfl
theorem c7R {a : List Str} {i : Nat} {l : Int} (h : a.length <= i) : szL (a.drop i) l = l := by
 rw [List.drop_eq_nil_of_le h]; rfl
theorem a7P : Has Tryz.prog 12 a4t := by
 refine a0e mixed a0i HasL.nil [0, 1, 4, 5] ((fun a n (_ : Nat) => (fun a _ => ⟨Nat × Int, fun t => ⟨[(0, true, .sl true 1 (a0a a.1)), (1, true, .int .i64 t.2), (4, true, .int .i64 0), (5, true, .int .i64 t.1)], []⟩, fun t => t.1 <= a.1.length /\ 0 <= t.2 /\ t.2 <= 1048576 /\ szL (a.1.drop t.1) t.2 = a3D a.1 a.2, fun t => a.1.length - t.1⟩) a n)) [] Tryz.func12 (by unfold Tryz.f12; rfl) (fun _ => ⟨(), trivial⟩) ?_
 intro a ha
 obtain ⟨l, n⟩ := a
 obtain ⟨h1, h2⟩ : 0 <= n /\ n <= 1048576 := ha
 simp -implicitDefEqProofs [a4t, Con.fn, tTab]
 try dsimp only
 try simp +contextual [eStr, a0y, a0s, a0z, a0t, List.getElem?_eq_getElem, a0u, a0p, a0r, a0q, <- a0h, <- a0f, a0m, a0n, a0l, a0k, a0o, a0j, and_assoc]
 repeat' (first | intro _ | apply And.intro)
 all_goals first | omega | grind [a0B, a3D, c5J, c7R]
abbrev a1V (h : Nat) (a : List Str) : List (Nat × Blk) := [(h, .own 9 1 true (a0a a))]
abbrev a2N (h : Nat) (a : List FileD) : List (Nat × Blk) := [(h, .own 66 2 true (a0c a))]
def a4u : Con := .fn 22 (List Str) (fun a => [.sl true 1 (a0a a)]) (fun a => a.length <= 1048576) (fun a => .own 8 1 (a0a a)) (fun a => a1V 8 a)
theorem a7Q : Has Tryz.prog 15 a4u := by
 refine a0e mixed a0i HasL.nil [0, 2, 3, 4] ((fun a n (_ : Nat) => (fun a _ => ⟨Nat × List Str, fun t => ⟨[(0, true, .sl true 1 (a0a a)), (2, true, .nil), (3, true, .own 9 1 (a0a t.2)), (4, true, .int .i64 t.1)], a1V 9 t.2⟩, fun t => t.1 <= a.length /\ t.2.length = a.length /\ t.2.take t.1 = a.take t.1, fun t => a.length - t.1⟩) a n)) [] Tryz.func15 (by unfold Tryz.f15; rfl) (fun _ => ⟨(), trivial⟩) ?_
 intro (a : List Str) ha
 replace ha : a.length <= 1048576 := ha
 simp -implicitDefEqProofs [a4u, Con.fn, tTab]
 try dsimp only
 try simp +contextual [eStr, a0y, a0s, a0z, a0t, List.getElem?_eq_getElem, a0u, a0p, a0r, a0q, <- a0h, <- a0f, a0m, a0n, a0l, a0k, a0o, a0j, and_assoc]
 repeat' (first | intro _ | apply And.intro)
 all_goals first | omega | grind [a0B, a5U, a3z]
def szF (f : FileD) (l : Int) : Int := if l - f.path.length < 0 then -1 else if a3D f.text (l - f.path.length) < 0 then -1 else a3D f.text (l - f.path.length)
def b1X : Con := .fn 19 (FileD × Int) (fun a => [.agg [.str a.1.path, .sl true 1 (a0a a.1.text)], .int .i64 a.2]) (fun a => 0 <= a.2 /\ a.2 <= 1048576) (fun a => .int .i64 (szF a.1 a.2)) (fun _ => [])
theorem c0e : Has Tryz.prog 175 b1X := by
 refine a0e mixed a0i (HasL.cons a7P HasL.nil) [0, 1, 2, 4] ((fun a n (_ : Nat) => (fun _ => a0L) a n)) [] Tryz.func175 (by unfold Tryz.f175; rfl) (fun _ => ⟨(), trivial⟩) ?_
 intro a ha
 obtain ⟨f, n⟩ := a
 obtain ⟨h1, h2⟩ : 0 <= n /\ n <= 1048576 := ha
 simp -implicitDefEqProofs [b1X, Con.fn, tTab, a4t]
 try dsimp only
 try simp +contextual [eStr, a0y, a0s, a0z, a0t, List.getElem?_eq_getElem, a0u, a0p, a0r, a0q, <- a0h, <- a0f, a0m, a0n, a0l, a0k, a0o, a0j, and_assoc]
 repeat' (first | intro _ | apply And.intro)
 all_goals first | omega | grind [a0B, szF]
def b2a : Con := .fn 12 FileD (fun f => [.agg [.str f.path, .sl true 1 (a0a f.text)]]) (fun f => f.text.length <= 1048576) (fun f => .agg [.str f.path, .own 8 1 (a0a f.text)]) (fun f => a1V 8 f.text)
theorem c0n : Has Tryz.prog 179 b2a := by
 refine a0e mixed a0i (HasL.cons a7Q HasL.nil) [0, 1, 2, 3] ((fun a n (_ : Nat) => (fun _ => a0L) a n)) [] Tryz.func179 (by unfold Tryz.f179; rfl) (fun _ => ⟨(), trivial⟩) ?_
 intro f hf
 obtain ⟨p, x⟩ := f
 replace hf : x.length <= 1048576 := hf
 simp -implicitDefEqProofs [b2a, Con.fn, tTab, a4u]
 try dsimp only
 try simp +contextual [eStr, a0y, a0s, a0z, a0t, List.getElem?_eq_getElem, a0u, a0p, a0r, a0q, <- a0h, <- a0f, a0m, a0n, a0l, a0k, a0o, a0j, and_assoc]
 repeat' (first | intro _ | apply And.intro)
 all_goals first | omega | grind [a0B]
def a9R : Con := .fn 23 (List FileD) (fun a => [.sl true 2 (a0c a)]) (fun a => a.length <= 1048576 /\ ∀ f ∈ a, f.text.length <= 1048576) (fun a => .own 8 2 (a0c a)) (fun a => a2N 8 a)
theorem b7f : Has Tryz.prog 150 a9R := by
 refine a0e mixed a0i (HasL.cons c0n HasL.nil) [0, 2, 3, 4] ((fun a n (_ : Nat) => (fun a _ => ⟨Nat × List FileD, fun t => ⟨[(0, true, .sl true 2 (a0c a)), (2, true, .nil), (3, true, .own 9 2 (a0c t.2)), (4, true, .int .i64 t.1)], a2N 9 t.2⟩, fun t => t.1 <= a.length /\ t.2.length = a.length /\ t.2.take t.1 = a.take t.1, fun t => a.length - t.1⟩) a n)) [] Tryz.func150 (by unfold Tryz.f150; rfl) (fun _ => ⟨(), trivial⟩) ?_
 intro (a : List FileD) ha
 obtain ⟨h1, h2⟩ : a.length <= 1048576 /\ ∀ f ∈ a, f.text.length <= 1048576 := ha
 simp -implicitDefEqProofs [a9R, Con.fn, tTab, b2a]
 try dsimp only
 try simp +contextual [eStr, a0y, a0s, a0z, a0t, List.getElem?_eq_getElem, a0u, a0p, a0r, a0q, <- a0h, <- a0f, a0m, a0n, a0l, a0k, a0o, a0j, and_assoc, <- FileD.eq_iff]
 repeat' (first | intro _ | apply And.intro)
 all_goals first | omega | grind [a0B, a5U, a3z]
def szFL : List FileD -> Int -> Int
 | [], l => l
 | f :: r, l => if szF f l < 0 then -1 else szFL r (szF f l)
def a2U (a : List FileD) (l : Int) : Int := if l - a.length < 0 then -1 else szFL a (l - a.length)
theorem c3h {a : List FileD} {i : Nat} {l : Int} (h : i < a.length) : szFL (a.drop i) l = if szF a[i] l < 0 then -1 else szFL (a.drop (i + 1)) (szF a[i] l) := by
 rw [List.drop_eq_getElem_cons h]; rfl
theorem c5G {a : List FileD} {i : Nat} {l : Int} (h : a.length <= i) : szFL (a.drop i) l = l := by
 rw [List.drop_eq_nil_of_le h]; rfl
theorem c3j : ∀ {a : List Str} {l : Int}, 0 <= l -> szL a l <= l := by
 intro a
 induction a with
 | nil => intro l _; exact Int.le_refl l
 | cons s r ih =>
  intro l h
  simp only [szL]
  split
  ·omega
  ·have := ih (l := l - s.length) (by omega); omega
theorem c3k {a : List Str} {l : Int} (h : 0 <= l) : a3D a l <= l := by
 unfold a3D
 split
 ·omega
 ·have := c3j (a := a) (l := l - a.length) (by omega); omega
theorem b5T {f : FileD} {l : Int} (h : 0 <= l) : szF f l <= l := by
 unfold szF
 split
 ·omega
 ·split
  ·omega
  ·have := c3k (a := f.text) (l := l - f.path.length) (by omega); omega
def a9P : Con := .fn 27 (List FileD × Int) (fun a => [.sl true 2 (a0c a.1), .int .i64 a.2]) (fun a => 0 <= a.2 /\ a.2 <= 1048576) (fun a => .int .i64 (a2U a.1 a.2)) (fun _ => [])
theorem b7c : Has Tryz.prog 139 a9P := by
 refine a0e mixed a0i (HasL.cons c0e HasL.nil) [0, 1, 4, 5] ((fun a n (_ : Nat) => (fun a _ => ⟨Nat × Int, fun t => ⟨[(0, true, .sl true 2 (a0c a.1)), (1, true, .int .i64 t.2), (4, true, .int .i64 0), (5, true, .int .i64 t.1)], []⟩, fun t => t.1 <= a.1.length /\ 0 <= t.2 /\ t.2 <= 1048576 /\ szFL (a.1.drop t.1) t.2 = a2U a.1 a.2, fun t => a.1.length - t.1⟩) a n)) [] Tryz.func139 (by unfold Tryz.f139; rfl) (fun _ => ⟨(), trivial⟩) ?_
 intro a ha
 obtain ⟨l, n⟩ := a
 obtain ⟨h1, h2⟩ : 0 <= n /\ n <= 1048576 := ha
 have hle : ∀ (f : FileD) (l : Int), 0 <= l -> szF f l <= l := fun f l => b5T
 simp -implicitDefEqProofs [a9P, Con.fn, tTab, b1X]
 try dsimp only
 try simp +contextual [eStr, a0y, a0s, a0z, a0t, List.getElem?_eq_getElem, a0u, a0p, a0r, a0q, <- a0h, <- a0f, a0m, a0n, a0l, a0k, a0o, a0j, and_assoc, <- FileD.eq_iff]
 repeat' (first | intro _ | apply And.intro)
 all_goals first | omega | grind [a0B, a2U, c3h, c5G]
def b1G : Con := .fn 16 (FileD × FileD) (fun a => [.agg [.str a.1.path, .sl true 1 (a0a a.1.text)], .agg [.str a.2.path, .sl true 1 (a0a a.2.text)]]) (fun _ => True) (fun a => .bool (decide (a.1 = a.2))) (fun _ => [])
theorem b8A : Has Tryz.prog 186 b1G := by
 refine a0e mixed a0i (HasL.cons a7N HasL.nil) [0, 1, 2, 3, 4] ((fun a n (_ : Nat) => (fun _ => a0L) a n)) [] Tryz.func186 (by unfold Tryz.f186; rfl) (fun _ => ⟨(), trivial⟩) ?_
 intro a _
 obtain ⟨⟨p, x⟩, ⟨q, y⟩⟩ := a
 simp -implicitDefEqProofs [b1G, Con.fn, tTab, a4s]
 try dsimp only
 try simp +contextual [eStr, a0y, a0s, a0z, a0t, List.getElem?_eq_getElem, a0u, a0p, a0r, a0q, <- a0h, <- a0f, a0m, a0n, a0l, a0k, a0o, a0j, and_assoc]
 repeat' (first | intro _ | apply And.intro)
 all_goals first | omega | grind [a0B]
def a9E : Con := .fn 27 (List FileD × List FileD) (fun a => [.sl true 2 (a0c a.1), .sl true 2 (a0c a.2)]) (fun _ => True) (fun a => .bool (decide (a.1 = a.2))) (fun _ => [])
theorem b6p : Has Tryz.prog 155 a9E := by
 refine a0e mixed a0i (HasL.cons b8A HasL.nil) [0, 1, 2, 3, 4, 5] ((fun a n (_ : Nat) => (fun a _ => ⟨Nat, fun i => ⟨[(0, true, .sl true 2 (a0c a.1)), (1, true, .sl true 2 (a0c a.2)), (4, true, .bool false), (5, true, .int .i64 i)], []⟩, fun i => i <= a.1.length /\ a.1.length = a.2.length /\ a.1.take i = a.2.take i, fun i => a.1.length - i⟩) a n)) [] Tryz.func155 (by unfold Tryz.f155; rfl) (fun _ => ⟨(), trivial⟩) ?_
 intro a _
 obtain ⟨l, r⟩ := a
 simp -implicitDefEqProofs [a9E, Con.fn, tTab, b1G]
 try dsimp only
 try simp +contextual [eStr, a0y, a0s, a0z, a0t, List.getElem?_eq_getElem, a0u, a0p, a0r, a0q, <- a0h, <- a0f, a0m, a0n, a0l, a0k, a0o, a0j, and_assoc, <- FileD.eq_iff]
 repeat' (first | intro _ | apply And.intro)
 all_goals first | omega | grind [a0B, a4J, a3z]
def a5t (p s : Str) : Bool := decide (p.length <= s.length) && decide (s.take p.length = p)
def a5H : Con := .fn 18 (Str × Str) (fun a => [.str a.1, .str a.2]) (fun _ => True) (fun a => .bool (a5t a.2 a.1)) (fun _ => [])
theorem b1v : Has Tryz.prog 188 a5H := by
 refine a0e mixed a0i HasL.nil [0, 1, 4] ((fun a n (_ : Nat) => (fun _ => a0L) a n)) [] Tryz.func188 (by unfold Tryz.f188; rfl) (fun _ => ⟨(), trivial⟩) ?_
 intro a _
 obtain ⟨s, p⟩ := a
 simp -implicitDefEqProofs [a5H, Con.fn, tTab, a5t]
 try dsimp only
 try simp +contextual [eStr, a0y, a0s, a0z, a0t, List.getElem?_eq_getElem, a0u, a0p, a0r, a0q, <- a0h, <- a0f, a0m, a0n, a0l, a0k, a0o, a0j, and_assoc]
 repeat' (first | intro _ | apply And.intro)
 all_goals first | omega | grind [a0B]
def a7e : Con := .fn 8 (Str × Str) (fun a => [.str a.1, .str a.2]) (fun _ => True) (fun a => .bool (a5t a.2 a.1)) (fun _ => [])
theorem b3l : Has Tryz.prog 159 a7e := by
 refine a0e mixed a0i (HasL.cons b1v HasL.nil) [0, 1, 4] ((fun a n (_ : Nat) => (fun _ => a0L) a n)) [] Tryz.func159 (by unfold Tryz.f159; rfl) (fun _ => ⟨(), trivial⟩) ?_
 intro a _
 obtain ⟨s, p⟩ := a
 simp -implicitDefEqProofs [a7e, Con.fn, tTab, a5H]
 try dsimp only
 try simp +contextual [eStr, a0y, a0s, a0z, a0t, List.getElem?_eq_getElem, a0u, a0p, a0r, a0q, <- a0h, <- a0f, a0m, a0n, a0l, a0k, a0o, a0j, and_assoc]
 repeat' (first | intro _ | apply And.intro)
 all_goals first | omega | grind [a0B]
def inB (d p : Str) : Bool := decide (d.length < p.length) && decide (p.take d.length = d) && decide (p.getD d.length 0 = 47)
theorem c0r (a : UInt8) : ((a.toNat : Int) = 47) = (a = 47) := by
 apply propext
 constructor
 ·intro h
  have : a.toNat = 47 := by omega
  exact UInt8.toNat_inj.1 (by simpa using this)
 ·rintro rfl; rfl
def b8o : Con := .fn 25 (Str × Str) (fun a => [.str a.1, .str a.2]) (fun _ => True) (fun a => .bool (inB a.1 a.2)) (fun _ => [])
theorem c4B : Has Tryz.prog 141 b8o := by
 refine a0e mixed a0i HasL.nil [0, 1, 4] ((fun a n (_ : Nat) => (fun _ => a0L) a n)) [] Tryz.func141 (by unfold Tryz.f141; rfl) (fun _ => ⟨(), trivial⟩) ?_
 intro a _
 obtain ⟨d, p⟩ := a
 simp -implicitDefEqProofs [b8o, Con.fn, tTab, inB, c0r]
 try dsimp only
 try simp +contextual [eStr, a0y, a0s, a0z, a0t, List.getElem?_eq_getElem, a0u, a0p, a0r, a0q, <- a0h, <- a0f, a0m, a0n, a0l, a0k, a0o, a0j, and_assoc, c0r]
 repeat' (first | intro _ | apply And.intro)
 all_goals first | omega | grind [a0B, c0r]
def cutL (b : Int) (most : Nat) : Str -> Str -> Nat -> List Str
 | [], c, _ => [c]
 | x :: r, c, n => if n < most then (if (x.toNat : Int) = b then c :: cutL b most r [] (n + 1) else cutL b most r (c ++ [x]) n) else [c ++ x :: r]
theorem c1g {b : Int} {most : Nat} {r c : Str} {n : Nat} (h : most <= n) : cutL b most r c n = [c ++ r] := by
 cases r with
 | nil => simp [cutL]
 | cons x r => simp [cutL, Nat.not_lt.2 h]
def a1v (s : Str) (fr i : Nat) : Str := (s.drop fr).take (i - fr)
theorem c2D {s : Str} {fr i : Nat} (h : fr <= i) : a1v s fr i ++ s.drop i = s.drop fr := by
 unfold a1v
 have : s.drop i = (s.drop fr).drop (i - fr) := by rw [List.drop_drop]; congr 1; omega
 rw [this, List.take_append_drop]
theorem c2E {s : Str} {fr i : Nat} (h : s.length <= i) (hf : fr <= i) : a1v s fr i = s.drop fr := by
 unfold a1v
 exact List.take_of_length_le (by rw [List.length_drop]; omega)
theorem b9R {s : Str} {fr : Nat} : a1v s fr fr = [] := by simp [a1v]
theorem b9Q {s : Str} {fr i : Nat} (h : i < s.length) (hf : fr <= i) : a1v s fr (i + 1) = a1v s fr i ++ [s[i]] := by
 unfold a1v
 rw [show i + 1 - fr = (i - fr) + 1 by omega, List.take_succ_eq_append_getElem (by rw [List.length_drop]; omega)]
 congr 2
 rw [List.getElem_drop]
 congr 1
 omega
theorem c4e {b : Int} {most : Nat} {s : Str} {fr i n : Nat} (h : i < s.length) (hf : fr <= i) (hn : n < most) :
  cutL b most (s.drop i) (a1v s fr i) n = if (s[i].toNat : Int) = b then a1v s fr i :: cutL b most (s.drop (i + 1)) (a1v s (i + 1) (i + 1)) (n + 1) else cutL b most (s.drop (i + 1)) (a1v s fr (i + 1)) n := by
 rw [List.drop_eq_getElem_cons h, b9R, b9Q h hf]
 simp [cutL, hn]
theorem c6D {b : Int} {most : Nat} {s : Str} {fr i n : Nat} (h : s.length <= i) (hf : fr <= i) : cutL b most (s.drop i) (a1v s fr i) n = [s.drop fr] := by
 rw [List.drop_eq_nil_of_le h, <- c2E h hf]; rfl
theorem c4d {b : Int} {most : Nat} {s : Str} {fr i n : Nat} (h : most <= n) (hf : fr <= i) : cutL b most (s.drop i) (a1v s fr i) n = [s.drop fr] := by
 rw [c1g h, c2D hf]
def cutB (s : Str) (b : Int) (most : Nat) : List Str := cutL b most s [] 0
theorem c5i (s : Str) (fr i : Nat) : (s.drop fr).take (i - fr) = a1v s fr i := rfl
theorem b9P (s : Str) (fr : Nat) : a1v s fr s.length = s.drop fr := by
 unfold a1v
 exact List.take_of_length_le (by rw [List.length_drop]; omega)
def b4p : Con := .fn 43 (Str × Int × Nat) (fun a => [.str a.1, .int .u8 a.2.1, .int .i64 a.2.2]) (fun a => a.2.2 <= 1000000) (fun a => .own 8 1 (a0a (cutB a.1 a.2.1 a.2.2))) (fun a => a1V 8 (cutB a.1 a.2.1 a.2.2))
theorem c1U : Has Tryz.prog 163 b4p := by
 refine a0e mixed a0i HasL.nil [0, 1, 2, 6, 7, 8, 9] ((fun a n (_ : Nat) => (fun a _ => ⟨List Str × Nat × Nat, fun t => ⟨[(0, true, .str a.1), (1, true, .int .u8 a.2.1), (2, true, .int .i64 a.2.2), (6, true, .nil), (7, true, .own 9 1 (a0a t.1)), (8, true, .int .i64 t.2.1), (9, true, .int .i64 t.2.2)], a1V 9 t.1⟩, fun t => t.2.1 <= t.2.2 /\ t.2.2 <= a.1.length /\ t.1.length <= a.2.2 /\ t.1 ++ cutL a.2.1 a.2.2 (a.1.drop t.2.2) (a1v a.1 t.2.1 t.2.2) t.1.length = cutB a.1 a.2.1 a.2.2, fun t => a.1.length - t.2.2⟩) a n)) [] Tryz.func163 (by unfold Tryz.f163; rfl) (fun _ => ⟨(), trivial⟩) ?_
 intro a ha
 obtain ⟨s, b, most⟩ := a
 replace ha : most <= 1000000 := ha
 have hs : cutL b most s (a1v s 0 0) 0 = cutB s b most := rfl
 simp -implicitDefEqProofs [b4p, Con.fn, tTab]
 try dsimp only
 try simp +contextual [eStr, a0y, a0s, a0z, a0t, List.getElem?_eq_getElem, a0u, a0p, a0r, a0q, <- a0h, <- a0f, a0m, a0n, a0l, a0k, a0o, a0j, and_assoc, c5i, b9P]
 repeat' (first | intro _ | apply And.intro)
 all_goals first | omega | grind [a0B, c4e, c6D, c4d]
theorem b8v (a : Nat) : ((a : Int) = 3) = (a = 3) := by apply propext; omega
def a9d (s : Str) : Bool := (cutB s 47 3).all a1o && decide ((cutB s 47 3).length <= 3)
def b1N : Con := .fn 22 Str (fun s => [.str s]) (fun _ => True) (fun s => .bool (a9d s)) (fun _ => [])
theorem b9r : Has Tryz.prog 121 b1N := by
 refine a0e mixed a0i (HasL.cons c1U (HasL.cons a7u HasL.nil)) [0, 2, 3, 4] ((fun a n (_ : Nat) => (fun s _ => ⟨Nat, fun i => ⟨[(2, true, .bool false), (3, true, .own 9 1 (a0a (cutB s 47 3))), (4, true, .int .i64 i)], a1V 9 (cutB s 47 3)⟩, fun i => i <= (cutB s 47 3).length /\ ((cutB s 47 3).take i).all a1o = true, fun i => (cutB s 47 3).length - i⟩) a n)) [] Tryz.func121 (by unfold Tryz.f121; rfl) (fun _ => ⟨(), trivial⟩) ?_
 intro (s : Str) _
 simp -implicitDefEqProofs [b1N, Con.fn, tTab, b4p, a6y]
 try dsimp only
 try simp +contextual [eStr, a0y, a0s, a0z, a0t, List.getElem?_eq_getElem, a0u, a0p, a0r, a0q, <- a0h, <- a0f, a0m, a0n, a0l, a0k, a0o, a0j, and_assoc, b8v]
 repeat' (first | intro _ | apply And.intro)
 all_goals first | omega | grind [a0B, a9d, List.take_succ_eq_append_getElem]
def leqS (a b : Str) : Bool := Go.Op.bytesLess a b || decide (a = b)
def a3C (t : List FileD) (i : Nat) : Bool := a9d (t.getD i default).path && a1d (t.getD i default).text && (decide (i = 0) || !leqS (t.getD i default).path (t.getD (i - 1) default).path)
def noIn (t : List FileD) (i : Nat) : Bool := t.all fun g => !inB (t.getD i default).path g.path
def a1Y (t : List FileD) : Bool := (List.range t.length).all (fun i => a3C t i && noIn t i) && decide (t.length <= 8)
def b3I : Con := .fn 65 (List FileD) (fun t => [.sl true 2 (a0c t)]) (fun _ => True) (fun t => .bool (a1Y t)) (fun _ => [])
def b9q (t : List FileD) : Inv := ⟨Nat, fun i => ⟨[(0, true, .sl true 2 (a0c t)), (2, true, .bool false), (3, true, .int .i64 i)], []⟩, fun i => i <= t.length /\ ∀ j, j < i -> a3C t j = true /\ noIn t j = true, fun i => t.length - i⟩
def b9p (t : List FileD) (g : Nat) : Inv := ⟨Nat, fun k => ⟨[(0, true, .sl true 2 (a0c t)), (2, true, .bool false), (3, true, .int .i64 g), (4, true, .int .i64 k)], []⟩, fun x => g < t.length /\ x <= t.length /\ (∀ j, j < g -> a3C t j = true /\ noIn t j = true) /\ a3C t g = true /\ ∀ k, k < x -> inB (t.getD g default).path (t.getD k default).path = false, fun x => t.length - x⟩
def b2m (t : List FileD) (n g : Nat) : Inv := if n = 2 then b9q t else b9p t g
theorem c1Y (t : List FileD) (g : Nat) : b2m t 2 g = b9q t := rfl
theorem c1Z (t : List FileD) (g : Nat) : b2m t 7 g = b9p t g := rfl
set_option maxRecDepth 8000
theorem b5g : Has Tryz.prog 99 b3I := by
 refine a0e mixed a0i (HasL.cons b9r (HasL.cons b5f (HasL.cons c4B (HasL.cons a7t HasL.nil)))) [0, 2, 3, 4] (fun t => b2m t) [] Tryz.func99 (by unfold Tryz.f99; rfl) (fun _ => ⟨(), trivial⟩) ?_
 intro (t : List FileD) _
 have hs : ∀ i, t.length <= i -> ¬ i < t.length := by omega
 have hE : a1Y t = true ↔ (∀ i, i < t.length -> a3C t i = true /\ noIn t i = true) /\ t.length <= 8 := by
  simp [a1Y]
 have hF : ∀ i, i < t.length -> (a3C t i && noIn t i) = false -> a1Y t = false := by
  intro i hi h
  rcases hb : a1Y t with _ | _
  ·rfl
  ·exact absurd ((hE.1 hb).1 i hi) (by simpa using h)
 have hH : ∀ i, i < t.length -> a3C t i = false -> a1Y t = false := fun i hi h => hF i hi (by simp [h])
 have hN : ∀ i k, i < t.length -> k < t.length -> inB (t.getD i default).path (t.getD k default).path = true -> a1Y t = false := by
  intro i k hi hk h
  refine hF i hi ?_
  have : noIn t i = false := by
   simp only [noIn, List.all_eq_false]
   exact ⟨t[k], List.getElem_mem hk, by simp [List.getD_eq_getElem?_getD, hk] at h ⊢; simpa [hk] using h⟩
  simp [this]
 have hI : ∀ i, (∀ k, k < t.length -> inB (t.getD i default).path (t.getD k default).path = false) -> noIn t i = true := by
  intro i h
  simp only [noIn, List.all_eq_true]
  intro g hg
  obtain ⟨k, hk, rfl⟩ := List.getElem_of_mem hg
  have := h k hk
  simpa [List.getD_eq_getElem?_getD, hk] using this
 simp -implicitDefEqProofs [b3I, Con.fn, tTab, b1N, b3H, b8o, a8N, c1Y, c1Z, b9q, b9p]
 try dsimp only
 intro i hi hj hl
 have e1 : ∀ k (h : k < t.length), Option.map a0y t[k]? = some (a0y t[k]) := by
  intro k h
  simp [List.getElem?_eq_getElem h]
 have e2 : i < t.length -> i - 1 < t.length := by omega
 constructor
 ·intro hlt
  have e3 := e1 i hlt
  have e4 := e1 (i - 1) (e2 hlt)
  simp [hlt, e2 hlt, e3, e4, a0y, eStr, D.asStr, D.asRows]
  try simp +contextual [eStr, a0y, a0s, a0z, a0t, List.getElem?_eq_getElem, a0u, a0p, a0r, a0q, <- a0h, <- a0f, a0m, a0n, a0l, a0k, a0o, a0j, and_assoc]
  repeat' (first | intro _ | apply And.intro)
  all_goals first | omega | grind [a0B, a3C, leqS]
 ·have hX : t.length <= i -> a1Y t = decide (t.length <= 8) := by
   intro h
   have : a1Y t = true ↔ t.length <= 8 := by
    rw [hE]
    exact ⟨fun h => h.2, fun h8 => ⟨fun j hj' => hj j (by omega), h8⟩⟩
   cases h' : a1Y t <;> simp_all
  try simp +contextual [eStr, a0y, a0s, a0z, a0t, List.getElem?_eq_getElem, a0u, a0p, a0r, a0q, <- a0h, <- a0f, a0m, a0n, a0l, a0k, a0o, a0j, and_assoc]
  repeat' (first | intro _ | apply And.intro)
  all_goals first | omega | grind [a0B, a3C, leqS]
def a1p (t : List FileD) : Nat := (t.map fun f => f.text.length).sum
theorem b6R (t : List FileD) (i : Nat) (h : i < t.length) : a1p (t.take (i + 1)) = a1p (t.take i) + t[i].text.length := by
 unfold a1p
 rw [List.take_succ_eq_append_getElem h, List.map_append, List.sum_append]
 rfl
theorem a5W (t : List FileD) (h : a1Y t = true) : t.length <= 8 /\ ∀ f ∈ t, f.text.length <= 64 := by
 simp only [a1Y, Bool.and_eq_true, decide_eq_true_eq, List.all_eq_true, List.mem_range, a3C] at h
 refine ⟨h.2, fun f hf => ?_⟩
 obtain ⟨i, hi, rfl⟩ := List.getElem_of_mem hf
 have := (h.1 i hi).1.1.2
 simp [List.getD_eq_getElem?_getD, hi, a1d] at this
 omega
def scal : AV -> Option Value
 | .int k n => some (.int k n)
 | .bool b => some (.bool b)
 | .str s => some (.string ⟨s.toArray⟩)
 | _ => none
theorem c5w {w m β c v x u} (h : RelL w m β c [v] [u]) (hs : scal v = some x) : u = x := by
 cases v <;> simp only [scal, Option.some.injEq, reduceCtorEq] at hs
 all_goals cases h; exact hs
theorem c2U {w m β c} : ∀ {vs : List AV} {us xs : List Value}, RelL w m β c vs us -> vs.mapM scal = some xs -> us = xs := by
 intro vs
 induction vs with
 | nil => intro us xs h hm; cases h; simp at hm; exact hm.symm
 | cons v vs ih =>
  intro us xs h hm
  obtain ⟨u, us', rfl, h1, h2⟩ := h.uncons
  rw [List.mapM_cons] at hm
  cases hv : scal v with
  | none => rw [hv] at hm; simp at hm
  | some x =>
   rw [hv] at hm
   cases hvs : vs.mapM scal with
   | none => rw [hvs] at hm; simp at hm
   | some ys =>
    rw [hvs] at hm
    simp at hm
    subst hm
    rw [c5w h1 hv, ih h2 hvs]
theorem c5q {w m β c v x} (hs : scal v = some x) (hok : ∀ s, v = .str s -> s.length <= maxLen) : RelL w m β c [v] [x] := by
 cases v <;> simp only [scal, Option.some.injEq, reduceCtorEq] at hs
 all_goals subst hs
 ·exact .int .lnil
 ·exact .bool .lnil
 ·exact .str (hok _ rfl) .lnil
theorem a6k {c : Cx} {k : Con} {x : k.A} {vs : List Value} {w β fp} (hl : vs.length = (k.args x).length) (S : SatI c (k.start2 x) ⟨vs.toArray ++ Array.replicate (k.n - vs.length) undef, []⟩ w β fp) :
  RelL w (k.start2 x).m β c (k.args x) vs := by
 have key : ∀ (i : Nat) (v : AV) (u : Value), (k.args x)[i]? = some v -> vs[i]? = some u -> RelL w (k.start2 x).m β c [v] [u] := by
  intro i v u hv hu
  have := (S.env i true v (by simp [Con.start2, hv])).2.1 rfl
  have hi : i < vs.length := (List.getElem?_eq_some_iff.1 hu).1
  have e : (vs.toArray ++ Array.replicate (k.n - vs.length) undef).getD i undef = u := by
   rw [Array.getD_eq_getD_getElem?, Array.getElem?_append_left (by simpa using hi)]
   simp [hu]
  rw [e] at this
  exact this
 clear S
 generalize k.args x = xs at hl key
 induction xs generalizing vs with
 | nil => cases vs with | nil => exact .lnil | cons => simp at hl
 | cons v xs ih =>
  cases vs with
  | nil => simp at hl
  | cons u vs =>
   exact (key 0 v u rfl rfl).append (ih (by simpa using hl) fun i v' u' h1 h2 => key (i + 1) v' u' h1 h2)
theorem b4N {P : Program} {f : Nat} {n : Nat} {A : Type} {args : A -> List AV} {pre : A -> Prop} {res : A -> AV} {rv : A -> Value}
  (henter : ∀ args w, (callFunc f args).run P w = .ok (.enter f args) w) (hres : ∀ a, scal (res a) = some (rv a)) (hstr : ∀ a s, pre a -> res a = .str s -> s.length <= maxLen)
  (h : ∀ a vs w, pre a -> (args a).mapM scal = some vs -> Calls P f vs.toArray w fun e w' => e = .returned (rv a) /\ w' = w) (hsc : ∀ a, ∃ vs, (args a).mapM scal = some vs) :
  Has P f (.fn n A args pre res (fun _ => [])) := by
 refine ⟨henter, fun _ => ⟨(), trivial⟩, fun _ _ => rfl, ?_, trivial, .inl rfl⟩
 intro a hp c _ vs β fp hcn hpins hl1 hl2 S
 obtain ⟨us, hus⟩ := hsc a
 have hvs : vs = us := c2U (a6k hl1 S) hus
 subst hvs
 refine (h a vs c.w0 hp hus).mono ?_
 rintro e w' ⟨rfl, rfl⟩
 refine ⟨(), trivial, rv a, rfl, β, fp, ⟨Array.replicate c.n undef, []⟩, ⟨?_, ?_, ?_, ?_, ?_, S.fg, S.old, S.os, S.tape, S.output, S.size, rfl, by simp, ?_⟩, ?_⟩
 ·intro t g av ht; cases ht
 ·intro h blk hm; cases hm
 ·intro h blk hm; cases hm
 ·intro h h' blk blk' hm; cases hm
 ·intro h blk hm; cases hm
 ·rw [hpins]; intro p hp; simp [Con.pins2] at hp
 ·exact c5q (hres a) (fun s hs => hstr a s hp hs)
set_option maxHeartbeats 1000000 in
set_option maxRecDepth 100000 in
theorem b2i (s : ByteArray) (c : Int) (w : World) :
  Calls Tryz.prog 205 #[.string s, .int .u8 c] w fun e w' => e = .returned (.int .i64 (Lib.indexByte s.data.toList c.toNat.toUInt8)) /\ w' = w := by
 go_enter Tryz.func205, Tryz.ntmps205
 go_wp2
 rw [run_callFunc_extern Tryz.func226 (by kernel_rfl) (by kernel_rfl) (by kernel_rfl) (e := Extern.BytealgIndexByte.indexByte) (by kernel_rfl), Lib.run_indexByteString]
 simp only [Result.andThen]
 rw [Oper.upon_value]
 go_wp2
 go_ret
 exact ⟨rfl, rfl⟩
set_option maxHeartbeats 2000000 in
set_option maxRecDepth 100000 in
theorem b3o (s : ByteArray) (c : UInt8) (w : World) :
  Calls Tryz.prog 190 #[.string s, .string ⟨#[c]⟩] w fun e w' => e = .returned (.int .i64 (Lib.indexByte s.data.toList c)) /\ w' = w := by
 go_enter Tryz.func190, Tryz.ntmps190
 go_wp2_with (go_at_call 205; refine (b2i _ _ _).mono ?_; rintro e w' ⟨rfl, rfl⟩)
 ·have h : ([c] == s.toList) = true := by assumption
  go_ret
  refine ⟨?_, rfl⟩
  have e : s.data.toList = [c] := by rw [<- Lib.toList_data]; exact (beq_iff_eq.1 h).symm
  rw [e]
  simp [Lib.indexByte]
 ·go_ret
  exact ⟨rfl, rfl⟩
set_option maxHeartbeats 2000000 in
set_option maxRecDepth 100000 in
theorem a7E (s : ByteArray) (c : UInt8) (w : World) :
  Calls Tryz.prog 169 #[.string s, .string ⟨#[c]⟩] w fun e w' => e = .returned (.int .i64 (Lib.indexByte s.data.toList c)) /\ w' = w := by
 go_enter Tryz.func169, Tryz.ntmps169
 go_wp2_with (go_at_call 190; refine (b3o _ _ _).mono ?_; rintro e w' ⟨rfl, rfl⟩)
 go_ret
 exact ⟨rfl, rfl⟩
set_option maxHeartbeats 1000000 in
set_option maxRecDepth 100000 in
theorem b3i (s : ByteArray) (c : UInt8) (w : World) :
  Calls Tryz.prog 204 #[.string s, .string ⟨#[c]⟩] w fun e w' => e = .returned (.int .i64 (Lib.countByte s.data.toList c)) /\ w' = w := by
 go_enter Tryz.func204, Tryz.ntmps204
 go_wp2
 rw [run_callFunc_extern Tryz.func225 (by kernel_rfl) (by kernel_rfl) (by kernel_rfl) (e := Extern.BytealgCount.count) (by kernel_rfl), Lib.run_countString]
 simp only [Result.andThen]
 rw [Oper.upon_value]
 go_wp2
 go_ret
 exact ⟨rfl, rfl⟩
def idxB : Str -> UInt8 -> Int
 | [], _ => -1
 | b :: l, c => if b = c then 0 else if idxB l c < 0 then -1 else idxB l c + 1
theorem c4n (s : Str) (c : UInt8) : Lib.indexByte s c = idxB s c := by
 induction s with
 | nil => rfl
 | cons b l ih =>
  have hge := Lib.indexByte_ge l c
  simp only [Lib.indexByte, idxB, ih] at hge ⊢
  by_cases hb : b = c
  ·simp [hb]
  ·simp only [beq_iff_eq, hb, if_false]
   by_cases h : idxB l c < 0
   ·rw [if_pos h, if_pos (by omega)]
   ·rw [if_neg h, if_neg (by omega)]
def a7M : Con := .fn 8 (Str × UInt8) (fun a => [.str a.1, .str [a.2]]) (fun _ => True) (fun a => .int .i64 (idxB a.1 a.2)) (fun _ => [])
theorem b0l : Has Tryz.prog 169 a7M :=
 b4N (rv := fun a => .int .i64 (idxB a.1 a.2)) (fun args w => Go.MuLone.run_callFunc_enter Tryz.func169 (by kernel_rfl) rfl args w) (fun _ => rfl) (fun a s _ h => by cases h)
  (fun a vs w _ hv => by
   obtain ⟨s, c⟩ := a
   simp [scal] at hv
   subst hv
   have := a7E ⟨s.toArray⟩ c w
   simpa [c4n] using this) (fun a => ⟨_, rfl⟩)
def a7L : Con := .fn 34 (Str × UInt8) (fun a => [.str a.1, .str [a.2]]) (fun _ => True) (fun a => .int .i64 (a.1.count a.2)) (fun _ => [])
theorem b0k : Has Tryz.prog 204 a7L :=
 b4N (rv := fun a => .int .i64 (a.1.count a.2)) (fun args w => Go.MuLone.run_callFunc_enter Tryz.func204 (by kernel_rfl) rfl args w) (fun _ => rfl) (fun a s _ h => by cases h)
  (fun a vs w _ hv => by
   obtain ⟨s, c⟩ := a
   simp [scal] at hv
   subst hv
   have := b3i ⟨s.toArray⟩ c w
   simpa [Lib.countByte] using this) (fun a => ⟨_, rfl⟩)
def spl (c : UInt8) : Str -> Str -> List Str
 | [], p => [p]
 | x :: r, p => if x = c then p :: spl c r [] else spl c r (p ++ [x])
theorem c6P (s : Str) (c : UInt8) : idxB s c < s.length := by
 induction s with
 | nil => simp [idxB]
 | cons b l ih =>
  simp only [idxB, List.length_cons]
  split
  ·omega
  ·split <;> omega
theorem c5B {c : UInt8} : ∀ {s p : Str}, idxB s c < 0 -> spl c s p = [p ++ s] /\ s.count c = 0 := by
 intro s
 induction s with
 | nil => intro p _; simp [spl]
 | cons b l ih =>
  intro p h
  simp only [idxB] at h
  split at h
  ·omega
  ·rename_i hb
   split at h
   ·rename_i hl
    have := ih (p := p ++ [b]) hl
    simp only [spl, if_neg hb]
    refine ⟨by rw [this.1]; simp, ?_⟩
    rw [List.count_cons, this.2]
    simp [hb]
   ·omega
theorem b5M {c : UInt8} : ∀ {s p : Str}, 0 <= idxB s c -> spl c s p = (p ++ s.take (idxB s c).toNat) :: spl c (s.drop ((idxB s c).toNat + 1)) [] /\ s.count c = (s.drop ((idxB s c).toNat + 1)).count c + 1 := by
 intro s
 induction s with
 | nil => intro p h; simp [idxB] at h
 | cons b l ih =>
  intro p h
  by_cases hb : b = c
  ·subst hb
   simp [idxB, spl]
  ·simp only [idxB, if_neg hb] at h ⊢
   split at h
   ·omega
   ·rename_i hl
    rw [if_neg hl]
    obtain ⟨h1, h2⟩ := ih (p := p ++ [b]) (by omega)
    have e : (idxB l c + 1).toNat = (idxB l c).toNat + 1 := by omega
    rw [e]
    simp only [spl, if_neg hb, List.take_succ_cons, List.drop_succ_cons]
    refine ⟨by rw [h1]; simp, ?_⟩
    rw [List.count_cons, h2]
    simp [hb]
theorem c7G (c : UInt8) : ∀ (s p : Str), (spl c s p).length = s.count c + 1 := by
 intro s
 induction s with
 | nil => intro p; simp [spl]
 | cons b l ih =>
  intro p
  simp only [spl]
  split
  ·rename_i h
   subst h
   simp [ih]
  ·rename_i h
   rw [ih, List.count_cons]
   simp [h]
theorem c7E {α : Type} (d : List α) (k : Nat) (z x : α) (h : 0 < k) : (d ++ List.replicate k z).set d.length x = (d ++ [x]) ++ List.replicate (k - 1) z := by
 obtain ⟨k, rfl⟩ : ∃ j, k = j + 1 := ⟨k - 1, by omega⟩
 rw [List.set_append_right _ _ (Nat.le_refl _)]
 simp [List.replicate_succ]
def a8a : Con := .fn 66 (Str × UInt8) (fun a => [.str a.1, .str [a.2], .int .i64 0, .int .i64 (-1)]) (fun a => a.1.length <= 1073741824) (fun a => .sl false 1 (a0a (spl a.2 a.1 []))) (fun _ => [])
def a3c (N : Nat) (d : List Str) : List Str := d ++ List.replicate (N - d.length) []
theorem c1p (N : Nat) (d : List Str) (h : d.length <= N) : (a3c N d).length = N := by simp [a3c]; omega
theorem a8h (N : Nat) (d : List Str) (x : Str) (h : d.length < N) : (a3c N d).set d.length x = a3c N (d ++ [x]) := by
 unfold a3c
 rw [c7E _ _ _ _ (by omega)]
 simp only [List.length_append, List.length_cons, List.length_nil]
 congr 2
theorem b2F (N : Nat) : a3c N [] = List.replicate N [] := by simp [a3c]
set_option maxRecDepth 8000
theorem b4L : Has Tryz.prog 187 a8a := by
 refine a0e mixed a0i (HasL.cons b0k (HasL.cons b0l HasL.nil)) [0, 1, 2, 3, 8, 9, 10, 11] ((fun a n (_ : Nat) => (fun a _ => ⟨List Str × Str, fun t => ⟨[(0, true, .str t.2), (1, true, .str [a.2]), (2, true, .int .i64 0), (3, true, .int .i64 (a.1.count a.2)), (8, true, .nil), (9, true, .own 9 1 (a0a (a3c (a.1.count a.2 + 1) t.1))), (10, true, .int .i64 t.1.length)], a1V 9 (a3c (a.1.count a.2 + 1) t.1)⟩, fun t => t.1.length + t.2.count a.2 = a.1.count a.2 /\ t.2.length <= a.1.length /\ t.1 ++ spl a.2 t.2 [] = spl a.2 a.1 [], fun t => a.1.count a.2 - t.1.length⟩) a n)) [] Tryz.func187 (by unfold Tryz.f187; rfl) (fun _ => ⟨(), trivial⟩) ?_
 intro a ha
 obtain ⟨s, c⟩ := a
 replace ha : s.length <= 1073741824 := ha
 have hc : s.count c <= s.length := List.count_le_length
 simp -implicitDefEqProofs [a8a, a7L, a7M, Con.fn, tTab]
 try dsimp only
 have hif : ¬ s.length < s.count c := by omega
 have hr : (List.replicate ((s.count c : Int) + 1).toNat [D.str []]) = a0a (a3c (s.count c + 1) []) := by
  rw [show ((s.count c : Int) + 1).toNat = s.count c + 1 by omega, b2F, a0r]
 have K1 : ∀ (a : List Str) (b : Str), a.length + b.count c = s.count c -> a.length < (a3c (s.count c + 1) a).length := fun a b h => by rw [c1p _ _ (by omega)]; omega
 have K2 : ∀ (a : List Str) (b : Str), a.length + b.count c = s.count c -> a ++ spl c b [] = spl c s [] -> (idxB b c < 0 \/ s.count c <= a.length) -> spl c s [] = ((a3c (s.count c + 1) a).set a.length b).take (a.length + 1) := by
  intro a b h1 h2 h3
  have h4 : idxB b c < 0 := by
   rcases h3 with h | h
   ·exact h
   ·refine Classical.byContradiction fun hn => ?_
    have := (b5M (p := []) (Int.not_lt.1 hn)).2
    omega
  have h5 := c5B (p := []) h4
  rw [<- h2, h5.1, a8h _ _ _ (by omega)]
  unfold a3c
  rw [List.take_left' (by simp)]
  rfl
 have K3 : ∀ (b : Str), idxB b c < b.length := fun b => c6P b c
 have K4 : ∀ (a : List Str) (b : Str), a.length + b.count c = s.count c -> b.length <= s.length -> a ++ spl c b [] = spl c s [] -> 0 <= idxB b c ->
   ∃ x, a3c (s.count c + 1) x = (a3c (s.count c + 1) a).set a.length (b.take (idxB b c).toNat) /\ x.length = a.length + 1 /\ (a3c (s.count c + 1) a).set a.length (b.take (idxB b c).toNat) = a3c (s.count c + 1) x /\
    x.length + ((b.drop (idxB b c + 1).toNat).take (b.length - (idxB b c + 1).toNat)).count c = s.count c /\ b.length <= s.length + (idxB b c + 1).toNat /\
    x ++ spl c ((b.drop (idxB b c + 1).toNat).take (b.length - (idxB b c + 1).toNat)) [] = spl c s [] /\ s.count c - x.length < s.count c - a.length := by
  intro a b h1 h2 h3 h4
  obtain ⟨h5, h6⟩ := b5M (p := []) h4
  have e1 : (idxB b c + 1).toNat = (idxB b c).toNat + 1 := by omega
  have e2 : (b.drop (idxB b c + 1).toNat).take (b.length - (idxB b c + 1).toNat) = b.drop ((idxB b c).toNat + 1) := by
   rw [e1]; exact List.take_of_length_le (by simp)
  rw [e2]
  refine ⟨a ++ [b.take (idxB b c).toNat], (a8h _ _ _ (by omega)).symm, by simp, a8h _ _ _ (by omega), by simp; omega, by omega, ?_, by simp; omega⟩
  rw [<- h3, h5]
  simp
 simp +contextual [eStr, a0y, a0s, a0z, a0t, List.getElem?_eq_getElem, a0u, a0p, a0r, a0q, <- a0h, <- a0f, a0m, a0n, a0l, a0k, a0o, a0j, and_assoc, hif, hr]
 repeat' (first | intro _ | apply And.intro)
 all_goals first | omega | grind [b2F] | exact K4 _ _ (by omega) (by omega) (by assumption) (by omega)
def b4v : Con := .fn 8 (Str × UInt8) (fun a => [.str a.1, .str [a.2]]) (fun a => a.1.length <= 1073741824) (fun a => .sl false 1 (a0a (spl a.2 a.1 []))) (fun _ => [])
theorem c3a : Has Tryz.prog 158 b4v := by
 refine a0e mixed a0i (HasL.cons b4L HasL.nil) [0, 1, 4] ((fun a n (_ : Nat) => (fun _ => a0L) a n)) [] Tryz.func158 (by unfold Tryz.f158; rfl) (fun _ => ⟨(), trivial⟩) ?_
 intro a ha
 obtain ⟨s, c⟩ := a
 replace ha : s.length <= 1073741824 := ha
 simp -implicitDefEqProofs [b4v, Con.fn, tTab, a8a]
 try dsimp only
 try simp +contextual [eStr, a0y, a0s, a0z, a0t, List.getElem?_eq_getElem, a0u, a0p, a0r, a0q, <- a0h, <- a0f, a0m, a0n, a0l, a0k, a0o, a0j, and_assoc]
 repeat' (first | intro _ | apply And.intro)
 all_goals first | omega | grind [a0B]
def a4U (s : Str) : Bool := decide ((spl 47 s []).length <= 3) && (spl 47 s []).all a1o
def a8S : Con := .fn 21 Str (fun s => [.str s]) (fun s => s.length <= 1073741824) (fun s => .bool (a4U s)) (fun _ => [])
theorem b1m : Has Tryz.prog 116 a8S := by
 refine a0e mixed a0i (HasL.cons c3a (HasL.cons a5r HasL.nil)) [0, 2, 3, 5, 11, 12, 13] ((fun a n (_ : Nat) => (fun s _ => ⟨Nat, fun i => ⟨[(2, true, .bool false), (11, true, .sl false 1 (a0a (spl 47 s []))), (12, true, .int .i64 (spl 47 s []).length), (13, true, .int .i64 i)], []⟩, fun i => i <= (spl 47 s []).length /\ (spl 47 s []).length <= 3 /\ ((spl 47 s []).take i).all a1o = true, fun i => (spl 47 s []).length - i⟩) a n)) [] Tryz.func116 (by unfold Tryz.f116; rfl) (fun _ => ⟨(), trivial⟩) ?_
 intro (s : Str) hs
 replace hs : s.length <= 1073741824 := hs
 simp -implicitDefEqProofs [a8S, Con.fn, tTab, b4v, a5x]
 try dsimp only
 try simp +contextual [eStr, a0y, a0s, a0z, a0t, List.getElem?_eq_getElem, a0u, a0p, a0r, a0q, <- a0h, <- a0f, a0m, a0n, a0l, a0k, a0o, a0j, and_assoc]
 repeat' (first | intro _ | apply And.intro)
 all_goals first | omega | grind [a0B, a4U, List.take_succ_eq_append_getElem]
set_option maxRecDepth 8000
def a4k (d p : Str) : Bool := a4U d && a4U p && a5t (d ++ [47]) p
def b1W : Con := .fn 17 (Str × Str) (fun a => [.str a.1, .str a.2]) (fun a => a.1.length <= 536870912 /\ a.2.length <= 536870912) (fun a => .bool (a4k a.1 a.2)) (fun _ => [])
theorem b9N : Has Tryz.prog 117 b1W := by
 refine a0e mixed a0i (HasL.cons b1m (HasL.cons b3l HasL.nil)) [0, 1, 4] ((fun a n (_ : Nat) => (fun _ => a0L) a n)) [] Tryz.func117 (by unfold Tryz.f117; rfl) (fun _ => ⟨(), trivial⟩) ?_
 intro a ha
 obtain ⟨d, p⟩ := a
 obtain ⟨h1, h2⟩ : d.length <= 536870912 /\ p.length <= 536870912 := ha
 simp -implicitDefEqProofs [b1W, Con.fn, tTab, a8S, a7e]
 try dsimp only
 try simp +contextual [eStr, a0y, a0s, a0z, a0t, List.getElem?_eq_getElem, a0u, a0p, a0r, a0q, <- a0h, <- a0f, a0m, a0n, a0l, a0k, a0o, a0j, and_assoc]
 repeat' (first | intro _ | apply And.intro)
 all_goals first | omega | grind [a0B, a4k, maxLen]
def a3d (t : List FileD) (i : Nat) : Bool := a1d (t.getD i default).text && a4U (t.getD i default).path && (decide (i = 0) || Go.Op.bytesLess (t.getD (i - 1) default).path (t.getD i default).path)
def noUp (t : List FileD) (i : Nat) : Bool := (List.range i).all fun k => !a4k (t.getD k default).path (t.getD i default).path
def a0I (t : List FileD) : Bool := decide (t.length <= 8) && (List.range t.length).all fun i => a3d t i && noUp t i
def a6A : Con := .fn 57 (List FileD) (fun t => [.sl true 2 (a0c t)]) (fun t => ∀ f ∈ t, f.path.length <= 536870912) (fun t => .bool (a0I t)) (fun _ => [])
def tiO (t : List FileD) : Inv := ⟨Nat, fun i => ⟨[(0, true, .sl true 2 (a0c t)), (2, true, .bool false), (10, true, .sl true 2 (a0c t)), (11, true, .int .i64 t.length), (12, true, .int .i64 i)], []⟩, fun i => i <= t.length /\ t.length <= 8 /\ ∀ j, j < i -> a3d t j = true /\ noUp t j = true, fun i => t.length - i⟩
def tiI (t : List FileD) (g : Nat) : Inv := ⟨Nat, fun k => ⟨[(0, true, .sl true 2 (a0c t)), (2, true, .bool false), (3, true, .int .i64 g), (4, true, .ptr 10 0), (10, true, .sl true 2 (a0c t)), (11, true, .int .i64 t.length), (12, true, .int .i64 g), (44, true, .sl true 2 (a0c (t.take g))), (45, true, .int .i64 g), (46, true, .int .i64 k)],
  [(10, .box 66 [.str (t.getD g default).path, .sl true 1 (a0a (t.getD g default).text)])]⟩, fun x => g < t.length /\ x <= g /\ t.length <= 8 /\ (∀ j, j < g -> a3d t j = true /\ noUp t j = true) /\ a3d t g = true /\ ∀ k, k < x -> a4k (t.getD k default).path (t.getD g default).path = false, fun x => g - x⟩
def c0m (t : List FileD) (n g : Nat) : Inv := if n = 4 then tiO t else tiI t g
theorem c7U (t : List FileD) (g : Nat) : c0m t 4 g = tiO t := rfl
theorem c7V (t : List FileD) (g : Nat) : c0m t 9 g = tiI t g := rfl
theorem a7H : Has Tryz.prog 74 a6A := by
 refine a0e mixed a0i (HasL.cons a7G (HasL.cons b1m (HasL.cons b9N HasL.nil))) [0, 2, 3, 4, 6, 10, 11, 12, 44, 45, 46] (fun t => c0m t) [] Tryz.func74 (by unfold Tryz.f74; rfl) (fun _ => ⟨(), trivial⟩) ?_
 intro (t : List FileD) ht
 replace ht : ∀ f ∈ t, f.path.length <= 536870912 := ht
 have hp : ∀ i (h : i < t.length), (t[i]).path.length <= 536870912 := fun i h => ht _ (List.getElem_mem h)
 simp -implicitDefEqProofs [a6A, Con.fn, tTab, a6z, a8S, b1W, c7U, c7V, tiO, tiI]
 try dsimp only
 have hE : a0I t = true ↔ t.length <= 8 /\ ∀ i, i < t.length -> a3d t i = true /\ noUp t i = true := by
  simp [a0I]
 have hF : ∀ i, i < t.length -> (a3d t i && noUp t i) = false -> a0I t = false := by
  intro i hi h
  rcases hb : a0I t with _ | _
  ·rfl
  ·exact absurd ((hE.1 hb).2 i hi) (by simpa using h)
 have hH : ∀ i, i < t.length -> a3d t i = false -> a0I t = false := fun i hi h => hF i hi (by simp [h])
 have hN : ∀ i k, i < t.length -> k < i -> a4k (t.getD k default).path (t.getD i default).path = true -> a0I t = false := by
  intro i k hi hk h
  refine hF i hi ?_
  have : noUp t i = false := by
   simp only [noUp, List.all_eq_false]
   exact ⟨k, List.mem_range.2 hk, by simpa using h⟩
  simp [this]
 have hI : ∀ i, (∀ k, k < i -> a4k (t.getD k default).path (t.getD i default).path = false) -> noUp t i = true := by
  intro i h
  simp only [noUp, List.all_eq_true, List.mem_range]
  intro k hk
  simp only [h k hk, Bool.not_false]
 have hB : 8 < t.length -> a0I t = false := by
  intro h
  rcases hb : a0I t with _ | _
  ·rfl
  ·exact absurd (hE.1 hb).1 (by omega)
 have e1 : ∀ k (h : k < t.length), Option.map a0y t[k]? = some (a0y t[k]) := fun k h => by simp [List.getElem?_eq_getElem h]
 have e2 : ∀ i, i < t.length -> i - 1 < t.length := fun i h => by omega
 have e4 : ∀ i k (h : k < i) (h2 : i < t.length), Option.map a0y (List.take i t)[k]? = some (a0y t[k]) := fun i k h h2 => by
  rw [List.getElem?_take, if_pos h]; exact e1 k (by omega)
 have hg : ∀ i (h : i < t.length), t.getD i default = t[i] := fun i h => by simp [List.getD_eq_getElem?_getD, h]
 intro _
 refine ⟨fun h => hB (by omega), fun h8 _ => ⟨by omega, fun i hi h8' hprev => ⟨fun hlt => ?_, fun hge => ?_⟩⟩⟩
 ·have e3 := e1 i hlt
  have e3' := e1 (i - 1) (e2 i hlt)
  have hpi := hp i hlt
  have hgi := hg i hlt
  have hgi' := hg (i - 1) (e2 i hlt)
  have hh : a3d t i = (a1d t[i].text && a4U t[i].path && (decide (i = 0) || Go.Op.bytesLess t[i - 1].path t[i].path)) := by simp only [a3d, hgi, hgi']
  have hm : min i t.length = i := by omega
  have hgg : t[i]?.getD default = t[i] := by simpa [List.getD_eq_getElem?_getD] using hgi
  simp [hlt, e2 i hlt, e3, e3', a0y, eStr, D.asStr, D.asRows, hm, a0z, and_assoc, hgg]
  try simp +contextual [eStr, a0y, a0s, a0z, a0t, List.getElem?_eq_getElem, a0u, a0p, a0r, a0q, <- a0h, <- a0f, a0m, a0n, a0l, a0k, a0o, a0j, and_assoc, e4, hgg, hm, hlt, D.asStr, D.asRows, c3V]
  repeat' (first | intro _ | apply And.intro)
  all_goals first | omega | grind
 ·have hT : a0I t = true := hE.2 ⟨h8', fun j hj => hprev j (by omega)⟩
  simp [hT]
  repeat' (first | intro _ | apply And.intro)
  all_goals first | omega | grind
theorem b0m (t : List FileD) (h : a0I t = true) : t.length <= 8 /\ ∀ f ∈ t, f.text.length <= 64 := by
 simp only [a0I, Bool.and_eq_true, decide_eq_true_eq, List.all_eq_true, List.mem_range, a3d] at h
 refine ⟨h.1, fun f hf => ?_⟩
 obtain ⟨i, hi, rfl⟩ := List.getElem_of_mem hf
 have := (h.2 i hi).1.1.1
 simp [List.getD_eq_getElem?_getD, hi, a1d] at this
 omega
theorem a4j : ∀ (x y : Str), Go.Op.bytesLess x y = decide (x < y)
 | [], [] => by simp [Go.Op.bytesLess]
 | _ :: _, [] => by simp [Go.Op.bytesLess]
 | [], _ :: _ => by simp [Go.Op.bytesLess]
 | a :: x, b :: y => by
  rw [Go.Op.bytesLess, a4j x y]
  simp only [List.cons_lt_cons_iff]
  by_cases h1 : a < b <;> by_cases h2 : a = b <;> by_cases h3 : x < y <;> simp [h1, h2, h3]
theorem a4C (a : Str) : ¬ a < a := List.lt_irrefl a
theorem a8z {a b c : Str} (h : a < b) (h' : b < c) : a < c := List.lt_trans h h'
theorem a8y (a b : Str) (h : ¬ a < b) (hne : a ≠ b) : b < a := by
 have h1 : b <= a := List.not_lt.1 h
 exact Classical.byContradiction fun h2 => hne (List.le_antisymm (List.not_lt.1 h2) h1)
theorem a8x {a b : Str} (h : a < b) : ¬ b < a := fun h' => a4C a (a8z h h')
theorem b5j (a b : Str) : leqS a b = !decide (b < a) := by
 unfold leqS
 rw [a4j]
 by_cases h : a < b
 ·simp [h, a8x h]
 ·by_cases e : a = b
  ·subst e; simp [a4C]
  ·simp [h, e, a8y a b h e]
theorem c6F {b : UInt8} {most : Nat} : ∀ {r c : Str} {n : Nat}, n + r.count b <= most -> cutL (b.toNat : Int) most r c n = spl b r c := by
 intro r
 induction r with
 | nil => intro c n _; rfl
 | cons x r ih =>
  intro c n h
  have hx : ((x.toNat : Int) = (b.toNat : Int)) = (x = b) := by
   apply propext
   constructor
   ·intro h; exact UInt8.toNat_inj.1 (by omega)
   ·rintro rfl; rfl
  by_cases hb : x = b
  ·subst hb
   rw [List.count_cons_self] at h
   simp only [cutL, spl, if_true, show n < most by omega]
   rw [ih (by omega)]
  ·rw [List.count_cons_of_ne hb] at h
   simp only [cutL, spl, hx, hb, if_false]
   split
   ·exact ih h
   ·have h0 : r.count b = 0 := by omega
    have : ∀ (q p : Str), q.count b = 0 -> spl b q p = [p ++ q] := by
     intro q
     induction q with
     | nil => intro p _; simp [spl]
     | cons y q ih2 =>
      intro p hq
      have hy : y ≠ b := by rintro rfl; simp at hq
      rw [List.count_cons_of_ne hy] at hq
      simp only [spl, hy, if_false]
      rw [ih2 _ hq]; simp
    rw [this r _ h0]; simp
theorem c6E {b : UInt8} {most : Nat} : ∀ {r c : Str} {n : Nat}, n <= most -> most < n + r.count b -> (cutL (b.toNat : Int) most r c n).length = most - n + 1 := by
 intro r
 induction r with
 | nil => intro c n h1 h2; simp at h2; omega
 | cons x r ih =>
  intro c n h1 h2
  have hx : ((x.toNat : Int) = (b.toNat : Int)) = (x = b) := by
   apply propext
   constructor
   ·intro h; exact UInt8.toNat_inj.1 (by omega)
   ·rintro rfl; rfl
  simp only [cutL, hx]
  split
  ·split
   ·rename_i hb
    subst hb
    rw [List.count_cons_self] at h2
    rw [List.length_cons, ih (by omega) (by omega)]
    omega
   ·rename_i hb
    rw [List.count_cons_of_ne hb] at h2
    rw [ih h1 h2]
  ·simp; omega
theorem c7o (s : Str) : a4U s = a9d s := by
 unfold a4U a9d
 by_cases h : s.count 47 <= 3
 ·have : cutB s 47 3 = spl 47 s [] := c6F (b := 47) (most := 3) (by omega)
  rw [this, Bool.and_comm]
 ·have h1 : (cutB s 47 3).length = 4 := c6E (b := 47) (most := 3) (r := s) (c := []) (n := 0) (by omega) (by omega)
  have h2 := c7G 47 s []
  simp [h1, h2, h]
  omega
theorem b7z (d p : Str) : inB d p = a5t (d ++ [47]) p := by
 unfold inB a5t
 by_cases h : d.length < p.length
 ·have e : p.take (d.length + 1) = p.take d.length ++ [p[d.length]] := List.take_succ_eq_append_getElem h
  simp only [List.length_append, List.length_cons, List.length_nil, Nat.zero_add, e, h, show d.length + 1 <= p.length by omega, decide_true, Bool.true_and]
  have hg : p.getD d.length 0 = p[d.length] := getD_nat _ _ h
  rw [hg, Bool.eq_iff_iff]
  simp only [Bool.and_eq_true, decide_eq_true_eq]
  constructor
  ·rintro ⟨h1, h2⟩; rw [h1, h2]
  ·intro h1
   have := List.append_inj h1 (by simp; omega)
   exact ⟨this.1, by simpa using this.2⟩
 ·simp [h]
  omega
theorem c7q {d p : Str} (h : a5t (d ++ [47]) p = true) : d < p := by
 unfold a5t at h
 simp only [Bool.and_eq_true, decide_eq_true_eq, List.length_append, List.length_cons, List.length_nil, Nat.zero_add] at h
 have e : p = d ++ (47 :: p.drop (d.length + 1)) := by
  have := List.take_append_drop (d.length + 1) p
  rw [h.2] at this
  simpa using this.symm
 rw [e]
 generalize p.drop (d.length + 1) = q
 clear h e
 induction d with
 | nil => exact List.nil_lt_cons _ _
 | cons x d ih => exact List.cons_lt_cons_iff.2 (.inr ⟨rfl, ih⟩)
theorem a4N (t : List FileD) : a0I t = a1Y t := by
 have hasc : (∀ i, i < t.length -> a3d t i = true) -> ∀ i k, i < k -> k < t.length -> (t.getD i default).path < (t.getD k default).path := by
  intro h i k hik hk
  induction k with
  | zero => omega
  | succ k ih =>
   have h1 := h (k + 1) hk
   simp only [a3d, Bool.and_eq_true, Bool.or_eq_true, decide_eq_true_eq, a4j, Nat.add_sub_cancel] at h1
   have h2 : (t.getD k default).path < (t.getD (k + 1) default).path := by
    rcases h1.2 with h2 | h2
    ·omega
    ·exact h2
   rcases Nat.lt_or_ge i k with h3 | h3
   ·exact a8z (ih h3 (by omega)) h2
   ·have : i = k := by omega
    subst this; exact h2
 have hhead : ∀ i, a3C t i = a3d t i := by
  intro i
  simp only [a3C, a3d, c7o, b5j, a4j, Bool.not_not]
  rw [Bool.and_comm (a9d _)]
 rw [Bool.eq_iff_iff]
 simp only [a0I, a1Y, Bool.and_eq_true, decide_eq_true_eq, List.all_eq_true, List.mem_range, hhead]
 constructor
 ·rintro ⟨h8, h⟩
  refine ⟨fun i hi => ⟨(h i hi).1, ?_⟩, h8⟩
  simp only [noIn, List.all_eq_true, Bool.not_eq_true']
  intro g hg
  obtain ⟨k, hk, rfl⟩ := List.getElem_of_mem hg
  rw [show t[k] = t.getD k default by simp [List.getD_eq_getElem?_getD, hk], b7z]
  cases hp : a5t ((t.getD i default).path ++ [47]) (t.getD k default).path with
  | false => rfl
  | true =>
   exfalso
   have hlt := c7q hp
   have hik : i < k := by
    rcases Nat.lt_trichotomy i k with h1 | h1 | h1
    ·exact h1
    ·subst h1; exact absurd hlt (a4C _)
    ·exact absurd hlt (a8x (hasc (fun i hi => (h i hi).1) k i h1 hi))
   have h2 := (h k hk).2
   simp only [noUp, List.all_eq_true, List.mem_range, Bool.not_eq_true'] at h2
   have h3 := h2 i hik
   have p1 := (h i hi).1
   have p2 := (h k hk).1
   simp only [a3d, Bool.and_eq_true] at p1 p2
   simp only [a4k, p1.1.2, p2.1.2, hp, Bool.and_self, reduceCtorEq] at h3
 ·rintro ⟨h, h8⟩
  refine ⟨h8, fun i hi => ⟨(h i hi).1, ?_⟩⟩
  simp only [noUp, List.all_eq_true, List.mem_range, Bool.not_eq_true']
  intro k hk
  have h2 := (h k (by omega)).2
  simp only [noIn, List.all_eq_true, Bool.not_eq_true'] at h2
  have h3 := h2 _ (List.getElem_mem hi)
  rw [show t[i] = t.getD i default by simp [List.getD_eq_getElem?_getD, hi], b7z] at h3
  simp only [a4k, h3, Bool.and_false]

theorem c8I : ∀ {a : List Str} {l : Int}, 0 <= szL a l -> ∀ s ∈ a, (s.length : Int) <= l := by
 intro a
 induction a with
 | nil => intro l _ s hs; cases hs
 | cons x r ih =>
  intro l h s hs
  simp only [szL] at h
  split at h
  ·omega
  ·rcases List.mem_cons.1 hs with rfl | hs
   ·have := c3j (a := r) (l := l - s.length) (by omega); omega
   ·have := ih h s hs; omega
theorem b3d {a : List Str} {l : Int} (h : 0 <= a3D a l) : (a.length : Int) <= l /\ ∀ s ∈ a, (s.length : Int) <= l := by
 unfold a3D at h
 split at h
 ·omega
 ·refine ⟨by omega, fun s hs => ?_⟩
  have := c8I h s hs; omega
theorem c8H {f : FileD} {l : Int} (h : 0 <= szF f l) : (f.path.length : Int) <= l /\ (f.text.length : Int) <= l /\ ∀ s ∈ f.text, (s.length : Int) <= l := by
 unfold szF at h
 split at h
 ·omega
 ·split at h
  ·omega
  ·obtain ⟨h1, h2⟩ := b3d h
   refine ⟨by omega, by omega, fun s hs => ?_⟩
   have := h2 s hs; omega
theorem c7M : ∀ {a : List FileD} {l : Int}, 0 <= l -> 0 <= szFL a l -> ∀ f ∈ a, (f.path.length : Int) <= l /\ (f.text.length : Int) <= l /\ ∀ s ∈ f.text, (s.length : Int) <= l := by
 intro a
 induction a with
 | nil => intro l _ _ f hf; cases hf
 | cons x r ih =>
  intro l hl h f hf
  simp only [szFL] at h
  split at h
  ·omega
  ·rename_i h0
   rcases List.mem_cons.1 hf with rfl | hf
   ·exact c8H (by omega)
   ·have hle := b5T (f := x) hl
    obtain ⟨h1, h2, h3⟩ := ih (by omega) h f hf
    refine ⟨by omega, by omega, fun s hs => ?_⟩
    have := h3 s hs; omega
theorem c0f {a : List FileD} {l : Int} (h : 0 <= a2U a l) : (a.length : Int) <= l /\ ∀ f ∈ a, (f.path.length : Int) <= l /\ (f.text.length : Int) <= l /\ ∀ s ∈ f.text, (s.length : Int) <= l := by
 unfold a2U at h
 split at h
 ·omega
 ·refine ⟨by omega, fun f hf => ?_⟩
  obtain ⟨h1, h2, h3⟩ := c7M (by omega) h f hf
  refine ⟨by omega, by omega, fun s hs => ?_⟩
  have := h3 s hs; omega

def digL : Nat -> Nat -> Str -> Str
 | 0, _, out => out
 | f + 1, k, out => if k = 0 then out else digL f (k / 10) (UInt8.ofNat (48 + k % 10) :: out)
theorem c1h : ∀ {f g k : Nat} {out : Str}, k < f -> k < g -> digL f k out = digL g k out := by
 intro f
 induction f with
 | zero => intro g k out h; omega
 | succ f ih =>
  intro g k out h1 h2
  cases g with
  | zero => omega
  | succ g =>
   simp only [digL]
   split
   ·rfl
   ·exact ih (by omega) (by omega)
def dig (k : Nat) (out : Str) : Str := digL (k + 1) k out
theorem c4f {k : Nat} {out : Str} (h : 0 < k) : dig k out = dig (k / 10) (UInt8.ofNat (48 + k % 10) :: out) := by
 unfold dig
 rw [digL, if_neg (by omega)]
 exact c1h (by omega) (by omega)
def a1y (k : Int) : Str := if k <= 0 then [109, 48] else 109 :: dig k.toNat []
def a2I : Con := .fn 20 Int (fun k => [.int .i64 k]) (fun k => k <= 4611686018427387904) (fun k => .str (a1y k)) (fun _ => [])
theorem a2z : Has Tryz.prog 65 a2I := by
 refine a0e mixed a0i HasL.nil [0, 2, 3] ((fun a n (_ : Nat) => (fun k _ => ⟨Int × Str, fun t => ⟨[(0, true, .int .i64 t.1), (2, true, .str []), (3, true, .str t.2)], []⟩, fun t => 0 <= t.1 /\ 0 < (show Int from k) /\ t.2.length + t.1.toNat <= (show Int from k).toNat /\ dig t.1.toNat t.2 = dig (show Int from k).toNat [], fun t => t.1.toNat⟩) a n)) [] Tryz.func65 (by unfold Tryz.f65; rfl) (fun _ => ⟨(), trivial⟩) ?_
 intro (k : Int) hk
 replace hk : k <= 4611686018427387904 := hk
 have hm : ∀ n : Int, 0 <= n -> n.tmod 10 = n % 10 := fun n h => Int.tmod_eq_emod_of_nonneg h
 have hq : ∀ n : Int, 0 <= n -> n.tdiv 10 = n / 10 := fun n h => Int.tdiv_eq_ediv_of_nonneg h
 have hs : ∀ (n : Int) (out : Str), 0 < n -> dig n.toNat out = dig (n / 10).toNat (UInt8.ofNat (48 + n % 10).toNat :: out) := fun n out h => by
  rw [c4f (by omega)]
  congr 1
  ·omega
  ·congr 2; omega
 have hz : ∀ out : Str, dig 0 out = out := fun _ => rfl
 have hM : maxLen = 9223372036854775807 := rfl
 simp -implicitDefEqProofs [a2I, Con.fn, tTab]
 try dsimp only
 refine ⟨fun h => by simp [a1y, h], fun h0 => ⟨⟨k, [], ⟨rfl, rfl⟩, by omega, h0, by simp, rfl⟩, ?_⟩⟩
 intro a b ha _ hl hd
 rw [hm a ha, hq a ha, hM]
 refine ⟨fun hpos => ⟨by omega, fun _ _ => ⟨by omega, fun _ _ => ⟨by omega, fun _ => ⟨by omega, fun _ => ⟨by omega, fun _ _ => ⟨_, _, ⟨rfl, rfl⟩, ⟨by omega, h0, by simp only [List.length_cons]; omega, ?_⟩, by omega⟩⟩⟩⟩⟩⟩, fun hz0 => ⟨by omega, fun _ => ?_⟩⟩
 ·rw [<- hs a b hpos, hd]
 ·obtain rfl : a = 0 := by omega
  rw [show dig (Int.toNat 0) b = b from rfl] at hd
  simp only [a1y, if_neg (show ¬ k <= 0 by omega), hd]
def a1C (n : Nat) (k : Int) : List Str := (List.range n).map fun i : Nat => a1y (k + (i : Int))
theorem a5e (n : Nat) (k : Int) : (a1C n k).length = n := by simp [a1C]
theorem b1g (n : Nat) (k : Int) : a1C (n + 1) k = a1C n k ++ [a1y (k + n)] := by simp [a1C, List.range_succ]
def mArr (a : List Str) (k : Int) (i : Nat) : List Str := a1C i k ++ a.drop i
theorem c4M {a : List Str} {k : Int} {i : Nat} (h : i <= a.length) : (mArr a k i).length = a.length := by simp [mArr, a5e]; omega
theorem c4N {a : List Str} {k : Int} {i : Nat} (h : i < a.length) : (mArr a k i).set i (a1y (k + i)) = mArr a k (i + 1) := by
 unfold mArr
 have e : (l' : List Str) -> l' = a.drop i -> l'.set 0 (a1y (k + i)) = a1y (k + i) :: a.drop (i + 1) := by
  rintro _ rfl
  rw [List.drop_eq_getElem_cons h]; rfl
 rw [List.set_append_right _ _ (by simp [a5e]), a5e, Nat.sub_self, b1g, e _ rfl]
 simp
theorem c2l (a : List Str) (k : Int) : mArr a k 0 = a := by simp [mArr, a1C]
theorem c4L {a : List Str} {k : Int} {i : Nat} (h : a.length <= i) (h2 : i <= a.length) : mArr a k i = a1C a.length k := by
 obtain rfl : i = a.length := by omega
 simp [mArr]
def a3L : Con := { A := List Str × Int, X := Unit, n := 20, args := fun a => [.own 0 1 (a0a a.1), .int .i64 a.2], boxes := fun _ => [], pre := fun a => 0 <= a.2 /\ a.2 + a.1.length <= 4611686018427387904, post := fun _ _ => True, res := fun a _ => .int .i64 (a.2 + a.1.length), fin := fun a _ => [(0, .own 9 1 true (a0a (a1C a.1.length a.2)))], owns := fun a => [(0, 9, 1, a0a a.1)], lends := [0], mv := true, sube := 9 }
theorem a6g : Has Tryz.prog 21 a3L := by
 refine a0e mixed a0i (HasL.cons a2z HasL.nil) [0, 1, 4, 5] ((fun a n (_ : Nat) => (fun a _ => ⟨Nat, fun i => ⟨[(0, true, .own 0 1 (a0a (mArr a.1 a.2 i))), (1, true, .int .i64 (a.2 + i)), (4, true, .int .i64 0), (5, true, .int .i64 i)], [(0, .own 9 1 true (a0a (mArr a.1 a.2 i)))]⟩, fun i => i <= a.1.length, fun i => a.1.length - i⟩) a n)) [] Tryz.func21 (by unfold Tryz.f21; rfl) (fun _ => ⟨(), trivial⟩) ?_
 intro a ha
 obtain ⟨l, k⟩ := a
 obtain ⟨h1, h2⟩ : 0 <= k /\ k + l.length <= 4611686018427387904 := ha
 have e1 := fun i => @c4M l k i
 have e2 := fun i => @c4N l k i
 have e3 := c2l l k
 have e4 := fun i => @c4L l k i
 simp -implicitDefEqProofs [a3L, Con.fn, tTab, a2I]
 try dsimp only
 try simp +contextual [eStr, a0y, a0s, a0z, a0t, List.getElem?_eq_getElem, a0u, a0p, a0r, a0q, <- a0h, <- a0f, a0m, a0n, a0l, a0k, a0o, a0j, and_assoc, e1, e2, e3]
 repeat' (first | intro _ | apply And.intro)
 all_goals first | omega | grind [a0B]
def a6d (a : List Str) (k : Int) : Int := if a = a1C a.length k then k + a.length else -1
def a5F : Con := .fn 22 (List Str × Int) (fun a => [.sl true 1 (a0a a.1), .int .i64 a.2]) (fun a => 0 <= a.2 /\ a.2 + a.1.length <= 4611686018427387904) (fun a => .int .i64 (a6d a.1 a.2)) (fun _ => [])
theorem c4m {a : List Str} {k : Int} {i : Nat} (h : a.length <= i) (h2 : i <= a.length) (h3 : a.take i = a1C i k) : a6d a k = k + i := by
 obtain rfl : i = a.length := by omega
 rw [List.take_length] at h3
 unfold a6d
 rw [if_pos h3]
theorem c1y {a : List Str} {k : Int} {i : Nat} (h : i < a.length) (h2 : a[i] ≠ a1y (k + i)) : a6d a k = -1 := by
 unfold a6d
 rw [if_neg]
 intro h3
 apply h2
 have : a[i]? = (a1C a.length k)[i]? := by rw [<- h3]
 rw [List.getElem?_eq_getElem h] at this
 simpa [a1C, h] using this
theorem c1z {a : List Str} {k : Int} {i : Nat} (h : i < a.length) (h2 : a[i] = a1y (k + i)) (h3 : a.take i = a1C i k) : a.take (i + 1) = a1C (i + 1) k := by
 rw [a0A h, b1g, h3, h2]
theorem b0L : Has Tryz.prog 156 a5F := by
 refine a0e mixed a0i (HasL.cons a2z HasL.nil) [0, 1, 4, 5] ((fun a n (_ : Nat) => (fun a _ => ⟨Nat, fun i => ⟨[(0, true, .sl true 1 (a0a a.1)), (1, true, .int .i64 (a.2 + i)), (4, true, .int .i64 0), (5, true, .int .i64 i)], []⟩, fun i => i <= a.1.length /\ a.1.take i = a1C i a.2, fun i => a.1.length - i⟩) a n)) [] Tryz.func156 (by unfold Tryz.f156; rfl) (fun _ => ⟨(), trivial⟩) ?_
 intro a ha
 obtain ⟨l, k⟩ := a
 obtain ⟨h1, h2⟩ : 0 <= k /\ k + l.length <= 4611686018427387904 := ha
 have e1 := fun i => @c4m l k i
 have e2 := fun i => @c1y l k i
 have e3 := fun i => @c1z l k i
 have e4 : a1C 0 k = [] := rfl
 simp -implicitDefEqProofs [a5F, Con.fn, tTab, a2I]
 try dsimp only
 try simp +contextual [eStr, a0y, a0s, a0z, a0t, List.getElem?_eq_getElem, a0u, a0p, a0r, a0q, <- a0h, <- a0f, a0m, a0n, a0l, a0k, a0o, a0j, and_assoc]
 repeat' (first | intro _ | apply And.intro)
 all_goals first | omega | grind [a0B]



def kE (l : List FileD) (k : Int) : Int := k + l.length + a1p l
def a0V (t : List FileD) (k : Int) : List FileD := (List.range t.length).map fun i : Nat => ⟨a1y (kE (t.take i) k), a1C (t.getD i default).text.length (kE (t.take i) k + 1)⟩
theorem a1B (t : List FileD) (k : Int) : (a0V t k).length = t.length := by simp [a0V]
def mFA (t : List FileD) (k : Int) (i : Nat) : List FileD := (a0V t k).take i ++ t.drop i
theorem c7b {t : List FileD} {k : Int} {i : Nat} (h : i <= t.length) : (mFA t k i).length = t.length := by simp [mFA, a1B]; omega
theorem c4O (t : List FileD) (k : Int) : mFA t k 0 = t := by simp [mFA]
theorem c6Z {t : List FileD} {k : Int} {i : Nat} (h : t.length <= i) : mFA t k i = a0V t k := by
 unfold mFA
 rw [List.take_of_length_le (by rw [a1B]; exact h), List.drop_eq_nil_of_le h, List.append_nil]
theorem c7a {t : List FileD} {k : Int} {i : Nat} (h : i < t.length) : (mFA t k i)[i]? = some t[i] := by
 unfold mFA
 rw [List.getElem?_append_right (by simp [a1B]; omega), List.length_take, a1B, Nat.min_eq_left (by omega), Nat.sub_self, List.drop_eq_getElem_cons h]
 rfl
theorem c7c {t : List FileD} {k : Int} {i : Nat} (h : i < t.length) : (mFA t k i).set i ⟨a1y (kE (t.take i) k), a1C t[i].text.length (kE (t.take i) k + 1)⟩ = mFA t k (i + 1) := by
 unfold mFA
 have hl : i < (a0V t k).length := by rw [a1B]; exact h
 have hx : (a0V t k)[i] = ⟨a1y (kE (t.take i) k), a1C t[i].text.length (kE (t.take i) k + 1)⟩ := by simp [a0V, h]
 rw [List.set_append_right _ _ (by simp [a1B]; omega), List.length_take, a1B, Nat.min_eq_left (by omega), Nat.sub_self, List.drop_eq_getElem_cons h, List.set_cons_zero, List.take_succ_eq_append_getElem hl, hx]
 simp
theorem b7A {t : List FileD} {k : Int} {i : Nat} (h : i < t.length) : kE (t.take (i + 1)) k = kE (t.take i) k + 1 + t[i].text.length := by
 unfold kE
 rw [b6R _ _ h]
 simp; omega
theorem b9d {t : List FileD} {k : Int} (i : Nat) : k <= kE (t.take i) k /\ kE (t.take i) k <= kE t k := by
 have h1 : a1p (t.take i) <= a1p t := by
  have : a1p t = a1p (t.take i) + a1p (t.drop i) := by
   unfold a1p
   rw [<- List.sum_append, <- List.map_append, List.take_append_drop]
  omega
 have h2 : (t.take i).length <= t.length := by simp; omega
 unfold kE
 omega
theorem b7B (k : Int) : kE [] k = k := by simp [kE, a1p]
def a7h : Con := { A := List FileD × Int, X := Unit, n := 28, args := fun a => [.own 0 2 (a0c a.1), .int .i64 a.2], boxes := fun _ => [], pre := fun a => 0 <= a.2 /\ kE a.1 a.2 <= 1152921504606846976, post := fun _ _ => True, res := fun a _ => .int .i64 (kE a.1 a.2), fin := fun a _ => [(0, .own 66 2 true (a0c (a0V a.1 a.2)))], owns := fun a => [(0, 66, 2, a0c a.1)], lends := [0], mv := true, sube := 66 }
theorem b3r : Has Tryz.prog 111 a7h := by
 refine a0e mixed a0i (HasL.cons a2z (HasL.cons a6g HasL.nil)) [0, 1, 4, 5] ((fun a n (_ : Nat) => (fun a _ => ⟨Nat, fun i => ⟨[(0, true, .own 0 2 (a0c (mFA a.1 a.2 i))), (1, true, .int .i64 (kE (a.1.take i) a.2)), (4, true, .int .i64 0), (5, true, .int .i64 i)], [(0, .own 66 2 true (a0c (mFA a.1 a.2 i)))]⟩, fun i => i <= a.1.length, fun i => a.1.length - i⟩) a n)) [] Tryz.func111 (by unfold Tryz.f111; rfl) (fun _ => ⟨(), trivial⟩) ?_
 intro a ha
 obtain ⟨t, k⟩ := a
 obtain ⟨q1, q2⟩ : 0 <= k /\ kE t k <= 1152921504606846976 := ha
 have e1 := fun i => @c7b t k i
 have e2 := fun i => @c7c t k i
 have e3 := c4O t k
 have e4 := fun i => @c6Z t k i
 have e5 := fun i => @c7a t k i
 have e6 := fun i => @b7A t k i
 have e7 := fun i => @b9d t k i
 have e8 := b7B k
 simp -implicitDefEqProofs [a7h, Con.fn, tTab, a2I, a3L, e3, e8]
 try dsimp only
 refine ⟨⟨0, by simp [e3, e8]⟩, fun i hi _ => ⟨fun hlt => ?_, fun hge => ?_⟩⟩
 ·have hlt' : i < t.length := by rw [e1 i hi] at hlt; exact hlt
  have g1 := e5 i hlt'
  have g2 : ∀ r, ((a0c (mFA t k i)).set i r)[i]? = some r := fun r => by
   rw [List.getElem?_set_self (by rw [eFiles_length]; exact hlt)]
  have g3 := e7 i
  have g4 := e6 i hlt'
  have g5 := e7 (i + 1)
  have g6 : (a0c (mFA t k i)).set i [D.str (a1y (kE (t.take i) k)), D.sl 9 1 (a0a (a1C t[i].text.length (kE (t.take i) k + 1)))] = a0c (mFA t k (i + 1)) := by
   rw [<- e2 i hlt', a0p]
  have g7 := e1 (i + 1) (by omega)
  have g8 : (mFA t k i)[i] = t[i] := by rw [List.getElem?_eq_getElem hlt] at g1; exact Option.some.inj g1
  simp [g1, g2, a0y, D.asRows, e1 i hi, hlt', hlt, and_assoc]
  rw [g8]
  exact ⟨by omega, by omega, by omega, fun _ _ => ⟨by omega, by omega, by omega, by omega, fun _ _ => ⟨i + 1, g6.symm, by omega, by omega, g6, by omega, by omega⟩⟩⟩
 ·rw [e1 i hi] at hge
  rw [e4 i hge, List.take_of_length_le hge]
  exact ⟨rfl, rfl⟩
theorem c2v {B : Nat} (t : List FileD) (h : ∀ f ∈ t, f.text.length <= B) : a1p t <= B * t.length := by
 induction t with
 | nil => simp [a1p]
 | cons f r ih =>
  have h1 := h f (by simp)
  have h2 := ih (fun g hg => h g (by simp [hg]))
  simp [a1p, Nat.mul_add] at h2 ⊢
  omega
theorem b2C {l : List Str} {x : List D} {d : D} (h : x ∈ a0a l) (h' : d ∈ x) : ∃ s, d = D.str s := by
 simp only [a0a, List.mem_map] at h
 obtain ⟨s, _, rfl⟩ := h
 simp only [eStr, List.mem_singleton] at h'
 exact ⟨s, h'⟩
def a4W : Con := .fn 6 (List Str) (fun a => [.sl true 1 (a0a a)]) (fun a => a.length <= 1048576) (fun a => .own 8 1 (a0a a)) (fun a => a1V 8 a)
theorem a5K : Has Tryz.prog 136 a4W := by
 refine a0e mixed a0i HasL.nil [0, 2] ((fun a n (_ : Nat) => (fun _ => a0L) a n)) [] Tryz.func136 (by unfold Tryz.f136; rfl) (fun _ => ⟨(), trivial⟩) ?_
 intro (a : List Str) ha
 replace ha : a.length <= 1048576 := ha
 simp -implicitDefEqProofs [a4W, Con.fn, tTab]
 try dsimp only
 try simp +contextual [eStr, a0y, a0s, a0z, a0t, List.getElem?_eq_getElem, a0u, a0p, a0r, a0q, <- a0h, <- a0f, a0m, a0n, a0l, a0k, a0o, a0j, and_assoc]
 repeat' (first | intro _ | apply And.intro)
 all_goals first | omega | grind [a0B, b2C]
def a4X : Con := .fn 23 (List FileD) (fun a => [.sl true 2 (a0c a)]) (fun a => a.length <= 1048576 /\ ∀ f ∈ a, f.text.length <= 1048576) (fun a => .own 8 2 (a0c a)) (fun a => a2N 8 a)
theorem a5L : Has Tryz.prog 91 a4X := by
 refine a0e mixed a0i (HasL.cons a5K HasL.nil) [0, 2, 3, 5, 6, 7, 8] ((fun a n (_ : Nat) => (fun a _ => ⟨Nat, fun i => ⟨[(2, true, .nil), (3, true, .own 9 2 (a0c (a.take i))), (6, true, .sl true 2 (a0c a)), (7, true, .int .i64 a.length), (8, true, .int .i64 i)], a2N 9 (a.take i)⟩, fun i => i <= a.length, fun i => a.length - i⟩) a n)) [19] Tryz.func91 (by unfold Tryz.f91; rfl) (fun _ => ⟨(), trivial⟩) ?_
 intro (a : List FileD) ha
 obtain ⟨h1, h2⟩ : a.length <= 1048576 /\ ∀ f ∈ a, f.text.length <= 1048576 := ha
 have h3 : ∀ i (h : i < a.length), a[i].text.length <= 1048576 := fun i h => h2 _ (List.getElem_mem h)
 simp -implicitDefEqProofs [a4X, Con.fn, tTab, a4W]
 try dsimp only
 try simp +contextual [eStr, a0y, a0s, a0z, a0t, List.getElem?_eq_getElem, a0u, a0p, a0r, a0q, <- a0h, <- a0f, a0m, a0n, a0l, a0k, a0o, a0j, and_assoc, <- FileD.eq_iff]
 repeat' (first | intro _ | apply And.intro)
 all_goals first | omega | grind [a0B, List.take_of_length_le, List.take_succ_eq_append_getElem]
def a8P : Con := .fn 29 (List FileD) (fun a => [.sl true 2 (a0c a)]) (fun a => a.length <= 1048576 /\ ∀ f ∈ a, f.text.length <= 1048576) (fun a => .own 8 2 (a0c a)) (fun a => a2N 8 a)
theorem b0Z : Has Tryz.prog 142 a8P := by
 refine a0e mixed a0i HasL.nil [0, 2, 3, 4] ((fun a n (_ : Nat) => (fun a _ => ⟨Nat, fun i => ⟨[(0, true, .sl true 2 (a0c a)), (2, true, .nil), (3, true, .own 9 2 (a0c (a.take i))), (4, true, .int .i64 i)], a2N 9 (a.take i)⟩, fun i => i <= a.length, fun i => a.length - i⟩) a n)) [26] Tryz.func142 (by unfold Tryz.f142; rfl) (fun _ => ⟨(), trivial⟩) ?_
 intro (a : List FileD) ha
 obtain ⟨h1, h2⟩ : a.length <= 1048576 /\ ∀ f ∈ a, f.text.length <= 1048576 := ha
 have h3 : ∀ i (h : i < a.length), a[i].text.length <= 1048576 := fun i h => h2 _ (List.getElem_mem h)
 simp -implicitDefEqProofs [a8P, Con.fn, tTab]
 try dsimp only
 try simp +contextual [eStr, a0y, a0s, a0z, a0t, List.getElem?_eq_getElem, a0u, a0p, a0r, a0q, <- a0h, <- a0f, a0m, a0n, a0l, a0k, a0o, a0j, and_assoc, <- FileD.eq_iff]
 repeat' (first | intro _ | apply And.intro)
 all_goals first | omega | grind [a0B, b2C, List.take_of_length_le, List.take_succ_eq_append_getElem]

def a8X (b : UInt8) : List D := [.int .u8 b.toNat]
def a5a (s : Str) : List (List D) := s.map a8X
@[simp] theorem eBytes_length (l : Str) : (a5a l).length = l.length := by simp -implicitDefEqProofs [a5a]
@[simp] theorem eBytes_get (l : Str) (i : Nat) : (a5a l)[i]? = l[i]?.map a8X := by simp -implicitDefEqProofs [a5a]
@[simp] theorem eByte_inj (a b : UInt8) : (a8X a = a8X b) = (a = b) := by
 simp only [a8X, List.cons.injEq, D.int.injEq, true_and, and_true, eq_iff_iff]
 constructor
 ·intro h; exact UInt8.toNat_inj.1 (by omega)
 ·rintro rfl; rfl
@[simp] theorem eBytes_inj (a b : Str) : (a5a a = a5a b) = (a = b) := by
 apply propext
 constructor
 ·intro h
  exact List.map_inj_right (fun x y h => by simpa using h) |>.1 h
 ·rintro rfl; rfl
@[simp] theorem eBytes_all (l : Str) (f : List D -> Bool) : (a5a l).all f = l.all fun b => f (a8X b) := by simp -implicitDefEqProofs [a5a, Function.comp_def]


theorem b4Z (t : List FileD) (k j : Int) : kE (a0V t k) j = kE t j := by
 have : a1p (a0V t k) = a1p t := by
  unfold a1p a0V
  rw [List.map_map]
  have : ((fun f : FileD => f.text.length) ∘ fun i : Nat => (⟨a1y (kE (t.take i) k), a1C (t.getD i default).text.length (kE (t.take i) k + 1)⟩ : FileD)) = fun i => (t.getD i default).text.length := by
   funext i; simp [a5e]
  rw [this]
  congr 1
  apply List.ext_getElem (by simp)
  intro i h1 h2
  simp at h1
  simp [h1]
 unfold kE
 rw [this, a1B]
theorem b6O (t : List FileD) (k : Int) (i : Nat) (h : i <= t.length) : a0V (t.take i) k = (a0V t k).take i := by
 unfold a0V
 rw [<- List.map_take, List.take_range, List.length_take, Nat.min_comm]
 rw [Nat.min_comm]
 apply List.map_congr_left
 intro j hj
 have hj : j < i := by simp at hj; omega
 rw [List.take_take, Nat.min_eq_left (by omega)]
 simp [List.getElem?_take, hj]
theorem b6N (t : List FileD) (k : Int) : a0V (a0V t k) k = a0V t k := by
 show (List.range (a0V t k).length).map _ = (List.range t.length).map _
 rw [a1B]
 apply List.map_congr_left
 intro i hi
 have hi : i < t.length := by simpa using hi
 rw [<- b6O t k i (by omega), b4Z]
 have : ((a0V t k).getD i default).text.length = (t.getD i default).text.length := by simp [a0V, hi, a5e]
 rw [this]
def a5b (t : List FileD) (k : Int) : Int := if t = a0V t k then kE t k else -1
def a7f : Con := .fn 32 (List FileD × Int) (fun a => [.sl true 2 (a0c a.1), .int .i64 a.2]) (fun a => 0 <= a.2 /\ kE a.1 a.2 <= 1152921504606846976) (fun a => .int .i64 (a5b a.1 a.2)) (fun _ => [])
theorem b2J {t : List FileD} {k : Int} {i : Nat} (h : i < t.length) : (a0V t k)[i]'(by rw [a1B]; exact h) = ⟨a1y (kE (t.take i) k), a1C t[i].text.length (kE (t.take i) k + 1)⟩ := by simp [a0V, h]
theorem b8N {t : List FileD} {k : Int} {i : Nat} (h : i < t.length) (h2 : t[i].path ≠ a1y (kE (t.take i) k) \/ t[i].text ≠ a1C t[i].text.length (kE (t.take i) k + 1)) : a5b t k = -1 := by
 unfold a5b
 rw [if_neg]
 intro h3
 have : t[i]? = (a0V t k)[i]? := by rw [<- h3]
 rw [List.getElem?_eq_getElem h, List.getElem?_eq_getElem (by rw [a1B]; exact h), b2J h] at this
 have := Option.some.inj this
 rcases h2 with h2 | h2
 ·exact h2 (congrArg FileD.path this)
 ·exact h2 (congrArg FileD.text this)
theorem b8O {t : List FileD} {k : Int} {i : Nat} (h : i < t.length) (h1 : t.take i = (a0V t k).take i) (h2 : t[i].path = a1y (kE (t.take i) k)) (h3 : t[i].text = a1C t[i].text.length (kE (t.take i) k + 1)) : t.take (i + 1) = (a0V t k).take (i + 1) := by
 rw [a0A h, a0A (by rw [a1B]; exact h), b2J h, <- h1, <- h2, <- h3]
theorem c1w {t : List FileD} {k : Int} {i : Nat} (h : t.length <= i) (h1 : t.take i = (a0V t k).take i) : a5b t k = kE (t.take i) k := by
 rw [List.take_of_length_le h, List.take_of_length_le (by rw [a1B]; exact h)] at h1
 unfold a5b
 rw [if_pos h1, List.take_of_length_le h]
theorem b3m : Has Tryz.prog 112 a7f := by
 refine a0e mixed a0i (HasL.cons a2z (HasL.cons b0L HasL.nil)) [0, 1, 4, 5] ((fun a n (_ : Nat) => (fun a _ => ⟨Nat, fun i => ⟨[(0, true, .sl true 2 (a0c a.1)), (1, true, .int .i64 (kE (a.1.take i) a.2)), (4, true, .int .i64 0), (5, true, .int .i64 i)], []⟩, fun i => i <= a.1.length /\ a.1.take i = (a0V a.1 a.2).take i, fun i => a.1.length - i⟩) a n)) [] Tryz.func112 (by unfold Tryz.f112; rfl) (fun _ => ⟨(), trivial⟩) ?_
 intro a ha
 obtain ⟨t, k⟩ := a
 obtain ⟨q1, q2⟩ : 0 <= k /\ kE t k <= 1152921504606846976 := ha
 have e1 := fun i => @b8N t k i
 have e2 := fun i => @b8O t k i
 have e3 := fun i => @c1w t k i
 have e6 := fun i => @b7A t k i
 have e7 := fun i => @b9d t k i
 have e8 := b7B k
 simp -implicitDefEqProofs [a7f, Con.fn, tTab, a2I, a5F, e8]
 try dsimp only
 refine ⟨⟨0, by simp [e8]⟩, fun i hi hpre _ => ⟨fun hlt => ?_, fun hge => e3 i hge hpre⟩⟩
 have g := e6 i hlt
 have g1 := e7 i
 have g2 := e7 (i + 1)
 simp [hlt, a0y, D.asStr, D.asRows, and_assoc]
 have hl : ∀ l kk, a6d l kk = if l = a1C l.length kk then kk + l.length else -1 := fun _ _ => rfl
 have m1 := e1 i hlt
 have m2 := e2 i hlt hpre
 by_cases ht : t[i].text = a1C t[i].text.length (kE (t.take i) k + 1)
 ·have hh : a6d t[i].text (kE (t.take i) k + 1) = kE (t.take (i + 1)) k := by rw [hl, if_pos ht, g]
  rw [hh]
  exact ⟨by omega, fun hn => m1 (.inl hn), fun hp => ⟨by omega, by omega, fun _ _ => ⟨by omega, by omega, fun hn => by omega, fun _ => ⟨by omega, by omega, fun _ _ => ⟨i + 1, rfl, by omega, by omega, m2 hp ht, by omega⟩⟩⟩⟩⟩
 ·have hh : a6d t[i].text (kE (t.take i) k + 1) = -1 := by rw [hl, if_neg ht]
  rw [hh]
  exact ⟨by omega, fun hn => m1 (.inl hn), fun hp => ⟨by omega, by omega, fun _ _ => ⟨by omega, by omega, fun _ => m1 (.inr ht), fun hn => by omega⟩⟩⟩
theorem c8W {t : List FileD} {A B : Nat} (h1 : t.length <= A) (h2 : ∀ f ∈ t, f.text.length <= B) (k : Int) : k <= kE t k /\ kE t k <= k + A + B * A := by
 have h3 := c2v t h2
 have h4 : B * t.length <= B * A := Nat.mul_le_mul_left _ h1
 unfold kE
 refine ⟨by omega, ?_⟩
 have : (a1p t : Int) <= ((B * A : Nat) : Int) := by omega
 rw [Int.natCast_mul] at this
 omega
def a8M : Con := .fn 11 (RepoD × Int) (fun a => [a1E a.1, .int .i64 a.2]) (fun a => a.1.commits.length <= 1073741824) (fun a => .bool (decide (0 <= a.2) && decide (a.2 <= (a.1.commits.length : Int) - 1))) (fun _ => [])
theorem b0J : Has Tryz.prog 90 a8M := by
 refine a0e mixed a0i (HasL.cons a7I HasL.nil) [0, 1, 2, 4] ((fun a n (_ : Nat) => (fun _ => a0L) a n)) [] Tryz.func90 (by unfold Tryz.f90; rfl) (fun _ => ⟨(), trivial⟩) ?_
 intro a ha
 obtain ⟨r, n⟩ := a
 replace ha : r.commits.length <= 1073741824 := ha
 simp -implicitDefEqProofs [a8M, Con.fn, tTab, a6B]
 try dsimp only
 try simp +contextual -implicitDefEqProofs [eStr, a0y, a0s, a0z, a0t, List.getElem?_eq_getElem, a0u, a0p, a0r, a0q, <- a0h, <- a0f, a0m, a0n, a0l, a0k, a0o, a0j, and_assoc]
 repeat' (first | intro _ | apply And.intro)
 all_goals first | omega | grind [a0B]
def inN (n : Nat) (a : Int) : Bool := decide (0 <= a) && decide (a <= (n : Int) - 1)
def okHd (n : Nat) (h : List HeadD) (i : Nat) : Bool := a1o (h.getD i default).name && inN n (h.getD i default).at_ && (decide (i = 0) || Go.Op.bytesLess (h.getD (i - 1) default).name (h.getD i default).name)
def a1O (n : Nat) (h : List HeadD) : Bool := decide (h.length <= 5) && (List.range h.length).all (okHd n h)
theorem a2p (n : Nat) (h : List HeadD) : a1O n h = true ↔ h.length <= 5 /\ ∀ i, i < h.length -> okHd n h i = true := by simp -implicitDefEqProofs [a1O]
theorem b2H {n : Nat} {h : List HeadD} {i : Nat} (hi : i < h.length) (hb : okHd n h i = false) : a1O n h = false := by
 cases hq : a1O n h with
 | false => rfl
 | true => have := ((a2p n h).1 hq).2 i hi; simp -implicitDefEqProofs [hb] at this
def a9H : Con := .fn 44 (RepoD × List HeadD) (fun a => [a1E a.1, .sl true 2 (a0b a.2)]) (fun a => a.1.commits.length <= 1073741824) (fun a => .bool (a1O a.1.commits.length a.2)) (fun _ => [])
theorem b6t : Has Tryz.prog 76 a9H := by
 refine a0e mixed a0i (HasL.cons a5r (HasL.cons b0J HasL.nil)) [0, 1, 2, 4, 5, 6, 10, 11, 12] ((fun a n (_ : Nat) => (fun a _ => ⟨Nat, fun i => ⟨[(1, true, .sl true 2 (a0b a.2)), (2, true, .ptr 10 0), (4, true, .bool false), (10, true, .sl true 2 (a0b a.2)), (11, true, .int .i64 a.2.length), (12, true, .int .i64 i)], [(10, .box 32 [.sl true 3 (a0g a.1.commits), .sl true 2 (a0b a.1.heads)])]⟩, fun i => i <= a.2.length /\ a.2.length <= 5 /\ ∀ j, j < i -> okHd a.1.commits.length a.2 j = true, fun i => a.2.length - i⟩) a n)) [] Tryz.func76 (by unfold Tryz.f76; rfl) (fun _ => ⟨(), trivial⟩) ?_
 intro a ha
 obtain ⟨r, t⟩ := a
 replace ha : r.commits.length <= 1073741824 := ha
 have hB : 5 < t.length -> a1O r.commits.length t = false := fun h => by
  cases hq : a1O r.commits.length t with
  | false => rfl
  | true => have := ((a2p _ _).1 hq).1; omega
 have hN := fun i => @b2H r.commits.length t i
 have hE := (a2p r.commits.length t).2
 have hg : ∀ i (h : i < t.length), t.getD i default = t[i] := fun i h => by simp -implicitDefEqProofs [List.getD_eq_getElem?_getD, h]
 have hgg : ∀ i (h : i < t.length), t[i]?.getD default = t[i] := fun i h => by simp -implicitDefEqProofs [h]
 have e1 : ∀ k (h : k < t.length), Option.map a0R t[k]? = some (a0R t[k]) := fun k h => by simp -implicitDefEqProofs [List.getElem?_eq_getElem h]
 simp -implicitDefEqProofs [a9H, Con.fn, tTab, a5x, a8M]
 try dsimp only
 refine fun _ => ⟨fun h => hB (by omega), fun h5 _ => ⟨by omega, fun i hi _ hprev => ⟨fun hlt => ?_, fun hge => hE ⟨by omega, fun j hj => hprev j (by omega)⟩⟩⟩⟩
 have e3 := e1 i hlt
 have e4 := e1 (i - 1) (by omega)
 have hh : okHd r.commits.length t i = (a1o t[i].name && inN r.commits.length t[i].at_ && (decide (i = 0) || Go.Op.bytesLess (t[i - 1]'(by omega)).name t[i].name)) := by
  unfold okHd
  rw [hg i hlt, hg (i - 1) (by omega)]
 have hn := hN i hlt
 rw [hh] at hn
 unfold inN at hn hh
 simp -implicitDefEqProofs [hlt, e3, e4, a0R, D.asStr, D.asInt, a0z, and_assoc]
 try simp +contextual -implicitDefEqProofs [eStr, a0y, a0s, a0z, a0t, List.getElem?_eq_getElem, a0u, a0p, a0r, a0q, <- a0h, <- a0f, a0m, a0n, a0l, a0k, a0o, a0j, and_assoc, hlt]
 clear e1 hg hgg hN hE hB
 repeat' (first | intro _ | apply And.intro)
 all_goals first | omega | grind -ring
def okI1 (cs : List CommitD) (i : Nat) : Bool :=
 decide ((cs.getD i default).parents.length <= 2) && !(decide ((cs.getD i default).parents.length = 2) && decide ((cs.getD i default).parents.getD 0 0 = (cs.getD i default).parents.getD 1 0)) && a1o (cs.getD i default).who && a0I (cs.getD i default).tree
def okCI (cs : List CommitD) (i : Nat) : Bool := okI1 cs i && (List.range (cs.getD i default).parents.length).all fun k => inN i ((cs.getD i default).parents.getD k 0)
def a0K (r : RepoD) : Bool := decide (r.commits.length <= 16) && (List.range r.commits.length).all (okCI r.commits) && a1O r.commits.length r.heads
def a5u (r : RepoD) : Prop := r.commits.length <= 1073741824 /\ ∀ c ∈ r.commits, ∀ f ∈ c.tree, f.path.length <= 536870912
def a2A (r : RepoD) : Blk := .box 32 [.sl true 3 (a0g r.commits), .sl true 2 (a0b r.heads)]
theorem a0Y (r : RepoD) : a2A r = .box 32 [.sl true 3 (a0g r.commits), .sl true 2 (a0b r.heads)] := rfl
def riO (r : RepoD) : Inv := ⟨Nat, fun i => ⟨[(1, true, .ptr 10 0), (2, true, .bool false), (12, true, .sl true 3 (a0g r.commits)), (13, true, .int .i64 r.commits.length), (14, true, .int .i64 i)], [(10, a2A r)]⟩, fun i => i <= r.commits.length /\ r.commits.length <= 16 /\ ∀ j, j < i -> okCI r.commits j = true, fun i => r.commits.length - i⟩
def riI (r : RepoD) (g : Nat) : Inv := ⟨Nat, fun k => ⟨[(1, true, .ptr 10 0), (2, true, .bool false), (3, true, .int .i64 g), (12, true, .sl true 3 (a0g r.commits)), (13, true, .int .i64 r.commits.length), (14, true, .int .i64 g), (53, true, .sl true 1 (a0d (r.commits.getD g default).parents)), (54, true, .int .i64 (r.commits.getD g default).parents.length), (55, true, .int .i64 k)], [(10, a2A r)]⟩,
 fun k => g < r.commits.length /\ k <= (r.commits.getD g default).parents.length /\ r.commits.length <= 16 /\ (∀ j, j < g -> okCI r.commits j = true) /\ okI1 r.commits g = true /\ ∀ j, j < k -> inN g ((r.commits.getD g default).parents.getD j 0) = true, fun k => (r.commits.getD g default).parents.length - k⟩
def b9W (r : RepoD) (n g : Nat) : Inv := if n = 4 then riO r else riI r g
theorem c7w (r : RepoD) (g : Nat) : b9W r 4 g = riO r := rfl
theorem c7x (r : RepoD) (g : Nat) : b9W r 9 g = riI r g := rfl
theorem a4l (r : RepoD) : a0K r = true ↔ r.commits.length <= 16 /\ (∀ i, i < r.commits.length -> okCI r.commits i = true) /\ a1O r.commits.length r.heads = true := by simp -implicitDefEqProofs [a0K, and_assoc]
theorem c5s {r : RepoD} {i : Nat} (hi : i < r.commits.length) (hb : okCI r.commits i = false) : a0K r = false := by
 cases hq : a0K r with
 | false => rfl
 | true => have := ((a4l r).1 hq).2.1 i hi; simp -implicitDefEqProofs [hb] at this
theorem c2Q {r : RepoD} (h : 16 < r.commits.length) : a0K r = false := by
 cases hq : a0K r with
 | false => rfl
 | true => have := ((a4l r).1 hq).1; omega
theorem c4U {cs : List CommitD} {i : Nat} (h : okI1 cs i = false) : okCI cs i = false := by unfold okCI; rw [h]; rfl
theorem c4V {cs : List CommitD} {i k : Nat} (hk : k < (cs.getD i default).parents.length) (h : inN i ((cs.getD i default).parents.getD k 0) = false) : okCI cs i = false := by
 unfold okCI
 have : (List.range (cs.getD i default).parents.length).all (fun k => inN i ((cs.getD i default).parents.getD k 0)) = false := by
  rw [List.all_eq_false]
  exact ⟨k, List.mem_range.2 hk, by simpa using h⟩
 rw [this, Bool.and_false]
theorem c4W {cs : List CommitD} {i : Nat} (h : okI1 cs i = true) (h2 : ∀ k, k < (cs.getD i default).parents.length -> inN i ((cs.getD i default).parents.getD k 0) = true) : okCI cs i = true := by
 unfold okCI
 rw [h, Bool.true_and, List.all_eq_true]
 intro k hk
 exact h2 k (by simpa using hk)
def a8T : Con := .fn 70 RepoD (fun r => [a1E r]) a5u (fun r => .bool (a0K r)) (fun _ => [])
theorem b1s : Has Tryz.prog 28 a8T := by
 refine a0e mixed a0i (HasL.cons a5r (HasL.cons a7H (HasL.cons a7I (HasL.cons b6t HasL.nil)))) [0, 1, 2, 3, 4, 6, 12, 13, 14, 53, 54, 55] (fun r => b9W r) [] Tryz.func28 (by unfold Tryz.f28; rfl) (fun _ => ⟨(), trivial⟩) ?_
 intro (r : RepoD) hr
 obtain ⟨hr1, hr2⟩ : r.commits.length <= 1073741824 /\ ∀ c ∈ r.commits, ∀ f ∈ c.tree, f.path.length <= 536870912 := hr
 have hp : ∀ i (h : i < r.commits.length), ∀ f ∈ r.commits[i].tree, f.path.length <= 536870912 := fun i h => hr2 _ (List.getElem_mem h)
 have hB := @c2Q r
 have hN := fun i => @c5s r i
 have hN1 := fun i => @c4U r.commits i
 have hN2 := fun i k => @c4V r.commits i k
 have hY := fun i => @c4W r.commits i
 simp -implicitDefEqProofs [a8T, Con.fn, tTab, a5x, a6A, a6B, a9H, c7w, c7x, riO, riI, a0Y]
 try dsimp only
 refine fun _ => ⟨fun h => hB (by omega), fun h16 _ => ⟨by omega, fun i hi _ hprev => ⟨fun hlt => ?_, fun hge => ?_⟩⟩⟩
 ·have e3 : Option.map a0E r.commits[i]? = some (a0E r.commits[i]) := by simp -implicitDefEqProofs [List.getElem?_eq_getElem hlt]
  have hgc : r.commits.getD i default = r.commits[i] := by simp -implicitDefEqProofs [List.getD_eq_getElem?_getD, hlt]
  have hpc := hp i hlt
  have n0 := hN i hlt
  have n1 := hN1 i
  have n2 := hN2 i
  have n3 := hY i
  have o1 : okI1 r.commits i = (decide (r.commits[i].parents.length <= 2) && !(decide (r.commits[i].parents.length = 2) && decide (r.commits[i].parents.getD 0 0 = r.commits[i].parents.getD 1 0)) && a1o r.commits[i].who && a0I r.commits[i].tree) := by
   unfold okI1; rw [hgc]
  rw [hgc] at n2 n3
  simp -implicitDefEqProofs [hlt, e3, a0E, D.asStr, D.asRows, a0z, and_assoc]
  try simp only [show r.commits[i]?.getD default = r.commits[i] by simp -implicitDefEqProofs [hlt]]
  generalize r.commits[i] = c at hpc n2 n3 o1 ⊢
  have hq : ∀ k (h : k < c.parents.length), inN i (c.parents[k]?.getD 0) = (decide (0 <= c.parents[k]) && decide (c.parents[k] <= (i : Int) - 1)) := fun k h => by simp -implicitDefEqProofs [inN, h]
  have n4 : ∀ k (h : k < c.parents.length), (decide (0 <= c.parents[k]) && decide (c.parents[k] <= (i : Int) - 1)) = false -> a0K r = false := fun k h hb => n0 (n2 k h (by rw [List.getD_eq_getElem?_getD, hq k h]; exact hb))
  have n5 : okI1 r.commits i = false -> a0K r = false := fun h => n0 (n1 h)
  have n6 : okI1 r.commits i = true -> (∀ j, j < c.parents.length -> inN i (c.parents[j]?.getD 0) = true) -> ∀ j, j < i + 1 -> okCI r.commits j = true := fun h1 h2 j hj => by
   rcases Nat.lt_or_ge j i with h3 | h3
   ·exact hprev j h3
   ·have : j = i := by omega
    subst this
    exact n3 h1 (fun k hk => by rw [List.getD_eq_getElem?_getD]; exact h2 k hk)
  clear n3 n2 n1 n0 hN hN1 hN2 hY hp hr2 hB hgc e3
  have o2 : ∀ (h : c.parents.length = 2), okI1 r.commits i = (!(decide (c.parents[0] = c.parents[1])) && a1o c.who && a0I c.tree) := fun h => by
   rw [o1]; simp -implicitDefEqProofs [h]
  have o3 : c.parents.length <= 2 -> ¬ c.parents.length = 2 -> okI1 r.commits i = (a1o c.who && a0I c.tree) := fun h h' => by
   rw [o1]; simp -implicitDefEqProofs [h, h']
  have o4 : 2 < c.parents.length -> okI1 r.commits i = false := fun h => by
   rw [o1]; simp -implicitDefEqProofs [show ¬ c.parents.length <= 2 by omega]
  clear o1
  refine ⟨fun h => n5 (o4 (by omega)), fun hl2 => ⟨fun h2 => ?_, fun h2 => ?_⟩⟩
  ·have q0 : Option.map eInt c.parents[0]? = some (eInt c.parents[0]) := by simp -implicitDefEqProofs [List.getElem?_eq_getElem (show 0 < c.parents.length by omega)]
   have q1 : Option.map eInt c.parents[1]? = some (eInt c.parents[1]) := by simp -implicitDefEqProofs [List.getElem?_eq_getElem (show 1 < c.parents.length by omega)]
   have o5 := o2 (by omega)
   simp -implicitDefEqProofs [q0, q1, eInt]
   refine ⟨by omega, fun _ => ⟨by omega, fun _ => ⟨fun he => n5 (by rw [o5]; simp -implicitDefEqProofs [he]), fun he => ⟨fun hn => n5 (by rw [o5]; simp -implicitDefEqProofs [hn]), fun hn => ⟨hpc, fun ht => n5 (by rw [o5]; simp -implicitDefEqProofs [ht]), fun ht _ => ⟨by omega, hprev, by rw [o5]; simp -implicitDefEqProofs [he, hn, ht], fun t ht1 _ _ hok hinv => ?_⟩⟩⟩⟩⟩⟩
   clear o2 o3 o4 o5 n5
   refine ⟨fun hlt2 => ?_, fun hge2 => ?_⟩
   ·have qt : Option.map eInt c.parents[t]? = some (eInt c.parents[t]) := by simp -implicitDefEqProofs [List.getElem?_eq_getElem hlt2]
    have n7 := n4 t hlt2
    have q7 := hq t hlt2
    simp -implicitDefEqProofs [qt, eInt, hlt2]
    have n8 : 0 <= c.parents[t] -> c.parents[t] <= (i : Int) - 1 -> ∀ j, j < t + 1 -> inN i (c.parents[j]?.getD 0) = true := fun g1 g2 j hj => by
     rcases Nat.lt_or_ge j t with h3 | h3
     ·exact hinv j h3
     ·have : j = t := by omega
      subst this
      rw [q7]
      simp -implicitDefEqProofs [g1, g2]
    refine ⟨by omega, by omega, fun _ _ => ⟨fun h => n7 (by simp; omega), fun g1 g2 => ⟨by omega, by omega, fun _ _ => ⟨t + 1, rfl, by omega, by omega, hprev, hok, n8 g1 g2, by omega⟩⟩⟩⟩
   ·have n7 := n6 hok (fun j hj => hinv j (by omega))
    exact ⟨by omega, by omega, fun _ _ => ⟨i + 1, rfl, by omega, by omega, n7, by omega⟩⟩
  ·have o5 := o3 (by omega) (by omega)
   refine ⟨fun hn => n5 (by rw [o5]; simp -implicitDefEqProofs [hn]), fun hn => ⟨hpc, fun ht => n5 (by rw [o5]; simp -implicitDefEqProofs [ht]), fun ht _ => ⟨by omega, hprev, by rw [o5]; simp -implicitDefEqProofs [hn, ht], fun t ht1 _ _ hok hinv => ?_⟩⟩⟩
   clear o2 o3 o4 o5 n5
   refine ⟨fun hlt2 => ?_, fun hge2 => ?_⟩
   ·have qt : Option.map eInt c.parents[t]? = some (eInt c.parents[t]) := by simp -implicitDefEqProofs [List.getElem?_eq_getElem hlt2]
    have n7 := n4 t hlt2
    have q7 := hq t hlt2
    simp -implicitDefEqProofs [qt, eInt, hlt2]
    have n8 : 0 <= c.parents[t] -> c.parents[t] <= (i : Int) - 1 -> ∀ j, j < t + 1 -> inN i (c.parents[j]?.getD 0) = true := fun g1 g2 j hj => by
     rcases Nat.lt_or_ge j t with h3 | h3
     ·exact hinv j h3
     ·have : j = t := by omega
      subst this
      rw [q7]
      simp -implicitDefEqProofs [g1, g2]
    refine ⟨by omega, by omega, fun _ _ => ⟨fun h => n7 (by simp; omega), fun g1 g2 => ⟨by omega, by omega, fun _ _ => ⟨t + 1, rfl, by omega, by omega, hprev, hok, n8 g1 g2, by omega⟩⟩⟩⟩
   ·have n7 := n6 hok (fun j hj => hinv j (by omega))
    exact ⟨by omega, by omega, fun _ _ => ⟨i + 1, rfl, by omega, by omega, n7, by omega⟩⟩
 ·refine ⟨r, r.heads, ⟨⟨rfl, rfl⟩, rfl⟩, hr1, ?_⟩
  rw [Bool.eq_iff_iff, a4l]
  exact ⟨fun h => h.2.2, fun h => ⟨by omega, fun j hj => hprev j (by omega), h⟩⟩
def oneP (i : Nat) (ps : List Int) (k : Nat) : Bool := inN i (ps.getD k 0) && !(decide (0 < k) && decide (ps.getD k 0 = ps.getD 0 0))
def okS1 (c : CommitD) : Bool := decide (c.parents.length <= 2) && a1o c.who && a1Y c.tree
def okCS (cs : List CommitD) (i : Nat) : Bool := (List.range (cs.getD i default).parents.length).all (oneP i (cs.getD i default).parents) && okS1 (cs.getD i default)
def a0Q (r : RepoD) : Bool := (List.range r.commits.length).all (okCS r.commits) && a1O r.commits.length r.heads && decide (r.commits.length <= 16)
theorem a1i (r : RepoD) : a0Q r = true ↔ (∀ i, i < r.commits.length -> okCS r.commits i = true) /\ a1O r.commits.length r.heads = true /\ r.commits.length <= 16 := by simp -implicitDefEqProofs [a0Q, and_assoc]
theorem c5t {r : RepoD} {i : Nat} (hi : i < r.commits.length) (hb : okCS r.commits i = false) : a0Q r = false := by
 cases hq : a0Q r with
 | false => rfl
 | true => have := ((a1i r).1 hq).1 i hi; simp -implicitDefEqProofs [hb] at this
theorem c2R {r : RepoD} (hb : a1O r.commits.length r.heads = false) : a0Q r = false := by
 unfold a0Q; rw [hb]; simp
theorem c4X {cs : List CommitD} {i : Nat} (h : okS1 (cs.getD i default) = false) : okCS cs i = false := by unfold okCS; rw [h, Bool.and_false]
theorem c4Y {cs : List CommitD} {i k : Nat} (hk : k < (cs.getD i default).parents.length) (h : oneP i (cs.getD i default).parents k = false) : okCS cs i = false := by
 unfold okCS
 have : (List.range (cs.getD i default).parents.length).all (oneP i (cs.getD i default).parents) = false := by
  rw [List.all_eq_false]
  exact ⟨k, List.mem_range.2 hk, by simpa using h⟩
 rw [this, Bool.false_and]
theorem c4Z {cs : List CommitD} {i : Nat} (h : okS1 (cs.getD i default) = true) (h2 : ∀ k, k < (cs.getD i default).parents.length -> oneP i (cs.getD i default).parents k = true) : okCS cs i = true := by
 unfold okCS
 rw [h, Bool.and_true, List.all_eq_true]
 intro k hk
 exact h2 k (by simpa using hk)
theorem a1s (r : RepoD) : a0K r = a0Q r := by
 have h : ∀ i, okCI r.commits i = okCS r.commits i := by
  intro i
  unfold okCI okCS okI1 okS1
  generalize r.commits.getD i default = c
  rw [a4N]
  rw [Bool.eq_iff_iff]
  simp only [Bool.and_eq_true, List.all_eq_true, List.mem_range, decide_eq_true_eq, oneP, Bool.not_eq_true', Bool.and_eq_false_iff, decide_eq_false_iff_not]
  constructor
  ·rintro ⟨⟨⟨⟨h1, h2⟩, h3⟩, h4⟩, h5⟩
   refine ⟨fun k hk => ⟨h5 k hk, ?_⟩, ⟨h1, h3⟩, h4⟩
   by_cases h0 : k = 0
   ·exact .inl (by omega)
   ·right
    have : k = 1 := by omega
    subst this
    rcases h2 with h2 | h2
    ·omega
    ·exact fun e => h2 e.symm
  ·rintro ⟨h1, ⟨h2, h3⟩, h4⟩
   refine ⟨⟨⟨⟨h2, ?_⟩, h3⟩, h4⟩, fun k hk => (h1 k hk).1⟩
   by_cases h0 : c.parents.length = 2
   ·right
    rcases (h1 1 (by omega)).2 with h5 | h5
    ·omega
    ·exact fun e => h5 e.symm
   ·exact .inl h0
 rw [Bool.eq_iff_iff, a4l, a1i]
 simp only [h]
 exact ⟨fun ⟨a, b, c⟩ => ⟨b, c, a⟩, fun ⟨b, c, a⟩ => ⟨a, b, c⟩⟩
def a8O : Con := .fn 26 (List Str × List Str) (fun a => [.sl true 1 (a0a a.1), .sl true 1 (a0a a.2)]) (fun _ => True) (fun a => .bool (decide (a.1 = a.2))) (fun _ => [])
theorem b0V : Has Tryz.prog 228 a8O := by
 refine a0e mixed a0i HasL.nil [0, 1, 4, 5] ((fun a n (_ : Nat) => (fun a _ => ⟨Nat, fun i => ⟨[(0, true, .sl true 1 (a0a a.1)), (1, true, .sl true 1 (a0a a.2)), (4, true, .bool false), (5, true, .int .i64 i)], []⟩, fun i => i <= a.1.length /\ a.1.length = a.2.length /\ a.1.take i = a.2.take i, fun i => a.1.length - i⟩) a n)) [] Tryz.func228 (by unfold Tryz.f228; rfl) (fun _ => ⟨(), trivial⟩) ?_
 intro a _
 obtain ⟨l, r⟩ := a
 simp -implicitDefEqProofs [a8O, Con.fn, tTab]
 try dsimp only
 try simp +contextual -implicitDefEqProofs [eStr, a0y, a0s, a0z, a0t, List.getElem?_eq_getElem, a0u, a0p, a0r, a0q, <- a0h, <- a0f, a0m, a0n, a0l, a0k, a0o, a0j, and_assoc]
 repeat' (first | intro _ | apply And.intro)
 all_goals first | omega | grind [a0B, a4J, a3z]
def getL : List FileD -> Str -> List Str × Bool
 | [], _ => ([], false)
 | f :: l, p => if f.path = p then (f.text, true) else getL l p
def b4q : Con := .fn 25 (List FileD × Str) (fun a => [.sl true 2 (a0c a.1), .str a.2]) (fun _ => True) (fun a => .tup [.sl true 1 (a0a (getL a.1 a.2).1), .bool (getL a.1 a.2).2]) (fun _ => [])
theorem c1X : Has Tryz.prog 213 b4q := by
 refine a0e mixed a0i HasL.nil [0, 1, 4, 5, 6] ((fun a n (_ : Nat) => (fun a _ => ⟨Nat, fun i => ⟨[(0, true, .sl true 2 (a0c a.1)), (1, true, .str a.2), (4, true, .nil), (5, true, .bool false), (6, true, .int .i64 i)], []⟩, fun i => i <= a.1.length /\ getL (a.1.drop i) a.2 = getL a.1 a.2, fun i => a.1.length - i⟩) a n)) [] Tryz.func213 (by unfold Tryz.f213; rfl) (fun _ => ⟨(), trivial⟩) ?_
 intro a _
 obtain ⟨t, p⟩ := a
 have e1 : ∀ i (h : i < t.length), getL (t.drop i) p = if t[i].path = p then (t[i].text, true) else getL (t.drop (i + 1)) p := fun i h => by rw [List.drop_eq_getElem_cons h]; rfl
 have e2 : ∀ i, t.length <= i -> getL (t.drop i) p = ([], false) := fun i h => by rw [List.drop_eq_nil_of_le h]; rfl
 simp -implicitDefEqProofs [b4q, Con.fn, tTab]
 try dsimp only
 refine fun i hi hpre _ => ⟨fun hlt => ?_, fun hge => ?_⟩
 ·have g := e1 i hlt
  rw [hpre] at g
  simp -implicitDefEqProofs [hlt, a0y, D.asStr, D.asRows, and_assoc]
  refine ⟨fun h => ?_, fun h => ⟨by omega, by omega, fun _ _ => ⟨i + 1, by omega, by omega, ?_, by omega⟩⟩⟩
  ·rw [g, if_pos h]; exact ⟨rfl, rfl⟩
  ·rw [g, if_neg h]
 ·rw [<- hpre, e2 i hge]; exact ⟨rfl, rfl⟩
def atL : List HeadD -> Str -> Int
 | [], _ => -1
 | h :: l, n => if h.name = n then h.at_ else atL l n
def b0y : Con := .fn 27 (RepoD × Str) (fun a => [a1E a.1, .str a.2]) (fun _ => True) (fun a => .int .i64 (atL a.1.heads a.2)) (fun _ => [])
theorem b0a : Has Tryz.prog 55 b0y := by
 refine a0e mixed a0i HasL.nil [0, 1, 2, 4, 5] ((fun a n (_ : Nat) => (fun a _ => ⟨Nat, fun i => ⟨[(1, true, .str a.2), (2, true, .ptr 10 0), (4, true, .int .i64 0), (5, true, .int .i64 i)], [(10, a2A a.1)]⟩, fun i => i <= a.1.heads.length /\ atL (a.1.heads.drop i) a.2 = atL a.1.heads a.2, fun i => a.1.heads.length - i⟩) a n)) [] Tryz.func55 (by unfold Tryz.f55; rfl) (fun _ => ⟨(), trivial⟩) ?_
 intro a _
 obtain ⟨r, p⟩ := a
 have e1 : ∀ i (h : i < r.heads.length), atL (r.heads.drop i) p = if r.heads[i].name = p then r.heads[i].at_ else atL (r.heads.drop (i + 1)) p := fun i h => by rw [List.drop_eq_getElem_cons h]; rfl
 have e2 : ∀ i, r.heads.length <= i -> atL (r.heads.drop i) p = -1 := fun i h => by rw [List.drop_eq_nil_of_le h]; rfl
 simp -implicitDefEqProofs [b0y, Con.fn, tTab, a0Y]
 try dsimp only
 refine fun i hi hpre _ => ⟨fun hlt => ?_, fun hge => by rw [<- hpre, e2 i hge]⟩
 have g := e1 i hlt
 rw [hpre] at g
 simp -implicitDefEqProofs [hlt, a0R, D.asStr, D.asInt, and_assoc]
 refine ⟨fun h => ?_, fun h => ⟨by omega, by omega, fun _ _ => ⟨i + 1, by omega, by omega, ?_, by omega⟩⟩⟩
 ·rw [g, if_pos h]
 ·rw [g, if_neg h]
def lcs : List Str -> List Str -> Int
 | [], _ => 0
 | _ :: _, [] => 0
 | x :: a, y :: b => if x = y then lcs a b + 1 else if lcs (x :: a) b <= lcs a (y :: b) then lcs a (y :: b) else lcs (x :: a) b
termination_by a b => a.length + b.length
def eRow (r : List Int) : List D := [.sl 3 1 (a0d r)]
def a0T (t : List (List Int)) : List (List D) := t.map eRow
@[simp] theorem eRows_length (l : List (List Int)) : (a0T l).length = l.length := by simp -implicitDefEqProofs [a0T]
@[simp] theorem eRows_nil : a0T [] = [] := rfl
@[simp] theorem eRows_get (l : List (List Int)) (i : Nat) : (a0T l)[i]? = l[i]?.map eRow := by simp -implicitDefEqProofs [a0T]
def tabF (a b : List Str) (p q : Nat) : List (List Int) := (List.range (a.length + 1)).map fun r => (List.range (b.length + 1)).map fun c => if p <= r \/ (r + 1 = p /\ q <= c) then lcs (a.drop r) (b.drop c) else 0
theorem b5G (i n : Nat) : a0T (List.replicate (i + 1) (List.replicate (n + 1) 0)) = a0T (List.replicate i (List.replicate (n + 1) 0)) ++ [[D.sl 3 1 (List.replicate (n + 1) [D.int .i64 0])]] := by
 rw [List.replicate_succ']
 simp -implicitDefEqProofs [a0T, eRow, a0d, eInt]
theorem a9l {a b : List Str} {p q : Nat} : (tabF a b p q).length = a.length + 1 := by simp -implicitDefEqProofs [tabF]
def tabR (a b : List Str) (p q r : Nat) : List Int := (List.range (b.length + 1)).map fun c => if p <= r \/ (r + 1 = p /\ q <= c) then lcs (a.drop r) (b.drop c) else 0
theorem a4m {a b : List Str} {p q r : Nat} (h : r <= a.length) : (tabF a b p q)[r]? = some (tabR a b p q r) := by
 simp -implicitDefEqProofs [tabF, tabR, List.getElem?_map, List.getElem?_range (show r < a.length + 1 by omega)]
theorem c2h (b : List Str) : lcs [] b = 0 := by rw [lcs]
theorem c2i (a : List Str) : lcs a [] = 0 := by cases a <;> rw [lcs]
theorem a6l {a b : List Str} {i : Nat} (h : a.length + 1 = i) : tabF a b a.length (b.length + 1) = List.replicate i (List.replicate (b.length + 1) 0) := by
 subst h
 apply List.ext_getElem
 ·simp -implicitDefEqProofs [tabF]
 ·intro r h1 h2
  apply List.ext_getElem
  ·simp -implicitDefEqProofs [tabF]
  ·intro c h3 h4
   simp only [tabF, List.getElem_map, List.getElem_range, List.getElem_replicate]
   split
   ·rename_i h5
    have h6 : a.drop r = [] := by
     rcases h5 with h5 | ⟨_, h5⟩
     ·exact List.drop_eq_nil_of_le h5
     ·simp -implicitDefEqProofs [tabF] at h3; omega
    rw [h6, c2h]
   ·rfl
theorem a9k {a b : List Str} {p : Nat} : tabF a b p b.length = tabF a b p (b.length + 1) := by
 unfold tabF
 apply List.map_congr_left
 intro r _
 apply List.map_congr_left
 intro c hc
 have hc : c < b.length + 1 := by simpa using hc
 by_cases h : p <= r
 ·rw [if_pos (.inl h), if_pos (.inl h)]
 ·by_cases h2 : r + 1 = p /\ b.length <= c
  ·rw [if_pos (.inr h2), if_neg (by omega), List.drop_eq_nil_of_le h2.2, c2i]
  ·rw [if_neg (by omega), if_neg (by omega)]
theorem a7F {a b : List Str} {p : Nat} (h : 0 < p) : tabF a b (p - 1) (b.length + 1) = tabF a b p 0 := by
 unfold tabF
 apply List.map_congr_left
 intro r _
 apply List.map_congr_left
 intro c hc
 have hc : c < b.length + 1 := by simpa using hc
 by_cases h2 : p <= r + 1
 ·rw [if_pos (.inl (by omega)), if_pos (by omega)]
 ·rw [if_neg (by omega), if_neg (by omega)]
theorem b5X {a b : List Str} {q : Nat} : tabF a b 0 q = tabF a b 0 0 := by
 unfold tabF
 apply List.map_congr_left
 intro r _
 apply List.map_congr_left
 intro c _
 rw [if_pos (.inl (Nat.zero_le _)), if_pos (.inl (Nat.zero_le _))]
theorem a3R {a b : List Str} {p q r : Nat} : (tabR a b p q r).length = b.length + 1 := by simp -implicitDefEqProofs [tabR]
theorem a3i {a b : List Str} {p q r c : Nat} (h : c <= b.length) : (tabR a b p q r)[c]? = some (if p <= r \/ (r + 1 = p /\ q <= c) then lcs (a.drop r) (b.drop c) else 0) := by
 simp -implicitDefEqProofs [tabR, List.getElem?_map, List.getElem?_range (show c < b.length + 1 by omega)]
theorem a6H (a b : List Str) : 0 <= lcs a b /\ lcs a b <= a.length := by
 fun_induction lcs a b
 ·simp
 ·simp; omega
 ·simp_all; omega
 ·simp_all; omega
 ·simp_all
theorem b5h {a b : List Str} {p q : Nat} (hp : 0 < p) (hp2 : p <= a.length) (hq : 0 < q) (hq2 : q <= b.length) : lcs (a.drop (p - 1)) (b.drop (q - 1)) = if a[p - 1] = b[q - 1] then lcs (a.drop p) (b.drop q) + 1 else if lcs (a.drop (p - 1)) (b.drop q) <= lcs (a.drop p) (b.drop (q - 1)) then lcs (a.drop p) (b.drop (q - 1)) else lcs (a.drop (p - 1)) (b.drop q) := by
 have e1 : a.drop (p - 1) = a[p - 1] :: a.drop p := by rw [List.drop_eq_getElem_cons (show p - 1 < a.length by omega), show p - 1 + 1 = p by omega]
 have e2 : b.drop (q - 1) = b[q - 1] :: b.drop q := by rw [List.drop_eq_getElem_cons (show q - 1 < b.length by omega), show q - 1 + 1 = q by omega]
 rw [e1, e2, lcs]
theorem b7T {a b : List Str} {p q : Nat} (hp : 0 < p) (hp2 : p <= a.length) (hq : 0 < q) (hq2 : q <= b.length) : ∀ v, v = lcs (a.drop (p - 1)) (b.drop (q - 1)) -> (a0T (tabF a b p q)).set (p - 1) [D.sl 3 1 ((a0d (tabR a b p q (p - 1))).set (q - 1) [D.int .i64 v])] = a0T (tabF a b p (q - 1)) := by
 intro v hv
 have e : (tabF a b p q).set (p - 1) ((tabR a b p q (p - 1)).set (q - 1) v) = tabF a b p (q - 1) := by
  apply List.ext_getElem
  ·simp -implicitDefEqProofs [tabF]
  ·intro r h1 h2
   rw [List.getElem_set]
   split
   ·rename_i hr
    subst hr
    apply List.ext_getElem
    ·simp -implicitDefEqProofs [tabF, tabR]
    ·intro c h3 h4
     rw [List.getElem_set]
     split
     ·rename_i hc
      subst hc
      simp only [tabF, List.getElem_map, List.getElem_range]
      rw [if_pos (by omega), hv]
     ·rename_i hc
      simp only [tabF, tabR, List.getElem_map, List.getElem_range]
      by_cases h : p <= p - 1 \/ (p - 1 + 1 = p /\ q <= c)
      ·rw [if_pos h, if_pos (by omega)]
      ·rw [if_neg h, if_neg (by omega)]
   ·rename_i hr
    simp only [tabF, List.getElem_map, List.getElem_range]
    apply List.map_congr_left
    intro c _
    by_cases h : p <= r \/ (r + 1 = p /\ q <= c)
    ·rw [if_pos h, if_pos (by omega)]
    ·rw [if_neg h, if_neg (by omega)]
 rw [<- e]
 simp -implicitDefEqProofs [a0T, eRow, a0d, List.map_set, eInt]
def l1tA (a b : List Str) : Inv := ⟨Nat, fun i => ⟨[(0, true, .sl true 1 (a0a a)), (1, true, .sl true 1 (a0a b)), (4, true, .nil), (5, true, .own 9 1 (a0T (List.replicate i (List.replicate (b.length + 1) 0)))), (6, true, .int .i64 i)], [(9, .own 33 1 true (a0T (List.replicate i (List.replicate (b.length + 1) 0))))]⟩, fun i => i <= a.length + 1, fun i => a.length + 1 - i⟩
def l1tB (a b : List Str) : Inv := ⟨Nat, fun p => ⟨[(0, true, .sl true 1 (a0a a)), (1, true, .sl true 1 (a0a b)), (4, true, .nil), (5, true, .own 9 1 (a0T (tabF a b p (b.length + 1)))), (7, true, .int .i64 ((p : Int) - 1))], [(9, .own 33 1 true (a0T (tabF a b p (b.length + 1))))]⟩, fun p => p <= a.length, fun p => p⟩
def l1tC (a b : List Str) (g : Nat) : Inv := ⟨Nat, fun q => ⟨[(0, true, .sl true 1 (a0a a)), (1, true, .sl true 1 (a0a b)), (4, true, .nil), (5, true, .own 9 1 (a0T (tabF a b g q))), (7, true, .int .i64 ((g : Int) - 1)), (8, true, .int .i64 ((q : Int) - 1))], [(9, .own 33 1 true (a0T (tabF a b g q)))]⟩, fun q => q <= b.length /\ 0 < g /\ g <= a.length, fun q => q⟩
def b0W (a b : List Str) (n g : Nat) : Inv := if n = 3 then l1tA a b else if n = 7 then l1tB a b else l1tC a b g
theorem c4y (a b g) : b0W a b 3 g = l1tA a b := rfl
theorem c4z (a b g) : b0W a b 7 g = l1tB a b := rfl
theorem c1V (a b g) : b0W a b 10 g = l1tC a b g := rfl
def a9J : Con := .fn 110 (List Str × List Str) (fun a => [.sl true 1 (a0a a.1), .sl true 1 (a0a a.2)]) (fun a => a.1.length <= 1048576 /\ a.2.length <= 1048576) (fun a => .own 8 1 (a0T (tabF a.1 a.2 0 0))) (fun a => [(8, .own 33 1 true (a0T (tabF a.1 a.2 0 0)))])
theorem b6I : Has Tryz.prog 247 a9J := by
 refine a0e mixed a0i HasL.nil [0, 1, 4, 5, 6, 7, 8] (fun a => b0W a.1 a.2) [] Tryz.func247 (by unfold Tryz.f247; rfl) (fun _ => ⟨(), trivial⟩) ?_
 intro a ha
 obtain ⟨a, b⟩ := a
 obtain ⟨h1, h2⟩ : a.length <= 1048576 /\ b.length <= 1048576 := ha
 simp (maxSteps := 4000000) [a9J, Con.fn, tTab, c4y, c4z, c1V, l1tA, l1tB, l1tC]
 try dsimp only
 refine ⟨⟨0, by simp⟩, fun i hi _ => ⟨fun hlt _ => ⟨by omega, fun _ _ => ⟨by omega, fun _ _ _ => ⟨by omega, by omega, fun _ _ => ⟨i + 1, ⟨⟨?_, by omega⟩, ?_⟩, by omega, by omega⟩⟩⟩⟩, fun hge _ => ⟨by omega, fun _ _ => ⟨⟨a.length, ⟨⟨?_, rfl⟩, ?_⟩, Nat.le_refl _⟩, fun p hp => ⟨fun h1p _ => ⟨by omega, fun _ _ => ⟨p, ⟨b.length, ⟨⟨?_, rfl, rfl⟩, ?_⟩, Nat.le_refl _, by omega, hp⟩, fun q hq hg hga => ⟨fun hq1 => ?_, fun hq0 => ⟨by omega, fun _ _ => ⟨p - 1, ⟨⟨?_, by omega⟩, ?_⟩, by omega, by omega⟩⟩⟩⟩⟩, fun hp0 => ?_⟩⟩⟩⟩⟩
 ·rw [b5G]
 ·rw [b5G]
 ·rw [a6l (show a.length + 1 = i by omega)]
 ·rw [a6l (show a.length + 1 = i by omega)]
 ·rw [a9k]
 ·rw [a9k]
 ·obtain ⟨T, hT⟩ : ∃ T, T = tabF a b p q := ⟨_, rfl⟩
  have t1 := @a9l a b p q
  have t2 := a4m (a := a) (b := b) (p := p) (q := q) (r := p) (by omega)
  have t3 := a4m (a := a) (b := b) (p := p) (q := q) (r := p - 1) (by omega)
  have t4 : a[p - 1]? = some a[p - 1] := List.getElem?_eq_getElem (by omega)
  have t5 : b[q - 1]? = some b[q - 1] := List.getElem?_eq_getElem (by omega)
  have u1 := @a3R a b p q p
  have u2 := @a3R a b p q (p - 1)
  have u3 : (tabR a b p q p)[q]? = some (lcs (a.drop p) (b.drop q)) := by rw [a3i (by omega), if_pos (by omega)]
  have u4 : (tabR a b p q p)[q - 1]? = some (lcs (a.drop p) (b.drop (q - 1))) := by rw [a3i (by omega), if_pos (by omega)]
  have u5 : (tabR a b p q (p - 1))[q]? = some (lcs (a.drop (p - 1)) (b.drop q)) := by rw [a3i (by omega), if_pos (by omega)]
  have v1 := a6H (a.drop p) (b.drop q)
  have v2 := a6H (a.drop p) (b.drop (q - 1))
  have v3 := a6H (a.drop (p - 1)) (b.drop q)
  have v4 : (a.drop p).length <= a.length := by simp
  have v5 : (a.drop (p - 1)).length <= a.length := by simp
  have w1 := b7T (a := a) (b := b) (p := p) (q := q) hg hga (by omega) hq
  have w2 := b5h (a := a) (b := b) (p := p) (q := q) hg hga (by omega) hq
  rw [<- hT] at t1 t2 t3 w1 ⊢
  clear hT
  generalize lcs (a.drop p) (b.drop q) = L11 at *
  generalize lcs (a.drop p) (b.drop (q - 1)) = L10 at *
  generalize lcs (a.drop (p - 1)) (b.drop q) = L01 at *
  generalize tabR a b p q p = rB at *
  generalize tabR a b p q (p - 1) = rA at *
  simp -implicitDefEqProofs [t1, t2, t3, t4, t5, u1, u2, u3, u4, u5, eInt, eStr, D.asStr, eRow, D.asRows, D.asInt, and_assoc]
  have fin : ∀ v, v = lcs (a.drop (p - 1)) (b.drop (q - 1)) -> ∃ t', a0T (tabF a b p t') = (a0T T).set (p - 1) [D.sl 3 1 ((a0d rA).set (q - 1) [D.int .i64 v])] /\ (t' : Int) = q - 1 /\ (a0T T).set (p - 1) [D.sl 3 1 ((a0d rA).set (q - 1) [D.int .i64 v])] = a0T (tabF a b p t') /\ t' <= b.length /\ 0 < p /\ p <= a.length /\ t' < q :=
   fun v hv => ⟨q - 1, (w1 v hv).symm, by omega, w1 v hv, by omega, hg, hga, by omega⟩
  repeat' (first | intro _ | apply And.intro)
  all_goals first | omega | exact fin _ (by rw [w2, if_pos (by assumption)]) | exact fin _ (by rw [w2, if_neg (by assumption), if_pos (by assumption)]) | exact fin _ (by rw [w2, if_neg (by assumption), if_neg (by omega)])
 ·rw [show q = 0 by omega, a7F (by omega)]
 ·rw [show q = 0 by omega, a7F (by omega)]
 ·rw [show p = 0 by omega, b5X]; exact ⟨rfl, rfl⟩
def mt : List Str -> List Str -> Nat -> List Int
 | [], _, _ => []
 | _ :: a, [], k => -1 :: mt a [] k
 | x :: a, y :: b, k => if x = y then (k : Int) :: mt a b (k + 1) else if lcs (x :: a) b <= lcs a (y :: b) then -1 :: mt a (y :: b) k else mt (x :: a) b (k + 1)
termination_by a b => a.length + b.length
theorem a6I (a b : List Str) (k : Nat) : (mt a b k).length = a.length := by
 fun_induction mt a b k <;> simp_all
theorem c2t {a b : List Str} {i k : Nat} (h : i < a.length) (hk : b.length <= k) : mt (a.drop i) (b.drop k) k = -1 :: mt (a.drop (i + 1)) (b.drop k) k := by
 rw [List.drop_eq_getElem_cons h, List.drop_eq_nil_of_le hk, mt]
theorem b7E {a b : List Str} {i k : Nat} (h : i < a.length) (hk : k < b.length) : mt (a.drop i) (b.drop k) k = if a[i] = b[k] then (k : Int) :: mt (a.drop (i + 1)) (b.drop (k + 1)) (k + 1) else if lcs (a.drop i) (b.drop (k + 1)) <= lcs (a.drop (i + 1)) (b.drop k) then -1 :: mt (a.drop (i + 1)) (b.drop k) k else mt (a.drop i) (b.drop (k + 1)) (k + 1) := by
 have e1 : a.drop i = a[i] :: a.drop (i + 1) := List.drop_eq_getElem_cons h
 have e2 : b.drop k = b[k] :: b.drop (k + 1) := List.drop_eq_getElem_cons hk
 rw [e1, e2, mt]
theorem a4g (o : List Int) (v : Int) : a0d (o ++ [v]) = a0d o ++ [[D.int .i64 v]] := by simp -implicitDefEqProofs [a0d, eInt]
def l1m (a b : List Str) : Inv := ⟨Nat × Nat × List Int, fun t => ⟨[(0, true, .sl true 1 (a0a a)), (1, true, .sl true 1 (a0a b)), (4, true, .nil), (5, true, .own 9 1 (a0T (tabF a b 0 0))), (6, true, .own 10 1 (a0d t.2.2)), (7, true, .int .i64 t.2.1), (8, true, .int .i64 t.1)], [(9, .own 33 1 true (a0T (tabF a b 0 0))), (10, .own 3 1 true (a0d t.2.2))]⟩,
 fun t => t.1 <= a.length /\ t.2.1 <= b.length /\ t.2.2.length = t.1 /\ t.2.2 ++ mt (a.drop t.1) (b.drop t.2.1) t.2.1 = mt a b 0, fun t => (a.length - t.1) + (b.length - t.2.1)⟩
def a9I : Con := .fn 73 (List Str × List Str) (fun a => [.sl true 1 (a0a a.1), .sl true 1 (a0a a.2)]) (fun a => a.1.length <= 1048576 /\ a.2.length <= 1048576) (fun a => .own 8 1 (a0d (mt a.1 a.2 0))) (fun a => a2S 8 (mt a.1 a.2 0))
theorem b6H : Has Tryz.prog 229 a9I := by
 refine a0e mixed a0i (HasL.cons b6I HasL.nil) [0, 1, 4, 5, 6, 7, 8] ((fun a n (_ : Nat) => (fun a _ => l1m a.1 a.2) a n)) [] Tryz.func229 (by unfold Tryz.f229; rfl) (fun _ => ⟨(), trivial⟩) ?_
 intro a ha
 obtain ⟨a, b⟩ := a
 obtain ⟨h1, h2⟩ : a.length <= 1048576 /\ b.length <= 1048576 := ha
 simp (maxSteps := 4000000) [a9I, a9J, Con.fn, tTab, l1m]
 try dsimp only
 refine ⟨a, b, ⟨rfl, rfl⟩, ⟨h1, h2⟩, ⟨0, 0, [], ⟨⟨rfl, rfl, rfl, rfl⟩, rfl, rfl⟩, Nat.zero_le _, Nat.zero_le _, rfl, by simp⟩, fun i k out hi hk hl hm _ => ⟨fun hlt => ?_, fun hge => ?_⟩⟩
 ·have t1 := @a9l a b 0 0
  have t2 := a4m (a := a) (b := b) (p := 0) (q := 0) (r := i) (by omega)
  have t3 := a4m (a := a) (b := b) (p := 0) (q := 0) (r := i + 1) (by omega)
  have u1 := @a3R a b 0 0 i
  have u2 := @a3R a b 0 0 (i + 1)
  have t4 : a[i]? = some a[i] := List.getElem?_eq_getElem hlt
  have m0 := c2t (a := a) (b := b) (i := i) (k := k) hlt
  rcases Nat.lt_or_ge k b.length with hkb | hkb
  ·have t5 : b[k]? = some b[k] := List.getElem?_eq_getElem hkb
   have u3 : (tabR a b 0 0 (i + 1))[k]? = some (lcs (a.drop (i + 1)) (b.drop k)) := by rw [a3i (by omega), if_pos (by omega)]
   have u4 : (tabR a b 0 0 i)[k + 1]? = some (lcs (a.drop i) (b.drop (k + 1))) := by rw [a3i (by omega), if_pos (by omega)]
   have m1 := b7E (a := a) (b := b) (i := i) (k := k) hlt hkb
   generalize tabF a b 0 0 = T at *
   generalize tabR a b 0 0 i = rA at *
   generalize tabR a b 0 0 (i + 1) = rB at *
   generalize lcs (a.drop (i + 1)) (b.drop k) = L1 at *
   generalize lcs (a.drop i) (b.drop (k + 1)) = L2 at *
   have g1 : ¬ b.length <= k := by omega
   obtain ⟨_, u6⟩ := List.getElem?_eq_some_iff.1 u4
   simp -implicitDefEqProofs [hkb, g1, t1, t2, t3, t4, t5, u1, u2, u3, u4, u6, eInt, eStr, D.asStr, eRow, D.asRows, D.asInt, and_assoc]
   refine ⟨hlt, fun _ => ⟨fun e => ⟨by omega, by omega, by omega, by omega, fun _ _ => ⟨by omega, by omega, fun _ _ => ⟨i + 1, k + 1, out ++ [(k : Int)], a4g _ _, by omega, by omega, (a4g _ _).symm, by omega, by omega, by simp -implicitDefEqProofs [hl], ?_, by omega⟩⟩⟩, fun e => ⟨by omega, by omega, fun _ _ => ⟨by omega, by omega, fun _ _ => ⟨by omega, fun _ => ⟨by omega, fun _ => ⟨by omega, by omega, fun _ _ => ⟨by omega, fun _ => ⟨fun c => ⟨by omega, by omega, by omega, by omega, fun _ _ => ⟨i + 1, k, out ++ [-1], a4g _ _, by omega, by omega, (a4g _ _).symm, by omega, by omega, by simp -implicitDefEqProofs [hl], ?_, by omega⟩⟩, fun c => ⟨by omega, by omega, fun _ _ => ⟨i, k + 1, by omega, by omega, by omega, by omega, hl, ?_, by omega⟩⟩⟩⟩⟩⟩⟩⟩⟩⟩⟩
   ·rw [<- hm, m1, if_pos e]; simp
   ·rw [<- hm, m1, if_neg e, if_pos c]; simp
   ·rw [<- hm, m1, if_neg e, if_neg (by omega)]
  ·have g1 : ¬ k < b.length := by omega
   simp -implicitDefEqProofs [hkb, g1, t4, eStr, D.asStr, and_assoc]
   refine ⟨by omega, by omega, by omega, by omega, fun _ _ => ⟨i + 1, k, out ++ [-1], a4g _ _, by omega, by omega, (a4g _ _).symm, by omega, by omega, by simp -implicitDefEqProofs [hl], ?_, by omega⟩⟩
   rw [<- hm, m0 (by omega)]; simp
 ·rw [List.drop_eq_nil_of_le hge, mt, List.append_nil] at hm
  exact ⟨hm.symm, hm⟩
structure PartD where
 clash : Bool
 lines : List Str
 old : List Str
 one : List Str
 two : List Str
 deriving DecidableEq, Inhabited
def a1J (a : PartD) : List D := [.bool a.clash, .sl 9 1 (a0a a.lines), .sl 9 1 (a0a a.old), .sl 9 1 (a0a a.one), .sl 9 1 (a0a a.two)]
@[simp] theorem ePart_inj (a b : PartD) : (a1J a = a1J b) = (a = b) := by
 cases a; cases b; simp -implicitDefEqProofs [a1J]
@[simp] theorem PartD.eta (a : PartD) : (⟨a.clash, a.lines, a.old, a.one, a.two⟩ : PartD) = a := rfl
theorem PartD.eq_iff (a b : PartD) : (a = b) = (a.clash = b.clash /\ a.lines = b.lines /\ a.old = b.old /\ a.one = b.one /\ a.two = b.two) := by
 cases a; cases b; simp
@[simp] theorem PartD.ex1 (x_clash : Bool) (x_lines : List Str) (x_old : List Str) (x_one : List Str) (x_two : List Str) (Q : PartD -> Prop) : (∃ a : PartD, a.clash = x_clash /\ a.lines = x_lines /\ a.old = x_old /\ a.one = x_one /\ a.two = x_two /\ Q a) = Q ⟨x_clash, x_lines, x_old, x_one, x_two⟩ := by
 apply propext
 constructor
 ·rintro ⟨⟨_, _, _, _, _⟩, rfl, rfl, rfl, rfl, rfl, h⟩; exact h
 ·intro h; exact ⟨⟨x_clash, x_lines, x_old, x_one, x_two⟩, rfl, rfl, rfl, rfl, rfl, h⟩
@[simp] theorem PartD.ex2 (x_clash : Bool) (x_lines : List Str) (x_old : List Str) (x_one : List Str) (x_two : List Str) (Q : PartD -> Prop) : (∃ a : PartD, (a.clash = x_clash /\ a.lines = x_lines /\ a.old = x_old /\ a.one = x_one /\ a.two = x_two) /\ Q a) = Q ⟨x_clash, x_lines, x_old, x_one, x_two⟩ := by
 apply propext
 constructor
 ·rintro ⟨⟨_, _, _, _, _⟩, ⟨rfl, rfl, rfl, rfl, rfl⟩, h⟩; exact h
 ·intro h; exact ⟨⟨x_clash, x_lines, x_old, x_one, x_two⟩, ⟨rfl, rfl, rfl, rfl, rfl⟩, h⟩
@[simp] theorem PartD.ex0 (x_clash : Bool) (x_lines : List Str) (x_old : List Str) (x_one : List Str) (x_two : List Str) : (∃ a : PartD, a.clash = x_clash /\ a.lines = x_lines /\ a.old = x_old /\ a.one = x_one /\ a.two = x_two) = True := by
 simp only [eq_iff_iff, iff_true]
 exact ⟨⟨x_clash, x_lines, x_old, x_one, x_two⟩, rfl, rfl, rfl, rfl, rfl⟩
def a0x (l : List PartD) : List (List D) := l.map a1J
@[simp] theorem eParts_length (l : List PartD) : (a0x l).length = l.length := by simp -implicitDefEqProofs [a0x]
@[simp] theorem eParts_nil : a0x [] = [] := rfl
@[simp] theorem eParts_get (l : List PartD) (i : Nat) : (a0x l)[i]? = l[i]?.map a1J := by simp -implicitDefEqProofs [a0x]
@[simp] theorem eParts_getElem (l : List PartD) (i : Nat) (h : i < (a0x l).length) : (a0x l)[i] = a1J (l[i]'(by simpa using h)) := by simp -implicitDefEqProofs [a0x]
@[simp] theorem eParts_inj (a b : List PartD) : (a0x a = a0x b) = (a = b) := by
 apply propext
 constructor
 ·intro h
  exact List.map_inj_right (fun x y h => by simpa using h) |>.1 h
 ·rintro rfl; rfl
@[simp] theorem eParts_eq_nil (a : List PartD) : (a0x a = []) = (a = []) := by simp -implicitDefEqProofs [a0x]
@[simp] theorem nil_eq_eParts (a : List PartD) : ([] = a0x a) = (a = []) := by simp -implicitDefEqProofs [a0x, eq_comm]
theorem b3j (a b : List PartD) : a0x (a ++ b) = a0x a ++ a0x b := by simp -implicitDefEqProofs [a0x]
abbrev b0d (h : Nat) (a : List PartD) : List (Nat × Blk) := [(h, .own 229 5 true (a0x a))]
def a0U (o a b : List Str) : PartD := if a = o \/ a = b then ⟨false, b, [], [], []⟩ else if b = o then ⟨false, a, [], [], []⟩ else ⟨true, [], o, a, b⟩
theorem a9u (o a b : List Str) : (a0U o a b).lines.length <= a.length + b.length := by
 unfold a0U
 split
 ·simp
 ·split <;> simp
def put3 (l : List PartD) (p : PartD) : List PartD :=
 if p.clash = false /\ p.lines = [] then l
 else match l.getLast? with
  | some q => if p.clash = false /\ q.clash = false then l.set (l.length - 1) ⟨q.clash, q.lines ++ p.lines, q.old, q.one, q.two⟩ else l ++ [p]
  | none => l ++ [p]
theorem a7A (l : List PartD) (p : PartD) : (put3 l p).length <= l.length + 1 := by
 unfold put3
 split
 ·omega
 ·split
  ·split <;> simp
  ·simp
theorem a9e {l : List PartD} {p : PartD} {n : Nat} (h : ∀ q ∈ l, q.lines.length <= n) : ∀ q ∈ put3 l p, q.lines.length <= n + p.lines.length := by
 intro q hq
 unfold put3 at hq
 split at hq
 ·have := h q hq; omega
 ·split at hq
  ·rename_i r hr
   split at hq
   ·rcases List.mem_or_eq_of_mem_set hq with hq | hq
    ·have := h q hq; omega
    ·subst hq
     have := h r (List.mem_of_getLast? hr)
     simp; omega
   ·rcases List.mem_append.1 hq with hq | hq
    ·have := h q hq; omega
    ·simp at hq; subst hq; omega
  ·rcases List.mem_append.1 hq with hq | hq
   ·have := h q hq; omega
   ·simp at hq; subst hq; omega
def asc : Int -> Int -> List Int -> Prop
 | _, _, [] => True
 | k, n, x :: l => (x < 0 /\ asc k n l) \/ (k <= x /\ x < n /\ asc (x + 1) n l)
theorem a6Y : ∀ {l : List Int} {k k' n : Int}, k <= k' -> asc k' n l -> asc k n l
 | [], _, _, _, _, _ => trivial
 | x :: l, k, k', n, h, h2 => by
  rcases h2 with ⟨h3, h4⟩ | ⟨h3, h4, h5⟩
  ·exact .inl ⟨h3, a6Y h h4⟩
  ·exact .inr ⟨by omega, h4, h5⟩
theorem a9C : ∀ {l : List Int} {k n : Int}, k <= n -> asc k n l -> asc k (n + 1) (l ++ [n])
 | [], k, n, h, _ => .inr ⟨h, by omega, trivial⟩
 | x :: l, k, n, h, h2 => by
  rcases h2 with ⟨h3, h4⟩ | ⟨h3, h4, h5⟩
  ·exact .inl ⟨h3, a9C h h4⟩
  ·exact .inr ⟨h3, by omega, a9C (by omega) h5⟩
theorem c8A (a b : List Str) (k : Nat) : asc k (k + b.length) (mt a b k) := by
 fun_induction mt a b k with
 | case1 => trivial
 | case2 x a k ih => exact .inl ⟨by omega, ih⟩
 | case3 a y b k ih =>
  refine .inr ⟨by omega, by simp only [List.length_cons]; omega, ?_⟩
  have e : ((k + 1 : Nat) : Int) + b.length = k + (y :: b).length := by simp only [List.length_cons]; omega
  rw [e] at ih
  exact ih
 | case4 x a y b k h h2 ih => exact .inl ⟨by omega, ih⟩
 | case5 x a y b k h1 h2 ih =>
  have e : ((k + 1 : Nat) : Int) + b.length = k + (y :: b).length := by simp only [List.length_cons]; omega
  rw [e] at ih
  exact a6Y (by omega) ih
def mtE (a b : List Str) : List Int := mt a b 0 ++ [(b.length : Int)]
theorem a5z (a b : List Str) : (mtE a b).length = a.length + 1 := by simp -implicitDefEqProofs [mtE, a6I]
theorem b7D (a b : List Str) : asc 0 (b.length + 1) (mtE a b) := by
 have h := c8A a b 0
 have := a9C (k := 0) (n := b.length) (by omega) (by simpa using h)
 exact this
theorem a6w {l : List Int} {i : Nat} {k n : Int} (h : i < l.length) (ha : asc k n (l.drop i)) : (l[i] < 0 /\ asc k n (l.drop (i + 1))) \/ (k <= l[i] /\ l[i] < n /\ asc (l[i] + 1) n (l.drop (i + 1))) := by
 rw [List.drop_eq_getElem_cons h] at ha
 exact ha
structure S3 where
 io : Nat
 ia : Nat
 ib : Nat
 out : List PartD
def a5w (o a b : List Str) (x y : Int) (i : Nat) (s : S3) : S3 :=
 if x < 0 \/ y < 0 then s
 else ⟨i + 1, x.toNat + 1, y.toNat + 1,
  if i < o.length then put3 (put3 s.out (a0U ((o.take i).drop s.io) ((a.take x.toNat).drop s.ia) ((b.take y.toNat).drop s.ib))) ⟨false, [o.getD i []], [], [], []⟩
  else put3 s.out (a0U ((o.take i).drop s.io) ((a.take x.toNat).drop s.ia) ((b.take y.toNat).drop s.ib))⟩
def run3 (o a b : List Str) : Nat -> S3
 | 0 => ⟨0, 0, 0, []⟩
 | i + 1 => a5w o a b ((mtE o a).getD i 0) ((mtE o b).getD i 0) i (run3 o a b i)
def of3 (o a b : List Str) : List PartD := (run3 o a b (o.length + 1)).out
def Ok3 (o a b : List Str) (i : Nat) (s : S3) : Prop :=
 s.io <= i /\ s.ia <= a.length + 1 /\ s.ib <= b.length + 1 /\ asc s.ia (a.length + 1) ((mtE o a).drop i) /\ asc s.ib (b.length + 1) ((mtE o b).drop i) /\ s.out.length <= 2 * i /\ ∀ q ∈ s.out, q.lines.length <= s.io + s.ia + s.ib
theorem c8Z (o a b : List Str) : Ok3 o a b 0 ⟨0, 0, 0, []⟩ := ⟨by simp, by simp, by simp, by simpa using b7D o a, by simpa using b7D o b, by simp, by simp⟩
theorem c4T {o a b : List Str} {i : Nat} {s : S3} (hi : i < o.length + 1) (h : Ok3 o a b i s) : Ok3 o a b (i + 1) (a5w o a b ((mtE o a).getD i 0) ((mtE o b).getD i 0) i s) := by
 obtain ⟨h1, h2, h3, h4, h5, h6, h7⟩ := h
 have la := a5z o a
 have lb := a5z o b
 have ga : (mtE o a).getD i 0 = (mtE o a)[i]'(by omega) := by simp -implicitDefEqProofs [List.getD_eq_getElem?_getD, List.getElem?_eq_getElem (show i < (mtE o a).length by omega)]
 have gb : (mtE o b).getD i 0 = (mtE o b)[i]'(by omega) := by simp -implicitDefEqProofs [List.getD_eq_getElem?_getD, List.getElem?_eq_getElem (show i < (mtE o b).length by omega)]
 rw [ga, gb]
 have h4 := a6w (l := mtE o a) (by omega) h4
 have h5 := a6w (l := mtE o b) (by omega) h5
 generalize (mtE o a)[i]'(by omega) = x at *
 generalize (mtE o b)[i]'(by omega) = y at *
 unfold a5w
 split
 ·rename_i hxy
  refine ⟨by omega, h2, h3, ?_, ?_, by omega, h7⟩
  ·rcases h4 with h4 | h4
   ·exact h4.2
   ·exact a6Y (by omega) h4.2.2
  ·rcases h5 with h5 | h5
   ·exact h5.2
   ·exact a6Y (by omega) h5.2.2
 ·rename_i hxy
  rcases h4 with h4 | ⟨h4, h41, h42⟩
  ·omega
  rcases h5 with h5 | ⟨h5, h51, h52⟩
  ·omega
  have ex : ((x.toNat + 1 : Nat) : Int) = x + 1 := by omega
  have ey : ((y.toNat + 1 : Nat) : Int) = y + 1 := by omega
  have b1 := a9u ((o.take i).drop s.io) ((a.take x.toNat).drop s.ia) ((b.take y.toNat).drop s.ib)
  have b2 := a9e (p := a0U ((o.take i).drop s.io) ((a.take x.toNat).drop s.ia) ((b.take y.toNat).drop s.ib)) h7
  have b3 := a7A s.out (a0U ((o.take i).drop s.io) ((a.take x.toNat).drop s.ia) ((b.take y.toNat).drop s.ib))
  generalize a0U ((o.take i).drop s.io) ((a.take x.toNat).drop s.ia) ((b.take y.toNat).drop s.ib) = p at *
  have b1 : p.lines.length <= (x.toNat - s.ia) + (y.toNat - s.ib) := by
   refine Nat.le_trans b1 ?_
   simp only [List.length_drop, List.length_take]
   omega
  refine ⟨by simp, by simp; omega, by simp; omega, by simpa only [ex] using h42, by simpa only [ey] using h52, ?_, ?_⟩
  ·show (if i < o.length then _ else _ : List PartD).length <= _
   split
   ·have := a7A (put3 s.out p) ⟨false, [o.getD i []], [], [], []⟩
    omega
   ·omega
  ·show ∀ q ∈ (if i < o.length then _ else _ : List PartD), _
   split
   ·intro q hq
    have := a9e (p := ⟨false, [o.getD i []], [], [], []⟩) b2 q hq
    simp at this
    show q.lines.length <= (i + 1) + (x.toNat + 1) + (y.toNat + 1)
    omega
   ·intro q hq
    have := b2 q hq
    show q.lines.length <= (i + 1) + (x.toNat + 1) + (y.toNat + 1)
    omega
theorem a6K (o a b : List Str) : ∀ i, i <= o.length + 1 -> Ok3 o a b i (run3 o a b i)
 | 0, _ => c8Z o a b
 | i + 1, h => c4T (by omega) (a6K o a b i (by omega))
def a1R (l : List PartD) : List Str × Bool := if l.any (·.clash) then ([], false) else if a1d (l.flatMap (·.lines)) then (l.flatMap (·.lines), true) else ([], false)
def rsO (r : RepoD) : Inv := ⟨Nat, fun i => ⟨[(1, true, .ptr 10 0), (2, true, .bool false), (3, true, .int .i64 i)], [(10, a2A r)]⟩, fun i => i <= r.commits.length /\ ∀ j, j < i -> okCS r.commits j = true, fun i => r.commits.length - i⟩
def rsI (r : RepoD) (g : Nat) : Inv := ⟨Nat, fun k => ⟨[(1, true, .ptr 10 0), (2, true, .bool false), (3, true, .int .i64 g), (4, true, .ptr 11 0), (5, true, .int .i64 k)], [(10, a2A r), (11, .box 102 [.sl true 1 (a0d (r.commits.getD g default).parents), .str (r.commits.getD g default).who, .sl true 2 (a0c (r.commits.getD g default).tree)])]⟩,
 fun k => g < r.commits.length /\ k <= (r.commits.getD g default).parents.length /\ (∀ j, j < g -> okCS r.commits j = true) /\ ∀ j, j < k -> oneP g (r.commits.getD g default).parents j = true, fun k => (r.commits.getD g default).parents.length - k⟩
def rsH (r : RepoD) : Inv := ⟨Nat, fun i => ⟨[(1, true, .ptr 10 0), (2, true, .bool false), (6, true, .int .i64 i)], [(10, a2A r)]⟩, fun i => i <= r.heads.length /\ (∀ j, j < r.commits.length -> okCS r.commits j = true) /\ ∀ j, j < i -> okHd r.commits.length r.heads j = true, fun i => r.heads.length - i⟩
def b3T (r : RepoD) (n g : Nat) : Inv := if n = 2 then rsO r else if n = 6 then rsI r g else rsH r
theorem c7y (r : RepoD) (g : Nat) : b3T r 2 g = rsO r := rfl
theorem c7z (r : RepoD) (g : Nat) : b3T r 6 g = rsI r g := rfl
theorem c5v (r : RepoD) (g : Nat) : b3T r 13 g = rsH r := rfl
def b0z : Con := .fn 126 RepoD (fun r => [a1E r]) (fun r => r.commits.length <= 1073741824) (fun r => .bool (a0Q r)) (fun _ => [])
theorem b0c : Has Tryz.prog 52 b0z := by
 refine a0e mixed a0i (HasL.cons a7t (HasL.cons a7u (HasL.cons b5g HasL.nil))) [0, 1, 2, 3, 4, 5, 6] (fun r => b3T r) [] Tryz.func52 (by unfold Tryz.f52; rfl) (fun _ => ⟨(), trivial⟩) ?_
 intro (r : RepoD) hr
 replace hr : r.commits.length <= 1073741824 := hr
 have hN := fun i => @c5t r i
 have hN1 := fun i => @c4X r.commits i
 have hN2 := fun i k => @c4Y r.commits i k
 have hY := fun i => @c4Z r.commits i
 have hM := fun i => @b2H r.commits.length r.heads i
 have hH := @c2R r
 simp -implicitDefEqProofs [b0z, Con.fn, tTab, a6y, b3I, a8N, c7y, c7z, c5v, rsO, rsI, rsH, a0Y]
 try dsimp only
 refine fun i hi hprev _ => ⟨fun hlt => ?_, fun hge => ?_⟩
 ·have e3 : Option.map a0E r.commits[i]? = some (a0E r.commits[i]) := by simp -implicitDefEqProofs [List.getElem?_eq_getElem hlt]
  have hgc : r.commits.getD i default = r.commits[i] := by simp -implicitDefEqProofs [List.getD_eq_getElem?_getD, hlt]
  have n0 := hN i hlt
  have n1 := hN1 i
  have n2 := hN2 i
  have n3 := hY i
  rw [hgc] at n1 n2 n3
  simp -implicitDefEqProofs [hlt, e3, a0E, D.asStr, D.asRows, a0z, and_assoc]
  try simp only [show r.commits[i]?.getD default = r.commits[i] by simp -implicitDefEqProofs [hlt]]
  generalize r.commits[i] = c at n1 n2 n3 ⊢
  clear hN hN1 hN2 hY hM hH e3 hgc
  refine ⟨hprev, fun t ht _ hinv _ => ⟨fun hlt2 => ?_, fun hge2 => ?_⟩⟩
  ·have qt : Option.map eInt c.parents[t]? = some (eInt c.parents[t]) := by simp -implicitDefEqProofs [List.getElem?_eq_getElem hlt2]
   have q0 : Option.map eInt c.parents[0]? = some (eInt (c.parents[0]'(by omega))) := by simp -implicitDefEqProofs [List.getElem?_eq_getElem (show 0 < c.parents.length by omega)]
   have o : oneP i c.parents t = ((decide (0 <= c.parents[t]) && decide (c.parents[t] <= (i : Int) - 1)) && !(decide (0 < t) && decide (c.parents[t] = c.parents[0]'(by omega)))) := by
    unfold oneP inN
    rw [show c.parents.getD t 0 = c.parents[t] by simp -implicitDefEqProofs [List.getD_eq_getElem?_getD, hlt2], show c.parents.getD 0 0 = c.parents[0]'(by omega) by simp -implicitDefEqProofs [List.getD_eq_getElem?_getD, show 0 < c.parents.length by omega]]
   have n7 : oneP i c.parents t = false -> a0Q r = false := fun h => n0 (n2 t hlt2 h)
   have n8 : oneP i c.parents t = true -> ∀ j, j < t + 1 -> oneP i c.parents j = true := fun h j hj => by
    rcases Nat.lt_or_ge j t with h3 | h3
    ·exact hinv j h3
    ·have : j = t := by omega
     subst this; exact h
   simp -implicitDefEqProofs [qt, q0, eInt, hlt2]
   refine ⟨by omega, by omega, fun _ _ => ⟨fun h => ?_, fun g1 g2 => ⟨fun h0 => ⟨by omega, fun _ => ⟨fun he => n7 (by rw [o]; simp -implicitDefEqProofs [he, h0]), fun he => ⟨by omega, by omega, fun _ _ => ⟨t + 1, rfl, by omega, hprev, n8 (by rw [o]; simp -implicitDefEqProofs [g1, g2, he]), by omega⟩⟩⟩⟩,
    fun h0 => ⟨by omega, by omega, fun _ _ => ⟨t + 1, rfl, by omega, hprev, n8 (by rw [o, show decide (0 < t) = false by simp -implicitDefEqProofs [h0]]; simp -implicitDefEqProofs [g1, g2]), by omega⟩⟩⟩⟩⟩
   have : a0Q r = false := n7 (by rw [o]; simp; omega)
   exact ⟨fun _ => this, fun _ => this⟩
  ·have n9 : okS1 c = false -> a0Q r = false := fun h => n0 (n1 h)
   have n10 : okS1 c = true -> ∀ j, j < i + 1 -> okCS r.commits j = true := fun h j hj => by
    rcases Nat.lt_or_ge j i with h3 | h3
    ·exact hprev j h3
    ·have : j = i := by omega
     subst this
     exact n3 h (fun k hk => hinv k (by omega))
   refine fun _ => ⟨fun h => n9 (by simp -implicitDefEqProofs [okS1]; omega), fun h => ⟨fun hn => n9 (by simp -implicitDefEqProofs [okS1, hn]), fun hn => ⟨fun ht => n9 (by simp -implicitDefEqProofs [okS1, ht]), fun ht => ⟨by omega, by omega, fun _ _ => ⟨i + 1, rfl, by omega, n10 (by simp -implicitDefEqProofs [okS1, hn, ht]; omega), by omega⟩⟩⟩⟩⟩
 ·clear hN hN1 hN2 hY
  have hall : ∀ j, j < r.commits.length -> okCS r.commits j = true := fun j hj => hprev j (by omega)
  refine ⟨hall, fun t ht _ hinv _ => ⟨fun hlt2 => ?_, fun hge2 _ => ?_⟩⟩
  ·generalize hhs : r.heads = hs at *
   have e3 : Option.map a0R hs[t]? = some (a0R hs[t]) := by simp -implicitDefEqProofs [List.getElem?_eq_getElem hlt2]
   have e4 : Option.map a0R hs[t - 1]? = some (a0R (hs[t - 1]'(by omega))) := by simp -implicitDefEqProofs [List.getElem?_eq_getElem (show t - 1 < hs.length by omega)]
   have hh : okHd r.commits.length hs t = (a1o hs[t].name && inN r.commits.length hs[t].at_ && (decide (t = 0) || Go.Op.bytesLess (hs[t - 1]'(by omega)).name hs[t].name)) := by
    unfold okHd
    rw [show hs.getD t default = hs[t] by simp -implicitDefEqProofs [List.getD_eq_getElem?_getD, hlt2], show hs.getD (t - 1) default = hs[t - 1]'(by omega) by simp -implicitDefEqProofs [List.getD_eq_getElem?_getD, show t - 1 < hs.length by omega]]
   have n7 : okHd r.commits.length hs t = false -> a0Q r = false := fun h => hH (hM t hlt2 h)
   have n8 : okHd r.commits.length hs t = true -> ∀ j, j < t + 1 -> okHd r.commits.length hs j = true := fun h j hj => by
    rcases Nat.lt_or_ge j t with h3 | h3
    ·exact hinv j h3
    ·have : j = t := by omega
     subst this; exact h
   have hq := b5j hs[t].name (hs[t - 1]'(by omega)).name
   rw [a4j] at hh
   unfold leqS at hq
   rw [hh] at n7 n8
   unfold inN at n7 n8
   clear hh hH hM
   simp -implicitDefEqProofs [hlt2, e3, e4, a0R, D.asStr, D.asInt, a0z, and_assoc]
   try simp +contextual -implicitDefEqProofs [eStr, a0y, a0s, a0z, a0t, List.getElem?_eq_getElem, a0u, a0p, a0r, a0q, <- a0h, <- a0f, a0m, a0n, a0l, a0k, a0o, a0j, and_assoc, hlt2]
   clear e3 e4 hinv hprev
   repeat' (first | intro _ | apply And.intro)
   all_goals first | omega | grind -ring
  ·have h2 : a1O r.commits.length r.heads = decide (r.heads.length <= 5) := by
    unfold a1O
    have : (List.range r.heads.length).all (okHd r.commits.length r.heads) = true := by
     rw [List.all_eq_true]
     intro j hj
     have hj' : j < r.heads.length := by simpa using hj
     exact hinv j (by omega)
    rw [this, Bool.and_true]
   refine ⟨fun h16 _ => ?_, fun h16 => ?_⟩
   ·rw [Bool.eq_iff_iff, a1i, h2]
    simp only [decide_eq_true_eq]
    exact ⟨fun h => by have := h.2.1; omega, fun h => ⟨hall, by omega, by omega⟩⟩
   ·cases hq : a0Q r with
    | false => rfl
    | true => have := ((a1i r).1 hq).2.2; omega
theorem a3P {r : RepoD} (h : a0K r = true) {i : Nat} (hi : i < r.commits.length) : r.commits[i].parents.length <= 2 /\ (∀ p ∈ r.commits[i].parents, 0 <= p /\ p < (i : Int)) /\ a0I r.commits[i].tree = true := by
 have h1 := ((a4l r).1 h).2.1 i hi
 have hg : r.commits.getD i default = r.commits[i] := by simp -implicitDefEqProofs [List.getD_eq_getElem?_getD, hi]
 simp only [okCI, okI1, hg, Bool.and_eq_true, decide_eq_true_eq, List.all_eq_true, List.mem_range] at h1
 refine ⟨h1.1.1.1.1, fun p hp => ?_, h1.1.2⟩
 obtain ⟨k, hk, rfl⟩ := List.getElem_of_mem hp
 have h2 := h1.2 k hk
 simp only [inN, Bool.and_eq_true, decide_eq_true_eq, List.getD_eq_getElem?_getD, List.getElem?_eq_getElem hk, Option.getD_some] at h2
 omega
theorem a4e {r : RepoD} (h : a0K r = true) : r.commits.length <= 16 := ((a4l r).1 h).1
def b0D : Con := .fn 13 (RepoD × Int) (fun a => [a1E a.1, .int .i64 a.2]) (fun a => 0 <= a.2 /\ a.2 < a.1.commits.length) (fun a => .sl true 2 (a0c (a.1.commits.getD a.2.toNat default).tree)) (fun _ => [])
theorem b3e : Has Tryz.prog 84 b0D := by
 refine a0e mixed a0i HasL.nil [0, 1, 2, 4] ((fun a n (_ : Nat) => (fun _ => a0L) a n)) [] Tryz.func84 (by unfold Tryz.f84; rfl) (fun _ => ⟨(), trivial⟩) ?_
 intro a ha
 obtain ⟨r, n⟩ := a
 obtain ⟨h1, h2⟩ : 0 <= n /\ n < r.commits.length := ha
 have hi : n.toNat < r.commits.length := by omega
 have e : Option.map a0E r.commits[n.toNat]? = some (a0E r.commits[n.toNat]) := by simp -implicitDefEqProofs [hi]
 simp -implicitDefEqProofs [b0D, Con.fn, tTab, e, a0E, hi, h1, h2]
 try dsimp only
 exact fun h => absurd h (by omega)
def a0O (r : RepoD) (a : Int) : List FileD := (r.commits.getD a.toNat default).tree
--TAB a1D
def a1D : List (Nat × TI) := (108, ⟨false, [.sl 4 1], 24, [], 4⟩) :: tTab
theorem a1H : ∀ t ti, get? a1D t = some ti -> TOk Tryz.prog t ti := a8A (by kernel_rfl)
def a1u (b : Bool) : List D := [.bool b]
@[simp] theorem eBool_inj (a b : Bool) : (a1u a = a1u b) = (a = b) := by simp -implicitDefEqProofs [a1u]
def a0C (l : List Bool) : List (List D) := l.map a1u
@[simp] theorem eBools_length (l : List Bool) : (a0C l).length = l.length := by simp -implicitDefEqProofs [a0C]
@[simp] theorem eBools_nil : a0C [] = [] := rfl
@[simp] theorem eBools_get (l : List Bool) (i : Nat) : (a0C l)[i]? = l[i]?.map a1u := by simp -implicitDefEqProofs [a0C]
@[simp] theorem eBools_getElem (l : List Bool) (i : Nat) (h : i < (a0C l).length) : (a0C l)[i] = a1u (l[i]'(by simpa using h)) := by simp -implicitDefEqProofs [a0C]
@[simp] theorem eBools_inj (a b : List Bool) : (a0C a = a0C b) = (a = b) := by
 apply propext
 constructor
 ·intro h
  exact List.map_inj_right (fun x y h => by simpa using h) |>.1 h
 ·rintro rfl; rfl
@[simp] theorem eBools_eq_nil (a : List Bool) : (a0C a = []) = (a = []) := by simp -implicitDefEqProofs [a0C]
@[simp] theorem nil_eq_eBools (a : List Bool) : ([] = a0C a) = (a = []) := by simp -implicitDefEqProofs [a0C, eq_comm]
theorem a1n (l : List Bool) (i : Nat) (b : Bool) : (a0C l).set i [.bool b] = a0C (l.set i b) := by simp -implicitDefEqProofs [a0C, List.map_set, a1u]
theorem a2X (n : Nat) (b : Bool) : List.replicate n [D.bool b] = a0C (List.replicate n b) := by simp -implicitDefEqProofs [a0C, a1u]
abbrev b5w (h : Nat) (a : List Bool) : List (Nat × Blk) := [(h, .own 4 1 true (a0C a))]
def isT (l : List Bool) (i : Nat) : Bool := l.getD i false
def a3k (l : List Bool) (i : Nat) : List Int := ((List.range i).filter (isT l)).map fun j : Nat => (j : Int)
theorem a8k {l : List Bool} {i : Nat} (h : isT l i = true) : a3k l (i + 1) = a3k l i ++ [(i : Int)] := by simp -implicitDefEqProofs [a3k, List.range_succ, h]
theorem a7x {l : List Bool} {i : Nat} (h : isT l i = false) : a3k l (i + 1) = a3k l i := by simp -implicitDefEqProofs [a3k, List.range_succ, h]
theorem a5d (l : List Bool) (i : Nat) : (a3k l i).length <= i := by
 have := List.length_filter_le (isT l) (List.range i)
 simpa [a3k] using this
def a0w (l : List Bool) : List Int := a3k l l.length
theorem listT_mem {l : List Bool} {x : Int} : x ∈ a0w l ↔ ∃ i : Nat, i < l.length /\ isT l i = true /\ x = i := by
 simp only [a0w, a3k, List.mem_map, List.mem_filter, List.mem_range]
 constructor
 ·rintro ⟨i, ⟨h1, h2⟩, rfl⟩; exact ⟨i, h1, h2, rfl⟩
 ·rintro ⟨i, h1, h2, rfl⟩; exact ⟨i, ⟨h1, h2⟩, rfl⟩
def b1T : Con := .fn 20 (List Bool) (fun l => [.sl true 1 (a0C l)]) (fun l => l.length <= 1048576) (fun l => .own 8 1 (a0d (a0w l))) (fun l => a2S 8 (a0w l))
theorem b9D : Has Tryz.prog 185 b1T := by
 refine a0e mixed a1H HasL.nil [0, 2, 3, 4, 5, 6, 7, 8] ((fun a n (_ : Nat) => (fun l _ => ⟨Nat, fun i => ⟨[(2, true, .nil), (3, true, .own 9 1 (a0d (a3k l i))), (6, true, .sl true 1 (a0C l)), (7, true, .int .i64 l.length), (8, true, .int .i64 i)], [(9, .own 3 1 true (a0d (a3k l i)))]⟩, fun i => i <= l.length, fun i => l.length - i⟩) a n)) [] Tryz.func185 (by unfold Tryz.f185; rfl) (fun _ => ⟨(), trivial⟩) ?_
 intro (l : List Bool) (ha : l.length <= 1048576)
 simp -implicitDefEqProofs [b1T, Con.fn, a1D, tTab]
 try dsimp only
 refine fun _ => ⟨⟨0, ⟨⟨rfl, rfl⟩, rfl⟩, Nat.zero_le _⟩, fun i hi => ⟨fun hlt => ?_, fun hge => ?_⟩⟩
 ·have hl := a5d l i
  have hi : isT l i = l[i] := by simp -implicitDefEqProofs [isT, List.getD_eq_getElem?_getD, hlt]
  simp -implicitDefEqProofs [hlt, a1u, D.asBool, and_assoc]
  refine ⟨fun h => ?_, fun h => ?_⟩
  ·have e := a8k (hi.trans h)
   exact ⟨by omega, by omega, by omega, by omega, fun _ _ => ⟨i + 1, by rw [e]; simp -implicitDefEqProofs [a0d, eInt], by omega, by rw [e]; simp -implicitDefEqProofs [a0d, eInt], by omega, by omega⟩⟩
  ·have e := a7x (hi.trans h)
   exact ⟨by omega, by omega, fun _ _ => ⟨i + 1, e, by omega, e.symm, by omega, by omega⟩⟩
 ·have : i = l.length := by omega
  subst this
  exact ⟨rfl, rfl⟩
def b0A : Con := .fn 18 (List Int × Int) (fun a => [.sl true 1 (a0d a.1), .int .i64 a.2]) (fun _ => True) (fun a => .bool (decide (a.2 ∈ a.1))) (fun _ => [])
theorem b2M : Has Tryz.prog 143 b0A := by
 refine a0e mixed a1H HasL.nil [0, 1, 4, 5] ((fun a n (_ : Nat) => (fun a _ => ⟨Nat, fun i => ⟨[(0, true, .sl true 1 (a0d a.1)), (1, true, .int .i64 a.2), (4, true, .bool false), (5, true, .int .i64 i)], []⟩, fun i => i <= a.1.length /\ ∀ x, x ∈ a.1.take i -> x ≠ a.2, fun i => a.1.length - i⟩) a n)) [] Tryz.func143 (by unfold Tryz.f143; rfl) (fun _ => ⟨(), trivial⟩) ?_
 intro a _
 obtain ⟨l, n⟩ := a
 simp -implicitDefEqProofs [b0A, Con.fn, a1D, tTab]
 try dsimp only
 refine fun i hi hb _ => ⟨fun hlt => ?_, fun hge => ?_⟩
 ·simp -implicitDefEqProofs [hlt, eInt, D.asInt, and_assoc]
  refine ⟨fun h => by rw [<- h]; exact List.getElem_mem hlt, fun h => ⟨by omega, by omega, fun _ _ => ⟨i + 1, by omega, by omega, fun x hx => ?_, by omega⟩⟩⟩
  rw [a0A hlt] at hx
  rcases List.mem_append.1 hx with h1 | h1
  ·exact hb x h1
  ·simp only [List.mem_singleton] at h1
   subst h1; exact h
 ·rw [List.take_of_length_le hge] at hb
  exact fun h => hb n h rfl
def putT (l : List Bool) (ps : List Int) : List Bool := ps.foldl (fun l p => l.set p.toNat true) l
theorem b5E (ps : List Int) : ∀ l : List Bool, (putT l ps).length = l.length := by
 induction ps with
 | nil => intro l; rfl
 | cons p r ih => intro l; show (putT (l.set p.toNat true) r).length = _; rw [ih]; simp
def a4b (r : RepoD) (l : List Bool) (i : Nat) : List Bool := if isT l i then putT l (r.commits.getD i default).parents else l
def ancF (r : RepoD) : Nat -> List Bool -> List Bool
 | 0, l => l
 | n + 1, l => ancF r n (a4b r l n)
def anc (r : RepoD) (a : Int) : List Bool := ancF r (a + 1).toNat ((List.replicate r.commits.length false).set a.toNat true)
theorem b4c (r : RepoD) : ∀ (n : Nat) (l : List Bool), (ancF r n l).length = l.length
 | 0, _ => rfl
 | n + 1, l => by
  show (ancF r n (a4b r l n)).length = _
  rw [b4c r n]
  unfold a4b
  split
  ·rw [b5E]
  ·rfl
theorem a2k (r : RepoD) (a : Int) : (anc r a).length = r.commits.length := by unfold anc; rw [b4c]; simp
def anO (r : RepoD) (a : Int) : Inv := ⟨List Bool × Int, fun t => ⟨[(2, true, .ptr 10 0), (4, true, .nil), (5, true, .own 9 1 (a0C t.1)), (6, true, .int .i64 t.2)], [(10, a2A r), (9, .own 4 1 true (a0C t.1))]⟩, fun t => t.1.length = r.commits.length /\ -1 <= t.2 /\ t.2 < r.commits.length /\ ancF r (t.2 + 1).toNat t.1 = anc r a, fun t => (t.2 + 1).toNat⟩
def anI (r : RepoD) (a : Int) (g : Nat) : Inv := ⟨List Bool × Nat, fun t => ⟨[(2, true, .ptr 10 0), (4, true, .nil), (5, true, .own 9 1 (a0C t.1)), (6, true, .int .i64 g), (30, true, .sl true 1 (a0d (r.commits.getD g default).parents)), (31, true, .int .i64 (r.commits.getD g default).parents.length), (32, true, .int .i64 t.2)], [(10, a2A r), (9, .own 4 1 true (a0C t.1))]⟩, fun t => t.1.length = r.commits.length /\ g < r.commits.length /\ t.2 <= (r.commits.getD g default).parents.length /\ ancF r g (putT t.1 ((r.commits.getD g default).parents.drop t.2)) = anc r a, fun t => (r.commits.getD g default).parents.length - t.2⟩
def b8d (r : RepoD) (a : Int) (n g : Nat) : Inv := if n = 4 then anO r a else anI r a g
theorem c6q (r : RepoD) (a : Int) (g : Nat) : b8d r a 4 g = anO r a := rfl
theorem c6r (r : RepoD) (a : Int) (g : Nat) : b8d r a 8 g = anI r a g := rfl
def a5l : Con := .fn 41 (RepoD × Int) (fun a => [a1E a.1, .int .i64 a.2]) (fun a => a0K a.1 = true /\ 0 <= a.2 /\ a.2 < a.1.commits.length) (fun a => .own 8 1 (a0C (anc a.1 a.2))) (fun a => b5w 8 (anc a.1 a.2))
theorem a7K : Has Tryz.prog 78 a5l := by
 refine a0e mixed a1H HasL.nil [0, 1, 2, 4, 5, 6, 8, 30, 31, 32] (fun a => b8d a.1 a.2) [] Tryz.func78 (by unfold Tryz.f78; rfl) (fun _ => ⟨(), trivial⟩) ?_
 intro a ha
 obtain ⟨r, n⟩ := a
 obtain ⟨h1, h2, h3⟩ : a0K r = true /\ 0 <= n /\ n < r.commits.length := ha
 have h4 := a4e h1
 simp -implicitDefEqProofs [a5l, Con.fn, a1D, tTab, c6q, c6r, anO, anI, a0Y]
 try dsimp only
 refine fun _ => ⟨by omega, fun _ => ⟨⟨h2, h3⟩, fun _ _ => ⟨by omega, ⟨(List.replicate r.commits.length false).set n.toNat true, n, ⟨⟨by rw [a2X]; exact (a1n _ _ _).symm, rfl⟩, by rw [a2X]; exact a1n _ _ _⟩, by simp, by omega, h3, rfl⟩, fun l b g1 g2 g3 g4 => ⟨fun hb => ⟨⟨hb, by omega⟩, fun _ _ => ?_⟩, fun hb => ?_⟩⟩⟩⟩
 ·have hb1 : b.toNat < l.length := by omega
  have hb2 : b.toNat < r.commits.length := by omega
  obtain ⟨p1, p2, _⟩ := a3P h1 hb2
  have hT : isT l b.toNat = l[b.toNat] := by simp -implicitDefEqProofs [isT, List.getD_eq_getElem?_getD, hb1]
  have hbb : (b + 1).toNat = b.toNat + 1 := by omega
  have hgd : r.commits.getD b.toNat default = r.commits[b.toNat] := by simp -implicitDefEqProofs [List.getD_eq_getElem?_getD, hb2]
  rw [hbb] at g4
  have g5 : ancF r b.toNat (a4b r l b.toNat) = anc r n := g4
  unfold a4b at g5
  rw [hT, hgd] at g5
  have e3 : Option.map a0E r.commits[b.toNat]? = some (a0E r.commits[b.toNat]) := by simp -implicitDefEqProofs [hb2]
  have hgo : r.commits[b.toNat]?.getD default = r.commits[b.toNat] := by simp -implicitDefEqProofs [hb2]
  simp -implicitDefEqProofs [hb1, a1u, D.asBool, e3, a0E, D.asRows, hb, show b < r.commits.length by omega]
  refine ⟨fun h _ => ⟨b.toNat, ?_⟩, fun h => ⟨⟨by omega, by omega⟩, fun _ _ => ⟨l, b - 1, ⟨⟨rfl, rfl⟩, rfl⟩, ⟨g1, by omega, by omega, ?_⟩, by omega⟩⟩⟩
  ·rw [if_pos h] at g5
   rw [hgo]
   generalize r.commits[b.toNat] = c at *
   refine ⟨⟨l, 0, ⟨⟨rfl, by omega, rfl, rfl, rfl⟩, rfl⟩, g1, hb2, Nat.zero_le _, g5⟩, fun m k m1 m2 m3 m4 => ⟨fun hlt => ⟨hlt, fun _ => ?_⟩, fun hge => ⟨⟨by omega, by omega⟩, fun _ _ => ⟨m, b - 1, ⟨⟨rfl, by omega⟩, rfl⟩, ⟨m1, by omega, by omega, ?_⟩, by omega⟩⟩⟩⟩
   ·have hp := p2 c.parents[k] (List.getElem_mem hlt)
    have qt : Option.map eInt c.parents[k]? = some (eInt c.parents[k]) := by simp -implicitDefEqProofs [List.getElem?_eq_getElem hlt]
    simp -implicitDefEqProofs [qt, eInt, D.asInt]
    refine ⟨⟨hp.1, by omega⟩, fun _ _ => ⟨by omega, ⟨by omega, by omega⟩, fun _ _ => ⟨m.set c.parents[k].toNat true, k + 1, ⟨⟨(a1n _ _ _).symm, by omega⟩, a1n _ _ _⟩, ⟨by simp -implicitDefEqProofs [m1], m2, by omega, ?_⟩, by omega⟩⟩⟩
    rw [List.drop_eq_getElem_cons hlt] at m4
    exact m4
   ·rw [List.drop_eq_nil_of_le hge] at m4
    rw [show (b - 1 + 1).toNat = b.toNat by omega]
    exact m4
  ·rw [if_neg (by rw [h]; simp)] at g5
   rw [show (b - 1 + 1).toNat = b.toNat by omega]
   exact g5
 ·have hbb : (b + 1).toNat = 0 := by omega
  rw [hbb] at g4
  have g5 : l = anc r n := g4
  exact ⟨g5.symm, g5⟩
--TAB a1D
--TAB a1D
theorem b0O {l : List Bool} {p g : Nat} (b : Bool) (h : p ≠ g) : isT (l.set p b) g = isT l g := by
 unfold isT
 rw [List.getD_eq_getElem?_getD, List.getD_eq_getElem?_getD, List.getElem?_set_ne h]
def alO (r : RepoD) (a : Int) : Inv := ⟨List Bool × Int, fun t => ⟨[(2, true, .ptr 10 0), (4, true, .nil), (5, true, .own 9 1 (a0C t.1)), (6, true, .int .i64 t.2)], [(10, a2A r), (9, .own 4 1 true (a0C t.1))]⟩, fun t => t.1.length = r.commits.length /\ -1 <= t.2 /\ t.2 < r.commits.length /\ ancF r (t.2 + 1).toNat t.1 = anc r a, fun t => (t.2 + 1).toNat⟩
def alI (r : RepoD) (a : Int) (g : Nat) : Inv := ⟨List Bool × Nat, fun t => ⟨[(2, true, .ptr 10 0), (4, true, .nil), (5, true, .own 9 1 (a0C t.1)), (6, true, .int .i64 g), (7, true, .int .i64 t.2)], [(10, a2A r), (9, .own 4 1 true (a0C t.1))]⟩, fun t => t.1.length = r.commits.length /\ g < r.commits.length /\ t.2 <= (r.commits.getD g default).parents.length /\ (isT t.1 g = true -> ancF r g (putT t.1 ((r.commits.getD g default).parents.drop t.2)) = anc r a) /\ (isT t.1 g = false -> ancF r g t.1 = anc r a), fun t => (r.commits.getD g default).parents.length - t.2⟩
def alT (r : RepoD) (a : Int) : Inv := ⟨Nat, fun i => ⟨[(2, true, .ptr 10 0), (4, true, .nil), (5, true, .own 9 1 (a0C (anc r a))), (8, true, .own 11 1 (a0d (a3k (anc r a) i))), (9, true, .int .i64 i)], [(10, a2A r), (9, .own 4 1 true (a0C (anc r a))), (11, .own 3 1 true (a0d (a3k (anc r a) i)))]⟩, fun i => i <= r.commits.length, fun i => r.commits.length - i⟩
def b0q (r : RepoD) (a : Int) (n g : Nat) : Inv := if n = 4 then alO r a else if n = 7 then alI r a g else alT r a
theorem b7i (r : RepoD) (a : Int) (g : Nat) : b0q r a 4 g = alO r a := rfl
theorem b7j (r : RepoD) (a : Int) (g : Nat) : b0q r a 7 g = alI r a g := rfl
theorem b3Z (r : RepoD) (a : Int) (g : Nat) : b0q r a 12 g = alT r a := rfl
def b4u : Con := .fn 66 (RepoD × Int) (fun a => [a1E a.1, .int .i64 a.2]) (fun a => a0K a.1 = true /\ 0 <= a.2 /\ a.2 < a.1.commits.length) (fun a => .own 8 1 (a0d (a0w (anc a.1 a.2)))) (fun a => a2S 8 (a0w (anc a.1 a.2)))
theorem c2e : Has Tryz.prog 144 b4u := by
 refine a0e mixed a1H HasL.nil [0, 1, 2, 4, 5, 6, 7, 8, 9] (fun a => b0q a.1 a.2) [] Tryz.func144 (by unfold Tryz.f144; rfl) (fun _ => ⟨(), trivial⟩) ?_
 intro a ha
 obtain ⟨r, n⟩ := a
 obtain ⟨h1, h2, h3⟩ : a0K r = true /\ 0 <= n /\ n < r.commits.length := ha
 have h4 := a4e h1
 simp -implicitDefEqProofs [b4u, Con.fn, a1D, tTab, b7i, b7j, b3Z, alO, alI, alT, a0Y]
 try dsimp only
 simp only [and_assoc, exists_eq_left, exists_and_left, RepoD.ex1, RepoD.eta]
 have hal := a2k r n
 refine fun _ => ⟨by omega, fun _ => ⟨h2, h3, fun _ _ => ⟨by omega, ⟨(List.replicate r.commits.length false).set n.toNat true, by rw [a2X]; exact (a1n _ _ _).symm, by rw [a2X]; exact a1n _ _ _, by simp, by omega, h3, rfl⟩, fun l b g1 g2 g3 g4 => ⟨fun hb => ⟨b.toNat, ?_⟩, fun hb => ?_⟩⟩⟩⟩
 ·have hb1 : b.toNat < l.length := by omega
  have hb2 : b.toNat < r.commits.length := by omega
  obtain ⟨p1, p2, _⟩ := a3P h1 hb2
  have hgd : r.commits.getD b.toNat default = r.commits[b.toNat] := by simp -implicitDefEqProofs [List.getD_eq_getElem?_getD, hb2]
  have hgo : r.commits[b.toNat]?.getD default = r.commits[b.toNat] := by simp -implicitDefEqProofs [hb2]
  rw [show (b + 1).toNat = b.toNat + 1 by omega] at g4
  have g5 : ancF r b.toNat (a4b r l b.toNat) = anc r n := g4
  unfold a4b at g5
  rw [hgd] at g5
  have e3 : Option.map a0E r.commits[b.toNat]? = some (a0E r.commits[b.toNat]) := by simp -implicitDefEqProofs [hb2]
  rw [hgo, e3]
  generalize r.commits[b.toNat] = c at *
  refine ⟨by omega, trivial, g1, hb2, Nat.zero_le _, fun h => ?_, fun h => ?_, fun m k m1 m2 m3 m4 m5 => ⟨hb2, fun _ => ?_⟩⟩
  ·rw [if_pos h] at g5; exact g5
  ·rw [if_neg (by rw [h]; simp)] at g5; exact g5
  ·have hbm : b.toNat < m.length := by omega
   have hT : isT m b.toNat = m[b.toNat] := by simp -implicitDefEqProofs [isT, List.getD_eq_getElem?_getD, hbm]
   have e4 : Option.map a1u m[b.toNat]? = some (a1u m[b.toNat]) := by simp -implicitDefEqProofs [hbm]
   have hmx : max b 0 = b := Int.max_eq_left hb
   simp -implicitDefEqProofs [a0E, D.asRows, e4, a1u, hbm, hb2, hmx]
   refine fun _ => ⟨fun hl2 => ⟨fun hm => ⟨hl2, fun _ => ?_⟩, fun hm => ⟨by omega, by omega, fun _ _ => ⟨m1, by omega, by omega, m5 (hT.trans hm), by omega⟩⟩⟩, fun hge => ⟨by omega, by omega, fun _ _ => ⟨m1, by omega, by omega, ?_, by omega⟩⟩⟩
   ·have hp := p2 c.parents[k] (List.getElem_mem hl2)
    have qt : Option.map eInt c.parents[k]? = some (eInt c.parents[k]) := by simp -implicitDefEqProofs [List.getElem?_eq_getElem hl2]
    simp -implicitDefEqProofs [qt, eInt, D.asInt]
    have hst : isT (m.set c.parents[k].toNat true) b.toNat = true := by rw [b0O _ (by omega)]; exact hT.trans hm
    refine ⟨hp.1, by omega, fun _ _ => ⟨by omega, by omega, by omega, fun _ _ => ⟨m.set c.parents[k].toNat true, (a1n _ _ _).symm, k + 1, by omega, a1n _ _ _, by simp -implicitDefEqProofs [m1], by omega, fun _ => ?_, fun h => ?_, by omega⟩⟩⟩
    ·have := m4 (hT.trans hm)
     rw [List.drop_eq_getElem_cons hl2] at this
     exact this
    ·rw [hst] at h; cases h
   ·cases hm : m[b.toNat] with
    | true =>
     have := m4 (hT.trans hm)
     rw [List.drop_eq_nil_of_le hge] at this
     exact this
    | false => exact m5 (hT.trans hm)
 ·rw [show (b + 1).toNat = 0 by omega] at g4
  have g5 : l = anc r n := g4
  refine ⟨g5.symm, ⟨0, rfl, rfl, g5, rfl, Nat.zero_le _⟩, fun i hi _ => ⟨fun hlt => ?_, fun hge => ?_⟩⟩
  ·have hl := a5d (anc r n) i
   have hi : isT (anc r n) i = (anc r n)[i] := by simp -implicitDefEqProofs [isT, List.getD_eq_getElem?_getD, hlt]
   rw [hal] at hlt
   simp -implicitDefEqProofs [hal, hlt, a1u, D.asBool, and_assoc]
   refine ⟨fun h => ?_, fun h => ?_⟩
   ·have e := a8k (hi.trans h)
    exact ⟨by omega, by omega, by omega, by omega, fun _ _ => ⟨i + 1, by rw [e]; simp -implicitDefEqProofs [a0d, eInt], by omega, by rw [e]; simp -implicitDefEqProofs [a0d, eInt], by omega, by omega⟩⟩
   ·have e := a7x (hi.trans h)
    exact ⟨by omega, by omega, fun _ _ => ⟨i + 1, e, by omega, e.symm, by omega, by omega⟩⟩
  ·rw [hal] at hge
   have : i = r.commits.length := by omega
   subst this
   unfold a0w
   rw [hal]
   exact ⟨rfl, rfl⟩
def b2c : Con := .fn 22 (List Int) (fun a => [.sl true 1 (a0d a)]) (fun a => a.length <= 1048576) (fun a => .own 8 1 (a0d a)) (fun a => a2S 8 a)
theorem c0p : Has Tryz.prog 149 b2c := by
 refine a0e mixed a0i HasL.nil [0, 2, 3, 4] ((fun a n (_ : Nat) => (fun a _ => ⟨Nat × List Int, fun t => ⟨[(0, true, .sl true 1 (a0d a)), (2, true, .nil), (3, true, .own 9 1 (a0d t.2)), (4, true, .int .i64 t.1)], a2S 9 t.2⟩, fun t => t.1 <= a.length /\ t.2.length = a.length /\ t.2.take t.1 = a.take t.1, fun t => a.length - t.1⟩) a n)) [] Tryz.func149 (by unfold Tryz.f149; rfl) (fun _ => ⟨(), trivial⟩) ?_
 intro (a : List Int) ha
 replace ha : a.length <= 1048576 := ha
 simp -implicitDefEqProofs [b2c, Con.fn, tTab]
 try dsimp only
 try simp +contextual [eStr, a0y, a0s, a0z, a0t, List.getElem?_eq_getElem, a0u, a0p, a0r, a0q, <- a0h, <- a0f, a0m, a0n, a0l, a0k, a0o, a0j, and_assoc, eInt, a0R, a0E, a2l, a3a, a3s, a3b, a2Z, a2o, <- a2x, a2a, a2Y, a2K, a2J, a1Z, <- a2h, a2w, a2v, a2g, a2f, a1e, <- a1I]
 repeat' (first | intro _ | apply And.intro)
 all_goals first | omega | grind [a0B, a5U, a3z]
def b2b : Con := .fn 11 HeadD (fun f => [.agg [.str f.name, .int .i64 f.at_]]) (fun _ => True) (fun f => .agg [.str f.name, .int .i64 f.at_]) (fun _ => [])
theorem c0o : Has Tryz.prog 103 b2b := by
 refine a0e mixed a0i HasL.nil [0, 1, 2, 3] ((fun a n (_ : Nat) => (fun _ => a0L) a n)) [] Tryz.func103 (by unfold Tryz.f103; rfl) (fun _ => ⟨(), trivial⟩) ?_
 intro f _
 obtain ⟨p, x⟩ := f
 simp -implicitDefEqProofs [b2b, Con.fn, tTab]
 try dsimp only
 try simp +contextual [eStr, a0y, a0s, a0z, a0t, List.getElem?_eq_getElem, a0u, a0p, a0r, a0q, <- a0h, <- a0f, a0m, a0n, a0l, a0k, a0o, a0j, and_assoc]
 repeat' (first | intro _ | apply And.intro)
 all_goals first | omega | grind [a0B]
def a9S : Con := .fn 23 (List HeadD) (fun a => [.sl true 2 (a0b a)]) (fun a => a.length <= 1048576) (fun a => .own 8 2 (a0b a)) (fun a => a2E 8 a)
theorem b7g : Has Tryz.prog 57 a9S := by
 refine a0e mixed a0i (HasL.cons c0o HasL.nil) [0, 2, 3, 4] ((fun a n (_ : Nat) => (fun a _ => ⟨Nat × List HeadD, fun t => ⟨[(0, true, .sl true 2 (a0b a)), (2, true, .nil), (3, true, .own 9 2 (a0b t.2)), (4, true, .int .i64 t.1)], a2E 9 t.2⟩, fun t => t.1 <= a.length /\ t.2.length = a.length /\ t.2.take t.1 = a.take t.1, fun t => a.length - t.1⟩) a n)) [] Tryz.func57 (by unfold Tryz.f57; rfl) (fun _ => ⟨(), trivial⟩) ?_
 intro (a : List HeadD) ha
 replace ha : a.length <= 1048576 := ha
 simp -implicitDefEqProofs [a9S, Con.fn, tTab, b2b]
 try dsimp only
 try simp +contextual [eStr, a0y, a0s, a0z, a0t, List.getElem?_eq_getElem, a0u, a0p, a0r, a0q, <- a0h, <- a0f, a0m, a0n, a0l, a0k, a0o, a0j, and_assoc, eInt, a0R, a0E, a2l, a3a, a3s, a3b, a2Z, a2o, <- a2x, a2a, a2Y, a2K, a2J, a1Z, <- a2h, a2w, a2v, a2g, a2f, a1e, <- a1I, <- HeadD.eq_iff]
 repeat' (first | intro _ | apply And.intro)
 all_goals first | omega | grind [a0B, a5U, a3z]
def a8d : Con := .fn 16 CommitD (fun f => [.agg [.sl true 1 (a0d f.parents), .str f.who, .sl true 2 (a0c f.tree)]]) (fun f => f.parents.length <= 1048576 /\ f.tree.length <= 1048576 /\ ∀ g ∈ f.tree, g.text.length <= 1048576) (fun f => .agg [.own 8 1 (a0d f.parents), .str f.who, .own 9 2 (a0c f.tree)]) (fun f => a2S 8 f.parents ++ a2N 9 f.tree)
theorem b5Z : Has Tryz.prog 102 a8d := by
 refine a0e mixed a0i (HasL.cons c0p (HasL.cons b7f HasL.nil)) [0, 1, 2, 3] ((fun a n (_ : Nat) => (fun _ => a0L) a n)) [] Tryz.func102 (by unfold Tryz.f102; rfl) (fun _ => ⟨(), trivial⟩) ?_
 intro f hf
 obtain ⟨p, x, t⟩ := f
 obtain ⟨h1, h2, h3⟩ : p.length <= 1048576 /\ t.length <= 1048576 /\ ∀ g ∈ t, g.text.length <= 1048576 := hf
 simp -implicitDefEqProofs [a8d, Con.fn, tTab, b2c, a9R]
 try dsimp only
 try simp +contextual [eStr, a0y, a0s, a0z, a0t, List.getElem?_eq_getElem, a0u, a0p, a0r, a0q, <- a0h, <- a0f, a0m, a0n, a0l, a0k, a0o, a0j, and_assoc]
 repeat' (first | intro _ | apply And.intro)
 all_goals first | omega | grind [a0B]
def cmSz (c : CommitD) : Prop := c.parents.length <= 1048576 /\ c.tree.length <= 1048576 /\ ∀ g ∈ c.tree, g.text.length <= 1048576
def a7l : Con := .fn 23 (List CommitD) (fun a => [.sl true 3 (a1g a)]) (fun a => a.length <= 1048576 /\ ∀ c ∈ a, cmSz c) (fun a => .own 8 3 (a0g a)) (fun a => a2t 8 a)
theorem b3B : Has Tryz.prog 56 a7l := by
 refine a0e mixed a0i (HasL.cons b5Z HasL.nil) [0, 2, 3, 4] ((fun a n (_ : Nat) => (fun a _ => ⟨Nat × List CommitD, fun t => ⟨[(0, true, .sl true 3 (a1g a)), (2, true, .nil), (3, true, .own 9 3 (a0g t.2)), (4, true, .int .i64 t.1)], a2t 9 t.2⟩, fun t => t.1 <= a.length /\ t.2.length = a.length /\ t.2.take t.1 = a.take t.1, fun t => a.length - t.1⟩) a n)) [] Tryz.func56 (by unfold Tryz.f56; rfl) (fun _ => ⟨(), trivial⟩) ?_
 intro (a : List CommitD) ha
 obtain ⟨h1, h2⟩ : a.length <= 1048576 /\ ∀ c ∈ a, cmSz c := ha
 have h3 : ∀ i (h : i < a.length), a[i].parents.length <= 1048576 /\ a[i].tree.length <= 1048576 /\ ∀ g ∈ a[i].tree, g.text.length <= 1048576 := fun i h => h2 _ (List.getElem_mem h)
 simp -implicitDefEqProofs [a7l, Con.fn, tTab, a8d]
 try dsimp only
 try simp +contextual [eStr, a0y, a0s, a0z, a0t, List.getElem?_eq_getElem, a0u, a0p, a0r, a0q, <- a0h, <- a0f, a0m, a0n, a0l, a0k, a0o, a0j, and_assoc, eInt, a0R, a0E, a2l, a3a, a3s, a3b, a2Z, a2o, <- a2x, a2a, a2Y, a2K, a2J, a1Z, <- a2h, a2w, a2v, a2g, a2f, a1e, <- a1I, <- CommitD.eq_iff]
 repeat' (first | intro _ | apply And.intro)
 all_goals first | omega | grind [a0B, a5U, a3z]
def rpSz (r : RepoD) : Prop := r.commits.length <= 1048576 /\ (∀ c ∈ r.commits, cmSz c) /\ r.heads.length <= 1048576
def a8V : Con := .fn 13 RepoD (fun r => [b9z r]) rpSz (fun r => .agg [.own 8 3 (a0g r.commits), .own 9 2 (a0b r.heads)]) (fun r => a2t 8 r.commits ++ a2E 9 r.heads)
theorem c0q : Has Tryz.prog 14 a8V := by
 refine a0e mixed a0i (HasL.cons b3B (HasL.cons b7g HasL.nil)) [0, 1, 2, 3] ((fun a n (_ : Nat) => (fun _ => a0L) a n)) [] Tryz.func14 (by unfold Tryz.f14; rfl) (fun _ => ⟨(), trivial⟩) ?_
 intro f hf
 obtain ⟨p, x⟩ := f
 obtain ⟨h1, h2, h3⟩ : p.length <= 1048576 /\ (∀ c ∈ p, c.parents.length <= 1048576 /\ c.tree.length <= 1048576 /\ ∀ g ∈ c.tree, g.text.length <= 1048576) /\ x.length <= 1048576 := hf
 simp -implicitDefEqProofs [a8V, Con.fn, tTab, a7l, a9S, cmSz]
 try dsimp only
 try simp +contextual [eStr, a0y, a0s, a0z, a0t, List.getElem?_eq_getElem, a0u, a0p, a0r, a0q, <- a0h, <- a0f, a0m, a0n, a0l, a0k, a0o, a0j, and_assoc]
 repeat' (first | intro _ | apply And.intro)
 all_goals first | omega | grind [a0B]
theorem c6c (p : List Int) : ∀ x ∈ a0d p, ∀ d ∈ x, match d with | .sl _ _ _ => False | _ => True := by
 intro x hx d hd
 simp only [a0d, List.mem_map] at hx
 obtain ⟨i, _, rfl⟩ := hx
 simp only [eInt, List.mem_singleton] at hd
 subst hd; trivial
theorem c6b (p : List HeadD) : ∀ x ∈ a0b p, ∀ d ∈ x, match d with | .sl _ _ _ => False | _ => True := by
 intro x hx d hd
 simp only [a0b, List.mem_map] at hx
 obtain ⟨i, _, rfl⟩ := hx
 simp only [a0R, List.mem_cons, List.not_mem_nil, or_false] at hd
 rcases hd with rfl | rfl <;> trivial
def a5j : Con := .fn 13 CommitD (fun f => [.agg [.sl true 1 (a0d f.parents), .str f.who, .sl true 2 (a0c f.tree)]]) (fun f => cmSz f) (fun f => .agg [.own 8 1 (a0d f.parents), .str f.who, .own 9 2 (a0c f.tree)]) (fun f => a2S 8 f.parents ++ a2N 9 f.tree)
theorem b0b : Has Tryz.prog 100 a5j := by
 refine a0e mixed a0i (HasL.cons b0Z HasL.nil) [0, 1, 2] ((fun a n (_ : Nat) => (fun _ => a0L) a n)) [] Tryz.func100 (by unfold Tryz.f100; rfl) (fun _ => ⟨(), trivial⟩) ?_
 intro f hf
 obtain ⟨p, x, t⟩ := f
 obtain ⟨h1, h2, h3⟩ : p.length <= 1048576 /\ t.length <= 1048576 /\ ∀ g ∈ t, g.text.length <= 1048576 := hf
 simp -implicitDefEqProofs [a5j, a8P, Con.fn, tTab]
 try dsimp only
 exact ⟨c6c p, by omega, h2, h3⟩
abbrev a8I : Blk := .box 32 [.nil, .nil]
def l7cO (r : RepoD) : Inv := ⟨Nat, fun i => ⟨[(1, true, .ptr 12 0), (2, true, .ptr 10 0), (3, true, .ptr 11 0), (4, true, .int .i64 i)], [(12, a2A r), (10, a8I), (11, .box 32 [.own 13 3 (a0g (r.commits.take i)), .own 14 2 (a0b r.heads)]), (13, .own 102 3 true (a0g (r.commits.take i))), (14, .own 69 2 true (a0b r.heads))]⟩, fun i => i <= r.commits.length, fun i => r.commits.length - i⟩
def a8Q : Con := .fn 29 RepoD (fun r => [a1E r]) rpSz (fun r => .agg [.own 8 3 (a0g r.commits), .own 9 2 (a0b r.heads)]) (fun r => a2t 8 r.commits ++ a2E 9 r.heads)
theorem b1b : Has Tryz.prog 53 a8Q := by
 refine a0e mixed a0i (HasL.cons b0b HasL.nil) [0, 1, 2, 3, 4] ((fun a n (_ : Nat) => (fun r _ => l7cO r) a n)) [25, 26] Tryz.func53 (by unfold Tryz.f53; rfl) (fun _ => ⟨(), trivial⟩) ?_
 intro (r : RepoD) hr
 obtain ⟨h1, h2, h3⟩ : r.commits.length <= 1048576 /\ (∀ c ∈ r.commits, cmSz c) /\ r.heads.length <= 1048576 := hr
 simp -implicitDefEqProofs [a8Q, a5j, Con.fn, tTab, l7cO, a0Y]
 try dsimp only
 refine ⟨c6b r.heads, by omega, ⟨0, ⟨rfl, .inl rfl⟩, Nat.zero_le _⟩, fun i hi _ => ⟨fun hlt => ?_, fun hge => ?_⟩⟩
 ·have e : r.commits.take (i + 1) = r.commits.take i ++ [r.commits[i]] := a0A hlt
  have hc := h2 _ (List.getElem_mem hlt)
  simp -implicitDefEqProofs [hlt, a0E, D.asStr, D.asRows, and_assoc]
  refine ⟨hc, by omega, by omega, by omega, by omega, fun _ _ => ⟨i + 1, by omega, ?_, ?_, by omega, by omega⟩⟩
  ·rw [e, a1e]
  ·rw [e, a1e]
 ·rw [List.take_of_length_le hge]; exact ⟨rfl, rfl⟩
def a1x (n : Str) (a : Int) (acc : List HeadD × Bool) (g : HeadD) : List HeadD × Bool :=
 if acc.2 = false /\ Go.Op.bytesLess g.name n = false then (if g.name = n then (acc.1 ++ [⟨n, a⟩], true) else (acc.1 ++ [⟨n, a⟩] ++ [g], true))
 else (if g.name = n then acc else (acc.1 ++ [g], acc.2))
def hL (n : Str) (a : Int) (l : List HeadD) : List HeadD × Bool := l.foldl (a1x n a) ([], false)
def hSet (l : List HeadD) (n : Str) (a : Int) : List HeadD := if (hL n a l).2 then (hL n a l).1 else (hL n a l).1 ++ [⟨n, a⟩]
theorem c6O {n : Str} {a : Int} {t : List HeadD} {i : Nat} (h : i < t.length) : hL n a (t.take (i + 1)) = a1x n a (hL n a (t.take i)) t[i] := by
 unfold hL
 rw [a0A h, List.foldl_append]; rfl
theorem c1r (n : Str) (a : Int) (acc : List HeadD × Bool) (g : HeadD) : (a1x n a acc g).1.length + acc.2.toNat <= acc.1.length + (a1x n a acc g).2.toNat + 1 := by
 unfold a1x
 split
 ·rename_i h
  rw [h.1]
  split <;> simp <;> omega
 ·split <;> simp <;> omega
theorem c8u (n : Str) (a : Int) (t : List HeadD) : (hL n a t).1.length <= t.length + (hL n a t).2.toNat := by
 have : ∀ (t : List HeadD) (acc : List HeadD × Bool), (t.foldl (a1x n a) acc).1.length + acc.2.toNat <= acc.1.length + t.length + (t.foldl (a1x n a) acc).2.toNat := by
  intro t
  induction t with
  | nil => intro acc; simp
  | cons g r ih =>
   intro acc
   have h1 := ih (a1x n a acc g)
   have h2 := c1r n a acc g
   simp only [List.foldl_cons, List.length_cons]
   omega
 have := this t ([], false)
 simpa [hL] using this
def l7hO (r : RepoD) (n : Str) (a : Int) : Inv := ⟨Nat, fun i => ⟨[(1, true, .str n), (2, true, .int .i64 a), (3, true, .ptr 12 0), (6, true, .ptr 10 0), (7, true, .ptr 11 0), (8, true, .bool (hL n a (r.heads.take i)).2), (9, true, .int .i64 i)], [(12, a2A r), (10, a8I), (11, .box 32 [.sl true 3 (a0g r.commits), .own 14 2 (a0b (hL n a (r.heads.take i)).1)]), (14, .own 69 2 true (a0b (hL n a (r.heads.take i)).1))]⟩, fun i => i <= r.heads.length, fun i => r.heads.length - i⟩
def a8R : Con := .fn 69 (RepoD × Str × Int) (fun a => [a1E a.1, .str a.2.1, .int .i64 a.2.2]) (fun a => a.1.heads.length <= 1048576) (fun a => .agg [.sl true 3 (a0g a.1.commits), .own 9 2 (a0b (hSet a.1.heads a.2.1 a.2.2))]) (fun a => a2E 9 (hSet a.1.heads a.2.1 a.2.2))
theorem b1c : Has Tryz.prog 145 a8R := by
 refine a0e mixed a0i HasL.nil [0, 1, 2, 3, 6, 7, 8, 9] ((fun a n (_ : Nat) => (fun a _ => l7hO a.1 a.2.1 a.2.2) a n)) [] Tryz.func145 (by unfold Tryz.f145; rfl) (fun _ => ⟨(), trivial⟩) ?_
 intro a ha
 obtain ⟨r, n, a⟩ := a
 replace ha : r.heads.length <= 1048576 := ha
 have a0 : hL n a [] = ([], false) := rfl
 have a7 : ∀ i, (hL n a (r.heads.take i)).1.length <= 1048577 := fun i => by
  have h1 := c8u n a (r.heads.take i)
  have h2 := Bool.toNat_le (hL n a (r.heads.take i)).2
  have h3 : (r.heads.take i).length <= r.heads.length := by simp; omega
  omega
 simp -implicitDefEqProofs [a8R, Con.fn, tTab, l7hO, a0Y]
 try dsimp only
 have b1 : ∀ (X : List HeadD) (g : HeadD), a0b X ++ [[D.str n, D.int .i64 a], [D.str g.name, D.int .i64 g.at_]] = a0b (X ++ [⟨n, a⟩] ++ [g]) := fun X g => by simp -implicitDefEqProofs [a0b, a0R]
 have b2 : ∀ (X : List HeadD) (g : HeadD), a0b X ++ [[D.str g.name, D.int .i64 g.at_]] = a0b (X ++ [g]) := fun X g => by simp -implicitDefEqProofs [a0b, a0R]
 have b3 : ∀ (X : List HeadD), a0b X ++ [[D.str n, D.int .i64 a]] = a0b (X ++ [⟨n, a⟩]) := fun X => by simp -implicitDefEqProofs [a0b, a0R]
 refine ⟨⟨0, by simp -implicitDefEqProofs [a0]⟩, fun i hi _ => ⟨fun hlt => ?_, fun hge => ?_⟩⟩
 ·have g := c6O (n := n) (a := a) hlt
  have gl := a7 i
  generalize hX : hL n a (r.heads.take i) = X at g gl ⊢
  obtain ⟨X, q⟩ := X
  simp -implicitDefEqProofs [hlt, a0R, D.asStr, D.asInt, and_assoc]
  rw [b1, b2, b3]
  have gl : X.length <= 1048577 := gl
  have fin : ∀ (Y : List HeadD) (b : Bool), hL n a (r.heads.take (i + 1)) = (Y, b) -> ∀ c, b = c -> ∃ t', (hL n a (r.heads.take t')).2 = c /\ (t' : Int) = i + 1 /\ a0b (hL n a (r.heads.take t')).1 = a0b Y /\ a0b Y = a0b (hL n a (r.heads.take t')).1 /\ t' <= r.heads.length /\ r.heads.length - t' < r.heads.length - i := fun Y b h c hc => ⟨i + 1, by rw [h]; exact hc, by omega, by rw [h], by rw [h], by omega, by omega⟩
  have fin2 : ∀ (Y : List HeadD) (b : Bool), hL n a (r.heads.take (i + 1)) = (Y, b) -> ∀ c, b = c -> ∃ t', (hL n a (r.heads.take t')).2 = c /\ (t' : Int) = i + 1 /\ (hL n a (r.heads.take t')).1 = Y /\ Y = (hL n a (r.heads.take t')).1 /\ t' <= r.heads.length /\ r.heads.length - t' < r.heads.length - i := fun Y b h c hc => ⟨i + 1, by rw [h]; exact hc, by omega, by rw [h], by rw [h], by omega, by omega⟩
  refine ⟨fun hq => ⟨fun h => ⟨by omega, by omega, by omega, by omega, fun _ _ => fin _ q ?_ _ rfl⟩, fun h => ⟨by omega, by omega, fun _ _ => fin2 _ q ?_ _ rfl⟩⟩,
   fun hq => ⟨fun hb => ⟨by omega, by omega, fun h => ⟨by omega, by omega, by omega, by omega, fun _ _ => fin _ true ?_ _ rfl⟩, fun h => ⟨by omega, by omega, fun _ _ => fin _ true ?_ _ rfl⟩⟩,
    fun hb => ⟨fun h => ⟨by omega, by omega, by omega, by omega, fun _ _ => fin _ q ?_ _ rfl⟩, fun h => ⟨by omega, by omega, fun _ _ => fin2 _ q ?_ _ rfl⟩⟩⟩⟩
  all_goals rw [g]; unfold a1x
  ·rw [if_neg (by simp -implicitDefEqProofs [hq]), if_neg h]
  ·rw [if_neg (by simp -implicitDefEqProofs [hq]), if_pos h]
  ·rw [if_pos ⟨hq, hb⟩, if_neg h]
  ·rw [if_pos ⟨hq, hb⟩, if_pos h]
  ·rw [if_neg (by simp -implicitDefEqProofs [hb]), if_neg h]
  ·rw [if_neg (by simp -implicitDefEqProofs [hb]), if_pos h]
 ·rw [List.take_of_length_le hge]
  have gl := a7 r.heads.length
  rw [List.take_length] at gl
  rw [b3]
  refine ⟨fun h => ?_, fun h => ⟨by omega, ?_⟩⟩
  ·unfold hSet; rw [if_pos h]; exact ⟨rfl, rfl⟩
  ·unfold hSet; rw [if_neg (by simp -implicitDefEqProofs [h])]; exact ⟨rfl, rfl⟩
def addR (r : RepoD) (n : Str) (c : CommitD) : RepoD := ⟨r.commits ++ [c], hSet r.heads n r.commits.length⟩
def b4t : Con := .fn 24 (RepoD × Str × CommitD) (fun a => [a1E a.1, .str a.2.1, .agg [.sl true 1 (a0d a.2.2.parents), .str a.2.2.who, .sl true 2 (a0c a.2.2.tree)]]) (fun a => a.1.commits.length <= 1048576 /\ a.1.heads.length <= 1048576) (fun a => .agg [.sl false 3 (a0g (addR a.1 a.2.1 a.2.2).commits), .sl false 2 (a0b (addR a.1 a.2.1 a.2.2).heads)]) (fun _ => [])
theorem c2d : Has Tryz.prog 148 b4t := by
 refine a0e mixed a0i (HasL.cons b1c HasL.nil) [0, 1, 2, 3, 5, 6, 7] ((fun a n (_ : Nat) => (fun _ => a0L) a n)) [4109] Tryz.func148 (by unfold Tryz.f148; rfl) (fun _ => ⟨(), trivial⟩) ?_
 intro a ha
 obtain ⟨r, n, c⟩ := a
 obtain ⟨h1, h2⟩ : r.commits.length <= 1048576 /\ r.heads.length <= 1048576 := ha
 simp -implicitDefEqProofs [b4t, a8R, Con.fn, tTab, a0Y]
 try dsimp only
 exact ⟨by omega, by omega, fun _ => ⟨⟨r.commits ++ [c], r.heads⟩, n, r.commits.length, ⟨⟨by simp -implicitDefEqProofs [a0g, a0E], rfl⟩, rfl, rfl⟩, h2, rfl, rfl⟩⟩

theorem b1e {a b c : Str} (h : Go.Op.bytesLess a b = true) (h' : Go.Op.bytesLess b c = true) : Go.Op.bytesLess a c = true := by
 rw [a4j, decide_eq_true_eq] at *
 exact List.lt_trans h h'
theorem a4Q (a : Str) : Go.Op.bytesLess a a = false := by
 rw [a4j, decide_eq_false_iff_not]
 exact List.lt_irrefl a
def putS : List Str -> Str -> List Str
 | [], s => [s]
 | x :: l, s => if Go.Op.bytesLess x s then x :: putS l s else if x = s then x :: l else s :: x :: l
theorem c5n (l : List Str) (s : Str) : (putS l s).length <= l.length + 1 := by
 induction l with
 | nil => simp -implicitDefEqProofs [putS]
 | cons x l ih =>
  unfold putS
  split
  ·simp; omega
  ·split <;> simp
theorem c2L {l : List Str} {s : Str} {k : Nat} (h : k < l.length) (hp : l.take k ++ putS (l.drop k) s = putS l s) (hl : Go.Op.bytesLess l[k] s = true) : l.take (k + 1) ++ putS (l.drop (k + 1)) s = putS l s := by
 rw [List.drop_eq_getElem_cons h, putS, if_pos hl] at hp
 rw [a0A h, List.append_assoc]
 exact hp
theorem c5m {l : List Str} {s : Str} {k : Nat} (h : l.length <= k) (hp : l.take k ++ putS (l.drop k) s = putS l s) : putS l s = l.take k ++ [s] ++ l.drop k := by
 rw [List.drop_eq_nil_of_le h] at hp ⊢
 rw [<- hp]; simp -implicitDefEqProofs [putS]
theorem c7s {l : List Str} {s : Str} {k : Nat} (h : k < l.length) (hp : l.take k ++ putS (l.drop k) s = putS l s) (hl : Go.Op.bytesLess l[k] s = false) (he : l[k] = s) : putS l s = l := by
 rw [List.drop_eq_getElem_cons h, putS, if_neg (by simp -implicitDefEqProofs [hl]), if_pos he, <- List.drop_eq_getElem_cons h, List.take_append_drop] at hp
 exact hp.symm
theorem c7t {l : List Str} {s : Str} {k : Nat} (h : k < l.length) (hp : l.take k ++ putS (l.drop k) s = putS l s) (hl : Go.Op.bytesLess l[k] s = false) (he : ¬ l[k] = s) : putS l s = l.take k ++ [s] ++ l.drop k := by
 rw [List.drop_eq_getElem_cons h, putS, if_neg (by simp -implicitDefEqProofs [hl]), if_neg he, <- List.drop_eq_getElem_cons h] at hp
 rw [<- hp]; simp
def a1f (l : List Str) (t : List FileD) : List Str := t.foldl (fun l f => putS l f.path) l
theorem a7B {l : List Str} {t : List FileD} {i : Nat} (h : i < t.length) : a1f l (t.take (i + 1)) = putS (a1f l (t.take i)) t[i].path := by
 unfold a1f
 rw [a0A h, List.foldl_append]; rfl
theorem a3t (t : List FileD) : ∀ l, (a1f l t).length <= l.length + t.length := by
 induction t with
 | nil => intro l; simp -implicitDefEqProofs [a1f]
 | cons f t ih =>
  intro l
  have h1 := ih (putS l f.path)
  have h2 := c5n l f.path
  show (a1f (putS l f.path) t).length <= _
  simp only [List.length_cons]
  omega
def a0H (o a b : List FileD) : List Str := a1f (a1f (a1f [] o) a) b
theorem b1n (o a b : List FileD) : (a0H o a b).length <= o.length + a.length + b.length := by
 have h1 := a3t b (a1f (a1f [] o) a)
 have h2 := a3t a (a1f [] o)
 have h3 := a3t o []
 simp at h3
 show (a1f (a1f (a1f [] o) a) b).length <= _
 omega
def a1K (a b : List Str × Bool) : Bool := decide (a.2 = b.2) && (!a.2 || decide (a.1 = b.1))
def one6 (o a b : List FileD) (p : Str) : List Str × Bool × Int :=
 if a1K (getL a p) (getL o p) || a1K (getL a p) (getL b p) then ((getL b p).1, (getL b p).2, 0)
 else if a1K (getL b p) (getL o p) then ((getL a p).1, (getL a p).2, 0)
 else if !(getL a p).2 || !(getL b p).2 then ((getL o p).1, (getL o p).2, 1)
 else if !(getL o p).2 then ([], false, 2)
 else if (a1R (of3 (getL o p).1 (getL a p).1 (getL b p).1)).2 then ((a1R (of3 (getL o p).1 (getL a p).1 (getL b p).1)).1, true, 0)
 else ((getL o p).1, true, 3)
theorem a4L {t : List FileD} {n : Nat} (h : ∀ f ∈ t, f.text.length <= n) (p : Str) : (getL t p).1.length <= n := by
 induction t with
 | nil => simp -implicitDefEqProofs [getL]
 | cons f t ih =>
  unfold getL
  split
  ·exact h f (by simp)
  ·exact ih fun g hg => h g (by simp -implicitDefEqProofs [hg])
theorem a3S {t : List Str} (h : a1d t = true) : t.length <= 10 := by
 unfold a1d at h
 simp only [Bool.and_eq_true, decide_eq_true_eq] at h
 exact h.1
theorem c3m (l : List PartD) : (a1R l).1.length <= 10 := by
 unfold a1R
 split
 ·simp
 ·split
  ·rename_i h; exact a3S h
  ·simp
theorem b5t {o a b : List FileD} {p : Str} {n : Nat} (hn : 10 <= n) (ho : ∀ f ∈ o, f.text.length <= n) (ha : ∀ f ∈ a, f.text.length <= n) (hb : ∀ f ∈ b, f.text.length <= n) : (one6 o a b p).1.length <= n := by
 have h1 := a4L ho p
 have h2 := a4L ha p
 have h3 := a4L hb p
 have h4 := c3m (of3 (getL o p).1 (getL a p).1 (getL b p).1)
 unfold one6
 split
 ·exact h3
 ·split
  ·exact h2
  ·split
   ·exact h1
   ·split
    ·simp
    ·split
     ·show (a1R _).1.length <= n; omega
     ·exact h1
def stepJ (o a b : List FileD) (s : List FileD × List HeadD) (p : Str) : List FileD × List HeadD :=
 (if (one6 o a b p).2.1 then s.1 ++ [⟨p, (one6 o a b p).1⟩] else s.1, if 0 < (one6 o a b p).2.2 then s.2 ++ [⟨p, (one6 o a b p).2.2⟩] else s.2)
def runJ (o a b : List FileD) (l : List Str) : List FileD × List HeadD := l.foldl (stepJ o a b) ([], [])
theorem b2Z {o a b : List FileD} {l : List Str} {i : Nat} (h : i < l.length) : runJ o a b (l.take (i + 1)) = stepJ o a b (runJ o a b (l.take i)) l[i] := by
 unfold runJ
 rw [a0A h, List.foldl_append]; rfl
theorem b5K (o a b : List FileD) (l : List Str) : (runJ o a b l).1.length <= l.length /\ (runJ o a b l).2.length <= l.length := by
 have : ∀ (l : List Str) (s : List FileD × List HeadD), (l.foldl (stepJ o a b) s).1.length <= s.1.length + l.length /\ (l.foldl (stepJ o a b) s).2.length <= s.2.length + l.length := by
  intro l
  induction l with
  | nil => intro s; simp
  | cons p l ih =>
   intro s
   obtain ⟨h1, h2⟩ := ih (stepJ o a b s p)
   have h3 : (stepJ o a b s p).1.length <= s.1.length + 1 /\ (stepJ o a b s p).2.length <= s.2.length + 1 := by
    unfold stepJ
    constructor
    ·show (if _ then _ else _ : List FileD).length <= _
     split <;> simp
    ·show (if _ then _ else _ : List HeadD).length <= _
     split <;> simp
   simp only [List.foldl_cons, List.length_cons]
   omega
 have := this l ([], [])
 simpa [runJ] using this
def of6 (o a b : List FileD) : List FileD × List HeadD := runJ o a b (a0H o a b)
def a1j (o a b : List FileD) : List FileD × List HeadD := if (of6 o a b).2 = [] /\ a1Y (of6 o a b).1 = false then (o, [⟨[], 4⟩]) else of6 o a b
theorem b8V {o a b : List FileD} (h : (a1j o a b).2 = []) : a1Y (a1j o a b).1 = true := by
 unfold a1j at h ⊢
 split
 ·rename_i h2; rw [if_pos h2] at h; simp at h
 ·rename_i h2
  rw [if_neg h2] at h
  cases hq : a1Y (of6 o a b).1 with
  | true => rfl
  | false => exact absurd ⟨h, hq⟩ h2
def a1w (r : RepoD) (a b : Int) (i : Nat) : List Int := ((a0w (anc r a)).take i).filter fun x => decide (x ∈ a0w (anc r b))
def a6Z (r : RepoD) (l : List Int) (i k : Nat) : Bool := (List.range k).all fun j => decide (j = i) || !decide (l.getD i 0 ∈ a0w (anc r (l.getD j 0)))
def a2W (r : RepoD) (l : List Int) (i : Nat) : List Int := ((List.range i).filter fun j => a6Z r l j l.length).map fun j => l.getD j 0
def a3y (r : RepoD) (a b : Int) : List Int := a2W r (a1w r a b (a0w (anc r a)).length) (a1w r a b (a0w (anc r a)).length).length
def a1X (r : RepoD) (a b : Int) : List FileD := match (a3y r a b).getLast? with
 | none => []
 | some c => a0O r c
def noR : RepoD := ⟨[], []⟩
def a2c (r : RepoD) (n w : Str) (b : Int) : RepoD × Int :=
 if b ∈ a0w (anc r (atL r.heads n)) then (r, 2)
 else if atL r.heads n ∈ a0w (anc r b) then (⟨r.commits, hSet r.heads n b⟩, 3)
 else if (a1j (a1X r (atL r.heads n) b) (a0O r (atL r.heads n)) (a0O r b)).2 = [] then
  (if a0Q (addR r n ⟨[atL r.heads n, b], w, (a1j (a1X r (atL r.heads n) b) (a0O r (atL r.heads n)) (a0O r b)).1⟩) then
   (addR r n ⟨[atL r.heads n, b], w, (a1j (a1X r (atL r.heads n) b) (a0O r (atL r.heads n)) (a0O r b)).1⟩, 0) else (r, 5))
 else (r, 4)
def a0Z (r : RepoD) (n w : Str) (b : Int) : RepoD × Int :=
 if a0Q r then (if atL r.heads n < 0 \/ a1o w = false \/ ¬ (0 <= b /\ b < r.commits.length) then (r, 1) else a2c r n w b) else (noR, 1)
theorem a7r : ∀ {l : List HeadD}, (∀ i, 0 < i -> i < l.length -> Go.Op.bytesLess (l.getD (i - 1) default).name (l.getD i default).name = true) -> l.Pairwise fun a b => Go.Op.bytesLess a.name b.name = true
 | [], _ => .nil
 | [x], _ => by simp
 | x :: y :: t, h => by
  have ih := a7r (l := y :: t) fun i h1 h2 => by
   have := h (i + 1) (by omega) (by simp only [List.length_cons] at h2 ⊢; omega)
   rw [show i + 1 - 1 = (i - 1) + 1 by omega, List.getD_cons_succ, List.getD_cons_succ] at this
   exact this
  have hxy := h 1 (by omega) (by simp)
  have hxy : Go.Op.bytesLess x.name y.name = true := by simpa using hxy
  refine List.pairwise_cons.2 ⟨fun z hz => ?_, ih⟩
  rcases List.mem_cons.1 hz with rfl | hz
  ·exact hxy
  ·exact b1e hxy ((List.pairwise_cons.1 ih).1 z hz)
theorem a9a (n : Str) (a : Int) : ∀ (l X : List HeadD), l.foldl (a1x n a) (X, true) = (X ++ l.filter (fun g => decide (g.name ≠ n)), true)
 | [], X => by simp
 | g :: l, X => by
  rw [List.foldl_cons]
  by_cases h : g.name = n
  ·have e : a1x n a (X, true) g = (X, true) := by unfold a1x; simp -implicitDefEqProofs [h]
   rw [e, a9a n a l X]; simp -implicitDefEqProofs [h]
  ·have e : a1x n a (X, true) g = (X ++ [g], true) := by unfold a1x; simp -implicitDefEqProofs [h]
   rw [e, a9a n a l (X ++ [g])]; simp -implicitDefEqProofs [h]
def hAt (n : Str) (a : Int) (h : HeadD) : HeadD := if h.name = n then ⟨n, a⟩ else h
theorem b2G (n : Str) (a : Int) : ∀ (l X : List HeadD), (l.Pairwise fun a b => Go.Op.bytesLess a.name b.name = true) -> (∃ h ∈ l, h.name = n) -> l.foldl (a1x n a) (X, false) = (X ++ l.map (hAt n a), true)
 | [], X, _, h => by obtain ⟨_, h, _⟩ := h; simp at h
 | g :: l, X, hp, hn => by
  obtain ⟨hp1, hp2⟩ := List.pairwise_cons.1 hp
  rw [List.foldl_cons]
  by_cases h : g.name = n
  ·have e : a1x n a (X, false) g = (X ++ [⟨n, a⟩], true) := by unfold a1x; simp -implicitDefEqProofs [h, a4Q]
   have hne : ∀ z ∈ l, ¬ z.name = n := fun z hz hc => by
    have := hp1 z hz
    rw [h, hc, a4Q] at this
    cases this
   have e2 : l.filter (fun g => decide (g.name ≠ n)) = l := by rw [List.filter_eq_self]; intro z hz; simp -implicitDefEqProofs [hne z hz]
   have e3 : l.map (hAt n a) = l := by
    have : l.map (hAt n a) = l.map id := List.map_congr_left fun z hz => by simp -implicitDefEqProofs [hAt, hne z hz]
    rw [this]; simp
   rw [e, a9a, e2]; simp -implicitDefEqProofs [e3, hAt, h]
  ·obtain ⟨z, hz, hzn⟩ := hn
   have hz : z ∈ l := by
    rcases List.mem_cons.1 hz with rfl | hz
    ·exact absurd hzn h
    ·exact hz
   have hl : Go.Op.bytesLess g.name n = true := by rw [<- hzn]; exact hp1 z hz
   have e : a1x n a (X, false) g = (X ++ [g], false) := by unfold a1x; simp -implicitDefEqProofs [h, hl]
   rw [e, b2G n a l (X ++ [g]) hp2 ⟨z, hz, hzn⟩]; simp -implicitDefEqProofs [hAt, h]
theorem a9X {l : List HeadD} {n : Str} {a : Int} (hl : ∀ i, 0 < i -> i < l.length -> Go.Op.bytesLess (l.getD (i - 1) default).name (l.getD i default).name = true) (hn : ∃ h ∈ l, h.name = n) :
  hSet l n a = l.map (hAt n a) := by
 unfold hSet hL
 rw [b2G n a l [] (a7r hl) hn]
 simp
theorem c6x {l : List HeadD} {n : Str} (h : 0 <= atL l n) : ∃ h ∈ l, h.name = n := by
 induction l with
 | nil => simp -implicitDefEqProofs [atL] at h
 | cons g l ih =>
  unfold atL at h
  split at h
  ·rename_i e; exact ⟨g, by simp, e⟩
  ·obtain ⟨x, h1, h2⟩ := ih h; exact ⟨x, by simp -implicitDefEqProofs [h1], h2⟩
theorem c0K {l : List HeadD} {n : Str} {k : Nat} (hl : a1O k l = true) : atL l n < k /\ -1 <= atL l n \/ atL l n = -1 := by
 have h2 := ((a2p _ _).1 hl).2
 have : ∀ (l' : List HeadD), (∀ h ∈ l', 0 <= h.at_ /\ h.at_ < k) -> atL l' n < k /\ -1 <= atL l' n \/ atL l' n = -1 := by
  intro l'
  induction l' with
  | nil => intro _; right; rfl
  | cons g l' ih =>
   intro h
   unfold atL
   split
   ·left; have := h g (by simp); omega
   ·exact ih fun x hx => h x (by simp -implicitDefEqProofs [hx])
 refine this l fun h hh => ?_
 obtain ⟨i, hi, rfl⟩ := List.getElem_of_mem hh
 have := h2 i hi
 simp only [okHd, inN, List.getD_eq_getElem?_getD, List.getElem?_eq_getElem hi, Option.getD_some, Bool.and_eq_true, decide_eq_true_eq] at this
 omega
theorem b8J {k : Nat} {l : List HeadD} {n : Str} {b : Int} (h : a1O k l = true) (hn : 0 <= atL l n) (hb : 0 <= b /\ b < k) : a1O k (hSet l n b) = true := by
 obtain ⟨h1, h2⟩ := (a2p _ _).1 h
 have hg : ∀ i (hi : i < l.length), l.getD i default = l[i] := fun i hi => by simp -implicitDefEqProofs [List.getD_eq_getElem?_getD, hi]
 rw [a9X (fun i h3 h4 => by
  have := h2 i h4
  unfold okHd at this
  simp only [Bool.and_eq_true, Bool.or_eq_true, decide_eq_true_eq] at this
  rcases this.2 with h5 | h5
  ·omega
  ·exact h5) (c6x hn), a2p]
 have hm : ∀ i (hi : i < l.length), (l.map (hAt n b)).getD i default = hAt n b l[i] := fun i hi => by simp -implicitDefEqProofs [List.getD_eq_getElem?_getD, hi]
 have hname : ∀ g : HeadD, (hAt n b g).name = g.name := fun g => by unfold hAt; split <;> simp_all
 refine ⟨by simpa using h1, fun i hi => ?_⟩
 have hi : i < l.length := by simpa using hi
 have h3 := h2 i hi
 unfold okHd at h3 ⊢
 rw [hm i hi, hname]
 rw [hg i hi] at h3
 have hat : inN k (hAt n b l[i]).at_ = true := by
  simp only [Bool.and_eq_true] at h3
  unfold hAt
  split
  ·simp only [inN, Bool.and_eq_true, decide_eq_true_eq]; omega
  ·exact h3.1.2
 rw [hat]
 rcases Nat.eq_zero_or_pos i with h0 | h0
 ·subst h0
  simp only [Bool.and_eq_true] at h3
  simp -implicitDefEqProofs [h3.1.1]
 ·rw [hm (i - 1) (by omega), hname]
  rw [hg (i - 1) (by omega)] at h3
  simp only [Bool.and_eq_true] at h3 ⊢
  exact ⟨⟨h3.1.1, trivial⟩, h3.2⟩
theorem b6W {r : RepoD} {n : Str} {b : Int} (h : a0Q r = true) (hn : 0 <= atL r.heads n) (hb : 0 <= b /\ b < r.commits.length) : a0Q ⟨r.commits, hSet r.heads n b⟩ = true := by
 obtain ⟨h1, h2, h3⟩ := (a1i r).1 h
 exact (a1i _).2 ⟨h1, b8J h2 hn hb, h3⟩
theorem b7x (l : List HeadD) (n : Str) (a : Int) : hSet l n a ≠ [] := by
 have : ∀ (l : List HeadD) (s : List HeadD × Bool), (s.2 = true -> s.1 ≠ []) -> ((l.foldl (a1x n a) s).2 = true -> (l.foldl (a1x n a) s).1 ≠ []) := by
  intro l
  induction l with
  | nil => intro s h; exact h
  | cons g l ih =>
   intro s h
   refine ih (a1x n a s g) ?_
   unfold a1x
   split
   ·split <;> simp
   ·split
    ·exact h
    ·simp
 unfold hSet
 split
 ·rename_i h; exact this l ([], false) (by simp) h
 ·simp
theorem c3o {r : RepoD} {n w : Str} {b : Int} (h : a0Q r = true) (hn : 0 <= atL r.heads n) (hb : 0 <= b /\ b < r.commits.length) (hh : r.commits ≠ [] -> r.heads ≠ []) :
  a0Q (a2c r n w b).1 = true /\ ((a2c r n w b).1.commits ≠ [] -> (a2c r n w b).1.heads ≠ []) := by
 unfold a2c
 split
 ·exact ⟨h, hh⟩
 ·split
  ·exact ⟨b6W h hn hb, fun _ => b7x _ _ _⟩
  ·split
   ·split
    ·rename_i q; exact ⟨q, fun _ => b7x _ _ _⟩
    ·exact ⟨h, hh⟩
   ·exact ⟨h, hh⟩
theorem c3q {r : RepoD} {n w : Str} {b : Int} (h : a0Q r = true) (hh : r.commits ≠ [] -> r.heads ≠ []) :
  a0Q (a0Z r n w b).1 = true /\ ((a0Z r n w b).1.commits ≠ [] -> (a0Z r n w b).1.heads ≠ []) := by
 unfold a0Z
 rw [if_pos h]
 split
 ·exact ⟨h, hh⟩
 ·rename_i q
  exact c3o h (by omega) (by omega) hh
def clrN (l : List Bool) (i : Int) (ks : List Int) : List Bool := ks.foldl (fun l k => if k = i then l else l.set k.toNat false) l
theorem b4x (i : Int) (ks : List Int) : ∀ l : List Bool, (clrN l i ks).length = l.length := by
 induction ks with
 | nil => intro l; rfl
 | cons p r ih =>
  intro l
  show (clrN (if p = i then l else l.set p.toNat false) i r).length = _
  rw [ih]; split <;> simp
def comB (r : RepoD) (a b : Int) : List Bool := (List.range r.commits.length).map fun i => isT (anc r a) i && isT (anc r b) i
theorem a7o (r : RepoD) (a b : Int) : (comB r a b).length = r.commits.length := by simp -implicitDefEqProofs [comB]
def bigT (r : RepoD) (L : List Int) (l : List Bool) : List Bool := L.foldl (fun l i => clrN l i (a0w (anc r i))) l
theorem a7a (r : RepoD) (L : List Int) : ∀ l : List Bool, (bigT r L l).length = l.length := by
 induction L with
 | nil => intro l; rfl
 | cons i L ih =>
  intro l
  show (bigT r L (clrN l i (a0w (anc r i)))).length = _
  rw [ih, b4x]
def a1M (r : RepoD) (a b : Int) : List Int := a0w (bigT r (a0w (comB r a b)) (comB r a b))
theorem c6R {l : List Bool} {p g : Nat} : isT (l.set p false) g = (isT l g && !decide (p = g)) := by
 unfold isT
 rw [List.getD_eq_getElem?_getD, List.getD_eq_getElem?_getD]
 by_cases h : p = g
 ·subst h
  rw [List.getElem?_set_self']
  cases l[p]? <;> simp
 ·rw [List.getElem?_set_ne h]; simp -implicitDefEqProofs [h]
theorem c3Y (i : Int) {ks : List Int} (hk : ∀ k ∈ ks, 0 <= k) (g : Nat) : ∀ l : List Bool, isT (clrN l i ks) g = (isT l g && (decide ((g : Int) = i) || !decide ((g : Int) ∈ ks))) := by
 induction ks with
 | nil => intro l; simp -implicitDefEqProofs [clrN]
 | cons p r ih =>
  intro l
  show isT (clrN (if p = i then l else l.set p.toNat false) i r) g = _
  rw [ih (fun k hk' => hk k (by simp -implicitDefEqProofs [hk']))]
  have hp := hk p (by simp)
  split
  ·rename_i h
   subst h
   cases hq : isT l g <;> simp
   by_cases hg : (g : Int) = p
   ·simp -implicitDefEqProofs [hg]
   ·simp -implicitDefEqProofs [hg]
  ·rename_i h
   rw [c6R]
   have e : (p.toNat = g) = ((g : Int) = p) := by apply propext; omega
   cases hq : isT l g <;> simp -implicitDefEqProofs [e]
   by_cases hg : (g : Int) = p
   ·simp -implicitDefEqProofs [hg, h]
   ·simp -implicitDefEqProofs [hg]
theorem c4K {l : List Bool} : ∀ k ∈ a0w l, 0 <= k := fun k hk => by obtain ⟨i, _, _, rfl⟩ := listT_mem.1 hk; omega
theorem c3R (r : RepoD) (L : List Int) (g : Nat) : ∀ l : List Bool, isT (bigT r L l) g = (isT l g && L.all fun i => decide ((g : Int) = i) || !decide ((g : Int) ∈ a0w (anc r i))) := by
 induction L with
 | nil => intro l; simp -implicitDefEqProofs [bigT]
 | cons i L ih =>
  intro l
  show isT (bigT r L (clrN l i (a0w (anc r i)))) g = _
  rw [ih, c3Y i c4K, List.all_cons, Bool.and_assoc]
def lastB (r : RepoD) (L : List Int) (x : Int) : Bool := L.all fun y => decide (x = y) || !decide (x ∈ a0w (anc r y))
theorem a8l {l m : List Bool} (hl : l.length = m.length) (p : Int -> Bool) (h : ∀ g : Nat, isT m g = (isT l g && p g)) : a0w m = (a0w l).filter p := by
 unfold a0w a3k
 rw [<- hl, List.filter_map, List.filter_filter]
 congr 1
 apply List.filter_congr
 intro g _
 rw [h g, Bool.and_comm]; rfl
theorem c0R (r : RepoD) (a b : Int) : a1M r a b = (a0w (comB r a b)).filter (lastB r (a0w (comB r a b))) :=
 a8l (a7a _ _ _).symm _ fun g => c3R r _ g _
theorem a9b {l : List Bool} {g : Nat} (h : isT l g = true) : g < l.length := by
 unfold isT at h
 rcases Nat.lt_or_ge g l.length with h2 | h2
 ·exact h2
 ·rw [List.getD_eq_getElem?_getD, List.getElem?_eq_none h2] at h; simp at h
theorem c4q {r : RepoD} {a b : Int} (g : Nat) : isT (comB r a b) g = (isT (anc r a) g && isT (anc r b) g) := by
 have hla := a2k r a
 rcases Nat.lt_or_ge g r.commits.length with h | h
 ·unfold comB
  rw [isT, List.getD_eq_getElem?_getD, List.getElem?_map, List.getElem?_range h]; rfl
 ·have e1 : isT (comB r a b) g = false := by
   cases q : isT (comB r a b) g with
   | false => rfl
   | true => have := a9b q; rw [a7o] at this; omega
  have e2 : isT (anc r a) g = false := by
   cases q : isT (anc r a) g with
   | false => rfl
   | true => have := a9b q; rw [hla] at this; omega
  rw [e1, e2]; rfl
theorem c3S (r : RepoD) (a b : Int) : a1w r a b (a0w (anc r a)).length = a0w (comB r a b) := by
 unfold a1w
 rw [List.take_length]
 refine (a8l (by rw [a7o, a2k]) _ fun g => ?_).symm
 rw [c4q]
 congr 1
 rw [Bool.eq_iff_iff, decide_eq_true_eq, listT_mem]
 constructor
 ·intro h; exact ⟨g, a9b h, h, rfl⟩
 ·rintro ⟨i, _, h, e⟩
  have : g = i := by omega
  rw [this]; exact h
theorem b6M (l : List Bool) : (a0w l).Nodup := by
 unfold a0w a3k
 rw [List.nodup_iff_pairwise_ne, List.pairwise_map]
 exact (List.Pairwise.filter _ List.pairwise_lt_range).imp fun h => by omega
theorem b4G {L : List Int} (p : Int -> Bool) : ((List.range L.length).filter fun i => p (L.getD i 0)).map (fun j => L.getD j 0) = L.filter p := by
 have e : L = (List.range L.length).map fun j => L.getD j 0 := by
  apply List.ext_getElem
  ·simp
  ·intro i h1 h2
   simp -implicitDefEqProofs [List.getD_eq_getElem?_getD, h1]
 have h : L.filter p = ((List.range L.length).map fun j => L.getD j 0).filter p := congrArg (List.filter p) e
 rw [h, List.filter_map]; rfl
theorem b4k (r : RepoD) (a b : Int) : a1M r a b = a3y r a b := by
 rw [c0R]
 unfold a3y
 rw [c3S]
 have hnd := b6M (comB r a b)
 generalize a0w (comB r a b) = L at *
 rw [<- b4G (lastB r L)]
 unfold a2W
 congr 1
 apply List.filter_congr
 intro i hi
 have hi : i < L.length := by simpa using hi
 have gi : L.getD i 0 = L[i] := by simp -implicitDefEqProofs [List.getD_eq_getElem?_getD, hi]
 unfold lastB a6Z
 rw [Bool.eq_iff_iff, List.all_eq_true, List.all_eq_true]
 simp only [List.mem_range, Bool.or_eq_true, decide_eq_true_eq, Bool.not_eq_true', decide_eq_false_iff_not]
 constructor
 ·intro h j hj
  have gj : L.getD j 0 = L[j] := by simp -implicitDefEqProofs [List.getD_eq_getElem?_getD, hj]
  rcases h L[j] (List.getElem_mem hj) with h | h
  ·left
   rw [gi] at h
   exact ((List.getElem_inj hnd).1 h).symm
  ·right; rw [gj]; exact h
 ·intro h y hy
  obtain ⟨j, hj, rfl⟩ := List.getElem_of_mem hy
  have gj : L.getD j 0 = L[j] := by simp -implicitDefEqProofs [List.getD_eq_getElem?_getD, hj]
  rcases h j hj with h | h
  ·left; subst h; exact gi
  ·right; rw [gj] at h; exact h
def szI (a : List Int) (l : Int) : Int := if l - a.length < 0 then -1 else l - a.length
theorem b5U {a : List Int} {l : Int} (h : 0 <= l) : szI a l <= l := by unfold szI; split <;> omega
def b1Z : Con := .fn 12 (List Int × Int) (fun a => [.sl true 1 (a0d a.1), .int .i64 a.2]) (fun a => 0 <= a.2 /\ a.2 <= 1048576) (fun a => .int .i64 (szI a.1 a.2)) (fun _ => [])
theorem c0i : Has Tryz.prog 138 b1Z := by
 refine a0e mixed a0i HasL.nil [0, 1, 4] ((fun a n (_ : Nat) => (fun _ => a0L) a n)) [] Tryz.func138 (by unfold Tryz.f138; rfl) (fun _ => ⟨(), trivial⟩) ?_
 intro a ha
 obtain ⟨f, n⟩ := a
 obtain ⟨h1, h2⟩ : 0 <= n /\ n <= 1048576 := ha
 simp -implicitDefEqProofs [b1Z, Con.fn, tTab]
 try dsimp only
 try simp +contextual [eStr, a0y, a0s, a0z, a0t, List.getElem?_eq_getElem, a0u, a0p, a0r, a0q, <- a0h, <- a0f, a0m, a0n, a0l, a0k, a0o, a0j, and_assoc]
 repeat' (first | intro _ | apply And.intro)
 all_goals first | omega | grind [a0B, szI]
def szHd (f : HeadD) (l : Int) : Int := if l - f.name.length < 0 then -1 else l - f.name.length
theorem b2u {f : HeadD} {l : Int} (h : 0 <= l) : szHd f l <= l := by unfold szHd; split <;> omega
def b1Y : Con := .fn 13 (HeadD × Int) (fun a => [.agg [.str a.1.name, .int .i64 a.1.at_], .int .i64 a.2]) (fun a => 0 <= a.2 /\ a.2 <= 1048576) (fun a => .int .i64 (szHd a.1 a.2)) (fun _ => [])
theorem c0g : Has Tryz.prog 96 b1Y := by
 refine a0e mixed a0i HasL.nil [0, 1, 2, 4] ((fun a n (_ : Nat) => (fun _ => a0L) a n)) [] Tryz.func96 (by unfold Tryz.f96; rfl) (fun _ => ⟨(), trivial⟩) ?_
 intro a ha
 obtain ⟨f, n⟩ := a
 obtain ⟨h1, h2⟩ : 0 <= n /\ n <= 1048576 := ha
 simp -implicitDefEqProofs [b1Y, Con.fn, tTab]
 try dsimp only
 try simp +contextual [eStr, a0y, a0s, a0z, a0t, List.getElem?_eq_getElem, a0u, a0p, a0r, a0q, <- a0h, <- a0f, a0m, a0n, a0l, a0k, a0o, a0j, and_assoc]
 repeat' (first | intro _ | apply And.intro)
 all_goals first | omega | grind [a0B, szHd]
def szHL : List HeadD -> Int -> Int
 | [], l => l
 | f :: r, l => if szHd f l < 0 then -1 else szHL r (szHd f l)
def a4c (a : List HeadD) (l : Int) : Int := if l - a.length < 0 then -1 else szHL a (l - a.length)
theorem c3i {a : List HeadD} {i : Nat} {l : Int} (h : i < a.length) : szHL (a.drop i) l = if szHd a[i] l < 0 then -1 else szHL (a.drop (i + 1)) (szHd a[i] l) := by
 rw [List.drop_eq_getElem_cons h]; rfl
theorem c5I {a : List HeadD} {i : Nat} {l : Int} (h : a.length <= i) : szHL (a.drop i) l = l := by
 rw [List.drop_eq_nil_of_le h]; rfl
def a9Q : Con := .fn 27 (List HeadD × Int) (fun a => [.sl true 2 (a0b a.1), .int .i64 a.2]) (fun a => 0 <= a.2 /\ a.2 <= 1048576) (fun a => .int .i64 (a4c a.1 a.2)) (fun _ => [])
theorem b7e : Has Tryz.prog 51 a9Q := by
 refine a0e mixed a0i (HasL.cons c0g HasL.nil) [0, 1, 4, 5] ((fun a n (_ : Nat) => (fun a _ => ⟨Nat × Int, fun t => ⟨[(0, true, .sl true 2 (a0b a.1)), (1, true, .int .i64 t.2), (4, true, .int .i64 0), (5, true, .int .i64 t.1)], []⟩, fun t => t.1 <= a.1.length /\ 0 <= t.2 /\ t.2 <= 1048576 /\ szHL (a.1.drop t.1) t.2 = a4c a.1 a.2, fun t => a.1.length - t.1⟩) a n)) [] Tryz.func51 (by unfold Tryz.f51; rfl) (fun _ => ⟨(), trivial⟩) ?_
 intro a ha
 obtain ⟨l, n⟩ := a
 obtain ⟨h1, h2⟩ : 0 <= n /\ n <= 1048576 := ha
 have hle : ∀ (f : HeadD) (l : Int), 0 <= l -> szHd f l <= l := fun f l => b2u
 simp -implicitDefEqProofs [a9Q, Con.fn, tTab, b1Y]
 try dsimp only
 try simp +contextual [eStr, a0y, a0s, a0z, a0t, List.getElem?_eq_getElem, a0u, a0p, a0r, a0q, <- a0h, <- a0f, a0m, a0n, a0l, a0k, a0o, a0j, and_assoc, eInt, a0R, a0E, a2l, a3a, a3s, a3b, a2Z, a2o, <- a2x, a2a, a2Y, a2K, a2J, a1Z, <- a2h, a2w, a2v, a2g, a2f, a1e, <- a1I, <- HeadD.eq_iff]
 repeat' (first | intro _ | apply And.intro)
 all_goals first | omega | grind [a0B, a4c, c3i, c5I]
theorem c5H : ∀ {a : List FileD} {l : Int}, 0 <= l -> szFL a l <= l := by
 intro a
 induction a with
 | nil => intro l _; exact Int.le_refl l
 | cons s r ih =>
  intro l h
  simp only [szFL]
  split
  ·omega
  ·have h1 := b5T (f := s) h
   have := ih (l := szF s l) (by omega); omega
theorem c7O {a : List FileD} {l : Int} (h : 0 <= l) : a2U a l <= l := by
 unfold a2U
 split
 ·omega
 ·have := c5H (a := a) (l := l - a.length) (by omega); omega
def szCm (c : CommitD) (l : Int) : Int :=
 if szI c.parents l < 0 then -1 else if szI c.parents l - c.who.length < 0 then -1 else if a2U c.tree (szI c.parents l - c.who.length) < 0 then -1 else a2U c.tree (szI c.parents l - c.who.length)
theorem b2t {c : CommitD} {l : Int} (h : 0 <= l) : szCm c l <= l := by
 unfold szCm
 have h1 := b5U (a := c.parents) h
 split
 ·omega
 ·split
  ·omega
  ·split
   ·omega
   ·have := c7O (a := c.tree) (l := szI c.parents l - c.who.length) (by omega); omega
def a8c : Con := .fn 25 (CommitD × Int) (fun a => [.agg [.sl true 1 (a0d a.1.parents), .str a.1.who, .sl true 2 (a0c a.1.tree)], .int .i64 a.2]) (fun a => 0 <= a.2 /\ a.2 <= 1048576) (fun a => .int .i64 (szCm a.1 a.2)) (fun _ => [])
theorem b5Q : Has Tryz.prog 95 a8c := by
 refine a0e mixed a0i (HasL.cons c0i (HasL.cons b7c HasL.nil)) [0, 1, 2, 4] ((fun a n (_ : Nat) => (fun _ => a0L) a n)) [] Tryz.func95 (by unfold Tryz.f95; rfl) (fun _ => ⟨(), trivial⟩) ?_
 intro a ha
 obtain ⟨f, n⟩ := a
 obtain ⟨h1, h2⟩ : 0 <= n /\ n <= 1048576 := ha
 have h3 := b5U (a := f.parents) h1
 simp -implicitDefEqProofs [a8c, Con.fn, tTab, b1Z, a9P]
 try dsimp only
 try simp +contextual [eStr, a0y, a0s, a0z, a0t, List.getElem?_eq_getElem, a0u, a0p, a0r, a0q, <- a0h, <- a0f, a0m, a0n, a0l, a0k, a0o, a0j, and_assoc]
 repeat' (first | intro _ | apply And.intro)
 all_goals first | omega | grind [a0B, szCm]
def szCL : List CommitD -> Int -> Int
 | [], l => l
 | f :: r, l => if szCm f l < 0 then -1 else szCL r (szCm f l)
def a1L (a : List CommitD) (l : Int) : Int := if l - a.length < 0 then -1 else szCL a (l - a.length)
theorem c3g {a : List CommitD} {i : Nat} {l : Int} (h : i < a.length) : szCL (a.drop i) l = if szCm a[i] l < 0 then -1 else szCL (a.drop (i + 1)) (szCm a[i] l) := by
 rw [List.drop_eq_getElem_cons h]; rfl
theorem c5E {a : List CommitD} {i : Nat} {l : Int} (h : a.length <= i) : szCL (a.drop i) l = l := by
 rw [List.drop_eq_nil_of_le h]; rfl
theorem c7J : ∀ {a : List CommitD} {l : Int}, 0 <= l -> szCL a l <= l := by
 intro a
 induction a with
 | nil => intro l _; exact Int.le_refl l
 | cons s r ih =>
  intro l h
  simp only [szCL]
  split
  ·omega
  ·have h1 := b2t (c := s) h
   have := ih (l := szCm s l) (by omega); omega
theorem a5V {a : List CommitD} {l : Int} (h : 0 <= l) : a1L a l <= l := by
 unfold a1L
 split
 ·omega
 ·have := c7J (a := a) (l := l - a.length) (by omega); omega
def a7k : Con := .fn 27 (List CommitD × Int) (fun a => [.sl true 3 (a1g a.1), .int .i64 a.2]) (fun a => 0 <= a.2 /\ a.2 <= 1048576) (fun a => .int .i64 (a1L a.1 a.2)) (fun _ => [])
theorem b3z : Has Tryz.prog 50 a7k := by
 refine a0e mixed a0i (HasL.cons b5Q HasL.nil) [0, 1, 4, 5] ((fun a n (_ : Nat) => (fun a _ => ⟨Nat × Int, fun t => ⟨[(0, true, .sl true 3 (a1g a.1)), (1, true, .int .i64 t.2), (4, true, .int .i64 0), (5, true, .int .i64 t.1)], []⟩, fun t => t.1 <= a.1.length /\ 0 <= t.2 /\ t.2 <= 1048576 /\ szCL (a.1.drop t.1) t.2 = a1L a.1 a.2, fun t => a.1.length - t.1⟩) a n)) [] Tryz.func50 (by unfold Tryz.f50; rfl) (fun _ => ⟨(), trivial⟩) ?_
 intro a ha
 obtain ⟨l, n⟩ := a
 obtain ⟨h1, h2⟩ : 0 <= n /\ n <= 1048576 := ha
 have hle : ∀ (f : CommitD) (l : Int), 0 <= l -> szCm f l <= l := fun f l => b2t
 simp -implicitDefEqProofs [a7k, Con.fn, tTab, a8c]
 try dsimp only
 try simp +contextual [eStr, a0y, a0s, a0z, a0t, List.getElem?_eq_getElem, a0u, a0p, a0r, a0q, <- a0h, <- a0f, a0m, a0n, a0l, a0k, a0o, a0j, and_assoc, eInt, a0R, a0E, a2l, a3a, a3s, a3b, a2Z, a2o, <- a2x, a2a, a2Y, a2K, a2J, a1Z, <- a2h, a2w, a2v, a2g, a2f, a1e, <- a1I, <- CommitD.eq_iff]
 repeat' (first | intro _ | apply And.intro)
 all_goals first | omega | grind [a0B, a1L, c3g, c5E]
def szRp (r : RepoD) (l : Int) : Int := if a1L r.commits l < 0 then -1 else if a4c r.heads (a1L r.commits l) < 0 then -1 else a4c r.heads (a1L r.commits l)
def a8U : Con := .fn 18 (RepoD × Int) (fun a => [b9z a.1, .int .i64 a.2]) (fun a => 0 <= a.2 /\ a.2 <= 1048576) (fun a => .int .i64 (szRp a.1 a.2)) (fun _ => [])
theorem c0j : Has Tryz.prog 11 a8U := by
 refine a0e mixed a0i (HasL.cons b3z (HasL.cons b7e HasL.nil)) [0, 1, 2, 4] ((fun a n (_ : Nat) => (fun _ => a0L) a n)) [] Tryz.func11 (by unfold Tryz.f11; rfl) (fun _ => ⟨(), trivial⟩) ?_
 intro a ha
 obtain ⟨f, n⟩ := a
 obtain ⟨h1, h2⟩ : 0 <= n /\ n <= 1048576 := ha
 have h3 := a5V (a := f.commits) h1
 simp -implicitDefEqProofs [a8U, Con.fn, tTab, a7k, a9Q]
 try dsimp only
 try simp +contextual [eStr, a0y, a0s, a0z, a0t, List.getElem?_eq_getElem, a0u, a0p, a0r, a0q, <- a0h, <- a0f, a0m, a0n, a0l, a0k, a0o, a0j, and_assoc]
 repeat' (first | intro _ | apply And.intro)
 all_goals first | omega | grind [a0B, szRp]
def a6x : Con := .fn 26 (List Int × List Int) (fun a => [.sl true 1 (a0d a.1), .sl true 1 (a0d a.2)]) (fun _ => True) (fun a => .bool (decide (a.1 = a.2))) (fun _ => [])
theorem b0H : Has Tryz.prog 18 a6x := by
 refine a0e mixed a0i HasL.nil [0, 1, 2, 3, 4, 5] ((fun a n (_ : Nat) => (fun a _ => ⟨Nat, fun i => ⟨[(0, true, .sl true 1 (a0d a.1)), (1, true, .sl true 1 (a0d a.2)), (4, true, .bool false), (5, true, .int .i64 i)], []⟩, fun i => i <= a.1.length /\ a.1.length = a.2.length /\ a.1.take i = a.2.take i, fun i => a.1.length - i⟩) a n)) [] Tryz.func18 (by unfold Tryz.f18; rfl) (fun _ => ⟨(), trivial⟩) ?_
 intro a _
 obtain ⟨l, r⟩ := a
 simp -implicitDefEqProofs [a6x, Con.fn, tTab]
 try dsimp only
 try simp +contextual [eStr, a0y, a0s, a0z, a0t, List.getElem?_eq_getElem, a0u, a0p, a0r, a0q, <- a0h, <- a0f, a0m, a0n, a0l, a0k, a0o, a0j, and_assoc, eInt, a0R, a0E, a2l, a3a, a3s, a3b, a2Z, a2o, <- a2x, a2a, a2Y, a2K, a2J, a1Z, <- a2h, a2w, a2v, a2g, a2f, a1e, <- a1I]
 repeat' (first | intro _ | apply And.intro)
 all_goals first | omega | grind [a0B, a4J, a3z]
def b1H : Con := .fn 15 (HeadD × HeadD) (fun a => [.agg [.str a.1.name, .int .i64 a.1.at_], .agg [.str a.2.name, .int .i64 a.2.at_]]) (fun _ => True) (fun a => .bool (decide (a.1 = a.2))) (fun _ => [])
theorem b8B : Has Tryz.prog 110 b1H := by
 refine a0e mixed a0i HasL.nil [0, 1, 2, 3, 4] ((fun a n (_ : Nat) => (fun _ => a0L) a n)) [] Tryz.func110 (by unfold Tryz.f110; rfl) (fun _ => ⟨(), trivial⟩) ?_
 intro a _
 obtain ⟨⟨p, x⟩, ⟨q, y⟩⟩ := a
 simp -implicitDefEqProofs [b1H, Con.fn, tTab]
 try dsimp only
 try simp +contextual [eStr, a0y, a0s, a0z, a0t, List.getElem?_eq_getElem, a0u, a0p, a0r, a0q, <- a0h, <- a0f, a0m, a0n, a0l, a0k, a0o, a0j, and_assoc]
 repeat' (first | intro _ | apply And.intro)
 all_goals first | omega | grind [a0B]
def a9F : Con := .fn 27 (List HeadD × List HeadD) (fun a => [.sl true 2 (a0b a.1), .sl true 2 (a0b a.2)]) (fun _ => True) (fun a => .bool (decide (a.1 = a.2))) (fun _ => [])
theorem b6q : Has Tryz.prog 62 a9F := by
 refine a0e mixed a0i (HasL.cons b8B HasL.nil) [0, 1, 2, 3, 4, 5] ((fun a n (_ : Nat) => (fun a _ => ⟨Nat, fun i => ⟨[(0, true, .sl true 2 (a0b a.1)), (1, true, .sl true 2 (a0b a.2)), (4, true, .bool false), (5, true, .int .i64 i)], []⟩, fun i => i <= a.1.length /\ a.1.length = a.2.length /\ a.1.take i = a.2.take i, fun i => a.1.length - i⟩) a n)) [] Tryz.func62 (by unfold Tryz.f62; rfl) (fun _ => ⟨(), trivial⟩) ?_
 intro a _
 obtain ⟨l, r⟩ := a
 simp -implicitDefEqProofs [a9F, Con.fn, tTab, b1H]
 try dsimp only
 try simp +contextual [eStr, a0y, a0s, a0z, a0t, List.getElem?_eq_getElem, a0u, a0p, a0r, a0q, <- a0h, <- a0f, a0m, a0n, a0l, a0k, a0o, a0j, and_assoc, eInt, a0R, a0E, a2l, a3a, a3s, a3b, a2Z, a2o, <- a2x, a2a, a2Y, a2K, a2J, a1Z, <- a2h, a2w, a2v, a2g, a2f, a1e, <- a1I, <- HeadD.eq_iff]
 repeat' (first | intro _ | apply And.intro)
 all_goals first | omega | grind [a0B, a4J, a3z]
def a7Z : Con := .fn 22 (CommitD × CommitD) (fun a => [.agg [.sl true 1 (a0d a.1.parents), .str a.1.who, .sl true 2 (a0c a.1.tree)], .agg [.sl true 1 (a0d a.2.parents), .str a.2.who, .sl true 2 (a0c a.2.tree)]]) (fun _ => True) (fun a => .bool (decide (a.1 = a.2))) (fun _ => [])
theorem b4E : Has Tryz.prog 109 a7Z := by
 refine a0e mixed a0i (HasL.cons b0H (HasL.cons b6p HasL.nil)) [0, 1, 2, 3, 4] ((fun a n (_ : Nat) => (fun _ => a0L) a n)) [] Tryz.func109 (by unfold Tryz.f109; rfl) (fun _ => ⟨(), trivial⟩) ?_
 intro a _
 obtain ⟨⟨p, x, s⟩, ⟨q, y, t⟩⟩ := a
 simp -implicitDefEqProofs [a7Z, Con.fn, tTab, a6x, a9E]
 try dsimp only
 try simp +contextual [eStr, a0y, a0s, a0z, a0t, List.getElem?_eq_getElem, a0u, a0p, a0r, a0q, <- a0h, <- a0f, a0m, a0n, a0l, a0k, a0o, a0j, and_assoc]
 repeat' (first | intro _ | apply And.intro)
 all_goals first | omega | grind [a0B]
def a7d : Con := .fn 27 (List CommitD × List CommitD) (fun a => [.sl true 3 (a0g a.1), .sl true 3 (a0g a.2)]) (fun _ => True) (fun a => .bool (decide (a.1 = a.2))) (fun _ => [])
theorem b3k : Has Tryz.prog 61 a7d := by
 refine a0e mixed a0i (HasL.cons b4E HasL.nil) [0, 1, 2, 3, 4, 5] ((fun a n (_ : Nat) => (fun a _ => ⟨Nat, fun i => ⟨[(0, true, .sl true 3 (a0g a.1)), (1, true, .sl true 3 (a0g a.2)), (4, true, .bool false), (5, true, .int .i64 i)], []⟩, fun i => i <= a.1.length /\ a.1.length = a.2.length /\ a.1.take i = a.2.take i, fun i => a.1.length - i⟩) a n)) [] Tryz.func61 (by unfold Tryz.f61; rfl) (fun _ => ⟨(), trivial⟩) ?_
 intro a _
 obtain ⟨l, r⟩ := a
 simp -implicitDefEqProofs [a7d, Con.fn, tTab, a7Z]
 try dsimp only
 try simp +contextual [eStr, a0y, a0s, a0z, a0t, List.getElem?_eq_getElem, a0u, a0p, a0r, a0q, <- a0h, <- a0f, a0m, a0n, a0l, a0k, a0o, a0j, and_assoc, eInt, a0R, a0E, a2l, a3a, a3s, a3b, a2Z, a2o, <- a2x, a2a, a2Y, a2K, a2J, a1Z, <- a2h, a2w, a2v, a2g, a2f, a1e, <- a1I, <- CommitD.eq_iff]
 repeat' (first | intro _ | apply And.intro)
 all_goals first | omega | grind [a0B, a4J, a3z]
def a8K : Con := .fn 17 (RepoD × RepoD) (fun a => [a1E a.1, a1E a.2]) (fun _ => True) (fun a => .bool (decide (a.1 = a.2))) (fun _ => [])
theorem b8C : Has Tryz.prog 17 a8K := by
 refine a0e mixed a0i (HasL.cons b3k (HasL.cons b6q HasL.nil)) [0, 1, 2, 3, 4] ((fun a n (_ : Nat) => (fun _ => a0L) a n)) [] Tryz.func17 (by unfold Tryz.f17; rfl) (fun _ => ⟨(), trivial⟩) ?_
 intro a _
 obtain ⟨⟨p, x⟩, ⟨q, y⟩⟩ := a
 simp -implicitDefEqProofs [a8K, Con.fn, tTab, a7d, a9F]
 try dsimp only
 try simp +contextual [eStr, a0y, a0s, a0z, a0t, List.getElem?_eq_getElem, a0u, a0p, a0r, a0q, <- a0h, <- a0f, a0m, a0n, a0l, a0k, a0o, a0j, and_assoc]
 repeat' (first | intro _ | apply And.intro)
 all_goals first | omega | grind [a0B]
theorem c7L {c : CommitD} {l : Int} (hl : 0 <= l) (h : 0 <= szCm c l) : (c.parents.length : Int) <= l /\ (c.who.length : Int) <= l /\ (c.tree.length : Int) <= l /\ ∀ f ∈ c.tree, (f.path.length : Int) <= l /\ (f.text.length : Int) <= l /\ ∀ s ∈ f.text, (s.length : Int) <= l := by
 unfold szCm at h
 have h0 := b5U (a := c.parents) hl
 split at h
 ·omega
 ·split at h
  ·omega
  ·split at h
   ·omega
   ·rename_i h1 h2 h3
    obtain ⟨q1, q2⟩ := c0f (Int.not_lt.1 h3)
    have hp : (c.parents.length : Int) <= l := by
     unfold szI at h1
     split at h1 <;> omega
    refine ⟨hp, by omega, by omega, fun f hf => ?_⟩
    obtain ⟨r1, r2, r3⟩ := q2 f hf
    exact ⟨by omega, by omega, fun s hs => by have := r3 s hs; omega⟩
theorem c7K : ∀ {a : List CommitD} {l : Int}, 0 <= l -> 0 <= szCL a l -> ∀ c ∈ a, (c.parents.length : Int) <= l /\ (c.who.length : Int) <= l /\ (c.tree.length : Int) <= l /\ ∀ f ∈ c.tree, (f.path.length : Int) <= l /\ (f.text.length : Int) <= l /\ ∀ s ∈ f.text, (s.length : Int) <= l := by
 intro a
 induction a with
 | nil => intro l _ _ c hc; cases hc
 | cons x r ih =>
  intro l hl h c hc
  simp only [szCL] at h
  split at h
  ·omega
  ·rename_i h0
   rcases List.mem_cons.1 hc with rfl | hc
   ·exact c7L hl (by omega)
   ·have hle := b2t (c := x) hl
    obtain ⟨h1, h2, h3, h4⟩ := ih (by omega) h c hc
    refine ⟨by omega, by omega, by omega, fun f hf => ?_⟩
    obtain ⟨r1, r2, r3⟩ := h4 f hf
    exact ⟨by omega, by omega, fun s hs => by have := r3 s hs; omega⟩
theorem b5R {a : List CommitD} {l : Int} (h : 0 <= a1L a l) : (a.length : Int) <= l /\ ∀ c ∈ a, (c.parents.length : Int) <= l /\ (c.who.length : Int) <= l /\ (c.tree.length : Int) <= l /\ ∀ f ∈ c.tree, (f.path.length : Int) <= l /\ (f.text.length : Int) <= l /\ ∀ s ∈ f.text, (s.length : Int) <= l := by
 unfold a1L at h
 split at h
 ·omega
 ·refine ⟨by omega, fun c hc => ?_⟩
  obtain ⟨h1, h2, h3, h4⟩ := c7K (by omega) h c hc
  refine ⟨by omega, by omega, by omega, fun f hf => ?_⟩
  obtain ⟨r1, r2, r3⟩ := h4 f hf
  exact ⟨by omega, by omega, fun s hs => by have := r3 s hs; omega⟩
theorem c7P : ∀ {a : List HeadD} {l : Int}, 0 <= l -> szHL a l <= l := by
 intro a
 induction a with
 | nil => intro l _; exact Int.le_refl l
 | cons s r ih =>
  intro l h
  simp only [szHL]
  split
  ·omega
  ·have h1 := b2u (f := s) h
   have := ih (l := szHd s l) (by omega); omega
theorem c0h {a : List HeadD} {l : Int} (h : 0 <= l) : a4c a l <= l := by
 unfold a4c
 split
 ·omega
 ·have := c7P (a := a) (l := l - a.length) (by omega); omega
theorem c7Q : ∀ {a : List HeadD} {l : Int}, 0 <= l -> 0 <= szHL a l -> ∀ h ∈ a, (h.name.length : Int) <= l := by
 intro a
 induction a with
 | nil => intro l _ _ c hc; cases hc
 | cons x r ih =>
  intro l hl h c hc
  simp only [szHL] at h
  split at h
  ·omega
  ·rename_i h0
   have hle := b2u (f := x) hl
   rcases List.mem_cons.1 hc with rfl | hc
   ·unfold szHd at h0
    split at h0 <;> omega
   ·have := ih (by omega) h c hc; omega
theorem b1w {a : List HeadD} {l : Int} (h : 0 <= a4c a l) : (a.length : Int) <= l /\ ∀ h ∈ a, (h.name.length : Int) <= l := by
 unfold a4c at h
 split at h
 ·omega
 ·exact ⟨by omega, fun c hc => by have := c7Q (by omega) h c hc; omega⟩
theorem c7S {r : RepoD} {l : Int} (h : 0 <= l) : szRp r l <= l := by
 unfold szRp
 have h1 := a5V (a := r.commits) h
 split
 ·omega
 ·split
  ·omega
  ·have := c0h (a := r.heads) (l := a1L r.commits l) (by omega); omega
theorem c7T {r : RepoD} {l : Int} (hl : 0 <= l) (h : 0 <= szRp r l) : ((r.commits.length : Int) <= l /\ ∀ c ∈ r.commits, (c.parents.length : Int) <= l /\ (c.who.length : Int) <= l /\ (c.tree.length : Int) <= l /\ ∀ f ∈ c.tree, (f.path.length : Int) <= l /\ (f.text.length : Int) <= l /\ ∀ s ∈ f.text, (s.length : Int) <= l) /\
  (r.heads.length : Int) <= l /\ ∀ h ∈ r.heads, (h.name.length : Int) <= l := by
 unfold szRp at h
 have h1 := a5V (a := r.commits) hl
 split at h
 ·omega
 ·split at h
  ·omega
  ·rename_i h2 h3
   obtain ⟨q1, q2⟩ := b1w (Int.not_lt.1 h3)
   exact ⟨b5R (Int.not_lt.1 h2), by omega, fun c hc => by have := q2 c hc; omega⟩
theorem b5V {r : RepoD} (h : 0 <= szRp r 1048576) : rpSz r /\ a5u r := by
 obtain ⟨⟨h1, h2⟩, h3, h4⟩ := c7T (by omega) h
 refine ⟨⟨by omega, fun c hc => ?_, by omega⟩, by omega, fun c hc f hf => ?_⟩
 ·obtain ⟨q1, q2, q3, q4⟩ := h2 c hc
  exact ⟨by omega, by omega, fun g hg => by have := (q4 g hg).2.1; omega⟩
 ·have := ((h2 c hc).2.2.2 f hf).1; omega
theorem a6F {l : List Bool} {x : Int} (h0 : 0 <= x) (h1 : x.toNat < l.length) : isT l x.toNat = decide (x ∈ a0w l) := by
 rw [Bool.eq_iff_iff, decide_eq_true_iff, listT_mem]
 constructor
 ·intro h; exact ⟨x.toNat, h1, h, by omega⟩
 ·rintro ⟨i, _, h2, rfl⟩
  simpa using h2
def Con.view (k : Con) (K : Nat) (rows : k.A -> k.X -> List (List D)) : Con := { k with res := fun a x => .sl false K (rows a x), fin := fun _ _ => [] }
theorem Has.view {P : Program} {f : Nat} {k : Con} (H : Has P f k) (K : Nat) (rows : k.A -> k.X -> List (List D)) (hr : ∀ a x, k.res a x = .own 8 K (rows a x)) (hb : ∀ a, k.boxes a = []) (hl : k.lends = []) : Has P f (k.view K rows) := by
 suffices key : ∀ (a : k.A), k.pre a -> ∀ (c : Cx) (_ : Kn k.need c) (vs : List Value) (β : Nat -> Value) (fp : Nat -> List (Nat × Nat)), c.n = k.n -> c.pins = k.pins2 a β -> vs.length = (k.args a).length -> vs.length <= k.n ->
   SatI c (k.start2 a) ⟨vs.toArray ++ Array.replicate (k.n - vs.length) undef, []⟩ c.w0 β fp ->
   Calls P f vs.toArray c.w0 fun e w' => ∃ x : k.X, k.post a x /\ ∃ v, e = .returned v /\ ∃ β' fp' a', SatI c ⟨fun _ => none, get? []⟩ a' w' β' fp' /\ RelL w' (get? []) β' c [.sl false K (rows a x)] [v] by
  exact ⟨H.enter, H.tot, H.nob, fun (a : k.A) ha c hky vs β fp hn hpin hlen hlen2 S => key a ha c hky vs β fp hn hpin hlen hlen2 S, H.bldr, H.bt.imp id fun h a => ⟨(h a).1, fun x p hp => (by cases hp)⟩⟩
 intro a ha c hky vs β fp hn hpin hlen hlen2 S
 have hp : c.pins = [] := by rw [hpin]; simp -implicitDefEqProofs [Con.pins2, hb, hl]
 refine (H.calls a ha c hky vs β fp hn hpin hlen hlen2 S).mono ?_
 rintro e w' ⟨x, hx, v, rfl, β', fp', a', E, hv⟩
 rw [hr] at hv
 have hv2 : ∃ e, Vw w' (get? (k.fin a x)) β' c false [.sl e K (rows a x)] [v] := by cases hv with | own _ h2 _ _ => exact h2
 obtain ⟨e, f, h1, h2⟩ := hv2
 refine ⟨x, hx, v, rfl, β', fp', a', ⟨?_, ?_, ?_, ?_, ?_, E.fg, E.old, E.os, E.tape, E.output, E.size, E.defers, E.tn, by simp -implicitDefEqProofs [hp]⟩, .sl ⟨e, f, h1, fun z hz => ⟨⟨?_, ?_⟩, (h2 z hz).2⟩⟩ .lnil⟩
 ·intro t g av h; cases h
 ·intro h blk hm; cases hm
 ·intro h blk hm; cases hm
 ·intro h h' blk blk' hm; cases hm
 ·intro h blk hm; cases hm
 ·rintro ⟨h, ty, vs, hm, _⟩; cases hm
 ·intro h e k d R n cc hm; cases hm
--TAB a1D
end Vx
end Go.Proofs.YtokdjnbcdokpjabGreatDoor
