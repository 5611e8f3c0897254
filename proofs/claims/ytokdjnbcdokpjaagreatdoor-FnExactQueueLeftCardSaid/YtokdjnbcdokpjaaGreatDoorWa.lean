/-
  Joined by program (merge.py): Base, RowK, Rep, RowR, RowZ, RowG, Ca, Cb, Cc, Ce, Cd, Cf, Cg, Ch, Ci, Cj, Lib, Ck, Cl, Pa, Cm, LawA, Cn, Co, Cp, Cq, Cr, Cs, Ct, Ec, Ea, Eb, Ef, Cu, Dd, De, La, Lf, Lg, Ma, Df, Ha, Ia, Ib, Ic, Db, Lb, Lc, Ld, Ed, Mb, Na, Da, Dc, Dg, Id, Vw, Oa. It shows what the single texts show; conditions: none but those of each lemma.
-/
import Derived.Test.YtokdjnbcdokpjaaGreatDoorVc
import Derived.Test.YtokdjnbcdokpjaaGreatDoorProg
import Derived.KernelRfl
import Derived.Test.YtokdjnbcdokpjaaGreatDoorRows
import Derived.Test.YtokdjnbcdokpjaaGreatDoorCards
import Derived.Test.YtokdjnbcdokpjaaGreatDoorTie
import Derived.ProofKit
import Derived.OpenShut
import Derived.ShutString
import Derived.Lay
import Derived.LaidMore
import Derived.SevenTiedAt
import Derived.Lib.Walk
import Derived.Lib.Strings
import Derived.Lib.Bytealg
import Derived.Handy
set_option linter.unusedVariables false
set_option linter.unusedSimpArgs false
set_option linter.unusedSectionVars false
namespace Go.Proofs.YtokdjnbcdokpjaaGreatDoor
open Vx
namespace Vx
def tTab : List (Nat × TI) := [
(3, ⟨false, [.int .i64], 8, [], 0⟩),
(4, ⟨false, [.bool], 1, [], 0⟩),
(9, ⟨false, [.str], 16, [], 0⟩),
(35, ⟨false, [.sl 9 1], 24, [], 9⟩),
(22, ⟨false, [.sl 5 1], 24, [], 5⟩),
(199, ⟨true, [.str, .sl 9 1], 40, [(9, 0), (35, 1)], 0⟩),
(39, ⟨true, [.str, .sl 9 1], 40, [(9, 0), (35, 1)], 0⟩),
(138, ⟨false, [.sl 199 2], 24, [], 199⟩),
(31, ⟨false, [.sl 39 2], 24, [], 39⟩),
(32, ⟨false, [.sl 3 1], 24, [], 3⟩),
(142, ⟨true, [.str, .int .i64], 24, [(9, 0), (3, 1)], 1⟩),
(113, ⟨true, [.str, .int .i64], 24, [(9, 0), (3, 1)], 1⟩),
(51, ⟨false, [.sl 142 2], 24, [], 142⟩),
(24, ⟨false, [.sl 113 2], 24, [], 113⟩),
(140, ⟨true, [.sl 3 1, .str, .sl 199 2], 64, [(32, 0), (9, 1), (138, 2)], 0⟩),
(34, ⟨true, [.sl 3 1, .str, .sl 39 2], 64, [(32, 0), (9, 1), (31, 2)], 0⟩),
(50, ⟨false, [.sl 140 3], 24, [], 140⟩),
(23, ⟨false, [.sl 34 3], 24, [], 34⟩),
(53, ⟨true, [.sl 140 3, .sl 142 2], 48, [(50, 0), (51, 1)], 0⟩),
(26, ⟨true, [.sl 34 3, .sl 113 2], 48, [(23, 0), (24, 1)], 0⟩),
(149, ⟨true, [.sl 5 1, .int .i64], 32, [(22, 0), (3, 1)], 0⟩),
(204, ⟨true, [.int .i64, .str, .str, .str, .str, .int .i64, .sl 9 1], 104, [(3, 0), (9, 1), (9, 2), (9, 3), (9, 4), (3, 5), (35, 6)], 0⟩),
(177, ⟨false, [.sl 204 7], 24, [], 204⟩),
(180, ⟨true, [.str, .int .i64], 24, [(9, 0), (3, 1)], 1⟩),
(154, ⟨false, [.sl 180 2], 24, [], 180⟩),
(122, ⟨true, [.bool, .sl 9 1, .sl 9 1, .sl 9 1, .sl 9 1], 104, [(4, 0), (35, 1), (35, 2), (35, 3), (35, 4)], 0⟩),
(163, ⟨false, [.sl 122 5], 24, [], 122⟩),
(83, ⟨false, [.sl 32 1], 24, [], 32⟩),
 (5, ⟨false, [.int .u8], 1, [], 0⟩)]
theorem a0i : ∀ t ti, get? tTab t = some ti -> TOk Tryz.prog t ti := a8s (by kernel_rfl)
theorem mixed : Tryz.prog.follows .mixedOrders = true := by kernel_rfl
def a0K : Nat -> Inv := fun _ => ⟨Unit, fun _ => ⟨[], []⟩, fun _ => True, fun _ => 0⟩
theorem c6W {α : Type} (f : Nat -> α) (d : Nat) (v : α) (h : Nat) : upd f d v h = if h = d then v else f h := rfl
def c5m (e : Nat -> Option (Bool × AV)) (m : Nat -> Option Blk) : Nat -> Option (Bool × AV) := fun t => (e t).map fun p => (p.1, p.2.wipe m)
def c5n (m : Nat -> Option Blk) : Nat -> Option Blk := fun h => (m h).map (Blk.wipe m)
theorem c7d (s : St) (m : Nat -> Option Blk) : s.wipe m = ⟨c5m s.e m, c5n m⟩ := rfl
theorem c2B (e : Nat -> Option (Bool × AV)) (m : Nat -> Option Blk) (t : Nat) : c5m e m t = (e t).map fun p => (p.1, p.2.wipe m) := rfl
theorem c2C (m : Nat -> Option Blk) (h : Nat) : c5n m h = (m h).map (Blk.wipe m) := rfl
abbrev Str := List UInt8
def eStr (s : Str) : List D := [.str s]
def a0a (l : List Str) : List (List D) := l.map eStr
structure FileD where
 path : Str
 text : List Str
 deriving DecidableEq, Inhabited
def a0y (f : FileD) : List D := [.str f.path, .sl 9 1 (a0a f.text)]
def a0c (l : List FileD) : List (List D) := l.map a0y
@[simp] theorem eStrs_length (l : List Str) : (a0a l).length = l.length := by simp [a0a]
@[simp] theorem eStrs_nil : a0a [] = [] := rfl
@[simp] theorem eStrs_get (l : List Str) (i : Nat) : (a0a l)[i]? = l[i]?.map eStr := by simp [a0a]
@[simp] theorem eStrs_getElem (l : List Str) (i : Nat) (h : i < (a0a l).length) : (a0a l)[i] = eStr (l[i]'(by simpa using h)) := by simp [a0a]
@[simp] theorem eStr_inj (a b : Str) : (eStr a = eStr b) = (a = b) := by simp [eStr]
@[simp] theorem eStrs_inj (a b : List Str) : (a0a a = a0a b) = (a = b) := by
 apply propext
 constructor
 ·intro h
  exact List.map_inj_right (fun x y h => by simpa using h) |>.1 h
 ·rintro rfl; rfl
@[simp] theorem eStrs_eq_nil (a : List Str) : (a0a a = []) = (a = []) := by simp [a0a]
@[simp] theorem nil_eq_eStrs (a : List Str) : ([] = a0a a) = (a = []) := by simp [a0a, eq_comm]
theorem a0h (a b : List Str) : a0a (a ++ b) = a0a a ++ a0a b := by simp [a0a]
theorem a0o (a : List Str) (x : Str) : a0a a ++ [[.str x]] = a0a (a ++ [x]) := by simp [a0a, eStr]
theorem a0u (l : List Str) (i : Nat) (s : Str) : (a0a l).set i [.str s] = a0a (l.set i s) := by simp [a0a, List.map_set, eStr]
theorem a0m (l : List Str) (i : Nat) : (a0a l).take i = a0a (l.take i) := by simp [a0a]
theorem a0n (l : List Str) (i : Nat) : (a0a l).drop i = a0a (l.drop i) := by simp [a0a]
theorem a0r (n : Nat) : List.replicate n [D.str []] = a0a (List.replicate n []) := by simp [a0a, eStr]
@[simp] theorem eStrs_flat (l : List Str) : (∀ x ∈ a0a l, ∀ d ∈ x, a5P d) = True := by
 simp only [eq_iff_iff, iff_true]
 intro x hx d hd
 simp only [a0a, List.mem_map] at hx
 obtain ⟨s, _, rfl⟩ := hx
 simp only [eStr, List.mem_singleton] at hd
 subst hd
 trivial
@[simp] theorem eFiles_length (l : List FileD) : (a0c l).length = l.length := by simp [a0c]
@[simp] theorem eFiles_nil : a0c [] = [] := rfl
@[simp] theorem eFiles_get (l : List FileD) (i : Nat) : (a0c l)[i]? = l[i]?.map a0y := by simp [a0c]
@[simp] theorem eFiles_getElem (l : List FileD) (i : Nat) (h : i < (a0c l).length) : (a0c l)[i] = a0y (l[i]'(by simpa using h)) := by simp [a0c]
@[simp] theorem eFile_inj (a b : FileD) : (a0y a = a0y b) = (a = b) := by
 cases a; cases b; simp [a0y]
@[simp] theorem eFiles_inj (a b : List FileD) : (a0c a = a0c b) = (a = b) := by
 apply propext
 constructor
 ·intro h
  exact List.map_inj_right (fun x y h => by simpa using h) |>.1 h
 ·rintro rfl; rfl
@[simp] theorem eFiles_eq_nil (a : List FileD) : (a0c a = []) = (a = []) := by simp [a0c]
@[simp] theorem nil_eq_eFiles (a : List FileD) : ([] = a0c a) = (a = []) := by simp [a0c, eq_comm]
theorem a0j (a : List FileD) (p : Str) (t : List Str) : a0c a ++ [[.str p, .sl 9 1 (a0a t)]] = a0c (a ++ [⟨p, t⟩]) := by simp [a0c, a0y]
theorem a0f (a b : List FileD) : a0c (a ++ b) = a0c a ++ a0c b := by simp [a0c]
theorem a0l (l : List FileD) (i : Nat) : (a0c l).take i = a0c (l.take i) := by simp [a0c]
theorem a0k (l : List FileD) (i : Nat) : (a0c l).drop i = a0c (l.drop i) := by simp [a0c]
theorem a0p (l : List FileD) (i : Nat) (p : Str) (t : List Str) : (a0c l).set i [.str p, .sl 9 1 (a0a t)] = a0c (l.set i ⟨p, t⟩) := by simp [a0c, List.map_set, a0y]
theorem a0q (n : Nat) : List.replicate n [D.str [], .sl 9 1 []] = a0c (List.replicate n ⟨[], []⟩) := by simp [a0c, a0y]
@[simp] theorem FileD.eta (f : FileD) : (⟨f.path, f.text⟩ : FileD) = f := rfl
@[simp] theorem asStr_str (s : Str) : D.asStr (.str s) = s := rfl
@[simp] theorem asRows_sl (e k : Nat) (r : List (List D)) : D.asRows (.sl e k r) = r := rfl
@[simp] theorem asInt_int (k : IntKind) (n : Int) : D.asInt (.int k n) = n := rfl
@[simp] theorem asBool_bool (b : Bool) : D.asBool (.bool b) = b := rfl
theorem a0s (a b : Nat) : ((a : Int) = (b : Int) + 1) = (a = b + 1) := by apply propext; omega
theorem a0z (a b : Nat) : ((a : Int) = (b : Int)) = (a = b) := by apply propext; omega
theorem a0t (a : Nat) : ((a : Int) = 0) = (a = 0) := by apply propext; omega
theorem a0C {α : Type} {l : List α} {i : Nat} (h : i < l.length) : l.take (i + 1) = l.take i ++ [l[i]] := List.take_succ_eq_append_getElem h
@[simp] theorem getD_nat (l : Str) (i : Nat) (h : i < l.length) : l.getD i 0 = l[i] := by simp [List.getD_eq_getElem?_getD, h]
theorem a0A {α : Type} {l : List α} {p : α -> Bool} {i : Nat} (h : i < l.length) : (l.take (i + 1)).all p = ((l.take i).all p && p l[i]) := by
 rw [a0C h, List.all_append]; simp
theorem a4D {α : Type} {l r : List α} {i : Nat} (h1 : i < l.length) (h2 : i < r.length) (h : l.take i = r.take i) (he : l[i] = r[i]) : l.take (i + 1) = r.take (i + 1) := by
 rw [a0C h1, a0C h2, h, he]
theorem a3r {α : Type} {l r : List α} {i : Nat} (h0 : l.length = r.length) (h1 : l.length <= i) (h : l.take i = r.take i) : l = r := by
 rw [List.take_of_length_le h1, List.take_of_length_le (by omega)] at h
 exact h
theorem a5L {α : Type} {o a : List α} {i : Nat} (h1 : i < o.length) (h2 : i < a.length) (h : o.take i = a.take i) : (o.set i a[i]).take (i + 1) = a.take (i + 1) := by
 rw [a0C (by simpa using h1), a0C h2, List.take_set_of_le (Nat.le_refl i), h]; simp
theorem FileD.eq_iff (a b : FileD) : (a = b) = (a.path = b.path /\ a.text = b.text) := by
 cases a; cases b; simp
@[simp] theorem FileD.ex1 (p : Str) (x : List Str) (Q : FileD -> Prop) : (∃ a : FileD, a.path = p /\ a.text = x /\ Q a) = Q ⟨p, x⟩ := by
 apply propext
 constructor
 ·rintro ⟨⟨a, b⟩, rfl, rfl, h⟩; exact h
 ·intro h; exact ⟨⟨p, x⟩, rfl, rfl, h⟩
@[simp] theorem FileD.ex2 (p : Str) (x : List Str) (Q : FileD -> Prop) : (∃ a : FileD, (a.path = p /\ a.text = x) /\ Q a) = Q ⟨p, x⟩ := by
 apply propext
 constructor
 ·rintro ⟨⟨a, b⟩, ⟨rfl, rfl⟩, h⟩; exact h
 ·intro h; exact ⟨⟨p, x⟩, ⟨rfl, rfl⟩, h⟩
theorem c3b (a : Nat) : ((a : Int) = 1) = (a = 1) := by apply propext; omega
/- What unfolds a walk. -/
attribute [simp] c7b a2q c7H c6Y c4V c6Z c7G c2A b9G c7a b6e c3A c0S b3c b8o b6b b4K c0P b8s b8r c0Q c2z b9F c3z b0B b8x c4T c2y c0R b6g c0Y c0X b4L c0W flB ldMv subN a1o AV.sgl ldB btys a3C a9d b6f c5T b7y b9Q b5O a2y b9R c2j b6D c0V b8w AV.isSub c5p c3y c3C a3p a8o a2f a8V AV.stolen b9S c7g b7A c2J c3B c0T c0U b8v b8y b6i b6j a6G b6d b6c b8q wk_T wk_n c7f c7J c7I c8a c8b a0M a1N a2a calm a4g a3w a8y a4W b3B a7o pas4 a8P a2i a6s ren4 a2k m4 a3A a4x a3d apnd a3B a6F a4X a8h mvL AV.mv AV.base AV.moved kBld bldK wrK stK AV.selfOk AV.src TI.flat a5v a6A St.val St.cond St.fn St.next St.set St.trim c7d c2B c2C a5r get? cGet c6W a3M a0J rm a3F Oper.hnd Sc.st a6y a8L a7m a0F a3G ldL ld1 a2W a2X a4H a5A a3y a3s a4E Out.of a8B a5u AV.rows AV.one AV.cells AV.deepOk AV.toD toDs a2w a1P a2C TK.zeroAV TK.zeroD byteOf inR Op.operands Call.operands a2V a5X a4t a5k a3c a4s pasV pasL pas1 a3h okHs a5W a4N a4m rho over a4C a4k a3x a1V a2D a3k a2I a2H m2 AV.wipe AV.wipeV AV.wipe1 Blk.wipe AV.hs AV.hs.hsL a4i Con.start2 Con.pk b3r fini b3D resA a2r Sc.from a8l renT renV b1d renL ren1 a6H a8m c5k clOf ldMk b8N actB setRow a7f a5P a0K c6E c4F b6h a3Y AV.viewed AV.viewed1
end Vx
end Go.Proofs.YtokdjnbcdokpjaaGreatDoor
namespace Go.Proofs.YtokdjnbcdokpjaaGreatDoor
open Go.ChangeShapes Go.WideShapes Go.ChangeAt Go.RowKit
namespace Vx
theorem c4g : ownKnob Tryz.prog.godebug = none := by kernel_rfl
theorem laidOut : laidOutB Tryz.prog = true := by kernel_rfl
theorem a9k : b3G tTab = true := by decide
theorem b5r {T : Nat -> Option TI} (hs : ∀ te, T 9 = some te -> te.cells = [.str]) {ds : List D} (h : Shp T [.sl 9 1] ds) : ∃ l, ds = [.sl 9 1 (a0a l)] := by
 cases h with
 | @sl e k te rows ks ds h1 h2 h3 =>
  cases h3
  rw [hs _ h1] at h2
  obtain ⟨l, rfl, _⟩ := a5J (f := eStr) (p := fun _ => True) (rows := rows) (fun r hr => by
   have := h2 r hr
   cases this with
   | str q1 q2 => cases q2; exact ⟨_, rfl, trivial⟩)
  exact ⟨l, rfl⟩
theorem c2e {T : Nat -> Option TI} (hs : ∀ te, T 9 = some te -> te.cells = [.str]) (hf : ∀ te, T 199 = some te -> te.cells = [.str, .sl 9 1]) {ds : List D} (h : Shp T [.sl 199 2] ds) :
  ∃ l, ds = [.sl 199 2 (a0c l)] := by
 cases h with
 | @sl e k te rows ks ds h1 h2 h3 =>
  cases h3
  rw [hf _ h1] at h2
  obtain ⟨l, rfl, _⟩ := a5J (f := a0y) (p := fun _ => True) (rows := rows) (fun r hr => by
   have := h2 r hr
   cases this with
   | str q1 q2 =>
    obtain ⟨l, rfl⟩ := b5r hs q2
    exact ⟨⟨_, l⟩, rfl, trivial⟩)
  exact ⟨l, rfl⟩
section
variable {H : Type} {enc : TypeId × Value -> H} {W : World} {sp : Nat -> Bool} {held : Bool} {r : Reach} {base : Nat}
set_option maxRecDepth 100000 in
theorem open_strs {v : Value} {d : DataW H} {p : List MemPlace} (hu : Tryz.prog.underlying 35 = some (.slice 9)) (hv : Value.okWide Tryz.prog W r base 35 v)
  (h : DataW.Trod enc Tryz.prog W 0 sp held 35 v d p) : ∃ l f, RdL false W [.sl 9 1 (a0a l)] [v] f := by
 obtain ⟨a, n, c, rfl⟩ := okWide_slice hu hv
 obtain ⟨fuel, hf⟩ := h
 obtain ⟨ds, f, h1, h2⟩ := b7m a0i a9k fuel (t := 35) rfl hf
 obtain ⟨l, rfl⟩ := b5r (fun te ht => by cases ht; rfl) h2
 exact ⟨l, f, h1⟩
set_option maxRecDepth 100000 in
theorem b5d {v : Value} {d : DataW H} {p : List MemPlace} (hu : Tryz.prog.underlying 9 = some .string) (hv : Value.okWide Tryz.prog W r base 9 v)
  (h : DataW.Trod enc Tryz.prog W 0 sp held 9 v d p) : ∃ l : Str, v = .string ⟨l.toArray⟩ /\ l.length <= maxLen := by
 obtain ⟨s, rfl, _, _, hs⟩ := Go.ChangeMaps.open_string hu hv h
 exact ⟨s.data.toList, by simp, by simpa using hs⟩
end
end Vx
end Go.Proofs.YtokdjnbcdokpjaaGreatDoor
namespace Go.Proofs.YtokdjnbcdokpjaaGreatDoor
namespace Vx
def eInt (n : Int) : List D := [.int .i64 n]
@[simp] theorem eInt_inj (a b : Int) : (eInt a = eInt b) = (a = b) := by simp [eInt]
def a0d (l : List Int) : List (List D) := l.map eInt
@[simp] theorem eInts_length (l : List Int) : (a0d l).length = l.length := by simp [a0d]
@[simp] theorem eInts_nil : a0d [] = [] := rfl
@[simp] theorem eInts_get (l : List Int) (i : Nat) : (a0d l)[i]? = l[i]?.map eInt := by simp [a0d]
@[simp] theorem eInts_getElem (l : List Int) (i : Nat) (h : i < (a0d l).length) : (a0d l)[i] = eInt (l[i]'(by simpa using h)) := by simp [a0d]
@[simp] theorem eInts_inj (a b : List Int) : (a0d a = a0d b) = (a = b) := by
 apply propext
 constructor
 ·intro h
  exact List.map_inj_right (fun x y h => by simpa using h) |>.1 h
 ·rintro rfl; rfl
@[simp] theorem eInts_eq_nil (a : List Int) : (a0d a = []) = (a = []) := by simp [a0d]
@[simp] theorem nil_eq_eInts (a : List Int) : ([] = a0d a) = (a = []) := by simp [a0d, eq_comm]
theorem a2n (a b : List Int) : a0d (a ++ b) = a0d a ++ a0d b := by simp [a0d]
theorem a2S (l : List Int) (i : Nat) : (a0d l).take i = a0d (l.take i) := by simp [a0d]
theorem a2Q (l : List Int) (i : Nat) : (a0d l).drop i = a0d (l.drop i) := by simp [a0d]
theorem a2h (a : List Int) (n : Int) : a0d a ++ [[.int .i64 n]] = a0d (a ++ [n]) := by simp [a0d, eInt]
theorem a2R (l : List Int) (i : Nat) (n : Int) : (a0d l).set i [.int .i64 n] = a0d (l.set i n) := by simp [a0d, List.map_set, eInt]
theorem a3i (n : Nat) : List.replicate n [D.int .i64 0] = a0d (List.replicate n 0) := by simp [a0d, eInt]
@[simp] theorem eInts_flat (l : List Int) : (∀ x ∈ a0d l, ∀ d ∈ x, a5P d) = True := by
 simp only [eq_iff_iff, iff_true]
 intro x hx d hd
 simp only [a0d, List.mem_map] at hx
 obtain ⟨s, _, rfl⟩ := hx
 simp only [eInt, List.mem_singleton] at hd
 subst hd
 trivial
structure HeadD where
 name : Str
 at_ : Int
 deriving DecidableEq, Inhabited
def a0R (a : HeadD) : List D := [.str a.name, .int .i64 a.at_]
@[simp] theorem eHead_inj (a b : HeadD) : (a0R a = a0R b) = (a = b) := by
 cases a; cases b; simp [a0R]
@[simp] theorem HeadD.eta (a : HeadD) : (⟨a.name, a.at_⟩ : HeadD) = a := rfl
theorem HeadD.eq_iff (a b : HeadD) : (a = b) = (a.name = b.name /\ a.at_ = b.at_) := by
 cases a; cases b; simp
@[simp] theorem HeadD.ex1 (x_name : Str) (x_at_ : Int) (Q : HeadD -> Prop) : (∃ a : HeadD, a.name = x_name /\ a.at_ = x_at_ /\ Q a) = Q ⟨x_name, x_at_⟩ := by
 apply propext
 constructor
 ·rintro ⟨⟨_, _⟩, rfl, rfl, h⟩; exact h
 ·intro h; exact ⟨⟨x_name, x_at_⟩, rfl, rfl, h⟩
@[simp] theorem HeadD.ex2 (x_name : Str) (x_at_ : Int) (Q : HeadD -> Prop) : (∃ a : HeadD, (a.name = x_name /\ a.at_ = x_at_) /\ Q a) = Q ⟨x_name, x_at_⟩ := by
 apply propext
 constructor
 ·rintro ⟨⟨_, _⟩, ⟨rfl, rfl⟩, h⟩; exact h
 ·intro h; exact ⟨⟨x_name, x_at_⟩, ⟨rfl, rfl⟩, h⟩
@[simp] theorem HeadD.ex0 (x_name : Str) (x_at_ : Int) : (∃ a : HeadD, a.name = x_name /\ a.at_ = x_at_) = True := by
 simp only [eq_iff_iff, iff_true]
 exact ⟨⟨x_name, x_at_⟩, rfl, rfl⟩
def a0b (l : List HeadD) : List (List D) := l.map a0R
@[simp] theorem eHeads_length (l : List HeadD) : (a0b l).length = l.length := by simp [a0b]
@[simp] theorem eHeads_nil : a0b [] = [] := rfl
@[simp] theorem eHeads_get (l : List HeadD) (i : Nat) : (a0b l)[i]? = l[i]?.map a0R := by simp [a0b]
@[simp] theorem eHeads_getElem (l : List HeadD) (i : Nat) (h : i < (a0b l).length) : (a0b l)[i] = a0R (l[i]'(by simpa using h)) := by simp [a0b]
@[simp] theorem eHeads_inj (a b : List HeadD) : (a0b a = a0b b) = (a = b) := by
 apply propext
 constructor
 ·intro h
  exact List.map_inj_right (fun x y h => by simpa using h) |>.1 h
 ·rintro rfl; rfl
@[simp] theorem eHeads_eq_nil (a : List HeadD) : (a0b a = []) = (a = []) := by simp [a0b]
@[simp] theorem nil_eq_eHeads (a : List HeadD) : ([] = a0b a) = (a = []) := by simp [a0b, eq_comm]
theorem a1Z (a b : List HeadD) : a0b (a ++ b) = a0b a ++ a0b b := by simp [a0b]
theorem a2B (l : List HeadD) (i : Nat) : (a0b l).take i = a0b (l.take i) := by simp [a0b]
theorem a2A (l : List HeadD) (i : Nat) : (a0b l).drop i = a0b (l.drop i) := by simp [a0b]
theorem a1S (a : List HeadD) (s : Str) (n : Int) : a0b a ++ [[.str s, .int .i64 n]] = a0b (a ++ [⟨s, n⟩]) := by simp [a0b, a0R]
theorem a1T (l : List HeadD) (i : Nat) (s : Str) (n : Int) : (a0b l).set i [.str s, .int .i64 n] = a0b (l.set i ⟨s, n⟩) := by simp [a0b, List.map_set, a0R]
theorem a2P (n : Nat) : List.replicate n [D.str [], D.int .i64 0] = a0b (List.replicate n ⟨[], 0⟩) := by simp [a0b, a0R]
@[simp] theorem eHeads_flat (l : List HeadD) : (∀ x ∈ a0b l, ∀ d ∈ x, a5P d) = True := by
 simp only [eq_iff_iff, iff_true]
 intro x hx d hd
 simp only [a0b, List.mem_map] at hx
 obtain ⟨s, _, rfl⟩ := hx
 simp only [a0R, List.mem_cons, List.not_mem_nil, or_false] at hd
 rcases hd with rfl | rfl <;> trivial
structure CommitD where
 parents : List Int
 who : Str
 tree : List FileD
 deriving DecidableEq, Inhabited
def a0E (a : CommitD) : List D := [.sl 3 1 (a0d a.parents), .str a.who, .sl 39 2 (a0c a.tree)]
@[simp] theorem eCommit_inj (a b : CommitD) : (a0E a = a0E b) = (a = b) := by
 cases a; cases b; simp [a0E]
@[simp] theorem CommitD.eta (a : CommitD) : (⟨a.parents, a.who, a.tree⟩ : CommitD) = a := rfl
theorem CommitD.eq_iff (a b : CommitD) : (a = b) = (a.parents = b.parents /\ a.who = b.who /\ a.tree = b.tree) := by
 cases a; cases b; simp
@[simp] theorem CommitD.ex1 (x_parents : List Int) (x_who : Str) (x_tree : List FileD) (Q : CommitD -> Prop) : (∃ a : CommitD, a.parents = x_parents /\ a.who = x_who /\ a.tree = x_tree /\ Q a) = Q ⟨x_parents, x_who, x_tree⟩ := by
 apply propext
 constructor
 ·rintro ⟨⟨_, _, _⟩, rfl, rfl, rfl, h⟩; exact h
 ·intro h; exact ⟨⟨x_parents, x_who, x_tree⟩, rfl, rfl, rfl, h⟩
@[simp] theorem CommitD.ex2 (x_parents : List Int) (x_who : Str) (x_tree : List FileD) (Q : CommitD -> Prop) : (∃ a : CommitD, (a.parents = x_parents /\ a.who = x_who /\ a.tree = x_tree) /\ Q a) = Q ⟨x_parents, x_who, x_tree⟩ := by
 apply propext
 constructor
 ·rintro ⟨⟨_, _, _⟩, ⟨rfl, rfl, rfl⟩, h⟩; exact h
 ·intro h; exact ⟨⟨x_parents, x_who, x_tree⟩, ⟨rfl, rfl, rfl⟩, h⟩
@[simp] theorem CommitD.ex0 (x_parents : List Int) (x_who : Str) (x_tree : List FileD) : (∃ a : CommitD, a.parents = x_parents /\ a.who = x_who /\ a.tree = x_tree) = True := by
 simp only [eq_iff_iff, iff_true]
 exact ⟨⟨x_parents, x_who, x_tree⟩, rfl, rfl, rfl⟩
def a0g (l : List CommitD) : List (List D) := l.map a0E
@[simp] theorem eCommits_length (l : List CommitD) : (a0g l).length = l.length := by simp [a0g]
@[simp] theorem eCommits_nil : a0g [] = [] := rfl
@[simp] theorem eCommits_get (l : List CommitD) (i : Nat) : (a0g l)[i]? = l[i]?.map a0E := by simp [a0g]
@[simp] theorem eCommits_getElem (l : List CommitD) (i : Nat) (h : i < (a0g l).length) : (a0g l)[i] = a0E (l[i]'(by simpa using h)) := by simp [a0g]
@[simp] theorem eCommits_inj (a b : List CommitD) : (a0g a = a0g b) = (a = b) := by
 apply propext
 constructor
 ·intro h
  exact List.map_inj_right (fun x y h => by simpa using h) |>.1 h
 ·rintro rfl; rfl
@[simp] theorem eCommits_eq_nil (a : List CommitD) : (a0g a = []) = (a = []) := by simp [a0g]
@[simp] theorem nil_eq_eCommits (a : List CommitD) : ([] = a0g a) = (a = []) := by simp [a0g, eq_comm]
theorem a1C (a b : List CommitD) : a0g (a ++ b) = a0g a ++ a0g b := by simp [a0g]
theorem a1Y (l : List CommitD) (i : Nat) : (a0g l).take i = a0g (l.take i) := by simp [a0g]
theorem a1X (l : List CommitD) (i : Nat) : (a0g l).drop i = a0g (l.drop i) := by simp [a0g]
theorem a1d (a : List CommitD) (p : List Int) (w : Str) (t : List FileD) : a0g a ++ [[.sl 3 1 (a0d p), .str w, .sl 39 2 (a0c t)]] = a0g (a ++ [⟨p, w, t⟩]) := by simp [a0g, a0E]
theorem a2m (l : List CommitD) (i : Nat) (p : List Int) (w : Str) (t : List FileD) : (a0g l).set i [.sl 3 1 (a0d p), .str w, .sl 39 2 (a0c t)] = a0g (l.set i ⟨p, w, t⟩) := by simp [a0g, List.map_set, a0E]
theorem a2l (n : Nat) : List.replicate n [D.sl 3 1 [], D.str [], D.sl 39 2 []] = a0g (List.replicate n ⟨[], [], []⟩) := by simp [a0g, a0E]
structure RepoD where
 commits : List CommitD
 heads : List HeadD
 deriving DecidableEq, Inhabited
def b7Y (a : RepoD) : List D := [.sl 34 3 (a0g a.commits), .sl 113 2 (a0b a.heads)]
@[simp] theorem eRepo_inj (a b : RepoD) : (b7Y a = b7Y b) = (a = b) := by
 cases a; cases b; simp [b7Y]
@[simp] theorem RepoD.eta (a : RepoD) : (⟨a.commits, a.heads⟩ : RepoD) = a := rfl
theorem RepoD.eq_iff (a b : RepoD) : (a = b) = (a.commits = b.commits /\ a.heads = b.heads) := by
 cases a; cases b; simp
@[simp] theorem RepoD.ex1 (x_commits : List CommitD) (x_heads : List HeadD) (Q : RepoD -> Prop) : (∃ a : RepoD, a.commits = x_commits /\ a.heads = x_heads /\ Q a) = Q ⟨x_commits, x_heads⟩ := by
 apply propext
 constructor
 ·rintro ⟨⟨_, _⟩, rfl, rfl, h⟩; exact h
 ·intro h; exact ⟨⟨x_commits, x_heads⟩, rfl, rfl, h⟩
@[simp] theorem RepoD.ex2 (x_commits : List CommitD) (x_heads : List HeadD) (Q : RepoD -> Prop) : (∃ a : RepoD, (a.commits = x_commits /\ a.heads = x_heads) /\ Q a) = Q ⟨x_commits, x_heads⟩ := by
 apply propext
 constructor
 ·rintro ⟨⟨_, _⟩, ⟨rfl, rfl⟩, h⟩; exact h
 ·intro h; exact ⟨⟨x_commits, x_heads⟩, ⟨rfl, rfl⟩, h⟩
@[simp] theorem RepoD.ex0 (x_commits : List CommitD) (x_heads : List HeadD) : (∃ a : RepoD, a.commits = x_commits /\ a.heads = x_heads) = True := by
 simp only [eq_iff_iff, iff_true]
 exact ⟨⟨x_commits, x_heads⟩, rfl, rfl⟩
def a2e (a : CommitD) : List D := [.sl 3 1 (a0d a.parents), .str a.who, .sl 199 2 (a0c a.tree)]
@[simp] theorem lCommit_inj (a b : CommitD) : (a2e a = a2e b) = (a = b) := by
 cases a; cases b; simp [a2e]
def a1f (l : List CommitD) : List (List D) := l.map a2e
@[simp] theorem lCommits_length (l : List CommitD) : (a1f l).length = l.length := by simp [a1f]
@[simp] theorem lCommits_nil : a1f [] = [] := rfl
@[simp] theorem lCommits_get (l : List CommitD) (i : Nat) : (a1f l)[i]? = l[i]?.map a2e := by simp [a1f]
@[simp] theorem lCommits_getElem (l : List CommitD) (i : Nat) (h : i < (a1f l).length) : (a1f l)[i] = a2e (l[i]'(by simpa using h)) := by simp [a1f]
@[simp] theorem lCommits_inj (a b : List CommitD) : (a1f a = a1f b) = (a = b) := by
 apply propext
 constructor
 ·intro h
  exact List.map_inj_right (fun x y h => by simpa using h) |>.1 h
 ·rintro rfl; rfl
@[simp] theorem lCommits_eq_nil (a : List CommitD) : (a1f a = []) = (a = []) := by simp [a1f]
@[simp] theorem nil_eq_lCommits (a : List CommitD) : ([] = a1f a) = (a = []) := by simp [a1f, eq_comm]
abbrev b8M (r : RepoD) : AV := .agg [.sl true 3 (a1f r.commits), .sl true 2 (a0b r.heads)]
abbrev a1x (r : RepoD) : AV := .agg [.sl true 3 (a0g r.commits), .sl true 2 (a0b r.heads)]
abbrev a2J (h : Nat) (a : List Int) : List (Nat × Blk) := [(h, .own 3 1 true (a0d a))]
abbrev a2v (h : Nat) (a : List HeadD) : List (Nat × Blk) := [(h, .own 113 2 true (a0b a))]
abbrev a2j (h : Nat) (a : List CommitD) : List (Nat × Blk) := [(h, .own 34 3 true (a0g a))]
end Vx
end Go.Proofs.YtokdjnbcdokpjaaGreatDoor
namespace Go.Proofs.YtokdjnbcdokpjaaGreatDoor
open Go.ChangeShapes Go.WideShapes Go.ChangeAt Go.RowKit
namespace Vx
def isStruct : Option TypeDesc -> Bool
 | some (.struct _) => true
 | _ => false
theorem c4E {T : Nat -> Option TI} (hs : ∀ te, T 3 = some te -> te.cells = [.int .i64]) {ds0 : List TK} {ds : List D} (h : Shp T (.sl 3 1 :: ds0) ds) : ∃ l r, ds = .sl 3 1 (a0d l) :: r /\ Shp T ds0 r := by
 cases h with
 | @sl e k te rows ks ds h1 h2 h3 =>
  rw [hs _ h1] at h2
  obtain ⟨l, rfl, _⟩ := a5J (f := eInt) (p := fun _ => True) (rows := rows) (fun r hr => by
   have := h2 r hr
   cases this with
   | int q1 q2 => cases q2; exact ⟨_, rfl, trivial⟩)
  exact ⟨l, _, rfl, h3⟩
theorem c2f {T : Nat -> Option TI} (hs : ∀ te, T 142 = some te -> te.cells = [.str, .int .i64]) {ds : List D} (h : Shp T [.sl 142 2] ds) : ∃ l, ds = [.sl 142 2 (a0b l)] := by
 cases h with
 | @sl e k te rows ks ds h1 h2 h3 =>
  cases h3
  rw [hs _ h1] at h2
  obtain ⟨l, rfl, _⟩ := a5J (f := a0R) (p := fun _ => True) (rows := rows) (fun r hr => by
   have := h2 r hr
   cases this with
   | str q1 q2 =>
    cases q2 with
    | int q3 q4 => cases q4; exact ⟨⟨_, _⟩, rfl, trivial⟩)
  exact ⟨l, rfl⟩
theorem b6C {T : Nat -> Option TI} (hi : ∀ te, T 3 = some te -> te.cells = [.int .i64]) (hs : ∀ te, T 9 = some te -> te.cells = [.str]) (hf : ∀ te, T 199 = some te -> te.cells = [.str, .sl 9 1])
  (hc : ∀ te, T 140 = some te -> te.cells = [.sl 3 1, .str, .sl 199 2]) {ds0 : List TK} {ds : List D} (h : Shp T (.sl 140 3 :: ds0) ds) : ∃ l r, ds = .sl 140 3 (a1f l) :: r /\ Shp T ds0 r := by
 cases h with
 | @sl e k te rows ks ds h1 h2 h3 =>
  rw [hc _ h1] at h2
  obtain ⟨l, rfl, _⟩ := a5J (f := a2e) (p := fun _ => True) (rows := rows) (fun r hr => by
   obtain ⟨ps, r1, rfl, q⟩ := c4E hi (h2 r hr)
   cases q with
   | str q1 q2 =>
    obtain ⟨l, rfl⟩ := c2e hs hf q2
    exact ⟨⟨_, _, l⟩, rfl, trivial⟩)
  exact ⟨l, _, rfl, h3⟩
theorem b7k {q : Bool} {w : World} {d : D} {ds : List D} {vs : List Value} {f : List (Nat × Nat)} (h : RdL q w (d :: ds) vs f) : ∃ v vs' f1 f2, vs = v :: vs' /\ RdL q w [d] [v] f1 /\ RdL q w ds vs' f2 := by
 cases h with
 | int h => exact ⟨_, _, _, _, rfl, .int .nil, h⟩
 | bool h => exact ⟨_, _, _, _, rfl, .bool .nil, h⟩
 | str q h => exact ⟨_, _, _, _, rfl, .str q .nil, h⟩
 | raw q h => exact ⟨_, _, _, _, rfl, .raw q .nil, h⟩
 | junk q h => exact ⟨_, _, _, _, rfl, .junk q .nil, h⟩
 | sl0 q1 q2 h => exact ⟨_, _, _, _, rfl, .sl0 q1 q2 .nil, h⟩
 | sl q1 q2 q3 q4 q5 q6 q7 q8 q9 h => exact ⟨_, _, _, _, rfl, .sl q1 q2 q3 q4 q5 q6 q7 q8 q9 .nil, h⟩
theorem b7l {q : Bool} {w : World} {e k : Nat} {rows : List (List D)} {v : Value} {f : List (Nat × Nat)} (h : RdL q w [.sl e k rows] [v] f) : v.oneCell' = true := by
 cases h <;> rfl
section
variable {H : Type} {enc : TypeId × Value -> H} {W : World} {sp : Nat -> Bool} {held : Bool} {r : Reach} {base : Nat}
set_option maxRecDepth 100000 in
theorem c1E {v : Value} {d : DataW H} {p : List MemPlace} (hu : isStruct (Tryz.prog.underlying 53) = true) (hv : Value.okWide Tryz.prog W r base 53 v)
  (h : DataW.Trod enc Tryz.prog W 0 sp held 53 v d p) : ∃ (l : RepoD) (us : List Value) (f : List (Nat × Nat)), v = .agg us.toArray /\ (∀ u ∈ us, u.oneCell' = true) /\ RdArgs W [.sl true 3 (a1f l.commits), .sl true 2 (a0b l.heads)] us f := by
 have hu' : ∃ fs, Tryz.prog.underlying 53 = some (.struct fs) := by
  revert hu
  generalize Tryz.prog.underlying 53 = o
  intro hu
  unfold isStruct at hu
  split at hu
  ·exact ⟨_, rfl⟩
  ·cases hu
 obtain ⟨fs, hu'⟩ := hu'
 obtain ⟨cs, rfl, _⟩ := okWide_struct hu' hv
 obtain ⟨fuel, hf⟩ := h
 obtain ⟨ds, f, h1, h2⟩ := b7m a0i a9k fuel (t := 53) rfl hf
 obtain ⟨cl, r1, rfl, h3⟩ := b6C (fun te ht => by cases ht; rfl) (fun te ht => by cases ht; rfl) (fun te ht => by cases ht; rfl) (fun te ht => by cases ht; rfl) h2
 obtain ⟨hl, rfl⟩ := c2f (fun te ht => by cases ht; rfl) h3
 obtain ⟨v1, vs, f1, f2, e1, k1, k2⟩ := b7k h1
 obtain ⟨v2, vs2, f3, f4, rfl, k3, k4⟩ := b7k k2
 cases k4
 have e2 : cs = #[v1, v2] := by
  apply Array.ext'
  exact e1
 subst e2
 refine ⟨⟨cl, hl⟩, [v1, v2], _, rfl, ?_, .sl k1 (.sl k3 .nil)⟩
 intro u hu
 simp only [List.mem_cons, List.not_mem_nil, or_false] at hu
 rcases hu with rfl | rfl
 ·exact b7l k1
 ·exact b7l k3
end
end Vx
end Go.Proofs.YtokdjnbcdokpjaaGreatDoor
namespace Go.Proofs.YtokdjnbcdokpjaaGreatDoor
open Go.ChangeShapes Go.WideShapes Go.ChangeAt Go.RowKit
namespace Vx
end Vx
end Go.Proofs.YtokdjnbcdokpjaaGreatDoor
namespace Go.Proofs.YtokdjnbcdokpjaaGreatDoor
namespace Vx
open Go.ChangeShapes Go.WideShapes Go.ChangeAt Go.RowKit
theorem c7o : laidOutB Tryz.pinned.checked.prog = true := by kernel_rfl
theorem c7r : mapsRowed Tryz.pinned.checked.prog = true := by kernel_rfl
theorem c5L : Tryz.pinned.checked.prog.stopsHeard = true := by kernel_rfl
theorem c5J : Tryz.pinned.checked.prog.mayEnter = true := by kernel_rfl
theorem c7p : Tryz.pinned.checked.prog.liftsFinal = false := by kernel_rfl
theorem c7q : Tryz.pinned.checked.prog.mainIs = some (Rows.fnStatOfCard.stood.harness.1, Rows.fnStatOfCard.stood.harness.2.toList) := by kernel_rfl
theorem c5K : Rows.fnStatOfCard.stood.looks = Tryz.pinned.checked.prog.looks [] := by kernel_rfl
end Vx
end Go.Proofs.YtokdjnbcdokpjaaGreatDoor
namespace Go.Proofs.YtokdjnbcdokpjaaGreatDoor
set_option maxHeartbeats 4000000
namespace Vx
open Go.RowKit
def a6r : Con := .fn 15 (Int × Int × Int) (fun a => [.int .i64 a.1, .int .i64 a.2.1, .int .i64 a.2.2]) (fun _ => True) (fun a => .bool (decide (a.2.1 <= a.1) && decide (a.1 <= a.2.2))) (fun _ => [])
theorem a7y : Has Tryz.prog 72 a6r := by
 refine a0e mixed a0i HasL.nil [0, 1, 2, 6] ((fun a n (_ : Nat) => (fun _ => a0K) a n)) [] Tryz.func72 (by unfold Tryz.f72; rfl) (fun _ => ⟨(), trivial⟩) ?_
 intro a _
 obtain ⟨n, lo, hi⟩ := a
 simp -implicitDefEqProofs [a6r, Con.fn, tTab]
 omega
def a8E : Con := .fn 15 (Int × Int × Int) (fun a => [.int .i64 a.1, .int .i64 a.2.1, .int .i64 a.2.2]) (fun _ => True) (fun a => .bool (decide (a.2.1 <= a.1) && decide (a.1 <= a.2.2))) (fun _ => [])
theorem a7j : Has Tryz.prog 61 a8E := by
 refine a0e mixed a0i HasL.nil [0, 1, 2, 6] ((fun a n (_ : Nat) => (fun _ => a0K) a n)) [] Tryz.func61 (by unfold Tryz.f61; rfl) (fun _ => ⟨(), trivial⟩) ?_
 intro a _
 obtain ⟨n, lo, hi⟩ := a
 simp -implicitDefEqProofs [a8E, Con.fn, tTab]
 omega
def a7z (n : Int) : Bool := (decide (97 <= n) && decide (n <= 122)) || (decide (48 <= n) && decide (n <= 57))
def a7X : Con := .fn 17 Int (fun a => [.int .u8 a]) (fun _ => True) (fun a => .bool (a7z a)) (fun _ => [])
theorem b5M : Has Tryz.prog 122 a7X := by
 refine a0e mixed a0i HasL.nil [0, 2] ((fun a n (_ : Nat) => (fun _ => a0K) a n)) [] Tryz.func122 (by unfold Tryz.f122; rfl) (fun _ => ⟨(), trivial⟩) ?_
 intro a _
 simp -implicitDefEqProofs [a7X, Con.fn, tTab, a7z]
 repeat' (first | intro _ | apply And.intro)
 all_goals first | omega | grind
def a1m (s : Str) : Bool := decide (1 <= s.length) && decide (s.length <= 6) && s.all fun b => a7z b.toNat
def a5o : Con := .fn 19 Str (fun s => [.str s]) (fun _ => True) (fun s => .bool (a1m s)) (fun _ => [])
theorem a5j : Has Tryz.prog 71 a5o := by
 refine a0e mixed a0i (HasL.cons a7y (HasL.cons b5M HasL.nil)) [0, 2, 3] ((fun a n (_ : Nat) => (fun s _ => ⟨Nat, fun i => ⟨[(0, true, .str s), (2, true, .bool false), (3, true, .int .i64 i)], []⟩, fun i => i <= s.length /\ 1 <= s.length /\ s.length <= 6 /\ (s.take i).all (fun b => a7z b.toNat) = true, fun i => s.length - i⟩) a n)) [] Tryz.func71 (by unfold Tryz.f71; rfl) (fun _ => ⟨(), trivial⟩) ?_
 intro (s : Str) _
 simp -implicitDefEqProofs [a5o, Con.fn, tTab, a6r, a7X]
 try dsimp only
 try simp +contextual [eStr, a0y, a0s, a0z, a0t, List.getElem?_eq_getElem, a0u, a0p, a0r, a0q, <- a0h, <- a0f, a0m, a0n, a0l, a0k, a0o, a0j, and_assoc]
 repeat' (first | intro _ | apply And.intro)
 all_goals first | omega | grind [a0A, a1m, List.take_succ_eq_append_getElem]
def a6o : Con := .fn 35 Str (fun s => [.str s]) (fun _ => True) (fun s => .bool (a1m s)) (fun _ => [])
theorem a7k : Has Tryz.prog 91 a6o := by
 refine a0e mixed a0i (HasL.cons a7j HasL.nil) [0, 2, 3] ((fun a n (_ : Nat) => (fun s _ => ⟨Nat, fun i => ⟨[(0, true, .str s), (2, true, .bool false), (3, true, .int .i64 i)], []⟩, fun i => i <= s.length /\ (s.take i).all (fun b => a7z b.toNat) = true, fun i => s.length - i⟩) a n)) [] Tryz.func91 (by unfold Tryz.f91; rfl) (fun _ => ⟨(), trivial⟩) ?_
 intro (s : Str) _
 simp -implicitDefEqProofs [a6o, Con.fn, tTab, a8E]
 try dsimp only
 try simp +contextual [eStr, a0y, a0s, a0z, a0t, List.getElem?_eq_getElem, a0u, a0p, a0r, a0q, <- a0h, <- a0f, a0m, a0n, a0l, a0k, a0o, a0j, and_assoc]
 repeat' (first | intro _ | apply And.intro)
 all_goals first | omega | grind [a0A, a1m, a7z, List.take_succ_eq_append_getElem]
def a5T (s : Str) : Bool := decide (s.length <= 12) && s.all fun b => decide (32 <= b.toNat) && decide (b.toNat <= 126)
def b1G : Con := .fn 23 Str (fun s => [.str s]) (fun _ => True) (fun s => .bool (a5T s)) (fun _ => [])
theorem b8O : Has Tryz.prog 117 b1G := by
 refine a0e mixed a0i HasL.nil [0, 2, 3] ((fun a n (_ : Nat) => (fun s _ => ⟨Nat, fun i => ⟨[(0, true, .str s), (2, true, .bool false), (3, true, .int .i64 i)], []⟩, fun i => i <= s.length /\ s.length <= 12 /\ (s.take i).all (fun b => decide (32 <= b.toNat) && decide (b.toNat <= 126)) = true, fun i => s.length - i⟩) a n)) [] Tryz.func117 (by unfold Tryz.f117; rfl) (fun _ => ⟨(), trivial⟩) ?_
 intro (s : Str) _
 simp -implicitDefEqProofs [b1G, Con.fn, tTab]
 try dsimp only
 try simp +contextual [eStr, a0y, a0s, a0z, a0t, List.getElem?_eq_getElem, a0u, a0p, a0r, a0q, <- a0h, <- a0f, a0m, a0n, a0l, a0k, a0o, a0j, and_assoc]
 repeat' (first | intro _ | apply And.intro)
 all_goals first | omega | grind [a0A, a5T, List.take_succ_eq_append_getElem]
def b1y : Con := .fn 23 Str (fun s => [.str s]) (fun _ => True) (fun s => .bool (a5T s)) (fun _ => [])
theorem b8z : Has Tryz.prog 155 b1y := by
 refine a0e mixed a0i HasL.nil [0, 2, 3] ((fun a n (_ : Nat) => (fun s _ => ⟨Nat, fun i => ⟨[(0, true, .str s), (2, true, .bool false), (3, true, .int .i64 i)], []⟩, fun i => i <= s.length /\ (s.take i).all (fun b => decide (32 <= b.toNat) && decide (b.toNat <= 126)) = true, fun i => s.length - i⟩) a n)) [] Tryz.func155 (by unfold Tryz.f155; rfl) (fun _ => ⟨(), trivial⟩) ?_
 intro (s : Str) _
 simp -implicitDefEqProofs [b1y, Con.fn, tTab]
 try dsimp only
 try simp +contextual [eStr, a0y, a0s, a0z, a0t, List.getElem?_eq_getElem, a0u, a0p, a0r, a0q, <- a0h, <- a0f, a0m, a0n, a0l, a0k, a0o, a0j, and_assoc]
 repeat' (first | intro _ | apply And.intro)
 all_goals first | omega | grind [a0A, a5T, List.take_succ_eq_append_getElem]
def a1c (t : List Str) : Bool := decide (t.length <= 10) && t.all a5T
def a6p : Con := .fn 18 (List Str) (fun t => [.sl true 1 (a0a t)]) (fun _ => True) (fun t => .bool (a1c t)) (fun _ => [])
theorem a7v : Has Tryz.prog 66 a6p := by
 refine a0e mixed a0i (HasL.cons b8O HasL.nil) [0, 2, 4, 8, 9, 10] ((fun a n (_ : Nat) => (fun t _ => ⟨Nat, fun i => ⟨[(2, true, .bool false), (8, true, .sl true 1 (a0a t)), (9, true, .int .i64 t.length), (10, true, .int .i64 i)], []⟩, fun i => i <= t.length /\ t.length <= 10 /\ (t.take i).all a5T = true, fun i => t.length - i⟩) a n)) [] Tryz.func66 (by unfold Tryz.f66; rfl) (fun _ => ⟨(), trivial⟩) ?_
 intro (t : List Str) _
 simp -implicitDefEqProofs [a6p, Con.fn, tTab, b1G]
 try dsimp only
 try simp +contextual [eStr, a0y, a0s, a0z, a0t, List.getElem?_eq_getElem, a0u, a0p, a0r, a0q, <- a0h, <- a0f, a0m, a0n, a0l, a0k, a0o, a0j, and_assoc]
 repeat' (first | intro _ | apply And.intro)
 all_goals first | omega | grind [a0A, a1c, List.take_succ_eq_append_getElem]
def b3t : Con := .fn 19 (List Str) (fun t => [.sl true 1 (a0a t)]) (fun _ => True) (fun t => .bool (a1c t)) (fun _ => [])
theorem b4O : Has Tryz.prog 119 b3t := by
 refine a0e mixed a0i (HasL.cons b8z HasL.nil) [0, 2, 3] ((fun a n (_ : Nat) => (fun t _ => ⟨Nat, fun i => ⟨[(0, true, .sl true 1 (a0a t)), (2, true, .bool false), (3, true, .int .i64 i)], []⟩, fun i => i <= t.length /\ (t.take i).all a5T = true, fun i => t.length - i⟩) a n)) [] Tryz.func119 (by unfold Tryz.f119; rfl) (fun _ => ⟨(), trivial⟩) ?_
 intro (t : List Str) _
 simp -implicitDefEqProofs [b3t, Con.fn, tTab, b1y]
 try dsimp only
 try simp +contextual [eStr, a0y, a0s, a0z, a0t, List.getElem?_eq_getElem, a0u, a0p, a0r, a0q, <- a0h, <- a0f, a0m, a0n, a0l, a0k, a0o, a0j, and_assoc]
 repeat' (first | intro _ | apply And.intro)
 all_goals first | omega | grind [a0A, a1c, List.take_succ_eq_append_getElem]
def a5e : Con := .fn 26 (List Str × List Str) (fun a => [.sl true 1 (a0a a.1), .sl true 1 (a0a a.2)]) (fun _ => True) (fun a => .bool (decide (a.1 = a.2))) (fun _ => [])
theorem a7D : Has Tryz.prog 28 a5e := by
 refine a0e mixed a0i HasL.nil [0, 1, 2, 3, 4, 5] ((fun a n (_ : Nat) => (fun a _ => ⟨Nat, fun i => ⟨[(0, true, .sl true 1 (a0a a.1)), (1, true, .sl true 1 (a0a a.2)), (4, true, .bool false), (5, true, .int .i64 i)], []⟩, fun i => i <= a.1.length /\ a.1.length = a.2.length /\ a.1.take i = a.2.take i, fun i => a.1.length - i⟩) a n)) [] Tryz.func28 (by unfold Tryz.f28; rfl) (fun _ => ⟨(), trivial⟩) ?_
 intro a _
 obtain ⟨l, r⟩ := a
 simp -implicitDefEqProofs [a5e, Con.fn, tTab]
 try dsimp only
 try simp +contextual [eStr, a0y, a0s, a0z, a0t, List.getElem?_eq_getElem, a0u, a0p, a0r, a0q, <- a0h, <- a0f, a0m, a0n, a0l, a0k, a0o, a0j, and_assoc]
 repeat' (first | intro _ | apply And.intro)
 all_goals first | omega | grind [a0A, a4D, a3r]
def szL : List Str -> Int -> Int
 | [], l => l
 | s :: r, l => if l - s.length < 0 then -1 else szL r (l - s.length)
def a3v (a : List Str) (l : Int) : Int := if l - a.length < 0 then -1 else szL a (l - a.length)
def a5f : Con := .fn 28 (List Str × Int) (fun a => [.sl true 1 (a0a a.1), .int .i64 a.2]) (fun a => 0 <= a.2 /\ a.2 <= 1048576) (fun a => .int .i64 (a3v a.1 a.2)) (fun _ => [])
theorem c4P {a : List Str} {i : Nat} {l : Int} (h : i < a.length) : szL (a.drop i) l = if l - a[i].length < 0 then -1 else szL (a.drop (i + 1)) (l - a[i].length) := by
 rw [List.drop_eq_getElem_cons h]; rfl
theorem c6Q {a : List Str} {i : Nat} {l : Int} (h : a.length <= i) : szL (a.drop i) l = l := by
 rw [List.drop_eq_nil_of_le h]; rfl
theorem a7F : Has Tryz.prog 25 a5f := by
 refine a0e mixed a0i HasL.nil [0, 1, 4, 5] ((fun a n (_ : Nat) => (fun a _ => ⟨Nat × Int, fun t => ⟨[(0, true, .sl true 1 (a0a a.1)), (1, true, .int .i64 t.2), (4, true, .int .i64 0), (5, true, .int .i64 t.1)], []⟩, fun t => t.1 <= a.1.length /\ 0 <= t.2 /\ t.2 <= 1048576 /\ szL (a.1.drop t.1) t.2 = a3v a.1 a.2, fun t => a.1.length - t.1⟩) a n)) [] Tryz.func25 (by unfold Tryz.f25; rfl) (fun _ => ⟨(), trivial⟩) ?_
 intro a ha
 obtain ⟨l, n⟩ := a
 obtain ⟨h1, h2⟩ : 0 <= n /\ n <= 1048576 := ha
 simp -implicitDefEqProofs [a5f, Con.fn, tTab]
 try dsimp only
 try simp +contextual [eStr, a0y, a0s, a0z, a0t, List.getElem?_eq_getElem, a0u, a0p, a0r, a0q, <- a0h, <- a0f, a0m, a0n, a0l, a0k, a0o, a0j, and_assoc]
 repeat' (first | intro _ | apply And.intro)
 all_goals first | omega | grind [a0A, a3v, c4P, c6Q]
abbrev a1A (h : Nat) (a : List Str) : List (Nat × Blk) := [(h, .own 9 1 true (a0a a))]
abbrev a2E (h : Nat) (a : List FileD) : List (Nat × Blk) := [(h, .own 39 2 true (a0c a))]
def a5g : Con := .fn 22 (List Str) (fun a => [.sl true 1 (a0a a)]) (fun a => a.length <= 1048576) (fun a => .own 8 1 (a0a a)) (fun a => a1A 8 a)
theorem a7G : Has Tryz.prog 27 a5g := by
 refine a0e mixed a0i HasL.nil [0, 2, 3, 4] ((fun a n (_ : Nat) => (fun a _ => ⟨Nat × List Str, fun t => ⟨[(0, true, .sl true 1 (a0a a)), (2, true, .nil), (3, true, .own 9 1 (a0a t.2)), (4, true, .int .i64 t.1)], a1A 9 t.2⟩, fun t => t.1 <= a.length /\ t.2.length = a.length /\ t.2.take t.1 = a.take t.1, fun t => a.length - t.1⟩) a n)) [] Tryz.func27 (by unfold Tryz.f27; rfl) (fun _ => ⟨(), trivial⟩) ?_
 intro (a : List Str) ha
 replace ha : a.length <= 1048576 := ha
 simp -implicitDefEqProofs [a5g, Con.fn, tTab]
 try dsimp only
 try simp +contextual [eStr, a0y, a0s, a0z, a0t, List.getElem?_eq_getElem, a0u, a0p, a0r, a0q, <- a0h, <- a0f, a0m, a0n, a0l, a0k, a0o, a0j, and_assoc]
 repeat' (first | intro _ | apply And.intro)
 all_goals first | omega | grind [a0A, a5L, a3r]
def szF (f : FileD) (l : Int) : Int := if l - f.path.length < 0 then -1 else if a3v f.text (l - f.path.length) < 0 then -1 else a3v f.text (l - f.path.length)
def b1L : Con := .fn 19 (FileD × Int) (fun a => [.agg [.str a.1.path, .sl true 1 (a0a a.1.text)], .int .i64 a.2]) (fun a => 0 <= a.2 /\ a.2 <= 1048576) (fun a => .int .i64 (szF a.1 a.2)) (fun _ => [])
theorem b9q : Has Tryz.prog 185 b1L := by
 refine a0e mixed a0i (HasL.cons a7F HasL.nil) [0, 1, 2, 4] ((fun a n (_ : Nat) => (fun _ => a0K) a n)) [] Tryz.func185 (by unfold Tryz.f185; rfl) (fun _ => ⟨(), trivial⟩) ?_
 intro a ha
 obtain ⟨f, n⟩ := a
 obtain ⟨h1, h2⟩ : 0 <= n /\ n <= 1048576 := ha
 simp -implicitDefEqProofs [b1L, Con.fn, tTab, a5f]
 try dsimp only
 try simp +contextual [eStr, a0y, a0s, a0z, a0t, List.getElem?_eq_getElem, a0u, a0p, a0r, a0q, <- a0h, <- a0f, a0m, a0n, a0l, a0k, a0o, a0j, and_assoc]
 repeat' (first | intro _ | apply And.intro)
 all_goals first | omega | grind [a0A, szF]
def b1P : Con := .fn 12 FileD (fun f => [.agg [.str f.path, .sl true 1 (a0a f.text)]]) (fun f => f.text.length <= 1048576) (fun f => .agg [.str f.path, .own 8 1 (a0a f.text)]) (fun f => a1A 8 f.text)
theorem b9z : Has Tryz.prog 186 b1P := by
 refine a0e mixed a0i (HasL.cons a7G HasL.nil) [0, 1, 2, 3] ((fun a n (_ : Nat) => (fun _ => a0K) a n)) [] Tryz.func186 (by unfold Tryz.f186; rfl) (fun _ => ⟨(), trivial⟩) ?_
 intro f hf
 obtain ⟨p, x⟩ := f
 replace hf : x.length <= 1048576 := hf
 simp -implicitDefEqProofs [b1P, Con.fn, tTab, a5g]
 try dsimp only
 try simp +contextual [eStr, a0y, a0s, a0z, a0t, List.getElem?_eq_getElem, a0u, a0p, a0r, a0q, <- a0h, <- a0f, a0m, a0n, a0l, a0k, a0o, a0j, and_assoc]
 repeat' (first | intro _ | apply And.intro)
 all_goals first | omega | grind [a0A]
def a9D : Con := .fn 23 (List FileD) (fun a => [.sl true 2 (a0c a)]) (fun a => a.length <= 1048576 /\ ∀ f ∈ a, f.text.length <= 1048576) (fun a => .own 8 2 (a0c a)) (fun a => a2E 8 a)
theorem b6H : Has Tryz.prog 159 a9D := by
 refine a0e mixed a0i (HasL.cons b9z HasL.nil) [0, 2, 3, 4] ((fun a n (_ : Nat) => (fun a _ => ⟨Nat × List FileD, fun t => ⟨[(0, true, .sl true 2 (a0c a)), (2, true, .nil), (3, true, .own 9 2 (a0c t.2)), (4, true, .int .i64 t.1)], a2E 9 t.2⟩, fun t => t.1 <= a.length /\ t.2.length = a.length /\ t.2.take t.1 = a.take t.1, fun t => a.length - t.1⟩) a n)) [] Tryz.func159 (by unfold Tryz.f159; rfl) (fun _ => ⟨(), trivial⟩) ?_
 intro (a : List FileD) ha
 obtain ⟨h1, h2⟩ : a.length <= 1048576 /\ ∀ f ∈ a, f.text.length <= 1048576 := ha
 simp -implicitDefEqProofs [a9D, Con.fn, tTab, b1P]
 try dsimp only
 try simp +contextual [eStr, a0y, a0s, a0z, a0t, List.getElem?_eq_getElem, a0u, a0p, a0r, a0q, <- a0h, <- a0f, a0m, a0n, a0l, a0k, a0o, a0j, and_assoc, <- FileD.eq_iff]
 repeat' (first | intro _ | apply And.intro)
 all_goals first | omega | grind [a0A, a5L, a3r]
def szFL : List FileD -> Int -> Int
 | [], l => l
 | f :: r, l => if szF f l < 0 then -1 else szFL r (szF f l)
def a2L (a : List FileD) (l : Int) : Int := if l - a.length < 0 then -1 else szFL a (l - a.length)
theorem c2o {a : List FileD} {i : Nat} {l : Int} (h : i < a.length) : szFL (a.drop i) l = if szF a[i] l < 0 then -1 else szFL (a.drop (i + 1)) (szF a[i] l) := by
 rw [List.drop_eq_getElem_cons h]; rfl
theorem c4M {a : List FileD} {i : Nat} {l : Int} (h : a.length <= i) : szFL (a.drop i) l = l := by
 rw [List.drop_eq_nil_of_le h]; rfl
theorem c2q : ∀ {a : List Str} {l : Int}, 0 <= l -> szL a l <= l := by
 intro a
 induction a with
 | nil => intro l _; exact Int.le_refl l
 | cons s r ih =>
  intro l h
  simp only [szL]
  split
  ·omega
  ·have := ih (l := l - s.length) (by omega); omega
theorem c2r {a : List Str} {l : Int} (h : 0 <= l) : a3v a l <= l := by
 unfold a3v
 split
 ·omega
 ·have := c2q (a := a) (l := l - a.length) (by omega); omega
theorem b5A {f : FileD} {l : Int} (h : 0 <= l) : szF f l <= l := by
 unfold szF
 split
 ·omega
 ·split
  ·omega
  ·have := c2r (a := f.text) (l := l - f.path.length) (by omega); omega
def a9B : Con := .fn 27 (List FileD × Int) (fun a => [.sl true 2 (a0c a.1), .int .i64 a.2]) (fun a => 0 <= a.2 /\ a.2 <= 1048576) (fun a => .int .i64 (a2L a.1 a.2)) (fun _ => [])
theorem b6E : Has Tryz.prog 157 a9B := by
 refine a0e mixed a0i (HasL.cons b9q HasL.nil) [0, 1, 4, 5] ((fun a n (_ : Nat) => (fun a _ => ⟨Nat × Int, fun t => ⟨[(0, true, .sl true 2 (a0c a.1)), (1, true, .int .i64 t.2), (4, true, .int .i64 0), (5, true, .int .i64 t.1)], []⟩, fun t => t.1 <= a.1.length /\ 0 <= t.2 /\ t.2 <= 1048576 /\ szFL (a.1.drop t.1) t.2 = a2L a.1 a.2, fun t => a.1.length - t.1⟩) a n)) [] Tryz.func157 (by unfold Tryz.f157; rfl) (fun _ => ⟨(), trivial⟩) ?_
 intro a ha
 obtain ⟨l, n⟩ := a
 obtain ⟨h1, h2⟩ : 0 <= n /\ n <= 1048576 := ha
 have hle : ∀ (f : FileD) (l : Int), 0 <= l -> szF f l <= l := fun f l => b5A
 simp -implicitDefEqProofs [a9B, Con.fn, tTab, b1L]
 try dsimp only
 try simp +contextual [eStr, a0y, a0s, a0z, a0t, List.getElem?_eq_getElem, a0u, a0p, a0r, a0q, <- a0h, <- a0f, a0m, a0n, a0l, a0k, a0o, a0j, and_assoc, <- FileD.eq_iff]
 repeat' (first | intro _ | apply And.intro)
 all_goals first | omega | grind [a0A, a2L, c2o, c4M]
def b1s : Con := .fn 16 (FileD × FileD) (fun a => [.agg [.str a.1.path, .sl true 1 (a0a a.1.text)], .agg [.str a.2.path, .sl true 1 (a0a a.2.text)]]) (fun _ => True) (fun a => .bool (decide (a.1 = a.2))) (fun _ => [])
theorem b7Z : Has Tryz.prog 187 b1s := by
 refine a0e mixed a0i (HasL.cons a7D HasL.nil) [0, 1, 2, 3, 4] ((fun a n (_ : Nat) => (fun _ => a0K) a n)) [] Tryz.func187 (by unfold Tryz.f187; rfl) (fun _ => ⟨(), trivial⟩) ?_
 intro a _
 obtain ⟨⟨p, x⟩, ⟨q, y⟩⟩ := a
 simp -implicitDefEqProofs [b1s, Con.fn, tTab, a5e]
 try dsimp only
 try simp +contextual [eStr, a0y, a0s, a0z, a0t, List.getElem?_eq_getElem, a0u, a0p, a0r, a0q, <- a0h, <- a0f, a0m, a0n, a0l, a0k, a0o, a0j, and_assoc]
 repeat' (first | intro _ | apply And.intro)
 all_goals first | omega | grind [a0A]
def a9q : Con := .fn 27 (List FileD × List FileD) (fun a => [.sl true 2 (a0c a.1), .sl true 2 (a0c a.2)]) (fun _ => True) (fun a => .bool (decide (a.1 = a.2))) (fun _ => [])
theorem b5W : Has Tryz.prog 161 a9q := by
 refine a0e mixed a0i (HasL.cons b7Z HasL.nil) [0, 1, 2, 3, 4, 5] ((fun a n (_ : Nat) => (fun a _ => ⟨Nat, fun i => ⟨[(0, true, .sl true 2 (a0c a.1)), (1, true, .sl true 2 (a0c a.2)), (4, true, .bool false), (5, true, .int .i64 i)], []⟩, fun i => i <= a.1.length /\ a.1.length = a.2.length /\ a.1.take i = a.2.take i, fun i => a.1.length - i⟩) a n)) [] Tryz.func161 (by unfold Tryz.f161; rfl) (fun _ => ⟨(), trivial⟩) ?_
 intro a _
 obtain ⟨l, r⟩ := a
 simp -implicitDefEqProofs [a9q, Con.fn, tTab, b1s]
 try dsimp only
 try simp +contextual [eStr, a0y, a0s, a0z, a0t, List.getElem?_eq_getElem, a0u, a0p, a0r, a0q, <- a0h, <- a0f, a0m, a0n, a0l, a0k, a0o, a0j, and_assoc, <- FileD.eq_iff]
 repeat' (first | intro _ | apply And.intro)
 all_goals first | omega | grind [a0A, a4D, a3r]
def a5l (p s : Str) : Bool := decide (p.length <= s.length) && decide (s.take p.length = p)
def a5y : Con := .fn 18 (Str × Str) (fun a => [.str a.1, .str a.2]) (fun _ => True) (fun a => .bool (a5l a.2 a.1)) (fun _ => [])
theorem b1h : Has Tryz.prog 184 a5y := by
 refine a0e mixed a0i HasL.nil [0, 1, 4] ((fun a n (_ : Nat) => (fun _ => a0K) a n)) [] Tryz.func184 (by unfold Tryz.f184; rfl) (fun _ => ⟨(), trivial⟩) ?_
 intro a _
 obtain ⟨s, p⟩ := a
 simp -implicitDefEqProofs [a5y, Con.fn, tTab, a5l]
 try dsimp only
 try simp +contextual [eStr, a0y, a0s, a0z, a0t, List.getElem?_eq_getElem, a0u, a0p, a0r, a0q, <- a0h, <- a0f, a0m, a0n, a0l, a0k, a0o, a0j, and_assoc]
 repeat' (first | intro _ | apply And.intro)
 all_goals first | omega | grind [a0A]
def a6T : Con := .fn 8 (Str × Str) (fun a => [.str a.1, .str a.2]) (fun _ => True) (fun a => .bool (a5l a.2 a.1)) (fun _ => [])
theorem b2Z : Has Tryz.prog 153 a6T := by
 refine a0e mixed a0i (HasL.cons b1h HasL.nil) [0, 1, 4] ((fun a n (_ : Nat) => (fun _ => a0K) a n)) [] Tryz.func153 (by unfold Tryz.f153; rfl) (fun _ => ⟨(), trivial⟩) ?_
 intro a _
 obtain ⟨s, p⟩ := a
 simp -implicitDefEqProofs [a6T, Con.fn, tTab, a5y]
 try dsimp only
 try simp +contextual [eStr, a0y, a0s, a0z, a0t, List.getElem?_eq_getElem, a0u, a0p, a0r, a0q, <- a0h, <- a0f, a0m, a0n, a0l, a0k, a0o, a0j, and_assoc]
 repeat' (first | intro _ | apply And.intro)
 all_goals first | omega | grind [a0A]
def inB (d p : Str) : Bool := decide (d.length < p.length) && decide (p.take d.length = d) && decide (p.getD d.length 0 = 47)
theorem b9D (a : UInt8) : ((a.toNat : Int) = 47) = (a = 47) := by
 apply propext
 constructor
 ·intro h
  have : a.toNat = 47 := by omega
  exact UInt8.toNat_inj.1 (by simpa using this)
 ·rintro rfl; rfl
def b7N : Con := .fn 25 (Str × Str) (fun a => [.str a.1, .str a.2]) (fun _ => True) (fun a => .bool (inB a.1 a.2)) (fun _ => [])
theorem c3G : Has Tryz.prog 120 b7N := by
 refine a0e mixed a0i HasL.nil [0, 1, 4] ((fun a n (_ : Nat) => (fun _ => a0K) a n)) [] Tryz.func120 (by unfold Tryz.f120; rfl) (fun _ => ⟨(), trivial⟩) ?_
 intro a _
 obtain ⟨d, p⟩ := a
 simp -implicitDefEqProofs [b7N, Con.fn, tTab, inB, b9D]
 try dsimp only
 try simp +contextual [eStr, a0y, a0s, a0z, a0t, List.getElem?_eq_getElem, a0u, a0p, a0r, a0q, <- a0h, <- a0f, a0m, a0n, a0l, a0k, a0o, a0j, and_assoc, b9D]
 repeat' (first | intro _ | apply And.intro)
 all_goals first | omega | grind [a0A, b9D]
def cutL (b : Int) (most : Nat) : Str -> Str -> Nat -> List Str
 | [], c, _ => [c]
 | x :: r, c, n => if n < most then (if (x.toNat : Int) = b then c :: cutL b most r [] (n + 1) else cutL b most r (c ++ [x]) n) else [c ++ x :: r]
theorem c0s {b : Int} {most : Nat} {r c : Str} {n : Nat} (h : most <= n) : cutL b most r c n = [c ++ r] := by
 cases r with
 | nil => simp [cutL]
 | cons x r => simp [cutL, Nat.not_lt.2 h]
def a1u (s : Str) (fr i : Nat) : Str := (s.drop fr).take (i - fr)
theorem c1L {s : Str} {fr i : Nat} (h : fr <= i) : a1u s fr i ++ s.drop i = s.drop fr := by
 unfold a1u
 have : s.drop i = (s.drop fr).drop (i - fr) := by rw [List.drop_drop]; congr 1; omega
 rw [this, List.take_append_drop]
theorem c1M {s : Str} {fr i : Nat} (h : s.length <= i) (hf : fr <= i) : a1u s fr i = s.drop fr := by
 unfold a1u
 exact List.take_of_length_le (by rw [List.length_drop]; omega)
theorem b9e {s : Str} {fr : Nat} : a1u s fr fr = [] := by simp [a1u]
theorem b9d {s : Str} {fr i : Nat} (h : i < s.length) (hf : fr <= i) : a1u s fr (i + 1) = a1u s fr i ++ [s[i]] := by
 unfold a1u
 rw [show i + 1 - fr = (i - fr) + 1 by omega, List.take_succ_eq_append_getElem (by rw [List.length_drop]; omega)]
 congr 2
 rw [List.getElem_drop]
 congr 1
 omega
theorem c3k {b : Int} {most : Nat} {s : Str} {fr i n : Nat} (h : i < s.length) (hf : fr <= i) (hn : n < most) :
  cutL b most (s.drop i) (a1u s fr i) n = if (s[i].toNat : Int) = b then a1u s fr i :: cutL b most (s.drop (i + 1)) (a1u s (i + 1) (i + 1)) (n + 1) else cutL b most (s.drop (i + 1)) (a1u s fr (i + 1)) n := by
 rw [List.drop_eq_getElem_cons h, b9e, b9d h hf]
 simp [cutL, hn]
theorem c5F {b : Int} {most : Nat} {s : Str} {fr i n : Nat} (h : s.length <= i) (hf : fr <= i) : cutL b most (s.drop i) (a1u s fr i) n = [s.drop fr] := by
 rw [List.drop_eq_nil_of_le h, <- c1M h hf]; rfl
theorem c3j {b : Int} {most : Nat} {s : Str} {fr i n : Nat} (h : most <= n) (hf : fr <= i) : cutL b most (s.drop i) (a1u s fr i) n = [s.drop fr] := by
 rw [c0s h, c1L hf]
def cutB (s : Str) (b : Int) (most : Nat) : List Str := cutL b most s [] 0
theorem c4n (s : Str) (fr i : Nat) : (s.drop fr).take (i - fr) = a1u s fr i := rfl
theorem b9c (s : Str) (fr : Nat) : a1u s fr s.length = s.drop fr := by
 unfold a1u
 exact List.take_of_length_le (by rw [List.length_drop]; omega)
def b4b : Con := .fn 43 (Str × Int × Nat) (fun a => [.str a.1, .int .u8 a.2.1, .int .i64 a.2.2]) (fun a => a.2.2 <= 1000000) (fun a => .own 8 1 (a0a (cutB a.1 a.2.1 a.2.2))) (fun a => a1A 8 (cutB a.1 a.2.1 a.2.2))
theorem c0Z : Has Tryz.prog 154 b4b := by
 refine a0e mixed a0i HasL.nil [0, 1, 2, 6, 7, 8, 9] ((fun a n (_ : Nat) => (fun a _ => ⟨List Str × Nat × Nat, fun t => ⟨[(0, true, .str a.1), (1, true, .int .u8 a.2.1), (2, true, .int .i64 a.2.2), (6, true, .nil), (7, true, .own 9 1 (a0a t.1)), (8, true, .int .i64 t.2.1), (9, true, .int .i64 t.2.2)], a1A 9 t.1⟩, fun t => t.2.1 <= t.2.2 /\ t.2.2 <= a.1.length /\ t.1.length <= a.2.2 /\ t.1 ++ cutL a.2.1 a.2.2 (a.1.drop t.2.2) (a1u a.1 t.2.1 t.2.2) t.1.length = cutB a.1 a.2.1 a.2.2, fun t => a.1.length - t.2.2⟩) a n)) [] Tryz.func154 (by unfold Tryz.f154; rfl) (fun _ => ⟨(), trivial⟩) ?_
 intro a ha
 obtain ⟨s, b, most⟩ := a
 replace ha : most <= 1000000 := ha
 have hs : cutL b most s (a1u s 0 0) 0 = cutB s b most := rfl
 simp -implicitDefEqProofs [b4b, Con.fn, tTab]
 try dsimp only
 try simp +contextual [eStr, a0y, a0s, a0z, a0t, List.getElem?_eq_getElem, a0u, a0p, a0r, a0q, <- a0h, <- a0f, a0m, a0n, a0l, a0k, a0o, a0j, and_assoc, c4n, b9c]
 repeat' (first | intro _ | apply And.intro)
 all_goals first | omega | grind [a0A, c3k, c5F, c3j]
theorem b7U (a : Nat) : ((a : Int) = 3) = (a = 3) := by apply propext; omega
def a8Q (s : Str) : Bool := (cutB s 47 3).all a1m && decide ((cutB s 47 3).length <= 3)
def b1B : Con := .fn 22 Str (fun s => [.str s]) (fun _ => True) (fun s => .bool (a8Q s)) (fun _ => [])
theorem b8E : Has Tryz.prog 118 b1B := by
 refine a0e mixed a0i (HasL.cons c0Z (HasL.cons a7k HasL.nil)) [0, 2, 3, 4] ((fun a n (_ : Nat) => (fun s _ => ⟨Nat, fun i => ⟨[(2, true, .bool false), (3, true, .own 9 1 (a0a (cutB s 47 3))), (4, true, .int .i64 i)], a1A 9 (cutB s 47 3)⟩, fun i => i <= (cutB s 47 3).length /\ ((cutB s 47 3).take i).all a1m = true, fun i => (cutB s 47 3).length - i⟩) a n)) [] Tryz.func118 (by unfold Tryz.f118; rfl) (fun _ => ⟨(), trivial⟩) ?_
 intro (s : Str) _
 simp -implicitDefEqProofs [b1B, Con.fn, tTab, b4b, a6o]
 try dsimp only
 try simp +contextual [eStr, a0y, a0s, a0z, a0t, List.getElem?_eq_getElem, a0u, a0p, a0r, a0q, <- a0h, <- a0f, a0m, a0n, a0l, a0k, a0o, a0j, and_assoc, b7U]
 repeat' (first | intro _ | apply And.intro)
 all_goals first | omega | grind [a0A, a8Q, List.take_succ_eq_append_getElem]
def leqS (a b : Str) : Bool := Go.Op.bytesLess a b || decide (a = b)
def a3u (t : List FileD) (i : Nat) : Bool := a8Q (t.getD i default).path && a1c (t.getD i default).text && (decide (i = 0) || !leqS (t.getD i default).path (t.getD (i - 1) default).path)
def noIn (t : List FileD) (i : Nat) : Bool := t.all fun g => !inB (t.getD i default).path g.path
def a1R (t : List FileD) : Bool := (List.range t.length).all (fun i => a3u t i && noIn t i) && decide (t.length <= 8)
def b3u : Con := .fn 65 (List FileD) (fun t => [.sl true 2 (a0c t)]) (fun _ => True) (fun t => .bool (a1R t)) (fun _ => [])
def b8D (t : List FileD) : Inv := ⟨Nat, fun i => ⟨[(0, true, .sl true 2 (a0c t)), (2, true, .bool false), (3, true, .int .i64 i)], []⟩, fun i => i <= t.length /\ ∀ j, j < i -> a3u t j = true /\ noIn t j = true, fun i => t.length - i⟩
def b8C (t : List FileD) (g : Nat) : Inv := ⟨Nat, fun k => ⟨[(0, true, .sl true 2 (a0c t)), (2, true, .bool false), (3, true, .int .i64 g), (4, true, .int .i64 k)], []⟩, fun x => g < t.length /\ x <= t.length /\ (∀ j, j < g -> a3u t j = true /\ noIn t j = true) /\ a3u t g = true /\ ∀ k, k < x -> inB (t.getD g default).path (t.getD k default).path = false, fun x => t.length - x⟩
def b2b (t : List FileD) (n g : Nat) : Inv := if n = 2 then b8D t else b8C t g
theorem c1e (t : List FileD) (g : Nat) : b2b t 2 g = b8D t := rfl
theorem c1f (t : List FileD) (g : Nat) : b2b t 7 g = b8C t g := rfl
set_option maxRecDepth 8000
theorem b4P : Has Tryz.prog 67 b3u := by
 refine a0e mixed a0i (HasL.cons b8E (HasL.cons b4O (HasL.cons c3G (HasL.cons a7j HasL.nil)))) [0, 2, 3, 4] (fun t => b2b t) [] Tryz.func67 (by unfold Tryz.f67; rfl) (fun _ => ⟨(), trivial⟩) ?_
 intro (t : List FileD) _
 have hs : ∀ i, t.length <= i -> ¬ i < t.length := by omega
 have hE : a1R t = true ↔ (∀ i, i < t.length -> a3u t i = true /\ noIn t i = true) /\ t.length <= 8 := by
  simp [a1R]
 have hF : ∀ i, i < t.length -> (a3u t i && noIn t i) = false -> a1R t = false := by
  intro i hi h
  rcases hb : a1R t with _ | _
  ·rfl
  ·exact absurd ((hE.1 hb).1 i hi) (by simpa using h)
 have hH : ∀ i, i < t.length -> a3u t i = false -> a1R t = false := fun i hi h => hF i hi (by simp [h])
 have hN : ∀ i k, i < t.length -> k < t.length -> inB (t.getD i default).path (t.getD k default).path = true -> a1R t = false := by
  intro i k hi hk h
  refine hF i hi ?_
  have : noIn t i = false := by
   simp only [noIn, List.all_eq_false]
   exact ⟨t[k], List.getElem_mem hk, by simp [List.getD_eq_getElem?_getD, hk] at h ⊢; simpa [hk] using h⟩
  simp [this]
 have hI : ∀ i, (∀ k, k < t.length -> inB (t.getD i default).path (t.getD k default).path = false) -> noIn t i = true := by
  intro i h
  simp only [noIn, List.all_eq_true]
  intro g hg
  obtain ⟨k, hk, rfl⟩ := List.getElem_of_mem hg
  have := h k hk
  simpa [List.getD_eq_getElem?_getD, hk] using this
 simp -implicitDefEqProofs [b3u, Con.fn, tTab, b1B, b3t, b7N, a8E, c1e, c1f, b8D, b8C]
 try dsimp only
 intro i hi hj hl
 have e1 : ∀ k (h : k < t.length), Option.map a0y t[k]? = some (a0y t[k]) := by
  intro k h
  simp [List.getElem?_eq_getElem h]
 have e2 : i < t.length -> i - 1 < t.length := by omega
 constructor
 ·intro hlt
  have e3 := e1 i hlt
  have e4 := e1 (i - 1) (e2 hlt)
  simp [hlt, e2 hlt, e3, e4, a0y, eStr, D.asStr, D.asRows]
  try simp +contextual [eStr, a0y, a0s, a0z, a0t, List.getElem?_eq_getElem, a0u, a0p, a0r, a0q, <- a0h, <- a0f, a0m, a0n, a0l, a0k, a0o, a0j, and_assoc]
  repeat' (first | intro _ | apply And.intro)
  all_goals first | omega | grind [a0A, a3u, leqS]
 ·have hX : t.length <= i -> a1R t = decide (t.length <= 8) := by
   intro h
   have : a1R t = true ↔ t.length <= 8 := by
    rw [hE]
    exact ⟨fun h => h.2, fun h8 => ⟨fun j hj' => hj j (by omega), h8⟩⟩
   cases h' : a1R t <;> simp_all
  try simp +contextual [eStr, a0y, a0s, a0z, a0t, List.getElem?_eq_getElem, a0u, a0p, a0r, a0q, <- a0h, <- a0f, a0m, a0n, a0l, a0k, a0o, a0j, and_assoc]
  repeat' (first | intro _ | apply And.intro)
  all_goals first | omega | grind [a0A, a3u, leqS]
def a2c (t : List FileD) : Nat := (t.map fun f => f.text.length).sum
theorem b6t (t : List FileD) (i : Nat) (h : i < t.length) : a2c (t.take (i + 1)) = a2c (t.take i) + t[i].text.length := by
 unfold a2c
 rw [List.take_succ_eq_append_getElem h, List.map_append, List.sum_append]
 rfl
theorem a7x (t : List FileD) (h : a1R t = true) : t.length <= 8 /\ ∀ f ∈ t, f.text.length <= 64 := by
 simp only [a1R, Bool.and_eq_true, decide_eq_true_eq, List.all_eq_true, List.mem_range, a3u] at h
 refine ⟨h.2, fun f hf => ?_⟩
 obtain ⟨i, hi, rfl⟩ := List.getElem_of_mem hf
 have := (h.1 i hi).1.1.2
 simp [List.getD_eq_getElem?_getD, hi, a1c] at this
 omega
def scal : AV -> Option Value
 | .int k n => some (.int k n)
 | .bool b => some (.bool b)
 | .str s => some (.string ⟨s.toArray⟩)
 | _ => none
theorem c4C {w m β c v x u} (h : RelL w m β c [v] [u]) (hs : scal v = some x) : u = x := by
 cases v <;> simp only [scal, Option.some.injEq, reduceCtorEq] at hs
 all_goals cases h; exact hs
theorem c2b {w m β c} : ∀ {vs : List AV} {us xs : List Value}, RelL w m β c vs us -> vs.mapM scal = some xs -> us = xs := by
 intro vs
 induction vs with
 | nil => intro us xs h hm; cases h; simp at hm; exact hm.symm
 | cons v vs ih =>
  intro us xs h hm
  obtain ⟨u, us', rfl, h1, h2⟩ := h.uncons
  rw [List.mapM_cons] at hm
  cases hv : scal v with
  | none => rw [hv] at hm; simp at hm
  | some x =>
   rw [hv] at hm
   cases hvs : vs.mapM scal with
   | none => rw [hvs] at hm; simp at hm
   | some ys =>
    rw [hvs] at hm
    simp at hm
    subst hm
    rw [c4C h1 hv, ih h2 hvs]
theorem c4v {w m β c v x} (hs : scal v = some x) (hok : ∀ s, v = .str s -> s.length <= maxLen) : RelL w m β c [v] [x] := by
 cases v <;> simp only [scal, Option.some.injEq, reduceCtorEq] at hs
 all_goals subst hs
 ·exact .int .lnil
 ·exact .bool .lnil
 ·exact .str (hok _ rfl) .lnil
theorem a5Z {c : Cx} {k : Con} {x : k.A} {vs : List Value} {w β fp} (hl : vs.length = (k.args x).length) (S : SatI c (k.start2 x) ⟨vs.toArray ++ Array.replicate (k.n - vs.length) undef, []⟩ w β fp) :
  RelL w (k.start2 x).m β c (k.args x) vs := by
 have key : ∀ (i : Nat) (v : AV) (u : Value), (k.args x)[i]? = some v -> vs[i]? = some u -> RelL w (k.start2 x).m β c [v] [u] := by
  intro i v u hv hu
  have := (S.env i true v (by simp [Con.start2, hv])).2.1 rfl
  have hi : i < vs.length := (List.getElem?_eq_some_iff.1 hu).1
  have e : (vs.toArray ++ Array.replicate (k.n - vs.length) undef).getD i undef = u := by
   rw [Array.getD_eq_getD_getElem?, Array.getElem?_append_left (by simpa using hi)]
   simp [hu]
  rw [e] at this
  exact this
 clear S
 generalize k.args x = xs at hl key
 induction xs generalizing vs with
 | nil => cases vs with | nil => exact .lnil | cons => simp at hl
 | cons v xs ih =>
  cases vs with
  | nil => simp at hl
  | cons u vs =>
   exact (key 0 v u rfl rfl).append (ih (by simpa using hl) fun i v' u' h1 h2 => key (i + 1) v' u' h1 h2)
theorem b4y {P : Program} {f : Nat} {n : Nat} {A : Type} {args : A -> List AV} {pre : A -> Prop} {res : A -> AV} {rv : A -> Value}
  (henter : ∀ args w, (callFunc f args).run P w = .ok (.enter f args) w) (hres : ∀ a, scal (res a) = some (rv a)) (hstr : ∀ a s, pre a -> res a = .str s -> s.length <= maxLen)
  (h : ∀ a vs w, pre a -> (args a).mapM scal = some vs -> Calls P f vs.toArray w fun e w' => e = .returned (rv a) /\ w' = w) (hsc : ∀ a, ∃ vs, (args a).mapM scal = some vs) :
  Has P f (.fn n A args pre res (fun _ => [])) := by
 refine ⟨henter, fun _ => ⟨(), trivial⟩, fun _ _ => rfl, ?_, trivial, .inl rfl⟩
 intro a hp c _ vs β fp hcn hpins hl1 hl2 S
 obtain ⟨us, hus⟩ := hsc a
 have hvs : vs = us := c2b (a5Z hl1 S) hus
 subst hvs
 refine (h a vs c.w0 hp hus).mono ?_
 rintro e w' ⟨rfl, rfl⟩
 refine ⟨(), trivial, rv a, rfl, β, fp, ⟨Array.replicate c.n undef, []⟩, ⟨?_, ?_, ?_, ?_, ?_, S.fg, S.old, S.os, S.tape, S.output, S.size, rfl, by simp, ?_⟩, ?_⟩
 ·intro t g av ht; cases ht
 ·intro h blk hm; cases hm
 ·intro h blk hm; cases hm
 ·intro h h' blk blk' hm; cases hm
 ·intro h blk hm; cases hm
 ·rw [hpins]; intro p hp; simp [Con.pins2] at hp
 ·exact c4v (hres a) (fun s hs => hstr a s hp hs)
set_option maxHeartbeats 1000000 in
set_option maxRecDepth 100000 in
theorem b1X (s : ByteArray) (c : Int) (w : World) :
  Calls Tryz.prog 234 #[.string s, .int .u8 c] w fun e w' => e = .returned (.int .i64 (Lib.indexByte s.data.toList c.toNat.toUInt8)) /\ w' = w := by
 go_enter Tryz.func234, Tryz.ntmps234
 go_wp2
 rw [run_callFunc_extern Tryz.func238 (by kernel_rfl) (by kernel_rfl) (by kernel_rfl) (e := Extern.BytealgIndexByte.indexByte) (by kernel_rfl), Lib.run_indexByteString]
 simp only [Result.andThen]
 rw [Oper.upon_value]
 go_wp2
 go_ret
 exact ⟨rfl, rfl⟩
set_option maxHeartbeats 2000000 in
set_option maxRecDepth 100000 in
theorem b3a (s : ByteArray) (c : UInt8) (w : World) :
  Calls Tryz.prog 223 #[.string s, .string ⟨#[c]⟩] w fun e w' => e = .returned (.int .i64 (Lib.indexByte s.data.toList c)) /\ w' = w := by
 go_enter Tryz.func223, Tryz.ntmps223
 go_wp2_with (go_at_call 234; refine (b1X _ _ _).mono ?_; rintro e w' ⟨rfl, rfl⟩)
 ·have h : ([c] == s.toList) = true := by assumption
  go_ret
  refine ⟨?_, rfl⟩
  have e : s.data.toList = [c] := by rw [<- Lib.toList_data]; exact (beq_iff_eq.1 h).symm
  rw [e]
  simp [Lib.indexByte]
 ·go_ret
  exact ⟨rfl, rfl⟩
set_option maxHeartbeats 2000000 in
set_option maxRecDepth 100000 in
theorem a7t (s : ByteArray) (c : UInt8) (w : World) :
  Calls Tryz.prog 203 #[.string s, .string ⟨#[c]⟩] w fun e w' => e = .returned (.int .i64 (Lib.indexByte s.data.toList c)) /\ w' = w := by
 go_enter Tryz.func203, Tryz.ntmps203
 go_wp2_with (go_at_call 223; refine (b3a _ _ _).mono ?_; rintro e w' ⟨rfl, rfl⟩)
 go_ret
 exact ⟨rfl, rfl⟩
set_option maxHeartbeats 1000000 in
set_option maxRecDepth 100000 in
theorem b2W (s : ByteArray) (c : UInt8) (w : World) :
  Calls Tryz.prog 202 #[.string s, .string ⟨#[c]⟩] w fun e w' => e = .returned (.int .i64 (Lib.countByte s.data.toList c)) /\ w' = w := by
 go_enter Tryz.func202, Tryz.ntmps202
 go_wp2
 rw [run_callFunc_extern Tryz.func222 (by kernel_rfl) (by kernel_rfl) (by kernel_rfl) (e := Extern.BytealgCount.count) (by kernel_rfl), Lib.run_countString]
 simp only [Result.andThen]
 rw [Oper.upon_value]
 go_wp2
 go_ret
 exact ⟨rfl, rfl⟩
def idxB : Str -> UInt8 -> Int
 | [], _ => -1
 | b :: l, c => if b = c then 0 else if idxB l c < 0 then -1 else idxB l c + 1
theorem c3t (s : Str) (c : UInt8) : Lib.indexByte s c = idxB s c := by
 induction s with
 | nil => rfl
 | cons b l ih =>
  have hge := Lib.indexByte_ge l c
  simp only [Lib.indexByte, idxB, ih] at hge ⊢
  by_cases hb : b = c
  ·simp [hb]
  ·simp only [beq_iff_eq, hb, if_false]
   by_cases h : idxB l c < 0
   ·rw [if_pos h, if_pos (by omega)]
   ·rw [if_neg h, if_neg (by omega)]
def a7C : Con := .fn 8 (Str × UInt8) (fun a => [.str a.1, .str [a.2]]) (fun _ => True) (fun a => .int .i64 (idxB a.1 a.2)) (fun _ => [])
theorem a9W : Has Tryz.prog 203 a7C :=
 b4y (rv := fun a => .int .i64 (idxB a.1 a.2)) (fun args w => Go.MuLone.run_callFunc_enter Tryz.func203 (by kernel_rfl) rfl args w) (fun _ => rfl) (fun a s _ h => by cases h)
  (fun a vs w _ hv => by
   obtain ⟨s, c⟩ := a
   simp [scal] at hv
   subst hv
   have := a7t ⟨s.toArray⟩ c w
   simpa [c3t] using this) (fun a => ⟨_, rfl⟩)
def a7B : Con := .fn 34 (Str × UInt8) (fun a => [.str a.1, .str [a.2]]) (fun _ => True) (fun a => .int .i64 (a.1.count a.2)) (fun _ => [])
theorem a9V : Has Tryz.prog 202 a7B :=
 b4y (rv := fun a => .int .i64 (a.1.count a.2)) (fun args w => Go.MuLone.run_callFunc_enter Tryz.func202 (by kernel_rfl) rfl args w) (fun _ => rfl) (fun a s _ h => by cases h)
  (fun a vs w _ hv => by
   obtain ⟨s, c⟩ := a
   simp [scal] at hv
   subst hv
   have := b2W ⟨s.toArray⟩ c w
   simpa [Lib.countByte] using this) (fun a => ⟨_, rfl⟩)
def spl (c : UInt8) : Str -> Str -> List Str
 | [], p => [p]
 | x :: r, p => if x = c then p :: spl c r [] else spl c r (p ++ [x])
theorem c5O (s : Str) (c : UInt8) : idxB s c < s.length := by
 induction s with
 | nil => simp [idxB]
 | cons b l ih =>
  simp only [idxB, List.length_cons]
  split
  ·omega
  ·split <;> omega
theorem c4H {c : UInt8} : ∀ {s p : Str}, idxB s c < 0 -> spl c s p = [p ++ s] /\ s.count c = 0 := by
 intro s
 induction s with
 | nil => intro p _; simp [spl]
 | cons b l ih =>
  intro p h
  simp only [idxB] at h
  split at h
  ·omega
  ·rename_i hb
   split at h
   ·rename_i hl
    have := ih (p := p ++ [b]) hl
    simp only [spl, if_neg hb]
    refine ⟨by rw [this.1]; simp, ?_⟩
    rw [List.count_cons, this.2]
    simp [hb]
   ·omega
theorem b5s {c : UInt8} : ∀ {s p : Str}, 0 <= idxB s c -> spl c s p = (p ++ s.take (idxB s c).toNat) :: spl c (s.drop ((idxB s c).toNat + 1)) [] /\ s.count c = (s.drop ((idxB s c).toNat + 1)).count c + 1 := by
 intro s
 induction s with
 | nil => intro p h; simp [idxB] at h
 | cons b l ih =>
  intro p h
  by_cases hb : b = c
  ·subst hb
   simp [idxB, spl]
  ·simp only [idxB, if_neg hb] at h ⊢
   split at h
   ·omega
   ·rename_i hl
    rw [if_neg hl]
    obtain ⟨h1, h2⟩ := ih (p := p ++ [b]) (by omega)
    have e : (idxB l c + 1).toNat = (idxB l c).toNat + 1 := by omega
    rw [e]
    simp only [spl, if_neg hb, List.take_succ_cons, List.drop_succ_cons]
    refine ⟨by rw [h1]; simp, ?_⟩
    rw [List.count_cons, h2]
    simp [hb]
theorem c6F (c : UInt8) : ∀ (s p : Str), (spl c s p).length = s.count c + 1 := by
 intro s
 induction s with
 | nil => intro p; simp [spl]
 | cons b l ih =>
  intro p
  simp only [spl]
  split
  ·rename_i h
   subst h
   simp [ih]
  ·rename_i h
   rw [ih, List.count_cons]
   simp [h]
theorem c6D {α : Type} (d : List α) (k : Nat) (z x : α) (h : 0 < k) : (d ++ List.replicate k z).set d.length x = (d ++ [x]) ++ List.replicate (k - 1) z := by
 obtain ⟨k, rfl⟩ : ∃ j, k = j + 1 := ⟨k - 1, by omega⟩
 rw [List.set_append_right _ _ (Nat.le_refl _)]
 simp [List.replicate_succ]
def a7Q : Con := .fn 66 (Str × UInt8) (fun a => [.str a.1, .str [a.2], .int .i64 0, .int .i64 (-1)]) (fun a => a.1.length <= 1073741824) (fun a => .sl false 1 (a0a (spl a.2 a.1 []))) (fun _ => [])
def a2T (N : Nat) (d : List Str) : List Str := d ++ List.replicate (N - d.length) []
theorem c0A (N : Nat) (d : List Str) (h : d.length <= N) : (a2T N d).length = N := by simp [a2T]; omega
theorem a8a (N : Nat) (d : List Str) (x : Str) (h : d.length < N) : (a2T N d).set d.length x = a2T N (d ++ [x]) := by
 unfold a2T
 rw [c6D _ _ _ _ (by omega)]
 simp only [List.length_append, List.length_cons, List.length_nil]
 congr 2
theorem b2w (N : Nat) : a2T N [] = List.replicate N [] := by simp [a2T]
set_option maxRecDepth 8000
theorem b4w : Has Tryz.prog 183 a7Q := by
 refine a0e mixed a0i (HasL.cons a9V (HasL.cons a9W HasL.nil)) [0, 1, 2, 3, 8, 9, 10, 11] ((fun a n (_ : Nat) => (fun a _ => ⟨List Str × Str, fun t => ⟨[(0, true, .str t.2), (1, true, .str [a.2]), (2, true, .int .i64 0), (3, true, .int .i64 (a.1.count a.2)), (8, true, .nil), (9, true, .own 9 1 (a0a (a2T (a.1.count a.2 + 1) t.1))), (10, true, .int .i64 t.1.length)], a1A 9 (a2T (a.1.count a.2 + 1) t.1)⟩, fun t => t.1.length + t.2.count a.2 = a.1.count a.2 /\ t.2.length <= a.1.length /\ t.1 ++ spl a.2 t.2 [] = spl a.2 a.1 [], fun t => a.1.count a.2 - t.1.length⟩) a n)) [] Tryz.func183 (by unfold Tryz.f183; rfl) (fun _ => ⟨(), trivial⟩) ?_
 intro a ha
 obtain ⟨s, c⟩ := a
 replace ha : s.length <= 1073741824 := ha
 have hc : s.count c <= s.length := List.count_le_length
 simp -implicitDefEqProofs [a7Q, a7B, a7C, Con.fn, tTab]
 try dsimp only
 have hif : ¬ s.length < s.count c := by omega
 have hr : (List.replicate ((s.count c : Int) + 1).toNat [D.str []]) = a0a (a2T (s.count c + 1) []) := by
  rw [show ((s.count c : Int) + 1).toNat = s.count c + 1 by omega, b2w, a0r]
 have K1 : ∀ (a : List Str) (b : Str), a.length + b.count c = s.count c -> a.length < (a2T (s.count c + 1) a).length := fun a b h => by rw [c0A _ _ (by omega)]; omega
 have K2 : ∀ (a : List Str) (b : Str), a.length + b.count c = s.count c -> a ++ spl c b [] = spl c s [] -> (idxB b c < 0 \/ s.count c <= a.length) -> spl c s [] = ((a2T (s.count c + 1) a).set a.length b).take (a.length + 1) := by
  intro a b h1 h2 h3
  have h4 : idxB b c < 0 := by
   rcases h3 with h | h
   ·exact h
   ·refine Classical.byContradiction fun hn => ?_
    have := (b5s (p := []) (Int.not_lt.1 hn)).2
    omega
  have h5 := c4H (p := []) h4
  rw [<- h2, h5.1, a8a _ _ _ (by omega)]
  unfold a2T
  rw [List.take_left' (by simp)]
  rfl
 have K3 : ∀ (b : Str), idxB b c < b.length := fun b => c5O b c
 have K4 : ∀ (a : List Str) (b : Str), a.length + b.count c = s.count c -> b.length <= s.length -> a ++ spl c b [] = spl c s [] -> 0 <= idxB b c ->
   ∃ x, a2T (s.count c + 1) x = (a2T (s.count c + 1) a).set a.length (b.take (idxB b c).toNat) /\ x.length = a.length + 1 /\ (a2T (s.count c + 1) a).set a.length (b.take (idxB b c).toNat) = a2T (s.count c + 1) x /\
    x.length + ((b.drop (idxB b c + 1).toNat).take (b.length - (idxB b c + 1).toNat)).count c = s.count c /\ b.length <= s.length + (idxB b c + 1).toNat /\
    x ++ spl c ((b.drop (idxB b c + 1).toNat).take (b.length - (idxB b c + 1).toNat)) [] = spl c s [] /\ s.count c - x.length < s.count c - a.length := by
  intro a b h1 h2 h3 h4
  obtain ⟨h5, h6⟩ := b5s (p := []) h4
  have e1 : (idxB b c + 1).toNat = (idxB b c).toNat + 1 := by omega
  have e2 : (b.drop (idxB b c + 1).toNat).take (b.length - (idxB b c + 1).toNat) = b.drop ((idxB b c).toNat + 1) := by
   rw [e1]; exact List.take_of_length_le (by simp)
  rw [e2]
  refine ⟨a ++ [b.take (idxB b c).toNat], (a8a _ _ _ (by omega)).symm, by simp, a8a _ _ _ (by omega), by simp; omega, by omega, ?_, by simp; omega⟩
  rw [<- h3, h5]
  simp
 simp +contextual [eStr, a0y, a0s, a0z, a0t, List.getElem?_eq_getElem, a0u, a0p, a0r, a0q, <- a0h, <- a0f, a0m, a0n, a0l, a0k, a0o, a0j, and_assoc, hif, hr]
 repeat' (first | intro _ | apply And.intro)
 all_goals first | omega | grind [b2w] | exact K4 _ _ (by omega) (by omega) (by assumption) (by omega)
def b4h : Con := .fn 8 (Str × UInt8) (fun a => [.str a.1, .str [a.2]]) (fun a => a.1.length <= 1073741824) (fun a => .sl false 1 (a0a (spl a.2 a.1 []))) (fun _ => [])
theorem c2h : Has Tryz.prog 152 b4h := by
 refine a0e mixed a0i (HasL.cons b4w HasL.nil) [0, 1, 4] ((fun a n (_ : Nat) => (fun _ => a0K) a n)) [] Tryz.func152 (by unfold Tryz.f152; rfl) (fun _ => ⟨(), trivial⟩) ?_
 intro a ha
 obtain ⟨s, c⟩ := a
 replace ha : s.length <= 1073741824 := ha
 simp -implicitDefEqProofs [b4h, Con.fn, tTab, a7Q]
 try dsimp only
 try simp +contextual [eStr, a0y, a0s, a0z, a0t, List.getElem?_eq_getElem, a0u, a0p, a0r, a0q, <- a0h, <- a0f, a0m, a0n, a0l, a0k, a0o, a0j, and_assoc]
 repeat' (first | intro _ | apply And.intro)
 all_goals first | omega | grind [a0A]
def a4O (s : Str) : Bool := decide ((spl 47 s []).length <= 3) && (spl 47 s []).all a1m
def a8J : Con := .fn 21 Str (fun s => [.str s]) (fun s => s.length <= 1073741824) (fun s => .bool (a4O s)) (fun _ => [])
theorem b0W : Has Tryz.prog 114 a8J := by
 refine a0e mixed a0i (HasL.cons c2h (HasL.cons a5j HasL.nil)) [0, 2, 3, 5, 11, 12, 13] ((fun a n (_ : Nat) => (fun s _ => ⟨Nat, fun i => ⟨[(2, true, .bool false), (11, true, .sl false 1 (a0a (spl 47 s []))), (12, true, .int .i64 (spl 47 s []).length), (13, true, .int .i64 i)], []⟩, fun i => i <= (spl 47 s []).length /\ (spl 47 s []).length <= 3 /\ ((spl 47 s []).take i).all a1m = true, fun i => (spl 47 s []).length - i⟩) a n)) [] Tryz.func114 (by unfold Tryz.f114; rfl) (fun _ => ⟨(), trivial⟩) ?_
 intro (s : Str) hs
 replace hs : s.length <= 1073741824 := hs
 simp -implicitDefEqProofs [a8J, Con.fn, tTab, b4h, a5o]
 try dsimp only
 try simp +contextual [eStr, a0y, a0s, a0z, a0t, List.getElem?_eq_getElem, a0u, a0p, a0r, a0q, <- a0h, <- a0f, a0m, a0n, a0l, a0k, a0o, a0j, and_assoc]
 repeat' (first | intro _ | apply And.intro)
 all_goals first | omega | grind [a0A, a4O, List.take_succ_eq_append_getElem]
set_option maxRecDepth 8000
def a4d (d p : Str) : Bool := a4O d && a4O p && a5l (d ++ [47]) p
def b1K : Con := .fn 17 (Str × Str) (fun a => [.str a.1, .str a.2]) (fun a => a.1.length <= 536870912 /\ a.2.length <= 536870912) (fun a => .bool (a4d a.1 a.2)) (fun _ => [])
theorem b9a : Has Tryz.prog 115 b1K := by
 refine a0e mixed a0i (HasL.cons b0W (HasL.cons b2Z HasL.nil)) [0, 1, 4] ((fun a n (_ : Nat) => (fun _ => a0K) a n)) [] Tryz.func115 (by unfold Tryz.f115; rfl) (fun _ => ⟨(), trivial⟩) ?_
 intro a ha
 obtain ⟨d, p⟩ := a
 obtain ⟨h1, h2⟩ : d.length <= 536870912 /\ p.length <= 536870912 := ha
 simp -implicitDefEqProofs [b1K, Con.fn, tTab, a8J, a6T]
 try dsimp only
 try simp +contextual [eStr, a0y, a0s, a0z, a0t, List.getElem?_eq_getElem, a0u, a0p, a0r, a0q, <- a0h, <- a0f, a0m, a0n, a0l, a0k, a0o, a0j, and_assoc]
 repeat' (first | intro _ | apply And.intro)
 all_goals first | omega | grind [a0A, a4d, maxLen]
def a2U (t : List FileD) (i : Nat) : Bool := a1c (t.getD i default).text && a4O (t.getD i default).path && (decide (i = 0) || Go.Op.bytesLess (t.getD (i - 1) default).path (t.getD i default).path)
def noUp (t : List FileD) (i : Nat) : Bool := (List.range i).all fun k => !a4d (t.getD k default).path (t.getD i default).path
def a0I (t : List FileD) : Bool := decide (t.length <= 8) && (List.range t.length).all fun i => a2U t i && noUp t i
def a6q : Con := .fn 57 (List FileD) (fun t => [.sl true 2 (a0c t)]) (fun t => ∀ f ∈ t, f.path.length <= 536870912) (fun t => .bool (a0I t)) (fun _ => [])
def tiO (t : List FileD) : Inv := ⟨Nat, fun i => ⟨[(0, true, .sl true 2 (a0c t)), (2, true, .bool false), (10, true, .sl true 2 (a0c t)), (11, true, .int .i64 t.length), (12, true, .int .i64 i)], []⟩, fun i => i <= t.length /\ t.length <= 8 /\ ∀ j, j < i -> a2U t j = true /\ noUp t j = true, fun i => t.length - i⟩
def tiI (t : List FileD) (g : Nat) : Inv := ⟨Nat, fun k => ⟨[(0, true, .sl true 2 (a0c t)), (2, true, .bool false), (3, true, .int .i64 g), (4, true, .ptr 10 0), (10, true, .sl true 2 (a0c t)), (11, true, .int .i64 t.length), (12, true, .int .i64 g), (44, true, .sl true 2 (a0c (t.take g))), (45, true, .int .i64 g), (46, true, .int .i64 k)],
  [(10, .box 39 [.str (t.getD g default).path, .sl true 1 (a0a (t.getD g default).text)])]⟩, fun x => g < t.length /\ x <= g /\ t.length <= 8 /\ (∀ j, j < g -> a2U t j = true /\ noUp t j = true) /\ a2U t g = true /\ ∀ k, k < x -> a4d (t.getD k default).path (t.getD g default).path = false, fun x => g - x⟩
def b9y (t : List FileD) (n g : Nat) : Inv := if n = 4 then tiO t else tiI t g
theorem c6T (t : List FileD) (g : Nat) : b9y t 4 g = tiO t := rfl
theorem c6U (t : List FileD) (g : Nat) : b9y t 9 g = tiI t g := rfl
theorem a7w : Has Tryz.prog 64 a6q := by
 refine a0e mixed a0i (HasL.cons a7v (HasL.cons b0W (HasL.cons b9a HasL.nil))) [0, 2, 3, 4, 6, 10, 11, 12, 44, 45, 46] (fun t => b9y t) [] Tryz.func64 (by unfold Tryz.f64; rfl) (fun _ => ⟨(), trivial⟩) ?_
 intro (t : List FileD) ht
 replace ht : ∀ f ∈ t, f.path.length <= 536870912 := ht
 have hp : ∀ i (h : i < t.length), (t[i]).path.length <= 536870912 := fun i h => ht _ (List.getElem_mem h)
 simp -implicitDefEqProofs [a6q, Con.fn, tTab, a6p, a8J, b1K, c6T, c6U, tiO, tiI]
 try dsimp only
 have hE : a0I t = true ↔ t.length <= 8 /\ ∀ i, i < t.length -> a2U t i = true /\ noUp t i = true := by
  simp [a0I]
 have hF : ∀ i, i < t.length -> (a2U t i && noUp t i) = false -> a0I t = false := by
  intro i hi h
  rcases hb : a0I t with _ | _
  ·rfl
  ·exact absurd ((hE.1 hb).2 i hi) (by simpa using h)
 have hH : ∀ i, i < t.length -> a2U t i = false -> a0I t = false := fun i hi h => hF i hi (by simp [h])
 have hN : ∀ i k, i < t.length -> k < i -> a4d (t.getD k default).path (t.getD i default).path = true -> a0I t = false := by
  intro i k hi hk h
  refine hF i hi ?_
  have : noUp t i = false := by
   simp only [noUp, List.all_eq_false]
   exact ⟨k, List.mem_range.2 hk, by simpa using h⟩
  simp [this]
 have hI : ∀ i, (∀ k, k < i -> a4d (t.getD k default).path (t.getD i default).path = false) -> noUp t i = true := by
  intro i h
  simp only [noUp, List.all_eq_true, List.mem_range]
  intro k hk
  simp only [h k hk, Bool.not_false]
 have hB : 8 < t.length -> a0I t = false := by
  intro h
  rcases hb : a0I t with _ | _
  ·rfl
  ·exact absurd (hE.1 hb).1 (by omega)
 have e1 : ∀ k (h : k < t.length), Option.map a0y t[k]? = some (a0y t[k]) := fun k h => by simp [List.getElem?_eq_getElem h]
 have e2 : ∀ i, i < t.length -> i - 1 < t.length := fun i h => by omega
 have e4 : ∀ i k (h : k < i) (h2 : i < t.length), Option.map a0y (List.take i t)[k]? = some (a0y t[k]) := fun i k h h2 => by
  rw [List.getElem?_take, if_pos h]; exact e1 k (by omega)
 have hg : ∀ i (h : i < t.length), t.getD i default = t[i] := fun i h => by simp [List.getD_eq_getElem?_getD, h]
 intro _
 refine ⟨fun h => hB (by omega), fun h8 _ => ⟨by omega, fun i hi h8' hprev => ⟨fun hlt => ?_, fun hge => ?_⟩⟩⟩
 ·have e3 := e1 i hlt
  have e3' := e1 (i - 1) (e2 i hlt)
  have hpi := hp i hlt
  have hgi := hg i hlt
  have hgi' := hg (i - 1) (e2 i hlt)
  have hh : a2U t i = (a1c t[i].text && a4O t[i].path && (decide (i = 0) || Go.Op.bytesLess t[i - 1].path t[i].path)) := by simp only [a2U, hgi, hgi']
  have hm : min i t.length = i := by omega
  have hgg : t[i]?.getD default = t[i] := by simpa [List.getD_eq_getElem?_getD] using hgi
  simp [hlt, e2 i hlt, e3, e3', a0y, eStr, D.asStr, D.asRows, hm, a0z, and_assoc, hgg]
  try simp +contextual [eStr, a0y, a0s, a0z, a0t, List.getElem?_eq_getElem, a0u, a0p, a0r, a0q, <- a0h, <- a0f, a0m, a0n, a0l, a0k, a0o, a0j, and_assoc, e4, hgg, hm, hlt, D.asStr, D.asRows, c3b]
  repeat' (first | intro _ | apply And.intro)
  all_goals first | omega | grind
 ·have hT : a0I t = true := hE.2 ⟨h8', fun j hj => hprev j (by omega)⟩
  simp [hT]
  repeat' (first | intro _ | apply And.intro)
  all_goals first | omega | grind
theorem a9X (t : List FileD) (h : a0I t = true) : t.length <= 8 /\ ∀ f ∈ t, f.text.length <= 64 := by
 simp only [a0I, Bool.and_eq_true, decide_eq_true_eq, List.all_eq_true, List.mem_range, a2U] at h
 refine ⟨h.1, fun f hf => ?_⟩
 obtain ⟨i, hi, rfl⟩ := List.getElem_of_mem hf
 have := (h.2 i hi).1.1.1
 simp [List.getD_eq_getElem?_getD, hi, a1c] at this
 omega
theorem a4c : ∀ (x y : Str), Go.Op.bytesLess x y = decide (x < y)
 | [], [] => by simp [Go.Op.bytesLess]
 | _ :: _, [] => by simp [Go.Op.bytesLess]
 | [], _ :: _ => by simp [Go.Op.bytesLess]
 | a :: x, b :: y => by
  rw [Go.Op.bytesLess, a4c x y]
  simp only [List.cons_lt_cons_iff]
  by_cases h1 : a < b <;> by_cases h2 : a = b <;> by_cases h3 : x < y <;> simp [h1, h2, h3]
theorem a4w (a : Str) : ¬ a < a := List.lt_irrefl a
theorem a8r {a b c : Str} (h : a < b) (h' : b < c) : a < c := List.lt_trans h h'
theorem a8q (a b : Str) (h : ¬ a < b) (hne : a ≠ b) : b < a := by
 have h1 : b <= a := List.not_lt.1 h
 exact Classical.byContradiction fun h2 => hne (List.le_antisymm (List.not_lt.1 h2) h1)
theorem a8p {a b : Str} (h : a < b) : ¬ b < a := fun h' => a4w a (a8r h h')
theorem b4S (a b : Str) : leqS a b = !decide (b < a) := by
 unfold leqS
 rw [a4c]
 by_cases h : a < b
 ·simp [h, a8p h]
 ·by_cases e : a = b
  ·subst e; simp [a4w]
  ·simp [h, e, a8q a b h e]
theorem c5H {b : UInt8} {most : Nat} : ∀ {r c : Str} {n : Nat}, n + r.count b <= most -> cutL (b.toNat : Int) most r c n = spl b r c := by
 intro r
 induction r with
 | nil => intro c n _; rfl
 | cons x r ih =>
  intro c n h
  have hx : ((x.toNat : Int) = (b.toNat : Int)) = (x = b) := by
   apply propext
   constructor
   ·intro h; exact UInt8.toNat_inj.1 (by omega)
   ·rintro rfl; rfl
  by_cases hb : x = b
  ·subst hb
   rw [List.count_cons_self] at h
   simp only [cutL, spl, if_true, show n < most by omega]
   rw [ih (by omega)]
  ·rw [List.count_cons_of_ne hb] at h
   simp only [cutL, spl, hx, hb, if_false]
   split
   ·exact ih h
   ·have h0 : r.count b = 0 := by omega
    have : ∀ (q p : Str), q.count b = 0 -> spl b q p = [p ++ q] := by
     intro q
     induction q with
     | nil => intro p _; simp [spl]
     | cons y q ih2 =>
      intro p hq
      have hy : y ≠ b := by rintro rfl; simp at hq
      rw [List.count_cons_of_ne hy] at hq
      simp only [spl, hy, if_false]
      rw [ih2 _ hq]; simp
    rw [this r _ h0]; simp
theorem c5G {b : UInt8} {most : Nat} : ∀ {r c : Str} {n : Nat}, n <= most -> most < n + r.count b -> (cutL (b.toNat : Int) most r c n).length = most - n + 1 := by
 intro r
 induction r with
 | nil => intro c n h1 h2; simp at h2; omega
 | cons x r ih =>
  intro c n h1 h2
  have hx : ((x.toNat : Int) = (b.toNat : Int)) = (x = b) := by
   apply propext
   constructor
   ·intro h; exact UInt8.toNat_inj.1 (by omega)
   ·rintro rfl; rfl
  simp only [cutL, hx]
  split
  ·split
   ·rename_i hb
    subst hb
    rw [List.count_cons_self] at h2
    rw [List.length_cons, ih (by omega) (by omega)]
    omega
   ·rename_i hb
    rw [List.count_cons_of_ne hb] at h2
    rw [ih h1 h2]
  ·simp; omega
theorem c6n (s : Str) : a4O s = a8Q s := by
 unfold a4O a8Q
 by_cases h : s.count 47 <= 3
 ·have : cutB s 47 3 = spl 47 s [] := c5H (b := 47) (most := 3) (by omega)
  rw [this, Bool.and_comm]
 ·have h1 : (cutB s 47 3).length = 4 := c5G (b := 47) (most := 3) (r := s) (c := []) (n := 0) (by omega) (by omega)
  have h2 := c6F 47 s []
  simp [h1, h2, h]
  omega
theorem b7a (d p : Str) : inB d p = a5l (d ++ [47]) p := by
 unfold inB a5l
 by_cases h : d.length < p.length
 ·have e : p.take (d.length + 1) = p.take d.length ++ [p[d.length]] := List.take_succ_eq_append_getElem h
  simp only [List.length_append, List.length_cons, List.length_nil, Nat.zero_add, e, h, show d.length + 1 <= p.length by omega, decide_true, Bool.true_and]
  have hg : p.getD d.length 0 = p[d.length] := getD_nat _ _ h
  rw [hg, Bool.eq_iff_iff]
  simp only [Bool.and_eq_true, decide_eq_true_eq]
  constructor
  ·rintro ⟨h1, h2⟩; rw [h1, h2]
  ·intro h1
   have := List.append_inj h1 (by simp; omega)
   exact ⟨this.1, by simpa using this.2⟩
 ·simp [h]
  omega
theorem c6p {d p : Str} (h : a5l (d ++ [47]) p = true) : d < p := by
 unfold a5l at h
 simp only [Bool.and_eq_true, decide_eq_true_eq, List.length_append, List.length_cons, List.length_nil, Nat.zero_add] at h
 have e : p = d ++ (47 :: p.drop (d.length + 1)) := by
  have := List.take_append_drop (d.length + 1) p
  rw [h.2] at this
  simpa using this.symm
 rw [e]
 generalize p.drop (d.length + 1) = q
 clear h e
 induction d with
 | nil => exact List.nil_lt_cons _ _
 | cons x d ih => exact List.cons_lt_cons_iff.2 (.inr ⟨rfl, ih⟩)
theorem a5s (t : List FileD) : a0I t = a1R t := by
 have hasc : (∀ i, i < t.length -> a2U t i = true) -> ∀ i k, i < k -> k < t.length -> (t.getD i default).path < (t.getD k default).path := by
  intro h i k hik hk
  induction k with
  | zero => omega
  | succ k ih =>
   have h1 := h (k + 1) hk
   simp only [a2U, Bool.and_eq_true, Bool.or_eq_true, decide_eq_true_eq, a4c, Nat.add_sub_cancel] at h1
   have h2 : (t.getD k default).path < (t.getD (k + 1) default).path := by
    rcases h1.2 with h2 | h2
    ·omega
    ·exact h2
   rcases Nat.lt_or_ge i k with h3 | h3
   ·exact a8r (ih h3 (by omega)) h2
   ·have : i = k := by omega
    subst this; exact h2
 have hhead : ∀ i, a3u t i = a2U t i := by
  intro i
  simp only [a3u, a2U, c6n, b4S, a4c, Bool.not_not]
  rw [Bool.and_comm (a8Q _)]
 rw [Bool.eq_iff_iff]
 simp only [a0I, a1R, Bool.and_eq_true, decide_eq_true_eq, List.all_eq_true, List.mem_range, hhead]
 constructor
 ·rintro ⟨h8, h⟩
  refine ⟨fun i hi => ⟨(h i hi).1, ?_⟩, h8⟩
  simp only [noIn, List.all_eq_true, Bool.not_eq_true']
  intro g hg
  obtain ⟨k, hk, rfl⟩ := List.getElem_of_mem hg
  rw [show t[k] = t.getD k default by simp [List.getD_eq_getElem?_getD, hk], b7a]
  cases hp : a5l ((t.getD i default).path ++ [47]) (t.getD k default).path with
  | false => rfl
  | true =>
   exfalso
   have hlt := c6p hp
   have hik : i < k := by
    rcases Nat.lt_trichotomy i k with h1 | h1 | h1
    ·exact h1
    ·subst h1; exact absurd hlt (a4w _)
    ·exact absurd hlt (a8p (hasc (fun i hi => (h i hi).1) k i h1 hi))
   have h2 := (h k hk).2
   simp only [noUp, List.all_eq_true, List.mem_range, Bool.not_eq_true'] at h2
   have h3 := h2 i hik
   have p1 := (h i hi).1
   have p2 := (h k hk).1
   simp only [a2U, Bool.and_eq_true] at p1 p2
   simp only [a4d, p1.1.2, p2.1.2, hp, Bool.and_self, reduceCtorEq] at h3
 ·rintro ⟨h, h8⟩
  refine ⟨h8, fun i hi => ⟨(h i hi).1, ?_⟩⟩
  simp only [noUp, List.all_eq_true, List.mem_range, Bool.not_eq_true']
  intro k hk
  have h2 := (h k (by omega)).2
  simp only [noIn, List.all_eq_true, Bool.not_eq_true'] at h2
  have h3 := h2 _ (List.getElem_mem hi)
  rw [show t[i] = t.getD i default by simp [List.getD_eq_getElem?_getD, hi], b7a] at h3
  simp only [a4d, h3, Bool.and_false]

theorem c7E : ∀ {a : List Str} {l : Int}, 0 <= szL a l -> ∀ s ∈ a, (s.length : Int) <= l := by
 intro a
 induction a with
 | nil => intro l _ s hs; cases hs
 | cons x r ih =>
  intro l h s hs
  simp only [szL] at h
  split at h
  ·omega
  ·rcases List.mem_cons.1 hs with rfl | hs
   ·have := c2q (a := r) (l := l - s.length) (by omega); omega
   ·have := ih h s hs; omega
theorem b2R {a : List Str} {l : Int} (h : 0 <= a3v a l) : (a.length : Int) <= l /\ ∀ s ∈ a, (s.length : Int) <= l := by
 unfold a3v at h
 split at h
 ·omega
 ·refine ⟨by omega, fun s hs => ?_⟩
  have := c7E h s hs; omega
theorem c7D {f : FileD} {l : Int} (h : 0 <= szF f l) : (f.path.length : Int) <= l /\ (f.text.length : Int) <= l /\ ∀ s ∈ f.text, (s.length : Int) <= l := by
 unfold szF at h
 split at h
 ·omega
 ·split at h
  ·omega
  ·obtain ⟨h1, h2⟩ := b2R h
   refine ⟨by omega, by omega, fun s hs => ?_⟩
   have := h2 s hs; omega
theorem c6L : ∀ {a : List FileD} {l : Int}, 0 <= l -> 0 <= szFL a l -> ∀ f ∈ a, (f.path.length : Int) <= l /\ (f.text.length : Int) <= l /\ ∀ s ∈ f.text, (s.length : Int) <= l := by
 intro a
 induction a with
 | nil => intro l _ _ f hf; cases hf
 | cons x r ih =>
  intro l hl h f hf
  simp only [szFL] at h
  split at h
  ·omega
  ·rename_i h0
   rcases List.mem_cons.1 hf with rfl | hf
   ·exact c7D (by omega)
   ·have hle := b5A (f := x) hl
    obtain ⟨h1, h2, h3⟩ := ih (by omega) h f hf
    refine ⟨by omega, by omega, fun s hs => ?_⟩
    have := h3 s hs; omega
theorem b9r {a : List FileD} {l : Int} (h : 0 <= a2L a l) : (a.length : Int) <= l /\ ∀ f ∈ a, (f.path.length : Int) <= l /\ (f.text.length : Int) <= l /\ ∀ s ∈ f.text, (s.length : Int) <= l := by
 unfold a2L at h
 split at h
 ·omega
 ·refine ⟨by omega, fun f hf => ?_⟩
  obtain ⟨h1, h2, h3⟩ := c6L (by omega) h f hf
  refine ⟨by omega, by omega, fun s hs => ?_⟩
  have := h3 s hs; omega

def digL : Nat -> Nat -> Str -> Str
 | 0, _, out => out
 | f + 1, k, out => if k = 0 then out else digL f (k / 10) (UInt8.ofNat (48 + k % 10) :: out)
theorem c0t : ∀ {f g k : Nat} {out : Str}, k < f -> k < g -> digL f k out = digL g k out := by
 intro f
 induction f with
 | zero => intro g k out h; omega
 | succ f ih =>
  intro g k out h1 h2
  cases g with
  | zero => omega
  | succ g =>
   simp only [digL]
   split
   ·rfl
   ·exact ih (by omega) (by omega)
def dig (k : Nat) (out : Str) : Str := digL (k + 1) k out
theorem c3l {k : Nat} {out : Str} (h : 0 < k) : dig k out = dig (k / 10) (UInt8.ofNat (48 + k % 10) :: out) := by
 unfold dig
 rw [digL, if_neg (by omega)]
 exact c0t (by omega) (by omega)
def a2t (k : Int) : Str := if k <= 0 then [109, 48] else 109 :: dig k.toNat []
def a3D : Con := .fn 20 Int (fun k => [.int .i64 k]) (fun k => k <= 4611686018427387904) (fun k => .str (a2t k)) (fun _ => [])
theorem a3I : Has Tryz.prog 85 a3D := by
 refine a0e mixed a0i HasL.nil [0, 2, 3] ((fun a n (_ : Nat) => (fun k _ => ⟨Int × Str, fun t => ⟨[(0, true, .int .i64 t.1), (2, true, .str []), (3, true, .str t.2)], []⟩, fun t => 0 <= t.1 /\ 0 < (show Int from k) /\ t.2.length + t.1.toNat <= (show Int from k).toNat /\ dig t.1.toNat t.2 = dig (show Int from k).toNat [], fun t => t.1.toNat⟩) a n)) [] Tryz.func85 (by unfold Tryz.f85; rfl) (fun _ => ⟨(), trivial⟩) ?_
 intro (k : Int) hk
 replace hk : k <= 4611686018427387904 := hk
 have hm : ∀ n : Int, 0 <= n -> n.tmod 10 = n % 10 := fun n h => Int.tmod_eq_emod_of_nonneg h
 have hq : ∀ n : Int, 0 <= n -> n.tdiv 10 = n / 10 := fun n h => Int.tdiv_eq_ediv_of_nonneg h
 have hs : ∀ (n : Int) (out : Str), 0 < n -> dig n.toNat out = dig (n / 10).toNat (UInt8.ofNat (48 + n % 10).toNat :: out) := fun n out h => by
  rw [c3l (by omega)]
  congr 1
  ·omega
  ·congr 2; omega
 have hz : ∀ out : Str, dig 0 out = out := fun _ => rfl
 have hM : maxLen = 9223372036854775807 := rfl
 simp -implicitDefEqProofs [a3D, Con.fn, tTab]
 try dsimp only
 refine ⟨fun h => by simp [a2t, h], fun h0 => ⟨⟨k, [], ⟨rfl, rfl⟩, by omega, h0, by simp, rfl⟩, ?_⟩⟩
 intro a b ha _ hl hd
 rw [hm a ha, hq a ha, hM]
 refine ⟨fun hpos => ⟨by omega, fun _ _ => ⟨by omega, fun _ _ => ⟨by omega, fun _ => ⟨by omega, fun _ => ⟨by omega, fun _ _ => ⟨_, _, ⟨rfl, rfl⟩, ⟨by omega, h0, by simp only [List.length_cons]; omega, ?_⟩, by omega⟩⟩⟩⟩⟩⟩, fun hz0 => ⟨by omega, fun _ => ?_⟩⟩
 ·rw [<- hs a b hpos, hd]
 ·obtain rfl : a = 0 := by omega
  rw [show dig (Int.toNat 0) b = b from rfl] at hd
  simp only [a2t, if_neg (show ¬ k <= 0 by omega), hd]
def a2b (n : Nat) (k : Int) : List Str := (List.range n).map fun i : Nat => a2t (k + (i : Int))
theorem a4V (n : Nat) (k : Int) : (a2b n k).length = n := by simp [a2b]
theorem b0R (n : Nat) (k : Int) : a2b (n + 1) k = a2b n k ++ [a2t (k + n)] := by simp [a2b, List.range_succ]
def mArr (a : List Str) (k : Int) (i : Nat) : List Str := a2b i k ++ a.drop i
theorem c3R {a : List Str} {k : Int} {i : Nat} (h : i <= a.length) : (mArr a k i).length = a.length := by simp [mArr, a4V]; omega
theorem c3S {a : List Str} {k : Int} {i : Nat} (h : i < a.length) : (mArr a k i).set i (a2t (k + i)) = mArr a k (i + 1) := by
 unfold mArr
 have e : (l' : List Str) -> l' = a.drop i -> l'.set 0 (a2t (k + i)) = a2t (k + i) :: a.drop (i + 1) := by
  rintro _ rfl
  rw [List.drop_eq_getElem_cons h]; rfl
 rw [List.set_append_right _ _ (by simp [a4V]), a4V, Nat.sub_self, b0R, e _ rfl]
 simp
theorem c1t (a : List Str) (k : Int) : mArr a k 0 = a := by simp [mArr, a2b]
theorem c3Q {a : List Str} {k : Int} {i : Nat} (h : a.length <= i) (h2 : i <= a.length) : mArr a k i = a2b a.length k := by
 obtain rfl : i = a.length := by omega
 simp [mArr]
def a4l : Con := { A := List Str × Int, X := Unit, n := 20, args := fun a => [.own 0 1 (a0a a.1), .int .i64 a.2], boxes := fun _ => [], pre := fun a => 0 <= a.2 /\ a.2 + a.1.length <= 4611686018427387904, post := fun _ _ => True, res := fun a _ => .int .i64 (a.2 + a.1.length), fin := fun a _ => [(0, .own 9 1 true (a0a (a2b a.1.length a.2)))], owns := fun a => [(0, 9, 1, a0a a.1)], lends := [0], mv := true, sube := 9 }
theorem a5V : Has Tryz.prog 31 a4l := by
 refine a0e mixed a0i (HasL.cons a3I HasL.nil) [0, 1, 4, 5] ((fun a n (_ : Nat) => (fun a _ => ⟨Nat, fun i => ⟨[(0, true, .own 0 1 (a0a (mArr a.1 a.2 i))), (1, true, .int .i64 (a.2 + i)), (4, true, .int .i64 0), (5, true, .int .i64 i)], [(0, .own 9 1 true (a0a (mArr a.1 a.2 i)))]⟩, fun i => i <= a.1.length, fun i => a.1.length - i⟩) a n)) [] Tryz.func31 (by unfold Tryz.f31; rfl) (fun _ => ⟨(), trivial⟩) ?_
 intro a ha
 obtain ⟨l, k⟩ := a
 obtain ⟨h1, h2⟩ : 0 <= k /\ k + l.length <= 4611686018427387904 := ha
 have e1 := fun i => @c3R l k i
 have e2 := fun i => @c3S l k i
 have e3 := c1t l k
 have e4 := fun i => @c3Q l k i
 simp -implicitDefEqProofs [a4l, Con.fn, tTab, a3D]
 try dsimp only
 try simp +contextual [eStr, a0y, a0s, a0z, a0t, List.getElem?_eq_getElem, a0u, a0p, a0r, a0q, <- a0h, <- a0f, a0m, a0n, a0l, a0k, a0o, a0j, and_assoc, e1, e2, e3]
 repeat' (first | intro _ | apply And.intro)
 all_goals first | omega | grind [a0A]
def a7i (a : List Str) (k : Int) : Int := if a = a2b a.length k then k + a.length else -1
def a5w : Con := .fn 22 (List Str × Int) (fun a => [.sl true 1 (a0a a.1), .int .i64 a.2]) (fun a => 0 <= a.2 /\ a.2 + a.1.length <= 4611686018427387904) (fun a => .int .i64 (a7i a.1 a.2)) (fun _ => [])
theorem c3s {a : List Str} {k : Int} {i : Nat} (h : a.length <= i) (h2 : i <= a.length) (h3 : a.take i = a2b i k) : a7i a k = k + i := by
 obtain rfl : i = a.length := by omega
 rw [List.take_length] at h3
 unfold a7i
 rw [if_pos h3]
theorem c0G {a : List Str} {k : Int} {i : Nat} (h : i < a.length) (h2 : a[i] ≠ a2t (k + i)) : a7i a k = -1 := by
 unfold a7i
 rw [if_neg]
 intro h3
 apply h2
 have : a[i]? = (a2b a.length k)[i]? := by rw [<- h3]
 rw [List.getElem?_eq_getElem h] at this
 simpa [a2b, h] using this
theorem c0H {a : List Str} {k : Int} {i : Nat} (h : i < a.length) (h2 : a[i] = a2t (k + i)) (h3 : a.take i = a2b i k) : a.take (i + 1) = a2b (i + 1) k := by
 rw [a0C h, b0R, h3, h2]
theorem b0u : Has Tryz.prog 32 a5w := by
 refine a0e mixed a0i (HasL.cons a3I HasL.nil) [0, 1, 4, 5] ((fun a n (_ : Nat) => (fun a _ => ⟨Nat, fun i => ⟨[(0, true, .sl true 1 (a0a a.1)), (1, true, .int .i64 (a.2 + i)), (4, true, .int .i64 0), (5, true, .int .i64 i)], []⟩, fun i => i <= a.1.length /\ a.1.take i = a2b i a.2, fun i => a.1.length - i⟩) a n)) [] Tryz.func32 (by unfold Tryz.f32; rfl) (fun _ => ⟨(), trivial⟩) ?_
 intro a ha
 obtain ⟨l, k⟩ := a
 obtain ⟨h1, h2⟩ : 0 <= k /\ k + l.length <= 4611686018427387904 := ha
 have e1 := fun i => @c3s l k i
 have e2 := fun i => @c0G l k i
 have e3 := fun i => @c0H l k i
 have e4 : a2b 0 k = [] := rfl
 simp -implicitDefEqProofs [a5w, Con.fn, tTab, a3D]
 try dsimp only
 try simp +contextual [eStr, a0y, a0s, a0z, a0t, List.getElem?_eq_getElem, a0u, a0p, a0r, a0q, <- a0h, <- a0f, a0m, a0n, a0l, a0k, a0o, a0j, and_assoc]
 repeat' (first | intro _ | apply And.intro)
 all_goals first | omega | grind [a0A]



def kE (l : List FileD) (k : Int) : Int := k + l.length + a2c l
def a3W (t : List FileD) (k : Int) : List FileD := (List.range t.length).map fun i : Nat => ⟨a2t (kE (t.take i) k), a2b (t.getD i default).text.length (kE (t.take i) k + 1)⟩
theorem a3m (t : List FileD) (k : Int) : (a3W t k).length = t.length := by simp [a3W]
def mFA (t : List FileD) (k : Int) (i : Nat) : List FileD := (a3W t k).take i ++ t.drop i
theorem c6a {t : List FileD} {k : Int} {i : Nat} (h : i <= t.length) : (mFA t k i).length = t.length := by simp [mFA, a3m]; omega
theorem c3T (t : List FileD) (k : Int) : mFA t k 0 = t := by simp [mFA]
theorem c5Y {t : List FileD} {k : Int} {i : Nat} (h : t.length <= i) : mFA t k i = a3W t k := by
 unfold mFA
 rw [List.take_of_length_le (by rw [a3m]; exact h), List.drop_eq_nil_of_le h, List.append_nil]
theorem c5Z {t : List FileD} {k : Int} {i : Nat} (h : i < t.length) : (mFA t k i)[i]? = some t[i] := by
 unfold mFA
 rw [List.getElem?_append_right (by simp [a3m]; omega), List.length_take, a3m, Nat.min_eq_left (by omega), Nat.sub_self, List.drop_eq_getElem_cons h]
 rfl
theorem c6b {t : List FileD} {k : Int} {i : Nat} (h : i < t.length) : (mFA t k i).set i ⟨a2t (kE (t.take i) k), a2b t[i].text.length (kE (t.take i) k + 1)⟩ = mFA t k (i + 1) := by
 unfold mFA
 have hl : i < (a3W t k).length := by rw [a3m]; exact h
 have hx : (a3W t k)[i] = ⟨a2t (kE (t.take i) k), a2b t[i].text.length (kE (t.take i) k + 1)⟩ := by simp [a3W, h]
 rw [List.set_append_right _ _ (by simp [a3m]; omega), List.length_take, a3m, Nat.min_eq_left (by omega), Nat.sub_self, List.drop_eq_getElem_cons h, List.set_cons_zero, List.take_succ_eq_append_getElem hl, hx]
 simp
theorem c5R {t : List FileD} {k : Int} {i : Nat} (h : i < t.length) : kE (t.take (i + 1)) k = kE (t.take i) k + 1 + t[i].text.length := by
 unfold kE
 rw [b6t _ _ h]
 simp; omega
theorem c5h {t : List FileD} {k : Int} (i : Nat) : k <= kE (t.take i) k /\ kE (t.take i) k <= kE t k := by
 have h1 : a2c (t.take i) <= a2c t := by
  have : a2c t = a2c (t.take i) + a2c (t.drop i) := by
   unfold a2c
   rw [<- List.sum_append, <- List.map_append, List.take_append_drop]
  omega
 have h2 : (t.take i).length <= t.length := by simp; omega
 unfold kE
 omega
theorem c5S (k : Int) : kE [] k = k := by simp [kE, a2c]
def a6U : Con := { A := List FileD × Int, X := Unit, n := 28, args := fun a => [.own 0 2 (a0c a.1), .int .i64 a.2], boxes := fun _ => [], pre := fun a => 0 <= a.2 /\ kE a.1 a.2 <= 1152921504606846976, post := fun _ _ => True, res := fun a _ => .int .i64 (kE a.1 a.2), fin := fun a _ => [(0, .own 39 2 true (a0c (a3W a.1 a.2)))], owns := fun a => [(0, 39, 2, a0c a.1)], lends := [0], mv := true, sube := 39 }
theorem b3d : Has Tryz.prog 132 a6U := by
 refine a0e mixed a0i (HasL.cons a3I (HasL.cons a5V HasL.nil)) [0, 1, 4, 5] ((fun a n (_ : Nat) => (fun a _ => ⟨Nat, fun i => ⟨[(0, true, .own 0 2 (a0c (mFA a.1 a.2 i))), (1, true, .int .i64 (kE (a.1.take i) a.2)), (4, true, .int .i64 0), (5, true, .int .i64 i)], [(0, .own 39 2 true (a0c (mFA a.1 a.2 i)))]⟩, fun i => i <= a.1.length, fun i => a.1.length - i⟩) a n)) [] Tryz.func132 (by unfold Tryz.f132; rfl) (fun _ => ⟨(), trivial⟩) ?_
 intro a ha
 obtain ⟨t, k⟩ := a
 obtain ⟨q1, q2⟩ : 0 <= k /\ kE t k <= 1152921504606846976 := ha
 have e1 := fun i => @c6a t k i
 have e2 := fun i => @c6b t k i
 have e3 := c3T t k
 have e4 := fun i => @c5Y t k i
 have e5 := fun i => @c5Z t k i
 have e6 := fun i => @c5R t k i
 have e7 := fun i => @c5h t k i
 have e8 := c5S k
 simp -implicitDefEqProofs [a6U, Con.fn, tTab, a3D, a4l, e3, e8]
 try dsimp only
 refine ⟨⟨0, by simp [e3, e8]⟩, fun i hi _ => ⟨fun hlt => ?_, fun hge => ?_⟩⟩
 ·have hlt' : i < t.length := by rw [e1 i hi] at hlt; exact hlt
  have g1 := e5 i hlt'
  have g2 : ∀ r, ((a0c (mFA t k i)).set i r)[i]? = some r := fun r => by
   rw [List.getElem?_set_self (by rw [eFiles_length]; exact hlt)]
  have g3 := e7 i
  have g4 := e6 i hlt'
  have g5 := e7 (i + 1)
  have g6 : (a0c (mFA t k i)).set i [D.str (a2t (kE (t.take i) k)), D.sl 9 1 (a0a (a2b t[i].text.length (kE (t.take i) k + 1)))] = a0c (mFA t k (i + 1)) := by
   rw [<- e2 i hlt', a0p]
  have g7 := e1 (i + 1) (by omega)
  have g8 : (mFA t k i)[i] = t[i] := by rw [List.getElem?_eq_getElem hlt] at g1; exact Option.some.inj g1
  simp [g1, g2, a0y, D.asRows, e1 i hi, hlt', hlt, and_assoc]
  rw [g8]
  exact ⟨by omega, by omega, by omega, fun _ _ => ⟨by omega, by omega, by omega, by omega, fun _ _ => ⟨i + 1, g6.symm, by omega, by omega, g6, by omega, by omega⟩⟩⟩
 ·rw [e1 i hi] at hge
  rw [e4 i hge, List.take_of_length_le hge]
  exact ⟨rfl, rfl⟩
theorem c0F (n : Nat) (k : Int) : a7i (a2b n k) k = k + n := by
 unfold a7i
 rw [a4V, if_pos rfl]
theorem b2t {l : List Str} {x : List D} {d : D} (h : x ∈ a0a l) (h' : d ∈ x) : ∃ s, d = D.str s := by
 simp only [a0a, List.mem_map] at h
 obtain ⟨s, _, rfl⟩ := h
 simp only [eStr, List.mem_singleton] at h'
 exact ⟨s, h'⟩
def a4R : Con := .fn 6 (List Str) (fun a => [.sl true 1 (a0a a)]) (fun a => a.length <= 1048576) (fun a => .own 8 1 (a0a a)) (fun a => a1A 8 a)
theorem a5B : Has Tryz.prog 116 a4R := by
 refine a0e mixed a0i HasL.nil [0, 2] ((fun a n (_ : Nat) => (fun _ => a0K) a n)) [] Tryz.func116 (by unfold Tryz.f116; rfl) (fun _ => ⟨(), trivial⟩) ?_
 intro (a : List Str) ha
 replace ha : a.length <= 1048576 := ha
 simp -implicitDefEqProofs [a4R, Con.fn, tTab]
 try dsimp only
 try simp +contextual [eStr, a0y, a0s, a0z, a0t, List.getElem?_eq_getElem, a0u, a0p, a0r, a0q, <- a0h, <- a0f, a0m, a0n, a0l, a0k, a0o, a0j, and_assoc]
 repeat' (first | intro _ | apply And.intro)
 all_goals first | omega | grind [a0A, b2t]
def a4S : Con := .fn 23 (List FileD) (fun a => [.sl true 2 (a0c a)]) (fun a => a.length <= 1048576 /\ ∀ f ∈ a, f.text.length <= 1048576) (fun a => .own 8 2 (a0c a)) (fun a => a2E 8 a)
theorem a5C : Has Tryz.prog 99 a4S := by
 refine a0e mixed a0i (HasL.cons a5B HasL.nil) [0, 2, 3, 5, 6, 7, 8] ((fun a n (_ : Nat) => (fun a _ => ⟨Nat, fun i => ⟨[(2, true, .nil), (3, true, .own 9 2 (a0c (a.take i))), (6, true, .sl true 2 (a0c a)), (7, true, .int .i64 a.length), (8, true, .int .i64 i)], a2E 9 (a.take i)⟩, fun i => i <= a.length, fun i => a.length - i⟩) a n)) [19] Tryz.func99 (by unfold Tryz.f99; rfl) (fun _ => ⟨(), trivial⟩) ?_
 intro (a : List FileD) ha
 obtain ⟨h1, h2⟩ : a.length <= 1048576 /\ ∀ f ∈ a, f.text.length <= 1048576 := ha
 have h3 : ∀ i (h : i < a.length), a[i].text.length <= 1048576 := fun i h => h2 _ (List.getElem_mem h)
 simp -implicitDefEqProofs [a4S, Con.fn, tTab, a4R]
 try dsimp only
 try simp +contextual [eStr, a0y, a0s, a0z, a0t, List.getElem?_eq_getElem, a0u, a0p, a0r, a0q, <- a0h, <- a0f, a0m, a0n, a0l, a0k, a0o, a0j, and_assoc, <- FileD.eq_iff]
 repeat' (first | intro _ | apply And.intro)
 all_goals first | omega | grind [a0A, List.take_of_length_le, List.take_succ_eq_append_getElem]
def a8G : Con := .fn 29 (List FileD) (fun a => [.sl true 2 (a0c a)]) (fun a => a.length <= 1048576 /\ ∀ f ∈ a, f.text.length <= 1048576) (fun a => .own 8 2 (a0c a)) (fun a => a2E 8 a)
theorem b0I : Has Tryz.prog 164 a8G := by
 refine a0e mixed a0i HasL.nil [0, 2, 3, 4] ((fun a n (_ : Nat) => (fun a _ => ⟨Nat, fun i => ⟨[(0, true, .sl true 2 (a0c a)), (2, true, .nil), (3, true, .own 9 2 (a0c (a.take i))), (4, true, .int .i64 i)], a2E 9 (a.take i)⟩, fun i => i <= a.length, fun i => a.length - i⟩) a n)) [26] Tryz.func164 (by unfold Tryz.f164; rfl) (fun _ => ⟨(), trivial⟩) ?_
 intro (a : List FileD) ha
 obtain ⟨h1, h2⟩ : a.length <= 1048576 /\ ∀ f ∈ a, f.text.length <= 1048576 := ha
 have h3 : ∀ i (h : i < a.length), a[i].text.length <= 1048576 := fun i h => h2 _ (List.getElem_mem h)
 simp -implicitDefEqProofs [a8G, Con.fn, tTab]
 try dsimp only
 try simp +contextual [eStr, a0y, a0s, a0z, a0t, List.getElem?_eq_getElem, a0u, a0p, a0r, a0q, <- a0h, <- a0f, a0m, a0n, a0l, a0k, a0o, a0j, and_assoc, <- FileD.eq_iff]
 repeat' (first | intro _ | apply And.intro)
 all_goals first | omega | grind [a0A, b2t, List.take_of_length_le, List.take_succ_eq_append_getElem]

def a8M (b : UInt8) : List D := [.int .u8 b.toNat]
def a4T (s : Str) : List (List D) := s.map a8M
@[simp] theorem eBytes_length (l : Str) : (a4T l).length = l.length := by simp -implicitDefEqProofs [a4T]
@[simp] theorem eBytes_get (l : Str) (i : Nat) : (a4T l)[i]? = l[i]?.map a8M := by simp -implicitDefEqProofs [a4T]
@[simp] theorem eByte_inj (a b : UInt8) : (a8M a = a8M b) = (a = b) := by
 simp only [a8M, List.cons.injEq, D.int.injEq, true_and, and_true, eq_iff_iff]
 constructor
 ·intro h; exact UInt8.toNat_inj.1 (by omega)
 ·rintro rfl; rfl
@[simp] theorem eBytes_inj (a b : Str) : (a4T a = a4T b) = (a = b) := by
 apply propext
 constructor
 ·intro h
  exact List.map_inj_right (fun x y h => by simpa using h) |>.1 h
 ·rintro rfl; rfl
@[simp] theorem eBytes_all (l : Str) (f : List D -> Bool) : (a4T l).all f = l.all fun b => f (a8M b) := by simp -implicitDefEqProofs [a4T, Function.comp_def]



def a8D : Con := .fn 11 (RepoD × Int) (fun a => [a1x a.1, .int .i64 a.2]) (fun a => a.1.commits.length <= 1073741824) (fun a => .bool (decide (0 <= a.2) && decide (a.2 <= (a.1.commits.length : Int) - 1))) (fun _ => [])
theorem b0t : Has Tryz.prog 98 a8D := by
 refine a0e mixed a0i (HasL.cons a7y HasL.nil) [0, 1, 2, 4] ((fun a n (_ : Nat) => (fun _ => a0K) a n)) [] Tryz.func98 (by unfold Tryz.f98; rfl) (fun _ => ⟨(), trivial⟩) ?_
 intro a ha
 obtain ⟨r, n⟩ := a
 replace ha : r.commits.length <= 1073741824 := ha
 simp -implicitDefEqProofs [a8D, Con.fn, tTab, a6r]
 try dsimp only
 try simp +contextual -implicitDefEqProofs [eStr, a0y, a0s, a0z, a0t, List.getElem?_eq_getElem, a0u, a0p, a0r, a0q, <- a0h, <- a0f, a0m, a0n, a0l, a0k, a0o, a0j, and_assoc]
 repeat' (first | intro _ | apply And.intro)
 all_goals first | omega | grind [a0A]
def inN (n : Nat) (a : Int) : Bool := decide (0 <= a) && decide (a <= (n : Int) - 1)
def okHd (n : Nat) (h : List HeadD) (i : Nat) : Bool := a1m (h.getD i default).name && inN n (h.getD i default).at_ && (decide (i = 0) || Go.Op.bytesLess (h.getD (i - 1) default).name (h.getD i default).name)
def a1J (n : Nat) (h : List HeadD) : Bool := decide (h.length <= 5) && (List.range h.length).all (okHd n h)
theorem a2z (n : Nat) (h : List HeadD) : a1J n h = true ↔ h.length <= 5 /\ ∀ i, i < h.length -> okHd n h i = true := by simp -implicitDefEqProofs [a1J]
theorem b2y {n : Nat} {h : List HeadD} {i : Nat} (hi : i < h.length) (hb : okHd n h i = false) : a1J n h = false := by
 cases hq : a1J n h with
 | false => rfl
 | true => have := ((a2z n h).1 hq).2 i hi; simp -implicitDefEqProofs [hb] at this
def a9t : Con := .fn 44 (RepoD × List HeadD) (fun a => [a1x a.1, .sl true 2 (a0b a.2)]) (fun a => a.1.commits.length <= 1073741824) (fun a => .bool (a1J a.1.commits.length a.2)) (fun _ => [])
theorem b6a : Has Tryz.prog 73 a9t := by
 refine a0e mixed a0i (HasL.cons a5j (HasL.cons b0t HasL.nil)) [0, 1, 2, 4, 5, 6, 10, 11, 12] ((fun a n (_ : Nat) => (fun a _ => ⟨Nat, fun i => ⟨[(1, true, .sl true 2 (a0b a.2)), (2, true, .ptr 10 0), (4, true, .bool false), (10, true, .sl true 2 (a0b a.2)), (11, true, .int .i64 a.2.length), (12, true, .int .i64 i)], [(10, .box 26 [.sl true 3 (a0g a.1.commits), .sl true 2 (a0b a.1.heads)])]⟩, fun i => i <= a.2.length /\ a.2.length <= 5 /\ ∀ j, j < i -> okHd a.1.commits.length a.2 j = true, fun i => a.2.length - i⟩) a n)) [] Tryz.func73 (by unfold Tryz.f73; rfl) (fun _ => ⟨(), trivial⟩) ?_
 intro a ha
 obtain ⟨r, t⟩ := a
 replace ha : r.commits.length <= 1073741824 := ha
 have hB : 5 < t.length -> a1J r.commits.length t = false := fun h => by
  cases hq : a1J r.commits.length t with
  | false => rfl
  | true => have := ((a2z _ _).1 hq).1; omega
 have hN := fun i => @b2y r.commits.length t i
 have hE := (a2z r.commits.length t).2
 have hg : ∀ i (h : i < t.length), t.getD i default = t[i] := fun i h => by simp -implicitDefEqProofs [List.getD_eq_getElem?_getD, h]
 have hgg : ∀ i (h : i < t.length), t[i]?.getD default = t[i] := fun i h => by simp -implicitDefEqProofs [h]
 have e1 : ∀ k (h : k < t.length), Option.map a0R t[k]? = some (a0R t[k]) := fun k h => by simp -implicitDefEqProofs [List.getElem?_eq_getElem h]
 simp -implicitDefEqProofs [a9t, Con.fn, tTab, a5o, a8D]
 try dsimp only
 refine fun _ => ⟨fun h => hB (by omega), fun h5 _ => ⟨by omega, fun i hi _ hprev => ⟨fun hlt => ?_, fun hge => hE ⟨by omega, fun j hj => hprev j (by omega)⟩⟩⟩⟩
 have e3 := e1 i hlt
 have e4 := e1 (i - 1) (by omega)
 have hh : okHd r.commits.length t i = (a1m t[i].name && inN r.commits.length t[i].at_ && (decide (i = 0) || Go.Op.bytesLess (t[i - 1]'(by omega)).name t[i].name)) := by
  unfold okHd
  rw [hg i hlt, hg (i - 1) (by omega)]
 have hn := hN i hlt
 rw [hh] at hn
 unfold inN at hn hh
 simp -implicitDefEqProofs [hlt, e3, e4, a0R, D.asStr, D.asInt, a0z, and_assoc]
 try simp +contextual -implicitDefEqProofs [eStr, a0y, a0s, a0z, a0t, List.getElem?_eq_getElem, a0u, a0p, a0r, a0q, <- a0h, <- a0f, a0m, a0n, a0l, a0k, a0o, a0j, and_assoc, hlt]
 clear e1 hg hgg hN hE hB
 repeat' (first | intro _ | apply And.intro)
 all_goals first | omega | grind -ring
def okI1 (cs : List CommitD) (i : Nat) : Bool :=
 decide ((cs.getD i default).parents.length <= 2) && !(decide ((cs.getD i default).parents.length = 2) && decide ((cs.getD i default).parents.getD 0 0 = (cs.getD i default).parents.getD 1 0)) && a1m (cs.getD i default).who && a0I (cs.getD i default).tree
def okCI (cs : List CommitD) (i : Nat) : Bool := okI1 cs i && (List.range (cs.getD i default).parents.length).all fun k => inN i ((cs.getD i default).parents.getD k 0)
def a0L (r : RepoD) : Bool := decide (r.commits.length <= 16) && (List.range r.commits.length).all (okCI r.commits) && a1J r.commits.length r.heads
def a4v (r : RepoD) : Prop := r.commits.length <= 1073741824 /\ ∀ c ∈ r.commits, ∀ f ∈ c.tree, f.path.length <= 536870912
def a2p (r : RepoD) : Blk := .box 26 [.sl true 3 (a0g r.commits), .sl true 2 (a0b r.heads)]
theorem a0V (r : RepoD) : a2p r = .box 26 [.sl true 3 (a0g r.commits), .sl true 2 (a0b r.heads)] := rfl
def riO (r : RepoD) : Inv := ⟨Nat, fun i => ⟨[(1, true, .ptr 10 0), (2, true, .bool false), (12, true, .sl true 3 (a0g r.commits)), (13, true, .int .i64 r.commits.length), (14, true, .int .i64 i)], [(10, a2p r)]⟩, fun i => i <= r.commits.length /\ r.commits.length <= 16 /\ ∀ j, j < i -> okCI r.commits j = true, fun i => r.commits.length - i⟩
def riI (r : RepoD) (g : Nat) : Inv := ⟨Nat, fun k => ⟨[(1, true, .ptr 10 0), (2, true, .bool false), (3, true, .int .i64 g), (12, true, .sl true 3 (a0g r.commits)), (13, true, .int .i64 r.commits.length), (14, true, .int .i64 g), (53, true, .sl true 1 (a0d (r.commits.getD g default).parents)), (54, true, .int .i64 (r.commits.getD g default).parents.length), (55, true, .int .i64 k)], [(10, a2p r)]⟩,
 fun k => g < r.commits.length /\ k <= (r.commits.getD g default).parents.length /\ r.commits.length <= 16 /\ (∀ j, j < g -> okCI r.commits j = true) /\ okI1 r.commits g = true /\ ∀ j, j < k -> inN g ((r.commits.getD g default).parents.getD j 0) = true, fun k => (r.commits.getD g default).parents.length - k⟩
def b9k (r : RepoD) (n g : Nat) : Inv := if n = 4 then riO r else riI r g
theorem c6v (r : RepoD) (g : Nat) : b9k r 4 g = riO r := rfl
theorem c6w (r : RepoD) (g : Nat) : b9k r 9 g = riI r g := rfl
theorem a4e (r : RepoD) : a0L r = true ↔ r.commits.length <= 16 /\ (∀ i, i < r.commits.length -> okCI r.commits i = true) /\ a1J r.commits.length r.heads = true := by simp -implicitDefEqProofs [a0L, and_assoc]
theorem c4x {r : RepoD} {i : Nat} (hi : i < r.commits.length) (hb : okCI r.commits i = false) : a0L r = false := by
 cases hq : a0L r with
 | false => rfl
 | true => have := ((a4e r).1 hq).2.1 i hi; simp -implicitDefEqProofs [hb] at this
theorem c1X {r : RepoD} (h : 16 < r.commits.length) : a0L r = false := by
 cases hq : a0L r with
 | false => rfl
 | true => have := ((a4e r).1 hq).1; omega
theorem c3Z {cs : List CommitD} {i : Nat} (h : okI1 cs i = false) : okCI cs i = false := by unfold okCI; rw [h]; rfl
theorem c4a {cs : List CommitD} {i k : Nat} (hk : k < (cs.getD i default).parents.length) (h : inN i ((cs.getD i default).parents.getD k 0) = false) : okCI cs i = false := by
 unfold okCI
 have : (List.range (cs.getD i default).parents.length).all (fun k => inN i ((cs.getD i default).parents.getD k 0)) = false := by
  rw [List.all_eq_false]
  exact ⟨k, List.mem_range.2 hk, by simpa using h⟩
 rw [this, Bool.and_false]
theorem c4b {cs : List CommitD} {i : Nat} (h : okI1 cs i = true) (h2 : ∀ k, k < (cs.getD i default).parents.length -> inN i ((cs.getD i default).parents.getD k 0) = true) : okCI cs i = true := by
 unfold okCI
 rw [h, Bool.true_and, List.all_eq_true]
 intro k hk
 exact h2 k (by simpa using hk)
def a8K : Con := .fn 70 RepoD (fun r => [a1x r]) a4v (fun r => .bool (a0L r)) (fun _ => [])
theorem b1e : Has Tryz.prog 22 a8K := by
 refine a0e mixed a0i (HasL.cons a5j (HasL.cons a7w (HasL.cons a7y (HasL.cons b6a HasL.nil)))) [0, 1, 2, 3, 4, 6, 12, 13, 14, 53, 54, 55] (fun r => b9k r) [] Tryz.func22 (by unfold Tryz.f22; rfl) (fun _ => ⟨(), trivial⟩) ?_
 intro (r : RepoD) hr
 obtain ⟨hr1, hr2⟩ : r.commits.length <= 1073741824 /\ ∀ c ∈ r.commits, ∀ f ∈ c.tree, f.path.length <= 536870912 := hr
 have hp : ∀ i (h : i < r.commits.length), ∀ f ∈ r.commits[i].tree, f.path.length <= 536870912 := fun i h => hr2 _ (List.getElem_mem h)
 have hB := @c1X r
 have hN := fun i => @c4x r i
 have hN1 := fun i => @c3Z r.commits i
 have hN2 := fun i k => @c4a r.commits i k
 have hY := fun i => @c4b r.commits i
 simp -implicitDefEqProofs [a8K, Con.fn, tTab, a5o, a6q, a6r, a9t, c6v, c6w, riO, riI, a0V]
 try dsimp only
 refine fun _ => ⟨fun h => hB (by omega), fun h16 _ => ⟨by omega, fun i hi _ hprev => ⟨fun hlt => ?_, fun hge => ?_⟩⟩⟩
 ·have e3 : Option.map a0E r.commits[i]? = some (a0E r.commits[i]) := by simp -implicitDefEqProofs [List.getElem?_eq_getElem hlt]
  have hgc : r.commits.getD i default = r.commits[i] := by simp -implicitDefEqProofs [List.getD_eq_getElem?_getD, hlt]
  have hpc := hp i hlt
  have n0 := hN i hlt
  have n1 := hN1 i
  have n2 := hN2 i
  have n3 := hY i
  have o1 : okI1 r.commits i = (decide (r.commits[i].parents.length <= 2) && !(decide (r.commits[i].parents.length = 2) && decide (r.commits[i].parents.getD 0 0 = r.commits[i].parents.getD 1 0)) && a1m r.commits[i].who && a0I r.commits[i].tree) := by
   unfold okI1; rw [hgc]
  rw [hgc] at n2 n3
  simp -implicitDefEqProofs [hlt, e3, a0E, D.asStr, D.asRows, a0z, and_assoc]
  try simp only [show r.commits[i]?.getD default = r.commits[i] by simp -implicitDefEqProofs [hlt]]
  generalize r.commits[i] = c at hpc n2 n3 o1 ⊢
  have hq : ∀ k (h : k < c.parents.length), inN i (c.parents[k]?.getD 0) = (decide (0 <= c.parents[k]) && decide (c.parents[k] <= (i : Int) - 1)) := fun k h => by simp -implicitDefEqProofs [inN, h]
  have n4 : ∀ k (h : k < c.parents.length), (decide (0 <= c.parents[k]) && decide (c.parents[k] <= (i : Int) - 1)) = false -> a0L r = false := fun k h hb => n0 (n2 k h (by rw [List.getD_eq_getElem?_getD, hq k h]; exact hb))
  have n5 : okI1 r.commits i = false -> a0L r = false := fun h => n0 (n1 h)
  have n6 : okI1 r.commits i = true -> (∀ j, j < c.parents.length -> inN i (c.parents[j]?.getD 0) = true) -> ∀ j, j < i + 1 -> okCI r.commits j = true := fun h1 h2 j hj => by
   rcases Nat.lt_or_ge j i with h3 | h3
   ·exact hprev j h3
   ·have : j = i := by omega
    subst this
    exact n3 h1 (fun k hk => by rw [List.getD_eq_getElem?_getD]; exact h2 k hk)
  clear n3 n2 n1 n0 hN hN1 hN2 hY hp hr2 hB hgc e3
  have o2 : ∀ (h : c.parents.length = 2), okI1 r.commits i = (!(decide (c.parents[0] = c.parents[1])) && a1m c.who && a0I c.tree) := fun h => by
   rw [o1]; simp -implicitDefEqProofs [h]
  have o3 : c.parents.length <= 2 -> ¬ c.parents.length = 2 -> okI1 r.commits i = (a1m c.who && a0I c.tree) := fun h h' => by
   rw [o1]; simp -implicitDefEqProofs [h, h']
  have o4 : 2 < c.parents.length -> okI1 r.commits i = false := fun h => by
   rw [o1]; simp -implicitDefEqProofs [show ¬ c.parents.length <= 2 by omega]
  clear o1
  refine ⟨fun h => n5 (o4 (by omega)), fun hl2 => ⟨fun h2 => ?_, fun h2 => ?_⟩⟩
  ·have q0 : Option.map eInt c.parents[0]? = some (eInt c.parents[0]) := by simp -implicitDefEqProofs [List.getElem?_eq_getElem (show 0 < c.parents.length by omega)]
   have q1 : Option.map eInt c.parents[1]? = some (eInt c.parents[1]) := by simp -implicitDefEqProofs [List.getElem?_eq_getElem (show 1 < c.parents.length by omega)]
   have o5 := o2 (by omega)
   simp -implicitDefEqProofs [q0, q1, eInt]
   refine ⟨by omega, fun _ => ⟨by omega, fun _ => ⟨fun he => n5 (by rw [o5]; simp -implicitDefEqProofs [he]), fun he => ⟨fun hn => n5 (by rw [o5]; simp -implicitDefEqProofs [hn]), fun hn => ⟨hpc, fun ht => n5 (by rw [o5]; simp -implicitDefEqProofs [ht]), fun ht _ => ⟨by omega, hprev, by rw [o5]; simp -implicitDefEqProofs [he, hn, ht], fun t ht1 _ _ hok hinv => ?_⟩⟩⟩⟩⟩⟩
   clear o2 o3 o4 o5 n5
   refine ⟨fun hlt2 => ?_, fun hge2 => ?_⟩
   ·have qt : Option.map eInt c.parents[t]? = some (eInt c.parents[t]) := by simp -implicitDefEqProofs [List.getElem?_eq_getElem hlt2]
    have n7 := n4 t hlt2
    have q7 := hq t hlt2
    simp -implicitDefEqProofs [qt, eInt, hlt2]
    have n8 : 0 <= c.parents[t] -> c.parents[t] <= (i : Int) - 1 -> ∀ j, j < t + 1 -> inN i (c.parents[j]?.getD 0) = true := fun g1 g2 j hj => by
     rcases Nat.lt_or_ge j t with h3 | h3
     ·exact hinv j h3
     ·have : j = t := by omega
      subst this
      rw [q7]
      simp -implicitDefEqProofs [g1, g2]
    refine ⟨by omega, by omega, fun _ _ => ⟨fun h => n7 (by simp; omega), fun g1 g2 => ⟨by omega, by omega, fun _ _ => ⟨t + 1, rfl, by omega, by omega, hprev, hok, n8 g1 g2, by omega⟩⟩⟩⟩
   ·have n7 := n6 hok (fun j hj => hinv j (by omega))
    exact ⟨by omega, by omega, fun _ _ => ⟨i + 1, rfl, by omega, by omega, n7, by omega⟩⟩
  ·have o5 := o3 (by omega) (by omega)
   refine ⟨fun hn => n5 (by rw [o5]; simp -implicitDefEqProofs [hn]), fun hn => ⟨hpc, fun ht => n5 (by rw [o5]; simp -implicitDefEqProofs [ht]), fun ht _ => ⟨by omega, hprev, by rw [o5]; simp -implicitDefEqProofs [hn, ht], fun t ht1 _ _ hok hinv => ?_⟩⟩⟩
   clear o2 o3 o4 o5 n5
   refine ⟨fun hlt2 => ?_, fun hge2 => ?_⟩
   ·have qt : Option.map eInt c.parents[t]? = some (eInt c.parents[t]) := by simp -implicitDefEqProofs [List.getElem?_eq_getElem hlt2]
    have n7 := n4 t hlt2
    have q7 := hq t hlt2
    simp -implicitDefEqProofs [qt, eInt, hlt2]
    have n8 : 0 <= c.parents[t] -> c.parents[t] <= (i : Int) - 1 -> ∀ j, j < t + 1 -> inN i (c.parents[j]?.getD 0) = true := fun g1 g2 j hj => by
     rcases Nat.lt_or_ge j t with h3 | h3
     ·exact hinv j h3
     ·have : j = t := by omega
      subst this
      rw [q7]
      simp -implicitDefEqProofs [g1, g2]
    refine ⟨by omega, by omega, fun _ _ => ⟨fun h => n7 (by simp; omega), fun g1 g2 => ⟨by omega, by omega, fun _ _ => ⟨t + 1, rfl, by omega, by omega, hprev, hok, n8 g1 g2, by omega⟩⟩⟩⟩
   ·have n7 := n6 hok (fun j hj => hinv j (by omega))
    exact ⟨by omega, by omega, fun _ _ => ⟨i + 1, rfl, by omega, by omega, n7, by omega⟩⟩
 ·refine ⟨r, r.heads, ⟨⟨rfl, rfl⟩, rfl⟩, hr1, ?_⟩
  rw [Bool.eq_iff_iff, a4e]
  exact ⟨fun h => h.2.2, fun h => ⟨by omega, fun j hj => hprev j (by omega), h⟩⟩
def oneP (i : Nat) (ps : List Int) (k : Nat) : Bool := inN i (ps.getD k 0) && !(decide (0 < k) && decide (ps.getD k 0 = ps.getD 0 0))
def okS1 (c : CommitD) : Bool := decide (c.parents.length <= 2) && a1m c.who && a1R c.tree
def okCS (cs : List CommitD) (i : Nat) : Bool := (List.range (cs.getD i default).parents.length).all (oneP i (cs.getD i default).parents) && okS1 (cs.getD i default)
def a0Q (r : RepoD) : Bool := (List.range r.commits.length).all (okCS r.commits) && a1J r.commits.length r.heads && decide (r.commits.length <= 16)
theorem a1j (r : RepoD) : a0Q r = true ↔ (∀ i, i < r.commits.length -> okCS r.commits i = true) /\ a1J r.commits.length r.heads = true /\ r.commits.length <= 16 := by simp -implicitDefEqProofs [a0Q, and_assoc]
theorem c4y {r : RepoD} {i : Nat} (hi : i < r.commits.length) (hb : okCS r.commits i = false) : a0Q r = false := by
 cases hq : a0Q r with
 | false => rfl
 | true => have := ((a1j r).1 hq).1 i hi; simp -implicitDefEqProofs [hb] at this
theorem c1Y {r : RepoD} (hb : a1J r.commits.length r.heads = false) : a0Q r = false := by
 unfold a0Q; rw [hb]; simp
theorem c4c {cs : List CommitD} {i : Nat} (h : okS1 (cs.getD i default) = false) : okCS cs i = false := by unfold okCS; rw [h, Bool.and_false]
theorem c4d {cs : List CommitD} {i k : Nat} (hk : k < (cs.getD i default).parents.length) (h : oneP i (cs.getD i default).parents k = false) : okCS cs i = false := by
 unfold okCS
 have : (List.range (cs.getD i default).parents.length).all (oneP i (cs.getD i default).parents) = false := by
  rw [List.all_eq_false]
  exact ⟨k, List.mem_range.2 hk, by simpa using h⟩
 rw [this, Bool.false_and]
theorem c4e {cs : List CommitD} {i : Nat} (h : okS1 (cs.getD i default) = true) (h2 : ∀ k, k < (cs.getD i default).parents.length -> oneP i (cs.getD i default).parents k = true) : okCS cs i = true := by
 unfold okCS
 rw [h, Bool.and_true, List.all_eq_true]
 intro k hk
 exact h2 k (by simpa using hk)
theorem a1G (r : RepoD) : a0L r = a0Q r := by
 have h : ∀ i, okCI r.commits i = okCS r.commits i := by
  intro i
  unfold okCI okCS okI1 okS1
  generalize r.commits.getD i default = c
  rw [a5s]
  rw [Bool.eq_iff_iff]
  simp only [Bool.and_eq_true, List.all_eq_true, List.mem_range, decide_eq_true_eq, oneP, Bool.not_eq_true', Bool.and_eq_false_iff, decide_eq_false_iff_not]
  constructor
  ·rintro ⟨⟨⟨⟨h1, h2⟩, h3⟩, h4⟩, h5⟩
   refine ⟨fun k hk => ⟨h5 k hk, ?_⟩, ⟨h1, h3⟩, h4⟩
   by_cases h0 : k = 0
   ·exact .inl (by omega)
   ·right
    have : k = 1 := by omega
    subst this
    rcases h2 with h2 | h2
    ·omega
    ·exact fun e => h2 e.symm
  ·rintro ⟨h1, ⟨h2, h3⟩, h4⟩
   refine ⟨⟨⟨⟨h2, ?_⟩, h3⟩, h4⟩, fun k hk => (h1 k hk).1⟩
   by_cases h0 : c.parents.length = 2
   ·right
    rcases (h1 1 (by omega)).2 with h5 | h5
    ·omega
    ·exact fun e => h5 e.symm
   ·exact .inl h0
 rw [Bool.eq_iff_iff, a4e, a1j]
 simp only [h]
 exact ⟨fun ⟨a, b, c⟩ => ⟨b, c, a⟩, fun ⟨b, c, a⟩ => ⟨a, b, c⟩⟩
def a8F : Con := .fn 26 (List Str × List Str) (fun a => [.sl true 1 (a0a a.1), .sl true 1 (a0a a.2)]) (fun _ => True) (fun a => .bool (decide (a.1 = a.2))) (fun _ => [])
theorem b0E : Has Tryz.prog 228 a8F := by
 refine a0e mixed a0i HasL.nil [0, 1, 4, 5] ((fun a n (_ : Nat) => (fun a _ => ⟨Nat, fun i => ⟨[(0, true, .sl true 1 (a0a a.1)), (1, true, .sl true 1 (a0a a.2)), (4, true, .bool false), (5, true, .int .i64 i)], []⟩, fun i => i <= a.1.length /\ a.1.length = a.2.length /\ a.1.take i = a.2.take i, fun i => a.1.length - i⟩) a n)) [] Tryz.func228 (by unfold Tryz.f228; rfl) (fun _ => ⟨(), trivial⟩) ?_
 intro a _
 obtain ⟨l, r⟩ := a
 simp -implicitDefEqProofs [a8F, Con.fn, tTab]
 try dsimp only
 try simp +contextual -implicitDefEqProofs [eStr, a0y, a0s, a0z, a0t, List.getElem?_eq_getElem, a0u, a0p, a0r, a0q, <- a0h, <- a0f, a0m, a0n, a0l, a0k, a0o, a0j, and_assoc]
 repeat' (first | intro _ | apply And.intro)
 all_goals first | omega | grind [a0A, a4D, a3r]
def getL : List FileD -> Str -> List Str × Bool
 | [], _ => ([], false)
 | f :: l, p => if f.path = p then (f.text, true) else getL l p
def b4c : Con := .fn 25 (List FileD × Str) (fun a => [.sl true 2 (a0c a.1), .str a.2]) (fun _ => True) (fun a => .tup [.sl true 1 (a0a (getL a.1 a.2).1), .bool (getL a.1 a.2).2]) (fun _ => [])
theorem c1d : Has Tryz.prog 112 b4c := by
 refine a0e mixed a0i HasL.nil [0, 1, 4, 5, 6] ((fun a n (_ : Nat) => (fun a _ => ⟨Nat, fun i => ⟨[(0, true, .sl true 2 (a0c a.1)), (1, true, .str a.2), (4, true, .nil), (5, true, .bool false), (6, true, .int .i64 i)], []⟩, fun i => i <= a.1.length /\ getL (a.1.drop i) a.2 = getL a.1 a.2, fun i => a.1.length - i⟩) a n)) [] Tryz.func112 (by unfold Tryz.f112; rfl) (fun _ => ⟨(), trivial⟩) ?_
 intro a _
 obtain ⟨t, p⟩ := a
 have e1 : ∀ i (h : i < t.length), getL (t.drop i) p = if t[i].path = p then (t[i].text, true) else getL (t.drop (i + 1)) p := fun i h => by rw [List.drop_eq_getElem_cons h]; rfl
 have e2 : ∀ i, t.length <= i -> getL (t.drop i) p = ([], false) := fun i h => by rw [List.drop_eq_nil_of_le h]; rfl
 simp -implicitDefEqProofs [b4c, Con.fn, tTab]
 try dsimp only
 refine fun i hi hpre _ => ⟨fun hlt => ?_, fun hge => ?_⟩
 ·have g := e1 i hlt
  rw [hpre] at g
  simp -implicitDefEqProofs [hlt, a0y, D.asStr, D.asRows, and_assoc]
  refine ⟨fun h => ?_, fun h => ⟨by omega, by omega, fun _ _ => ⟨i + 1, by omega, by omega, ?_, by omega⟩⟩⟩
  ·rw [g, if_pos h]; exact ⟨rfl, rfl⟩
  ·rw [g, if_neg h]
 ·rw [<- hpre, e2 i hge]; exact ⟨rfl, rfl⟩
def atL : List HeadD -> Str -> Int
 | [], _ => -1
 | h :: l, n => if h.name = n then h.at_ else atL l n
def b0j : Con := .fn 27 (RepoD × Str) (fun a => [a1x a.1, .str a.2]) (fun _ => True) (fun a => .int .i64 (atL a.1.heads a.2)) (fun _ => [])
theorem a9L : Has Tryz.prog 90 b0j := by
 refine a0e mixed a0i HasL.nil [0, 1, 2, 4, 5] ((fun a n (_ : Nat) => (fun a _ => ⟨Nat, fun i => ⟨[(1, true, .str a.2), (2, true, .ptr 10 0), (4, true, .int .i64 0), (5, true, .int .i64 i)], [(10, a2p a.1)]⟩, fun i => i <= a.1.heads.length /\ atL (a.1.heads.drop i) a.2 = atL a.1.heads a.2, fun i => a.1.heads.length - i⟩) a n)) [] Tryz.func90 (by unfold Tryz.f90; rfl) (fun _ => ⟨(), trivial⟩) ?_
 intro a _
 obtain ⟨r, p⟩ := a
 have e1 : ∀ i (h : i < r.heads.length), atL (r.heads.drop i) p = if r.heads[i].name = p then r.heads[i].at_ else atL (r.heads.drop (i + 1)) p := fun i h => by rw [List.drop_eq_getElem_cons h]; rfl
 have e2 : ∀ i, r.heads.length <= i -> atL (r.heads.drop i) p = -1 := fun i h => by rw [List.drop_eq_nil_of_le h]; rfl
 simp -implicitDefEqProofs [b0j, Con.fn, tTab, a0V]
 try dsimp only
 refine fun i hi hpre _ => ⟨fun hlt => ?_, fun hge => by rw [<- hpre, e2 i hge]⟩
 have g := e1 i hlt
 rw [hpre] at g
 simp -implicitDefEqProofs [hlt, a0R, D.asStr, D.asInt, and_assoc]
 refine ⟨fun h => ?_, fun h => ⟨by omega, by omega, fun _ _ => ⟨i + 1, by omega, by omega, ?_, by omega⟩⟩⟩
 ·rw [g, if_pos h]
 ·rw [g, if_neg h]
def lcs : List Str -> List Str -> Int
 | [], _ => 0
 | _ :: _, [] => 0
 | x :: a, y :: b => if x = y then lcs a b + 1 else if lcs (x :: a) b <= lcs a (y :: b) then lcs a (y :: b) else lcs (x :: a) b
termination_by a b => a.length + b.length
def eRow (r : List Int) : List D := [.sl 3 1 (a0d r)]
def a0T (t : List (List Int)) : List (List D) := t.map eRow
@[simp] theorem eRows_length (l : List (List Int)) : (a0T l).length = l.length := by simp -implicitDefEqProofs [a0T]
@[simp] theorem eRows_nil : a0T [] = [] := rfl
@[simp] theorem eRows_get (l : List (List Int)) (i : Nat) : (a0T l)[i]? = l[i]?.map eRow := by simp -implicitDefEqProofs [a0T]
def tabF (a b : List Str) (p q : Nat) : List (List Int) := (List.range (a.length + 1)).map fun r => (List.range (b.length + 1)).map fun c => if p <= r \/ (r + 1 = p /\ q <= c) then lcs (a.drop r) (b.drop c) else 0
theorem b5o (i n : Nat) : a0T (List.replicate (i + 1) (List.replicate (n + 1) 0)) = a0T (List.replicate i (List.replicate (n + 1) 0)) ++ [[D.sl 3 1 (List.replicate (n + 1) [D.int .i64 0])]] := by
 rw [List.replicate_succ']
 simp -implicitDefEqProofs [a0T, eRow, a0d, eInt]
theorem a8X {a b : List Str} {p q : Nat} : (tabF a b p q).length = a.length + 1 := by simp -implicitDefEqProofs [tabF]
def tabR (a b : List Str) (p q r : Nat) : List Int := (List.range (b.length + 1)).map fun c => if p <= r \/ (r + 1 = p /\ q <= c) then lcs (a.drop r) (b.drop c) else 0
theorem a4f {a b : List Str} {p q r : Nat} (h : r <= a.length) : (tabF a b p q)[r]? = some (tabR a b p q r) := by
 simp -implicitDefEqProofs [tabF, tabR, List.getElem?_map, List.getElem?_range (show r < a.length + 1 by omega)]
theorem c1o (b : List Str) : lcs [] b = 0 := by rw [lcs]
theorem c1p (a : List Str) : lcs a [] = 0 := by cases a <;> rw [lcs]
theorem a6a {a b : List Str} {i : Nat} (h : a.length + 1 = i) : tabF a b a.length (b.length + 1) = List.replicate i (List.replicate (b.length + 1) 0) := by
 subst h
 apply List.ext_getElem
 ·simp -implicitDefEqProofs [tabF]
 ·intro r h1 h2
  apply List.ext_getElem
  ·simp -implicitDefEqProofs [tabF]
  ·intro c h3 h4
   simp only [tabF, List.getElem_map, List.getElem_range, List.getElem_replicate]
   split
   ·rename_i h5
    have h6 : a.drop r = [] := by
     rcases h5 with h5 | ⟨_, h5⟩
     ·exact List.drop_eq_nil_of_le h5
     ·simp -implicitDefEqProofs [tabF] at h3; omega
    rw [h6, c1o]
   ·rfl
theorem a8W {a b : List Str} {p : Nat} : tabF a b p b.length = tabF a b p (b.length + 1) := by
 unfold tabF
 apply List.map_congr_left
 intro r _
 apply List.map_congr_left
 intro c hc
 have hc : c < b.length + 1 := by simpa using hc
 by_cases h : p <= r
 ·rw [if_pos (.inl h), if_pos (.inl h)]
 ·by_cases h2 : r + 1 = p /\ b.length <= c
  ·rw [if_pos (.inr h2), if_neg (by omega), List.drop_eq_nil_of_le h2.2, c1p]
  ·rw [if_neg (by omega), if_neg (by omega)]
theorem a7u {a b : List Str} {p : Nat} (h : 0 < p) : tabF a b (p - 1) (b.length + 1) = tabF a b p 0 := by
 unfold tabF
 apply List.map_congr_left
 intro r _
 apply List.map_congr_left
 intro c hc
 have hc : c < b.length + 1 := by simpa using hc
 by_cases h2 : p <= r + 1
 ·rw [if_pos (.inl (by omega)), if_pos (by omega)]
 ·rw [if_neg (by omega), if_neg (by omega)]
theorem b5E {a b : List Str} {q : Nat} : tabF a b 0 q = tabF a b 0 0 := by
 unfold tabF
 apply List.map_congr_left
 intro r _
 apply List.map_congr_left
 intro c _
 rw [if_pos (.inl (Nat.zero_le _)), if_pos (.inl (Nat.zero_le _))]
theorem a3K {a b : List Str} {p q r : Nat} : (tabR a b p q r).length = b.length + 1 := by simp -implicitDefEqProofs [tabR]
theorem a2Y {a b : List Str} {p q r c : Nat} (h : c <= b.length) : (tabR a b p q r)[c]? = some (if p <= r \/ (r + 1 = p /\ q <= c) then lcs (a.drop r) (b.drop c) else 0) := by
 simp -implicitDefEqProofs [tabR, List.getElem?_map, List.getElem?_range (show c < b.length + 1 by omega)]
theorem a6w (a b : List Str) : 0 <= lcs a b /\ lcs a b <= a.length := by
 fun_induction lcs a b
 ·simp
 ·simp; omega
 ·simp_all; omega
 ·simp_all; omega
 ·simp_all
theorem b4Q {a b : List Str} {p q : Nat} (hp : 0 < p) (hp2 : p <= a.length) (hq : 0 < q) (hq2 : q <= b.length) : lcs (a.drop (p - 1)) (b.drop (q - 1)) = if a[p - 1] = b[q - 1] then lcs (a.drop p) (b.drop q) + 1 else if lcs (a.drop (p - 1)) (b.drop q) <= lcs (a.drop p) (b.drop (q - 1)) then lcs (a.drop p) (b.drop (q - 1)) else lcs (a.drop (p - 1)) (b.drop q) := by
 have e1 : a.drop (p - 1) = a[p - 1] :: a.drop p := by rw [List.drop_eq_getElem_cons (show p - 1 < a.length by omega), show p - 1 + 1 = p by omega]
 have e2 : b.drop (q - 1) = b[q - 1] :: b.drop q := by rw [List.drop_eq_getElem_cons (show q - 1 < b.length by omega), show q - 1 + 1 = q by omega]
 rw [e1, e2, lcs]
theorem b7s {a b : List Str} {p q : Nat} (hp : 0 < p) (hp2 : p <= a.length) (hq : 0 < q) (hq2 : q <= b.length) : ∀ v, v = lcs (a.drop (p - 1)) (b.drop (q - 1)) -> (a0T (tabF a b p q)).set (p - 1) [D.sl 3 1 ((a0d (tabR a b p q (p - 1))).set (q - 1) [D.int .i64 v])] = a0T (tabF a b p (q - 1)) := by
 intro v hv
 have e : (tabF a b p q).set (p - 1) ((tabR a b p q (p - 1)).set (q - 1) v) = tabF a b p (q - 1) := by
  apply List.ext_getElem
  ·simp -implicitDefEqProofs [tabF]
  ·intro r h1 h2
   rw [List.getElem_set]
   split
   ·rename_i hr
    subst hr
    apply List.ext_getElem
    ·simp -implicitDefEqProofs [tabF, tabR]
    ·intro c h3 h4
     rw [List.getElem_set]
     split
     ·rename_i hc
      subst hc
      simp only [tabF, List.getElem_map, List.getElem_range]
      rw [if_pos (by omega), hv]
     ·rename_i hc
      simp only [tabF, tabR, List.getElem_map, List.getElem_range]
      by_cases h : p <= p - 1 \/ (p - 1 + 1 = p /\ q <= c)
      ·rw [if_pos h, if_pos (by omega)]
      ·rw [if_neg h, if_neg (by omega)]
   ·rename_i hr
    simp only [tabF, List.getElem_map, List.getElem_range]
    apply List.map_congr_left
    intro c _
    by_cases h : p <= r \/ (r + 1 = p /\ q <= c)
    ·rw [if_pos h, if_pos (by omega)]
    ·rw [if_neg h, if_neg (by omega)]
 rw [<- e]
 simp -implicitDefEqProofs [a0T, eRow, a0d, List.map_set, eInt]
def l1tA (a b : List Str) : Inv := ⟨Nat, fun i => ⟨[(0, true, .sl true 1 (a0a a)), (1, true, .sl true 1 (a0a b)), (4, true, .nil), (5, true, .own 9 1 (a0T (List.replicate i (List.replicate (b.length + 1) 0)))), (6, true, .int .i64 i)], [(9, .own 32 1 true (a0T (List.replicate i (List.replicate (b.length + 1) 0))))]⟩, fun i => i <= a.length + 1, fun i => a.length + 1 - i⟩
def l1tB (a b : List Str) : Inv := ⟨Nat, fun p => ⟨[(0, true, .sl true 1 (a0a a)), (1, true, .sl true 1 (a0a b)), (4, true, .nil), (5, true, .own 9 1 (a0T (tabF a b p (b.length + 1)))), (7, true, .int .i64 ((p : Int) - 1))], [(9, .own 32 1 true (a0T (tabF a b p (b.length + 1))))]⟩, fun p => p <= a.length, fun p => p⟩
def l1tC (a b : List Str) (g : Nat) : Inv := ⟨Nat, fun q => ⟨[(0, true, .sl true 1 (a0a a)), (1, true, .sl true 1 (a0a b)), (4, true, .nil), (5, true, .own 9 1 (a0T (tabF a b g q))), (7, true, .int .i64 ((g : Int) - 1)), (8, true, .int .i64 ((q : Int) - 1))], [(9, .own 32 1 true (a0T (tabF a b g q)))]⟩, fun q => q <= b.length /\ 0 < g /\ g <= a.length, fun q => q⟩
def b0F (a b : List Str) (n g : Nat) : Inv := if n = 3 then l1tA a b else if n = 7 then l1tB a b else l1tC a b g
theorem c3D (a b g) : b0F a b 3 g = l1tA a b := rfl
theorem c3E (a b g) : b0F a b 7 g = l1tB a b := rfl
theorem c1b (a b g) : b0F a b 10 g = l1tC a b g := rfl
def a9v : Con := .fn 110 (List Str × List Str) (fun a => [.sl true 1 (a0a a.1), .sl true 1 (a0a a.2)]) (fun a => a.1.length <= 1048576 /\ a.2.length <= 1048576) (fun a => .own 8 1 (a0T (tabF a.1 a.2 0 0))) (fun a => [(8, .own 32 1 true (a0T (tabF a.1 a.2 0 0)))])
theorem b6m : Has Tryz.prog 113 a9v := by
 refine a0e mixed a0i HasL.nil [0, 1, 4, 5, 6, 7, 8] (fun a => b0F a.1 a.2) [] Tryz.func113 (by unfold Tryz.f113; rfl) (fun _ => ⟨(), trivial⟩) ?_
 intro a ha
 obtain ⟨a, b⟩ := a
 obtain ⟨h1, h2⟩ : a.length <= 1048576 /\ b.length <= 1048576 := ha
 simp (maxSteps := 4000000) [a9v, Con.fn, tTab, c3D, c3E, c1b, l1tA, l1tB, l1tC]
 try dsimp only
 refine ⟨⟨0, by simp⟩, fun i hi _ => ⟨fun hlt _ => ⟨by omega, fun _ _ => ⟨by omega, fun _ _ _ => ⟨by omega, by omega, fun _ _ => ⟨i + 1, ⟨⟨?_, by omega⟩, ?_⟩, by omega, by omega⟩⟩⟩⟩, fun hge _ => ⟨by omega, fun _ _ => ⟨⟨a.length, ⟨⟨?_, rfl⟩, ?_⟩, Nat.le_refl _⟩, fun p hp => ⟨fun h1p _ => ⟨by omega, fun _ _ => ⟨p, ⟨b.length, ⟨⟨?_, rfl, rfl⟩, ?_⟩, Nat.le_refl _, by omega, hp⟩, fun q hq hg hga => ⟨fun hq1 => ?_, fun hq0 => ⟨by omega, fun _ _ => ⟨p - 1, ⟨⟨?_, by omega⟩, ?_⟩, by omega, by omega⟩⟩⟩⟩⟩, fun hp0 => ?_⟩⟩⟩⟩⟩
 ·rw [b5o]
 ·rw [b5o]
 ·rw [a6a (show a.length + 1 = i by omega)]
 ·rw [a6a (show a.length + 1 = i by omega)]
 ·rw [a8W]
 ·rw [a8W]
 ·obtain ⟨T, hT⟩ : ∃ T, T = tabF a b p q := ⟨_, rfl⟩
  have t1 := @a8X a b p q
  have t2 := a4f (a := a) (b := b) (p := p) (q := q) (r := p) (by omega)
  have t3 := a4f (a := a) (b := b) (p := p) (q := q) (r := p - 1) (by omega)
  have t4 : a[p - 1]? = some a[p - 1] := List.getElem?_eq_getElem (by omega)
  have t5 : b[q - 1]? = some b[q - 1] := List.getElem?_eq_getElem (by omega)
  have u1 := @a3K a b p q p
  have u2 := @a3K a b p q (p - 1)
  have u3 : (tabR a b p q p)[q]? = some (lcs (a.drop p) (b.drop q)) := by rw [a2Y (by omega), if_pos (by omega)]
  have u4 : (tabR a b p q p)[q - 1]? = some (lcs (a.drop p) (b.drop (q - 1))) := by rw [a2Y (by omega), if_pos (by omega)]
  have u5 : (tabR a b p q (p - 1))[q]? = some (lcs (a.drop (p - 1)) (b.drop q)) := by rw [a2Y (by omega), if_pos (by omega)]
  have v1 := a6w (a.drop p) (b.drop q)
  have v2 := a6w (a.drop p) (b.drop (q - 1))
  have v3 := a6w (a.drop (p - 1)) (b.drop q)
  have v4 : (a.drop p).length <= a.length := by simp
  have v5 : (a.drop (p - 1)).length <= a.length := by simp
  have w1 := b7s (a := a) (b := b) (p := p) (q := q) hg hga (by omega) hq
  have w2 := b4Q (a := a) (b := b) (p := p) (q := q) hg hga (by omega) hq
  rw [<- hT] at t1 t2 t3 w1 ⊢
  clear hT
  generalize lcs (a.drop p) (b.drop q) = L11 at *
  generalize lcs (a.drop p) (b.drop (q - 1)) = L10 at *
  generalize lcs (a.drop (p - 1)) (b.drop q) = L01 at *
  generalize tabR a b p q p = rB at *
  generalize tabR a b p q (p - 1) = rA at *
  simp -implicitDefEqProofs [t1, t2, t3, t4, t5, u1, u2, u3, u4, u5, eInt, eStr, D.asStr, eRow, D.asRows, D.asInt, and_assoc]
  have fin : ∀ v, v = lcs (a.drop (p - 1)) (b.drop (q - 1)) -> ∃ t', a0T (tabF a b p t') = (a0T T).set (p - 1) [D.sl 3 1 ((a0d rA).set (q - 1) [D.int .i64 v])] /\ (t' : Int) = q - 1 /\ (a0T T).set (p - 1) [D.sl 3 1 ((a0d rA).set (q - 1) [D.int .i64 v])] = a0T (tabF a b p t') /\ t' <= b.length /\ 0 < p /\ p <= a.length /\ t' < q :=
   fun v hv => ⟨q - 1, (w1 v hv).symm, by omega, w1 v hv, by omega, hg, hga, by omega⟩
  repeat' (first | intro _ | apply And.intro)
  all_goals first | omega | exact fin _ (by rw [w2, if_pos (by assumption)]) | exact fin _ (by rw [w2, if_neg (by assumption), if_pos (by assumption)]) | exact fin _ (by rw [w2, if_neg (by assumption), if_neg (by omega)])
 ·rw [show q = 0 by omega, a7u (by omega)]
 ·rw [show q = 0 by omega, a7u (by omega)]
 ·rw [show p = 0 by omega, b5E]; exact ⟨rfl, rfl⟩
def mt : List Str -> List Str -> Nat -> List Int
 | [], _, _ => []
 | _ :: a, [], k => -1 :: mt a [] k
 | x :: a, y :: b, k => if x = y then (k : Int) :: mt a b (k + 1) else if lcs (x :: a) b <= lcs a (y :: b) then -1 :: mt a (y :: b) k else mt (x :: a) b (k + 1)
termination_by a b => a.length + b.length
theorem a6x (a b : List Str) (k : Nat) : (mt a b k).length = a.length := by
 fun_induction mt a b k <;> simp_all
theorem c1B {a b : List Str} {i k : Nat} (h : i < a.length) (hk : b.length <= k) : mt (a.drop i) (b.drop k) k = -1 :: mt (a.drop (i + 1)) (b.drop k) k := by
 rw [List.drop_eq_getElem_cons h, List.drop_eq_nil_of_le hk, mt]
theorem b7d {a b : List Str} {i k : Nat} (h : i < a.length) (hk : k < b.length) : mt (a.drop i) (b.drop k) k = if a[i] = b[k] then (k : Int) :: mt (a.drop (i + 1)) (b.drop (k + 1)) (k + 1) else if lcs (a.drop i) (b.drop (k + 1)) <= lcs (a.drop (i + 1)) (b.drop k) then -1 :: mt (a.drop (i + 1)) (b.drop k) k else mt (a.drop i) (b.drop (k + 1)) (k + 1) := by
 have e1 : a.drop i = a[i] :: a.drop (i + 1) := List.drop_eq_getElem_cons h
 have e2 : b.drop k = b[k] :: b.drop (k + 1) := List.drop_eq_getElem_cons hk
 rw [e1, e2, mt]
theorem a3Z (o : List Int) (v : Int) : a0d (o ++ [v]) = a0d o ++ [[D.int .i64 v]] := by simp -implicitDefEqProofs [a0d, eInt]
def l1m (a b : List Str) : Inv := ⟨Nat × Nat × List Int, fun t => ⟨[(0, true, .sl true 1 (a0a a)), (1, true, .sl true 1 (a0a b)), (4, true, .nil), (5, true, .own 9 1 (a0T (tabF a b 0 0))), (6, true, .own 10 1 (a0d t.2.2)), (7, true, .int .i64 t.2.1), (8, true, .int .i64 t.1)], [(9, .own 32 1 true (a0T (tabF a b 0 0))), (10, .own 3 1 true (a0d t.2.2))]⟩,
 fun t => t.1 <= a.length /\ t.2.1 <= b.length /\ t.2.2.length = t.1 /\ t.2.2 ++ mt (a.drop t.1) (b.drop t.2.1) t.2.1 = mt a b 0, fun t => (a.length - t.1) + (b.length - t.2.1)⟩
def a9u : Con := .fn 73 (List Str × List Str) (fun a => [.sl true 1 (a0a a.1), .sl true 1 (a0a a.2)]) (fun a => a.1.length <= 1048576 /\ a.2.length <= 1048576) (fun a => .own 8 1 (a0d (mt a.1 a.2 0))) (fun a => a2J 8 (mt a.1 a.2 0))
theorem b6l : Has Tryz.prog 229 a9u := by
 refine a0e mixed a0i (HasL.cons b6m HasL.nil) [0, 1, 4, 5, 6, 7, 8] ((fun a n (_ : Nat) => (fun a _ => l1m a.1 a.2) a n)) [] Tryz.func229 (by unfold Tryz.f229; rfl) (fun _ => ⟨(), trivial⟩) ?_
 intro a ha
 obtain ⟨a, b⟩ := a
 obtain ⟨h1, h2⟩ : a.length <= 1048576 /\ b.length <= 1048576 := ha
 simp (maxSteps := 4000000) [a9u, a9v, Con.fn, tTab, l1m]
 try dsimp only
 refine ⟨a, b, ⟨rfl, rfl⟩, ⟨h1, h2⟩, ⟨0, 0, [], ⟨⟨rfl, rfl, rfl, rfl⟩, rfl, rfl⟩, Nat.zero_le _, Nat.zero_le _, rfl, by simp⟩, fun i k out hi hk hl hm _ => ⟨fun hlt => ?_, fun hge => ?_⟩⟩
 ·have t1 := @a8X a b 0 0
  have t2 := a4f (a := a) (b := b) (p := 0) (q := 0) (r := i) (by omega)
  have t3 := a4f (a := a) (b := b) (p := 0) (q := 0) (r := i + 1) (by omega)
  have u1 := @a3K a b 0 0 i
  have u2 := @a3K a b 0 0 (i + 1)
  have t4 : a[i]? = some a[i] := List.getElem?_eq_getElem hlt
  have m0 := c1B (a := a) (b := b) (i := i) (k := k) hlt
  rcases Nat.lt_or_ge k b.length with hkb | hkb
  ·have t5 : b[k]? = some b[k] := List.getElem?_eq_getElem hkb
   have u3 : (tabR a b 0 0 (i + 1))[k]? = some (lcs (a.drop (i + 1)) (b.drop k)) := by rw [a2Y (by omega), if_pos (by omega)]
   have u4 : (tabR a b 0 0 i)[k + 1]? = some (lcs (a.drop i) (b.drop (k + 1))) := by rw [a2Y (by omega), if_pos (by omega)]
   have m1 := b7d (a := a) (b := b) (i := i) (k := k) hlt hkb
   generalize tabF a b 0 0 = T at *
   generalize tabR a b 0 0 i = rA at *
   generalize tabR a b 0 0 (i + 1) = rB at *
   generalize lcs (a.drop (i + 1)) (b.drop k) = L1 at *
   generalize lcs (a.drop i) (b.drop (k + 1)) = L2 at *
   have g1 : ¬ b.length <= k := by omega
   obtain ⟨_, u6⟩ := List.getElem?_eq_some_iff.1 u4
   simp -implicitDefEqProofs [hkb, g1, t1, t2, t3, t4, t5, u1, u2, u3, u4, u6, eInt, eStr, D.asStr, eRow, D.asRows, D.asInt, and_assoc]
   refine ⟨hlt, fun _ => ⟨fun e => ⟨by omega, by omega, by omega, by omega, fun _ _ => ⟨by omega, by omega, fun _ _ => ⟨i + 1, k + 1, out ++ [(k : Int)], a3Z _ _, by omega, by omega, (a3Z _ _).symm, by omega, by omega, by simp -implicitDefEqProofs [hl], ?_, by omega⟩⟩⟩, fun e => ⟨by omega, by omega, fun _ _ => ⟨by omega, by omega, fun _ _ => ⟨by omega, fun _ => ⟨by omega, fun _ => ⟨by omega, by omega, fun _ _ => ⟨by omega, fun _ => ⟨fun c => ⟨by omega, by omega, by omega, by omega, fun _ _ => ⟨i + 1, k, out ++ [-1], a3Z _ _, by omega, by omega, (a3Z _ _).symm, by omega, by omega, by simp -implicitDefEqProofs [hl], ?_, by omega⟩⟩, fun c => ⟨by omega, by omega, fun _ _ => ⟨i, k + 1, by omega, by omega, by omega, by omega, hl, ?_, by omega⟩⟩⟩⟩⟩⟩⟩⟩⟩⟩⟩
   ·rw [<- hm, m1, if_pos e]; simp
   ·rw [<- hm, m1, if_neg e, if_pos c]; simp
   ·rw [<- hm, m1, if_neg e, if_neg (by omega)]
  ·have g1 : ¬ k < b.length := by omega
   simp -implicitDefEqProofs [hkb, g1, t4, eStr, D.asStr, and_assoc]
   refine ⟨by omega, by omega, by omega, by omega, fun _ _ => ⟨i + 1, k, out ++ [-1], a3Z _ _, by omega, by omega, (a3Z _ _).symm, by omega, by omega, by simp -implicitDefEqProofs [hl], ?_, by omega⟩⟩
   rw [<- hm, m0 (by omega)]; simp
 ·rw [List.drop_eq_nil_of_le hge, mt, List.append_nil] at hm
  exact ⟨hm.symm, hm⟩
structure PartD where
 clash : Bool
 lines : List Str
 old : List Str
 one : List Str
 two : List Str
 deriving DecidableEq, Inhabited
def a1D (a : PartD) : List D := [.bool a.clash, .sl 9 1 (a0a a.lines), .sl 9 1 (a0a a.old), .sl 9 1 (a0a a.one), .sl 9 1 (a0a a.two)]
@[simp] theorem ePart_inj (a b : PartD) : (a1D a = a1D b) = (a = b) := by
 cases a; cases b; simp -implicitDefEqProofs [a1D]
@[simp] theorem PartD.eta (a : PartD) : (⟨a.clash, a.lines, a.old, a.one, a.two⟩ : PartD) = a := rfl
theorem PartD.eq_iff (a b : PartD) : (a = b) = (a.clash = b.clash /\ a.lines = b.lines /\ a.old = b.old /\ a.one = b.one /\ a.two = b.two) := by
 cases a; cases b; simp
@[simp] theorem PartD.ex1 (x_clash : Bool) (x_lines : List Str) (x_old : List Str) (x_one : List Str) (x_two : List Str) (Q : PartD -> Prop) : (∃ a : PartD, a.clash = x_clash /\ a.lines = x_lines /\ a.old = x_old /\ a.one = x_one /\ a.two = x_two /\ Q a) = Q ⟨x_clash, x_lines, x_old, x_one, x_two⟩ := by
 apply propext
 constructor
 ·rintro ⟨⟨_, _, _, _, _⟩, rfl, rfl, rfl, rfl, rfl, h⟩; exact h
 ·intro h; exact ⟨⟨x_clash, x_lines, x_old, x_one, x_two⟩, rfl, rfl, rfl, rfl, rfl, h⟩
@[simp] theorem PartD.ex2 (x_clash : Bool) (x_lines : List Str) (x_old : List Str) (x_one : List Str) (x_two : List Str) (Q : PartD -> Prop) : (∃ a : PartD, (a.clash = x_clash /\ a.lines = x_lines /\ a.old = x_old /\ a.one = x_one /\ a.two = x_two) /\ Q a) = Q ⟨x_clash, x_lines, x_old, x_one, x_two⟩ := by
 apply propext
 constructor
 ·rintro ⟨⟨_, _, _, _, _⟩, ⟨rfl, rfl, rfl, rfl, rfl⟩, h⟩; exact h
 ·intro h; exact ⟨⟨x_clash, x_lines, x_old, x_one, x_two⟩, ⟨rfl, rfl, rfl, rfl, rfl⟩, h⟩
@[simp] theorem PartD.ex0 (x_clash : Bool) (x_lines : List Str) (x_old : List Str) (x_one : List Str) (x_two : List Str) : (∃ a : PartD, a.clash = x_clash /\ a.lines = x_lines /\ a.old = x_old /\ a.one = x_one /\ a.two = x_two) = True := by
 simp only [eq_iff_iff, iff_true]
 exact ⟨⟨x_clash, x_lines, x_old, x_one, x_two⟩, rfl, rfl, rfl, rfl, rfl⟩
def a0x (l : List PartD) : List (List D) := l.map a1D
@[simp] theorem eParts_length (l : List PartD) : (a0x l).length = l.length := by simp -implicitDefEqProofs [a0x]
@[simp] theorem eParts_nil : a0x [] = [] := rfl
@[simp] theorem eParts_get (l : List PartD) (i : Nat) : (a0x l)[i]? = l[i]?.map a1D := by simp -implicitDefEqProofs [a0x]
@[simp] theorem eParts_getElem (l : List PartD) (i : Nat) (h : i < (a0x l).length) : (a0x l)[i] = a1D (l[i]'(by simpa using h)) := by simp -implicitDefEqProofs [a0x]
@[simp] theorem eParts_inj (a b : List PartD) : (a0x a = a0x b) = (a = b) := by
 apply propext
 constructor
 ·intro h
  exact List.map_inj_right (fun x y h => by simpa using h) |>.1 h
 ·rintro rfl; rfl
@[simp] theorem eParts_eq_nil (a : List PartD) : (a0x a = []) = (a = []) := by simp -implicitDefEqProofs [a0x]
@[simp] theorem nil_eq_eParts (a : List PartD) : ([] = a0x a) = (a = []) := by simp -implicitDefEqProofs [a0x, eq_comm]
theorem b2X (a b : List PartD) : a0x (a ++ b) = a0x a ++ a0x b := by simp -implicitDefEqProofs [a0x]
abbrev a9O (h : Nat) (a : List PartD) : List (Nat × Blk) := [(h, .own 122 5 true (a0x a))]
def a0U (o a b : List Str) : PartD := if a = o \/ a = b then ⟨false, b, [], [], []⟩ else if b = o then ⟨false, a, [], [], []⟩ else ⟨true, [], o, a, b⟩
theorem a9g (o a b : List Str) : (a0U o a b).lines.length <= a.length + b.length := by
 unfold a0U
 split
 ·simp
 ·split <;> simp
def put3 (l : List PartD) (p : PartD) : List PartD :=
 if p.clash = false /\ p.lines = [] then l
 else match l.getLast? with
  | some q => if p.clash = false /\ q.clash = false then l.set (l.length - 1) ⟨q.clash, q.lines ++ p.lines, q.old, q.one, q.two⟩ else l ++ [p]
  | none => l ++ [p]
theorem a7p (l : List PartD) (p : PartD) : (put3 l p).length <= l.length + 1 := by
 unfold put3
 split
 ·omega
 ·split
  ·split <;> simp
  ·simp
theorem a8R {l : List PartD} {p : PartD} {n : Nat} (h : ∀ q ∈ l, q.lines.length <= n) : ∀ q ∈ put3 l p, q.lines.length <= n + p.lines.length := by
 intro q hq
 unfold put3 at hq
 split at hq
 ·have := h q hq; omega
 ·split at hq
  ·rename_i r hr
   split at hq
   ·rcases List.mem_or_eq_of_mem_set hq with hq | hq
    ·have := h q hq; omega
    ·subst hq
     have := h r (List.mem_of_getLast? hr)
     simp; omega
   ·rcases List.mem_append.1 hq with hq | hq
    ·have := h q hq; omega
    ·simp at hq; subst hq; omega
  ·rcases List.mem_append.1 hq with hq | hq
   ·have := h q hq; omega
   ·simp at hq; subst hq; omega
def asc : Int -> Int -> List Int -> Prop
 | _, _, [] => True
 | k, n, x :: l => (x < 0 /\ asc k n l) \/ (k <= x /\ x < n /\ asc (x + 1) n l)
theorem a6N : ∀ {l : List Int} {k k' n : Int}, k <= k' -> asc k' n l -> asc k n l
 | [], _, _, _, _, _ => trivial
 | x :: l, k, k', n, h, h2 => by
  rcases h2 with ⟨h3, h4⟩ | ⟨h3, h4, h5⟩
  ·exact .inl ⟨h3, a6N h h4⟩
  ·exact .inr ⟨by omega, h4, h5⟩
theorem a9o : ∀ {l : List Int} {k n : Int}, k <= n -> asc k n l -> asc k (n + 1) (l ++ [n])
 | [], k, n, h, _ => .inr ⟨h, by omega, trivial⟩
 | x :: l, k, n, h, h2 => by
  rcases h2 with ⟨h3, h4⟩ | ⟨h3, h4, h5⟩
  ·exact .inl ⟨h3, a9o h h4⟩
  ·exact .inr ⟨h3, by omega, a9o (by omega) h5⟩
theorem c7w (a b : List Str) (k : Nat) : asc k (k + b.length) (mt a b k) := by
 fun_induction mt a b k with
 | case1 => trivial
 | case2 x a k ih => exact .inl ⟨by omega, ih⟩
 | case3 a y b k ih =>
  refine .inr ⟨by omega, by simp only [List.length_cons]; omega, ?_⟩
  have e : ((k + 1 : Nat) : Int) + b.length = k + (y :: b).length := by simp only [List.length_cons]; omega
  rw [e] at ih
  exact ih
 | case4 x a y b k h h2 ih => exact .inl ⟨by omega, ih⟩
 | case5 x a y b k h1 h2 ih =>
  have e : ((k + 1 : Nat) : Int) + b.length = k + (y :: b).length := by simp only [List.length_cons]; omega
  rw [e] at ih
  exact a6N (by omega) ih
def mtE (a b : List Str) : List Int := mt a b 0 ++ [(b.length : Int)]
theorem a5q (a b : List Str) : (mtE a b).length = a.length + 1 := by simp -implicitDefEqProofs [mtE, a6x]
theorem b7c (a b : List Str) : asc 0 (b.length + 1) (mtE a b) := by
 have h := c7w a b 0
 have := a9o (k := 0) (n := b.length) (by omega) (by simpa using h)
 exact this
theorem a6n {l : List Int} {i : Nat} {k n : Int} (h : i < l.length) (ha : asc k n (l.drop i)) : (l[i] < 0 /\ asc k n (l.drop (i + 1))) \/ (k <= l[i] /\ l[i] < n /\ asc (l[i] + 1) n (l.drop (i + 1))) := by
 rw [List.drop_eq_getElem_cons h] at ha
 exact ha
structure S3 where
 io : Nat
 ia : Nat
 ib : Nat
 out : List PartD
def a5n (o a b : List Str) (x y : Int) (i : Nat) (s : S3) : S3 :=
 if x < 0 \/ y < 0 then s
 else ⟨i + 1, x.toNat + 1, y.toNat + 1,
  if i < o.length then put3 (put3 s.out (a0U ((o.take i).drop s.io) ((a.take x.toNat).drop s.ia) ((b.take y.toNat).drop s.ib))) ⟨false, [o.getD i []], [], [], []⟩
  else put3 s.out (a0U ((o.take i).drop s.io) ((a.take x.toNat).drop s.ia) ((b.take y.toNat).drop s.ib))⟩
def run3 (o a b : List Str) : Nat -> S3
 | 0 => ⟨0, 0, 0, []⟩
 | i + 1 => a5n o a b ((mtE o a).getD i 0) ((mtE o b).getD i 0) i (run3 o a b i)
def of3 (o a b : List Str) : List PartD := (run3 o a b (o.length + 1)).out
def Ok3 (o a b : List Str) (i : Nat) (s : S3) : Prop :=
 s.io <= i /\ s.ia <= a.length + 1 /\ s.ib <= b.length + 1 /\ asc s.ia (a.length + 1) ((mtE o a).drop i) /\ asc s.ib (b.length + 1) ((mtE o b).drop i) /\ s.out.length <= 2 * i /\ ∀ q ∈ s.out, q.lines.length <= s.io + s.ia + s.ib
theorem c7R (o a b : List Str) : Ok3 o a b 0 ⟨0, 0, 0, []⟩ := ⟨by simp, by simp, by simp, by simpa using b7c o a, by simpa using b7c o b, by simp, by simp⟩
theorem c3Y {o a b : List Str} {i : Nat} {s : S3} (hi : i < o.length + 1) (h : Ok3 o a b i s) : Ok3 o a b (i + 1) (a5n o a b ((mtE o a).getD i 0) ((mtE o b).getD i 0) i s) := by
 obtain ⟨h1, h2, h3, h4, h5, h6, h7⟩ := h
 have la := a5q o a
 have lb := a5q o b
 have ga : (mtE o a).getD i 0 = (mtE o a)[i]'(by omega) := by simp -implicitDefEqProofs [List.getD_eq_getElem?_getD, List.getElem?_eq_getElem (show i < (mtE o a).length by omega)]
 have gb : (mtE o b).getD i 0 = (mtE o b)[i]'(by omega) := by simp -implicitDefEqProofs [List.getD_eq_getElem?_getD, List.getElem?_eq_getElem (show i < (mtE o b).length by omega)]
 rw [ga, gb]
 have h4 := a6n (l := mtE o a) (by omega) h4
 have h5 := a6n (l := mtE o b) (by omega) h5
 generalize (mtE o a)[i]'(by omega) = x at *
 generalize (mtE o b)[i]'(by omega) = y at *
 unfold a5n
 split
 ·rename_i hxy
  refine ⟨by omega, h2, h3, ?_, ?_, by omega, h7⟩
  ·rcases h4 with h4 | h4
   ·exact h4.2
   ·exact a6N (by omega) h4.2.2
  ·rcases h5 with h5 | h5
   ·exact h5.2
   ·exact a6N (by omega) h5.2.2
 ·rename_i hxy
  rcases h4 with h4 | ⟨h4, h41, h42⟩
  ·omega
  rcases h5 with h5 | ⟨h5, h51, h52⟩
  ·omega
  have ex : ((x.toNat + 1 : Nat) : Int) = x + 1 := by omega
  have ey : ((y.toNat + 1 : Nat) : Int) = y + 1 := by omega
  have b1 := a9g ((o.take i).drop s.io) ((a.take x.toNat).drop s.ia) ((b.take y.toNat).drop s.ib)
  have b2 := a8R (p := a0U ((o.take i).drop s.io) ((a.take x.toNat).drop s.ia) ((b.take y.toNat).drop s.ib)) h7
  have b3 := a7p s.out (a0U ((o.take i).drop s.io) ((a.take x.toNat).drop s.ia) ((b.take y.toNat).drop s.ib))
  generalize a0U ((o.take i).drop s.io) ((a.take x.toNat).drop s.ia) ((b.take y.toNat).drop s.ib) = p at *
  have b1 : p.lines.length <= (x.toNat - s.ia) + (y.toNat - s.ib) := by
   refine Nat.le_trans b1 ?_
   simp only [List.length_drop, List.length_take]
   omega
  refine ⟨by simp, by simp; omega, by simp; omega, by simpa only [ex] using h42, by simpa only [ey] using h52, ?_, ?_⟩
  ·show (if i < o.length then _ else _ : List PartD).length <= _
   split
   ·have := a7p (put3 s.out p) ⟨false, [o.getD i []], [], [], []⟩
    omega
   ·omega
  ·show ∀ q ∈ (if i < o.length then _ else _ : List PartD), _
   split
   ·intro q hq
    have := a8R (p := ⟨false, [o.getD i []], [], [], []⟩) b2 q hq
    simp at this
    show q.lines.length <= (i + 1) + (x.toNat + 1) + (y.toNat + 1)
    omega
   ·intro q hq
    have := b2 q hq
    show q.lines.length <= (i + 1) + (x.toNat + 1) + (y.toNat + 1)
    omega
theorem a6z (o a b : List Str) : ∀ i, i <= o.length + 1 -> Ok3 o a b i (run3 o a b i)
 | 0, _ => c7R o a b
 | i + 1, h => c3Y (by omega) (a6z o a b i (by omega))
def a1M (l : List PartD) : List Str × Bool := if l.any (·.clash) then ([], false) else if a1c (l.flatMap (·.lines)) then (l.flatMap (·.lines), true) else ([], false)
def rsO (r : RepoD) : Inv := ⟨Nat, fun i => ⟨[(1, true, .ptr 10 0), (2, true, .bool false), (3, true, .int .i64 i)], [(10, a2p r)]⟩, fun i => i <= r.commits.length /\ ∀ j, j < i -> okCS r.commits j = true, fun i => r.commits.length - i⟩
def rsI (r : RepoD) (g : Nat) : Inv := ⟨Nat, fun k => ⟨[(1, true, .ptr 10 0), (2, true, .bool false), (3, true, .int .i64 g), (4, true, .ptr 11 0), (5, true, .int .i64 k)], [(10, a2p r), (11, .box 34 [.sl true 1 (a0d (r.commits.getD g default).parents), .str (r.commits.getD g default).who, .sl true 2 (a0c (r.commits.getD g default).tree)])]⟩,
 fun k => g < r.commits.length /\ k <= (r.commits.getD g default).parents.length /\ (∀ j, j < g -> okCS r.commits j = true) /\ ∀ j, j < k -> oneP g (r.commits.getD g default).parents j = true, fun k => (r.commits.getD g default).parents.length - k⟩
def rsH (r : RepoD) : Inv := ⟨Nat, fun i => ⟨[(1, true, .ptr 10 0), (2, true, .bool false), (6, true, .int .i64 i)], [(10, a2p r)]⟩, fun i => i <= r.heads.length /\ (∀ j, j < r.commits.length -> okCS r.commits j = true) /\ ∀ j, j < i -> okHd r.commits.length r.heads j = true, fun i => r.heads.length - i⟩
def b3F (r : RepoD) (n g : Nat) : Inv := if n = 2 then rsO r else if n = 6 then rsI r g else rsH r
theorem c6x (r : RepoD) (g : Nat) : b3F r 2 g = rsO r := rfl
theorem c6y (r : RepoD) (g : Nat) : b3F r 6 g = rsI r g := rfl
theorem c4B (r : RepoD) (g : Nat) : b3F r 13 g = rsH r := rfl
def b0k : Con := .fn 126 RepoD (fun r => [a1x r]) (fun r => r.commits.length <= 1073741824) (fun r => .bool (a0Q r)) (fun _ => [])
theorem a9N : Has Tryz.prog 60 b0k := by
 refine a0e mixed a0i (HasL.cons a7j (HasL.cons a7k (HasL.cons b4P HasL.nil))) [0, 1, 2, 3, 4, 5, 6] (fun r => b3F r) [] Tryz.func60 (by unfold Tryz.f60; rfl) (fun _ => ⟨(), trivial⟩) ?_
 intro (r : RepoD) hr
 replace hr : r.commits.length <= 1073741824 := hr
 have hN := fun i => @c4y r i
 have hN1 := fun i => @c4c r.commits i
 have hN2 := fun i k => @c4d r.commits i k
 have hY := fun i => @c4e r.commits i
 have hM := fun i => @b2y r.commits.length r.heads i
 have hH := @c1Y r
 simp -implicitDefEqProofs [b0k, Con.fn, tTab, a6o, b3u, a8E, c6x, c6y, c4B, rsO, rsI, rsH, a0V]
 try dsimp only
 refine fun i hi hprev _ => ⟨fun hlt => ?_, fun hge => ?_⟩
 ·have e3 : Option.map a0E r.commits[i]? = some (a0E r.commits[i]) := by simp -implicitDefEqProofs [List.getElem?_eq_getElem hlt]
  have hgc : r.commits.getD i default = r.commits[i] := by simp -implicitDefEqProofs [List.getD_eq_getElem?_getD, hlt]
  have n0 := hN i hlt
  have n1 := hN1 i
  have n2 := hN2 i
  have n3 := hY i
  rw [hgc] at n1 n2 n3
  simp -implicitDefEqProofs [hlt, e3, a0E, D.asStr, D.asRows, a0z, and_assoc]
  try simp only [show r.commits[i]?.getD default = r.commits[i] by simp -implicitDefEqProofs [hlt]]
  generalize r.commits[i] = c at n1 n2 n3 ⊢
  clear hN hN1 hN2 hY hM hH e3 hgc
  refine ⟨hprev, fun t ht _ hinv _ => ⟨fun hlt2 => ?_, fun hge2 => ?_⟩⟩
  ·have qt : Option.map eInt c.parents[t]? = some (eInt c.parents[t]) := by simp -implicitDefEqProofs [List.getElem?_eq_getElem hlt2]
   have q0 : Option.map eInt c.parents[0]? = some (eInt (c.parents[0]'(by omega))) := by simp -implicitDefEqProofs [List.getElem?_eq_getElem (show 0 < c.parents.length by omega)]
   have o : oneP i c.parents t = ((decide (0 <= c.parents[t]) && decide (c.parents[t] <= (i : Int) - 1)) && !(decide (0 < t) && decide (c.parents[t] = c.parents[0]'(by omega)))) := by
    unfold oneP inN
    rw [show c.parents.getD t 0 = c.parents[t] by simp -implicitDefEqProofs [List.getD_eq_getElem?_getD, hlt2], show c.parents.getD 0 0 = c.parents[0]'(by omega) by simp -implicitDefEqProofs [List.getD_eq_getElem?_getD, show 0 < c.parents.length by omega]]
   have n7 : oneP i c.parents t = false -> a0Q r = false := fun h => n0 (n2 t hlt2 h)
   have n8 : oneP i c.parents t = true -> ∀ j, j < t + 1 -> oneP i c.parents j = true := fun h j hj => by
    rcases Nat.lt_or_ge j t with h3 | h3
    ·exact hinv j h3
    ·have : j = t := by omega
     subst this; exact h
   simp -implicitDefEqProofs [qt, q0, eInt, hlt2]
   refine ⟨by omega, by omega, fun _ _ => ⟨fun h => ?_, fun g1 g2 => ⟨fun h0 => ⟨by omega, fun _ => ⟨fun he => n7 (by rw [o]; simp -implicitDefEqProofs [he, h0]), fun he => ⟨by omega, by omega, fun _ _ => ⟨t + 1, rfl, by omega, hprev, n8 (by rw [o]; simp -implicitDefEqProofs [g1, g2, he]), by omega⟩⟩⟩⟩,
    fun h0 => ⟨by omega, by omega, fun _ _ => ⟨t + 1, rfl, by omega, hprev, n8 (by rw [o, show decide (0 < t) = false by simp -implicitDefEqProofs [h0]]; simp -implicitDefEqProofs [g1, g2]), by omega⟩⟩⟩⟩⟩
   have : a0Q r = false := n7 (by rw [o]; simp; omega)
   exact ⟨fun _ => this, fun _ => this⟩
  ·have n9 : okS1 c = false -> a0Q r = false := fun h => n0 (n1 h)
   have n10 : okS1 c = true -> ∀ j, j < i + 1 -> okCS r.commits j = true := fun h j hj => by
    rcases Nat.lt_or_ge j i with h3 | h3
    ·exact hprev j h3
    ·have : j = i := by omega
     subst this
     exact n3 h (fun k hk => hinv k (by omega))
   refine fun _ => ⟨fun h => n9 (by simp -implicitDefEqProofs [okS1]; omega), fun h => ⟨fun hn => n9 (by simp -implicitDefEqProofs [okS1, hn]), fun hn => ⟨fun ht => n9 (by simp -implicitDefEqProofs [okS1, ht]), fun ht => ⟨by omega, by omega, fun _ _ => ⟨i + 1, rfl, by omega, n10 (by simp -implicitDefEqProofs [okS1, hn, ht]; omega), by omega⟩⟩⟩⟩⟩
 ·clear hN hN1 hN2 hY
  have hall : ∀ j, j < r.commits.length -> okCS r.commits j = true := fun j hj => hprev j (by omega)
  refine ⟨hall, fun t ht _ hinv _ => ⟨fun hlt2 => ?_, fun hge2 _ => ?_⟩⟩
  ·generalize hhs : r.heads = hs at *
   have e3 : Option.map a0R hs[t]? = some (a0R hs[t]) := by simp -implicitDefEqProofs [List.getElem?_eq_getElem hlt2]
   have e4 : Option.map a0R hs[t - 1]? = some (a0R (hs[t - 1]'(by omega))) := by simp -implicitDefEqProofs [List.getElem?_eq_getElem (show t - 1 < hs.length by omega)]
   have hh : okHd r.commits.length hs t = (a1m hs[t].name && inN r.commits.length hs[t].at_ && (decide (t = 0) || Go.Op.bytesLess (hs[t - 1]'(by omega)).name hs[t].name)) := by
    unfold okHd
    rw [show hs.getD t default = hs[t] by simp -implicitDefEqProofs [List.getD_eq_getElem?_getD, hlt2], show hs.getD (t - 1) default = hs[t - 1]'(by omega) by simp -implicitDefEqProofs [List.getD_eq_getElem?_getD, show t - 1 < hs.length by omega]]
   have n7 : okHd r.commits.length hs t = false -> a0Q r = false := fun h => hH (hM t hlt2 h)
   have n8 : okHd r.commits.length hs t = true -> ∀ j, j < t + 1 -> okHd r.commits.length hs j = true := fun h j hj => by
    rcases Nat.lt_or_ge j t with h3 | h3
    ·exact hinv j h3
    ·have : j = t := by omega
     subst this; exact h
   have hq := b4S hs[t].name (hs[t - 1]'(by omega)).name
   rw [a4c] at hh
   unfold leqS at hq
   rw [hh] at n7 n8
   unfold inN at n7 n8
   clear hh hH hM
   simp -implicitDefEqProofs [hlt2, e3, e4, a0R, D.asStr, D.asInt, a0z, and_assoc]
   try simp +contextual -implicitDefEqProofs [eStr, a0y, a0s, a0z, a0t, List.getElem?_eq_getElem, a0u, a0p, a0r, a0q, <- a0h, <- a0f, a0m, a0n, a0l, a0k, a0o, a0j, and_assoc, hlt2]
   clear e3 e4 hinv hprev
   repeat' (first | intro _ | apply And.intro)
   all_goals first | omega | grind -ring
  ·have h2 : a1J r.commits.length r.heads = decide (r.heads.length <= 5) := by
    unfold a1J
    have : (List.range r.heads.length).all (okHd r.commits.length r.heads) = true := by
     rw [List.all_eq_true]
     intro j hj
     have hj' : j < r.heads.length := by simpa using hj
     exact hinv j (by omega)
    rw [this, Bool.and_true]
   refine ⟨fun h16 _ => ?_, fun h16 => ?_⟩
   ·rw [Bool.eq_iff_iff, a1j, h2]
    simp only [decide_eq_true_eq]
    exact ⟨fun h => by have := h.2.1; omega, fun h => ⟨hall, by omega, by omega⟩⟩
   ·cases hq : a0Q r with
    | false => rfl
    | true => have := ((a1j r).1 hq).2.2; omega
theorem a4G {r : RepoD} (h : a0L r = true) {i : Nat} (hi : i < r.commits.length) : r.commits[i].parents.length <= 2 /\ (∀ p ∈ r.commits[i].parents, 0 <= p /\ p < (i : Int)) /\ a0I r.commits[i].tree = true := by
 have h1 := ((a4e r).1 h).2.1 i hi
 have hg : r.commits.getD i default = r.commits[i] := by simp -implicitDefEqProofs [List.getD_eq_getElem?_getD, hi]
 simp only [okCI, okI1, hg, Bool.and_eq_true, decide_eq_true_eq, List.all_eq_true, List.mem_range] at h1
 refine ⟨h1.1.1.1.1, fun p hp => ?_, h1.1.2⟩
 obtain ⟨k, hk, rfl⟩ := List.getElem_of_mem hp
 have h2 := h1.2 k hk
 simp only [inN, Bool.and_eq_true, decide_eq_true_eq, List.getD_eq_getElem?_getD, List.getElem?_eq_getElem hk, Option.getD_some] at h2
 omega
theorem a4u {r : RepoD} (h : a0L r = true) : r.commits.length <= 16 := ((a4e r).1 h).1
def b0o : Con := .fn 13 (RepoD × Int) (fun a => [a1x a.1, .int .i64 a.2]) (fun a => 0 <= a.2 /\ a.2 < a.1.commits.length) (fun a => .sl true 2 (a0c (a.1.commits.getD a.2.toNat default).tree)) (fun _ => [])
theorem b2S : Has Tryz.prog 55 b0o := by
 refine a0e mixed a0i HasL.nil [0, 1, 2, 4] ((fun a n (_ : Nat) => (fun _ => a0K) a n)) [] Tryz.func55 (by unfold Tryz.f55; rfl) (fun _ => ⟨(), trivial⟩) ?_
 intro a ha
 obtain ⟨r, n⟩ := a
 obtain ⟨h1, h2⟩ : 0 <= n /\ n < r.commits.length := ha
 have hi : n.toNat < r.commits.length := by omega
 have e : Option.map a0E r.commits[n.toNat]? = some (a0E r.commits[n.toNat]) := by simp -implicitDefEqProofs [hi]
 simp -implicitDefEqProofs [b0o, Con.fn, tTab, e, a0E, hi, h1, h2]
 try dsimp only
 exact fun h => absurd h (by omega)
def a0O (r : RepoD) (a : Int) : List FileD := (r.commits.getD a.toNat default).tree
--TAB a1t
def a1t : List (Nat × TI) := (114, ⟨false, [.sl 4 1], 24, [], 4⟩) :: tTab
theorem a1r : ∀ t ti, get? a1t t = some ti -> TOk Tryz.prog t ti := a8s (by kernel_rfl)
def a1s (b : Bool) : List D := [.bool b]
@[simp] theorem eBool_inj (a b : Bool) : (a1s a = a1s b) = (a = b) := by simp -implicitDefEqProofs [a1s]
def a0B (l : List Bool) : List (List D) := l.map a1s
@[simp] theorem eBools_length (l : List Bool) : (a0B l).length = l.length := by simp -implicitDefEqProofs [a0B]
@[simp] theorem eBools_nil : a0B [] = [] := rfl
@[simp] theorem eBools_get (l : List Bool) (i : Nat) : (a0B l)[i]? = l[i]?.map a1s := by simp -implicitDefEqProofs [a0B]
@[simp] theorem eBools_getElem (l : List Bool) (i : Nat) (h : i < (a0B l).length) : (a0B l)[i] = a1s (l[i]'(by simpa using h)) := by simp -implicitDefEqProofs [a0B]
@[simp] theorem eBools_inj (a b : List Bool) : (a0B a = a0B b) = (a = b) := by
 apply propext
 constructor
 ·intro h
  exact List.map_inj_right (fun x y h => by simpa using h) |>.1 h
 ·rintro rfl; rfl
@[simp] theorem eBools_eq_nil (a : List Bool) : (a0B a = []) = (a = []) := by simp -implicitDefEqProofs [a0B]
@[simp] theorem nil_eq_eBools (a : List Bool) : ([] = a0B a) = (a = []) := by simp -implicitDefEqProofs [a0B, eq_comm]
theorem a1l (l : List Bool) (i : Nat) (b : Bool) : (a0B l).set i [.bool b] = a0B (l.set i b) := by simp -implicitDefEqProofs [a0B, List.map_set, a1s]
theorem a2O (n : Nat) (b : Bool) : List.replicate n [D.bool b] = a0B (List.replicate n b) := by simp -implicitDefEqProofs [a0B, a1s]
abbrev b5f (h : Nat) (a : List Bool) : List (Nat × Blk) := [(h, .own 4 1 true (a0B a))]
def isT (l : List Bool) (i : Nat) : Bool := l.getD i false
def a3a (l : List Bool) (i : Nat) : List Int := ((List.range i).filter (isT l)).map fun j : Nat => (j : Int)
theorem a8d {l : List Bool} {i : Nat} (h : isT l i = true) : a3a l (i + 1) = a3a l i ++ [(i : Int)] := by simp -implicitDefEqProofs [a3a, List.range_succ, h]
theorem a7n {l : List Bool} {i : Nat} (h : isT l i = false) : a3a l (i + 1) = a3a l i := by simp -implicitDefEqProofs [a3a, List.range_succ, h]
theorem a4U (l : List Bool) (i : Nat) : (a3a l i).length <= i := by
 have := List.length_filter_le (isT l) (List.range i)
 simpa [a3a] using this
def a0w (l : List Bool) : List Int := a3a l l.length
theorem listT_mem {l : List Bool} {x : Int} : x ∈ a0w l ↔ ∃ i : Nat, i < l.length /\ isT l i = true /\ x = i := by
 simp only [a0w, a3a, List.mem_map, List.mem_filter, List.mem_range]
 constructor
 ·rintro ⟨i, ⟨h1, h2⟩, rfl⟩; exact ⟨i, h1, h2, rfl⟩
 ·rintro ⟨i, h1, h2, rfl⟩; exact ⟨i, ⟨h1, h2⟩, rfl⟩
def b1H : Con := .fn 20 (List Bool) (fun l => [.sl true 1 (a0B l)]) (fun l => l.length <= 1048576) (fun l => .own 8 1 (a0d (a0w l))) (fun l => a2J 8 (a0w l))
theorem b8P : Has Tryz.prog 144 b1H := by
 refine a0e mixed a1r HasL.nil [0, 2, 3, 4, 5, 6, 7, 8] ((fun a n (_ : Nat) => (fun l _ => ⟨Nat, fun i => ⟨[(2, true, .nil), (3, true, .own 9 1 (a0d (a3a l i))), (6, true, .sl true 1 (a0B l)), (7, true, .int .i64 l.length), (8, true, .int .i64 i)], [(9, .own 3 1 true (a0d (a3a l i)))]⟩, fun i => i <= l.length, fun i => l.length - i⟩) a n)) [] Tryz.func144 (by unfold Tryz.f144; rfl) (fun _ => ⟨(), trivial⟩) ?_
 intro (l : List Bool) (ha : l.length <= 1048576)
 simp -implicitDefEqProofs [b1H, Con.fn, a1t, tTab]
 try dsimp only
 refine fun _ => ⟨⟨0, ⟨⟨rfl, rfl⟩, rfl⟩, Nat.zero_le _⟩, fun i hi => ⟨fun hlt => ?_, fun hge => ?_⟩⟩
 ·have hl := a4U l i
  have hi : isT l i = l[i] := by simp -implicitDefEqProofs [isT, List.getD_eq_getElem?_getD, hlt]
  simp -implicitDefEqProofs [hlt, a1s, D.asBool, and_assoc]
  refine ⟨fun h => ?_, fun h => ?_⟩
  ·have e := a8d (hi.trans h)
   exact ⟨by omega, by omega, by omega, by omega, fun _ _ => ⟨i + 1, by rw [e]; simp -implicitDefEqProofs [a0d, eInt], by omega, by rw [e]; simp -implicitDefEqProofs [a0d, eInt], by omega, by omega⟩⟩
  ·have e := a7n (hi.trans h)
   exact ⟨by omega, by omega, fun _ _ => ⟨i + 1, e, by omega, e.symm, by omega, by omega⟩⟩
 ·have : i = l.length := by omega
  subst this
  exact ⟨rfl, rfl⟩
def b0l : Con := .fn 18 (List Int × Int) (fun a => [.sl true 1 (a0d a.1), .int .i64 a.2]) (fun _ => True) (fun a => .bool (decide (a.2 ∈ a.1))) (fun _ => [])
theorem b2B : Has Tryz.prog 136 b0l := by
 refine a0e mixed a1r HasL.nil [0, 1, 4, 5] ((fun a n (_ : Nat) => (fun a _ => ⟨Nat, fun i => ⟨[(0, true, .sl true 1 (a0d a.1)), (1, true, .int .i64 a.2), (4, true, .bool false), (5, true, .int .i64 i)], []⟩, fun i => i <= a.1.length /\ ∀ x, x ∈ a.1.take i -> x ≠ a.2, fun i => a.1.length - i⟩) a n)) [] Tryz.func136 (by unfold Tryz.f136; rfl) (fun _ => ⟨(), trivial⟩) ?_
 intro a _
 obtain ⟨l, n⟩ := a
 simp -implicitDefEqProofs [b0l, Con.fn, a1t, tTab]
 try dsimp only
 refine fun i hi hb _ => ⟨fun hlt => ?_, fun hge => ?_⟩
 ·simp -implicitDefEqProofs [hlt, eInt, D.asInt, and_assoc]
  refine ⟨fun h => by rw [<- h]; exact List.getElem_mem hlt, fun h => ⟨by omega, by omega, fun _ _ => ⟨i + 1, by omega, by omega, fun x hx => ?_, by omega⟩⟩⟩
  rw [a0C hlt] at hx
  rcases List.mem_append.1 hx with h1 | h1
  ·exact hb x h1
  ·simp only [List.mem_singleton] at h1
   subst h1; exact h
 ·rw [List.take_of_length_le hge] at hb
  exact fun h => hb n h rfl
def putT (l : List Bool) (ps : List Int) : List Bool := ps.foldl (fun l p => l.set p.toNat true) l
theorem b5n (ps : List Int) : ∀ l : List Bool, (putT l ps).length = l.length := by
 induction ps with
 | nil => intro l; rfl
 | cons p r ih => intro l; show (putT (l.set p.toNat true) r).length = _; rw [ih]; simp
def a3U (r : RepoD) (l : List Bool) (i : Nat) : List Bool := if isT l i then putT l (r.commits.getD i default).parents else l
def ancF (r : RepoD) : Nat -> List Bool -> List Bool
 | 0, l => l
 | n + 1, l => ancF r n (a3U r l n)
def anc (r : RepoD) (a : Int) : List Bool := ancF r (a + 1).toNat ((List.replicate r.commits.length false).set a.toNat true)
theorem b3O (r : RepoD) : ∀ (n : Nat) (l : List Bool), (ancF r n l).length = l.length
 | 0, _ => rfl
 | n + 1, l => by
  show (ancF r n (a3U r l n)).length = _
  rw [b3O r n]
  unfold a3U
  split
  ·rw [b5n]
  ·rfl
theorem a2d (r : RepoD) (a : Int) : (anc r a).length = r.commits.length := by unfold anc; rw [b3O]; simp
def anO (r : RepoD) (a : Int) : Inv := ⟨List Bool × Int, fun t => ⟨[(2, true, .ptr 10 0), (4, true, .nil), (5, true, .own 9 1 (a0B t.1)), (6, true, .int .i64 t.2)], [(10, a2p r), (9, .own 4 1 true (a0B t.1))]⟩, fun t => t.1.length = r.commits.length /\ -1 <= t.2 /\ t.2 < r.commits.length /\ ancF r (t.2 + 1).toNat t.1 = anc r a, fun t => (t.2 + 1).toNat⟩
def anI (r : RepoD) (a : Int) (g : Nat) : Inv := ⟨List Bool × Nat, fun t => ⟨[(2, true, .ptr 10 0), (4, true, .nil), (5, true, .own 9 1 (a0B t.1)), (6, true, .int .i64 g), (30, true, .sl true 1 (a0d (r.commits.getD g default).parents)), (31, true, .int .i64 (r.commits.getD g default).parents.length), (32, true, .int .i64 t.2)], [(10, a2p r), (9, .own 4 1 true (a0B t.1))]⟩, fun t => t.1.length = r.commits.length /\ g < r.commits.length /\ t.2 <= (r.commits.getD g default).parents.length /\ ancF r g (putT t.1 ((r.commits.getD g default).parents.drop t.2)) = anc r a, fun t => (r.commits.getD g default).parents.length - t.2⟩
def b7C (r : RepoD) (a : Int) (n g : Nat) : Inv := if n = 4 then anO r a else anI r a g
theorem c5s (r : RepoD) (a : Int) (g : Nat) : b7C r a 4 g = anO r a := rfl
theorem c5t (r : RepoD) (a : Int) (g : Nat) : b7C r a 8 g = anI r a g := rfl
def a5d : Con := .fn 41 (RepoD × Int) (fun a => [a1x a.1, .int .i64 a.2]) (fun a => a0L a.1 = true /\ 0 <= a.2 /\ a.2 < a.1.commits.length) (fun a => .own 8 1 (a0B (anc a.1 a.2))) (fun a => b5f 8 (anc a.1 a.2))
theorem a7A : Has Tryz.prog 95 a5d := by
 refine a0e mixed a1r HasL.nil [0, 1, 2, 4, 5, 6, 8, 30, 31, 32] (fun a => b7C a.1 a.2) [] Tryz.func95 (by unfold Tryz.f95; rfl) (fun _ => ⟨(), trivial⟩) ?_
 intro a ha
 obtain ⟨r, n⟩ := a
 obtain ⟨h1, h2, h3⟩ : a0L r = true /\ 0 <= n /\ n < r.commits.length := ha
 have h4 := a4u h1
 simp -implicitDefEqProofs [a5d, Con.fn, a1t, tTab, c5s, c5t, anO, anI, a0V]
 try dsimp only
 refine fun _ => ⟨by omega, fun _ => ⟨⟨h2, h3⟩, fun _ _ => ⟨by omega, ⟨(List.replicate r.commits.length false).set n.toNat true, n, ⟨⟨by rw [a2O]; exact (a1l _ _ _).symm, rfl⟩, by rw [a2O]; exact a1l _ _ _⟩, by simp, by omega, h3, rfl⟩, fun l b g1 g2 g3 g4 => ⟨fun hb => ⟨⟨hb, by omega⟩, fun _ _ => ?_⟩, fun hb => ?_⟩⟩⟩⟩
 ·have hb1 : b.toNat < l.length := by omega
  have hb2 : b.toNat < r.commits.length := by omega
  obtain ⟨p1, p2, _⟩ := a4G h1 hb2
  have hT : isT l b.toNat = l[b.toNat] := by simp -implicitDefEqProofs [isT, List.getD_eq_getElem?_getD, hb1]
  have hbb : (b + 1).toNat = b.toNat + 1 := by omega
  have hgd : r.commits.getD b.toNat default = r.commits[b.toNat] := by simp -implicitDefEqProofs [List.getD_eq_getElem?_getD, hb2]
  rw [hbb] at g4
  have g5 : ancF r b.toNat (a3U r l b.toNat) = anc r n := g4
  unfold a3U at g5
  rw [hT, hgd] at g5
  have e3 : Option.map a0E r.commits[b.toNat]? = some (a0E r.commits[b.toNat]) := by simp -implicitDefEqProofs [hb2]
  have hgo : r.commits[b.toNat]?.getD default = r.commits[b.toNat] := by simp -implicitDefEqProofs [hb2]
  simp -implicitDefEqProofs [hb1, a1s, D.asBool, e3, a0E, D.asRows, hb, show b < r.commits.length by omega]
  refine ⟨fun h _ => ⟨b.toNat, ?_⟩, fun h => ⟨⟨by omega, by omega⟩, fun _ _ => ⟨l, b - 1, ⟨⟨rfl, rfl⟩, rfl⟩, ⟨g1, by omega, by omega, ?_⟩, by omega⟩⟩⟩
  ·rw [if_pos h] at g5
   rw [hgo]
   generalize r.commits[b.toNat] = c at *
   refine ⟨⟨l, 0, ⟨⟨rfl, by omega, rfl, rfl, rfl⟩, rfl⟩, g1, hb2, Nat.zero_le _, g5⟩, fun m k m1 m2 m3 m4 => ⟨fun hlt => ⟨hlt, fun _ => ?_⟩, fun hge => ⟨⟨by omega, by omega⟩, fun _ _ => ⟨m, b - 1, ⟨⟨rfl, by omega⟩, rfl⟩, ⟨m1, by omega, by omega, ?_⟩, by omega⟩⟩⟩⟩
   ·have hp := p2 c.parents[k] (List.getElem_mem hlt)
    have qt : Option.map eInt c.parents[k]? = some (eInt c.parents[k]) := by simp -implicitDefEqProofs [List.getElem?_eq_getElem hlt]
    simp -implicitDefEqProofs [qt, eInt, D.asInt]
    refine ⟨⟨hp.1, by omega⟩, fun _ _ => ⟨by omega, ⟨by omega, by omega⟩, fun _ _ => ⟨m.set c.parents[k].toNat true, k + 1, ⟨⟨(a1l _ _ _).symm, by omega⟩, a1l _ _ _⟩, ⟨by simp -implicitDefEqProofs [m1], m2, by omega, ?_⟩, by omega⟩⟩⟩
    rw [List.drop_eq_getElem_cons hlt] at m4
    exact m4
   ·rw [List.drop_eq_nil_of_le hge] at m4
    rw [show (b - 1 + 1).toNat = b.toNat by omega]
    exact m4
  ·rw [if_neg (by rw [h]; simp)] at g5
   rw [show (b - 1 + 1).toNat = b.toNat by omega]
   exact g5
 ·have hbb : (b + 1).toNat = 0 := by omega
  rw [hbb] at g4
  have g5 : l = anc r n := g4
  exact ⟨g5.symm, g5⟩
--TAB a1t
--TAB a1t
theorem b0x {l : List Bool} {p g : Nat} (b : Bool) (h : p ≠ g) : isT (l.set p b) g = isT l g := by
 unfold isT
 rw [List.getD_eq_getElem?_getD, List.getD_eq_getElem?_getD, List.getElem?_set_ne h]
def alO (r : RepoD) (a : Int) : Inv := ⟨List Bool × Int, fun t => ⟨[(2, true, .ptr 10 0), (4, true, .nil), (5, true, .own 9 1 (a0B t.1)), (6, true, .int .i64 t.2)], [(10, a2p r), (9, .own 4 1 true (a0B t.1))]⟩, fun t => t.1.length = r.commits.length /\ -1 <= t.2 /\ t.2 < r.commits.length /\ ancF r (t.2 + 1).toNat t.1 = anc r a, fun t => (t.2 + 1).toNat⟩
def alI (r : RepoD) (a : Int) (g : Nat) : Inv := ⟨List Bool × Nat, fun t => ⟨[(2, true, .ptr 10 0), (4, true, .nil), (5, true, .own 9 1 (a0B t.1)), (6, true, .int .i64 g), (7, true, .int .i64 t.2)], [(10, a2p r), (9, .own 4 1 true (a0B t.1))]⟩, fun t => t.1.length = r.commits.length /\ g < r.commits.length /\ t.2 <= (r.commits.getD g default).parents.length /\ (isT t.1 g = true -> ancF r g (putT t.1 ((r.commits.getD g default).parents.drop t.2)) = anc r a) /\ (isT t.1 g = false -> ancF r g t.1 = anc r a), fun t => (r.commits.getD g default).parents.length - t.2⟩
def alT (r : RepoD) (a : Int) : Inv := ⟨Nat, fun i => ⟨[(2, true, .ptr 10 0), (4, true, .nil), (5, true, .own 9 1 (a0B (anc r a))), (8, true, .own 11 1 (a0d (a3a (anc r a) i))), (9, true, .int .i64 i)], [(10, a2p r), (9, .own 4 1 true (a0B (anc r a))), (11, .own 3 1 true (a0d (a3a (anc r a) i)))]⟩, fun i => i <= r.commits.length, fun i => r.commits.length - i⟩
def b0b (r : RepoD) (a : Int) (n g : Nat) : Inv := if n = 4 then alO r a else if n = 7 then alI r a g else alT r a
theorem b6K (r : RepoD) (a : Int) (g : Nat) : b0b r a 4 g = alO r a := rfl
theorem b6L (r : RepoD) (a : Int) (g : Nat) : b0b r a 7 g = alI r a g := rfl
theorem b3L (r : RepoD) (a : Int) (g : Nat) : b0b r a 12 g = alT r a := rfl
def b4g : Con := .fn 66 (RepoD × Int) (fun a => [a1x a.1, .int .i64 a.2]) (fun a => a0L a.1 = true /\ 0 <= a.2 /\ a.2 < a.1.commits.length) (fun a => .own 8 1 (a0d (a0w (anc a.1 a.2)))) (fun a => a2J 8 (a0w (anc a.1 a.2)))
theorem c1k : Has Tryz.prog 137 b4g := by
 refine a0e mixed a1r HasL.nil [0, 1, 2, 4, 5, 6, 7, 8, 9] (fun a => b0b a.1 a.2) [] Tryz.func137 (by unfold Tryz.f137; rfl) (fun _ => ⟨(), trivial⟩) ?_
 intro a ha
 obtain ⟨r, n⟩ := a
 obtain ⟨h1, h2, h3⟩ : a0L r = true /\ 0 <= n /\ n < r.commits.length := ha
 have h4 := a4u h1
 simp -implicitDefEqProofs [b4g, Con.fn, a1t, tTab, b6K, b6L, b3L, alO, alI, alT, a0V]
 try dsimp only
 simp only [and_assoc, exists_eq_left, exists_and_left, RepoD.ex1, RepoD.eta]
 have hal := a2d r n
 refine fun _ => ⟨by omega, fun _ => ⟨h2, h3, fun _ _ => ⟨by omega, ⟨(List.replicate r.commits.length false).set n.toNat true, by rw [a2O]; exact (a1l _ _ _).symm, by rw [a2O]; exact a1l _ _ _, by simp, by omega, h3, rfl⟩, fun l b g1 g2 g3 g4 => ⟨fun hb => ⟨b.toNat, ?_⟩, fun hb => ?_⟩⟩⟩⟩
 ·have hb1 : b.toNat < l.length := by omega
  have hb2 : b.toNat < r.commits.length := by omega
  obtain ⟨p1, p2, _⟩ := a4G h1 hb2
  have hgd : r.commits.getD b.toNat default = r.commits[b.toNat] := by simp -implicitDefEqProofs [List.getD_eq_getElem?_getD, hb2]
  have hgo : r.commits[b.toNat]?.getD default = r.commits[b.toNat] := by simp -implicitDefEqProofs [hb2]
  rw [show (b + 1).toNat = b.toNat + 1 by omega] at g4
  have g5 : ancF r b.toNat (a3U r l b.toNat) = anc r n := g4
  unfold a3U at g5
  rw [hgd] at g5
  have e3 : Option.map a0E r.commits[b.toNat]? = some (a0E r.commits[b.toNat]) := by simp -implicitDefEqProofs [hb2]
  rw [hgo, e3]
  generalize r.commits[b.toNat] = c at *
  refine ⟨by omega, trivial, g1, hb2, Nat.zero_le _, fun h => ?_, fun h => ?_, fun m k m1 m2 m3 m4 m5 => ⟨hb2, fun _ => ?_⟩⟩
  ·rw [if_pos h] at g5; exact g5
  ·rw [if_neg (by rw [h]; simp)] at g5; exact g5
  ·have hbm : b.toNat < m.length := by omega
   have hT : isT m b.toNat = m[b.toNat] := by simp -implicitDefEqProofs [isT, List.getD_eq_getElem?_getD, hbm]
   have e4 : Option.map a1s m[b.toNat]? = some (a1s m[b.toNat]) := by simp -implicitDefEqProofs [hbm]
   have hmx : max b 0 = b := Int.max_eq_left hb
   simp -implicitDefEqProofs [a0E, D.asRows, e4, a1s, hbm, hb2, hmx]
   refine fun _ => ⟨fun hl2 => ⟨fun hm => ⟨hl2, fun _ => ?_⟩, fun hm => ⟨by omega, by omega, fun _ _ => ⟨m1, by omega, by omega, m5 (hT.trans hm), by omega⟩⟩⟩, fun hge => ⟨by omega, by omega, fun _ _ => ⟨m1, by omega, by omega, ?_, by omega⟩⟩⟩
   ·have hp := p2 c.parents[k] (List.getElem_mem hl2)
    have qt : Option.map eInt c.parents[k]? = some (eInt c.parents[k]) := by simp -implicitDefEqProofs [List.getElem?_eq_getElem hl2]
    simp -implicitDefEqProofs [qt, eInt, D.asInt]
    have hst : isT (m.set c.parents[k].toNat true) b.toNat = true := by rw [b0x _ (by omega)]; exact hT.trans hm
    refine ⟨hp.1, by omega, fun _ _ => ⟨by omega, by omega, by omega, fun _ _ => ⟨m.set c.parents[k].toNat true, (a1l _ _ _).symm, k + 1, by omega, a1l _ _ _, by simp -implicitDefEqProofs [m1], by omega, fun _ => ?_, fun h => ?_, by omega⟩⟩⟩
    ·have := m4 (hT.trans hm)
     rw [List.drop_eq_getElem_cons hl2] at this
     exact this
    ·rw [hst] at h; cases h
   ·cases hm : m[b.toNat] with
    | true =>
     have := m4 (hT.trans hm)
     rw [List.drop_eq_nil_of_le hge] at this
     exact this
    | false => exact m5 (hT.trans hm)
 ·rw [show (b + 1).toNat = 0 by omega] at g4
  have g5 : l = anc r n := g4
  refine ⟨g5.symm, ⟨0, rfl, rfl, g5, rfl, Nat.zero_le _⟩, fun i hi _ => ⟨fun hlt => ?_, fun hge => ?_⟩⟩
  ·have hl := a4U (anc r n) i
   have hi : isT (anc r n) i = (anc r n)[i] := by simp -implicitDefEqProofs [isT, List.getD_eq_getElem?_getD, hlt]
   rw [hal] at hlt
   simp -implicitDefEqProofs [hal, hlt, a1s, D.asBool, and_assoc]
   refine ⟨fun h => ?_, fun h => ?_⟩
   ·have e := a8d (hi.trans h)
    exact ⟨by omega, by omega, by omega, by omega, fun _ _ => ⟨i + 1, by rw [e]; simp -implicitDefEqProofs [a0d, eInt], by omega, by rw [e]; simp -implicitDefEqProofs [a0d, eInt], by omega, by omega⟩⟩
   ·have e := a7n (hi.trans h)
    exact ⟨by omega, by omega, fun _ _ => ⟨i + 1, e, by omega, e.symm, by omega, by omega⟩⟩
  ·rw [hal] at hge
   have : i = r.commits.length := by omega
   subst this
   unfold a0w
   rw [hal]
   exact ⟨rfl, rfl⟩
def b1R : Con := .fn 22 (List Int) (fun a => [.sl true 1 (a0d a)]) (fun a => a.length <= 1048576) (fun a => .own 8 1 (a0d a)) (fun a => a2J 8 a)
theorem b9B : Has Tryz.prog 158 b1R := by
 refine a0e mixed a0i HasL.nil [0, 2, 3, 4] ((fun a n (_ : Nat) => (fun a _ => ⟨Nat × List Int, fun t => ⟨[(0, true, .sl true 1 (a0d a)), (2, true, .nil), (3, true, .own 9 1 (a0d t.2)), (4, true, .int .i64 t.1)], a2J 9 t.2⟩, fun t => t.1 <= a.length /\ t.2.length = a.length /\ t.2.take t.1 = a.take t.1, fun t => a.length - t.1⟩) a n)) [] Tryz.func158 (by unfold Tryz.f158; rfl) (fun _ => ⟨(), trivial⟩) ?_
 intro (a : List Int) ha
 replace ha : a.length <= 1048576 := ha
 simp -implicitDefEqProofs [b1R, Con.fn, tTab]
 try dsimp only
 try simp +contextual [eStr, a0y, a0s, a0z, a0t, List.getElem?_eq_getElem, a0u, a0p, a0r, a0q, <- a0h, <- a0f, a0m, a0n, a0l, a0k, a0o, a0j, and_assoc, eInt, a0R, a0E, a2e, a2R, a3i, a2S, a2Q, a2h, <- a2n, a1T, a2P, a2B, a2A, a1S, <- a1Z, a2m, a2l, a1Y, a1X, a1d, <- a1C]
 repeat' (first | intro _ | apply And.intro)
 all_goals first | omega | grind [a0A, a5L, a3r]
def b1Q : Con := .fn 11 HeadD (fun f => [.agg [.str f.name, .int .i64 f.at_]]) (fun _ => True) (fun f => .agg [.str f.name, .int .i64 f.at_]) (fun _ => [])
theorem b9A : Has Tryz.prog 128 b1Q := by
 refine a0e mixed a0i HasL.nil [0, 1, 2, 3] ((fun a n (_ : Nat) => (fun _ => a0K) a n)) [] Tryz.func128 (by unfold Tryz.f128; rfl) (fun _ => ⟨(), trivial⟩) ?_
 intro f _
 obtain ⟨p, x⟩ := f
 simp -implicitDefEqProofs [b1Q, Con.fn, tTab]
 try dsimp only
 try simp +contextual [eStr, a0y, a0s, a0z, a0t, List.getElem?_eq_getElem, a0u, a0p, a0r, a0q, <- a0h, <- a0f, a0m, a0n, a0l, a0k, a0o, a0j, and_assoc]
 repeat' (first | intro _ | apply And.intro)
 all_goals first | omega | grind [a0A]
def a9E : Con := .fn 23 (List HeadD) (fun a => [.sl true 2 (a0b a)]) (fun a => a.length <= 1048576) (fun a => .own 8 2 (a0b a)) (fun a => a2v 8 a)
theorem b6I : Has Tryz.prog 80 a9E := by
 refine a0e mixed a0i (HasL.cons b9A HasL.nil) [0, 2, 3, 4] ((fun a n (_ : Nat) => (fun a _ => ⟨Nat × List HeadD, fun t => ⟨[(0, true, .sl true 2 (a0b a)), (2, true, .nil), (3, true, .own 9 2 (a0b t.2)), (4, true, .int .i64 t.1)], a2v 9 t.2⟩, fun t => t.1 <= a.length /\ t.2.length = a.length /\ t.2.take t.1 = a.take t.1, fun t => a.length - t.1⟩) a n)) [] Tryz.func80 (by unfold Tryz.f80; rfl) (fun _ => ⟨(), trivial⟩) ?_
 intro (a : List HeadD) ha
 replace ha : a.length <= 1048576 := ha
 simp -implicitDefEqProofs [a9E, Con.fn, tTab, b1Q]
 try dsimp only
 try simp +contextual [eStr, a0y, a0s, a0z, a0t, List.getElem?_eq_getElem, a0u, a0p, a0r, a0q, <- a0h, <- a0f, a0m, a0n, a0l, a0k, a0o, a0j, and_assoc, eInt, a0R, a0E, a2e, a2R, a3i, a2S, a2Q, a2h, <- a2n, a1T, a2P, a2B, a2A, a1S, <- a1Z, a2m, a2l, a1Y, a1X, a1d, <- a1C, <- HeadD.eq_iff]
 repeat' (first | intro _ | apply And.intro)
 all_goals first | omega | grind [a0A, a5L, a3r]
def a7W : Con := .fn 16 CommitD (fun f => [.agg [.sl true 1 (a0d f.parents), .str f.who, .sl true 2 (a0c f.tree)]]) (fun f => f.parents.length <= 1048576 /\ f.tree.length <= 1048576 /\ ∀ g ∈ f.tree, g.text.length <= 1048576) (fun f => .agg [.own 8 1 (a0d f.parents), .str f.who, .own 9 2 (a0c f.tree)]) (fun f => a2J 8 f.parents ++ a2E 9 f.tree)
theorem b5G : Has Tryz.prog 127 a7W := by
 refine a0e mixed a0i (HasL.cons b9B (HasL.cons b6H HasL.nil)) [0, 1, 2, 3] ((fun a n (_ : Nat) => (fun _ => a0K) a n)) [] Tryz.func127 (by unfold Tryz.f127; rfl) (fun _ => ⟨(), trivial⟩) ?_
 intro f hf
 obtain ⟨p, x, t⟩ := f
 obtain ⟨h1, h2, h3⟩ : p.length <= 1048576 /\ t.length <= 1048576 /\ ∀ g ∈ t, g.text.length <= 1048576 := hf
 simp -implicitDefEqProofs [a7W, Con.fn, tTab, b1R, a9D]
 try dsimp only
 try simp +contextual [eStr, a0y, a0s, a0z, a0t, List.getElem?_eq_getElem, a0u, a0p, a0r, a0q, <- a0h, <- a0f, a0m, a0n, a0l, a0k, a0o, a0j, and_assoc]
 repeat' (first | intro _ | apply And.intro)
 all_goals first | omega | grind [a0A]
def cmSz (c : CommitD) : Prop := c.parents.length <= 1048576 /\ c.tree.length <= 1048576 /\ ∀ g ∈ c.tree, g.text.length <= 1048576
def a7a : Con := .fn 23 (List CommitD) (fun a => [.sl true 3 (a1f a)]) (fun a => a.length <= 1048576 /\ ∀ c ∈ a, cmSz c) (fun a => .own 8 3 (a0g a)) (fun a => a2j 8 a)
theorem b3n : Has Tryz.prog 79 a7a := by
 refine a0e mixed a0i (HasL.cons b5G HasL.nil) [0, 2, 3, 4] ((fun a n (_ : Nat) => (fun a _ => ⟨Nat × List CommitD, fun t => ⟨[(0, true, .sl true 3 (a1f a)), (2, true, .nil), (3, true, .own 9 3 (a0g t.2)), (4, true, .int .i64 t.1)], a2j 9 t.2⟩, fun t => t.1 <= a.length /\ t.2.length = a.length /\ t.2.take t.1 = a.take t.1, fun t => a.length - t.1⟩) a n)) [] Tryz.func79 (by unfold Tryz.f79; rfl) (fun _ => ⟨(), trivial⟩) ?_
 intro (a : List CommitD) ha
 obtain ⟨h1, h2⟩ : a.length <= 1048576 /\ ∀ c ∈ a, cmSz c := ha
 have h3 : ∀ i (h : i < a.length), a[i].parents.length <= 1048576 /\ a[i].tree.length <= 1048576 /\ ∀ g ∈ a[i].tree, g.text.length <= 1048576 := fun i h => h2 _ (List.getElem_mem h)
 simp -implicitDefEqProofs [a7a, Con.fn, tTab, a7W]
 try dsimp only
 try simp +contextual [eStr, a0y, a0s, a0z, a0t, List.getElem?_eq_getElem, a0u, a0p, a0r, a0q, <- a0h, <- a0f, a0m, a0n, a0l, a0k, a0o, a0j, and_assoc, eInt, a0R, a0E, a2e, a2R, a3i, a2S, a2Q, a2h, <- a2n, a1T, a2P, a2B, a2A, a1S, <- a1Z, a2m, a2l, a1Y, a1X, a1d, <- a1C, <- CommitD.eq_iff]
 repeat' (first | intro _ | apply And.intro)
 all_goals first | omega | grind [a0A, a5L, a3r]
def rpSz (r : RepoD) : Prop := r.commits.length <= 1048576 /\ (∀ c ∈ r.commits, cmSz c) /\ r.heads.length <= 1048576
def b1S : Con := .fn 13 RepoD (fun r => [b8M r]) rpSz (fun r => .agg [.own 8 3 (a0g r.commits), .own 9 2 (a0b r.heads)]) (fun r => a2j 8 r.commits ++ a2v 9 r.heads)
theorem b9C : Has Tryz.prog 26 b1S := by
 refine a0e mixed a0i (HasL.cons b3n (HasL.cons b6I HasL.nil)) [0, 1, 2, 3] ((fun a n (_ : Nat) => (fun _ => a0K) a n)) [] Tryz.func26 (by unfold Tryz.f26; rfl) (fun _ => ⟨(), trivial⟩) ?_
 intro f hf
 obtain ⟨p, x⟩ := f
 obtain ⟨h1, h2, h3⟩ : p.length <= 1048576 /\ (∀ c ∈ p, c.parents.length <= 1048576 /\ c.tree.length <= 1048576 /\ ∀ g ∈ c.tree, g.text.length <= 1048576) /\ x.length <= 1048576 := hf
 simp -implicitDefEqProofs [b1S, Con.fn, tTab, a7a, a9E, cmSz]
 try dsimp only
 try simp +contextual [eStr, a0y, a0s, a0z, a0t, List.getElem?_eq_getElem, a0u, a0p, a0r, a0q, <- a0h, <- a0f, a0m, a0n, a0l, a0k, a0o, a0j, and_assoc]
 repeat' (first | intro _ | apply And.intro)
 all_goals first | omega | grind [a0A]
theorem c5e (p : List Int) : ∀ x ∈ a0d p, ∀ d ∈ x, match d with | .sl _ _ _ => False | _ => True := by
 intro x hx d hd
 simp only [a0d, List.mem_map] at hx
 obtain ⟨i, _, rfl⟩ := hx
 simp only [eInt, List.mem_singleton] at hd
 subst hd; trivial
theorem c5d (p : List HeadD) : ∀ x ∈ a0b p, ∀ d ∈ x, match d with | .sl _ _ _ => False | _ => True := by
 intro x hx d hd
 simp only [a0b, List.mem_map] at hx
 obtain ⟨i, _, rfl⟩ := hx
 simp only [a0R, List.mem_cons, List.not_mem_nil, or_false] at hd
 rcases hd with rfl | rfl <;> trivial
def a5a : Con := .fn 13 CommitD (fun f => [.agg [.sl true 1 (a0d f.parents), .str f.who, .sl true 2 (a0c f.tree)]]) (fun f => cmSz f) (fun f => .agg [.own 8 1 (a0d f.parents), .str f.who, .own 9 2 (a0c f.tree)]) (fun f => a2J 8 f.parents ++ a2E 9 f.tree)
theorem a9M : Has Tryz.prog 135 a5a := by
 refine a0e mixed a0i (HasL.cons b0I HasL.nil) [0, 1, 2] ((fun a n (_ : Nat) => (fun _ => a0K) a n)) [] Tryz.func135 (by unfold Tryz.f135; rfl) (fun _ => ⟨(), trivial⟩) ?_
 intro f hf
 obtain ⟨p, x, t⟩ := f
 obtain ⟨h1, h2, h3⟩ : p.length <= 1048576 /\ t.length <= 1048576 /\ ∀ g ∈ t, g.text.length <= 1048576 := hf
 simp -implicitDefEqProofs [a5a, a8G, Con.fn, tTab]
 try dsimp only
 exact ⟨c5e p, by omega, h2, h3⟩
abbrev a8A : Blk := .box 26 [.nil, .nil]
def l7cO (r : RepoD) : Inv := ⟨Nat, fun i => ⟨[(1, true, .ptr 12 0), (2, true, .ptr 10 0), (3, true, .ptr 11 0), (4, true, .int .i64 i)], [(12, a2p r), (10, a8A), (11, .box 26 [.own 13 3 (a0g (r.commits.take i)), .own 14 2 (a0b r.heads)]), (13, .own 34 3 true (a0g (r.commits.take i))), (14, .own 113 2 true (a0b r.heads))]⟩, fun i => i <= r.commits.length, fun i => r.commits.length - i⟩
def a8H : Con := .fn 29 RepoD (fun r => [a1x r]) rpSz (fun r => .agg [.own 8 3 (a0g r.commits), .own 9 2 (a0b r.heads)]) (fun r => a2j 8 r.commits ++ a2v 9 r.heads)
theorem b0K : Has Tryz.prog 92 a8H := by
 refine a0e mixed a0i (HasL.cons a9M HasL.nil) [0, 1, 2, 3, 4] ((fun a n (_ : Nat) => (fun r _ => l7cO r) a n)) [25, 26] Tryz.func92 (by unfold Tryz.f92; rfl) (fun _ => ⟨(), trivial⟩) ?_
 intro (r : RepoD) hr
 obtain ⟨h1, h2, h3⟩ : r.commits.length <= 1048576 /\ (∀ c ∈ r.commits, cmSz c) /\ r.heads.length <= 1048576 := hr
 simp -implicitDefEqProofs [a8H, a5a, Con.fn, tTab, l7cO, a0V]
 try dsimp only
 refine ⟨c5d r.heads, by omega, ⟨0, ⟨rfl, .inl rfl⟩, Nat.zero_le _⟩, fun i hi _ => ⟨fun hlt => ?_, fun hge => ?_⟩⟩
 ·have e : r.commits.take (i + 1) = r.commits.take i ++ [r.commits[i]] := a0C hlt
  have hc := h2 _ (List.getElem_mem hlt)
  simp -implicitDefEqProofs [hlt, a0E, D.asStr, D.asRows, and_assoc]
  refine ⟨hc, by omega, by omega, by omega, by omega, fun _ _ => ⟨i + 1, by omega, ?_, ?_, by omega, by omega⟩⟩
  ·rw [e, a1d]
  ·rw [e, a1d]
 ·rw [List.take_of_length_le hge]; exact ⟨rfl, rfl⟩
def a1w (n : Str) (a : Int) (acc : List HeadD × Bool) (g : HeadD) : List HeadD × Bool :=
 if acc.2 = false /\ Go.Op.bytesLess g.name n = false then (if g.name = n then (acc.1 ++ [⟨n, a⟩], true) else (acc.1 ++ [⟨n, a⟩] ++ [g], true))
 else (if g.name = n then acc else (acc.1 ++ [g], acc.2))
def hL (n : Str) (a : Int) (l : List HeadD) : List HeadD × Bool := l.foldl (a1w n a) ([], false)
def hSet (l : List HeadD) (n : Str) (a : Int) : List HeadD := if (hL n a l).2 then (hL n a l).1 else (hL n a l).1 ++ [⟨n, a⟩]
theorem c5N {n : Str} {a : Int} {t : List HeadD} {i : Nat} (h : i < t.length) : hL n a (t.take (i + 1)) = a1w n a (hL n a (t.take i)) t[i] := by
 unfold hL
 rw [a0C h, List.foldl_append]; rfl
theorem c0C (n : Str) (a : Int) (acc : List HeadD × Bool) (g : HeadD) : (a1w n a acc g).1.length + acc.2.toNat <= acc.1.length + (a1w n a acc g).2.toNat + 1 := by
 unfold a1w
 split
 ·rename_i h
  rw [h.1]
  split <;> simp <;> omega
 ·split <;> simp <;> omega
theorem c7s (n : Str) (a : Int) (t : List HeadD) : (hL n a t).1.length <= t.length + (hL n a t).2.toNat := by
 have : ∀ (t : List HeadD) (acc : List HeadD × Bool), (t.foldl (a1w n a) acc).1.length + acc.2.toNat <= acc.1.length + t.length + (t.foldl (a1w n a) acc).2.toNat := by
  intro t
  induction t with
  | nil => intro acc; simp
  | cons g r ih =>
   intro acc
   have h1 := ih (a1w n a acc g)
   have h2 := c0C n a acc g
   simp only [List.foldl_cons, List.length_cons]
   omega
 have := this t ([], false)
 simpa [hL] using this
def l7hO (r : RepoD) (n : Str) (a : Int) : Inv := ⟨Nat, fun i => ⟨[(1, true, .str n), (2, true, .int .i64 a), (3, true, .ptr 12 0), (6, true, .ptr 10 0), (7, true, .ptr 11 0), (8, true, .bool (hL n a (r.heads.take i)).2), (9, true, .int .i64 i)], [(12, a2p r), (10, a8A), (11, .box 26 [.sl true 3 (a0g r.commits), .own 14 2 (a0b (hL n a (r.heads.take i)).1)]), (14, .own 113 2 true (a0b (hL n a (r.heads.take i)).1))]⟩, fun i => i <= r.heads.length, fun i => r.heads.length - i⟩
def a8I : Con := .fn 69 (RepoD × Str × Int) (fun a => [a1x a.1, .str a.2.1, .int .i64 a.2.2]) (fun a => a.1.heads.length <= 1048576) (fun a => .agg [.sl true 3 (a0g a.1.commits), .own 9 2 (a0b (hSet a.1.heads a.2.1 a.2.2))]) (fun a => a2v 9 (hSet a.1.heads a.2.1 a.2.2))
theorem b0L : Has Tryz.prog 108 a8I := by
 refine a0e mixed a0i HasL.nil [0, 1, 2, 3, 6, 7, 8, 9] ((fun a n (_ : Nat) => (fun a _ => l7hO a.1 a.2.1 a.2.2) a n)) [] Tryz.func108 (by unfold Tryz.f108; rfl) (fun _ => ⟨(), trivial⟩) ?_
 intro a ha
 obtain ⟨r, n, a⟩ := a
 replace ha : r.heads.length <= 1048576 := ha
 have a0 : hL n a [] = ([], false) := rfl
 have a7 : ∀ i, (hL n a (r.heads.take i)).1.length <= 1048577 := fun i => by
  have h1 := c7s n a (r.heads.take i)
  have h2 := Bool.toNat_le (hL n a (r.heads.take i)).2
  have h3 : (r.heads.take i).length <= r.heads.length := by simp; omega
  omega
 simp -implicitDefEqProofs [a8I, Con.fn, tTab, l7hO, a0V]
 try dsimp only
 have b1 : ∀ (X : List HeadD) (g : HeadD), a0b X ++ [[D.str n, D.int .i64 a], [D.str g.name, D.int .i64 g.at_]] = a0b (X ++ [⟨n, a⟩] ++ [g]) := fun X g => by simp -implicitDefEqProofs [a0b, a0R]
 have b2 : ∀ (X : List HeadD) (g : HeadD), a0b X ++ [[D.str g.name, D.int .i64 g.at_]] = a0b (X ++ [g]) := fun X g => by simp -implicitDefEqProofs [a0b, a0R]
 have b3 : ∀ (X : List HeadD), a0b X ++ [[D.str n, D.int .i64 a]] = a0b (X ++ [⟨n, a⟩]) := fun X => by simp -implicitDefEqProofs [a0b, a0R]
 refine ⟨⟨0, by simp -implicitDefEqProofs [a0]⟩, fun i hi _ => ⟨fun hlt => ?_, fun hge => ?_⟩⟩
 ·have g := c5N (n := n) (a := a) hlt
  have gl := a7 i
  generalize hX : hL n a (r.heads.take i) = X at g gl ⊢
  obtain ⟨X, q⟩ := X
  simp -implicitDefEqProofs [hlt, a0R, D.asStr, D.asInt, and_assoc]
  rw [b1, b2, b3]
  have gl : X.length <= 1048577 := gl
  have fin : ∀ (Y : List HeadD) (b : Bool), hL n a (r.heads.take (i + 1)) = (Y, b) -> ∀ c, b = c -> ∃ t', (hL n a (r.heads.take t')).2 = c /\ (t' : Int) = i + 1 /\ a0b (hL n a (r.heads.take t')).1 = a0b Y /\ a0b Y = a0b (hL n a (r.heads.take t')).1 /\ t' <= r.heads.length /\ r.heads.length - t' < r.heads.length - i := fun Y b h c hc => ⟨i + 1, by rw [h]; exact hc, by omega, by rw [h], by rw [h], by omega, by omega⟩
  have fin2 : ∀ (Y : List HeadD) (b : Bool), hL n a (r.heads.take (i + 1)) = (Y, b) -> ∀ c, b = c -> ∃ t', (hL n a (r.heads.take t')).2 = c /\ (t' : Int) = i + 1 /\ (hL n a (r.heads.take t')).1 = Y /\ Y = (hL n a (r.heads.take t')).1 /\ t' <= r.heads.length /\ r.heads.length - t' < r.heads.length - i := fun Y b h c hc => ⟨i + 1, by rw [h]; exact hc, by omega, by rw [h], by rw [h], by omega, by omega⟩
  refine ⟨fun hq => ⟨fun h => ⟨by omega, by omega, by omega, by omega, fun _ _ => fin _ q ?_ _ rfl⟩, fun h => ⟨by omega, by omega, fun _ _ => fin2 _ q ?_ _ rfl⟩⟩,
   fun hq => ⟨fun hb => ⟨by omega, by omega, fun h => ⟨by omega, by omega, by omega, by omega, fun _ _ => fin _ true ?_ _ rfl⟩, fun h => ⟨by omega, by omega, fun _ _ => fin _ true ?_ _ rfl⟩⟩,
    fun hb => ⟨fun h => ⟨by omega, by omega, by omega, by omega, fun _ _ => fin _ q ?_ _ rfl⟩, fun h => ⟨by omega, by omega, fun _ _ => fin2 _ q ?_ _ rfl⟩⟩⟩⟩
  all_goals rw [g]; unfold a1w
  ·rw [if_neg (by simp -implicitDefEqProofs [hq]), if_neg h]
  ·rw [if_neg (by simp -implicitDefEqProofs [hq]), if_pos h]
  ·rw [if_pos ⟨hq, hb⟩, if_neg h]
  ·rw [if_pos ⟨hq, hb⟩, if_pos h]
  ·rw [if_neg (by simp -implicitDefEqProofs [hb]), if_neg h]
  ·rw [if_neg (by simp -implicitDefEqProofs [hb]), if_pos h]
 ·rw [List.take_of_length_le hge]
  have gl := a7 r.heads.length
  rw [List.take_length] at gl
  rw [b3]
  refine ⟨fun h => ?_, fun h => ⟨by omega, ?_⟩⟩
  ·unfold hSet; rw [if_pos h]; exact ⟨rfl, rfl⟩
  ·unfold hSet; rw [if_neg (by simp -implicitDefEqProofs [h])]; exact ⟨rfl, rfl⟩
def addR (r : RepoD) (n : Str) (c : CommitD) : RepoD := ⟨r.commits ++ [c], hSet r.heads n r.commits.length⟩
def b4f : Con := .fn 24 (RepoD × Str × CommitD) (fun a => [a1x a.1, .str a.2.1, .agg [.sl true 1 (a0d a.2.2.parents), .str a.2.2.who, .sl true 2 (a0c a.2.2.tree)]]) (fun a => a.1.commits.length <= 1048576 /\ a.1.heads.length <= 1048576) (fun a => .agg [.sl false 3 (a0g (addR a.1 a.2.1 a.2.2).commits), .sl false 2 (a0b (addR a.1 a.2.1 a.2.2).heads)]) (fun _ => [])
theorem c1j : Has Tryz.prog 140 b4f := by
 refine a0e mixed a0i (HasL.cons b0L HasL.nil) [0, 1, 2, 3, 5, 6, 7] ((fun a n (_ : Nat) => (fun _ => a0K) a n)) [4109] Tryz.func140 (by unfold Tryz.f140; rfl) (fun _ => ⟨(), trivial⟩) ?_
 intro a ha
 obtain ⟨r, n, c⟩ := a
 obtain ⟨h1, h2⟩ : r.commits.length <= 1048576 /\ r.heads.length <= 1048576 := ha
 simp -implicitDefEqProofs [b4f, a8I, Con.fn, tTab, a0V]
 try dsimp only
 exact ⟨by omega, by omega, fun _ => ⟨⟨r.commits ++ [c], r.heads⟩, n, r.commits.length, ⟨⟨by simp -implicitDefEqProofs [a0g, a0E], rfl⟩, rfl, rfl⟩, h2, rfl, rfl⟩⟩

theorem b0O {a b c : Str} (h : Go.Op.bytesLess a b = true) (h' : Go.Op.bytesLess b c = true) : Go.Op.bytesLess a c = true := by
 rw [a4c, decide_eq_true_eq] at *
 exact List.lt_trans h h'
theorem a4K (a : Str) : Go.Op.bytesLess a a = false := by
 rw [a4c, decide_eq_false_iff_not]
 exact List.lt_irrefl a
def putS : List Str -> Str -> List Str
 | [], s => [s]
 | x :: l, s => if Go.Op.bytesLess x s then x :: putS l s else if x = s then x :: l else s :: x :: l
theorem c4s (l : List Str) (s : Str) : (putS l s).length <= l.length + 1 := by
 induction l with
 | nil => simp -implicitDefEqProofs [putS]
 | cons x l ih =>
  unfold putS
  split
  ·simp; omega
  ·split <;> simp
theorem c1T {l : List Str} {s : Str} {k : Nat} (h : k < l.length) (hp : l.take k ++ putS (l.drop k) s = putS l s) (hl : Go.Op.bytesLess l[k] s = true) : l.take (k + 1) ++ putS (l.drop (k + 1)) s = putS l s := by
 rw [List.drop_eq_getElem_cons h, putS, if_pos hl] at hp
 rw [a0C h, List.append_assoc]
 exact hp
theorem c4r {l : List Str} {s : Str} {k : Nat} (h : l.length <= k) (hp : l.take k ++ putS (l.drop k) s = putS l s) : putS l s = l.take k ++ [s] ++ l.drop k := by
 rw [List.drop_eq_nil_of_le h] at hp ⊢
 rw [<- hp]; simp -implicitDefEqProofs [putS]
theorem c6r {l : List Str} {s : Str} {k : Nat} (h : k < l.length) (hp : l.take k ++ putS (l.drop k) s = putS l s) (hl : Go.Op.bytesLess l[k] s = false) (he : l[k] = s) : putS l s = l := by
 rw [List.drop_eq_getElem_cons h, putS, if_neg (by simp -implicitDefEqProofs [hl]), if_pos he, <- List.drop_eq_getElem_cons h, List.take_append_drop] at hp
 exact hp.symm
theorem c6s {l : List Str} {s : Str} {k : Nat} (h : k < l.length) (hp : l.take k ++ putS (l.drop k) s = putS l s) (hl : Go.Op.bytesLess l[k] s = false) (he : ¬ l[k] = s) : putS l s = l.take k ++ [s] ++ l.drop k := by
 rw [List.drop_eq_getElem_cons h, putS, if_neg (by simp -implicitDefEqProofs [hl]), if_neg he, <- List.drop_eq_getElem_cons h] at hp
 rw [<- hp]; simp
def a1e (l : List Str) (t : List FileD) : List Str := t.foldl (fun l f => putS l f.path) l
theorem a7q {l : List Str} {t : List FileD} {i : Nat} (h : i < t.length) : a1e l (t.take (i + 1)) = putS (a1e l (t.take i)) t[i].path := by
 unfold a1e
 rw [a0C h, List.foldl_append]; rfl
theorem a3j (t : List FileD) : ∀ l, (a1e l t).length <= l.length + t.length := by
 induction t with
 | nil => intro l; simp -implicitDefEqProofs [a1e]
 | cons f t ih =>
  intro l
  have h1 := ih (putS l f.path)
  have h2 := c4s l f.path
  show (a1e (putS l f.path) t).length <= _
  simp only [List.length_cons]
  omega
def a0H (o a b : List FileD) : List Str := a1e (a1e (a1e [] o) a) b
theorem b0X (o a b : List FileD) : (a0H o a b).length <= o.length + a.length + b.length := by
 have h1 := a3j b (a1e (a1e [] o) a)
 have h2 := a3j a (a1e [] o)
 have h3 := a3j o []
 simp at h3
 show (a1e (a1e (a1e [] o) a) b).length <= _
 omega
def a1E (a b : List Str × Bool) : Bool := decide (a.2 = b.2) && (!a.2 || decide (a.1 = b.1))
def one6 (o a b : List FileD) (p : Str) : List Str × Bool × Int :=
 if a1E (getL a p) (getL o p) || a1E (getL a p) (getL b p) then ((getL b p).1, (getL b p).2, 0)
 else if a1E (getL b p) (getL o p) then ((getL a p).1, (getL a p).2, 0)
 else if !(getL a p).2 || !(getL b p).2 then ((getL o p).1, (getL o p).2, 1)
 else if !(getL o p).2 then ([], false, 2)
 else if (a1M (of3 (getL o p).1 (getL a p).1 (getL b p).1)).2 then ((a1M (of3 (getL o p).1 (getL a p).1 (getL b p).1)).1, true, 0)
 else ((getL o p).1, true, 3)
theorem a4F {t : List FileD} {n : Nat} (h : ∀ f ∈ t, f.text.length <= n) (p : Str) : (getL t p).1.length <= n := by
 induction t with
 | nil => simp -implicitDefEqProofs [getL]
 | cons f t ih =>
  unfold getL
  split
  ·exact h f (by simp)
  ·exact ih fun g hg => h g (by simp -implicitDefEqProofs [hg])
theorem a3L {t : List Str} (h : a1c t = true) : t.length <= 10 := by
 unfold a1c at h
 simp only [Bool.and_eq_true, decide_eq_true_eq] at h
 exact h.1
theorem c2t (l : List PartD) : (a1M l).1.length <= 10 := by
 unfold a1M
 split
 ·simp
 ·split
  ·rename_i h; exact a3L h
  ·simp
theorem b5c {o a b : List FileD} {p : Str} {n : Nat} (hn : 10 <= n) (ho : ∀ f ∈ o, f.text.length <= n) (ha : ∀ f ∈ a, f.text.length <= n) (hb : ∀ f ∈ b, f.text.length <= n) : (one6 o a b p).1.length <= n := by
 have h1 := a4F ho p
 have h2 := a4F ha p
 have h3 := a4F hb p
 have h4 := c2t (of3 (getL o p).1 (getL a p).1 (getL b p).1)
 unfold one6
 split
 ·exact h3
 ·split
  ·exact h2
  ·split
   ·exact h1
   ·split
    ·simp
    ·split
     ·show (a1M _).1.length <= n; omega
     ·exact h1
def stepJ (o a b : List FileD) (s : List FileD × List HeadD) (p : Str) : List FileD × List HeadD :=
 (if (one6 o a b p).2.1 then s.1 ++ [⟨p, (one6 o a b p).1⟩] else s.1, if 0 < (one6 o a b p).2.2 then s.2 ++ [⟨p, (one6 o a b p).2.2⟩] else s.2)
def runJ (o a b : List FileD) (l : List Str) : List FileD × List HeadD := l.foldl (stepJ o a b) ([], [])
theorem b2N {o a b : List FileD} {l : List Str} {i : Nat} (h : i < l.length) : runJ o a b (l.take (i + 1)) = stepJ o a b (runJ o a b (l.take i)) l[i] := by
 unfold runJ
 rw [a0C h, List.foldl_append]; rfl
theorem b5q (o a b : List FileD) (l : List Str) : (runJ o a b l).1.length <= l.length /\ (runJ o a b l).2.length <= l.length := by
 have : ∀ (l : List Str) (s : List FileD × List HeadD), (l.foldl (stepJ o a b) s).1.length <= s.1.length + l.length /\ (l.foldl (stepJ o a b) s).2.length <= s.2.length + l.length := by
  intro l
  induction l with
  | nil => intro s; simp
  | cons p l ih =>
   intro s
   obtain ⟨h1, h2⟩ := ih (stepJ o a b s p)
   have h3 : (stepJ o a b s p).1.length <= s.1.length + 1 /\ (stepJ o a b s p).2.length <= s.2.length + 1 := by
    unfold stepJ
    constructor
    ·show (if _ then _ else _ : List FileD).length <= _
     split <;> simp
    ·show (if _ then _ else _ : List HeadD).length <= _
     split <;> simp
   simp only [List.foldl_cons, List.length_cons]
   omega
 have := this l ([], [])
 simpa [runJ] using this
def of6 (o a b : List FileD) : List FileD × List HeadD := runJ o a b (a0H o a b)
def a1h (o a b : List FileD) : List FileD × List HeadD := if (of6 o a b).2 = [] /\ a1R (of6 o a b).1 = false then (o, [⟨[], 4⟩]) else of6 o a b
theorem b8l {o a b : List FileD} (h : (a1h o a b).2 = []) : a1R (a1h o a b).1 = true := by
 unfold a1h at h ⊢
 split
 ·rename_i h2; rw [if_pos h2] at h; simp at h
 ·rename_i h2
  rw [if_neg h2] at h
  cases hq : a1R (of6 o a b).1 with
  | true => rfl
  | false => exact absurd ⟨h, hq⟩ h2
def a1v (r : RepoD) (a b : Int) (i : Nat) : List Int := ((a0w (anc r a)).take i).filter fun x => decide (x ∈ a0w (anc r b))
def a6O (r : RepoD) (l : List Int) (i k : Nat) : Bool := (List.range k).all fun j => decide (j = i) || !decide (l.getD i 0 ∈ a0w (anc r (l.getD j 0)))
def a2N (r : RepoD) (l : List Int) (i : Nat) : List Int := ((List.range i).filter fun j => a6O r l j l.length).map fun j => l.getD j 0
def a3q (r : RepoD) (a b : Int) : List Int := a2N r (a1v r a b (a0w (anc r a)).length) (a1v r a b (a0w (anc r a)).length).length
def a1Q (r : RepoD) (a b : Int) : List FileD := match (a3q r a b).getLast? with
 | none => []
 | some c => a0O r c
def noR : RepoD := ⟨[], []⟩
def a1U (r : RepoD) (n w : Str) (b : Int) : RepoD × Int :=
 if b ∈ a0w (anc r (atL r.heads n)) then (r, 2)
 else if atL r.heads n ∈ a0w (anc r b) then (⟨r.commits, hSet r.heads n b⟩, 3)
 else if (a1h (a1Q r (atL r.heads n) b) (a0O r (atL r.heads n)) (a0O r b)).2 = [] then
  (if a0Q (addR r n ⟨[atL r.heads n, b], w, (a1h (a1Q r (atL r.heads n) b) (a0O r (atL r.heads n)) (a0O r b)).1⟩) then
   (addR r n ⟨[atL r.heads n, b], w, (a1h (a1Q r (atL r.heads n) b) (a0O r (atL r.heads n)) (a0O r b)).1⟩, 0) else (r, 5))
 else (r, 4)
def a0Y (r : RepoD) (n w : Str) (b : Int) : RepoD × Int :=
 if a0Q r then (if atL r.heads n < 0 \/ a1m w = false \/ ¬ (0 <= b /\ b < r.commits.length) then (r, 1) else a1U r n w b) else (noR, 1)
theorem a7h : ∀ {l : List HeadD}, (∀ i, 0 < i -> i < l.length -> Go.Op.bytesLess (l.getD (i - 1) default).name (l.getD i default).name = true) -> l.Pairwise fun a b => Go.Op.bytesLess a.name b.name = true
 | [], _ => .nil
 | [x], _ => by simp
 | x :: y :: t, h => by
  have ih := a7h (l := y :: t) fun i h1 h2 => by
   have := h (i + 1) (by omega) (by simp only [List.length_cons] at h2 ⊢; omega)
   rw [show i + 1 - 1 = (i - 1) + 1 by omega, List.getD_cons_succ, List.getD_cons_succ] at this
   exact this
  have hxy := h 1 (by omega) (by simp)
  have hxy : Go.Op.bytesLess x.name y.name = true := by simpa using hxy
  refine List.pairwise_cons.2 ⟨fun z hz => ?_, ih⟩
  rcases List.mem_cons.1 hz with rfl | hz
  ·exact hxy
  ·exact b0O hxy ((List.pairwise_cons.1 ih).1 z hz)
theorem a8N (n : Str) (a : Int) : ∀ (l X : List HeadD), l.foldl (a1w n a) (X, true) = (X ++ l.filter (fun g => decide (g.name ≠ n)), true)
 | [], X => by simp
 | g :: l, X => by
  rw [List.foldl_cons]
  by_cases h : g.name = n
  ·have e : a1w n a (X, true) g = (X, true) := by unfold a1w; simp -implicitDefEqProofs [h]
   rw [e, a8N n a l X]; simp -implicitDefEqProofs [h]
  ·have e : a1w n a (X, true) g = (X ++ [g], true) := by unfold a1w; simp -implicitDefEqProofs [h]
   rw [e, a8N n a l (X ++ [g])]; simp -implicitDefEqProofs [h]
def hAt (n : Str) (a : Int) (h : HeadD) : HeadD := if h.name = n then ⟨n, a⟩ else h
theorem b2x (n : Str) (a : Int) : ∀ (l X : List HeadD), (l.Pairwise fun a b => Go.Op.bytesLess a.name b.name = true) -> (∃ h ∈ l, h.name = n) -> l.foldl (a1w n a) (X, false) = (X ++ l.map (hAt n a), true)
 | [], X, _, h => by obtain ⟨_, h, _⟩ := h; simp at h
 | g :: l, X, hp, hn => by
  obtain ⟨hp1, hp2⟩ := List.pairwise_cons.1 hp
  rw [List.foldl_cons]
  by_cases h : g.name = n
  ·have e : a1w n a (X, false) g = (X ++ [⟨n, a⟩], true) := by unfold a1w; simp -implicitDefEqProofs [h, a4K]
   have hne : ∀ z ∈ l, ¬ z.name = n := fun z hz hc => by
    have := hp1 z hz
    rw [h, hc, a4K] at this
    cases this
   have e2 : l.filter (fun g => decide (g.name ≠ n)) = l := by rw [List.filter_eq_self]; intro z hz; simp -implicitDefEqProofs [hne z hz]
   have e3 : l.map (hAt n a) = l := by
    have : l.map (hAt n a) = l.map id := List.map_congr_left fun z hz => by simp -implicitDefEqProofs [hAt, hne z hz]
    rw [this]; simp
   rw [e, a8N, e2]; simp -implicitDefEqProofs [e3, hAt, h]
  ·obtain ⟨z, hz, hzn⟩ := hn
   have hz : z ∈ l := by
    rcases List.mem_cons.1 hz with rfl | hz
    ·exact absurd hzn h
    ·exact hz
   have hl : Go.Op.bytesLess g.name n = true := by rw [<- hzn]; exact hp1 z hz
   have e : a1w n a (X, false) g = (X ++ [g], false) := by unfold a1w; simp -implicitDefEqProofs [h, hl]
   rw [e, b2x n a l (X ++ [g]) hp2 ⟨z, hz, hzn⟩]; simp -implicitDefEqProofs [hAt, h]
theorem a9J {l : List HeadD} {n : Str} {a : Int} (hl : ∀ i, 0 < i -> i < l.length -> Go.Op.bytesLess (l.getD (i - 1) default).name (l.getD i default).name = true) (hn : ∃ h ∈ l, h.name = n) :
  hSet l n a = l.map (hAt n a) := by
 unfold hSet hL
 rw [b2x n a l [] (a7h hl) hn]
 simp
theorem c5z {l : List HeadD} {n : Str} (h : 0 <= atL l n) : ∃ h ∈ l, h.name = n := by
 induction l with
 | nil => simp -implicitDefEqProofs [atL] at h
 | cons g l ih =>
  unfold atL at h
  split at h
  ·rename_i e; exact ⟨g, by simp, e⟩
  ·obtain ⟨x, h1, h2⟩ := ih h; exact ⟨x, by simp -implicitDefEqProofs [h1], h2⟩
theorem b9V {l : List HeadD} {n : Str} {k : Nat} (hl : a1J k l = true) : atL l n < k /\ -1 <= atL l n \/ atL l n = -1 := by
 have h2 := ((a2z _ _).1 hl).2
 have : ∀ (l' : List HeadD), (∀ h ∈ l', 0 <= h.at_ /\ h.at_ < k) -> atL l' n < k /\ -1 <= atL l' n \/ atL l' n = -1 := by
  intro l'
  induction l' with
  | nil => intro _; right; rfl
  | cons g l' ih =>
   intro h
   unfold atL
   split
   ·left; have := h g (by simp); omega
   ·exact ih fun x hx => h x (by simp -implicitDefEqProofs [hx])
 refine this l fun h hh => ?_
 obtain ⟨i, hi, rfl⟩ := List.getElem_of_mem hh
 have := h2 i hi
 simp only [okHd, inN, List.getD_eq_getElem?_getD, List.getElem?_eq_getElem hi, Option.getD_some, Bool.and_eq_true, decide_eq_true_eq] at this
 omega
theorem b8h {k : Nat} {l : List HeadD} {n : Str} {b : Int} (h : a1J k l = true) (hn : 0 <= atL l n) (hb : 0 <= b /\ b < k) : a1J k (hSet l n b) = true := by
 obtain ⟨h1, h2⟩ := (a2z _ _).1 h
 have hg : ∀ i (hi : i < l.length), l.getD i default = l[i] := fun i hi => by simp -implicitDefEqProofs [List.getD_eq_getElem?_getD, hi]
 rw [a9J (fun i h3 h4 => by
  have := h2 i h4
  unfold okHd at this
  simp only [Bool.and_eq_true, Bool.or_eq_true, decide_eq_true_eq] at this
  rcases this.2 with h5 | h5
  ·omega
  ·exact h5) (c5z hn), a2z]
 have hm : ∀ i (hi : i < l.length), (l.map (hAt n b)).getD i default = hAt n b l[i] := fun i hi => by simp -implicitDefEqProofs [List.getD_eq_getElem?_getD, hi]
 have hname : ∀ g : HeadD, (hAt n b g).name = g.name := fun g => by unfold hAt; split <;> simp_all
 refine ⟨by simpa using h1, fun i hi => ?_⟩
 have hi : i < l.length := by simpa using hi
 have h3 := h2 i hi
 unfold okHd at h3 ⊢
 rw [hm i hi, hname]
 rw [hg i hi] at h3
 have hat : inN k (hAt n b l[i]).at_ = true := by
  simp only [Bool.and_eq_true] at h3
  unfold hAt
  split
  ·simp only [inN, Bool.and_eq_true, decide_eq_true_eq]; omega
  ·exact h3.1.2
 rw [hat]
 rcases Nat.eq_zero_or_pos i with h0 | h0
 ·subst h0
  simp only [Bool.and_eq_true] at h3
  simp -implicitDefEqProofs [h3.1.1]
 ·rw [hm (i - 1) (by omega), hname]
  rw [hg (i - 1) (by omega)] at h3
  simp only [Bool.and_eq_true] at h3 ⊢
  exact ⟨⟨h3.1.1, trivial⟩, h3.2⟩
theorem b6y {r : RepoD} {n : Str} {b : Int} (h : a0Q r = true) (hn : 0 <= atL r.heads n) (hb : 0 <= b /\ b < r.commits.length) : a0Q ⟨r.commits, hSet r.heads n b⟩ = true := by
 obtain ⟨h1, h2, h3⟩ := (a1j r).1 h
 exact (a1j _).2 ⟨h1, b8h h2 hn hb, h3⟩
theorem b6Y (l : List HeadD) (n : Str) (a : Int) : hSet l n a ≠ [] := by
 have : ∀ (l : List HeadD) (s : List HeadD × Bool), (s.2 = true -> s.1 ≠ []) -> ((l.foldl (a1w n a) s).2 = true -> (l.foldl (a1w n a) s).1 ≠ []) := by
  intro l
  induction l with
  | nil => intro s h; exact h
  | cons g l ih =>
   intro s h
   refine ih (a1w n a s g) ?_
   unfold a1w
   split
   ·split <;> simp
   ·split
    ·exact h
    ·simp
 unfold hSet
 split
 ·rename_i h; exact this l ([], false) (by simp) h
 ·simp
theorem c2v {r : RepoD} {n w : Str} {b : Int} (h : a0Q r = true) (hn : 0 <= atL r.heads n) (hb : 0 <= b /\ b < r.commits.length) (hh : r.commits ≠ [] -> r.heads ≠ []) :
  a0Q (a1U r n w b).1 = true /\ ((a1U r n w b).1.commits ≠ [] -> (a1U r n w b).1.heads ≠ []) := by
 unfold a1U
 split
 ·exact ⟨h, hh⟩
 ·split
  ·exact ⟨b6y h hn hb, fun _ => b6Y _ _ _⟩
  ·split
   ·split
    ·rename_i q; exact ⟨q, fun _ => b6Y _ _ _⟩
    ·exact ⟨h, hh⟩
   ·exact ⟨h, hh⟩
theorem c2x {r : RepoD} {n w : Str} {b : Int} (h : a0Q r = true) (hh : r.commits ≠ [] -> r.heads ≠ []) :
  a0Q (a0Y r n w b).1 = true /\ ((a0Y r n w b).1.commits ≠ [] -> (a0Y r n w b).1.heads ≠ []) := by
 unfold a0Y
 rw [if_pos h]
 split
 ·exact ⟨h, hh⟩
 ·rename_i q
  exact c2v h (by omega) (by omega) hh
def clrN (l : List Bool) (i : Int) (ks : List Int) : List Bool := ks.foldl (fun l k => if k = i then l else l.set k.toNat false) l
theorem b4j (i : Int) (ks : List Int) : ∀ l : List Bool, (clrN l i ks).length = l.length := by
 induction ks with
 | nil => intro l; rfl
 | cons p r ih =>
  intro l
  show (clrN (if p = i then l else l.set p.toNat false) i r).length = _
  rw [ih]; split <;> simp
def comB (r : RepoD) (a b : Int) : List Bool := (List.range r.commits.length).map fun i => isT (anc r a) i && isT (anc r b) i
theorem a7d (r : RepoD) (a b : Int) : (comB r a b).length = r.commits.length := by simp -implicitDefEqProofs [comB]
def bigT (r : RepoD) (L : List Int) (l : List Bool) : List Bool := L.foldl (fun l i => clrN l i (a0w (anc r i))) l
theorem a6P (r : RepoD) (L : List Int) : ∀ l : List Bool, (bigT r L l).length = l.length := by
 induction L with
 | nil => intro l; rfl
 | cons i L ih =>
  intro l
  show (bigT r L (clrN l i (a0w (anc r i)))).length = _
  rw [ih, b4j]
def a1H (r : RepoD) (a b : Int) : List Int := a0w (bigT r (a0w (comB r a b)) (comB r a b))
theorem c5Q {l : List Bool} {p g : Nat} : isT (l.set p false) g = (isT l g && !decide (p = g)) := by
 unfold isT
 rw [List.getD_eq_getElem?_getD, List.getD_eq_getElem?_getD]
 by_cases h : p = g
 ·subst h
  rw [List.getElem?_set_self']
  cases l[p]? <;> simp
 ·rw [List.getElem?_set_ne h]; simp -implicitDefEqProofs [h]
theorem c3e (i : Int) {ks : List Int} (hk : ∀ k ∈ ks, 0 <= k) (g : Nat) : ∀ l : List Bool, isT (clrN l i ks) g = (isT l g && (decide ((g : Int) = i) || !decide ((g : Int) ∈ ks))) := by
 induction ks with
 | nil => intro l; simp -implicitDefEqProofs [clrN]
 | cons p r ih =>
  intro l
  show isT (clrN (if p = i then l else l.set p.toNat false) i r) g = _
  rw [ih (fun k hk' => hk k (by simp -implicitDefEqProofs [hk']))]
  have hp := hk p (by simp)
  split
  ·rename_i h
   subst h
   cases hq : isT l g <;> simp
   by_cases hg : (g : Int) = p
   ·simp -implicitDefEqProofs [hg]
   ·simp -implicitDefEqProofs [hg]
  ·rename_i h
   rw [c5Q]
   have e : (p.toNat = g) = ((g : Int) = p) := by apply propext; omega
   cases hq : isT l g <;> simp -implicitDefEqProofs [e]
   by_cases hg : (g : Int) = p
   ·simp -implicitDefEqProofs [hg, h]
   ·simp -implicitDefEqProofs [hg]
theorem c3P {l : List Bool} : ∀ k ∈ a0w l, 0 <= k := fun k hk => by obtain ⟨i, _, _, rfl⟩ := listT_mem.1 hk; omega
theorem c2X (r : RepoD) (L : List Int) (g : Nat) : ∀ l : List Bool, isT (bigT r L l) g = (isT l g && L.all fun i => decide ((g : Int) = i) || !decide ((g : Int) ∈ a0w (anc r i))) := by
 induction L with
 | nil => intro l; simp -implicitDefEqProofs [bigT]
 | cons i L ih =>
  intro l
  show isT (bigT r L (clrN l i (a0w (anc r i)))) g = _
  rw [ih, c3e i c3P, List.all_cons, Bool.and_assoc]
def lastB (r : RepoD) (L : List Int) (x : Int) : Bool := L.all fun y => decide (x = y) || !decide (x ∈ a0w (anc r y))
theorem a8e {l m : List Bool} (hl : l.length = m.length) (p : Int -> Bool) (h : ∀ g : Nat, isT m g = (isT l g && p g)) : a0w m = (a0w l).filter p := by
 unfold a0w a3a
 rw [<- hl, List.filter_map, List.filter_filter]
 congr 1
 apply List.filter_congr
 intro g _
 rw [h g, Bool.and_comm]; rfl
theorem c0e (r : RepoD) (a b : Int) : a1H r a b = (a0w (comB r a b)).filter (lastB r (a0w (comB r a b))) :=
 a8e (a6P _ _ _).symm _ fun g => c2X r _ g _
theorem a8O {l : List Bool} {g : Nat} (h : isT l g = true) : g < l.length := by
 unfold isT at h
 rcases Nat.lt_or_ge g l.length with h2 | h2
 ·exact h2
 ·rw [List.getD_eq_getElem?_getD, List.getElem?_eq_none h2] at h; simp at h
theorem c3w {r : RepoD} {a b : Int} (g : Nat) : isT (comB r a b) g = (isT (anc r a) g && isT (anc r b) g) := by
 have hla := a2d r a
 rcases Nat.lt_or_ge g r.commits.length with h | h
 ·unfold comB
  rw [isT, List.getD_eq_getElem?_getD, List.getElem?_map, List.getElem?_range h]; rfl
 ·have e1 : isT (comB r a b) g = false := by
   cases q : isT (comB r a b) g with
   | false => rfl
   | true => have := a8O q; rw [a7d] at this; omega
  have e2 : isT (anc r a) g = false := by
   cases q : isT (anc r a) g with
   | false => rfl
   | true => have := a8O q; rw [hla] at this; omega
  rw [e1, e2]; rfl
theorem c2Y (r : RepoD) (a b : Int) : a1v r a b (a0w (anc r a)).length = a0w (comB r a b) := by
 unfold a1v
 rw [List.take_length]
 refine (a8e (by rw [a7d, a2d]) _ fun g => ?_).symm
 rw [c3w]
 congr 1
 rw [Bool.eq_iff_iff, decide_eq_true_eq, listT_mem]
 constructor
 ·intro h; exact ⟨g, a8O h, h, rfl⟩
 ·rintro ⟨i, _, h, e⟩
  have : g = i := by omega
  rw [this]; exact h
theorem b6q (l : List Bool) : (a0w l).Nodup := by
 unfold a0w a3a
 rw [List.nodup_iff_pairwise_ne, List.pairwise_map]
 exact (List.Pairwise.filter _ List.pairwise_lt_range).imp fun h => by omega
theorem b4s {L : List Int} (p : Int -> Bool) : ((List.range L.length).filter fun i => p (L.getD i 0)).map (fun j => L.getD j 0) = L.filter p := by
 have e : L = (List.range L.length).map fun j => L.getD j 0 := by
  apply List.ext_getElem
  ·simp
  ·intro i h1 h2
   simp -implicitDefEqProofs [List.getD_eq_getElem?_getD, h1]
 have h : L.filter p = ((List.range L.length).map fun j => L.getD j 0).filter p := congrArg (List.filter p) e
 rw [h, List.filter_map]; rfl
theorem b3W (r : RepoD) (a b : Int) : a1H r a b = a3q r a b := by
 rw [c0e]
 unfold a3q
 rw [c2Y]
 have hnd := b6q (comB r a b)
 generalize a0w (comB r a b) = L at *
 rw [<- b4s (lastB r L)]
 unfold a2N
 congr 1
 apply List.filter_congr
 intro i hi
 have hi : i < L.length := by simpa using hi
 have gi : L.getD i 0 = L[i] := by simp -implicitDefEqProofs [List.getD_eq_getElem?_getD, hi]
 unfold lastB a6O
 rw [Bool.eq_iff_iff, List.all_eq_true, List.all_eq_true]
 simp only [List.mem_range, Bool.or_eq_true, decide_eq_true_eq, Bool.not_eq_true', decide_eq_false_iff_not]
 constructor
 ·intro h j hj
  have gj : L.getD j 0 = L[j] := by simp -implicitDefEqProofs [List.getD_eq_getElem?_getD, hj]
  rcases h L[j] (List.getElem_mem hj) with h | h
  ·left
   rw [gi] at h
   exact ((List.getElem_inj hnd).1 h).symm
  ·right; rw [gj]; exact h
 ·intro h y hy
  obtain ⟨j, hj, rfl⟩ := List.getElem_of_mem hy
  have gj : L.getD j 0 = L[j] := by simp -implicitDefEqProofs [List.getD_eq_getElem?_getD, hj]
  rcases h j hj with h | h
  ·left; subst h; exact gi
  ·right; rw [gj] at h; exact h
def szI (a : List Int) (l : Int) : Int := if l - a.length < 0 then -1 else l - a.length
theorem b5B {a : List Int} {l : Int} (h : 0 <= l) : szI a l <= l := by unfold szI; split <;> omega
def b1N : Con := .fn 12 (List Int × Int) (fun a => [.sl true 1 (a0d a.1), .int .i64 a.2]) (fun a => 0 <= a.2 /\ a.2 <= 1048576) (fun a => .int .i64 (szI a.1 a.2)) (fun _ => [])
theorem b9u : Has Tryz.prog 156 b1N := by
 refine a0e mixed a0i HasL.nil [0, 1, 4] ((fun a n (_ : Nat) => (fun _ => a0K) a n)) [] Tryz.func156 (by unfold Tryz.f156; rfl) (fun _ => ⟨(), trivial⟩) ?_
 intro a ha
 obtain ⟨f, n⟩ := a
 obtain ⟨h1, h2⟩ : 0 <= n /\ n <= 1048576 := ha
 simp -implicitDefEqProofs [b1N, Con.fn, tTab]
 try dsimp only
 try simp +contextual [eStr, a0y, a0s, a0z, a0t, List.getElem?_eq_getElem, a0u, a0p, a0r, a0q, <- a0h, <- a0f, a0m, a0n, a0l, a0k, a0o, a0j, and_assoc]
 repeat' (first | intro _ | apply And.intro)
 all_goals first | omega | grind [a0A, szI]
def szHd (f : HeadD) (l : Int) : Int := if l - f.name.length < 0 then -1 else l - f.name.length
theorem b2l {f : HeadD} {l : Int} (h : 0 <= l) : szHd f l <= l := by unfold szHd; split <;> omega
def b1M : Con := .fn 13 (HeadD × Int) (fun a => [.agg [.str a.1.name, .int .i64 a.1.at_], .int .i64 a.2]) (fun a => 0 <= a.2 /\ a.2 <= 1048576) (fun a => .int .i64 (szHd a.1 a.2)) (fun _ => [])
theorem b9s : Has Tryz.prog 126 b1M := by
 refine a0e mixed a0i HasL.nil [0, 1, 2, 4] ((fun a n (_ : Nat) => (fun _ => a0K) a n)) [] Tryz.func126 (by unfold Tryz.f126; rfl) (fun _ => ⟨(), trivial⟩) ?_
 intro a ha
 obtain ⟨f, n⟩ := a
 obtain ⟨h1, h2⟩ : 0 <= n /\ n <= 1048576 := ha
 simp -implicitDefEqProofs [b1M, Con.fn, tTab]
 try dsimp only
 try simp +contextual [eStr, a0y, a0s, a0z, a0t, List.getElem?_eq_getElem, a0u, a0p, a0r, a0q, <- a0h, <- a0f, a0m, a0n, a0l, a0k, a0o, a0j, and_assoc]
 repeat' (first | intro _ | apply And.intro)
 all_goals first | omega | grind [a0A, szHd]
def szHL : List HeadD -> Int -> Int
 | [], l => l
 | f :: r, l => if szHd f l < 0 then -1 else szHL r (szHd f l)
def a3V (a : List HeadD) (l : Int) : Int := if l - a.length < 0 then -1 else szHL a (l - a.length)
theorem c2p {a : List HeadD} {i : Nat} {l : Int} (h : i < a.length) : szHL (a.drop i) l = if szHd a[i] l < 0 then -1 else szHL (a.drop (i + 1)) (szHd a[i] l) := by
 rw [List.drop_eq_getElem_cons h]; rfl
theorem c4O {a : List HeadD} {i : Nat} {l : Int} (h : a.length <= i) : szHL (a.drop i) l = l := by
 rw [List.drop_eq_nil_of_le h]; rfl
def a9C : Con := .fn 27 (List HeadD × Int) (fun a => [.sl true 2 (a0b a.1), .int .i64 a.2]) (fun a => 0 <= a.2 /\ a.2 <= 1048576) (fun a => .int .i64 (a3V a.1 a.2)) (fun _ => [])
theorem b6G : Has Tryz.prog 78 a9C := by
 refine a0e mixed a0i (HasL.cons b9s HasL.nil) [0, 1, 4, 5] ((fun a n (_ : Nat) => (fun a _ => ⟨Nat × Int, fun t => ⟨[(0, true, .sl true 2 (a0b a.1)), (1, true, .int .i64 t.2), (4, true, .int .i64 0), (5, true, .int .i64 t.1)], []⟩, fun t => t.1 <= a.1.length /\ 0 <= t.2 /\ t.2 <= 1048576 /\ szHL (a.1.drop t.1) t.2 = a3V a.1 a.2, fun t => a.1.length - t.1⟩) a n)) [] Tryz.func78 (by unfold Tryz.f78; rfl) (fun _ => ⟨(), trivial⟩) ?_
 intro a ha
 obtain ⟨l, n⟩ := a
 obtain ⟨h1, h2⟩ : 0 <= n /\ n <= 1048576 := ha
 have hle : ∀ (f : HeadD) (l : Int), 0 <= l -> szHd f l <= l := fun f l => b2l
 simp -implicitDefEqProofs [a9C, Con.fn, tTab, b1M]
 try dsimp only
 try simp +contextual [eStr, a0y, a0s, a0z, a0t, List.getElem?_eq_getElem, a0u, a0p, a0r, a0q, <- a0h, <- a0f, a0m, a0n, a0l, a0k, a0o, a0j, and_assoc, eInt, a0R, a0E, a2e, a2R, a3i, a2S, a2Q, a2h, <- a2n, a1T, a2P, a2B, a2A, a1S, <- a1Z, a2m, a2l, a1Y, a1X, a1d, <- a1C, <- HeadD.eq_iff]
 repeat' (first | intro _ | apply And.intro)
 all_goals first | omega | grind [a0A, a3V, c2p, c4O]
theorem c4N : ∀ {a : List FileD} {l : Int}, 0 <= l -> szFL a l <= l := by
 intro a
 induction a with
 | nil => intro l _; exact Int.le_refl l
 | cons s r ih =>
  intro l h
  simp only [szFL]
  split
  ·omega
  ·have h1 := b5A (f := s) h
   have := ih (l := szF s l) (by omega); omega
theorem c6N {a : List FileD} {l : Int} (h : 0 <= l) : a2L a l <= l := by
 unfold a2L
 split
 ·omega
 ·have := c4N (a := a) (l := l - a.length) (by omega); omega
def szCm (c : CommitD) (l : Int) : Int :=
 if szI c.parents l < 0 then -1 else if szI c.parents l - c.who.length < 0 then -1 else if a2L c.tree (szI c.parents l - c.who.length) < 0 then -1 else a2L c.tree (szI c.parents l - c.who.length)
theorem b2k {c : CommitD} {l : Int} (h : 0 <= l) : szCm c l <= l := by
 unfold szCm
 have h1 := b5B (a := c.parents) h
 split
 ·omega
 ·split
  ·omega
  ·split
   ·omega
   ·have := c6N (a := c.tree) (l := szI c.parents l - c.who.length) (by omega); omega
def a7V : Con := .fn 25 (CommitD × Int) (fun a => [.agg [.sl true 1 (a0d a.1.parents), .str a.1.who, .sl true 2 (a0c a.1.tree)], .int .i64 a.2]) (fun a => 0 <= a.2 /\ a.2 <= 1048576) (fun a => .int .i64 (szCm a.1 a.2)) (fun _ => [])
theorem b5x : Has Tryz.prog 125 a7V := by
 refine a0e mixed a0i (HasL.cons b9u (HasL.cons b6E HasL.nil)) [0, 1, 2, 4] ((fun a n (_ : Nat) => (fun _ => a0K) a n)) [] Tryz.func125 (by unfold Tryz.f125; rfl) (fun _ => ⟨(), trivial⟩) ?_
 intro a ha
 obtain ⟨f, n⟩ := a
 obtain ⟨h1, h2⟩ : 0 <= n /\ n <= 1048576 := ha
 have h3 := b5B (a := f.parents) h1
 simp -implicitDefEqProofs [a7V, Con.fn, tTab, b1N, a9B]
 try dsimp only
 try simp +contextual [eStr, a0y, a0s, a0z, a0t, List.getElem?_eq_getElem, a0u, a0p, a0r, a0q, <- a0h, <- a0f, a0m, a0n, a0l, a0k, a0o, a0j, and_assoc]
 repeat' (first | intro _ | apply And.intro)
 all_goals first | omega | grind [a0A, szCm]
def szCL : List CommitD -> Int -> Int
 | [], l => l
 | f :: r, l => if szCm f l < 0 then -1 else szCL r (szCm f l)
def a1F (a : List CommitD) (l : Int) : Int := if l - a.length < 0 then -1 else szCL a (l - a.length)
theorem c2n {a : List CommitD} {i : Nat} {l : Int} (h : i < a.length) : szCL (a.drop i) l = if szCm a[i] l < 0 then -1 else szCL (a.drop (i + 1)) (szCm a[i] l) := by
 rw [List.drop_eq_getElem_cons h]; rfl
theorem c4K {a : List CommitD} {i : Nat} {l : Int} (h : a.length <= i) : szCL (a.drop i) l = l := by
 rw [List.drop_eq_nil_of_le h]; rfl
theorem c6I : ∀ {a : List CommitD} {l : Int}, 0 <= l -> szCL a l <= l := by
 intro a
 induction a with
 | nil => intro l _; exact Int.le_refl l
 | cons s r ih =>
  intro l h
  simp only [szCL]
  split
  ·omega
  ·have h1 := b2k (c := s) h
   have := ih (l := szCm s l) (by omega); omega
theorem a5M {a : List CommitD} {l : Int} (h : 0 <= l) : a1F a l <= l := by
 unfold a1F
 split
 ·omega
 ·have := c6I (a := a) (l := l - a.length) (by omega); omega
def a6Z : Con := .fn 27 (List CommitD × Int) (fun a => [.sl true 3 (a1f a.1), .int .i64 a.2]) (fun a => 0 <= a.2 /\ a.2 <= 1048576) (fun a => .int .i64 (a1F a.1 a.2)) (fun _ => [])
theorem b3l : Has Tryz.prog 77 a6Z := by
 refine a0e mixed a0i (HasL.cons b5x HasL.nil) [0, 1, 4, 5] ((fun a n (_ : Nat) => (fun a _ => ⟨Nat × Int, fun t => ⟨[(0, true, .sl true 3 (a1f a.1)), (1, true, .int .i64 t.2), (4, true, .int .i64 0), (5, true, .int .i64 t.1)], []⟩, fun t => t.1 <= a.1.length /\ 0 <= t.2 /\ t.2 <= 1048576 /\ szCL (a.1.drop t.1) t.2 = a1F a.1 a.2, fun t => a.1.length - t.1⟩) a n)) [] Tryz.func77 (by unfold Tryz.f77; rfl) (fun _ => ⟨(), trivial⟩) ?_
 intro a ha
 obtain ⟨l, n⟩ := a
 obtain ⟨h1, h2⟩ : 0 <= n /\ n <= 1048576 := ha
 have hle : ∀ (f : CommitD) (l : Int), 0 <= l -> szCm f l <= l := fun f l => b2k
 simp -implicitDefEqProofs [a6Z, Con.fn, tTab, a7V]
 try dsimp only
 try simp +contextual [eStr, a0y, a0s, a0z, a0t, List.getElem?_eq_getElem, a0u, a0p, a0r, a0q, <- a0h, <- a0f, a0m, a0n, a0l, a0k, a0o, a0j, and_assoc, eInt, a0R, a0E, a2e, a2R, a3i, a2S, a2Q, a2h, <- a2n, a1T, a2P, a2B, a2A, a1S, <- a1Z, a2m, a2l, a1Y, a1X, a1d, <- a1C, <- CommitD.eq_iff]
 repeat' (first | intro _ | apply And.intro)
 all_goals first | omega | grind [a0A, a1F, c2n, c4K]
def szRp (r : RepoD) (l : Int) : Int := if a1F r.commits l < 0 then -1 else if a3V r.heads (a1F r.commits l) < 0 then -1 else a3V r.heads (a1F r.commits l)
def b1O : Con := .fn 18 (RepoD × Int) (fun a => [b8M a.1, .int .i64 a.2]) (fun a => 0 <= a.2 /\ a.2 <= 1048576) (fun a => .int .i64 (szRp a.1 a.2)) (fun _ => [])
theorem b9v : Has Tryz.prog 24 b1O := by
 refine a0e mixed a0i (HasL.cons b3l (HasL.cons b6G HasL.nil)) [0, 1, 2, 4] ((fun a n (_ : Nat) => (fun _ => a0K) a n)) [] Tryz.func24 (by unfold Tryz.f24; rfl) (fun _ => ⟨(), trivial⟩) ?_
 intro a ha
 obtain ⟨f, n⟩ := a
 obtain ⟨h1, h2⟩ : 0 <= n /\ n <= 1048576 := ha
 have h3 := a5M (a := f.commits) h1
 simp -implicitDefEqProofs [b1O, Con.fn, tTab, a6Z, a9C]
 try dsimp only
 try simp +contextual [eStr, a0y, a0s, a0z, a0t, List.getElem?_eq_getElem, a0u, a0p, a0r, a0q, <- a0h, <- a0f, a0m, a0n, a0l, a0k, a0o, a0j, and_assoc]
 repeat' (first | intro _ | apply And.intro)
 all_goals first | omega | grind [a0A, szRp]
def b1u : Con := .fn 26 (List Int × List Int) (fun a => [.sl true 1 (a0d a.1), .sl true 1 (a0d a.2)]) (fun _ => True) (fun a => .bool (decide (a.1 = a.2))) (fun _ => [])
theorem b8b : Has Tryz.prog 160 b1u := by
 refine a0e mixed a0i HasL.nil [0, 1, 2, 3, 4, 5] ((fun a n (_ : Nat) => (fun a _ => ⟨Nat, fun i => ⟨[(0, true, .sl true 1 (a0d a.1)), (1, true, .sl true 1 (a0d a.2)), (4, true, .bool false), (5, true, .int .i64 i)], []⟩, fun i => i <= a.1.length /\ a.1.length = a.2.length /\ a.1.take i = a.2.take i, fun i => a.1.length - i⟩) a n)) [] Tryz.func160 (by unfold Tryz.f160; rfl) (fun _ => ⟨(), trivial⟩) ?_
 intro a _
 obtain ⟨l, r⟩ := a
 simp -implicitDefEqProofs [b1u, Con.fn, tTab]
 try dsimp only
 try simp +contextual [eStr, a0y, a0s, a0z, a0t, List.getElem?_eq_getElem, a0u, a0p, a0r, a0q, <- a0h, <- a0f, a0m, a0n, a0l, a0k, a0o, a0j, and_assoc, eInt, a0R, a0E, a2e, a2R, a3i, a2S, a2Q, a2h, <- a2n, a1T, a2P, a2B, a2A, a1S, <- a1Z, a2m, a2l, a1Y, a1X, a1d, <- a1C]
 repeat' (first | intro _ | apply And.intro)
 all_goals first | omega | grind [a0A, a4D, a3r]
def b1t : Con := .fn 15 (HeadD × HeadD) (fun a => [.agg [.str a.1.name, .int .i64 a.1.at_], .agg [.str a.2.name, .int .i64 a.2.at_]]) (fun _ => True) (fun a => .bool (decide (a.1 = a.2))) (fun _ => [])
theorem b8a : Has Tryz.prog 130 b1t := by
 refine a0e mixed a0i HasL.nil [0, 1, 2, 3, 4] ((fun a n (_ : Nat) => (fun _ => a0K) a n)) [] Tryz.func130 (by unfold Tryz.f130; rfl) (fun _ => ⟨(), trivial⟩) ?_
 intro a _
 obtain ⟨⟨p, x⟩, ⟨q, y⟩⟩ := a
 simp -implicitDefEqProofs [b1t, Con.fn, tTab]
 try dsimp only
 try simp +contextual [eStr, a0y, a0s, a0z, a0t, List.getElem?_eq_getElem, a0u, a0p, a0r, a0q, <- a0h, <- a0f, a0m, a0n, a0l, a0k, a0o, a0j, and_assoc]
 repeat' (first | intro _ | apply And.intro)
 all_goals first | omega | grind [a0A]
def a9r : Con := .fn 27 (List HeadD × List HeadD) (fun a => [.sl true 2 (a0b a.1), .sl true 2 (a0b a.2)]) (fun _ => True) (fun a => .bool (decide (a.1 = a.2))) (fun _ => [])
theorem b5X : Has Tryz.prog 82 a9r := by
 refine a0e mixed a0i (HasL.cons b8a HasL.nil) [0, 1, 2, 3, 4, 5] ((fun a n (_ : Nat) => (fun a _ => ⟨Nat, fun i => ⟨[(0, true, .sl true 2 (a0b a.1)), (1, true, .sl true 2 (a0b a.2)), (4, true, .bool false), (5, true, .int .i64 i)], []⟩, fun i => i <= a.1.length /\ a.1.length = a.2.length /\ a.1.take i = a.2.take i, fun i => a.1.length - i⟩) a n)) [] Tryz.func82 (by unfold Tryz.f82; rfl) (fun _ => ⟨(), trivial⟩) ?_
 intro a _
 obtain ⟨l, r⟩ := a
 simp -implicitDefEqProofs [a9r, Con.fn, tTab, b1t]
 try dsimp only
 try simp +contextual [eStr, a0y, a0s, a0z, a0t, List.getElem?_eq_getElem, a0u, a0p, a0r, a0q, <- a0h, <- a0f, a0m, a0n, a0l, a0k, a0o, a0j, and_assoc, eInt, a0R, a0E, a2e, a2R, a3i, a2S, a2Q, a2h, <- a2n, a1T, a2P, a2B, a2A, a1S, <- a1Z, a2m, a2l, a1Y, a1X, a1d, <- a1C, <- HeadD.eq_iff]
 repeat' (first | intro _ | apply And.intro)
 all_goals first | omega | grind [a0A, a4D, a3r]
def a7P : Con := .fn 22 (CommitD × CommitD) (fun a => [.agg [.sl true 1 (a0d a.1.parents), .str a.1.who, .sl true 2 (a0c a.1.tree)], .agg [.sl true 1 (a0d a.2.parents), .str a.2.who, .sl true 2 (a0c a.2.tree)]]) (fun _ => True) (fun a => .bool (decide (a.1 = a.2))) (fun _ => [])
theorem b4q : Has Tryz.prog 129 a7P := by
 refine a0e mixed a0i (HasL.cons b8b (HasL.cons b5W HasL.nil)) [0, 1, 2, 3, 4] ((fun a n (_ : Nat) => (fun _ => a0K) a n)) [] Tryz.func129 (by unfold Tryz.f129; rfl) (fun _ => ⟨(), trivial⟩) ?_
 intro a _
 obtain ⟨⟨p, x, s⟩, ⟨q, y, t⟩⟩ := a
 simp -implicitDefEqProofs [a7P, Con.fn, tTab, b1u, a9q]
 try dsimp only
 try simp +contextual [eStr, a0y, a0s, a0z, a0t, List.getElem?_eq_getElem, a0u, a0p, a0r, a0q, <- a0h, <- a0f, a0m, a0n, a0l, a0k, a0o, a0j, and_assoc]
 repeat' (first | intro _ | apply And.intro)
 all_goals first | omega | grind [a0A]
def a6S : Con := .fn 27 (List CommitD × List CommitD) (fun a => [.sl true 3 (a0g a.1), .sl true 3 (a0g a.2)]) (fun _ => True) (fun a => .bool (decide (a.1 = a.2))) (fun _ => [])
theorem b2Y : Has Tryz.prog 81 a6S := by
 refine a0e mixed a0i (HasL.cons b4q HasL.nil) [0, 1, 2, 3, 4, 5] ((fun a n (_ : Nat) => (fun a _ => ⟨Nat, fun i => ⟨[(0, true, .sl true 3 (a0g a.1)), (1, true, .sl true 3 (a0g a.2)), (4, true, .bool false), (5, true, .int .i64 i)], []⟩, fun i => i <= a.1.length /\ a.1.length = a.2.length /\ a.1.take i = a.2.take i, fun i => a.1.length - i⟩) a n)) [] Tryz.func81 (by unfold Tryz.f81; rfl) (fun _ => ⟨(), trivial⟩) ?_
 intro a _
 obtain ⟨l, r⟩ := a
 simp -implicitDefEqProofs [a6S, Con.fn, tTab, a7P]
 try dsimp only
 try simp +contextual [eStr, a0y, a0s, a0z, a0t, List.getElem?_eq_getElem, a0u, a0p, a0r, a0q, <- a0h, <- a0f, a0m, a0n, a0l, a0k, a0o, a0j, and_assoc, eInt, a0R, a0E, a2e, a2R, a3i, a2S, a2Q, a2h, <- a2n, a1T, a2P, a2B, a2A, a1S, <- a1Z, a2m, a2l, a1Y, a1X, a1d, <- a1C, <- CommitD.eq_iff]
 repeat' (first | intro _ | apply And.intro)
 all_goals first | omega | grind [a0A, a4D, a3r]
def b1v : Con := .fn 17 (RepoD × RepoD) (fun a => [a1x a.1, a1x a.2]) (fun _ => True) (fun a => .bool (decide (a.1 = a.2))) (fun _ => [])
theorem b8c : Has Tryz.prog 29 b1v := by
 refine a0e mixed a0i (HasL.cons b2Y (HasL.cons b5X HasL.nil)) [0, 1, 2, 3, 4] ((fun a n (_ : Nat) => (fun _ => a0K) a n)) [] Tryz.func29 (by unfold Tryz.f29; rfl) (fun _ => ⟨(), trivial⟩) ?_
 intro a _
 obtain ⟨⟨p, x⟩, ⟨q, y⟩⟩ := a
 simp -implicitDefEqProofs [b1v, Con.fn, tTab, a6S, a9r]
 try dsimp only
 try simp +contextual [eStr, a0y, a0s, a0z, a0t, List.getElem?_eq_getElem, a0u, a0p, a0r, a0q, <- a0h, <- a0f, a0m, a0n, a0l, a0k, a0o, a0j, and_assoc]
 repeat' (first | intro _ | apply And.intro)
 all_goals first | omega | grind [a0A]
theorem c6K {c : CommitD} {l : Int} (hl : 0 <= l) (h : 0 <= szCm c l) : (c.parents.length : Int) <= l /\ (c.who.length : Int) <= l /\ (c.tree.length : Int) <= l /\ ∀ f ∈ c.tree, (f.path.length : Int) <= l /\ (f.text.length : Int) <= l /\ ∀ s ∈ f.text, (s.length : Int) <= l := by
 unfold szCm at h
 have h0 := b5B (a := c.parents) hl
 split at h
 ·omega
 ·split at h
  ·omega
  ·split at h
   ·omega
   ·rename_i h1 h2 h3
    obtain ⟨q1, q2⟩ := b9r (Int.not_lt.1 h3)
    have hp : (c.parents.length : Int) <= l := by
     unfold szI at h1
     split at h1 <;> omega
    refine ⟨hp, by omega, by omega, fun f hf => ?_⟩
    obtain ⟨r1, r2, r3⟩ := q2 f hf
    exact ⟨by omega, by omega, fun s hs => by have := r3 s hs; omega⟩
theorem c6J : ∀ {a : List CommitD} {l : Int}, 0 <= l -> 0 <= szCL a l -> ∀ c ∈ a, (c.parents.length : Int) <= l /\ (c.who.length : Int) <= l /\ (c.tree.length : Int) <= l /\ ∀ f ∈ c.tree, (f.path.length : Int) <= l /\ (f.text.length : Int) <= l /\ ∀ s ∈ f.text, (s.length : Int) <= l := by
 intro a
 induction a with
 | nil => intro l _ _ c hc; cases hc
 | cons x r ih =>
  intro l hl h c hc
  simp only [szCL] at h
  split at h
  ·omega
  ·rename_i h0
   rcases List.mem_cons.1 hc with rfl | hc
   ·exact c6K hl (by omega)
   ·have hle := b2k (c := x) hl
    obtain ⟨h1, h2, h3, h4⟩ := ih (by omega) h c hc
    refine ⟨by omega, by omega, by omega, fun f hf => ?_⟩
    obtain ⟨r1, r2, r3⟩ := h4 f hf
    exact ⟨by omega, by omega, fun s hs => by have := r3 s hs; omega⟩
theorem b5y {a : List CommitD} {l : Int} (h : 0 <= a1F a l) : (a.length : Int) <= l /\ ∀ c ∈ a, (c.parents.length : Int) <= l /\ (c.who.length : Int) <= l /\ (c.tree.length : Int) <= l /\ ∀ f ∈ c.tree, (f.path.length : Int) <= l /\ (f.text.length : Int) <= l /\ ∀ s ∈ f.text, (s.length : Int) <= l := by
 unfold a1F at h
 split at h
 ·omega
 ·refine ⟨by omega, fun c hc => ?_⟩
  obtain ⟨h1, h2, h3, h4⟩ := c6J (by omega) h c hc
  refine ⟨by omega, by omega, by omega, fun f hf => ?_⟩
  obtain ⟨r1, r2, r3⟩ := h4 f hf
  exact ⟨by omega, by omega, fun s hs => by have := r3 s hs; omega⟩
theorem c6O : ∀ {a : List HeadD} {l : Int}, 0 <= l -> szHL a l <= l := by
 intro a
 induction a with
 | nil => intro l _; exact Int.le_refl l
 | cons s r ih =>
  intro l h
  simp only [szHL]
  split
  ·omega
  ·have h1 := b2l (f := s) h
   have := ih (l := szHd s l) (by omega); omega
theorem b9t {a : List HeadD} {l : Int} (h : 0 <= l) : a3V a l <= l := by
 unfold a3V
 split
 ·omega
 ·have := c6O (a := a) (l := l - a.length) (by omega); omega
theorem c6P : ∀ {a : List HeadD} {l : Int}, 0 <= l -> 0 <= szHL a l -> ∀ h ∈ a, (h.name.length : Int) <= l := by
 intro a
 induction a with
 | nil => intro l _ _ c hc; cases hc
 | cons x r ih =>
  intro l hl h c hc
  simp only [szHL] at h
  split at h
  ·omega
  ·rename_i h0
   have hle := b2l (f := x) hl
   rcases List.mem_cons.1 hc with rfl | hc
   ·unfold szHd at h0
    split at h0 <;> omega
   ·have := ih (by omega) h c hc; omega
theorem b1i {a : List HeadD} {l : Int} (h : 0 <= a3V a l) : (a.length : Int) <= l /\ ∀ h ∈ a, (h.name.length : Int) <= l := by
 unfold a3V at h
 split at h
 ·omega
 ·exact ⟨by omega, fun c hc => by have := c6P (by omega) h c hc; omega⟩
theorem c6R {r : RepoD} {l : Int} (h : 0 <= l) : szRp r l <= l := by
 unfold szRp
 have h1 := a5M (a := r.commits) h
 split
 ·omega
 ·split
  ·omega
  ·have := b9t (a := r.heads) (l := a1F r.commits l) (by omega); omega
theorem c6S {r : RepoD} {l : Int} (hl : 0 <= l) (h : 0 <= szRp r l) : ((r.commits.length : Int) <= l /\ ∀ c ∈ r.commits, (c.parents.length : Int) <= l /\ (c.who.length : Int) <= l /\ (c.tree.length : Int) <= l /\ ∀ f ∈ c.tree, (f.path.length : Int) <= l /\ (f.text.length : Int) <= l /\ ∀ s ∈ f.text, (s.length : Int) <= l) /\
  (r.heads.length : Int) <= l /\ ∀ h ∈ r.heads, (h.name.length : Int) <= l := by
 unfold szRp at h
 have h1 := a5M (a := r.commits) hl
 split at h
 ·omega
 ·split at h
  ·omega
  ·rename_i h2 h3
   obtain ⟨q1, q2⟩ := b1i (Int.not_lt.1 h3)
   exact ⟨b5y (Int.not_lt.1 h2), by omega, fun c hc => by have := q2 c hc; omega⟩
theorem b5C {r : RepoD} (h : 0 <= szRp r 1048576) : rpSz r /\ a4v r := by
 obtain ⟨⟨h1, h2⟩, h3, h4⟩ := c6S (by omega) h
 refine ⟨⟨by omega, fun c hc => ?_, by omega⟩, by omega, fun c hc f hf => ?_⟩
 ·obtain ⟨q1, q2, q3, q4⟩ := h2 c hc
  exact ⟨by omega, by omega, fun g hg => by have := (q4 g hg).2.1; omega⟩
 ·have := ((h2 c hc).2.2.2 f hf).1; omega
theorem a6u {l : List Bool} {x : Int} (h0 : 0 <= x) (h1 : x.toNat < l.length) : isT l x.toNat = decide (x ∈ a0w l) := by
 rw [Bool.eq_iff_iff, decide_eq_true_iff, listT_mem]
 constructor
 ·intro h; exact ⟨x.toNat, h1, h, by omega⟩
 ·rintro ⟨i, _, h2, rfl⟩
  simpa using h2
def Con.view (k : Con) (K : Nat) (rows : k.A -> k.X -> List (List D)) : Con := { k with res := fun a x => .sl false K (rows a x), fin := fun _ _ => [] }
theorem Has.view {P : Program} {f : Nat} {k : Con} (H : Has P f k) (K : Nat) (rows : k.A -> k.X -> List (List D)) (hr : ∀ a x, k.res a x = .own 8 K (rows a x)) (hb : ∀ a, k.boxes a = []) (hl : k.lends = []) : Has P f (k.view K rows) := by
 suffices key : ∀ (a : k.A), k.pre a -> ∀ (c : Cx) (_ : Kn k.need c) (vs : List Value) (β : Nat -> Value) (fp : Nat -> List (Nat × Nat)), c.n = k.n -> c.pins = k.pins2 a β -> vs.length = (k.args a).length -> vs.length <= k.n ->
   SatI c (k.start2 a) ⟨vs.toArray ++ Array.replicate (k.n - vs.length) undef, []⟩ c.w0 β fp ->
   Calls P f vs.toArray c.w0 fun e w' => ∃ x : k.X, k.post a x /\ ∃ v, e = .returned v /\ ∃ β' fp' a', SatI c ⟨fun _ => none, get? []⟩ a' w' β' fp' /\ RelL w' (get? []) β' c [.sl false K (rows a x)] [v] by
  exact ⟨H.enter, H.tot, H.nob, fun (a : k.A) ha c hky vs β fp hn hpin hlen hlen2 S => key a ha c hky vs β fp hn hpin hlen hlen2 S, H.bldr, H.bt.imp id fun h a => ⟨(h a).1, fun x p hp => (by cases hp)⟩⟩
 intro a ha c hky vs β fp hn hpin hlen hlen2 S
 have hp : c.pins = [] := by rw [hpin]; simp -implicitDefEqProofs [Con.pins2, hb, hl]
 refine (H.calls a ha c hky vs β fp hn hpin hlen hlen2 S).mono ?_
 rintro e w' ⟨x, hx, v, rfl, β', fp', a', E, hv⟩
 rw [hr] at hv
 have hv2 : ∃ e, Vw w' (get? (k.fin a x)) β' c false [.sl e K (rows a x)] [v] := by cases hv with | own _ h2 _ _ => exact h2
 obtain ⟨e, f, h1, h2⟩ := hv2
 refine ⟨x, hx, v, rfl, β', fp', a', ⟨?_, ?_, ?_, ?_, ?_, E.fg, E.old, E.os, E.tape, E.output, E.size, E.defers, E.tn, by simp -implicitDefEqProofs [hp]⟩, .sl ⟨e, f, h1, fun z hz => ⟨⟨?_, ?_⟩, (h2 z hz).2⟩⟩ .lnil⟩
 ·intro t g av h; cases h
 ·intro h blk hm; cases hm
 ·intro h blk hm; cases hm
 ·intro h h' blk blk' hm; cases hm
 ·intro h blk hm; cases hm
 ·rintro ⟨h, ty, vs, hm, _⟩; cases hm
 ·intro h e k d R n cc hm; cases hm
--TAB a1t
end Vx
end Go.Proofs.YtokdjnbcdokpjaaGreatDoor
