/-
  Joined by program (merge.py): Base, RowK, Rep, RowR, RowZ, Ca, Cb, Cc, Ce, Cd, Cf, Cg, Ch, Ci, Cj, Lib, Ck, Cl, Pa, Cm, LawA, Cn, Co, Cp, Cq, Cr, Cs, Ct, Ec, Ea, Eb, Ef, Cu, Dd, De, La, Lf, Lg, Ma, Df, Ha, Ia, Ib, Ic, Db, Lb, Lc, Ld, Ed, Mb, Mc, RowO, RowG, Na, Da, Dc, Dg, Id. It shows what the single texts show; conditions: none but those of each lemma.
-/
import Derived.Test.YtonkagjdfpacmaaGreatDoorVc
import Derived.Test.YtonkagjdfpacmaaGreatDoorProg
import Derived.KernelRfl
import Derived.Test.YtonkagjdfpacmaaGreatDoorRows
import Derived.Test.YtonkagjdfpacmaaGreatDoorCards
import Derived.Test.YtonkagjdfpacmaaGreatDoorTie
import Derived.ProofKit
import Derived.OpenShut
import Derived.ShutString
import Derived.Lay
import Derived.LaidMore
import Derived.SevenTiedAt
import Derived.Lib.Walk
import Derived.Lib.Strings
import Derived.Lib.Bytealg
import Derived.Handy
set_option linter.unusedVariables false
set_option linter.unusedSimpArgs false
set_option linter.unusedSectionVars false
namespace Go.Proofs.YtonkagjdfpacmaaGreatDoor
open Vx
namespace Vx
def tTab : List (Nat × TI) := [
(3, ⟨false, [.int .i64], 8, [], 0⟩),
(4, ⟨false, [.bool], 1, [], 0⟩),
(9, ⟨false, [.str], 16, [], 0⟩),
(36, ⟨false, [.sl 9 1], 24, [], 9⟩),
(48, ⟨false, [.sl 5 1], 24, [], 5⟩),
(99, ⟨true, [.str, .sl 9 1], 40, [(9, 0), (36, 1)], 0⟩),
(85, ⟨false, [.sl 99 2], 24, [], 99⟩),
(84, ⟨false, [.sl 3 1], 24, [], 3⟩),
(89, ⟨true, [.str, .int .i64], 24, [(9, 0), (3, 1)], 1⟩),
(25, ⟨false, [.sl 89 2], 24, [], 89⟩),
(87, ⟨true, [.sl 3 1, .str, .sl 99 2], 64, [(84, 0), (9, 1), (85, 2)], 0⟩),
(24, ⟨false, [.sl 87 3], 24, [], 87⟩),
(27, ⟨true, [.sl 87 3, .sl 89 2], 48, [(24, 0), (25, 1)], 0⟩),
(119, ⟨true, [.sl 5 1, .int .i64], 32, [(48, 0), (3, 1)], 0⟩),
(42, ⟨true, [.int .i64, .str, .str, .str, .str, .int .i64, .sl 9 1], 104, [(3, 0), (9, 1), (9, 2), (9, 3), (9, 4), (3, 5), (36, 6)], 0⟩),
(29, ⟨false, [.sl 42 7], 24, [], 42⟩),
(38, ⟨true, [.int .i64, .str, .str, .str, .str, .int .i64, .sl 9 1], 104, [(3, 0), (9, 1), (9, 2), (9, 3), (9, 4), (3, 5), (36, 6)], 0⟩),
(22, ⟨false, [.sl 38 7], 24, [], 38⟩),
(193, ⟨true, [.str, .int .i64], 24, [(9, 0), (3, 1)], 1⟩),
(164, ⟨false, [.sl 193 2], 24, [], 193⟩),
(237, ⟨true, [.bool, .sl 9 1, .sl 9 1, .sl 9 1, .sl 9 1], 104, [(4, 0), (36, 1), (36, 2), (36, 3), (36, 4)], 0⟩),
(242, ⟨false, [.sl 237 5], 24, [], 237⟩),
(270, ⟨false, [.sl 84 1], 24, [], 84⟩),
 (5, ⟨false, [.int .u8], 1, [], 0⟩)]
theorem a0f : ∀ t ti, get? tTab t = some ti -> TOk Tryz.prog t ti := b0s (by kernel_rfl)
theorem mixed : Tryz.prog.follows .mixedOrders = true := by kernel_rfl
def a0F : Nat -> Inv := fun _ => ⟨Unit, fun _ => ⟨[], []⟩, fun _ => True, fun _ => 0⟩
theorem d0v {α : Type} (f : Nat -> α) (d : Nat) (v : α) (h : Nat) : upd f d v h = if h = d then v else f h := rfl
def c8K (e : Nat -> Option (Bool × AV)) (m : Nat -> Option Blk) : Nat -> Option (Bool × AV) := fun t => (e t).map fun p => (p.1, p.2.wipe m)
def c8L (m : Nat -> Option Blk) : Nat -> Option Blk := fun h => (m h).map (Blk.wipe m)
theorem d0E (s : St) (m : Nat -> Option Blk) : s.wipe m = ⟨c8K s.e m, c8L m⟩ := rfl
theorem c5F (e : Nat -> Option (Bool × AV)) (m : Nat -> Option Blk) (t : Nat) : c8K e m t = (e t).map fun p => (p.1, p.2.wipe m) := rfl
theorem c5G (m : Nat -> Option Blk) (h : Nat) : c8L m h = (m h).map (Blk.wipe m) := rfl
abbrev Str := List UInt8
def eStr (s : Str) : List D := [.str s]
def a0b (l : List Str) : List (List D) := l.map eStr
structure FileD where
 path : Str
 text : List Str
 deriving DecidableEq, Inhabited
def a0k (f : FileD) : List D := [.str f.path, .sl 9 1 (a0b f.text)]
def a0a (l : List FileD) : List (List D) := l.map a0k
@[simp] theorem eStrs_length (l : List Str) : (a0b l).length = l.length := by simp [a0b]
@[simp] theorem eStrs_nil : a0b [] = [] := rfl
@[simp] theorem eStrs_get (l : List Str) (i : Nat) : (a0b l)[i]? = l[i]?.map eStr := by simp [a0b]
@[simp] theorem eStrs_getElem (l : List Str) (i : Nat) (h : i < (a0b l).length) : (a0b l)[i] = eStr (l[i]'(by simpa using h)) := by simp [a0b]
@[simp] theorem eStr_inj (a b : Str) : (eStr a = eStr b) = (a = b) := by simp [eStr]
@[simp] theorem eStrs_inj (a b : List Str) : (a0b a = a0b b) = (a = b) := by
 apply propext
 constructor
 ·intro h
  exact List.map_inj_right (fun x y h => by simpa using h) |>.1 h
 ·rintro rfl; rfl
@[simp] theorem eStrs_eq_nil (a : List Str) : (a0b a = []) = (a = []) := by simp [a0b]
@[simp] theorem nil_eq_eStrs (a : List Str) : ([] = a0b a) = (a = []) := by simp [a0b, eq_comm]
theorem a0i (a b : List Str) : a0b (a ++ b) = a0b a ++ a0b b := by simp [a0b]
theorem a0r (a : List Str) (x : Str) : a0b a ++ [[.str x]] = a0b (a ++ [x]) := by simp [a0b, eStr]
theorem a0B (l : List Str) (i : Nat) (s : Str) : (a0b l).set i [.str s] = a0b (l.set i s) := by simp [a0b, List.map_set, eStr]
theorem a0m (l : List Str) (i : Nat) : (a0b l).take i = a0b (l.take i) := by simp [a0b]
theorem a0q (l : List Str) (i : Nat) : (a0b l).drop i = a0b (l.drop i) := by simp [a0b]
theorem a0y (n : Nat) : List.replicate n [D.str []] = a0b (List.replicate n []) := by simp [a0b, eStr]
@[simp] theorem eStrs_flat (l : List Str) : (∀ x ∈ a0b l, ∀ d ∈ x, a7q d) = True := by
 simp only [eq_iff_iff, iff_true]
 intro x hx d hd
 simp only [a0b, List.mem_map] at hx
 obtain ⟨s, _, rfl⟩ := hx
 simp only [eStr, List.mem_singleton] at hd
 subst hd
 trivial
@[simp] theorem eFiles_length (l : List FileD) : (a0a l).length = l.length := by simp [a0a]
@[simp] theorem eFiles_nil : a0a [] = [] := rfl
@[simp] theorem eFiles_get (l : List FileD) (i : Nat) : (a0a l)[i]? = l[i]?.map a0k := by simp [a0a]
@[simp] theorem eFiles_getElem (l : List FileD) (i : Nat) (h : i < (a0a l).length) : (a0a l)[i] = a0k (l[i]'(by simpa using h)) := by simp [a0a]
@[simp] theorem eFile_inj (a b : FileD) : (a0k a = a0k b) = (a = b) := by
 cases a; cases b; simp [a0k]
@[simp] theorem eFiles_inj (a b : List FileD) : (a0a a = a0a b) = (a = b) := by
 apply propext
 constructor
 ·intro h
  exact List.map_inj_right (fun x y h => by simpa using h) |>.1 h
 ·rintro rfl; rfl
@[simp] theorem eFiles_eq_nil (a : List FileD) : (a0a a = []) = (a = []) := by simp [a0a]
@[simp] theorem nil_eq_eFiles (a : List FileD) : ([] = a0a a) = (a = []) := by simp [a0a, eq_comm]
theorem a0j (a : List FileD) (p : Str) (t : List Str) : a0a a ++ [[.str p, .sl 9 1 (a0b t)]] = a0a (a ++ [⟨p, t⟩]) := by simp [a0a, a0k]
theorem a0h (a b : List FileD) : a0a (a ++ b) = a0a a ++ a0a b := by simp [a0a]
theorem a0o (l : List FileD) (i : Nat) : (a0a l).take i = a0a (l.take i) := by simp [a0a]
theorem a0n (l : List FileD) (i : Nat) : (a0a l).drop i = a0a (l.drop i) := by simp [a0a]
theorem a0l (l : List FileD) (i : Nat) (p : Str) (t : List Str) : (a0a l).set i [.str p, .sl 9 1 (a0b t)] = a0a (l.set i ⟨p, t⟩) := by simp [a0a, List.map_set, a0k]
theorem a0s (n : Nat) : List.replicate n [D.str [], .sl 9 1 []] = a0a (List.replicate n ⟨[], []⟩) := by simp [a0a, a0k]
@[simp] theorem FileD.eta (f : FileD) : (⟨f.path, f.text⟩ : FileD) = f := rfl
@[simp] theorem asStr_str (s : Str) : D.asStr (.str s) = s := rfl
@[simp] theorem asRows_sl (e k : Nat) (r : List (List D)) : D.asRows (.sl e k r) = r := rfl
@[simp] theorem asInt_int (k : IntKind) (n : Int) : D.asInt (.int k n) = n := rfl
@[simp] theorem asBool_bool (b : Bool) : D.asBool (.bool b) = b := rfl
theorem a0z (a b : Nat) : ((a : Int) = (b : Int) + 1) = (a = b + 1) := by apply propext; omega
theorem a0D (a b : Nat) : ((a : Int) = (b : Int)) = (a = b) := by apply propext; omega
theorem a0A (a : Nat) : ((a : Int) = 0) = (a = 0) := by apply propext; omega
theorem a0p {α : Type} {l : List α} {i : Nat} (h : i < l.length) : l.take (i + 1) = l.take i ++ [l[i]] := List.take_succ_eq_append_getElem h
@[simp] theorem getD_nat (l : Str) (i : Nat) (h : i < l.length) : l.getD i 0 = l[i] := by simp [List.getD_eq_getElem?_getD, h]
theorem a0G {α : Type} {l : List α} {p : α -> Bool} {i : Nat} (h : i < l.length) : (l.take (i + 1)).all p = ((l.take i).all p && p l[i]) := by
 rw [a0p h, List.all_append]; simp
theorem a4U {α : Type} {l r : List α} {i : Nat} (h1 : i < l.length) (h2 : i < r.length) (h : l.take i = r.take i) (he : l[i] = r[i]) : l.take (i + 1) = r.take (i + 1) := by
 rw [a0p h1, a0p h2, h, he]
theorem a4F {α : Type} {l r : List α} {i : Nat} (h0 : l.length = r.length) (h1 : l.length <= i) (h : l.take i = r.take i) : l = r := by
 rw [List.take_of_length_le h1, List.take_of_length_le (by omega)] at h
 exact h
theorem b7L {α : Type} {o a : List α} {i : Nat} (h1 : i < o.length) (h2 : i < a.length) (h : o.take i = a.take i) : (o.set i a[i]).take (i + 1) = a.take (i + 1) := by
 rw [a0p (by simpa using h1), a0p h2, List.take_set_of_le (Nat.le_refl i), h]; simp
theorem FileD.eq_iff (a b : FileD) : (a = b) = (a.path = b.path /\ a.text = b.text) := by
 cases a; cases b; simp
@[simp] theorem FileD.ex1 (p : Str) (x : List Str) (Q : FileD -> Prop) : (∃ a : FileD, a.path = p /\ a.text = x /\ Q a) = Q ⟨p, x⟩ := by
 apply propext
 constructor
 ·rintro ⟨⟨a, b⟩, rfl, rfl, h⟩; exact h
 ·intro h; exact ⟨⟨p, x⟩, rfl, rfl, h⟩
@[simp] theorem FileD.ex2 (p : Str) (x : List Str) (Q : FileD -> Prop) : (∃ a : FileD, (a.path = p /\ a.text = x) /\ Q a) = Q ⟨p, x⟩ := by
 apply propext
 constructor
 ·rintro ⟨⟨a, b⟩, ⟨rfl, rfl⟩, h⟩; exact h
 ·intro h; exact ⟨⟨p, x⟩, ⟨rfl, rfl⟩, h⟩
theorem c6g (a : Nat) : ((a : Int) = 1) = (a = 1) := by apply propext; omega
/- What unfolds a walk. -/
attribute [simp] d0C a2I d1r d0z c8r d0A d1q c5E c2p d0B b8x c6K c3T b5k c1b b8t b6U c3O c1h c1f c3P c5C c2n c6J b2K c1n c8l c5B c3Q b8z c3Z c3Y b6X c3X flB ldMv subN a1C AV.sgl ldB btys a4f b1e b8y c9v b9T c2z b8c a2Q c2A c5n b9e c3W c1m AV.isSub c8N c6H c6M a3L b0r a2u b0V AV.stolen c2B d0H b9V c5N c6L c3U c3V c1l c1o b8B b8C a8h b8v b8u c1e wk_T wk_n d0G d1t d1s d1O d1P a0T a1X a2o calm a5c a3W b0z a6c b5K a9d pas4 b0Q a2w a7R ren4 a2A m4 a4d a5x a3x apnd a4e a8g a6d b0j mvL AV.mv AV.base AV.moved kBld bldK wrK stK AV.selfOk AV.src TI.flat a5X a8c St.val St.cond St.fn St.next St.set St.trim d0E c5F c5G a6L get? cGet d0v a4p a0Q rm a4h Oper.hnd Sc.st a8a b0K a8Z a0M a4j ldL ld1 a3q a3r a5L a6V a3Y a3O a5G Out.of b0D a6N AV.rows AV.one AV.cells AV.deepOk AV.toD toDs a2O a2b a2W TK.zeroAV TK.zeroD byteOf inR Op.operands Call.operands a3n a7v a5u a6x a3w a5t pasV pasL pas1 a3B okHs a7u a5V a5m rho over a5D a5g a3X a2j a2Y a3F a3f a3e m2 AV.wipe AV.wipeV AV.wipe1 Blk.wipe AV.hs AV.hs.hsL a5e Con.start2 Con.pk b5B fini b0S resA a2J Sc.from b0o renT renV b3j renL ren1 a8i b0p c8H clOf ldMk c1B actB setRow a8T a7q a0F d0l c7Z b8A a4I AV.viewed AV.viewed1
end Vx
end Go.Proofs.YtonkagjdfpacmaaGreatDoor
namespace Go.Proofs.YtonkagjdfpacmaaGreatDoor
open Go.ChangeShapes Go.WideShapes Go.ChangeAt Go.RowKit
namespace Vx
theorem c7w : ownKnob Tryz.prog.godebug = none := by kernel_rfl
theorem laidOut : laidOutB Tryz.prog = true := by kernel_rfl
theorem b9f : b5N tTab = true := by decide
theorem c7Y {T : Nat -> Option TI} (hs : ∀ te, T 9 = some te -> te.cells = [.str]) {ds : List D} (h : Shp T [.sl 9 1] ds) : ∃ l, ds = [.sl 9 1 (a0b l)] := by
 cases h with
 | @sl e k te rows ks ds h1 h2 h3 =>
  cases h3
  rw [hs _ h1] at h2
  obtain ⟨l, rfl, _⟩ := b7I (f := eStr) (p := fun _ => True) (rows := rows) (fun r hr => by
   have := h2 r hr
   cases this with
   | str q1 q2 => cases q2; exact ⟨_, rfl, trivial⟩)
  exact ⟨l, rfl⟩
section
variable {H : Type} {enc : TypeId × Value -> H} {W : World} {sp : Nat -> Bool} {held : Bool} {r : Reach} {base : Nat}
end
end Vx
end Go.Proofs.YtonkagjdfpacmaaGreatDoor
namespace Go.Proofs.YtonkagjdfpacmaaGreatDoor
namespace Vx
def eInt (n : Int) : List D := [.int .i64 n]
@[simp] theorem eInt_inj (a b : Int) : (eInt a = eInt b) = (a = b) := by simp [eInt]
def a0g (l : List Int) : List (List D) := l.map eInt
@[simp] theorem eInts_length (l : List Int) : (a0g l).length = l.length := by simp [a0g]
@[simp] theorem eInts_nil : a0g [] = [] := rfl
@[simp] theorem eInts_get (l : List Int) (i : Nat) : (a0g l)[i]? = l[i]?.map eInt := by simp [a0g]
@[simp] theorem eInts_getElem (l : List Int) (i : Nat) (h : i < (a0g l).length) : (a0g l)[i] = eInt (l[i]'(by simpa using h)) := by simp [a0g]
@[simp] theorem eInts_inj (a b : List Int) : (a0g a = a0g b) = (a = b) := by
 apply propext
 constructor
 ·intro h
  exact List.map_inj_right (fun x y h => by simpa using h) |>.1 h
 ·rintro rfl; rfl
@[simp] theorem eInts_eq_nil (a : List Int) : (a0g a = []) = (a = []) := by simp [a0g]
@[simp] theorem nil_eq_eInts (a : List Int) : ([] = a0g a) = (a = []) := by simp [a0g, eq_comm]
theorem a6Y (a b : List Int) : a0g (a ++ b) = a0g a ++ a0g b := by simp [a0g]
theorem a8R (l : List Int) (i : Nat) : (a0g l).take i = a0g (l.take i) := by simp [a0g]
theorem a8Q (l : List Int) (i : Nat) : (a0g l).drop i = a0g (l.drop i) := by simp [a0g]
theorem a5l (a : List Int) (n : Int) : a0g a ++ [[.int .i64 n]] = a0g (a ++ [n]) := by simp [a0g, eInt]
theorem a7p (l : List Int) (i : Nat) (n : Int) : (a0g l).set i [.int .i64 n] = a0g (l.set i n) := by simp [a0g, List.map_set, eInt]
theorem a9W (n : Nat) : List.replicate n [D.int .i64 0] = a0g (List.replicate n 0) := by simp [a0g, eInt]
@[simp] theorem eInts_flat (l : List Int) : (∀ x ∈ a0g l, ∀ d ∈ x, a7q d) = True := by
 simp only [eq_iff_iff, iff_true]
 intro x hx d hd
 simp only [a0g, List.mem_map] at hx
 obtain ⟨s, _, rfl⟩ := hx
 simp only [eInt, List.mem_singleton] at hd
 subst hd
 trivial
structure HeadD where
 name : Str
 at_ : Int
 deriving DecidableEq, Inhabited
def a1d (a : HeadD) : List D := [.str a.name, .int .i64 a.at_]
@[simp] theorem eHead_inj (a b : HeadD) : (a1d a = a1d b) = (a = b) := by
 cases a; cases b; simp [a1d]
@[simp] theorem HeadD.eta (a : HeadD) : (⟨a.name, a.at_⟩ : HeadD) = a := rfl
theorem HeadD.eq_iff (a b : HeadD) : (a = b) = (a.name = b.name /\ a.at_ = b.at_) := by
 cases a; cases b; simp
@[simp] theorem HeadD.ex1 (x_name : Str) (x_at_ : Int) (Q : HeadD -> Prop) : (∃ a : HeadD, a.name = x_name /\ a.at_ = x_at_ /\ Q a) = Q ⟨x_name, x_at_⟩ := by
 apply propext
 constructor
 ·rintro ⟨⟨_, _⟩, rfl, rfl, h⟩; exact h
 ·intro h; exact ⟨⟨x_name, x_at_⟩, rfl, rfl, h⟩
@[simp] theorem HeadD.ex2 (x_name : Str) (x_at_ : Int) (Q : HeadD -> Prop) : (∃ a : HeadD, (a.name = x_name /\ a.at_ = x_at_) /\ Q a) = Q ⟨x_name, x_at_⟩ := by
 apply propext
 constructor
 ·rintro ⟨⟨_, _⟩, ⟨rfl, rfl⟩, h⟩; exact h
 ·intro h; exact ⟨⟨x_name, x_at_⟩, ⟨rfl, rfl⟩, h⟩
@[simp] theorem HeadD.ex0 (x_name : Str) (x_at_ : Int) : (∃ a : HeadD, a.name = x_name /\ a.at_ = x_at_) = True := by
 simp only [eq_iff_iff, iff_true]
 exact ⟨⟨x_name, x_at_⟩, rfl, rfl⟩
def a0c (l : List HeadD) : List (List D) := l.map a1d
@[simp] theorem eHeads_length (l : List HeadD) : (a0c l).length = l.length := by simp [a0c]
@[simp] theorem eHeads_nil : a0c [] = [] := rfl
@[simp] theorem eHeads_get (l : List HeadD) (i : Nat) : (a0c l)[i]? = l[i]?.map a1d := by simp [a0c]
@[simp] theorem eHeads_getElem (l : List HeadD) (i : Nat) (h : i < (a0c l).length) : (a0c l)[i] = a1d (l[i]'(by simpa using h)) := by simp [a0c]
@[simp] theorem eHeads_inj (a b : List HeadD) : (a0c a = a0c b) = (a = b) := by
 apply propext
 constructor
 ·intro h
  exact List.map_inj_right (fun x y h => by simpa using h) |>.1 h
 ·rintro rfl; rfl
@[simp] theorem eHeads_eq_nil (a : List HeadD) : (a0c a = []) = (a = []) := by simp [a0c]
@[simp] theorem nil_eq_eHeads (a : List HeadD) : ([] = a0c a) = (a = []) := by simp [a0c, eq_comm]
theorem a6k (a b : List HeadD) : a0c (a ++ b) = a0c a ++ a0c b := by simp [a0c]
theorem a7H (l : List HeadD) (i : Nat) : (a0c l).take i = a0c (l.take i) := by simp [a0c]
theorem a7G (l : List HeadD) (i : Nat) : (a0c l).drop i = a0c (l.drop i) := by simp [a0c]
theorem a4E (a : List HeadD) (s : Str) (n : Int) : a0c a ++ [[.str s, .int .i64 n]] = a0c (a ++ [⟨s, n⟩]) := by simp [a0c, a1d]
theorem a4s (l : List HeadD) (i : Nat) (s : Str) (n : Int) : (a0c l).set i [.str s, .int .i64 n] = a0c (l.set i ⟨s, n⟩) := by simp [a0c, List.map_set, a1d]
theorem a8P (n : Nat) : List.replicate n [D.str [], D.int .i64 0] = a0c (List.replicate n ⟨[], 0⟩) := by simp [a0c, a1d]
@[simp] theorem eHeads_flat (l : List HeadD) : (∀ x ∈ a0c l, ∀ d ∈ x, a7q d) = True := by
 simp only [eq_iff_iff, iff_true]
 intro x hx d hd
 simp only [a0c, List.mem_map] at hx
 obtain ⟨s, _, rfl⟩ := hx
 simp only [a1d, List.mem_cons, List.not_mem_nil, or_false] at hd
 rcases hd with rfl | rfl <;> trivial
structure CommitD where
 parents : List Int
 who : Str
 tree : List FileD
 deriving DecidableEq, Inhabited
def a0K (a : CommitD) : List D := [.sl 3 1 (a0g a.parents), .str a.who, .sl 99 2 (a0a a.tree)]
@[simp] theorem eCommit_inj (a b : CommitD) : (a0K a = a0K b) = (a = b) := by
 cases a; cases b; simp [a0K]
@[simp] theorem CommitD.eta (a : CommitD) : (⟨a.parents, a.who, a.tree⟩ : CommitD) = a := rfl
theorem CommitD.eq_iff (a b : CommitD) : (a = b) = (a.parents = b.parents /\ a.who = b.who /\ a.tree = b.tree) := by
 cases a; cases b; simp
@[simp] theorem CommitD.ex1 (x_parents : List Int) (x_who : Str) (x_tree : List FileD) (Q : CommitD -> Prop) : (∃ a : CommitD, a.parents = x_parents /\ a.who = x_who /\ a.tree = x_tree /\ Q a) = Q ⟨x_parents, x_who, x_tree⟩ := by
 apply propext
 constructor
 ·rintro ⟨⟨_, _, _⟩, rfl, rfl, rfl, h⟩; exact h
 ·intro h; exact ⟨⟨x_parents, x_who, x_tree⟩, rfl, rfl, rfl, h⟩
@[simp] theorem CommitD.ex2 (x_parents : List Int) (x_who : Str) (x_tree : List FileD) (Q : CommitD -> Prop) : (∃ a : CommitD, (a.parents = x_parents /\ a.who = x_who /\ a.tree = x_tree) /\ Q a) = Q ⟨x_parents, x_who, x_tree⟩ := by
 apply propext
 constructor
 ·rintro ⟨⟨_, _, _⟩, ⟨rfl, rfl, rfl⟩, h⟩; exact h
 ·intro h; exact ⟨⟨x_parents, x_who, x_tree⟩, ⟨rfl, rfl, rfl⟩, h⟩
@[simp] theorem CommitD.ex0 (x_parents : List Int) (x_who : Str) (x_tree : List FileD) : (∃ a : CommitD, a.parents = x_parents /\ a.who = x_who /\ a.tree = x_tree) = True := by
 simp only [eq_iff_iff, iff_true]
 exact ⟨⟨x_parents, x_who, x_tree⟩, rfl, rfl, rfl⟩
def a0e (l : List CommitD) : List (List D) := l.map a0K
@[simp] theorem eCommits_length (l : List CommitD) : (a0e l).length = l.length := by simp [a0e]
@[simp] theorem eCommits_nil : a0e [] = [] := rfl
@[simp] theorem eCommits_get (l : List CommitD) (i : Nat) : (a0e l)[i]? = l[i]?.map a0K := by simp [a0e]
@[simp] theorem eCommits_getElem (l : List CommitD) (i : Nat) (h : i < (a0e l).length) : (a0e l)[i] = a0K (l[i]'(by simpa using h)) := by simp [a0e]
@[simp] theorem eCommits_inj (a b : List CommitD) : (a0e a = a0e b) = (a = b) := by
 apply propext
 constructor
 ·intro h
  exact List.map_inj_right (fun x y h => by simpa using h) |>.1 h
 ·rintro rfl; rfl
@[simp] theorem eCommits_eq_nil (a : List CommitD) : (a0e a = []) = (a = []) := by simp [a0e]
@[simp] theorem nil_eq_eCommits (a : List CommitD) : ([] = a0e a) = (a = []) := by simp [a0e, eq_comm]
theorem a5k (a b : List CommitD) : a0e (a ++ b) = a0e a ++ a0e b := by simp [a0e]
theorem a6j (l : List CommitD) (i : Nat) : (a0e l).take i = a0e (l.take i) := by simp [a0e]
theorem a6i (l : List CommitD) (i : Nat) : (a0e l).drop i = a0e (l.drop i) := by simp [a0e]
theorem a1U (a : List CommitD) (p : List Int) (w : Str) (t : List FileD) : a0e a ++ [[.sl 3 1 (a0g p), .str w, .sl 99 2 (a0a t)]] = a0e (a ++ [⟨p, w, t⟩]) := by simp [a0e, a0K]
theorem a6X (l : List CommitD) (i : Nat) (p : List Int) (w : Str) (t : List FileD) : (a0e l).set i [.sl 3 1 (a0g p), .str w, .sl 99 2 (a0a t)] = a0e (l.set i ⟨p, w, t⟩) := by simp [a0e, List.map_set, a0K]
theorem a6W (n : Nat) : List.replicate n [D.sl 3 1 [], D.str [], D.sl 99 2 []] = a0e (List.replicate n ⟨[], [], []⟩) := by simp [a0e, a0K]
structure RepoD where
 commits : List CommitD
 heads : List HeadD
 deriving DecidableEq, Inhabited
def c0y (a : RepoD) : List D := [.sl 87 3 (a0e a.commits), .sl 89 2 (a0c a.heads)]
@[simp] theorem eRepo_inj (a b : RepoD) : (c0y a = c0y b) = (a = b) := by
 cases a; cases b; simp [c0y]
@[simp] theorem RepoD.eta (a : RepoD) : (⟨a.commits, a.heads⟩ : RepoD) = a := rfl
theorem RepoD.eq_iff (a b : RepoD) : (a = b) = (a.commits = b.commits /\ a.heads = b.heads) := by
 cases a; cases b; simp
@[simp] theorem RepoD.ex1 (x_commits : List CommitD) (x_heads : List HeadD) (Q : RepoD -> Prop) : (∃ a : RepoD, a.commits = x_commits /\ a.heads = x_heads /\ Q a) = Q ⟨x_commits, x_heads⟩ := by
 apply propext
 constructor
 ·rintro ⟨⟨_, _⟩, rfl, rfl, h⟩; exact h
 ·intro h; exact ⟨⟨x_commits, x_heads⟩, rfl, rfl, h⟩
@[simp] theorem RepoD.ex2 (x_commits : List CommitD) (x_heads : List HeadD) (Q : RepoD -> Prop) : (∃ a : RepoD, (a.commits = x_commits /\ a.heads = x_heads) /\ Q a) = Q ⟨x_commits, x_heads⟩ := by
 apply propext
 constructor
 ·rintro ⟨⟨_, _⟩, ⟨rfl, rfl⟩, h⟩; exact h
 ·intro h; exact ⟨⟨x_commits, x_heads⟩, ⟨rfl, rfl⟩, h⟩
@[simp] theorem RepoD.ex0 (x_commits : List CommitD) (x_heads : List HeadD) : (∃ a : RepoD, a.commits = x_commits /\ a.heads = x_heads) = True := by
 simp only [eq_iff_iff, iff_true]
 exact ⟨⟨x_commits, x_heads⟩, rfl, rfl⟩
abbrev a1g (r : RepoD) : AV := .agg [.sl true 3 (a0e r.commits), .sl true 2 (a0c r.heads)]
abbrev a5K (h : Nat) (a : List Int) : List (Nat × Blk) := [(h, .own 3 1 true (a0g a))]
abbrev a2N (h : Nat) (a : List HeadD) : List (Nat × Blk) := [(h, .own 89 2 true (a0c a))]
abbrev a2y (h : Nat) (a : List CommitD) : List (Nat × Blk) := [(h, .own 87 3 true (a0e a))]
end Vx
end Go.Proofs.YtonkagjdfpacmaaGreatDoor
namespace Go.Proofs.YtonkagjdfpacmaaGreatDoor
open Go.ChangeShapes Go.WideShapes Go.ChangeAt Go.RowKit
namespace Vx
section
variable {H : Type} {enc : TypeId × Value -> H} {W : World} {sp : Nat -> Bool} {held : Bool} {r : Reach} {base : Nat}
end
end Vx
end Go.Proofs.YtonkagjdfpacmaaGreatDoor
namespace Go.Proofs.YtonkagjdfpacmaaGreatDoor
open Go.ChangeShapes Go.WideShapes Go.ChangeAt Go.RowKit
namespace Vx
end Vx
end Go.Proofs.YtonkagjdfpacmaaGreatDoor
namespace Go.Proofs.YtonkagjdfpacmaaGreatDoor
set_option maxHeartbeats 4000000
namespace Vx
open Go.RowKit
def a6H : Con := .fn 15 (Int × Int × Int) (fun a => [.int .i64 a.1, .int .i64 a.2.1, .int .i64 a.2.2]) (fun _ => True) (fun a => .bool (decide (a.2.1 <= a.1) && decide (a.1 <= a.2.2))) (fun _ => [])
theorem a6D : Has Tryz.prog 66 a6H := by
 refine a0d mixed a0f HasL.nil [0, 1, 2, 6] ((fun a n (_ : Nat) => (fun _ => a0F) a n)) [] Tryz.func66 (by unfold Tryz.f66; rfl) (fun _ => ⟨(), trivial⟩) ?_
 intro a _
 obtain ⟨n, lo, hi⟩ := a
 simp -implicitDefEqProofs [a6H, Con.fn, tTab]
 omega
def a6p : Con := .fn 15 (Int × Int × Int) (fun a => [.int .i64 a.1, .int .i64 a.2.1, .int .i64 a.2.2]) (fun _ => True) (fun a => .bool (decide (a.2.1 <= a.1) && decide (a.1 <= a.2.2))) (fun _ => [])
theorem a4M : Has Tryz.prog 83 a6p := by
 refine a0d mixed a0f HasL.nil [0, 1, 2, 6] ((fun a n (_ : Nat) => (fun _ => a0F) a n)) [] Tryz.func83 (by unfold Tryz.f83; rfl) (fun _ => ⟨(), trivial⟩) ?_
 intro a _
 obtain ⟨n, lo, hi⟩ := a
 simp -implicitDefEqProofs [a6p, Con.fn, tTab]
 omega
def a9o (n : Int) : Bool := (decide (97 <= n) && decide (n <= 122)) || (decide (48 <= n) && decide (n <= 57))
def a9S : Con := .fn 17 Int (fun a => [.int .u8 a]) (fun _ => True) (fun a => .bool (a9o a)) (fun _ => [])
theorem b8a : Has Tryz.prog 117 a9S := by
 refine a0d mixed a0f HasL.nil [0, 2] ((fun a n (_ : Nat) => (fun _ => a0F) a n)) [] Tryz.func117 (by unfold Tryz.f117; rfl) (fun _ => ⟨(), trivial⟩) ?_
 intro a _
 simp -implicitDefEqProofs [a9S, Con.fn, tTab, a9o]
 repeat' (first | intro _ | apply And.intro)
 all_goals first | omega | grind
def a0Z (s : Str) : Bool := decide (1 <= s.length) && decide (s.length <= 6) && s.all fun b => a9o b.toNat
def a4T : Con := .fn 19 Str (fun s => [.str s]) (fun _ => True) (fun s => .bool (a0Z s)) (fun _ => [])
theorem a4y : Has Tryz.prog 64 a4T := by
 refine a0d mixed a0f (HasL.cons a6D (HasL.cons b8a HasL.nil)) [0, 2, 3] ((fun a n (_ : Nat) => (fun s _ => ⟨Nat, fun i => ⟨[(0, true, .str s), (2, true, .bool false), (3, true, .int .i64 i)], []⟩, fun i => i <= s.length /\ 1 <= s.length /\ s.length <= 6 /\ (s.take i).all (fun b => a9o b.toNat) = true, fun i => s.length - i⟩) a n)) [] Tryz.func64 (by unfold Tryz.f64; rfl) (fun _ => ⟨(), trivial⟩) ?_
 intro (s : Str) _
 simp -implicitDefEqProofs [a4T, Con.fn, tTab, a6H, a9S]
 try dsimp only
 try simp +contextual [eStr, a0k, a0z, a0D, a0A, List.getElem?_eq_getElem, a0B, a0l, a0y, a0s, <- a0i, <- a0h, a0m, a0q, a0o, a0n, a0r, a0j, and_assoc]
 repeat' (first | intro _ | apply And.intro)
 all_goals first | omega | grind [a0G, a0Z, List.take_succ_eq_append_getElem]
def a4S : Con := .fn 35 Str (fun s => [.str s]) (fun _ => True) (fun s => .bool (a0Z s)) (fun _ => [])
theorem a4u : Has Tryz.prog 79 a4S := by
 refine a0d mixed a0f (HasL.cons a4M HasL.nil) [0, 2, 3] ((fun a n (_ : Nat) => (fun s _ => ⟨Nat, fun i => ⟨[(0, true, .str s), (2, true, .bool false), (3, true, .int .i64 i)], []⟩, fun i => i <= s.length /\ (s.take i).all (fun b => a9o b.toNat) = true, fun i => s.length - i⟩) a n)) [] Tryz.func79 (by unfold Tryz.f79; rfl) (fun _ => ⟨(), trivial⟩) ?_
 intro (s : Str) _
 simp -implicitDefEqProofs [a4S, Con.fn, tTab, a6p]
 try dsimp only
 try simp +contextual [eStr, a0k, a0z, a0D, a0A, List.getElem?_eq_getElem, a0B, a0l, a0y, a0s, <- a0i, <- a0h, a0m, a0q, a0o, a0n, a0r, a0j, and_assoc]
 repeat' (first | intro _ | apply And.intro)
 all_goals first | omega | grind [a0G, a0Z, a9o, List.take_succ_eq_append_getElem]
def a5S (s : Str) : Bool := decide (s.length <= 12) && s.all fun b => decide (32 <= b.toNat) && decide (b.toNat <= 126)
def b3K : Con := .fn 23 Str (fun s => [.str s]) (fun _ => True) (fun s => .bool (a5S s)) (fun _ => [])
theorem c1C : Has Tryz.prog 152 b3K := by
 refine a0d mixed a0f HasL.nil [0, 2, 3] ((fun a n (_ : Nat) => (fun s _ => ⟨Nat, fun i => ⟨[(0, true, .str s), (2, true, .bool false), (3, true, .int .i64 i)], []⟩, fun i => i <= s.length /\ s.length <= 12 /\ (s.take i).all (fun b => decide (32 <= b.toNat) && decide (b.toNat <= 126)) = true, fun i => s.length - i⟩) a n)) [] Tryz.func152 (by unfold Tryz.f152; rfl) (fun _ => ⟨(), trivial⟩) ?_
 intro (s : Str) _
 simp -implicitDefEqProofs [b3K, Con.fn, tTab]
 try dsimp only
 try simp +contextual [eStr, a0k, a0z, a0D, a0A, List.getElem?_eq_getElem, a0B, a0l, a0y, a0s, <- a0i, <- a0h, a0m, a0q, a0o, a0n, a0r, a0j, and_assoc]
 repeat' (first | intro _ | apply And.intro)
 all_goals first | omega | grind [a0G, a5S, List.take_succ_eq_append_getElem]
def b3E : Con := .fn 23 Str (fun s => [.str s]) (fun _ => True) (fun s => .bool (a5S s)) (fun _ => [])
theorem c1p : Has Tryz.prog 173 b3E := by
 refine a0d mixed a0f HasL.nil [0, 2, 3] ((fun a n (_ : Nat) => (fun s _ => ⟨Nat, fun i => ⟨[(0, true, .str s), (2, true, .bool false), (3, true, .int .i64 i)], []⟩, fun i => i <= s.length /\ (s.take i).all (fun b => decide (32 <= b.toNat) && decide (b.toNat <= 126)) = true, fun i => s.length - i⟩) a n)) [] Tryz.func173 (by unfold Tryz.f173; rfl) (fun _ => ⟨(), trivial⟩) ?_
 intro (s : Str) _
 simp -implicitDefEqProofs [b3E, Con.fn, tTab]
 try dsimp only
 try simp +contextual [eStr, a0k, a0z, a0D, a0A, List.getElem?_eq_getElem, a0B, a0l, a0y, a0s, <- a0i, <- a0h, a0m, a0q, a0o, a0n, a0r, a0j, and_assoc]
 repeat' (first | intro _ | apply And.intro)
 all_goals first | omega | grind [a0G, a5S, List.take_succ_eq_append_getElem]
def a1f (t : List Str) : Bool := decide (t.length <= 10) && t.all a5S
def a6G : Con := .fn 18 (List Str) (fun t => [.sl true 1 (a0b t)]) (fun _ => True) (fun t => .bool (a1f t)) (fun _ => [])
theorem a6C : Has Tryz.prog 101 a6G := by
 refine a0d mixed a0f (HasL.cons c1C HasL.nil) [0, 2, 4, 8, 9, 10] ((fun a n (_ : Nat) => (fun t _ => ⟨Nat, fun i => ⟨[(2, true, .bool false), (8, true, .sl true 1 (a0b t)), (9, true, .int .i64 t.length), (10, true, .int .i64 i)], []⟩, fun i => i <= t.length /\ t.length <= 10 /\ (t.take i).all a5S = true, fun i => t.length - i⟩) a n)) [] Tryz.func101 (by unfold Tryz.f101; rfl) (fun _ => ⟨(), trivial⟩) ?_
 intro (t : List Str) _
 simp -implicitDefEqProofs [a6G, Con.fn, tTab, b3K]
 try dsimp only
 try simp +contextual [eStr, a0k, a0z, a0D, a0A, List.getElem?_eq_getElem, a0B, a0l, a0y, a0s, <- a0i, <- a0h, a0m, a0q, a0o, a0n, a0r, a0j, and_assoc]
 repeat' (first | intro _ | apply And.intro)
 all_goals first | omega | grind [a0G, a1f, List.take_succ_eq_append_getElem]
def b2o : Con := .fn 19 (List Str) (fun t => [.sl true 1 (a0b t)]) (fun _ => True) (fun t => .bool (a1f t)) (fun _ => [])
theorem b1P : Has Tryz.prog 136 b2o := by
 refine a0d mixed a0f (HasL.cons c1p HasL.nil) [0, 2, 3] ((fun a n (_ : Nat) => (fun t _ => ⟨Nat, fun i => ⟨[(0, true, .sl true 1 (a0b t)), (2, true, .bool false), (3, true, .int .i64 i)], []⟩, fun i => i <= t.length /\ (t.take i).all a5S = true, fun i => t.length - i⟩) a n)) [] Tryz.func136 (by unfold Tryz.f136; rfl) (fun _ => ⟨(), trivial⟩) ?_
 intro (t : List Str) _
 simp -implicitDefEqProofs [b2o, Con.fn, tTab, b3E]
 try dsimp only
 try simp +contextual [eStr, a0k, a0z, a0D, a0A, List.getElem?_eq_getElem, a0B, a0l, a0y, a0s, <- a0i, <- a0h, a0m, a0q, a0o, a0n, a0r, a0j, and_assoc]
 repeat' (first | intro _ | apply And.intro)
 all_goals first | omega | grind [a0G, a1f, List.take_succ_eq_append_getElem]
def a6n : Con := .fn 26 (List Str × List Str) (fun a => [.sl true 1 (a0b a.1), .sl true 1 (a0b a.2)]) (fun _ => True) (fun a => .bool (decide (a.1 = a.2))) (fun _ => [])
theorem a9r : Has Tryz.prog 52 a6n := by
 refine a0d mixed a0f HasL.nil [0, 1, 2, 3, 4, 5] ((fun a n (_ : Nat) => (fun a _ => ⟨Nat, fun i => ⟨[(0, true, .sl true 1 (a0b a.1)), (1, true, .sl true 1 (a0b a.2)), (4, true, .bool false), (5, true, .int .i64 i)], []⟩, fun i => i <= a.1.length /\ a.1.length = a.2.length /\ a.1.take i = a.2.take i, fun i => a.1.length - i⟩) a n)) [] Tryz.func52 (by unfold Tryz.f52; rfl) (fun _ => ⟨(), trivial⟩) ?_
 intro a _
 obtain ⟨l, r⟩ := a
 simp -implicitDefEqProofs [a6n, Con.fn, tTab]
 try dsimp only
 try simp +contextual [eStr, a0k, a0z, a0D, a0A, List.getElem?_eq_getElem, a0B, a0l, a0y, a0s, <- a0i, <- a0h, a0m, a0q, a0o, a0n, a0r, a0j, and_assoc]
 repeat' (first | intro _ | apply And.intro)
 all_goals first | omega | grind [a0G, a4U, a4F]
def szL : List Str -> Int -> Int
 | [], l => l
 | s :: r, l => if l - s.length < 0 then -1 else szL r (l - s.length)
def a3V (a : List Str) (l : Int) : Int := if l - a.length < 0 then -1 else szL a (l - a.length)
def a8E : Con := .fn 28 (List Str × Int) (fun a => [.sl true 1 (a0b a.1), .int .i64 a.2]) (fun a => 0 <= a.2 /\ a.2 <= 1048576) (fun a => .int .i64 (a3V a.1 a.2)) (fun _ => [])
theorem c8e {a : List Str} {i : Nat} {l : Int} (h : i < a.length) : szL (a.drop i) l = if l - a[i].length < 0 then -1 else szL (a.drop (i + 1)) (l - a[i].length) := by
 rw [List.drop_eq_getElem_cons h]; rfl
theorem d0p {a : List Str} {i : Nat} {l : Int} (h : a.length <= i) : szL (a.drop i) l = l := by
 rw [List.drop_eq_nil_of_le h]; rfl
theorem b5t : Has Tryz.prog 44 a8E := by
 refine a0d mixed a0f HasL.nil [0, 1, 4, 5] ((fun a n (_ : Nat) => (fun a _ => ⟨Nat × Int, fun t => ⟨[(0, true, .sl true 1 (a0b a.1)), (1, true, .int .i64 t.2), (4, true, .int .i64 0), (5, true, .int .i64 t.1)], []⟩, fun t => t.1 <= a.1.length /\ 0 <= t.2 /\ t.2 <= 1048576 /\ szL (a.1.drop t.1) t.2 = a3V a.1 a.2, fun t => a.1.length - t.1⟩) a n)) [] Tryz.func44 (by unfold Tryz.f44; rfl) (fun _ => ⟨(), trivial⟩) ?_
 intro a ha
 obtain ⟨l, n⟩ := a
 obtain ⟨h1, h2⟩ : 0 <= n /\ n <= 1048576 := ha
 simp -implicitDefEqProofs [a8E, Con.fn, tTab]
 try dsimp only
 try simp +contextual [eStr, a0k, a0z, a0D, a0A, List.getElem?_eq_getElem, a0B, a0l, a0y, a0s, <- a0i, <- a0h, a0m, a0q, a0o, a0n, a0r, a0j, and_assoc]
 repeat' (first | intro _ | apply And.intro)
 all_goals first | omega | grind [a0G, a3V, c8e, d0p]
abbrev a2a (h : Nat) (a : List Str) : List (Nat × Blk) := [(h, .own 9 1 true (a0b a))]
abbrev a2s (h : Nat) (a : List FileD) : List (Nat × Blk) := [(h, .own 99 2 true (a0a a))]
def a8F : Con := .fn 22 (List Str) (fun a => [.sl true 1 (a0b a)]) (fun a => a.length <= 1048576) (fun a => .own 8 1 (a0b a)) (fun a => a2a 8 a)
theorem b5u : Has Tryz.prog 48 a8F := by
 refine a0d mixed a0f HasL.nil [0, 2, 3, 4] ((fun a n (_ : Nat) => (fun a _ => ⟨Nat × List Str, fun t => ⟨[(0, true, .sl true 1 (a0b a)), (2, true, .nil), (3, true, .own 9 1 (a0b t.2)), (4, true, .int .i64 t.1)], a2a 9 t.2⟩, fun t => t.1 <= a.length /\ t.2.length = a.length /\ t.2.take t.1 = a.take t.1, fun t => a.length - t.1⟩) a n)) [] Tryz.func48 (by unfold Tryz.f48; rfl) (fun _ => ⟨(), trivial⟩) ?_
 intro (a : List Str) ha
 replace ha : a.length <= 1048576 := ha
 simp -implicitDefEqProofs [a8F, Con.fn, tTab]
 try dsimp only
 try simp +contextual [eStr, a0k, a0z, a0D, a0A, List.getElem?_eq_getElem, a0B, a0l, a0y, a0s, <- a0i, <- a0h, a0m, a0q, a0o, a0n, a0r, a0j, and_assoc]
 repeat' (first | intro _ | apply And.intro)
 all_goals first | omega | grind [a0G, b7L, a4F]

theorem d1j : ∀ {a : List Str} {l : Int}, 0 <= l -> szL a l <= l := by
 intro a
 induction a with
 | nil => intro l _; exact Int.le_refl l
 | cons s r ih =>
  intro l h
  simp only [szL]
  split
  ·omega
  ·have := ih (l := l - s.length) (by omega); omega
def b3z : Con := .fn 16 (FileD × FileD) (fun a => [.agg [.str a.1.path, .sl true 1 (a0b a.1.text)], .agg [.str a.2.path, .sl true 1 (a0b a.2.text)]]) (fun _ => True) (fun a => .bool (decide (a.1 = a.2))) (fun _ => [])
theorem c0z : Has Tryz.prog 180 b3z := by
 refine a0d mixed a0f (HasL.cons a9r HasL.nil) [0, 1, 2, 3, 4] ((fun a n (_ : Nat) => (fun _ => a0F) a n)) [] Tryz.func180 (by unfold Tryz.f180; rfl) (fun _ => ⟨(), trivial⟩) ?_
 intro a _
 obtain ⟨⟨p, x⟩, ⟨q, y⟩⟩ := a
 simp -implicitDefEqProofs [b3z, Con.fn, tTab, a6n]
 try dsimp only
 try simp +contextual [eStr, a0k, a0z, a0D, a0A, List.getElem?_eq_getElem, a0B, a0l, a0y, a0s, <- a0i, <- a0h, a0m, a0q, a0o, a0n, a0r, a0j, and_assoc]
 repeat' (first | intro _ | apply And.intro)
 all_goals first | omega | grind [a0G]
def b1r : Con := .fn 27 (List FileD × List FileD) (fun a => [.sl true 2 (a0a a.1), .sl true 2 (a0a a.2)]) (fun _ => True) (fun a => .bool (decide (a.1 = a.2))) (fun _ => [])
theorem b8m : Has Tryz.prog 150 b1r := by
 refine a0d mixed a0f (HasL.cons c0z HasL.nil) [0, 1, 2, 3, 4, 5] ((fun a n (_ : Nat) => (fun a _ => ⟨Nat, fun i => ⟨[(0, true, .sl true 2 (a0a a.1)), (1, true, .sl true 2 (a0a a.2)), (4, true, .bool false), (5, true, .int .i64 i)], []⟩, fun i => i <= a.1.length /\ a.1.length = a.2.length /\ a.1.take i = a.2.take i, fun i => a.1.length - i⟩) a n)) [] Tryz.func150 (by unfold Tryz.f150; rfl) (fun _ => ⟨(), trivial⟩) ?_
 intro a _
 obtain ⟨l, r⟩ := a
 simp -implicitDefEqProofs [b1r, Con.fn, tTab, b3z]
 try dsimp only
 try simp +contextual [eStr, a0k, a0z, a0D, a0A, List.getElem?_eq_getElem, a0B, a0l, a0y, a0s, <- a0i, <- a0h, a0m, a0q, a0o, a0n, a0r, a0j, and_assoc, <- FileD.eq_iff]
 repeat' (first | intro _ | apply And.intro)
 all_goals first | omega | grind [a0G, a4U, a4F]
def a5v (p s : Str) : Bool := decide (p.length <= s.length) && decide (s.take p.length = p)
def a6S : Con := .fn 18 (Str × Str) (fun a => [.str a.1, .str a.2]) (fun _ => True) (fun a => .bool (a5v a.2 a.1)) (fun _ => [])
theorem b3q : Has Tryz.prog 195 a6S := by
 refine a0d mixed a0f HasL.nil [0, 1, 4] ((fun a n (_ : Nat) => (fun _ => a0F) a n)) [] Tryz.func195 (by unfold Tryz.f195; rfl) (fun _ => ⟨(), trivial⟩) ?_
 intro a _
 obtain ⟨s, p⟩ := a
 simp -implicitDefEqProofs [a6S, Con.fn, tTab, a5v]
 try dsimp only
 try simp +contextual [eStr, a0k, a0z, a0D, a0A, List.getElem?_eq_getElem, a0B, a0l, a0y, a0s, <- a0i, <- a0h, a0m, a0q, a0o, a0n, a0r, a0j, and_assoc]
 repeat' (first | intro _ | apply And.intro)
 all_goals first | omega | grind [a0G]
def a6o : Con := .fn 8 (Str × Str) (fun a => [.str a.1, .str a.2]) (fun _ => True) (fun a => .bool (a5v a.2 a.1)) (fun _ => [])
theorem a9s : Has Tryz.prog 164 a6o := by
 refine a0d mixed a0f (HasL.cons b3q HasL.nil) [0, 1, 4] ((fun a n (_ : Nat) => (fun _ => a0F) a n)) [] Tryz.func164 (by unfold Tryz.f164; rfl) (fun _ => ⟨(), trivial⟩) ?_
 intro a _
 obtain ⟨s, p⟩ := a
 simp -implicitDefEqProofs [a6o, Con.fn, tTab, a6S]
 try dsimp only
 try simp +contextual [eStr, a0k, a0z, a0D, a0A, List.getElem?_eq_getElem, a0B, a0l, a0y, a0s, <- a0i, <- a0h, a0m, a0q, a0o, a0n, a0r, a0j, and_assoc]
 repeat' (first | intro _ | apply And.intro)
 all_goals first | omega | grind [a0G]
def inB (d p : Str) : Bool := decide (d.length < p.length) && decide (p.take d.length = d) && decide (p.getD d.length 0 = 47)
theorem c2k (a : UInt8) : ((a.toNat : Int) = 47) = (a = 47) := by
 apply propext
 constructor
 ·intro h
  have : a.toNat = 47 := by omega
  exact UInt8.toNat_inj.1 (by simpa using this)
 ·rintro rfl; rfl
def b2q : Con := .fn 25 (Str × Str) (fun a => [.str a.1, .str a.2]) (fun _ => True) (fun a => .bool (inB a.1 a.2)) (fun _ => [])
theorem b1Q : Has Tryz.prog 142 b2q := by
 refine a0d mixed a0f HasL.nil [0, 1, 4] ((fun a n (_ : Nat) => (fun _ => a0F) a n)) [] Tryz.func142 (by unfold Tryz.f142; rfl) (fun _ => ⟨(), trivial⟩) ?_
 intro a _
 obtain ⟨d, p⟩ := a
 simp -implicitDefEqProofs [b2q, Con.fn, tTab, inB, c2k]
 try dsimp only
 try simp +contextual [eStr, a0k, a0z, a0D, a0A, List.getElem?_eq_getElem, a0B, a0l, a0y, a0s, <- a0i, <- a0h, a0m, a0q, a0o, a0n, a0r, a0j, and_assoc, c2k]
 repeat' (first | intro _ | apply And.intro)
 all_goals first | omega | grind [a0G, c2k]
def cutL (b : Int) (most : Nat) : Str -> Str -> Nat -> List Str
 | [], c, _ => [c]
 | x :: r, c, n => if n < most then (if (x.toNat : Int) = b then c :: cutL b most r [] (n + 1) else cutL b most r (c ++ [x]) n) else [c ++ x :: r]
theorem c3d {b : Int} {most : Nat} {r c : Str} {n : Nat} (h : most <= n) : cutL b most r c n = [c ++ r] := by
 cases r with
 | nil => simp [cutL]
 | cons x r => simp [cutL, Nat.not_lt.2 h]
def a1H (s : Str) (fr i : Nat) : Str := (s.drop fr).take (i - fr)
theorem c4Q {s : Str} {fr i : Nat} (h : fr <= i) : a1H s fr i ++ s.drop i = s.drop fr := by
 unfold a1H
 have : s.drop i = (s.drop fr).drop (i - fr) := by rw [List.drop_drop]; congr 1; omega
 rw [this, List.take_append_drop]
theorem c4R {s : Str} {fr i : Nat} (h : s.length <= i) (hf : fr <= i) : a1H s fr i = s.drop fr := by
 unfold a1H
 exact List.take_of_length_le (by rw [List.length_drop]; omega)
theorem c1U {s : Str} {fr : Nat} : a1H s fr fr = [] := by simp [a1H]
theorem c1T {s : Str} {fr i : Nat} (h : i < s.length) (hf : fr <= i) : a1H s fr (i + 1) = a1H s fr i ++ [s[i]] := by
 unfold a1H
 rw [show i + 1 - fr = (i - fr) + 1 by omega, List.take_succ_eq_append_getElem (by rw [List.length_drop]; omega)]
 congr 2
 rw [List.getElem_drop]
 congr 1
 omega
theorem c6p {b : Int} {most : Nat} {s : Str} {fr i n : Nat} (h : i < s.length) (hf : fr <= i) (hn : n < most) :
  cutL b most (s.drop i) (a1H s fr i) n = if (s[i].toNat : Int) = b then a1H s fr i :: cutL b most (s.drop (i + 1)) (a1H s (i + 1) (i + 1)) (n + 1) else cutL b most (s.drop (i + 1)) (a1H s fr (i + 1)) n := by
 rw [List.drop_eq_getElem_cons h, c1U, c1T h hf]
 simp [cutL, hn]
theorem c9d {b : Int} {most : Nat} {s : Str} {fr i n : Nat} (h : s.length <= i) (hf : fr <= i) : cutL b most (s.drop i) (a1H s fr i) n = [s.drop fr] := by
 rw [List.drop_eq_nil_of_le h, <- c4R h hf]; rfl
theorem c6o {b : Int} {most : Nat} {s : Str} {fr i n : Nat} (h : most <= n) (hf : fr <= i) : cutL b most (s.drop i) (a1H s fr i) n = [s.drop fr] := by
 rw [c3d h, c4Q hf]
def cutB (s : Str) (b : Int) (most : Nat) : List Str := cutL b most s [] 0
theorem c7D (s : Str) (fr i : Nat) : (s.drop fr).take (i - fr) = a1H s fr i := rfl
theorem c1S (s : Str) (fr : Nat) : a1H s fr s.length = s.drop fr := by
 unfold a1H
 exact List.take_of_length_le (by rw [List.length_drop]; omega)
def b6l : Con := .fn 43 (Str × Int × Nat) (fun a => [.str a.1, .int .u8 a.2.1, .int .i64 a.2.2]) (fun a => a.2.2 <= 1000000) (fun a => .own 8 1 (a0b (cutB a.1 a.2.1 a.2.2))) (fun a => a2a 8 (cutB a.1 a.2.1 a.2.2))
theorem c4c : Has Tryz.prog 59 b6l := by
 refine a0d mixed a0f HasL.nil [0, 1, 2, 6, 7, 8, 9] ((fun a n (_ : Nat) => (fun a _ => ⟨List Str × Nat × Nat, fun t => ⟨[(0, true, .str a.1), (1, true, .int .u8 a.2.1), (2, true, .int .i64 a.2.2), (6, true, .nil), (7, true, .own 9 1 (a0b t.1)), (8, true, .int .i64 t.2.1), (9, true, .int .i64 t.2.2)], a2a 9 t.1⟩, fun t => t.2.1 <= t.2.2 /\ t.2.2 <= a.1.length /\ t.1.length <= a.2.2 /\ t.1 ++ cutL a.2.1 a.2.2 (a.1.drop t.2.2) (a1H a.1 t.2.1 t.2.2) t.1.length = cutB a.1 a.2.1 a.2.2, fun t => a.1.length - t.2.2⟩) a n)) [] Tryz.func59 (by unfold Tryz.f59; rfl) (fun _ => ⟨(), trivial⟩) ?_
 intro a ha
 obtain ⟨s, b, most⟩ := a
 replace ha : most <= 1000000 := ha
 have hs : cutL b most s (a1H s 0 0) 0 = cutB s b most := rfl
 simp -implicitDefEqProofs [b6l, Con.fn, tTab]
 try dsimp only
 try simp +contextual [eStr, a0k, a0z, a0D, a0A, List.getElem?_eq_getElem, a0B, a0l, a0y, a0s, <- a0i, <- a0h, a0m, a0q, a0o, a0n, a0r, a0j, and_assoc, c7D, c1S]
 repeat' (first | intro _ | apply And.intro)
 all_goals first | omega | grind [a0G, c6p, c9d, c6o]
theorem c0v (a : Nat) : ((a : Int) = 3) = (a = 3) := by apply propext; omega
def a3c (s : Str) : Bool := (cutB s 47 3).all a0Z && decide ((cutB s 47 3).length <= 3)
def a7O : Con := .fn 22 Str (fun s => [.str s]) (fun _ => True) (fun s => .bool (a3c s)) (fun _ => [])
theorem a8W : Has Tryz.prog 81 a7O := by
 refine a0d mixed a0f (HasL.cons c4c (HasL.cons a4u HasL.nil)) [0, 2, 3, 4] ((fun a n (_ : Nat) => (fun s _ => ⟨Nat, fun i => ⟨[(2, true, .bool false), (3, true, .own 9 1 (a0b (cutB s 47 3))), (4, true, .int .i64 i)], a2a 9 (cutB s 47 3)⟩, fun i => i <= (cutB s 47 3).length /\ ((cutB s 47 3).take i).all a0Z = true, fun i => (cutB s 47 3).length - i⟩) a n)) [] Tryz.func81 (by unfold Tryz.f81; rfl) (fun _ => ⟨(), trivial⟩) ?_
 intro (s : Str) _
 simp -implicitDefEqProofs [a7O, Con.fn, tTab, b6l, a4S]
 try dsimp only
 try simp +contextual [eStr, a0k, a0z, a0D, a0A, List.getElem?_eq_getElem, a0B, a0l, a0y, a0s, <- a0i, <- a0h, a0m, a0q, a0o, a0n, a0r, a0j, and_assoc, c0v]
 repeat' (first | intro _ | apply And.intro)
 all_goals first | omega | grind [a0G, a3c, List.take_succ_eq_append_getElem]
def leqS (a b : Str) : Bool := Go.Op.bytesLess a b || decide (a = b)
def a3R (t : List FileD) (i : Nat) : Bool := a3c (t.getD i default).path && a1f (t.getD i default).text && (decide (i = 0) || !leqS (t.getD i default).path (t.getD (i - 1) default).path)
def noIn (t : List FileD) (i : Nat) : Bool := t.all fun g => !inB (t.getD i default).path g.path
def a0S (t : List FileD) : Bool := (List.range t.length).all (fun i => a3R t i && noIn t i) && decide (t.length <= 8)
def a8z : Con := .fn 65 (List FileD) (fun t => [.sl true 2 (a0a t)]) (fun _ => True) (fun t => .bool (a0S t)) (fun _ => [])
def c1t (t : List FileD) : Inv := ⟨Nat, fun i => ⟨[(0, true, .sl true 2 (a0a t)), (2, true, .bool false), (3, true, .int .i64 i)], []⟩, fun i => i <= t.length /\ ∀ j, j < i -> a3R t j = true /\ noIn t j = true, fun i => t.length - i⟩
def c1s (t : List FileD) (g : Nat) : Inv := ⟨Nat, fun k => ⟨[(0, true, .sl true 2 (a0a t)), (2, true, .bool false), (3, true, .int .i64 g), (4, true, .int .i64 k)], []⟩, fun x => g < t.length /\ x <= t.length /\ (∀ j, j < g -> a3R t j = true /\ noIn t j = true) /\ a3R t g = true /\ ∀ k, k < x -> inB (t.getD g default).path (t.getD k default).path = false, fun x => t.length - x⟩
def b4c (t : List FileD) (n g : Nat) : Inv := if n = 2 then c1t t else c1s t g
theorem c4g (t : List FileD) (g : Nat) : b4c t 2 g = c1t t := rfl
theorem c4h (t : List FileD) (g : Nat) : b4c t 7 g = c1s t g := rfl
set_option maxRecDepth 8000
theorem a7d : Has Tryz.prog 137 a8z := by
 refine a0d mixed a0f (HasL.cons a8W (HasL.cons b1P (HasL.cons b1Q (HasL.cons a4M HasL.nil)))) [0, 2, 3, 4] (fun t => b4c t) [] Tryz.func137 (by unfold Tryz.f137; rfl) (fun _ => ⟨(), trivial⟩) ?_
 intro (t : List FileD) _
 have hs : ∀ i, t.length <= i -> ¬ i < t.length := by omega
 have hE : a0S t = true ↔ (∀ i, i < t.length -> a3R t i = true /\ noIn t i = true) /\ t.length <= 8 := by
  simp [a0S]
 have hF : ∀ i, i < t.length -> (a3R t i && noIn t i) = false -> a0S t = false := by
  intro i hi h
  rcases hb : a0S t with _ | _
  ·rfl
  ·exact absurd ((hE.1 hb).1 i hi) (by simpa using h)
 have hH : ∀ i, i < t.length -> a3R t i = false -> a0S t = false := fun i hi h => hF i hi (by simp [h])
 have hN : ∀ i k, i < t.length -> k < t.length -> inB (t.getD i default).path (t.getD k default).path = true -> a0S t = false := by
  intro i k hi hk h
  refine hF i hi ?_
  have : noIn t i = false := by
   simp only [noIn, List.all_eq_false]
   exact ⟨t[k], List.getElem_mem hk, by simp [List.getD_eq_getElem?_getD, hk] at h ⊢; simpa [hk] using h⟩
  simp [this]
 have hI : ∀ i, (∀ k, k < t.length -> inB (t.getD i default).path (t.getD k default).path = false) -> noIn t i = true := by
  intro i h
  simp only [noIn, List.all_eq_true]
  intro g hg
  obtain ⟨k, hk, rfl⟩ := List.getElem_of_mem hg
  have := h k hk
  simpa [List.getD_eq_getElem?_getD, hk] using this
 simp -implicitDefEqProofs [a8z, Con.fn, tTab, a7O, b2o, b2q, a6p, c4g, c4h, c1t, c1s]
 try dsimp only
 intro i hi hj hl
 have e1 : ∀ k (h : k < t.length), Option.map a0k t[k]? = some (a0k t[k]) := by
  intro k h
  simp [List.getElem?_eq_getElem h]
 have e2 : i < t.length -> i - 1 < t.length := by omega
 constructor
 ·intro hlt
  have e3 := e1 i hlt
  have e4 := e1 (i - 1) (e2 hlt)
  simp [hlt, e2 hlt, e3, e4, a0k, eStr, D.asStr, D.asRows]
  try simp +contextual [eStr, a0k, a0z, a0D, a0A, List.getElem?_eq_getElem, a0B, a0l, a0y, a0s, <- a0i, <- a0h, a0m, a0q, a0o, a0n, a0r, a0j, and_assoc]
  repeat' (first | intro _ | apply And.intro)
  all_goals first | omega | grind [a0G, a3R, leqS]
 ·have hX : t.length <= i -> a0S t = decide (t.length <= 8) := by
   intro h
   have : a0S t = true ↔ t.length <= 8 := by
    rw [hE]
    exact ⟨fun h => h.2, fun h8 => ⟨fun j hj' => hj j (by omega), h8⟩⟩
   cases h' : a0S t <;> simp_all
  try simp +contextual [eStr, a0k, a0z, a0D, a0A, List.getElem?_eq_getElem, a0B, a0l, a0y, a0s, <- a0i, <- a0h, a0m, a0q, a0o, a0n, a0r, a0j, and_assoc]
  repeat' (first | intro _ | apply And.intro)
  all_goals first | omega | grind [a0G, a3R, leqS]
def a2p (t : List FileD) : Nat := (t.map fun f => f.text.length).sum
theorem b8R (t : List FileD) (i : Nat) (h : i < t.length) : a2p (t.take (i + 1)) = a2p (t.take i) + t[i].text.length := by
 unfold a2p
 rw [List.take_succ_eq_append_getElem h, List.map_append, List.sum_append]
 rfl
theorem a5M (t : List FileD) (h : a0S t = true) : t.length <= 8 /\ ∀ f ∈ t, f.text.length <= 64 := by
 simp only [a0S, Bool.and_eq_true, decide_eq_true_eq, List.all_eq_true, List.mem_range, a3R] at h
 refine ⟨h.2, fun f hf => ?_⟩
 obtain ⟨i, hi, rfl⟩ := List.getElem_of_mem hf
 have := (h.1 i hi).1.1.2
 simp [List.getD_eq_getElem?_getD, hi, a1f] at this
 omega
def scal : AV -> Option Value
 | .int k n => some (.int k n)
 | .bool b => some (.bool b)
 | .str s => some (.string ⟨s.toArray⟩)
 | _ => none
theorem c7V {w m β c v x u} (h : RelL w m β c [v] [u]) (hs : scal v = some x) : u = x := by
 cases v <;> simp only [scal, Option.some.injEq, reduceCtorEq] at hs
 all_goals cases h; exact hs
theorem c5h {w m β c} : ∀ {vs : List AV} {us xs : List Value}, RelL w m β c vs us -> vs.mapM scal = some xs -> us = xs := by
 intro vs
 induction vs with
 | nil => intro us xs h hm; cases h; simp at hm; exact hm.symm
 | cons v vs ih =>
  intro us xs h hm
  obtain ⟨u, us', rfl, h1, h2⟩ := h.uncons
  rw [List.mapM_cons] at hm
  cases hv : scal v with
  | none => rw [hv] at hm; simp at hm
  | some x =>
   rw [hv] at hm
   cases hvs : vs.mapM scal with
   | none => rw [hvs] at hm; simp at hm
   | some ys =>
    rw [hvs] at hm
    simp at hm
    subst hm
    rw [c7V h1 hv, ih h2 hvs]
theorem c7P {w m β c v x} (hs : scal v = some x) (hok : ∀ s, v = .str s -> s.length <= maxLen) : RelL w m β c [v] [x] := by
 cases v <;> simp only [scal, Option.some.injEq, reduceCtorEq] at hs
 all_goals subst hs
 ·exact .int .lnil
 ·exact .bool .lnil
 ·exact .str (hok _ rfl) .lnil
theorem a4Z {c : Cx} {k : Con} {x : k.A} {vs : List Value} {w β fp} (hl : vs.length = (k.args x).length) (S : SatI c (k.start2 x) ⟨vs.toArray ++ Array.replicate (k.n - vs.length) undef, []⟩ w β fp) :
  RelL w (k.start2 x).m β c (k.args x) vs := by
 have key : ∀ (i : Nat) (v : AV) (u : Value), (k.args x)[i]? = some v -> vs[i]? = some u -> RelL w (k.start2 x).m β c [v] [u] := by
  intro i v u hv hu
  have := (S.env i true v (by simp [Con.start2, hv])).2.1 rfl
  have hi : i < vs.length := (List.getElem?_eq_some_iff.1 hu).1
  have e : (vs.toArray ++ Array.replicate (k.n - vs.length) undef).getD i undef = u := by
   rw [Array.getD_eq_getD_getElem?, Array.getElem?_append_left (by simpa using hi)]
   simp [hu]
  rw [e] at this
  exact this
 clear S
 generalize k.args x = xs at hl key
 induction xs generalizing vs with
 | nil => cases vs with | nil => exact .lnil | cons => simp at hl
 | cons v xs ih =>
  cases vs with
  | nil => simp at hl
  | cons u vs =>
   exact (key 0 v u rfl rfl).append (ih (by simpa using hl) fun i v' u' h1 h2 => key (i + 1) v' u' h1 h2)
theorem b6H {P : Program} {f : Nat} {n : Nat} {A : Type} {args : A -> List AV} {pre : A -> Prop} {res : A -> AV} {rv : A -> Value}
  (henter : ∀ args w, (callFunc f args).run P w = .ok (.enter f args) w) (hres : ∀ a, scal (res a) = some (rv a)) (hstr : ∀ a s, pre a -> res a = .str s -> s.length <= maxLen)
  (h : ∀ a vs w, pre a -> (args a).mapM scal = some vs -> Calls P f vs.toArray w fun e w' => e = .returned (rv a) /\ w' = w) (hsc : ∀ a, ∃ vs, (args a).mapM scal = some vs) :
  Has P f (.fn n A args pre res (fun _ => [])) := by
 refine ⟨henter, fun _ => ⟨(), trivial⟩, fun _ _ => rfl, ?_, trivial, .inl rfl⟩
 intro a hp c _ vs β fp hcn hpins hl1 hl2 S
 obtain ⟨us, hus⟩ := hsc a
 have hvs : vs = us := c5h (a4Z hl1 S) hus
 subst hvs
 refine (h a vs c.w0 hp hus).mono ?_
 rintro e w' ⟨rfl, rfl⟩
 refine ⟨(), trivial, rv a, rfl, β, fp, ⟨Array.replicate c.n undef, []⟩, ⟨?_, ?_, ?_, ?_, ?_, S.fg, S.old, S.os, S.tape, S.output, S.size, rfl, by simp, ?_⟩, ?_⟩
 ·intro t g av ht; cases ht
 ·intro h blk hm; cases hm
 ·intro h blk hm; cases hm
 ·intro h h' blk blk' hm; cases hm
 ·intro h blk hm; cases hm
 ·rw [hpins]; intro p hp; simp [Con.pins2] at hp
 ·exact c7P (hres a) (fun s hs => hstr a s hp hs)
set_option maxHeartbeats 1000000 in
set_option maxRecDepth 100000 in
theorem b3Y (s : ByteArray) (c : Int) (w : World) :
  Calls Tryz.prog 184 #[.string s, .int .u8 c] w fun e w' => e = .returned (.int .i64 (Lib.indexByte s.data.toList c.toNat.toUInt8)) /\ w' = w := by
 go_enter Tryz.func184, Tryz.ntmps184
 go_wp2
 rw [run_callFunc_extern Tryz.func212 (by kernel_rfl) (by kernel_rfl) (by kernel_rfl) (e := Extern.BytealgIndexByte.indexByte) (by kernel_rfl), Lib.run_indexByteString]
 simp only [Result.andThen]
 rw [Oper.upon_value]
 go_wp2
 go_ret
 exact ⟨rfl, rfl⟩
set_option maxHeartbeats 2000000 in
set_option maxRecDepth 100000 in
theorem b5i (s : ByteArray) (c : UInt8) (w : World) :
  Calls Tryz.prog 159 #[.string s, .string ⟨#[c]⟩] w fun e w' => e = .returned (.int .i64 (Lib.indexByte s.data.toList c)) /\ w' = w := by
 go_enter Tryz.func159, Tryz.ntmps159
 go_wp2_with (go_at_call 184; refine (b3Y _ _ _).mono ?_; rintro e w' ⟨rfl, rfl⟩)
 ·have h : ([c] == s.toList) = true := by assumption
  go_ret
  refine ⟨?_, rfl⟩
  have e : s.data.toList = [c] := by rw [<- Lib.toList_data]; exact (beq_iff_eq.1 h).symm
  rw [e]
  simp [Lib.indexByte]
 ·go_ret
  exact ⟨rfl, rfl⟩
set_option maxHeartbeats 2000000 in
set_option maxRecDepth 100000 in
theorem a9j (s : ByteArray) (c : UInt8) (w : World) :
  Calls Tryz.prog 153 #[.string s, .string ⟨#[c]⟩] w fun e w' => e = .returned (.int .i64 (Lib.indexByte s.data.toList c)) /\ w' = w := by
 go_enter Tryz.func153, Tryz.ntmps153
 go_wp2_with (go_at_call 159; refine (b5i _ _ _).mono ?_; rintro e w' ⟨rfl, rfl⟩)
 go_ret
 exact ⟨rfl, rfl⟩
set_option maxHeartbeats 1000000 in
set_option maxRecDepth 100000 in
theorem b5d (s : ByteArray) (c : UInt8) (w : World) :
  Calls Tryz.prog 189 #[.string s, .string ⟨#[c]⟩] w fun e w' => e = .returned (.int .i64 (Lib.countByte s.data.toList c)) /\ w' = w := by
 go_enter Tryz.func189, Tryz.ntmps189
 go_wp2
 rw [run_callFunc_extern Tryz.func216 (by kernel_rfl) (by kernel_rfl) (by kernel_rfl) (e := Extern.BytealgCount.count) (by kernel_rfl), Lib.run_countString]
 simp only [Result.andThen]
 rw [Oper.upon_value]
 go_wp2
 go_ret
 exact ⟨rfl, rfl⟩
def idxB : Str -> UInt8 -> Int
 | [], _ => -1
 | b :: l, c => if b = c then 0 else if idxB l c < 0 then -1 else idxB l c + 1
theorem c6B (s : Str) (c : UInt8) : Lib.indexByte s c = idxB s c := by
 induction s with
 | nil => rfl
 | cons b l ih =>
  have hge := Lib.indexByte_ge l c
  simp only [Lib.indexByte, idxB, ih] at hge ⊢
  by_cases hb : b = c
  ·simp [hb]
  ·simp only [beq_iff_eq, hb, if_false]
   by_cases h : idxB l c < 0
   ·rw [if_pos h, if_pos (by omega)]
   ·rw [if_neg h, if_neg (by omega)]
def a6h : Con := .fn 8 (Str × UInt8) (fun a => [.str a.1, .str [a.2]]) (fun _ => True) (fun a => .int .i64 (idxB a.1 a.2)) (fun _ => [])
theorem a7h : Has Tryz.prog 153 a6h :=
 b6H (rv := fun a => .int .i64 (idxB a.1 a.2)) (fun args w => Go.MuLone.run_callFunc_enter Tryz.func153 (by kernel_rfl) rfl args w) (fun _ => rfl) (fun a s _ h => by cases h)
  (fun a vs w _ hv => by
   obtain ⟨s, c⟩ := a
   simp [scal] at hv
   subst hv
   have := a9j ⟨s.toArray⟩ c w
   simpa [c6B] using this) (fun a => ⟨_, rfl⟩)
def a9q : Con := .fn 34 (Str × UInt8) (fun a => [.str a.1, .str [a.2]]) (fun _ => True) (fun a => .int .i64 (a.1.count a.2)) (fun _ => [])
theorem b2a : Has Tryz.prog 189 a9q :=
 b6H (rv := fun a => .int .i64 (a.1.count a.2)) (fun args w => Go.MuLone.run_callFunc_enter Tryz.func189 (by kernel_rfl) rfl args w) (fun _ => rfl) (fun a s _ h => by cases h)
  (fun a vs w _ hv => by
   obtain ⟨s, c⟩ := a
   simp [scal] at hv
   subst hv
   have := b5d ⟨s.toArray⟩ c w
   simpa [Lib.countByte] using this) (fun a => ⟨_, rfl⟩)
def spl (c : UInt8) : Str -> Str -> List Str
 | [], p => [p]
 | x :: r, p => if x = c then p :: spl c r [] else spl c r (p ++ [x])
theorem c9q (s : Str) (c : UInt8) : idxB s c < s.length := by
 induction s with
 | nil => simp [idxB]
 | cons b l ih =>
  simp only [idxB, List.length_cons]
  split
  ·omega
  ·split <;> omega
theorem c8b {c : UInt8} : ∀ {s p : Str}, idxB s c < 0 -> spl c s p = [p ++ s] /\ s.count c = 0 := by
 intro s
 induction s with
 | nil => intro p _; simp [spl]
 | cons b l ih =>
  intro p h
  simp only [idxB] at h
  split at h
  ·omega
  ·rename_i hb
   split at h
   ·rename_i hl
    have := ih (p := p ++ [b]) hl
    simp only [spl, if_neg hb]
    refine ⟨by rw [this.1]; simp, ?_⟩
    rw [List.count_cons, this.2]
    simp [hb]
   ·omega
theorem b7M {c : UInt8} : ∀ {s p : Str}, 0 <= idxB s c -> spl c s p = (p ++ s.take (idxB s c).toNat) :: spl c (s.drop ((idxB s c).toNat + 1)) [] /\ s.count c = (s.drop ((idxB s c).toNat + 1)).count c + 1 := by
 intro s
 induction s with
 | nil => intro p h; simp [idxB] at h
 | cons b l ih =>
  intro p h
  by_cases hb : b = c
  ·subst hb
   simp [idxB, spl]
  ·simp only [idxB, if_neg hb] at h ⊢
   split at h
   ·omega
   ·rename_i hl
    rw [if_neg hl]
    obtain ⟨h1, h2⟩ := ih (p := p ++ [b]) (by omega)
    have e : (idxB l c + 1).toNat = (idxB l c).toNat + 1 := by omega
    rw [e]
    simp only [spl, if_neg hb, List.take_succ_cons, List.drop_succ_cons]
    refine ⟨by rw [h1]; simp, ?_⟩
    rw [List.count_cons, h2]
    simp [hb]
theorem d0m (c : UInt8) : ∀ (s p : Str), (spl c s p).length = s.count c + 1 := by
 intro s
 induction s with
 | nil => intro p; simp [spl]
 | cons b l ih =>
  intro p
  simp only [spl]
  split
  ·rename_i h
   subst h
   simp [ih]
  ·rename_i h
   rw [ih, List.count_cons]
   simp [h]
theorem d0j {α : Type} (d : List α) (k : Nat) (z x : α) (h : 0 < k) : (d ++ List.replicate k z).set d.length x = (d ++ [x]) ++ List.replicate (k - 1) z := by
 obtain ⟨k, rfl⟩ : ∃ j, k = j + 1 := ⟨k - 1, by omega⟩
 rw [List.set_append_right _ _ (Nat.le_refl _)]
 simp [List.replicate_succ]
def a9G : Con := .fn 66 (Str × UInt8) (fun a => [.str a.1, .str [a.2], .int .i64 0, .int .i64 (-1)]) (fun a => a.1.length <= 1073741824) (fun a => .sl false 1 (a0b (spl a.2 a.1 []))) (fun _ => [])
def a3l (N : Nat) (d : List Str) : List Str := d ++ List.replicate (N - d.length) []
theorem c3s (N : Nat) (d : List Str) (h : d.length <= N) : (a3l N d).length = N := by simp [a3l]; omega
theorem a9Y (N : Nat) (d : List Str) (x : Str) (h : d.length < N) : (a3l N d).set d.length x = a3l N (d ++ [x]) := by
 unfold a3l
 rw [d0j _ _ _ _ (by omega)]
 simp only [List.length_append, List.length_cons, List.length_nil]
 congr 2
theorem b4y (N : Nat) : a3l N [] = List.replicate N [] := by simp [a3l]
set_option maxRecDepth 8000
theorem b6F : Has Tryz.prog 160 a9G := by
 refine a0d mixed a0f (HasL.cons b2a (HasL.cons a7h HasL.nil)) [0, 1, 2, 3, 8, 9, 10, 11] ((fun a n (_ : Nat) => (fun a _ => ⟨List Str × Str, fun t => ⟨[(0, true, .str t.2), (1, true, .str [a.2]), (2, true, .int .i64 0), (3, true, .int .i64 (a.1.count a.2)), (8, true, .nil), (9, true, .own 9 1 (a0b (a3l (a.1.count a.2 + 1) t.1))), (10, true, .int .i64 t.1.length)], a2a 9 (a3l (a.1.count a.2 + 1) t.1)⟩, fun t => t.1.length + t.2.count a.2 = a.1.count a.2 /\ t.2.length <= a.1.length /\ t.1 ++ spl a.2 t.2 [] = spl a.2 a.1 [], fun t => a.1.count a.2 - t.1.length⟩) a n)) [] Tryz.func160 (by unfold Tryz.f160; rfl) (fun _ => ⟨(), trivial⟩) ?_
 intro a ha
 obtain ⟨s, c⟩ := a
 replace ha : s.length <= 1073741824 := ha
 have hc : s.count c <= s.length := List.count_le_length
 simp -implicitDefEqProofs [a9G, a9q, a6h, Con.fn, tTab]
 try dsimp only
 have hif : ¬ s.length < s.count c := by omega
 have hr : (List.replicate ((s.count c : Int) + 1).toNat [D.str []]) = a0b (a3l (s.count c + 1) []) := by
  rw [show ((s.count c : Int) + 1).toNat = s.count c + 1 by omega, b4y, a0y]
 have K1 : ∀ (a : List Str) (b : Str), a.length + b.count c = s.count c -> a.length < (a3l (s.count c + 1) a).length := fun a b h => by rw [c3s _ _ (by omega)]; omega
 have K2 : ∀ (a : List Str) (b : Str), a.length + b.count c = s.count c -> a ++ spl c b [] = spl c s [] -> (idxB b c < 0 \/ s.count c <= a.length) -> spl c s [] = ((a3l (s.count c + 1) a).set a.length b).take (a.length + 1) := by
  intro a b h1 h2 h3
  have h4 : idxB b c < 0 := by
   rcases h3 with h | h
   ·exact h
   ·refine Classical.byContradiction fun hn => ?_
    have := (b7M (p := []) (Int.not_lt.1 hn)).2
    omega
  have h5 := c8b (p := []) h4
  rw [<- h2, h5.1, a9Y _ _ _ (by omega)]
  unfold a3l
  rw [List.take_left' (by simp)]
  rfl
 have K3 : ∀ (b : Str), idxB b c < b.length := fun b => c9q b c
 have K4 : ∀ (a : List Str) (b : Str), a.length + b.count c = s.count c -> b.length <= s.length -> a ++ spl c b [] = spl c s [] -> 0 <= idxB b c ->
   ∃ x, a3l (s.count c + 1) x = (a3l (s.count c + 1) a).set a.length (b.take (idxB b c).toNat) /\ x.length = a.length + 1 /\ (a3l (s.count c + 1) a).set a.length (b.take (idxB b c).toNat) = a3l (s.count c + 1) x /\
    x.length + ((b.drop (idxB b c + 1).toNat).take (b.length - (idxB b c + 1).toNat)).count c = s.count c /\ b.length <= s.length + (idxB b c + 1).toNat /\
    x ++ spl c ((b.drop (idxB b c + 1).toNat).take (b.length - (idxB b c + 1).toNat)) [] = spl c s [] /\ s.count c - x.length < s.count c - a.length := by
  intro a b h1 h2 h3 h4
  obtain ⟨h5, h6⟩ := b7M (p := []) h4
  have e1 : (idxB b c + 1).toNat = (idxB b c).toNat + 1 := by omega
  have e2 : (b.drop (idxB b c + 1).toNat).take (b.length - (idxB b c + 1).toNat) = b.drop ((idxB b c).toNat + 1) := by
   rw [e1]; exact List.take_of_length_le (by simp)
  rw [e2]
  refine ⟨a ++ [b.take (idxB b c).toNat], (a9Y _ _ _ (by omega)).symm, by simp, a9Y _ _ _ (by omega), by simp; omega, by omega, ?_, by simp; omega⟩
  rw [<- h3, h5]
  simp
 simp +contextual [eStr, a0k, a0z, a0D, a0A, List.getElem?_eq_getElem, a0B, a0l, a0y, a0s, <- a0i, <- a0h, a0m, a0q, a0o, a0n, a0r, a0j, and_assoc, hif, hr]
 repeat' (first | intro _ | apply And.intro)
 all_goals first | omega | grind [b4y] | exact K4 _ _ (by omega) (by omega) (by assumption) (by omega)
def b6r : Con := .fn 8 (Str × UInt8) (fun a => [.str a.1, .str [a.2]]) (fun a => a.1.length <= 1073741824) (fun a => .sl false 1 (a0b (spl a.2 a.1 []))) (fun _ => [])
theorem c5l : Has Tryz.prog 112 b6r := by
 refine a0d mixed a0f (HasL.cons b6F HasL.nil) [0, 1, 4] ((fun a n (_ : Nat) => (fun _ => a0F) a n)) [] Tryz.func112 (by unfold Tryz.f112; rfl) (fun _ => ⟨(), trivial⟩) ?_
 intro a ha
 obtain ⟨s, c⟩ := a
 replace ha : s.length <= 1073741824 := ha
 simp -implicitDefEqProofs [b6r, Con.fn, tTab, a9G]
 try dsimp only
 try simp +contextual [eStr, a0k, a0z, a0D, a0A, List.getElem?_eq_getElem, a0B, a0l, a0y, a0s, <- a0i, <- a0h, a0m, a0q, a0o, a0n, a0r, a0j, and_assoc]
 repeat' (first | intro _ | apply And.intro)
 all_goals first | omega | grind [a0G]
def a3b (s : Str) : Bool := decide ((spl 47 s []).length <= 3) && (spl 47 s []).all a0Z
def a6F : Con := .fn 21 Str (fun s => [.str s]) (fun s => s.length <= 1073741824) (fun s => .bool (a3b s)) (fun _ => [])
theorem a6y : Has Tryz.prog 100 a6F := by
 refine a0d mixed a0f (HasL.cons c5l (HasL.cons a4y HasL.nil)) [0, 2, 3, 5, 11, 12, 13] ((fun a n (_ : Nat) => (fun s _ => ⟨Nat, fun i => ⟨[(2, true, .bool false), (11, true, .sl false 1 (a0b (spl 47 s []))), (12, true, .int .i64 (spl 47 s []).length), (13, true, .int .i64 i)], []⟩, fun i => i <= (spl 47 s []).length /\ (spl 47 s []).length <= 3 /\ ((spl 47 s []).take i).all a0Z = true, fun i => (spl 47 s []).length - i⟩) a n)) [] Tryz.func100 (by unfold Tryz.f100; rfl) (fun _ => ⟨(), trivial⟩) ?_
 intro (s : Str) hs
 replace hs : s.length <= 1073741824 := hs
 simp -implicitDefEqProofs [a6F, Con.fn, tTab, b6r, a4T]
 try dsimp only
 try simp +contextual [eStr, a0k, a0z, a0D, a0A, List.getElem?_eq_getElem, a0B, a0l, a0y, a0s, <- a0i, <- a0h, a0m, a0q, a0o, a0n, a0r, a0j, and_assoc]
 repeat' (first | intro _ | apply And.intro)
 all_goals first | omega | grind [a0G, a3b, List.take_succ_eq_append_getElem]
set_option maxRecDepth 8000
def a4W (d p : Str) : Bool := a3b d && a3b p && a5v (d ++ [47]) p
def b3O : Con := .fn 17 (Str × Str) (fun a => [.str a.1, .str a.2]) (fun a => a.1.length <= 536870912 /\ a.2.length <= 536870912) (fun a => .bool (a4W a.1 a.2)) (fun _ => [])
theorem c1P : Has Tryz.prog 118 b3O := by
 refine a0d mixed a0f (HasL.cons a6y (HasL.cons a9s HasL.nil)) [0, 1, 4] ((fun a n (_ : Nat) => (fun _ => a0F) a n)) [] Tryz.func118 (by unfold Tryz.f118; rfl) (fun _ => ⟨(), trivial⟩) ?_
 intro a ha
 obtain ⟨d, p⟩ := a
 obtain ⟨h1, h2⟩ : d.length <= 536870912 /\ p.length <= 536870912 := ha
 simp -implicitDefEqProofs [b3O, Con.fn, tTab, a6F, a6o]
 try dsimp only
 try simp +contextual [eStr, a0k, a0z, a0D, a0A, List.getElem?_eq_getElem, a0B, a0l, a0y, a0s, <- a0i, <- a0h, a0m, a0q, a0o, a0n, a0r, a0j, and_assoc]
 repeat' (first | intro _ | apply And.intro)
 all_goals first | omega | grind [a0G, a4W, maxLen]
def a3a (t : List FileD) (i : Nat) : Bool := a1f (t.getD i default).text && a3b (t.getD i default).path && (decide (i = 0) || Go.Op.bytesLess (t.getD (i - 1) default).path (t.getD i default).path)
def noUp (t : List FileD) (i : Nat) : Bool := (List.range i).all fun k => !a4W (t.getD k default).path (t.getD i default).path
def a0x (t : List FileD) : Bool := decide (t.length <= 8) && (List.range t.length).all fun i => a3a t i && noUp t i
def a4r : Con := .fn 57 (List FileD) (fun t => [.sl true 2 (a0a t)]) (fun t => ∀ f ∈ t, f.path.length <= 536870912) (fun t => .bool (a0x t)) (fun _ => [])
def tiO (t : List FileD) : Inv := ⟨Nat, fun i => ⟨[(0, true, .sl true 2 (a0a t)), (2, true, .bool false), (10, true, .sl true 2 (a0a t)), (11, true, .int .i64 t.length), (12, true, .int .i64 i)], []⟩, fun i => i <= t.length /\ t.length <= 8 /\ ∀ j, j < i -> a3a t j = true /\ noUp t j = true, fun i => t.length - i⟩
def tiI (t : List FileD) (g : Nat) : Inv := ⟨Nat, fun k => ⟨[(0, true, .sl true 2 (a0a t)), (2, true, .bool false), (3, true, .int .i64 g), (4, true, .ptr 10 0), (10, true, .sl true 2 (a0a t)), (11, true, .int .i64 t.length), (12, true, .int .i64 g), (44, true, .sl true 2 (a0a (t.take g))), (45, true, .int .i64 g), (46, true, .int .i64 k)],
  [(10, .box 99 [.str (t.getD g default).path, .sl true 1 (a0b (t.getD g default).text)])]⟩, fun x => g < t.length /\ x <= g /\ t.length <= 8 /\ (∀ j, j < g -> a3a t j = true /\ noUp t j = true) /\ a3a t g = true /\ ∀ k, k < x -> a4W (t.getD k default).path (t.getD g default).path = false, fun x => g - x⟩
def c2i (t : List FileD) (n g : Nat) : Inv := if n = 4 then tiO t else tiI t g
theorem d0s (t : List FileD) (g : Nat) : c2i t 4 g = tiO t := rfl
theorem d0t (t : List FileD) (g : Nat) : c2i t 9 g = tiI t g := rfl
theorem a3M : Has Tryz.prog 65 a4r := by
 refine a0d mixed a0f (HasL.cons a6C (HasL.cons a6y (HasL.cons c1P HasL.nil))) [0, 2, 3, 4, 6, 10, 11, 12, 44, 45, 46] (fun t => c2i t) [] Tryz.func65 (by unfold Tryz.f65; rfl) (fun _ => ⟨(), trivial⟩) ?_
 intro (t : List FileD) ht
 replace ht : ∀ f ∈ t, f.path.length <= 536870912 := ht
 have hp : ∀ i (h : i < t.length), (t[i]).path.length <= 536870912 := fun i h => ht _ (List.getElem_mem h)
 simp -implicitDefEqProofs [a4r, Con.fn, tTab, a6G, a6F, b3O, d0s, d0t, tiO, tiI]
 try dsimp only
 have hE : a0x t = true ↔ t.length <= 8 /\ ∀ i, i < t.length -> a3a t i = true /\ noUp t i = true := by
  simp [a0x]
 have hF : ∀ i, i < t.length -> (a3a t i && noUp t i) = false -> a0x t = false := by
  intro i hi h
  rcases hb : a0x t with _ | _
  ·rfl
  ·exact absurd ((hE.1 hb).2 i hi) (by simpa using h)
 have hH : ∀ i, i < t.length -> a3a t i = false -> a0x t = false := fun i hi h => hF i hi (by simp [h])
 have hN : ∀ i k, i < t.length -> k < i -> a4W (t.getD k default).path (t.getD i default).path = true -> a0x t = false := by
  intro i k hi hk h
  refine hF i hi ?_
  have : noUp t i = false := by
   simp only [noUp, List.all_eq_false]
   exact ⟨k, List.mem_range.2 hk, by simpa using h⟩
  simp [this]
 have hI : ∀ i, (∀ k, k < i -> a4W (t.getD k default).path (t.getD i default).path = false) -> noUp t i = true := by
  intro i h
  simp only [noUp, List.all_eq_true, List.mem_range]
  intro k hk
  simp only [h k hk, Bool.not_false]
 have hB : 8 < t.length -> a0x t = false := by
  intro h
  rcases hb : a0x t with _ | _
  ·rfl
  ·exact absurd (hE.1 hb).1 (by omega)
 have e1 : ∀ k (h : k < t.length), Option.map a0k t[k]? = some (a0k t[k]) := fun k h => by simp [List.getElem?_eq_getElem h]
 have e2 : ∀ i, i < t.length -> i - 1 < t.length := fun i h => by omega
 have e4 : ∀ i k (h : k < i) (h2 : i < t.length), Option.map a0k (List.take i t)[k]? = some (a0k t[k]) := fun i k h h2 => by
  rw [List.getElem?_take, if_pos h]; exact e1 k (by omega)
 have hg : ∀ i (h : i < t.length), t.getD i default = t[i] := fun i h => by simp [List.getD_eq_getElem?_getD, h]
 intro _
 refine ⟨fun h => hB (by omega), fun h8 _ => ⟨by omega, fun i hi h8' hprev => ⟨fun hlt => ?_, fun hge => ?_⟩⟩⟩
 ·have e3 := e1 i hlt
  have e3' := e1 (i - 1) (e2 i hlt)
  have hpi := hp i hlt
  have hgi := hg i hlt
  have hgi' := hg (i - 1) (e2 i hlt)
  have hh : a3a t i = (a1f t[i].text && a3b t[i].path && (decide (i = 0) || Go.Op.bytesLess t[i - 1].path t[i].path)) := by simp only [a3a, hgi, hgi']
  have hm : min i t.length = i := by omega
  have hgg : t[i]?.getD default = t[i] := by simpa [List.getD_eq_getElem?_getD] using hgi
  simp [hlt, e2 i hlt, e3, e3', a0k, eStr, D.asStr, D.asRows, hm, a0D, and_assoc, hgg]
  try simp +contextual [eStr, a0k, a0z, a0D, a0A, List.getElem?_eq_getElem, a0B, a0l, a0y, a0s, <- a0i, <- a0h, a0m, a0q, a0o, a0n, a0r, a0j, and_assoc, e4, hgg, hm, hlt, D.asStr, D.asRows, c6g]
  repeat' (first | intro _ | apply And.intro)
  all_goals first | omega | grind
 ·have hT : a0x t = true := hE.2 ⟨h8', fun j hj => hprev j (by omega)⟩
  simp [hT]
  repeat' (first | intro _ | apply And.intro)
  all_goals first | omega | grind
theorem a9m (t : List FileD) (h : a0x t = true) : t.length <= 8 /\ ∀ f ∈ t, f.text.length <= 64 := by
 simp only [a0x, Bool.and_eq_true, decide_eq_true_eq, List.all_eq_true, List.mem_range, a3a] at h
 refine ⟨h.1, fun f hf => ?_⟩
 obtain ⟨i, hi, rfl⟩ := List.getElem_of_mem hf
 have := (h.2 i hi).1.1.1
 simp [List.getD_eq_getElem?_getD, hi, a1f] at this
 omega
theorem a2X : ∀ (x y : Str), Go.Op.bytesLess x y = decide (x < y)
 | [], [] => by simp [Go.Op.bytesLess]
 | _ :: _, [] => by simp [Go.Op.bytesLess]
 | [], _ :: _ => by simp [Go.Op.bytesLess]
 | a :: x, b :: y => by
  rw [Go.Op.bytesLess, a2X x y]
  simp only [List.cons_lt_cons_iff]
  by_cases h1 : a < b <;> by_cases h2 : a = b <;> by_cases h3 : x < y <;> simp [h1, h2, h3]
theorem a2T (a : Str) : ¬ a < a := List.lt_irrefl a
theorem a4m {a b c : Str} (h : a < b) (h' : b < c) : a < c := List.lt_trans h h'
theorem a5a (a b : Str) (h : ¬ a < b) (hne : a ≠ b) : b < a := by
 have h1 : b <= a := List.not_lt.1 h
 exact Classical.byContradiction fun h2 => hne (List.le_antisymm (List.not_lt.1 h2) h1)
theorem a4l {a b : Str} (h : a < b) : ¬ b < a := fun h' => a2T a (a4m h h')
theorem b7e (a b : Str) : leqS a b = !decide (b < a) := by
 unfold leqS
 rw [a2X]
 by_cases h : a < b
 ·simp [h, a4l h]
 ·by_cases e : a = b
  ·subst e; simp [a2T]
  ·simp [h, e, a5a a b h e]
theorem c9f {b : UInt8} {most : Nat} : ∀ {r c : Str} {n : Nat}, n + r.count b <= most -> cutL (b.toNat : Int) most r c n = spl b r c := by
 intro r
 induction r with
 | nil => intro c n _; rfl
 | cons x r ih =>
  intro c n h
  have hx : ((x.toNat : Int) = (b.toNat : Int)) = (x = b) := by
   apply propext
   constructor
   ·intro h; exact UInt8.toNat_inj.1 (by omega)
   ·rintro rfl; rfl
  by_cases hb : x = b
  ·subst hb
   rw [List.count_cons_self] at h
   simp only [cutL, spl, if_true, show n < most by omega]
   rw [ih (by omega)]
  ·rw [List.count_cons_of_ne hb] at h
   simp only [cutL, spl, hx, hb, if_false]
   split
   ·exact ih h
   ·have h0 : r.count b = 0 := by omega
    have : ∀ (q p : Str), q.count b = 0 -> spl b q p = [p ++ q] := by
     intro q
     induction q with
     | nil => intro p _; simp [spl]
     | cons y q ih2 =>
      intro p hq
      have hy : y ≠ b := by rintro rfl; simp at hq
      rw [List.count_cons_of_ne hy] at hq
      simp only [spl, hy, if_false]
      rw [ih2 _ hq]; simp
    rw [this r _ h0]; simp
theorem c9e {b : UInt8} {most : Nat} : ∀ {r c : Str} {n : Nat}, n <= most -> most < n + r.count b -> (cutL (b.toNat : Int) most r c n).length = most - n + 1 := by
 intro r
 induction r with
 | nil => intro c n h1 h2; simp at h2; omega
 | cons x r ih =>
  intro c n h1 h2
  have hx : ((x.toNat : Int) = (b.toNat : Int)) = (x = b) := by
   apply propext
   constructor
   ·intro h; exact UInt8.toNat_inj.1 (by omega)
   ·rintro rfl; rfl
  simp only [cutL, hx]
  split
  ·split
   ·rename_i hb
    subst hb
    rw [List.count_cons_self] at h2
    rw [List.length_cons, ih (by omega) (by omega)]
    omega
   ·rename_i hb
    rw [List.count_cons_of_ne hb] at h2
    rw [ih h1 h2]
  ·simp; omega
theorem a6K (s : Str) : a3b s = a3c s := by
 unfold a3b a3c
 by_cases h : s.count 47 <= 3
 ·have : cutB s 47 3 = spl 47 s [] := c9f (b := 47) (most := 3) (by omega)
  rw [this, Bool.and_comm]
 ·have h1 : (cutB s 47 3).length = 4 := c9e (b := 47) (most := 3) (r := s) (c := []) (n := 0) (by omega) (by omega)
  have h2 := d0m 47 s []
  simp [h1, h2, h]
  omega
theorem b3W (d p : Str) : inB d p = a5v (d ++ [47]) p := by
 unfold inB a5v
 by_cases h : d.length < p.length
 ·have e : p.take (d.length + 1) = p.take d.length ++ [p[d.length]] := List.take_succ_eq_append_getElem h
  simp only [List.length_append, List.length_cons, List.length_nil, Nat.zero_add, e, h, show d.length + 1 <= p.length by omega, decide_true, Bool.true_and]
  have hg : p.getD d.length 0 = p[d.length] := getD_nat _ _ h
  rw [hg, Bool.eq_iff_iff]
  simp only [Bool.and_eq_true, decide_eq_true_eq]
  constructor
  ·rintro ⟨h1, h2⟩; rw [h1, h2]
  ·intro h1
   have := List.append_inj h1 (by simp; omega)
   exact ⟨this.1, by simpa using this.2⟩
 ·simp [h]
  omega
theorem c9T {d p : Str} (h : a5v (d ++ [47]) p = true) : d < p := by
 unfold a5v at h
 simp only [Bool.and_eq_true, decide_eq_true_eq, List.length_append, List.length_cons, List.length_nil, Nat.zero_add] at h
 have e : p = d ++ (47 :: p.drop (d.length + 1)) := by
  have := List.take_append_drop (d.length + 1) p
  rw [h.2] at this
  simpa using this.symm
 rw [e]
 generalize p.drop (d.length + 1) = q
 clear h e
 induction d with
 | nil => exact List.nil_lt_cons _ _
 | cons x d ih => exact List.cons_lt_cons_iff.2 (.inr ⟨rfl, ih⟩)
theorem a2k (t : List FileD) : a0x t = a0S t := by
 have hasc : (∀ i, i < t.length -> a3a t i = true) -> ∀ i k, i < k -> k < t.length -> (t.getD i default).path < (t.getD k default).path := by
  intro h i k hik hk
  induction k with
  | zero => omega
  | succ k ih =>
   have h1 := h (k + 1) hk
   simp only [a3a, Bool.and_eq_true, Bool.or_eq_true, decide_eq_true_eq, a2X, Nat.add_sub_cancel] at h1
   have h2 : (t.getD k default).path < (t.getD (k + 1) default).path := by
    rcases h1.2 with h2 | h2
    ·omega
    ·exact h2
   rcases Nat.lt_or_ge i k with h3 | h3
   ·exact a4m (ih h3 (by omega)) h2
   ·have : i = k := by omega
    subst this; exact h2
 have hhead : ∀ i, a3R t i = a3a t i := by
  intro i
  simp only [a3R, a3a, a6K, b7e, a2X, Bool.not_not]
  rw [Bool.and_comm (a3c _)]
 rw [Bool.eq_iff_iff]
 simp only [a0x, a0S, Bool.and_eq_true, decide_eq_true_eq, List.all_eq_true, List.mem_range, hhead]
 constructor
 ·rintro ⟨h8, h⟩
  refine ⟨fun i hi => ⟨(h i hi).1, ?_⟩, h8⟩
  simp only [noIn, List.all_eq_true, Bool.not_eq_true']
  intro g hg
  obtain ⟨k, hk, rfl⟩ := List.getElem_of_mem hg
  rw [show t[k] = t.getD k default by simp [List.getD_eq_getElem?_getD, hk], b3W]
  cases hp : a5v ((t.getD i default).path ++ [47]) (t.getD k default).path with
  | false => rfl
  | true =>
   exfalso
   have hlt := c9T hp
   have hik : i < k := by
    rcases Nat.lt_trichotomy i k with h1 | h1 | h1
    ·exact h1
    ·subst h1; exact absurd hlt (a2T _)
    ·exact absurd hlt (a4l (hasc (fun i hi => (h i hi).1) k i h1 hi))
   have h2 := (h k hk).2
   simp only [noUp, List.all_eq_true, List.mem_range, Bool.not_eq_true'] at h2
   have h3 := h2 i hik
   have p1 := (h i hi).1
   have p2 := (h k hk).1
   simp only [a3a, Bool.and_eq_true] at p1 p2
   simp only [a4W, p1.1.2, p2.1.2, hp, Bool.and_self, reduceCtorEq] at h3
 ·rintro ⟨h, h8⟩
  refine ⟨h8, fun i hi => ⟨(h i hi).1, ?_⟩⟩
  simp only [noUp, List.all_eq_true, List.mem_range, Bool.not_eq_true']
  intro k hk
  have h2 := (h k (by omega)).2
  simp only [noIn, List.all_eq_true, Bool.not_eq_true'] at h2
  have h3 := h2 _ (List.getElem_mem hi)
  rw [show t[i] = t.getD i default by simp [List.getD_eq_getElem?_getD, hi], b3W] at h3
  simp only [a4W, h3, Bool.and_false]
def atB (p q : Str) : Bool := decide (p = q) || a5v (q ++ [47]) p
def b5D : Con := .fn 16 (FileD × Str) (fun a => [.agg [.str a.1.path, .sl true 1 (a0b a.1.text)], .str a.2]) (fun a => a.2.length <= 536870912) (fun a => .bool (atB a.1.path a.2)) (fun _ => [])
theorem b6Q : Has Tryz.prog 127 b5D := by
 refine a0d mixed a0f (HasL.cons a9s HasL.nil) [0, 1, 2, 4] ((fun a n (_ : Nat) => (fun _ => a0F) a n)) [] Tryz.func127 (by unfold Tryz.f127; rfl) (fun _ => ⟨(), trivial⟩) ?_
 intro a ha
 obtain ⟨⟨p, x⟩, q⟩ := a
 replace ha : q.length <= 536870912 := ha
 simp -implicitDefEqProofs [b5D, Con.fn, tTab, a6o]
 try dsimp only
 try simp +contextual [eStr, a0k, a0z, a0D, a0A, List.getElem?_eq_getElem, a0B, a0l, a0y, a0s, <- a0i, <- a0h, a0m, a0q, a0o, a0n, a0r, a0j, and_assoc]
 repeat' (first | intro _ | apply And.intro)
 all_goals first | omega | grind [a0G, atB, maxLen]
theorem d1l : ∀ {a : List Str} {l : Int}, 0 <= szL a l -> ∀ s ∈ a, (s.length : Int) <= l := by
 intro a
 induction a with
 | nil => intro l _ s hs; cases hs
 | cons x r ih =>
  intro l h s hs
  simp only [szL] at h
  split at h
  ·omega
  ·rcases List.mem_cons.1 hs with rfl | hs
   ·have := d1j (a := r) (l := l - s.length) (by omega); omega
   ·have := ih h s hs; omega
theorem c5u {a : List Str} {l : Int} (h : 0 <= a3V a l) : (a.length : Int) <= l /\ ∀ s ∈ a, (s.length : Int) <= l := by
 unfold a3V at h
 split at h
 ·omega
 ·refine ⟨by omega, fun s hs => ?_⟩
  have := d1l h s hs; omega
theorem c8w (f : FileD) (q : Str) : atB f.path q = (decide (q = f.path) || inB q f.path) := by
 unfold atB
 rw [b3W]
 congr 1
 simp only [eq_comm]
def digL : Nat -> Nat -> Str -> Str
 | 0, _, out => out
 | f + 1, k, out => if k = 0 then out else digL f (k / 10) (UInt8.ofNat (48 + k % 10) :: out)
theorem c3e : ∀ {f g k : Nat} {out : Str}, k < f -> k < g -> digL f k out = digL g k out := by
 intro f
 induction f with
 | zero => intro g k out h; omega
 | succ f ih =>
  intro g k out h1 h2
  cases g with
  | zero => omega
  | succ g =>
   simp only [digL]
   split
   ·rfl
   ·exact ih (by omega) (by omega)
def dig (k : Nat) (out : Str) : Str := digL (k + 1) k out
theorem c6q {k : Nat} {out : Str} (h : 0 < k) : dig k out = dig (k / 10) (UInt8.ofNat (48 + k % 10) :: out) := by
 unfold dig
 rw [digL, if_neg (by omega)]
 exact c3e (by omega) (by omega)
def a1p (k : Int) : Str := if k <= 0 then [109, 48] else 109 :: dig k.toNat []
def a2B : Con := .fn 20 Int (fun k => [.int .i64 k]) (fun k => k <= 4611686018427387904) (fun k => .str (a1p k)) (fun _ => [])
theorem a2e : Has Tryz.prog 38 a2B := by
 refine a0d mixed a0f HasL.nil [0, 2, 3] ((fun a n (_ : Nat) => (fun k _ => ⟨Int × Str, fun t => ⟨[(0, true, .int .i64 t.1), (2, true, .str []), (3, true, .str t.2)], []⟩, fun t => 0 <= t.1 /\ 0 < (show Int from k) /\ t.2.length + t.1.toNat <= (show Int from k).toNat /\ dig t.1.toNat t.2 = dig (show Int from k).toNat [], fun t => t.1.toNat⟩) a n)) [] Tryz.func38 (by unfold Tryz.f38; rfl) (fun _ => ⟨(), trivial⟩) ?_
 intro (k : Int) hk
 replace hk : k <= 4611686018427387904 := hk
 have hm : ∀ n : Int, 0 <= n -> n.tmod 10 = n % 10 := fun n h => Int.tmod_eq_emod_of_nonneg h
 have hq : ∀ n : Int, 0 <= n -> n.tdiv 10 = n / 10 := fun n h => Int.tdiv_eq_ediv_of_nonneg h
 have hs : ∀ (n : Int) (out : Str), 0 < n -> dig n.toNat out = dig (n / 10).toNat (UInt8.ofNat (48 + n % 10).toNat :: out) := fun n out h => by
  rw [c6q (by omega)]
  congr 1
  ·omega
  ·congr 2; omega
 have hz : ∀ out : Str, dig 0 out = out := fun _ => rfl
 have hM : maxLen = 9223372036854775807 := rfl
 simp -implicitDefEqProofs [a2B, Con.fn, tTab]
 try dsimp only
 refine ⟨fun h => by simp [a1p, h], fun h0 => ⟨⟨k, [], ⟨rfl, rfl⟩, by omega, h0, by simp, rfl⟩, ?_⟩⟩
 intro a b ha _ hl hd
 rw [hm a ha, hq a ha, hM]
 refine ⟨fun hpos => ⟨by omega, fun _ _ => ⟨by omega, fun _ _ => ⟨by omega, fun _ => ⟨by omega, fun _ => ⟨by omega, fun _ _ => ⟨_, _, ⟨rfl, rfl⟩, ⟨by omega, h0, by simp only [List.length_cons]; omega, ?_⟩, by omega⟩⟩⟩⟩⟩⟩, fun hz0 => ⟨by omega, fun _ => ?_⟩⟩
 ·rw [<- hs a b hpos, hd]
 ·obtain rfl : a = 0 := by omega
  rw [show dig (Int.toNat 0) b = b from rfl] at hd
  simp only [a1p, if_neg (show ¬ k <= 0 by omega), hd]
def a1G (n : Nat) (k : Int) : List Str := (List.range n).map fun i : Nat => a1p (k + (i : Int))
theorem a6b (n : Nat) (k : Int) : (a1G n k).length = n := by simp [a1G]
theorem b2X (n : Nat) (k : Int) : a1G (n + 1) k = a1G n k ++ [a1p (k + n)] := by simp [a1G, List.range_succ]
def mArr (a : List Str) (k : Int) (i : Nat) : List Str := a1G i k ++ a.drop i
theorem c7c {a : List Str} {k : Int} {i : Nat} (h : i <= a.length) : (mArr a k i).length = a.length := by simp [mArr, a6b]; omega
theorem c7d {a : List Str} {k : Int} {i : Nat} (h : i < a.length) : (mArr a k i).set i (a1p (k + i)) = mArr a k (i + 1) := by
 unfold mArr
 have e : (l' : List Str) -> l' = a.drop i -> l'.set 0 (a1p (k + i)) = a1p (k + i) :: a.drop (i + 1) := by
  rintro _ rfl
  rw [List.drop_eq_getElem_cons h]; rfl
 rw [List.set_append_right _ _ (by simp [a6b]), a6b, Nat.sub_self, b2X, e _ rfl]
 simp
theorem c4s (a : List Str) (k : Int) : mArr a k 0 = a := by simp [mArr, a1G]
theorem c7b {a : List Str} {k : Int} {i : Nat} (h : a.length <= i) (h2 : i <= a.length) : mArr a k i = a1G a.length k := by
 obtain rfl : i = a.length := by omega
 simp [mArr]
def a5h : Con := { A := List Str × Int, X := Unit, n := 20, args := fun a => [.own 0 1 (a0b a.1), .int .i64 a.2], boxes := fun _ => [], pre := fun a => 0 <= a.2 /\ a.2 + a.1.length <= 4611686018427387904, post := fun _ _ => True, res := fun a _ => .int .i64 (a.2 + a.1.length), fin := fun a _ => [(0, .own 9 1 true (a0b (a1G a.1.length a.2)))], owns := fun a => [(0, 9, 1, a0b a.1)], lends := [0], mv := true, sube := 9 }
theorem a7t : Has Tryz.prog 39 a5h := by
 refine a0d mixed a0f (HasL.cons a2e HasL.nil) [0, 1, 4, 5] ((fun a n (_ : Nat) => (fun a _ => ⟨Nat, fun i => ⟨[(0, true, .own 0 1 (a0b (mArr a.1 a.2 i))), (1, true, .int .i64 (a.2 + i)), (4, true, .int .i64 0), (5, true, .int .i64 i)], [(0, .own 9 1 true (a0b (mArr a.1 a.2 i)))]⟩, fun i => i <= a.1.length, fun i => a.1.length - i⟩) a n)) [] Tryz.func39 (by unfold Tryz.f39; rfl) (fun _ => ⟨(), trivial⟩) ?_
 intro a ha
 obtain ⟨l, k⟩ := a
 obtain ⟨h1, h2⟩ : 0 <= k /\ k + l.length <= 4611686018427387904 := ha
 have e1 := fun i => @c7c l k i
 have e2 := fun i => @c7d l k i
 have e3 := c4s l k
 have e4 := fun i => @c7b l k i
 simp -implicitDefEqProofs [a5h, Con.fn, tTab, a2B]
 try dsimp only
 try simp +contextual [eStr, a0k, a0z, a0D, a0A, List.getElem?_eq_getElem, a0B, a0l, a0y, a0s, <- a0i, <- a0h, a0m, a0q, a0o, a0n, a0r, a0j, and_assoc, e1, e2, e3]
 repeat' (first | intro _ | apply And.intro)
 all_goals first | omega | grind [a0G]
def a7r (a : List Str) (k : Int) : Int := if a = a1G a.length k then k + a.length else -1
def a6P : Con := .fn 22 (List Str × Int) (fun a => [.sl true 1 (a0b a.1), .int .i64 a.2]) (fun a => 0 <= a.2 /\ a.2 + a.1.length <= 4611686018427387904) (fun a => .int .i64 (a7r a.1 a.2)) (fun _ => [])
theorem c6z {a : List Str} {k : Int} {i : Nat} (h : a.length <= i) (h2 : i <= a.length) (h3 : a.take i = a1G i k) : a7r a k = k + i := by
 obtain rfl : i = a.length := by omega
 rw [List.take_length] at h3
 unfold a7r
 rw [if_pos h3]
theorem c3B {a : List Str} {k : Int} {i : Nat} (h : i < a.length) (h2 : a[i] ≠ a1p (k + i)) : a7r a k = -1 := by
 unfold a7r
 rw [if_neg]
 intro h3
 apply h2
 have : a[i]? = (a1G a.length k)[i]? := by rw [<- h3]
 rw [List.getElem?_eq_getElem h] at this
 simpa [a1G, h] using this
theorem c3C {a : List Str} {k : Int} {i : Nat} (h : i < a.length) (h2 : a[i] = a1p (k + i)) (h3 : a.take i = a1G i k) : a.take (i + 1) = a1G (i + 1) k := by
 rw [a0p h, b2X, h3, h2]
theorem b2B : Has Tryz.prog 151 a6P := by
 refine a0d mixed a0f (HasL.cons a2e HasL.nil) [0, 1, 4, 5] ((fun a n (_ : Nat) => (fun a _ => ⟨Nat, fun i => ⟨[(0, true, .sl true 1 (a0b a.1)), (1, true, .int .i64 (a.2 + i)), (4, true, .int .i64 0), (5, true, .int .i64 i)], []⟩, fun i => i <= a.1.length /\ a.1.take i = a1G i a.2, fun i => a.1.length - i⟩) a n)) [] Tryz.func151 (by unfold Tryz.f151; rfl) (fun _ => ⟨(), trivial⟩) ?_
 intro a ha
 obtain ⟨l, k⟩ := a
 obtain ⟨h1, h2⟩ : 0 <= k /\ k + l.length <= 4611686018427387904 := ha
 have e1 := fun i => @c6z l k i
 have e2 := fun i => @c3B l k i
 have e3 := fun i => @c3C l k i
 have e4 : a1G 0 k = [] := rfl
 simp -implicitDefEqProofs [a6P, Con.fn, tTab, a2B]
 try dsimp only
 try simp +contextual [eStr, a0k, a0z, a0D, a0A, List.getElem?_eq_getElem, a0B, a0l, a0y, a0s, <- a0i, <- a0h, a0m, a0q, a0o, a0n, a0r, a0j, and_assoc]
 repeat' (first | intro _ | apply And.intro)
 all_goals first | omega | grind [a0G]



def kE (l : List FileD) (k : Int) : Int := k + l.length + a2p l
def a1c (t : List FileD) (k : Int) : List FileD := (List.range t.length).map fun i : Nat => ⟨a1p (kE (t.take i) k), a1G (t.getD i default).text.length (kE (t.take i) k + 1)⟩
theorem a1M (t : List FileD) (k : Int) : (a1c t k).length = t.length := by simp [a1c]
def mFA (t : List FileD) (k : Int) (i : Nat) : List FileD := (a1c t k).take i ++ t.drop i
theorem c9C {t : List FileD} {k : Int} {i : Nat} (h : i <= t.length) : (mFA t k i).length = t.length := by simp [mFA, a1M]; omega
theorem c7e (t : List FileD) (k : Int) : mFA t k 0 = t := by simp [mFA]
theorem c9A {t : List FileD} {k : Int} {i : Nat} (h : t.length <= i) : mFA t k i = a1c t k := by
 unfold mFA
 rw [List.take_of_length_le (by rw [a1M]; exact h), List.drop_eq_nil_of_le h, List.append_nil]
theorem c9B {t : List FileD} {k : Int} {i : Nat} (h : i < t.length) : (mFA t k i)[i]? = some t[i] := by
 unfold mFA
 rw [List.getElem?_append_right (by simp [a1M]; omega), List.length_take, a1M, Nat.min_eq_left (by omega), Nat.sub_self, List.drop_eq_getElem_cons h]
 rfl
theorem c9D {t : List FileD} {k : Int} {i : Nat} (h : i < t.length) : (mFA t k i).set i ⟨a1p (kE (t.take i) k), a1G t[i].text.length (kE (t.take i) k + 1)⟩ = mFA t k (i + 1) := by
 unfold mFA
 have hl : i < (a1c t k).length := by rw [a1M]; exact h
 have hx : (a1c t k)[i] = ⟨a1p (kE (t.take i) k), a1G t[i].text.length (kE (t.take i) k + 1)⟩ := by simp [a1c, h]
 rw [List.set_append_right _ _ (by simp [a1M]; omega), List.length_take, a1M, Nat.min_eq_left (by omega), Nat.sub_self, List.drop_eq_getElem_cons h, List.set_cons_zero, List.take_succ_eq_append_getElem hl, hx]
 simp
theorem b9y {t : List FileD} {k : Int} {i : Nat} (h : i < t.length) : kE (t.take (i + 1)) k = kE (t.take i) k + 1 + t[i].text.length := by
 unfold kE
 rw [b8R _ _ h]
 simp; omega
theorem c1g {t : List FileD} {k : Int} (i : Nat) : k <= kE (t.take i) k /\ kE (t.take i) k <= kE t k := by
 have h1 : a2p (t.take i) <= a2p t := by
  have : a2p t = a2p (t.take i) + a2p (t.drop i) := by
   unfold a2p
   rw [<- List.sum_append, <- List.map_append, List.take_append_drop]
  omega
 have h2 : (t.take i).length <= t.length := by simp; omega
 unfold kE
 omega
theorem b9z (k : Int) : kE [] k = k := by simp [kE, a2p]
def a8A : Con := { A := List FileD × Int, X := Unit, n := 28, args := fun a => [.own 0 2 (a0a a.1), .int .i64 a.2], boxes := fun _ => [], pre := fun a => 0 <= a.2 /\ kE a.1 a.2 <= 1152921504606846976, post := fun _ _ => True, res := fun a _ => .int .i64 (kE a.1 a.2), fin := fun a _ => [(0, .own 99 2 true (a0a (a1c a.1 a.2)))], owns := fun a => [(0, 99, 2, a0a a.1)], lends := [0], mv := true, sube := 99 }
theorem b5l : Has Tryz.prog 96 a8A := by
 refine a0d mixed a0f (HasL.cons a2e (HasL.cons a7t HasL.nil)) [0, 1, 4, 5] ((fun a n (_ : Nat) => (fun a _ => ⟨Nat, fun i => ⟨[(0, true, .own 0 2 (a0a (mFA a.1 a.2 i))), (1, true, .int .i64 (kE (a.1.take i) a.2)), (4, true, .int .i64 0), (5, true, .int .i64 i)], [(0, .own 99 2 true (a0a (mFA a.1 a.2 i)))]⟩, fun i => i <= a.1.length, fun i => a.1.length - i⟩) a n)) [] Tryz.func96 (by unfold Tryz.f96; rfl) (fun _ => ⟨(), trivial⟩) ?_
 intro a ha
 obtain ⟨t, k⟩ := a
 obtain ⟨q1, q2⟩ : 0 <= k /\ kE t k <= 1152921504606846976 := ha
 have e1 := fun i => @c9C t k i
 have e2 := fun i => @c9D t k i
 have e3 := c7e t k
 have e4 := fun i => @c9A t k i
 have e5 := fun i => @c9B t k i
 have e6 := fun i => @b9y t k i
 have e7 := fun i => @c1g t k i
 have e8 := b9z k
 simp -implicitDefEqProofs [a8A, Con.fn, tTab, a2B, a5h, e3, e8]
 try dsimp only
 refine ⟨⟨0, by simp [e3, e8]⟩, fun i hi _ => ⟨fun hlt => ?_, fun hge => ?_⟩⟩
 ·have hlt' : i < t.length := by rw [e1 i hi] at hlt; exact hlt
  have g1 := e5 i hlt'
  have g2 : ∀ r, ((a0a (mFA t k i)).set i r)[i]? = some r := fun r => by
   rw [List.getElem?_set_self (by rw [eFiles_length]; exact hlt)]
  have g3 := e7 i
  have g4 := e6 i hlt'
  have g5 := e7 (i + 1)
  have g6 : (a0a (mFA t k i)).set i [D.str (a1p (kE (t.take i) k)), D.sl 9 1 (a0b (a1G t[i].text.length (kE (t.take i) k + 1)))] = a0a (mFA t k (i + 1)) := by
   rw [<- e2 i hlt', a0l]
  have g7 := e1 (i + 1) (by omega)
  have g8 : (mFA t k i)[i] = t[i] := by rw [List.getElem?_eq_getElem hlt] at g1; exact Option.some.inj g1
  simp [g1, g2, a0k, D.asRows, e1 i hi, hlt', hlt, and_assoc]
  rw [g8]
  exact ⟨by omega, by omega, by omega, fun _ _ => ⟨by omega, by omega, by omega, by omega, fun _ _ => ⟨i + 1, g6.symm, by omega, by omega, g6, by omega, by omega⟩⟩⟩
 ·rw [e1 i hi] at hge
  rw [e4 i hge, List.take_of_length_le hge]
  exact ⟨rfl, rfl⟩
theorem c4H {B : Nat} (t : List FileD) (h : ∀ f ∈ t, f.text.length <= B) : a2p t <= B * t.length := by
 induction t with
 | nil => simp [a2p]
 | cons f r ih =>
  have h1 := h f (by simp)
  have h2 := ih (fun g hg => h g (by simp [hg]))
  simp [a2p, Nat.mul_add] at h2 ⊢
  omega
theorem a9X {l : List Str} {x : List D} {d : D} (h : x ∈ a0b l) (h' : d ∈ x) : ∃ s, d = D.str s := by
 simp only [a0b, List.mem_map] at h
 obtain ⟨s, _, rfl⟩ := h
 simp only [eStr, List.mem_singleton] at h'
 exact ⟨s, h'⟩
def a4Q : Con := .fn 6 (List Str) (fun a => [.sl true 1 (a0b a)]) (fun a => a.length <= 1048576) (fun a => .own 8 1 (a0b a)) (fun a => a2a 8 a)
theorem a5j : Has Tryz.prog 167 a4Q := by
 refine a0d mixed a0f HasL.nil [0, 2] ((fun a n (_ : Nat) => (fun _ => a0F) a n)) [] Tryz.func167 (by unfold Tryz.f167; rfl) (fun _ => ⟨(), trivial⟩) ?_
 intro (a : List Str) ha
 replace ha : a.length <= 1048576 := ha
 simp -implicitDefEqProofs [a4Q, Con.fn, tTab]
 try dsimp only
 try simp +contextual [eStr, a0k, a0z, a0D, a0A, List.getElem?_eq_getElem, a0B, a0l, a0y, a0s, <- a0i, <- a0h, a0m, a0q, a0o, a0n, a0r, a0j, and_assoc]
 repeat' (first | intro _ | apply And.intro)
 all_goals first | omega | grind [a0G, a9X]
def a2U : Con := .fn 23 (List FileD) (fun a => [.sl true 2 (a0a a)]) (fun a => a.length <= 1048576 /\ ∀ f ∈ a, f.text.length <= 1048576) (fun a => .own 8 2 (a0a a)) (fun a => a2s 8 a)
theorem a2C : Has Tryz.prog 123 a2U := by
 refine a0d mixed a0f (HasL.cons a5j HasL.nil) [0, 2, 3, 5, 6, 7, 8] ((fun a n (_ : Nat) => (fun a _ => ⟨Nat, fun i => ⟨[(2, true, .nil), (3, true, .own 9 2 (a0a (a.take i))), (6, true, .sl true 2 (a0a a)), (7, true, .int .i64 a.length), (8, true, .int .i64 i)], a2s 9 (a.take i)⟩, fun i => i <= a.length, fun i => a.length - i⟩) a n)) [19] Tryz.func123 (by unfold Tryz.f123; rfl) (fun _ => ⟨(), trivial⟩) ?_
 intro (a : List FileD) ha
 obtain ⟨h1, h2⟩ : a.length <= 1048576 /\ ∀ f ∈ a, f.text.length <= 1048576 := ha
 have h3 : ∀ i (h : i < a.length), a[i].text.length <= 1048576 := fun i h => h2 _ (List.getElem_mem h)
 simp -implicitDefEqProofs [a2U, Con.fn, tTab, a4Q]
 try dsimp only
 try simp +contextual [eStr, a0k, a0z, a0D, a0A, List.getElem?_eq_getElem, a0B, a0l, a0y, a0s, <- a0i, <- a0h, a0m, a0q, a0o, a0n, a0r, a0j, and_assoc, <- FileD.eq_iff]
 repeat' (first | intro _ | apply And.intro)
 all_goals first | omega | grind [a0G, List.take_of_length_le, List.take_succ_eq_append_getElem]
def a4R : Con := .fn 29 (List FileD) (fun a => [.sl true 2 (a0a a)]) (fun a => a.length <= 1048576 /\ ∀ f ∈ a, f.text.length <= 1048576) (fun a => .own 8 2 (a0a a)) (fun a => a2s 8 a)
theorem a4t : Has Tryz.prog 139 a4R := by
 refine a0d mixed a0f HasL.nil [0, 2, 3, 4] ((fun a n (_ : Nat) => (fun a _ => ⟨Nat, fun i => ⟨[(0, true, .sl true 2 (a0a a)), (2, true, .nil), (3, true, .own 9 2 (a0a (a.take i))), (4, true, .int .i64 i)], a2s 9 (a.take i)⟩, fun i => i <= a.length, fun i => a.length - i⟩) a n)) [26] Tryz.func139 (by unfold Tryz.f139; rfl) (fun _ => ⟨(), trivial⟩) ?_
 intro (a : List FileD) ha
 obtain ⟨h1, h2⟩ : a.length <= 1048576 /\ ∀ f ∈ a, f.text.length <= 1048576 := ha
 have h3 : ∀ i (h : i < a.length), a[i].text.length <= 1048576 := fun i h => h2 _ (List.getElem_mem h)
 simp -implicitDefEqProofs [a4R, Con.fn, tTab]
 try dsimp only
 try simp +contextual [eStr, a0k, a0z, a0D, a0A, List.getElem?_eq_getElem, a0B, a0l, a0y, a0s, <- a0i, <- a0h, a0m, a0q, a0o, a0n, a0r, a0j, and_assoc, <- FileD.eq_iff]
 repeat' (first | intro _ | apply And.intro)
 all_goals first | omega | grind [a0G, a9X, List.take_of_length_le, List.take_succ_eq_append_getElem]
def filB (p : FileD -> Bool) (t : List FileD) : List FileD := t.filter p
theorem b3T {p : FileD -> Bool} {t : List FileD} {i : Nat} (h : i < t.length) (hp : p t[i] = true) : filB p (t.take (i + 1)) = filB p (t.take i) ++ [t[i]] := by
 unfold filB
 rw [a0p h, List.filter_append]
 simp [List.filter_cons, hp]
theorem b1I {p : FileD -> Bool} {t : List FileD} {i : Nat} (h : i < t.length) (hp : p t[i] = false) : filB p (t.take (i + 1)) = filB p (t.take i) := by
 unfold filB
 rw [a0p h, List.filter_append]
 simp [List.filter_cons, hp]
theorem c3h (p : FileD -> Bool) (t : List FileD) (i : Nat) : (filB p (t.take i)).length <= i := by
 have := List.length_filter_le p (t.take i)
 unfold filB
 simp at this; omega
theorem b9s (p : FileD -> Bool) : filB p [] = [] := rfl
def a3G (p : FileD -> Bool) (t : List FileD) (i : Nat) : List (List D) := (t.take i).map (fun f => if p f then [.str f.path, .junk] else a0k f) ++ a0a (t.drop i)
theorem c3r (p : FileD -> Bool) (t : List FileD) (i : Nat) : (a3G p t i).length = t.length := by simp [a3G]; omega
theorem c0K (p : FileD -> Bool) (t : List FileD) : a3G p t 0 = a0a t := by simp [a3G]
theorem c3p {p : FileD -> Bool} {t : List FileD} {i : Nat} (h : i < t.length) : (a3G p t i)[i]? = some (a0k t[i]) := by
 unfold a3G
 rw [List.getElem?_append_right (by simp; omega), List.length_map, List.length_take, Nat.min_eq_left (by omega), Nat.sub_self, eFiles_get, List.drop_eq_getElem_cons h]
 rfl
theorem c0J {p : FileD -> Bool} {t : List FileD} {i : Nat} (h : i < t.length) (hp : p t[i] = false) : a3G p t (i + 1) = a3G p t i := by
 unfold a3G
 rw [a0p h, List.map_append, List.drop_eq_getElem_cons h]
 simp only [List.map_cons, List.map_nil, hp, Bool.false_eq_true, if_false, a0a, List.append_assoc, List.cons_append, List.nil_append]
theorem c3q {p : FileD -> Bool} {t : List FileD} {i : Nat} (h : i < t.length) (hp : p t[i] = true) : (a3G p t i).set i [.str t[i].path, .junk] = a3G p t (i + 1) := by
 unfold a3G
 rw [a0p h, List.map_append]
 rw [List.set_append_right _ _ (by simp; omega), List.length_map, List.length_take, Nat.min_eq_left (by omega), Nat.sub_self, List.drop_eq_getElem_cons h]
 simp only [List.map_cons, List.map_nil, hp, if_true, a0a, List.append_assoc, List.cons_append, List.nil_append, List.set_cons_zero]
def a1i (f : FileD) (acc : List FileD × Bool) (g : FileD) : List FileD × Bool :=
 if acc.2 = false /\ Go.Op.bytesLess g.path f.path = false then (if g.path = f.path then (acc.1 ++ [f], true) else (acc.1 ++ [f] ++ [g], true))
 else (if g.path = f.path then acc else (acc.1 ++ [g], acc.2))
def setL (f : FileD) (l : List FileD) : List FileD × Bool := l.foldl (a1i f) ([], false)
def setS (t : List FileD) (f : FileD) : List FileD := if (setL f t).2 then (setL f t).1 else (setL f t).1 ++ [f]
theorem a4Y {f : FileD} {t : List FileD} {i : Nat} (h : i < t.length) : setL f (t.take (i + 1)) = a1i f (setL f (t.take i)) t[i] := by
 unfold setL
 rw [a0p h, List.foldl_append]; rfl
theorem b9c (f : FileD) (acc : List FileD × Bool) (g : FileD) : (a1i f acc g).1.length + acc.2.toNat <= acc.1.length + (a1i f acc g).2.toNat + 1 := by
 unfold a1i
 split
 ·rename_i h
  rw [h.1]
  split <;> simp <;> omega
 ·split <;> simp <;> omega
theorem b7K (f : FileD) (t : List FileD) : (setL f t).1.length <= t.length + (setL f t).2.toNat := by
 have : ∀ (t : List FileD) (acc : List FileD × Bool), (t.foldl (a1i f) acc).1.length + acc.2.toNat <= acc.1.length + t.length + (t.foldl (a1i f) acc).2.toNat := by
  intro t
  induction t with
  | nil => intro acc; simp
  | cons g r ih =>
   intro acc
   have h1 := ih (a1i f acc g)
   have h2 := b9c f acc g
   simp only [List.foldl_cons, List.length_cons]
   omega
 have := this t ([], false)
 simpa [setL] using this
theorem c7X (t : List FileD) (f : FileD) : (setS t f).length <= t.length + 1 := by
 have := b7K f t
 unfold setS
 split
 ·rename_i h; rw [h] at this; simpa using this
 ·rename_i h
  have h : (setL f t).2 = false := by simpa using h
  rw [h] at this; simp at this ⊢; omega
def b2r : Con := .fn 65 (List FileD × FileD) (fun a => [.sl true 2 (a0a a.1), .agg [.str a.2.path, .sl true 1 (a0b a.2.text)]]) (fun a => a.1.length <= 1048576 /\ a.2.text.length <= 1048576) (fun a => .sl false 2 (a0a (setS a.1 a.2))) (fun _ => [])
theorem b4H : Has Tryz.prog 138 b2r := by
 refine a0d mixed a0f HasL.nil [0, 1, 3, 4, 5, 6, 7] ((fun a n (_ : Nat) => (fun a _ => ⟨Nat, fun i => ⟨[(0, true, .sl true 2 (a0a a.1)), (3, true, .ptr 10 0), (4, true, .nil), (5, true, .own 9 2 (a0a (setL a.2 (a.1.take i)).1)), (6, true, .bool (setL a.2 (a.1.take i)).2), (7, true, .int .i64 i)], [(10, .box 99 [.str a.2.path, .sl true 1 (a0b a.2.text)]), (9, .own 99 2 false (a0a (setL a.2 (a.1.take i)).1))]⟩, fun i => i <= a.1.length, fun i => a.1.length - i⟩) a n)) [35, 62] Tryz.func138 (by unfold Tryz.f138; rfl) (fun _ => ⟨(), trivial⟩) ?_
 intro a ha
 obtain ⟨t, f⟩ := a
 obtain ⟨q1, q2⟩ : t.length <= 1048576 /\ f.text.length <= 1048576 := ha
 have a0 : setL f [] = ([], false) := rfl
 have a1 : ∀ i (h : i < t.length), (setL f (t.take i)).2 = true -> ¬ t[i].path = f.path -> setL f (t.take (i + 1)) = ((setL f (t.take i)).1 ++ [t[i]], true) := fun i h h1 h2 => by rw [a4Y h]; simp [a1i, h1, h2]
 have a2 : ∀ i (h : i < t.length), (setL f (t.take i)).2 = true -> t[i].path = f.path -> setL f (t.take (i + 1)) = ((setL f (t.take i)).1, true) := fun i h h1 h2 => by rw [a4Y h]; unfold a1i; rw [if_neg (by simp [h1]), if_pos h2]; exact Prod.ext rfl h1
 have a3 : ∀ i (h : i < t.length), (setL f (t.take i)).2 = false -> Go.Op.bytesLess t[i].path f.path = false -> ¬ t[i].path = f.path -> setL f (t.take (i + 1)) = ((setL f (t.take i)).1 ++ [f] ++ [t[i]], true) := fun i h h1 h3 h2 => by rw [a4Y h]; simp [a1i, h1, h2, h3]
 have a4 : ∀ i (h : i < t.length), (setL f (t.take i)).2 = false -> Go.Op.bytesLess t[i].path f.path = false -> t[i].path = f.path -> setL f (t.take (i + 1)) = ((setL f (t.take i)).1 ++ [f], true) := fun i h h1 h3 h2 => by rw [a4Y h]; rw [h2] at h3; simp [a1i, h1, h2, h3]
 have a5 : ∀ i (h : i < t.length), (setL f (t.take i)).2 = false -> Go.Op.bytesLess t[i].path f.path = true -> ¬ t[i].path = f.path -> setL f (t.take (i + 1)) = ((setL f (t.take i)).1 ++ [t[i]], false) := fun i h h1 h3 h2 => by rw [a4Y h]; simp [a1i, h1, h2, h3]
 have a6 : ∀ i (h : i < t.length), (setL f (t.take i)).2 = false -> Go.Op.bytesLess t[i].path f.path = true -> t[i].path = f.path -> setL f (t.take (i + 1)) = ((setL f (t.take i)).1, false) := fun i h h1 h3 h2 => by rw [a4Y h]; unfold a1i; rw [if_neg (by simp [h3]), if_pos h2]; exact Prod.ext rfl h1
 have a7 : ∀ i, (setL f (t.take i)).1.length <= 1048577 := fun i => by
  have h1 := b7K f (t.take i)
  have h2 := Bool.toNat_le (setL f (t.take i)).2
  have h3 : (t.take i).length <= t.length := by simp; omega
  omega
 have a8 : (setL f t).2 = true -> setS t f = (setL f t).1 := fun h => by simp [setS, h]
 have a9 : (setL f t).2 = false -> setS t f = (setL f t).1 ++ [f] := fun h => by simp [setS, h]
 simp -implicitDefEqProofs [b2r, Con.fn, tTab]
 try dsimp only
 have b1 : ∀ (X : List FileD) (g : FileD), a0a X ++ [[D.str f.path, D.sl 9 1 (a0b f.text)], [D.str g.path, D.sl 9 1 (a0b g.text)]] = a0a (X ++ [f] ++ [g]) := fun X g => by simp [a0a, a0k]
 refine ⟨⟨0, by simp [a0]⟩, ?_⟩
 try simp +contextual [eStr, a0k, a0z, a0D, a0A, List.getElem?_eq_getElem, a0B, a0l, a0y, a0s, <- a0i, <- a0h, a0m, a0q, a0o, a0n, a0r, a0j, and_assoc, b1, <- FileD.eq_iff]
 repeat' (first | intro _ | apply And.intro)
 all_goals first | omega | grind [a0G, a9X, List.take_of_length_le]
def b0L (b : UInt8) : List D := [.int .u8 b.toNat]
def a5Y (s : Str) : List (List D) := s.map b0L
@[simp] theorem eBytes_length (l : Str) : (a5Y l).length = l.length := by simp -implicitDefEqProofs [a5Y]
@[simp] theorem eBytes_get (l : Str) (i : Nat) : (a5Y l)[i]? = l[i]?.map b0L := by simp -implicitDefEqProofs [a5Y]
@[simp] theorem eByte_inj (a b : UInt8) : (b0L a = b0L b) = (a = b) := by
 simp only [b0L, List.cons.injEq, D.int.injEq, true_and, and_true, eq_iff_iff]
 constructor
 ·intro h; exact UInt8.toNat_inj.1 (by omega)
 ·rintro rfl; rfl
@[simp] theorem eBytes_inj (a b : Str) : (a5Y a = a5Y b) = (a = b) := by
 apply propext
 constructor
 ·intro h
  exact List.map_inj_right (fun x y h => by simpa using h) |>.1 h
 ·rintro rfl; rfl
@[simp] theorem eBytes_all (l : Str) (f : List D -> Bool) : (a5Y l).all f = l.all fun b => f (b0L b) := by simp -implicitDefEqProofs [a5Y, Function.comp_def]

def a2Z (t : List FileD) (f : FileD) : List FileD × Bool := if a0S t then (if a0S (setS t f) then (setS t f, true) else (t, false)) else ([], false)
def a9R : Con := .fn 20 (List FileD × FileD) (fun a => [.sl true 2 (a0a a.1), .agg [.str a.2.path, .sl true 1 (a0b a.2.text)]]) (fun a => (a.1.length <= 1048575 /\ ∀ f ∈ a.1, f.text.length <= 1048576) /\ a.2.text.length <= 1048576) (fun a => .tup [.sl false 2 (a0a (a2Z a.1 a.2).1), .bool (a2Z a.1 a.2).2]) (fun _ => [])
theorem b7V : Has Tryz.prog 85 a9R := by
 refine a0d mixed a0f (HasL.cons a7d (HasL.cons a4t (HasL.cons b4H HasL.nil))) [0, 1, 3, 4, 5, 6] ((fun a n (_ : Nat) => (fun _ => a0F) a n)) [] Tryz.func85 (by unfold Tryz.f85; rfl) (fun _ => ⟨(), trivial⟩) ?_
 intro a ha
 obtain ⟨t, f⟩ := a
 obtain ⟨⟨q1, q2⟩, q3⟩ : (t.length <= 1048575 /\ ∀ f ∈ t, f.text.length <= 1048576) /\ f.text.length <= 1048576 := ha
 simp -implicitDefEqProofs [a9R, Con.fn, tTab, a8z, a4R, b2r, a2Z]
 try dsimp only
 try simp +contextual -implicitDefEqProofs [eStr, a0k, a0z, a0D, a0A, List.getElem?_eq_getElem, a0B, a0l, a0y, a0s, <- a0i, <- a0h, a0m, a0q, a0o, a0n, a0r, a0j, and_assoc]
 repeat' (first | intro _ | apply And.intro)
 all_goals first | omega | grind [a0G, a2Z]
theorem b6T (t : List FileD) (k j : Int) : kE (a1c t k) j = kE t j := by
 have : a2p (a1c t k) = a2p t := by
  unfold a2p a1c
  rw [List.map_map]
  have : ((fun f : FileD => f.text.length) ∘ fun i : Nat => (⟨a1p (kE (t.take i) k), a1G (t.getD i default).text.length (kE (t.take i) k + 1)⟩ : FileD)) = fun i => (t.getD i default).text.length := by
   funext i; simp [a6b]
  rw [this]
  congr 1
  apply List.ext_getElem (by simp)
  intro i h1 h2
  simp at h1
  simp [h1]
 unfold kE
 rw [this, a1M]
theorem b8N (t : List FileD) (k : Int) (i : Nat) (h : i <= t.length) : a1c (t.take i) k = (a1c t k).take i := by
 unfold a1c
 rw [<- List.map_take, List.take_range, List.length_take, Nat.min_comm]
 rw [Nat.min_comm]
 apply List.map_congr_left
 intro j hj
 have hj : j < i := by simp at hj; omega
 rw [List.take_take, Nat.min_eq_left (by omega)]
 simp [List.getElem?_take, hj]
theorem b8M (t : List FileD) (k : Int) : a1c (a1c t k) k = a1c t k := by
 show (List.range (a1c t k).length).map _ = (List.range t.length).map _
 rw [a1M]
 apply List.map_congr_left
 intro i hi
 have hi : i < t.length := by simpa using hi
 rw [<- b8N t k i (by omega), b6T]
 have : ((a1c t k).getD i default).text.length = (t.getD i default).text.length := by simp [a1c, hi, a6b]
 rw [this]
def a5Z (t : List FileD) (k : Int) : Int := if t = a1c t k then kE t k else -1
def a8x : Con := .fn 32 (List FileD × Int) (fun a => [.sl true 2 (a0a a.1), .int .i64 a.2]) (fun a => 0 <= a.2 /\ kE a.1 a.2 <= 1152921504606846976) (fun a => .int .i64 (a5Z a.1 a.2)) (fun _ => [])
theorem b4C {t : List FileD} {k : Int} {i : Nat} (h : i < t.length) : (a1c t k)[i]'(by rw [a1M]; exact h) = ⟨a1p (kE (t.take i) k), a1G t[i].text.length (kE (t.take i) k + 1)⟩ := by simp [a1c, h]
theorem c0P {t : List FileD} {k : Int} {i : Nat} (h : i < t.length) (h2 : t[i].path ≠ a1p (kE (t.take i) k) \/ t[i].text ≠ a1G t[i].text.length (kE (t.take i) k + 1)) : a5Z t k = -1 := by
 unfold a5Z
 rw [if_neg]
 intro h3
 have : t[i]? = (a1c t k)[i]? := by rw [<- h3]
 rw [List.getElem?_eq_getElem h, List.getElem?_eq_getElem (by rw [a1M]; exact h), b4C h] at this
 have := Option.some.inj this
 rcases h2 with h2 | h2
 ·exact h2 (congrArg FileD.path this)
 ·exact h2 (congrArg FileD.text this)
theorem c0Q {t : List FileD} {k : Int} {i : Nat} (h : i < t.length) (h1 : t.take i = (a1c t k).take i) (h2 : t[i].path = a1p (kE (t.take i) k)) (h3 : t[i].text = a1G t[i].text.length (kE (t.take i) k + 1)) : t.take (i + 1) = (a1c t k).take (i + 1) := by
 rw [a0p h, a0p (by rw [a1M]; exact h), b4C h, <- h1, <- h2, <- h3]
theorem c3z {t : List FileD} {k : Int} {i : Nat} (h : t.length <= i) (h1 : t.take i = (a1c t k).take i) : a5Z t k = kE (t.take i) k := by
 rw [List.take_of_length_le h, List.take_of_length_le (by rw [a1M]; exact h)] at h1
 unfold a5Z
 rw [if_pos h1, List.take_of_length_le h]
theorem b5g : Has Tryz.prog 98 a8x := by
 refine a0d mixed a0f (HasL.cons a2e (HasL.cons b2B HasL.nil)) [0, 1, 4, 5] ((fun a n (_ : Nat) => (fun a _ => ⟨Nat, fun i => ⟨[(0, true, .sl true 2 (a0a a.1)), (1, true, .int .i64 (kE (a.1.take i) a.2)), (4, true, .int .i64 0), (5, true, .int .i64 i)], []⟩, fun i => i <= a.1.length /\ a.1.take i = (a1c a.1 a.2).take i, fun i => a.1.length - i⟩) a n)) [] Tryz.func98 (by unfold Tryz.f98; rfl) (fun _ => ⟨(), trivial⟩) ?_
 intro a ha
 obtain ⟨t, k⟩ := a
 obtain ⟨q1, q2⟩ : 0 <= k /\ kE t k <= 1152921504606846976 := ha
 have e1 := fun i => @c0P t k i
 have e2 := fun i => @c0Q t k i
 have e3 := fun i => @c3z t k i
 have e6 := fun i => @b9y t k i
 have e7 := fun i => @c1g t k i
 have e8 := b9z k
 simp -implicitDefEqProofs [a8x, Con.fn, tTab, a2B, a6P, e8]
 try dsimp only
 refine ⟨⟨0, by simp [e8]⟩, fun i hi hpre _ => ⟨fun hlt => ?_, fun hge => e3 i hge hpre⟩⟩
 have g := e6 i hlt
 have g1 := e7 i
 have g2 := e7 (i + 1)
 simp [hlt, a0k, D.asStr, D.asRows, and_assoc]
 have hl : ∀ l kk, a7r l kk = if l = a1G l.length kk then kk + l.length else -1 := fun _ _ => rfl
 have m1 := e1 i hlt
 have m2 := e2 i hlt hpre
 by_cases ht : t[i].text = a1G t[i].text.length (kE (t.take i) k + 1)
 ·have hh : a7r t[i].text (kE (t.take i) k + 1) = kE (t.take (i + 1)) k := by rw [hl, if_pos ht, g]
  rw [hh]
  exact ⟨by omega, fun hn => m1 (.inl hn), fun hp => ⟨by omega, by omega, fun _ _ => ⟨by omega, by omega, fun hn => by omega, fun _ => ⟨by omega, by omega, fun _ _ => ⟨i + 1, rfl, by omega, by omega, m2 hp ht, by omega⟩⟩⟩⟩⟩
 ·have hh : a7r t[i].text (kE (t.take i) k + 1) = -1 := by rw [hl, if_neg ht]
  rw [hh]
  exact ⟨by omega, fun hn => m1 (.inl hn), fun hp => ⟨by omega, by omega, fun _ _ => ⟨by omega, by omega, fun _ => m1 (.inr ht), fun hn => by omega⟩⟩⟩
theorem d1D {t : List FileD} {A B : Nat} (h1 : t.length <= A) (h2 : ∀ f ∈ t, f.text.length <= B) (k : Int) : k <= kE t k /\ kE t k <= k + A + B * A := by
 have h3 := c4H t h2
 have h4 : B * t.length <= B * A := Nat.mul_le_mul_left _ h1
 unfold kE
 refine ⟨by omega, ?_⟩
 have : (a2p t : Int) <= ((B * A : Nat) : Int) := by omega
 rw [Int.natCast_mul] at this
 omega
def a7N : Con := .fn 11 (RepoD × Int) (fun a => [a1g a.1, .int .i64 a.2]) (fun a => a.1.commits.length <= 1073741824) (fun a => .bool (decide (0 <= a.2) && decide (a.2 <= (a.1.commits.length : Int) - 1))) (fun _ => [])
theorem a8S : Has Tryz.prog 119 a7N := by
 refine a0d mixed a0f (HasL.cons a6D HasL.nil) [0, 1, 2, 4] ((fun a n (_ : Nat) => (fun _ => a0F) a n)) [] Tryz.func119 (by unfold Tryz.f119; rfl) (fun _ => ⟨(), trivial⟩) ?_
 intro a ha
 obtain ⟨r, n⟩ := a
 replace ha : r.commits.length <= 1073741824 := ha
 simp -implicitDefEqProofs [a7N, Con.fn, tTab, a6H]
 try dsimp only
 try simp +contextual -implicitDefEqProofs [eStr, a0k, a0z, a0D, a0A, List.getElem?_eq_getElem, a0B, a0l, a0y, a0s, <- a0i, <- a0h, a0m, a0q, a0o, a0n, a0r, a0j, and_assoc]
 repeat' (first | intro _ | apply And.intro)
 all_goals first | omega | grind [a0G]
def inN (n : Nat) (a : Int) : Bool := decide (0 <= a) && decide (a <= (n : Int) - 1)
def okHd (n : Nat) (h : List HeadD) (i : Nat) : Bool := a0Z (h.getD i default).name && inN n (h.getD i default).at_ && (decide (i = 0) || Go.Op.bytesLess (h.getD (i - 1) default).name (h.getD i default).name)
def a1T (n : Nat) (h : List HeadD) : Bool := decide (h.length <= 5) && (List.range h.length).all (okHd n h)
theorem a2v (n : Nat) (h : List HeadD) : a1T n h = true ↔ h.length <= 5 /\ ∀ i, i < h.length -> okHd n h i = true := by simp -implicitDefEqProofs [a1T]
theorem b4A {n : Nat} {h : List HeadD} {i : Nat} (hi : i < h.length) (hb : okHd n h i = false) : a1T n h = false := by
 cases hq : a1T n h with
 | false => rfl
 | true => have := ((a2v n h).1 hq).2 i hi; simp -implicitDefEqProofs [hb] at this
def b1u : Con := .fn 44 (RepoD × List HeadD) (fun a => [a1g a.1, .sl true 2 (a0c a.2)]) (fun a => a.1.commits.length <= 1073741824) (fun a => .bool (a1T a.1.commits.length a.2)) (fun _ => [])
theorem b8q : Has Tryz.prog 67 b1u := by
 refine a0d mixed a0f (HasL.cons a4y (HasL.cons a8S HasL.nil)) [0, 1, 2, 4, 5, 6, 10, 11, 12] ((fun a n (_ : Nat) => (fun a _ => ⟨Nat, fun i => ⟨[(1, true, .sl true 2 (a0c a.2)), (2, true, .ptr 10 0), (4, true, .bool false), (10, true, .sl true 2 (a0c a.2)), (11, true, .int .i64 a.2.length), (12, true, .int .i64 i)], [(10, .box 27 [.sl true 3 (a0e a.1.commits), .sl true 2 (a0c a.1.heads)])]⟩, fun i => i <= a.2.length /\ a.2.length <= 5 /\ ∀ j, j < i -> okHd a.1.commits.length a.2 j = true, fun i => a.2.length - i⟩) a n)) [] Tryz.func67 (by unfold Tryz.f67; rfl) (fun _ => ⟨(), trivial⟩) ?_
 intro a ha
 obtain ⟨r, t⟩ := a
 replace ha : r.commits.length <= 1073741824 := ha
 have hB : 5 < t.length -> a1T r.commits.length t = false := fun h => by
  cases hq : a1T r.commits.length t with
  | false => rfl
  | true => have := ((a2v _ _).1 hq).1; omega
 have hN := fun i => @b4A r.commits.length t i
 have hE := (a2v r.commits.length t).2
 have hg : ∀ i (h : i < t.length), t.getD i default = t[i] := fun i h => by simp -implicitDefEqProofs [List.getD_eq_getElem?_getD, h]
 have hgg : ∀ i (h : i < t.length), t[i]?.getD default = t[i] := fun i h => by simp -implicitDefEqProofs [h]
 have e1 : ∀ k (h : k < t.length), Option.map a1d t[k]? = some (a1d t[k]) := fun k h => by simp -implicitDefEqProofs [List.getElem?_eq_getElem h]
 simp -implicitDefEqProofs [b1u, Con.fn, tTab, a4T, a7N]
 try dsimp only
 refine fun _ => ⟨fun h => hB (by omega), fun h5 _ => ⟨by omega, fun i hi _ hprev => ⟨fun hlt => ?_, fun hge => hE ⟨by omega, fun j hj => hprev j (by omega)⟩⟩⟩⟩
 have e3 := e1 i hlt
 have e4 := e1 (i - 1) (by omega)
 have hh : okHd r.commits.length t i = (a0Z t[i].name && inN r.commits.length t[i].at_ && (decide (i = 0) || Go.Op.bytesLess (t[i - 1]'(by omega)).name t[i].name)) := by
  unfold okHd
  rw [hg i hlt, hg (i - 1) (by omega)]
 have hn := hN i hlt
 rw [hh] at hn
 unfold inN at hn hh
 simp -implicitDefEqProofs [hlt, e3, e4, a1d, D.asStr, D.asInt, a0D, and_assoc]
 try simp +contextual -implicitDefEqProofs [eStr, a0k, a0z, a0D, a0A, List.getElem?_eq_getElem, a0B, a0l, a0y, a0s, <- a0i, <- a0h, a0m, a0q, a0o, a0n, a0r, a0j, and_assoc, hlt]
 clear e1 hg hgg hN hE hB
 repeat' (first | intro _ | apply And.intro)
 all_goals first | omega | grind -ring
def okI1 (cs : List CommitD) (i : Nat) : Bool :=
 decide ((cs.getD i default).parents.length <= 2) && !(decide ((cs.getD i default).parents.length = 2) && decide ((cs.getD i default).parents.getD 0 0 = (cs.getD i default).parents.getD 1 0)) && a0Z (cs.getD i default).who && a0x (cs.getD i default).tree
def okCI (cs : List CommitD) (i : Nat) : Bool := okI1 cs i && (List.range (cs.getD i default).parents.length).all fun k => inN i ((cs.getD i default).parents.getD k 0)
def a0E (r : RepoD) : Bool := decide (r.commits.length <= 16) && (List.range r.commits.length).all (okCI r.commits) && a1T r.commits.length r.heads
def a4B (r : RepoD) : Prop := r.commits.length <= 1073741824 /\ ∀ c ∈ r.commits, ∀ f ∈ c.tree, f.path.length <= 536870912
def a2H (r : RepoD) : Blk := .box 27 [.sl true 3 (a0e r.commits), .sl true 2 (a0c r.heads)]
theorem a0J (r : RepoD) : a2H r = .box 27 [.sl true 3 (a0e r.commits), .sl true 2 (a0c r.heads)] := rfl
def riO (r : RepoD) : Inv := ⟨Nat, fun i => ⟨[(1, true, .ptr 10 0), (2, true, .bool false), (12, true, .sl true 3 (a0e r.commits)), (13, true, .int .i64 r.commits.length), (14, true, .int .i64 i)], [(10, a2H r)]⟩, fun i => i <= r.commits.length /\ r.commits.length <= 16 /\ ∀ j, j < i -> okCI r.commits j = true, fun i => r.commits.length - i⟩
def riI (r : RepoD) (g : Nat) : Inv := ⟨Nat, fun k => ⟨[(1, true, .ptr 10 0), (2, true, .bool false), (3, true, .int .i64 g), (12, true, .sl true 3 (a0e r.commits)), (13, true, .int .i64 r.commits.length), (14, true, .int .i64 g), (53, true, .sl true 1 (a0g (r.commits.getD g default).parents)), (54, true, .int .i64 (r.commits.getD g default).parents.length), (55, true, .int .i64 k)], [(10, a2H r)]⟩,
 fun k => g < r.commits.length /\ k <= (r.commits.getD g default).parents.length /\ r.commits.length <= 16 /\ (∀ j, j < g -> okCI r.commits j = true) /\ okI1 r.commits g = true /\ ∀ j, j < k -> inN g ((r.commits.getD g default).parents.getD j 0) = true, fun k => (r.commits.getD g default).parents.length - k⟩
def c1Z (r : RepoD) (n g : Nat) : Inv := if n = 4 then riO r else riI r g
theorem d0b (r : RepoD) (g : Nat) : c1Z r 4 g = riO r := rfl
theorem d0c (r : RepoD) (g : Nat) : c1Z r 9 g = riI r g := rfl
theorem a4X (r : RepoD) : a0E r = true ↔ r.commits.length <= 16 /\ (∀ i, i < r.commits.length -> okCI r.commits i = true) /\ a1T r.commits.length r.heads = true := by simp -implicitDefEqProofs [a0E, and_assoc]
theorem c7S {r : RepoD} {i : Nat} (hi : i < r.commits.length) (hb : okCI r.commits i = false) : a0E r = false := by
 cases hq : a0E r with
 | false => rfl
 | true => have := ((a4X r).1 hq).2.1 i hi; simp -implicitDefEqProofs [hb] at this
theorem c5d {r : RepoD} (h : 16 < r.commits.length) : a0E r = false := by
 cases hq : a0E r with
 | false => rfl
 | true => have := ((a4X r).1 hq).1; omega
theorem c7n {cs : List CommitD} {i : Nat} (h : okI1 cs i = false) : okCI cs i = false := by unfold okCI; rw [h]; rfl
theorem c7o {cs : List CommitD} {i k : Nat} (hk : k < (cs.getD i default).parents.length) (h : inN i ((cs.getD i default).parents.getD k 0) = false) : okCI cs i = false := by
 unfold okCI
 have : (List.range (cs.getD i default).parents.length).all (fun k => inN i ((cs.getD i default).parents.getD k 0)) = false := by
  rw [List.all_eq_false]
  exact ⟨k, List.mem_range.2 hk, by simpa using h⟩
 rw [this, Bool.and_false]
theorem c7p {cs : List CommitD} {i : Nat} (h : okI1 cs i = true) (h2 : ∀ k, k < (cs.getD i default).parents.length -> inN i ((cs.getD i default).parents.getD k 0) = true) : okCI cs i = true := by
 unfold okCI
 rw [h, Bool.true_and, List.all_eq_true]
 intro k hk
 exact h2 k (by simpa using hk)
def a5F : Con := .fn 70 RepoD (fun r => [a1g r]) a4B (fun r => .bool (a0E r)) (fun _ => [])
theorem a5w : Has Tryz.prog 30 a5F := by
 refine a0d mixed a0f (HasL.cons a4y (HasL.cons a3M (HasL.cons a6D (HasL.cons b8q HasL.nil)))) [0, 1, 2, 3, 4, 6, 12, 13, 14, 53, 54, 55] (fun r => c1Z r) [] Tryz.func30 (by unfold Tryz.f30; rfl) (fun _ => ⟨(), trivial⟩) ?_
 intro (r : RepoD) hr
 obtain ⟨hr1, hr2⟩ : r.commits.length <= 1073741824 /\ ∀ c ∈ r.commits, ∀ f ∈ c.tree, f.path.length <= 536870912 := hr
 have hp : ∀ i (h : i < r.commits.length), ∀ f ∈ r.commits[i].tree, f.path.length <= 536870912 := fun i h => hr2 _ (List.getElem_mem h)
 have hB := @c5d r
 have hN := fun i => @c7S r i
 have hN1 := fun i => @c7n r.commits i
 have hN2 := fun i k => @c7o r.commits i k
 have hY := fun i => @c7p r.commits i
 simp -implicitDefEqProofs [a5F, Con.fn, tTab, a4T, a4r, a6H, b1u, d0b, d0c, riO, riI, a0J]
 try dsimp only
 refine fun _ => ⟨fun h => hB (by omega), fun h16 _ => ⟨by omega, fun i hi _ hprev => ⟨fun hlt => ?_, fun hge => ?_⟩⟩⟩
 ·have e3 : Option.map a0K r.commits[i]? = some (a0K r.commits[i]) := by simp -implicitDefEqProofs [List.getElem?_eq_getElem hlt]
  have hgc : r.commits.getD i default = r.commits[i] := by simp -implicitDefEqProofs [List.getD_eq_getElem?_getD, hlt]
  have hpc := hp i hlt
  have n0 := hN i hlt
  have n1 := hN1 i
  have n2 := hN2 i
  have n3 := hY i
  have o1 : okI1 r.commits i = (decide (r.commits[i].parents.length <= 2) && !(decide (r.commits[i].parents.length = 2) && decide (r.commits[i].parents.getD 0 0 = r.commits[i].parents.getD 1 0)) && a0Z r.commits[i].who && a0x r.commits[i].tree) := by
   unfold okI1; rw [hgc]
  rw [hgc] at n2 n3
  simp -implicitDefEqProofs [hlt, e3, a0K, D.asStr, D.asRows, a0D, and_assoc]
  try simp only [show r.commits[i]?.getD default = r.commits[i] by simp -implicitDefEqProofs [hlt]]
  generalize r.commits[i] = c at hpc n2 n3 o1 ⊢
  have hq : ∀ k (h : k < c.parents.length), inN i (c.parents[k]?.getD 0) = (decide (0 <= c.parents[k]) && decide (c.parents[k] <= (i : Int) - 1)) := fun k h => by simp -implicitDefEqProofs [inN, h]
  have n4 : ∀ k (h : k < c.parents.length), (decide (0 <= c.parents[k]) && decide (c.parents[k] <= (i : Int) - 1)) = false -> a0E r = false := fun k h hb => n0 (n2 k h (by rw [List.getD_eq_getElem?_getD, hq k h]; exact hb))
  have n5 : okI1 r.commits i = false -> a0E r = false := fun h => n0 (n1 h)
  have n6 : okI1 r.commits i = true -> (∀ j, j < c.parents.length -> inN i (c.parents[j]?.getD 0) = true) -> ∀ j, j < i + 1 -> okCI r.commits j = true := fun h1 h2 j hj => by
   rcases Nat.lt_or_ge j i with h3 | h3
   ·exact hprev j h3
   ·have : j = i := by omega
    subst this
    exact n3 h1 (fun k hk => by rw [List.getD_eq_getElem?_getD]; exact h2 k hk)
  clear n3 n2 n1 n0 hN hN1 hN2 hY hp hr2 hB hgc e3
  have o2 : ∀ (h : c.parents.length = 2), okI1 r.commits i = (!(decide (c.parents[0] = c.parents[1])) && a0Z c.who && a0x c.tree) := fun h => by
   rw [o1]; simp -implicitDefEqProofs [h]
  have o3 : c.parents.length <= 2 -> ¬ c.parents.length = 2 -> okI1 r.commits i = (a0Z c.who && a0x c.tree) := fun h h' => by
   rw [o1]; simp -implicitDefEqProofs [h, h']
  have o4 : 2 < c.parents.length -> okI1 r.commits i = false := fun h => by
   rw [o1]; simp -implicitDefEqProofs [show ¬ c.parents.length <= 2 by omega]
  clear o1
  refine ⟨fun h => n5 (o4 (by omega)), fun hl2 => ⟨fun h2 => ?_, fun h2 => ?_⟩⟩
  ·have q0 : Option.map eInt c.parents[0]? = some (eInt c.parents[0]) := by simp -implicitDefEqProofs [List.getElem?_eq_getElem (show 0 < c.parents.length by omega)]
   have q1 : Option.map eInt c.parents[1]? = some (eInt c.parents[1]) := by simp -implicitDefEqProofs [List.getElem?_eq_getElem (show 1 < c.parents.length by omega)]
   have o5 := o2 (by omega)
   simp -implicitDefEqProofs [q0, q1, eInt]
   refine ⟨by omega, fun _ => ⟨by omega, fun _ => ⟨fun he => n5 (by rw [o5]; simp -implicitDefEqProofs [he]), fun he => ⟨fun hn => n5 (by rw [o5]; simp -implicitDefEqProofs [hn]), fun hn => ⟨hpc, fun ht => n5 (by rw [o5]; simp -implicitDefEqProofs [ht]), fun ht _ => ⟨by omega, hprev, by rw [o5]; simp -implicitDefEqProofs [he, hn, ht], fun t ht1 _ _ hok hinv => ?_⟩⟩⟩⟩⟩⟩
   clear o2 o3 o4 o5 n5
   refine ⟨fun hlt2 => ?_, fun hge2 => ?_⟩
   ·have qt : Option.map eInt c.parents[t]? = some (eInt c.parents[t]) := by simp -implicitDefEqProofs [List.getElem?_eq_getElem hlt2]
    have n7 := n4 t hlt2
    have q7 := hq t hlt2
    simp -implicitDefEqProofs [qt, eInt, hlt2]
    have n8 : 0 <= c.parents[t] -> c.parents[t] <= (i : Int) - 1 -> ∀ j, j < t + 1 -> inN i (c.parents[j]?.getD 0) = true := fun g1 g2 j hj => by
     rcases Nat.lt_or_ge j t with h3 | h3
     ·exact hinv j h3
     ·have : j = t := by omega
      subst this
      rw [q7]
      simp -implicitDefEqProofs [g1, g2]
    refine ⟨by omega, by omega, fun _ _ => ⟨fun h => n7 (by simp; omega), fun g1 g2 => ⟨by omega, by omega, fun _ _ => ⟨t + 1, rfl, by omega, by omega, hprev, hok, n8 g1 g2, by omega⟩⟩⟩⟩
   ·have n7 := n6 hok (fun j hj => hinv j (by omega))
    exact ⟨by omega, by omega, fun _ _ => ⟨i + 1, rfl, by omega, by omega, n7, by omega⟩⟩
  ·have o5 := o3 (by omega) (by omega)
   refine ⟨fun hn => n5 (by rw [o5]; simp -implicitDefEqProofs [hn]), fun hn => ⟨hpc, fun ht => n5 (by rw [o5]; simp -implicitDefEqProofs [ht]), fun ht _ => ⟨by omega, hprev, by rw [o5]; simp -implicitDefEqProofs [hn, ht], fun t ht1 _ _ hok hinv => ?_⟩⟩⟩
   clear o2 o3 o4 o5 n5
   refine ⟨fun hlt2 => ?_, fun hge2 => ?_⟩
   ·have qt : Option.map eInt c.parents[t]? = some (eInt c.parents[t]) := by simp -implicitDefEqProofs [List.getElem?_eq_getElem hlt2]
    have n7 := n4 t hlt2
    have q7 := hq t hlt2
    simp -implicitDefEqProofs [qt, eInt, hlt2]
    have n8 : 0 <= c.parents[t] -> c.parents[t] <= (i : Int) - 1 -> ∀ j, j < t + 1 -> inN i (c.parents[j]?.getD 0) = true := fun g1 g2 j hj => by
     rcases Nat.lt_or_ge j t with h3 | h3
     ·exact hinv j h3
     ·have : j = t := by omega
      subst this
      rw [q7]
      simp -implicitDefEqProofs [g1, g2]
    refine ⟨by omega, by omega, fun _ _ => ⟨fun h => n7 (by simp; omega), fun g1 g2 => ⟨by omega, by omega, fun _ _ => ⟨t + 1, rfl, by omega, by omega, hprev, hok, n8 g1 g2, by omega⟩⟩⟩⟩
   ·have n7 := n6 hok (fun j hj => hinv j (by omega))
    exact ⟨by omega, by omega, fun _ _ => ⟨i + 1, rfl, by omega, by omega, n7, by omega⟩⟩
 ·refine ⟨r, r.heads, ⟨⟨rfl, rfl⟩, rfl⟩, hr1, ?_⟩
  rw [Bool.eq_iff_iff, a4X]
  exact ⟨fun h => h.2.2, fun h => ⟨by omega, fun j hj => hprev j (by omega), h⟩⟩
def oneP (i : Nat) (ps : List Int) (k : Nat) : Bool := inN i (ps.getD k 0) && !(decide (0 < k) && decide (ps.getD k 0 = ps.getD 0 0))
def okS1 (c : CommitD) : Bool := decide (c.parents.length <= 2) && a0Z c.who && a0S c.tree
def okCS (cs : List CommitD) (i : Nat) : Bool := (List.range (cs.getD i default).parents.length).all (oneP i (cs.getD i default).parents) && okS1 (cs.getD i default)
def a0v (r : RepoD) : Bool := (List.range r.commits.length).all (okCS r.commits) && a1T r.commits.length r.heads && decide (r.commits.length <= 16)
theorem a0V (r : RepoD) : a0v r = true ↔ (∀ i, i < r.commits.length -> okCS r.commits i = true) /\ a1T r.commits.length r.heads = true /\ r.commits.length <= 16 := by simp -implicitDefEqProofs [a0v, and_assoc]
theorem c7T {r : RepoD} {i : Nat} (hi : i < r.commits.length) (hb : okCS r.commits i = false) : a0v r = false := by
 cases hq : a0v r with
 | false => rfl
 | true => have := ((a0V r).1 hq).1 i hi; simp -implicitDefEqProofs [hb] at this
theorem c5e {r : RepoD} (hb : a1T r.commits.length r.heads = false) : a0v r = false := by
 unfold a0v; rw [hb]; simp
theorem c7q {cs : List CommitD} {i : Nat} (h : okS1 (cs.getD i default) = false) : okCS cs i = false := by unfold okCS; rw [h, Bool.and_false]
theorem c7r {cs : List CommitD} {i k : Nat} (hk : k < (cs.getD i default).parents.length) (h : oneP i (cs.getD i default).parents k = false) : okCS cs i = false := by
 unfold okCS
 have : (List.range (cs.getD i default).parents.length).all (oneP i (cs.getD i default).parents) = false := by
  rw [List.all_eq_false]
  exact ⟨k, List.mem_range.2 hk, by simpa using h⟩
 rw [this, Bool.false_and]
theorem c7s {cs : List CommitD} {i : Nat} (h : okS1 (cs.getD i default) = true) (h2 : ∀ k, k < (cs.getD i default).parents.length -> oneP i (cs.getD i default).parents k = true) : okCS cs i = true := by
 unfold okCS
 rw [h, Bool.and_true, List.all_eq_true]
 intro k hk
 exact h2 k (by simpa using hk)
theorem a1h (r : RepoD) : a0E r = a0v r := by
 have h : ∀ i, okCI r.commits i = okCS r.commits i := by
  intro i
  unfold okCI okCS okI1 okS1
  generalize r.commits.getD i default = c
  rw [a2k]
  rw [Bool.eq_iff_iff]
  simp only [Bool.and_eq_true, List.all_eq_true, List.mem_range, decide_eq_true_eq, oneP, Bool.not_eq_true', Bool.and_eq_false_iff, decide_eq_false_iff_not]
  constructor
  ·rintro ⟨⟨⟨⟨h1, h2⟩, h3⟩, h4⟩, h5⟩
   refine ⟨fun k hk => ⟨h5 k hk, ?_⟩, ⟨h1, h3⟩, h4⟩
   by_cases h0 : k = 0
   ·exact .inl (by omega)
   ·right
    have : k = 1 := by omega
    subst this
    rcases h2 with h2 | h2
    ·omega
    ·exact fun e => h2 e.symm
  ·rintro ⟨h1, ⟨h2, h3⟩, h4⟩
   refine ⟨⟨⟨⟨h2, ?_⟩, h3⟩, h4⟩, fun k hk => (h1 k hk).1⟩
   by_cases h0 : c.parents.length = 2
   ·right
    rcases (h1 1 (by omega)).2 with h5 | h5
    ·omega
    ·exact fun e => h5 e.symm
   ·exact .inl h0
 rw [Bool.eq_iff_iff, a4X, a0V]
 simp only [h]
 exact ⟨fun ⟨a, b, c⟩ => ⟨b, c, a⟩, fun ⟨b, c, a⟩ => ⟨a, b, c⟩⟩
def b0H : Con := .fn 26 (List Str × List Str) (fun a => [.sl true 1 (a0b a.1), .sl true 1 (a0b a.2)]) (fun _ => True) (fun a => .bool (decide (a.1 = a.2))) (fun _ => [])
theorem b2O : Has Tryz.prog 265 b0H := by
 refine a0d mixed a0f HasL.nil [0, 1, 4, 5] ((fun a n (_ : Nat) => (fun a _ => ⟨Nat, fun i => ⟨[(0, true, .sl true 1 (a0b a.1)), (1, true, .sl true 1 (a0b a.2)), (4, true, .bool false), (5, true, .int .i64 i)], []⟩, fun i => i <= a.1.length /\ a.1.length = a.2.length /\ a.1.take i = a.2.take i, fun i => a.1.length - i⟩) a n)) [] Tryz.func265 (by unfold Tryz.f265; rfl) (fun _ => ⟨(), trivial⟩) ?_
 intro a _
 obtain ⟨l, r⟩ := a
 simp -implicitDefEqProofs [b0H, Con.fn, tTab]
 try dsimp only
 try simp +contextual -implicitDefEqProofs [eStr, a0k, a0z, a0D, a0A, List.getElem?_eq_getElem, a0B, a0l, a0y, a0s, <- a0i, <- a0h, a0m, a0q, a0o, a0n, a0r, a0j, and_assoc]
 repeat' (first | intro _ | apply And.intro)
 all_goals first | omega | grind [a0G, a4U, a4F]
def getL : List FileD -> Str -> List Str × Bool
 | [], _ => ([], false)
 | f :: l, p => if f.path = p then (f.text, true) else getL l p
def b6m : Con := .fn 25 (List FileD × Str) (fun a => [.sl true 2 (a0a a.1), .str a.2]) (fun _ => True) (fun a => .tup [.sl true 1 (a0b (getL a.1 a.2).1), .bool (getL a.1 a.2).2]) (fun _ => [])
theorem c4f : Has Tryz.prog 246 b6m := by
 refine a0d mixed a0f HasL.nil [0, 1, 4, 5, 6] ((fun a n (_ : Nat) => (fun a _ => ⟨Nat, fun i => ⟨[(0, true, .sl true 2 (a0a a.1)), (1, true, .str a.2), (4, true, .nil), (5, true, .bool false), (6, true, .int .i64 i)], []⟩, fun i => i <= a.1.length /\ getL (a.1.drop i) a.2 = getL a.1 a.2, fun i => a.1.length - i⟩) a n)) [] Tryz.func246 (by unfold Tryz.f246; rfl) (fun _ => ⟨(), trivial⟩) ?_
 intro a _
 obtain ⟨t, p⟩ := a
 have e1 : ∀ i (h : i < t.length), getL (t.drop i) p = if t[i].path = p then (t[i].text, true) else getL (t.drop (i + 1)) p := fun i h => by rw [List.drop_eq_getElem_cons h]; rfl
 have e2 : ∀ i, t.length <= i -> getL (t.drop i) p = ([], false) := fun i h => by rw [List.drop_eq_nil_of_le h]; rfl
 simp -implicitDefEqProofs [b6m, Con.fn, tTab]
 try dsimp only
 refine fun i hi hpre _ => ⟨fun hlt => ?_, fun hge => ?_⟩
 ·have g := e1 i hlt
  rw [hpre] at g
  simp -implicitDefEqProofs [hlt, a0k, D.asStr, D.asRows, and_assoc]
  refine ⟨fun h => ?_, fun h => ⟨by omega, by omega, fun _ _ => ⟨i + 1, by omega, by omega, ?_, by omega⟩⟩⟩
  ·rw [g, if_pos h]; exact ⟨rfl, rfl⟩
  ·rw [g, if_neg h]
 ·rw [<- hpre, e2 i hge]; exact ⟨rfl, rfl⟩
def atL : List HeadD -> Str -> Int
 | [], _ => -1
 | h :: l, n => if h.name = n then h.at_ else atL l n
def a5Q : Con := .fn 27 (RepoD × Str) (fun a => [a1g a.1, .str a.2]) (fun _ => True) (fun a => .int .i64 (atL a.1.heads a.2)) (fun _ => [])
theorem a4i : Has Tryz.prog 84 a5Q := by
 refine a0d mixed a0f HasL.nil [0, 1, 2, 4, 5] ((fun a n (_ : Nat) => (fun a _ => ⟨Nat, fun i => ⟨[(1, true, .str a.2), (2, true, .ptr 10 0), (4, true, .int .i64 0), (5, true, .int .i64 i)], [(10, a2H a.1)]⟩, fun i => i <= a.1.heads.length /\ atL (a.1.heads.drop i) a.2 = atL a.1.heads a.2, fun i => a.1.heads.length - i⟩) a n)) [] Tryz.func84 (by unfold Tryz.f84; rfl) (fun _ => ⟨(), trivial⟩) ?_
 intro a _
 obtain ⟨r, p⟩ := a
 have e1 : ∀ i (h : i < r.heads.length), atL (r.heads.drop i) p = if r.heads[i].name = p then r.heads[i].at_ else atL (r.heads.drop (i + 1)) p := fun i h => by rw [List.drop_eq_getElem_cons h]; rfl
 have e2 : ∀ i, r.heads.length <= i -> atL (r.heads.drop i) p = -1 := fun i h => by rw [List.drop_eq_nil_of_le h]; rfl
 simp -implicitDefEqProofs [a5Q, Con.fn, tTab, a0J]
 try dsimp only
 refine fun i hi hpre _ => ⟨fun hlt => ?_, fun hge => by rw [<- hpre, e2 i hge]⟩
 have g := e1 i hlt
 rw [hpre] at g
 simp -implicitDefEqProofs [hlt, a1d, D.asStr, D.asInt, and_assoc]
 refine ⟨fun h => ?_, fun h => ⟨by omega, by omega, fun _ _ => ⟨i + 1, by omega, by omega, ?_, by omega⟩⟩⟩
 ·rw [g, if_pos h]
 ·rw [g, if_neg h]
def a1j (p : Str) (f : FileD) : Bool := decide (f.path ≠ p) && !inB p f.path
def b0I : Con := .fn 39 (List FileD × Str) (fun a => [.sl true 2 (a0a a.1), .str a.2]) (fun a => a.1.length <= 1048576) (fun a => .sl false 2 (a0a (filB (a1j a.2) a.1))) (fun _ => [])
theorem b2S : Has Tryz.prog 141 b0I := by
 refine a0d mixed a0f (HasL.cons b1Q HasL.nil) [0, 1, 4, 5, 6] ((fun a n (_ : Nat) => (fun a _ => ⟨Nat, fun i => ⟨[(0, true, .sl true 2 (a0a a.1)), (1, true, .str a.2), (4, true, .nil), (5, true, .own 9 2 (a0a (filB (a1j a.2) (a.1.take i)))), (6, true, .int .i64 i)], [(9, .own 99 2 false (a0a (filB (a1j a.2) (a.1.take i))))]⟩, fun i => i <= a.1.length, fun i => a.1.length - i⟩) a n)) [36] Tryz.func141 (by unfold Tryz.f141; rfl) (fun _ => ⟨(), trivial⟩) ?_
 intro a ha
 obtain ⟨t, p⟩ := a
 replace ha : t.length <= 1048576 := ha
 have e1 := fun i h => @b3T (a1j p) t i h
 have e2 := fun i h => @b1I (a1j p) t i h
 simp -implicitDefEqProofs [b0I, b2q, Con.fn, tTab]
 try dsimp only
 refine ⟨⟨0, by simp -implicitDefEqProofs [filB]⟩, fun i hi _ => ⟨fun hlt => ?_, fun hge => ?_⟩⟩
 ·have g1 := e1 i hlt
  have g2 := e2 i hlt
  have hl : (filB (a1j p) (t.take i)).length <= 1048576 := by have := List.length_filter_le (a1j p) (t.take i); unfold filB; simp at this ⊢; omega
  simp -implicitDefEqProofs [hlt, a0k, D.asStr, D.asRows, and_assoc]
  refine ⟨fun h => ⟨fun hi2 => ⟨by omega, by omega, by omega, by omega, fun _ _ => ⟨i + 1, ?_, by omega, ?_, by omega, by omega⟩⟩, fun hi2 => ⟨by omega, by omega, fun _ _ => ⟨i + 1, ?_, by omega, ?_, by omega, by omega⟩⟩⟩, fun h => ⟨by omega, by omega, fun _ _ => ⟨i + 1, ?_, by omega, ?_, by omega, by omega⟩⟩⟩
  ·rw [g1 (by simp -implicitDefEqProofs [a1j, h, hi2])]; simp -implicitDefEqProofs [a0a, a0k]
  ·rw [g1 (by simp -implicitDefEqProofs [a1j, h, hi2])]; simp -implicitDefEqProofs [a0a, a0k]
  ·rw [g2 (by simp -implicitDefEqProofs [a1j, h, hi2])]
  ·rw [g2 (by simp -implicitDefEqProofs [a1j, h, hi2])]
  ·rw [g2 (by simp -implicitDefEqProofs [a1j, h])]
  ·rw [g2 (by simp -implicitDefEqProofs [a1j, h])]
 ·rw [List.take_of_length_le hge]
def lcs : List Str -> List Str -> Int
 | [], _ => 0
 | _ :: _, [] => 0
 | x :: a, y :: b => if x = y then lcs a b + 1 else if lcs (x :: a) b <= lcs a (y :: b) then lcs a (y :: b) else lcs (x :: a) b
termination_by a b => a.length + b.length
def eRow (r : List Int) : List D := [.sl 3 1 (a0g r)]
def a1a (t : List (List Int)) : List (List D) := t.map eRow
@[simp] theorem eRows_length (l : List (List Int)) : (a1a l).length = l.length := by simp -implicitDefEqProofs [a1a]
@[simp] theorem eRows_nil : a1a [] = [] := rfl
@[simp] theorem eRows_get (l : List (List Int)) (i : Nat) : (a1a l)[i]? = l[i]?.map eRow := by simp -implicitDefEqProofs [a1a]
def tabF (a b : List Str) (p q : Nat) : List (List Int) := (List.range (a.length + 1)).map fun r => (List.range (b.length + 1)).map fun c => if p <= r \/ (r + 1 = p /\ q <= c) then lcs (a.drop r) (b.drop c) else 0
theorem b7F (i n : Nat) : a1a (List.replicate (i + 1) (List.replicate (n + 1) 0)) = a1a (List.replicate i (List.replicate (n + 1) 0)) ++ [[D.sl 3 1 (List.replicate (n + 1) [D.int .i64 0])]] := by
 rw [List.replicate_succ']
 simp -implicitDefEqProofs [a1a, eRow, a0g, eInt]
theorem b0X {a b : List Str} {p q : Nat} : (tabF a b p q).length = a.length + 1 := by simp -implicitDefEqProofs [tabF]
def tabR (a b : List Str) (p q r : Nat) : List Int := (List.range (b.length + 1)).map fun c => if p <= r \/ (r + 1 = p /\ q <= c) then lcs (a.drop r) (b.drop c) else 0
theorem a5b {a b : List Str} {p q r : Nat} (h : r <= a.length) : (tabF a b p q)[r]? = some (tabR a b p q r) := by
 simp -implicitDefEqProofs [tabF, tabR, List.getElem?_map, List.getElem?_range (show r < a.length + 1 by omega)]
theorem c4o (b : List Str) : lcs [] b = 0 := by rw [lcs]
theorem c4p (a : List Str) : lcs a [] = 0 := by cases a <;> rw [lcs]
theorem a7y {a b : List Str} {i : Nat} (h : a.length + 1 = i) : tabF a b a.length (b.length + 1) = List.replicate i (List.replicate (b.length + 1) 0) := by
 subst h
 apply List.ext_getElem
 ·simp -implicitDefEqProofs [tabF]
 ·intro r h1 h2
  apply List.ext_getElem
  ·simp -implicitDefEqProofs [tabF]
  ·intro c h3 h4
   simp only [tabF, List.getElem_map, List.getElem_range, List.getElem_replicate]
   split
   ·rename_i h5
    have h6 : a.drop r = [] := by
     rcases h5 with h5 | ⟨_, h5⟩
     ·exact List.drop_eq_nil_of_le h5
     ·simp -implicitDefEqProofs [tabF] at h3; omega
    rw [h6, c4o]
   ·rfl
theorem b0W {a b : List Str} {p : Nat} : tabF a b p b.length = tabF a b p (b.length + 1) := by
 unfold tabF
 apply List.map_congr_left
 intro r _
 apply List.map_congr_left
 intro c hc
 have hc : c < b.length + 1 := by simpa using hc
 by_cases h : p <= r
 ·rw [if_pos (.inl h), if_pos (.inl h)]
 ·by_cases h2 : r + 1 = p /\ b.length <= c
  ·rw [if_pos (.inr h2), if_neg (by omega), List.drop_eq_nil_of_le h2.2, c4p]
  ·rw [if_neg (by omega), if_neg (by omega)]
theorem a9l {a b : List Str} {p : Nat} (h : 0 < p) : tabF a b (p - 1) (b.length + 1) = tabF a b p 0 := by
 unfold tabF
 apply List.map_congr_left
 intro r _
 apply List.map_congr_left
 intro c hc
 have hc : c < b.length + 1 := by simpa using hc
 by_cases h2 : p <= r + 1
 ·rw [if_pos (.inl (by omega)), if_pos (by omega)]
 ·rw [if_neg (by omega), if_neg (by omega)]
theorem b7R {a b : List Str} {q : Nat} : tabF a b 0 q = tabF a b 0 0 := by
 unfold tabF
 apply List.map_congr_left
 intro r _
 apply List.map_congr_left
 intro c _
 rw [if_pos (.inl (Nat.zero_le _)), if_pos (.inl (Nat.zero_le _))]
theorem a4n {a b : List Str} {p q r : Nat} : (tabR a b p q r).length = b.length + 1 := by simp -implicitDefEqProofs [tabR]
theorem a3s {a b : List Str} {p q r c : Nat} (h : c <= b.length) : (tabR a b p q r)[c]? = some (if p <= r \/ (r + 1 = p /\ q <= c) then lcs (a.drop r) (b.drop c) else 0) := by
 simp -implicitDefEqProofs [tabR, List.getElem?_map, List.getElem?_range (show c < b.length + 1 by omega)]
theorem a7Y (a b : List Str) : 0 <= lcs a b /\ lcs a b <= a.length := by
 fun_induction lcs a b
 ·simp
 ·simp; omega
 ·simp_all; omega
 ·simp_all; omega
 ·simp_all
theorem b7c {a b : List Str} {p q : Nat} (hp : 0 < p) (hp2 : p <= a.length) (hq : 0 < q) (hq2 : q <= b.length) : lcs (a.drop (p - 1)) (b.drop (q - 1)) = if a[p - 1] = b[q - 1] then lcs (a.drop p) (b.drop q) + 1 else if lcs (a.drop (p - 1)) (b.drop q) <= lcs (a.drop p) (b.drop (q - 1)) then lcs (a.drop p) (b.drop (q - 1)) else lcs (a.drop (p - 1)) (b.drop q) := by
 have e1 : a.drop (p - 1) = a[p - 1] :: a.drop p := by rw [List.drop_eq_getElem_cons (show p - 1 < a.length by omega), show p - 1 + 1 = p by omega]
 have e2 : b.drop (q - 1) = b[q - 1] :: b.drop q := by rw [List.drop_eq_getElem_cons (show q - 1 < b.length by omega), show q - 1 + 1 = q by omega]
 rw [e1, e2, lcs]
theorem b9O {a b : List Str} {p q : Nat} (hp : 0 < p) (hp2 : p <= a.length) (hq : 0 < q) (hq2 : q <= b.length) : ∀ v, v = lcs (a.drop (p - 1)) (b.drop (q - 1)) -> (a1a (tabF a b p q)).set (p - 1) [D.sl 3 1 ((a0g (tabR a b p q (p - 1))).set (q - 1) [D.int .i64 v])] = a1a (tabF a b p (q - 1)) := by
 intro v hv
 have e : (tabF a b p q).set (p - 1) ((tabR a b p q (p - 1)).set (q - 1) v) = tabF a b p (q - 1) := by
  apply List.ext_getElem
  ·simp -implicitDefEqProofs [tabF]
  ·intro r h1 h2
   rw [List.getElem_set]
   split
   ·rename_i hr
    subst hr
    apply List.ext_getElem
    ·simp -implicitDefEqProofs [tabF, tabR]
    ·intro c h3 h4
     rw [List.getElem_set]
     split
     ·rename_i hc
      subst hc
      simp only [tabF, List.getElem_map, List.getElem_range]
      rw [if_pos (by omega), hv]
     ·rename_i hc
      simp only [tabF, tabR, List.getElem_map, List.getElem_range]
      by_cases h : p <= p - 1 \/ (p - 1 + 1 = p /\ q <= c)
      ·rw [if_pos h, if_pos (by omega)]
      ·rw [if_neg h, if_neg (by omega)]
   ·rename_i hr
    simp only [tabF, List.getElem_map, List.getElem_range]
    apply List.map_congr_left
    intro c _
    by_cases h : p <= r \/ (r + 1 = p /\ q <= c)
    ·rw [if_pos h, if_pos (by omega)]
    ·rw [if_neg h, if_neg (by omega)]
 rw [<- e]
 simp -implicitDefEqProofs [a1a, eRow, a0g, List.map_set, eInt]
def l1tA (a b : List Str) : Inv := ⟨Nat, fun i => ⟨[(0, true, .sl true 1 (a0b a)), (1, true, .sl true 1 (a0b b)), (4, true, .nil), (5, true, .own 9 1 (a1a (List.replicate i (List.replicate (b.length + 1) 0)))), (6, true, .int .i64 i)], [(9, .own 84 1 true (a1a (List.replicate i (List.replicate (b.length + 1) 0))))]⟩, fun i => i <= a.length + 1, fun i => a.length + 1 - i⟩
def l1tB (a b : List Str) : Inv := ⟨Nat, fun p => ⟨[(0, true, .sl true 1 (a0b a)), (1, true, .sl true 1 (a0b b)), (4, true, .nil), (5, true, .own 9 1 (a1a (tabF a b p (b.length + 1)))), (7, true, .int .i64 ((p : Int) - 1))], [(9, .own 84 1 true (a1a (tabF a b p (b.length + 1))))]⟩, fun p => p <= a.length, fun p => p⟩
def l1tC (a b : List Str) (g : Nat) : Inv := ⟨Nat, fun q => ⟨[(0, true, .sl true 1 (a0b a)), (1, true, .sl true 1 (a0b b)), (4, true, .nil), (5, true, .own 9 1 (a1a (tabF a b g q))), (7, true, .int .i64 ((g : Int) - 1)), (8, true, .int .i64 ((q : Int) - 1))], [(9, .own 84 1 true (a1a (tabF a b g q)))]⟩, fun q => q <= b.length /\ 0 < g /\ g <= a.length, fun q => q⟩
def b2P (a b : List Str) (n g : Nat) : Inv := if n = 3 then l1tA a b else if n = 7 then l1tB a b else l1tC a b g
theorem c6P (a b g) : b2P a b 3 g = l1tA a b := rfl
theorem c6Q (a b g) : b2P a b 7 g = l1tB a b := rfl
theorem c4d (a b g) : b2P a b 10 g = l1tC a b g := rfl
def b1y : Con := .fn 110 (List Str × List Str) (fun a => [.sl true 1 (a0b a.1), .sl true 1 (a0b a.2)]) (fun a => a.1.length <= 1048576 /\ a.2.length <= 1048576) (fun a => .own 8 1 (a1a (tabF a.1 a.2 0 0))) (fun a => [(8, .own 84 1 true (a1a (tabF a.1 a.2 0 0)))])
theorem b8H : Has Tryz.prog 277 b1y := by
 refine a0d mixed a0f HasL.nil [0, 1, 4, 5, 6, 7, 8] (fun a => b2P a.1 a.2) [] Tryz.func277 (by unfold Tryz.f277; rfl) (fun _ => ⟨(), trivial⟩) ?_
 intro a ha
 obtain ⟨a, b⟩ := a
 obtain ⟨h1, h2⟩ : a.length <= 1048576 /\ b.length <= 1048576 := ha
 simp (maxSteps := 4000000) [b1y, Con.fn, tTab, c6P, c6Q, c4d, l1tA, l1tB, l1tC]
 try dsimp only
 refine ⟨⟨0, by simp⟩, fun i hi _ => ⟨fun hlt _ => ⟨by omega, fun _ _ => ⟨by omega, fun _ _ _ => ⟨by omega, by omega, fun _ _ => ⟨i + 1, ⟨⟨?_, by omega⟩, ?_⟩, by omega, by omega⟩⟩⟩⟩, fun hge _ => ⟨by omega, fun _ _ => ⟨⟨a.length, ⟨⟨?_, rfl⟩, ?_⟩, Nat.le_refl _⟩, fun p hp => ⟨fun h1p _ => ⟨by omega, fun _ _ => ⟨p, ⟨b.length, ⟨⟨?_, rfl, rfl⟩, ?_⟩, Nat.le_refl _, by omega, hp⟩, fun q hq hg hga => ⟨fun hq1 => ?_, fun hq0 => ⟨by omega, fun _ _ => ⟨p - 1, ⟨⟨?_, by omega⟩, ?_⟩, by omega, by omega⟩⟩⟩⟩⟩, fun hp0 => ?_⟩⟩⟩⟩⟩
 ·rw [b7F]
 ·rw [b7F]
 ·rw [a7y (show a.length + 1 = i by omega)]
 ·rw [a7y (show a.length + 1 = i by omega)]
 ·rw [b0W]
 ·rw [b0W]
 ·obtain ⟨T, hT⟩ : ∃ T, T = tabF a b p q := ⟨_, rfl⟩
  have t1 := @b0X a b p q
  have t2 := a5b (a := a) (b := b) (p := p) (q := q) (r := p) (by omega)
  have t3 := a5b (a := a) (b := b) (p := p) (q := q) (r := p - 1) (by omega)
  have t4 : a[p - 1]? = some a[p - 1] := List.getElem?_eq_getElem (by omega)
  have t5 : b[q - 1]? = some b[q - 1] := List.getElem?_eq_getElem (by omega)
  have u1 := @a4n a b p q p
  have u2 := @a4n a b p q (p - 1)
  have u3 : (tabR a b p q p)[q]? = some (lcs (a.drop p) (b.drop q)) := by rw [a3s (by omega), if_pos (by omega)]
  have u4 : (tabR a b p q p)[q - 1]? = some (lcs (a.drop p) (b.drop (q - 1))) := by rw [a3s (by omega), if_pos (by omega)]
  have u5 : (tabR a b p q (p - 1))[q]? = some (lcs (a.drop (p - 1)) (b.drop q)) := by rw [a3s (by omega), if_pos (by omega)]
  have v1 := a7Y (a.drop p) (b.drop q)
  have v2 := a7Y (a.drop p) (b.drop (q - 1))
  have v3 := a7Y (a.drop (p - 1)) (b.drop q)
  have v4 : (a.drop p).length <= a.length := by simp
  have v5 : (a.drop (p - 1)).length <= a.length := by simp
  have w1 := b9O (a := a) (b := b) (p := p) (q := q) hg hga (by omega) hq
  have w2 := b7c (a := a) (b := b) (p := p) (q := q) hg hga (by omega) hq
  rw [<- hT] at t1 t2 t3 w1 ⊢
  clear hT
  generalize lcs (a.drop p) (b.drop q) = L11 at *
  generalize lcs (a.drop p) (b.drop (q - 1)) = L10 at *
  generalize lcs (a.drop (p - 1)) (b.drop q) = L01 at *
  generalize tabR a b p q p = rB at *
  generalize tabR a b p q (p - 1) = rA at *
  simp -implicitDefEqProofs [t1, t2, t3, t4, t5, u1, u2, u3, u4, u5, eInt, eStr, D.asStr, eRow, D.asRows, D.asInt, and_assoc]
  have fin : ∀ v, v = lcs (a.drop (p - 1)) (b.drop (q - 1)) -> ∃ t', a1a (tabF a b p t') = (a1a T).set (p - 1) [D.sl 3 1 ((a0g rA).set (q - 1) [D.int .i64 v])] /\ (t' : Int) = q - 1 /\ (a1a T).set (p - 1) [D.sl 3 1 ((a0g rA).set (q - 1) [D.int .i64 v])] = a1a (tabF a b p t') /\ t' <= b.length /\ 0 < p /\ p <= a.length /\ t' < q :=
   fun v hv => ⟨q - 1, (w1 v hv).symm, by omega, w1 v hv, by omega, hg, hga, by omega⟩
  repeat' (first | intro _ | apply And.intro)
  all_goals first | omega | exact fin _ (by rw [w2, if_pos (by assumption)]) | exact fin _ (by rw [w2, if_neg (by assumption), if_pos (by assumption)]) | exact fin _ (by rw [w2, if_neg (by assumption), if_neg (by omega)])
 ·rw [show q = 0 by omega, a9l (by omega)]
 ·rw [show q = 0 by omega, a9l (by omega)]
 ·rw [show p = 0 by omega, b7R]; exact ⟨rfl, rfl⟩
def mt : List Str -> List Str -> Nat -> List Int
 | [], _, _ => []
 | _ :: a, [], k => -1 :: mt a [] k
 | x :: a, y :: b, k => if x = y then (k : Int) :: mt a b (k + 1) else if lcs (x :: a) b <= lcs a (y :: b) then -1 :: mt a (y :: b) k else mt (x :: a) b (k + 1)
termination_by a b => a.length + b.length
theorem a7Z (a b : List Str) (k : Nat) : (mt a b k).length = a.length := by
 fun_induction mt a b k <;> simp_all
theorem c4E {a b : List Str} {i k : Nat} (h : i < a.length) (hk : b.length <= k) : mt (a.drop i) (b.drop k) k = -1 :: mt (a.drop (i + 1)) (b.drop k) k := by
 rw [List.drop_eq_getElem_cons h, List.drop_eq_nil_of_le hk, mt]
theorem b9C {a b : List Str} {i k : Nat} (h : i < a.length) (hk : k < b.length) : mt (a.drop i) (b.drop k) k = if a[i] = b[k] then (k : Int) :: mt (a.drop (i + 1)) (b.drop (k + 1)) (k + 1) else if lcs (a.drop i) (b.drop (k + 1)) <= lcs (a.drop (i + 1)) (b.drop k) then -1 :: mt (a.drop (i + 1)) (b.drop k) k else mt (a.drop i) (b.drop (k + 1)) (k + 1) := by
 have e1 : a.drop i = a[i] :: a.drop (i + 1) := List.drop_eq_getElem_cons h
 have e2 : b.drop k = b[k] :: b.drop (k + 1) := List.drop_eq_getElem_cons hk
 rw [e1, e2, mt]
theorem a4K (o : List Int) (v : Int) : a0g (o ++ [v]) = a0g o ++ [[D.int .i64 v]] := by simp -implicitDefEqProofs [a0g, eInt]
def l1m (a b : List Str) : Inv := ⟨Nat × Nat × List Int, fun t => ⟨[(0, true, .sl true 1 (a0b a)), (1, true, .sl true 1 (a0b b)), (4, true, .nil), (5, true, .own 9 1 (a1a (tabF a b 0 0))), (6, true, .own 10 1 (a0g t.2.2)), (7, true, .int .i64 t.2.1), (8, true, .int .i64 t.1)], [(9, .own 84 1 true (a1a (tabF a b 0 0))), (10, .own 3 1 true (a0g t.2.2))]⟩,
 fun t => t.1 <= a.length /\ t.2.1 <= b.length /\ t.2.2.length = t.1 /\ t.2.2 ++ mt (a.drop t.1) (b.drop t.2.1) t.2.1 = mt a b 0, fun t => (a.length - t.1) + (b.length - t.2.1)⟩
def b1x : Con := .fn 73 (List Str × List Str) (fun a => [.sl true 1 (a0b a.1), .sl true 1 (a0b a.2)]) (fun a => a.1.length <= 1048576 /\ a.2.length <= 1048576) (fun a => .own 8 1 (a0g (mt a.1 a.2 0))) (fun a => a5K 8 (mt a.1 a.2 0))
theorem b8G : Has Tryz.prog 266 b1x := by
 refine a0d mixed a0f (HasL.cons b8H HasL.nil) [0, 1, 4, 5, 6, 7, 8] ((fun a n (_ : Nat) => (fun a _ => l1m a.1 a.2) a n)) [] Tryz.func266 (by unfold Tryz.f266; rfl) (fun _ => ⟨(), trivial⟩) ?_
 intro a ha
 obtain ⟨a, b⟩ := a
 obtain ⟨h1, h2⟩ : a.length <= 1048576 /\ b.length <= 1048576 := ha
 simp (maxSteps := 4000000) [b1x, b1y, Con.fn, tTab, l1m]
 try dsimp only
 refine ⟨a, b, ⟨rfl, rfl⟩, ⟨h1, h2⟩, ⟨0, 0, [], ⟨⟨rfl, rfl, rfl, rfl⟩, rfl, rfl⟩, Nat.zero_le _, Nat.zero_le _, rfl, by simp⟩, fun i k out hi hk hl hm _ => ⟨fun hlt => ?_, fun hge => ?_⟩⟩
 ·have t1 := @b0X a b 0 0
  have t2 := a5b (a := a) (b := b) (p := 0) (q := 0) (r := i) (by omega)
  have t3 := a5b (a := a) (b := b) (p := 0) (q := 0) (r := i + 1) (by omega)
  have u1 := @a4n a b 0 0 i
  have u2 := @a4n a b 0 0 (i + 1)
  have t4 : a[i]? = some a[i] := List.getElem?_eq_getElem hlt
  have m0 := c4E (a := a) (b := b) (i := i) (k := k) hlt
  rcases Nat.lt_or_ge k b.length with hkb | hkb
  ·have t5 : b[k]? = some b[k] := List.getElem?_eq_getElem hkb
   have u3 : (tabR a b 0 0 (i + 1))[k]? = some (lcs (a.drop (i + 1)) (b.drop k)) := by rw [a3s (by omega), if_pos (by omega)]
   have u4 : (tabR a b 0 0 i)[k + 1]? = some (lcs (a.drop i) (b.drop (k + 1))) := by rw [a3s (by omega), if_pos (by omega)]
   have m1 := b9C (a := a) (b := b) (i := i) (k := k) hlt hkb
   generalize tabF a b 0 0 = T at *
   generalize tabR a b 0 0 i = rA at *
   generalize tabR a b 0 0 (i + 1) = rB at *
   generalize lcs (a.drop (i + 1)) (b.drop k) = L1 at *
   generalize lcs (a.drop i) (b.drop (k + 1)) = L2 at *
   have g1 : ¬ b.length <= k := by omega
   obtain ⟨_, u6⟩ := List.getElem?_eq_some_iff.1 u4
   simp -implicitDefEqProofs [hkb, g1, t1, t2, t3, t4, t5, u1, u2, u3, u4, u6, eInt, eStr, D.asStr, eRow, D.asRows, D.asInt, and_assoc]
   refine ⟨hlt, fun _ => ⟨fun e => ⟨by omega, by omega, by omega, by omega, fun _ _ => ⟨by omega, by omega, fun _ _ => ⟨i + 1, k + 1, out ++ [(k : Int)], a4K _ _, by omega, by omega, (a4K _ _).symm, by omega, by omega, by simp -implicitDefEqProofs [hl], ?_, by omega⟩⟩⟩, fun e => ⟨by omega, by omega, fun _ _ => ⟨by omega, by omega, fun _ _ => ⟨by omega, fun _ => ⟨by omega, fun _ => ⟨by omega, by omega, fun _ _ => ⟨by omega, fun _ => ⟨fun c => ⟨by omega, by omega, by omega, by omega, fun _ _ => ⟨i + 1, k, out ++ [-1], a4K _ _, by omega, by omega, (a4K _ _).symm, by omega, by omega, by simp -implicitDefEqProofs [hl], ?_, by omega⟩⟩, fun c => ⟨by omega, by omega, fun _ _ => ⟨i, k + 1, by omega, by omega, by omega, by omega, hl, ?_, by omega⟩⟩⟩⟩⟩⟩⟩⟩⟩⟩⟩
   ·rw [<- hm, m1, if_pos e]; simp
   ·rw [<- hm, m1, if_neg e, if_pos c]; simp
   ·rw [<- hm, m1, if_neg e, if_neg (by omega)]
  ·have g1 : ¬ k < b.length := by omega
   simp -implicitDefEqProofs [hkb, g1, t4, eStr, D.asStr, and_assoc]
   refine ⟨by omega, by omega, by omega, by omega, fun _ _ => ⟨i + 1, k, out ++ [-1], a4K _ _, by omega, by omega, (a4K _ _).symm, by omega, by omega, by simp -implicitDefEqProofs [hl], ?_, by omega⟩⟩
   rw [<- hm, m0 (by omega)]; simp
 ·rw [List.drop_eq_nil_of_le hge, mt, List.append_nil] at hm
  exact ⟨hm.symm, hm⟩
structure PartD where
 clash : Bool
 lines : List Str
 old : List Str
 one : List Str
 two : List Str
 deriving DecidableEq, Inhabited
def a1P (a : PartD) : List D := [.bool a.clash, .sl 9 1 (a0b a.lines), .sl 9 1 (a0b a.old), .sl 9 1 (a0b a.one), .sl 9 1 (a0b a.two)]
@[simp] theorem ePart_inj (a b : PartD) : (a1P a = a1P b) = (a = b) := by
 cases a; cases b; simp -implicitDefEqProofs [a1P]
@[simp] theorem PartD.eta (a : PartD) : (⟨a.clash, a.lines, a.old, a.one, a.two⟩ : PartD) = a := rfl
theorem PartD.eq_iff (a b : PartD) : (a = b) = (a.clash = b.clash /\ a.lines = b.lines /\ a.old = b.old /\ a.one = b.one /\ a.two = b.two) := by
 cases a; cases b; simp
@[simp] theorem PartD.ex1 (x_clash : Bool) (x_lines : List Str) (x_old : List Str) (x_one : List Str) (x_two : List Str) (Q : PartD -> Prop) : (∃ a : PartD, a.clash = x_clash /\ a.lines = x_lines /\ a.old = x_old /\ a.one = x_one /\ a.two = x_two /\ Q a) = Q ⟨x_clash, x_lines, x_old, x_one, x_two⟩ := by
 apply propext
 constructor
 ·rintro ⟨⟨_, _, _, _, _⟩, rfl, rfl, rfl, rfl, rfl, h⟩; exact h
 ·intro h; exact ⟨⟨x_clash, x_lines, x_old, x_one, x_two⟩, rfl, rfl, rfl, rfl, rfl, h⟩
@[simp] theorem PartD.ex2 (x_clash : Bool) (x_lines : List Str) (x_old : List Str) (x_one : List Str) (x_two : List Str) (Q : PartD -> Prop) : (∃ a : PartD, (a.clash = x_clash /\ a.lines = x_lines /\ a.old = x_old /\ a.one = x_one /\ a.two = x_two) /\ Q a) = Q ⟨x_clash, x_lines, x_old, x_one, x_two⟩ := by
 apply propext
 constructor
 ·rintro ⟨⟨_, _, _, _, _⟩, ⟨rfl, rfl, rfl, rfl, rfl⟩, h⟩; exact h
 ·intro h; exact ⟨⟨x_clash, x_lines, x_old, x_one, x_two⟩, ⟨rfl, rfl, rfl, rfl, rfl⟩, h⟩
@[simp] theorem PartD.ex0 (x_clash : Bool) (x_lines : List Str) (x_old : List Str) (x_one : List Str) (x_two : List Str) : (∃ a : PartD, a.clash = x_clash /\ a.lines = x_lines /\ a.old = x_old /\ a.one = x_one /\ a.two = x_two) = True := by
 simp only [eq_iff_iff, iff_true]
 exact ⟨⟨x_clash, x_lines, x_old, x_one, x_two⟩, rfl, rfl, rfl, rfl, rfl⟩
def a0w (l : List PartD) : List (List D) := l.map a1P
@[simp] theorem eParts_length (l : List PartD) : (a0w l).length = l.length := by simp -implicitDefEqProofs [a0w]
@[simp] theorem eParts_nil : a0w [] = [] := rfl
@[simp] theorem eParts_get (l : List PartD) (i : Nat) : (a0w l)[i]? = l[i]?.map a1P := by simp -implicitDefEqProofs [a0w]
@[simp] theorem eParts_getElem (l : List PartD) (i : Nat) (h : i < (a0w l).length) : (a0w l)[i] = a1P (l[i]'(by simpa using h)) := by simp -implicitDefEqProofs [a0w]
@[simp] theorem eParts_inj (a b : List PartD) : (a0w a = a0w b) = (a = b) := by
 apply propext
 constructor
 ·intro h
  exact List.map_inj_right (fun x y h => by simpa using h) |>.1 h
 ·rintro rfl; rfl
@[simp] theorem eParts_eq_nil (a : List PartD) : (a0w a = []) = (a = []) := by simp -implicitDefEqProofs [a0w]
@[simp] theorem nil_eq_eParts (a : List PartD) : ([] = a0w a) = (a = []) := by simp -implicitDefEqProofs [a0w, eq_comm]
theorem b5e (a b : List PartD) : a0w (a ++ b) = a0w a ++ a0w b := by simp -implicitDefEqProofs [a0w]
abbrev b1S (h : Nat) (a : List PartD) : List (Nat × Blk) := [(h, .own 237 5 true (a0w a))]
def a1b (o a b : List Str) : PartD := if a = o \/ a = b then ⟨false, b, [], [], []⟩ else if b = o then ⟨false, a, [], [], []⟩ else ⟨true, [], o, a, b⟩
theorem b1h (o a b : List Str) : (a1b o a b).lines.length <= a.length + b.length := by
 unfold a1b
 split
 ·simp
 ·split <;> simp
def put3 (l : List PartD) (p : PartD) : List PartD :=
 if p.clash = false /\ p.lines = [] then l
 else match l.getLast? with
  | some q => if p.clash = false /\ q.clash = false then l.set (l.length - 1) ⟨q.clash, q.lines ++ p.lines, q.old, q.one, q.two⟩ else l ++ [p]
  | none => l ++ [p]
theorem a9f (l : List PartD) (p : PartD) : (put3 l p).length <= l.length + 1 := by
 unfold put3
 split
 ·omega
 ·split
  ·split <;> simp
  ·simp
theorem b0R {l : List PartD} {p : PartD} {n : Nat} (h : ∀ q ∈ l, q.lines.length <= n) : ∀ q ∈ put3 l p, q.lines.length <= n + p.lines.length := by
 intro q hq
 unfold put3 at hq
 split at hq
 ·have := h q hq; omega
 ·split at hq
  ·rename_i r hr
   split at hq
   ·rcases List.mem_or_eq_of_mem_set hq with hq | hq
    ·have := h q hq; omega
    ·subst hq
     have := h r (List.mem_of_getLast? hr)
     simp; omega
   ·rcases List.mem_append.1 hq with hq | hq
    ·have := h q hq; omega
    ·simp at hq; subst hq; omega
  ·rcases List.mem_append.1 hq with hq | hq
   ·have := h q hq; omega
   ·simp at hq; subst hq; omega
def asc : Int -> Int -> List Int -> Prop
 | _, _, [] => True
 | k, n, x :: l => (x < 0 /\ asc k n l) \/ (k <= x /\ x < n /\ asc (x + 1) n l)
theorem a8p : ∀ {l : List Int} {k k' n : Int}, k <= k' -> asc k' n l -> asc k n l
 | [], _, _, _, _, _ => trivial
 | x :: l, k, k', n, h, h2 => by
  rcases h2 with ⟨h3, h4⟩ | ⟨h3, h4, h5⟩
  ·exact .inl ⟨h3, a8p h h4⟩
  ·exact .inr ⟨by omega, h4, h5⟩
theorem b1o : ∀ {l : List Int} {k n : Int}, k <= n -> asc k n l -> asc k (n + 1) (l ++ [n])
 | [], k, n, h, _ => .inr ⟨h, by omega, trivial⟩
 | x :: l, k, n, h, h2 => by
  rcases h2 with ⟨h3, h4⟩ | ⟨h3, h4, h5⟩
  ·exact .inl ⟨h3, b1o h h4⟩
  ·exact .inr ⟨h3, by omega, b1o (by omega) h5⟩
theorem d1a (a b : List Str) (k : Nat) : asc k (k + b.length) (mt a b k) := by
 fun_induction mt a b k with
 | case1 => trivial
 | case2 x a k ih => exact .inl ⟨by omega, ih⟩
 | case3 a y b k ih =>
  refine .inr ⟨by omega, by simp only [List.length_cons]; omega, ?_⟩
  have e : ((k + 1 : Nat) : Int) + b.length = k + (y :: b).length := by simp only [List.length_cons]; omega
  rw [e] at ih
  exact ih
 | case4 x a y b k h h2 ih => exact .inl ⟨by omega, ih⟩
 | case5 x a y b k h1 h2 ih =>
  have e : ((k + 1 : Nat) : Int) + b.length = k + (y :: b).length := by simp only [List.length_cons]; omega
  rw [e] at ih
  exact a8p (by omega) ih
def mtE (a b : List Str) : List Int := mt a b 0 ++ [(b.length : Int)]
theorem a6J (a b : List Str) : (mtE a b).length = a.length + 1 := by simp -implicitDefEqProofs [mtE, a7Z]
theorem b9B (a b : List Str) : asc 0 (b.length + 1) (mtE a b) := by
 have h := d1a a b 0
 have := b1o (k := 0) (n := b.length) (by omega) (by simpa using h)
 exact this
theorem a7L {l : List Int} {i : Nat} {k n : Int} (h : i < l.length) (ha : asc k n (l.drop i)) : (l[i] < 0 /\ asc k n (l.drop (i + 1))) \/ (k <= l[i] /\ l[i] < n /\ asc (l[i] + 1) n (l.drop (i + 1))) := by
 rw [List.drop_eq_getElem_cons h] at ha
 exact ha
structure S3 where
 io : Nat
 ia : Nat
 ib : Nat
 out : List PartD
def a6A (o a b : List Str) (x y : Int) (i : Nat) (s : S3) : S3 :=
 if x < 0 \/ y < 0 then s
 else ⟨i + 1, x.toNat + 1, y.toNat + 1,
  if i < o.length then put3 (put3 s.out (a1b ((o.take i).drop s.io) ((a.take x.toNat).drop s.ia) ((b.take y.toNat).drop s.ib))) ⟨false, [o.getD i []], [], [], []⟩
  else put3 s.out (a1b ((o.take i).drop s.io) ((a.take x.toNat).drop s.ia) ((b.take y.toNat).drop s.ib))⟩
def run3 (o a b : List Str) : Nat -> S3
 | 0 => ⟨0, 0, 0, []⟩
 | i + 1 => a6A o a b ((mtE o a).getD i 0) ((mtE o b).getD i 0) i (run3 o a b i)
def of3 (o a b : List Str) : List PartD := (run3 o a b (o.length + 1)).out
def Ok3 (o a b : List Str) (i : Nat) (s : S3) : Prop :=
 s.io <= i /\ s.ia <= a.length + 1 /\ s.ib <= b.length + 1 /\ asc s.ia (a.length + 1) ((mtE o a).drop i) /\ asc s.ib (b.length + 1) ((mtE o b).drop i) /\ s.out.length <= 2 * i /\ ∀ q ∈ s.out, q.lines.length <= s.io + s.ia + s.ib
theorem d1G (o a b : List Str) : Ok3 o a b 0 ⟨0, 0, 0, []⟩ := ⟨by simp, by simp, by simp, by simpa using b9B o a, by simpa using b9B o b, by simp, by simp⟩
theorem c7m {o a b : List Str} {i : Nat} {s : S3} (hi : i < o.length + 1) (h : Ok3 o a b i s) : Ok3 o a b (i + 1) (a6A o a b ((mtE o a).getD i 0) ((mtE o b).getD i 0) i s) := by
 obtain ⟨h1, h2, h3, h4, h5, h6, h7⟩ := h
 have la := a6J o a
 have lb := a6J o b
 have ga : (mtE o a).getD i 0 = (mtE o a)[i]'(by omega) := by simp -implicitDefEqProofs [List.getD_eq_getElem?_getD, List.getElem?_eq_getElem (show i < (mtE o a).length by omega)]
 have gb : (mtE o b).getD i 0 = (mtE o b)[i]'(by omega) := by simp -implicitDefEqProofs [List.getD_eq_getElem?_getD, List.getElem?_eq_getElem (show i < (mtE o b).length by omega)]
 rw [ga, gb]
 have h4 := a7L (l := mtE o a) (by omega) h4
 have h5 := a7L (l := mtE o b) (by omega) h5
 generalize (mtE o a)[i]'(by omega) = x at *
 generalize (mtE o b)[i]'(by omega) = y at *
 unfold a6A
 split
 ·rename_i hxy
  refine ⟨by omega, h2, h3, ?_, ?_, by omega, h7⟩
  ·rcases h4 with h4 | h4
   ·exact h4.2
   ·exact a8p (by omega) h4.2.2
  ·rcases h5 with h5 | h5
   ·exact h5.2
   ·exact a8p (by omega) h5.2.2
 ·rename_i hxy
  rcases h4 with h4 | ⟨h4, h41, h42⟩
  ·omega
  rcases h5 with h5 | ⟨h5, h51, h52⟩
  ·omega
  have ex : ((x.toNat + 1 : Nat) : Int) = x + 1 := by omega
  have ey : ((y.toNat + 1 : Nat) : Int) = y + 1 := by omega
  have b1 := b1h ((o.take i).drop s.io) ((a.take x.toNat).drop s.ia) ((b.take y.toNat).drop s.ib)
  have b2 := b0R (p := a1b ((o.take i).drop s.io) ((a.take x.toNat).drop s.ia) ((b.take y.toNat).drop s.ib)) h7
  have b3 := a9f s.out (a1b ((o.take i).drop s.io) ((a.take x.toNat).drop s.ia) ((b.take y.toNat).drop s.ib))
  generalize a1b ((o.take i).drop s.io) ((a.take x.toNat).drop s.ia) ((b.take y.toNat).drop s.ib) = p at *
  have b1 : p.lines.length <= (x.toNat - s.ia) + (y.toNat - s.ib) := by
   refine Nat.le_trans b1 ?_
   simp only [List.length_drop, List.length_take]
   omega
  refine ⟨by simp, by simp; omega, by simp; omega, by simpa only [ex] using h42, by simpa only [ey] using h52, ?_, ?_⟩
  ·show (if i < o.length then _ else _ : List PartD).length <= _
   split
   ·have := a9f (put3 s.out p) ⟨false, [o.getD i []], [], [], []⟩
    omega
   ·omega
  ·show ∀ q ∈ (if i < o.length then _ else _ : List PartD), _
   split
   ·intro q hq
    have := b0R (p := ⟨false, [o.getD i []], [], [], []⟩) b2 q hq
    simp at this
    show q.lines.length <= (i + 1) + (x.toNat + 1) + (y.toNat + 1)
    omega
   ·intro q hq
    have := b2 q hq
    show q.lines.length <= (i + 1) + (x.toNat + 1) + (y.toNat + 1)
    omega
theorem a8b (o a b : List Str) : ∀ i, i <= o.length + 1 -> Ok3 o a b i (run3 o a b i)
 | 0, _ => d1G o a b
 | i + 1, h => c7m (by omega) (a8b o a b i (by omega))
def a1W (l : List PartD) : List Str × Bool := if l.any (·.clash) then ([], false) else if a1f (l.flatMap (·.lines)) then (l.flatMap (·.lines), true) else ([], false)
def rsO (r : RepoD) : Inv := ⟨Nat, fun i => ⟨[(1, true, .ptr 10 0), (2, true, .bool false), (3, true, .int .i64 i)], [(10, a2H r)]⟩, fun i => i <= r.commits.length /\ ∀ j, j < i -> okCS r.commits j = true, fun i => r.commits.length - i⟩
def rsI (r : RepoD) (g : Nat) : Inv := ⟨Nat, fun k => ⟨[(1, true, .ptr 10 0), (2, true, .bool false), (3, true, .int .i64 g), (4, true, .ptr 11 0), (5, true, .int .i64 k)], [(10, a2H r), (11, .box 87 [.sl true 1 (a0g (r.commits.getD g default).parents), .str (r.commits.getD g default).who, .sl true 2 (a0a (r.commits.getD g default).tree)])]⟩,
 fun k => g < r.commits.length /\ k <= (r.commits.getD g default).parents.length /\ (∀ j, j < g -> okCS r.commits j = true) /\ ∀ j, j < k -> oneP g (r.commits.getD g default).parents j = true, fun k => (r.commits.getD g default).parents.length - k⟩
def rsH (r : RepoD) : Inv := ⟨Nat, fun i => ⟨[(1, true, .ptr 10 0), (2, true, .bool false), (6, true, .int .i64 i)], [(10, a2H r)]⟩, fun i => i <= r.heads.length /\ (∀ j, j < r.commits.length -> okCS r.commits j = true) /\ ∀ j, j < i -> okHd r.commits.length r.heads j = true, fun i => r.heads.length - i⟩
def b5M (r : RepoD) (n g : Nat) : Inv := if n = 2 then rsO r else if n = 6 then rsI r g else rsH r
theorem d0d (r : RepoD) (g : Nat) : b5M r 2 g = rsO r := rfl
theorem d0e (r : RepoD) (g : Nat) : b5M r 6 g = rsI r g := rfl
theorem c7U (r : RepoD) (g : Nat) : b5M r 13 g = rsH r := rfl
def a6q : Con := .fn 126 RepoD (fun r => [a1g r]) (fun r => r.commits.length <= 1073741824) (fun r => .bool (a0v r)) (fun _ => [])
theorem a4N : Has Tryz.prog 143 a6q := by
 refine a0d mixed a0f (HasL.cons a4M (HasL.cons a4u (HasL.cons a7d HasL.nil))) [0, 1, 2, 3, 4, 5, 6] (fun r => b5M r) [] Tryz.func143 (by unfold Tryz.f143; rfl) (fun _ => ⟨(), trivial⟩) ?_
 intro (r : RepoD) hr
 replace hr : r.commits.length <= 1073741824 := hr
 have hN := fun i => @c7T r i
 have hN1 := fun i => @c7q r.commits i
 have hN2 := fun i k => @c7r r.commits i k
 have hY := fun i => @c7s r.commits i
 have hM := fun i => @b4A r.commits.length r.heads i
 have hH := @c5e r
 simp -implicitDefEqProofs [a6q, Con.fn, tTab, a4S, a8z, a6p, d0d, d0e, c7U, rsO, rsI, rsH, a0J]
 try dsimp only
 refine fun i hi hprev _ => ⟨fun hlt => ?_, fun hge => ?_⟩
 ·have e3 : Option.map a0K r.commits[i]? = some (a0K r.commits[i]) := by simp -implicitDefEqProofs [List.getElem?_eq_getElem hlt]
  have hgc : r.commits.getD i default = r.commits[i] := by simp -implicitDefEqProofs [List.getD_eq_getElem?_getD, hlt]
  have n0 := hN i hlt
  have n1 := hN1 i
  have n2 := hN2 i
  have n3 := hY i
  rw [hgc] at n1 n2 n3
  simp -implicitDefEqProofs [hlt, e3, a0K, D.asStr, D.asRows, a0D, and_assoc]
  try simp only [show r.commits[i]?.getD default = r.commits[i] by simp -implicitDefEqProofs [hlt]]
  generalize r.commits[i] = c at n1 n2 n3 ⊢
  clear hN hN1 hN2 hY hM hH e3 hgc
  refine ⟨hprev, fun t ht _ hinv _ => ⟨fun hlt2 => ?_, fun hge2 => ?_⟩⟩
  ·have qt : Option.map eInt c.parents[t]? = some (eInt c.parents[t]) := by simp -implicitDefEqProofs [List.getElem?_eq_getElem hlt2]
   have q0 : Option.map eInt c.parents[0]? = some (eInt (c.parents[0]'(by omega))) := by simp -implicitDefEqProofs [List.getElem?_eq_getElem (show 0 < c.parents.length by omega)]
   have o : oneP i c.parents t = ((decide (0 <= c.parents[t]) && decide (c.parents[t] <= (i : Int) - 1)) && !(decide (0 < t) && decide (c.parents[t] = c.parents[0]'(by omega)))) := by
    unfold oneP inN
    rw [show c.parents.getD t 0 = c.parents[t] by simp -implicitDefEqProofs [List.getD_eq_getElem?_getD, hlt2], show c.parents.getD 0 0 = c.parents[0]'(by omega) by simp -implicitDefEqProofs [List.getD_eq_getElem?_getD, show 0 < c.parents.length by omega]]
   have n7 : oneP i c.parents t = false -> a0v r = false := fun h => n0 (n2 t hlt2 h)
   have n8 : oneP i c.parents t = true -> ∀ j, j < t + 1 -> oneP i c.parents j = true := fun h j hj => by
    rcases Nat.lt_or_ge j t with h3 | h3
    ·exact hinv j h3
    ·have : j = t := by omega
     subst this; exact h
   simp -implicitDefEqProofs [qt, q0, eInt, hlt2]
   refine ⟨by omega, by omega, fun _ _ => ⟨fun h => ?_, fun g1 g2 => ⟨fun h0 => ⟨by omega, fun _ => ⟨fun he => n7 (by rw [o]; simp -implicitDefEqProofs [he, h0]), fun he => ⟨by omega, by omega, fun _ _ => ⟨t + 1, rfl, by omega, hprev, n8 (by rw [o]; simp -implicitDefEqProofs [g1, g2, he]), by omega⟩⟩⟩⟩,
    fun h0 => ⟨by omega, by omega, fun _ _ => ⟨t + 1, rfl, by omega, hprev, n8 (by rw [o, show decide (0 < t) = false by simp -implicitDefEqProofs [h0]]; simp -implicitDefEqProofs [g1, g2]), by omega⟩⟩⟩⟩⟩
   have : a0v r = false := n7 (by rw [o]; simp; omega)
   exact ⟨fun _ => this, fun _ => this⟩
  ·have n9 : okS1 c = false -> a0v r = false := fun h => n0 (n1 h)
   have n10 : okS1 c = true -> ∀ j, j < i + 1 -> okCS r.commits j = true := fun h j hj => by
    rcases Nat.lt_or_ge j i with h3 | h3
    ·exact hprev j h3
    ·have : j = i := by omega
     subst this
     exact n3 h (fun k hk => hinv k (by omega))
   refine fun _ => ⟨fun h => n9 (by simp -implicitDefEqProofs [okS1]; omega), fun h => ⟨fun hn => n9 (by simp -implicitDefEqProofs [okS1, hn]), fun hn => ⟨fun ht => n9 (by simp -implicitDefEqProofs [okS1, ht]), fun ht => ⟨by omega, by omega, fun _ _ => ⟨i + 1, rfl, by omega, n10 (by simp -implicitDefEqProofs [okS1, hn, ht]; omega), by omega⟩⟩⟩⟩⟩
 ·clear hN hN1 hN2 hY
  have hall : ∀ j, j < r.commits.length -> okCS r.commits j = true := fun j hj => hprev j (by omega)
  refine ⟨hall, fun t ht _ hinv _ => ⟨fun hlt2 => ?_, fun hge2 _ => ?_⟩⟩
  ·generalize hhs : r.heads = hs at *
   have e3 : Option.map a1d hs[t]? = some (a1d hs[t]) := by simp -implicitDefEqProofs [List.getElem?_eq_getElem hlt2]
   have e4 : Option.map a1d hs[t - 1]? = some (a1d (hs[t - 1]'(by omega))) := by simp -implicitDefEqProofs [List.getElem?_eq_getElem (show t - 1 < hs.length by omega)]
   have hh : okHd r.commits.length hs t = (a0Z hs[t].name && inN r.commits.length hs[t].at_ && (decide (t = 0) || Go.Op.bytesLess (hs[t - 1]'(by omega)).name hs[t].name)) := by
    unfold okHd
    rw [show hs.getD t default = hs[t] by simp -implicitDefEqProofs [List.getD_eq_getElem?_getD, hlt2], show hs.getD (t - 1) default = hs[t - 1]'(by omega) by simp -implicitDefEqProofs [List.getD_eq_getElem?_getD, show t - 1 < hs.length by omega]]
   have n7 : okHd r.commits.length hs t = false -> a0v r = false := fun h => hH (hM t hlt2 h)
   have n8 : okHd r.commits.length hs t = true -> ∀ j, j < t + 1 -> okHd r.commits.length hs j = true := fun h j hj => by
    rcases Nat.lt_or_ge j t with h3 | h3
    ·exact hinv j h3
    ·have : j = t := by omega
     subst this; exact h
   have hq := b7e hs[t].name (hs[t - 1]'(by omega)).name
   rw [a2X] at hh
   unfold leqS at hq
   rw [hh] at n7 n8
   unfold inN at n7 n8
   clear hh hH hM
   simp -implicitDefEqProofs [hlt2, e3, e4, a1d, D.asStr, D.asInt, a0D, and_assoc]
   try simp +contextual -implicitDefEqProofs [eStr, a0k, a0z, a0D, a0A, List.getElem?_eq_getElem, a0B, a0l, a0y, a0s, <- a0i, <- a0h, a0m, a0q, a0o, a0n, a0r, a0j, and_assoc, hlt2]
   clear e3 e4 hinv hprev
   repeat' (first | intro _ | apply And.intro)
   all_goals first | omega | grind -ring
  ·have h2 : a1T r.commits.length r.heads = decide (r.heads.length <= 5) := by
    unfold a1T
    have : (List.range r.heads.length).all (okHd r.commits.length r.heads) = true := by
     rw [List.all_eq_true]
     intro j hj
     have hj' : j < r.heads.length := by simpa using hj
     exact hinv j (by omega)
    rw [this, Bool.and_true]
   refine ⟨fun h16 _ => ?_, fun h16 => ?_⟩
   ·rw [Bool.eq_iff_iff, a0V, h2]
    simp only [decide_eq_true_eq]
    exact ⟨fun h => by have := h.2.1; omega, fun h => ⟨hall, by omega, by omega⟩⟩
   ·cases hq : a0v r with
    | false => rfl
    | true => have := ((a0V r).1 hq).2.2; omega
theorem a2t {r : RepoD} (h : a0E r = true) {i : Nat} (hi : i < r.commits.length) : r.commits[i].parents.length <= 2 /\ (∀ p ∈ r.commits[i].parents, 0 <= p /\ p < (i : Int)) /\ a0x r.commits[i].tree = true := by
 have h1 := ((a4X r).1 h).2.1 i hi
 have hg : r.commits.getD i default = r.commits[i] := by simp -implicitDefEqProofs [List.getD_eq_getElem?_getD, hi]
 simp only [okCI, okI1, hg, Bool.and_eq_true, decide_eq_true_eq, List.all_eq_true, List.mem_range] at h1
 refine ⟨h1.1.1.1.1, fun p hp => ?_, h1.1.2⟩
 obtain ⟨k, hk, rfl⟩ := List.getElem_of_mem hp
 have h2 := h1.2 k hk
 simp only [inN, Bool.and_eq_true, decide_eq_true_eq, List.getD_eq_getElem?_getD, List.getElem?_eq_getElem hk, Option.getD_some] at h2
 omega
theorem a3C {r : RepoD} (h : a0E r = true) : r.commits.length <= 16 := ((a4X r).1 h).1
def a5p (r : RepoD) (a : Int) : Int := (r.commits.getD a.toNat default).parents.headD (-1)
theorem c6v {r : RepoD} (h : a0E r = true) {a : Int} (h0 : 0 <= a) (h1 : a < r.commits.length) : -1 <= a5p r a /\ a5p r a < a := by
 have hi : a.toNat < r.commits.length := by omega
 obtain ⟨_, h2, _⟩ := a2t h hi
 unfold a5p
 rw [List.getD_eq_getElem?_getD, List.getElem?_eq_getElem hi, Option.getD_some]
 cases hp : r.commits[a.toNat].parents with
 | nil => simp; omega
 | cons p l =>
  have := h2 p (by rw [hp]; simp)
  simp only [List.headD_cons]
  omega
def b6h : Con := .fn 21 (RepoD × Int) (fun a => [a1g a.1, .int .i64 a.2]) (fun a => 0 <= a.2 /\ a.2 < a.1.commits.length) (fun a => .int .i64 (a5p a.1 a.2)) (fun _ => [])
theorem c3j : Has Tryz.prog 134 b6h := by
 refine a0d mixed a0f HasL.nil [0, 1, 2, 4] ((fun a n (_ : Nat) => (fun _ => a0F) a n)) [] Tryz.func134 (by unfold Tryz.f134; rfl) (fun _ => ⟨(), trivial⟩) ?_
 intro a ha
 obtain ⟨r, n⟩ := a
 obtain ⟨h1, h2⟩ : 0 <= n /\ n < r.commits.length := ha
 have hi : n.toNat < r.commits.length := by omega
 have e : Option.map a0K r.commits[n.toNat]? = some (a0K r.commits[n.toNat]) := by simp -implicitDefEqProofs [hi]
 have hf : a5p r n = r.commits[n.toNat].parents.headD (-1) := by unfold a5p; rw [List.getD_eq_getElem?_getD, List.getElem?_eq_getElem hi]; rfl
 simp -implicitDefEqProofs [b6h, Con.fn, tTab, e, hf, a0K, hi, h1, h2]
 try dsimp only
 intro _
 cases hp : r.commits[n.toNat].parents with
 | nil => simp
 | cons q l => simp -implicitDefEqProofs [eInt]
def a9P : Con := .fn 13 (RepoD × Int) (fun a => [a1g a.1, .int .i64 a.2]) (fun a => 0 <= a.2 /\ a.2 < a.1.commits.length) (fun a => .sl true 2 (a0a (a.1.commits.getD a.2.toNat default).tree)) (fun _ => [])
theorem b0w : Has Tryz.prog 71 a9P := by
 refine a0d mixed a0f HasL.nil [0, 1, 2, 4] ((fun a n (_ : Nat) => (fun _ => a0F) a n)) [] Tryz.func71 (by unfold Tryz.f71; rfl) (fun _ => ⟨(), trivial⟩) ?_
 intro a ha
 obtain ⟨r, n⟩ := a
 obtain ⟨h1, h2⟩ : 0 <= n /\ n < r.commits.length := ha
 have hi : n.toNat < r.commits.length := by omega
 have e : Option.map a0K r.commits[n.toNat]? = some (a0K r.commits[n.toNat]) := by simp -implicitDefEqProofs [hi]
 simp -implicitDefEqProofs [a9P, Con.fn, tTab, e, a0K, hi, h1, h2]
 try dsimp only
 exact fun h => absurd h (by omega)
def a0C (r : RepoD) (a : Int) : List FileD := (r.commits.getD a.toNat default).tree
--TAB a0N
def a0N : List (Nat × TI) := (138, ⟨false, [.sl 4 1], 24, [], 4⟩) :: tTab
theorem a0H : ∀ t ti, get? a0N t = some ti -> TOk Tryz.prog t ti := b0s (by kernel_rfl)
def a1F (b : Bool) : List D := [.bool b]
@[simp] theorem eBool_inj (a b : Bool) : (a1F a = a1F b) = (a = b) := by simp -implicitDefEqProofs [a1F]
def a0I (l : List Bool) : List (List D) := l.map a1F
@[simp] theorem eBools_length (l : List Bool) : (a0I l).length = l.length := by simp -implicitDefEqProofs [a0I]
@[simp] theorem eBools_nil : a0I [] = [] := rfl
@[simp] theorem eBools_get (l : List Bool) (i : Nat) : (a0I l)[i]? = l[i]?.map a1F := by simp -implicitDefEqProofs [a0I]
@[simp] theorem eBools_getElem (l : List Bool) (i : Nat) (h : i < (a0I l).length) : (a0I l)[i] = a1F (l[i]'(by simpa using h)) := by simp -implicitDefEqProofs [a0I]
@[simp] theorem eBools_inj (a b : List Bool) : (a0I a = a0I b) = (a = b) := by
 apply propext
 constructor
 ·intro h
  exact List.map_inj_right (fun x y h => by simpa using h) |>.1 h
 ·rintro rfl; rfl
@[simp] theorem eBools_eq_nil (a : List Bool) : (a0I a = []) = (a = []) := by simp -implicitDefEqProofs [a0I]
@[simp] theorem nil_eq_eBools (a : List Bool) : ([] = a0I a) = (a = []) := by simp -implicitDefEqProofs [a0I, eq_comm]
theorem a1B (l : List Bool) (i : Nat) (b : Bool) : (a0I l).set i [.bool b] = a0I (l.set i b) := by simp -implicitDefEqProofs [a0I, List.map_set, a1F]
theorem a3k (n : Nat) (b : Bool) : List.replicate n [D.bool b] = a0I (List.replicate n b) := by simp -implicitDefEqProofs [a0I, a1F]
abbrev b7s (h : Nat) (a : List Bool) : List (Nat × Blk) := [(h, .own 4 1 true (a0I a))]
def isT (l : List Bool) (i : Nat) : Bool := l.getD i false
def a3u (l : List Bool) (i : Nat) : List Int := ((List.range i).filter (isT l)).map fun j : Nat => (j : Int)
theorem b0e {l : List Bool} {i : Nat} (h : isT l i = true) : a3u l (i + 1) = a3u l i ++ [(i : Int)] := by simp -implicitDefEqProofs [a3u, List.range_succ, h]
theorem a9b {l : List Bool} {i : Nat} (h : isT l i = false) : a3u l (i + 1) = a3u l i := by simp -implicitDefEqProofs [a3u, List.range_succ, h]
theorem a6a (l : List Bool) (i : Nat) : (a3u l i).length <= i := by
 have := List.length_filter_le (isT l) (List.range i)
 simpa [a3u] using this
def a0u (l : List Bool) : List Int := a3u l l.length
theorem listT_mem {l : List Bool} {x : Int} : x ∈ a0u l ↔ ∃ i : Nat, i < l.length /\ isT l i = true /\ x = i := by
 simp only [a0u, a3u, List.mem_map, List.mem_filter, List.mem_range]
 constructor
 ·rintro ⟨i, ⟨h1, h2⟩, rfl⟩; exact ⟨i, h1, h2, rfl⟩
 ·rintro ⟨i, h1, h2, rfl⟩; exact ⟨i, ⟨h1, h2⟩, rfl⟩
def b3L : Con := .fn 20 (List Bool) (fun l => [.sl true 1 (a0I l)]) (fun l => l.length <= 1048576) (fun l => .own 8 1 (a0g (a0u l))) (fun l => a5K 8 (a0u l))
theorem c1D : Has Tryz.prog 203 b3L := by
 refine a0d mixed a0H HasL.nil [0, 2, 3, 4, 5, 6, 7, 8] ((fun a n (_ : Nat) => (fun l _ => ⟨Nat, fun i => ⟨[(2, true, .nil), (3, true, .own 9 1 (a0g (a3u l i))), (6, true, .sl true 1 (a0I l)), (7, true, .int .i64 l.length), (8, true, .int .i64 i)], [(9, .own 3 1 true (a0g (a3u l i)))]⟩, fun i => i <= l.length, fun i => l.length - i⟩) a n)) [] Tryz.func203 (by unfold Tryz.f203; rfl) (fun _ => ⟨(), trivial⟩) ?_
 intro (l : List Bool) (ha : l.length <= 1048576)
 simp -implicitDefEqProofs [b3L, Con.fn, a0N, tTab]
 try dsimp only
 refine fun _ => ⟨⟨0, ⟨⟨rfl, rfl⟩, rfl⟩, Nat.zero_le _⟩, fun i hi => ⟨fun hlt => ?_, fun hge => ?_⟩⟩
 ·have hl := a6a l i
  have hi : isT l i = l[i] := by simp -implicitDefEqProofs [isT, List.getD_eq_getElem?_getD, hlt]
  simp -implicitDefEqProofs [hlt, a1F, D.asBool, and_assoc]
  refine ⟨fun h => ?_, fun h => ?_⟩
  ·have e := b0e (hi.trans h)
   exact ⟨by omega, by omega, by omega, by omega, fun _ _ => ⟨i + 1, by rw [e]; simp -implicitDefEqProofs [a0g, eInt], by omega, by rw [e]; simp -implicitDefEqProofs [a0g, eInt], by omega, by omega⟩⟩
  ·have e := a9b (hi.trans h)
   exact ⟨by omega, by omega, fun _ _ => ⟨i + 1, e, by omega, e.symm, by omega, by omega⟩⟩
 ·have : i = l.length := by omega
  subst this
  exact ⟨rfl, rfl⟩
def b2s : Con := .fn 18 (List Int × Int) (fun a => [.sl true 1 (a0g a.1), .int .i64 a.2]) (fun _ => True) (fun a => .bool (decide (a.2 ∈ a.1))) (fun _ => [])
theorem b4I : Has Tryz.prog 176 b2s := by
 refine a0d mixed a0H HasL.nil [0, 1, 4, 5] ((fun a n (_ : Nat) => (fun a _ => ⟨Nat, fun i => ⟨[(0, true, .sl true 1 (a0g a.1)), (1, true, .int .i64 a.2), (4, true, .bool false), (5, true, .int .i64 i)], []⟩, fun i => i <= a.1.length /\ ∀ x, x ∈ a.1.take i -> x ≠ a.2, fun i => a.1.length - i⟩) a n)) [] Tryz.func176 (by unfold Tryz.f176; rfl) (fun _ => ⟨(), trivial⟩) ?_
 intro a _
 obtain ⟨l, n⟩ := a
 simp -implicitDefEqProofs [b2s, Con.fn, a0N, tTab]
 try dsimp only
 refine fun i hi hb _ => ⟨fun hlt => ?_, fun hge => ?_⟩
 ·simp -implicitDefEqProofs [hlt, eInt, D.asInt, and_assoc]
  refine ⟨fun h => by rw [<- h]; exact List.getElem_mem hlt, fun h => ⟨by omega, by omega, fun _ _ => ⟨i + 1, by omega, by omega, fun x hx => ?_, by omega⟩⟩⟩
  rw [a0p hlt] at hx
  rcases List.mem_append.1 hx with h1 | h1
  ·exact hb x h1
  ·simp only [List.mem_singleton] at h1
   subst h1; exact h
 ·rw [List.take_of_length_le hge] at hb
  exact fun h => hb n h rfl
def putT (l : List Bool) (ps : List Int) : List Bool := ps.foldl (fun l p => l.set p.toNat true) l
theorem c7N (ps : List Int) : ∀ l : List Bool, (putT l ps).length = l.length := by
 induction ps with
 | nil => intro l; rfl
 | cons p r ih => intro l; show (putT (l.set p.toNat true) r).length = _; rw [ih]; simp
def a6B (r : RepoD) (l : List Bool) (i : Nat) : List Bool := if isT l i then putT l (r.commits.getD i default).parents else l
def ancF (r : RepoD) : Nat -> List Bool -> List Bool
 | 0, l => l
 | n + 1, l => ancF r n (a6B r l n)
def anc (r : RepoD) (a : Int) : List Bool := ancF r (a + 1).toNat ((List.replicate r.commits.length false).set a.toNat true)
theorem b5V (r : RepoD) : ∀ (n : Nat) (l : List Bool), (ancF r n l).length = l.length
 | 0, _ => rfl
 | n + 1, l => by
  show (ancF r n (a6B r l n)).length = _
  rw [b5V r n]
  unfold a6B
  split
  ·rw [c7N]
  ·rfl
theorem a2r (r : RepoD) (a : Int) : (anc r a).length = r.commits.length := by unfold anc; rw [b5V]; simp
def anO (r : RepoD) (a : Int) : Inv := ⟨List Bool × Int, fun t => ⟨[(2, true, .ptr 10 0), (4, true, .nil), (5, true, .own 9 1 (a0I t.1)), (6, true, .int .i64 t.2)], [(10, a2H r), (9, .own 4 1 true (a0I t.1))]⟩, fun t => t.1.length = r.commits.length /\ -1 <= t.2 /\ t.2 < r.commits.length /\ ancF r (t.2 + 1).toNat t.1 = anc r a, fun t => (t.2 + 1).toNat⟩
def anI (r : RepoD) (a : Int) (g : Nat) : Inv := ⟨List Bool × Nat, fun t => ⟨[(2, true, .ptr 10 0), (4, true, .nil), (5, true, .own 9 1 (a0I t.1)), (6, true, .int .i64 g), (30, true, .sl true 1 (a0g (r.commits.getD g default).parents)), (31, true, .int .i64 (r.commits.getD g default).parents.length), (32, true, .int .i64 t.2)], [(10, a2H r), (9, .own 4 1 true (a0I t.1))]⟩, fun t => t.1.length = r.commits.length /\ g < r.commits.length /\ t.2 <= (r.commits.getD g default).parents.length /\ ancF r g (putT t.1 ((r.commits.getD g default).parents.drop t.2)) = anc r a, fun t => (r.commits.getD g default).parents.length - t.2⟩
def b9Y (r : RepoD) (a : Int) (n g : Nat) : Inv := if n = 4 then anO r a else anI r a g
theorem c8R (r : RepoD) (a : Int) (g : Nat) : b9Y r a 4 g = anO r a := rfl
theorem c8S (r : RepoD) (a : Int) (g : Nat) : b9Y r a 8 g = anI r a g := rfl
def a6m : Con := .fn 41 (RepoD × Int) (fun a => [a1g a.1, .int .i64 a.2]) (fun a => a0E a.1 = true /\ 0 <= a.2 /\ a.2 < a.1.commits.length) (fun a => .own 8 1 (a0I (anc a.1 a.2))) (fun a => b7s 8 (anc a.1 a.2))
theorem a9p : Has Tryz.prog 130 a6m := by
 refine a0d mixed a0H HasL.nil [0, 1, 2, 4, 5, 6, 8, 30, 31, 32] (fun a => b9Y a.1 a.2) [] Tryz.func130 (by unfold Tryz.f130; rfl) (fun _ => ⟨(), trivial⟩) ?_
 intro a ha
 obtain ⟨r, n⟩ := a
 obtain ⟨h1, h2, h3⟩ : a0E r = true /\ 0 <= n /\ n < r.commits.length := ha
 have h4 := a3C h1
 simp -implicitDefEqProofs [a6m, Con.fn, a0N, tTab, c8R, c8S, anO, anI, a0J]
 try dsimp only
 refine fun _ => ⟨by omega, fun _ => ⟨⟨h2, h3⟩, fun _ _ => ⟨by omega, ⟨(List.replicate r.commits.length false).set n.toNat true, n, ⟨⟨by rw [a3k]; exact (a1B _ _ _).symm, rfl⟩, by rw [a3k]; exact a1B _ _ _⟩, by simp, by omega, h3, rfl⟩, fun l b g1 g2 g3 g4 => ⟨fun hb => ⟨⟨hb, by omega⟩, fun _ _ => ?_⟩, fun hb => ?_⟩⟩⟩⟩
 ·have hb1 : b.toNat < l.length := by omega
  have hb2 : b.toNat < r.commits.length := by omega
  obtain ⟨p1, p2, _⟩ := a2t h1 hb2
  have hT : isT l b.toNat = l[b.toNat] := by simp -implicitDefEqProofs [isT, List.getD_eq_getElem?_getD, hb1]
  have hbb : (b + 1).toNat = b.toNat + 1 := by omega
  have hgd : r.commits.getD b.toNat default = r.commits[b.toNat] := by simp -implicitDefEqProofs [List.getD_eq_getElem?_getD, hb2]
  rw [hbb] at g4
  have g5 : ancF r b.toNat (a6B r l b.toNat) = anc r n := g4
  unfold a6B at g5
  rw [hT, hgd] at g5
  have e3 : Option.map a0K r.commits[b.toNat]? = some (a0K r.commits[b.toNat]) := by simp -implicitDefEqProofs [hb2]
  have hgo : r.commits[b.toNat]?.getD default = r.commits[b.toNat] := by simp -implicitDefEqProofs [hb2]
  simp -implicitDefEqProofs [hb1, a1F, D.asBool, e3, a0K, D.asRows, hb, show b < r.commits.length by omega]
  refine ⟨fun h _ => ⟨b.toNat, ?_⟩, fun h => ⟨⟨by omega, by omega⟩, fun _ _ => ⟨l, b - 1, ⟨⟨rfl, rfl⟩, rfl⟩, ⟨g1, by omega, by omega, ?_⟩, by omega⟩⟩⟩
  ·rw [if_pos h] at g5
   rw [hgo]
   generalize r.commits[b.toNat] = c at *
   refine ⟨⟨l, 0, ⟨⟨rfl, by omega, rfl, rfl, rfl⟩, rfl⟩, g1, hb2, Nat.zero_le _, g5⟩, fun m k m1 m2 m3 m4 => ⟨fun hlt => ⟨hlt, fun _ => ?_⟩, fun hge => ⟨⟨by omega, by omega⟩, fun _ _ => ⟨m, b - 1, ⟨⟨rfl, by omega⟩, rfl⟩, ⟨m1, by omega, by omega, ?_⟩, by omega⟩⟩⟩⟩
   ·have hp := p2 c.parents[k] (List.getElem_mem hlt)
    have qt : Option.map eInt c.parents[k]? = some (eInt c.parents[k]) := by simp -implicitDefEqProofs [List.getElem?_eq_getElem hlt]
    simp -implicitDefEqProofs [qt, eInt, D.asInt]
    refine ⟨⟨hp.1, by omega⟩, fun _ _ => ⟨by omega, ⟨by omega, by omega⟩, fun _ _ => ⟨m.set c.parents[k].toNat true, k + 1, ⟨⟨(a1B _ _ _).symm, by omega⟩, a1B _ _ _⟩, ⟨by simp -implicitDefEqProofs [m1], m2, by omega, ?_⟩, by omega⟩⟩⟩
    rw [List.drop_eq_getElem_cons hlt] at m4
    exact m4
   ·rw [List.drop_eq_nil_of_le hge] at m4
    rw [show (b - 1 + 1).toNat = b.toNat by omega]
    exact m4
  ·rw [if_neg (by rw [h]; simp)] at g5
   rw [show (b - 1 + 1).toNat = b.toNat by omega]
   exact g5
 ·have hbb : (b + 1).toNat = 0 := by omega
  rw [hbb] at g4
  have g5 : l = anc r n := g4
  exact ⟨g5.symm, g5⟩
--TAB a0N
--TAB a0N
theorem b2F {l : List Bool} {p g : Nat} (b : Bool) (h : p ≠ g) : isT (l.set p b) g = isT l g := by
 unfold isT
 rw [List.getD_eq_getElem?_getD, List.getD_eq_getElem?_getD, List.getElem?_set_ne h]
def alO (r : RepoD) (a : Int) : Inv := ⟨List Bool × Int, fun t => ⟨[(2, true, .ptr 10 0), (4, true, .nil), (5, true, .own 9 1 (a0I t.1)), (6, true, .int .i64 t.2)], [(10, a2H r), (9, .own 4 1 true (a0I t.1))]⟩, fun t => t.1.length = r.commits.length /\ -1 <= t.2 /\ t.2 < r.commits.length /\ ancF r (t.2 + 1).toNat t.1 = anc r a, fun t => (t.2 + 1).toNat⟩
def alI (r : RepoD) (a : Int) (g : Nat) : Inv := ⟨List Bool × Nat, fun t => ⟨[(2, true, .ptr 10 0), (4, true, .nil), (5, true, .own 9 1 (a0I t.1)), (6, true, .int .i64 g), (7, true, .int .i64 t.2)], [(10, a2H r), (9, .own 4 1 true (a0I t.1))]⟩, fun t => t.1.length = r.commits.length /\ g < r.commits.length /\ t.2 <= (r.commits.getD g default).parents.length /\ (isT t.1 g = true -> ancF r g (putT t.1 ((r.commits.getD g default).parents.drop t.2)) = anc r a) /\ (isT t.1 g = false -> ancF r g t.1 = anc r a), fun t => (r.commits.getD g default).parents.length - t.2⟩
def alT (r : RepoD) (a : Int) : Inv := ⟨Nat, fun i => ⟨[(2, true, .ptr 10 0), (4, true, .nil), (5, true, .own 9 1 (a0I (anc r a))), (8, true, .own 11 1 (a0g (a3u (anc r a) i))), (9, true, .int .i64 i)], [(10, a2H r), (9, .own 4 1 true (a0I (anc r a))), (11, .own 3 1 true (a0g (a3u (anc r a) i)))]⟩, fun i => i <= r.commits.length, fun i => r.commits.length - i⟩
def b2f (r : RepoD) (a : Int) (n g : Nat) : Inv := if n = 4 then alO r a else if n = 7 then alI r a g else alT r a
theorem b9i (r : RepoD) (a : Int) (g : Nat) : b2f r a 4 g = alO r a := rfl
theorem b9j (r : RepoD) (a : Int) (g : Nat) : b2f r a 7 g = alI r a g := rfl
theorem b5S (r : RepoD) (a : Int) (g : Nat) : b2f r a 12 g = alT r a := rfl
def b6p : Con := .fn 66 (RepoD × Int) (fun a => [a1g a.1, .int .i64 a.2]) (fun a => a0E a.1 = true /\ 0 <= a.2 /\ a.2 < a.1.commits.length) (fun a => .own 8 1 (a0g (a0u (anc a.1 a.2)))) (fun a => a5K 8 (a0u (anc a.1 a.2)))
theorem c4l : Has Tryz.prog 177 b6p := by
 refine a0d mixed a0H HasL.nil [0, 1, 2, 4, 5, 6, 7, 8, 9] (fun a => b2f a.1 a.2) [] Tryz.func177 (by unfold Tryz.f177; rfl) (fun _ => ⟨(), trivial⟩) ?_
 intro a ha
 obtain ⟨r, n⟩ := a
 obtain ⟨h1, h2, h3⟩ : a0E r = true /\ 0 <= n /\ n < r.commits.length := ha
 have h4 := a3C h1
 simp -implicitDefEqProofs [b6p, Con.fn, a0N, tTab, b9i, b9j, b5S, alO, alI, alT, a0J]
 try dsimp only
 simp only [and_assoc, exists_eq_left, exists_and_left, RepoD.ex1, RepoD.eta]
 have hal := a2r r n
 refine fun _ => ⟨by omega, fun _ => ⟨h2, h3, fun _ _ => ⟨by omega, ⟨(List.replicate r.commits.length false).set n.toNat true, by rw [a3k]; exact (a1B _ _ _).symm, by rw [a3k]; exact a1B _ _ _, by simp, by omega, h3, rfl⟩, fun l b g1 g2 g3 g4 => ⟨fun hb => ⟨b.toNat, ?_⟩, fun hb => ?_⟩⟩⟩⟩
 ·have hb1 : b.toNat < l.length := by omega
  have hb2 : b.toNat < r.commits.length := by omega
  obtain ⟨p1, p2, _⟩ := a2t h1 hb2
  have hgd : r.commits.getD b.toNat default = r.commits[b.toNat] := by simp -implicitDefEqProofs [List.getD_eq_getElem?_getD, hb2]
  have hgo : r.commits[b.toNat]?.getD default = r.commits[b.toNat] := by simp -implicitDefEqProofs [hb2]
  rw [show (b + 1).toNat = b.toNat + 1 by omega] at g4
  have g5 : ancF r b.toNat (a6B r l b.toNat) = anc r n := g4
  unfold a6B at g5
  rw [hgd] at g5
  have e3 : Option.map a0K r.commits[b.toNat]? = some (a0K r.commits[b.toNat]) := by simp -implicitDefEqProofs [hb2]
  rw [hgo, e3]
  generalize r.commits[b.toNat] = c at *
  refine ⟨by omega, trivial, g1, hb2, Nat.zero_le _, fun h => ?_, fun h => ?_, fun m k m1 m2 m3 m4 m5 => ⟨hb2, fun _ => ?_⟩⟩
  ·rw [if_pos h] at g5; exact g5
  ·rw [if_neg (by rw [h]; simp)] at g5; exact g5
  ·have hbm : b.toNat < m.length := by omega
   have hT : isT m b.toNat = m[b.toNat] := by simp -implicitDefEqProofs [isT, List.getD_eq_getElem?_getD, hbm]
   have e4 : Option.map a1F m[b.toNat]? = some (a1F m[b.toNat]) := by simp -implicitDefEqProofs [hbm]
   have hmx : max b 0 = b := Int.max_eq_left hb
   simp -implicitDefEqProofs [a0K, D.asRows, e4, a1F, hbm, hb2, hmx]
   refine fun _ => ⟨fun hl2 => ⟨fun hm => ⟨hl2, fun _ => ?_⟩, fun hm => ⟨by omega, by omega, fun _ _ => ⟨m1, by omega, by omega, m5 (hT.trans hm), by omega⟩⟩⟩, fun hge => ⟨by omega, by omega, fun _ _ => ⟨m1, by omega, by omega, ?_, by omega⟩⟩⟩
   ·have hp := p2 c.parents[k] (List.getElem_mem hl2)
    have qt : Option.map eInt c.parents[k]? = some (eInt c.parents[k]) := by simp -implicitDefEqProofs [List.getElem?_eq_getElem hl2]
    simp -implicitDefEqProofs [qt, eInt, D.asInt]
    have hst : isT (m.set c.parents[k].toNat true) b.toNat = true := by rw [b2F _ (by omega)]; exact hT.trans hm
    refine ⟨hp.1, by omega, fun _ _ => ⟨by omega, by omega, by omega, fun _ _ => ⟨m.set c.parents[k].toNat true, (a1B _ _ _).symm, k + 1, by omega, a1B _ _ _, by simp -implicitDefEqProofs [m1], by omega, fun _ => ?_, fun h => ?_, by omega⟩⟩⟩
    ·have := m4 (hT.trans hm)
     rw [List.drop_eq_getElem_cons hl2] at this
     exact this
    ·rw [hst] at h; cases h
   ·cases hm : m[b.toNat] with
    | true =>
     have := m4 (hT.trans hm)
     rw [List.drop_eq_nil_of_le hge] at this
     exact this
    | false => exact m5 (hT.trans hm)
 ·rw [show (b + 1).toNat = 0 by omega] at g4
  have g5 : l = anc r n := g4
  refine ⟨g5.symm, ⟨0, rfl, rfl, g5, rfl, Nat.zero_le _⟩, fun i hi _ => ⟨fun hlt => ?_, fun hge => ?_⟩⟩
  ·have hl := a6a (anc r n) i
   have hi : isT (anc r n) i = (anc r n)[i] := by simp -implicitDefEqProofs [isT, List.getD_eq_getElem?_getD, hlt]
   rw [hal] at hlt
   simp -implicitDefEqProofs [hal, hlt, a1F, D.asBool, and_assoc]
   refine ⟨fun h => ?_, fun h => ?_⟩
   ·have e := b0e (hi.trans h)
    exact ⟨by omega, by omega, by omega, by omega, fun _ _ => ⟨i + 1, by rw [e]; simp -implicitDefEqProofs [a0g, eInt], by omega, by rw [e]; simp -implicitDefEqProofs [a0g, eInt], by omega, by omega⟩⟩
   ·have e := a9b (hi.trans h)
    exact ⟨by omega, by omega, fun _ _ => ⟨i + 1, e, by omega, e.symm, by omega, by omega⟩⟩
  ·rw [hal] at hge
   have : i = r.commits.length := by omega
   subst this
   unfold a0u
   rw [hal]
   exact ⟨rfl, rfl⟩
def cmSz (c : CommitD) : Prop := c.parents.length <= 1048576 /\ c.tree.length <= 1048576 /\ ∀ g ∈ c.tree, g.text.length <= 1048576
def rpSz (r : RepoD) : Prop := r.commits.length <= 1048576 /\ (∀ c ∈ r.commits, cmSz c) /\ r.heads.length <= 1048576
theorem c8C (p : List Int) : ∀ x ∈ a0g p, ∀ d ∈ x, match d with | .sl _ _ _ => False | _ => True := by
 intro x hx d hd
 simp only [a0g, List.mem_map] at hx
 obtain ⟨i, _, rfl⟩ := hx
 simp only [eInt, List.mem_singleton] at hd
 subst hd; trivial
theorem c8B (p : List HeadD) : ∀ x ∈ a0c p, ∀ d ∈ x, match d with | .sl _ _ _ => False | _ => True := by
 intro x hx d hd
 simp only [a0c, List.mem_map] at hx
 obtain ⟨i, _, rfl⟩ := hx
 simp only [a1d, List.mem_cons, List.not_mem_nil, or_false] at hd
 rcases hd with rfl | rfl <;> trivial
def a6g : Con := .fn 13 CommitD (fun f => [.agg [.sl true 1 (a0g f.parents), .str f.who, .sl true 2 (a0a f.tree)]]) (fun f => cmSz f) (fun f => .agg [.own 8 1 (a0g f.parents), .str f.who, .own 9 2 (a0a f.tree)]) (fun f => a5K 8 f.parents ++ a2s 9 f.tree)
theorem b1R : Has Tryz.prog 175 a6g := by
 refine a0d mixed a0f (HasL.cons a4t HasL.nil) [0, 1, 2] ((fun a n (_ : Nat) => (fun _ => a0F) a n)) [] Tryz.func175 (by unfold Tryz.f175; rfl) (fun _ => ⟨(), trivial⟩) ?_
 intro f hf
 obtain ⟨p, x, t⟩ := f
 obtain ⟨h1, h2, h3⟩ : p.length <= 1048576 /\ t.length <= 1048576 /\ ∀ g ∈ t, g.text.length <= 1048576 := hf
 simp -implicitDefEqProofs [a6g, a4R, Con.fn, tTab]
 try dsimp only
 exact ⟨c8C p, by omega, h2, h3⟩
abbrev b0C : Blk := .box 27 [.nil, .nil]
def l7cO (r : RepoD) : Inv := ⟨Nat, fun i => ⟨[(1, true, .ptr 12 0), (2, true, .ptr 10 0), (3, true, .ptr 11 0), (4, true, .int .i64 i)], [(12, a2H r), (10, b0C), (11, .box 27 [.own 13 3 (a0e (r.commits.take i)), .own 14 2 (a0c r.heads)]), (13, .own 87 3 true (a0e (r.commits.take i))), (14, .own 89 2 true (a0c r.heads))]⟩, fun i => i <= r.commits.length, fun i => r.commits.length - i⟩
def a5E : Con := .fn 29 RepoD (fun r => [a1g r]) rpSz (fun r => .agg [.own 8 3 (a0e r.commits), .own 9 2 (a0c r.heads)]) (fun r => a2y 8 r.commits ++ a2N 9 r.heads)
theorem a5q : Has Tryz.prog 145 a5E := by
 refine a0d mixed a0f (HasL.cons b1R HasL.nil) [0, 1, 2, 3, 4] ((fun a n (_ : Nat) => (fun r _ => l7cO r) a n)) [25, 26] Tryz.func145 (by unfold Tryz.f145; rfl) (fun _ => ⟨(), trivial⟩) ?_
 intro (r : RepoD) hr
 obtain ⟨h1, h2, h3⟩ : r.commits.length <= 1048576 /\ (∀ c ∈ r.commits, cmSz c) /\ r.heads.length <= 1048576 := hr
 simp -implicitDefEqProofs [a5E, a6g, Con.fn, tTab, l7cO, a0J]
 try dsimp only
 refine ⟨c8B r.heads, by omega, ⟨0, ⟨rfl, .inl rfl⟩, Nat.zero_le _⟩, fun i hi _ => ⟨fun hlt => ?_, fun hge => ?_⟩⟩
 ·have e : r.commits.take (i + 1) = r.commits.take i ++ [r.commits[i]] := a0p hlt
  have hc := h2 _ (List.getElem_mem hlt)
  simp -implicitDefEqProofs [hlt, a0K, D.asStr, D.asRows, and_assoc]
  refine ⟨hc, by omega, by omega, by omega, by omega, fun _ _ => ⟨i + 1, by omega, ?_, ?_, by omega, by omega⟩⟩
  ·rw [e, a1U]
  ·rw [e, a1U]
 ·rw [List.take_of_length_le hge]; exact ⟨rfl, rfl⟩
def a1J (n : Str) (a : Int) (acc : List HeadD × Bool) (g : HeadD) : List HeadD × Bool :=
 if acc.2 = false /\ Go.Op.bytesLess g.name n = false then (if g.name = n then (acc.1 ++ [⟨n, a⟩], true) else (acc.1 ++ [⟨n, a⟩] ++ [g], true))
 else (if g.name = n then acc else (acc.1 ++ [g], acc.2))
def hL (n : Str) (a : Int) (l : List HeadD) : List HeadD × Bool := l.foldl (a1J n a) ([], false)
def hSet (l : List HeadD) (n : Str) (a : Int) : List HeadD := if (hL n a l).2 then (hL n a l).1 else (hL n a l).1 ++ [⟨n, a⟩]
theorem c9p {n : Str} {a : Int} {t : List HeadD} {i : Nat} (h : i < t.length) : hL n a (t.take (i + 1)) = a1J n a (hL n a (t.take i)) t[i] := by
 unfold hL
 rw [a0p h, List.foldl_append]; rfl
theorem c3u (n : Str) (a : Int) (acc : List HeadD × Bool) (g : HeadD) : (a1J n a acc g).1.length + acc.2.toNat <= acc.1.length + (a1J n a acc g).2.toNat + 1 := by
 unfold a1J
 split
 ·rename_i h
  rw [h.1]
  split <;> simp <;> omega
 ·split <;> simp <;> omega
theorem d0T (n : Str) (a : Int) (t : List HeadD) : (hL n a t).1.length <= t.length + (hL n a t).2.toNat := by
 have : ∀ (t : List HeadD) (acc : List HeadD × Bool), (t.foldl (a1J n a) acc).1.length + acc.2.toNat <= acc.1.length + t.length + (t.foldl (a1J n a) acc).2.toNat := by
  intro t
  induction t with
  | nil => intro acc; simp
  | cons g r ih =>
   intro acc
   have h1 := ih (a1J n a acc g)
   have h2 := c3u n a acc g
   simp only [List.foldl_cons, List.length_cons]
   omega
 have := this t ([], false)
 simpa [hL] using this
def l7hO (r : RepoD) (n : Str) (a : Int) : Inv := ⟨Nat, fun i => ⟨[(1, true, .str n), (2, true, .int .i64 a), (3, true, .ptr 12 0), (6, true, .ptr 10 0), (7, true, .ptr 11 0), (8, true, .bool (hL n a (r.heads.take i)).2), (9, true, .int .i64 i)], [(12, a2H r), (10, b0C), (11, .box 27 [.sl true 3 (a0e r.commits), .own 14 2 (a0c (hL n a (r.heads.take i)).1)]), (14, .own 89 2 true (a0c (hL n a (r.heads.take i)).1))]⟩, fun i => i <= r.heads.length, fun i => r.heads.length - i⟩
def a7P : Con := .fn 69 (RepoD × Str × Int) (fun a => [a1g a.1, .str a.2.1, .int .i64 a.2.2]) (fun a => a.1.heads.length <= 1048576) (fun a => .agg [.sl true 3 (a0e a.1.commits), .own 9 2 (a0c (hSet a.1.heads a.2.1 a.2.2))]) (fun a => a2N 9 (hSet a.1.heads a.2.1 a.2.2))
theorem a8X : Has Tryz.prog 144 a7P := by
 refine a0d mixed a0f HasL.nil [0, 1, 2, 3, 6, 7, 8, 9] ((fun a n (_ : Nat) => (fun a _ => l7hO a.1 a.2.1 a.2.2) a n)) [] Tryz.func144 (by unfold Tryz.f144; rfl) (fun _ => ⟨(), trivial⟩) ?_
 intro a ha
 obtain ⟨r, n, a⟩ := a
 replace ha : r.heads.length <= 1048576 := ha
 have a0 : hL n a [] = ([], false) := rfl
 have a7 : ∀ i, (hL n a (r.heads.take i)).1.length <= 1048577 := fun i => by
  have h1 := d0T n a (r.heads.take i)
  have h2 := Bool.toNat_le (hL n a (r.heads.take i)).2
  have h3 : (r.heads.take i).length <= r.heads.length := by simp; omega
  omega
 simp -implicitDefEqProofs [a7P, Con.fn, tTab, l7hO, a0J]
 try dsimp only
 have b1 : ∀ (X : List HeadD) (g : HeadD), a0c X ++ [[D.str n, D.int .i64 a], [D.str g.name, D.int .i64 g.at_]] = a0c (X ++ [⟨n, a⟩] ++ [g]) := fun X g => by simp -implicitDefEqProofs [a0c, a1d]
 have b2 : ∀ (X : List HeadD) (g : HeadD), a0c X ++ [[D.str g.name, D.int .i64 g.at_]] = a0c (X ++ [g]) := fun X g => by simp -implicitDefEqProofs [a0c, a1d]
 have b3 : ∀ (X : List HeadD), a0c X ++ [[D.str n, D.int .i64 a]] = a0c (X ++ [⟨n, a⟩]) := fun X => by simp -implicitDefEqProofs [a0c, a1d]
 refine ⟨⟨0, by simp -implicitDefEqProofs [a0]⟩, fun i hi _ => ⟨fun hlt => ?_, fun hge => ?_⟩⟩
 ·have g := c9p (n := n) (a := a) hlt
  have gl := a7 i
  generalize hX : hL n a (r.heads.take i) = X at g gl ⊢
  obtain ⟨X, q⟩ := X
  simp -implicitDefEqProofs [hlt, a1d, D.asStr, D.asInt, and_assoc]
  rw [b1, b2, b3]
  have gl : X.length <= 1048577 := gl
  have fin : ∀ (Y : List HeadD) (b : Bool), hL n a (r.heads.take (i + 1)) = (Y, b) -> ∀ c, b = c -> ∃ t', (hL n a (r.heads.take t')).2 = c /\ (t' : Int) = i + 1 /\ a0c (hL n a (r.heads.take t')).1 = a0c Y /\ a0c Y = a0c (hL n a (r.heads.take t')).1 /\ t' <= r.heads.length /\ r.heads.length - t' < r.heads.length - i := fun Y b h c hc => ⟨i + 1, by rw [h]; exact hc, by omega, by rw [h], by rw [h], by omega, by omega⟩
  have fin2 : ∀ (Y : List HeadD) (b : Bool), hL n a (r.heads.take (i + 1)) = (Y, b) -> ∀ c, b = c -> ∃ t', (hL n a (r.heads.take t')).2 = c /\ (t' : Int) = i + 1 /\ (hL n a (r.heads.take t')).1 = Y /\ Y = (hL n a (r.heads.take t')).1 /\ t' <= r.heads.length /\ r.heads.length - t' < r.heads.length - i := fun Y b h c hc => ⟨i + 1, by rw [h]; exact hc, by omega, by rw [h], by rw [h], by omega, by omega⟩
  refine ⟨fun hq => ⟨fun h => ⟨by omega, by omega, by omega, by omega, fun _ _ => fin _ q ?_ _ rfl⟩, fun h => ⟨by omega, by omega, fun _ _ => fin2 _ q ?_ _ rfl⟩⟩,
   fun hq => ⟨fun hb => ⟨by omega, by omega, fun h => ⟨by omega, by omega, by omega, by omega, fun _ _ => fin _ true ?_ _ rfl⟩, fun h => ⟨by omega, by omega, fun _ _ => fin _ true ?_ _ rfl⟩⟩,
    fun hb => ⟨fun h => ⟨by omega, by omega, by omega, by omega, fun _ _ => fin _ q ?_ _ rfl⟩, fun h => ⟨by omega, by omega, fun _ _ => fin2 _ q ?_ _ rfl⟩⟩⟩⟩
  all_goals rw [g]; unfold a1J
  ·rw [if_neg (by simp -implicitDefEqProofs [hq]), if_neg h]
  ·rw [if_neg (by simp -implicitDefEqProofs [hq]), if_pos h]
  ·rw [if_pos ⟨hq, hb⟩, if_neg h]
  ·rw [if_pos ⟨hq, hb⟩, if_pos h]
  ·rw [if_neg (by simp -implicitDefEqProofs [hb]), if_neg h]
  ·rw [if_neg (by simp -implicitDefEqProofs [hb]), if_pos h]
 ·rw [List.take_of_length_le hge]
  have gl := a7 r.heads.length
  rw [List.take_length] at gl
  rw [b3]
  refine ⟨fun h => ?_, fun h => ⟨by omega, ?_⟩⟩
  ·unfold hSet; rw [if_pos h]; exact ⟨rfl, rfl⟩
  ·unfold hSet; rw [if_neg (by simp -implicitDefEqProofs [h])]; exact ⟨rfl, rfl⟩
def addR (r : RepoD) (n : Str) (c : CommitD) : RepoD := ⟨r.commits ++ [c], hSet r.heads n r.commits.length⟩
def a9J : Con := .fn 24 (RepoD × Str × CommitD) (fun a => [a1g a.1, .str a.2.1, .agg [.sl true 1 (a0g a.2.2.parents), .str a.2.2.who, .sl true 2 (a0a a.2.2.tree)]]) (fun a => a.1.commits.length <= 1048576 /\ a.1.heads.length <= 1048576) (fun a => .agg [.sl false 3 (a0e (addR a.1 a.2.1 a.2.2).commits), .sl false 2 (a0c (addR a.1 a.2.1 a.2.2).heads)]) (fun _ => [])
theorem b0d : Has Tryz.prog 174 a9J := by
 refine a0d mixed a0f (HasL.cons a8X HasL.nil) [0, 1, 2, 3, 5, 6, 7] ((fun a n (_ : Nat) => (fun _ => a0F) a n)) [4109] Tryz.func174 (by unfold Tryz.f174; rfl) (fun _ => ⟨(), trivial⟩) ?_
 intro a ha
 obtain ⟨r, n, c⟩ := a
 obtain ⟨h1, h2⟩ : r.commits.length <= 1048576 /\ r.heads.length <= 1048576 := ha
 simp -implicitDefEqProofs [a9J, a7P, Con.fn, tTab, a0J]
 try dsimp only
 exact ⟨by omega, by omega, fun _ => ⟨⟨r.commits ++ [c], r.heads⟩, n, r.commits.length, ⟨⟨by simp -implicitDefEqProofs [a0e, a0K], rfl⟩, rfl, rfl⟩, h2, rfl, rfl⟩⟩
def a0R (r : RepoD) (n : Str) (a : Int) : RepoD × Bool := if a0v r then (if 0 <= atL r.heads n \/ a0v ⟨r.commits, hSet r.heads n a⟩ = false then (r, false) else (⟨r.commits, hSet r.heads n a⟩, true)) else (⟨[], []⟩, false)
def a7E : Con := .fn 30 (RepoD × Str × Int) (fun a => [a1g a.1, .str a.2.1, .int .i64 a.2.2]) (fun a => rpSz a.1) (fun a => .tup [.agg [.sl false 3 (a0e (a0R a.1 a.2.1 a.2.2).1.commits), .sl false 2 (a0c (a0R a.1 a.2.1 a.2.2).1.heads)], .bool (a0R a.1 a.2.1 a.2.2).2]) (fun _ => [])
theorem b4m : Has Tryz.prog 89 a7E := by
 refine a0d mixed a0f (HasL.cons a4N (HasL.cons a5q (HasL.cons a8X (HasL.cons a4i HasL.nil)))) [0, 1, 2, 3, 6, 7, 8] ((fun a n (_ : Nat) => (fun _ => a0F) a n)) [] Tryz.func89 (by unfold Tryz.f89; rfl) (fun _ => ⟨(), trivial⟩) ?_
 intro a ha
 obtain ⟨r, n, at_⟩ := a
 replace ha : rpSz r := ha
 have ha2 := ha
 obtain ⟨h1, h2, h3⟩ : r.commits.length <= 1048576 /\ (∀ c ∈ r.commits, cmSz c) /\ r.heads.length <= 1048576 := ha2
 simp -implicitDefEqProofs [a7E, a6q, a5E, a7P, a5Q, Con.fn, tTab, a0J]
 try dsimp only
 have e0 : a0v r = false -> a0R r n at_ = (⟨[], []⟩, false) := fun h => by unfold a0R; rw [if_neg (by simp -implicitDefEqProofs [h])]
 have e1 : a0v r = true -> (0 <= atL r.heads n \/ a0v ⟨r.commits, hSet r.heads n at_⟩ = false) -> a0R r n at_ = (r, false) := fun h h2 => by unfold a0R; rw [if_pos h, if_pos h2]
 have e2 : a0v r = true -> ¬ (0 <= atL r.heads n \/ a0v ⟨r.commits, hSet r.heads n at_⟩ = false) -> a0R r n at_ = (⟨r.commits, hSet r.heads n at_⟩, true) := fun h h2 => by unfold a0R; rw [if_pos h, if_neg h2]
 refine ⟨by omega, fun h => by rw [e0 h]; exact ⟨⟨rfl, rfl⟩, rfl⟩, fun h => ⟨ha, r, n, at_, ⟨⟨rfl, rfl⟩, rfl, rfl⟩, h3, r, n, ⟨⟨rfl, rfl⟩, rfl⟩, fun hq => ⟨ha, by rw [e1 h (.inl hq)]; exact ⟨⟨rfl, rfl⟩, rfl⟩⟩, fun hq => ⟨by omega, fun ho => ⟨ha, by rw [e1 h (.inr ho)]; exact ⟨⟨rfl, rfl⟩, rfl⟩⟩, fun ho => ?_⟩⟩⟩
 rw [e2 h (by rintro (q | q); omega; rw [ho] at q; cases q)]; exact ⟨⟨rfl, rfl⟩, rfl⟩
def comC (r : RepoD) (n who : Str) (t : List FileD) : CommitD := ⟨if 0 <= atL r.heads n then [atL r.heads n] else [], who, t⟩
def a0X (r : RepoD) (n who : Str) (t : List FileD) : RepoD × Bool := if a0v r then (if a0v (addR r n (comC r n who t)) then (addR r n (comC r n who t), true) else (r, false)) else (⟨[], []⟩, false)
def a7F : Con := .fn 40 (RepoD × Str × Str × List FileD) (fun a => [a1g a.1, .str a.2.1, .str a.2.2.1, .sl true 2 (a0a a.2.2.2)]) (fun a => rpSz a.1 /\ a.2.2.2.length <= 1048576 /\ ∀ f ∈ a.2.2.2, f.text.length <= 1048576) (fun a => .tup [.agg [.sl false 3 (a0e (a0X a.1 a.2.1 a.2.2.1 a.2.2.2).1.commits), .sl false 2 (a0c (a0X a.1 a.2.1 a.2.2.1 a.2.2.2).1.heads)], .bool (a0X a.1 a.2.1 a.2.2.1 a.2.2.2).2]) (fun _ => [])
theorem b4o : Has Tryz.prog 140 a7F := by
 refine a0d mixed a0f (HasL.cons a4N (HasL.cons a4t (HasL.cons a4i (HasL.cons a5q (HasL.cons b0d HasL.nil))))) [0, 1, 2, 3, 4, 8, 9, 10, 11] ((fun a n (_ : Nat) => (fun _ => a0F) a n)) [] Tryz.func140 (by unfold Tryz.f140; rfl) (fun _ => ⟨(), trivial⟩) ?_
 intro a ha
 obtain ⟨r, n, who, t⟩ := a
 obtain ⟨ha, h4, h5⟩ : rpSz r /\ t.length <= 1048576 /\ ∀ f ∈ t, f.text.length <= 1048576 := ha
 have ha2 := ha
 obtain ⟨h1, h2, h3⟩ : r.commits.length <= 1048576 /\ (∀ c ∈ r.commits, cmSz c) /\ r.heads.length <= 1048576 := ha2
 simp -implicitDefEqProofs [a7F, a6q, a5E, a9J, a5Q, a4R, Con.fn, tTab, a0J]
 try dsimp only
 have e0 : a0v r = false -> a0X r n who t = (⟨[], []⟩, false) := fun h => by unfold a0X; rw [if_neg (by simp -implicitDefEqProofs [h])]
 have e1 : a0v r = true -> a0v (addR r n (comC r n who t)) = false -> a0X r n who t = (r, false) := fun h h2 => by unfold a0X; rw [if_pos h, if_neg (by simp -implicitDefEqProofs [h2])]
 have e2 : a0v r = true -> a0v (addR r n (comC r n who t)) = true -> a0X r n who t = (addR r n (comC r n who t), true) := fun h h2 => by unfold a0X; rw [if_pos h, if_pos h2]
 have hl : ∀ c, (addR r n c).commits.length <= 1073741824 := fun c => by simp -implicitDefEqProofs [addR]; omega
 refine ⟨by omega, fun h => by rw [e0 h]; exact ⟨⟨rfl, rfl⟩, rfl⟩, fun h => ⟨⟨h4, h5⟩, r, n, ⟨⟨rfl, rfl⟩, rfl⟩, fun hq => ?_, fun hq => ?_⟩⟩
 ·have hc : comC r n who t = ⟨[atL r.heads n], who, t⟩ := by unfold comC; rw [if_pos hq]
  rw [hc] at e1 e2
  refine ⟨r, n, ⟨⟨rfl, rfl⟩, rfl⟩, ha, r, n, ⟨[atL r.heads n], who, t⟩, ⟨⟨rfl, rfl⟩, rfl, rfl, rfl, rfl⟩, ⟨h1, h3⟩, hl _, fun ho => ⟨ha, by rw [e1 h ho]; exact ⟨⟨rfl, rfl⟩, rfl⟩⟩, fun ho => by rw [e2 h ho]; exact ⟨⟨rfl, rfl⟩, rfl⟩⟩
 ·have hc : comC r n who t = ⟨[], who, t⟩ := by unfold comC; rw [if_neg (by omega)]
  rw [hc] at e1 e2
  refine ⟨ha, r, n, ⟨[], who, t⟩, ⟨⟨rfl, rfl⟩, rfl, rfl, rfl, rfl⟩, ⟨h1, h3⟩, hl _, fun ho => ⟨ha, by rw [e1 h ho]; exact ⟨⟨rfl, rfl⟩, rfl⟩⟩, fun ho => by rw [e2 h ho]; exact ⟨⟨rfl, rfl⟩, rfl⟩⟩
def a2c (t : List FileD) (p : Str) : List FileD × Bool := if a0S t then (filB (a1j p) t, decide ((filB (a1j p) t).length < t.length)) else ([], false)
def a8H : Con := .fn 20 (List FileD × Str) (fun a => [.sl true 2 (a0a a.1), .str a.2]) (fun a => a.1.length <= 1048576 /\ ∀ f ∈ a.1, f.text.length <= 1048576) (fun a => .tup [.sl false 2 (a0a (a2c a.1 a.2).1), .bool (a2c a.1 a.2).2]) (fun _ => [])
theorem b5w : Has Tryz.prog 87 a8H := by
 refine a0d mixed a0f (HasL.cons a7d (HasL.cons a4t (HasL.cons b2S HasL.nil))) [0, 1, 4, 5, 6] ((fun a n (_ : Nat) => (fun _ => a0F) a n)) [] Tryz.func87 (by unfold Tryz.f87; rfl) (fun _ => ⟨(), trivial⟩) ?_
 intro a ha
 obtain ⟨t, p⟩ := a
 obtain ⟨h1, h2⟩ : t.length <= 1048576 /\ ∀ f ∈ t, f.text.length <= 1048576 := ha
 simp -implicitDefEqProofs [a8H, a8z, a4R, b0I, Con.fn, tTab]
 try dsimp only
 refine ⟨fun h => by unfold a2c; rw [if_neg (by simp -implicitDefEqProofs [h])]; exact ⟨rfl, rfl⟩, fun h => ⟨⟨h1, h2⟩, t, p, ⟨rfl, rfl⟩, h1, fun _ _ => by unfold a2c; rw [if_pos h]; exact ⟨rfl, rfl⟩⟩⟩
def a6w (p : Str) (f : FileD) : Bool := decide (f.path = p) || inB p f.path
def a3P (p to : Str) (o : List FileD) (f : FileD) : List FileD := if a6w p f then setS o ⟨to ++ f.path.drop p.length, f.text⟩ else o
def mvFs (p to : Str) (o : List FileD) (t : List FileD) : List FileD := t.foldl (a3P p to) o
theorem c4F {p to : Str} {o t : List FileD} {i : Nat} (h : i < t.length) : mvFs p to o (t.take (i + 1)) = a3P p to (mvFs p to o (t.take i)) t[i] := by
 unfold mvFs
 rw [a0p h, List.foldl_append]; rfl
theorem c7h (p to : Str) (o t : List FileD) : (mvFs p to o t).length <= o.length + t.length := by
 unfold mvFs
 induction t generalizing o with
 | nil => simp
 | cons f t ih =>
  have h1 := ih (a3P p to o f)
  have h2 : (a3P p to o f).length <= o.length + 1 := by
   unfold a3P
   split
   ·exact c7X _ _
   ·omega
  simp only [List.foldl_cons, List.length_cons]
  omega
theorem c9r {p q : Str} (h : inB p q = true) : p.length < q.length := by
 unfold inB at h
 simp only [Bool.and_eq_true, decide_eq_true_eq] at h
 omega
def a1y (t : List FileD) (p to : Str) : List FileD × Bool :=
 if a0S t then
  (if (filB (a1j p) t).length = t.length \/ a3c to = false then (t, false)
  else if a0S (mvFs p to (filB (a1j p) t) t) = false \/ ¬ (mvFs p to (filB (a1j p) t) t).length = t.length then (t, false)
  else (mvFs p to (filB (a1j p) t) t, true))
 else ([], false)
def mvO (t : List FileD) (p to : Str) : Inv := ⟨Nat, fun i => ⟨[(0, true, .sl true 2 (a0a t)), (1, true, .str p), (2, true, .str to), (6, true, .nil), (7, true, .bool false), (8, true, .sl false 2 (a0a (mvFs p to (filB (a1j p) t) (t.take i)))), (9, true, .int .i64 t.length), (10, true, .int .i64 i)], []⟩, fun i => i <= t.length /\ a0S t = true, fun i => t.length - i⟩
def a8J : Con := .fn 84 (List FileD × Str × Str) (fun a => [.sl true 2 (a0a a.1), .str a.2.1, .str a.2.2]) (fun a => a.1.length <= 1048576 /\ (∀ f ∈ a.1, f.text.length <= 1048576) /\ a.2.2.length <= 1048576 /\ ∀ f ∈ a.1, f.path.length <= 1048576) (fun a => .tup [.sl false 2 (a0a (a1y a.1 a.2.1 a.2.2).1), .bool (a1y a.1 a.2.1 a.2.2).2]) (fun _ => [])
theorem b5y : Has Tryz.prog 88 a8J := by
 refine a0d mixed a0f (HasL.cons a7d (HasL.cons a4t (HasL.cons b2S (HasL.cons a8W (HasL.cons b1Q (HasL.cons b4H HasL.nil)))))) [0, 1, 2, 6, 7, 8, 9, 10] ((fun a n (_ : Nat) => (fun a _ => mvO a.1 a.2.1 a.2.2) a n)) [] Tryz.func88 (by unfold Tryz.f88; rfl) (fun _ => ⟨(), trivial⟩) ?_
 intro a ha
 obtain ⟨t, p, to⟩ := a
 obtain ⟨h1, h2, h3, h4⟩ : t.length <= 1048576 /\ (∀ f ∈ t, f.text.length <= 1048576) /\ to.length <= 1048576 /\ ∀ f ∈ t, f.path.length <= 1048576 := ha
 simp -implicitDefEqProofs [a8J, a8z, a4R, b0I, a7O, b2q, b2r, Con.fn, tTab, mvO]
 try dsimp only
 have e0 : a0S t = false -> a1y t p to = ([], false) := fun h => by unfold a1y; rw [if_neg (by simp -implicitDefEqProofs [h])]
 have e1 : a0S t = true -> ((filB (a1j p) t).length = t.length \/ a3c to = false) -> a1y t p to = (t, false) := fun h q => by unfold a1y; rw [if_pos h, if_pos q]
 have e2 : a0S t = true -> ¬ ((filB (a1j p) t).length = t.length \/ a3c to = false) -> (a0S (mvFs p to (filB (a1j p) t) t) = false \/ ¬ (mvFs p to (filB (a1j p) t) t).length = t.length) -> a1y t p to = (t, false) := fun h q w => by unfold a1y; rw [if_pos h, if_neg q, if_pos w]
 have e3 : a0S t = true -> ¬ ((filB (a1j p) t).length = t.length \/ a3c to = false) -> ¬ (a0S (mvFs p to (filB (a1j p) t) t) = false \/ ¬ (mvFs p to (filB (a1j p) t) t).length = t.length) -> a1y t p to = (mvFs p to (filB (a1j p) t) t, true) := fun h q w => by unfold a1y; rw [if_pos h, if_neg q, if_neg w]
 refine ⟨fun h => by rw [e0 h]; exact ⟨rfl, rfl⟩, fun h => ⟨⟨h1, h2⟩, t, p, ⟨rfl, rfl⟩, h1, fun _ _ => ⟨fun q => ⟨⟨h1, h2⟩, by rw [e1 h (.inl (by omega))]; exact ⟨rfl, rfl⟩⟩, fun q => ⟨fun w => ⟨⟨h1, h2⟩, by rw [e1 h (.inr w)]; exact ⟨rfl, rfl⟩⟩, fun w _ => ⟨⟨0, ⟨by simp -implicitDefEqProofs [mvFs], rfl⟩, Nat.zero_le _, h⟩, fun i hi _ _ => ⟨fun hlt => ?_, fun hge => ?_⟩⟩⟩⟩⟩⟩
 ·have g := c4F (p := p) (to := to) (o := filB (a1j p) t) hlt
  have h8 := (a5M t h).1
  have gl := c7h p to (filB (a1j p) t) (t.take i)
  have gf := List.length_filter_le (a1j p) t
  have gf : (filB (a1j p) t).length <= t.length := gf
  have gt : (t.take i).length <= t.length := by simp; omega
  have gp := h4 _ (List.getElem_mem hlt)
  have gx := h2 _ (List.getElem_mem hlt)
  have gi := @c9r p t[i].path
  clear e0 e1 e2 e3
  generalize mvFs p to (filB (a1j p) t) (t.take i) = X at g gl ⊢
  simp -implicitDefEqProofs [hlt, a0k, D.asStr, D.asRows, and_assoc]
  have gtk : List.take (List.length t[i].path - List.length p) (List.drop (List.length p) t[i].path) = t[i].path.drop p.length := List.take_of_length_le (by simp)
  rw [gtk]
  have hm : maxLen = 9223372036854775807 := rfl
  refine ⟨fun e => ⟨by rw [e]; omega, fun _ => ⟨by omega, fun _ => ⟨by omega, gx, by omega, by omega, fun _ _ => ⟨i + 1, ?_, by omega, by omega, h, by omega⟩⟩⟩⟩,
   fun e => ⟨fun c => ⟨by have := gi c; omega, fun _ => ⟨by omega, fun _ => ⟨by omega, gx, by omega, by omega, fun _ _ => ⟨i + 1, ?_, by omega, by omega, h, by omega⟩⟩⟩⟩, fun c => ⟨by omega, by omega, fun _ _ => ⟨i + 1, ?_, by omega, by omega, h, by omega⟩⟩⟩⟩
  ·rw [g]; unfold a3P; rw [if_pos (by simp -implicitDefEqProofs [a6w, e])]
  ·rw [g]; unfold a3P; rw [if_pos (by simp -implicitDefEqProofs [a6w, c])]
  ·rw [g]; unfold a3P; rw [if_neg (by simp -implicitDefEqProofs [a6w, c, e])]
 ·rw [List.take_of_length_le hge]
  have hn : ¬ ((filB (a1j p) t).length = t.length \/ a3c to = false) := by rintro (c | c); omega; rw [w] at c; cases c
  have e2 := e2 h hn
  have e3 := e3 h hn
  generalize mvFs p to (filB (a1j p) t) t = X at e2 e3 ⊢
  refine ⟨fun c => ⟨⟨h1, h2⟩, by rw [e2 (.inl c)]; exact ⟨rfl, rfl⟩⟩, fun c _ => ⟨fun d => ⟨⟨h1, h2⟩, by rw [e2 (.inr (by omega))]; exact ⟨rfl, rfl⟩⟩, fun d => ?_⟩⟩
  rw [e3 (by rintro (k | k); rw [c] at k; cases k; omega)]; exact ⟨rfl, rfl⟩
theorem a9a {a b c : Str} (h : Go.Op.bytesLess a b = true) (h' : Go.Op.bytesLess b c = true) : Go.Op.bytesLess a c = true := by
 rw [a2X, decide_eq_true_eq] at *
 exact List.lt_trans h h'
theorem a5R (a : Str) : Go.Op.bytesLess a a = false := by
 rw [a2X, decide_eq_false_iff_not]
 exact List.lt_irrefl a
theorem c5y {t : List FileD} (h : a0x t = true) : ∀ j i, (hij : i < j) -> (hj : j < t.length) -> Go.Op.bytesLess (t[i]'(by omega)).path t[j].path = true := by
 have hs : ∀ j, (h0 : 0 < j) -> (hj : j < t.length) -> Go.Op.bytesLess (t[j - 1]'(by omega)).path t[j].path = true := by
  intro j h0 hj
  simp only [a0x, Bool.and_eq_true, List.all_eq_true, List.mem_range] at h
  have h2 := (h.2 j hj).1
  simp only [a3a, Bool.and_eq_true, Bool.or_eq_true, decide_eq_true_eq] at h2
  rcases h2.2 with h3 | h3
  ·omega
  ·simpa [List.getD_eq_getElem?_getD, hj, (show j - 1 < t.length by omega)] using h3
 intro j
 induction j with
 | zero => intro i hi; omega
 | succ j ih =>
  intro i hi hj
  have h1 := hs (j + 1) (by omega) hj
  by_cases e : i = j
  ·subst e; exact h1
  ·exact a9a (ih i (by omega) (by omega)) h1
def putS : List Str -> Str -> List Str
 | [], s => [s]
 | x :: l, s => if Go.Op.bytesLess x s then x :: putS l s else if x = s then x :: l else s :: x :: l
theorem c7L (l : List Str) (s : Str) : (putS l s).length <= l.length + 1 := by
 induction l with
 | nil => simp -implicitDefEqProofs [putS]
 | cons x l ih =>
  unfold putS
  split
  ·simp; omega
  ·split <;> simp
theorem c4Z {l : List Str} {s : Str} {k : Nat} (h : k < l.length) (hp : l.take k ++ putS (l.drop k) s = putS l s) (hl : Go.Op.bytesLess l[k] s = true) : l.take (k + 1) ++ putS (l.drop (k + 1)) s = putS l s := by
 rw [List.drop_eq_getElem_cons h, putS, if_pos hl] at hp
 rw [a0p h, List.append_assoc]
 exact hp
theorem c7K {l : List Str} {s : Str} {k : Nat} (h : l.length <= k) (hp : l.take k ++ putS (l.drop k) s = putS l s) : putS l s = l.take k ++ [s] ++ l.drop k := by
 rw [List.drop_eq_nil_of_le h] at hp ⊢
 rw [<- hp]; simp -implicitDefEqProofs [putS]
theorem c9V {l : List Str} {s : Str} {k : Nat} (h : k < l.length) (hp : l.take k ++ putS (l.drop k) s = putS l s) (hl : Go.Op.bytesLess l[k] s = false) (he : l[k] = s) : putS l s = l := by
 rw [List.drop_eq_getElem_cons h, putS, if_neg (by simp -implicitDefEqProofs [hl]), if_pos he, <- List.drop_eq_getElem_cons h, List.take_append_drop] at hp
 exact hp.symm
theorem c9W {l : List Str} {s : Str} {k : Nat} (h : k < l.length) (hp : l.take k ++ putS (l.drop k) s = putS l s) (hl : Go.Op.bytesLess l[k] s = false) (he : ¬ l[k] = s) : putS l s = l.take k ++ [s] ++ l.drop k := by
 rw [List.drop_eq_getElem_cons h, putS, if_neg (by simp -implicitDefEqProofs [hl]), if_neg he, <- List.drop_eq_getElem_cons h] at hp
 rw [<- hp]; simp
def a1s (l : List Str) (t : List FileD) : List Str := t.foldl (fun l f => putS l f.path) l
theorem a9g {l : List Str} {t : List FileD} {i : Nat} (h : i < t.length) : a1s l (t.take (i + 1)) = putS (a1s l (t.take i)) t[i].path := by
 unfold a1s
 rw [a0p h, List.foldl_append]; rfl
theorem a3D (t : List FileD) : ∀ l, (a1s l t).length <= l.length + t.length := by
 induction t with
 | nil => intro l; simp -implicitDefEqProofs [a1s]
 | cons f t ih =>
  intro l
  have h1 := ih (putS l f.path)
  have h2 := c7L l f.path
  show (a1s (putS l f.path) t).length <= _
  simp only [List.length_cons]
  omega
def a0P (o a b : List FileD) : List Str := a1s (a1s (a1s [] o) a) b
theorem b3f (o a b : List FileD) : (a0P o a b).length <= o.length + a.length + b.length := by
 have h1 := a3D b (a1s (a1s [] o) a)
 have h2 := a3D a (a1s [] o)
 have h3 := a3D o []
 simp at h3
 show (a1s (a1s (a1s [] o) a) b).length <= _
 omega
def a1Q (a b : List Str × Bool) : Bool := decide (a.2 = b.2) && (!a.2 || decide (a.1 = b.1))
def one6 (o a b : List FileD) (p : Str) : List Str × Bool × Int :=
 if a1Q (getL a p) (getL o p) || a1Q (getL a p) (getL b p) then ((getL b p).1, (getL b p).2, 0)
 else if a1Q (getL b p) (getL o p) then ((getL a p).1, (getL a p).2, 0)
 else if !(getL a p).2 || !(getL b p).2 then ((getL o p).1, (getL o p).2, 1)
 else if !(getL o p).2 then ([], false, 2)
 else if (a1W (of3 (getL o p).1 (getL a p).1 (getL b p).1)).2 then ((a1W (of3 (getL o p).1 (getL a p).1 (getL b p).1)).1, true, 0)
 else ((getL o p).1, true, 3)
theorem a5H {t : List FileD} {n : Nat} (h : ∀ f ∈ t, f.text.length <= n) (p : Str) : (getL t p).1.length <= n := by
 induction t with
 | nil => simp -implicitDefEqProofs [getL]
 | cons f t ih =>
  unfold getL
  split
  ·exact h f (by simp)
  ·exact ih fun g hg => h g (by simp -implicitDefEqProofs [hg])
theorem a4o {t : List Str} (h : a1f t = true) : t.length <= 10 := by
 unfold a1f at h
 simp only [Bool.and_eq_true, decide_eq_true_eq] at h
 exact h.1
theorem c5w (l : List PartD) : (a1W l).1.length <= 10 := by
 unfold a1W
 split
 ·simp
 ·split
  ·rename_i h; exact a4o h
  ·simp
theorem b7q {o a b : List FileD} {p : Str} {n : Nat} (hn : 10 <= n) (ho : ∀ f ∈ o, f.text.length <= n) (ha : ∀ f ∈ a, f.text.length <= n) (hb : ∀ f ∈ b, f.text.length <= n) : (one6 o a b p).1.length <= n := by
 have h1 := a5H ho p
 have h2 := a5H ha p
 have h3 := a5H hb p
 have h4 := c5w (of3 (getL o p).1 (getL a p).1 (getL b p).1)
 unfold one6
 split
 ·exact h3
 ·split
  ·exact h2
  ·split
   ·exact h1
   ·split
    ·simp
    ·split
     ·show (a1W _).1.length <= n; omega
     ·exact h1
def stepJ (o a b : List FileD) (s : List FileD × List HeadD) (p : Str) : List FileD × List HeadD :=
 (if (one6 o a b p).2.1 then s.1 ++ [⟨p, (one6 o a b p).1⟩] else s.1, if 0 < (one6 o a b p).2.2 then s.2 ++ [⟨p, (one6 o a b p).2.2⟩] else s.2)
def runJ (o a b : List FileD) (l : List Str) : List FileD × List HeadD := l.foldl (stepJ o a b) ([], [])
theorem b4U {o a b : List FileD} {l : List Str} {i : Nat} (h : i < l.length) : runJ o a b (l.take (i + 1)) = stepJ o a b (runJ o a b (l.take i)) l[i] := by
 unfold runJ
 rw [a0p h, List.foldl_append]; rfl
theorem b7J (o a b : List FileD) (l : List Str) : (runJ o a b l).1.length <= l.length /\ (runJ o a b l).2.length <= l.length := by
 have : ∀ (l : List Str) (s : List FileD × List HeadD), (l.foldl (stepJ o a b) s).1.length <= s.1.length + l.length /\ (l.foldl (stepJ o a b) s).2.length <= s.2.length + l.length := by
  intro l
  induction l with
  | nil => intro s; simp
  | cons p l ih =>
   intro s
   obtain ⟨h1, h2⟩ := ih (stepJ o a b s p)
   have h3 : (stepJ o a b s p).1.length <= s.1.length + 1 /\ (stepJ o a b s p).2.length <= s.2.length + 1 := by
    unfold stepJ
    constructor
    ·show (if _ then _ else _ : List FileD).length <= _
     split <;> simp
    ·show (if _ then _ else _ : List HeadD).length <= _
     split <;> simp
   simp only [List.foldl_cons, List.length_cons]
   omega
 have := this l ([], [])
 simpa [runJ] using this
def of6 (o a b : List FileD) : List FileD × List HeadD := runJ o a b (a0P o a b)
def a1o (o a b : List FileD) : List FileD × List HeadD := if (of6 o a b).2 = [] /\ a0S (of6 o a b).1 = false then (o, [⟨[], 4⟩]) else of6 o a b
theorem c0W {o a b : List FileD} (h : (a1o o a b).2 = []) : a0S (a1o o a b).1 = true := by
 unfold a1o at h ⊢
 split
 ·rename_i h2; rw [if_pos h2] at h; simp at h
 ·rename_i h2
  rw [if_neg h2] at h
  cases hq : a0S (of6 o a b).1 with
  | true => rfl
  | false => exact absurd ⟨h, hq⟩ h2
def a1I (r : RepoD) (a b : Int) (i : Nat) : List Int := ((a0u (anc r a)).take i).filter fun x => decide (x ∈ a0u (anc r b))
def a8q (r : RepoD) (l : List Int) (i k : Nat) : Bool := (List.range k).all fun j => decide (j = i) || !decide (l.getD i 0 ∈ a0u (anc r (l.getD j 0)))
def a3j (r : RepoD) (l : List Int) (i : Nat) : List Int := ((List.range i).filter fun j => a8q r l j l.length).map fun j => l.getD j 0
def a3N (r : RepoD) (a b : Int) : List Int := a3j r (a1I r a b (a0u (anc r a)).length) (a1I r a b (a0u (anc r a)).length).length
def a2n (r : RepoD) (a b : Int) : List FileD := match (a3N r a b).getLast? with
 | none => []
 | some c => a0C r c
def noR : RepoD := ⟨[], []⟩
def a2q (r : RepoD) (n w : Str) (b : Int) : RepoD × Int :=
 if b ∈ a0u (anc r (atL r.heads n)) then (r, 2)
 else if atL r.heads n ∈ a0u (anc r b) then (⟨r.commits, hSet r.heads n b⟩, 3)
 else if (a1o (a2n r (atL r.heads n) b) (a0C r (atL r.heads n)) (a0C r b)).2 = [] then
  (if a0v (addR r n ⟨[atL r.heads n, b], w, (a1o (a2n r (atL r.heads n) b) (a0C r (atL r.heads n)) (a0C r b)).1⟩) then
   (addR r n ⟨[atL r.heads n, b], w, (a1o (a2n r (atL r.heads n) b) (a0C r (atL r.heads n)) (a0C r b)).1⟩, 0) else (r, 5))
 else (r, 4)
def a1t (r : RepoD) (n w : Str) (b : Int) : RepoD × Int :=
 if a0v r then (if atL r.heads n < 0 \/ a0Z w = false \/ ¬ (0 <= b /\ b < r.commits.length) then (r, 1) else a2q r n w b) else (noR, 1)
def a2i (r : RepoD) (c : Int) : List FileD := match (r.commits.getD c.toNat default).parents with
 | [] => []
 | p :: _ => a0C r p
def a2L (r : RepoD) (n w : Str) (o b : List FileD) : RepoD × Int :=
 if (a1o o (a0C r (atL r.heads n)) b).2 = [] then
  (if a0v (addR r n ⟨[atL r.heads n], w, (a1o o (a0C r (atL r.heads n)) b).1⟩) then (addR r n ⟨[atL r.heads n], w, (a1o o (a0C r (atL r.heads n)) b).1⟩, 0) else (r, 5))
 else (r, 4)
def a1w (back : Bool) (r : RepoD) (n w : Str) (c : Int) : RepoD × Int :=
 if a0v r then (if atL r.heads n < 0 \/ a0Z w = false \/ ¬ (0 <= c /\ c < r.commits.length) then (r, 1)
  else if back then a2L r n w (a0C r c) (a2i r c) else a2L r n w (a2i r c) (a0C r c)) else (noR, 1)
theorem a8U : ∀ {l : List HeadD}, (∀ i, 0 < i -> i < l.length -> Go.Op.bytesLess (l.getD (i - 1) default).name (l.getD i default).name = true) -> l.Pairwise fun a b => Go.Op.bytesLess a.name b.name = true
 | [], _ => .nil
 | [x], _ => by simp
 | x :: y :: t, h => by
  have ih := a8U (l := y :: t) fun i h1 h2 => by
   have := h (i + 1) (by omega) (by simp only [List.length_cons] at h2 ⊢; omega)
   rw [show i + 1 - 1 = (i - 1) + 1 by omega, List.getD_cons_succ, List.getD_cons_succ] at this
   exact this
  have hxy := h 1 (by omega) (by simp)
  have hxy : Go.Op.bytesLess x.name y.name = true := by simpa using hxy
  refine List.pairwise_cons.2 ⟨fun z hz => ?_, ih⟩
  rcases List.mem_cons.1 hz with rfl | hz
  ·exact hxy
  ·exact a9a hxy ((List.pairwise_cons.1 ih).1 z hz)
theorem b0O (n : Str) (a : Int) : ∀ (l X : List HeadD), l.foldl (a1J n a) (X, true) = (X ++ l.filter (fun g => decide (g.name ≠ n)), true)
 | [], X => by simp
 | g :: l, X => by
  rw [List.foldl_cons]
  by_cases h : g.name = n
  ·have e : a1J n a (X, true) g = (X, true) := by unfold a1J; simp -implicitDefEqProofs [h]
   rw [e, b0O n a l X]; simp -implicitDefEqProofs [h]
  ·have e : a1J n a (X, true) g = (X ++ [g], true) := by unfold a1J; simp -implicitDefEqProofs [h]
   rw [e, b0O n a l (X ++ [g])]; simp -implicitDefEqProofs [h]
def hAt (n : Str) (a : Int) (h : HeadD) : HeadD := if h.name = n then ⟨n, a⟩ else h
theorem b4z (n : Str) (a : Int) : ∀ (l X : List HeadD), (l.Pairwise fun a b => Go.Op.bytesLess a.name b.name = true) -> (∃ h ∈ l, h.name = n) -> l.foldl (a1J n a) (X, false) = (X ++ l.map (hAt n a), true)
 | [], X, _, h => by obtain ⟨_, h, _⟩ := h; simp at h
 | g :: l, X, hp, hn => by
  obtain ⟨hp1, hp2⟩ := List.pairwise_cons.1 hp
  rw [List.foldl_cons]
  by_cases h : g.name = n
  ·have e : a1J n a (X, false) g = (X ++ [⟨n, a⟩], true) := by unfold a1J; simp -implicitDefEqProofs [h, a5R]
   have hne : ∀ z ∈ l, ¬ z.name = n := fun z hz hc => by
    have := hp1 z hz
    rw [h, hc, a5R] at this
    cases this
   have e2 : l.filter (fun g => decide (g.name ≠ n)) = l := by rw [List.filter_eq_self]; intro z hz; simp -implicitDefEqProofs [hne z hz]
   have e3 : l.map (hAt n a) = l := by
    have : l.map (hAt n a) = l.map id := List.map_congr_left fun z hz => by simp -implicitDefEqProofs [hAt, hne z hz]
    rw [this]; simp
   rw [e, b0O, e2]; simp -implicitDefEqProofs [e3, hAt, h]
  ·obtain ⟨z, hz, hzn⟩ := hn
   have hz : z ∈ l := by
    rcases List.mem_cons.1 hz with rfl | hz
    ·exact absurd hzn h
    ·exact hz
   have hl : Go.Op.bytesLess g.name n = true := by rw [<- hzn]; exact hp1 z hz
   have e : a1J n a (X, false) g = (X ++ [g], false) := by unfold a1J; simp -implicitDefEqProofs [h, hl]
   rw [e, b4z n a l (X ++ [g]) hp2 ⟨z, hz, hzn⟩]; simp -implicitDefEqProofs [hAt, h]
theorem b1M {l : List HeadD} {n : Str} {a : Int} (hl : ∀ i, 0 < i -> i < l.length -> Go.Op.bytesLess (l.getD (i - 1) default).name (l.getD i default).name = true) (hn : ∃ h ∈ l, h.name = n) :
  hSet l n a = l.map (hAt n a) := by
 unfold hSet hL
 rw [b4z n a l [] (a8U hl) hn]
 simp
theorem c8X {l : List HeadD} {n : Str} (h : 0 <= atL l n) : ∃ h ∈ l, h.name = n := by
 induction l with
 | nil => simp -implicitDefEqProofs [atL] at h
 | cons g l ih =>
  unfold atL at h
  split at h
  ·rename_i e; exact ⟨g, by simp, e⟩
  ·obtain ⟨x, h1, h2⟩ := ih h; exact ⟨x, by simp -implicitDefEqProofs [h1], h2⟩
theorem a9B {l : List HeadD} {n : Str} {k : Nat} (hl : a1T k l = true) : atL l n < k /\ -1 <= atL l n \/ atL l n = -1 := by
 have h2 := ((a2v _ _).1 hl).2
 have : ∀ (l' : List HeadD), (∀ h ∈ l', 0 <= h.at_ /\ h.at_ < k) -> atL l' n < k /\ -1 <= atL l' n \/ atL l' n = -1 := by
  intro l'
  induction l' with
  | nil => intro _; right; rfl
  | cons g l' ih =>
   intro h
   unfold atL
   split
   ·left; have := h g (by simp); omega
   ·exact ih fun x hx => h x (by simp -implicitDefEqProofs [hx])
 refine this l fun h hh => ?_
 obtain ⟨i, hi, rfl⟩ := List.getElem_of_mem hh
 have := h2 i hi
 simp only [okHd, inN, List.getD_eq_getElem?_getD, List.getElem?_eq_getElem hi, Option.getD_some, Bool.and_eq_true, decide_eq_true_eq] at this
 omega
theorem c0L {k : Nat} {l : List HeadD} {n : Str} {b : Int} (h : a1T k l = true) (hn : 0 <= atL l n) (hb : 0 <= b /\ b < k) : a1T k (hSet l n b) = true := by
 obtain ⟨h1, h2⟩ := (a2v _ _).1 h
 have hg : ∀ i (hi : i < l.length), l.getD i default = l[i] := fun i hi => by simp -implicitDefEqProofs [List.getD_eq_getElem?_getD, hi]
 rw [b1M (fun i h3 h4 => by
  have := h2 i h4
  unfold okHd at this
  simp only [Bool.and_eq_true, Bool.or_eq_true, decide_eq_true_eq] at this
  rcases this.2 with h5 | h5
  ·omega
  ·exact h5) (c8X hn), a2v]
 have hm : ∀ i (hi : i < l.length), (l.map (hAt n b)).getD i default = hAt n b l[i] := fun i hi => by simp -implicitDefEqProofs [List.getD_eq_getElem?_getD, hi]
 have hname : ∀ g : HeadD, (hAt n b g).name = g.name := fun g => by unfold hAt; split <;> simp_all
 refine ⟨by simpa using h1, fun i hi => ?_⟩
 have hi : i < l.length := by simpa using hi
 have h3 := h2 i hi
 unfold okHd at h3 ⊢
 rw [hm i hi, hname]
 rw [hg i hi] at h3
 have hat : inN k (hAt n b l[i]).at_ = true := by
  simp only [Bool.and_eq_true] at h3
  unfold hAt
  split
  ·simp only [inN, Bool.and_eq_true, decide_eq_true_eq]; omega
  ·exact h3.1.2
 rw [hat]
 rcases Nat.eq_zero_or_pos i with h0 | h0
 ·subst h0
  simp only [Bool.and_eq_true] at h3
  simp -implicitDefEqProofs [h3.1.1]
 ·rw [hm (i - 1) (by omega), hname]
  rw [hg (i - 1) (by omega)] at h3
  simp only [Bool.and_eq_true] at h3 ⊢
  exact ⟨⟨h3.1.1, trivial⟩, h3.2⟩
theorem b8Y {r : RepoD} {n : Str} {b : Int} (h : a0v r = true) (hn : 0 <= atL r.heads n) (hb : 0 <= b /\ b < r.commits.length) : a0v ⟨r.commits, hSet r.heads n b⟩ = true := by
 obtain ⟨h1, h2, h3⟩ := (a0V r).1 h
 exact (a0V _).2 ⟨h1, c0L h2 hn hb, h3⟩
theorem a7T (l : List HeadD) (n : Str) (a : Int) : hSet l n a ≠ [] := by
 have : ∀ (l : List HeadD) (s : List HeadD × Bool), (s.2 = true -> s.1 ≠ []) -> ((l.foldl (a1J n a) s).2 = true -> (l.foldl (a1J n a) s).1 ≠ []) := by
  intro l
  induction l with
  | nil => intro s h; exact h
  | cons g l ih =>
   intro s h
   refine ih (a1J n a s g) ?_
   unfold a1J
   split
   ·split <;> simp
   ·split
    ·exact h
    ·simp
 unfold hSet
 split
 ·rename_i h; exact this l ([], false) (by simp) h
 ·simp
theorem c5z {r : RepoD} {n w : Str} {b : Int} (h : a0v r = true) (hn : 0 <= atL r.heads n) (hb : 0 <= b /\ b < r.commits.length) (hh : r.commits ≠ [] -> r.heads ≠ []) :
  a0v (a2q r n w b).1 = true /\ ((a2q r n w b).1.commits ≠ [] -> (a2q r n w b).1.heads ≠ []) := by
 unfold a2q
 split
 ·exact ⟨h, hh⟩
 ·split
  ·exact ⟨b8Y h hn hb, fun _ => a7T _ _ _⟩
  ·split
   ·split
    ·rename_i q; exact ⟨q, fun _ => a7T _ _ _⟩
    ·exact ⟨h, hh⟩
   ·exact ⟨h, hh⟩
theorem c5A {r : RepoD} {n w : Str} {b : Int} (h : a0v r = true) (hh : r.commits ≠ [] -> r.heads ≠ []) :
  a0v (a1t r n w b).1 = true /\ ((a1t r n w b).1.commits ≠ [] -> (a1t r n w b).1.heads ≠ []) := by
 unfold a1t
 rw [if_pos h]
 split
 ·exact ⟨h, hh⟩
 ·rename_i q
  exact c5z h (by omega) (by omega) hh
theorem b7C {r : RepoD} {n w : Str} {o b : List FileD} (h : a0v r = true) (hh : r.commits ≠ [] -> r.heads ≠ []) :
  a0v (a2L r n w o b).1 = true /\ ((a2L r n w o b).1.commits ≠ [] -> (a2L r n w o b).1.heads ≠ []) := by
 unfold a2L
 split
 ·split
  ·rename_i q; exact ⟨q, fun _ => a7T _ _ _⟩
  ·exact ⟨h, hh⟩
 ·exact ⟨h, hh⟩
theorem b7z {k : Bool} {r : RepoD} {n w : Str} {c : Int} (h : a0v r = true) (hh : r.commits ≠ [] -> r.heads ≠ []) :
  a0v (a1w k r n w c).1 = true /\ ((a1w k r n w c).1.commits ≠ [] -> (a1w k r n w c).1.heads ≠ []) := by
 unfold a1w
 rw [if_pos h]
 split
 ·exact ⟨h, hh⟩
 ·split
  ·exact b7C h hh
  ·exact b7C h hh
structure OpD where
 kind : Int
 branch : Str
 who : Str
 path : Str
 to_ : Str
 at_ : Int
 text : List Str
 deriving DecidableEq, Inhabited
def eOp (a : OpD) : List D := [.int .i64 a.kind, .str a.branch, .str a.who, .str a.path, .str a.to_, .int .i64 a.at_, .sl 9 1 (a0b a.text)]
@[simp] theorem eOp_inj (a b : OpD) : (eOp a = eOp b) = (a = b) := by
 cases a; cases b; simp -implicitDefEqProofs [eOp]
@[simp] theorem OpD.eta (a : OpD) : (⟨a.kind, a.branch, a.who, a.path, a.to_, a.at_, a.text⟩ : OpD) = a := rfl
theorem OpD.eq_iff (a b : OpD) : (a = b) = (a.kind = b.kind /\ a.branch = b.branch /\ a.who = b.who /\ a.path = b.path /\ a.to_ = b.to_ /\ a.at_ = b.at_ /\ a.text = b.text) := by
 cases a; cases b; simp
@[simp] theorem OpD.ex1 (x_kind : Int) (x_branch : Str) (x_who : Str) (x_path : Str) (x_to_ : Str) (x_at_ : Int) (x_text : List Str) (Q : OpD -> Prop) : (∃ a : OpD, a.kind = x_kind /\ a.branch = x_branch /\ a.who = x_who /\ a.path = x_path /\ a.to_ = x_to_ /\ a.at_ = x_at_ /\ a.text = x_text /\ Q a) = Q ⟨x_kind, x_branch, x_who, x_path, x_to_, x_at_, x_text⟩ := by
 apply propext
 constructor
 ·rintro ⟨⟨_, _, _, _, _, _, _⟩, rfl, rfl, rfl, rfl, rfl, rfl, rfl, h⟩; exact h
 ·intro h; exact ⟨⟨x_kind, x_branch, x_who, x_path, x_to_, x_at_, x_text⟩, rfl, rfl, rfl, rfl, rfl, rfl, rfl, h⟩
@[simp] theorem OpD.ex2 (x_kind : Int) (x_branch : Str) (x_who : Str) (x_path : Str) (x_to_ : Str) (x_at_ : Int) (x_text : List Str) (Q : OpD -> Prop) : (∃ a : OpD, (a.kind = x_kind /\ a.branch = x_branch /\ a.who = x_who /\ a.path = x_path /\ a.to_ = x_to_ /\ a.at_ = x_at_ /\ a.text = x_text) /\ Q a) = Q ⟨x_kind, x_branch, x_who, x_path, x_to_, x_at_, x_text⟩ := by
 apply propext
 constructor
 ·rintro ⟨⟨_, _, _, _, _, _, _⟩, ⟨rfl, rfl, rfl, rfl, rfl, rfl, rfl⟩, h⟩; exact h
 ·intro h; exact ⟨⟨x_kind, x_branch, x_who, x_path, x_to_, x_at_, x_text⟩, ⟨rfl, rfl, rfl, rfl, rfl, rfl, rfl⟩, h⟩
@[simp] theorem OpD.ex0 (x_kind : Int) (x_branch : Str) (x_who : Str) (x_path : Str) (x_to_ : Str) (x_at_ : Int) (x_text : List Str) : (∃ a : OpD, a.kind = x_kind /\ a.branch = x_branch /\ a.who = x_who /\ a.path = x_path /\ a.to_ = x_to_ /\ a.at_ = x_at_ /\ a.text = x_text) = True := by
 simp only [eq_iff_iff, iff_true]
 exact ⟨⟨x_kind, x_branch, x_who, x_path, x_to_, x_at_, x_text⟩, rfl, rfl, rfl, rfl, rfl, rfl, rfl⟩
def eOps (l : List OpD) : List (List D) := l.map eOp
@[simp] theorem eOps_length (l : List OpD) : (eOps l).length = l.length := by simp -implicitDefEqProofs [eOps]
@[simp] theorem eOps_nil : eOps [] = [] := rfl
@[simp] theorem eOps_get (l : List OpD) (i : Nat) : (eOps l)[i]? = l[i]?.map eOp := by simp -implicitDefEqProofs [eOps]
@[simp] theorem eOps_getElem (l : List OpD) (i : Nat) (h : i < (eOps l).length) : (eOps l)[i] = eOp (l[i]'(by simpa using h)) := by simp -implicitDefEqProofs [eOps]
@[simp] theorem eOps_inj (a b : List OpD) : (eOps a = eOps b) = (a = b) := by
 apply propext
 constructor
 ·intro h
  exact List.map_inj_right (fun x y h => by simpa using h) |>.1 h
 ·rintro rfl; rfl
@[simp] theorem eOps_eq_nil (a : List OpD) : (eOps a = []) = (a = []) := by simp -implicitDefEqProofs [eOps]
@[simp] theorem nil_eq_eOps (a : List OpD) : ([] = eOps a) = (a = []) := by simp -implicitDefEqProofs [eOps, eq_comm]
abbrev vOp (o : OpD) : AV := .agg [.int .i64 o.kind, .str o.branch, .str o.who, .str o.path, .str o.to_, .int .i64 o.at_, .sl true 1 (a0b o.text)]
def bOp (o : OpD) : Blk := .box 42 [.int .i64 o.kind, .str o.branch, .str o.who, .str o.path, .str o.to_, .int .i64 o.at_, .sl true 1 (a0b o.text)]
def a3S (o : OpD) (p t a x : Bool) : Bool := (p || decide (o.path = [])) && (t || decide (o.to_ = [])) && (a || decide (o.at_ = 0)) && (x || decide (o.text = []))
def barB (s : Str) : Bool := s.all fun b => decide (b ≠ 124)
def a5I (t : List Str) : Bool := t.all barB && a1f t
def opB (o : OpD) : Bool := (a0Z o.branch && a0Z o.who) &&
 (if o.kind = 1 then a3S o true false false true && a3c o.path && a5I o.text
 else if o.kind = 2 then a3S o true false false false && a3c o.path
 else if o.kind = 3 then a3S o true true false false && a3c o.path && a3c o.to_
 else if o.kind = 4 \/ o.kind = 5 then a3S o false true false false && a0Z o.to_
 else if o.kind = 6 \/ o.kind = 7 then a3S o false false true false && (decide (0 <= o.at_) && decide (o.at_ <= 15))
 else false)
def a1O (r : RepoD) (o : OpD) (x : List FileD × Bool) : RepoD × Int := if x.2 then (if (a0X r o.branch o.who x.1).2 then ((a0X r o.branch o.who x.1).1, 0) else (r, 5)) else (r, 1)
def a2h (r : RepoD) (n : Str) : List FileD := if 0 <= atL r.heads n then a0C r (atL r.heads n) else []
def do19 (r : RepoD) (o : OpD) : RepoD × Int :=
 if o.kind = 1 then a1O r o (a2Z (a2h r o.branch) ⟨o.path, o.text⟩)
 else if o.kind = 2 then a1O r o (a2c (a2h r o.branch) o.path)
 else if o.kind = 3 then a1O r o (a1y (a2h r o.branch) o.path o.to_)
 else if o.kind = 4 then (if (a0R r o.to_ (atL r.heads o.branch)).2 then ((a0R r o.to_ (atL r.heads o.branch)).1, 0) else (r, 1))
 else if o.kind = 5 then a1t r o.branch o.who (atL r.heads o.to_)
 else if o.kind = 6 then a1w false r o.branch o.who o.at_
 else a1w true r o.branch o.who o.at_
def a2S (l : List OpD) : RepoD := l.foldl (fun r o => if opB o then (do19 r o).1 else r) noR
theorem b3h {l : List OpD} {i : Nat} (h : i < l.length) : a2S (l.take (i + 1)) = if opB l[i] then (do19 (a2S (l.take i)) l[i]).1 else a2S (l.take i) := by
 unfold a2S
 rw [a0p h, List.foldl_append]; rfl
def a4c (l : List OpD) : RepoD := a2S (l.take 30)
def a4a (r : RepoD) (o : OpD) : RepoD × Int := if a0v r then (if opB o then do19 r o else (r, 1)) else (noR, 1)
def plR (r : RepoD) : Prop := a0v r = true /\ (r.commits ≠ [] -> r.heads ≠ [])
theorem d1f : plR noR := ⟨rfl, fun h => absurd rfl h⟩
theorem b4n {r : RepoD} {n w : Str} {t : List FileD} (h : (a0X r n w t).2 = true) : plR (a0X r n w t).1 := by
 unfold a0X at h ⊢
 split
 ·rename_i h1
  rw [if_pos h1] at h
  split
  ·rename_i h2; exact ⟨h2, fun _ => a7T _ _ _⟩
  ·rename_i h2; rw [if_neg h2] at h; cases h
 ·rename_i h1; rw [if_neg h1] at h; cases h
theorem b4l {r : RepoD} {n : Str} {a : Int} (h : (a0R r n a).2 = true) : plR (a0R r n a).1 := by
 unfold a0R at h ⊢
 split
 ·rename_i h1
  rw [if_pos h1] at h
  split
  ·rename_i h2; rw [if_pos h2] at h; cases h
  ·rename_i h2
   have : a0v ⟨r.commits, hSet r.heads n a⟩ = true := by
    cases q : a0v ⟨r.commits, hSet r.heads n a⟩ with
    | true => rfl
    | false => exact absurd (.inr q) h2
   exact ⟨this, fun _ => a7T _ _ _⟩
 ·rename_i h1; rw [if_neg h1] at h; cases h
theorem b0v {r : RepoD} {o : OpD} {x : List FileD × Bool} (h : plR r) : plR (a1O r o x).1 := by
 unfold a1O
 split
 ·split
  ·rename_i q; exact b4n q
  ·exact h
 ·exact h
theorem c9g {r : RepoD} {o : OpD} (h : plR r) : plR (do19 r o).1 := by
 unfold do19
 repeat' split
 ·exact b0v h
 ·exact b0v h
 ·exact b0v h
 ·rename_i q; exact b4l q
 ·exact h
 ·exact c5A h.1 h.2
 ·exact b7z h.1 h.2
 ·exact b7z h.1 h.2
theorem a9e (l : List OpD) : plR (a2S l) := by
 have : ∀ (l : List OpD) (r : RepoD), plR r -> plR (l.foldl (fun r o => if opB o then (do19 r o).1 else r) r) := by
  intro l
  induction l with
  | nil => intro r h; exact h
  | cons o l ih =>
   intro r h
   refine ih _ ?_
   show plR (if opB o = true then _ else _)
   split
   ·exact c9g h
   ·exact h
 exact this l noR d1f
end Vx
end Go.Proofs.YtonkagjdfpacmaaGreatDoor
namespace Go.Proofs.YtonkagjdfpacmaaGreatDoor
open Go.ChangeShapes Go.WideShapes Go.ChangeAt Go.RowKit
namespace Vx
theorem d1h {T : Nat -> Option TI} (hs : ∀ te, T 9 = some te -> te.cells = [.str]) {ds : List D} (h : Shp T [.int .i64, .str, .str, .str, .str, .int .i64, .sl 9 1] ds) : ∃ o : OpD, ds = eOp o := by
 cases h with
 | int _ h => cases h with
 | str _ h => cases h with
 | str _ h => cases h with
 | str _ h => cases h with
 | str _ h => cases h with
 | int _ h =>
  obtain ⟨l, rfl⟩ := c7Y hs h
  exact ⟨⟨_, _, _, _, _, _, l⟩, rfl⟩
theorem d0k {T : Nat -> Option TI} (hs : ∀ te, T 9 = some te -> te.cells = [.str]) (ho : ∀ te, T 38 = some te -> te.cells = [.int .i64, .str, .str, .str, .str, .int .i64, .sl 9 1]) {ds : List D} (h : Shp T [.sl 38 7] ds) : ∃ l, ds = [.sl 38 7 (eOps l)] := by
 cases h with
 | @sl e k te rows ks ds h1 h2 h3 =>
  cases h3
  rw [ho _ h1] at h2
  obtain ⟨l, rfl, _⟩ := b7I (f := eOp) (p := fun _ => True) (rows := rows) (fun r hr => by
   obtain ⟨o, rfl⟩ := d1h hs (h2 r hr)
   exact ⟨o, rfl, trivial⟩)
  exact ⟨l, rfl⟩
section
variable {H : Type} {enc : TypeId × Value -> H} {W : World} {sp : Nat -> Bool} {held : Bool} {r : Reach} {base : Nat}
set_option maxRecDepth 100000 in
theorem c7u {v : Value} {d : DataW H} {p : List MemPlace} (hu : Tryz.prog.underlying 22 = some (.slice 38)) (hv : Value.okWide Tryz.prog W r base 22 v)
  (h : DataW.Trod enc Tryz.prog W 0 sp held 22 v d p) : ∃ l f, RdL false W [.sl 38 7 (eOps l)] [v] f := by
 obtain ⟨a, n, c, rfl⟩ := okWide_slice hu hv
 obtain ⟨fuel, hf⟩ := h
 obtain ⟨ds, f, h1, h2⟩ := c9Y a0f b9f fuel (t := 22) rfl hf
 have : ∃ l, ds = [.sl 38 7 (eOps l)] := d0k (fun te ht => by cases ht; rfl) (fun te ht => by cases ht; rfl) h2
 obtain ⟨l, rfl⟩ := this
 exact ⟨l, f, h1⟩
end
end Vx
end Go.Proofs.YtonkagjdfpacmaaGreatDoor
namespace Go.Proofs.YtonkagjdfpacmaaGreatDoor
namespace Vx
open Go.ChangeShapes Go.WideShapes Go.ChangeAt Go.RowKit
theorem d0P : laidOutB Tryz.pinned.checked.prog = true := by kernel_rfl
theorem d0S : mapsRowed Tryz.pinned.checked.prog = true := by kernel_rfl
theorem c9n : Tryz.pinned.checked.prog.stopsHeard = true := by kernel_rfl
theorem c9l : Tryz.pinned.checked.prog.mayEnter = true := by kernel_rfl
theorem d0Q : Tryz.pinned.checked.prog.liftsFinal = false := by kernel_rfl
theorem d0R : Tryz.pinned.checked.prog.mainIs = some (Rows.fnExactRepoPlayCard.stood.harness.1, Rows.fnExactRepoPlayCard.stood.harness.2.toList) := by kernel_rfl
theorem c9m : Rows.fnExactRepoPlayCard.stood.looks = Tryz.pinned.checked.prog.looks [] := by kernel_rfl
end Vx
end Go.Proofs.YtonkagjdfpacmaaGreatDoor
namespace Go.Proofs.YtonkagjdfpacmaaGreatDoor
namespace Vx
open Go.RowKit
set_option maxRecDepth 8000
def clrN (l : List Bool) (i : Int) (ks : List Int) : List Bool := ks.foldl (fun l k => if k = i then l else l.set k.toNat false) l
theorem b6s (i : Int) (ks : List Int) : ∀ l : List Bool, (clrN l i ks).length = l.length := by
 induction ks with
 | nil => intro l; rfl
 | cons p r ih =>
  intro l
  show (clrN (if p = i then l else l.set p.toNat false) i r).length = _
  rw [ih]; split <;> simp
def comB (r : RepoD) (a b : Int) : List Bool := (List.range r.commits.length).map fun i => isT (anc r a) i && isT (anc r b) i
theorem a8M (r : RepoD) (a b : Int) : (comB r a b).length = r.commits.length := by simp -implicitDefEqProofs [comB]
def bigT (r : RepoD) (L : List Int) (l : List Bool) : List Bool := L.foldl (fun l i => clrN l i (a0u (anc r i))) l
theorem a8r (r : RepoD) (L : List Int) : ∀ l : List Bool, (bigT r L l).length = l.length := by
 induction L with
 | nil => intro l; rfl
 | cons i L ih =>
  intro l
  show (bigT r L (clrN l i (a0u (anc r i)))).length = _
  rw [ih, b6s]
def a1R (r : RepoD) (a b : Int) : List Int := a0u (bigT r (a0u (comB r a b)) (comB r a b))
theorem c9s {l : List Bool} {p g : Nat} : isT (l.set p false) g = (isT l g && !decide (p = g)) := by
 unfold isT
 rw [List.getD_eq_getElem?_getD, List.getD_eq_getElem?_getD]
 by_cases h : p = g
 ·subst h
  rw [List.getElem?_set_self']
  cases l[p]? <;> simp
 ·rw [List.getElem?_set_ne h]; simp -implicitDefEqProofs [h]
theorem c6j (i : Int) {ks : List Int} (hk : ∀ k ∈ ks, 0 <= k) (g : Nat) : ∀ l : List Bool, isT (clrN l i ks) g = (isT l g && (decide ((g : Int) = i) || !decide ((g : Int) ∈ ks))) := by
 induction ks with
 | nil => intro l; simp -implicitDefEqProofs [clrN]
 | cons p r ih =>
  intro l
  show isT (clrN (if p = i then l else l.set p.toNat false) i r) g = _
  rw [ih (fun k hk' => hk k (by simp -implicitDefEqProofs [hk']))]
  have hp := hk p (by simp)
  split
  ·rename_i h
   subst h
   cases hq : isT l g <;> simp
   by_cases hg : (g : Int) = p
   ·simp -implicitDefEqProofs [hg]
   ·simp -implicitDefEqProofs [hg]
  ·rename_i h
   rw [c9s]
   have e : (p.toNat = g) = ((g : Int) = p) := by apply propext; omega
   cases hq : isT l g <;> simp -implicitDefEqProofs [e]
   by_cases hg : (g : Int) = p
   ·simp -implicitDefEqProofs [hg, h]
   ·simp -implicitDefEqProofs [hg]
theorem c7a {l : List Bool} : ∀ k ∈ a0u l, 0 <= k := fun k hk => by obtain ⟨i, _, _, rfl⟩ := listT_mem.1 hk; omega
theorem c6c (r : RepoD) (L : List Int) (g : Nat) : ∀ l : List Bool, isT (bigT r L l) g = (isT l g && L.all fun i => decide ((g : Int) = i) || !decide ((g : Int) ∈ a0u (anc r i))) := by
 induction L with
 | nil => intro l; simp -implicitDefEqProofs [bigT]
 | cons i L ih =>
  intro l
  show isT (bigT r L (clrN l i (a0u (anc r i)))) g = _
  rw [ih, c6j i c7a, List.all_cons, Bool.and_assoc]
def lastB (r : RepoD) (L : List Int) (x : Int) : Bool := L.all fun y => decide (x = y) || !decide (x ∈ a0u (anc r y))
theorem b0f {l m : List Bool} (hl : l.length = m.length) (p : Int -> Bool) (h : ∀ g : Nat, isT m g = (isT l g && p g)) : a0u m = (a0u l).filter p := by
 unfold a0u a3u
 rw [<- hl, List.filter_map, List.filter_filter]
 congr 1
 apply List.filter_congr
 intro g _
 rw [h g, Bool.and_comm]; rfl
theorem c2N (r : RepoD) (a b : Int) : a1R r a b = (a0u (comB r a b)).filter (lastB r (a0u (comB r a b))) :=
 b0f (a8r _ _ _).symm _ fun g => c6c r _ g _
theorem b4a {l : List Bool} {g : Nat} (h : isT l g = true) : g < l.length := by
 unfold isT at h
 rcases Nat.lt_or_ge g l.length with h2 | h2
 ·exact h2
 ·rw [List.getD_eq_getElem?_getD, List.getElem?_eq_none h2] at h; simp at h
theorem c6G {r : RepoD} {a b : Int} (g : Nat) : isT (comB r a b) g = (isT (anc r a) g && isT (anc r b) g) := by
 have hla := a2r r a
 rcases Nat.lt_or_ge g r.commits.length with h | h
 ·unfold comB
  rw [isT, List.getD_eq_getElem?_getD, List.getElem?_map, List.getElem?_range h]; rfl
 ·have e1 : isT (comB r a b) g = false := by
   cases q : isT (comB r a b) g with
   | false => rfl
   | true => have := b4a q; rw [a8M] at this; omega
  have e2 : isT (anc r a) g = false := by
   cases q : isT (anc r a) g with
   | false => rfl
   | true => have := b4a q; rw [hla] at this; omega
  rw [e1, e2]; rfl
theorem c6d (r : RepoD) (a b : Int) : a1I r a b (a0u (anc r a)).length = a0u (comB r a b) := by
 unfold a1I
 rw [List.take_length]
 refine (b0f (by rw [a8M, a2r]) _ fun g => ?_).symm
 rw [c6G]
 congr 1
 rw [Bool.eq_iff_iff, decide_eq_true_eq, listT_mem]
 constructor
 ·intro h; exact ⟨g, b4a h, h, rfl⟩
 ·rintro ⟨i, _, h, e⟩
  have : g = i := by omega
  rw [this]; exact h
theorem b8L (l : List Bool) : (a0u l).Nodup := by
 unfold a0u a3u
 rw [List.nodup_iff_pairwise_ne, List.pairwise_map]
 exact (List.Pairwise.filter _ List.pairwise_lt_range).imp fun h => by omega
theorem b6A {L : List Int} (p : Int -> Bool) : ((List.range L.length).filter fun i => p (L.getD i 0)).map (fun j => L.getD j 0) = L.filter p := by
 have e : L = (List.range L.length).map fun j => L.getD j 0 := by
  apply List.ext_getElem
  ·simp
  ·intro i h1 h2
   simp -implicitDefEqProofs [List.getD_eq_getElem?_getD, h1]
 have h : L.filter p = ((List.range L.length).map fun j => L.getD j 0).filter p := congrArg (List.filter p) e
 rw [h, List.filter_map]; rfl
theorem b6c (r : RepoD) (a b : Int) : a1R r a b = a3N r a b := by
 rw [c2N]
 unfold a3N
 rw [c6d]
 have hnd := b8L (comB r a b)
 generalize a0u (comB r a b) = L at *
 rw [<- b6A (lastB r L)]
 unfold a3j
 congr 1
 apply List.filter_congr
 intro i hi
 have hi : i < L.length := by simpa using hi
 have gi : L.getD i 0 = L[i] := by simp -implicitDefEqProofs [List.getD_eq_getElem?_getD, hi]
 unfold lastB a8q
 rw [Bool.eq_iff_iff, List.all_eq_true, List.all_eq_true]
 simp only [List.mem_range, Bool.or_eq_true, decide_eq_true_eq, Bool.not_eq_true', decide_eq_false_iff_not]
 constructor
 ·intro h j hj
  have gj : L.getD j 0 = L[j] := by simp -implicitDefEqProofs [List.getD_eq_getElem?_getD, hj]
  rcases h L[j] (List.getElem_mem hj) with h | h
  ·left
   rw [gi] at h
   exact ((List.getElem_inj hnd).1 h).symm
  ·right; rw [gj]; exact h
 ·intro h y hy
  obtain ⟨j, hj, rfl⟩ := List.getElem_of_mem hy
  have gj : L.getD j 0 = L[j] := by simp -implicitDefEqProofs [List.getD_eq_getElem?_getD, hj]
  rcases h j hj with h | h
  ·left; subst h; exact gi
  ·right; rw [gj] at h; exact h

set_option maxHeartbeats 4000000
def b3B : Con := .fn 26 (List Int × List Int) (fun a => [.sl true 1 (a0g a.1), .sl true 1 (a0g a.2)]) (fun _ => True) (fun a => .bool (decide (a.1 = a.2))) (fun _ => [])
theorem c0B : Has Tryz.prog 149 b3B := by
 refine a0d mixed a0f HasL.nil [0, 1, 2, 3, 4, 5] ((fun a n (_ : Nat) => (fun a _ => ⟨Nat, fun i => ⟨[(0, true, .sl true 1 (a0g a.1)), (1, true, .sl true 1 (a0g a.2)), (4, true, .bool false), (5, true, .int .i64 i)], []⟩, fun i => i <= a.1.length /\ a.1.length = a.2.length /\ a.1.take i = a.2.take i, fun i => a.1.length - i⟩) a n)) [] Tryz.func149 (by unfold Tryz.f149; rfl) (fun _ => ⟨(), trivial⟩) ?_
 intro a _
 obtain ⟨l, r⟩ := a
 simp -implicitDefEqProofs [b3B, Con.fn, tTab]
 try dsimp only
 try simp +contextual [eStr, a0k, a0z, a0D, a0A, List.getElem?_eq_getElem, a0B, a0l, a0y, a0s, <- a0i, <- a0h, a0m, a0q, a0o, a0n, a0r, a0j, and_assoc, eInt, a1d, a0K, a7p, a9W, a8R, a8Q, a5l, <- a6Y, a4s, a8P, a7H, a7G, a4E, <- a6k, a6X, a6W, a6j, a6i, a1U, <- a5k]
 repeat' (first | intro _ | apply And.intro)
 all_goals first | omega | grind [a0G, a4U, a4F]
def b3A : Con := .fn 15 (HeadD × HeadD) (fun a => [.agg [.str a.1.name, .int .i64 a.1.at_], .agg [.str a.2.name, .int .i64 a.2.at_]]) (fun _ => True) (fun a => .bool (decide (a.1 = a.2))) (fun _ => [])
theorem c0A : Has Tryz.prog 94 b3A := by
 refine a0d mixed a0f HasL.nil [0, 1, 2, 3, 4] ((fun a n (_ : Nat) => (fun _ => a0F) a n)) [] Tryz.func94 (by unfold Tryz.f94; rfl) (fun _ => ⟨(), trivial⟩) ?_
 intro a _
 obtain ⟨⟨p, x⟩, ⟨q, y⟩⟩ := a
 simp -implicitDefEqProofs [b3A, Con.fn, tTab]
 try dsimp only
 try simp +contextual [eStr, a0k, a0z, a0D, a0A, List.getElem?_eq_getElem, a0B, a0l, a0y, a0s, <- a0i, <- a0h, a0m, a0q, a0o, a0n, a0r, a0j, and_assoc]
 repeat' (first | intro _ | apply And.intro)
 all_goals first | omega | grind [a0G]
def b1s : Con := .fn 27 (List HeadD × List HeadD) (fun a => [.sl true 2 (a0c a.1), .sl true 2 (a0c a.2)]) (fun _ => True) (fun a => .bool (decide (a.1 = a.2))) (fun _ => [])
theorem b8n : Has Tryz.prog 37 b1s := by
 refine a0d mixed a0f (HasL.cons c0A HasL.nil) [0, 1, 2, 3, 4, 5] ((fun a n (_ : Nat) => (fun a _ => ⟨Nat, fun i => ⟨[(0, true, .sl true 2 (a0c a.1)), (1, true, .sl true 2 (a0c a.2)), (4, true, .bool false), (5, true, .int .i64 i)], []⟩, fun i => i <= a.1.length /\ a.1.length = a.2.length /\ a.1.take i = a.2.take i, fun i => a.1.length - i⟩) a n)) [] Tryz.func37 (by unfold Tryz.f37; rfl) (fun _ => ⟨(), trivial⟩) ?_
 intro a _
 obtain ⟨l, r⟩ := a
 simp -implicitDefEqProofs [b1s, Con.fn, tTab, b3A]
 try dsimp only
 try simp +contextual [eStr, a0k, a0z, a0D, a0A, List.getElem?_eq_getElem, a0B, a0l, a0y, a0s, <- a0i, <- a0h, a0m, a0q, a0o, a0n, a0r, a0j, and_assoc, eInt, a1d, a0K, a7p, a9W, a8R, a8Q, a5l, <- a6Y, a4s, a8P, a7H, a7G, a4E, <- a6k, a6X, a6W, a6j, a6i, a1U, <- a5k, <- HeadD.eq_iff]
 repeat' (first | intro _ | apply And.intro)
 all_goals first | omega | grind [a0G, a4U, a4F]
def a9F : Con := .fn 22 (CommitD × CommitD) (fun a => [.agg [.sl true 1 (a0g a.1.parents), .str a.1.who, .sl true 2 (a0a a.1.tree)], .agg [.sl true 1 (a0g a.2.parents), .str a.2.who, .sl true 2 (a0a a.2.tree)]]) (fun _ => True) (fun a => .bool (decide (a.1 = a.2))) (fun _ => [])
theorem b6y : Has Tryz.prog 93 a9F := by
 refine a0d mixed a0f (HasL.cons c0B (HasL.cons b8m HasL.nil)) [0, 1, 2, 3, 4] ((fun a n (_ : Nat) => (fun _ => a0F) a n)) [] Tryz.func93 (by unfold Tryz.f93; rfl) (fun _ => ⟨(), trivial⟩) ?_
 intro a _
 obtain ⟨⟨p, x, s⟩, ⟨q, y, t⟩⟩ := a
 simp -implicitDefEqProofs [a9F, Con.fn, tTab, b3B, b1r]
 try dsimp only
 try simp +contextual [eStr, a0k, a0z, a0D, a0A, List.getElem?_eq_getElem, a0B, a0l, a0y, a0s, <- a0i, <- a0h, a0m, a0q, a0o, a0n, a0r, a0j, and_assoc]
 repeat' (first | intro _ | apply And.intro)
 all_goals first | omega | grind [a0G]
def a8w : Con := .fn 27 (List CommitD × List CommitD) (fun a => [.sl true 3 (a0e a.1), .sl true 3 (a0e a.2)]) (fun _ => True) (fun a => .bool (decide (a.1 = a.2))) (fun _ => [])
theorem b5f : Has Tryz.prog 36 a8w := by
 refine a0d mixed a0f (HasL.cons b6y HasL.nil) [0, 1, 2, 3, 4, 5] ((fun a n (_ : Nat) => (fun a _ => ⟨Nat, fun i => ⟨[(0, true, .sl true 3 (a0e a.1)), (1, true, .sl true 3 (a0e a.2)), (4, true, .bool false), (5, true, .int .i64 i)], []⟩, fun i => i <= a.1.length /\ a.1.length = a.2.length /\ a.1.take i = a.2.take i, fun i => a.1.length - i⟩) a n)) [] Tryz.func36 (by unfold Tryz.f36; rfl) (fun _ => ⟨(), trivial⟩) ?_
 intro a _
 obtain ⟨l, r⟩ := a
 simp -implicitDefEqProofs [a8w, Con.fn, tTab, a9F]
 try dsimp only
 try simp +contextual [eStr, a0k, a0z, a0D, a0A, List.getElem?_eq_getElem, a0B, a0l, a0y, a0s, <- a0i, <- a0h, a0m, a0q, a0o, a0n, a0r, a0j, and_assoc, eInt, a1d, a0K, a7p, a9W, a8R, a8Q, a5l, <- a6Y, a4s, a8P, a7H, a7G, a4E, <- a6k, a6X, a6W, a6j, a6i, a1U, <- a5k, <- CommitD.eq_iff]
 repeat' (first | intro _ | apply And.intro)
 all_goals first | omega | grind [a0G, a4U, a4F]
def b0E : Con := .fn 17 (RepoD × RepoD) (fun a => [a1g a.1, a1g a.2]) (fun _ => True) (fun a => .bool (decide (a.1 = a.2))) (fun _ => [])
theorem c0C : Has Tryz.prog 14 b0E := by
 refine a0d mixed a0f (HasL.cons b5f (HasL.cons b8n HasL.nil)) [0, 1, 2, 3, 4] ((fun a n (_ : Nat) => (fun _ => a0F) a n)) [] Tryz.func14 (by unfold Tryz.f14; rfl) (fun _ => ⟨(), trivial⟩) ?_
 intro a _
 obtain ⟨⟨p, x⟩, ⟨q, y⟩⟩ := a
 simp -implicitDefEqProofs [b0E, Con.fn, tTab, a8w, b1s]
 try dsimp only
 try simp +contextual [eStr, a0k, a0z, a0D, a0A, List.getElem?_eq_getElem, a0B, a0l, a0y, a0s, <- a0i, <- a0h, a0m, a0q, a0o, a0n, a0r, a0j, and_assoc]
 repeat' (first | intro _ | apply And.intro)
 all_goals first | omega | grind [a0G]

theorem a7V {l : List Bool} {x : Int} (h0 : 0 <= x) (h1 : x.toNat < l.length) : isT l x.toNat = decide (x ∈ a0u l) := by
 rw [Bool.eq_iff_iff, decide_eq_true_iff, listT_mem]
 constructor
 ·intro h; exact ⟨x.toNat, h1, h, by omega⟩
 ·rintro ⟨i, _, h2, rfl⟩
  simpa using h2
end Vx
end Go.Proofs.YtonkagjdfpacmaaGreatDoor
