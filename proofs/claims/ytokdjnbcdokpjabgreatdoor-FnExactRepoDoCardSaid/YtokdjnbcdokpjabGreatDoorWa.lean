/-
  Joined by program (merge.py): Base, RowK, Rep, RowR, RowZ, Ca, Cb, Cc, Ce, Cd, Cf, Cg, Ch, Ci, Cj, Lib, Ck, Cl, Pa, Cm, LawA, Cn, Co, Cp, Cq, Cr, Cs, Ct, Ec, Ea, Eb, Ef, Cu, Dd, De, La, Lf, Lg, Ma, Df, Ha, Ia, Ib, Ic, Db, Lb, Lc, Ld, Ed, Mb, Mc. It shows what the single texts show; conditions: none but those of each lemma.
-/
import Derived.Test.YtokdjnbcdokpjabGreatDoorVc
import Derived.Test.YtokdjnbcdokpjabGreatDoorProg
import Derived.KernelRfl
import Derived.Test.YtokdjnbcdokpjabGreatDoorRows
import Derived.Test.YtokdjnbcdokpjabGreatDoorCards
import Derived.Test.YtokdjnbcdokpjabGreatDoorTie
import Derived.ProofKit
import Derived.OpenShut
import Derived.ShutString
import Derived.Lay
import Derived.LaidMore
import Derived.SevenTiedAt
import Derived.Lib.Walk
import Derived.Lib.Strings
import Derived.Lib.Bytealg
import Derived.Handy
set_option linter.unusedVariables false
set_option linter.unusedSimpArgs false
set_option linter.unusedSectionVars false
namespace Go.Proofs.YtokdjnbcdokpjabGreatDoor
open Vx
namespace Vx
def tTab : List (Nat × TI) := [
(3, ⟨false, [.int .i64], 8, [], 0⟩),
(4, ⟨false, [.bool], 1, [], 0⟩),
(9, ⟨false, [.str], 16, [], 0⟩),
(26, ⟨false, [.sl 9 1], 24, [], 9⟩),
(44, ⟨false, [.sl 5 1], 24, [], 5⟩),
(186, ⟨true, [.str, .sl 9 1], 40, [(9, 0), (26, 1)], 0⟩),
(66, ⟨true, [.str, .sl 9 1], 40, [(9, 0), (26, 1)], 0⟩),
(124, ⟨false, [.sl 186 2], 24, [], 186⟩),
(61, ⟨false, [.sl 66 2], 24, [], 66⟩),
(33, ⟨false, [.sl 3 1], 24, [], 3⟩),
(128, ⟨true, [.str, .int .i64], 24, [(9, 0), (3, 1)], 1⟩),
(69, ⟨true, [.str, .int .i64], 24, [(9, 0), (3, 1)], 1⟩),
(23, ⟨false, [.sl 128 2], 24, [], 128⟩),
(30, ⟨false, [.sl 69 2], 24, [], 69⟩),
(126, ⟨true, [.sl 3 1, .str, .sl 186 2], 64, [(33, 0), (9, 1), (124, 2)], 0⟩),
(102, ⟨true, [.sl 3 1, .str, .sl 66 2], 64, [(33, 0), (9, 1), (61, 2)], 0⟩),
(22, ⟨false, [.sl 126 3], 24, [], 126⟩),
(29, ⟨false, [.sl 102 3], 24, [], 102⟩),
(25, ⟨true, [.sl 126 3, .sl 128 2], 48, [(22, 0), (23, 1)], 0⟩),
(32, ⟨true, [.sl 102 3, .sl 69 2], 48, [(29, 0), (30, 1)], 0⟩),
(140, ⟨true, [.sl 5 1, .int .i64], 32, [(44, 0), (3, 1)], 0⟩),
(58, ⟨true, [.int .i64, .str, .str, .str, .str, .int .i64, .sl 9 1], 104, [(3, 0), (9, 1), (9, 2), (9, 3), (9, 4), (3, 5), (26, 6)], 0⟩),
(53, ⟨false, [.sl 58 7], 24, [], 58⟩),
(76, ⟨true, [.int .i64, .str, .str, .str, .str, .int .i64, .sl 9 1], 104, [(3, 0), (9, 1), (9, 2), (9, 3), (9, 4), (3, 5), (26, 6)], 0⟩),
(70, ⟨false, [.sl 76 7], 24, [], 76⟩),
(188, ⟨true, [.str, .int .i64], 24, [(9, 0), (3, 1)], 1⟩),
(156, ⟨false, [.sl 188 2], 24, [], 188⟩),
(229, ⟨true, [.bool, .sl 9 1, .sl 9 1, .sl 9 1, .sl 9 1], 104, [(4, 0), (26, 1), (26, 2), (26, 3), (26, 4)], 0⟩),
(223, ⟨false, [.sl 229 5], 24, [], 229⟩),
(252, ⟨false, [.sl 33 1], 24, [], 33⟩),
 (5, ⟨false, [.int .u8], 1, [], 0⟩)]
theorem a0g : ∀ t ti, get? tTab t = some ti -> TOk Tryz.prog t ti := b0y (by kernel_rfl)
theorem mixed : Tryz.prog.follows .mixedOrders = true := by kernel_rfl
def a0E : Nat -> Inv := fun _ => ⟨Unit, fun _ => ⟨[], []⟩, fun _ => True, fun _ => 0⟩
theorem d1y {α : Type} (f : Nat -> α) (d : Nat) (v : α) (h : Nat) : upd f d v h = if h = d then v else f h := rfl
def c9D (e : Nat -> Option (Bool × AV)) (m : Nat -> Option Blk) : Nat -> Option (Bool × AV) := fun t => (e t).map fun p => (p.1, p.2.wipe m)
def c9E (m : Nat -> Option Blk) : Nat -> Option Blk := fun h => (m h).map (Blk.wipe m)
theorem d1H (s : St) (m : Nat -> Option Blk) : s.wipe m = ⟨c9D s.e m, c9E m⟩ := rfl
theorem c6u (e : Nat -> Option (Bool × AV)) (m : Nat -> Option Blk) (t : Nat) : c9D e m t = (e t).map fun p => (p.1, p.2.wipe m) := rfl
theorem c6v (m : Nat -> Option Blk) (h : Nat) : c9E m h = (m h).map (Blk.wipe m) := rfl
abbrev Str := List UInt8
def eStr (s : Str) : List D := [.str s]
def a0b (l : List Str) : List (List D) := l.map eStr
structure FileD where
 path : Str
 text : List Str
 deriving DecidableEq, Inhabited
def a0r (f : FileD) : List D := [.str f.path, .sl 9 1 (a0b f.text)]
def a0a (l : List FileD) : List (List D) := l.map a0r
@[simp] theorem eStrs_length (l : List Str) : (a0b l).length = l.length := by simp [a0b]
@[simp] theorem eStrs_nil : a0b [] = [] := rfl
@[simp] theorem eStrs_get (l : List Str) (i : Nat) : (a0b l)[i]? = l[i]?.map eStr := by simp [a0b]
@[simp] theorem eStrs_getElem (l : List Str) (i : Nat) (h : i < (a0b l).length) : (a0b l)[i] = eStr (l[i]'(by simpa using h)) := by simp [a0b]
@[simp] theorem eStr_inj (a b : Str) : (eStr a = eStr b) = (a = b) := by simp [eStr]
@[simp] theorem eStrs_inj (a b : List Str) : (a0b a = a0b b) = (a = b) := by
 apply propext
 constructor
 ·intro h
  exact List.map_inj_right (fun x y h => by simpa using h) |>.1 h
 ·rintro rfl; rfl
@[simp] theorem eStrs_eq_nil (a : List Str) : (a0b a = []) = (a = []) := by simp [a0b]
@[simp] theorem nil_eq_eStrs (a : List Str) : ([] = a0b a) = (a = []) := by simp [a0b, eq_comm]
theorem a0f (a b : List Str) : a0b (a ++ b) = a0b a ++ a0b b := by simp [a0b]
theorem a0p (a : List Str) (x : Str) : a0b a ++ [[.str x]] = a0b (a ++ [x]) := by simp [a0b, eStr]
theorem a0v (l : List Str) (i : Nat) (s : Str) : (a0b l).set i [.str s] = a0b (l.set i s) := by simp [a0b, List.map_set, eStr]
theorem a0n (l : List Str) (i : Nat) : (a0b l).take i = a0b (l.take i) := by simp [a0b]
theorem a0o (l : List Str) (i : Nat) : (a0b l).drop i = a0b (l.drop i) := by simp [a0b]
theorem a0s (n : Nat) : List.replicate n [D.str []] = a0b (List.replicate n []) := by simp [a0b, eStr]
@[simp] theorem eStrs_flat (l : List Str) : (∀ x ∈ a0b l, ∀ d ∈ x, a7z d) = True := by
 simp only [eq_iff_iff, iff_true]
 intro x hx d hd
 simp only [a0b, List.mem_map] at hx
 obtain ⟨s, _, rfl⟩ := hx
 simp only [eStr, List.mem_singleton] at hd
 subst hd
 trivial
@[simp] theorem eFiles_length (l : List FileD) : (a0a l).length = l.length := by simp [a0a]
@[simp] theorem eFiles_nil : a0a [] = [] := rfl
@[simp] theorem eFiles_get (l : List FileD) (i : Nat) : (a0a l)[i]? = l[i]?.map a0r := by simp [a0a]
@[simp] theorem eFiles_getElem (l : List FileD) (i : Nat) (h : i < (a0a l).length) : (a0a l)[i] = a0r (l[i]'(by simpa using h)) := by simp [a0a]
@[simp] theorem eFile_inj (a b : FileD) : (a0r a = a0r b) = (a = b) := by
 cases a; cases b; simp [a0r]
@[simp] theorem eFiles_inj (a b : List FileD) : (a0a a = a0a b) = (a = b) := by
 apply propext
 constructor
 ·intro h
  exact List.map_inj_right (fun x y h => by simpa using h) |>.1 h
 ·rintro rfl; rfl
@[simp] theorem eFiles_eq_nil (a : List FileD) : (a0a a = []) = (a = []) := by simp [a0a]
@[simp] theorem nil_eq_eFiles (a : List FileD) : ([] = a0a a) = (a = []) := by simp [a0a, eq_comm]
theorem a0j (a : List FileD) (p : Str) (t : List Str) : a0a a ++ [[.str p, .sl 9 1 (a0b t)]] = a0a (a ++ [⟨p, t⟩]) := by simp [a0a, a0r]
theorem a0e (a b : List FileD) : a0a (a ++ b) = a0a a ++ a0a b := by simp [a0a]
theorem a0l (l : List FileD) (i : Nat) : (a0a l).take i = a0a (l.take i) := by simp [a0a]
theorem a0k (l : List FileD) (i : Nat) : (a0a l).drop i = a0a (l.drop i) := by simp [a0a]
theorem a0m (l : List FileD) (i : Nat) (p : Str) (t : List Str) : (a0a l).set i [.str p, .sl 9 1 (a0b t)] = a0a (l.set i ⟨p, t⟩) := by simp [a0a, List.map_set, a0r]
theorem a0q (n : Nat) : List.replicate n [D.str [], .sl 9 1 []] = a0a (List.replicate n ⟨[], []⟩) := by simp [a0a, a0r]
@[simp] theorem FileD.eta (f : FileD) : (⟨f.path, f.text⟩ : FileD) = f := rfl
@[simp] theorem asStr_str (s : Str) : D.asStr (.str s) = s := rfl
@[simp] theorem asRows_sl (e k : Nat) (r : List (List D)) : D.asRows (.sl e k r) = r := rfl
@[simp] theorem asInt_int (k : IntKind) (n : Int) : D.asInt (.int k n) = n := rfl
@[simp] theorem asBool_bool (b : Bool) : D.asBool (.bool b) = b := rfl
theorem a0t (a b : Nat) : ((a : Int) = (b : Int) + 1) = (a = b + 1) := by apply propext; omega
theorem a0x (a b : Nat) : ((a : Int) = (b : Int)) = (a = b) := by apply propext; omega
theorem a0u (a : Nat) : ((a : Int) = 0) = (a = 0) := by apply propext; omega
theorem a0y {α : Type} {l : List α} {i : Nat} (h : i < l.length) : l.take (i + 1) = l.take i ++ [l[i]] := List.take_succ_eq_append_getElem h
@[simp] theorem getD_nat (l : Str) (i : Nat) (h : i < l.length) : l.getD i 0 = l[i] := by simp [List.getD_eq_getElem?_getD, h]
theorem a0z {α : Type} {l : List α} {p : α -> Bool} {i : Nat} (h : i < l.length) : (l.take (i + 1)).all p = ((l.take i).all p && p l[i]) := by
 rw [a0y h, List.all_append]; simp
theorem a5U {α : Type} {l r : List α} {i : Nat} (h1 : i < l.length) (h2 : i < r.length) (h : l.take i = r.take i) (he : l[i] = r[i]) : l.take (i + 1) = r.take (i + 1) := by
 rw [a0y h1, a0y h2, h, he]
theorem a4j {α : Type} {l r : List α} {i : Nat} (h0 : l.length = r.length) (h1 : l.length <= i) (h : l.take i = r.take i) : l = r := by
 rw [List.take_of_length_le h1, List.take_of_length_le (by omega)] at h
 exact h
theorem a7p {α : Type} {o a : List α} {i : Nat} (h1 : i < o.length) (h2 : i < a.length) (h : o.take i = a.take i) : (o.set i a[i]).take (i + 1) = a.take (i + 1) := by
 rw [a0y (by simpa using h1), a0y h2, List.take_set_of_le (Nat.le_refl i), h]; simp
theorem FileD.eq_iff (a b : FileD) : (a = b) = (a.path = b.path /\ a.text = b.text) := by
 cases a; cases b; simp
@[simp] theorem FileD.ex1 (p : Str) (x : List Str) (Q : FileD -> Prop) : (∃ a : FileD, a.path = p /\ a.text = x /\ Q a) = Q ⟨p, x⟩ := by
 apply propext
 constructor
 ·rintro ⟨⟨a, b⟩, rfl, rfl, h⟩; exact h
 ·intro h; exact ⟨⟨p, x⟩, rfl, rfl, h⟩
@[simp] theorem FileD.ex2 (p : Str) (x : List Str) (Q : FileD -> Prop) : (∃ a : FileD, (a.path = p /\ a.text = x) /\ Q a) = Q ⟨p, x⟩ := by
 apply propext
 constructor
 ·rintro ⟨⟨a, b⟩, ⟨rfl, rfl⟩, h⟩; exact h
 ·intro h; exact ⟨⟨p, x⟩, ⟨rfl, rfl⟩, h⟩
theorem c6V (a : Nat) : ((a : Int) = 1) = (a = 1) := by apply propext; omega
/- What unfolds a walk. -/
attribute [simp] d1F a2W d2u d1C c9l d1D d2t c6t c3h d1E b8X c7A c4J b5z c1J b8T b7p c4F c1P c1N c4G c6r c3f c7z b2S c1V c9f c6q c4H b8Z c4P c4O b7r c4N flB ldMv subN a1F AV.sgl ldB btys a4z b1n b8Y d0n c0F c3r b8C a3c c3s c6a b9F c4M c1U AV.isSub c9G c7x c7C a4g b0x a2F b1e AV.stolen c3t d1K c0H c6C c7B c4K c4L c1T c1W b9b b9c a8m b8V b8U c1M wk_T wk_n d1J d2w d2v d2Q d2R a0T a2f a2B calm a5u a4r b0E a6s b6c a9g pas4 b0Z a2I a7Y ren4 a2L m4 a4x a5M a3Q apnd a4y a8l a6t b0p mvL AV.mv AV.base AV.moved kBld bldK wrK stK AV.selfOk AV.src TI.flat a6m a8h St.val St.cond St.fn St.next St.set St.trim d1H c6u c6v a6W get? cGet d1y a4K a0P rm a4B Oper.hnd Sc.st a8f b0S a9c a0L a4E ldL ld1 a3J a3K a5Z a7g a4t a4k a5V Out.of b0I a6Y AV.rows AV.one AV.cells AV.deepOk AV.toD toDs a3a a2i a3j TK.zeroAV TK.zeroD byteOf inR Op.operands Call.operands a3F a7E a5J a6J a3P a5I pasV pasL pas1 a3U okHs a7D a6k a5C rho over a5S a5y a4s a2u a3l a4a a3t a3s m2 AV.wipe AV.wipeV AV.wipe1 Blk.wipe AV.hs AV.hs.hsL a5w Con.start2 Con.pk b5Q fini b1b resA a2X Sc.from b0u renT renV b3o renL ren1 a8n b0v c9A clOf ldMk c2k actB setRow a8W a7z a0E d1c c8N b9a a5b AV.viewed AV.viewed1
end Vx
end Go.Proofs.YtokdjnbcdokpjabGreatDoor
namespace Go.Proofs.YtokdjnbcdokpjabGreatDoor
open Go.ChangeShapes Go.WideShapes Go.ChangeAt Go.RowKit
namespace Vx
theorem c8l : ownKnob Tryz.prog.godebug = none := by kernel_rfl
theorem laidOut : laidOutB Tryz.prog = true := by kernel_rfl
theorem b1t : b6f tTab = true := by decide
theorem b8e {T : Nat -> Option TI} (hs : ∀ te, T 9 = some te -> te.cells = [.str]) {ds : List D} (h : Shp T [.sl 9 1] ds) : ∃ l, ds = [.sl 9 1 (a0b l)] := by
 cases h with
 | @sl e k te rows ks ds h1 h2 h3 =>
  cases h3
  rw [hs _ h1] at h2
  obtain ⟨l, rfl, _⟩ := a7n (f := eStr) (p := fun _ => True) (rows := rows) (fun r hr => by
   have := h2 r hr
   cases this with
   | str q1 q2 => cases q2; exact ⟨_, rfl, trivial⟩)
  exact ⟨l, rfl⟩
theorem c5V {T : Nat -> Option TI} (hs : ∀ te, T 9 = some te -> te.cells = [.str]) (hf : ∀ te, T 186 = some te -> te.cells = [.str, .sl 9 1]) {ds : List D} (h : Shp T [.sl 186 2] ds) :
  ∃ l, ds = [.sl 186 2 (a0a l)] := by
 cases h with
 | @sl e k te rows ks ds h1 h2 h3 =>
  cases h3
  rw [hf _ h1] at h2
  obtain ⟨l, rfl, _⟩ := a7n (f := a0r) (p := fun _ => True) (rows := rows) (fun r hr => by
   have := h2 r hr
   cases this with
   | str q1 q2 =>
    obtain ⟨l, rfl⟩ := b8e hs q2
    exact ⟨⟨_, l⟩, rfl, trivial⟩)
  exact ⟨l, rfl⟩
section
variable {H : Type} {enc : TypeId × Value -> H} {W : World} {sp : Nat -> Bool} {held : Bool} {r : Reach} {base : Nat}
end
end Vx
end Go.Proofs.YtokdjnbcdokpjabGreatDoor
namespace Go.Proofs.YtokdjnbcdokpjabGreatDoor
namespace Vx
def eInt (n : Int) : List D := [.int .i64 n]
@[simp] theorem eInt_inj (a b : Int) : (eInt a = eInt b) = (a = b) := by simp [eInt]
def a0i (l : List Int) : List (List D) := l.map eInt
@[simp] theorem eInts_length (l : List Int) : (a0i l).length = l.length := by simp [a0i]
@[simp] theorem eInts_nil : a0i [] = [] := rfl
@[simp] theorem eInts_get (l : List Int) (i : Nat) : (a0i l)[i]? = l[i]?.map eInt := by simp [a0i]
@[simp] theorem eInts_getElem (l : List Int) (i : Nat) (h : i < (a0i l).length) : (a0i l)[i] = eInt (l[i]'(by simpa using h)) := by simp [a0i]
@[simp] theorem eInts_inj (a b : List Int) : (a0i a = a0i b) = (a = b) := by
 apply propext
 constructor
 ·intro h
  exact List.map_inj_right (fun x y h => by simpa using h) |>.1 h
 ·rintro rfl; rfl
@[simp] theorem eInts_eq_nil (a : List Int) : (a0i a = []) = (a = []) := by simp [a0i]
@[simp] theorem nil_eq_eInts (a : List Int) : ([] = a0i a) = (a = []) := by simp [a0i, eq_comm]
theorem a2P (a b : List Int) : a0i (a ++ b) = a0i a ++ a0i b := by simp [a0i]
theorem a3C (l : List Int) (i : Nat) : (a0i l).take i = a0i (l.take i) := by simp [a0i]
theorem a3A (l : List Int) (i : Nat) : (a0i l).drop i = a0i (l.drop i) := by simp [a0i]
theorem a2G (a : List Int) (n : Int) : a0i a ++ [[.int .i64 n]] = a0i (a ++ [n]) := by simp [a0i, eInt]
theorem a3B (l : List Int) (i : Nat) (n : Int) : (a0i l).set i [.int .i64 n] = a0i (l.set i n) := by simp [a0i, List.map_set, eInt]
theorem a3X (n : Nat) : List.replicate n [D.int .i64 0] = a0i (List.replicate n 0) := by simp [a0i, eInt]
@[simp] theorem eInts_flat (l : List Int) : (∀ x ∈ a0i l, ∀ d ∈ x, a7z d) = True := by
 simp only [eq_iff_iff, iff_true]
 intro x hx d hd
 simp only [a0i, List.mem_map] at hx
 obtain ⟨s, _, rfl⟩ := hx
 simp only [eInt, List.mem_singleton] at hd
 subst hd
 trivial
structure HeadD where
 name : Str
 at_ : Int
 deriving DecidableEq, Inhabited
def a0Y (a : HeadD) : List D := [.str a.name, .int .i64 a.at_]
@[simp] theorem eHead_inj (a b : HeadD) : (a0Y a = a0Y b) = (a = b) := by
 cases a; cases b; simp [a0Y]
@[simp] theorem HeadD.eta (a : HeadD) : (⟨a.name, a.at_⟩ : HeadD) = a := rfl
theorem HeadD.eq_iff (a b : HeadD) : (a = b) = (a.name = b.name /\ a.at_ = b.at_) := by
 cases a; cases b; simp
@[simp] theorem HeadD.ex1 (x_name : Str) (x_at_ : Int) (Q : HeadD -> Prop) : (∃ a : HeadD, a.name = x_name /\ a.at_ = x_at_ /\ Q a) = Q ⟨x_name, x_at_⟩ := by
 apply propext
 constructor
 ·rintro ⟨⟨_, _⟩, rfl, rfl, h⟩; exact h
 ·intro h; exact ⟨⟨x_name, x_at_⟩, rfl, rfl, h⟩
@[simp] theorem HeadD.ex2 (x_name : Str) (x_at_ : Int) (Q : HeadD -> Prop) : (∃ a : HeadD, (a.name = x_name /\ a.at_ = x_at_) /\ Q a) = Q ⟨x_name, x_at_⟩ := by
 apply propext
 constructor
 ·rintro ⟨⟨_, _⟩, ⟨rfl, rfl⟩, h⟩; exact h
 ·intro h; exact ⟨⟨x_name, x_at_⟩, ⟨rfl, rfl⟩, h⟩
@[simp] theorem HeadD.ex0 (x_name : Str) (x_at_ : Int) : (∃ a : HeadD, a.name = x_name /\ a.at_ = x_at_) = True := by
 simp only [eq_iff_iff, iff_true]
 exact ⟨⟨x_name, x_at_⟩, rfl, rfl⟩
def a0c (l : List HeadD) : List (List D) := l.map a0Y
@[simp] theorem eHeads_length (l : List HeadD) : (a0c l).length = l.length := by simp [a0c]
@[simp] theorem eHeads_nil : a0c [] = [] := rfl
@[simp] theorem eHeads_get (l : List HeadD) (i : Nat) : (a0c l)[i]? = l[i]?.map a0Y := by simp [a0c]
@[simp] theorem eHeads_getElem (l : List HeadD) (i : Nat) (h : i < (a0c l).length) : (a0c l)[i] = a0Y (l[i]'(by simpa using h)) := by simp [a0c]
@[simp] theorem eHeads_inj (a b : List HeadD) : (a0c a = a0c b) = (a = b) := by
 apply propext
 constructor
 ·intro h
  exact List.map_inj_right (fun x y h => by simpa using h) |>.1 h
 ·rintro rfl; rfl
@[simp] theorem eHeads_eq_nil (a : List HeadD) : (a0c a = []) = (a = []) := by simp [a0c]
@[simp] theorem nil_eq_eHeads (a : List HeadD) : ([] = a0c a) = (a = []) := by simp [a0c, eq_comm]
theorem a2z (a b : List HeadD) : a0c (a ++ b) = a0c a ++ a0c b := by simp [a0c]
theorem a3h (l : List HeadD) (i : Nat) : (a0c l).take i = a0c (l.take i) := by simp [a0c]
theorem a3g (l : List HeadD) (i : Nat) : (a0c l).drop i = a0c (l.drop i) := by simp [a0c]
theorem a2l (a : List HeadD) (s : Str) (n : Int) : a0c a ++ [[.str s, .int .i64 n]] = a0c (a ++ [⟨s, n⟩]) := by simp [a0c, a0Y]
theorem a2m (l : List HeadD) (i : Nat) (s : Str) (n : Int) : (a0c l).set i [.str s, .int .i64 n] = a0c (l.set i ⟨s, n⟩) := by simp [a0c, List.map_set, a0Y]
theorem a3z (n : Nat) : List.replicate n [D.str [], D.int .i64 0] = a0c (List.replicate n ⟨[], 0⟩) := by simp [a0c, a0Y]
@[simp] theorem eHeads_flat (l : List HeadD) : (∀ x ∈ a0c l, ∀ d ∈ x, a7z d) = True := by
 simp only [eq_iff_iff, iff_true]
 intro x hx d hd
 simp only [a0c, List.mem_map] at hx
 obtain ⟨s, _, rfl⟩ := hx
 simp only [a0Y, List.mem_cons, List.not_mem_nil, or_false] at hd
 rcases hd with rfl | rfl <;> trivial
structure CommitD where
 parents : List Int
 who : Str
 tree : List FileD
 deriving DecidableEq, Inhabited
def a0H (a : CommitD) : List D := [.sl 3 1 (a0i a.parents), .str a.who, .sl 66 2 (a0a a.tree)]
@[simp] theorem eCommit_inj (a b : CommitD) : (a0H a = a0H b) = (a = b) := by
 cases a; cases b; simp [a0H]
@[simp] theorem CommitD.eta (a : CommitD) : (⟨a.parents, a.who, a.tree⟩ : CommitD) = a := rfl
theorem CommitD.eq_iff (a b : CommitD) : (a = b) = (a.parents = b.parents /\ a.who = b.who /\ a.tree = b.tree) := by
 cases a; cases b; simp
@[simp] theorem CommitD.ex1 (x_parents : List Int) (x_who : Str) (x_tree : List FileD) (Q : CommitD -> Prop) : (∃ a : CommitD, a.parents = x_parents /\ a.who = x_who /\ a.tree = x_tree /\ Q a) = Q ⟨x_parents, x_who, x_tree⟩ := by
 apply propext
 constructor
 ·rintro ⟨⟨_, _, _⟩, rfl, rfl, rfl, h⟩; exact h
 ·intro h; exact ⟨⟨x_parents, x_who, x_tree⟩, rfl, rfl, rfl, h⟩
@[simp] theorem CommitD.ex2 (x_parents : List Int) (x_who : Str) (x_tree : List FileD) (Q : CommitD -> Prop) : (∃ a : CommitD, (a.parents = x_parents /\ a.who = x_who /\ a.tree = x_tree) /\ Q a) = Q ⟨x_parents, x_who, x_tree⟩ := by
 apply propext
 constructor
 ·rintro ⟨⟨_, _, _⟩, ⟨rfl, rfl, rfl⟩, h⟩; exact h
 ·intro h; exact ⟨⟨x_parents, x_who, x_tree⟩, ⟨rfl, rfl, rfl⟩, h⟩
@[simp] theorem CommitD.ex0 (x_parents : List Int) (x_who : Str) (x_tree : List FileD) : (∃ a : CommitD, a.parents = x_parents /\ a.who = x_who /\ a.tree = x_tree) = True := by
 simp only [eq_iff_iff, iff_true]
 exact ⟨⟨x_parents, x_who, x_tree⟩, rfl, rfl, rfl⟩
def a0h (l : List CommitD) : List (List D) := l.map a0H
@[simp] theorem eCommits_length (l : List CommitD) : (a0h l).length = l.length := by simp [a0h]
@[simp] theorem eCommits_nil : a0h [] = [] := rfl
@[simp] theorem eCommits_get (l : List CommitD) (i : Nat) : (a0h l)[i]? = l[i]?.map a0H := by simp [a0h]
@[simp] theorem eCommits_getElem (l : List CommitD) (i : Nat) (h : i < (a0h l).length) : (a0h l)[i] = a0H (l[i]'(by simpa using h)) := by simp [a0h]
@[simp] theorem eCommits_inj (a b : List CommitD) : (a0h a = a0h b) = (a = b) := by
 apply propext
 constructor
 ·intro h
  exact List.map_inj_right (fun x y h => by simpa using h) |>.1 h
 ·rintro rfl; rfl
@[simp] theorem eCommits_eq_nil (a : List CommitD) : (a0h a = []) = (a = []) := by simp [a0h]
@[simp] theorem nil_eq_eCommits (a : List CommitD) : ([] = a0h a) = (a = []) := by simp [a0h, eq_comm]
theorem a1U (a b : List CommitD) : a0h (a ++ b) = a0h a ++ a0h b := by simp [a0h]
theorem a2y (l : List CommitD) (i : Nat) : (a0h l).take i = a0h (l.take i) := by simp [a0h]
theorem a2x (l : List CommitD) (i : Nat) : (a0h l).drop i = a0h (l.drop i) := by simp [a0h]
theorem a1m (a : List CommitD) (p : List Int) (w : Str) (t : List FileD) : a0h a ++ [[.sl 3 1 (a0i p), .str w, .sl 66 2 (a0a t)]] = a0h (a ++ [⟨p, w, t⟩]) := by simp [a0h, a0H]
theorem a2O (l : List CommitD) (i : Nat) (p : List Int) (w : Str) (t : List FileD) : (a0h l).set i [.sl 3 1 (a0i p), .str w, .sl 66 2 (a0a t)] = a0h (l.set i ⟨p, w, t⟩) := by simp [a0h, List.map_set, a0H]
theorem a2N (n : Nat) : List.replicate n [D.sl 3 1 [], D.str [], D.sl 66 2 []] = a0h (List.replicate n ⟨[], [], []⟩) := by simp [a0h, a0H]
structure RepoD where
 commits : List CommitD
 heads : List HeadD
 deriving DecidableEq, Inhabited
def c1h (a : RepoD) : List D := [.sl 102 3 (a0h a.commits), .sl 69 2 (a0c a.heads)]
@[simp] theorem eRepo_inj (a b : RepoD) : (c1h a = c1h b) = (a = b) := by
 cases a; cases b; simp [c1h]
@[simp] theorem RepoD.eta (a : RepoD) : (⟨a.commits, a.heads⟩ : RepoD) = a := rfl
theorem RepoD.eq_iff (a b : RepoD) : (a = b) = (a.commits = b.commits /\ a.heads = b.heads) := by
 cases a; cases b; simp
@[simp] theorem RepoD.ex1 (x_commits : List CommitD) (x_heads : List HeadD) (Q : RepoD -> Prop) : (∃ a : RepoD, a.commits = x_commits /\ a.heads = x_heads /\ Q a) = Q ⟨x_commits, x_heads⟩ := by
 apply propext
 constructor
 ·rintro ⟨⟨_, _⟩, rfl, rfl, h⟩; exact h
 ·intro h; exact ⟨⟨x_commits, x_heads⟩, rfl, rfl, h⟩
@[simp] theorem RepoD.ex2 (x_commits : List CommitD) (x_heads : List HeadD) (Q : RepoD -> Prop) : (∃ a : RepoD, (a.commits = x_commits /\ a.heads = x_heads) /\ Q a) = Q ⟨x_commits, x_heads⟩ := by
 apply propext
 constructor
 ·rintro ⟨⟨_, _⟩, ⟨rfl, rfl⟩, h⟩; exact h
 ·intro h; exact ⟨⟨x_commits, x_heads⟩, ⟨rfl, rfl⟩, h⟩
@[simp] theorem RepoD.ex0 (x_commits : List CommitD) (x_heads : List HeadD) : (∃ a : RepoD, a.commits = x_commits /\ a.heads = x_heads) = True := by
 simp only [eq_iff_iff, iff_true]
 exact ⟨⟨x_commits, x_heads⟩, rfl, rfl⟩
def a2D (a : CommitD) : List D := [.sl 3 1 (a0i a.parents), .str a.who, .sl 186 2 (a0a a.tree)]
@[simp] theorem lCommit_inj (a b : CommitD) : (a2D a = a2D b) = (a = b) := by
 cases a; cases b; simp [a2D]
def a1u (l : List CommitD) : List (List D) := l.map a2D
@[simp] theorem lCommits_length (l : List CommitD) : (a1u l).length = l.length := by simp [a1u]
@[simp] theorem lCommits_nil : a1u [] = [] := rfl
@[simp] theorem lCommits_get (l : List CommitD) (i : Nat) : (a1u l)[i]? = l[i]?.map a2D := by simp [a1u]
@[simp] theorem lCommits_getElem (l : List CommitD) (i : Nat) (h : i < (a1u l).length) : (a1u l)[i] = a2D (l[i]'(by simpa using h)) := by simp [a1u]
@[simp] theorem lCommits_inj (a b : List CommitD) : (a1u a = a1u b) = (a = b) := by
 apply propext
 constructor
 ·intro h
  exact List.map_inj_right (fun x y h => by simpa using h) |>.1 h
 ·rintro rfl; rfl
@[simp] theorem lCommits_eq_nil (a : List CommitD) : (a1u a = []) = (a = []) := by simp [a1u]
@[simp] theorem nil_eq_lCommits (a : List CommitD) : ([] = a1u a) = (a = []) := by simp [a1u, eq_comm]
abbrev c2i (r : RepoD) : AV := .agg [.sl true 3 (a1u r.commits), .sl true 2 (a0c r.heads)]
abbrev a1e (r : RepoD) : AV := .agg [.sl true 3 (a0h r.commits), .sl true 2 (a0c r.heads)]
abbrev a4v (h : Nat) (a : List Int) : List (Nat × Blk) := [(h, .own 3 1 true (a0i a))]
abbrev a2o (h : Nat) (a : List HeadD) : List (Nat × Blk) := [(h, .own 69 2 true (a0c a))]
abbrev a2d (h : Nat) (a : List CommitD) : List (Nat × Blk) := [(h, .own 102 3 true (a0h a))]
end Vx
end Go.Proofs.YtokdjnbcdokpjabGreatDoor
namespace Go.Proofs.YtokdjnbcdokpjabGreatDoor
open Go.ChangeShapes Go.WideShapes Go.ChangeAt Go.RowKit
namespace Vx
def isStruct : Option TypeDesc -> Bool
 | some (.struct _) => true
 | _ => false
theorem c8M {T : Nat -> Option TI} (hs : ∀ te, T 3 = some te -> te.cells = [.int .i64]) {ds0 : List TK} {ds : List D} (h : Shp T (.sl 3 1 :: ds0) ds) : ∃ l r, ds = .sl 3 1 (a0i l) :: r /\ Shp T ds0 r := by
 cases h with
 | @sl e k te rows ks ds h1 h2 h3 =>
  rw [hs _ h1] at h2
  obtain ⟨l, rfl, _⟩ := a7n (f := eInt) (p := fun _ => True) (rows := rows) (fun r hr => by
   have := h2 r hr
   cases this with
   | int q1 q2 => cases q2; exact ⟨_, rfl, trivial⟩)
  exact ⟨l, _, rfl, h3⟩
theorem c5W {T : Nat -> Option TI} (hs : ∀ te, T 128 = some te -> te.cells = [.str, .int .i64]) {ds : List D} (h : Shp T [.sl 128 2] ds) : ∃ l, ds = [.sl 128 2 (a0c l)] := by
 cases h with
 | @sl e k te rows ks ds h1 h2 h3 =>
  cases h3
  rw [hs _ h1] at h2
  obtain ⟨l, rfl, _⟩ := a7n (f := a0Y) (p := fun _ => True) (rows := rows) (fun r hr => by
   have := h2 r hr
   cases this with
   | str q1 q2 =>
    cases q2 with
    | int q3 q4 => cases q4; exact ⟨⟨_, _⟩, rfl, trivial⟩)
  exact ⟨l, rfl⟩
theorem b9E {T : Nat -> Option TI} (hi : ∀ te, T 3 = some te -> te.cells = [.int .i64]) (hs : ∀ te, T 9 = some te -> te.cells = [.str]) (hf : ∀ te, T 186 = some te -> te.cells = [.str, .sl 9 1])
  (hc : ∀ te, T 126 = some te -> te.cells = [.sl 3 1, .str, .sl 186 2]) {ds0 : List TK} {ds : List D} (h : Shp T (.sl 126 3 :: ds0) ds) : ∃ l r, ds = .sl 126 3 (a1u l) :: r /\ Shp T ds0 r := by
 cases h with
 | @sl e k te rows ks ds h1 h2 h3 =>
  rw [hc _ h1] at h2
  obtain ⟨l, rfl, _⟩ := a7n (f := a2D) (p := fun _ => True) (rows := rows) (fun r hr => by
   obtain ⟨ps, r1, rfl, q⟩ := c8M hi (h2 r hr)
   cases q with
   | str q1 q2 =>
    obtain ⟨l, rfl⟩ := c5V hs hf q2
    exact ⟨⟨_, _, l⟩, rfl, trivial⟩)
  exact ⟨l, _, rfl, h3⟩
theorem b4u {q : Bool} {w : World} {d : D} {ds : List D} {vs : List Value} {f : List (Nat × Nat)} (h : RdL q w (d :: ds) vs f) : ∃ v vs' f1 f2, vs = v :: vs' /\ RdL q w [d] [v] f1 /\ RdL q w ds vs' f2 := by
 cases h with
 | int h => exact ⟨_, _, _, _, rfl, .int .nil, h⟩
 | bool h => exact ⟨_, _, _, _, rfl, .bool .nil, h⟩
 | str q h => exact ⟨_, _, _, _, rfl, .str q .nil, h⟩
 | raw q h => exact ⟨_, _, _, _, rfl, .raw q .nil, h⟩
 | junk q h => exact ⟨_, _, _, _, rfl, .junk q .nil, h⟩
 | sl0 q1 q2 h => exact ⟨_, _, _, _, rfl, .sl0 q1 q2 .nil, h⟩
 | sl q1 q2 q3 q4 q5 q6 q7 q8 q9 h => exact ⟨_, _, _, _, rfl, .sl q1 q2 q3 q4 q5 q6 q7 q8 q9 .nil, h⟩
theorem c0s {q : Bool} {w : World} {e k : Nat} {rows : List (List D)} {v : Value} {f : List (Nat × Nat)} (h : RdL q w [.sl e k rows] [v] f) : v.oneCell' = true := by
 cases h <;> rfl
section
variable {H : Type} {enc : TypeId × Value -> H} {W : World} {sp : Nat -> Bool} {held : Bool} {r : Reach} {base : Nat}
set_option maxRecDepth 100000 in
theorem c5v {v : Value} {d : DataW H} {p : List MemPlace} (hu : isStruct (Tryz.prog.underlying 25) = true) (hv : Value.okWide Tryz.prog W r base 25 v)
  (h : DataW.Trod enc Tryz.prog W 0 sp held 25 v d p) : ∃ (l : RepoD) (us : List Value) (f : List (Nat × Nat)), v = .agg us.toArray /\ (∀ u ∈ us, u.oneCell' = true) /\ RdArgs W [.sl true 3 (a1u l.commits), .sl true 2 (a0c l.heads)] us f := by
 have hu' : ∃ fs, Tryz.prog.underlying 25 = some (.struct fs) := by
  revert hu
  generalize Tryz.prog.underlying 25 = o
  intro hu
  unfold isStruct at hu
  split at hu
  ·exact ⟨_, rfl⟩
  ·cases hu
 obtain ⟨fs, hu'⟩ := hu'
 obtain ⟨cs, rfl, _⟩ := okWide_struct hu' hv
 obtain ⟨fuel, hf⟩ := h
 obtain ⟨ds, f, h1, h2⟩ := c0t a0g b1t fuel (t := 25) rfl hf
 obtain ⟨cl, r1, rfl, h3⟩ := b9E (fun te ht => by cases ht; rfl) (fun te ht => by cases ht; rfl) (fun te ht => by cases ht; rfl) (fun te ht => by cases ht; rfl) h2
 obtain ⟨hl, rfl⟩ := c5W (fun te ht => by cases ht; rfl) h3
 obtain ⟨v1, vs, f1, f2, e1, k1, k2⟩ := b4u h1
 obtain ⟨v2, vs2, f3, f4, rfl, k3, k4⟩ := b4u k2
 cases k4
 have e2 : cs = #[v1, v2] := by
  apply Array.ext'
  exact e1
 subst e2
 refine ⟨⟨cl, hl⟩, [v1, v2], _, rfl, ?_, .sl k1 (.sl k3 .nil)⟩
 intro u hu
 simp only [List.mem_cons, List.not_mem_nil, or_false] at hu
 rcases hu with rfl | rfl
 ·exact c0s k1
 ·exact c0s k3
end
end Vx
end Go.Proofs.YtokdjnbcdokpjabGreatDoor
namespace Go.Proofs.YtokdjnbcdokpjabGreatDoor
open Go.ChangeShapes Go.WideShapes Go.ChangeAt Go.RowKit
namespace Vx
end Vx
end Go.Proofs.YtokdjnbcdokpjabGreatDoor
namespace Go.Proofs.YtokdjnbcdokpjabGreatDoor
set_option maxHeartbeats 4000000
namespace Vx
open Go.RowKit
def a6S : Con := .fn 15 (Int × Int × Int) (fun a => [.int .i64 a.1, .int .i64 a.2.1, .int .i64 a.2.2]) (fun _ => True) (fun a => .bool (decide (a.2.1 <= a.1) && decide (a.1 <= a.2.2))) (fun _ => [])
theorem a6O : Has Tryz.prog 75 a6S := by
 refine a0d mixed a0g HasL.nil [0, 1, 2, 6] ((fun a n (_ : Nat) => (fun _ => a0E) a n)) [] Tryz.func75 (by unfold Tryz.f75; rfl) (fun _ => ⟨(), trivial⟩) ?_
 intro a _
 obtain ⟨n, lo, hi⟩ := a
 simp -implicitDefEqProofs [a6S, Con.fn, tTab]
 omega
def a6C : Con := .fn 15 (Int × Int × Int) (fun a => [.int .i64 a.1, .int .i64 a.2.1, .int .i64 a.2.2]) (fun _ => True) (fun a => .bool (decide (a.2.1 <= a.1) && decide (a.1 <= a.2.2))) (fun _ => [])
theorem a5f : Has Tryz.prog 97 a6C := by
 refine a0d mixed a0g HasL.nil [0, 1, 2, 6] ((fun a n (_ : Nat) => (fun _ => a0E) a n)) [] Tryz.func97 (by unfold Tryz.f97; rfl) (fun _ => ⟨(), trivial⟩) ?_
 intro a _
 obtain ⟨n, lo, hi⟩ := a
 simp -implicitDefEqProofs [a6C, Con.fn, tTab]
 omega
def a9q (n : Int) : Bool := (decide (97 <= n) && decide (n <= 122)) || (decide (48 <= n) && decide (n <= 57))
def a9Z : Con := .fn 17 Int (fun a => [.int .u8 a]) (fun _ => True) (fun a => .bool (a9q a)) (fun _ => [])
theorem b8A : Has Tryz.prog 114 a9Z := by
 refine a0d mixed a0g HasL.nil [0, 2] ((fun a n (_ : Nat) => (fun _ => a0E) a n)) [] Tryz.func114 (by unfold Tryz.f114; rfl) (fun _ => ⟨(), trivial⟩) ?_
 intro a _
 simp -implicitDefEqProofs [a9Z, Con.fn, tTab, a9q]
 repeat' (first | intro _ | apply And.intro)
 all_goals first | omega | grind
def a0X (s : Str) : Bool := decide (1 <= s.length) && decide (s.length <= 6) && s.all fun b => a9q b.toNat
def a5m : Con := .fn 19 Str (fun s => [.str s]) (fun _ => True) (fun s => .bool (a0X s)) (fun _ => [])
theorem a4T : Has Tryz.prog 73 a5m := by
 refine a0d mixed a0g (HasL.cons a6O (HasL.cons b8A HasL.nil)) [0, 2, 3] ((fun a n (_ : Nat) => (fun s _ => ⟨Nat, fun i => ⟨[(0, true, .str s), (2, true, .bool false), (3, true, .int .i64 i)], []⟩, fun i => i <= s.length /\ 1 <= s.length /\ s.length <= 6 /\ (s.take i).all (fun b => a9q b.toNat) = true, fun i => s.length - i⟩) a n)) [] Tryz.func73 (by unfold Tryz.f73; rfl) (fun _ => ⟨(), trivial⟩) ?_
 intro (s : Str) _
 simp -implicitDefEqProofs [a5m, Con.fn, tTab, a6S, a9Z]
 try dsimp only
 try simp +contextual [eStr, a0r, a0t, a0x, a0u, List.getElem?_eq_getElem, a0v, a0m, a0s, a0q, <- a0f, <- a0e, a0n, a0o, a0l, a0k, a0p, a0j, and_assoc]
 repeat' (first | intro _ | apply And.intro)
 all_goals first | omega | grind [a0z, a0X, List.take_succ_eq_append_getElem]
def a5k : Con := .fn 35 Str (fun s => [.str s]) (fun _ => True) (fun s => .bool (a0X s)) (fun _ => [])
theorem a4O : Has Tryz.prog 98 a5k := by
 refine a0d mixed a0g (HasL.cons a5f HasL.nil) [0, 2, 3] ((fun a n (_ : Nat) => (fun s _ => ⟨Nat, fun i => ⟨[(0, true, .str s), (2, true, .bool false), (3, true, .int .i64 i)], []⟩, fun i => i <= s.length /\ (s.take i).all (fun b => a9q b.toNat) = true, fun i => s.length - i⟩) a n)) [] Tryz.func98 (by unfold Tryz.f98; rfl) (fun _ => ⟨(), trivial⟩) ?_
 intro (s : Str) _
 simp -implicitDefEqProofs [a5k, Con.fn, tTab, a6C]
 try dsimp only
 try simp +contextual [eStr, a0r, a0t, a0x, a0u, List.getElem?_eq_getElem, a0v, a0m, a0s, a0q, <- a0f, <- a0e, a0n, a0o, a0l, a0k, a0p, a0j, and_assoc]
 repeat' (first | intro _ | apply And.intro)
 all_goals first | omega | grind [a0z, a0X, a9q, List.take_succ_eq_append_getElem]
def a6h (s : Str) : Bool := decide (s.length <= 12) && s.all fun b => decide (32 <= b.toNat) && decide (b.toNat <= 126)
def b3Q : Con := .fn 23 Str (fun s => [.str s]) (fun _ => True) (fun s => .bool (a6h s)) (fun _ => [])
theorem c2l : Has Tryz.prog 157 b3Q := by
 refine a0d mixed a0g HasL.nil [0, 2, 3] ((fun a n (_ : Nat) => (fun s _ => ⟨Nat, fun i => ⟨[(0, true, .str s), (2, true, .bool false), (3, true, .int .i64 i)], []⟩, fun i => i <= s.length /\ s.length <= 12 /\ (s.take i).all (fun b => decide (32 <= b.toNat) && decide (b.toNat <= 126)) = true, fun i => s.length - i⟩) a n)) [] Tryz.func157 (by unfold Tryz.f157; rfl) (fun _ => ⟨(), trivial⟩) ?_
 intro (s : Str) _
 simp -implicitDefEqProofs [b3Q, Con.fn, tTab]
 try dsimp only
 try simp +contextual [eStr, a0r, a0t, a0x, a0u, List.getElem?_eq_getElem, a0v, a0m, a0s, a0q, <- a0f, <- a0e, a0n, a0o, a0l, a0k, a0p, a0j, and_assoc]
 repeat' (first | intro _ | apply And.intro)
 all_goals first | omega | grind [a0z, a6h, List.take_succ_eq_append_getElem]
def b3K : Con := .fn 23 Str (fun s => [.str s]) (fun _ => True) (fun s => .bool (a6h s)) (fun _ => [])
theorem c1X : Has Tryz.prog 176 b3K := by
 refine a0d mixed a0g HasL.nil [0, 2, 3] ((fun a n (_ : Nat) => (fun s _ => ⟨Nat, fun i => ⟨[(0, true, .str s), (2, true, .bool false), (3, true, .int .i64 i)], []⟩, fun i => i <= s.length /\ (s.take i).all (fun b => decide (32 <= b.toNat) && decide (b.toNat <= 126)) = true, fun i => s.length - i⟩) a n)) [] Tryz.func176 (by unfold Tryz.f176; rfl) (fun _ => ⟨(), trivial⟩) ?_
 intro (s : Str) _
 simp -implicitDefEqProofs [b3K, Con.fn, tTab]
 try dsimp only
 try simp +contextual [eStr, a0r, a0t, a0x, a0u, List.getElem?_eq_getElem, a0v, a0m, a0s, a0q, <- a0f, <- a0e, a0n, a0o, a0l, a0k, a0p, a0j, and_assoc]
 repeat' (first | intro _ | apply And.intro)
 all_goals first | omega | grind [a0z, a6h, List.take_succ_eq_append_getElem]
def a1g (t : List Str) : Bool := decide (t.length <= 10) && t.all a6h
def a6R : Con := .fn 18 (List Str) (fun t => [.sl true 1 (a0b t)]) (fun _ => True) (fun t => .bool (a1g t)) (fun _ => [])
theorem a6N : Has Tryz.prog 115 a6R := by
 refine a0d mixed a0g (HasL.cons c2l HasL.nil) [0, 2, 4, 8, 9, 10] ((fun a n (_ : Nat) => (fun t _ => ⟨Nat, fun i => ⟨[(2, true, .bool false), (8, true, .sl true 1 (a0b t)), (9, true, .int .i64 t.length), (10, true, .int .i64 i)], []⟩, fun i => i <= t.length /\ t.length <= 10 /\ (t.take i).all a6h = true, fun i => t.length - i⟩) a n)) [] Tryz.func115 (by unfold Tryz.f115; rfl) (fun _ => ⟨(), trivial⟩) ?_
 intro (t : List Str) _
 simp -implicitDefEqProofs [a6R, Con.fn, tTab, b3Q]
 try dsimp only
 try simp +contextual [eStr, a0r, a0t, a0x, a0u, List.getElem?_eq_getElem, a0v, a0m, a0s, a0q, <- a0f, <- a0e, a0n, a0o, a0l, a0k, a0p, a0j, and_assoc]
 repeat' (first | intro _ | apply And.intro)
 all_goals first | omega | grind [a0z, a1g, List.take_succ_eq_append_getElem]
def b2z : Con := .fn 19 (List Str) (fun t => [.sl true 1 (a0b t)]) (fun _ => True) (fun t => .bool (a1g t)) (fun _ => [])
theorem b2c : Has Tryz.prog 140 b2z := by
 refine a0d mixed a0g (HasL.cons c1X HasL.nil) [0, 2, 3] ((fun a n (_ : Nat) => (fun t _ => ⟨Nat, fun i => ⟨[(0, true, .sl true 1 (a0b t)), (2, true, .bool false), (3, true, .int .i64 i)], []⟩, fun i => i <= t.length /\ (t.take i).all a6h = true, fun i => t.length - i⟩) a n)) [] Tryz.func140 (by unfold Tryz.f140; rfl) (fun _ => ⟨(), trivial⟩) ?_
 intro (t : List Str) _
 simp -implicitDefEqProofs [b2z, Con.fn, tTab, b3K]
 try dsimp only
 try simp +contextual [eStr, a0r, a0t, a0x, a0u, List.getElem?_eq_getElem, a0v, a0m, a0s, a0q, <- a0f, <- a0e, a0n, a0o, a0l, a0k, a0p, a0j, and_assoc]
 repeat' (first | intro _ | apply And.intro)
 all_goals first | omega | grind [a0z, a1g, List.take_succ_eq_append_getElem]
def a6A : Con := .fn 26 (List Str × List Str) (fun a => [.sl true 1 (a0b a.1), .sl true 1 (a0b a.2)]) (fun _ => True) (fun a => .bool (decide (a.1 = a.2))) (fun _ => [])
theorem a9t : Has Tryz.prog 19 a6A := by
 refine a0d mixed a0g HasL.nil [0, 1, 2, 3, 4, 5] ((fun a n (_ : Nat) => (fun a _ => ⟨Nat, fun i => ⟨[(0, true, .sl true 1 (a0b a.1)), (1, true, .sl true 1 (a0b a.2)), (4, true, .bool false), (5, true, .int .i64 i)], []⟩, fun i => i <= a.1.length /\ a.1.length = a.2.length /\ a.1.take i = a.2.take i, fun i => a.1.length - i⟩) a n)) [] Tryz.func19 (by unfold Tryz.f19; rfl) (fun _ => ⟨(), trivial⟩) ?_
 intro a _
 obtain ⟨l, r⟩ := a
 simp -implicitDefEqProofs [a6A, Con.fn, tTab]
 try dsimp only
 try simp +contextual [eStr, a0r, a0t, a0x, a0u, List.getElem?_eq_getElem, a0v, a0m, a0s, a0q, <- a0f, <- a0e, a0n, a0o, a0l, a0k, a0p, a0j, and_assoc]
 repeat' (first | intro _ | apply And.intro)
 all_goals first | omega | grind [a0z, a5U, a4j]
def szL : List Str -> Int -> Int
 | [], l => l
 | s :: r, l => if l - s.length < 0 then -1 else szL r (l - s.length)
def a3G (a : List Str) (l : Int) : Int := if l - a.length < 0 then -1 else szL a (l - a.length)
def a6D : Con := .fn 28 (List Str × Int) (fun a => [.sl true 1 (a0b a.1), .int .i64 a.2]) (fun a => 0 <= a.2 /\ a.2 <= 1048576) (fun a => .int .i64 (a3G a.1 a.2)) (fun _ => [])
theorem c8X {a : List Str} {i : Nat} {l : Int} (h : i < a.length) : szL (a.drop i) l = if l - a[i].length < 0 then -1 else szL (a.drop (i + 1)) (l - a[i].length) := by
 rw [List.drop_eq_getElem_cons h]; rfl
theorem d1q {a : List Str} {i : Nat} {l : Int} (h : a.length <= i) : szL (a.drop i) l = l := by
 rw [List.drop_eq_nil_of_le h]; rfl
theorem a9w : Has Tryz.prog 12 a6D := by
 refine a0d mixed a0g HasL.nil [0, 1, 4, 5] ((fun a n (_ : Nat) => (fun a _ => ⟨Nat × Int, fun t => ⟨[(0, true, .sl true 1 (a0b a.1)), (1, true, .int .i64 t.2), (4, true, .int .i64 0), (5, true, .int .i64 t.1)], []⟩, fun t => t.1 <= a.1.length /\ 0 <= t.2 /\ t.2 <= 1048576 /\ szL (a.1.drop t.1) t.2 = a3G a.1 a.2, fun t => a.1.length - t.1⟩) a n)) [] Tryz.func12 (by unfold Tryz.f12; rfl) (fun _ => ⟨(), trivial⟩) ?_
 intro a ha
 obtain ⟨l, n⟩ := a
 obtain ⟨h1, h2⟩ : 0 <= n /\ n <= 1048576 := ha
 simp -implicitDefEqProofs [a6D, Con.fn, tTab]
 try dsimp only
 try simp +contextual [eStr, a0r, a0t, a0x, a0u, List.getElem?_eq_getElem, a0v, a0m, a0s, a0q, <- a0f, <- a0e, a0n, a0o, a0l, a0k, a0p, a0j, and_assoc]
 repeat' (first | intro _ | apply And.intro)
 all_goals first | omega | grind [a0z, a3G, c8X, d1q]
abbrev a1Y (h : Nat) (a : List Str) : List (Nat × Blk) := [(h, .own 9 1 true (a0b a))]
abbrev a1T (h : Nat) (a : List FileD) : List (Nat × Blk) := [(h, .own 66 2 true (a0a a))]
def a6E : Con := .fn 22 (List Str) (fun a => [.sl true 1 (a0b a)]) (fun a => a.length <= 1048576) (fun a => .own 8 1 (a0b a)) (fun a => a1Y 8 a)
theorem a9x : Has Tryz.prog 15 a6E := by
 refine a0d mixed a0g HasL.nil [0, 2, 3, 4] ((fun a n (_ : Nat) => (fun a _ => ⟨Nat × List Str, fun t => ⟨[(0, true, .sl true 1 (a0b a)), (2, true, .nil), (3, true, .own 9 1 (a0b t.2)), (4, true, .int .i64 t.1)], a1Y 9 t.2⟩, fun t => t.1 <= a.length /\ t.2.length = a.length /\ t.2.take t.1 = a.take t.1, fun t => a.length - t.1⟩) a n)) [] Tryz.func15 (by unfold Tryz.f15; rfl) (fun _ => ⟨(), trivial⟩) ?_
 intro (a : List Str) ha
 replace ha : a.length <= 1048576 := ha
 simp -implicitDefEqProofs [a6E, Con.fn, tTab]
 try dsimp only
 try simp +contextual [eStr, a0r, a0t, a0x, a0u, List.getElem?_eq_getElem, a0v, a0m, a0s, a0q, <- a0f, <- a0e, a0n, a0o, a0l, a0k, a0p, a0j, and_assoc]
 repeat' (first | intro _ | apply And.intro)
 all_goals first | omega | grind [a0z, a7p, a4j]
def szF (f : FileD) (l : Int) : Int := if l - f.path.length < 0 then -1 else if a3G f.text (l - f.path.length) < 0 then -1 else a3G f.text (l - f.path.length)
def b3W : Con := .fn 19 (FileD × Int) (fun a => [.agg [.str a.1.path, .sl true 1 (a0b a.1.text)], .int .i64 a.2]) (fun a => 0 <= a.2 /\ a.2 <= 1048576) (fun a => .int .i64 (szF a.1 a.2)) (fun _ => [])
theorem c2P : Has Tryz.prog 175 b3W := by
 refine a0d mixed a0g (HasL.cons a9w HasL.nil) [0, 1, 2, 4] ((fun a n (_ : Nat) => (fun _ => a0E) a n)) [] Tryz.func175 (by unfold Tryz.f175; rfl) (fun _ => ⟨(), trivial⟩) ?_
 intro a ha
 obtain ⟨f, n⟩ := a
 obtain ⟨h1, h2⟩ : 0 <= n /\ n <= 1048576 := ha
 simp -implicitDefEqProofs [b3W, Con.fn, tTab, a6D]
 try dsimp only
 try simp +contextual [eStr, a0r, a0t, a0x, a0u, List.getElem?_eq_getElem, a0v, a0m, a0s, a0q, <- a0f, <- a0e, a0n, a0o, a0l, a0k, a0p, a0j, and_assoc]
 repeat' (first | intro _ | apply And.intro)
 all_goals first | omega | grind [a0z, szF]
def b3Z : Con := .fn 12 FileD (fun f => [.agg [.str f.path, .sl true 1 (a0b f.text)]]) (fun f => f.text.length <= 1048576) (fun f => .agg [.str f.path, .own 8 1 (a0b f.text)]) (fun f => a1Y 8 f.text)
theorem c2Y : Has Tryz.prog 179 b3Z := by
 refine a0d mixed a0g (HasL.cons a9x HasL.nil) [0, 1, 2, 3] ((fun a n (_ : Nat) => (fun _ => a0E) a n)) [] Tryz.func179 (by unfold Tryz.f179; rfl) (fun _ => ⟨(), trivial⟩) ?_
 intro f hf
 obtain ⟨p, x⟩ := f
 replace hf : x.length <= 1048576 := hf
 simp -implicitDefEqProofs [b3Z, Con.fn, tTab, a6E]
 try dsimp only
 try simp +contextual [eStr, a0r, a0t, a0x, a0u, List.getElem?_eq_getElem, a0v, a0m, a0s, a0q, <- a0f, <- a0e, a0n, a0o, a0l, a0k, a0p, a0j, and_assoc]
 repeat' (first | intro _ | apply And.intro)
 all_goals first | omega | grind [a0z]
def b1R : Con := .fn 23 (List FileD) (fun a => [.sl true 2 (a0a a)]) (fun a => a.length <= 1048576 /\ ∀ f ∈ a, f.text.length <= 1048576) (fun a => .own 8 2 (a0a a)) (fun a => a1T 8 a)
theorem b9J : Has Tryz.prog 150 b1R := by
 refine a0d mixed a0g (HasL.cons c2Y HasL.nil) [0, 2, 3, 4] ((fun a n (_ : Nat) => (fun a _ => ⟨Nat × List FileD, fun t => ⟨[(0, true, .sl true 2 (a0a a)), (2, true, .nil), (3, true, .own 9 2 (a0a t.2)), (4, true, .int .i64 t.1)], a1T 9 t.2⟩, fun t => t.1 <= a.length /\ t.2.length = a.length /\ t.2.take t.1 = a.take t.1, fun t => a.length - t.1⟩) a n)) [] Tryz.func150 (by unfold Tryz.f150; rfl) (fun _ => ⟨(), trivial⟩) ?_
 intro (a : List FileD) ha
 obtain ⟨h1, h2⟩ : a.length <= 1048576 /\ ∀ f ∈ a, f.text.length <= 1048576 := ha
 simp -implicitDefEqProofs [b1R, Con.fn, tTab, b3Z]
 try dsimp only
 try simp +contextual [eStr, a0r, a0t, a0x, a0u, List.getElem?_eq_getElem, a0v, a0m, a0s, a0q, <- a0f, <- a0e, a0n, a0o, a0l, a0k, a0p, a0j, and_assoc, <- FileD.eq_iff]
 repeat' (first | intro _ | apply And.intro)
 all_goals first | omega | grind [a0z, a7p, a4j]
def szFL : List FileD -> Int -> Int
 | [], l => l
 | f :: r, l => if szF f l < 0 then -1 else szFL r (szF f l)
def a3v (a : List FileD) (l : Int) : Int := if l - a.length < 0 then -1 else szFL a (l - a.length)
theorem c6f {a : List FileD} {i : Nat} {l : Int} (h : i < a.length) : szFL (a.drop i) l = if szF a[i] l < 0 then -1 else szFL (a.drop (i + 1)) (szF a[i] l) := by
 rw [List.drop_eq_getElem_cons h]; rfl
theorem c8U {a : List FileD} {i : Nat} {l : Int} (h : a.length <= i) : szFL (a.drop i) l = l := by
 rw [List.drop_eq_nil_of_le h]; rfl
theorem c6h : ∀ {a : List Str} {l : Int}, 0 <= l -> szL a l <= l := by
 intro a
 induction a with
 | nil => intro l _; exact Int.le_refl l
 | cons s r ih =>
  intro l h
  simp only [szL]
  split
  ·omega
  ·have := ih (l := l - s.length) (by omega); omega
theorem c6i {a : List Str} {l : Int} (h : 0 <= l) : a3G a l <= l := by
 unfold a3G
 split
 ·omega
 ·have := c6h (a := a) (l := l - a.length) (by omega); omega
theorem b8m {f : FileD} {l : Int} (h : 0 <= l) : szF f l <= l := by
 unfold szF
 split
 ·omega
 ·split
  ·omega
  ·have := c6i (a := f.text) (l := l - f.path.length) (by omega); omega
def b1P : Con := .fn 27 (List FileD × Int) (fun a => [.sl true 2 (a0a a.1), .int .i64 a.2]) (fun a => 0 <= a.2 /\ a.2 <= 1048576) (fun a => .int .i64 (a3v a.1 a.2)) (fun _ => [])
theorem b9G : Has Tryz.prog 139 b1P := by
 refine a0d mixed a0g (HasL.cons c2P HasL.nil) [0, 1, 4, 5] ((fun a n (_ : Nat) => (fun a _ => ⟨Nat × Int, fun t => ⟨[(0, true, .sl true 2 (a0a a.1)), (1, true, .int .i64 t.2), (4, true, .int .i64 0), (5, true, .int .i64 t.1)], []⟩, fun t => t.1 <= a.1.length /\ 0 <= t.2 /\ t.2 <= 1048576 /\ szFL (a.1.drop t.1) t.2 = a3v a.1 a.2, fun t => a.1.length - t.1⟩) a n)) [] Tryz.func139 (by unfold Tryz.f139; rfl) (fun _ => ⟨(), trivial⟩) ?_
 intro a ha
 obtain ⟨l, n⟩ := a
 obtain ⟨h1, h2⟩ : 0 <= n /\ n <= 1048576 := ha
 have hle : ∀ (f : FileD) (l : Int), 0 <= l -> szF f l <= l := fun f l => b8m
 simp -implicitDefEqProofs [b1P, Con.fn, tTab, b3W]
 try dsimp only
 try simp +contextual [eStr, a0r, a0t, a0x, a0u, List.getElem?_eq_getElem, a0v, a0m, a0s, a0q, <- a0f, <- a0e, a0n, a0o, a0l, a0k, a0p, a0j, and_assoc, <- FileD.eq_iff]
 repeat' (first | intro _ | apply And.intro)
 all_goals first | omega | grind [a0z, a3v, c6f, c8U]
def b3F : Con := .fn 16 (FileD × FileD) (fun a => [.agg [.str a.1.path, .sl true 1 (a0b a.1.text)], .agg [.str a.2.path, .sl true 1 (a0b a.2.text)]]) (fun _ => True) (fun a => .bool (decide (a.1 = a.2))) (fun _ => [])
theorem c1i : Has Tryz.prog 186 b3F := by
 refine a0d mixed a0g (HasL.cons a9t HasL.nil) [0, 1, 2, 3, 4] ((fun a n (_ : Nat) => (fun _ => a0E) a n)) [] Tryz.func186 (by unfold Tryz.f186; rfl) (fun _ => ⟨(), trivial⟩) ?_
 intro a _
 obtain ⟨⟨p, x⟩, ⟨q, y⟩⟩ := a
 simp -implicitDefEqProofs [b3F, Con.fn, tTab, a6A]
 try dsimp only
 try simp +contextual [eStr, a0r, a0t, a0x, a0u, List.getElem?_eq_getElem, a0v, a0m, a0s, a0q, <- a0f, <- a0e, a0n, a0o, a0l, a0k, a0p, a0j, and_assoc]
 repeat' (first | intro _ | apply And.intro)
 all_goals first | omega | grind [a0z]
def b1B : Con := .fn 27 (List FileD × List FileD) (fun a => [.sl true 2 (a0a a.1), .sl true 2 (a0a a.2)]) (fun _ => True) (fun a => .bool (decide (a.1 = a.2))) (fun _ => [])
theorem b8M : Has Tryz.prog 155 b1B := by
 refine a0d mixed a0g (HasL.cons c1i HasL.nil) [0, 1, 2, 3, 4, 5] ((fun a n (_ : Nat) => (fun a _ => ⟨Nat, fun i => ⟨[(0, true, .sl true 2 (a0a a.1)), (1, true, .sl true 2 (a0a a.2)), (4, true, .bool false), (5, true, .int .i64 i)], []⟩, fun i => i <= a.1.length /\ a.1.length = a.2.length /\ a.1.take i = a.2.take i, fun i => a.1.length - i⟩) a n)) [] Tryz.func155 (by unfold Tryz.f155; rfl) (fun _ => ⟨(), trivial⟩) ?_
 intro a _
 obtain ⟨l, r⟩ := a
 simp -implicitDefEqProofs [b1B, Con.fn, tTab, b3F]
 try dsimp only
 try simp +contextual [eStr, a0r, a0t, a0x, a0u, List.getElem?_eq_getElem, a0v, a0m, a0s, a0q, <- a0f, <- a0e, a0n, a0o, a0l, a0k, a0p, a0j, and_assoc, <- FileD.eq_iff]
 repeat' (first | intro _ | apply And.intro)
 all_goals first | omega | grind [a0z, a5U, a4j]
def a5K (p s : Str) : Bool := decide (p.length <= s.length) && decide (s.take p.length = p)
def a7d : Con := .fn 18 (Str × Str) (fun a => [.str a.1, .str a.2]) (fun _ => True) (fun a => .bool (a5K a.2 a.1)) (fun _ => [])
theorem b3v : Has Tryz.prog 188 a7d := by
 refine a0d mixed a0g HasL.nil [0, 1, 4] ((fun a n (_ : Nat) => (fun _ => a0E) a n)) [] Tryz.func188 (by unfold Tryz.f188; rfl) (fun _ => ⟨(), trivial⟩) ?_
 intro a _
 obtain ⟨s, p⟩ := a
 simp -implicitDefEqProofs [a7d, Con.fn, tTab, a5K]
 try dsimp only
 try simp +contextual [eStr, a0r, a0t, a0x, a0u, List.getElem?_eq_getElem, a0v, a0m, a0s, a0q, <- a0f, <- a0e, a0n, a0o, a0l, a0k, a0p, a0j, and_assoc]
 repeat' (first | intro _ | apply And.intro)
 all_goals first | omega | grind [a0z]
def a6B : Con := .fn 8 (Str × Str) (fun a => [.str a.1, .str a.2]) (fun _ => True) (fun a => .bool (a5K a.2 a.1)) (fun _ => [])
theorem a9u : Has Tryz.prog 159 a6B := by
 refine a0d mixed a0g (HasL.cons b3v HasL.nil) [0, 1, 4] ((fun a n (_ : Nat) => (fun _ => a0E) a n)) [] Tryz.func159 (by unfold Tryz.f159; rfl) (fun _ => ⟨(), trivial⟩) ?_
 intro a _
 obtain ⟨s, p⟩ := a
 simp -implicitDefEqProofs [a6B, Con.fn, tTab, a7d]
 try dsimp only
 try simp +contextual [eStr, a0r, a0t, a0x, a0u, List.getElem?_eq_getElem, a0v, a0m, a0s, a0q, <- a0f, <- a0e, a0n, a0o, a0l, a0k, a0p, a0j, and_assoc]
 repeat' (first | intro _ | apply And.intro)
 all_goals first | omega | grind [a0z]
def inB (d p : Str) : Bool := decide (d.length < p.length) && decide (p.take d.length = d) && decide (p.getD d.length 0 = 47)
theorem c3d (a : UInt8) : ((a.toNat : Int) = 47) = (a = 47) := by
 apply propext
 constructor
 ·intro h
  have : a.toNat = 47 := by omega
  exact UInt8.toNat_inj.1 (by simpa using this)
 ·rintro rfl; rfl
def b2B : Con := .fn 25 (Str × Str) (fun a => [.str a.1, .str a.2]) (fun _ => True) (fun a => .bool (inB a.1 a.2)) (fun _ => [])
theorem b2d : Has Tryz.prog 141 b2B := by
 refine a0d mixed a0g HasL.nil [0, 1, 4] ((fun a n (_ : Nat) => (fun _ => a0E) a n)) [] Tryz.func141 (by unfold Tryz.f141; rfl) (fun _ => ⟨(), trivial⟩) ?_
 intro a _
 obtain ⟨d, p⟩ := a
 simp -implicitDefEqProofs [b2B, Con.fn, tTab, inB, c3d]
 try dsimp only
 try simp +contextual [eStr, a0r, a0t, a0x, a0u, List.getElem?_eq_getElem, a0v, a0m, a0s, a0q, <- a0f, <- a0e, a0n, a0o, a0l, a0k, a0p, a0j, and_assoc, c3d]
 repeat' (first | intro _ | apply And.intro)
 all_goals first | omega | grind [a0z, c3d]
def cutL (b : Int) (most : Nat) : Str -> Str -> Nat -> List Str
 | [], c, _ => [c]
 | x :: r, c, n => if n < most then (if (x.toNat : Int) = b then c :: cutL b most r [] (n + 1) else cutL b most r (c ++ [x]) n) else [c ++ x :: r]
theorem c3V {b : Int} {most : Nat} {r c : Str} {n : Nat} (h : most <= n) : cutL b most r c n = [c ++ r] := by
 cases r with
 | nil => simp [cutL]
 | cons x r => simp [cutL, Nat.not_lt.2 h]
def a1J (s : Str) (fr i : Nat) : Str := (s.drop fr).take (i - fr)
theorem c5D {s : Str} {fr i : Nat} (h : fr <= i) : a1J s fr i ++ s.drop i = s.drop fr := by
 unfold a1J
 have : s.drop i = (s.drop fr).drop (i - fr) := by rw [List.drop_drop]; congr 1; omega
 rw [this, List.take_append_drop]
theorem c5E {s : Str} {fr i : Nat} (h : s.length <= i) (hf : fr <= i) : a1J s fr i = s.drop fr := by
 unfold a1J
 exact List.take_of_length_le (by rw [List.length_drop]; omega)
theorem c2D {s : Str} {fr : Nat} : a1J s fr fr = [] := by simp [a1J]
theorem c2C {s : Str} {fr i : Nat} (h : i < s.length) (hf : fr <= i) : a1J s fr (i + 1) = a1J s fr i ++ [s[i]] := by
 unfold a1J
 rw [show i + 1 - fr = (i - fr) + 1 by omega, List.take_succ_eq_append_getElem (by rw [List.length_drop]; omega)]
 congr 2
 rw [List.getElem_drop]
 congr 1
 omega
theorem c7e {b : Int} {most : Nat} {s : Str} {fr i n : Nat} (h : i < s.length) (hf : fr <= i) (hn : n < most) :
  cutL b most (s.drop i) (a1J s fr i) n = if (s[i].toNat : Int) = b then a1J s fr i :: cutL b most (s.drop (i + 1)) (a1J s (i + 1) (i + 1)) (n + 1) else cutL b most (s.drop (i + 1)) (a1J s fr (i + 1)) n := by
 rw [List.drop_eq_getElem_cons h, c2D, c2C h hf]
 simp [cutL, hn]
theorem c9W {b : Int} {most : Nat} {s : Str} {fr i n : Nat} (h : s.length <= i) (hf : fr <= i) : cutL b most (s.drop i) (a1J s fr i) n = [s.drop fr] := by
 rw [List.drop_eq_nil_of_le h, <- c5E h hf]; rfl
theorem c7d {b : Int} {most : Nat} {s : Str} {fr i n : Nat} (h : most <= n) (hf : fr <= i) : cutL b most (s.drop i) (a1J s fr i) n = [s.drop fr] := by
 rw [c3V h, c5D hf]
def cutB (s : Str) (b : Int) (most : Nat) : List Str := cutL b most s [] 0
theorem c8s (s : Str) (fr i : Nat) : (s.drop fr).take (i - fr) = a1J s fr i := rfl
theorem c2B (s : Str) (fr : Nat) : a1J s fr s.length = s.drop fr := by
 unfold a1J
 exact List.take_of_length_le (by rw [List.length_drop]; omega)
def b6F : Con := .fn 43 (Str × Int × Nat) (fun a => [.str a.1, .int .u8 a.2.1, .int .i64 a.2.2]) (fun a => a.2.2 <= 1000000) (fun a => .own 8 1 (a0b (cutB a.1 a.2.1 a.2.2))) (fun a => a1Y 8 (cutB a.1 a.2.1 a.2.2))
theorem c4S : Has Tryz.prog 163 b6F := by
 refine a0d mixed a0g HasL.nil [0, 1, 2, 6, 7, 8, 9] ((fun a n (_ : Nat) => (fun a _ => ⟨List Str × Nat × Nat, fun t => ⟨[(0, true, .str a.1), (1, true, .int .u8 a.2.1), (2, true, .int .i64 a.2.2), (6, true, .nil), (7, true, .own 9 1 (a0b t.1)), (8, true, .int .i64 t.2.1), (9, true, .int .i64 t.2.2)], a1Y 9 t.1⟩, fun t => t.2.1 <= t.2.2 /\ t.2.2 <= a.1.length /\ t.1.length <= a.2.2 /\ t.1 ++ cutL a.2.1 a.2.2 (a.1.drop t.2.2) (a1J a.1 t.2.1 t.2.2) t.1.length = cutB a.1 a.2.1 a.2.2, fun t => a.1.length - t.2.2⟩) a n)) [] Tryz.func163 (by unfold Tryz.f163; rfl) (fun _ => ⟨(), trivial⟩) ?_
 intro a ha
 obtain ⟨s, b, most⟩ := a
 replace ha : most <= 1000000 := ha
 have hs : cutL b most s (a1J s 0 0) 0 = cutB s b most := rfl
 simp -implicitDefEqProofs [b6F, Con.fn, tTab]
 try dsimp only
 try simp +contextual [eStr, a0r, a0t, a0x, a0u, List.getElem?_eq_getElem, a0v, a0m, a0s, a0q, <- a0f, <- a0e, a0n, a0o, a0l, a0k, a0p, a0j, and_assoc, c8s, c2B]
 repeat' (first | intro _ | apply And.intro)
 all_goals first | omega | grind [a0z, c7e, c9W, c7d]
theorem c1e (a : Nat) : ((a : Int) = 3) = (a = 3) := by apply propext; omega
def a3p (s : Str) : Bool := (cutB s 47 3).all a0X && decide ((cutB s 47 3).length <= 3)
def a7V : Con := .fn 22 Str (fun s => [.str s]) (fun _ => True) (fun s => .bool (a3p s)) (fun _ => [])
theorem a8Z : Has Tryz.prog 121 a7V := by
 refine a0d mixed a0g (HasL.cons c4S (HasL.cons a4O HasL.nil)) [0, 2, 3, 4] ((fun a n (_ : Nat) => (fun s _ => ⟨Nat, fun i => ⟨[(2, true, .bool false), (3, true, .own 9 1 (a0b (cutB s 47 3))), (4, true, .int .i64 i)], a1Y 9 (cutB s 47 3)⟩, fun i => i <= (cutB s 47 3).length /\ ((cutB s 47 3).take i).all a0X = true, fun i => (cutB s 47 3).length - i⟩) a n)) [] Tryz.func121 (by unfold Tryz.f121; rfl) (fun _ => ⟨(), trivial⟩) ?_
 intro (s : Str) _
 simp -implicitDefEqProofs [a7V, Con.fn, tTab, b6F, a5k]
 try dsimp only
 try simp +contextual [eStr, a0r, a0t, a0x, a0u, List.getElem?_eq_getElem, a0v, a0m, a0s, a0q, <- a0f, <- a0e, a0n, a0o, a0l, a0k, a0p, a0j, and_assoc, c1e]
 repeat' (first | intro _ | apply And.intro)
 all_goals first | omega | grind [a0z, a3p, List.take_succ_eq_append_getElem]
def leqS (a b : Str) : Bool := Go.Op.bytesLess a b || decide (a = b)
def a4n (t : List FileD) (i : Nat) : Bool := a3p (t.getD i default).path && a1g (t.getD i default).text && (decide (i = 0) || !leqS (t.getD i default).path (t.getD (i - 1) default).path)
def noIn (t : List FileD) (i : Nat) : Bool := t.all fun g => !inB (t.getD i default).path g.path
def a0S (t : List FileD) : Bool := (List.range t.length).all (fun i => a4n t i && noIn t i) && decide (t.length <= 8)
def a8E : Con := .fn 65 (List FileD) (fun t => [.sl true 2 (a0a t)]) (fun _ => True) (fun t => .bool (a0S t)) (fun _ => [])
def c2b (t : List FileD) : Inv := ⟨Nat, fun i => ⟨[(0, true, .sl true 2 (a0a t)), (2, true, .bool false), (3, true, .int .i64 i)], []⟩, fun i => i <= t.length /\ ∀ j, j < i -> a4n t j = true /\ noIn t j = true, fun i => t.length - i⟩
def c2a (t : List FileD) (g : Nat) : Inv := ⟨Nat, fun k => ⟨[(0, true, .sl true 2 (a0a t)), (2, true, .bool false), (3, true, .int .i64 g), (4, true, .int .i64 k)], []⟩, fun x => g < t.length /\ x <= t.length /\ (∀ j, j < g -> a4n t j = true /\ noIn t j = true) /\ a4n t g = true /\ ∀ k, k < x -> inB (t.getD g default).path (t.getD k default).path = false, fun x => t.length - x⟩
def b4n (t : List FileD) (n g : Nat) : Inv := if n = 2 then c2b t else c2a t g
theorem c4W (t : List FileD) (g : Nat) : b4n t 2 g = c2b t := rfl
theorem c4X (t : List FileD) (g : Nat) : b4n t 7 g = c2a t g := rfl
set_option maxRecDepth 8000
theorem a7k : Has Tryz.prog 99 a8E := by
 refine a0d mixed a0g (HasL.cons a8Z (HasL.cons b2c (HasL.cons b2d (HasL.cons a5f HasL.nil)))) [0, 2, 3, 4] (fun t => b4n t) [] Tryz.func99 (by unfold Tryz.f99; rfl) (fun _ => ⟨(), trivial⟩) ?_
 intro (t : List FileD) _
 have hs : ∀ i, t.length <= i -> ¬ i < t.length := by omega
 have hE : a0S t = true ↔ (∀ i, i < t.length -> a4n t i = true /\ noIn t i = true) /\ t.length <= 8 := by
  simp [a0S]
 have hF : ∀ i, i < t.length -> (a4n t i && noIn t i) = false -> a0S t = false := by
  intro i hi h
  rcases hb : a0S t with _ | _
  ·rfl
  ·exact absurd ((hE.1 hb).1 i hi) (by simpa using h)
 have hH : ∀ i, i < t.length -> a4n t i = false -> a0S t = false := fun i hi h => hF i hi (by simp [h])
 have hN : ∀ i k, i < t.length -> k < t.length -> inB (t.getD i default).path (t.getD k default).path = true -> a0S t = false := by
  intro i k hi hk h
  refine hF i hi ?_
  have : noIn t i = false := by
   simp only [noIn, List.all_eq_false]
   exact ⟨t[k], List.getElem_mem hk, by simp [List.getD_eq_getElem?_getD, hk] at h ⊢; simpa [hk] using h⟩
  simp [this]
 have hI : ∀ i, (∀ k, k < t.length -> inB (t.getD i default).path (t.getD k default).path = false) -> noIn t i = true := by
  intro i h
  simp only [noIn, List.all_eq_true]
  intro g hg
  obtain ⟨k, hk, rfl⟩ := List.getElem_of_mem hg
  have := h k hk
  simpa [List.getD_eq_getElem?_getD, hk] using this
 simp -implicitDefEqProofs [a8E, Con.fn, tTab, a7V, b2z, b2B, a6C, c4W, c4X, c2b, c2a]
 try dsimp only
 intro i hi hj hl
 have e1 : ∀ k (h : k < t.length), Option.map a0r t[k]? = some (a0r t[k]) := by
  intro k h
  simp [List.getElem?_eq_getElem h]
 have e2 : i < t.length -> i - 1 < t.length := by omega
 constructor
 ·intro hlt
  have e3 := e1 i hlt
  have e4 := e1 (i - 1) (e2 hlt)
  simp [hlt, e2 hlt, e3, e4, a0r, eStr, D.asStr, D.asRows]
  try simp +contextual [eStr, a0r, a0t, a0x, a0u, List.getElem?_eq_getElem, a0v, a0m, a0s, a0q, <- a0f, <- a0e, a0n, a0o, a0l, a0k, a0p, a0j, and_assoc]
  repeat' (first | intro _ | apply And.intro)
  all_goals first | omega | grind [a0z, a4n, leqS]
 ·have hX : t.length <= i -> a0S t = decide (t.length <= 8) := by
   intro h
   have : a0S t = true ↔ t.length <= 8 := by
    rw [hE]
    exact ⟨fun h => h.2, fun h8 => ⟨fun j hj' => hj j (by omega), h8⟩⟩
   cases h' : a0S t <;> simp_all
  try simp +contextual [eStr, a0r, a0t, a0x, a0u, List.getElem?_eq_getElem, a0v, a0m, a0s, a0q, <- a0f, <- a0e, a0n, a0o, a0l, a0k, a0p, a0j, and_assoc]
  repeat' (first | intro _ | apply And.intro)
  all_goals first | omega | grind [a0z, a4n, leqS]
def a1E (t : List FileD) : Nat := (t.map fun f => f.text.length).sum
theorem b9q (t : List FileD) (i : Nat) (h : i < t.length) : a1E (t.take (i + 1)) = a1E (t.take i) + t[i].text.length := by
 unfold a1E
 rw [List.take_succ_eq_append_getElem h, List.map_append, List.sum_append]
 rfl
theorem a6a (t : List FileD) (h : a0S t = true) : t.length <= 8 /\ ∀ f ∈ t, f.text.length <= 64 := by
 simp only [a0S, Bool.and_eq_true, decide_eq_true_eq, List.all_eq_true, List.mem_range, a4n] at h
 refine ⟨h.2, fun f hf => ?_⟩
 obtain ⟨i, hi, rfl⟩ := List.getElem_of_mem hf
 have := (h.1 i hi).1.1.2
 simp [List.getD_eq_getElem?_getD, hi, a1g] at this
 omega
def scal : AV -> Option Value
 | .int k n => some (.int k n)
 | .bool b => some (.bool b)
 | .str s => some (.string ⟨s.toArray⟩)
 | _ => none
theorem c8J {w m β c v x u} (h : RelL w m β c [v] [u]) (hs : scal v = some x) : u = x := by
 cases v <;> simp only [scal, Option.some.injEq, reduceCtorEq] at hs
 all_goals cases h; exact hs
theorem c5S {w m β c} : ∀ {vs : List AV} {us xs : List Value}, RelL w m β c vs us -> vs.mapM scal = some xs -> us = xs := by
 intro vs
 induction vs with
 | nil => intro us xs h hm; cases h; simp at hm; exact hm.symm
 | cons v vs ih =>
  intro us xs h hm
  obtain ⟨u, us', rfl, h1, h2⟩ := h.uncons
  rw [List.mapM_cons] at hm
  cases hv : scal v with
  | none => rw [hv] at hm; simp at hm
  | some x =>
   rw [hv] at hm
   cases hvs : vs.mapM scal with
   | none => rw [hvs] at hm; simp at hm
   | some ys =>
    rw [hvs] at hm
    simp at hm
    subst hm
    rw [c8J h1 hv, ih h2 hvs]
theorem c8D {w m β c v x} (hs : scal v = some x) (hok : ∀ s, v = .str s -> s.length <= maxLen) : RelL w m β c [v] [x] := by
 cases v <;> simp only [scal, Option.some.injEq, reduceCtorEq] at hs
 all_goals subst hs
 ·exact .int .lnil
 ·exact .bool .lnil
 ·exact .str (hok _ rfl) .lnil
theorem a5r {c : Cx} {k : Con} {x : k.A} {vs : List Value} {w β fp} (hl : vs.length = (k.args x).length) (S : SatI c (k.start2 x) ⟨vs.toArray ++ Array.replicate (k.n - vs.length) undef, []⟩ w β fp) :
  RelL w (k.start2 x).m β c (k.args x) vs := by
 have key : ∀ (i : Nat) (v : AV) (u : Value), (k.args x)[i]? = some v -> vs[i]? = some u -> RelL w (k.start2 x).m β c [v] [u] := by
  intro i v u hv hu
  have := (S.env i true v (by simp [Con.start2, hv])).2.1 rfl
  have hi : i < vs.length := (List.getElem?_eq_some_iff.1 hu).1
  have e : (vs.toArray ++ Array.replicate (k.n - vs.length) undef).getD i undef = u := by
   rw [Array.getD_eq_getD_getElem?, Array.getElem?_append_left (by simpa using hi)]
   simp [hu]
  rw [e] at this
  exact this
 clear S
 generalize k.args x = xs at hl key
 induction xs generalizing vs with
 | nil => cases vs with | nil => exact .lnil | cons => simp at hl
 | cons v xs ih =>
  cases vs with
  | nil => simp at hl
  | cons u vs =>
   exact (key 0 v u rfl rfl).append (ih (by simpa using hl) fun i v' u' h1 h2 => key (i + 1) v' u' h1 h2)
theorem b7b {P : Program} {f : Nat} {n : Nat} {A : Type} {args : A -> List AV} {pre : A -> Prop} {res : A -> AV} {rv : A -> Value}
  (henter : ∀ args w, (callFunc f args).run P w = .ok (.enter f args) w) (hres : ∀ a, scal (res a) = some (rv a)) (hstr : ∀ a s, pre a -> res a = .str s -> s.length <= maxLen)
  (h : ∀ a vs w, pre a -> (args a).mapM scal = some vs -> Calls P f vs.toArray w fun e w' => e = .returned (rv a) /\ w' = w) (hsc : ∀ a, ∃ vs, (args a).mapM scal = some vs) :
  Has P f (.fn n A args pre res (fun _ => [])) := by
 refine ⟨henter, fun _ => ⟨(), trivial⟩, fun _ _ => rfl, ?_, trivial, .inl rfl⟩
 intro a hp c _ vs β fp hcn hpins hl1 hl2 S
 obtain ⟨us, hus⟩ := hsc a
 have hvs : vs = us := c5S (a5r hl1 S) hus
 subst hvs
 refine (h a vs c.w0 hp hus).mono ?_
 rintro e w' ⟨rfl, rfl⟩
 refine ⟨(), trivial, rv a, rfl, β, fp, ⟨Array.replicate c.n undef, []⟩, ⟨?_, ?_, ?_, ?_, ?_, S.fg, S.old, S.os, S.tape, S.output, S.size, rfl, by simp, ?_⟩, ?_⟩
 ·intro t g av ht; cases ht
 ·intro h blk hm; cases hm
 ·intro h blk hm; cases hm
 ·intro h h' blk blk' hm; cases hm
 ·intro h blk hm; cases hm
 ·rw [hpins]; intro p hp; simp [Con.pins2] at hp
 ·exact c8D (hres a) (fun s hs => hstr a s hp hs)
set_option maxHeartbeats 1000000 in
set_option maxRecDepth 100000 in
theorem b4k (s : ByteArray) (c : Int) (w : World) :
  Calls Tryz.prog 205 #[.string s, .int .u8 c] w fun e w' => e = .returned (.int .i64 (Lib.indexByte s.data.toList c.toNat.toUInt8)) /\ w' = w := by
 go_enter Tryz.func205, Tryz.ntmps205
 go_wp2
 rw [run_callFunc_extern Tryz.func226 (by kernel_rfl) (by kernel_rfl) (by kernel_rfl) (e := Extern.BytealgIndexByte.indexByte) (by kernel_rfl), Lib.run_indexByteString]
 simp only [Result.andThen]
 rw [Oper.upon_value]
 go_wp2
 go_ret
 exact ⟨rfl, rfl⟩
set_option maxHeartbeats 2000000 in
set_option maxRecDepth 100000 in
theorem b5x (s : ByteArray) (c : UInt8) (w : World) :
  Calls Tryz.prog 190 #[.string s, .string ⟨#[c]⟩] w fun e w' => e = .returned (.int .i64 (Lib.indexByte s.data.toList c)) /\ w' = w := by
 go_enter Tryz.func190, Tryz.ntmps190
 go_wp2_with (go_at_call 205; refine (b4k _ _ _).mono ?_; rintro e w' ⟨rfl, rfl⟩)
 ·have h : ([c] == s.toList) = true := by assumption
  go_ret
  refine ⟨?_, rfl⟩
  have e : s.data.toList = [c] := by rw [<- Lib.toList_data]; exact (beq_iff_eq.1 h).symm
  rw [e]
  simp [Lib.indexByte]
 ·go_ret
  exact ⟨rfl, rfl⟩
set_option maxHeartbeats 2000000 in
set_option maxRecDepth 100000 in
theorem a9l (s : ByteArray) (c : UInt8) (w : World) :
  Calls Tryz.prog 169 #[.string s, .string ⟨#[c]⟩] w fun e w' => e = .returned (.int .i64 (Lib.indexByte s.data.toList c)) /\ w' = w := by
 go_enter Tryz.func169, Tryz.ntmps169
 go_wp2_with (go_at_call 190; refine (b5x _ _ _).mono ?_; rintro e w' ⟨rfl, rfl⟩)
 go_ret
 exact ⟨rfl, rfl⟩
set_option maxHeartbeats 1000000 in
set_option maxRecDepth 100000 in
theorem b5s (s : ByteArray) (c : UInt8) (w : World) :
  Calls Tryz.prog 204 #[.string s, .string ⟨#[c]⟩] w fun e w' => e = .returned (.int .i64 (Lib.countByte s.data.toList c)) /\ w' = w := by
 go_enter Tryz.func204, Tryz.ntmps204
 go_wp2
 rw [run_callFunc_extern Tryz.func225 (by kernel_rfl) (by kernel_rfl) (by kernel_rfl) (e := Extern.BytealgCount.count) (by kernel_rfl), Lib.run_countString]
 simp only [Result.andThen]
 rw [Oper.upon_value]
 go_wp2
 go_ret
 exact ⟨rfl, rfl⟩
def idxB : Str -> UInt8 -> Int
 | [], _ => -1
 | b :: l, c => if b = c then 0 else if idxB l c < 0 then -1 else idxB l c + 1
theorem c7q (s : Str) (c : UInt8) : Lib.indexByte s c = idxB s c := by
 induction s with
 | nil => rfl
 | cons b l ih =>
  have hge := Lib.indexByte_ge l c
  simp only [Lib.indexByte, idxB, ih] at hge ⊢
  by_cases hb : b = c
  ·simp [hb]
  ·simp only [beq_iff_eq, hb, if_false]
   by_cases h : idxB l c < 0
   ·rw [if_pos h, if_pos (by omega)]
   ·rw [if_neg h, if_neg (by omega)]
def a6x : Con := .fn 8 (Str × UInt8) (fun a => [.str a.1, .str [a.2]]) (fun _ => True) (fun a => .int .i64 (idxB a.1 a.2)) (fun _ => [])
theorem a7q : Has Tryz.prog 169 a6x :=
 b7b (rv := fun a => .int .i64 (idxB a.1 a.2)) (fun args w => Go.MuLone.run_callFunc_enter Tryz.func169 (by kernel_rfl) rfl args w) (fun _ => rfl) (fun a s _ h => by cases h)
  (fun a vs w _ hv => by
   obtain ⟨s, c⟩ := a
   simp [scal] at hv
   subst hv
   have := a9l ⟨s.toArray⟩ c w
   simpa [c7q] using this) (fun a => ⟨_, rfl⟩)
def a9s : Con := .fn 34 (Str × UInt8) (fun a => [.str a.1, .str [a.2]]) (fun _ => True) (fun a => .int .i64 (a.1.count a.2)) (fun _ => [])
theorem b2n : Has Tryz.prog 204 a9s :=
 b7b (rv := fun a => .int .i64 (a.1.count a.2)) (fun args w => Go.MuLone.run_callFunc_enter Tryz.func204 (by kernel_rfl) rfl args w) (fun _ => rfl) (fun a s _ h => by cases h)
  (fun a vs w _ hv => by
   obtain ⟨s, c⟩ := a
   simp [scal] at hv
   subst hv
   have := b5s ⟨s.toArray⟩ c w
   simpa [Lib.countByte] using this) (fun a => ⟨_, rfl⟩)
def spl (c : UInt8) : Str -> Str -> List Str
 | [], p => [p]
 | x :: r, p => if x = c then p :: spl c r [] else spl c r (p ++ [x])
theorem d0i (s : Str) (c : UInt8) : idxB s c < s.length := by
 induction s with
 | nil => simp [idxB]
 | cons b l ih =>
  simp only [idxB, List.length_cons]
  split
  ·omega
  ·split <;> omega
theorem c8P {c : UInt8} : ∀ {s p : Str}, idxB s c < 0 -> spl c s p = [p ++ s] /\ s.count c = 0 := by
 intro s
 induction s with
 | nil => intro p _; simp [spl]
 | cons b l ih =>
  intro p h
  simp only [idxB] at h
  split at h
  ·omega
  ·rename_i hb
   split at h
   ·rename_i hl
    have := ih (p := p ++ [b]) hl
    simp only [spl, if_neg hb]
    refine ⟨by rw [this.1]; simp, ?_⟩
    rw [List.count_cons, this.2]
    simp [hb]
   ·omega
theorem b8f {c : UInt8} : ∀ {s p : Str}, 0 <= idxB s c -> spl c s p = (p ++ s.take (idxB s c).toNat) :: spl c (s.drop ((idxB s c).toNat + 1)) [] /\ s.count c = (s.drop ((idxB s c).toNat + 1)).count c + 1 := by
 intro s
 induction s with
 | nil => intro p h; simp [idxB] at h
 | cons b l ih =>
  intro p h
  by_cases hb : b = c
  ·subst hb
   simp [idxB, spl]
  ·simp only [idxB, if_neg hb] at h ⊢
   split at h
   ·omega
   ·rename_i hl
    rw [if_neg hl]
    obtain ⟨h1, h2⟩ := ih (p := p ++ [b]) (by omega)
    have e : (idxB l c + 1).toNat = (idxB l c).toNat + 1 := by omega
    rw [e]
    simp only [spl, if_neg hb, List.take_succ_cons, List.drop_succ_cons]
    refine ⟨by rw [h1]; simp, ?_⟩
    rw [List.count_cons, h2]
    simp [hb]
theorem d1d (c : UInt8) : ∀ (s p : Str), (spl c s p).length = s.count c + 1 := by
 intro s
 induction s with
 | nil => intro p; simp [spl]
 | cons b l ih =>
  intro p
  simp only [spl]
  split
  ·rename_i h
   subst h
   simp [ih]
  ·rename_i h
   rw [ih, List.count_cons]
   simp [h]
theorem d1b {α : Type} (d : List α) (k : Nat) (z x : α) (h : 0 < k) : (d ++ List.replicate k z).set d.length x = (d ++ [x]) ++ List.replicate (k - 1) z := by
 obtain ⟨k, rfl⟩ : ∃ j, k = j + 1 := ⟨k - 1, by omega⟩
 rw [List.set_append_right _ _ (Nat.le_refl _)]
 simp [List.replicate_succ]
def a9L : Con := .fn 66 (Str × UInt8) (fun a => [.str a.1, .str [a.2], .int .i64 0, .int .i64 (-1)]) (fun a => a.1.length <= 1073741824) (fun a => .sl false 1 (a0b (spl a.2 a.1 []))) (fun _ => [])
def a3D (N : Nat) (d : List Str) : List Str := d ++ List.replicate (N - d.length) []
theorem c4j (N : Nat) (d : List Str) (h : d.length <= N) : (a3D N d).length = N := by simp [a3D]; omega
theorem b0e (N : Nat) (d : List Str) (x : Str) (h : d.length < N) : (a3D N d).set d.length x = a3D N (d ++ [x]) := by
 unfold a3D
 rw [d1b _ _ _ _ (by omega)]
 simp only [List.length_append, List.length_cons, List.length_nil]
 congr 2
theorem b4K (N : Nat) : a3D N [] = List.replicate N [] := by simp [a3D]
set_option maxRecDepth 8000
theorem b6Z : Has Tryz.prog 187 a9L := by
 refine a0d mixed a0g (HasL.cons b2n (HasL.cons a7q HasL.nil)) [0, 1, 2, 3, 8, 9, 10, 11] ((fun a n (_ : Nat) => (fun a _ => ⟨List Str × Str, fun t => ⟨[(0, true, .str t.2), (1, true, .str [a.2]), (2, true, .int .i64 0), (3, true, .int .i64 (a.1.count a.2)), (8, true, .nil), (9, true, .own 9 1 (a0b (a3D (a.1.count a.2 + 1) t.1))), (10, true, .int .i64 t.1.length)], a1Y 9 (a3D (a.1.count a.2 + 1) t.1)⟩, fun t => t.1.length + t.2.count a.2 = a.1.count a.2 /\ t.2.length <= a.1.length /\ t.1 ++ spl a.2 t.2 [] = spl a.2 a.1 [], fun t => a.1.count a.2 - t.1.length⟩) a n)) [] Tryz.func187 (by unfold Tryz.f187; rfl) (fun _ => ⟨(), trivial⟩) ?_
 intro a ha
 obtain ⟨s, c⟩ := a
 replace ha : s.length <= 1073741824 := ha
 have hc : s.count c <= s.length := List.count_le_length
 simp -implicitDefEqProofs [a9L, a9s, a6x, Con.fn, tTab]
 try dsimp only
 have hif : ¬ s.length < s.count c := by omega
 have hr : (List.replicate ((s.count c : Int) + 1).toNat [D.str []]) = a0b (a3D (s.count c + 1) []) := by
  rw [show ((s.count c : Int) + 1).toNat = s.count c + 1 by omega, b4K, a0s]
 have K1 : ∀ (a : List Str) (b : Str), a.length + b.count c = s.count c -> a.length < (a3D (s.count c + 1) a).length := fun a b h => by rw [c4j _ _ (by omega)]; omega
 have K2 : ∀ (a : List Str) (b : Str), a.length + b.count c = s.count c -> a ++ spl c b [] = spl c s [] -> (idxB b c < 0 \/ s.count c <= a.length) -> spl c s [] = ((a3D (s.count c + 1) a).set a.length b).take (a.length + 1) := by
  intro a b h1 h2 h3
  have h4 : idxB b c < 0 := by
   rcases h3 with h | h
   ·exact h
   ·refine Classical.byContradiction fun hn => ?_
    have := (b8f (p := []) (Int.not_lt.1 hn)).2
    omega
  have h5 := c8P (p := []) h4
  rw [<- h2, h5.1, b0e _ _ _ (by omega)]
  unfold a3D
  rw [List.take_left' (by simp)]
  rfl
 have K3 : ∀ (b : Str), idxB b c < b.length := fun b => d0i b c
 have K4 : ∀ (a : List Str) (b : Str), a.length + b.count c = s.count c -> b.length <= s.length -> a ++ spl c b [] = spl c s [] -> 0 <= idxB b c ->
   ∃ x, a3D (s.count c + 1) x = (a3D (s.count c + 1) a).set a.length (b.take (idxB b c).toNat) /\ x.length = a.length + 1 /\ (a3D (s.count c + 1) a).set a.length (b.take (idxB b c).toNat) = a3D (s.count c + 1) x /\
    x.length + ((b.drop (idxB b c + 1).toNat).take (b.length - (idxB b c + 1).toNat)).count c = s.count c /\ b.length <= s.length + (idxB b c + 1).toNat /\
    x ++ spl c ((b.drop (idxB b c + 1).toNat).take (b.length - (idxB b c + 1).toNat)) [] = spl c s [] /\ s.count c - x.length < s.count c - a.length := by
  intro a b h1 h2 h3 h4
  obtain ⟨h5, h6⟩ := b8f (p := []) h4
  have e1 : (idxB b c + 1).toNat = (idxB b c).toNat + 1 := by omega
  have e2 : (b.drop (idxB b c + 1).toNat).take (b.length - (idxB b c + 1).toNat) = b.drop ((idxB b c).toNat + 1) := by
   rw [e1]; exact List.take_of_length_le (by simp)
  rw [e2]
  refine ⟨a ++ [b.take (idxB b c).toNat], (b0e _ _ _ (by omega)).symm, by simp, b0e _ _ _ (by omega), by simp; omega, by omega, ?_, by simp; omega⟩
  rw [<- h3, h5]
  simp
 simp +contextual [eStr, a0r, a0t, a0x, a0u, List.getElem?_eq_getElem, a0v, a0m, a0s, a0q, <- a0f, <- a0e, a0n, a0o, a0l, a0k, a0p, a0j, and_assoc, hif, hr]
 repeat' (first | intro _ | apply And.intro)
 all_goals first | omega | grind [b4K] | exact K4 _ _ (by omega) (by omega) (by assumption) (by omega)
def b6L : Con := .fn 8 (Str × UInt8) (fun a => [.str a.1, .str [a.2]]) (fun a => a.1.length <= 1073741824) (fun a => .sl false 1 (a0b (spl a.2 a.1 []))) (fun _ => [])
theorem c5Y : Has Tryz.prog 158 b6L := by
 refine a0d mixed a0g (HasL.cons b6Z HasL.nil) [0, 1, 4] ((fun a n (_ : Nat) => (fun _ => a0E) a n)) [] Tryz.func158 (by unfold Tryz.f158; rfl) (fun _ => ⟨(), trivial⟩) ?_
 intro a ha
 obtain ⟨s, c⟩ := a
 replace ha : s.length <= 1073741824 := ha
 simp -implicitDefEqProofs [b6L, Con.fn, tTab, a9L]
 try dsimp only
 try simp +contextual [eStr, a0r, a0t, a0x, a0u, List.getElem?_eq_getElem, a0v, a0m, a0s, a0q, <- a0f, <- a0e, a0n, a0o, a0l, a0k, a0p, a0j, and_assoc]
 repeat' (first | intro _ | apply And.intro)
 all_goals first | omega | grind [a0z]
def a3o (s : Str) : Bool := decide ((spl 47 s []).length <= 3) && (spl 47 s []).all a0X
def a6Q : Con := .fn 21 Str (fun s => [.str s]) (fun s => s.length <= 1073741824) (fun s => .bool (a3o s)) (fun _ => [])
theorem a6K : Has Tryz.prog 116 a6Q := by
 refine a0d mixed a0g (HasL.cons c5Y (HasL.cons a4T HasL.nil)) [0, 2, 3, 5, 11, 12, 13] ((fun a n (_ : Nat) => (fun s _ => ⟨Nat, fun i => ⟨[(2, true, .bool false), (11, true, .sl false 1 (a0b (spl 47 s []))), (12, true, .int .i64 (spl 47 s []).length), (13, true, .int .i64 i)], []⟩, fun i => i <= (spl 47 s []).length /\ (spl 47 s []).length <= 3 /\ ((spl 47 s []).take i).all a0X = true, fun i => (spl 47 s []).length - i⟩) a n)) [] Tryz.func116 (by unfold Tryz.f116; rfl) (fun _ => ⟨(), trivial⟩) ?_
 intro (s : Str) hs
 replace hs : s.length <= 1073741824 := hs
 simp -implicitDefEqProofs [a6Q, Con.fn, tTab, b6L, a5m]
 try dsimp only
 try simp +contextual [eStr, a0r, a0t, a0x, a0u, List.getElem?_eq_getElem, a0v, a0m, a0s, a0q, <- a0f, <- a0e, a0n, a0o, a0l, a0k, a0p, a0j, and_assoc]
 repeat' (first | intro _ | apply And.intro)
 all_goals first | omega | grind [a0z, a3o, List.take_succ_eq_append_getElem]
set_option maxRecDepth 8000
def a5o (d p : Str) : Bool := a3o d && a3o p && a5K (d ++ [47]) p
def b3U : Con := .fn 17 (Str × Str) (fun a => [.str a.1, .str a.2]) (fun a => a.1.length <= 536870912 /\ a.2.length <= 536870912) (fun a => .bool (a5o a.1 a.2)) (fun _ => [])
theorem c2y : Has Tryz.prog 117 b3U := by
 refine a0d mixed a0g (HasL.cons a6K (HasL.cons a9u HasL.nil)) [0, 1, 4] ((fun a n (_ : Nat) => (fun _ => a0E) a n)) [] Tryz.func117 (by unfold Tryz.f117; rfl) (fun _ => ⟨(), trivial⟩) ?_
 intro a ha
 obtain ⟨d, p⟩ := a
 obtain ⟨h1, h2⟩ : d.length <= 536870912 /\ p.length <= 536870912 := ha
 simp -implicitDefEqProofs [b3U, Con.fn, tTab, a6Q, a6B]
 try dsimp only
 try simp +contextual [eStr, a0r, a0t, a0x, a0u, List.getElem?_eq_getElem, a0v, a0m, a0s, a0q, <- a0f, <- a0e, a0n, a0o, a0l, a0k, a0p, a0j, and_assoc]
 repeat' (first | intro _ | apply And.intro)
 all_goals first | omega | grind [a0z, a5o, maxLen]
def a3n (t : List FileD) (i : Nat) : Bool := a1g (t.getD i default).text && a3o (t.getD i default).path && (decide (i = 0) || Go.Op.bytesLess (t.getD (i - 1) default).path (t.getD i default).path)
def noUp (t : List FileD) (i : Nat) : Bool := (List.range i).all fun k => !a5o (t.getD k default).path (t.getD i default).path
def a0D (t : List FileD) : Bool := decide (t.length <= 8) && (List.range t.length).all fun i => a3n t i && noUp t i
def a4M : Con := .fn 57 (List FileD) (fun t => [.sl true 2 (a0a t)]) (fun t => ∀ f ∈ t, f.path.length <= 536870912) (fun t => .bool (a0D t)) (fun _ => [])
def tiO (t : List FileD) : Inv := ⟨Nat, fun i => ⟨[(0, true, .sl true 2 (a0a t)), (2, true, .bool false), (10, true, .sl true 2 (a0a t)), (11, true, .int .i64 t.length), (12, true, .int .i64 i)], []⟩, fun i => i <= t.length /\ t.length <= 8 /\ ∀ j, j < i -> a3n t j = true /\ noUp t j = true, fun i => t.length - i⟩
def tiI (t : List FileD) (g : Nat) : Inv := ⟨Nat, fun k => ⟨[(0, true, .sl true 2 (a0a t)), (2, true, .bool false), (3, true, .int .i64 g), (4, true, .ptr 10 0), (10, true, .sl true 2 (a0a t)), (11, true, .int .i64 t.length), (12, true, .int .i64 g), (44, true, .sl true 2 (a0a (t.take g))), (45, true, .int .i64 g), (46, true, .int .i64 k)],
  [(10, .box 66 [.str (t.getD g default).path, .sl true 1 (a0b (t.getD g default).text)])]⟩, fun x => g < t.length /\ x <= g /\ t.length <= 8 /\ (∀ j, j < g -> a3n t j = true /\ noUp t j = true) /\ a3n t g = true /\ ∀ k, k < x -> a5o (t.getD k default).path (t.getD g default).path = false, fun x => g - x⟩
def c2X (t : List FileD) (n g : Nat) : Inv := if n = 4 then tiO t else tiI t g
theorem d1v (t : List FileD) (g : Nat) : c2X t 4 g = tiO t := rfl
theorem d1w (t : List FileD) (g : Nat) : c2X t 9 g = tiI t g := rfl
theorem a4h : Has Tryz.prog 74 a4M := by
 refine a0d mixed a0g (HasL.cons a6N (HasL.cons a6K (HasL.cons c2y HasL.nil))) [0, 2, 3, 4, 6, 10, 11, 12, 44, 45, 46] (fun t => c2X t) [] Tryz.func74 (by unfold Tryz.f74; rfl) (fun _ => ⟨(), trivial⟩) ?_
 intro (t : List FileD) ht
 replace ht : ∀ f ∈ t, f.path.length <= 536870912 := ht
 have hp : ∀ i (h : i < t.length), (t[i]).path.length <= 536870912 := fun i h => ht _ (List.getElem_mem h)
 simp -implicitDefEqProofs [a4M, Con.fn, tTab, a6R, a6Q, b3U, d1v, d1w, tiO, tiI]
 try dsimp only
 have hE : a0D t = true ↔ t.length <= 8 /\ ∀ i, i < t.length -> a3n t i = true /\ noUp t i = true := by
  simp [a0D]
 have hF : ∀ i, i < t.length -> (a3n t i && noUp t i) = false -> a0D t = false := by
  intro i hi h
  rcases hb : a0D t with _ | _
  ·rfl
  ·exact absurd ((hE.1 hb).2 i hi) (by simpa using h)
 have hH : ∀ i, i < t.length -> a3n t i = false -> a0D t = false := fun i hi h => hF i hi (by simp [h])
 have hN : ∀ i k, i < t.length -> k < i -> a5o (t.getD k default).path (t.getD i default).path = true -> a0D t = false := by
  intro i k hi hk h
  refine hF i hi ?_
  have : noUp t i = false := by
   simp only [noUp, List.all_eq_false]
   exact ⟨k, List.mem_range.2 hk, by simpa using h⟩
  simp [this]
 have hI : ∀ i, (∀ k, k < i -> a5o (t.getD k default).path (t.getD i default).path = false) -> noUp t i = true := by
  intro i h
  simp only [noUp, List.all_eq_true, List.mem_range]
  intro k hk
  simp only [h k hk, Bool.not_false]
 have hB : 8 < t.length -> a0D t = false := by
  intro h
  rcases hb : a0D t with _ | _
  ·rfl
  ·exact absurd (hE.1 hb).1 (by omega)
 have e1 : ∀ k (h : k < t.length), Option.map a0r t[k]? = some (a0r t[k]) := fun k h => by simp [List.getElem?_eq_getElem h]
 have e2 : ∀ i, i < t.length -> i - 1 < t.length := fun i h => by omega
 have e4 : ∀ i k (h : k < i) (h2 : i < t.length), Option.map a0r (List.take i t)[k]? = some (a0r t[k]) := fun i k h h2 => by
  rw [List.getElem?_take, if_pos h]; exact e1 k (by omega)
 have hg : ∀ i (h : i < t.length), t.getD i default = t[i] := fun i h => by simp [List.getD_eq_getElem?_getD, h]
 intro _
 refine ⟨fun h => hB (by omega), fun h8 _ => ⟨by omega, fun i hi h8' hprev => ⟨fun hlt => ?_, fun hge => ?_⟩⟩⟩
 ·have e3 := e1 i hlt
  have e3' := e1 (i - 1) (e2 i hlt)
  have hpi := hp i hlt
  have hgi := hg i hlt
  have hgi' := hg (i - 1) (e2 i hlt)
  have hh : a3n t i = (a1g t[i].text && a3o t[i].path && (decide (i = 0) || Go.Op.bytesLess t[i - 1].path t[i].path)) := by simp only [a3n, hgi, hgi']
  have hm : min i t.length = i := by omega
  have hgg : t[i]?.getD default = t[i] := by simpa [List.getD_eq_getElem?_getD] using hgi
  simp [hlt, e2 i hlt, e3, e3', a0r, eStr, D.asStr, D.asRows, hm, a0x, and_assoc, hgg]
  try simp +contextual [eStr, a0r, a0t, a0x, a0u, List.getElem?_eq_getElem, a0v, a0m, a0s, a0q, <- a0f, <- a0e, a0n, a0o, a0l, a0k, a0p, a0j, and_assoc, e4, hgg, hm, hlt, D.asStr, D.asRows, c6V]
  repeat' (first | intro _ | apply And.intro)
  all_goals first | omega | grind
 ·have hT : a0D t = true := hE.2 ⟨h8', fun j hj => hprev j (by omega)⟩
  simp [hT]
  repeat' (first | intro _ | apply And.intro)
  all_goals first | omega | grind
theorem a9o (t : List FileD) (h : a0D t = true) : t.length <= 8 /\ ∀ f ∈ t, f.text.length <= 64 := by
 simp only [a0D, Bool.and_eq_true, decide_eq_true_eq, List.all_eq_true, List.mem_range, a3n] at h
 refine ⟨h.1, fun f hf => ?_⟩
 obtain ⟨i, hi, rfl⟩ := List.getElem_of_mem hf
 have := (h.2 i hi).1.1.1
 simp [List.getD_eq_getElem?_getD, hi, a1g] at this
 omega
theorem a3k : ∀ (x y : Str), Go.Op.bytesLess x y = decide (x < y)
 | [], [] => by simp [Go.Op.bytesLess]
 | _ :: _, [] => by simp [Go.Op.bytesLess]
 | [], _ :: _ => by simp [Go.Op.bytesLess]
 | a :: x, b :: y => by
  rw [Go.Op.bytesLess, a3k x y]
  simp only [List.cons_lt_cons_iff]
  by_cases h1 : a < b <;> by_cases h2 : a = b <;> by_cases h3 : x < y <;> simp [h1, h2, h3]
theorem a3d (a : Str) : ¬ a < a := List.lt_irrefl a
theorem a4H {a b c : Str} (h : a < b) (h' : b < c) : a < c := List.lt_trans h h'
theorem a5s (a b : Str) (h : ¬ a < b) (hne : a ≠ b) : b < a := by
 have h1 : b <= a := List.not_lt.1 h
 exact Classical.byContradiction fun h2 => hne (List.le_antisymm (List.not_lt.1 h2) h1)
theorem a4G {a b : Str} (h : a < b) : ¬ b < a := fun h' => a3d a (a4H h h')
theorem b7y (a b : Str) : leqS a b = !decide (b < a) := by
 unfold leqS
 rw [a3k]
 by_cases h : a < b
 ·simp [h, a4G h]
 ·by_cases e : a = b
  ·subst e; simp [a3d]
  ·simp [h, e, a5s a b h e]
theorem c9Y {b : UInt8} {most : Nat} : ∀ {r c : Str} {n : Nat}, n + r.count b <= most -> cutL (b.toNat : Int) most r c n = spl b r c := by
 intro r
 induction r with
 | nil => intro c n _; rfl
 | cons x r ih =>
  intro c n h
  have hx : ((x.toNat : Int) = (b.toNat : Int)) = (x = b) := by
   apply propext
   constructor
   ·intro h; exact UInt8.toNat_inj.1 (by omega)
   ·rintro rfl; rfl
  by_cases hb : x = b
  ·subst hb
   rw [List.count_cons_self] at h
   simp only [cutL, spl, if_true, show n < most by omega]
   rw [ih (by omega)]
  ·rw [List.count_cons_of_ne hb] at h
   simp only [cutL, spl, hx, hb, if_false]
   split
   ·exact ih h
   ·have h0 : r.count b = 0 := by omega
    have : ∀ (q p : Str), q.count b = 0 -> spl b q p = [p ++ q] := by
     intro q
     induction q with
     | nil => intro p _; simp [spl]
     | cons y q ih2 =>
      intro p hq
      have hy : y ≠ b := by rintro rfl; simp at hq
      rw [List.count_cons_of_ne hy] at hq
      simp only [spl, hy, if_false]
      rw [ih2 _ hq]; simp
    rw [this r _ h0]; simp
theorem c9X {b : UInt8} {most : Nat} : ∀ {r c : Str} {n : Nat}, n <= most -> most < n + r.count b -> (cutL (b.toNat : Int) most r c n).length = most - n + 1 := by
 intro r
 induction r with
 | nil => intro c n h1 h2; simp at h2; omega
 | cons x r ih =>
  intro c n h1 h2
  have hx : ((x.toNat : Int) = (b.toNat : Int)) = (x = b) := by
   apply propext
   constructor
   ·intro h; exact UInt8.toNat_inj.1 (by omega)
   ·rintro rfl; rfl
  simp only [cutL, hx]
  split
  ·split
   ·rename_i hb
    subst hb
    rw [List.count_cons_self] at h2
    rw [List.length_cons, ih (by omega) (by omega)]
    omega
   ·rename_i hb
    rw [List.count_cons_of_ne hb] at h2
    rw [ih h1 h2]
  ·simp; omega
theorem a6V (s : Str) : a3o s = a3p s := by
 unfold a3o a3p
 by_cases h : s.count 47 <= 3
 ·have : cutB s 47 3 = spl 47 s [] := c9Y (b := 47) (most := 3) (by omega)
  rw [this, Bool.and_comm]
 ·have h1 : (cutB s 47 3).length = 4 := c9X (b := 47) (most := 3) (r := s) (c := []) (n := 0) (by omega) (by omega)
  have h2 := d1d 47 s []
  simp [h1, h2, h]
  omega
theorem b4i (d p : Str) : inB d p = a5K (d ++ [47]) p := by
 unfold inB a5K
 by_cases h : d.length < p.length
 ·have e : p.take (d.length + 1) = p.take d.length ++ [p[d.length]] := List.take_succ_eq_append_getElem h
  simp only [List.length_append, List.length_cons, List.length_nil, Nat.zero_add, e, h, show d.length + 1 <= p.length by omega, decide_true, Bool.true_and]
  have hg : p.getD d.length 0 = p[d.length] := getD_nat _ _ h
  rw [hg, Bool.eq_iff_iff]
  simp only [Bool.and_eq_true, decide_eq_true_eq]
  constructor
  ·rintro ⟨h1, h2⟩; rw [h1, h2]
  ·intro h1
   have := List.append_inj h1 (by simp; omega)
   exact ⟨this.1, by simpa using this.2⟩
 ·simp [h]
  omega
theorem d0M {d p : Str} (h : a5K (d ++ [47]) p = true) : d < p := by
 unfold a5K at h
 simp only [Bool.and_eq_true, decide_eq_true_eq, List.length_append, List.length_cons, List.length_nil, Nat.zero_add] at h
 have e : p = d ++ (47 :: p.drop (d.length + 1)) := by
  have := List.take_append_drop (d.length + 1) p
  rw [h.2] at this
  simpa using this.symm
 rw [e]
 generalize p.drop (d.length + 1) = q
 clear h e
 induction d with
 | nil => exact List.nil_lt_cons _ _
 | cons x d ih => exact List.cons_lt_cons_iff.2 (.inr ⟨rfl, ih⟩)
theorem a2v (t : List FileD) : a0D t = a0S t := by
 have hasc : (∀ i, i < t.length -> a3n t i = true) -> ∀ i k, i < k -> k < t.length -> (t.getD i default).path < (t.getD k default).path := by
  intro h i k hik hk
  induction k with
  | zero => omega
  | succ k ih =>
   have h1 := h (k + 1) hk
   simp only [a3n, Bool.and_eq_true, Bool.or_eq_true, decide_eq_true_eq, a3k, Nat.add_sub_cancel] at h1
   have h2 : (t.getD k default).path < (t.getD (k + 1) default).path := by
    rcases h1.2 with h2 | h2
    ·omega
    ·exact h2
   rcases Nat.lt_or_ge i k with h3 | h3
   ·exact a4H (ih h3 (by omega)) h2
   ·have : i = k := by omega
    subst this; exact h2
 have hhead : ∀ i, a4n t i = a3n t i := by
  intro i
  simp only [a4n, a3n, a6V, b7y, a3k, Bool.not_not]
  rw [Bool.and_comm (a3p _)]
 rw [Bool.eq_iff_iff]
 simp only [a0D, a0S, Bool.and_eq_true, decide_eq_true_eq, List.all_eq_true, List.mem_range, hhead]
 constructor
 ·rintro ⟨h8, h⟩
  refine ⟨fun i hi => ⟨(h i hi).1, ?_⟩, h8⟩
  simp only [noIn, List.all_eq_true, Bool.not_eq_true']
  intro g hg
  obtain ⟨k, hk, rfl⟩ := List.getElem_of_mem hg
  rw [show t[k] = t.getD k default by simp [List.getD_eq_getElem?_getD, hk], b4i]
  cases hp : a5K ((t.getD i default).path ++ [47]) (t.getD k default).path with
  | false => rfl
  | true =>
   exfalso
   have hlt := d0M hp
   have hik : i < k := by
    rcases Nat.lt_trichotomy i k with h1 | h1 | h1
    ·exact h1
    ·subst h1; exact absurd hlt (a3d _)
    ·exact absurd hlt (a4G (hasc (fun i hi => (h i hi).1) k i h1 hi))
   have h2 := (h k hk).2
   simp only [noUp, List.all_eq_true, List.mem_range, Bool.not_eq_true'] at h2
   have h3 := h2 i hik
   have p1 := (h i hi).1
   have p2 := (h k hk).1
   simp only [a3n, Bool.and_eq_true] at p1 p2
   simp only [a5o, p1.1.2, p2.1.2, hp, Bool.and_self, reduceCtorEq] at h3
 ·rintro ⟨h, h8⟩
  refine ⟨h8, fun i hi => ⟨(h i hi).1, ?_⟩⟩
  simp only [noUp, List.all_eq_true, List.mem_range, Bool.not_eq_true']
  intro k hk
  have h2 := (h k (by omega)).2
  simp only [noIn, List.all_eq_true, Bool.not_eq_true'] at h2
  have h3 := h2 _ (List.getElem_mem hi)
  rw [show t[i] = t.getD i default by simp [List.getD_eq_getElem?_getD, hi], b4i] at h3
  simp only [a5o, h3, Bool.and_false]
def atB (p q : Str) : Bool := decide (p = q) || a5K (q ++ [47]) p
def b5T : Con := .fn 16 (FileD × Str) (fun a => [.agg [.str a.1.path, .sl true 1 (a0b a.1.text)], .str a.2]) (fun a => a.2.length <= 536870912) (fun a => .bool (atB a.1.path a.2)) (fun _ => [])
theorem b7k : Has Tryz.prog 133 b5T := by
 refine a0d mixed a0g (HasL.cons a9u HasL.nil) [0, 1, 2, 4] ((fun a n (_ : Nat) => (fun _ => a0E) a n)) [] Tryz.func133 (by unfold Tryz.f133; rfl) (fun _ => ⟨(), trivial⟩) ?_
 intro a ha
 obtain ⟨⟨p, x⟩, q⟩ := a
 replace ha : q.length <= 536870912 := ha
 simp -implicitDefEqProofs [b5T, Con.fn, tTab, a6B]
 try dsimp only
 try simp +contextual [eStr, a0r, a0t, a0x, a0u, List.getElem?_eq_getElem, a0v, a0m, a0s, a0q, <- a0f, <- a0e, a0n, a0o, a0l, a0k, a0p, a0j, and_assoc]
 repeat' (first | intro _ | apply And.intro)
 all_goals first | omega | grind [a0z, atB, maxLen]
theorem d2q : ∀ {a : List Str} {l : Int}, 0 <= szL a l -> ∀ s ∈ a, (s.length : Int) <= l := by
 intro a
 induction a with
 | nil => intro l _ s hs; cases hs
 | cons x r ih =>
  intro l h s hs
  simp only [szL] at h
  split at h
  ·omega
  ·rcases List.mem_cons.1 hs with rfl | hs
   ·have := c6h (a := r) (l := l - s.length) (by omega); omega
   ·have := ih h s hs; omega
theorem b5m {a : List Str} {l : Int} (h : 0 <= a3G a l) : (a.length : Int) <= l /\ ∀ s ∈ a, (s.length : Int) <= l := by
 unfold a3G at h
 split at h
 ·omega
 ·refine ⟨by omega, fun s hs => ?_⟩
  have := d2q h s hs; omega
theorem d2p {f : FileD} {l : Int} (h : 0 <= szF f l) : (f.path.length : Int) <= l /\ (f.text.length : Int) <= l /\ ∀ s ∈ f.text, (s.length : Int) <= l := by
 unfold szF at h
 split at h
 ·omega
 ·split at h
  ·omega
  ·obtain ⟨h1, h2⟩ := b5m h
   refine ⟨by omega, by omega, fun s hs => ?_⟩
   have := h2 s hs; omega
theorem d1j : ∀ {a : List FileD} {l : Int}, 0 <= l -> 0 <= szFL a l -> ∀ f ∈ a, (f.path.length : Int) <= l /\ (f.text.length : Int) <= l /\ ∀ s ∈ f.text, (s.length : Int) <= l := by
 intro a
 induction a with
 | nil => intro l _ _ f hf; cases hf
 | cons x r ih =>
  intro l hl h f hf
  simp only [szFL] at h
  split at h
  ·omega
  ·rename_i h0
   rcases List.mem_cons.1 hf with rfl | hf
   ·exact d2p (by omega)
   ·have hle := b8m (f := x) hl
    obtain ⟨h1, h2, h3⟩ := ih (by omega) h f hf
    refine ⟨by omega, by omega, fun s hs => ?_⟩
    have := h3 s hs; omega
theorem c2Q {a : List FileD} {l : Int} (h : 0 <= a3v a l) : (a.length : Int) <= l /\ ∀ f ∈ a, (f.path.length : Int) <= l /\ (f.text.length : Int) <= l /\ ∀ s ∈ f.text, (s.length : Int) <= l := by
 unfold a3v at h
 split at h
 ·omega
 ·refine ⟨by omega, fun f hf => ?_⟩
  obtain ⟨h1, h2, h3⟩ := d1j (by omega) h f hf
  refine ⟨by omega, by omega, fun s hs => ?_⟩
  have := h3 s hs; omega
theorem c9q (f : FileD) (q : Str) : atB f.path q = (decide (q = f.path) || inB q f.path) := by
 unfold atB
 rw [b4i]
 congr 1
 simp only [eq_comm]
def digL : Nat -> Nat -> Str -> Str
 | 0, _, out => out
 | f + 1, k, out => if k = 0 then out else digL f (k / 10) (UInt8.ofNat (48 + k % 10) :: out)
theorem c3W : ∀ {f g k : Nat} {out : Str}, k < f -> k < g -> digL f k out = digL g k out := by
 intro f
 induction f with
 | zero => intro g k out h; omega
 | succ f ih =>
  intro g k out h1 h2
  cases g with
  | zero => omega
  | succ g =>
   simp only [digL]
   split
   ·rfl
   ·exact ih (by omega) (by omega)
def dig (k : Nat) (out : Str) : Str := digL (k + 1) k out
theorem c7f {k : Nat} {out : Str} (h : 0 < k) : dig k out = dig (k / 10) (UInt8.ofNat (48 + k % 10) :: out) := by
 unfold dig
 rw [digL, if_neg (by omega)]
 exact c3W (by omega) (by omega)
def a1N (k : Int) : Str := if k <= 0 then [109, 48] else 109 :: dig k.toNat []
def a3f : Con := .fn 20 Int (fun k => [.int .i64 k]) (fun k => k <= 4611686018427387904) (fun k => .str (a1N k)) (fun _ => [])
theorem a2S : Has Tryz.prog 65 a3f := by
 refine a0d mixed a0g HasL.nil [0, 2, 3] ((fun a n (_ : Nat) => (fun k _ => ⟨Int × Str, fun t => ⟨[(0, true, .int .i64 t.1), (2, true, .str []), (3, true, .str t.2)], []⟩, fun t => 0 <= t.1 /\ 0 < (show Int from k) /\ t.2.length + t.1.toNat <= (show Int from k).toNat /\ dig t.1.toNat t.2 = dig (show Int from k).toNat [], fun t => t.1.toNat⟩) a n)) [] Tryz.func65 (by unfold Tryz.f65; rfl) (fun _ => ⟨(), trivial⟩) ?_
 intro (k : Int) hk
 replace hk : k <= 4611686018427387904 := hk
 have hm : ∀ n : Int, 0 <= n -> n.tmod 10 = n % 10 := fun n h => Int.tmod_eq_emod_of_nonneg h
 have hq : ∀ n : Int, 0 <= n -> n.tdiv 10 = n / 10 := fun n h => Int.tdiv_eq_ediv_of_nonneg h
 have hs : ∀ (n : Int) (out : Str), 0 < n -> dig n.toNat out = dig (n / 10).toNat (UInt8.ofNat (48 + n % 10).toNat :: out) := fun n out h => by
  rw [c7f (by omega)]
  congr 1
  ·omega
  ·congr 2; omega
 have hz : ∀ out : Str, dig 0 out = out := fun _ => rfl
 have hM : maxLen = 9223372036854775807 := rfl
 simp -implicitDefEqProofs [a3f, Con.fn, tTab]
 try dsimp only
 refine ⟨fun h => by simp [a1N, h], fun h0 => ⟨⟨k, [], ⟨rfl, rfl⟩, by omega, h0, by simp, rfl⟩, ?_⟩⟩
 intro a b ha _ hl hd
 rw [hm a ha, hq a ha, hM]
 refine ⟨fun hpos => ⟨by omega, fun _ _ => ⟨by omega, fun _ _ => ⟨by omega, fun _ => ⟨by omega, fun _ => ⟨by omega, fun _ _ => ⟨_, _, ⟨rfl, rfl⟩, ⟨by omega, h0, by simp only [List.length_cons]; omega, ?_⟩, by omega⟩⟩⟩⟩⟩⟩, fun hz0 => ⟨by omega, fun _ => ?_⟩⟩
 ·rw [<- hs a b hpos, hd]
 ·obtain rfl : a = 0 := by omega
  rw [show dig (Int.toNat 0) b = b from rfl] at hd
  simp only [a1N, if_neg (show ¬ k <= 0 by omega), hd]
def a1M (n : Nat) (k : Int) : List Str := (List.range n).map fun i : Nat => a1N (k + (i : Int))
theorem a6r (n : Nat) (k : Int) : (a1M n k).length = n := by simp [a1M]
theorem b3f (n : Nat) (k : Int) : a1M (n + 1) k = a1M n k ++ [a1N (k + n)] := by simp [a1M, List.range_succ]
def mArr (a : List Str) (k : Int) (i : Nat) : List Str := a1M i k ++ a.drop i
theorem c7S {a : List Str} {k : Int} {i : Nat} (h : i <= a.length) : (mArr a k i).length = a.length := by simp [mArr, a6r]; omega
theorem c7T {a : List Str} {k : Int} {i : Nat} (h : i < a.length) : (mArr a k i).set i (a1N (k + i)) = mArr a k (i + 1) := by
 unfold mArr
 have e : (l' : List Str) -> l' = a.drop i -> l'.set 0 (a1N (k + i)) = a1N (k + i) :: a.drop (i + 1) := by
  rintro _ rfl
  rw [List.drop_eq_getElem_cons h]; rfl
 rw [List.set_append_right _ _ (by simp [a6r]), a6r, Nat.sub_self, b3f, e _ rfl]
 simp
theorem c5i (a : List Str) (k : Int) : mArr a k 0 = a := by simp [mArr, a1M]
theorem c7R {a : List Str} {k : Int} {i : Nat} (h : a.length <= i) (h2 : i <= a.length) : mArr a k i = a1M a.length k := by
 obtain rfl : i = a.length := by omega
 simp [mArr]
def a5z : Con := { A := List Str × Int, X := Unit, n := 20, args := fun a => [.own 0 1 (a0b a.1), .int .i64 a.2], boxes := fun _ => [], pre := fun a => 0 <= a.2 /\ a.2 + a.1.length <= 4611686018427387904, post := fun _ _ => True, res := fun a _ => .int .i64 (a.2 + a.1.length), fin := fun a _ => [(0, .own 9 1 true (a0b (a1M a.1.length a.2)))], owns := fun a => [(0, 9, 1, a0b a.1)], lends := [0], mv := true, sube := 9 }
theorem a7C : Has Tryz.prog 21 a5z := by
 refine a0d mixed a0g (HasL.cons a2S HasL.nil) [0, 1, 4, 5] ((fun a n (_ : Nat) => (fun a _ => ⟨Nat, fun i => ⟨[(0, true, .own 0 1 (a0b (mArr a.1 a.2 i))), (1, true, .int .i64 (a.2 + i)), (4, true, .int .i64 0), (5, true, .int .i64 i)], [(0, .own 9 1 true (a0b (mArr a.1 a.2 i)))]⟩, fun i => i <= a.1.length, fun i => a.1.length - i⟩) a n)) [] Tryz.func21 (by unfold Tryz.f21; rfl) (fun _ => ⟨(), trivial⟩) ?_
 intro a ha
 obtain ⟨l, k⟩ := a
 obtain ⟨h1, h2⟩ : 0 <= k /\ k + l.length <= 4611686018427387904 := ha
 have e1 := fun i => @c7S l k i
 have e2 := fun i => @c7T l k i
 have e3 := c5i l k
 have e4 := fun i => @c7R l k i
 simp -implicitDefEqProofs [a5z, Con.fn, tTab, a3f]
 try dsimp only
 try simp +contextual [eStr, a0r, a0t, a0x, a0u, List.getElem?_eq_getElem, a0v, a0m, a0s, a0q, <- a0f, <- a0e, a0n, a0o, a0l, a0k, a0p, a0j, and_assoc, e1, e2, e3]
 repeat' (first | intro _ | apply And.intro)
 all_goals first | omega | grind [a0z]
def a7A (a : List Str) (k : Int) : Int := if a = a1M a.length k then k + a.length else -1
def a7a : Con := .fn 22 (List Str × Int) (fun a => [.sl true 1 (a0b a.1), .int .i64 a.2]) (fun a => 0 <= a.2 /\ a.2 + a.1.length <= 4611686018427387904) (fun a => .int .i64 (a7A a.1 a.2)) (fun _ => [])
theorem c7o {a : List Str} {k : Int} {i : Nat} (h : a.length <= i) (h2 : i <= a.length) (h3 : a.take i = a1M i k) : a7A a k = k + i := by
 obtain rfl : i = a.length := by omega
 rw [List.take_length] at h3
 unfold a7A
 rw [if_pos h3]
theorem c4s {a : List Str} {k : Int} {i : Nat} (h : i < a.length) (h2 : a[i] ≠ a1N (k + i)) : a7A a k = -1 := by
 unfold a7A
 rw [if_neg]
 intro h3
 apply h2
 have : a[i]? = (a1M a.length k)[i]? := by rw [<- h3]
 rw [List.getElem?_eq_getElem h] at this
 simpa [a1M, h] using this
theorem c4t {a : List Str} {k : Int} {i : Nat} (h : i < a.length) (h2 : a[i] = a1N (k + i)) (h3 : a.take i = a1M i k) : a.take (i + 1) = a1M (i + 1) k := by
 rw [a0y h, b3f, h3, h2]
theorem b2K : Has Tryz.prog 156 a7a := by
 refine a0d mixed a0g (HasL.cons a2S HasL.nil) [0, 1, 4, 5] ((fun a n (_ : Nat) => (fun a _ => ⟨Nat, fun i => ⟨[(0, true, .sl true 1 (a0b a.1)), (1, true, .int .i64 (a.2 + i)), (4, true, .int .i64 0), (5, true, .int .i64 i)], []⟩, fun i => i <= a.1.length /\ a.1.take i = a1M i a.2, fun i => a.1.length - i⟩) a n)) [] Tryz.func156 (by unfold Tryz.f156; rfl) (fun _ => ⟨(), trivial⟩) ?_
 intro a ha
 obtain ⟨l, k⟩ := a
 obtain ⟨h1, h2⟩ : 0 <= k /\ k + l.length <= 4611686018427387904 := ha
 have e1 := fun i => @c7o l k i
 have e2 := fun i => @c4s l k i
 have e3 := fun i => @c4t l k i
 have e4 : a1M 0 k = [] := rfl
 simp -implicitDefEqProofs [a7a, Con.fn, tTab, a3f]
 try dsimp only
 try simp +contextual [eStr, a0r, a0t, a0x, a0u, List.getElem?_eq_getElem, a0v, a0m, a0s, a0q, <- a0f, <- a0e, a0n, a0o, a0l, a0k, a0p, a0j, and_assoc]
 repeat' (first | intro _ | apply And.intro)
 all_goals first | omega | grind [a0z]



def kE (l : List FileD) (k : Int) : Int := k + l.length + a1E l
def a1d (t : List FileD) (k : Int) : List FileD := (List.range t.length).map fun i : Nat => ⟨a1N (kE (t.take i) k), a1M (t.getD i default).text.length (kE (t.take i) k + 1)⟩
theorem a1Q (t : List FileD) (k : Int) : (a1d t k).length = t.length := by simp [a1d]
def mFA (t : List FileD) (k : Int) (i : Nat) : List FileD := (a1d t k).take i ++ t.drop i
theorem d0u {t : List FileD} {k : Int} {i : Nat} (h : i <= t.length) : (mFA t k i).length = t.length := by simp [mFA, a1Q]; omega
theorem c7U (t : List FileD) (k : Int) : mFA t k 0 = t := by simp [mFA]
theorem d0s {t : List FileD} {k : Int} {i : Nat} (h : t.length <= i) : mFA t k i = a1d t k := by
 unfold mFA
 rw [List.take_of_length_le (by rw [a1Q]; exact h), List.drop_eq_nil_of_le h, List.append_nil]
theorem d0t {t : List FileD} {k : Int} {i : Nat} (h : i < t.length) : (mFA t k i)[i]? = some t[i] := by
 unfold mFA
 rw [List.getElem?_append_right (by simp [a1Q]; omega), List.length_take, a1Q, Nat.min_eq_left (by omega), Nat.sub_self, List.drop_eq_getElem_cons h]
 rfl
theorem d0v {t : List FileD} {k : Int} {i : Nat} (h : i < t.length) : (mFA t k i).set i ⟨a1N (kE (t.take i) k), a1M t[i].text.length (kE (t.take i) k + 1)⟩ = mFA t k (i + 1) := by
 unfold mFA
 have hl : i < (a1d t k).length := by rw [a1Q]; exact h
 have hx : (a1d t k)[i] = ⟨a1N (kE (t.take i) k), a1M t[i].text.length (kE (t.take i) k + 1)⟩ := by simp [a1d, h]
 rw [List.set_append_right _ _ (by simp [a1Q]; omega), List.length_take, a1Q, Nat.min_eq_left (by omega), Nat.sub_self, List.drop_eq_getElem_cons h, List.set_cons_zero, List.take_succ_eq_append_getElem hl, hx]
 simp
theorem c0h {t : List FileD} {k : Int} {i : Nat} (h : i < t.length) : kE (t.take (i + 1)) k = kE (t.take i) k + 1 + t[i].text.length := by
 unfold kE
 rw [b9q _ _ h]
 simp; omega
theorem c1O {t : List FileD} {k : Int} (i : Nat) : k <= kE (t.take i) k /\ kE (t.take i) k <= kE t k := by
 have h1 : a1E (t.take i) <= a1E t := by
  have : a1E t = a1E (t.take i) + a1E (t.drop i) := by
   unfold a1E
   rw [<- List.sum_append, <- List.map_append, List.take_append_drop]
  omega
 have h2 : (t.take i).length <= t.length := by simp; omega
 unfold kE
 omega
theorem c0i (k : Int) : kE [] k = k := by simp [kE, a1E]
def a8F : Con := { A := List FileD × Int, X := Unit, n := 28, args := fun a => [.own 0 2 (a0a a.1), .int .i64 a.2], boxes := fun _ => [], pre := fun a => 0 <= a.2 /\ kE a.1 a.2 <= 1152921504606846976, post := fun _ _ => True, res := fun a _ => .int .i64 (kE a.1 a.2), fin := fun a _ => [(0, .own 66 2 true (a0a (a1d a.1 a.2)))], owns := fun a => [(0, 66, 2, a0a a.1)], lends := [0], mv := true, sube := 66 }
theorem b5A : Has Tryz.prog 111 a8F := by
 refine a0d mixed a0g (HasL.cons a2S (HasL.cons a7C HasL.nil)) [0, 1, 4, 5] ((fun a n (_ : Nat) => (fun a _ => ⟨Nat, fun i => ⟨[(0, true, .own 0 2 (a0a (mFA a.1 a.2 i))), (1, true, .int .i64 (kE (a.1.take i) a.2)), (4, true, .int .i64 0), (5, true, .int .i64 i)], [(0, .own 66 2 true (a0a (mFA a.1 a.2 i)))]⟩, fun i => i <= a.1.length, fun i => a.1.length - i⟩) a n)) [] Tryz.func111 (by unfold Tryz.f111; rfl) (fun _ => ⟨(), trivial⟩) ?_
 intro a ha
 obtain ⟨t, k⟩ := a
 obtain ⟨q1, q2⟩ : 0 <= k /\ kE t k <= 1152921504606846976 := ha
 have e1 := fun i => @d0u t k i
 have e2 := fun i => @d0v t k i
 have e3 := c7U t k
 have e4 := fun i => @d0s t k i
 have e5 := fun i => @d0t t k i
 have e6 := fun i => @c0h t k i
 have e7 := fun i => @c1O t k i
 have e8 := c0i k
 simp -implicitDefEqProofs [a8F, Con.fn, tTab, a3f, a5z, e3, e8]
 try dsimp only
 refine ⟨⟨0, by simp [e3, e8]⟩, fun i hi _ => ⟨fun hlt => ?_, fun hge => ?_⟩⟩
 ·have hlt' : i < t.length := by rw [e1 i hi] at hlt; exact hlt
  have g1 := e5 i hlt'
  have g2 : ∀ r, ((a0a (mFA t k i)).set i r)[i]? = some r := fun r => by
   rw [List.getElem?_set_self (by rw [eFiles_length]; exact hlt)]
  have g3 := e7 i
  have g4 := e6 i hlt'
  have g5 := e7 (i + 1)
  have g6 : (a0a (mFA t k i)).set i [D.str (a1N (kE (t.take i) k)), D.sl 9 1 (a0b (a1M t[i].text.length (kE (t.take i) k + 1)))] = a0a (mFA t k (i + 1)) := by
   rw [<- e2 i hlt', a0m]
  have g7 := e1 (i + 1) (by omega)
  have g8 : (mFA t k i)[i] = t[i] := by rw [List.getElem?_eq_getElem hlt] at g1; exact Option.some.inj g1
  simp [g1, g2, a0r, D.asRows, e1 i hi, hlt', hlt, and_assoc]
  rw [g8]
  exact ⟨by omega, by omega, by omega, fun _ _ => ⟨by omega, by omega, by omega, by omega, fun _ _ => ⟨i + 1, g6.symm, by omega, by omega, g6, by omega, by omega⟩⟩⟩
 ·rw [e1 i hi] at hge
  rw [e4 i hge, List.take_of_length_le hge]
  exact ⟨rfl, rfl⟩
theorem c5t {B : Nat} (t : List FileD) (h : ∀ f ∈ t, f.text.length <= B) : a1E t <= B * t.length := by
 induction t with
 | nil => simp [a1E]
 | cons f r ih =>
  have h1 := h f (by simp)
  have h2 := ih (fun g hg => h g (by simp [hg]))
  simp [a1E, Nat.mul_add] at h2 ⊢
  omega
theorem b0d {l : List Str} {x : List D} {d : D} (h : x ∈ a0b l) (h' : d ∈ x) : ∃ s, d = D.str s := by
 simp only [a0b, List.mem_map] at h
 obtain ⟨s, _, rfl⟩ := h
 simp only [eStr, List.mem_singleton] at h'
 exact ⟨s, h'⟩
def a5i : Con := .fn 6 (List Str) (fun a => [.sl true 1 (a0b a)]) (fun a => a.length <= 1048576) (fun a => .own 8 1 (a0b a)) (fun a => a1Y 8 a)
theorem a5B : Has Tryz.prog 136 a5i := by
 refine a0d mixed a0g HasL.nil [0, 2] ((fun a n (_ : Nat) => (fun _ => a0E) a n)) [] Tryz.func136 (by unfold Tryz.f136; rfl) (fun _ => ⟨(), trivial⟩) ?_
 intro (a : List Str) ha
 replace ha : a.length <= 1048576 := ha
 simp -implicitDefEqProofs [a5i, Con.fn, tTab]
 try dsimp only
 try simp +contextual [eStr, a0r, a0t, a0x, a0u, List.getElem?_eq_getElem, a0v, a0m, a0s, a0q, <- a0f, <- a0e, a0n, a0o, a0l, a0k, a0p, a0j, and_assoc]
 repeat' (first | intro _ | apply And.intro)
 all_goals first | omega | grind [a0z, b0d]
def a3e : Con := .fn 23 (List FileD) (fun a => [.sl true 2 (a0a a)]) (fun a => a.length <= 1048576 /\ ∀ f ∈ a, f.text.length <= 1048576) (fun a => .own 8 2 (a0a a)) (fun a => a1T 8 a)
theorem a2M : Has Tryz.prog 91 a3e := by
 refine a0d mixed a0g (HasL.cons a5B HasL.nil) [0, 2, 3, 5, 6, 7, 8] ((fun a n (_ : Nat) => (fun a _ => ⟨Nat, fun i => ⟨[(2, true, .nil), (3, true, .own 9 2 (a0a (a.take i))), (6, true, .sl true 2 (a0a a)), (7, true, .int .i64 a.length), (8, true, .int .i64 i)], a1T 9 (a.take i)⟩, fun i => i <= a.length, fun i => a.length - i⟩) a n)) [19] Tryz.func91 (by unfold Tryz.f91; rfl) (fun _ => ⟨(), trivial⟩) ?_
 intro (a : List FileD) ha
 obtain ⟨h1, h2⟩ : a.length <= 1048576 /\ ∀ f ∈ a, f.text.length <= 1048576 := ha
 have h3 : ∀ i (h : i < a.length), a[i].text.length <= 1048576 := fun i h => h2 _ (List.getElem_mem h)
 simp -implicitDefEqProofs [a3e, Con.fn, tTab, a5i]
 try dsimp only
 try simp +contextual [eStr, a0r, a0t, a0x, a0u, List.getElem?_eq_getElem, a0v, a0m, a0s, a0q, <- a0f, <- a0e, a0n, a0o, a0l, a0k, a0p, a0j, and_assoc, <- FileD.eq_iff]
 repeat' (first | intro _ | apply And.intro)
 all_goals first | omega | grind [a0z, List.take_of_length_le, List.take_succ_eq_append_getElem]
def a5j : Con := .fn 29 (List FileD) (fun a => [.sl true 2 (a0a a)]) (fun a => a.length <= 1048576 /\ ∀ f ∈ a, f.text.length <= 1048576) (fun a => .own 8 2 (a0a a)) (fun a => a1T 8 a)
theorem a4N : Has Tryz.prog 142 a5j := by
 refine a0d mixed a0g HasL.nil [0, 2, 3, 4] ((fun a n (_ : Nat) => (fun a _ => ⟨Nat, fun i => ⟨[(0, true, .sl true 2 (a0a a)), (2, true, .nil), (3, true, .own 9 2 (a0a (a.take i))), (4, true, .int .i64 i)], a1T 9 (a.take i)⟩, fun i => i <= a.length, fun i => a.length - i⟩) a n)) [26] Tryz.func142 (by unfold Tryz.f142; rfl) (fun _ => ⟨(), trivial⟩) ?_
 intro (a : List FileD) ha
 obtain ⟨h1, h2⟩ : a.length <= 1048576 /\ ∀ f ∈ a, f.text.length <= 1048576 := ha
 have h3 : ∀ i (h : i < a.length), a[i].text.length <= 1048576 := fun i h => h2 _ (List.getElem_mem h)
 simp -implicitDefEqProofs [a5j, Con.fn, tTab]
 try dsimp only
 try simp +contextual [eStr, a0r, a0t, a0x, a0u, List.getElem?_eq_getElem, a0v, a0m, a0s, a0q, <- a0f, <- a0e, a0n, a0o, a0l, a0k, a0p, a0j, and_assoc, <- FileD.eq_iff]
 repeat' (first | intro _ | apply And.intro)
 all_goals first | omega | grind [a0z, b0d, List.take_of_length_le, List.take_succ_eq_append_getElem]
def filB (p : FileD -> Bool) (t : List FileD) : List FileD := t.filter p
theorem b4f {p : FileD -> Bool} {t : List FileD} {i : Nat} (h : i < t.length) (hp : p t[i] = true) : filB p (t.take (i + 1)) = filB p (t.take i) ++ [t[i]] := by
 unfold filB
 rw [a0y h, List.filter_append]
 simp [List.filter_cons, hp]
theorem b1V {p : FileD -> Bool} {t : List FileD} {i : Nat} (h : i < t.length) (hp : p t[i] = false) : filB p (t.take (i + 1)) = filB p (t.take i) := by
 unfold filB
 rw [a0y h, List.filter_append]
 simp [List.filter_cons, hp]
theorem c3Y (p : FileD -> Bool) (t : List FileD) (i : Nat) : (filB p (t.take i)).length <= i := by
 have := List.length_filter_le p (t.take i)
 unfold filB
 simp at this; omega
theorem b9Y (p : FileD -> Bool) : filB p [] = [] := rfl
def a4b (p : FileD -> Bool) (t : List FileD) (i : Nat) : List (List D) := (t.take i).map (fun f => if p f then [.str f.path, .junk] else a0r f) ++ a0a (t.drop i)
theorem c4i (p : FileD -> Bool) (t : List FileD) (i : Nat) : (a4b p t i).length = t.length := by simp [a4b]; omega
theorem c1t (p : FileD -> Bool) (t : List FileD) : a4b p t 0 = a0a t := by simp [a4b]
theorem c4g {p : FileD -> Bool} {t : List FileD} {i : Nat} (h : i < t.length) : (a4b p t i)[i]? = some (a0r t[i]) := by
 unfold a4b
 rw [List.getElem?_append_right (by simp; omega), List.length_map, List.length_take, Nat.min_eq_left (by omega), Nat.sub_self, eFiles_get, List.drop_eq_getElem_cons h]
 rfl
theorem c1s {p : FileD -> Bool} {t : List FileD} {i : Nat} (h : i < t.length) (hp : p t[i] = false) : a4b p t (i + 1) = a4b p t i := by
 unfold a4b
 rw [a0y h, List.map_append, List.drop_eq_getElem_cons h]
 simp only [List.map_cons, List.map_nil, hp, Bool.false_eq_true, if_false, a0a, List.append_assoc, List.cons_append, List.nil_append]
theorem c4h {p : FileD -> Bool} {t : List FileD} {i : Nat} (h : i < t.length) (hp : p t[i] = true) : (a4b p t i).set i [.str t[i].path, .junk] = a4b p t (i + 1) := by
 unfold a4b
 rw [a0y h, List.map_append]
 rw [List.set_append_right _ _ (by simp; omega), List.length_map, List.length_take, Nat.min_eq_left (by omega), Nat.sub_self, List.drop_eq_getElem_cons h]
 simp only [List.map_cons, List.map_nil, hp, if_true, a0a, List.append_assoc, List.cons_append, List.nil_append, List.set_cons_zero]
def a1i (f : FileD) (acc : List FileD × Bool) (g : FileD) : List FileD × Bool :=
 if acc.2 = false /\ Go.Op.bytesLess g.path f.path = false then (if g.path = f.path then (acc.1 ++ [f], true) else (acc.1 ++ [f] ++ [g], true))
 else (if g.path = f.path then acc else (acc.1 ++ [g], acc.2))
def setL (f : FileD) (l : List FileD) : List FileD × Bool := l.foldl (a1i f) ([], false)
def setS (t : List FileD) (f : FileD) : List FileD := if (setL f t).2 then (setL f t).1 else (setL f t).1 ++ [f]
theorem a5q {f : FileD} {t : List FileD} {i : Nat} (h : i < t.length) : setL f (t.take (i + 1)) = a1i f (setL f (t.take i)) t[i] := by
 unfold setL
 rw [a0y h, List.foldl_append]; rfl
theorem b9C (f : FileD) (acc : List FileD × Bool) (g : FileD) : (a1i f acc g).1.length + acc.2.toNat <= acc.1.length + (a1i f acc g).2.toNat + 1 := by
 unfold a1i
 split
 ·rename_i h
  rw [h.1]
  split <;> simp <;> omega
 ·split <;> simp <;> omega
theorem b8d (f : FileD) (t : List FileD) : (setL f t).1.length <= t.length + (setL f t).2.toNat := by
 have : ∀ (t : List FileD) (acc : List FileD × Bool), (t.foldl (a1i f) acc).1.length + acc.2.toNat <= acc.1.length + t.length + (t.foldl (a1i f) acc).2.toNat := by
  intro t
  induction t with
  | nil => intro acc; simp
  | cons g r ih =>
   intro acc
   have h1 := ih (a1i f acc g)
   have h2 := b9C f acc g
   simp only [List.foldl_cons, List.length_cons]
   omega
 have := this t ([], false)
 simpa [setL] using this
theorem c8L (t : List FileD) (f : FileD) : (setS t f).length <= t.length + 1 := by
 have := b8d f t
 unfold setS
 split
 ·rename_i h; rw [h] at this; simpa using this
 ·rename_i h
  have h : (setL f t).2 = false := by simpa using h
  rw [h] at this; simp at this ⊢; omega
def b2C : Con := .fn 65 (List FileD × FileD) (fun a => [.sl true 2 (a0a a.1), .agg [.str a.2.path, .sl true 1 (a0b a.2.text)]]) (fun a => a.1.length <= 1048576 /\ a.2.text.length <= 1048576) (fun a => .sl false 2 (a0a (setS a.1 a.2))) (fun _ => [])
theorem b4T : Has Tryz.prog 164 b2C := by
 refine a0d mixed a0g HasL.nil [0, 1, 3, 4, 5, 6, 7] ((fun a n (_ : Nat) => (fun a _ => ⟨Nat, fun i => ⟨[(0, true, .sl true 2 (a0a a.1)), (3, true, .ptr 10 0), (4, true, .nil), (5, true, .own 9 2 (a0a (setL a.2 (a.1.take i)).1)), (6, true, .bool (setL a.2 (a.1.take i)).2), (7, true, .int .i64 i)], [(10, .box 66 [.str a.2.path, .sl true 1 (a0b a.2.text)]), (9, .own 66 2 false (a0a (setL a.2 (a.1.take i)).1))]⟩, fun i => i <= a.1.length, fun i => a.1.length - i⟩) a n)) [35, 62] Tryz.func164 (by unfold Tryz.f164; rfl) (fun _ => ⟨(), trivial⟩) ?_
 intro a ha
 obtain ⟨t, f⟩ := a
 obtain ⟨q1, q2⟩ : t.length <= 1048576 /\ f.text.length <= 1048576 := ha
 have a0 : setL f [] = ([], false) := rfl
 have a1 : ∀ i (h : i < t.length), (setL f (t.take i)).2 = true -> ¬ t[i].path = f.path -> setL f (t.take (i + 1)) = ((setL f (t.take i)).1 ++ [t[i]], true) := fun i h h1 h2 => by rw [a5q h]; simp [a1i, h1, h2]
 have a2 : ∀ i (h : i < t.length), (setL f (t.take i)).2 = true -> t[i].path = f.path -> setL f (t.take (i + 1)) = ((setL f (t.take i)).1, true) := fun i h h1 h2 => by rw [a5q h]; unfold a1i; rw [if_neg (by simp [h1]), if_pos h2]; exact Prod.ext rfl h1
 have a3 : ∀ i (h : i < t.length), (setL f (t.take i)).2 = false -> Go.Op.bytesLess t[i].path f.path = false -> ¬ t[i].path = f.path -> setL f (t.take (i + 1)) = ((setL f (t.take i)).1 ++ [f] ++ [t[i]], true) := fun i h h1 h3 h2 => by rw [a5q h]; simp [a1i, h1, h2, h3]
 have a4 : ∀ i (h : i < t.length), (setL f (t.take i)).2 = false -> Go.Op.bytesLess t[i].path f.path = false -> t[i].path = f.path -> setL f (t.take (i + 1)) = ((setL f (t.take i)).1 ++ [f], true) := fun i h h1 h3 h2 => by rw [a5q h]; rw [h2] at h3; simp [a1i, h1, h2, h3]
 have a5 : ∀ i (h : i < t.length), (setL f (t.take i)).2 = false -> Go.Op.bytesLess t[i].path f.path = true -> ¬ t[i].path = f.path -> setL f (t.take (i + 1)) = ((setL f (t.take i)).1 ++ [t[i]], false) := fun i h h1 h3 h2 => by rw [a5q h]; simp [a1i, h1, h2, h3]
 have a6 : ∀ i (h : i < t.length), (setL f (t.take i)).2 = false -> Go.Op.bytesLess t[i].path f.path = true -> t[i].path = f.path -> setL f (t.take (i + 1)) = ((setL f (t.take i)).1, false) := fun i h h1 h3 h2 => by rw [a5q h]; unfold a1i; rw [if_neg (by simp [h3]), if_pos h2]; exact Prod.ext rfl h1
 have a7 : ∀ i, (setL f (t.take i)).1.length <= 1048577 := fun i => by
  have h1 := b8d f (t.take i)
  have h2 := Bool.toNat_le (setL f (t.take i)).2
  have h3 : (t.take i).length <= t.length := by simp; omega
  omega
 have a8 : (setL f t).2 = true -> setS t f = (setL f t).1 := fun h => by simp [setS, h]
 have a9 : (setL f t).2 = false -> setS t f = (setL f t).1 ++ [f] := fun h => by simp [setS, h]
 simp -implicitDefEqProofs [b2C, Con.fn, tTab]
 try dsimp only
 have b1 : ∀ (X : List FileD) (g : FileD), a0a X ++ [[D.str f.path, D.sl 9 1 (a0b f.text)], [D.str g.path, D.sl 9 1 (a0b g.text)]] = a0a (X ++ [f] ++ [g]) := fun X g => by simp [a0a, a0r]
 refine ⟨⟨0, by simp [a0]⟩, ?_⟩
 try simp +contextual [eStr, a0r, a0t, a0x, a0u, List.getElem?_eq_getElem, a0v, a0m, a0s, a0q, <- a0f, <- a0e, a0n, a0o, a0l, a0k, a0p, a0j, and_assoc, b1, <- FileD.eq_iff]
 repeat' (first | intro _ | apply And.intro)
 all_goals first | omega | grind [a0z, b0d, List.take_of_length_le]
def b0T (b : UInt8) : List D := [.int .u8 b.toNat]
def a6n (s : Str) : List (List D) := s.map b0T
@[simp] theorem eBytes_length (l : Str) : (a6n l).length = l.length := by simp -implicitDefEqProofs [a6n]
@[simp] theorem eBytes_get (l : Str) (i : Nat) : (a6n l)[i]? = l[i]?.map b0T := by simp -implicitDefEqProofs [a6n]
@[simp] theorem eByte_inj (a b : UInt8) : (b0T a = b0T b) = (a = b) := by
 simp only [b0T, List.cons.injEq, D.int.injEq, true_and, and_true, eq_iff_iff]
 constructor
 ·intro h; exact UInt8.toNat_inj.1 (by omega)
 ·rintro rfl; rfl
@[simp] theorem eBytes_inj (a b : Str) : (a6n a = a6n b) = (a = b) := by
 apply propext
 constructor
 ·intro h
  exact List.map_inj_right (fun x y h => by simpa using h) |>.1 h
 ·rintro rfl; rfl
@[simp] theorem eBytes_all (l : Str) (f : List D -> Bool) : (a6n l).all f = l.all fun b => f (b0T b) := by simp -implicitDefEqProofs [a6n, Function.comp_def]

def a3m (t : List FileD) (f : FileD) : List FileD × Bool := if a0S t then (if a0S (setS t f) then (setS t f, true) else (t, false)) else ([], false)
def a9Y : Con := .fn 20 (List FileD × FileD) (fun a => [.sl true 2 (a0a a.1), .agg [.str a.2.path, .sl true 1 (a0b a.2.text)]]) (fun a => (a.1.length <= 1048575 /\ ∀ f ∈ a.1, f.text.length <= 1048576) /\ a.2.text.length <= 1048576) (fun a => .tup [.sl false 2 (a0a (a3m a.1 a.2).1), .bool (a3m a.1 a.2).2]) (fun _ => [])
theorem b8v : Has Tryz.prog 123 a9Y := by
 refine a0d mixed a0g (HasL.cons a7k (HasL.cons a4N (HasL.cons b4T HasL.nil))) [0, 1, 3, 4, 5, 6] ((fun a n (_ : Nat) => (fun _ => a0E) a n)) [] Tryz.func123 (by unfold Tryz.f123; rfl) (fun _ => ⟨(), trivial⟩) ?_
 intro a ha
 obtain ⟨t, f⟩ := a
 obtain ⟨⟨q1, q2⟩, q3⟩ : (t.length <= 1048575 /\ ∀ f ∈ t, f.text.length <= 1048576) /\ f.text.length <= 1048576 := ha
 simp -implicitDefEqProofs [a9Y, Con.fn, tTab, a8E, a5j, b2C, a3m]
 try dsimp only
 try simp +contextual -implicitDefEqProofs [eStr, a0r, a0t, a0x, a0u, List.getElem?_eq_getElem, a0v, a0m, a0s, a0q, <- a0f, <- a0e, a0n, a0o, a0l, a0k, a0p, a0j, and_assoc]
 repeat' (first | intro _ | apply And.intro)
 all_goals first | omega | grind [a0z, a3m]
theorem b7o (t : List FileD) (k j : Int) : kE (a1d t k) j = kE t j := by
 have : a1E (a1d t k) = a1E t := by
  unfold a1E a1d
  rw [List.map_map]
  have : ((fun f : FileD => f.text.length) ∘ fun i : Nat => (⟨a1N (kE (t.take i) k), a1M (t.getD i default).text.length (kE (t.take i) k + 1)⟩ : FileD)) = fun i => (t.getD i default).text.length := by
   funext i; simp [a6r]
  rw [this]
  congr 1
  apply List.ext_getElem (by simp)
  intro i h1 h2
  simp at h1
  simp [h1]
 unfold kE
 rw [this, a1Q]
theorem b9n (t : List FileD) (k : Int) (i : Nat) (h : i <= t.length) : a1d (t.take i) k = (a1d t k).take i := by
 unfold a1d
 rw [<- List.map_take, List.take_range, List.length_take, Nat.min_comm]
 rw [Nat.min_comm]
 apply List.map_congr_left
 intro j hj
 have hj : j < i := by simp at hj; omega
 rw [List.take_take, Nat.min_eq_left (by omega)]
 simp [List.getElem?_take, hj]
theorem b9m (t : List FileD) (k : Int) : a1d (a1d t k) k = a1d t k := by
 show (List.range (a1d t k).length).map _ = (List.range t.length).map _
 rw [a1Q]
 apply List.map_congr_left
 intro i hi
 have hi : i < t.length := by simpa using hi
 rw [<- b9n t k i (by omega), b7o]
 have : ((a1d t k).getD i default).text.length = (t.getD i default).text.length := by simp [a1d, hi, a6r]
 rw [this]
def a6o (t : List FileD) (k : Int) : Int := if t = a1d t k then kE t k else -1
def a8C : Con := .fn 32 (List FileD × Int) (fun a => [.sl true 2 (a0a a.1), .int .i64 a.2]) (fun a => 0 <= a.2 /\ kE a.1 a.2 <= 1152921504606846976) (fun a => .int .i64 (a6o a.1 a.2)) (fun _ => [])
theorem b4O {t : List FileD} {k : Int} {i : Nat} (h : i < t.length) : (a1d t k)[i]'(by rw [a1Q]; exact h) = ⟨a1N (kE (t.take i) k), a1M t[i].text.length (kE (t.take i) k + 1)⟩ := by simp [a1d, h]
theorem c1y {t : List FileD} {k : Int} {i : Nat} (h : i < t.length) (h2 : t[i].path ≠ a1N (kE (t.take i) k) \/ t[i].text ≠ a1M t[i].text.length (kE (t.take i) k + 1)) : a6o t k = -1 := by
 unfold a6o
 rw [if_neg]
 intro h3
 have : t[i]? = (a1d t k)[i]? := by rw [<- h3]
 rw [List.getElem?_eq_getElem h, List.getElem?_eq_getElem (by rw [a1Q]; exact h), b4O h] at this
 have := Option.some.inj this
 rcases h2 with h2 | h2
 ·exact h2 (congrArg FileD.path this)
 ·exact h2 (congrArg FileD.text this)
theorem c1z {t : List FileD} {k : Int} {i : Nat} (h : i < t.length) (h1 : t.take i = (a1d t k).take i) (h2 : t[i].path = a1N (kE (t.take i) k)) (h3 : t[i].text = a1M t[i].text.length (kE (t.take i) k + 1)) : t.take (i + 1) = (a1d t k).take (i + 1) := by
 rw [a0y h, a0y (by rw [a1Q]; exact h), b4O h, <- h1, <- h2, <- h3]
theorem c4q {t : List FileD} {k : Int} {i : Nat} (h : t.length <= i) (h1 : t.take i = (a1d t k).take i) : a6o t k = kE (t.take i) k := by
 rw [List.take_of_length_le h, List.take_of_length_le (by rw [a1Q]; exact h)] at h1
 unfold a6o
 rw [if_pos h1, List.take_of_length_le h]
theorem b5v : Has Tryz.prog 112 a8C := by
 refine a0d mixed a0g (HasL.cons a2S (HasL.cons b2K HasL.nil)) [0, 1, 4, 5] ((fun a n (_ : Nat) => (fun a _ => ⟨Nat, fun i => ⟨[(0, true, .sl true 2 (a0a a.1)), (1, true, .int .i64 (kE (a.1.take i) a.2)), (4, true, .int .i64 0), (5, true, .int .i64 i)], []⟩, fun i => i <= a.1.length /\ a.1.take i = (a1d a.1 a.2).take i, fun i => a.1.length - i⟩) a n)) [] Tryz.func112 (by unfold Tryz.f112; rfl) (fun _ => ⟨(), trivial⟩) ?_
 intro a ha
 obtain ⟨t, k⟩ := a
 obtain ⟨q1, q2⟩ : 0 <= k /\ kE t k <= 1152921504606846976 := ha
 have e1 := fun i => @c1y t k i
 have e2 := fun i => @c1z t k i
 have e3 := fun i => @c4q t k i
 have e6 := fun i => @c0h t k i
 have e7 := fun i => @c1O t k i
 have e8 := c0i k
 simp -implicitDefEqProofs [a8C, Con.fn, tTab, a3f, a7a, e8]
 try dsimp only
 refine ⟨⟨0, by simp [e8]⟩, fun i hi hpre _ => ⟨fun hlt => ?_, fun hge => e3 i hge hpre⟩⟩
 have g := e6 i hlt
 have g1 := e7 i
 have g2 := e7 (i + 1)
 simp [hlt, a0r, D.asStr, D.asRows, and_assoc]
 have hl : ∀ l kk, a7A l kk = if l = a1M l.length kk then kk + l.length else -1 := fun _ _ => rfl
 have m1 := e1 i hlt
 have m2 := e2 i hlt hpre
 by_cases ht : t[i].text = a1M t[i].text.length (kE (t.take i) k + 1)
 ·have hh : a7A t[i].text (kE (t.take i) k + 1) = kE (t.take (i + 1)) k := by rw [hl, if_pos ht, g]
  rw [hh]
  exact ⟨by omega, fun hn => m1 (.inl hn), fun hp => ⟨by omega, by omega, fun _ _ => ⟨by omega, by omega, fun hn => by omega, fun _ => ⟨by omega, by omega, fun _ _ => ⟨i + 1, rfl, by omega, by omega, m2 hp ht, by omega⟩⟩⟩⟩⟩
 ·have hh : a7A t[i].text (kE (t.take i) k + 1) = -1 := by rw [hl, if_neg ht]
  rw [hh]
  exact ⟨by omega, fun hn => m1 (.inl hn), fun hp => ⟨by omega, by omega, fun _ _ => ⟨by omega, by omega, fun _ => m1 (.inr ht), fun hn => by omega⟩⟩⟩
theorem d2F {t : List FileD} {A B : Nat} (h1 : t.length <= A) (h2 : ∀ f ∈ t, f.text.length <= B) (k : Int) : k <= kE t k /\ kE t k <= k + A + B * A := by
 have h3 := c5t t h2
 have h4 : B * t.length <= B * A := Nat.mul_le_mul_left _ h1
 unfold kE
 refine ⟨by omega, ?_⟩
 have : (a1E t : Int) <= ((B * A : Nat) : Int) := by omega
 rw [Int.natCast_mul] at this
 omega
def a7U : Con := .fn 11 (RepoD × Int) (fun a => [a1e a.1, .int .i64 a.2]) (fun a => a.1.commits.length <= 1073741824) (fun a => .bool (decide (0 <= a.2) && decide (a.2 <= (a.1.commits.length : Int) - 1))) (fun _ => [])
theorem a8V : Has Tryz.prog 90 a7U := by
 refine a0d mixed a0g (HasL.cons a6O HasL.nil) [0, 1, 2, 4] ((fun a n (_ : Nat) => (fun _ => a0E) a n)) [] Tryz.func90 (by unfold Tryz.f90; rfl) (fun _ => ⟨(), trivial⟩) ?_
 intro a ha
 obtain ⟨r, n⟩ := a
 replace ha : r.commits.length <= 1073741824 := ha
 simp -implicitDefEqProofs [a7U, Con.fn, tTab, a6S]
 try dsimp only
 try simp +contextual -implicitDefEqProofs [eStr, a0r, a0t, a0x, a0u, List.getElem?_eq_getElem, a0v, a0m, a0s, a0q, <- a0f, <- a0e, a0n, a0o, a0l, a0k, a0p, a0j, and_assoc]
 repeat' (first | intro _ | apply And.intro)
 all_goals first | omega | grind [a0z]
def inN (n : Nat) (a : Int) : Bool := decide (0 <= a) && decide (a <= (n : Int) - 1)
def okHd (n : Nat) (h : List HeadD) (i : Nat) : Bool := a0X (h.getD i default).name && inN n (h.getD i default).at_ && (decide (i = 0) || Go.Op.bytesLess (h.getD (i - 1) default).name (h.getD i default).name)
def a2b (n : Nat) (h : List HeadD) : Bool := decide (h.length <= 5) && (List.range h.length).all (okHd n h)
theorem a2H (n : Nat) (h : List HeadD) : a2b n h = true ↔ h.length <= 5 /\ ∀ i, i < h.length -> okHd n h i = true := by simp -implicitDefEqProofs [a2b]
theorem b4M {n : Nat} {h : List HeadD} {i : Nat} (hi : i < h.length) (hb : okHd n h i = false) : a2b n h = false := by
 cases hq : a2b n h with
 | false => rfl
 | true => have := ((a2H n h).1 hq).2 i hi; simp -implicitDefEqProofs [hb] at this
def b1E : Con := .fn 44 (RepoD × List HeadD) (fun a => [a1e a.1, .sl true 2 (a0c a.2)]) (fun a => a.1.commits.length <= 1073741824) (fun a => .bool (a2b a.1.commits.length a.2)) (fun _ => [])
theorem b8Q : Has Tryz.prog 76 b1E := by
 refine a0d mixed a0g (HasL.cons a4T (HasL.cons a8V HasL.nil)) [0, 1, 2, 4, 5, 6, 10, 11, 12] ((fun a n (_ : Nat) => (fun a _ => ⟨Nat, fun i => ⟨[(1, true, .sl true 2 (a0c a.2)), (2, true, .ptr 10 0), (4, true, .bool false), (10, true, .sl true 2 (a0c a.2)), (11, true, .int .i64 a.2.length), (12, true, .int .i64 i)], [(10, .box 32 [.sl true 3 (a0h a.1.commits), .sl true 2 (a0c a.1.heads)])]⟩, fun i => i <= a.2.length /\ a.2.length <= 5 /\ ∀ j, j < i -> okHd a.1.commits.length a.2 j = true, fun i => a.2.length - i⟩) a n)) [] Tryz.func76 (by unfold Tryz.f76; rfl) (fun _ => ⟨(), trivial⟩) ?_
 intro a ha
 obtain ⟨r, t⟩ := a
 replace ha : r.commits.length <= 1073741824 := ha
 have hB : 5 < t.length -> a2b r.commits.length t = false := fun h => by
  cases hq : a2b r.commits.length t with
  | false => rfl
  | true => have := ((a2H _ _).1 hq).1; omega
 have hN := fun i => @b4M r.commits.length t i
 have hE := (a2H r.commits.length t).2
 have hg : ∀ i (h : i < t.length), t.getD i default = t[i] := fun i h => by simp -implicitDefEqProofs [List.getD_eq_getElem?_getD, h]
 have hgg : ∀ i (h : i < t.length), t[i]?.getD default = t[i] := fun i h => by simp -implicitDefEqProofs [h]
 have e1 : ∀ k (h : k < t.length), Option.map a0Y t[k]? = some (a0Y t[k]) := fun k h => by simp -implicitDefEqProofs [List.getElem?_eq_getElem h]
 simp -implicitDefEqProofs [b1E, Con.fn, tTab, a5m, a7U]
 try dsimp only
 refine fun _ => ⟨fun h => hB (by omega), fun h5 _ => ⟨by omega, fun i hi _ hprev => ⟨fun hlt => ?_, fun hge => hE ⟨by omega, fun j hj => hprev j (by omega)⟩⟩⟩⟩
 have e3 := e1 i hlt
 have e4 := e1 (i - 1) (by omega)
 have hh : okHd r.commits.length t i = (a0X t[i].name && inN r.commits.length t[i].at_ && (decide (i = 0) || Go.Op.bytesLess (t[i - 1]'(by omega)).name t[i].name)) := by
  unfold okHd
  rw [hg i hlt, hg (i - 1) (by omega)]
 have hn := hN i hlt
 rw [hh] at hn
 unfold inN at hn hh
 simp -implicitDefEqProofs [hlt, e3, e4, a0Y, D.asStr, D.asInt, a0x, and_assoc]
 try simp +contextual -implicitDefEqProofs [eStr, a0r, a0t, a0x, a0u, List.getElem?_eq_getElem, a0v, a0m, a0s, a0q, <- a0f, <- a0e, a0n, a0o, a0l, a0k, a0p, a0j, and_assoc, hlt]
 clear e1 hg hgg hN hE hB
 repeat' (first | intro _ | apply And.intro)
 all_goals first | omega | grind -ring
def okI1 (cs : List CommitD) (i : Nat) : Bool :=
 decide ((cs.getD i default).parents.length <= 2) && !(decide ((cs.getD i default).parents.length = 2) && decide ((cs.getD i default).parents.getD 0 0 = (cs.getD i default).parents.getD 1 0)) && a0X (cs.getD i default).who && a0D (cs.getD i default).tree
def okCI (cs : List CommitD) (i : Nat) : Bool := okI1 cs i && (List.range (cs.getD i default).parents.length).all fun k => inN i ((cs.getD i default).parents.getD k 0)
def a0G (r : RepoD) : Bool := decide (r.commits.length <= 16) && (List.range r.commits.length).all (okCI r.commits) && a2b r.commits.length r.heads
def a4f (r : RepoD) : Prop := r.commits.length <= 1073741824 /\ ∀ c ∈ r.commits, ∀ f ∈ c.tree, f.path.length <= 536870912
def a2V (r : RepoD) : Blk := .box 32 [.sl true 3 (a0h r.commits), .sl true 2 (a0c r.heads)]
theorem a0I (r : RepoD) : a2V r = .box 32 [.sl true 3 (a0h r.commits), .sl true 2 (a0c r.heads)] := rfl
def riO (r : RepoD) : Inv := ⟨Nat, fun i => ⟨[(1, true, .ptr 10 0), (2, true, .bool false), (12, true, .sl true 3 (a0h r.commits)), (13, true, .int .i64 r.commits.length), (14, true, .int .i64 i)], [(10, a2V r)]⟩, fun i => i <= r.commits.length /\ r.commits.length <= 16 /\ ∀ j, j < i -> okCI r.commits j = true, fun i => r.commits.length - i⟩
def riI (r : RepoD) (g : Nat) : Inv := ⟨Nat, fun k => ⟨[(1, true, .ptr 10 0), (2, true, .bool false), (3, true, .int .i64 g), (12, true, .sl true 3 (a0h r.commits)), (13, true, .int .i64 r.commits.length), (14, true, .int .i64 g), (53, true, .sl true 1 (a0i (r.commits.getD g default).parents)), (54, true, .int .i64 (r.commits.getD g default).parents.length), (55, true, .int .i64 k)], [(10, a2V r)]⟩,
 fun k => g < r.commits.length /\ k <= (r.commits.getD g default).parents.length /\ r.commits.length <= 16 /\ (∀ j, j < g -> okCI r.commits j = true) /\ okI1 r.commits g = true /\ ∀ j, j < k -> inN g ((r.commits.getD g default).parents.getD j 0) = true, fun k => (r.commits.getD g default).parents.length - k⟩
def c2J (r : RepoD) (n g : Nat) : Inv := if n = 4 then riO r else riI r g
theorem d0T (r : RepoD) (g : Nat) : c2J r 4 g = riO r := rfl
theorem d0U (r : RepoD) (g : Nat) : c2J r 9 g = riI r g := rfl
theorem a5p (r : RepoD) : a0G r = true ↔ r.commits.length <= 16 /\ (∀ i, i < r.commits.length -> okCI r.commits i = true) /\ a2b r.commits.length r.heads = true := by simp -implicitDefEqProofs [a0G, and_assoc]
theorem c8G {r : RepoD} {i : Nat} (hi : i < r.commits.length) (hb : okCI r.commits i = false) : a0G r = false := by
 cases hq : a0G r with
 | false => rfl
 | true => have := ((a5p r).1 hq).2.1 i hi; simp -implicitDefEqProofs [hb] at this
theorem c5P {r : RepoD} (h : 16 < r.commits.length) : a0G r = false := by
 cases hq : a0G r with
 | false => rfl
 | true => have := ((a5p r).1 hq).1; omega
theorem c8d {cs : List CommitD} {i : Nat} (h : okI1 cs i = false) : okCI cs i = false := by unfold okCI; rw [h]; rfl
theorem c8e {cs : List CommitD} {i k : Nat} (hk : k < (cs.getD i default).parents.length) (h : inN i ((cs.getD i default).parents.getD k 0) = false) : okCI cs i = false := by
 unfold okCI
 have : (List.range (cs.getD i default).parents.length).all (fun k => inN i ((cs.getD i default).parents.getD k 0)) = false := by
  rw [List.all_eq_false]
  exact ⟨k, List.mem_range.2 hk, by simpa using h⟩
 rw [this, Bool.and_false]
theorem c8f {cs : List CommitD} {i : Nat} (h : okI1 cs i = true) (h2 : ∀ k, k < (cs.getD i default).parents.length -> inN i ((cs.getD i default).parents.getD k 0) = true) : okCI cs i = true := by
 unfold okCI
 rw [h, Bool.true_and, List.all_eq_true]
 intro k hk
 exact h2 k (by simpa using hk)
def a5T : Con := .fn 70 RepoD (fun r => [a1e r]) a4f (fun r => .bool (a0G r)) (fun _ => [])
theorem a5L : Has Tryz.prog 28 a5T := by
 refine a0d mixed a0g (HasL.cons a4T (HasL.cons a4h (HasL.cons a6O (HasL.cons b8Q HasL.nil)))) [0, 1, 2, 3, 4, 6, 12, 13, 14, 53, 54, 55] (fun r => c2J r) [] Tryz.func28 (by unfold Tryz.f28; rfl) (fun _ => ⟨(), trivial⟩) ?_
 intro (r : RepoD) hr
 obtain ⟨hr1, hr2⟩ : r.commits.length <= 1073741824 /\ ∀ c ∈ r.commits, ∀ f ∈ c.tree, f.path.length <= 536870912 := hr
 have hp : ∀ i (h : i < r.commits.length), ∀ f ∈ r.commits[i].tree, f.path.length <= 536870912 := fun i h => hr2 _ (List.getElem_mem h)
 have hB := @c5P r
 have hN := fun i => @c8G r i
 have hN1 := fun i => @c8d r.commits i
 have hN2 := fun i k => @c8e r.commits i k
 have hY := fun i => @c8f r.commits i
 simp -implicitDefEqProofs [a5T, Con.fn, tTab, a5m, a4M, a6S, b1E, d0T, d0U, riO, riI, a0I]
 try dsimp only
 refine fun _ => ⟨fun h => hB (by omega), fun h16 _ => ⟨by omega, fun i hi _ hprev => ⟨fun hlt => ?_, fun hge => ?_⟩⟩⟩
 ·have e3 : Option.map a0H r.commits[i]? = some (a0H r.commits[i]) := by simp -implicitDefEqProofs [List.getElem?_eq_getElem hlt]
  have hgc : r.commits.getD i default = r.commits[i] := by simp -implicitDefEqProofs [List.getD_eq_getElem?_getD, hlt]
  have hpc := hp i hlt
  have n0 := hN i hlt
  have n1 := hN1 i
  have n2 := hN2 i
  have n3 := hY i
  have o1 : okI1 r.commits i = (decide (r.commits[i].parents.length <= 2) && !(decide (r.commits[i].parents.length = 2) && decide (r.commits[i].parents.getD 0 0 = r.commits[i].parents.getD 1 0)) && a0X r.commits[i].who && a0D r.commits[i].tree) := by
   unfold okI1; rw [hgc]
  rw [hgc] at n2 n3
  simp -implicitDefEqProofs [hlt, e3, a0H, D.asStr, D.asRows, a0x, and_assoc]
  try simp only [show r.commits[i]?.getD default = r.commits[i] by simp -implicitDefEqProofs [hlt]]
  generalize r.commits[i] = c at hpc n2 n3 o1 ⊢
  have hq : ∀ k (h : k < c.parents.length), inN i (c.parents[k]?.getD 0) = (decide (0 <= c.parents[k]) && decide (c.parents[k] <= (i : Int) - 1)) := fun k h => by simp -implicitDefEqProofs [inN, h]
  have n4 : ∀ k (h : k < c.parents.length), (decide (0 <= c.parents[k]) && decide (c.parents[k] <= (i : Int) - 1)) = false -> a0G r = false := fun k h hb => n0 (n2 k h (by rw [List.getD_eq_getElem?_getD, hq k h]; exact hb))
  have n5 : okI1 r.commits i = false -> a0G r = false := fun h => n0 (n1 h)
  have n6 : okI1 r.commits i = true -> (∀ j, j < c.parents.length -> inN i (c.parents[j]?.getD 0) = true) -> ∀ j, j < i + 1 -> okCI r.commits j = true := fun h1 h2 j hj => by
   rcases Nat.lt_or_ge j i with h3 | h3
   ·exact hprev j h3
   ·have : j = i := by omega
    subst this
    exact n3 h1 (fun k hk => by rw [List.getD_eq_getElem?_getD]; exact h2 k hk)
  clear n3 n2 n1 n0 hN hN1 hN2 hY hp hr2 hB hgc e3
  have o2 : ∀ (h : c.parents.length = 2), okI1 r.commits i = (!(decide (c.parents[0] = c.parents[1])) && a0X c.who && a0D c.tree) := fun h => by
   rw [o1]; simp -implicitDefEqProofs [h]
  have o3 : c.parents.length <= 2 -> ¬ c.parents.length = 2 -> okI1 r.commits i = (a0X c.who && a0D c.tree) := fun h h' => by
   rw [o1]; simp -implicitDefEqProofs [h, h']
  have o4 : 2 < c.parents.length -> okI1 r.commits i = false := fun h => by
   rw [o1]; simp -implicitDefEqProofs [show ¬ c.parents.length <= 2 by omega]
  clear o1
  refine ⟨fun h => n5 (o4 (by omega)), fun hl2 => ⟨fun h2 => ?_, fun h2 => ?_⟩⟩
  ·have q0 : Option.map eInt c.parents[0]? = some (eInt c.parents[0]) := by simp -implicitDefEqProofs [List.getElem?_eq_getElem (show 0 < c.parents.length by omega)]
   have q1 : Option.map eInt c.parents[1]? = some (eInt c.parents[1]) := by simp -implicitDefEqProofs [List.getElem?_eq_getElem (show 1 < c.parents.length by omega)]
   have o5 := o2 (by omega)
   simp -implicitDefEqProofs [q0, q1, eInt]
   refine ⟨by omega, fun _ => ⟨by omega, fun _ => ⟨fun he => n5 (by rw [o5]; simp -implicitDefEqProofs [he]), fun he => ⟨fun hn => n5 (by rw [o5]; simp -implicitDefEqProofs [hn]), fun hn => ⟨hpc, fun ht => n5 (by rw [o5]; simp -implicitDefEqProofs [ht]), fun ht _ => ⟨by omega, hprev, by rw [o5]; simp -implicitDefEqProofs [he, hn, ht], fun t ht1 _ _ hok hinv => ?_⟩⟩⟩⟩⟩⟩
   clear o2 o3 o4 o5 n5
   refine ⟨fun hlt2 => ?_, fun hge2 => ?_⟩
   ·have qt : Option.map eInt c.parents[t]? = some (eInt c.parents[t]) := by simp -implicitDefEqProofs [List.getElem?_eq_getElem hlt2]
    have n7 := n4 t hlt2
    have q7 := hq t hlt2
    simp -implicitDefEqProofs [qt, eInt, hlt2]
    have n8 : 0 <= c.parents[t] -> c.parents[t] <= (i : Int) - 1 -> ∀ j, j < t + 1 -> inN i (c.parents[j]?.getD 0) = true := fun g1 g2 j hj => by
     rcases Nat.lt_or_ge j t with h3 | h3
     ·exact hinv j h3
     ·have : j = t := by omega
      subst this
      rw [q7]
      simp -implicitDefEqProofs [g1, g2]
    refine ⟨by omega, by omega, fun _ _ => ⟨fun h => n7 (by simp; omega), fun g1 g2 => ⟨by omega, by omega, fun _ _ => ⟨t + 1, rfl, by omega, by omega, hprev, hok, n8 g1 g2, by omega⟩⟩⟩⟩
   ·have n7 := n6 hok (fun j hj => hinv j (by omega))
    exact ⟨by omega, by omega, fun _ _ => ⟨i + 1, rfl, by omega, by omega, n7, by omega⟩⟩
  ·have o5 := o3 (by omega) (by omega)
   refine ⟨fun hn => n5 (by rw [o5]; simp -implicitDefEqProofs [hn]), fun hn => ⟨hpc, fun ht => n5 (by rw [o5]; simp -implicitDefEqProofs [ht]), fun ht _ => ⟨by omega, hprev, by rw [o5]; simp -implicitDefEqProofs [hn, ht], fun t ht1 _ _ hok hinv => ?_⟩⟩⟩
   clear o2 o3 o4 o5 n5
   refine ⟨fun hlt2 => ?_, fun hge2 => ?_⟩
   ·have qt : Option.map eInt c.parents[t]? = some (eInt c.parents[t]) := by simp -implicitDefEqProofs [List.getElem?_eq_getElem hlt2]
    have n7 := n4 t hlt2
    have q7 := hq t hlt2
    simp -implicitDefEqProofs [qt, eInt, hlt2]
    have n8 : 0 <= c.parents[t] -> c.parents[t] <= (i : Int) - 1 -> ∀ j, j < t + 1 -> inN i (c.parents[j]?.getD 0) = true := fun g1 g2 j hj => by
     rcases Nat.lt_or_ge j t with h3 | h3
     ·exact hinv j h3
     ·have : j = t := by omega
      subst this
      rw [q7]
      simp -implicitDefEqProofs [g1, g2]
    refine ⟨by omega, by omega, fun _ _ => ⟨fun h => n7 (by simp; omega), fun g1 g2 => ⟨by omega, by omega, fun _ _ => ⟨t + 1, rfl, by omega, by omega, hprev, hok, n8 g1 g2, by omega⟩⟩⟩⟩
   ·have n7 := n6 hok (fun j hj => hinv j (by omega))
    exact ⟨by omega, by omega, fun _ _ => ⟨i + 1, rfl, by omega, by omega, n7, by omega⟩⟩
 ·refine ⟨r, r.heads, ⟨⟨rfl, rfl⟩, rfl⟩, hr1, ?_⟩
  rw [Bool.eq_iff_iff, a5p]
  exact ⟨fun h => h.2.2, fun h => ⟨by omega, fun j hj => hprev j (by omega), h⟩⟩
def oneP (i : Nat) (ps : List Int) (k : Nat) : Bool := inN i (ps.getD k 0) && !(decide (0 < k) && decide (ps.getD k 0 = ps.getD 0 0))
def okS1 (c : CommitD) : Bool := decide (c.parents.length <= 2) && a0X c.who && a0S c.tree
def okCS (cs : List CommitD) (i : Nat) : Bool := (List.range (cs.getD i default).parents.length).all (oneP i (cs.getD i default).parents) && okS1 (cs.getD i default)
def a0w (r : RepoD) : Bool := (List.range r.commits.length).all (okCS r.commits) && a2b r.commits.length r.heads && decide (r.commits.length <= 16)
theorem a0V (r : RepoD) : a0w r = true ↔ (∀ i, i < r.commits.length -> okCS r.commits i = true) /\ a2b r.commits.length r.heads = true /\ r.commits.length <= 16 := by simp -implicitDefEqProofs [a0w, and_assoc]
theorem c8H {r : RepoD} {i : Nat} (hi : i < r.commits.length) (hb : okCS r.commits i = false) : a0w r = false := by
 cases hq : a0w r with
 | false => rfl
 | true => have := ((a0V r).1 hq).1 i hi; simp -implicitDefEqProofs [hb] at this
theorem c5Q {r : RepoD} (hb : a2b r.commits.length r.heads = false) : a0w r = false := by
 unfold a0w; rw [hb]; simp
theorem c8g {cs : List CommitD} {i : Nat} (h : okS1 (cs.getD i default) = false) : okCS cs i = false := by unfold okCS; rw [h, Bool.and_false]
theorem c8h {cs : List CommitD} {i k : Nat} (hk : k < (cs.getD i default).parents.length) (h : oneP i (cs.getD i default).parents k = false) : okCS cs i = false := by
 unfold okCS
 have : (List.range (cs.getD i default).parents.length).all (oneP i (cs.getD i default).parents) = false := by
  rw [List.all_eq_false]
  exact ⟨k, List.mem_range.2 hk, by simpa using h⟩
 rw [this, Bool.false_and]
theorem c8i {cs : List CommitD} {i : Nat} (h : okS1 (cs.getD i default) = true) (h2 : ∀ k, k < (cs.getD i default).parents.length -> oneP i (cs.getD i default).parents k = true) : okCS cs i = true := by
 unfold okCS
 rw [h, Bool.and_true, List.all_eq_true]
 intro k hk
 exact h2 k (by simpa using hk)
theorem a1h (r : RepoD) : a0G r = a0w r := by
 have h : ∀ i, okCI r.commits i = okCS r.commits i := by
  intro i
  unfold okCI okCS okI1 okS1
  generalize r.commits.getD i default = c
  rw [a2v]
  rw [Bool.eq_iff_iff]
  simp only [Bool.and_eq_true, List.all_eq_true, List.mem_range, decide_eq_true_eq, oneP, Bool.not_eq_true', Bool.and_eq_false_iff, decide_eq_false_iff_not]
  constructor
  ·rintro ⟨⟨⟨⟨h1, h2⟩, h3⟩, h4⟩, h5⟩
   refine ⟨fun k hk => ⟨h5 k hk, ?_⟩, ⟨h1, h3⟩, h4⟩
   by_cases h0 : k = 0
   ·exact .inl (by omega)
   ·right
    have : k = 1 := by omega
    subst this
    rcases h2 with h2 | h2
    ·omega
    ·exact fun e => h2 e.symm
  ·rintro ⟨h1, ⟨h2, h3⟩, h4⟩
   refine ⟨⟨⟨⟨h2, ?_⟩, h3⟩, h4⟩, fun k hk => (h1 k hk).1⟩
   by_cases h0 : c.parents.length = 2
   ·right
    rcases (h1 1 (by omega)).2 with h5 | h5
    ·omega
    ·exact fun e => h5 e.symm
   ·exact .inl h0
 rw [Bool.eq_iff_iff, a5p, a0V]
 simp only [h]
 exact ⟨fun ⟨a, b, c⟩ => ⟨b, c, a⟩, fun ⟨b, c, a⟩ => ⟨a, b, c⟩⟩
def b0M : Con := .fn 26 (List Str × List Str) (fun a => [.sl true 1 (a0b a.1), .sl true 1 (a0b a.2)]) (fun _ => True) (fun a => .bool (decide (a.1 = a.2))) (fun _ => [])
theorem b2W : Has Tryz.prog 228 b0M := by
 refine a0d mixed a0g HasL.nil [0, 1, 4, 5] ((fun a n (_ : Nat) => (fun a _ => ⟨Nat, fun i => ⟨[(0, true, .sl true 1 (a0b a.1)), (1, true, .sl true 1 (a0b a.2)), (4, true, .bool false), (5, true, .int .i64 i)], []⟩, fun i => i <= a.1.length /\ a.1.length = a.2.length /\ a.1.take i = a.2.take i, fun i => a.1.length - i⟩) a n)) [] Tryz.func228 (by unfold Tryz.f228; rfl) (fun _ => ⟨(), trivial⟩) ?_
 intro a _
 obtain ⟨l, r⟩ := a
 simp -implicitDefEqProofs [b0M, Con.fn, tTab]
 try dsimp only
 try simp +contextual -implicitDefEqProofs [eStr, a0r, a0t, a0x, a0u, List.getElem?_eq_getElem, a0v, a0m, a0s, a0q, <- a0f, <- a0e, a0n, a0o, a0l, a0k, a0p, a0j, and_assoc]
 repeat' (first | intro _ | apply And.intro)
 all_goals first | omega | grind [a0z, a5U, a4j]
def getL : List FileD -> Str -> List Str × Bool
 | [], _ => ([], false)
 | f :: l, p => if f.path = p then (f.text, true) else getL l p
def b6G : Con := .fn 25 (List FileD × Str) (fun a => [.sl true 2 (a0a a.1), .str a.2]) (fun _ => True) (fun a => .tup [.sl true 1 (a0b (getL a.1 a.2).1), .bool (getL a.1 a.2).2]) (fun _ => [])
theorem c4V : Has Tryz.prog 213 b6G := by
 refine a0d mixed a0g HasL.nil [0, 1, 4, 5, 6] ((fun a n (_ : Nat) => (fun a _ => ⟨Nat, fun i => ⟨[(0, true, .sl true 2 (a0a a.1)), (1, true, .str a.2), (4, true, .nil), (5, true, .bool false), (6, true, .int .i64 i)], []⟩, fun i => i <= a.1.length /\ getL (a.1.drop i) a.2 = getL a.1 a.2, fun i => a.1.length - i⟩) a n)) [] Tryz.func213 (by unfold Tryz.f213; rfl) (fun _ => ⟨(), trivial⟩) ?_
 intro a _
 obtain ⟨t, p⟩ := a
 have e1 : ∀ i (h : i < t.length), getL (t.drop i) p = if t[i].path = p then (t[i].text, true) else getL (t.drop (i + 1)) p := fun i h => by rw [List.drop_eq_getElem_cons h]; rfl
 have e2 : ∀ i, t.length <= i -> getL (t.drop i) p = ([], false) := fun i h => by rw [List.drop_eq_nil_of_le h]; rfl
 simp -implicitDefEqProofs [b6G, Con.fn, tTab]
 try dsimp only
 refine fun i hi hpre _ => ⟨fun hlt => ?_, fun hge => ?_⟩
 ·have g := e1 i hlt
  rw [hpre] at g
  simp -implicitDefEqProofs [hlt, a0r, D.asStr, D.asRows, and_assoc]
  refine ⟨fun h => ?_, fun h => ⟨by omega, by omega, fun _ _ => ⟨i + 1, by omega, by omega, ?_, by omega⟩⟩⟩
  ·rw [g, if_pos h]; exact ⟨rfl, rfl⟩
  ·rw [g, if_neg h]
 ·rw [<- hpre, e2 i hge]; exact ⟨rfl, rfl⟩
def atL : List HeadD -> Str -> Int
 | [], _ => -1
 | h :: l, n => if h.name = n then h.at_ else atL l n
def a6e : Con := .fn 27 (RepoD × Str) (fun a => [a1e a.1, .str a.2]) (fun _ => True) (fun a => .int .i64 (atL a.1.heads a.2)) (fun _ => [])
theorem a4C : Has Tryz.prog 55 a6e := by
 refine a0d mixed a0g HasL.nil [0, 1, 2, 4, 5] ((fun a n (_ : Nat) => (fun a _ => ⟨Nat, fun i => ⟨[(1, true, .str a.2), (2, true, .ptr 10 0), (4, true, .int .i64 0), (5, true, .int .i64 i)], [(10, a2V a.1)]⟩, fun i => i <= a.1.heads.length /\ atL (a.1.heads.drop i) a.2 = atL a.1.heads a.2, fun i => a.1.heads.length - i⟩) a n)) [] Tryz.func55 (by unfold Tryz.f55; rfl) (fun _ => ⟨(), trivial⟩) ?_
 intro a _
 obtain ⟨r, p⟩ := a
 have e1 : ∀ i (h : i < r.heads.length), atL (r.heads.drop i) p = if r.heads[i].name = p then r.heads[i].at_ else atL (r.heads.drop (i + 1)) p := fun i h => by rw [List.drop_eq_getElem_cons h]; rfl
 have e2 : ∀ i, r.heads.length <= i -> atL (r.heads.drop i) p = -1 := fun i h => by rw [List.drop_eq_nil_of_le h]; rfl
 simp -implicitDefEqProofs [a6e, Con.fn, tTab, a0I]
 try dsimp only
 refine fun i hi hpre _ => ⟨fun hlt => ?_, fun hge => by rw [<- hpre, e2 i hge]⟩
 have g := e1 i hlt
 rw [hpre] at g
 simp -implicitDefEqProofs [hlt, a0Y, D.asStr, D.asInt, and_assoc]
 refine ⟨fun h => ?_, fun h => ⟨by omega, by omega, fun _ _ => ⟨i + 1, by omega, by omega, ?_, by omega⟩⟩⟩
 ·rw [g, if_pos h]
 ·rw [g, if_neg h]
def a1j (p : Str) (f : FileD) : Bool := decide (f.path ≠ p) && !inB p f.path
def b0N : Con := .fn 39 (List FileD × Str) (fun a => [.sl true 2 (a0a a.1), .str a.2]) (fun a => a.1.length <= 1048576) (fun a => .sl false 2 (a0a (filB (a1j a.2) a.1))) (fun _ => [])
theorem b3a : Has Tryz.prog 166 b0N := by
 refine a0d mixed a0g (HasL.cons b2d HasL.nil) [0, 1, 4, 5, 6] ((fun a n (_ : Nat) => (fun a _ => ⟨Nat, fun i => ⟨[(0, true, .sl true 2 (a0a a.1)), (1, true, .str a.2), (4, true, .nil), (5, true, .own 9 2 (a0a (filB (a1j a.2) (a.1.take i)))), (6, true, .int .i64 i)], [(9, .own 66 2 false (a0a (filB (a1j a.2) (a.1.take i))))]⟩, fun i => i <= a.1.length, fun i => a.1.length - i⟩) a n)) [36] Tryz.func166 (by unfold Tryz.f166; rfl) (fun _ => ⟨(), trivial⟩) ?_
 intro a ha
 obtain ⟨t, p⟩ := a
 replace ha : t.length <= 1048576 := ha
 have e1 := fun i h => @b4f (a1j p) t i h
 have e2 := fun i h => @b1V (a1j p) t i h
 simp -implicitDefEqProofs [b0N, b2B, Con.fn, tTab]
 try dsimp only
 refine ⟨⟨0, by simp -implicitDefEqProofs [filB]⟩, fun i hi _ => ⟨fun hlt => ?_, fun hge => ?_⟩⟩
 ·have g1 := e1 i hlt
  have g2 := e2 i hlt
  have hl : (filB (a1j p) (t.take i)).length <= 1048576 := by have := List.length_filter_le (a1j p) (t.take i); unfold filB; simp at this ⊢; omega
  simp -implicitDefEqProofs [hlt, a0r, D.asStr, D.asRows, and_assoc]
  refine ⟨fun h => ⟨fun hi2 => ⟨by omega, by omega, by omega, by omega, fun _ _ => ⟨i + 1, ?_, by omega, ?_, by omega, by omega⟩⟩, fun hi2 => ⟨by omega, by omega, fun _ _ => ⟨i + 1, ?_, by omega, ?_, by omega, by omega⟩⟩⟩, fun h => ⟨by omega, by omega, fun _ _ => ⟨i + 1, ?_, by omega, ?_, by omega, by omega⟩⟩⟩
  ·rw [g1 (by simp -implicitDefEqProofs [a1j, h, hi2])]; simp -implicitDefEqProofs [a0a, a0r]
  ·rw [g1 (by simp -implicitDefEqProofs [a1j, h, hi2])]; simp -implicitDefEqProofs [a0a, a0r]
  ·rw [g2 (by simp -implicitDefEqProofs [a1j, h, hi2])]
  ·rw [g2 (by simp -implicitDefEqProofs [a1j, h, hi2])]
  ·rw [g2 (by simp -implicitDefEqProofs [a1j, h])]
  ·rw [g2 (by simp -implicitDefEqProofs [a1j, h])]
 ·rw [List.take_of_length_le hge]
def lcs : List Str -> List Str -> Int
 | [], _ => 0
 | _ :: _, [] => 0
 | x :: a, y :: b => if x = y then lcs a b + 1 else if lcs (x :: a) b <= lcs a (y :: b) then lcs a (y :: b) else lcs (x :: a) b
termination_by a b => a.length + b.length
def eRow (r : List Int) : List D := [.sl 3 1 (a0i r)]
def a1a (t : List (List Int)) : List (List D) := t.map eRow
@[simp] theorem eRows_length (l : List (List Int)) : (a1a l).length = l.length := by simp -implicitDefEqProofs [a1a]
@[simp] theorem eRows_nil : a1a [] = [] := rfl
@[simp] theorem eRows_get (l : List (List Int)) (i : Nat) : (a1a l)[i]? = l[i]?.map eRow := by simp -implicitDefEqProofs [a1a]
def tabF (a b : List Str) (p q : Nat) : List (List Int) := (List.range (a.length + 1)).map fun r => (List.range (b.length + 1)).map fun c => if p <= r \/ (r + 1 = p /\ q <= c) then lcs (a.drop r) (b.drop c) else 0
theorem b7Z (i n : Nat) : a1a (List.replicate (i + 1) (List.replicate (n + 1) 0)) = a1a (List.replicate i (List.replicate (n + 1) 0)) ++ [[D.sl 3 1 (List.replicate (n + 1) [D.int .i64 0])]] := by
 rw [List.replicate_succ']
 simp -implicitDefEqProofs [a1a, eRow, a0i, eInt]
theorem b1g {a b : List Str} {p q : Nat} : (tabF a b p q).length = a.length + 1 := by simp -implicitDefEqProofs [tabF]
def tabR (a b : List Str) (p q r : Nat) : List Int := (List.range (b.length + 1)).map fun c => if p <= r \/ (r + 1 = p /\ q <= c) then lcs (a.drop r) (b.drop c) else 0
theorem a5t {a b : List Str} {p q r : Nat} (h : r <= a.length) : (tabF a b p q)[r]? = some (tabR a b p q r) := by
 simp -implicitDefEqProofs [tabF, tabR, List.getElem?_map, List.getElem?_range (show r < a.length + 1 by omega)]
theorem c5e (b : List Str) : lcs [] b = 0 := by rw [lcs]
theorem c5f (a : List Str) : lcs a [] = 0 := by cases a <;> rw [lcs]
theorem a7H {a b : List Str} {i : Nat} (h : a.length + 1 = i) : tabF a b a.length (b.length + 1) = List.replicate i (List.replicate (b.length + 1) 0) := by
 subst h
 apply List.ext_getElem
 ·simp -implicitDefEqProofs [tabF]
 ·intro r h1 h2
  apply List.ext_getElem
  ·simp -implicitDefEqProofs [tabF]
  ·intro c h3 h4
   simp only [tabF, List.getElem_map, List.getElem_range, List.getElem_replicate]
   split
   ·rename_i h5
    have h6 : a.drop r = [] := by
     rcases h5 with h5 | ⟨_, h5⟩
     ·exact List.drop_eq_nil_of_le h5
     ·simp -implicitDefEqProofs [tabF] at h3; omega
    rw [h6, c5e]
   ·rfl
theorem b1f {a b : List Str} {p : Nat} : tabF a b p b.length = tabF a b p (b.length + 1) := by
 unfold tabF
 apply List.map_congr_left
 intro r _
 apply List.map_congr_left
 intro c hc
 have hc : c < b.length + 1 := by simpa using hc
 by_cases h : p <= r
 ·rw [if_pos (.inl h), if_pos (.inl h)]
 ·by_cases h2 : r + 1 = p /\ b.length <= c
  ·rw [if_pos (.inr h2), if_neg (by omega), List.drop_eq_nil_of_le h2.2, c5f]
  ·rw [if_neg (by omega), if_neg (by omega)]
theorem a9m {a b : List Str} {p : Nat} (h : 0 < p) : tabF a b (p - 1) (b.length + 1) = tabF a b p 0 := by
 unfold tabF
 apply List.map_congr_left
 intro r _
 apply List.map_congr_left
 intro c hc
 have hc : c < b.length + 1 := by simpa using hc
 by_cases h2 : p <= r + 1
 ·rw [if_pos (.inl (by omega)), if_pos (by omega)]
 ·rw [if_neg (by omega), if_neg (by omega)]
theorem b8q {a b : List Str} {q : Nat} : tabF a b 0 q = tabF a b 0 0 := by
 unfold tabF
 apply List.map_congr_left
 intro r _
 apply List.map_congr_left
 intro c _
 rw [if_pos (.inl (Nat.zero_le _)), if_pos (.inl (Nat.zero_le _))]
theorem a4I {a b : List Str} {p q r : Nat} : (tabR a b p q r).length = b.length + 1 := by simp -implicitDefEqProofs [tabR]
theorem a3L {a b : List Str} {p q r c : Nat} (h : c <= b.length) : (tabR a b p q r)[c]? = some (if p <= r \/ (r + 1 = p /\ q <= c) then lcs (a.drop r) (b.drop c) else 0) := by
 simp -implicitDefEqProofs [tabR, List.getElem?_map, List.getElem?_range (show c < b.length + 1 by omega)]
theorem a8d (a b : List Str) : 0 <= lcs a b /\ lcs a b <= a.length := by
 fun_induction lcs a b
 ·simp
 ·simp; omega
 ·simp_all; omega
 ·simp_all; omega
 ·simp_all
theorem b7w {a b : List Str} {p q : Nat} (hp : 0 < p) (hp2 : p <= a.length) (hq : 0 < q) (hq2 : q <= b.length) : lcs (a.drop (p - 1)) (b.drop (q - 1)) = if a[p - 1] = b[q - 1] then lcs (a.drop p) (b.drop q) + 1 else if lcs (a.drop (p - 1)) (b.drop q) <= lcs (a.drop p) (b.drop (q - 1)) then lcs (a.drop p) (b.drop (q - 1)) else lcs (a.drop (p - 1)) (b.drop q) := by
 have e1 : a.drop (p - 1) = a[p - 1] :: a.drop p := by rw [List.drop_eq_getElem_cons (show p - 1 < a.length by omega), show p - 1 + 1 = p by omega]
 have e2 : b.drop (q - 1) = b[q - 1] :: b.drop q := by rw [List.drop_eq_getElem_cons (show q - 1 < b.length by omega), show q - 1 + 1 = q by omega]
 rw [e1, e2, lcs]
theorem c0A {a b : List Str} {p q : Nat} (hp : 0 < p) (hp2 : p <= a.length) (hq : 0 < q) (hq2 : q <= b.length) : ∀ v, v = lcs (a.drop (p - 1)) (b.drop (q - 1)) -> (a1a (tabF a b p q)).set (p - 1) [D.sl 3 1 ((a0i (tabR a b p q (p - 1))).set (q - 1) [D.int .i64 v])] = a1a (tabF a b p (q - 1)) := by
 intro v hv
 have e : (tabF a b p q).set (p - 1) ((tabR a b p q (p - 1)).set (q - 1) v) = tabF a b p (q - 1) := by
  apply List.ext_getElem
  ·simp -implicitDefEqProofs [tabF]
  ·intro r h1 h2
   rw [List.getElem_set]
   split
   ·rename_i hr
    subst hr
    apply List.ext_getElem
    ·simp -implicitDefEqProofs [tabF, tabR]
    ·intro c h3 h4
     rw [List.getElem_set]
     split
     ·rename_i hc
      subst hc
      simp only [tabF, List.getElem_map, List.getElem_range]
      rw [if_pos (by omega), hv]
     ·rename_i hc
      simp only [tabF, tabR, List.getElem_map, List.getElem_range]
      by_cases h : p <= p - 1 \/ (p - 1 + 1 = p /\ q <= c)
      ·rw [if_pos h, if_pos (by omega)]
      ·rw [if_neg h, if_neg (by omega)]
   ·rename_i hr
    simp only [tabF, List.getElem_map, List.getElem_range]
    apply List.map_congr_left
    intro c _
    by_cases h : p <= r \/ (r + 1 = p /\ q <= c)
    ·rw [if_pos h, if_pos (by omega)]
    ·rw [if_neg h, if_neg (by omega)]
 rw [<- e]
 simp -implicitDefEqProofs [a1a, eRow, a0i, List.map_set, eInt]
def l1tA (a b : List Str) : Inv := ⟨Nat, fun i => ⟨[(0, true, .sl true 1 (a0b a)), (1, true, .sl true 1 (a0b b)), (4, true, .nil), (5, true, .own 9 1 (a1a (List.replicate i (List.replicate (b.length + 1) 0)))), (6, true, .int .i64 i)], [(9, .own 33 1 true (a1a (List.replicate i (List.replicate (b.length + 1) 0))))]⟩, fun i => i <= a.length + 1, fun i => a.length + 1 - i⟩
def l1tB (a b : List Str) : Inv := ⟨Nat, fun p => ⟨[(0, true, .sl true 1 (a0b a)), (1, true, .sl true 1 (a0b b)), (4, true, .nil), (5, true, .own 9 1 (a1a (tabF a b p (b.length + 1)))), (7, true, .int .i64 ((p : Int) - 1))], [(9, .own 33 1 true (a1a (tabF a b p (b.length + 1))))]⟩, fun p => p <= a.length, fun p => p⟩
def l1tC (a b : List Str) (g : Nat) : Inv := ⟨Nat, fun q => ⟨[(0, true, .sl true 1 (a0b a)), (1, true, .sl true 1 (a0b b)), (4, true, .nil), (5, true, .own 9 1 (a1a (tabF a b g q))), (7, true, .int .i64 ((g : Int) - 1)), (8, true, .int .i64 ((q : Int) - 1))], [(9, .own 33 1 true (a1a (tabF a b g q)))]⟩, fun q => q <= b.length /\ 0 < g /\ g <= a.length, fun q => q⟩
def b2X (a b : List Str) (n g : Nat) : Inv := if n = 3 then l1tA a b else if n = 7 then l1tB a b else l1tC a b g
theorem c7F (a b g) : b2X a b 3 g = l1tA a b := rfl
theorem c7G (a b g) : b2X a b 7 g = l1tB a b := rfl
theorem c4T (a b g) : b2X a b 10 g = l1tC a b g := rfl
def b1I : Con := .fn 110 (List Str × List Str) (fun a => [.sl true 1 (a0b a.1), .sl true 1 (a0b a.2)]) (fun a => a.1.length <= 1048576 /\ a.2.length <= 1048576) (fun a => .own 8 1 (a1a (tabF a.1 a.2 0 0))) (fun a => [(8, .own 33 1 true (a1a (tabF a.1 a.2 0 0)))])
theorem b9h : Has Tryz.prog 247 b1I := by
 refine a0d mixed a0g HasL.nil [0, 1, 4, 5, 6, 7, 8] (fun a => b2X a.1 a.2) [] Tryz.func247 (by unfold Tryz.f247; rfl) (fun _ => ⟨(), trivial⟩) ?_
 intro a ha
 obtain ⟨a, b⟩ := a
 obtain ⟨h1, h2⟩ : a.length <= 1048576 /\ b.length <= 1048576 := ha
 simp (maxSteps := 4000000) [b1I, Con.fn, tTab, c7F, c7G, c4T, l1tA, l1tB, l1tC]
 try dsimp only
 refine ⟨⟨0, by simp⟩, fun i hi _ => ⟨fun hlt _ => ⟨by omega, fun _ _ => ⟨by omega, fun _ _ _ => ⟨by omega, by omega, fun _ _ => ⟨i + 1, ⟨⟨?_, by omega⟩, ?_⟩, by omega, by omega⟩⟩⟩⟩, fun hge _ => ⟨by omega, fun _ _ => ⟨⟨a.length, ⟨⟨?_, rfl⟩, ?_⟩, Nat.le_refl _⟩, fun p hp => ⟨fun h1p _ => ⟨by omega, fun _ _ => ⟨p, ⟨b.length, ⟨⟨?_, rfl, rfl⟩, ?_⟩, Nat.le_refl _, by omega, hp⟩, fun q hq hg hga => ⟨fun hq1 => ?_, fun hq0 => ⟨by omega, fun _ _ => ⟨p - 1, ⟨⟨?_, by omega⟩, ?_⟩, by omega, by omega⟩⟩⟩⟩⟩, fun hp0 => ?_⟩⟩⟩⟩⟩
 ·rw [b7Z]
 ·rw [b7Z]
 ·rw [a7H (show a.length + 1 = i by omega)]
 ·rw [a7H (show a.length + 1 = i by omega)]
 ·rw [b1f]
 ·rw [b1f]
 ·obtain ⟨T, hT⟩ : ∃ T, T = tabF a b p q := ⟨_, rfl⟩
  have t1 := @b1g a b p q
  have t2 := a5t (a := a) (b := b) (p := p) (q := q) (r := p) (by omega)
  have t3 := a5t (a := a) (b := b) (p := p) (q := q) (r := p - 1) (by omega)
  have t4 : a[p - 1]? = some a[p - 1] := List.getElem?_eq_getElem (by omega)
  have t5 : b[q - 1]? = some b[q - 1] := List.getElem?_eq_getElem (by omega)
  have u1 := @a4I a b p q p
  have u2 := @a4I a b p q (p - 1)
  have u3 : (tabR a b p q p)[q]? = some (lcs (a.drop p) (b.drop q)) := by rw [a3L (by omega), if_pos (by omega)]
  have u4 : (tabR a b p q p)[q - 1]? = some (lcs (a.drop p) (b.drop (q - 1))) := by rw [a3L (by omega), if_pos (by omega)]
  have u5 : (tabR a b p q (p - 1))[q]? = some (lcs (a.drop (p - 1)) (b.drop q)) := by rw [a3L (by omega), if_pos (by omega)]
  have v1 := a8d (a.drop p) (b.drop q)
  have v2 := a8d (a.drop p) (b.drop (q - 1))
  have v3 := a8d (a.drop (p - 1)) (b.drop q)
  have v4 : (a.drop p).length <= a.length := by simp
  have v5 : (a.drop (p - 1)).length <= a.length := by simp
  have w1 := c0A (a := a) (b := b) (p := p) (q := q) hg hga (by omega) hq
  have w2 := b7w (a := a) (b := b) (p := p) (q := q) hg hga (by omega) hq
  rw [<- hT] at t1 t2 t3 w1 ⊢
  clear hT
  generalize lcs (a.drop p) (b.drop q) = L11 at *
  generalize lcs (a.drop p) (b.drop (q - 1)) = L10 at *
  generalize lcs (a.drop (p - 1)) (b.drop q) = L01 at *
  generalize tabR a b p q p = rB at *
  generalize tabR a b p q (p - 1) = rA at *
  simp -implicitDefEqProofs [t1, t2, t3, t4, t5, u1, u2, u3, u4, u5, eInt, eStr, D.asStr, eRow, D.asRows, D.asInt, and_assoc]
  have fin : ∀ v, v = lcs (a.drop (p - 1)) (b.drop (q - 1)) -> ∃ t', a1a (tabF a b p t') = (a1a T).set (p - 1) [D.sl 3 1 ((a0i rA).set (q - 1) [D.int .i64 v])] /\ (t' : Int) = q - 1 /\ (a1a T).set (p - 1) [D.sl 3 1 ((a0i rA).set (q - 1) [D.int .i64 v])] = a1a (tabF a b p t') /\ t' <= b.length /\ 0 < p /\ p <= a.length /\ t' < q :=
   fun v hv => ⟨q - 1, (w1 v hv).symm, by omega, w1 v hv, by omega, hg, hga, by omega⟩
  repeat' (first | intro _ | apply And.intro)
  all_goals first | omega | exact fin _ (by rw [w2, if_pos (by assumption)]) | exact fin _ (by rw [w2, if_neg (by assumption), if_pos (by assumption)]) | exact fin _ (by rw [w2, if_neg (by assumption), if_neg (by omega)])
 ·rw [show q = 0 by omega, a9m (by omega)]
 ·rw [show q = 0 by omega, a9m (by omega)]
 ·rw [show p = 0 by omega, b8q]; exact ⟨rfl, rfl⟩
def mt : List Str -> List Str -> Nat -> List Int
 | [], _, _ => []
 | _ :: a, [], k => -1 :: mt a [] k
 | x :: a, y :: b, k => if x = y then (k : Int) :: mt a b (k + 1) else if lcs (x :: a) b <= lcs a (y :: b) then -1 :: mt a (y :: b) k else mt (x :: a) b (k + 1)
termination_by a b => a.length + b.length
theorem a8e (a b : List Str) (k : Nat) : (mt a b k).length = a.length := by
 fun_induction mt a b k <;> simp_all
theorem c5q {a b : List Str} {i k : Nat} (h : i < a.length) (hk : b.length <= k) : mt (a.drop i) (b.drop k) k = -1 :: mt (a.drop (i + 1)) (b.drop k) k := by
 rw [List.drop_eq_getElem_cons h, List.drop_eq_nil_of_le hk, mt]
theorem c0l {a b : List Str} {i k : Nat} (h : i < a.length) (hk : k < b.length) : mt (a.drop i) (b.drop k) k = if a[i] = b[k] then (k : Int) :: mt (a.drop (i + 1)) (b.drop (k + 1)) (k + 1) else if lcs (a.drop i) (b.drop (k + 1)) <= lcs (a.drop (i + 1)) (b.drop k) then -1 :: mt (a.drop (i + 1)) (b.drop k) k else mt (a.drop i) (b.drop (k + 1)) (k + 1) := by
 have e1 : a.drop i = a[i] :: a.drop (i + 1) := List.drop_eq_getElem_cons h
 have e2 : b.drop k = b[k] :: b.drop (k + 1) := List.drop_eq_getElem_cons hk
 rw [e1, e2, mt]
theorem a5d (o : List Int) (v : Int) : a0i (o ++ [v]) = a0i o ++ [[D.int .i64 v]] := by simp -implicitDefEqProofs [a0i, eInt]
def l1m (a b : List Str) : Inv := ⟨Nat × Nat × List Int, fun t => ⟨[(0, true, .sl true 1 (a0b a)), (1, true, .sl true 1 (a0b b)), (4, true, .nil), (5, true, .own 9 1 (a1a (tabF a b 0 0))), (6, true, .own 10 1 (a0i t.2.2)), (7, true, .int .i64 t.2.1), (8, true, .int .i64 t.1)], [(9, .own 33 1 true (a1a (tabF a b 0 0))), (10, .own 3 1 true (a0i t.2.2))]⟩,
 fun t => t.1 <= a.length /\ t.2.1 <= b.length /\ t.2.2.length = t.1 /\ t.2.2 ++ mt (a.drop t.1) (b.drop t.2.1) t.2.1 = mt a b 0, fun t => (a.length - t.1) + (b.length - t.2.1)⟩
def b1H : Con := .fn 73 (List Str × List Str) (fun a => [.sl true 1 (a0b a.1), .sl true 1 (a0b a.2)]) (fun a => a.1.length <= 1048576 /\ a.2.length <= 1048576) (fun a => .own 8 1 (a0i (mt a.1 a.2 0))) (fun a => a4v 8 (mt a.1 a.2 0))
theorem b9g : Has Tryz.prog 229 b1H := by
 refine a0d mixed a0g (HasL.cons b9h HasL.nil) [0, 1, 4, 5, 6, 7, 8] ((fun a n (_ : Nat) => (fun a _ => l1m a.1 a.2) a n)) [] Tryz.func229 (by unfold Tryz.f229; rfl) (fun _ => ⟨(), trivial⟩) ?_
 intro a ha
 obtain ⟨a, b⟩ := a
 obtain ⟨h1, h2⟩ : a.length <= 1048576 /\ b.length <= 1048576 := ha
 simp (maxSteps := 4000000) [b1H, b1I, Con.fn, tTab, l1m]
 try dsimp only
 refine ⟨a, b, ⟨rfl, rfl⟩, ⟨h1, h2⟩, ⟨0, 0, [], ⟨⟨rfl, rfl, rfl, rfl⟩, rfl, rfl⟩, Nat.zero_le _, Nat.zero_le _, rfl, by simp⟩, fun i k out hi hk hl hm _ => ⟨fun hlt => ?_, fun hge => ?_⟩⟩
 ·have t1 := @b1g a b 0 0
  have t2 := a5t (a := a) (b := b) (p := 0) (q := 0) (r := i) (by omega)
  have t3 := a5t (a := a) (b := b) (p := 0) (q := 0) (r := i + 1) (by omega)
  have u1 := @a4I a b 0 0 i
  have u2 := @a4I a b 0 0 (i + 1)
  have t4 : a[i]? = some a[i] := List.getElem?_eq_getElem hlt
  have m0 := c5q (a := a) (b := b) (i := i) (k := k) hlt
  rcases Nat.lt_or_ge k b.length with hkb | hkb
  ·have t5 : b[k]? = some b[k] := List.getElem?_eq_getElem hkb
   have u3 : (tabR a b 0 0 (i + 1))[k]? = some (lcs (a.drop (i + 1)) (b.drop k)) := by rw [a3L (by omega), if_pos (by omega)]
   have u4 : (tabR a b 0 0 i)[k + 1]? = some (lcs (a.drop i) (b.drop (k + 1))) := by rw [a3L (by omega), if_pos (by omega)]
   have m1 := c0l (a := a) (b := b) (i := i) (k := k) hlt hkb
   generalize tabF a b 0 0 = T at *
   generalize tabR a b 0 0 i = rA at *
   generalize tabR a b 0 0 (i + 1) = rB at *
   generalize lcs (a.drop (i + 1)) (b.drop k) = L1 at *
   generalize lcs (a.drop i) (b.drop (k + 1)) = L2 at *
   have g1 : ¬ b.length <= k := by omega
   obtain ⟨_, u6⟩ := List.getElem?_eq_some_iff.1 u4
   simp -implicitDefEqProofs [hkb, g1, t1, t2, t3, t4, t5, u1, u2, u3, u4, u6, eInt, eStr, D.asStr, eRow, D.asRows, D.asInt, and_assoc]
   refine ⟨hlt, fun _ => ⟨fun e => ⟨by omega, by omega, by omega, by omega, fun _ _ => ⟨by omega, by omega, fun _ _ => ⟨i + 1, k + 1, out ++ [(k : Int)], a5d _ _, by omega, by omega, (a5d _ _).symm, by omega, by omega, by simp -implicitDefEqProofs [hl], ?_, by omega⟩⟩⟩, fun e => ⟨by omega, by omega, fun _ _ => ⟨by omega, by omega, fun _ _ => ⟨by omega, fun _ => ⟨by omega, fun _ => ⟨by omega, by omega, fun _ _ => ⟨by omega, fun _ => ⟨fun c => ⟨by omega, by omega, by omega, by omega, fun _ _ => ⟨i + 1, k, out ++ [-1], a5d _ _, by omega, by omega, (a5d _ _).symm, by omega, by omega, by simp -implicitDefEqProofs [hl], ?_, by omega⟩⟩, fun c => ⟨by omega, by omega, fun _ _ => ⟨i, k + 1, by omega, by omega, by omega, by omega, hl, ?_, by omega⟩⟩⟩⟩⟩⟩⟩⟩⟩⟩⟩
   ·rw [<- hm, m1, if_pos e]; simp
   ·rw [<- hm, m1, if_neg e, if_pos c]; simp
   ·rw [<- hm, m1, if_neg e, if_neg (by omega)]
  ·have g1 : ¬ k < b.length := by omega
   simp -implicitDefEqProofs [hkb, g1, t4, eStr, D.asStr, and_assoc]
   refine ⟨by omega, by omega, by omega, by omega, fun _ _ => ⟨i + 1, k, out ++ [-1], a5d _ _, by omega, by omega, (a5d _ _).symm, by omega, by omega, by simp -implicitDefEqProofs [hl], ?_, by omega⟩⟩
   rw [<- hm, m0 (by omega)]; simp
 ·rw [List.drop_eq_nil_of_le hge, mt, List.append_nil] at hm
  exact ⟨hm.symm, hm⟩
structure PartD where
 clash : Bool
 lines : List Str
 old : List Str
 one : List Str
 two : List Str
 deriving DecidableEq, Inhabited
def a1V (a : PartD) : List D := [.bool a.clash, .sl 9 1 (a0b a.lines), .sl 9 1 (a0b a.old), .sl 9 1 (a0b a.one), .sl 9 1 (a0b a.two)]
@[simp] theorem ePart_inj (a b : PartD) : (a1V a = a1V b) = (a = b) := by
 cases a; cases b; simp -implicitDefEqProofs [a1V]
@[simp] theorem PartD.eta (a : PartD) : (⟨a.clash, a.lines, a.old, a.one, a.two⟩ : PartD) = a := rfl
theorem PartD.eq_iff (a b : PartD) : (a = b) = (a.clash = b.clash /\ a.lines = b.lines /\ a.old = b.old /\ a.one = b.one /\ a.two = b.two) := by
 cases a; cases b; simp
@[simp] theorem PartD.ex1 (x_clash : Bool) (x_lines : List Str) (x_old : List Str) (x_one : List Str) (x_two : List Str) (Q : PartD -> Prop) : (∃ a : PartD, a.clash = x_clash /\ a.lines = x_lines /\ a.old = x_old /\ a.one = x_one /\ a.two = x_two /\ Q a) = Q ⟨x_clash, x_lines, x_old, x_one, x_two⟩ := by
 apply propext
 constructor
 ·rintro ⟨⟨_, _, _, _, _⟩, rfl, rfl, rfl, rfl, rfl, h⟩; exact h
 ·intro h; exact ⟨⟨x_clash, x_lines, x_old, x_one, x_two⟩, rfl, rfl, rfl, rfl, rfl, h⟩
@[simp] theorem PartD.ex2 (x_clash : Bool) (x_lines : List Str) (x_old : List Str) (x_one : List Str) (x_two : List Str) (Q : PartD -> Prop) : (∃ a : PartD, (a.clash = x_clash /\ a.lines = x_lines /\ a.old = x_old /\ a.one = x_one /\ a.two = x_two) /\ Q a) = Q ⟨x_clash, x_lines, x_old, x_one, x_two⟩ := by
 apply propext
 constructor
 ·rintro ⟨⟨_, _, _, _, _⟩, ⟨rfl, rfl, rfl, rfl, rfl⟩, h⟩; exact h
 ·intro h; exact ⟨⟨x_clash, x_lines, x_old, x_one, x_two⟩, ⟨rfl, rfl, rfl, rfl, rfl⟩, h⟩
@[simp] theorem PartD.ex0 (x_clash : Bool) (x_lines : List Str) (x_old : List Str) (x_one : List Str) (x_two : List Str) : (∃ a : PartD, a.clash = x_clash /\ a.lines = x_lines /\ a.old = x_old /\ a.one = x_one /\ a.two = x_two) = True := by
 simp only [eq_iff_iff, iff_true]
 exact ⟨⟨x_clash, x_lines, x_old, x_one, x_two⟩, rfl, rfl, rfl, rfl, rfl⟩
def a0C (l : List PartD) : List (List D) := l.map a1V
@[simp] theorem eParts_length (l : List PartD) : (a0C l).length = l.length := by simp -implicitDefEqProofs [a0C]
@[simp] theorem eParts_nil : a0C [] = [] := rfl
@[simp] theorem eParts_get (l : List PartD) (i : Nat) : (a0C l)[i]? = l[i]?.map a1V := by simp -implicitDefEqProofs [a0C]
@[simp] theorem eParts_getElem (l : List PartD) (i : Nat) (h : i < (a0C l).length) : (a0C l)[i] = a1V (l[i]'(by simpa using h)) := by simp -implicitDefEqProofs [a0C]
@[simp] theorem eParts_inj (a b : List PartD) : (a0C a = a0C b) = (a = b) := by
 apply propext
 constructor
 ·intro h
  exact List.map_inj_right (fun x y h => by simpa using h) |>.1 h
 ·rintro rfl; rfl
@[simp] theorem eParts_eq_nil (a : List PartD) : (a0C a = []) = (a = []) := by simp -implicitDefEqProofs [a0C]
@[simp] theorem nil_eq_eParts (a : List PartD) : ([] = a0C a) = (a = []) := by simp -implicitDefEqProofs [a0C, eq_comm]
theorem b5t (a b : List PartD) : a0C (a ++ b) = a0C a ++ a0C b := by simp -implicitDefEqProofs [a0C]
abbrev b2f (h : Nat) (a : List PartD) : List (Nat × Blk) := [(h, .own 229 5 true (a0C a))]
def a1b (o a b : List Str) : PartD := if a = o \/ a = b then ⟨false, b, [], [], []⟩ else if b = o then ⟨false, a, [], [], []⟩ else ⟨true, [], o, a, b⟩
theorem b1q (o a b : List Str) : (a1b o a b).lines.length <= a.length + b.length := by
 unfold a1b
 split
 ·simp
 ·split <;> simp
def put3 (l : List PartD) (p : PartD) : List PartD :=
 if p.clash = false /\ p.lines = [] then l
 else match l.getLast? with
  | some q => if p.clash = false /\ q.clash = false then l.set (l.length - 1) ⟨q.clash, q.lines ++ p.lines, q.old, q.one, q.two⟩ else l ++ [p]
  | none => l ++ [p]
theorem a9h (l : List PartD) (p : PartD) : (put3 l p).length <= l.length + 1 := by
 unfold put3
 split
 ·omega
 ·split
  ·split <;> simp
  ·simp
theorem b1a {l : List PartD} {p : PartD} {n : Nat} (h : ∀ q ∈ l, q.lines.length <= n) : ∀ q ∈ put3 l p, q.lines.length <= n + p.lines.length := by
 intro q hq
 unfold put3 at hq
 split at hq
 ·have := h q hq; omega
 ·split at hq
  ·rename_i r hr
   split at hq
   ·rcases List.mem_or_eq_of_mem_set hq with hq | hq
    ·have := h q hq; omega
    ·subst hq
     have := h r (List.mem_of_getLast? hr)
     simp; omega
   ·rcases List.mem_append.1 hq with hq | hq
    ·have := h q hq; omega
    ·simp at hq; subst hq; omega
  ·rcases List.mem_append.1 hq with hq | hq
   ·have := h q hq; omega
   ·simp at hq; subst hq; omega
def asc : Int -> Int -> List Int -> Prop
 | _, _, [] => True
 | k, n, x :: l => (x < 0 /\ asc k n l) \/ (k <= x /\ x < n /\ asc (x + 1) n l)
theorem a8u : ∀ {l : List Int} {k k' n : Int}, k <= k' -> asc k' n l -> asc k n l
 | [], _, _, _, _, _ => trivial
 | x :: l, k, k', n, h, h2 => by
  rcases h2 with ⟨h3, h4⟩ | ⟨h3, h4, h5⟩
  ·exact .inl ⟨h3, a8u h h4⟩
  ·exact .inr ⟨by omega, h4, h5⟩
theorem b1y : ∀ {l : List Int} {k n : Int}, k <= n -> asc k n l -> asc k (n + 1) (l ++ [n])
 | [], k, n, h, _ => .inr ⟨h, by omega, trivial⟩
 | x :: l, k, n, h, h2 => by
  rcases h2 with ⟨h3, h4⟩ | ⟨h3, h4, h5⟩
  ·exact .inl ⟨h3, b1y h h4⟩
  ·exact .inr ⟨h3, by omega, b1y (by omega) h5⟩
theorem d2f (a b : List Str) (k : Nat) : asc k (k + b.length) (mt a b k) := by
 fun_induction mt a b k with
 | case1 => trivial
 | case2 x a k ih => exact .inl ⟨by omega, ih⟩
 | case3 a y b k ih =>
  refine .inr ⟨by omega, by simp only [List.length_cons]; omega, ?_⟩
  have e : ((k + 1 : Nat) : Int) + b.length = k + (y :: b).length := by simp only [List.length_cons]; omega
  rw [e] at ih
  exact ih
 | case4 x a y b k h h2 ih => exact .inl ⟨by omega, ih⟩
 | case5 x a y b k h1 h2 ih =>
  have e : ((k + 1 : Nat) : Int) + b.length = k + (y :: b).length := by simp only [List.length_cons]; omega
  rw [e] at ih
  exact a8u (by omega) ih
def mtE (a b : List Str) : List Int := mt a b 0 ++ [(b.length : Int)]
theorem a6U (a b : List Str) : (mtE a b).length = a.length + 1 := by simp -implicitDefEqProofs [mtE, a8e]
theorem c0k (a b : List Str) : asc 0 (b.length + 1) (mtE a b) := by
 have h := d2f a b 0
 have := b1y (k := 0) (n := b.length) (by omega) (by simpa using h)
 exact this
theorem a7S {l : List Int} {i : Nat} {k n : Int} (h : i < l.length) (ha : asc k n (l.drop i)) : (l[i] < 0 /\ asc k n (l.drop (i + 1))) \/ (k <= l[i] /\ l[i] < n /\ asc (l[i] + 1) n (l.drop (i + 1))) := by
 rw [List.drop_eq_getElem_cons h] at ha
 exact ha
structure S3 where
 io : Nat
 ia : Nat
 ib : Nat
 out : List PartD
def a6M (o a b : List Str) (x y : Int) (i : Nat) (s : S3) : S3 :=
 if x < 0 \/ y < 0 then s
 else ⟨i + 1, x.toNat + 1, y.toNat + 1,
  if i < o.length then put3 (put3 s.out (a1b ((o.take i).drop s.io) ((a.take x.toNat).drop s.ia) ((b.take y.toNat).drop s.ib))) ⟨false, [o.getD i []], [], [], []⟩
  else put3 s.out (a1b ((o.take i).drop s.io) ((a.take x.toNat).drop s.ia) ((b.take y.toNat).drop s.ib))⟩
def run3 (o a b : List Str) : Nat -> S3
 | 0 => ⟨0, 0, 0, []⟩
 | i + 1 => a6M o a b ((mtE o a).getD i 0) ((mtE o b).getD i 0) i (run3 o a b i)
def of3 (o a b : List Str) : List PartD := (run3 o a b (o.length + 1)).out
def Ok3 (o a b : List Str) (i : Nat) (s : S3) : Prop :=
 s.io <= i /\ s.ia <= a.length + 1 /\ s.ib <= b.length + 1 /\ asc s.ia (a.length + 1) ((mtE o a).drop i) /\ asc s.ib (b.length + 1) ((mtE o b).drop i) /\ s.out.length <= 2 * i /\ ∀ q ∈ s.out, q.lines.length <= s.io + s.ia + s.ib
theorem d2I (o a b : List Str) : Ok3 o a b 0 ⟨0, 0, 0, []⟩ := ⟨by simp, by simp, by simp, by simpa using c0k o a, by simpa using c0k o b, by simp, by simp⟩
theorem c8c {o a b : List Str} {i : Nat} {s : S3} (hi : i < o.length + 1) (h : Ok3 o a b i s) : Ok3 o a b (i + 1) (a6M o a b ((mtE o a).getD i 0) ((mtE o b).getD i 0) i s) := by
 obtain ⟨h1, h2, h3, h4, h5, h6, h7⟩ := h
 have la := a6U o a
 have lb := a6U o b
 have ga : (mtE o a).getD i 0 = (mtE o a)[i]'(by omega) := by simp -implicitDefEqProofs [List.getD_eq_getElem?_getD, List.getElem?_eq_getElem (show i < (mtE o a).length by omega)]
 have gb : (mtE o b).getD i 0 = (mtE o b)[i]'(by omega) := by simp -implicitDefEqProofs [List.getD_eq_getElem?_getD, List.getElem?_eq_getElem (show i < (mtE o b).length by omega)]
 rw [ga, gb]
 have h4 := a7S (l := mtE o a) (by omega) h4
 have h5 := a7S (l := mtE o b) (by omega) h5
 generalize (mtE o a)[i]'(by omega) = x at *
 generalize (mtE o b)[i]'(by omega) = y at *
 unfold a6M
 split
 ·rename_i hxy
  refine ⟨by omega, h2, h3, ?_, ?_, by omega, h7⟩
  ·rcases h4 with h4 | h4
   ·exact h4.2
   ·exact a8u (by omega) h4.2.2
  ·rcases h5 with h5 | h5
   ·exact h5.2
   ·exact a8u (by omega) h5.2.2
 ·rename_i hxy
  rcases h4 with h4 | ⟨h4, h41, h42⟩
  ·omega
  rcases h5 with h5 | ⟨h5, h51, h52⟩
  ·omega
  have ex : ((x.toNat + 1 : Nat) : Int) = x + 1 := by omega
  have ey : ((y.toNat + 1 : Nat) : Int) = y + 1 := by omega
  have b1 := b1q ((o.take i).drop s.io) ((a.take x.toNat).drop s.ia) ((b.take y.toNat).drop s.ib)
  have b2 := b1a (p := a1b ((o.take i).drop s.io) ((a.take x.toNat).drop s.ia) ((b.take y.toNat).drop s.ib)) h7
  have b3 := a9h s.out (a1b ((o.take i).drop s.io) ((a.take x.toNat).drop s.ia) ((b.take y.toNat).drop s.ib))
  generalize a1b ((o.take i).drop s.io) ((a.take x.toNat).drop s.ia) ((b.take y.toNat).drop s.ib) = p at *
  have b1 : p.lines.length <= (x.toNat - s.ia) + (y.toNat - s.ib) := by
   refine Nat.le_trans b1 ?_
   simp only [List.length_drop, List.length_take]
   omega
  refine ⟨by simp, by simp; omega, by simp; omega, by simpa only [ex] using h42, by simpa only [ey] using h52, ?_, ?_⟩
  ·show (if i < o.length then _ else _ : List PartD).length <= _
   split
   ·have := a9h (put3 s.out p) ⟨false, [o.getD i []], [], [], []⟩
    omega
   ·omega
  ·show ∀ q ∈ (if i < o.length then _ else _ : List PartD), _
   split
   ·intro q hq
    have := b1a (p := ⟨false, [o.getD i []], [], [], []⟩) b2 q hq
    simp at this
    show q.lines.length <= (i + 1) + (x.toNat + 1) + (y.toNat + 1)
    omega
   ·intro q hq
    have := b2 q hq
    show q.lines.length <= (i + 1) + (x.toNat + 1) + (y.toNat + 1)
    omega
theorem a8g (o a b : List Str) : ∀ i, i <= o.length + 1 -> Ok3 o a b i (run3 o a b i)
 | 0, _ => d2I o a b
 | i + 1, h => c8c (by omega) (a8g o a b i (by omega))
def a2e (l : List PartD) : List Str × Bool := if l.any (·.clash) then ([], false) else if a1g (l.flatMap (·.lines)) then (l.flatMap (·.lines), true) else ([], false)
def rsO (r : RepoD) : Inv := ⟨Nat, fun i => ⟨[(1, true, .ptr 10 0), (2, true, .bool false), (3, true, .int .i64 i)], [(10, a2V r)]⟩, fun i => i <= r.commits.length /\ ∀ j, j < i -> okCS r.commits j = true, fun i => r.commits.length - i⟩
def rsI (r : RepoD) (g : Nat) : Inv := ⟨Nat, fun k => ⟨[(1, true, .ptr 10 0), (2, true, .bool false), (3, true, .int .i64 g), (4, true, .ptr 11 0), (5, true, .int .i64 k)], [(10, a2V r), (11, .box 102 [.sl true 1 (a0i (r.commits.getD g default).parents), .str (r.commits.getD g default).who, .sl true 2 (a0a (r.commits.getD g default).tree)])]⟩,
 fun k => g < r.commits.length /\ k <= (r.commits.getD g default).parents.length /\ (∀ j, j < g -> okCS r.commits j = true) /\ ∀ j, j < k -> oneP g (r.commits.getD g default).parents j = true, fun k => (r.commits.getD g default).parents.length - k⟩
def rsH (r : RepoD) : Inv := ⟨Nat, fun i => ⟨[(1, true, .ptr 10 0), (2, true, .bool false), (6, true, .int .i64 i)], [(10, a2V r)]⟩, fun i => i <= r.heads.length /\ (∀ j, j < r.commits.length -> okCS r.commits j = true) /\ ∀ j, j < i -> okHd r.commits.length r.heads j = true, fun i => r.heads.length - i⟩
def b6e (r : RepoD) (n g : Nat) : Inv := if n = 2 then rsO r else if n = 6 then rsI r g else rsH r
theorem d0V (r : RepoD) (g : Nat) : b6e r 2 g = rsO r := rfl
theorem d0W (r : RepoD) (g : Nat) : b6e r 6 g = rsI r g := rfl
theorem c8I (r : RepoD) (g : Nat) : b6e r 13 g = rsH r := rfl
def a6f : Con := .fn 126 RepoD (fun r => [a1e r]) (fun r => r.commits.length <= 1073741824) (fun r => .bool (a0w r)) (fun _ => [])
theorem a4D : Has Tryz.prog 52 a6f := by
 refine a0d mixed a0g (HasL.cons a5f (HasL.cons a4O (HasL.cons a7k HasL.nil))) [0, 1, 2, 3, 4, 5, 6] (fun r => b6e r) [] Tryz.func52 (by unfold Tryz.f52; rfl) (fun _ => ⟨(), trivial⟩) ?_
 intro (r : RepoD) hr
 replace hr : r.commits.length <= 1073741824 := hr
 have hN := fun i => @c8H r i
 have hN1 := fun i => @c8g r.commits i
 have hN2 := fun i k => @c8h r.commits i k
 have hY := fun i => @c8i r.commits i
 have hM := fun i => @b4M r.commits.length r.heads i
 have hH := @c5Q r
 simp -implicitDefEqProofs [a6f, Con.fn, tTab, a5k, a8E, a6C, d0V, d0W, c8I, rsO, rsI, rsH, a0I]
 try dsimp only
 refine fun i hi hprev _ => ⟨fun hlt => ?_, fun hge => ?_⟩
 ·have e3 : Option.map a0H r.commits[i]? = some (a0H r.commits[i]) := by simp -implicitDefEqProofs [List.getElem?_eq_getElem hlt]
  have hgc : r.commits.getD i default = r.commits[i] := by simp -implicitDefEqProofs [List.getD_eq_getElem?_getD, hlt]
  have n0 := hN i hlt
  have n1 := hN1 i
  have n2 := hN2 i
  have n3 := hY i
  rw [hgc] at n1 n2 n3
  simp -implicitDefEqProofs [hlt, e3, a0H, D.asStr, D.asRows, a0x, and_assoc]
  try simp only [show r.commits[i]?.getD default = r.commits[i] by simp -implicitDefEqProofs [hlt]]
  generalize r.commits[i] = c at n1 n2 n3 ⊢
  clear hN hN1 hN2 hY hM hH e3 hgc
  refine ⟨hprev, fun t ht _ hinv _ => ⟨fun hlt2 => ?_, fun hge2 => ?_⟩⟩
  ·have qt : Option.map eInt c.parents[t]? = some (eInt c.parents[t]) := by simp -implicitDefEqProofs [List.getElem?_eq_getElem hlt2]
   have q0 : Option.map eInt c.parents[0]? = some (eInt (c.parents[0]'(by omega))) := by simp -implicitDefEqProofs [List.getElem?_eq_getElem (show 0 < c.parents.length by omega)]
   have o : oneP i c.parents t = ((decide (0 <= c.parents[t]) && decide (c.parents[t] <= (i : Int) - 1)) && !(decide (0 < t) && decide (c.parents[t] = c.parents[0]'(by omega)))) := by
    unfold oneP inN
    rw [show c.parents.getD t 0 = c.parents[t] by simp -implicitDefEqProofs [List.getD_eq_getElem?_getD, hlt2], show c.parents.getD 0 0 = c.parents[0]'(by omega) by simp -implicitDefEqProofs [List.getD_eq_getElem?_getD, show 0 < c.parents.length by omega]]
   have n7 : oneP i c.parents t = false -> a0w r = false := fun h => n0 (n2 t hlt2 h)
   have n8 : oneP i c.parents t = true -> ∀ j, j < t + 1 -> oneP i c.parents j = true := fun h j hj => by
    rcases Nat.lt_or_ge j t with h3 | h3
    ·exact hinv j h3
    ·have : j = t := by omega
     subst this; exact h
   simp -implicitDefEqProofs [qt, q0, eInt, hlt2]
   refine ⟨by omega, by omega, fun _ _ => ⟨fun h => ?_, fun g1 g2 => ⟨fun h0 => ⟨by omega, fun _ => ⟨fun he => n7 (by rw [o]; simp -implicitDefEqProofs [he, h0]), fun he => ⟨by omega, by omega, fun _ _ => ⟨t + 1, rfl, by omega, hprev, n8 (by rw [o]; simp -implicitDefEqProofs [g1, g2, he]), by omega⟩⟩⟩⟩,
    fun h0 => ⟨by omega, by omega, fun _ _ => ⟨t + 1, rfl, by omega, hprev, n8 (by rw [o, show decide (0 < t) = false by simp -implicitDefEqProofs [h0]]; simp -implicitDefEqProofs [g1, g2]), by omega⟩⟩⟩⟩⟩
   have : a0w r = false := n7 (by rw [o]; simp; omega)
   exact ⟨fun _ => this, fun _ => this⟩
  ·have n9 : okS1 c = false -> a0w r = false := fun h => n0 (n1 h)
   have n10 : okS1 c = true -> ∀ j, j < i + 1 -> okCS r.commits j = true := fun h j hj => by
    rcases Nat.lt_or_ge j i with h3 | h3
    ·exact hprev j h3
    ·have : j = i := by omega
     subst this
     exact n3 h (fun k hk => hinv k (by omega))
   refine fun _ => ⟨fun h => n9 (by simp -implicitDefEqProofs [okS1]; omega), fun h => ⟨fun hn => n9 (by simp -implicitDefEqProofs [okS1, hn]), fun hn => ⟨fun ht => n9 (by simp -implicitDefEqProofs [okS1, ht]), fun ht => ⟨by omega, by omega, fun _ _ => ⟨i + 1, rfl, by omega, n10 (by simp -implicitDefEqProofs [okS1, hn, ht]; omega), by omega⟩⟩⟩⟩⟩
 ·clear hN hN1 hN2 hY
  have hall : ∀ j, j < r.commits.length -> okCS r.commits j = true := fun j hj => hprev j (by omega)
  refine ⟨hall, fun t ht _ hinv _ => ⟨fun hlt2 => ?_, fun hge2 _ => ?_⟩⟩
  ·generalize hhs : r.heads = hs at *
   have e3 : Option.map a0Y hs[t]? = some (a0Y hs[t]) := by simp -implicitDefEqProofs [List.getElem?_eq_getElem hlt2]
   have e4 : Option.map a0Y hs[t - 1]? = some (a0Y (hs[t - 1]'(by omega))) := by simp -implicitDefEqProofs [List.getElem?_eq_getElem (show t - 1 < hs.length by omega)]
   have hh : okHd r.commits.length hs t = (a0X hs[t].name && inN r.commits.length hs[t].at_ && (decide (t = 0) || Go.Op.bytesLess (hs[t - 1]'(by omega)).name hs[t].name)) := by
    unfold okHd
    rw [show hs.getD t default = hs[t] by simp -implicitDefEqProofs [List.getD_eq_getElem?_getD, hlt2], show hs.getD (t - 1) default = hs[t - 1]'(by omega) by simp -implicitDefEqProofs [List.getD_eq_getElem?_getD, show t - 1 < hs.length by omega]]
   have n7 : okHd r.commits.length hs t = false -> a0w r = false := fun h => hH (hM t hlt2 h)
   have n8 : okHd r.commits.length hs t = true -> ∀ j, j < t + 1 -> okHd r.commits.length hs j = true := fun h j hj => by
    rcases Nat.lt_or_ge j t with h3 | h3
    ·exact hinv j h3
    ·have : j = t := by omega
     subst this; exact h
   have hq := b7y hs[t].name (hs[t - 1]'(by omega)).name
   rw [a3k] at hh
   unfold leqS at hq
   rw [hh] at n7 n8
   unfold inN at n7 n8
   clear hh hH hM
   simp -implicitDefEqProofs [hlt2, e3, e4, a0Y, D.asStr, D.asInt, a0x, and_assoc]
   try simp +contextual -implicitDefEqProofs [eStr, a0r, a0t, a0x, a0u, List.getElem?_eq_getElem, a0v, a0m, a0s, a0q, <- a0f, <- a0e, a0n, a0o, a0l, a0k, a0p, a0j, and_assoc, hlt2]
   clear e3 e4 hinv hprev
   repeat' (first | intro _ | apply And.intro)
   all_goals first | omega | grind -ring
  ·have h2 : a2b r.commits.length r.heads = decide (r.heads.length <= 5) := by
    unfold a2b
    have : (List.range r.heads.length).all (okHd r.commits.length r.heads) = true := by
     rw [List.all_eq_true]
     intro j hj
     have hj' : j < r.heads.length := by simpa using hj
     exact hinv j (by omega)
    rw [this, Bool.and_true]
   refine ⟨fun h16 _ => ?_, fun h16 => ?_⟩
   ·rw [Bool.eq_iff_iff, a0V, h2]
    simp only [decide_eq_true_eq]
    exact ⟨fun h => by have := h.2.1; omega, fun h => ⟨hall, by omega, by omega⟩⟩
   ·cases hq : a0w r with
    | false => rfl
    | true => have := ((a0V r).1 hq).2.2; omega
theorem a2E {r : RepoD} (h : a0G r = true) {i : Nat} (hi : i < r.commits.length) : r.commits[i].parents.length <= 2 /\ (∀ p ∈ r.commits[i].parents, 0 <= p /\ p < (i : Int)) /\ a0D r.commits[i].tree = true := by
 have h1 := ((a5p r).1 h).2.1 i hi
 have hg : r.commits.getD i default = r.commits[i] := by simp -implicitDefEqProofs [List.getD_eq_getElem?_getD, hi]
 simp only [okCI, okI1, hg, Bool.and_eq_true, decide_eq_true_eq, List.all_eq_true, List.mem_range] at h1
 refine ⟨h1.1.1.1.1, fun p hp => ?_, h1.1.2⟩
 obtain ⟨k, hk, rfl⟩ := List.getElem_of_mem hp
 have h2 := h1.2 k hk
 simp only [inN, Bool.and_eq_true, decide_eq_true_eq, List.getD_eq_getElem?_getD, List.getElem?_eq_getElem hk, Option.getD_some] at h2
 omega
theorem a3V {r : RepoD} (h : a0G r = true) : r.commits.length <= 16 := ((a5p r).1 h).1
def a5F (r : RepoD) (a : Int) : Int := (r.commits.getD a.toNat default).parents.headD (-1)
theorem c7k {r : RepoD} (h : a0G r = true) {a : Int} (h0 : 0 <= a) (h1 : a < r.commits.length) : -1 <= a5F r a /\ a5F r a < a := by
 have hi : a.toNat < r.commits.length := by omega
 obtain ⟨_, h2, _⟩ := a2E h hi
 unfold a5F
 rw [List.getD_eq_getElem?_getD, List.getElem?_eq_getElem hi, Option.getD_some]
 cases hp : r.commits[a.toNat].parents with
 | nil => simp; omega
 | cons p l =>
  have := h2 p (by rw [hp]; simp)
  simp only [List.headD_cons]
  omega
def b6B : Con := .fn 21 (RepoD × Int) (fun a => [a1e a.1, .int .i64 a.2]) (fun a => 0 <= a.2 /\ a.2 < a.1.commits.length) (fun a => .int .i64 (a5F a.1 a.2)) (fun _ => [])
theorem c4a : Has Tryz.prog 134 b6B := by
 refine a0d mixed a0g HasL.nil [0, 1, 2, 4] ((fun a n (_ : Nat) => (fun _ => a0E) a n)) [] Tryz.func134 (by unfold Tryz.f134; rfl) (fun _ => ⟨(), trivial⟩) ?_
 intro a ha
 obtain ⟨r, n⟩ := a
 obtain ⟨h1, h2⟩ : 0 <= n /\ n < r.commits.length := ha
 have hi : n.toNat < r.commits.length := by omega
 have e : Option.map a0H r.commits[n.toNat]? = some (a0H r.commits[n.toNat]) := by simp -implicitDefEqProofs [hi]
 have hf : a5F r n = r.commits[n.toNat].parents.headD (-1) := by unfold a5F; rw [List.getD_eq_getElem?_getD, List.getElem?_eq_getElem hi]; rfl
 simp -implicitDefEqProofs [b6B, Con.fn, tTab, e, hf, a0H, hi, h1, h2]
 try dsimp only
 intro _
 cases hp : r.commits[n.toNat].parents with
 | nil => simp
 | cons q l => simp -implicitDefEqProofs [eInt]
def a9W : Con := .fn 13 (RepoD × Int) (fun a => [a1e a.1, .int .i64 a.2]) (fun a => 0 <= a.2 /\ a.2 < a.1.commits.length) (fun a => .sl true 2 (a0a (a.1.commits.getD a.2.toNat default).tree)) (fun _ => [])
theorem b0B : Has Tryz.prog 84 a9W := by
 refine a0d mixed a0g HasL.nil [0, 1, 2, 4] ((fun a n (_ : Nat) => (fun _ => a0E) a n)) [] Tryz.func84 (by unfold Tryz.f84; rfl) (fun _ => ⟨(), trivial⟩) ?_
 intro a ha
 obtain ⟨r, n⟩ := a
 obtain ⟨h1, h2⟩ : 0 <= n /\ n < r.commits.length := ha
 have hi : n.toNat < r.commits.length := by omega
 have e : Option.map a0H r.commits[n.toNat]? = some (a0H r.commits[n.toNat]) := by simp -implicitDefEqProofs [hi]
 simp -implicitDefEqProofs [a9W, Con.fn, tTab, e, a0H, hi, h1, h2]
 try dsimp only
 exact fun h => absurd h (by omega)
def a0F (r : RepoD) (a : Int) : List FileD := (r.commits.getD a.toNat default).tree
--TAB a0R
def a0R : List (Nat × TI) := (108, ⟨false, [.sl 4 1], 24, [], 4⟩) :: tTab
theorem a0M : ∀ t ti, get? a0R t = some ti -> TOk Tryz.prog t ti := b0y (by kernel_rfl)
def a1I (b : Bool) : List D := [.bool b]
@[simp] theorem eBool_inj (a b : Bool) : (a1I a = a1I b) = (a = b) := by simp -implicitDefEqProofs [a1I]
def a0J (l : List Bool) : List (List D) := l.map a1I
@[simp] theorem eBools_length (l : List Bool) : (a0J l).length = l.length := by simp -implicitDefEqProofs [a0J]
@[simp] theorem eBools_nil : a0J [] = [] := rfl
@[simp] theorem eBools_get (l : List Bool) (i : Nat) : (a0J l)[i]? = l[i]?.map a1I := by simp -implicitDefEqProofs [a0J]
@[simp] theorem eBools_getElem (l : List Bool) (i : Nat) (h : i < (a0J l).length) : (a0J l)[i] = a1I (l[i]'(by simpa using h)) := by simp -implicitDefEqProofs [a0J]
@[simp] theorem eBools_inj (a b : List Bool) : (a0J a = a0J b) = (a = b) := by
 apply propext
 constructor
 ·intro h
  exact List.map_inj_right (fun x y h => by simpa using h) |>.1 h
 ·rintro rfl; rfl
@[simp] theorem eBools_eq_nil (a : List Bool) : (a0J a = []) = (a = []) := by simp -implicitDefEqProofs [a0J]
@[simp] theorem nil_eq_eBools (a : List Bool) : ([] = a0J a) = (a = []) := by simp -implicitDefEqProofs [a0J, eq_comm]
theorem a1C (l : List Bool) (i : Nat) (b : Bool) : (a0J l).set i [.bool b] = a0J (l.set i b) := by simp -implicitDefEqProofs [a0J, List.map_set, a1I]
theorem a3y (n : Nat) (b : Bool) : List.replicate n [D.bool b] = a0J (List.replicate n b) := by simp -implicitDefEqProofs [a0J, a1I]
abbrev b7M (h : Nat) (a : List Bool) : List (Nat × Blk) := [(h, .own 4 1 true (a0J a))]
def isT (l : List Bool) (i : Nat) : Bool := l.getD i false
def a3N (l : List Bool) (i : Nat) : List Int := ((List.range i).filter (isT l)).map fun j : Nat => (j : Int)
theorem b0k {l : List Bool} {i : Nat} (h : isT l i = true) : a3N l (i + 1) = a3N l i ++ [(i : Int)] := by simp -implicitDefEqProofs [a3N, List.range_succ, h]
theorem a9e {l : List Bool} {i : Nat} (h : isT l i = false) : a3N l (i + 1) = a3N l i := by simp -implicitDefEqProofs [a3N, List.range_succ, h]
theorem a6q (l : List Bool) (i : Nat) : (a3N l i).length <= i := by
 have := List.length_filter_le (isT l) (List.range i)
 simpa [a3N] using this
def a0B (l : List Bool) : List Int := a3N l l.length
theorem listT_mem {l : List Bool} {x : Int} : x ∈ a0B l ↔ ∃ i : Nat, i < l.length /\ isT l i = true /\ x = i := by
 simp only [a0B, a3N, List.mem_map, List.mem_filter, List.mem_range]
 constructor
 ·rintro ⟨i, ⟨h1, h2⟩, rfl⟩; exact ⟨i, h1, h2, rfl⟩
 ·rintro ⟨i, h1, h2, rfl⟩; exact ⟨i, ⟨h1, h2⟩, rfl⟩
def b3R : Con := .fn 20 (List Bool) (fun l => [.sl true 1 (a0J l)]) (fun l => l.length <= 1048576) (fun l => .own 8 1 (a0i (a0B l))) (fun l => a4v 8 (a0B l))
theorem c2m : Has Tryz.prog 185 b3R := by
 refine a0d mixed a0M HasL.nil [0, 2, 3, 4, 5, 6, 7, 8] ((fun a n (_ : Nat) => (fun l _ => ⟨Nat, fun i => ⟨[(2, true, .nil), (3, true, .own 9 1 (a0i (a3N l i))), (6, true, .sl true 1 (a0J l)), (7, true, .int .i64 l.length), (8, true, .int .i64 i)], [(9, .own 3 1 true (a0i (a3N l i)))]⟩, fun i => i <= l.length, fun i => l.length - i⟩) a n)) [] Tryz.func185 (by unfold Tryz.f185; rfl) (fun _ => ⟨(), trivial⟩) ?_
 intro (l : List Bool) (ha : l.length <= 1048576)
 simp -implicitDefEqProofs [b3R, Con.fn, a0R, tTab]
 try dsimp only
 refine fun _ => ⟨⟨0, ⟨⟨rfl, rfl⟩, rfl⟩, Nat.zero_le _⟩, fun i hi => ⟨fun hlt => ?_, fun hge => ?_⟩⟩
 ·have hl := a6q l i
  have hi : isT l i = l[i] := by simp -implicitDefEqProofs [isT, List.getD_eq_getElem?_getD, hlt]
  simp -implicitDefEqProofs [hlt, a1I, D.asBool, and_assoc]
  refine ⟨fun h => ?_, fun h => ?_⟩
  ·have e := b0k (hi.trans h)
   exact ⟨by omega, by omega, by omega, by omega, fun _ _ => ⟨i + 1, by rw [e]; simp -implicitDefEqProofs [a0i, eInt], by omega, by rw [e]; simp -implicitDefEqProofs [a0i, eInt], by omega, by omega⟩⟩
  ·have e := a9e (hi.trans h)
   exact ⟨by omega, by omega, fun _ _ => ⟨i + 1, e, by omega, e.symm, by omega, by omega⟩⟩
 ·have : i = l.length := by omega
  subst this
  exact ⟨rfl, rfl⟩
def b2D : Con := .fn 18 (List Int × Int) (fun a => [.sl true 1 (a0i a.1), .int .i64 a.2]) (fun _ => True) (fun a => .bool (decide (a.2 ∈ a.1))) (fun _ => [])
theorem b4U : Has Tryz.prog 143 b2D := by
 refine a0d mixed a0M HasL.nil [0, 1, 4, 5] ((fun a n (_ : Nat) => (fun a _ => ⟨Nat, fun i => ⟨[(0, true, .sl true 1 (a0i a.1)), (1, true, .int .i64 a.2), (4, true, .bool false), (5, true, .int .i64 i)], []⟩, fun i => i <= a.1.length /\ ∀ x, x ∈ a.1.take i -> x ≠ a.2, fun i => a.1.length - i⟩) a n)) [] Tryz.func143 (by unfold Tryz.f143; rfl) (fun _ => ⟨(), trivial⟩) ?_
 intro a _
 obtain ⟨l, n⟩ := a
 simp -implicitDefEqProofs [b2D, Con.fn, a0R, tTab]
 try dsimp only
 refine fun i hi hb _ => ⟨fun hlt => ?_, fun hge => ?_⟩
 ·simp -implicitDefEqProofs [hlt, eInt, D.asInt, and_assoc]
  refine ⟨fun h => by rw [<- h]; exact List.getElem_mem hlt, fun h => ⟨by omega, by omega, fun _ _ => ⟨i + 1, by omega, by omega, fun x hx => ?_, by omega⟩⟩⟩
  rw [a0y hlt] at hx
  rcases List.mem_append.1 hx with h1 | h1
  ·exact hb x h1
  ·simp only [List.mem_singleton] at h1
   subst h1; exact h
 ·rw [List.take_of_length_le hge] at hb
  exact fun h => hb n h rfl
def putT (l : List Bool) (ps : List Int) : List Bool := ps.foldl (fun l p => l.set p.toNat true) l
theorem b7Y (ps : List Int) : ∀ l : List Bool, (putT l ps).length = l.length := by
 induction ps with
 | nil => intro l; rfl
 | cons p r ih => intro l; show (putT (l.set p.toNat true) r).length = _; rw [ih]; simp
def a4X (r : RepoD) (l : List Bool) (i : Nat) : List Bool := if isT l i then putT l (r.commits.getD i default).parents else l
def ancF (r : RepoD) : Nat -> List Bool -> List Bool
 | 0, l => l
 | n + 1, l => ancF r n (a4X r l n)
def anc (r : RepoD) (a : Int) : List Bool := ancF r (a + 1).toNat ((List.replicate r.commits.length false).set a.toNat true)
theorem b6o (r : RepoD) : ∀ (n : Nat) (l : List Bool), (ancF r n l).length = l.length
 | 0, _ => rfl
 | n + 1, l => by
  show (ancF r n (a4X r l n)).length = _
  rw [b6o r n]
  unfold a4X
  split
  ·rw [b7Y]
  ·rfl
theorem a2C (r : RepoD) (a : Int) : (anc r a).length = r.commits.length := by unfold anc; rw [b6o]; simp
def anO (r : RepoD) (a : Int) : Inv := ⟨List Bool × Int, fun t => ⟨[(2, true, .ptr 10 0), (4, true, .nil), (5, true, .own 9 1 (a0J t.1)), (6, true, .int .i64 t.2)], [(10, a2V r), (9, .own 4 1 true (a0J t.1))]⟩, fun t => t.1.length = r.commits.length /\ -1 <= t.2 /\ t.2 < r.commits.length /\ ancF r (t.2 + 1).toNat t.1 = anc r a, fun t => (t.2 + 1).toNat⟩
def anI (r : RepoD) (a : Int) (g : Nat) : Inv := ⟨List Bool × Nat, fun t => ⟨[(2, true, .ptr 10 0), (4, true, .nil), (5, true, .own 9 1 (a0J t.1)), (6, true, .int .i64 g), (30, true, .sl true 1 (a0i (r.commits.getD g default).parents)), (31, true, .int .i64 (r.commits.getD g default).parents.length), (32, true, .int .i64 t.2)], [(10, a2V r), (9, .own 4 1 true (a0J t.1))]⟩, fun t => t.1.length = r.commits.length /\ g < r.commits.length /\ t.2 <= (r.commits.getD g default).parents.length /\ ancF r g (putT t.1 ((r.commits.getD g default).parents.drop t.2)) = anc r a, fun t => (r.commits.getD g default).parents.length - t.2⟩
def c0K (r : RepoD) (a : Int) (n g : Nat) : Inv := if n = 4 then anO r a else anI r a g
theorem c9K (r : RepoD) (a : Int) (g : Nat) : c0K r a 4 g = anO r a := rfl
theorem c9L (r : RepoD) (a : Int) (g : Nat) : c0K r a 8 g = anI r a g := rfl
def a6z : Con := .fn 41 (RepoD × Int) (fun a => [a1e a.1, .int .i64 a.2]) (fun a => a0G a.1 = true /\ 0 <= a.2 /\ a.2 < a.1.commits.length) (fun a => .own 8 1 (a0J (anc a.1 a.2))) (fun a => b7M 8 (anc a.1 a.2))
theorem a9r : Has Tryz.prog 78 a6z := by
 refine a0d mixed a0M HasL.nil [0, 1, 2, 4, 5, 6, 8, 30, 31, 32] (fun a => c0K a.1 a.2) [] Tryz.func78 (by unfold Tryz.f78; rfl) (fun _ => ⟨(), trivial⟩) ?_
 intro a ha
 obtain ⟨r, n⟩ := a
 obtain ⟨h1, h2, h3⟩ : a0G r = true /\ 0 <= n /\ n < r.commits.length := ha
 have h4 := a3V h1
 simp -implicitDefEqProofs [a6z, Con.fn, a0R, tTab, c9K, c9L, anO, anI, a0I]
 try dsimp only
 refine fun _ => ⟨by omega, fun _ => ⟨⟨h2, h3⟩, fun _ _ => ⟨by omega, ⟨(List.replicate r.commits.length false).set n.toNat true, n, ⟨⟨by rw [a3y]; exact (a1C _ _ _).symm, rfl⟩, by rw [a3y]; exact a1C _ _ _⟩, by simp, by omega, h3, rfl⟩, fun l b g1 g2 g3 g4 => ⟨fun hb => ⟨⟨hb, by omega⟩, fun _ _ => ?_⟩, fun hb => ?_⟩⟩⟩⟩
 ·have hb1 : b.toNat < l.length := by omega
  have hb2 : b.toNat < r.commits.length := by omega
  obtain ⟨p1, p2, _⟩ := a2E h1 hb2
  have hT : isT l b.toNat = l[b.toNat] := by simp -implicitDefEqProofs [isT, List.getD_eq_getElem?_getD, hb1]
  have hbb : (b + 1).toNat = b.toNat + 1 := by omega
  have hgd : r.commits.getD b.toNat default = r.commits[b.toNat] := by simp -implicitDefEqProofs [List.getD_eq_getElem?_getD, hb2]
  rw [hbb] at g4
  have g5 : ancF r b.toNat (a4X r l b.toNat) = anc r n := g4
  unfold a4X at g5
  rw [hT, hgd] at g5
  have e3 : Option.map a0H r.commits[b.toNat]? = some (a0H r.commits[b.toNat]) := by simp -implicitDefEqProofs [hb2]
  have hgo : r.commits[b.toNat]?.getD default = r.commits[b.toNat] := by simp -implicitDefEqProofs [hb2]
  simp -implicitDefEqProofs [hb1, a1I, D.asBool, e3, a0H, D.asRows, hb, show b < r.commits.length by omega]
  refine ⟨fun h _ => ⟨b.toNat, ?_⟩, fun h => ⟨⟨by omega, by omega⟩, fun _ _ => ⟨l, b - 1, ⟨⟨rfl, rfl⟩, rfl⟩, ⟨g1, by omega, by omega, ?_⟩, by omega⟩⟩⟩
  ·rw [if_pos h] at g5
   rw [hgo]
   generalize r.commits[b.toNat] = c at *
   refine ⟨⟨l, 0, ⟨⟨rfl, by omega, rfl, rfl, rfl⟩, rfl⟩, g1, hb2, Nat.zero_le _, g5⟩, fun m k m1 m2 m3 m4 => ⟨fun hlt => ⟨hlt, fun _ => ?_⟩, fun hge => ⟨⟨by omega, by omega⟩, fun _ _ => ⟨m, b - 1, ⟨⟨rfl, by omega⟩, rfl⟩, ⟨m1, by omega, by omega, ?_⟩, by omega⟩⟩⟩⟩
   ·have hp := p2 c.parents[k] (List.getElem_mem hlt)
    have qt : Option.map eInt c.parents[k]? = some (eInt c.parents[k]) := by simp -implicitDefEqProofs [List.getElem?_eq_getElem hlt]
    simp -implicitDefEqProofs [qt, eInt, D.asInt]
    refine ⟨⟨hp.1, by omega⟩, fun _ _ => ⟨by omega, ⟨by omega, by omega⟩, fun _ _ => ⟨m.set c.parents[k].toNat true, k + 1, ⟨⟨(a1C _ _ _).symm, by omega⟩, a1C _ _ _⟩, ⟨by simp -implicitDefEqProofs [m1], m2, by omega, ?_⟩, by omega⟩⟩⟩
    rw [List.drop_eq_getElem_cons hlt] at m4
    exact m4
   ·rw [List.drop_eq_nil_of_le hge] at m4
    rw [show (b - 1 + 1).toNat = b.toNat by omega]
    exact m4
  ·rw [if_neg (by rw [h]; simp)] at g5
   rw [show (b - 1 + 1).toNat = b.toNat by omega]
   exact g5
 ·have hbb : (b + 1).toNat = 0 := by omega
  rw [hbb] at g4
  have g5 : l = anc r n := g4
  exact ⟨g5.symm, g5⟩
--TAB a0R
--TAB a0R
theorem b2O {l : List Bool} {p g : Nat} (b : Bool) (h : p ≠ g) : isT (l.set p b) g = isT l g := by
 unfold isT
 rw [List.getD_eq_getElem?_getD, List.getD_eq_getElem?_getD, List.getElem?_set_ne h]
def alO (r : RepoD) (a : Int) : Inv := ⟨List Bool × Int, fun t => ⟨[(2, true, .ptr 10 0), (4, true, .nil), (5, true, .own 9 1 (a0J t.1)), (6, true, .int .i64 t.2)], [(10, a2V r), (9, .own 4 1 true (a0J t.1))]⟩, fun t => t.1.length = r.commits.length /\ -1 <= t.2 /\ t.2 < r.commits.length /\ ancF r (t.2 + 1).toNat t.1 = anc r a, fun t => (t.2 + 1).toNat⟩
def alI (r : RepoD) (a : Int) (g : Nat) : Inv := ⟨List Bool × Nat, fun t => ⟨[(2, true, .ptr 10 0), (4, true, .nil), (5, true, .own 9 1 (a0J t.1)), (6, true, .int .i64 g), (7, true, .int .i64 t.2)], [(10, a2V r), (9, .own 4 1 true (a0J t.1))]⟩, fun t => t.1.length = r.commits.length /\ g < r.commits.length /\ t.2 <= (r.commits.getD g default).parents.length /\ (isT t.1 g = true -> ancF r g (putT t.1 ((r.commits.getD g default).parents.drop t.2)) = anc r a) /\ (isT t.1 g = false -> ancF r g t.1 = anc r a), fun t => (r.commits.getD g default).parents.length - t.2⟩
def alT (r : RepoD) (a : Int) : Inv := ⟨Nat, fun i => ⟨[(2, true, .ptr 10 0), (4, true, .nil), (5, true, .own 9 1 (a0J (anc r a))), (8, true, .own 11 1 (a0i (a3N (anc r a) i))), (9, true, .int .i64 i)], [(10, a2V r), (9, .own 4 1 true (a0J (anc r a))), (11, .own 3 1 true (a0i (a3N (anc r a) i)))]⟩, fun i => i <= r.commits.length, fun i => r.commits.length - i⟩
def b2s (r : RepoD) (a : Int) (n g : Nat) : Inv := if n = 4 then alO r a else if n = 7 then alI r a g else alT r a
theorem b9N (r : RepoD) (a : Int) (g : Nat) : b2s r a 4 g = alO r a := rfl
theorem b9O (r : RepoD) (a : Int) (g : Nat) : b2s r a 7 g = alI r a g := rfl
theorem b6l (r : RepoD) (a : Int) (g : Nat) : b2s r a 12 g = alT r a := rfl
def b6J : Con := .fn 66 (RepoD × Int) (fun a => [a1e a.1, .int .i64 a.2]) (fun a => a0G a.1 = true /\ 0 <= a.2 /\ a.2 < a.1.commits.length) (fun a => .own 8 1 (a0i (a0B (anc a.1 a.2)))) (fun a => a4v 8 (a0B (anc a.1 a.2)))
theorem c5b : Has Tryz.prog 144 b6J := by
 refine a0d mixed a0M HasL.nil [0, 1, 2, 4, 5, 6, 7, 8, 9] (fun a => b2s a.1 a.2) [] Tryz.func144 (by unfold Tryz.f144; rfl) (fun _ => ⟨(), trivial⟩) ?_
 intro a ha
 obtain ⟨r, n⟩ := a
 obtain ⟨h1, h2, h3⟩ : a0G r = true /\ 0 <= n /\ n < r.commits.length := ha
 have h4 := a3V h1
 simp -implicitDefEqProofs [b6J, Con.fn, a0R, tTab, b9N, b9O, b6l, alO, alI, alT, a0I]
 try dsimp only
 simp only [and_assoc, exists_eq_left, exists_and_left, RepoD.ex1, RepoD.eta]
 have hal := a2C r n
 refine fun _ => ⟨by omega, fun _ => ⟨h2, h3, fun _ _ => ⟨by omega, ⟨(List.replicate r.commits.length false).set n.toNat true, by rw [a3y]; exact (a1C _ _ _).symm, by rw [a3y]; exact a1C _ _ _, by simp, by omega, h3, rfl⟩, fun l b g1 g2 g3 g4 => ⟨fun hb => ⟨b.toNat, ?_⟩, fun hb => ?_⟩⟩⟩⟩
 ·have hb1 : b.toNat < l.length := by omega
  have hb2 : b.toNat < r.commits.length := by omega
  obtain ⟨p1, p2, _⟩ := a2E h1 hb2
  have hgd : r.commits.getD b.toNat default = r.commits[b.toNat] := by simp -implicitDefEqProofs [List.getD_eq_getElem?_getD, hb2]
  have hgo : r.commits[b.toNat]?.getD default = r.commits[b.toNat] := by simp -implicitDefEqProofs [hb2]
  rw [show (b + 1).toNat = b.toNat + 1 by omega] at g4
  have g5 : ancF r b.toNat (a4X r l b.toNat) = anc r n := g4
  unfold a4X at g5
  rw [hgd] at g5
  have e3 : Option.map a0H r.commits[b.toNat]? = some (a0H r.commits[b.toNat]) := by simp -implicitDefEqProofs [hb2]
  rw [hgo, e3]
  generalize r.commits[b.toNat] = c at *
  refine ⟨by omega, trivial, g1, hb2, Nat.zero_le _, fun h => ?_, fun h => ?_, fun m k m1 m2 m3 m4 m5 => ⟨hb2, fun _ => ?_⟩⟩
  ·rw [if_pos h] at g5; exact g5
  ·rw [if_neg (by rw [h]; simp)] at g5; exact g5
  ·have hbm : b.toNat < m.length := by omega
   have hT : isT m b.toNat = m[b.toNat] := by simp -implicitDefEqProofs [isT, List.getD_eq_getElem?_getD, hbm]
   have e4 : Option.map a1I m[b.toNat]? = some (a1I m[b.toNat]) := by simp -implicitDefEqProofs [hbm]
   have hmx : max b 0 = b := Int.max_eq_left hb
   simp -implicitDefEqProofs [a0H, D.asRows, e4, a1I, hbm, hb2, hmx]
   refine fun _ => ⟨fun hl2 => ⟨fun hm => ⟨hl2, fun _ => ?_⟩, fun hm => ⟨by omega, by omega, fun _ _ => ⟨m1, by omega, by omega, m5 (hT.trans hm), by omega⟩⟩⟩, fun hge => ⟨by omega, by omega, fun _ _ => ⟨m1, by omega, by omega, ?_, by omega⟩⟩⟩
   ·have hp := p2 c.parents[k] (List.getElem_mem hl2)
    have qt : Option.map eInt c.parents[k]? = some (eInt c.parents[k]) := by simp -implicitDefEqProofs [List.getElem?_eq_getElem hl2]
    simp -implicitDefEqProofs [qt, eInt, D.asInt]
    have hst : isT (m.set c.parents[k].toNat true) b.toNat = true := by rw [b2O _ (by omega)]; exact hT.trans hm
    refine ⟨hp.1, by omega, fun _ _ => ⟨by omega, by omega, by omega, fun _ _ => ⟨m.set c.parents[k].toNat true, (a1C _ _ _).symm, k + 1, by omega, a1C _ _ _, by simp -implicitDefEqProofs [m1], by omega, fun _ => ?_, fun h => ?_, by omega⟩⟩⟩
    ·have := m4 (hT.trans hm)
     rw [List.drop_eq_getElem_cons hl2] at this
     exact this
    ·rw [hst] at h; cases h
   ·cases hm : m[b.toNat] with
    | true =>
     have := m4 (hT.trans hm)
     rw [List.drop_eq_nil_of_le hge] at this
     exact this
    | false => exact m5 (hT.trans hm)
 ·rw [show (b + 1).toNat = 0 by omega] at g4
  have g5 : l = anc r n := g4
  refine ⟨g5.symm, ⟨0, rfl, rfl, g5, rfl, Nat.zero_le _⟩, fun i hi _ => ⟨fun hlt => ?_, fun hge => ?_⟩⟩
  ·have hl := a6q (anc r n) i
   have hi : isT (anc r n) i = (anc r n)[i] := by simp -implicitDefEqProofs [isT, List.getD_eq_getElem?_getD, hlt]
   rw [hal] at hlt
   simp -implicitDefEqProofs [hal, hlt, a1I, D.asBool, and_assoc]
   refine ⟨fun h => ?_, fun h => ?_⟩
   ·have e := b0k (hi.trans h)
    exact ⟨by omega, by omega, by omega, by omega, fun _ _ => ⟨i + 1, by rw [e]; simp -implicitDefEqProofs [a0i, eInt], by omega, by rw [e]; simp -implicitDefEqProofs [a0i, eInt], by omega, by omega⟩⟩
   ·have e := a9e (hi.trans h)
    exact ⟨by omega, by omega, fun _ _ => ⟨i + 1, e, by omega, e.symm, by omega, by omega⟩⟩
  ·rw [hal] at hge
   have : i = r.commits.length := by omega
   subst this
   unfold a0B
   rw [hal]
   exact ⟨rfl, rfl⟩
def b4b : Con := .fn 22 (List Int) (fun a => [.sl true 1 (a0i a)]) (fun a => a.length <= 1048576) (fun a => .own 8 1 (a0i a)) (fun a => a4v 8 a)
theorem c3a : Has Tryz.prog 149 b4b := by
 refine a0d mixed a0g HasL.nil [0, 2, 3, 4] ((fun a n (_ : Nat) => (fun a _ => ⟨Nat × List Int, fun t => ⟨[(0, true, .sl true 1 (a0i a)), (2, true, .nil), (3, true, .own 9 1 (a0i t.2)), (4, true, .int .i64 t.1)], a4v 9 t.2⟩, fun t => t.1 <= a.length /\ t.2.length = a.length /\ t.2.take t.1 = a.take t.1, fun t => a.length - t.1⟩) a n)) [] Tryz.func149 (by unfold Tryz.f149; rfl) (fun _ => ⟨(), trivial⟩) ?_
 intro (a : List Int) ha
 replace ha : a.length <= 1048576 := ha
 simp -implicitDefEqProofs [b4b, Con.fn, tTab]
 try dsimp only
 try simp +contextual [eStr, a0r, a0t, a0x, a0u, List.getElem?_eq_getElem, a0v, a0m, a0s, a0q, <- a0f, <- a0e, a0n, a0o, a0l, a0k, a0p, a0j, and_assoc, eInt, a0Y, a0H, a2D, a3B, a3X, a3C, a3A, a2G, <- a2P, a2m, a3z, a3h, a3g, a2l, <- a2z, a2O, a2N, a2y, a2x, a1m, <- a1U]
 repeat' (first | intro _ | apply And.intro)
 all_goals first | omega | grind [a0z, a7p, a4j]
def b4a : Con := .fn 11 HeadD (fun f => [.agg [.str f.name, .int .i64 f.at_]]) (fun _ => True) (fun f => .agg [.str f.name, .int .i64 f.at_]) (fun _ => [])
theorem c2Z : Has Tryz.prog 103 b4a := by
 refine a0d mixed a0g HasL.nil [0, 1, 2, 3] ((fun a n (_ : Nat) => (fun _ => a0E) a n)) [] Tryz.func103 (by unfold Tryz.f103; rfl) (fun _ => ⟨(), trivial⟩) ?_
 intro f _
 obtain ⟨p, x⟩ := f
 simp -implicitDefEqProofs [b4a, Con.fn, tTab]
 try dsimp only
 try simp +contextual [eStr, a0r, a0t, a0x, a0u, List.getElem?_eq_getElem, a0v, a0m, a0s, a0q, <- a0f, <- a0e, a0n, a0o, a0l, a0k, a0p, a0j, and_assoc]
 repeat' (first | intro _ | apply And.intro)
 all_goals first | omega | grind [a0z]
def b1S : Con := .fn 23 (List HeadD) (fun a => [.sl true 2 (a0c a)]) (fun a => a.length <= 1048576) (fun a => .own 8 2 (a0c a)) (fun a => a2o 8 a)
theorem b9K : Has Tryz.prog 57 b1S := by
 refine a0d mixed a0g (HasL.cons c2Z HasL.nil) [0, 2, 3, 4] ((fun a n (_ : Nat) => (fun a _ => ⟨Nat × List HeadD, fun t => ⟨[(0, true, .sl true 2 (a0c a)), (2, true, .nil), (3, true, .own 9 2 (a0c t.2)), (4, true, .int .i64 t.1)], a2o 9 t.2⟩, fun t => t.1 <= a.length /\ t.2.length = a.length /\ t.2.take t.1 = a.take t.1, fun t => a.length - t.1⟩) a n)) [] Tryz.func57 (by unfold Tryz.f57; rfl) (fun _ => ⟨(), trivial⟩) ?_
 intro (a : List HeadD) ha
 replace ha : a.length <= 1048576 := ha
 simp -implicitDefEqProofs [b1S, Con.fn, tTab, b4a]
 try dsimp only
 try simp +contextual [eStr, a0r, a0t, a0x, a0u, List.getElem?_eq_getElem, a0v, a0m, a0s, a0q, <- a0f, <- a0e, a0n, a0o, a0l, a0k, a0p, a0j, and_assoc, eInt, a0Y, a0H, a2D, a3B, a3X, a3C, a3A, a2G, <- a2P, a2m, a3z, a3h, a3g, a2l, <- a2z, a2O, a2N, a2y, a2x, a1m, <- a1U, <- HeadD.eq_iff]
 repeat' (first | intro _ | apply And.intro)
 all_goals first | omega | grind [a0z, a7p, a4j]
def a9U : Con := .fn 16 CommitD (fun f => [.agg [.sl true 1 (a0i f.parents), .str f.who, .sl true 2 (a0a f.tree)]]) (fun f => f.parents.length <= 1048576 /\ f.tree.length <= 1048576 /\ ∀ g ∈ f.tree, g.text.length <= 1048576) (fun f => .agg [.own 8 1 (a0i f.parents), .str f.who, .own 9 2 (a0a f.tree)]) (fun f => a4v 8 f.parents ++ a1T 9 f.tree)
theorem b8s : Has Tryz.prog 102 a9U := by
 refine a0d mixed a0g (HasL.cons c3a (HasL.cons b9J HasL.nil)) [0, 1, 2, 3] ((fun a n (_ : Nat) => (fun _ => a0E) a n)) [] Tryz.func102 (by unfold Tryz.f102; rfl) (fun _ => ⟨(), trivial⟩) ?_
 intro f hf
 obtain ⟨p, x, t⟩ := f
 obtain ⟨h1, h2, h3⟩ : p.length <= 1048576 /\ t.length <= 1048576 /\ ∀ g ∈ t, g.text.length <= 1048576 := hf
 simp -implicitDefEqProofs [a9U, Con.fn, tTab, b4b, b1R]
 try dsimp only
 try simp +contextual [eStr, a0r, a0t, a0x, a0u, List.getElem?_eq_getElem, a0v, a0m, a0s, a0q, <- a0f, <- a0e, a0n, a0o, a0l, a0k, a0p, a0j, and_assoc]
 repeat' (first | intro _ | apply And.intro)
 all_goals first | omega | grind [a0z]
def cmSz (c : CommitD) : Prop := c.parents.length <= 1048576 /\ c.tree.length <= 1048576 /\ ∀ g ∈ c.tree, g.text.length <= 1048576
def a8L : Con := .fn 23 (List CommitD) (fun a => [.sl true 3 (a1u a)]) (fun a => a.length <= 1048576 /\ ∀ c ∈ a, cmSz c) (fun a => .own 8 3 (a0h a)) (fun a => a2d 8 a)
theorem b5I : Has Tryz.prog 56 a8L := by
 refine a0d mixed a0g (HasL.cons b8s HasL.nil) [0, 2, 3, 4] ((fun a n (_ : Nat) => (fun a _ => ⟨Nat × List CommitD, fun t => ⟨[(0, true, .sl true 3 (a1u a)), (2, true, .nil), (3, true, .own 9 3 (a0h t.2)), (4, true, .int .i64 t.1)], a2d 9 t.2⟩, fun t => t.1 <= a.length /\ t.2.length = a.length /\ t.2.take t.1 = a.take t.1, fun t => a.length - t.1⟩) a n)) [] Tryz.func56 (by unfold Tryz.f56; rfl) (fun _ => ⟨(), trivial⟩) ?_
 intro (a : List CommitD) ha
 obtain ⟨h1, h2⟩ : a.length <= 1048576 /\ ∀ c ∈ a, cmSz c := ha
 have h3 : ∀ i (h : i < a.length), a[i].parents.length <= 1048576 /\ a[i].tree.length <= 1048576 /\ ∀ g ∈ a[i].tree, g.text.length <= 1048576 := fun i h => h2 _ (List.getElem_mem h)
 simp -implicitDefEqProofs [a8L, Con.fn, tTab, a9U]
 try dsimp only
 try simp +contextual [eStr, a0r, a0t, a0x, a0u, List.getElem?_eq_getElem, a0v, a0m, a0s, a0q, <- a0f, <- a0e, a0n, a0o, a0l, a0k, a0p, a0j, and_assoc, eInt, a0Y, a0H, a2D, a3B, a3X, a3C, a3A, a2G, <- a2P, a2m, a3z, a3h, a3g, a2l, <- a2z, a2O, a2N, a2y, a2x, a1m, <- a1U, <- CommitD.eq_iff]
 repeat' (first | intro _ | apply And.intro)
 all_goals first | omega | grind [a0z, a7p, a4j]
def rpSz (r : RepoD) : Prop := r.commits.length <= 1048576 /\ (∀ c ∈ r.commits, cmSz c) /\ r.heads.length <= 1048576
def b0R : Con := .fn 13 RepoD (fun r => [c2i r]) rpSz (fun r => .agg [.own 8 3 (a0h r.commits), .own 9 2 (a0c r.heads)]) (fun r => a2d 8 r.commits ++ a2o 9 r.heads)
theorem c3b : Has Tryz.prog 14 b0R := by
 refine a0d mixed a0g (HasL.cons b5I (HasL.cons b9K HasL.nil)) [0, 1, 2, 3] ((fun a n (_ : Nat) => (fun _ => a0E) a n)) [] Tryz.func14 (by unfold Tryz.f14; rfl) (fun _ => ⟨(), trivial⟩) ?_
 intro f hf
 obtain ⟨p, x⟩ := f
 obtain ⟨h1, h2, h3⟩ : p.length <= 1048576 /\ (∀ c ∈ p, c.parents.length <= 1048576 /\ c.tree.length <= 1048576 /\ ∀ g ∈ c.tree, g.text.length <= 1048576) /\ x.length <= 1048576 := hf
 simp -implicitDefEqProofs [b0R, Con.fn, tTab, a8L, b1S, cmSz]
 try dsimp only
 try simp +contextual [eStr, a0r, a0t, a0x, a0u, List.getElem?_eq_getElem, a0v, a0m, a0s, a0q, <- a0f, <- a0e, a0n, a0o, a0l, a0k, a0p, a0j, and_assoc]
 repeat' (first | intro _ | apply And.intro)
 all_goals first | omega | grind [a0z]
theorem c9v (p : List Int) : ∀ x ∈ a0i p, ∀ d ∈ x, match d with | .sl _ _ _ => False | _ => True := by
 intro x hx d hd
 simp only [a0i, List.mem_map] at hx
 obtain ⟨i, _, rfl⟩ := hx
 simp only [eInt, List.mem_singleton] at hd
 subst hd; trivial
theorem c9u (p : List HeadD) : ∀ x ∈ a0c p, ∀ d ∈ x, match d with | .sl _ _ _ => False | _ => True := by
 intro x hx d hd
 simp only [a0c, List.mem_map] at hx
 obtain ⟨i, _, rfl⟩ := hx
 simp only [a0Y, List.mem_cons, List.not_mem_nil, or_false] at hd
 rcases hd with rfl | rfl <;> trivial
def a6w : Con := .fn 13 CommitD (fun f => [.agg [.sl true 1 (a0i f.parents), .str f.who, .sl true 2 (a0a f.tree)]]) (fun f => cmSz f) (fun f => .agg [.own 8 1 (a0i f.parents), .str f.who, .own 9 2 (a0a f.tree)]) (fun f => a4v 8 f.parents ++ a1T 9 f.tree)
theorem b2e : Has Tryz.prog 100 a6w := by
 refine a0d mixed a0g (HasL.cons a4N HasL.nil) [0, 1, 2] ((fun a n (_ : Nat) => (fun _ => a0E) a n)) [] Tryz.func100 (by unfold Tryz.f100; rfl) (fun _ => ⟨(), trivial⟩) ?_
 intro f hf
 obtain ⟨p, x, t⟩ := f
 obtain ⟨h1, h2, h3⟩ : p.length <= 1048576 /\ t.length <= 1048576 /\ ∀ g ∈ t, g.text.length <= 1048576 := hf
 simp -implicitDefEqProofs [a6w, a5j, Con.fn, tTab]
 try dsimp only
 exact ⟨c9v p, by omega, h2, h3⟩
abbrev b5P : Blk := .box 32 [.nil, .nil]
def l7cO (r : RepoD) : Inv := ⟨Nat, fun i => ⟨[(1, true, .ptr 12 0), (2, true, .ptr 10 0), (3, true, .ptr 11 0), (4, true, .int .i64 i)], [(12, a2V r), (10, b5P), (11, .box 32 [.own 13 3 (a0h (r.commits.take i)), .own 14 2 (a0c r.heads)]), (13, .own 102 3 true (a0h (r.commits.take i))), (14, .own 69 2 true (a0c r.heads))]⟩, fun i => i <= r.commits.length, fun i => r.commits.length - i⟩
def a5l : Con := .fn 29 RepoD (fun r => [a1e r]) rpSz (fun r => .agg [.own 8 3 (a0h r.commits), .own 9 2 (a0c r.heads)]) (fun r => a2d 8 r.commits ++ a2o 9 r.heads)
theorem a4P : Has Tryz.prog 53 a5l := by
 refine a0d mixed a0g (HasL.cons b2e HasL.nil) [0, 1, 2, 3, 4] ((fun a n (_ : Nat) => (fun r _ => l7cO r) a n)) [25, 26] Tryz.func53 (by unfold Tryz.f53; rfl) (fun _ => ⟨(), trivial⟩) ?_
 intro (r : RepoD) hr
 obtain ⟨h1, h2, h3⟩ : r.commits.length <= 1048576 /\ (∀ c ∈ r.commits, cmSz c) /\ r.heads.length <= 1048576 := hr
 simp -implicitDefEqProofs [a5l, a6w, Con.fn, tTab, l7cO, a0I]
 try dsimp only
 refine ⟨c9u r.heads, by omega, ⟨0, ⟨rfl, .inl rfl⟩, Nat.zero_le _⟩, fun i hi _ => ⟨fun hlt => ?_, fun hge => ?_⟩⟩
 ·have e : r.commits.take (i + 1) = r.commits.take i ++ [r.commits[i]] := a0y hlt
  have hc := h2 _ (List.getElem_mem hlt)
  simp -implicitDefEqProofs [hlt, a0H, D.asStr, D.asRows, and_assoc]
  refine ⟨hc, by omega, by omega, by omega, by omega, fun _ _ => ⟨i + 1, by omega, ?_, ?_, by omega, by omega⟩⟩
  ·rw [e, a1m]
  ·rw [e, a1m]
 ·rw [List.take_of_length_le hge]; exact ⟨rfl, rfl⟩
def a1L (n : Str) (a : Int) (acc : List HeadD × Bool) (g : HeadD) : List HeadD × Bool :=
 if acc.2 = false /\ Go.Op.bytesLess g.name n = false then (if g.name = n then (acc.1 ++ [⟨n, a⟩], true) else (acc.1 ++ [⟨n, a⟩] ++ [g], true))
 else (if g.name = n then acc else (acc.1 ++ [g], acc.2))
def hL (n : Str) (a : Int) (l : List HeadD) : List HeadD × Bool := l.foldl (a1L n a) ([], false)
def hSet (l : List HeadD) (n : Str) (a : Int) : List HeadD := if (hL n a l).2 then (hL n a l).1 else (hL n a l).1 ++ [⟨n, a⟩]
theorem d0h {n : Str} {a : Int} {t : List HeadD} {i : Nat} (h : i < t.length) : hL n a (t.take (i + 1)) = a1L n a (hL n a (t.take i)) t[i] := by
 unfold hL
 rw [a0y h, List.foldl_append]; rfl
theorem c4l (n : Str) (a : Int) (acc : List HeadD × Bool) (g : HeadD) : (a1L n a acc g).1.length + acc.2.toNat <= acc.1.length + (a1L n a acc g).2.toNat + 1 := by
 unfold a1L
 split
 ·rename_i h
  rw [h.1]
  split <;> simp <;> omega
 ·split <;> simp <;> omega
theorem d1Y (n : Str) (a : Int) (t : List HeadD) : (hL n a t).1.length <= t.length + (hL n a t).2.toNat := by
 have : ∀ (t : List HeadD) (acc : List HeadD × Bool), (t.foldl (a1L n a) acc).1.length + acc.2.toNat <= acc.1.length + t.length + (t.foldl (a1L n a) acc).2.toNat := by
  intro t
  induction t with
  | nil => intro acc; simp
  | cons g r ih =>
   intro acc
   have h1 := ih (a1L n a acc g)
   have h2 := c4l n a acc g
   simp only [List.foldl_cons, List.length_cons]
   omega
 have := this t ([], false)
 simpa [hL] using this
def l7hO (r : RepoD) (n : Str) (a : Int) : Inv := ⟨Nat, fun i => ⟨[(1, true, .str n), (2, true, .int .i64 a), (3, true, .ptr 12 0), (6, true, .ptr 10 0), (7, true, .ptr 11 0), (8, true, .bool (hL n a (r.heads.take i)).2), (9, true, .int .i64 i)], [(12, a2V r), (10, b5P), (11, .box 32 [.sl true 3 (a0h r.commits), .own 14 2 (a0c (hL n a (r.heads.take i)).1)]), (14, .own 69 2 true (a0c (hL n a (r.heads.take i)).1))]⟩, fun i => i <= r.heads.length, fun i => r.heads.length - i⟩
def a7W : Con := .fn 69 (RepoD × Str × Int) (fun a => [a1e a.1, .str a.2.1, .int .i64 a.2.2]) (fun a => a.1.heads.length <= 1048576) (fun a => .agg [.sl true 3 (a0h a.1.commits), .own 9 2 (a0c (hSet a.1.heads a.2.1 a.2.2))]) (fun a => a2o 9 (hSet a.1.heads a.2.1 a.2.2))
theorem a9a : Has Tryz.prog 145 a7W := by
 refine a0d mixed a0g HasL.nil [0, 1, 2, 3, 6, 7, 8, 9] ((fun a n (_ : Nat) => (fun a _ => l7hO a.1 a.2.1 a.2.2) a n)) [] Tryz.func145 (by unfold Tryz.f145; rfl) (fun _ => ⟨(), trivial⟩) ?_
 intro a ha
 obtain ⟨r, n, a⟩ := a
 replace ha : r.heads.length <= 1048576 := ha
 have a0 : hL n a [] = ([], false) := rfl
 have a7 : ∀ i, (hL n a (r.heads.take i)).1.length <= 1048577 := fun i => by
  have h1 := d1Y n a (r.heads.take i)
  have h2 := Bool.toNat_le (hL n a (r.heads.take i)).2
  have h3 : (r.heads.take i).length <= r.heads.length := by simp; omega
  omega
 simp -implicitDefEqProofs [a7W, Con.fn, tTab, l7hO, a0I]
 try dsimp only
 have b1 : ∀ (X : List HeadD) (g : HeadD), a0c X ++ [[D.str n, D.int .i64 a], [D.str g.name, D.int .i64 g.at_]] = a0c (X ++ [⟨n, a⟩] ++ [g]) := fun X g => by simp -implicitDefEqProofs [a0c, a0Y]
 have b2 : ∀ (X : List HeadD) (g : HeadD), a0c X ++ [[D.str g.name, D.int .i64 g.at_]] = a0c (X ++ [g]) := fun X g => by simp -implicitDefEqProofs [a0c, a0Y]
 have b3 : ∀ (X : List HeadD), a0c X ++ [[D.str n, D.int .i64 a]] = a0c (X ++ [⟨n, a⟩]) := fun X => by simp -implicitDefEqProofs [a0c, a0Y]
 refine ⟨⟨0, by simp -implicitDefEqProofs [a0]⟩, fun i hi _ => ⟨fun hlt => ?_, fun hge => ?_⟩⟩
 ·have g := d0h (n := n) (a := a) hlt
  have gl := a7 i
  generalize hX : hL n a (r.heads.take i) = X at g gl ⊢
  obtain ⟨X, q⟩ := X
  simp -implicitDefEqProofs [hlt, a0Y, D.asStr, D.asInt, and_assoc]
  rw [b1, b2, b3]
  have gl : X.length <= 1048577 := gl
  have fin : ∀ (Y : List HeadD) (b : Bool), hL n a (r.heads.take (i + 1)) = (Y, b) -> ∀ c, b = c -> ∃ t', (hL n a (r.heads.take t')).2 = c /\ (t' : Int) = i + 1 /\ a0c (hL n a (r.heads.take t')).1 = a0c Y /\ a0c Y = a0c (hL n a (r.heads.take t')).1 /\ t' <= r.heads.length /\ r.heads.length - t' < r.heads.length - i := fun Y b h c hc => ⟨i + 1, by rw [h]; exact hc, by omega, by rw [h], by rw [h], by omega, by omega⟩
  have fin2 : ∀ (Y : List HeadD) (b : Bool), hL n a (r.heads.take (i + 1)) = (Y, b) -> ∀ c, b = c -> ∃ t', (hL n a (r.heads.take t')).2 = c /\ (t' : Int) = i + 1 /\ (hL n a (r.heads.take t')).1 = Y /\ Y = (hL n a (r.heads.take t')).1 /\ t' <= r.heads.length /\ r.heads.length - t' < r.heads.length - i := fun Y b h c hc => ⟨i + 1, by rw [h]; exact hc, by omega, by rw [h], by rw [h], by omega, by omega⟩
  refine ⟨fun hq => ⟨fun h => ⟨by omega, by omega, by omega, by omega, fun _ _ => fin _ q ?_ _ rfl⟩, fun h => ⟨by omega, by omega, fun _ _ => fin2 _ q ?_ _ rfl⟩⟩,
   fun hq => ⟨fun hb => ⟨by omega, by omega, fun h => ⟨by omega, by omega, by omega, by omega, fun _ _ => fin _ true ?_ _ rfl⟩, fun h => ⟨by omega, by omega, fun _ _ => fin _ true ?_ _ rfl⟩⟩,
    fun hb => ⟨fun h => ⟨by omega, by omega, by omega, by omega, fun _ _ => fin _ q ?_ _ rfl⟩, fun h => ⟨by omega, by omega, fun _ _ => fin2 _ q ?_ _ rfl⟩⟩⟩⟩
  all_goals rw [g]; unfold a1L
  ·rw [if_neg (by simp -implicitDefEqProofs [hq]), if_neg h]
  ·rw [if_neg (by simp -implicitDefEqProofs [hq]), if_pos h]
  ·rw [if_pos ⟨hq, hb⟩, if_neg h]
  ·rw [if_pos ⟨hq, hb⟩, if_pos h]
  ·rw [if_neg (by simp -implicitDefEqProofs [hb]), if_neg h]
  ·rw [if_neg (by simp -implicitDefEqProofs [hb]), if_pos h]
 ·rw [List.take_of_length_le hge]
  have gl := a7 r.heads.length
  rw [List.take_length] at gl
  rw [b3]
  refine ⟨fun h => ?_, fun h => ⟨by omega, ?_⟩⟩
  ·unfold hSet; rw [if_pos h]; exact ⟨rfl, rfl⟩
  ·unfold hSet; rw [if_neg (by simp -implicitDefEqProofs [h])]; exact ⟨rfl, rfl⟩
def addR (r : RepoD) (n : Str) (c : CommitD) : RepoD := ⟨r.commits ++ [c], hSet r.heads n r.commits.length⟩
def a9O : Con := .fn 24 (RepoD × Str × CommitD) (fun a => [a1e a.1, .str a.2.1, .agg [.sl true 1 (a0i a.2.2.parents), .str a.2.2.who, .sl true 2 (a0a a.2.2.tree)]]) (fun a => a.1.commits.length <= 1048576 /\ a.1.heads.length <= 1048576) (fun a => .agg [.sl false 3 (a0h (addR a.1 a.2.1 a.2.2).commits), .sl false 2 (a0c (addR a.1 a.2.1 a.2.2).heads)]) (fun _ => [])
theorem b0j : Has Tryz.prog 148 a9O := by
 refine a0d mixed a0g (HasL.cons a9a HasL.nil) [0, 1, 2, 3, 5, 6, 7] ((fun a n (_ : Nat) => (fun _ => a0E) a n)) [4109] Tryz.func148 (by unfold Tryz.f148; rfl) (fun _ => ⟨(), trivial⟩) ?_
 intro a ha
 obtain ⟨r, n, c⟩ := a
 obtain ⟨h1, h2⟩ : r.commits.length <= 1048576 /\ r.heads.length <= 1048576 := ha
 simp -implicitDefEqProofs [a9O, a7W, Con.fn, tTab, a0I]
 try dsimp only
 exact ⟨by omega, by omega, fun _ => ⟨⟨r.commits ++ [c], r.heads⟩, n, r.commits.length, ⟨⟨by simp -implicitDefEqProofs [a0h, a0H], rfl⟩, rfl, rfl⟩, h2, rfl, rfl⟩⟩
def a0Q (r : RepoD) (n : Str) (a : Int) : RepoD × Bool := if a0w r then (if 0 <= atL r.heads n \/ a0w ⟨r.commits, hSet r.heads n a⟩ = false then (r, false) else (⟨r.commits, hSet r.heads n a⟩, true)) else (⟨[], []⟩, false)
def a7N : Con := .fn 30 (RepoD × Str × Int) (fun a => [a1e a.1, .str a.2.1, .int .i64 a.2.2]) (fun a => rpSz a.1) (fun a => .tup [.agg [.sl false 3 (a0h (a0Q a.1 a.2.1 a.2.2).1.commits), .sl false 2 (a0c (a0Q a.1 a.2.1 a.2.2).1.heads)], .bool (a0Q a.1 a.2.1 a.2.2).2]) (fun _ => [])
theorem b4x : Has Tryz.prog 127 a7N := by
 refine a0d mixed a0g (HasL.cons a4D (HasL.cons a4P (HasL.cons a9a (HasL.cons a4C HasL.nil)))) [0, 1, 2, 3, 6, 7, 8] ((fun a n (_ : Nat) => (fun _ => a0E) a n)) [] Tryz.func127 (by unfold Tryz.f127; rfl) (fun _ => ⟨(), trivial⟩) ?_
 intro a ha
 obtain ⟨r, n, at_⟩ := a
 replace ha : rpSz r := ha
 have ha2 := ha
 obtain ⟨h1, h2, h3⟩ : r.commits.length <= 1048576 /\ (∀ c ∈ r.commits, cmSz c) /\ r.heads.length <= 1048576 := ha2
 simp -implicitDefEqProofs [a7N, a6f, a5l, a7W, a6e, Con.fn, tTab, a0I]
 try dsimp only
 have e0 : a0w r = false -> a0Q r n at_ = (⟨[], []⟩, false) := fun h => by unfold a0Q; rw [if_neg (by simp -implicitDefEqProofs [h])]
 have e1 : a0w r = true -> (0 <= atL r.heads n \/ a0w ⟨r.commits, hSet r.heads n at_⟩ = false) -> a0Q r n at_ = (r, false) := fun h h2 => by unfold a0Q; rw [if_pos h, if_pos h2]
 have e2 : a0w r = true -> ¬ (0 <= atL r.heads n \/ a0w ⟨r.commits, hSet r.heads n at_⟩ = false) -> a0Q r n at_ = (⟨r.commits, hSet r.heads n at_⟩, true) := fun h h2 => by unfold a0Q; rw [if_pos h, if_neg h2]
 refine ⟨by omega, fun h => by rw [e0 h]; exact ⟨⟨rfl, rfl⟩, rfl⟩, fun h => ⟨ha, r, n, at_, ⟨⟨rfl, rfl⟩, rfl, rfl⟩, h3, r, n, ⟨⟨rfl, rfl⟩, rfl⟩, fun hq => ⟨ha, by rw [e1 h (.inl hq)]; exact ⟨⟨rfl, rfl⟩, rfl⟩⟩, fun hq => ⟨by omega, fun ho => ⟨ha, by rw [e1 h (.inr ho)]; exact ⟨⟨rfl, rfl⟩, rfl⟩⟩, fun ho => ?_⟩⟩⟩
 rw [e2 h (by rintro (q | q); omega; rw [ho] at q; cases q)]; exact ⟨⟨rfl, rfl⟩, rfl⟩
def comC (r : RepoD) (n who : Str) (t : List FileD) : CommitD := ⟨if 0 <= atL r.heads n then [atL r.heads n] else [], who, t⟩
def a1c (r : RepoD) (n who : Str) (t : List FileD) : RepoD × Bool := if a0w r then (if a0w (addR r n (comC r n who t)) then (addR r n (comC r n who t), true) else (r, false)) else (⟨[], []⟩, false)
def a7O : Con := .fn 40 (RepoD × Str × Str × List FileD) (fun a => [a1e a.1, .str a.2.1, .str a.2.2.1, .sl true 2 (a0a a.2.2.2)]) (fun a => rpSz a.1 /\ a.2.2.2.length <= 1048576 /\ ∀ f ∈ a.2.2.2, f.text.length <= 1048576) (fun a => .tup [.agg [.sl false 3 (a0h (a1c a.1 a.2.1 a.2.2.1 a.2.2.2).1.commits), .sl false 2 (a0c (a1c a.1 a.2.1 a.2.2.1 a.2.2.2).1.heads)], .bool (a1c a.1 a.2.1 a.2.2.1 a.2.2.2).2]) (fun _ => [])
theorem b4y : Has Tryz.prog 165 a7O := by
 refine a0d mixed a0g (HasL.cons a4D (HasL.cons a4N (HasL.cons a4C (HasL.cons a4P (HasL.cons b0j HasL.nil))))) [0, 1, 2, 3, 4, 8, 9, 10, 11] ((fun a n (_ : Nat) => (fun _ => a0E) a n)) [] Tryz.func165 (by unfold Tryz.f165; rfl) (fun _ => ⟨(), trivial⟩) ?_
 intro a ha
 obtain ⟨r, n, who, t⟩ := a
 obtain ⟨ha, h4, h5⟩ : rpSz r /\ t.length <= 1048576 /\ ∀ f ∈ t, f.text.length <= 1048576 := ha
 have ha2 := ha
 obtain ⟨h1, h2, h3⟩ : r.commits.length <= 1048576 /\ (∀ c ∈ r.commits, cmSz c) /\ r.heads.length <= 1048576 := ha2
 simp -implicitDefEqProofs [a7O, a6f, a5l, a9O, a6e, a5j, Con.fn, tTab, a0I]
 try dsimp only
 have e0 : a0w r = false -> a1c r n who t = (⟨[], []⟩, false) := fun h => by unfold a1c; rw [if_neg (by simp -implicitDefEqProofs [h])]
 have e1 : a0w r = true -> a0w (addR r n (comC r n who t)) = false -> a1c r n who t = (r, false) := fun h h2 => by unfold a1c; rw [if_pos h, if_neg (by simp -implicitDefEqProofs [h2])]
 have e2 : a0w r = true -> a0w (addR r n (comC r n who t)) = true -> a1c r n who t = (addR r n (comC r n who t), true) := fun h h2 => by unfold a1c; rw [if_pos h, if_pos h2]
 have hl : ∀ c, (addR r n c).commits.length <= 1073741824 := fun c => by simp -implicitDefEqProofs [addR]; omega
 refine ⟨by omega, fun h => by rw [e0 h]; exact ⟨⟨rfl, rfl⟩, rfl⟩, fun h => ⟨⟨h4, h5⟩, r, n, ⟨⟨rfl, rfl⟩, rfl⟩, fun hq => ?_, fun hq => ?_⟩⟩
 ·have hc : comC r n who t = ⟨[atL r.heads n], who, t⟩ := by unfold comC; rw [if_pos hq]
  rw [hc] at e1 e2
  refine ⟨r, n, ⟨⟨rfl, rfl⟩, rfl⟩, ha, r, n, ⟨[atL r.heads n], who, t⟩, ⟨⟨rfl, rfl⟩, rfl, rfl, rfl, rfl⟩, ⟨h1, h3⟩, hl _, fun ho => ⟨ha, by rw [e1 h ho]; exact ⟨⟨rfl, rfl⟩, rfl⟩⟩, fun ho => by rw [e2 h ho]; exact ⟨⟨rfl, rfl⟩, rfl⟩⟩
 ·have hc : comC r n who t = ⟨[], who, t⟩ := by unfold comC; rw [if_neg (by omega)]
  rw [hc] at e1 e2
  refine ⟨ha, r, n, ⟨[], who, t⟩, ⟨⟨rfl, rfl⟩, rfl, rfl, rfl, rfl⟩, ⟨h1, h3⟩, hl _, fun ho => ⟨ha, by rw [e1 h ho]; exact ⟨⟨rfl, rfl⟩, rfl⟩⟩, fun ho => by rw [e2 h ho]; exact ⟨⟨rfl, rfl⟩, rfl⟩⟩
def a2j (t : List FileD) (p : Str) : List FileD × Bool := if a0S t then (filB (a1j p) t, decide ((filB (a1j p) t).length < t.length)) else ([], false)
def a8N : Con := .fn 20 (List FileD × Str) (fun a => [.sl true 2 (a0a a.1), .str a.2]) (fun a => a.1.length <= 1048576 /\ ∀ f ∈ a.1, f.text.length <= 1048576) (fun a => .tup [.sl false 2 (a0a (a2j a.1 a.2).1), .bool (a2j a.1 a.2).2]) (fun _ => [])
theorem b5K : Has Tryz.prog 125 a8N := by
 refine a0d mixed a0g (HasL.cons a7k (HasL.cons a4N (HasL.cons b3a HasL.nil))) [0, 1, 4, 5, 6] ((fun a n (_ : Nat) => (fun _ => a0E) a n)) [] Tryz.func125 (by unfold Tryz.f125; rfl) (fun _ => ⟨(), trivial⟩) ?_
 intro a ha
 obtain ⟨t, p⟩ := a
 obtain ⟨h1, h2⟩ : t.length <= 1048576 /\ ∀ f ∈ t, f.text.length <= 1048576 := ha
 simp -implicitDefEqProofs [a8N, a8E, a5j, b0N, Con.fn, tTab]
 try dsimp only
 refine ⟨fun h => by unfold a2j; rw [if_neg (by simp -implicitDefEqProofs [h])]; exact ⟨rfl, rfl⟩, fun h => ⟨⟨h1, h2⟩, t, p, ⟨rfl, rfl⟩, h1, fun _ _ => by unfold a2j; rw [if_pos h]; exact ⟨rfl, rfl⟩⟩⟩
def a6I (p : Str) (f : FileD) : Bool := decide (f.path = p) || inB p f.path
def a4l (p to : Str) (o : List FileD) (f : FileD) : List FileD := if a6I p f then setS o ⟨to ++ f.path.drop p.length, f.text⟩ else o
def mvFs (p to : Str) (o : List FileD) (t : List FileD) : List FileD := t.foldl (a4l p to) o
theorem c5r {p to : Str} {o t : List FileD} {i : Nat} (h : i < t.length) : mvFs p to o (t.take (i + 1)) = a4l p to (mvFs p to o (t.take i)) t[i] := by
 unfold mvFs
 rw [a0y h, List.foldl_append]; rfl
theorem c7X (p to : Str) (o t : List FileD) : (mvFs p to o t).length <= o.length + t.length := by
 unfold mvFs
 induction t generalizing o with
 | nil => simp
 | cons f t ih =>
  have h1 := ih (a4l p to o f)
  have h2 : (a4l p to o f).length <= o.length + 1 := by
   unfold a4l
   split
   ·exact c8L _ _
   ·omega
  simp only [List.foldl_cons, List.length_cons]
  omega
theorem d0j {p q : Str} (h : inB p q = true) : p.length < q.length := by
 unfold inB at h
 simp only [Bool.and_eq_true, decide_eq_true_eq] at h
 omega
def a1z (t : List FileD) (p to : Str) : List FileD × Bool :=
 if a0S t then
  (if (filB (a1j p) t).length = t.length \/ a3p to = false then (t, false)
  else if a0S (mvFs p to (filB (a1j p) t) t) = false \/ ¬ (mvFs p to (filB (a1j p) t) t).length = t.length then (t, false)
  else (mvFs p to (filB (a1j p) t) t, true))
 else ([], false)
def mvO (t : List FileD) (p to : Str) : Inv := ⟨Nat, fun i => ⟨[(0, true, .sl true 2 (a0a t)), (1, true, .str p), (2, true, .str to), (6, true, .nil), (7, true, .bool false), (8, true, .sl false 2 (a0a (mvFs p to (filB (a1j p) t) (t.take i)))), (9, true, .int .i64 t.length), (10, true, .int .i64 i)], []⟩, fun i => i <= t.length /\ a0S t = true, fun i => t.length - i⟩
def a8P : Con := .fn 84 (List FileD × Str × Str) (fun a => [.sl true 2 (a0a a.1), .str a.2.1, .str a.2.2]) (fun a => a.1.length <= 1048576 /\ (∀ f ∈ a.1, f.text.length <= 1048576) /\ a.2.2.length <= 1048576 /\ ∀ f ∈ a.1, f.path.length <= 1048576) (fun a => .tup [.sl false 2 (a0a (a1z a.1 a.2.1 a.2.2).1), .bool (a1z a.1 a.2.1 a.2.2).2]) (fun _ => [])
theorem b5M : Has Tryz.prog 126 a8P := by
 refine a0d mixed a0g (HasL.cons a7k (HasL.cons a4N (HasL.cons b3a (HasL.cons a8Z (HasL.cons b2d (HasL.cons b4T HasL.nil)))))) [0, 1, 2, 6, 7, 8, 9, 10] ((fun a n (_ : Nat) => (fun a _ => mvO a.1 a.2.1 a.2.2) a n)) [] Tryz.func126 (by unfold Tryz.f126; rfl) (fun _ => ⟨(), trivial⟩) ?_
 intro a ha
 obtain ⟨t, p, to⟩ := a
 obtain ⟨h1, h2, h3, h4⟩ : t.length <= 1048576 /\ (∀ f ∈ t, f.text.length <= 1048576) /\ to.length <= 1048576 /\ ∀ f ∈ t, f.path.length <= 1048576 := ha
 simp -implicitDefEqProofs [a8P, a8E, a5j, b0N, a7V, b2B, b2C, Con.fn, tTab, mvO]
 try dsimp only
 have e0 : a0S t = false -> a1z t p to = ([], false) := fun h => by unfold a1z; rw [if_neg (by simp -implicitDefEqProofs [h])]
 have e1 : a0S t = true -> ((filB (a1j p) t).length = t.length \/ a3p to = false) -> a1z t p to = (t, false) := fun h q => by unfold a1z; rw [if_pos h, if_pos q]
 have e2 : a0S t = true -> ¬ ((filB (a1j p) t).length = t.length \/ a3p to = false) -> (a0S (mvFs p to (filB (a1j p) t) t) = false \/ ¬ (mvFs p to (filB (a1j p) t) t).length = t.length) -> a1z t p to = (t, false) := fun h q w => by unfold a1z; rw [if_pos h, if_neg q, if_pos w]
 have e3 : a0S t = true -> ¬ ((filB (a1j p) t).length = t.length \/ a3p to = false) -> ¬ (a0S (mvFs p to (filB (a1j p) t) t) = false \/ ¬ (mvFs p to (filB (a1j p) t) t).length = t.length) -> a1z t p to = (mvFs p to (filB (a1j p) t) t, true) := fun h q w => by unfold a1z; rw [if_pos h, if_neg q, if_neg w]
 refine ⟨fun h => by rw [e0 h]; exact ⟨rfl, rfl⟩, fun h => ⟨⟨h1, h2⟩, t, p, ⟨rfl, rfl⟩, h1, fun _ _ => ⟨fun q => ⟨⟨h1, h2⟩, by rw [e1 h (.inl (by omega))]; exact ⟨rfl, rfl⟩⟩, fun q => ⟨fun w => ⟨⟨h1, h2⟩, by rw [e1 h (.inr w)]; exact ⟨rfl, rfl⟩⟩, fun w _ => ⟨⟨0, ⟨by simp -implicitDefEqProofs [mvFs], rfl⟩, Nat.zero_le _, h⟩, fun i hi _ _ => ⟨fun hlt => ?_, fun hge => ?_⟩⟩⟩⟩⟩⟩
 ·have g := c5r (p := p) (to := to) (o := filB (a1j p) t) hlt
  have h8 := (a6a t h).1
  have gl := c7X p to (filB (a1j p) t) (t.take i)
  have gf := List.length_filter_le (a1j p) t
  have gf : (filB (a1j p) t).length <= t.length := gf
  have gt : (t.take i).length <= t.length := by simp; omega
  have gp := h4 _ (List.getElem_mem hlt)
  have gx := h2 _ (List.getElem_mem hlt)
  have gi := @d0j p t[i].path
  clear e0 e1 e2 e3
  generalize mvFs p to (filB (a1j p) t) (t.take i) = X at g gl ⊢
  simp -implicitDefEqProofs [hlt, a0r, D.asStr, D.asRows, and_assoc]
  have gtk : List.take (List.length t[i].path - List.length p) (List.drop (List.length p) t[i].path) = t[i].path.drop p.length := List.take_of_length_le (by simp)
  rw [gtk]
  have hm : maxLen = 9223372036854775807 := rfl
  refine ⟨fun e => ⟨by rw [e]; omega, fun _ => ⟨by omega, fun _ => ⟨by omega, gx, by omega, by omega, fun _ _ => ⟨i + 1, ?_, by omega, by omega, h, by omega⟩⟩⟩⟩,
   fun e => ⟨fun c => ⟨by have := gi c; omega, fun _ => ⟨by omega, fun _ => ⟨by omega, gx, by omega, by omega, fun _ _ => ⟨i + 1, ?_, by omega, by omega, h, by omega⟩⟩⟩⟩, fun c => ⟨by omega, by omega, fun _ _ => ⟨i + 1, ?_, by omega, by omega, h, by omega⟩⟩⟩⟩
  ·rw [g]; unfold a4l; rw [if_pos (by simp -implicitDefEqProofs [a6I, e])]
  ·rw [g]; unfold a4l; rw [if_pos (by simp -implicitDefEqProofs [a6I, c])]
  ·rw [g]; unfold a4l; rw [if_neg (by simp -implicitDefEqProofs [a6I, c, e])]
 ·rw [List.take_of_length_le hge]
  have hn : ¬ ((filB (a1j p) t).length = t.length \/ a3p to = false) := by rintro (c | c); omega; rw [w] at c; cases c
  have e2 := e2 h hn
  have e3 := e3 h hn
  generalize mvFs p to (filB (a1j p) t) t = X at e2 e3 ⊢
  refine ⟨fun c => ⟨⟨h1, h2⟩, by rw [e2 (.inl c)]; exact ⟨rfl, rfl⟩⟩, fun c _ => ⟨fun d => ⟨⟨h1, h2⟩, by rw [e2 (.inr (by omega))]; exact ⟨rfl, rfl⟩⟩, fun d => ?_⟩⟩
  rw [e3 (by rintro (k | k); rw [c] at k; cases k; omega)]; exact ⟨rfl, rfl⟩
theorem a9d {a b c : Str} (h : Go.Op.bytesLess a b = true) (h' : Go.Op.bytesLess b c = true) : Go.Op.bytesLess a c = true := by
 rw [a3k, decide_eq_true_eq] at *
 exact List.lt_trans h h'
theorem a6g (a : Str) : Go.Op.bytesLess a a = false := by
 rw [a3k, decide_eq_false_iff_not]
 exact List.lt_irrefl a
theorem c6l {t : List FileD} (h : a0D t = true) : ∀ j i, (hij : i < j) -> (hj : j < t.length) -> Go.Op.bytesLess (t[i]'(by omega)).path t[j].path = true := by
 have hs : ∀ j, (h0 : 0 < j) -> (hj : j < t.length) -> Go.Op.bytesLess (t[j - 1]'(by omega)).path t[j].path = true := by
  intro j h0 hj
  simp only [a0D, Bool.and_eq_true, List.all_eq_true, List.mem_range] at h
  have h2 := (h.2 j hj).1
  simp only [a3n, Bool.and_eq_true, Bool.or_eq_true, decide_eq_true_eq] at h2
  rcases h2.2 with h3 | h3
  ·omega
  ·simpa [List.getD_eq_getElem?_getD, hj, (show j - 1 < t.length by omega)] using h3
 intro j
 induction j with
 | zero => intro i hi; omega
 | succ j ih =>
  intro i hi hj
  have h1 := hs (j + 1) (by omega) hj
  by_cases e : i = j
  ·subst e; exact h1
  ·exact a9d (ih i (by omega) (by omega)) h1
def putS : List Str -> Str -> List Str
 | [], s => [s]
 | x :: l, s => if Go.Op.bytesLess x s then x :: putS l s else if x = s then x :: l else s :: x :: l
theorem c8A (l : List Str) (s : Str) : (putS l s).length <= l.length + 1 := by
 induction l with
 | nil => simp -implicitDefEqProofs [putS]
 | cons x l ih =>
  unfold putS
  split
  ·simp; omega
  ·split <;> simp
theorem c5L {l : List Str} {s : Str} {k : Nat} (h : k < l.length) (hp : l.take k ++ putS (l.drop k) s = putS l s) (hl : Go.Op.bytesLess l[k] s = true) : l.take (k + 1) ++ putS (l.drop (k + 1)) s = putS l s := by
 rw [List.drop_eq_getElem_cons h, putS, if_pos hl] at hp
 rw [a0y h, List.append_assoc]
 exact hp
theorem c8y {l : List Str} {s : Str} {k : Nat} (h : l.length <= k) (hp : l.take k ++ putS (l.drop k) s = putS l s) : putS l s = l.take k ++ [s] ++ l.drop k := by
 rw [List.drop_eq_nil_of_le h] at hp ⊢
 rw [<- hp]; simp -implicitDefEqProofs [putS]
theorem d0O {l : List Str} {s : Str} {k : Nat} (h : k < l.length) (hp : l.take k ++ putS (l.drop k) s = putS l s) (hl : Go.Op.bytesLess l[k] s = false) (he : l[k] = s) : putS l s = l := by
 rw [List.drop_eq_getElem_cons h, putS, if_neg (by simp -implicitDefEqProofs [hl]), if_pos he, <- List.drop_eq_getElem_cons h, List.take_append_drop] at hp
 exact hp.symm
theorem d0P {l : List Str} {s : Str} {k : Nat} (h : k < l.length) (hp : l.take k ++ putS (l.drop k) s = putS l s) (hl : Go.Op.bytesLess l[k] s = false) (he : ¬ l[k] = s) : putS l s = l.take k ++ [s] ++ l.drop k := by
 rw [List.drop_eq_getElem_cons h, putS, if_neg (by simp -implicitDefEqProofs [hl]), if_neg he, <- List.drop_eq_getElem_cons h] at hp
 rw [<- hp]; simp
def a1t (l : List Str) (t : List FileD) : List Str := t.foldl (fun l f => putS l f.path) l
theorem a9i {l : List Str} {t : List FileD} {i : Nat} (h : i < t.length) : a1t l (t.take (i + 1)) = putS (a1t l (t.take i)) t[i].path := by
 unfold a1t
 rw [a0y h, List.foldl_append]; rfl
theorem a3Y (t : List FileD) : ∀ l, (a1t l t).length <= l.length + t.length := by
 induction t with
 | nil => intro l; simp -implicitDefEqProofs [a1t]
 | cons f t ih =>
  intro l
  have h1 := ih (putS l f.path)
  have h2 := c8A l f.path
  show (a1t (putS l f.path) t).length <= _
  simp only [List.length_cons]
  omega
def a0O (o a b : List FileD) : List Str := a1t (a1t (a1t [] o) a) b
theorem b3l (o a b : List FileD) : (a0O o a b).length <= o.length + a.length + b.length := by
 have h1 := a3Y b (a1t (a1t [] o) a)
 have h2 := a3Y a (a1t [] o)
 have h3 := a3Y o []
 simp at h3
 show (a1t (a1t (a1t [] o) a) b).length <= _
 omega
def a1W (a b : List Str × Bool) : Bool := decide (a.2 = b.2) && (!a.2 || decide (a.1 = b.1))
def one6 (o a b : List FileD) (p : Str) : List Str × Bool × Int :=
 if a1W (getL a p) (getL o p) || a1W (getL a p) (getL b p) then ((getL b p).1, (getL b p).2, 0)
 else if a1W (getL b p) (getL o p) then ((getL a p).1, (getL a p).2, 0)
 else if !(getL a p).2 || !(getL b p).2 then ((getL o p).1, (getL o p).2, 1)
 else if !(getL o p).2 then ([], false, 2)
 else if (a2e (of3 (getL o p).1 (getL a p).1 (getL b p).1)).2 then ((a2e (of3 (getL o p).1 (getL a p).1 (getL b p).1)).1, true, 0)
 else ((getL o p).1, true, 3)
theorem a5W {t : List FileD} {n : Nat} (h : ∀ f ∈ t, f.text.length <= n) (p : Str) : (getL t p).1.length <= n := by
 induction t with
 | nil => simp -implicitDefEqProofs [getL]
 | cons f t ih =>
  unfold getL
  split
  ·exact h f (by simp)
  ·exact ih fun g hg => h g (by simp -implicitDefEqProofs [hg])
theorem a4J {t : List Str} (h : a1g t = true) : t.length <= 10 := by
 unfold a1g at h
 simp only [Bool.and_eq_true, decide_eq_true_eq] at h
 exact h.1
theorem c6k (l : List PartD) : (a2e l).1.length <= 10 := by
 unfold a2e
 split
 ·simp
 ·split
  ·rename_i h; exact a4J h
  ·simp
theorem b7K {o a b : List FileD} {p : Str} {n : Nat} (hn : 10 <= n) (ho : ∀ f ∈ o, f.text.length <= n) (ha : ∀ f ∈ a, f.text.length <= n) (hb : ∀ f ∈ b, f.text.length <= n) : (one6 o a b p).1.length <= n := by
 have h1 := a5W ho p
 have h2 := a5W ha p
 have h3 := a5W hb p
 have h4 := c6k (of3 (getL o p).1 (getL a p).1 (getL b p).1)
 unfold one6
 split
 ·exact h3
 ·split
  ·exact h2
  ·split
   ·exact h1
   ·split
    ·simp
    ·split
     ·show (a2e _).1.length <= n; omega
     ·exact h1
def stepJ (o a b : List FileD) (s : List FileD × List HeadD) (p : Str) : List FileD × List HeadD :=
 (if (one6 o a b p).2.1 then s.1 ++ [⟨p, (one6 o a b p).1⟩] else s.1, if 0 < (one6 o a b p).2.2 then s.2 ++ [⟨p, (one6 o a b p).2.2⟩] else s.2)
def runJ (o a b : List FileD) (l : List Str) : List FileD × List HeadD := l.foldl (stepJ o a b) ([], [])
theorem b5i {o a b : List FileD} {l : List Str} {i : Nat} (h : i < l.length) : runJ o a b (l.take (i + 1)) = stepJ o a b (runJ o a b (l.take i)) l[i] := by
 unfold runJ
 rw [a0y h, List.foldl_append]; rfl
theorem b8c (o a b : List FileD) (l : List Str) : (runJ o a b l).1.length <= l.length /\ (runJ o a b l).2.length <= l.length := by
 have : ∀ (l : List Str) (s : List FileD × List HeadD), (l.foldl (stepJ o a b) s).1.length <= s.1.length + l.length /\ (l.foldl (stepJ o a b) s).2.length <= s.2.length + l.length := by
  intro l
  induction l with
  | nil => intro s; simp
  | cons p l ih =>
   intro s
   obtain ⟨h1, h2⟩ := ih (stepJ o a b s p)
   have h3 : (stepJ o a b s p).1.length <= s.1.length + 1 /\ (stepJ o a b s p).2.length <= s.2.length + 1 := by
    unfold stepJ
    constructor
    ·show (if _ then _ else _ : List FileD).length <= _
     split <;> simp
    ·show (if _ then _ else _ : List HeadD).length <= _
     split <;> simp
   simp only [List.foldl_cons, List.length_cons]
   omega
 have := this l ([], [])
 simpa [runJ] using this
def of6 (o a b : List FileD) : List FileD × List HeadD := runJ o a b (a0O o a b)
def a1n (o a b : List FileD) : List FileD × List HeadD := if (of6 o a b).2 = [] /\ a0S (of6 o a b).1 = false then (o, [⟨[], 4⟩]) else of6 o a b
theorem c1F {o a b : List FileD} (h : (a1n o a b).2 = []) : a0S (a1n o a b).1 = true := by
 unfold a1n at h ⊢
 split
 ·rename_i h2; rw [if_pos h2] at h; simp at h
 ·rename_i h2
  rw [if_neg h2] at h
  cases hq : a0S (of6 o a b).1 with
  | true => rfl
  | false => exact absurd ⟨h, hq⟩ h2
def a1K (r : RepoD) (a b : Int) (i : Nat) : List Int := ((a0B (anc r a)).take i).filter fun x => decide (x ∈ a0B (anc r b))
def a8v (r : RepoD) (l : List Int) (i k : Nat) : Bool := (List.range k).all fun j => decide (j = i) || !decide (l.getD i 0 ∈ a0B (anc r (l.getD j 0)))
def a3x (r : RepoD) (l : List Int) (i : Nat) : List Int := ((List.range i).filter fun j => a8v r l j l.length).map fun j => l.getD j 0
def a4i (r : RepoD) (a b : Int) : List Int := a3x r (a1K r a b (a0B (anc r a)).length) (a1K r a b (a0B (anc r a)).length).length
def a2k (r : RepoD) (a b : Int) : List FileD := match (a4i r a b).getLast? with
 | none => []
 | some c => a0F r c
def noR : RepoD := ⟨[], []⟩
def a2s (r : RepoD) (n w : Str) (b : Int) : RepoD × Int :=
 if b ∈ a0B (anc r (atL r.heads n)) then (r, 2)
 else if atL r.heads n ∈ a0B (anc r b) then (⟨r.commits, hSet r.heads n b⟩, 3)
 else if (a1n (a2k r (atL r.heads n) b) (a0F r (atL r.heads n)) (a0F r b)).2 = [] then
  (if a0w (addR r n ⟨[atL r.heads n, b], w, (a1n (a2k r (atL r.heads n) b) (a0F r (atL r.heads n)) (a0F r b)).1⟩) then
   (addR r n ⟨[atL r.heads n, b], w, (a1n (a2k r (atL r.heads n) b) (a0F r (atL r.heads n)) (a0F r b)).1⟩, 0) else (r, 5))
 else (r, 4)
def a1l (r : RepoD) (n w : Str) (b : Int) : RepoD × Int :=
 if a0w r then (if atL r.heads n < 0 \/ a0X w = false \/ ¬ (0 <= b /\ b < r.commits.length) then (r, 1) else a2s r n w b) else (noR, 1)
def a2t (r : RepoD) (c : Int) : List FileD := match (r.commits.getD c.toNat default).parents with
 | [] => []
 | p :: _ => a0F r p
def a3q (r : RepoD) (n w : Str) (o b : List FileD) : RepoD × Int :=
 if (a1n o (a0F r (atL r.heads n)) b).2 = [] then
  (if a0w (addR r n ⟨[atL r.heads n], w, (a1n o (a0F r (atL r.heads n)) b).1⟩) then (addR r n ⟨[atL r.heads n], w, (a1n o (a0F r (atL r.heads n)) b).1⟩, 0) else (r, 5))
 else (r, 4)
def a1D (back : Bool) (r : RepoD) (n w : Str) (c : Int) : RepoD × Int :=
 if a0w r then (if atL r.heads n < 0 \/ a0X w = false \/ ¬ (0 <= c /\ c < r.commits.length) then (r, 1)
  else if back then a3q r n w (a0F r c) (a2t r c) else a3q r n w (a2t r c) (a0F r c)) else (noR, 1)
theorem a8X : ∀ {l : List HeadD}, (∀ i, 0 < i -> i < l.length -> Go.Op.bytesLess (l.getD (i - 1) default).name (l.getD i default).name = true) -> l.Pairwise fun a b => Go.Op.bytesLess a.name b.name = true
 | [], _ => .nil
 | [x], _ => by simp
 | x :: y :: t, h => by
  have ih := a8X (l := y :: t) fun i h1 h2 => by
   have := h (i + 1) (by omega) (by simp only [List.length_cons] at h2 ⊢; omega)
   rw [show i + 1 - 1 = (i - 1) + 1 by omega, List.getD_cons_succ, List.getD_cons_succ] at this
   exact this
  have hxy := h 1 (by omega) (by simp)
  have hxy : Go.Op.bytesLess x.name y.name = true := by simpa using hxy
  refine List.pairwise_cons.2 ⟨fun z hz => ?_, ih⟩
  rcases List.mem_cons.1 hz with rfl | hz
  ·exact hxy
  ·exact a9d hxy ((List.pairwise_cons.1 ih).1 z hz)
theorem b0W (n : Str) (a : Int) : ∀ (l X : List HeadD), l.foldl (a1L n a) (X, true) = (X ++ l.filter (fun g => decide (g.name ≠ n)), true)
 | [], X => by simp
 | g :: l, X => by
  rw [List.foldl_cons]
  by_cases h : g.name = n
  ·have e : a1L n a (X, true) g = (X, true) := by unfold a1L; simp -implicitDefEqProofs [h]
   rw [e, b0W n a l X]; simp -implicitDefEqProofs [h]
  ·have e : a1L n a (X, true) g = (X ++ [g], true) := by unfold a1L; simp -implicitDefEqProofs [h]
   rw [e, b0W n a l (X ++ [g])]; simp -implicitDefEqProofs [h]
def hAt (n : Str) (a : Int) (h : HeadD) : HeadD := if h.name = n then ⟨n, a⟩ else h
theorem b4L (n : Str) (a : Int) : ∀ (l X : List HeadD), (l.Pairwise fun a b => Go.Op.bytesLess a.name b.name = true) -> (∃ h ∈ l, h.name = n) -> l.foldl (a1L n a) (X, false) = (X ++ l.map (hAt n a), true)
 | [], X, _, h => by obtain ⟨_, h, _⟩ := h; simp at h
 | g :: l, X, hp, hn => by
  obtain ⟨hp1, hp2⟩ := List.pairwise_cons.1 hp
  rw [List.foldl_cons]
  by_cases h : g.name = n
  ·have e : a1L n a (X, false) g = (X ++ [⟨n, a⟩], true) := by unfold a1L; simp -implicitDefEqProofs [h, a6g]
   have hne : ∀ z ∈ l, ¬ z.name = n := fun z hz hc => by
    have := hp1 z hz
    rw [h, hc, a6g] at this
    cases this
   have e2 : l.filter (fun g => decide (g.name ≠ n)) = l := by rw [List.filter_eq_self]; intro z hz; simp -implicitDefEqProofs [hne z hz]
   have e3 : l.map (hAt n a) = l := by
    have : l.map (hAt n a) = l.map id := List.map_congr_left fun z hz => by simp -implicitDefEqProofs [hAt, hne z hz]
    rw [this]; simp
   rw [e, b0W, e2]; simp -implicitDefEqProofs [e3, hAt, h]
  ·obtain ⟨z, hz, hzn⟩ := hn
   have hz : z ∈ l := by
    rcases List.mem_cons.1 hz with rfl | hz
    ·exact absurd hzn h
    ·exact hz
   have hl : Go.Op.bytesLess g.name n = true := by rw [<- hzn]; exact hp1 z hz
   have e : a1L n a (X, false) g = (X ++ [g], false) := by unfold a1L; simp -implicitDefEqProofs [h, hl]
   rw [e, b4L n a l (X ++ [g]) hp2 ⟨z, hz, hzn⟩]; simp -implicitDefEqProofs [hAt, h]
theorem b1Z {l : List HeadD} {n : Str} {a : Int} (hl : ∀ i, 0 < i -> i < l.length -> Go.Op.bytesLess (l.getD (i - 1) default).name (l.getD i default).name = true) (hn : ∃ h ∈ l, h.name = n) :
  hSet l n a = l.map (hAt n a) := by
 unfold hSet hL
 rw [b4L n a l [] (a8X hl) hn]
 simp
theorem c9R {l : List HeadD} {n : Str} (h : 0 <= atL l n) : ∃ h ∈ l, h.name = n := by
 induction l with
 | nil => simp -implicitDefEqProofs [atL] at h
 | cons g l ih =>
  unfold atL at h
  split at h
  ·rename_i e; exact ⟨g, by simp, e⟩
  ·obtain ⟨x, h1, h2⟩ := ih h; exact ⟨x, by simp -implicitDefEqProofs [h1], h2⟩
theorem a9G {l : List HeadD} {n : Str} {k : Nat} (hl : a2b k l = true) : atL l n < k /\ -1 <= atL l n \/ atL l n = -1 := by
 have h2 := ((a2H _ _).1 hl).2
 have : ∀ (l' : List HeadD), (∀ h ∈ l', 0 <= h.at_ /\ h.at_ < k) -> atL l' n < k /\ -1 <= atL l' n \/ atL l' n = -1 := by
  intro l'
  induction l' with
  | nil => intro _; right; rfl
  | cons g l' ih =>
   intro h
   unfold atL
   split
   ·left; have := h g (by simp); omega
   ·exact ih fun x hx => h x (by simp -implicitDefEqProofs [hx])
 refine this l fun h hh => ?_
 obtain ⟨i, hi, rfl⟩ := List.getElem_of_mem hh
 have := h2 i hi
 simp only [okHd, inN, List.getD_eq_getElem?_getD, List.getElem?_eq_getElem hi, Option.getD_some, Bool.and_eq_true, decide_eq_true_eq] at this
 omega
theorem c1u {k : Nat} {l : List HeadD} {n : Str} {b : Int} (h : a2b k l = true) (hn : 0 <= atL l n) (hb : 0 <= b /\ b < k) : a2b k (hSet l n b) = true := by
 obtain ⟨h1, h2⟩ := (a2H _ _).1 h
 have hg : ∀ i (hi : i < l.length), l.getD i default = l[i] := fun i hi => by simp -implicitDefEqProofs [List.getD_eq_getElem?_getD, hi]
 rw [b1Z (fun i h3 h4 => by
  have := h2 i h4
  unfold okHd at this
  simp only [Bool.and_eq_true, Bool.or_eq_true, decide_eq_true_eq] at this
  rcases this.2 with h5 | h5
  ·omega
  ·exact h5) (c9R hn), a2H]
 have hm : ∀ i (hi : i < l.length), (l.map (hAt n b)).getD i default = hAt n b l[i] := fun i hi => by simp -implicitDefEqProofs [List.getD_eq_getElem?_getD, hi]
 have hname : ∀ g : HeadD, (hAt n b g).name = g.name := fun g => by unfold hAt; split <;> simp_all
 refine ⟨by simpa using h1, fun i hi => ?_⟩
 have hi : i < l.length := by simpa using hi
 have h3 := h2 i hi
 unfold okHd at h3 ⊢
 rw [hm i hi, hname]
 rw [hg i hi] at h3
 have hat : inN k (hAt n b l[i]).at_ = true := by
  simp only [Bool.and_eq_true] at h3
  unfold hAt
  split
  ·simp only [inN, Bool.and_eq_true, decide_eq_true_eq]; omega
  ·exact h3.1.2
 rw [hat]
 rcases Nat.eq_zero_or_pos i with h0 | h0
 ·subst h0
  simp only [Bool.and_eq_true] at h3
  simp -implicitDefEqProofs [h3.1.1]
 ·rw [hm (i - 1) (by omega), hname]
  rw [hg (i - 1) (by omega)] at h3
  simp only [Bool.and_eq_true] at h3 ⊢
  exact ⟨⟨h3.1.1, trivial⟩, h3.2⟩
theorem b9y {r : RepoD} {n : Str} {b : Int} (h : a0w r = true) (hn : 0 <= atL r.heads n) (hb : 0 <= b /\ b < r.commits.length) : a0w ⟨r.commits, hSet r.heads n b⟩ = true := by
 obtain ⟨h1, h2, h3⟩ := (a0V r).1 h
 exact (a0V _).2 ⟨h1, c1u h2 hn hb, h3⟩
theorem c0e (l : List HeadD) (n : Str) (a : Int) : hSet l n a ≠ [] := by
 have : ∀ (l : List HeadD) (s : List HeadD × Bool), (s.2 = true -> s.1 ≠ []) -> ((l.foldl (a1L n a) s).2 = true -> (l.foldl (a1L n a) s).1 ≠ []) := by
  intro l
  induction l with
  | nil => intro s h; exact h
  | cons g l ih =>
   intro s h
   refine ih (a1L n a s g) ?_
   unfold a1L
   split
   ·split <;> simp
   ·split
    ·exact h
    ·simp
 unfold hSet
 split
 ·rename_i h; exact this l ([], false) (by simp) h
 ·simp
theorem c6m {r : RepoD} {n w : Str} {b : Int} (h : a0w r = true) (hn : 0 <= atL r.heads n) (hb : 0 <= b /\ b < r.commits.length) (hh : r.commits ≠ [] -> r.heads ≠ []) :
  a0w (a2s r n w b).1 = true /\ ((a2s r n w b).1.commits ≠ [] -> (a2s r n w b).1.heads ≠ []) := by
 unfold a2s
 split
 ·exact ⟨h, hh⟩
 ·split
  ·exact ⟨b9y h hn hb, fun _ => c0e _ _ _⟩
  ·split
   ·split
    ·rename_i q; exact ⟨q, fun _ => c0e _ _ _⟩
    ·exact ⟨h, hh⟩
   ·exact ⟨h, hh⟩
theorem c6o {r : RepoD} {n w : Str} {b : Int} (h : a0w r = true) (hh : r.commits ≠ [] -> r.heads ≠ []) :
  a0w (a1l r n w b).1 = true /\ ((a1l r n w b).1.commits ≠ [] -> (a1l r n w b).1.heads ≠ []) := by
 unfold a1l
 rw [if_pos h]
 split
 ·exact ⟨h, hh⟩
 ·rename_i q
  exact c6m h (by omega) (by omega) hh
structure OpD where
 kind : Int
 branch : Str
 who : Str
 path : Str
 to_ : Str
 at_ : Int
 text : List Str
 deriving DecidableEq, Inhabited
def eOp (a : OpD) : List D := [.int .i64 a.kind, .str a.branch, .str a.who, .str a.path, .str a.to_, .int .i64 a.at_, .sl 9 1 (a0b a.text)]
@[simp] theorem eOp_inj (a b : OpD) : (eOp a = eOp b) = (a = b) := by
 cases a; cases b; simp -implicitDefEqProofs [eOp]
@[simp] theorem OpD.eta (a : OpD) : (⟨a.kind, a.branch, a.who, a.path, a.to_, a.at_, a.text⟩ : OpD) = a := rfl
theorem OpD.eq_iff (a b : OpD) : (a = b) = (a.kind = b.kind /\ a.branch = b.branch /\ a.who = b.who /\ a.path = b.path /\ a.to_ = b.to_ /\ a.at_ = b.at_ /\ a.text = b.text) := by
 cases a; cases b; simp
@[simp] theorem OpD.ex1 (x_kind : Int) (x_branch : Str) (x_who : Str) (x_path : Str) (x_to_ : Str) (x_at_ : Int) (x_text : List Str) (Q : OpD -> Prop) : (∃ a : OpD, a.kind = x_kind /\ a.branch = x_branch /\ a.who = x_who /\ a.path = x_path /\ a.to_ = x_to_ /\ a.at_ = x_at_ /\ a.text = x_text /\ Q a) = Q ⟨x_kind, x_branch, x_who, x_path, x_to_, x_at_, x_text⟩ := by
 apply propext
 constructor
 ·rintro ⟨⟨_, _, _, _, _, _, _⟩, rfl, rfl, rfl, rfl, rfl, rfl, rfl, h⟩; exact h
 ·intro h; exact ⟨⟨x_kind, x_branch, x_who, x_path, x_to_, x_at_, x_text⟩, rfl, rfl, rfl, rfl, rfl, rfl, rfl, h⟩
@[simp] theorem OpD.ex2 (x_kind : Int) (x_branch : Str) (x_who : Str) (x_path : Str) (x_to_ : Str) (x_at_ : Int) (x_text : List Str) (Q : OpD -> Prop) : (∃ a : OpD, (a.kind = x_kind /\ a.branch = x_branch /\ a.who = x_who /\ a.path = x_path /\ a.to_ = x_to_ /\ a.at_ = x_at_ /\ a.text = x_text) /\ Q a) = Q ⟨x_kind, x_branch, x_who, x_path, x_to_, x_at_, x_text⟩ := by
 apply propext
 constructor
 ·rintro ⟨⟨_, _, _, _, _, _, _⟩, ⟨rfl, rfl, rfl, rfl, rfl, rfl, rfl⟩, h⟩; exact h
 ·intro h; exact ⟨⟨x_kind, x_branch, x_who, x_path, x_to_, x_at_, x_text⟩, ⟨rfl, rfl, rfl, rfl, rfl, rfl, rfl⟩, h⟩
@[simp] theorem OpD.ex0 (x_kind : Int) (x_branch : Str) (x_who : Str) (x_path : Str) (x_to_ : Str) (x_at_ : Int) (x_text : List Str) : (∃ a : OpD, a.kind = x_kind /\ a.branch = x_branch /\ a.who = x_who /\ a.path = x_path /\ a.to_ = x_to_ /\ a.at_ = x_at_ /\ a.text = x_text) = True := by
 simp only [eq_iff_iff, iff_true]
 exact ⟨⟨x_kind, x_branch, x_who, x_path, x_to_, x_at_, x_text⟩, rfl, rfl, rfl, rfl, rfl, rfl, rfl⟩
def eOps (l : List OpD) : List (List D) := l.map eOp
@[simp] theorem eOps_length (l : List OpD) : (eOps l).length = l.length := by simp -implicitDefEqProofs [eOps]
@[simp] theorem eOps_nil : eOps [] = [] := rfl
@[simp] theorem eOps_get (l : List OpD) (i : Nat) : (eOps l)[i]? = l[i]?.map eOp := by simp -implicitDefEqProofs [eOps]
@[simp] theorem eOps_getElem (l : List OpD) (i : Nat) (h : i < (eOps l).length) : (eOps l)[i] = eOp (l[i]'(by simpa using h)) := by simp -implicitDefEqProofs [eOps]
@[simp] theorem eOps_inj (a b : List OpD) : (eOps a = eOps b) = (a = b) := by
 apply propext
 constructor
 ·intro h
  exact List.map_inj_right (fun x y h => by simpa using h) |>.1 h
 ·rintro rfl; rfl
@[simp] theorem eOps_eq_nil (a : List OpD) : (eOps a = []) = (a = []) := by simp -implicitDefEqProofs [eOps]
@[simp] theorem nil_eq_eOps (a : List OpD) : ([] = eOps a) = (a = []) := by simp -implicitDefEqProofs [eOps, eq_comm]
abbrev vOp (o : OpD) : AV := .agg [.int .i64 o.kind, .str o.branch, .str o.who, .str o.path, .str o.to_, .int .i64 o.at_, .sl true 1 (a0b o.text)]
def bOp (o : OpD) : Blk := .box 58 [.int .i64 o.kind, .str o.branch, .str o.who, .str o.path, .str o.to_, .int .i64 o.at_, .sl true 1 (a0b o.text)]
def a4o (o : OpD) (p t a x : Bool) : Bool := (p || decide (o.path = [])) && (t || decide (o.to_ = [])) && (a || decide (o.at_ = 0)) && (x || decide (o.text = []))
def barB (s : Str) : Bool := s.all fun b => decide (b ≠ 124)
def a5X (t : List Str) : Bool := t.all barB && a1g t
def opB (o : OpD) : Bool := (a0X o.branch && a0X o.who) &&
 (if o.kind = 1 then a4o o true false false true && a3p o.path && a5X o.text
 else if o.kind = 2 then a4o o true false false false && a3p o.path
 else if o.kind = 3 then a4o o true true false false && a3p o.path && a3p o.to_
 else if o.kind = 4 \/ o.kind = 5 then a4o o false true false false && a0X o.to_
 else if o.kind = 6 \/ o.kind = 7 then a4o o false false true false && (decide (0 <= o.at_) && decide (o.at_ <= 15))
 else false)
def a1S (r : RepoD) (o : OpD) (x : List FileD × Bool) : RepoD × Int := if x.2 then (if (a1c r o.branch o.who x.1).2 then ((a1c r o.branch o.who x.1).1, 0) else (r, 5)) else (r, 1)
def a2r (r : RepoD) (n : Str) : List FileD := if 0 <= atL r.heads n then a0F r (atL r.heads n) else []
def do19 (r : RepoD) (o : OpD) : RepoD × Int :=
 if o.kind = 1 then a1S r o (a3m (a2r r o.branch) ⟨o.path, o.text⟩)
 else if o.kind = 2 then a1S r o (a2j (a2r r o.branch) o.path)
 else if o.kind = 3 then a1S r o (a1z (a2r r o.branch) o.path o.to_)
 else if o.kind = 4 then (if (a0Q r o.to_ (atL r.heads o.branch)).2 then ((a0Q r o.to_ (atL r.heads o.branch)).1, 0) else (r, 1))
 else if o.kind = 5 then a1l r o.branch o.who (atL r.heads o.to_)
 else if o.kind = 6 then a1D false r o.branch o.who o.at_
 else a1D true r o.branch o.who o.at_
def a1w (r : RepoD) (o : OpD) : RepoD × Int := if a0w r then (if opB o then do19 r o else (r, 1)) else (noR, 1)
end Vx
end Go.Proofs.YtokdjnbcdokpjabGreatDoor
