/-
  Joined by program (merge.py): Base, RowK, Rep, Ea, RowY, Fa, Lib, Fb, Ca, Cb, Cc, Ce, Cd, Cf, Cg, Ch, Ci, Cj, Ck, Cl, Pa, Cm, LawA, Cn, Co, Cp. It shows what the single texts show; conditions: none but those of each lemma.
-/
import Derived.Test.YtlhkmgbmnbkaeaaDoorVc
import Derived.Test.YtlhkmgbmnbkaeaaDoorProg
import Derived.KernelRfl
import Derived.Test.YtlhkmgbmnbkaeaaDoorRows
import Derived.Test.YtlhkmgbmnbkaeaaDoorCards
import Derived.Test.YtlhkmgbmnbkaeaaDoorTie
import Derived.ProofKit
import Derived.OpenShut
import Derived.ShutString
import Derived.Lay
import Derived.LaidMore
import Derived.SevenTiedAt
import Derived.Lib.Walk
import Derived.Lib.SliceRun
import Derived.Lib.JoinLaws
import Derived.Lib.AppendZeros
import Derived.Lib.AppendZerosOnto
import Derived.Lib.Overlaps
import Derived.Laws.Externs
import Derived.Laws.IdiomCopy
import Derived.Laws.NewBlocks
import Derived.Shelf.RegionOpenPlain
import Derived.Lib.Strings
import Derived.Lib.Bytealg
import Derived.Handy
set_option linter.unusedVariables false
set_option linter.unusedSimpArgs false
set_option linter.unusedSectionVars false
/-
  The types of the program, as the walks want them; data of the program's types.
-/
namespace Go.Proofs.YtlhkmgbmnbkaeaaDoor
open Vx
namespace Vx

def tTab : List (Nat × TI) := [(3, ⟨false, [.int .i64], 8, [], 0⟩), (4, ⟨false, [.bool], 1, [], 0⟩), (5, ⟨false, [.int .u8], 1, [], 0⟩), (9, ⟨false, [.str], 16, [], 0⟩),
  (26, ⟨false, [.sl 9 1], 24, [], 9⟩), (22, ⟨false, [.sl 5 1], 24, [], 5⟩),
  (95, ⟨true, [.str, .sl 9 1], 40, [(9, 0), (26, 1)], 0⟩), (32, ⟨true, [.str, .sl 9 1], 40, [(9, 0), (26, 1)], 0⟩),
  (35, ⟨false, [.sl 95 2], 24, [], 95⟩), (23, ⟨false, [.sl 32 2], 24, [], 32⟩),
  (77, ⟨false, [.sl 3 1], 24, [], 3⟩),
  (109, ⟨true, [.str, .int .i64], 24, [(9, 0), (3, 1)], 0⟩), (114, ⟨true, [.str, .int .i64], 24, [(9, 0), (3, 1)], 0⟩),
  (55, ⟨false, [.sl 109 2], 24, [], 109⟩), (63, ⟨false, [.sl 114 2], 24, [], 114⟩),
  (151, ⟨true, [.sl 3 1, .str, .sl 95 2], 64, [(77, 0), (9, 1), (35, 2)], 0⟩), (127, ⟨true, [.sl 3 1, .str, .sl 32 2], 64, [(77, 0), (9, 1), (23, 2)], 0⟩),
  (54, ⟨false, [.sl 151 3], 24, [], 151⟩), (62, ⟨false, [.sl 127 3], 24, [], 127⟩),
  (57, ⟨true, [.sl 151 3, .sl 109 2], 48, [(54, 0), (55, 1)], 0⟩), (65, ⟨true, [.sl 127 3, .sl 114 2], 48, [(62, 0), (63, 1)], 0⟩),
  (134, ⟨true, [.sl 5 1, .int .i64], 32, [(22, 0), (3, 1)], 0⟩)]

theorem tTab_ok : ∀ t ti, get? tTab t = some ti → TOk Tryd.prog t ti := tabChk_ok (by kernel_rfl)

theorem mixed : Tryd.prog.follows .mixedOrders = true := by kernel_rfl

def noInv : Nat → Inv := fun _ => ⟨Unit, fun _ => ⟨[], []⟩, fun _ => True, fun _ => 0⟩

theorem upd_app {α : Type} (f : Nat → α) (d : Nat) (v : α) (h : Nat) : upd f d v h = if h = d then v else f h := rfl
def wipeE (e : Nat → Option (Bool × AV)) (m : Nat → Option Blk) : Nat → Option (Bool × AV) := fun t => (e t).map fun p => (p.1, p.2.wipe m)
def wipeM (m : Nat → Option Blk) : Nat → Option Blk := fun h => (m h).map (Blk.wipe m)
theorem wipe_eq (s : St) (m : Nat → Option Blk) : s.wipe m = ⟨wipeE s.e m, wipeM m⟩ := rfl
theorem wipeE_app (e : Nat → Option (Bool × AV)) (m : Nat → Option Blk) (t : Nat) : wipeE e m t = (e t).map fun p => (p.1, p.2.wipe m) := rfl
theorem wipeM_app (m : Nat → Option Blk) (h : Nat) : wipeM m h = (m h).map (Blk.wipe m) := rfl

abbrev Str := List UInt8
def eStr (s : Str) : List D := [.str s]
def eStrs (l : List Str) : List (List D) := l.map eStr

structure FileD where
  path : Str
  text : List Str
  deriving DecidableEq, Inhabited

def eFile (f : FileD) : List D := [.str f.path, .sl 9 1 (eStrs f.text)]
def eFiles (l : List FileD) : List (List D) := l.map eFile

@[simp] theorem eStrs_length (l : List Str) : (eStrs l).length = l.length := by simp [eStrs]
@[simp] theorem eStrs_nil : eStrs [] = [] := rfl
@[simp] theorem eStrs_get (l : List Str) (i : Nat) : (eStrs l)[i]? = l[i]?.map eStr := by simp [eStrs]
@[simp] theorem eStrs_getElem (l : List Str) (i : Nat) (h : i < (eStrs l).length) : (eStrs l)[i] = eStr (l[i]'(by simpa using h)) := by simp [eStrs]
@[simp] theorem eStr_inj (a b : Str) : (eStr a = eStr b) = (a = b) := by simp [eStr]
@[simp] theorem eStrs_inj (a b : List Str) : (eStrs a = eStrs b) = (a = b) := by
  apply propext
  constructor
  · intro h
    exact List.map_inj_right (fun x y h => by simpa using h) |>.1 h
  · rintro rfl; rfl
@[simp] theorem eStrs_eq_nil (a : List Str) : (eStrs a = []) = (a = []) := by simp [eStrs]
@[simp] theorem nil_eq_eStrs (a : List Str) : ([] = eStrs a) = (a = []) := by simp [eStrs, eq_comm]
theorem eStrs_append (a b : List Str) : eStrs (a ++ b) = eStrs a ++ eStrs b := by simp [eStrs]
theorem eStrs_snoc (a : List Str) (x : Str) : eStrs a ++ [[.str x]] = eStrs (a ++ [x]) := by simp [eStrs, eStr]
theorem eStrs_set (l : List Str) (i : Nat) (s : Str) : (eStrs l).set i [.str s] = eStrs (l.set i s) := by simp [eStrs, List.map_set, eStr]
theorem eStrs_take (l : List Str) (i : Nat) : (eStrs l).take i = eStrs (l.take i) := by simp [eStrs]
theorem eStrs_drop (l : List Str) (i : Nat) : (eStrs l).drop i = eStrs (l.drop i) := by simp [eStrs]
theorem eStrs_rep (n : Nat) : List.replicate n [D.str []] = eStrs (List.replicate n []) := by simp [eStrs, eStr]
@[simp] theorem eStrs_flat (l : List Str) : (∀ x ∈ eStrs l, ∀ d ∈ x, flatD d) = True := by
  simp only [eq_iff_iff, iff_true]
  intro x hx d hd
  simp only [eStrs, List.mem_map] at hx
  obtain ⟨s, _, rfl⟩ := hx
  simp only [eStr, List.mem_singleton] at hd
  subst hd
  trivial
@[simp] theorem eFiles_length (l : List FileD) : (eFiles l).length = l.length := by simp [eFiles]
@[simp] theorem eFiles_nil : eFiles [] = [] := rfl
@[simp] theorem eFiles_get (l : List FileD) (i : Nat) : (eFiles l)[i]? = l[i]?.map eFile := by simp [eFiles]
@[simp] theorem eFiles_getElem (l : List FileD) (i : Nat) (h : i < (eFiles l).length) : (eFiles l)[i] = eFile (l[i]'(by simpa using h)) := by simp [eFiles]
@[simp] theorem eFile_inj (a b : FileD) : (eFile a = eFile b) = (a = b) := by
  cases a; cases b; simp [eFile]
@[simp] theorem eFiles_inj (a b : List FileD) : (eFiles a = eFiles b) = (a = b) := by
  apply propext
  constructor
  · intro h
    exact List.map_inj_right (fun x y h => by simpa using h) |>.1 h
  · rintro rfl; rfl
@[simp] theorem eFiles_eq_nil (a : List FileD) : (eFiles a = []) = (a = []) := by simp [eFiles]
@[simp] theorem nil_eq_eFiles (a : List FileD) : ([] = eFiles a) = (a = []) := by simp [eFiles, eq_comm]
theorem eFiles_snoc (a : List FileD) (p : Str) (t : List Str) : eFiles a ++ [[.str p, .sl 9 1 (eStrs t)]] = eFiles (a ++ [⟨p, t⟩]) := by simp [eFiles, eFile]
theorem eFiles_append (a b : List FileD) : eFiles (a ++ b) = eFiles a ++ eFiles b := by simp [eFiles]
theorem eFiles_take (l : List FileD) (i : Nat) : (eFiles l).take i = eFiles (l.take i) := by simp [eFiles]
theorem eFiles_drop (l : List FileD) (i : Nat) : (eFiles l).drop i = eFiles (l.drop i) := by simp [eFiles]
theorem eFiles_set (l : List FileD) (i : Nat) (p : Str) (t : List Str) : (eFiles l).set i [.str p, .sl 9 1 (eStrs t)] = eFiles (l.set i ⟨p, t⟩) := by simp [eFiles, List.map_set, eFile]
theorem eFiles_rep (n : Nat) : List.replicate n [D.str [], .sl 9 1 []] = eFiles (List.replicate n ⟨[], []⟩) := by simp [eFiles, eFile]

@[simp] theorem FileD.eta (f : FileD) : (⟨f.path, f.text⟩ : FileD) = f := rfl
@[simp] theorem asStr_str (s : Str) : D.asStr (.str s) = s := rfl
@[simp] theorem asRows_sl (e k : Nat) (r : List (List D)) : D.asRows (.sl e k r) = r := rfl
@[simp] theorem asInt_int (k : IntKind) (n : Int) : D.asInt (.int k n) = n := rfl
@[simp] theorem asBool_bool (b : Bool) : D.asBool (.bool b) = b := rfl

theorem cast_succ (a b : Nat) : ((a : Int) = (b : Int) + 1) = (a = b + 1) := by apply propext; omega
theorem cast_eq (a b : Nat) : ((a : Int) = (b : Int)) = (a = b) := by apply propext; omega
theorem cast_zero (a : Nat) : ((a : Int) = 0) = (a = 0) := by apply propext; omega
theorem take_succ' {α : Type} {l : List α} {i : Nat} (h : i < l.length) : l.take (i + 1) = l.take i ++ [l[i]] := List.take_succ_eq_append_getElem h

@[simp] theorem getD_nat (l : Str) (i : Nat) (h : i < l.length) : l.getD i 0 = l[i] := by simp [List.getD_eq_getElem?_getD, h]
theorem all_take {α : Type} {l : List α} {p : α → Bool} {i : Nat} (h : i < l.length) : (l.take (i + 1)).all p = ((l.take i).all p && p l[i]) := by
  rw [take_succ' h, List.all_append]; simp
theorem all_false {α : Type} {l : List α} {p : α → Bool} {i : Nat} (h : i < l.length) (hp : p l[i] = false) : l.all p = false := by
  rw [List.all_eq_false]
  exact ⟨l[i], List.getElem_mem h, by simp [hp]⟩
theorem all_end {α : Type} {l : List α} {p : α → Bool} {i : Nat} (h : l.length ≤ i) (hp : (l.take i).all p = true) : l.all p = true := by
  rwa [List.take_of_length_le h] at hp
theorem eq_take {α : Type} {l r : List α} {i : Nat} (h1 : i < l.length) (h2 : i < r.length) (h : l.take i = r.take i) (he : l[i] = r[i]) : l.take (i + 1) = r.take (i + 1) := by
  rw [take_succ' h1, take_succ' h2, h, he]
theorem eq_end {α : Type} {l r : List α} {i : Nat} (h0 : l.length = r.length) (h1 : l.length ≤ i) (h : l.take i = r.take i) : l = r := by
  rw [List.take_of_length_le h1, List.take_of_length_le (by omega)] at h
  exact h

theorem set_take {α : Type} {o a : List α} {i : Nat} (h1 : i < o.length) (h2 : i < a.length) (h : o.take i = a.take i) : (o.set i a[i]).take (i + 1) = a.take (i + 1) := by
  rw [take_succ' (by simpa using h1), take_succ' h2, List.take_set_of_le (Nat.le_refl i), h]; simp
theorem FileD.eq_iff (a b : FileD) : (a = b) = (a.path = b.path ∧ a.text = b.text) := by
  cases a; cases b; simp

@[simp] theorem FileD.ex1 (p : Str) (x : List Str) (Q : FileD → Prop) : (∃ a : FileD, a.path = p ∧ a.text = x ∧ Q a) = Q ⟨p, x⟩ := by
  apply propext
  constructor
  · rintro ⟨⟨a, b⟩, rfl, rfl, h⟩; exact h
  · intro h; exact ⟨⟨p, x⟩, rfl, rfl, h⟩
@[simp] theorem FileD.ex2 (p : Str) (x : List Str) (Q : FileD → Prop) : (∃ a : FileD, (a.path = p ∧ a.text = x) ∧ Q a) = Q ⟨p, x⟩ := by
  apply propext
  constructor
  · rintro ⟨⟨a, b⟩, ⟨rfl, rfl⟩, h⟩; exact h
  · intro h; exact ⟨⟨p, x⟩, ⟨rfl, rfl⟩, h⟩
theorem cast_one (a : Nat) : ((a : Int) = 1) = (a = 1) := by apply propext; omega

end Vx
end Go.Proofs.YtlhkmgbmnbkaeaaDoor
/-
  Arguments opened; what all rows share.
-/
namespace Go.Proofs.YtlhkmgbmnbkaeaaDoor
open Go.ChangeShapes Go.WideShapes Go.ChangeAt Go.RowKit
namespace Vx

theorem own_knob : ownKnob Tryd.prog.godebug = none := by kernel_rfl
theorem laidOut : laidOutB Tryd.prog = true := by kernel_rfl
theorem tTab_closed : tabOk tTab = true := by decide

theorem shp_strs {T : Nat → Option TI} (hs : ∀ te, T 9 = some te → te.cells = [.str]) {ds : List D} (h : Shp T [.sl 9 1] ds) : ∃ l, ds = [.sl 9 1 (eStrs l)] := by
  cases h with
  | @sl e k te rows ks ds h1 h2 h3 =>
    cases h3
    rw [hs _ h1] at h2
    obtain ⟨l, rfl, _⟩ := rows_map (f := eStr) (p := fun _ => True) (rows := rows) (fun r hr => by
      have := h2 r hr
      cases this with
      | str q1 q2 => cases q2; exact ⟨_, rfl, trivial⟩)
    exact ⟨l, rfl⟩
theorem shp_files {T : Nat → Option TI} (hs : ∀ te, T 9 = some te → te.cells = [.str]) (hf : ∀ te, T 95 = some te → te.cells = [.str, .sl 9 1]) {ds : List D} (h : Shp T [.sl 95 2] ds) :
    ∃ l, ds = [.sl 95 2 (eFiles l)] := by
  cases h with
  | @sl e k te rows ks ds h1 h2 h3 =>
    cases h3
    rw [hf _ h1] at h2
    obtain ⟨l, rfl, _⟩ := rows_map (f := eFile) (p := fun _ => True) (rows := rows) (fun r hr => by
      have := h2 r hr
      cases this with
      | str q1 q2 =>
        obtain ⟨l, rfl⟩ := shp_strs hs q2
        exact ⟨⟨_, l⟩, rfl, trivial⟩)
    exact ⟨l, rfl⟩

section
variable {H : Type} {enc : TypeId × Value → H} {W : World} {sp : Nat → Bool} {held : Bool} {r : Reach} {base : Nat}

set_option maxRecDepth 100000 in
theorem open_files {v : Value} {d : DataW H} {p : List MemPlace} (hu : Tryd.prog.underlying 35 = some (.slice 95)) (hv : Value.okWide Tryd.prog W r base 35 v)
    (h : DataW.Trod enc Tryd.prog W 0 sp held 35 v d p) : ∃ l f, RdL false W [.sl 95 2 (eFiles l)] [v] f := by
  obtain ⟨a, n, c, rfl⟩ := okWide_slice hu hv
  obtain ⟨fuel, hf⟩ := h
  obtain ⟨ds, f, h1, h2⟩ := rd_trod tTab_ok tTab_closed fuel (t := 35) rfl hf
  obtain ⟨l, rfl⟩ := shp_files (fun te ht => by cases ht; rfl) (fun te ht => by cases ht; rfl) h2
  exact ⟨l, f, h1⟩
set_option maxRecDepth 100000 in
theorem open_strs {v : Value} {d : DataW H} {p : List MemPlace} (hu : Tryd.prog.underlying 26 = some (.slice 9)) (hv : Value.okWide Tryd.prog W r base 26 v)
    (h : DataW.Trod enc Tryd.prog W 0 sp held 26 v d p) : ∃ l f, RdL false W [.sl 9 1 (eStrs l)] [v] f := by
  obtain ⟨a, n, c, rfl⟩ := okWide_slice hu hv
  obtain ⟨fuel, hf⟩ := h
  obtain ⟨ds, f, h1, h2⟩ := rd_trod tTab_ok tTab_closed fuel (t := 26) rfl hf
  obtain ⟨l, rfl⟩ := shp_strs (fun te ht => by cases ht; rfl) h2
  exact ⟨l, f, h1⟩
set_option maxRecDepth 100000 in
theorem open_str {v : Value} {d : DataW H} {p : List MemPlace} (hu : Tryd.prog.underlying 9 = some .string) (hv : Value.okWide Tryd.prog W r base 9 v)
    (h : DataW.Trod enc Tryd.prog W 0 sp held 9 v d p) : ∃ l : Str, v = .string ⟨l.toArray⟩ ∧ l.length ≤ maxLen := by
  obtain ⟨s, rfl, _, _, hs⟩ := Go.ChangeMaps.open_string hu hv h
  exact ⟨s.data.toList, by simp, by simpa using hs⟩
end

end Vx
end Go.Proofs.YtlhkmgbmnbkaeaaDoor
/-
  Data of the program's types: numbers, branches, commits, repositories. (Printed by enc.py.)
-/
namespace Go.Proofs.YtlhkmgbmnbkaeaaDoor
namespace Vx

def eInt (n : Int) : List D := [.int .i64 n]
@[simp] theorem eInt_inj (a b : Int) : (eInt a = eInt b) = (a = b) := by simp [eInt]
def eInts (l : List Int) : List (List D) := l.map eInt
@[simp] theorem eInts_length (l : List Int) : (eInts l).length = l.length := by simp [eInts]
@[simp] theorem eInts_nil : eInts [] = [] := rfl
@[simp] theorem eInts_get (l : List Int) (i : Nat) : (eInts l)[i]? = l[i]?.map eInt := by simp [eInts]
@[simp] theorem eInts_getElem (l : List Int) (i : Nat) (h : i < (eInts l).length) : (eInts l)[i] = eInt (l[i]'(by simpa using h)) := by simp [eInts]
@[simp] theorem eInts_inj (a b : List Int) : (eInts a = eInts b) = (a = b) := by
  apply propext
  constructor
  · intro h
    exact List.map_inj_right (fun x y h => by simpa using h) |>.1 h
  · rintro rfl; rfl
@[simp] theorem eInts_eq_nil (a : List Int) : (eInts a = []) = (a = []) := by simp [eInts]
@[simp] theorem nil_eq_eInts (a : List Int) : ([] = eInts a) = (a = []) := by simp [eInts, eq_comm]
theorem eInts_append (a b : List Int) : eInts (a ++ b) = eInts a ++ eInts b := by simp [eInts]
theorem eInts_take (l : List Int) (i : Nat) : (eInts l).take i = eInts (l.take i) := by simp [eInts]
theorem eInts_drop (l : List Int) (i : Nat) : (eInts l).drop i = eInts (l.drop i) := by simp [eInts]
theorem eInts_snoc (a : List Int) (n : Int) : eInts a ++ [[.int .i64 n]] = eInts (a ++ [n]) := by simp [eInts, eInt]
theorem eInts_set (l : List Int) (i : Nat) (n : Int) : (eInts l).set i [.int .i64 n] = eInts (l.set i n) := by simp [eInts, List.map_set, eInt]
theorem eInts_rep (n : Nat) : List.replicate n [D.int .i64 0] = eInts (List.replicate n 0) := by simp [eInts, eInt]
@[simp] theorem eInts_flat (l : List Int) : (∀ x ∈ eInts l, ∀ d ∈ x, flatD d) = True := by
  simp only [eq_iff_iff, iff_true]
  intro x hx d hd
  simp only [eInts, List.mem_map] at hx
  obtain ⟨s, _, rfl⟩ := hx
  simp only [eInt, List.mem_singleton] at hd
  subst hd
  trivial

structure HeadD where
  name : Str
  at_ : Int
  deriving DecidableEq, Inhabited

def eHead (a : HeadD) : List D := [.str a.name, .int .i64 a.at_]
@[simp] theorem eHead_inj (a b : HeadD) : (eHead a = eHead b) = (a = b) := by
  cases a; cases b; simp [eHead]
@[simp] theorem HeadD.eta (a : HeadD) : (⟨a.name, a.at_⟩ : HeadD) = a := rfl
theorem HeadD.eq_iff (a b : HeadD) : (a = b) = (a.name = b.name ∧ a.at_ = b.at_) := by
  cases a; cases b; simp
@[simp] theorem HeadD.ex1 (x_name : Str) (x_at_ : Int) (Q : HeadD → Prop) : (∃ a : HeadD, a.name = x_name ∧ a.at_ = x_at_ ∧ Q a) = Q ⟨x_name, x_at_⟩ := by
  apply propext
  constructor
  · rintro ⟨⟨_, _⟩, rfl, rfl, h⟩; exact h
  · intro h; exact ⟨⟨x_name, x_at_⟩, rfl, rfl, h⟩
@[simp] theorem HeadD.ex2 (x_name : Str) (x_at_ : Int) (Q : HeadD → Prop) : (∃ a : HeadD, (a.name = x_name ∧ a.at_ = x_at_) ∧ Q a) = Q ⟨x_name, x_at_⟩ := by
  apply propext
  constructor
  · rintro ⟨⟨_, _⟩, ⟨rfl, rfl⟩, h⟩; exact h
  · intro h; exact ⟨⟨x_name, x_at_⟩, ⟨rfl, rfl⟩, h⟩
@[simp] theorem HeadD.ex0 (x_name : Str) (x_at_ : Int) : (∃ a : HeadD, a.name = x_name ∧ a.at_ = x_at_) = True := by
  simp only [eq_iff_iff, iff_true]
  exact ⟨⟨x_name, x_at_⟩, rfl, rfl⟩
def eHeads (l : List HeadD) : List (List D) := l.map eHead
@[simp] theorem eHeads_length (l : List HeadD) : (eHeads l).length = l.length := by simp [eHeads]
@[simp] theorem eHeads_nil : eHeads [] = [] := rfl
@[simp] theorem eHeads_get (l : List HeadD) (i : Nat) : (eHeads l)[i]? = l[i]?.map eHead := by simp [eHeads]
@[simp] theorem eHeads_getElem (l : List HeadD) (i : Nat) (h : i < (eHeads l).length) : (eHeads l)[i] = eHead (l[i]'(by simpa using h)) := by simp [eHeads]
@[simp] theorem eHeads_inj (a b : List HeadD) : (eHeads a = eHeads b) = (a = b) := by
  apply propext
  constructor
  · intro h
    exact List.map_inj_right (fun x y h => by simpa using h) |>.1 h
  · rintro rfl; rfl
@[simp] theorem eHeads_eq_nil (a : List HeadD) : (eHeads a = []) = (a = []) := by simp [eHeads]
@[simp] theorem nil_eq_eHeads (a : List HeadD) : ([] = eHeads a) = (a = []) := by simp [eHeads, eq_comm]
theorem eHeads_append (a b : List HeadD) : eHeads (a ++ b) = eHeads a ++ eHeads b := by simp [eHeads]
theorem eHeads_take (l : List HeadD) (i : Nat) : (eHeads l).take i = eHeads (l.take i) := by simp [eHeads]
theorem eHeads_drop (l : List HeadD) (i : Nat) : (eHeads l).drop i = eHeads (l.drop i) := by simp [eHeads]
theorem eHeads_snoc (a : List HeadD) (s : Str) (n : Int) : eHeads a ++ [[.str s, .int .i64 n]] = eHeads (a ++ [⟨s, n⟩]) := by simp [eHeads, eHead]
theorem eHeads_set (l : List HeadD) (i : Nat) (s : Str) (n : Int) : (eHeads l).set i [.str s, .int .i64 n] = eHeads (l.set i ⟨s, n⟩) := by simp [eHeads, List.map_set, eHead]
theorem eHeads_rep (n : Nat) : List.replicate n [D.str [], D.int .i64 0] = eHeads (List.replicate n ⟨[], 0⟩) := by simp [eHeads, eHead]
@[simp] theorem eHeads_flat (l : List HeadD) : (∀ x ∈ eHeads l, ∀ d ∈ x, flatD d) = True := by
  simp only [eq_iff_iff, iff_true]
  intro x hx d hd
  simp only [eHeads, List.mem_map] at hx
  obtain ⟨s, _, rfl⟩ := hx
  simp only [eHead, List.mem_cons, List.not_mem_nil, or_false] at hd
  rcases hd with rfl | rfl <;> trivial

structure CommitD where
  parents : List Int
  who : Str
  tree : List FileD
  deriving DecidableEq, Inhabited

def eCommit (a : CommitD) : List D := [.sl 3 1 (eInts a.parents), .str a.who, .sl 32 2 (eFiles a.tree)]
@[simp] theorem eCommit_inj (a b : CommitD) : (eCommit a = eCommit b) = (a = b) := by
  cases a; cases b; simp [eCommit]
@[simp] theorem CommitD.eta (a : CommitD) : (⟨a.parents, a.who, a.tree⟩ : CommitD) = a := rfl
theorem CommitD.eq_iff (a b : CommitD) : (a = b) = (a.parents = b.parents ∧ a.who = b.who ∧ a.tree = b.tree) := by
  cases a; cases b; simp
@[simp] theorem CommitD.ex1 (x_parents : List Int) (x_who : Str) (x_tree : List FileD) (Q : CommitD → Prop) : (∃ a : CommitD, a.parents = x_parents ∧ a.who = x_who ∧ a.tree = x_tree ∧ Q a) = Q ⟨x_parents, x_who, x_tree⟩ := by
  apply propext
  constructor
  · rintro ⟨⟨_, _, _⟩, rfl, rfl, rfl, h⟩; exact h
  · intro h; exact ⟨⟨x_parents, x_who, x_tree⟩, rfl, rfl, rfl, h⟩
@[simp] theorem CommitD.ex2 (x_parents : List Int) (x_who : Str) (x_tree : List FileD) (Q : CommitD → Prop) : (∃ a : CommitD, (a.parents = x_parents ∧ a.who = x_who ∧ a.tree = x_tree) ∧ Q a) = Q ⟨x_parents, x_who, x_tree⟩ := by
  apply propext
  constructor
  · rintro ⟨⟨_, _, _⟩, ⟨rfl, rfl, rfl⟩, h⟩; exact h
  · intro h; exact ⟨⟨x_parents, x_who, x_tree⟩, ⟨rfl, rfl, rfl⟩, h⟩
@[simp] theorem CommitD.ex0 (x_parents : List Int) (x_who : Str) (x_tree : List FileD) : (∃ a : CommitD, a.parents = x_parents ∧ a.who = x_who ∧ a.tree = x_tree) = True := by
  simp only [eq_iff_iff, iff_true]
  exact ⟨⟨x_parents, x_who, x_tree⟩, rfl, rfl, rfl⟩
def eCommits (l : List CommitD) : List (List D) := l.map eCommit
@[simp] theorem eCommits_length (l : List CommitD) : (eCommits l).length = l.length := by simp [eCommits]
@[simp] theorem eCommits_nil : eCommits [] = [] := rfl
@[simp] theorem eCommits_get (l : List CommitD) (i : Nat) : (eCommits l)[i]? = l[i]?.map eCommit := by simp [eCommits]
@[simp] theorem eCommits_getElem (l : List CommitD) (i : Nat) (h : i < (eCommits l).length) : (eCommits l)[i] = eCommit (l[i]'(by simpa using h)) := by simp [eCommits]
@[simp] theorem eCommits_inj (a b : List CommitD) : (eCommits a = eCommits b) = (a = b) := by
  apply propext
  constructor
  · intro h
    exact List.map_inj_right (fun x y h => by simpa using h) |>.1 h
  · rintro rfl; rfl
@[simp] theorem eCommits_eq_nil (a : List CommitD) : (eCommits a = []) = (a = []) := by simp [eCommits]
@[simp] theorem nil_eq_eCommits (a : List CommitD) : ([] = eCommits a) = (a = []) := by simp [eCommits, eq_comm]
theorem eCommits_append (a b : List CommitD) : eCommits (a ++ b) = eCommits a ++ eCommits b := by simp [eCommits]
theorem eCommits_take (l : List CommitD) (i : Nat) : (eCommits l).take i = eCommits (l.take i) := by simp [eCommits]
theorem eCommits_drop (l : List CommitD) (i : Nat) : (eCommits l).drop i = eCommits (l.drop i) := by simp [eCommits]
theorem eCommits_snoc (a : List CommitD) (p : List Int) (w : Str) (t : List FileD) : eCommits a ++ [[.sl 3 1 (eInts p), .str w, .sl 32 2 (eFiles t)]] = eCommits (a ++ [⟨p, w, t⟩]) := by simp [eCommits, eCommit]
theorem eCommits_set (l : List CommitD) (i : Nat) (p : List Int) (w : Str) (t : List FileD) : (eCommits l).set i [.sl 3 1 (eInts p), .str w, .sl 32 2 (eFiles t)] = eCommits (l.set i ⟨p, w, t⟩) := by simp [eCommits, List.map_set, eCommit]
theorem eCommits_rep (n : Nat) : List.replicate n [D.sl 3 1 [], D.str [], D.sl 32 2 []] = eCommits (List.replicate n ⟨[], [], []⟩) := by simp [eCommits, eCommit]

structure RepoD where
  commits : List CommitD
  heads : List HeadD
  deriving DecidableEq, Inhabited

def eRepo (a : RepoD) : List D := [.sl 127 3 (eCommits a.commits), .sl 114 2 (eHeads a.heads)]
@[simp] theorem eRepo_inj (a b : RepoD) : (eRepo a = eRepo b) = (a = b) := by
  cases a; cases b; simp [eRepo]
@[simp] theorem RepoD.eta (a : RepoD) : (⟨a.commits, a.heads⟩ : RepoD) = a := rfl
theorem RepoD.eq_iff (a b : RepoD) : (a = b) = (a.commits = b.commits ∧ a.heads = b.heads) := by
  cases a; cases b; simp
@[simp] theorem RepoD.ex1 (x_commits : List CommitD) (x_heads : List HeadD) (Q : RepoD → Prop) : (∃ a : RepoD, a.commits = x_commits ∧ a.heads = x_heads ∧ Q a) = Q ⟨x_commits, x_heads⟩ := by
  apply propext
  constructor
  · rintro ⟨⟨_, _⟩, rfl, rfl, h⟩; exact h
  · intro h; exact ⟨⟨x_commits, x_heads⟩, rfl, rfl, h⟩
@[simp] theorem RepoD.ex2 (x_commits : List CommitD) (x_heads : List HeadD) (Q : RepoD → Prop) : (∃ a : RepoD, (a.commits = x_commits ∧ a.heads = x_heads) ∧ Q a) = Q ⟨x_commits, x_heads⟩ := by
  apply propext
  constructor
  · rintro ⟨⟨_, _⟩, ⟨rfl, rfl⟩, h⟩; exact h
  · intro h; exact ⟨⟨x_commits, x_heads⟩, ⟨rfl, rfl⟩, h⟩
@[simp] theorem RepoD.ex0 (x_commits : List CommitD) (x_heads : List HeadD) : (∃ a : RepoD, a.commits = x_commits ∧ a.heads = x_heads) = True := by
  simp only [eq_iff_iff, iff_true]
  exact ⟨⟨x_commits, x_heads⟩, rfl, rfl⟩
def lCommit (a : CommitD) : List D := [.sl 3 1 (eInts a.parents), .str a.who, .sl 95 2 (eFiles a.tree)]
@[simp] theorem lCommit_inj (a b : CommitD) : (lCommit a = lCommit b) = (a = b) := by
  cases a; cases b; simp [lCommit]
def lCommits (l : List CommitD) : List (List D) := l.map lCommit
@[simp] theorem lCommits_length (l : List CommitD) : (lCommits l).length = l.length := by simp [lCommits]
@[simp] theorem lCommits_nil : lCommits [] = [] := rfl
@[simp] theorem lCommits_get (l : List CommitD) (i : Nat) : (lCommits l)[i]? = l[i]?.map lCommit := by simp [lCommits]
@[simp] theorem lCommits_getElem (l : List CommitD) (i : Nat) (h : i < (lCommits l).length) : (lCommits l)[i] = lCommit (l[i]'(by simpa using h)) := by simp [lCommits]
@[simp] theorem lCommits_inj (a b : List CommitD) : (lCommits a = lCommits b) = (a = b) := by
  apply propext
  constructor
  · intro h
    exact List.map_inj_right (fun x y h => by simpa using h) |>.1 h
  · rintro rfl; rfl
@[simp] theorem lCommits_eq_nil (a : List CommitD) : (lCommits a = []) = (a = []) := by simp [lCommits]
@[simp] theorem nil_eq_lCommits (a : List CommitD) : ([] = lCommits a) = (a = []) := by simp [lCommits, eq_comm]
theorem lCommits_append (a b : List CommitD) : lCommits (a ++ b) = lCommits a ++ lCommits b := by simp [lCommits]
theorem lCommits_take (l : List CommitD) (i : Nat) : (lCommits l).take i = lCommits (l.take i) := by simp [lCommits]
theorem lCommits_drop (l : List CommitD) (i : Nat) : (lCommits l).drop i = lCommits (l.drop i) := by simp [lCommits]
theorem lCommits_snoc (a : List CommitD) (p : List Int) (w : Str) (t : List FileD) : lCommits a ++ [[.sl 3 1 (eInts p), .str w, .sl 95 2 (eFiles t)]] = lCommits (a ++ [⟨p, w, t⟩]) := by simp [lCommits, lCommit]
theorem lCommits_set (l : List CommitD) (i : Nat) (p : List Int) (w : Str) (t : List FileD) : (lCommits l).set i [.sl 3 1 (eInts p), .str w, .sl 95 2 (eFiles t)] = lCommits (l.set i ⟨p, w, t⟩) := by simp [lCommits, List.map_set, lCommit]
abbrev lRepo (r : RepoD) : AV := .agg [.sl true 3 (lCommits r.commits), .sl true 2 (eHeads r.heads)]
abbrev vRepo (r : RepoD) : AV := .agg [.sl true 3 (eCommits r.commits), .sl true 2 (eHeads r.heads)]
abbrev ownInts (h : Nat) (a : List Int) : List (Nat × Blk) := [(h, .own 3 1 true (eInts a))]
abbrev ownHeads (h : Nat) (a : List HeadD) : List (Nat × Blk) := [(h, .own 114 2 true (eHeads a))]
abbrev ownCommits (h : Nat) (a : List CommitD) : List (Nat × Blk) := [(h, .own 127 3 true (eCommits a))]

end Vx
end Go.Proofs.YtlhkmgbmnbkaeaaDoor
/-
  Contracts: draws (l30Open, pick, of, one).
-/
namespace Go.Proofs.YtlhkmgbmnbkaeaaDoor
namespace Vx
open Go.RowKit
set_option maxRecDepth 8000

def eByte (b : UInt8) : List D := [.int .u8 b.toNat]
def eBytes (s : Str) : List (List D) := s.map eByte
@[simp] theorem eBytes_length (l : Str) : (eBytes l).length = l.length := by simp -implicitDefEqProofs [eBytes]
@[simp] theorem eBytes_get (l : Str) (i : Nat) : (eBytes l)[i]? = l[i]?.map eByte := by simp -implicitDefEqProofs [eBytes]
theorem eBytes_take (l : Str) (i : Nat) : (eBytes l).take i = eBytes (l.take i) := by simp -implicitDefEqProofs [eBytes]
@[simp] theorem eByte_inj (a b : UInt8) : (eByte a = eByte b) = (a = b) := by
  simp only [eByte, List.cons.injEq, D.int.injEq, true_and, and_true, eq_iff_iff]
  constructor
  · intro h; exact UInt8.toNat_inj.1 (by omega)
  · rintro rfl; rfl
@[simp] theorem eBytes_inj (a b : Str) : (eBytes a = eBytes b) = (a = b) := by
  apply propext
  constructor
  · intro h
    exact List.map_inj_right (fun x y h => by simpa using h) |>.1 h
  · rintro rfl; rfl
@[simp] theorem eBytes_all (l : Str) (f : List D → Bool) : (eBytes l).all f = l.all fun b => f (eByte b) := by simp -implicitDefEqProofs [eBytes, Function.comp_def]
theorem all_true (l : Str) : (l.all fun _ => true) = true := by simp
abbrev rdBox (s : Str) (p : Int) : Blk := .box 134 [.sl true 1 (eBytes s), .int .i64 p]

def cL30Open : Con := .fn 11 Str (fun s => [.sl true 1 (eBytes s)]) (fun _ => True) (fun _ => .ptr 8 0) (fun s => [(8, rdBox (s.take 2000) 0)])
set_option maxHeartbeats 4000000 in
theorem l30Open_has : Has Tryd.prog 67 cL30Open := by
  refine has_walk mixed tTab_ok (l := []) HasL.nil [0, 2] ((fun a n (_ : Nat) => (fun _ => noInv) a n)) [] Tryd.func67 (by kernel_rfl) (code := _) (by unfold Tryd.f67; rfl) (by kernel_rfl) (by decide) (fun _ => ⟨(), trivial⟩) (by intro h; first | exact fun _ => rfl | cases h) (by kernel_rfl) ?_
  intro (s : Str) _
  simp -implicitDefEqProofs [vc_skip, extOf, vc_seq, vc_cond, vc_block, vc_exit, vc_ret, vc_region, vc_regionD, vc_loop, kSeq_normal, kSeq_ret, kSeq_exit, kBlock_normal, kBlock_ret, kBlock_exit, kLoop_normal, kLoop_ret, kLoop_exit, kCond_bool, kNorm_app, vcOps_nil, vcOps_cons, kOps_app, kStep_some, kStep_none, vcDL_nil, vcDL_cons, kOpsD_app, kStepD_true, kStepD_false, kStepC_some, kStepC_none, kMv_app, act3_store, act3_call, act3_bs, kAct_app, kSt2_app, stealSlots, stealL, stealOne, subIn, AV.stolen, act_store, act_bs, act_append, act_call, kSet_app, kSet2_app, kSetG_app, kSetG_app0, kStore_ptr, kStore_eptr, kCallW_some, kCallC_some, kCall_some, wk_T, wk_n, wk_keep, wk_inv, wk_act, wk_dr, wk_le, aCalm, wantC, dstOk, calm, aCallK, aCall3K, subOf, subRep, aCall2K, apnd, bsMove, putBox, putOwn, partAV, mvL, AV.mv, AV.base, AV.moved, AV.src, TI.flat, apSize, pickAV, St.val, St.cond, St.fn, St.next, St.set, St.trim, wipe_eq, wipeE_app, wipeM_app, pickEnv, get?, cGet, upd_app, withPuts, killAll, rm, freshP, Oper.hnd, Sc.st, ofConst, constOk, lenAV, elemLen, loadAV, ldL, ld1, fieldAddrAV, indexAddrAV, sliceAV, convAV, buildAV, fillAV, fieldAV, Out.of, binAV, AV.rows, AV.one, AV.cells, AV.deepOk, AV.toD, toDs, partRows, partRowsM, partsDeep, TK.zeroAV, TK.zeroD, byteOf, inR, Op.operands, Call.operands, passVs, passV, passL, pass1, passB, pasVs, pasV, pasL, pas1, ownsOk, okHs, okHs2, okFin, finOk2, rho, over, backRes, backAV, backAV1, backBlk, putBack, back2, back2_V, back2_1, m2, AV.wipe, AV.wipeV, AV.wipe1, Blk.wipe, AV.hs, AV.hs.hsL, alOps, Con.start2, Con.pk, bodyQ, fini, resAV, resA, firstId, Sc.from, renEnv, renT, renV, renVs, renL, ren1, renBox, renOwn, okRen, clOf, actB, setRow, flatRows, flatD, noInv, shr_nil, shr_some, kStepF_some, shareL, AV.viewed, AV.viewed1, cL30Open, Con.fn, tTab, eBytes_take]
  exact fun _ => ⟨fun h => by omega, fun h => List.take_of_length_le (by omega)⟩

theorem xor_nn {a b : Int} (h1 : 0 ≤ a) (h2 : a < 4611686018427387904) (h3 : 0 ≤ b) (h4 : b < 4611686018427387904) : 0 ≤ bitOp .xor .i64 a b := by
  unfold bitOp
  simp only []
  rw [BitVec.toNat_xor, BitVec.toNat_ofInt, BitVec.toNat_ofInt]
  have e1 : (a % ((2 ^ (IntKind.i64).bits : Nat) : Int)).toNat < 2 ^ 62 := by
    have : a % ((2 ^ (IntKind.i64).bits : Nat) : Int) = a := Int.emod_eq_of_lt h1 (by show a < (((2 : Nat) ^ 64 : Nat) : Int); omega)
    rw [this]; omega
  have e2 : (b % ((2 ^ (IntKind.i64).bits : Nat) : Int)).toNat < 2 ^ 62 := by
    have : b % ((2 ^ (IntKind.i64).bits : Nat) : Int) = b := Int.emod_eq_of_lt h3 (by show b < (((2 : Nat) ^ 64 : Nat) : Int); omega)
    rw [this]; omega
  have e3 := Nat.xor_lt_two_pow e1 e2
  rw [wrap_inR (by simp only [inR]; omega)]
  omega
def cPick : Con := { A := (Str × Int) × Int, X := Int, n := 99, args := fun a => [.ptr 0 0, .int .i64 a.2], boxes := fun a => [(0, 134, [.sl true 1 (eBytes a.1.1), .int .i64 a.1.2])], pre := fun a => a.1.1.length ≤ 2000 ∧ 0 ≤ a.1.2 ∧ a.1.2 ≤ 1073741824 ∧ a.2 ≤ 1073741824, post := fun a x => (a.2 < 1 → x = 0) ∧ (1 ≤ a.2 → 0 ≤ x ∧ x < a.2), res := fun _ x => .int .i64 x, fin := fun a _ => [(0, rdBox a.1.1 (a.1.2 + 1))], nob := false }
set_option maxHeartbeats 4000000 in
theorem pick_has : Has Tryd.prog 110 cPick := by
  refine has_walk mixed tTab_ok (l := []) HasL.nil [0, 1, 4, 5, 6] ((fun a n (_ : Nat) => (fun _ => noInv) a n)) [] Tryd.func110 (by kernel_rfl) (code := _) (by unfold Tryd.f110; rfl) (by kernel_rfl) (by decide) (fun a => ⟨(0 : Int), fun _ => rfl, fun h => ⟨Int.le_refl 0, by omega⟩⟩) (by intro h; first | exact fun _ => rfl | cases h) (by kernel_rfl) ?_
  intro a ha
  obtain ⟨⟨s, p⟩, n⟩ := a
  obtain ⟨h1, h2, h3, h4⟩ : s.length ≤ 2000 ∧ 0 ≤ p ∧ p ≤ 1073741824 ∧ n ≤ 1073741824 := ha
  simp -implicitDefEqProofs [vc_skip, extOf, vc_seq, vc_cond, vc_block, vc_exit, vc_ret, vc_region, vc_regionD, vc_loop, kSeq_normal, kSeq_ret, kSeq_exit, kBlock_normal, kBlock_ret, kBlock_exit, kLoop_normal, kLoop_ret, kLoop_exit, kCond_bool, kNorm_app, vcOps_nil, vcOps_cons, kOps_app, kStep_some, kStep_none, vcDL_nil, vcDL_cons, kOpsD_app, kStepD_true, kStepD_false, kStepC_some, kStepC_none, kMv_app, act3_store, act3_call, act3_bs, kAct_app, kSt2_app, stealSlots, stealL, stealOne, subIn, AV.stolen, act_store, act_bs, act_append, act_call, kSet_app, kSet2_app, kSetG_app, kSetG_app0, kStore_ptr, kStore_eptr, kCallW_some, kCallC_some, kCall_some, wk_T, wk_n, wk_keep, wk_inv, wk_act, wk_dr, wk_le, aCalm, wantC, dstOk, calm, aCallK, aCall3K, subOf, subRep, aCall2K, apnd, bsMove, putBox, putOwn, partAV, mvL, AV.mv, AV.base, AV.moved, AV.src, TI.flat, apSize, pickAV, St.val, St.cond, St.fn, St.next, St.set, St.trim, wipe_eq, wipeE_app, wipeM_app, pickEnv, get?, cGet, upd_app, withPuts, killAll, rm, freshP, Oper.hnd, Sc.st, ofConst, constOk, lenAV, elemLen, loadAV, ldL, ld1, fieldAddrAV, indexAddrAV, sliceAV, convAV, buildAV, fillAV, fieldAV, Out.of, binAV, AV.rows, AV.one, AV.cells, AV.deepOk, AV.toD, toDs, partRows, partRowsM, partsDeep, TK.zeroAV, TK.zeroD, byteOf, inR, Op.operands, Call.operands, passVs, passV, passL, pass1, passB, pasVs, pasV, pasL, pas1, ownsOk, okHs, okHs2, okFin, finOk2, rho, over, backRes, backAV, backAV1, backBlk, putBack, back2, back2_V, back2_1, m2, AV.wipe, AV.wipeV, AV.wipe1, Blk.wipe, AV.hs, AV.hs.hsL, alOps, Con.start2, Con.pk, bodyQ, fini, resAV, resA, firstId, Sc.from, renEnv, renT, renV, renVs, renL, ren1, renBox, renOwn, okRen, clOf, actB, setRow, flatRows, flatD, noInv, shr_nil, shr_some, kStepF_some, shareL, AV.viewed, AV.viewed1, cPick, tTab]
  have e : ∀ q : Int, 0 ≤ q → q < s.length → ∃ b : Nat, b < 256 ∧ Option.map eByte s[q.toNat]? = some [.int .u8 b] := fun q a b => by
    have hq : q.toNat < s.length := by omega
    exact ⟨s[q.toNat].toNat, s[q.toNat].toNat_lt, by simp -implicitDefEqProofs [List.getElem?_eq_getElem hq, eByte]⟩
  refine ⟨by omega, fun _ _ => ⟨fun a b => by omega, fun hn _ => ⟨fun _ _ => by omega, fun hs => ⟨by omega, fun _ _ _ => ⟨fun hp => ?_, fun hp => ?_⟩⟩⟩⟩⟩
  · obtain ⟨b, hb, eb⟩ := e p h2 hp
    have t1 := Int.tmod_nonneg n (a := (b : Int)) (by omega)
    have t2 := Int.tmod_lt_of_pos (b : Int) (b := n) (by omega)
    simp -implicitDefEqProofs [eb]
    omega
  · have hl : 0 < s.length := List.length_pos_iff.2 hs
    have hL : (0 : Int) < (s.length : Int) := by omega
    have t1 := Int.tmod_nonneg (s.length : Int) (a := p) h2
    have t2 := Int.tmod_lt_of_pos p hL
    have t3 := Int.tmod_nonneg (s.length : Int) (a := p * 7 + 3) (by omega)
    have t4 := Int.tmod_lt_of_pos (p * 7 + 3) hL
    have t5 := Int.tdiv_nonneg h2 (Int.le_of_lt hL)
    have t6 : p.tdiv (s.length : Int) ≤ p := by
      have := Int.natAbs_tdiv_le_natAbs p (s.length : Int)
      omega
    obtain ⟨b1, hb1, eb1⟩ := e _ t1 t2
    obtain ⟨b2, hb2, eb2⟩ := e _ t3 t4
    simp -implicitDefEqProofs [eb1, eb2]
    generalize p.tdiv (s.length : Int) = d at t5 t6 ⊢
    generalize p.tmod (s.length : Int) = m1 at t1 t2 ⊢
    generalize (p * 7 + 3).tmod (s.length : Int) = m2 at t3 t4 ⊢
    have t7 := Int.tdiv_nonneg (a := (b1 * 131 + b2 * 1117 + p * 29 + d * 53 : Int)) (b := 64) (by omega) (by omega)
    have t8 : (b1 * 131 + b2 * 1117 + p * 29 + d * 53 : Int).tdiv 64 ≤ b1 * 131 + b2 * 1117 + p * 29 + d * 53 := by
      have := Int.natAbs_tdiv_le_natAbs (b1 * 131 + b2 * 1117 + p * 29 + d * 53 : Int) 64
      omega
    have t9 := xor_nn (a := (b1 * 131 + b2 * 1117 + p * 29 + d * 53 : Int)) (b := (b1 * 131 + b2 * 1117 + p * 29 + d * 53 : Int).tdiv 64) (by omega) (by omega) (by omega) (by omega)
    generalize (b1 * 131 + b2 * 1117 + p * 29 + d * 53 : Int).tdiv 64 = y at t7 t8 t9 ⊢
    generalize bitOp .xor .i64 (b1 * 131 + b2 * 1117 + p * 29 + d * 53 : Int) y = z at t9 ⊢
    have t10 := Int.tmod_nonneg n t9
    have t11 := Int.tmod_lt_of_pos z (b := n) (by omega)
    clear e eb1 eb2
    repeat' (first | intro _ | apply And.intro)
    all_goals first | omega | assumption | contradiction

theorem headD_mem {α : Type} {d : α} {l : List α} (h : l ≠ []) : l.headD d ∈ l := by
  cases l with
  | nil => exact absurd rfl h
  | cons x r => simp
def cOf : Con := { A := (Str × Int) × List Str, X := Str, n := 12, args := fun a => [.ptr 0 0, .sl true 1 (eStrs a.2)], boxes := fun a => [(0, 134, [.sl true 1 (eBytes a.1.1), .int .i64 a.1.2])], pre := fun a => a.1.1.length ≤ 2000 ∧ 0 ≤ a.1.2 ∧ a.1.2 ≤ 1073741824 ∧ a.2 ≠ [] ∧ a.2.length ≤ 1073741824, post := fun a x => a.2 ≠ [] → x ∈ a.2, res := fun _ x => .str x, fin := fun a _ => [(0, rdBox a.1.1 (a.1.2 + 1))], nob := false, kindly := true }
set_option maxHeartbeats 4000000 in
theorem of_has : Has Tryd.prog 69 cOf := by
  refine has_walk mixed tTab_ok (l := [(110, cPick)]) (HasL.cons pick_has HasL.nil) [0, 1, 4] ((fun a n (_ : Nat) => (fun _ => noInv) a n)) [] Tryd.func69 (by kernel_rfl) (code := _) (by unfold Tryd.f69; rfl) (by kernel_rfl) (by decide) (fun a => ⟨a.2.headD [], fun h => headD_mem h⟩) (by intro h; first | exact fun _ => rfl | cases h) (by kernel_rfl) ?_
  intro a ha
  obtain ⟨⟨s, p⟩, l⟩ := a
  obtain ⟨h1, h2, h3, h4, h5⟩ : s.length ≤ 2000 ∧ 0 ≤ p ∧ p ≤ 1073741824 ∧ l ≠ [] ∧ l.length ≤ 1073741824 := ha
  have hl : 0 < l.length := List.length_pos_iff.2 h4
  simp -implicitDefEqProofs [vc_skip, extOf, vc_seq, vc_cond, vc_block, vc_exit, vc_ret, vc_region, vc_regionD, vc_loop, kSeq_normal, kSeq_ret, kSeq_exit, kBlock_normal, kBlock_ret, kBlock_exit, kLoop_normal, kLoop_ret, kLoop_exit, kCond_bool, kNorm_app, vcOps_nil, vcOps_cons, kOps_app, kStep_some, kStep_none, vcDL_nil, vcDL_cons, kOpsD_app, kStepD_true, kStepD_false, kStepC_some, kStepC_none, kMv_app, act3_store, act3_call, act3_bs, kAct_app, kSt2_app, stealSlots, stealL, stealOne, subIn, AV.stolen, act_store, act_bs, act_append, act_call, kSet_app, kSet2_app, kSetG_app, kSetG_app0, kStore_ptr, kStore_eptr, kCallW_some, kCallC_some, kCall_some, wk_T, wk_n, wk_keep, wk_inv, wk_act, wk_dr, wk_le, aCalm, wantC, dstOk, calm, aCallK, aCall3K, subOf, subRep, aCall2K, apnd, bsMove, putBox, putOwn, partAV, mvL, AV.mv, AV.base, AV.moved, AV.src, TI.flat, apSize, pickAV, St.val, St.cond, St.fn, St.next, St.set, St.trim, wipe_eq, wipeE_app, wipeM_app, pickEnv, get?, cGet, upd_app, withPuts, killAll, rm, freshP, Oper.hnd, Sc.st, ofConst, constOk, lenAV, elemLen, loadAV, ldL, ld1, fieldAddrAV, indexAddrAV, sliceAV, convAV, buildAV, fillAV, fieldAV, Out.of, binAV, AV.rows, AV.one, AV.cells, AV.deepOk, AV.toD, toDs, partRows, partRowsM, partsDeep, TK.zeroAV, TK.zeroD, byteOf, inR, Op.operands, Call.operands, passVs, passV, passL, pass1, passB, pasVs, pasV, pasL, pas1, ownsOk, okHs, okHs2, okFin, finOk2, rho, over, backRes, backAV, backAV1, backBlk, putBack, back2, back2_V, back2_1, m2, AV.wipe, AV.wipeV, AV.wipe1, Blk.wipe, AV.hs, AV.hs.hsL, alOps, Con.start2, Con.pk, bodyQ, fini, resAV, resA, firstId, Sc.from, renEnv, renT, renV, renVs, renL, ren1, renBox, renOwn, okRen, clOf, actB, setRow, flatRows, flatD, noInv, shr_nil, shr_some, kStepF_some, shareL, AV.viewed, AV.viewed1, cOf, cPick, tTab]
  refine fun _ => ⟨s, p, ⟨rfl, rfl⟩, ⟨h1, h2, h3, by omega⟩, fun y _ hy2 => ?_⟩
  obtain ⟨k1, k2⟩ := hy2 (by omega)
  have hk : y.toNat < l.length := by omega
  have e : Option.map eStr l[y.toNat]? = some (eStr l[y.toNat]) := by simp -implicitDefEqProofs [List.getElem?_eq_getElem hk]
  simp -implicitDefEqProofs [e, eStr, k1, k2]

def cOne : Con := { A := (Str × Int) × List Int, X := Int, n := 12, args := fun a => [.ptr 0 0, .sl true 1 (eInts a.2)], boxes := fun a => [(0, 134, [.sl true 1 (eBytes a.1.1), .int .i64 a.1.2])], pre := fun a => a.1.1.length ≤ 2000 ∧ 0 ≤ a.1.2 ∧ a.1.2 ≤ 1073741824 ∧ a.2 ≠ [] ∧ a.2.length ≤ 1073741824, post := fun a x => a.2 ≠ [] → x ∈ a.2, res := fun _ x => .int .i64 x, fin := fun a _ => [(0, rdBox a.1.1 (a.1.2 + 1))], nob := false, kindly := true }
set_option maxHeartbeats 4000000 in
theorem one_has : Has Tryd.prog 167 cOne := by
  refine has_walk mixed tTab_ok (l := [(110, cPick)]) (HasL.cons pick_has HasL.nil) [0, 1, 4] ((fun a n (_ : Nat) => (fun _ => noInv) a n)) [] Tryd.func167 (by kernel_rfl) (code := _) (by unfold Tryd.f167; rfl) (by kernel_rfl) (by decide) (fun a => ⟨a.2.headD 0, fun h => headD_mem h⟩) (by intro h; first | exact fun _ => rfl | cases h) (by kernel_rfl) ?_
  intro a ha
  obtain ⟨⟨s, p⟩, l⟩ := a
  obtain ⟨h1, h2, h3, h4, h5⟩ : s.length ≤ 2000 ∧ 0 ≤ p ∧ p ≤ 1073741824 ∧ l ≠ [] ∧ l.length ≤ 1073741824 := ha
  have hl : 0 < l.length := List.length_pos_iff.2 h4
  simp -implicitDefEqProofs [vc_skip, extOf, vc_seq, vc_cond, vc_block, vc_exit, vc_ret, vc_region, vc_regionD, vc_loop, kSeq_normal, kSeq_ret, kSeq_exit, kBlock_normal, kBlock_ret, kBlock_exit, kLoop_normal, kLoop_ret, kLoop_exit, kCond_bool, kNorm_app, vcOps_nil, vcOps_cons, kOps_app, kStep_some, kStep_none, vcDL_nil, vcDL_cons, kOpsD_app, kStepD_true, kStepD_false, kStepC_some, kStepC_none, kMv_app, act3_store, act3_call, act3_bs, kAct_app, kSt2_app, stealSlots, stealL, stealOne, subIn, AV.stolen, act_store, act_bs, act_append, act_call, kSet_app, kSet2_app, kSetG_app, kSetG_app0, kStore_ptr, kStore_eptr, kCallW_some, kCallC_some, kCall_some, wk_T, wk_n, wk_keep, wk_inv, wk_act, wk_dr, wk_le, aCalm, wantC, dstOk, calm, aCallK, aCall3K, subOf, subRep, aCall2K, apnd, bsMove, putBox, putOwn, partAV, mvL, AV.mv, AV.base, AV.moved, AV.src, TI.flat, apSize, pickAV, St.val, St.cond, St.fn, St.next, St.set, St.trim, wipe_eq, wipeE_app, wipeM_app, pickEnv, get?, cGet, upd_app, withPuts, killAll, rm, freshP, Oper.hnd, Sc.st, ofConst, constOk, lenAV, elemLen, loadAV, ldL, ld1, fieldAddrAV, indexAddrAV, sliceAV, convAV, buildAV, fillAV, fieldAV, Out.of, binAV, AV.rows, AV.one, AV.cells, AV.deepOk, AV.toD, toDs, partRows, partRowsM, partsDeep, TK.zeroAV, TK.zeroD, byteOf, inR, Op.operands, Call.operands, passVs, passV, passL, pass1, passB, pasVs, pasV, pasL, pas1, ownsOk, okHs, okHs2, okFin, finOk2, rho, over, backRes, backAV, backAV1, backBlk, putBack, back2, back2_V, back2_1, m2, AV.wipe, AV.wipeV, AV.wipe1, Blk.wipe, AV.hs, AV.hs.hsL, alOps, Con.start2, Con.pk, bodyQ, fini, resAV, resA, firstId, Sc.from, renEnv, renT, renV, renVs, renL, ren1, renBox, renOwn, okRen, clOf, actB, setRow, flatRows, flatD, noInv, shr_nil, shr_some, kStepF_some, shareL, AV.viewed, AV.viewed1, cOne, cPick, tTab]
  refine fun _ => ⟨s, p, ⟨rfl, rfl⟩, ⟨h1, h2, h3, by omega⟩, fun y _ hy2 => ?_⟩
  obtain ⟨k1, k2⟩ := hy2 (by omega)
  have hk : y.toNat < l.length := by omega
  have e : Option.map eInt l[y.toNat]? = some (eInt l[y.toNat]) := by simp -implicitDefEqProofs [List.getElem?_eq_getElem hk]
  simp -implicitDefEqProofs [e, eInt, k1, k2]

end Vx
end Go.Proofs.YtlhkmgbmnbkaeaaDoor
/-
  Arguments opened: bytes.
-/
namespace Go.Proofs.YtlhkmgbmnbkaeaaDoor
open Go.ChangeShapes Go.WideShapes Go.ChangeAt Go.RowKit
namespace Vx

theorem shp_bytes {T : Nat → Option TI} (hs : ∀ te, T 5 = some te → te.cells = [.int .u8]) {ds : List D} (h : Shp T [.sl 5 1] ds) : ∃ l, ds = [.sl 5 1 (eBytes l)] := by
  cases h with
  | @sl e k te rows ks ds h1 h2 h3 =>
    cases h3
    rw [hs _ h1] at h2
    obtain ⟨l, rfl, _⟩ := rows_map (f := eByte) (p := fun _ => True) (rows := rows) (fun r hr => by
      have := h2 r hr
      cases this with
      | @int k n _ _ q1 q2 =>
        cases q2
        have q3 : IntKind.u8.min ≤ n ∧ n ≤ IntKind.u8.max := by simpa only [Lit.wf, Bool.and_eq_true, decide_eq_true_eq] using q1
        have q4 : IntKind.u8.min = 0 := rfl
        have q5 : IntKind.u8.max = 255 := rfl
        rw [q4, q5] at q3
        refine ⟨UInt8.ofNat n.toNat, ?_, trivial⟩
        have : (UInt8.ofNat n.toNat).toNat = n.toNat := by rw [UInt8.toNat_ofNat']; omega
        simp only [eByte, this]
        congr 2
        omega)
    exact ⟨l, rfl⟩

section
variable {H : Type} {enc : TypeId × Value → H} {W : World} {sp : Nat → Bool} {held : Bool} {r : Reach} {base : Nat}
set_option maxRecDepth 100000 in
theorem open_bytes {v : Value} {d : DataW H} {p : List MemPlace} (hu : Tryd.prog.underlying 22 = some (.slice 5)) (hv : Value.okWide Tryd.prog W r base 22 v)
    (h : DataW.Trod enc Tryd.prog W 0 sp held 22 v d p) : ∃ l f, RdL false W [.sl 5 1 (eBytes l)] [v] f := by
  obtain ⟨a, n, c, rfl⟩ := okWide_slice hu hv
  obtain ⟨fuel, hf⟩ := h
  obtain ⟨ds, f, h1, h2⟩ := rd_trod tTab_ok tTab_closed fuel (t := 22) rfl hf
  obtain ⟨l, rfl⟩ := shp_bytes (fun te ht => by cases ht; rfl) h2
  exact ⟨l, f, h1⟩
end

end Vx
end Go.Proofs.YtlhkmgbmnbkaeaaDoor
/-
  slices.Insert at elements of two cells: the library's text, walked: in place, and into a new row.
-/
set_option linter.unusedVariables false
set_option linter.unusedSimpArgs false
namespace Go.Proofs.YtlhkmgbmnbkaeaaDoor
namespace Vx
open Go.RowKit Go.Lib

theorem run_copy_cells_k {P : Program} (k : Nat) (w : World) (dT sT ty elem : TypeId) (b o dLen dCap : Nat) (a : Addr) (sLen sCap : Nat) (cs : List Value)
    (hu : P.underlying dT = some (.slice elem)) (hs : (P.info? elem).map (·.size) = some k) (hn : cs.length = Nat.min sLen dLen * k)
    (hsrc : ∀ (j : Nat) v, cs[j]? = some v → w.cell? (a.add j) = some v) (hc : ∀ j, j < cs.length → (w.cell? ⟨b, o + j, none⟩).isSome = true) (hf : ∀ j, j < cs.length → w.frozen? ⟨b, o + j, none⟩ = false) (h1 : ∀ v ∈ cs, v.oneCell' = true) :
    (Builtin.copy_ #[dT, sT] ty #[.slice (some ⟨b, o, none⟩) dLen dCap, .slice (some a) sLen sCap]).run P w = .ok (goInt (Nat.min sLen dLen)) (w.setCells b o cs) := by
  have hl := run_loadCells_list (P := P) w a cs hsrc
  have hst := run_storeCells_cells (P := P) b o cs 0 w (by simpa using hc) (by simpa using hf) h1
  cases hq : P.info? elem with
  | none => simp [hq] at hs
  | some i =>
    have hi : i.size = k := by simpa [hq] using hs
    simp [Builtin.copy_, run_underlying hu, Builtin.lenOf, Builtin.firstCells, sizeOf, typeInfo, hq, hi, ← hn, hl, hst]

theorem wp_copy_runI {P : Program} (w : World) {o : Oper} {a : Act} {K : Act → World → Prop} {Q : Exit → Act → World → Prop} (d s : Operand) (t t' : TypeId)
    (ho : o.op = .call { callee := .builtin .copy, args := #[d, s], argTypes := #[t, t'] }) (v u : Value) (hd : a.eval d = v) (hs : a.eval s = u) {v' : Value} {w' : World}
    (hr : (Builtin.copy_ #[t, t'] o.type #[v, u]).run P w = .ok v' w') (h : K (a.put o.dst v') w') : o.wp P a w K Q := by
  unfold Oper.wp execOp
  simp only [ho, resolve, invoke, builtin, Sem.run_bind, Sem.run_pure, Result.andThen_ok, List.map_toArray, List.map_cons, List.map_nil, hd, hs, hr]
  exact h
theorem wpList_copy_runI {P : Program} (w : World) {ops : Array Oper} {rest : List Oper} {o : Oper} {a : Act} {Q : Exit → Act → World → Prop} (hgd : o.guard = none) (d s : Operand) (t t' : TypeId)
    (ho : o.op = .call { callee := .builtin .copy, args := #[d, s], argTypes := #[t, t'] }) (v u : Value) (hd : a.eval d = v) (hs : a.eval s = u) {v' : Value} {w' : World}
    (hr : (Builtin.copy_ #[t, t'] o.type #[v, u]).run P w = .ok v' w') (h : wpList P ops Q rest (a.put o.dst v') w') : wpList P ops Q (o :: rest) a w :=
  wpList_plain hgd fun _ hK => wp_copy_runI w d s t t' ho v u hd hs hr (hK _ _ h)
theorem step_copy_runI {P : Program} {ops : Array Oper} {o : Oper} {a : Act} {w : World} {K : Act → World → Prop} {Q : Exit → Act → World → Prop} {E : Prop}
    (hg : o.guard = none) (d x : Operand) (dT sT : TypeId) (hop : o.op = Op.call { callee := Callee.builtin Builtin.copy, args := #[d, x], argTypes := #[dT, sT] })
    (v u : Value) (hd : a.eval d = v) (hx : a.eval x = u) {v' : Value} {w' : World} (hr : (Builtin.copy_ #[dT, sT] o.type #[v, u]).run P w = .ok v' w') (hK : K (a.put o.dst v') w') :
    if Region.wanted o (yielded ops a.tmps) = true then Oper.wp P o a w K Q else E := by
  have hw : Region.wanted o (yielded ops a.tmps) = true := by simp [Region.wanted, hg]
  rw [if_pos hw]
  unfold Oper.wp
  simp [execOp, hop, resolve, invoke, builtin, hd, hx, hr, Result.andThen]
  exact hK
theorem isSome_setCells' (b : Nat) (vs : List Value) (o : Nat) (w : World) (h : ∀ j, j < vs.length → (w.cell? ⟨b, o + j, none⟩).isSome = true) (k : Nat) (hk : (w.cell? ⟨b, k, none⟩).isSome = true) : ((w.setCells b o vs).cell? ⟨b, k, none⟩).isSome = true := by
  by_cases hin : o ≤ k ∧ k < o + vs.length
  · have := World.cell?_setCells_in b vs o w h (k - o) (by omega)
    rw [show o + (k - o) = k by omega] at this
    rw [this]; rfl
  · rw [World.cell?_setCells_out b vs o w ⟨b, k, none⟩ (fun _ _ => by show k < o ∨ o + vs.length ≤ k; omega)]
    exact hk

set_option maxHeartbeats 4000000 in
set_option maxRecDepth 100000 in
/-- There is room, i < len(s): in place. -/
theorem insF_shift (b n c i vb m vc : Nat) (cs vs : List Value) (w : World) (hi : i < n) (hm : 0 < m) (hroom : n + m ≤ c) (hc63 : c ≤ 9223372036854775807) (hvb : vb ≠ b)
    (hcl : cs.length = n * 2) (hvl : vs.length = m * 2)
    (hcs : ∀ (j : Nat) v, cs[j]? = some v → w.cell? ⟨b, j, none⟩ = some v) (hsp : ∀ j, j < (n + m) * 2 → (w.cell? ⟨b, j, none⟩).isSome = true) (hfz : ∀ j, j < (n + m) * 2 → w.frozen? ⟨b, j, none⟩ = false)
    (hvs : ∀ (j : Nat) v, vs[j]? = some v → w.cell? ⟨vb, j, none⟩ = some v) (h1c : ∀ v ∈ cs, v.oneCell' = true) (h1v : ∀ v ∈ vs, v.oneCell' = true)
    (tA tB : TypeId) (kA kB : Nat) (hsa : w.shape? vb = some (tA, kA)) (hsb : w.shape? b = some (tB, kB)) (hkB : kB ≠ 0) (hfa : w.frozen? ⟨vb, 0, none⟩ = false) (hfe : w.frozen? ⟨vb, kA, none⟩ = false) :
    Calls Tryd.prog 143 #[.slice (some ⟨b, 0, none⟩) n c, .int .i64 i, .slice (some ⟨vb, 0, none⟩) m vc] w fun e w' =>
      e = .returned (.slice (some ⟨b, 0, none⟩) (n + m) c) ∧ w' = (w.drew.setCells b ((i + m) * 2) (cs.drop (i * 2))).setCells b (i * 2) vs := by
  have hz1 : ¬ ((m : Int) = 0) := by omega
  have hz2 : ¬ ((i : Int) = (n : Int)) := by omega
  have hsz : (Tryd.prog.info? 32).map (·.size) = some 2 := by kernel_rfl
  have hov : ∀ lb cb, (callFunc 160 #[.slice (some ⟨vb, 0, none⟩) m vc, .slice (some ⟨b, (i + m) * 2, none⟩) lb cb]).run Tryd.prog w = .ok (.value (.bool false)) w := fun lb cb => by
    rw [run_callFunc_extern Tryd.func160 (by kernel_rfl) (by kernel_rfl) (by kernel_rfl) (e := Extern.SlicesOverlaps.overlaps #[23, 23] #[4]) (by kernel_rfl),
      Lib.run_overlaps_apart w 23 4 32 Tryd.underlying23 2 Tryd.sizeOf32 ⟨vb, 0, none⟩ ⟨b, (i + m) * 2, none⟩ m vc lb cb hvb tA tB kA kB hsa hsb hkB hfa hfe]
    rfl
  have hdl : (cs.drop (i * 2)).length = (n - i) * 2 := by rw [List.length_drop, hcl]; omega
  have mixed : Tryd.prog.follows .mixedOrders = true := mixed
  have hw1 : IntKind.i64.wrap ((i : Int) + (m : Int)) = (i : Int) + (m : Int) := by rw [IntKind.wrap_i64]; omega
  have hb1 : (0 : Int) ≤ (i : Int) + (m : Int) := by omega
  have hin : i ≤ n := by omega
  have htn : ((i : Int) + (m : Int)).toNat = i + m := by omega
  have hb2 : ¬ (c = i + m) := by omega
  have hb3 : (i : Int) ≤ (n : Int) + (m : Int) := by omega
  have hb4 : ¬ (c = i) := by omega
  have hcp1 : ∀ ty dc sc, (Builtin.copy_ #[23, 23] ty #[.slice (some ⟨b, (i + m) * 2, none⟩) (n + m - (i + m)) dc, .slice (some ⟨b, i * 2, none⟩) (n + m - i) sc]).run Tryd.prog w.drew = .ok (goInt (Nat.min (n + m - i) (n + m - (i + m)))) (w.drew.setCells b ((i + m) * 2) (cs.drop (i * 2))) := fun ty dc sc =>
    run_copy_cells_k 2 w.drew _ _ ty 32 b ((i + m) * 2) (n + m - (i + m)) dc ⟨b, i * 2, none⟩ (n + m - i) sc (cs.drop (i * 2)) Tryd.underlying23 hsz (by rw [hdl]; simp only [Nat.min_def]; split <;> omega)
      (fun j v hj => by rw [Addr.add_lit]; exact hcs (i * 2 + j) v (by rwa [List.getElem?_drop] at hj))
      (fun j hj => hsp _ (by omega)) (fun j hj => hfz _ (by omega)) (fun v hv => h1c v (List.mem_of_mem_drop hv))
  obtain ⟨W1, hW1⟩ : ∃ W1, W1 = w.drew.setCells b ((i + m) * 2) (cs.drop (i * 2)) := ⟨_, rfl⟩
  have hsp1 : ∀ k, k < (n + m) * 2 → (W1.cell? ⟨b, k, none⟩).isSome = true := fun k hk => by
    rw [hW1]
    exact isSome_setCells' b (cs.drop (i * 2)) ((i + m) * 2) w.drew (fun j hj => hsp _ (by omega)) _ (hsp k hk)
  have hcp2 : ∀ (W : World), (∀ x, W.cell? x = W1.cell? x) → (∀ x, W.frozen? x = W1.frozen? x) → ∀ ty dc, (Builtin.copy_ #[23, 23] ty #[.slice (some ⟨b, i * 2, none⟩) (n + m - i) dc, .slice (some ⟨vb, 0, none⟩) m vc]).run Tryd.prog W = .ok (goInt (Nat.min m (n + m - i))) (W.setCells b (i * 2) vs) := fun W hWc hWf ty dc =>
    run_copy_cells_k 2 W _ _ ty 32 b (i * 2) (n + m - i) dc ⟨vb, 0, none⟩ m vc vs Tryd.underlying23 hsz (by rw [hvl]; simp only [Nat.min_def]; split <;> omega)
      (fun j v hj => by
        rw [Addr.add_lit, Nat.zero_add, hWc, hW1, World.cell?_setCells_out b _ _ _ _ (fun h _ => absurd h hvb)]
        exact hvs j v hj)
      (fun j hj => by rw [hWc]; exact hsp1 _ (by omega)) (fun j hj => by rw [hWf, hW1, World.frozen?_setCells]; exact hfz _ (by omega)) h1v
  rw [← hW1] at hcp1
  go_enter Tryd.func143, Tryd.ntmps143
  go_wp2_with (simp only [hov])
  go_region_law_o (refine step_copy_runI rfl _ _ 23 23 rfl _ _ (by simp [Act.eval, Act.put]) (by simp [Act.eval, Act.put]) (hcp1 _ _ _) ?_)
  go_wp2_with (at_builtin; refine wpList_copy_runI _ rfl _ _ 23 23 rfl _ _ rfl rfl (hcp2 _ (fun _ => rfl) (fun _ => rfl) _ _) ?_)
  go_ret
  first | exact ⟨rfl, rfl⟩ | exact ⟨rfl, by rw [hW1]⟩

set_option maxHeartbeats 4000000 in
set_option maxRecDepth 100000 in
/-- At the end: append. -/
theorem insF_end (v1 v2 : Value) (base : Option Addr) (n c vb m vc : Nat) (w w' : World) (v' : Value) (hm : 0 < m) (h1 : v1 = .slice base n c) (hn : n ≤ c) (hb : base = none → c = 0) (h2 : v2 = .slice (some ⟨vb, 0, none⟩) m vc)
    (hrun : (Builtin.append_ #[23, 23] 23 #[v1, v2]).run Tryd.prog w = .ok v' w') :
    Calls Tryd.prog 143 #[v1, .int .i64 n, v2] w fun e w1 => e = .returned v' ∧ w1 = w' := by
  subst h1 h2
  have hz1 : ¬ ((m : Int) = 0) := by omega
  have mixed : Tryd.prog.follows .mixedOrders = true := mixed
  go_enter Tryd.func143, Tryd.ntmps143
  cases base with
  | none =>
    have h0 := hb rfl
    have h00 : n = 0 := by omega
    subst h0 h00
    go_wp2_with (at_builtin; refine Lib.wpList_append_run _ rfl _ _ _ _ rfl _ _ rfl rfl _ _ hrun ?_)
    go_ret
    exact ⟨rfl, rfl⟩
  | some a =>
    obtain ⟨ab, ao, asp⟩ := a
    go_wp2_with (at_builtin; refine Lib.wpList_append_run _ rfl _ _ _ _ rfl _ _ rfl rfl _ _ hrun ?_)
    all_goals (go_ret; exact ⟨rfl, rfl⟩)

set_option maxHeartbeats 4000000 in
set_option maxRecDepth 100000 in
/-- i < len(s), no room: a new row. -/
theorem insF_grow (b n c i vb m vc : Nat) (cs vs : List Value) (w : World) (hi : i < n) (hm : 0 < m) (hnc : n ≤ c) (hroom : c < n + m) (hbig : (n + m) * 40 ≤ 140737488355328)
    (hcl : cs.length = n * 2) (hvl : vs.length = m * 2)
    (hcs : ∀ (j : Nat) v, cs[j]? = some v → w.cell? ⟨b, j, none⟩ = some v)
    (hvs : ∀ (j : Nat) v, vs[j]? = some v → w.cell? ⟨vb, j, none⟩ = some v) (h1c : ∀ v ∈ cs, v.oneCell' = true) (h1v : ∀ v ∈ vs, v.oneCell' = true) :
    Calls Tryd.prog 143 #[.slice (some ⟨b, 0, none⟩) n c, .int .i64 i, .slice (some ⟨vb, 0, none⟩) m vc] w fun e w' =>
      e = .returned (.slice (some ⟨w.heap.size, 0, none⟩) (n + m) (grownCap w (n + m) c 32)) ∧
      w' = (((w.alloc (.cells ((cs.take (i * 2)).toArray ++ Builtin.zeroCells #[.string ⟨#[]⟩, .slice none 0 0] (n + m - i) ++ Builtin.zeroCells #[.string ⟨#[]⟩, .slice none 0 0] (grownCap w (n + m) c 32 - (n + m))) 32)).drew.setCells w.heap.size (i * 2) vs).drew).setCells w.heap.size ((i + m) * 2) (cs.drop (i * 2)) := by
  have mixed : Tryd.prog.follows .mixedOrders = true := mixed
  obtain ⟨i0, hi0, hz0, hzs, hzb⟩ : ∃ i0, Tryd.prog.info? 32 = some i0 ∧ i0.zero = some (.agg #[.string ⟨#[]⟩, .slice none 0 0]) ∧ i0.size = 2 ∧ i0.bytes = 40 :=
    info_parts (show (Tryd.prog.info? 32).map (fun i => (i.zero, i.size, i.bytes)) = some (some (.agg #[.string ⟨#[]⟩, .slice none 0 0]), 2, 40) by kernel_rfl)
  have hz1 : ¬ ((m : Int) = 0) := by omega
  have hz2 : ¬ ((i : Int) = (n : Int)) := by omega
  have hz3 : (c : Int) < (n : Int) + (m : Int) := by omega
  have hsz : (Tryd.prog.info? 32).map (·.size) = some 2 := by rw [hi0]; simp [hzs]
  have hbw : b < w.heap.size := block_lt_of_cell (hcs 0 _ (List.getElem?_eq_getElem (by omega)))
  have hvw : vb < w.heap.size := block_lt_of_cell (hvs 0 _ (List.getElem?_eq_getElem (by omega)))
  have hkk : (n : Int) + (m : Int) - (i : Int) = ((n + m - i : Nat) : Int) := by omega
  have hik : i + (n + m - i) = n + m := by omega
  have hold : (Builtin.firstCells i0.size i (.slice (some ⟨b, 0, none⟩) i c)).run Tryd.prog w.drew = .ok (cs.take (i * 2)).toArray w.drew := by
    rw [hzs]
    exact run_firstCells_some w.drew 2 i ⟨b, 0, none⟩ i c (cs.take (i * 2)) (by rw [List.length_take]; omega) (fun j v hj => by
      rw [Addr.add_lit]
      rw [List.getElem?_take] at hj
      split at hj
      · rw [Nat.zero_add]; exact hcs j v hj
      · cases hj)
  have hrz : ∀ ty, (Builtin.append_ #[23, 3] ty #[.slice (some ⟨b, 0, none⟩) i c, .int .i64 ((n : Int) + (m : Int) - (i : Int))]).run Tryd.prog w =
      .ok (.slice (some ⟨w.heap.size, 0, none⟩) (n + m) (grownCap w (n + m) c 32)) (w.drew.alloc (.cells ((cs.take (i * 2)).toArray ++ Builtin.zeroCells #[.string ⟨#[]⟩, .slice none 0 0] (n + m - i) ++ Builtin.zeroCells #[.string ⟨#[]⟩, .slice none 0 0] (grownCap w (n + m) c 32 - (n + m))) 32)) := fun ty => by
    have h := Lib.run_append_grow_zeros w 23 3 ty 32 i0 _ .i64 .i64 Tryd.underlying23 Tryd.underlying3 hi0 hz0 (some ⟨b, 0, none⟩) i c (cs.take (i * 2)) hold (n + m - i) (by omega) (by omega) (by omega) (by omega) (by rw [hzb]; omega) (by rw [hzb, hik]; exact growslice_fits hroom hbig)
    rw [hik] at h
    rw [hkk]
    exact h
  obtain ⟨G, hG⟩ : ∃ G, G = grownCap w (n + m) c 32 := ⟨_, rfl⟩
  obtain ⟨ROW, hROW⟩ : ∃ ROW : Array Value, ROW = (cs.take (i * 2)).toArray ++ Builtin.zeroCells #[.string ⟨#[]⟩, .slice none 0 0] (n + m - i) ++ Builtin.zeroCells #[.string ⟨#[]⟩, .slice none 0 0] (G - (n + m)) := ⟨_, rfl⟩
  rw [← hG] at hrz ⊢
  rw [← hROW] at hrz ⊢
  have hRl : (n + m) * 2 ≤ ROW.size := by
    rw [hROW]
    simp [Builtin.zeroCells]
    omega
  obtain ⟨W1, hW1⟩ : ∃ W1, W1 = w.drew.alloc (.cells ROW 32) := ⟨_, rfl⟩
  rw [← hW1] at hrz
  have hN : ∀ j, j < (n + m) * 2 → (W1.cell? ⟨w.heap.size, j, none⟩).isSome = true := fun j hj => by
    rw [hW1, World.cell?_alloc_at (w := w.drew) ROW _ w.heap.size j rfl, Array.getElem?_eq_getElem (by omega)]; rfl
  have hNf : ∀ j, W1.frozen? ⟨w.heap.size, j, none⟩ = false := fun j => by rw [hW1]; exact World.frozen?_alloc_at (w := w.drew) ROW _ w.heap.size j rfl
  have hOb : ∀ j v, w.cell? ⟨b, j, none⟩ = some v → W1.cell? ⟨b, j, none⟩ = some v := fun j v h => by rw [hW1, World.cell?_alloc_past (w := w.drew) _ b j hbw]; exact h
  have hOv : ∀ j v, w.cell? ⟨vb, j, none⟩ = some v → W1.cell? ⟨vb, j, none⟩ = some v := fun j v h => by rw [hW1, World.cell?_alloc_past (w := w.drew) _ vb j hvw]; exact h
  have hcpA : ∀ (W : World), (∀ x, W.cell? x = W1.cell? x) → (∀ x, W.frozen? x = W1.frozen? x) → ∀ ty dc, (Builtin.copy_ #[23, 23] ty #[.slice (some ⟨w.heap.size, i * 2, none⟩) (n + m - i) dc, .slice (some ⟨vb, 0, none⟩) m vc]).run Tryd.prog W = .ok (goInt (Nat.min m (n + m - i))) (W.setCells w.heap.size (i * 2) vs) := fun W hWc hWf ty dc =>
    run_copy_cells_k 2 W _ _ ty 32 w.heap.size (i * 2) (n + m - i) dc ⟨vb, 0, none⟩ m vc vs Tryd.underlying23 hsz (by rw [hvl]; simp only [Nat.min_def]; split <;> omega)
      (fun j v hj => by rw [Addr.add_lit, Nat.zero_add, hWc]; exact hOv _ v (hvs j v hj))
      (fun j hj => by rw [hWc]; exact hN _ (by omega)) (fun j hj => by rw [hWf]; exact hNf _) h1v
  have hGn : n + m ≤ G := by rw [hG]; exact grownCap_ge w _ _ _
  have hG63 : G ≤ 9223372036854775807 := by
    have := grownCap_le_maxLen w (n + m) c 32 (by unfold maxLen; omega)
    rw [← hG] at this
    unfold maxLen at this
    omega
  have hGi : ¬ (G = i) := by omega
  have hGim : ¬ (G = i + m) := by omega
  have hci : ¬ (c = i) := by omega
  have hbN : b ≠ w.heap.size := by omega
  have hdl : (cs.drop (i * 2)).length = (n - i) * 2 := by rw [List.length_drop, hcl]; omega
  have hcpB : ∀ (W : World), (∀ x, W.cell? x = (W1.setCells w.heap.size (i * 2) vs).cell? x) → (∀ x, W.frozen? x = (W1.setCells w.heap.size (i * 2) vs).frozen? x) → ∀ ty dc sc, (Builtin.copy_ #[23, 23] ty #[.slice (some ⟨w.heap.size, (i + m) * 2, none⟩) (n + m - (i + m)) dc, .slice (some ⟨b, i * 2, none⟩) (n - i) sc]).run Tryd.prog W = .ok (goInt (Nat.min (n - i) (n + m - (i + m)))) (W.setCells w.heap.size ((i + m) * 2) (cs.drop (i * 2))) := fun W hWc hWf ty dc sc =>
    run_copy_cells_k 2 W _ _ ty 32 w.heap.size ((i + m) * 2) (n + m - (i + m)) dc ⟨b, i * 2, none⟩ (n - i) sc (cs.drop (i * 2)) Tryd.underlying23 hsz (by rw [hdl]; simp only [Nat.min_def]; split <;> omega)
      (fun j v hj => by
        rw [Addr.add_lit, hWc, World.cell?_setCells_out _ _ _ _ _ (fun h _ => absurd h hbN)]
        exact hOb _ v (hcs (i * 2 + j) v (by rwa [List.getElem?_drop] at hj)))
      (fun j hj => by rw [hWc]; exact isSome_setCells' w.heap.size vs (i * 2) W1 (fun t ht => hN _ (by omega)) _ (hN _ (by omega)))
      (fun j hj => by rw [hWf, World.frozen?_setCells]; exact hNf _) (fun v hv => h1c v (List.mem_of_mem_drop hv))
  subst hW1
  have hE1 : ∀ x, ((w.alloc (.cells ROW 32)).drew).cell? x = (w.drew.alloc (.cells ROW 32)).cell? x := fun x => rfl
  have hE2 : ∀ x, ((w.alloc (.cells ROW 32)).drew).frozen? x = (w.drew.alloc (.cells ROW 32)).frozen? x := fun x => rfl
  have hF1 : ∀ x, (((w.alloc (.cells ROW 32)).drew.setCells w.heap.size (i * 2) vs).drew).cell? x = ((w.drew.alloc (.cells ROW 32)).setCells w.heap.size (i * 2) vs).cell? x := fun x => rfl
  have hF2 : ∀ x, (((w.alloc (.cells ROW 32)).drew.setCells w.heap.size (i * 2) vs).drew).frozen? x = ((w.drew.alloc (.cells ROW 32)).setCells w.heap.size (i * 2) vs).frozen? x := fun x => rfl
  have hw1 : IntKind.i64.wrap ((i : Int) + (m : Int)) = (i : Int) + (m : Int) := by rw [IntKind.wrap_i64]; omega
  have hb1 : (0 : Int) ≤ (i : Int) + (m : Int) := by omega
  have hin : i ≤ n := by omega
  have htn : ((i : Int) + (m : Int)).toNat = i + m := by omega
  have hb3 : (i : Int) ≤ (n : Int) := by omega
  clear hkk hik hold hROW hG hRl
  go_enter Tryd.func143, Tryd.ntmps143
  go_wp2_with (first
    | (at_builtin; refine Lib.wpList_append_run _ rfl _ _ _ _ rfl _ _ rfl rfl _ _ (hrz _) ?_)
    | (at_builtin; refine wpList_copy_runI _ rfl _ _ 23 23 rfl _ _ rfl rfl (hcpA _ hE1 hE2 _ _) ?_)
    | (at_builtin; refine wpList_copy_runI _ rfl _ _ 23 23 rfl _ _ rfl rfl (hcpB _ (fun _ => rfl) (fun _ => rfl) _ _ _) ?_))
  go_region_law_o (refine step_copy_runI rfl _ _ 23 23 rfl (.slice (some ⟨w.heap.size, (i + m) * 2, none⟩) (n + m - (i + m)) (G - (i + m))) (.slice (some ⟨b, i * 2, none⟩) (n - i) (c - i)) (by simp [Act.eval, Act.put]) (by simp [Act.eval, Act.put]) (hcpB _ hF1 hF2 3 (G - (i + m)) (c - i)) ?_)
  go_wp2
  go_ret
  exact ⟨rfl, rfl⟩

end Vx
end Go.Proofs.YtlhkmgbmnbkaeaaDoor
/-
  Contracts of functions that read scalars alone, out of their calls; the library's search functions at one byte.
-/
namespace Go.Proofs.YtlhkmgbmnbkaeaaDoor
namespace Vx
open Go.RowKit

/-- Scalars. -/
def scal : AV → Option Value
  | .int k n => some (.int k n)
  | .bool b => some (.bool b)
  | .str s => some (.string ⟨s.toArray⟩)
  | _ => none

theorem scal_rel {w m β c v x u} (h : RelL w m β c [v] [u]) (hs : scal v = some x) : u = x := by
  cases v <;> simp only [scal, Option.some.injEq, reduceCtorEq] at hs
  all_goals cases h; exact hs

theorem scals_rel {w m β c} : ∀ {vs : List AV} {us xs : List Value}, RelL w m β c vs us → vs.mapM scal = some xs → us = xs := by
  intro vs
  induction vs with
  | nil => intro us xs h hm; cases h; simp at hm; exact hm.symm
  | cons v vs ih =>
    intro us xs h hm
    obtain ⟨u, us', rfl, h1, h2⟩ := h.uncons
    rw [List.mapM_cons] at hm
    cases hv : scal v with
    | none => rw [hv] at hm; simp at hm
    | some x =>
      rw [hv] at hm
      cases hvs : vs.mapM scal with
      | none => rw [hvs] at hm; simp at hm
      | some ys =>
        rw [hvs] at hm
        simp at hm
        subst hm
        rw [scal_rel h1 hv, ih h2 hvs]

theorem rel_scal {w m β c v x} (hs : scal v = some x) (hok : ∀ s, v = .str s → s.length ≤ maxLen) : RelL w m β c [v] [x] := by
  cases v <;> simp only [scal, Option.some.injEq, reduceCtorEq] at hs
  all_goals subst hs
  · exact .int .lnil
  · exact .bool .lnil
  · exact .str (hok _ rfl) .lnil

/-- The arguments, off the first state. -/
theorem start_rel {c : Cx} {k : Con} {x : k.A} {vs : List Value} {w β fp} (hl : vs.length = (k.args x).length) (S : SatI c (k.start2 x) ⟨vs.toArray ++ Array.replicate (k.n - vs.length) undef, []⟩ w β fp) :
    RelL w (k.start2 x).m β c (k.args x) vs := by
  have key : ∀ (i : Nat) (v : AV) (u : Value), (k.args x)[i]? = some v → vs[i]? = some u → RelL w (k.start2 x).m β c [v] [u] := by
    intro i v u hv hu
    have := (S.env i true v (by simp [Con.start2, hv])).2.1 rfl
    have hi : i < vs.length := (List.getElem?_eq_some_iff.1 hu).1
    have e : (vs.toArray ++ Array.replicate (k.n - vs.length) undef).getD i undef = u := by
      rw [Array.getD_eq_getD_getElem?, Array.getElem?_append_left (by simpa using hi)]
      simp [hu]
    rw [e] at this
    exact this
  clear S
  generalize k.args x = xs at hl key
  induction xs generalizing vs with
  | nil => cases vs with | nil => exact .lnil | cons => simp at hl
  | cons v xs ih =>
    cases vs with
    | nil => simp at hl
    | cons u vs =>
      exact (key 0 v u rfl rfl).append (ih (by simpa using hl) fun i v' u' h1 h2 => key (i + 1) v' u' h1 h2)

/-- A contract of a function that reads scalars alone, out of its calls. -/
theorem has_pure {P : Program} {f : Nat} {n : Nat} {A : Type} {args : A → List AV} {pre : A → Prop} {res : A → AV} {rv : A → Value}
    (henter : ∀ args w, (callFunc f args).run P w = .ok (.enter f args) w) (hres : ∀ a, scal (res a) = some (rv a)) (hstr : ∀ a s, pre a → res a = .str s → s.length ≤ maxLen)
    (h : ∀ a vs w, pre a → (args a).mapM scal = some vs → Calls P f vs.toArray w fun e w' => e = .returned (rv a) ∧ w' = w) (hsc : ∀ a, ∃ vs, (args a).mapM scal = some vs) :
    Has P f (.fn n A args pre res (fun _ => [])) := by
  refine ⟨henter, fun _ => ⟨(), trivial⟩, fun _ _ => rfl, ?_⟩
  intro a hp c vs β fp hcn hpins hl1 hl2 S
  obtain ⟨us, hus⟩ := hsc a
  have hvs : vs = us := scals_rel (start_rel hl1 S) hus
  subst hvs
  refine (h a vs c.w0 hp hus).mono ?_
  rintro e w' ⟨rfl, rfl⟩
  refine ⟨(), trivial, rv a, rfl, β, fp, ⟨Array.replicate c.n undef, []⟩, ⟨?_, ?_, ?_, ?_, ?_, S.fg, S.old, S.os, S.tape, S.output, S.size, rfl, by simp, ?_⟩, ?_⟩
  · intro t g av ht; cases ht
  · intro h blk hm; cases hm
  · intro h blk hm; cases hm
  · intro h h' blk blk' hm; cases hm
  · intro h blk hm; cases hm
  · rw [hpins]; intro p hp; simp [Con.pins2] at hp
  · exact rel_scal (hres a) (fun s hs => hstr a s hp hs)

set_option maxHeartbeats 1000000 in
set_option maxRecDepth 100000 in
theorem indexByte_call (s : ByteArray) (c : Int) (w : World) :
    Calls Tryd.prog 185 #[.string s, .int .u8 c] w fun e w' => e = .returned (.int .i64 (Lib.indexByte s.data.toList c.toNat.toUInt8)) ∧ w' = w := by
  go_enter Tryd.func185, Tryd.ntmps185
  go_wp2
  rw [run_callFunc_extern Tryd.func195 (by kernel_rfl) (by kernel_rfl) (by kernel_rfl) (e := Extern.BytealgIndexByte.indexByte) (by kernel_rfl), Lib.run_indexByteString]
  simp only [Result.andThen]
  rw [Oper.upon_value]
  go_wp2
  go_ret
  exact ⟨rfl, rfl⟩

set_option maxHeartbeats 2000000 in
set_option maxRecDepth 100000 in
theorem indexOne_call (s : ByteArray) (c : UInt8) (w : World) :
    Calls Tryd.prog 177 #[.string s, .string ⟨#[c]⟩] w fun e w' => e = .returned (.int .i64 (Lib.indexByte s.data.toList c)) ∧ w' = w := by
  go_enter Tryd.func177, Tryd.ntmps177
  go_wp2_with (go_at_call 185; refine (indexByte_call _ _ _).mono ?_; rintro e w' ⟨rfl, rfl⟩)
  · have h : ([c] == s.toList) = true := by assumption
    go_ret
    refine ⟨?_, rfl⟩
    have e : s.data.toList = [c] := by rw [← Lib.toList_data]; exact (beq_iff_eq.1 h).symm
    rw [e]
    simp [Lib.indexByte]
  · go_ret
    exact ⟨rfl, rfl⟩

set_option maxHeartbeats 2000000 in
set_option maxRecDepth 100000 in
theorem stringsIndexOne_call (s : ByteArray) (c : UInt8) (w : World) :
    Calls Tryd.prog 164 #[.string s, .string ⟨#[c]⟩] w fun e w' => e = .returned (.int .i64 (Lib.indexByte s.data.toList c)) ∧ w' = w := by
  go_enter Tryd.func164, Tryd.ntmps164
  go_wp2_with (go_at_call 177; refine (indexOne_call _ _ _).mono ?_; rintro e w' ⟨rfl, rfl⟩)
  go_ret
  exact ⟨rfl, rfl⟩

set_option maxHeartbeats 1000000 in
set_option maxRecDepth 100000 in
theorem countOne_call (s : ByteArray) (c : UInt8) (w : World) :
    Calls Tryd.prog 163 #[.string s, .string ⟨#[c]⟩] w fun e w' => e = .returned (.int .i64 (Lib.countByte s.data.toList c)) ∧ w' = w := by
  go_enter Tryd.func163, Tryd.ntmps163
  go_wp2
  rw [run_callFunc_extern Tryd.func176 (by kernel_rfl) (by kernel_rfl) (by kernel_rfl) (e := Extern.BytealgCount.count) (by kernel_rfl), Lib.run_countString]
  simp only [Result.andThen]
  rw [Oper.upon_value]
  go_wp2
  go_ret
  exact ⟨rfl, rfl⟩

/-- The place of a byte in a text; -1 if it is not there. -/
def idxB : Str → UInt8 → Int
  | [], _ => -1
  | b :: l, c => if b = c then 0 else if idxB l c < 0 then -1 else idxB l c + 1

theorem idxB_lib (s : Str) (c : UInt8) : Lib.indexByte s c = idxB s c := by
  induction s with
  | nil => rfl
  | cons b l ih =>
    have hge := Lib.indexByte_ge l c
    simp only [Lib.indexByte, idxB, ih] at hge ⊢
    by_cases hb : b = c
    · simp [hb]
    · simp only [beq_iff_eq, hb, if_false]
      by_cases h : idxB l c < 0
      · rw [if_pos h, if_pos (by omega)]
      · rw [if_neg h, if_neg (by omega)]

def cStringsIndex : Con := .fn 8 (Str × UInt8) (fun a => [.str a.1, .str [a.2]]) (fun _ => True) (fun a => .int .i64 (idxB a.1 a.2)) (fun _ => [])
theorem stringsIndex_has : Has Tryd.prog 164 cStringsIndex :=
  has_pure (rv := fun a => .int .i64 (idxB a.1 a.2)) (fun args w => Go.MuLone.run_callFunc_enter Tryd.func164 (by kernel_rfl) rfl args w) (fun _ => rfl) (fun a s _ h => by cases h)
    (fun a vs w _ hv => by
      obtain ⟨s, c⟩ := a
      simp [scal] at hv
      subst hv
      have := stringsIndexOne_call ⟨s.toArray⟩ c w
      simpa [idxB_lib] using this) (fun a => ⟨_, rfl⟩)

def cStringsCount : Con := .fn 34 (Str × UInt8) (fun a => [.str a.1, .str [a.2]]) (fun _ => True) (fun a => .int .i64 (a.1.count a.2)) (fun _ => [])
theorem stringsCount_has : Has Tryd.prog 163 cStringsCount :=
  has_pure (rv := fun a => .int .i64 (a.1.count a.2)) (fun args w => Go.MuLone.run_callFunc_enter Tryd.func163 (by kernel_rfl) rfl args w) (fun _ => rfl) (fun a s _ h => by cases h)
    (fun a vs w _ hv => by
      obtain ⟨s, c⟩ := a
      simp [scal] at hv
      subst hv
      have := countOne_call ⟨s.toArray⟩ c w
      simpa [Lib.countByte] using this) (fun a => ⟨_, rfl⟩)

end Vx
end Go.Proofs.YtlhkmgbmnbkaeaaDoor
/-
  The contract of slices.Insert at files.
-/
namespace Go.Proofs.YtlhkmgbmnbkaeaaDoor
namespace Vx
open Go.RowKit

theorem only8 {c : Cx} {s : St} {a : Act} {w : World} {β : Nat → Value} {fp : Nat → List (Nat × Nat)} (S : SatI c s a w β fp) (hp : c.pins = []) {e k : Nat} {R : List (List D)} (h8 : s.m 8 = some (.own e k true R)) :
    ∃ a', SatI c ⟨fun _ => none, get? [(8, .own e k true R)]⟩ a' w β fp ∧ RelL w (get? [(8, .own e k true R)]) β c [.own 8 k R] [β 8] := by
  have hb : BlkOk w (get? [(8, Blk.own e k true R)]) β c 8 (fp 8) (.own e k true R) := by
    obtain ⟨p1, p2, p3⟩ := S.mem 8 _ h8
    refine ⟨p1, p2, ?_⟩
    rcases p3 with p3 | ⟨b', cap, cs, f0, r1, r2, r3, r4, r5, r6, r7, r8⟩
    · exact .inl p3
    · exact .inr ⟨b', cap, cs, f0, r1, r2, r3, r4, r5, r6, r7, by simp⟩
  refine ⟨⟨Array.replicate c.n undef, []⟩, ⟨?_, ?_, ?_, ?_, ?_, S.fg, S.old, S.os, S.tape, S.output, S.size, rfl, by simp, by simp [hp]⟩, ?_⟩
  · intro t g av h; cases h
  · intro h blk hm; obtain ⟨rfl, rfl⟩ := get1 hm; exact hb
  · intro h blk hm; obtain ⟨rfl, rfl⟩ := get1 hm; exact S.nodup 8 _ h8
  · intro h h' blk blk' hm hm' hne; obtain ⟨rfl, rfl⟩ := get1 hm; obtain ⟨rfl, rfl⟩ := get1 hm'; exact absurd rfl hne
  · intro h blk hm x hx; obtain ⟨rfl, rfl⟩ := get1 hm; exact S.free 8 _ h8 x hx
  · exact own_rel (h := 8) (fps := fp) rfl hb (S.nodup 8 _ h8) (fun h' blk' hm hne => by obtain ⟨rfl, rfl⟩ := get1 hm; exact absurd rfl hne) (S.free 8 _ h8)

def insAtF (l : List FileD) (i : Nat) (f : FileD) : List FileD := l.take i ++ (f :: l.drop i)
theorem eInsF (l : List FileD) (i : Nat) (f : FileD) : (eFiles l).take i ++ (eFiles [f] ++ (eFiles l).drop i) = eFiles (insAtF l i f) := by simp [eFiles, insAtF, List.map_take, List.map_drop]
theorem two_cells {w : World} {b : Nat} {cs : Array Value} {ty : Nat} {n : Nat} (h : w.heap[b]? = some (.cells cs ty (0, 0))) : ∀ (j : Nat) v, (cs.toList.take n)[j]? = some v → w.cell? ⟨b, j, none⟩ = some v := by
  intro j v hj
  rw [World.cell_of h]
  rw [List.getElem?_take] at hj
  split at hj
  · simpa using hj
  · cases hj

theorem ins_cells {L olds news R : List Value} {i n : Nat} (hLl : (n + 1) * 2 ≤ L.length) (ho : olds.length = n * 2) (hn : news.length = 2) (hi : i ≤ n) (hL : L.take (i * 2) = olds.take (i * 2)) :
    (((L.take ((i + 1) * 2) ++ (olds.drop (i * 2) ++ R)).take (i * 2)) ++ (news ++ ((L.take ((i + 1) * 2) ++ (olds.drop (i * 2) ++ R)).drop (i * 2 + news.length)))).take ((n + 1) * 2) = olds.take (i * 2) ++ (news ++ olds.drop (i * 2)) := by
  have hl : (L.take ((i + 1) * 2)).length = (i + 1) * 2 := by rw [List.length_take]; omega
  have a1 : (L.take ((i + 1) * 2) ++ (olds.drop (i * 2) ++ R)).take (i * 2) = olds.take (i * 2) := by rw [List.take_append_of_le_length (by omega), List.take_take, Nat.min_eq_left (by omega), hL]
  have a2 : (L.take ((i + 1) * 2) ++ (olds.drop (i * 2) ++ R)).drop (i * 2 + news.length) = olds.drop (i * 2) ++ R := List.drop_left' (by omega)
  rw [a1, a2]
  rw [show olds.take (i * 2) ++ (news ++ (olds.drop (i * 2) ++ R)) = (olds.take (i * 2) ++ (news ++ olds.drop (i * 2))) ++ R by simp]
  exact List.take_left' (by simp only [List.length_append, List.length_take, List.length_drop]; omega)
theorem ins_cells2 {L olds news R : List Value} {i n m : Nat} (hLl : (n + 1) * 2 ≤ L.length) (ho : olds.length = n * 2) (hn : news.length = 2) (hi : i ≤ n) (hL : L.take (i * 2) = olds.take (i * 2)) :
    (((L.take (i * 2) ++ (news ++ L.drop m)).take ((i + 1) * 2)) ++ (olds.drop (i * 2) ++ R)).take ((n + 1) * 2) = olds.take (i * 2) ++ (news ++ olds.drop (i * 2)) := by
  have hl : (L.take (i * 2)).length = i * 2 := by rw [List.length_take]; omega
  have a1 : (L.take (i * 2) ++ (news ++ L.drop m)).take ((i + 1) * 2) = olds.take (i * 2) ++ news := by
    rw [← List.append_assoc, hL]
    rw [hL] at hl
    exact List.take_left' (by rw [List.length_append]; omega)
  rw [a1]
  rw [show (olds.take (i * 2) ++ news) ++ (olds.drop (i * 2) ++ R) = (olds.take (i * 2) ++ (news ++ olds.drop (i * 2))) ++ R by simp]
  exact List.take_left' (by simp only [List.length_append, List.length_take, List.length_drop]; omega)

def cInsF : Con := { A := List FileD × Nat × FileD, X := Unit, n := 95, args := fun a => [.own 0 2 (eFiles a.1), .int .i64 a.2.1, .own 1 2 (eFiles [a.2.2])], boxes := fun _ => [], pre := fun a => a.2.1 ≤ a.1.length ∧ a.1.length ≤ 1048576, post := fun _ _ => True, res := fun a _ => .own 8 2 (eFiles (insAtF a.1 a.2.1 a.2.2)), fin := fun a _ => [(8, .own 32 2 true (eFiles (insAtF a.1 a.2.1 a.2.2)))], owns := fun a => [(0, 32, 2, eFiles a.1), (1, 32, 2, eFiles [a.2.2])], mv := true }
set_option maxHeartbeats 4000000 in
theorem insF_has : Has Tryd.prog 143 cInsF := by
  refine ⟨fun args w => Go.MuLone.run_callFunc_enter Tryd.func143 (by kernel_rfl) rfl args w, fun _ => ⟨(), trivial⟩, fun _ _ => rfl, ?_⟩
  rintro ⟨l, i, f⟩ ⟨h1, h2⟩ c vs β fp hn hpin hlen hlen2 S
  replace h1 : i ≤ l.length := h1
  replace h2 : l.length ≤ 1048576 := h2
  have hp : c.pins = [] := hpin
  have hr := start_rel hlen S
  obtain ⟨v0, vs1, rfl, r0, hr⟩ := hr.uncons
  obtain ⟨v1, vs2, rfl, r1, hr⟩ := hr.uncons
  obtain ⟨v2, vs3, rfl, r2, hr⟩ := hr.uncons
  cases hr
  have m0 : (cInsF.start2 (l, i, f)).m 0 = some (.own 32 2 true (eFiles l)) := rfl
  have m1 : (cInsF.start2 (l, i, f)).m 1 = some (.own 32 2 true (eFiles [f])) := rfl
  have m8 : (cInsF.start2 (l, i, f)).m 8 = none := rfl
  have e0 : v0 = β 0 := by cases r0 with | own _ _ h3 _ => exact (h3 _ _ _ _ m0).1
  have e2 : v2 = β 1 := by cases r2 with | own _ _ h3 _ => exact (h3 _ _ _ _ m1).1
  have e1 : v1 = .int .i64 i := by cases r1; rfl
  subst e1
  obtain ⟨_, hR1, B1⟩ := S.mem 1 _ m1
  rcases B1 with ⟨_, hc, _⟩ | ⟨b1, cap1, cs1, f1, q1, q2, q3, q4, q5, q6, q7, _⟩
  · simp [eFiles] at hc
  have q7 := q7 rfl
  have hl1 : (eFiles [f]).length = 1 := rfl
  rw [hl1] at q1 q3 q6
  have hm1 : (eFiles [f]).flatten = eFile f := by simp [eFiles]
  have fin : ∀ {v' : Value} {w' : World}, (∃ β' fp' a', SatI c ⟨fun _ => none, get? [(8, .own 32 2 true (eFiles (insAtF l i f)))]⟩ a' w' β' fp' ∧ RelL w' (get? [(8, .own 32 2 true (eFiles (insAtF l i f)))]) β' c [.own 8 2 (eFiles (insAtF l i f))] [v']) →
      ∃ x, cInsF.post (l, i, f) x ∧ ∃ v, Ending.returned v' = Ending.returned v ∧ ∃ β' fp' a', SatI c (cInsF.end_ (l, i, f) x) a' w' β' fp' ∧ RelL w' (get? (cInsF.fin (l, i, f) x)) β' c [cInsF.res (l, i, f) x] [v] :=
    fun ⟨β', fp', a', g1, g2⟩ => ⟨(), trivial, _, rfl, β', fp', a', g1, g2⟩
  by_cases hin : i = l.length
  · -- at the end
    have hap := apnd_ok (P := Tryd.prog) tTab_ok S (ty := 23) (d := 8) (K := fun av m => av = .own 8 2 (eFiles l ++ eFiles [f]) ∧ m 8 = some (.own 32 2 true (eFiles l ++ eFiles [f]))) (t := 23) (t2 := 23) r0 r2 (by
      simp -implicitDefEqProofs [vc_skip, extOf, vc_seq, vc_cond, vc_block, vc_exit, vc_ret, vc_region, vc_regionD, vc_loop, kSeq_normal, kSeq_ret, kSeq_exit, kBlock_normal, kBlock_ret, kBlock_exit, kLoop_normal, kLoop_ret, kLoop_exit, kCond_bool, kNorm_app, vcOps_nil, vcOps_cons, kOps_app, kStep_some, kStep_none, vcDL_nil, vcDL_cons, kOpsD_app, kStepD_true, kStepD_false, kStepC_some, kStepC_none, kMv_app, act3_store, act3_call, act3_bs, kAct_app, kSt2_app, stealSlots, stealL, stealOne, subIn, AV.stolen, act_store, act_bs, act_append, act_call, kSet_app, kSet2_app, kSetG_app, kSetG_app0, kStore_ptr, kStore_eptr, kCallW_some, kCallC_some, kCall_some, wk_T, wk_n, wk_keep, wk_inv, wk_act, wk_dr, wk_le, aCalm, wantC, dstOk, calm, aCallK, aCall3K, subOf, subRep, aCall2K, apnd, bsMove, putBox, putOwn, partAV, mvL, AV.mv, AV.base, AV.moved, AV.src, TI.flat, apSize, pickAV, St.val, St.cond, St.fn, St.next, St.set, St.trim, wipe_eq, wipeE_app, wipeM_app, pickEnv, get?, cGet, upd_app, withPuts, killAll, rm, freshP, Oper.hnd, Sc.st, ofConst, constOk, lenAV, elemLen, loadAV, ldL, ld1, fieldAddrAV, indexAddrAV, sliceAV, convAV, buildAV, fillAV, fieldAV, Out.of, binAV, AV.rows, AV.one, AV.cells, AV.deepOk, AV.toD, toDs, partRows, partRowsM, partsDeep, TK.zeroAV, TK.zeroD, byteOf, inR, Op.operands, Call.operands, passVs, passV, passL, pass1, passB, pasVs, pasV, pasL, pas1, ownsOk, okHs, okHs2, okFin, finOk2, rho, over, backRes, backAV, backAV1, backBlk, putBack, back2, back2_V, back2_1, m2, AV.wipe, AV.wipeV, AV.wipe1, Blk.wipe, AV.hs, AV.hs.hsL, alOps, Con.start2, Con.pk, bodyQ, fini, resAV, resA, firstId, Sc.from, renEnv, renT, renV, renVs, renL, ren1, renBox, renOwn, okRen, clOf, actB, setRow, flatRows, flatD, noInv, shr_nil, shr_some, kStepF_some, shareL, AV.viewed, AV.viewed1, cInsF, apnd, tTab, elemLen, AV.base, AV.moved, m0, m1, m8, TI.flat, apSize]
      omega)
    obtain ⟨v', w', av, m, β', fp', g1, ⟨rfl, hm8⟩, g3, g4⟩ := hap
    have hins : eFiles l ++ eFiles [f] = eFiles (insAtF l i f) := by subst hin; simp [eFiles, insAtF]
    have hlast := only8 g3 hp (e := 32) (k := 2) (R := eFiles l ++ eFiles [f]) hm8
    obtain ⟨a', s1, s2⟩ := hlast
    have hv : v' = β' 8 := by cases g4 with | own _ _ h3 _ => exact (h3 32 2 true (eFiles l ++ eFiles [f]) hm8).1
    rw [← hv] at s2
    rw [hins] at s1 s2
    have hcall : Calls Tryd.prog 143 #[v0, .int .i64 i, v2] c.w0 fun e w1 => e = .returned v' ∧ w1 = w' := by
      obtain ⟨_, _, B0⟩ := S.mem 0 _ m0
      subst hin
      rcases B0 with ⟨p1, p2, p3⟩ | ⟨b, cap, cs, f0, p1, p2, p3, p4, p5, p6, p7, _⟩
      · have : l = [] := by cases l with | nil => rfl | cons => simp [eFiles] at p2
        subst this
        exact insF_end v0 v2 none 0 0 b1 1 cap1 c.w0 w' v' (by omega) (by rw [e0, p1]) (by omega) (by simp) (by rw [e2, q1]) g1
      · rw [eFiles_length] at p1 p3
        exact insF_end v0 v2 (some ⟨b, 0, none⟩) l.length cap b1 1 cap1 c.w0 w' v' (by omega) (by rw [e0, p1]) p3 (by simp) (by rw [e2, q1]) g1
    refine hcall.mono ?_
    rintro e w1 ⟨rfl, rfl⟩
    exact fin ⟨β', fp', a', s1, s2⟩
  · have hlt : i < l.length := by omega
    obtain ⟨_, hR0, B0⟩ := S.mem 0 _ m0
    rcases B0 with ⟨_, p2, _⟩ | ⟨b, cap, cs, f0, p1, p2, p3, p4, p5, p6, p7, _⟩
    · exfalso
      have : l.length = 0 := by rw [← eFiles_length, p2]; rfl
      omega
    have p7 := p7 rfl
    rw [eFiles_length] at p1 p3 p6
    have hcsl : cs.toList.length = cap * 2 := by rw [Array.length_toList, p5]
    have hcsl1 : cs1.toList.length = cap1 * 2 := by rw [Array.length_toList, q5]
    have hcl : (cs.toList.take (l.length * 2)).length = l.length * 2 := by rw [List.length_take, hcsl]; omega
    have hvl : (cs1.toList.take (1 * 2)).length = 1 * 2 := by rw [List.length_take, hcsl1]; omega
    have hvb : b1 ≠ b := fun e => S.disj 0 1 _ _ m0 m1 (by decide) b (by simp [Ob, p1]) (by simp [Ob, q1, e])
    have hI := fun {w' : World} {b' cap' : Nat} {cs' : Array Value} hblk hcap hmax hsz hcells hb' hother hsize hos htape hout =>
      ins_end (w' := w') (b' := b') (cap' := cap') (cs' := cs') (i := i) S hp m0 m1 (by rw [eFiles_length]; exact h1) (by rw [p7]; exact p6) (by rw [q7]; exact q6) hblk hcap hmax hsz hcells hb' hother hsize hos htape hout
    rw [eFiles_length, hl1] at hI
    rw [eInsF] at hI
    have hother0 : ∀ x, (∀ n cc, β 0 ≠ .slice (some ⟨x, 0, none⟩) n cc) → x ≠ b := fun x h e => h l.length cap (by rw [e]; exact p1)
    by_cases hroom : l.length + 1 ≤ cap
    · have hcall := insF_shift b l.length cap i b1 1 cap1 (cs.toList.take (l.length * 2)) (cs1.toList.take (1 * 2)) c.w0 hlt (by omega) hroom (by unfold maxLen at p4; omega) hvb hcl hvl (two_cells p2)
        (fun j hj => by rw [World.cell_of p2, Array.getElem?_eq_getElem (show j < cs.size by omega)]; rfl) (fun j hj => by simp [World.frozen?, p2]) (two_cells q2) p6.oneCell q6.oneCell
        _ _ _ _ (by simp [World.shape?, q2]; exact ⟨rfl, rfl⟩) (by simp [World.shape?, p2]; exact ⟨rfl, rfl⟩) (by rw [p5]; omega) (by simp [World.frozen?, q2]) (by simp [World.frozen?, q2])
      rw [e0, e2, p1, q1]
      refine hcall.mono ?_
      rintro e w' ⟨rfl, rfl⟩
      have hcs : cs = cs.toList.toArray := by simp
      have hb0 : c.w0.drew.heap[b]? = some (.cells cs.toList.toArray 32 (0, 0)) := by rw [← hcs]; exact p2
      have hdl : ((cs.toList.take (l.length * 2)).drop (i * 2)).length = (l.length - i) * 2 := by rw [List.length_drop, hcl]; omega
      obtain ⟨z1, z2, z3, z4, z5, z6⟩ := setCells_spec b ((cs.toList.take (l.length * 2)).drop (i * 2)) ((i + 1) * 2) c.w0.drew cs.toList _ _ hb0 (by rw [hdl, hcsl]; omega)
      obtain ⟨y1, y2, y3, y4, y5, y6⟩ := setCells_spec b (cs1.toList.take (1 * 2)) (i * 2) _ _ _ _ z1 (by rw [hvl]; simp; omega)
      refine fin (hI y1 hroom p4 ?_ ?_ (.inr ⟨_, _, p1⟩) (fun x _ hx => (y2 x (hother0 x hx)).trans (z2 x (hother0 x hx))) ?_ (y4.trans z4) (y5.trans z5) (y6.trans z6))
      · simp only [List.size_toArray]; simp; omega
      · rw [List.toList_toArray]
        exact ins_cells (by omega) hcl (by simpa using hvl) h1 (by rw [List.take_take, Nat.min_eq_left (by omega)])
      · rw [y3, z3]; exact Nat.le_refl _
    · have hcall := insF_grow b l.length cap i b1 1 cap1 (cs.toList.take (l.length * 2)) (cs1.toList.take (1 * 2)) c.w0 hlt (by omega) p3 (by omega) (by omega) hcl hvl (two_cells p2) (two_cells q2) p6.oneCell q6.oneCell
      rw [e0, e2, p1, q1]
      refine hcall.mono ?_
      rintro e w' ⟨rfl, rfl⟩
      have hGn : l.length + 1 ≤ grownCap c.w0 (l.length + 1) cap 32 := grownCap_ge c.w0 _ _ _
      have hGm := grownCap_le_maxLen c.w0 (l.length + 1) cap 32 (by unfold maxLen; omega)
      generalize grownCap c.w0 (l.length + 1) cap 32 = G at hGn hGm ⊢
      generalize hrow : ((cs.toList.take (l.length * 2)).take (i * 2)).toArray ++ Builtin.zeroCells #[.string ⟨#[]⟩, .slice none 0 0] (l.length + 1 - i) ++ Builtin.zeroCells #[.string ⟨#[]⟩, .slice none 0 0] (G - (l.length + 1)) = ROW
      have hrl : ROW.size = G * 2 := by
        rw [← hrow]
        simp [Builtin.zeroCells]
        omega
      have hrt : ROW.toList.take (i * 2) = (cs.toList.take (l.length * 2)).take (i * 2) := by
        rw [← hrow]
        simp only [Array.toList_append, List.append_assoc]
        rw [List.take_left' (by rw [List.length_take, hcl]; omega)]
      have hrl2 : ROW.toList.length = G * 2 := by rw [Array.length_toList, hrl]
      have hb0 : (c.w0.alloc (.cells ROW 32)).drew.heap[c.w0.heap.size]? = some (.cells ROW.toList.toArray 32 (0, 0)) := by
        have : ROW = ROW.toList.toArray := by simp
        rw [← this]
        exact heap_alloc_new c.w0 _
      have hdl : ((cs.toList.take (l.length * 2)).drop (i * 2)).length = (l.length - i) * 2 := by rw [List.length_drop, hcl]; omega
      obtain ⟨z1, z2, z3, z4, z5, z6⟩ := setCells_spec c.w0.heap.size (cs1.toList.take (1 * 2)) (i * 2) (c.w0.alloc (.cells ROW 32)).drew ROW.toList _ _ hb0 (by rw [hvl, hrl2]; omega)
      obtain ⟨y1, y2, y3, y4, y5, y6⟩ := setCells_spec c.w0.heap.size ((cs.toList.take (l.length * 2)).drop (i * 2)) ((i + 1) * 2) ((c.w0.alloc (.cells ROW 32)).drew.setCells c.w0.heap.size (i * 2) (cs1.toList.take (1 * 2))).drew _ _ _ z1 (by
        rw [hdl]
        simp only [List.length_append, List.length_take, List.length_drop, hrl2, hcsl1]
        omega)
      refine fin (hI y1 hGn hGm ?_ ?_ (.inl (Nat.le_refl _)) (fun x hx _ => (y2 x (by omega)).trans ((z2 x (by omega)).trans (heap_alloc_old c.w0 _ hx))) ?_ (y4.trans z4) (y5.trans z5) (y6.trans z6))
      · simp only [List.size_toArray, List.length_append, List.length_take, List.length_drop, hrl2, hcsl1, hcsl]
        omega
      · rw [List.toList_toArray]
        exact ins_cells2 (by omega) hcl (by simpa using hvl) h1 hrt
      · rw [y3]
        show _ ≤ (World.setCells _ _ _ _).heap.size
        rw [z3]
        show _ ≤ (c.w0.alloc _).heap.size
        simp

end Vx
end Go.Proofs.YtlhkmgbmnbkaeaaDoor
/-
  Contracts: bytes, names, lines.
-/
namespace Go.Proofs.YtlhkmgbmnbkaeaaDoor
namespace Vx
open Go.RowKit

def cWithin : Con := .fn 15 (Int × Int × Int) (fun a => [.int .i64 a.1, .int .i64 a.2.1, .int .i64 a.2.2]) (fun _ => True) (fun a => .bool (decide (a.2.1 ≤ a.1) && decide (a.1 ≤ a.2.2))) (fun _ => [])
set_option maxHeartbeats 4000000 in
theorem within_has : Has Tryd.prog 126 cWithin := by
  refine has_walk mixed tTab_ok (l := []) HasL.nil [0, 1, 2, 6] ((fun a n (_ : Nat) => (fun _ => noInv) a n)) [] Tryd.func126 (by kernel_rfl) (code := _) (by unfold Tryd.f126; rfl) (by kernel_rfl) (by decide) (fun _ => ⟨(), trivial⟩) (by intro h; first | exact fun _ => rfl | cases h) (by kernel_rfl) ?_
  intro a _
  obtain ⟨n, lo, hi⟩ := a
  simp -implicitDefEqProofs [vc_skip, extOf, vc_seq, vc_cond, vc_block, vc_exit, vc_ret, vc_region, vc_regionD, vc_loop, kSeq_normal, kSeq_ret, kSeq_exit, kBlock_normal, kBlock_ret, kBlock_exit, kLoop_normal, kLoop_ret, kLoop_exit, kCond_bool, kNorm_app, vcOps_nil, vcOps_cons, kOps_app, kStep_some, kStep_none, vcDL_nil, vcDL_cons, kOpsD_app, kStepD_true, kStepD_false, kStepC_some, kStepC_none, kMv_app, act3_store, act3_call, act3_bs, kAct_app, kSt2_app, stealSlots, stealL, stealOne, subIn, AV.stolen, act_store, act_bs, act_append, act_call, kSet_app, kSet2_app, kSetG_app, kSetG_app0, kStore_ptr, kStore_eptr, kCallW_some, kCallC_some, kCall_some, wk_T, wk_n, wk_keep, wk_inv, wk_act, wk_dr, wk_le, aCalm, wantC, dstOk, calm, aCallK, aCall3K, subOf, subRep, aCall2K, apnd, bsMove, putBox, putOwn, partAV, mvL, AV.mv, AV.base, AV.moved, AV.src, TI.flat, apSize, pickAV, St.val, St.cond, St.fn, St.next, St.set, St.trim, wipe_eq, wipeE_app, wipeM_app, pickEnv, get?, cGet, upd_app, withPuts, killAll, rm, freshP, Oper.hnd, Sc.st, ofConst, constOk, lenAV, elemLen, loadAV, ldL, ld1, fieldAddrAV, indexAddrAV, sliceAV, convAV, buildAV, fillAV, fieldAV, Out.of, binAV, AV.rows, AV.one, AV.cells, AV.deepOk, AV.toD, toDs, partRows, partRowsM, partsDeep, TK.zeroAV, TK.zeroD, byteOf, inR, Op.operands, Call.operands, passVs, passV, passL, pass1, passB, pasVs, pasV, pasL, pas1, ownsOk, okHs, okHs2, okFin, finOk2, rho, over, backRes, backAV, backAV1, backBlk, putBack, back2, back2_V, back2_1, m2, AV.wipe, AV.wipeV, AV.wipe1, Blk.wipe, AV.hs, AV.hs.hsL, alOps, Con.start2, Con.pk, bodyQ, fini, resAV, resA, firstId, Sc.from, renEnv, renT, renV, renVs, renL, ren1, renBox, renOwn, okRen, clOf, actB, setRow, flatRows, flatD, noInv, shr_nil, shr_some, kStepF_some, shareL, AV.viewed, AV.viewed1, cWithin, Con.fn, tTab]
  omega

def cL1In : Con := .fn 15 (Int × Int × Int) (fun a => [.int .i64 a.1, .int .i64 a.2.1, .int .i64 a.2.2]) (fun _ => True) (fun a => .bool (decide (a.2.1 ≤ a.1) && decide (a.1 ≤ a.2.2))) (fun _ => [])
set_option maxHeartbeats 4000000 in
theorem l1In_has : Has Tryd.prog 98 cL1In := by
  refine has_walk mixed tTab_ok (l := []) HasL.nil [0, 1, 2, 6] ((fun a n (_ : Nat) => (fun _ => noInv) a n)) [] Tryd.func98 (by kernel_rfl) (code := _) (by unfold Tryd.f98; rfl) (by kernel_rfl) (by decide) (fun _ => ⟨(), trivial⟩) (by intro h; first | exact fun _ => rfl | cases h) (by kernel_rfl) ?_
  intro a _
  obtain ⟨n, lo, hi⟩ := a
  simp -implicitDefEqProofs [vc_skip, extOf, vc_seq, vc_cond, vc_block, vc_exit, vc_ret, vc_region, vc_regionD, vc_loop, kSeq_normal, kSeq_ret, kSeq_exit, kBlock_normal, kBlock_ret, kBlock_exit, kLoop_normal, kLoop_ret, kLoop_exit, kCond_bool, kNorm_app, vcOps_nil, vcOps_cons, kOps_app, kStep_some, kStep_none, vcDL_nil, vcDL_cons, kOpsD_app, kStepD_true, kStepD_false, kStepC_some, kStepC_none, kMv_app, act3_store, act3_call, act3_bs, kAct_app, kSt2_app, stealSlots, stealL, stealOne, subIn, AV.stolen, act_store, act_bs, act_append, act_call, kSet_app, kSet2_app, kSetG_app, kSetG_app0, kStore_ptr, kStore_eptr, kCallW_some, kCallC_some, kCall_some, wk_T, wk_n, wk_keep, wk_inv, wk_act, wk_dr, wk_le, aCalm, wantC, dstOk, calm, aCallK, aCall3K, subOf, subRep, aCall2K, apnd, bsMove, putBox, putOwn, partAV, mvL, AV.mv, AV.base, AV.moved, AV.src, TI.flat, apSize, pickAV, St.val, St.cond, St.fn, St.next, St.set, St.trim, wipe_eq, wipeE_app, wipeM_app, pickEnv, get?, cGet, upd_app, withPuts, killAll, rm, freshP, Oper.hnd, Sc.st, ofConst, constOk, lenAV, elemLen, loadAV, ldL, ld1, fieldAddrAV, indexAddrAV, sliceAV, convAV, buildAV, fillAV, fieldAV, Out.of, binAV, AV.rows, AV.one, AV.cells, AV.deepOk, AV.toD, toDs, partRows, partRowsM, partsDeep, TK.zeroAV, TK.zeroD, byteOf, inR, Op.operands, Call.operands, passVs, passV, passL, pass1, passB, pasVs, pasV, pasL, pas1, ownsOk, okHs, okHs2, okFin, finOk2, rho, over, backRes, backAV, backAV1, backBlk, putBack, back2, back2_V, back2_1, m2, AV.wipe, AV.wipeV, AV.wipe1, Blk.wipe, AV.hs, AV.hs.hsL, alOps, Con.start2, Con.pk, bodyQ, fini, resAV, resA, firstId, Sc.from, renEnv, renT, renV, renVs, renL, ren1, renBox, renOwn, okRen, clOf, actB, setRow, flatRows, flatD, noInv, shr_nil, shr_some, kStepF_some, shareL, AV.viewed, AV.viewed1, cL1In, Con.fn, tTab]
  omega

def wordB (n : Int) : Bool := (decide (97 ≤ n) && decide (n ≤ 122)) || (decide (48 ≤ n) && decide (n ≤ 57))
def cWordByte : Con := .fn 17 Int (fun a => [.int .u8 a]) (fun _ => True) (fun a => .bool (wordB a)) (fun _ => [])
set_option maxHeartbeats 4000000 in
theorem wordByte_has : Has Tryd.prog 127 cWordByte := by
  refine has_walk mixed tTab_ok (l := []) HasL.nil [0, 2] ((fun a n (_ : Nat) => (fun _ => noInv) a n)) [] Tryd.func127 (by kernel_rfl) (code := _) (by unfold Tryd.f127; rfl) (by kernel_rfl) (by decide) (fun _ => ⟨(), trivial⟩) (by intro h; first | exact fun _ => rfl | cases h) (by kernel_rfl) ?_
  intro a _
  simp -implicitDefEqProofs [vc_skip, extOf, vc_seq, vc_cond, vc_block, vc_exit, vc_ret, vc_region, vc_regionD, vc_loop, kSeq_normal, kSeq_ret, kSeq_exit, kBlock_normal, kBlock_ret, kBlock_exit, kLoop_normal, kLoop_ret, kLoop_exit, kCond_bool, kNorm_app, vcOps_nil, vcOps_cons, kOps_app, kStep_some, kStep_none, vcDL_nil, vcDL_cons, kOpsD_app, kStepD_true, kStepD_false, kStepC_some, kStepC_none, kMv_app, act3_store, act3_call, act3_bs, kAct_app, kSt2_app, stealSlots, stealL, stealOne, subIn, AV.stolen, act_store, act_bs, act_append, act_call, kSet_app, kSet2_app, kSetG_app, kSetG_app0, kStore_ptr, kStore_eptr, kCallW_some, kCallC_some, kCall_some, wk_T, wk_n, wk_keep, wk_inv, wk_act, wk_dr, wk_le, aCalm, wantC, dstOk, calm, aCallK, aCall3K, subOf, subRep, aCall2K, apnd, bsMove, putBox, putOwn, partAV, mvL, AV.mv, AV.base, AV.moved, AV.src, TI.flat, apSize, pickAV, St.val, St.cond, St.fn, St.next, St.set, St.trim, wipe_eq, wipeE_app, wipeM_app, pickEnv, get?, cGet, upd_app, withPuts, killAll, rm, freshP, Oper.hnd, Sc.st, ofConst, constOk, lenAV, elemLen, loadAV, ldL, ld1, fieldAddrAV, indexAddrAV, sliceAV, convAV, buildAV, fillAV, fieldAV, Out.of, binAV, AV.rows, AV.one, AV.cells, AV.deepOk, AV.toD, toDs, partRows, partRowsM, partsDeep, TK.zeroAV, TK.zeroD, byteOf, inR, Op.operands, Call.operands, passVs, passV, passL, pass1, passB, pasVs, pasV, pasL, pas1, ownsOk, okHs, okHs2, okFin, finOk2, rho, over, backRes, backAV, backAV1, backBlk, putBack, back2, back2_V, back2_1, m2, AV.wipe, AV.wipeV, AV.wipe1, Blk.wipe, AV.hs, AV.hs.hsL, alOps, Con.start2, Con.pk, bodyQ, fini, resAV, resA, firstId, Sc.from, renEnv, renT, renV, renVs, renL, ren1, renBox, renOwn, okRen, clOf, actB, setRow, flatRows, flatD, noInv, shr_nil, shr_some, kStepF_some, shareL, AV.viewed, AV.viewed1, cWordByte, Con.fn, tTab, wordB]
  repeat' (first | intro _ | apply And.intro)
  all_goals first | omega | grind

def nameB (s : Str) : Bool := decide (1 ≤ s.length) && decide (s.length ≤ 6) && s.all fun b => wordB b.toNat
def cNameOk : Con := .fn 19 Str (fun s => [.str s]) (fun _ => True) (fun s => .bool (nameB s)) (fun _ => [])
set_option maxHeartbeats 4000000 in
theorem nameOk_has : Has Tryd.prog 70 cNameOk := by
  refine has_walk mixed tTab_ok (l := [(126, cWithin), (127, cWordByte)]) (HasL.cons within_has (HasL.cons wordByte_has HasL.nil)) [0, 2, 3] ((fun a n (_ : Nat) => (fun s _ => ⟨Nat, fun i => ⟨[(0, true, .str s), (2, true, .bool false), (3, true, .int .i64 i)], []⟩, fun i => i ≤ s.length ∧ 1 ≤ s.length ∧ s.length ≤ 6 ∧ (s.take i).all (fun b => wordB b.toNat) = true, fun i => s.length - i⟩) a n)) [] Tryd.func70 (by kernel_rfl) (code := _) (by unfold Tryd.f70; rfl) (by kernel_rfl) (by decide) (fun _ => ⟨(), trivial⟩) (by intro h; first | exact fun _ => rfl | cases h) (by kernel_rfl) ?_
  intro (s : Str) _
  simp -implicitDefEqProofs [vc_skip, extOf, vc_seq, vc_cond, vc_block, vc_exit, vc_ret, vc_region, vc_regionD, vc_loop, kSeq_normal, kSeq_ret, kSeq_exit, kBlock_normal, kBlock_ret, kBlock_exit, kLoop_normal, kLoop_ret, kLoop_exit, kCond_bool, kNorm_app, vcOps_nil, vcOps_cons, kOps_app, kStep_some, kStep_none, vcDL_nil, vcDL_cons, kOpsD_app, kStepD_true, kStepD_false, kStepC_some, kStepC_none, kMv_app, act3_store, act3_call, act3_bs, kAct_app, kSt2_app, stealSlots, stealL, stealOne, subIn, AV.stolen, act_store, act_bs, act_append, act_call, kSet_app, kSet2_app, kSetG_app, kSetG_app0, kStore_ptr, kStore_eptr, kCallW_some, kCallC_some, kCall_some, wk_T, wk_n, wk_keep, wk_inv, wk_act, wk_dr, wk_le, aCalm, wantC, dstOk, calm, aCallK, aCall3K, subOf, subRep, aCall2K, apnd, bsMove, putBox, putOwn, partAV, mvL, AV.mv, AV.base, AV.moved, AV.src, TI.flat, apSize, pickAV, St.val, St.cond, St.fn, St.next, St.set, St.trim, wipe_eq, wipeE_app, wipeM_app, pickEnv, get?, cGet, upd_app, withPuts, killAll, rm, freshP, Oper.hnd, Sc.st, ofConst, constOk, lenAV, elemLen, loadAV, ldL, ld1, fieldAddrAV, indexAddrAV, sliceAV, convAV, buildAV, fillAV, fieldAV, Out.of, binAV, AV.rows, AV.one, AV.cells, AV.deepOk, AV.toD, toDs, partRows, partRowsM, partsDeep, TK.zeroAV, TK.zeroD, byteOf, inR, Op.operands, Call.operands, passVs, passV, passL, pass1, passB, pasVs, pasV, pasL, pas1, ownsOk, okHs, okHs2, okFin, finOk2, rho, over, backRes, backAV, backAV1, backBlk, putBack, back2, back2_V, back2_1, m2, AV.wipe, AV.wipeV, AV.wipe1, Blk.wipe, AV.hs, AV.hs.hsL, alOps, Con.start2, Con.pk, bodyQ, fini, resAV, resA, firstId, Sc.from, renEnv, renT, renV, renVs, renL, ren1, renBox, renOwn, okRen, clOf, actB, setRow, flatRows, flatD, noInv, shr_nil, shr_some, kStepF_some, shareL, AV.viewed, AV.viewed1, cNameOk, Con.fn, tTab, cWithin, cWordByte]
  try dsimp only
  try simp +contextual [eStr, eFile, cast_succ, cast_eq, cast_zero, List.getElem?_eq_getElem, eStrs_set, eFiles_set, eStrs_rep, eFiles_rep, ← eStrs_append, ← eFiles_append, eStrs_take, eStrs_drop, eFiles_take, eFiles_drop, eStrs_snoc, eFiles_snoc, and_assoc]
  repeat' (first | intro _ | apply And.intro)
  all_goals first | omega | grind [all_take, nameB, List.take_succ_eq_append_getElem]

def cL4Name : Con := .fn 35 Str (fun s => [.str s]) (fun _ => True) (fun s => .bool (nameB s)) (fun _ => [])
set_option maxHeartbeats 4000000 in
theorem l4Name_has : Has Tryd.prog 73 cL4Name := by
  refine has_walk mixed tTab_ok (l := [(98, cL1In)]) (HasL.cons l1In_has HasL.nil) [0, 2, 3] ((fun a n (_ : Nat) => (fun s _ => ⟨Nat, fun i => ⟨[(0, true, .str s), (2, true, .bool false), (3, true, .int .i64 i)], []⟩, fun i => i ≤ s.length ∧ (s.take i).all (fun b => wordB b.toNat) = true, fun i => s.length - i⟩) a n)) [] Tryd.func73 (by kernel_rfl) (code := _) (by unfold Tryd.f73; rfl) (by kernel_rfl) (by decide) (fun _ => ⟨(), trivial⟩) (by intro h; first | exact fun _ => rfl | cases h) (by kernel_rfl) ?_
  intro (s : Str) _
  simp -implicitDefEqProofs [vc_skip, extOf, vc_seq, vc_cond, vc_block, vc_exit, vc_ret, vc_region, vc_regionD, vc_loop, kSeq_normal, kSeq_ret, kSeq_exit, kBlock_normal, kBlock_ret, kBlock_exit, kLoop_normal, kLoop_ret, kLoop_exit, kCond_bool, kNorm_app, vcOps_nil, vcOps_cons, kOps_app, kStep_some, kStep_none, vcDL_nil, vcDL_cons, kOpsD_app, kStepD_true, kStepD_false, kStepC_some, kStepC_none, kMv_app, act3_store, act3_call, act3_bs, kAct_app, kSt2_app, stealSlots, stealL, stealOne, subIn, AV.stolen, act_store, act_bs, act_append, act_call, kSet_app, kSet2_app, kSetG_app, kSetG_app0, kStore_ptr, kStore_eptr, kCallW_some, kCallC_some, kCall_some, wk_T, wk_n, wk_keep, wk_inv, wk_act, wk_dr, wk_le, aCalm, wantC, dstOk, calm, aCallK, aCall3K, subOf, subRep, aCall2K, apnd, bsMove, putBox, putOwn, partAV, mvL, AV.mv, AV.base, AV.moved, AV.src, TI.flat, apSize, pickAV, St.val, St.cond, St.fn, St.next, St.set, St.trim, wipe_eq, wipeE_app, wipeM_app, pickEnv, get?, cGet, upd_app, withPuts, killAll, rm, freshP, Oper.hnd, Sc.st, ofConst, constOk, lenAV, elemLen, loadAV, ldL, ld1, fieldAddrAV, indexAddrAV, sliceAV, convAV, buildAV, fillAV, fieldAV, Out.of, binAV, AV.rows, AV.one, AV.cells, AV.deepOk, AV.toD, toDs, partRows, partRowsM, partsDeep, TK.zeroAV, TK.zeroD, byteOf, inR, Op.operands, Call.operands, passVs, passV, passL, pass1, passB, pasVs, pasV, pasL, pas1, ownsOk, okHs, okHs2, okFin, finOk2, rho, over, backRes, backAV, backAV1, backBlk, putBack, back2, back2_V, back2_1, m2, AV.wipe, AV.wipeV, AV.wipe1, Blk.wipe, AV.hs, AV.hs.hsL, alOps, Con.start2, Con.pk, bodyQ, fini, resAV, resA, firstId, Sc.from, renEnv, renT, renV, renVs, renL, ren1, renBox, renOwn, okRen, clOf, actB, setRow, flatRows, flatD, noInv, shr_nil, shr_some, kStepF_some, shareL, AV.viewed, AV.viewed1, cL4Name, Con.fn, tTab, cL1In]
  try dsimp only
  try simp +contextual [eStr, eFile, cast_succ, cast_eq, cast_zero, List.getElem?_eq_getElem, eStrs_set, eFiles_set, eStrs_rep, eFiles_rep, ← eStrs_append, ← eFiles_append, eStrs_take, eStrs_drop, eFiles_take, eFiles_drop, eStrs_snoc, eFiles_snoc, and_assoc]
  repeat' (first | intro _ | apply And.intro)
  all_goals first | omega | grind [all_take, nameB, wordB, List.take_succ_eq_append_getElem]

def lineB (s : Str) : Bool := decide (s.length ≤ 12) && s.all fun b => decide (32 ≤ b.toNat) && decide (b.toNat ≤ 126)
def cLineOk : Con := .fn 23 Str (fun s => [.str s]) (fun _ => True) (fun s => .bool (lineB s)) (fun _ => [])
set_option maxHeartbeats 4000000 in
theorem lineOk_has : Has Tryd.prog 135 cLineOk := by
  refine has_walk mixed tTab_ok (l := []) HasL.nil [0, 2, 3] ((fun a n (_ : Nat) => (fun s _ => ⟨Nat, fun i => ⟨[(0, true, .str s), (2, true, .bool false), (3, true, .int .i64 i)], []⟩, fun i => i ≤ s.length ∧ s.length ≤ 12 ∧ (s.take i).all (fun b => decide (32 ≤ b.toNat) && decide (b.toNat ≤ 126)) = true, fun i => s.length - i⟩) a n)) [] Tryd.func135 (by kernel_rfl) (code := _) (by unfold Tryd.f135; rfl) (by kernel_rfl) (by decide) (fun _ => ⟨(), trivial⟩) (by intro h; first | exact fun _ => rfl | cases h) (by kernel_rfl) ?_
  intro (s : Str) _
  simp -implicitDefEqProofs [vc_skip, extOf, vc_seq, vc_cond, vc_block, vc_exit, vc_ret, vc_region, vc_regionD, vc_loop, kSeq_normal, kSeq_ret, kSeq_exit, kBlock_normal, kBlock_ret, kBlock_exit, kLoop_normal, kLoop_ret, kLoop_exit, kCond_bool, kNorm_app, vcOps_nil, vcOps_cons, kOps_app, kStep_some, kStep_none, vcDL_nil, vcDL_cons, kOpsD_app, kStepD_true, kStepD_false, kStepC_some, kStepC_none, kMv_app, act3_store, act3_call, act3_bs, kAct_app, kSt2_app, stealSlots, stealL, stealOne, subIn, AV.stolen, act_store, act_bs, act_append, act_call, kSet_app, kSet2_app, kSetG_app, kSetG_app0, kStore_ptr, kStore_eptr, kCallW_some, kCallC_some, kCall_some, wk_T, wk_n, wk_keep, wk_inv, wk_act, wk_dr, wk_le, aCalm, wantC, dstOk, calm, aCallK, aCall3K, subOf, subRep, aCall2K, apnd, bsMove, putBox, putOwn, partAV, mvL, AV.mv, AV.base, AV.moved, AV.src, TI.flat, apSize, pickAV, St.val, St.cond, St.fn, St.next, St.set, St.trim, wipe_eq, wipeE_app, wipeM_app, pickEnv, get?, cGet, upd_app, withPuts, killAll, rm, freshP, Oper.hnd, Sc.st, ofConst, constOk, lenAV, elemLen, loadAV, ldL, ld1, fieldAddrAV, indexAddrAV, sliceAV, convAV, buildAV, fillAV, fieldAV, Out.of, binAV, AV.rows, AV.one, AV.cells, AV.deepOk, AV.toD, toDs, partRows, partRowsM, partsDeep, TK.zeroAV, TK.zeroD, byteOf, inR, Op.operands, Call.operands, passVs, passV, passL, pass1, passB, pasVs, pasV, pasL, pas1, ownsOk, okHs, okHs2, okFin, finOk2, rho, over, backRes, backAV, backAV1, backBlk, putBack, back2, back2_V, back2_1, m2, AV.wipe, AV.wipeV, AV.wipe1, Blk.wipe, AV.hs, AV.hs.hsL, alOps, Con.start2, Con.pk, bodyQ, fini, resAV, resA, firstId, Sc.from, renEnv, renT, renV, renVs, renL, ren1, renBox, renOwn, okRen, clOf, actB, setRow, flatRows, flatD, noInv, shr_nil, shr_some, kStepF_some, shareL, AV.viewed, AV.viewed1, cLineOk, Con.fn, tTab]
  try dsimp only
  try simp +contextual [eStr, eFile, cast_succ, cast_eq, cast_zero, List.getElem?_eq_getElem, eStrs_set, eFiles_set, eStrs_rep, eFiles_rep, ← eStrs_append, ← eFiles_append, eStrs_take, eStrs_drop, eFiles_take, eFiles_drop, eStrs_snoc, eFiles_snoc, and_assoc]
  repeat' (first | intro _ | apply And.intro)
  all_goals first | omega | grind [all_take, lineB, List.take_succ_eq_append_getElem]

def cL1Line : Con := .fn 23 Str (fun s => [.str s]) (fun _ => True) (fun s => .bool (lineB s)) (fun _ => [])
set_option maxHeartbeats 4000000 in
theorem l1Line_has : Has Tryd.prog 157 cL1Line := by
  refine has_walk mixed tTab_ok (l := []) HasL.nil [0, 2, 3] ((fun a n (_ : Nat) => (fun s _ => ⟨Nat, fun i => ⟨[(0, true, .str s), (2, true, .bool false), (3, true, .int .i64 i)], []⟩, fun i => i ≤ s.length ∧ (s.take i).all (fun b => decide (32 ≤ b.toNat) && decide (b.toNat ≤ 126)) = true, fun i => s.length - i⟩) a n)) [] Tryd.func157 (by kernel_rfl) (code := _) (by unfold Tryd.f157; rfl) (by kernel_rfl) (by decide) (fun _ => ⟨(), trivial⟩) (by intro h; first | exact fun _ => rfl | cases h) (by kernel_rfl) ?_
  intro (s : Str) _
  simp -implicitDefEqProofs [vc_skip, extOf, vc_seq, vc_cond, vc_block, vc_exit, vc_ret, vc_region, vc_regionD, vc_loop, kSeq_normal, kSeq_ret, kSeq_exit, kBlock_normal, kBlock_ret, kBlock_exit, kLoop_normal, kLoop_ret, kLoop_exit, kCond_bool, kNorm_app, vcOps_nil, vcOps_cons, kOps_app, kStep_some, kStep_none, vcDL_nil, vcDL_cons, kOpsD_app, kStepD_true, kStepD_false, kStepC_some, kStepC_none, kMv_app, act3_store, act3_call, act3_bs, kAct_app, kSt2_app, stealSlots, stealL, stealOne, subIn, AV.stolen, act_store, act_bs, act_append, act_call, kSet_app, kSet2_app, kSetG_app, kSetG_app0, kStore_ptr, kStore_eptr, kCallW_some, kCallC_some, kCall_some, wk_T, wk_n, wk_keep, wk_inv, wk_act, wk_dr, wk_le, aCalm, wantC, dstOk, calm, aCallK, aCall3K, subOf, subRep, aCall2K, apnd, bsMove, putBox, putOwn, partAV, mvL, AV.mv, AV.base, AV.moved, AV.src, TI.flat, apSize, pickAV, St.val, St.cond, St.fn, St.next, St.set, St.trim, wipe_eq, wipeE_app, wipeM_app, pickEnv, get?, cGet, upd_app, withPuts, killAll, rm, freshP, Oper.hnd, Sc.st, ofConst, constOk, lenAV, elemLen, loadAV, ldL, ld1, fieldAddrAV, indexAddrAV, sliceAV, convAV, buildAV, fillAV, fieldAV, Out.of, binAV, AV.rows, AV.one, AV.cells, AV.deepOk, AV.toD, toDs, partRows, partRowsM, partsDeep, TK.zeroAV, TK.zeroD, byteOf, inR, Op.operands, Call.operands, passVs, passV, passL, pass1, passB, pasVs, pasV, pasL, pas1, ownsOk, okHs, okHs2, okFin, finOk2, rho, over, backRes, backAV, backAV1, backBlk, putBack, back2, back2_V, back2_1, m2, AV.wipe, AV.wipeV, AV.wipe1, Blk.wipe, AV.hs, AV.hs.hsL, alOps, Con.start2, Con.pk, bodyQ, fini, resAV, resA, firstId, Sc.from, renEnv, renT, renV, renVs, renL, ren1, renBox, renOwn, okRen, clOf, actB, setRow, flatRows, flatD, noInv, shr_nil, shr_some, kStepF_some, shareL, AV.viewed, AV.viewed1, cL1Line, Con.fn, tTab]
  try dsimp only
  try simp +contextual [eStr, eFile, cast_succ, cast_eq, cast_zero, List.getElem?_eq_getElem, eStrs_set, eFiles_set, eStrs_rep, eFiles_rep, ← eStrs_append, ← eFiles_append, eStrs_take, eStrs_drop, eFiles_take, eFiles_drop, eStrs_snoc, eFiles_snoc, and_assoc]
  repeat' (first | intro _ | apply And.intro)
  all_goals first | omega | grind [all_take, lineB, List.take_succ_eq_append_getElem]

end Vx
end Go.Proofs.YtlhkmgbmnbkaeaaDoor
/-
  Contracts: texts.
-/
namespace Go.Proofs.YtlhkmgbmnbkaeaaDoor
namespace Vx
open Go.RowKit

def textB (t : List Str) : Bool := decide (t.length ≤ 10) && t.all lineB
def cTextOk : Con := .fn 18 (List Str) (fun t => [.sl true 1 (eStrs t)]) (fun _ => True) (fun t => .bool (textB t)) (fun _ => [])
set_option maxHeartbeats 4000000 in
theorem textOk_has : Has Tryd.prog 75 cTextOk := by
  refine has_walk mixed tTab_ok (l := [(135, cLineOk)]) (HasL.cons lineOk_has HasL.nil) [0, 2, 4, 8, 9, 10] ((fun a n (_ : Nat) => (fun t _ => ⟨Nat, fun i => ⟨[(2, true, .bool false), (8, true, .sl true 1 (eStrs t)), (9, true, .int .i64 t.length), (10, true, .int .i64 i)], []⟩, fun i => i ≤ t.length ∧ t.length ≤ 10 ∧ (t.take i).all lineB = true, fun i => t.length - i⟩) a n)) [] Tryd.func75 (by kernel_rfl) (code := _) (by unfold Tryd.f75; rfl) (by kernel_rfl) (by decide) (fun _ => ⟨(), trivial⟩) (by intro h; first | exact fun _ => rfl | cases h) (by kernel_rfl) ?_
  intro (t : List Str) _
  simp -implicitDefEqProofs [vc_skip, extOf, vc_seq, vc_cond, vc_block, vc_exit, vc_ret, vc_region, vc_regionD, vc_loop, kSeq_normal, kSeq_ret, kSeq_exit, kBlock_normal, kBlock_ret, kBlock_exit, kLoop_normal, kLoop_ret, kLoop_exit, kCond_bool, kNorm_app, vcOps_nil, vcOps_cons, kOps_app, kStep_some, kStep_none, vcDL_nil, vcDL_cons, kOpsD_app, kStepD_true, kStepD_false, kStepC_some, kStepC_none, kMv_app, act3_store, act3_call, act3_bs, kAct_app, kSt2_app, stealSlots, stealL, stealOne, subIn, AV.stolen, act_store, act_bs, act_append, act_call, kSet_app, kSet2_app, kSetG_app, kSetG_app0, kStore_ptr, kStore_eptr, kCallW_some, kCallC_some, kCall_some, wk_T, wk_n, wk_keep, wk_inv, wk_act, wk_dr, wk_le, aCalm, wantC, dstOk, calm, aCallK, aCall3K, subOf, subRep, aCall2K, apnd, bsMove, putBox, putOwn, partAV, mvL, AV.mv, AV.base, AV.moved, AV.src, TI.flat, apSize, pickAV, St.val, St.cond, St.fn, St.next, St.set, St.trim, wipe_eq, wipeE_app, wipeM_app, pickEnv, get?, cGet, upd_app, withPuts, killAll, rm, freshP, Oper.hnd, Sc.st, ofConst, constOk, lenAV, elemLen, loadAV, ldL, ld1, fieldAddrAV, indexAddrAV, sliceAV, convAV, buildAV, fillAV, fieldAV, Out.of, binAV, AV.rows, AV.one, AV.cells, AV.deepOk, AV.toD, toDs, partRows, partRowsM, partsDeep, TK.zeroAV, TK.zeroD, byteOf, inR, Op.operands, Call.operands, passVs, passV, passL, pass1, passB, pasVs, pasV, pasL, pas1, ownsOk, okHs, okHs2, okFin, finOk2, rho, over, backRes, backAV, backAV1, backBlk, putBack, back2, back2_V, back2_1, m2, AV.wipe, AV.wipeV, AV.wipe1, Blk.wipe, AV.hs, AV.hs.hsL, alOps, Con.start2, Con.pk, bodyQ, fini, resAV, resA, firstId, Sc.from, renEnv, renT, renV, renVs, renL, ren1, renBox, renOwn, okRen, clOf, actB, setRow, flatRows, flatD, noInv, shr_nil, shr_some, kStepF_some, shareL, AV.viewed, AV.viewed1, cTextOk, Con.fn, tTab, cLineOk]
  try dsimp only
  try simp +contextual [eStr, eFile, cast_succ, cast_eq, cast_zero, List.getElem?_eq_getElem, eStrs_set, eFiles_set, eStrs_rep, eFiles_rep, ← eStrs_append, ← eFiles_append, eStrs_take, eStrs_drop, eFiles_take, eFiles_drop, eStrs_snoc, eFiles_snoc, and_assoc]
  repeat' (first | intro _ | apply And.intro)
  all_goals first | omega | grind [all_take, textB, List.take_succ_eq_append_getElem]

def cL1Ok : Con := .fn 19 (List Str) (fun t => [.sl true 1 (eStrs t)]) (fun _ => True) (fun t => .bool (textB t)) (fun _ => [])
set_option maxHeartbeats 4000000 in
theorem l1Ok_has : Has Tryd.prog 132 cL1Ok := by
  refine has_walk mixed tTab_ok (l := [(157, cL1Line)]) (HasL.cons l1Line_has HasL.nil) [0, 2, 3] ((fun a n (_ : Nat) => (fun t _ => ⟨Nat, fun i => ⟨[(0, true, .sl true 1 (eStrs t)), (2, true, .bool false), (3, true, .int .i64 i)], []⟩, fun i => i ≤ t.length ∧ (t.take i).all lineB = true, fun i => t.length - i⟩) a n)) [] Tryd.func132 (by kernel_rfl) (code := _) (by unfold Tryd.f132; rfl) (by kernel_rfl) (by decide) (fun _ => ⟨(), trivial⟩) (by intro h; first | exact fun _ => rfl | cases h) (by kernel_rfl) ?_
  intro (t : List Str) _
  simp -implicitDefEqProofs [vc_skip, extOf, vc_seq, vc_cond, vc_block, vc_exit, vc_ret, vc_region, vc_regionD, vc_loop, kSeq_normal, kSeq_ret, kSeq_exit, kBlock_normal, kBlock_ret, kBlock_exit, kLoop_normal, kLoop_ret, kLoop_exit, kCond_bool, kNorm_app, vcOps_nil, vcOps_cons, kOps_app, kStep_some, kStep_none, vcDL_nil, vcDL_cons, kOpsD_app, kStepD_true, kStepD_false, kStepC_some, kStepC_none, kMv_app, act3_store, act3_call, act3_bs, kAct_app, kSt2_app, stealSlots, stealL, stealOne, subIn, AV.stolen, act_store, act_bs, act_append, act_call, kSet_app, kSet2_app, kSetG_app, kSetG_app0, kStore_ptr, kStore_eptr, kCallW_some, kCallC_some, kCall_some, wk_T, wk_n, wk_keep, wk_inv, wk_act, wk_dr, wk_le, aCalm, wantC, dstOk, calm, aCallK, aCall3K, subOf, subRep, aCall2K, apnd, bsMove, putBox, putOwn, partAV, mvL, AV.mv, AV.base, AV.moved, AV.src, TI.flat, apSize, pickAV, St.val, St.cond, St.fn, St.next, St.set, St.trim, wipe_eq, wipeE_app, wipeM_app, pickEnv, get?, cGet, upd_app, withPuts, killAll, rm, freshP, Oper.hnd, Sc.st, ofConst, constOk, lenAV, elemLen, loadAV, ldL, ld1, fieldAddrAV, indexAddrAV, sliceAV, convAV, buildAV, fillAV, fieldAV, Out.of, binAV, AV.rows, AV.one, AV.cells, AV.deepOk, AV.toD, toDs, partRows, partRowsM, partsDeep, TK.zeroAV, TK.zeroD, byteOf, inR, Op.operands, Call.operands, passVs, passV, passL, pass1, passB, pasVs, pasV, pasL, pas1, ownsOk, okHs, okHs2, okFin, finOk2, rho, over, backRes, backAV, backAV1, backBlk, putBack, back2, back2_V, back2_1, m2, AV.wipe, AV.wipeV, AV.wipe1, Blk.wipe, AV.hs, AV.hs.hsL, alOps, Con.start2, Con.pk, bodyQ, fini, resAV, resA, firstId, Sc.from, renEnv, renT, renV, renVs, renL, ren1, renBox, renOwn, okRen, clOf, actB, setRow, flatRows, flatD, noInv, shr_nil, shr_some, kStepF_some, shareL, AV.viewed, AV.viewed1, cL1Ok, Con.fn, tTab, cL1Line]
  try dsimp only
  try simp +contextual [eStr, eFile, cast_succ, cast_eq, cast_zero, List.getElem?_eq_getElem, eStrs_set, eFiles_set, eStrs_rep, eFiles_rep, ← eStrs_append, ← eFiles_append, eStrs_take, eStrs_drop, eFiles_take, eFiles_drop, eStrs_snoc, eFiles_snoc, and_assoc]
  repeat' (first | intro _ | apply And.intro)
  all_goals first | omega | grind [all_take, textB, List.take_succ_eq_append_getElem]

def cEqStringS : Con := .fn 26 (List Str × List Str) (fun a => [.sl true 1 (eStrs a.1), .sl true 1 (eStrs a.2)]) (fun _ => True) (fun a => .bool (decide (a.1 = a.2))) (fun _ => [])
set_option maxHeartbeats 4000000 in
theorem eqStringS_has : Has Tryd.prog 38 cEqStringS := by
  refine has_walk mixed tTab_ok (l := []) HasL.nil [0, 1, 2, 3, 4, 5] ((fun a n (_ : Nat) => (fun a _ => ⟨Nat, fun i => ⟨[(0, true, .sl true 1 (eStrs a.1)), (1, true, .sl true 1 (eStrs a.2)), (4, true, .bool false), (5, true, .int .i64 i)], []⟩, fun i => i ≤ a.1.length ∧ a.1.length = a.2.length ∧ a.1.take i = a.2.take i, fun i => a.1.length - i⟩) a n)) [] Tryd.func38 (by kernel_rfl) (code := _) (by unfold Tryd.f38; rfl) (by kernel_rfl) (by decide) (fun _ => ⟨(), trivial⟩) (by intro h; first | exact fun _ => rfl | cases h) (by kernel_rfl) ?_
  intro a _
  obtain ⟨l, r⟩ := a
  simp -implicitDefEqProofs [vc_skip, extOf, vc_seq, vc_cond, vc_block, vc_exit, vc_ret, vc_region, vc_regionD, vc_loop, kSeq_normal, kSeq_ret, kSeq_exit, kBlock_normal, kBlock_ret, kBlock_exit, kLoop_normal, kLoop_ret, kLoop_exit, kCond_bool, kNorm_app, vcOps_nil, vcOps_cons, kOps_app, kStep_some, kStep_none, vcDL_nil, vcDL_cons, kOpsD_app, kStepD_true, kStepD_false, kStepC_some, kStepC_none, kMv_app, act3_store, act3_call, act3_bs, kAct_app, kSt2_app, stealSlots, stealL, stealOne, subIn, AV.stolen, act_store, act_bs, act_append, act_call, kSet_app, kSet2_app, kSetG_app, kSetG_app0, kStore_ptr, kStore_eptr, kCallW_some, kCallC_some, kCall_some, wk_T, wk_n, wk_keep, wk_inv, wk_act, wk_dr, wk_le, aCalm, wantC, dstOk, calm, aCallK, aCall3K, subOf, subRep, aCall2K, apnd, bsMove, putBox, putOwn, partAV, mvL, AV.mv, AV.base, AV.moved, AV.src, TI.flat, apSize, pickAV, St.val, St.cond, St.fn, St.next, St.set, St.trim, wipe_eq, wipeE_app, wipeM_app, pickEnv, get?, cGet, upd_app, withPuts, killAll, rm, freshP, Oper.hnd, Sc.st, ofConst, constOk, lenAV, elemLen, loadAV, ldL, ld1, fieldAddrAV, indexAddrAV, sliceAV, convAV, buildAV, fillAV, fieldAV, Out.of, binAV, AV.rows, AV.one, AV.cells, AV.deepOk, AV.toD, toDs, partRows, partRowsM, partsDeep, TK.zeroAV, TK.zeroD, byteOf, inR, Op.operands, Call.operands, passVs, passV, passL, pass1, passB, pasVs, pasV, pasL, pas1, ownsOk, okHs, okHs2, okFin, finOk2, rho, over, backRes, backAV, backAV1, backBlk, putBack, back2, back2_V, back2_1, m2, AV.wipe, AV.wipeV, AV.wipe1, Blk.wipe, AV.hs, AV.hs.hsL, alOps, Con.start2, Con.pk, bodyQ, fini, resAV, resA, firstId, Sc.from, renEnv, renT, renV, renVs, renL, ren1, renBox, renOwn, okRen, clOf, actB, setRow, flatRows, flatD, noInv, shr_nil, shr_some, kStepF_some, shareL, AV.viewed, AV.viewed1, cEqStringS, Con.fn, tTab]
  try dsimp only
  try simp +contextual [eStr, eFile, cast_succ, cast_eq, cast_zero, List.getElem?_eq_getElem, eStrs_set, eFiles_set, eStrs_rep, eFiles_rep, ← eStrs_append, ← eFiles_append, eStrs_take, eStrs_drop, eFiles_take, eFiles_drop, eStrs_snoc, eFiles_snoc, and_assoc]
  repeat' (first | intro _ | apply And.intro)
  all_goals first | omega | grind [all_take, eq_take, eq_end]

/-- What is left of a size. -/
def szL : List Str → Int → Int
  | [], l => l
  | s :: r, l => if l - s.length < 0 then -1 else szL r (l - s.length)
def szStrs (a : List Str) (l : Int) : Int := if l - a.length < 0 then -1 else szL a (l - a.length)
def cSzStringS : Con := .fn 28 (List Str × Int) (fun a => [.sl true 1 (eStrs a.1), .int .i64 a.2]) (fun a => 0 ≤ a.2 ∧ a.2 ≤ 1048576) (fun a => .int .i64 (szStrs a.1 a.2)) (fun _ => [])
theorem szL_step {a : List Str} {i : Nat} {l : Int} (h : i < a.length) : szL (a.drop i) l = if l - a[i].length < 0 then -1 else szL (a.drop (i + 1)) (l - a[i].length) := by
  rw [List.drop_eq_getElem_cons h]; rfl
theorem szL_end {a : List Str} {i : Nat} {l : Int} (h : a.length ≤ i) : szL (a.drop i) l = l := by
  rw [List.drop_eq_nil_of_le h]; rfl
set_option maxHeartbeats 4000000 in
theorem szStringS_has : Has Tryd.prog 35 cSzStringS := by
  refine has_walk mixed tTab_ok (l := []) HasL.nil [0, 1, 4, 5] ((fun a n (_ : Nat) => (fun a _ => ⟨Nat × Int, fun t => ⟨[(0, true, .sl true 1 (eStrs a.1)), (1, true, .int .i64 t.2), (4, true, .int .i64 0), (5, true, .int .i64 t.1)], []⟩, fun t => t.1 ≤ a.1.length ∧ 0 ≤ t.2 ∧ t.2 ≤ 1048576 ∧ szL (a.1.drop t.1) t.2 = szStrs a.1 a.2, fun t => a.1.length - t.1⟩) a n)) [] Tryd.func35 (by kernel_rfl) (code := _) (by unfold Tryd.f35; rfl) (by kernel_rfl) (by decide) (fun _ => ⟨(), trivial⟩) (by intro h; first | exact fun _ => rfl | cases h) (by kernel_rfl) ?_
  intro a ha
  obtain ⟨l, n⟩ := a
  obtain ⟨h1, h2⟩ : 0 ≤ n ∧ n ≤ 1048576 := ha
  simp -implicitDefEqProofs [vc_skip, extOf, vc_seq, vc_cond, vc_block, vc_exit, vc_ret, vc_region, vc_regionD, vc_loop, kSeq_normal, kSeq_ret, kSeq_exit, kBlock_normal, kBlock_ret, kBlock_exit, kLoop_normal, kLoop_ret, kLoop_exit, kCond_bool, kNorm_app, vcOps_nil, vcOps_cons, kOps_app, kStep_some, kStep_none, vcDL_nil, vcDL_cons, kOpsD_app, kStepD_true, kStepD_false, kStepC_some, kStepC_none, kMv_app, act3_store, act3_call, act3_bs, kAct_app, kSt2_app, stealSlots, stealL, stealOne, subIn, AV.stolen, act_store, act_bs, act_append, act_call, kSet_app, kSet2_app, kSetG_app, kSetG_app0, kStore_ptr, kStore_eptr, kCallW_some, kCallC_some, kCall_some, wk_T, wk_n, wk_keep, wk_inv, wk_act, wk_dr, wk_le, aCalm, wantC, dstOk, calm, aCallK, aCall3K, subOf, subRep, aCall2K, apnd, bsMove, putBox, putOwn, partAV, mvL, AV.mv, AV.base, AV.moved, AV.src, TI.flat, apSize, pickAV, St.val, St.cond, St.fn, St.next, St.set, St.trim, wipe_eq, wipeE_app, wipeM_app, pickEnv, get?, cGet, upd_app, withPuts, killAll, rm, freshP, Oper.hnd, Sc.st, ofConst, constOk, lenAV, elemLen, loadAV, ldL, ld1, fieldAddrAV, indexAddrAV, sliceAV, convAV, buildAV, fillAV, fieldAV, Out.of, binAV, AV.rows, AV.one, AV.cells, AV.deepOk, AV.toD, toDs, partRows, partRowsM, partsDeep, TK.zeroAV, TK.zeroD, byteOf, inR, Op.operands, Call.operands, passVs, passV, passL, pass1, passB, pasVs, pasV, pasL, pas1, ownsOk, okHs, okHs2, okFin, finOk2, rho, over, backRes, backAV, backAV1, backBlk, putBack, back2, back2_V, back2_1, m2, AV.wipe, AV.wipeV, AV.wipe1, Blk.wipe, AV.hs, AV.hs.hsL, alOps, Con.start2, Con.pk, bodyQ, fini, resAV, resA, firstId, Sc.from, renEnv, renT, renV, renVs, renL, ren1, renBox, renOwn, okRen, clOf, actB, setRow, flatRows, flatD, noInv, shr_nil, shr_some, kStepF_some, shareL, AV.viewed, AV.viewed1, cSzStringS, Con.fn, tTab]
  try dsimp only
  try simp +contextual [eStr, eFile, cast_succ, cast_eq, cast_zero, List.getElem?_eq_getElem, eStrs_set, eFiles_set, eStrs_rep, eFiles_rep, ← eStrs_append, ← eFiles_append, eStrs_take, eStrs_drop, eFiles_take, eFiles_drop, eStrs_snoc, eFiles_snoc, and_assoc]
  repeat' (first | intro _ | apply And.intro)
  all_goals first | omega | grind [all_take, szStrs, szL_step, szL_end]

end Vx
end Go.Proofs.YtlhkmgbmnbkaeaaDoor
/-
  Contracts: sizes, copies and comparisons of files.
-/
namespace Go.Proofs.YtlhkmgbmnbkaeaaDoor
namespace Vx
open Go.RowKit

abbrev ownStrs (h : Nat) (a : List Str) : List (Nat × Blk) := [(h, .own 9 1 true (eStrs a))]
abbrev ownFiles (h : Nat) (a : List FileD) : List (Nat × Blk) := [(h, .own 32 2 true (eFiles a))]

def cToStringS : Con := .fn 22 (List Str) (fun a => [.sl true 1 (eStrs a)]) (fun a => a.length ≤ 1048576) (fun a => .own 8 1 (eStrs a)) (fun a => ownStrs 8 a)
set_option maxHeartbeats 4000000 in
theorem toStringS_has : Has Tryd.prog 37 cToStringS := by
  refine has_walk mixed tTab_ok (l := []) HasL.nil [0, 2, 3, 4] ((fun a n (_ : Nat) => (fun a _ => ⟨Nat × List Str, fun t => ⟨[(0, true, .sl true 1 (eStrs a)), (2, true, .nil), (3, true, .own 9 1 (eStrs t.2)), (4, true, .int .i64 t.1)], ownStrs 9 t.2⟩, fun t => t.1 ≤ a.length ∧ t.2.length = a.length ∧ t.2.take t.1 = a.take t.1, fun t => a.length - t.1⟩) a n)) [] Tryd.func37 (by kernel_rfl) (code := _) (by unfold Tryd.f37; rfl) (by kernel_rfl) (by decide) (fun _ => ⟨(), trivial⟩) (by intro h; first | exact fun _ => rfl | cases h) (by kernel_rfl) ?_
  intro (a : List Str) ha
  replace ha : a.length ≤ 1048576 := ha
  simp -implicitDefEqProofs [vc_skip, extOf, vc_seq, vc_cond, vc_block, vc_exit, vc_ret, vc_region, vc_regionD, vc_loop, kSeq_normal, kSeq_ret, kSeq_exit, kBlock_normal, kBlock_ret, kBlock_exit, kLoop_normal, kLoop_ret, kLoop_exit, kCond_bool, kNorm_app, vcOps_nil, vcOps_cons, kOps_app, kStep_some, kStep_none, vcDL_nil, vcDL_cons, kOpsD_app, kStepD_true, kStepD_false, kStepC_some, kStepC_none, kMv_app, act3_store, act3_call, act3_bs, kAct_app, kSt2_app, stealSlots, stealL, stealOne, subIn, AV.stolen, act_store, act_bs, act_append, act_call, kSet_app, kSet2_app, kSetG_app, kSetG_app0, kStore_ptr, kStore_eptr, kCallW_some, kCallC_some, kCall_some, wk_T, wk_n, wk_keep, wk_inv, wk_act, wk_dr, wk_le, aCalm, wantC, dstOk, calm, aCallK, aCall3K, subOf, subRep, aCall2K, apnd, bsMove, putBox, putOwn, partAV, mvL, AV.mv, AV.base, AV.moved, AV.src, TI.flat, apSize, pickAV, St.val, St.cond, St.fn, St.next, St.set, St.trim, wipe_eq, wipeE_app, wipeM_app, pickEnv, get?, cGet, upd_app, withPuts, killAll, rm, freshP, Oper.hnd, Sc.st, ofConst, constOk, lenAV, elemLen, loadAV, ldL, ld1, fieldAddrAV, indexAddrAV, sliceAV, convAV, buildAV, fillAV, fieldAV, Out.of, binAV, AV.rows, AV.one, AV.cells, AV.deepOk, AV.toD, toDs, partRows, partRowsM, partsDeep, TK.zeroAV, TK.zeroD, byteOf, inR, Op.operands, Call.operands, passVs, passV, passL, pass1, passB, pasVs, pasV, pasL, pas1, ownsOk, okHs, okHs2, okFin, finOk2, rho, over, backRes, backAV, backAV1, backBlk, putBack, back2, back2_V, back2_1, m2, AV.wipe, AV.wipeV, AV.wipe1, Blk.wipe, AV.hs, AV.hs.hsL, alOps, Con.start2, Con.pk, bodyQ, fini, resAV, resA, firstId, Sc.from, renEnv, renT, renV, renVs, renL, ren1, renBox, renOwn, okRen, clOf, actB, setRow, flatRows, flatD, noInv, shr_nil, shr_some, kStepF_some, shareL, AV.viewed, AV.viewed1, cToStringS, Con.fn, tTab]
  try dsimp only
  try simp +contextual [eStr, eFile, cast_succ, cast_eq, cast_zero, List.getElem?_eq_getElem, eStrs_set, eFiles_set, eStrs_rep, eFiles_rep, ← eStrs_append, ← eFiles_append, eStrs_take, eStrs_drop, eFiles_take, eFiles_drop, eStrs_snoc, eFiles_snoc, and_assoc]
  repeat' (first | intro _ | apply And.intro)
  all_goals first | omega | grind [all_take, set_take, eq_end]

def szF (f : FileD) (l : Int) : Int := if l - f.path.length < 0 then -1 else if szStrs f.text (l - f.path.length) < 0 then -1 else szStrs f.text (l - f.path.length)
def cSzFile : Con := .fn 19 (FileD × Int) (fun a => [.agg [.str a.1.path, .sl true 1 (eStrs a.1.text)], .int .i64 a.2]) (fun a => 0 ≤ a.2 ∧ a.2 ≤ 1048576) (fun a => .int .i64 (szF a.1 a.2)) (fun _ => [])
set_option maxHeartbeats 4000000 in
theorem szFile_has : Has Tryd.prog 76 cSzFile := by
  refine has_walk mixed tTab_ok (l := [(35, cSzStringS)]) (HasL.cons szStringS_has HasL.nil) [0, 1, 2, 4] ((fun a n (_ : Nat) => (fun _ => noInv) a n)) [] Tryd.func76 (by kernel_rfl) (code := _) (by unfold Tryd.f76; rfl) (by kernel_rfl) (by decide) (fun _ => ⟨(), trivial⟩) (by intro h; first | exact fun _ => rfl | cases h) (by kernel_rfl) ?_
  intro a ha
  obtain ⟨f, n⟩ := a
  obtain ⟨h1, h2⟩ : 0 ≤ n ∧ n ≤ 1048576 := ha
  simp -implicitDefEqProofs [vc_skip, extOf, vc_seq, vc_cond, vc_block, vc_exit, vc_ret, vc_region, vc_regionD, vc_loop, kSeq_normal, kSeq_ret, kSeq_exit, kBlock_normal, kBlock_ret, kBlock_exit, kLoop_normal, kLoop_ret, kLoop_exit, kCond_bool, kNorm_app, vcOps_nil, vcOps_cons, kOps_app, kStep_some, kStep_none, vcDL_nil, vcDL_cons, kOpsD_app, kStepD_true, kStepD_false, kStepC_some, kStepC_none, kMv_app, act3_store, act3_call, act3_bs, kAct_app, kSt2_app, stealSlots, stealL, stealOne, subIn, AV.stolen, act_store, act_bs, act_append, act_call, kSet_app, kSet2_app, kSetG_app, kSetG_app0, kStore_ptr, kStore_eptr, kCallW_some, kCallC_some, kCall_some, wk_T, wk_n, wk_keep, wk_inv, wk_act, wk_dr, wk_le, aCalm, wantC, dstOk, calm, aCallK, aCall3K, subOf, subRep, aCall2K, apnd, bsMove, putBox, putOwn, partAV, mvL, AV.mv, AV.base, AV.moved, AV.src, TI.flat, apSize, pickAV, St.val, St.cond, St.fn, St.next, St.set, St.trim, wipe_eq, wipeE_app, wipeM_app, pickEnv, get?, cGet, upd_app, withPuts, killAll, rm, freshP, Oper.hnd, Sc.st, ofConst, constOk, lenAV, elemLen, loadAV, ldL, ld1, fieldAddrAV, indexAddrAV, sliceAV, convAV, buildAV, fillAV, fieldAV, Out.of, binAV, AV.rows, AV.one, AV.cells, AV.deepOk, AV.toD, toDs, partRows, partRowsM, partsDeep, TK.zeroAV, TK.zeroD, byteOf, inR, Op.operands, Call.operands, passVs, passV, passL, pass1, passB, pasVs, pasV, pasL, pas1, ownsOk, okHs, okHs2, okFin, finOk2, rho, over, backRes, backAV, backAV1, backBlk, putBack, back2, back2_V, back2_1, m2, AV.wipe, AV.wipeV, AV.wipe1, Blk.wipe, AV.hs, AV.hs.hsL, alOps, Con.start2, Con.pk, bodyQ, fini, resAV, resA, firstId, Sc.from, renEnv, renT, renV, renVs, renL, ren1, renBox, renOwn, okRen, clOf, actB, setRow, flatRows, flatD, noInv, shr_nil, shr_some, kStepF_some, shareL, AV.viewed, AV.viewed1, cSzFile, Con.fn, tTab, cSzStringS]
  try dsimp only
  try simp +contextual [eStr, eFile, cast_succ, cast_eq, cast_zero, List.getElem?_eq_getElem, eStrs_set, eFiles_set, eStrs_rep, eFiles_rep, ← eStrs_append, ← eFiles_append, eStrs_take, eStrs_drop, eFiles_take, eFiles_drop, eStrs_snoc, eFiles_snoc, and_assoc]
  repeat' (first | intro _ | apply And.intro)
  all_goals first | omega | grind [all_take, szF]

end Vx
end Go.Proofs.YtlhkmgbmnbkaeaaDoor
/-
  Contracts: a file's copy.
-/
namespace Go.Proofs.YtlhkmgbmnbkaeaaDoor
namespace Vx
open Go.RowKit

def cToFile : Con := .fn 12 FileD (fun f => [.agg [.str f.path, .sl true 1 (eStrs f.text)]]) (fun f => f.text.length ≤ 1048576) (fun f => .agg [.str f.path, .own 8 1 (eStrs f.text)]) (fun f => ownStrs 8 f.text)
set_option maxHeartbeats 4000000 in
theorem toFile_has : Has Tryd.prog 78 cToFile := by
  refine has_walk mixed tTab_ok (l := [(37, cToStringS)]) (HasL.cons toStringS_has HasL.nil) [0, 1, 2, 3] ((fun a n (_ : Nat) => (fun _ => noInv) a n)) [] Tryd.func78 (by kernel_rfl) (code := _) (by unfold Tryd.f78; rfl) (by kernel_rfl) (by decide) (fun _ => ⟨(), trivial⟩) (by intro h; first | exact fun _ => rfl | cases h) (by kernel_rfl) ?_
  intro f hf
  obtain ⟨p, x⟩ := f
  replace hf : x.length ≤ 1048576 := hf
  simp -implicitDefEqProofs [vc_skip, extOf, vc_seq, vc_cond, vc_block, vc_exit, vc_ret, vc_region, vc_regionD, vc_loop, kSeq_normal, kSeq_ret, kSeq_exit, kBlock_normal, kBlock_ret, kBlock_exit, kLoop_normal, kLoop_ret, kLoop_exit, kCond_bool, kNorm_app, vcOps_nil, vcOps_cons, kOps_app, kStep_some, kStep_none, vcDL_nil, vcDL_cons, kOpsD_app, kStepD_true, kStepD_false, kStepC_some, kStepC_none, kMv_app, act3_store, act3_call, act3_bs, kAct_app, kSt2_app, stealSlots, stealL, stealOne, subIn, AV.stolen, act_store, act_bs, act_append, act_call, kSet_app, kSet2_app, kSetG_app, kSetG_app0, kStore_ptr, kStore_eptr, kCallW_some, kCallC_some, kCall_some, wk_T, wk_n, wk_keep, wk_inv, wk_act, wk_dr, wk_le, aCalm, wantC, dstOk, calm, aCallK, aCall3K, subOf, subRep, aCall2K, apnd, bsMove, putBox, putOwn, partAV, mvL, AV.mv, AV.base, AV.moved, AV.src, TI.flat, apSize, pickAV, St.val, St.cond, St.fn, St.next, St.set, St.trim, wipe_eq, wipeE_app, wipeM_app, pickEnv, get?, cGet, upd_app, withPuts, killAll, rm, freshP, Oper.hnd, Sc.st, ofConst, constOk, lenAV, elemLen, loadAV, ldL, ld1, fieldAddrAV, indexAddrAV, sliceAV, convAV, buildAV, fillAV, fieldAV, Out.of, binAV, AV.rows, AV.one, AV.cells, AV.deepOk, AV.toD, toDs, partRows, partRowsM, partsDeep, TK.zeroAV, TK.zeroD, byteOf, inR, Op.operands, Call.operands, passVs, passV, passL, pass1, passB, pasVs, pasV, pasL, pas1, ownsOk, okHs, okHs2, okFin, finOk2, rho, over, backRes, backAV, backAV1, backBlk, putBack, back2, back2_V, back2_1, m2, AV.wipe, AV.wipeV, AV.wipe1, Blk.wipe, AV.hs, AV.hs.hsL, alOps, Con.start2, Con.pk, bodyQ, fini, resAV, resA, firstId, Sc.from, renEnv, renT, renV, renVs, renL, ren1, renBox, renOwn, okRen, clOf, actB, setRow, flatRows, flatD, noInv, shr_nil, shr_some, kStepF_some, shareL, AV.viewed, AV.viewed1, cToFile, Con.fn, tTab, cToStringS]
  try dsimp only
  try simp +contextual [eStr, eFile, cast_succ, cast_eq, cast_zero, List.getElem?_eq_getElem, eStrs_set, eFiles_set, eStrs_rep, eFiles_rep, ← eStrs_append, ← eFiles_append, eStrs_take, eStrs_drop, eFiles_take, eFiles_drop, eStrs_snoc, eFiles_snoc, and_assoc]
  repeat' (first | intro _ | apply And.intro)
  all_goals first | omega | grind [all_take]

def cToFileS : Con := .fn 23 (List FileD) (fun a => [.sl true 2 (eFiles a)]) (fun a => a.length ≤ 1048576 ∧ ∀ f ∈ a, f.text.length ≤ 1048576) (fun a => .own 8 2 (eFiles a)) (fun a => ownFiles 8 a)
set_option maxHeartbeats 4000000 in
theorem toFileS_has : Has Tryd.prog 23 cToFileS := by
  refine has_walk mixed tTab_ok (l := [(78, cToFile)]) (HasL.cons toFile_has HasL.nil) [0, 2, 3, 4] ((fun a n (_ : Nat) => (fun a _ => ⟨Nat × List FileD, fun t => ⟨[(0, true, .sl true 2 (eFiles a)), (2, true, .nil), (3, true, .own 9 2 (eFiles t.2)), (4, true, .int .i64 t.1)], ownFiles 9 t.2⟩, fun t => t.1 ≤ a.length ∧ t.2.length = a.length ∧ t.2.take t.1 = a.take t.1, fun t => a.length - t.1⟩) a n)) [] Tryd.func23 (by kernel_rfl) (code := _) (by unfold Tryd.f23; rfl) (by kernel_rfl) (by decide) (fun _ => ⟨(), trivial⟩) (by intro h; first | exact fun _ => rfl | cases h) (by kernel_rfl) ?_
  intro (a : List FileD) ha
  obtain ⟨h1, h2⟩ : a.length ≤ 1048576 ∧ ∀ f ∈ a, f.text.length ≤ 1048576 := ha
  simp -implicitDefEqProofs [vc_skip, extOf, vc_seq, vc_cond, vc_block, vc_exit, vc_ret, vc_region, vc_regionD, vc_loop, kSeq_normal, kSeq_ret, kSeq_exit, kBlock_normal, kBlock_ret, kBlock_exit, kLoop_normal, kLoop_ret, kLoop_exit, kCond_bool, kNorm_app, vcOps_nil, vcOps_cons, kOps_app, kStep_some, kStep_none, vcDL_nil, vcDL_cons, kOpsD_app, kStepD_true, kStepD_false, kStepC_some, kStepC_none, kMv_app, act3_store, act3_call, act3_bs, kAct_app, kSt2_app, stealSlots, stealL, stealOne, subIn, AV.stolen, act_store, act_bs, act_append, act_call, kSet_app, kSet2_app, kSetG_app, kSetG_app0, kStore_ptr, kStore_eptr, kCallW_some, kCallC_some, kCall_some, wk_T, wk_n, wk_keep, wk_inv, wk_act, wk_dr, wk_le, aCalm, wantC, dstOk, calm, aCallK, aCall3K, subOf, subRep, aCall2K, apnd, bsMove, putBox, putOwn, partAV, mvL, AV.mv, AV.base, AV.moved, AV.src, TI.flat, apSize, pickAV, St.val, St.cond, St.fn, St.next, St.set, St.trim, wipe_eq, wipeE_app, wipeM_app, pickEnv, get?, cGet, upd_app, withPuts, killAll, rm, freshP, Oper.hnd, Sc.st, ofConst, constOk, lenAV, elemLen, loadAV, ldL, ld1, fieldAddrAV, indexAddrAV, sliceAV, convAV, buildAV, fillAV, fieldAV, Out.of, binAV, AV.rows, AV.one, AV.cells, AV.deepOk, AV.toD, toDs, partRows, partRowsM, partsDeep, TK.zeroAV, TK.zeroD, byteOf, inR, Op.operands, Call.operands, passVs, passV, passL, pass1, passB, pasVs, pasV, pasL, pas1, ownsOk, okHs, okHs2, okFin, finOk2, rho, over, backRes, backAV, backAV1, backBlk, putBack, back2, back2_V, back2_1, m2, AV.wipe, AV.wipeV, AV.wipe1, Blk.wipe, AV.hs, AV.hs.hsL, alOps, Con.start2, Con.pk, bodyQ, fini, resAV, resA, firstId, Sc.from, renEnv, renT, renV, renVs, renL, ren1, renBox, renOwn, okRen, clOf, actB, setRow, flatRows, flatD, noInv, shr_nil, shr_some, kStepF_some, shareL, AV.viewed, AV.viewed1, cToFileS, Con.fn, tTab, cToFile]
  try dsimp only
  try simp +contextual [eStr, eFile, cast_succ, cast_eq, cast_zero, List.getElem?_eq_getElem, eStrs_set, eFiles_set, eStrs_rep, eFiles_rep, ← eStrs_append, ← eFiles_append, eStrs_take, eStrs_drop, eFiles_take, eFiles_drop, eStrs_snoc, eFiles_snoc, and_assoc, ← FileD.eq_iff]
  repeat' (first | intro _ | apply And.intro)
  all_goals first | omega | grind [all_take, set_take, eq_end]

end Vx
end Go.Proofs.YtlhkmgbmnbkaeaaDoor
/-
  Contracts: sizes, copies and comparisons of files (2).
-/
namespace Go.Proofs.YtlhkmgbmnbkaeaaDoor
namespace Vx
open Go.RowKit

def szFL : List FileD → Int → Int
  | [], l => l
  | f :: r, l => if szF f l < 0 then -1 else szFL r (szF f l)
def szFiles (a : List FileD) (l : Int) : Int := if l - a.length < 0 then -1 else szFL a (l - a.length)
theorem szFL_step {a : List FileD} {i : Nat} {l : Int} (h : i < a.length) : szFL (a.drop i) l = if szF a[i] l < 0 then -1 else szFL (a.drop (i + 1)) (szF a[i] l) := by
  rw [List.drop_eq_getElem_cons h]; rfl
theorem szFL_end {a : List FileD} {i : Nat} {l : Int} (h : a.length ≤ i) : szFL (a.drop i) l = l := by
  rw [List.drop_eq_nil_of_le h]; rfl
theorem szL_le : ∀ {a : List Str} {l : Int}, 0 ≤ l → szL a l ≤ l := by
  intro a
  induction a with
  | nil => intro l _; exact Int.le_refl l
  | cons s r ih =>
    intro l h
    simp only [szL]
    split
    · omega
    · have := ih (l := l - s.length) (by omega); omega
theorem szStrs_le {a : List Str} {l : Int} (h : 0 ≤ l) : szStrs a l ≤ l := by
  unfold szStrs
  split
  · omega
  · have := szL_le (a := a) (l := l - a.length) (by omega); omega
theorem szF_le {f : FileD} {l : Int} (h : 0 ≤ l) : szF f l ≤ l := by
  unfold szF
  split
  · omega
  · split
    · omega
    · have := szStrs_le (a := f.text) (l := l - f.path.length) (by omega); omega
def cSzFileS : Con := .fn 27 (List FileD × Int) (fun a => [.sl true 2 (eFiles a.1), .int .i64 a.2]) (fun a => 0 ≤ a.2 ∧ a.2 ≤ 1048576) (fun a => .int .i64 (szFiles a.1 a.2)) (fun _ => [])
set_option maxHeartbeats 4000000 in
theorem szFileS_has : Has Tryd.prog 21 cSzFileS := by
  refine has_walk mixed tTab_ok (l := [(76, cSzFile)]) (HasL.cons szFile_has HasL.nil) [0, 1, 4, 5] ((fun a n (_ : Nat) => (fun a _ => ⟨Nat × Int, fun t => ⟨[(0, true, .sl true 2 (eFiles a.1)), (1, true, .int .i64 t.2), (4, true, .int .i64 0), (5, true, .int .i64 t.1)], []⟩, fun t => t.1 ≤ a.1.length ∧ 0 ≤ t.2 ∧ t.2 ≤ 1048576 ∧ szFL (a.1.drop t.1) t.2 = szFiles a.1 a.2, fun t => a.1.length - t.1⟩) a n)) [] Tryd.func21 (by kernel_rfl) (code := _) (by unfold Tryd.f21; rfl) (by kernel_rfl) (by decide) (fun _ => ⟨(), trivial⟩) (by intro h; first | exact fun _ => rfl | cases h) (by kernel_rfl) ?_
  intro a ha
  obtain ⟨l, n⟩ := a
  obtain ⟨h1, h2⟩ : 0 ≤ n ∧ n ≤ 1048576 := ha
  have hle : ∀ (f : FileD) (l : Int), 0 ≤ l → szF f l ≤ l := fun f l => szF_le
  simp -implicitDefEqProofs [vc_skip, extOf, vc_seq, vc_cond, vc_block, vc_exit, vc_ret, vc_region, vc_regionD, vc_loop, kSeq_normal, kSeq_ret, kSeq_exit, kBlock_normal, kBlock_ret, kBlock_exit, kLoop_normal, kLoop_ret, kLoop_exit, kCond_bool, kNorm_app, vcOps_nil, vcOps_cons, kOps_app, kStep_some, kStep_none, vcDL_nil, vcDL_cons, kOpsD_app, kStepD_true, kStepD_false, kStepC_some, kStepC_none, kMv_app, act3_store, act3_call, act3_bs, kAct_app, kSt2_app, stealSlots, stealL, stealOne, subIn, AV.stolen, act_store, act_bs, act_append, act_call, kSet_app, kSet2_app, kSetG_app, kSetG_app0, kStore_ptr, kStore_eptr, kCallW_some, kCallC_some, kCall_some, wk_T, wk_n, wk_keep, wk_inv, wk_act, wk_dr, wk_le, aCalm, wantC, dstOk, calm, aCallK, aCall3K, subOf, subRep, aCall2K, apnd, bsMove, putBox, putOwn, partAV, mvL, AV.mv, AV.base, AV.moved, AV.src, TI.flat, apSize, pickAV, St.val, St.cond, St.fn, St.next, St.set, St.trim, wipe_eq, wipeE_app, wipeM_app, pickEnv, get?, cGet, upd_app, withPuts, killAll, rm, freshP, Oper.hnd, Sc.st, ofConst, constOk, lenAV, elemLen, loadAV, ldL, ld1, fieldAddrAV, indexAddrAV, sliceAV, convAV, buildAV, fillAV, fieldAV, Out.of, binAV, AV.rows, AV.one, AV.cells, AV.deepOk, AV.toD, toDs, partRows, partRowsM, partsDeep, TK.zeroAV, TK.zeroD, byteOf, inR, Op.operands, Call.operands, passVs, passV, passL, pass1, passB, pasVs, pasV, pasL, pas1, ownsOk, okHs, okHs2, okFin, finOk2, rho, over, backRes, backAV, backAV1, backBlk, putBack, back2, back2_V, back2_1, m2, AV.wipe, AV.wipeV, AV.wipe1, Blk.wipe, AV.hs, AV.hs.hsL, alOps, Con.start2, Con.pk, bodyQ, fini, resAV, resA, firstId, Sc.from, renEnv, renT, renV, renVs, renL, ren1, renBox, renOwn, okRen, clOf, actB, setRow, flatRows, flatD, noInv, shr_nil, shr_some, kStepF_some, shareL, AV.viewed, AV.viewed1, cSzFileS, Con.fn, tTab, cSzFile]
  try dsimp only
  try simp +contextual [eStr, eFile, cast_succ, cast_eq, cast_zero, List.getElem?_eq_getElem, eStrs_set, eFiles_set, eStrs_rep, eFiles_rep, ← eStrs_append, ← eFiles_append, eStrs_take, eStrs_drop, eFiles_take, eFiles_drop, eStrs_snoc, eFiles_snoc, and_assoc, ← FileD.eq_iff]
  repeat' (first | intro _ | apply And.intro)
  all_goals first | omega | grind [all_take, szFiles, szFL_step, szFL_end]

def cEqFile : Con := .fn 16 (FileD × FileD) (fun a => [.agg [.str a.1.path, .sl true 1 (eStrs a.1.text)], .agg [.str a.2.path, .sl true 1 (eStrs a.2.text)]]) (fun _ => True) (fun a => .bool (decide (a.1 = a.2))) (fun _ => [])
set_option maxHeartbeats 4000000 in
theorem eqFile_has : Has Tryd.prog 80 cEqFile := by
  refine has_walk mixed tTab_ok (l := [(38, cEqStringS)]) (HasL.cons eqStringS_has HasL.nil) [0, 1, 2, 3, 4] ((fun a n (_ : Nat) => (fun _ => noInv) a n)) [] Tryd.func80 (by kernel_rfl) (code := _) (by unfold Tryd.f80; rfl) (by kernel_rfl) (by decide) (fun _ => ⟨(), trivial⟩) (by intro h; first | exact fun _ => rfl | cases h) (by kernel_rfl) ?_
  intro a _
  obtain ⟨⟨p, x⟩, ⟨q, y⟩⟩ := a
  simp -implicitDefEqProofs [vc_skip, extOf, vc_seq, vc_cond, vc_block, vc_exit, vc_ret, vc_region, vc_regionD, vc_loop, kSeq_normal, kSeq_ret, kSeq_exit, kBlock_normal, kBlock_ret, kBlock_exit, kLoop_normal, kLoop_ret, kLoop_exit, kCond_bool, kNorm_app, vcOps_nil, vcOps_cons, kOps_app, kStep_some, kStep_none, vcDL_nil, vcDL_cons, kOpsD_app, kStepD_true, kStepD_false, kStepC_some, kStepC_none, kMv_app, act3_store, act3_call, act3_bs, kAct_app, kSt2_app, stealSlots, stealL, stealOne, subIn, AV.stolen, act_store, act_bs, act_append, act_call, kSet_app, kSet2_app, kSetG_app, kSetG_app0, kStore_ptr, kStore_eptr, kCallW_some, kCallC_some, kCall_some, wk_T, wk_n, wk_keep, wk_inv, wk_act, wk_dr, wk_le, aCalm, wantC, dstOk, calm, aCallK, aCall3K, subOf, subRep, aCall2K, apnd, bsMove, putBox, putOwn, partAV, mvL, AV.mv, AV.base, AV.moved, AV.src, TI.flat, apSize, pickAV, St.val, St.cond, St.fn, St.next, St.set, St.trim, wipe_eq, wipeE_app, wipeM_app, pickEnv, get?, cGet, upd_app, withPuts, killAll, rm, freshP, Oper.hnd, Sc.st, ofConst, constOk, lenAV, elemLen, loadAV, ldL, ld1, fieldAddrAV, indexAddrAV, sliceAV, convAV, buildAV, fillAV, fieldAV, Out.of, binAV, AV.rows, AV.one, AV.cells, AV.deepOk, AV.toD, toDs, partRows, partRowsM, partsDeep, TK.zeroAV, TK.zeroD, byteOf, inR, Op.operands, Call.operands, passVs, passV, passL, pass1, passB, pasVs, pasV, pasL, pas1, ownsOk, okHs, okHs2, okFin, finOk2, rho, over, backRes, backAV, backAV1, backBlk, putBack, back2, back2_V, back2_1, m2, AV.wipe, AV.wipeV, AV.wipe1, Blk.wipe, AV.hs, AV.hs.hsL, alOps, Con.start2, Con.pk, bodyQ, fini, resAV, resA, firstId, Sc.from, renEnv, renT, renV, renVs, renL, ren1, renBox, renOwn, okRen, clOf, actB, setRow, flatRows, flatD, noInv, shr_nil, shr_some, kStepF_some, shareL, AV.viewed, AV.viewed1, cEqFile, Con.fn, tTab, cEqStringS]
  try dsimp only
  try simp +contextual [eStr, eFile, cast_succ, cast_eq, cast_zero, List.getElem?_eq_getElem, eStrs_set, eFiles_set, eStrs_rep, eFiles_rep, ← eStrs_append, ← eFiles_append, eStrs_take, eStrs_drop, eFiles_take, eFiles_drop, eStrs_snoc, eFiles_snoc, and_assoc]
  repeat' (first | intro _ | apply And.intro)
  all_goals first | omega | grind [all_take]

def cEqFileS : Con := .fn 27 (List FileD × List FileD) (fun a => [.sl true 2 (eFiles a.1), .sl true 2 (eFiles a.2)]) (fun _ => True) (fun a => .bool (decide (a.1 = a.2))) (fun _ => [])
set_option maxHeartbeats 4000000 in
theorem eqFileS_has : Has Tryd.prog 25 cEqFileS := by
  refine has_walk mixed tTab_ok (l := [(80, cEqFile)]) (HasL.cons eqFile_has HasL.nil) [0, 1, 2, 3, 4, 5] ((fun a n (_ : Nat) => (fun a _ => ⟨Nat, fun i => ⟨[(0, true, .sl true 2 (eFiles a.1)), (1, true, .sl true 2 (eFiles a.2)), (4, true, .bool false), (5, true, .int .i64 i)], []⟩, fun i => i ≤ a.1.length ∧ a.1.length = a.2.length ∧ a.1.take i = a.2.take i, fun i => a.1.length - i⟩) a n)) [] Tryd.func25 (by kernel_rfl) (code := _) (by unfold Tryd.f25; rfl) (by kernel_rfl) (by decide) (fun _ => ⟨(), trivial⟩) (by intro h; first | exact fun _ => rfl | cases h) (by kernel_rfl) ?_
  intro a _
  obtain ⟨l, r⟩ := a
  simp -implicitDefEqProofs [vc_skip, extOf, vc_seq, vc_cond, vc_block, vc_exit, vc_ret, vc_region, vc_regionD, vc_loop, kSeq_normal, kSeq_ret, kSeq_exit, kBlock_normal, kBlock_ret, kBlock_exit, kLoop_normal, kLoop_ret, kLoop_exit, kCond_bool, kNorm_app, vcOps_nil, vcOps_cons, kOps_app, kStep_some, kStep_none, vcDL_nil, vcDL_cons, kOpsD_app, kStepD_true, kStepD_false, kStepC_some, kStepC_none, kMv_app, act3_store, act3_call, act3_bs, kAct_app, kSt2_app, stealSlots, stealL, stealOne, subIn, AV.stolen, act_store, act_bs, act_append, act_call, kSet_app, kSet2_app, kSetG_app, kSetG_app0, kStore_ptr, kStore_eptr, kCallW_some, kCallC_some, kCall_some, wk_T, wk_n, wk_keep, wk_inv, wk_act, wk_dr, wk_le, aCalm, wantC, dstOk, calm, aCallK, aCall3K, subOf, subRep, aCall2K, apnd, bsMove, putBox, putOwn, partAV, mvL, AV.mv, AV.base, AV.moved, AV.src, TI.flat, apSize, pickAV, St.val, St.cond, St.fn, St.next, St.set, St.trim, wipe_eq, wipeE_app, wipeM_app, pickEnv, get?, cGet, upd_app, withPuts, killAll, rm, freshP, Oper.hnd, Sc.st, ofConst, constOk, lenAV, elemLen, loadAV, ldL, ld1, fieldAddrAV, indexAddrAV, sliceAV, convAV, buildAV, fillAV, fieldAV, Out.of, binAV, AV.rows, AV.one, AV.cells, AV.deepOk, AV.toD, toDs, partRows, partRowsM, partsDeep, TK.zeroAV, TK.zeroD, byteOf, inR, Op.operands, Call.operands, passVs, passV, passL, pass1, passB, pasVs, pasV, pasL, pas1, ownsOk, okHs, okHs2, okFin, finOk2, rho, over, backRes, backAV, backAV1, backBlk, putBack, back2, back2_V, back2_1, m2, AV.wipe, AV.wipeV, AV.wipe1, Blk.wipe, AV.hs, AV.hs.hsL, alOps, Con.start2, Con.pk, bodyQ, fini, resAV, resA, firstId, Sc.from, renEnv, renT, renV, renVs, renL, ren1, renBox, renOwn, okRen, clOf, actB, setRow, flatRows, flatD, noInv, shr_nil, shr_some, kStepF_some, shareL, AV.viewed, AV.viewed1, cEqFileS, Con.fn, tTab, cEqFile]
  try dsimp only
  try simp +contextual [eStr, eFile, cast_succ, cast_eq, cast_zero, List.getElem?_eq_getElem, eStrs_set, eFiles_set, eStrs_rep, eFiles_rep, ← eStrs_append, ← eFiles_append, eStrs_take, eStrs_drop, eFiles_take, eFiles_drop, eStrs_snoc, eFiles_snoc, and_assoc, ← FileD.eq_iff]
  repeat' (first | intro _ | apply And.intro)
  all_goals first | omega | grind [all_take, eq_take, eq_end]

end Vx
end Go.Proofs.YtlhkmgbmnbkaeaaDoor
/-
  Contracts: prefixes, paths.
-/
namespace Go.Proofs.YtlhkmgbmnbkaeaaDoor
namespace Vx
open Go.RowKit

def prefB (p s : Str) : Bool := decide (p.length ≤ s.length) && decide (s.take p.length = p)
def cSlHasPrefix : Con := .fn 18 (Str × Str) (fun a => [.str a.1, .str a.2]) (fun _ => True) (fun a => .bool (prefB a.2 a.1)) (fun _ => [])
set_option maxHeartbeats 4000000 in
theorem slHasPrefix_has : Has Tryd.prog 152 cSlHasPrefix := by
  refine has_walk mixed tTab_ok (l := []) HasL.nil [0, 1, 4] ((fun a n (_ : Nat) => (fun _ => noInv) a n)) [] Tryd.func152 (by kernel_rfl) (code := _) (by unfold Tryd.f152; rfl) (by kernel_rfl) (by decide) (fun _ => ⟨(), trivial⟩) (by intro h; first | exact fun _ => rfl | cases h) (by kernel_rfl) ?_
  intro a _
  obtain ⟨s, p⟩ := a
  simp -implicitDefEqProofs [vc_skip, extOf, vc_seq, vc_cond, vc_block, vc_exit, vc_ret, vc_region, vc_regionD, vc_loop, kSeq_normal, kSeq_ret, kSeq_exit, kBlock_normal, kBlock_ret, kBlock_exit, kLoop_normal, kLoop_ret, kLoop_exit, kCond_bool, kNorm_app, vcOps_nil, vcOps_cons, kOps_app, kStep_some, kStep_none, vcDL_nil, vcDL_cons, kOpsD_app, kStepD_true, kStepD_false, kStepC_some, kStepC_none, kMv_app, act3_store, act3_call, act3_bs, kAct_app, kSt2_app, stealSlots, stealL, stealOne, subIn, AV.stolen, act_store, act_bs, act_append, act_call, kSet_app, kSet2_app, kSetG_app, kSetG_app0, kStore_ptr, kStore_eptr, kCallW_some, kCallC_some, kCall_some, wk_T, wk_n, wk_keep, wk_inv, wk_act, wk_dr, wk_le, aCalm, wantC, dstOk, calm, aCallK, aCall3K, subOf, subRep, aCall2K, apnd, bsMove, putBox, putOwn, partAV, mvL, AV.mv, AV.base, AV.moved, AV.src, TI.flat, apSize, pickAV, St.val, St.cond, St.fn, St.next, St.set, St.trim, wipe_eq, wipeE_app, wipeM_app, pickEnv, get?, cGet, upd_app, withPuts, killAll, rm, freshP, Oper.hnd, Sc.st, ofConst, constOk, lenAV, elemLen, loadAV, ldL, ld1, fieldAddrAV, indexAddrAV, sliceAV, convAV, buildAV, fillAV, fieldAV, Out.of, binAV, AV.rows, AV.one, AV.cells, AV.deepOk, AV.toD, toDs, partRows, partRowsM, partsDeep, TK.zeroAV, TK.zeroD, byteOf, inR, Op.operands, Call.operands, passVs, passV, passL, pass1, passB, pasVs, pasV, pasL, pas1, ownsOk, okHs, okHs2, okFin, finOk2, rho, over, backRes, backAV, backAV1, backBlk, putBack, back2, back2_V, back2_1, m2, AV.wipe, AV.wipeV, AV.wipe1, Blk.wipe, AV.hs, AV.hs.hsL, alOps, Con.start2, Con.pk, bodyQ, fini, resAV, resA, firstId, Sc.from, renEnv, renT, renV, renVs, renL, ren1, renBox, renOwn, okRen, clOf, actB, setRow, flatRows, flatD, noInv, shr_nil, shr_some, kStepF_some, shareL, AV.viewed, AV.viewed1, cSlHasPrefix, Con.fn, tTab, prefB]
  try dsimp only
  try simp +contextual [eStr, eFile, cast_succ, cast_eq, cast_zero, List.getElem?_eq_getElem, eStrs_set, eFiles_set, eStrs_rep, eFiles_rep, ← eStrs_append, ← eFiles_append, eStrs_take, eStrs_drop, eFiles_take, eFiles_drop, eStrs_snoc, eFiles_snoc, and_assoc]
  repeat' (first | intro _ | apply And.intro)
  all_goals first | omega | grind [all_take]

def cHasPrefix : Con := .fn 8 (Str × Str) (fun a => [.str a.1, .str a.2]) (fun _ => True) (fun a => .bool (prefB a.2 a.1)) (fun _ => [])
set_option maxHeartbeats 4000000 in
theorem hasPrefix_has : Has Tryd.prog 113 cHasPrefix := by
  refine has_walk mixed tTab_ok (l := [(152, cSlHasPrefix)]) (HasL.cons slHasPrefix_has HasL.nil) [0, 1, 4] ((fun a n (_ : Nat) => (fun _ => noInv) a n)) [] Tryd.func113 (by kernel_rfl) (code := _) (by unfold Tryd.f113; rfl) (by kernel_rfl) (by decide) (fun _ => ⟨(), trivial⟩) (by intro h; first | exact fun _ => rfl | cases h) (by kernel_rfl) ?_
  intro a _
  obtain ⟨s, p⟩ := a
  simp -implicitDefEqProofs [vc_skip, extOf, vc_seq, vc_cond, vc_block, vc_exit, vc_ret, vc_region, vc_regionD, vc_loop, kSeq_normal, kSeq_ret, kSeq_exit, kBlock_normal, kBlock_ret, kBlock_exit, kLoop_normal, kLoop_ret, kLoop_exit, kCond_bool, kNorm_app, vcOps_nil, vcOps_cons, kOps_app, kStep_some, kStep_none, vcDL_nil, vcDL_cons, kOpsD_app, kStepD_true, kStepD_false, kStepC_some, kStepC_none, kMv_app, act3_store, act3_call, act3_bs, kAct_app, kSt2_app, stealSlots, stealL, stealOne, subIn, AV.stolen, act_store, act_bs, act_append, act_call, kSet_app, kSet2_app, kSetG_app, kSetG_app0, kStore_ptr, kStore_eptr, kCallW_some, kCallC_some, kCall_some, wk_T, wk_n, wk_keep, wk_inv, wk_act, wk_dr, wk_le, aCalm, wantC, dstOk, calm, aCallK, aCall3K, subOf, subRep, aCall2K, apnd, bsMove, putBox, putOwn, partAV, mvL, AV.mv, AV.base, AV.moved, AV.src, TI.flat, apSize, pickAV, St.val, St.cond, St.fn, St.next, St.set, St.trim, wipe_eq, wipeE_app, wipeM_app, pickEnv, get?, cGet, upd_app, withPuts, killAll, rm, freshP, Oper.hnd, Sc.st, ofConst, constOk, lenAV, elemLen, loadAV, ldL, ld1, fieldAddrAV, indexAddrAV, sliceAV, convAV, buildAV, fillAV, fieldAV, Out.of, binAV, AV.rows, AV.one, AV.cells, AV.deepOk, AV.toD, toDs, partRows, partRowsM, partsDeep, TK.zeroAV, TK.zeroD, byteOf, inR, Op.operands, Call.operands, passVs, passV, passL, pass1, passB, pasVs, pasV, pasL, pas1, ownsOk, okHs, okHs2, okFin, finOk2, rho, over, backRes, backAV, backAV1, backBlk, putBack, back2, back2_V, back2_1, m2, AV.wipe, AV.wipeV, AV.wipe1, Blk.wipe, AV.hs, AV.hs.hsL, alOps, Con.start2, Con.pk, bodyQ, fini, resAV, resA, firstId, Sc.from, renEnv, renT, renV, renVs, renL, ren1, renBox, renOwn, okRen, clOf, actB, setRow, flatRows, flatD, noInv, shr_nil, shr_some, kStepF_some, shareL, AV.viewed, AV.viewed1, cHasPrefix, Con.fn, tTab, cSlHasPrefix]
  try dsimp only
  try simp +contextual [eStr, eFile, cast_succ, cast_eq, cast_zero, List.getElem?_eq_getElem, eStrs_set, eFiles_set, eStrs_rep, eFiles_rep, ← eStrs_append, ← eFiles_append, eStrs_take, eStrs_drop, eFiles_take, eFiles_drop, eStrs_snoc, eFiles_snoc, and_assoc]
  repeat' (first | intro _ | apply And.intro)
  all_goals first | omega | grind [all_take]

def inB (d p : Str) : Bool := decide (d.length < p.length) && decide (p.take d.length = d) && decide (p.getD d.length 0 = 47)
theorem u8_eq (a : UInt8) : ((a.toNat : Int) = 47) = (a = 47) := by
  apply propext
  constructor
  · intro h
    have : a.toNat = 47 := by omega
    exact UInt8.toNat_inj.1 (by simpa using this)
  · rintro rfl; rfl
def cL4In : Con := .fn 25 (Str × Str) (fun a => [.str a.1, .str a.2]) (fun _ => True) (fun a => .bool (inB a.1 a.2)) (fun _ => [])
set_option maxHeartbeats 4000000 in
theorem l4In_has : Has Tryd.prog 133 cL4In := by
  refine has_walk mixed tTab_ok (l := []) HasL.nil [0, 1, 4] ((fun a n (_ : Nat) => (fun _ => noInv) a n)) [] Tryd.func133 (by kernel_rfl) (code := _) (by unfold Tryd.f133; rfl) (by kernel_rfl) (by decide) (fun _ => ⟨(), trivial⟩) (by intro h; first | exact fun _ => rfl | cases h) (by kernel_rfl) ?_
  intro a _
  obtain ⟨d, p⟩ := a
  simp -implicitDefEqProofs [vc_skip, extOf, vc_seq, vc_cond, vc_block, vc_exit, vc_ret, vc_region, vc_regionD, vc_loop, kSeq_normal, kSeq_ret, kSeq_exit, kBlock_normal, kBlock_ret, kBlock_exit, kLoop_normal, kLoop_ret, kLoop_exit, kCond_bool, kNorm_app, vcOps_nil, vcOps_cons, kOps_app, kStep_some, kStep_none, vcDL_nil, vcDL_cons, kOpsD_app, kStepD_true, kStepD_false, kStepC_some, kStepC_none, kMv_app, act3_store, act3_call, act3_bs, kAct_app, kSt2_app, stealSlots, stealL, stealOne, subIn, AV.stolen, act_store, act_bs, act_append, act_call, kSet_app, kSet2_app, kSetG_app, kSetG_app0, kStore_ptr, kStore_eptr, kCallW_some, kCallC_some, kCall_some, wk_T, wk_n, wk_keep, wk_inv, wk_act, wk_dr, wk_le, aCalm, wantC, dstOk, calm, aCallK, aCall3K, subOf, subRep, aCall2K, apnd, bsMove, putBox, putOwn, partAV, mvL, AV.mv, AV.base, AV.moved, AV.src, TI.flat, apSize, pickAV, St.val, St.cond, St.fn, St.next, St.set, St.trim, wipe_eq, wipeE_app, wipeM_app, pickEnv, get?, cGet, upd_app, withPuts, killAll, rm, freshP, Oper.hnd, Sc.st, ofConst, constOk, lenAV, elemLen, loadAV, ldL, ld1, fieldAddrAV, indexAddrAV, sliceAV, convAV, buildAV, fillAV, fieldAV, Out.of, binAV, AV.rows, AV.one, AV.cells, AV.deepOk, AV.toD, toDs, partRows, partRowsM, partsDeep, TK.zeroAV, TK.zeroD, byteOf, inR, Op.operands, Call.operands, passVs, passV, passL, pass1, passB, pasVs, pasV, pasL, pas1, ownsOk, okHs, okHs2, okFin, finOk2, rho, over, backRes, backAV, backAV1, backBlk, putBack, back2, back2_V, back2_1, m2, AV.wipe, AV.wipeV, AV.wipe1, Blk.wipe, AV.hs, AV.hs.hsL, alOps, Con.start2, Con.pk, bodyQ, fini, resAV, resA, firstId, Sc.from, renEnv, renT, renV, renVs, renL, ren1, renBox, renOwn, okRen, clOf, actB, setRow, flatRows, flatD, noInv, shr_nil, shr_some, kStepF_some, shareL, AV.viewed, AV.viewed1, cL4In, Con.fn, tTab, inB, u8_eq]
  try dsimp only
  try simp +contextual [eStr, eFile, cast_succ, cast_eq, cast_zero, List.getElem?_eq_getElem, eStrs_set, eFiles_set, eStrs_rep, eFiles_rep, ← eStrs_append, ← eFiles_append, eStrs_take, eStrs_drop, eFiles_take, eFiles_drop, eStrs_snoc, eFiles_snoc, and_assoc, u8_eq]
  repeat' (first | intro _ | apply And.intro)
  all_goals first | omega | grind [all_take, u8_eq]

/-- A text cut at a byte, so many times at most; c: what is ahead of the rest in its piece; n: the pieces ahead. -/
def cutL (b : Int) (most : Nat) : Str → Str → Nat → List Str
  | [], c, _ => [c]
  | x :: r, c, n => if n < most then (if (x.toNat : Int) = b then c :: cutL b most r [] (n + 1) else cutL b most r (c ++ [x]) n) else [c ++ x :: r]
theorem cutL_stop {b : Int} {most : Nat} {r c : Str} {n : Nat} (h : most ≤ n) : cutL b most r c n = [c ++ r] := by
  cases r with
  | nil => simp [cutL]
  | cons x r => simp [cutL, Nat.not_lt.2 h]
def pieceAt (s : Str) (fr i : Nat) : Str := (s.drop fr).take (i - fr)
theorem piece_end {s : Str} {fr i : Nat} (h : fr ≤ i) : pieceAt s fr i ++ s.drop i = s.drop fr := by
  unfold pieceAt
  have : s.drop i = (s.drop fr).drop (i - fr) := by rw [List.drop_drop]; congr 1; omega
  rw [this, List.take_append_drop]
theorem piece_len {s : Str} {fr i : Nat} (h : s.length ≤ i) (hf : fr ≤ i) : pieceAt s fr i = s.drop fr := by
  unfold pieceAt
  exact List.take_of_length_le (by rw [List.length_drop]; omega)
theorem piece_zero {s : Str} {fr : Nat} : pieceAt s fr fr = [] := by simp [pieceAt]
theorem piece_step {s : Str} {fr i : Nat} (h : i < s.length) (hf : fr ≤ i) : pieceAt s fr (i + 1) = pieceAt s fr i ++ [s[i]] := by
  unfold pieceAt
  rw [show i + 1 - fr = (i - fr) + 1 by omega, List.take_succ_eq_append_getElem (by rw [List.length_drop]; omega)]
  congr 2
  rw [List.getElem_drop]
  congr 1
  omega
theorem cut_step {b : Int} {most : Nat} {s : Str} {fr i n : Nat} (h : i < s.length) (hf : fr ≤ i) (hn : n < most) :
    cutL b most (s.drop i) (pieceAt s fr i) n = if (s[i].toNat : Int) = b then pieceAt s fr i :: cutL b most (s.drop (i + 1)) (pieceAt s (i + 1) (i + 1)) (n + 1) else cutL b most (s.drop (i + 1)) (pieceAt s fr (i + 1)) n := by
  rw [List.drop_eq_getElem_cons h, piece_zero, piece_step h hf]
  simp [cutL, hn]
theorem cut_end {b : Int} {most : Nat} {s : Str} {fr i n : Nat} (h : s.length ≤ i) (hf : fr ≤ i) : cutL b most (s.drop i) (pieceAt s fr i) n = [s.drop fr] := by
  rw [List.drop_eq_nil_of_le h, ← piece_len h hf]; rfl
theorem cut_most {b : Int} {most : Nat} {s : Str} {fr i n : Nat} (h : most ≤ n) (hf : fr ≤ i) : cutL b most (s.drop i) (pieceAt s fr i) n = [s.drop fr] := by
  rw [cutL_stop h, piece_end hf]
def cutB (s : Str) (b : Int) (most : Nat) : List Str := cutL b most s [] 0
theorem cut_start {b : Int} {most : Nat} {s : Str} : cutL b most (s.drop 0) (pieceAt s 0 0) 0 = cutB s b most := rfl

end Vx
end Go.Proofs.YtlhkmgbmnbkaeaaDoor
/-
  Contracts: a text cut at a byte; paths (the reference's).
-/
namespace Go.Proofs.YtlhkmgbmnbkaeaaDoor
namespace Vx
open Go.RowKit

theorem piece_eq (s : Str) (fr i : Nat) : (s.drop fr).take (i - fr) = pieceAt s fr i := rfl
theorem piece_full (s : Str) (fr : Nat) : pieceAt s fr s.length = s.drop fr := by
  unfold pieceAt
  exact List.take_of_length_le (by rw [List.length_drop]; omega)

def cL1Cut : Con := .fn 43 (Str × Int × Nat) (fun a => [.str a.1, .int .u8 a.2.1, .int .i64 a.2.2]) (fun a => a.2.2 ≤ 1000000) (fun a => .own 8 1 (eStrs (cutB a.1 a.2.1 a.2.2))) (fun a => ownStrs 8 (cutB a.1 a.2.1 a.2.2))
set_option maxHeartbeats 4000000 in
theorem l1Cut_has : Has Tryd.prog 156 cL1Cut := by
  refine has_walk mixed tTab_ok (l := []) HasL.nil [0, 1, 2, 6, 7, 8, 9] ((fun a n (_ : Nat) => (fun a _ => ⟨List Str × Nat × Nat, fun t => ⟨[(0, true, .str a.1), (1, true, .int .u8 a.2.1), (2, true, .int .i64 a.2.2), (6, true, .nil), (7, true, .own 9 1 (eStrs t.1)), (8, true, .int .i64 t.2.1), (9, true, .int .i64 t.2.2)], ownStrs 9 t.1⟩, fun t => t.2.1 ≤ t.2.2 ∧ t.2.2 ≤ a.1.length ∧ t.1.length ≤ a.2.2 ∧ t.1 ++ cutL a.2.1 a.2.2 (a.1.drop t.2.2) (pieceAt a.1 t.2.1 t.2.2) t.1.length = cutB a.1 a.2.1 a.2.2, fun t => a.1.length - t.2.2⟩) a n)) [] Tryd.func156 (by kernel_rfl) (code := _) (by unfold Tryd.f156; rfl) (by kernel_rfl) (by decide) (fun _ => ⟨(), trivial⟩) (by intro h; first | exact fun _ => rfl | cases h) (by kernel_rfl) ?_
  intro a ha
  obtain ⟨s, b, most⟩ := a
  replace ha : most ≤ 1000000 := ha
  have hs : cutL b most s (pieceAt s 0 0) 0 = cutB s b most := rfl
  simp -implicitDefEqProofs [vc_skip, extOf, vc_seq, vc_cond, vc_block, vc_exit, vc_ret, vc_region, vc_regionD, vc_loop, kSeq_normal, kSeq_ret, kSeq_exit, kBlock_normal, kBlock_ret, kBlock_exit, kLoop_normal, kLoop_ret, kLoop_exit, kCond_bool, kNorm_app, vcOps_nil, vcOps_cons, kOps_app, kStep_some, kStep_none, vcDL_nil, vcDL_cons, kOpsD_app, kStepD_true, kStepD_false, kStepC_some, kStepC_none, kMv_app, act3_store, act3_call, act3_bs, kAct_app, kSt2_app, stealSlots, stealL, stealOne, subIn, AV.stolen, act_store, act_bs, act_append, act_call, kSet_app, kSet2_app, kSetG_app, kSetG_app0, kStore_ptr, kStore_eptr, kCallW_some, kCallC_some, kCall_some, wk_T, wk_n, wk_keep, wk_inv, wk_act, wk_dr, wk_le, aCalm, wantC, dstOk, calm, aCallK, aCall3K, subOf, subRep, aCall2K, apnd, bsMove, putBox, putOwn, partAV, mvL, AV.mv, AV.base, AV.moved, AV.src, TI.flat, apSize, pickAV, St.val, St.cond, St.fn, St.next, St.set, St.trim, wipe_eq, wipeE_app, wipeM_app, pickEnv, get?, cGet, upd_app, withPuts, killAll, rm, freshP, Oper.hnd, Sc.st, ofConst, constOk, lenAV, elemLen, loadAV, ldL, ld1, fieldAddrAV, indexAddrAV, sliceAV, convAV, buildAV, fillAV, fieldAV, Out.of, binAV, AV.rows, AV.one, AV.cells, AV.deepOk, AV.toD, toDs, partRows, partRowsM, partsDeep, TK.zeroAV, TK.zeroD, byteOf, inR, Op.operands, Call.operands, passVs, passV, passL, pass1, passB, pasVs, pasV, pasL, pas1, ownsOk, okHs, okHs2, okFin, finOk2, rho, over, backRes, backAV, backAV1, backBlk, putBack, back2, back2_V, back2_1, m2, AV.wipe, AV.wipeV, AV.wipe1, Blk.wipe, AV.hs, AV.hs.hsL, alOps, Con.start2, Con.pk, bodyQ, fini, resAV, resA, firstId, Sc.from, renEnv, renT, renV, renVs, renL, ren1, renBox, renOwn, okRen, clOf, actB, setRow, flatRows, flatD, noInv, shr_nil, shr_some, kStepF_some, shareL, AV.viewed, AV.viewed1, cL1Cut, Con.fn, tTab]
  try dsimp only
  try simp +contextual [eStr, eFile, cast_succ, cast_eq, cast_zero, List.getElem?_eq_getElem, eStrs_set, eFiles_set, eStrs_rep, eFiles_rep, ← eStrs_append, ← eFiles_append, eStrs_take, eStrs_drop, eFiles_take, eFiles_drop, eStrs_snoc, eFiles_snoc, and_assoc, piece_eq, piece_full]
  repeat' (first | intro _ | apply And.intro)
  all_goals first | omega | grind [all_take, cut_step, cut_end, cut_most]

end Vx
end Go.Proofs.YtlhkmgbmnbkaeaaDoor
/-
  Contracts: paths and trees (the reference's).
-/
namespace Go.Proofs.YtlhkmgbmnbkaeaaDoor
namespace Vx
open Go.RowKit

theorem cast_three (a : Nat) : ((a : Int) = 3) = (a = 3) := by apply propext; omega

def pathS (s : Str) : Bool := (cutB s 47 3).all nameB && decide ((cutB s 47 3).length ≤ 3)
def cL4Path : Con := .fn 22 Str (fun s => [.str s]) (fun _ => True) (fun s => .bool (pathS s)) (fun _ => [])
set_option maxHeartbeats 4000000 in
theorem l4Path_has : Has Tryd.prog 131 cL4Path := by
  refine has_walk mixed tTab_ok (l := [(156, cL1Cut), (73, cL4Name)]) (HasL.cons l1Cut_has (HasL.cons l4Name_has HasL.nil)) [0, 2, 3, 4] ((fun a n (_ : Nat) => (fun s _ => ⟨Nat, fun i => ⟨[(2, true, .bool false), (3, true, .own 9 1 (eStrs (cutB s 47 3))), (4, true, .int .i64 i)], ownStrs 9 (cutB s 47 3)⟩, fun i => i ≤ (cutB s 47 3).length ∧ ((cutB s 47 3).take i).all nameB = true, fun i => (cutB s 47 3).length - i⟩) a n)) [] Tryd.func131 (by kernel_rfl) (code := _) (by unfold Tryd.f131; rfl) (by kernel_rfl) (by decide) (fun _ => ⟨(), trivial⟩) (by intro h; first | exact fun _ => rfl | cases h) (by kernel_rfl) ?_
  intro (s : Str) _
  simp -implicitDefEqProofs [vc_skip, extOf, vc_seq, vc_cond, vc_block, vc_exit, vc_ret, vc_region, vc_regionD, vc_loop, kSeq_normal, kSeq_ret, kSeq_exit, kBlock_normal, kBlock_ret, kBlock_exit, kLoop_normal, kLoop_ret, kLoop_exit, kCond_bool, kNorm_app, vcOps_nil, vcOps_cons, kOps_app, kStep_some, kStep_none, vcDL_nil, vcDL_cons, kOpsD_app, kStepD_true, kStepD_false, kStepC_some, kStepC_none, kMv_app, act3_store, act3_call, act3_bs, kAct_app, kSt2_app, stealSlots, stealL, stealOne, subIn, AV.stolen, act_store, act_bs, act_append, act_call, kSet_app, kSet2_app, kSetG_app, kSetG_app0, kStore_ptr, kStore_eptr, kCallW_some, kCallC_some, kCall_some, wk_T, wk_n, wk_keep, wk_inv, wk_act, wk_dr, wk_le, aCalm, wantC, dstOk, calm, aCallK, aCall3K, subOf, subRep, aCall2K, apnd, bsMove, putBox, putOwn, partAV, mvL, AV.mv, AV.base, AV.moved, AV.src, TI.flat, apSize, pickAV, St.val, St.cond, St.fn, St.next, St.set, St.trim, wipe_eq, wipeE_app, wipeM_app, pickEnv, get?, cGet, upd_app, withPuts, killAll, rm, freshP, Oper.hnd, Sc.st, ofConst, constOk, lenAV, elemLen, loadAV, ldL, ld1, fieldAddrAV, indexAddrAV, sliceAV, convAV, buildAV, fillAV, fieldAV, Out.of, binAV, AV.rows, AV.one, AV.cells, AV.deepOk, AV.toD, toDs, partRows, partRowsM, partsDeep, TK.zeroAV, TK.zeroD, byteOf, inR, Op.operands, Call.operands, passVs, passV, passL, pass1, passB, pasVs, pasV, pasL, pas1, ownsOk, okHs, okHs2, okFin, finOk2, rho, over, backRes, backAV, backAV1, backBlk, putBack, back2, back2_V, back2_1, m2, AV.wipe, AV.wipeV, AV.wipe1, Blk.wipe, AV.hs, AV.hs.hsL, alOps, Con.start2, Con.pk, bodyQ, fini, resAV, resA, firstId, Sc.from, renEnv, renT, renV, renVs, renL, ren1, renBox, renOwn, okRen, clOf, actB, setRow, flatRows, flatD, noInv, shr_nil, shr_some, kStepF_some, shareL, AV.viewed, AV.viewed1, cL4Path, Con.fn, tTab, cL1Cut, cL4Name]
  try dsimp only
  try simp +contextual [eStr, eFile, cast_succ, cast_eq, cast_zero, List.getElem?_eq_getElem, eStrs_set, eFiles_set, eStrs_rep, eFiles_rep, ← eStrs_append, ← eFiles_append, eStrs_take, eStrs_drop, eFiles_take, eFiles_drop, eStrs_snoc, eFiles_snoc, and_assoc, cast_three]
  repeat' (first | intro _ | apply And.intro)
  all_goals first | omega | grind [all_take, pathS, List.take_succ_eq_append_getElem]

end Vx
end Go.Proofs.YtlhkmgbmnbkaeaaDoor
/-
  Contracts: trees (the reference's).
-/
namespace Go.Proofs.YtlhkmgbmnbkaeaaDoor
namespace Vx
open Go.RowKit

def leqS (a b : Str) : Bool := Go.Op.bytesLess a b || decide (a = b)
def okHead (t : List FileD) (i : Nat) : Bool := pathS (t.getD i default).path && textB (t.getD i default).text && (decide (i = 0) || !leqS (t.getD i default).path (t.getD (i - 1) default).path)
def noIn (t : List FileD) (i : Nat) : Bool := t.all fun g => !inB (t.getD i default).path g.path
def treeS (t : List FileD) : Bool := (List.range t.length).all (fun i => okHead t i && noIn t i) && decide (t.length ≤ 8)
def cL4Ok : Con := .fn 65 (List FileD) (fun t => [.sl true 2 (eFiles t)]) (fun _ => True) (fun t => .bool (treeS t)) (fun _ => [])
def l4OkO (t : List FileD) : Inv := ⟨Nat, fun i => ⟨[(0, true, .sl true 2 (eFiles t)), (2, true, .bool false), (3, true, .int .i64 i)], []⟩, fun i => i ≤ t.length ∧ ∀ j, j < i → okHead t j = true ∧ noIn t j = true, fun i => t.length - i⟩
def l4OkI (t : List FileD) (g : Nat) : Inv := ⟨Nat, fun k => ⟨[(0, true, .sl true 2 (eFiles t)), (2, true, .bool false), (3, true, .int .i64 g), (4, true, .int .i64 k)], []⟩, fun x => g < t.length ∧ x ≤ t.length ∧ (∀ j, j < g → okHead t j = true ∧ noIn t j = true) ∧ okHead t g = true ∧ ∀ k, k < x → inB (t.getD g default).path (t.getD k default).path = false, fun x => t.length - x⟩
def l4OkInv (t : List FileD) (n g : Nat) : Inv := if n = 2 then l4OkO t else l4OkI t g
theorem l4OkInv_2 (t : List FileD) (g : Nat) : l4OkInv t 2 g = l4OkO t := rfl
theorem l4OkInv_7 (t : List FileD) (g : Nat) : l4OkInv t 7 g = l4OkI t g := rfl
set_option maxRecDepth 8000
set_option maxHeartbeats 4000000 in
theorem l4Ok_has : Has Tryd.prog 72 cL4Ok := by
  refine has_walk mixed tTab_ok (l := [(131, cL4Path), (132, cL1Ok), (133, cL4In), (98, cL1In)]) (HasL.cons l4Path_has (HasL.cons l1Ok_has (HasL.cons l4In_has (HasL.cons l1In_has HasL.nil)))) [0, 2, 3, 4] (fun t => l4OkInv t) [] Tryd.func72 (by kernel_rfl) (code := _) (by unfold Tryd.f72; rfl) (by kernel_rfl) (by decide) (fun _ => ⟨(), trivial⟩) (by intro h; first | exact fun _ => rfl | cases h) (by kernel_rfl) ?_
  intro (t : List FileD) _
  have hs : ∀ i, t.length ≤ i → ¬ i < t.length := by omega
  have hE : treeS t = true ↔ (∀ i, i < t.length → okHead t i = true ∧ noIn t i = true) ∧ t.length ≤ 8 := by
    simp [treeS]
  have hF : ∀ i, i < t.length → (okHead t i && noIn t i) = false → treeS t = false := by
    intro i hi h
    rcases hb : treeS t with _ | _
    · rfl
    · exact absurd ((hE.1 hb).1 i hi) (by simpa using h)
  have hH : ∀ i, i < t.length → okHead t i = false → treeS t = false := fun i hi h => hF i hi (by simp [h])
  have hN : ∀ i k, i < t.length → k < t.length → inB (t.getD i default).path (t.getD k default).path = true → treeS t = false := by
    intro i k hi hk h
    refine hF i hi ?_
    have : noIn t i = false := by
      simp only [noIn, List.all_eq_false]
      exact ⟨t[k], List.getElem_mem hk, by simp [List.getD_eq_getElem?_getD, hk] at h ⊢; simpa [hk] using h⟩
    simp [this]
  have hI : ∀ i, (∀ k, k < t.length → inB (t.getD i default).path (t.getD k default).path = false) → noIn t i = true := by
    intro i h
    simp only [noIn, List.all_eq_true]
    intro g hg
    obtain ⟨k, hk, rfl⟩ := List.getElem_of_mem hg
    have := h k hk
    simpa [List.getD_eq_getElem?_getD, hk] using this
  simp -implicitDefEqProofs [vc_skip, extOf, vc_seq, vc_cond, vc_block, vc_exit, vc_ret, vc_region, vc_regionD, vc_loop, kSeq_normal, kSeq_ret, kSeq_exit, kBlock_normal, kBlock_ret, kBlock_exit, kLoop_normal, kLoop_ret, kLoop_exit, kCond_bool, kNorm_app, vcOps_nil, vcOps_cons, kOps_app, kStep_some, kStep_none, vcDL_nil, vcDL_cons, kOpsD_app, kStepD_true, kStepD_false, kStepC_some, kStepC_none, kMv_app, act3_store, act3_call, act3_bs, kAct_app, kSt2_app, stealSlots, stealL, stealOne, subIn, AV.stolen, act_store, act_bs, act_append, act_call, kSet_app, kSet2_app, kSetG_app, kSetG_app0, kStore_ptr, kStore_eptr, kCallW_some, kCallC_some, kCall_some, wk_T, wk_n, wk_keep, wk_inv, wk_act, wk_dr, wk_le, aCalm, wantC, dstOk, calm, aCallK, aCall3K, subOf, subRep, aCall2K, apnd, bsMove, putBox, putOwn, partAV, mvL, AV.mv, AV.base, AV.moved, AV.src, TI.flat, apSize, pickAV, St.val, St.cond, St.fn, St.next, St.set, St.trim, wipe_eq, wipeE_app, wipeM_app, pickEnv, get?, cGet, upd_app, withPuts, killAll, rm, freshP, Oper.hnd, Sc.st, ofConst, constOk, lenAV, elemLen, loadAV, ldL, ld1, fieldAddrAV, indexAddrAV, sliceAV, convAV, buildAV, fillAV, fieldAV, Out.of, binAV, AV.rows, AV.one, AV.cells, AV.deepOk, AV.toD, toDs, partRows, partRowsM, partsDeep, TK.zeroAV, TK.zeroD, byteOf, inR, Op.operands, Call.operands, passVs, passV, passL, pass1, passB, pasVs, pasV, pasL, pas1, ownsOk, okHs, okHs2, okFin, finOk2, rho, over, backRes, backAV, backAV1, backBlk, putBack, back2, back2_V, back2_1, m2, AV.wipe, AV.wipeV, AV.wipe1, Blk.wipe, AV.hs, AV.hs.hsL, alOps, Con.start2, Con.pk, bodyQ, fini, resAV, resA, firstId, Sc.from, renEnv, renT, renV, renVs, renL, ren1, renBox, renOwn, okRen, clOf, actB, setRow, flatRows, flatD, noInv, shr_nil, shr_some, kStepF_some, shareL, AV.viewed, AV.viewed1, cL4Ok, Con.fn, tTab, cL4Path, cL1Ok, cL4In, cL1In, l4OkInv_2, l4OkInv_7, l4OkO, l4OkI]
  try dsimp only
  intro i hi hj hl
  have e1 : ∀ k (h : k < t.length), Option.map eFile t[k]? = some (eFile t[k]) := by
    intro k h
    simp [List.getElem?_eq_getElem h]
  have e2 : i < t.length → i - 1 < t.length := by omega
  constructor
  · intro hlt
    have e3 := e1 i hlt
    have e4 := e1 (i - 1) (e2 hlt)
    simp [hlt, e2 hlt, e3, e4, eFile, eStr, D.asStr, D.asRows]
    try simp +contextual [eStr, eFile, cast_succ, cast_eq, cast_zero, List.getElem?_eq_getElem, eStrs_set, eFiles_set, eStrs_rep, eFiles_rep, ← eStrs_append, ← eFiles_append, eStrs_take, eStrs_drop, eFiles_take, eFiles_drop, eStrs_snoc, eFiles_snoc, and_assoc]
    repeat' (first | intro _ | apply And.intro)
    all_goals first | omega | grind [all_take, okHead, leqS]
  · have hX : t.length ≤ i → treeS t = decide (t.length ≤ 8) := by
      intro h
      have : treeS t = true ↔ t.length ≤ 8 := by
        rw [hE]
        exact ⟨fun h => h.2, fun h8 => ⟨fun j hj' => hj j (by omega), h8⟩⟩
      cases h' : treeS t <;> simp_all
    try simp +contextual [eStr, eFile, cast_succ, cast_eq, cast_zero, List.getElem?_eq_getElem, eStrs_set, eFiles_set, eStrs_rep, eFiles_rep, ← eStrs_append, ← eFiles_append, eStrs_take, eStrs_drop, eFiles_take, eFiles_drop, eStrs_snoc, eFiles_snoc, and_assoc]
    repeat' (first | intro _ | apply And.intro)
    all_goals first | omega | grind [all_take, okHead, leqS]

end Vx
end Go.Proofs.YtlhkmgbmnbkaeaaDoor
/-
  Contracts: the number of a tree's lines (the reference's).
-/
namespace Go.Proofs.YtlhkmgbmnbkaeaaDoor
namespace Vx
open Go.RowKit

def nLines (t : List FileD) : Nat := (t.map fun f => f.text.length).sum
def statS (t : List FileD) : Int := if treeS t then (nLines t : Int) else -1
theorem nLines_take (t : List FileD) (i : Nat) (h : i < t.length) : nLines (t.take (i + 1)) = nLines (t.take i) + t[i].text.length := by
  unfold nLines
  rw [List.take_succ_eq_append_getElem h, List.map_append, List.sum_append]
  rfl
theorem treeS_le (t : List FileD) (h : treeS t = true) : t.length ≤ 8 ∧ ∀ f ∈ t, f.text.length ≤ 64 := by
  simp only [treeS, Bool.and_eq_true, decide_eq_true_eq, List.all_eq_true, List.mem_range, okHead] at h
  refine ⟨h.2, fun f hf => ?_⟩
  obtain ⟨i, hi, rfl⟩ := List.getElem_of_mem hf
  have := (h.1 i hi).1.1.2
  simp [List.getD_eq_getElem?_getD, hi, textB] at this
  omega
theorem nLines_le (t : List FileD) (h : ∀ f ∈ t, f.text.length ≤ 64) : nLines t ≤ 64 * t.length := by
  induction t with
  | nil => simp [nLines]
  | cons f r ih =>
    have h1 := h f (by simp)
    have h2 := ih (fun g hg => h g (by simp [hg]))
    simp [nLines] at h2 ⊢
    omega
theorem nLines_take_le (t : List FileD) (h : treeS t = true) (i : Nat) : nLines (t.take i) ≤ 512 := by
  have h1 := treeS_le t h
  have h2 := nLines_le (t.take i) (fun f hf => h1.2 f (List.mem_of_mem_take hf))
  have : (t.take i).length ≤ t.length := by simp; omega
  omega

end Vx
end Go.Proofs.YtlhkmgbmnbkaeaaDoor
/-
  Contracts: strings.Split at one byte; paths and trees (the program's).
-/
namespace Go.Proofs.YtlhkmgbmnbkaeaaDoor
namespace Vx
open Go.RowKit

/-- A text split at a byte; what is ahead of the rest in its piece. -/
def spl (c : UInt8) : Str → Str → List Str
  | [], p => [p]
  | x :: r, p => if x = c then p :: spl c r [] else spl c r (p ++ [x])

theorem idxB_lt (s : Str) (c : UInt8) : idxB s c < s.length := by
  induction s with
  | nil => simp [idxB]
  | cons b l ih =>
    simp only [idxB, List.length_cons]
    split
    · omega
    · split <;> omega
theorem spl_none {c : UInt8} : ∀ {s p : Str}, idxB s c < 0 → spl c s p = [p ++ s] ∧ s.count c = 0 := by
  intro s
  induction s with
  | nil => intro p _; simp [spl]
  | cons b l ih =>
    intro p h
    simp only [idxB] at h
    split at h
    · omega
    · rename_i hb
      split at h
      · rename_i hl
        have := ih (p := p ++ [b]) hl
        simp only [spl, if_neg hb]
        refine ⟨by rw [this.1]; simp, ?_⟩
        rw [List.count_cons, this.2]
        simp [hb]
      · omega
theorem spl_some {c : UInt8} : ∀ {s p : Str}, 0 ≤ idxB s c → spl c s p = (p ++ s.take (idxB s c).toNat) :: spl c (s.drop ((idxB s c).toNat + 1)) [] ∧ s.count c = (s.drop ((idxB s c).toNat + 1)).count c + 1 := by
  intro s
  induction s with
  | nil => intro p h; simp [idxB] at h
  | cons b l ih =>
    intro p h
    by_cases hb : b = c
    · subst hb
      simp [idxB, spl]
    · simp only [idxB, if_neg hb] at h ⊢
      split at h
      · omega
      · rename_i hl
        rw [if_neg hl]
        obtain ⟨h1, h2⟩ := ih (p := p ++ [b]) (by omega)
        have e : (idxB l c + 1).toNat = (idxB l c).toNat + 1 := by omega
        rw [e]
        simp only [spl, if_neg hb, List.take_succ_cons, List.drop_succ_cons]
        refine ⟨by rw [h1]; simp, ?_⟩
        rw [List.count_cons, h2]
        simp [hb]
theorem spl_len (c : UInt8) : ∀ (s p : Str), (spl c s p).length = s.count c + 1 := by
  intro s
  induction s with
  | nil => intro p; simp [spl]
  | cons b l ih =>
    intro p
    simp only [spl]
    split
    · rename_i h
      subst h
      simp [ih]
    · rename_i h
      rw [ih, List.count_cons]
      simp [h]
theorem set_rep {α : Type} (d : List α) (k : Nat) (z x : α) (h : 0 < k) : (d ++ List.replicate k z).set d.length x = (d ++ [x]) ++ List.replicate (k - 1) z := by
  obtain ⟨k, rfl⟩ : ∃ j, k = j + 1 := ⟨k - 1, by omega⟩
  rw [List.set_append_right _ _ (Nat.le_refl _)]
  simp [List.replicate_succ]

def cGenSplit : Con := .fn 66 (Str × UInt8) (fun a => [.str a.1, .str [a.2], .int .i64 0, .int .i64 (-1)]) (fun a => a.1.length ≤ 1073741824) (fun a => .sl false 1 (eStrs (spl a.2 a.1 []))) (fun _ => [])
def gsArr (N : Nat) (d : List Str) : List Str := d ++ List.replicate (N - d.length) []
theorem gsArr_len (N : Nat) (d : List Str) (h : d.length ≤ N) : (gsArr N d).length = N := by simp [gsArr]; omega
theorem gsArr_set (N : Nat) (d : List Str) (x : Str) (h : d.length < N) : (gsArr N d).set d.length x = gsArr N (d ++ [x]) := by
  unfold gsArr
  rw [set_rep _ _ _ _ (by omega)]
  simp only [List.length_append, List.length_cons, List.length_nil]
  congr 2
theorem gsArr_full (N : Nat) (d : List Str) (h : d.length = N) : gsArr N d = d := by simp [gsArr, h]
theorem gsArr_nil (N : Nat) : gsArr N [] = List.replicate N [] := by simp [gsArr]

set_option maxRecDepth 8000
set_option maxHeartbeats 4000000 in
theorem genSplit_has : Has Tryd.prog 144 cGenSplit := by
  refine has_walk mixed tTab_ok (l := [(163, cStringsCount), (164, cStringsIndex)]) (HasL.cons stringsCount_has (HasL.cons stringsIndex_has HasL.nil)) [0, 1, 2, 3, 8, 9, 10, 11] ((fun a n (_ : Nat) => (fun a _ => ⟨List Str × Str, fun t => ⟨[(0, true, .str t.2), (1, true, .str [a.2]), (2, true, .int .i64 0), (3, true, .int .i64 (a.1.count a.2)), (8, true, .nil), (9, true, .own 9 1 (eStrs (gsArr (a.1.count a.2 + 1) t.1))), (10, true, .int .i64 t.1.length)], ownStrs 9 (gsArr (a.1.count a.2 + 1) t.1)⟩, fun t => t.1.length + t.2.count a.2 = a.1.count a.2 ∧ t.2.length ≤ a.1.length ∧ t.1 ++ spl a.2 t.2 [] = spl a.2 a.1 [], fun t => a.1.count a.2 - t.1.length⟩) a n)) [] Tryd.func144 (by kernel_rfl) (code := _) (by unfold Tryd.f144; rfl) (by kernel_rfl) (by decide) (fun _ => ⟨(), trivial⟩) (by intro h; first | exact fun _ => rfl | cases h) (by kernel_rfl) ?_
  intro a ha
  obtain ⟨s, c⟩ := a
  replace ha : s.length ≤ 1073741824 := ha
  have hc : s.count c ≤ s.length := List.count_le_length
  simp -implicitDefEqProofs [vc_skip, extOf, vc_seq, vc_cond, vc_block, vc_exit, vc_ret, vc_region, vc_regionD, vc_loop, kSeq_normal, kSeq_ret, kSeq_exit, kBlock_normal, kBlock_ret, kBlock_exit, kLoop_normal, kLoop_ret, kLoop_exit, kCond_bool, kNorm_app, vcOps_nil, vcOps_cons, kOps_app, kStep_some, kStep_none, vcDL_nil, vcDL_cons, kOpsD_app, kStepD_true, kStepD_false, kStepC_some, kStepC_none, kMv_app, act3_store, act3_call, act3_bs, kAct_app, kSt2_app, stealSlots, stealL, stealOne, subIn, AV.stolen, act_store, act_bs, act_append, act_call, kSet_app, kSet2_app, kSetG_app, kSetG_app0, kStore_ptr, kStore_eptr, kCallW_some, kCallC_some, kCall_some, wk_T, wk_n, wk_keep, wk_inv, wk_act, wk_dr, wk_le, aCalm, wantC, dstOk, calm, aCallK, aCall3K, subOf, subRep, aCall2K, apnd, bsMove, putBox, putOwn, partAV, mvL, AV.mv, AV.base, AV.moved, AV.src, TI.flat, apSize, pickAV, St.val, St.cond, St.fn, St.next, St.set, St.trim, wipe_eq, wipeE_app, wipeM_app, pickEnv, get?, cGet, upd_app, withPuts, killAll, rm, freshP, Oper.hnd, Sc.st, ofConst, constOk, lenAV, elemLen, loadAV, ldL, ld1, fieldAddrAV, indexAddrAV, sliceAV, convAV, buildAV, fillAV, fieldAV, Out.of, binAV, AV.rows, AV.one, AV.cells, AV.deepOk, AV.toD, toDs, partRows, partRowsM, partsDeep, TK.zeroAV, TK.zeroD, byteOf, inR, Op.operands, Call.operands, passVs, passV, passL, pass1, passB, pasVs, pasV, pasL, pas1, ownsOk, okHs, okHs2, okFin, finOk2, rho, over, backRes, backAV, backAV1, backBlk, putBack, back2, back2_V, back2_1, m2, AV.wipe, AV.wipeV, AV.wipe1, Blk.wipe, AV.hs, AV.hs.hsL, alOps, Con.start2, Con.pk, bodyQ, fini, resAV, resA, firstId, Sc.from, renEnv, renT, renV, renVs, renL, ren1, renBox, renOwn, okRen, clOf, actB, setRow, flatRows, flatD, noInv, shr_nil, shr_some, kStepF_some, shareL, AV.viewed, AV.viewed1, cGenSplit, cStringsCount, cStringsIndex, Con.fn, tTab]
  try dsimp only
  have hif : ¬ s.length < s.count c := by omega
  have hr : (List.replicate ((s.count c : Int) + 1).toNat [D.str []]) = eStrs (gsArr (s.count c + 1) []) := by
    rw [show ((s.count c : Int) + 1).toNat = s.count c + 1 by omega, gsArr_nil, eStrs_rep]
  have K1 : ∀ (a : List Str) (b : Str), a.length + b.count c = s.count c → a.length < (gsArr (s.count c + 1) a).length := fun a b h => by rw [gsArr_len _ _ (by omega)]; omega
  have K2 : ∀ (a : List Str) (b : Str), a.length + b.count c = s.count c → a ++ spl c b [] = spl c s [] → (idxB b c < 0 ∨ s.count c ≤ a.length) → spl c s [] = ((gsArr (s.count c + 1) a).set a.length b).take (a.length + 1) := by
    intro a b h1 h2 h3
    have h4 : idxB b c < 0 := by
      rcases h3 with h | h
      · exact h
      · refine Classical.byContradiction fun hn => ?_
        have := (spl_some (p := []) (Int.not_lt.1 hn)).2
        omega
    have h5 := spl_none (p := []) h4
    rw [← h2, h5.1, gsArr_set _ _ _ (by omega)]
    unfold gsArr
    rw [List.take_left' (by simp)]
    rfl
  have K3 : ∀ (b : Str), idxB b c < b.length := fun b => idxB_lt b c
  have K4 : ∀ (a : List Str) (b : Str), a.length + b.count c = s.count c → b.length ≤ s.length → a ++ spl c b [] = spl c s [] → 0 ≤ idxB b c →
      ∃ x, gsArr (s.count c + 1) x = (gsArr (s.count c + 1) a).set a.length (b.take (idxB b c).toNat) ∧ x.length = a.length + 1 ∧ (gsArr (s.count c + 1) a).set a.length (b.take (idxB b c).toNat) = gsArr (s.count c + 1) x ∧
        x.length + ((b.drop (idxB b c + 1).toNat).take (b.length - (idxB b c + 1).toNat)).count c = s.count c ∧ b.length ≤ s.length + (idxB b c + 1).toNat ∧
        x ++ spl c ((b.drop (idxB b c + 1).toNat).take (b.length - (idxB b c + 1).toNat)) [] = spl c s [] ∧ s.count c - x.length < s.count c - a.length := by
    intro a b h1 h2 h3 h4
    obtain ⟨h5, h6⟩ := spl_some (p := []) h4
    have e1 : (idxB b c + 1).toNat = (idxB b c).toNat + 1 := by omega
    have e2 : (b.drop (idxB b c + 1).toNat).take (b.length - (idxB b c + 1).toNat) = b.drop ((idxB b c).toNat + 1) := by
      rw [e1]; exact List.take_of_length_le (by simp)
    rw [e2]
    refine ⟨a ++ [b.take (idxB b c).toNat], (gsArr_set _ _ _ (by omega)).symm, by simp, gsArr_set _ _ _ (by omega), by simp; omega, by omega, ?_, by simp; omega⟩
    rw [← h3, h5]
    simp
  simp +contextual [eStr, eFile, cast_succ, cast_eq, cast_zero, List.getElem?_eq_getElem, eStrs_set, eFiles_set, eStrs_rep, eFiles_rep, ← eStrs_append, ← eFiles_append, eStrs_take, eStrs_drop, eFiles_take, eFiles_drop, eStrs_snoc, eFiles_snoc, and_assoc, hif, hr]
  repeat' (first | intro _ | apply And.intro)
  all_goals first | omega | grind [gsArr_nil] | exact K4 _ _ (by omega) (by omega) (by assumption) (by omega)

def cSplit : Con := .fn 8 (Str × UInt8) (fun a => [.str a.1, .str [a.2]]) (fun a => a.1.length ≤ 1073741824) (fun a => .sl false 1 (eStrs (spl a.2 a.1 []))) (fun _ => [])
set_option maxHeartbeats 4000000 in
theorem split_has : Has Tryd.prog 90 cSplit := by
  refine has_walk mixed tTab_ok (l := [(144, cGenSplit)]) (HasL.cons genSplit_has HasL.nil) [0, 1, 4] ((fun a n (_ : Nat) => (fun _ => noInv) a n)) [] Tryd.func90 (by kernel_rfl) (code := _) (by unfold Tryd.f90; rfl) (by kernel_rfl) (by decide) (fun _ => ⟨(), trivial⟩) (by intro h; first | exact fun _ => rfl | cases h) (by kernel_rfl) ?_
  intro a ha
  obtain ⟨s, c⟩ := a
  replace ha : s.length ≤ 1073741824 := ha
  simp -implicitDefEqProofs [vc_skip, extOf, vc_seq, vc_cond, vc_block, vc_exit, vc_ret, vc_region, vc_regionD, vc_loop, kSeq_normal, kSeq_ret, kSeq_exit, kBlock_normal, kBlock_ret, kBlock_exit, kLoop_normal, kLoop_ret, kLoop_exit, kCond_bool, kNorm_app, vcOps_nil, vcOps_cons, kOps_app, kStep_some, kStep_none, vcDL_nil, vcDL_cons, kOpsD_app, kStepD_true, kStepD_false, kStepC_some, kStepC_none, kMv_app, act3_store, act3_call, act3_bs, kAct_app, kSt2_app, stealSlots, stealL, stealOne, subIn, AV.stolen, act_store, act_bs, act_append, act_call, kSet_app, kSet2_app, kSetG_app, kSetG_app0, kStore_ptr, kStore_eptr, kCallW_some, kCallC_some, kCall_some, wk_T, wk_n, wk_keep, wk_inv, wk_act, wk_dr, wk_le, aCalm, wantC, dstOk, calm, aCallK, aCall3K, subOf, subRep, aCall2K, apnd, bsMove, putBox, putOwn, partAV, mvL, AV.mv, AV.base, AV.moved, AV.src, TI.flat, apSize, pickAV, St.val, St.cond, St.fn, St.next, St.set, St.trim, wipe_eq, wipeE_app, wipeM_app, pickEnv, get?, cGet, upd_app, withPuts, killAll, rm, freshP, Oper.hnd, Sc.st, ofConst, constOk, lenAV, elemLen, loadAV, ldL, ld1, fieldAddrAV, indexAddrAV, sliceAV, convAV, buildAV, fillAV, fieldAV, Out.of, binAV, AV.rows, AV.one, AV.cells, AV.deepOk, AV.toD, toDs, partRows, partRowsM, partsDeep, TK.zeroAV, TK.zeroD, byteOf, inR, Op.operands, Call.operands, passVs, passV, passL, pass1, passB, pasVs, pasV, pasL, pas1, ownsOk, okHs, okHs2, okFin, finOk2, rho, over, backRes, backAV, backAV1, backBlk, putBack, back2, back2_V, back2_1, m2, AV.wipe, AV.wipeV, AV.wipe1, Blk.wipe, AV.hs, AV.hs.hsL, alOps, Con.start2, Con.pk, bodyQ, fini, resAV, resA, firstId, Sc.from, renEnv, renT, renV, renVs, renL, ren1, renBox, renOwn, okRen, clOf, actB, setRow, flatRows, flatD, noInv, shr_nil, shr_some, kStepF_some, shareL, AV.viewed, AV.viewed1, cSplit, Con.fn, tTab, cGenSplit]
  try dsimp only
  try simp +contextual [eStr, eFile, cast_succ, cast_eq, cast_zero, List.getElem?_eq_getElem, eStrs_set, eFiles_set, eStrs_rep, eFiles_rep, ← eStrs_append, ← eFiles_append, eStrs_take, eStrs_drop, eFiles_take, eFiles_drop, eStrs_snoc, eFiles_snoc, and_assoc]
  repeat' (first | intro _ | apply And.intro)
  all_goals first | omega | grind [all_take]

def pathI (s : Str) : Bool := decide ((spl 47 s []).length ≤ 3) && (spl 47 s []).all nameB
def cPathOk : Con := .fn 21 Str (fun s => [.str s]) (fun s => s.length ≤ 1073741824) (fun s => .bool (pathI s)) (fun _ => [])
set_option maxHeartbeats 4000000 in
theorem pathOk_has : Has Tryd.prog 31 cPathOk := by
  refine has_walk mixed tTab_ok (l := [(90, cSplit), (70, cNameOk)]) (HasL.cons split_has (HasL.cons nameOk_has HasL.nil)) [0, 2, 3, 5, 11, 12, 13] ((fun a n (_ : Nat) => (fun s _ => ⟨Nat, fun i => ⟨[(2, true, .bool false), (11, true, .sl false 1 (eStrs (spl 47 s []))), (12, true, .int .i64 (spl 47 s []).length), (13, true, .int .i64 i)], []⟩, fun i => i ≤ (spl 47 s []).length ∧ (spl 47 s []).length ≤ 3 ∧ ((spl 47 s []).take i).all nameB = true, fun i => (spl 47 s []).length - i⟩) a n)) [] Tryd.func31 (by kernel_rfl) (code := _) (by unfold Tryd.f31; rfl) (by kernel_rfl) (by decide) (fun _ => ⟨(), trivial⟩) (by intro h; first | exact fun _ => rfl | cases h) (by kernel_rfl) ?_
  intro (s : Str) hs
  replace hs : s.length ≤ 1073741824 := hs
  simp -implicitDefEqProofs [vc_skip, extOf, vc_seq, vc_cond, vc_block, vc_exit, vc_ret, vc_region, vc_regionD, vc_loop, kSeq_normal, kSeq_ret, kSeq_exit, kBlock_normal, kBlock_ret, kBlock_exit, kLoop_normal, kLoop_ret, kLoop_exit, kCond_bool, kNorm_app, vcOps_nil, vcOps_cons, kOps_app, kStep_some, kStep_none, vcDL_nil, vcDL_cons, kOpsD_app, kStepD_true, kStepD_false, kStepC_some, kStepC_none, kMv_app, act3_store, act3_call, act3_bs, kAct_app, kSt2_app, stealSlots, stealL, stealOne, subIn, AV.stolen, act_store, act_bs, act_append, act_call, kSet_app, kSet2_app, kSetG_app, kSetG_app0, kStore_ptr, kStore_eptr, kCallW_some, kCallC_some, kCall_some, wk_T, wk_n, wk_keep, wk_inv, wk_act, wk_dr, wk_le, aCalm, wantC, dstOk, calm, aCallK, aCall3K, subOf, subRep, aCall2K, apnd, bsMove, putBox, putOwn, partAV, mvL, AV.mv, AV.base, AV.moved, AV.src, TI.flat, apSize, pickAV, St.val, St.cond, St.fn, St.next, St.set, St.trim, wipe_eq, wipeE_app, wipeM_app, pickEnv, get?, cGet, upd_app, withPuts, killAll, rm, freshP, Oper.hnd, Sc.st, ofConst, constOk, lenAV, elemLen, loadAV, ldL, ld1, fieldAddrAV, indexAddrAV, sliceAV, convAV, buildAV, fillAV, fieldAV, Out.of, binAV, AV.rows, AV.one, AV.cells, AV.deepOk, AV.toD, toDs, partRows, partRowsM, partsDeep, TK.zeroAV, TK.zeroD, byteOf, inR, Op.operands, Call.operands, passVs, passV, passL, pass1, passB, pasVs, pasV, pasL, pas1, ownsOk, okHs, okHs2, okFin, finOk2, rho, over, backRes, backAV, backAV1, backBlk, putBack, back2, back2_V, back2_1, m2, AV.wipe, AV.wipeV, AV.wipe1, Blk.wipe, AV.hs, AV.hs.hsL, alOps, Con.start2, Con.pk, bodyQ, fini, resAV, resA, firstId, Sc.from, renEnv, renT, renV, renVs, renL, ren1, renBox, renOwn, okRen, clOf, actB, setRow, flatRows, flatD, noInv, shr_nil, shr_some, kStepF_some, shareL, AV.viewed, AV.viewed1, cPathOk, Con.fn, tTab, cSplit, cNameOk]
  try dsimp only
  try simp +contextual [eStr, eFile, cast_succ, cast_eq, cast_zero, List.getElem?_eq_getElem, eStrs_set, eFiles_set, eStrs_rep, eFiles_rep, ← eStrs_append, ← eFiles_append, eStrs_take, eStrs_drop, eFiles_take, eFiles_drop, eStrs_snoc, eFiles_snoc, and_assoc]
  repeat' (first | intro _ | apply And.intro)
  all_goals first | omega | grind [all_take, pathI, List.take_succ_eq_append_getElem]

end Vx
end Go.Proofs.YtlhkmgbmnbkaeaaDoor
/-
  Contracts: trees (the program's).
-/
namespace Go.Proofs.YtlhkmgbmnbkaeaaDoor
namespace Vx
open Go.RowKit
set_option maxRecDepth 8000

def pathInI (d p : Str) : Bool := pathI d && pathI p && prefB (d ++ [47]) p
def cPathIn : Con := .fn 17 (Str × Str) (fun a => [.str a.1, .str a.2]) (fun a => a.1.length ≤ 536870912 ∧ a.2.length ≤ 536870912) (fun a => .bool (pathInI a.1 a.2)) (fun _ => [])
set_option maxHeartbeats 4000000 in
theorem pathIn_has : Has Tryd.prog 52 cPathIn := by
  refine has_walk mixed tTab_ok (l := [(31, cPathOk), (113, cHasPrefix)]) (HasL.cons pathOk_has (HasL.cons hasPrefix_has HasL.nil)) [0, 1, 4] ((fun a n (_ : Nat) => (fun _ => noInv) a n)) [] Tryd.func52 (by kernel_rfl) (code := _) (by unfold Tryd.f52; rfl) (by kernel_rfl) (by decide) (fun _ => ⟨(), trivial⟩) (by intro h; first | exact fun _ => rfl | cases h) (by kernel_rfl) ?_
  intro a ha
  obtain ⟨d, p⟩ := a
  obtain ⟨h1, h2⟩ : d.length ≤ 536870912 ∧ p.length ≤ 536870912 := ha
  simp -implicitDefEqProofs [vc_skip, extOf, vc_seq, vc_cond, vc_block, vc_exit, vc_ret, vc_region, vc_regionD, vc_loop, kSeq_normal, kSeq_ret, kSeq_exit, kBlock_normal, kBlock_ret, kBlock_exit, kLoop_normal, kLoop_ret, kLoop_exit, kCond_bool, kNorm_app, vcOps_nil, vcOps_cons, kOps_app, kStep_some, kStep_none, vcDL_nil, vcDL_cons, kOpsD_app, kStepD_true, kStepD_false, kStepC_some, kStepC_none, kMv_app, act3_store, act3_call, act3_bs, kAct_app, kSt2_app, stealSlots, stealL, stealOne, subIn, AV.stolen, act_store, act_bs, act_append, act_call, kSet_app, kSet2_app, kSetG_app, kSetG_app0, kStore_ptr, kStore_eptr, kCallW_some, kCallC_some, kCall_some, wk_T, wk_n, wk_keep, wk_inv, wk_act, wk_dr, wk_le, aCalm, wantC, dstOk, calm, aCallK, aCall3K, subOf, subRep, aCall2K, apnd, bsMove, putBox, putOwn, partAV, mvL, AV.mv, AV.base, AV.moved, AV.src, TI.flat, apSize, pickAV, St.val, St.cond, St.fn, St.next, St.set, St.trim, wipe_eq, wipeE_app, wipeM_app, pickEnv, get?, cGet, upd_app, withPuts, killAll, rm, freshP, Oper.hnd, Sc.st, ofConst, constOk, lenAV, elemLen, loadAV, ldL, ld1, fieldAddrAV, indexAddrAV, sliceAV, convAV, buildAV, fillAV, fieldAV, Out.of, binAV, AV.rows, AV.one, AV.cells, AV.deepOk, AV.toD, toDs, partRows, partRowsM, partsDeep, TK.zeroAV, TK.zeroD, byteOf, inR, Op.operands, Call.operands, passVs, passV, passL, pass1, passB, pasVs, pasV, pasL, pas1, ownsOk, okHs, okHs2, okFin, finOk2, rho, over, backRes, backAV, backAV1, backBlk, putBack, back2, back2_V, back2_1, m2, AV.wipe, AV.wipeV, AV.wipe1, Blk.wipe, AV.hs, AV.hs.hsL, alOps, Con.start2, Con.pk, bodyQ, fini, resAV, resA, firstId, Sc.from, renEnv, renT, renV, renVs, renL, ren1, renBox, renOwn, okRen, clOf, actB, setRow, flatRows, flatD, noInv, shr_nil, shr_some, kStepF_some, shareL, AV.viewed, AV.viewed1, cPathIn, Con.fn, tTab, cPathOk, cHasPrefix]
  try dsimp only
  try simp +contextual [eStr, eFile, cast_succ, cast_eq, cast_zero, List.getElem?_eq_getElem, eStrs_set, eFiles_set, eStrs_rep, eFiles_rep, ← eStrs_append, ← eFiles_append, eStrs_take, eStrs_drop, eFiles_take, eFiles_drop, eStrs_snoc, eFiles_snoc, and_assoc]
  repeat' (first | intro _ | apply And.intro)
  all_goals first | omega | grind [all_take, pathInI, maxLen]

def headI (t : List FileD) (i : Nat) : Bool := textB (t.getD i default).text && pathI (t.getD i default).path && (decide (i = 0) || Go.Op.bytesLess (t.getD (i - 1) default).path (t.getD i default).path)
def noUp (t : List FileD) (i : Nat) : Bool := (List.range i).all fun k => !pathInI (t.getD k default).path (t.getD i default).path
def treeI (t : List FileD) : Bool := decide (t.length ≤ 8) && (List.range t.length).all fun i => headI t i && noUp t i
def cTreeOk : Con := .fn 57 (List FileD) (fun t => [.sl true 2 (eFiles t)]) (fun t => ∀ f ∈ t, f.path.length ≤ 536870912) (fun t => .bool (treeI t)) (fun _ => [])
def tiO (t : List FileD) : Inv := ⟨Nat, fun i => ⟨[(0, true, .sl true 2 (eFiles t)), (2, true, .bool false), (10, true, .sl true 2 (eFiles t)), (11, true, .int .i64 t.length), (12, true, .int .i64 i)], []⟩, fun i => i ≤ t.length ∧ t.length ≤ 8 ∧ ∀ j, j < i → headI t j = true ∧ noUp t j = true, fun i => t.length - i⟩
def tiI (t : List FileD) (g : Nat) : Inv := ⟨Nat, fun k => ⟨[(0, true, .sl true 2 (eFiles t)), (2, true, .bool false), (3, true, .int .i64 g), (4, true, .ptr 10 0), (10, true, .sl true 2 (eFiles t)), (11, true, .int .i64 t.length), (12, true, .int .i64 g), (44, true, .sl true 2 (eFiles (t.take g))), (45, true, .int .i64 g), (46, true, .int .i64 k)],
    [(10, .box 32 [.str (t.getD g default).path, .sl true 1 (eStrs (t.getD g default).text)])]⟩, fun x => g < t.length ∧ x ≤ g ∧ t.length ≤ 8 ∧ (∀ j, j < g → headI t j = true ∧ noUp t j = true) ∧ headI t g = true ∧ ∀ k, k < x → pathInI (t.getD k default).path (t.getD g default).path = false, fun x => g - x⟩
def tiInv (t : List FileD) (n g : Nat) : Inv := if n = 4 then tiO t else tiI t g
theorem tiInv_4 (t : List FileD) (g : Nat) : tiInv t 4 g = tiO t := rfl
theorem tiInv_9 (t : List FileD) (g : Nat) : tiInv t 9 g = tiI t g := rfl
set_option maxHeartbeats 4000000 in
theorem treeOk_has : Has Tryd.prog 18 cTreeOk := by
  refine has_walk mixed tTab_ok (l := [(75, cTextOk), (31, cPathOk), (52, cPathIn)]) (HasL.cons textOk_has (HasL.cons pathOk_has (HasL.cons pathIn_has HasL.nil))) [0, 2, 3, 4, 6, 10, 11, 12, 44, 45, 46] (fun t => tiInv t) [] Tryd.func18 (by kernel_rfl) (code := _) (by unfold Tryd.f18; rfl) (by kernel_rfl) (by decide) (fun _ => ⟨(), trivial⟩) (by intro h; first | exact fun _ => rfl | cases h) (by kernel_rfl) ?_
  intro (t : List FileD) ht
  replace ht : ∀ f ∈ t, f.path.length ≤ 536870912 := ht
  have hp : ∀ i (h : i < t.length), (t[i]).path.length ≤ 536870912 := fun i h => ht _ (List.getElem_mem h)
  simp -implicitDefEqProofs [vc_skip, extOf, vc_seq, vc_cond, vc_block, vc_exit, vc_ret, vc_region, vc_regionD, vc_loop, kSeq_normal, kSeq_ret, kSeq_exit, kBlock_normal, kBlock_ret, kBlock_exit, kLoop_normal, kLoop_ret, kLoop_exit, kCond_bool, kNorm_app, vcOps_nil, vcOps_cons, kOps_app, kStep_some, kStep_none, vcDL_nil, vcDL_cons, kOpsD_app, kStepD_true, kStepD_false, kStepC_some, kStepC_none, kMv_app, act3_store, act3_call, act3_bs, kAct_app, kSt2_app, stealSlots, stealL, stealOne, subIn, AV.stolen, act_store, act_bs, act_append, act_call, kSet_app, kSet2_app, kSetG_app, kSetG_app0, kStore_ptr, kStore_eptr, kCallW_some, kCallC_some, kCall_some, wk_T, wk_n, wk_keep, wk_inv, wk_act, wk_dr, wk_le, aCalm, wantC, dstOk, calm, aCallK, aCall3K, subOf, subRep, aCall2K, apnd, bsMove, putBox, putOwn, partAV, mvL, AV.mv, AV.base, AV.moved, AV.src, TI.flat, apSize, pickAV, St.val, St.cond, St.fn, St.next, St.set, St.trim, wipe_eq, wipeE_app, wipeM_app, pickEnv, get?, cGet, upd_app, withPuts, killAll, rm, freshP, Oper.hnd, Sc.st, ofConst, constOk, lenAV, elemLen, loadAV, ldL, ld1, fieldAddrAV, indexAddrAV, sliceAV, convAV, buildAV, fillAV, fieldAV, Out.of, binAV, AV.rows, AV.one, AV.cells, AV.deepOk, AV.toD, toDs, partRows, partRowsM, partsDeep, TK.zeroAV, TK.zeroD, byteOf, inR, Op.operands, Call.operands, passVs, passV, passL, pass1, passB, pasVs, pasV, pasL, pas1, ownsOk, okHs, okHs2, okFin, finOk2, rho, over, backRes, backAV, backAV1, backBlk, putBack, back2, back2_V, back2_1, m2, AV.wipe, AV.wipeV, AV.wipe1, Blk.wipe, AV.hs, AV.hs.hsL, alOps, Con.start2, Con.pk, bodyQ, fini, resAV, resA, firstId, Sc.from, renEnv, renT, renV, renVs, renL, ren1, renBox, renOwn, okRen, clOf, actB, setRow, flatRows, flatD, noInv, shr_nil, shr_some, kStepF_some, shareL, AV.viewed, AV.viewed1, cTreeOk, Con.fn, tTab, cTextOk, cPathOk, cPathIn, tiInv_4, tiInv_9, tiO, tiI]
  try dsimp only
  have hE : treeI t = true ↔ t.length ≤ 8 ∧ ∀ i, i < t.length → headI t i = true ∧ noUp t i = true := by
    simp [treeI]
  have hF : ∀ i, i < t.length → (headI t i && noUp t i) = false → treeI t = false := by
    intro i hi h
    rcases hb : treeI t with _ | _
    · rfl
    · exact absurd ((hE.1 hb).2 i hi) (by simpa using h)
  have hH : ∀ i, i < t.length → headI t i = false → treeI t = false := fun i hi h => hF i hi (by simp [h])
  have hN : ∀ i k, i < t.length → k < i → pathInI (t.getD k default).path (t.getD i default).path = true → treeI t = false := by
    intro i k hi hk h
    refine hF i hi ?_
    have : noUp t i = false := by
      simp only [noUp, List.all_eq_false]
      exact ⟨k, List.mem_range.2 hk, by simpa using h⟩
    simp [this]
  have hI : ∀ i, (∀ k, k < i → pathInI (t.getD k default).path (t.getD i default).path = false) → noUp t i = true := by
    intro i h
    simp only [noUp, List.all_eq_true, List.mem_range]
    intro k hk
    simp only [h k hk, Bool.not_false]
  have hB : 8 < t.length → treeI t = false := by
    intro h
    rcases hb : treeI t with _ | _
    · rfl
    · exact absurd (hE.1 hb).1 (by omega)
  have e1 : ∀ k (h : k < t.length), Option.map eFile t[k]? = some (eFile t[k]) := fun k h => by simp [List.getElem?_eq_getElem h]
  have e2 : ∀ i, i < t.length → i - 1 < t.length := fun i h => by omega
  have e4 : ∀ i k (h : k < i) (h2 : i < t.length), Option.map eFile (List.take i t)[k]? = some (eFile t[k]) := fun i k h h2 => by
    rw [List.getElem?_take, if_pos h]; exact e1 k (by omega)
  have hg : ∀ i (h : i < t.length), t.getD i default = t[i] := fun i h => by simp [List.getD_eq_getElem?_getD, h]
  intro _
  refine ⟨fun h => hB (by omega), fun h8 _ => ⟨by omega, fun i hi h8' hprev => ⟨fun hlt => ?_, fun hge => ?_⟩⟩⟩
  · have e3 := e1 i hlt
    have e3' := e1 (i - 1) (e2 i hlt)
    have hpi := hp i hlt
    have hgi := hg i hlt
    have hgi' := hg (i - 1) (e2 i hlt)
    have hh : headI t i = (textB t[i].text && pathI t[i].path && (decide (i = 0) || Go.Op.bytesLess t[i - 1].path t[i].path)) := by simp only [headI, hgi, hgi']
    have hm : min i t.length = i := by omega
    have hgg : t[i]?.getD default = t[i] := by simpa [List.getD_eq_getElem?_getD] using hgi
    simp [hlt, e2 i hlt, e3, e3', eFile, eStr, D.asStr, D.asRows, hm, cast_eq, and_assoc, hgg]
    try simp +contextual [eStr, eFile, cast_succ, cast_eq, cast_zero, List.getElem?_eq_getElem, eStrs_set, eFiles_set, eStrs_rep, eFiles_rep, ← eStrs_append, ← eFiles_append, eStrs_take, eStrs_drop, eFiles_take, eFiles_drop, eStrs_snoc, eFiles_snoc, and_assoc, e4, hgg, hm, hlt, D.asStr, D.asRows, cast_one]
    repeat' (first | intro _ | apply And.intro)
    all_goals first | omega | grind
  · have hT : treeI t = true := hE.2 ⟨h8', fun j hj => hprev j (by omega)⟩
    simp [hT]
    repeat' (first | intro _ | apply And.intro)
    all_goals first | omega | grind

def nLin (t : List FileD) : Nat := (t.map fun f => f.text.length).sum
def statI (t : List FileD) : Int := if treeI t then (nLines t : Int) else -1
theorem treeI_le (t : List FileD) (h : treeI t = true) : t.length ≤ 8 ∧ ∀ f ∈ t, f.text.length ≤ 64 := by
  simp only [treeI, Bool.and_eq_true, decide_eq_true_eq, List.all_eq_true, List.mem_range, headI] at h
  refine ⟨h.1, fun f hf => ?_⟩
  obtain ⟨i, hi, rfl⟩ := List.getElem_of_mem hf
  have := (h.2 i hi).1.1.1
  simp [List.getD_eq_getElem?_getD, hi, textB] at this
  omega
theorem nLinesI_take_le (t : List FileD) (h : treeI t = true) (i : Nat) : nLines (t.take i) ≤ 512 := by
  have h1 := treeI_le t h
  have h2 := nLines_le (t.take i) (fun f hf => h1.2 f (List.mem_of_mem_take hf))
  have : (t.take i).length ≤ t.length := by simp; omega
  omega
end Vx
end Go.Proofs.YtlhkmgbmnbkaeaaDoor
/-
  Plain laws: paths and trees, the program's and the reference's, are the same.
-/
namespace Go.Proofs.YtlhkmgbmnbkaeaaDoor
namespace Vx
open Go.RowKit

theorem less_eq : ∀ (x y : Str), Go.Op.bytesLess x y = decide (x < y)
  | [], [] => by simp [Go.Op.bytesLess]
  | _ :: _, [] => by simp [Go.Op.bytesLess]
  | [], _ :: _ => by simp [Go.Op.bytesLess]
  | a :: x, b :: y => by
    rw [Go.Op.bytesLess, less_eq x y]
    simp only [List.cons_lt_cons_iff]
    by_cases h1 : a < b <;> by_cases h2 : a = b <;> by_cases h3 : x < y <;> simp [h1, h2, h3]
theorem str_irrefl (a : Str) : ¬ a < a := List.lt_irrefl a
theorem str_trans {a b c : Str} (h : a < b) (h' : b < c) : a < c := List.lt_trans h h'
theorem str_total (a b : Str) (h : ¬ a < b) (hne : a ≠ b) : b < a := by
  have h1 : b ≤ a := List.not_lt.1 h
  exact Classical.byContradiction fun h2 => hne (List.le_antisymm (List.not_lt.1 h2) h1)
theorem str_asymm {a b : Str} (h : a < b) : ¬ b < a := fun h' => str_irrefl a (str_trans h h')
theorem leqS_iff (a b : Str) : leqS a b = !decide (b < a) := by
  unfold leqS
  rw [less_eq]
  by_cases h : a < b
  · simp [h, str_asymm h]
  · by_cases e : a = b
    · subst e; simp [str_irrefl]
    · simp [h, e, str_total a b h e]

theorem cut_spl {b : UInt8} {most : Nat} : ∀ {r c : Str} {n : Nat}, n + r.count b ≤ most → cutL (b.toNat : Int) most r c n = spl b r c := by
  intro r
  induction r with
  | nil => intro c n _; rfl
  | cons x r ih =>
    intro c n h
    have hx : ((x.toNat : Int) = (b.toNat : Int)) = (x = b) := by
      apply propext
      constructor
      · intro h; exact UInt8.toNat_inj.1 (by omega)
      · rintro rfl; rfl
    by_cases hb : x = b
    · subst hb
      rw [List.count_cons_self] at h
      simp only [cutL, spl, if_true, show n < most by omega]
      rw [ih (by omega)]
    · rw [List.count_cons_of_ne hb] at h
      simp only [cutL, spl, hx, hb, if_false]
      split
      · exact ih h
      · have h0 : r.count b = 0 := by omega
        have : ∀ (q p : Str), q.count b = 0 → spl b q p = [p ++ q] := by
          intro q
          induction q with
          | nil => intro p _; simp [spl]
          | cons y q ih2 =>
            intro p hq
            have hy : y ≠ b := by rintro rfl; simp at hq
            rw [List.count_cons_of_ne hy] at hq
            simp only [spl, hy, if_false]
            rw [ih2 _ hq]; simp
        rw [this r _ h0]; simp
theorem cut_len {b : UInt8} {most : Nat} : ∀ {r c : Str} {n : Nat}, n ≤ most → most < n + r.count b → (cutL (b.toNat : Int) most r c n).length = most - n + 1 := by
  intro r
  induction r with
  | nil => intro c n h1 h2; simp at h2; omega
  | cons x r ih =>
    intro c n h1 h2
    have hx : ((x.toNat : Int) = (b.toNat : Int)) = (x = b) := by
      apply propext
      constructor
      · intro h; exact UInt8.toNat_inj.1 (by omega)
      · rintro rfl; rfl
    simp only [cutL, hx]
    split
    · split
      · rename_i hb
        subst hb
        rw [List.count_cons_self] at h2
        rw [List.length_cons, ih (by omega) (by omega)]
        omega
      · rename_i hb
        rw [List.count_cons_of_ne hb] at h2
        rw [ih h1 h2]
    · simp; omega

theorem path_eq (s : Str) : pathI s = pathS s := by
  unfold pathI pathS
  by_cases h : s.count 47 ≤ 3
  · have : cutB s 47 3 = spl 47 s [] := cut_spl (b := 47) (most := 3) (by omega)
    rw [this, Bool.and_comm]
  · have h1 : (cutB s 47 3).length = 4 := cut_len (b := 47) (most := 3) (r := s) (c := []) (n := 0) (by omega) (by omega)
    have h2 := spl_len 47 s []
    simp [h1, h2, h]
    omega

theorem in_pref (d p : Str) : inB d p = prefB (d ++ [47]) p := by
  unfold inB prefB
  by_cases h : d.length < p.length
  · have e : p.take (d.length + 1) = p.take d.length ++ [p[d.length]] := List.take_succ_eq_append_getElem h
    simp only [List.length_append, List.length_cons, List.length_nil, Nat.zero_add, e, h, show d.length + 1 ≤ p.length by omega, decide_true, Bool.true_and]
    have hg : p.getD d.length 0 = p[d.length] := getD_nat _ _ h
    rw [hg, Bool.eq_iff_iff]
    simp only [Bool.and_eq_true, decide_eq_true_eq]
    constructor
    · rintro ⟨h1, h2⟩; rw [h1, h2]
    · intro h1
      have := List.append_inj h1 (by simp; omega)
      exact ⟨this.1, by simpa using this.2⟩
  · simp [h]
    omega

theorem pref_lt {d p : Str} (h : prefB (d ++ [47]) p = true) : d < p := by
  unfold prefB at h
  simp only [Bool.and_eq_true, decide_eq_true_eq, List.length_append, List.length_cons, List.length_nil, Nat.zero_add] at h
  have e : p = d ++ (47 :: p.drop (d.length + 1)) := by
    have := List.take_append_drop (d.length + 1) p
    rw [h.2] at this
    simpa using this.symm
  rw [e]
  generalize p.drop (d.length + 1) = q
  clear h e
  induction d with
  | nil => exact List.nil_lt_cons _ _
  | cons x d ih => exact List.cons_lt_cons_iff.2 (.inr ⟨rfl, ih⟩)

theorem tree_eq (t : List FileD) : treeI t = treeS t := by
  have hasc : (∀ i, i < t.length → headI t i = true) → ∀ i k, i < k → k < t.length → (t.getD i default).path < (t.getD k default).path := by
    intro h i k hik hk
    induction k with
    | zero => omega
    | succ k ih =>
      have h1 := h (k + 1) hk
      simp only [headI, Bool.and_eq_true, Bool.or_eq_true, decide_eq_true_eq, less_eq, Nat.add_sub_cancel] at h1
      have h2 : (t.getD k default).path < (t.getD (k + 1) default).path := by
        rcases h1.2 with h2 | h2
        · omega
        · exact h2
      rcases Nat.lt_or_ge i k with h3 | h3
      · exact str_trans (ih h3 (by omega)) h2
      · have : i = k := by omega
        subst this; exact h2
  have hhead : ∀ i, okHead t i = headI t i := by
    intro i
    simp only [okHead, headI, path_eq, leqS_iff, less_eq, Bool.not_not]
    rw [Bool.and_comm (pathS _)]
  rw [Bool.eq_iff_iff]
  simp only [treeI, treeS, Bool.and_eq_true, decide_eq_true_eq, List.all_eq_true, List.mem_range, hhead]
  constructor
  · rintro ⟨h8, h⟩
    refine ⟨fun i hi => ⟨(h i hi).1, ?_⟩, h8⟩
    simp only [noIn, List.all_eq_true, Bool.not_eq_true']
    intro g hg
    obtain ⟨k, hk, rfl⟩ := List.getElem_of_mem hg
    rw [show t[k] = t.getD k default by simp [List.getD_eq_getElem?_getD, hk], in_pref]
    cases hp : prefB ((t.getD i default).path ++ [47]) (t.getD k default).path with
    | false => rfl
    | true =>
      exfalso
      have hlt := pref_lt hp
      have hik : i < k := by
        rcases Nat.lt_trichotomy i k with h1 | h1 | h1
        · exact h1
        · subst h1; exact absurd hlt (str_irrefl _)
        · exact absurd hlt (str_asymm (hasc (fun i hi => (h i hi).1) k i h1 hi))
      have h2 := (h k hk).2
      simp only [noUp, List.all_eq_true, List.mem_range, Bool.not_eq_true'] at h2
      have h3 := h2 i hik
      have p1 := (h i hi).1
      have p2 := (h k hk).1
      simp only [headI, Bool.and_eq_true] at p1 p2
      simp only [pathInI, p1.1.2, p2.1.2, hp, Bool.and_self, reduceCtorEq] at h3
  · rintro ⟨h, h8⟩
    refine ⟨h8, fun i hi => ⟨(h i hi).1, ?_⟩⟩
    simp only [noUp, List.all_eq_true, List.mem_range, Bool.not_eq_true']
    intro k hk
    have h2 := (h k (by omega)).2
    simp only [noIn, List.all_eq_true, Bool.not_eq_true'] at h2
    have h3 := h2 _ (List.getElem_mem hi)
    rw [show t[i] = t.getD i default by simp [List.getD_eq_getElem?_getD, hi], in_pref] at h3
    simp only [pathInI, h3, Bool.and_false]

theorem stat_eq (t : List FileD) : statI t = statS t := by
  unfold statI statS
  rw [tree_eq]

end Vx
end Go.Proofs.YtlhkmgbmnbkaeaaDoor
/-
  Contracts: views (both sides): what is at a path.
-/
namespace Go.Proofs.YtlhkmgbmnbkaeaaDoor
namespace Vx
open Go.RowKit
set_option maxRecDepth 8000

/-- The first place where p holds; -1 if there is none. -/
def idxP {α : Type} (p : α → Bool) (l : List α) : Int := match l.findIdx? p with | some i => (i : Int) | none => -1
theorem idxP_hit {α : Type} {p : α → Bool} {l : List α} {i : Nat} (h : i < l.length) (hp : p l[i] = true) (hb : ∀ x, x ∈ l.take i → p x = false) : idxP p l = (i : Int) := by
  unfold idxP
  have : l.findIdx? p = some i := by
    rw [List.findIdx?_eq_some_iff_getElem]
    refine ⟨h, hp, fun j hj => ?_⟩
    have := hb l[j] (List.mem_take_iff_getElem.2 ⟨j, by omega, rfl⟩)
    simp [this]
  rw [this]
theorem idxP_miss {α : Type} {p : α → Bool} {l : List α} {i : Nat} (h : l.length ≤ i) (hb : ∀ x, x ∈ l.take i → p x = false) : idxP p l = -1 := by
  unfold idxP
  rw [List.take_of_length_le h] at hb
  rw [List.findIdx?_eq_none_iff.2 (by simpa using hb)]
theorem idxP_any {α : Type} (p : α → Bool) (l : List α) : (0 ≤ idxP p l) = (l.any p = true) := by
  apply propext
  unfold idxP
  cases h : l.findIdx? p with
  | some i =>
    obtain ⟨h1, h2, _⟩ := List.findIdx?_eq_some_iff_getElem.1 h
    simp only [Int.natCast_nonneg, true_iff, List.any_eq_true]
    exact ⟨_, List.getElem_mem h1, h2⟩
  | none =>
    have := List.findIdx?_eq_none_iff.1 h
    simp only [List.any_eq_true]
    constructor
    · intro h; omega
    · rintro ⟨x, hx, hp⟩; rw [this x hx] at hp; cases hp
theorem idxP_ge {α : Type} (p : α → Bool) (l : List α) : -1 ≤ idxP p l ∧ idxP p l < (l.length : Int) + 1 := by
  unfold idxP
  cases h : l.findIdx? p with
  | some i =>
    obtain ⟨h1, _, _⟩ := List.findIdx?_eq_some_iff_getElem.1 h
    simp only
    omega
  | none => simp only; omega
theorem take_step {α : Type} {l : List α} {i : Nat} {q : α → Prop} (h : i < l.length) (hb : ∀ x, x ∈ l.take i → q x) (hi : q l[i]) : ∀ x, x ∈ l.take (i + 1) → q x := by
  intro x hx
  rw [List.take_succ_eq_append_getElem h, List.mem_append] at hx
  rcases hx with hx | hx
  · exact hb x hx
  · simp only [List.mem_singleton] at hx
    subst hx; exact hi

abbrev fBox (f : FileD) : List AV := [.str f.path, .sl true 1 (eStrs f.text)]
def atB (p q : Str) : Bool := decide (p = q) || prefB (q ++ [47]) p
def cIsAt : Con := .fn 16 (FileD × Str) (fun a => [.agg [.str a.1.path, .sl true 1 (eStrs a.1.text)], .str a.2]) (fun a => a.2.length ≤ 536870912) (fun a => .bool (atB a.1.path a.2)) (fun _ => [])
set_option maxHeartbeats 4000000 in
theorem isAt_has : Has Tryd.prog 142 cIsAt := by
  refine has_walk mixed tTab_ok (l := [(113, cHasPrefix)]) (HasL.cons hasPrefix_has HasL.nil) [0, 1, 2, 4] ((fun a n (_ : Nat) => (fun _ => noInv) a n)) [] Tryd.func142 (by kernel_rfl) (code := _) (by unfold Tryd.f142; rfl) (by kernel_rfl) (by decide) (fun _ => ⟨(), trivial⟩) (by intro h; first | exact fun _ => rfl | cases h) (by kernel_rfl) ?_
  intro a ha
  obtain ⟨⟨p, x⟩, q⟩ := a
  replace ha : q.length ≤ 536870912 := ha
  simp -implicitDefEqProofs [vc_skip, extOf, vc_seq, vc_cond, vc_block, vc_exit, vc_ret, vc_region, vc_regionD, vc_loop, kSeq_normal, kSeq_ret, kSeq_exit, kBlock_normal, kBlock_ret, kBlock_exit, kLoop_normal, kLoop_ret, kLoop_exit, kCond_bool, kNorm_app, vcOps_nil, vcOps_cons, kOps_app, kStep_some, kStep_none, vcDL_nil, vcDL_cons, kOpsD_app, kStepD_true, kStepD_false, kStepC_some, kStepC_none, kMv_app, act3_store, act3_call, act3_bs, kAct_app, kSt2_app, stealSlots, stealL, stealOne, subIn, AV.stolen, act_store, act_bs, act_append, act_call, kSet_app, kSet2_app, kSetG_app, kSetG_app0, kStore_ptr, kStore_eptr, kCallW_some, kCallC_some, kCall_some, wk_T, wk_n, wk_keep, wk_inv, wk_act, wk_dr, wk_le, aCalm, wantC, dstOk, calm, aCallK, aCall3K, subOf, subRep, aCall2K, apnd, bsMove, putBox, putOwn, partAV, mvL, AV.mv, AV.base, AV.moved, AV.src, TI.flat, apSize, pickAV, St.val, St.cond, St.fn, St.next, St.set, St.trim, wipe_eq, wipeE_app, wipeM_app, pickEnv, get?, cGet, upd_app, withPuts, killAll, rm, freshP, Oper.hnd, Sc.st, ofConst, constOk, lenAV, elemLen, loadAV, ldL, ld1, fieldAddrAV, indexAddrAV, sliceAV, convAV, buildAV, fillAV, fieldAV, Out.of, binAV, AV.rows, AV.one, AV.cells, AV.deepOk, AV.toD, toDs, partRows, partRowsM, partsDeep, TK.zeroAV, TK.zeroD, byteOf, inR, Op.operands, Call.operands, passVs, passV, passL, pass1, passB, pasVs, pasV, pasL, pas1, ownsOk, okHs, okHs2, okFin, finOk2, rho, over, backRes, backAV, backAV1, backBlk, putBack, back2, back2_V, back2_1, m2, AV.wipe, AV.wipeV, AV.wipe1, Blk.wipe, AV.hs, AV.hs.hsL, alOps, Con.start2, Con.pk, bodyQ, fini, resAV, resA, firstId, Sc.from, renEnv, renT, renV, renVs, renL, ren1, renBox, renOwn, okRen, clOf, actB, setRow, flatRows, flatD, noInv, shr_nil, shr_some, kStepF_some, shareL, AV.viewed, AV.viewed1, cIsAt, Con.fn, tTab, cHasPrefix]
  try dsimp only
  try simp +contextual [eStr, eFile, cast_succ, cast_eq, cast_zero, List.getElem?_eq_getElem, eStrs_set, eFiles_set, eStrs_rep, eFiles_rep, ← eStrs_append, ← eFiles_append, eStrs_take, eStrs_drop, eFiles_take, eFiles_drop, eStrs_snoc, eFiles_snoc, and_assoc]
  repeat' (first | intro _ | apply And.intro)
  all_goals first | omega | grind [all_take, atB, maxLen]

def cVis1 : Con := { A := FileD × Str, X := Unit, n := 7, args := fun a => [.str a.2, .ptr 0 0], boxes := fun a => [(0, 32, fBox a.1)], pre := fun a => a.2.length ≤ 536870912, post := fun _ _ => True, res := fun a _ => .bool (atB a.1.path a.2), fin := fun a _ => [(0, .box 32 (fBox a.1))], nob := false }
set_option maxHeartbeats 4000000 in
theorem vis1_has : Has Tryd.prog 141 cVis1 := by
  refine has_walk mixed tTab_ok (l := [(142, cIsAt)]) (HasL.cons isAt_has HasL.nil) [0, 1, 3] ((fun a n (_ : Nat) => (fun _ => noInv) a n)) [] Tryd.func141 (by kernel_rfl) (code := _) (by unfold Tryd.f141; rfl) (by kernel_rfl) (by decide) (fun _ => ⟨(), trivial⟩) (by intro h; first | exact fun _ => rfl | cases h) (by kernel_rfl) ?_
  intro a ha
  obtain ⟨⟨p, x⟩, q⟩ := a
  replace ha : q.length ≤ 536870912 := ha
  simp -implicitDefEqProofs [vc_skip, extOf, vc_seq, vc_cond, vc_block, vc_exit, vc_ret, vc_region, vc_regionD, vc_loop, kSeq_normal, kSeq_ret, kSeq_exit, kBlock_normal, kBlock_ret, kBlock_exit, kLoop_normal, kLoop_ret, kLoop_exit, kCond_bool, kNorm_app, vcOps_nil, vcOps_cons, kOps_app, kStep_some, kStep_none, vcDL_nil, vcDL_cons, kOpsD_app, kStepD_true, kStepD_false, kStepC_some, kStepC_none, kMv_app, act3_store, act3_call, act3_bs, kAct_app, kSt2_app, stealSlots, stealL, stealOne, subIn, AV.stolen, act_store, act_bs, act_append, act_call, kSet_app, kSet2_app, kSetG_app, kSetG_app0, kStore_ptr, kStore_eptr, kCallW_some, kCallC_some, kCall_some, wk_T, wk_n, wk_keep, wk_inv, wk_act, wk_dr, wk_le, aCalm, wantC, dstOk, calm, aCallK, aCall3K, subOf, subRep, aCall2K, apnd, bsMove, putBox, putOwn, partAV, mvL, AV.mv, AV.base, AV.moved, AV.src, TI.flat, apSize, pickAV, St.val, St.cond, St.fn, St.next, St.set, St.trim, wipe_eq, wipeE_app, wipeM_app, pickEnv, get?, cGet, upd_app, withPuts, killAll, rm, freshP, Oper.hnd, Sc.st, ofConst, constOk, lenAV, elemLen, loadAV, ldL, ld1, fieldAddrAV, indexAddrAV, sliceAV, convAV, buildAV, fillAV, fieldAV, Out.of, binAV, AV.rows, AV.one, AV.cells, AV.deepOk, AV.toD, toDs, partRows, partRowsM, partsDeep, TK.zeroAV, TK.zeroD, byteOf, inR, Op.operands, Call.operands, passVs, passV, passL, pass1, passB, pasVs, pasV, pasL, pas1, ownsOk, okHs, okHs2, okFin, finOk2, rho, over, backRes, backAV, backAV1, backBlk, putBack, back2, back2_V, back2_1, m2, AV.wipe, AV.wipeV, AV.wipe1, Blk.wipe, AV.hs, AV.hs.hsL, alOps, Con.start2, Con.pk, bodyQ, fini, resAV, resA, firstId, Sc.from, renEnv, renT, renV, renVs, renL, ren1, renBox, renOwn, okRen, clOf, actB, setRow, flatRows, flatD, noInv, shr_nil, shr_some, kStepF_some, shareL, AV.viewed, AV.viewed1, cVis1, Con.fn, tTab, cIsAt, fBox]
  try dsimp only
  try simp +contextual [eStr, eFile, cast_succ, cast_eq, cast_zero, List.getElem?_eq_getElem, eStrs_set, eFiles_set, eStrs_rep, eFiles_rep, ← eStrs_append, ← eFiles_append, eStrs_take, eStrs_drop, eFiles_take, eFiles_drop, eStrs_snoc, eFiles_snoc, and_assoc]
  repeat' (first | intro _ | apply And.intro)
  all_goals first | omega | grind [all_take, atB]

def cIdxVis : Con := { A := List Str × FileD, X := Unit, n := 19, args := fun a => [.sl true 1 (eStrs a.1), .clo 141 [.ptr 0 0]], boxes := fun a => [(0, 32, fBox a.2)], pre := fun a => ∀ q ∈ a.1, q.length ≤ 536870912, post := fun _ _ => True, res := fun a _ => .int .i64 (idxP (atB a.2.path) a.1), fin := fun a _ => [(0, .box 32 (fBox a.2))], nob := false }
set_option maxHeartbeats 4000000 in
theorem idxVis_has : Has Tryd.prog 155 cIdxVis := by
  refine has_walk mixed tTab_ok (l := [(141, cVis1)]) (HasL.cons vis1_has HasL.nil) [0, 1, 4, 5, 7, 8] ((fun a n (_ : Nat) => (fun a _ => ⟨Nat, fun i => ⟨[(0, true, .sl true 1 (eStrs a.1)), (1, true, .clo 141 [.ptr 0 0]), (4, true, .int .i64 0), (7, true, .int .i64 a.1.length), (8, true, .int .i64 i)], [(0, .box 32 (fBox a.2))]⟩, fun i => i ≤ a.1.length ∧ ∀ x, x ∈ a.1.take i → atB a.2.path x = false, fun i => a.1.length - i⟩) a n)) [] Tryd.func155 (by kernel_rfl) (code := _) (by unfold Tryd.f155; rfl) (by kernel_rfl) (by decide) (fun _ => ⟨(), trivial⟩) (by intro h; first | exact fun _ => rfl | cases h) (by kernel_rfl) ?_
  intro a ha
  obtain ⟨l, ⟨p, x⟩⟩ := a
  replace ha : ∀ q ∈ l, q.length ≤ 536870912 := ha
  have ha' : ∀ i (h : i < l.length), l[i].length ≤ 536870912 := fun i h => ha _ (List.getElem_mem h)
  have h1 := fun i => @idxP_hit _ (atB p) l i
  have h2 := fun i => @idxP_miss _ (atB p) l i
  have h3 := fun i => @take_step _ l i (fun y => atB p y = false)
  simp -implicitDefEqProofs [vc_skip, extOf, vc_seq, vc_cond, vc_block, vc_exit, vc_ret, vc_region, vc_regionD, vc_loop, kSeq_normal, kSeq_ret, kSeq_exit, kBlock_normal, kBlock_ret, kBlock_exit, kLoop_normal, kLoop_ret, kLoop_exit, kCond_bool, kNorm_app, vcOps_nil, vcOps_cons, kOps_app, kStep_some, kStep_none, vcDL_nil, vcDL_cons, kOpsD_app, kStepD_true, kStepD_false, kStepC_some, kStepC_none, kMv_app, act3_store, act3_call, act3_bs, kAct_app, kSt2_app, stealSlots, stealL, stealOne, subIn, AV.stolen, act_store, act_bs, act_append, act_call, kSet_app, kSet2_app, kSetG_app, kSetG_app0, kStore_ptr, kStore_eptr, kCallW_some, kCallC_some, kCall_some, wk_T, wk_n, wk_keep, wk_inv, wk_act, wk_dr, wk_le, aCalm, wantC, dstOk, calm, aCallK, aCall3K, subOf, subRep, aCall2K, apnd, bsMove, putBox, putOwn, partAV, mvL, AV.mv, AV.base, AV.moved, AV.src, TI.flat, apSize, pickAV, St.val, St.cond, St.fn, St.next, St.set, St.trim, wipe_eq, wipeE_app, wipeM_app, pickEnv, get?, cGet, upd_app, withPuts, killAll, rm, freshP, Oper.hnd, Sc.st, ofConst, constOk, lenAV, elemLen, loadAV, ldL, ld1, fieldAddrAV, indexAddrAV, sliceAV, convAV, buildAV, fillAV, fieldAV, Out.of, binAV, AV.rows, AV.one, AV.cells, AV.deepOk, AV.toD, toDs, partRows, partRowsM, partsDeep, TK.zeroAV, TK.zeroD, byteOf, inR, Op.operands, Call.operands, passVs, passV, passL, pass1, passB, pasVs, pasV, pasL, pas1, ownsOk, okHs, okHs2, okFin, finOk2, rho, over, backRes, backAV, backAV1, backBlk, putBack, back2, back2_V, back2_1, m2, AV.wipe, AV.wipeV, AV.wipe1, Blk.wipe, AV.hs, AV.hs.hsL, alOps, Con.start2, Con.pk, bodyQ, fini, resAV, resA, firstId, Sc.from, renEnv, renT, renV, renVs, renL, ren1, renBox, renOwn, okRen, clOf, actB, setRow, flatRows, flatD, noInv, shr_nil, shr_some, kStepF_some, shareL, AV.viewed, AV.viewed1, cIdxVis, Con.fn, tTab, cVis1, fBox]
  try dsimp only
  try simp +contextual [eStr, eFile, cast_succ, cast_eq, cast_zero, List.getElem?_eq_getElem, eStrs_set, eFiles_set, eStrs_rep, eFiles_rep, ← eStrs_append, ← eFiles_append, eStrs_take, eStrs_drop, eFiles_take, eFiles_drop, eStrs_snoc, eFiles_snoc, and_assoc]
  repeat' (first | intro _ | apply And.intro)
  all_goals first | omega | grind [all_take, idxP_ge]

def cConVis : Con := { A := List Str × FileD, X := Unit, n := 9, args := fun a => [.sl true 1 (eStrs a.1), .clo 141 [.ptr 0 0]], boxes := fun a => [(0, 32, fBox a.2)], pre := fun a => ∀ q ∈ a.1, q.length ≤ 536870912, post := fun _ _ => True, res := fun a _ => .bool (a.1.any (atB a.2.path)), fin := fun a _ => [(0, .box 32 (fBox a.2))], nob := false }
set_option maxHeartbeats 4000000 in
theorem conVis_has : Has Tryd.prog 128 cConVis := by
  refine has_walk mixed tTab_ok (l := [(155, cIdxVis)]) (HasL.cons idxVis_has HasL.nil) [0, 1, 4] ((fun a n (_ : Nat) => (fun _ => noInv) a n)) [] Tryd.func128 (by kernel_rfl) (code := _) (by unfold Tryd.f128; rfl) (by kernel_rfl) (by decide) (fun _ => ⟨(), trivial⟩) (by intro h; first | exact fun _ => rfl | cases h) (by kernel_rfl) ?_
  intro a ha
  obtain ⟨l, ⟨p, x⟩⟩ := a
  replace ha : ∀ q ∈ l, q.length ≤ 536870912 := ha
  simp -implicitDefEqProofs [vc_skip, extOf, vc_seq, vc_cond, vc_block, vc_exit, vc_ret, vc_region, vc_regionD, vc_loop, kSeq_normal, kSeq_ret, kSeq_exit, kBlock_normal, kBlock_ret, kBlock_exit, kLoop_normal, kLoop_ret, kLoop_exit, kCond_bool, kNorm_app, vcOps_nil, vcOps_cons, kOps_app, kStep_some, kStep_none, vcDL_nil, vcDL_cons, kOpsD_app, kStepD_true, kStepD_false, kStepC_some, kStepC_none, kMv_app, act3_store, act3_call, act3_bs, kAct_app, kSt2_app, stealSlots, stealL, stealOne, subIn, AV.stolen, act_store, act_bs, act_append, act_call, kSet_app, kSet2_app, kSetG_app, kSetG_app0, kStore_ptr, kStore_eptr, kCallW_some, kCallC_some, kCall_some, wk_T, wk_n, wk_keep, wk_inv, wk_act, wk_dr, wk_le, aCalm, wantC, dstOk, calm, aCallK, aCall3K, subOf, subRep, aCall2K, apnd, bsMove, putBox, putOwn, partAV, mvL, AV.mv, AV.base, AV.moved, AV.src, TI.flat, apSize, pickAV, St.val, St.cond, St.fn, St.next, St.set, St.trim, wipe_eq, wipeE_app, wipeM_app, pickEnv, get?, cGet, upd_app, withPuts, killAll, rm, freshP, Oper.hnd, Sc.st, ofConst, constOk, lenAV, elemLen, loadAV, ldL, ld1, fieldAddrAV, indexAddrAV, sliceAV, convAV, buildAV, fillAV, fieldAV, Out.of, binAV, AV.rows, AV.one, AV.cells, AV.deepOk, AV.toD, toDs, partRows, partRowsM, partsDeep, TK.zeroAV, TK.zeroD, byteOf, inR, Op.operands, Call.operands, passVs, passV, passL, pass1, passB, pasVs, pasV, pasL, pas1, ownsOk, okHs, okHs2, okFin, finOk2, rho, over, backRes, backAV, backAV1, backBlk, putBack, back2, back2_V, back2_1, m2, AV.wipe, AV.wipeV, AV.wipe1, Blk.wipe, AV.hs, AV.hs.hsL, alOps, Con.start2, Con.pk, bodyQ, fini, resAV, resA, firstId, Sc.from, renEnv, renT, renV, renVs, renL, ren1, renBox, renOwn, okRen, clOf, actB, setRow, flatRows, flatD, noInv, shr_nil, shr_some, kStepF_some, shareL, AV.viewed, AV.viewed1, cConVis, Con.fn, tTab, cIdxVis, fBox]
  try dsimp only
  try simp +contextual [eStr, eFile, cast_succ, cast_eq, cast_zero, List.getElem?_eq_getElem, eStrs_set, eFiles_set, eStrs_rep, eFiles_rep, ← eStrs_append, ← eFiles_append, eStrs_take, eStrs_drop, eFiles_take, eFiles_drop, eStrs_snoc, eFiles_snoc, and_assoc, idxP_any]
  repeat' (first | intro _ | apply And.intro)
  all_goals first | omega | grind [all_take, idxP_any]

def visB (f : FileD) (l : List Str) : Bool := l.any (atB f.path)
def cVisible : Con := .fn 8 (FileD × List Str) (fun a => [.agg [.str a.1.path, .sl true 1 (eStrs a.1.text)], .sl true 1 (eStrs a.2)]) (fun a => ∀ q ∈ a.2, q.length ≤ 536870912) (fun a => .bool (visB a.1 a.2)) (fun _ => [])
set_option maxHeartbeats 4000000 in
theorem visible_has : Has Tryd.prog 84 cVisible := by
  refine has_walk mixed tTab_ok (l := [(128, cConVis)]) (HasL.cons conVis_has HasL.nil) [0, 1, 2, 4] ((fun a n (_ : Nat) => (fun _ => noInv) a n)) [] Tryd.func84 (by kernel_rfl) (code := _) (by unfold Tryd.f84; rfl) (by kernel_rfl) (by decide) (fun _ => ⟨(), trivial⟩) (by intro h; first | exact fun _ => rfl | cases h) (by kernel_rfl) ?_
  intro a ha
  obtain ⟨⟨p, x⟩, l⟩ := a
  replace ha : ∀ q ∈ l, q.length ≤ 536870912 := ha
  simp -implicitDefEqProofs [vc_skip, extOf, vc_seq, vc_cond, vc_block, vc_exit, vc_ret, vc_region, vc_regionD, vc_loop, kSeq_normal, kSeq_ret, kSeq_exit, kBlock_normal, kBlock_ret, kBlock_exit, kLoop_normal, kLoop_ret, kLoop_exit, kCond_bool, kNorm_app, vcOps_nil, vcOps_cons, kOps_app, kStep_some, kStep_none, vcDL_nil, vcDL_cons, kOpsD_app, kStepD_true, kStepD_false, kStepC_some, kStepC_none, kMv_app, act3_store, act3_call, act3_bs, kAct_app, kSt2_app, stealSlots, stealL, stealOne, subIn, AV.stolen, act_store, act_bs, act_append, act_call, kSet_app, kSet2_app, kSetG_app, kSetG_app0, kStore_ptr, kStore_eptr, kCallW_some, kCallC_some, kCall_some, wk_T, wk_n, wk_keep, wk_inv, wk_act, wk_dr, wk_le, aCalm, wantC, dstOk, calm, aCallK, aCall3K, subOf, subRep, aCall2K, apnd, bsMove, putBox, putOwn, partAV, mvL, AV.mv, AV.base, AV.moved, AV.src, TI.flat, apSize, pickAV, St.val, St.cond, St.fn, St.next, St.set, St.trim, wipe_eq, wipeE_app, wipeM_app, pickEnv, get?, cGet, upd_app, withPuts, killAll, rm, freshP, Oper.hnd, Sc.st, ofConst, constOk, lenAV, elemLen, loadAV, ldL, ld1, fieldAddrAV, indexAddrAV, sliceAV, convAV, buildAV, fillAV, fieldAV, Out.of, binAV, AV.rows, AV.one, AV.cells, AV.deepOk, AV.toD, toDs, partRows, partRowsM, partsDeep, TK.zeroAV, TK.zeroD, byteOf, inR, Op.operands, Call.operands, passVs, passV, passL, pass1, passB, pasVs, pasV, pasL, pas1, ownsOk, okHs, okHs2, okFin, finOk2, rho, over, backRes, backAV, backAV1, backBlk, putBack, back2, back2_V, back2_1, m2, AV.wipe, AV.wipeV, AV.wipe1, Blk.wipe, AV.hs, AV.hs.hsL, alOps, Con.start2, Con.pk, bodyQ, fini, resAV, resA, firstId, Sc.from, renEnv, renT, renV, renVs, renL, ren1, renBox, renOwn, okRen, clOf, actB, setRow, flatRows, flatD, noInv, shr_nil, shr_some, kStepF_some, shareL, AV.viewed, AV.viewed1, cVisible, Con.fn, tTab, cConVis, fBox]
  try dsimp only
  try simp +contextual [eStr, eFile, cast_succ, cast_eq, cast_zero, List.getElem?_eq_getElem, eStrs_set, eFiles_set, eStrs_rep, eFiles_rep, ← eStrs_append, ← eFiles_append, eStrs_take, eStrs_drop, eFiles_take, eFiles_drop, eStrs_snoc, eFiles_snoc, and_assoc]
  repeat' (first | intro _ | apply And.intro)
  all_goals first | omega | grind [all_take, visB]

def viewI (l : List Str) : Bool := decide (l.length ≤ 4) && l.all pathI
def cViewOk : Con := .fn 18 (List Str) (fun l => [.sl true 1 (eStrs l)]) (fun l => ∀ q ∈ l, q.length ≤ 536870912) (fun l => .bool (viewI l)) (fun _ => [])
set_option maxHeartbeats 4000000 in
theorem viewOk_has : Has Tryd.prog 82 cViewOk := by
  refine has_walk mixed tTab_ok (l := [(31, cPathOk)]) (HasL.cons pathOk_has HasL.nil) [0, 2, 4, 8, 9, 10] ((fun a n (_ : Nat) => (fun l _ => ⟨Nat, fun i => ⟨[(2, true, .bool false), (8, true, .sl true 1 (eStrs l)), (9, true, .int .i64 l.length), (10, true, .int .i64 i)], []⟩, fun i => i ≤ l.length ∧ l.length ≤ 4 ∧ (l.take i).all pathI = true, fun i => l.length - i⟩) a n)) [] Tryd.func82 (by kernel_rfl) (code := _) (by unfold Tryd.f82; rfl) (by kernel_rfl) (by decide) (fun _ => ⟨(), trivial⟩) (by intro h; first | exact fun _ => rfl | cases h) (by kernel_rfl) ?_
  intro (l : List Str) ha
  replace ha : ∀ q ∈ l, q.length ≤ 536870912 := ha
  have ha' : ∀ i (h : i < l.length), l[i].length ≤ 536870912 := fun i h => ha _ (List.getElem_mem h)
  simp -implicitDefEqProofs [vc_skip, extOf, vc_seq, vc_cond, vc_block, vc_exit, vc_ret, vc_region, vc_regionD, vc_loop, kSeq_normal, kSeq_ret, kSeq_exit, kBlock_normal, kBlock_ret, kBlock_exit, kLoop_normal, kLoop_ret, kLoop_exit, kCond_bool, kNorm_app, vcOps_nil, vcOps_cons, kOps_app, kStep_some, kStep_none, vcDL_nil, vcDL_cons, kOpsD_app, kStepD_true, kStepD_false, kStepC_some, kStepC_none, kMv_app, act3_store, act3_call, act3_bs, kAct_app, kSt2_app, stealSlots, stealL, stealOne, subIn, AV.stolen, act_store, act_bs, act_append, act_call, kSet_app, kSet2_app, kSetG_app, kSetG_app0, kStore_ptr, kStore_eptr, kCallW_some, kCallC_some, kCall_some, wk_T, wk_n, wk_keep, wk_inv, wk_act, wk_dr, wk_le, aCalm, wantC, dstOk, calm, aCallK, aCall3K, subOf, subRep, aCall2K, apnd, bsMove, putBox, putOwn, partAV, mvL, AV.mv, AV.base, AV.moved, AV.src, TI.flat, apSize, pickAV, St.val, St.cond, St.fn, St.next, St.set, St.trim, wipe_eq, wipeE_app, wipeM_app, pickEnv, get?, cGet, upd_app, withPuts, killAll, rm, freshP, Oper.hnd, Sc.st, ofConst, constOk, lenAV, elemLen, loadAV, ldL, ld1, fieldAddrAV, indexAddrAV, sliceAV, convAV, buildAV, fillAV, fieldAV, Out.of, binAV, AV.rows, AV.one, AV.cells, AV.deepOk, AV.toD, toDs, partRows, partRowsM, partsDeep, TK.zeroAV, TK.zeroD, byteOf, inR, Op.operands, Call.operands, passVs, passV, passL, pass1, passB, pasVs, pasV, pasL, pas1, ownsOk, okHs, okHs2, okFin, finOk2, rho, over, backRes, backAV, backAV1, backBlk, putBack, back2, back2_V, back2_1, m2, AV.wipe, AV.wipeV, AV.wipe1, Blk.wipe, AV.hs, AV.hs.hsL, alOps, Con.start2, Con.pk, bodyQ, fini, resAV, resA, firstId, Sc.from, renEnv, renT, renV, renVs, renL, ren1, renBox, renOwn, okRen, clOf, actB, setRow, flatRows, flatD, noInv, shr_nil, shr_some, kStepF_some, shareL, AV.viewed, AV.viewed1, cViewOk, Con.fn, tTab, cPathOk]
  try dsimp only
  try simp +contextual [eStr, eFile, cast_succ, cast_eq, cast_zero, List.getElem?_eq_getElem, eStrs_set, eFiles_set, eStrs_rep, eFiles_rep, ← eStrs_append, ← eFiles_append, eStrs_take, eStrs_drop, eFiles_take, eFiles_drop, eStrs_snoc, eFiles_snoc, and_assoc]
  repeat' (first | intro _ | apply And.intro)
  all_goals first | omega | grind [all_take, viewI, List.take_succ_eq_append_getElem]

end Vx
end Go.Proofs.YtlhkmgbmnbkaeaaDoor
/-
  Laws: FnExactStatLines.
-/
namespace Go.Proofs.YtlhkmgbmnbkaeaaDoor
namespace Vx
open Go.RowKit
set_option maxRecDepth 8000

theorem szL_ok : ∀ {a : List Str} {l : Int}, 0 ≤ szL a l → ∀ s ∈ a, (s.length : Int) ≤ l := by
  intro a
  induction a with
  | nil => intro l _ s hs; cases hs
  | cons x r ih =>
    intro l h s hs
    simp only [szL] at h
    split at h
    · omega
    · rcases List.mem_cons.1 hs with rfl | hs
      · have := szL_le (a := r) (l := l - s.length) (by omega); omega
      · have := ih h s hs; omega
theorem szStrs_ok {a : List Str} {l : Int} (h : 0 ≤ szStrs a l) : (a.length : Int) ≤ l ∧ ∀ s ∈ a, (s.length : Int) ≤ l := by
  unfold szStrs at h
  split at h
  · omega
  · refine ⟨by omega, fun s hs => ?_⟩
    have := szL_ok h s hs; omega
theorem szF_ok {f : FileD} {l : Int} (h : 0 ≤ szF f l) : (f.path.length : Int) ≤ l ∧ (f.text.length : Int) ≤ l ∧ ∀ s ∈ f.text, (s.length : Int) ≤ l := by
  unfold szF at h
  split at h
  · omega
  · split at h
    · omega
    · obtain ⟨h1, h2⟩ := szStrs_ok h
      refine ⟨by omega, by omega, fun s hs => ?_⟩
      have := h2 s hs; omega
theorem szFL_ok : ∀ {a : List FileD} {l : Int}, 0 ≤ l → 0 ≤ szFL a l → ∀ f ∈ a, (f.path.length : Int) ≤ l ∧ (f.text.length : Int) ≤ l ∧ ∀ s ∈ f.text, (s.length : Int) ≤ l := by
  intro a
  induction a with
  | nil => intro l _ _ f hf; cases hf
  | cons x r ih =>
    intro l hl h f hf
    simp only [szFL] at h
    split at h
    · omega
    · rename_i h0
      rcases List.mem_cons.1 hf with rfl | hf
      · exact szF_ok (by omega)
      · have hle := szF_le (f := x) hl
        obtain ⟨h1, h2, h3⟩ := ih (by omega) h f hf
        refine ⟨by omega, by omega, fun s hs => ?_⟩
        have := h3 s hs; omega
theorem szFiles_ok {a : List FileD} {l : Int} (h : 0 ≤ szFiles a l) : (a.length : Int) ≤ l ∧ ∀ f ∈ a, (f.path.length : Int) ≤ l ∧ (f.text.length : Int) ≤ l ∧ ∀ s ∈ f.text, (s.length : Int) ≤ l := by
  unfold szFiles at h
  split at h
  · omega
  · refine ⟨by omega, fun f hf => ?_⟩
    obtain ⟨h1, h2, h3⟩ := szFL_ok (by omega) h f hf
    refine ⟨by omega, by omega, fun s hs => ?_⟩
    have := h3 s hs; omega
theorem szL_bd : ∀ {a : List Str} {l : Int}, 0 ≤ l → -1 ≤ szL a l := by
  intro a
  induction a with
  | nil => intro l h; simp [szL]; omega
  | cons x r ih =>
    intro l h
    simp only [szL]
    split
    · omega
    · exact ih (by omega)

end Vx
end Go.Proofs.YtlhkmgbmnbkaeaaDoor
/-
  Contracts: ViewFree, both sides; the law.
-/
namespace Go.Proofs.YtlhkmgbmnbkaeaaDoor
namespace Vx
open Go.RowKit
set_option maxRecDepth 8000

def at25 (p q : Str) : Bool := decide (q = p) || inB q p
def in25 (l : List Str) (p : Str) : Bool := l.any (at25 p)
def cL25In : Con := .fn 26 (List Str × Str) (fun a => [.sl true 1 (eStrs a.1), .str a.2]) (fun _ => True) (fun a => .bool (in25 a.1 a.2)) (fun _ => [])
set_option maxHeartbeats 4000000 in
theorem l25In_has : Has Tryd.prog 87 cL25In := by
  refine has_walk mixed tTab_ok (l := [(133, cL4In)]) (HasL.cons l4In_has HasL.nil) [0, 1, 4, 5] ((fun a n (_ : Nat) => (fun a _ => ⟨Nat, fun i => ⟨[(0, true, .sl true 1 (eStrs a.1)), (1, true, .str a.2), (4, true, .bool false), (5, true, .int .i64 i)], []⟩, fun i => i ≤ a.1.length ∧ ∀ x, x ∈ a.1.take i → at25 a.2 x = false, fun i => a.1.length - i⟩) a n)) [] Tryd.func87 (by kernel_rfl) (code := _) (by unfold Tryd.f87; rfl) (by kernel_rfl) (by decide) (fun _ => ⟨(), trivial⟩) (by intro h; first | exact fun _ => rfl | cases h) (by kernel_rfl) ?_
  intro a ha
  obtain ⟨l, p⟩ := a
  have h3 := fun i => @take_step _ l i (fun y => at25 p y = false)
  have h1 : ∀ i (h : i < l.length), at25 p l[i] = true → in25 l p = true := fun i h hp => by
    unfold in25; rw [List.any_eq_true]; exact ⟨_, List.getElem_mem h, hp⟩
  have h2 : ∀ i, l.length ≤ i → (∀ x, x ∈ l.take i → at25 p x = false) → in25 l p = false := fun i h hb => by
    unfold in25; rw [List.any_eq_false]; rw [List.take_of_length_le h] at hb; intro x hx; rw [hb x hx]; simp
  simp -implicitDefEqProofs [vc_skip, extOf, vc_seq, vc_cond, vc_block, vc_exit, vc_ret, vc_region, vc_regionD, vc_loop, kSeq_normal, kSeq_ret, kSeq_exit, kBlock_normal, kBlock_ret, kBlock_exit, kLoop_normal, kLoop_ret, kLoop_exit, kCond_bool, kNorm_app, vcOps_nil, vcOps_cons, kOps_app, kStep_some, kStep_none, vcDL_nil, vcDL_cons, kOpsD_app, kStepD_true, kStepD_false, kStepC_some, kStepC_none, kMv_app, act3_store, act3_call, act3_bs, kAct_app, kSt2_app, stealSlots, stealL, stealOne, subIn, AV.stolen, act_store, act_bs, act_append, act_call, kSet_app, kSet2_app, kSetG_app, kSetG_app0, kStore_ptr, kStore_eptr, kCallW_some, kCallC_some, kCall_some, wk_T, wk_n, wk_keep, wk_inv, wk_act, wk_dr, wk_le, aCalm, wantC, dstOk, calm, aCallK, aCall3K, subOf, subRep, aCall2K, apnd, bsMove, putBox, putOwn, partAV, mvL, AV.mv, AV.base, AV.moved, AV.src, TI.flat, apSize, pickAV, St.val, St.cond, St.fn, St.next, St.set, St.trim, wipe_eq, wipeE_app, wipeM_app, pickEnv, get?, cGet, upd_app, withPuts, killAll, rm, freshP, Oper.hnd, Sc.st, ofConst, constOk, lenAV, elemLen, loadAV, ldL, ld1, fieldAddrAV, indexAddrAV, sliceAV, convAV, buildAV, fillAV, fieldAV, Out.of, binAV, AV.rows, AV.one, AV.cells, AV.deepOk, AV.toD, toDs, partRows, partRowsM, partsDeep, TK.zeroAV, TK.zeroD, byteOf, inR, Op.operands, Call.operands, passVs, passV, passL, pass1, passB, pasVs, pasV, pasL, pas1, ownsOk, okHs, okHs2, okFin, finOk2, rho, over, backRes, backAV, backAV1, backBlk, putBack, back2, back2_V, back2_1, m2, AV.wipe, AV.wipeV, AV.wipe1, Blk.wipe, AV.hs, AV.hs.hsL, alOps, Con.start2, Con.pk, bodyQ, fini, resAV, resA, firstId, Sc.from, renEnv, renT, renV, renVs, renL, ren1, renBox, renOwn, okRen, clOf, actB, setRow, flatRows, flatD, noInv, shr_nil, shr_some, kStepF_some, shareL, AV.viewed, AV.viewed1, cL25In, Con.fn, tTab, cL4In]
  try dsimp only
  try simp +contextual [eStr, eFile, cast_succ, cast_eq, cast_zero, List.getElem?_eq_getElem, eStrs_set, eFiles_set, eStrs_rep, eFiles_rep, ← eStrs_append, ← eFiles_append, eStrs_take, eStrs_drop, eFiles_take, eFiles_drop, eStrs_snoc, eFiles_snoc, and_assoc]
  repeat' (first | intro _ | apply And.intro)
  all_goals first | omega | grind [all_take, at25]

def viewS (l : List Str) : Bool := l.all pathS && decide (l.length ≤ 4)
def cL25Paths : Con := .fn 19 (List Str) (fun l => [.sl true 1 (eStrs l)]) (fun _ => True) (fun l => .bool (viewS l)) (fun _ => [])
set_option maxHeartbeats 4000000 in
theorem l25Paths_has : Has Tryd.prog 85 cL25Paths := by
  refine has_walk mixed tTab_ok (l := [(131, cL4Path)]) (HasL.cons l4Path_has HasL.nil) [0, 2, 3] ((fun a n (_ : Nat) => (fun l _ => ⟨Nat, fun i => ⟨[(0, true, .sl true 1 (eStrs l)), (2, true, .bool false), (3, true, .int .i64 i)], []⟩, fun i => i ≤ l.length ∧ (l.take i).all pathS = true, fun i => l.length - i⟩) a n)) [] Tryd.func85 (by kernel_rfl) (code := _) (by unfold Tryd.f85; rfl) (by kernel_rfl) (by decide) (fun _ => ⟨(), trivial⟩) (by intro h; first | exact fun _ => rfl | cases h) (by kernel_rfl) ?_
  intro (l : List Str) ha
  simp -implicitDefEqProofs [vc_skip, extOf, vc_seq, vc_cond, vc_block, vc_exit, vc_ret, vc_region, vc_regionD, vc_loop, kSeq_normal, kSeq_ret, kSeq_exit, kBlock_normal, kBlock_ret, kBlock_exit, kLoop_normal, kLoop_ret, kLoop_exit, kCond_bool, kNorm_app, vcOps_nil, vcOps_cons, kOps_app, kStep_some, kStep_none, vcDL_nil, vcDL_cons, kOpsD_app, kStepD_true, kStepD_false, kStepC_some, kStepC_none, kMv_app, act3_store, act3_call, act3_bs, kAct_app, kSt2_app, stealSlots, stealL, stealOne, subIn, AV.stolen, act_store, act_bs, act_append, act_call, kSet_app, kSet2_app, kSetG_app, kSetG_app0, kStore_ptr, kStore_eptr, kCallW_some, kCallC_some, kCall_some, wk_T, wk_n, wk_keep, wk_inv, wk_act, wk_dr, wk_le, aCalm, wantC, dstOk, calm, aCallK, aCall3K, subOf, subRep, aCall2K, apnd, bsMove, putBox, putOwn, partAV, mvL, AV.mv, AV.base, AV.moved, AV.src, TI.flat, apSize, pickAV, St.val, St.cond, St.fn, St.next, St.set, St.trim, wipe_eq, wipeE_app, wipeM_app, pickEnv, get?, cGet, upd_app, withPuts, killAll, rm, freshP, Oper.hnd, Sc.st, ofConst, constOk, lenAV, elemLen, loadAV, ldL, ld1, fieldAddrAV, indexAddrAV, sliceAV, convAV, buildAV, fillAV, fieldAV, Out.of, binAV, AV.rows, AV.one, AV.cells, AV.deepOk, AV.toD, toDs, partRows, partRowsM, partsDeep, TK.zeroAV, TK.zeroD, byteOf, inR, Op.operands, Call.operands, passVs, passV, passL, pass1, passB, pasVs, pasV, pasL, pas1, ownsOk, okHs, okHs2, okFin, finOk2, rho, over, backRes, backAV, backAV1, backBlk, putBack, back2, back2_V, back2_1, m2, AV.wipe, AV.wipeV, AV.wipe1, Blk.wipe, AV.hs, AV.hs.hsL, alOps, Con.start2, Con.pk, bodyQ, fini, resAV, resA, firstId, Sc.from, renEnv, renT, renV, renVs, renL, ren1, renBox, renOwn, okRen, clOf, actB, setRow, flatRows, flatD, noInv, shr_nil, shr_some, kStepF_some, shareL, AV.viewed, AV.viewed1, cL25Paths, Con.fn, tTab, cL4Path]
  try dsimp only
  try simp +contextual [eStr, eFile, cast_succ, cast_eq, cast_zero, List.getElem?_eq_getElem, eStrs_set, eFiles_set, eStrs_rep, eFiles_rep, ← eStrs_append, ← eFiles_append, eStrs_take, eStrs_drop, eFiles_take, eFiles_drop, eStrs_snoc, eFiles_snoc, and_assoc]
  repeat' (first | intro _ | apply And.intro)
  all_goals first | omega | grind [all_take, viewS, List.take_succ_eq_append_getElem]

def freeS (t : List FileD) (a b : List Str) : Bool := treeS t && viewS a && viewS b && t.all fun f => !(in25 a f.path && in25 b f.path)
def cViewFreeS : Con := .fn 43 (List FileD × List Str × List Str) (fun x => [.sl true 2 (eFiles x.1), .sl true 1 (eStrs x.2.1), .sl true 1 (eStrs x.2.2)]) (fun _ => True) (fun x => .bool (freeS x.1 x.2.1 x.2.2)) (fun _ => [])
set_option maxHeartbeats 4000000 in
theorem viewFreeS_has : Has Tryd.prog 34 cViewFreeS := by
  refine has_walk mixed tTab_ok (l := [(72, cL4Ok), (85, cL25Paths), (87, cL25In)]) (HasL.cons l4Ok_has (HasL.cons l25Paths_has (HasL.cons l25In_has HasL.nil))) [0, 1, 2, 6, 7] ((fun a n (_ : Nat) => (fun x _ => ⟨Nat, fun i => ⟨[(0, true, .sl true 2 (eFiles x.1)), (1, true, .sl true 1 (eStrs x.2.1)), (2, true, .sl true 1 (eStrs x.2.2)), (6, true, .bool false), (7, true, .int .i64 i)], []⟩, fun i => i ≤ x.1.length ∧ treeS x.1 = true ∧ viewS x.2.1 = true ∧ viewS x.2.2 = true ∧ ∀ f, f ∈ x.1.take i → (in25 x.2.1 f.path && in25 x.2.2 f.path) = false, fun i => x.1.length - i⟩) a n)) [] Tryd.func34 (by kernel_rfl) (code := _) (by unfold Tryd.f34; rfl) (by kernel_rfl) (by decide) (fun _ => ⟨(), trivial⟩) (by intro h; first | exact fun _ => rfl | cases h) (by kernel_rfl) ?_
  intro x _
  obtain ⟨t, a, b⟩ := x
  have h3 := fun i => @take_step _ t i (fun f => (in25 a f.path && in25 b f.path) = false)
  have h1 : ∀ i (h : i < t.length), (in25 a t[i].path && in25 b t[i].path) = true → freeS t a b = false := fun i h hp => by
    have : (t.all fun f => !(in25 a f.path && in25 b f.path)) = false := all_false h (by rw [hp]; rfl)
    simp only [freeS, this, Bool.and_false]
  have h2 : ∀ i, t.length ≤ i → (∀ f, f ∈ t.take i → (in25 a f.path && in25 b f.path) = false) → treeS t = true → viewS a = true → viewS b = true → freeS t a b = true := fun i h hb q1 q2 q3 => by
    rw [List.take_of_length_le h] at hb
    have : (t.all fun f => !(in25 a f.path && in25 b f.path)) = true := by rw [List.all_eq_true]; intro f hf; rw [hb f hf]; rfl
    simp only [freeS, this, q1, q2, q3, Bool.and_self]
  have h4 : treeS t = false → freeS t a b = false := fun h => by simp only [freeS, h, Bool.false_and]
  have h5 : viewS a = false → freeS t a b = false := fun h => by simp only [freeS, h, Bool.false_and, Bool.and_false]
  have h6 : viewS b = false → freeS t a b = false := fun h => by simp only [freeS, h, Bool.false_and, Bool.and_false]
  simp -implicitDefEqProofs [vc_skip, extOf, vc_seq, vc_cond, vc_block, vc_exit, vc_ret, vc_region, vc_regionD, vc_loop, kSeq_normal, kSeq_ret, kSeq_exit, kBlock_normal, kBlock_ret, kBlock_exit, kLoop_normal, kLoop_ret, kLoop_exit, kCond_bool, kNorm_app, vcOps_nil, vcOps_cons, kOps_app, kStep_some, kStep_none, vcDL_nil, vcDL_cons, kOpsD_app, kStepD_true, kStepD_false, kStepC_some, kStepC_none, kMv_app, act3_store, act3_call, act3_bs, kAct_app, kSt2_app, stealSlots, stealL, stealOne, subIn, AV.stolen, act_store, act_bs, act_append, act_call, kSet_app, kSet2_app, kSetG_app, kSetG_app0, kStore_ptr, kStore_eptr, kCallW_some, kCallC_some, kCall_some, wk_T, wk_n, wk_keep, wk_inv, wk_act, wk_dr, wk_le, aCalm, wantC, dstOk, calm, aCallK, aCall3K, subOf, subRep, aCall2K, apnd, bsMove, putBox, putOwn, partAV, mvL, AV.mv, AV.base, AV.moved, AV.src, TI.flat, apSize, pickAV, St.val, St.cond, St.fn, St.next, St.set, St.trim, wipe_eq, wipeE_app, wipeM_app, pickEnv, get?, cGet, upd_app, withPuts, killAll, rm, freshP, Oper.hnd, Sc.st, ofConst, constOk, lenAV, elemLen, loadAV, ldL, ld1, fieldAddrAV, indexAddrAV, sliceAV, convAV, buildAV, fillAV, fieldAV, Out.of, binAV, AV.rows, AV.one, AV.cells, AV.deepOk, AV.toD, toDs, partRows, partRowsM, partsDeep, TK.zeroAV, TK.zeroD, byteOf, inR, Op.operands, Call.operands, passVs, passV, passL, pass1, passB, pasVs, pasV, pasL, pas1, ownsOk, okHs, okHs2, okFin, finOk2, rho, over, backRes, backAV, backAV1, backBlk, putBack, back2, back2_V, back2_1, m2, AV.wipe, AV.wipeV, AV.wipe1, Blk.wipe, AV.hs, AV.hs.hsL, alOps, Con.start2, Con.pk, bodyQ, fini, resAV, resA, firstId, Sc.from, renEnv, renT, renV, renVs, renL, ren1, renBox, renOwn, okRen, clOf, actB, setRow, flatRows, flatD, noInv, shr_nil, shr_some, kStepF_some, shareL, AV.viewed, AV.viewed1, cViewFreeS, Con.fn, tTab, cL4Ok, cL25Paths, cL25In]
  try dsimp only
  try simp +contextual [eStr, eFile, cast_succ, cast_eq, cast_zero, List.getElem?_eq_getElem, eStrs_set, eFiles_set, eStrs_rep, eFiles_rep, ← eStrs_append, ← eFiles_append, eStrs_take, eStrs_drop, eFiles_take, eFiles_drop, eStrs_snoc, eFiles_snoc, and_assoc]
  repeat' (first | intro _ | apply And.intro)
  all_goals first | omega | grind [all_take]

def freeI (t : List FileD) (a b : List Str) : Bool := treeI t && viewI a && viewI b && t.all fun f => !(visB f a && visB f b)
def cViewFreeI : Con := .fn 37 (List FileD × List Str × List Str) (fun x => [.sl true 2 (eFiles x.1), .sl true 1 (eStrs x.2.1), .sl true 1 (eStrs x.2.2)]) (fun x => (∀ f ∈ x.1, f.path.length ≤ 536870912) ∧ (∀ q ∈ x.2.1, q.length ≤ 536870912) ∧ ∀ q ∈ x.2.2, q.length ≤ 536870912) (fun x => .bool (freeI x.1 x.2.1 x.2.2)) (fun _ => [])
set_option maxHeartbeats 4000000 in
theorem viewFreeI_has : Has Tryd.prog 33 cViewFreeI := by
  refine has_walk mixed tTab_ok (l := [(18, cTreeOk), (82, cViewOk), (84, cVisible)]) (HasL.cons treeOk_has (HasL.cons viewOk_has (HasL.cons visible_has HasL.nil))) [0, 1, 2, 6, 8, 22, 23, 24] ((fun a n (_ : Nat) => (fun x _ => ⟨Nat, fun i => ⟨[(0, true, .sl true 2 (eFiles x.1)), (1, true, .sl true 1 (eStrs x.2.1)), (2, true, .sl true 1 (eStrs x.2.2)), (6, true, .bool false), (22, true, .sl true 2 (eFiles x.1)), (23, true, .int .i64 x.1.length), (24, true, .int .i64 i)], []⟩, fun i => i ≤ x.1.length ∧ treeI x.1 = true ∧ viewI x.2.1 = true ∧ viewI x.2.2 = true ∧ ∀ f, f ∈ x.1.take i → (visB f x.2.1 && visB f x.2.2) = false, fun i => x.1.length - i⟩) a n)) [] Tryd.func33 (by kernel_rfl) (code := _) (by unfold Tryd.f33; rfl) (by kernel_rfl) (by decide) (fun _ => ⟨(), trivial⟩) (by intro h; first | exact fun _ => rfl | cases h) (by kernel_rfl) ?_
  intro x hx
  obtain ⟨t, a, b⟩ := x
  obtain ⟨q1, q2, q3⟩ : (∀ f ∈ t, f.path.length ≤ 536870912) ∧ (∀ q ∈ a, q.length ≤ 536870912) ∧ ∀ q ∈ b, q.length ≤ 536870912 := hx
  have h3 := fun i => @take_step _ t i (fun f => (visB f a && visB f b) = false)
  have h1 : ∀ i (h : i < t.length), (visB t[i] a && visB t[i] b) = true → freeI t a b = false := fun i h hp => by
    have : (t.all fun f => !(visB f a && visB f b)) = false := all_false h (by rw [hp]; rfl)
    simp only [freeI, this, Bool.and_false]
  have h2 : ∀ i, t.length ≤ i → (∀ f, f ∈ t.take i → (visB f a && visB f b) = false) → treeI t = true → viewI a = true → viewI b = true → freeI t a b = true := fun i h hb q1 q2 q3 => by
    rw [List.take_of_length_le h] at hb
    have : (t.all fun f => !(visB f a && visB f b)) = true := by rw [List.all_eq_true]; intro f hf; rw [hb f hf]; rfl
    simp only [freeI, this, q1, q2, q3, Bool.and_self]
  have h4 : treeI t = false → freeI t a b = false := fun h => by simp only [freeI, h, Bool.false_and]
  have h5 : viewI a = false → freeI t a b = false := fun h => by simp only [freeI, h, Bool.false_and, Bool.and_false]
  have h6 : viewI b = false → freeI t a b = false := fun h => by simp only [freeI, h, Bool.false_and, Bool.and_false]
  simp -implicitDefEqProofs [vc_skip, extOf, vc_seq, vc_cond, vc_block, vc_exit, vc_ret, vc_region, vc_regionD, vc_loop, kSeq_normal, kSeq_ret, kSeq_exit, kBlock_normal, kBlock_ret, kBlock_exit, kLoop_normal, kLoop_ret, kLoop_exit, kCond_bool, kNorm_app, vcOps_nil, vcOps_cons, kOps_app, kStep_some, kStep_none, vcDL_nil, vcDL_cons, kOpsD_app, kStepD_true, kStepD_false, kStepC_some, kStepC_none, kMv_app, act3_store, act3_call, act3_bs, kAct_app, kSt2_app, stealSlots, stealL, stealOne, subIn, AV.stolen, act_store, act_bs, act_append, act_call, kSet_app, kSet2_app, kSetG_app, kSetG_app0, kStore_ptr, kStore_eptr, kCallW_some, kCallC_some, kCall_some, wk_T, wk_n, wk_keep, wk_inv, wk_act, wk_dr, wk_le, aCalm, wantC, dstOk, calm, aCallK, aCall3K, subOf, subRep, aCall2K, apnd, bsMove, putBox, putOwn, partAV, mvL, AV.mv, AV.base, AV.moved, AV.src, TI.flat, apSize, pickAV, St.val, St.cond, St.fn, St.next, St.set, St.trim, wipe_eq, wipeE_app, wipeM_app, pickEnv, get?, cGet, upd_app, withPuts, killAll, rm, freshP, Oper.hnd, Sc.st, ofConst, constOk, lenAV, elemLen, loadAV, ldL, ld1, fieldAddrAV, indexAddrAV, sliceAV, convAV, buildAV, fillAV, fieldAV, Out.of, binAV, AV.rows, AV.one, AV.cells, AV.deepOk, AV.toD, toDs, partRows, partRowsM, partsDeep, TK.zeroAV, TK.zeroD, byteOf, inR, Op.operands, Call.operands, passVs, passV, passL, pass1, passB, pasVs, pasV, pasL, pas1, ownsOk, okHs, okHs2, okFin, finOk2, rho, over, backRes, backAV, backAV1, backBlk, putBack, back2, back2_V, back2_1, m2, AV.wipe, AV.wipeV, AV.wipe1, Blk.wipe, AV.hs, AV.hs.hsL, alOps, Con.start2, Con.pk, bodyQ, fini, resAV, resA, firstId, Sc.from, renEnv, renT, renV, renVs, renL, ren1, renBox, renOwn, okRen, clOf, actB, setRow, flatRows, flatD, noInv, shr_nil, shr_some, kStepF_some, shareL, AV.viewed, AV.viewed1, cViewFreeI, Con.fn, tTab, cTreeOk, cViewOk, cVisible]
  try dsimp only
  try simp +contextual [eStr, eFile, cast_succ, cast_eq, cast_zero, List.getElem?_eq_getElem, eStrs_set, eFiles_set, eStrs_rep, eFiles_rep, ← eStrs_append, ← eFiles_append, eStrs_take, eStrs_drop, eFiles_take, eFiles_drop, eStrs_snoc, eFiles_snoc, and_assoc]
  repeat' (first | intro _ | apply And.intro)
  all_goals first | omega | grind [all_take]

theorem at_in (f : FileD) (q : Str) : atB f.path q = (decide (q = f.path) || inB q f.path) := by
  unfold atB
  rw [in_pref]
  congr 1
  simp only [eq_comm]
theorem vis_in (f : FileD) (l : List Str) : visB f l = in25 l f.path := by
  unfold visB in25
  congr 1
  funext q
  exact at_in f q
theorem view_eq (l : List Str) : viewI l = viewS l := by
  unfold viewI viewS
  rw [show pathI = pathS from funext path_eq, Bool.and_comm]
theorem free_eq (t : List FileD) (a b : List Str) : freeI t a b = freeS t a b := by
  unfold freeI freeS
  simp only [tree_eq, view_eq, vis_in]

theorem szStrs_le' {a : List Str} {l : Int} (h : 0 ≤ l) (h2 : l ≤ 1048576) : szStrs a l ≤ 1048576 := by have := szStrs_le (a := a) h; omega
theorem szFL_le : ∀ {a : List FileD} {l : Int}, 0 ≤ l → szFL a l ≤ l := by
  intro a
  induction a with
  | nil => intro l _; exact Int.le_refl l
  | cons s r ih =>
    intro l h
    simp only [szFL]
    split
    · omega
    · have h1 := szF_le (f := s) h
      have := ih (l := szF s l) (by omega); omega
theorem szFiles_le {a : List FileD} {l : Int} (h : 0 ≤ l) : szFiles a l ≤ l := by
  unfold szFiles
  split
  · omega
  · have := szFL_le (a := a) (l := l - a.length) (by omega); omega
end Vx
end Go.Proofs.YtlhkmgbmnbkaeaaDoor
/-
  Contracts: marks laid and looked for.
-/
namespace Go.Proofs.YtlhkmgbmnbkaeaaDoor
namespace Vx
open Go.RowKit
set_option maxRecDepth 8000

def digL : Nat → Nat → Str → Str
  | 0, _, out => out
  | f + 1, k, out => if k = 0 then out else digL f (k / 10) (UInt8.ofNat (48 + k % 10) :: out)
theorem digL_fuel : ∀ {f g k : Nat} {out : Str}, k < f → k < g → digL f k out = digL g k out := by
  intro f
  induction f with
  | zero => intro g k out h; omega
  | succ f ih =>
    intro g k out h1 h2
    cases g with
    | zero => omega
    | succ g =>
      simp only [digL]
      split
      · rfl
      · exact ih (by omega) (by omega)
def dig (k : Nat) (out : Str) : Str := digL (k + 1) k out
theorem dig_zero (out : Str) : dig 0 out = out := rfl
theorem dig_step {k : Nat} {out : Str} (h : 0 < k) : dig k out = dig (k / 10) (UInt8.ofNat (48 + k % 10) :: out) := by
  unfold dig
  rw [digL, if_neg (by omega)]
  exact digL_fuel (by omega) (by omega)
def markS (k : Int) : Str := if k ≤ 0 then [109, 48] else 109 :: dig k.toNat []

def cMarkText : Con := .fn 20 Int (fun k => [.int .i64 k]) (fun k => k ≤ 4611686018427387904) (fun k => .str (markS k)) (fun _ => [])
set_option maxHeartbeats 4000000 in
theorem markText_has : Has Tryd.prog 92 cMarkText := by
  refine has_walk mixed tTab_ok (l := []) HasL.nil [0, 2, 3] ((fun a n (_ : Nat) => (fun k _ => ⟨Int × Str, fun t => ⟨[(0, true, .int .i64 t.1), (2, true, .str []), (3, true, .str t.2)], []⟩, fun t => 0 ≤ t.1 ∧ 0 < (show Int from k) ∧ t.2.length + t.1.toNat ≤ (show Int from k).toNat ∧ dig t.1.toNat t.2 = dig (show Int from k).toNat [], fun t => t.1.toNat⟩) a n)) [] Tryd.func92 (by kernel_rfl) (code := _) (by unfold Tryd.f92; rfl) (by kernel_rfl) (by decide) (fun _ => ⟨(), trivial⟩) (by intro h; first | exact fun _ => rfl | cases h) (by kernel_rfl) ?_
  intro (k : Int) hk
  replace hk : k ≤ 4611686018427387904 := hk
  have hm : ∀ n : Int, 0 ≤ n → n.tmod 10 = n % 10 := fun n h => Int.tmod_eq_emod_of_nonneg h
  have hq : ∀ n : Int, 0 ≤ n → n.tdiv 10 = n / 10 := fun n h => Int.tdiv_eq_ediv_of_nonneg h
  have hs : ∀ (n : Int) (out : Str), 0 < n → dig n.toNat out = dig (n / 10).toNat (UInt8.ofNat (48 + n % 10).toNat :: out) := fun n out h => by
    rw [dig_step (by omega)]
    congr 1
    · omega
    · congr 2; omega
  have hz : ∀ out : Str, dig 0 out = out := fun _ => rfl
  have hM : maxLen = 9223372036854775807 := rfl
  simp -implicitDefEqProofs [vc_skip, extOf, vc_seq, vc_cond, vc_block, vc_exit, vc_ret, vc_region, vc_regionD, vc_loop, kSeq_normal, kSeq_ret, kSeq_exit, kBlock_normal, kBlock_ret, kBlock_exit, kLoop_normal, kLoop_ret, kLoop_exit, kCond_bool, kNorm_app, vcOps_nil, vcOps_cons, kOps_app, kStep_some, kStep_none, vcDL_nil, vcDL_cons, kOpsD_app, kStepD_true, kStepD_false, kStepC_some, kStepC_none, kMv_app, act3_store, act3_call, act3_bs, kAct_app, kSt2_app, stealSlots, stealL, stealOne, subIn, AV.stolen, act_store, act_bs, act_append, act_call, kSet_app, kSet2_app, kSetG_app, kSetG_app0, kStore_ptr, kStore_eptr, kCallW_some, kCallC_some, kCall_some, wk_T, wk_n, wk_keep, wk_inv, wk_act, wk_dr, wk_le, aCalm, wantC, dstOk, calm, aCallK, aCall3K, subOf, subRep, aCall2K, apnd, bsMove, putBox, putOwn, partAV, mvL, AV.mv, AV.base, AV.moved, AV.src, TI.flat, apSize, pickAV, St.val, St.cond, St.fn, St.next, St.set, St.trim, wipe_eq, wipeE_app, wipeM_app, pickEnv, get?, cGet, upd_app, withPuts, killAll, rm, freshP, Oper.hnd, Sc.st, ofConst, constOk, lenAV, elemLen, loadAV, ldL, ld1, fieldAddrAV, indexAddrAV, sliceAV, convAV, buildAV, fillAV, fieldAV, Out.of, binAV, AV.rows, AV.one, AV.cells, AV.deepOk, AV.toD, toDs, partRows, partRowsM, partsDeep, TK.zeroAV, TK.zeroD, byteOf, inR, Op.operands, Call.operands, passVs, passV, passL, pass1, passB, pasVs, pasV, pasL, pas1, ownsOk, okHs, okHs2, okFin, finOk2, rho, over, backRes, backAV, backAV1, backBlk, putBack, back2, back2_V, back2_1, m2, AV.wipe, AV.wipeV, AV.wipe1, Blk.wipe, AV.hs, AV.hs.hsL, alOps, Con.start2, Con.pk, bodyQ, fini, resAV, resA, firstId, Sc.from, renEnv, renT, renV, renVs, renL, ren1, renBox, renOwn, okRen, clOf, actB, setRow, flatRows, flatD, noInv, shr_nil, shr_some, kStepF_some, shareL, AV.viewed, AV.viewed1, cMarkText, Con.fn, tTab]
  try dsimp only
  refine ⟨fun h => by simp [markS, h], fun h0 => ⟨⟨k, [], ⟨rfl, rfl⟩, by omega, h0, by simp, rfl⟩, ?_⟩⟩
  intro a b ha _ hl hd
  rw [hm a ha, hq a ha, hM]
  refine ⟨fun hpos => ⟨by omega, fun _ _ => ⟨by omega, fun _ _ => ⟨by omega, fun _ => ⟨by omega, fun _ => ⟨by omega, fun _ _ => ⟨_, _, ⟨rfl, rfl⟩, ⟨by omega, h0, by simp only [List.length_cons]; omega, ?_⟩, by omega⟩⟩⟩⟩⟩⟩, fun hz0 => ⟨by omega, fun _ => ?_⟩⟩
  · rw [← hs a b hpos, hd]
  · obtain rfl : a = 0 := by omega
    rw [show dig (Int.toNat 0) b = b from rfl] at hd
    simp only [markS, if_neg (show ¬ k ≤ 0 by omega), hd]

def markL (n : Nat) (k : Int) : List Str := (List.range n).map fun i : Nat => markS (k + (i : Int))
theorem markL_len (n : Nat) (k : Int) : (markL n k).length = n := by simp [markL]
theorem markL_succ (n : Nat) (k : Int) : markL (n + 1) k = markL n k ++ [markS (k + n)] := by simp [markL, List.range_succ]
def mArr (a : List Str) (k : Int) (i : Nat) : List Str := markL i k ++ a.drop i
theorem mArr_len {a : List Str} {k : Int} {i : Nat} (h : i ≤ a.length) : (mArr a k i).length = a.length := by simp [mArr, markL_len]; omega
theorem mArr_set {a : List Str} {k : Int} {i : Nat} (h : i < a.length) : (mArr a k i).set i (markS (k + i)) = mArr a k (i + 1) := by
  unfold mArr
  have e : (l' : List Str) → l' = a.drop i → l'.set 0 (markS (k + i)) = markS (k + i) :: a.drop (i + 1) := by
    rintro _ rfl
    rw [List.drop_eq_getElem_cons h]; rfl
  rw [List.set_append_right _ _ (by simp [markL_len]), markL_len, Nat.sub_self, markL_succ, e _ rfl]
  simp
theorem mArr_zero (a : List Str) (k : Int) : mArr a k 0 = a := by simp [mArr, markL]
theorem mArr_end {a : List Str} {k : Int} {i : Nat} (h : a.length ≤ i) (h2 : i ≤ a.length) : mArr a k i = markL a.length k := by
  obtain rfl : i = a.length := by omega
  simp [mArr]

def cMarkStringS : Con := { A := List Str × Int, X := Unit, n := 20, args := fun a => [.own 0 1 (eStrs a.1), .int .i64 a.2], boxes := fun _ => [], pre := fun a => 0 ≤ a.2 ∧ a.2 + a.1.length ≤ 4611686018427387904, post := fun _ _ => True, res := fun a _ => .int .i64 (a.2 + a.1.length), fin := fun a _ => [(0, .own 9 1 true (eStrs (markL a.1.length a.2)))], owns := fun a => [(0, 9, 1, eStrs a.1)], lends := [0], mv := true, sube := 9 }
set_option maxHeartbeats 4000000 in
theorem markStringS_has : Has Tryd.prog 40 cMarkStringS := by
  refine has_walk mixed tTab_ok (l := [(92, cMarkText)]) (HasL.cons markText_has HasL.nil) [0, 1, 4, 5] ((fun a n (_ : Nat) => (fun a _ => ⟨Nat, fun i => ⟨[(0, true, .own 0 1 (eStrs (mArr a.1 a.2 i))), (1, true, .int .i64 (a.2 + i)), (4, true, .int .i64 0), (5, true, .int .i64 i)], [(0, .own 9 1 true (eStrs (mArr a.1 a.2 i)))]⟩, fun i => i ≤ a.1.length, fun i => a.1.length - i⟩) a n)) [] Tryd.func40 (by kernel_rfl) (code := _) (by unfold Tryd.f40; rfl) (by kernel_rfl) (by decide) (fun _ => ⟨(), trivial⟩) (by intro h; first | exact fun _ => rfl | cases h) (by kernel_rfl) ?_
  intro a ha
  obtain ⟨l, k⟩ := a
  obtain ⟨h1, h2⟩ : 0 ≤ k ∧ k + l.length ≤ 4611686018427387904 := ha
  have e1 := fun i => @mArr_len l k i
  have e2 := fun i => @mArr_set l k i
  have e3 := mArr_zero l k
  have e4 := fun i => @mArr_end l k i
  simp -implicitDefEqProofs [vc_skip, extOf, vc_seq, vc_cond, vc_block, vc_exit, vc_ret, vc_region, vc_regionD, vc_loop, kSeq_normal, kSeq_ret, kSeq_exit, kBlock_normal, kBlock_ret, kBlock_exit, kLoop_normal, kLoop_ret, kLoop_exit, kCond_bool, kNorm_app, vcOps_nil, vcOps_cons, kOps_app, kStep_some, kStep_none, vcDL_nil, vcDL_cons, kOpsD_app, kStepD_true, kStepD_false, kStepC_some, kStepC_none, kMv_app, act3_store, act3_call, act3_bs, kAct_app, kSt2_app, stealSlots, stealL, stealOne, subIn, AV.stolen, act_store, act_bs, act_append, act_call, kSet_app, kSet2_app, kSetG_app, kSetG_app0, kStore_ptr, kStore_eptr, kCallW_some, kCallC_some, kCall_some, wk_T, wk_n, wk_keep, wk_inv, wk_act, wk_dr, wk_le, aCalm, wantC, dstOk, calm, aCallK, aCall3K, subOf, subRep, aCall2K, apnd, bsMove, putBox, putOwn, partAV, mvL, AV.mv, AV.base, AV.moved, AV.src, TI.flat, apSize, pickAV, St.val, St.cond, St.fn, St.next, St.set, St.trim, wipe_eq, wipeE_app, wipeM_app, pickEnv, get?, cGet, upd_app, withPuts, killAll, rm, freshP, Oper.hnd, Sc.st, ofConst, constOk, lenAV, elemLen, loadAV, ldL, ld1, fieldAddrAV, indexAddrAV, sliceAV, convAV, buildAV, fillAV, fieldAV, Out.of, binAV, AV.rows, AV.one, AV.cells, AV.deepOk, AV.toD, toDs, partRows, partRowsM, partsDeep, TK.zeroAV, TK.zeroD, byteOf, inR, Op.operands, Call.operands, passVs, passV, passL, pass1, passB, pasVs, pasV, pasL, pas1, ownsOk, okHs, okHs2, okFin, finOk2, rho, over, backRes, backAV, backAV1, backBlk, putBack, back2, back2_V, back2_1, m2, AV.wipe, AV.wipeV, AV.wipe1, Blk.wipe, AV.hs, AV.hs.hsL, alOps, Con.start2, Con.pk, bodyQ, fini, resAV, resA, firstId, Sc.from, renEnv, renT, renV, renVs, renL, ren1, renBox, renOwn, okRen, clOf, actB, setRow, flatRows, flatD, noInv, shr_nil, shr_some, kStepF_some, shareL, AV.viewed, AV.viewed1, cMarkStringS, Con.fn, tTab, cMarkText]
  try dsimp only
  try simp +contextual [eStr, eFile, cast_succ, cast_eq, cast_zero, List.getElem?_eq_getElem, eStrs_set, eFiles_set, eStrs_rep, eFiles_rep, ← eStrs_append, ← eFiles_append, eStrs_take, eStrs_drop, eFiles_take, eFiles_drop, eStrs_snoc, eFiles_snoc, and_assoc, e1, e2, e3]
  repeat' (first | intro _ | apply And.intro)
  all_goals first | omega | grind [all_take]

def heldL (a : List Str) (k : Int) : Int := if a = markL a.length k then k + a.length else -1
def cHeldStringS : Con := .fn 22 (List Str × Int) (fun a => [.sl true 1 (eStrs a.1), .int .i64 a.2]) (fun a => 0 ≤ a.2 ∧ a.2 + a.1.length ≤ 4611686018427387904) (fun a => .int .i64 (heldL a.1 a.2)) (fun _ => [])
theorem held_hit {a : List Str} {k : Int} {i : Nat} (h : a.length ≤ i) (h2 : i ≤ a.length) (h3 : a.take i = markL i k) : heldL a k = k + i := by
  obtain rfl : i = a.length := by omega
  rw [List.take_length] at h3
  unfold heldL
  rw [if_pos h3]
theorem held_miss {a : List Str} {k : Int} {i : Nat} (h : i < a.length) (h2 : a[i] ≠ markS (k + i)) : heldL a k = -1 := by
  unfold heldL
  rw [if_neg]
  intro h3
  apply h2
  have : a[i]? = (markL a.length k)[i]? := by rw [← h3]
  rw [List.getElem?_eq_getElem h] at this
  simpa [markL, h] using this
theorem held_step {a : List Str} {k : Int} {i : Nat} (h : i < a.length) (h2 : a[i] = markS (k + i)) (h3 : a.take i = markL i k) : a.take (i + 1) = markL (i + 1) k := by
  rw [take_succ' h, markL_succ, h3, h2]
set_option maxHeartbeats 4000000 in
theorem heldStringS_has : Has Tryd.prog 93 cHeldStringS := by
  refine has_walk mixed tTab_ok (l := [(92, cMarkText)]) (HasL.cons markText_has HasL.nil) [0, 1, 4, 5] ((fun a n (_ : Nat) => (fun a _ => ⟨Nat, fun i => ⟨[(0, true, .sl true 1 (eStrs a.1)), (1, true, .int .i64 (a.2 + i)), (4, true, .int .i64 0), (5, true, .int .i64 i)], []⟩, fun i => i ≤ a.1.length ∧ a.1.take i = markL i a.2, fun i => a.1.length - i⟩) a n)) [] Tryd.func93 (by kernel_rfl) (code := _) (by unfold Tryd.f93; rfl) (by kernel_rfl) (by decide) (fun _ => ⟨(), trivial⟩) (by intro h; first | exact fun _ => rfl | cases h) (by kernel_rfl) ?_
  intro a ha
  obtain ⟨l, k⟩ := a
  obtain ⟨h1, h2⟩ : 0 ≤ k ∧ k + l.length ≤ 4611686018427387904 := ha
  have e1 := fun i => @held_hit l k i
  have e2 := fun i => @held_miss l k i
  have e3 := fun i => @held_step l k i
  have e4 : markL 0 k = [] := rfl
  simp -implicitDefEqProofs [vc_skip, extOf, vc_seq, vc_cond, vc_block, vc_exit, vc_ret, vc_region, vc_regionD, vc_loop, kSeq_normal, kSeq_ret, kSeq_exit, kBlock_normal, kBlock_ret, kBlock_exit, kLoop_normal, kLoop_ret, kLoop_exit, kCond_bool, kNorm_app, vcOps_nil, vcOps_cons, kOps_app, kStep_some, kStep_none, vcDL_nil, vcDL_cons, kOpsD_app, kStepD_true, kStepD_false, kStepC_some, kStepC_none, kMv_app, act3_store, act3_call, act3_bs, kAct_app, kSt2_app, stealSlots, stealL, stealOne, subIn, AV.stolen, act_store, act_bs, act_append, act_call, kSet_app, kSet2_app, kSetG_app, kSetG_app0, kStore_ptr, kStore_eptr, kCallW_some, kCallC_some, kCall_some, wk_T, wk_n, wk_keep, wk_inv, wk_act, wk_dr, wk_le, aCalm, wantC, dstOk, calm, aCallK, aCall3K, subOf, subRep, aCall2K, apnd, bsMove, putBox, putOwn, partAV, mvL, AV.mv, AV.base, AV.moved, AV.src, TI.flat, apSize, pickAV, St.val, St.cond, St.fn, St.next, St.set, St.trim, wipe_eq, wipeE_app, wipeM_app, pickEnv, get?, cGet, upd_app, withPuts, killAll, rm, freshP, Oper.hnd, Sc.st, ofConst, constOk, lenAV, elemLen, loadAV, ldL, ld1, fieldAddrAV, indexAddrAV, sliceAV, convAV, buildAV, fillAV, fieldAV, Out.of, binAV, AV.rows, AV.one, AV.cells, AV.deepOk, AV.toD, toDs, partRows, partRowsM, partsDeep, TK.zeroAV, TK.zeroD, byteOf, inR, Op.operands, Call.operands, passVs, passV, passL, pass1, passB, pasVs, pasV, pasL, pas1, ownsOk, okHs, okHs2, okFin, finOk2, rho, over, backRes, backAV, backAV1, backBlk, putBack, back2, back2_V, back2_1, m2, AV.wipe, AV.wipeV, AV.wipe1, Blk.wipe, AV.hs, AV.hs.hsL, alOps, Con.start2, Con.pk, bodyQ, fini, resAV, resA, firstId, Sc.from, renEnv, renT, renV, renVs, renL, ren1, renBox, renOwn, okRen, clOf, actB, setRow, flatRows, flatD, noInv, shr_nil, shr_some, kStepF_some, shareL, AV.viewed, AV.viewed1, cHeldStringS, Con.fn, tTab, cMarkText]
  try dsimp only
  try simp +contextual [eStr, eFile, cast_succ, cast_eq, cast_zero, List.getElem?_eq_getElem, eStrs_set, eFiles_set, eStrs_rep, eFiles_rep, ← eStrs_append, ← eFiles_append, eStrs_take, eStrs_drop, eFiles_take, eFiles_drop, eStrs_snoc, eFiles_snoc, and_assoc]
  repeat' (first | intro _ | apply And.intro)
  all_goals first | omega | grind [all_take]

end Vx
end Go.Proofs.YtlhkmgbmnbkaeaaDoor
/-
  Contracts: words looked for in trees, both sides.
-/
namespace Go.Proofs.YtlhkmgbmnbkaeaaDoor
namespace Vx
open Go.RowKit
set_option maxRecDepth 8000

def startsW (w l : Str) : Bool := prefB w l && (match l.drop w.length with | [] => true | y :: _ => !wordB y.toNat)
def occ (w : Str) : Bool → Str → Bool
  | b, [] => b && startsW w []
  | b, x :: r => (b && startsW w (x :: r)) || occ w (!wordB x.toNat) r
def hasP (w : Str) : Str → Str → Bool
  | [], c => decide (c = w)
  | x :: r, c => if wordB x.toNat then hasP w r (c ++ [x]) else decide (c = w) || hasP w r []

theorem occ_run {w : Str} : ∀ {c l : Str}, (∀ x ∈ c, wordB x.toNat = true) → occ w false (c ++ l) = occ w false l := by
  intro c
  induction c with
  | nil => intro l _; rfl
  | cons x c ih =>
    intro l h
    have hx := h x (by simp)
    rw [List.cons_append]
    show (false && _ || occ w (!wordB x.toNat) (c ++ l)) = _
    rw [hx]
    simpa using ih fun y hy => h y (by simp [hy])
theorem occ_true {w x : Str} {y : UInt8} {l : Str} : occ w true ((y :: x) ++ l) = (startsW w ((y :: x) ++ l) || occ w (!wordB y.toNat) (x ++ l)) := by
  rw [List.cons_append]
  show (true && _ || _) = _
  rw [Bool.true_and]
theorem starts_eq {w c l : Str} (hw : ∀ x ∈ w, wordB x.toNat = true) (hc : ∀ x ∈ c, wordB x.toNat = true) (hl : ∀ y r, l = y :: r → wordB y.toNat = false) : startsW w (c ++ l) = decide (c = w) := by
  rw [Bool.eq_iff_iff]
  simp only [startsW, prefB, Bool.and_eq_true, decide_eq_true_eq]
  constructor
  · rintro ⟨⟨h1, h2⟩, h3⟩
    rcases Nat.lt_trichotomy w.length c.length with h | h | h
    · rw [List.drop_append_of_le_length (by omega), List.drop_eq_getElem_cons h] at h3
      simp only [List.cons_append] at h3
      rw [hc _ (List.getElem_mem h)] at h3
      cases h3
    · rw [List.take_append_of_le_length (by omega), List.take_of_length_le (by omega)] at h2
      exact h2
    · rw [List.take_append, List.take_of_length_le (by omega)] at h2
      cases l with
      | nil => simp at h1; omega
      | cons y r =>
        have hy : y ∈ w := by
          rw [← h2]
          obtain ⟨k, hk⟩ : ∃ k, w.length - c.length = k + 1 := ⟨w.length - c.length - 1, by omega⟩
          rw [hk]; simp
        have h4 := hl y r rfl
        rw [hw y hy] at h4
        cases h4
  · rintro rfl
    refine ⟨⟨by simp, by simp⟩, ?_⟩
    rw [List.drop_left]
    cases l with
    | nil => rfl
    | cons y r => simp [hl y r rfl]
theorem occ_end {w c : Str} (hw : ∀ x ∈ w, wordB x.toNat = true) (hc : ∀ x ∈ c, wordB x.toNat = true) : occ w true c = decide (c = w) := by
  have hs := starts_eq (l := []) hw hc (by simp)
  rw [List.append_nil] at hs
  cases c with
  | nil => show (true && startsW w []) = _; rw [Bool.true_and]; exact hs
  | cons x c =>
    have := occ_true (w := w) (y := x) (x := c) (l := [])
    rw [List.append_nil, List.append_nil] at this
    rw [this, hs, hc x (by simp)]
    have h2 := occ_run (w := w) (c := c) (l := []) (fun y hy => hc y (by simp [hy]))
    rw [List.append_nil] at h2
    simp [h2, occ]
theorem occ_cut {w c r : Str} {y : UInt8} (hw : ∀ x ∈ w, wordB x.toNat = true) (hc : ∀ x ∈ c, wordB x.toNat = true) (hy : wordB y.toNat = false) : occ w true (c ++ y :: r) = (decide (c = w) || occ w true r) := by
  have hs := starts_eq (l := y :: r) hw hc (fun a b h => by cases h; exact hy)
  cases c with
  | nil =>
    show (true && startsW w (y :: r) || occ w (!wordB y.toNat) r) = _
    rw [hy, Bool.true_and]
    rw [List.nil_append] at hs
    rw [hs]; rfl
  | cons x c =>
    rw [occ_true, hs, hc x (by simp)]
    have h2 := occ_run (w := w) (c := c) (l := y :: r) (fun z hz => hc z (by simp [hz]))
    simp only [Bool.not_true]
    rw [h2]
    show (_ || (false && _ || occ w (!wordB y.toNat) r)) = _
    rw [hy]; simp
theorem has_occ {w : Str} (hw : ∀ x ∈ w, wordB x.toNat = true) : ∀ {r c : Str}, (∀ x ∈ c, wordB x.toNat = true) → hasP w r c = occ w true (c ++ r) := by
  intro r
  induction r with
  | nil => intro c hc; rw [List.append_nil, occ_end hw hc]; rfl
  | cons x r ih =>
    intro c hc
    cases hx : wordB x.toNat with
    | true =>
      simp only [hasP, hx, if_true]
      rw [ih (fun y hy => by rcases List.mem_append.1 hy with h | h; exact hc y h; simp only [List.mem_singleton] at h; subst h; exact hx)]
      simp
    | false =>
      simp only [hasP, hx, Bool.false_eq_true, if_false]
      rw [occ_cut hw hc hx, ih (by simp)]
      rfl

theorem occ_short {w : Str} : ∀ {l : Str} {b : Bool}, l.length < w.length → occ w b l = false := by
  intro l
  induction l with
  | nil =>
    intro b h
    simp only [List.length_nil] at h
    show (b && startsW w []) = false
    simp only [startsW, prefB, List.length_nil, decide_eq_false (show ¬ w.length ≤ 0 by omega), Bool.false_and, Bool.and_false]
  | cons x l ih =>
    intro b h
    simp only [List.length_cons] at h
    have h1 : startsW w (x :: l) = false := by simp only [startsW, prefB, List.length_cons, decide_eq_false (show ¬ w.length ≤ l.length + 1 by omega), Bool.false_and]
    simp only [occ, h1, Bool.and_false, Bool.false_or]
    exact ih (by omega)
def bAt (l : Str) (i : Nat) : Bool := decide (i = 0) || !wordB (l.getD (i - 1) 0).toNat
def occAt (w l : Str) (i : Nat) : Bool := occ w (bAt l i) (l.drop i)
theorem occAt_zero (w l : Str) : occAt w l 0 = occ w true l := rfl
theorem starts_iff {w l : Str} {i : Nat} (h : i + w.length ≤ l.length) : startsW w (l.drop i) = (decide ((l.drop i).take w.length = w) && (decide (i + w.length = l.length) || !wordB (l.getD (i + w.length) 0).toNat)) := by
  unfold startsW prefB
  rw [List.drop_drop]
  rw [decide_eq_true (show w.length ≤ (l.drop i).length by simp; omega), Bool.true_and]
  congr 1
  by_cases he : i + w.length = l.length
  · rw [List.drop_eq_nil_of_le (by omega)]; simp [he]
  · have hlt : i + w.length < l.length := by omega
    rw [List.drop_eq_getElem_cons hlt]
    simp [he, hlt]
theorem occAt_step {w l : Str} {i : Nat} (h : i < l.length) : occAt w l i = (bAt l i && startsW w (l.drop i) || occAt w l (i + 1)) := by
  unfold occAt
  rw [List.drop_eq_getElem_cons h]
  show (_ || occ w (!wordB l[i].toNat) (l.drop (i + 1))) = _
  congr 2
  simp [bAt, h]
theorem occAt_hit {w l : Str} {i : Nat} (hw : 1 ≤ w.length) (h : i + w.length ≤ l.length) (h1 : (l.drop i).take w.length = w) (h2 : i = 0 ∨ wordB (l.getD (i - 1) 0).toNat = false) (h3 : i + w.length = l.length ∨ wordB (l.getD (i + w.length) 0).toNat = false) : occAt w l i = true := by
  rw [occAt_step (by omega), starts_iff h]
  have a1 : bAt l i = true := by unfold bAt; rcases h2 with h2 | h2 <;> simp only [h2, decide_true, Bool.true_or, Bool.not_false, Bool.or_true]
  have a2 : (decide (i + w.length = l.length) || !wordB (l.getD (i + w.length) 0).toNat) = true := by rcases h3 with h3 | h3 <;> simp only [h3, decide_true, Bool.true_or, Bool.not_false, Bool.or_true]
  rw [a1, a2, decide_eq_true h1]; rfl
theorem occAt_miss {w l : Str} {i : Nat} (hw : 1 ≤ w.length) (h : i + w.length ≤ l.length) (h1 : (l.drop i).take w.length ≠ w ∨ (0 < i ∧ wordB (l.getD (i - 1) 0).toNat = true) ∨ (i + w.length < l.length ∧ wordB (l.getD (i + w.length) 0).toNat = true)) : occAt w l i = occAt w l (i + 1) := by
  rw [occAt_step (by omega), starts_iff h]
  have : (bAt l i && (decide ((l.drop i).take w.length = w) && (decide (i + w.length = l.length) || !wordB (l.getD (i + w.length) 0).toNat))) = false := by
    rcases h1 with h1 | ⟨h1, h2⟩ | ⟨h1, h2⟩
    · rw [decide_eq_false h1]; simp
    · unfold bAt; rw [decide_eq_false (show ¬ i = 0 by omega), h2]; simp
    · rw [decide_eq_false (show ¬ i + w.length = l.length by omega), h2]; simp
  rw [this, Bool.false_or]
theorem occAt_end {w l : Str} {i : Nat} (h : l.length < i + w.length) (hi : i ≤ l.length) : occAt w l i = false := occ_short (by rw [List.length_drop]; omega)

def cContains : Con := .fn 51 (Str × Str) (fun a => [.str a.1, .str a.2]) (fun a => a.1.length ≤ 1099511627776 ∧ a.2.length ≤ 1099511627776 ∧ 1 ≤ a.2.length) (fun a => .bool (occ a.2 true a.1)) (fun _ => [])
set_option maxHeartbeats 4000000 in
theorem contains_has : Has Tryd.prog 130 cContains := by
  refine has_walk mixed tTab_ok (l := [(127, cWordByte)]) (HasL.cons wordByte_has HasL.nil) [0, 1, 4, 5, 6] ((fun a n (_ : Nat) => (fun a _ => ⟨Nat, fun i => ⟨[(0, true, .str a.1), (1, true, .str a.2), (4, true, .bool false), (5, true, .int .i64 i)], []⟩, fun i => i ≤ a.1.length ∧ occAt a.2 a.1 i = occ a.2 true a.1, fun i => a.1.length - i⟩) a n)) [] Tryd.func130 (by kernel_rfl) (code := _) (by unfold Tryd.f130; rfl) (by kernel_rfl) (by decide) (fun _ => ⟨(), trivial⟩) (by intro h; first | exact fun _ => rfl | cases h) (by kernel_rfl) ?_
  intro a ha
  obtain ⟨l, w⟩ := a
  obtain ⟨q1, q2, q3⟩ : l.length ≤ 1099511627776 ∧ w.length ≤ 1099511627776 ∧ 1 ≤ w.length := ha
  have h1 := fun i => @occAt_hit w l i q3
  have h2 := fun i => @occAt_miss w l i q3
  have h3 := fun i => @occAt_end w l i
  have h0 := occAt_zero w l
  have hn : ∀ i : Nat, ((i : Int) + w.length).toNat - i = w.length := fun i => by omega
  have hn2 : ∀ i : Nat, ((i : Int) + w.length).toNat = i + w.length := fun i => by omega
  have hn3 : ∀ i : Nat, ((i : Int) - 1).toNat = i - 1 := fun i => by omega
  simp -implicitDefEqProofs [vc_skip, extOf, vc_seq, vc_cond, vc_block, vc_exit, vc_ret, vc_region, vc_regionD, vc_loop, kSeq_normal, kSeq_ret, kSeq_exit, kBlock_normal, kBlock_ret, kBlock_exit, kLoop_normal, kLoop_ret, kLoop_exit, kCond_bool, kNorm_app, vcOps_nil, vcOps_cons, kOps_app, kStep_some, kStep_none, vcDL_nil, vcDL_cons, kOpsD_app, kStepD_true, kStepD_false, kStepC_some, kStepC_none, kMv_app, act3_store, act3_call, act3_bs, kAct_app, kSt2_app, stealSlots, stealL, stealOne, subIn, AV.stolen, act_store, act_bs, act_append, act_call, kSet_app, kSet2_app, kSetG_app, kSetG_app0, kStore_ptr, kStore_eptr, kCallW_some, kCallC_some, kCall_some, wk_T, wk_n, wk_keep, wk_inv, wk_act, wk_dr, wk_le, aCalm, wantC, dstOk, calm, aCallK, aCall3K, subOf, subRep, aCall2K, apnd, bsMove, putBox, putOwn, partAV, mvL, AV.mv, AV.base, AV.moved, AV.src, TI.flat, apSize, pickAV, St.val, St.cond, St.fn, St.next, St.set, St.trim, wipe_eq, wipeE_app, wipeM_app, pickEnv, get?, cGet, upd_app, withPuts, killAll, rm, freshP, Oper.hnd, Sc.st, ofConst, constOk, lenAV, elemLen, loadAV, ldL, ld1, fieldAddrAV, indexAddrAV, sliceAV, convAV, buildAV, fillAV, fieldAV, Out.of, binAV, AV.rows, AV.one, AV.cells, AV.deepOk, AV.toD, toDs, partRows, partRowsM, partsDeep, TK.zeroAV, TK.zeroD, byteOf, inR, Op.operands, Call.operands, passVs, passV, passL, pass1, passB, pasVs, pasV, pasL, pas1, ownsOk, okHs, okHs2, okFin, finOk2, rho, over, backRes, backAV, backAV1, backBlk, putBack, back2, back2_V, back2_1, m2, AV.wipe, AV.wipeV, AV.wipe1, Blk.wipe, AV.hs, AV.hs.hsL, alOps, Con.start2, Con.pk, bodyQ, fini, resAV, resA, firstId, Sc.from, renEnv, renT, renV, renVs, renL, ren1, renBox, renOwn, okRen, clOf, actB, setRow, flatRows, flatD, noInv, shr_nil, shr_some, kStepF_some, shareL, AV.viewed, AV.viewed1, cContains, Con.fn, tTab, cWordByte]
  try dsimp only
  simp only [List.getD_eq_getElem?_getD] at h1 h2
  refine ⟨h0, fun t ht hoc _ => ⟨by omega, fun _ _ _ => ⟨fun hle _ => ⟨by omega, fun _ _ => ⟨by omega, fun _ _ => ?_⟩⟩, fun _ => ?_⟩⟩⟩
  · have e1 : t + w.length ≤ l.length := by omega
    have k1 := h1 t e1
    have k2 := h2 t e1
    have kx : occAt w l t = occAt w l (t + 1) → ∃ t' : Nat, (t' : Int) = t + 1 ∧ (t' ≤ l.length ∧ occAt w l t' = occ w true l) ∧ l.length - t' < l.length - t := fun h => ⟨t + 1, by omega, ⟨by omega, by rw [← h, hoc]⟩, by omega⟩
    simp only [hn2, Nat.add_sub_cancel_left]
    clear h1 h2 h3 h0 hn hn2 hn3
    repeat' (first | intro _ | apply And.intro)
    all_goals first | omega | grind
  · rw [← hoc]; exact h3 t (by omega) ht

end Vx
end Go.Proofs.YtlhkmgbmnbkaeaaDoor
