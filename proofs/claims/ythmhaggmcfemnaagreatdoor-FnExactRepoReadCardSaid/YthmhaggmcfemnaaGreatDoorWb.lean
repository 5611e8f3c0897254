/-
  Joined by program (merge.py): Bw, Rep, Ea, Ja, Kd, Da, Db, Dc, Dd, De, Df, Dg, Ha, Ka, Kg, Kh. It shows what the single texts show; conditions: none but those of each lemma.
-/
import Derived.Test.YthmhaggmcfemnaaGreatDoorWa
import Derived.Lib.Walk
import Derived.Lib.Builder
import Derived.Lib.AppendStr
import Derived.Lib.AppendZeros
import Derived.Lib.UnsafeStr
import Derived.Laws.Externs
import Derived.Laws.NewBlocks
import Derived.Shelf.RegionOpenPlain
import Derived.WalkKit
set_option linter.unusedVariables false
set_option linter.unusedSimpArgs false
set_option linter.unusedSectionVars false
/-
  strings.Builder: the library's text, walked: copyCheck, WriteString, String.
-/
set_option linter.unusedVariables false
set_option linter.unusedSimpArgs false
namespace Go.Proofs.YthmhaggmcfemnaaGreatDoor
namespace Vx
open Go.RowKit Go.Lib

set_option maxHeartbeats 1000000 in
set_option maxRecDepth 100000 in
theorem bld_used (b : Nat) (w : World) (h0 : w.cell? ⟨b, 0, none⟩ = some (.pointer (some ⟨b, 0, none⟩))) :
    Calls Tryz.prog 137 #[.pointer (some ⟨b, 0, none⟩)] w fun e w' => e = .returned (.tuple #[]) ∧ w' = w := by
  obtain ⟨j, hj, _⟩ := Option.map_eq_some_iff.1 (show (Tryz.prog.info? 124).map (·.size) = some 2 by kernel_rfl)
  have u1 : Tryz.prog.underlying 122 = some (.pointer 124) := by kernel_rfl
  go_enter Tryz.func137, Tryz.ntmps137
  go_wp2
  rw [Lib.run_neq_ptr_same w _ u1 hj]
  go_wp2
  go_end0
  exact ⟨rfl, rfl⟩

set_option maxHeartbeats 1000000 in
set_option maxRecDepth 100000 in
theorem bld_fresh (b : Nat) (w : World) (h0 : w.cell? ⟨b, 0, none⟩ = some (.pointer none)) (hsh : w.shape? b = some (124, 2)) (hfz : w.frozen? ⟨b, 0, none⟩ = false) :
    Calls Tryz.prog 137 #[.pointer (some ⟨b, 0, none⟩)] w fun e w' => e = .returned (.tuple #[]) ∧ w' = w.setCell ⟨b, 0, none⟩ (.pointer (some ⟨b, 0, none⟩)) := by
  obtain ⟨j, hj, hjs⟩ := Option.map_eq_some_iff.1 (show (Tryz.prog.info? 124).map (·.size) = some 2 by kernel_rfl)
  have hlies : liesAt Tryz.prog Tryz.prog.depth 124 (2 / Tryz.prog.cellsOf 124) 0 124 1 = true := by kernel_rfl
  have u1 : Tryz.prog.underlying 122 = some (.pointer 124) := by kernel_rfl
  have u2 : Tryz.prog.underlying 158 = some .unsafePointer := by kernel_rfl
  go_enter Tryz.func137, Tryz.ntmps137
  go_wp2
  rw [Lib.run_to_unsafe w ⟨b, 0, none⟩ u1 u2 hj (by rw [hjs]; decide) hsh (Nat.zero_lt_succ 1)]
  simp only [Result.andThen]
  rw [Oper.upon_value]
  go_wp2
  rw [run_callFunc_extern Tryz.func160 (by kernel_rfl) (by kernel_rfl) (by kernel_rfl) (e := Extern.AbiNoEscape.same) (by kernel_rfl)]
  rw [Lib.run_noEscape]
  simp only [Result.andThen]
  rw [Oper.upon_value]
  go_wp2
  rw [Lib.run_from_unsafe w ⟨b, 0, none⟩ u2 u1 hj hsh hlies]
  simp only [Result.andThen]
  rw [Oper.upon_value]
  go_wp2
  go_end0
  exact ⟨rfl, rfl⟩

set_option maxHeartbeats 2000000 in
set_option maxRecDepth 100000 in
theorem bld_write (w w1 w2 : World) (b : Nat) (pv v v' v2 : Value) (s : ByteArray) (hb : w.heap[b]? = some (.cells #[pv, v] 124 (0, 0)))
    (hw1 : (pv = .pointer none ∧ w1 = w.setCell ⟨b, 0, none⟩ (.pointer (some ⟨b, 0, none⟩))) ∨ (pv = .pointer (some ⟨b, 0, none⟩) ∧ w1 = w)) (hb1 : w1.heap[b]? = some (.cells #[.pointer (some ⟨b, 0, none⟩), v] 124 (0, 0)))
    (hap : (Builtin.append_ #[22, 9] 22 #[v, .string s]).run Tryz.prog w1 = .ok v' w2) (hb2 : w2.heap[b]? = some (.cells #[.pointer (some ⟨b, 0, none⟩), v2] 124 (0, 0))) (hv : ∃ ao n cp, v = .slice ao n cp) (hv' : ∃ ao n cp, v' = .slice ao n cp) :
    Calls Tryz.prog 108 #[.pointer (some ⟨b, 0, none⟩), .string s] w fun e w' => e = .returned (.tuple #[.int .i64 s.size, .nilIface]) ∧ w' = w2.setCell ⟨b, 1, none⟩ v' := by
  obtain ⟨ao, n', cap, rfl⟩ := hv'
  obtain ⟨ao0, n0, cap0, rfl⟩ := hv
  have e158 : ∀ args w, (callFunc 137 args).run Tryz.prog w = .ok (.enter 137 args) w := fun args w => Go.MuLone.run_callFunc_enter Tryz.func137 (by kernel_rfl) rfl args w
  have hcc : Calls Tryz.prog 137 #[.pointer (some ⟨b, 0, none⟩)] w fun e w' => e = .returned (.tuple #[]) ∧ w' = w1 := by
    rcases hw1 with ⟨rfl, rfl⟩ | ⟨rfl, rfl⟩
    · exact bld_fresh b w (by rw [Lib.cell_of_heap hb]; rfl) (by simp [World.shape?, hb]) (Lib.frozen_of_heap hb 0)
    · exact bld_used b w1 (by rw [Lib.cell_of_heap hb]; rfl)
  have c1 : w1.cell? ⟨b, 1, none⟩ = some (.slice ao0 n0 cap0) := by rw [Lib.cell_of_heap hb1]; rfl
  have d1 : w2.cell? ⟨b, 1, none⟩ = some v2 := by rw [Lib.cell_of_heap hb2]; rfl
  have f1 : w2.frozen? ⟨b, 1, none⟩ = false := Lib.frozen_of_heap hb2 1
  go_enter Tryz.func108, Tryz.ntmps108
  go_wp2_with (go_at_fn 137; refine hcc.mono ?_)
  rintro e w1' ⟨rfl, rfl⟩
  go_wp2_with (at_builtin; refine Lib.wpList_append_run _ rfl _ _ _ _ rfl _ _ rfl rfl _ _ hap ?_)
  go_wp2
  go_ret2
  exact ⟨rfl, rfl⟩

set_option maxHeartbeats 2000000 in
set_option maxRecDepth 100000 in
theorem bld_string_nil (w : World) (b : Nat) (pv : Value) (hb : w.heap[b]? = some (.cells #[pv, .slice none 0 0] 124 (0, 0))) :
    Calls Tryz.prog 110 #[.pointer (some ⟨b, 0, none⟩)] w fun e w' => e = .returned (.string ⟨#[]⟩) ∧ w' = w.drew := by
  have hUS : ∀ (W : World) (q : Option Addr), (Builtin.unsafeString_ #[138, 3] 9 #[.pointer q, .int .i64 0]).run Tryz.prog W = .ok (.string .empty) W := fun W q => Lib.run_unsafeString_none W _ _ _ q
  have c1 : w.drew.cell? ⟨b, 1, none⟩ = some (.slice none 0 0) := by
    have : w.drew.heap[b]? = some (.cells #[pv, .slice none 0 0] 124 (0, 0)) := hb
    rw [Lib.cell_of_heap this]; rfl
  have hSD : (Builtin.unsafeSliceData_ #[22] 138 #[.slice none 0 0]).run Tryz.prog w.drew = .ok (.pointer none) w.drew := rfl
  have mixed : Tryz.prog.follows .mixedOrders = true := mixed
  go_enter Tryz.func110, Tryz.ntmps110
  go_wp2
  go_region_o
  all_goals (go_wp2; go_ret; exact ⟨rfl, rfl⟩)

set_option maxHeartbeats 2000000 in
set_option maxRecDepth 100000 in
theorem bld_string (w : World) (b g cap : Nat) (pv : Value) (cs : Array Value) (l : List UInt8) (hb : w.heap[b]? = some (.cells #[pv, .slice (some ⟨g, 0, none⟩) l.length cap] 124 (0, 0))) (hg : w.heap[g]? = some (.cells cs 5 (0, 0)))
    (hlc : l.length ≤ cs.size) (h63 : l.length ≤ 9223372036854775807) (h0 : l ≠ []) (hcap : cap ≠ 0) (hcell : ∀ (j : Nat) x, l[j]? = some x → cs[j]? = some (.int .u8 x.toNat)) :
    Calls Tryz.prog 110 #[.pointer (some ⟨b, 0, none⟩)] w fun e w' => e = .returned (.string ⟨l.toArray⟩) ∧ w' = w.drew.freeze ⟨g, 0, none⟩ l.length := by
  have c1 : w.drew.cell? ⟨b, 1, none⟩ = some (.slice (some ⟨g, 0, none⟩) l.length cap) := by
    have : w.drew.heap[b]? = some (.cells #[pv, .slice (some ⟨g, 0, none⟩) l.length cap] 124 (0, 0)) := hb
    rw [Lib.cell_of_heap this]; rfl
  have hSD : (Builtin.unsafeSliceData_ #[22] 138 #[.slice (some ⟨g, 0, none⟩) l.length cap]).run Tryz.prog w.drew = .ok (.pointer (some ⟨g, 0, none⟩)) w.drew :=
    Lib.run_unsafeSliceData_row _ _ _ _ _ _ hcap
  have hUS : (Builtin.unsafeString_ #[138, 3] 9 #[.pointer (some ⟨g, 0, none⟩), .int .i64 l.length]).run Tryz.prog w.drew = .ok (.string ⟨l.toArray⟩) (w.drew.freeze ⟨g, 0, none⟩ l.length) := by
    have hg' : w.drew.heap[g]? = some (.cells cs 5 (0, 0)) := hg
    refine Lib.run_unsafeString_row w.drew 138 3 9 5 (by kernel_rfl) (by kernel_rfl) g cs.size (by simp [World.shape?, hg']) l h0 hlc h63 ?_
    intro j x hx
    rw [Addr.add_lit]
    simp only [Nat.zero_add]
    rw [World.cell_of hg']
    exact hcell j x hx
  have mixed : Tryz.prog.follows .mixedOrders = true := mixed
  clear hcap hcell h0
  go_enter Tryz.func110, Tryz.ntmps110
  go_wp2
  go_region_o
  all_goals (go_wp2; go_ret; exact ⟨rfl, rfl⟩)
set_option maxHeartbeats 2000000 in
set_option maxRecDepth 100000 in
theorem bld_string_room (w : World) (b g cap : Nat) (pv : Value) (hb : w.heap[b]? = some (.cells #[pv, .slice (some ⟨g, 0, none⟩) 0 cap] 124 (0, 0))) (hcap : cap ≠ 0) :
    Calls Tryz.prog 110 #[.pointer (some ⟨b, 0, none⟩)] w fun e w' => e = .returned (.string ⟨#[]⟩) ∧ w' = w.drew := by
  have hUS : ∀ (W : World) (q : Option Addr), (Builtin.unsafeString_ #[138, 3] 9 #[.pointer q, .int .i64 0]).run Tryz.prog W = .ok (.string .empty) W := fun W q => Lib.run_unsafeString_none W _ _ _ q
  have c1 : w.drew.cell? ⟨b, 1, none⟩ = some (.slice (some ⟨g, 0, none⟩) 0 cap) := by
    have : w.drew.heap[b]? = some (.cells #[pv, .slice (some ⟨g, 0, none⟩) 0 cap] 124 (0, 0)) := hb
    rw [Lib.cell_of_heap this]; rfl
  have hSD : (Builtin.unsafeSliceData_ #[22] 138 #[.slice (some ⟨g, 0, none⟩) 0 cap]).run Tryz.prog w.drew = .ok (.pointer (some ⟨g, 0, none⟩)) w.drew :=
    Lib.run_unsafeSliceData_row _ _ _ _ _ _ hcap
  have mixed : Tryz.prog.follows .mixedOrders = true := mixed
  clear hcap
  go_enter Tryz.func110, Tryz.ntmps110
  go_wp2
  go_region_o
  all_goals (go_wp2; go_ret; exact ⟨rfl, rfl⟩)

set_option maxHeartbeats 2000000 in
set_option maxRecDepth 100000 in
theorem bld_string_noroom (w : World) (b g : Nat) (pv : Value) (cs : Array Value) (hb : w.heap[b]? = some (.cells #[pv, .slice (some ⟨g, 0, none⟩) 0 0] 124 (0, 0))) (hg : w.heap[g]? = some (.cells cs 5 (0, 0))) :
    Calls Tryz.prog 110 #[.pointer (some ⟨b, 0, none⟩)] w fun e w' => e = .returned (.string ⟨#[]⟩) ∧ (w' = w.drew.alloc (.view ⟨g, 0, none⟩ 5) ∨ w' = (w.alloc (.view ⟨g, 0, none⟩ 5)).drew) := by
  have hUS : ∀ (W : World) (q : Option Addr), (Builtin.unsafeString_ #[138, 3] 9 #[.pointer q, .int .i64 0]).run Tryz.prog W = .ok (.string .empty) W := fun W q => Lib.run_unsafeString_none W _ _ _ q
  have hlt : b < w.heap.size := by
    rcases Nat.lt_or_ge b w.heap.size with h' | h'
    · exact h'
    · simp [Array.getElem?_eq_none h'] at hb
  have c1 : w.drew.cell? ⟨b, 1, none⟩ = some (.slice (some ⟨g, 0, none⟩) 0 0) := by
    have : w.drew.heap[b]? = some (.cells #[pv, .slice (some ⟨g, 0, none⟩) 0 0] 124 (0, 0)) := hb
    rw [Lib.cell_of_heap this]; rfl
  have hSD : (Builtin.unsafeSliceData_ #[22] 138 #[.slice (some ⟨g, 0, none⟩) 0 0]).run Tryz.prog w.drew = .ok (.pointer (some ⟨w.drew.heap.size, 0, none⟩)) (w.drew.alloc (.view ⟨g, 0, none⟩ 5)) :=
    Lib.run_unsafeSliceData_zero w.drew _ _ 5 (by kernel_rfl) ⟨g, 0, none⟩ 0 (5, cs.size) (by have hg' : w.drew.heap[g]? = some (.cells cs 5 (0, 0)) := hg; simp [World.shape?, hg'])
  have c2 : (w.drew.alloc (.view ⟨g, 0, none⟩ 5)).cell? ⟨b, 1, none⟩ = some (.slice (some ⟨g, 0, none⟩) 0 0) := by
    have : (w.drew.alloc (.view ⟨g, 0, none⟩ 5)).heap[b]? = _ := (Lib.alloc_old w.drew _ b hlt).trans hb
    rw [Lib.cell_of_heap this]; rfl
  have c3 : (w.alloc (.view ⟨g, 0, none⟩ 5)).drew.cell? ⟨b, 1, none⟩ = some (.slice (some ⟨g, 0, none⟩) 0 0) := c2
  have c0 : w.cell? ⟨b, 1, none⟩ = some (.slice (some ⟨g, 0, none⟩) 0 0) := c1
  have mixed : Tryz.prog.follows .mixedOrders = true := mixed
  go_enter Tryz.func110, Tryz.ntmps110
  go_wp2
  go_region_o
  all_goals (go_wp2; go_ret; exact ⟨rfl, by first | exact .inl rfl | exact .inr rfl⟩)

end Vx
end Go.Proofs.YthmhaggmcfemnaaGreatDoor
/-
  Data of the program's types: numbers, branches, commits, repositories. (Printed by enc.py.)
-/
namespace Go.Proofs.YthmhaggmcfemnaaGreatDoor
namespace Vx

def eInt (n : Int) : List D := [.int .i64 n]
@[simp] theorem eInt_inj (a b : Int) : (eInt a = eInt b) = (a = b) := by simp [eInt]
def eInts (l : List Int) : List (List D) := l.map eInt
@[simp] theorem eInts_length (l : List Int) : (eInts l).length = l.length := by simp [eInts]
@[simp] theorem eInts_nil : eInts [] = [] := rfl
@[simp] theorem eInts_get (l : List Int) (i : Nat) : (eInts l)[i]? = l[i]?.map eInt := by simp [eInts]
@[simp] theorem eInts_getElem (l : List Int) (i : Nat) (h : i < (eInts l).length) : (eInts l)[i] = eInt (l[i]'(by simpa using h)) := by simp [eInts]
@[simp] theorem eInts_inj (a b : List Int) : (eInts a = eInts b) = (a = b) := by
  apply propext
  constructor
  · intro h
    exact List.map_inj_right (fun x y h => by simpa using h) |>.1 h
  · rintro rfl; rfl
@[simp] theorem eInts_eq_nil (a : List Int) : (eInts a = []) = (a = []) := by simp [eInts]
@[simp] theorem nil_eq_eInts (a : List Int) : ([] = eInts a) = (a = []) := by simp [eInts, eq_comm]
theorem eInts_append (a b : List Int) : eInts (a ++ b) = eInts a ++ eInts b := by simp [eInts]
theorem eInts_take (l : List Int) (i : Nat) : (eInts l).take i = eInts (l.take i) := by simp [eInts]
theorem eInts_drop (l : List Int) (i : Nat) : (eInts l).drop i = eInts (l.drop i) := by simp [eInts]
theorem eInts_snoc (a : List Int) (n : Int) : eInts a ++ [[.int .i64 n]] = eInts (a ++ [n]) := by simp [eInts, eInt]
theorem eInts_set (l : List Int) (i : Nat) (n : Int) : (eInts l).set i [.int .i64 n] = eInts (l.set i n) := by simp [eInts, List.map_set, eInt]
theorem eInts_rep (n : Nat) : List.replicate n [D.int .i64 0] = eInts (List.replicate n 0) := by simp [eInts, eInt]
@[simp] theorem eInts_flat (l : List Int) : (∀ x ∈ eInts l, ∀ d ∈ x, flatD d) = True := by
  simp only [eq_iff_iff, iff_true]
  intro x hx d hd
  simp only [eInts, List.mem_map] at hx
  obtain ⟨s, _, rfl⟩ := hx
  simp only [eInt, List.mem_singleton] at hd
  subst hd
  trivial

structure HeadD where
  name : Str
  at_ : Int
  deriving DecidableEq, Inhabited

def eHead (a : HeadD) : List D := [.str a.name, .int .i64 a.at_]
@[simp] theorem eHead_inj (a b : HeadD) : (eHead a = eHead b) = (a = b) := by
  cases a; cases b; simp [eHead]
@[simp] theorem HeadD.eta (a : HeadD) : (⟨a.name, a.at_⟩ : HeadD) = a := rfl
theorem HeadD.eq_iff (a b : HeadD) : (a = b) = (a.name = b.name ∧ a.at_ = b.at_) := by
  cases a; cases b; simp
@[simp] theorem HeadD.ex1 (x_name : Str) (x_at_ : Int) (Q : HeadD → Prop) : (∃ a : HeadD, a.name = x_name ∧ a.at_ = x_at_ ∧ Q a) = Q ⟨x_name, x_at_⟩ := by
  apply propext
  constructor
  · rintro ⟨⟨_, _⟩, rfl, rfl, h⟩; exact h
  · intro h; exact ⟨⟨x_name, x_at_⟩, rfl, rfl, h⟩
@[simp] theorem HeadD.ex2 (x_name : Str) (x_at_ : Int) (Q : HeadD → Prop) : (∃ a : HeadD, (a.name = x_name ∧ a.at_ = x_at_) ∧ Q a) = Q ⟨x_name, x_at_⟩ := by
  apply propext
  constructor
  · rintro ⟨⟨_, _⟩, ⟨rfl, rfl⟩, h⟩; exact h
  · intro h; exact ⟨⟨x_name, x_at_⟩, ⟨rfl, rfl⟩, h⟩
@[simp] theorem HeadD.ex0 (x_name : Str) (x_at_ : Int) : (∃ a : HeadD, a.name = x_name ∧ a.at_ = x_at_) = True := by
  simp only [eq_iff_iff, iff_true]
  exact ⟨⟨x_name, x_at_⟩, rfl, rfl⟩
def eHeads (l : List HeadD) : List (List D) := l.map eHead
@[simp] theorem eHeads_length (l : List HeadD) : (eHeads l).length = l.length := by simp [eHeads]
@[simp] theorem eHeads_nil : eHeads [] = [] := rfl
@[simp] theorem eHeads_get (l : List HeadD) (i : Nat) : (eHeads l)[i]? = l[i]?.map eHead := by simp [eHeads]
@[simp] theorem eHeads_getElem (l : List HeadD) (i : Nat) (h : i < (eHeads l).length) : (eHeads l)[i] = eHead (l[i]'(by simpa using h)) := by simp [eHeads]
@[simp] theorem eHeads_inj (a b : List HeadD) : (eHeads a = eHeads b) = (a = b) := by
  apply propext
  constructor
  · intro h
    exact List.map_inj_right (fun x y h => by simpa using h) |>.1 h
  · rintro rfl; rfl
@[simp] theorem eHeads_eq_nil (a : List HeadD) : (eHeads a = []) = (a = []) := by simp [eHeads]
@[simp] theorem nil_eq_eHeads (a : List HeadD) : ([] = eHeads a) = (a = []) := by simp [eHeads, eq_comm]
theorem eHeads_append (a b : List HeadD) : eHeads (a ++ b) = eHeads a ++ eHeads b := by simp [eHeads]
theorem eHeads_take (l : List HeadD) (i : Nat) : (eHeads l).take i = eHeads (l.take i) := by simp [eHeads]
theorem eHeads_drop (l : List HeadD) (i : Nat) : (eHeads l).drop i = eHeads (l.drop i) := by simp [eHeads]
theorem eHeads_snoc (a : List HeadD) (s : Str) (n : Int) : eHeads a ++ [[.str s, .int .i64 n]] = eHeads (a ++ [⟨s, n⟩]) := by simp [eHeads, eHead]
theorem eHeads_set (l : List HeadD) (i : Nat) (s : Str) (n : Int) : (eHeads l).set i [.str s, .int .i64 n] = eHeads (l.set i ⟨s, n⟩) := by simp [eHeads, List.map_set, eHead]
theorem eHeads_rep (n : Nat) : List.replicate n [D.str [], D.int .i64 0] = eHeads (List.replicate n ⟨[], 0⟩) := by simp [eHeads, eHead]
@[simp] theorem eHeads_flat (l : List HeadD) : (∀ x ∈ eHeads l, ∀ d ∈ x, flatD d) = True := by
  simp only [eq_iff_iff, iff_true]
  intro x hx d hd
  simp only [eHeads, List.mem_map] at hx
  obtain ⟨s, _, rfl⟩ := hx
  simp only [eHead, List.mem_cons, List.not_mem_nil, or_false] at hd
  rcases hd with rfl | rfl <;> trivial

structure CommitD where
  parents : List Int
  who : Str
  tree : List FileD
  deriving DecidableEq, Inhabited

def eCommit (a : CommitD) : List D := [.sl 3 1 (eInts a.parents), .str a.who, .sl 106 2 (eFiles a.tree)]
@[simp] theorem eCommit_inj (a b : CommitD) : (eCommit a = eCommit b) = (a = b) := by
  cases a; cases b; simp [eCommit]
@[simp] theorem CommitD.eta (a : CommitD) : (⟨a.parents, a.who, a.tree⟩ : CommitD) = a := rfl
theorem CommitD.eq_iff (a b : CommitD) : (a = b) = (a.parents = b.parents ∧ a.who = b.who ∧ a.tree = b.tree) := by
  cases a; cases b; simp
@[simp] theorem CommitD.ex1 (x_parents : List Int) (x_who : Str) (x_tree : List FileD) (Q : CommitD → Prop) : (∃ a : CommitD, a.parents = x_parents ∧ a.who = x_who ∧ a.tree = x_tree ∧ Q a) = Q ⟨x_parents, x_who, x_tree⟩ := by
  apply propext
  constructor
  · rintro ⟨⟨_, _, _⟩, rfl, rfl, rfl, h⟩; exact h
  · intro h; exact ⟨⟨x_parents, x_who, x_tree⟩, rfl, rfl, rfl, h⟩
@[simp] theorem CommitD.ex2 (x_parents : List Int) (x_who : Str) (x_tree : List FileD) (Q : CommitD → Prop) : (∃ a : CommitD, (a.parents = x_parents ∧ a.who = x_who ∧ a.tree = x_tree) ∧ Q a) = Q ⟨x_parents, x_who, x_tree⟩ := by
  apply propext
  constructor
  · rintro ⟨⟨_, _, _⟩, ⟨rfl, rfl, rfl⟩, h⟩; exact h
  · intro h; exact ⟨⟨x_parents, x_who, x_tree⟩, ⟨rfl, rfl, rfl⟩, h⟩
@[simp] theorem CommitD.ex0 (x_parents : List Int) (x_who : Str) (x_tree : List FileD) : (∃ a : CommitD, a.parents = x_parents ∧ a.who = x_who ∧ a.tree = x_tree) = True := by
  simp only [eq_iff_iff, iff_true]
  exact ⟨⟨x_parents, x_who, x_tree⟩, rfl, rfl, rfl⟩
def eCommits (l : List CommitD) : List (List D) := l.map eCommit
@[simp] theorem eCommits_length (l : List CommitD) : (eCommits l).length = l.length := by simp [eCommits]
@[simp] theorem eCommits_nil : eCommits [] = [] := rfl
@[simp] theorem eCommits_get (l : List CommitD) (i : Nat) : (eCommits l)[i]? = l[i]?.map eCommit := by simp [eCommits]
@[simp] theorem eCommits_getElem (l : List CommitD) (i : Nat) (h : i < (eCommits l).length) : (eCommits l)[i] = eCommit (l[i]'(by simpa using h)) := by simp [eCommits]
@[simp] theorem eCommits_inj (a b : List CommitD) : (eCommits a = eCommits b) = (a = b) := by
  apply propext
  constructor
  · intro h
    exact List.map_inj_right (fun x y h => by simpa using h) |>.1 h
  · rintro rfl; rfl
@[simp] theorem eCommits_eq_nil (a : List CommitD) : (eCommits a = []) = (a = []) := by simp [eCommits]
@[simp] theorem nil_eq_eCommits (a : List CommitD) : ([] = eCommits a) = (a = []) := by simp [eCommits, eq_comm]
theorem eCommits_append (a b : List CommitD) : eCommits (a ++ b) = eCommits a ++ eCommits b := by simp [eCommits]
theorem eCommits_take (l : List CommitD) (i : Nat) : (eCommits l).take i = eCommits (l.take i) := by simp [eCommits]
theorem eCommits_drop (l : List CommitD) (i : Nat) : (eCommits l).drop i = eCommits (l.drop i) := by simp [eCommits]
theorem eCommits_snoc (a : List CommitD) (p : List Int) (w : Str) (t : List FileD) : eCommits a ++ [[.sl 3 1 (eInts p), .str w, .sl 106 2 (eFiles t)]] = eCommits (a ++ [⟨p, w, t⟩]) := by simp [eCommits, eCommit]
theorem eCommits_set (l : List CommitD) (i : Nat) (p : List Int) (w : Str) (t : List FileD) : (eCommits l).set i [.sl 3 1 (eInts p), .str w, .sl 106 2 (eFiles t)] = eCommits (l.set i ⟨p, w, t⟩) := by simp [eCommits, List.map_set, eCommit]
theorem eCommits_rep (n : Nat) : List.replicate n [D.sl 3 1 [], D.str [], D.sl 106 2 []] = eCommits (List.replicate n ⟨[], [], []⟩) := by simp [eCommits, eCommit]

structure RepoD where
  commits : List CommitD
  heads : List HeadD
  deriving DecidableEq, Inhabited

def eRepo (a : RepoD) : List D := [.sl 38 3 (eCommits a.commits), .sl 47 2 (eHeads a.heads)]
@[simp] theorem eRepo_inj (a b : RepoD) : (eRepo a = eRepo b) = (a = b) := by
  cases a; cases b; simp [eRepo]
@[simp] theorem RepoD.eta (a : RepoD) : (⟨a.commits, a.heads⟩ : RepoD) = a := rfl
theorem RepoD.eq_iff (a b : RepoD) : (a = b) = (a.commits = b.commits ∧ a.heads = b.heads) := by
  cases a; cases b; simp
@[simp] theorem RepoD.ex1 (x_commits : List CommitD) (x_heads : List HeadD) (Q : RepoD → Prop) : (∃ a : RepoD, a.commits = x_commits ∧ a.heads = x_heads ∧ Q a) = Q ⟨x_commits, x_heads⟩ := by
  apply propext
  constructor
  · rintro ⟨⟨_, _⟩, rfl, rfl, h⟩; exact h
  · intro h; exact ⟨⟨x_commits, x_heads⟩, rfl, rfl, h⟩
@[simp] theorem RepoD.ex2 (x_commits : List CommitD) (x_heads : List HeadD) (Q : RepoD → Prop) : (∃ a : RepoD, (a.commits = x_commits ∧ a.heads = x_heads) ∧ Q a) = Q ⟨x_commits, x_heads⟩ := by
  apply propext
  constructor
  · rintro ⟨⟨_, _⟩, ⟨rfl, rfl⟩, h⟩; exact h
  · intro h; exact ⟨⟨x_commits, x_heads⟩, ⟨rfl, rfl⟩, h⟩
@[simp] theorem RepoD.ex0 (x_commits : List CommitD) (x_heads : List HeadD) : (∃ a : RepoD, a.commits = x_commits ∧ a.heads = x_heads) = True := by
  simp only [eq_iff_iff, iff_true]
  exact ⟨⟨x_commits, x_heads⟩, rfl, rfl⟩
abbrev vRepo (r : RepoD) : AV := .agg [.sl true 3 (eCommits r.commits), .sl true 2 (eHeads r.heads)]
abbrev ownInts (h : Nat) (a : List Int) : List (Nat × Blk) := [(h, .own 3 1 true (eInts a))]
abbrev ownHeads (h : Nat) (a : List HeadD) : List (Nat × Blk) := [(h, .own 47 2 true (eHeads a))]
abbrev ownCommits (h : Nat) (a : List CommitD) : List (Nat × Blk) := [(h, .own 38 3 true (eCommits a))]

end Vx
end Go.Proofs.YthmhaggmcfemnaaGreatDoor
/-
  Contracts: draws (l30Open, pick, of, one).
-/
namespace Go.Proofs.YthmhaggmcfemnaaGreatDoor
namespace Vx
open Go.RowKit
set_option maxRecDepth 8000

def eByte (b : UInt8) : List D := [.int .u8 b.toNat]
def eBytes (s : Str) : List (List D) := s.map eByte
@[simp] theorem eBytes_length (l : Str) : (eBytes l).length = l.length := by simp -implicitDefEqProofs [eBytes]
@[simp] theorem eBytes_get (l : Str) (i : Nat) : (eBytes l)[i]? = l[i]?.map eByte := by simp -implicitDefEqProofs [eBytes]
theorem eBytes_take (l : Str) (i : Nat) : (eBytes l).take i = eBytes (l.take i) := by simp -implicitDefEqProofs [eBytes]
@[simp] theorem eByte_inj (a b : UInt8) : (eByte a = eByte b) = (a = b) := by
  simp only [eByte, List.cons.injEq, D.int.injEq, true_and, and_true, eq_iff_iff]
  constructor
  · intro h; exact UInt8.toNat_inj.1 (by omega)
  · rintro rfl; rfl
@[simp] theorem eBytes_inj (a b : Str) : (eBytes a = eBytes b) = (a = b) := by
  apply propext
  constructor
  · intro h
    exact List.map_inj_right (fun x y h => by simpa using h) |>.1 h
  · rintro rfl; rfl
@[simp] theorem eBytes_all (l : Str) (f : List D → Bool) : (eBytes l).all f = l.all fun b => f (eByte b) := by simp -implicitDefEqProofs [eBytes, Function.comp_def]
theorem all_true (l : Str) : (l.all fun _ => true) = true := by simp
abbrev rdBox (s : Str) (p : Int) : Blk := .box 103 [.sl true 1 (eBytes s), .int .i64 p]

def cL30Open : Con := .fn 11 Str (fun s => [.sl true 1 (eBytes s)]) (fun _ => True) (fun _ => .ptr 8 0) (fun s => [(8, rdBox (s.take 2000) 0)])
set_option maxHeartbeats 4000000 in
theorem l30Open_has : Has Tryz.prog 42 cL30Open := by
  refine has_walk mixed tTab_ok (l := []) HasL.nil [0, 2] ((fun a n (_ : Nat) => (fun _ => noInv) a n)) [] Tryz.func42 (by kernel_rfl) (code := _) (by unfold Tryz.f42; rfl) (by kernel_rfl) (by decide) (fun _ => ⟨(), trivial⟩) (by intro h; first | exact fun _ => rfl | cases h) (by kernel_rfl) ?_
  intro (s : Str) _
  simp -implicitDefEqProofs [vc_skip, extOf, vc_seq, vc_cond, vc_block, vc_exit, vc_ret, vc_region, vc_regionD, vc_loop, kSeq_normal, kSeq_ret, kSeq_exit, kBlock_normal, kBlock_ret, kBlock_exit, kLoop_normal, kLoop_ret, kLoop_exit, kCond_bool, kNorm_app, vcOps_nil, vcOps_cons, kOps_app, kStep_some, kStep_none, vcDL_nil, vcDL_cons, kOpsD_app, kStepD_true, kStepD_tt, kStepD_false, ldB, btys, btyAct, kStepC_some, kStepC_none, kMv_app, act3_store, act3_call, act3_bs, kAct_app, kSt2_app, stealSlots, stealL, stealOne, subIn, AV.stolen, act_store, act_bs, act_append, act_call, kSet_app, kSet2_app, kSetG_app, kSetG_app0, kStore_ptr, kStore_eptr, kCallW_some, kCallC_some, kCall_some, wk_T, wk_n, wk_keep, wk_inv, wk_act, wk_dr, wk_le, aCalm, wantC, dstOk, calm, aCallK, aCall3K, subOf, subRep, aCall2K, apnd, bsMove, putBox, putOwn, partAV, mvL, AV.mv, AV.base, AV.moved, kBld, bldK, wrK, stK, AV.selfOk, AV.src, TI.flat, apSize, pickAV, St.val, St.cond, St.fn, St.next, St.set, St.trim, wipe_eq, wipeE_app, wipeM_app, pickEnv, get?, cGet, upd_app, withPuts, killAll, rm, freshP, Oper.hnd, Sc.st, ofConst, constOk, lenAV, elemLen, loadAV, ldL, ld1, fieldAddrAV, indexAddrAV, sliceAV, convAV, buildAV, fillAV, fieldAV, Out.of, binAV, AV.rows, AV.one, AV.cells, AV.deepOk, AV.toD, toDs, partRows, partRowsM, partsDeep, TK.zeroAV, TK.zeroD, byteOf, inR, Op.operands, Call.operands, passVs, passV, passL, pass1, passB, pasVs, pasV, pasL, pas1, ownsOk, okHs, okHs2, okFin, finOk2, rho, over, backRes, backAV, backAV1, backBlk, putBack, back2, back2_V, back2_1, m2, AV.wipe, AV.wipeV, AV.wipe1, Blk.wipe, AV.hs, AV.hs.hsL, alOps, Con.start2, Con.pk, bodyQ, fini, resAV, resA, firstId, Sc.from, renEnv, renT, renV, renVs, renL, ren1, renBox, renOwn, okRen, clOf, actB, setRow, flatRows, flatD, noInv, shr_nil, shr_some, kStepF_some, shareL, AV.viewed, AV.viewed1, cL30Open, Con.fn, tTab, eBytes_take]
  exact fun _ => ⟨fun h => by omega, fun h => List.take_of_length_le (by omega)⟩

theorem xor_nn {a b : Int} (h1 : 0 ≤ a) (h2 : a < 4611686018427387904) (h3 : 0 ≤ b) (h4 : b < 4611686018427387904) : 0 ≤ bitOp .xor .i64 a b := by
  unfold bitOp
  simp only []
  rw [BitVec.toNat_xor, BitVec.toNat_ofInt, BitVec.toNat_ofInt]
  have e1 : (a % ((2 ^ (IntKind.i64).bits : Nat) : Int)).toNat < 2 ^ 62 := by
    have : a % ((2 ^ (IntKind.i64).bits : Nat) : Int) = a := Int.emod_eq_of_lt h1 (by show a < (((2 : Nat) ^ 64 : Nat) : Int); omega)
    rw [this]; omega
  have e2 : (b % ((2 ^ (IntKind.i64).bits : Nat) : Int)).toNat < 2 ^ 62 := by
    have : b % ((2 ^ (IntKind.i64).bits : Nat) : Int) = b := Int.emod_eq_of_lt h3 (by show b < (((2 : Nat) ^ 64 : Nat) : Int); omega)
    rw [this]; omega
  have e3 := Nat.xor_lt_two_pow e1 e2
  rw [wrap_inR (by simp only [inR]; omega)]
  omega
def cPick : Con := { A := (Str × Int) × Int, X := Int, n := 99, args := fun a => [.ptr 0 0, .int .i64 a.2], boxes := fun a => [(0, 103, [.sl true 1 (eBytes a.1.1), .int .i64 a.1.2])], pre := fun a => a.1.1.length ≤ 2000 ∧ 0 ≤ a.1.2 ∧ a.1.2 ≤ 1073741824 ∧ a.2 ≤ 1073741824, post := fun a x => (a.2 < 1 → x = 0) ∧ (1 ≤ a.2 → 0 ≤ x ∧ x < a.2), res := fun _ x => .int .i64 x, fin := fun a _ => [(0, rdBox a.1.1 (a.1.2 + 1))], nob := false }
set_option maxHeartbeats 4000000 in
theorem pick_has : Has Tryz.prog 87 cPick := by
  refine has_walk mixed tTab_ok (l := []) HasL.nil [0, 1, 4, 5, 6] ((fun a n (_ : Nat) => (fun _ => noInv) a n)) [] Tryz.func87 (by kernel_rfl) (code := _) (by unfold Tryz.f87; rfl) (by kernel_rfl) (by decide) (fun a => ⟨(0 : Int), fun _ => rfl, fun h => ⟨Int.le_refl 0, by omega⟩⟩) (by intro h; first | exact fun _ => rfl | cases h) (by kernel_rfl) ?_
  intro a ha
  obtain ⟨⟨s, p⟩, n⟩ := a
  obtain ⟨h1, h2, h3, h4⟩ : s.length ≤ 2000 ∧ 0 ≤ p ∧ p ≤ 1073741824 ∧ n ≤ 1073741824 := ha
  simp -implicitDefEqProofs [vc_skip, extOf, vc_seq, vc_cond, vc_block, vc_exit, vc_ret, vc_region, vc_regionD, vc_loop, kSeq_normal, kSeq_ret, kSeq_exit, kBlock_normal, kBlock_ret, kBlock_exit, kLoop_normal, kLoop_ret, kLoop_exit, kCond_bool, kNorm_app, vcOps_nil, vcOps_cons, kOps_app, kStep_some, kStep_none, vcDL_nil, vcDL_cons, kOpsD_app, kStepD_true, kStepD_tt, kStepD_false, ldB, btys, btyAct, kStepC_some, kStepC_none, kMv_app, act3_store, act3_call, act3_bs, kAct_app, kSt2_app, stealSlots, stealL, stealOne, subIn, AV.stolen, act_store, act_bs, act_append, act_call, kSet_app, kSet2_app, kSetG_app, kSetG_app0, kStore_ptr, kStore_eptr, kCallW_some, kCallC_some, kCall_some, wk_T, wk_n, wk_keep, wk_inv, wk_act, wk_dr, wk_le, aCalm, wantC, dstOk, calm, aCallK, aCall3K, subOf, subRep, aCall2K, apnd, bsMove, putBox, putOwn, partAV, mvL, AV.mv, AV.base, AV.moved, kBld, bldK, wrK, stK, AV.selfOk, AV.src, TI.flat, apSize, pickAV, St.val, St.cond, St.fn, St.next, St.set, St.trim, wipe_eq, wipeE_app, wipeM_app, pickEnv, get?, cGet, upd_app, withPuts, killAll, rm, freshP, Oper.hnd, Sc.st, ofConst, constOk, lenAV, elemLen, loadAV, ldL, ld1, fieldAddrAV, indexAddrAV, sliceAV, convAV, buildAV, fillAV, fieldAV, Out.of, binAV, AV.rows, AV.one, AV.cells, AV.deepOk, AV.toD, toDs, partRows, partRowsM, partsDeep, TK.zeroAV, TK.zeroD, byteOf, inR, Op.operands, Call.operands, passVs, passV, passL, pass1, passB, pasVs, pasV, pasL, pas1, ownsOk, okHs, okHs2, okFin, finOk2, rho, over, backRes, backAV, backAV1, backBlk, putBack, back2, back2_V, back2_1, m2, AV.wipe, AV.wipeV, AV.wipe1, Blk.wipe, AV.hs, AV.hs.hsL, alOps, Con.start2, Con.pk, bodyQ, fini, resAV, resA, firstId, Sc.from, renEnv, renT, renV, renVs, renL, ren1, renBox, renOwn, okRen, clOf, actB, setRow, flatRows, flatD, noInv, shr_nil, shr_some, kStepF_some, shareL, AV.viewed, AV.viewed1, cPick, tTab]
  have e : ∀ q : Int, 0 ≤ q → q < s.length → ∃ b : Nat, b < 256 ∧ Option.map eByte s[q.toNat]? = some [.int .u8 b] := fun q a b => by
    have hq : q.toNat < s.length := by omega
    exact ⟨s[q.toNat].toNat, s[q.toNat].toNat_lt, by simp -implicitDefEqProofs [List.getElem?_eq_getElem hq, eByte]⟩
  refine ⟨by omega, fun _ _ => ⟨fun a b => by omega, fun hn _ => ⟨fun _ _ => by omega, fun hs => ⟨by omega, fun _ _ _ => ⟨fun hp => ?_, fun hp => ?_⟩⟩⟩⟩⟩
  · obtain ⟨b, hb, eb⟩ := e p h2 hp
    have t1 := Int.tmod_nonneg n (a := (b : Int)) (by omega)
    have t2 := Int.tmod_lt_of_pos (b : Int) (b := n) (by omega)
    simp -implicitDefEqProofs [eb]
    omega
  · have hl : 0 < s.length := List.length_pos_iff.2 hs
    have hL : (0 : Int) < (s.length : Int) := by omega
    have t1 := Int.tmod_nonneg (s.length : Int) (a := p) h2
    have t2 := Int.tmod_lt_of_pos p hL
    have t3 := Int.tmod_nonneg (s.length : Int) (a := p * 7 + 3) (by omega)
    have t4 := Int.tmod_lt_of_pos (p * 7 + 3) hL
    have t5 := Int.tdiv_nonneg h2 (Int.le_of_lt hL)
    have t6 : p.tdiv (s.length : Int) ≤ p := by
      have := Int.natAbs_tdiv_le_natAbs p (s.length : Int)
      omega
    obtain ⟨b1, hb1, eb1⟩ := e _ t1 t2
    obtain ⟨b2, hb2, eb2⟩ := e _ t3 t4
    simp -implicitDefEqProofs [eb1, eb2]
    generalize p.tdiv (s.length : Int) = d at t5 t6 ⊢
    generalize p.tmod (s.length : Int) = m1 at t1 t2 ⊢
    generalize (p * 7 + 3).tmod (s.length : Int) = m2 at t3 t4 ⊢
    have t7 := Int.tdiv_nonneg (a := (b1 * 131 + b2 * 1117 + p * 29 + d * 53 : Int)) (b := 64) (by omega) (by omega)
    have t8 : (b1 * 131 + b2 * 1117 + p * 29 + d * 53 : Int).tdiv 64 ≤ b1 * 131 + b2 * 1117 + p * 29 + d * 53 := by
      have := Int.natAbs_tdiv_le_natAbs (b1 * 131 + b2 * 1117 + p * 29 + d * 53 : Int) 64
      omega
    have t9 := xor_nn (a := (b1 * 131 + b2 * 1117 + p * 29 + d * 53 : Int)) (b := (b1 * 131 + b2 * 1117 + p * 29 + d * 53 : Int).tdiv 64) (by omega) (by omega) (by omega) (by omega)
    generalize (b1 * 131 + b2 * 1117 + p * 29 + d * 53 : Int).tdiv 64 = y at t7 t8 t9 ⊢
    generalize bitOp .xor .i64 (b1 * 131 + b2 * 1117 + p * 29 + d * 53 : Int) y = z at t9 ⊢
    have t10 := Int.tmod_nonneg n t9
    have t11 := Int.tmod_lt_of_pos z (b := n) (by omega)
    clear e eb1 eb2
    repeat' (first | intro _ | apply And.intro)
    all_goals first | omega | assumption | contradiction

theorem headD_mem {α : Type} {d : α} {l : List α} (h : l ≠ []) : l.headD d ∈ l := by
  cases l with
  | nil => exact absurd rfl h
  | cons x r => simp
def cOf : Con := { A := (Str × Int) × List Str, X := Str, n := 12, args := fun a => [.ptr 0 0, .sl true 1 (eStrs a.2)], boxes := fun a => [(0, 103, [.sl true 1 (eBytes a.1.1), .int .i64 a.1.2])], pre := fun a => a.1.1.length ≤ 2000 ∧ 0 ≤ a.1.2 ∧ a.1.2 ≤ 1073741824 ∧ a.2 ≠ [] ∧ a.2.length ≤ 1073741824, post := fun a x => a.2 ≠ [] → x ∈ a.2, res := fun _ x => .str x, fin := fun a _ => [(0, rdBox a.1.1 (a.1.2 + 1))], nob := false, kindly := true }
set_option maxHeartbeats 4000000 in
theorem of_has : Has Tryz.prog 44 cOf := by
  refine has_walk mixed tTab_ok (l := [(87, cPick)]) (HasL.cons pick_has HasL.nil) [0, 1, 4] ((fun a n (_ : Nat) => (fun _ => noInv) a n)) [] Tryz.func44 (by kernel_rfl) (code := _) (by unfold Tryz.f44; rfl) (by kernel_rfl) (by decide) (fun a => ⟨a.2.headD [], fun h => headD_mem h⟩) (by intro h; first | exact fun _ => rfl | cases h) (by kernel_rfl) ?_
  intro a ha
  obtain ⟨⟨s, p⟩, l⟩ := a
  obtain ⟨h1, h2, h3, h4, h5⟩ : s.length ≤ 2000 ∧ 0 ≤ p ∧ p ≤ 1073741824 ∧ l ≠ [] ∧ l.length ≤ 1073741824 := ha
  have hl : 0 < l.length := List.length_pos_iff.2 h4
  simp -implicitDefEqProofs [vc_skip, extOf, vc_seq, vc_cond, vc_block, vc_exit, vc_ret, vc_region, vc_regionD, vc_loop, kSeq_normal, kSeq_ret, kSeq_exit, kBlock_normal, kBlock_ret, kBlock_exit, kLoop_normal, kLoop_ret, kLoop_exit, kCond_bool, kNorm_app, vcOps_nil, vcOps_cons, kOps_app, kStep_some, kStep_none, vcDL_nil, vcDL_cons, kOpsD_app, kStepD_true, kStepD_tt, kStepD_false, ldB, btys, btyAct, kStepC_some, kStepC_none, kMv_app, act3_store, act3_call, act3_bs, kAct_app, kSt2_app, stealSlots, stealL, stealOne, subIn, AV.stolen, act_store, act_bs, act_append, act_call, kSet_app, kSet2_app, kSetG_app, kSetG_app0, kStore_ptr, kStore_eptr, kCallW_some, kCallC_some, kCall_some, wk_T, wk_n, wk_keep, wk_inv, wk_act, wk_dr, wk_le, aCalm, wantC, dstOk, calm, aCallK, aCall3K, subOf, subRep, aCall2K, apnd, bsMove, putBox, putOwn, partAV, mvL, AV.mv, AV.base, AV.moved, kBld, bldK, wrK, stK, AV.selfOk, AV.src, TI.flat, apSize, pickAV, St.val, St.cond, St.fn, St.next, St.set, St.trim, wipe_eq, wipeE_app, wipeM_app, pickEnv, get?, cGet, upd_app, withPuts, killAll, rm, freshP, Oper.hnd, Sc.st, ofConst, constOk, lenAV, elemLen, loadAV, ldL, ld1, fieldAddrAV, indexAddrAV, sliceAV, convAV, buildAV, fillAV, fieldAV, Out.of, binAV, AV.rows, AV.one, AV.cells, AV.deepOk, AV.toD, toDs, partRows, partRowsM, partsDeep, TK.zeroAV, TK.zeroD, byteOf, inR, Op.operands, Call.operands, passVs, passV, passL, pass1, passB, pasVs, pasV, pasL, pas1, ownsOk, okHs, okHs2, okFin, finOk2, rho, over, backRes, backAV, backAV1, backBlk, putBack, back2, back2_V, back2_1, m2, AV.wipe, AV.wipeV, AV.wipe1, Blk.wipe, AV.hs, AV.hs.hsL, alOps, Con.start2, Con.pk, bodyQ, fini, resAV, resA, firstId, Sc.from, renEnv, renT, renV, renVs, renL, ren1, renBox, renOwn, okRen, clOf, actB, setRow, flatRows, flatD, noInv, shr_nil, shr_some, kStepF_some, shareL, AV.viewed, AV.viewed1, cOf, cPick, tTab]
  refine fun _ => ⟨s, p, ⟨rfl, rfl⟩, ⟨h1, h2, h3, by omega⟩, fun y _ hy2 => ?_⟩
  obtain ⟨k1, k2⟩ := hy2 (by omega)
  have hk : y.toNat < l.length := by omega
  have e : Option.map eStr l[y.toNat]? = some (eStr l[y.toNat]) := by simp -implicitDefEqProofs [List.getElem?_eq_getElem hk]
  simp -implicitDefEqProofs [e, eStr, k1, k2]

def cOne : Con := { A := (Str × Int) × List Int, X := Int, n := 12, args := fun a => [.ptr 0 0, .sl true 1 (eInts a.2)], boxes := fun a => [(0, 103, [.sl true 1 (eBytes a.1.1), .int .i64 a.1.2])], pre := fun a => a.1.1.length ≤ 2000 ∧ 0 ≤ a.1.2 ∧ a.1.2 ≤ 1073741824 ∧ a.2 ≠ [] ∧ a.2.length ≤ 1073741824, post := fun a x => a.2 ≠ [] → x ∈ a.2, res := fun _ x => .int .i64 x, fin := fun a _ => [(0, rdBox a.1.1 (a.1.2 + 1))], nob := false, kindly := true }
set_option maxHeartbeats 4000000 in
theorem one_has : Has Tryz.prog 98 cOne := by
  refine has_walk mixed tTab_ok (l := [(87, cPick)]) (HasL.cons pick_has HasL.nil) [0, 1, 4] ((fun a n (_ : Nat) => (fun _ => noInv) a n)) [] Tryz.func98 (by kernel_rfl) (code := _) (by unfold Tryz.f98; rfl) (by kernel_rfl) (by decide) (fun a => ⟨a.2.headD 0, fun h => headD_mem h⟩) (by intro h; first | exact fun _ => rfl | cases h) (by kernel_rfl) ?_
  intro a ha
  obtain ⟨⟨s, p⟩, l⟩ := a
  obtain ⟨h1, h2, h3, h4, h5⟩ : s.length ≤ 2000 ∧ 0 ≤ p ∧ p ≤ 1073741824 ∧ l ≠ [] ∧ l.length ≤ 1073741824 := ha
  have hl : 0 < l.length := List.length_pos_iff.2 h4
  simp -implicitDefEqProofs [vc_skip, extOf, vc_seq, vc_cond, vc_block, vc_exit, vc_ret, vc_region, vc_regionD, vc_loop, kSeq_normal, kSeq_ret, kSeq_exit, kBlock_normal, kBlock_ret, kBlock_exit, kLoop_normal, kLoop_ret, kLoop_exit, kCond_bool, kNorm_app, vcOps_nil, vcOps_cons, kOps_app, kStep_some, kStep_none, vcDL_nil, vcDL_cons, kOpsD_app, kStepD_true, kStepD_tt, kStepD_false, ldB, btys, btyAct, kStepC_some, kStepC_none, kMv_app, act3_store, act3_call, act3_bs, kAct_app, kSt2_app, stealSlots, stealL, stealOne, subIn, AV.stolen, act_store, act_bs, act_append, act_call, kSet_app, kSet2_app, kSetG_app, kSetG_app0, kStore_ptr, kStore_eptr, kCallW_some, kCallC_some, kCall_some, wk_T, wk_n, wk_keep, wk_inv, wk_act, wk_dr, wk_le, aCalm, wantC, dstOk, calm, aCallK, aCall3K, subOf, subRep, aCall2K, apnd, bsMove, putBox, putOwn, partAV, mvL, AV.mv, AV.base, AV.moved, kBld, bldK, wrK, stK, AV.selfOk, AV.src, TI.flat, apSize, pickAV, St.val, St.cond, St.fn, St.next, St.set, St.trim, wipe_eq, wipeE_app, wipeM_app, pickEnv, get?, cGet, upd_app, withPuts, killAll, rm, freshP, Oper.hnd, Sc.st, ofConst, constOk, lenAV, elemLen, loadAV, ldL, ld1, fieldAddrAV, indexAddrAV, sliceAV, convAV, buildAV, fillAV, fieldAV, Out.of, binAV, AV.rows, AV.one, AV.cells, AV.deepOk, AV.toD, toDs, partRows, partRowsM, partsDeep, TK.zeroAV, TK.zeroD, byteOf, inR, Op.operands, Call.operands, passVs, passV, passL, pass1, passB, pasVs, pasV, pasL, pas1, ownsOk, okHs, okHs2, okFin, finOk2, rho, over, backRes, backAV, backAV1, backBlk, putBack, back2, back2_V, back2_1, m2, AV.wipe, AV.wipeV, AV.wipe1, Blk.wipe, AV.hs, AV.hs.hsL, alOps, Con.start2, Con.pk, bodyQ, fini, resAV, resA, firstId, Sc.from, renEnv, renT, renV, renVs, renL, ren1, renBox, renOwn, okRen, clOf, actB, setRow, flatRows, flatD, noInv, shr_nil, shr_some, kStepF_some, shareL, AV.viewed, AV.viewed1, cOne, cPick, tTab]
  refine fun _ => ⟨s, p, ⟨rfl, rfl⟩, ⟨h1, h2, h3, by omega⟩, fun y _ hy2 => ?_⟩
  obtain ⟨k1, k2⟩ := hy2 (by omega)
  have hk : y.toNat < l.length := by omega
  have e : Option.map eInt l[y.toNat]? = some (eInt l[y.toNat]) := by simp -implicitDefEqProofs [List.getElem?_eq_getElem hk]
  simp -implicitDefEqProofs [e, eInt, k1, k2]

end Vx
end Go.Proofs.YthmhaggmcfemnaaGreatDoor
/-
  Contracts: strings.Builder; trees written by the program (treePut, TreePut).
-/
namespace Go.Proofs.YthmhaggmcfemnaaGreatDoor
namespace Vx
open Go.RowKit
set_option maxRecDepth 8000

def tTabS : List (Nat × TI) := (124, ⟨true, [.oth (.pointer none), .sl 5 1], 32, [(122, 0), (22, 1)], 0⟩) :: tTab
theorem tTabS_ok : ∀ t ti, get? tTabS t = some ti → TOk Tryz.prog t ti := tabChk_ok (by kernel_rfl)
def cWrite : Con := { A := Unit, X := Unit, n := 19, args := fun _ => [], boxes := fun _ => [], pre := fun _ => False, post := fun _ _ => True, res := fun _ _ => .junk, fin := fun _ _ => [], mv := true, bld := (1, 124, 22, 9) }
theorem write_has : Has Tryz.prog 108 cWrite :=
  ⟨fun args w => Go.MuLone.run_callFunc_enter Tryz.func108 (by kernel_rfl) rfl args w, fun _ => ⟨(), trivial⟩, fun _ _ => rfl, fun _ h => h.elim,
    ⟨(by kernel_rfl), fun w w1 w2 b pv v v' v2 s h1 h2 h3 h4 h5 h6 h7 => bld_write w w1 w2 b pv v v' v2 s h1 h2 h3 h4 h5 h6 h7⟩, .inl rfl⟩
def cBStr : Con := { A := Unit, X := Unit, n := 14, args := fun _ => [], boxes := fun _ => [], pre := fun _ => False, post := fun _ _ => True, res := fun _ _ => .junk, fin := fun _ _ => [], mv := true, bld := (2, 124, 5, 0) }
theorem bStr_has : Has Tryz.prog 110 cBStr := by
  refine ⟨fun args w => Go.MuLone.run_callFunc_enter Tryz.func110 (by kernel_rfl) rfl args w, fun _ => ⟨(), trivial⟩, fun _ _ => rfl, fun _ h => h.elim, ?_, .inl rfl⟩
  intro w b pv v l hb hv
  rcases hv with ⟨rfl, rfl⟩ | ⟨g, cap, cs, rfl, hg, h1, h2, h3, h4⟩
  · refine (bld_string_nil w b pv hb).mono ?_
    rintro e w' ⟨rfl, rfl⟩
    exact ⟨rfl, Nat.le_refl _, rfl, rfl, rfl, fun x _ => .inl rfl⟩
  · have hgl : g < w.heap.size := (Array.getElem?_eq_some_iff.1 hg).1
    by_cases h0 : l = []
    · subst h0
      by_cases hc : cap = 0
      · subst hc
        refine (bld_string_noroom w b g pv cs hb hg).mono ?_
        rintro e w' ⟨rfl, hw⟩
        have hw' : w'.heap = w.heap.push (.view ⟨g, 0, none⟩ 5) ∧ w'.os = w.os ∧ w'.tape = w.tape ∧ w'.output = w.output := by
          rcases hw with rfl | rfl <;> exact ⟨rfl, rfl, rfl, rfl⟩
        obtain ⟨z1, z2, z3, z4⟩ := hw'
        exact ⟨rfl, by rw [z1]; simp, z2, z3, z4, fun x hx => .inl (by rw [z1, Array.getElem?_push]; simp -implicitDefEqProofs [Nat.ne_of_lt hx])⟩
      · refine (bld_string_room w b g cap pv hb hc).mono ?_
        rintro e w' ⟨rfl, rfl⟩
        exact ⟨rfl, Nat.le_refl _, rfl, rfl, rfl, fun x _ => .inl rfl⟩
    · have hl : 0 < l.length := List.length_pos_iff.2 h0
      refine (bld_string w b g cap pv cs l hb hg h1 (by unfold maxLen at h3; omega) h0 (by omega) h4).mono ?_
      rintro e w' ⟨rfl, rfl⟩
      have hn : ¬ l.length = 0 := by omega
      have hh : (w.drew.freeze ⟨g, 0, none⟩ l.length).heap.size = w.heap.size ∧ ∀ x, (w.drew.freeze ⟨g, 0, none⟩ l.length).heap[x]? = if g = x then (w.heap[x]?).map (fun o => match o with | .cells c elem (lo, hi) => .cells c elem (if lo == hi then (0, 0 + l.length) else (min lo 0, max hi (0 + l.length))) | o => o) else w.heap[x]? := by
        unfold World.freeze
        rw [if_neg hn]
        exact ⟨by simp only [Array.size_modify]; rfl, fun x => by simp only [Array.getElem?_modify]; rfl⟩
      refine ⟨rfl, Nat.le_of_eq hh.1.symm, by unfold World.freeze; rw [if_neg hn]; rfl, by unfold World.freeze; rw [if_neg hn]; rfl, by unfold World.freeze; rw [if_neg hn]; rfl, fun x hx => ?_⟩
      rw [hh.2 x]
      by_cases e : g = x
      · subst e
        rw [if_pos rfl, hg]
        exact .inr ⟨_, _, _, _, rfl, rfl, rfl⟩
      · rw [if_neg e]; exact .inl rfl

def bBld (x : Str) : Blk := .box 124 [.slf 10, .own 11 1 (eBytes x)]
def oBld (x : Str) : Blk := .own 5 1 true (eBytes x)
def ptO (t : List FileD) : Inv := ⟨Nat, fun i => ⟨[(2, true, .str []), (3, true, .ptr 10 0), (8, true, .sl true 2 (eFiles t)), (9, true, .int .i64 t.length), (10, true, .int .i64 i)], [(10, .box 124 [.slf 10, .own 11 1 (eBytes (treeT (t.take i)))]), (11, .own 5 1 true (eBytes (treeT (t.take i))))]⟩, fun i => i ≤ t.length, fun i => t.length - i⟩
def ptI (t : List FileD) (g : Nat) : Inv := ⟨Nat, fun k => ⟨[(2, true, .str []), (3, true, .ptr 10 0), (8, true, .sl true 2 (eFiles t)), (9, true, .int .i64 t.length), (10, true, .int .i64 g), (26, true, .sl true 1 (eStrs (t.getD g default).text)), (27, true, .int .i64 (t.getD g default).text.length), (28, true, .int .i64 k)],
  [(10, .box 124 [.slf 10, .own 11 1 (eBytes (treeT (t.take g) ++ fileH (t.getD g default) ++ linesT ((t.getD g default).text.take k)))]), (11, .own 5 1 true (eBytes (treeT (t.take g) ++ fileH (t.getD g default) ++ linesT ((t.getD g default).text.take k))))]⟩,
  fun k => g < t.length ∧ k ≤ (t.getD g default).text.length, fun k => (t.getD g default).text.length - k⟩
def ptInv (t : List FileD) (n g : Nat) : Inv := if n = 3 then ptO t else ptI t g
theorem ptInv_3 (t : List FileD) (g : Nat) : ptInv t 3 g = ptO t := rfl
theorem ptInv_7 (t : List FileD) (g : Nat) : ptInv t 7 g = ptI t g := rfl
theorem rowsOf_eq (q : List UInt8) : rowsOf q = eBytes q := rfl
--TAB tTabS
def cTreePutT : Con := .fn 38 (List FileD) (fun t => [.sl true 2 (eFiles t)]) okT (fun t => .str (treeT t)) (fun _ => [])
set_option maxHeartbeats 4000000 in
theorem treePutT_has : Has Tryz.prog 109 cTreePutT := by
  refine has_walk mixed tTabS_ok (l := [(106, cItoa), (108, cWrite), (110, cBStr)]) (HasL.cons itoa_has (HasL.cons write_has (HasL.cons bStr_has HasL.nil))) [0, 2, 3, 5, 7, 8, 9, 10, 26, 27, 28] (fun t => ptInv t) [] Tryz.func109 (by kernel_rfl) (code := _) (by unfold Tryz.f109; rfl) (by kernel_rfl) (by decide) (fun _ => ⟨(), trivial⟩) (by intro h; first | exact fun _ => rfl | cases h) (by kernel_rfl) ?_
  intro (t : List FileD) ht
  have hb := okT_take ht
  obtain ⟨ht1, ht2⟩ : t.length ≤ 8 ∧ ∀ f ∈ t, f.path.length ≤ 1048576 ∧ f.text.length ≤ 64 ∧ ∀ s ∈ f.text, s.length ≤ 12 := ht
  simp -implicitDefEqProofs [vc_skip, extOf, vc_seq, vc_cond, vc_block, vc_exit, vc_ret, vc_region, vc_regionD, vc_loop, kSeq_normal, kSeq_ret, kSeq_exit, kBlock_normal, kBlock_ret, kBlock_exit, kLoop_normal, kLoop_ret, kLoop_exit, kCond_bool, kNorm_app, vcOps_nil, vcOps_cons, kOps_app, kStep_some, kStep_none, vcDL_nil, vcDL_cons, kOpsD_app, kStepD_true, kStepD_tt, kStepD_false, ldB, btys, btyAct, kStepC_some, kStepC_none, kMv_app, act3_store, act3_call, act3_bs, kAct_app, kSt2_app, stealSlots, stealL, stealOne, subIn, AV.stolen, act_store, act_bs, act_append, act_call, kSet_app, kSet2_app, kSetG_app, kSetG_app0, kStore_ptr, kStore_eptr, kCallW_some, kCallC_some, kCall_some, wk_T, wk_n, wk_keep, wk_inv, wk_act, wk_dr, wk_le, aCalm, wantC, dstOk, calm, aCallK, aCall3K, subOf, subRep, aCall2K, apnd, bsMove, putBox, putOwn, partAV, mvL, AV.mv, AV.base, AV.moved, kBld, bldK, wrK, stK, AV.selfOk, AV.src, TI.flat, apSize, pickAV, St.val, St.cond, St.fn, St.next, St.set, St.trim, wipe_eq, wipeE_app, wipeM_app, pickEnv, get?, cGet, upd_app, withPuts, killAll, rm, freshP, Oper.hnd, Sc.st, ofConst, constOk, lenAV, elemLen, loadAV, ldL, ld1, fieldAddrAV, indexAddrAV, sliceAV, convAV, buildAV, fillAV, fieldAV, Out.of, binAV, AV.rows, AV.one, AV.cells, AV.deepOk, AV.toD, toDs, partRows, partRowsM, partsDeep, TK.zeroAV, TK.zeroD, byteOf, inR, Op.operands, Call.operands, passVs, passV, passL, pass1, passB, pasVs, pasV, pasL, pas1, ownsOk, okHs, okHs2, okFin, finOk2, rho, over, backRes, backAV, backAV1, backBlk, putBack, back2, back2_V, back2_1, m2, AV.wipe, AV.wipeV, AV.wipe1, Blk.wipe, AV.hs, AV.hs.hsL, alOps, Con.start2, Con.pk, bodyQ, fini, resAV, resA, firstId, Sc.from, renEnv, renT, renV, renVs, renL, ren1, renBox, renOwn, okRen, clOf, actB, setRow, flatRows, flatD, noInv, shr_nil, shr_some, kStepF_some, shareL, AV.viewed, AV.viewed1, cTreePutT, Con.fn, tTabS, tTab, cItoa, cWrite, cBStr, ptInv_3, ptInv_7, ptO, ptI, rowsOf_eq]
  try dsimp only
  simp only [and_assoc, exists_eq_left, exists_and_left]
  refine fun _ => ⟨by simp -implicitDefEqProofs [treeT, eBytes], Nat.zero_le _, fun i hi => ⟨fun hlt => ⟨hlt, fun _ => ?_⟩, fun hge => by rw [List.take_of_length_le hge]⟩⟩
  have e3 : Option.map eFile t[i]? = some (eFile t[i]) := by simp -implicitDefEqProofs [List.getElem?_eq_getElem hlt]
  have hf := ht2 _ (List.getElem_mem hlt)
  have hbi := hb i
  have hbj := hb (i + 1)
  rw [treeT_take t i hlt] at hbj
  have hd := decS_len t[i].text.length
  simp only [List.length_append] at hbj
  have hg : t[i]?.getD default = t[i] := by simp -implicitDefEqProofs [hlt]
  have hfl := fileH_len t[i]
  simp -implicitDefEqProofs [e3, eFile, D.asStr, D.asRows, maxLen]
  refine ⟨by omega, fun _ => ⟨by omega, fun _ => ⟨t[i].text.length, rfl, by omega, by omega, fun _ => ⟨by omega, fun _ => ⟨by omega, fun _ => ⟨i, rfl, by rw [hg], by rw [hg], ?_, ?_, hlt, fun k _ hk => ?_⟩⟩⟩⟩⟩⟩
  · rw [hg]; simp -implicitDefEqProofs [fileH, linesT, eBytes]
  · rw [hg]; simp -implicitDefEqProofs [fileH, linesT, eBytes]
  rw [hg] at hk ⊢
  have hlb := linesT_len (t[i].text.take k) (fun s hs => hf.2.2 s (List.mem_of_mem_take hs))
  have hln : (t[i].text.take k).length ≤ 64 := by simp; omega
  refine ⟨fun hk2 => ⟨hk2, fun _ => ?_⟩, fun hk2 => ?_⟩
  · have e5 : Option.map eStr t[i].text[k]? = some (eStr t[i].text[k]) := by simp -implicitDefEqProofs [List.getElem?_eq_getElem hk2]
    have hs := hf.2.2 _ (List.getElem_mem hk2)
    have h6 := linesT_take t[i].text k hk2
    simp -implicitDefEqProofs [e5, eStr]
    have h7 : eBytes (treeT (List.take i t) ++ (fileH t[i] ++ linesT (List.take (k + 1) t[i].text))) = eBytes (treeT (List.take i t) ++ (fileH t[i] ++ linesT (List.take k t[i].text))) ++ eBytes (t[i].text[k] ++ [10]) := by
      rw [h6]; simp -implicitDefEqProofs [eBytes]
    exact ⟨by omega, fun _ => ⟨by omega, by omega, by omega, fun _ _ => ⟨k + 1, by omega, h7, h7.symm, hlt, by omega, by omega⟩⟩⟩
  · have hkk : t[i].text.take k = t[i].text := List.take_of_length_le hk2
    rw [hkk]
    exact ⟨by omega, by omega, fun _ _ => ⟨i + 1, by omega, treeT_take t i hlt, (treeT_take t i hlt).symm, by omega, by omega⟩⟩
end Vx
end Go.Proofs.YthmhaggmcfemnaaGreatDoor
/-
  Contracts: lines read (linesOf, readFiles, l1Num, l24Rd).
-/
namespace Go.Proofs.YthmhaggmcfemnaaGreatDoor
namespace Vx
open Go.RowKit
set_option maxRecDepth 8000

def tTabR : List (Nat × TI) := (85, ⟨true, [.sl 9 1, .int .i64, .bool], 40, [(34, 0), (3, 1), (4, 2)], 0⟩) :: tTab
theorem tTabR_ok : ∀ t ti, get? tTabR t = some ti → TOk Tryz.prog t ti := tabChk_ok (by kernel_rfl)
--TAB tTabR
def cLinesOf : Con := .fn 21 Str (fun s => [.str s]) (fun s => s.length ≤ 1073741824) (fun s => .tup [.sl false 1 (eStrs (linesI s).1), .bool (linesI s).2]) (fun _ => [])
set_option maxHeartbeats 4000000 in
theorem linesOf_has : Has Tryz.prog 74 cLinesOf := by
  refine has_walk mixed tTabR_ok (l := [(75, cSplit)]) (HasL.cons split_has HasL.nil) [0, 2, 3, 4, 5] ((fun a n (_ : Nat) => (fun _ => noInv) a n)) [] Tryz.func74 (by kernel_rfl) (code := _) (by unfold Tryz.f74; rfl) (by kernel_rfl) (by decide) (fun _ => ⟨(), trivial⟩) (by intro h; first | exact fun _ => rfl | cases h) (by kernel_rfl) ?_
  intro (s : Str) (hs : s.length ≤ 1073741824)
  have h1 := spl_len 10 s []
  have h2 : s.count 10 ≤ s.length := List.count_le_length
  have e0 : linesI [] = ([], true) := rfl
  have e1 : ¬ s = [] → linesI s = ((spl 10 s []).dropLast, decide ((spl 10 s []).getLastD [] = [])) := fun h => by unfold linesI; rw [if_neg h]
  have e2 : (spl 10 s []).dropLast = (spl 10 s []).take ((spl 10 s []).length - 1) := List.dropLast_eq_take
  have hlt : (spl 10 s []).length - 1 < (spl 10 s []).length := by omega
  have e3 : (spl 10 s []).getLastD [] = (spl 10 s [])[(spl 10 s []).length - 1] := by
    rw [List.getLastD_eq_getLast?, List.getLast?_eq_getElem?, List.getElem?_eq_getElem hlt]; rfl
  simp -implicitDefEqProofs [vc_skip, extOf, vc_seq, vc_cond, vc_block, vc_exit, vc_ret, vc_region, vc_regionD, vc_loop, kSeq_normal, kSeq_ret, kSeq_exit, kBlock_normal, kBlock_ret, kBlock_exit, kLoop_normal, kLoop_ret, kLoop_exit, kCond_bool, kNorm_app, vcOps_nil, vcOps_cons, kOps_app, kStep_some, kStep_none, vcDL_nil, vcDL_cons, kOpsD_app, kStepD_true, kStepD_tt, kStepD_false, ldB, btys, btyAct, kStepC_some, kStepC_none, kMv_app, act3_store, act3_call, act3_bs, kAct_app, kSt2_app, stealSlots, stealL, stealOne, subIn, AV.stolen, act_store, act_bs, act_append, act_call, kSet_app, kSet2_app, kSetG_app, kSetG_app0, kStore_ptr, kStore_eptr, kCallW_some, kCallC_some, kCall_some, wk_T, wk_n, wk_keep, wk_inv, wk_act, wk_dr, wk_le, aCalm, wantC, dstOk, calm, aCallK, aCall3K, subOf, subRep, aCall2K, apnd, bsMove, putBox, putOwn, partAV, mvL, AV.mv, AV.base, AV.moved, kBld, bldK, wrK, stK, AV.selfOk, AV.src, TI.flat, apSize, pickAV, St.val, St.cond, St.fn, St.next, St.set, St.trim, wipe_eq, wipeE_app, wipeM_app, pickEnv, get?, cGet, upd_app, withPuts, killAll, rm, freshP, Oper.hnd, Sc.st, ofConst, constOk, lenAV, elemLen, loadAV, ldL, ld1, fieldAddrAV, indexAddrAV, sliceAV, convAV, buildAV, fillAV, fieldAV, Out.of, binAV, AV.rows, AV.one, AV.cells, AV.deepOk, AV.toD, toDs, partRows, partRowsM, partsDeep, TK.zeroAV, TK.zeroD, byteOf, inR, Op.operands, Call.operands, passVs, passV, passL, pass1, passB, pasVs, pasV, pasL, pas1, ownsOk, okHs, okHs2, okFin, finOk2, rho, over, backRes, backAV, backAV1, backBlk, putBack, back2, back2_V, back2_1, m2, AV.wipe, AV.wipeV, AV.wipe1, Blk.wipe, AV.hs, AV.hs.hsL, alOps, Con.start2, Con.pk, bodyQ, fini, resAV, resA, firstId, Sc.from, renEnv, renT, renV, renVs, renL, ren1, renBox, renOwn, okRen, clOf, actB, setRow, flatRows, flatD, noInv, shr_nil, shr_some, kStepF_some, shareL, AV.viewed, AV.viewed1, cLinesOf, cSplit, Con.fn, tTabR, tTab]
  try dsimp only
  refine ⟨fun h => by subst h; exact ⟨rfl, rfl⟩, fun h => ⟨s, 10, ⟨rfl, rfl⟩, hs, fun _ => ⟨by omega, fun _ _ => ⟨by omega, fun _ _ => ⟨by omega, fun _ _ => ?_⟩⟩⟩⟩⟩
  have e4 : Option.map eStr (spl 10 s [])[(spl 10 s []).length - 1]? = some (eStr (spl 10 s [])[(spl 10 s []).length - 1]) := by rw [List.getElem?_eq_getElem hlt]; rfl
  rw [e4, e1 h, e2, e3]
  simp -implicitDefEqProofs [eStr, eStrs_take]

theorem rfI_nil {num n t} : rfI num n t [] = (t, []) := by cases n <;> rfl
def okW (w : List Str) : Prop := w.length = 3 ∧ w.getD 0 [] = [102, 105, 108, 101]
theorem rfI_step {num : Str → Int × Bool} {t : List FileD} {l : Str} {ls : List Str} :
    (¬ (spl 32 l []).length = 3 → rfI num (l :: ls).length t (l :: ls) = (t, l :: ls)) ∧
    (¬ (spl 32 l []).getD 0 [] = [102, 105, 108, 101] → rfI num (l :: ls).length t (l :: ls) = (t, l :: ls)) ∧
    ((num ((spl 32 l []).getD 2 [])).2 = false → rfI num (l :: ls).length t (l :: ls) = (t, l :: ls)) ∧
    (¬ (0 ≤ (num ((spl 32 l []).getD 2 [])).1 ∧ (num ((spl 32 l []).getD 2 [])).1 ≤ ls.length) → rfI num (l :: ls).length t (l :: ls) = (t, l :: ls)) ∧
    ((spl 32 l []).length = 3 → (spl 32 l []).getD 0 [] = [102, 105, 108, 101] → (num ((spl 32 l []).getD 2 [])).2 = true → 0 ≤ (num ((spl 32 l []).getD 2 [])).1 → (num ((spl 32 l []).getD 2 [])).1 ≤ ls.length →
      rfI num (l :: ls).length t (l :: ls) = rfI num (ls.drop (num ((spl 32 l []).getD 2 [])).1.toNat).length (t ++ [⟨(spl 32 l []).getD 1 [], ls.take (num ((spl 32 l []).getD 2 [])).1.toNat⟩]) (ls.drop (num ((spl 32 l []).getD 2 [])).1.toNat)) := by
  simp only [List.length_cons, rfI]
  refine ⟨fun h => if_neg fun q => h q.1, fun h => if_neg fun q => h q.2, fun h => ?_, fun h => ?_, fun h1 h2 h3 h4 h5 => ?_⟩
  · split
    · exact if_neg fun q => by rw [h] at q; cases q.1
    · rfl
  · split
    · exact if_neg fun q => h q.2
    · rfl
  · rw [if_pos ⟨h1, h2⟩, if_pos ⟨h3, h4, h5⟩]
    exact rfI_fuel (by simp) (Nat.le_refl _)
def lsPre (ls : List Str) : Prop := ls.length ≤ 1048576 ∧ ∀ l ∈ ls, l.length ≤ 1073741824
def cReadFiles : Con := { (Con.fn 59 (List Str) (fun ls => [.sl true 1 (eStrs ls)]) lsPre (fun ls => .tup [.own 8 2 (eFiles (rfI numS ls.length [] ls).1), .sl true 1 (eStrs (rfI numS ls.length [] ls).2)]) (fun ls => ownFiles 8 (rfI numS ls.length [] ls).1)) with need := numNeed }
set_option maxHeartbeats 4000000 in
theorem readFiles_has : Has Tryz.prog 77 cReadFiles := by
  refine has_walk mixed tTabR_ok (l := [(75, cSplit), (76, cNumber), (51, cWithin), (107, cCopyText)]) (HasL.cons split_has (HasL.cons number_has (HasL.cons within_has (HasL.cons copyText_has HasL.nil)))) [0, 2, 3, 4, 5, 6, 7] ((fun a n (_ : Nat) => (fun ls _ => ⟨List FileD × List Str, fun t => ⟨[(0, true, .sl true 1 (eStrs t.2)), (2, true, .nil), (3, true, .nil), (4, true, .own 9 2 (eFiles t.1))], ownFiles 9 t.1⟩, fun t => t.1.length + t.2.length ≤ ls.length ∧ (∀ l ∈ t.2, l.length ≤ 1073741824) ∧ rfI numS t.2.length t.1 t.2 = rfI numS ls.length [] ls, fun t => t.2.length⟩) a n)) [51] Tryz.func77 (by kernel_rfl) (code := _) (by unfold Tryz.f77; rfl) (by kernel_rfl) (by decide) (fun _ => ⟨(), trivial⟩) (by intro h; first | exact fun _ => rfl | cases h) (by kernel_rfl) ?_
  intro (ls : List Str) ⟨h1, h2⟩
  simp -implicitDefEqProofs [vc_skip, extOf, vc_seq, vc_cond, vc_block, vc_exit, vc_ret, vc_region, vc_regionD, vc_loop, kSeq_normal, kSeq_ret, kSeq_exit, kBlock_normal, kBlock_ret, kBlock_exit, kLoop_normal, kLoop_ret, kLoop_exit, kCond_bool, kNorm_app, vcOps_nil, vcOps_cons, kOps_app, kStep_some, kStep_none, vcDL_nil, vcDL_cons, kOpsD_app, kStepD_true, kStepD_tt, kStepD_false, ldB, btys, btyAct, kStepC_some, kStepC_none, kMv_app, act3_store, act3_call, act3_bs, kAct_app, kSt2_app, stealSlots, stealL, stealOne, subIn, AV.stolen, act_store, act_bs, act_append, act_call, kSet_app, kSet2_app, kSetG_app, kSetG_app0, kStore_ptr, kStore_eptr, kCallW_some, kCallC_some, kCall_some, wk_T, wk_n, wk_keep, wk_inv, wk_act, wk_dr, wk_le, aCalm, wantC, dstOk, calm, aCallK, aCall3K, subOf, subRep, aCall2K, apnd, bsMove, putBox, putOwn, partAV, mvL, AV.mv, AV.base, AV.moved, kBld, bldK, wrK, stK, AV.selfOk, AV.src, TI.flat, apSize, pickAV, St.val, St.cond, St.fn, St.next, St.set, St.trim, wipe_eq, wipeE_app, wipeM_app, pickEnv, get?, cGet, upd_app, withPuts, killAll, rm, freshP, Oper.hnd, Sc.st, ofConst, constOk, lenAV, elemLen, loadAV, ldL, ld1, fieldAddrAV, indexAddrAV, sliceAV, convAV, buildAV, fillAV, fieldAV, Out.of, binAV, AV.rows, AV.one, AV.cells, AV.deepOk, AV.toD, toDs, partRows, partRowsM, partsDeep, TK.zeroAV, TK.zeroD, byteOf, inR, Op.operands, Call.operands, passVs, passV, passL, pass1, passB, pasVs, pasV, pasL, pas1, ownsOk, okHs, okHs2, okFin, finOk2, rho, over, backRes, backAV, backAV1, backBlk, putBack, back2, back2_V, back2_1, m2, AV.wipe, AV.wipeV, AV.wipe1, Blk.wipe, AV.hs, AV.hs.hsL, alOps, Con.start2, Con.pk, bodyQ, fini, resAV, resA, firstId, Sc.from, renEnv, renT, renV, renVs, renL, ren1, renBox, renOwn, okRen, clOf, actB, setRow, flatRows, flatD, noInv, shr_nil, shr_some, kStepF_some, shareL, AV.viewed, AV.viewed1, cReadFiles, cSplit, cNumber, cWithin, cCopyText, Con.fn, tTabR, tTab]
  try dsimp only
  refine ⟨⟨[], ls, ⟨rfl, rfl⟩, by simp, h2, rfl⟩, fun t b g1 g2 g3 _ => ⟨fun hb => ⟨hb, fun _ => ?_⟩, fun hb => ?_⟩⟩
  · obtain ⟨l, r, rfl⟩ : ∃ l r, b = l :: r := by cases b with | nil => simp at hb | cons l r => exact ⟨l, r, rfl⟩
    obtain ⟨s1, s2, s3, s4, s5⟩ := rfI_step (num := numS) (t := t) (l := l) (ls := r)
    rw [g3] at s1 s2 s3 s4 s5
    clear g3
    generalize rfI numS ls.length [] ls = F at s1 s2 s3 s4 s5 ⊢
    have hl := g2 l (by simp)
    have hle := fun q hq => spl_le (c := 32) (s := l) (p := []) q hq
    simp only [List.length_cons] at g1
    simp -implicitDefEqProofs [eStr]
    refine ⟨l, 32, ⟨rfl, rfl⟩, hl, fun hw => ⟨fun h3 => by rw [s1 (by omega)]; simp, fun h3 => ⟨by omega, fun _ => ?_⟩⟩⟩
    obtain ⟨x, y, z, hw3⟩ : ∃ x y z, spl 32 l [] = [x, y, z] := by
      have h3 : (spl 32 l []).length = 3 := by omega
      match hq : spl 32 l [], h3 with
      | [x, y, z], _ => exact ⟨x, y, z, rfl⟩
    rw [hw3] at s2 s3 s4 s5 hle ⊢
    simp only [List.getD_cons_zero, List.getD_cons_succ, List.length_cons, List.length_nil] at s2 s3 s4 s5
    have hz := hle z (by simp)
    simp -implicitDefEqProofs [eStr]
    refine ⟨fun hx => by rw [s2 hx]; simp, fun hx => ⟨by simp at hz; omega, fun hk => ?_, fun hk => by rw [s3 hk]; simp⟩⟩
    have hn1 : ((numS z).1 + 1).toNat - 1 = (numS z).1.toNat := by omega
    refine fun _ => ⟨by omega, fun _ => ⟨(numS z).1, 0, r.length, ⟨rfl, rfl, rfl⟩, fun h => by rw [s4 (by omega)]; simp, fun h0 h1' => ⟨by omega, fun _ _ => ⟨by omega, fun _ _ => ⟨r.take (numS z).1.toNat, ?_, by simp; omega, by omega, by omega, fun _ _ => ⟨by omega, fun _ _ => ⟨t ++ [⟨y, r.take (numS z).1.toNat⟩], r.drop (numS z).1.toNat, ⟨⟨?_, ?_⟩, ?_⟩, ⟨by simp; omega, fun q hq => g2 q (by simp -implicitDefEqProofs [List.mem_of_mem_drop hq]), (s5 trivial hx hk h0 h1').symm⟩, by simp; omega⟩⟩⟩⟩⟩⟩⟩
    · rw [hn1]; simp -implicitDefEqProofs [eStrs]
    · have e5 : ((numS z).1 + 1).toNat = (numS z).1.toNat + 1 := by omega
      rw [e5]
      simp only [eStrs, List.map_cons, List.drop_succ_cons]
      rw [List.take_of_length_le (by simp), List.map_drop]
    · simp -implicitDefEqProofs [eFiles, eFile]
    · simp -implicitDefEqProofs [eFiles, eFile]
  · subst hb
    rw [← g3, rfI_nil]; exact ⟨⟨rfl, rfl⟩, rfl⟩

def cNumB : Con := .fn 47 Str (fun s => [.str s]) (fun s => s.length ≤ 1073741824) (fun s => .int .i64 (numB s)) (fun _ => [])
theorem numA_step {s : Str} {i : Nat} {n : Int} (h : i < s.length) : numA (s.drop i) i n = if s[i].toNat < 48 ∨ 57 < s[i].toNat ∨ 6 ≤ i then -1 else numA (s.drop (i + 1)) (i + 1) (n * 10 + ((s[i].toNat : Int) - 48)) := by
  rw [List.drop_eq_getElem_cons h]; rfl
theorem numA_end {s : Str} {i : Nat} {n : Int} (h : s.length ≤ i) : numA (s.drop i) i n = n := by
  rw [List.drop_eq_nil_of_le h]; rfl
set_option maxHeartbeats 4000000 in
theorem numB_has : Has Tryz.prog 71 cNumB := by
  refine has_walk mixed tTabR_ok (l := []) HasL.nil [0, 2, 3, 4] ((fun a n (_ : Nat) => (fun s _ => ⟨Nat × Int, fun t => ⟨[(0, true, .str s), (2, true, .int .i64 0), (3, true, .int .i64 t.2), (4, true, .int .i64 t.1)], []⟩, fun t => t.1 ≤ s.length ∧ t.1 ≤ 6 ∧ 0 ≤ t.2 ∧ t.2 < ((10 ^ t.1 : Nat) : Int) ∧ numA (s.drop t.1) t.1 t.2 = numA s 0 0, fun t => s.length - t.1⟩) a n)) [] Tryz.func71 (by kernel_rfl) (code := _) (by unfold Tryz.f71; rfl) (by kernel_rfl) (by decide) (fun _ => ⟨(), trivial⟩) (by intro h; first | exact fun _ => rfl | cases h) (by kernel_rfl) ?_
  intro (s : Str) (hs : s.length ≤ 1073741824)
  simp -implicitDefEqProofs [vc_skip, extOf, vc_seq, vc_cond, vc_block, vc_exit, vc_ret, vc_region, vc_regionD, vc_loop, kSeq_normal, kSeq_ret, kSeq_exit, kBlock_normal, kBlock_ret, kBlock_exit, kLoop_normal, kLoop_ret, kLoop_exit, kCond_bool, kNorm_app, vcOps_nil, vcOps_cons, kOps_app, kStep_some, kStep_none, vcDL_nil, vcDL_cons, kOpsD_app, kStepD_true, kStepD_tt, kStepD_false, ldB, btys, btyAct, kStepC_some, kStepC_none, kMv_app, act3_store, act3_call, act3_bs, kAct_app, kSt2_app, stealSlots, stealL, stealOne, subIn, AV.stolen, act_store, act_bs, act_append, act_call, kSet_app, kSet2_app, kSetG_app, kSetG_app0, kStore_ptr, kStore_eptr, kCallW_some, kCallC_some, kCall_some, wk_T, wk_n, wk_keep, wk_inv, wk_act, wk_dr, wk_le, aCalm, wantC, dstOk, calm, aCallK, aCall3K, subOf, subRep, aCall2K, apnd, bsMove, putBox, putOwn, partAV, mvL, AV.mv, AV.base, AV.moved, kBld, bldK, wrK, stK, AV.selfOk, AV.src, TI.flat, apSize, pickAV, St.val, St.cond, St.fn, St.next, St.set, St.trim, wipe_eq, wipeE_app, wipeM_app, pickEnv, get?, cGet, upd_app, withPuts, killAll, rm, freshP, Oper.hnd, Sc.st, ofConst, constOk, lenAV, elemLen, loadAV, ldL, ld1, fieldAddrAV, indexAddrAV, sliceAV, convAV, buildAV, fillAV, fieldAV, Out.of, binAV, AV.rows, AV.one, AV.cells, AV.deepOk, AV.toD, toDs, partRows, partRowsM, partsDeep, TK.zeroAV, TK.zeroD, byteOf, inR, Op.operands, Call.operands, passVs, passV, passL, pass1, passB, pasVs, pasV, pasL, pas1, ownsOk, okHs, okHs2, okFin, finOk2, rho, over, backRes, backAV, backAV1, backBlk, putBack, back2, back2_V, back2_1, m2, AV.wipe, AV.wipeV, AV.wipe1, Blk.wipe, AV.hs, AV.hs.hsL, alOps, Con.start2, Con.pk, bodyQ, fini, resAV, resA, firstId, Sc.from, renEnv, renT, renV, renVs, renL, ren1, renBox, renOwn, okRen, clOf, actB, setRow, flatRows, flatD, noInv, shr_nil, shr_some, kStepF_some, shareL, AV.viewed, AV.viewed1, cNumB, Con.fn, tTabR, tTab]
  try dsimp only
  refine ⟨⟨0, 0, ⟨rfl, rfl⟩, by omega, by omega, by omega, by simp, rfl⟩, fun i n g1 g2 g3 g4 g5 _ => ⟨fun hlt => ⟨hlt, fun _ => ?_⟩, fun hge _ => ?_⟩⟩
  · have e : s[i]?.getD 0 = s[i] := by simp -implicitDefEqProofs [hlt]
    rw [e]
    have st := numA_step (n := n) hlt
    rw [g5] at st
    have q : (10 : Int) ^ (i + 1) = 10 * 10 ^ i := by rw [Int.pow_succ]; omega
    have p6 : (10 : Int) ^ i ≤ 1000000 := by
      have h1 : (10 : Nat) ^ i ≤ 10 ^ 6 := Nat.pow_le_pow_right (by omega) g2
      have h2 : (((10 : Nat) ^ i : Nat) : Int) = (10 : Int) ^ i := by simp
      rw [← h2]
      omega
    have hb : s[i].toNat < 256 := s[i].toNat_lt
    have hno : (s[i].toNat < 48 ∨ 57 < s[i].toNat ∨ 6 ≤ i) → numB s = -1 := fun h => by unfold numB; rw [st, if_pos h]; simp
    have hok : ¬ (s[i].toNat < 48 ∨ 57 < s[i].toNat ∨ 6 ≤ i) → numA (s.drop (i + 1)) (i + 1) (n * 10 + ((s[i].toNat : Int) - 48)) = numA s 0 0 := fun h => by rw [st, if_neg h]
    exact ⟨fun h => hno (by omega), fun a1 => ⟨hlt, fun _ => ⟨fun h => hno (by omega), fun a2 => ⟨fun h => hno (by omega), fun a3 => ⟨by omega, fun _ _ => ⟨hlt, fun _ => ⟨by omega, fun _ _ => ⟨by omega, fun _ _ => ⟨by omega, fun _ _ => ⟨by omega, fun _ _ => ⟨i + 1, _, ⟨rfl, by omega⟩, ⟨by omega, by omega, by omega, by rw [q]; omega, hok (by omega)⟩, by omega⟩⟩⟩⟩⟩⟩⟩⟩⟩⟩⟩
  · have e5 : numA s 0 0 = n := by rw [← g5, numA_end hge]
    have nb : numB s = if s.length = 0 ∨ (1 < s.length ∧ s.getD 0 0 = 48) then -1 else n := by unfold numB; rw [e5, if_neg (by omega)]
    rw [nb]
    have hc : s[0]?.getD 0 = s.getD 0 0 := by simp -implicitDefEqProofs [List.getD_eq_getElem?_getD]
    rw [hc]
    have h48 : ∀ x : UInt8, ((x.toNat : Int) = 48) = (x = 48) := fun x => by
      apply propext
      constructor
      · intro h; exact UInt8.toNat_inj.1 (by have : (48 : UInt8).toNat = 48 := rfl; omega)
      · rintro rfl; rfl
    rw [h48]
    refine ⟨fun h => ⟨fun _ => if_pos (.inl (by simp -implicitDefEqProofs [h])), fun _ => if_pos (.inl (by simp -implicitDefEqProofs [h]))⟩, fun h _ => ?_⟩
    have hl : 0 < s.length := List.length_pos_iff.2 h
    exact ⟨fun h1 => ⟨by omega, fun _ => ⟨fun h2 => if_pos (.inr ⟨by omega, h2⟩), fun h2 => if_neg fun q => q.elim (fun q => by omega) fun q => h2 q.2⟩⟩, fun h1 => if_neg fun q => q.elim (fun q => by omega) fun q => by omega⟩

abbrev r24 (ls : List Str) (a : Nat × Bool) : Blk := .box 85 [.sl true 1 (eStrs ls), .int .i64 a.1, .bool a.2]
def r24p (ls : List Str) (a : Nat × Bool) : Prop := ls.length ≤ 1048577 ∧ a.1 ≤ 1048577
def cRdLine : Con := { A := List Str × (Nat × Bool), X := Unit, n := 36, args := fun _ => [.ptr 0 0], boxes := fun a => [(0, 85, [.sl true 1 (eStrs a.1), .int .i64 a.2.1, .bool a.2.2])], pre := fun a => r24p a.1 a.2, post := fun _ _ => True, res := fun a _ => .str (rdLine a.1 a.2).1, fin := fun a _ => [(0, r24 a.1 (rdLine a.1 a.2).2)], nob := false, bty := [85] }
set_option maxHeartbeats 4000000 in
theorem rdLine_has : Has Tryz.prog 70 cRdLine := by
  refine has_walk mixed tTabR_ok (l := []) HasL.nil [0, 2] ((fun a n (_ : Nat) => (fun _ => noInv) a n)) [] Tryz.func70 (by kernel_rfl) (code := _) (by unfold Tryz.f70; rfl) (by kernel_rfl) (by decide) (fun _ => ⟨(), trivial⟩) (by intro h; first | exact fun _ => rfl | cases h) (by kernel_rfl) ?_ (hbt := .inr fun a => ⟨fun b hb => (by simp only [cRdLine, List.mem_cons, List.not_mem_nil, or_false] at hb; subst hb; simp -implicitDefEqProofs [cRdLine]), fun x p hp ty vs e => (by simp only [cRdLine, List.mem_cons, List.not_mem_nil, or_false] at hp; subst hp; cases e; simp -implicitDefEqProofs [cRdLine])⟩)
  intro a ha
  obtain ⟨ls, i, b⟩ := a
  obtain ⟨h1, h2⟩ : ls.length ≤ 1048577 ∧ i ≤ 1048577 := ha
  simp -implicitDefEqProofs [vc_skip, extOf, vc_seq, vc_cond, vc_block, vc_exit, vc_ret, vc_region, vc_regionD, vc_loop, kSeq_normal, kSeq_ret, kSeq_exit, kBlock_normal, kBlock_ret, kBlock_exit, kLoop_normal, kLoop_ret, kLoop_exit, kCond_bool, kNorm_app, vcOps_nil, vcOps_cons, kOps_app, kStep_some, kStep_none, vcDL_nil, vcDL_cons, kOpsD_app, kStepD_true, kStepD_tt, kStepD_false, ldB, btys, btyAct, kStepC_some, kStepC_none, kMv_app, act3_store, act3_call, act3_bs, kAct_app, kSt2_app, stealSlots, stealL, stealOne, subIn, AV.stolen, act_store, act_bs, act_append, act_call, kSet_app, kSet2_app, kSetG_app, kSetG_app0, kStore_ptr, kStore_eptr, kCallW_some, kCallC_some, kCall_some, wk_T, wk_n, wk_keep, wk_inv, wk_act, wk_dr, wk_le, aCalm, wantC, dstOk, calm, aCallK, aCall3K, subOf, subRep, aCall2K, apnd, bsMove, putBox, putOwn, partAV, mvL, AV.mv, AV.base, AV.moved, kBld, bldK, wrK, stK, AV.selfOk, AV.src, TI.flat, apSize, pickAV, St.val, St.cond, St.fn, St.next, St.set, St.trim, wipe_eq, wipeE_app, wipeM_app, pickEnv, get?, cGet, upd_app, withPuts, killAll, rm, freshP, Oper.hnd, Sc.st, ofConst, constOk, lenAV, elemLen, loadAV, ldL, ld1, fieldAddrAV, indexAddrAV, sliceAV, convAV, buildAV, fillAV, fieldAV, Out.of, binAV, AV.rows, AV.one, AV.cells, AV.deepOk, AV.toD, toDs, partRows, partRowsM, partsDeep, TK.zeroAV, TK.zeroD, byteOf, inR, Op.operands, Call.operands, passVs, passV, passL, pass1, passB, pasVs, pasV, pasL, pas1, ownsOk, okHs, okHs2, okFin, finOk2, rho, over, backRes, backAV, backAV1, backBlk, putBack, back2, back2_V, back2_1, m2, AV.wipe, AV.wipeV, AV.wipe1, Blk.wipe, AV.hs, AV.hs.hsL, alOps, Con.start2, Con.pk, bodyQ, fini, resAV, resA, firstId, Sc.from, renEnv, renT, renV, renVs, renL, ren1, renBox, renOwn, okRen, clOf, actB, setRow, flatRows, flatD, noInv, shr_nil, shr_some, kStepF_some, shareL, AV.viewed, AV.viewed1, cRdLine, Con.fn, tTabR, tTab]
  try dsimp only
  refine ⟨by omega, fun _ _ => ⟨fun h => ?_, fun h => ⟨by omega, fun _ _ => ⟨by omega, fun _ => ⟨by omega, fun hi => ?_⟩⟩⟩⟩⟩
  · have e : rdLine ls (i, b) = ([], (i, true)) := if_pos (by show ls.length ≤ i + 1; omega)
    rw [e]; exact ⟨rfl, rfl, rfl⟩
  · have e : rdLine ls (i, b) = (ls.getD i [], (i + 1, b)) := if_neg (by show ¬ ls.length ≤ i + 1; omega)
    have e2 : Option.map eStr ls[i]? = some (eStr ls[i]) := by rw [List.getElem?_eq_getElem hi]; rfl
    rw [e2, e]
    simp -implicitDefEqProofs [eStr, hi]
def cRdMore : Con := { A := (List Str × (Nat × Bool)) × Str, X := Unit, n := 46, args := fun a => [.ptr 0 0, .str a.2], boxes := fun a => [(0, 85, [.sl true 1 (eStrs a.1.1), .int .i64 a.1.2.1, .bool a.1.2.2])], pre := fun a => r24p a.1.1 a.1.2 ∧ a.2.length ≤ 1048576, post := fun _ _ => True, res := fun a _ => .bool (rdMore a.1.1 a.2 a.1.2), fin := fun a _ => [(0, r24 a.1.1 a.1.2)], nob := false }
set_option maxHeartbeats 4000000 in
theorem rdMore_has : Has Tryz.prog 69 cRdMore := by
  refine has_walk mixed tTabR_ok (l := []) HasL.nil [0, 1, 4, 5] ((fun a n (_ : Nat) => (fun _ => noInv) a n)) [] Tryz.func69 (by kernel_rfl) (code := _) (by unfold Tryz.f69; rfl) (by kernel_rfl) (by decide) (fun _ => ⟨(), trivial⟩) (by intro h; first | exact fun _ => rfl | cases h) (by kernel_rfl) ?_
  intro a ha
  obtain ⟨⟨ls, i, b⟩, hd⟩ := a
  obtain ⟨⟨h1, h2⟩, h3⟩ : (ls.length ≤ 1048577 ∧ i ≤ 1048577) ∧ hd.length ≤ 1048576 := ha
  simp -implicitDefEqProofs [vc_skip, extOf, vc_seq, vc_cond, vc_block, vc_exit, vc_ret, vc_region, vc_regionD, vc_loop, kSeq_normal, kSeq_ret, kSeq_exit, kBlock_normal, kBlock_ret, kBlock_exit, kLoop_normal, kLoop_ret, kLoop_exit, kCond_bool, kNorm_app, vcOps_nil, vcOps_cons, kOps_app, kStep_some, kStep_none, vcDL_nil, vcDL_cons, kOpsD_app, kStepD_true, kStepD_tt, kStepD_false, ldB, btys, btyAct, kStepC_some, kStepC_none, kMv_app, act3_store, act3_call, act3_bs, kAct_app, kSt2_app, stealSlots, stealL, stealOne, subIn, AV.stolen, act_store, act_bs, act_append, act_call, kSet_app, kSet2_app, kSetG_app, kSetG_app0, kStore_ptr, kStore_eptr, kCallW_some, kCallC_some, kCall_some, wk_T, wk_n, wk_keep, wk_inv, wk_act, wk_dr, wk_le, aCalm, wantC, dstOk, calm, aCallK, aCall3K, subOf, subRep, aCall2K, apnd, bsMove, putBox, putOwn, partAV, mvL, AV.mv, AV.base, AV.moved, kBld, bldK, wrK, stK, AV.selfOk, AV.src, TI.flat, apSize, pickAV, St.val, St.cond, St.fn, St.next, St.set, St.trim, wipe_eq, wipeE_app, wipeM_app, pickEnv, get?, cGet, upd_app, withPuts, killAll, rm, freshP, Oper.hnd, Sc.st, ofConst, constOk, lenAV, elemLen, loadAV, ldL, ld1, fieldAddrAV, indexAddrAV, sliceAV, convAV, buildAV, fillAV, fieldAV, Out.of, binAV, AV.rows, AV.one, AV.cells, AV.deepOk, AV.toD, toDs, partRows, partRowsM, partsDeep, TK.zeroAV, TK.zeroD, byteOf, inR, Op.operands, Call.operands, passVs, passV, passL, pass1, passB, pasVs, pasV, pasL, pas1, ownsOk, okHs, okHs2, okFin, finOk2, rho, over, backRes, backAV, backAV1, backBlk, putBack, back2, back2_V, back2_1, m2, AV.wipe, AV.wipeV, AV.wipe1, Blk.wipe, AV.hs, AV.hs.hsL, alOps, Con.start2, Con.pk, bodyQ, fini, resAV, resA, firstId, Sc.from, renEnv, renT, renV, renVs, renL, ren1, renBox, renOwn, okRen, clOf, actB, setRow, flatRows, flatD, noInv, shr_nil, shr_some, kStepF_some, shareL, AV.viewed, AV.viewed1, cRdMore, Con.fn, tTabR, tTab]
  try dsimp only
  refine ⟨fun h => by subst h; rfl, fun h => ⟨by omega, fun _ _ => ⟨fun hl => ?_, fun hl => ⟨by omega, fun hi => ?_⟩⟩⟩⟩
  · have : ¬ i + 1 < ls.length := by omega
    simp -implicitDefEqProofs [rdMore, this]
  · have e2 : Option.map eStr ls[i]? = some (eStr ls[i]) := by rw [List.getElem?_eq_getElem hi]; rfl
    have e3 : rdMore ls hd (i, b) = prefB hd ls[i] := by
      have : i + 1 < ls.length := by omega
      subst h
      simp -implicitDefEqProofs [rdMore, this, hi]
    rw [e2, e3]
    simp -implicitDefEqProofs [eStr, prefB]
    exact fun _ _ => ⟨fun h _ => ⟨h, fun _ => by simp -implicitDefEqProofs [h]⟩, fun h h' => absurd h' (by omega)⟩

theorem cutL_le {b : Int} {m : Nat} : ∀ {s c : Str} {n : Nat}, ∀ q ∈ cutL b m s c n, q.length ≤ c.length + s.length := by
  intro s
  induction s with
  | nil => intro c n q hq; simp -implicitDefEqProofs [cutL] at hq; simp -implicitDefEqProofs [hq]
  | cons x s ih =>
    intro c n q hq
    simp only [cutL] at hq
    split at hq
    · split at hq
      · rcases List.mem_cons.1 hq with rfl | hq
        · simp
        · have := ih q hq; simp at this ⊢; omega
      · have := ih q hq; simp at this ⊢; omega
    · simp at hq; subst hq; simp
theorem cutB_le {s : Str} {b : Int} {m : Nat} : ∀ q ∈ cutB s b m, q.length ≤ s.length := fun q hq => by
  have := cutL_le q hq; simpa using this
theorem rdText_succ {ls : List Str} : ∀ {n : Nat} {acc : List Str} {a : Nat × Bool}, rdText ls (n + 1) acc a = ((rdText ls n acc a).1 ++ [(rdLine ls (rdText ls n acc a).2).1], (rdLine ls (rdText ls n acc a).2).2) := by
  intro n
  induction n with
  | zero => intro acc a; rfl
  | succ n ih => intro acc a; rw [rdText, ih]; rfl
theorem rdText_len {ls : List Str} : ∀ {n : Nat} {acc : List Str} {a : Nat × Bool}, (rdText ls n acc a).1.length = acc.length + n := by
  intro n
  induction n with
  | zero => intro acc a; rfl
  | succ n ih => intro acc a; rw [rdText, ih]; simp; omega
theorem rdLine_bd {ls : List Str} {a : Nat × Bool} (h : ls.length ≤ 1048577) (h1 : a.1 ≤ 1048577) : (rdLine ls a).2.1 ≤ 1048577 := by
  unfold rdLine; split
  · exact h1
  · show a.1 + 1 ≤ _; omega
theorem rdLine_len {ls : List Str} {a : Nat × Bool} (h : ∀ l ∈ ls, l.length ≤ 1073741824) : (rdLine ls a).1.length ≤ 1073741824 := by
  unfold rdLine; split
  · simp
  · rename_i h1
    have : a.1 < ls.length := by omega
    rw [List.getD_eq_getElem?_getD, List.getElem?_eq_getElem this]
    exact h _ (List.getElem_mem this)
theorem rdText_bd {ls : List Str} (h : ls.length ≤ 1048577) : ∀ {n : Nat} {acc : List Str} {a : Nat × Bool}, a.1 ≤ 1048577 → (rdText ls n acc a).2.1 ≤ 1048577 := by
  intro n
  induction n with
  | zero => intro acc a h1; exact h1
  | succ n ih => intro acc a h1; rw [rdText]; exact ih (rdLine_bd h h1)
/-- The words of the next line, and what one more file makes of what was read. -/
def trW (ls : List Str) (s : List FileD × (Nat × Bool)) : List Str := cutB (rdLine ls s.2).1 32 3
def trT (ls : List Str) (s : List FileD × (Nat × Bool)) (k : Nat) : List Str × (Nat × Bool) := rdText ls k [] (rdLine ls s.2).2
def trN (ls : List Str) (s : List FileD × (Nat × Bool)) : Int := numB ((trW ls s).getD 2 [])
def trStep (ls : List Str) (s : List FileD × (Nat × Bool)) : List FileD × (Nat × Bool) := (s.1 ++ [⟨(trW ls s).getD 1 [], (trT ls s (trN ls s).toNat).1⟩], (trT ls s (trN ls s).toNat).2)
def trAt (ls : List Str) (a : Nat × Bool) : Nat → List FileD × (Nat × Bool)
  | 0 => ([], a)
  | i + 1 => trStep ls (trAt ls a i)
theorem trAt_len {ls a} : ∀ i, (trAt ls a i).1.length = i := by
  intro i
  induction i with
  | zero => rfl
  | succ i ih => simp -implicitDefEqProofs [trAt, trStep, ih]
theorem trAt_bd {ls : List Str} {a : Nat × Bool} (h : ls.length ≤ 1048577) (h1 : a.1 ≤ 1048577) : ∀ i, (trAt ls a i).2.1 ≤ 1048577 := by
  intro i
  induction i with
  | zero => exact h1
  | succ i ih => exact rdText_bd h (rdLine_bd h ih)
def trFile : Str := [102, 105, 108, 101, 32]
theorem tr_step {ls : List Str} {a : Nat × Bool} {i : Nat} (hi : i < 8) :
    (rdMore ls trFile (trAt ls a i).2 = false → rdTree ls (8 - i) (trAt ls a i).1 (trAt ls a i).2 = trAt ls a i) ∧
    (rdMore ls trFile (trAt ls a i).2 = true → (¬ (trW ls (trAt ls a i)).length = 3 ∨ 10 < trN ls (trAt ls a i)) → rdTree ls (8 - i) (trAt ls a i).1 (trAt ls a i).2 = ([], ((rdLine ls (trAt ls a i).2).2.1, true))) ∧
    (rdMore ls trFile (trAt ls a i).2 = true → (trW ls (trAt ls a i)).length = 3 → trN ls (trAt ls a i) ≤ 10 → rdTree ls (8 - i) (trAt ls a i).1 (trAt ls a i).2 = rdTree ls (8 - (i + 1)) (trAt ls a (i + 1)).1 (trAt ls a (i + 1)).2) := by
  obtain ⟨n, hn⟩ : ∃ n, 8 - i = n + 1 := ⟨7 - i, by omega⟩
  have hn' : 8 - (i + 1) = n := by omega
  rw [hn, hn']
  refine ⟨fun h => ?_, fun h h' => ?_, fun h h1 h2 => ?_⟩
  · have h : rdMore ls [102, 105, 108, 101, 32] (trAt ls a i).2 = false := h
    rw [rdTree, h]; rfl
  · have h : rdMore ls [102, 105, 108, 101, 32] (trAt ls a i).2 = true := h
    rw [rdTree, h, if_pos rfl]
    exact if_pos h'
  · have h : rdMore ls [102, 105, 108, 101, 32] (trAt ls a i).2 = true := h
    rw [rdTree, h, if_pos rfl]
    exact if_neg fun q => q.elim (fun q => q h1) fun q => by have : trN ls (trAt ls a i) ≤ 10 := h2; have : 10 < trN ls (trAt ls a i) := q; omega

def trO (ls : List Str) (a : Nat × Bool) : Inv := ⟨Nat, fun i => ⟨[(0, true, .ptr 0 0), (2, true, .nil), (3, true, .own 9 2 (eFiles (trAt ls a i).1))], [(0, r24 ls (trAt ls a i).2), (9, .own 106 2 true (eFiles (trAt ls a i).1))]⟩,
  fun i => i ≤ 8 ∧ rdTree ls (8 - i) (trAt ls a i).1 (trAt ls a i).2 = rdTree ls 8 [] a, fun i => 8 - i⟩
def trI (ls : List Str) (a : Nat × Bool) (g : Nat) : Inv := ⟨Nat, fun k => ⟨[(0, true, .ptr 0 0), (2, true, .nil), (3, true, .own 9 2 (eFiles (trAt ls a g).1)), (4, true, .own 12 1 (eStrs (trW ls (trAt ls a g)))), (5, true, .ptr 10 0), (6, true, .int .i64 k)],
  [(0, r24 ls (trT ls (trAt ls a g) k).2), (9, .own 106 2 true (eFiles (trAt ls a g).1)), (12, .own 9 1 true (eStrs (trW ls (trAt ls a g)))), (10, .box 106 [.str ((trW ls (trAt ls a g)).getD 1 []), .own 11 1 (eStrs (trT ls (trAt ls a g) k).1)]), (11, .own 9 1 true (eStrs (trT ls (trAt ls a g) k).1))]⟩,
  fun k => g < 8 ∧ rdMore ls trFile (trAt ls a g).2 = true ∧ (trW ls (trAt ls a g)).length = 3 ∧ trN ls (trAt ls a g) ≤ 10 ∧ k ≤ (trN ls (trAt ls a g)).toNat ∧ rdTree ls (8 - g) (trAt ls a g).1 (trAt ls a g).2 = rdTree ls 8 [] a, fun k => 11 - k⟩
def trInv (ls : List Str) (a : Nat × Bool) (n g : Nat) : Inv := if n = 2 then trO ls a else trI ls a g
theorem trInv_2 (ls a g) : trInv ls a 2 g = trO ls a := rfl
theorem trInv_9 (ls a g) : trInv ls a 9 g = trI ls a g := rfl
def cRdTree : Con := { A := List Str × (Nat × Bool), X := Unit, n := 55, args := fun _ => [.ptr 0 0], boxes := fun a => [(0, 85, [.sl true 1 (eStrs a.1), .int .i64 a.2.1, .bool a.2.2])], pre := fun a => r24p a.1 a.2 ∧ ∀ l ∈ a.1, l.length ≤ 1073741824, post := fun _ _ => True, res := fun a _ => .own 8 2 (eFiles (rdTree a.1 8 [] a.2).1), fin := fun a _ => [(0, r24 a.1 (rdTree a.1 8 [] a.2).2), (8, .own 106 2 true (eFiles (rdTree a.1 8 [] a.2).1))], nob := false }
set_option maxHeartbeats 4000000 in
theorem rdTree_has : Has Tryz.prog 72 cRdTree := by
  refine has_walk mixed tTabR_ok (l := [(69, cRdMore), (70, cRdLine), (68, cL1Cut), (71, cNumB)]) (HasL.cons rdMore_has (HasL.cons rdLine_has (HasL.cons l1Cut_has (HasL.cons numB_has HasL.nil)))) [0, 2, 3, 4, 5, 6] (fun a => trInv a.1 a.2) [52, 8191] Tryz.func72 (by kernel_rfl) (code := _) (by unfold Tryz.f72; rfl) (by kernel_rfl) (by decide) (fun _ => ⟨(), trivial⟩) (by intro h; first | exact fun _ => rfl | cases h) (by kernel_rfl) ?_
  intro a ha
  obtain ⟨ls, i, b⟩ := a
  obtain ⟨⟨h1, h2⟩, h3⟩ : (ls.length ≤ 1048577 ∧ i ≤ 1048577) ∧ ∀ l ∈ ls, l.length ≤ 1073741824 := ha
  simp -implicitDefEqProofs [vc_skip, extOf, vc_seq, vc_cond, vc_block, vc_exit, vc_ret, vc_region, vc_regionD, vc_loop, kSeq_normal, kSeq_ret, kSeq_exit, kBlock_normal, kBlock_ret, kBlock_exit, kLoop_normal, kLoop_ret, kLoop_exit, kCond_bool, kNorm_app, vcOps_nil, vcOps_cons, kOps_app, kStep_some, kStep_none, vcDL_nil, vcDL_cons, kOpsD_app, kStepD_true, kStepD_tt, kStepD_false, ldB, btys, btyAct, kStepC_some, kStepC_none, kMv_app, act3_store, act3_call, act3_bs, kAct_app, kSt2_app, stealSlots, stealL, stealOne, subIn, AV.stolen, act_store, act_bs, act_append, act_call, kSet_app, kSet2_app, kSetG_app, kSetG_app0, kStore_ptr, kStore_eptr, kCallW_some, kCallC_some, kCall_some, wk_T, wk_n, wk_keep, wk_inv, wk_act, wk_dr, wk_le, aCalm, wantC, dstOk, calm, aCallK, aCall3K, subOf, subRep, aCall2K, apnd, bsMove, putBox, putOwn, partAV, mvL, AV.mv, AV.base, AV.moved, kBld, bldK, wrK, stK, AV.selfOk, AV.src, TI.flat, apSize, pickAV, St.val, St.cond, St.fn, St.next, St.set, St.trim, wipe_eq, wipeE_app, wipeM_app, pickEnv, get?, cGet, upd_app, withPuts, killAll, rm, freshP, Oper.hnd, Sc.st, ofConst, constOk, lenAV, elemLen, loadAV, ldL, ld1, fieldAddrAV, indexAddrAV, sliceAV, convAV, buildAV, fillAV, fieldAV, Out.of, binAV, AV.rows, AV.one, AV.cells, AV.deepOk, AV.toD, toDs, partRows, partRowsM, partsDeep, TK.zeroAV, TK.zeroD, byteOf, inR, Op.operands, Call.operands, passVs, passV, passL, pass1, passB, pasVs, pasV, pasL, pas1, ownsOk, okHs, okHs2, okFin, finOk2, rho, over, backRes, backAV, backAV1, backBlk, putBack, back2, back2_V, back2_1, m2, AV.wipe, AV.wipeV, AV.wipe1, Blk.wipe, AV.hs, AV.hs.hsL, alOps, Con.start2, Con.pk, bodyQ, fini, resAV, resA, firstId, Sc.from, renEnv, renT, renV, renVs, renL, ren1, renBox, renOwn, okRen, clOf, actB, setRow, flatRows, flatD, noInv, shr_nil, shr_some, kStepF_some, shareL, AV.viewed, AV.viewed1, cRdTree, cRdMore, cRdLine, cL1Cut, cNumB, Con.fn, tTabR, tTab, -Bool.exists_bool, trInv_2, trInv_9, trO, trI]
  try dsimp only
  refine ⟨⟨0, ⟨rfl, ⟨rfl, rfl⟩, rfl⟩, by omega, rfl⟩, fun t ht hR => ?_⟩
  have hbd := trAt_bd (a := (i, b)) h1 h2 t
  have hln := trAt_len (ls := ls) (a := (i, b)) t
  have h8e : t = 8 → rdTree ls 8 [] (i, b) = trAt ls (i, b) t := fun e => by rw [← hR, e]; rfl
  refine ⟨ls, (trAt ls (i, b) t).2.1, (trAt ls (i, b) t).2.2, ⟨rfl, rfl, rfl⟩, ⟨h1, hbd⟩, fun hm hl => ⟨fun h8 => ?_, fun h8 => ?_⟩, fun hm => ?_⟩
  · have hlt : t < 8 := by omega
    obtain ⟨_, s2, s3⟩ := tr_step (ls := ls) (a := (i, b)) hlt
    rw [hR] at s2 s3
    refine ⟨ls, (trAt ls (i, b) t).2.1, (trAt ls (i, b) t).2.2, ⟨rfl, rfl, rfl⟩, ⟨h1, hbd⟩, (rdLine ls (trAt ls (i, b) t).2).1, 32, 3, ⟨rfl, rfl, rfl⟩, by omega, fun hw => ⟨fun hn3 => ?_, fun h3' => ⟨by omega, fun _ => ?_⟩⟩⟩
    · rw [s2 hm (.inl fun q => hn3 (by have : (cutB (rdLine ls (trAt ls (i, b) t).2).1 32 3).length = 3 := q; omega))]
      exact ⟨rfl, ⟨rfl, rfl, rfl⟩, rfl⟩
    · have h3l : (cutB (rdLine ls (trAt ls (i, b) t).2).1 32 3).length = 3 := by omega
      have hle := fun q hq => cutB_le (s := (rdLine ls (trAt ls (i, b) t).2).1) (b := 32) (m := 3) q hq
      have hlen := rdLine_len (ls := ls) (a := (trAt ls (i, b) t).2) h3
      obtain ⟨x, y, z, hW⟩ : ∃ x y z, cutB (rdLine ls (trAt ls (i, b) t).2).1 32 3 = [x, y, z] := by
        match hq : cutB (rdLine ls (trAt ls (i, b) t).2).1 32 3, h3l with
        | [x, y, z], _ => exact ⟨x, y, z, rfl⟩
      have hT : trW ls (trAt ls (i, b) t) = [x, y, z] := hW
      have hN : trN ls (trAt ls (i, b) t) = numB z := by unfold trN; rw [hT]; rfl
      rw [hT] at s2 s3
      rw [hN] at s2 s3
      have hz := hle z (by rw [hW]; simp)
      rw [hW]
      simp -implicitDefEqProofs [eStr, -Bool.exists_bool]
      refine ⟨by omega, fun h10 => ?_, fun h10 => ?_⟩
      · rw [s2 hm (.inr h10)]
        exact ⟨rfl, ⟨rfl, rfl⟩, rfl⟩
      · have s3 := s3 hm rfl h10
        refine ⟨t, ⟨0, ⟨⟨rfl, hT, rfl⟩, ⟨⟨rfl, rfl⟩, by rw [hT]; rfl, rfl⟩, rfl, hT.symm, rfl⟩, hlt, hm, by rw [hT]; rfl, by rw [hN]; exact h10, by omega, hR⟩, fun k _ _ _ _ hk _ => ?_⟩
        rw [hN] at hk
        have hkl : (trT ls (trAt ls (i, b) t) k).1.length = k := by unfold trT; rw [rdText_len]; simp
        have hkb : (trT ls (trAt ls (i, b) t) k).2.1 ≤ 1048577 := rdText_bd h1 (rdLine_bd h1 hbd)
        have hks : trT ls (trAt ls (i, b) t) (k + 1) = ((trT ls (trAt ls (i, b) t) k).1 ++ [(rdLine ls (trT ls (trAt ls (i, b) t) k).2).1], (rdLine ls (trT ls (trAt ls (i, b) t) k).2).2) := rdText_succ
        rw [hT, hN]
        simp -implicitDefEqProofs [eStr, -Bool.exists_bool]
        refine ⟨by omega, fun hk2 => ?_, fun hk2 => ?_⟩
        · refine ⟨ls, (trT ls (trAt ls (i, b) t) k).2.1, (trT ls (trAt ls (i, b) t) k).2.2, ⟨rfl, rfl, rfl⟩, ⟨h1, hkb⟩, by rw [hkl]; omega, by omega, fun _ _ => ⟨k + 1, ?_, ?_⟩⟩
          · rw [hks]
            exact ⟨by omega, ⟨⟨rfl, rfl, rfl⟩, by simp -implicitDefEqProofs [eStrs, eStr]⟩, by simp -implicitDefEqProofs [eStrs, eStr]⟩
          · exact ⟨⟨hlt, hm, h10, by omega, hR⟩, by omega⟩
        · have hke : k = (numB z).toNat := by omega
          have ha : trAt ls (i, b) (t + 1) = ((trAt ls (i, b) t).1 ++ [⟨y, (trT ls (trAt ls (i, b) t) k).1⟩], (trT ls (trAt ls (i, b) t) k).2) := by
            show trStep ls (trAt ls (i, b) t) = _
            unfold trStep
            rw [hT, hN, ← hke]
            rfl
          refine ⟨by rw [hln]; omega, t + 1, ?_, ⟨by omega, s3.symm⟩, by omega⟩
          rw [ha]
          exact ⟨by simp -implicitDefEqProofs [eFiles, eFile], ⟨rfl, rfl⟩, by simp -implicitDefEqProofs [eFiles, eFile]⟩
  · rw [h8e (by omega)]; exact ⟨rfl, ⟨rfl, rfl, rfl⟩, rfl⟩
  · by_cases h8 : t = 8
    · rw [h8e h8]; exact ⟨rfl, ⟨rfl, rfl, rfl⟩, rfl⟩
    · have s1 := (tr_step (ls := ls) (a := (i, b)) (show t < 8 by omega)).1
      rw [hR] at s1
      rw [s1 hm]; exact ⟨rfl, ⟨rfl, rfl, rfl⟩, rfl⟩

theorem rdTree_bd {ls : List Str} (h : ls.length ≤ 1048577) : ∀ {n : Nat} {t : List FileD} {a : Nat × Bool}, a.1 ≤ 1048577 → (rdTree ls n t a).2.1 ≤ 1048577 := by
  intro n
  induction n with
  | zero => intro t a h1; exact h1
  | succ n ih =>
    intro t a h1
    rw [rdTree]
    split
    · split
      · exact rdLine_bd h h1
      · exact ih (rdText_bd h (rdLine_bd h h1))
    · exact h1

end Vx
end Go.Proofs.YthmhaggmcfemnaaGreatDoor
/-
  Contracts: sizes of repositories.
-/
namespace Go.Proofs.YthmhaggmcfemnaaGreatDoor
namespace Vx
open Go.RowKit

def szI (a : List Int) (l : Int) : Int := if l - a.length < 0 then -1 else l - a.length
theorem szI_le {a : List Int} {l : Int} (h : 0 ≤ l) : szI a l ≤ l := by unfold szI; split <;> omega
def szHd (f : HeadD) (l : Int) : Int := if l - f.name.length < 0 then -1 else l - f.name.length
theorem szHd_le {f : HeadD} {l : Int} (h : 0 ≤ l) : szHd f l ≤ l := by unfold szHd; split <;> omega
def szHL : List HeadD → Int → Int
  | [], l => l
  | f :: r, l => if szHd f l < 0 then -1 else szHL r (szHd f l)
def szHeads (a : List HeadD) (l : Int) : Int := if l - a.length < 0 then -1 else szHL a (l - a.length)
theorem szHL_step {a : List HeadD} {i : Nat} {l : Int} (h : i < a.length) : szHL (a.drop i) l = if szHd a[i] l < 0 then -1 else szHL (a.drop (i + 1)) (szHd a[i] l) := by
  rw [List.drop_eq_getElem_cons h]; rfl
theorem szHL_end {a : List HeadD} {i : Nat} {l : Int} (h : a.length ≤ i) : szHL (a.drop i) l = l := by
  rw [List.drop_eq_nil_of_le h]; rfl
theorem szFL_leD : ∀ {a : List FileD} {l : Int}, 0 ≤ l → szFL a l ≤ l := by
  intro a
  induction a with
  | nil => intro l _; exact Int.le_refl l
  | cons s r ih =>
    intro l h
    simp only [szFL]
    split
    · omega
    · have h1 := szF_le (f := s) h
      have := ih (l := szF s l) (by omega); omega
theorem szFs_le {a : List FileD} {l : Int} (h : 0 ≤ l) : szFiles a l ≤ l := by
  unfold szFiles
  split
  · omega
  · have := szFL_leD (a := a) (l := l - a.length) (by omega); omega

def szCm (c : CommitD) (l : Int) : Int :=
  if szI c.parents l < 0 then -1 else if szI c.parents l - c.who.length < 0 then -1 else if szFiles c.tree (szI c.parents l - c.who.length) < 0 then -1 else szFiles c.tree (szI c.parents l - c.who.length)
theorem szCm_le {c : CommitD} {l : Int} (h : 0 ≤ l) : szCm c l ≤ l := by
  unfold szCm
  have h1 := szI_le (a := c.parents) h
  split
  · omega
  · split
    · omega
    · split
      · omega
      · have := szFs_le (a := c.tree) (l := szI c.parents l - c.who.length) (by omega); omega
def szCL : List CommitD → Int → Int
  | [], l => l
  | f :: r, l => if szCm f l < 0 then -1 else szCL r (szCm f l)
def szCommits (a : List CommitD) (l : Int) : Int := if l - a.length < 0 then -1 else szCL a (l - a.length)
theorem szCL_step {a : List CommitD} {i : Nat} {l : Int} (h : i < a.length) : szCL (a.drop i) l = if szCm a[i] l < 0 then -1 else szCL (a.drop (i + 1)) (szCm a[i] l) := by
  rw [List.drop_eq_getElem_cons h]; rfl
theorem szCL_end {a : List CommitD} {i : Nat} {l : Int} (h : a.length ≤ i) : szCL (a.drop i) l = l := by
  rw [List.drop_eq_nil_of_le h]; rfl
theorem szCL_le : ∀ {a : List CommitD} {l : Int}, 0 ≤ l → szCL a l ≤ l := by
  intro a
  induction a with
  | nil => intro l _; exact Int.le_refl l
  | cons s r ih =>
    intro l h
    simp only [szCL]
    split
    · omega
    · have h1 := szCm_le (c := s) h
      have := ih (l := szCm s l) (by omega); omega
theorem szCommits_le {a : List CommitD} {l : Int} (h : 0 ≤ l) : szCommits a l ≤ l := by
  unfold szCommits
  split
  · omega
  · have := szCL_le (a := a) (l := l - a.length) (by omega); omega
def szRp (r : RepoD) (l : Int) : Int := if szCommits r.commits l < 0 then -1 else if szHeads r.heads (szCommits r.commits l) < 0 then -1 else szHeads r.heads (szCommits r.commits l)
end Vx
end Go.Proofs.YthmhaggmcfemnaaGreatDoor
/-
  Contracts: copies of repositories.
-/
namespace Go.Proofs.YthmhaggmcfemnaaGreatDoor
namespace Vx
open Go.RowKit

def cmSz (c : CommitD) : Prop := c.parents.length ≤ 1048576 ∧ c.tree.length ≤ 1048576 ∧ ∀ g ∈ c.tree, g.text.length ≤ 1048576
def rpSz (r : RepoD) : Prop := r.commits.length ≤ 1048576 ∧ (∀ c ∈ r.commits, cmSz c) ∧ r.heads.length ≤ 1048576
end Vx
end Go.Proofs.YthmhaggmcfemnaaGreatDoor
/-
  Contracts: comparisons of repositories.
-/
namespace Go.Proofs.YthmhaggmcfemnaaGreatDoor
namespace Vx
open Go.RowKit

def cEqIntS : Con := .fn 26 (List Int × List Int) (fun a => [.sl true 1 (eInts a.1), .sl true 1 (eInts a.2)]) (fun _ => True) (fun a => .bool (decide (a.1 = a.2))) (fun _ => [])
set_option maxHeartbeats 4000000 in
theorem eqIntS_has : Has Tryz.prog 138 cEqIntS := by
  refine has_walk mixed tTab_ok (l := []) HasL.nil [0, 1, 2, 3, 4, 5] ((fun a n (_ : Nat) => (fun a _ => ⟨Nat, fun i => ⟨[(0, true, .sl true 1 (eInts a.1)), (1, true, .sl true 1 (eInts a.2)), (4, true, .bool false), (5, true, .int .i64 i)], []⟩, fun i => i ≤ a.1.length ∧ a.1.length = a.2.length ∧ a.1.take i = a.2.take i, fun i => a.1.length - i⟩) a n)) [] Tryz.func138 (by kernel_rfl) (code := _) (by unfold Tryz.f138; rfl) (by kernel_rfl) (by decide) (fun _ => ⟨(), trivial⟩) (by intro h; first | exact fun _ => rfl | cases h) (by kernel_rfl) ?_
  intro a _
  obtain ⟨l, r⟩ := a
  simp -implicitDefEqProofs [vc_skip, extOf, vc_seq, vc_cond, vc_block, vc_exit, vc_ret, vc_region, vc_regionD, vc_loop, kSeq_normal, kSeq_ret, kSeq_exit, kBlock_normal, kBlock_ret, kBlock_exit, kLoop_normal, kLoop_ret, kLoop_exit, kCond_bool, kNorm_app, vcOps_nil, vcOps_cons, kOps_app, kStep_some, kStep_none, vcDL_nil, vcDL_cons, kOpsD_app, kStepD_true, kStepD_tt, kStepD_false, ldB, btys, btyAct, kStepC_some, kStepC_none, kMv_app, act3_store, act3_call, act3_bs, kAct_app, kSt2_app, stealSlots, stealL, stealOne, subIn, AV.stolen, act_store, act_bs, act_append, act_call, kSet_app, kSet2_app, kSetG_app, kSetG_app0, kStore_ptr, kStore_eptr, kCallW_some, kCallC_some, kCall_some, wk_T, wk_n, wk_keep, wk_inv, wk_act, wk_dr, wk_le, aCalm, wantC, dstOk, calm, aCallK, aCall3K, subOf, subRep, aCall2K, apnd, bsMove, putBox, putOwn, partAV, mvL, AV.mv, AV.base, AV.moved, kBld, bldK, wrK, stK, AV.selfOk, AV.src, TI.flat, apSize, pickAV, St.val, St.cond, St.fn, St.next, St.set, St.trim, wipe_eq, wipeE_app, wipeM_app, pickEnv, get?, cGet, upd_app, withPuts, killAll, rm, freshP, Oper.hnd, Sc.st, ofConst, constOk, lenAV, elemLen, loadAV, ldL, ld1, fieldAddrAV, indexAddrAV, sliceAV, convAV, buildAV, fillAV, fieldAV, Out.of, binAV, AV.rows, AV.one, AV.cells, AV.deepOk, AV.toD, toDs, partRows, partRowsM, partsDeep, TK.zeroAV, TK.zeroD, byteOf, inR, Op.operands, Call.operands, passVs, passV, passL, pass1, passB, pasVs, pasV, pasL, pas1, ownsOk, okHs, okHs2, okFin, finOk2, rho, over, backRes, backAV, backAV1, backBlk, putBack, back2, back2_V, back2_1, m2, AV.wipe, AV.wipeV, AV.wipe1, Blk.wipe, AV.hs, AV.hs.hsL, alOps, Con.start2, Con.pk, bodyQ, fini, resAV, resA, firstId, Sc.from, renEnv, renT, renV, renVs, renL, ren1, renBox, renOwn, okRen, clOf, actB, setRow, flatRows, flatD, noInv, shr_nil, shr_some, kStepF_some, shareL, AV.viewed, AV.viewed1, cEqIntS, Con.fn, tTab]
  try dsimp only
  try simp +contextual [eStr, eFile, cast_succ, cast_eq, cast_zero, List.getElem?_eq_getElem, eStrs_set, eFiles_set, eStrs_rep, eFiles_rep, ← eStrs_append, ← eFiles_append, eStrs_take, eStrs_drop, eFiles_take, eFiles_drop, eStrs_snoc, eFiles_snoc, and_assoc, eInt, eHead, eCommit, eInts_set, eInts_rep, eInts_take, eInts_drop, eInts_snoc, ← eInts_append, eHeads_set, eHeads_rep, eHeads_take, eHeads_drop, eHeads_snoc, ← eHeads_append, eCommits_set, eCommits_rep, eCommits_take, eCommits_drop, eCommits_snoc, ← eCommits_append]
  repeat' (first | intro _ | apply And.intro)
  all_goals first | omega | grind [all_take, eq_take, eq_end]

def cEqHead : Con := .fn 15 (HeadD × HeadD) (fun a => [.agg [.str a.1.name, .int .i64 a.1.at_], .agg [.str a.2.name, .int .i64 a.2.at_]]) (fun _ => True) (fun a => .bool (decide (a.1 = a.2))) (fun _ => [])
set_option maxHeartbeats 4000000 in
theorem eqHead_has : Has Tryz.prog 112 cEqHead := by
  refine has_walk mixed tTab_ok (l := []) HasL.nil [0, 1, 2, 3, 4] ((fun a n (_ : Nat) => (fun _ => noInv) a n)) [] Tryz.func112 (by kernel_rfl) (code := _) (by unfold Tryz.f112; rfl) (by kernel_rfl) (by decide) (fun _ => ⟨(), trivial⟩) (by intro h; first | exact fun _ => rfl | cases h) (by kernel_rfl) ?_
  intro a _
  obtain ⟨⟨p, x⟩, ⟨q, y⟩⟩ := a
  simp -implicitDefEqProofs [vc_skip, extOf, vc_seq, vc_cond, vc_block, vc_exit, vc_ret, vc_region, vc_regionD, vc_loop, kSeq_normal, kSeq_ret, kSeq_exit, kBlock_normal, kBlock_ret, kBlock_exit, kLoop_normal, kLoop_ret, kLoop_exit, kCond_bool, kNorm_app, vcOps_nil, vcOps_cons, kOps_app, kStep_some, kStep_none, vcDL_nil, vcDL_cons, kOpsD_app, kStepD_true, kStepD_tt, kStepD_false, ldB, btys, btyAct, kStepC_some, kStepC_none, kMv_app, act3_store, act3_call, act3_bs, kAct_app, kSt2_app, stealSlots, stealL, stealOne, subIn, AV.stolen, act_store, act_bs, act_append, act_call, kSet_app, kSet2_app, kSetG_app, kSetG_app0, kStore_ptr, kStore_eptr, kCallW_some, kCallC_some, kCall_some, wk_T, wk_n, wk_keep, wk_inv, wk_act, wk_dr, wk_le, aCalm, wantC, dstOk, calm, aCallK, aCall3K, subOf, subRep, aCall2K, apnd, bsMove, putBox, putOwn, partAV, mvL, AV.mv, AV.base, AV.moved, kBld, bldK, wrK, stK, AV.selfOk, AV.src, TI.flat, apSize, pickAV, St.val, St.cond, St.fn, St.next, St.set, St.trim, wipe_eq, wipeE_app, wipeM_app, pickEnv, get?, cGet, upd_app, withPuts, killAll, rm, freshP, Oper.hnd, Sc.st, ofConst, constOk, lenAV, elemLen, loadAV, ldL, ld1, fieldAddrAV, indexAddrAV, sliceAV, convAV, buildAV, fillAV, fieldAV, Out.of, binAV, AV.rows, AV.one, AV.cells, AV.deepOk, AV.toD, toDs, partRows, partRowsM, partsDeep, TK.zeroAV, TK.zeroD, byteOf, inR, Op.operands, Call.operands, passVs, passV, passL, pass1, passB, pasVs, pasV, pasL, pas1, ownsOk, okHs, okHs2, okFin, finOk2, rho, over, backRes, backAV, backAV1, backBlk, putBack, back2, back2_V, back2_1, m2, AV.wipe, AV.wipeV, AV.wipe1, Blk.wipe, AV.hs, AV.hs.hsL, alOps, Con.start2, Con.pk, bodyQ, fini, resAV, resA, firstId, Sc.from, renEnv, renT, renV, renVs, renL, ren1, renBox, renOwn, okRen, clOf, actB, setRow, flatRows, flatD, noInv, shr_nil, shr_some, kStepF_some, shareL, AV.viewed, AV.viewed1, cEqHead, Con.fn, tTab]
  try dsimp only
  try simp +contextual [eStr, eFile, cast_succ, cast_eq, cast_zero, List.getElem?_eq_getElem, eStrs_set, eFiles_set, eStrs_rep, eFiles_rep, ← eStrs_append, ← eFiles_append, eStrs_take, eStrs_drop, eFiles_take, eFiles_drop, eStrs_snoc, eFiles_snoc, and_assoc]
  repeat' (first | intro _ | apply And.intro)
  all_goals first | omega | grind [all_take]

def cEqHeadS : Con := .fn 27 (List HeadD × List HeadD) (fun a => [.sl true 2 (eHeads a.1), .sl true 2 (eHeads a.2)]) (fun _ => True) (fun a => .bool (decide (a.1 = a.2))) (fun _ => [])
set_option maxHeartbeats 4000000 in
theorem eqHeadS_has : Has Tryz.prog 80 cEqHeadS := by
  refine has_walk mixed tTab_ok (l := [(112, cEqHead)]) (HasL.cons eqHead_has HasL.nil) [0, 1, 2, 3, 4, 5] ((fun a n (_ : Nat) => (fun a _ => ⟨Nat, fun i => ⟨[(0, true, .sl true 2 (eHeads a.1)), (1, true, .sl true 2 (eHeads a.2)), (4, true, .bool false), (5, true, .int .i64 i)], []⟩, fun i => i ≤ a.1.length ∧ a.1.length = a.2.length ∧ a.1.take i = a.2.take i, fun i => a.1.length - i⟩) a n)) [] Tryz.func80 (by kernel_rfl) (code := _) (by unfold Tryz.f80; rfl) (by kernel_rfl) (by decide) (fun _ => ⟨(), trivial⟩) (by intro h; first | exact fun _ => rfl | cases h) (by kernel_rfl) ?_
  intro a _
  obtain ⟨l, r⟩ := a
  simp -implicitDefEqProofs [vc_skip, extOf, vc_seq, vc_cond, vc_block, vc_exit, vc_ret, vc_region, vc_regionD, vc_loop, kSeq_normal, kSeq_ret, kSeq_exit, kBlock_normal, kBlock_ret, kBlock_exit, kLoop_normal, kLoop_ret, kLoop_exit, kCond_bool, kNorm_app, vcOps_nil, vcOps_cons, kOps_app, kStep_some, kStep_none, vcDL_nil, vcDL_cons, kOpsD_app, kStepD_true, kStepD_tt, kStepD_false, ldB, btys, btyAct, kStepC_some, kStepC_none, kMv_app, act3_store, act3_call, act3_bs, kAct_app, kSt2_app, stealSlots, stealL, stealOne, subIn, AV.stolen, act_store, act_bs, act_append, act_call, kSet_app, kSet2_app, kSetG_app, kSetG_app0, kStore_ptr, kStore_eptr, kCallW_some, kCallC_some, kCall_some, wk_T, wk_n, wk_keep, wk_inv, wk_act, wk_dr, wk_le, aCalm, wantC, dstOk, calm, aCallK, aCall3K, subOf, subRep, aCall2K, apnd, bsMove, putBox, putOwn, partAV, mvL, AV.mv, AV.base, AV.moved, kBld, bldK, wrK, stK, AV.selfOk, AV.src, TI.flat, apSize, pickAV, St.val, St.cond, St.fn, St.next, St.set, St.trim, wipe_eq, wipeE_app, wipeM_app, pickEnv, get?, cGet, upd_app, withPuts, killAll, rm, freshP, Oper.hnd, Sc.st, ofConst, constOk, lenAV, elemLen, loadAV, ldL, ld1, fieldAddrAV, indexAddrAV, sliceAV, convAV, buildAV, fillAV, fieldAV, Out.of, binAV, AV.rows, AV.one, AV.cells, AV.deepOk, AV.toD, toDs, partRows, partRowsM, partsDeep, TK.zeroAV, TK.zeroD, byteOf, inR, Op.operands, Call.operands, passVs, passV, passL, pass1, passB, pasVs, pasV, pasL, pas1, ownsOk, okHs, okHs2, okFin, finOk2, rho, over, backRes, backAV, backAV1, backBlk, putBack, back2, back2_V, back2_1, m2, AV.wipe, AV.wipeV, AV.wipe1, Blk.wipe, AV.hs, AV.hs.hsL, alOps, Con.start2, Con.pk, bodyQ, fini, resAV, resA, firstId, Sc.from, renEnv, renT, renV, renVs, renL, ren1, renBox, renOwn, okRen, clOf, actB, setRow, flatRows, flatD, noInv, shr_nil, shr_some, kStepF_some, shareL, AV.viewed, AV.viewed1, cEqHeadS, Con.fn, tTab, cEqHead]
  try dsimp only
  try simp +contextual [eStr, eFile, cast_succ, cast_eq, cast_zero, List.getElem?_eq_getElem, eStrs_set, eFiles_set, eStrs_rep, eFiles_rep, ← eStrs_append, ← eFiles_append, eStrs_take, eStrs_drop, eFiles_take, eFiles_drop, eStrs_snoc, eFiles_snoc, and_assoc, eInt, eHead, eCommit, eInts_set, eInts_rep, eInts_take, eInts_drop, eInts_snoc, ← eInts_append, eHeads_set, eHeads_rep, eHeads_take, eHeads_drop, eHeads_snoc, ← eHeads_append, eCommits_set, eCommits_rep, eCommits_take, eCommits_drop, eCommits_snoc, ← eCommits_append, ← HeadD.eq_iff]
  repeat' (first | intro _ | apply And.intro)
  all_goals first | omega | grind [all_take, eq_take, eq_end]

def cEqCommit : Con := .fn 22 (CommitD × CommitD) (fun a => [.agg [.sl true 1 (eInts a.1.parents), .str a.1.who, .sl true 2 (eFiles a.1.tree)], .agg [.sl true 1 (eInts a.2.parents), .str a.2.who, .sl true 2 (eFiles a.2.tree)]]) (fun _ => True) (fun a => .bool (decide (a.1 = a.2))) (fun _ => [])
set_option maxHeartbeats 4000000 in
theorem eqCommit_has : Has Tryz.prog 111 cEqCommit := by
  refine has_walk mixed tTab_ok (l := [(138, cEqIntS), (139, cEqFileS)]) (HasL.cons eqIntS_has (HasL.cons eqFileS_has HasL.nil)) [0, 1, 2, 3, 4] ((fun a n (_ : Nat) => (fun _ => noInv) a n)) [] Tryz.func111 (by kernel_rfl) (code := _) (by unfold Tryz.f111; rfl) (by kernel_rfl) (by decide) (fun _ => ⟨(), trivial⟩) (by intro h; first | exact fun _ => rfl | cases h) (by kernel_rfl) ?_
  intro a _
  obtain ⟨⟨p, x, s⟩, ⟨q, y, t⟩⟩ := a
  simp -implicitDefEqProofs [vc_skip, extOf, vc_seq, vc_cond, vc_block, vc_exit, vc_ret, vc_region, vc_regionD, vc_loop, kSeq_normal, kSeq_ret, kSeq_exit, kBlock_normal, kBlock_ret, kBlock_exit, kLoop_normal, kLoop_ret, kLoop_exit, kCond_bool, kNorm_app, vcOps_nil, vcOps_cons, kOps_app, kStep_some, kStep_none, vcDL_nil, vcDL_cons, kOpsD_app, kStepD_true, kStepD_tt, kStepD_false, ldB, btys, btyAct, kStepC_some, kStepC_none, kMv_app, act3_store, act3_call, act3_bs, kAct_app, kSt2_app, stealSlots, stealL, stealOne, subIn, AV.stolen, act_store, act_bs, act_append, act_call, kSet_app, kSet2_app, kSetG_app, kSetG_app0, kStore_ptr, kStore_eptr, kCallW_some, kCallC_some, kCall_some, wk_T, wk_n, wk_keep, wk_inv, wk_act, wk_dr, wk_le, aCalm, wantC, dstOk, calm, aCallK, aCall3K, subOf, subRep, aCall2K, apnd, bsMove, putBox, putOwn, partAV, mvL, AV.mv, AV.base, AV.moved, kBld, bldK, wrK, stK, AV.selfOk, AV.src, TI.flat, apSize, pickAV, St.val, St.cond, St.fn, St.next, St.set, St.trim, wipe_eq, wipeE_app, wipeM_app, pickEnv, get?, cGet, upd_app, withPuts, killAll, rm, freshP, Oper.hnd, Sc.st, ofConst, constOk, lenAV, elemLen, loadAV, ldL, ld1, fieldAddrAV, indexAddrAV, sliceAV, convAV, buildAV, fillAV, fieldAV, Out.of, binAV, AV.rows, AV.one, AV.cells, AV.deepOk, AV.toD, toDs, partRows, partRowsM, partsDeep, TK.zeroAV, TK.zeroD, byteOf, inR, Op.operands, Call.operands, passVs, passV, passL, pass1, passB, pasVs, pasV, pasL, pas1, ownsOk, okHs, okHs2, okFin, finOk2, rho, over, backRes, backAV, backAV1, backBlk, putBack, back2, back2_V, back2_1, m2, AV.wipe, AV.wipeV, AV.wipe1, Blk.wipe, AV.hs, AV.hs.hsL, alOps, Con.start2, Con.pk, bodyQ, fini, resAV, resA, firstId, Sc.from, renEnv, renT, renV, renVs, renL, ren1, renBox, renOwn, okRen, clOf, actB, setRow, flatRows, flatD, noInv, shr_nil, shr_some, kStepF_some, shareL, AV.viewed, AV.viewed1, cEqCommit, Con.fn, tTab, cEqIntS, cEqFileS]
  try dsimp only
  try simp +contextual [eStr, eFile, cast_succ, cast_eq, cast_zero, List.getElem?_eq_getElem, eStrs_set, eFiles_set, eStrs_rep, eFiles_rep, ← eStrs_append, ← eFiles_append, eStrs_take, eStrs_drop, eFiles_take, eFiles_drop, eStrs_snoc, eFiles_snoc, and_assoc]
  repeat' (first | intro _ | apply And.intro)
  all_goals first | omega | grind [all_take]

def cEqCommitS : Con := .fn 27 (List CommitD × List CommitD) (fun a => [.sl true 3 (eCommits a.1), .sl true 3 (eCommits a.2)]) (fun _ => True) (fun a => .bool (decide (a.1 = a.2))) (fun _ => [])
set_option maxHeartbeats 4000000 in
theorem eqCommitS_has : Has Tryz.prog 79 cEqCommitS := by
  refine has_walk mixed tTab_ok (l := [(111, cEqCommit)]) (HasL.cons eqCommit_has HasL.nil) [0, 1, 2, 3, 4, 5] ((fun a n (_ : Nat) => (fun a _ => ⟨Nat, fun i => ⟨[(0, true, .sl true 3 (eCommits a.1)), (1, true, .sl true 3 (eCommits a.2)), (4, true, .bool false), (5, true, .int .i64 i)], []⟩, fun i => i ≤ a.1.length ∧ a.1.length = a.2.length ∧ a.1.take i = a.2.take i, fun i => a.1.length - i⟩) a n)) [] Tryz.func79 (by kernel_rfl) (code := _) (by unfold Tryz.f79; rfl) (by kernel_rfl) (by decide) (fun _ => ⟨(), trivial⟩) (by intro h; first | exact fun _ => rfl | cases h) (by kernel_rfl) ?_
  intro a _
  obtain ⟨l, r⟩ := a
  simp -implicitDefEqProofs [vc_skip, extOf, vc_seq, vc_cond, vc_block, vc_exit, vc_ret, vc_region, vc_regionD, vc_loop, kSeq_normal, kSeq_ret, kSeq_exit, kBlock_normal, kBlock_ret, kBlock_exit, kLoop_normal, kLoop_ret, kLoop_exit, kCond_bool, kNorm_app, vcOps_nil, vcOps_cons, kOps_app, kStep_some, kStep_none, vcDL_nil, vcDL_cons, kOpsD_app, kStepD_true, kStepD_tt, kStepD_false, ldB, btys, btyAct, kStepC_some, kStepC_none, kMv_app, act3_store, act3_call, act3_bs, kAct_app, kSt2_app, stealSlots, stealL, stealOne, subIn, AV.stolen, act_store, act_bs, act_append, act_call, kSet_app, kSet2_app, kSetG_app, kSetG_app0, kStore_ptr, kStore_eptr, kCallW_some, kCallC_some, kCall_some, wk_T, wk_n, wk_keep, wk_inv, wk_act, wk_dr, wk_le, aCalm, wantC, dstOk, calm, aCallK, aCall3K, subOf, subRep, aCall2K, apnd, bsMove, putBox, putOwn, partAV, mvL, AV.mv, AV.base, AV.moved, kBld, bldK, wrK, stK, AV.selfOk, AV.src, TI.flat, apSize, pickAV, St.val, St.cond, St.fn, St.next, St.set, St.trim, wipe_eq, wipeE_app, wipeM_app, pickEnv, get?, cGet, upd_app, withPuts, killAll, rm, freshP, Oper.hnd, Sc.st, ofConst, constOk, lenAV, elemLen, loadAV, ldL, ld1, fieldAddrAV, indexAddrAV, sliceAV, convAV, buildAV, fillAV, fieldAV, Out.of, binAV, AV.rows, AV.one, AV.cells, AV.deepOk, AV.toD, toDs, partRows, partRowsM, partsDeep, TK.zeroAV, TK.zeroD, byteOf, inR, Op.operands, Call.operands, passVs, passV, passL, pass1, passB, pasVs, pasV, pasL, pas1, ownsOk, okHs, okHs2, okFin, finOk2, rho, over, backRes, backAV, backAV1, backBlk, putBack, back2, back2_V, back2_1, m2, AV.wipe, AV.wipeV, AV.wipe1, Blk.wipe, AV.hs, AV.hs.hsL, alOps, Con.start2, Con.pk, bodyQ, fini, resAV, resA, firstId, Sc.from, renEnv, renT, renV, renVs, renL, ren1, renBox, renOwn, okRen, clOf, actB, setRow, flatRows, flatD, noInv, shr_nil, shr_some, kStepF_some, shareL, AV.viewed, AV.viewed1, cEqCommitS, Con.fn, tTab, cEqCommit]
  try dsimp only
  try simp +contextual [eStr, eFile, cast_succ, cast_eq, cast_zero, List.getElem?_eq_getElem, eStrs_set, eFiles_set, eStrs_rep, eFiles_rep, ← eStrs_append, ← eFiles_append, eStrs_take, eStrs_drop, eFiles_take, eFiles_drop, eStrs_snoc, eFiles_snoc, and_assoc, eInt, eHead, eCommit, eInts_set, eInts_rep, eInts_take, eInts_drop, eInts_snoc, ← eInts_append, eHeads_set, eHeads_rep, eHeads_take, eHeads_drop, eHeads_snoc, ← eHeads_append, eCommits_set, eCommits_rep, eCommits_take, eCommits_drop, eCommits_snoc, ← eCommits_append, ← CommitD.eq_iff]
  repeat' (first | intro _ | apply And.intro)
  all_goals first | omega | grind [all_take, eq_take, eq_end]

def cEqRepo : Con := .fn 17 (RepoD × RepoD) (fun a => [vRepo a.1, vRepo a.2]) (fun _ => True) (fun a => .bool (decide (a.1 = a.2))) (fun _ => [])
set_option maxHeartbeats 4000000 in
theorem eqRepo_has : Has Tryz.prog 34 cEqRepo := by
  refine has_walk mixed tTab_ok (l := [(79, cEqCommitS), (80, cEqHeadS)]) (HasL.cons eqCommitS_has (HasL.cons eqHeadS_has HasL.nil)) [0, 1, 2, 3, 4] ((fun a n (_ : Nat) => (fun _ => noInv) a n)) [] Tryz.func34 (by kernel_rfl) (code := _) (by unfold Tryz.f34; rfl) (by kernel_rfl) (by decide) (fun _ => ⟨(), trivial⟩) (by intro h; first | exact fun _ => rfl | cases h) (by kernel_rfl) ?_
  intro a _
  obtain ⟨⟨p, x⟩, ⟨q, y⟩⟩ := a
  simp -implicitDefEqProofs [vc_skip, extOf, vc_seq, vc_cond, vc_block, vc_exit, vc_ret, vc_region, vc_regionD, vc_loop, kSeq_normal, kSeq_ret, kSeq_exit, kBlock_normal, kBlock_ret, kBlock_exit, kLoop_normal, kLoop_ret, kLoop_exit, kCond_bool, kNorm_app, vcOps_nil, vcOps_cons, kOps_app, kStep_some, kStep_none, vcDL_nil, vcDL_cons, kOpsD_app, kStepD_true, kStepD_tt, kStepD_false, ldB, btys, btyAct, kStepC_some, kStepC_none, kMv_app, act3_store, act3_call, act3_bs, kAct_app, kSt2_app, stealSlots, stealL, stealOne, subIn, AV.stolen, act_store, act_bs, act_append, act_call, kSet_app, kSet2_app, kSetG_app, kSetG_app0, kStore_ptr, kStore_eptr, kCallW_some, kCallC_some, kCall_some, wk_T, wk_n, wk_keep, wk_inv, wk_act, wk_dr, wk_le, aCalm, wantC, dstOk, calm, aCallK, aCall3K, subOf, subRep, aCall2K, apnd, bsMove, putBox, putOwn, partAV, mvL, AV.mv, AV.base, AV.moved, kBld, bldK, wrK, stK, AV.selfOk, AV.src, TI.flat, apSize, pickAV, St.val, St.cond, St.fn, St.next, St.set, St.trim, wipe_eq, wipeE_app, wipeM_app, pickEnv, get?, cGet, upd_app, withPuts, killAll, rm, freshP, Oper.hnd, Sc.st, ofConst, constOk, lenAV, elemLen, loadAV, ldL, ld1, fieldAddrAV, indexAddrAV, sliceAV, convAV, buildAV, fillAV, fieldAV, Out.of, binAV, AV.rows, AV.one, AV.cells, AV.deepOk, AV.toD, toDs, partRows, partRowsM, partsDeep, TK.zeroAV, TK.zeroD, byteOf, inR, Op.operands, Call.operands, passVs, passV, passL, pass1, passB, pasVs, pasV, pasL, pas1, ownsOk, okHs, okHs2, okFin, finOk2, rho, over, backRes, backAV, backAV1, backBlk, putBack, back2, back2_V, back2_1, m2, AV.wipe, AV.wipeV, AV.wipe1, Blk.wipe, AV.hs, AV.hs.hsL, alOps, Con.start2, Con.pk, bodyQ, fini, resAV, resA, firstId, Sc.from, renEnv, renT, renV, renVs, renL, ren1, renBox, renOwn, okRen, clOf, actB, setRow, flatRows, flatD, noInv, shr_nil, shr_some, kStepF_some, shareL, AV.viewed, AV.viewed1, cEqRepo, Con.fn, tTab, cEqCommitS, cEqHeadS]
  try dsimp only
  try simp +contextual [eStr, eFile, cast_succ, cast_eq, cast_zero, List.getElem?_eq_getElem, eStrs_set, eFiles_set, eStrs_rep, eFiles_rep, ← eStrs_append, ← eFiles_append, eStrs_take, eStrs_drop, eFiles_take, eFiles_drop, eStrs_snoc, eFiles_snoc, and_assoc]
  repeat' (first | intro _ | apply And.intro)
  all_goals first | omega | grind [all_take]

end Vx
end Go.Proofs.YthmhaggmcfemnaaGreatDoor
/-
  Contracts: branches (headsOk, l23Ok).
-/
namespace Go.Proofs.YthmhaggmcfemnaaGreatDoor
namespace Vx
open Go.RowKit
set_option maxRecDepth 8000

def cExists : Con := .fn 11 (RepoD × Int) (fun a => [vRepo a.1, .int .i64 a.2]) (fun a => a.1.commits.length ≤ 1073741824) (fun a => .bool (decide (0 ≤ a.2) && decide (a.2 ≤ (a.1.commits.length : Int) - 1))) (fun _ => [])
set_option maxHeartbeats 4000000 in
theorem exists_has : Has Tryz.prog 55 cExists := by
  refine has_walk mixed tTab_ok (l := [(51, cWithin)]) (HasL.cons within_has HasL.nil) [0, 1, 2, 4] ((fun a n (_ : Nat) => (fun _ => noInv) a n)) [] Tryz.func55 (by kernel_rfl) (code := _) (by unfold Tryz.f55; rfl) (by kernel_rfl) (by decide) (fun _ => ⟨(), trivial⟩) (by intro h; first | exact fun _ => rfl | cases h) (by kernel_rfl) ?_
  intro a ha
  obtain ⟨r, n⟩ := a
  replace ha : r.commits.length ≤ 1073741824 := ha
  simp -implicitDefEqProofs [vc_skip, extOf, vc_seq, vc_cond, vc_block, vc_exit, vc_ret, vc_region, vc_regionD, vc_loop, kSeq_normal, kSeq_ret, kSeq_exit, kBlock_normal, kBlock_ret, kBlock_exit, kLoop_normal, kLoop_ret, kLoop_exit, kCond_bool, kNorm_app, vcOps_nil, vcOps_cons, kOps_app, kStep_some, kStep_none, vcDL_nil, vcDL_cons, kOpsD_app, kStepD_true, kStepD_tt, kStepD_false, ldB, btys, btyAct, kStepC_some, kStepC_none, kMv_app, act3_store, act3_call, act3_bs, kAct_app, kSt2_app, stealSlots, stealL, stealOne, subIn, AV.stolen, act_store, act_bs, act_append, act_call, kSet_app, kSet2_app, kSetG_app, kSetG_app0, kStore_ptr, kStore_eptr, kCallW_some, kCallC_some, kCall_some, wk_T, wk_n, wk_keep, wk_inv, wk_act, wk_dr, wk_le, aCalm, wantC, dstOk, calm, aCallK, aCall3K, subOf, subRep, aCall2K, apnd, bsMove, putBox, putOwn, partAV, mvL, AV.mv, AV.base, AV.moved, kBld, bldK, wrK, stK, AV.selfOk, AV.src, TI.flat, apSize, pickAV, St.val, St.cond, St.fn, St.next, St.set, St.trim, wipe_eq, wipeE_app, wipeM_app, pickEnv, get?, cGet, upd_app, withPuts, killAll, rm, freshP, Oper.hnd, Sc.st, ofConst, constOk, lenAV, elemLen, loadAV, ldL, ld1, fieldAddrAV, indexAddrAV, sliceAV, convAV, buildAV, fillAV, fieldAV, Out.of, binAV, AV.rows, AV.one, AV.cells, AV.deepOk, AV.toD, toDs, partRows, partRowsM, partsDeep, TK.zeroAV, TK.zeroD, byteOf, inR, Op.operands, Call.operands, passVs, passV, passL, pass1, passB, pasVs, pasV, pasL, pas1, ownsOk, okHs, okHs2, okFin, finOk2, rho, over, backRes, backAV, backAV1, backBlk, putBack, back2, back2_V, back2_1, m2, AV.wipe, AV.wipeV, AV.wipe1, Blk.wipe, AV.hs, AV.hs.hsL, alOps, Con.start2, Con.pk, bodyQ, fini, resAV, resA, firstId, Sc.from, renEnv, renT, renV, renVs, renL, ren1, renBox, renOwn, okRen, clOf, actB, setRow, flatRows, flatD, noInv, shr_nil, shr_some, kStepF_some, shareL, AV.viewed, AV.viewed1, cExists, Con.fn, tTab, cWithin]
  try dsimp only
  try simp +contextual -implicitDefEqProofs [eStr, eFile, cast_succ, cast_eq, cast_zero, List.getElem?_eq_getElem, eStrs_set, eFiles_set, eStrs_rep, eFiles_rep, ← eStrs_append, ← eFiles_append, eStrs_take, eStrs_drop, eFiles_take, eFiles_drop, eStrs_snoc, eFiles_snoc, and_assoc]
  repeat' (first | intro _ | apply And.intro)
  all_goals first | omega | grind [all_take]

def inN (n : Nat) (a : Int) : Bool := decide (0 ≤ a) && decide (a ≤ (n : Int) - 1)
def okHd (n : Nat) (h : List HeadD) (i : Nat) : Bool := nameB (h.getD i default).name && inN n (h.getD i default).at_ && (decide (i = 0) || Go.Op.bytesLess (h.getD (i - 1) default).name (h.getD i default).name)
def headsB (n : Nat) (h : List HeadD) : Bool := decide (h.length ≤ 5) && (List.range h.length).all (okHd n h)
theorem headsB_iff (n : Nat) (h : List HeadD) : headsB n h = true ↔ h.length ≤ 5 ∧ ∀ i, i < h.length → okHd n h i = true := by simp -implicitDefEqProofs [headsB]
theorem headsB_no {n : Nat} {h : List HeadD} {i : Nat} (hi : i < h.length) (hb : okHd n h i = false) : headsB n h = false := by
  cases hq : headsB n h with
  | false => rfl
  | true => have := ((headsB_iff n h).1 hq).2 i hi; simp -implicitDefEqProofs [hb] at this
def cHeadsOk : Con := .fn 44 (RepoD × List HeadD) (fun a => [vRepo a.1, .sl true 2 (eHeads a.2)]) (fun a => a.1.commits.length ≤ 1073741824) (fun a => .bool (headsB a.1.commits.length a.2)) (fun _ => [])
set_option maxHeartbeats 4000000 in
theorem headsOk_has : Has Tryz.prog 52 cHeadsOk := by
  refine has_walk mixed tTab_ok (l := [(45, cNameOk), (55, cExists)]) (HasL.cons nameOk_has (HasL.cons exists_has HasL.nil)) [0, 1, 2, 4, 5, 6, 10, 11, 12] ((fun a n (_ : Nat) => (fun a _ => ⟨Nat, fun i => ⟨[(1, true, .sl true 2 (eHeads a.2)), (2, true, .ptr 10 0), (4, true, .bool false), (10, true, .sl true 2 (eHeads a.2)), (11, true, .int .i64 a.2.length), (12, true, .int .i64 i)], [(10, .box 26 [.sl true 3 (eCommits a.1.commits), .sl true 2 (eHeads a.1.heads)])]⟩, fun i => i ≤ a.2.length ∧ a.2.length ≤ 5 ∧ ∀ j, j < i → okHd a.1.commits.length a.2 j = true, fun i => a.2.length - i⟩) a n)) [] Tryz.func52 (by kernel_rfl) (code := _) (by unfold Tryz.f52; rfl) (by kernel_rfl) (by decide) (fun _ => ⟨(), trivial⟩) (by intro h; first | exact fun _ => rfl | cases h) (by kernel_rfl) ?_
  intro a ha
  obtain ⟨r, t⟩ := a
  replace ha : r.commits.length ≤ 1073741824 := ha
  have hB : 5 < t.length → headsB r.commits.length t = false := fun h => by
    cases hq : headsB r.commits.length t with
    | false => rfl
    | true => have := ((headsB_iff _ _).1 hq).1; omega
  have hN := fun i => @headsB_no r.commits.length t i
  have hE := (headsB_iff r.commits.length t).2
  have hg : ∀ i (h : i < t.length), t.getD i default = t[i] := fun i h => by simp -implicitDefEqProofs [List.getD_eq_getElem?_getD, h]
  have hgg : ∀ i (h : i < t.length), t[i]?.getD default = t[i] := fun i h => by simp -implicitDefEqProofs [h]
  have e1 : ∀ k (h : k < t.length), Option.map eHead t[k]? = some (eHead t[k]) := fun k h => by simp -implicitDefEqProofs [List.getElem?_eq_getElem h]
  simp -implicitDefEqProofs [vc_skip, extOf, vc_seq, vc_cond, vc_block, vc_exit, vc_ret, vc_region, vc_regionD, vc_loop, kSeq_normal, kSeq_ret, kSeq_exit, kBlock_normal, kBlock_ret, kBlock_exit, kLoop_normal, kLoop_ret, kLoop_exit, kCond_bool, kNorm_app, vcOps_nil, vcOps_cons, kOps_app, kStep_some, kStep_none, vcDL_nil, vcDL_cons, kOpsD_app, kStepD_true, kStepD_tt, kStepD_false, ldB, btys, btyAct, kStepC_some, kStepC_none, kMv_app, act3_store, act3_call, act3_bs, kAct_app, kSt2_app, stealSlots, stealL, stealOne, subIn, AV.stolen, act_store, act_bs, act_append, act_call, kSet_app, kSet2_app, kSetG_app, kSetG_app0, kStore_ptr, kStore_eptr, kCallW_some, kCallC_some, kCall_some, wk_T, wk_n, wk_keep, wk_inv, wk_act, wk_dr, wk_le, aCalm, wantC, dstOk, calm, aCallK, aCall3K, subOf, subRep, aCall2K, apnd, bsMove, putBox, putOwn, partAV, mvL, AV.mv, AV.base, AV.moved, kBld, bldK, wrK, stK, AV.selfOk, AV.src, TI.flat, apSize, pickAV, St.val, St.cond, St.fn, St.next, St.set, St.trim, wipe_eq, wipeE_app, wipeM_app, pickEnv, get?, cGet, upd_app, withPuts, killAll, rm, freshP, Oper.hnd, Sc.st, ofConst, constOk, lenAV, elemLen, loadAV, ldL, ld1, fieldAddrAV, indexAddrAV, sliceAV, convAV, buildAV, fillAV, fieldAV, Out.of, binAV, AV.rows, AV.one, AV.cells, AV.deepOk, AV.toD, toDs, partRows, partRowsM, partsDeep, TK.zeroAV, TK.zeroD, byteOf, inR, Op.operands, Call.operands, passVs, passV, passL, pass1, passB, pasVs, pasV, pasL, pas1, ownsOk, okHs, okHs2, okFin, finOk2, rho, over, backRes, backAV, backAV1, backBlk, putBack, back2, back2_V, back2_1, m2, AV.wipe, AV.wipeV, AV.wipe1, Blk.wipe, AV.hs, AV.hs.hsL, alOps, Con.start2, Con.pk, bodyQ, fini, resAV, resA, firstId, Sc.from, renEnv, renT, renV, renVs, renL, ren1, renBox, renOwn, okRen, clOf, actB, setRow, flatRows, flatD, noInv, shr_nil, shr_some, kStepF_some, shareL, AV.viewed, AV.viewed1, cHeadsOk, Con.fn, tTab, cNameOk, cExists]
  try dsimp only
  refine fun _ => ⟨fun h => hB (by omega), fun h5 _ => ⟨by omega, fun i hi _ hprev => ⟨fun hlt => ?_, fun hge => hE ⟨by omega, fun j hj => hprev j (by omega)⟩⟩⟩⟩
  have e3 := e1 i hlt
  have e4 := e1 (i - 1) (by omega)
  have hh : okHd r.commits.length t i = (nameB t[i].name && inN r.commits.length t[i].at_ && (decide (i = 0) || Go.Op.bytesLess (t[i - 1]'(by omega)).name t[i].name)) := by
    unfold okHd
    rw [hg i hlt, hg (i - 1) (by omega)]
  have hn := hN i hlt
  rw [hh] at hn
  unfold inN at hn hh
  simp -implicitDefEqProofs [hlt, e3, e4, eHead, D.asStr, D.asInt, cast_eq, and_assoc]
  try simp +contextual -implicitDefEqProofs [eStr, eFile, cast_succ, cast_eq, cast_zero, List.getElem?_eq_getElem, eStrs_set, eFiles_set, eStrs_rep, eFiles_rep, ← eStrs_append, ← eFiles_append, eStrs_take, eStrs_drop, eFiles_take, eFiles_drop, eStrs_snoc, eFiles_snoc, and_assoc, hlt]
  clear e1 hg hgg hN hE hB
  repeat' (first | intro _ | apply And.intro)
  all_goals first | omega | grind -ring

def cL23Ok : Con := .fn 53 (RepoD × List HeadD) (fun a => [vRepo a.1, .sl true 2 (eHeads a.2)]) (fun a => a.1.commits.length ≤ 1073741824) (fun a => .bool (headsB a.1.commits.length a.2)) (fun _ => [])
set_option maxHeartbeats 4000000 in
theorem l23Ok_has : Has Tryz.prog 58 cL23Ok := by
  refine has_walk mixed tTab_ok (l := [(48, cL4Name), (59, cL1In)]) (HasL.cons l4Name_has (HasL.cons l1In_has HasL.nil)) [0, 1, 2, 4, 5] ((fun a n (_ : Nat) => (fun a _ => ⟨Nat, fun i => ⟨[(1, true, .sl true 2 (eHeads a.2)), (2, true, .ptr 10 0), (4, true, .bool false), (5, true, .int .i64 i)], [(10, .box 26 [.sl true 3 (eCommits a.1.commits), .sl true 2 (eHeads a.1.heads)])]⟩, fun i => i ≤ a.2.length ∧ ∀ j, j < i → okHd a.1.commits.length a.2 j = true, fun i => a.2.length - i⟩) a n)) [] Tryz.func58 (by kernel_rfl) (code := _) (by unfold Tryz.f58; rfl) (by kernel_rfl) (by decide) (fun _ => ⟨(), trivial⟩) (by intro h; first | exact fun _ => rfl | cases h) (by kernel_rfl) ?_
  intro a ha
  obtain ⟨r, t⟩ := a
  replace ha : r.commits.length ≤ 1073741824 := ha
  have hN := fun i => @headsB_no r.commits.length t i
  have hg : ∀ i (h : i < t.length), t.getD i default = t[i] := fun i h => by simp -implicitDefEqProofs [List.getD_eq_getElem?_getD, h]
  have e1 : ∀ k (h : k < t.length), Option.map eHead t[k]? = some (eHead t[k]) := fun k h => by simp -implicitDefEqProofs [List.getElem?_eq_getElem h]
  simp -implicitDefEqProofs [vc_skip, extOf, vc_seq, vc_cond, vc_block, vc_exit, vc_ret, vc_region, vc_regionD, vc_loop, kSeq_normal, kSeq_ret, kSeq_exit, kBlock_normal, kBlock_ret, kBlock_exit, kLoop_normal, kLoop_ret, kLoop_exit, kCond_bool, kNorm_app, vcOps_nil, vcOps_cons, kOps_app, kStep_some, kStep_none, vcDL_nil, vcDL_cons, kOpsD_app, kStepD_true, kStepD_tt, kStepD_false, ldB, btys, btyAct, kStepC_some, kStepC_none, kMv_app, act3_store, act3_call, act3_bs, kAct_app, kSt2_app, stealSlots, stealL, stealOne, subIn, AV.stolen, act_store, act_bs, act_append, act_call, kSet_app, kSet2_app, kSetG_app, kSetG_app0, kStore_ptr, kStore_eptr, kCallW_some, kCallC_some, kCall_some, wk_T, wk_n, wk_keep, wk_inv, wk_act, wk_dr, wk_le, aCalm, wantC, dstOk, calm, aCallK, aCall3K, subOf, subRep, aCall2K, apnd, bsMove, putBox, putOwn, partAV, mvL, AV.mv, AV.base, AV.moved, kBld, bldK, wrK, stK, AV.selfOk, AV.src, TI.flat, apSize, pickAV, St.val, St.cond, St.fn, St.next, St.set, St.trim, wipe_eq, wipeE_app, wipeM_app, pickEnv, get?, cGet, upd_app, withPuts, killAll, rm, freshP, Oper.hnd, Sc.st, ofConst, constOk, lenAV, elemLen, loadAV, ldL, ld1, fieldAddrAV, indexAddrAV, sliceAV, convAV, buildAV, fillAV, fieldAV, Out.of, binAV, AV.rows, AV.one, AV.cells, AV.deepOk, AV.toD, toDs, partRows, partRowsM, partsDeep, TK.zeroAV, TK.zeroD, byteOf, inR, Op.operands, Call.operands, passVs, passV, passL, pass1, passB, pasVs, pasV, pasL, pas1, ownsOk, okHs, okHs2, okFin, finOk2, rho, over, backRes, backAV, backAV1, backBlk, putBack, back2, back2_V, back2_1, m2, AV.wipe, AV.wipeV, AV.wipe1, Blk.wipe, AV.hs, AV.hs.hsL, alOps, Con.start2, Con.pk, bodyQ, fini, resAV, resA, firstId, Sc.from, renEnv, renT, renV, renVs, renL, ren1, renBox, renOwn, okRen, clOf, actB, setRow, flatRows, flatD, noInv, shr_nil, shr_some, kStepF_some, shareL, AV.viewed, AV.viewed1, cL23Ok, Con.fn, tTab, cL4Name, cL1In]
  try dsimp only
  refine fun i hi hprev _ => ⟨fun hlt => ?_, fun hge => ?_⟩
  · have e3 := e1 i hlt
    have e4 := e1 (i - 1) (by omega)
    have hh : okHd r.commits.length t i = (nameB t[i].name && inN r.commits.length t[i].at_ && (decide (i = 0) || Go.Op.bytesLess (t[i - 1]'(by omega)).name t[i].name)) := by
      unfold okHd
      rw [hg i hlt, hg (i - 1) (by omega)]
    have hn := hN i hlt
    rw [hh] at hn
    unfold inN at hn hh
    have hq := leqS_iff t[i].name (t[i - 1]'(by omega)).name
    rw [less_eq] at hn hh
    unfold leqS at hq
    simp -implicitDefEqProofs [hlt, e3, e4, eHead, D.asStr, D.asInt, cast_eq, and_assoc]
    try simp +contextual -implicitDefEqProofs [eStr, eFile, cast_succ, cast_eq, cast_zero, List.getElem?_eq_getElem, eStrs_set, eFiles_set, eStrs_rep, eFiles_rep, ← eStrs_append, ← eFiles_append, eStrs_take, eStrs_drop, eFiles_take, eFiles_drop, eStrs_snoc, eFiles_snoc, and_assoc, hlt]
    clear e1 hg hN
    repeat' (first | intro _ | apply And.intro)
    all_goals first | omega | grind -ring
  · have : (∀ i, i < t.length → okHd r.commits.length t i = true) := fun j hj => hprev j (by omega)
    have h2 : headsB r.commits.length t = decide (t.length ≤ 5) := by
      unfold headsB
      have : (List.range t.length).all (okHd r.commits.length t) = true := by simpa using this
      rw [this, Bool.and_true]
    rw [h2]
    intro _
    rw [Bool.eq_iff_iff]
    simp
    try omega

end Vx
end Go.Proofs.YthmhaggmcfemnaaGreatDoor
/-
  Contracts: repositories (RepoOk, l7Ok).
-/
namespace Go.Proofs.YthmhaggmcfemnaaGreatDoor
namespace Vx
open Go.RowKit
set_option maxRecDepth 8000

def okI1 (cs : List CommitD) (i : Nat) : Bool :=
  decide ((cs.getD i default).parents.length ≤ 2) && !(decide ((cs.getD i default).parents.length = 2) && decide ((cs.getD i default).parents.getD 0 0 = (cs.getD i default).parents.getD 1 0)) && nameB (cs.getD i default).who && treeI (cs.getD i default).tree
def okCI (cs : List CommitD) (i : Nat) : Bool := okI1 cs i && (List.range (cs.getD i default).parents.length).all fun k => inN i ((cs.getD i default).parents.getD k 0)
def repoI (r : RepoD) : Bool := decide (r.commits.length ≤ 16) && (List.range r.commits.length).all (okCI r.commits) && headsB r.commits.length r.heads
def rpPre (r : RepoD) : Prop := r.commits.length ≤ 1073741824 ∧ ∀ c ∈ r.commits, ∀ f ∈ c.tree, f.path.length ≤ 536870912
def bRepo (r : RepoD) : Blk := .box 26 [.sl true 3 (eCommits r.commits), .sl true 2 (eHeads r.heads)]
theorem bRepo_def (r : RepoD) : bRepo r = .box 26 [.sl true 3 (eCommits r.commits), .sl true 2 (eHeads r.heads)] := rfl
def riO (r : RepoD) : Inv := ⟨Nat, fun i => ⟨[(1, true, .ptr 10 0), (2, true, .bool false), (12, true, .sl true 3 (eCommits r.commits)), (13, true, .int .i64 r.commits.length), (14, true, .int .i64 i)], [(10, bRepo r)]⟩, fun i => i ≤ r.commits.length ∧ r.commits.length ≤ 16 ∧ ∀ j, j < i → okCI r.commits j = true, fun i => r.commits.length - i⟩
def riI (r : RepoD) (g : Nat) : Inv := ⟨Nat, fun k => ⟨[(1, true, .ptr 10 0), (2, true, .bool false), (3, true, .int .i64 g), (12, true, .sl true 3 (eCommits r.commits)), (13, true, .int .i64 r.commits.length), (14, true, .int .i64 g), (53, true, .sl true 1 (eInts (r.commits.getD g default).parents)), (54, true, .int .i64 (r.commits.getD g default).parents.length), (55, true, .int .i64 k)], [(10, bRepo r)]⟩,
  fun k => g < r.commits.length ∧ k ≤ (r.commits.getD g default).parents.length ∧ r.commits.length ≤ 16 ∧ (∀ j, j < g → okCI r.commits j = true) ∧ okI1 r.commits g = true ∧ ∀ j, j < k → inN g ((r.commits.getD g default).parents.getD j 0) = true, fun k => (r.commits.getD g default).parents.length - k⟩
def riInv (r : RepoD) (n g : Nat) : Inv := if n = 4 then riO r else riI r g
theorem riInv_4 (r : RepoD) (g : Nat) : riInv r 4 g = riO r := rfl
theorem riInv_9 (r : RepoD) (g : Nat) : riInv r 9 g = riI r g := rfl
theorem repoI_iff (r : RepoD) : repoI r = true ↔ r.commits.length ≤ 16 ∧ (∀ i, i < r.commits.length → okCI r.commits i = true) ∧ headsB r.commits.length r.heads = true := by simp -implicitDefEqProofs [repoI, and_assoc]
theorem repoI_no {r : RepoD} {i : Nat} (hi : i < r.commits.length) (hb : okCI r.commits i = false) : repoI r = false := by
  cases hq : repoI r with
  | false => rfl
  | true => have := ((repoI_iff r).1 hq).2.1 i hi; simp -implicitDefEqProofs [hb] at this
theorem repoI_big {r : RepoD} (h : 16 < r.commits.length) : repoI r = false := by
  cases hq : repoI r with
  | false => rfl
  | true => have := ((repoI_iff r).1 hq).1; omega
theorem okCI_no1 {cs : List CommitD} {i : Nat} (h : okI1 cs i = false) : okCI cs i = false := by unfold okCI; rw [h]; rfl
theorem okCI_no2 {cs : List CommitD} {i k : Nat} (hk : k < (cs.getD i default).parents.length) (h : inN i ((cs.getD i default).parents.getD k 0) = false) : okCI cs i = false := by
  unfold okCI
  have : (List.range (cs.getD i default).parents.length).all (fun k => inN i ((cs.getD i default).parents.getD k 0)) = false := by
    rw [List.all_eq_false]
    exact ⟨k, List.mem_range.2 hk, by simpa using h⟩
  rw [this, Bool.and_false]
theorem okCI_yes {cs : List CommitD} {i : Nat} (h : okI1 cs i = true) (h2 : ∀ k, k < (cs.getD i default).parents.length → inN i ((cs.getD i default).parents.getD k 0) = true) : okCI cs i = true := by
  unfold okCI
  rw [h, Bool.true_and, List.all_eq_true]
  intro k hk
  exact h2 k (by simpa using hk)

def cRepoOk : Con := .fn 70 RepoD (fun r => [vRepo r]) rpPre (fun r => .bool (repoI r)) (fun _ => [])
set_option maxHeartbeats 4000000 in
theorem repoOk_has : Has Tryz.prog 14 cRepoOk := by
  refine has_walk mixed tTab_ok (l := [(45, cNameOk), (50, cTreeOk), (51, cWithin), (52, cHeadsOk)]) (HasL.cons nameOk_has (HasL.cons treeOk_has (HasL.cons within_has (HasL.cons headsOk_has HasL.nil)))) [0, 1, 2, 3, 4, 6, 12, 13, 14, 53, 54, 55] (fun r => riInv r) [] Tryz.func14 (by kernel_rfl) (code := _) (by unfold Tryz.f14; rfl) (by kernel_rfl) (by decide) (fun _ => ⟨(), trivial⟩) (by intro h; first | exact fun _ => rfl | cases h) (by kernel_rfl) ?_
  intro (r : RepoD) hr
  obtain ⟨hr1, hr2⟩ : r.commits.length ≤ 1073741824 ∧ ∀ c ∈ r.commits, ∀ f ∈ c.tree, f.path.length ≤ 536870912 := hr
  have hp : ∀ i (h : i < r.commits.length), ∀ f ∈ r.commits[i].tree, f.path.length ≤ 536870912 := fun i h => hr2 _ (List.getElem_mem h)
  have hB := @repoI_big r
  have hN := fun i => @repoI_no r i
  have hN1 := fun i => @okCI_no1 r.commits i
  have hN2 := fun i k => @okCI_no2 r.commits i k
  have hY := fun i => @okCI_yes r.commits i
  simp -implicitDefEqProofs [vc_skip, extOf, vc_seq, vc_cond, vc_block, vc_exit, vc_ret, vc_region, vc_regionD, vc_loop, kSeq_normal, kSeq_ret, kSeq_exit, kBlock_normal, kBlock_ret, kBlock_exit, kLoop_normal, kLoop_ret, kLoop_exit, kCond_bool, kNorm_app, vcOps_nil, vcOps_cons, kOps_app, kStep_some, kStep_none, vcDL_nil, vcDL_cons, kOpsD_app, kStepD_true, kStepD_tt, kStepD_false, ldB, btys, btyAct, kStepC_some, kStepC_none, kMv_app, act3_store, act3_call, act3_bs, kAct_app, kSt2_app, stealSlots, stealL, stealOne, subIn, AV.stolen, act_store, act_bs, act_append, act_call, kSet_app, kSet2_app, kSetG_app, kSetG_app0, kStore_ptr, kStore_eptr, kCallW_some, kCallC_some, kCall_some, wk_T, wk_n, wk_keep, wk_inv, wk_act, wk_dr, wk_le, aCalm, wantC, dstOk, calm, aCallK, aCall3K, subOf, subRep, aCall2K, apnd, bsMove, putBox, putOwn, partAV, mvL, AV.mv, AV.base, AV.moved, kBld, bldK, wrK, stK, AV.selfOk, AV.src, TI.flat, apSize, pickAV, St.val, St.cond, St.fn, St.next, St.set, St.trim, wipe_eq, wipeE_app, wipeM_app, pickEnv, get?, cGet, upd_app, withPuts, killAll, rm, freshP, Oper.hnd, Sc.st, ofConst, constOk, lenAV, elemLen, loadAV, ldL, ld1, fieldAddrAV, indexAddrAV, sliceAV, convAV, buildAV, fillAV, fieldAV, Out.of, binAV, AV.rows, AV.one, AV.cells, AV.deepOk, AV.toD, toDs, partRows, partRowsM, partsDeep, TK.zeroAV, TK.zeroD, byteOf, inR, Op.operands, Call.operands, passVs, passV, passL, pass1, passB, pasVs, pasV, pasL, pas1, ownsOk, okHs, okHs2, okFin, finOk2, rho, over, backRes, backAV, backAV1, backBlk, putBack, back2, back2_V, back2_1, m2, AV.wipe, AV.wipeV, AV.wipe1, Blk.wipe, AV.hs, AV.hs.hsL, alOps, Con.start2, Con.pk, bodyQ, fini, resAV, resA, firstId, Sc.from, renEnv, renT, renV, renVs, renL, ren1, renBox, renOwn, okRen, clOf, actB, setRow, flatRows, flatD, noInv, shr_nil, shr_some, kStepF_some, shareL, AV.viewed, AV.viewed1, cRepoOk, Con.fn, tTab, cNameOk, cTreeOk, cWithin, cHeadsOk, riInv_4, riInv_9, riO, riI, bRepo_def]
  try dsimp only
  refine fun _ => ⟨fun h => hB (by omega), fun h16 _ => ⟨by omega, fun i hi _ hprev => ⟨fun hlt => ?_, fun hge => ?_⟩⟩⟩
  · have e3 : Option.map eCommit r.commits[i]? = some (eCommit r.commits[i]) := by simp -implicitDefEqProofs [List.getElem?_eq_getElem hlt]
    have hgc : r.commits.getD i default = r.commits[i] := by simp -implicitDefEqProofs [List.getD_eq_getElem?_getD, hlt]
    have hpc := hp i hlt
    have n0 := hN i hlt
    have n1 := hN1 i
    have n2 := hN2 i
    have n3 := hY i
    have o1 : okI1 r.commits i = (decide (r.commits[i].parents.length ≤ 2) && !(decide (r.commits[i].parents.length = 2) && decide (r.commits[i].parents.getD 0 0 = r.commits[i].parents.getD 1 0)) && nameB r.commits[i].who && treeI r.commits[i].tree) := by
      unfold okI1; rw [hgc]
    rw [hgc] at n2 n3
    simp -implicitDefEqProofs [hlt, e3, eCommit, D.asStr, D.asRows, cast_eq, and_assoc]
    try simp only [show r.commits[i]?.getD default = r.commits[i] by simp -implicitDefEqProofs [hlt]]
    generalize r.commits[i] = c at hpc n2 n3 o1 ⊢
    have hq : ∀ k (h : k < c.parents.length), inN i (c.parents[k]?.getD 0) = (decide (0 ≤ c.parents[k]) && decide (c.parents[k] ≤ (i : Int) - 1)) := fun k h => by simp -implicitDefEqProofs [inN, h]
    have n4 : ∀ k (h : k < c.parents.length), (decide (0 ≤ c.parents[k]) && decide (c.parents[k] ≤ (i : Int) - 1)) = false → repoI r = false := fun k h hb => n0 (n2 k h (by rw [List.getD_eq_getElem?_getD, hq k h]; exact hb))
    have n5 : okI1 r.commits i = false → repoI r = false := fun h => n0 (n1 h)
    have n6 : okI1 r.commits i = true → (∀ j, j < c.parents.length → inN i (c.parents[j]?.getD 0) = true) → ∀ j, j < i + 1 → okCI r.commits j = true := fun h1 h2 j hj => by
      rcases Nat.lt_or_ge j i with h3 | h3
      · exact hprev j h3
      · have : j = i := by omega
        subst this
        exact n3 h1 (fun k hk => by rw [List.getD_eq_getElem?_getD]; exact h2 k hk)
    clear n3 n2 n1 n0 hN hN1 hN2 hY hp hr2 hB hgc e3
    have o2 : ∀ (h : c.parents.length = 2), okI1 r.commits i = (!(decide (c.parents[0] = c.parents[1])) && nameB c.who && treeI c.tree) := fun h => by
      rw [o1]; simp -implicitDefEqProofs [h]
    have o3 : c.parents.length ≤ 2 → ¬ c.parents.length = 2 → okI1 r.commits i = (nameB c.who && treeI c.tree) := fun h h' => by
      rw [o1]; simp -implicitDefEqProofs [h, h']
    have o4 : 2 < c.parents.length → okI1 r.commits i = false := fun h => by
      rw [o1]; simp -implicitDefEqProofs [show ¬ c.parents.length ≤ 2 by omega]
    clear o1
    refine ⟨fun h => n5 (o4 (by omega)), fun hl2 => ⟨fun h2 => ?_, fun h2 => ?_⟩⟩
    · have q0 : Option.map eInt c.parents[0]? = some (eInt c.parents[0]) := by simp -implicitDefEqProofs [List.getElem?_eq_getElem (show 0 < c.parents.length by omega)]
      have q1 : Option.map eInt c.parents[1]? = some (eInt c.parents[1]) := by simp -implicitDefEqProofs [List.getElem?_eq_getElem (show 1 < c.parents.length by omega)]
      have o5 := o2 (by omega)
      simp -implicitDefEqProofs [q0, q1, eInt]
      refine ⟨by omega, fun _ => ⟨by omega, fun _ => ⟨fun he => n5 (by rw [o5]; simp -implicitDefEqProofs [he]), fun he => ⟨fun hn => n5 (by rw [o5]; simp -implicitDefEqProofs [hn]), fun hn => ⟨hpc, fun ht => n5 (by rw [o5]; simp -implicitDefEqProofs [ht]), fun ht _ => ⟨by omega, hprev, by rw [o5]; simp -implicitDefEqProofs [he, hn, ht], fun t ht1 _ _ hok hinv => ?_⟩⟩⟩⟩⟩⟩
      clear o2 o3 o4 o5 n5
      refine ⟨fun hlt2 => ?_, fun hge2 => ?_⟩
      · have qt : Option.map eInt c.parents[t]? = some (eInt c.parents[t]) := by simp -implicitDefEqProofs [List.getElem?_eq_getElem hlt2]
        have n7 := n4 t hlt2
        have q7 := hq t hlt2
        simp -implicitDefEqProofs [qt, eInt, hlt2]
        have n8 : 0 ≤ c.parents[t] → c.parents[t] ≤ (i : Int) - 1 → ∀ j, j < t + 1 → inN i (c.parents[j]?.getD 0) = true := fun g1 g2 j hj => by
          rcases Nat.lt_or_ge j t with h3 | h3
          · exact hinv j h3
          · have : j = t := by omega
            subst this
            rw [q7]
            simp -implicitDefEqProofs [g1, g2]
        refine ⟨by omega, by omega, fun _ _ => ⟨fun h => n7 (by simp; omega), fun g1 g2 => ⟨by omega, by omega, fun _ _ => ⟨t + 1, rfl, by omega, by omega, hprev, hok, n8 g1 g2, by omega⟩⟩⟩⟩
      · have n7 := n6 hok (fun j hj => hinv j (by omega))
        exact ⟨by omega, by omega, fun _ _ => ⟨i + 1, rfl, by omega, by omega, n7, by omega⟩⟩
    · have o5 := o3 (by omega) (by omega)
      refine ⟨fun hn => n5 (by rw [o5]; simp -implicitDefEqProofs [hn]), fun hn => ⟨hpc, fun ht => n5 (by rw [o5]; simp -implicitDefEqProofs [ht]), fun ht _ => ⟨by omega, hprev, by rw [o5]; simp -implicitDefEqProofs [hn, ht], fun t ht1 _ _ hok hinv => ?_⟩⟩⟩
      clear o2 o3 o4 o5 n5
      refine ⟨fun hlt2 => ?_, fun hge2 => ?_⟩
      · have qt : Option.map eInt c.parents[t]? = some (eInt c.parents[t]) := by simp -implicitDefEqProofs [List.getElem?_eq_getElem hlt2]
        have n7 := n4 t hlt2
        have q7 := hq t hlt2
        simp -implicitDefEqProofs [qt, eInt, hlt2]
        have n8 : 0 ≤ c.parents[t] → c.parents[t] ≤ (i : Int) - 1 → ∀ j, j < t + 1 → inN i (c.parents[j]?.getD 0) = true := fun g1 g2 j hj => by
          rcases Nat.lt_or_ge j t with h3 | h3
          · exact hinv j h3
          · have : j = t := by omega
            subst this
            rw [q7]
            simp -implicitDefEqProofs [g1, g2]
        refine ⟨by omega, by omega, fun _ _ => ⟨fun h => n7 (by simp; omega), fun g1 g2 => ⟨by omega, by omega, fun _ _ => ⟨t + 1, rfl, by omega, by omega, hprev, hok, n8 g1 g2, by omega⟩⟩⟩⟩
      · have n7 := n6 hok (fun j hj => hinv j (by omega))
        exact ⟨by omega, by omega, fun _ _ => ⟨i + 1, rfl, by omega, by omega, n7, by omega⟩⟩
  · refine ⟨r, r.heads, ⟨⟨rfl, rfl⟩, rfl⟩, hr1, ?_⟩
    rw [Bool.eq_iff_iff, repoI_iff]
    exact ⟨fun h => h.2.2, fun h => ⟨by omega, fun j hj => hprev j (by omega), h⟩⟩

def oneP (i : Nat) (ps : List Int) (k : Nat) : Bool := inN i (ps.getD k 0) && !(decide (0 < k) && decide (ps.getD k 0 = ps.getD 0 0))
def okS1 (c : CommitD) : Bool := decide (c.parents.length ≤ 2) && nameB c.who && treeS c.tree
def okCS (cs : List CommitD) (i : Nat) : Bool := (List.range (cs.getD i default).parents.length).all (oneP i (cs.getD i default).parents) && okS1 (cs.getD i default)
def repoS (r : RepoD) : Bool := (List.range r.commits.length).all (okCS r.commits) && headsB r.commits.length r.heads && decide (r.commits.length ≤ 16)
theorem repoS_iff (r : RepoD) : repoS r = true ↔ (∀ i, i < r.commits.length → okCS r.commits i = true) ∧ headsB r.commits.length r.heads = true ∧ r.commits.length ≤ 16 := by simp -implicitDefEqProofs [repoS, and_assoc]
theorem repoS_no {r : RepoD} {i : Nat} (hi : i < r.commits.length) (hb : okCS r.commits i = false) : repoS r = false := by
  cases hq : repoS r with
  | false => rfl
  | true => have := ((repoS_iff r).1 hq).1 i hi; simp -implicitDefEqProofs [hb] at this
theorem repoS_noH {r : RepoD} (hb : headsB r.commits.length r.heads = false) : repoS r = false := by
  unfold repoS; rw [hb]; simp
theorem okCS_no1 {cs : List CommitD} {i : Nat} (h : okS1 (cs.getD i default) = false) : okCS cs i = false := by unfold okCS; rw [h, Bool.and_false]
theorem okCS_no2 {cs : List CommitD} {i k : Nat} (hk : k < (cs.getD i default).parents.length) (h : oneP i (cs.getD i default).parents k = false) : okCS cs i = false := by
  unfold okCS
  have : (List.range (cs.getD i default).parents.length).all (oneP i (cs.getD i default).parents) = false := by
    rw [List.all_eq_false]
    exact ⟨k, List.mem_range.2 hk, by simpa using h⟩
  rw [this, Bool.false_and]
theorem okCS_yes {cs : List CommitD} {i : Nat} (h : okS1 (cs.getD i default) = true) (h2 : ∀ k, k < (cs.getD i default).parents.length → oneP i (cs.getD i default).parents k = true) : okCS cs i = true := by
  unfold okCS
  rw [h, Bool.and_true, List.all_eq_true]
  intro k hk
  exact h2 k (by simpa using hk)

theorem repo_eq (r : RepoD) : repoI r = repoS r := by
  have h : ∀ i, okCI r.commits i = okCS r.commits i := by
    intro i
    unfold okCI okCS okI1 okS1
    generalize r.commits.getD i default = c
    rw [tree_eq]
    rw [Bool.eq_iff_iff]
    simp only [Bool.and_eq_true, List.all_eq_true, List.mem_range, decide_eq_true_eq, oneP, Bool.not_eq_true', Bool.and_eq_false_iff, decide_eq_false_iff_not]
    constructor
    · rintro ⟨⟨⟨⟨h1, h2⟩, h3⟩, h4⟩, h5⟩
      refine ⟨fun k hk => ⟨h5 k hk, ?_⟩, ⟨h1, h3⟩, h4⟩
      by_cases h0 : k = 0
      · exact .inl (by omega)
      · right
        have : k = 1 := by omega
        subst this
        rcases h2 with h2 | h2
        · omega
        · exact fun e => h2 e.symm
    · rintro ⟨h1, ⟨h2, h3⟩, h4⟩
      refine ⟨⟨⟨⟨h2, ?_⟩, h3⟩, h4⟩, fun k hk => (h1 k hk).1⟩
      by_cases h0 : c.parents.length = 2
      · right
        rcases (h1 1 (by omega)).2 with h5 | h5
        · omega
        · exact fun e => h5 e.symm
      · exact .inl h0
  rw [Bool.eq_iff_iff, repoI_iff, repoS_iff]
  simp only [h]
  exact ⟨fun ⟨a, b, c⟩ => ⟨b, c, a⟩, fun ⟨b, c, a⟩ => ⟨a, b, c⟩⟩

end Vx
end Go.Proofs.YthmhaggmcfemnaaGreatDoor
/-
  Contracts: repositories (l7Ok, MarksOk).
-/
namespace Go.Proofs.YthmhaggmcfemnaaGreatDoor
namespace Vx
open Go.RowKit
set_option maxRecDepth 8000

def rsO (r : RepoD) : Inv := ⟨Nat, fun i => ⟨[(1, true, .ptr 10 0), (2, true, .bool false), (3, true, .int .i64 i)], [(10, bRepo r)]⟩, fun i => i ≤ r.commits.length ∧ ∀ j, j < i → okCS r.commits j = true, fun i => r.commits.length - i⟩
def rsI (r : RepoD) (g : Nat) : Inv := ⟨Nat, fun k => ⟨[(1, true, .ptr 10 0), (2, true, .bool false), (3, true, .int .i64 g), (4, true, .ptr 11 0), (5, true, .int .i64 k)], [(10, bRepo r), (11, .box 38 [.sl true 1 (eInts (r.commits.getD g default).parents), .str (r.commits.getD g default).who, .sl true 2 (eFiles (r.commits.getD g default).tree)])]⟩,
  fun k => g < r.commits.length ∧ k ≤ (r.commits.getD g default).parents.length ∧ (∀ j, j < g → okCS r.commits j = true) ∧ ∀ j, j < k → oneP g (r.commits.getD g default).parents j = true, fun k => (r.commits.getD g default).parents.length - k⟩
def rsH (r : RepoD) : Inv := ⟨Nat, fun i => ⟨[(1, true, .ptr 10 0), (2, true, .bool false), (6, true, .int .i64 i)], [(10, bRepo r)]⟩, fun i => i ≤ r.heads.length ∧ (∀ j, j < r.commits.length → okCS r.commits j = true) ∧ ∀ j, j < i → okHd r.commits.length r.heads j = true, fun i => r.heads.length - i⟩
def rsInv (r : RepoD) (n g : Nat) : Inv := if n = 2 then rsO r else if n = 6 then rsI r g else rsH r
theorem rsInv_2 (r : RepoD) (g : Nat) : rsInv r 2 g = rsO r := rfl
theorem rsInv_6 (r : RepoD) (g : Nat) : rsInv r 6 g = rsI r g := rfl
theorem rsInv_13 (r : RepoD) (g : Nat) : rsInv r 13 g = rsH r := rfl

def cL7Ok : Con := .fn 126 RepoD (fun r => [vRepo r]) (fun r => r.commits.length ≤ 1073741824) (fun r => .bool (repoS r)) (fun _ => [])
set_option maxHeartbeats 4000000 in
theorem l7Ok_has : Has Tryz.prog 47 cL7Ok := by
  refine has_walk mixed tTab_ok (l := [(59, cL1In), (48, cL4Name), (93, cL4Ok)]) (HasL.cons l1In_has (HasL.cons l4Name_has (HasL.cons l4Ok_has HasL.nil))) [0, 1, 2, 3, 4, 5, 6] (fun r => rsInv r) [] Tryz.func47 (by kernel_rfl) (code := _) (by unfold Tryz.f47; rfl) (by kernel_rfl) (by decide) (fun _ => ⟨(), trivial⟩) (by intro h; first | exact fun _ => rfl | cases h) (by kernel_rfl) ?_
  intro (r : RepoD) hr
  replace hr : r.commits.length ≤ 1073741824 := hr
  have hN := fun i => @repoS_no r i
  have hN1 := fun i => @okCS_no1 r.commits i
  have hN2 := fun i k => @okCS_no2 r.commits i k
  have hY := fun i => @okCS_yes r.commits i
  have hM := fun i => @headsB_no r.commits.length r.heads i
  have hH := @repoS_noH r
  simp -implicitDefEqProofs [vc_skip, extOf, vc_seq, vc_cond, vc_block, vc_exit, vc_ret, vc_region, vc_regionD, vc_loop, kSeq_normal, kSeq_ret, kSeq_exit, kBlock_normal, kBlock_ret, kBlock_exit, kLoop_normal, kLoop_ret, kLoop_exit, kCond_bool, kNorm_app, vcOps_nil, vcOps_cons, kOps_app, kStep_some, kStep_none, vcDL_nil, vcDL_cons, kOpsD_app, kStepD_true, kStepD_tt, kStepD_false, ldB, btys, btyAct, kStepC_some, kStepC_none, kMv_app, act3_store, act3_call, act3_bs, kAct_app, kSt2_app, stealSlots, stealL, stealOne, subIn, AV.stolen, act_store, act_bs, act_append, act_call, kSet_app, kSet2_app, kSetG_app, kSetG_app0, kStore_ptr, kStore_eptr, kCallW_some, kCallC_some, kCall_some, wk_T, wk_n, wk_keep, wk_inv, wk_act, wk_dr, wk_le, aCalm, wantC, dstOk, calm, aCallK, aCall3K, subOf, subRep, aCall2K, apnd, bsMove, putBox, putOwn, partAV, mvL, AV.mv, AV.base, AV.moved, kBld, bldK, wrK, stK, AV.selfOk, AV.src, TI.flat, apSize, pickAV, St.val, St.cond, St.fn, St.next, St.set, St.trim, wipe_eq, wipeE_app, wipeM_app, pickEnv, get?, cGet, upd_app, withPuts, killAll, rm, freshP, Oper.hnd, Sc.st, ofConst, constOk, lenAV, elemLen, loadAV, ldL, ld1, fieldAddrAV, indexAddrAV, sliceAV, convAV, buildAV, fillAV, fieldAV, Out.of, binAV, AV.rows, AV.one, AV.cells, AV.deepOk, AV.toD, toDs, partRows, partRowsM, partsDeep, TK.zeroAV, TK.zeroD, byteOf, inR, Op.operands, Call.operands, passVs, passV, passL, pass1, passB, pasVs, pasV, pasL, pas1, ownsOk, okHs, okHs2, okFin, finOk2, rho, over, backRes, backAV, backAV1, backBlk, putBack, back2, back2_V, back2_1, m2, AV.wipe, AV.wipeV, AV.wipe1, Blk.wipe, AV.hs, AV.hs.hsL, alOps, Con.start2, Con.pk, bodyQ, fini, resAV, resA, firstId, Sc.from, renEnv, renT, renV, renVs, renL, ren1, renBox, renOwn, okRen, clOf, actB, setRow, flatRows, flatD, noInv, shr_nil, shr_some, kStepF_some, shareL, AV.viewed, AV.viewed1, cL7Ok, Con.fn, tTab, cL4Name, cL4Ok, cL1In, rsInv_2, rsInv_6, rsInv_13, rsO, rsI, rsH, bRepo_def]
  try dsimp only
  refine fun i hi hprev _ => ⟨fun hlt => ?_, fun hge => ?_⟩
  · have e3 : Option.map eCommit r.commits[i]? = some (eCommit r.commits[i]) := by simp -implicitDefEqProofs [List.getElem?_eq_getElem hlt]
    have hgc : r.commits.getD i default = r.commits[i] := by simp -implicitDefEqProofs [List.getD_eq_getElem?_getD, hlt]
    have n0 := hN i hlt
    have n1 := hN1 i
    have n2 := hN2 i
    have n3 := hY i
    rw [hgc] at n1 n2 n3
    simp -implicitDefEqProofs [hlt, e3, eCommit, D.asStr, D.asRows, cast_eq, and_assoc]
    try simp only [show r.commits[i]?.getD default = r.commits[i] by simp -implicitDefEqProofs [hlt]]
    generalize r.commits[i] = c at n1 n2 n3 ⊢
    clear hN hN1 hN2 hY hM hH e3 hgc
    refine ⟨hprev, fun t ht _ hinv _ => ⟨fun hlt2 => ?_, fun hge2 => ?_⟩⟩
    · have qt : Option.map eInt c.parents[t]? = some (eInt c.parents[t]) := by simp -implicitDefEqProofs [List.getElem?_eq_getElem hlt2]
      have q0 : Option.map eInt c.parents[0]? = some (eInt (c.parents[0]'(by omega))) := by simp -implicitDefEqProofs [List.getElem?_eq_getElem (show 0 < c.parents.length by omega)]
      have o : oneP i c.parents t = ((decide (0 ≤ c.parents[t]) && decide (c.parents[t] ≤ (i : Int) - 1)) && !(decide (0 < t) && decide (c.parents[t] = c.parents[0]'(by omega)))) := by
        unfold oneP inN
        rw [show c.parents.getD t 0 = c.parents[t] by simp -implicitDefEqProofs [List.getD_eq_getElem?_getD, hlt2], show c.parents.getD 0 0 = c.parents[0]'(by omega) by simp -implicitDefEqProofs [List.getD_eq_getElem?_getD, show 0 < c.parents.length by omega]]
      have n7 : oneP i c.parents t = false → repoS r = false := fun h => n0 (n2 t hlt2 h)
      have n8 : oneP i c.parents t = true → ∀ j, j < t + 1 → oneP i c.parents j = true := fun h j hj => by
        rcases Nat.lt_or_ge j t with h3 | h3
        · exact hinv j h3
        · have : j = t := by omega
          subst this; exact h
      simp -implicitDefEqProofs [qt, q0, eInt, hlt2]
      refine ⟨by omega, by omega, fun _ _ => ⟨fun h => ?_, fun g1 g2 => ⟨fun h0 => ⟨by omega, fun _ => ⟨fun he => n7 (by rw [o]; simp -implicitDefEqProofs [he, h0]), fun he => ⟨by omega, by omega, fun _ _ => ⟨t + 1, rfl, by omega, hprev, n8 (by rw [o]; simp -implicitDefEqProofs [g1, g2, he]), by omega⟩⟩⟩⟩,
        fun h0 => ⟨by omega, by omega, fun _ _ => ⟨t + 1, rfl, by omega, hprev, n8 (by rw [o, show decide (0 < t) = false by simp -implicitDefEqProofs [h0]]; simp -implicitDefEqProofs [g1, g2]), by omega⟩⟩⟩⟩⟩
      have : repoS r = false := n7 (by rw [o]; simp; omega)
      exact ⟨fun _ => this, fun _ => this⟩
    · have n9 : okS1 c = false → repoS r = false := fun h => n0 (n1 h)
      have n10 : okS1 c = true → ∀ j, j < i + 1 → okCS r.commits j = true := fun h j hj => by
        rcases Nat.lt_or_ge j i with h3 | h3
        · exact hprev j h3
        · have : j = i := by omega
          subst this
          exact n3 h (fun k hk => hinv k (by omega))
      refine fun _ => ⟨fun h => n9 (by simp -implicitDefEqProofs [okS1]; omega), fun h => ⟨fun hn => n9 (by simp -implicitDefEqProofs [okS1, hn]), fun hn => ⟨fun ht => n9 (by simp -implicitDefEqProofs [okS1, ht]), fun ht => ⟨by omega, by omega, fun _ _ => ⟨i + 1, rfl, by omega, n10 (by simp -implicitDefEqProofs [okS1, hn, ht]; omega), by omega⟩⟩⟩⟩⟩
  · clear hN hN1 hN2 hY
    have hall : ∀ j, j < r.commits.length → okCS r.commits j = true := fun j hj => hprev j (by omega)
    refine ⟨hall, fun t ht _ hinv _ => ⟨fun hlt2 => ?_, fun hge2 _ => ?_⟩⟩
    · generalize hhs : r.heads = hs at *
      have e3 : Option.map eHead hs[t]? = some (eHead hs[t]) := by simp -implicitDefEqProofs [List.getElem?_eq_getElem hlt2]
      have e4 : Option.map eHead hs[t - 1]? = some (eHead (hs[t - 1]'(by omega))) := by simp -implicitDefEqProofs [List.getElem?_eq_getElem (show t - 1 < hs.length by omega)]
      have hh : okHd r.commits.length hs t = (nameB hs[t].name && inN r.commits.length hs[t].at_ && (decide (t = 0) || Go.Op.bytesLess (hs[t - 1]'(by omega)).name hs[t].name)) := by
        unfold okHd
        rw [show hs.getD t default = hs[t] by simp -implicitDefEqProofs [List.getD_eq_getElem?_getD, hlt2], show hs.getD (t - 1) default = hs[t - 1]'(by omega) by simp -implicitDefEqProofs [List.getD_eq_getElem?_getD, show t - 1 < hs.length by omega]]
      have n7 : okHd r.commits.length hs t = false → repoS r = false := fun h => hH (hM t hlt2 h)
      have n8 : okHd r.commits.length hs t = true → ∀ j, j < t + 1 → okHd r.commits.length hs j = true := fun h j hj => by
        rcases Nat.lt_or_ge j t with h3 | h3
        · exact hinv j h3
        · have : j = t := by omega
          subst this; exact h
      have hq := leqS_iff hs[t].name (hs[t - 1]'(by omega)).name
      rw [less_eq] at hh
      unfold leqS at hq
      rw [hh] at n7 n8
      unfold inN at n7 n8
      clear hh hH hM
      simp -implicitDefEqProofs [hlt2, e3, e4, eHead, D.asStr, D.asInt, cast_eq, and_assoc]
      try simp +contextual -implicitDefEqProofs [eStr, eFile, cast_succ, cast_eq, cast_zero, List.getElem?_eq_getElem, eStrs_set, eFiles_set, eStrs_rep, eFiles_rep, ← eStrs_append, ← eFiles_append, eStrs_take, eStrs_drop, eFiles_take, eFiles_drop, eStrs_snoc, eFiles_snoc, and_assoc, hlt2]
      clear e3 e4 hinv hprev
      repeat' (first | intro _ | apply And.intro)
      all_goals first | omega | grind -ring
    · have h2 : headsB r.commits.length r.heads = decide (r.heads.length ≤ 5) := by
        unfold headsB
        have : (List.range r.heads.length).all (okHd r.commits.length r.heads) = true := by
          rw [List.all_eq_true]
          intro j hj
          have hj' : j < r.heads.length := by simpa using hj
          exact hinv j (by omega)
        rw [this, Bool.and_true]
      refine ⟨fun h16 _ => ?_, fun h16 => ?_⟩
      · rw [Bool.eq_iff_iff, repoS_iff, h2]
        simp only [decide_eq_true_eq]
        exact ⟨fun h => by have := h.2.1; omega, fun h => ⟨hall, by omega, by omega⟩⟩
      · cases hq : repoS r with
        | false => rfl
        | true => have := ((repoS_iff r).1 hq).2.2; omega

def marksI (a : RepoD × List HeadD) : Bool := repoI a.1 && headsB a.1.commits.length a.2
def cMarksOkS : Con := .fn 12 (RepoD × List HeadD) (fun a => [vRepo a.1, .sl true 2 (eHeads a.2)]) (fun a => a.1.commits.length ≤ 1073741824) (fun a => .bool (marksI a)) (fun _ => [])
set_option maxHeartbeats 4000000 in
theorem marksOkS_has : Has Tryz.prog 31 cMarksOkS := by
  refine has_walk mixed tTab_ok (l := [(47, cL7Ok), (58, cL23Ok)]) (HasL.cons l7Ok_has (HasL.cons l23Ok_has HasL.nil)) [0, 1, 2, 4] ((fun a n (_ : Nat) => (fun _ => noInv) a n)) [] Tryz.func31 (by kernel_rfl) (code := _) (by unfold Tryz.f31; rfl) (by kernel_rfl) (by decide) (fun _ => ⟨(), trivial⟩) (by intro h; first | exact fun _ => rfl | cases h) (by kernel_rfl) ?_
  intro a ha
  obtain ⟨r, m⟩ := a
  replace ha : r.commits.length ≤ 1073741824 := ha
  simp -implicitDefEqProofs [vc_skip, extOf, vc_seq, vc_cond, vc_block, vc_exit, vc_ret, vc_region, vc_regionD, vc_loop, kSeq_normal, kSeq_ret, kSeq_exit, kBlock_normal, kBlock_ret, kBlock_exit, kLoop_normal, kLoop_ret, kLoop_exit, kCond_bool, kNorm_app, vcOps_nil, vcOps_cons, kOps_app, kStep_some, kStep_none, vcDL_nil, vcDL_cons, kOpsD_app, kStepD_true, kStepD_tt, kStepD_false, ldB, btys, btyAct, kStepC_some, kStepC_none, kMv_app, act3_store, act3_call, act3_bs, kAct_app, kSt2_app, stealSlots, stealL, stealOne, subIn, AV.stolen, act_store, act_bs, act_append, act_call, kSet_app, kSet2_app, kSetG_app, kSetG_app0, kStore_ptr, kStore_eptr, kCallW_some, kCallC_some, kCall_some, wk_T, wk_n, wk_keep, wk_inv, wk_act, wk_dr, wk_le, aCalm, wantC, dstOk, calm, aCallK, aCall3K, subOf, subRep, aCall2K, apnd, bsMove, putBox, putOwn, partAV, mvL, AV.mv, AV.base, AV.moved, kBld, bldK, wrK, stK, AV.selfOk, AV.src, TI.flat, apSize, pickAV, St.val, St.cond, St.fn, St.next, St.set, St.trim, wipe_eq, wipeE_app, wipeM_app, pickEnv, get?, cGet, upd_app, withPuts, killAll, rm, freshP, Oper.hnd, Sc.st, ofConst, constOk, lenAV, elemLen, loadAV, ldL, ld1, fieldAddrAV, indexAddrAV, sliceAV, convAV, buildAV, fillAV, fieldAV, Out.of, binAV, AV.rows, AV.one, AV.cells, AV.deepOk, AV.toD, toDs, partRows, partRowsM, partsDeep, TK.zeroAV, TK.zeroD, byteOf, inR, Op.operands, Call.operands, passVs, passV, passL, pass1, passB, pasVs, pasV, pasL, pas1, ownsOk, okHs, okHs2, okFin, finOk2, rho, over, backRes, backAV, backAV1, backBlk, putBack, back2, back2_V, back2_1, m2, AV.wipe, AV.wipeV, AV.wipe1, Blk.wipe, AV.hs, AV.hs.hsL, alOps, Con.start2, Con.pk, bodyQ, fini, resAV, resA, firstId, Sc.from, renEnv, renT, renV, renVs, renL, ren1, renBox, renOwn, okRen, clOf, actB, setRow, flatRows, flatD, noInv, shr_nil, shr_some, kStepF_some, shareL, AV.viewed, AV.viewed1, cMarksOkS, Con.fn, tTab, cL7Ok, cL23Ok, marksI, repo_eq]
  try dsimp only
  try simp +contextual -implicitDefEqProofs [eStr, eFile, cast_succ, cast_eq, cast_zero, List.getElem?_eq_getElem, eStrs_set, eFiles_set, eStrs_rep, eFiles_rep, ← eStrs_append, ← eFiles_append, eStrs_take, eStrs_drop, eFiles_take, eFiles_drop, eStrs_snoc, eFiles_snoc, and_assoc]
  repeat' (first | intro _ | apply And.intro)
  all_goals first | omega | grind [all_take]
def cMarksOkI : Con := .fn 12 (RepoD × List HeadD) (fun a => [vRepo a.1, .sl true 2 (eHeads a.2)]) (fun a => rpPre a.1) (fun a => .bool (marksI a)) (fun _ => [])
set_option maxHeartbeats 4000000 in
theorem marksOkI_has : Has Tryz.prog 20 cMarksOkI := by
  refine has_walk mixed tTab_ok (l := [(14, cRepoOk), (52, cHeadsOk)]) (HasL.cons repoOk_has (HasL.cons headsOk_has HasL.nil)) [0, 1, 2, 4] ((fun a n (_ : Nat) => (fun _ => noInv) a n)) [] Tryz.func20 (by kernel_rfl) (code := _) (by unfold Tryz.f20; rfl) (by kernel_rfl) (by decide) (fun _ => ⟨(), trivial⟩) (by intro h; first | exact fun _ => rfl | cases h) (by kernel_rfl) ?_
  intro a ha
  obtain ⟨r, m⟩ := a
  obtain ⟨ha2, ha3⟩ : r.commits.length ≤ 1073741824 ∧ ∀ c ∈ r.commits, ∀ f ∈ c.tree, f.path.length ≤ 536870912 := ha
  simp -implicitDefEqProofs [vc_skip, extOf, vc_seq, vc_cond, vc_block, vc_exit, vc_ret, vc_region, vc_regionD, vc_loop, kSeq_normal, kSeq_ret, kSeq_exit, kBlock_normal, kBlock_ret, kBlock_exit, kLoop_normal, kLoop_ret, kLoop_exit, kCond_bool, kNorm_app, vcOps_nil, vcOps_cons, kOps_app, kStep_some, kStep_none, vcDL_nil, vcDL_cons, kOpsD_app, kStepD_true, kStepD_tt, kStepD_false, ldB, btys, btyAct, kStepC_some, kStepC_none, kMv_app, act3_store, act3_call, act3_bs, kAct_app, kSt2_app, stealSlots, stealL, stealOne, subIn, AV.stolen, act_store, act_bs, act_append, act_call, kSet_app, kSet2_app, kSetG_app, kSetG_app0, kStore_ptr, kStore_eptr, kCallW_some, kCallC_some, kCall_some, wk_T, wk_n, wk_keep, wk_inv, wk_act, wk_dr, wk_le, aCalm, wantC, dstOk, calm, aCallK, aCall3K, subOf, subRep, aCall2K, apnd, bsMove, putBox, putOwn, partAV, mvL, AV.mv, AV.base, AV.moved, kBld, bldK, wrK, stK, AV.selfOk, AV.src, TI.flat, apSize, pickAV, St.val, St.cond, St.fn, St.next, St.set, St.trim, wipe_eq, wipeE_app, wipeM_app, pickEnv, get?, cGet, upd_app, withPuts, killAll, rm, freshP, Oper.hnd, Sc.st, ofConst, constOk, lenAV, elemLen, loadAV, ldL, ld1, fieldAddrAV, indexAddrAV, sliceAV, convAV, buildAV, fillAV, fieldAV, Out.of, binAV, AV.rows, AV.one, AV.cells, AV.deepOk, AV.toD, toDs, partRows, partRowsM, partsDeep, TK.zeroAV, TK.zeroD, byteOf, inR, Op.operands, Call.operands, passVs, passV, passL, pass1, passB, pasVs, pasV, pasL, pas1, ownsOk, okHs, okHs2, okFin, finOk2, rho, over, backRes, backAV, backAV1, backBlk, putBack, back2, back2_V, back2_1, m2, AV.wipe, AV.wipeV, AV.wipe1, Blk.wipe, AV.hs, AV.hs.hsL, alOps, Con.start2, Con.pk, bodyQ, fini, resAV, resA, firstId, Sc.from, renEnv, renT, renV, renVs, renL, ren1, renBox, renOwn, okRen, clOf, actB, setRow, flatRows, flatD, noInv, shr_nil, shr_some, kStepF_some, shareL, AV.viewed, AV.viewed1, cMarksOkI, Con.fn, tTab, cRepoOk, cHeadsOk, marksI, rpPre]
  try dsimp only
  try simp +contextual -implicitDefEqProofs [eStr, eFile, cast_succ, cast_eq, cast_zero, List.getElem?_eq_getElem, eStrs_set, eFiles_set, eStrs_rep, eFiles_rep, ← eStrs_append, ← eFiles_append, eStrs_take, eStrs_drop, eFiles_take, eFiles_drop, eStrs_snoc, eFiles_snoc, and_assoc]
  repeat' (first | intro _ | apply And.intro)
  all_goals first | omega | grind [all_take]

end Vx
end Go.Proofs.YthmhaggmcfemnaaGreatDoor
/-
  Laws: FnExactMarksOk.
-/
namespace Go.Proofs.YthmhaggmcfemnaaGreatDoor
namespace Vx
open Go.RowKit
set_option maxRecDepth 8000

theorem szCm_ok {c : CommitD} {l : Int} (hl : 0 ≤ l) (h : 0 ≤ szCm c l) : (c.parents.length : Int) ≤ l ∧ (c.who.length : Int) ≤ l ∧ (c.tree.length : Int) ≤ l ∧ ∀ f ∈ c.tree, (f.path.length : Int) ≤ l ∧ (f.text.length : Int) ≤ l ∧ ∀ s ∈ f.text, (s.length : Int) ≤ l := by
  unfold szCm at h
  have h0 := szI_le (a := c.parents) hl
  split at h
  · omega
  · split at h
    · omega
    · split at h
      · omega
      · rename_i h1 h2 h3
        obtain ⟨q1, q2⟩ := szFiles_ok (Int.not_lt.1 h3)
        have hp : (c.parents.length : Int) ≤ l := by
          unfold szI at h1
          split at h1 <;> omega
        refine ⟨hp, by omega, by omega, fun f hf => ?_⟩
        obtain ⟨r1, r2, r3⟩ := q2 f hf
        exact ⟨by omega, by omega, fun s hs => by have := r3 s hs; omega⟩
theorem szCL_ok : ∀ {a : List CommitD} {l : Int}, 0 ≤ l → 0 ≤ szCL a l → ∀ c ∈ a, (c.parents.length : Int) ≤ l ∧ (c.who.length : Int) ≤ l ∧ (c.tree.length : Int) ≤ l ∧ ∀ f ∈ c.tree, (f.path.length : Int) ≤ l ∧ (f.text.length : Int) ≤ l ∧ ∀ s ∈ f.text, (s.length : Int) ≤ l := by
  intro a
  induction a with
  | nil => intro l _ _ c hc; cases hc
  | cons x r ih =>
    intro l hl h c hc
    simp only [szCL] at h
    split at h
    · omega
    · rename_i h0
      rcases List.mem_cons.1 hc with rfl | hc
      · exact szCm_ok hl (by omega)
      · have hle := szCm_le (c := x) hl
        obtain ⟨h1, h2, h3, h4⟩ := ih (by omega) h c hc
        refine ⟨by omega, by omega, by omega, fun f hf => ?_⟩
        obtain ⟨r1, r2, r3⟩ := h4 f hf
        exact ⟨by omega, by omega, fun s hs => by have := r3 s hs; omega⟩
theorem szCommits_ok {a : List CommitD} {l : Int} (h : 0 ≤ szCommits a l) : (a.length : Int) ≤ l ∧ ∀ c ∈ a, (c.parents.length : Int) ≤ l ∧ (c.who.length : Int) ≤ l ∧ (c.tree.length : Int) ≤ l ∧ ∀ f ∈ c.tree, (f.path.length : Int) ≤ l ∧ (f.text.length : Int) ≤ l ∧ ∀ s ∈ f.text, (s.length : Int) ≤ l := by
  unfold szCommits at h
  split at h
  · omega
  · refine ⟨by omega, fun c hc => ?_⟩
    obtain ⟨h1, h2, h3, h4⟩ := szCL_ok (by omega) h c hc
    refine ⟨by omega, by omega, by omega, fun f hf => ?_⟩
    obtain ⟨r1, r2, r3⟩ := h4 f hf
    exact ⟨by omega, by omega, fun s hs => by have := r3 s hs; omega⟩
theorem szHL_le : ∀ {a : List HeadD} {l : Int}, 0 ≤ l → szHL a l ≤ l := by
  intro a
  induction a with
  | nil => intro l _; exact Int.le_refl l
  | cons s r ih =>
    intro l h
    simp only [szHL]
    split
    · omega
    · have h1 := szHd_le (f := s) h
      have := ih (l := szHd s l) (by omega); omega
theorem szHeads_le {a : List HeadD} {l : Int} (h : 0 ≤ l) : szHeads a l ≤ l := by
  unfold szHeads
  split
  · omega
  · have := szHL_le (a := a) (l := l - a.length) (by omega); omega
theorem szHL_ok : ∀ {a : List HeadD} {l : Int}, 0 ≤ l → 0 ≤ szHL a l → ∀ h ∈ a, (h.name.length : Int) ≤ l := by
  intro a
  induction a with
  | nil => intro l _ _ c hc; cases hc
  | cons x r ih =>
    intro l hl h c hc
    simp only [szHL] at h
    split at h
    · omega
    · rename_i h0
      have hle := szHd_le (f := x) hl
      rcases List.mem_cons.1 hc with rfl | hc
      · unfold szHd at h0
        split at h0 <;> omega
      · have := ih (by omega) h c hc; omega
theorem szHeads_ok {a : List HeadD} {l : Int} (h : 0 ≤ szHeads a l) : (a.length : Int) ≤ l ∧ ∀ h ∈ a, (h.name.length : Int) ≤ l := by
  unfold szHeads at h
  split at h
  · omega
  · exact ⟨by omega, fun c hc => by have := szHL_ok (by omega) h c hc; omega⟩
theorem szRp_le {r : RepoD} {l : Int} (h : 0 ≤ l) : szRp r l ≤ l := by
  unfold szRp
  have h1 := szCommits_le (a := r.commits) h
  split
  · omega
  · split
    · omega
    · have := szHeads_le (a := r.heads) (l := szCommits r.commits l) (by omega); omega
theorem szRp_ok {r : RepoD} {l : Int} (hl : 0 ≤ l) (h : 0 ≤ szRp r l) : ((r.commits.length : Int) ≤ l ∧ ∀ c ∈ r.commits, (c.parents.length : Int) ≤ l ∧ (c.who.length : Int) ≤ l ∧ (c.tree.length : Int) ≤ l ∧ ∀ f ∈ c.tree, (f.path.length : Int) ≤ l ∧ (f.text.length : Int) ≤ l ∧ ∀ s ∈ f.text, (s.length : Int) ≤ l) ∧
    (r.heads.length : Int) ≤ l ∧ ∀ h ∈ r.heads, (h.name.length : Int) ≤ l := by
  unfold szRp at h
  have h1 := szCommits_le (a := r.commits) hl
  split at h
  · omega
  · split at h
    · omega
    · rename_i h2 h3
      obtain ⟨q1, q2⟩ := szHeads_ok (Int.not_lt.1 h3)
      exact ⟨szCommits_ok (Int.not_lt.1 h2), by omega, fun c hc => by have := q2 c hc; omega⟩
theorem szRp_use {r : RepoD} (h : 0 ≤ szRp r 1048576) : rpSz r ∧ rpPre r := by
  obtain ⟨⟨h1, h2⟩, h3, h4⟩ := szRp_ok (by omega) h
  refine ⟨⟨by omega, fun c hc => ?_, by omega⟩, by omega, fun c hc f hf => ?_⟩
  · obtain ⟨q1, q2, q3, q4⟩ := h2 c hc
    exact ⟨by omega, by omega, fun g hg => by have := (q4 g hg).2.1; omega⟩
  · have := ((h2 c hc).2.2.2 f hf).1; omega

end Vx
end Go.Proofs.YthmhaggmcfemnaaGreatDoor
/-
  Contracts: lines of first parents, both sides; SeekSince.
-/
namespace Go.Proofs.YthmhaggmcfemnaaGreatDoor
namespace Vx
open Go.RowKit
set_option maxRecDepth 8000

theorem repo_use {r : RepoD} (h : repoI r = true) {i : Nat} (hi : i < r.commits.length) : r.commits[i].parents.length ≤ 2 ∧ (∀ p ∈ r.commits[i].parents, 0 ≤ p ∧ p < (i : Int)) ∧ treeI r.commits[i].tree = true := by
  have h1 := ((repoI_iff r).1 h).2.1 i hi
  have hg : r.commits.getD i default = r.commits[i] := by simp -implicitDefEqProofs [List.getD_eq_getElem?_getD, hi]
  simp only [okCI, okI1, hg, Bool.and_eq_true, decide_eq_true_eq, List.all_eq_true, List.mem_range] at h1
  refine ⟨h1.1.1.1.1, fun p hp => ?_, h1.1.2⟩
  obtain ⟨k, hk, rfl⟩ := List.getElem_of_mem hp
  have h2 := h1.2 k hk
  simp only [inN, Bool.and_eq_true, decide_eq_true_eq, List.getD_eq_getElem?_getD, List.getElem?_eq_getElem hk, Option.getD_some] at h2
  omega
theorem repo_n {r : RepoD} (h : repoI r = true) : r.commits.length ≤ 16 := ((repoI_iff r).1 h).1

def firstP (r : RepoD) (a : Int) : Int := (r.commits.getD a.toNat default).parents.headD (-1)
theorem first_lt {r : RepoD} (h : repoI r = true) {a : Int} (h0 : 0 ≤ a) (h1 : a < r.commits.length) : -1 ≤ firstP r a ∧ firstP r a < a := by
  have hi : a.toNat < r.commits.length := by omega
  obtain ⟨_, h2, _⟩ := repo_use h hi
  unfold firstP
  rw [List.getD_eq_getElem?_getD, List.getElem?_eq_getElem hi, Option.getD_some]
  cases hp : r.commits[a.toNat].parents with
  | nil => simp; omega
  | cons p l =>
    have := h2 p (by rw [hp]; simp)
    simp only [List.headD_cons]
    omega
def lineF (r : RepoD) : Nat → Int → List Int
  | 0, _ => []
  | n + 1, a => if a < 0 then [] else a :: lineF r n (firstP r a)
def lineP (r : RepoD) (a : Int) : List Int := lineF r (a + 1).toNat a
theorem lineF_fuel {r : RepoD} (h : repoI r = true) : ∀ (f g : Nat) (a : Int), a < r.commits.length → (a + 1).toNat ≤ f → (a + 1).toNat ≤ g → lineF r f a = lineF r g a := by
  intro f
  induction f with
  | zero =>
    intro g a ha hf hg
    have : a < 0 := by omega
    cases g with
    | zero => rfl
    | succ g => simp -implicitDefEqProofs [lineF, this]
  | succ f ih =>
    intro g a ha hf hg
    by_cases hn : a < 0
    · cases g with
      | zero => simp -implicitDefEqProofs [lineF, hn]
      | succ g => simp -implicitDefEqProofs [lineF, hn]
    · obtain ⟨g, rfl⟩ : ∃ g', g = g' + 1 := ⟨g - 1, by omega⟩
      have hlt := first_lt h (a := a) (by omega) ha
      simp only [lineF, hn, if_false]
      rw [ih g (firstP r a) (by omega) (by omega) (by omega)]
theorem line_step {r : RepoD} (h : repoI r = true) {a : Int} (h0 : 0 ≤ a) (h1 : a < r.commits.length) : lineP r a = a :: lineP r (firstP r a) := by
  have hlt := first_lt h h0 h1
  unfold lineP
  rw [show (a + 1).toNat = a.toNat + 1 by omega]
  simp only [lineF, show ¬ a < 0 by omega, if_false]
  rw [lineF_fuel h a.toNat (firstP r a + 1).toNat (firstP r a) (by omega) (by omega) (by omega)]
theorem line_neg (r : RepoD) {a : Int} (h : a < 0) : lineP r a = [] := by
  unfold lineP
  rw [show (a + 1).toNat = 0 by omega]; rfl
theorem line_bd {r : RepoD} (h : repoI r = true) : ∀ (n : Nat) (a : Int), a < r.commits.length → a + 1 ≤ n → (lineP r a).length ≤ n ∧ ∀ b ∈ lineP r a, 0 ≤ b ∧ b < r.commits.length := by
  intro n
  induction n with
  | zero => intro a _ h2; rw [line_neg r (by omega)]; simp
  | succ n ih =>
    intro a ha h2
    by_cases hn : a < 0
    · rw [line_neg r hn]; simp
    · rw [line_step h (by omega) ha]
      have hlt := first_lt h (a := a) (by omega) ha
      obtain ⟨i1, i2⟩ := ih (firstP r a) (by omega) (by omega)
      refine ⟨by simp; omega, fun b hb => ?_⟩
      rcases List.mem_cons.1 hb with rfl | hb
      · omega
      · exact i2 b hb

def cFirst : Con := .fn 21 (RepoD × Int) (fun a => [vRepo a.1, .int .i64 a.2]) (fun a => 0 ≤ a.2 ∧ a.2 < a.1.commits.length) (fun a => .int .i64 (firstP a.1 a.2)) (fun _ => [])
set_option maxHeartbeats 4000000 in
theorem first_has : Has Tryz.prog 100 cFirst := by
  refine has_walk mixed tTab_ok (l := []) HasL.nil [0, 1, 2, 4] ((fun a n (_ : Nat) => (fun _ => noInv) a n)) [] Tryz.func100 (by kernel_rfl) (code := _) (by unfold Tryz.f100; rfl) (by kernel_rfl) (by decide) (fun _ => ⟨(), trivial⟩) (by intro h; first | exact fun _ => rfl | cases h) (by kernel_rfl) ?_
  intro a ha
  obtain ⟨r, n⟩ := a
  obtain ⟨h1, h2⟩ : 0 ≤ n ∧ n < r.commits.length := ha
  have hi : n.toNat < r.commits.length := by omega
  have e : Option.map eCommit r.commits[n.toNat]? = some (eCommit r.commits[n.toNat]) := by simp -implicitDefEqProofs [hi]
  have hf : firstP r n = r.commits[n.toNat].parents.headD (-1) := by unfold firstP; rw [List.getD_eq_getElem?_getD, List.getElem?_eq_getElem hi]; rfl
  simp -implicitDefEqProofs [vc_skip, extOf, vc_seq, vc_cond, vc_block, vc_exit, vc_ret, vc_region, vc_regionD, vc_loop, kSeq_normal, kSeq_ret, kSeq_exit, kBlock_normal, kBlock_ret, kBlock_exit, kLoop_normal, kLoop_ret, kLoop_exit, kCond_bool, kNorm_app, vcOps_nil, vcOps_cons, kOps_app, kStep_some, kStep_none, vcDL_nil, vcDL_cons, kOpsD_app, kStepD_true, kStepD_tt, kStepD_false, ldB, btys, btyAct, kStepC_some, kStepC_none, kMv_app, act3_store, act3_call, act3_bs, kAct_app, kSt2_app, stealSlots, stealL, stealOne, subIn, AV.stolen, act_store, act_bs, act_append, act_call, kSet_app, kSet2_app, kSetG_app, kSetG_app0, kStore_ptr, kStore_eptr, kCallW_some, kCallC_some, kCall_some, wk_T, wk_n, wk_keep, wk_inv, wk_act, wk_dr, wk_le, aCalm, wantC, dstOk, calm, aCallK, aCall3K, subOf, subRep, aCall2K, apnd, bsMove, putBox, putOwn, partAV, mvL, AV.mv, AV.base, AV.moved, kBld, bldK, wrK, stK, AV.selfOk, AV.src, TI.flat, apSize, pickAV, St.val, St.cond, St.fn, St.next, St.set, St.trim, wipe_eq, wipeE_app, wipeM_app, pickEnv, get?, cGet, upd_app, withPuts, killAll, rm, freshP, Oper.hnd, Sc.st, ofConst, constOk, lenAV, elemLen, loadAV, ldL, ld1, fieldAddrAV, indexAddrAV, sliceAV, convAV, buildAV, fillAV, fieldAV, Out.of, binAV, AV.rows, AV.one, AV.cells, AV.deepOk, AV.toD, toDs, partRows, partRowsM, partsDeep, TK.zeroAV, TK.zeroD, byteOf, inR, Op.operands, Call.operands, passVs, passV, passL, pass1, passB, pasVs, pasV, pasL, pas1, ownsOk, okHs, okHs2, okFin, finOk2, rho, over, backRes, backAV, backAV1, backBlk, putBack, back2, back2_V, back2_1, m2, AV.wipe, AV.wipeV, AV.wipe1, Blk.wipe, AV.hs, AV.hs.hsL, alOps, Con.start2, Con.pk, bodyQ, fini, resAV, resA, firstId, Sc.from, renEnv, renT, renV, renVs, renL, ren1, renBox, renOwn, okRen, clOf, actB, setRow, flatRows, flatD, noInv, shr_nil, shr_some, kStepF_some, shareL, AV.viewed, AV.viewed1, cFirst, Con.fn, tTab, e, hf, eCommit, hi, h1, h2]
  try dsimp only
  intro _
  cases hp : r.commits[n.toNat].parents with
  | nil => simp
  | cons q l => simp -implicitDefEqProofs [eInt]

def cLineR : Con := .fn 16 (RepoD × Int) (fun a => [vRepo a.1, .int .i64 a.2]) (fun a => repoI a.1 = true ∧ 0 ≤ a.2 ∧ a.2 < a.1.commits.length) (fun a => .own 8 1 (eInts (lineP a.1 a.2))) (fun a => ownInts 8 (lineP a.1 a.2))
set_option maxHeartbeats 4000000 in
theorem lineR_has : Has Tryz.prog 64 cLineR := by
  refine has_walk mixed tTab_ok (l := [(100, cFirst)]) (HasL.cons first_has HasL.nil) [0, 1, 2, 4, 5] ((fun a n (_ : Nat) => (fun a _ => ⟨List Int × Int, fun t => ⟨[(1, true, .int .i64 t.2), (2, true, .ptr 10 0), (4, true, .nil), (5, true, .own 9 1 (eInts t.1))], [(10, bRepo a.1), (9, .own 3 1 true (eInts t.1))]⟩, fun t => t.1 ++ lineP a.1 t.2 = lineP a.1 a.2 ∧ -1 ≤ t.2 ∧ t.2 < a.1.commits.length ∧ t.1.length + (t.2 + 1).toNat ≤ 16, fun t => (t.2 + 1).toNat⟩) a n)) [] Tryz.func64 (by kernel_rfl) (code := _) (by unfold Tryz.f64; rfl) (by kernel_rfl) (by decide) (fun _ => ⟨(), trivial⟩) (by intro h; first | exact fun _ => rfl | cases h) (by kernel_rfl) ?_
  intro a ha
  obtain ⟨r, n⟩ := a
  obtain ⟨h1, h2, h3⟩ : repoI r = true ∧ 0 ≤ n ∧ n < r.commits.length := ha
  have h4 := repo_n h1
  have k1 := fun b => @line_step r h1 b
  have k2 := fun b => @line_neg r b
  have k3 := fun b => @first_lt r h1 b
  simp -implicitDefEqProofs [vc_skip, extOf, vc_seq, vc_cond, vc_block, vc_exit, vc_ret, vc_region, vc_regionD, vc_loop, kSeq_normal, kSeq_ret, kSeq_exit, kBlock_normal, kBlock_ret, kBlock_exit, kLoop_normal, kLoop_ret, kLoop_exit, kCond_bool, kNorm_app, vcOps_nil, vcOps_cons, kOps_app, kStep_some, kStep_none, vcDL_nil, vcDL_cons, kOpsD_app, kStepD_true, kStepD_tt, kStepD_false, ldB, btys, btyAct, kStepC_some, kStepC_none, kMv_app, act3_store, act3_call, act3_bs, kAct_app, kSt2_app, stealSlots, stealL, stealOne, subIn, AV.stolen, act_store, act_bs, act_append, act_call, kSet_app, kSet2_app, kSetG_app, kSetG_app0, kStore_ptr, kStore_eptr, kCallW_some, kCallC_some, kCall_some, wk_T, wk_n, wk_keep, wk_inv, wk_act, wk_dr, wk_le, aCalm, wantC, dstOk, calm, aCallK, aCall3K, subOf, subRep, aCall2K, apnd, bsMove, putBox, putOwn, partAV, mvL, AV.mv, AV.base, AV.moved, kBld, bldK, wrK, stK, AV.selfOk, AV.src, TI.flat, apSize, pickAV, St.val, St.cond, St.fn, St.next, St.set, St.trim, wipe_eq, wipeE_app, wipeM_app, pickEnv, get?, cGet, upd_app, withPuts, killAll, rm, freshP, Oper.hnd, Sc.st, ofConst, constOk, lenAV, elemLen, loadAV, ldL, ld1, fieldAddrAV, indexAddrAV, sliceAV, convAV, buildAV, fillAV, fieldAV, Out.of, binAV, AV.rows, AV.one, AV.cells, AV.deepOk, AV.toD, toDs, partRows, partRowsM, partsDeep, TK.zeroAV, TK.zeroD, byteOf, inR, Op.operands, Call.operands, passVs, passV, passL, pass1, passB, pasVs, pasV, pasL, pas1, ownsOk, okHs, okHs2, okFin, finOk2, rho, over, backRes, backAV, backAV1, backBlk, putBack, back2, back2_V, back2_1, m2, AV.wipe, AV.wipeV, AV.wipe1, Blk.wipe, AV.hs, AV.hs.hsL, alOps, Con.start2, Con.pk, bodyQ, fini, resAV, resA, firstId, Sc.from, renEnv, renT, renV, renVs, renL, ren1, renBox, renOwn, okRen, clOf, actB, setRow, flatRows, flatD, noInv, shr_nil, shr_some, kStepF_some, shareL, AV.viewed, AV.viewed1, cLineR, Con.fn, tTab, cFirst, bRepo_def]
  try dsimp only
  refine ⟨⟨[], n, ⟨rfl, rfl⟩, rfl, by omega, h3, by simp; omega⟩, fun out b g1 g2 g3 g4 => ⟨fun hb => ?_, fun hb => ?_⟩⟩
  · have hs := k1 b hb g3
    have hf := k3 b hb g3
    refine ⟨⟨by omega, by omega⟩, r, b, ⟨⟨rfl, rfl⟩, rfl⟩, ⟨hb, g3⟩, out ++ [b], firstP r b, ⟨⟨rfl, by simp -implicitDefEqProofs [eInts, eInt]⟩, by simp -implicitDefEqProofs [eInts, eInt]⟩, ⟨?_, by omega, by omega, by simp; omega⟩, by omega⟩
    rw [← g1, hs]; simp
  · rw [k2 b hb, List.append_nil] at g1
    exact ⟨g1.symm, g1⟩

def cL8Line : Con := .fn 29 (RepoD × Int) (fun a => [vRepo a.1, .int .i64 a.2]) (fun a => repoI a.1 = true ∧ 0 ≤ a.2 ∧ a.2 < a.1.commits.length) (fun a => .own 8 1 (eInts (lineP a.1 a.2))) (fun a => ownInts 8 (lineP a.1 a.2))
set_option maxHeartbeats 4000000 in
theorem l8Line_has : Has Tryz.prog 66 cL8Line := by
  refine has_walk mixed tTab_ok (l := []) HasL.nil [0, 1, 2, 4, 5] ((fun a n (_ : Nat) => (fun a _ => ⟨List Int × Int, fun t => ⟨[(1, true, .int .i64 t.2), (2, true, .ptr 10 0), (4, true, .nil), (5, true, .own 9 1 (eInts t.1))], [(10, bRepo a.1), (9, .own 3 1 true (eInts t.1))]⟩, fun t => t.1 ++ lineP a.1 (firstP a.1 t.2) = lineP a.1 a.2 ∧ 0 ≤ t.2 ∧ t.2 < a.1.commits.length ∧ t.1.length + (t.2 + 1).toNat ≤ 17, fun t => (t.2 + 1).toNat⟩) a n)) [] Tryz.func66 (by kernel_rfl) (code := _) (by unfold Tryz.f66; rfl) (by kernel_rfl) (by decide) (fun _ => ⟨(), trivial⟩) (by intro h; first | exact fun _ => rfl | cases h) (by kernel_rfl) ?_
  intro a ha
  obtain ⟨r, n⟩ := a
  obtain ⟨h1, h2, h3⟩ : repoI r = true ∧ 0 ≤ n ∧ n < r.commits.length := ha
  have h4 := repo_n h1
  simp -implicitDefEqProofs [vc_skip, extOf, vc_seq, vc_cond, vc_block, vc_exit, vc_ret, vc_region, vc_regionD, vc_loop, kSeq_normal, kSeq_ret, kSeq_exit, kBlock_normal, kBlock_ret, kBlock_exit, kLoop_normal, kLoop_ret, kLoop_exit, kCond_bool, kNorm_app, vcOps_nil, vcOps_cons, kOps_app, kStep_some, kStep_none, vcDL_nil, vcDL_cons, kOpsD_app, kStepD_true, kStepD_tt, kStepD_false, ldB, btys, btyAct, kStepC_some, kStepC_none, kMv_app, act3_store, act3_call, act3_bs, kAct_app, kSt2_app, stealSlots, stealL, stealOne, subIn, AV.stolen, act_store, act_bs, act_append, act_call, kSet_app, kSet2_app, kSetG_app, kSetG_app0, kStore_ptr, kStore_eptr, kCallW_some, kCallC_some, kCall_some, wk_T, wk_n, wk_keep, wk_inv, wk_act, wk_dr, wk_le, aCalm, wantC, dstOk, calm, aCallK, aCall3K, subOf, subRep, aCall2K, apnd, bsMove, putBox, putOwn, partAV, mvL, AV.mv, AV.base, AV.moved, kBld, bldK, wrK, stK, AV.selfOk, AV.src, TI.flat, apSize, pickAV, St.val, St.cond, St.fn, St.next, St.set, St.trim, wipe_eq, wipeE_app, wipeM_app, pickEnv, get?, cGet, upd_app, withPuts, killAll, rm, freshP, Oper.hnd, Sc.st, ofConst, constOk, lenAV, elemLen, loadAV, ldL, ld1, fieldAddrAV, indexAddrAV, sliceAV, convAV, buildAV, fillAV, fieldAV, Out.of, binAV, AV.rows, AV.one, AV.cells, AV.deepOk, AV.toD, toDs, partRows, partRowsM, partsDeep, TK.zeroAV, TK.zeroD, byteOf, inR, Op.operands, Call.operands, passVs, passV, passL, pass1, passB, pasVs, pasV, pasL, pas1, ownsOk, okHs, okHs2, okFin, finOk2, rho, over, backRes, backAV, backAV1, backBlk, putBack, back2, back2_V, back2_1, m2, AV.wipe, AV.wipeV, AV.wipe1, Blk.wipe, AV.hs, AV.hs.hsL, alOps, Con.start2, Con.pk, bodyQ, fini, resAV, resA, firstId, Sc.from, renEnv, renT, renV, renVs, renL, ren1, renBox, renOwn, okRen, clOf, actB, setRow, flatRows, flatD, noInv, shr_nil, shr_some, kStepF_some, shareL, AV.viewed, AV.viewed1, cL8Line, Con.fn, tTab, bRepo_def]
  try dsimp only
  have k1 := @line_step r h1
  refine ⟨⟨[n], n, ⟨⟨rfl, by simp -implicitDefEqProofs [eInts, eInt]⟩, by simp -implicitDefEqProofs [eInts, eInt]⟩, by rw [k1 h2 h3]; rfl, h2, h3, by simp; omega⟩, fun out b g1 g2 g3 g4 => ⟨⟨g2, g3⟩, fun _ _ => ?_⟩⟩
  have hi : b.toNat < r.commits.length := by omega
  have e : Option.map eCommit r.commits[b.toNat]? = some (eCommit r.commits[b.toNat]) := by simp -implicitDefEqProofs [hi]
  have hf : firstP r b = r.commits[b.toNat].parents.headD (-1) := by unfold firstP; rw [List.getD_eq_getElem?_getD, List.getElem?_eq_getElem hi]; rfl
  have hlt := first_lt h1 g2 g3
  simp -implicitDefEqProofs [e, eCommit, g2, g3]
  cases hp : r.commits[b.toNat].parents with
  | nil =>
    rw [hp] at hf
    rw [hf, line_neg r (by simp), List.append_nil] at g1
    simp
    exact ⟨g1.symm, g1⟩
  | cons q l =>
    rw [hp] at hf
    simp only [List.headD_cons] at hf
    rw [hf] at hlt
    have hq : 0 ≤ q := ((repo_use h1 hi).2.1 q (by rw [hp]; simp)).1
    simp -implicitDefEqProofs [eInt]
    exact fun _ => ⟨⟨by omega, by omega⟩, out ++ [q], q, ⟨⟨rfl, by simp -implicitDefEqProofs [eInts, eInt]⟩, by simp -implicitDefEqProofs [eInts, eInt]⟩, ⟨by rw [← g1, hf, k1 hq (by omega)]; simp, hq, by omega, by simp; omega⟩, by omega⟩

def cTreeR : Con := .fn 13 (RepoD × Int) (fun a => [vRepo a.1, .int .i64 a.2]) (fun a => 0 ≤ a.2 ∧ a.2 < a.1.commits.length) (fun a => .sl true 2 (eFiles (a.1.commits.getD a.2.toNat default).tree)) (fun _ => [])
set_option maxHeartbeats 4000000 in
theorem treeR_has : Has Tryz.prog 65 cTreeR := by
  refine has_walk mixed tTab_ok (l := []) HasL.nil [0, 1, 2, 4] ((fun a n (_ : Nat) => (fun _ => noInv) a n)) [] Tryz.func65 (by kernel_rfl) (code := _) (by unfold Tryz.f65; rfl) (by kernel_rfl) (by decide) (fun _ => ⟨(), trivial⟩) (by intro h; first | exact fun _ => rfl | cases h) (by kernel_rfl) ?_
  intro a ha
  obtain ⟨r, n⟩ := a
  obtain ⟨h1, h2⟩ : 0 ≤ n ∧ n < r.commits.length := ha
  have hi : n.toNat < r.commits.length := by omega
  have e : Option.map eCommit r.commits[n.toNat]? = some (eCommit r.commits[n.toNat]) := by simp -implicitDefEqProofs [hi]
  simp -implicitDefEqProofs [vc_skip, extOf, vc_seq, vc_cond, vc_block, vc_exit, vc_ret, vc_region, vc_regionD, vc_loop, kSeq_normal, kSeq_ret, kSeq_exit, kBlock_normal, kBlock_ret, kBlock_exit, kLoop_normal, kLoop_ret, kLoop_exit, kCond_bool, kNorm_app, vcOps_nil, vcOps_cons, kOps_app, kStep_some, kStep_none, vcDL_nil, vcDL_cons, kOpsD_app, kStepD_true, kStepD_tt, kStepD_false, ldB, btys, btyAct, kStepC_some, kStepC_none, kMv_app, act3_store, act3_call, act3_bs, kAct_app, kSt2_app, stealSlots, stealL, stealOne, subIn, AV.stolen, act_store, act_bs, act_append, act_call, kSet_app, kSet2_app, kSetG_app, kSetG_app0, kStore_ptr, kStore_eptr, kCallW_some, kCallC_some, kCall_some, wk_T, wk_n, wk_keep, wk_inv, wk_act, wk_dr, wk_le, aCalm, wantC, dstOk, calm, aCallK, aCall3K, subOf, subRep, aCall2K, apnd, bsMove, putBox, putOwn, partAV, mvL, AV.mv, AV.base, AV.moved, kBld, bldK, wrK, stK, AV.selfOk, AV.src, TI.flat, apSize, pickAV, St.val, St.cond, St.fn, St.next, St.set, St.trim, wipe_eq, wipeE_app, wipeM_app, pickEnv, get?, cGet, upd_app, withPuts, killAll, rm, freshP, Oper.hnd, Sc.st, ofConst, constOk, lenAV, elemLen, loadAV, ldL, ld1, fieldAddrAV, indexAddrAV, sliceAV, convAV, buildAV, fillAV, fieldAV, Out.of, binAV, AV.rows, AV.one, AV.cells, AV.deepOk, AV.toD, toDs, partRows, partRowsM, partsDeep, TK.zeroAV, TK.zeroD, byteOf, inR, Op.operands, Call.operands, passVs, passV, passL, pass1, passB, pasVs, pasV, pasL, pas1, ownsOk, okHs, okHs2, okFin, finOk2, rho, over, backRes, backAV, backAV1, backBlk, putBack, back2, back2_V, back2_1, m2, AV.wipe, AV.wipeV, AV.wipe1, Blk.wipe, AV.hs, AV.hs.hsL, alOps, Con.start2, Con.pk, bodyQ, fini, resAV, resA, firstId, Sc.from, renEnv, renT, renV, renVs, renL, ren1, renBox, renOwn, okRen, clOf, actB, setRow, flatRows, flatD, noInv, shr_nil, shr_some, kStepF_some, shareL, AV.viewed, AV.viewed1, cTreeR, Con.fn, tTab, e, eCommit, hi, h1, h2]
  try dsimp only
  exact fun h => absurd h (by omega)

def areB (r : RepoD) (l : List Int) : Bool := repoI r && l.all fun a => decide (0 ≤ a) && decide (a ≤ (r.commits.length : Int) - 1)
def cAre : Con := .fn 21 (RepoD × List Int) (fun a => [vRepo a.1, .sl true 1 (eInts a.2)]) (fun a => rpPre a.1) (fun a => .bool (areB a.1 a.2)) (fun _ => [])
set_option maxHeartbeats 4000000 in
theorem are_has : Has Tryz.prog 63 cAre := by
  refine has_walk mixed tTab_ok (l := [(14, cRepoOk), (55, cExists)]) (HasL.cons repoOk_has (HasL.cons exists_has HasL.nil)) [0, 1, 2, 4, 6, 10, 11, 12] ((fun a n (_ : Nat) => (fun a _ => ⟨Nat, fun i => ⟨[(1, true, .sl true 1 (eInts a.2)), (2, true, .ptr 10 0), (4, true, .bool false), (10, true, .sl true 1 (eInts a.2)), (11, true, .int .i64 a.2.length), (12, true, .int .i64 i)], [(10, bRepo a.1)]⟩, fun i => i ≤ a.2.length ∧ ∀ x, x ∈ a.2.take i → (decide (0 ≤ x) && decide (x ≤ (a.1.commits.length : Int) - 1)) = true, fun i => a.2.length - i⟩) a n)) [] Tryz.func63 (by kernel_rfl) (code := _) (by unfold Tryz.f63; rfl) (by kernel_rfl) (by decide) (fun _ => ⟨(), trivial⟩) (by intro h; first | exact fun _ => rfl | cases h) (by kernel_rfl) ?_
  intro a ha
  obtain ⟨r, l⟩ := a
  replace ha : rpPre r := ha
  have ha2 := ha.1
  simp -implicitDefEqProofs [vc_skip, extOf, vc_seq, vc_cond, vc_block, vc_exit, vc_ret, vc_region, vc_regionD, vc_loop, kSeq_normal, kSeq_ret, kSeq_exit, kBlock_normal, kBlock_ret, kBlock_exit, kLoop_normal, kLoop_ret, kLoop_exit, kCond_bool, kNorm_app, vcOps_nil, vcOps_cons, kOps_app, kStep_some, kStep_none, vcDL_nil, vcDL_cons, kOpsD_app, kStepD_true, kStepD_tt, kStepD_false, ldB, btys, btyAct, kStepC_some, kStepC_none, kMv_app, act3_store, act3_call, act3_bs, kAct_app, kSt2_app, stealSlots, stealL, stealOne, subIn, AV.stolen, act_store, act_bs, act_append, act_call, kSet_app, kSet2_app, kSetG_app, kSetG_app0, kStore_ptr, kStore_eptr, kCallW_some, kCallC_some, kCall_some, wk_T, wk_n, wk_keep, wk_inv, wk_act, wk_dr, wk_le, aCalm, wantC, dstOk, calm, aCallK, aCall3K, subOf, subRep, aCall2K, apnd, bsMove, putBox, putOwn, partAV, mvL, AV.mv, AV.base, AV.moved, kBld, bldK, wrK, stK, AV.selfOk, AV.src, TI.flat, apSize, pickAV, St.val, St.cond, St.fn, St.next, St.set, St.trim, wipe_eq, wipeE_app, wipeM_app, pickEnv, get?, cGet, upd_app, withPuts, killAll, rm, freshP, Oper.hnd, Sc.st, ofConst, constOk, lenAV, elemLen, loadAV, ldL, ld1, fieldAddrAV, indexAddrAV, sliceAV, convAV, buildAV, fillAV, fieldAV, Out.of, binAV, AV.rows, AV.one, AV.cells, AV.deepOk, AV.toD, toDs, partRows, partRowsM, partsDeep, TK.zeroAV, TK.zeroD, byteOf, inR, Op.operands, Call.operands, passVs, passV, passL, pass1, passB, pasVs, pasV, pasL, pas1, ownsOk, okHs, okHs2, okFin, finOk2, rho, over, backRes, backAV, backAV1, backBlk, putBack, back2, back2_V, back2_1, m2, AV.wipe, AV.wipeV, AV.wipe1, Blk.wipe, AV.hs, AV.hs.hsL, alOps, Con.start2, Con.pk, bodyQ, fini, resAV, resA, firstId, Sc.from, renEnv, renT, renV, renVs, renL, ren1, renBox, renOwn, okRen, clOf, actB, setRow, flatRows, flatD, noInv, shr_nil, shr_some, kStepF_some, shareL, AV.viewed, AV.viewed1, cAre, Con.fn, tTab, cRepoOk, cExists, bRepo_def]
  try dsimp only
  refine ⟨ha, fun h => by simp -implicitDefEqProofs [areB, h], fun h _ i hi hb => ⟨fun hlt => ⟨hlt, fun _ => ⟨by simp -implicitDefEqProofs [hlt, eInt], fun _ _ => ⟨r, l[i], ⟨⟨rfl, rfl⟩, by simp -implicitDefEqProofs [hlt, eInt]⟩, ha2, fun hbad => ?_, fun h0 h1 => ⟨⟨by omega, by omega⟩, fun _ _ => ⟨i + 1, by omega, ⟨by omega, take_step (q := fun x : Int => 0 ≤ x ∧ x ≤ (r.commits.length : Int) - 1) hlt hb ⟨h0, h1⟩⟩, by omega⟩⟩⟩⟩⟩, fun hge => ?_⟩⟩
  · unfold areB
    rw [h, Bool.true_and, List.all_eq_false]
    exact ⟨l[i], List.getElem_mem hlt, by simp; omega⟩
  · rw [List.take_of_length_le hge] at hb
    unfold areB
    rw [h, Bool.true_and, List.all_eq_true]
    intro x hx
    have := hb x hx
    simp; omega

def treeAt (r : RepoD) (a : Int) : List FileD := (r.commits.getD a.toNat default).tree
def hasC (r : RepoD) (w : Str) (a : Int) : Bool := !(seekL (hitS w) (treeAt r a)).isEmpty
def sinceW (p : Int → Bool) : List Int → Int → Int
  | [], s => s
  | a :: l, s => if p a then sinceW p l a else s
def sinceR (r : RepoD) (a : Int) (w : Str) : Int := if repoI r && (decide (0 ≤ a) && decide (a ≤ (r.commits.length : Int) - 1)) && nameB w then sinceW (hasC r w) (lineP r a) (-1) else -1
theorem since_yes {p : Int → Bool} {l : List Int} {i : Nat} {s : Int} (h : i < l.length) (hp : p l[i] = true) : sinceW p (l.drop i) s = sinceW p (l.drop (i + 1)) l[i] := by
  rw [List.drop_eq_getElem_cons h]; simp -implicitDefEqProofs [sinceW, hp]
theorem since_no {p : Int → Bool} {l : List Int} {i : Nat} {s : Int} (h : i < l.length) (hp : p l[i] = false) : sinceW p (l.drop i) s = s := by
  rw [List.drop_eq_getElem_cons h]; simp -implicitDefEqProofs [sinceW, hp]
theorem since_end {p : Int → Bool} {l : List Int} {i : Nat} {s : Int} (h : l.length ≤ i) : sinceW p (l.drop i) s = s := by
  rw [List.drop_eq_nil_of_le h]; rfl
theorem seek_hit_eq {t : List FileD} {w : Str} (ht : treeI t = true) (hw : nameB w = true) : seekL (hitI w) t = seekL (hitS w) t := by
  have h1 := seek_eq t w
  unfold treeSeekI treeSeekS at h1
  rw [tree_eq] at h1
  rw [tree_eq] at ht
  rw [ht, hw] at h1
  simpa using h1
theorem tree_lines {t : List FileD} (h : treeI t = true) : t.length ≤ 8 ∧ ∀ f ∈ t, ∀ q ∈ f.text, q.length ≤ 1099511627776 := by
  have h8 := (treeI_le t h).1
  simp only [treeI, Bool.and_eq_true, decide_eq_true_eq, List.all_eq_true, List.mem_range] at h
  refine ⟨h8, fun f hf q hq => ?_⟩
  obtain ⟨i, hi, rfl⟩ := List.getElem_of_mem hf
  have h1 := (h.2 i hi).1
  simp only [headI, textB, List.getD_eq_getElem?_getD, List.getElem?_eq_getElem hi, Option.getD_some, Bool.and_eq_true, List.all_eq_true, decide_eq_true_eq] at h1
  have h2 := h1.1.1.2 q hq
  simp only [lineB, Bool.and_eq_true, decide_eq_true_eq] at h2
  omega

def cSeekSinceI : Con := .fn 38 (RepoD × Int × Str) (fun a => [vRepo a.1, .int .i64 a.2.1, .str a.2.2]) (fun a => rpPre a.1) (fun a => .int .i64 (sinceR a.1 a.2.1 a.2.2)) (fun _ => [])
set_option maxHeartbeats 4000000 in
theorem seekSinceI_has : Has Tryz.prog 24 cSeekSinceI := by
  refine has_walk mixed tTab_ok (l := [(63, cAre), (45, cNameOk), (64, cLineR), (65, cTreeR), (46, cSeek)]) (HasL.cons are_has (HasL.cons nameOk_has (HasL.cons lineR_has (HasL.cons treeR_has (HasL.cons seek_has HasL.nil))))) [0, 1, 2, 3, 6, 7, 9, 22, 23, 24] ((fun a n (_ : Nat) => (fun a _ => ⟨Nat × Int, fun t => ⟨[(2, true, .str a.2.2), (3, true, .ptr 10 0), (6, true, .int .i64 0), (7, true, .int .i64 t.2), (22, true, .own 9 1 (eInts (lineP a.1 a.2.1))), (23, true, .int .i64 (lineP a.1 a.2.1).length), (24, true, .int .i64 t.1)], [(10, bRepo a.1), (9, .own 3 1 true (eInts (lineP a.1 a.2.1)))]⟩, fun t => t.1 ≤ (lineP a.1 a.2.1).length ∧ sinceW (hasC a.1 a.2.2) ((lineP a.1 a.2.1).drop t.1) t.2 = sinceR a.1 a.2.1 a.2.2, fun t => (lineP a.1 a.2.1).length - t.1⟩) a n)) [] Tryz.func24 (by kernel_rfl) (code := _) (by unfold Tryz.f24; rfl) (by kernel_rfl) (by decide) (fun _ => ⟨(), trivial⟩) (by intro h; first | exact fun _ => rfl | cases h) (by kernel_rfl) ?_
  intro a ha
  obtain ⟨r, n, w⟩ := a
  replace ha : rpPre r := ha
  simp -implicitDefEqProofs [vc_skip, extOf, vc_seq, vc_cond, vc_block, vc_exit, vc_ret, vc_region, vc_regionD, vc_loop, kSeq_normal, kSeq_ret, kSeq_exit, kBlock_normal, kBlock_ret, kBlock_exit, kLoop_normal, kLoop_ret, kLoop_exit, kCond_bool, kNorm_app, vcOps_nil, vcOps_cons, kOps_app, kStep_some, kStep_none, vcDL_nil, vcDL_cons, kOpsD_app, kStepD_true, kStepD_tt, kStepD_false, ldB, btys, btyAct, kStepC_some, kStepC_none, kMv_app, act3_store, act3_call, act3_bs, kAct_app, kSt2_app, stealSlots, stealL, stealOne, subIn, AV.stolen, act_store, act_bs, act_append, act_call, kSet_app, kSet2_app, kSetG_app, kSetG_app0, kStore_ptr, kStore_eptr, kCallW_some, kCallC_some, kCall_some, wk_T, wk_n, wk_keep, wk_inv, wk_act, wk_dr, wk_le, aCalm, wantC, dstOk, calm, aCallK, aCall3K, subOf, subRep, aCall2K, apnd, bsMove, putBox, putOwn, partAV, mvL, AV.mv, AV.base, AV.moved, kBld, bldK, wrK, stK, AV.selfOk, AV.src, TI.flat, apSize, pickAV, St.val, St.cond, St.fn, St.next, St.set, St.trim, wipe_eq, wipeE_app, wipeM_app, pickEnv, get?, cGet, upd_app, withPuts, killAll, rm, freshP, Oper.hnd, Sc.st, ofConst, constOk, lenAV, elemLen, loadAV, ldL, ld1, fieldAddrAV, indexAddrAV, sliceAV, convAV, buildAV, fillAV, fieldAV, Out.of, binAV, AV.rows, AV.one, AV.cells, AV.deepOk, AV.toD, toDs, partRows, partRowsM, partsDeep, TK.zeroAV, TK.zeroD, byteOf, inR, Op.operands, Call.operands, passVs, passV, passL, pass1, passB, pasVs, pasV, pasL, pas1, ownsOk, okHs, okHs2, okFin, finOk2, rho, over, backRes, backAV, backAV1, backBlk, putBack, back2, back2_V, back2_1, m2, AV.wipe, AV.wipeV, AV.wipe1, Blk.wipe, AV.hs, AV.hs.hsL, alOps, Con.start2, Con.pk, bodyQ, fini, resAV, resA, firstId, Sc.from, renEnv, renT, renV, renVs, renL, ren1, renBox, renOwn, okRen, clOf, actB, setRow, flatRows, flatD, noInv, shr_nil, shr_some, kStepF_some, shareL, AV.viewed, AV.viewed1, cSeekSinceI, Con.fn, tTab, cAre, cNameOk, cLineR, cTreeR, cSeek, bRepo_def]
  try dsimp only
  have hW : ∀ (hr : repoI r = true) (h0 : 0 ≤ n) (h1 : n ≤ (r.commits.length : Int) - 1) (hw : nameB w = true), sinceW (hasC r w) (lineP r n) (-1) = sinceR r n w := fun hr h0 h1 hw => by
    unfold sinceR; rw [hr, hw]; simp -implicitDefEqProofs [h0, h1]
  refine ⟨r, [n], ⟨⟨rfl, rfl⟩, by simp -implicitDefEqProofs [eInts, eInt]⟩, ha, fun hA => ?_, fun hA => ?_⟩
  · unfold sinceR
    have : (repoI r && (decide (0 ≤ n) && decide (n ≤ (r.commits.length : Int) - 1))) = false := by simpa [areB] using hA
    rw [this]; simp
  · have hA' : repoI r = true ∧ 0 ≤ n ∧ n ≤ (r.commits.length : Int) - 1 := by simpa [areB] using hA
    obtain ⟨hr, h0, h1⟩ := hA'
    refine ⟨fun hw => by unfold sinceR; rw [hw]; simp, fun hw => ⟨r, n, ⟨⟨rfl, rfl⟩, rfl⟩, ⟨hr, h0, by omega⟩, fun _ => ⟨⟨0, -1, ⟨⟨rfl, rfl, rfl, rfl⟩, rfl⟩, Nat.zero_le _, hW hr h0 h1 hw⟩, fun i s hi hs => ⟨fun hlt => ?_, fun hge => by rw [← hs, since_end hge]⟩⟩⟩⟩
    have hb := (line_bd hr (n + 1).toNat n (by omega) (by omega)).2 _ (List.getElem_mem hlt)
    have hbn : (lineP r n)[i].toNat < r.commits.length := by omega
    have hT : treeI (treeAt r (lineP r n)[i]) = true := by
      unfold treeAt
      rw [List.getD_eq_getElem?_getD, List.getElem?_eq_getElem hbn]
      exact (repo_use hr hbn).2.2
    have hc := seek_hit_eq hT hw
    have ht8 := tree_lines hT
    have hwl : 1 ≤ List.length w ∧ List.length w ≤ 6 := by
      simp only [nameB, Bool.and_eq_true, decide_eq_true_eq] at hw
      exact hw.1
    have hl16 := (line_bd hr 16 n (by omega) (by have := repo_n hr; omega)).1
    refine ⟨hlt, fun _ => ⟨by simp -implicitDefEqProofs [hlt, eInt], fun _ _ => ⟨r, (lineP r n)[i], ⟨⟨rfl, rfl⟩, by simp -implicitDefEqProofs [hlt, eInt]⟩, hb, treeAt r (lineP r n)[i], w, ⟨by simp -implicitDefEqProofs [treeAt, List.getD_eq_getElem?_getD], rfl⟩, ⟨by omega, ht8.2, by omega, hwl.1⟩, fun _ => ⟨fun hnil => ?_, fun hne => ⟨⟨by omega, by omega⟩, fun _ _ => ⟨i + 1, (lineP r n)[i], ?_⟩⟩⟩⟩⟩⟩
    · rw [← hs]
      exact since_no hlt (by simp -implicitDefEqProofs [hasC, ← hc, hnil])
    · have hy := since_yes (p := hasC r w) (s := s) hlt (by simp -implicitDefEqProofs [hasC, ← hc, hne])
      exact ⟨⟨by simp -implicitDefEqProofs [hlt, eInt], by omega⟩, ⟨by omega, by rw [← hs, hy]⟩, by omega⟩

def cSeekSinceS : Con := .fn 55 (RepoD × Int × Str) (fun a => [vRepo a.1, .int .i64 a.2.1, .str a.2.2]) (fun a => rpPre a.1) (fun a => .int .i64 (sinceR a.1 a.2.1 a.2.2)) (fun _ => [])
set_option maxHeartbeats 4000000 in
theorem seekSinceS_has : Has Tryz.prog 25 cSeekSinceS := by
  refine has_walk mixed tTab_ok (l := [(47, cL7Ok), (59, cL1In), (48, cL4Name), (66, cL8Line), (49, cSeekTreeS)]) (HasL.cons l7Ok_has (HasL.cons l1In_has (HasL.cons l4Name_has (HasL.cons l8Line_has (HasL.cons seekTreeS_has HasL.nil))))) [0, 1, 2, 3, 6, 7, 8, 9] ((fun a n (_ : Nat) => (fun a _ => ⟨Nat × Int, fun t => ⟨[(2, true, .str a.2.2), (3, true, .ptr 10 0), (6, true, .int .i64 0), (7, true, .int .i64 t.2), (8, true, .own 9 1 (eInts (lineP a.1 a.2.1))), (9, true, .int .i64 t.1)], [(10, bRepo a.1), (9, .own 3 1 true (eInts (lineP a.1 a.2.1)))]⟩, fun t => t.1 ≤ (lineP a.1 a.2.1).length ∧ sinceW (hasC a.1 a.2.2) ((lineP a.1 a.2.1).drop t.1) t.2 = sinceR a.1 a.2.1 a.2.2, fun t => (lineP a.1 a.2.1).length - t.1⟩) a n)) [] Tryz.func25 (by kernel_rfl) (code := _) (by unfold Tryz.f25; rfl) (by kernel_rfl) (by decide) (fun _ => ⟨(), trivial⟩) (by intro h; first | exact fun _ => rfl | cases h) (by kernel_rfl) ?_
  intro a ha
  obtain ⟨r, n, w⟩ := a
  replace ha : rpPre r := ha
  simp -implicitDefEqProofs [vc_skip, extOf, vc_seq, vc_cond, vc_block, vc_exit, vc_ret, vc_region, vc_regionD, vc_loop, kSeq_normal, kSeq_ret, kSeq_exit, kBlock_normal, kBlock_ret, kBlock_exit, kLoop_normal, kLoop_ret, kLoop_exit, kCond_bool, kNorm_app, vcOps_nil, vcOps_cons, kOps_app, kStep_some, kStep_none, vcDL_nil, vcDL_cons, kOpsD_app, kStepD_true, kStepD_tt, kStepD_false, ldB, btys, btyAct, kStepC_some, kStepC_none, kMv_app, act3_store, act3_call, act3_bs, kAct_app, kSt2_app, stealSlots, stealL, stealOne, subIn, AV.stolen, act_store, act_bs, act_append, act_call, kSet_app, kSet2_app, kSetG_app, kSetG_app0, kStore_ptr, kStore_eptr, kCallW_some, kCallC_some, kCall_some, wk_T, wk_n, wk_keep, wk_inv, wk_act, wk_dr, wk_le, aCalm, wantC, dstOk, calm, aCallK, aCall3K, subOf, subRep, aCall2K, apnd, bsMove, putBox, putOwn, partAV, mvL, AV.mv, AV.base, AV.moved, kBld, bldK, wrK, stK, AV.selfOk, AV.src, TI.flat, apSize, pickAV, St.val, St.cond, St.fn, St.next, St.set, St.trim, wipe_eq, wipeE_app, wipeM_app, pickEnv, get?, cGet, upd_app, withPuts, killAll, rm, freshP, Oper.hnd, Sc.st, ofConst, constOk, lenAV, elemLen, loadAV, ldL, ld1, fieldAddrAV, indexAddrAV, sliceAV, convAV, buildAV, fillAV, fieldAV, Out.of, binAV, AV.rows, AV.one, AV.cells, AV.deepOk, AV.toD, toDs, partRows, partRowsM, partsDeep, TK.zeroAV, TK.zeroD, byteOf, inR, Op.operands, Call.operands, passVs, passV, passL, pass1, passB, pasVs, pasV, pasL, pas1, ownsOk, okHs, okHs2, okFin, finOk2, rho, over, backRes, backAV, backAV1, backBlk, putBack, back2, back2_V, back2_1, m2, AV.wipe, AV.wipeV, AV.wipe1, Blk.wipe, AV.hs, AV.hs.hsL, alOps, Con.start2, Con.pk, bodyQ, fini, resAV, resA, firstId, Sc.from, renEnv, renT, renV, renVs, renL, ren1, renBox, renOwn, okRen, clOf, actB, setRow, flatRows, flatD, noInv, shr_nil, shr_some, kStepF_some, shareL, AV.viewed, AV.viewed1, cSeekSinceS, Con.fn, tTab, cL7Ok, cL1In, cL4Name, cL8Line, cSeekTreeS, bRepo_def]
  try dsimp only
  have hW : ∀ (hr : repoI r = true) (h0 : 0 ≤ n) (h1 : n ≤ (r.commits.length : Int) - 1) (hw : nameB w = true), sinceW (hasC r w) (lineP r n) (-1) = sinceR r n w := fun hr h0 h1 hw => by
    unfold sinceR; rw [hr, hw]; simp -implicitDefEqProofs [h0, h1]
  refine ⟨ha.1, fun h => by unfold sinceR; rw [repo_eq, h]; simp, fun h _ => ⟨⟨by omega, by omega⟩, fun _ _ => ⟨n, 0, _, ⟨rfl, rfl, rfl⟩, fun hbad => ?_, fun h0 h1 => ⟨fun hw => by unfold sinceR; rw [hw]; simp, fun hw => ?_⟩⟩⟩⟩
  · unfold sinceR
    have : (decide (0 ≤ n) && decide (n ≤ (r.commits.length : Int) - 1)) = false := by simp; omega
    rw [this]; simp
  · have hr : repoI r = true := by rw [repo_eq]; exact h
    refine ⟨r, n, ⟨⟨rfl, rfl⟩, rfl⟩, ⟨hr, h0, by omega⟩, ⟨0, -1, ⟨⟨rfl, rfl, rfl⟩, rfl⟩, Nat.zero_le _, hW hr h0 h1 hw⟩, fun i s hi hs _ => ⟨fun hlt => ?_, fun hge => by rw [← hs, since_end hge]⟩⟩
    have hb := (line_bd hr (n + 1).toNat n (by omega) (by omega)).2 _ (List.getElem_mem hlt)
    have hbn : (lineP r n)[i].toNat < r.commits.length := by omega
    have hTe : treeAt r (lineP r n)[i] = r.commits[(lineP r n)[i].toNat].tree := by
      unfold treeAt
      rw [List.getD_eq_getElem?_getD, List.getElem?_eq_getElem hbn]; rfl
    have hT : treeI (treeAt r (lineP r n)[i]) = true := by rw [hTe]; exact (repo_use hr hbn).2.2
    have ht8 := tree_lines hT
    have hl16 := (line_bd hr 16 n (by omega) (by have := repo_n hr; omega)).1
    have hts : treeSeekS (treeAt r (lineP r n)[i]) w = seekL (hitS w) (treeAt r (lineP r n)[i]) := by
      unfold treeSeekS; rw [← tree_eq, hT, hw]; rfl
    have e2 : Option.map eCommit r.commits[(lineP r n)[i].toNat]? = some (eCommit r.commits[(lineP r n)[i].toNat]) := by simp -implicitDefEqProofs [hbn]
    rw [hTe] at hts hT ht8
    simp -implicitDefEqProofs [hlt, eInt, hb, e2, eCommit, and_assoc, hts]
    refine ⟨ht8.2, fun hnil => ?_, fun hne => ⟨by omega, by omega, fun _ _ => ⟨i + 1, by omega, by omega, ?_, by omega⟩⟩⟩
    · rw [← hs]; exact since_no hlt (by simp -implicitDefEqProofs [hasC, hTe, hnil])
    · rw [← hs]; exact (since_yes hlt (by simp -implicitDefEqProofs [hasC, hTe, hne])).symm

end Vx
end Go.Proofs.YthmhaggmcfemnaaGreatDoor
/-
  Contracts: repositories written (l24Repo, repoPut).
-/
namespace Go.Proofs.YthmhaggmcfemnaaGreatDoor
namespace Vx
open Go.RowKit
set_option maxRecDepth 8000

def parT (l : List Int) : Str := (l.map fun p => 32 :: decS p.toNat).flatten
def comW (c : CommitD) : Str := [99, 111, 109, 109, 105, 116, 32] ++ c.who
def comT (c : CommitD) : Str := comW c ++ parT c.parents ++ ([10] ++ treeT c.tree)
def comsT (l : List CommitD) : Str := (l.map comT).flatten
def headT (h : HeadD) : Str := [98, 114, 97, 110, 99, 104, 32] ++ h.name ++ [32] ++ decS h.at_.toNat ++ [10]
def headsT (l : List HeadD) : Str := (l.map headT).flatten
def repoT (r : RepoD) : Str := comsT r.commits ++ headsT r.heads
def okC (c : CommitD) : Prop := c.parents.length ≤ 2 ∧ (∀ p ∈ c.parents, 0 ≤ p ∧ p < 100) ∧ c.who.length ≤ 64 ∧ okT c.tree
def okH (h : HeadD) : Prop := h.name.length ≤ 64 ∧ 0 ≤ h.at_ ∧ h.at_ < 100
def okR (r : RepoD) : Prop := r.commits.length ≤ 16 ∧ (∀ c ∈ r.commits, okC c) ∧ r.heads.length ≤ 8 ∧ ∀ h ∈ r.heads, okH h
theorem parT_take (l : List Int) (k : Nat) (h : k < l.length) : parT (l.take (k + 1)) = parT (l.take k) ++ (32 :: decS l[k].toNat) := by
  unfold parT
  rw [take_succ' h, List.map_append, List.flatten_append]
  simp
theorem comsT_take (l : List CommitD) (k : Nat) (h : k < l.length) : comsT (l.take (k + 1)) = comsT (l.take k) ++ comT l[k] := by
  unfold comsT
  rw [take_succ' h, List.map_append, List.flatten_append]
  simp
theorem headsT_take (l : List HeadD) (k : Nat) (h : k < l.length) : headsT (l.take (k + 1)) = headsT (l.take k) ++ headT l[k] := by
  unfold headsT
  rw [take_succ' h, List.map_append, List.flatten_append]
  simp
theorem parT_len (l : List Int) : (parT l).length ≤ 3 * l.length := by
  induction l with
  | nil => simp -implicitDefEqProofs [parT]
  | cons p l ih =>
    have := decS_len p.toNat
    simp only [parT, List.map_cons, List.flatten_cons, List.length_append, List.length_cons] at ih ⊢
    omega
theorem comT_len {c : CommitD} (h : okC c) : (comT c).length ≤ 8401000 := by
  obtain ⟨h1, _, h3, h4⟩ := h
  have h5 := okT_take h4 c.tree.length
  rw [List.take_length] at h5
  have := parT_len c.parents
  simp only [comT, comW, List.length_append, List.length_cons, List.length_nil]
  omega
theorem comsT_len : ∀ {l : List CommitD}, (∀ c ∈ l, okC c) → (comsT l).length ≤ 8401000 * l.length := by
  intro l
  induction l with
  | nil => intro _; simp -implicitDefEqProofs [comsT]
  | cons c l ih =>
    intro h
    have h1 := comT_len (h c (by simp))
    have h2 := ih fun x hx => h x (by simp -implicitDefEqProofs [hx])
    simp only [comsT, List.map_cons, List.flatten_cons, List.length_append, List.length_cons] at h2 ⊢
    omega
theorem headsT_len : ∀ {l : List HeadD}, (∀ c ∈ l, okH c) → (headsT l).length ≤ 100 * l.length := by
  intro l
  induction l with
  | nil => intro _; simp -implicitDefEqProofs [headsT]
  | cons c l ih =>
    intro h
    have h1 := (h c (by simp)).1
    have h3 := decS_len c.at_.toNat
    have h2 := ih fun x hx => h x (by simp -implicitDefEqProofs [hx])
    simp only [headsT, headT, List.map_cons, List.flatten_cons, List.length_append, List.length_cons, List.length_nil] at h2 ⊢
    omega
theorem okR_c {r : RepoD} (h : okR r) (i : Nat) : (comsT (r.commits.take i)).length ≤ 134416000 := by
  have h1 := comsT_len (l := r.commits.take i) fun c hc => h.2.1 c (List.mem_of_mem_take hc)
  have : (r.commits.take i).length ≤ r.commits.length := by simp; omega
  have := h.1
  omega
theorem okR_h {r : RepoD} (h : okR r) (i : Nat) : (headsT (r.heads.take i)).length ≤ 800 := by
  have h1 := headsT_len (l := r.heads.take i) fun c hc => h.2.2.2 c (List.mem_of_mem_take hc)
  have : (r.heads.take i).length ≤ r.heads.length := by simp; omega
  have := h.2.2.1
  omega

def rtO (r : RepoD) : Inv := ⟨Nat, fun i => ⟨[(1, true, .ptr 10 0), (2, true, .str []), (3, true, .str (comsT (r.commits.take i))), (4, true, .int .i64 i)], [(10, bRepo r)]⟩, fun i => i ≤ r.commits.length, fun i => r.commits.length - i⟩
def rtI (r : RepoD) (g : Nat) : Inv := ⟨Nat, fun k => ⟨[(1, true, .ptr 10 0), (2, true, .str []), (3, true, .str (comsT (r.commits.take g) ++ comW (r.commits.getD g default) ++ parT ((r.commits.getD g default).parents.take k))), (4, true, .int .i64 g), (5, true, .int .i64 k)], [(10, bRepo r)]⟩, fun k => g < r.commits.length ∧ k ≤ (r.commits.getD g default).parents.length, fun k => (r.commits.getD g default).parents.length - k⟩
def rtH (r : RepoD) : Inv := ⟨Nat, fun i => ⟨[(1, true, .ptr 10 0), (2, true, .str []), (3, true, .str (comsT r.commits ++ headsT (r.heads.take i))), (6, true, .int .i64 i)], [(10, bRepo r)]⟩, fun i => i ≤ r.heads.length, fun i => r.heads.length - i⟩
def rtInv (r : RepoD) (n g : Nat) : Inv := if n = 3 then rtO r else if n = 7 then rtI r g else rtH r
theorem rtInv_3 (r : RepoD) (g : Nat) : rtInv r 3 g = rtO r := rfl
theorem rtInv_7 (r : RepoD) (g : Nat) : rtInv r 7 g = rtI r g := rfl
theorem rtInv_12 (r : RepoD) (g : Nat) : rtInv r 12 g = rtH r := rfl
def cL24Repo : Con := .fn 84 RepoD (fun r => [vRepo r]) okR (fun r => .str (repoT r)) (fun _ => [])
set_option maxHeartbeats 4000000 in
theorem l24Repo_has : Has Tryz.prog 73 cL24Repo := by
  refine has_walk mixed tTabS_ok (l := [(102, cL1Dec), (103, cL24Tree)]) (HasL.cons l1Dec_has (HasL.cons l24Tree_has HasL.nil)) [0, 1, 2, 3, 4, 5, 6] (fun r => rtInv r) [] Tryz.func73 (by kernel_rfl) (code := _) (by unfold Tryz.f73; rfl) (by kernel_rfl) (by decide) (fun _ => ⟨(), trivial⟩) (by intro h; first | exact fun _ => rfl | cases h) (by kernel_rfl) ?_
  intro (r : RepoD) hr
  have hc := okR_c hr
  have hh := okR_h hr
  obtain ⟨h1, h2, h3, h4⟩ := hr
  simp -implicitDefEqProofs [vc_skip, extOf, vc_seq, vc_cond, vc_block, vc_exit, vc_ret, vc_region, vc_regionD, vc_loop, kSeq_normal, kSeq_ret, kSeq_exit, kBlock_normal, kBlock_ret, kBlock_exit, kLoop_normal, kLoop_ret, kLoop_exit, kCond_bool, kNorm_app, vcOps_nil, vcOps_cons, kOps_app, kStep_some, kStep_none, vcDL_nil, vcDL_cons, kOpsD_app, kStepD_true, kStepD_tt, kStepD_false, ldB, btys, btyAct, kStepC_some, kStepC_none, kMv_app, act3_store, act3_call, act3_bs, kAct_app, kSt2_app, stealSlots, stealL, stealOne, subIn, AV.stolen, act_store, act_bs, act_append, act_call, kSet_app, kSet2_app, kSetG_app, kSetG_app0, kStore_ptr, kStore_eptr, kCallW_some, kCallC_some, kCall_some, wk_T, wk_n, wk_keep, wk_inv, wk_act, wk_dr, wk_le, aCalm, wantC, dstOk, calm, aCallK, aCall3K, subOf, subRep, aCall2K, apnd, bsMove, putBox, putOwn, partAV, mvL, AV.mv, AV.base, AV.moved, kBld, bldK, wrK, stK, AV.selfOk, AV.src, TI.flat, apSize, pickAV, St.val, St.cond, St.fn, St.next, St.set, St.trim, wipe_eq, wipeE_app, wipeM_app, pickEnv, get?, cGet, upd_app, withPuts, killAll, rm, freshP, Oper.hnd, Sc.st, ofConst, constOk, lenAV, elemLen, loadAV, ldL, ld1, fieldAddrAV, indexAddrAV, sliceAV, convAV, buildAV, fillAV, fieldAV, Out.of, binAV, AV.rows, AV.one, AV.cells, AV.deepOk, AV.toD, toDs, partRows, partRowsM, partsDeep, TK.zeroAV, TK.zeroD, byteOf, inR, Op.operands, Call.operands, passVs, passV, passL, pass1, passB, pasVs, pasV, pasL, pas1, ownsOk, okHs, okHs2, okFin, finOk2, rho, over, backRes, backAV, backAV1, backBlk, putBack, back2, back2_V, back2_1, m2, AV.wipe, AV.wipeV, AV.wipe1, Blk.wipe, AV.hs, AV.hs.hsL, alOps, Con.start2, Con.pk, bodyQ, fini, resAV, resA, firstId, Sc.from, renEnv, renT, renV, renVs, renL, ren1, renBox, renOwn, okRen, clOf, actB, setRow, flatRows, flatD, noInv, shr_nil, shr_some, kStepF_some, shareL, AV.viewed, AV.viewed1, cL24Repo, Con.fn, tTabS, tTab, cL1Dec, cL24Tree, rtInv_3, rtInv_7, rtInv_12, rtO, rtI, rtH, bRepo_def]
  try dsimp only
  refine ⟨⟨0, ⟨by simp -implicitDefEqProofs [comsT], rfl⟩, by omega⟩, fun i hi _ => ⟨fun hlt => ?_, fun hge => ?_⟩⟩
  · have e3 : Option.map eCommit r.commits[i]? = some (eCommit r.commits[i]) := by simp -implicitDefEqProofs [List.getElem?_eq_getElem hlt]
    have hf := h2 _ (List.getElem_mem hlt)
    obtain ⟨f1, f2, f3, f4⟩ := hf
    have hbi := hc i
    have hbj := hc (i + 1)
    rw [comsT_take r.commits i hlt] at hbj
    simp only [comT, List.length_append] at hbj
    have hg : r.commits[i]?.getD default = r.commits[i] := by simp -implicitDefEqProofs [hlt]
    simp -implicitDefEqProofs [hlt, e3, eCommit, and_assoc, maxLen]
    refine ⟨by omega, fun _ => ⟨by omega, fun _ => ⟨i, ⟨0, by rw [hg]; simp -implicitDefEqProofs [comW, parT], rfl, rfl, hlt, by omega⟩, ?_⟩⟩⟩
    intro k _ hk
    rw [hg] at hk ⊢
    have hlb := parT_len (r.commits[i].parents.take k)
    have hln : (r.commits[i].parents.take k).length ≤ 2 := by simp; omega
    have hcw : (comW r.commits[i]).length ≤ 71 := by simp -implicitDefEqProofs [comW]; omega
    simp -implicitDefEqProofs [hlt, e3, eCommit, and_assoc]
    refine fun _ => ⟨fun hk2 => ?_, fun hk2 => ?_⟩
    · have e5 : Option.map eInt r.commits[i].parents[k]? = some (eInt r.commits[i].parents[k]) := by simp -implicitDefEqProofs [List.getElem?_eq_getElem hk2]
      have hs := f2 _ (List.getElem_mem hk2)
      have h6 := parT_take r.commits[i].parents k hk2
      simp -implicitDefEqProofs [hk2, e5, eInt, and_assoc]
      have hd := decS_len r.commits[i].parents[k].toNat
      exact ⟨by omega, fun _ => ⟨r.commits[i].parents[k].toNat, by omega, by omega, by omega, fun _ => ⟨by omega, by omega, fun _ _ => ⟨k + 1, h6, rfl, by omega, by omega⟩⟩⟩⟩
    · have hkk : r.commits[i].parents.take k = r.commits[i].parents := List.take_of_length_le hk2
      rw [hkk]
      simp only [List.length_cons, List.length_nil] at hbj
      exact ⟨by omega, fun _ => ⟨f4, by omega, fun _ => ⟨by omega, by omega, fun _ _ => ⟨i + 1, by rw [comsT_take _ _ hlt]; simp -implicitDefEqProofs [comT], rfl, by omega, by omega⟩⟩⟩⟩
  · have hca := hc r.commits.length
    rw [List.take_length] at hca
    refine ⟨⟨0, ⟨by rw [List.take_of_length_le hge]; simp -implicitDefEqProofs [headsT], rfl⟩, by omega⟩, fun j hj _ => ⟨fun hlj => ?_, fun hgj => ?_⟩⟩
    · have e3 : Option.map eHead r.heads[j]? = some (eHead r.heads[j]) := by simp -implicitDefEqProofs [List.getElem?_eq_getElem hlj]
      obtain ⟨f1, f2, f3⟩ := h4 _ (List.getElem_mem hlj)
      have hbi := hh j
      have hd := decS_len r.heads[j].at_.toNat
      simp -implicitDefEqProofs [hlj, e3, eHead, and_assoc, maxLen]
      exact ⟨by omega, fun _ => ⟨by omega, fun _ => ⟨by omega, fun _ => ⟨r.heads[j].at_.toNat, by omega, by omega, by omega, fun _ => ⟨by omega, fun _ => ⟨by omega, by omega, fun _ _ => ⟨j + 1, by rw [headsT_take _ _ hlj]; simp -implicitDefEqProofs [headT], rfl, by omega, by omega⟩⟩⟩⟩⟩⟩⟩
    · rw [List.take_of_length_le hgj]; rfl

def bldR (x : Str) : List (Nat × Blk) := [(10, .box 124 [.slf 10, .own 11 1 (eBytes x)]), (11, .own 5 1 true (eBytes x))]
def rpO (r : RepoD) : Inv := ⟨Nat, fun i => ⟨[(1, true, .ptr 12 0), (2, true, .str []), (3, true, .ptr 10 0), (11, true, .sl true 3 (eCommits r.commits)), (12, true, .int .i64 r.commits.length), (13, true, .int .i64 i)],
  [(12, bRepo r), (10, .box 124 [.slf 10, .own 11 1 (eBytes (comsT (r.commits.take i)))]), (11, .own 5 1 true (eBytes (comsT (r.commits.take i))))]⟩, fun i => i ≤ r.commits.length, fun i => r.commits.length - i⟩
def rpI (r : RepoD) (g : Nat) : Inv := ⟨Nat, fun k => ⟨[(1, true, .ptr 12 0), (2, true, .str []), (3, true, .ptr 10 0), (5, true, .ptr 13 0), (11, true, .sl true 3 (eCommits r.commits)), (12, true, .int .i64 r.commits.length), (13, true, .int .i64 g), (22, true, .sl true 1 (eInts (r.commits.getD g default).parents)), (23, true, .int .i64 (r.commits.getD g default).parents.length), (24, true, .int .i64 k)],
  [(12, bRepo r), (10, .box 124 [.slf 10, .own 11 1 (eBytes (comsT (r.commits.take g) ++ comW (r.commits.getD g default) ++ parT ((r.commits.getD g default).parents.take k)))]), (11, .own 5 1 true (eBytes (comsT (r.commits.take g) ++ comW (r.commits.getD g default) ++ parT ((r.commits.getD g default).parents.take k)))),
   (13, .box 38 [.sl true 1 (eInts (r.commits.getD g default).parents), .str (r.commits.getD g default).who, .sl true 2 (eFiles (r.commits.getD g default).tree)])]⟩, fun k => g < r.commits.length ∧ k ≤ (r.commits.getD g default).parents.length, fun k => (r.commits.getD g default).parents.length - k⟩
def rpH (r : RepoD) : Inv := ⟨Nat, fun i => ⟨[(2, true, .str []), (3, true, .ptr 10 0), (40, true, .sl true 2 (eHeads r.heads)), (41, true, .int .i64 r.heads.length), (42, true, .int .i64 i)],
  [(10, .box 124 [.slf 10, .own 11 1 (eBytes (comsT r.commits ++ headsT (r.heads.take i)))]), (11, .own 5 1 true (eBytes (comsT r.commits ++ headsT (r.heads.take i))))]⟩, fun i => i ≤ r.heads.length, fun i => r.heads.length - i⟩
def rpInv (r : RepoD) (n g : Nat) : Inv := if n = 3 then rpO r else if n = 7 then rpI r g else rpH r
theorem rpInv_3 (r : RepoD) (g : Nat) : rpInv r 3 g = rpO r := rfl
theorem rpInv_7 (r : RepoD) (g : Nat) : rpInv r 7 g = rpI r g := rfl
theorem rpInv_14 (r : RepoD) (g : Nat) : rpInv r 14 g = rpH r := rfl
--TAB tTabS
def cRepoPutT : Con := .fn 58 RepoD (fun r => [vRepo r]) okR (fun r => .str (repoT r)) (fun _ => [])
set_option maxHeartbeats 4000000 in
theorem repoPutT_has : Has Tryz.prog 78 cRepoPutT := by
  refine has_walk mixed tTabS_ok (l := [(106, cItoa), (108, cWrite), (110, cBStr), (109, cTreePutT)]) (HasL.cons itoa_has (HasL.cons write_has (HasL.cons bStr_has (HasL.cons treePutT_has HasL.nil)))) [0, 1, 2, 3, 5, 7, 9, 11, 12, 13, 22, 23, 24, 40, 41, 42] (fun r => rpInv r) [] Tryz.func78 (by kernel_rfl) (code := _) (by unfold Tryz.f78; rfl) (by kernel_rfl) (by decide) (fun _ => ⟨(), trivial⟩) (by intro h; first | exact fun _ => rfl | cases h) (by kernel_rfl) ?_
  intro (r : RepoD) hr
  have hc := okR_c hr
  have hh := okR_h hr
  obtain ⟨h1, h2, h3, h4⟩ := hr
  simp -implicitDefEqProofs [vc_skip, extOf, vc_seq, vc_cond, vc_block, vc_exit, vc_ret, vc_region, vc_regionD, vc_loop, kSeq_normal, kSeq_ret, kSeq_exit, kBlock_normal, kBlock_ret, kBlock_exit, kLoop_normal, kLoop_ret, kLoop_exit, kCond_bool, kNorm_app, vcOps_nil, vcOps_cons, kOps_app, kStep_some, kStep_none, vcDL_nil, vcDL_cons, kOpsD_app, kStepD_true, kStepD_tt, kStepD_false, ldB, btys, btyAct, kStepC_some, kStepC_none, kMv_app, act3_store, act3_call, act3_bs, kAct_app, kSt2_app, stealSlots, stealL, stealOne, subIn, AV.stolen, act_store, act_bs, act_append, act_call, kSet_app, kSet2_app, kSetG_app, kSetG_app0, kStore_ptr, kStore_eptr, kCallW_some, kCallC_some, kCall_some, wk_T, wk_n, wk_keep, wk_inv, wk_act, wk_dr, wk_le, aCalm, wantC, dstOk, calm, aCallK, aCall3K, subOf, subRep, aCall2K, apnd, bsMove, putBox, putOwn, partAV, mvL, AV.mv, AV.base, AV.moved, kBld, bldK, wrK, stK, AV.selfOk, AV.src, TI.flat, apSize, pickAV, St.val, St.cond, St.fn, St.next, St.set, St.trim, wipe_eq, wipeE_app, wipeM_app, pickEnv, get?, cGet, upd_app, withPuts, killAll, rm, freshP, Oper.hnd, Sc.st, ofConst, constOk, lenAV, elemLen, loadAV, ldL, ld1, fieldAddrAV, indexAddrAV, sliceAV, convAV, buildAV, fillAV, fieldAV, Out.of, binAV, AV.rows, AV.one, AV.cells, AV.deepOk, AV.toD, toDs, partRows, partRowsM, partsDeep, TK.zeroAV, TK.zeroD, byteOf, inR, Op.operands, Call.operands, passVs, passV, passL, pass1, passB, pasVs, pasV, pasL, pas1, ownsOk, okHs, okHs2, okFin, finOk2, rho, over, backRes, backAV, backAV1, backBlk, putBack, back2, back2_V, back2_1, m2, AV.wipe, AV.wipeV, AV.wipe1, Blk.wipe, AV.hs, AV.hs.hsL, alOps, Con.start2, Con.pk, bodyQ, fini, resAV, resA, firstId, Sc.from, renEnv, renT, renV, renVs, renL, ren1, renBox, renOwn, okRen, clOf, actB, setRow, flatRows, flatD, noInv, shr_nil, shr_some, kStepF_some, shareL, AV.viewed, AV.viewed1, cRepoPutT, Con.fn, tTabS, tTab, cItoa, cWrite, cBStr, cTreePutT, rpInv_3, rpInv_7, rpInv_14, rpO, rpI, rpH, rowsOf_eq, bRepo_def]
  try dsimp only
  simp only [and_assoc, exists_eq_left, exists_and_left]
  refine fun _ => ⟨by simp -implicitDefEqProofs [comsT, eBytes], Nat.zero_le _, fun i hi => ⟨fun hlt => ⟨hlt, fun _ => ?_⟩, fun hge => ?_⟩⟩
  · have e3 : Option.map eCommit r.commits[i]? = some (eCommit r.commits[i]) := by simp -implicitDefEqProofs [List.getElem?_eq_getElem hlt]
    have hf := h2 _ (List.getElem_mem hlt)
    obtain ⟨f1, f2, f3, f4⟩ := hf
    have hbi := hc i
    have hbj := hc (i + 1)
    rw [comsT_take r.commits i hlt] at hbj
    simp only [comT, List.length_append, List.length_cons, List.length_nil] at hbj
    have hg : r.commits[i]?.getD default = r.commits[i] := by simp -implicitDefEqProofs [hlt]
    simp -implicitDefEqProofs [e3, eCommit, D.asStr, D.asRows, maxLen]
    refine ⟨by omega, fun _ => ⟨by omega, fun _ => ⟨i, rfl, by rw [hg], by rw [hg], ?_, by rw [hg], by rw [hg], by rw [hg], ?_, hlt, fun k _ hk => ?_⟩⟩⟩
    · rw [hg]; simp -implicitDefEqProofs [comW, parT, eBytes]
    · rw [hg]; simp -implicitDefEqProofs [comW, parT, eBytes]
    rw [hg] at hk ⊢
    have hlb := parT_len (r.commits[i].parents.take k)
    have hln : (r.commits[i].parents.take k).length ≤ 2 := by simp; omega
    have hcw : (comW r.commits[i]).length ≤ 71 := by simp -implicitDefEqProofs [comW]; omega
    refine ⟨fun hk2 => ⟨hk2, fun _ => ?_⟩, fun hk2 => ?_⟩
    · have e5 : Option.map eInt r.commits[i].parents[k]? = some (eInt r.commits[i].parents[k]) := by simp -implicitDefEqProofs [List.getElem?_eq_getElem hk2]
      have hs := f2 _ (List.getElem_mem hk2)
      have h6 := parT_take r.commits[i].parents k hk2
      have hd := decS_len r.commits[i].parents[k].toNat
      simp -implicitDefEqProofs [e5, eInt]
      have h7 : eBytes (comsT (r.commits.take i) ++ (comW r.commits[i] ++ parT (r.commits[i].parents.take (k + 1)))) = eBytes (comsT (r.commits.take i) ++ (comW r.commits[i] ++ parT (r.commits[i].parents.take k))) ++ eBytes (32 :: decS r.commits[i].parents[k].toNat) := by
        rw [h6]; simp -implicitDefEqProofs [eBytes]
      exact ⟨r.commits[i].parents[k].toNat, by omega, by omega, by omega, fun _ => ⟨by omega, by omega, by omega, fun _ _ => ⟨k + 1, by omega, h7, h7.symm, hlt, by omega, by omega⟩⟩⟩
    · have hkk : r.commits[i].parents.take k = r.commits[i].parents := List.take_of_length_le hk2
      rw [hkk]
      have h7 : eBytes (comsT (r.commits.take (i + 1))) = eBytes (comsT (r.commits.take i) ++ (comW r.commits[i] ++ parT r.commits[i].parents)) ++ eBytes (10 :: treeT r.commits[i].tree) := by
        rw [comsT_take _ _ hlt]; simp -implicitDefEqProofs [eBytes, comT]
      exact ⟨f4, by omega, fun _ => ⟨by omega, by omega, by omega, fun _ _ => ⟨i + 1, by omega, h7, h7.symm, by omega, by omega⟩⟩⟩
  · have hca := hc r.commits.length
    rw [List.take_length] at hca
    refine fun _ => ⟨by rw [List.take_of_length_le hge]; simp -implicitDefEqProofs [headsT], by rw [List.take_of_length_le hge]; simp -implicitDefEqProofs [headsT], Nat.zero_le _, fun j hj => ⟨fun hlj => ⟨hlj, fun _ => ?_⟩, fun hgj => ?_⟩⟩
    · have e3 : Option.map eHead r.heads[j]? = some (eHead r.heads[j]) := by simp -implicitDefEqProofs [List.getElem?_eq_getElem hlj]
      obtain ⟨f1, f2, f3⟩ := h4 _ (List.getElem_mem hlj)
      have hbi := hh j
      have hd := decS_len r.heads[j].at_.toNat
      have h7 : eBytes (comsT r.commits ++ headsT (r.heads.take (j + 1))) = eBytes (comsT r.commits ++ headsT (r.heads.take j)) ++ eBytes (98 :: 114 :: 97 :: 110 :: 99 :: 104 :: 32 :: (r.heads[j].name ++ 32 :: (decS r.heads[j].at_.toNat ++ [10]))) := by
        rw [headsT_take _ _ hlj]; simp -implicitDefEqProofs [eBytes, headT]
      simp -implicitDefEqProofs [e3, eHead, D.asStr, D.asInt, maxLen]
      exact ⟨by omega, fun _ => ⟨by omega, fun _ => ⟨r.heads[j].at_.toNat, by omega, by omega, by omega, fun _ => ⟨by omega, fun _ => ⟨by omega, by omega, by omega, fun _ _ => ⟨j + 1, by omega, h7, h7.symm, by omega, by omega⟩⟩⟩⟩⟩⟩
    · rw [List.take_of_length_le hgj]; rfl

theorem okR_of {r : RepoD} (h : repoI r = true) (hp : ∀ c ∈ r.commits, ∀ f ∈ c.tree, f.path.length ≤ 1048576) : okR r := by
  refine ⟨repo_n h, fun c hc => ?_, ?_⟩
  · obtain ⟨i, hi, rfl⟩ := List.getElem_of_mem hc
    obtain ⟨q1, q2, q3⟩ := repo_use h hi
    have h1 := ((repoI_iff r).1 h).2.1 i hi
    have hn := repo_n h
    have hg : r.commits.getD i default = r.commits[i] := by simp -implicitDefEqProofs [List.getD_eq_getElem?_getD, hi]
    simp only [okCI, okI1, hg, Bool.and_eq_true] at h1
    have hw := h1.1.1.2
    simp only [nameB, Bool.and_eq_true, decide_eq_true_eq] at hw
    exact ⟨q1, fun p hp => by have := q2 p hp; omega, by omega, okT_of (by rw [← tree_eq]; exact q3) (hp _ hc)⟩
  · obtain ⟨q1, q2⟩ := (headsB_iff _ _).1 ((repoI_iff r).1 h).2.2
    have hn := repo_n h
    refine ⟨by omega, fun x hx => ?_⟩
    obtain ⟨i, hi, rfl⟩ := List.getElem_of_mem hx
    have h1 := q2 i hi
    have hg : r.heads.getD i default = r.heads[i] := by simp -implicitDefEqProofs [List.getD_eq_getElem?_getD, hi]
    simp only [okHd, hg, Bool.and_eq_true, nameB, inN, decide_eq_true_eq] at h1
    obtain ⟨⟨⟨⟨h2, h3⟩, _⟩, h4, h5⟩, _⟩ := h1
    exact ⟨by omega, h4, by omega⟩
def repoPutD (r : RepoD) : Str := if repoI r then repoT r else []
def rqPre (r : RepoD) : Prop := r.commits.length ≤ 1073741824 ∧ ∀ c ∈ r.commits, ∀ f ∈ c.tree, f.path.length ≤ 1048576
theorem rqPre_rp {r : RepoD} (h : rqPre r) : rpPre r := ⟨h.1, fun c hc f hf => by have := h.2 c hc f hf; omega⟩
def cRepoPutS : Con := .fn 8 RepoD (fun r => [vRepo r]) rqPre (fun r => .str (repoPutD r)) (fun _ => [])
set_option maxHeartbeats 4000000 in
theorem repoPutS_has : Has Tryz.prog 39 cRepoPutS := by
  refine has_walk mixed tTabS_ok (l := [(47, cL7Ok), (73, cL24Repo)]) (HasL.cons l7Ok_has (HasL.cons l24Repo_has HasL.nil)) [0, 1, 2] ((fun a n (_ : Nat) => (fun _ => noInv) a n)) [] Tryz.func39 (by kernel_rfl) (code := _) (by unfold Tryz.f39; rfl) (by kernel_rfl) (by decide) (fun _ => ⟨(), trivial⟩) (by intro h; first | exact fun _ => rfl | cases h) (by kernel_rfl) ?_
  intro (r : RepoD) hr
  have h1 : repoI r = true → okR r := fun h => okR_of h hr.2
  have h2 : rpPre r := rqPre_rp hr
  have h3 : r.commits.length ≤ 1073741824 := hr.1
  simp -implicitDefEqProofs [vc_skip, extOf, vc_seq, vc_cond, vc_block, vc_exit, vc_ret, vc_region, vc_regionD, vc_loop, kSeq_normal, kSeq_ret, kSeq_exit, kBlock_normal, kBlock_ret, kBlock_exit, kLoop_normal, kLoop_ret, kLoop_exit, kCond_bool, kNorm_app, vcOps_nil, vcOps_cons, kOps_app, kStep_some, kStep_none, vcDL_nil, vcDL_cons, kOpsD_app, kStepD_true, kStepD_tt, kStepD_false, ldB, btys, btyAct, kStepC_some, kStepC_none, kMv_app, act3_store, act3_call, act3_bs, kAct_app, kSt2_app, stealSlots, stealL, stealOne, subIn, AV.stolen, act_store, act_bs, act_append, act_call, kSet_app, kSet2_app, kSetG_app, kSetG_app0, kStore_ptr, kStore_eptr, kCallW_some, kCallC_some, kCall_some, wk_T, wk_n, wk_keep, wk_inv, wk_act, wk_dr, wk_le, aCalm, wantC, dstOk, calm, aCallK, aCall3K, subOf, subRep, aCall2K, apnd, bsMove, putBox, putOwn, partAV, mvL, AV.mv, AV.base, AV.moved, kBld, bldK, wrK, stK, AV.selfOk, AV.src, TI.flat, apSize, pickAV, St.val, St.cond, St.fn, St.next, St.set, St.trim, wipe_eq, wipeE_app, wipeM_app, pickEnv, get?, cGet, upd_app, withPuts, killAll, rm, freshP, Oper.hnd, Sc.st, ofConst, constOk, lenAV, elemLen, loadAV, ldL, ld1, fieldAddrAV, indexAddrAV, sliceAV, convAV, buildAV, fillAV, fieldAV, Out.of, binAV, AV.rows, AV.one, AV.cells, AV.deepOk, AV.toD, toDs, partRows, partRowsM, partsDeep, TK.zeroAV, TK.zeroD, byteOf, inR, Op.operands, Call.operands, passVs, passV, passL, pass1, passB, pasVs, pasV, pasL, pas1, ownsOk, okHs, okHs2, okFin, finOk2, rho, over, backRes, backAV, backAV1, backBlk, putBack, back2, back2_V, back2_1, m2, AV.wipe, AV.wipeV, AV.wipe1, Blk.wipe, AV.hs, AV.hs.hsL, alOps, Con.start2, Con.pk, bodyQ, fini, resAV, resA, firstId, Sc.from, renEnv, renT, renV, renVs, renL, ren1, renBox, renOwn, okRen, clOf, actB, setRow, flatRows, flatD, noInv, shr_nil, shr_some, kStepF_some, shareL, AV.viewed, AV.viewed1, cRepoPutS, cL7Ok, cL24Repo, Con.fn, tTabS, tTab, bRepo_def]
  try dsimp only
  rw [← repo_eq]
  unfold repoPutD
  simp +contextual -implicitDefEqProofs [h3, h1]
def cRepoPutI : Con := .fn 8 RepoD (fun r => [vRepo r]) rqPre (fun r => .str (repoPutD r)) (fun _ => [])
set_option maxHeartbeats 4000000 in
theorem repoPutI_has : Has Tryz.prog 38 cRepoPutI := by
  refine has_walk mixed tTabS_ok (l := [(14, cRepoOk), (78, cRepoPutT)]) (HasL.cons repoOk_has (HasL.cons repoPutT_has HasL.nil)) [0, 1, 2] ((fun a n (_ : Nat) => (fun _ => noInv) a n)) [] Tryz.func38 (by kernel_rfl) (code := _) (by unfold Tryz.f38; rfl) (by kernel_rfl) (by decide) (fun _ => ⟨(), trivial⟩) (by intro h; first | exact fun _ => rfl | cases h) (by kernel_rfl) ?_
  intro (r : RepoD) hr
  have h1 : repoI r = true → okR r := fun h => okR_of h hr.2
  have h2 : rpPre r := rqPre_rp hr
  simp -implicitDefEqProofs [vc_skip, extOf, vc_seq, vc_cond, vc_block, vc_exit, vc_ret, vc_region, vc_regionD, vc_loop, kSeq_normal, kSeq_ret, kSeq_exit, kBlock_normal, kBlock_ret, kBlock_exit, kLoop_normal, kLoop_ret, kLoop_exit, kCond_bool, kNorm_app, vcOps_nil, vcOps_cons, kOps_app, kStep_some, kStep_none, vcDL_nil, vcDL_cons, kOpsD_app, kStepD_true, kStepD_tt, kStepD_false, ldB, btys, btyAct, kStepC_some, kStepC_none, kMv_app, act3_store, act3_call, act3_bs, kAct_app, kSt2_app, stealSlots, stealL, stealOne, subIn, AV.stolen, act_store, act_bs, act_append, act_call, kSet_app, kSet2_app, kSetG_app, kSetG_app0, kStore_ptr, kStore_eptr, kCallW_some, kCallC_some, kCall_some, wk_T, wk_n, wk_keep, wk_inv, wk_act, wk_dr, wk_le, aCalm, wantC, dstOk, calm, aCallK, aCall3K, subOf, subRep, aCall2K, apnd, bsMove, putBox, putOwn, partAV, mvL, AV.mv, AV.base, AV.moved, kBld, bldK, wrK, stK, AV.selfOk, AV.src, TI.flat, apSize, pickAV, St.val, St.cond, St.fn, St.next, St.set, St.trim, wipe_eq, wipeE_app, wipeM_app, pickEnv, get?, cGet, upd_app, withPuts, killAll, rm, freshP, Oper.hnd, Sc.st, ofConst, constOk, lenAV, elemLen, loadAV, ldL, ld1, fieldAddrAV, indexAddrAV, sliceAV, convAV, buildAV, fillAV, fieldAV, Out.of, binAV, AV.rows, AV.one, AV.cells, AV.deepOk, AV.toD, toDs, partRows, partRowsM, partsDeep, TK.zeroAV, TK.zeroD, byteOf, inR, Op.operands, Call.operands, passVs, passV, passL, pass1, passB, pasVs, pasV, pasL, pas1, ownsOk, okHs, okHs2, okFin, finOk2, rho, over, backRes, backAV, backAV1, backBlk, putBack, back2, back2_V, back2_1, m2, AV.wipe, AV.wipeV, AV.wipe1, Blk.wipe, AV.hs, AV.hs.hsL, alOps, Con.start2, Con.pk, bodyQ, fini, resAV, resA, firstId, Sc.from, renEnv, renT, renV, renVs, renL, ren1, renBox, renOwn, okRen, clOf, actB, setRow, flatRows, flatD, noInv, shr_nil, shr_some, kStepF_some, shareL, AV.viewed, AV.viewed1, cRepoPutI, cRepoOk, cRepoPutT, Con.fn, tTabS, tTab, bRepo_def]
  try dsimp only
  unfold repoPutD
  simp +contextual -implicitDefEqProofs [h2, h1]
theorem szRp_rq {r : RepoD} (h : 0 ≤ szRp r 1048576) : rqPre r := by
  obtain ⟨⟨h1, h2⟩, _⟩ := szRp_ok (by omega) h
  exact ⟨by omega, fun c hc f hf => by have := ((h2 c hc).2.2.2 f hf).1; omega⟩
end Vx
end Go.Proofs.YthmhaggmcfemnaaGreatDoor
/-
  Plain law: repositories read back from their lines, both ways of reading.
-/
namespace Go.Proofs.YthmhaggmcfemnaaGreatDoor
namespace Vx
open Go.RowKit
set_option maxRecDepth 8000

def wCommit : Str := [99, 111, 109, 109, 105, 116]
def wBranch : Str := [98, 114, 97, 110, 99, 104]
def comL (c : CommitD) : Str := comW c ++ parT c.parents
def headLn (h : HeadD) : Str := [98, 114, 97, 110, 99, 104, 32] ++ h.name ++ [32] ++ decS h.at_.toNat
def encC (l : List CommitD) : List Str := (l.map fun c => comL c :: encT c.tree).flatten
def encH (l : List HeadD) : List Str := l.map headLn
def encR (r : RepoD) : List Str := encC r.commits ++ encH r.heads
theorem linesT_app (a b : List Str) : linesT (a ++ b) = linesT a ++ linesT b := by simp [linesT]
theorem repoT_enc (r : RepoD) : repoT r = linesT (encR r) := by
  have h1 : ∀ l : List CommitD, comsT l = linesT (encC l) := by
    intro l
    induction l with
    | nil => rfl
    | cons c l ih =>
      have e1 : comsT (c :: l) = comT c ++ comsT l := by simp [comsT]
      have e2 : encC (c :: l) = (comL c :: encT c.tree) ++ encC l := by simp [encC]
      have e3 : linesT (comL c :: encT c.tree) = comL c ++ [10] ++ linesT (encT c.tree) := by simp [linesT]
      rw [e1, e2, linesT_app, ih, e3, ← treeT_enc]
      simp [comT, comL]
  have h2 : ∀ l : List HeadD, headsT l = linesT (encH l) := by
    intro l
    induction l with
    | nil => rfl
    | cons c l ih =>
      have e1 : headsT (c :: l) = headT c ++ headsT l := by simp [headsT]
      have e2 : encH (c :: l) = [headLn c] ++ encH l := by simp [encH]
      have e3 : linesT [headLn c] = headLn c ++ [10] := by simp [linesT]
      rw [e1, e2, linesT_app, ih, e3]
      simp [headT, headLn]
  unfold repoT encR
  rw [linesT_app, h1, h2]
/-- What makes a repository's lines plain. -/
structure PlainR (r : RepoD) : Prop where
  com : ∀ c ∈ r.commits, (∀ b ∈ c.who, 32 < b.toNat) ∧ c.parents.length ≤ 2 ∧ (∀ p ∈ c.parents, 0 ≤ p ∧ p < 100) ∧ plainT c.tree ∧ c.tree.length ≤ 8 ∧ ∀ f ∈ c.tree, f.text.length ≤ 10
  head : ∀ h ∈ r.heads, (∀ b ∈ h.name, 32 < b.toNat) ∧ 0 ≤ h.at_ ∧ h.at_ < 100
  nc : r.commits.length ≤ 16
  nh : r.heads.length ≤ 5
theorem spl_par : ∀ {l : List Int} {p : Str}, (∀ q ∈ l, 0 ≤ q ∧ q < 100) → spl 32 (parT l) p = p :: l.map fun q => decS q.toNat := by
  intro l
  induction l with
  | nil => intro p _; rfl
  | cons q l ih =>
    intro p h
    have hq := h q (by simp)
    have e : parT (q :: l) = 32 :: (decS q.toNat ++ parT l) := by simp [parT]
    rw [e]
    simp only [spl, if_true]
    rw [spl_app (decS_no (by omega) 32 (by decide)), ih fun x hx => h x (by simp [hx])]
    simp
theorem comL_words {c : CommitD} (h1 : ∀ b ∈ c.who, 32 < b.toNat) (h2 : ∀ q ∈ c.parents, 0 ≤ q ∧ q < 100) : spl 32 (comL c) [] = wCommit :: c.who :: c.parents.map fun q => decS q.toNat := by
  have e : comL c = wCommit ++ (32 :: (c.who ++ parT c.parents)) := by simp [comL, comW, wCommit]
  rw [e, spl_app (by decide)]
  simp only [spl, if_true, List.nil_append]
  rw [spl_app (fun h => by have := h1 _ h; simp at this), spl_par h2]
  simp
theorem headLn_words {h : HeadD} (h1 : ∀ b ∈ h.name, 32 < b.toNat) (h2 : 0 ≤ h.at_ ∧ h.at_ < 100) : spl 32 (headLn h) [] = [wBranch, h.name, decS h.at_.toNat] := by
  have e : headLn h = wBranch ++ (32 :: (h.name ++ (32 :: decS h.at_.toNat))) := by simp [headLn, wBranch]
  rw [e, spl_app (by decide)]
  simp only [spl, if_true, List.nil_append]
  rw [spl_app (fun h => by have := h1 _ h; simp at this)]
  simp only [spl, if_true, List.nil_append]
  rw [spl_none' (decS_no (by omega) 32 (by decide))]
  rfl
theorem parT_no {l : List Int} (h : ∀ q ∈ l, 0 ≤ q ∧ q < 100) : (10 : UInt8) ∉ parT l := by
  intro hm
  simp only [parT, List.mem_flatten, List.mem_map] at hm
  obtain ⟨_, ⟨q, hq, rfl⟩, hm⟩ := hm
  have := h q hq
  rcases List.mem_cons.1 hm with h0 | hm
  · cases h0
  · exact decS_no (by omega) 10 (by decide) hm
theorem encR_no {r : RepoD} (P : PlainR r) : ∀ l ∈ encR r, (10 : UInt8) ∉ l := by
  intro l hl
  rcases List.mem_append.1 hl with hl | hl
  · simp only [encC, List.mem_flatten, List.mem_map] at hl
    obtain ⟨_, ⟨c, hc, rfl⟩, hl⟩ := hl
    obtain ⟨q1, q2, q3, q4, _⟩ := P.com c hc
    rcases List.mem_cons.1 hl with rfl | hl
    · simp only [comL, comW, List.mem_append, not_or]
      exact ⟨⟨by decide, fun h => by have := q1 _ h; simp at this⟩, parT_no q3⟩
    · exact encT_no q4 l hl
  · simp only [encH, List.mem_map] at hl
    obtain ⟨h, hh, rfl⟩ := hl
    obtain ⟨q1, q2, q3⟩ := P.head h hh
    simp only [headLn, List.mem_append, not_or]
    exact ⟨⟨⟨by decide, fun h => by have := q1 _ h; simp at this⟩, by decide⟩, decS_no (by omega) 10 (by decide)⟩

/-- The program's RepoRead: one line more. -/
def riStep (num : Str → Int × Bool) (r : RepoD) (l : Str) (ls : List Str) : Option (RepoD × List Str) :=
  if ((spl 32 l []).drop 2).all (fun q => (num q).2) = true then
    (if (spl 32 l []).getD 0 [] = wCommit ∧ 2 ≤ (spl 32 l []).length then
      some (⟨r.commits ++ [⟨((spl 32 l []).drop 2).map fun q => (num q).1, (spl 32 l []).getD 1 [], (rfI num ls.length [] ls).1⟩], r.heads⟩, (rfI num ls.length [] ls).2)
    else if (spl 32 l []).getD 0 [] = wBranch ∧ (spl 32 l []).length = 3 then
      some (⟨r.commits, r.heads ++ [⟨(spl 32 l []).getD 1 [], (num ((spl 32 l []).getD 2 [])).1⟩]⟩, ls)
    else none)
  else none
def riF (num : Str → Int × Bool) : Nat → RepoD → List Str → Option RepoD
  | 0, r, _ => some r
  | _ + 1, r, [] => some r
  | n + 1, r, l :: ls => match riStep num r l ls with
    | none => none
    | some p => riF num n p.1 p.2
theorem rfI_le {num} : ∀ {n : Nat} {t : List FileD} {ls : List Str}, (rfI num n t ls).2.length ≤ ls.length := by
  intro n
  induction n with
  | zero => intro t ls; exact Nat.le_refl _
  | succ n ih =>
    intro t ls
    cases ls with
    | nil => exact Nat.le_refl _
    | cons l ls =>
      rw [rfI]
      split
      · split
        · refine Nat.le_trans ih ?_
          simp; omega
        · exact Nat.le_refl _
      · exact Nat.le_refl _
theorem riStep_le {num r l ls p} (h : riStep num r l ls = some p) : p.2.length ≤ ls.length := by
  unfold riStep at h
  split at h
  · split at h
    · cases h; exact rfI_le
    · split at h
      · cases h; exact Nat.le_refl _
      · cases h
  · cases h
theorem riF_fuel {num} : ∀ {n m : Nat} {r : RepoD} {ls : List Str}, ls.length ≤ n → ls.length ≤ m → riF num n r ls = riF num m r ls := by
  intro n
  induction n with
  | zero =>
    intro m r ls h1 _
    have : ls = [] := List.eq_nil_of_length_eq_zero (by omega)
    subst this
    cases m <;> rfl
  | succ n ih =>
    intro m r ls h1 h2
    cases ls with
    | nil => cases m <;> rfl
    | cons l ls =>
      obtain ⟨m, rfl⟩ : ∃ k, m = k + 1 := ⟨m - 1, by simp at h2; omega⟩
      simp at h1 h2
      simp only [riF]
      cases hs : riStep num r l ls with
      | none => rfl
      | some p =>
        have := riStep_le hs
        exact ih (by omega) (by omega)
theorem dec_all {num : Str → Int × Bool} (hnum : ∀ n : Nat, n < 100 → num (decS n) = ((n : Int), true)) {l : List Int} (h : ∀ q ∈ l, 0 ≤ q ∧ q < 100) : ((l.map fun q => decS q.toNat).all fun q => (num q).2) = true ∧ ((l.map fun q => decS q.toNat).map fun q => (num q).1) = l := by
  induction l with
  | nil => exact ⟨rfl, rfl⟩
  | cons q l ih =>
    obtain ⟨h1, h2⟩ := ih fun x hx => h x (by simp [hx])
    have hq := h q (by simp)
    have := hnum q.toNat (by omega)
    simp only [List.map_cons, List.all_cons, this, h1, h2]
    exact ⟨rfl, by rw [show ((q.toNat : Nat) : Int) = q by omega]⟩
theorem riF_heads {num} (hnum : ∀ n : Nat, n < 100 → num (decS n) = ((n : Int), true)) : ∀ {hs : List HeadD}, (∀ h ∈ hs, (∀ b ∈ h.name, 32 < b.toNat) ∧ 0 ≤ h.at_ ∧ h.at_ < 100) → ∀ (r : RepoD) (n : Nat), (encH hs).length ≤ n → riF num n r (encH hs) = some ⟨r.commits, r.heads ++ hs⟩ := by
  intro hs
  induction hs with
  | nil => intro _ r n _; cases n <;> simp [encH, riF]
  | cons h hs ih =>
    intro hp r n hn
    obtain ⟨n, rfl⟩ : ∃ k, n = k + 1 := ⟨n - 1, by simp [encH] at hn; omega⟩
    obtain ⟨h1, h2, h3⟩ := hp h (by simp)
    have e : encH (h :: hs) = headLn h :: encH hs := rfl
    rw [e] at hn ⊢
    have hst : riStep num r (headLn h) (encH hs) = some (⟨r.commits, r.heads ++ [h]⟩, encH hs) := by
      unfold riStep
      rw [headLn_words h1 ⟨h2, h3⟩]
      have hd := hnum h.at_.toNat (by omega)
      have ha : ((h.at_.toNat : Nat) : Int) = h.at_ := by omega
      rw [if_pos (by simp [hd]), if_neg (by simp [wBranch, wCommit]), if_pos ⟨rfl, rfl⟩]
      simp [hd, ha]
    rw [riF, hst]
    simp only []
    rw [ih (fun x hx => hp x (by simp [hx])) _ n (by simp at hn; omega)]
    simp
theorem stops_encR {cs : List CommitD} {hs : List HeadD} (hc : ∀ c ∈ cs, (∀ b ∈ c.who, 32 < b.toNat) ∧ ∀ q ∈ c.parents, 0 ≤ q ∧ q < 100) (hh : ∀ h ∈ hs, (∀ b ∈ h.name, 32 < b.toNat) ∧ 0 ≤ h.at_ ∧ h.at_ < 100) : stopsL (encC cs ++ encH hs) := by
  cases cs with
  | cons c cs =>
    obtain ⟨h1, h2⟩ := hc c (by simp)
    refine .inr ⟨comL c, _, by simp only [encC, List.map_cons, List.flatten_cons, List.cons_append]; rfl, ?_⟩
    rw [comL_words h1 h2]
    simp [wCommit]
  | nil =>
    cases hs with
    | nil => exact .inl rfl
    | cons h hs =>
      obtain ⟨h1, h2⟩ := hh h (by simp)
      refine .inr ⟨headLn h, _, rfl, ?_⟩
      rw [headLn_words h1 h2]
      simp [wBranch]
theorem riF_enc {num} (hnum : ∀ n : Nat, n < 100 → num (decS n) = ((n : Int), true)) {hs : List HeadD} (hh : ∀ h ∈ hs, (∀ b ∈ h.name, 32 < b.toNat) ∧ 0 ≤ h.at_ ∧ h.at_ < 100) : ∀ {cs : List CommitD}, (∀ c ∈ cs, (∀ b ∈ c.who, 32 < b.toNat) ∧ (∀ q ∈ c.parents, 0 ≤ q ∧ q < 100) ∧ plainT c.tree) →
    ∀ (r : RepoD) (n : Nat), (encC cs ++ encH hs).length ≤ n → riF num n r (encC cs ++ encH hs) = some ⟨r.commits ++ cs, r.heads ++ hs⟩ := by
  intro cs
  induction cs with
  | nil =>
    intro _ r n hn
    have e : encC [] ++ encH hs = encH hs := rfl
    rw [e] at hn ⊢
    rw [riF_heads hnum hh r n hn]
    simp
  | cons c cs ih =>
    intro hp r n hn
    obtain ⟨h1, h2, h3⟩ := hp c (by simp)
    have e : encC (c :: cs) ++ encH hs = comL c :: (encT c.tree ++ (encC cs ++ encH hs)) := by simp [encC]
    rw [e] at hn ⊢
    obtain ⟨n, rfl⟩ : ∃ k, n = k + 1 := ⟨n - 1, by simp at hn; omega⟩
    have hst : stopsL (encC cs ++ encH hs) := stops_encR (fun x hx => ⟨(hp x (by simp [hx])).1, (hp x (by simp [hx])).2.1⟩) hh
    have hrf := rfI_enc hnum hst h3 [] (encT c.tree ++ (encC cs ++ encH hs)).length (Nat.le_refl _)
    obtain ⟨d1, d2⟩ := dec_all hnum h2
    have hs1 : riStep num r (comL c) (encT c.tree ++ (encC cs ++ encH hs)) = some (⟨r.commits ++ [c], r.heads⟩, encC cs ++ encH hs) := by
      unfold riStep
      rw [comL_words h1 h2, hrf]
      simp only [List.drop_succ_cons, List.drop_zero, d1, d2, List.getD_cons_zero, List.getD_cons_succ, List.nil_append]
      rw [if_pos trivial, if_pos ⟨trivial, by simp⟩]
    rw [riF, hs1]
    simp only []
    rw [ih (fun x hx => hp x (by simp [hx])) _ n (by simp at hn; simp; omega)]
    simp
def repoReadI (num : Str → Int × Bool) (ok : RepoD → Bool) (s : Str) : RepoD × Bool :=
  if (linesI s).2 = true then match riF num (linesI s).1.length ⟨[], []⟩ (linesI s).1 with
    | some r => if ok r = true ∧ repoT r = s then (r, true) else (⟨[], []⟩, false)
    | none => (⟨[], []⟩, false)
  else (⟨[], []⟩, false)

/-- The reference's RepoRead. -/
def rdCom (ls : List Str) : Nat → List CommitD → (Nat × Bool) → List CommitD × (Nat × Bool)
  | 0, t, a => (t, a)
  | n + 1, t, a => if rdMore ls (wCommit ++ [32]) a then
      rdCom ls n (t ++ [⟨((cutB (rdLine ls a).1 32 4).drop 2).map numB, (cutB (rdLine ls a).1 32 4).getD 1 [], (rdTree ls 8 [] (rdLine ls a).2).1⟩]) (rdTree ls 8 [] (rdLine ls a).2).2
    else (t, a)
def rdHd (ls : List Str) : Nat → List HeadD → (Nat × Bool) → Option (List HeadD × (Nat × Bool))
  | 0, t, a => some (t, a)
  | n + 1, t, a => if rdMore ls (wBranch ++ [32]) a then
      (if ¬ (cutB (rdLine ls a).1 32 3).length = 3 then none
      else rdHd ls n (t ++ [⟨(cutB (rdLine ls a).1 32 3).getD 1 [], numB ((cutB (rdLine ls a).1 32 3).getD 2 [])⟩]) (rdLine ls a).2)
    else some (t, a)
def repoReadS (ok : RepoD → Bool) (s : Str) : RepoD × Bool :=
  match rdHd (cutB s 10 1430) 5 [] (rdCom (cutB s 10 1430) 16 [] (0, false)).2 with
  | some p => if p.2.2 = false ∧ p.2.1 + 1 = (cutB s 10 1430).length ∧ ok ⟨(rdCom (cutB s 10 1430) 16 [] (0, false)).1, p.1⟩ = true ∧ repoT ⟨(rdCom (cutB s 10 1430) 16 [] (0, false)).1, p.1⟩ = s then (⟨(rdCom (cutB s 10 1430) 16 [] (0, false)).1, p.1⟩, true) else (⟨[], []⟩, false)
  | none => (⟨[], []⟩, false)
theorem numB_map {l : List Int} (h : ∀ q ∈ l, 0 ≤ q ∧ q < 100) : (l.map fun q => decS q.toNat).map numB = l := by
  induction l with
  | nil => rfl
  | cons q l ih =>
    have hq := h q (by simp)
    simp only [List.map_cons, ih fun x hx => h x (by simp [hx]), numB_dec (show q.toNat < 100 by omega)]
    rw [show ((q.toNat : Nat) : Int) = q by omega]
theorem get_drop {ls : List Str} {a : Nat} {l : Str} {r : List Str} (h : ls.drop a = l :: r) : ls.getD a [] = l ∧ ls.drop (a + 1) = r ∧ ls.length = a + 1 + r.length := by
  have h0 : (ls.drop a)[0]? = some l := by rw [h]; rfl
  rw [List.getElem?_drop, Nat.add_zero] at h0
  refine ⟨by simp [List.getD_eq_getElem?_getD, h0], by rw [← List.drop_drop, h]; rfl, ?_⟩
  have : ls.length - a = r.length + 1 := by rw [← List.length_drop, h]; rfl
  omega
theorem line_drop {ls : List Str} {a : Nat} {l m : Str} {r : List Str} (h : ls.drop a = l :: m :: r) (hd : Str) : rdLine ls (a, false) = (l, (a + 1, false)) ∧ (rdMore ls hd (a, false) = prefB hd l) := by
  obtain ⟨h1, h2, h3⟩ := get_drop h
  simp only [List.length_cons] at h3
  constructor
  · unfold rdLine
    rw [if_neg (show ¬ ls.length ≤ a + 1 by omega), h1]
  · unfold rdMore
    rw [h1]
    have : a + 1 < ls.length := by omega
    simp [this]
theorem more_last {ls : List Str} {a : Nat} {l : Str} (h : ls.drop a = [l]) (hd : Str) : rdMore ls hd (a, false) = false := by
  obtain ⟨h1, h2, h3⟩ := get_drop h
  simp only [List.length_nil] at h3
  unfold rdMore
  have : ¬ a + 1 < ls.length := by omega
  simp [this]
theorem cut_words {l : Str} {w : List Str} {m : Nat} (h : spl 32 l [] = w) (hm : w.length ≤ m + 1) : cutB l 32 m = w := by
  have hc : l.count 32 ≤ m := by
    have := spl_len 32 l []
    rw [h] at this
    omega
  have : cutB l ((32 : UInt8).toNat : Int) m = spl 32 l [] := cut_spl (by omega)
  rw [h] at this
  exact this
theorem rdHd_enc {ls : List Str} : ∀ {hs : List HeadD}, (∀ h ∈ hs, (∀ b ∈ h.name, 32 < b.toNat) ∧ 0 ≤ h.at_ ∧ h.at_ < 100) → ∀ (t : List HeadD) (n a : Nat), hs.length ≤ n → ls.drop a = encH hs ++ [[]] → rdHd ls n t (a, false) = some (t ++ hs, (a + hs.length, false)) := by
  intro hs
  induction hs with
  | nil =>
    intro _ t n a _ h
    cases n with
    | zero => simp [rdHd]
    | succ n => rw [rdHd, more_last h]; simp
  | cons h hs ih =>
    intro hp t n a hn hd
    obtain ⟨n, rfl⟩ : ∃ k, n = k + 1 := ⟨n - 1, by simp at hn; omega⟩
    obtain ⟨h1, h2, h3⟩ := hp h (by simp)
    obtain ⟨m, r, hr⟩ : ∃ m r, encH hs ++ [[]] = m :: r := by cases hs <;> exact ⟨_, _, rfl⟩
    have e : encH (h :: hs) ++ [[]] = headLn h :: (encH hs ++ [[]]) := rfl
    rw [e] at hd
    obtain ⟨_, hd2, _⟩ := get_drop hd
    have hd' := hd
    rw [hr] at hd'
    obtain ⟨q1, q2⟩ := line_drop hd' (wBranch ++ [32])
    have hw := cut_words (m := 3) (headLn_words h1 ⟨h2, h3⟩) (by simp)
    rw [rdHd, q2, q1]
    have hpre : prefB (wBranch ++ [32]) (headLn h) = true := by simp [prefB, wBranch, headLn]
    rw [hpre, if_pos rfl, hw, if_neg (by simp)]
    simp only [List.getD_cons_zero, List.getD_cons_succ]
    rw [numB_dec (by omega), show ((h.at_.toNat : Nat) : Int) = h.at_ by omega]
    rw [ih (fun x hx => hp x (by simp [hx])) _ n (a + 1) (by simp at hn; omega) hd2]
    simp
    omega
theorem rdCom_enc {ls : List Str} {hs : List HeadD} (hh : ∀ h ∈ hs, (∀ b ∈ h.name, 32 < b.toNat) ∧ 0 ≤ h.at_ ∧ h.at_ < 100) : ∀ {cs : List CommitD}, (∀ c ∈ cs, (∀ b ∈ c.who, 32 < b.toNat) ∧ c.parents.length ≤ 2 ∧ (∀ p ∈ c.parents, 0 ≤ p ∧ p < 100) ∧ plainT c.tree ∧ c.tree.length ≤ 8 ∧ ∀ f ∈ c.tree, f.text.length ≤ 10) →
    ∀ (t : List CommitD) (n a : Nat), cs.length ≤ n → ls.drop a = encC cs ++ (encH hs ++ [[]]) → rdCom ls n t (a, false) = (t ++ cs, (a + (encC cs).length, false)) := by
  have hrest : ∀ (cs : List CommitD), ∃ m r, encC cs ++ (encH hs ++ [[]]) = m :: r := by
    intro cs
    cases cs with
    | nil => cases hs <;> exact ⟨_, _, rfl⟩
    | cons c cs => exact ⟨comL c, _, by simp only [encC, List.map_cons, List.flatten_cons, List.cons_append]; rfl⟩
  have hstop : ∀ (cs : List CommitD), stopsS (encC cs ++ (encH hs ++ [[]])) := by
    intro cs
    cases cs with
    | cons c cs =>
      obtain ⟨m, r, hr⟩ : ∃ m r, (encT c.tree ++ (encC cs ++ (encH hs ++ [[]]))) = m :: r := by
        obtain ⟨m, r, hr⟩ := hrest cs
        cases hq : encT c.tree with
        | nil => exact ⟨m, r, by simpa using hr⟩
        | cons x y => exact ⟨x, _, rfl⟩
      refine .inr ⟨comL c, m, r, ?_, by simp [prefB, comL, comW]⟩
      rw [← hr]
      simp [encC]
    | nil =>
      cases hs with
      | nil => exact .inl ⟨[], rfl⟩
      | cons h hs =>
        obtain ⟨m, r, hr⟩ : ∃ m r, encH hs ++ [[]] = m :: r := by cases hs <;> exact ⟨_, _, rfl⟩
        exact .inr ⟨headLn h, m, r, by rw [← hr]; rfl, by simp [prefB, headLn]⟩
  intro cs
  induction cs with
  | nil =>
    intro _ t n a _ hd
    cases n with
    | zero => simp [rdCom, encC]
    | succ n =>
      have hm : rdMore ls (wCommit ++ [32]) (a, false) = false := by
        cases hs with
        | nil => exact more_last hd _
        | cons h hs =>
          obtain ⟨m, r, hr⟩ : ∃ m r, encH hs ++ [[]] = m :: r := by cases hs <;> exact ⟨_, _, rfl⟩
          have e : encC [] ++ (encH (h :: hs) ++ [[]]) = headLn h :: (encH hs ++ [[]]) := rfl
          rw [e, hr] at hd
          rw [(line_drop hd _).2]
          simp [prefB, wCommit, headLn]
      rw [rdCom, hm]
      simp [encC]
  | cons c cs ih =>
    intro hp t n a hn hd
    obtain ⟨n, rfl⟩ : ∃ k, n = k + 1 := ⟨n - 1, by simp at hn; omega⟩
    obtain ⟨h1, h2, h3, h4, h5, h6⟩ := hp c (by simp)
    have e : encC (c :: cs) ++ (encH hs ++ [[]]) = comL c :: (encT c.tree ++ (encC cs ++ (encH hs ++ [[]]))) := by simp [encC]
    rw [e] at hd
    obtain ⟨_, hd2, _⟩ := get_drop hd
    obtain ⟨m, r, hr⟩ : ∃ m r, (encT c.tree ++ (encC cs ++ (encH hs ++ [[]]))) = m :: r := by
      obtain ⟨m, r, hr⟩ := hrest cs
      cases hq : encT c.tree with
      | nil => exact ⟨m, r, by simpa using hr⟩
      | cons x y => exact ⟨x, _, rfl⟩
    have hd' := hd
    rw [hr] at hd'
    obtain ⟨q1, q2⟩ := line_drop hd' (wCommit ++ [32])
    have hw := cut_words (m := 4) (comL_words h1 h3) (by simp; omega)
    have hpre : prefB (wCommit ++ [32]) (comL c) = true := by simp [prefB, wCommit, comL, comW]
    have ht := rdTree_enc (ls := ls) (hstop cs) h4 h6 [] 8 (a + 1) (.inr h5) hd2
    have hd3 : ls.drop (a + 1 + (encT c.tree).length) = encC cs ++ (encH hs ++ [[]]) := by rw [← List.drop_drop, hd2]; simp
    rw [rdCom, q2, q1, hpre, if_pos rfl, hw]
    simp only [List.drop_succ_cons, List.drop_zero, List.getD_cons_zero, List.getD_cons_succ, ht, List.nil_append]
    rw [numB_map h3, ih (fun x hx => hp x (by simp [hx])) _ n _ (by simp at hn; omega) hd3]
    simp [encC]
    omega

theorem encC_len : ∀ {l : List CommitD}, (∀ c ∈ l, c.tree.length ≤ 8 ∧ ∀ f ∈ c.tree, f.text.length ≤ 10) → (encC l).length ≤ 89 * l.length := by
  intro l
  induction l with
  | nil => intro _; simp [encC]
  | cons c l ih =>
    intro h
    obtain ⟨h1, h2⟩ := h c (by simp)
    have h3 := enc_len h2
    have h4 := ih fun x hx => h x (by simp [hx])
    have e : encC (c :: l) = comL c :: (encT c.tree ++ encC l) := by simp [encC]
    rw [e]
    simp; omega
theorem repoReadI_enc {num} (hnum : ∀ n : Nat, n < 100 → num (decS n) = ((n : Int), true)) {ok : RepoD → Bool} {r : RepoD} (P : PlainR r) (h : ok r = true) : repoReadI num ok (repoT r) = (r, true) := by
  have h1 : linesI (repoT r) = (encR r, true) := by rw [repoT_enc]; exact linesI_enc (encR_no P)
  have h2 := riF_enc hnum P.head (cs := r.commits) (fun c hc => ⟨(P.com c hc).1, (P.com c hc).2.2.1, (P.com c hc).2.2.2.1⟩) ⟨[], []⟩ (encR r).length (Nat.le_refl _)
  have h3 : riF num (encR r).length ⟨[], []⟩ (encR r) = some r := by
    have : encR r = encC r.commits ++ encH r.heads := rfl
    rw [this] at h2 ⊢
    rw [h2]; simp
  unfold repoReadI
  rw [h1]
  simp only [h3]
  simp [h]
theorem repoReadS_enc {ok : RepoD → Bool} {r : RepoD} (P : PlainR r) (h : ok r = true) : repoReadS ok (repoT r) = (r, true) := by
  have hl : (encR r).length ≤ 1429 := by
    have h1 := encC_len (l := r.commits) fun c hc => ⟨(P.com c hc).2.2.2.2.1, (P.com c hc).2.2.2.2.2⟩
    have h2 := P.nc
    have h3 := P.nh
    have : (encR r).length = (encC r.commits).length + r.heads.length := by simp [encR, encH]
    omega
  have h1 : cutB (repoT r) 10 1430 = encR r ++ [[]] := by
    have e : spl 10 (repoT r) [] = encR r ++ [[]] := by rw [repoT_enc]; exact spl_lines (encR_no P)
    have hc : (repoT r).count 10 ≤ 1430 := by
      have := spl_len 10 (repoT r) []
      rw [e] at this
      simp at this
      omega
    have : cutB (repoT r) ((10 : UInt8).toNat : Int) 1430 = spl 10 (repoT r) [] := cut_spl (by omega)
    rw [e] at this
    exact this
  have e0 : encR r ++ [[]] = encC r.commits ++ (encH r.heads ++ [[]]) := by simp [encR]
  have h2 := rdCom_enc (ls := encR r ++ [[]]) P.head (cs := r.commits) P.com [] 16 0 P.nc (by rw [List.drop_zero, e0])
  have h3 := rdHd_enc (ls := encR r ++ [[]]) (hs := r.heads) P.head [] 5 (0 + (encC r.commits).length) P.nh (by rw [e0]; simp)
  unfold repoReadS
  rw [h1, h2]
  simp only [h3]
  rw [if_pos]
  · simp
  · simp [h, encR, encH]
    omega
theorem repoReadI_ok {num ok s} : ((repoReadI num ok s).2 = true → ok (repoReadI num ok s).1 = true ∧ repoT (repoReadI num ok s).1 = s) ∧ ((repoReadI num ok s).2 = false → (repoReadI num ok s).1 = ⟨[], []⟩) := by
  generalize hx : repoReadI num ok s = x
  unfold repoReadI at hx
  split at hx
  · split at hx
    · split at hx
      · rename_i h; subst hx; exact ⟨fun _ => h, fun h => (by cases h)⟩
      · subst hx; exact ⟨fun h => (by cases h), fun _ => rfl⟩
    · subst hx; exact ⟨fun h => (by cases h), fun _ => rfl⟩
  · subst hx; exact ⟨fun h => (by cases h), fun _ => rfl⟩
theorem repoReadS_ok {ok s} : ((repoReadS ok s).2 = true → ok (repoReadS ok s).1 = true ∧ repoT (repoReadS ok s).1 = s) ∧ ((repoReadS ok s).2 = false → (repoReadS ok s).1 = ⟨[], []⟩) := by
  generalize hx : repoReadS ok s = x
  unfold repoReadS at hx
  split at hx
  · split at hx
    · rename_i h; subst hx; exact ⟨fun _ => ⟨h.2.2.1, h.2.2.2⟩, fun h => (by cases h)⟩
    · subst hx; exact ⟨fun h => (by cases h), fun _ => rfl⟩
  · subst hx; exact ⟨fun h => (by cases h), fun _ => rfl⟩
theorem repoRead_eq {num} (hnum : ∀ n : Nat, n < 100 → num (decS n) = ((n : Int), true)) {ok : RepoD → Bool} (O : ∀ r, ok r = true → PlainR r) (s : Str) : repoReadI num ok s = repoReadS ok s := by
  obtain ⟨a1, a2⟩ := repoReadI_ok (num := num) (ok := ok) (s := s)
  obtain ⟨b1, b2⟩ := repoReadS_ok (ok := ok) (s := s)
  cases hI : (repoReadI num ok s).2 with
  | true =>
    obtain ⟨h1, h2⟩ := a1 hI
    have h3 := repoReadS_enc (O _ h1) h1
    rw [h2] at h3
    rw [h3]; exact Prod.ext rfl hI
  | false =>
    cases hS : (repoReadS ok s).2 with
    | true =>
      obtain ⟨h1, h2⟩ := b1 hS
      have h3 := repoReadI_enc hnum (O _ h1) h1
      rw [h2] at h3
      rw [h3] at hI; cases hI
    | false => exact Prod.ext ((a2 hI).trans (b2 hS).symm) (hI.trans hS.symm)

theorem nameB_plain {s : Str} (h : nameB s = true) : ∀ b ∈ s, 32 < b.toNat := by
  intro b hb
  simp only [nameB, Bool.and_eq_true, List.all_eq_true] at h
  have := h.2 b hb
  simp only [wordB, Bool.or_eq_true, Bool.and_eq_true, decide_eq_true_eq] at this
  omega
theorem plainR_of {r : RepoD} (h : repoI r = true) : PlainR r := by
  have hn := repo_n h
  have hI := (repoI_iff r).1 h
  obtain ⟨q1, q2⟩ := (headsB_iff _ _).1 hI.2.2
  refine ⟨fun c hc => ?_, fun x hx => ?_, hn, q1⟩
  · obtain ⟨i, hi, rfl⟩ := List.getElem_of_mem hc
    obtain ⟨p1, p2, p3⟩ := repo_use h hi
    have h1 := hI.2.1 i hi
    have hg : r.commits.getD i default = r.commits[i] := by simp [List.getD_eq_getElem?_getD, hi]
    simp only [okCI, okI1, hg, Bool.and_eq_true] at h1
    exact ⟨nameB_plain h1.1.1.2, p1, fun p hp => by have := p2 p hp; omega, okT_treeI.plain p3, okT_treeI.n p3, okT_treeI.ten p3⟩
  · obtain ⟨i, hi, rfl⟩ := List.getElem_of_mem hx
    have h1 := q2 i hi
    have hg : r.heads.getD i default = r.heads[i] := by simp [List.getD_eq_getElem?_getD, hi]
    simp only [okHd, hg, Bool.and_eq_true, inN, decide_eq_true_eq] at h1
    exact ⟨nameB_plain h1.1.1, h1.1.2.1, by omega⟩

end Vx
end Go.Proofs.YthmhaggmcfemnaaGreatDoor
/-
  Contracts: repositories read (RepoRead, the reference's).
-/
namespace Go.Proofs.YthmhaggmcfemnaaGreatDoor
namespace Vx
open Go.RowKit
set_option maxRecDepth 8000

theorem cutL_pos {b : Int} {m : Nat} : ∀ {s c : Str} {n : Nat}, 1 ≤ (cutL b m s c n).length := by
  intro s
  induction s with
  | nil => intro c n; simp -implicitDefEqProofs [cutL]
  | cons x s ih =>
    intro c n
    simp only [cutL]
    split
    · split
      · simp
      · exact ih
    · simp
theorem cut_two {l : Str} (h : prefB (wCommit ++ [32]) l = true) : 2 ≤ (cutB l 32 4).length := by
  simp only [prefB, Bool.and_eq_true, decide_eq_true_eq] at h
  have e : l = (wCommit ++ [32]) ++ l.drop 7 := by
    have := List.take_append_drop 7 l
    have h2 : l.take 7 = wCommit ++ [32] := h.2
    rw [h2] at this
    exact this.symm
  rw [e]
  have h3 := cutL_pos (b := 32) (m := 4) (s := l.drop 7) (c := []) (n := 1)
  simp -implicitDefEqProofs [cutB, cutL, wCommit]
  omega
theorem okR_I {r : RepoD} (h : repoI r = true) : okR r := okR_of h fun c hc f hf => by
  obtain ⟨i, hi, rfl⟩ := List.getElem_of_mem hc
  have := (treeI_plain (repo_use h hi).2.2 f hf).1.2
  omega

def rcW (ls : List Str) (s : List CommitD × (Nat × Bool)) : List Str := cutB (rdLine ls s.2).1 32 4
def rcStep (ls : List Str) (s : List CommitD × (Nat × Bool)) : List CommitD × (Nat × Bool) := (s.1 ++ [⟨((rcW ls s).drop 2).map numB, (rcW ls s).getD 1 [], (rdTree ls 8 [] (rdLine ls s.2).2).1⟩], (rdTree ls 8 [] (rdLine ls s.2).2).2)
def rcAt (ls : List Str) (a : Nat × Bool) : Nat → List CommitD × (Nat × Bool)
  | 0 => ([], a)
  | i + 1 => rcStep ls (rcAt ls a i)
theorem rcAt_len {ls a} : ∀ i, (rcAt ls a i).1.length = i := by
  intro i
  induction i with
  | zero => rfl
  | succ i ih => simp -implicitDefEqProofs [rcAt, rcStep, ih]
theorem rcAt_bd {ls : List Str} {a : Nat × Bool} (h : ls.length ≤ 1048577) (h1 : a.1 ≤ 1048577) : ∀ i, (rcAt ls a i).2.1 ≤ 1048577 := by
  intro i
  induction i with
  | zero => exact h1
  | succ i ih => exact rdTree_bd h (rdLine_bd h ih)
theorem rc_step {ls : List Str} {a : Nat × Bool} {i : Nat} (hi : i < 16) :
    (rdMore ls (wCommit ++ [32]) (rcAt ls a i).2 = false → rdCom ls (16 - i) (rcAt ls a i).1 (rcAt ls a i).2 = rcAt ls a i) ∧
    (rdMore ls (wCommit ++ [32]) (rcAt ls a i).2 = true → rdCom ls (16 - i) (rcAt ls a i).1 (rcAt ls a i).2 = rdCom ls (16 - (i + 1)) (rcAt ls a (i + 1)).1 (rcAt ls a (i + 1)).2) := by
  obtain ⟨n, hn⟩ : ∃ n, 16 - i = n + 1 := ⟨15 - i, by omega⟩
  have hn' : 16 - (i + 1) = n := by omega
  rw [hn, hn']
  refine ⟨fun h => ?_, fun h => ?_⟩
  · rw [rdCom, h]; rfl
  · rw [rdCom, h, if_pos rfl]; rfl
theorem rc_two {ls : List Str} {s : List CommitD × (Nat × Bool)} (h : rdMore ls (wCommit ++ [32]) s.2 = true) : 2 ≤ (rcW ls s).length := by
  unfold rdMore at h
  simp only [Bool.and_eq_true, Bool.not_eq_true', decide_eq_true_eq] at h
  have e : rdLine ls s.2 = (ls.getD s.2.1 [], (s.2.1 + 1, s.2.2)) := if_neg (by omega)
  unfold rcW
  rw [e]
  exact cut_two h.2
def rhW (ls : List Str) (s : List HeadD × (Nat × Bool)) : List Str := cutB (rdLine ls s.2).1 32 3
def rhStep (ls : List Str) (s : List HeadD × (Nat × Bool)) : List HeadD × (Nat × Bool) := (s.1 ++ [⟨(rhW ls s).getD 1 [], numB ((rhW ls s).getD 2 [])⟩], (rdLine ls s.2).2)
def rhAt (ls : List Str) (a : Nat × Bool) : Nat → List HeadD × (Nat × Bool)
  | 0 => ([], a)
  | i + 1 => rhStep ls (rhAt ls a i)
theorem rhAt_len {ls a} : ∀ i, (rhAt ls a i).1.length = i := by
  intro i
  induction i with
  | zero => rfl
  | succ i ih => simp -implicitDefEqProofs [rhAt, rhStep, ih]
theorem rhAt_bd {ls : List Str} {a : Nat × Bool} (h : ls.length ≤ 1048577) (h1 : a.1 ≤ 1048577) : ∀ i, (rhAt ls a i).2.1 ≤ 1048577 := by
  intro i
  induction i with
  | zero => exact h1
  | succ i ih => exact rdLine_bd h ih
theorem rh_step {ls : List Str} {a : Nat × Bool} {i : Nat} (hi : i < 5) :
    (rdMore ls (wBranch ++ [32]) (rhAt ls a i).2 = false → rdHd ls (5 - i) (rhAt ls a i).1 (rhAt ls a i).2 = some (rhAt ls a i)) ∧
    (rdMore ls (wBranch ++ [32]) (rhAt ls a i).2 = true → ¬ (rhW ls (rhAt ls a i)).length = 3 → rdHd ls (5 - i) (rhAt ls a i).1 (rhAt ls a i).2 = none) ∧
    (rdMore ls (wBranch ++ [32]) (rhAt ls a i).2 = true → (rhW ls (rhAt ls a i)).length = 3 → rdHd ls (5 - i) (rhAt ls a i).1 (rhAt ls a i).2 = rdHd ls (5 - (i + 1)) (rhAt ls a (i + 1)).1 (rhAt ls a (i + 1)).2) := by
  obtain ⟨n, hn⟩ : ∃ n, 5 - i = n + 1 := ⟨4 - i, by omega⟩
  have hn' : 5 - (i + 1) = n := by omega
  rw [hn, hn']
  refine ⟨fun h => ?_, fun h h1 => ?_, fun h h1 => ?_⟩
  · rw [rdHd, h]; rfl
  · rw [rdHd, h, if_pos rfl]; exact if_pos h1
  · rw [rdHd, h, if_pos rfl]; exact if_neg fun q => q h1

abbrev r24f (ls : List Str) (a : Nat × Bool) : Blk := .box 85 [.sl false 1 (eStrs ls), .int .i64 a.1, .bool a.2]
abbrev bNil : Blk := .box 26 [.nil, .nil]
def rrO (s : Str) : Inv := ⟨Nat, fun i => ⟨[(0, true, .str s), (2, true, .ptr 10 0), (3, true, .bool false), (4, true, .ptr 11 0), (5, true, .ptr 12 0)],
  [(10, bNil), (11, .box 26 [.own 13 3 (eCommits (rcAt (cutB s 10 1430) (0, false) i).1), .nil]), (13, .own 38 3 true (eCommits (rcAt (cutB s 10 1430) (0, false) i).1)), (12, r24f (cutB s 10 1430) (rcAt (cutB s 10 1430) (0, false) i).2)]⟩,
  fun i => i ≤ 16 ∧ rdCom (cutB s 10 1430) (16 - i) (rcAt (cutB s 10 1430) (0, false) i).1 (rcAt (cutB s 10 1430) (0, false) i).2 = rdCom (cutB s 10 1430) 16 [] (0, false), fun i => 16 - i⟩
def rrI (s : Str) (g : Nat) : Inv := ⟨Nat, fun j => ⟨[(0, true, .str s), (2, true, .ptr 10 0), (3, true, .bool false), (4, true, .ptr 11 0), (5, true, .ptr 12 0), (6, true, .own 14 1 (eStrs (rcW (cutB s 10 1430) (rcAt (cutB s 10 1430) (0, false) g)))), (7, true, .ptr 15 0), (8, true, .int .i64 ((j : Int) + 2))],
  [(10, bNil), (11, .box 26 [.own 13 3 (eCommits (rcAt (cutB s 10 1430) (0, false) g).1), .nil]), (13, .own 38 3 true (eCommits (rcAt (cutB s 10 1430) (0, false) g).1)), (12, r24f (cutB s 10 1430) (rdLine (cutB s 10 1430) (rcAt (cutB s 10 1430) (0, false) g).2).2),
   (14, .own 9 1 true (eStrs (rcW (cutB s 10 1430) (rcAt (cutB s 10 1430) (0, false) g)))), (15, .box 38 [.own 9 1 (eInts ((((rcW (cutB s 10 1430) (rcAt (cutB s 10 1430) (0, false) g)).drop 2).take j).map numB)), .str ((rcW (cutB s 10 1430) (rcAt (cutB s 10 1430) (0, false) g)).getD 1 []), .nil]),
   (9, .own 3 1 true (eInts ((((rcW (cutB s 10 1430) (rcAt (cutB s 10 1430) (0, false) g)).drop 2).take j).map numB)))]⟩,
  fun j => g < 16 ∧ rdMore (cutB s 10 1430) (wCommit ++ [32]) (rcAt (cutB s 10 1430) (0, false) g).2 = true ∧ j + 2 ≤ (rcW (cutB s 10 1430) (rcAt (cutB s 10 1430) (0, false) g)).length ∧ rdCom (cutB s 10 1430) (16 - g) (rcAt (cutB s 10 1430) (0, false) g).1 (rcAt (cutB s 10 1430) (0, false) g).2 = rdCom (cutB s 10 1430) 16 [] (0, false),
  fun j => (rcW (cutB s 10 1430) (rcAt (cutB s 10 1430) (0, false) g)).length - j⟩
def rrC (s : Str) : List CommitD × (Nat × Bool) := rdCom (cutB s 10 1430) 16 [] (0, false)
def rrH (s : Str) : Inv := ⟨Nat, fun i => ⟨[(0, true, .str s), (2, true, .ptr 10 0), (3, true, .bool false), (4, true, .ptr 11 0), (5, true, .ptr 12 0)],
  [(10, bNil), (11, .box 26 [.own 13 3 (eCommits (rrC s).1), .own 14 2 (eHeads (rhAt (cutB s 10 1430) (rrC s).2 i).1)]), (13, .own 38 3 true (eCommits (rrC s).1)), (14, .own 47 2 true (eHeads (rhAt (cutB s 10 1430) (rrC s).2 i).1)), (12, r24f (cutB s 10 1430) (rhAt (cutB s 10 1430) (rrC s).2 i).2)]⟩,
  fun i => i ≤ 5 ∧ rdHd (cutB s 10 1430) (5 - i) (rhAt (cutB s 10 1430) (rrC s).2 i).1 (rhAt (cutB s 10 1430) (rrC s).2 i).2 = rdHd (cutB s 10 1430) 5 [] (rrC s).2, fun i => 5 - i⟩
def rrInv (s : Str) (n g : Nat) : Inv := if n = 3 then rrO s else if n = 7 then rrI s g else rrH s
theorem rrInv_3 (s g) : rrInv s 3 g = rrO s := rfl
theorem rrInv_7 (s g) : rrInv s 7 g = rrI s g := rfl
theorem rrInv_12 (s g) : rrInv s 12 g = rrH s := rfl
--TAB tTabR
def cRepoReadS : Con := .fn 113 Str (fun s => [.str s]) (fun s => s.length ≤ 1048576) (fun s => .tup [.agg [.own 8 3 (eCommits (repoReadS repoI s).1.commits), .own 9 2 (eHeads (repoReadS repoI s).1.heads)], .bool (repoReadS repoI s).2]) (fun s => ownCommits 8 (repoReadS repoI s).1.commits ++ ownHeads 9 (repoReadS repoI s).1.heads)
set_option maxHeartbeats 4000000 in
theorem repoReadS_has : Has Tryz.prog 32 cRepoReadS := by
  refine has_walk mixed tTabR_ok (l := [(68, cL1Cut), (69, cRdMore), (70, cRdLine), (71, cNumB), (72, cRdTree), (47, cL7Ok), (73, cL24Repo)]) (HasL.cons l1Cut_has (HasL.cons rdMore_has (HasL.cons rdLine_has (HasL.cons numB_has (HasL.cons rdTree_has (HasL.cons l7Ok_has (HasL.cons l24Repo_has HasL.nil))))))) [0, 2, 3, 4, 5, 6, 7, 8, 9] (fun s => rrInv s) [] Tryz.func32 (by kernel_rfl) (code := _) (by unfold Tryz.f32; rfl) (by kernel_rfl) (by decide) (fun _ => ⟨(), trivial⟩) (by intro h; first | exact fun _ => rfl | cases h) (by kernel_rfl) ?_
  intro (s : Str) (hs : s.length ≤ 1048576)
  have g1 : (cutB s 10 1430).length ≤ 1048577 := by have := cutL_len' (b := 10) (m := 1430) (s := s) (c := []) (n := 0); unfold cutB; omega
  have g2 : ∀ l ∈ cutB s 10 1430, l.length ≤ 1073741824 := fun l hl => by have := cutB_le l hl; omega
  simp (maxSteps := 4000000) -implicitDefEqProofs [vc_skip, extOf, vc_seq, vc_cond, vc_block, vc_exit, vc_ret, vc_region, vc_regionD, vc_loop, kSeq_normal, kSeq_ret, kSeq_exit, kBlock_normal, kBlock_ret, kBlock_exit, kLoop_normal, kLoop_ret, kLoop_exit, kCond_bool, kNorm_app, vcOps_nil, vcOps_cons, kOps_app, kStep_some, kStep_none, vcDL_nil, vcDL_cons, kOpsD_app, kStepD_true, kStepD_tt, kStepD_false, ldB, btys, btyAct, kStepC_some, kStepC_none, kMv_app, act3_store, act3_call, act3_bs, kAct_app, kSt2_app, stealSlots, stealL, stealOne, subIn, AV.stolen, act_store, act_bs, act_append, act_call, kSet_app, kSet2_app, kSetG_app, kSetG_app0, kStore_ptr, kStore_eptr, kCallW_some, kCallC_some, kCall_some, wk_T, wk_n, wk_keep, wk_inv, wk_act, wk_dr, wk_le, aCalm, wantC, dstOk, calm, aCallK, aCall3K, subOf, subRep, aCall2K, apnd, bsMove, putBox, putOwn, partAV, mvL, AV.mv, AV.base, AV.moved, kBld, bldK, wrK, stK, AV.selfOk, AV.src, TI.flat, apSize, pickAV, St.val, St.cond, St.fn, St.next, St.set, St.trim, wipe_eq, wipeE_app, wipeM_app, pickEnv, get?, cGet, upd_app, withPuts, killAll, rm, freshP, Oper.hnd, Sc.st, ofConst, constOk, lenAV, elemLen, loadAV, ldL, ld1, fieldAddrAV, indexAddrAV, sliceAV, convAV, buildAV, fillAV, fieldAV, Out.of, binAV, AV.rows, AV.one, AV.cells, AV.deepOk, AV.toD, toDs, partRows, partRowsM, partsDeep, TK.zeroAV, TK.zeroD, byteOf, inR, Op.operands, Call.operands, passVs, passV, passL, pass1, passB, pasVs, pasV, pasL, pas1, ownsOk, okHs, okHs2, okFin, finOk2, rho, over, backRes, backAV, backAV1, backBlk, putBack, back2, back2_V, back2_1, m2, AV.wipe, AV.wipeV, AV.wipe1, Blk.wipe, AV.hs, AV.hs.hsL, alOps, Con.start2, Con.pk, bodyQ, fini, resAV, resA, firstId, Sc.from, renEnv, renT, renV, renVs, renL, ren1, renBox, renOwn, okRen, clOf, actB, setRow, flatRows, flatD, noInv, shr_nil, shr_some, kStepF_some, shareL, AV.viewed, AV.viewed1, cRepoReadS, cL1Cut, cRdMore, cRdLine, cNumB, cRdTree, cL7Ok, cL24Repo, Con.fn, tTabR, tTab, -Bool.exists_bool, rrInv_3, rrInv_7, rrInv_12, rrO, rrI, rrH]
  try dsimp only
  have e1 : ∀ p, rdHd (cutB s 10 1430) 5 [] (rrC s).2 = some p → repoReadS repoI s = if p.2.2 = false ∧ p.2.1 + 1 = (cutB s 10 1430).length ∧ repoI ⟨(rrC s).1, p.1⟩ = true ∧ repoT ⟨(rrC s).1, p.1⟩ = s then (⟨(rrC s).1, p.1⟩, true) else (⟨[], []⟩, false) := fun p h => by
    unfold repoReadS
    have : rdCom (cutB s 10 1430) 16 [] (0, false) = rrC s := rfl
    rw [this, h]
  have e0 : rdHd (cutB s 10 1430) 5 [] (rrC s).2 = none → repoReadS repoI s = (⟨[], []⟩, false) := fun h => by
    unfold repoReadS
    have : rdCom (cutB s 10 1430) 16 [] (0, false) = rrC s := rfl
    rw [this, h]
  have hCdef : rdCom (cutB s 10 1430) 16 [] (0, false) = rrC s := rfl
  refine ⟨s, 10, 1430, ⟨rfl, rfl, rfl⟩, by omega, ⟨0, ⟨⟨rfl, rfl, rfl, rfl⟩, rfl⟩, by omega, rfl⟩, ?_⟩
  rw [hCdef]
  generalize cutB s 10 1430 = ls at g1 g2 e1 e0 hCdef ⊢
  intro t ht hR
  have hbd := rcAt_bd (a := (0, false)) g1 (by simp) t
  have hln := rcAt_len (ls := ls) (a := (0, false)) t
  have hC16 : t = 16 → rrC s = rcAt ls (0, false) t := fun e => by rw [← hR, e]; rfl
  refine ⟨ls, (rcAt ls (0, false) t).2.1, (rcAt ls (0, false) t).2.2, ⟨rfl, rfl, rfl⟩, ⟨g1, hbd⟩, fun hm hl => ⟨fun h16 => ?_, fun h16 => ?_⟩, fun hm => ?_⟩
  · have hlt : t < 16 := by omega
    obtain ⟨_, s2⟩ := rc_step (ls := ls) (a := (0, false)) hlt
    rw [hR] at s2
    have hw2 := rc_two hm
    have hlen := rdLine_len (ls := ls) (a := (rcAt ls (0, false) t).2) g2
    have hwl : ∀ q ∈ rcW ls (rcAt ls (0, false) t), q.length ≤ 1073741824 := fun q hq => by have := cutB_le q hq; omega
    have hwb : (rcW ls (rcAt ls (0, false) t)).length ≤ 1073741826 := by have := cutL_len' (b := 32) (m := 4) (s := (rdLine ls (rcAt ls (0, false) t).2).1) (c := []) (n := 0); unfold rcW cutB; omega
    have hrs : rcStep ls (rcAt ls (0, false) t) = rcAt ls (0, false) (t + 1) := rfl
    have hrd := rdLine_bd (ls := ls) (a := (rcAt ls (0, false) t).2) g1 hbd
    refine ⟨ls, (rcAt ls (0, false) t).2.1, (rcAt ls (0, false) t).2.2, ⟨rfl, rfl, rfl⟩, ⟨g1, hbd⟩, (rdLine ls (rcAt ls (0, false) t).2).1, 32, 4, ⟨rfl, rfl, rfl⟩, by omega, ?_⟩
    have hW : cutB (rdLine ls (rcAt ls (0, false) t).2).1 32 4 = rcW ls (rcAt ls (0, false) t) := rfl
    rw [hW]
    have hs2 := s2 hm
    have e1' : Option.map eStr (rcW ls (rcAt ls (0, false) t))[1]? = some (eStr (rcW ls (rcAt ls (0, false) t))[1]) := by rw [List.getElem?_eq_getElem (by omega)]; rfl
    rw [e1']
    have e11 : (rcW ls (rcAt ls (0, false) t))[1]?.getD [] = (rcW ls (rcAt ls (0, false) t))[1] := by rw [List.getElem?_eq_getElem (by omega)]; rfl
    refine ⟨by omega, fun _ => ⟨⟨by simp -implicitDefEqProofs [eStr], by simp -implicitDefEqProofs [eStr]⟩, fun _ _ => ⟨t, ⟨0, ⟨⟨rfl, by omega⟩, ⟨rfl, ⟨rfl, rfl, rfl⟩, .inl rfl, by rw [e11]; simp -implicitDefEqProofs [eStr]⟩, rfl, rfl, .inl rfl⟩, hlt, hm, by omega, hR⟩, fun j _ _ hj _ _ => ⟨fun hj2 => ?_, fun hj2 => ?_⟩⟩⟩⟩
    · have ej : ((j : Int) + 2).toNat = j + 2 := by omega
      have hj3 : j + 2 < (rcW ls (rcAt ls (0, false) t)).length := by omega
      have e5 : Option.map eStr (rcW ls (rcAt ls (0, false) t))[j + 2]? = some (eStr (rcW ls (rcAt ls (0, false) t))[j + 2]) := by rw [List.getElem?_eq_getElem hj3]; rfl
      have hq := hwl _ (List.getElem_mem hj3)
      have e6 : (((rcW ls (rcAt ls (0, false) t)).map numB).drop 2).take (j + 1) = (((rcW ls (rcAt ls (0, false) t)).map numB).drop 2).take j ++ [numB (rcW ls (rcAt ls (0, false) t))[j + 2]] := by
        rw [take_succ' (by simp; omega)]
        simp -implicitDefEqProofs [Nat.add_comm]
      rw [ej, e5]
      refine ⟨by omega, fun _ _ => ⟨⟨by simp -implicitDefEqProofs [eStr], by simp -implicitDefEqProofs [eStr]⟩, fun _ _ => ⟨by simpa [eStr] using hq, by omega, by omega, fun _ _ => ⟨j + 1, ⟨by omega, ?_, ?_⟩, ⟨hlt, hm, by omega, hR⟩, by omega⟩⟩⟩⟩
      · rw [e6]; simp -implicitDefEqProofs [eInts, eInt, eStr]
      · rw [e6]; simp -implicitDefEqProofs [eInts, eInt, eStr]
    · have hj3 : j + 2 = (rcW ls (rcAt ls (0, false) t)).length := by omega
      have e6 : (((rcW ls (rcAt ls (0, false) t)).map numB).drop 2).take j = ((rcW ls (rcAt ls (0, false) t)).map numB).drop 2 := List.take_of_length_le (by simp; omega)
      refine ⟨ls, (rdLine ls (rcAt ls (0, false) t).2).2.1, (rdLine ls (rcAt ls (0, false) t).2).2.2, ⟨rfl, rfl, rfl⟩, ⟨⟨g1, hrd⟩, g2⟩, by rw [hln]; omega, t + 1, ⟨⟨?_, rfl, rfl, rfl⟩, ?_⟩, ⟨by omega, hs2.symm⟩, by omega⟩
      · rw [← hrs, e6]; simp -implicitDefEqProofs [rcStep, eCommits, eCommit, List.getD_eq_getElem?_getD]
      · rw [← hrs, e6]; simp -implicitDefEqProofs [rcStep, eCommits, eCommit, List.getD_eq_getElem?_getD]
  · have hCt := hC16 (by omega)
    have hCb : (rrC s).2.1 ≤ 1048577 := by rw [hCt]; exact hbd
    refine ⟨⟨0, ⟨⟨⟨by rw [hCt], rfl⟩, rfl, by rw [hCt]; rfl, by rw [hCt]; rfl⟩, by rw [hCt], rfl⟩, by omega, rfl⟩, fun h hh hH => ?_⟩
    have hbh := rhAt_bd g1 hCb h
    have hlh := rhAt_len (ls := ls) (a := (rrC s).2) h
    have hF5 : h = 5 → rdHd ls 5 [] (rrC s).2 = some (rhAt ls (rrC s).2 h) := fun e => by rw [← hH, e]; rfl
    have hst : h < 5 → _ := fun q => rh_step (ls := ls) (a := (rrC s).2) (i := h) q
    rw [hH] at hst
    have hs1 : rhStep ls (rhAt ls (rrC s).2 h) = rhAt ls (rrC s).2 (h + 1) := rfl
    refine ⟨ls, (rhAt ls (rrC s).2 h).2.1, (rhAt ls (rrC s).2 h).2.2, ⟨rfl, rfl, rfl⟩, ⟨g1, hbh⟩, fun hm2 hl2 => ⟨fun h5 => ?_, fun h5 => ?_⟩, fun hm2 => ?_⟩
    · obtain ⟨_, s2, s3⟩ := hst (by omega)
      have hlen := rdLine_len (ls := ls) (a := (rhAt ls (rrC s).2 h).2) g2
      have hwl : ∀ q ∈ rhW ls (rhAt ls (rrC s).2 h), q.length ≤ 1073741824 := fun q hq => by have := cutB_le q hq; omega
      refine ⟨ls, (rhAt ls (rrC s).2 h).2.1, (rhAt ls (rrC s).2 h).2.2, ⟨rfl, rfl, rfl⟩, ⟨g1, hbh⟩, (rdLine ls (rhAt ls (rrC s).2 h).2).1, 32, 3, ⟨rfl, rfl, rfl⟩, by omega, ?_⟩
      have hW : cutB (rdLine ls (rhAt ls (rrC s).2 h).2).1 32 3 = rhW ls (rhAt ls (rrC s).2 h) := rfl
      rw [hW]
      refine fun _ => ⟨fun hne => ?_, fun he3 => ?_⟩
      · rw [e0 (s2 hm2 fun q => hne (by omega))]; exact ⟨⟨⟨rfl, rfl⟩, rfl⟩, rfl, rfl⟩
      · have he3' : (rhW ls (rhAt ls (rrC s).2 h)).length = 3 := by omega
        have s3 := s3 hm2 he3'
        obtain ⟨x, y, z, hX⟩ : ∃ x y z, rhW ls (rhAt ls (rrC s).2 h) = [x, y, z] := by
          match hq : rhW ls (rhAt ls (rrC s).2 h), he3' with
          | [x, y, z], _ => exact ⟨x, y, z, rfl⟩
        have hz := hwl z (by rw [hX]; simp)
        have hst : rhStep ls (rhAt ls (rrC s).2 h) = ((rhAt ls (rrC s).2 h).1 ++ [⟨y, numB z⟩], (rdLine ls (rhAt ls (rrC s).2 h).2).2) := by unfold rhStep; rw [hX]; rfl
        rw [hX]
        simp -implicitDefEqProofs [eStr, -Bool.exists_bool]
        refine ⟨hz, by rw [hlh]; omega, h + 1, ?_, ⟨by omega, s3.symm⟩, by omega⟩
        rw [← hs1, hst]
        exact ⟨⟨by simp -implicitDefEqProofs [eHeads, eHead], rfl, rfl⟩, by simp -implicitDefEqProofs [eHeads, eHead]⟩
    · have hF := hF5 (by omega)
      generalize rhAt ls (rrC s).2 h = X at hF hbh ⊢
      (
        have no : ¬ (X.2.2 = false ∧ X.2.1 + 1 = ls.length ∧ repoI ⟨(rrC s).1, X.1⟩ = true ∧ repoT ⟨(rrC s).1, X.1⟩ = s) → repoReadS repoI s = (⟨[], []⟩, false) := fun q => by rw [e1 X hF, if_neg q]
        have yes : (X.2.2 = false ∧ X.2.1 + 1 = ls.length ∧ repoI ⟨(rrC s).1, X.1⟩ = true ∧ repoT ⟨(rrC s).1, X.1⟩ = s) → repoReadS repoI s = (⟨(rrC s).1, X.1⟩, true) := fun q => by rw [e1 X hF, if_pos q]
        refine ⟨fun hb => ?_, fun hb => ⟨by omega, fun _ _ => ⟨fun hne => ?_, fun he => ⟨by rw [hCt, hln]; omega, ?_⟩⟩⟩⟩
        · rw [no fun q => by rw [q.1] at hb; cases hb]; exact ⟨⟨⟨rfl, rfl⟩, rfl⟩, rfl, rfl⟩
        · rw [no fun q => hne (by have := q.2.1; omega)]; exact ⟨⟨⟨rfl, rfl⟩, rfl⟩, rfl, rfl⟩
        · rw [← repo_eq]
          refine ⟨fun h2 => ?_, fun h2 => ⟨okR_I h2, fun h3 => ?_, fun h3 => ?_⟩⟩
          · rw [no fun q => by rw [q.2.2.1] at h2; cases h2]; exact ⟨⟨⟨rfl, rfl⟩, rfl⟩, rfl, rfl⟩
          · rw [no fun q => h3 q.2.2.2]; exact ⟨⟨⟨rfl, rfl⟩, rfl⟩, rfl, rfl⟩
          · rw [yes ⟨hb, by omega, h2, h3⟩]; exact ⟨⟨⟨rfl, rfl⟩, rfl⟩, rfl, rfl⟩
      )
    · have hF : rdHd ls 5 [] (rrC s).2 = some (rhAt ls (rrC s).2 h) := by
        by_cases h5 : h = 5
        · exact hF5 h5
        · exact (hst (by omega)).1 hm2
      generalize rhAt ls (rrC s).2 h = X at hF hbh ⊢
      (
        have no : ¬ (X.2.2 = false ∧ X.2.1 + 1 = ls.length ∧ repoI ⟨(rrC s).1, X.1⟩ = true ∧ repoT ⟨(rrC s).1, X.1⟩ = s) → repoReadS repoI s = (⟨[], []⟩, false) := fun q => by rw [e1 X hF, if_neg q]
        have yes : (X.2.2 = false ∧ X.2.1 + 1 = ls.length ∧ repoI ⟨(rrC s).1, X.1⟩ = true ∧ repoT ⟨(rrC s).1, X.1⟩ = s) → repoReadS repoI s = (⟨(rrC s).1, X.1⟩, true) := fun q => by rw [e1 X hF, if_pos q]
        refine ⟨fun hb => ?_, fun hb => ⟨by omega, fun _ _ => ⟨fun hne => ?_, fun he => ⟨by rw [hCt, hln]; omega, ?_⟩⟩⟩⟩
        · rw [no fun q => by rw [q.1] at hb; cases hb]; exact ⟨⟨⟨rfl, rfl⟩, rfl⟩, rfl, rfl⟩
        · rw [no fun q => hne (by have := q.2.1; omega)]; exact ⟨⟨⟨rfl, rfl⟩, rfl⟩, rfl, rfl⟩
        · rw [← repo_eq]
          refine ⟨fun h2 => ?_, fun h2 => ⟨okR_I h2, fun h3 => ?_, fun h3 => ?_⟩⟩
          · rw [no fun q => by rw [q.2.2.1] at h2; cases h2]; exact ⟨⟨⟨rfl, rfl⟩, rfl⟩, rfl, rfl⟩
          · rw [no fun q => h3 q.2.2.2]; exact ⟨⟨⟨rfl, rfl⟩, rfl⟩, rfl, rfl⟩
          · rw [yes ⟨hb, by omega, h2, h3⟩]; exact ⟨⟨⟨rfl, rfl⟩, rfl⟩, rfl, rfl⟩
      )
  · have hCt : rrC s = rcAt ls (0, false) t := by
      by_cases h16 : t = 16
      · exact hC16 h16
      · rw [← hR]; exact (rc_step (by omega)).1 hm
    have hCb : (rrC s).2.1 ≤ 1048577 := by rw [hCt]; exact hbd
    refine ⟨⟨0, ⟨⟨⟨by rw [hCt], rfl⟩, rfl, by rw [hCt]; rfl, by rw [hCt]; rfl⟩, by rw [hCt], rfl⟩, by omega, rfl⟩, fun h hh hH => ?_⟩
    have hbh := rhAt_bd g1 hCb h
    have hlh := rhAt_len (ls := ls) (a := (rrC s).2) h
    have hF5 : h = 5 → rdHd ls 5 [] (rrC s).2 = some (rhAt ls (rrC s).2 h) := fun e => by rw [← hH, e]; rfl
    have hst : h < 5 → _ := fun q => rh_step (ls := ls) (a := (rrC s).2) (i := h) q
    rw [hH] at hst
    have hs1 : rhStep ls (rhAt ls (rrC s).2 h) = rhAt ls (rrC s).2 (h + 1) := rfl
    refine ⟨ls, (rhAt ls (rrC s).2 h).2.1, (rhAt ls (rrC s).2 h).2.2, ⟨rfl, rfl, rfl⟩, ⟨g1, hbh⟩, fun hm2 hl2 => ⟨fun h5 => ?_, fun h5 => ?_⟩, fun hm2 => ?_⟩
    · obtain ⟨_, s2, s3⟩ := hst (by omega)
      have hlen := rdLine_len (ls := ls) (a := (rhAt ls (rrC s).2 h).2) g2
      have hwl : ∀ q ∈ rhW ls (rhAt ls (rrC s).2 h), q.length ≤ 1073741824 := fun q hq => by have := cutB_le q hq; omega
      refine ⟨ls, (rhAt ls (rrC s).2 h).2.1, (rhAt ls (rrC s).2 h).2.2, ⟨rfl, rfl, rfl⟩, ⟨g1, hbh⟩, (rdLine ls (rhAt ls (rrC s).2 h).2).1, 32, 3, ⟨rfl, rfl, rfl⟩, by omega, ?_⟩
      have hW : cutB (rdLine ls (rhAt ls (rrC s).2 h).2).1 32 3 = rhW ls (rhAt ls (rrC s).2 h) := rfl
      rw [hW]
      refine fun _ => ⟨fun hne => ?_, fun he3 => ?_⟩
      · rw [e0 (s2 hm2 fun q => hne (by omega))]; exact ⟨⟨⟨rfl, rfl⟩, rfl⟩, rfl, rfl⟩
      · have he3' : (rhW ls (rhAt ls (rrC s).2 h)).length = 3 := by omega
        have s3 := s3 hm2 he3'
        obtain ⟨x, y, z, hX⟩ : ∃ x y z, rhW ls (rhAt ls (rrC s).2 h) = [x, y, z] := by
          match hq : rhW ls (rhAt ls (rrC s).2 h), he3' with
          | [x, y, z], _ => exact ⟨x, y, z, rfl⟩
        have hz := hwl z (by rw [hX]; simp)
        have hst : rhStep ls (rhAt ls (rrC s).2 h) = ((rhAt ls (rrC s).2 h).1 ++ [⟨y, numB z⟩], (rdLine ls (rhAt ls (rrC s).2 h).2).2) := by unfold rhStep; rw [hX]; rfl
        rw [hX]
        simp -implicitDefEqProofs [eStr, -Bool.exists_bool]
        refine ⟨hz, by rw [hlh]; omega, h + 1, ?_, ⟨by omega, s3.symm⟩, by omega⟩
        rw [← hs1, hst]
        exact ⟨⟨by simp -implicitDefEqProofs [eHeads, eHead], rfl, rfl⟩, by simp -implicitDefEqProofs [eHeads, eHead]⟩
    · have hF := hF5 (by omega)
      generalize rhAt ls (rrC s).2 h = X at hF hbh ⊢
      (
        have no : ¬ (X.2.2 = false ∧ X.2.1 + 1 = ls.length ∧ repoI ⟨(rrC s).1, X.1⟩ = true ∧ repoT ⟨(rrC s).1, X.1⟩ = s) → repoReadS repoI s = (⟨[], []⟩, false) := fun q => by rw [e1 X hF, if_neg q]
        have yes : (X.2.2 = false ∧ X.2.1 + 1 = ls.length ∧ repoI ⟨(rrC s).1, X.1⟩ = true ∧ repoT ⟨(rrC s).1, X.1⟩ = s) → repoReadS repoI s = (⟨(rrC s).1, X.1⟩, true) := fun q => by rw [e1 X hF, if_pos q]
        refine ⟨fun hb => ?_, fun hb => ⟨by omega, fun _ _ => ⟨fun hne => ?_, fun he => ⟨by rw [hCt, hln]; omega, ?_⟩⟩⟩⟩
        · rw [no fun q => by rw [q.1] at hb; cases hb]; exact ⟨⟨⟨rfl, rfl⟩, rfl⟩, rfl, rfl⟩
        · rw [no fun q => hne (by have := q.2.1; omega)]; exact ⟨⟨⟨rfl, rfl⟩, rfl⟩, rfl, rfl⟩
        · rw [← repo_eq]
          refine ⟨fun h2 => ?_, fun h2 => ⟨okR_I h2, fun h3 => ?_, fun h3 => ?_⟩⟩
          · rw [no fun q => by rw [q.2.2.1] at h2; cases h2]; exact ⟨⟨⟨rfl, rfl⟩, rfl⟩, rfl, rfl⟩
          · rw [no fun q => h3 q.2.2.2]; exact ⟨⟨⟨rfl, rfl⟩, rfl⟩, rfl, rfl⟩
          · rw [yes ⟨hb, by omega, h2, h3⟩]; exact ⟨⟨⟨rfl, rfl⟩, rfl⟩, rfl, rfl⟩
      )
    · have hF : rdHd ls 5 [] (rrC s).2 = some (rhAt ls (rrC s).2 h) := by
        by_cases h5 : h = 5
        · exact hF5 h5
        · exact (hst (by omega)).1 hm2
      generalize rhAt ls (rrC s).2 h = X at hF hbh ⊢
      (
        have no : ¬ (X.2.2 = false ∧ X.2.1 + 1 = ls.length ∧ repoI ⟨(rrC s).1, X.1⟩ = true ∧ repoT ⟨(rrC s).1, X.1⟩ = s) → repoReadS repoI s = (⟨[], []⟩, false) := fun q => by rw [e1 X hF, if_neg q]
        have yes : (X.2.2 = false ∧ X.2.1 + 1 = ls.length ∧ repoI ⟨(rrC s).1, X.1⟩ = true ∧ repoT ⟨(rrC s).1, X.1⟩ = s) → repoReadS repoI s = (⟨(rrC s).1, X.1⟩, true) := fun q => by rw [e1 X hF, if_pos q]
        refine ⟨fun hb => ?_, fun hb => ⟨by omega, fun _ _ => ⟨fun hne => ?_, fun he => ⟨by rw [hCt, hln]; omega, ?_⟩⟩⟩⟩
        · rw [no fun q => by rw [q.1] at hb; cases hb]; exact ⟨⟨⟨rfl, rfl⟩, rfl⟩, rfl, rfl⟩
        · rw [no fun q => hne (by have := q.2.1; omega)]; exact ⟨⟨⟨rfl, rfl⟩, rfl⟩, rfl, rfl⟩
        · rw [← repo_eq]
          refine ⟨fun h2 => ?_, fun h2 => ⟨okR_I h2, fun h3 => ?_, fun h3 => ?_⟩⟩
          · rw [no fun q => by rw [q.2.2.1] at h2; cases h2]; exact ⟨⟨⟨rfl, rfl⟩, rfl⟩, rfl, rfl⟩
          · rw [no fun q => h3 q.2.2.2]; exact ⟨⟨⟨rfl, rfl⟩, rfl⟩, rfl, rfl⟩
          · rw [yes ⟨hb, by omega, h2, h3⟩]; exact ⟨⟨⟨rfl, rfl⟩, rfl⟩, rfl, rfl⟩
      )

end Vx
end Go.Proofs.YthmhaggmcfemnaaGreatDoor
