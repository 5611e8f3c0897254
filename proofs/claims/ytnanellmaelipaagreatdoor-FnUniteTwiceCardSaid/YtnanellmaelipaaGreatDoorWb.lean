/-
  Joined by program (merge.py): Mg, Mc, Me, Ml, Mh, Dh, Di, Kc, Mi, Mj, Mm, Mn, Td, Na, Da, Dc, Dg, Id, Vw, Oa, Ta, Fa, Fb, Fc, Hg, Nb, Se, Nc, Qa, Sr, Shs, Qb, Gt, Qc, Sb, Sa, Sc, Sd. It shows what the single texts show; conditions: none but those of each lemma.
-/
import Derived.Test.YtnanellmaelipaaGreatDoorWa
import Derived.Lib.Walk
import Derived.Lib.SliceRun
import Derived.Lib.JoinLaws
import Derived.Lib.AppendZeros
import Derived.Lib.AppendZerosOnto
import Derived.Lib.Overlaps
import Derived.Laws.Externs
import Derived.Laws.IdiomCopy
import Derived.Laws.NewBlocks
import Derived.Shelf.RegionOpenPlain
import Derived.Shelf.Sort.Plain
import Derived.Shelf.Slices.In.SortNone
import Derived.Shelf.Slices.CompactS
import Derived.Test.YtnanellmaelipaaGreatDoorProg
set_option linter.unusedVariables false
set_option linter.unusedSimpArgs false
set_option linter.unusedSectionVars false
namespace Go.Proofs.YtnanellmaelipaaGreatDoor
set_option maxHeartbeats 4000000
namespace Vx
open Go.RowKit
set_option maxRecDepth 8000
def cL5Put : Con := .fn 48 (List Str × Str) (fun a => [.sl true 1 (eStrs a.1), .str a.2]) (fun a => a.1.length ≤ 1073741824) (fun a => .sl false 1 (eStrs (putS a.1 a.2))) (fun _ => [])
theorem l5Put_has : Has Tryz.prog 174 cL5Put := by
  refine has_walk mixed tTab_ok (l := []) HasL.nil [0, 1, 4, 5, 6] ((fun a n (_ : Nat) => (fun a _ => ⟨Nat, fun k => ⟨[(0, true, .sl true 1 (eStrs a.1)), (1, true, .str a.2), (4, true, .nil), (5, true, .int .i64 k)], []⟩, fun k => k ≤ a.1.length ∧ a.1.take k ++ putS (a.1.drop k) a.2 = putS a.1 a.2, fun k => a.1.length - k⟩) a n)) [] Tryz.func174 (by kernel_rfl) (code := _) (by unfold Tryz.f174; rfl) (by kernel_rfl) (by decide) (fun _ => ⟨(), trivial⟩) (by intro h; first | exact fun _ => rfl | cases h) (by kernel_rfl) ?_
  intro a ha
  obtain ⟨l, s⟩ := a
  replace ha : l.length ≤ 1073741824 := ha
  simp -implicitDefEqProofs [cL5Put, Con.fn, tTab]
  try dsimp only
  have f : ∀ (t : List Str), ∀ x ∈ eStrs t, ∀ d ∈ x, match d with | .sl _ _ _ => False | _ => True := fun t => (eStrs_flat t).mpr trivial
  have f1 : ∀ t, ∀ x ∈ List.take t (eStrs l), ∀ d ∈ x, match d with | .sl _ _ _ => False | _ => True := fun t => by rw [eStrs_take]; exact f _
  have f2 : ∀ t, ∀ x ∈ List.take (l.length - t) (List.drop t (eStrs l)), ∀ d ∈ x, match d with | .sl _ _ _ => False | _ => True := fun t => by rw [eStrs_drop, eStrs_take]; exact f _
  have fin : ∀ t, putS l s = l.take t ++ [s] ++ l.drop t → eStrs (putS l s) = List.take t (eStrs l) ++ [D.str s] :: List.take (l.length - t) (List.drop t (eStrs l)) := fun t h => by
    rw [h, eStrs_drop, eStrs_take, eStrs_take, List.take_of_length_le (show (l.drop t).length ≤ l.length - t by simp)]
    simp -implicitDefEqProofs [eStrs, eStr]
  refine fun t ht hp _ => ⟨fun hlt => ⟨hlt, fun _ => ?_⟩, fun hge _ => ⟨fun hlt => absurd hlt (by omega), fun _ => ⟨ht, fun _ => ⟨f1 t, ⟨by omega, by omega⟩, ⟨by omega, by omega⟩, ht, fun _ => ⟨f2 t, ⟨by omega, by omega⟩, fin t (putS_end hge hp)⟩⟩⟩⟩⟩
  have qq : Option.map eStr l[t]? = some (eStr l[t]) := by simp -implicitDefEqProofs [hlt]
  rw [qq]
  have g1 := putS_step hlt hp
  have g2 := putS_eq hlt hp
  have g3 := putS_ne hlt hp
  generalize l[t] = y at *
  simp -implicitDefEqProofs [eStr, D.asStr]
  refine ⟨fun h => ⟨⟨by omega, by omega⟩, fun _ _ => ⟨t + 1, by omega, ⟨by omega, g1 h⟩, by omega⟩⟩, fun h _ => ⟨fun _ => ⟨hlt, fun _ => ⟨fun e => g2 h e, fun e => ⟨ht, fun _ => ⟨f1 t, ⟨by omega, by omega⟩, ⟨by omega, by omega⟩, ht, fun _ => ⟨f2 t, ⟨by omega, by omega⟩, fin t (g3 h e)⟩⟩⟩⟩⟩, fun hge => absurd hlt (by omega)⟩⟩
def l6pI1 (o a b : List FileD) : Inv := ⟨Nat, fun i => ⟨[(0, true, .sl true 2 (eFiles o)), (1, true, .sl true 2 (eFiles a)), (2, true, .sl true 2 (eFiles b)), (6, true, .nil), (7, true, .sl false 1 (eStrs (putFs [] (o.take i)))), (8, true, .int .i64 i)], []⟩, fun i => i ≤ o.length, fun i => o.length - i⟩
def l6pI2 (o a b : List FileD) : Inv := ⟨Nat, fun i => ⟨[(0, true, .sl true 2 (eFiles o)), (1, true, .sl true 2 (eFiles a)), (2, true, .sl true 2 (eFiles b)), (6, true, .nil), (7, true, .sl false 1 (eStrs (putFs (putFs [] o) (a.take i)))), (9, true, .int .i64 i)], []⟩, fun i => i ≤ a.length, fun i => a.length - i⟩
def l6pI3 (o a b : List FileD) : Inv := ⟨Nat, fun i => ⟨[(0, true, .sl true 2 (eFiles o)), (1, true, .sl true 2 (eFiles a)), (2, true, .sl true 2 (eFiles b)), (6, true, .nil), (7, true, .sl false 1 (eStrs (putFs (putFs (putFs [] o) a) (b.take i)))), (10, true, .int .i64 i)], []⟩, fun i => i ≤ b.length, fun i => b.length - i⟩
def l6pInv (o a b : List FileD) (n : Nat) : Inv := if n = 3 then l6pI1 o a b else if n = 7 then l6pI2 o a b else l6pI3 o a b
theorem l6pInv_3 (o a b : List FileD) : l6pInv o a b 3 = l6pI1 o a b := rfl
theorem l6pInv_7 (o a b : List FileD) : l6pInv o a b 7 = l6pI2 o a b := rfl
theorem l6pInv_11 (o a b : List FileD) : l6pInv o a b 11 = l6pI3 o a b := rfl
def cL6Paths : Con := .fn 52 (List FileD × List FileD × List FileD) (fun a => [.sl true 2 (eFiles a.1), .sl true 2 (eFiles a.2.1), .sl true 2 (eFiles a.2.2)]) (fun a => a.1.length ≤ 1048576 ∧ a.2.1.length ≤ 1048576 ∧ a.2.2.length ≤ 1048576) (fun a => .sl false 1 (eStrs (paths6 a.1 a.2.1 a.2.2))) (fun _ => [])
theorem l6Paths_has : Has Tryz.prog 159 cL6Paths := by
  refine has_walk mixed tTab_ok (l := [(174, cL5Put)]) (HasL.cons l5Put_has HasL.nil) [0, 1, 2, 6, 7, 8, 9, 10] ((fun a n (_ : Nat) => (fun a n => l6pInv a.1 a.2.1 a.2.2 n) a n)) [] Tryz.func159 (by kernel_rfl) (code := _) (by unfold Tryz.f159; rfl) (by kernel_rfl) (by decide) (fun _ => ⟨(), trivial⟩) (by intro h; first | exact fun _ => rfl | cases h) (by kernel_rfl) ?_
  intro a ha
  obtain ⟨o, a, b⟩ := a
  obtain ⟨h1, h2, h3⟩ : o.length ≤ 1048576 ∧ a.length ≤ 1048576 ∧ b.length ≤ 1048576 := ha
  simp -implicitDefEqProofs [cL6Paths, cL5Put, Con.fn, tTab, l6pInv_3, l6pInv_7, l6pInv_11, l6pI1, l6pI2, l6pI3]
  try dsimp only
  have b1 := putFs_len o []
  have b2 := putFs_len a (putFs [] o)
  simp only [List.length_nil] at b1
  have z : ([] : List Str).length = 0 := rfl
  refine ⟨⟨0, ⟨rfl, rfl⟩, Nat.zero_le _⟩, fun t ht _ => ⟨fun hlt => ⟨hlt, fun _ => ?_⟩, fun hge => ⟨⟨0, ⟨by rw [List.take_of_length_le hge]; rfl, rfl⟩, Nat.zero_le _⟩, fun u hu _ => ⟨fun hlt => ⟨hlt, fun _ => ?_⟩, fun hge => ⟨⟨0, ⟨by rw [List.take_of_length_le hge]; rfl, rfl⟩, Nat.zero_le _⟩, fun v hv _ => ⟨fun hlt => ⟨hlt, fun _ => ?_⟩, fun hge => by rw [List.take_of_length_le hge]; rfl⟩⟩⟩⟩⟩⟩
  · have hb := putFs_len (o.take t) ([])
    have hl : (o.take t).length ≤ o.length := by simp; omega
    have qq : Option.map eFile o[t]? = some (eFile o[t]) := by simp -implicitDefEqProofs [hlt]
    have hs := putFs_succ (l := []) hlt
    rw [qq]
    simp -implicitDefEqProofs [eFile, D.asStr]
    exact ⟨_, _, ⟨rfl, rfl⟩, by omega, ⟨by omega, by omega⟩, fun _ _ => ⟨t + 1, ⟨hs, by omega⟩, by omega, by omega⟩⟩
  · have hb := putFs_len (a.take u) (putFs [] o)
    have hl : (a.take u).length ≤ a.length := by simp; omega
    have qq : Option.map eFile a[u]? = some (eFile a[u]) := by simp -implicitDefEqProofs [hlt]
    have hs := putFs_succ (l := putFs [] o) hlt
    rw [qq]
    simp -implicitDefEqProofs [eFile, D.asStr]
    exact ⟨_, _, ⟨rfl, rfl⟩, by omega, ⟨by omega, by omega⟩, fun _ _ => ⟨u + 1, ⟨hs, by omega⟩, by omega, by omega⟩⟩
  · have hb := putFs_len (b.take v) (putFs (putFs [] o) a)
    have hl : (b.take v).length ≤ b.length := by simp; omega
    have qq : Option.map eFile b[v]? = some (eFile b[v]) := by simp -implicitDefEqProofs [hlt]
    have hs := putFs_succ (l := putFs (putFs [] o) a) hlt
    rw [qq]
    simp -implicitDefEqProofs [eFile, D.asStr]
    exact ⟨_, _, ⟨rfl, rfl⟩, by omega, ⟨by omega, by omega⟩, fun _ _ => ⟨v + 1, ⟨hs, by omega⟩, by omega, by omega⟩⟩
abbrev ownClash (h : Nat) (a : List HeadD) : List (Nat × Blk) := [(h, .own 211 2 true (eHeads a))]
def l6oI (o a b : List FileD) : Inv := ⟨Nat, fun i => ⟨[(0, true, .sl true 2 (eFiles o)), (1, true, .sl true 2 (eFiles a)), (2, true, .sl true 2 (eFiles b)), (6, true, .nil), (7, true, .nil), (8, true, .own 9 2 (eFiles (runJ o a b ((paths6 o a b).take i)).1)), (9, true, .own 10 2 (eHeads (runJ o a b ((paths6 o a b).take i)).2)), (10, true, .sl false 1 (eStrs (paths6 o a b))), (11, true, .int .i64 i)], [(9, .own 61 2 true (eFiles (runJ o a b ((paths6 o a b).take i)).1)), (10, .own 211 2 true (eHeads (runJ o a b ((paths6 o a b).take i)).2))]⟩, fun i => i ≤ (paths6 o a b).length, fun i => (paths6 o a b).length - i⟩
def szT (t : List FileD) : Prop := t.length ≤ 100000 ∧ ∀ f ∈ t, f.text.length ≤ 64
def cL6Of : Con := .fn 64 (List FileD × List FileD × List FileD) (fun a => [.sl true 2 (eFiles a.1), .sl true 2 (eFiles a.2.1), .sl true 2 (eFiles a.2.2)]) (fun a => szT a.1 ∧ szT a.2.1 ∧ szT a.2.2) (fun a => .tup [.own 8 2 (eFiles (of6 a.1 a.2.1 a.2.2).1), .own 9 2 (eHeads (of6 a.1 a.2.1 a.2.2).2)]) (fun a => ownFiles 8 (of6 a.1 a.2.1 a.2.2).1 ++ ownClash 9 (of6 a.1 a.2.1 a.2.2).2)
theorem l6Of_has : Has Tryz.prog 210 cL6Of := by
  refine has_walk mixed tTab_ok (l := [(159, cL6Paths), (239, cL6One)]) (HasL.cons l6Paths_has (HasL.cons l6One_has HasL.nil)) [0, 1, 2, 6, 7, 8, 9, 10, 11, 12, 13, 14] ((fun a n (_ : Nat) => (fun a _ => l6oI a.1 a.2.1 a.2.2) a n)) [60] Tryz.func210 (by kernel_rfl) (code := _) (by unfold Tryz.f210; rfl) (by kernel_rfl) (by decide) (fun _ => ⟨(), trivial⟩) (by intro h; first | exact fun _ => rfl | cases h) (by kernel_rfl) ?_
  intro a ha
  obtain ⟨o, a, b⟩ := a
  obtain ⟨⟨h1, h1'⟩, ⟨h2, h2'⟩, h3, h3'⟩ : szT o ∧ szT a ∧ szT b := ha
  simp -implicitDefEqProofs [cL6Of, cL6Paths, cL6One, Con.fn, tTab, l6oI]
  try dsimp only
  have hp := paths6_len o a b
  refine ⟨o, a, b, ⟨rfl, rfl, rfl⟩, ⟨by omega, by omega, by omega⟩, ⟨0, ⟨⟨rfl, rfl, rfl, rfl⟩, rfl, rfl⟩, Nat.zero_le _⟩, fun t ht _ => ⟨fun hlt => ⟨hlt, fun _ => ?_⟩, fun hge => ?_⟩⟩
  · have qq : Option.map eStr (paths6 o a b)[t]? = some (eStr (paths6 o a b)[t]) := by simp -implicitDefEqProofs [hlt]
    have hs := runJ_succ (o := o) (a := a) (b := b) hlt
    have hb := runJ_len o a b ((paths6 o a b).take t)
    have hl : ((paths6 o a b).take t).length ≤ (paths6 o a b).length := by simp; omega
    have ho := one6_len (p := (paths6 o a b)[t]) (show 10 ≤ 64 by omega) h1' h2' h3'
    rw [qq]
    generalize runJ o a b ((paths6 o a b).take t) = R at *
    generalize (paths6 o a b)[t] = y at *
    obtain ⟨X, Y⟩ := R
    simp only at hb
    simp -implicitDefEqProofs [eStr, D.asStr]
    refine ⟨o, a, b, y, ⟨rfl, rfl, rfl, rfl⟩, ⟨h1', h2', h3'⟩, ?_⟩
    generalize hone : one6 o a b y = O at *
    obtain ⟨x1, x2, x3⟩ := O
    have f : ∀ (t : List Str), ∀ x ∈ eStrs t, ∀ d ∈ x, match d with | .sl _ _ _ => False | _ => True := fun t => (eStrs_flat t).mpr trivial
    have st : runJ o a b ((paths6 o a b).take (t + 1)) = (if x2 = true then X ++ [⟨y, x1⟩] else X, if 0 < x3 then Y ++ [⟨y, x3⟩] else Y) := by rw [hs]; unfold stepJ; rw [hone]
    have snF : eFiles X ++ [[D.str y, D.sl 9 1 (eStrs x1)]] = eFiles (X ++ [⟨y, x1⟩]) := eFiles_snoc _ _ _
    have snH : eHeads Y ++ [[D.str y, D.int .i64 x3]] = eHeads (Y ++ [⟨y, x3⟩]) := eHeads_snoc _ _ _
    dsimp only at ho ⊢
    rw [snF, snH]
    refine ⟨fun h3 => ⟨hlt, fun _ => ⟨⟨by omega, by omega⟩, fun h2 => ⟨hlt, fun _ => ⟨f x1, ⟨by omega, by omega⟩, ⟨by omega, by omega⟩, ⟨by omega, by omega⟩, fun _ _ => ⟨t + 1, ?_⟩⟩⟩, fun h2 => ⟨⟨by omega, by omega⟩, fun _ _ => ⟨t + 1, ?_⟩⟩⟩⟩, fun h3 => ⟨fun h2 => ⟨hlt, fun _ => ⟨f x1, ⟨by omega, by omega⟩, ⟨by omega, by omega⟩, ⟨by omega, by omega⟩, fun _ _ => ⟨t + 1, ?_⟩⟩⟩, fun h2 => ⟨⟨by omega, by omega⟩, fun _ _ => ⟨t + 1, ?_⟩⟩⟩⟩
    · rw [st, if_pos h2, if_pos h3]; exact ⟨⟨⟨rfl, rfl, by omega⟩, rfl, rfl⟩, by omega, by omega⟩
    · rw [st, if_neg (by simp -implicitDefEqProofs [h2]), if_pos h3]; exact ⟨⟨⟨rfl, rfl, by omega⟩, rfl, rfl⟩, by omega, by omega⟩
    · rw [st, if_pos h2, if_neg (by omega)]; exact ⟨⟨⟨rfl, rfl, by omega⟩, rfl, rfl⟩, by omega, by omega⟩
    · rw [st, if_neg (by simp -implicitDefEqProofs [h2]), if_neg (by omega)]; exact ⟨⟨⟨rfl, rfl, by omega⟩, rfl, rfl⟩, by omega, by omega⟩
  · have e : (paths6 o a b).take t = paths6 o a b := List.take_of_length_le hge
    rw [e]; exact ⟨⟨rfl, rfl⟩, rfl, rfl⟩
def cL6Join : Con := .fn 31 (List FileD × List FileD × List FileD) (fun a => [.sl true 2 (eFiles a.1), .sl true 2 (eFiles a.2.1), .sl true 2 (eFiles a.2.2)]) (fun a => szT a.1 ∧ szT a.2.1 ∧ szT a.2.2) (fun a => .tup [.sl false 2 (eFiles (join6 a.1 a.2.1 a.2.2).1), .sl false 2 (eHeads (join6 a.1 a.2.1 a.2.2).2)]) (fun _ => [])
theorem l6Join_has : Has Tryz.prog 180 cL6Join := by
  refine has_walk mixed tTab_ok (l := [(210, cL6Of), (110, cL4Ok), (209, cL4Copy)]) (HasL.cons l6Of_has (HasL.cons l4Ok_has (HasL.cons l4Copy_has HasL.nil))) [0, 1, 2, 6, 7, 8, 9] ((fun a n (_ : Nat) => (fun _ => noInv) a n)) [] Tryz.func180 (by kernel_rfl) (code := _) (by unfold Tryz.f180; rfl) (by kernel_rfl) (by decide) (fun _ => ⟨(), trivial⟩) (by intro h; first | exact fun _ => rfl | cases h) (by kernel_rfl) ?_
  intro a ha
  obtain ⟨o, a, b⟩ := a
  obtain ⟨h1, h2, h3⟩ : szT o ∧ szT a ∧ szT b := ha
  simp -implicitDefEqProofs [cL6Join, cL6Of, cL4Ok, cL4Copy, Con.fn, tTab]
  try dsimp only
  have e1 : (of6 o a b).2 = [] → treeS (of6 o a b).1 = false → join6 o a b = (o, [⟨[], 4⟩]) := fun h h' => by unfold join6; rw [if_pos ⟨h, h'⟩]
  have e2 : (of6 o a b).2 = [] → treeS (of6 o a b).1 = true → join6 o a b = of6 o a b := fun h h' => by unfold join6; rw [if_neg (by simp -implicitDefEqProofs [h'])]
  have e3 : ¬ (of6 o a b).2 = [] → join6 o a b = of6 o a b := fun h => by unfold join6; rw [if_neg (by simp -implicitDefEqProofs [h])]
  refine ⟨o, a, b, ⟨rfl, rfl, rfl⟩, ⟨h1, h2, h3⟩, fun _ => ⟨fun h => ⟨fun h' => ⟨⟨by have := h1.1; omega, fun f hf => by have := h1.2 f hf; omega⟩, ?_⟩, fun h' => ?_⟩, fun h => ?_⟩⟩
  · rw [e1 h h']; exact ⟨rfl, rfl⟩
  · rw [e2 h h']; exact ⟨rfl, rfl⟩
  · rw [e3 h]; exact ⟨rfl, rfl⟩
end Vx
end Go.Proofs.YtnanellmaelipaaGreatDoor
namespace Go.Proofs.YtnanellmaelipaaGreatDoor
namespace Vx
open Go.RowKit
set_option maxRecDepth 8000
structure OpD where
  kind : Int
  branch : Str
  who : Str
  path : Str
  to_ : Str
  at_ : Int
  text : List Str
  deriving DecidableEq, Inhabited
def eOp (a : OpD) : List D := [.int .i64 a.kind, .str a.branch, .str a.who, .str a.path, .str a.to_, .int .i64 a.at_, .sl 9 1 (eStrs a.text)]
@[simp] theorem eOp_inj (a b : OpD) : (eOp a = eOp b) = (a = b) := by
  cases a; cases b; simp -implicitDefEqProofs [eOp]
@[simp] theorem OpD.eta (a : OpD) : (⟨a.kind, a.branch, a.who, a.path, a.to_, a.at_, a.text⟩ : OpD) = a := rfl
theorem OpD.eq_iff (a b : OpD) : (a = b) = (a.kind = b.kind ∧ a.branch = b.branch ∧ a.who = b.who ∧ a.path = b.path ∧ a.to_ = b.to_ ∧ a.at_ = b.at_ ∧ a.text = b.text) := by
  cases a; cases b; simp
@[simp] theorem OpD.ex1 (x_kind : Int) (x_branch : Str) (x_who : Str) (x_path : Str) (x_to_ : Str) (x_at_ : Int) (x_text : List Str) (Q : OpD → Prop) : (∃ a : OpD, a.kind = x_kind ∧ a.branch = x_branch ∧ a.who = x_who ∧ a.path = x_path ∧ a.to_ = x_to_ ∧ a.at_ = x_at_ ∧ a.text = x_text ∧ Q a) = Q ⟨x_kind, x_branch, x_who, x_path, x_to_, x_at_, x_text⟩ := by
  apply propext
  constructor
  · rintro ⟨⟨_, _, _, _, _, _, _⟩, rfl, rfl, rfl, rfl, rfl, rfl, rfl, h⟩; exact h
  · intro h; exact ⟨⟨x_kind, x_branch, x_who, x_path, x_to_, x_at_, x_text⟩, rfl, rfl, rfl, rfl, rfl, rfl, rfl, h⟩
@[simp] theorem OpD.ex2 (x_kind : Int) (x_branch : Str) (x_who : Str) (x_path : Str) (x_to_ : Str) (x_at_ : Int) (x_text : List Str) (Q : OpD → Prop) : (∃ a : OpD, (a.kind = x_kind ∧ a.branch = x_branch ∧ a.who = x_who ∧ a.path = x_path ∧ a.to_ = x_to_ ∧ a.at_ = x_at_ ∧ a.text = x_text) ∧ Q a) = Q ⟨x_kind, x_branch, x_who, x_path, x_to_, x_at_, x_text⟩ := by
  apply propext
  constructor
  · rintro ⟨⟨_, _, _, _, _, _, _⟩, ⟨rfl, rfl, rfl, rfl, rfl, rfl, rfl⟩, h⟩; exact h
  · intro h; exact ⟨⟨x_kind, x_branch, x_who, x_path, x_to_, x_at_, x_text⟩, ⟨rfl, rfl, rfl, rfl, rfl, rfl, rfl⟩, h⟩
@[simp] theorem OpD.ex0 (x_kind : Int) (x_branch : Str) (x_who : Str) (x_path : Str) (x_to_ : Str) (x_at_ : Int) (x_text : List Str) : (∃ a : OpD, a.kind = x_kind ∧ a.branch = x_branch ∧ a.who = x_who ∧ a.path = x_path ∧ a.to_ = x_to_ ∧ a.at_ = x_at_ ∧ a.text = x_text) = True := by
  simp only [eq_iff_iff, iff_true]
  exact ⟨⟨x_kind, x_branch, x_who, x_path, x_to_, x_at_, x_text⟩, rfl, rfl, rfl, rfl, rfl, rfl, rfl⟩
def eOps (l : List OpD) : List (List D) := l.map eOp
@[simp] theorem eOps_length (l : List OpD) : (eOps l).length = l.length := by simp -implicitDefEqProofs [eOps]
@[simp] theorem eOps_nil : eOps [] = [] := rfl
@[simp] theorem eOps_get (l : List OpD) (i : Nat) : (eOps l)[i]? = l[i]?.map eOp := by simp -implicitDefEqProofs [eOps]
@[simp] theorem eOps_getElem (l : List OpD) (i : Nat) (h : i < (eOps l).length) : (eOps l)[i] = eOp (l[i]'(by simpa using h)) := by simp -implicitDefEqProofs [eOps]
@[simp] theorem eOps_inj (a b : List OpD) : (eOps a = eOps b) = (a = b) := by
  apply propext
  constructor
  · intro h
    exact List.map_inj_right (fun x y h => by simpa using h) |>.1 h
  · rintro rfl; rfl
@[simp] theorem eOps_eq_nil (a : List OpD) : (eOps a = []) = (a = []) := by simp -implicitDefEqProofs [eOps]
@[simp] theorem nil_eq_eOps (a : List OpD) : ([] = eOps a) = (a = []) := by simp -implicitDefEqProofs [eOps, eq_comm]
theorem eOps_snoc (a : List OpD) (k : Int) (b w p t : Str) (i : Int) (x : List Str) : eOps a ++ [[.int .i64 k, .str b, .str w, .str p, .str t, .int .i64 i, .sl 9 1 (eStrs x)]] = eOps (a ++ [⟨k, b, w, p, t, i, x⟩]) := by simp -implicitDefEqProofs [eOps, eOp]
abbrev vOp (o : OpD) : AV := .agg [.int .i64 o.kind, .str o.branch, .str o.who, .str o.path, .str o.to_, .int .i64 o.at_, .sl true 1 (eStrs o.text)]
def bOp (o : OpD) : Blk := .box 219 [.int .i64 o.kind, .str o.branch, .str o.who, .str o.path, .str o.to_, .int .i64 o.at_, .sl true 1 (eStrs o.text)]
def opBare (o : OpD) (p t a x : Bool) : Bool := (p || decide (o.path = [])) && (t || decide (o.to_ = [])) && (a || decide (o.at_ = 0)) && (x || decide (o.text = []))
def barB (s : Str) : Bool := s.all fun b => decide (b ≠ 124)
def lines19 (t : List Str) : Bool := t.all barB && textB t
def opB (o : OpD) : Bool := (nameB o.branch && nameB o.who) &&
  (if o.kind = 1 then opBare o true false false true && pathS o.path && lines19 o.text
  else if o.kind = 2 then opBare o true false false false && pathS o.path
  else if o.kind = 3 then opBare o true true false false && pathS o.path && pathS o.to_
  else if o.kind = 4 ∨ o.kind = 5 then opBare o false true false false && nameB o.to_
  else if o.kind = 6 ∨ o.kind = 7 then opBare o false false true false && (decide (0 ≤ o.at_) && decide (o.at_ ≤ 15))
  else false)
def tree19 (r : RepoD) (o : OpD) (x : List FileD × Bool) : RepoD × Int := if x.2 then (if (repoCommitS r o.branch o.who x.1).2 then ((repoCommitS r o.branch o.who x.1).1, 0) else (r, 5)) else (r, 1)
def treeOf (r : RepoD) (n : Str) : List FileD := if 0 ≤ atL r.heads n then treeAt r (atL r.heads n) else []
def do19 (r : RepoD) (o : OpD) : RepoD × Int :=
  if o.kind = 1 then tree19 r o (treeSetS (treeOf r o.branch) ⟨o.path, o.text⟩)
  else if o.kind = 2 then tree19 r o (treeDropS (treeOf r o.branch) o.path)
  else if o.kind = 3 then tree19 r o (treeMoveS (treeOf r o.branch) o.path o.to_)
  else if o.kind = 4 then (if (repoBranchS r o.to_ (atL r.heads o.branch)).2 then ((repoBranchS r o.to_ (atL r.heads o.branch)).1, 0) else (r, 1))
  else if o.kind = 5 then uniteS r o.branch o.who (atL r.heads o.to_)
  else if o.kind = 6 then pickS false r o.branch o.who o.at_
  else pickS true r o.branch o.who o.at_
def playF (l : List OpD) : RepoD := l.foldl (fun r o => if opB o then (do19 r o).1 else r) noR
theorem playF_succ {l : List OpD} {i : Nat} (h : i < l.length) : playF (l.take (i + 1)) = if opB l[i] then (do19 (playF (l.take i)) l[i]).1 else playF (l.take i) := by
  unfold playF
  rw [take_succ' h, List.foldl_append]; rfl
def playS (l : List OpD) : RepoD := playF (l.take 30)
def plR (r : RepoD) : Prop := repoS r = true ∧ (r.commits ≠ [] → r.heads ≠ [])
theorem plR_no : plR noR := ⟨rfl, fun h => absurd rfl h⟩
theorem repoCommitS_ok {r : RepoD} {n w : Str} {t : List FileD} (h : (repoCommitS r n w t).2 = true) : plR (repoCommitS r n w t).1 := by
  unfold repoCommitS at h ⊢
  split
  · rename_i h1
    rw [if_pos h1] at h
    split
    · rename_i h2; exact ⟨h2, fun _ => hSet_ne _ _ _⟩
    · rename_i h2; rw [if_neg h2] at h; cases h
  · rename_i h1; rw [if_neg h1] at h; cases h
theorem repoBranchS_ok {r : RepoD} {n : Str} {a : Int} (h : (repoBranchS r n a).2 = true) : plR (repoBranchS r n a).1 := by
  unfold repoBranchS at h ⊢
  split
  · rename_i h1
    rw [if_pos h1] at h
    split
    · rename_i h2; rw [if_pos h2] at h; cases h
    · rename_i h2
      have : repoS ⟨r.commits, hSet r.heads n a⟩ = true := by
        cases q : repoS ⟨r.commits, hSet r.heads n a⟩ with
        | true => rfl
        | false => exact absurd (.inr q) h2
      exact ⟨this, fun _ => hSet_ne _ _ _⟩
  · rename_i h1; rw [if_neg h1] at h; cases h
theorem tree19_ok {r : RepoD} {o : OpD} {x : List FileD × Bool} (h : plR r) : plR (tree19 r o x).1 := by
  unfold tree19
  split
  · split
    · rename_i q; exact repoCommitS_ok q
    · exact h
  · exact h
theorem do19_ok {r : RepoD} {o : OpD} (h : plR r) : plR (do19 r o).1 := by
  unfold do19
  repeat' split
  · exact tree19_ok h
  · exact tree19_ok h
  · exact tree19_ok h
  · rename_i q; exact repoBranchS_ok q
  · exact h
  · exact uniteS_ok h.1 h.2
  · exact pickS_ok h.1 h.2
  · exact pickS_ok h.1 h.2
theorem playF_ok (l : List OpD) : plR (playF l) := by
  have : ∀ (l : List OpD) (r : RepoD), plR r → plR (l.foldl (fun r o => if opB o then (do19 r o).1 else r) r) := by
    intro l
    induction l with
    | nil => intro r h; exact h
    | cons o l ih =>
      intro r h
      refine ih _ ?_
      show plR (if opB o = true then _ else _)
      split
      · exact do19_ok h
      · exact h
  exact this l noR plR_no
end Vx
end Go.Proofs.YtnanellmaelipaaGreatDoor
namespace Go.Proofs.YtnanellmaelipaaGreatDoor
set_option maxHeartbeats 4000000
namespace Vx
open Go.RowKit
set_option maxRecDepth 8000
def cL19Bare : Con := .fn 42 (OpD × Bool × Bool × Bool × Bool) (fun a => [vOp a.1, .bool a.2.1, .bool a.2.2.1, .bool a.2.2.2.1, .bool a.2.2.2.2]) (fun a => a.1.text.length ≤ 1048576) (fun a => .bool (opBare a.1 a.2.1 a.2.2.1 a.2.2.2.1 a.2.2.2.2)) (fun _ => [])
theorem l19Bare_has : Has Tryz.prog 245 cL19Bare := by
  refine has_walk mixed tTab_ok (l := []) HasL.nil [0, 1, 2, 3, 4, 5, 10] ((fun a n (_ : Nat) => (fun _ => noInv) a n)) [] Tryz.func245 (by kernel_rfl) (code := _) (by unfold Tryz.f245; rfl) (by kernel_rfl) (by decide) (fun _ => ⟨(), trivial⟩) (by intro h; first | exact fun _ => rfl | cases h) (by kernel_rfl) ?_
  intro a ha
  obtain ⟨o, p, t, a, x⟩ := a
  replace ha : o.text.length ≤ 1048576 := ha
  simp (maxSteps := 8000000) -implicitDefEqProofs [-kStep_move, -Bool.exists_bool, cL19Bare, Con.fn, tTab]
  unfold opBare
  by_cases h1 : o.path = [] <;> by_cases h2 : o.to_ = [] <;> by_cases h3 : o.at_ = 0 <;> by_cases h4 : o.text = [] <;> simp -implicitDefEqProofs [h1, h2, h3, h4] <;> cases p <;> cases t <;> cases a <;> cases x <;> simp -implicitDefEqProofs <;> omega
def l19O (t : List Str) : Inv := ⟨Nat, fun i => ⟨[(0, true, .sl true 1 (eStrs t)), (2, true, .bool false), (3, true, .int .i64 i)], []⟩, fun i => i ≤ t.length ∧ (t.take i).all barB = true, fun i => t.length - i⟩
def l19I (t : List Str) (g : Nat) : Inv := ⟨Nat, fun k => ⟨[(0, true, .sl true 1 (eStrs t)), (2, true, .bool false), (3, true, .int .i64 g), (4, true, .int .i64 k)], []⟩, fun k => g < t.length ∧ (t.take g).all barB = true ∧ k ≤ (t.getD g []).length ∧ ((t.getD g []).take k).all (fun b => decide (b ≠ 124)) = true, fun k => (t.getD g []).length - k⟩
def l19Inv (t : List Str) (n g : Nat) : Inv := if n = 2 then l19O t else l19I t g
theorem l19Inv_2 (t g) : l19Inv t 2 g = l19O t := rfl
theorem l19Inv_5 (t g) : l19Inv t 5 g = l19I t g := rfl
def cL19Lines : Con := .fn 29 (List Str) (fun t => [.sl true 1 (eStrs t)]) (fun _ => True) (fun t => .bool (lines19 t)) (fun _ => [])
theorem l19Lines_has : Has Tryz.prog 246 cL19Lines := by
  refine has_walk mixed tTab_ok (l := [(165, cL1Ok)]) (HasL.cons l1Ok_has HasL.nil) [0, 2, 3, 4] (fun t => l19Inv t) [] Tryz.func246 (by kernel_rfl) (code := _) (by unfold Tryz.f246; rfl) (by kernel_rfl) (by decide) (fun _ => ⟨(), trivial⟩) (by intro h; first | exact fun _ => rfl | cases h) (by kernel_rfl) ?_
  intro (t : List Str) _
  simp -implicitDefEqProofs [cL19Lines, cL1Ok, Con.fn, tTab, l19Inv_2, l19Inv_5, l19O, l19I]
  try dsimp only
  have e0 : ∀ i (h : i < t.length), ¬ barB t[i] = true → lines19 t = false := fun i h hb => by
    unfold lines19
    rw [Bool.and_eq_false_iff]; left
    rw [List.all_eq_false]
    exact ⟨_, List.getElem_mem h, hb⟩
  refine fun i hi hp _ => ⟨fun hlt => ⟨i, ⟨0, ⟨rfl, rfl⟩, hlt, hp, Nat.zero_le _, by simp⟩, fun k _ _ hk hq => ?_⟩, fun hge => ?_⟩
  · have e1 := e0 i hlt
    have e2 : t[i]?.getD [] = t[i] := by simp -implicitDefEqProofs [hlt]
    have qq : Option.map eStr t[i]? = some (eStr t[i]) := by simp -implicitDefEqProofs [hlt]
    have e3 : (t.take (i + 1)).all barB = ((t.take i).all barB && barB t[i]) := all_take hlt
    rw [e2] at hk hq ⊢
    rw [qq]
    generalize t[i] = s at *
    simp -implicitDefEqProofs [eStr, D.asStr]
    have hex : ∀ h : k < List.length s, s[k]?.getD 0 = s[k] := fun h => by simp -implicitDefEqProofs [h]
    refine ⟨hlt, fun _ _ => ⟨fun hl => ⟨hlt, fun _ => ⟨hl, fun _ => ?_⟩⟩, fun hg => ⟨⟨by omega, by omega⟩, fun _ _ => ⟨i + 1, by omega, ⟨by omega, ?_⟩, by omega⟩⟩⟩⟩
    · rw [hex hl]
      have hb := List.getElem_mem hl
      refine ⟨fun hc => e1 (fun hb2 => ?_), fun hc => ⟨⟨by omega, by omega⟩, fun _ _ => ⟨k + 1, by omega, ⟨hlt, ‹∀ x ∈ List.take i t, barB x = true›, by omega, fun x hx => ?_⟩, by omega⟩⟩⟩
      · unfold barB at hb2
        have := List.all_eq_true.1 hb2 _ hb
        simp only [ne_eq, decide_not, Bool.not_eq_true', decide_eq_false_iff_not] at this
        exact this (UInt8.toNat_inj.1 (by simp; omega))
      · rw [take_succ' hl] at hx
        rcases List.mem_append.1 hx with hx | hx
        · exact hq x hx
        · simp only [List.mem_singleton] at hx
          subst hx
          intro e; rw [e] at hc; exact hc rfl
    · have hs : barB s = true := by
        unfold barB
        rw [List.all_eq_true]
        intro x hx
        have := hq x (by rw [List.take_of_length_le hg]; exact hx)
        simp -implicitDefEqProofs [this]
      rw [hs, Bool.and_true] at e3
      have hp' : (List.take i t).all barB = true := List.all_eq_true.2 ‹∀ x ∈ List.take i t, barB x = true›
      rw [hp'] at e3
      exact List.all_eq_true.1 e3
  · have e : t.take i = t := List.take_of_length_le hge
    rw [e] at hp
    unfold lines19
    rw [List.all_eq_true.2 hp, Bool.true_and]
def cL19Ok : Con := .fn 72 OpD (fun o => [vOp o]) (fun o => o.text.length ≤ 1048576) (fun o => .bool (opB o)) (fun _ => [])
theorem l19Ok_has : Has Tryz.prog 218 cL19Ok := by
  refine has_walk mixed tTab_ok (l := [(95, cL4Name), (245, cL19Bare), (164, cL4Path), (246, cL19Lines), (84, cL1In)]) (HasL.cons l4Name_has (HasL.cons l19Bare_has (HasL.cons l4Path_has (HasL.cons l19Lines_has (HasL.cons l1In_has HasL.nil))))) [0, 1, 2, 14, 52, 62] ((fun a n (_ : Nat) => (fun _ => noInv) a n)) [] Tryz.func218 (by kernel_rfl) (code := _) (by unfold Tryz.f218; rfl) (by kernel_rfl) (by decide) (fun _ => ⟨(), trivial⟩) (by intro h; first | exact fun _ => rfl | cases h) (by kernel_rfl) ?_
  intro (o : OpD) (ha : o.text.length ≤ 1048576)
  simp (maxSteps := 8000000) -implicitDefEqProofs [-kStep_move, -Bool.exists_bool, cL19Ok, cL4Name, cL19Bare, cL4Path, cL19Lines, cL1In, Con.fn, tTab, bOp]
  try dsimp only
  simp -implicitDefEqProofs only [and_assoc, exists_eq_left, exists_and_left, OpD.ex1, OpD.eta]
  have hk : o.kind = 1 ∨ o.kind = 2 ∨ o.kind = 3 ∨ o.kind = 4 ∨ o.kind = 5 ∨ o.kind = 6 ∨ o.kind = 7 ∨ (¬ o.kind = 1 ∧ ¬ o.kind = 2 ∧ ¬ o.kind = 3 ∧ ¬ o.kind = 4 ∧ ¬ o.kind = 5 ∧ ¬ o.kind = 6 ∧ ¬ o.kind = 7) := by omega
  unfold opB
  generalize nameB o.branch = b1
  generalize nameB o.who = b2
  generalize pathS o.path = b3
  generalize pathS o.to_ = b4
  generalize nameB o.to_ = b5
  generalize lines19 o.text = b6
  rcases hk with h | h | h | h | h | h | h | h <;> simp -implicitDefEqProofs [h, ha]
  all_goals grind
end Vx
end Go.Proofs.YtnanellmaelipaaGreatDoor
namespace Go.Proofs.YtnanellmaelipaaGreatDoor
set_option maxHeartbeats 4000000
namespace Vx
open Go.RowKit
set_option maxRecDepth 8000
--TAB tTabB
def cL8AllV : Con := .fn 66 (RepoD × Int) (fun a => [vRepo a.1, .int .i64 a.2]) (fun a => repoI a.1 = true ∧ 0 ≤ a.2 ∧ a.2 < a.1.commits.length) (fun a => .sl false 1 (eInts (listT (anc a.1 a.2)))) (fun _ => [])
theorem l8AllV_has : Has Tryz.prog 87 cL8AllV := by
  refine has_walk mixed tTabB_ok (l := []) HasL.nil [0, 1, 2, 4, 5, 6, 7, 8, 9] (fun a => alInv a.1 a.2) [] Tryz.func87 (by kernel_rfl) (code := _) (by unfold Tryz.f87; rfl) (by kernel_rfl) (by decide) (fun _ => ⟨(), trivial⟩) (by intro h; first | exact fun _ => rfl | cases h) (by kernel_rfl) ?_
  intro a ha
  obtain ⟨r, n⟩ := a
  obtain ⟨h1, h2, h3⟩ : repoI r = true ∧ 0 ≤ n ∧ n < r.commits.length := ha
  have h4 := repo_n h1
  simp -implicitDefEqProofs [cL8AllV, Con.fn, tTabB, tTab, alInv_4, alInv_7, alInv_12, alO, alI, alT, bRepo_def]
  try dsimp only
  simp only [and_assoc, exists_eq_left, exists_and_left, RepoD.ex1, RepoD.eta]
  have hal := anc_len r n
  refine fun _ => ⟨by omega, fun _ => ⟨h2, h3, fun _ _ => ⟨by omega, ⟨(List.replicate r.commits.length false).set n.toNat true, by rw [eBools_rep]; exact (eBools_set _ _ _).symm, by rw [eBools_rep]; exact eBools_set _ _ _, by simp, by omega, h3, rfl⟩, fun l b g1 g2 g3 g4 => ⟨fun hb => ⟨b.toNat, ?_⟩, fun hb => ?_⟩⟩⟩⟩
  · have hb1 : b.toNat < l.length := by omega
    have hb2 : b.toNat < r.commits.length := by omega
    obtain ⟨p1, p2, _⟩ := repo_use h1 hb2
    have hgd : r.commits.getD b.toNat default = r.commits[b.toNat] := by simp -implicitDefEqProofs [List.getD_eq_getElem?_getD, hb2]
    have hgo : r.commits[b.toNat]?.getD default = r.commits[b.toNat] := by simp -implicitDefEqProofs [hb2]
    rw [show (b + 1).toNat = b.toNat + 1 by omega] at g4
    have g5 : ancF r b.toNat (stepA r l b.toNat) = anc r n := g4
    unfold stepA at g5
    rw [hgd] at g5
    have e3 : Option.map eCommit r.commits[b.toNat]? = some (eCommit r.commits[b.toNat]) := by simp -implicitDefEqProofs [hb2]
    rw [hgo, e3]
    generalize r.commits[b.toNat] = c at *
    refine ⟨by omega, trivial, g1, hb2, Nat.zero_le _, fun h => ?_, fun h => ?_, fun m k m1 m2 m3 m4 m5 => ⟨hb2, fun _ => ?_⟩⟩
    · rw [if_pos h] at g5; exact g5
    · rw [if_neg (by rw [h]; simp)] at g5; exact g5
    · have hbm : b.toNat < m.length := by omega
      have hT : isT m b.toNat = m[b.toNat] := by simp -implicitDefEqProofs [isT, List.getD_eq_getElem?_getD, hbm]
      have e4 : Option.map eBool m[b.toNat]? = some (eBool m[b.toNat]) := by simp -implicitDefEqProofs [hbm]
      have hmx : max b 0 = b := Int.max_eq_left hb
      simp -implicitDefEqProofs [eCommit, D.asRows, e4, eBool, hbm, hb2, hmx]
      refine fun _ => ⟨fun hl2 => ⟨fun hm => ⟨hl2, fun _ => ?_⟩, fun hm => ⟨by omega, by omega, fun _ _ => ⟨m1, by omega, by omega, m5 (hT.trans hm), by omega⟩⟩⟩, fun hge => ⟨by omega, by omega, fun _ _ => ⟨m1, by omega, by omega, ?_, by omega⟩⟩⟩
      · have hp := p2 c.parents[k] (List.getElem_mem hl2)
        have qt : Option.map eInt c.parents[k]? = some (eInt c.parents[k]) := by simp -implicitDefEqProofs [List.getElem?_eq_getElem hl2]
        simp -implicitDefEqProofs [qt, eInt, D.asInt]
        have hst : isT (m.set c.parents[k].toNat true) b.toNat = true := by rw [isT_set_ne _ (by omega)]; exact hT.trans hm
        refine ⟨hp.1, by omega, fun _ _ => ⟨by omega, by omega, by omega, fun _ _ => ⟨m.set c.parents[k].toNat true, (eBools_set _ _ _).symm, k + 1, by omega, eBools_set _ _ _, by simp -implicitDefEqProofs [m1], by omega, fun _ => ?_, fun h => ?_, by omega⟩⟩⟩
        · have := m4 (hT.trans hm)
          rw [List.drop_eq_getElem_cons hl2] at this
          exact this
        · rw [hst] at h; cases h
      · cases hm : m[b.toNat] with
        | true =>
          have := m4 (hT.trans hm)
          rw [List.drop_eq_nil_of_le hge] at this
          exact this
        | false => exact m5 (hT.trans hm)
  · rw [show (b + 1).toNat = 0 by omega] at g4
    have g5 : l = anc r n := g4
    refine ⟨g5.symm, ⟨0, rfl, rfl, g5, rfl, Nat.zero_le _⟩, fun i hi _ => ⟨fun hlt => ?_, fun hge => ?_⟩⟩
    · have hl := listF_len (anc r n) i
      have hi : isT (anc r n) i = (anc r n)[i] := by simp -implicitDefEqProofs [isT, List.getD_eq_getElem?_getD, hlt]
      rw [hal] at hlt
      simp -implicitDefEqProofs [hal, hlt, eBool, D.asBool, and_assoc]
      refine ⟨fun h => ?_, fun h => ?_⟩
      · have e := listF_hit (hi.trans h)
        exact ⟨by omega, by omega, by omega, by omega, fun _ _ => ⟨i + 1, by rw [e]; simp -implicitDefEqProofs [eInts, eInt], by omega, by rw [e]; simp -implicitDefEqProofs [eInts, eInt], by omega, by omega⟩⟩
      · have e := listF_miss (hi.trans h)
        exact ⟨by omega, by omega, fun _ _ => ⟨i + 1, e, by omega, e.symm, by omega, by omega⟩⟩
    · rw [hal] at hge
      have : i = r.commits.length := by omega
      subst this
      unfold listT
      rw [hal]
def l8bA (r : RepoD) (a b : Int) : Inv := ⟨Nat, fun i => ⟨[(3, true, .ptr 10 0), (6, true, .nil), (7, true, .sl false 1 (eInts (listT (anc r a)))), (8, true, .sl false 1 (eInts (listT (anc r b)))), (9, true, .own 9 1 (eInts (both8 r a b i))), (10, true, .int .i64 i)], [(10, bRepo r), (9, .own 3 1 true (eInts (both8 r a b i)))]⟩, fun i => i ≤ (listT (anc r a)).length, fun i => (listT (anc r a)).length - i⟩
def l8bB (r : RepoD) (L : List Int) : Inv := ⟨Nat, fun i => ⟨[(3, true, .ptr 10 0), (6, true, .nil), (9, true, .own 9 1 (eInts L)), (11, true, .own 11 1 (eInts (baseF r L i))), (12, true, .int .i64 i)], [(10, bRepo r), (9, .own 3 1 true (eInts L)), (11, .own 3 1 true (eInts (baseF r L i)))]⟩, fun i => i ≤ L.length, fun i => L.length - i⟩
def l8bC (r : RepoD) (L : List Int) (g : Nat) : Inv := ⟨Nat, fun k => ⟨[(3, true, .ptr 10 0), (6, true, .nil), (9, true, .own 9 1 (eInts L)), (11, true, .own 11 1 (eInts (baseF r L g))), (12, true, .int .i64 g), (13, true, .bool (bestF r L g k)), (14, true, .int .i64 k)], [(10, bRepo r), (9, .own 3 1 true (eInts L)), (11, .own 3 1 true (eInts (baseF r L g)))]⟩, fun k => k ≤ L.length ∧ g < L.length, fun k => L.length - k⟩
def l8bInv (r : RepoD) (a b : Int) (n g : Nat) : Inv := if n = 5 then l8bA r a b else if n = 11 then l8bB r (both8 r a b (listT (anc r a)).length) else l8bC r (both8 r a b (listT (anc r a)).length) g
theorem l8bInv_5 (r a b g) : l8bInv r a b 5 g = l8bA r a b := rfl
theorem l8bInv_11 (r a b g) : l8bInv r a b 11 g = l8bB r (both8 r a b (listT (anc r a)).length) := rfl
theorem l8bInv_15 (r a b g) : l8bInv r a b 15 g = l8bC r (both8 r a b (listT (anc r a)).length) g := rfl
def cL8Bases : Con := .fn 83 (RepoD × Int × Int) (fun a => [vRepo a.1, .int .i64 a.2.1, .int .i64 a.2.2]) (fun a => repoI a.1 = true ∧ (0 ≤ a.2.1 ∧ a.2.1 < a.1.commits.length) ∧ 0 ≤ a.2.2 ∧ a.2.2 < a.1.commits.length) (fun a => .own 8 1 (eInts (bases8 a.1 a.2.1 a.2.2))) (fun a => ownInts 8 (bases8 a.1 a.2.1 a.2.2))
theorem l8Bases_has : Has Tryz.prog 211 cL8Bases := by
  refine has_walk mixed tTabB_ok (l := [(87, cL8AllV), (86, cL8Has)]) (HasL.cons l8AllV_has (HasL.cons l8Has_has HasL.nil)) [0, 1, 2, 3, 6, 7, 8, 9, 10, 11, 12, 13, 14] (fun a => l8bInv a.1 a.2.1 a.2.2) [] Tryz.func211 (by kernel_rfl) (code := _) (by unfold Tryz.f211; rfl) (by kernel_rfl) (by decide) (fun _ => ⟨(), trivial⟩) (by intro h; first | exact fun _ => rfl | cases h) (by kernel_rfl) ?_
  intro a ha
  obtain ⟨r, a, b⟩ := a
  obtain ⟨h1, ⟨h2, h3⟩, h4, h5⟩ : repoI r = true ∧ (0 ≤ a ∧ a < r.commits.length) ∧ 0 ≤ b ∧ b < r.commits.length := ha
  simp (maxSteps := 8000000) -implicitDefEqProofs [-kStep_move, -kStepC_move, -Bool.exists_bool, cL8Bases, cL8AllV, cL8Has, Con.fn, tTabB, tTab, l8bInv_5, l8bInv_11, l8bInv_15, l8bA, l8bB, l8bC, bRepo_def]
  try dsimp only
  have hal := anc_len r
  have h6 := repo_n h1
  have hmem : ∀ c, ∀ x ∈ listT (anc r c), 0 ≤ x ∧ x < r.commits.length := fun c x hx => by
    obtain ⟨i, q1, _, rfl⟩ := listT_mem.1 hx
    rw [hal] at q1
    omega
  have h16 : ∀ c, (listT (anc r c)).length ≤ 16 := fun c => by
    have := listF_len (anc r c) (anc r c).length
    rw [hal] at this
    unfold listT; rw [hal]; omega
  refine ⟨r, a, ⟨⟨rfl, rfl⟩, rfl⟩, ⟨h1, h2, h3⟩, r, b, ⟨⟨rfl, rfl⟩, rfl⟩, ⟨h1, h4, h5⟩, ?_⟩
  have hLm := hmem a
  have hL16 := h16 a
  have stepB : ∀ t (h : t < (listT (anc r a)).length), both8 r a b (t + 1) = if (listT (anc r a))[t] ∈ listT (anc r b) then both8 r a b t ++ [(listT (anc r a))[t]] else both8 r a b t := fun t h => by
    unfold both8
    rw [take_succ' h, List.filter_append]
    split
    · rename_i hq; rw [List.filter_cons_of_pos (by simpa using hq)]; simp
    · rename_i hq; rw [List.filter_cons_of_neg (by simpa using hq)]; simp
  have bothL : ∀ t, (both8 r a b t).length ≤ (listT (anc r a)).length := fun t => by
    unfold both8
    exact Nat.le_trans (List.length_filter_le _ _) (by simp; omega)
  have hBm : ∀ x ∈ both8 r a b (listT (anc r a)).length, 0 ≤ x ∧ x < r.commits.length := fun x hx => by
    unfold both8 at hx
    exact hLm x (List.mem_of_mem_take (List.mem_filter.1 hx).1)
  have hout : bases8 r a b = baseF r (both8 r a b (listT (anc r a)).length) (both8 r a b (listT (anc r a)).length).length := rfl
  have hb0 : both8 r a b 0 = [] := by unfold both8; simp
  generalize listT (anc r a) = L at *
  generalize hM : listT (anc r b) = M at *
  have hB16 := bothL L.length
  generalize hB : both8 r a b L.length = B at *
  have baseS : ∀ u (h : u < B.length), baseF r B (u + 1) = if bestF r B u B.length then baseF r B u ++ [B[u]] else baseF r B u := fun u h => by
    unfold baseF
    rw [List.range_succ, List.filter_append, List.map_append]
    split
    · rename_i hq; simp -implicitDefEqProofs [hq, List.getD_eq_getElem?_getD, h]
    · rename_i hq; simp -implicitDefEqProofs [hq]
  have baseL : ∀ u, (baseF r B u).length ≤ u := fun u => by
    unfold baseF
    rw [List.length_map]
    exact Nat.le_trans (List.length_filter_le _ _) (by simp)
  refine ⟨⟨0, ⟨⟨rfl, rfl, hb0, rfl⟩, hb0⟩, Nat.zero_le _⟩, fun t ht _ => ⟨fun hlt => ⟨hlt, fun _ => ?_⟩, fun hge => ?_⟩⟩
  · have qq : Option.map eInt L[t]? = some (eInt L[t]) := by simp -implicitDefEqProofs [hlt]
    have sB := stepB t hlt
    have bL := bothL t
    have sn : eInts (both8 r a b t) ++ [[D.int .i64 L[t]]] = eInts (both8 r a b t ++ [L[t]]) := eInts_snoc _ _
    rw [qq]
    generalize L[t] = y at *
    simp -implicitDefEqProofs [eInt, D.asInt]
    rw [sn]
    refine ⟨M, y, ⟨rfl, rfl⟩, fun h => ⟨hlt, fun _ => ⟨⟨by omega, by omega⟩, ⟨by omega, by omega⟩, fun _ _ => ⟨t + 1, by rw [sB, if_pos h]; exact ⟨⟨⟨rfl, by omega⟩, rfl⟩, by omega, by omega⟩⟩⟩⟩, fun h => ⟨⟨by omega, by omega⟩, fun _ _ => ⟨t + 1, by rw [sB, if_neg h]; exact ⟨⟨⟨rfl, by omega⟩, rfl⟩, by omega, by omega⟩⟩⟩⟩
  · have ht' : t = L.length := by omega
    subst ht'
    rw [hB]
    refine ⟨⟨0, ⟨⟨rfl, rfl, rfl⟩, rfl, rfl⟩, Nat.zero_le _⟩, fun u hu _ => ⟨fun hlu => ⟨u, ⟨0, ⟨⟨rfl, rfl, rfl, rfl⟩, rfl⟩, Nat.zero_le _, hlu⟩, fun k hk _ _ => ?_⟩, fun hgu => ?_⟩⟩
    · have q2 : Option.map eInt B[u]? = some (eInt B[u]) := by simp -implicitDefEqProofs [hlu]
      have sS := baseS u hlu
      have bL := baseL u
      have gu : B.getD u 0 = B[u] := by simp -implicitDefEqProofs [List.getD_eq_getElem?_getD, hlu]
      have sn : eInts (baseF r B u) ++ [[D.int .i64 B[u]]] = eInts (baseF r B u ++ [B[u]]) := eInts_snoc _ _
      refine ⟨fun hkl => ?_, fun hge => ?_⟩
      · have q1 : Option.map eInt B[k]? = some (eInt B[k]) := by simp -implicitDefEqProofs [hkl]
        have gk : B.getD k 0 = B[k] := by simp -implicitDefEqProofs [List.getD_eq_getElem?_getD, hkl]
        have sb : bestF r B u (k + 1) = (bestF r B u k && (decide ((k : Int) = (u : Int)) || !decide (B[u] ∈ listT (anc r B[k])))) := by
          have e : decide ((k : Int) = (u : Int)) = decide (k = u) := by rw [Bool.eq_iff_iff, decide_eq_true_eq, decide_eq_true_eq]; omega
          rw [e]
          unfold bestF
          rw [List.range_succ, List.all_append, gu]
          simp -implicitDefEqProofs [List.getD_eq_getElem?_getD, hkl]
        have hm := hBm B[k] (List.getElem_mem hkl)
        rw [q1, q2]
        generalize B[u] = y at *
        generalize B[k] = x at *
        simp -implicitDefEqProofs [eInt, D.asInt, hkl, hlu]
        refine ⟨fun a b => ⟨a, b⟩, fun _ => ⟨fun a b => ⟨a, b⟩, fun _ => ⟨r, x, ⟨⟨rfl, rfl⟩, rfl⟩, fun a b => ⟨⟨a, b⟩, h1, hm.1, hm.2⟩, fun a b => ⟨a, b⟩, fun _ => ⟨fun a b => ⟨a, b⟩, fun _ => ⟨_, y, ⟨rfl, rfl⟩, fun a => ⟨a, ?_⟩, fun _ => ⟨⟨by omega, by omega⟩, fun _ _ => ⟨k + 1, ⟨sb, by omega⟩, by omega, by omega⟩⟩⟩⟩⟩⟩⟩
        by_cases e : (k : Int) = u
        · exact .inl e
        · exact .inr ⟨a, e⟩
      · have : k = B.length := by omega
        subst this
        rw [q2]
        generalize B[u] = y at *
        simp -implicitDefEqProofs [eInt, D.asInt, hlu]
        rw [sn]
        exact ⟨fun h => ⟨⟨by omega, by omega⟩, ⟨by omega, by omega⟩, fun _ _ => ⟨u + 1, by rw [sS, if_pos h]; exact ⟨⟨⟨rfl, by omega⟩, rfl⟩, by omega, by omega⟩⟩⟩, fun h => ⟨⟨by omega, by omega⟩, fun _ _ => ⟨u + 1, by rw [sS, if_neg (by simp -implicitDefEqProofs [h])]; exact ⟨⟨⟨rfl, by omega⟩, rfl⟩, by omega, by omega⟩⟩⟩⟩
    · have : u = B.length := by omega
      subst this
      rw [← hout]
      exact ⟨rfl, rfl⟩
end Vx
end Go.Proofs.YtnanellmaelipaaGreatDoor
namespace Go.Proofs.YtnanellmaelipaaGreatDoor
set_option maxHeartbeats 4000000
namespace Vx
open Go.RowKit
set_option maxRecDepth 8000
--TAB tTabB
theorem repoS_tree {r : RepoD} (h : repoS r = true) (i : Nat) : treeS (r.commits.getD i default).tree = true := by
  rcases Nat.lt_or_ge i r.commits.length with hi | hi
  · have := ((repoS_iff r).1 h).1 i hi
    unfold okCS okS1 at this
    simp only [Bool.and_eq_true] at this
    exact this.2.2
  · have : r.commits.getD i default = default := by simp -implicitDefEqProofs [List.getD_eq_getElem?_getD, hi]
    rw [this]; rfl
theorem repoS_treeAt {r : RepoD} (h : repoS r = true) (c : Int) : treeS (treeAt r c) = true := repoS_tree h _
theorem repoS_sz {r : RepoD} (h : repoS r = true) : rpSz r := by
  obtain ⟨h1, h2, h3⟩ := (repoS_iff r).1 h
  refine ⟨by omega, fun c hc => ?_, by have := ((headsB_iff _ _).1 h2).1; omega⟩
  obtain ⟨i, hi, rfl⟩ := List.getElem_of_mem hc
  have h4 := h1 i hi
  have e : r.commits.getD i default = r.commits[i] := by simp -implicitDefEqProofs [List.getD_eq_getElem?_getD, hi]
  unfold okCS okS1 at h4
  rw [e] at h4
  simp only [Bool.and_eq_true, decide_eq_true_eq] at h4
  obtain ⟨t1, t2⟩ := treeS_le _ h4.2.2
  exact ⟨by omega, by omega, fun g hg => by have := t2 g hg; omega⟩
theorem cget {r : RepoD} {c : Int} (h0 : 0 ≤ c) (h1 : c < r.commits.length) : Option.map eCommit r.commits[c.toNat]? = some [D.sl 3 1 (eInts (r.commits.getD c.toNat default).parents), D.str (r.commits.getD c.toNat default).who, D.sl 61 2 (eFiles (treeAt r c))] := by
  have h : c.toNat < r.commits.length := by omega
  have e : r.commits.getD c.toNat default = r.commits[c.toNat] := by simp -implicitDefEqProofs [List.getD_eq_getElem?_getD, h]
  unfold treeAt
  rw [e]; simp -implicitDefEqProofs [h, eCommit]
theorem both8_mem {r : RepoD} {a b : Int} {i : Nat} : ∀ x ∈ both8 r a b i, 0 ≤ x ∧ x < r.commits.length := fun x hx => by
  unfold both8 at hx
  obtain ⟨j, q1, _, rfl⟩ := listT_mem.1 (List.mem_of_mem_take (List.mem_filter.1 hx).1)
  rw [anc_len] at q1
  omega
theorem bases8_mem {r : RepoD} {a b : Int} : ∀ x ∈ bases8 r a b, 0 ≤ x ∧ x < r.commits.length := fun x hx => by
  unfold bases8 baseF at hx
  obtain ⟨j, hj, rfl⟩ := List.mem_map.1 hx
  have hj := List.mem_range.1 (List.mem_filter.1 hj).1
  rw [List.getD_eq_getElem?_getD, List.getElem?_eq_getElem hj, Option.getD_some]
  exact both8_mem _ (List.getElem_mem hj)
theorem bases8_len {r : RepoD} (h : repoI r = true) {a b : Int} : (bases8 r a b).length ≤ 16 := by
  have h6 := repo_n h
  have h1 := listF_len (anc r a) (anc r a).length
  unfold bases8 baseF
  rw [List.length_map]
  refine Nat.le_trans (List.length_filter_le _ _) ?_
  rw [List.length_range]
  unfold both8
  refine Nat.le_trans (List.length_filter_le _ _) ?_
  rw [anc_len] at h1
  simp only [List.length_take, listT, anc_len]; omega
theorem base9_tree {r : RepoD} (h : repoS r = true) (a b : Int) : treeS (base9 r a b) = true := by
  unfold base9
  split
  · rfl
  · exact repoS_treeAt h _
theorem ahead10_tree {r : RepoD} (h : repoS r = true) (c : Int) : treeS (ahead10 r c) = true := by
  unfold ahead10
  split
  · rfl
  · exact repoS_treeAt h _
theorem treeS_szT {t : List FileD} (h : treeS t = true) : szT t := by
  obtain ⟨h1, h2⟩ := treeS_le t h
  exact ⟨by omega, h2⟩
def cL9Base : Con := .fn 26 (RepoD × Int × Int) (fun a => [vRepo a.1, .int .i64 a.2.1, .int .i64 a.2.2]) (fun a => repoS a.1 = true ∧ (0 ≤ a.2.1 ∧ a.2.1 < a.1.commits.length) ∧ 0 ≤ a.2.2 ∧ a.2.2 < a.1.commits.length) (fun a => .sl true 2 (eFiles (base9 a.1 a.2.1 a.2.2))) (fun _ => [])
theorem l9Base_has : Has Tryz.prog 181 cL9Base := by
  refine has_walk mixed tTabB_ok (l := [(211, cL8Bases)]) (HasL.cons l8Bases_has HasL.nil) [0, 1, 2, 3, 6, 7] ((fun a n (_ : Nat) => (fun _ => noInv) a n)) [] Tryz.func181 (by kernel_rfl) (code := _) (by unfold Tryz.f181; rfl) (by kernel_rfl) (by decide) (fun _ => ⟨(), trivial⟩) (by intro h; first | exact fun _ => rfl | cases h) (by kernel_rfl) ?_
  intro a ha
  obtain ⟨r, a, b⟩ := a
  obtain ⟨h1, ⟨h2, h3⟩, h4, h5⟩ : repoS r = true ∧ (0 ≤ a ∧ a < r.commits.length) ∧ 0 ≤ b ∧ b < r.commits.length := ha
  simp -implicitDefEqProofs [cL9Base, cL8Bases, Con.fn, tTabB, tTab, bRepo_def]
  try dsimp only
  simp -implicitDefEqProofs only [and_assoc, exists_eq_left, exists_and_left, RepoD.ex1, RepoD.eta]
  have hI : repoI r = true := by rw [repo_eq]; exact h1
  have hl := bases8_len hI (a := a) (b := b)
  have hmm := bases8_mem (r := r) (a := a) (b := b)
  have hb : base9 r a b = match (bases8 r a b).getLast? with | none => [] | some c => treeAt r c := rfl
  refine ⟨hI, h2, h3, h4, h5, fun _ => ⟨fun h => by rw [hb, h]; rfl, fun h => ?_⟩⟩
  rcases List.eq_nil_or_concat (bases8 r a b) with e | ⟨m, q, e⟩
  · exact absurd e h
  · rw [e] at hl hmm hb ⊢
    have hq := hmm q (by simp)
    have cg := cget hq.1 hq.2
    have hb : base9 r a b = treeAt r q := by rw [hb]; simp
    rw [hb]
    simp -implicitDefEqProofs [eInt, D.asInt, cg, D.asRows]
    simp at hl
    omega
def cL9Unite : Con := .fn 70 (RepoD × Str × Str × Int) (fun a => [vRepo a.1, .str a.2.1, .str a.2.2.1, .int .i64 a.2.2.2]) (fun a => repoS a.1 = true ∧ 0 ≤ atL a.1.heads a.2.1 ∧ 0 ≤ a.2.2.2 ∧ a.2.2.2 < a.1.commits.length) (fun a => .tup [.agg [.sl false 3 (eCommits (unite9 a.1 a.2.1 a.2.2.1 a.2.2.2).1.commits), .sl false 2 (eHeads (unite9 a.1 a.2.1 a.2.2.1 a.2.2.2).1.heads)], .int .i64 (unite9 a.1 a.2.1 a.2.2.1 a.2.2.2).2]) (fun _ => [])
theorem l9Unite_has : Has Tryz.prog 128 cL9Unite := by
  refine has_walk mixed tTabB_ok (l := [(124, cL7At), (87, cL8All), (86, cL8Has), (179, cL7Head), (181, cL9Base), (180, cL6Join), (182, cL7Add), (82, cL7Ok)]) (HasL.cons l7At_has (HasL.cons l8All_has (HasL.cons l8Has_has (HasL.cons l7Head_has (HasL.cons l9Base_has (HasL.cons l6Join_has (HasL.cons l7Add_has (HasL.cons l7Ok_has HasL.nil)))))))) [0, 1, 2, 3, 4, 8, 9, 10, 11, 12, 13] ((fun a n (_ : Nat) => (fun _ => noInv) a n)) [] Tryz.func128 (by kernel_rfl) (code := _) (by unfold Tryz.f128; rfl) (by kernel_rfl) (by decide) (fun _ => ⟨(), trivial⟩) (by intro h; first | exact fun _ => rfl | cases h) (by kernel_rfl) ?_
  intro a ha
  obtain ⟨r, n, w, b⟩ := a
  obtain ⟨h1, h2, h3, h4⟩ : repoS r = true ∧ 0 ≤ atL r.heads n ∧ 0 ≤ b ∧ b < r.commits.length := ha
  simp -implicitDefEqProofs [cL9Unite, cL7At, cL8All, cL8Has, cL7Head, cL9Base, cL6Join, cL7Add, cL7Ok, Con.fn, tTabB, tTab, bRepo_def]
  try dsimp only
  simp -implicitDefEqProofs only [and_assoc, exists_eq_left, exists_and_left, RepoD.ex1, RepoD.eta]
  have hI : repoI r = true := by rw [repo_eq]; exact h1
  obtain ⟨k1, k2, k3⟩ := repoS_sz h1
  have hat := atL_le (n := n) ((repoS_iff r).1 h1).2.1
  have ga := cget (r := r) (c := atL r.heads n) h2 (by omega)
  have gb := cget (r := r) h3 h4
  rw [ga, gb]
  simp -implicitDefEqProofs [D.asRows]
  have hlen : ∀ c, (addR r n c).commits.length ≤ 1073741824 := fun c => by simp -implicitDefEqProofs [addR]; omega
  refine ⟨hI, h2, by omega, fun h => ?_, fun h => ⟨hI, h3, h4, fun h' => ⟨by omega, ?_⟩, fun h' => ⟨h1, h2, by omega, h3, h4, h2, by omega, fun _ _ => ⟨h3, h4, fun _ _ => ⟨treeS_szT (base9_tree h1 _ _), treeS_szT (repoS_treeAt h1 _), treeS_szT (repoS_treeAt h1 _), fun _ => ⟨fun hj => ?_, fun hj => ⟨⟨[atL r.heads n, b], w, (join6 (base9 r (atL r.heads n) b) (treeAt r (atL r.heads n)) (treeAt r b)).1⟩, rfl, rfl, rfl, k1, k3, hlen _, fun hs => ?_, fun hs => ?_⟩⟩⟩⟩⟩⟩⟩
  · unfold unite9; rw [if_pos h]; exact ⟨rfl, rfl, rfl⟩
  · unfold unite9; rw [if_neg h, if_pos h']; exact ⟨rfl, rfl, rfl⟩
  · unfold unite9; rw [if_neg h, if_neg h', if_neg (by intro e; rw [e] at hj; simp at hj)]; exact ⟨rfl, rfl, rfl⟩
  · unfold unite9; rw [if_neg h, if_neg h', if_pos hj, if_neg (by simp -implicitDefEqProofs [hs])]; exact ⟨rfl, rfl, rfl⟩
  · unfold unite9; rw [if_neg h, if_neg h', if_pos hj, if_pos hs]; exact ⟨rfl, rfl, rfl⟩
def cUniteInto : Con := .fn 42 (RepoD × Str × Str × Int) (fun a => [vRepo a.1, .str a.2.1, .str a.2.2.1, .int .i64 a.2.2.2]) (fun a => rpSz a.1) (fun a => .tup [.agg [.sl false 3 (eCommits (uniteS a.1 a.2.1 a.2.2.1 a.2.2.2).1.commits), .sl false 2 (eHeads (uniteS a.1 a.2.1 a.2.2.1 a.2.2.2).1.heads)], .int .i64 (uniteS a.1 a.2.1 a.2.2.1 a.2.2.2).2]) (fun _ => [])
theorem uniteInto_has : Has Tryz.prog 48 cUniteInto := by
  refine has_walk mixed tTabB_ok (l := [(82, cL7Ok), (124, cL7At), (95, cL4Name), (84, cL1In), (127, cL7Copy), (128, cL9Unite)]) (HasL.cons l7Ok_has (HasL.cons l7At_has (HasL.cons l4Name_has (HasL.cons l1In_has (HasL.cons l7Copy_has (HasL.cons l9Unite_has HasL.nil)))))) [0, 1, 2, 3, 4, 8, 9] ((fun a n (_ : Nat) => (fun _ => noInv) a n)) [] Tryz.func48 (by kernel_rfl) (code := _) (by unfold Tryz.f48; rfl) (by kernel_rfl) (by decide) (fun _ => ⟨(), trivial⟩) (by intro h; first | exact fun _ => rfl | cases h) (by kernel_rfl) ?_
  intro a ha
  obtain ⟨r, n, w, b⟩ := a
  replace ha : rpSz r := ha
  simp -implicitDefEqProofs [cUniteInto, cL7Ok, cL7At, cL4Name, cL1In, cL7Copy, cL9Unite, Con.fn, tTabB, tTab, bRepo_def]
  try dsimp only
  simp -implicitDefEqProofs only [and_assoc, exists_eq_left, exists_and_left, RepoD.ex1, RepoD.eta]
  have e0 : repoS r = false → uniteS r n w b = (noR, 1) := fun h => by unfold uniteS; rw [if_neg (by simp -implicitDefEqProofs [h])]
  have e1 : repoS r = true → (atL r.heads n < 0 ∨ nameB w = false ∨ ¬ (0 ≤ b ∧ b < r.commits.length)) → uniteS r n w b = (r, 1) := fun h h' => by unfold uniteS; rw [if_pos h, if_pos h']
  have e2 : repoS r = true → ¬ (atL r.heads n < 0 ∨ nameB w = false ∨ ¬ (0 ≤ b ∧ b < r.commits.length)) → uniteS r n w b = unite9 r n w b := fun h h' => by unfold uniteS; rw [if_pos h, if_neg h']
  have hr1 : r.commits.length ≤ 1048576 := ha.1
  refine ⟨by omega, fun h => by rw [e0 h]; exact ⟨rfl, rfl, rfl⟩, fun h => ⟨fun hn => ⟨ha, by rw [e1 h (.inl hn)]; exact ⟨rfl, rfl, rfl⟩⟩, fun hn => ⟨fun hw => ⟨ha, by rw [e1 h (.inr (.inl hw))]; exact ⟨rfl, rfl, rfl⟩⟩, fun hw _ => ⟨by omega, by omega, fun _ _ => ⟨fun hb => ⟨ha, by rw [e1 h (.inr (.inr (by omega)))]; exact ⟨rfl, rfl, rfl⟩⟩, fun hb hb' => ⟨ha, h, hn, hb, by omega, ?_⟩⟩⟩⟩⟩⟩
  rw [e2 h (by rintro (q | q | q); omega; rw [hw] at q; cases q; omega)]; exact ⟨rfl, rfl, rfl⟩
def cL10Ahead : Con := .fn 26 (RepoD × Int) (fun a => [vRepo a.1, .int .i64 a.2]) (fun a => repoS a.1 = true ∧ 0 ≤ a.2 ∧ a.2 < a.1.commits.length) (fun a => .sl true 2 (eFiles (ahead10 a.1 a.2))) (fun _ => [])
theorem l10Ahead_has : Has Tryz.prog 107 cL10Ahead := by
  refine has_walk mixed tTabB_ok (l := []) HasL.nil [0, 1, 2, 4] ((fun a n (_ : Nat) => (fun _ => noInv) a n)) [] Tryz.func107 (by kernel_rfl) (code := _) (by unfold Tryz.f107; rfl) (by kernel_rfl) (by decide) (fun _ => ⟨(), trivial⟩) (by intro h; first | exact fun _ => rfl | cases h) (by kernel_rfl) ?_
  intro a ha
  obtain ⟨r, c⟩ := a
  obtain ⟨h1, h2, h3⟩ : repoS r = true ∧ 0 ≤ c ∧ c < r.commits.length := ha
  simp -implicitDefEqProofs [cL10Ahead, Con.fn, tTabB, tTab, bRepo_def]
  try dsimp only
  simp -implicitDefEqProofs only [and_assoc, exists_eq_left, exists_and_left, RepoD.ex1, RepoD.eta]
  have cg := cget (r := r) h2 h3
  have hp : ahead10 r c = match (r.commits.getD c.toNat default).parents with | [] => [] | p :: _ => treeAt r p := rfl
  have hmem : ∀ p ∈ (r.commits.getD c.toNat default).parents, 0 ≤ p ∧ p < r.commits.length := fun p hp => by
    have hc : c.toNat < r.commits.length := by omega
    have := (repo_use (r := r) (by rw [repo_eq]; exact h1) hc).2.1 p (by simpa [List.getD_eq_getElem?_getD, hc] using hp)
    omega
  have hl : (r.commits.getD c.toNat default).parents.length ≤ 1000 := by
    have hc : c.toNat < r.commits.length := by omega
    have := (repo_use (r := r) (by rw [repo_eq]; exact h1) hc).1
    simpa [List.getD_eq_getElem?_getD, hc] using by omega
  rw [cg]
  generalize (r.commits.getD c.toNat default).parents = P at *
  cases P with
  | nil => simp -implicitDefEqProofs [D.asRows, hp]; omega
  | cons p P =>
    have hq := hmem p (by simp)
    have cp := cget hq.1 hq.2
    have hp : ahead10 r c = treeAt r p := hp
    simp -implicitDefEqProofs [D.asRows, hp, eInts, eInt, D.asInt, cp]
    exact ⟨h2, h3, fun _ _ _ => ⟨h2, h3, fun _ _ => hq⟩⟩
def cL10Put : Con := .fn 48 (RepoD × Str × Str × List FileD × List FileD) (fun a => [vRepo a.1, .str a.2.1, .str a.2.2.1, .sl true 2 (eFiles a.2.2.2.1), .sl true 2 (eFiles a.2.2.2.2)]) (fun a => repoS a.1 = true ∧ 0 ≤ atL a.1.heads a.2.1 ∧ treeS a.2.2.2.1 = true ∧ treeS a.2.2.2.2 = true) (fun a => .tup [.agg [.sl false 3 (eCommits (put10 a.1 a.2.1 a.2.2.1 a.2.2.2.1 a.2.2.2.2).1.commits), .sl false 2 (eHeads (put10 a.1 a.2.1 a.2.2.1 a.2.2.2.1 a.2.2.2.2).1.heads)], .int .i64 (put10 a.1 a.2.1 a.2.2.1 a.2.2.2.1 a.2.2.2.2).2]) (fun _ => [])
theorem l10Put_has : Has Tryz.prog 278 cL10Put := by
  refine has_walk mixed tTabB_ok (l := [(124, cL7At), (180, cL6Join), (182, cL7Add), (82, cL7Ok)]) (HasL.cons l7At_has (HasL.cons l6Join_has (HasL.cons l7Add_has (HasL.cons l7Ok_has HasL.nil)))) [0, 1, 2, 3, 4, 5, 10, 11, 12, 13, 14, 15] ((fun a n (_ : Nat) => (fun _ => noInv) a n)) [] Tryz.func278 (by kernel_rfl) (code := _) (by unfold Tryz.f278; rfl) (by kernel_rfl) (by decide) (fun _ => ⟨(), trivial⟩) (by intro h; first | exact fun _ => rfl | cases h) (by kernel_rfl) ?_
  intro a ha
  obtain ⟨r, n, w, o, b⟩ := a
  obtain ⟨h1, h2, h3, h4⟩ : repoS r = true ∧ 0 ≤ atL r.heads n ∧ treeS o = true ∧ treeS b = true := ha
  simp -implicitDefEqProofs [cL10Put, cL7At, cL6Join, cL7Add, cL7Ok, Con.fn, tTabB, tTab, bRepo_def]
  try dsimp only
  simp -implicitDefEqProofs only [and_assoc, exists_eq_left, exists_and_left, RepoD.ex1, RepoD.eta]
  obtain ⟨k1, k2, k3⟩ := repoS_sz h1
  have hat := atL_le (n := n) ((repoS_iff r).1 h1).2.1
  have ga := cget (r := r) (c := atL r.heads n) h2 (by omega)
  rw [ga]
  simp -implicitDefEqProofs [D.asRows]
  have hlen : ∀ c, (addR r n c).commits.length ≤ 1073741824 := fun c => by simp -implicitDefEqProofs [addR]; omega
  refine ⟨h2, by omega, fun _ _ => ⟨treeS_szT h3, treeS_szT (repoS_treeAt h1 _), treeS_szT h4, fun _ => ⟨fun hj => ?_, fun hj => ⟨⟨[atL r.heads n], w, (join6 o (treeAt r (atL r.heads n)) b).1⟩, rfl, rfl, rfl, k1, k3, hlen _, fun hs => ?_, fun hs => ?_⟩⟩⟩⟩
  · unfold put10; rw [if_neg (by intro e; rw [e] at hj; simp at hj)]; exact ⟨rfl, rfl, rfl⟩
  · unfold put10; rw [if_pos hj, if_neg (by simp -implicitDefEqProofs [hs])]; exact ⟨rfl, rfl, rfl⟩
  · unfold put10; rw [if_pos hj, if_pos hs]; exact ⟨rfl, rfl, rfl⟩
def cPickOf : Con := .fn 52 (RepoD × Str × Str × Int) (fun a => [vRepo a.1, .str a.2.1, .str a.2.2.1, .int .i64 a.2.2.2]) (fun a => rpSz a.1) (fun a => .tup [.agg [.sl false 3 (eCommits (pickS false a.1 a.2.1 a.2.2.1 a.2.2.2).1.commits), .sl false 2 (eHeads (pickS false a.1 a.2.1 a.2.2.1 a.2.2.2).1.heads)], .int .i64 (pickS false a.1 a.2.1 a.2.2.1 a.2.2.2).2]) (fun _ => [])
theorem pickOf_has : Has Tryz.prog 252 cPickOf := by
  refine has_walk mixed tTabB_ok (l := [(82, cL7Ok), (124, cL7At), (95, cL4Name), (84, cL1In), (127, cL7Copy), (107, cL10Ahead), (278, cL10Put)]) (HasL.cons l7Ok_has (HasL.cons l7At_has (HasL.cons l4Name_has (HasL.cons l1In_has (HasL.cons l7Copy_has (HasL.cons l10Ahead_has (HasL.cons l10Put_has HasL.nil))))))) [0, 1, 2, 3, 4, 8, 9, 10] ((fun a n (_ : Nat) => (fun _ => noInv) a n)) [] Tryz.func252 (by kernel_rfl) (code := _) (by unfold Tryz.f252; rfl) (by kernel_rfl) (by decide) (fun _ => ⟨(), trivial⟩) (by intro h; first | exact fun _ => rfl | cases h) (by kernel_rfl) ?_
  intro a ha
  obtain ⟨r, n, w, b⟩ := a
  replace ha : rpSz r := ha
  simp -implicitDefEqProofs [cPickOf, cL7Ok, cL7At, cL4Name, cL1In, cL7Copy, cL10Ahead, cL10Put, Con.fn, tTabB, tTab, bRepo_def]
  try dsimp only
  simp -implicitDefEqProofs only [and_assoc, exists_eq_left, exists_and_left, RepoD.ex1, RepoD.eta]
  have e0 : repoS r = false → pickS false r n w b = (noR, 1) := fun h => by unfold pickS; rw [if_neg (by simp -implicitDefEqProofs [h])]
  have e1 : repoS r = true → (atL r.heads n < 0 ∨ nameB w = false ∨ ¬ (0 ≤ b ∧ b < r.commits.length)) → pickS false r n w b = (r, 1) := fun h h' => by unfold pickS; rw [if_pos h, if_pos h']
  have e2 : repoS r = true → ¬ (atL r.heads n < 0 ∨ nameB w = false ∨ ¬ (0 ≤ b ∧ b < r.commits.length)) → pickS false r n w b = put10 r n w (ahead10 r b) (treeAt r b) := fun h h' => by unfold pickS; rw [if_pos h, if_neg h']; rfl
  have hr1 : r.commits.length ≤ 1048576 := ha.1
  refine ⟨by omega, fun h => by rw [e0 h]; exact ⟨rfl, rfl, rfl⟩, fun h => ⟨fun hn => ⟨ha, by rw [e1 h (.inl hn)]; exact ⟨rfl, rfl, rfl⟩⟩, fun hn => ⟨fun hw => ⟨ha, by rw [e1 h (.inr (.inl hw))]; exact ⟨rfl, rfl, rfl⟩⟩, fun hw _ => ⟨by omega, by omega, fun _ _ => ⟨fun hb => ⟨ha, by rw [e1 h (.inr (.inr (by omega)))]; exact ⟨rfl, rfl, rfl⟩⟩, fun hb hb' => ?_⟩⟩⟩⟩⟩
  rw [e2 h (by rintro (q | q | q); omega; rw [hw] at q; cases q; omega)]
  have cb := cget hb (show b < r.commits.length by omega)
  have s1 := repoS_treeAt h b
  have s2 := ahead10_tree h b
  rw [cb]
  simp -implicitDefEqProofs [D.asRows, h, hn, hb, s1, s2, show b < r.commits.length by omega, show rpSz r from ha]
def cPickBack : Con := .fn 52 (RepoD × Str × Str × Int) (fun a => [vRepo a.1, .str a.2.1, .str a.2.2.1, .int .i64 a.2.2.2]) (fun a => rpSz a.1) (fun a => .tup [.agg [.sl false 3 (eCommits (pickS true a.1 a.2.1 a.2.2.1 a.2.2.2).1.commits), .sl false 2 (eHeads (pickS true a.1 a.2.1 a.2.2.1 a.2.2.2).1.heads)], .int .i64 (pickS true a.1 a.2.1 a.2.2.1 a.2.2.2).2]) (fun _ => [])
theorem pickBack_has : Has Tryz.prog 253 cPickBack := by
  refine has_walk mixed tTabB_ok (l := [(82, cL7Ok), (124, cL7At), (95, cL4Name), (84, cL1In), (127, cL7Copy), (107, cL10Ahead), (278, cL10Put)]) (HasL.cons l7Ok_has (HasL.cons l7At_has (HasL.cons l4Name_has (HasL.cons l1In_has (HasL.cons l7Copy_has (HasL.cons l10Ahead_has (HasL.cons l10Put_has HasL.nil))))))) [0, 1, 2, 3, 4, 8, 9, 10] ((fun a n (_ : Nat) => (fun _ => noInv) a n)) [] Tryz.func253 (by kernel_rfl) (code := _) (by unfold Tryz.f253; rfl) (by kernel_rfl) (by decide) (fun _ => ⟨(), trivial⟩) (by intro h; first | exact fun _ => rfl | cases h) (by kernel_rfl) ?_
  intro a ha
  obtain ⟨r, n, w, b⟩ := a
  replace ha : rpSz r := ha
  simp -implicitDefEqProofs [cPickBack, cL7Ok, cL7At, cL4Name, cL1In, cL7Copy, cL10Ahead, cL10Put, Con.fn, tTabB, tTab, bRepo_def]
  try dsimp only
  simp -implicitDefEqProofs only [and_assoc, exists_eq_left, exists_and_left, RepoD.ex1, RepoD.eta]
  have e0 : repoS r = false → pickS true r n w b = (noR, 1) := fun h => by unfold pickS; rw [if_neg (by simp -implicitDefEqProofs [h])]
  have e1 : repoS r = true → (atL r.heads n < 0 ∨ nameB w = false ∨ ¬ (0 ≤ b ∧ b < r.commits.length)) → pickS true r n w b = (r, 1) := fun h h' => by unfold pickS; rw [if_pos h, if_pos h']
  have e2 : repoS r = true → ¬ (atL r.heads n < 0 ∨ nameB w = false ∨ ¬ (0 ≤ b ∧ b < r.commits.length)) → pickS true r n w b = put10 r n w (treeAt r b) (ahead10 r b) := fun h h' => by unfold pickS; rw [if_pos h, if_neg h']; rfl
  have hr1 : r.commits.length ≤ 1048576 := ha.1
  refine ⟨by omega, fun h => by rw [e0 h]; exact ⟨rfl, rfl, rfl⟩, fun h => ⟨fun hn => ⟨ha, by rw [e1 h (.inl hn)]; exact ⟨rfl, rfl, rfl⟩⟩, fun hn => ⟨fun hw => ⟨ha, by rw [e1 h (.inr (.inl hw))]; exact ⟨rfl, rfl, rfl⟩⟩, fun hw _ => ⟨by omega, by omega, fun _ _ => ⟨fun hb => ⟨ha, by rw [e1 h (.inr (.inr (by omega)))]; exact ⟨rfl, rfl, rfl⟩⟩, fun hb hb' => ?_⟩⟩⟩⟩⟩
  rw [e2 h (by rintro (q | q | q); omega; rw [hw] at q; cases q; omega)]
  have cb := cget hb (show b < r.commits.length by omega)
  have s1 := repoS_treeAt h b
  have s2 := ahead10_tree h b
  rw [cb]
  simp -implicitDefEqProofs [D.asRows, h, hn, hb, s1, s2, show b < r.commits.length by omega, show rpSz r from ha]
end Vx
end Go.Proofs.YtnanellmaelipaaGreatDoor
namespace Go.Proofs.YtnanellmaelipaaGreatDoor
namespace Vx
open Go.RowKit
set_option maxRecDepth 8000
end Vx
end Go.Proofs.YtnanellmaelipaaGreatDoor
namespace Go.Proofs.YtnanellmaelipaaGreatDoor
namespace Vx
open Go.RowKit
set_option maxRecDepth 8000
end Vx
end Go.Proofs.YtnanellmaelipaaGreatDoor
namespace Go.Proofs.YtnanellmaelipaaGreatDoor
namespace Vx
open Go.RowKit
set_option maxRecDepth 8000
theorem spl_sum {c : UInt8} : ∀ {s p : Str}, ((spl c s p).map fun q => q.length + 1).sum = p.length + s.length + 1 := by
  intro s
  induction s with
  | nil => intro p; simp [spl]
  | cons x s ih =>
    intro p
    simp only [spl]
    split
    · simp [ih]; omega
    · rw [ih]; simp; omega
def plainT (t : List FileD) : Prop := ∀ f ∈ t, (∀ b ∈ f.path, 32 < b.toNat) ∧ f.text.length < 100 ∧ ∀ l ∈ f.text, (10 : UInt8) ∉ l
structure OkT (ok : List FileD → Bool) : Prop where
  n : ∀ {t}, ok t = true → t.length ≤ 8
  plain : ∀ {t}, ok t = true → plainT t
  ten : ∀ {t}, ok t = true → ∀ f ∈ t, f.text.length ≤ 10
theorem spl_mem {c : UInt8} : ∀ {s p : Str}, ∀ b ∈ s, b = c ∨ ∃ q ∈ spl c s p, b ∈ q := by
  intro s
  induction s with
  | nil => intro p b hb; cases hb
  | cons x s ih =>
    intro p b hb
    have keep : ∀ (s p : Str), ∀ y ∈ p, ∃ q ∈ spl c s p, y ∈ q := by
      intro s
      induction s with
      | nil => intro p y hy; exact ⟨p, by simp [spl], hy⟩
      | cons z s ih2 =>
        intro p y hy
        simp only [spl]
        split
        · exact ⟨p, by simp, hy⟩
        · exact ih2 (p ++ [z]) y (by simp [hy])
    simp only [spl]
    split
    · rename_i hx
      rcases List.mem_cons.1 hb with rfl | hb
      · exact .inl hx
      · rcases ih (p := []) b hb with h | ⟨q, h1, h2⟩
        · exact .inl h
        · exact .inr ⟨q, by simp [h1], h2⟩
    · rcases List.mem_cons.1 hb with rfl | hb
      · exact .inr (keep s (p ++ [b]) b (by simp))
      · exact ih b hb
theorem pathI_plain {s : Str} (h : pathI s = true) : (∀ b ∈ s, 32 < b.toNat) ∧ s.length ≤ 20 := by
  simp only [pathI, Bool.and_eq_true, decide_eq_true_eq, List.all_eq_true] at h
  obtain ⟨h1, h2⟩ := h
  constructor
  · intro b hb
    rcases spl_mem (c := 47) (p := []) b hb with rfl | ⟨q, hq, hbq⟩
    · decide
    · have h3 := h2 q hq
      simp only [nameB, Bool.and_eq_true, List.all_eq_true] at h3
      have h4 := h3.2 b hbq
      simp only [wordB, Bool.or_eq_true, Bool.and_eq_true, decide_eq_true_eq] at h4
      omega
  · have h3 := spl_sum (c := 47) (s := s) (p := [])
    have h4 : ∀ (l : List Str), (∀ q ∈ l, nameB q = true) → ((l.map fun q => q.length + 1).sum) ≤ 7 * l.length := by
      intro l
      induction l with
      | nil => intro _; simp
      | cons q l ih =>
        intro h
        have a := ih fun x hx => h x (by simp [hx])
        have b := h q (by simp)
        simp only [nameB, Bool.and_eq_true, decide_eq_true_eq] at b
        simp only [List.map_cons, List.sum_cons, List.length_cons]
        omega
    have h5 := h4 _ h2
    rw [h3] at h5
    simp at h5
    omega
theorem treeI_plain {t : List FileD} (h : treeI t = true) : ∀ f ∈ t, ((∀ b ∈ f.path, 32 < b.toNat) ∧ f.path.length ≤ 20) ∧ f.text.length ≤ 10 ∧ ∀ l ∈ f.text, (10 : UInt8) ∉ l := by
  intro f hf
  simp only [treeI, Bool.and_eq_true, decide_eq_true_eq, List.all_eq_true, List.mem_range, headI] at h
  obtain ⟨i, hi, rfl⟩ := List.getElem_of_mem hf
  have h1 := (h.2 i hi).1.1
  have hg : t.getD i default = t[i] := by simp [List.getD_eq_getElem?_getD, hi]
  rw [hg] at h1
  refine ⟨pathI_plain h1.2, ?_⟩
  have h2 := h1.1
  simp only [textB, Bool.and_eq_true, decide_eq_true_eq, List.all_eq_true] at h2
  refine ⟨h2.1, fun l hl h10 => ?_⟩
  have h3 := h2.2 l hl
  simp only [lineB, Bool.and_eq_true, List.all_eq_true, decide_eq_true_eq] at h3
  have := h3.2 10 h10
  simp at this
end Vx
end Go.Proofs.YtnanellmaelipaaGreatDoor
namespace Go.Proofs.YtnanellmaelipaaGreatDoor
set_option maxHeartbeats 4000000
namespace Vx
open Go.RowKit
set_option maxRecDepth 8000
--TAB tTabB
def opSz (o : OpD) : Prop := o.path.length ≤ 1048576 ∧ o.to_.length ≤ 1048576 ∧ o.text.length ≤ 1048576
def cL19Tree : Con := .fn 29 (RepoD × OpD × (List FileD × Bool)) (fun a => [vRepo a.1, vOp a.2.1, .sl true 2 (eFiles a.2.2.1), .bool a.2.2.2]) (fun a => rpSz a.1 ∧ a.2.2.1.length ≤ 1048576 ∧ ∀ f ∈ a.2.2.1, f.text.length ≤ 1048576) (fun a => .tup [.agg [.sl false 3 (eCommits (tree19 a.1 a.2.1 a.2.2).1.commits), .sl false 2 (eHeads (tree19 a.1 a.2.1 a.2.2).1.heads)], .int .i64 (tree19 a.1 a.2.1 a.2.2).2]) (fun _ => [])
theorem l19Tree_has : Has Tryz.prog 248 cL19Tree := by
  refine has_walk mixed tTabB_ok (l := [(276, cRepoCommit)]) (HasL.cons repoCommit_has HasL.nil) [0, 1, 2, 3, 4, 5, 8, 9, 10, 11] ((fun a n (_ : Nat) => (fun _ => noInv) a n)) [] Tryz.func248 (by kernel_rfl) (code := _) (by unfold Tryz.f248; rfl) (by kernel_rfl) (by decide) (fun _ => ⟨(), trivial⟩) (by intro h; first | exact fun _ => rfl | cases h) (by kernel_rfl) ?_
  intro a ha
  obtain ⟨r, o, t, k⟩ := a
  obtain ⟨h1, h2, h3⟩ : rpSz r ∧ t.length ≤ 1048576 ∧ ∀ f ∈ t, f.text.length ≤ 1048576 := ha
  simp (maxSteps := 8000000) -implicitDefEqProofs [-kStep_move, -Bool.exists_bool, cL19Tree, cRepoCommit, Con.fn, tTabB, tTab, bRepo_def, bOp]
  try dsimp only
  simp -implicitDefEqProofs only [and_assoc, exists_eq_left, exists_and_left, RepoD.ex1, RepoD.eta, OpD.ex1, OpD.eta]
  refine ⟨fun h => ?_, fun h => ⟨h1, h2, h3, fun h' => ?_, fun h' => ?_⟩⟩
  · unfold tree19; rw [if_neg (by simp -implicitDefEqProofs [h])]; exact ⟨rfl, rfl, rfl⟩
  · unfold tree19; rw [if_pos h, if_neg (by simp -implicitDefEqProofs [h'])]; exact ⟨rfl, rfl, rfl⟩
  · unfold tree19; rw [if_pos h, if_pos h']; exact ⟨rfl, rfl, rfl⟩
theorem treeSetS_tree {t : List FileD} (h : treeS t = true) (f : FileD) : treeS (treeSetS t f).1 = true := by
  unfold treeSetS
  rw [if_pos h]
  split
  · assumption
  · exact h
theorem treeMoveS_tree {t : List FileD} (h : treeS t = true) (p to : Str) : treeS (treeMoveS t p to).1 = true := by
  unfold treeMoveS
  rw [if_pos h]
  split
  · exact h
  · split
    · exact h
    · rename_i q
      cases q2 : treeS (mvFs p to (filB (dropB p) t) t) with
      | true => rfl
      | false => exact absurd (.inl q2) q
theorem treeDropS_sz {t : List FileD} (h : treeS t = true) (p : Str) : szT (treeDropS t p).1 := by
  unfold treeDropS filB
  rw [if_pos h]
  obtain ⟨h1, h2⟩ := treeS_szT h
  exact ⟨Nat.le_trans (List.length_filter_le _ _) h1, fun f hf => h2 f (List.mem_filter.1 hf).1⟩
theorem treeS_path {t : List FileD} (h : treeS t = true) : ∀ f ∈ t, f.path.length ≤ 20 := fun f hf => (treeI_plain (by rw [tree_eq]; exact h) f hf).1.2
theorem szT_1 {t : List FileD} (h : szT t) : t.length ≤ 1048576 ∧ ∀ f ∈ t, f.text.length ≤ 1048576 := ⟨by have := h.1; omega, fun f hf => by have := h.2 f hf; omega⟩
theorem treeOf_tree {r : RepoD} (h : repoS r = true) (n : Str) : treeS (treeOf r n) = true := by
  unfold treeOf
  split
  · exact repoS_treeAt h _
  · rfl
def cL19Do : Con := .fn 134 (RepoD × OpD) (fun a => [vRepo a.1, vOp a.2]) (fun a => repoS a.1 = true ∧ opSz a.2) (fun a => .tup [.agg [.sl false 3 (eCommits (do19 a.1 a.2).1.commits), .sl false 2 (eHeads (do19 a.1 a.2).1.heads)], .int .i64 (do19 a.1 a.2).2]) (fun _ => [])
theorem l19Do_has : Has Tryz.prog 219 cL19Do := by
  refine has_walk mixed tTabB_ok (l := [(124, cL7At), (247, cTreeSetS), (249, cTreeDropS), (250, cTreeMoveS), (248, cL19Tree), (251, cRepoBranch), (48, cUniteInto), (252, cPickOf), (253, cPickBack)]) (HasL.cons l7At_has (HasL.cons treeSetS_has (HasL.cons treeDropS_has (HasL.cons treeMoveS_has (HasL.cons l19Tree_has (HasL.cons repoBranch_has (HasL.cons uniteInto_has (HasL.cons pickOf_has (HasL.cons pickBack_has HasL.nil))))))))) [0, 1, 2, 3, 4, 5, 6, 7, 8, 9, 10, 11, 12, 13, 14, 15, 30] ((fun a n (_ : Nat) => (fun _ => noInv) a n)) [] Tryz.func219 (by kernel_rfl) (code := _) (by unfold Tryz.f219; rfl) (by kernel_rfl) (by decide) (fun _ => ⟨(), trivial⟩) (by intro h; first | exact fun _ => rfl | cases h) (by kernel_rfl) ?_
  intro a ha
  obtain ⟨r, o⟩ := a
  obtain ⟨h1, h2, h3, h4⟩ : repoS r = true ∧ opSz o := ha
  simp (maxSteps := 8000000) -implicitDefEqProofs [-kStep_move, -Bool.exists_bool, cL19Do, cL7At, cTreeSetS, cTreeDropS, cTreeMoveS, cL19Tree, cRepoBranch, cUniteInto, cPickOf, cPickBack, Con.fn, tTabB, tTab, bRepo_def, bOp]
  try dsimp only
  simp -implicitDefEqProofs only [and_assoc, exists_eq_left, exists_and_left, RepoD.ex1, RepoD.eta, OpD.ex1, OpD.eta]
  have hsz := repoS_sz h1
  have hat := atL_le (n := o.branch) ((repoS_iff r).1 h1).2.1
  have hT := treeOf_tree h1 o.branch
  have e1 : o.kind = 1 → do19 r o = tree19 r o (treeSetS (treeOf r o.branch) ⟨o.path, o.text⟩) := fun h => by unfold do19; rw [if_pos h]
  have e2 : o.kind = 2 → do19 r o = tree19 r o (treeDropS (treeOf r o.branch) o.path) := fun h => by unfold do19; rw [if_neg (by omega), if_pos h]
  have e3 : o.kind = 3 → do19 r o = tree19 r o (treeMoveS (treeOf r o.branch) o.path o.to_) := fun h => by unfold do19; rw [if_neg (by omega), if_neg (by omega), if_pos h]
  have e4 : o.kind = 4 → (repoBranchS r o.to_ (atL r.heads o.branch)).2 = true → do19 r o = ((repoBranchS r o.to_ (atL r.heads o.branch)).1, 0) := fun h h' => by unfold do19; rw [if_neg (by omega), if_neg (by omega), if_neg (by omega), if_pos h, if_pos h']
  have e4' : o.kind = 4 → (repoBranchS r o.to_ (atL r.heads o.branch)).2 = false → do19 r o = (r, 1) := fun h h' => by unfold do19; rw [if_neg (by omega), if_neg (by omega), if_neg (by omega), if_pos h, if_neg (by simp -implicitDefEqProofs [h'])]
  have e5 : o.kind = 5 → do19 r o = uniteS r o.branch o.who (atL r.heads o.to_) := fun h => by unfold do19; rw [if_neg (by omega), if_neg (by omega), if_neg (by omega), if_neg (by omega), if_pos h]
  have e6 : o.kind = 6 → do19 r o = pickS false r o.branch o.who o.at_ := fun h => by unfold do19; rw [if_neg (by omega), if_neg (by omega), if_neg (by omega), if_neg (by omega), if_neg (by omega), if_pos h]
  have e7 : ¬ o.kind = 1 → ¬ o.kind = 2 → ¬ o.kind = 3 → ¬ o.kind = 4 → ¬ o.kind = 5 → ¬ o.kind = 6 → do19 r o = pickS true r o.branch o.who o.at_ := fun k1 k2 k3 k4 k5 k6 => by unfold do19; rw [if_neg k1, if_neg k2, if_neg k3, if_neg k4, if_neg k5, if_neg k6]
  have s1 := szT_1 (treeS_szT (treeSetS_tree hT ⟨o.path, o.text⟩))
  have s2 := szT_1 (treeDropS_sz hT o.path)
  have s3 := szT_1 (treeS_szT (treeMoveS_tree hT o.path o.to_))
  have s0 := treeS_szT hT
  have sp := treeS_path hT
  have sp : ∀ f ∈ treeOf r o.branch, f.path.length ≤ 1048576 := fun f hf => by have := sp f hf; omega
  have sl : (treeOf r o.branch).length ≤ 1048575 := by have := s0.1; omega
  have st := (szT_1 s0).2
  refine ⟨fun hp => ⟨hp, by omega, fun _ _ => ?_⟩, fun hn => ?_⟩
  · have ca := cget (r := r) hp (by omega)
    have eT : treeAt r (atL r.heads o.branch) = treeOf r o.branch := by unfold treeOf; rw [if_pos hp]
    rw [ca, eT]
    simp -implicitDefEqProofs [D.asRows]
    exact ⟨fun h => ⟨sl, st, h4, hsz, s1.1, s1.2, by rw [e1 h]; exact ⟨rfl, rfl, rfl⟩⟩, fun k1 => ⟨fun h => ⟨(szT_1 s0).1, st, hsz, s2.1, s2.2, by rw [e2 h]; exact ⟨rfl, rfl, rfl⟩⟩, fun k2 => ⟨fun h => ⟨(szT_1 s0).1, st, h3, sp, hsz, s3.1, s3.2, by rw [e3 h]; exact ⟨rfl, rfl, rfl⟩⟩, fun k3 => ⟨fun h => ⟨hsz, fun h' => by rw [e4' h h']; exact ⟨rfl, rfl, rfl⟩, fun h' => by rw [e4 h h']; exact ⟨rfl, rfl, rfl⟩⟩, fun k4 => ⟨fun h => ⟨hsz, by rw [e5 h]; exact ⟨rfl, rfl, rfl⟩⟩, fun k5 => ⟨fun h => ⟨hsz, by rw [e6 h]; exact ⟨rfl, rfl, rfl⟩⟩, fun k6 => ⟨hsz, by rw [e7 k1 k2 k3 k4 k5 k6]; exact ⟨rfl, rfl, rfl⟩⟩⟩⟩⟩⟩⟩⟩
  · have eT : treeOf r o.branch = [] := by unfold treeOf; rw [if_neg (by omega)]
    simp -implicitDefEqProofs only [FileD.ex1]
    rw [← eT]
    exact ⟨fun h => ⟨sl, st, h4, hsz, s1.1, s1.2, by rw [e1 h]; exact ⟨rfl, rfl, rfl⟩⟩, fun k1 => ⟨fun h => ⟨(szT_1 s0).1, st, hsz, s2.1, s2.2, by rw [e2 h]; exact ⟨rfl, rfl, rfl⟩⟩, fun k2 => ⟨fun h => ⟨(szT_1 s0).1, st, h3, sp, hsz, s3.1, s3.2, by rw [e3 h]; exact ⟨rfl, rfl, rfl⟩⟩, fun k3 => ⟨fun h => ⟨hsz, fun h' => by rw [e4' h h']; exact ⟨rfl, rfl, rfl⟩, fun h' => by rw [e4 h h']; exact ⟨rfl, rfl, rfl⟩⟩, fun k4 => ⟨fun h => ⟨hsz, by rw [e5 h]; exact ⟨rfl, rfl, rfl⟩⟩, fun k5 => ⟨fun h => ⟨hsz, by rw [e6 h]; exact ⟨rfl, rfl, rfl⟩⟩, fun k6 => ⟨hsz, by rw [e7 k1 k2 k3 k4 k5 k6]; exact ⟨rfl, rfl, rfl⟩⟩⟩⟩⟩⟩⟩⟩
def rpI (l : List OpD) : Inv := ⟨Nat, fun i => ⟨[(0, true, .sl true 7 (eOps l)), (2, true, .ptr 10 0), (3, true, .ptr 11 0), (4, true, .int .i64 i)], [(10, bNilR), (11, .box 26 [.sl false 3 (eCommits (playF (l.take i)).commits), .sl false 2 (eHeads (playF (l.take i)).heads)])]⟩, fun i => i ≤ l.length ∧ i ≤ 30, fun i => l.length - i⟩
def cRepoPlayS : Con := .fn 34 (List OpD) (fun l => [.sl true 7 (eOps l)]) (fun l => ∀ o ∈ l, opSz o) (fun l => .agg [.sl false 3 (eCommits (playS l).commits), .sl false 2 (eHeads (playS l).heads)]) (fun _ => [])
theorem repoPlayS_has : Has Tryz.prog 193 cRepoPlayS := by
  refine has_walk mixed tTabB_ok (l := [(218, cL19Ok), (219, cL19Do)]) (HasL.cons l19Ok_has (HasL.cons l19Do_has HasL.nil)) [0, 2, 3, 4, 5] ((fun a n (_ : Nat) => (fun l _ => rpI l) a n)) [12287] Tryz.func193 (by kernel_rfl) (code := _) (by unfold Tryz.f193; rfl) (by kernel_rfl) (by decide) (fun _ => ⟨(), trivial⟩) (by intro h; first | exact fun _ => rfl | cases h) (by kernel_rfl) ?_
  intro (l : List OpD) (ha : ∀ o ∈ l, opSz o)
  simp (maxSteps := 8000000) -implicitDefEqProofs [-kStep_move, -Bool.exists_bool, cRepoPlayS, cL19Ok, cL19Do, Con.fn, tTabB, tTab, rpI]
  try dsimp only
  simp -implicitDefEqProofs only [and_assoc, exists_eq_left, exists_and_left, RepoD.ex1, RepoD.eta, OpD.ex1, OpD.eta]
  refine ⟨rfl, rfl, Nat.zero_le _, Nat.zero_le _, fun t ht h30 _ => ⟨fun hlt h30' => ⟨hlt, fun _ => ?_⟩, ?_⟩⟩
  · have qq : Option.map eOp l[t]? = some (eOp l[t]) := by simp -implicitDefEqProofs [hlt]
    have hs := playF_succ hlt
    have hok := (playF_ok (l.take t)).1
    have ho := ha l[t] (List.getElem_mem hlt)
    rw [qq]
    generalize playF (l.take t) = R at *
    generalize l[t] = o at *
    simp -implicitDefEqProofs [eOp, D.asInt, D.asStr, D.asRows]
    refine ⟨ho.2.2, fun hb => ⟨hlt, fun _ => ⟨hok, ho, by omega, by omega, fun _ _ => ⟨t + 1, by omega, by rw [hs, if_pos hb], by rw [hs, if_pos hb], by omega, by omega, by omega⟩⟩⟩, fun hb => ⟨by omega, by omega, fun _ _ => ⟨t + 1, by omega, by rw [hs, if_neg (by simp -implicitDefEqProofs [hb])], by rw [hs, if_neg (by simp -implicitDefEqProofs [hb])], by omega, by omega, by omega⟩⟩⟩
  · intro h
    have e : playS l = playF (l.take t) := by
      unfold playS
      rcases Nat.lt_or_ge t l.length with h1 | h1
      · have := h h1
        have : t = 30 := by omega
        rw [this]
      · rw [List.take_of_length_le h1, List.take_of_length_le (by omega)]
    rw [e]; exact ⟨rfl, rfl⟩
end Vx
end Go.Proofs.YtnanellmaelipaaGreatDoor
namespace Go.Proofs.YtnanellmaelipaaGreatDoor
set_option maxHeartbeats 4000000
namespace Vx
open Go.RowKit
set_option maxRecDepth 8000
def cBranchD : Con := { A := Str × Int, X := Str, n := 6, args := fun _ => [.ptr 0 0], boxes := fun a => [(0, 157, [.sl true 1 (eBytes a.1), .int .i64 a.2])], pre := fun a => a.1.length ≤ 2000 ∧ 0 ≤ a.2 ∧ a.2 ≤ 1073741800, post := fun _ x => x.length ≤ 4, res := fun _ x => .str x, fin := fun a _ => [(0, rdBox a.1 (a.2 + 1))], nob := false }
theorem branchD_has : Has Tryz.prog 254 cBranchD := by
  refine has_walk mixed tTab_ok (l := [(90, cOf)]) (HasL.cons of_has HasL.nil) [0, 2] ((fun a n (_ : Nat) => (fun _ => noInv) a n)) [] Tryz.func254 (by kernel_rfl) (code := _) (by unfold Tryz.f254; rfl) (by kernel_rfl) (by decide) (fun _ => ⟨([] : Str), Nat.zero_le 4⟩) (by intro h; first | exact fun _ => rfl | cases h) (by kernel_rfl) ?_
  intro a ha
  obtain ⟨s, p⟩ := a
  obtain ⟨h1, h2, h3⟩ : s.length ≤ 2000 ∧ 0 ≤ p ∧ p ≤ 1073741800 := ha
  simp -implicitDefEqProofs [cBranchD, cOf, tTab, eStrs_isCons, clash, kd, eByte, all_true]
  exact ⟨s, p, ⟨rfl, rfl⟩, ⟨h1, by omega, by omega⟩, by simp⟩
def drawnO (o : OpD) : Prop := (1 ≤ o.kind ∧ o.kind ≤ 7) ∧ o.branch.length ≤ 4 ∧ o.who.length ≤ 3 ∧ o.path.length ≤ 5 ∧ o.to_.length ≤ 5 ∧ (0 ≤ o.at_ ∧ o.at_ ≤ 9) ∧ o.text.length ≤ 8 ∧ ∀ s ∈ o.text, s.length ≤ 7
def cOpD : Con := { A := Str × Int, X := OpD × Int, n := 63, args := fun _ => [.ptr 0 0], boxes := fun a => [(0, 157, [.sl true 1 (eBytes a.1), .int .i64 a.2])], pre := fun a => a.1.length ≤ 2000 ∧ 0 ≤ a.2 ∧ a.2 ≤ 1073741500, post := fun a x => drawnO x.1 ∧ a.2 ≤ x.2 ∧ x.2 ≤ a.2 + 20, res := fun _ x => .agg [.int .i64 x.1.kind, .str x.1.branch, .str x.1.who, .str x.1.path, .str x.1.to_, .int .i64 x.1.at_, .own 8 1 (eStrs x.1.text)], fin := fun a x => (0, rdBox a.1 x.2) :: ownStrs 8 x.1.text, nob := false }
theorem opD_has : Has Tryz.prog 220 cOpD := by
  refine has_walk mixed tTab_ok (l := [(254, cBranchD), (90, cOf), (145, cPick), (255, cPath), (256, cText)]) (HasL.cons branchD_has (HasL.cons of_has (HasL.cons pick_has (HasL.cons path_has (HasL.cons text_has HasL.nil))))) [0, 2, 3, 11, 34, 42] ((fun a n (_ : Nat) => (fun _ => noInv) a n)) [] Tryz.func220 (by kernel_rfl) (code := _) (by unfold Tryz.f220; rfl) (by kernel_rfl) (by decide) (fun a => ⟨((⟨1, [], [], [], [], 0, []⟩ : OpD), a.2), (by simp -implicitDefEqProofs [drawnO]), Int.le_refl _, by omega⟩) (by intro h; first | exact fun _ => rfl | cases h) (by kernel_rfl) ?_
  intro a ha
  obtain ⟨s, p⟩ := a
  obtain ⟨h1, h2, h3⟩ : s.length ≤ 2000 ∧ 0 ≤ p ∧ p ≤ 1073741500 := ha
  simp (maxSteps := 8000000) -implicitDefEqProofs [-kStep_move, -Bool.exists_bool, cOpD, cBranchD, cOf, cPick, cPath, cText, tTab, eStrs_isCons, clash, kd, eByte, all_true]
  have fin : ∀ (k : Int) (b w pa t : Str) (i : Int) (q : Int), (1 ≤ k ∧ k ≤ 7) → b.length ≤ 4 → w.length ≤ 3 → pa.length ≤ 5 → t.length ≤ 5 → (0 ≤ i ∧ i ≤ 9) → (p ≤ q ∧ q ≤ p + 20) → ∃ (a : OpD) (c : Int), (drawnO a ∧ p ≤ c ∧ c ≤ p + 20) ∧ (a.kind = k ∧ a.branch = b ∧ a.who = w ∧ a.path = pa ∧ a.to_ = t ∧ a.at_ = i ∧ a.text = []) ∧ (s = s ∧ c = q) ∧ a.text = [] :=
    fun k b w pa t i q h1 h2 h3 h4 h5 h6 h7 => ⟨⟨k, b, w, pa, t, i, []⟩, q, ⟨⟨h1, h2, h3, h4, h5, h6, Nat.zero_le _, by simp⟩, h7⟩, ⟨rfl, rfl, rfl, rfl, rfl, rfl, rfl⟩, ⟨rfl, rfl⟩, rfl⟩
  have fin2 : ∀ (k : Int) (b w pa t : Str) (i : Int) (l : List Str) (q : Int), (1 ≤ k ∧ k ≤ 7) → b.length ≤ 4 → w.length ≤ 3 → pa.length ≤ 5 → t.length ≤ 5 → (0 ≤ i ∧ i ≤ 9) → (l.length ≤ 8) → (∀ s ∈ l, s.length ≤ 7) → (p ≤ q ∧ q ≤ p + 20) → ∃ (a : OpD) (c : Int), (drawnO a ∧ p ≤ c ∧ c ≤ p + 20) ∧ (a.kind = k ∧ a.branch = b ∧ a.who = w ∧ a.path = pa ∧ a.to_ = t ∧ a.at_ = i ∧ a.text = l) ∧ (s = s ∧ c = q) ∧ l = a.text :=
    fun k b w pa t i l q h1 h2 h3 h4 h5 h6 g1 g2 h7 => ⟨⟨k, b, w, pa, t, i, l⟩, q, ⟨⟨h1, h2, h3, h4, h5, h6, g1, g2⟩, h7⟩, ⟨rfl, rfl, rfl, rfl, rfl, rfl, rfl⟩, ⟨rfl, rfl⟩, rfl⟩
  repeat' (first
    | intro _
    | refine ⟨_, _, ⟨rfl, rfl⟩, ⟨h1, by omega, by omega⟩, ?_⟩
    | exact fin _ _ _ _ _ _ _ (by omega) (by first | assumption | omega | decide) (by first | assumption | omega | decide) (by first | assumption | omega | decide) (by first | assumption | omega | decide) (by omega) (by omega)
    | exact fin2 _ _ _ _ _ _ _ _ (by omega) (by first | assumption | omega | decide) (by first | assumption | omega | decide) (by first | assumption | omega | decide) (by first | assumption | omega | decide) (by omega) (by assumption) (by assumption) (by omega)
    | apply And.intro)
end Vx
end Go.Proofs.YtnanellmaelipaaGreatDoor
namespace Go.Proofs.YtnanellmaelipaaGreatDoor
set_option maxHeartbeats 4000000
namespace Vx
open Go.RowKit
set_option maxRecDepth 8000
def cOpsD : Con := { A := Str × Int, X := List OpD × Int, n := 19, args := fun _ => [.ptr 0 0], boxes := fun a => [(0, 157, [.sl true 1 (eBytes a.1), .int .i64 a.2])], pre := fun a => a.1.length ≤ 2000 ∧ 0 ≤ a.2 ∧ a.2 ≤ 1073741000, post := fun a x => (x.1.length ≤ 20 ∧ ∀ o ∈ x.1, drawnO o) ∧ a.2 ≤ x.2 ∧ x.2 ≤ a.2 + 450, res := fun _ x => .own 8 7 (eOps x.1), fin := fun a x => [(0, rdBox a.1 x.2), (8, .own 219 7 true (eOps x.1))], nob := false }
theorem opsD_has : Has Tryz.prog 194 cOpsD := by
  refine has_walk mixed tTab_ok (l := [(147, cOne), (220, cOpD)]) (HasL.cons one_has (HasL.cons opD_has HasL.nil)) [0, 2, 3, 4] ((fun a n (_ : Nat) => (fun a _ => ⟨List OpD × Int × Nat, fun t => ⟨[(0, true, .ptr 0 0), (2, true, .nil), (3, true, .own 9 7 (eOps t.1)), (4, true, .int .i64 t.2.2)], [(0, rdBox a.1 t.2.1), (9, .own 219 7 true (eOps t.1))]⟩, fun t => t.1.length + t.2.2 ≤ 20 ∧ (∀ o ∈ t.1, drawnO o) ∧ a.2 ≤ t.2.1 ∧ t.2.1 + 20 * t.2.2 ≤ a.2 + 450, fun t => t.2.2⟩) a n)) [] Tryz.func194 (by kernel_rfl) (code := _) (by unfold Tryz.f194; rfl) (by kernel_rfl) (by decide) (fun a => ⟨(([] : List OpD), a.2), ⟨Nat.zero_le _, by simp⟩, Int.le_refl _, by omega⟩) (by intro h; first | exact fun _ => rfl | cases h) (by kernel_rfl) ?_
  intro a ha
  obtain ⟨s, p⟩ := a
  obtain ⟨h1, h2, h3⟩ : s.length ≤ 2000 ∧ 0 ≤ p ∧ p ≤ 1073741000 := ha
  simp (maxSteps := 8000000) -implicitDefEqProofs [-kStep_move, -Bool.exists_bool, cOpsD, cOne, cOpD, tTab, eStrs_isCons, clash, kd, eByte, all_true]
  refine ⟨s, p, [0, 3, 8, 14, 20], rfl, ⟨rfl, rfl⟩, ⟨h1, by omega, by omega, by simp, by simp⟩, fun y hy => ?_⟩
  have hy := hy (by simp)
  have hy2 : 0 ≤ y ∧ y ≤ 20 := by simp only [List.mem_cons, List.not_mem_nil, or_false] at hy; omega
  refine ⟨⟨[], p + 1, y.toNat, ⟨⟨rfl, by omega⟩, ⟨rfl, rfl⟩, rfl⟩, by simp; omega, by simp, by omega, by omega⟩, fun a q b ga gb gc gd => ⟨fun hb => ⟨s, q, ⟨rfl, rfl⟩, ⟨h1, by omega, by omega⟩, fun o q2 ho g1 g2 => ⟨⟨by omega, by omega⟩, ⟨by omega, by omega⟩, fun _ _ => ⟨a ++ [o], q2, b - 1, ⟨⟨(eOps_snoc _ _ _ _ _ _ _ _).symm, by omega⟩, ⟨rfl, rfl⟩, eOps_snoc _ _ _ _ _ _ _ _⟩, ⟨by simp; omega, fun x hx => ?_, by omega, by omega⟩, by omega⟩⟩⟩, fun hb => ⟨a, q, ⟨⟨by omega, gb⟩, by omega, by omega⟩, rfl, rfl, rfl⟩⟩⟩
  rcases List.mem_append.1 hx with hx | hx
  · exact gb x hx
  · simp at hx; subst hx; exact ho
def cRepoD : Con := { A := Str × Int, X := RepoD × Int, n := 7, args := fun _ => [.ptr 0 0], boxes := fun a => [(0, 157, [.sl true 1 (eBytes a.1), .int .i64 a.2])], pre := fun a => a.1.length ≤ 2000 ∧ 0 ≤ a.2 ∧ a.2 ≤ 1073740000, post := fun a x => plR x.1 ∧ a.2 ≤ x.2 ∧ x.2 ≤ a.2 + 450, res := fun _ x => .agg [.own 8 3 (eCommits x.1.commits), .own 9 2 (eHeads x.1.heads)], fin := fun a x => (0, rdBox a.1 x.2) :: (ownCommits 8 x.1.commits ++ ownHeads 9 x.1.heads), nob := false }
theorem repoD_has : Has Tryz.prog 146 cRepoD := by
  refine has_walk mixed tTab_ok (l := [(194, cOpsD), (193, cRepoPlayS), (127, cL7Copy)]) (HasL.cons opsD_has (HasL.cons repoPlayS_has (HasL.cons l7Copy_has HasL.nil))) [0, 2] ((fun a n (_ : Nat) => (fun _ => noInv) a n)) [] Tryz.func146 (by kernel_rfl) (code := _) (by unfold Tryz.f146; rfl) (by kernel_rfl) (by decide) (fun a => ⟨(noR, a.2), plR_no, Int.le_refl _, by omega⟩) (by intro h; first | exact fun _ => rfl | cases h) (by kernel_rfl) ?_
  intro a ha
  obtain ⟨s, p⟩ := a
  obtain ⟨h1, h2, h3⟩ : s.length ≤ 2000 ∧ 0 ≤ p ∧ p ≤ 1073740000 := ha
  simp (maxSteps := 8000000) -implicitDefEqProofs [-kStep_move, -Bool.exists_bool, cRepoD, cOpsD, cRepoPlayS, cL7Copy, Con.fn, tTab, eStrs_isCons, clash, kd, eByte, all_true]
  refine ⟨s, p, ⟨rfl, rfl⟩, ⟨h1, by omega, by omega⟩, fun l q g1 g2 g3 g4 => ⟨fun o ho => ?_, repoS_sz (playF_ok _).1, playS l, q, ⟨playF_ok _, by omega, by omega⟩, ⟨rfl, rfl⟩, ⟨rfl, rfl⟩, rfl, rfl⟩⟩
  obtain ⟨_, _, _, k1, k2, _, k3, _⟩ := g2 o ho
  exact ⟨by omega, by omega, by omega⟩
def drawnR (r : RepoD) : Prop := r.commits.length ≤ 16 ∧ r.heads.length ≤ 100 ∧ ∀ c ∈ r.commits, c.parents.length ≤ 2 ∧ treeS c.tree = true ∧ c.who.length ≤ 6
theorem plR_drawn {r : RepoD} (h : plR r) : drawnR r := by
  obtain ⟨h1, h2, h3⟩ := (repoS_iff r).1 h.1
  refine ⟨h3, by have := ((headsB_iff _ _).1 h2).1; omega, fun c hc => ?_⟩
  obtain ⟨i, hi, rfl⟩ := List.getElem_of_mem hc
  have h4 := h1 i hi
  have e : r.commits.getD i default = r.commits[i] := by simp -implicitDefEqProofs [List.getD_eq_getElem?_getD, hi]
  unfold okCS okS1 at h4
  rw [e] at h4
  simp only [Bool.and_eq_true, decide_eq_true_eq, nameB] at h4
  exact ⟨h4.2.1.1, h4.2.2, h4.2.1.2.1.2⟩
def cAnyRepoD : Con := { A := Str × Int, X := RepoD × Int, n := 46, args := fun _ => [.ptr 0 0], boxes := fun a => [(0, 157, [.sl true 1 (eBytes a.1), .int .i64 a.2])], pre := fun a => a.1.length ≤ 2000 ∧ 0 ≤ a.2 ∧ a.2 ≤ 1073739000, post := fun a x => drawnR x.1 ∧ a.2 ≤ x.2 ∧ x.2 ≤ a.2 + 500, res := fun _ x => .agg [.sl false 3 (eCommits x.1.commits), .sl false 2 (eHeads x.1.heads)], fin := fun a x => [(0, rdBox a.1 x.2)], nob := false }
theorem anyRepoD_has : Has Tryz.prog 76 cAnyRepoD := by
  refine has_walk mixed tTab_ok (l := [(146, cRepoD), (145, cPick)]) (HasL.cons repoD_has (HasL.cons pick_has HasL.nil)) [0, 2, 3, 4, 17] ((fun a n (_ : Nat) => (fun _ => noInv) a n)) [] Tryz.func76 (by kernel_rfl) (code := _) (by unfold Tryz.f76; rfl) (by kernel_rfl) (by decide) (fun a => ⟨(noR, a.2), plR_drawn plR_no, Int.le_refl _, by omega⟩) (by intro h; first | exact fun _ => rfl | cases h) (by kernel_rfl) ?_
  intro a ha
  obtain ⟨s, p⟩ := a
  obtain ⟨h1, h2, h3⟩ : s.length ≤ 2000 ∧ 0 ≤ p ∧ p ≤ 1073739000 := ha
  simp (maxSteps := 8000000) -implicitDefEqProofs [-kStep_move, -Bool.exists_bool, cAnyRepoD, cRepoD, cPick, tTab, eStrs_isCons, clash, kd, eByte, all_true]
  refine ⟨s, p, ⟨rfl, rfl⟩, ⟨h1, by omega, by omega⟩, fun r q hr g1 g2 _ => ⟨fun hp _ => ⟨s, q, ⟨rfl, rfl⟩, ⟨h1, by omega, by omega, ?_⟩, fun y _ hy => ⟨s, q + 1, ⟨rfl, rfl⟩, ⟨h1, by omega, by omega⟩, fun z hz0 hz1 => ?_⟩⟩, fun _ => ⟨r, q, ⟨plR_drawn hr, by omega, by omega⟩, ⟨rfl, rfl⟩, rfl, rfl⟩⟩⟩
  · have := (plR_drawn hr).1; omega
  obtain ⟨k1, k2⟩ := hy (by omega)
  have hk : y.toNat < r.commits.length := by omega
  have e : Option.map eCommit r.commits[y.toNat]? = some (eCommit r.commits[y.toNat]) := by simp -implicitDefEqProofs [hk]
  have hd := plR_drawn hr
  have hh : 0 < r.heads.length := List.length_pos_iff.2 (hr.2 (by intro h; rw [h] at hp; simp at hp))
  have e2 : Option.map eHead r.heads[0]? = some (eHead r.heads[0]) := by simp -implicitDefEqProofs [hh]
  have ds : ∀ c : CommitD, (c.parents.length ≤ 2 ∧ treeS c.tree = true ∧ c.who.length ≤ 6) → drawnR ⟨r.commits.set y.toNat c, r.heads⟩ := fun c hc => ⟨by simp; exact hd.1, hd.2.1, fun x hx => (List.mem_or_eq_of_mem_set hx).elim (hd.2.2 x) fun h => h ▸ hc⟩
  have dc := hd.2.2 _ (List.getElem_mem hk)
  have dh : drawnR ⟨r.commits, r.heads ++ [r.heads[0]]⟩ := ⟨hd.1, by have := ((headsB_iff _ _).1 ((repoS_iff r).1 hr.1).2.1).1; simp; omega, hd.2.2⟩
  simp only [e, e2]
  simp -implicitDefEqProofs [eCommit, eHead, D.asStr, D.asInt, hk, k1, k2, hh]
  have hl : r.heads.length ≤ 100 := hd.2.1
  have hA : p ≤ q + 1 + 1 ∧ q + 1 + 1 ≤ p + 500 := ⟨by omega, by omega⟩
  have es : ∀ c : CommitD, eCommits (r.commits.set y.toNat c) = (eCommits r.commits).set y.toNat (eCommit c) := fun c => by simp -implicitDefEqProofs [eCommits, List.map_set]
  exact ⟨fun _ => ⟨_, ⟨ds ⟨[y], r.commits[y.toNat].who, r.commits[y.toNat].tree⟩ ⟨by simp, dc.2⟩, hA⟩, es _, rfl⟩, fun _ => ⟨fun _ => ⟨_, ⟨ds ⟨r.commits[y.toNat].parents, [], r.commits[y.toNat].tree⟩ ⟨dc.1, dc.2.1, Nat.zero_le _⟩, hA⟩, es _, rfl⟩, fun _ => ⟨fun _ => ⟨⟨by omega, by omega⟩, _, ⟨dh, hA⟩, rfl, by simp -implicitDefEqProofs [eHeads, eHead]⟩, fun _ => ⟨r, ⟨hd, hA⟩, rfl, rfl⟩⟩⟩⟩
def cAtD : Con := { A := (Str × Int) × RepoD, X := Int, n := 19, args := fun a => [.ptr 0 0, vRepo a.2], boxes := fun a => [(0, 157, [.sl true 1 (eBytes a.1.1), .int .i64 a.1.2])], pre := fun a => (a.1.1.length ≤ 2000 ∧ 0 ≤ a.1.2 ∧ a.1.2 ≤ 1073740000) ∧ a.2.commits.length ≤ 1000, post := fun a x => -1 ≤ x ∧ x ≤ a.2.commits.length, res := fun _ x => .int .i64 x, fin := fun a _ => [(0, rdBox a.1.1 (a.1.2 + 2))], nob := false, bty := [157] }
theorem atD_has : Has Tryz.prog 78 cAtD := by
  refine has_walk mixed tTab_ok (l := [(145, cPick), (147, cOne)]) (HasL.cons pick_has (HasL.cons one_has HasL.nil)) [0, 1, 3, 4] ((fun a n (_ : Nat) => (fun _ => noInv) a n)) [] Tryz.func78 (by kernel_rfl) (code := _) (by unfold Tryz.f78; rfl) (by kernel_rfl) (by decide) (fun a => ⟨(0 : Int), by omega, by omega⟩) (by intro h; first | exact fun _ => rfl | cases h) (by kernel_rfl) ?_ (hbt := .inr fun a => ⟨fun b hb => (by simp only [cAtD, List.mem_cons, List.not_mem_nil, or_false] at hb; subst hb; simp -implicitDefEqProofs [cAtD]), fun x p hp ty vs e => (by simp only [cAtD, List.mem_cons, List.not_mem_nil, or_false] at hp; subst hp; cases e; simp -implicitDefEqProofs [cAtD])⟩)
  intro a ha
  obtain ⟨⟨s, p⟩, r⟩ := a
  obtain ⟨⟨h1, h2, h3⟩, h4⟩ : (s.length ≤ 2000 ∧ 0 ≤ p ∧ p ≤ 1073740000) ∧ r.commits.length ≤ 1000 := ha
  simp (maxSteps := 8000000) -implicitDefEqProofs [-kStep_move, -Bool.exists_bool, cAtD, cPick, cOne, tTab, eStrs_isCons, clash, kd, eByte, all_true, bRepo_def]
  refine ⟨s, p, ⟨rfl, rfl⟩, ⟨h1, by omega, by omega⟩, fun y _ _ => ⟨fun _ _ => ⟨s, p + 1, [-1, r.commits.length], rfl, ⟨rfl, rfl⟩, ⟨h1, by omega, by omega, by simp, by simp⟩, fun z hz => ⟨z, ?_, rfl, rfl, by omega⟩⟩, fun _ _ => ⟨s, p + 1, ⟨rfl, rfl⟩, ⟨h1, by omega, by omega, by omega⟩, fun z hz1 hz2 => ⟨z, by omega, rfl, rfl, by omega⟩⟩⟩⟩
  have hz := hz (by simp)
  simp only [List.mem_cons, List.not_mem_nil, or_false] at hz
  omega
end Vx
end Go.Proofs.YtnanellmaelipaaGreatDoor
namespace Go.Proofs.YtnanellmaelipaaGreatDoor
namespace Vx
open Go.RowKit
set_option maxRecDepth 8000
def cOfB : Con := { cOf with bty := [157] }
theorem ofB_has : Has Tryz.prog 90 cOfB :=
  ⟨of_has.enter, of_has.tot, of_has.nob, fun a h c hk vs β fp h1 h2 h3 h4 S => of_has.calls a h c hk vs β fp h1 h2 h3 h4 S, of_has.bldr,
    .inr fun a => ⟨fun b hb => (by simp only [cOfB, cOfB, cOf, List.mem_cons, List.not_mem_nil, or_false] at hb; subst hb; simp -implicitDefEqProofs [cOfB]), fun x p hp ty vs e => (by simp only [cOfB, cOfB, cOf, List.mem_cons, List.not_mem_nil, or_false] at hp; subst hp; cases e; simp -implicitDefEqProofs [cOfB])⟩⟩
end Vx
end Go.Proofs.YtnanellmaelipaaGreatDoor
namespace Go.Proofs.YtnanellmaelipaaGreatDoor
set_option maxHeartbeats 4000000
namespace Vx
open Go.RowKit
set_option maxRecDepth 8000
def cDrawUniteInto : Con := { A := Str, X := RepoD × Str × Str × Int, n := 22, args := fun s => [.sl true 1 (eBytes s)], boxes := fun _ => [], pre := fun _ => True, post := fun _ x => drawnR x.1, res := fun _ x => .tup [.agg [.sl false 3 (eCommits x.1.commits), .sl false 2 (eHeads x.1.heads)], .str x.2.1, .str x.2.2.1, .int .i64 x.2.2.2], fin := fun _ _ => [] }
theorem drawUniteInto_has : Has Tryz.prog 46 cDrawUniteInto := by
  refine has_walk mixed tTab_ok (l := [(75, cL30Open), (76, cAnyRepoD), (90, cOfB), (78, cAtD)]) (HasL.cons l30Open_has (HasL.cons anyRepoD_has (HasL.cons ofB_has (HasL.cons atD_has HasL.nil)))) [0, 2, 3, 4, 5, 6, 7] ((fun a n (_ : Nat) => (fun _ => noInv) a n)) [8191, 12287] Tryz.func46 (by kernel_rfl) (code := _) (by unfold Tryz.f46; rfl) (by kernel_rfl) (by decide) (fun _ => ⟨(noR, [], [], 0), plR_drawn plR_no⟩) (by intro h; first | exact fun _ => rfl | cases h) (by kernel_rfl) ?_
  intro (s : Str) _
  simp (maxSteps := 8000000) -implicitDefEqProofs [-kStep_move, -Bool.exists_bool, cDrawUniteInto, cL30Open, cAnyRepoD, cOfB, cOf, cAtD, tTab, Con.fn, eStrs_isCons, clash, kd, eByte, all_true]
  have hl : (s.take 2000).length ≤ 2000 := by simp; omega
  refine ⟨_, _, ⟨rfl, rfl⟩, ⟨hl, by omega, by omega⟩, fun r p g1 g2 g3 => ⟨_, _, ⟨rfl, rfl⟩, ⟨hl, by omega, by omega⟩, _, _, ⟨rfl, rfl⟩, ⟨hl, by omega, by omega⟩, _, _, ⟨rfl, rfl⟩, ⟨⟨hl, by omega, by omega⟩, by have := g1.1; omega⟩, fun y _ _ => ⟨r, g1, rfl, rfl⟩⟩⟩
end Vx
end Go.Proofs.YtnanellmaelipaaGreatDoor
namespace Go.Proofs.YtnanellmaelipaaGreatDoor
namespace Vx
open Go.RowKit
set_option maxRecDepth 8000
def clrN (l : List Bool) (i : Int) (ks : List Int) : List Bool := ks.foldl (fun l k => if k = i then l else l.set k.toNat false) l
theorem clrN_len (i : Int) (ks : List Int) : ∀ l : List Bool, (clrN l i ks).length = l.length := by
  induction ks with
  | nil => intro l; rfl
  | cons p r ih =>
    intro l
    show (clrN (if p = i then l else l.set p.toNat false) i r).length = _
    rw [ih]; split <;> simp
def comB (r : RepoD) (a b : Int) : List Bool := (List.range r.commits.length).map fun i => isT (anc r a) i && isT (anc r b) i
theorem comB_len (r : RepoD) (a b : Int) : (comB r a b).length = r.commits.length := by simp -implicitDefEqProofs [comB]
def bigT (r : RepoD) (L : List Int) (l : List Bool) : List Bool := L.foldl (fun l i => clrN l i (listT (anc r i))) l
theorem bigT_len (r : RepoD) (L : List Int) : ∀ l : List Bool, (bigT r L l).length = l.length := by
  induction L with
  | nil => intro l; rfl
  | cons i L ih =>
    intro l
    show (bigT r L (clrN l i (listT (anc r i)))).length = _
    rw [ih, clrN_len]
def basesI (r : RepoD) (a b : Int) : List Int := listT (bigT r (listT (comB r a b)) (comB r a b))
theorem isT_set {l : List Bool} {p g : Nat} : isT (l.set p false) g = (isT l g && !decide (p = g)) := by
  unfold isT
  rw [List.getD_eq_getElem?_getD, List.getD_eq_getElem?_getD]
  by_cases h : p = g
  · subst h
    rw [List.getElem?_set_self']
    cases l[p]? <;> simp
  · rw [List.getElem?_set_ne h]; simp -implicitDefEqProofs [h]
theorem clrN_isT (i : Int) {ks : List Int} (hk : ∀ k ∈ ks, 0 ≤ k) (g : Nat) : ∀ l : List Bool, isT (clrN l i ks) g = (isT l g && (decide ((g : Int) = i) || !decide ((g : Int) ∈ ks))) := by
  induction ks with
  | nil => intro l; simp -implicitDefEqProofs [clrN]
  | cons p r ih =>
    intro l
    show isT (clrN (if p = i then l else l.set p.toNat false) i r) g = _
    rw [ih (fun k hk' => hk k (by simp -implicitDefEqProofs [hk']))]
    have hp := hk p (by simp)
    split
    · rename_i h
      subst h
      cases hq : isT l g <;> simp
      by_cases hg : (g : Int) = p
      · simp -implicitDefEqProofs [hg]
      · simp -implicitDefEqProofs [hg]
    · rename_i h
      rw [isT_set]
      have e : (p.toNat = g) = ((g : Int) = p) := by apply propext; omega
      cases hq : isT l g <;> simp -implicitDefEqProofs [e]
      by_cases hg : (g : Int) = p
      · simp -implicitDefEqProofs [hg, h]
      · simp -implicitDefEqProofs [hg]
theorem listT_nn {l : List Bool} : ∀ k ∈ listT l, 0 ≤ k := fun k hk => by obtain ⟨i, _, _, rfl⟩ := listT_mem.1 hk; omega
theorem bigT_isT (r : RepoD) (L : List Int) (g : Nat) : ∀ l : List Bool, isT (bigT r L l) g = (isT l g && L.all fun i => decide ((g : Int) = i) || !decide ((g : Int) ∈ listT (anc r i))) := by
  induction L with
  | nil => intro l; simp -implicitDefEqProofs [bigT]
  | cons i L ih =>
    intro l
    show isT (bigT r L (clrN l i (listT (anc r i)))) g = _
    rw [ih, clrN_isT i listT_nn, List.all_cons, Bool.and_assoc]
def lastB (r : RepoD) (L : List Int) (x : Int) : Bool := L.all fun y => decide (x = y) || !decide (x ∈ listT (anc r y))
theorem listT_filter {l m : List Bool} (hl : l.length = m.length) (p : Int → Bool) (h : ∀ g : Nat, isT m g = (isT l g && p g)) : listT m = (listT l).filter p := by
  unfold listT listF
  rw [← hl, List.filter_map, List.filter_filter]
  congr 1
  apply List.filter_congr
  intro g _
  rw [h g, Bool.and_comm]; rfl
theorem basesI_eq (r : RepoD) (a b : Int) : basesI r a b = (listT (comB r a b)).filter (lastB r (listT (comB r a b))) :=
  listT_filter (bigT_len _ _ _).symm _ fun g => bigT_isT r _ g _
theorem isT_len {l : List Bool} {g : Nat} (h : isT l g = true) : g < l.length := by
  unfold isT at h
  rcases Nat.lt_or_ge g l.length with h2 | h2
  · exact h2
  · rw [List.getD_eq_getElem?_getD, List.getElem?_eq_none h2] at h; simp at h
theorem isT_comB {r : RepoD} {a b : Int} (g : Nat) : isT (comB r a b) g = (isT (anc r a) g && isT (anc r b) g) := by
  have hla := anc_len r a
  rcases Nat.lt_or_ge g r.commits.length with h | h
  · unfold comB
    rw [isT, List.getD_eq_getElem?_getD, List.getElem?_map, List.getElem?_range h]; rfl
  · have e1 : isT (comB r a b) g = false := by
      cases q : isT (comB r a b) g with
      | false => rfl
      | true => have := isT_len q; rw [comB_len] at this; omega
    have e2 : isT (anc r a) g = false := by
      cases q : isT (anc r a) g with
      | false => rfl
      | true => have := isT_len q; rw [hla] at this; omega
    rw [e1, e2]; rfl
theorem both8_eq (r : RepoD) (a b : Int) : both8 r a b (listT (anc r a)).length = listT (comB r a b) := by
  unfold both8
  rw [List.take_length]
  refine (listT_filter (by rw [comB_len, anc_len]) _ fun g => ?_).symm
  rw [isT_comB]
  congr 1
  rw [Bool.eq_iff_iff, decide_eq_true_eq, listT_mem]
  constructor
  · intro h; exact ⟨g, isT_len h, h, rfl⟩
  · rintro ⟨i, _, h, e⟩
    have : g = i := by omega
    rw [this]; exact h
theorem listT_nodup (l : List Bool) : (listT l).Nodup := by
  unfold listT listF
  rw [List.nodup_iff_pairwise_ne, List.pairwise_map]
  exact (List.Pairwise.filter _ List.pairwise_lt_range).imp fun h => by omega
theorem filter_range {L : List Int} (p : Int → Bool) : ((List.range L.length).filter fun i => p (L.getD i 0)).map (fun j => L.getD j 0) = L.filter p := by
  have e : L = (List.range L.length).map fun j => L.getD j 0 := by
    apply List.ext_getElem
    · simp
    · intro i h1 h2
      simp -implicitDefEqProofs [List.getD_eq_getElem?_getD, h1]
  have h : L.filter p = ((List.range L.length).map fun j => L.getD j 0).filter p := congrArg (List.filter p) e
  rw [h, List.filter_map]; rfl
theorem bases_eq (r : RepoD) (a b : Int) : basesI r a b = bases8 r a b := by
  rw [basesI_eq]
  unfold bases8
  rw [both8_eq]
  have hnd := listT_nodup (comB r a b)
  generalize listT (comB r a b) = L at *
  rw [← filter_range (lastB r L)]
  unfold baseF
  congr 1
  apply List.filter_congr
  intro i hi
  have hi : i < L.length := by simpa using hi
  have gi : L.getD i 0 = L[i] := by simp -implicitDefEqProofs [List.getD_eq_getElem?_getD, hi]
  unfold lastB bestF
  rw [Bool.eq_iff_iff, List.all_eq_true, List.all_eq_true]
  simp only [List.mem_range, Bool.or_eq_true, decide_eq_true_eq, Bool.not_eq_true', decide_eq_false_iff_not]
  constructor
  · intro h j hj
    have gj : L.getD j 0 = L[j] := by simp -implicitDefEqProofs [List.getD_eq_getElem?_getD, hj]
    rcases h L[j] (List.getElem_mem hj) with h | h
    · left
      rw [gi] at h
      exact ((List.getElem_inj hnd).1 h).symm
    · right; rw [gj]; exact h
  · intro h y hy
    obtain ⟨j, hj, rfl⟩ := List.getElem_of_mem hy
    have gj : L.getD j 0 = L[j] := by simp -implicitDefEqProofs [List.getD_eq_getElem?_getD, hj]
    rcases h j hj with h | h
    · left; subst h; exact gi
    · right; rw [gj] at h; exact h
end Vx
end Go.Proofs.YtnanellmaelipaaGreatDoor
namespace Go.Proofs.YtnanellmaelipaaGreatDoor
namespace Vx
open Go.RowKit
end Vx
end Go.Proofs.YtnanellmaelipaaGreatDoor
namespace Go.Proofs.YtnanellmaelipaaGreatDoor
namespace Vx
open Go.RowKit
end Vx
end Go.Proofs.YtnanellmaelipaaGreatDoor
namespace Go.Proofs.YtnanellmaelipaaGreatDoor
namespace Vx
open Go.RowKit
set_option maxRecDepth 8000
end Vx
end Go.Proofs.YtnanellmaelipaaGreatDoor
namespace Go.Proofs.YtnanellmaelipaaGreatDoor
namespace Vx
open Go.RowKit
set_option maxRecDepth 8000
theorem isT_mem {l : List Bool} {x : Int} (h0 : 0 ≤ x) (h1 : x.toNat < l.length) : isT l x.toNat = decide (x ∈ listT l) := by
  rw [Bool.eq_iff_iff, decide_eq_true_iff, listT_mem]
  constructor
  · intro h; exact ⟨x.toNat, h1, h, by omega⟩
  · rintro ⟨i, _, h2, rfl⟩
    simpa using h2
end Vx
end Go.Proofs.YtnanellmaelipaaGreatDoor
namespace Go.Proofs.YtnanellmaelipaaGreatDoor
namespace Vx
open Go.RowKit
set_option maxRecDepth 8000
def Con.view (k : Con) (K : Nat) (rows : k.A → k.X → List (List D)) : Con := { k with res := fun a x => .sl false K (rows a x), fin := fun _ _ => [] }
theorem Has.view {P : Program} {f : Nat} {k : Con} (H : Has P f k) (K : Nat) (rows : k.A → k.X → List (List D)) (hr : ∀ a x, k.res a x = .own 8 K (rows a x)) (hb : ∀ a, k.boxes a = []) (hl : k.lends = []) : Has P f (k.view K rows) := by
  suffices key : ∀ (a : k.A), k.pre a → ∀ (c : Cx) (_ : Kn k.need c) (vs : List Value) (β : Nat → Value) (fp : Nat → List (Nat × Nat)), c.n = k.n → c.pins = k.pins2 a β → vs.length = (k.args a).length → vs.length ≤ k.n →
      SatI c (k.start2 a) ⟨vs.toArray ++ Array.replicate (k.n - vs.length) undef, []⟩ c.w0 β fp →
      Calls P f vs.toArray c.w0 fun e w' => ∃ x : k.X, k.post a x ∧ ∃ v, e = .returned v ∧ ∃ β' fp' a', SatI c ⟨fun _ => none, get? []⟩ a' w' β' fp' ∧ RelL w' (get? []) β' c [.sl false K (rows a x)] [v] by
    exact ⟨H.enter, H.tot, H.nob, fun (a : k.A) ha c hky vs β fp hn hpin hlen hlen2 S => key a ha c hky vs β fp hn hpin hlen hlen2 S, H.bldr, H.bt.imp id fun h a => ⟨(h a).1, fun x p hp => (by cases hp)⟩⟩
  intro a ha c hky vs β fp hn hpin hlen hlen2 S
  have hp : c.pins = [] := by rw [hpin]; simp -implicitDefEqProofs [Con.pins2, hb, hl]
  refine (H.calls a ha c hky vs β fp hn hpin hlen hlen2 S).mono ?_
  rintro e w' ⟨x, hx, v, rfl, β', fp', a', E, hv⟩
  rw [hr] at hv
  have hv2 : ∃ e, Vw w' (get? (k.fin a x)) β' c false [.sl e K (rows a x)] [v] := by cases hv with | own _ h2 _ _ => exact h2
  obtain ⟨e, f, h1, h2⟩ := hv2
  refine ⟨x, hx, v, rfl, β', fp', a', ⟨?_, ?_, ?_, ?_, ?_, E.fg, E.old, E.os, E.tape, E.output, E.size, E.defers, E.tn, by simp -implicitDefEqProofs [hp]⟩, .sl ⟨e, f, h1, fun z hz => ⟨⟨?_, ?_⟩, (h2 z hz).2⟩⟩ .lnil⟩
  · intro t g av h; cases h
  · intro h blk hm; cases hm
  · intro h blk hm; cases hm
  · intro h h' blk blk' hm; cases hm
  · intro h blk hm; cases hm
  · rintro ⟨h, ty, vs, hm, _⟩; cases hm
  · intro h e k d R n cc hm; cases hm
end Vx
end Go.Proofs.YtnanellmaelipaaGreatDoor
namespace Go.Proofs.YtnanellmaelipaaGreatDoor
namespace Vx
open Go.RowKit
set_option maxRecDepth 8000
--TAB tTabB
end Vx
end Go.Proofs.YtnanellmaelipaaGreatDoor
namespace Go.Proofs.YtnanellmaelipaaGreatDoor
set_option maxHeartbeats 4000000
namespace Vx
open Go.RowKit
set_option maxRecDepth 8000
--TAB tTabB
def cCloneB : Con := .fn 8 (List Bool) (fun a => [.sl true 1 (eBools a)]) (fun a => a ≠ [] ∧ a.length ≤ 1048576) (fun a => .own 8 1 (eBools a)) (fun a => ownBools 8 a)
theorem cloneB_has : Has Tryz.prog 206 cCloneB := by
  refine has_walk mixed tTabB_ok (l := []) HasL.nil [0, 2] ((fun a n (_ : Nat) => (fun _ => noInv) a n)) [] Tryz.func206 (by kernel_rfl) (code := _) (by unfold Tryz.f206; rfl) (by kernel_rfl) (by decide) (fun _ => ⟨(), trivial⟩) (by intro h; first | exact fun _ => rfl | cases h) (by kernel_rfl) ?_
  intro (a : List Bool) ha
  obtain ⟨h0, ha⟩ : a ≠ [] ∧ a.length ≤ 1048576 := ha
  have h1 : ¬ eBools a = [] := by simpa [eBools] using h0
  simp (maxSteps := 8000000) -implicitDefEqProofs [-Bool.exists_bool, cCloneB, Con.fn, tTabB, tTab, h1]
  try dsimp only
  refine ⟨fun x hx d hd => ?_, by omega⟩
  simp only [eBools, List.mem_map] at hx
  obtain ⟨y, _, rfl⟩ := hx
  simp only [eBool, List.mem_singleton] at hd
  subst hd; trivial
def comP (r : RepoD) (a b : Int) (i : Nat) : List Bool := (List.range r.commits.length).map fun j => decide (j < i) && (isT (anc r a) j && isT (anc r b) j)
theorem comP_len (r a b i) : (comP r a b i).length = r.commits.length := by simp -implicitDefEqProofs [comP]
theorem comP_0 (r a b) : comP r a b 0 = List.replicate r.commits.length false := by
  unfold comP
  apply List.ext_getElem
  · simp
  · intro i h1 h2; simp
theorem comP_get {r a b} {i j : Nat} (h : j < (comP r a b i).length) : (comP r a b i)[j] = (decide (j < i) && (isT (anc r a) j && isT (anc r b) j)) := by
  simp -implicitDefEqProofs [comP]
theorem comP_succ {r a b} {i : Nat} : (comP r a b i).set i (isT (anc r a) i && isT (anc r b) i) = comP r a b (i + 1) := by
  apply List.ext_getElem
  · simp -implicitDefEqProofs [comP]
  · intro j h1 h2
    rw [List.getElem_set, comP_get h2]
    by_cases e : i = j
    · subst e; simp
    · rw [if_neg e, comP_get]
      have : decide (j < i + 1) = decide (j < i) := by
        rw [decide_eq_decide]; omega
      rw [this]
theorem comP_end (r a b) : comP r a b r.commits.length = comB r a b := by
  unfold comP comB
  apply List.map_congr_left
  intro j hj
  have : j < r.commits.length := by simpa using hj
  simp -implicitDefEqProofs [this]
theorem bigT_succ {r : RepoD} {L : List Int} {C : List Bool} {i : Nat} (h : i < L.length) : bigT r (L.take (i + 1)) C = clrN (bigT r (L.take i) C) L[i] (listT (anc r L[i])) := by
  unfold bigT
  rw [take_succ' h, List.foldl_append]; rfl
theorem clrN_succ {i : Int} {ks : List Int} {l : List Bool} {k : Nat} (h : k < ks.length) : clrN l i (ks.take (k + 1)) = if ks[k] = i then clrN l i (ks.take k) else (clrN l i (ks.take k)).set ks[k].toNat false := by
  unfold clrN
  rw [take_succ' h, List.foldl_append]; rfl
def bsA (r : RepoD) (a b : Int) : Inv := ⟨Nat, fun i => ⟨[(3, true, .ptr 10 0), (6, true, .nil), (7, true, .own 11 1 (eBools (anc r a))), (8, true, .own 12 1 (eBools (anc r b))), (9, true, .own 13 1 (eBools (comP r a b i))), (27, true, .int .i64 r.commits.length), (28, true, .int .i64 i)],
  [(10, bRepo r), (11, .own 4 1 true (eBools (anc r a))), (12, .own 4 1 true (eBools (anc r b))), (13, .own 4 1 true (eBools (comP r a b i)))]⟩, fun i => i ≤ r.commits.length, fun i => r.commits.length - i⟩
def bsB (r : RepoD) (a b : Int) : Inv := ⟨Nat, fun i => ⟨[(3, true, .ptr 10 0), (6, true, .nil), (11, true, .own 14 1 (eBools (bigT r ((listT (comB r a b)).take i) (comB r a b)))), (48, true, .own 15 1 (eInts (listT (comB r a b)))), (49, true, .int .i64 (listT (comB r a b)).length), (50, true, .int .i64 i)],
  [(10, bRepo r), (14, .own 4 1 true (eBools (bigT r ((listT (comB r a b)).take i) (comB r a b)))), (15, .own 3 1 true (eInts (listT (comB r a b))))]⟩, fun i => i ≤ (listT (comB r a b)).length, fun i => (listT (comB r a b)).length - i⟩
def bsX (r : RepoD) (a b : Int) (g : Nat) : Int := (listT (comB r a b)).getD g 0
def bsT (r : RepoD) (a b : Int) (g k : Nat) : List Bool := clrN (bigT r ((listT (comB r a b)).take g) (comB r a b)) (bsX r a b g) ((listT (anc r (bsX r a b g))).take k)
def bsC (r : RepoD) (a b : Int) (g : Nat) : Inv := ⟨Nat, fun k => ⟨[(3, true, .ptr 10 0), (6, true, .nil), (11, true, .own 14 1 (eBools (bsT r a b g k))), (13, true, .int .i64 (bsX r a b g)), (48, true, .own 15 1 (eInts (listT (comB r a b)))), (49, true, .int .i64 (listT (comB r a b)).length), (50, true, .int .i64 g), (57, true, .own 9 1 (eInts (listT (anc r (bsX r a b g))))), (58, true, .int .i64 (listT (anc r (bsX r a b g))).length), (59, true, .int .i64 k)],
  [(10, bRepo r), (14, .own 4 1 true (eBools (bsT r a b g k))), (15, .own 3 1 true (eInts (listT (comB r a b)))), (9, .own 3 1 true (eInts (listT (anc r (bsX r a b g)))))]⟩, fun k => g < (listT (comB r a b)).length ∧ k ≤ (listT (anc r (bsX r a b g))).length, fun k => (listT (anc r (bsX r a b g))).length - k⟩
def bsInv (r : RepoD) (a b : Int) (n g : Nat) : Inv := if n = 4 then bsA r a b else if n = 10 then bsB r a b else bsC r a b g
theorem bsInv_4 (r a b g) : bsInv r a b 4 g = bsA r a b := rfl
theorem bsInv_10 (r a b g) : bsInv r a b 10 g = bsB r a b := rfl
theorem bsInv_13 (r a b g) : bsInv r a b 13 g = bsC r a b g := rfl
def cBases : Con := .fn 73 (RepoD × Int × Int) (fun a => [vRepo a.1, .int .i64 a.2.1, .int .i64 a.2.2]) (fun a => repoI a.1 = true ∧ (0 ≤ a.2.1 ∧ a.2.1 < a.1.commits.length) ∧ (0 ≤ a.2.2 ∧ a.2.2 < a.1.commits.length)) (fun a => .own 8 1 (eInts (basesI a.1 a.2.1 a.2.2))) (fun a => ownInts 8 (basesI a.1 a.2.1 a.2.2))
theorem bases_has : Has Tryz.prog 170 cBases := by
  refine has_walk mixed tTabB_ok (l := [(80, cAncestors), (206, cCloneB), (148, cListOf)]) (HasL.cons ancestors_has (HasL.cons cloneB_has (HasL.cons listOf_has HasL.nil))) [0, 1, 2, 3, 6, 7, 8, 9, 10, 11, 13, 15, 27, 28, 48, 49, 50, 57, 58, 59] (fun a => bsInv a.1 a.2.1 a.2.2) [] Tryz.func170 (by kernel_rfl) (code := _) (by unfold Tryz.f170; rfl) (by kernel_rfl) (by decide) (fun _ => ⟨(), trivial⟩) (by intro h; first | exact fun _ => rfl | cases h) (by kernel_rfl) ?_
  intro a ha
  obtain ⟨r, a, b⟩ := a
  obtain ⟨h1, h2, h3⟩ : repoI r = true ∧ (0 ≤ a ∧ a < r.commits.length) ∧ (0 ≤ b ∧ b < r.commits.length) := ha
  have h6 := repo_n h1
  simp (maxSteps := 8000000) [cBases, cAncestors, cCloneB, cListOf, Con.fn, tTabB, tTab, bsInv_4, bsInv_10, bsInv_13, bsA, bsB, bsC, bRepo_def]
  try dsimp only
  try simp only [and_assoc, exists_eq_left, exists_and_left, RepoD.ex1, RepoD.eta]
  have hal := anc_len r
  have hC := comP_len r a b
  have hcb := comB_len r a b
  refine ⟨h1, h2.1, h2.2, h1, h3.1, h3.2, fun _ => ⟨by omega, fun _ _ => ⟨trivial, trivial, ⟨0, ?_, rfl, trivial, trivial, ?_, Nat.zero_le _⟩, fun i hi => ⟨fun hlt => ?_, fun hge => ?_⟩⟩⟩⟩
  · rw [comP_0, eBools_rep]
  · rw [comP_0, eBools_rep]
  · have la : i < (anc r a).length := by rw [hal]; exact hlt
    have lb : i < (anc r b).length := by rw [hal]; exact hlt
    have lc : i < (comP r a b i).length := by rw [hC]; exact hlt
    have e1 : Option.map eBool (anc r a)[i]? = some (eBool (anc r a)[i]) := by simp -implicitDefEqProofs [la]
    have e2 : Option.map eBool (anc r b)[i]? = some (eBool (anc r b)[i]) := by simp -implicitDefEqProofs [lb]
    have s1 := comP_succ (r := r) (a := a) (b := b) (i := i)
    have i1 : isT (anc r a) i = (anc r a)[i] := by simp -implicitDefEqProofs [isT, List.getD_eq_getElem?_getD, la]
    have i2 : isT (anc r b) i = (anc r b)[i] := by simp -implicitDefEqProofs [isT, List.getD_eq_getElem?_getD, lb]
    rw [i1, i2] at s1
    rw [e1, e2]
    generalize (anc r a)[i] = x at *
    generalize (anc r b)[i] = y at *
    have fin : ∀ z, z = (x && y) → ∃ t', eBools (comP r a b t') = (eBools (comP r a b i)).set i [D.bool z] ∧ (t' : Int) = i + 1 ∧ (eBools (comP r a b i)).set i [D.bool z] = eBools (comP r a b t') ∧ t' ≤ r.commits.length ∧ r.commits.length - t' < r.commits.length - i := fun z hz => by
      have e : (eBools (comP r a b i)).set i [D.bool z] = eBools (comP r a b (i + 1)) := by rw [← s1, hz]; exact eBools_set _ _ _
      exact ⟨i + 1, e.symm, by omega, e, by omega, by omega⟩
    simp -implicitDefEqProofs [eBool, D.asBool, lc, la, lb]
    exact ⟨fun hx => ⟨by omega, by omega, fun _ _ => fin y (by rw [hx]; rfl)⟩, fun hx => ⟨by omega, by omega, fun _ _ => fin false (by rw [hx]; rfl)⟩⟩
  · have : i = r.commits.length := by omega
    subst this
    rw [comP_end]
    have hne : ¬ comB r a b = [] := fun e => by rw [e] at hcb; simp at hcb; omega
    have hmem : ∀ x ∈ listT (comB r a b), 0 ≤ x ∧ x < r.commits.length := fun x hx => by
      obtain ⟨i, q1, _, rfl⟩ := listT_mem.1 hx
      rw [hcb] at q1
      omega
    refine ⟨hne, by omega, by omega, fun _ => ⟨⟨0, by simp -implicitDefEqProofs [bigT], rfl, rfl, rfl, by simp -implicitDefEqProofs [bigT], rfl, Nat.zero_le _⟩, fun i hi => ⟨fun hlt => ⟨hlt, fun _ => ?_⟩, fun hge => ?_⟩⟩⟩
    · have hx := hmem _ (List.getElem_mem hlt)
      have e1 : Option.map eInt (listT (comB r a b))[i]? = some (eInt (listT (comB r a b))[i]) := by simp -implicitDefEqProofs [hlt]
      have hgx : bsX r a b i = (listT (comB r a b))[i] := by simp -implicitDefEqProofs [bsX, List.getD_eq_getElem?_getD, hlt]
      have hs := bigT_succ (r := r) (C := comB r a b) hlt
      have hT : ∀ k, bsT r a b i k = clrN (bigT r ((listT (comB r a b)).take i) (comB r a b)) (bsX r a b i) ((listT (anc r (bsX r a b i))).take k) := fun _ => rfl
      have hbl := bigT_len r ((listT (comB r a b)).take i) (comB r a b)
      rw [e1]
      rw [← hgx] at hs hx ⊢
      generalize hxx : bsX r a b i = x at *
      simp -implicitDefEqProofs [eInt, D.asInt, h1, hx.1, hx.2, hal]
      refine ⟨by omega, fun _ => ⟨i, ?_⟩⟩
      rw [hxx]
      have hLm : ∀ y ∈ listT (anc r x), 0 ≤ y ∧ y < r.commits.length := fun y hy => by
        obtain ⟨i, q1, _, rfl⟩ := listT_mem.1 hy
        rw [hal] at q1
        omega
      generalize listT (anc r x) = L at *
      have hbT : ∀ k, (bsT r a b i k).length = r.commits.length := fun k => by rw [hT, clrN_len, hbl, hcb]
      refine ⟨⟨0, by rw [hT]; simp -implicitDefEqProofs [clrN], rfl, rfl, rfl, rfl, rfl, by rw [hT]; simp -implicitDefEqProofs [clrN], rfl, hlt, Nat.zero_le _⟩, fun k hg hk => ⟨fun hl2 => ⟨hl2, fun _ => ?_⟩, fun hge2 => ?_⟩⟩
      · have e2 : Option.map eInt L[k]? = some (eInt L[k]) := by simp -implicitDefEqProofs [List.getElem?_eq_getElem hl2]
        have hy := hLm _ (List.getElem_mem hl2)
        have hc := clrN_succ (i := x) (l := bigT r ((listT (comB r a b)).take i) (comB r a b)) hl2
        rw [← hT, ← hT] at hc
        have hbk := hbT k
        rw [e2]
        generalize L[k] = y at *
        simp -implicitDefEqProofs [eInt, hbk]
        exact ⟨fun hne => ⟨hy.1, by omega, fun _ _ => ⟨by omega, by omega, by omega, fun _ _ => ⟨k + 1, by rw [hc, if_neg hne]; exact (eBools_set _ _ _).symm, by omega, by rw [hc, if_neg hne]; exact eBools_set _ _ _, hg, by omega, by omega⟩⟩⟩,
          fun heq => ⟨by omega, by omega, fun _ _ => ⟨k + 1, by rw [hc, if_pos heq], by omega, by rw [hc, if_pos heq], hg, by omega, by omega⟩⟩⟩
      · have : k = L.length := by omega
        subst this
        have e3 : bsT r a b i L.length = bigT r ((listT (comB r a b)).take (i + 1)) (comB r a b) := by rw [hT, List.take_length, hs]
        rw [e3]
        exact ⟨by omega, by omega, fun _ _ => ⟨i + 1, rfl, by omega, rfl, by omega, by omega⟩⟩
    · have : i = (listT (comB r a b)).length := by omega
      subst this
      rw [List.take_length]
      have hbl := bigT_len r (listT (comB r a b)) (comB r a b)
      exact ⟨by omega, rfl, rfl⟩
end Vx
end Go.Proofs.YtnanellmaelipaaGreatDoor
set_option linter.unusedVariables false
set_option linter.unusedSimpArgs false
namespace Go.Proofs.YtnanellmaelipaaGreatDoor
namespace Vx
open Go.RowKit Go.Lib
theorem run_copy_cells_k {P : Program} (k : Nat) (w : World) (dT sT ty elem : TypeId) (b o dLen dCap : Nat) (a : Addr) (sLen sCap : Nat) (cs : List Value)
    (hu : P.underlying dT = some (.slice elem)) (hs : (P.info? elem).map (·.size) = some k) (hn : cs.length = Nat.min sLen dLen * k)
    (hsrc : ∀ (j : Nat) v, cs[j]? = some v → w.cell? (a.add j) = some v) (hc : ∀ j, j < cs.length → (w.cell? ⟨b, o + j, none⟩).isSome = true) (hf : ∀ j, j < cs.length → w.frozen? ⟨b, o + j, none⟩ = false) (h1 : ∀ v ∈ cs, v.oneCell' = true) :
    (Builtin.copy_ #[dT, sT] ty #[.slice (some ⟨b, o, none⟩) dLen dCap, .slice (some a) sLen sCap]).run P w = .ok (goInt (Nat.min sLen dLen)) (w.setCells b o cs) := by
  have hl := run_loadCells_list (P := P) w a cs hsrc
  have hst := run_storeCells_cells (P := P) b o cs 0 w (by simpa using hc) (by simpa using hf) h1
  cases hq : P.info? elem with
  | none => simp [hq] at hs
  | some i =>
    have hi : i.size = k := by simpa [hq] using hs
    simp [Builtin.copy_, run_underlying hu, Builtin.lenOf, Builtin.firstCells, sizeOf, typeInfo, hq, hi, ← hn, hl, hst]
theorem wp_copy_runI {P : Program} (w : World) {o : Oper} {a : Act} {K : Act → World → Prop} {Q : Exit → Act → World → Prop} (d s : Operand) (t t' : TypeId)
    (ho : o.op = .call { callee := .builtin .copy, args := #[d, s], argTypes := #[t, t'] }) (v u : Value) (hd : a.eval d = v) (hs : a.eval s = u) {v' : Value} {w' : World}
    (hr : (Builtin.copy_ #[t, t'] o.type #[v, u]).run P w = .ok v' w') (h : K (a.put o.dst v') w') : o.wp P a w K Q := by
  unfold Oper.wp execOp
  simp only [ho, resolve, invoke, builtin, Sem.run_bind, Sem.run_pure, Result.andThen_ok, List.map_toArray, List.map_cons, List.map_nil, hd, hs, hr]
  exact h
theorem wpList_copy_runI {P : Program} (w : World) {ops : Array Oper} {rest : List Oper} {o : Oper} {a : Act} {Q : Exit → Act → World → Prop} (hgd : o.guard = none) (d s : Operand) (t t' : TypeId)
    (ho : o.op = .call { callee := .builtin .copy, args := #[d, s], argTypes := #[t, t'] }) (v u : Value) (hd : a.eval d = v) (hs : a.eval s = u) {v' : Value} {w' : World}
    (hr : (Builtin.copy_ #[t, t'] o.type #[v, u]).run P w = .ok v' w') (h : wpList P ops Q rest (a.put o.dst v') w') : wpList P ops Q (o :: rest) a w :=
  wpList_plain hgd fun _ hK => wp_copy_runI w d s t t' ho v u hd hs hr (hK _ _ h)
theorem step_copy_runI {P : Program} {ops : Array Oper} {o : Oper} {a : Act} {w : World} {K : Act → World → Prop} {Q : Exit → Act → World → Prop} {E : Prop}
    (hg : o.guard = none) (d x : Operand) (dT sT : TypeId) (hop : o.op = Op.call { callee := Callee.builtin Builtin.copy, args := #[d, x], argTypes := #[dT, sT] })
    (v u : Value) (hd : a.eval d = v) (hx : a.eval x = u) {v' : Value} {w' : World} (hr : (Builtin.copy_ #[dT, sT] o.type #[v, u]).run P w = .ok v' w') (hK : K (a.put o.dst v') w') :
    if Region.wanted o (yielded ops a.tmps) = true then Oper.wp P o a w K Q else E := by
  have hw : Region.wanted o (yielded ops a.tmps) = true := by simp [Region.wanted, hg]
  rw [if_pos hw]
  unfold Oper.wp
  simp [execOp, hop, resolve, invoke, builtin, hd, hx, hr, Result.andThen]
  exact hK
theorem isSome_setCells' (b : Nat) (vs : List Value) (o : Nat) (w : World) (h : ∀ j, j < vs.length → (w.cell? ⟨b, o + j, none⟩).isSome = true) (k : Nat) (hk : (w.cell? ⟨b, k, none⟩).isSome = true) : ((w.setCells b o vs).cell? ⟨b, k, none⟩).isSome = true := by
  by_cases hin : o ≤ k ∧ k < o + vs.length
  · have := World.cell?_setCells_in b vs o w h (k - o) (by omega)
    rw [show o + (k - o) = k by omega] at this
    rw [this]; rfl
  · rw [World.cell?_setCells_out b vs o w ⟨b, k, none⟩ (fun _ _ => by show k < o ∨ o + vs.length ≤ k; omega)]
    exact hk
end Vx
end Go.Proofs.YtnanellmaelipaaGreatDoor
namespace Go.Proofs.YtnanellmaelipaaGreatDoor
namespace Vx
open Go.RowKit
theorem only8 {c : Cx} {s : St} {a : Act} {w : World} {β : Nat → Value} {fp : Nat → List (Nat × Nat)} (S : SatI c s a w β fp) (hp : c.pins = []) {e k : Nat} {R : List (List D)} (h8 : s.m 8 = some (.own e k true R)) :
    ∃ a', SatI c ⟨fun _ => none, get? [(8, .own e k true R)]⟩ a' w β fp ∧ RelL w (get? [(8, .own e k true R)]) β c [.own 8 k R] [β 8] := by
  have hb : BlkOk w (get? [(8, Blk.own e k true R)]) β c 8 (fp 8) (.own e k true R) := by
    obtain ⟨p1, p2, p3⟩ := S.mem 8 _ h8
    refine ⟨p1, p2, ?_⟩
    rcases p3 with p3 | ⟨b', cap, cs, f0, r1, r2, r3, r4, r5, r6, r7, r8⟩
    · exact .inl p3
    · exact .inr ⟨b', cap, cs, f0, r1, r2, r3, r4, r5, r6, r7, by simp⟩
  refine ⟨⟨Array.replicate c.n undef, []⟩, ⟨?_, ?_, ?_, ?_, ?_, S.fg, S.old, S.os, S.tape, S.output, S.size, rfl, by simp, by simp [hp]⟩, ?_⟩
  · intro t g av h; cases h
  · intro h blk hm; obtain ⟨rfl, rfl⟩ := get1 hm; exact hb
  · intro h blk hm; obtain ⟨rfl, rfl⟩ := get1 hm; exact S.nodup 8 _ h8
  · intro h h' blk blk' hm hm' hne; obtain ⟨rfl, rfl⟩ := get1 hm; obtain ⟨rfl, rfl⟩ := get1 hm'; exact absurd rfl hne
  · intro h blk hm x hx; obtain ⟨rfl, rfl⟩ := get1 hm; exact S.free 8 _ h8 x hx
  · exact own_rel (h := 8) (fps := fp) rfl hb (S.nodup 8 _ h8) (fun h' blk' hm hne => by obtain ⟨rfl, rfl⟩ := get1 hm; exact absurd rfl hne) (S.free 8 _ h8)
theorem two_cells {w : World} {b : Nat} {cs : Array Value} {ty : Nat} {n : Nat} (h : w.heap[b]? = some (.cells cs ty (0, 0))) : ∀ (j : Nat) v, (cs.toList.take n)[j]? = some v → w.cell? ⟨b, j, none⟩ = some v := by
  intro j v hj
  rw [World.cell_of h]
  rw [List.getElem?_take] at hj
  split at hj
  · simpa using hj
  · cases hj
theorem ins_cells {L olds news R : List Value} {i n : Nat} (hLl : (n + 1) * 2 ≤ L.length) (ho : olds.length = n * 2) (hn : news.length = 2) (hi : i ≤ n) (hL : L.take (i * 2) = olds.take (i * 2)) :
    (((L.take ((i + 1) * 2) ++ (olds.drop (i * 2) ++ R)).take (i * 2)) ++ (news ++ ((L.take ((i + 1) * 2) ++ (olds.drop (i * 2) ++ R)).drop (i * 2 + news.length)))).take ((n + 1) * 2) = olds.take (i * 2) ++ (news ++ olds.drop (i * 2)) := by
  have hl : (L.take ((i + 1) * 2)).length = (i + 1) * 2 := by rw [List.length_take]; omega
  have a1 : (L.take ((i + 1) * 2) ++ (olds.drop (i * 2) ++ R)).take (i * 2) = olds.take (i * 2) := by rw [List.take_append_of_le_length (by omega), List.take_take, Nat.min_eq_left (by omega), hL]
  have a2 : (L.take ((i + 1) * 2) ++ (olds.drop (i * 2) ++ R)).drop (i * 2 + news.length) = olds.drop (i * 2) ++ R := List.drop_left' (by omega)
  rw [a1, a2]
  rw [show olds.take (i * 2) ++ (news ++ (olds.drop (i * 2) ++ R)) = (olds.take (i * 2) ++ (news ++ olds.drop (i * 2))) ++ R by simp]
  exact List.take_left' (by simp only [List.length_append, List.length_take, List.length_drop]; omega)
theorem ins_cells2 {L olds news R : List Value} {i n m : Nat} (hLl : (n + 1) * 2 ≤ L.length) (ho : olds.length = n * 2) (hn : news.length = 2) (hi : i ≤ n) (hL : L.take (i * 2) = olds.take (i * 2)) :
    (((L.take (i * 2) ++ (news ++ L.drop m)).take ((i + 1) * 2)) ++ (olds.drop (i * 2) ++ R)).take ((n + 1) * 2) = olds.take (i * 2) ++ (news ++ olds.drop (i * 2)) := by
  have hl : (L.take (i * 2)).length = i * 2 := by rw [List.length_take]; omega
  have a1 : (L.take (i * 2) ++ (news ++ L.drop m)).take ((i + 1) * 2) = olds.take (i * 2) ++ news := by
    rw [← List.append_assoc, hL]
    rw [hL] at hl
    exact List.take_left' (by rw [List.length_append]; omega)
  rw [a1]
  rw [show (olds.take (i * 2) ++ news) ++ (olds.drop (i * 2) ++ R) = (olds.take (i * 2) ++ (news ++ olds.drop (i * 2))) ++ R by simp]
  exact List.take_left' (by simp only [List.length_append, List.length_take, List.length_drop]; omega)
end Vx
end Go.Proofs.YtnanellmaelipaaGreatDoor
namespace Go.Proofs.YtnanellmaelipaaGreatDoor
set_option maxHeartbeats 4000000
namespace Vx
open Go.RowKit Go.Lib
set_option maxRecDepth 100000 in
theorem insH_shift (b n c i vb m vc : Nat) (cs vs : List Value) (w : World) (hi : i < n) (hm : 0 < m) (hroom : n + m ≤ c) (hc63 : c ≤ 9223372036854775807) (hvb : vb ≠ b)
    (hcl : cs.length = n * 2) (hvl : vs.length = m * 2)
    (hcs : ∀ (j : Nat) v, cs[j]? = some v → w.cell? ⟨b, j, none⟩ = some v) (hsp : ∀ j, j < (n + m) * 2 → (w.cell? ⟨b, j, none⟩).isSome = true) (hfz : ∀ j, j < (n + m) * 2 → w.frozen? ⟨b, j, none⟩ = false)
    (hvs : ∀ (j : Nat) v, vs[j]? = some v → w.cell? ⟨vb, j, none⟩ = some v) (h1c : ∀ v ∈ cs, v.oneCell' = true) (h1v : ∀ v ∈ vs, v.oneCell' = true)
    (tA tB : TypeId) (kA kB : Nat) (hsa : w.shape? vb = some (tA, kA)) (hsb : w.shape? b = some (tB, kB)) (hkB : kB ≠ 0) (hfa : w.frozen? ⟨vb, 0, none⟩ = false) (hfe : w.frozen? ⟨vb, kA, none⟩ = false) :
    Calls Tryz.prog 156 #[.slice (some ⟨b, 0, none⟩) n c, .int .i64 i, .slice (some ⟨vb, 0, none⟩) m vc] w fun e w' =>
      e = .returned (.slice (some ⟨b, 0, none⟩) (n + m) c) ∧ w' = (w.drew.setCells b ((i + m) * 2) (cs.drop (i * 2))).setCells b (i * 2) vs := by
  have hz1 : ¬ ((m : Int) = 0) := by omega
  have hz2 : ¬ ((i : Int) = (n : Int)) := by omega
  have hsz : (Tryz.prog.info? 34).map (·.size) = some 2 := by kernel_rfl
  have hov : ∀ lb cb, (callFunc 199 #[.slice (some ⟨vb, 0, none⟩) m vc, .slice (some ⟨b, (i + m) * 2, none⟩) lb cb]).run Tryz.prog w = .ok (.value (.bool false)) w := fun lb cb => by
    rw [run_callFunc_extern Tryz.func199 (by kernel_rfl) (by kernel_rfl) (by kernel_rfl) (e := Extern.SlicesOverlaps.overlaps #[24, 24] #[4]) (by kernel_rfl),
      Lib.run_overlaps_apart w 24 4 34 Tryz.underlying24 2 Tryz.sizeOf34 ⟨vb, 0, none⟩ ⟨b, (i + m) * 2, none⟩ m vc lb cb hvb tA tB kA kB hsa hsb hkB hfa hfe]
    rfl
  have hdl : (cs.drop (i * 2)).length = (n - i) * 2 := by rw [List.length_drop, hcl]; omega
  have mixed : Tryz.prog.follows .mixedOrders = true := mixed
  have hw1 : IntKind.i64.wrap ((i : Int) + (m : Int)) = (i : Int) + (m : Int) := by rw [IntKind.wrap_i64]; omega
  have hb1 : (0 : Int) ≤ (i : Int) + (m : Int) := by omega
  have hin : i ≤ n := by omega
  have htn : ((i : Int) + (m : Int)).toNat = i + m := by omega
  have hb2 : ¬ (c = i + m) := by omega
  have hb3 : (i : Int) ≤ (n : Int) + (m : Int) := by omega
  have hb4 : ¬ (c = i) := by omega
  have hcp1 : ∀ ty dc sc, (Builtin.copy_ #[24, 24] ty #[.slice (some ⟨b, (i + m) * 2, none⟩) (n + m - (i + m)) dc, .slice (some ⟨b, i * 2, none⟩) (n + m - i) sc]).run Tryz.prog w.drew = .ok (goInt (Nat.min (n + m - i) (n + m - (i + m)))) (w.drew.setCells b ((i + m) * 2) (cs.drop (i * 2))) := fun ty dc sc =>
    run_copy_cells_k 2 w.drew _ _ ty 34 b ((i + m) * 2) (n + m - (i + m)) dc ⟨b, i * 2, none⟩ (n + m - i) sc (cs.drop (i * 2)) Tryz.underlying24 hsz (by rw [hdl]; simp only [Nat.min_def]; split <;> omega)
      (fun j v hj => by rw [Addr.add_lit]; exact hcs (i * 2 + j) v (by rwa [List.getElem?_drop] at hj))
      (fun j hj => hsp _ (by omega)) (fun j hj => hfz _ (by omega)) (fun v hv => h1c v (List.mem_of_mem_drop hv))
  obtain ⟨W1, hW1⟩ : ∃ W1, W1 = w.drew.setCells b ((i + m) * 2) (cs.drop (i * 2)) := ⟨_, rfl⟩
  have hsp1 : ∀ k, k < (n + m) * 2 → (W1.cell? ⟨b, k, none⟩).isSome = true := fun k hk => by
    rw [hW1]
    exact isSome_setCells' b (cs.drop (i * 2)) ((i + m) * 2) w.drew (fun j hj => hsp _ (by omega)) _ (hsp k hk)
  have hcp2 : ∀ (W : World), (∀ x, W.cell? x = W1.cell? x) → (∀ x, W.frozen? x = W1.frozen? x) → ∀ ty dc, (Builtin.copy_ #[24, 24] ty #[.slice (some ⟨b, i * 2, none⟩) (n + m - i) dc, .slice (some ⟨vb, 0, none⟩) m vc]).run Tryz.prog W = .ok (goInt (Nat.min m (n + m - i))) (W.setCells b (i * 2) vs) := fun W hWc hWf ty dc =>
    run_copy_cells_k 2 W _ _ ty 34 b (i * 2) (n + m - i) dc ⟨vb, 0, none⟩ m vc vs Tryz.underlying24 hsz (by rw [hvl]; simp only [Nat.min_def]; split <;> omega)
      (fun j v hj => by
        rw [Addr.add_lit, Nat.zero_add, hWc, hW1, World.cell?_setCells_out b _ _ _ _ (fun h _ => absurd h hvb)]
        exact hvs j v hj)
      (fun j hj => by rw [hWc]; exact hsp1 _ (by omega)) (fun j hj => by rw [hWf, hW1, World.frozen?_setCells]; exact hfz _ (by omega)) h1v
  rw [← hW1] at hcp1
  go_enter Tryz.func156, Tryz.ntmps156
  go_wp2_with (simp only [hov])
  go_region_law_o (refine step_copy_runI rfl _ _ 24 24 rfl _ _ (by simp [Act.eval, Act.put]) (by simp [Act.eval, Act.put]) (hcp1 _ _ _) ?_)
  go_wp2_with (at_builtin; refine wpList_copy_runI _ rfl _ _ 24 24 rfl _ _ rfl rfl (hcp2 _ (fun _ => rfl) (fun _ => rfl) _ _) ?_)
  go_ret
  first | exact ⟨rfl, rfl⟩ | exact ⟨rfl, by rw [hW1]⟩
set_option maxRecDepth 100000 in
theorem insH_end (v1 v2 : Value) (base : Option Addr) (n c vb m vc : Nat) (w w' : World) (v' : Value) (hm : 0 < m) (h1 : v1 = .slice base n c) (hn : n ≤ c) (hb : base = none → c = 0) (h2 : v2 = .slice (some ⟨vb, 0, none⟩) m vc)
    (hrun : (Builtin.append_ #[24, 24] 24 #[v1, v2]).run Tryz.prog w = .ok v' w') :
    Calls Tryz.prog 156 #[v1, .int .i64 n, v2] w fun e w1 => e = .returned v' ∧ w1 = w' := by
  subst h1 h2
  have hz1 : ¬ ((m : Int) = 0) := by omega
  have mixed : Tryz.prog.follows .mixedOrders = true := mixed
  go_enter Tryz.func156, Tryz.ntmps156
  cases base with
  | none =>
    have h0 := hb rfl
    have h00 : n = 0 := by omega
    subst h0 h00
    go_wp2_with (at_builtin; refine Lib.wpList_append_run _ rfl _ _ _ _ rfl _ _ rfl rfl _ _ hrun ?_)
    go_ret
    exact ⟨rfl, rfl⟩
  | some a =>
    obtain ⟨ab, ao, asp⟩ := a
    go_wp2_with (at_builtin; refine Lib.wpList_append_run _ rfl _ _ _ _ rfl _ _ rfl rfl _ _ hrun ?_)
    all_goals (go_ret; exact ⟨rfl, rfl⟩)
set_option maxRecDepth 100000 in
theorem insH_grow (b n c i vb m vc : Nat) (cs vs : List Value) (w : World) (hi : i < n) (hm : 0 < m) (hnc : n ≤ c) (hroom : c < n + m) (hbig : (n + m) * 24 ≤ 140737488355328)
    (hcl : cs.length = n * 2) (hvl : vs.length = m * 2)
    (hcs : ∀ (j : Nat) v, cs[j]? = some v → w.cell? ⟨b, j, none⟩ = some v)
    (hvs : ∀ (j : Nat) v, vs[j]? = some v → w.cell? ⟨vb, j, none⟩ = some v) (h1c : ∀ v ∈ cs, v.oneCell' = true) (h1v : ∀ v ∈ vs, v.oneCell' = true) :
    Calls Tryz.prog 156 #[.slice (some ⟨b, 0, none⟩) n c, .int .i64 i, .slice (some ⟨vb, 0, none⟩) m vc] w fun e w' =>
      e = .returned (.slice (some ⟨w.heap.size, 0, none⟩) (n + m) (grownCap w (n + m) c 34)) ∧
      w' = (((w.alloc (.cells ((cs.take (i * 2)).toArray ++ Builtin.zeroCells #[.string ⟨#[]⟩, .int .i64 0] (n + m - i) ++ Builtin.zeroCells #[.string ⟨#[]⟩, .int .i64 0] (grownCap w (n + m) c 34 - (n + m))) 34)).drew.setCells w.heap.size (i * 2) vs).drew).setCells w.heap.size ((i + m) * 2) (cs.drop (i * 2)) := by
  have mixed : Tryz.prog.follows .mixedOrders = true := mixed
  obtain ⟨i0, hi0, hz0, hzs, hzb⟩ : ∃ i0, Tryz.prog.info? 34 = some i0 ∧ i0.zero = some (.agg #[.string ⟨#[]⟩, .int .i64 0]) ∧ i0.size = 2 ∧ i0.bytes = 24 :=
    info_parts (show (Tryz.prog.info? 34).map (fun i => (i.zero, i.size, i.bytes)) = some (some (.agg #[.string ⟨#[]⟩, .int .i64 0]), 2, 24) by kernel_rfl)
  have hz1 : ¬ ((m : Int) = 0) := by omega
  have hz2 : ¬ ((i : Int) = (n : Int)) := by omega
  have hz3 : (c : Int) < (n : Int) + (m : Int) := by omega
  have hsz : (Tryz.prog.info? 34).map (·.size) = some 2 := by rw [hi0]; simp [hzs]
  have hbw : b < w.heap.size := block_lt_of_cell (hcs 0 _ (List.getElem?_eq_getElem (by omega)))
  have hvw : vb < w.heap.size := block_lt_of_cell (hvs 0 _ (List.getElem?_eq_getElem (by omega)))
  have hkk : (n : Int) + (m : Int) - (i : Int) = ((n + m - i : Nat) : Int) := by omega
  have hik : i + (n + m - i) = n + m := by omega
  have hold : (Builtin.firstCells i0.size i (.slice (some ⟨b, 0, none⟩) i c)).run Tryz.prog w.drew = .ok (cs.take (i * 2)).toArray w.drew := by
    rw [hzs]
    exact run_firstCells_some w.drew 2 i ⟨b, 0, none⟩ i c (cs.take (i * 2)) (by rw [List.length_take]; omega) (fun j v hj => by
      rw [Addr.add_lit]
      rw [List.getElem?_take] at hj
      split at hj
      · rw [Nat.zero_add]; exact hcs j v hj
      · cases hj)
  have hrz : ∀ ty, (Builtin.append_ #[24, 3] ty #[.slice (some ⟨b, 0, none⟩) i c, .int .i64 ((n : Int) + (m : Int) - (i : Int))]).run Tryz.prog w =
      .ok (.slice (some ⟨w.heap.size, 0, none⟩) (n + m) (grownCap w (n + m) c 34)) (w.drew.alloc (.cells ((cs.take (i * 2)).toArray ++ Builtin.zeroCells #[.string ⟨#[]⟩, .int .i64 0] (n + m - i) ++ Builtin.zeroCells #[.string ⟨#[]⟩, .int .i64 0] (grownCap w (n + m) c 34 - (n + m))) 34)) := fun ty => by
    have h := Lib.run_append_grow_zeros w 24 3 ty 34 i0 _ .i64 .i64 Tryz.underlying24 Tryz.underlying3 hi0 hz0 (some ⟨b, 0, none⟩) i c (cs.take (i * 2)) hold (n + m - i) (by omega) (by omega) (by omega) (by omega) (by rw [hzb]; omega) (by rw [hzb, hik]; exact growslice_fits hroom hbig)
    rw [hik] at h
    rw [hkk]
    exact h
  obtain ⟨G, hG⟩ : ∃ G, G = grownCap w (n + m) c 34 := ⟨_, rfl⟩
  obtain ⟨ROW, hROW⟩ : ∃ ROW : Array Value, ROW = (cs.take (i * 2)).toArray ++ Builtin.zeroCells #[.string ⟨#[]⟩, .int .i64 0] (n + m - i) ++ Builtin.zeroCells #[.string ⟨#[]⟩, .int .i64 0] (G - (n + m)) := ⟨_, rfl⟩
  rw [← hG] at hrz ⊢
  rw [← hROW] at hrz ⊢
  have hRl : (n + m) * 2 ≤ ROW.size := by
    rw [hROW]
    simp [Builtin.zeroCells]
    omega
  obtain ⟨W1, hW1⟩ : ∃ W1, W1 = w.drew.alloc (.cells ROW 34) := ⟨_, rfl⟩
  rw [← hW1] at hrz
  have hN : ∀ j, j < (n + m) * 2 → (W1.cell? ⟨w.heap.size, j, none⟩).isSome = true := fun j hj => by
    rw [hW1, World.cell?_alloc_at (w := w.drew) ROW _ w.heap.size j rfl, Array.getElem?_eq_getElem (by omega)]; rfl
  have hNf : ∀ j, W1.frozen? ⟨w.heap.size, j, none⟩ = false := fun j => by rw [hW1]; exact World.frozen?_alloc_at (w := w.drew) ROW _ w.heap.size j rfl
  have hOb : ∀ j v, w.cell? ⟨b, j, none⟩ = some v → W1.cell? ⟨b, j, none⟩ = some v := fun j v h => by rw [hW1, World.cell?_alloc_past (w := w.drew) _ b j hbw]; exact h
  have hOv : ∀ j v, w.cell? ⟨vb, j, none⟩ = some v → W1.cell? ⟨vb, j, none⟩ = some v := fun j v h => by rw [hW1, World.cell?_alloc_past (w := w.drew) _ vb j hvw]; exact h
  have hcpA : ∀ (W : World), (∀ x, W.cell? x = W1.cell? x) → (∀ x, W.frozen? x = W1.frozen? x) → ∀ ty dc, (Builtin.copy_ #[24, 24] ty #[.slice (some ⟨w.heap.size, i * 2, none⟩) (n + m - i) dc, .slice (some ⟨vb, 0, none⟩) m vc]).run Tryz.prog W = .ok (goInt (Nat.min m (n + m - i))) (W.setCells w.heap.size (i * 2) vs) := fun W hWc hWf ty dc =>
    run_copy_cells_k 2 W _ _ ty 34 w.heap.size (i * 2) (n + m - i) dc ⟨vb, 0, none⟩ m vc vs Tryz.underlying24 hsz (by rw [hvl]; simp only [Nat.min_def]; split <;> omega)
      (fun j v hj => by rw [Addr.add_lit, Nat.zero_add, hWc]; exact hOv _ v (hvs j v hj))
      (fun j hj => by rw [hWc]; exact hN _ (by omega)) (fun j hj => by rw [hWf]; exact hNf _) h1v
  have hGn : n + m ≤ G := by rw [hG]; exact grownCap_ge w _ _ _
  have hG63 : G ≤ 9223372036854775807 := by
    have := grownCap_le_maxLen w (n + m) c 34 (by unfold maxLen; omega)
    rw [← hG] at this
    unfold maxLen at this
    omega
  have hGi : ¬ (G = i) := by omega
  have hGim : ¬ (G = i + m) := by omega
  have hci : ¬ (c = i) := by omega
  have hbN : b ≠ w.heap.size := by omega
  have hdl : (cs.drop (i * 2)).length = (n - i) * 2 := by rw [List.length_drop, hcl]; omega
  have hcpB : ∀ (W : World), (∀ x, W.cell? x = (W1.setCells w.heap.size (i * 2) vs).cell? x) → (∀ x, W.frozen? x = (W1.setCells w.heap.size (i * 2) vs).frozen? x) → ∀ ty dc sc, (Builtin.copy_ #[24, 24] ty #[.slice (some ⟨w.heap.size, (i + m) * 2, none⟩) (n + m - (i + m)) dc, .slice (some ⟨b, i * 2, none⟩) (n - i) sc]).run Tryz.prog W = .ok (goInt (Nat.min (n - i) (n + m - (i + m)))) (W.setCells w.heap.size ((i + m) * 2) (cs.drop (i * 2))) := fun W hWc hWf ty dc sc =>
    run_copy_cells_k 2 W _ _ ty 34 w.heap.size ((i + m) * 2) (n + m - (i + m)) dc ⟨b, i * 2, none⟩ (n - i) sc (cs.drop (i * 2)) Tryz.underlying24 hsz (by rw [hdl]; simp only [Nat.min_def]; split <;> omega)
      (fun j v hj => by
        rw [Addr.add_lit, hWc, World.cell?_setCells_out _ _ _ _ _ (fun h _ => absurd h hbN)]
        exact hOb _ v (hcs (i * 2 + j) v (by rwa [List.getElem?_drop] at hj)))
      (fun j hj => by rw [hWc]; exact isSome_setCells' w.heap.size vs (i * 2) W1 (fun t ht => hN _ (by omega)) _ (hN _ (by omega)))
      (fun j hj => by rw [hWf, World.frozen?_setCells]; exact hNf _) (fun v hv => h1c v (List.mem_of_mem_drop hv))
  subst hW1
  have hE1 : ∀ x, ((w.alloc (.cells ROW 34)).drew).cell? x = (w.drew.alloc (.cells ROW 34)).cell? x := fun x => rfl
  have hE2 : ∀ x, ((w.alloc (.cells ROW 34)).drew).frozen? x = (w.drew.alloc (.cells ROW 34)).frozen? x := fun x => rfl
  have hF1 : ∀ x, (((w.alloc (.cells ROW 34)).drew.setCells w.heap.size (i * 2) vs).drew).cell? x = ((w.drew.alloc (.cells ROW 34)).setCells w.heap.size (i * 2) vs).cell? x := fun x => rfl
  have hF2 : ∀ x, (((w.alloc (.cells ROW 34)).drew.setCells w.heap.size (i * 2) vs).drew).frozen? x = ((w.drew.alloc (.cells ROW 34)).setCells w.heap.size (i * 2) vs).frozen? x := fun x => rfl
  have hw1 : IntKind.i64.wrap ((i : Int) + (m : Int)) = (i : Int) + (m : Int) := by rw [IntKind.wrap_i64]; omega
  have hb1 : (0 : Int) ≤ (i : Int) + (m : Int) := by omega
  have hin : i ≤ n := by omega
  have htn : ((i : Int) + (m : Int)).toNat = i + m := by omega
  have hb3 : (i : Int) ≤ (n : Int) := by omega
  clear hkk hik hold hROW hG hRl
  go_enter Tryz.func156, Tryz.ntmps156
  go_wp2_with (first
    | (at_builtin; refine Lib.wpList_append_run _ rfl _ _ _ _ rfl _ _ rfl rfl _ _ (hrz _) ?_)
    | (at_builtin; refine wpList_copy_runI _ rfl _ _ 24 24 rfl _ _ rfl rfl (hcpA _ hE1 hE2 _ _) ?_)
    | (at_builtin; refine wpList_copy_runI _ rfl _ _ 24 24 rfl _ _ rfl rfl (hcpB _ (fun _ => rfl) (fun _ => rfl) _ _ _) ?_))
  go_region_law_o (refine step_copy_runI rfl _ _ 24 24 rfl (.slice (some ⟨w.heap.size, (i + m) * 2, none⟩) (n + m - (i + m)) (G - (i + m))) (.slice (some ⟨b, i * 2, none⟩) (n - i) (c - i)) (by simp [Act.eval, Act.put]) (by simp [Act.eval, Act.put]) (hcpB _ hF1 hF2 3 (G - (i + m)) (c - i)) ?_)
  go_wp2
  go_ret
  exact ⟨rfl, rfl⟩
def insAtH (l : List HeadD) (i : Nat) (f : HeadD) : List HeadD := l.take i ++ (f :: l.drop i)
theorem eInsH (l : List HeadD) (i : Nat) (f : HeadD) : (eHeads l).take i ++ (eHeads [f] ++ (eHeads l).drop i) = eHeads (insAtH l i f) := by simp [eHeads, insAtH, List.map_take, List.map_drop]
def cInsH : Con := { A := List HeadD × Nat × HeadD, X := Unit, n := 95, args := fun a => [.own 0 2 (eHeads a.1), .int .i64 a.2.1, .own 1 2 (eHeads [a.2.2])], boxes := fun _ => [], pre := fun a => a.2.1 ≤ a.1.length ∧ a.1.length ≤ 1048576, post := fun _ _ => True, res := fun a _ => .own 8 2 (eHeads (insAtH a.1 a.2.1 a.2.2)), fin := fun a _ => [(8, .own 34 2 true (eHeads (insAtH a.1 a.2.1 a.2.2)))], owns := fun a => [(0, 34, 2, eHeads a.1), (1, 34, 2, eHeads [a.2.2])], mv := true }
theorem insH_has : Has Tryz.prog 156 cInsH := by
  refine ⟨fun args w => Go.MuLone.run_callFunc_enter Tryz.func156 (by kernel_rfl) rfl args w, fun _ => ⟨(), trivial⟩, fun _ _ => rfl, ?_, trivial, .inl rfl⟩
  rintro ⟨l, i, f⟩ ⟨h1, h2⟩ c _ vs β fp hn hpin hlen hlen2 S
  replace h1 : i ≤ l.length := h1
  replace h2 : l.length ≤ 1048576 := h2
  have hp : c.pins = [] := hpin
  have hr := start_rel hlen S
  obtain ⟨v0, vs1, rfl, r0, hr⟩ := hr.uncons
  obtain ⟨v1, vs2, rfl, r1, hr⟩ := hr.uncons
  obtain ⟨v2, vs3, rfl, r2, hr⟩ := hr.uncons
  cases hr
  have m0 : (cInsH.start2 (l, i, f)).m 0 = some (.own 34 2 true (eHeads l)) := rfl
  have m1 : (cInsH.start2 (l, i, f)).m 1 = some (.own 34 2 true (eHeads [f])) := rfl
  have m8 : (cInsH.start2 (l, i, f)).m 8 = none := rfl
  have e0 : v0 = β 0 := by cases r0 with | own _ _ h3 _ => exact (h3 _ _ _ _ m0).1
  have e2 : v2 = β 1 := by cases r2 with | own _ _ h3 _ => exact (h3 _ _ _ _ m1).1
  have e1 : v1 = .int .i64 i := by cases r1; rfl
  subst e1
  obtain ⟨_, hR1, B1⟩ := S.mem 1 _ m1
  rcases B1 with ⟨_, hc, _⟩ | ⟨b1, cap1, cs1, f1, q1, q2, q3, q4, q5, q6, q7, _⟩
  · simp [eHeads] at hc
  have q7 := q7 rfl
  have hl1 : (eHeads [f]).length = 1 := rfl
  rw [hl1] at q1 q3 q6
  have hm1 : (eHeads [f]).flatten = eHead f := by simp [eHeads]
  have fin : ∀ {v' : Value} {w' : World}, (∃ β' fp' a', SatI c ⟨fun _ => none, get? [(8, .own 34 2 true (eHeads (insAtH l i f)))]⟩ a' w' β' fp' ∧ RelL w' (get? [(8, .own 34 2 true (eHeads (insAtH l i f)))]) β' c [.own 8 2 (eHeads (insAtH l i f))] [v']) →
      ∃ x, cInsH.post (l, i, f) x ∧ ∃ v, Ending.returned v' = Ending.returned v ∧ ∃ β' fp' a', SatI c (cInsH.end_ (l, i, f) x) a' w' β' fp' ∧ RelL w' (get? (cInsH.fin (l, i, f) x)) β' c [cInsH.res (l, i, f) x] [v] :=
    fun ⟨β', fp', a', g1, g2⟩ => ⟨(), trivial, _, rfl, β', fp', a', g1, g2⟩
  by_cases hin : i = l.length
  · -- at the end
    have hap := apnd_ok (P := Tryz.prog) tTab_ok S (ty := 24) (d := 8) (K := fun av m => av = .own 8 2 (eHeads l ++ eHeads [f]) ∧ m 8 = some (.own 34 2 true (eHeads l ++ eHeads [f]))) (t := 24) (t2 := 24) r0 r2 (by
      simp -implicitDefEqProofs [cInsH, show eHeads [f] = [eHead f] from rfl, eHead, flatRows, flatD, apnd, tTab, elemLen, AV.base, AV.moved, m0, m1, m8, TI.flat, apSize]
      omega)
    obtain ⟨v', w', av, m, β', fp', g1, ⟨rfl, hm8⟩, g3, g4⟩ := hap
    have hins : eHeads l ++ eHeads [f] = eHeads (insAtH l i f) := by subst hin; simp [eHeads, insAtH]
    have hlast := only8 g3 hp (e := 34) (k := 2) (R := eHeads l ++ eHeads [f]) hm8
    obtain ⟨a', s1, s2⟩ := hlast
    have hv : v' = β' 8 := by cases g4 with | own _ _ h3 _ => exact (h3 34 2 true (eHeads l ++ eHeads [f]) hm8).1
    rw [← hv] at s2
    rw [hins] at s1 s2
    have hcall : Calls Tryz.prog 156 #[v0, .int .i64 i, v2] c.w0 fun e w1 => e = .returned v' ∧ w1 = w' := by
      obtain ⟨_, _, B0⟩ := S.mem 0 _ m0
      subst hin
      rcases B0 with ⟨p1, p2, p3⟩ | ⟨b, cap, cs, f0, p1, p2, p3, p4, p5, p6, p7, _⟩
      · have : l = [] := by cases l with | nil => rfl | cons => simp [eHeads] at p2
        subst this
        exact insH_end v0 v2 none 0 0 b1 1 cap1 c.w0 w' v' (by omega) (by rw [e0, p1]) (by omega) (by simp) (by rw [e2, q1]) g1
      · rw [eHeads_length] at p1 p3
        exact insH_end v0 v2 (some ⟨b, 0, none⟩) l.length cap b1 1 cap1 c.w0 w' v' (by omega) (by rw [e0, p1]) p3 (by simp) (by rw [e2, q1]) g1
    refine hcall.mono ?_
    rintro e w1 ⟨rfl, rfl⟩
    exact fin ⟨β', fp', a', s1, s2⟩
  · have hlt : i < l.length := by omega
    obtain ⟨_, hR0, B0⟩ := S.mem 0 _ m0
    rcases B0 with ⟨_, p2, _⟩ | ⟨b, cap, cs, f0, p1, p2, p3, p4, p5, p6, p7, _⟩
    · exfalso
      have : l.length = 0 := by rw [← eHeads_length, p2]; rfl
      omega
    have p7 := p7 rfl
    rw [eHeads_length] at p1 p3 p6
    have hcsl : cs.toList.length = cap * 2 := by rw [Array.length_toList, p5]
    have hcsl1 : cs1.toList.length = cap1 * 2 := by rw [Array.length_toList, q5]
    have hcl : (cs.toList.take (l.length * 2)).length = l.length * 2 := by rw [List.length_take, hcsl]; omega
    have hvl : (cs1.toList.take (1 * 2)).length = 1 * 2 := by rw [List.length_take, hcsl1]; omega
    have hvb : b1 ≠ b := fun e => S.disj 0 1 _ _ m0 m1 (by decide) b (by simp [Ob, p1]) (by simp [Ob, q1, e])
    have hI := fun {w' : World} {b' cap' : Nat} {cs' : Array Value} hblk hcap hmax hsz hcells hb' hother hsize hos htape hout =>
      ins_end (w' := w') (b' := b') (cap' := cap') (cs' := cs') (i := i) S hp m0 m1 (by rw [eHeads_length]; exact h1) (by rw [p7]; exact p6) (by rw [q7]; exact q6) hblk hcap hmax hsz hcells hb' hother hsize hos htape hout
    rw [eHeads_length, hl1] at hI
    rw [eInsH] at hI
    have hother0 : ∀ x, (∀ n cc, β 0 ≠ .slice (some ⟨x, 0, none⟩) n cc) → x ≠ b := fun x h e => h l.length cap (by rw [e]; exact p1)
    by_cases hroom : l.length + 1 ≤ cap
    · have hcall := insH_shift b l.length cap i b1 1 cap1 (cs.toList.take (l.length * 2)) (cs1.toList.take (1 * 2)) c.w0 hlt (by omega) hroom (by unfold maxLen at p4; omega) hvb hcl hvl (two_cells p2)
        (fun j hj => by rw [World.cell_of p2, Array.getElem?_eq_getElem (show j < cs.size by omega)]; rfl) (fun j hj => by simp [World.frozen?, p2]) (two_cells q2) p6.oneCell q6.oneCell
        _ _ _ _ (by simp [World.shape?, q2]; exact ⟨rfl, rfl⟩) (by simp [World.shape?, p2]; exact ⟨rfl, rfl⟩) (by rw [p5]; omega) (by simp [World.frozen?, q2]) (by simp [World.frozen?, q2])
      rw [e0, e2, p1, q1]
      refine hcall.mono ?_
      rintro e w' ⟨rfl, rfl⟩
      have hcs : cs = cs.toList.toArray := by simp
      have hb0 : c.w0.drew.heap[b]? = some (.cells cs.toList.toArray 34 (0, 0)) := by rw [← hcs]; exact p2
      have hdl : ((cs.toList.take (l.length * 2)).drop (i * 2)).length = (l.length - i) * 2 := by rw [List.length_drop, hcl]; omega
      obtain ⟨z1, z2, z3, z4, z5, z6⟩ := setCells_spec b ((cs.toList.take (l.length * 2)).drop (i * 2)) ((i + 1) * 2) c.w0.drew cs.toList _ _ hb0 (by rw [hdl, hcsl]; omega)
      obtain ⟨y1, y2, y3, y4, y5, y6⟩ := setCells_spec b (cs1.toList.take (1 * 2)) (i * 2) _ _ _ _ z1 (by rw [hvl]; simp; omega)
      refine fin (hI y1 hroom p4 ?_ ?_ (.inr ⟨_, _, p1⟩) (fun x _ hx => (y2 x (hother0 x hx)).trans (z2 x (hother0 x hx))) ?_ (y4.trans z4) (y5.trans z5) (y6.trans z6))
      · simp only [List.size_toArray]; simp; omega
      · rw [List.toList_toArray]
        exact ins_cells (by omega) hcl (by simpa using hvl) h1 (by rw [List.take_take, Nat.min_eq_left (by omega)])
      · rw [y3, z3]; exact Nat.le_refl _
    · have hcall := insH_grow b l.length cap i b1 1 cap1 (cs.toList.take (l.length * 2)) (cs1.toList.take (1 * 2)) c.w0 hlt (by omega) p3 (by omega) (by omega) hcl hvl (two_cells p2) (two_cells q2) p6.oneCell q6.oneCell
      rw [e0, e2, p1, q1]
      refine hcall.mono ?_
      rintro e w' ⟨rfl, rfl⟩
      have hGn : l.length + 1 ≤ grownCap c.w0 (l.length + 1) cap 34 := grownCap_ge c.w0 _ _ _
      have hGm := grownCap_le_maxLen c.w0 (l.length + 1) cap 34 (by unfold maxLen; omega)
      generalize grownCap c.w0 (l.length + 1) cap 34 = G at hGn hGm ⊢
      generalize hrow : ((cs.toList.take (l.length * 2)).take (i * 2)).toArray ++ Builtin.zeroCells #[.string ⟨#[]⟩, .int .i64 0] (l.length + 1 - i) ++ Builtin.zeroCells #[.string ⟨#[]⟩, .int .i64 0] (G - (l.length + 1)) = ROW
      have hrl : ROW.size = G * 2 := by
        rw [← hrow]
        simp [Builtin.zeroCells]
        omega
      have hrt : ROW.toList.take (i * 2) = (cs.toList.take (l.length * 2)).take (i * 2) := by
        rw [← hrow]
        simp only [Array.toList_append, List.append_assoc]
        rw [List.take_left' (by rw [List.length_take, hcl]; omega)]
      have hrl2 : ROW.toList.length = G * 2 := by rw [Array.length_toList, hrl]
      have hb0 : (c.w0.alloc (.cells ROW 34)).drew.heap[c.w0.heap.size]? = some (.cells ROW.toList.toArray 34 (0, 0)) := by
        have : ROW = ROW.toList.toArray := by simp
        rw [← this]
        exact heap_alloc_new c.w0 _
      have hdl : ((cs.toList.take (l.length * 2)).drop (i * 2)).length = (l.length - i) * 2 := by rw [List.length_drop, hcl]; omega
      obtain ⟨z1, z2, z3, z4, z5, z6⟩ := setCells_spec c.w0.heap.size (cs1.toList.take (1 * 2)) (i * 2) (c.w0.alloc (.cells ROW 34)).drew ROW.toList _ _ hb0 (by rw [hvl, hrl2]; omega)
      obtain ⟨y1, y2, y3, y4, y5, y6⟩ := setCells_spec c.w0.heap.size ((cs.toList.take (l.length * 2)).drop (i * 2)) ((i + 1) * 2) ((c.w0.alloc (.cells ROW 34)).drew.setCells c.w0.heap.size (i * 2) (cs1.toList.take (1 * 2))).drew _ _ _ z1 (by
        rw [hdl]
        simp only [List.length_append, List.length_take, List.length_drop, hrl2, hcsl1]
        omega)
      refine fin (hI y1 hGn hGm ?_ ?_ (.inl (Nat.le_refl _)) (fun x hx _ => (y2 x (by omega)).trans ((z2 x (by omega)).trans (heap_alloc_old c.w0 _ hx))) ?_ (y4.trans z4) (y5.trans z5) (y6.trans z6))
      · simp only [List.size_toArray, List.length_append, List.length_take, List.length_drop, hrl2, hcsl1, hcsl]
        omega
      · rw [List.toList_toArray]
        exact ins_cells2 (by omega) hcl (by simpa using hvl) h1 hrt
      · rw [y3]
        show _ ≤ (World.setCells _ _ _ _).heap.size
        rw [z3]
        show _ ≤ (c.w0.alloc _).heap.size
        simp
end Vx
end Go.Proofs.YtnanellmaelipaaGreatDoor
namespace Go.Proofs.YtnanellmaelipaaGreatDoor
set_option maxHeartbeats 4000000
namespace Vx
open Go.RowKit
set_option maxRecDepth 8000
theorem eHeads_one (b : HeadD) (p : Str) (x : Int) : (eHeads [b] = [[D.str p, D.int .i64 x]]) = (b = ⟨p, x⟩) := by
  obtain ⟨q, y⟩ := b
  simp -implicitDefEqProofs [eHeads, eHead]
theorem eHeads_one' (b : HeadD) (p : Str) (x : Int) : ([[D.str p, D.int .i64 x]] = eHeads [b]) = (b = ⟨p, x⟩) := by
  rw [← eHeads_one]; exact propext ⟨Eq.symm, Eq.symm⟩
def gtB (a b : Str) : Bool := !Go.Op.bytesLess a b && !decide (a = b)
def insKat (t : List HeadD) (p : Str) : Nat → Nat
  | 0 => 0
  | k + 1 => if gtB (t.getD k default).name p then insKat t p k else k + 1
theorem heads_flat (t : List HeadD) : ∀ x : List D, x ∈ eHeads t → ∀ d : D, d ∈ x → match d with | D.sl _ _ _ => False | _ => True := by
  intro x hx d hd
  simp only [eHeads, List.mem_map] at hx
  obtain ⟨h, _, rfl⟩ := hx
  simp only [eHead, List.mem_cons, List.not_mem_nil, or_false] at hd
  rcases hd with rfl | rfl <;> trivial
def insHd (t : List HeadD) (f : HeadD) : List HeadD := insAtH t (insKat t f.name t.length) f
theorem insKat_le (t : List HeadD) (p : Str) : ∀ k, insKat t p k ≤ k := by
  intro k
  induction k with
  | zero => exact Nat.le_refl _
  | succ k ih => unfold insKat; split <;> omega
def cInsertHead : Con := .fn 30 (List HeadD × HeadD) (fun a => [.sl true 2 (eHeads a.1), .agg [.str a.2.name, .int .i64 a.2.at_]]) (fun a => a.1.length ≤ 1048576) (fun a => .own 8 2 (eHeads (insHd a.1 a.2))) (fun a => ownHeads 8 (insHd a.1 a.2))
theorem insertHead_has : Has Tryz.prog 100 cInsertHead := by
  refine has_walk mixed tTab_ok (l := [(156, cInsH)]) (HasL.cons insH_has HasL.nil) [0, 1, 3, 4, 5] ((fun a n (_ : Nat) => (fun a _ => ⟨Nat, fun k => ⟨[(0, true, .sl true 2 (eHeads a.1)), (3, true, .ptr 10 0), (4, true, .nil), (5, true, .int .i64 k)], [(10, .box 34 [.str a.2.name, .int .i64 a.2.at_])]⟩, fun k => k ≤ a.1.length ∧ insKat a.1 a.2.name k = insKat a.1 a.2.name a.1.length, fun k => k⟩) a n)) [] Tryz.func100 (by kernel_rfl) (code := _) (by unfold Tryz.f100; rfl) (by kernel_rfl) (by decide) (fun _ => ⟨(), trivial⟩) (by intro h; first | exact fun _ => rfl | cases h) (by kernel_rfl) ?_
  intro a ha
  obtain ⟨t, f⟩ := a
  replace ha : t.length ≤ 1048576 := ha
  have g1 : ∀ k, 0 < k → (h : k - 1 < t.length) → gtB t[k - 1].name f.name = true → insKat t f.name (k - 1) = insKat t f.name k := fun k h0 h hb => by
    obtain ⟨j, rfl⟩ : ∃ j, k = j + 1 := ⟨k - 1, by omega⟩
    simp only [Nat.add_sub_cancel] at h hb ⊢
    rw [insKat, if_pos (by simp -implicitDefEqProofs [List.getD_eq_getElem?_getD, h, hb])]
  have g2 : ∀ k, 0 < k → (h : k - 1 < t.length) → gtB t[k - 1].name f.name = false → insKat t f.name k = k := fun k h0 h hb => by
    obtain ⟨j, rfl⟩ : ∃ j, k = j + 1 := ⟨k - 1, by omega⟩
    simp only [Nat.add_sub_cancel] at h hb
    rw [insKat, if_neg (by simp -implicitDefEqProofs [List.getD_eq_getElem?_getD, h, hb])]
  have hfl := heads_flat t
  simp -implicitDefEqProofs [cInsertHead, cInsH, Con.fn, tTab, eHeads_one, eHeads_one']
  try dsimp only
  have hfin : ∀ k, insKat t f.name k = insKat t f.name t.length → insKat t f.name k = k → insHd t f = insAtH t k f := fun k h1 h2 => by unfold insHd; rw [← h1, h2]
  refine fun _ => ⟨⟨t.length, rfl, Nat.le_refl _, rfl⟩, fun k hk hp => ⟨fun h0 => ⟨⟨by omega, by omega⟩, fun _ _ => ⟨⟨by omega, by omega⟩, fun _ _ => ?_⟩⟩, fun h0 => ?_⟩⟩
  · have hlt : k - 1 < t.length := by omega
    simp -implicitDefEqProofs [hlt, eHead, D.asStr]
    refine ⟨fun hb hn => ⟨⟨by omega, by omega⟩, fun _ _ => ⟨k - 1, by omega, ⟨by omega, by rw [g1 k h0 hlt (by simp -implicitDefEqProofs [gtB, hb, hn]), hp]⟩, by omega⟩⟩, fun hx => ?_⟩
    have e := hfin k hp (g2 k h0 hlt (by cases hq : Go.Op.bytesLess t[k - 1].name f.name with
      | true => simp -implicitDefEqProofs [gtB, hq]
      | false => simp -implicitDefEqProofs [gtB, hx hq]))
    exact ⟨hfl, ⟨by omega, by omega⟩, t, k, f, ⟨rfl, rfl, rfl⟩, ⟨rfl, rfl⟩, ⟨by omega, by omega⟩, e, e.symm⟩
  · subst h0
    have e := hfin 0 hp rfl
    exact ⟨hfl, ⟨by omega, by omega⟩, t, 0, f, ⟨rfl, rfl, rfl⟩, ⟨rfl, rfl⟩, ⟨by omega, by omega⟩, e, e.symm⟩
end Vx
end Go.Proofs.YtnanellmaelipaaGreatDoor
namespace Go.Proofs.YtnanellmaelipaaGreatDoor
namespace Vx
open Go.RowKit
set_option maxRecDepth 8000
def srt (l : List Str) : Prop := l.Pairwise fun a b => a < b
theorem putS_mem (l : List Str) (s x : Str) : x ∈ putS l s ↔ x = s ∨ x ∈ l := by
  induction l with
  | nil => simp -implicitDefEqProofs [putS]
  | cons y l ih =>
    unfold putS
    split
    · simp only [List.mem_cons, ih]
      constructor
      · rintro (h | h | h) <;> simp -implicitDefEqProofs [h]
      · rintro (h | h | h) <;> simp -implicitDefEqProofs [h]
    · split
      · rename_i h
        subst h
        simp only [List.mem_cons]
        constructor
        · intro h; exact .inr h
        · rintro (h | h)
          · exact .inl h
          · exact h
      · simp only [List.mem_cons]
theorem putS_srt {l : List Str} (h : srt l) (s : Str) : srt (putS l s) := by
  induction l with
  | nil => simp -implicitDefEqProofs [putS, srt]
  | cons y l ih =>
    obtain ⟨h1, h2⟩ := List.pairwise_cons.1 h
    unfold putS
    rw [less_eq]
    split
    · rename_i hl
      have hl : y < s := by simpa using hl
      refine List.pairwise_cons.2 ⟨fun z hz => ?_, ih h2⟩
      rcases (putS_mem l s z).1 hz with rfl | hz
      · exact hl
      · exact h1 z hz
    · rename_i hl
      have hl : ¬ y < s := by simpa using hl
      split
      · exact h
      · rename_i hn
        have hs := str_total y s hl hn
        refine List.pairwise_cons.2 ⟨fun z hz => ?_, h⟩
        rcases List.mem_cons.1 hz with rfl | hz
        · exact hs
        · exact str_trans hs (h1 z hz)
theorem putFs_srt (t : List FileD) : ∀ {l : List Str}, srt l → srt (putFs l t) ∧ ∀ x, x ∈ putFs l t ↔ x ∈ l ∨ x ∈ t.map (·.path) := by
  induction t with
  | nil => intro l h; exact ⟨h, fun x => by simp -implicitDefEqProofs [putFs]⟩
  | cons f t ih =>
    intro l h
    obtain ⟨h1, h2⟩ := ih (putS_srt h f.path)
    refine ⟨h1, fun x => ?_⟩
    show x ∈ putFs (putS l f.path) t ↔ _
    rw [h2, putS_mem, List.map_cons, List.mem_cons]
    constructor
    · rintro ((h | h) | h) <;> simp -implicitDefEqProofs [h]
    · rintro (h | h | h) <;> simp -implicitDefEqProofs [h]
theorem paths6_srt (o a b : List FileD) : srt (paths6 o a b) ∧ ∀ x, x ∈ paths6 o a b ↔ x ∈ (o ++ a ++ b).map (·.path) := by
  obtain ⟨h1, h2⟩ := putFs_srt o (l := []) .nil
  obtain ⟨h3, h4⟩ := putFs_srt a h1
  obtain ⟨h5, h6⟩ := putFs_srt b h3
  refine ⟨h5, fun x => ?_⟩
  show x ∈ putFs (putFs (putFs [] o) a) b ↔ _
  rw [h6, h4, h2]
  simp -implicitDefEqProofs [or_assoc]
theorem srt_eq : ∀ {l m : List Str}, srt l → srt m → (∀ x, x ∈ l ↔ x ∈ m) → l = m
  | [], [], _, _, _ => rfl
  | [], y :: m, _, _, h => absurd ((h y).2 (by simp)) (by simp)
  | x :: l, [], _, _, h => absurd ((h x).1 (by simp)) (by simp)
  | x :: l, y :: m, hl, hm, h => by
    obtain ⟨l1, l2⟩ := List.pairwise_cons.1 hl
    obtain ⟨m1, m2⟩ := List.pairwise_cons.1 hm
    have e : x = y := by
      rcases List.mem_cons.1 ((h x).1 (by simp)) with e | hx
      · exact e
      · rcases List.mem_cons.1 ((h y).2 (by simp)) with e | hy
        · exact e.symm
        · exact absurd (l1 y hy) (str_asymm (m1 x hx))
    subst e
    congr 1
    refine srt_eq l2 m2 fun z => ?_
    have hz := h z
    simp only [List.mem_cons] at hz
    constructor
    · intro q
      rcases hz.1 (.inr q) with rfl | q2
      · exact absurd (l1 z q) (str_irrefl z)
      · exact q2
    · intro q
      rcases hz.2 (.inr q) with rfl | q2
      · exact absurd (m1 z q) (str_irrefl z)
      · exact q2
theorem insHd_pre (l : List HeadD) (f : HeadD) (hp : l.Pairwise fun a b => Go.Op.bytesLess a.name b.name = true) : ∀ k, k ≤ l.length → (∀ i, insKat l f.name k ≤ i → i < k → gtB (l.getD i default).name f.name = true) ∧ (0 < insKat l f.name k → gtB (l.getD (insKat l f.name k - 1) default).name f.name = false) := by
  intro k
  induction k with
  | zero => intro _; exact ⟨fun i h1 h2 => by omega, fun h => by simp -implicitDefEqProofs [insKat] at h⟩
  | succ k ih =>
    intro hk
    unfold insKat
    split
    · rename_i h
      obtain ⟨h1, h2⟩ := ih (by omega)
      refine ⟨fun i h3 h4 => ?_, h2⟩
      rcases Nat.lt_or_ge i k with h5 | h5
      · exact h1 i h3 h5
      · have : i = k := by omega
        subst this; exact h
    · rename_i h
      exact ⟨fun i h3 h4 => by omega, fun _ => by simpa using h⟩
theorem hL_ins (n : Str) (a : Int) : ∀ (l X : List HeadD) (k : Nat), k ≤ l.length → (∀ i, i < k → Go.Op.bytesLess (l.getD i default).name n = true) → (∀ i, k ≤ i → i < l.length → Go.Op.bytesLess (l.getD i default).name n = false ∧ ¬ (l.getD i default).name = n) →
    l.foldl (hStep n a) (X, false) = if k < l.length then (X ++ l.take k ++ [⟨n, a⟩] ++ l.drop k, true) else (X ++ l, false)
  | [], X, k, hk, _, _ => by simp
  | g :: l, X, 0, _, _, h2 => by
    have hg := h2 0 (by omega) (by simp)
    have hg1 : Go.Op.bytesLess g.name n = false ∧ ¬ g.name = n := by simpa using hg
    have e : hStep n a (X, false) g = (X ++ [⟨n, a⟩] ++ [g], true) := by unfold hStep; simp -implicitDefEqProofs [hg1]
    have e2 : l.filter (fun g => decide (g.name ≠ n)) = l := by
      rw [List.filter_eq_self]
      intro z hz
      obtain ⟨i, hi, rfl⟩ := List.getElem_of_mem hz
      have := h2 (i + 1) (by omega) (by simp; omega)
      simp -implicitDefEqProofs [List.getD_eq_getElem?_getD, hi] at this
      simp -implicitDefEqProofs [this.2]
    rw [List.foldl_cons, e, hL_true, e2]; simp
  | g :: l, X, k + 1, hk, h1, h2 => by
    have hg := h1 0 (by omega)
    have hg : Go.Op.bytesLess g.name n = true := by simpa using hg
    have hn : ¬ g.name = n := fun e => by rw [e, less_irrefl] at hg; cases hg
    have e : hStep n a (X, false) g = (X ++ [g], false) := by unfold hStep; simp -implicitDefEqProofs [hg, hn]
    rw [List.foldl_cons, e, hL_ins n a l (X ++ [g]) k (by simpa using hk) (fun i hi => by have := h1 (i + 1) (by omega); simpa using this) (fun i h3 h4 => by have := h2 (i + 1) (by omega) (by simp; omega); simpa using this)]
    by_cases hc : k < l.length
    · simp -implicitDefEqProofs [hc]
    · simp -implicitDefEqProofs [hc]
theorem hSet_ins {l : List HeadD} {n : Str} {a : Int} (hl : ∀ i, 0 < i → i < l.length → Go.Op.bytesLess (l.getD (i - 1) default).name (l.getD i default).name = true) (hn : ∀ h ∈ l, ¬ h.name = n) :
    hSet l n a = insHd l ⟨n, a⟩ := by
  have hp := heads_pw hl
  obtain ⟨h1, h2⟩ := insHd_pre l ⟨n, a⟩ hp l.length (Nat.le_refl _)
  have hk := insKat_le l n l.length
  unfold insHd
  generalize hkk : insKat l (⟨n, a⟩ : HeadD).name l.length = k at h1 h2 ⊢
  have hk : k ≤ l.length := by rw [← hkk]; exact hk
  have hne : ∀ i (hi : i < l.length), ¬ (l.getD i default).name = n := fun i hi => by
    have := hn l[i] (List.getElem_mem hi)
    simpa [List.getD_eq_getElem?_getD, hi] using this
  have hlt : ∀ i j, (hij : i < j) → (hj : j < l.length) → Go.Op.bytesLess (l.getD i default).name (l.getD j default).name = true := fun i j hij hj => by
    have := List.pairwise_iff_getElem.1 hp i j (by omega) hj hij
    simpa [List.getD_eq_getElem?_getD, hj, (show i < l.length by omega)] using this
  have b1 : ∀ i, i < k → Go.Op.bytesLess (l.getD i default).name n = true := fun i hi => by
    have q := h2 (by omega)
    have q : Go.Op.bytesLess (l.getD (k - 1) default).name n = true := by
      unfold gtB at q
      simp only [Bool.and_eq_false_iff, Bool.not_eq_false', decide_eq_true_eq] at q
      rcases q with q | q
      · exact q
      · exact absurd q (hne (k - 1) (by omega))
    rcases Nat.lt_or_ge i (k - 1) with h3 | h3
    · exact less_trans (hlt i (k - 1) h3 (by omega)) q
    · have : i = k - 1 := by omega
      rw [this]; exact q
  have b2 : ∀ i, k ≤ i → i < l.length → Go.Op.bytesLess (l.getD i default).name n = false ∧ ¬ (l.getD i default).name = n := fun i h3 h4 => by
    have q := h1 i h3 h4
    unfold gtB at q
    simp only [Bool.and_eq_true, Bool.not_eq_true', decide_eq_false_iff_not] at q
    exact q
  unfold hSet hL
  rw [hL_ins n a l [] k hk b1 b2]
  by_cases hc : k < l.length
  · simp -implicitDefEqProofs [hc, insAtH]
  · have : k = l.length := by omega
    subst this
    simp -implicitDefEqProofs [insAtH]
end Vx
end Go.Proofs.YtnanellmaelipaaGreatDoor
namespace Go.Proofs.YtnanellmaelipaaGreatDoor
set_option maxHeartbeats 4000000
namespace Vx
open Go.RowKit
set_option maxRecDepth 8000
def owI (r : RepoD) : Inv := ⟨Nat, fun i => ⟨[(2, true, .ptr 12 0), (3, true, .ptr 11 0), (12, true, .sl true 3 (eCommits r.commits)), (13, true, .int .i64 r.commits.length), (14, true, .int .i64 i)], [(12, bNilR), (11, .box 26 [.own 13 3 (eCommits (r.commits.take i)), .own 14 2 (eHeads r.heads)]), (13, .own 56 3 true (eCommits (r.commits.take i))), (14, .own 34 2 true (eHeads r.heads))]⟩, fun i => i ≤ r.commits.length, fun i => r.commits.length - i⟩
def cOwnR : Con := .fn 35 RepoD (fun r => [vRepo r]) rpSz (fun r => .agg [.own 8 3 (eCommits r.commits), .own 9 2 (eHeads r.heads)]) (fun r => ownCommits 8 r.commits ++ ownHeads 9 r.heads)
theorem ownR_has : Has Tryz.prog 131 cOwnR := by
  refine has_walk mixed tTab_ok (l := [(142, cCopyTree)]) (HasL.cons copyTree_has HasL.nil) [0, 1, 2, 3, 5, 12, 13, 14] ((fun a n (_ : Nat) => (fun r _ => owI r) a n)) [30] Tryz.func131 (by kernel_rfl) (code := _) (by unfold Tryz.f131; rfl) (by kernel_rfl) (by decide) (fun _ => ⟨(), trivial⟩) (by intro h; first | exact fun _ => rfl | cases h) (by kernel_rfl) ?_
  intro (r : RepoD) hr
  obtain ⟨h1, h2, h3⟩ : r.commits.length ≤ 1048576 ∧ (∀ c ∈ r.commits, cmSz c) ∧ r.heads.length ≤ 1048576 := hr
  simp (maxSteps := 8000000) -implicitDefEqProofs [cOwnR, cCopyTree, Con.fn, tTab, owI, bRepo_def]
  try dsimp only
  refine ⟨flatH r.heads, ⟨by omega, by omega⟩, fun _ => ⟨⟨0, ⟨rfl, .inl rfl⟩, Nat.zero_le _⟩, fun t ht => ⟨fun hlt => ⟨hlt, fun _ => ?_⟩, fun hge => by rw [List.take_of_length_le hge]; exact ⟨rfl, rfl⟩⟩⟩⟩
  have e : r.commits.take (t + 1) = r.commits.take t ++ [r.commits[t]] := take_succ' hlt
  have hc := h2 _ (List.getElem_mem hlt)
  have qq : Option.map eCommit r.commits[t]? = some (eCommit r.commits[t]) := by simp -implicitDefEqProofs [hlt]
  have hm : min t r.commits.length = t := by omega
  rw [qq, hm]
  generalize r.commits[t] = c at *
  simp -implicitDefEqProofs [eCommit]
  exact ⟨flatI _, ⟨by have := hc.1; omega, by have := hc.1; omega⟩, hc.2, ⟨by omega, by omega⟩, ⟨by omega, by omega⟩, fun _ _ => ⟨t + 1, ⟨by omega, by rw [e, eCommits_snoc], by rw [e, eCommits_snoc]⟩, by omega, by omega⟩⟩
def ptL (l : List HeadD) (n : Str) (a : Int) : List HeadD := if l.any (fun h => decide (h.name = n)) then l.set (l.findIdx fun h => decide (h.name = n)) ⟨n, a⟩ else insHd l ⟨n, a⟩
theorem ptL_hit {l : List HeadD} {n : Str} {a : Int} {i : Nat} (hi : i < l.length) (hb : ∀ j (hj : j < l.length), j < i → ¬ l[j].name = n) (h : l[i].name = n) : ptL l n a = l.set i ⟨n, a⟩ := by
  have e : l.findIdx (fun h => decide (h.name = n)) = i := by
    rw [List.findIdx_eq hi]
    exact ⟨by simpa using h, fun j hj => by simpa using hb j (by omega) hj⟩
  unfold ptL
  rw [if_pos (List.any_eq_true.2 ⟨l[i], List.getElem_mem hi, by simpa using h⟩), e]
theorem ptL_none {l : List HeadD} {n : Str} {a : Int} (hb : ∀ j (hj : j < l.length), ¬ l[j].name = n) : ptL l n a = insHd l ⟨n, a⟩ := by
  unfold ptL
  rw [if_neg]
  simp only [List.any_eq_true, decide_eq_true_eq, not_exists, not_and]
  intro x hx
  obtain ⟨j, hj, rfl⟩ := List.getElem_of_mem hx
  exact hb j hj
def poOwns (r : RepoD) : List (Nat × Nat × Nat × List (List D)) := [(0, 56, 3, eCommits r.commits), (1, 34, 2, eHeads r.heads)]
def poI (r : RepoD) (n : Str) (a : Int) : Inv := ⟨Nat, fun i => ⟨[(1, true, .str n), (2, true, .int .i64 a), (3, true, .ptr 10 0), (6, true, .ptr 12 0), (10, true, .int .i64 r.heads.length), (11, true, .int .i64 i)], [(12, bNilR), (10, .box 26 [.own 13 3 (eCommits r.commits), .own 14 2 (eHeads r.heads)]), (13, .own 56 3 true (eCommits r.commits)), (14, .own 34 2 true (eHeads r.heads))]⟩, fun i => i ≤ r.heads.length ∧ ∀ j (hj : j < r.heads.length), j < i → ¬ r.heads[j].name = n, fun i => r.heads.length - i⟩
def cPoint : Con := { A := RepoD × Str × Int, X := Unit, n := 38, args := fun a => [.agg [.own 0 3 (eCommits a.1.commits), .own 1 2 (eHeads a.1.heads)], .str a.2.1, .int .i64 a.2.2], boxes := fun _ => [], pre := fun a => a.1.heads.length ≤ 1048576, post := fun _ _ => True, res := fun a _ => .agg [.own 8 3 (eCommits a.1.commits), .own 9 2 (eHeads (ptL a.1.heads a.2.1 a.2.2))], fin := fun a _ => ownCommits 8 a.1.commits ++ ownHeads 9 (ptL a.1.heads a.2.1 a.2.2), owns := fun a => poOwns a.1, mv := true }
theorem point_has : Has Tryz.prog 175 cPoint := by
  refine has_walk mixed tTab_ok (l := [(100, cInsertHead)]) (HasL.cons insertHead_has HasL.nil) [0, 1, 2, 3, 6, 7, 10, 11] ((fun a n (_ : Nat) => (fun a _ => poI a.1 a.2.1 a.2.2) a n)) [] Tryz.func175 (by kernel_rfl) (code := _) (by unfold Tryz.f175; rfl) (by kernel_rfl) (by decide) (fun _ => ⟨(), trivial⟩) (by intro h; first | exact fun _ => rfl | cases h) (by kernel_rfl) ?_
  intro a ha
  obtain ⟨r, n, b⟩ := a
  replace ha : r.heads.length ≤ 1048576 := ha
  simp (maxSteps := 8000000) -implicitDefEqProofs [cPoint, poOwns, cInsertHead, Con.fn, tTab, poI]
  try dsimp only
  refine fun _ t ht hb => ⟨fun hlt => ⟨hlt, fun _ => ?_⟩, fun hge => ?_⟩
  · have qq : Option.map eHead r.heads[t]? = some (eHead r.heads[t]) := by simp -implicitDefEqProofs [hlt]
    have hh := ptL_hit (a := b) hlt hb
    have hb2 : ¬ r.heads[t].name = n → ∀ (j : Nat) (hj : j < r.heads.length), j < t + 1 → ¬ r.heads[j].name = n := fun h j hj hjt => by
      by_cases e : j = t
      · subst e; exact h
      · exact hb j hj (by omega)
    rw [qq]
    generalize r.heads[t] = f at *
    simp -implicitDefEqProofs [eHead]
    refine ⟨fun h => ⟨hlt, fun _ => ⟨hlt, ?_, ?_⟩⟩, fun h => ⟨⟨by omega, by omega⟩, fun _ _ => ⟨t + 1, by omega, ⟨by omega, hb2 h⟩, by omega⟩⟩⟩
    · rw [hh h, ← h, ← eHeads_set]
    · rw [hh h, ← h, ← eHeads_set]
  · have e := ptL_none (a := b) fun j hj => hb j hj (by omega)
    exact ⟨r.heads, ⟨n, b⟩, ⟨rfl, rfl, rfl⟩, ha, e, e.symm⟩
def cTried : Con := { A := RepoD × RepoD, X := Unit, n := 12, args := fun a => [vRepo a.1, .agg [.own 0 3 (eCommits a.2.commits), .own 1 2 (eHeads a.2.heads)]], boxes := fun _ => [], pre := fun a => rpSz a.1 ∧ rpPre a.2, post := fun _ _ => True, res := fun a _ => .tup [.agg [.own 8 3 (eCommits (if repoI a.2 then a.2 else a.1).commits), .own 9 2 (eHeads (if repoI a.2 then a.2 else a.1).heads)], .bool (repoI a.2)], fin := fun a _ => ownCommits 8 (if repoI a.2 then a.2 else a.1).commits ++ ownHeads 9 (if repoI a.2 then a.2 else a.1).heads, owns := fun a => poOwns a.2, mv := true }
theorem tried_has : Has Tryz.prog 176 cTried := by
  refine has_walk mixed tTab_ok (l := [(131, cOwnR), (24, cRepoOk)]) (HasL.cons ownR_has (HasL.cons repoOk_has HasL.nil)) [0, 1, 2, 3, 4, 5] ((fun a n (_ : Nat) => (fun _ => noInv) a n)) [] Tryz.func176 (by kernel_rfl) (code := _) (by unfold Tryz.f176; rfl) (by kernel_rfl) (by decide) (fun _ => ⟨(), trivial⟩) (by intro h; first | exact fun _ => rfl | cases h) (by kernel_rfl) ?_
  intro a ha
  obtain ⟨r, x⟩ := a
  obtain ⟨h1, h2⟩ : rpSz r ∧ rpPre x := ha
  simp (maxSteps := 8000000) -implicitDefEqProofs [cTried, poOwns, cOwnR, cRepoOk, Con.fn, tTab, bRepo_def]
  try dsimp only
  refine ⟨h2, fun h => ⟨h1, ?_⟩, fun h => ?_⟩
  · rw [if_neg (by simp -implicitDefEqProofs [h])]; exact ⟨⟨⟨rfl, rfl⟩, h⟩, rfl, rfl⟩
  · rw [if_pos h]; exact ⟨⟨⟨rfl, rfl⟩, h⟩, rfl, rfl⟩
def cmL (r : RepoD) (n : Str) (c : CommitD) : RepoD := ⟨r.commits ++ [c], ptL r.heads n r.commits.length⟩
def cmOwns (a : RepoD × Str × Str × List FileD × List Int) : List (Nat × Nat × Nat × List (List D)) := [(0, 56, 3, eCommits a.1.commits), (1, 34, 2, eHeads a.1.heads), (2, 3, 1, eInts a.2.2.2.2)]
def cCommit : Con := { A := RepoD × Str × Str × List FileD × List Int, X := Unit, n := 28, args := fun a => [.agg [.own 0 3 (eCommits a.1.commits), .own 1 2 (eHeads a.1.heads)], .str a.2.1, .str a.2.2.1, .sl true 2 (eFiles a.2.2.2.1), .own 2 1 (eInts a.2.2.2.2)], boxes := fun _ => [], pre := fun a => a.1.heads.length ≤ 1048576 ∧ a.1.commits.length ≤ 1048576 ∧ a.2.2.2.1.length ≤ 1048576 ∧ ∀ f ∈ a.2.2.2.1, f.text.length ≤ 1048576, post := fun _ _ => True, res := fun a _ => .agg [.own 8 3 (eCommits (cmL a.1 a.2.1 ⟨a.2.2.2.2, a.2.2.1, a.2.2.2.1⟩).commits), .own 9 2 (eHeads (cmL a.1 a.2.1 ⟨a.2.2.2.2, a.2.2.1, a.2.2.2.1⟩).heads)], fin := fun a _ => ownCommits 8 (cmL a.1 a.2.1 ⟨a.2.2.2.2, a.2.2.1, a.2.2.2.1⟩).commits ++ ownHeads 9 (cmL a.1 a.2.1 ⟨a.2.2.2.2, a.2.2.1, a.2.2.2.1⟩).heads, owns := cmOwns, mv := true }
theorem commit_has : Has Tryz.prog 177 cCommit := by
  refine has_walk mixed tTab_ok (l := [(142, cCopyTree), (175, cPoint)]) (HasL.cons copyTree_has (HasL.cons point_has HasL.nil)) [0, 1, 2, 3, 4, 5, 10] ((fun a n (_ : Nat) => (fun _ => noInv) a n)) [18] Tryz.func177 (by kernel_rfl) (code := _) (by unfold Tryz.f177; rfl) (by kernel_rfl) (by decide) (fun _ => ⟨(), trivial⟩) (by intro h; first | exact fun _ => rfl | cases h) (by kernel_rfl) ?_
  intro a ha
  obtain ⟨r, n, w, t, P⟩ := a
  obtain ⟨h1, h2, h3, h4⟩ : r.heads.length ≤ 1048576 ∧ r.commits.length ≤ 1048576 ∧ t.length ≤ 1048576 ∧ ∀ f ∈ t, f.text.length ≤ 1048576 := ha
  simp (maxSteps := 8000000) -implicitDefEqProofs [cCommit, cmOwns, poOwns, cPoint, cCopyTree, Con.fn, tTab, bRepo_def]
  try dsimp only
  have sn : eCommits r.commits ++ [[D.sl 3 1 (eInts P), D.str w, D.sl 61 2 (eFiles t)]] = eCommits (r.commits ++ [⟨P, w, t⟩]) := eCommits_snoc _ _ _ _
  rw [sn]
  exact ⟨⟨h3, h4⟩, ⟨by omega, by omega⟩, fun _ => ⟨by omega, fun _ => ⟨⟨r.commits ++ [⟨P, w, t⟩], r.heads⟩, n, _, ⟨⟨rfl, rfl⟩, rfl, rfl⟩, ⟨rfl, rfl⟩, h1, ⟨rfl, rfl⟩, rfl, rfl⟩⟩⟩
end Vx
end Go.Proofs.YtnanellmaelipaaGreatDoor
namespace Go.Proofs.YtnanellmaelipaaGreatDoor
namespace Vx
open Go.RowKit
set_option maxRecDepth 8000
theorem heads_ord {k : Nat} {l : List HeadD} (h : headsB k l = true) : ∀ i, 0 < i → i < l.length → Go.Op.bytesLess (l.getD (i - 1) default).name (l.getD i default).name = true := fun i h3 h4 => by
  have := ((headsB_iff _ _).1 h).2 i h4
  unfold okHd at this
  simp only [Bool.and_eq_true, Bool.or_eq_true, decide_eq_true_eq] at this
  rcases this.2 with h5 | h5
  · omega
  · exact h5
theorem set_map (n : Str) (a : Int) : ∀ (l : List HeadD), (l.Pairwise fun a b => Go.Op.bytesLess a.name b.name = true) → (∃ x ∈ l, x.name = n) → l.set (l.findIdx fun h => decide (h.name = n)) ⟨n, a⟩ = l.map (hAt n a) := by
  intro l
  induction l with
  | nil => rintro _ ⟨_, h, _⟩; cases h
  | cons g l ih =>
    intro hp hx
    obtain ⟨hp1, hp2⟩ := List.pairwise_cons.1 hp
    by_cases hg : g.name = n
    · have hne : ∀ z ∈ l, ¬ z.name = n := fun z hz hc => by
        have := hp1 z hz
        rw [hg, hc, less_irrefl] at this
        cases this
      have e3 : l.map (hAt n a) = l := by
        have : l.map (hAt n a) = l.map id := List.map_congr_left fun z hz => by simp -implicitDefEqProofs [hAt, hne z hz]
        rw [this]; simp
      simp -implicitDefEqProofs [List.findIdx_cons, hg, e3, hAt]
    · obtain ⟨z, hz, hzn⟩ := hx
      have hz : z ∈ l := by
        rcases List.mem_cons.1 hz with rfl | hz
        · exact absurd hzn hg
        · exact hz
      have := ih hp2 ⟨z, hz, hzn⟩
      simp -implicitDefEqProofs [List.findIdx_cons, hg, this, hAt]
theorem ptL_eq {k : Nat} {l : List HeadD} {n : Str} {a : Int} (h : headsB k l = true) : ptL l n a = hSet l n a := by
  have hs := heads_ord h
  unfold ptL
  split
  · rename_i hn
    have hn : ∃ x ∈ l, x.name = n := by simpa using hn
    rw [hSet_map hs hn]
    exact set_map n a l (heads_pw hs) hn
  · rename_i hn
    have hn : ∀ h ∈ l, ¬ h.name = n := by simpa using hn
    exact (hSet_ins hs hn).symm
theorem atL_ins {n m : Str} {a : Int} : ∀ {l : List HeadD} (k : Nat), (∀ h ∈ l, ¬ h.name = n) → atL (insAtH l k ⟨n, a⟩) m = if n = m then a else atL l m
  | [], k, _ => by
    have e : insAtH [] k (⟨n, a⟩ : HeadD) = [⟨n, a⟩] := by simp -implicitDefEqProofs [insAtH]
    rw [e]; rfl
  | g :: l, 0, h => by
    have e : insAtH (g :: l) 0 (⟨n, a⟩ : HeadD) = ⟨n, a⟩ :: g :: l := by simp -implicitDefEqProofs [insAtH]
    rw [e]; rfl
  | g :: l, k + 1, h => by
    have e : insAtH (g :: l) (k + 1) (⟨n, a⟩ : HeadD) = g :: insAtH l k ⟨n, a⟩ := by simp -implicitDefEqProofs [insAtH]
    rw [e]
    have ih := atL_ins (n := n) (m := m) (a := a) (l := l) k fun x hx => h x (by simp -implicitDefEqProofs [hx])
    show (if g.name = m then g.at_ else atL (insAtH l k ⟨n, a⟩) m) = if n = m then a else if g.name = m then g.at_ else atL l m
    rw [ih]
    by_cases h1 : g.name = m
    · have : ¬ n = m := fun e => h g (by simp) (h1.trans e.symm)
      simp -implicitDefEqProofs [h1, this]
    · simp -implicitDefEqProofs [h1]
theorem atL_map {n m : Str} {a : Int} : ∀ {l : List HeadD}, (∃ h ∈ l, h.name = n) → atL (l.map (hAt n a)) m = if n = m then a else atL l m
  | [], h => by obtain ⟨_, h, _⟩ := h; cases h
  | g :: l, h => by
    have e : atL ((g :: l).map (hAt n a)) m = if (hAt n a g).name = m then (hAt n a g).at_ else atL (l.map (hAt n a)) m := rfl
    have e2 : atL (g :: l) m = if g.name = m then g.at_ else atL l m := rfl
    rw [e, e2]
    by_cases hg : g.name = n
    · have e3 : hAt n a g = ⟨n, a⟩ := by unfold hAt; rw [if_pos hg]
      rw [e3]
      by_cases hm : n = m
      · simp -implicitDefEqProofs [hm]
      · simp only [hm, if_false]
        have : ¬ g.name = m := fun e => hm (hg.symm.trans e)
        simp only [this, if_false]
        by_cases hx : ∃ h ∈ l, h.name = n
        · rw [atL_map hx, if_neg hm]
        · have e4 : l.map (hAt n a) = l := by
            have : l.map (hAt n a) = l.map id := List.map_congr_left fun z hz => by
              have : ¬ z.name = n := fun e => hx ⟨z, hz, e⟩
              simp -implicitDefEqProofs [hAt, this]
            rw [this]; simp
          rw [e4]
    · have e3 : hAt n a g = g := by unfold hAt; rw [if_neg hg]
      rw [e3]
      obtain ⟨z, hz, hzn⟩ := h
      have hz : z ∈ l := by
        rcases List.mem_cons.1 hz with rfl | hz
        · exact absurd hzn hg
        · exact hz
      rw [atL_map ⟨z, hz, hzn⟩]
      by_cases h1 : g.name = m
      · have : ¬ n = m := fun e => hg (h1.trans e.symm)
        simp -implicitDefEqProofs [h1, this]
      · simp -implicitDefEqProofs [h1]
theorem atL_set {k : Nat} {l : List HeadD} {n m : Str} {a : Int} (h : headsB k l = true) : atL (hSet l n a) m = if n = m then a else atL l m := by
  have hs := heads_ord h
  by_cases hn : ∃ x ∈ l, x.name = n
  · rw [hSet_map hs hn, atL_map hn]
  · have hn : ∀ x ∈ l, ¬ x.name = n := fun x hx e => hn ⟨x, hx, e⟩
    rw [hSet_ins hs hn]
    unfold insHd
    exact atL_ins _ hn
def parB (r : RepoD) : Prop := ∀ i, i < r.commits.length → ∀ p ∈ (r.commits.getD i default).parents, 0 ≤ p ∧ p < (i : Int)
theorem repoS_par {r : RepoD} (h : repoS r = true) : parB r := by
  intro i hi p hp
  have h1 := ((repoS_iff r).1 h).1 i hi
  unfold okCS at h1
  simp only [Bool.and_eq_true, List.all_eq_true, List.mem_range] at h1
  obtain ⟨k, hk, rfl⟩ := List.getElem_of_mem hp
  have h2 := h1.1 k hk
  unfold oneP inN at h2
  simp only [Bool.and_eq_true, decide_eq_true_eq] at h2
  have e : (r.commits.getD i default).parents.getD k 0 = (r.commits.getD i default).parents[k] := by rw [List.getD_eq_getElem?_getD, List.getElem?_eq_getElem hk]; rfl
  rw [e] at h2
  omega
inductive Rch (r : RepoD) (a : Nat) : Nat → Prop
  | refl : Rch r a a
  | step {x : Nat} {p : Int} : Rch r a x → p ∈ (r.commits.getD x default).parents → Rch r a p.toNat
theorem Rch.trans {r : RepoD} {a b c : Nat} (h1 : Rch r a b) (h2 : Rch r b c) : Rch r a c := by
  induction h2 with
  | refl => exact h1
  | step _ hp ih => exact ih.step hp
theorem getD_none {l : List CommitD} {x : Nat} (h : l.length ≤ x) : (l.getD x default).parents = [] := by
  rw [List.getD_eq_getElem?_getD, List.getElem?_eq_none h]; rfl
theorem Rch.le {r : RepoD} {a x : Nat} (hp : parB r) (h : Rch r a x) : x ≤ a := by
  induction h with
  | refl => omega
  | @step x p _ hq ih =>
    rcases Nat.lt_or_ge x r.commits.length with h1 | h1
    · have := hp x h1 p hq; omega
    · rw [getD_none h1] at hq; cases hq
theorem isT_setT (l : List Bool) (p g : Nat) : isT (l.set p true) g = (isT l g || (decide (p = g) && decide (g < l.length))) := by
  unfold isT
  rw [List.getD_eq_getElem?_getD, List.getD_eq_getElem?_getD]
  by_cases h : p = g
  · subst h
    rw [List.getElem?_set_self']
    by_cases hl : p < l.length
    · simp -implicitDefEqProofs [hl]
    · rw [List.getElem?_eq_none (by omega)]; simp -implicitDefEqProofs [hl]
  · rw [List.getElem?_set_ne h]; simp -implicitDefEqProofs [h]
theorem isT_putT (ps : List Int) : ∀ (l : List Bool) (g : Nat), isT (putT l ps) g = (isT l g || (ps.any (fun p => decide (p.toNat = g)) && decide (g < l.length))) := by
  induction ps with
  | nil => intro l g; simp -implicitDefEqProofs [putT]
  | cons p ps ih =>
    intro l g
    show isT (putT (l.set p.toNat true) ps) g = _
    rw [ih, isT_setT, List.length_set, List.any_cons]
    cases isT l g <;> cases decide (p.toNat = g) <;> cases (ps.any fun p => decide (p.toNat = g)) <;> cases decide (g < l.length) <;> rfl
theorem ancF_rch {r : RepoD} (hp : parB r) (a : Nat) : ∀ (k : Nat) (l : List Bool), k ≤ r.commits.length → l.length = r.commits.length → (∀ g, isT l g = true → Rch r a g) → (∀ x, k ≤ x → isT l x = true → ∀ p ∈ (r.commits.getD x default).parents, isT l p.toNat = true) → isT l a = true →
    ∀ g, isT (ancF r k l) g = true ↔ Rch r a g
  | 0, l, _, hl, h1, h2, h3, g => by
    refine ⟨h1 g, fun h => ?_⟩
    show isT l g = true
    induction h with
    | refl => exact h3
    | step _ hq ih => exact h2 _ (Nat.zero_le _) ih _ hq
  | k + 1, l, hk, hl, h1, h2, h3, g => by
    have hk' : k < r.commits.length := by omega
    have key : ∀ x, isT (stepA r l k) x = (isT l x || (isT l k && ((r.commits.getD k default).parents.any (fun p => decide (p.toNat = x)) && decide (x < l.length)))) := by
      intro x
      unfold stepA
      cases hq : isT l k with
      | true => simp only [if_true]; rw [isT_putT]; simp
      | false => simp
    refine ancF_rch hp a k (stepA r l k) (by omega) (by unfold stepA; split; rw [putT_len, hl]; exact hl) (fun g hg => ?_) (fun x hx hg p hpx => ?_) (by rw [key, h3]; rfl) g
    · rw [key] at hg
      simp only [Bool.or_eq_true, Bool.and_eq_true, List.any_eq_true, decide_eq_true_eq] at hg
      rcases hg with hg | ⟨hg, ⟨p, hpm, rfl⟩, _⟩
      · exact h1 g hg
      · exact (h1 k hg).step hpm
    · rw [key] at hg ⊢
      simp only [Bool.or_eq_true, Bool.and_eq_true, List.any_eq_true, decide_eq_true_eq] at hg ⊢
      have hx' : isT l x = true := by
        rcases hg with hg | ⟨_, ⟨q, hq, e⟩, _⟩
        · exact hg
        · have := hp k hk' q hq
          omega
      by_cases e : x = k
      · subst e
        have := hp x hk' p hpx
        exact .inr ⟨hx', ⟨p, hpx, rfl⟩, by rw [hl]; omega⟩
      · exact .inl (h2 x (by omega) hx' p hpx)
theorem anc_iff {r : RepoD} (hp : parB r) {a : Nat} (ha : a < r.commits.length) (g : Nat) : isT (anc r a) g = true ↔ Rch r a g := by
  have e0 : ∀ g, isT ((List.replicate r.commits.length false).set a true) g = decide (a = g) := fun g => by
    rw [isT_setT]
    have : isT (List.replicate r.commits.length false) g = false := by
      unfold isT
      rw [List.getD_eq_getElem?_getD, List.getElem?_replicate]
      split <;> rfl
    rw [this]
    by_cases h : a = g
    · subst h; simp -implicitDefEqProofs [ha]
    · simp -implicitDefEqProofs [h]
  unfold anc
  have e1 : (((a : Int) + 1).toNat) = a + 1 := by omega
  have e2 : ((a : Int)).toNat = a := by omega
  rw [e1, e2]
  refine ancF_rch hp a (a + 1) _ (by omega) (by simp) (fun g hg => ?_) (fun x hx hg => ?_) (by rw [e0]; simp) g
  · rw [e0] at hg
    have : a = g := by simpa using hg
    subst this; exact .refl
  · rw [e0] at hg
    have : a = x := by simpa using hg
    omega
theorem anc_mem {r : RepoD} (hp : parB r) {a x : Int} (ha : 0 ≤ a ∧ a < r.commits.length) (hx : 0 ≤ x) : x ∈ listT (anc r a) ↔ Rch r a.toNat x.toNat := by
  have hh := anc_iff hp (a := a.toNat) (by omega) x.toNat
  have ea : ((a.toNat : Nat) : Int) = a := by omega
  rw [ea] at hh
  rw [← hh, listT_mem]
  constructor
  · rintro ⟨i, _, h2, rfl⟩
    simpa using h2
  · intro h
    exact ⟨x.toNat, isT_len h, h, by omega⟩
theorem Rch.more {r : RepoD} {cs : List CommitD} {hs : List HeadD} (hp : parB r) {a x : Nat} (ha : a < r.commits.length) : Rch ⟨r.commits ++ cs, hs⟩ a x ↔ Rch r a x := by
  have key : ∀ x, x < r.commits.length → ((r.commits ++ cs).getD x default) = r.commits.getD x default := fun x hx => by
    simp -implicitDefEqProofs [List.getD_eq_getElem?_getD, List.getElem?_append_left hx]
  constructor
  · intro h
    have : Rch r a x := by
      induction h with
      | refl => exact .refl
      | @step x p _ hq ih =>
        have hle := ih.le hp
        have hq : p ∈ ((r.commits ++ cs).getD x default).parents := hq
        rw [key x (by omega)] at hq
        exact ih.step hq
    exact this
  · intro h
    induction h with
    | refl => exact .refl
    | @step x p h0 hq ih =>
      have hle := h0.le hp
      refine ih.step ?_
      show p ∈ ((r.commits ++ cs).getD x default).parents
      rw [key x (by omega)]
      exact hq
end Vx
end Go.Proofs.YtnanellmaelipaaGreatDoor
namespace Go.Proofs.YtnanellmaelipaaGreatDoor
set_option maxHeartbeats 4000000
namespace Vx
open Go.RowKit
set_option maxRecDepth 8000
def iniT (n w i : Nat) : List (List Int) := List.replicate i (List.replicate w 0) ++ List.replicate (n - i) []
theorem iniT_len {n w i : Nat} (h : i ≤ n) : (iniT n w i).length = n := by simp -implicitDefEqProofs [iniT]; omega
theorem iniT_0 (n w : Nat) : eRows (iniT n w 0) = List.replicate n [D.sl 3 1 []] := by simp -implicitDefEqProofs [iniT, eRows, eRow]
theorem iniT_end (n w : Nat) : iniT n w n = List.replicate n (List.replicate w 0) := by simp -implicitDefEqProofs [iniT]
theorem iniT_set {n w i : Nat} (h : i < n) : (eRows (iniT n w i)).set i [D.sl 3 1 (List.replicate w [D.int .i64 0])] = eRows (iniT n w (i + 1)) := by
  have e : (iniT n w i).set i (List.replicate w 0) = iniT n w (i + 1) := by
    apply List.ext_getElem
    · rw [List.length_set, iniT_len (by omega), iniT_len (by omega)]
    · intro k h1 h2
      rw [List.getElem_set]
      simp only [iniT, List.getElem_append, List.length_replicate, List.getElem_replicate]
      by_cases hk : i = k
      · subst hk; simp
      · rw [if_neg hk]
        by_cases h3 : k < i
        · rw [dif_pos h3, dif_pos (by omega)]
        · rw [dif_neg h3, dif_neg (by omega)]
  rw [← e]
  simp -implicitDefEqProofs [eRows, List.map_set, eRow, eInts, eInt]
def lcA (a b : List Str) : Inv := ⟨Nat, fun i => ⟨[(0, true, .sl true 1 (eStrs a)), (1, true, .sl true 1 (eStrs b)), (4, true, .nil), (5, true, .own 9 1 (eRows (iniT (a.length + 1) (b.length + 1) i))), (14, true, .int .i64 (a.length + 1 : Nat)), (15, true, .int .i64 i)], [(9, .own 35 1 true (eRows (iniT (a.length + 1) (b.length + 1) i)))]⟩, fun i => i ≤ a.length + 1, fun i => a.length + 1 - i⟩
def lcB (a b : List Str) : Inv := ⟨Nat, fun p => ⟨[(0, true, .sl true 1 (eStrs a)), (1, true, .sl true 1 (eStrs b)), (4, true, .nil), (5, true, .own 9 1 (eRows (tabF a b p (b.length + 1)))), (7, true, .int .i64 ((p : Int) - 1))], [(9, .own 35 1 true (eRows (tabF a b p (b.length + 1))))]⟩, fun p => p ≤ a.length, fun p => p⟩
def lcC (a b : List Str) (g : Nat) : Inv := ⟨Nat, fun q => ⟨[(0, true, .sl true 1 (eStrs a)), (1, true, .sl true 1 (eStrs b)), (4, true, .nil), (5, true, .own 9 1 (eRows (tabF a b g q))), (7, true, .int .i64 ((g : Int) - 1)), (8, true, .int .i64 ((q : Int) - 1))], [(9, .own 35 1 true (eRows (tabF a b g q)))]⟩, fun q => q ≤ b.length ∧ 0 < g ∧ g ≤ a.length, fun q => q⟩
def lcInv (a b : List Str) (n g : Nat) : Inv := if n = 3 then lcA a b else if n = 8 then lcB a b else lcC a b g
theorem lcInv_3 (a b g) : lcInv a b 3 g = lcA a b := rfl
theorem lcInv_8 (a b g) : lcInv a b 8 g = lcB a b := rfl
theorem lcInv_11 (a b g) : lcInv a b 11 g = lcC a b g := rfl
def cLcsI : Con := .fn 89 (List Str × List Str) (fun a => [.sl true 1 (eStrs a.1), .sl true 1 (eStrs a.2)]) (fun a => a.1.length ≤ 1048576 ∧ a.2.length ≤ 1048576) (fun a => .own 8 1 (eRows (tabF a.1 a.2 0 0))) (fun a => [(8, .own 35 1 true (eRows (tabF a.1 a.2 0 0)))])
theorem lcsI_has : Has Tryz.prog 105 cLcsI := by
  refine has_walk mixed tTab_ok (l := []) HasL.nil [0, 1, 4, 5, 6, 7, 8, 14, 15] (fun a => lcInv a.1 a.2) [] Tryz.func105 (by kernel_rfl) (code := _) (by unfold Tryz.f105; rfl) (by kernel_rfl) (by decide) (fun _ => ⟨(), trivial⟩) (by intro h; first | exact fun _ => rfl | cases h) (by kernel_rfl) ?_
  intro a ha
  obtain ⟨a, b⟩ := a
  obtain ⟨h1, h2⟩ : a.length ≤ 1048576 ∧ b.length ≤ 1048576 := ha
  simp (maxSteps := 4000000) [cLcsI, Con.fn, tTab, lcInv_3, lcInv_8, lcInv_11, lcA, lcB, lcC]
  try dsimp only
  refine fun _ => ⟨by omega, fun _ _ => ⟨by omega, fun _ _ _ _ => ⟨⟨0, ⟨⟨iniT_0 _ _, rfl⟩, (iniT_0 _ _).symm⟩, Nat.zero_le _⟩, fun i hi => ⟨fun hlt _ => ⟨by omega, fun _ _ => ⟨by omega, fun _ _ _ => ⟨by rw [iniT_len hi]; omega, fun hx => ⟨hx, by omega, fun _ _ => ⟨i + 1, ⟨⟨(iniT_set (by omega)).symm, by omega⟩, iniT_set (by omega)⟩, by omega, by omega⟩⟩⟩⟩⟩, fun hge _ => ⟨by omega, fun _ _ => ⟨⟨a.length, ⟨⟨?_, rfl⟩, ?_⟩, Nat.le_refl _⟩, fun p hp => ⟨fun h1p _ => ⟨by omega, fun _ _ => ⟨p, ⟨b.length, ⟨⟨?_, rfl, rfl⟩, ?_⟩, Nat.le_refl _, by omega, hp⟩, fun q hq hg hga => ⟨fun hq1 => ?_, fun hq0 => ⟨by omega, fun _ _ => ⟨p - 1, ⟨⟨?_, by omega⟩, ?_⟩, by omega, by omega⟩⟩⟩⟩⟩, fun hp0 => ?_⟩⟩⟩⟩⟩⟩⟩
  · rw [show i = a.length + 1 by omega, iniT_end, tab_first rfl]
  · rw [show i = a.length + 1 by omega, iniT_end, tab_first rfl]
  · rw [tab_col]
  · rw [tab_col]
  · obtain ⟨T, hT⟩ : ∃ T, T = tabF a b p q := ⟨_, rfl⟩
    have t1 := @tab_len a b p q
    have t2 := tab_row (a := a) (b := b) (p := p) (q := q) (r := p) (by omega)
    have t3 := tab_row (a := a) (b := b) (p := p) (q := q) (r := p - 1) (by omega)
    have t4 : a[p - 1]? = some a[p - 1] := List.getElem?_eq_getElem (by omega)
    have t5 : b[q - 1]? = some b[q - 1] := List.getElem?_eq_getElem (by omega)
    have u1 := @tabR_len a b p q p
    have u2 := @tabR_len a b p q (p - 1)
    have u3 : (tabR a b p q p)[q]? = some (lcs (a.drop p) (b.drop q)) := by rw [tabR_get (by omega), if_pos (by omega)]
    have u4 : (tabR a b p q p)[q - 1]? = some (lcs (a.drop p) (b.drop (q - 1))) := by rw [tabR_get (by omega), if_pos (by omega)]
    have u5 : (tabR a b p q (p - 1))[q]? = some (lcs (a.drop (p - 1)) (b.drop q)) := by rw [tabR_get (by omega), if_pos (by omega)]
    have v1 := lcs_bd (a.drop p) (b.drop q)
    have v2 := lcs_bd (a.drop p) (b.drop (q - 1))
    have v3 := lcs_bd (a.drop (p - 1)) (b.drop q)
    have v4 : (a.drop p).length ≤ a.length := by simp
    have v5 : (a.drop (p - 1)).length ≤ a.length := by simp
    have w1 := tab_put (a := a) (b := b) (p := p) (q := q) hg hga (by omega) hq
    have w2 := lcs_step (a := a) (b := b) (p := p) (q := q) hg hga (by omega) hq
    rw [← hT] at t1 t2 t3 w1 ⊢
    clear hT
    generalize lcs (a.drop p) (b.drop q) = L11 at *
    generalize lcs (a.drop p) (b.drop (q - 1)) = L10 at *
    generalize lcs (a.drop (p - 1)) (b.drop q) = L01 at *
    generalize tabR a b p q p = rB at *
    generalize tabR a b p q (p - 1) = rA at *
    simp -implicitDefEqProofs [t1, t2, t3, t4, t5, u1, u2, u3, u4, u5, eInt, eStr, D.asStr, eRow, D.asRows, D.asInt, and_assoc]
    have fin : ∀ v, v = lcs (a.drop (p - 1)) (b.drop (q - 1)) → ∃ t', eRows (tabF a b p t') = (eRows T).set (p - 1) [D.sl 3 1 ((eInts rA).set (q - 1) [D.int .i64 v])] ∧ (t' : Int) = q - 1 ∧ (eRows T).set (p - 1) [D.sl 3 1 ((eInts rA).set (q - 1) [D.int .i64 v])] = eRows (tabF a b p t') ∧ t' ≤ b.length ∧ 0 < p ∧ p ≤ a.length ∧ t' < q :=
      fun v hv => ⟨q - 1, (w1 v hv).symm, by omega, w1 v hv, by omega, hg, hga, by omega⟩
    have fin1 := fun h => fin (L11 + 1) (by rw [w2, if_pos h])
    have fin2 := fun (h : ¬ a[p - 1] = b[q - 1]) => fin (if L10 < L01 then L01 else L10) (by rw [w2, if_neg h]; split <;> split <;> omega)
    clear w1 w2 fin
    repeat' (first | intro _ | apply And.intro)
    all_goals first | omega | exact fin1 (by assumption) | exact fin2 (by assumption)
  · rw [show q = 0 by omega, tab_next (by omega)]
  · rw [show q = 0 by omega, tab_next (by omega)]
  · rw [show p = 0 by omega, tab_zero]; exact ⟨rfl, rfl⟩
def maI (a b : List Str) : Inv := ⟨Nat × Nat × List Int, fun t => ⟨[(0, true, .sl true 1 (eStrs a)), (1, true, .sl true 1 (eStrs b)), (4, true, .nil), (5, true, .own 9 1 (eRows (tabF a b 0 0))), (6, true, .own 10 1 (eInts t.2.2)), (8, true, .int .i64 t.2.1), (7, true, .int .i64 t.1)], [(9, .own 35 1 true (eRows (tabF a b 0 0))), (10, .own 3 1 true (eInts t.2.2))]⟩,
  fun t => t.1 ≤ a.length ∧ t.2.1 ≤ b.length ∧ t.2.2.length = t.1 ∧ t.2.2 ++ mt (a.drop t.1) (b.drop t.2.1) t.2.1 = mt a b 0, fun t => (a.length - t.1) + (b.length - t.2.1)⟩
def cMatchI : Con := .fn 72 (List Str × List Str) (fun a => [.sl true 1 (eStrs a.1), .sl true 1 (eStrs a.2)]) (fun a => a.1.length ≤ 1048576 ∧ a.2.length ≤ 1048576) (fun a => .own 8 1 (eInts (mt a.1 a.2 0))) (fun a => ownInts 8 (mt a.1 a.2 0))
theorem matchI_has : Has Tryz.prog 205 cMatchI := by
  refine has_walk mixed tTab_ok (l := [(105, cLcsI)]) (HasL.cons lcsI_has HasL.nil) [0, 1, 4, 5, 6, 7, 8] ((fun a n (_ : Nat) => (fun a _ => maI a.1 a.2) a n)) [] Tryz.func205 (by kernel_rfl) (code := _) (by unfold Tryz.f205; rfl) (by kernel_rfl) (by decide) (fun _ => ⟨(), trivial⟩) (by intro h; first | exact fun _ => rfl | cases h) (by kernel_rfl) ?_
  intro a ha
  obtain ⟨a, b⟩ := a
  obtain ⟨h1, h2⟩ : a.length ≤ 1048576 ∧ b.length ≤ 1048576 := ha
  simp (maxSteps := 4000000) [cMatchI, cLcsI, Con.fn, tTab, maI]
  try dsimp only
  refine ⟨a, b, ⟨rfl, rfl⟩, ⟨h1, h2⟩, ⟨0, 0, [], ⟨⟨rfl, rfl, rfl, rfl⟩, rfl, rfl⟩, Nat.zero_le _, Nat.zero_le _, rfl, by simp⟩, fun i k out hi hk hl hm _ => ⟨fun hlt => ?_, fun hge => ?_⟩⟩
  · have t1 := @tab_len a b 0 0
    have t2 := tab_row (a := a) (b := b) (p := 0) (q := 0) (r := i) (by omega)
    have t3 := tab_row (a := a) (b := b) (p := 0) (q := 0) (r := i + 1) (by omega)
    have u1 := @tabR_len a b 0 0 i
    have u2 := @tabR_len a b 0 0 (i + 1)
    have t4 : a[i]? = some a[i] := List.getElem?_eq_getElem hlt
    have m0 := mt_end (a := a) (b := b) (i := i) (k := k) hlt
    rcases Nat.lt_or_ge k b.length with hkb | hkb
    · have t5 : b[k]? = some b[k] := List.getElem?_eq_getElem hkb
      have u3 : (tabR a b 0 0 (i + 1))[k]? = some (lcs (a.drop (i + 1)) (b.drop k)) := by rw [tabR_get (by omega), if_pos (by omega)]
      have u4 : (tabR a b 0 0 i)[k + 1]? = some (lcs (a.drop i) (b.drop (k + 1))) := by rw [tabR_get (by omega), if_pos (by omega)]
      have m1 := mt_step (a := a) (b := b) (i := i) (k := k) hlt hkb
      generalize tabF a b 0 0 = T at *
      generalize tabR a b 0 0 i = rA at *
      generalize tabR a b 0 0 (i + 1) = rB at *
      generalize lcs (a.drop (i + 1)) (b.drop k) = L1 at *
      generalize lcs (a.drop i) (b.drop (k + 1)) = L2 at *
      have g1 : ¬ (k : Int) = b.length := by omega
      have g3 : ¬ b.length ≤ k := by omega
      obtain ⟨_, u6⟩ := List.getElem?_eq_some_iff.1 u4
      simp -implicitDefEqProofs [hkb, g1, g3, t1, t2, t3, t4, t5, u1, u2, u3, u4, u6, eInt, eStr, D.asStr, eRow, D.asRows, D.asInt, and_assoc]
      refine ⟨hlt, fun _ => ⟨fun e => ⟨by omega, by omega, by omega, by omega, fun _ _ => ⟨by omega, by omega, fun _ _ => ⟨i + 1, k + 1, out ++ [(k : Int)], snocI _ _, by omega, by omega, (snocI _ _).symm, by omega, by omega, by simp -implicitDefEqProofs [hl], ?_, by omega⟩⟩⟩, fun e => ⟨by omega, by omega, fun _ _ => ⟨by omega, hlt, fun _ _ => ⟨by omega, fun _ => ⟨by omega, fun _ => ⟨by omega, by omega, fun _ _ => ⟨by omega, fun _ => ⟨fun c => ⟨by omega, by omega, by omega, by omega, fun _ _ => ⟨i + 1, k, out ++ [-1], snocI _ _, by omega, by omega, (snocI _ _).symm, by omega, by omega, by simp -implicitDefEqProofs [hl], ?_, by omega⟩⟩, fun c => ⟨by omega, by omega, fun _ _ => ⟨i, k + 1, by omega, by omega, by omega, by omega, hl, ?_, by omega⟩⟩⟩⟩⟩⟩⟩⟩⟩⟩⟩
      · rw [← hm, m1, if_pos e]; simp
      · rw [← hm, m1, if_neg e, if_pos c]; simp
      · rw [← hm, m1, if_neg e, if_neg (by omega)]
    · have g1 : ¬ k < b.length := by omega
      have g2 : (k : Int) = b.length := by omega
      simp -implicitDefEqProofs [hkb, g1, g2, t4, eStr, D.asStr, and_assoc]
      refine ⟨by omega, by omega, by omega, by omega, fun _ _ => ⟨i + 1, k, out ++ [-1], snocI _ _, by omega, by omega, (snocI _ _).symm, by omega, by omega, by simp -implicitDefEqProofs [hl], ?_, by omega⟩⟩
      rw [← hm, m0 (by omega)]; simp
  · rw [List.drop_eq_nil_of_le hge, mt, List.append_nil] at hm
    exact ⟨hm.symm, hm⟩
end Vx
end Go.Proofs.YtnanellmaelipaaGreatDoor
namespace Go.Proofs.YtnanellmaelipaaGreatDoor
set_option maxHeartbeats 4000000
namespace Vx
open Go.RowKit
set_option maxRecDepth 8000
def lnP (l : List Str) : PartD := ⟨false, l, [], [], []⟩
def resFin (a : List Str × List PartD) : List (Nat × Blk) := [(0, .box 266 [.own 8 5 (eParts (put3 a.2 (lnP a.1)))]), (8, .own 270 5 true (eParts (put3 a.2 (lnP a.1))))]
def cResolve : Con := { A := List Str × List PartD, X := Unit, n := 36, args := fun a => [.sl true 1 (eStrs a.1), .ptr 0 0], boxes := fun a => [(0, 266, [.own 1 5 (eParts a.2)])], pre := fun a => a.1.length ≤ 1073741824 ∧ a.2.length ≤ 1048576 ∧ ∀ q ∈ a.2, q.lines.length ≤ 1073741824, post := fun _ _ => True, res := fun _ _ => .tup [], fin := fun a _ => resFin a, owns := fun a => [(1, 270, 5, eParts a.2)], nob := false, mv := true }
theorem resolve_has : Has Tryz.prog 295 cResolve := by
  refine has_walk mixed tTab_ok (l := []) HasL.nil [0, 1, 3] ((fun a n (_ : Nat) => (fun _ => noInv) a n)) [12287, 12321, 16409, 16410] Tryz.func295 (by kernel_rfl) (code := _) (by unfold Tryz.f295; rfl) (by kernel_rfl) (by decide) (fun _ => ⟨(), trivial⟩) (by intro h; first | exact fun _ => rfl | cases h) (by kernel_rfl) ?_
  intro a ha
  obtain ⟨x, l⟩ := a
  obtain ⟨h1, h2, h3⟩ : x.length ≤ 1073741824 ∧ l.length ≤ 1048576 ∧ ∀ q ∈ l, q.lines.length ≤ 1073741824 := ha
  simp -implicitDefEqProofs [cResolve, resFin, Con.fn, tTab]
  try dsimp only
  have f : ∀ (t : List Str), ∀ x ∈ eStrs t, ∀ d ∈ x, match d with | .sl _ _ _ => False | _ => True := fun t => (eStrs_flat t).mpr trivial
  have sn : ∀ k : List PartD, eParts k ++ [[D.bool false, D.sl 9 1 (eStrs x), D.sl 9 1 [], D.sl 9 1 [], D.sl 9 1 []]] = eParts (k ++ [lnP x]) := fun k => by simp -implicitDefEqProofs [eParts, ePart, lnP]
  rw [sn]
  have hlc : (lnP x).clash = false := rfl
  have hll : (lnP x).lines = x := rfl
  have e0 : x = [] → put3 l (lnP x) = l := fun h => put3_e0 hlc (by rw [hll]; exact h)
  rcases List.eq_nil_or_concat l with rfl | ⟨m, q, rfl⟩
  · have e4 : ¬ x = [] → put3 [] (lnP x) = [lnP x] := fun h => put3_e4 (by rw [hll]; simp -implicitDefEqProofs [h])
    clear hll hlc
    simp
    repeat' (first | intro _ | apply And.intro)
    all_goals first | omega | exact f _ | exact f _ _ (by assumption) _ (by assumption) | exact e0 (by assumption) | exact (e0 (by assumption)).symm | exact e4 (by assumption) | exact (e4 (by assumption)).symm
  · have he : ∀ r, (eParts m ++ [r])[m.length]? = some r := fun r => by rw [List.getElem?_append_right (by simp)]; simp
    have hs : ∀ r, (eParts (m ++ [q])).set m.length r = eParts m ++ [r] := fun r => by simp -implicitDefEqProofs [eParts]
    have hq : (m ++ [q])[m.length]? = some q := by simp
    have hql := h3 q (by simp)
    have ee : ∀ r r', (eParts m ++ [r] = eParts (m ++ [r'])) = (r = ePart r') := fun r r' => by simp -implicitDefEqProofs [eParts]
    have h2 : m.length + 1 ≤ 1048576 := by simpa using h2
    have e1 : q.clash = false → ¬ x = [] → put3 (m ++ [q]) (lnP x) = m ++ [⟨q.clash, q.lines ++ x, q.old, q.one, q.two⟩] := fun h h' => put3_e1 h hlc (by rw [hll]; exact h')
    have e2 : q.clash = true → ¬ x = [] → put3 (m ++ [q]) (lnP x) = m ++ [q] ++ [lnP x] := fun h h' => put3_e2 h (by rw [hll]; simp -implicitDefEqProofs [h'])
    clear hll hlc
    rw [List.concat_eq_append] at e0
    simp -implicitDefEqProofs [he, hs, ePart, D.asBool, D.asRows]
    repeat' (first | intro _ | apply And.intro)
    all_goals first | omega | exact f _ | exact f _ _ (by assumption) _ (by assumption) | exact e0 (by assumption) | exact (e0 (by assumption)).symm | (rw [e1 (by assumption) (by assumption)]; simp -implicitDefEqProofs [eParts, ePart, eStrs]; done) | (rw [e2 (by assumption) (by assumption)]; simp; done)
end Vx
end Go.Proofs.YtnanellmaelipaaGreatDoor
/-
  DERIVED: THE SHELF's CONTRACTS AT THIS DUMP, IN PLAIN WORDS (tools/lay-plain.mjs out of 'YtnanellmaelipaaGreatDoorShelf.lean', which tools/lay-shelf.mjs wrote): THE SAME DECLARATIONS UNDER THE SAME NAMES: 'import', 'namespace', 'open', 'def', 'theorem' AND NOTHING ELSE: no command of the shelf's: FOR A HAND-IN. Each laying: the table of numbers ('.._ren') and one theorem, a field a fact of the dump's own or the kernel's comparison; each contract: ONE APPLICATION.
-/
namespace Go.Proofs
open Go.Shelf
def Tryz.laysSort_ren : Go.Shelf.Ren := ⟨fun | 190 => 157 | 125 => 202 | 258 => 201 | 128 => 233 | 129 => 234 | 302 => 224 | 303 => 225 | 304 => 226 | 305 => 227 | 306 => 228 | 307 => 229 | 308 => 230 | 309 => 231 | 310 => 232 | 333 => 261 | 329 => 262 | 330 => 263 | 334 => 264 | 335 => 265 | 336 => 266 | 344 => 284 | n => n, fun | 31 => 57 | 9 => 9 | 3 => 3 | 46 => 204 | 0 => 0 | 51 => 232 | 53 => 234 | 4 => 4 | 183 => 225 | 182 => 224 | 131 => 229 | 5 => 5 | 218 => 256 | 222 => 260 | 228 => 279 | 229 => 52 | n => n, fun | n => n⟩
theorem Tryz.laysSort : Go.Proofs.Lays.n190 Tryz.prog Tryz.laysSort_ren := {
  mixed := by kernel_rfl
  f125 := Tryz.func202.trans (congrArg some (by kernel_rfl))
  f128 := Tryz.func233.trans (congrArg some (by kernel_rfl))
  f129 := Tryz.func234.trans (congrArg some (by kernel_rfl))
  f190 := Tryz.func157.trans (congrArg some (by kernel_rfl))
  f258 := Tryz.func201.trans (congrArg some (by kernel_rfl))
  f302 := Tryz.func224.trans (congrArg some (by kernel_rfl))
  f303 := Tryz.func225.trans (congrArg some (by kernel_rfl))
  f304 := Tryz.func226.trans (congrArg some (by kernel_rfl))
  f305 := Tryz.func227.trans (congrArg some (by kernel_rfl))
  f306 := Tryz.func228.trans (congrArg some (by kernel_rfl))
  f307 := Tryz.func229.trans (congrArg some (by kernel_rfl))
  f308 := Tryz.func230.trans (congrArg some (by kernel_rfl))
  f309 := Tryz.func231.trans (congrArg some (by kernel_rfl))
  f310 := Tryz.func232.trans (congrArg some (by kernel_rfl))
  f329 := Tryz.func262.trans (congrArg some (by kernel_rfl))
  f330 := Tryz.func263.trans (congrArg some (by kernel_rfl))
  f333 := Tryz.func261.trans (congrArg some (by kernel_rfl))
  f334 := Tryz.func264.trans (congrArg some (by kernel_rfl))
  f335 := Tryz.func265.trans (congrArg some (by kernel_rfl))
  f336 := Tryz.func266.trans (congrArg some (by kernel_rfl))
  f344 := Tryz.func284.trans (congrArg some (by kernel_rfl))
  t0 := Tryz.underlying0
  a0 := Tryz.isAgg0
  z0 := Tryz.sizeOf0
  v0 := Tryz.zeroValue0
  t3 := Tryz.underlying3
  a3 := Tryz.isAgg3
  z3 := Tryz.sizeOf3
  v3 := Tryz.zeroValue3
  t4 := Tryz.underlying4
  a4 := Tryz.isAgg4
  z4 := Tryz.sizeOf4
  v4 := Tryz.zeroValue4
  t5 := Tryz.underlying5
  a5 := Tryz.isAgg5
  z5 := Tryz.sizeOf5
  v5 := Tryz.zeroValue5
  t9 := Tryz.underlying9
  a9 := Tryz.isAgg9
  z9 := Tryz.sizeOf9
  v9 := Tryz.zeroValue9
  t31 := Tryz.underlying57
  a31 := Tryz.isAgg57
  z31 := Tryz.sizeOf57
  v31 := Tryz.zeroValue57
  t46 := Tryz.underlying204
  a46 := Tryz.isAgg204
  z46 := Tryz.sizeOf204
  v46 := Tryz.zeroValue204
  t51 := Tryz.underlying232
  a51 := Tryz.isAgg232
  z51 := Tryz.sizeOf232
  v51 := Tryz.zeroValue232
  t53 := Tryz.underlying234
  a53 := Tryz.isAgg234
  z53 := Tryz.sizeOf234
  v53 := Tryz.zeroValue234
  t131 := Tryz.underlying229
  a131 := Tryz.isAgg229
  z131 := Tryz.sizeOf229
  v131 := Tryz.zeroValue229
  t182 := Tryz.underlying224
  a182 := Tryz.isAgg224
  z182 := Tryz.sizeOf224
  v182 := Tryz.zeroValue224
  t183 := Tryz.underlying225
  a183 := Tryz.isAgg225
  z183 := Tryz.sizeOf225
  v183 := Tryz.zeroValue225
  t218 := Tryz.underlying256
  a218 := Tryz.isAgg256
  z218 := Tryz.sizeOf256
  v218 := Tryz.zeroValue256
  t222 := Tryz.underlying260
  a222 := Tryz.isAgg260
  z222 := Tryz.sizeOf260
  v222 := Tryz.zeroValue260
  t228 := Tryz.underlying279
  a228 := Tryz.isAgg279
  z228 := Tryz.sizeOf279
  v228 := Tryz.zeroValue279
  t229 := Tryz.underlying52
  a229 := Tryz.isAgg52
  z229 := Tryz.sizeOf52
  v229 := Tryz.zeroValue52 }
def Tryz.laysCompact_ren : Go.Shelf.Ren := ⟨fun | 194 => 158 | n => n, fun | 31 => 57 | 9 => 9 | 3 => 3 | 4 => 4 | 0 => 0 | n => n, fun | n => n⟩
theorem Tryz.laysCompact : Go.Proofs.Lays.n194 Tryz.prog Tryz.laysCompact_ren := {
  mixed := by kernel_rfl
  f194 := Tryz.func158.trans (congrArg some (by kernel_rfl))
  t0 := Tryz.underlying0
  a0 := Tryz.isAgg0
  z0 := Tryz.sizeOf0
  v0 := Tryz.zeroValue0
  t3 := Tryz.underlying3
  a3 := Tryz.isAgg3
  z3 := Tryz.sizeOf3
  v3 := Tryz.zeroValue3
  t4 := Tryz.underlying4
  a4 := Tryz.isAgg4
  z4 := Tryz.sizeOf4
  v4 := Tryz.zeroValue4
  t9 := Tryz.underlying9
  a9 := Tryz.isAgg9
  z9 := Tryz.sizeOf9
  v9 := Tryz.zeroValue9
  t31 := Tryz.underlying57
  a31 := Tryz.isAgg57
  z31 := Tryz.sizeOf57
  v31 := Tryz.zeroValue57 }
end Go.Proofs
namespace Go.Proofs.YtnanellmaelipaaGreatDoor
set_option maxHeartbeats 4000000
namespace Vx
open Go.RowKit Go.Sort
theorem own_at {j : Nat} {v : Value} {c : Cx} {s : St} {a : Act} {w w' : World} {β : Nat → Value} {fp : Nat → List (Nat × Nat)} (S : SatI c s a w β fp) {e k : Nat} {R : List (List D)} {f : List (Nat × Nat)}
    (hpin : ∀ p ∈ c.pins, v = p.2 ∧ p.1 = j) (hb : BlkOk w' (get? [(j, Blk.own e k true R)]) (fun _ => v) c j f (.own e k true R)) (hnd : (Ob (fun _ => v) j f (.own e k true R)).Nodup) (hfree : ∀ x ∈ Ob (fun _ => v) j f (.own e k true R), ¬ c.G x)
    (hG : ∀ b, c.G b → w'.heap[b]? = w.heap[b]?) (hsize : w.heap.size ≤ w'.heap.size) (hos : w'.os = w.os) (htape : w'.tape = w.tape) (hout : w'.output = w.output) :
    ∃ β' fp' a', SatI c ⟨fun _ => none, get? [(j, .own e k true R)]⟩ a' w' β' fp' ∧ RelL w' (get? [(j, .own e k true R)]) β' c [.own j k R] [v] := by
  refine ⟨fun _ => v, fun _ => f, ⟨Array.replicate c.n undef, []⟩, ⟨?_, ?_, ?_, ?_, ?_, S.fg, fun b hb => ⟨(S.old b hb).1, (hG b hb).trans (S.old b hb).2⟩, hos.trans S.os, htape.trans S.tape, hout.trans S.output, Nat.le_trans S.size hsize, rfl, by simp, fun p hp => ?_⟩, ?_⟩
  · intro t g av h; cases h
  · intro h blk hm; obtain ⟨rfl, rfl⟩ := get1 hm; exact hb
  · intro h blk hm; obtain ⟨rfl, rfl⟩ := get1 hm; exact hnd
  · intro h h' blk blk' hm hm' hne; obtain ⟨rfl, rfl⟩ := get1 hm; obtain ⟨rfl, rfl⟩ := get1 hm'; exact absurd rfl hne
  · intro h blk hm x hx; obtain ⟨rfl, rfl⟩ := get1 hm; exact hfree x hx
  · obtain ⟨h1, h2⟩ := hpin p hp
    exact ⟨h1, by rw [h2]; simp [get?]⟩
  · exact own_rel (h := j) (fps := fun _ => f) (by simp [get?]) hb hnd (fun h' blk' hm hne => by obtain ⟨rfl, rfl⟩ := get1 hm; exact absurd rfl hne) hfree
theorem rd_strs {q : Bool} {w : World} : ∀ {l : List Str}, (∀ s ∈ l, s.length ≤ maxLen) → RdL q w (eStrs l).flatten (l.map encStr) []
  | [], _ => .nil
  | s :: l, h => .str (h s (by simp)) (rd_strs fun x hx => h x (by simp [hx]))
theorem rd_strs_inv {q : Bool} {w : World} : ∀ {l : List Str} {vs f}, RdL q w (eStrs l).flatten vs f → vs = l.map encStr ∧ f = [] ∧ ∀ s ∈ l, s.length ≤ maxLen
  | [], vs, f, h => by cases h; exact ⟨rfl, rfl, by simp⟩
  | s :: l, vs, f, h => by
    cases h with
    | str h1 h2 =>
      obtain ⟨rfl, rfl, h3⟩ := rd_strs_inv (l := l) h2
      exact ⟨rfl, rfl, by simpa using ⟨h1, h3⟩⟩
theorem put_at {w : World} {n b : Nat} {d : List Str} {os : Array Obj} {cs : Array Value} {e : Nat} {fr : Nat × Nat} (hb : w.heap[b]? = some (.cells cs e fr)) :
    (grow (putRow encStr (Sort.ahead w n) b 0 d.toArray) os).heap[b]? = some (.cells (putCells encStr 0 d.toArray cs) e fr) ∧
    (∀ x, x < w.heap.size → x ≠ b → (grow (putRow encStr (Sort.ahead w n) b 0 d.toArray) os).heap[x]? = w.heap[x]?) ∧ w.heap.size ≤ (grow (putRow encStr (Sort.ahead w n) b 0 d.toArray) os).heap.size ∧
    (putCells encStr 0 d.toArray cs).size = cs.size ∧ ∀ k, k ≤ d.length → k ≤ cs.size → (putCells encStr 0 d.toArray cs).toList.take k = (d.take k).map encStr := by
  have hlt : b < w.heap.size := (Array.getElem?_eq_some_iff.1 hb).1
  refine ⟨?_, fun x hx hne => ?_, ?_, by simp [putCells], fun k hk hk2 => ?_⟩
  · simp only [grow, putRow, mapBlock, Sort.ahead]
    rw [Array.getElem?_append_left (by simpa using hlt), Array.getElem?_modify, if_pos rfl, hb]
    rfl
  · simp only [grow, putRow, mapBlock, Sort.ahead]
    rw [Array.getElem?_append_left (by simpa using hx), Array.getElem?_modify, if_neg (Ne.symm hne)]
  · simp [grow, putRow, mapBlock, Sort.ahead]
  · apply List.ext_getElem
    · simp [putCells]; omega
    · intro i h1 h2
      have hi : i < d.length := by simp at h2; omega
      simp only [List.getElem_take, List.getElem_map, putCells, Array.getElem_toList, Array.getElem_mapIdx]
      rw [if_pos (by simp; omega)]
      simp [hi]
def sortL (l : List Str) : List Str := l.mergeSort fun x y => decide (x ≤ y)
def cSortS : Con := { A := List Str, X := Unit, n := 11, args := fun l => [.own 0 1 (eStrs l)], boxes := fun _ => [], pre := fun l => l.length ≤ 1048576, post := fun _ _ => True, res := fun _ _ => .tup [], fin := fun l _ => [(0, .own 9 1 true (eStrs (sortL l)))], owns := fun l => [(0, 9, 1, eStrs l)], lends := [0], mv := true }
theorem sortL_len (l : List Str) : (sortL l).length = l.length := by simp [sortL]
theorem sortL_mem (l : List Str) (x : Str) : x ∈ sortL l ↔ x ∈ l := by simp [sortL]
theorem sortS_has : Has Tryz.prog 157 cSortS := by
  refine ⟨fun args w => Go.MuLone.run_callFunc_enter Tryz.func157 (by kernel_rfl) rfl args w, fun _ => ⟨(), trivial⟩, fun _ _ => rfl, ?_, trivial, .inl rfl⟩
  intro (l : List Str) (h1 : l.length ≤ 1048576) c _ vs β fp hn hpin hlen hlen2 S
  have hp : c.pins = [(0, β 0)] := hpin
  have hr := start_rel hlen S
  obtain ⟨v0, vs1, rfl, r0, hr⟩ := hr.uncons
  cases hr
  have m0 : (cSortS.start2 l).m 0 = some (.own 9 1 true (eStrs l)) := rfl
  have e0 : v0 = β 0 := by cases r0 with | own _ _ h3 _ => exact (h3 _ _ _ _ m0).1
  subst e0
  have hnd := S.nodup 0 _ m0
  have hfr := S.free 0 _ m0
  have hGlt : ∀ b, c.G b → b < c.w0.heap.size := fun b hG => (S.old b hG).1
  have fin : ∀ {w' : World}, (∃ β' fp' a', SatI c ⟨fun _ => none, get? [(0, .own 9 1 true (eStrs (sortL l)))]⟩ a' w' β' fp' ∧ RelL w' (get? [(0, .own 9 1 true (eStrs (sortL l)))]) β' c [.own 0 1 (eStrs (sortL l))] [β 0]) →
      ∃ x, cSortS.post l x ∧ ∃ v, Ending.returned (.tuple #[]) = Ending.returned v ∧ ∃ β' fp' a', SatI c (cSortS.end_ l x) a' w' β' fp' ∧ RelL w' (get? (cSortS.fin l x)) β' c [cSortS.res l x] [v] :=
    fun ⟨β', fp', a', g1, g2⟩ => ⟨(), trivial, _, rfl, β', fp', a', g1, .tup .lnil .lnil⟩
  obtain ⟨_, _, B0⟩ := S.mem 0 _ m0
  rcases B0 with ⟨q1, q2, q3⟩ | ⟨b, cap, cs, f0, q1, q2, q3, q4, q5, q6, q7, _⟩
  · have hl : l = [] := by simpa using q2
    subst hl
    rw [q1]
    refine (Any.slices_Sort_string_none Tryz.laysSort none 0 c.w0).mono ?_
    rintro e w' ⟨rfl, rfl⟩
    have := own_at (w' := c.w0) (j := 0) (v := β 0) (f := []) (e := 9) (k := 1) (R := []) S (by rw [hp]; intro p hp; simp at hp; subst hp; exact ⟨rfl, rfl⟩) ⟨by omega, by simp, .inl ⟨q1, rfl, rfl⟩⟩ (by simp [Ob, q1]) (by simp [Ob, q1]) (fun _ _ => rfl) (Nat.le_refl _) rfl rfl rfl
    exact fin (by simpa [sortL] using this)
  · rw [eStrs_length] at q1 q3 q6
    obtain ⟨u1, u2, u3⟩ := rd_strs_inv q6
    have q7 := q7 rfl
    rw [u2] at q7
    have hlt : b < c.w0.heap.size := (Array.getElem?_eq_some_iff.1 q2).1
    have hH : Holds encStr c.w0 b 0 l.toArray := by
      intro j hj
      have hj : j < l.length := by simpa using hj
      have hjc : j < cs.size := by omega
      constructor
      · have : (cs.toList.take (l.length * 1))[j]? = some (encStr l[j]) := by rw [u1]; simp [hj]
        rw [List.getElem?_take, if_pos (by omega)] at this
        simp only [World.cell?, q2]
        simpa [hj] using this
      · simp [World.frozen?, q2]
    rw [q1]
    refine (Any.slices_Sort_string Tryz.laysSort b 0 cap l c.w0 hH hlt (by omega)).mono ?_
    rintro e w' ⟨rfl, n, os, rfl⟩
    obtain ⟨z1, z2, z3, z4, z5⟩ := put_at (n := n) (d := sortL l) (os := os) q2
    have hob : Ob β 0 (fp 0) (.own 9 1 true (eStrs l)) = [b] := by simp [Ob, q1, q7]
    rw [hob] at hfr
    have := own_at (j := 0) (v := β 0) (f := []) (e := 9) (k := 1) (R := eStrs (sortL l)) (w' := grow (putRow encStr (Sort.ahead c.w0 n) b 0 (sortL l).toArray) os) S (by rw [hp]; intro p hp; simp at hp; subst hp; exact ⟨rfl, rfl⟩)
      ⟨by omega, by simp [eStrs, eStr], .inr ⟨b, cap, putCells encStr 0 (sortL l).toArray cs, [], by rw [eStrs_length, sortL_len]; exact q1, z1, by rw [eStrs_length, sortL_len]; exact q3, q4, by rw [z4]; exact q5, by
        rw [eStrs_length, Nat.mul_one, z5 _ (Nat.le_refl _) (by rw [sortL_len]; omega), List.take_length]
        exact rd_strs fun s hs => u3 s ((sortL_mem l s).1 hs), fun _ => rfl, by simp⟩⟩
      (by simp [Ob, q1]) (by simpa [Ob, q1] using hfr) (fun x hG => z2 x (hGlt x hG) fun e => by subst e; exact hfr x (by simp) hG) z3 rfl rfl rfl
    rw [q1] at this fin
    exact fin this
theorem front_blk {w : World} {m : Nat → Option Blk} {β : Nat → Value} {c : Cx} {h b cap : Nat} {cells : Array Value} {C : List Str} (hv : β h = .slice (some ⟨b, 0, none⟩) C.length cap) (hw : w.heap[b]? = some (.cells cells 9 (0, 0))) (hcap : C.length ≤ cap) (q4 : cap ≤ maxLen) (q5 : cells.size = cap * 1)
    (htk : cells.toList.take C.length = C.map encStr) (hu : ∀ s ∈ C, s.length ≤ maxLen) : BlkOk w m β c h [] (.own 9 1 true (eStrs C)) := by
  refine ⟨by omega, by simp [eStrs, eStr], .inr ⟨b, cap, cells, [], ?_, hw, ?_, q4, q5, ?_, fun _ => rfl, by simp⟩⟩
  · rw [eStrs_length]; exact hv
  · rw [eStrs_length]; exact hcap
  · rw [eStrs_length, Nat.mul_one, htk]
    exact rd_strs hu
def cCompactS : Con := { A := List Str, X := Unit, n := 61, args := fun l => [.own 0 1 (eStrs l)], boxes := fun _ => [], pre := fun l => l.length ≤ 1048576, post := fun _ _ => True, res := fun l _ => .own 8 1 (eStrs (Lib.compact l)), fin := fun l _ => [(8, .own 9 1 true (eStrs (Lib.compact l)))], owns := fun l => [(0, 9, 1, eStrs l)], mv := true }
theorem compact_len (l : List Str) : (Lib.compact l).length ≤ l.length := by
  unfold Lib.compact Lib.compactUpTo
  rw [List.length_map]
  exact Nat.le_trans (List.length_filter_le _ _) (by simp)
theorem compact_mem1 (l : List Str) : ∀ s ∈ Lib.compact l, s ∈ l := by
  intro s hs
  unfold Lib.compact Lib.compactUpTo at hs
  obtain ⟨j, hj, rfl⟩ := List.mem_map.1 hs
  have hj : j < l.length := by simpa using (List.mem_filter.1 hj).1
  rw [getElem!_pos _ j (by simpa using hj)]
  simp
set_option maxHeartbeats 400000 in
theorem compactS_has : Has Tryz.prog 158 cCompactS := by
  refine ⟨fun args w => Go.MuLone.run_callFunc_enter Tryz.func158 (by kernel_rfl) rfl args w, fun _ => ⟨(), trivial⟩, fun _ _ => rfl, ?_, trivial, .inl rfl⟩
  intro (l : List Str) (h1 : l.length ≤ 1048576) c _ vs β fp hn hpin hlen hlen2 S
  have hp : c.pins = [] := hpin
  have hr := start_rel hlen S
  obtain ⟨v0, vs1, rfl, r0, hr⟩ := hr.uncons
  cases hr
  have m0 : (cCompactS.start2 l).m 0 = some (.own 9 1 true (eStrs l)) := rfl
  have e0 : v0 = β 0 := by cases r0 with | own _ _ h3 _ => exact (h3 _ _ _ _ m0).1
  subst e0
  have hfr := S.free 0 _ m0
  have hGlt : ∀ b, c.G b → b < c.w0.heap.size := fun b hG => (S.old b hG).1
  have fin : ∀ {w' : World} {v : Value}, (∃ β' fp' a', SatI c ⟨fun _ => none, get? [(8, .own 9 1 true (eStrs (Lib.compact l)))]⟩ a' w' β' fp' ∧ RelL w' (get? [(8, .own 9 1 true (eStrs (Lib.compact l)))]) β' c [.own 8 1 (eStrs (Lib.compact l))] [v]) →
      ∃ x, cCompactS.post l x ∧ ∃ v', Ending.returned v = Ending.returned v' ∧ ∃ β' fp' a', SatI c (cCompactS.end_ l x) a' w' β' fp' ∧ RelL w' (get? (cCompactS.fin l x)) β' c [cCompactS.res l x] [v'] :=
    fun ⟨β', fp', a', g1, g2⟩ => ⟨(), trivial, _, rfl, β', fp', a', g1, g2⟩
  obtain ⟨_, _, B0⟩ := S.mem 0 _ m0
  rcases B0 with ⟨q1, q2, q3⟩ | ⟨b, cap, cs, f0, q1, q2, q3, q4, q5, q6, q7, _⟩
  · have hl : l = [] := by simpa using q2
    subst hl
    rw [q1]
    refine (Any.slices_Compact_string_empty Tryz.laysCompact none 0 c.w0).mono ?_
    rintro e w' ⟨rfl, rfl⟩
    have := own_at (w' := c.w0) (j := 8) (v := .slice none 0 0) (f := []) (e := 9) (k := 1) (R := []) S (by rw [hp]; simp) ⟨by omega, by simp, .inl ⟨rfl, rfl, rfl⟩⟩ (by simp [Ob]) (by simp [Ob]) (fun _ _ => rfl) (Nat.le_refl _) rfl rfl rfl
    exact fin (by simpa [Lib.compact, Lib.compactUpTo] using this)
  · rw [eStrs_length] at q1 q3 q6
    obtain ⟨u1, u2, u3⟩ := rd_strs_inv q6
    have q7 := q7 rfl
    rw [u2] at q7
    have hlt : b < c.w0.heap.size := (Array.getElem?_eq_some_iff.1 q2).1
    have hH : Holds encStr c.w0 b 0 l.toArray := by
      intro j hj
      have hj : j < l.length := by simpa using hj
      have hjc : j < cs.size := by omega
      constructor
      · have : (cs.toList.take (l.length * 1))[j]? = some (encStr l[j]) := by rw [u1]; simp [hj]
        rw [List.getElem?_take, if_pos (by omega)] at this
        simp only [World.cell?, q2]
        simpa [hj] using this
      · simp [World.frozen?, q2]
    rw [q1]
    refine (Any.slices_Compact_string Tryz.laysCompact b 0 cap l c.w0 hH (by omega) q3).mono ?_
    rintro e w' ⟨rfl, n, rfl⟩
    have hcl := compact_len l
    obtain ⟨z1, z2, z3, z4, z5⟩ := put_at (n := n) (d := Lib.compact l ++ List.replicate (l.length - (Lib.compact l).length) []) (os := #[]) q2
    simp only [grow_empty] at z1 z2 z3 z4 z5
    have hob : Ob β 0 (fp 0) (.own 9 1 true (eStrs l)) = [b] := by simp [Ob, q1, q7]
    rw [hob] at hfr
    have htk := z5 (Lib.compact l).length (by simp) (by omega)
    rw [List.take_left] at htk
    have hu : ∀ s ∈ Lib.compact l, s.length ≤ maxLen := fun s hs => u3 s (compact_mem1 l s hs)
    generalize hcs : putCells encStr 0 (Lib.compact l ++ List.replicate (l.length - (Lib.compact l).length) []).toArray cs = cells at z1 z4 htk
    generalize hw' : putRow encStr (Sort.ahead c.w0 n) b 0 (Lib.compact l ++ List.replicate (l.length - (Lib.compact l).length) []).toArray = w1 at z1 z2 z3
    have hos : w1.os = c.w0.os := by rw [← hw']; rfl
    have htp : w1.tape = c.w0.tape := by rw [← hw']; rfl
    have hou : w1.output = c.w0.output := by rw [← hw']; rfl
    have hw'' : putRow encStr (Sort.ahead c.w0 n) b 0 (Lib.compact l ++ List.replicate (l.length - (Lib.compact l).length) []).toArray = w1 := hw'
    clear hw' hcs
    generalize hC : Lib.compact l = C at *
    have := own_at (j := 8) (v := .slice (some ⟨b, 0, none⟩) C.length cap) (f := []) (e := 9) (k := 1) (R := eStrs C) (w' := w1) S (by rw [hp]; simp)
      (front_blk (cells := cells) rfl z1 (by omega) q4 (by rw [z4]; exact q5) htk hu) (by simp [Ob]) (by simpa [Ob] using hfr) (fun x hG => z2 x (hGlt x hG) fun e => by subst e; exact hfr x (by simp) hG) z3 hos htp hou
    exact fin this
end Vx
end Go.Proofs.YtnanellmaelipaaGreatDoor
namespace Go.Proofs.YtnanellmaelipaaGreatDoor
set_option maxHeartbeats 4000000
namespace Vx
open Go.RowKit
set_option maxRecDepth 8000
def getI (t : List FileD) (p : Str) : List Str × Bool := match t.find? (fun f => decide (f.path = p)) with
  | some f => (f.text, true)
  | none => ([], false)
theorem getI_hit {t : List FileD} {p : Str} {i : Nat} (h : i < t.length) (h1 : ∀ j (hj : j < t.length), j < i → ¬ t[j].path = p) (h2 : t[i].path = p) : getI t p = (t[i].text, true) := by
  have : t.find? (fun f => decide (f.path = p)) = some t[i] := by
    rw [List.find?_eq_some_iff_getElem]
    refine ⟨by simp -implicitDefEqProofs [h2], i, h, rfl, fun j hj => ?_⟩
    simpa using h1 j (by omega) hj
  unfold getI; rw [this]
theorem getI_none {t : List FileD} {p : Str} (h : ∀ j (hj : j < t.length), ¬ t[j].path = p) : getI t p = ([], false) := by
  have : t.find? (fun f => decide (f.path = p)) = none := by
    rw [List.find?_eq_none]
    intro f hf
    obtain ⟨j, hj, rfl⟩ := List.getElem_of_mem hf
    simpa using h j hj
  unfold getI; rw [this]
def cGetF : Con := .fn 22 (List FileD × Str) (fun a => [.sl true 2 (eFiles a.1), .str a.2]) (fun a => ∀ f ∈ a.1, f.text.length ≤ 1048576) (fun a => .tup [.own 8 1 (eStrs (getI a.1 a.2).1), .bool (getI a.1 a.2).2]) (fun a => ownStrs 8 (getI a.1 a.2).1)
theorem getF_has : Has Tryz.prog 108 cGetF := by
  refine has_walk mixed tTab_ok (l := [(162, cCopyText)]) (HasL.cons copyText_has HasL.nil) [0, 1, 4, 5, 7, 8, 9, 10] ((fun a n (_ : Nat) => (fun a _ => ⟨Nat, fun i => ⟨[(1, true, .str a.2), (4, true, .nil), (5, true, .bool false), (8, true, .sl true 2 (eFiles a.1)), (9, true, .int .i64 a.1.length), (10, true, .int .i64 i)], []⟩, fun i => i ≤ a.1.length ∧ ∀ j (hj : j < a.1.length), j < i → ¬ a.1[j].path = a.2, fun i => a.1.length - i⟩) a n)) [] Tryz.func108 (by kernel_rfl) (code := _) (by unfold Tryz.f108; rfl) (by kernel_rfl) (by decide) (fun _ => ⟨(), trivial⟩) (by intro h; first | exact fun _ => rfl | cases h) (by kernel_rfl) ?_
  intro a ha
  obtain ⟨t, p⟩ := a
  replace ha : ∀ f ∈ t, f.text.length ≤ 1048576 := ha
  simp -implicitDefEqProofs [cGetF, cCopyText, Con.fn, tTab]
  try dsimp only
  refine fun _ i hi hb => ⟨fun hlt => ⟨hlt, fun _ => ?_⟩, fun hge => ?_⟩
  · have hf := ha t[i] (List.getElem_mem hlt)
    have e1 := fun h => getI_hit (p := p) hlt hb h
    simp -implicitDefEqProofs [hlt, eFile, D.asStr, D.asRows, and_assoc]
    refine ⟨fun h => ⟨hf, by rw [e1 h]; exact ⟨rfl, rfl, rfl⟩⟩, fun h => ⟨by omega, by omega, fun _ _ => ⟨i + 1, by omega, by omega, fun j hj hji => ?_, by omega⟩⟩⟩
    by_cases e : j = i
    · subst e; exact h
    · exact hb j hj (by omega)
  · rw [getI_none fun j hj => hb j hj (by omega)]
    exact ⟨⟨rfl, rfl⟩, rfl⟩
theorem getI_eq (t : List FileD) (p : Str) : getI t p = getL t p := by
  unfold getI
  induction t with
  | nil => rfl
  | cons f t ih =>
    unfold getL
    by_cases h : f.path = p
    · simp -implicitDefEqProofs [h]
    · rw [List.find?_cons_of_neg (by simpa using h), if_neg h]; exact ih
end Vx
end Go.Proofs.YtnanellmaelipaaGreatDoor
namespace Go.Proofs.YtnanellmaelipaaGreatDoor
set_option maxHeartbeats 4000000
namespace Vx
open Go.RowKit
set_option maxRecDepth 8000
--TAB tTabC
def tTabC : List (Nat × TI) := (164, ⟨false, [.sl 54 1], 24, [], 54⟩) :: (123, ⟨true, [.sl 9 1, .bool], 32, [(57, 0), (4, 1)], 0⟩) :: tTab
theorem tTabC_ok : ∀ t ti, get? tTabC t = some ti → TOk Tryz.prog t ti := tabChk_ok (by kernel_rfl)
theorem str_le_trans {a b c : Str} (h : a ≤ b) (h' : b ≤ c) : a ≤ c := List.le_trans h h'
theorem str_le_lt {a b : Str} (h : a ≤ b) (hne : a ≠ b) : a < b := str_total b a h (Ne.symm hne)
theorem sortL_pw (l : List Str) : (sortL l).Pairwise (· ≤ ·) := by
  have := List.pairwise_mergeSort (le := fun x y : Str => decide (x ≤ y)) (fun a b c h h' => by simp only [decide_eq_true_eq] at *; exact str_le_trans h h') (fun a b => by
    simp only [Bool.or_eq_true, decide_eq_true_eq]
    exact List.le_total a b) l
  refine List.Pairwise.imp ?_ this
  intro a b h; simpa using h
theorem compactUp {l : List Str} (h : l.Pairwise (· ≤ ·)) : ∀ m, m ≤ l.length → srt (Lib.compactUpTo l.toArray m) ∧ ∀ x, x ∈ Lib.compactUpTo l.toArray m ↔ x ∈ l.take m
  | 0, _ => ⟨by simp -implicitDefEqProofs [Lib.compactUpTo, srt], by simp -implicitDefEqProofs [Lib.compactUpTo]⟩
  | m + 1, hm => by
    obtain ⟨h1, h2⟩ := compactUp h m (by omega)
    have hlt : m < l.length := by omega
    have e : l.toArray[m]! = l[m] := by simp -implicitDefEqProofs [hlt]
    have hall : ∀ x ∈ l.take m, x ≤ l[m] := by
      intro x hx
      obtain ⟨i, hi, rfl⟩ := List.getElem_of_mem hx
      have hi' : i < m := by simp at hi; omega
      rw [List.getElem_take]
      exact List.pairwise_iff_getElem.1 h i m (by omega) hlt hi'
    rw [Lib.compactUpTo_succ, e, take_succ' hlt]
    by_cases hk : Lib.keeps l.toArray m = true
    · rw [if_pos hk]
      refine ⟨List.pairwise_append.2 ⟨h1, by simp, fun x hx y hy => ?_⟩, fun x => by rw [List.mem_append, List.mem_append, h2]⟩
      have : y = l[m] := by simpa using hy
      subst this
      have hx := (h2 x).1 hx
      have hle := hall x hx
      refine str_le_lt hle fun e2 => ?_
      have hm0 : 0 < m := by
        rcases Nat.eq_zero_or_pos m with h0 | h0
        · subst h0; simp at hx
        · exact h0
      have hne : l[m] ≠ l[m - 1] := by
        have := hk
        unfold Lib.keeps at this
        simp only [decide_eq_true_eq] at this
        rcases this with h0 | h0
        · omega
        · simpa [hlt, show m - 1 < l.length by omega] using h0
      obtain ⟨i, hi, rfl⟩ := List.getElem_of_mem hx
      have hi' : i < m := by simp at hi; omega
      rw [List.getElem_take] at e2 hle
      rcases Nat.lt_or_ge i (m - 1) with hq | hq
      · have q1 := List.pairwise_iff_getElem.1 h i (m - 1) (by omega) (by omega) hq
        have q2 := List.pairwise_iff_getElem.1 h (m - 1) m (by omega) hlt (by omega)
        have q3 := str_le_lt q2 (Ne.symm hne)
        rw [← e2] at q3
        exact q1 q3
      · have : i = m - 1 := by omega
        subst this
        exact hne e2.symm
    · rw [if_neg hk, List.append_nil]
      refine ⟨h1, fun x => ?_⟩
      rw [h2, List.mem_append]
      have hk : Lib.keeps l.toArray m = false := by simpa using hk
      unfold Lib.keeps at hk
      simp only [decide_eq_false_iff_not, not_or, Classical.not_not] at hk
      obtain ⟨k1, k2⟩ := hk
      have k3 : l[m] = l[m - 1] := by simpa [hlt, show m - 1 < l.length by omega] using k2
      refine ⟨.inl, fun hx => hx.elim id fun hx => ?_⟩
      have : x = l[m] := by simpa using hx
      rw [this, k3]
      exact List.mem_take_iff_getElem.2 ⟨m - 1, by omega, rfl⟩
theorem compact_sort (l : List Str) : srt (Lib.compact (sortL l)) ∧ ∀ x, x ∈ Lib.compact (sortL l) ↔ x ∈ l := by
  obtain ⟨h1, h2⟩ := compactUp (sortL_pw l) (sortL l).length (Nat.le_refl _)
  exact ⟨h1, fun x => by
    unfold Lib.compact
    rw [h2, List.take_length, sortL_mem]⟩
def allP (ts : List (List FileD)) : List Str := Lib.compact (sortL (ts.flatten.map (·.path)))
theorem allP_3 (o a b : List FileD) : allP [o, a, b] = paths6 o a b := by
  obtain ⟨h1, h2⟩ := compact_sort (([o, a, b] : List (List FileD)).flatten.map (·.path))
  obtain ⟨h3, h4⟩ := paths6_srt o a b
  refine srt_eq h1 h3 fun x => ?_
  unfold allP at *
  rw [h2, h4]; simp
def eTree (t : List FileD) : List D := [.sl 61 2 (eFiles t)]
def eTrees (ts : List (List FileD)) : List (List D) := ts.map eTree
@[simp] theorem eTrees_length (l : List (List FileD)) : (eTrees l).length = l.length := by simp -implicitDefEqProofs [eTrees]
@[simp] theorem eTrees_get (l : List (List FileD)) (i : Nat) : (eTrees l)[i]? = l[i]?.map eTree := by simp -implicitDefEqProofs [eTrees]
def preP (ts : List (List FileD)) (i j : Nat) : List Str := ((ts.take i).flatten ++ (ts.getD i []).take j).map (·.path)
theorem preP_0 (ts : List (List FileD)) : preP ts 0 0 = [] := by simp -implicitDefEqProofs [preP]
theorem preP_end (ts : List (List FileD)) : preP ts ts.length 0 = ts.flatten.map (·.path) := by simp -implicitDefEqProofs [preP]
theorem preP_next {ts : List (List FileD)} {i : Nat} (h : i < ts.length) : preP ts i (ts.getD i []).length = preP ts (i + 1) 0 := by
  have e3 : ts.getD i [] = ts[i] := by simp -implicitDefEqProofs [List.getD_eq_getElem?_getD, h]
  unfold preP
  rw [take_succ' h, e3, List.take_length, List.flatten_append, List.take_zero, List.append_nil]
  simp only [List.flatten_cons, List.flatten_nil, List.append_nil]
theorem preP_succ {ts : List (List FileD)} {i j : Nat} (h : j < (ts.getD i []).length) : preP ts i (j + 1) = preP ts i j ++ [(ts.getD i [])[j].path] := by
  unfold preP
  rw [take_succ' h, ← List.append_assoc, List.map_append]; rfl
theorem flat_le {ts : List (List FileD)} {i : Nat} (j : Nat) (h : i < ts.length) : ((ts.take i).flatten ++ (ts.getD i []).take j).length ≤ ts.flatten.length := by
  have e := List.take_append_drop (i + 1) ts
  have e2 : ts.flatten.length = ((ts.take (i + 1)).flatten ++ (ts.drop (i + 1)).flatten).length := by rw [← List.flatten_append, e]
  rw [e2, take_succ' h]
  have e3 : ts.getD i [] = ts[i] := by simp -implicitDefEqProofs [List.getD_eq_getElem?_getD, h]
  rw [e3]
  have : (List.take j ts[i]).length ≤ ts[i].length := by rw [List.length_take]; omega
  simp only [List.length_append, List.flatten_append, List.flatten_cons, List.flatten_nil, List.append_nil]
  omega
theorem preP_len {ts : List (List FileD)} {i : Nat} (j : Nat) (h : i < ts.length) : (preP ts i j).length ≤ ts.flatten.length := by
  unfold preP; rw [List.length_map]; exact flat_le j h
def apI (ts : List (List FileD)) : Inv := ⟨Nat, fun i => ⟨[(2, true, .nil), (3, true, .own 9 1 (eStrs (preP ts i 0))), (8, true, .sl true 1 (eTrees ts)), (9, true, .int .i64 ts.length), (10, true, .int .i64 i)], [(9, .own 9 1 true (eStrs (preP ts i 0)))]⟩, fun i => i ≤ ts.length, fun i => ts.length - i⟩
def apJ (ts : List (List FileD)) (g : Nat) : Inv := ⟨Nat, fun j => ⟨[(2, true, .nil), (3, true, .own 9 1 (eStrs (preP ts g j))), (8, true, .sl true 1 (eTrees ts)), (9, true, .int .i64 ts.length), (10, true, .int .i64 g), (14, true, .sl true 2 (eFiles (ts.getD g []))), (15, true, .int .i64 (ts.getD g []).length), (16, true, .int .i64 j)], [(9, .own 9 1 true (eStrs (preP ts g j)))]⟩, fun j => g < ts.length ∧ j ≤ (ts.getD g []).length, fun j => (ts.getD g []).length - j⟩
def apInv (ts : List (List FileD)) (n g : Nat) : Inv := if n = 3 then apI ts else apJ ts g
theorem apInv_3 (ts g) : apInv ts 3 g = apI ts := rfl
theorem apInv_6 (ts g) : apInv ts 6 g = apJ ts g := rfl
def cAllPaths : Con := .fn 31 (List (List FileD)) (fun ts => [.sl true 1 (eTrees ts)]) (fun ts => ts.flatten.length ≤ 1048576 ∧ ts.length ≤ 1048576) (fun ts => .own 8 1 (eStrs (allP ts))) (fun ts => ownStrs 8 (allP ts))
theorem allPaths_has : Has Tryz.prog 103 cAllPaths := by
  refine has_walk mixed tTabC_ok (l := [(157, cSortS), (158, cCompactS)]) (HasL.cons sortS_has (HasL.cons compactS_has HasL.nil)) [0, 2, 3, 5, 7, 8, 9, 10, 14, 15, 16] (apInv) [] Tryz.func103 (by kernel_rfl) (code := _) (by unfold Tryz.f103; rfl) (by kernel_rfl) (by decide) (fun _ => ⟨(), trivial⟩) (by intro h; first | exact fun _ => rfl | cases h) (by kernel_rfl) ?_
  intro (ts : List (List FileD)) ha
  obtain ⟨h1, h2⟩ : ts.flatten.length ≤ 1048576 ∧ ts.length ≤ 1048576 := ha
  simp (maxSteps := 4000000) [cAllPaths, cSortS, cCompactS, Con.fn, tTabC, tTab, apInv_3, apInv_6, apI, apJ]
  try dsimp only
  refine fun _ => ⟨⟨0, ⟨⟨preP_0 ts, rfl⟩, preP_0 ts⟩, Nat.zero_le _⟩, fun i hi => ⟨fun hlt => ⟨hlt, fun _ => ?_⟩, fun hge => ?_⟩⟩
  · have qq : Option.map eTree ts[i]? = some (eTree ts[i]) := by simp -implicitDefEqProofs [hlt]
    have e3 : ts[i]?.getD [] = ts[i] := by simp -implicitDefEqProofs [hlt]
    have e4 : (ts[i]?.getD []).length = ts[i].length := by rw [e3]
    have hb : ∀ j, (preP ts i j).length ≤ ts.flatten.length := fun j => preP_len j hlt
    rw [qq]
    simp -implicitDefEqProofs [eTree, D.asRows]
    refine fun _ => ⟨i, ⟨0, ⟨⟨rfl, rfl, by rw [e3], by rw [e3], rfl⟩, rfl⟩, hlt, Nat.zero_le _⟩, fun j hg hj => ⟨fun hjl => ⟨hjl, fun _ => ?_⟩, fun hjg => ⟨by omega, fun _ _ => ⟨i + 1, ⟨⟨?_, by omega⟩, ?_⟩, by omega, by omega⟩⟩⟩⟩
    · have q2 : Option.map eFile (ts[i]?.getD [])[j]? = some (eFile (ts[i]?.getD [])[j]) := by simp -implicitDefEqProofs [hjl]
      have q3 : preP ts i (j + 1) = preP ts i j ++ [(ts[i]?.getD [])[j].path] := preP_succ (ts := ts) (i := i) (j := j) hjl
      have hbj := hb j
      rw [q2]
      simp -implicitDefEqProofs [eFile, D.asRows, D.asStr]
      refine ⟨⟨by omega, by omega⟩, by omega, fun _ _ => ⟨j + 1, ⟨⟨?_, by omega⟩, ?_⟩, ⟨hg, by omega⟩, by omega⟩⟩
      · rw [q3, ← eStrs_snoc]
      · rw [q3, ← eStrs_snoc]
    · rw [show j = (ts.getD i []).length by rw [List.getD_eq_getElem?_getD]; omega, preP_next hlt]
    · rw [show j = (ts.getD i []).length by rw [List.getD_eq_getElem?_getD]; omega, preP_next hlt]
  · have : i = ts.length := by omega
    subst this
    rw [sortL_len, preP_end, List.length_map]
    exact ⟨h1, h1, rfl, rfl⟩
def cHasAt : Con := .fn 16 (List FileD × Str) (fun a => [.sl true 2 (eFiles a.1), .str a.2]) (fun a => ∀ f ∈ a.1, f.text.length ≤ 1048576) (fun a => .agg [.own 8 1 (eStrs (getI a.1 a.2).1), .bool (getI a.1 a.2).2]) (fun a => ownStrs 8 (getI a.1 a.2).1)
theorem hasAt_has : Has Tryz.prog 104 cHasAt := by
  refine has_walk mixed tTabC_ok (l := [(108, cGetF)]) (HasL.cons getF_has HasL.nil) [0, 1, 4, 5, 6] ((fun a n (_ : Nat) => (fun _ => noInv) a n)) [] Tryz.func104 (by kernel_rfl) (code := _) (by unfold Tryz.f104; rfl) (by kernel_rfl) (by decide) (fun _ => ⟨(), trivial⟩) (by intro h; first | exact fun _ => rfl | cases h) (by kernel_rfl) ?_
  intro a ha
  obtain ⟨t, p⟩ := a
  replace ha : ∀ f ∈ t, f.text.length ≤ 1048576 := ha
  simp -implicitDefEqProofs [cHasAt, cGetF, Con.fn, tTabC, tTab]
  try dsimp only
  exact ⟨t, p, ⟨rfl, rfl⟩, ha, fun h => ⟨⟨rfl, h⟩, rfl⟩, fun h => ⟨⟨rfl, h⟩, rfl⟩⟩
end Vx
end Go.Proofs.YtnanellmaelipaaGreatDoor
namespace Go.Proofs.YtnanellmaelipaaGreatDoor
set_option maxHeartbeats 4000000
namespace Vx
open Go.RowKit
set_option maxRecDepth 8000
--TAB tTabC
def cEqualS : Con := .fn 26 (List Str × List Str) (fun a => [.sl true 1 (eStrs a.1), .sl true 1 (eStrs a.2)]) (fun _ => True) (fun a => .bool (decide (a.1 = a.2))) (fun _ => [])
theorem equalS_has : Has Tryz.prog 168 cEqualS := by
  refine has_walk mixed tTabC_ok (l := []) HasL.nil [0, 1, 4, 5, 12, 13] ((fun a n (_ : Nat) => (fun a _ => ⟨Nat, fun i => ⟨[(0, true, .sl true 1 (eStrs a.1)), (1, true, .sl true 1 (eStrs a.2)), (4, true, .bool false), (12, true, .int .i64 a.1.length), (13, true, .int .i64 i)], []⟩, fun i => i ≤ a.1.length ∧ a.1.length = a.2.length ∧ a.1.take i = a.2.take i, fun i => a.1.length - i⟩) a n)) [] Tryz.func168 (by kernel_rfl) (code := _) (by unfold Tryz.f168; rfl) (by kernel_rfl) (by decide) (fun _ => ⟨(), trivial⟩) (by intro h; first | exact fun _ => rfl | cases h) (by kernel_rfl) ?_
  intro a _
  obtain ⟨l, r⟩ := a
  simp -implicitDefEqProofs [cEqualS, Con.fn, tTabC, tTab]
  try dsimp only
  try simp +contextual -implicitDefEqProofs [eStr, eFile, cast_succ, cast_eq, cast_zero, List.getElem?_eq_getElem, eStrs_set, eFiles_set, eStrs_rep, eFiles_rep, ← eStrs_append, ← eFiles_append, eStrs_take, eStrs_drop, eFiles_take, eFiles_drop, eStrs_snoc, eFiles_snoc, and_assoc]
  repeat' (first | intro _ | apply And.intro)
  all_goals first | omega | grind [all_take, eq_take, eq_end]
def sameI (a b : List Str × Bool) : Bool := decide (a.2 = b.2) && decide (a.1 = b.1)
def cHasSame : Con := .fn 17 ((List Str × Bool) × (List Str × Bool)) (fun a => [.agg [.sl true 1 (eStrs a.1.1), .bool a.1.2], .agg [.sl true 1 (eStrs a.2.1), .bool a.2.2]]) (fun _ => True) (fun a => .bool (sameI a.1 a.2)) (fun _ => [])
theorem hasSame_has : Has Tryz.prog 243 cHasSame := by
  refine has_walk mixed tTabC_ok (l := [(168, cEqualS)]) (HasL.cons equalS_has HasL.nil) [0, 1, 2, 3, 4] ((fun a n (_ : Nat) => (fun _ => noInv) a n)) [] Tryz.func243 (by kernel_rfl) (code := _) (by unfold Tryz.f243; rfl) (by kernel_rfl) (by decide) (fun _ => ⟨(), trivial⟩) (by intro h; first | exact fun _ => rfl | cases h) (by kernel_rfl) ?_
  intro a _
  obtain ⟨⟨x, p⟩, y, q⟩ := a
  simp -implicitDefEqProofs [-kStep_move, -Bool.exists_bool, cHasSame, cEqualS, Con.fn, tTabC, tTab]
  try dsimp only
  exact ⟨x, y, ⟨rfl, rfl⟩, rfl⟩
def cAreTexts : Con := .fn 17 (List Str × List Str × List Str) (fun a => [.sl true 1 (eStrs a.1), .sl true 1 (eStrs a.2.1), .sl true 1 (eStrs a.2.2)]) (fun _ => True) (fun a => .bool (textB a.1 && textB a.2.1 && textB a.2.2)) (fun _ => [])
theorem areTexts_has : Has Tryz.prog 288 cAreTexts := by
  refine has_walk mixed tTabC_ok (l := [(109, cTextOk)]) (HasL.cons textOk_has HasL.nil) [0, 1, 2, 6] ((fun a n (_ : Nat) => (fun _ => noInv) a n)) [] Tryz.func288 (by kernel_rfl) (code := _) (by unfold Tryz.f288; rfl) (by kernel_rfl) (by decide) (fun _ => ⟨(), trivial⟩) (by intro h; first | exact fun _ => rfl | cases h) (by kernel_rfl) ?_
  intro a _
  obtain ⟨x, y, z⟩ := a
  simp -implicitDefEqProofs [-kStep_move, -Bool.exists_bool, cAreTexts, cTextOk, Con.fn, tTabC, tTab]
  try dsimp only
  cases textB x <;> cases textB y <;> simp
def ptSz (t : List FileD) : Prop := ∀ f ∈ t, f.path.length ≤ 536870912
def cAreTrees : Con := .fn 17 (List FileD × List FileD × List FileD) (fun a => [.sl true 2 (eFiles a.1), .sl true 2 (eFiles a.2.1), .sl true 2 (eFiles a.2.2)]) (fun a => ptSz a.1 ∧ ptSz a.2.1 ∧ ptSz a.2.2) (fun a => .bool (treeI a.1 && treeI a.2.1 && treeI a.2.2)) (fun _ => [])
theorem areTrees_has : Has Tryz.prog 190 cAreTrees := by
  refine has_walk mixed tTabC_ok (l := [(98, cTreeOk)]) (HasL.cons treeOk_has HasL.nil) [0, 1, 2, 6] ((fun a n (_ : Nat) => (fun _ => noInv) a n)) [] Tryz.func190 (by kernel_rfl) (code := _) (by unfold Tryz.f190; rfl) (by kernel_rfl) (by decide) (fun _ => ⟨(), trivial⟩) (by intro h; first | exact fun _ => rfl | cases h) (by kernel_rfl) ?_
  intro a ha
  obtain ⟨x, y, z⟩ := a
  obtain ⟨h1, h2, h3⟩ : ptSz x ∧ ptSz y ∧ ptSz z := ha
  simp -implicitDefEqProofs [-kStep_move, -Bool.exists_bool, cAreTrees, cTreeOk, Con.fn, tTabC, tTab]
  try dsimp only
  refine ⟨h1, fun h => ⟨h, h2⟩, fun h h' => ⟨⟨h, h'⟩, h3⟩, ?_⟩
  cases treeI x <;> cases treeI y <;> simp
def cAtI : Con := .fn 21 (RepoD × Str) (fun a => [vRepo a.1, .str a.2]) (fun _ => True) (fun a => .int .i64 (atL a.1.heads a.2)) (fun _ => [])
theorem atI_has : Has Tryz.prog 115 cAtI := by
  refine has_walk mixed tTabC_ok (l := []) HasL.nil [0, 1, 2, 4, 6, 8, 9, 10] ((fun a n (_ : Nat) => (fun a _ => ⟨Nat, fun i => ⟨[(1, true, .str a.2), (4, true, .int .i64 0), (8, true, .sl true 2 (eHeads a.1.heads)), (9, true, .int .i64 a.1.heads.length), (10, true, .int .i64 i)], []⟩, fun i => i ≤ a.1.heads.length ∧ atL (a.1.heads.drop i) a.2 = atL a.1.heads a.2, fun i => a.1.heads.length - i⟩) a n)) [] Tryz.func115 (by kernel_rfl) (code := _) (by unfold Tryz.f115; rfl) (by kernel_rfl) (by decide) (fun _ => ⟨(), trivial⟩) (by intro h; first | exact fun _ => rfl | cases h) (by kernel_rfl) ?_
  intro a _
  obtain ⟨r, n⟩ := a
  simp -implicitDefEqProofs [cAtI, Con.fn, tTabC, tTab]
  try dsimp only
  refine fun _ t ht hm => ⟨fun hlt => ⟨hlt, fun _ => ?_⟩, fun hge => by rw [← hm, List.drop_eq_nil_of_le hge]; rfl⟩
  have qq : Option.map eHead r.heads[t]? = some (eHead r.heads[t]) := by simp -implicitDefEqProofs [hlt]
  rw [List.drop_eq_getElem_cons hlt] at hm
  rw [qq]
  generalize r.heads[t] = f at *
  have hm : (if f.name = n then f.at_ else atL (r.heads.drop (t + 1)) n) = atL r.heads n := hm
  simp -implicitDefEqProofs [eHead]
  refine ⟨fun h => by rw [if_pos h] at hm; exact hm.symm, fun h => ⟨⟨by omega, by omega⟩, fun _ _ => ⟨t + 1, by omega, ⟨by omega, ?_⟩, by omega⟩⟩⟩
  rw [if_neg h] at hm
  exact hm
end Vx
end Go.Proofs.YtnanellmaelipaaGreatDoor
namespace Go.Proofs.YtnanellmaelipaaGreatDoor
set_option maxHeartbeats 4000000
namespace Vx
open Go.RowKit
set_option maxRecDepth 8000
def moI (o a b : List Str) : Inv := ⟨Nat × S3, fun x => ⟨[(0, true, .sl true 1 (eStrs o)), (1, true, .sl true 1 (eStrs a)), (2, true, .sl true 1 (eStrs b)), (6, true, .nil), (7, true, .own 11 1 (eInts (mtE o a))), (8, true, .own 12 1 (eInts (mtE o b))), (9, true, .ptr 10 0), (10, true, .clo 295 [.ptr 10 0]), (11, true, .int .i64 x.2.io), (12, true, .int .i64 x.2.ia), (13, true, .int .i64 x.2.ib), (34, true, .int .i64 (o.length + 1 : Nat)), (35, true, .int .i64 x.1)],
  [(10, .box 266 [.own 9 5 (eParts x.2.out)]), (9, .own 270 5 true (eParts x.2.out)), (11, .own 3 1 true (eInts (mtE o a))), (12, .own 3 1 true (eInts (mtE o b)))]⟩, fun x => x.1 ≤ o.length + 1 ∧ x.2 = run3 o a b x.1, fun x => o.length + 1 - x.1⟩
def cMergeOf : Con := .fn 122 (List Str × List Str × List Str) (fun a => [.sl true 1 (eStrs a.1), .sl true 1 (eStrs a.2.1), .sl true 1 (eStrs a.2.2)]) (fun a => a.1.length ≤ 100000 ∧ a.2.1.length ≤ 100000 ∧ a.2.2.length ≤ 100000) (fun a => .own 8 5 (eParts (of3 a.1 a.2.1 a.2.2))) (fun a => ownParts 8 (of3 a.1 a.2.1 a.2.2))
theorem mergeOf_has : Has Tryz.prog 289 cMergeOf := by
  refine has_walk mixed tTab_ok (l := [(205, cMatchI), (162, cCopyText), (168, cEqualS), (295, cResolve)]) (HasL.cons matchI_has (HasL.cons copyText_has (HasL.cons equalS_has (HasL.cons resolve_has HasL.nil)))) [0, 1, 2, 6, 7, 8, 9, 10, 11, 12, 13, 14, 15, 16, 17, 34, 35] ((fun a n (_ : Nat) => (fun a _ => moI a.1 a.2.1 a.2.2) a n)) [76] Tryz.func289 (by kernel_rfl) (code := _) (by unfold Tryz.f289; rfl) (by kernel_rfl) (by decide) (fun _ => ⟨(), trivial⟩) (by intro h; first | exact fun _ => rfl | cases h) (by kernel_rfl) ?_
  intro a ha
  obtain ⟨o, a, b⟩ := a
  obtain ⟨h1, h2, h3⟩ : o.length ≤ 100000 ∧ a.length ≤ 100000 ∧ b.length ≤ 100000 := ha
  have sn : ∀ x : List Str, eInts (mt o x 0) ++ [[D.int .i64 x.length]] = eInts (mtE o x) := fun x => by simp -implicitDefEqProofs [mtE, eInts, eInt]
  simp (maxSteps := 8000000) [-kStep_move, -Bool.exists_bool, cMergeOf, cMatchI, cCopyText, cEqualS, cResolve, resFin, Con.fn, tTab, moI, sn]
  try dsimp only
  refine ⟨o, a, ⟨rfl, rfl⟩, ⟨by omega, by omega⟩, fun _ => ⟨by rw [mt_len]; omega, o, b, ⟨rfl, rfl⟩, ⟨by omega, by omega⟩, fun _ => ⟨by rw [mt_len]; omega, fun _ => ⟨⟨0, ⟨⟨(sn a).symm, (sn b).symm, rfl, rfl, rfl, by rw [mt_len], rfl⟩, rfl, sn a, sn b⟩, Nat.zero_le _⟩, fun i hi => ⟨fun hlt => ?_, fun hge => ?_⟩⟩⟩⟩⟩
  · have hi2 : i < o.length + 1 := by omega
    have R : run3 o a b (i + 1) = step3 o a b ((mtE o a).getD i 0) ((mtE o b).getD i 0) i (run3 o a b i) := rfl
    obtain ⟨k1, k2, k3, k4, k5, k6, k7⟩ := ok3_run o a b i (by omega)
    have la := mtE_len o a
    have lb := mtE_len o b
    have ha1 : i < (mtE o a).length := by omega
    have hb1 : i < (mtE o b).length := by omega
    have ga : (mtE o a).getD i 0 = (mtE o a)[i] := by simp -implicitDefEqProofs [List.getD_eq_getElem?_getD, ha1]
    have gb : (mtE o b).getD i 0 = (mtE o b)[i] := by simp -implicitDefEqProofs [List.getD_eq_getElem?_getD, hb1]
    have e1 : Option.map eInt (mtE o a)[i]? = some (eInt (mtE o a)[i]) := by simp -implicitDefEqProofs [ha1]
    have e2 : Option.map eInt (mtE o b)[i]? = some (eInt (mtE o b)[i]) := by simp -implicitDefEqProofs [hb1]
    have k4 := asc_at (l := mtE o a) ha1 k4
    have k5 := asc_at (l := mtE o b) hb1 k5
    rw [ga, gb] at R
    rw [e1, e2]
    generalize (mtE o a)[i] = x at *
    generalize (mtE o b)[i] = y at *
    have kx : 0 ≤ x → ((run3 o a b i).ia : Int) ≤ x ∧ x ≤ a.length := fun h => by rcases k4 with k4 | k4 <;> omega
    have ky : 0 ≤ y → ((run3 o a b i).ib : Int) ≤ y ∧ y ≤ b.length := fun h => by rcases k5 with k5 | k5 <;> omega
    clear k4 k5
    generalize run3 o a b i = s at *
    have tk : ∀ (l : List Str) (p q : Nat), List.take (q - p) (List.drop p (eStrs l)) = eStrs ((l.take q).drop p) := fun l p q => by
      rw [List.drop_take]; simp -implicitDefEqProofs [eStrs]
    have tk1 : ∀ (h : i < o.length), List.take 1 (List.drop i (eStrs o)) = eStrs [o.getD i []] := fun h => by
      have := tk o i (i + 1)
      rw [show i + 1 - i = 1 by omega] at this
      rw [this]
      congr 1
      rw [take_succ' h, List.drop_append_of_le_length (by simp; omega)]
      simp -implicitDefEqProofs [h, List.getD_eq_getElem?_getD]
    have ln : ∀ (l : List Str) (p q : Nat), ((l.take q).drop p).length ≤ l.length := fun l p q => by simp; omega
    generalize hO : (o.take i).drop s.io = O at *
    generalize hA : (a.take x.toNat).drop s.ia = A at *
    generalize hB : (b.take y.toNat).drop s.ib = B at *
    have lO : O.length ≤ 100000 := by rw [← hO]; have := ln o s.io i; omega
    have lA : A.length ≤ 100000 := by rw [← hA]; have := ln a s.ia x.toNat; omega
    have lB : B.length ≤ 100000 := by rw [← hB]; have := ln b s.ib y.toNat; omega
    have R0 : (x < 0 ∨ y < 0) → run3 o a b (i + 1) = s := fun h => by rw [R]; unfold step3; rw [if_pos h]
    have R1 : 0 ≤ x → 0 ≤ y → run3 o a b (i + 1) = ⟨i + 1, x.toNat + 1, y.toNat + 1, if i < o.length then put3 (put3 s.out (part3 O A B)) ⟨false, [o.getD i []], [], [], []⟩ else put3 s.out (part3 O A B)⟩ := fun h h' => by
      rw [R]; unfold step3; rw [if_neg (by omega), hO, hA, hB]
    clear R
    have T : ∀ (p : PartD), p.lines.length ≤ 100000 → (put3 s.out p).length ≤ 1048576 ∧ ∀ q ∈ put3 s.out p, q.lines.length ≤ 1073741824 := fun p hp => by
      have b1 := put3_len s.out p
      exact ⟨by omega, fun q hq => by have := put3_bd k7 q hq; omega⟩
    have k7' : ∀ q ∈ s.out, q.lines.length ≤ 1073741824 := fun q hq => by have := k7 q hq; omega
    simp -implicitDefEqProofs [eInt, D.asInt, ha1, hb1, tk]
    refine ⟨fun h => ⟨⟨by omega, by omega⟩, fun _ _ => ⟨i + 1, s, ⟨⟨rfl, rfl, rfl, by omega⟩, rfl, rfl⟩, ⟨by omega, (R0 h).symm⟩, by omega⟩⟩, fun hx hy => ⟨⟨k1, by omega⟩, fun _ hio => ⟨kx hx, fun _ _ => ⟨ky hy, fun _ _ => ?_⟩⟩⟩⟩
    have R1 := R1 hx hy
    have F : ∀ out', out' = (run3 o a b (i + 1)).out → ∃ (n : Nat) (t : S3), (((t.io : Int) = i + 1 ∧ (t.ia : Int) = x + 1 ∧ (t.ib : Int) = y + 1 ∧ (n : Int) = i + 1) ∧ t.out = out' ∧ out' = t.out) ∧ (n ≤ o.length + 1 ∧ t = run3 o a b n) ∧ o.length + 1 - n < o.length + 1 - i := fun out' h =>
      ⟨i + 1, run3 o a b (i + 1), ⟨⟨by rw [R1]; simp, by rw [R1]; simp; omega, by rw [R1]; simp; omega, by omega⟩, h.symm, h⟩, ⟨by omega, rfl⟩, by omega⟩
    have R2 : i < o.length → put3 (put3 s.out (part3 O A B)) (lnP [o.getD i []]) = (run3 o a b (i + 1)).out := fun h => by rw [R1]; simp only [if_pos h]; rfl
    have R3 : o.length ≤ i → put3 s.out (part3 O A B) = (run3 o a b (i + 1)).out := fun h => by rw [R1]; simp only [if_neg (show ¬ i < o.length by omega)]
    clear R1 R0
    rw [hO, hA, hB]
    refine ⟨A, O, ⟨rfl, rfl⟩, A, B, ⟨rfl, rfl⟩, fun hc => ?_, fun c1 c2 => ⟨B, O, ⟨rfl, rfl⟩, fun c3 => ?_, fun c3 => ?_⟩⟩
    · have hp : part3 O A B = lnP B := by unfold part3; rw [if_pos hc]; rfl
      rw [hp] at R2 R3
      have T := T (lnP B) lB
      exact ⟨⟨by omega, by omega, k7'⟩, fun _ => ⟨fun h => ⟨⟨by omega, by omega⟩, fun _ _ => ⟨⟨by omega, by omega⟩, fun _ _ => ⟨[o.getD i []], (tk1 h).symm, ⟨by simp, T.1, T.2⟩, ⟨by omega, by omega⟩, fun _ _ => ⟨⟨by omega, by omega⟩, fun _ _ => ⟨⟨by omega, by omega⟩, fun _ _ => ⟨⟨by omega, by omega⟩, fun _ _ => F _ (R2 h)⟩⟩⟩⟩⟩⟩,
        fun h => ⟨⟨by omega, by omega⟩, fun _ _ => ⟨⟨by omega, by omega⟩, fun _ _ => ⟨⟨by omega, by omega⟩, fun _ _ => ⟨⟨by omega, by omega⟩, fun _ _ => F _ (R3 h)⟩⟩⟩⟩⟩⟩
    · have hp : part3 O A B = lnP A := by unfold part3; rw [if_neg (by rintro (q | q); exact c1 q; exact c2 q), if_pos c3]; rfl
      rw [hp] at R2 R3
      have T := T (lnP A) lA
      exact ⟨⟨by omega, by omega, k7'⟩, fun _ => ⟨fun h => ⟨⟨by omega, by omega⟩, fun _ _ => ⟨⟨by omega, by omega⟩, fun _ _ => ⟨[o.getD i []], (tk1 h).symm, ⟨by simp, T.1, T.2⟩, ⟨by omega, by omega⟩, fun _ _ => ⟨⟨by omega, by omega⟩, fun _ _ => ⟨⟨by omega, by omega⟩, fun _ _ => ⟨⟨by omega, by omega⟩, fun _ _ => F _ (R2 h)⟩⟩⟩⟩⟩⟩,
        fun h => ⟨⟨by omega, by omega⟩, fun _ _ => ⟨⟨by omega, by omega⟩, fun _ _ => ⟨⟨by omega, by omega⟩, fun _ _ => ⟨⟨by omega, by omega⟩, fun _ _ => F _ (R3 h)⟩⟩⟩⟩⟩⟩
    · have hp : part3 O A B = ⟨true, [], O, A, B⟩ := by unfold part3; rw [if_neg (by rintro (q | q); exact c1 q; exact c2 q), if_neg c3]
      have sn2 : eParts s.out ++ [[D.bool true, D.sl 9 1 [], D.sl 9 1 (eStrs O), D.sl 9 1 (eStrs A), D.sl 9 1 (eStrs B)]] = eParts (put3 s.out (part3 O A B)) := by
        rw [hp, put3_e3 rfl, eParts_append]; rfl
      have T := T (part3 O A B) (by rw [hp]; simp)
      exact ⟨by omega, by omega, by omega, ⟨by omega, by omega⟩, fun _ => ⟨fun h => ⟨⟨by omega, by omega⟩, fun _ _ => ⟨⟨by omega, by omega⟩, fun _ _ => ⟨[o.getD i []], (tk1 h).symm, put3 s.out (part3 O A B), sn2.symm, sn2, ⟨by simp, T.1, T.2⟩, ⟨by omega, by omega⟩, fun _ _ => ⟨⟨by omega, by omega⟩, fun _ _ => ⟨⟨by omega, by omega⟩, fun _ _ => ⟨⟨by omega, by omega⟩, fun _ _ => F _ (R2 h)⟩⟩⟩⟩⟩⟩,
        fun h => ⟨⟨by omega, by omega⟩, fun _ _ => ⟨⟨by omega, by omega⟩, fun _ _ => ⟨⟨by omega, by omega⟩, fun _ _ => ⟨⟨by omega, by omega⟩, fun _ _ => by
          obtain ⟨n, t, ⟨q1, q2, q3⟩, q4⟩ := F _ (R3 h)
          exact ⟨n, t, ⟨q1, by rw [sn2, q2], by rw [sn2, q2]⟩, q4⟩⟩⟩⟩⟩⟩⟩
  · have : i = o.length + 1 := by omega
    subst this
    exact ⟨rfl, rfl⟩
end Vx
end Go.Proofs.YtnanellmaelipaaGreatDoor
namespace Go.Proofs.YtnanellmaelipaaGreatDoor
set_option maxHeartbeats 4000000
namespace Vx
open Go.RowKit
set_option maxRecDepth 8000
--TAB tTabC
def cMt1 : Con := .fn 4 PartD (fun q => [.agg [.bool q.clash, .sl true 1 (eStrs q.lines), .sl true 1 (eStrs q.old), .sl true 1 (eStrs q.one), .sl true 1 (eStrs q.two)]]) (fun _ => True) (fun _ => .tup [.sl true 1 [], .bool false]) (fun _ => [])
theorem mt1_has : Has Tryz.prog 274 cMt1 := by
  refine has_walk mixed tTabC_ok (l := []) HasL.nil [0, 2, 3] ((fun a n (_ : Nat) => (fun _ => noInv) a n)) [] Tryz.func274 (by kernel_rfl) (code := _) (by unfold Tryz.f274; rfl) (by kernel_rfl) (by decide) (fun _ => ⟨(), trivial⟩) (by intro h; first | exact fun _ => rfl | cases h) (by kernel_rfl) ?_
  intro (q : PartD) _
  simp -implicitDefEqProofs [cMt1, Con.fn, tTabC, tTab]
theorem of3_sz {o a b : List Str} (h1 : textB o = true) (h2 : textB a = true) (h3 : textB b = true) : (of3 o a b).length ≤ 22 ∧ ∀ q ∈ of3 o a b, q.lines.length ≤ 33 := by
  obtain ⟨k1, k2, k3, _, _, k6, k7⟩ := ok3_run o a b (o.length + 1) (Nat.le_refl _)
  have l1 := textB_len h1
  have l2 := textB_len h2
  have l3 := textB_len h3
  refine ⟨?_, fun q hq => ?_⟩
  · show (run3 o a b (o.length + 1)).out.length ≤ 22
    omega
  · have := k7 q hq
    omega
theorem linesF_sz {l : List PartD} {n : Nat} (h : ∀ q ∈ l, q.lines.length ≤ n) : ∀ i, i ≤ l.length → (linesF l i).length ≤ i * n
  | 0, _ => by simp -implicitDefEqProofs [linesF]
  | i + 1, hi => by
    have e : linesF l (i + 1) = linesF l i ++ l[i].lines := by unfold linesF; rw [take_succ' (show i < l.length by omega), List.flatMap_append]; simp
    have h1 := h l[i] (List.getElem_mem _)
    have h2 := linesF_sz h i (by omega)
    rw [e, List.length_append, Nat.succ_mul]; omega
def mrgI (o a b : List Str) : List Str × Bool := if textB o && textB a && textB b then text3 (of3 o a b) else ([], false)
def cMerged : Con := .fn 51 (List Str × List Str × List Str) (fun a => [.sl true 1 (eStrs a.1), .sl true 1 (eStrs a.2.1), .sl true 1 (eStrs a.2.2), .clo 274 []]) (fun a => True) (fun a => .tup [.own 8 1 (eStrs (mrgI a.1 a.2.1 a.2.2).1), .bool (mrgI a.1 a.2.1 a.2.2).2]) (fun a => ownStrs 8 (mrgI a.1 a.2.1 a.2.2).1)
theorem merged_has : Has Tryz.prog 273 cMerged := by
  refine has_walk mixed tTabC_ok (l := [(288, cAreTexts), (289, cMergeOf), (274, cMt1), (109, cTextOk)]) (HasL.cons areTexts_has (HasL.cons mergeOf_has (HasL.cons mt1_has (HasL.cons textOk_has HasL.nil)))) [0, 1, 2, 3, 8, 9, 10, 12, 13, 14, 15, 24, 25, 26] ((fun a n (_ : Nat) => (fun a _ => ⟨Nat, fun i => ⟨[(3, true, .clo 274 []), (8, true, .nil), (9, true, .bool false), (10, true, .own 9 1 (eStrs (linesF (of3 a.1 a.2.1 a.2.2) i))), (24, true, .own 10 5 (eParts (of3 a.1 a.2.1 a.2.2))), (25, true, .int .i64 (of3 a.1 a.2.1 a.2.2).length), (26, true, .int .i64 i)], [(9, .own 9 1 true (eStrs (linesF (of3 a.1 a.2.1 a.2.2) i))), (10, .own 270 5 true (eParts (of3 a.1 a.2.1 a.2.2)))]⟩, fun i => i ≤ (of3 a.1 a.2.1 a.2.2).length ∧ ((of3 a.1 a.2.1 a.2.2).take i).any (·.clash) = false ∧ textB a.1 = true ∧ textB a.2.1 = true ∧ textB a.2.2 = true, fun i => (of3 a.1 a.2.1 a.2.2).length - i⟩) a n)) [] Tryz.func273 (by kernel_rfl) (code := _) (by unfold Tryz.f273; rfl) (by kernel_rfl) (by decide) (fun _ => ⟨(), trivial⟩) (by intro h; first | exact fun _ => rfl | cases h) (by kernel_rfl) ?_
  intro a _
  obtain ⟨o, a, b⟩ := a
  simp (maxSteps := 8000000) -implicitDefEqProofs [-kStep_move, -Bool.exists_bool, cMerged, cAreTexts, cMergeOf, cMt1, cTextOk, Con.fn, tTabC, tTab]
  try dsimp only
  have f : ∀ (t : List Str), ∀ x ∈ eStrs t, ∀ d ∈ x, match d with | .sl _ _ _ => False | _ => True := fun t => (eStrs_flat t).mpr trivial
  have m0 : (textB o = false ∨ textB a = false) ∨ textB b = false → mrgI o a b = ([], false) := fun h => by unfold mrgI; rw [if_neg]; rcases h with (h | h) | h <;> simp -implicitDefEqProofs [h]
  refine ⟨o, a, b, ⟨rfl, rfl, rfl⟩, fun h => by rw [m0 h]; exact ⟨⟨rfl, rfl⟩, rfl⟩, fun b1 b2 b3 => ?_⟩
  have m1 : mrgI o a b = text3 (of3 o a b) := by unfold mrgI; rw [b1, b2, b3]; rfl
  obtain ⟨d1, d2⟩ := of3_sz b1 b2 b3
  have l1 := textB_len b1
  have l2 := textB_len b2
  have l3 := textB_len b3
  rw [m1]
  clear m0 m1
  refine ⟨o, a, b, ⟨rfl, rfl, rfl⟩, ⟨by omega, by omega, by omega⟩, fun _ => ?_⟩
  generalize of3 o a b = l at *
  have ll := linesF_sz d2
  have hn0 : (∃ q ∈ l, q.clash = true) → text3 l = ([], false) := fun ⟨q, h, h'⟩ => by unfold text3; rw [if_pos (by simp; exact ⟨q, h, h'⟩)]
  have hn1 : (∀ q ∈ l, q.clash = false) → textB (linesF l l.length) = false → text3 l = ([], false) := fun h h' => by
    unfold text3 linesF at *; rw [List.take_length] at h'; rw [if_neg (by simp; exact h), if_neg (by simp -implicitDefEqProofs [h'])]
  have hn2 : (∀ q ∈ l, q.clash = false) → textB (linesF l l.length) = true → text3 l = (linesF l l.length, true) := fun h h' => by
    unfold text3 linesF at *; rw [List.take_length] at *; rw [if_neg (by simp; exact h), if_pos h']
  refine ⟨⟨0, ⟨⟨rfl, rfl, rfl, rfl⟩, rfl, rfl⟩, Nat.zero_le _, by simp, b1, b2, b3⟩, fun t ht hc c1 c2 c3 => ⟨fun hlt => ⟨hlt, fun _ => ?_⟩, fun hge => ?_⟩⟩
  · have e : linesF l (t + 1) = linesF l t ++ l[t].lines := by unfold linesF; rw [take_succ' hlt, List.flatMap_append]; simp
    have q1 := d2 l[t] (List.getElem_mem hlt)
    have q2 := ll t ht
    have q3 : l[t] ∈ l := List.getElem_mem hlt
    have q4 : ∀ x ∈ l.take (t + 1), x ∈ l.take t ∨ x = l[t] := fun x hx => by rw [take_succ' hlt] at hx; exact (List.mem_append.1 hx).imp id (fun h => List.mem_singleton.1 h)
    have qq : Option.map ePart l[t]? = some (ePart l[t]) := by simp -implicitDefEqProofs [hlt]
    rw [qq]
    generalize l[t] = q at *
    simp -implicitDefEqProofs [ePart]
    refine ⟨fun h => (by rw [hn0 ⟨q, q3, h⟩]; exact ⟨⟨rfl, rfl⟩, rfl⟩), fun h => ⟨f _, ⟨by omega, by omega⟩, ⟨by omega, by omega⟩, fun _ _ => ⟨t + 1, ⟨⟨by rw [e, eStrs_append], by omega⟩, by rw [e, eStrs_append]⟩, ⟨by omega, fun x hx => (q4 x hx).elim (hc x) (fun hx => hx ▸ h), c1, c2, c3⟩, by omega⟩⟩⟩
  · have : t = l.length := by omega
    subst this
    rw [List.take_length] at hc
    exact ⟨fun h => by rw [hn1 hc h]; exact ⟨⟨rfl, rfl⟩, rfl⟩, fun h => by rw [hn2 hc h]; exact ⟨⟨rfl, rfl⟩, rfl⟩⟩
def cMergeText : Con := .fn 14 (List Str × List Str × List Str) (fun a => [.sl true 1 (eStrs a.1), .sl true 1 (eStrs a.2.1), .sl true 1 (eStrs a.2.2)]) (fun a => True) (fun a => .tup [.own 8 1 (eStrs (mrgI a.1 a.2.1 a.2.2).1), .bool (mrgI a.1 a.2.1 a.2.2).2]) (fun a => ownStrs 8 (mrgI a.1 a.2.1 a.2.2).1)
theorem mergeText_has : Has Tryz.prog 244 cMergeText := by
  refine has_walk mixed tTabC_ok (l := [(273, cMerged)]) (HasL.cons merged_has HasL.nil) [0, 1, 2, 6, 7] ((fun a n (_ : Nat) => (fun _ => noInv) a n)) [] Tryz.func244 (by kernel_rfl) (code := _) (by unfold Tryz.f244; rfl) (by kernel_rfl) (by decide) (fun _ => ⟨(), trivial⟩) (by intro h; first | exact fun _ => rfl | cases h) (by kernel_rfl) ?_
  intro a _
  obtain ⟨o, a, b⟩ := a
  simp (maxSteps := 8000000) -implicitDefEqProofs [cMergeText, cMerged, Con.fn, tTabC, tTab]
  try dsimp only
  exact ⟨o, a, b, ⟨rfl, rfl, rfl⟩, ⟨rfl, rfl⟩, rfl⟩
def oneH (o a b : List Str × Bool) : (List Str × Bool) × Int :=
  if sameI a o || sameI a b then (b, 0) else if sameI b o then (a, 0) else if !a.2 || !b.2 then (o, 1) else if !o.2 then (o, 2)
  else if (mrgI o.1 a.1 b.1).2 then ((( mrgI o.1 a.1 b.1).1, true), 0) else (o, 3)
def jaOwns (a : (List Str × Bool) × (List Str × Bool) × (List Str × Bool)) : List (Nat × Nat × Nat × List (List D)) := [(0, 9, 1, eStrs a.1.1), (1, 9, 1, eStrs a.2.1.1), (2, 9, 1, eStrs a.2.2.1)]
def jaArgs (a : (List Str × Bool) × (List Str × Bool) × (List Str × Bool)) : List AV := [.agg [.own 0 1 (eStrs a.1.1), .bool a.1.2], .agg [.own 1 1 (eStrs a.2.1.1), .bool a.2.1.2], .agg [.own 2 1 (eStrs a.2.2.1), .bool a.2.2.2]]
def cJoinAt : Con := { A := (List Str × Bool) × (List Str × Bool) × (List Str × Bool), X := Unit, n := 55, args := jaArgs, boxes := fun _ => [], pre := fun _ => True, post := fun _ _ => True, res := fun a _ => .tup [.agg [.own 8 1 (eStrs (oneH a.1 a.2.1 a.2.2).1.1), .bool (oneH a.1 a.2.1 a.2.2).1.2], .int .i64 (oneH a.1 a.2.1 a.2.2).2], fin := fun a _ => [(8, .own 9 1 true (eStrs (oneH a.1 a.2.1 a.2.2).1.1))], owns := jaOwns, mv := true }
theorem joinAt_has : Has Tryz.prog 217 cJoinAt := by
  refine has_walk mixed tTabC_ok (l := [(243, cHasSame), (244, cMergeText)]) (HasL.cons hasSame_has (HasL.cons mergeText_has HasL.nil)) [0, 1, 2, 3, 4, 5, 6, 7, 8, 9] ((fun a n (_ : Nat) => (fun _ => noInv) a n)) [] Tryz.func217 (by kernel_rfl) (code := _) (by unfold Tryz.f217; rfl) (by kernel_rfl) (by decide) (fun _ => ⟨(), trivial⟩) (by intro h; first | exact fun _ => rfl | cases h) (by kernel_rfl) ?_
  intro a _
  obtain ⟨⟨o, p⟩, ⟨a, q⟩, b, r⟩ := a
  simp (maxSteps := 8000000) -implicitDefEqProofs [-kStep_move, -kStepC_move, -Bool.exists_bool, cJoinAt, jaArgs, jaOwns, cHasSame, cMergeText, Con.fn, tTabC, tTab]
  try dsimp only
  have fin : ∀ (x : (List Str × Bool) × Int) (t : List Str) (d : Bool) (n : Int), x = ((t, d), n) → ((x.1.1 = t ∧ x.1.2 = d) ∧ x.2 = n) ∧ t = x.1.1 := fun x t d n h => by subst h; exact ⟨⟨⟨rfl, rfl⟩, rfl⟩, rfl⟩
  refine ⟨a, q, o, p, ⟨⟨rfl, rfl⟩, rfl, rfl⟩, a, q, b, r, ⟨⟨rfl, rfl⟩, rfl, rfl⟩, fun h => fin _ _ _ _ ?_, fun h1 h2 => ⟨b, r, o, p, ⟨⟨rfl, rfl⟩, rfl, rfl⟩, fun h3 => fin _ _ _ _ ?_, fun h3 => ⟨fun h4 => fin _ _ _ _ ?_, fun h4 h5 => ⟨fun h6 => fin _ _ _ _ ?_, fun h6 => ⟨o, a, b, ⟨rfl, rfl, rfl⟩, fun h7 => fin _ _ _ _ ?_, fun h7 => fin _ _ _ _ ?_⟩⟩⟩⟩⟩
  · unfold oneH; rw [if_pos (by simpa using h)]
  · unfold oneH; rw [if_neg (by simp -implicitDefEqProofs [h1, h2]), if_pos h3]
  · unfold oneH; rw [if_neg (by simp -implicitDefEqProofs [h1, h2]), if_neg (by simp -implicitDefEqProofs [h3]), if_pos (by simpa using h4)]
  · unfold oneH; rw [if_neg (by simp -implicitDefEqProofs [h1, h2]), if_neg (by simp -implicitDefEqProofs [h3]), if_neg (by simp -implicitDefEqProofs [h4, h5]), if_pos (by simpa using h6)]
  · unfold oneH; rw [if_neg (by simp -implicitDefEqProofs [h1, h2]), if_neg (by simp -implicitDefEqProofs [h3]), if_neg (by simp -implicitDefEqProofs [h4, h5]), if_neg (by simp -implicitDefEqProofs [h6]), if_neg (by simp -implicitDefEqProofs [h7])]
  · unfold oneH; rw [if_neg (by simp -implicitDefEqProofs [h1, h2]), if_neg (by simp -implicitDefEqProofs [h3]), if_neg (by simp -implicitDefEqProofs [h4, h5]), if_neg (by simp -implicitDefEqProofs [h6]), if_pos h7]
end Vx
end Go.Proofs.YtnanellmaelipaaGreatDoor
namespace Go.Proofs.YtnanellmaelipaaGreatDoor
set_option maxHeartbeats 4000000
namespace Vx
open Go.RowKit
set_option maxRecDepth 8000
--TAB tTabC
theorem getL_no {t : List FileD} {p : Str} (h : (getL t p).2 = false) : (getL t p).1 = [] := by
  induction t with
  | nil => rfl
  | cons f t ih =>
    unfold getL at h ⊢
    split
    · rename_i e; rw [if_pos e] at h; cases h
    · rename_i e; rw [if_neg e] at h; exact ih h
theorem same_eq {x y : List Str × Bool} (hx : x.2 = false → x.1 = []) (hy : y.2 = false → y.1 = []) : sameI x y = same6 x y := by
  unfold sameI same6
  cases h : x.2 <;> cases h' : y.2 <;> simp
  rw [hx h, hy h']
theorem getL_txt {t : List FileD} (h : treeI t = true) (p : Str) : textB (getL t p).1 = true := by
  simp only [treeI, Bool.and_eq_true, decide_eq_true_eq, List.all_eq_true, List.mem_range] at h
  have hf : ∀ f ∈ t, textB f.text = true := by
    intro f hf
    obtain ⟨i, hi, rfl⟩ := List.getElem_of_mem hf
    have := (h.2 i hi).1
    simp only [headI, Bool.and_eq_true] at this
    have e : t.getD i default = t[i] := by simp -implicitDefEqProofs [List.getD_eq_getElem?_getD, hi]
    rw [e] at this
    exact this.1.1
  clear h
  induction t with
  | nil => rfl
  | cons f t ih =>
    unfold getL
    split
    · exact hf f (by simp)
    · exact ih fun g hg => hf g (by simp -implicitDefEqProofs [hg])
theorem one_eq {o a b : List FileD} (ho : treeI o = true) (ha : treeI a = true) (hb : treeI b = true) (p : Str) : oneH (getL o p) (getL a p) (getL b p) = (((one6 o a b p).1, (one6 o a b p).2.1), (one6 o a b p).2.2) := by
  have m : mrgI (getL o p).1 (getL a p).1 (getL b p).1 = text3 (of3 (getL o p).1 (getL a p).1 (getL b p).1) := by
    unfold mrgI; rw [getL_txt ho, getL_txt ha, getL_txt hb]; rfl
  have n1 := @getL_no o p
  have n2 := @getL_no a p
  have n3 := @getL_no b p
  unfold oneH one6
  rw [same_eq n2 n1, same_eq n2 n3, same_eq n3 n1, m]
  split
  · rfl
  · split
    · rfl
    · split
      · rfl
      · split
        · rename_i h
          have h : (getL o p).2 = false := by simpa using h
          rw [← n1 h, ← h]
        · rename_i h
          have h : (getL o p).2 = true := by simpa using h
          split
          · rfl
          · rw [← h]
def joinOfI (o a b : List FileD) : List FileD × List HeadD := if treeI o && treeI a && treeI b then join6 o a b else ([], [])
theorem runJ_path (o a b : List FileD) (l : List Str) : ∀ f ∈ (runJ o a b l).1, f.path ∈ l := by
  have : ∀ (l : List Str) (s : List FileD × List HeadD), ∀ f ∈ (l.foldl (stepJ o a b) s).1, f ∈ s.1 ∨ f.path ∈ l := by
    intro l
    induction l with
    | nil => intro s f hf; exact .inl hf
    | cons p l ih =>
      intro s f hf
      rcases ih _ f hf with h | h
      · have h : f ∈ (if (one6 o a b p).2.1 then s.1 ++ [⟨p, (one6 o a b p).1⟩] else s.1) := h
        split at h
        · rcases List.mem_append.1 h with h | h
          · exact .inl h
          · have : f = ⟨p, (one6 o a b p).1⟩ := by simpa using h
            subst this; exact .inr (by simp)
        · exact .inl h
      · exact .inr (by simp -implicitDefEqProofs [h])
  intro f hf
  exact (this l ([], []) f hf).resolve_left (by simp)
theorem runJ_pt {o a b : List FileD} (h1 : ptSz o) (h2 : ptSz a) (h3 : ptSz b) (i : Nat) : ptSz (runJ o a b ((paths6 o a b).take i)).1 := by
  intro f hf
  have h := List.mem_of_mem_take (runJ_path o a b _ f hf)
  have h := ((paths6_srt o a b).2 f.path).1 h
  simp only [List.map_append, List.mem_append, List.mem_map] at h
  rcases h with (⟨g, hg, e⟩ | ⟨g, hg, e⟩) | ⟨g, hg, e⟩
  · rw [← e]; exact h1 g hg
  · rw [← e]; exact h2 g hg
  · rw [← e]; exact h3 g hg
theorem one6_nn (o a b : List FileD) (p : Str) : 0 ≤ (one6 o a b p).2.2 := by
  unfold one6
  repeat' split
  all_goals simp
def joI (o a b : List FileD) : Inv := ⟨Nat, fun i => ⟨[(0, true, .sl true 2 (eFiles o)), (1, true, .sl true 2 (eFiles a)), (2, true, .sl true 2 (eFiles b)), (6, true, .nil), (7, true, .nil), (8, true, .own 9 2 (eFiles (runJ o a b ((paths6 o a b).take i)).1)), (9, true, .own 10 2 (eHeads (runJ o a b ((paths6 o a b).take i)).2)), (23, true, .own 11 1 (eStrs (paths6 o a b))), (24, true, .int .i64 (paths6 o a b).length), (25, true, .int .i64 i)], [(9, .own 61 2 true (eFiles (runJ o a b ((paths6 o a b).take i)).1)), (10, .own 211 2 true (eHeads (runJ o a b ((paths6 o a b).take i)).2)), (11, .own 9 1 true (eStrs (paths6 o a b)))]⟩, fun i => i ≤ (paths6 o a b).length ∧ treeI o = true ∧ treeI a = true ∧ treeI b = true, fun i => (paths6 o a b).length - i⟩
def cJoinOf : Con := .fn 74 (List FileD × List FileD × List FileD) (fun a => [.sl true 2 (eFiles a.1), .sl true 2 (eFiles a.2.1), .sl true 2 (eFiles a.2.2)]) (fun a => ptSz a.1 ∧ ptSz a.2.1 ∧ ptSz a.2.2) (fun a => .tup [.own 8 2 (eFiles (joinOfI a.1 a.2.1 a.2.2).1), .own 9 2 (eHeads (joinOfI a.1 a.2.1 a.2.2).2)]) (fun a => ownFiles 8 (joinOfI a.1 a.2.1 a.2.2).1 ++ [(9, .own 211 2 true (eHeads (joinOfI a.1 a.2.1 a.2.2).2))])
theorem joinOf_has : Has Tryz.prog 191 cJoinOf := by
  refine has_walk mixed tTabC_ok (l := [(190, cAreTrees), (103, cAllPaths), (104, cHasAt), (217, cJoinAt), (98, cTreeOk), (142, cCopyTree)]) (HasL.cons areTrees_has (HasL.cons allPaths_has (HasL.cons hasAt_has (HasL.cons joinAt_has (HasL.cons treeOk_has (HasL.cons copyTree_has HasL.nil)))))) [0, 1, 2, 6, 7, 8, 9, 11, 12, 13, 23, 24, 25] ((fun a n (_ : Nat) => (fun a _ => joI a.1 a.2.1 a.2.2) a n)) [] Tryz.func191 (by kernel_rfl) (code := _) (by unfold Tryz.f191; rfl) (by kernel_rfl) (by decide) (fun _ => ⟨(), trivial⟩) (by intro h; first | exact fun _ => rfl | cases h) (by kernel_rfl) ?_
  intro a ha
  obtain ⟨o, a, b⟩ := a
  obtain ⟨h1, h2, h3⟩ : ptSz o ∧ ptSz a ∧ ptSz b := ha
  simp (maxSteps := 8000000) -implicitDefEqProofs [-kStep_move, -Bool.exists_bool, cJoinOf, cAreTrees, cAllPaths, cHasAt, cJoinAt, jaArgs, jaOwns, cTreeOk, cCopyTree, Con.fn, tTabC, tTab, joI]
  try dsimp only
  have j0 : (treeI o = false ∨ treeI a = false) ∨ treeI b = false → joinOfI o a b = ([], []) := fun h => by unfold joinOfI; rw [if_neg]; rcases h with (h | h) | h <;> simp -implicitDefEqProofs [h]
  refine ⟨o, a, b, ⟨rfl, rfl, rfl⟩, ⟨h1, h2, h3⟩, fun h => by rw [j0 h]; exact ⟨rfl, rfl⟩, fun b1 b2 b3 => ?_⟩
  have o8 := treeI_le o b1
  have a8 := treeI_le a b2
  have b8 := treeI_le b b3
  have hp := paths6_len o a b
  refine ⟨[o, a, b], rfl, ⟨by simp; omega, by simp⟩, fun _ => ⟨⟨0, ⟨⟨rfl, rfl, (allP_3 o a b).symm, by rw [allP_3], rfl⟩, rfl, rfl, allP_3 o a b⟩, Nat.zero_le _, b1, b2, b3⟩, fun t ht c1 c2 c3 => ⟨fun hlt => ⟨hlt, fun _ => ?_⟩, fun hge => ?_⟩⟩⟩
  · have qq : Option.map eStr (paths6 o a b)[t]? = some (eStr (paths6 o a b)[t]) := by simp -implicitDefEqProofs [hlt]
    have hs := runJ_succ (o := o) (a := a) (b := b) hlt
    have hb := runJ_len o a b ((paths6 o a b).take t)
    have hl : ((paths6 o a b).take t).length ≤ (paths6 o a b).length := by simp; omega
    have ho := one6_len (p := (paths6 o a b)[t]) (show 10 ≤ 64 by omega) o8.2 a8.2 b8.2
    have he := one_eq b1 b2 b3 (paths6 o a b)[t]
    have hnn := one6_nn o a b (paths6 o a b)[t]
    rw [qq]
    generalize runJ o a b ((paths6 o a b).take t) = R at *
    generalize (paths6 o a b)[t] = y at *
    obtain ⟨X, Y⟩ := R
    simp only at hb
    simp -implicitDefEqProofs [-Bool.exists_bool, eStr, D.asStr, getI_eq]
    have z : ∀ {t : List FileD}, (∀ f ∈ t, f.text.length ≤ 64) → ∀ f ∈ t, f.text.length ≤ 1048576 := fun h f hf => by have := h f hf; omega
    have he : oneH ((getL o y).1, (getL o y).2) ((getL a y).1, (getL a y).2) ((getL b y).1, (getL b y).2) = (((one6 o a b y).1, (one6 o a b y).2.1), (one6 o a b y).2.2) := he
    refine ⟨o, y, ⟨rfl, rfl⟩, z o8.2, a, y, ⟨rfl, rfl⟩, z a8.2, b, y, ⟨rfl, rfl⟩, z b8.2, _, _, _, _, _, _, ⟨⟨rfl, rfl⟩, ⟨rfl, rfl⟩, rfl, rfl⟩, ⟨rfl, rfl, rfl⟩, ?_⟩
    rw [he]
    generalize hone : one6 o a b y = O at *
    obtain ⟨x1, x2, x3⟩ := O
    have st : runJ o a b ((paths6 o a b).take (t + 1)) = (if x2 = true then X ++ [⟨y, x1⟩] else X, if 0 < x3 then Y ++ [⟨y, x3⟩] else Y) := by rw [hs]; unfold stepJ; rw [hone]
    have snF : eFiles X ++ [[D.str y, D.sl 9 1 (eStrs x1)]] = eFiles (X ++ [⟨y, x1⟩]) := eFiles_snoc _ _ _
    have snH : eHeads Y ++ [[D.str y, D.int .i64 x3]] = eHeads (Y ++ [⟨y, x3⟩]) := eHeads_snoc _ _ _
    simp only at ho hnn ⊢
    rw [snF, snH]
    refine ⟨fun h3 => ⟨⟨by omega, by omega⟩, fun h2 => ⟨⟨by omega, by omega⟩, ⟨by omega, by omega⟩, fun _ _ => ⟨t + 1, ?_⟩⟩, fun h2 => ⟨⟨by omega, by omega⟩, fun _ _ => ⟨t + 1, ?_⟩⟩⟩, fun h3 => ⟨fun h2 => ⟨⟨by omega, by omega⟩, ⟨by omega, by omega⟩, fun _ _ => ⟨t + 1, ?_⟩⟩, fun h2 => ⟨⟨by omega, by omega⟩, fun _ _ => ⟨t + 1, ?_⟩⟩⟩⟩
    · rw [st, if_pos h2, if_pos (by omega)]; exact ⟨⟨⟨rfl, rfl, by omega⟩, rfl, rfl⟩, ⟨by omega, b1, b2, b3⟩, by omega⟩
    · rw [st, if_neg (by simp -implicitDefEqProofs [h2]), if_pos (by omega)]; exact ⟨⟨⟨rfl, rfl, by omega⟩, rfl, rfl⟩, ⟨by omega, b1, b2, b3⟩, by omega⟩
    · rw [st, if_pos h2, if_neg (by omega)]; exact ⟨⟨⟨rfl, rfl, by omega⟩, rfl, rfl⟩, ⟨by omega, b1, b2, b3⟩, by omega⟩
    · rw [st, if_neg (by simp -implicitDefEqProofs [h2]), if_neg (by omega)]; exact ⟨⟨⟨rfl, rfl, by omega⟩, rfl, rfl⟩, ⟨by omega, b1, b2, b3⟩, by omega⟩
  · have : t = (paths6 o a b).length := by omega
    subst this
    have hpt := runJ_pt h1 h2 h3 (paths6 o a b).length
    have hj : joinOfI o a b = join6 o a b := by unfold joinOfI; rw [b1, b2, b3]; rfl
    rw [List.take_length] at hpt ⊢
    have e6 : runJ o a b (paths6 o a b) = of6 o a b := rfl
    rw [e6] at hpt ⊢
    rw [hj]
    refine fun _ => ⟨fun h => ⟨h, hpt⟩, fun h h' => ?_, fun h => ?_⟩
    · have e : join6 o a b = (o, [⟨[], 4⟩]) := by unfold join6; rw [if_pos ⟨h, by rw [← tree_eq]; exact h'⟩]
      rw [e]
      exact ⟨⟨by omega, fun f hf => by have := o8.2 f hf; omega⟩, ⟨rfl, rfl⟩, rfl, rfl⟩
    · have e : join6 o a b = of6 o a b := by unfold join6; rw [if_neg]; rintro ⟨q1, q2⟩; rw [← tree_eq, h q1] at q2; cases q2
      rw [e]
      exact ⟨⟨rfl, rfl⟩, rfl, rfl⟩
def joinTreeI (o a b : List FileD) : List FileD × Bool := if treeI o && treeI a && treeI b then (if (join6 o a b).2 = [] then ((join6 o a b).1, true) else ([], false)) else ([], false)
def cJoinTree : Con := .fn 26 (List FileD × List FileD × List FileD) (fun a => [.sl true 2 (eFiles a.1), .sl true 2 (eFiles a.2.1), .sl true 2 (eFiles a.2.2)]) (fun a => ptSz a.1 ∧ ptSz a.2.1 ∧ ptSz a.2.2) (fun a => .tup [.own 8 2 (eFiles (joinTreeI a.1 a.2.1 a.2.2).1), .bool (joinTreeI a.1 a.2.1 a.2.2).2]) (fun a => ownFiles 8 (joinTreeI a.1 a.2.1 a.2.2).1)
theorem joinTree_has : Has Tryz.prog 141 cJoinTree := by
  refine has_walk mixed tTabC_ok (l := [(190, cAreTrees), (191, cJoinOf)]) (HasL.cons areTrees_has (HasL.cons joinOf_has HasL.nil)) [0, 1, 2, 6, 7, 8, 9] ((fun a n (_ : Nat) => (fun _ => noInv) a n)) [] Tryz.func141 (by kernel_rfl) (code := _) (by unfold Tryz.f141; rfl) (by kernel_rfl) (by decide) (fun _ => ⟨(), trivial⟩) (by intro h; first | exact fun _ => rfl | cases h) (by kernel_rfl) ?_
  intro a ha
  obtain ⟨o, a, b⟩ := a
  obtain ⟨h1, h2, h3⟩ : ptSz o ∧ ptSz a ∧ ptSz b := ha
  simp (maxSteps := 8000000) -implicitDefEqProofs [-Bool.exists_bool, cJoinTree, cAreTrees, cJoinOf, Con.fn, tTabC, tTab]
  try dsimp only
  have j0 : (treeI o = false ∨ treeI a = false) ∨ treeI b = false → joinTreeI o a b = ([], false) := fun h => by unfold joinTreeI; rw [if_neg]; rcases h with (h | h) | h <;> simp -implicitDefEqProofs [h]
  refine ⟨o, a, b, ⟨rfl, rfl, rfl⟩, ⟨h1, h2, h3⟩, fun h => by rw [j0 h]; exact ⟨⟨rfl, rfl⟩, rfl⟩, fun b1 b2 b3 => ⟨o, a, b, ⟨rfl, rfl, rfl⟩, ⟨h1, h2, h3⟩, fun _ => ?_⟩⟩
  have e : joinOfI o a b = join6 o a b := by unfold joinOfI; rw [b1, b2, b3]; rfl
  have e2 : joinTreeI o a b = if (join6 o a b).2 = [] then ((join6 o a b).1, true) else ([], false) := by unfold joinTreeI; rw [b1, b2, b3]; rfl
  rw [e, e2]
  exact ⟨fun h => by rw [if_neg (by intro q; rw [q] at h; simp at h)]; exact ⟨⟨rfl, rfl⟩, rfl⟩, fun h => by rw [if_pos h]; exact ⟨⟨rfl, rfl⟩, rfl⟩⟩
end Vx
end Go.Proofs.YtnanellmaelipaaGreatDoor
