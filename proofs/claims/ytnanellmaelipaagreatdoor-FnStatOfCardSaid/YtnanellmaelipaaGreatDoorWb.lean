/-
  Joined by program (merge.py): Ld, Ed, Mb, Fa, Fb, Fc, Hg, Nb, Shs, Qb, Gt, Qc, Qa, Md, Mk, Mf, Mg, Mc, Me, Ml, Mh, Da, Dc, Dg, Id, Vw, Oa, Qd, Dh, Di, Kc, Mi. It shows what the single texts show; conditions: none but those of each lemma.
-/
import Derived.Test.YtnanellmaelipaaGreatDoorWa
import Derived.Lib.Walk
import Derived.Lib.SliceRun
import Derived.Lib.JoinLaws
import Derived.Lib.AppendZeros
import Derived.Lib.AppendZerosOnto
import Derived.Lib.Overlaps
import Derived.Laws.Externs
import Derived.Laws.IdiomCopy
import Derived.Laws.NewBlocks
import Derived.Shelf.RegionOpenPlain
import Derived.Shelf.Sort.Plain
import Derived.Shelf.Slices.In.SortNone
import Derived.Shelf.Slices.CompactS
import Derived.Test.YtnanellmaelipaaGreatDoorProg
import Derived.Shelf.Lay
import Derived.Shelf.LaySoft
set_option linter.unusedVariables false
set_option linter.unusedSimpArgs false
set_option linter.unusedSectionVars false
/-
  Contracts: files dropped and moved (the reference's TreeDrop, TreeMove).
-/
namespace Go.Proofs.YtnanellmaelipaaGreatDoor
namespace Vx
open Go.RowKit
set_option maxRecDepth 8000

def treeDropS (t : List FileD) (p : Str) : List FileD × Bool := if treeS t then (filB (dropB p) t, decide ((filB (dropB p) t).length < t.length)) else ([], false)
def cTreeDropS : Con := .fn 20 (List FileD × Str) (fun a => [.sl true 2 (eFiles a.1), .str a.2]) (fun a => a.1.length ≤ 1048576 ∧ ∀ f ∈ a.1, f.text.length ≤ 1048576) (fun a => .tup [.sl false 2 (eFiles (treeDropS a.1 a.2).1), .bool (treeDropS a.1 a.2).2]) (fun _ => [])
set_option maxHeartbeats 4000000 in
theorem treeDropS_has : Has Tryz.prog 249 cTreeDropS := by
  refine has_walk mixed tTab_ok (l := [(110, cL4Ok), (209, cL4Copy), (277, cL4Drop)]) (HasL.cons l4Ok_has (HasL.cons l4Copy_has (HasL.cons l4Drop_has HasL.nil))) [0, 1, 4, 5, 6] ((fun a n (_ : Nat) => (fun _ => noInv) a n)) [] Tryz.func249 (by kernel_rfl) (code := _) (by unfold Tryz.f249; rfl) (by kernel_rfl) (by decide) (fun _ => ⟨(), trivial⟩) (by intro h; first | exact fun _ => rfl | cases h) (by kernel_rfl) ?_
  intro a ha
  obtain ⟨t, p⟩ := a
  obtain ⟨h1, h2⟩ : t.length ≤ 1048576 ∧ ∀ f ∈ t, f.text.length ≤ 1048576 := ha
  simp -implicitDefEqProofs [cTreeDropS, cL4Ok, cL4Copy, cL4Drop, Con.fn, tTab]
  try dsimp only
  refine ⟨fun h => by unfold treeDropS; rw [if_neg (by simp -implicitDefEqProofs [h])]; exact ⟨rfl, rfl⟩, fun h => ⟨⟨h1, h2⟩, t, p, ⟨rfl, rfl⟩, h1, fun _ _ => by unfold treeDropS; rw [if_pos h]; exact ⟨rfl, rfl⟩⟩⟩

def mvHit (p : Str) (f : FileD) : Bool := decide (f.path = p) || inB p f.path
def mvStep (p to : Str) (o : List FileD) (f : FileD) : List FileD := if mvHit p f then setS o ⟨to ++ f.path.drop p.length, f.text⟩ else o
def mvFs (p to : Str) (o : List FileD) (t : List FileD) : List FileD := t.foldl (mvStep p to) o
theorem mvFs_succ {p to : Str} {o t : List FileD} {i : Nat} (h : i < t.length) : mvFs p to o (t.take (i + 1)) = mvStep p to (mvFs p to o (t.take i)) t[i] := by
  unfold mvFs
  rw [take_succ' h, List.foldl_append]; rfl
theorem mvFs_len (p to : Str) (o t : List FileD) : (mvFs p to o t).length ≤ o.length + t.length := by
  unfold mvFs
  induction t generalizing o with
  | nil => simp
  | cons f t ih =>
    have h1 := ih (mvStep p to o f)
    have h2 : (mvStep p to o f).length ≤ o.length + 1 := by
      unfold mvStep
      split
      · exact setS_len _ _
      · omega
    simp only [List.foldl_cons, List.length_cons]
    omega
theorem inB_len {p q : Str} (h : inB p q = true) : p.length < q.length := by
  unfold inB at h
  simp only [Bool.and_eq_true, decide_eq_true_eq] at h
  omega
def treeMoveS (t : List FileD) (p to : Str) : List FileD × Bool :=
  if treeS t then
    (if (filB (dropB p) t).length = t.length ∨ pathS to = false then (t, false)
    else if treeS (mvFs p to (filB (dropB p) t) t) = false ∨ ¬ (mvFs p to (filB (dropB p) t) t).length = t.length then (t, false)
    else (mvFs p to (filB (dropB p) t) t, true))
  else ([], false)
def mvO (t : List FileD) (p to : Str) : Inv := ⟨Nat, fun i => ⟨[(0, true, .sl true 2 (eFiles t)), (1, true, .str p), (2, true, .str to), (6, true, .nil), (7, true, .bool false), (8, true, .sl false 2 (eFiles (mvFs p to (filB (dropB p) t) (t.take i)))), (9, true, .int .i64 t.length), (10, true, .int .i64 i)], []⟩, fun i => i ≤ t.length ∧ treeS t = true, fun i => t.length - i⟩
def cTreeMoveS : Con := .fn 84 (List FileD × Str × Str) (fun a => [.sl true 2 (eFiles a.1), .str a.2.1, .str a.2.2]) (fun a => a.1.length ≤ 1048576 ∧ (∀ f ∈ a.1, f.text.length ≤ 1048576) ∧ a.2.2.length ≤ 1048576 ∧ ∀ f ∈ a.1, f.path.length ≤ 1048576) (fun a => .tup [.sl false 2 (eFiles (treeMoveS a.1 a.2.1 a.2.2).1), .bool (treeMoveS a.1 a.2.1 a.2.2).2]) (fun _ => [])
set_option maxHeartbeats 4000000 in
theorem treeMoveS_has : Has Tryz.prog 250 cTreeMoveS := by
  refine has_walk mixed tTab_ok (l := [(110, cL4Ok), (209, cL4Copy), (277, cL4Drop), (164, cL4Path), (166, cL4In), (275, cL4Set)]) (HasL.cons l4Ok_has (HasL.cons l4Copy_has (HasL.cons l4Drop_has (HasL.cons l4Path_has (HasL.cons l4In_has (HasL.cons l4Set_has HasL.nil)))))) [0, 1, 2, 6, 7, 8, 9, 10] ((fun a n (_ : Nat) => (fun a _ => mvO a.1 a.2.1 a.2.2) a n)) [] Tryz.func250 (by kernel_rfl) (code := _) (by unfold Tryz.f250; rfl) (by kernel_rfl) (by decide) (fun _ => ⟨(), trivial⟩) (by intro h; first | exact fun _ => rfl | cases h) (by kernel_rfl) ?_
  intro a ha
  obtain ⟨t, p, to⟩ := a
  obtain ⟨h1, h2, h3, h4⟩ : t.length ≤ 1048576 ∧ (∀ f ∈ t, f.text.length ≤ 1048576) ∧ to.length ≤ 1048576 ∧ ∀ f ∈ t, f.path.length ≤ 1048576 := ha
  simp -implicitDefEqProofs [cTreeMoveS, cL4Ok, cL4Copy, cL4Drop, cL4Path, cL4In, cL4Set, Con.fn, tTab, mvO]
  try dsimp only
  have e0 : treeS t = false → treeMoveS t p to = ([], false) := fun h => by unfold treeMoveS; rw [if_neg (by simp -implicitDefEqProofs [h])]
  have e1 : treeS t = true → ((filB (dropB p) t).length = t.length ∨ pathS to = false) → treeMoveS t p to = (t, false) := fun h q => by unfold treeMoveS; rw [if_pos h, if_pos q]
  have e2 : treeS t = true → ¬ ((filB (dropB p) t).length = t.length ∨ pathS to = false) → (treeS (mvFs p to (filB (dropB p) t) t) = false ∨ ¬ (mvFs p to (filB (dropB p) t) t).length = t.length) → treeMoveS t p to = (t, false) := fun h q w => by unfold treeMoveS; rw [if_pos h, if_neg q, if_pos w]
  have e3 : treeS t = true → ¬ ((filB (dropB p) t).length = t.length ∨ pathS to = false) → ¬ (treeS (mvFs p to (filB (dropB p) t) t) = false ∨ ¬ (mvFs p to (filB (dropB p) t) t).length = t.length) → treeMoveS t p to = (mvFs p to (filB (dropB p) t) t, true) := fun h q w => by unfold treeMoveS; rw [if_pos h, if_neg q, if_neg w]
  refine ⟨fun h => by rw [e0 h]; exact ⟨rfl, rfl⟩, fun h => ⟨⟨h1, h2⟩, t, p, ⟨rfl, rfl⟩, h1, fun _ _ => ⟨fun q => ⟨⟨h1, h2⟩, by rw [e1 h (.inl (by omega))]; exact ⟨rfl, rfl⟩⟩, fun q => ⟨fun w => ⟨⟨h1, h2⟩, by rw [e1 h (.inr w)]; exact ⟨rfl, rfl⟩⟩, fun w _ => ⟨⟨0, ⟨by simp -implicitDefEqProofs [mvFs], rfl⟩, Nat.zero_le _, h⟩, fun i hi _ _ => ⟨fun hlt => ?_, fun hge => ?_⟩⟩⟩⟩⟩⟩
  · have g := mvFs_succ (p := p) (to := to) (o := filB (dropB p) t) hlt
    have h8 := (treeS_le t h).1
    have gl := mvFs_len p to (filB (dropB p) t) (t.take i)
    have gf := List.length_filter_le (dropB p) t
    have gf : (filB (dropB p) t).length ≤ t.length := gf
    have gt : (t.take i).length ≤ t.length := by simp; omega
    have gp := h4 _ (List.getElem_mem hlt)
    have gx := h2 _ (List.getElem_mem hlt)
    have gi := @inB_len p t[i].path
    clear e0 e1 e2 e3
    generalize mvFs p to (filB (dropB p) t) (t.take i) = X at g gl ⊢
    simp -implicitDefEqProofs [hlt, eFile, D.asStr, D.asRows, and_assoc]
    have gtk : List.take (List.length t[i].path - List.length p) (List.drop (List.length p) t[i].path) = t[i].path.drop p.length := List.take_of_length_le (by simp)
    rw [gtk]
    have hm : maxLen = 9223372036854775807 := rfl
    refine ⟨fun e => ⟨by rw [e]; omega, fun _ => ⟨by omega, fun _ => ⟨by omega, gx, by omega, by omega, fun _ _ => ⟨i + 1, ?_, by omega, by omega, h, by omega⟩⟩⟩⟩,
      fun e => ⟨fun c => ⟨by have := gi c; omega, fun _ => ⟨by omega, fun _ => ⟨by omega, gx, by omega, by omega, fun _ _ => ⟨i + 1, ?_, by omega, by omega, h, by omega⟩⟩⟩⟩, fun c => ⟨by omega, by omega, fun _ _ => ⟨i + 1, ?_, by omega, by omega, h, by omega⟩⟩⟩⟩
    · rw [g]; unfold mvStep; rw [if_pos (by simp -implicitDefEqProofs [mvHit, e])]
    · rw [g]; unfold mvStep; rw [if_pos (by simp -implicitDefEqProofs [mvHit, c])]
    · rw [g]; unfold mvStep; rw [if_neg (by simp -implicitDefEqProofs [mvHit, c, e])]
  · rw [List.take_of_length_le hge]
    have hn : ¬ ((filB (dropB p) t).length = t.length ∨ pathS to = false) := by rintro (c | c); omega; rw [w] at c; cases c
    have e2 := e2 h hn
    have e3 := e3 h hn
    generalize mvFs p to (filB (dropB p) t) t = X at e2 e3 ⊢
    refine ⟨fun c => ⟨⟨h1, h2⟩, by rw [e2 (.inl c)]; exact ⟨rfl, rfl⟩⟩, fun c _ => ⟨fun d => ⟨⟨h1, h2⟩, by rw [e2 (.inr (by omega))]; exact ⟨rfl, rfl⟩⟩, fun d => ?_⟩⟩
    rw [e3 (by rintro (k | k); rw [c] at k; cases k; omega)]; exact ⟨rfl, rfl⟩

end Vx
end Go.Proofs.YtnanellmaelipaaGreatDoor
/-
  What the law FnSeekTree says, in plain lists.
-/
namespace Go.Proofs.YtnanellmaelipaaGreatDoor
namespace Vx
open Go.RowKit

theorem less_trans {a b c : Str} (h : Go.Op.bytesLess a b = true) (h' : Go.Op.bytesLess b c = true) : Go.Op.bytesLess a c = true := by
  rw [less_eq, decide_eq_true_eq] at *
  exact List.lt_trans h h'
theorem less_irrefl (a : Str) : Go.Op.bytesLess a a = false := by
  rw [less_eq, decide_eq_false_iff_not]
  exact List.lt_irrefl a
theorem tree_less {t : List FileD} (h : treeI t = true) : ∀ j i, (hij : i < j) → (hj : j < t.length) → Go.Op.bytesLess (t[i]'(by omega)).path t[j].path = true := by
  have hs : ∀ j, (h0 : 0 < j) → (hj : j < t.length) → Go.Op.bytesLess (t[j - 1]'(by omega)).path t[j].path = true := by
    intro j h0 hj
    simp only [treeI, Bool.and_eq_true, List.all_eq_true, List.mem_range] at h
    have h2 := (h.2 j hj).1
    simp only [headI, Bool.and_eq_true, Bool.or_eq_true, decide_eq_true_eq] at h2
    rcases h2.2 with h3 | h3
    · omega
    · simpa [List.getD_eq_getElem?_getD, hj, (show j - 1 < t.length by omega)] using h3
  intro j
  induction j with
  | zero => intro i hi; omega
  | succ j ih =>
    intro i hi hj
    have h1 := hs (j + 1) (by omega) hj
    by_cases e : i = j
    · subst e; exact h1
    · exact less_trans (ih i (by omega) (by omega)) h1
theorem tree_paths {t : List FileD} (h : treeI t = true) {i j : Nat} (hi : i < t.length) (hj : j < t.length) (he : t[i].path = t[j].path) : i = j := by
  rcases Nat.lt_trichotomy i j with h1 | h1 | h1
  · have := tree_less h j i h1 hj; rw [he, less_irrefl] at this; cases this
  · exact h1
  · have := tree_less h i j h1 hi; rw [he, less_irrefl] at this; cases this

/-- A text is in another one. -/
def partB (s p : Str) : Bool := (List.range (s.length + 1)).any fun i => decide (i + p.length ≤ s.length) && decide ((s.drop i).take p.length = p)
theorem partB_hit {s p : Str} {i : Nat} (h : i + p.length ≤ s.length) (h2 : (s.drop i).take p.length = p) : partB s p = true := by
  unfold partB
  rw [List.any_eq_true]
  exact ⟨i, List.mem_range.2 (by omega), by simp [h, h2]⟩
theorem partB_miss {s p : Str} (h : ∀ i, i + p.length ≤ s.length → (s.drop i).take p.length ≠ p) : partB s p = false := by
  unfold partB
  rw [List.any_eq_false]
  intro i _
  simp only [Bool.and_eq_true, decide_eq_true_eq, not_and]
  exact h i
theorem partB_mid (a p b : Str) : partB (a ++ (p ++ b)) p = true := partB_hit (i := a.length) (by simp) (by simp)
theorem hasP_part {w : Str} : ∀ {r c : Str}, hasP w r c = true → ∃ a b, c ++ r = a ++ (w ++ b) := by
  intro r
  induction r with
  | nil => intro c h; simp only [hasP, decide_eq_true_eq] at h; subst h; exact ⟨[], [], by simp⟩
  | cons x r ih =>
    intro c h
    simp only [hasP] at h
    split at h
    · obtain ⟨a, b, e⟩ := ih h
      exact ⟨a, b, by simpa using e⟩
    · simp only [Bool.or_eq_true, decide_eq_true_eq] at h
      rcases h with rfl | h
      · exact ⟨[], x :: r, by simp⟩
      · obtain ⟨a, b, e⟩ := ih h
        exact ⟨c ++ x :: a, b, by simpa using e⟩
theorem hasS_part {w l : Str} (h : hasS w l = true) : partB l w = true := by
  obtain ⟨a, b, e⟩ := hasP_part h
  rw [List.nil_append] at e
  rw [e]; exact partB_mid a w b
theorem hasP_word {w : Str} : ∀ {r c : Str}, (∀ x ∈ r, wordB x.toNat = true) → hasP w r c = decide (c ++ r = w) := by
  intro r
  induction r with
  | nil => intro c _; simp [hasP]
  | cons x r ih =>
    intro c h
    simp only [hasP, h x (by simp), if_true]
    rw [ih fun y hy => h y (by simp [hy])]
    simp
theorem hasS_self {w : Str} (h : nameB w = true) : hasS w w = true := by
  simp only [nameB, Bool.and_eq_true, List.all_eq_true] at h
  unfold hasS
  rw [hasP_word h.2]; simp
theorem hasS_see {w : Str} (h : nameB w = true) : hasS w ([115, 101, 101, 32] ++ w) = true := by
  have h0 := hasS_self h
  unfold hasS at h0 ⊢
  show hasP w (115 :: 101 :: 101 :: 32 :: w) [] = true
  simp only [hasP]
  rw [if_pos (by decide), if_pos (by decide), if_pos (by decide), if_neg (by decide), h0, Bool.or_true]

def pathIn (l : List Str) (p : Str) : Bool := decide (p ∈ l)
theorem seek_mem {t : List FileD} (ht : treeI t = true) (p : FileD → Bool) {i : Nat} (hi : i < t.length) : t[i].path ∈ seekL p t ↔ p t[i] = true := by
  unfold seekL
  simp only [List.mem_map, List.mem_filter]
  constructor
  · rintro ⟨f, ⟨hf, hp⟩, e⟩
    obtain ⟨j, hj, rfl⟩ := List.getElem_of_mem hf
    have := tree_paths ht hj hi e
    subst this
    exact hp
  · intro h; exact ⟨t[i], ⟨List.getElem_mem hi, h⟩, rfl⟩
theorem seek_split (p : FileD → Bool) (t : List FileD) {i : Nat} (hi : i < t.length) (hp : p t[i] = true) : (seekL p t)[(seekL p (t.take i)).length]? = some t[i].path := by
  have e : t.take i ++ (t[i] :: t.drop (i + 1)) = t := by rw [← List.drop_eq_getElem_cons hi, List.take_append_drop]
  have key : ∀ (a : List FileD) (x : FileD) (b : List FileD), p x = true → seekL p (a ++ x :: b) = seekL p a ++ (x.path :: seekL p b) := fun a x b h => by simp [seekL, List.filter_cons, h]
  have := key (t.take i) t[i] (t.drop (i + 1)) hp
  rw [e] at this
  rw [this]; simp
theorem hit_some {t : List FileD} {w : Str} {i : Nat} (hi : i < t.length) (h : hitS w t[i] = true) : ∃ l ∈ t[i].text, partB l w = true := by
  unfold hitS anyHas at h
  rw [List.any_eq_true] at h
  obtain ⟨l, hl, h⟩ := h
  exact ⟨l, hl, hasS_part h⟩
theorem hit_word {f : FileD} {w : Str} (hw : nameB w = true) (h : w ∈ f.text ∨ [115, 101, 101, 32] ++ w ∈ f.text) : hitS w f = true := by
  unfold hitS anyHas
  rw [List.any_eq_true]
  rcases h with h | h
  · exact ⟨_, h, hasS_self hw⟩
  · exact ⟨_, h, hasS_see hw⟩

/-- The lines of a file that have the word. -/
def someP (t : List Str) (w : Str) : Bool := t.any fun l => partB l w

end Vx
end Go.Proofs.YtnanellmaelipaaGreatDoor
/-
  Models of what the reference does with trees that are made one, branches, picks, operations; plain lemmas.
-/
namespace Go.Proofs.YtnanellmaelipaaGreatDoor
namespace Vx
open Go.RowKit
set_option maxRecDepth 8000

/-- A text put among others, in order, once. -/
def putS : List Str → Str → List Str
  | [], s => [s]
  | x :: l, s => if Go.Op.bytesLess x s then x :: putS l s else if x = s then x :: l else s :: x :: l
theorem putS_len (l : List Str) (s : Str) : (putS l s).length ≤ l.length + 1 := by
  induction l with
  | nil => simp -implicitDefEqProofs [putS]
  | cons x l ih =>
    unfold putS
    split
    · simp; omega
    · split <;> simp
theorem putS_step {l : List Str} {s : Str} {k : Nat} (h : k < l.length) (hp : l.take k ++ putS (l.drop k) s = putS l s) (hl : Go.Op.bytesLess l[k] s = true) : l.take (k + 1) ++ putS (l.drop (k + 1)) s = putS l s := by
  rw [List.drop_eq_getElem_cons h, putS, if_pos hl] at hp
  rw [take_succ' h, List.append_assoc]
  exact hp
theorem putS_end {l : List Str} {s : Str} {k : Nat} (h : l.length ≤ k) (hp : l.take k ++ putS (l.drop k) s = putS l s) : putS l s = l.take k ++ [s] ++ l.drop k := by
  rw [List.drop_eq_nil_of_le h] at hp ⊢
  rw [← hp]; simp -implicitDefEqProofs [putS]
theorem putS_eq {l : List Str} {s : Str} {k : Nat} (h : k < l.length) (hp : l.take k ++ putS (l.drop k) s = putS l s) (hl : Go.Op.bytesLess l[k] s = false) (he : l[k] = s) : putS l s = l := by
  rw [List.drop_eq_getElem_cons h, putS, if_neg (by simp -implicitDefEqProofs [hl]), if_pos he, ← List.drop_eq_getElem_cons h, List.take_append_drop] at hp
  exact hp.symm
theorem putS_ne {l : List Str} {s : Str} {k : Nat} (h : k < l.length) (hp : l.take k ++ putS (l.drop k) s = putS l s) (hl : Go.Op.bytesLess l[k] s = false) (he : ¬ l[k] = s) : putS l s = l.take k ++ [s] ++ l.drop k := by
  rw [List.drop_eq_getElem_cons h, putS, if_neg (by simp -implicitDefEqProofs [hl]), if_neg he, ← List.drop_eq_getElem_cons h] at hp
  rw [← hp]; simp

def putFs (l : List Str) (t : List FileD) : List Str := t.foldl (fun l f => putS l f.path) l
theorem putFs_succ {l : List Str} {t : List FileD} {i : Nat} (h : i < t.length) : putFs l (t.take (i + 1)) = putS (putFs l (t.take i)) t[i].path := by
  unfold putFs
  rw [take_succ' h, List.foldl_append]; rfl
theorem putFs_len (t : List FileD) : ∀ l, (putFs l t).length ≤ l.length + t.length := by
  induction t with
  | nil => intro l; simp -implicitDefEqProofs [putFs]
  | cons f t ih =>
    intro l
    have h1 := ih (putS l f.path)
    have h2 := putS_len l f.path
    show (putFs (putS l f.path) t).length ≤ _
    simp only [List.length_cons]
    omega
def paths6 (o a b : List FileD) : List Str := putFs (putFs (putFs [] o) a) b
theorem paths6_len (o a b : List FileD) : (paths6 o a b).length ≤ o.length + a.length + b.length := by
  have h1 := putFs_len b (putFs (putFs [] o) a)
  have h2 := putFs_len a (putFs [] o)
  have h3 := putFs_len o []
  simp at h3
  show (putFs (putFs (putFs [] o) a) b).length ≤ _
  omega

def same6 (a b : List Str × Bool) : Bool := decide (a.2 = b.2) && (!a.2 || decide (a.1 = b.1))
def one6 (o a b : List FileD) (p : Str) : List Str × Bool × Int :=
  if same6 (getL a p) (getL o p) || same6 (getL a p) (getL b p) then ((getL b p).1, (getL b p).2, 0)
  else if same6 (getL b p) (getL o p) then ((getL a p).1, (getL a p).2, 0)
  else if !(getL a p).2 || !(getL b p).2 then ((getL o p).1, (getL o p).2, 1)
  else if !(getL o p).2 then ([], false, 2)
  else if (text3 (of3 (getL o p).1 (getL a p).1 (getL b p).1)).2 then ((text3 (of3 (getL o p).1 (getL a p).1 (getL b p).1)).1, true, 0)
  else ((getL o p).1, true, 3)
theorem getL_len {t : List FileD} {n : Nat} (h : ∀ f ∈ t, f.text.length ≤ n) (p : Str) : (getL t p).1.length ≤ n := by
  induction t with
  | nil => simp -implicitDefEqProofs [getL]
  | cons f t ih =>
    unfold getL
    split
    · exact h f (by simp)
    · exact ih fun g hg => h g (by simp -implicitDefEqProofs [hg])
theorem textB_len {t : List Str} (h : textB t = true) : t.length ≤ 10 := by
  unfold textB at h
  simp only [Bool.and_eq_true, decide_eq_true_eq] at h
  exact h.1
theorem text3_len (l : List PartD) : (text3 l).1.length ≤ 10 := by
  unfold text3
  split
  · simp
  · split
    · rename_i h; exact textB_len h
    · simp
theorem one6_len {o a b : List FileD} {p : Str} {n : Nat} (hn : 10 ≤ n) (ho : ∀ f ∈ o, f.text.length ≤ n) (ha : ∀ f ∈ a, f.text.length ≤ n) (hb : ∀ f ∈ b, f.text.length ≤ n) : (one6 o a b p).1.length ≤ n := by
  have h1 := getL_len ho p
  have h2 := getL_len ha p
  have h3 := getL_len hb p
  have h4 := text3_len (of3 (getL o p).1 (getL a p).1 (getL b p).1)
  unfold one6
  split
  · exact h3
  · split
    · exact h2
    · split
      · exact h1
      · split
        · simp
        · split
          · show (text3 _).1.length ≤ n; omega
          · exact h1
def stepJ (o a b : List FileD) (s : List FileD × List HeadD) (p : Str) : List FileD × List HeadD :=
  (if (one6 o a b p).2.1 then s.1 ++ [⟨p, (one6 o a b p).1⟩] else s.1, if 0 < (one6 o a b p).2.2 then s.2 ++ [⟨p, (one6 o a b p).2.2⟩] else s.2)
def runJ (o a b : List FileD) (l : List Str) : List FileD × List HeadD := l.foldl (stepJ o a b) ([], [])
theorem runJ_succ {o a b : List FileD} {l : List Str} {i : Nat} (h : i < l.length) : runJ o a b (l.take (i + 1)) = stepJ o a b (runJ o a b (l.take i)) l[i] := by
  unfold runJ
  rw [take_succ' h, List.foldl_append]; rfl
theorem runJ_len (o a b : List FileD) (l : List Str) : (runJ o a b l).1.length ≤ l.length ∧ (runJ o a b l).2.length ≤ l.length := by
  have : ∀ (l : List Str) (s : List FileD × List HeadD), (l.foldl (stepJ o a b) s).1.length ≤ s.1.length + l.length ∧ (l.foldl (stepJ o a b) s).2.length ≤ s.2.length + l.length := by
    intro l
    induction l with
    | nil => intro s; simp
    | cons p l ih =>
      intro s
      obtain ⟨h1, h2⟩ := ih (stepJ o a b s p)
      have h3 : (stepJ o a b s p).1.length ≤ s.1.length + 1 ∧ (stepJ o a b s p).2.length ≤ s.2.length + 1 := by
        unfold stepJ
        constructor
        · show (if _ then _ else _ : List FileD).length ≤ _
          split <;> simp
        · show (if _ then _ else _ : List HeadD).length ≤ _
          split <;> simp
      simp only [List.foldl_cons, List.length_cons]
      omega
  have := this l ([], [])
  simpa [runJ] using this
theorem runJ_text {o a b : List FileD} {n : Nat} (hn : 10 ≤ n) (ho : ∀ f ∈ o, f.text.length ≤ n) (ha : ∀ f ∈ a, f.text.length ≤ n) (hb : ∀ f ∈ b, f.text.length ≤ n) (l : List Str) : ∀ f ∈ (runJ o a b l).1, f.text.length ≤ n := by
  have : ∀ (l : List Str) (s : List FileD × List HeadD), (∀ f ∈ s.1, f.text.length ≤ n) → ∀ f ∈ (l.foldl (stepJ o a b) s).1, f.text.length ≤ n := by
    intro l
    induction l with
    | nil => intro s h; exact h
    | cons p l ih =>
      intro s h
      refine ih (stepJ o a b s p) ?_
      intro f hf
      have hf : f ∈ (if (one6 o a b p).2.1 then s.1 ++ [⟨p, (one6 o a b p).1⟩] else s.1) := hf
      split at hf
      · rcases List.mem_append.1 hf with hf | hf
        · exact h f hf
        · simp at hf; subst hf; exact one6_len hn ho ha hb
      · exact h f hf
  exact this l ([], []) (by simp)
def of6 (o a b : List FileD) : List FileD × List HeadD := runJ o a b (paths6 o a b)
def join6 (o a b : List FileD) : List FileD × List HeadD := if (of6 o a b).2 = [] ∧ treeS (of6 o a b).1 = false then (o, [⟨[], 4⟩]) else of6 o a b
theorem join6_tree {o a b : List FileD} (h : (join6 o a b).2 = []) : treeS (join6 o a b).1 = true := by
  unfold join6 at h ⊢
  split
  · rename_i h2; rw [if_pos h2] at h; simp at h
  · rename_i h2
    rw [if_neg h2] at h
    cases hq : treeS (of6 o a b).1 with
    | true => rfl
    | false => exact absurd ⟨h, hq⟩ h2

def both8 (r : RepoD) (a b : Int) (i : Nat) : List Int := ((listT (anc r a)).take i).filter fun x => decide (x ∈ listT (anc r b))
def bestF (r : RepoD) (l : List Int) (i k : Nat) : Bool := (List.range k).all fun j => decide (j = i) || !decide (l.getD i 0 ∈ listT (anc r (l.getD j 0)))
def baseF (r : RepoD) (l : List Int) (i : Nat) : List Int := ((List.range i).filter fun j => bestF r l j l.length).map fun j => l.getD j 0
def bases8 (r : RepoD) (a b : Int) : List Int := baseF r (both8 r a b (listT (anc r a)).length) (both8 r a b (listT (anc r a)).length).length
def base9 (r : RepoD) (a b : Int) : List FileD := match (bases8 r a b).getLast? with
  | none => []
  | some c => treeAt r c
def noR : RepoD := ⟨[], []⟩
def unite9 (r : RepoD) (n w : Str) (b : Int) : RepoD × Int :=
  if b ∈ listT (anc r (atL r.heads n)) then (r, 2)
  else if atL r.heads n ∈ listT (anc r b) then (⟨r.commits, hSet r.heads n b⟩, 3)
  else if (join6 (base9 r (atL r.heads n) b) (treeAt r (atL r.heads n)) (treeAt r b)).2 = [] then
    (if repoS (addR r n ⟨[atL r.heads n, b], w, (join6 (base9 r (atL r.heads n) b) (treeAt r (atL r.heads n)) (treeAt r b)).1⟩) then
      (addR r n ⟨[atL r.heads n, b], w, (join6 (base9 r (atL r.heads n) b) (treeAt r (atL r.heads n)) (treeAt r b)).1⟩, 0) else (r, 5))
  else (r, 4)
def uniteS (r : RepoD) (n w : Str) (b : Int) : RepoD × Int :=
  if repoS r then (if atL r.heads n < 0 ∨ nameB w = false ∨ ¬ (0 ≤ b ∧ b < r.commits.length) then (r, 1) else unite9 r n w b) else (noR, 1)
def ahead10 (r : RepoD) (c : Int) : List FileD := match (r.commits.getD c.toNat default).parents with
  | [] => []
  | p :: _ => treeAt r p
def put10 (r : RepoD) (n w : Str) (o b : List FileD) : RepoD × Int :=
  if (join6 o (treeAt r (atL r.heads n)) b).2 = [] then
    (if repoS (addR r n ⟨[atL r.heads n], w, (join6 o (treeAt r (atL r.heads n)) b).1⟩) then (addR r n ⟨[atL r.heads n], w, (join6 o (treeAt r (atL r.heads n)) b).1⟩, 0) else (r, 5))
  else (r, 4)
def pickS (back : Bool) (r : RepoD) (n w : Str) (c : Int) : RepoD × Int :=
  if repoS r then (if atL r.heads n < 0 ∨ nameB w = false ∨ ¬ (0 ≤ c ∧ c < r.commits.length) then (r, 1)
    else if back then put10 r n w (treeAt r c) (ahead10 r c) else put10 r n w (ahead10 r c) (treeAt r c)) else (noR, 1)

theorem heads_pw : ∀ {l : List HeadD}, (∀ i, 0 < i → i < l.length → Go.Op.bytesLess (l.getD (i - 1) default).name (l.getD i default).name = true) → l.Pairwise fun a b => Go.Op.bytesLess a.name b.name = true
  | [], _ => .nil
  | [x], _ => by simp
  | x :: y :: t, h => by
    have ih := heads_pw (l := y :: t) fun i h1 h2 => by
      have := h (i + 1) (by omega) (by simp only [List.length_cons] at h2 ⊢; omega)
      rw [show i + 1 - 1 = (i - 1) + 1 by omega, List.getD_cons_succ, List.getD_cons_succ] at this
      exact this
    have hxy := h 1 (by omega) (by simp)
    have hxy : Go.Op.bytesLess x.name y.name = true := by simpa using hxy
    refine List.pairwise_cons.2 ⟨fun z hz => ?_, ih⟩
    rcases List.mem_cons.1 hz with rfl | hz
    · exact hxy
    · exact less_trans hxy ((List.pairwise_cons.1 ih).1 z hz)
theorem hL_true (n : Str) (a : Int) : ∀ (l X : List HeadD), l.foldl (hStep n a) (X, true) = (X ++ l.filter (fun g => decide (g.name ≠ n)), true)
  | [], X => by simp
  | g :: l, X => by
    rw [List.foldl_cons]
    by_cases h : g.name = n
    · have e : hStep n a (X, true) g = (X, true) := by unfold hStep; simp -implicitDefEqProofs [h]
      rw [e, hL_true n a l X]; simp -implicitDefEqProofs [h]
    · have e : hStep n a (X, true) g = (X ++ [g], true) := by unfold hStep; simp -implicitDefEqProofs [h]
      rw [e, hL_true n a l (X ++ [g])]; simp -implicitDefEqProofs [h]
def hAt (n : Str) (a : Int) (h : HeadD) : HeadD := if h.name = n then ⟨n, a⟩ else h
theorem hL_sorted (n : Str) (a : Int) : ∀ (l X : List HeadD), (l.Pairwise fun a b => Go.Op.bytesLess a.name b.name = true) → (∃ h ∈ l, h.name = n) → l.foldl (hStep n a) (X, false) = (X ++ l.map (hAt n a), true)
  | [], X, _, h => by obtain ⟨_, h, _⟩ := h; simp at h
  | g :: l, X, hp, hn => by
    obtain ⟨hp1, hp2⟩ := List.pairwise_cons.1 hp
    rw [List.foldl_cons]
    by_cases h : g.name = n
    · have e : hStep n a (X, false) g = (X ++ [⟨n, a⟩], true) := by unfold hStep; simp -implicitDefEqProofs [h, less_irrefl]
      have hne : ∀ z ∈ l, ¬ z.name = n := fun z hz hc => by
        have := hp1 z hz
        rw [h, hc, less_irrefl] at this
        cases this
      have e2 : l.filter (fun g => decide (g.name ≠ n)) = l := by rw [List.filter_eq_self]; intro z hz; simp -implicitDefEqProofs [hne z hz]
      have e3 : l.map (hAt n a) = l := by
        have : l.map (hAt n a) = l.map id := List.map_congr_left fun z hz => by simp -implicitDefEqProofs [hAt, hne z hz]
        rw [this]; simp
      rw [e, hL_true, e2]; simp -implicitDefEqProofs [e3, hAt, h]
    · obtain ⟨z, hz, hzn⟩ := hn
      have hz : z ∈ l := by
        rcases List.mem_cons.1 hz with rfl | hz
        · exact absurd hzn h
        · exact hz
      have hl : Go.Op.bytesLess g.name n = true := by rw [← hzn]; exact hp1 z hz
      have e : hStep n a (X, false) g = (X ++ [g], false) := by unfold hStep; simp -implicitDefEqProofs [h, hl]
      rw [e, hL_sorted n a l (X ++ [g]) hp2 ⟨z, hz, hzn⟩]; simp -implicitDefEqProofs [hAt, h]
/-- A head set anew where there is one by that name. -/
theorem hSet_map {l : List HeadD} {n : Str} {a : Int} (hl : ∀ i, 0 < i → i < l.length → Go.Op.bytesLess (l.getD (i - 1) default).name (l.getD i default).name = true) (hn : ∃ h ∈ l, h.name = n) :
    hSet l n a = l.map (hAt n a) := by
  unfold hSet hL
  rw [hL_sorted n a l [] (heads_pw hl) hn]
  simp
theorem atL_mem {l : List HeadD} {n : Str} (h : 0 ≤ atL l n) : ∃ h ∈ l, h.name = n := by
  induction l with
  | nil => simp -implicitDefEqProofs [atL] at h
  | cons g l ih =>
    unfold atL at h
    split at h
    · rename_i e; exact ⟨g, by simp, e⟩
    · obtain ⟨x, h1, h2⟩ := ih h; exact ⟨x, by simp -implicitDefEqProofs [h1], h2⟩
theorem atL_le {l : List HeadD} {n : Str} {k : Nat} (hl : headsB k l = true) : atL l n < k ∧ -1 ≤ atL l n ∨ atL l n = -1 := by
  have h2 := ((headsB_iff _ _).1 hl).2
  have : ∀ (l' : List HeadD), (∀ h ∈ l', 0 ≤ h.at_ ∧ h.at_ < k) → atL l' n < k ∧ -1 ≤ atL l' n ∨ atL l' n = -1 := by
    intro l'
    induction l' with
    | nil => intro _; right; rfl
    | cons g l' ih =>
      intro h
      unfold atL
      split
      · left; have := h g (by simp); omega
      · exact ih fun x hx => h x (by simp -implicitDefEqProofs [hx])
  refine this l fun h hh => ?_
  obtain ⟨i, hi, rfl⟩ := List.getElem_of_mem hh
  have := h2 i hi
  simp only [okHd, inN, List.getD_eq_getElem?_getD, List.getElem?_eq_getElem hi, Option.getD_some, Bool.and_eq_true, decide_eq_true_eq] at this
  omega
theorem headsB_set {k : Nat} {l : List HeadD} {n : Str} {b : Int} (h : headsB k l = true) (hn : 0 ≤ atL l n) (hb : 0 ≤ b ∧ b < k) : headsB k (hSet l n b) = true := by
  obtain ⟨h1, h2⟩ := (headsB_iff _ _).1 h
  have hg : ∀ i (hi : i < l.length), l.getD i default = l[i] := fun i hi => by simp -implicitDefEqProofs [List.getD_eq_getElem?_getD, hi]
  rw [hSet_map (fun i h3 h4 => by
    have := h2 i h4
    unfold okHd at this
    simp only [Bool.and_eq_true, Bool.or_eq_true, decide_eq_true_eq] at this
    rcases this.2 with h5 | h5
    · omega
    · exact h5) (atL_mem hn), headsB_iff]
  have hm : ∀ i (hi : i < l.length), (l.map (hAt n b)).getD i default = hAt n b l[i] := fun i hi => by simp -implicitDefEqProofs [List.getD_eq_getElem?_getD, hi]
  have hname : ∀ g : HeadD, (hAt n b g).name = g.name := fun g => by unfold hAt; split <;> simp_all
  refine ⟨by simpa using h1, fun i hi => ?_⟩
  have hi : i < l.length := by simpa using hi
  have h3 := h2 i hi
  unfold okHd at h3 ⊢
  rw [hm i hi, hname]
  rw [hg i hi] at h3
  have hat : inN k (hAt n b l[i]).at_ = true := by
    simp only [Bool.and_eq_true] at h3
    unfold hAt
    split
    · simp only [inN, Bool.and_eq_true, decide_eq_true_eq]; omega
    · exact h3.1.2
  rw [hat]
  rcases Nat.eq_zero_or_pos i with h0 | h0
  · subst h0
    simp only [Bool.and_eq_true] at h3
    simp -implicitDefEqProofs [h3.1.1]
  · rw [hm (i - 1) (by omega), hname]
    rw [hg (i - 1) (by omega)] at h3
    simp only [Bool.and_eq_true] at h3 ⊢
    exact ⟨⟨h3.1.1, trivial⟩, h3.2⟩
theorem repoS_heads {r : RepoD} {n : Str} {b : Int} (h : repoS r = true) (hn : 0 ≤ atL r.heads n) (hb : 0 ≤ b ∧ b < r.commits.length) : repoS ⟨r.commits, hSet r.heads n b⟩ = true := by
  obtain ⟨h1, h2, h3⟩ := (repoS_iff r).1 h
  exact (repoS_iff _).2 ⟨h1, headsB_set h2 hn hb, h3⟩
theorem hSet_ne (l : List HeadD) (n : Str) (a : Int) : hSet l n a ≠ [] := by
  have : ∀ (l : List HeadD) (s : List HeadD × Bool), (s.2 = true → s.1 ≠ []) → ((l.foldl (hStep n a) s).2 = true → (l.foldl (hStep n a) s).1 ≠ []) := by
    intro l
    induction l with
    | nil => intro s h; exact h
    | cons g l ih =>
      intro s h
      refine ih (hStep n a s g) ?_
      unfold hStep
      split
      · split <;> simp
      · split
        · exact h
        · simp
  unfold hSet
  split
  · rename_i h; exact this l ([], false) (by simp) h
  · simp
theorem unite9_ok {r : RepoD} {n w : Str} {b : Int} (h : repoS r = true) (hn : 0 ≤ atL r.heads n) (hb : 0 ≤ b ∧ b < r.commits.length) (hh : r.commits ≠ [] → r.heads ≠ []) :
    repoS (unite9 r n w b).1 = true ∧ ((unite9 r n w b).1.commits ≠ [] → (unite9 r n w b).1.heads ≠ []) := by
  unfold unite9
  split
  · exact ⟨h, hh⟩
  · split
    · exact ⟨repoS_heads h hn hb, fun _ => hSet_ne _ _ _⟩
    · split
      · split
        · rename_i q; exact ⟨q, fun _ => hSet_ne _ _ _⟩
        · exact ⟨h, hh⟩
      · exact ⟨h, hh⟩
theorem uniteS_ok {r : RepoD} {n w : Str} {b : Int} (h : repoS r = true) (hh : r.commits ≠ [] → r.heads ≠ []) :
    repoS (uniteS r n w b).1 = true ∧ ((uniteS r n w b).1.commits ≠ [] → (uniteS r n w b).1.heads ≠ []) := by
  unfold uniteS
  rw [if_pos h]
  split
  · exact ⟨h, hh⟩
  · rename_i q
    exact unite9_ok h (by omega) (by omega) hh
theorem put10_ok {r : RepoD} {n w : Str} {o b : List FileD} (h : repoS r = true) (hh : r.commits ≠ [] → r.heads ≠ []) :
    repoS (put10 r n w o b).1 = true ∧ ((put10 r n w o b).1.commits ≠ [] → (put10 r n w o b).1.heads ≠ []) := by
  unfold put10
  split
  · split
    · rename_i q; exact ⟨q, fun _ => hSet_ne _ _ _⟩
    · exact ⟨h, hh⟩
  · exact ⟨h, hh⟩
theorem pickS_ok {k : Bool} {r : RepoD} {n w : Str} {c : Int} (h : repoS r = true) (hh : r.commits ≠ [] → r.heads ≠ []) :
    repoS (pickS k r n w c).1 = true ∧ ((pickS k r n w c).1.commits ≠ [] → (pickS k r n w c).1.heads ≠ []) := by
  unfold pickS
  rw [if_pos h]
  split
  · exact ⟨h, hh⟩
  · split
    · exact put10_ok h hh
    · exact put10_ok h hh

end Vx
end Go.Proofs.YtnanellmaelipaaGreatDoor
/-
  slices.Insert at elements of two cells: the library's text, walked: in place, and into a new row.
-/
set_option linter.unusedVariables false
set_option linter.unusedSimpArgs false
namespace Go.Proofs.YtnanellmaelipaaGreatDoor
namespace Vx
open Go.RowKit Go.Lib

theorem run_copy_cells_k {P : Program} (k : Nat) (w : World) (dT sT ty elem : TypeId) (b o dLen dCap : Nat) (a : Addr) (sLen sCap : Nat) (cs : List Value)
    (hu : P.underlying dT = some (.slice elem)) (hs : (P.info? elem).map (·.size) = some k) (hn : cs.length = Nat.min sLen dLen * k)
    (hsrc : ∀ (j : Nat) v, cs[j]? = some v → w.cell? (a.add j) = some v) (hc : ∀ j, j < cs.length → (w.cell? ⟨b, o + j, none⟩).isSome = true) (hf : ∀ j, j < cs.length → w.frozen? ⟨b, o + j, none⟩ = false) (h1 : ∀ v ∈ cs, v.oneCell' = true) :
    (Builtin.copy_ #[dT, sT] ty #[.slice (some ⟨b, o, none⟩) dLen dCap, .slice (some a) sLen sCap]).run P w = .ok (goInt (Nat.min sLen dLen)) (w.setCells b o cs) := by
  have hl := run_loadCells_list (P := P) w a cs hsrc
  have hst := run_storeCells_cells (P := P) b o cs 0 w (by simpa using hc) (by simpa using hf) h1
  cases hq : P.info? elem with
  | none => simp [hq] at hs
  | some i =>
    have hi : i.size = k := by simpa [hq] using hs
    simp [Builtin.copy_, run_underlying hu, Builtin.lenOf, Builtin.firstCells, sizeOf, typeInfo, hq, hi, ← hn, hl, hst]

theorem wp_copy_runI {P : Program} (w : World) {o : Oper} {a : Act} {K : Act → World → Prop} {Q : Exit → Act → World → Prop} (d s : Operand) (t t' : TypeId)
    (ho : o.op = .call { callee := .builtin .copy, args := #[d, s], argTypes := #[t, t'] }) (v u : Value) (hd : a.eval d = v) (hs : a.eval s = u) {v' : Value} {w' : World}
    (hr : (Builtin.copy_ #[t, t'] o.type #[v, u]).run P w = .ok v' w') (h : K (a.put o.dst v') w') : o.wp P a w K Q := by
  unfold Oper.wp execOp
  simp only [ho, resolve, invoke, builtin, Sem.run_bind, Sem.run_pure, Result.andThen_ok, List.map_toArray, List.map_cons, List.map_nil, hd, hs, hr]
  exact h
theorem wpList_copy_runI {P : Program} (w : World) {ops : Array Oper} {rest : List Oper} {o : Oper} {a : Act} {Q : Exit → Act → World → Prop} (hgd : o.guard = none) (d s : Operand) (t t' : TypeId)
    (ho : o.op = .call { callee := .builtin .copy, args := #[d, s], argTypes := #[t, t'] }) (v u : Value) (hd : a.eval d = v) (hs : a.eval s = u) {v' : Value} {w' : World}
    (hr : (Builtin.copy_ #[t, t'] o.type #[v, u]).run P w = .ok v' w') (h : wpList P ops Q rest (a.put o.dst v') w') : wpList P ops Q (o :: rest) a w :=
  wpList_plain hgd fun _ hK => wp_copy_runI w d s t t' ho v u hd hs hr (hK _ _ h)
theorem step_copy_runI {P : Program} {ops : Array Oper} {o : Oper} {a : Act} {w : World} {K : Act → World → Prop} {Q : Exit → Act → World → Prop} {E : Prop}
    (hg : o.guard = none) (d x : Operand) (dT sT : TypeId) (hop : o.op = Op.call { callee := Callee.builtin Builtin.copy, args := #[d, x], argTypes := #[dT, sT] })
    (v u : Value) (hd : a.eval d = v) (hx : a.eval x = u) {v' : Value} {w' : World} (hr : (Builtin.copy_ #[dT, sT] o.type #[v, u]).run P w = .ok v' w') (hK : K (a.put o.dst v') w') :
    if Region.wanted o (yielded ops a.tmps) = true then Oper.wp P o a w K Q else E := by
  have hw : Region.wanted o (yielded ops a.tmps) = true := by simp [Region.wanted, hg]
  rw [if_pos hw]
  unfold Oper.wp
  simp [execOp, hop, resolve, invoke, builtin, hd, hx, hr, Result.andThen]
  exact hK
theorem isSome_setCells' (b : Nat) (vs : List Value) (o : Nat) (w : World) (h : ∀ j, j < vs.length → (w.cell? ⟨b, o + j, none⟩).isSome = true) (k : Nat) (hk : (w.cell? ⟨b, k, none⟩).isSome = true) : ((w.setCells b o vs).cell? ⟨b, k, none⟩).isSome = true := by
  by_cases hin : o ≤ k ∧ k < o + vs.length
  · have := World.cell?_setCells_in b vs o w h (k - o) (by omega)
    rw [show o + (k - o) = k by omega] at this
    rw [this]; rfl
  · rw [World.cell?_setCells_out b vs o w ⟨b, k, none⟩ (fun _ _ => by show k < o ∨ o + vs.length ≤ k; omega)]
    exact hk


end Vx
end Go.Proofs.YtnanellmaelipaaGreatDoor
/-
  The contract of slices.Insert at files.
-/
namespace Go.Proofs.YtnanellmaelipaaGreatDoor
namespace Vx
open Go.RowKit

theorem only8 {c : Cx} {s : St} {a : Act} {w : World} {β : Nat → Value} {fp : Nat → List (Nat × Nat)} (S : SatI c s a w β fp) (hp : c.pins = []) {e k : Nat} {R : List (List D)} (h8 : s.m 8 = some (.own e k true R)) :
    ∃ a', SatI c ⟨fun _ => none, get? [(8, .own e k true R)]⟩ a' w β fp ∧ RelL w (get? [(8, .own e k true R)]) β c [.own 8 k R] [β 8] := by
  have hb : BlkOk w (get? [(8, Blk.own e k true R)]) β c 8 (fp 8) (.own e k true R) := by
    obtain ⟨p1, p2, p3⟩ := S.mem 8 _ h8
    refine ⟨p1, p2, ?_⟩
    rcases p3 with p3 | ⟨b', cap, cs, f0, r1, r2, r3, r4, r5, r6, r7, r8⟩
    · exact .inl p3
    · exact .inr ⟨b', cap, cs, f0, r1, r2, r3, r4, r5, r6, r7, by simp⟩
  refine ⟨⟨Array.replicate c.n undef, []⟩, ⟨?_, ?_, ?_, ?_, ?_, S.fg, S.old, S.os, S.tape, S.output, S.size, rfl, by simp, by simp [hp]⟩, ?_⟩
  · intro t g av h; cases h
  · intro h blk hm; obtain ⟨rfl, rfl⟩ := get1 hm; exact hb
  · intro h blk hm; obtain ⟨rfl, rfl⟩ := get1 hm; exact S.nodup 8 _ h8
  · intro h h' blk blk' hm hm' hne; obtain ⟨rfl, rfl⟩ := get1 hm; obtain ⟨rfl, rfl⟩ := get1 hm'; exact absurd rfl hne
  · intro h blk hm x hx; obtain ⟨rfl, rfl⟩ := get1 hm; exact S.free 8 _ h8 x hx
  · exact own_rel (h := 8) (fps := fp) rfl hb (S.nodup 8 _ h8) (fun h' blk' hm hne => by obtain ⟨rfl, rfl⟩ := get1 hm; exact absurd rfl hne) (S.free 8 _ h8)

def insAtF (l : List FileD) (i : Nat) (f : FileD) : List FileD := l.take i ++ (f :: l.drop i)
theorem eInsF (l : List FileD) (i : Nat) (f : FileD) : (eFiles l).take i ++ (eFiles [f] ++ (eFiles l).drop i) = eFiles (insAtF l i f) := by simp [eFiles, insAtF, List.map_take, List.map_drop]
theorem two_cells {w : World} {b : Nat} {cs : Array Value} {ty : Nat} {n : Nat} (h : w.heap[b]? = some (.cells cs ty (0, 0))) : ∀ (j : Nat) v, (cs.toList.take n)[j]? = some v → w.cell? ⟨b, j, none⟩ = some v := by
  intro j v hj
  rw [World.cell_of h]
  rw [List.getElem?_take] at hj
  split at hj
  · simpa using hj
  · cases hj

theorem ins_cells {L olds news R : List Value} {i n : Nat} (hLl : (n + 1) * 2 ≤ L.length) (ho : olds.length = n * 2) (hn : news.length = 2) (hi : i ≤ n) (hL : L.take (i * 2) = olds.take (i * 2)) :
    (((L.take ((i + 1) * 2) ++ (olds.drop (i * 2) ++ R)).take (i * 2)) ++ (news ++ ((L.take ((i + 1) * 2) ++ (olds.drop (i * 2) ++ R)).drop (i * 2 + news.length)))).take ((n + 1) * 2) = olds.take (i * 2) ++ (news ++ olds.drop (i * 2)) := by
  have hl : (L.take ((i + 1) * 2)).length = (i + 1) * 2 := by rw [List.length_take]; omega
  have a1 : (L.take ((i + 1) * 2) ++ (olds.drop (i * 2) ++ R)).take (i * 2) = olds.take (i * 2) := by rw [List.take_append_of_le_length (by omega), List.take_take, Nat.min_eq_left (by omega), hL]
  have a2 : (L.take ((i + 1) * 2) ++ (olds.drop (i * 2) ++ R)).drop (i * 2 + news.length) = olds.drop (i * 2) ++ R := List.drop_left' (by omega)
  rw [a1, a2]
  rw [show olds.take (i * 2) ++ (news ++ (olds.drop (i * 2) ++ R)) = (olds.take (i * 2) ++ (news ++ olds.drop (i * 2))) ++ R by simp]
  exact List.take_left' (by simp only [List.length_append, List.length_take, List.length_drop]; omega)
theorem ins_cells2 {L olds news R : List Value} {i n m : Nat} (hLl : (n + 1) * 2 ≤ L.length) (ho : olds.length = n * 2) (hn : news.length = 2) (hi : i ≤ n) (hL : L.take (i * 2) = olds.take (i * 2)) :
    (((L.take (i * 2) ++ (news ++ L.drop m)).take ((i + 1) * 2)) ++ (olds.drop (i * 2) ++ R)).take ((n + 1) * 2) = olds.take (i * 2) ++ (news ++ olds.drop (i * 2)) := by
  have hl : (L.take (i * 2)).length = i * 2 := by rw [List.length_take]; omega
  have a1 : (L.take (i * 2) ++ (news ++ L.drop m)).take ((i + 1) * 2) = olds.take (i * 2) ++ news := by
    rw [← List.append_assoc, hL]
    rw [hL] at hl
    exact List.take_left' (by rw [List.length_append]; omega)
  rw [a1]
  rw [show (olds.take (i * 2) ++ news) ++ (olds.drop (i * 2) ++ R) = (olds.take (i * 2) ++ (news ++ olds.drop (i * 2))) ++ R by simp]
  exact List.take_left' (by simp only [List.length_append, List.length_take, List.length_drop]; omega)


end Vx
end Go.Proofs.YtnanellmaelipaaGreatDoor
/-
  The contract of slices.Insert at heads (printed by mkins.py out of that at files).
-/
namespace Go.Proofs.YtnanellmaelipaaGreatDoor
namespace Vx
open Go.RowKit Go.Lib

set_option maxHeartbeats 4000000 in
set_option maxRecDepth 100000 in
/-- There is room, i < len(s): in place. -/
theorem insH_shift (b n c i vb m vc : Nat) (cs vs : List Value) (w : World) (hi : i < n) (hm : 0 < m) (hroom : n + m ≤ c) (hc63 : c ≤ 9223372036854775807) (hvb : vb ≠ b)
    (hcl : cs.length = n * 2) (hvl : vs.length = m * 2)
    (hcs : ∀ (j : Nat) v, cs[j]? = some v → w.cell? ⟨b, j, none⟩ = some v) (hsp : ∀ j, j < (n + m) * 2 → (w.cell? ⟨b, j, none⟩).isSome = true) (hfz : ∀ j, j < (n + m) * 2 → w.frozen? ⟨b, j, none⟩ = false)
    (hvs : ∀ (j : Nat) v, vs[j]? = some v → w.cell? ⟨vb, j, none⟩ = some v) (h1c : ∀ v ∈ cs, v.oneCell' = true) (h1v : ∀ v ∈ vs, v.oneCell' = true)
    (tA tB : TypeId) (kA kB : Nat) (hsa : w.shape? vb = some (tA, kA)) (hsb : w.shape? b = some (tB, kB)) (hkB : kB ≠ 0) (hfa : w.frozen? ⟨vb, 0, none⟩ = false) (hfe : w.frozen? ⟨vb, kA, none⟩ = false) :
    Calls Tryz.prog 156 #[.slice (some ⟨b, 0, none⟩) n c, .int .i64 i, .slice (some ⟨vb, 0, none⟩) m vc] w fun e w' =>
      e = .returned (.slice (some ⟨b, 0, none⟩) (n + m) c) ∧ w' = (w.drew.setCells b ((i + m) * 2) (cs.drop (i * 2))).setCells b (i * 2) vs := by
  have hz1 : ¬ ((m : Int) = 0) := by omega
  have hz2 : ¬ ((i : Int) = (n : Int)) := by omega
  have hsz : (Tryz.prog.info? 34).map (·.size) = some 2 := by kernel_rfl
  have hov : ∀ lb cb, (callFunc 199 #[.slice (some ⟨vb, 0, none⟩) m vc, .slice (some ⟨b, (i + m) * 2, none⟩) lb cb]).run Tryz.prog w = .ok (.value (.bool false)) w := fun lb cb => by
    rw [run_callFunc_extern Tryz.func199 (by kernel_rfl) (by kernel_rfl) (by kernel_rfl) (e := Extern.SlicesOverlaps.overlaps #[24, 24] #[4]) (by kernel_rfl),
      Lib.run_overlaps_apart w 24 4 34 Tryz.underlying24 2 Tryz.sizeOf34 ⟨vb, 0, none⟩ ⟨b, (i + m) * 2, none⟩ m vc lb cb hvb tA tB kA kB hsa hsb hkB hfa hfe]
    rfl
  have hdl : (cs.drop (i * 2)).length = (n - i) * 2 := by rw [List.length_drop, hcl]; omega
  have mixed : Tryz.prog.follows .mixedOrders = true := mixed
  have hw1 : IntKind.i64.wrap ((i : Int) + (m : Int)) = (i : Int) + (m : Int) := by rw [IntKind.wrap_i64]; omega
  have hb1 : (0 : Int) ≤ (i : Int) + (m : Int) := by omega
  have hin : i ≤ n := by omega
  have htn : ((i : Int) + (m : Int)).toNat = i + m := by omega
  have hb2 : ¬ (c = i + m) := by omega
  have hb3 : (i : Int) ≤ (n : Int) + (m : Int) := by omega
  have hb4 : ¬ (c = i) := by omega
  have hcp1 : ∀ ty dc sc, (Builtin.copy_ #[24, 24] ty #[.slice (some ⟨b, (i + m) * 2, none⟩) (n + m - (i + m)) dc, .slice (some ⟨b, i * 2, none⟩) (n + m - i) sc]).run Tryz.prog w.drew = .ok (goInt (Nat.min (n + m - i) (n + m - (i + m)))) (w.drew.setCells b ((i + m) * 2) (cs.drop (i * 2))) := fun ty dc sc =>
    run_copy_cells_k 2 w.drew _ _ ty 34 b ((i + m) * 2) (n + m - (i + m)) dc ⟨b, i * 2, none⟩ (n + m - i) sc (cs.drop (i * 2)) Tryz.underlying24 hsz (by rw [hdl]; simp only [Nat.min_def]; split <;> omega)
      (fun j v hj => by rw [Addr.add_lit]; exact hcs (i * 2 + j) v (by rwa [List.getElem?_drop] at hj))
      (fun j hj => hsp _ (by omega)) (fun j hj => hfz _ (by omega)) (fun v hv => h1c v (List.mem_of_mem_drop hv))
  obtain ⟨W1, hW1⟩ : ∃ W1, W1 = w.drew.setCells b ((i + m) * 2) (cs.drop (i * 2)) := ⟨_, rfl⟩
  have hsp1 : ∀ k, k < (n + m) * 2 → (W1.cell? ⟨b, k, none⟩).isSome = true := fun k hk => by
    rw [hW1]
    exact isSome_setCells' b (cs.drop (i * 2)) ((i + m) * 2) w.drew (fun j hj => hsp _ (by omega)) _ (hsp k hk)
  have hcp2 : ∀ (W : World), (∀ x, W.cell? x = W1.cell? x) → (∀ x, W.frozen? x = W1.frozen? x) → ∀ ty dc, (Builtin.copy_ #[24, 24] ty #[.slice (some ⟨b, i * 2, none⟩) (n + m - i) dc, .slice (some ⟨vb, 0, none⟩) m vc]).run Tryz.prog W = .ok (goInt (Nat.min m (n + m - i))) (W.setCells b (i * 2) vs) := fun W hWc hWf ty dc =>
    run_copy_cells_k 2 W _ _ ty 34 b (i * 2) (n + m - i) dc ⟨vb, 0, none⟩ m vc vs Tryz.underlying24 hsz (by rw [hvl]; simp only [Nat.min_def]; split <;> omega)
      (fun j v hj => by
        rw [Addr.add_lit, Nat.zero_add, hWc, hW1, World.cell?_setCells_out b _ _ _ _ (fun h _ => absurd h hvb)]
        exact hvs j v hj)
      (fun j hj => by rw [hWc]; exact hsp1 _ (by omega)) (fun j hj => by rw [hWf, hW1, World.frozen?_setCells]; exact hfz _ (by omega)) h1v
  rw [← hW1] at hcp1
  go_enter Tryz.func156, Tryz.ntmps156
  go_wp2_with (simp only [hov])
  go_region_law_o (refine step_copy_runI rfl _ _ 24 24 rfl _ _ (by simp [Act.eval, Act.put]) (by simp [Act.eval, Act.put]) (hcp1 _ _ _) ?_)
  go_wp2_with (at_builtin; refine wpList_copy_runI _ rfl _ _ 24 24 rfl _ _ rfl rfl (hcp2 _ (fun _ => rfl) (fun _ => rfl) _ _) ?_)
  go_ret
  first | exact ⟨rfl, rfl⟩ | exact ⟨rfl, by rw [hW1]⟩

set_option maxHeartbeats 4000000 in
set_option maxRecDepth 100000 in
/-- At the end: append. -/
theorem insH_end (v1 v2 : Value) (base : Option Addr) (n c vb m vc : Nat) (w w' : World) (v' : Value) (hm : 0 < m) (h1 : v1 = .slice base n c) (hn : n ≤ c) (hb : base = none → c = 0) (h2 : v2 = .slice (some ⟨vb, 0, none⟩) m vc)
    (hrun : (Builtin.append_ #[24, 24] 24 #[v1, v2]).run Tryz.prog w = .ok v' w') :
    Calls Tryz.prog 156 #[v1, .int .i64 n, v2] w fun e w1 => e = .returned v' ∧ w1 = w' := by
  subst h1 h2
  have hz1 : ¬ ((m : Int) = 0) := by omega
  have mixed : Tryz.prog.follows .mixedOrders = true := mixed
  go_enter Tryz.func156, Tryz.ntmps156
  cases base with
  | none =>
    have h0 := hb rfl
    have h00 : n = 0 := by omega
    subst h0 h00
    go_wp2_with (at_builtin; refine Lib.wpList_append_run _ rfl _ _ _ _ rfl _ _ rfl rfl _ _ hrun ?_)
    go_ret
    exact ⟨rfl, rfl⟩
  | some a =>
    obtain ⟨ab, ao, asp⟩ := a
    go_wp2_with (at_builtin; refine Lib.wpList_append_run _ rfl _ _ _ _ rfl _ _ rfl rfl _ _ hrun ?_)
    all_goals (go_ret; exact ⟨rfl, rfl⟩)

set_option maxHeartbeats 4000000 in
set_option maxRecDepth 100000 in
/-- i < len(s), no room: a new row. -/
theorem insH_grow (b n c i vb m vc : Nat) (cs vs : List Value) (w : World) (hi : i < n) (hm : 0 < m) (hnc : n ≤ c) (hroom : c < n + m) (hbig : (n + m) * 24 ≤ 140737488355328)
    (hcl : cs.length = n * 2) (hvl : vs.length = m * 2)
    (hcs : ∀ (j : Nat) v, cs[j]? = some v → w.cell? ⟨b, j, none⟩ = some v)
    (hvs : ∀ (j : Nat) v, vs[j]? = some v → w.cell? ⟨vb, j, none⟩ = some v) (h1c : ∀ v ∈ cs, v.oneCell' = true) (h1v : ∀ v ∈ vs, v.oneCell' = true) :
    Calls Tryz.prog 156 #[.slice (some ⟨b, 0, none⟩) n c, .int .i64 i, .slice (some ⟨vb, 0, none⟩) m vc] w fun e w' =>
      e = .returned (.slice (some ⟨w.heap.size, 0, none⟩) (n + m) (grownCap w (n + m) c 34)) ∧
      w' = (((w.alloc (.cells ((cs.take (i * 2)).toArray ++ Builtin.zeroCells #[.string ⟨#[]⟩, .int .i64 0] (n + m - i) ++ Builtin.zeroCells #[.string ⟨#[]⟩, .int .i64 0] (grownCap w (n + m) c 34 - (n + m))) 34)).drew.setCells w.heap.size (i * 2) vs).drew).setCells w.heap.size ((i + m) * 2) (cs.drop (i * 2)) := by
  have mixed : Tryz.prog.follows .mixedOrders = true := mixed
  obtain ⟨i0, hi0, hz0, hzs, hzb⟩ : ∃ i0, Tryz.prog.info? 34 = some i0 ∧ i0.zero = some (.agg #[.string ⟨#[]⟩, .int .i64 0]) ∧ i0.size = 2 ∧ i0.bytes = 24 :=
    info_parts (show (Tryz.prog.info? 34).map (fun i => (i.zero, i.size, i.bytes)) = some (some (.agg #[.string ⟨#[]⟩, .int .i64 0]), 2, 24) by kernel_rfl)
  have hz1 : ¬ ((m : Int) = 0) := by omega
  have hz2 : ¬ ((i : Int) = (n : Int)) := by omega
  have hz3 : (c : Int) < (n : Int) + (m : Int) := by omega
  have hsz : (Tryz.prog.info? 34).map (·.size) = some 2 := by rw [hi0]; simp [hzs]
  have hbw : b < w.heap.size := block_lt_of_cell (hcs 0 _ (List.getElem?_eq_getElem (by omega)))
  have hvw : vb < w.heap.size := block_lt_of_cell (hvs 0 _ (List.getElem?_eq_getElem (by omega)))
  have hkk : (n : Int) + (m : Int) - (i : Int) = ((n + m - i : Nat) : Int) := by omega
  have hik : i + (n + m - i) = n + m := by omega
  have hold : (Builtin.firstCells i0.size i (.slice (some ⟨b, 0, none⟩) i c)).run Tryz.prog w.drew = .ok (cs.take (i * 2)).toArray w.drew := by
    rw [hzs]
    exact run_firstCells_some w.drew 2 i ⟨b, 0, none⟩ i c (cs.take (i * 2)) (by rw [List.length_take]; omega) (fun j v hj => by
      rw [Addr.add_lit]
      rw [List.getElem?_take] at hj
      split at hj
      · rw [Nat.zero_add]; exact hcs j v hj
      · cases hj)
  have hrz : ∀ ty, (Builtin.append_ #[24, 3] ty #[.slice (some ⟨b, 0, none⟩) i c, .int .i64 ((n : Int) + (m : Int) - (i : Int))]).run Tryz.prog w =
      .ok (.slice (some ⟨w.heap.size, 0, none⟩) (n + m) (grownCap w (n + m) c 34)) (w.drew.alloc (.cells ((cs.take (i * 2)).toArray ++ Builtin.zeroCells #[.string ⟨#[]⟩, .int .i64 0] (n + m - i) ++ Builtin.zeroCells #[.string ⟨#[]⟩, .int .i64 0] (grownCap w (n + m) c 34 - (n + m))) 34)) := fun ty => by
    have h := Lib.run_append_grow_zeros w 24 3 ty 34 i0 _ .i64 .i64 Tryz.underlying24 Tryz.underlying3 hi0 hz0 (some ⟨b, 0, none⟩) i c (cs.take (i * 2)) hold (n + m - i) (by omega) (by omega) (by omega) (by omega) (by rw [hzb]; omega) (by rw [hzb, hik]; exact growslice_fits hroom hbig)
    rw [hik] at h
    rw [hkk]
    exact h
  obtain ⟨G, hG⟩ : ∃ G, G = grownCap w (n + m) c 34 := ⟨_, rfl⟩
  obtain ⟨ROW, hROW⟩ : ∃ ROW : Array Value, ROW = (cs.take (i * 2)).toArray ++ Builtin.zeroCells #[.string ⟨#[]⟩, .int .i64 0] (n + m - i) ++ Builtin.zeroCells #[.string ⟨#[]⟩, .int .i64 0] (G - (n + m)) := ⟨_, rfl⟩
  rw [← hG] at hrz ⊢
  rw [← hROW] at hrz ⊢
  have hRl : (n + m) * 2 ≤ ROW.size := by
    rw [hROW]
    simp [Builtin.zeroCells]
    omega
  obtain ⟨W1, hW1⟩ : ∃ W1, W1 = w.drew.alloc (.cells ROW 34) := ⟨_, rfl⟩
  rw [← hW1] at hrz
  have hN : ∀ j, j < (n + m) * 2 → (W1.cell? ⟨w.heap.size, j, none⟩).isSome = true := fun j hj => by
    rw [hW1, World.cell?_alloc_at (w := w.drew) ROW _ w.heap.size j rfl, Array.getElem?_eq_getElem (by omega)]; rfl
  have hNf : ∀ j, W1.frozen? ⟨w.heap.size, j, none⟩ = false := fun j => by rw [hW1]; exact World.frozen?_alloc_at (w := w.drew) ROW _ w.heap.size j rfl
  have hOb : ∀ j v, w.cell? ⟨b, j, none⟩ = some v → W1.cell? ⟨b, j, none⟩ = some v := fun j v h => by rw [hW1, World.cell?_alloc_past (w := w.drew) _ b j hbw]; exact h
  have hOv : ∀ j v, w.cell? ⟨vb, j, none⟩ = some v → W1.cell? ⟨vb, j, none⟩ = some v := fun j v h => by rw [hW1, World.cell?_alloc_past (w := w.drew) _ vb j hvw]; exact h
  have hcpA : ∀ (W : World), (∀ x, W.cell? x = W1.cell? x) → (∀ x, W.frozen? x = W1.frozen? x) → ∀ ty dc, (Builtin.copy_ #[24, 24] ty #[.slice (some ⟨w.heap.size, i * 2, none⟩) (n + m - i) dc, .slice (some ⟨vb, 0, none⟩) m vc]).run Tryz.prog W = .ok (goInt (Nat.min m (n + m - i))) (W.setCells w.heap.size (i * 2) vs) := fun W hWc hWf ty dc =>
    run_copy_cells_k 2 W _ _ ty 34 w.heap.size (i * 2) (n + m - i) dc ⟨vb, 0, none⟩ m vc vs Tryz.underlying24 hsz (by rw [hvl]; simp only [Nat.min_def]; split <;> omega)
      (fun j v hj => by rw [Addr.add_lit, Nat.zero_add, hWc]; exact hOv _ v (hvs j v hj))
      (fun j hj => by rw [hWc]; exact hN _ (by omega)) (fun j hj => by rw [hWf]; exact hNf _) h1v
  have hGn : n + m ≤ G := by rw [hG]; exact grownCap_ge w _ _ _
  have hG63 : G ≤ 9223372036854775807 := by
    have := grownCap_le_maxLen w (n + m) c 34 (by unfold maxLen; omega)
    rw [← hG] at this
    unfold maxLen at this
    omega
  have hGi : ¬ (G = i) := by omega
  have hGim : ¬ (G = i + m) := by omega
  have hci : ¬ (c = i) := by omega
  have hbN : b ≠ w.heap.size := by omega
  have hdl : (cs.drop (i * 2)).length = (n - i) * 2 := by rw [List.length_drop, hcl]; omega
  have hcpB : ∀ (W : World), (∀ x, W.cell? x = (W1.setCells w.heap.size (i * 2) vs).cell? x) → (∀ x, W.frozen? x = (W1.setCells w.heap.size (i * 2) vs).frozen? x) → ∀ ty dc sc, (Builtin.copy_ #[24, 24] ty #[.slice (some ⟨w.heap.size, (i + m) * 2, none⟩) (n + m - (i + m)) dc, .slice (some ⟨b, i * 2, none⟩) (n - i) sc]).run Tryz.prog W = .ok (goInt (Nat.min (n - i) (n + m - (i + m)))) (W.setCells w.heap.size ((i + m) * 2) (cs.drop (i * 2))) := fun W hWc hWf ty dc sc =>
    run_copy_cells_k 2 W _ _ ty 34 w.heap.size ((i + m) * 2) (n + m - (i + m)) dc ⟨b, i * 2, none⟩ (n - i) sc (cs.drop (i * 2)) Tryz.underlying24 hsz (by rw [hdl]; simp only [Nat.min_def]; split <;> omega)
      (fun j v hj => by
        rw [Addr.add_lit, hWc, World.cell?_setCells_out _ _ _ _ _ (fun h _ => absurd h hbN)]
        exact hOb _ v (hcs (i * 2 + j) v (by rwa [List.getElem?_drop] at hj)))
      (fun j hj => by rw [hWc]; exact isSome_setCells' w.heap.size vs (i * 2) W1 (fun t ht => hN _ (by omega)) _ (hN _ (by omega)))
      (fun j hj => by rw [hWf, World.frozen?_setCells]; exact hNf _) (fun v hv => h1c v (List.mem_of_mem_drop hv))
  subst hW1
  have hE1 : ∀ x, ((w.alloc (.cells ROW 34)).drew).cell? x = (w.drew.alloc (.cells ROW 34)).cell? x := fun x => rfl
  have hE2 : ∀ x, ((w.alloc (.cells ROW 34)).drew).frozen? x = (w.drew.alloc (.cells ROW 34)).frozen? x := fun x => rfl
  have hF1 : ∀ x, (((w.alloc (.cells ROW 34)).drew.setCells w.heap.size (i * 2) vs).drew).cell? x = ((w.drew.alloc (.cells ROW 34)).setCells w.heap.size (i * 2) vs).cell? x := fun x => rfl
  have hF2 : ∀ x, (((w.alloc (.cells ROW 34)).drew.setCells w.heap.size (i * 2) vs).drew).frozen? x = ((w.drew.alloc (.cells ROW 34)).setCells w.heap.size (i * 2) vs).frozen? x := fun x => rfl
  have hw1 : IntKind.i64.wrap ((i : Int) + (m : Int)) = (i : Int) + (m : Int) := by rw [IntKind.wrap_i64]; omega
  have hb1 : (0 : Int) ≤ (i : Int) + (m : Int) := by omega
  have hin : i ≤ n := by omega
  have htn : ((i : Int) + (m : Int)).toNat = i + m := by omega
  have hb3 : (i : Int) ≤ (n : Int) := by omega
  clear hkk hik hold hROW hG hRl
  go_enter Tryz.func156, Tryz.ntmps156
  go_wp2_with (first
    | (at_builtin; refine Lib.wpList_append_run _ rfl _ _ _ _ rfl _ _ rfl rfl _ _ (hrz _) ?_)
    | (at_builtin; refine wpList_copy_runI _ rfl _ _ 24 24 rfl _ _ rfl rfl (hcpA _ hE1 hE2 _ _) ?_)
    | (at_builtin; refine wpList_copy_runI _ rfl _ _ 24 24 rfl _ _ rfl rfl (hcpB _ (fun _ => rfl) (fun _ => rfl) _ _ _) ?_))
  go_region_law_o (refine step_copy_runI rfl _ _ 24 24 rfl (.slice (some ⟨w.heap.size, (i + m) * 2, none⟩) (n + m - (i + m)) (G - (i + m))) (.slice (some ⟨b, i * 2, none⟩) (n - i) (c - i)) (by simp [Act.eval, Act.put]) (by simp [Act.eval, Act.put]) (hcpB _ hF1 hF2 3 (G - (i + m)) (c - i)) ?_)
  go_wp2
  go_ret
  exact ⟨rfl, rfl⟩

def insAtH (l : List HeadD) (i : Nat) (f : HeadD) : List HeadD := l.take i ++ (f :: l.drop i)
theorem eInsH (l : List HeadD) (i : Nat) (f : HeadD) : (eHeads l).take i ++ (eHeads [f] ++ (eHeads l).drop i) = eHeads (insAtH l i f) := by simp [eHeads, insAtH, List.map_take, List.map_drop]
end Vx
end Go.Proofs.YtnanellmaelipaaGreatDoor
/-
  Contracts: MarkPut, both sides.
-/
namespace Go.Proofs.YtnanellmaelipaaGreatDoor
namespace Vx
open Go.RowKit
set_option maxRecDepth 8000

theorem eHeads_one (b : HeadD) (p : Str) (x : Int) : (eHeads [b] = [[D.str p, D.int .i64 x]]) = (b = ⟨p, x⟩) := by
  obtain ⟨q, y⟩ := b
  simp -implicitDefEqProofs [eHeads, eHead]
theorem eHeads_one' (b : HeadD) (p : Str) (x : Int) : ([[D.str p, D.int .i64 x]] = eHeads [b]) = (b = ⟨p, x⟩) := by
  rw [← eHeads_one]; exact propext ⟨Eq.symm, Eq.symm⟩
def gtB (a b : Str) : Bool := !Go.Op.bytesLess a b && !decide (a = b)
def insKat (t : List HeadD) (p : Str) : Nat → Nat
  | 0 => 0
  | k + 1 => if gtB (t.getD k default).name p then insKat t p k else k + 1
theorem heads_flat (t : List HeadD) : ∀ x : List D, x ∈ eHeads t → ∀ d : D, d ∈ x → match d with | D.sl _ _ _ => False | _ => True := by
  intro x hx d hd
  simp only [eHeads, List.mem_map] at hx
  obtain ⟨h, _, rfl⟩ := hx
  simp only [eHead, List.mem_cons, List.not_mem_nil, or_false] at hd
  rcases hd with rfl | rfl <;> trivial
def insHd (t : List HeadD) (f : HeadD) : List HeadD := insAtH t (insKat t f.name t.length) f
theorem insKat_le (t : List HeadD) (p : Str) : ∀ k, insKat t p k ≤ k := by
  intro k
  induction k with
  | zero => exact Nat.le_refl _
  | succ k ih => unfold insKat; split <;> omega
theorem insHd_len (t : List HeadD) (f : HeadD) : (insHd t f).length = t.length + 1 := by
  have := insKat_le t f.name t.length
  unfold insHd
  simp -implicitDefEqProofs [insAtH]; omega

def markStep (f : HeadD) (s : List HeadD × Bool) (h : HeadD) : List HeadD × Bool := if !s.2 && gtB h.name f.name then (s.1 ++ [f, h], true) else (s.1 ++ [h], s.2)
def markF (m : List HeadD) (f : HeadD) (i : Nat) : List HeadD × Bool := (m.take i).foldl (markStep f) ([], false)
theorem markF_len (m : List HeadD) (f : HeadD) : ∀ i, i ≤ m.length → (markF m f i).1.length ≤ 2 * i := by
  intro i
  induction i with
  | zero => intro _; simp -implicitDefEqProofs [markF]
  | succ i ih =>
    intro h
    have s1 : markF m f (i + 1) = markStep f (markF m f i) m[i] := by
      unfold markF; rw [List.take_succ_eq_append_getElem (by omega), List.foldl_append]; rfl
    have := ih (by omega)
    rw [s1]; unfold markStep
    split <;> simp <;> omega
def markOut (m : List HeadD) (f : HeadD) : List HeadD := if (markF m f m.length).2 then (markF m f m.length).1 else (markF m f m.length).1 ++ [f]
def markPutS (a : RepoD × List HeadD × HeadD) : List HeadD × Bool := if marksI (a.1, a.2.1) then (if a.2.1.any (fun h => decide (h.name = a.2.2.name)) then (a.2.1, false) else if headsB a.1.commits.length (markOut a.2.1 a.2.2) then (markOut a.2.1 a.2.2, true) else (a.2.1, false)) else ([], false)
def markPutI (a : RepoD × List HeadD × HeadD) : List HeadD × Bool := if marksI (a.1, a.2.1) then (if headsB a.1.commits.length (insHd a.2.1 a.2.2) then (insHd a.2.1 a.2.2, true) else (a.2.1, false)) else ([], false)

end Vx
end Go.Proofs.YtnanellmaelipaaGreatDoor
/-
  Plain law: all paths of trees, in order, each once; heads put in their place.
-/
namespace Go.Proofs.YtnanellmaelipaaGreatDoor
namespace Vx
open Go.RowKit
set_option maxRecDepth 8000

/-- In order, each once. -/
def srt (l : List Str) : Prop := l.Pairwise fun a b => a < b
theorem putS_mem (l : List Str) (s x : Str) : x ∈ putS l s ↔ x = s ∨ x ∈ l := by
  induction l with
  | nil => simp -implicitDefEqProofs [putS]
  | cons y l ih =>
    unfold putS
    split
    · simp only [List.mem_cons, ih]
      constructor
      · rintro (h | h | h) <;> simp -implicitDefEqProofs [h]
      · rintro (h | h | h) <;> simp -implicitDefEqProofs [h]
    · split
      · rename_i h
        subst h
        simp only [List.mem_cons]
        constructor
        · intro h; exact .inr h
        · rintro (h | h)
          · exact .inl h
          · exact h
      · simp only [List.mem_cons]
theorem putS_srt {l : List Str} (h : srt l) (s : Str) : srt (putS l s) := by
  induction l with
  | nil => simp -implicitDefEqProofs [putS, srt]
  | cons y l ih =>
    obtain ⟨h1, h2⟩ := List.pairwise_cons.1 h
    unfold putS
    rw [less_eq]
    split
    · rename_i hl
      have hl : y < s := by simpa using hl
      refine List.pairwise_cons.2 ⟨fun z hz => ?_, ih h2⟩
      rcases (putS_mem l s z).1 hz with rfl | hz
      · exact hl
      · exact h1 z hz
    · rename_i hl
      have hl : ¬ y < s := by simpa using hl
      split
      · exact h
      · rename_i hn
        have hs := str_total y s hl hn
        refine List.pairwise_cons.2 ⟨fun z hz => ?_, h⟩
        rcases List.mem_cons.1 hz with rfl | hz
        · exact hs
        · exact str_trans hs (h1 z hz)
theorem putFs_srt (t : List FileD) : ∀ {l : List Str}, srt l → srt (putFs l t) ∧ ∀ x, x ∈ putFs l t ↔ x ∈ l ∨ x ∈ t.map (·.path) := by
  induction t with
  | nil => intro l h; exact ⟨h, fun x => by simp -implicitDefEqProofs [putFs]⟩
  | cons f t ih =>
    intro l h
    obtain ⟨h1, h2⟩ := ih (putS_srt h f.path)
    refine ⟨h1, fun x => ?_⟩
    show x ∈ putFs (putS l f.path) t ↔ _
    rw [h2, putS_mem, List.map_cons, List.mem_cons]
    constructor
    · rintro ((h | h) | h) <;> simp -implicitDefEqProofs [h]
    · rintro (h | h | h) <;> simp -implicitDefEqProofs [h]
theorem paths6_srt (o a b : List FileD) : srt (paths6 o a b) ∧ ∀ x, x ∈ paths6 o a b ↔ x ∈ (o ++ a ++ b).map (·.path) := by
  obtain ⟨h1, h2⟩ := putFs_srt o (l := []) .nil
  obtain ⟨h3, h4⟩ := putFs_srt a h1
  obtain ⟨h5, h6⟩ := putFs_srt b h3
  refine ⟨h5, fun x => ?_⟩
  show x ∈ putFs (putFs (putFs [] o) a) b ↔ _
  rw [h6, h4, h2]
  simp -implicitDefEqProofs [or_assoc]
theorem srt_eq : ∀ {l m : List Str}, srt l → srt m → (∀ x, x ∈ l ↔ x ∈ m) → l = m
  | [], [], _, _, _ => rfl
  | [], y :: m, _, _, h => absurd ((h y).2 (by simp)) (by simp)
  | x :: l, [], _, _, h => absurd ((h x).1 (by simp)) (by simp)
  | x :: l, y :: m, hl, hm, h => by
    obtain ⟨l1, l2⟩ := List.pairwise_cons.1 hl
    obtain ⟨m1, m2⟩ := List.pairwise_cons.1 hm
    have e : x = y := by
      rcases List.mem_cons.1 ((h x).1 (by simp)) with e | hx
      · exact e
      · rcases List.mem_cons.1 ((h y).2 (by simp)) with e | hy
        · exact e.symm
        · exact absurd (l1 y hy) (str_asymm (m1 x hx))
    subst e
    congr 1
    refine srt_eq l2 m2 fun z => ?_
    have hz := h z
    simp only [List.mem_cons] at hz
    constructor
    · intro q
      rcases hz.1 (.inr q) with rfl | q2
      · exact absurd (l1 z q) (str_irrefl z)
      · exact q2
    · intro q
      rcases hz.2 (.inr q) with rfl | q2
      · exact absurd (m1 z q) (str_irrefl z)
      · exact q2

/-- A head put in its place. -/
theorem insHd_pre (l : List HeadD) (f : HeadD) (hp : l.Pairwise fun a b => Go.Op.bytesLess a.name b.name = true) : ∀ k, k ≤ l.length → (∀ i, insKat l f.name k ≤ i → i < k → gtB (l.getD i default).name f.name = true) ∧ (0 < insKat l f.name k → gtB (l.getD (insKat l f.name k - 1) default).name f.name = false) := by
  intro k
  induction k with
  | zero => intro _; exact ⟨fun i h1 h2 => by omega, fun h => by simp -implicitDefEqProofs [insKat] at h⟩
  | succ k ih =>
    intro hk
    unfold insKat
    split
    · rename_i h
      obtain ⟨h1, h2⟩ := ih (by omega)
      refine ⟨fun i h3 h4 => ?_, h2⟩
      rcases Nat.lt_or_ge i k with h5 | h5
      · exact h1 i h3 h5
      · have : i = k := by omega
        subst this; exact h
    · rename_i h
      exact ⟨fun i h3 h4 => by omega, fun _ => by simpa using h⟩
theorem hL_ins (n : Str) (a : Int) : ∀ (l X : List HeadD) (k : Nat), k ≤ l.length → (∀ i, i < k → Go.Op.bytesLess (l.getD i default).name n = true) → (∀ i, k ≤ i → i < l.length → Go.Op.bytesLess (l.getD i default).name n = false ∧ ¬ (l.getD i default).name = n) →
    l.foldl (hStep n a) (X, false) = if k < l.length then (X ++ l.take k ++ [⟨n, a⟩] ++ l.drop k, true) else (X ++ l, false)
  | [], X, k, hk, _, _ => by simp
  | g :: l, X, 0, _, _, h2 => by
    have hg := h2 0 (by omega) (by simp)
    have hg1 : Go.Op.bytesLess g.name n = false ∧ ¬ g.name = n := by simpa using hg
    have e : hStep n a (X, false) g = (X ++ [⟨n, a⟩] ++ [g], true) := by unfold hStep; simp -implicitDefEqProofs [hg1]
    have e2 : l.filter (fun g => decide (g.name ≠ n)) = l := by
      rw [List.filter_eq_self]
      intro z hz
      obtain ⟨i, hi, rfl⟩ := List.getElem_of_mem hz
      have := h2 (i + 1) (by omega) (by simp; omega)
      simp -implicitDefEqProofs [List.getD_eq_getElem?_getD, hi] at this
      simp -implicitDefEqProofs [this.2]
    rw [List.foldl_cons, e, hL_true, e2]; simp
  | g :: l, X, k + 1, hk, h1, h2 => by
    have hg := h1 0 (by omega)
    have hg : Go.Op.bytesLess g.name n = true := by simpa using hg
    have hn : ¬ g.name = n := fun e => by rw [e, less_irrefl] at hg; cases hg
    have e : hStep n a (X, false) g = (X ++ [g], false) := by unfold hStep; simp -implicitDefEqProofs [hg, hn]
    rw [List.foldl_cons, e, hL_ins n a l (X ++ [g]) k (by simpa using hk) (fun i hi => by have := h1 (i + 1) (by omega); simpa using this) (fun i h3 h4 => by have := h2 (i + 1) (by omega) (by simp; omega); simpa using this)]
    by_cases hc : k < l.length
    · simp -implicitDefEqProofs [hc]
    · simp -implicitDefEqProofs [hc]
theorem hSet_ins {l : List HeadD} {n : Str} {a : Int} (hl : ∀ i, 0 < i → i < l.length → Go.Op.bytesLess (l.getD (i - 1) default).name (l.getD i default).name = true) (hn : ∀ h ∈ l, ¬ h.name = n) :
    hSet l n a = insHd l ⟨n, a⟩ := by
  have hp := heads_pw hl
  obtain ⟨h1, h2⟩ := insHd_pre l ⟨n, a⟩ hp l.length (Nat.le_refl _)
  have hk := insKat_le l n l.length
  unfold insHd
  generalize hkk : insKat l (⟨n, a⟩ : HeadD).name l.length = k at h1 h2 ⊢
  have hk : k ≤ l.length := by rw [← hkk]; exact hk
  have hne : ∀ i (hi : i < l.length), ¬ (l.getD i default).name = n := fun i hi => by
    have := hn l[i] (List.getElem_mem hi)
    simpa [List.getD_eq_getElem?_getD, hi] using this
  have hlt : ∀ i j, (hij : i < j) → (hj : j < l.length) → Go.Op.bytesLess (l.getD i default).name (l.getD j default).name = true := fun i j hij hj => by
    have := List.pairwise_iff_getElem.1 hp i j (by omega) hj hij
    simpa [List.getD_eq_getElem?_getD, hj, (show i < l.length by omega)] using this
  have b1 : ∀ i, i < k → Go.Op.bytesLess (l.getD i default).name n = true := fun i hi => by
    have q := h2 (by omega)
    have q : Go.Op.bytesLess (l.getD (k - 1) default).name n = true := by
      unfold gtB at q
      simp only [Bool.and_eq_false_iff, Bool.not_eq_false', decide_eq_true_eq] at q
      rcases q with q | q
      · exact q
      · exact absurd q (hne (k - 1) (by omega))
    rcases Nat.lt_or_ge i (k - 1) with h3 | h3
    · exact less_trans (hlt i (k - 1) h3 (by omega)) q
    · have : i = k - 1 := by omega
      rw [this]; exact q
  have b2 : ∀ i, k ≤ i → i < l.length → Go.Op.bytesLess (l.getD i default).name n = false ∧ ¬ (l.getD i default).name = n := fun i h3 h4 => by
    have q := h1 i h3 h4
    unfold gtB at q
    simp only [Bool.and_eq_true, Bool.not_eq_true', decide_eq_false_iff_not] at q
    exact q
  unfold hSet hL
  rw [hL_ins n a l [] k hk b1 b2]
  by_cases hc : k < l.length
  · simp -implicitDefEqProofs [hc, insAtH]
  · have : k = l.length := by omega
    subst this
    simp -implicitDefEqProofs [insAtH]

end Vx
end Go.Proofs.YtnanellmaelipaaGreatDoor
/-
  The library's contracts laid at this program (slices.Sort, slices.Compact at strings): par.py has the kit's lay-plain write the plain text.
-/
namespace Go.Proofs
open Go.Shelf
shelf_try shelf_lay Lays.n190 Nm 190 at Tryz as Tryz.laysSort
shelf_try shelf_lay Lays.n194 Nm 194 at Tryz as Tryz.laysCompact
shelf_tried
end Go.Proofs
/-
  slices.Sort and slices.Compact at strings, off the library's shelf.
-/
namespace Go.Proofs.YtnanellmaelipaaGreatDoor
namespace Vx
open Go.RowKit Go.Sort

theorem own_at {j : Nat} {v : Value} {c : Cx} {s : St} {a : Act} {w w' : World} {β : Nat → Value} {fp : Nat → List (Nat × Nat)} (S : SatI c s a w β fp) {e k : Nat} {R : List (List D)} {f : List (Nat × Nat)}
    (hpin : ∀ p ∈ c.pins, v = p.2 ∧ p.1 = j) (hb : BlkOk w' (get? [(j, Blk.own e k true R)]) (fun _ => v) c j f (.own e k true R)) (hnd : (Ob (fun _ => v) j f (.own e k true R)).Nodup) (hfree : ∀ x ∈ Ob (fun _ => v) j f (.own e k true R), ¬ c.G x)
    (hG : ∀ b, c.G b → w'.heap[b]? = w.heap[b]?) (hsize : w.heap.size ≤ w'.heap.size) (hos : w'.os = w.os) (htape : w'.tape = w.tape) (hout : w'.output = w.output) :
    ∃ β' fp' a', SatI c ⟨fun _ => none, get? [(j, .own e k true R)]⟩ a' w' β' fp' ∧ RelL w' (get? [(j, .own e k true R)]) β' c [.own j k R] [v] := by
  refine ⟨fun _ => v, fun _ => f, ⟨Array.replicate c.n undef, []⟩, ⟨?_, ?_, ?_, ?_, ?_, S.fg, fun b hb => ⟨(S.old b hb).1, (hG b hb).trans (S.old b hb).2⟩, hos.trans S.os, htape.trans S.tape, hout.trans S.output, Nat.le_trans S.size hsize, rfl, by simp, fun p hp => ?_⟩, ?_⟩
  · intro t g av h; cases h
  · intro h blk hm; obtain ⟨rfl, rfl⟩ := get1 hm; exact hb
  · intro h blk hm; obtain ⟨rfl, rfl⟩ := get1 hm; exact hnd
  · intro h h' blk blk' hm hm' hne; obtain ⟨rfl, rfl⟩ := get1 hm; obtain ⟨rfl, rfl⟩ := get1 hm'; exact absurd rfl hne
  · intro h blk hm x hx; obtain ⟨rfl, rfl⟩ := get1 hm; exact hfree x hx
  · obtain ⟨h1, h2⟩ := hpin p hp
    exact ⟨h1, by rw [h2]; simp [get?]⟩
  · exact own_rel (h := j) (fps := fun _ => f) (by simp [get?]) hb hnd (fun h' blk' hm hne => by obtain ⟨rfl, rfl⟩ := get1 hm; exact absurd rfl hne) hfree

theorem rd_strs {q : Bool} {w : World} : ∀ {l : List Str}, (∀ s ∈ l, s.length ≤ maxLen) → RdL q w (eStrs l).flatten (l.map encStr) []
  | [], _ => .nil
  | s :: l, h => .str (h s (by simp)) (rd_strs fun x hx => h x (by simp [hx]))
theorem rd_strs_inv {q : Bool} {w : World} : ∀ {l : List Str} {vs f}, RdL q w (eStrs l).flatten vs f → vs = l.map encStr ∧ f = [] ∧ ∀ s ∈ l, s.length ≤ maxLen
  | [], vs, f, h => by cases h; exact ⟨rfl, rfl, by simp⟩
  | s :: l, vs, f, h => by
    cases h with
    | str h1 h2 =>
      obtain ⟨rfl, rfl, h3⟩ := rd_strs_inv (l := l) h2
      exact ⟨rfl, rfl, by simpa using ⟨h1, h3⟩⟩

/-- The world behind: a block's first cells hold other strings. -/
theorem put_at {w : World} {n b : Nat} {d : List Str} {os : Array Obj} {cs : Array Value} {e : Nat} {fr : Nat × Nat} (hb : w.heap[b]? = some (.cells cs e fr)) :
    (grow (putRow encStr (Sort.ahead w n) b 0 d.toArray) os).heap[b]? = some (.cells (putCells encStr 0 d.toArray cs) e fr) ∧
    (∀ x, x < w.heap.size → x ≠ b → (grow (putRow encStr (Sort.ahead w n) b 0 d.toArray) os).heap[x]? = w.heap[x]?) ∧ w.heap.size ≤ (grow (putRow encStr (Sort.ahead w n) b 0 d.toArray) os).heap.size ∧
    (putCells encStr 0 d.toArray cs).size = cs.size ∧ ∀ k, k ≤ d.length → k ≤ cs.size → (putCells encStr 0 d.toArray cs).toList.take k = (d.take k).map encStr := by
  have hlt : b < w.heap.size := (Array.getElem?_eq_some_iff.1 hb).1
  refine ⟨?_, fun x hx hne => ?_, ?_, by simp [putCells], fun k hk hk2 => ?_⟩
  · simp only [grow, putRow, mapBlock, Sort.ahead]
    rw [Array.getElem?_append_left (by simpa using hlt), Array.getElem?_modify, if_pos rfl, hb]
    rfl
  · simp only [grow, putRow, mapBlock, Sort.ahead]
    rw [Array.getElem?_append_left (by simpa using hx), Array.getElem?_modify, if_neg (Ne.symm hne)]
  · simp [grow, putRow, mapBlock, Sort.ahead]
  · apply List.ext_getElem
    · simp [putCells]; omega
    · intro i h1 h2
      have hi : i < d.length := by simp at h2; omega
      simp only [List.getElem_take, List.getElem_map, putCells, Array.getElem_toList, Array.getElem_mapIdx]
      rw [if_pos (by simp; omega)]
      simp [hi]

def sortL (l : List Str) : List Str := l.mergeSort fun x y => decide (x ≤ y)
def cSortS : Con := { A := List Str, X := Unit, n := 11, args := fun l => [.own 0 1 (eStrs l)], boxes := fun _ => [], pre := fun l => l.length ≤ 1048576, post := fun _ _ => True, res := fun _ _ => .tup [], fin := fun l _ => [(0, .own 9 1 true (eStrs (sortL l)))], owns := fun l => [(0, 9, 1, eStrs l)], lends := [0], mv := true }
theorem sortL_len (l : List Str) : (sortL l).length = l.length := by simp [sortL]
theorem sortL_mem (l : List Str) (x : Str) : x ∈ sortL l ↔ x ∈ l := by simp [sortL]
set_option maxHeartbeats 4000000 in
theorem sortS_has : Has Tryz.prog 157 cSortS := by
  refine ⟨fun args w => Go.MuLone.run_callFunc_enter Tryz.func157 (by kernel_rfl) rfl args w, fun _ => ⟨(), trivial⟩, fun _ _ => rfl, ?_, trivial, .inl rfl⟩
  intro (l : List Str) (h1 : l.length ≤ 1048576) c _ vs β fp hn hpin hlen hlen2 S
  have hp : c.pins = [(0, β 0)] := hpin
  have hr := start_rel hlen S
  obtain ⟨v0, vs1, rfl, r0, hr⟩ := hr.uncons
  cases hr
  have m0 : (cSortS.start2 l).m 0 = some (.own 9 1 true (eStrs l)) := rfl
  have e0 : v0 = β 0 := by cases r0 with | own _ _ h3 _ => exact (h3 _ _ _ _ m0).1
  subst e0
  have hnd := S.nodup 0 _ m0
  have hfr := S.free 0 _ m0
  have hGlt : ∀ b, c.G b → b < c.w0.heap.size := fun b hG => (S.old b hG).1
  have fin : ∀ {w' : World}, (∃ β' fp' a', SatI c ⟨fun _ => none, get? [(0, .own 9 1 true (eStrs (sortL l)))]⟩ a' w' β' fp' ∧ RelL w' (get? [(0, .own 9 1 true (eStrs (sortL l)))]) β' c [.own 0 1 (eStrs (sortL l))] [β 0]) →
      ∃ x, cSortS.post l x ∧ ∃ v, Ending.returned (.tuple #[]) = Ending.returned v ∧ ∃ β' fp' a', SatI c (cSortS.end_ l x) a' w' β' fp' ∧ RelL w' (get? (cSortS.fin l x)) β' c [cSortS.res l x] [v] :=
    fun ⟨β', fp', a', g1, g2⟩ => ⟨(), trivial, _, rfl, β', fp', a', g1, .tup .lnil .lnil⟩
  obtain ⟨_, _, B0⟩ := S.mem 0 _ m0
  rcases B0 with ⟨q1, q2, q3⟩ | ⟨b, cap, cs, f0, q1, q2, q3, q4, q5, q6, q7, _⟩
  · have hl : l = [] := by simpa using q2
    subst hl
    rw [q1]
    refine (Any.slices_Sort_string_none Tryz.laysSort none 0 c.w0).mono ?_
    rintro e w' ⟨rfl, rfl⟩
    have := own_at (w' := c.w0) (j := 0) (v := β 0) (f := []) (e := 9) (k := 1) (R := []) S (by rw [hp]; intro p hp; simp at hp; subst hp; exact ⟨rfl, rfl⟩) ⟨by omega, by simp, .inl ⟨q1, rfl, rfl⟩⟩ (by simp [Ob, q1]) (by simp [Ob, q1]) (fun _ _ => rfl) (Nat.le_refl _) rfl rfl rfl
    exact fin (by simpa [sortL] using this)
  · rw [eStrs_length] at q1 q3 q6
    obtain ⟨u1, u2, u3⟩ := rd_strs_inv q6
    have q7 := q7 rfl
    rw [u2] at q7
    have hlt : b < c.w0.heap.size := (Array.getElem?_eq_some_iff.1 q2).1
    have hH : Holds encStr c.w0 b 0 l.toArray := by
      intro j hj
      have hj : j < l.length := by simpa using hj
      have hjc : j < cs.size := by omega
      constructor
      · have : (cs.toList.take (l.length * 1))[j]? = some (encStr l[j]) := by rw [u1]; simp [hj]
        rw [List.getElem?_take, if_pos (by omega)] at this
        simp only [World.cell?, q2]
        simpa [hj] using this
      · simp [World.frozen?, q2]
    rw [q1]
    refine (Any.slices_Sort_string Tryz.laysSort b 0 cap l c.w0 hH hlt (by omega)).mono ?_
    rintro e w' ⟨rfl, n, os, rfl⟩
    obtain ⟨z1, z2, z3, z4, z5⟩ := put_at (n := n) (d := sortL l) (os := os) q2
    have hob : Ob β 0 (fp 0) (.own 9 1 true (eStrs l)) = [b] := by simp [Ob, q1, q7]
    rw [hob] at hfr
    have := own_at (j := 0) (v := β 0) (f := []) (e := 9) (k := 1) (R := eStrs (sortL l)) (w' := grow (putRow encStr (Sort.ahead c.w0 n) b 0 (sortL l).toArray) os) S (by rw [hp]; intro p hp; simp at hp; subst hp; exact ⟨rfl, rfl⟩)
      ⟨by omega, by simp [eStrs, eStr], .inr ⟨b, cap, putCells encStr 0 (sortL l).toArray cs, [], by rw [eStrs_length, sortL_len]; exact q1, z1, by rw [eStrs_length, sortL_len]; exact q3, q4, by rw [z4]; exact q5, by
        rw [eStrs_length, Nat.mul_one, z5 _ (Nat.le_refl _) (by rw [sortL_len]; omega), List.take_length]
        exact rd_strs fun s hs => u3 s ((sortL_mem l s).1 hs), fun _ => rfl, by simp⟩⟩
      (by simp [Ob, q1]) (by simpa [Ob, q1] using hfr) (fun x hG => z2 x (hGlt x hG) fun e => by subst e; exact hfr x (by simp) hG) z3 rfl rfl rfl
    rw [q1] at this fin
    exact fin this

/-- A row of words in its own block's first cells. -/
theorem front_blk {w : World} {m : Nat → Option Blk} {β : Nat → Value} {c : Cx} {h b cap : Nat} {cells : Array Value} {C : List Str} (hv : β h = .slice (some ⟨b, 0, none⟩) C.length cap) (hw : w.heap[b]? = some (.cells cells 9 (0, 0))) (hcap : C.length ≤ cap) (q4 : cap ≤ maxLen) (q5 : cells.size = cap * 1)
    (htk : cells.toList.take C.length = C.map encStr) (hu : ∀ s ∈ C, s.length ≤ maxLen) : BlkOk w m β c h [] (.own 9 1 true (eStrs C)) := by
  refine ⟨by omega, by simp [eStrs, eStr], .inr ⟨b, cap, cells, [], ?_, hw, ?_, q4, q5, ?_, fun _ => rfl, by simp⟩⟩
  · rw [eStrs_length]; exact hv
  · rw [eStrs_length]; exact hcap
  · rw [eStrs_length, Nat.mul_one, htk]
    exact rd_strs hu

def cCompactS : Con := { A := List Str, X := Unit, n := 61, args := fun l => [.own 0 1 (eStrs l)], boxes := fun _ => [], pre := fun l => l.length ≤ 1048576, post := fun _ _ => True, res := fun l _ => .own 8 1 (eStrs (Lib.compact l)), fin := fun l _ => [(8, .own 9 1 true (eStrs (Lib.compact l)))], owns := fun l => [(0, 9, 1, eStrs l)], mv := true }
theorem compact_len (l : List Str) : (Lib.compact l).length ≤ l.length := by
  unfold Lib.compact Lib.compactUpTo
  rw [List.length_map]
  exact Nat.le_trans (List.length_filter_le _ _) (by simp)
theorem compact_mem1 (l : List Str) : ∀ s ∈ Lib.compact l, s ∈ l := by
  intro s hs
  unfold Lib.compact Lib.compactUpTo at hs
  obtain ⟨j, hj, rfl⟩ := List.mem_map.1 hs
  have hj : j < l.length := by simpa using (List.mem_filter.1 hj).1
  rw [getElem!_pos _ j (by simpa using hj)]
  simp
set_option maxHeartbeats 400000 in
theorem compactS_has : Has Tryz.prog 158 cCompactS := by
  refine ⟨fun args w => Go.MuLone.run_callFunc_enter Tryz.func158 (by kernel_rfl) rfl args w, fun _ => ⟨(), trivial⟩, fun _ _ => rfl, ?_, trivial, .inl rfl⟩
  intro (l : List Str) (h1 : l.length ≤ 1048576) c _ vs β fp hn hpin hlen hlen2 S
  have hp : c.pins = [] := hpin
  have hr := start_rel hlen S
  obtain ⟨v0, vs1, rfl, r0, hr⟩ := hr.uncons
  cases hr
  have m0 : (cCompactS.start2 l).m 0 = some (.own 9 1 true (eStrs l)) := rfl
  have e0 : v0 = β 0 := by cases r0 with | own _ _ h3 _ => exact (h3 _ _ _ _ m0).1
  subst e0
  have hfr := S.free 0 _ m0
  have hGlt : ∀ b, c.G b → b < c.w0.heap.size := fun b hG => (S.old b hG).1
  have fin : ∀ {w' : World} {v : Value}, (∃ β' fp' a', SatI c ⟨fun _ => none, get? [(8, .own 9 1 true (eStrs (Lib.compact l)))]⟩ a' w' β' fp' ∧ RelL w' (get? [(8, .own 9 1 true (eStrs (Lib.compact l)))]) β' c [.own 8 1 (eStrs (Lib.compact l))] [v]) →
      ∃ x, cCompactS.post l x ∧ ∃ v', Ending.returned v = Ending.returned v' ∧ ∃ β' fp' a', SatI c (cCompactS.end_ l x) a' w' β' fp' ∧ RelL w' (get? (cCompactS.fin l x)) β' c [cCompactS.res l x] [v'] :=
    fun ⟨β', fp', a', g1, g2⟩ => ⟨(), trivial, _, rfl, β', fp', a', g1, g2⟩
  obtain ⟨_, _, B0⟩ := S.mem 0 _ m0
  rcases B0 with ⟨q1, q2, q3⟩ | ⟨b, cap, cs, f0, q1, q2, q3, q4, q5, q6, q7, _⟩
  · have hl : l = [] := by simpa using q2
    subst hl
    rw [q1]
    refine (Any.slices_Compact_string_empty Tryz.laysCompact none 0 c.w0).mono ?_
    rintro e w' ⟨rfl, rfl⟩
    have := own_at (w' := c.w0) (j := 8) (v := .slice none 0 0) (f := []) (e := 9) (k := 1) (R := []) S (by rw [hp]; simp) ⟨by omega, by simp, .inl ⟨rfl, rfl, rfl⟩⟩ (by simp [Ob]) (by simp [Ob]) (fun _ _ => rfl) (Nat.le_refl _) rfl rfl rfl
    exact fin (by simpa [Lib.compact, Lib.compactUpTo] using this)
  · rw [eStrs_length] at q1 q3 q6
    obtain ⟨u1, u2, u3⟩ := rd_strs_inv q6
    have q7 := q7 rfl
    rw [u2] at q7
    have hlt : b < c.w0.heap.size := (Array.getElem?_eq_some_iff.1 q2).1
    have hH : Holds encStr c.w0 b 0 l.toArray := by
      intro j hj
      have hj : j < l.length := by simpa using hj
      have hjc : j < cs.size := by omega
      constructor
      · have : (cs.toList.take (l.length * 1))[j]? = some (encStr l[j]) := by rw [u1]; simp [hj]
        rw [List.getElem?_take, if_pos (by omega)] at this
        simp only [World.cell?, q2]
        simpa [hj] using this
      · simp [World.frozen?, q2]
    rw [q1]
    refine (Any.slices_Compact_string Tryz.laysCompact b 0 cap l c.w0 hH (by omega) q3).mono ?_
    rintro e w' ⟨rfl, n, rfl⟩
    have hcl := compact_len l
    obtain ⟨z1, z2, z3, z4, z5⟩ := put_at (n := n) (d := Lib.compact l ++ List.replicate (l.length - (Lib.compact l).length) []) (os := #[]) q2
    simp only [grow_empty] at z1 z2 z3 z4 z5
    have hob : Ob β 0 (fp 0) (.own 9 1 true (eStrs l)) = [b] := by simp [Ob, q1, q7]
    rw [hob] at hfr
    have htk := z5 (Lib.compact l).length (by simp) (by omega)
    rw [List.take_left] at htk
    have hu : ∀ s ∈ Lib.compact l, s.length ≤ maxLen := fun s hs => u3 s (compact_mem1 l s hs)
    generalize hcs : putCells encStr 0 (Lib.compact l ++ List.replicate (l.length - (Lib.compact l).length) []).toArray cs = cells at z1 z4 htk
    generalize hw' : putRow encStr (Sort.ahead c.w0 n) b 0 (Lib.compact l ++ List.replicate (l.length - (Lib.compact l).length) []).toArray = w1 at z1 z2 z3
    have hos : w1.os = c.w0.os := by rw [← hw']; rfl
    have htp : w1.tape = c.w0.tape := by rw [← hw']; rfl
    have hou : w1.output = c.w0.output := by rw [← hw']; rfl
    have hw'' : putRow encStr (Sort.ahead c.w0 n) b 0 (Lib.compact l ++ List.replicate (l.length - (Lib.compact l).length) []).toArray = w1 := hw'
    clear hw' hcs
    generalize hC : Lib.compact l = C at *
    have := own_at (j := 8) (v := .slice (some ⟨b, 0, none⟩) C.length cap) (f := []) (e := 9) (k := 1) (R := eStrs C) (w' := w1) S (by rw [hp]; simp)
      (front_blk (cells := cells) rfl z1 (by omega) q4 (by rw [z4]; exact q5) htk hu) (by simp [Ob]) (by simpa [Ob] using hfr) (fun x hG => z2 x (hGlt x hG) fun e => by subst e; exact hfr x (by simp) hG) z3 hos htp hou
    exact fin this

end Vx
end Go.Proofs.YtnanellmaelipaaGreatDoor
/-
  Contracts: a file got out of a tree (the program's get, TreeGet).
-/
namespace Go.Proofs.YtnanellmaelipaaGreatDoor
namespace Vx
open Go.RowKit
set_option maxRecDepth 8000

def okSz (t : List FileD) : Prop := t.length ≤ 1048576 ∧ (∀ f ∈ t, f.text.length ≤ 1048576) ∧ ∀ f ∈ t, f.path.length ≤ 536870912
def getI (t : List FileD) (p : Str) : List Str × Bool := match t.find? (fun f => decide (f.path = p)) with
  | some f => (f.text, true)
  | none => ([], false)
theorem getI_hit {t : List FileD} {p : Str} {i : Nat} (h : i < t.length) (h1 : ∀ j (hj : j < t.length), j < i → ¬ t[j].path = p) (h2 : t[i].path = p) : getI t p = (t[i].text, true) := by
  have : t.find? (fun f => decide (f.path = p)) = some t[i] := by
    rw [List.find?_eq_some_iff_getElem]
    refine ⟨by simp -implicitDefEqProofs [h2], i, h, rfl, fun j hj => ?_⟩
    simpa using h1 j (by omega) hj
  unfold getI; rw [this]
theorem getI_none {t : List FileD} {p : Str} (h : ∀ j (hj : j < t.length), ¬ t[j].path = p) : getI t p = ([], false) := by
  have : t.find? (fun f => decide (f.path = p)) = none := by
    rw [List.find?_eq_none]
    intro f hf
    obtain ⟨j, hj, rfl⟩ := List.getElem_of_mem hf
    simpa using h j hj
  unfold getI; rw [this]
def cGetF : Con := .fn 22 (List FileD × Str) (fun a => [.sl true 2 (eFiles a.1), .str a.2]) (fun a => ∀ f ∈ a.1, f.text.length ≤ 1048576) (fun a => .tup [.own 8 1 (eStrs (getI a.1 a.2).1), .bool (getI a.1 a.2).2]) (fun a => ownStrs 8 (getI a.1 a.2).1)
set_option maxHeartbeats 4000000 in
theorem getF_has : Has Tryz.prog 108 cGetF := by
  refine has_walk mixed tTab_ok (l := [(162, cCopyText)]) (HasL.cons copyText_has HasL.nil) [0, 1, 4, 5, 7, 8, 9, 10] ((fun a n (_ : Nat) => (fun a _ => ⟨Nat, fun i => ⟨[(1, true, .str a.2), (4, true, .nil), (5, true, .bool false), (8, true, .sl true 2 (eFiles a.1)), (9, true, .int .i64 a.1.length), (10, true, .int .i64 i)], []⟩, fun i => i ≤ a.1.length ∧ ∀ j (hj : j < a.1.length), j < i → ¬ a.1[j].path = a.2, fun i => a.1.length - i⟩) a n)) [] Tryz.func108 (by kernel_rfl) (code := _) (by unfold Tryz.f108; rfl) (by kernel_rfl) (by decide) (fun _ => ⟨(), trivial⟩) (by intro h; first | exact fun _ => rfl | cases h) (by kernel_rfl) ?_
  intro a ha
  obtain ⟨t, p⟩ := a
  replace ha : ∀ f ∈ t, f.text.length ≤ 1048576 := ha
  simp -implicitDefEqProofs [cGetF, cCopyText, Con.fn, tTab]
  try dsimp only
  refine fun _ i hi hb => ⟨fun hlt => ⟨hlt, fun _ => ?_⟩, fun hge => ?_⟩
  · have hf := ha t[i] (List.getElem_mem hlt)
    have e1 := fun h => getI_hit (p := p) hlt hb h
    simp -implicitDefEqProofs [hlt, eFile, D.asStr, D.asRows, and_assoc]
    refine ⟨fun h => ⟨hf, by rw [e1 h]; exact ⟨rfl, rfl, rfl⟩⟩, fun h => ⟨by omega, by omega, fun _ _ => ⟨i + 1, by omega, by omega, fun j hj hji => ?_, by omega⟩⟩⟩
    by_cases e : j = i
    · subst e; exact h
    · exact hb j hj (by omega)
  · rw [getI_none fun j hj => hb j hj (by omega)]
    exact ⟨⟨rfl, rfl⟩, rfl⟩
def treeGetI (t : List FileD) (p : Str) : List Str × Bool := if treeI t then getI t p else ([], false)
def cTreeGet : Con := .fn 14 (List FileD × Str) (fun a => [.sl true 2 (eFiles a.1), .str a.2]) (fun a => okSz a.1) (fun a => .tup [.own 8 1 (eStrs (treeGetI a.1 a.2).1), .bool (treeGetI a.1 a.2).2]) (fun a => ownStrs 8 (treeGetI a.1 a.2).1)
set_option maxHeartbeats 4000000 in
theorem treeGet_has : Has Tryz.prog 36 cTreeGet := by
  refine has_walk mixed tTab_ok (l := [(98, cTreeOk), (108, cGetF)]) (HasL.cons treeOk_has (HasL.cons getF_has HasL.nil)) [0, 1, 4, 5] ((fun a n (_ : Nat) => (fun _ => noInv) a n)) [] Tryz.func36 (by kernel_rfl) (code := _) (by unfold Tryz.f36; rfl) (by kernel_rfl) (by decide) (fun _ => ⟨(), trivial⟩) (by intro h; first | exact fun _ => rfl | cases h) (by kernel_rfl) ?_
  intro a ha
  obtain ⟨t, p⟩ := a
  replace ha : okSz t := ha
  simp -implicitDefEqProofs [cTreeGet, cTreeOk, cGetF, Con.fn, tTab]
  try dsimp only
  refine ⟨ha.2.2, fun h => ?_, fun h => ⟨t, p, ⟨rfl, rfl⟩, ha.2.1, ?_⟩⟩
  · unfold treeGetI; rw [h]; exact ⟨⟨rfl, rfl⟩, rfl⟩
  · unfold treeGetI; rw [h]; exact ⟨⟨rfl, rfl⟩, rfl⟩


theorem getI_eq (t : List FileD) (p : Str) : getI t p = getL t p := by
  unfold getI
  induction t with
  | nil => rfl
  | cons f t ih =>
    unfold getL
    by_cases h : f.path = p
    · simp -implicitDefEqProofs [h]
    · rw [List.find?_cons_of_neg (by simpa using h), if_neg h]; exact ih

end Vx
end Go.Proofs.YtnanellmaelipaaGreatDoor
/-
  Contracts: all paths of trees (the program's), in order, each once; what a tree has at a path.
-/
namespace Go.Proofs.YtnanellmaelipaaGreatDoor
namespace Vx
open Go.RowKit
set_option maxRecDepth 8000
--TAB tTabC
def tTabC : List (Nat × TI) := (164, ⟨false, [.sl 54 1], 24, [], 54⟩) :: (123, ⟨true, [.sl 9 1, .bool], 32, [(57, 0), (4, 1)], 0⟩) :: tTab
theorem tTabC_ok : ∀ t ti, get? tTabC t = some ti → TOk Tryz.prog t ti := tabChk_ok (by kernel_rfl)

theorem str_le_trans {a b c : Str} (h : a ≤ b) (h' : b ≤ c) : a ≤ c := List.le_trans h h'
theorem str_le_lt {a b : Str} (h : a ≤ b) (hne : a ≠ b) : a < b := str_total b a h (Ne.symm hne)
theorem sortL_pw (l : List Str) : (sortL l).Pairwise (· ≤ ·) := by
  have := List.pairwise_mergeSort (le := fun x y : Str => decide (x ≤ y)) (fun a b c h h' => by simp only [decide_eq_true_eq] at *; exact str_le_trans h h') (fun a b => by
    simp only [Bool.or_eq_true, decide_eq_true_eq]
    exact List.le_total a b) l
  refine List.Pairwise.imp ?_ this
  intro a b h; simpa using h
theorem compactUp {l : List Str} (h : l.Pairwise (· ≤ ·)) : ∀ m, m ≤ l.length → srt (Lib.compactUpTo l.toArray m) ∧ ∀ x, x ∈ Lib.compactUpTo l.toArray m ↔ x ∈ l.take m
  | 0, _ => ⟨by simp -implicitDefEqProofs [Lib.compactUpTo, srt], by simp -implicitDefEqProofs [Lib.compactUpTo]⟩
  | m + 1, hm => by
    obtain ⟨h1, h2⟩ := compactUp h m (by omega)
    have hlt : m < l.length := by omega
    have e : l.toArray[m]! = l[m] := by simp -implicitDefEqProofs [hlt]
    have hall : ∀ x ∈ l.take m, x ≤ l[m] := by
      intro x hx
      obtain ⟨i, hi, rfl⟩ := List.getElem_of_mem hx
      have hi' : i < m := by simp at hi; omega
      rw [List.getElem_take]
      exact List.pairwise_iff_getElem.1 h i m (by omega) hlt hi'
    rw [Lib.compactUpTo_succ, e, take_succ' hlt]
    by_cases hk : Lib.keeps l.toArray m = true
    · rw [if_pos hk]
      refine ⟨List.pairwise_append.2 ⟨h1, by simp, fun x hx y hy => ?_⟩, fun x => by rw [List.mem_append, List.mem_append, h2]⟩
      have : y = l[m] := by simpa using hy
      subst this
      have hx := (h2 x).1 hx
      have hle := hall x hx
      refine str_le_lt hle fun e2 => ?_
      have hm0 : 0 < m := by
        rcases Nat.eq_zero_or_pos m with h0 | h0
        · subst h0; simp at hx
        · exact h0
      have hne : l[m] ≠ l[m - 1] := by
        have := hk
        unfold Lib.keeps at this
        simp only [decide_eq_true_eq] at this
        rcases this with h0 | h0
        · omega
        · simpa [hlt, show m - 1 < l.length by omega] using h0
      obtain ⟨i, hi, rfl⟩ := List.getElem_of_mem hx
      have hi' : i < m := by simp at hi; omega
      rw [List.getElem_take] at e2 hle
      rcases Nat.lt_or_ge i (m - 1) with hq | hq
      · have q1 := List.pairwise_iff_getElem.1 h i (m - 1) (by omega) (by omega) hq
        have q2 := List.pairwise_iff_getElem.1 h (m - 1) m (by omega) hlt (by omega)
        have q3 := str_le_lt q2 (Ne.symm hne)
        rw [← e2] at q3
        exact q1 q3
      · have : i = m - 1 := by omega
        subst this
        exact hne e2.symm
    · rw [if_neg hk, List.append_nil]
      refine ⟨h1, fun x => ?_⟩
      rw [h2, List.mem_append]
      have hk : Lib.keeps l.toArray m = false := by simpa using hk
      unfold Lib.keeps at hk
      simp only [decide_eq_false_iff_not, not_or, Classical.not_not] at hk
      obtain ⟨k1, k2⟩ := hk
      have k3 : l[m] = l[m - 1] := by simpa [hlt, show m - 1 < l.length by omega] using k2
      refine ⟨.inl, fun hx => hx.elim id fun hx => ?_⟩
      have : x = l[m] := by simpa using hx
      rw [this, k3]
      exact List.mem_take_iff_getElem.2 ⟨m - 1, by omega, rfl⟩
theorem compact_sort (l : List Str) : srt (Lib.compact (sortL l)) ∧ ∀ x, x ∈ Lib.compact (sortL l) ↔ x ∈ l := by
  obtain ⟨h1, h2⟩ := compactUp (sortL_pw l) (sortL l).length (Nat.le_refl _)
  exact ⟨h1, fun x => by
    unfold Lib.compact
    rw [h2, List.take_length, sortL_mem]⟩

def allP (ts : List (List FileD)) : List Str := Lib.compact (sortL (ts.flatten.map (·.path)))
theorem allP_3 (o a b : List FileD) : allP [o, a, b] = paths6 o a b := by
  obtain ⟨h1, h2⟩ := compact_sort (([o, a, b] : List (List FileD)).flatten.map (·.path))
  obtain ⟨h3, h4⟩ := paths6_srt o a b
  refine srt_eq h1 h3 fun x => ?_
  unfold allP at *
  rw [h2, h4]; simp
theorem allP_2 (o a : List FileD) : allP [o, a] = paths6 o a [] := by
  obtain ⟨h1, h2⟩ := compact_sort (([o, a] : List (List FileD)).flatten.map (·.path))
  obtain ⟨h3, h4⟩ := paths6_srt o a []
  refine srt_eq h1 h3 fun x => ?_
  unfold allP at *
  rw [h2, h4]; simp
theorem allP_len (ts : List (List FileD)) : (allP ts).length ≤ ts.flatten.length := by
  have h1 := compact_len (sortL (ts.flatten.map (·.path)))
  rw [sortL_len, List.length_map] at h1
  exact h1

def eTree (t : List FileD) : List D := [.sl 61 2 (eFiles t)]
def eTrees (ts : List (List FileD)) : List (List D) := ts.map eTree
@[simp] theorem eTrees_length (l : List (List FileD)) : (eTrees l).length = l.length := by simp -implicitDefEqProofs [eTrees]
@[simp] theorem eTrees_get (l : List (List FileD)) (i : Nat) : (eTrees l)[i]? = l[i]?.map eTree := by simp -implicitDefEqProofs [eTrees]
def preP (ts : List (List FileD)) (i j : Nat) : List Str := ((ts.take i).flatten ++ (ts.getD i []).take j).map (·.path)
theorem preP_0 (ts : List (List FileD)) : preP ts 0 0 = [] := by simp -implicitDefEqProofs [preP]
theorem preP_end (ts : List (List FileD)) : preP ts ts.length 0 = ts.flatten.map (·.path) := by simp -implicitDefEqProofs [preP]
theorem preP_next {ts : List (List FileD)} {i : Nat} (h : i < ts.length) : preP ts i (ts.getD i []).length = preP ts (i + 1) 0 := by
  have e3 : ts.getD i [] = ts[i] := by simp -implicitDefEqProofs [List.getD_eq_getElem?_getD, h]
  unfold preP
  rw [take_succ' h, e3, List.take_length, List.flatten_append, List.take_zero, List.append_nil]
  simp only [List.flatten_cons, List.flatten_nil, List.append_nil]
theorem preP_succ {ts : List (List FileD)} {i j : Nat} (h : j < (ts.getD i []).length) : preP ts i (j + 1) = preP ts i j ++ [(ts.getD i [])[j].path] := by
  unfold preP
  rw [take_succ' h, ← List.append_assoc, List.map_append]; rfl
theorem flat_le {ts : List (List FileD)} {i : Nat} (j : Nat) (h : i < ts.length) : ((ts.take i).flatten ++ (ts.getD i []).take j).length ≤ ts.flatten.length := by
  have e := List.take_append_drop (i + 1) ts
  have e2 : ts.flatten.length = ((ts.take (i + 1)).flatten ++ (ts.drop (i + 1)).flatten).length := by rw [← List.flatten_append, e]
  rw [e2, take_succ' h]
  have e3 : ts.getD i [] = ts[i] := by simp -implicitDefEqProofs [List.getD_eq_getElem?_getD, h]
  rw [e3]
  have : (List.take j ts[i]).length ≤ ts[i].length := by rw [List.length_take]; omega
  simp only [List.length_append, List.flatten_append, List.flatten_cons, List.flatten_nil, List.append_nil]
  omega
theorem preP_len {ts : List (List FileD)} {i : Nat} (j : Nat) (h : i < ts.length) : (preP ts i j).length ≤ ts.flatten.length := by
  unfold preP; rw [List.length_map]; exact flat_le j h
def apI (ts : List (List FileD)) : Inv := ⟨Nat, fun i => ⟨[(2, true, .nil), (3, true, .own 9 1 (eStrs (preP ts i 0))), (8, true, .sl true 1 (eTrees ts)), (9, true, .int .i64 ts.length), (10, true, .int .i64 i)], [(9, .own 9 1 true (eStrs (preP ts i 0)))]⟩, fun i => i ≤ ts.length, fun i => ts.length - i⟩
def apJ (ts : List (List FileD)) (g : Nat) : Inv := ⟨Nat, fun j => ⟨[(2, true, .nil), (3, true, .own 9 1 (eStrs (preP ts g j))), (8, true, .sl true 1 (eTrees ts)), (9, true, .int .i64 ts.length), (10, true, .int .i64 g), (14, true, .sl true 2 (eFiles (ts.getD g []))), (15, true, .int .i64 (ts.getD g []).length), (16, true, .int .i64 j)], [(9, .own 9 1 true (eStrs (preP ts g j)))]⟩, fun j => g < ts.length ∧ j ≤ (ts.getD g []).length, fun j => (ts.getD g []).length - j⟩
def apInv (ts : List (List FileD)) (n g : Nat) : Inv := if n = 3 then apI ts else apJ ts g
theorem apInv_3 (ts g) : apInv ts 3 g = apI ts := rfl
theorem apInv_6 (ts g) : apInv ts 6 g = apJ ts g := rfl
def cAllPaths : Con := .fn 31 (List (List FileD)) (fun ts => [.sl true 1 (eTrees ts)]) (fun ts => ts.flatten.length ≤ 1048576 ∧ ts.length ≤ 1048576) (fun ts => .own 8 1 (eStrs (allP ts))) (fun ts => ownStrs 8 (allP ts))
set_option maxHeartbeats 4000000 in
theorem allPaths_has : Has Tryz.prog 103 cAllPaths := by
  refine has_walk mixed tTabC_ok (l := [(157, cSortS), (158, cCompactS)]) (HasL.cons sortS_has (HasL.cons compactS_has HasL.nil)) [0, 2, 3, 5, 7, 8, 9, 10, 14, 15, 16] (apInv) [] Tryz.func103 (by kernel_rfl) (code := _) (by unfold Tryz.f103; rfl) (by kernel_rfl) (by decide) (fun _ => ⟨(), trivial⟩) (by intro h; first | exact fun _ => rfl | cases h) (by kernel_rfl) ?_
  intro (ts : List (List FileD)) ha
  obtain ⟨h1, h2⟩ : ts.flatten.length ≤ 1048576 ∧ ts.length ≤ 1048576 := ha
  simp (maxSteps := 4000000) [cAllPaths, cSortS, cCompactS, Con.fn, tTabC, tTab, apInv_3, apInv_6, apI, apJ]
  try dsimp only
  refine fun _ => ⟨⟨0, ⟨⟨preP_0 ts, rfl⟩, preP_0 ts⟩, Nat.zero_le _⟩, fun i hi => ⟨fun hlt => ⟨hlt, fun _ => ?_⟩, fun hge => ?_⟩⟩
  · have qq : Option.map eTree ts[i]? = some (eTree ts[i]) := by simp -implicitDefEqProofs [hlt]
    have e3 : ts[i]?.getD [] = ts[i] := by simp -implicitDefEqProofs [hlt]
    have e4 : (ts[i]?.getD []).length = ts[i].length := by rw [e3]
    have hb : ∀ j, (preP ts i j).length ≤ ts.flatten.length := fun j => preP_len j hlt
    rw [qq]
    simp -implicitDefEqProofs [eTree, D.asRows]
    refine fun _ => ⟨i, ⟨0, ⟨⟨rfl, rfl, by rw [e3], by rw [e3], rfl⟩, rfl⟩, hlt, Nat.zero_le _⟩, fun j hg hj => ⟨fun hjl => ⟨hjl, fun _ => ?_⟩, fun hjg => ⟨by omega, fun _ _ => ⟨i + 1, ⟨⟨?_, by omega⟩, ?_⟩, by omega, by omega⟩⟩⟩⟩
    · have q2 : Option.map eFile (ts[i]?.getD [])[j]? = some (eFile (ts[i]?.getD [])[j]) := by simp -implicitDefEqProofs [hjl]
      have q3 : preP ts i (j + 1) = preP ts i j ++ [(ts[i]?.getD [])[j].path] := preP_succ (ts := ts) (i := i) (j := j) hjl
      have hbj := hb j
      rw [q2]
      simp -implicitDefEqProofs [eFile, D.asRows, D.asStr]
      refine ⟨⟨by omega, by omega⟩, by omega, fun _ _ => ⟨j + 1, ⟨⟨?_, by omega⟩, ?_⟩, ⟨hg, by omega⟩, by omega⟩⟩
      · rw [q3, ← eStrs_snoc]
      · rw [q3, ← eStrs_snoc]
    · rw [show j = (ts.getD i []).length by rw [List.getD_eq_getElem?_getD]; omega, preP_next hlt]
    · rw [show j = (ts.getD i []).length by rw [List.getD_eq_getElem?_getD]; omega, preP_next hlt]
  · have : i = ts.length := by omega
    subst this
    rw [sortL_len, preP_end, List.length_map]
    exact ⟨h1, h1, rfl, rfl⟩

def cHasAt : Con := .fn 16 (List FileD × Str) (fun a => [.sl true 2 (eFiles a.1), .str a.2]) (fun a => ∀ f ∈ a.1, f.text.length ≤ 1048576) (fun a => .agg [.own 8 1 (eStrs (getI a.1 a.2).1), .bool (getI a.1 a.2).2]) (fun a => ownStrs 8 (getI a.1 a.2).1)
set_option maxHeartbeats 4000000 in
theorem hasAt_has : Has Tryz.prog 104 cHasAt := by
  refine has_walk mixed tTabC_ok (l := [(108, cGetF)]) (HasL.cons getF_has HasL.nil) [0, 1, 4, 5, 6] ((fun a n (_ : Nat) => (fun _ => noInv) a n)) [] Tryz.func104 (by kernel_rfl) (code := _) (by unfold Tryz.f104; rfl) (by kernel_rfl) (by decide) (fun _ => ⟨(), trivial⟩) (by intro h; first | exact fun _ => rfl | cases h) (by kernel_rfl) ?_
  intro a ha
  obtain ⟨t, p⟩ := a
  replace ha : ∀ f ∈ t, f.text.length ≤ 1048576 := ha
  simp -implicitDefEqProofs [cHasAt, cGetF, Con.fn, tTabC, tTab]
  try dsimp only
  exact ⟨t, p, ⟨rfl, rfl⟩, ha, fun h => ⟨⟨rfl, h⟩, rfl⟩, fun h => ⟨⟨rfl, h⟩, rfl⟩⟩

end Vx
end Go.Proofs.YtnanellmaelipaaGreatDoor
/-
  Contracts: common lines (the program's lcs, match).
-/
namespace Go.Proofs.YtnanellmaelipaaGreatDoor
namespace Vx
open Go.RowKit
set_option maxRecDepth 8000

/-- A table half laid out. -/
def iniT (n w i : Nat) : List (List Int) := List.replicate i (List.replicate w 0) ++ List.replicate (n - i) []
theorem iniT_len {n w i : Nat} (h : i ≤ n) : (iniT n w i).length = n := by simp -implicitDefEqProofs [iniT]; omega
theorem iniT_0 (n w : Nat) : eRows (iniT n w 0) = List.replicate n [D.sl 3 1 []] := by simp -implicitDefEqProofs [iniT, eRows, eRow]
theorem iniT_end (n w : Nat) : iniT n w n = List.replicate n (List.replicate w 0) := by simp -implicitDefEqProofs [iniT]
theorem iniT_set {n w i : Nat} (h : i < n) : (eRows (iniT n w i)).set i [D.sl 3 1 (List.replicate w [D.int .i64 0])] = eRows (iniT n w (i + 1)) := by
  have e : (iniT n w i).set i (List.replicate w 0) = iniT n w (i + 1) := by
    apply List.ext_getElem
    · rw [List.length_set, iniT_len (by omega), iniT_len (by omega)]
    · intro k h1 h2
      rw [List.getElem_set]
      simp only [iniT, List.getElem_append, List.length_replicate, List.getElem_replicate]
      by_cases hk : i = k
      · subst hk; simp
      · rw [if_neg hk]
        by_cases h3 : k < i
        · rw [dif_pos h3, dif_pos (by omega)]
        · rw [dif_neg h3, dif_neg (by omega)]
  rw [← e]
  simp -implicitDefEqProofs [eRows, List.map_set, eRow, eInts, eInt]
def lcA (a b : List Str) : Inv := ⟨Nat, fun i => ⟨[(0, true, .sl true 1 (eStrs a)), (1, true, .sl true 1 (eStrs b)), (4, true, .nil), (5, true, .own 9 1 (eRows (iniT (a.length + 1) (b.length + 1) i))), (14, true, .int .i64 (a.length + 1 : Nat)), (15, true, .int .i64 i)], [(9, .own 35 1 true (eRows (iniT (a.length + 1) (b.length + 1) i)))]⟩, fun i => i ≤ a.length + 1, fun i => a.length + 1 - i⟩
def lcB (a b : List Str) : Inv := ⟨Nat, fun p => ⟨[(0, true, .sl true 1 (eStrs a)), (1, true, .sl true 1 (eStrs b)), (4, true, .nil), (5, true, .own 9 1 (eRows (tabF a b p (b.length + 1)))), (7, true, .int .i64 ((p : Int) - 1))], [(9, .own 35 1 true (eRows (tabF a b p (b.length + 1))))]⟩, fun p => p ≤ a.length, fun p => p⟩
def lcC (a b : List Str) (g : Nat) : Inv := ⟨Nat, fun q => ⟨[(0, true, .sl true 1 (eStrs a)), (1, true, .sl true 1 (eStrs b)), (4, true, .nil), (5, true, .own 9 1 (eRows (tabF a b g q))), (7, true, .int .i64 ((g : Int) - 1)), (8, true, .int .i64 ((q : Int) - 1))], [(9, .own 35 1 true (eRows (tabF a b g q)))]⟩, fun q => q ≤ b.length ∧ 0 < g ∧ g ≤ a.length, fun q => q⟩
def lcInv (a b : List Str) (n g : Nat) : Inv := if n = 3 then lcA a b else if n = 8 then lcB a b else lcC a b g
theorem lcInv_3 (a b g) : lcInv a b 3 g = lcA a b := rfl
theorem lcInv_8 (a b g) : lcInv a b 8 g = lcB a b := rfl
theorem lcInv_11 (a b g) : lcInv a b 11 g = lcC a b g := rfl
def cLcsI : Con := .fn 89 (List Str × List Str) (fun a => [.sl true 1 (eStrs a.1), .sl true 1 (eStrs a.2)]) (fun a => a.1.length ≤ 1048576 ∧ a.2.length ≤ 1048576) (fun a => .own 8 1 (eRows (tabF a.1 a.2 0 0))) (fun a => [(8, .own 35 1 true (eRows (tabF a.1 a.2 0 0)))])
set_option maxHeartbeats 4000000 in
theorem lcsI_has : Has Tryz.prog 105 cLcsI := by
  refine has_walk mixed tTab_ok (l := []) HasL.nil [0, 1, 4, 5, 6, 7, 8, 14, 15] (fun a => lcInv a.1 a.2) [] Tryz.func105 (by kernel_rfl) (code := _) (by unfold Tryz.f105; rfl) (by kernel_rfl) (by decide) (fun _ => ⟨(), trivial⟩) (by intro h; first | exact fun _ => rfl | cases h) (by kernel_rfl) ?_
  intro a ha
  obtain ⟨a, b⟩ := a
  obtain ⟨h1, h2⟩ : a.length ≤ 1048576 ∧ b.length ≤ 1048576 := ha
  simp (maxSteps := 4000000) [cLcsI, Con.fn, tTab, lcInv_3, lcInv_8, lcInv_11, lcA, lcB, lcC]
  try dsimp only
  refine fun _ => ⟨by omega, fun _ _ => ⟨by omega, fun _ _ _ _ => ⟨⟨0, ⟨⟨iniT_0 _ _, rfl⟩, (iniT_0 _ _).symm⟩, Nat.zero_le _⟩, fun i hi => ⟨fun hlt _ => ⟨by omega, fun _ _ => ⟨by omega, fun _ _ _ => ⟨by rw [iniT_len hi]; omega, fun hx => ⟨hx, by omega, fun _ _ => ⟨i + 1, ⟨⟨(iniT_set (by omega)).symm, by omega⟩, iniT_set (by omega)⟩, by omega, by omega⟩⟩⟩⟩⟩, fun hge _ => ⟨by omega, fun _ _ => ⟨⟨a.length, ⟨⟨?_, rfl⟩, ?_⟩, Nat.le_refl _⟩, fun p hp => ⟨fun h1p _ => ⟨by omega, fun _ _ => ⟨p, ⟨b.length, ⟨⟨?_, rfl, rfl⟩, ?_⟩, Nat.le_refl _, by omega, hp⟩, fun q hq hg hga => ⟨fun hq1 => ?_, fun hq0 => ⟨by omega, fun _ _ => ⟨p - 1, ⟨⟨?_, by omega⟩, ?_⟩, by omega, by omega⟩⟩⟩⟩⟩, fun hp0 => ?_⟩⟩⟩⟩⟩⟩⟩
  · rw [show i = a.length + 1 by omega, iniT_end, tab_first rfl]
  · rw [show i = a.length + 1 by omega, iniT_end, tab_first rfl]
  · rw [tab_col]
  · rw [tab_col]
  · obtain ⟨T, hT⟩ : ∃ T, T = tabF a b p q := ⟨_, rfl⟩
    have t1 := @tab_len a b p q
    have t2 := tab_row (a := a) (b := b) (p := p) (q := q) (r := p) (by omega)
    have t3 := tab_row (a := a) (b := b) (p := p) (q := q) (r := p - 1) (by omega)
    have t4 : a[p - 1]? = some a[p - 1] := List.getElem?_eq_getElem (by omega)
    have t5 : b[q - 1]? = some b[q - 1] := List.getElem?_eq_getElem (by omega)
    have u1 := @tabR_len a b p q p
    have u2 := @tabR_len a b p q (p - 1)
    have u3 : (tabR a b p q p)[q]? = some (lcs (a.drop p) (b.drop q)) := by rw [tabR_get (by omega), if_pos (by omega)]
    have u4 : (tabR a b p q p)[q - 1]? = some (lcs (a.drop p) (b.drop (q - 1))) := by rw [tabR_get (by omega), if_pos (by omega)]
    have u5 : (tabR a b p q (p - 1))[q]? = some (lcs (a.drop (p - 1)) (b.drop q)) := by rw [tabR_get (by omega), if_pos (by omega)]
    have v1 := lcs_bd (a.drop p) (b.drop q)
    have v2 := lcs_bd (a.drop p) (b.drop (q - 1))
    have v3 := lcs_bd (a.drop (p - 1)) (b.drop q)
    have v4 : (a.drop p).length ≤ a.length := by simp
    have v5 : (a.drop (p - 1)).length ≤ a.length := by simp
    have w1 := tab_put (a := a) (b := b) (p := p) (q := q) hg hga (by omega) hq
    have w2 := lcs_step (a := a) (b := b) (p := p) (q := q) hg hga (by omega) hq
    rw [← hT] at t1 t2 t3 w1 ⊢
    clear hT
    generalize lcs (a.drop p) (b.drop q) = L11 at *
    generalize lcs (a.drop p) (b.drop (q - 1)) = L10 at *
    generalize lcs (a.drop (p - 1)) (b.drop q) = L01 at *
    generalize tabR a b p q p = rB at *
    generalize tabR a b p q (p - 1) = rA at *
    simp -implicitDefEqProofs [t1, t2, t3, t4, t5, u1, u2, u3, u4, u5, eInt, eStr, D.asStr, eRow, D.asRows, D.asInt, and_assoc]
    have fin : ∀ v, v = lcs (a.drop (p - 1)) (b.drop (q - 1)) → ∃ t', eRows (tabF a b p t') = (eRows T).set (p - 1) [D.sl 3 1 ((eInts rA).set (q - 1) [D.int .i64 v])] ∧ (t' : Int) = q - 1 ∧ (eRows T).set (p - 1) [D.sl 3 1 ((eInts rA).set (q - 1) [D.int .i64 v])] = eRows (tabF a b p t') ∧ t' ≤ b.length ∧ 0 < p ∧ p ≤ a.length ∧ t' < q :=
      fun v hv => ⟨q - 1, (w1 v hv).symm, by omega, w1 v hv, by omega, hg, hga, by omega⟩
    have fin1 := fun h => fin (L11 + 1) (by rw [w2, if_pos h])
    have fin2 := fun (h : ¬ a[p - 1] = b[q - 1]) => fin (if L10 < L01 then L01 else L10) (by rw [w2, if_neg h]; split <;> split <;> omega)
    clear w1 w2 fin
    repeat' (first | intro _ | apply And.intro)
    all_goals first | omega | exact fin1 (by assumption) | exact fin2 (by assumption)
  · rw [show q = 0 by omega, tab_next (by omega)]
  · rw [show q = 0 by omega, tab_next (by omega)]
  · rw [show p = 0 by omega, tab_zero]; exact ⟨rfl, rfl⟩

def maI (a b : List Str) : Inv := ⟨Nat × Nat × List Int, fun t => ⟨[(0, true, .sl true 1 (eStrs a)), (1, true, .sl true 1 (eStrs b)), (4, true, .nil), (5, true, .own 9 1 (eRows (tabF a b 0 0))), (6, true, .own 10 1 (eInts t.2.2)), (8, true, .int .i64 t.2.1), (7, true, .int .i64 t.1)], [(9, .own 35 1 true (eRows (tabF a b 0 0))), (10, .own 3 1 true (eInts t.2.2))]⟩,
  fun t => t.1 ≤ a.length ∧ t.2.1 ≤ b.length ∧ t.2.2.length = t.1 ∧ t.2.2 ++ mt (a.drop t.1) (b.drop t.2.1) t.2.1 = mt a b 0, fun t => (a.length - t.1) + (b.length - t.2.1)⟩
end Vx
end Go.Proofs.YtnanellmaelipaaGreatDoor
/-
  Contracts: parts of merged texts (the reference's l3Part, l3Put, l3Of, l3Text).
-/
namespace Go.Proofs.YtnanellmaelipaaGreatDoor
namespace Vx
open Go.RowKit
set_option maxRecDepth 8000

def cL3Part : Con := .fn 36 (List Str × List Str × List Str) (fun a => [.sl true 1 (eStrs a.1), .sl true 1 (eStrs a.2.1), .sl true 1 (eStrs a.2.2)]) (fun a => a.1.length ≤ 1048576 ∧ a.2.1.length ≤ 1048576 ∧ a.2.2.length ≤ 1048576) (fun a => .agg [.bool (part3 a.1 a.2.1 a.2.2).clash, .own 8 1 (eStrs (part3 a.1 a.2.1 a.2.2).lines), .own 9 1 (eStrs (part3 a.1 a.2.1 a.2.2).old), .own 10 1 (eStrs (part3 a.1 a.2.1 a.2.2).one), .own 11 1 (eStrs (part3 a.1 a.2.1 a.2.2).two)]) (fun a => ownStrs 8 (part3 a.1 a.2.1 a.2.2).lines ++ ownStrs 9 (part3 a.1 a.2.1 a.2.2).old ++ ownStrs 10 (part3 a.1 a.2.1 a.2.2).one ++ ownStrs 11 (part3 a.1 a.2.1 a.2.2).two)
set_option maxHeartbeats 4000000 in
theorem l3Part_has : Has Tryz.prog 287 cL3Part := by
  refine has_walk mixed tTab_ok (l := [(236, cL1Same)]) (HasL.cons l1Same_has HasL.nil) [0, 1, 2, 6, 7] ((fun a n (_ : Nat) => (fun _ => noInv) a n)) [] Tryz.func287 (by kernel_rfl) (code := _) (by unfold Tryz.f287; rfl) (by kernel_rfl) (by decide) (fun _ => ⟨(), trivial⟩) (by intro h; first | exact fun _ => rfl | cases h) (by kernel_rfl) ?_
  intro a ha
  obtain ⟨o, a, b⟩ := a
  obtain ⟨h1, h2, h3⟩ : o.length ≤ 1048576 ∧ a.length ≤ 1048576 ∧ b.length ≤ 1048576 := ha
  simp -implicitDefEqProofs [cL3Part, cL1Same, Con.fn, tTab]
  try dsimp only
  have f : ∀ (t : List Str), ∀ x ∈ eStrs t, ∀ d ∈ x, match d with | .sl _ _ _ => False | _ => True := fun t => (eStrs_flat t).mpr trivial
  have e1 : a = o → part3 o a b = ⟨false, b, [], [], []⟩ := fun h => by unfold part3; rw [if_pos (.inl h)]
  have e2 : a = b → part3 o a b = ⟨false, b, [], [], []⟩ := fun h => by unfold part3; rw [if_pos (.inr h)]
  have e3 : ¬ a = o → ¬ a = b → b = o → part3 o a b = ⟨false, a, [], [], []⟩ := fun h h' h2 => by unfold part3; rw [if_neg (by simp -implicitDefEqProofs [h, h']), if_pos h2]
  have e4 : ¬ a = o → ¬ a = b → ¬ b = o → part3 o a b = ⟨true, [], o, a, b⟩ := fun h h' h2 => by unfold part3; rw [if_neg (by simp -implicitDefEqProofs [h, h']), if_neg h2]
  refine ⟨a, o, ⟨rfl, rfl⟩, fun h => ⟨fun _ => ?_, fun h' => absurd h h'⟩, fun h => ⟨a, b, ⟨rfl, rfl⟩, fun h2 => ?_, fun h2 => ⟨b, o, ⟨rfl, rfl⟩, fun h3 => ?_, fun h3 => ?_⟩⟩⟩
  · rw [e1 h]; exact ⟨f b, ⟨by omega, by omega⟩, ⟨rfl, rfl, rfl, rfl, rfl⟩, rfl, rfl, rfl, rfl⟩
  · rw [e2 h2]; exact ⟨f b, ⟨by omega, by omega⟩, ⟨rfl, rfl, rfl, rfl, rfl⟩, rfl, rfl, rfl, rfl⟩
  · rw [e3 h h2 h3]; exact ⟨f a, ⟨by omega, by omega⟩, ⟨rfl, rfl, rfl, rfl, rfl⟩, rfl, rfl, rfl, rfl⟩
  · rw [e4 h h2 h3]; exact ⟨f o, ⟨by omega, by omega⟩, f a, ⟨by omega, by omega⟩, f b, ⟨by omega, by omega⟩, ⟨rfl, rfl, rfl, rfl, rfl⟩, rfl, rfl, rfl, rfl⟩

theorem put3_e0 {l : List PartD} {p : PartD} (h : p.clash = false) (h' : p.lines = []) : put3 l p = l := by unfold put3; rw [if_pos ⟨h, h'⟩]
theorem put3_e1 {m : List PartD} {q p : PartD} (h : q.clash = false) (h' : p.clash = false) (hx : ¬ p.lines = []) : put3 (m ++ [q]) p = m ++ [⟨q.clash, q.lines ++ p.lines, q.old, q.one, q.two⟩] := by unfold put3; rw [if_neg (by simp -implicitDefEqProofs [hx])]; simp -implicitDefEqProofs [h, h']
theorem put3_e2 {m : List PartD} {q p : PartD} (h : q.clash = true) (hx : ¬ (p.clash = false ∧ p.lines = [])) : put3 (m ++ [q]) p = m ++ [q] ++ [p] := by unfold put3; rw [if_neg hx]; simp -implicitDefEqProofs [h]
theorem put3_e3 {l : List PartD} {p : PartD} (h : p.clash = true) : put3 l p = l ++ [p] := by
  unfold put3; rw [if_neg (by simp -implicitDefEqProofs [h])]
  split
  · simp -implicitDefEqProofs [h]
  · rfl
theorem put3_e4 {p : PartD} (h : ¬ (p.clash = false ∧ p.lines = [])) : put3 [] p = [p] := by unfold put3; rw [if_neg h]; simp

/-- Calls are of two kinds: with a part all of which is handed over, and with one of lines alone. -/
def l3A : (List PartD × PartD) ⊕ (List PartD × List Str) → List PartD
  | .inl a => a.1
  | .inr a => a.1
def l3P : (List PartD × PartD) ⊕ (List PartD × List Str) → PartD
  | .inl a => a.2
  | .inr a => ⟨false, a.2, [], [], []⟩
def l3Args : (List PartD × PartD) ⊕ (List PartD × List Str) → List AV
  | .inl a => [.own 0 5 (eParts a.1), .agg [.bool a.2.clash, .own 1 1 (eStrs a.2.lines), .own 2 1 (eStrs a.2.old), .own 3 1 (eStrs a.2.one), .own 4 1 (eStrs a.2.two)]]
  | .inr a => [.own 0 5 (eParts a.1), .agg [.bool false, .own 1 1 (eStrs a.2), .nil, .nil, .nil]]
def l3Owns : (List PartD × PartD) ⊕ (List PartD × List Str) → List (Nat × Nat × Nat × List (List D))
  | .inl a => [(0, 270, 5, eParts a.1), (1, 9, 1, eStrs a.2.lines), (2, 9, 1, eStrs a.2.old), (3, 9, 1, eStrs a.2.one), (4, 9, 1, eStrs a.2.two)]
  | .inr a => [(0, 270, 5, eParts a.1), (1, 9, 1, eStrs a.2)]
def cL3Put : Con := { A := (List PartD × PartD) ⊕ (List PartD × List Str), X := Unit, n := 53, args := l3Args, boxes := fun _ => [], pre := fun a => (l3A a).length ≤ 1048576 ∧ (∀ q ∈ l3A a, q.lines.length ≤ 1073741824) ∧ (l3P a).lines.length ≤ 1073741824, post := fun _ _ => True, res := fun a _ => .own 8 5 (eParts (put3 (l3A a) (l3P a))), fin := fun a _ => ownParts 8 (put3 (l3A a) (l3P a)), owns := l3Owns, mv := true }
set_option maxHeartbeats 4000000 in
theorem l3Put_has : Has Tryz.prog 286 cL3Put := by
  refine has_walk mixed tTab_ok (l := []) HasL.nil [0, 1, 3, 4, 5] ((fun a n (_ : Nat) => (fun _ => noInv) a n)) [12287, 12333] Tryz.func286 (by kernel_rfl) (code := _) (by unfold Tryz.f286; rfl) (by kernel_rfl) (by decide) (fun _ => ⟨(), trivial⟩) (by intro h; first | exact fun _ => rfl | cases h) (by kernel_rfl) ?_
  intro a ha
  rcases a with ⟨l, p⟩ | ⟨l, x⟩
  · obtain ⟨h1, h2, h3⟩ : l.length ≤ 1048576 ∧ (∀ q ∈ l, q.lines.length ≤ 1073741824) ∧ p.lines.length ≤ 1073741824 := ha
    simp -implicitDefEqProofs [cL3Put, l3Args, l3Owns, l3A, l3P, Con.fn, tTab]
    try dsimp only
    have f : ∀ (t : List Str), ∀ x ∈ eStrs t, ∀ d ∈ x, match d with | .sl _ _ _ => False | _ => True := fun t => (eStrs_flat t).mpr trivial
    have sn : ∀ k : List PartD, eParts k ++ [[D.bool p.clash, D.sl 9 1 (eStrs p.lines), D.sl 9 1 (eStrs p.old), D.sl 9 1 (eStrs p.one), D.sl 9 1 (eStrs p.two)]] = eParts (k ++ [p]) := fun k => by simp -implicitDefEqProofs [eParts, ePart]
    rw [sn]
    rcases List.eq_nil_or_concat l with rfl | ⟨m, q, rfl⟩
    · simp
      repeat' (first | intro _ | apply And.intro)
      all_goals first | omega | (cases (Eq.trans (Eq.symm ‹p.clash = true›) ‹p.clash = false›)) | exact f _ | exact f _ _ (by assumption) _ (by assumption) | exact put3_e0 (by first | assumption | rfl) (by assumption) | exact (put3_e0 (by first | assumption | rfl) (by assumption)).symm | exact put3_e4 (by simp_all) | exact (put3_e4 (by simp_all)).symm | (rw [put3_e1 (by assumption) (by first | assumption | rfl) (by assumption)]; simp -implicitDefEqProofs [eParts, ePart, eStrs]) | (rw [put3_e3 (by assumption)]; simp) | (rw [put3_e2 (by assumption) (by simp_all)]; simp)
    · have he : ∀ r, (eParts m ++ [r])[m.length]? = some r := fun r => by rw [List.getElem?_append_right (by simp)]; simp
      have hs : ∀ r, (eParts (m ++ [q])).set m.length r = eParts m ++ [r] := fun r => by simp -implicitDefEqProofs [eParts]
      have hq : (m ++ [q])[m.length]? = some q := by simp
      have hql := h2 q (by simp)
      have ee : ∀ r r', (eParts m ++ [r] = eParts (m ++ [r'])) = (r = ePart r') := fun r r' => by simp -implicitDefEqProofs [eParts]
      have h1 : m.length + 1 ≤ 1048576 := by simpa using h1
      simp -implicitDefEqProofs [he, hs, ePart, D.asBool, D.asRows]
      repeat' (first | intro _ | apply And.intro)
      all_goals first | omega | (cases (Eq.trans (Eq.symm ‹p.clash = true›) ‹p.clash = false›)) | exact f _ | exact f _ _ (by assumption) _ (by assumption) | exact put3_e0 (by first | assumption | rfl) (by assumption) | exact (put3_e0 (by first | assumption | rfl) (by assumption)).symm | exact put3_e4 (by simp_all) | exact (put3_e4 (by simp_all)).symm | (rw [put3_e1 (by assumption) (by first | assumption | rfl) (by assumption)]; simp -implicitDefEqProofs [eParts, ePart, eStrs]) | (rw [put3_e3 (by assumption)]; simp) | (rw [put3_e2 (by assumption) (by simp_all)]; simp)
  · obtain ⟨h1, h2, h3⟩ : l.length ≤ 1048576 ∧ (∀ q ∈ l, q.lines.length ≤ 1073741824) ∧ x.length ≤ 1073741824 := ha
    simp -implicitDefEqProofs [cL3Put, l3Args, l3Owns, l3A, l3P, Con.fn, tTab]
    try dsimp only
    have f : ∀ (t : List Str), ∀ x ∈ eStrs t, ∀ d ∈ x, match d with | .sl _ _ _ => False | _ => True := fun t => (eStrs_flat t).mpr trivial
    have sn : ∀ k : List PartD, eParts k ++ [[D.bool false, D.sl 9 1 (eStrs x), D.sl 9 1 [], D.sl 9 1 [], D.sl 9 1 []]] = eParts (k ++ [⟨false, x, [], [], []⟩]) := fun k => by simp -implicitDefEqProofs [eParts, ePart]
    rw [sn]
    rcases List.eq_nil_or_concat l with rfl | ⟨m, q, rfl⟩
    · simp
      repeat' (first | intro _ | apply And.intro)
      all_goals first | omega | (cases (Eq.trans (Eq.symm ‹p.clash = true›) ‹p.clash = false›)) | exact f _ | exact f _ _ (by assumption) _ (by assumption) | exact put3_e0 (by first | assumption | rfl) (by assumption) | exact (put3_e0 (by first | assumption | rfl) (by assumption)).symm | exact put3_e4 (by simp_all) | exact (put3_e4 (by simp_all)).symm | (rw [put3_e1 (by assumption) (by first | assumption | rfl) (by assumption)]; simp -implicitDefEqProofs [eParts, ePart, eStrs]) | (rw [put3_e3 (by assumption)]; simp) | (rw [put3_e2 (by assumption) (by simp_all)]; simp)
    · have he : ∀ r, (eParts m ++ [r])[m.length]? = some r := fun r => by rw [List.getElem?_append_right (by simp)]; simp
      have hs : ∀ r, (eParts (m ++ [q])).set m.length r = eParts m ++ [r] := fun r => by simp -implicitDefEqProofs [eParts]
      have hq : (m ++ [q])[m.length]? = some q := by simp
      have hql := h2 q (by simp)
      have ee : ∀ r r', (eParts m ++ [r] = eParts (m ++ [r'])) = (r = ePart r') := fun r r' => by simp -implicitDefEqProofs [eParts]
      have h1 : m.length + 1 ≤ 1048576 := by simpa using h1
      simp -implicitDefEqProofs [he, hs, ePart, D.asBool, D.asRows]
      repeat' (first | intro _ | apply And.intro)
      all_goals first | omega | (cases (Eq.trans (Eq.symm ‹p.clash = true›) ‹p.clash = false›)) | exact f _ | exact f _ _ (by assumption) _ (by assumption) | exact put3_e0 (by first | assumption | rfl) (by assumption) | exact (put3_e0 (by first | assumption | rfl) (by assumption)).symm | exact put3_e4 (by simp_all) | exact (put3_e4 (by simp_all)).symm | (rw [put3_e1 (by assumption) (by first | assumption | rfl) (by assumption)]; simp -implicitDefEqProofs [eParts, ePart, eStrs]) | (rw [put3_e3 (by assumption)]; simp) | (rw [put3_e2 (by assumption) (by simp_all)]; simp)

end Vx
end Go.Proofs.YtnanellmaelipaaGreatDoor
/-
  Contracts: merged texts (the reference's l3Of, l3Text).
-/
namespace Go.Proofs.YtnanellmaelipaaGreatDoor
namespace Vx
open Go.RowKit
set_option maxRecDepth 8000

theorem mtE_snoc (o a : List Str) : eInts (mt o a 0) ++ [[D.int .i64 (a.length : Int)]] = eInts (mtE o a) := by simp -implicitDefEqProofs [mtE, eInts, eInt]
def l3oI (o a b : List Str) : Inv := ⟨Nat, fun i => ⟨[(0, true, .sl true 1 (eStrs o)), (1, true, .sl true 1 (eStrs a)), (2, true, .sl true 1 (eStrs b)), (6, true, .nil), (7, true, .own 9 5 (eParts (run3 o a b i).out)), (8, true, .own 10 1 (eInts (mtE o a))), (9, true, .own 11 1 (eInts (mtE o b))), (10, true, .int .i64 (run3 o a b i).io), (11, true, .int .i64 (run3 o a b i).ia), (12, true, .int .i64 (run3 o a b i).ib), (13, true, .int .i64 i)], [(9, .own 270 5 true (eParts (run3 o a b i).out)), (10, .own 3 1 true (eInts (mtE o a))), (11, .own 3 1 true (eInts (mtE o b)))]⟩, fun i => i ≤ o.length + 1, fun i => o.length + 1 - i⟩
def cL3Of : Con := .fn 93 (List Str × List Str × List Str) (fun a => [.sl true 1 (eStrs a.1), .sl true 1 (eStrs a.2.1), .sl true 1 (eStrs a.2.2)]) (fun a => a.1.length ≤ 100000 ∧ a.2.1.length ≤ 100000 ∧ a.2.2.length ≤ 100000) (fun a => .own 8 5 (eParts (of3 a.1 a.2.1 a.2.2))) (fun a => ownParts 8 (of3 a.1 a.2.1 a.2.2))
set_option maxHeartbeats 4000000 in
theorem l3Of_has : Has Tryz.prog 272 cL3Of := by
  refine has_walk mixed tTab_ok (l := [(269, cL1Match), (287, cL3Part), (286, cL3Put)]) (HasL.cons l1Match_has (HasL.cons l3Part_has (HasL.cons l3Put_has HasL.nil))) [0, 1, 2, 6, 7, 8, 9, 10, 11, 12, 13] ((fun a n (_ : Nat) => (fun a _ => l3oI a.1 a.2.1 a.2.2) a n)) [] Tryz.func272 (by kernel_rfl) (code := _) (by unfold Tryz.f272; rfl) (by kernel_rfl) (by decide) (fun _ => ⟨(), trivial⟩) (by intro h; first | exact fun _ => rfl | cases h) (by kernel_rfl) ?_
  intro a ha
  obtain ⟨o, a, b⟩ := a
  obtain ⟨h1, h2, h3⟩ : o.length ≤ 100000 ∧ a.length ≤ 100000 ∧ b.length ≤ 100000 := ha
  simp (maxSteps := 4000000) -implicitDefEqProofs [cL3Of, cL1Match, cL3Part, cL3Put, l3Args, l3Owns, l3A, l3P, Con.fn, tTab, l3oI, Sum.exists]
  try dsimp only
  have ea := mtE_snoc o a
  have eb := mtE_snoc o b
  have la := mtE_len o a
  have lb := mtE_len o b
  have m1 := mt_len o a 0
  have m2 := mt_len o b 0
  refine ⟨o, a, ⟨rfl, rfl⟩, ⟨by omega, by omega⟩, fun _ => ⟨⟨by omega, by omega⟩, o, b, ⟨rfl, rfl⟩, ⟨by omega, by omega⟩, fun _ => ⟨⟨by omega, by omega⟩, ⟨0, ⟨⟨rfl, ea.symm, eb.symm, rfl, rfl, rfl, rfl⟩, rfl, ea, eb⟩, Nat.zero_le _⟩, fun t ht hla => ⟨fun hlt => ?_, fun hge => ?_⟩⟩⟩⟩
  · have ok := ok3_run o a b t ht
    have st : run3 o a b (t + 1) = step3 o a b ((mtE o a).getD t 0) ((mtE o b).getD t 0) t (run3 o a b t) := rfl
    obtain ⟨k1, k2, k3, k4, k5, k6, k7⟩ := ok
    have ga : (mtE o a).getD t 0 = (mtE o a)[t]'(by omega) := by simp -implicitDefEqProofs [List.getD_eq_getElem?_getD, List.getElem?_eq_getElem (show t < (mtE o a).length by omega)]
    have gb : (mtE o b).getD t 0 = (mtE o b)[t]'(by omega) := by simp -implicitDefEqProofs [List.getD_eq_getElem?_getD, List.getElem?_eq_getElem (show t < (mtE o b).length by omega)]
    have k4 := asc_at (l := mtE o a) (by omega) k4
    have k5 := asc_at (l := mtE o b) (by omega) k5
    have oa : (mtE o a)[t]? = some ((mtE o a)[t]'(by omega)) := List.getElem?_eq_getElem (by omega)
    have ob : (mtE o b)[t]? = some ((mtE o b)[t]'(by omega)) := List.getElem?_eq_getElem (by omega)
    rw [ga, gb] at st
    rw [oa, ob]
    generalize (mtE o a)[t]'(by omega) = x at *
    generalize (mtE o b)[t]'(by omega) = y at *
    generalize run3 o a b t = S at *
    obtain ⟨io, ia, ib, out⟩ := S
    simp only at k1 k2 k3 k4 k5 k6 k7
    simp -implicitDefEqProofs [eInt, D.asInt, hlt, la, lb, eStrs_take, eStrs_drop]
    have skip : x < 0 ∨ y < 0 → run3 o a b (t + 1) = ⟨io, ia, ib, out⟩ := fun h => by rw [st]; unfold step3; rw [if_pos h]
    have p1 : (List.take (t - io) (List.drop io o)) = (o.take t).drop io := (List.drop_take).symm
    have p2 : (List.take (x.toNat - ia) (List.drop ia a)) = (a.take x.toNat).drop ia := (List.drop_take).symm
    have p3 : (List.take (y.toNat - ib) (List.drop ib b)) = (b.take y.toNat).drop ib := (List.drop_take).symm
    rw [p1, p2, p3]
    refine ⟨by omega, fun _ => ⟨fun hx => ⟨⟨by omega, by omega⟩, fun _ _ => ⟨t + 1, by rw [skip (.inl hx)]; exact ⟨⟨⟨rfl, rfl, rfl, rfl, by omega⟩, rfl⟩, by omega, by omega⟩⟩⟩, fun hx => ⟨by omega, fun _ => ⟨fun hy => ⟨⟨by omega, by omega⟩, fun _ _ => ⟨t + 1, by rw [skip (.inr hy)]; exact ⟨⟨⟨rfl, rfl, rfl, rfl, by omega⟩, rfl⟩, by omega, by omega⟩⟩⟩, fun hy => ?_⟩⟩⟩⟩
    have st2 : run3 o a b (t + 1) = ⟨t + 1, x.toNat + 1, y.toNat + 1, if t < o.length then put3 (put3 out (part3 ((o.take t).drop io) ((a.take x.toNat).drop ia) ((b.take y.toNat).drop ib))) ⟨false, [o.getD t []], [], [], []⟩ else put3 out (part3 ((o.take t).drop io) ((a.take x.toNat).drop ia) ((b.take y.toNat).drop ib))⟩ := by rw [st]; unfold step3; rw [if_neg (by omega)]
    have l1 : ((o.take t).drop io).length ≤ 100000 := by simp; omega
    have l2 : ((a.take x.toNat).drop ia).length ≤ 100000 := by simp; omega
    have l3 : ((b.take y.toNat).drop ib).length ≤ 100000 := by simp; omega
    have pl := part3_lines ((o.take t).drop io) ((a.take x.toNat).drop ia) ((b.take y.toNat).drop ib)
    refine ⟨⟨k1, by omega⟩, fun _ _ => ⟨by omega, fun _ => ⟨⟨by omega, by omega⟩, fun _ _ => ⟨by omega, fun _ => ⟨⟨by omega, by omega⟩, fun _ _ => ⟨_, _, _, ⟨rfl, rfl, rfl⟩, ⟨by omega, by omega, by omega⟩, out, part3 _ _ _, ⟨rfl, rfl, rfl, rfl, rfl, rfl⟩, ⟨rfl, rfl, rfl, rfl, rfl⟩, ?_, ?_⟩⟩⟩⟩⟩⟩
    · rintro q1 q2 (⟨rfl, rfl⟩ | ⟨rfl, rfl⟩ | ⟨rfl, rfl⟩ | ⟨rfl, rfl⟩ | ⟨rfl, rfl⟩) <;> simp
    have pl2 := put3_len out (part3 ((o.take t).drop io) ((a.take x.toNat).drop ia) ((b.take y.toNat).drop ib))
    have pb := put3_bd (p := part3 ((o.take t).drop io) ((a.take x.toNat).drop ia) ((b.take y.toNat).drop ib)) k7
    generalize part3 ((o.take t).drop io) ((a.take x.toNat).drop ia) ((b.take y.toNat).drop ib) = p at *
    refine ⟨⟨by omega, fun q hq => by have := k7 q hq; omega, by omega⟩, fun _ => ⟨fun hto => ?_, fun hto => ?_⟩⟩
    · have go : o.getD t [] = o[t] := by simp -implicitDefEqProofs [List.getD_eq_getElem?_getD, hto]
      rw [if_pos hto, go] at st2
      simp -implicitDefEqProofs [hto, eStr, D.asStr]
      refine ⟨put3 out p, [o[t]], ⟨rfl, rfl⟩, ⟨rfl, rfl⟩, ?_, ⟨by omega, fun q hq => by have := pb q hq; omega, by simp⟩, ⟨by omega, by omega⟩, fun _ _ => ⟨by omega, fun _ => ⟨⟨by omega, by omega⟩, fun _ _ => ⟨by omega, fun _ => ⟨⟨by omega, by omega⟩, fun _ _ => ⟨⟨by omega, by omega⟩, fun _ _ => ⟨t + 1, ?_⟩⟩⟩⟩⟩⟩⟩
      · rintro q1 q2 (⟨rfl, rfl⟩ | ⟨rfl, rfl⟩) <;> simp
      · rw [st2]
        exact ⟨⟨⟨rfl, by simp, by simp; omega, by simp; omega, by omega⟩, rfl⟩, by omega, by omega⟩
    · rw [if_neg (by omega)] at st2
      refine ⟨⟨by omega, by omega⟩, fun _ _ => ⟨by omega, fun _ => ⟨⟨by omega, by omega⟩, fun _ _ => ⟨by omega, fun _ => ⟨⟨by omega, by omega⟩, fun _ _ => ⟨⟨by omega, by omega⟩, fun _ _ => ⟨t + 1, ?_⟩⟩⟩⟩⟩⟩⟩
      rw [st2]
      exact ⟨⟨⟨rfl, by simp, by simp; omega, by simp; omega, by omega⟩, rfl⟩, by omega, by omega⟩
  · have : t = o.length + 1 := by omega
    subst this
    exact ⟨rfl, rfl⟩

def linesF (l : List PartD) (i : Nat) : List Str := (l.take i).flatMap (·.lines)
def cL3Text : Con := .fn 29 (List PartD) (fun l => [.sl true 5 (eParts l)]) (fun l => l.length ≤ 1048576 ∧ ∀ q ∈ l, q.lines.length ≤ 1048576) (fun l => .tup [.sl false 1 (eStrs (text3 l).1), .bool (text3 l).2]) (fun _ => [])
set_option maxHeartbeats 4000000 in
theorem l3Text_has : Has Tryz.prog 271 cL3Text := by
  refine has_walk mixed tTab_ok (l := [(165, cL1Ok)]) (HasL.cons l1Ok_has HasL.nil) [0, 2, 3, 4, 5] ((fun a n (_ : Nat) => (fun l _ => ⟨Nat, fun i => ⟨[(0, true, .sl true 5 (eParts l)), (2, true, .nil), (3, true, .bool false), (4, true, .own 9 1 (eStrs (linesF l i))), (5, true, .int .i64 i)], [(9, .own 9 1 true (eStrs (linesF l i)))]⟩, fun i => i ≤ l.length ∧ (l.take i).any (·.clash) = false, fun i => l.length - i⟩) a n)) [] Tryz.func271 (by kernel_rfl) (code := _) (by unfold Tryz.f271; rfl) (by kernel_rfl) (by decide) (fun _ => ⟨(), trivial⟩) (by intro h; first | exact fun _ => rfl | cases h) (by kernel_rfl) ?_
  intro (l : List PartD) ha
  obtain ⟨h1, h2⟩ : l.length ≤ 1048576 ∧ ∀ q ∈ l, q.lines.length ≤ 1048576 := ha
  simp -implicitDefEqProofs [cL3Text, cL1Ok, Con.fn, tTab]
  try dsimp only
  have hl0 : ∀ i, i ≤ l.length → (linesF l i).length ≤ i * 1048576 := fun i => by
    induction i with
    | zero => intro _; simp -implicitDefEqProofs [linesF]
    | succ i ih =>
      intro h
      have e : linesF l (i + 1) = linesF l i ++ l[i].lines := by unfold linesF; rw [take_succ' (show i < l.length by omega), List.flatMap_append]; simp
      have := h2 l[i] (List.getElem_mem _)
      have := ih (by omega)
      rw [e, List.length_append]; clear e; omega
  have f : ∀ (t : List Str), ∀ x ∈ eStrs t, ∀ d ∈ x, match d with | .sl _ _ _ => False | _ => True := fun t => (eStrs_flat t).mpr trivial
  have hn0 : (∃ q ∈ l, q.clash = true) → text3 l = ([], false) := fun ⟨q, h, h'⟩ => by unfold text3; rw [if_pos (by simp; exact ⟨q, h, h'⟩)]
  have hn1 : (∀ q ∈ l, q.clash = false) → textB (linesF l l.length) = false → text3 l = ([], false) := fun h h' => by
    unfold text3 linesF at *; rw [List.take_length] at h'; rw [if_neg (by simp; exact h), if_neg (by simp -implicitDefEqProofs [h'])]
  have hn2 : (∀ q ∈ l, q.clash = false) → textB (linesF l l.length) = true → text3 l = (linesF l l.length, true) := fun h h' => by
    unfold text3 linesF at *; rw [List.take_length] at *; rw [if_neg (by simp; exact h), if_pos h']
  refine ⟨⟨0, ⟨⟨rfl, rfl⟩, rfl⟩, Nat.zero_le _, by simp⟩, fun t ht hc _ => ⟨fun hlt => ⟨hlt, fun _ => ?_⟩, fun hge => ?_⟩⟩
  · have e : linesF l (t + 1) = linesF l t ++ l[t].lines := by unfold linesF; rw [take_succ' hlt, List.flatMap_append]; simp
    have q1 := h2 l[t] (List.getElem_mem hlt)
    have q2 := hl0 t ht
    have q3 : l[t] ∈ l := List.getElem_mem hlt
    have q4 : ∀ x ∈ l.take (t + 1), x ∈ l.take t ∨ x = l[t] := fun x hx => by rw [take_succ' hlt] at hx; exact (List.mem_append.1 hx).imp id (fun h => List.mem_singleton.1 h)
    have qq : Option.map ePart l[t]? = some (ePart l[t]) := by simp -implicitDefEqProofs [hlt]
    rw [qq]
    generalize l[t] = q at *
    simp -implicitDefEqProofs [ePart, D.asBool, D.asRows]
    refine ⟨fun h => by rw [hn0 ⟨q, q3, h⟩]; exact ⟨rfl, rfl⟩, fun h => ⟨hlt, fun _ => ⟨f _, ⟨by omega, by omega⟩, ⟨by omega, by omega⟩, fun _ _ => ⟨t + 1, ⟨⟨by rw [e, eStrs_append], by omega⟩, by rw [e, eStrs_append]⟩, ⟨by omega, fun x hx => (q4 x hx).elim (hc x) (fun hx => hx ▸ h)⟩, by omega⟩⟩⟩⟩
  · have : t = l.length := by omega
    subst this
    rw [List.take_length] at hc
    exact ⟨fun h => by rw [hn1 hc h]; exact ⟨rfl, rfl⟩, fun h => by rw [hn2 hc h]; exact ⟨rfl, rfl⟩⟩

end Vx
end Go.Proofs.YtnanellmaelipaaGreatDoor
/-
  Contracts: trees made one (the reference's l6Same, l6One).
-/
namespace Go.Proofs.YtnanellmaelipaaGreatDoor
namespace Vx
open Go.RowKit
set_option maxRecDepth 8000

def cL6Same : Con := .fn 21 ((List Str × Bool) × (List Str × Bool)) (fun a => [.sl true 1 (eStrs a.1.1), .bool a.1.2, .sl true 1 (eStrs a.2.1), .bool a.2.2]) (fun _ => True) (fun a => .bool (same6 a.1 a.2)) (fun _ => [])
set_option maxHeartbeats 4000000 in
theorem l6Same_has : Has Tryz.prog 270 cL6Same := by
  refine has_walk mixed tTab_ok (l := [(236, cL1Same)]) (HasL.cons l1Same_has HasL.nil) [0, 1, 2, 3, 8] ((fun a n (_ : Nat) => (fun _ => noInv) a n)) [] Tryz.func270 (by kernel_rfl) (code := _) (by unfold Tryz.f270; rfl) (by kernel_rfl) (by decide) (fun _ => ⟨(), trivial⟩) (by intro h; first | exact fun _ => rfl | cases h) (by kernel_rfl) ?_
  intro a _
  obtain ⟨⟨x, i⟩, y, j⟩ := a
  simp -implicitDefEqProofs [cL6Same, cL1Same, Con.fn, tTab]
  try dsimp only
  cases i <;> cases j <;> simp -implicitDefEqProofs [same6, and_assoc]

theorem of3_bd (o a b : List Str) : (of3 o a b).length ≤ 2 * (o.length + 1) ∧ ∀ q ∈ of3 o a b, q.lines.length ≤ o.length + a.length + b.length + 3 := by
  obtain ⟨h1, h2, h3, h4, h5, h6, h7⟩ := ok3_run o a b (o.length + 1) (Nat.le_refl _)
  exact ⟨h6, fun q hq => by have := h7 q hq; omega⟩
def cL6One : Con := .fn 82 (List FileD × List FileD × List FileD × Str) (fun a => [.sl true 2 (eFiles a.1), .sl true 2 (eFiles a.2.1), .sl true 2 (eFiles a.2.2.1), .str a.2.2.2]) (fun a => (∀ f ∈ a.1, f.text.length ≤ 64) ∧ (∀ f ∈ a.2.1, f.text.length ≤ 64) ∧ ∀ f ∈ a.2.2.1, f.text.length ≤ 64) (fun a => .tup [.sl false 1 (eStrs (one6 a.1 a.2.1 a.2.2.1 a.2.2.2).1), .bool (one6 a.1 a.2.1 a.2.2.1 a.2.2.2).2.1, .int .i64 (one6 a.1 a.2.1 a.2.2.1 a.2.2.2).2.2]) (fun _ => [])
set_option maxHeartbeats 4000000 in
theorem l6One_has : Has Tryz.prog 239 cL6One := by
  refine has_walk mixed tTab_ok (l := [(160, cL4Get), (270, cL6Same), (272, cL3Of), (271, cL3Text)]) (HasL.cons l4Get_has (HasL.cons l6Same_has (HasL.cons l3Of_has (HasL.cons l3Text_has HasL.nil)))) [0, 1, 2, 3, 8, 9, 10, 11, 12, 13, 14, 15, 16, 17, 18, 37] ((fun a n (_ : Nat) => (fun _ => noInv) a n)) [] Tryz.func239 (by kernel_rfl) (code := _) (by unfold Tryz.f239; rfl) (by kernel_rfl) (by decide) (fun _ => ⟨(), trivial⟩) (by intro h; first | exact fun _ => rfl | cases h) (by kernel_rfl) ?_
  intro a ha
  obtain ⟨o, a, b, p⟩ := a
  obtain ⟨h1, h2, h3⟩ : (∀ f ∈ o, f.text.length ≤ 64) ∧ (∀ f ∈ a, f.text.length ≤ 64) ∧ ∀ f ∈ b, f.text.length ≤ 64 := ha
  have g1 := getL_len h1 p
  have g2 := getL_len h2 p
  have g3 := getL_len h3 p
  simp (maxSteps := 8000000) -implicitDefEqProofs [-kStep_move, -Bool.exists_bool, cL6One, cL4Get, cL6Same, cL3Of, cL3Text, Con.fn, tTab]
  try dsimp only
  have so : ∀ x y : List Str × Bool, same6 (x.1, x.2) (y.1, y.2) = same6 x y := fun _ _ => rfl
  have ob := of3_bd (getL o p).1 (getL a p).1 (getL b p).1
  generalize hO : getL o p = O at *
  generalize hA : getL a p = A at *
  generalize hB : getL b p = B at *
  have e1 : (same6 A O = true ∨ same6 A B = true) → one6 o a b p = (B.1, B.2, 0) := fun h => by unfold one6; rw [hO, hA, hB]; rw [if_pos (by simpa using h)]
  have e2 : same6 A O = false → same6 A B = false → same6 B O = true → one6 o a b p = (A.1, A.2, 0) := fun h h' h2 => by unfold one6; rw [hO, hA, hB]; rw [if_neg (by simp -implicitDefEqProofs [h, h']), if_pos h2]
  have e3 : same6 A O = false → same6 A B = false → same6 B O = false → (A.2 = false ∨ B.2 = false) → one6 o a b p = (O.1, O.2, 1) := fun h h' h2 h3 => by unfold one6; rw [hO, hA, hB]; rw [if_neg (by simp -implicitDefEqProofs [h, h']), if_neg (by simp -implicitDefEqProofs [h2]), if_pos (by simpa using h3)]
  have e4 : same6 A O = false → same6 A B = false → same6 B O = false → A.2 = true → B.2 = true → O.2 = false → one6 o a b p = ([], false, 2) := fun h h' h2 h3 h4 h5 => by unfold one6; rw [hO, hA, hB]; rw [if_neg (by simp -implicitDefEqProofs [h, h']), if_neg (by simp -implicitDefEqProofs [h2]), if_neg (by simp -implicitDefEqProofs [h3, h4]), if_pos (by simp -implicitDefEqProofs [h5])]
  have e5 : same6 A O = false → same6 A B = false → same6 B O = false → A.2 = true → B.2 = true → O.2 = true → (text3 (of3 O.1 A.1 B.1)).2 = true → one6 o a b p = ((text3 (of3 O.1 A.1 B.1)).1, true, 0) := fun h h' h2 h3 h4 h5 h6 => by unfold one6; rw [hO, hA, hB]; rw [if_neg (by simp -implicitDefEqProofs [h, h']), if_neg (by simp -implicitDefEqProofs [h2]), if_neg (by simp -implicitDefEqProofs [h3, h4]), if_neg (by simp -implicitDefEqProofs [h5]), if_pos h6]
  have e6 : same6 A O = false → same6 A B = false → same6 B O = false → A.2 = true → B.2 = true → O.2 = true → (text3 (of3 O.1 A.1 B.1)).2 = false → one6 o a b p = (O.1, true, 3) := fun h h' h2 h3 h4 h5 h6 => by unfold one6; rw [hO, hA, hB]; rw [if_neg (by simp -implicitDefEqProofs [h, h']), if_neg (by simp -implicitDefEqProofs [h2]), if_neg (by simp -implicitDefEqProofs [h3, h4]), if_neg (by simp -implicitDefEqProofs [h5]), if_neg (by simp -implicitDefEqProofs [h6])]
  refine ⟨o, p, ⟨rfl, rfl⟩, a, p, ⟨rfl, rfl⟩, b, p, ⟨rfl, rfl⟩, ?_⟩
  rw [hO, hA, hB]
  refine ⟨_, _, _, _, ⟨rfl, rfl, rfl, rfl⟩, fun h => ⟨fun _ => ?_, fun h' => absurd (h.symm.trans h') (by decide)⟩, fun h => ⟨_, _, _, _, ⟨rfl, rfl, rfl, rfl⟩, fun h2 => ?_, fun h2 => ⟨_, _, _, _, ⟨rfl, rfl, rfl, rfl⟩, fun h3 => ?_, fun h3 => ⟨fun h4 => ?_, fun h4 h5 => ⟨fun h6 => ?_, fun h6 => ⟨_, _, _, ⟨rfl, rfl, rfl⟩, ⟨by omega, by omega, by omega⟩, ⟨by omega, fun q hq => by have := ob.2 q hq; omega⟩, ?_⟩⟩⟩⟩⟩⟩
  · rw [e1 (.inl h)]; exact ⟨rfl, rfl, rfl⟩
  · rw [e1 (.inr h2)]; exact ⟨rfl, rfl, rfl⟩
  · rw [e2 h h2 h3]; exact ⟨rfl, rfl, rfl⟩
  · rw [e3 h h2 h3 h4]; exact ⟨rfl, rfl, rfl⟩
  · rw [e4 h h2 h3 h4 h5 h6]; exact ⟨rfl, rfl, rfl⟩
  · exact ⟨fun h7 => by rw [e6 h h2 h3 h4 h5 h6 h7]; exact ⟨rfl, rfl, rfl⟩, fun h7 => by rw [e5 h h2 h3 h4 h5 h6 h7]; exact ⟨rfl, rfl, rfl⟩⟩

end Vx
end Go.Proofs.YtnanellmaelipaaGreatDoor
/-
  Contracts: paths of trees, trees made one (the reference's l5Put, l6Paths, l6Of, l6Join).
-/
namespace Go.Proofs.YtnanellmaelipaaGreatDoor
namespace Vx
open Go.RowKit
set_option maxRecDepth 8000

def cL5Put : Con := .fn 48 (List Str × Str) (fun a => [.sl true 1 (eStrs a.1), .str a.2]) (fun a => a.1.length ≤ 1073741824) (fun a => .sl false 1 (eStrs (putS a.1 a.2))) (fun _ => [])
set_option maxHeartbeats 4000000 in
theorem l5Put_has : Has Tryz.prog 174 cL5Put := by
  refine has_walk mixed tTab_ok (l := []) HasL.nil [0, 1, 4, 5, 6] ((fun a n (_ : Nat) => (fun a _ => ⟨Nat, fun k => ⟨[(0, true, .sl true 1 (eStrs a.1)), (1, true, .str a.2), (4, true, .nil), (5, true, .int .i64 k)], []⟩, fun k => k ≤ a.1.length ∧ a.1.take k ++ putS (a.1.drop k) a.2 = putS a.1 a.2, fun k => a.1.length - k⟩) a n)) [] Tryz.func174 (by kernel_rfl) (code := _) (by unfold Tryz.f174; rfl) (by kernel_rfl) (by decide) (fun _ => ⟨(), trivial⟩) (by intro h; first | exact fun _ => rfl | cases h) (by kernel_rfl) ?_
  intro a ha
  obtain ⟨l, s⟩ := a
  replace ha : l.length ≤ 1073741824 := ha
  simp -implicitDefEqProofs [cL5Put, Con.fn, tTab]
  try dsimp only
  have f : ∀ (t : List Str), ∀ x ∈ eStrs t, ∀ d ∈ x, match d with | .sl _ _ _ => False | _ => True := fun t => (eStrs_flat t).mpr trivial
  have f1 : ∀ t, ∀ x ∈ List.take t (eStrs l), ∀ d ∈ x, match d with | .sl _ _ _ => False | _ => True := fun t => by rw [eStrs_take]; exact f _
  have f2 : ∀ t, ∀ x ∈ List.take (l.length - t) (List.drop t (eStrs l)), ∀ d ∈ x, match d with | .sl _ _ _ => False | _ => True := fun t => by rw [eStrs_drop, eStrs_take]; exact f _
  have fin : ∀ t, putS l s = l.take t ++ [s] ++ l.drop t → eStrs (putS l s) = List.take t (eStrs l) ++ [D.str s] :: List.take (l.length - t) (List.drop t (eStrs l)) := fun t h => by
    rw [h, eStrs_drop, eStrs_take, eStrs_take, List.take_of_length_le (show (l.drop t).length ≤ l.length - t by simp)]
    simp -implicitDefEqProofs [eStrs, eStr]
  refine fun t ht hp _ => ⟨fun hlt => ⟨hlt, fun _ => ?_⟩, fun hge _ => ⟨fun hlt => absurd hlt (by omega), fun _ => ⟨ht, fun _ => ⟨f1 t, ⟨by omega, by omega⟩, ⟨by omega, by omega⟩, ht, fun _ => ⟨f2 t, ⟨by omega, by omega⟩, fin t (putS_end hge hp)⟩⟩⟩⟩⟩
  have qq : Option.map eStr l[t]? = some (eStr l[t]) := by simp -implicitDefEqProofs [hlt]
  rw [qq]
  have g1 := putS_step hlt hp
  have g2 := putS_eq hlt hp
  have g3 := putS_ne hlt hp
  generalize l[t] = y at *
  simp -implicitDefEqProofs [eStr, D.asStr]
  refine ⟨fun h => ⟨⟨by omega, by omega⟩, fun _ _ => ⟨t + 1, by omega, ⟨by omega, g1 h⟩, by omega⟩⟩, fun h _ => ⟨fun _ => ⟨hlt, fun _ => ⟨fun e => g2 h e, fun e => ⟨ht, fun _ => ⟨f1 t, ⟨by omega, by omega⟩, ⟨by omega, by omega⟩, ht, fun _ => ⟨f2 t, ⟨by omega, by omega⟩, fin t (g3 h e)⟩⟩⟩⟩⟩, fun hge => absurd hlt (by omega)⟩⟩

def l6pI1 (o a b : List FileD) : Inv := ⟨Nat, fun i => ⟨[(0, true, .sl true 2 (eFiles o)), (1, true, .sl true 2 (eFiles a)), (2, true, .sl true 2 (eFiles b)), (6, true, .nil), (7, true, .sl false 1 (eStrs (putFs [] (o.take i)))), (8, true, .int .i64 i)], []⟩, fun i => i ≤ o.length, fun i => o.length - i⟩
def l6pI2 (o a b : List FileD) : Inv := ⟨Nat, fun i => ⟨[(0, true, .sl true 2 (eFiles o)), (1, true, .sl true 2 (eFiles a)), (2, true, .sl true 2 (eFiles b)), (6, true, .nil), (7, true, .sl false 1 (eStrs (putFs (putFs [] o) (a.take i)))), (9, true, .int .i64 i)], []⟩, fun i => i ≤ a.length, fun i => a.length - i⟩
def l6pI3 (o a b : List FileD) : Inv := ⟨Nat, fun i => ⟨[(0, true, .sl true 2 (eFiles o)), (1, true, .sl true 2 (eFiles a)), (2, true, .sl true 2 (eFiles b)), (6, true, .nil), (7, true, .sl false 1 (eStrs (putFs (putFs (putFs [] o) a) (b.take i)))), (10, true, .int .i64 i)], []⟩, fun i => i ≤ b.length, fun i => b.length - i⟩
def l6pInv (o a b : List FileD) (n : Nat) : Inv := if n = 3 then l6pI1 o a b else if n = 7 then l6pI2 o a b else l6pI3 o a b
theorem l6pInv_3 (o a b : List FileD) : l6pInv o a b 3 = l6pI1 o a b := rfl
theorem l6pInv_7 (o a b : List FileD) : l6pInv o a b 7 = l6pI2 o a b := rfl
theorem l6pInv_11 (o a b : List FileD) : l6pInv o a b 11 = l6pI3 o a b := rfl
def cL6Paths : Con := .fn 52 (List FileD × List FileD × List FileD) (fun a => [.sl true 2 (eFiles a.1), .sl true 2 (eFiles a.2.1), .sl true 2 (eFiles a.2.2)]) (fun a => a.1.length ≤ 1048576 ∧ a.2.1.length ≤ 1048576 ∧ a.2.2.length ≤ 1048576) (fun a => .sl false 1 (eStrs (paths6 a.1 a.2.1 a.2.2))) (fun _ => [])
set_option maxHeartbeats 4000000 in
theorem l6Paths_has : Has Tryz.prog 159 cL6Paths := by
  refine has_walk mixed tTab_ok (l := [(174, cL5Put)]) (HasL.cons l5Put_has HasL.nil) [0, 1, 2, 6, 7, 8, 9, 10] ((fun a n (_ : Nat) => (fun a n => l6pInv a.1 a.2.1 a.2.2 n) a n)) [] Tryz.func159 (by kernel_rfl) (code := _) (by unfold Tryz.f159; rfl) (by kernel_rfl) (by decide) (fun _ => ⟨(), trivial⟩) (by intro h; first | exact fun _ => rfl | cases h) (by kernel_rfl) ?_
  intro a ha
  obtain ⟨o, a, b⟩ := a
  obtain ⟨h1, h2, h3⟩ : o.length ≤ 1048576 ∧ a.length ≤ 1048576 ∧ b.length ≤ 1048576 := ha
  simp -implicitDefEqProofs [cL6Paths, cL5Put, Con.fn, tTab, l6pInv_3, l6pInv_7, l6pInv_11, l6pI1, l6pI2, l6pI3]
  try dsimp only
  have b1 := putFs_len o []
  have b2 := putFs_len a (putFs [] o)
  simp only [List.length_nil] at b1
  have z : ([] : List Str).length = 0 := rfl
  refine ⟨⟨0, ⟨rfl, rfl⟩, Nat.zero_le _⟩, fun t ht _ => ⟨fun hlt => ⟨hlt, fun _ => ?_⟩, fun hge => ⟨⟨0, ⟨by rw [List.take_of_length_le hge]; rfl, rfl⟩, Nat.zero_le _⟩, fun u hu _ => ⟨fun hlt => ⟨hlt, fun _ => ?_⟩, fun hge => ⟨⟨0, ⟨by rw [List.take_of_length_le hge]; rfl, rfl⟩, Nat.zero_le _⟩, fun v hv _ => ⟨fun hlt => ⟨hlt, fun _ => ?_⟩, fun hge => by rw [List.take_of_length_le hge]; rfl⟩⟩⟩⟩⟩⟩
  · have hb := putFs_len (o.take t) ([])
    have hl : (o.take t).length ≤ o.length := by simp; omega
    have qq : Option.map eFile o[t]? = some (eFile o[t]) := by simp -implicitDefEqProofs [hlt]
    have hs := putFs_succ (l := []) hlt
    rw [qq]
    simp -implicitDefEqProofs [eFile, D.asStr]
    exact ⟨_, _, ⟨rfl, rfl⟩, by omega, ⟨by omega, by omega⟩, fun _ _ => ⟨t + 1, ⟨hs, by omega⟩, by omega, by omega⟩⟩
  · have hb := putFs_len (a.take u) (putFs [] o)
    have hl : (a.take u).length ≤ a.length := by simp; omega
    have qq : Option.map eFile a[u]? = some (eFile a[u]) := by simp -implicitDefEqProofs [hlt]
    have hs := putFs_succ (l := putFs [] o) hlt
    rw [qq]
    simp -implicitDefEqProofs [eFile, D.asStr]
    exact ⟨_, _, ⟨rfl, rfl⟩, by omega, ⟨by omega, by omega⟩, fun _ _ => ⟨u + 1, ⟨hs, by omega⟩, by omega, by omega⟩⟩
  · have hb := putFs_len (b.take v) (putFs (putFs [] o) a)
    have hl : (b.take v).length ≤ b.length := by simp; omega
    have qq : Option.map eFile b[v]? = some (eFile b[v]) := by simp -implicitDefEqProofs [hlt]
    have hs := putFs_succ (l := putFs (putFs [] o) a) hlt
    rw [qq]
    simp -implicitDefEqProofs [eFile, D.asStr]
    exact ⟨_, _, ⟨rfl, rfl⟩, by omega, ⟨by omega, by omega⟩, fun _ _ => ⟨v + 1, ⟨hs, by omega⟩, by omega, by omega⟩⟩

abbrev ownClash (h : Nat) (a : List HeadD) : List (Nat × Blk) := [(h, .own 211 2 true (eHeads a))]
def l6oI (o a b : List FileD) : Inv := ⟨Nat, fun i => ⟨[(0, true, .sl true 2 (eFiles o)), (1, true, .sl true 2 (eFiles a)), (2, true, .sl true 2 (eFiles b)), (6, true, .nil), (7, true, .nil), (8, true, .own 9 2 (eFiles (runJ o a b ((paths6 o a b).take i)).1)), (9, true, .own 10 2 (eHeads (runJ o a b ((paths6 o a b).take i)).2)), (10, true, .sl false 1 (eStrs (paths6 o a b))), (11, true, .int .i64 i)], [(9, .own 61 2 true (eFiles (runJ o a b ((paths6 o a b).take i)).1)), (10, .own 211 2 true (eHeads (runJ o a b ((paths6 o a b).take i)).2))]⟩, fun i => i ≤ (paths6 o a b).length, fun i => (paths6 o a b).length - i⟩
def szT (t : List FileD) : Prop := t.length ≤ 100000 ∧ ∀ f ∈ t, f.text.length ≤ 64
def cL6Of : Con := .fn 64 (List FileD × List FileD × List FileD) (fun a => [.sl true 2 (eFiles a.1), .sl true 2 (eFiles a.2.1), .sl true 2 (eFiles a.2.2)]) (fun a => szT a.1 ∧ szT a.2.1 ∧ szT a.2.2) (fun a => .tup [.own 8 2 (eFiles (of6 a.1 a.2.1 a.2.2).1), .own 9 2 (eHeads (of6 a.1 a.2.1 a.2.2).2)]) (fun a => ownFiles 8 (of6 a.1 a.2.1 a.2.2).1 ++ ownClash 9 (of6 a.1 a.2.1 a.2.2).2)
set_option maxHeartbeats 4000000 in
theorem l6Of_has : Has Tryz.prog 210 cL6Of := by
  refine has_walk mixed tTab_ok (l := [(159, cL6Paths), (239, cL6One)]) (HasL.cons l6Paths_has (HasL.cons l6One_has HasL.nil)) [0, 1, 2, 6, 7, 8, 9, 10, 11, 12, 13, 14] ((fun a n (_ : Nat) => (fun a _ => l6oI a.1 a.2.1 a.2.2) a n)) [60] Tryz.func210 (by kernel_rfl) (code := _) (by unfold Tryz.f210; rfl) (by kernel_rfl) (by decide) (fun _ => ⟨(), trivial⟩) (by intro h; first | exact fun _ => rfl | cases h) (by kernel_rfl) ?_
  intro a ha
  obtain ⟨o, a, b⟩ := a
  obtain ⟨⟨h1, h1'⟩, ⟨h2, h2'⟩, h3, h3'⟩ : szT o ∧ szT a ∧ szT b := ha
  simp -implicitDefEqProofs [cL6Of, cL6Paths, cL6One, Con.fn, tTab, l6oI]
  try dsimp only
  have hp := paths6_len o a b
  refine ⟨o, a, b, ⟨rfl, rfl, rfl⟩, ⟨by omega, by omega, by omega⟩, ⟨0, ⟨⟨rfl, rfl, rfl, rfl⟩, rfl, rfl⟩, Nat.zero_le _⟩, fun t ht _ => ⟨fun hlt => ⟨hlt, fun _ => ?_⟩, fun hge => ?_⟩⟩
  · have qq : Option.map eStr (paths6 o a b)[t]? = some (eStr (paths6 o a b)[t]) := by simp -implicitDefEqProofs [hlt]
    have hs := runJ_succ (o := o) (a := a) (b := b) hlt
    have hb := runJ_len o a b ((paths6 o a b).take t)
    have hl : ((paths6 o a b).take t).length ≤ (paths6 o a b).length := by simp; omega
    have ho := one6_len (p := (paths6 o a b)[t]) (show 10 ≤ 64 by omega) h1' h2' h3'
    rw [qq]
    generalize runJ o a b ((paths6 o a b).take t) = R at *
    generalize (paths6 o a b)[t] = y at *
    obtain ⟨X, Y⟩ := R
    simp only at hb
    simp -implicitDefEqProofs [eStr, D.asStr]
    refine ⟨o, a, b, y, ⟨rfl, rfl, rfl, rfl⟩, ⟨h1', h2', h3'⟩, ?_⟩
    generalize hone : one6 o a b y = O at *
    obtain ⟨x1, x2, x3⟩ := O
    have f : ∀ (t : List Str), ∀ x ∈ eStrs t, ∀ d ∈ x, match d with | .sl _ _ _ => False | _ => True := fun t => (eStrs_flat t).mpr trivial
    have st : runJ o a b ((paths6 o a b).take (t + 1)) = (if x2 = true then X ++ [⟨y, x1⟩] else X, if 0 < x3 then Y ++ [⟨y, x3⟩] else Y) := by rw [hs]; unfold stepJ; rw [hone]
    have snF : eFiles X ++ [[D.str y, D.sl 9 1 (eStrs x1)]] = eFiles (X ++ [⟨y, x1⟩]) := eFiles_snoc _ _ _
    have snH : eHeads Y ++ [[D.str y, D.int .i64 x3]] = eHeads (Y ++ [⟨y, x3⟩]) := eHeads_snoc _ _ _
    dsimp only at ho ⊢
    rw [snF, snH]
    refine ⟨fun h3 => ⟨hlt, fun _ => ⟨⟨by omega, by omega⟩, fun h2 => ⟨hlt, fun _ => ⟨f x1, ⟨by omega, by omega⟩, ⟨by omega, by omega⟩, ⟨by omega, by omega⟩, fun _ _ => ⟨t + 1, ?_⟩⟩⟩, fun h2 => ⟨⟨by omega, by omega⟩, fun _ _ => ⟨t + 1, ?_⟩⟩⟩⟩, fun h3 => ⟨fun h2 => ⟨hlt, fun _ => ⟨f x1, ⟨by omega, by omega⟩, ⟨by omega, by omega⟩, ⟨by omega, by omega⟩, fun _ _ => ⟨t + 1, ?_⟩⟩⟩, fun h2 => ⟨⟨by omega, by omega⟩, fun _ _ => ⟨t + 1, ?_⟩⟩⟩⟩
    · rw [st, if_pos h2, if_pos h3]; exact ⟨⟨⟨rfl, rfl, by omega⟩, rfl, rfl⟩, by omega, by omega⟩
    · rw [st, if_neg (by simp -implicitDefEqProofs [h2]), if_pos h3]; exact ⟨⟨⟨rfl, rfl, by omega⟩, rfl, rfl⟩, by omega, by omega⟩
    · rw [st, if_pos h2, if_neg (by omega)]; exact ⟨⟨⟨rfl, rfl, by omega⟩, rfl, rfl⟩, by omega, by omega⟩
    · rw [st, if_neg (by simp -implicitDefEqProofs [h2]), if_neg (by omega)]; exact ⟨⟨⟨rfl, rfl, by omega⟩, rfl, rfl⟩, by omega, by omega⟩
  · have e : (paths6 o a b).take t = paths6 o a b := List.take_of_length_le hge
    rw [e]; exact ⟨⟨rfl, rfl⟩, rfl, rfl⟩

def cL6Join : Con := .fn 31 (List FileD × List FileD × List FileD) (fun a => [.sl true 2 (eFiles a.1), .sl true 2 (eFiles a.2.1), .sl true 2 (eFiles a.2.2)]) (fun a => szT a.1 ∧ szT a.2.1 ∧ szT a.2.2) (fun a => .tup [.sl false 2 (eFiles (join6 a.1 a.2.1 a.2.2).1), .sl false 2 (eHeads (join6 a.1 a.2.1 a.2.2).2)]) (fun _ => [])
set_option maxHeartbeats 4000000 in
theorem l6Join_has : Has Tryz.prog 180 cL6Join := by
  refine has_walk mixed tTab_ok (l := [(210, cL6Of), (110, cL4Ok), (209, cL4Copy)]) (HasL.cons l6Of_has (HasL.cons l4Ok_has (HasL.cons l4Copy_has HasL.nil))) [0, 1, 2, 6, 7, 8, 9] ((fun a n (_ : Nat) => (fun _ => noInv) a n)) [] Tryz.func180 (by kernel_rfl) (code := _) (by unfold Tryz.f180; rfl) (by kernel_rfl) (by decide) (fun _ => ⟨(), trivial⟩) (by intro h; first | exact fun _ => rfl | cases h) (by kernel_rfl) ?_
  intro a ha
  obtain ⟨o, a, b⟩ := a
  obtain ⟨h1, h2, h3⟩ : szT o ∧ szT a ∧ szT b := ha
  simp -implicitDefEqProofs [cL6Join, cL6Of, cL4Ok, cL4Copy, Con.fn, tTab]
  try dsimp only
  have e1 : (of6 o a b).2 = [] → treeS (of6 o a b).1 = false → join6 o a b = (o, [⟨[], 4⟩]) := fun h h' => by unfold join6; rw [if_pos ⟨h, h'⟩]
  have e2 : (of6 o a b).2 = [] → treeS (of6 o a b).1 = true → join6 o a b = of6 o a b := fun h h' => by unfold join6; rw [if_neg (by simp -implicitDefEqProofs [h'])]
  have e3 : ¬ (of6 o a b).2 = [] → join6 o a b = of6 o a b := fun h => by unfold join6; rw [if_neg (by simp -implicitDefEqProofs [h])]
  refine ⟨o, a, b, ⟨rfl, rfl, rfl⟩, ⟨h1, h2, h3⟩, fun _ => ⟨fun h => ⟨fun h' => ⟨⟨by have := h1.1; omega, fun f hf => by have := h1.2 f hf; omega⟩, ?_⟩, fun h' => ?_⟩, fun h => ?_⟩⟩
  · rw [e1 h h']; exact ⟨rfl, rfl⟩
  · rw [e2 h h']; exact ⟨rfl, rfl⟩
  · rw [e3 h]; exact ⟨rfl, rfl⟩

end Vx
end Go.Proofs.YtnanellmaelipaaGreatDoor
/-
  Operations (impl.Op): data, models, plain lemmas.
-/
namespace Go.Proofs.YtnanellmaelipaaGreatDoor
namespace Vx
open Go.RowKit
set_option maxRecDepth 8000

structure OpD where
  kind : Int
  branch : Str
  who : Str
  path : Str
  to_ : Str
  at_ : Int
  text : List Str
  deriving DecidableEq, Inhabited

def eOp (a : OpD) : List D := [.int .i64 a.kind, .str a.branch, .str a.who, .str a.path, .str a.to_, .int .i64 a.at_, .sl 9 1 (eStrs a.text)]
@[simp] theorem eOp_inj (a b : OpD) : (eOp a = eOp b) = (a = b) := by
  cases a; cases b; simp -implicitDefEqProofs [eOp]
@[simp] theorem OpD.eta (a : OpD) : (⟨a.kind, a.branch, a.who, a.path, a.to_, a.at_, a.text⟩ : OpD) = a := rfl
theorem OpD.eq_iff (a b : OpD) : (a = b) = (a.kind = b.kind ∧ a.branch = b.branch ∧ a.who = b.who ∧ a.path = b.path ∧ a.to_ = b.to_ ∧ a.at_ = b.at_ ∧ a.text = b.text) := by
  cases a; cases b; simp
@[simp] theorem OpD.ex1 (x_kind : Int) (x_branch : Str) (x_who : Str) (x_path : Str) (x_to_ : Str) (x_at_ : Int) (x_text : List Str) (Q : OpD → Prop) : (∃ a : OpD, a.kind = x_kind ∧ a.branch = x_branch ∧ a.who = x_who ∧ a.path = x_path ∧ a.to_ = x_to_ ∧ a.at_ = x_at_ ∧ a.text = x_text ∧ Q a) = Q ⟨x_kind, x_branch, x_who, x_path, x_to_, x_at_, x_text⟩ := by
  apply propext
  constructor
  · rintro ⟨⟨_, _, _, _, _, _, _⟩, rfl, rfl, rfl, rfl, rfl, rfl, rfl, h⟩; exact h
  · intro h; exact ⟨⟨x_kind, x_branch, x_who, x_path, x_to_, x_at_, x_text⟩, rfl, rfl, rfl, rfl, rfl, rfl, rfl, h⟩
@[simp] theorem OpD.ex2 (x_kind : Int) (x_branch : Str) (x_who : Str) (x_path : Str) (x_to_ : Str) (x_at_ : Int) (x_text : List Str) (Q : OpD → Prop) : (∃ a : OpD, (a.kind = x_kind ∧ a.branch = x_branch ∧ a.who = x_who ∧ a.path = x_path ∧ a.to_ = x_to_ ∧ a.at_ = x_at_ ∧ a.text = x_text) ∧ Q a) = Q ⟨x_kind, x_branch, x_who, x_path, x_to_, x_at_, x_text⟩ := by
  apply propext
  constructor
  · rintro ⟨⟨_, _, _, _, _, _, _⟩, ⟨rfl, rfl, rfl, rfl, rfl, rfl, rfl⟩, h⟩; exact h
  · intro h; exact ⟨⟨x_kind, x_branch, x_who, x_path, x_to_, x_at_, x_text⟩, ⟨rfl, rfl, rfl, rfl, rfl, rfl, rfl⟩, h⟩
@[simp] theorem OpD.ex0 (x_kind : Int) (x_branch : Str) (x_who : Str) (x_path : Str) (x_to_ : Str) (x_at_ : Int) (x_text : List Str) : (∃ a : OpD, a.kind = x_kind ∧ a.branch = x_branch ∧ a.who = x_who ∧ a.path = x_path ∧ a.to_ = x_to_ ∧ a.at_ = x_at_ ∧ a.text = x_text) = True := by
  simp only [eq_iff_iff, iff_true]
  exact ⟨⟨x_kind, x_branch, x_who, x_path, x_to_, x_at_, x_text⟩, rfl, rfl, rfl, rfl, rfl, rfl, rfl⟩
def eOps (l : List OpD) : List (List D) := l.map eOp
@[simp] theorem eOps_length (l : List OpD) : (eOps l).length = l.length := by simp -implicitDefEqProofs [eOps]
@[simp] theorem eOps_nil : eOps [] = [] := rfl
@[simp] theorem eOps_get (l : List OpD) (i : Nat) : (eOps l)[i]? = l[i]?.map eOp := by simp -implicitDefEqProofs [eOps]
@[simp] theorem eOps_getElem (l : List OpD) (i : Nat) (h : i < (eOps l).length) : (eOps l)[i] = eOp (l[i]'(by simpa using h)) := by simp -implicitDefEqProofs [eOps]
@[simp] theorem eOps_inj (a b : List OpD) : (eOps a = eOps b) = (a = b) := by
  apply propext
  constructor
  · intro h
    exact List.map_inj_right (fun x y h => by simpa using h) |>.1 h
  · rintro rfl; rfl
@[simp] theorem eOps_eq_nil (a : List OpD) : (eOps a = []) = (a = []) := by simp -implicitDefEqProofs [eOps]
@[simp] theorem nil_eq_eOps (a : List OpD) : ([] = eOps a) = (a = []) := by simp -implicitDefEqProofs [eOps, eq_comm]
theorem eOps_append (a b : List OpD) : eOps (a ++ b) = eOps a ++ eOps b := by simp -implicitDefEqProofs [eOps]
theorem eOps_take (l : List OpD) (i : Nat) : (eOps l).take i = eOps (l.take i) := by simp -implicitDefEqProofs [eOps]
theorem eOps_drop (l : List OpD) (i : Nat) : (eOps l).drop i = eOps (l.drop i) := by simp -implicitDefEqProofs [eOps]
theorem eOps_snoc (a : List OpD) (k : Int) (b w p t : Str) (i : Int) (x : List Str) : eOps a ++ [[.int .i64 k, .str b, .str w, .str p, .str t, .int .i64 i, .sl 9 1 (eStrs x)]] = eOps (a ++ [⟨k, b, w, p, t, i, x⟩]) := by simp -implicitDefEqProofs [eOps, eOp]

abbrev vOp (o : OpD) : AV := .agg [.int .i64 o.kind, .str o.branch, .str o.who, .str o.path, .str o.to_, .int .i64 o.at_, .sl true 1 (eStrs o.text)]
def bOp (o : OpD) : Blk := .box 219 [.int .i64 o.kind, .str o.branch, .str o.who, .str o.path, .str o.to_, .int .i64 o.at_, .sl true 1 (eStrs o.text)]

def opBare (o : OpD) (p t a x : Bool) : Bool := (p || decide (o.path = [])) && (t || decide (o.to_ = [])) && (a || decide (o.at_ = 0)) && (x || decide (o.text = []))
def barB (s : Str) : Bool := s.all fun b => decide (b ≠ 124)
def lines19 (t : List Str) : Bool := t.all barB && textB t
def opB (o : OpD) : Bool := (nameB o.branch && nameB o.who) &&
  (if o.kind = 1 then opBare o true false false true && pathS o.path && lines19 o.text
  else if o.kind = 2 then opBare o true false false false && pathS o.path
  else if o.kind = 3 then opBare o true true false false && pathS o.path && pathS o.to_
  else if o.kind = 4 ∨ o.kind = 5 then opBare o false true false false && nameB o.to_
  else if o.kind = 6 ∨ o.kind = 7 then opBare o false false true false && (decide (0 ≤ o.at_) && decide (o.at_ ≤ 15))
  else false)
def tree19 (r : RepoD) (o : OpD) (x : List FileD × Bool) : RepoD × Int := if x.2 then (if (repoCommitS r o.branch o.who x.1).2 then ((repoCommitS r o.branch o.who x.1).1, 0) else (r, 5)) else (r, 1)
def treeOf (r : RepoD) (n : Str) : List FileD := if 0 ≤ atL r.heads n then treeAt r (atL r.heads n) else []
def do19 (r : RepoD) (o : OpD) : RepoD × Int :=
  if o.kind = 1 then tree19 r o (treeSetS (treeOf r o.branch) ⟨o.path, o.text⟩)
  else if o.kind = 2 then tree19 r o (treeDropS (treeOf r o.branch) o.path)
  else if o.kind = 3 then tree19 r o (treeMoveS (treeOf r o.branch) o.path o.to_)
  else if o.kind = 4 then (if (repoBranchS r o.to_ (atL r.heads o.branch)).2 then ((repoBranchS r o.to_ (atL r.heads o.branch)).1, 0) else (r, 1))
  else if o.kind = 5 then uniteS r o.branch o.who (atL r.heads o.to_)
  else if o.kind = 6 then pickS false r o.branch o.who o.at_
  else pickS true r o.branch o.who o.at_
def playF (l : List OpD) : RepoD := l.foldl (fun r o => if opB o then (do19 r o).1 else r) noR
theorem playF_succ {l : List OpD} {i : Nat} (h : i < l.length) : playF (l.take (i + 1)) = if opB l[i] then (do19 (playF (l.take i)) l[i]).1 else playF (l.take i) := by
  unfold playF
  rw [take_succ' h, List.foldl_append]; rfl
def playS (l : List OpD) : RepoD := playF (l.take 30)
def repoDoS (r : RepoD) (o : OpD) : RepoD × Int := if repoS r then (if opB o then do19 r o else (r, 1)) else (noR, 1)
/-- What holds of a repository that was played. -/
def plR (r : RepoD) : Prop := repoS r = true ∧ (r.commits ≠ [] → r.heads ≠ [])
theorem plR_no : plR noR := ⟨rfl, fun h => absurd rfl h⟩
theorem repoCommitS_ok {r : RepoD} {n w : Str} {t : List FileD} (h : (repoCommitS r n w t).2 = true) : plR (repoCommitS r n w t).1 := by
  unfold repoCommitS at h ⊢
  split
  · rename_i h1
    rw [if_pos h1] at h
    split
    · rename_i h2; exact ⟨h2, fun _ => hSet_ne _ _ _⟩
    · rename_i h2; rw [if_neg h2] at h; cases h
  · rename_i h1; rw [if_neg h1] at h; cases h
theorem repoBranchS_ok {r : RepoD} {n : Str} {a : Int} (h : (repoBranchS r n a).2 = true) : plR (repoBranchS r n a).1 := by
  unfold repoBranchS at h ⊢
  split
  · rename_i h1
    rw [if_pos h1] at h
    split
    · rename_i h2; rw [if_pos h2] at h; cases h
    · rename_i h2
      have : repoS ⟨r.commits, hSet r.heads n a⟩ = true := by
        cases q : repoS ⟨r.commits, hSet r.heads n a⟩ with
        | true => rfl
        | false => exact absurd (.inr q) h2
      exact ⟨this, fun _ => hSet_ne _ _ _⟩
  · rename_i h1; rw [if_neg h1] at h; cases h
theorem tree19_ok {r : RepoD} {o : OpD} {x : List FileD × Bool} (h : plR r) : plR (tree19 r o x).1 := by
  unfold tree19
  split
  · split
    · rename_i q; exact repoCommitS_ok q
    · exact h
  · exact h
theorem do19_ok {r : RepoD} {o : OpD} (h : plR r) : plR (do19 r o).1 := by
  unfold do19
  repeat' split
  · exact tree19_ok h
  · exact tree19_ok h
  · exact tree19_ok h
  · rename_i q; exact repoBranchS_ok q
  · exact h
  · exact uniteS_ok h.1 h.2
  · exact pickS_ok h.1 h.2
  · exact pickS_ok h.1 h.2
theorem playF_ok (l : List OpD) : plR (playF l) := by
  have : ∀ (l : List OpD) (r : RepoD), plR r → plR (l.foldl (fun r o => if opB o then (do19 r o).1 else r) r) := by
    intro l
    induction l with
    | nil => intro r h; exact h
    | cons o l ih =>
      intro r h
      refine ih _ ?_
      show plR (if opB o = true then _ else _)
      split
      · exact do19_ok h
      · exact h
  exact this l noR plR_no

end Vx
end Go.Proofs.YtnanellmaelipaaGreatDoor
/-
  Contracts: operations looked at (the reference's l19Bare, l19Lines, l19Ok).
-/
namespace Go.Proofs.YtnanellmaelipaaGreatDoor
namespace Vx
open Go.RowKit
set_option maxRecDepth 8000

def cL19Bare : Con := .fn 42 (OpD × Bool × Bool × Bool × Bool) (fun a => [vOp a.1, .bool a.2.1, .bool a.2.2.1, .bool a.2.2.2.1, .bool a.2.2.2.2]) (fun a => a.1.text.length ≤ 1048576) (fun a => .bool (opBare a.1 a.2.1 a.2.2.1 a.2.2.2.1 a.2.2.2.2)) (fun _ => [])
set_option maxHeartbeats 4000000 in
theorem l19Bare_has : Has Tryz.prog 245 cL19Bare := by
  refine has_walk mixed tTab_ok (l := []) HasL.nil [0, 1, 2, 3, 4, 5, 10] ((fun a n (_ : Nat) => (fun _ => noInv) a n)) [] Tryz.func245 (by kernel_rfl) (code := _) (by unfold Tryz.f245; rfl) (by kernel_rfl) (by decide) (fun _ => ⟨(), trivial⟩) (by intro h; first | exact fun _ => rfl | cases h) (by kernel_rfl) ?_
  intro a ha
  obtain ⟨o, p, t, a, x⟩ := a
  replace ha : o.text.length ≤ 1048576 := ha
  simp (maxSteps := 8000000) -implicitDefEqProofs [-kStep_move, -Bool.exists_bool, cL19Bare, Con.fn, tTab]
  unfold opBare
  by_cases h1 : o.path = [] <;> by_cases h2 : o.to_ = [] <;> by_cases h3 : o.at_ = 0 <;> by_cases h4 : o.text = [] <;> simp -implicitDefEqProofs [h1, h2, h3, h4] <;> cases p <;> cases t <;> cases a <;> cases x <;> simp -implicitDefEqProofs <;> omega

def l19O (t : List Str) : Inv := ⟨Nat, fun i => ⟨[(0, true, .sl true 1 (eStrs t)), (2, true, .bool false), (3, true, .int .i64 i)], []⟩, fun i => i ≤ t.length ∧ (t.take i).all barB = true, fun i => t.length - i⟩
def l19I (t : List Str) (g : Nat) : Inv := ⟨Nat, fun k => ⟨[(0, true, .sl true 1 (eStrs t)), (2, true, .bool false), (3, true, .int .i64 g), (4, true, .int .i64 k)], []⟩, fun k => g < t.length ∧ (t.take g).all barB = true ∧ k ≤ (t.getD g []).length ∧ ((t.getD g []).take k).all (fun b => decide (b ≠ 124)) = true, fun k => (t.getD g []).length - k⟩
def l19Inv (t : List Str) (n g : Nat) : Inv := if n = 2 then l19O t else l19I t g
theorem l19Inv_2 (t g) : l19Inv t 2 g = l19O t := rfl
theorem l19Inv_5 (t g) : l19Inv t 5 g = l19I t g := rfl
def cL19Lines : Con := .fn 29 (List Str) (fun t => [.sl true 1 (eStrs t)]) (fun _ => True) (fun t => .bool (lines19 t)) (fun _ => [])
set_option maxHeartbeats 4000000 in
theorem l19Lines_has : Has Tryz.prog 246 cL19Lines := by
  refine has_walk mixed tTab_ok (l := [(165, cL1Ok)]) (HasL.cons l1Ok_has HasL.nil) [0, 2, 3, 4] (fun t => l19Inv t) [] Tryz.func246 (by kernel_rfl) (code := _) (by unfold Tryz.f246; rfl) (by kernel_rfl) (by decide) (fun _ => ⟨(), trivial⟩) (by intro h; first | exact fun _ => rfl | cases h) (by kernel_rfl) ?_
  intro (t : List Str) _
  simp -implicitDefEqProofs [cL19Lines, cL1Ok, Con.fn, tTab, l19Inv_2, l19Inv_5, l19O, l19I]
  try dsimp only
  have e0 : ∀ i (h : i < t.length), ¬ barB t[i] = true → lines19 t = false := fun i h hb => by
    unfold lines19
    rw [Bool.and_eq_false_iff]; left
    rw [List.all_eq_false]
    exact ⟨_, List.getElem_mem h, hb⟩
  refine fun i hi hp _ => ⟨fun hlt => ⟨i, ⟨0, ⟨rfl, rfl⟩, hlt, hp, Nat.zero_le _, by simp⟩, fun k _ _ hk hq => ?_⟩, fun hge => ?_⟩
  · have e1 := e0 i hlt
    have e2 : t[i]?.getD [] = t[i] := by simp -implicitDefEqProofs [hlt]
    have qq : Option.map eStr t[i]? = some (eStr t[i]) := by simp -implicitDefEqProofs [hlt]
    have e3 : (t.take (i + 1)).all barB = ((t.take i).all barB && barB t[i]) := all_take hlt
    rw [e2] at hk hq ⊢
    rw [qq]
    generalize t[i] = s at *
    simp -implicitDefEqProofs [eStr, D.asStr]
    have hex : ∀ h : k < List.length s, s[k]?.getD 0 = s[k] := fun h => by simp -implicitDefEqProofs [h]
    refine ⟨hlt, fun _ _ => ⟨fun hl => ⟨hlt, fun _ => ⟨hl, fun _ => ?_⟩⟩, fun hg => ⟨⟨by omega, by omega⟩, fun _ _ => ⟨i + 1, by omega, ⟨by omega, ?_⟩, by omega⟩⟩⟩⟩
    · rw [hex hl]
      have hb := List.getElem_mem hl
      refine ⟨fun hc => e1 (fun hb2 => ?_), fun hc => ⟨⟨by omega, by omega⟩, fun _ _ => ⟨k + 1, by omega, ⟨hlt, ‹∀ x ∈ List.take i t, barB x = true›, by omega, fun x hx => ?_⟩, by omega⟩⟩⟩
      · unfold barB at hb2
        have := List.all_eq_true.1 hb2 _ hb
        simp only [ne_eq, decide_not, Bool.not_eq_true', decide_eq_false_iff_not] at this
        exact this (UInt8.toNat_inj.1 (by simp; omega))
      · rw [take_succ' hl] at hx
        rcases List.mem_append.1 hx with hx | hx
        · exact hq x hx
        · simp only [List.mem_singleton] at hx
          subst hx
          intro e; rw [e] at hc; exact hc rfl
    · have hs : barB s = true := by
        unfold barB
        rw [List.all_eq_true]
        intro x hx
        have := hq x (by rw [List.take_of_length_le hg]; exact hx)
        simp -implicitDefEqProofs [this]
      rw [hs, Bool.and_true] at e3
      have hp' : (List.take i t).all barB = true := List.all_eq_true.2 ‹∀ x ∈ List.take i t, barB x = true›
      rw [hp'] at e3
      exact List.all_eq_true.1 e3
  · have e : t.take i = t := List.take_of_length_le hge
    rw [e] at hp
    unfold lines19
    rw [List.all_eq_true.2 hp, Bool.true_and]

def cL19Ok : Con := .fn 72 OpD (fun o => [vOp o]) (fun o => o.text.length ≤ 1048576) (fun o => .bool (opB o)) (fun _ => [])
set_option maxHeartbeats 4000000 in
theorem l19Ok_has : Has Tryz.prog 218 cL19Ok := by
  refine has_walk mixed tTab_ok (l := [(95, cL4Name), (245, cL19Bare), (164, cL4Path), (246, cL19Lines), (84, cL1In)]) (HasL.cons l4Name_has (HasL.cons l19Bare_has (HasL.cons l4Path_has (HasL.cons l19Lines_has (HasL.cons l1In_has HasL.nil))))) [0, 1, 2, 14, 52, 62] ((fun a n (_ : Nat) => (fun _ => noInv) a n)) [] Tryz.func218 (by kernel_rfl) (code := _) (by unfold Tryz.f218; rfl) (by kernel_rfl) (by decide) (fun _ => ⟨(), trivial⟩) (by intro h; first | exact fun _ => rfl | cases h) (by kernel_rfl) ?_
  intro (o : OpD) (ha : o.text.length ≤ 1048576)
  simp (maxSteps := 8000000) -implicitDefEqProofs [-kStep_move, -Bool.exists_bool, cL19Ok, cL4Name, cL19Bare, cL4Path, cL19Lines, cL1In, Con.fn, tTab, bOp]
  try dsimp only
  simp -implicitDefEqProofs only [and_assoc, exists_eq_left, exists_and_left, OpD.ex1, OpD.eta]
  have hk : o.kind = 1 ∨ o.kind = 2 ∨ o.kind = 3 ∨ o.kind = 4 ∨ o.kind = 5 ∨ o.kind = 6 ∨ o.kind = 7 ∨ (¬ o.kind = 1 ∧ ¬ o.kind = 2 ∧ ¬ o.kind = 3 ∧ ¬ o.kind = 4 ∧ ¬ o.kind = 5 ∧ ¬ o.kind = 6 ∧ ¬ o.kind = 7) := by omega
  unfold opB
  generalize nameB o.branch = b1
  generalize nameB o.who = b2
  generalize pathS o.path = b3
  generalize pathS o.to_ = b4
  generalize nameB o.to_ = b5
  generalize lines19 o.text = b6
  rcases hk with h | h | h | h | h | h | h | h <;> simp -implicitDefEqProofs [h, ha]
  all_goals grind

end Vx
end Go.Proofs.YtnanellmaelipaaGreatDoor
/-
  Contracts: the last commits from which two come (the reference's l8Bases).
-/
namespace Go.Proofs.YtnanellmaelipaaGreatDoor
namespace Vx
open Go.RowKit
set_option maxRecDepth 8000
--TAB tTabB

def cL8AllV : Con := .fn 66 (RepoD × Int) (fun a => [vRepo a.1, .int .i64 a.2]) (fun a => repoI a.1 = true ∧ 0 ≤ a.2 ∧ a.2 < a.1.commits.length) (fun a => .sl false 1 (eInts (listT (anc a.1 a.2)))) (fun _ => [])
set_option maxHeartbeats 4000000 in
theorem l8AllV_has : Has Tryz.prog 87 cL8AllV := by
  refine has_walk mixed tTabB_ok (l := []) HasL.nil [0, 1, 2, 4, 5, 6, 7, 8, 9] (fun a => alInv a.1 a.2) [] Tryz.func87 (by kernel_rfl) (code := _) (by unfold Tryz.f87; rfl) (by kernel_rfl) (by decide) (fun _ => ⟨(), trivial⟩) (by intro h; first | exact fun _ => rfl | cases h) (by kernel_rfl) ?_
  intro a ha
  obtain ⟨r, n⟩ := a
  obtain ⟨h1, h2, h3⟩ : repoI r = true ∧ 0 ≤ n ∧ n < r.commits.length := ha
  have h4 := repo_n h1
  simp -implicitDefEqProofs [cL8AllV, Con.fn, tTabB, tTab, alInv_4, alInv_7, alInv_12, alO, alI, alT, bRepo_def]
  try dsimp only
  simp only [and_assoc, exists_eq_left, exists_and_left, RepoD.ex1, RepoD.eta]
  have hal := anc_len r n
  refine fun _ => ⟨by omega, fun _ => ⟨h2, h3, fun _ _ => ⟨by omega, ⟨(List.replicate r.commits.length false).set n.toNat true, by rw [eBools_rep]; exact (eBools_set _ _ _).symm, by rw [eBools_rep]; exact eBools_set _ _ _, by simp, by omega, h3, rfl⟩, fun l b g1 g2 g3 g4 => ⟨fun hb => ⟨b.toNat, ?_⟩, fun hb => ?_⟩⟩⟩⟩
  · have hb1 : b.toNat < l.length := by omega
    have hb2 : b.toNat < r.commits.length := by omega
    obtain ⟨p1, p2, _⟩ := repo_use h1 hb2
    have hgd : r.commits.getD b.toNat default = r.commits[b.toNat] := by simp -implicitDefEqProofs [List.getD_eq_getElem?_getD, hb2]
    have hgo : r.commits[b.toNat]?.getD default = r.commits[b.toNat] := by simp -implicitDefEqProofs [hb2]
    rw [show (b + 1).toNat = b.toNat + 1 by omega] at g4
    have g5 : ancF r b.toNat (stepA r l b.toNat) = anc r n := g4
    unfold stepA at g5
    rw [hgd] at g5
    have e3 : Option.map eCommit r.commits[b.toNat]? = some (eCommit r.commits[b.toNat]) := by simp -implicitDefEqProofs [hb2]
    rw [hgo, e3]
    generalize r.commits[b.toNat] = c at *
    refine ⟨by omega, trivial, g1, hb2, Nat.zero_le _, fun h => ?_, fun h => ?_, fun m k m1 m2 m3 m4 m5 => ⟨hb2, fun _ => ?_⟩⟩
    · rw [if_pos h] at g5; exact g5
    · rw [if_neg (by rw [h]; simp)] at g5; exact g5
    · have hbm : b.toNat < m.length := by omega
      have hT : isT m b.toNat = m[b.toNat] := by simp -implicitDefEqProofs [isT, List.getD_eq_getElem?_getD, hbm]
      have e4 : Option.map eBool m[b.toNat]? = some (eBool m[b.toNat]) := by simp -implicitDefEqProofs [hbm]
      have hmx : max b 0 = b := Int.max_eq_left hb
      simp -implicitDefEqProofs [eCommit, D.asRows, e4, eBool, hbm, hb2, hmx]
      refine fun _ => ⟨fun hl2 => ⟨fun hm => ⟨hl2, fun _ => ?_⟩, fun hm => ⟨by omega, by omega, fun _ _ => ⟨m1, by omega, by omega, m5 (hT.trans hm), by omega⟩⟩⟩, fun hge => ⟨by omega, by omega, fun _ _ => ⟨m1, by omega, by omega, ?_, by omega⟩⟩⟩
      · have hp := p2 c.parents[k] (List.getElem_mem hl2)
        have qt : Option.map eInt c.parents[k]? = some (eInt c.parents[k]) := by simp -implicitDefEqProofs [List.getElem?_eq_getElem hl2]
        simp -implicitDefEqProofs [qt, eInt, D.asInt]
        have hst : isT (m.set c.parents[k].toNat true) b.toNat = true := by rw [isT_set_ne _ (by omega)]; exact hT.trans hm
        refine ⟨hp.1, by omega, fun _ _ => ⟨by omega, by omega, by omega, fun _ _ => ⟨m.set c.parents[k].toNat true, (eBools_set _ _ _).symm, k + 1, by omega, eBools_set _ _ _, by simp -implicitDefEqProofs [m1], by omega, fun _ => ?_, fun h => ?_, by omega⟩⟩⟩
        · have := m4 (hT.trans hm)
          rw [List.drop_eq_getElem_cons hl2] at this
          exact this
        · rw [hst] at h; cases h
      · cases hm : m[b.toNat] with
        | true =>
          have := m4 (hT.trans hm)
          rw [List.drop_eq_nil_of_le hge] at this
          exact this
        | false => exact m5 (hT.trans hm)
  · rw [show (b + 1).toNat = 0 by omega] at g4
    have g5 : l = anc r n := g4
    refine ⟨g5.symm, ⟨0, rfl, rfl, g5, rfl, Nat.zero_le _⟩, fun i hi _ => ⟨fun hlt => ?_, fun hge => ?_⟩⟩
    · have hl := listF_len (anc r n) i
      have hi : isT (anc r n) i = (anc r n)[i] := by simp -implicitDefEqProofs [isT, List.getD_eq_getElem?_getD, hlt]
      rw [hal] at hlt
      simp -implicitDefEqProofs [hal, hlt, eBool, D.asBool, and_assoc]
      refine ⟨fun h => ?_, fun h => ?_⟩
      · have e := listF_hit (hi.trans h)
        exact ⟨by omega, by omega, by omega, by omega, fun _ _ => ⟨i + 1, by rw [e]; simp -implicitDefEqProofs [eInts, eInt], by omega, by rw [e]; simp -implicitDefEqProofs [eInts, eInt], by omega, by omega⟩⟩
      · have e := listF_miss (hi.trans h)
        exact ⟨by omega, by omega, fun _ _ => ⟨i + 1, e, by omega, e.symm, by omega, by omega⟩⟩
    · rw [hal] at hge
      have : i = r.commits.length := by omega
      subst this
      unfold listT
      rw [hal]

def l8bA (r : RepoD) (a b : Int) : Inv := ⟨Nat, fun i => ⟨[(3, true, .ptr 10 0), (6, true, .nil), (7, true, .sl false 1 (eInts (listT (anc r a)))), (8, true, .sl false 1 (eInts (listT (anc r b)))), (9, true, .own 9 1 (eInts (both8 r a b i))), (10, true, .int .i64 i)], [(10, bRepo r), (9, .own 3 1 true (eInts (both8 r a b i)))]⟩, fun i => i ≤ (listT (anc r a)).length, fun i => (listT (anc r a)).length - i⟩
def l8bB (r : RepoD) (L : List Int) : Inv := ⟨Nat, fun i => ⟨[(3, true, .ptr 10 0), (6, true, .nil), (9, true, .own 9 1 (eInts L)), (11, true, .own 11 1 (eInts (baseF r L i))), (12, true, .int .i64 i)], [(10, bRepo r), (9, .own 3 1 true (eInts L)), (11, .own 3 1 true (eInts (baseF r L i)))]⟩, fun i => i ≤ L.length, fun i => L.length - i⟩
def l8bC (r : RepoD) (L : List Int) (g : Nat) : Inv := ⟨Nat, fun k => ⟨[(3, true, .ptr 10 0), (6, true, .nil), (9, true, .own 9 1 (eInts L)), (11, true, .own 11 1 (eInts (baseF r L g))), (12, true, .int .i64 g), (13, true, .bool (bestF r L g k)), (14, true, .int .i64 k)], [(10, bRepo r), (9, .own 3 1 true (eInts L)), (11, .own 3 1 true (eInts (baseF r L g)))]⟩, fun k => k ≤ L.length ∧ g < L.length, fun k => L.length - k⟩
def l8bInv (r : RepoD) (a b : Int) (n g : Nat) : Inv := if n = 5 then l8bA r a b else if n = 11 then l8bB r (both8 r a b (listT (anc r a)).length) else l8bC r (both8 r a b (listT (anc r a)).length) g
theorem l8bInv_5 (r a b g) : l8bInv r a b 5 g = l8bA r a b := rfl
theorem l8bInv_11 (r a b g) : l8bInv r a b 11 g = l8bB r (both8 r a b (listT (anc r a)).length) := rfl
theorem l8bInv_15 (r a b g) : l8bInv r a b 15 g = l8bC r (both8 r a b (listT (anc r a)).length) g := rfl
def cL8Bases : Con := .fn 83 (RepoD × Int × Int) (fun a => [vRepo a.1, .int .i64 a.2.1, .int .i64 a.2.2]) (fun a => repoI a.1 = true ∧ (0 ≤ a.2.1 ∧ a.2.1 < a.1.commits.length) ∧ 0 ≤ a.2.2 ∧ a.2.2 < a.1.commits.length) (fun a => .own 8 1 (eInts (bases8 a.1 a.2.1 a.2.2))) (fun a => ownInts 8 (bases8 a.1 a.2.1 a.2.2))
set_option maxHeartbeats 4000000 in
theorem l8Bases_has : Has Tryz.prog 211 cL8Bases := by
  refine has_walk mixed tTabB_ok (l := [(87, cL8AllV), (86, cL8Has)]) (HasL.cons l8AllV_has (HasL.cons l8Has_has HasL.nil)) [0, 1, 2, 3, 6, 7, 8, 9, 10, 11, 12, 13, 14] (fun a => l8bInv a.1 a.2.1 a.2.2) [] Tryz.func211 (by kernel_rfl) (code := _) (by unfold Tryz.f211; rfl) (by kernel_rfl) (by decide) (fun _ => ⟨(), trivial⟩) (by intro h; first | exact fun _ => rfl | cases h) (by kernel_rfl) ?_
  intro a ha
  obtain ⟨r, a, b⟩ := a
  obtain ⟨h1, ⟨h2, h3⟩, h4, h5⟩ : repoI r = true ∧ (0 ≤ a ∧ a < r.commits.length) ∧ 0 ≤ b ∧ b < r.commits.length := ha
  simp (maxSteps := 8000000) -implicitDefEqProofs [-kStep_move, -kStepC_move, -Bool.exists_bool, cL8Bases, cL8AllV, cL8Has, Con.fn, tTabB, tTab, l8bInv_5, l8bInv_11, l8bInv_15, l8bA, l8bB, l8bC, bRepo_def]
  try dsimp only
  have hal := anc_len r
  have h6 := repo_n h1
  have hmem : ∀ c, ∀ x ∈ listT (anc r c), 0 ≤ x ∧ x < r.commits.length := fun c x hx => by
    obtain ⟨i, q1, _, rfl⟩ := listT_mem.1 hx
    rw [hal] at q1
    omega
  have h16 : ∀ c, (listT (anc r c)).length ≤ 16 := fun c => by
    have := listF_len (anc r c) (anc r c).length
    rw [hal] at this
    unfold listT; rw [hal]; omega
  refine ⟨r, a, ⟨⟨rfl, rfl⟩, rfl⟩, ⟨h1, h2, h3⟩, r, b, ⟨⟨rfl, rfl⟩, rfl⟩, ⟨h1, h4, h5⟩, ?_⟩
  have hLm := hmem a
  have hL16 := h16 a
  have stepB : ∀ t (h : t < (listT (anc r a)).length), both8 r a b (t + 1) = if (listT (anc r a))[t] ∈ listT (anc r b) then both8 r a b t ++ [(listT (anc r a))[t]] else both8 r a b t := fun t h => by
    unfold both8
    rw [take_succ' h, List.filter_append]
    split
    · rename_i hq; rw [List.filter_cons_of_pos (by simpa using hq)]; simp
    · rename_i hq; rw [List.filter_cons_of_neg (by simpa using hq)]; simp
  have bothL : ∀ t, (both8 r a b t).length ≤ (listT (anc r a)).length := fun t => by
    unfold both8
    exact Nat.le_trans (List.length_filter_le _ _) (by simp; omega)
  have hBm : ∀ x ∈ both8 r a b (listT (anc r a)).length, 0 ≤ x ∧ x < r.commits.length := fun x hx => by
    unfold both8 at hx
    exact hLm x (List.mem_of_mem_take (List.mem_filter.1 hx).1)
  have hout : bases8 r a b = baseF r (both8 r a b (listT (anc r a)).length) (both8 r a b (listT (anc r a)).length).length := rfl
  have hb0 : both8 r a b 0 = [] := by unfold both8; simp
  generalize listT (anc r a) = L at *
  generalize hM : listT (anc r b) = M at *
  have hB16 := bothL L.length
  generalize hB : both8 r a b L.length = B at *
  have baseS : ∀ u (h : u < B.length), baseF r B (u + 1) = if bestF r B u B.length then baseF r B u ++ [B[u]] else baseF r B u := fun u h => by
    unfold baseF
    rw [List.range_succ, List.filter_append, List.map_append]
    split
    · rename_i hq; simp -implicitDefEqProofs [hq, List.getD_eq_getElem?_getD, h]
    · rename_i hq; simp -implicitDefEqProofs [hq]
  have baseL : ∀ u, (baseF r B u).length ≤ u := fun u => by
    unfold baseF
    rw [List.length_map]
    exact Nat.le_trans (List.length_filter_le _ _) (by simp)
  refine ⟨⟨0, ⟨⟨rfl, rfl, hb0, rfl⟩, hb0⟩, Nat.zero_le _⟩, fun t ht _ => ⟨fun hlt => ⟨hlt, fun _ => ?_⟩, fun hge => ?_⟩⟩
  · have qq : Option.map eInt L[t]? = some (eInt L[t]) := by simp -implicitDefEqProofs [hlt]
    have sB := stepB t hlt
    have bL := bothL t
    have sn : eInts (both8 r a b t) ++ [[D.int .i64 L[t]]] = eInts (both8 r a b t ++ [L[t]]) := eInts_snoc _ _
    rw [qq]
    generalize L[t] = y at *
    simp -implicitDefEqProofs [eInt, D.asInt]
    rw [sn]
    refine ⟨M, y, ⟨rfl, rfl⟩, fun h => ⟨hlt, fun _ => ⟨⟨by omega, by omega⟩, ⟨by omega, by omega⟩, fun _ _ => ⟨t + 1, by rw [sB, if_pos h]; exact ⟨⟨⟨rfl, by omega⟩, rfl⟩, by omega, by omega⟩⟩⟩⟩, fun h => ⟨⟨by omega, by omega⟩, fun _ _ => ⟨t + 1, by rw [sB, if_neg h]; exact ⟨⟨⟨rfl, by omega⟩, rfl⟩, by omega, by omega⟩⟩⟩⟩
  · have ht' : t = L.length := by omega
    subst ht'
    rw [hB]
    refine ⟨⟨0, ⟨⟨rfl, rfl, rfl⟩, rfl, rfl⟩, Nat.zero_le _⟩, fun u hu _ => ⟨fun hlu => ⟨u, ⟨0, ⟨⟨rfl, rfl, rfl, rfl⟩, rfl⟩, Nat.zero_le _, hlu⟩, fun k hk _ _ => ?_⟩, fun hgu => ?_⟩⟩
    · have q2 : Option.map eInt B[u]? = some (eInt B[u]) := by simp -implicitDefEqProofs [hlu]
      have sS := baseS u hlu
      have bL := baseL u
      have gu : B.getD u 0 = B[u] := by simp -implicitDefEqProofs [List.getD_eq_getElem?_getD, hlu]
      have sn : eInts (baseF r B u) ++ [[D.int .i64 B[u]]] = eInts (baseF r B u ++ [B[u]]) := eInts_snoc _ _
      refine ⟨fun hkl => ?_, fun hge => ?_⟩
      · have q1 : Option.map eInt B[k]? = some (eInt B[k]) := by simp -implicitDefEqProofs [hkl]
        have gk : B.getD k 0 = B[k] := by simp -implicitDefEqProofs [List.getD_eq_getElem?_getD, hkl]
        have sb : bestF r B u (k + 1) = (bestF r B u k && (decide ((k : Int) = (u : Int)) || !decide (B[u] ∈ listT (anc r B[k])))) := by
          have e : decide ((k : Int) = (u : Int)) = decide (k = u) := by rw [Bool.eq_iff_iff, decide_eq_true_eq, decide_eq_true_eq]; omega
          rw [e]
          unfold bestF
          rw [List.range_succ, List.all_append, gu]
          simp -implicitDefEqProofs [List.getD_eq_getElem?_getD, hkl]
        have hm := hBm B[k] (List.getElem_mem hkl)
        rw [q1, q2]
        generalize B[u] = y at *
        generalize B[k] = x at *
        simp -implicitDefEqProofs [eInt, D.asInt, hkl, hlu]
        refine ⟨fun a b => ⟨a, b⟩, fun _ => ⟨fun a b => ⟨a, b⟩, fun _ => ⟨r, x, ⟨⟨rfl, rfl⟩, rfl⟩, fun a b => ⟨⟨a, b⟩, h1, hm.1, hm.2⟩, fun a b => ⟨a, b⟩, fun _ => ⟨fun a b => ⟨a, b⟩, fun _ => ⟨_, y, ⟨rfl, rfl⟩, fun a => ⟨a, ?_⟩, fun _ => ⟨⟨by omega, by omega⟩, fun _ _ => ⟨k + 1, ⟨sb, by omega⟩, by omega, by omega⟩⟩⟩⟩⟩⟩⟩
        by_cases e : (k : Int) = u
        · exact .inl e
        · exact .inr ⟨a, e⟩
      · have : k = B.length := by omega
        subst this
        rw [q2]
        generalize B[u] = y at *
        simp -implicitDefEqProofs [eInt, D.asInt, hlu]
        rw [sn]
        exact ⟨fun h => ⟨⟨by omega, by omega⟩, ⟨by omega, by omega⟩, fun _ _ => ⟨u + 1, by rw [sS, if_pos h]; exact ⟨⟨⟨rfl, by omega⟩, rfl⟩, by omega, by omega⟩⟩⟩, fun h => ⟨⟨by omega, by omega⟩, fun _ _ => ⟨u + 1, by rw [sS, if_neg (by simp -implicitDefEqProofs [h])]; exact ⟨⟨⟨rfl, by omega⟩, rfl⟩, by omega, by omega⟩⟩⟩⟩
    · have : u = B.length := by omega
      subst this
      rw [← hout]
      exact ⟨rfl, rfl⟩

end Vx
end Go.Proofs.YtnanellmaelipaaGreatDoor
/-
  Contracts: branches made one, picks, operations done (the reference's).
-/
namespace Go.Proofs.YtnanellmaelipaaGreatDoor
namespace Vx
open Go.RowKit
set_option maxRecDepth 8000
--TAB tTabB

theorem repoS_tree {r : RepoD} (h : repoS r = true) (i : Nat) : treeS (r.commits.getD i default).tree = true := by
  rcases Nat.lt_or_ge i r.commits.length with hi | hi
  · have := ((repoS_iff r).1 h).1 i hi
    unfold okCS okS1 at this
    simp only [Bool.and_eq_true] at this
    exact this.2.2
  · have : r.commits.getD i default = default := by simp -implicitDefEqProofs [List.getD_eq_getElem?_getD, hi]
    rw [this]; rfl
theorem repoS_treeAt {r : RepoD} (h : repoS r = true) (c : Int) : treeS (treeAt r c) = true := repoS_tree h _
theorem repoS_sz {r : RepoD} (h : repoS r = true) : rpSz r := by
  obtain ⟨h1, h2, h3⟩ := (repoS_iff r).1 h
  refine ⟨by omega, fun c hc => ?_, by have := ((headsB_iff _ _).1 h2).1; omega⟩
  obtain ⟨i, hi, rfl⟩ := List.getElem_of_mem hc
  have h4 := h1 i hi
  have e : r.commits.getD i default = r.commits[i] := by simp -implicitDefEqProofs [List.getD_eq_getElem?_getD, hi]
  unfold okCS okS1 at h4
  rw [e] at h4
  simp only [Bool.and_eq_true, decide_eq_true_eq] at h4
  obtain ⟨t1, t2⟩ := treeS_le _ h4.2.2
  exact ⟨by omega, by omega, fun g hg => by have := t2 g hg; omega⟩

theorem cget {r : RepoD} {c : Int} (h0 : 0 ≤ c) (h1 : c < r.commits.length) : Option.map eCommit r.commits[c.toNat]? = some [D.sl 3 1 (eInts (r.commits.getD c.toNat default).parents), D.str (r.commits.getD c.toNat default).who, D.sl 61 2 (eFiles (treeAt r c))] := by
  have h : c.toNat < r.commits.length := by omega
  have e : r.commits.getD c.toNat default = r.commits[c.toNat] := by simp -implicitDefEqProofs [List.getD_eq_getElem?_getD, h]
  unfold treeAt
  rw [e]; simp -implicitDefEqProofs [h, eCommit]
theorem both8_mem {r : RepoD} {a b : Int} {i : Nat} : ∀ x ∈ both8 r a b i, 0 ≤ x ∧ x < r.commits.length := fun x hx => by
  unfold both8 at hx
  obtain ⟨j, q1, _, rfl⟩ := listT_mem.1 (List.mem_of_mem_take (List.mem_filter.1 hx).1)
  rw [anc_len] at q1
  omega
theorem bases8_mem {r : RepoD} {a b : Int} : ∀ x ∈ bases8 r a b, 0 ≤ x ∧ x < r.commits.length := fun x hx => by
  unfold bases8 baseF at hx
  obtain ⟨j, hj, rfl⟩ := List.mem_map.1 hx
  have hj := List.mem_range.1 (List.mem_filter.1 hj).1
  rw [List.getD_eq_getElem?_getD, List.getElem?_eq_getElem hj, Option.getD_some]
  exact both8_mem _ (List.getElem_mem hj)
theorem bases8_len {r : RepoD} (h : repoI r = true) {a b : Int} : (bases8 r a b).length ≤ 16 := by
  have h6 := repo_n h
  have h1 := listF_len (anc r a) (anc r a).length
  unfold bases8 baseF
  rw [List.length_map]
  refine Nat.le_trans (List.length_filter_le _ _) ?_
  rw [List.length_range]
  unfold both8
  refine Nat.le_trans (List.length_filter_le _ _) ?_
  rw [anc_len] at h1
  simp only [List.length_take, listT, anc_len]; omega
theorem base9_tree {r : RepoD} (h : repoS r = true) (a b : Int) : treeS (base9 r a b) = true := by
  unfold base9
  split
  · rfl
  · exact repoS_treeAt h _
theorem ahead10_tree {r : RepoD} (h : repoS r = true) (c : Int) : treeS (ahead10 r c) = true := by
  unfold ahead10
  split
  · rfl
  · exact repoS_treeAt h _
theorem treeS_szT {t : List FileD} (h : treeS t = true) : szT t := by
  obtain ⟨h1, h2⟩ := treeS_le t h
  exact ⟨by omega, h2⟩
def cL9Base : Con := .fn 26 (RepoD × Int × Int) (fun a => [vRepo a.1, .int .i64 a.2.1, .int .i64 a.2.2]) (fun a => repoS a.1 = true ∧ (0 ≤ a.2.1 ∧ a.2.1 < a.1.commits.length) ∧ 0 ≤ a.2.2 ∧ a.2.2 < a.1.commits.length) (fun a => .sl true 2 (eFiles (base9 a.1 a.2.1 a.2.2))) (fun _ => [])
set_option maxHeartbeats 4000000 in
theorem l9Base_has : Has Tryz.prog 181 cL9Base := by
  refine has_walk mixed tTabB_ok (l := [(211, cL8Bases)]) (HasL.cons l8Bases_has HasL.nil) [0, 1, 2, 3, 6, 7] ((fun a n (_ : Nat) => (fun _ => noInv) a n)) [] Tryz.func181 (by kernel_rfl) (code := _) (by unfold Tryz.f181; rfl) (by kernel_rfl) (by decide) (fun _ => ⟨(), trivial⟩) (by intro h; first | exact fun _ => rfl | cases h) (by kernel_rfl) ?_
  intro a ha
  obtain ⟨r, a, b⟩ := a
  obtain ⟨h1, ⟨h2, h3⟩, h4, h5⟩ : repoS r = true ∧ (0 ≤ a ∧ a < r.commits.length) ∧ 0 ≤ b ∧ b < r.commits.length := ha
  simp -implicitDefEqProofs [cL9Base, cL8Bases, Con.fn, tTabB, tTab, bRepo_def]
  try dsimp only
  simp -implicitDefEqProofs only [and_assoc, exists_eq_left, exists_and_left, RepoD.ex1, RepoD.eta]
  have hI : repoI r = true := by rw [repo_eq]; exact h1
  have hl := bases8_len hI (a := a) (b := b)
  have hmm := bases8_mem (r := r) (a := a) (b := b)
  have hb : base9 r a b = match (bases8 r a b).getLast? with | none => [] | some c => treeAt r c := rfl
  refine ⟨hI, h2, h3, h4, h5, fun _ => ⟨fun h => by rw [hb, h]; rfl, fun h => ?_⟩⟩
  rcases List.eq_nil_or_concat (bases8 r a b) with e | ⟨m, q, e⟩
  · exact absurd e h
  · rw [e] at hl hmm hb ⊢
    have hq := hmm q (by simp)
    have cg := cget hq.1 hq.2
    have hb : base9 r a b = treeAt r q := by rw [hb]; simp
    rw [hb]
    simp -implicitDefEqProofs [eInt, D.asInt, cg, D.asRows]
    simp at hl
    omega

def cL9Unite : Con := .fn 70 (RepoD × Str × Str × Int) (fun a => [vRepo a.1, .str a.2.1, .str a.2.2.1, .int .i64 a.2.2.2]) (fun a => repoS a.1 = true ∧ 0 ≤ atL a.1.heads a.2.1 ∧ 0 ≤ a.2.2.2 ∧ a.2.2.2 < a.1.commits.length) (fun a => .tup [.agg [.sl false 3 (eCommits (unite9 a.1 a.2.1 a.2.2.1 a.2.2.2).1.commits), .sl false 2 (eHeads (unite9 a.1 a.2.1 a.2.2.1 a.2.2.2).1.heads)], .int .i64 (unite9 a.1 a.2.1 a.2.2.1 a.2.2.2).2]) (fun _ => [])
set_option maxHeartbeats 4000000 in
theorem l9Unite_has : Has Tryz.prog 128 cL9Unite := by
  refine has_walk mixed tTabB_ok (l := [(124, cL7At), (87, cL8All), (86, cL8Has), (179, cL7Head), (181, cL9Base), (180, cL6Join), (182, cL7Add), (82, cL7Ok)]) (HasL.cons l7At_has (HasL.cons l8All_has (HasL.cons l8Has_has (HasL.cons l7Head_has (HasL.cons l9Base_has (HasL.cons l6Join_has (HasL.cons l7Add_has (HasL.cons l7Ok_has HasL.nil)))))))) [0, 1, 2, 3, 4, 8, 9, 10, 11, 12, 13] ((fun a n (_ : Nat) => (fun _ => noInv) a n)) [] Tryz.func128 (by kernel_rfl) (code := _) (by unfold Tryz.f128; rfl) (by kernel_rfl) (by decide) (fun _ => ⟨(), trivial⟩) (by intro h; first | exact fun _ => rfl | cases h) (by kernel_rfl) ?_
  intro a ha
  obtain ⟨r, n, w, b⟩ := a
  obtain ⟨h1, h2, h3, h4⟩ : repoS r = true ∧ 0 ≤ atL r.heads n ∧ 0 ≤ b ∧ b < r.commits.length := ha
  simp -implicitDefEqProofs [cL9Unite, cL7At, cL8All, cL8Has, cL7Head, cL9Base, cL6Join, cL7Add, cL7Ok, Con.fn, tTabB, tTab, bRepo_def]
  try dsimp only
  simp -implicitDefEqProofs only [and_assoc, exists_eq_left, exists_and_left, RepoD.ex1, RepoD.eta]
  have hI : repoI r = true := by rw [repo_eq]; exact h1
  obtain ⟨k1, k2, k3⟩ := repoS_sz h1
  have hat := atL_le (n := n) ((repoS_iff r).1 h1).2.1
  have ga := cget (r := r) (c := atL r.heads n) h2 (by omega)
  have gb := cget (r := r) h3 h4
  rw [ga, gb]
  simp -implicitDefEqProofs [D.asRows]
  have hlen : ∀ c, (addR r n c).commits.length ≤ 1073741824 := fun c => by simp -implicitDefEqProofs [addR]; omega
  refine ⟨hI, h2, by omega, fun h => ?_, fun h => ⟨hI, h3, h4, fun h' => ⟨by omega, ?_⟩, fun h' => ⟨h1, h2, by omega, h3, h4, h2, by omega, fun _ _ => ⟨h3, h4, fun _ _ => ⟨treeS_szT (base9_tree h1 _ _), treeS_szT (repoS_treeAt h1 _), treeS_szT (repoS_treeAt h1 _), fun _ => ⟨fun hj => ?_, fun hj => ⟨⟨[atL r.heads n, b], w, (join6 (base9 r (atL r.heads n) b) (treeAt r (atL r.heads n)) (treeAt r b)).1⟩, rfl, rfl, rfl, k1, k3, hlen _, fun hs => ?_, fun hs => ?_⟩⟩⟩⟩⟩⟩⟩
  · unfold unite9; rw [if_pos h]; exact ⟨rfl, rfl, rfl⟩
  · unfold unite9; rw [if_neg h, if_pos h']; exact ⟨rfl, rfl, rfl⟩
  · unfold unite9; rw [if_neg h, if_neg h', if_neg (by intro e; rw [e] at hj; simp at hj)]; exact ⟨rfl, rfl, rfl⟩
  · unfold unite9; rw [if_neg h, if_neg h', if_pos hj, if_neg (by simp -implicitDefEqProofs [hs])]; exact ⟨rfl, rfl, rfl⟩
  · unfold unite9; rw [if_neg h, if_neg h', if_pos hj, if_pos hs]; exact ⟨rfl, rfl, rfl⟩

def cUniteInto : Con := .fn 42 (RepoD × Str × Str × Int) (fun a => [vRepo a.1, .str a.2.1, .str a.2.2.1, .int .i64 a.2.2.2]) (fun a => rpSz a.1) (fun a => .tup [.agg [.sl false 3 (eCommits (uniteS a.1 a.2.1 a.2.2.1 a.2.2.2).1.commits), .sl false 2 (eHeads (uniteS a.1 a.2.1 a.2.2.1 a.2.2.2).1.heads)], .int .i64 (uniteS a.1 a.2.1 a.2.2.1 a.2.2.2).2]) (fun _ => [])
set_option maxHeartbeats 4000000 in
theorem uniteInto_has : Has Tryz.prog 48 cUniteInto := by
  refine has_walk mixed tTabB_ok (l := [(82, cL7Ok), (124, cL7At), (95, cL4Name), (84, cL1In), (127, cL7Copy), (128, cL9Unite)]) (HasL.cons l7Ok_has (HasL.cons l7At_has (HasL.cons l4Name_has (HasL.cons l1In_has (HasL.cons l7Copy_has (HasL.cons l9Unite_has HasL.nil)))))) [0, 1, 2, 3, 4, 8, 9] ((fun a n (_ : Nat) => (fun _ => noInv) a n)) [] Tryz.func48 (by kernel_rfl) (code := _) (by unfold Tryz.f48; rfl) (by kernel_rfl) (by decide) (fun _ => ⟨(), trivial⟩) (by intro h; first | exact fun _ => rfl | cases h) (by kernel_rfl) ?_
  intro a ha
  obtain ⟨r, n, w, b⟩ := a
  replace ha : rpSz r := ha
  simp -implicitDefEqProofs [cUniteInto, cL7Ok, cL7At, cL4Name, cL1In, cL7Copy, cL9Unite, Con.fn, tTabB, tTab, bRepo_def]
  try dsimp only
  simp -implicitDefEqProofs only [and_assoc, exists_eq_left, exists_and_left, RepoD.ex1, RepoD.eta]
  have e0 : repoS r = false → uniteS r n w b = (noR, 1) := fun h => by unfold uniteS; rw [if_neg (by simp -implicitDefEqProofs [h])]
  have e1 : repoS r = true → (atL r.heads n < 0 ∨ nameB w = false ∨ ¬ (0 ≤ b ∧ b < r.commits.length)) → uniteS r n w b = (r, 1) := fun h h' => by unfold uniteS; rw [if_pos h, if_pos h']
  have e2 : repoS r = true → ¬ (atL r.heads n < 0 ∨ nameB w = false ∨ ¬ (0 ≤ b ∧ b < r.commits.length)) → uniteS r n w b = unite9 r n w b := fun h h' => by unfold uniteS; rw [if_pos h, if_neg h']
  have hr1 : r.commits.length ≤ 1048576 := ha.1
  refine ⟨by omega, fun h => by rw [e0 h]; exact ⟨rfl, rfl, rfl⟩, fun h => ⟨fun hn => ⟨ha, by rw [e1 h (.inl hn)]; exact ⟨rfl, rfl, rfl⟩⟩, fun hn => ⟨fun hw => ⟨ha, by rw [e1 h (.inr (.inl hw))]; exact ⟨rfl, rfl, rfl⟩⟩, fun hw _ => ⟨by omega, by omega, fun _ _ => ⟨fun hb => ⟨ha, by rw [e1 h (.inr (.inr (by omega)))]; exact ⟨rfl, rfl, rfl⟩⟩, fun hb hb' => ⟨ha, h, hn, hb, by omega, ?_⟩⟩⟩⟩⟩⟩
  rw [e2 h (by rintro (q | q | q); omega; rw [hw] at q; cases q; omega)]; exact ⟨rfl, rfl, rfl⟩

def cL10Ahead : Con := .fn 26 (RepoD × Int) (fun a => [vRepo a.1, .int .i64 a.2]) (fun a => repoS a.1 = true ∧ 0 ≤ a.2 ∧ a.2 < a.1.commits.length) (fun a => .sl true 2 (eFiles (ahead10 a.1 a.2))) (fun _ => [])
set_option maxHeartbeats 4000000 in
theorem l10Ahead_has : Has Tryz.prog 107 cL10Ahead := by
  refine has_walk mixed tTabB_ok (l := []) HasL.nil [0, 1, 2, 4] ((fun a n (_ : Nat) => (fun _ => noInv) a n)) [] Tryz.func107 (by kernel_rfl) (code := _) (by unfold Tryz.f107; rfl) (by kernel_rfl) (by decide) (fun _ => ⟨(), trivial⟩) (by intro h; first | exact fun _ => rfl | cases h) (by kernel_rfl) ?_
  intro a ha
  obtain ⟨r, c⟩ := a
  obtain ⟨h1, h2, h3⟩ : repoS r = true ∧ 0 ≤ c ∧ c < r.commits.length := ha
  simp -implicitDefEqProofs [cL10Ahead, Con.fn, tTabB, tTab, bRepo_def]
  try dsimp only
  simp -implicitDefEqProofs only [and_assoc, exists_eq_left, exists_and_left, RepoD.ex1, RepoD.eta]
  have cg := cget (r := r) h2 h3
  have hp : ahead10 r c = match (r.commits.getD c.toNat default).parents with | [] => [] | p :: _ => treeAt r p := rfl
  have hmem : ∀ p ∈ (r.commits.getD c.toNat default).parents, 0 ≤ p ∧ p < r.commits.length := fun p hp => by
    have hc : c.toNat < r.commits.length := by omega
    have := (repo_use (r := r) (by rw [repo_eq]; exact h1) hc).2.1 p (by simpa [List.getD_eq_getElem?_getD, hc] using hp)
    omega
  have hl : (r.commits.getD c.toNat default).parents.length ≤ 1000 := by
    have hc : c.toNat < r.commits.length := by omega
    have := (repo_use (r := r) (by rw [repo_eq]; exact h1) hc).1
    simpa [List.getD_eq_getElem?_getD, hc] using by omega
  rw [cg]
  generalize (r.commits.getD c.toNat default).parents = P at *
  cases P with
  | nil => simp -implicitDefEqProofs [D.asRows, hp]; omega
  | cons p P =>
    have hq := hmem p (by simp)
    have cp := cget hq.1 hq.2
    have hp : ahead10 r c = treeAt r p := hp
    simp -implicitDefEqProofs [D.asRows, hp, eInts, eInt, D.asInt, cp]
    exact ⟨h2, h3, fun _ _ _ => ⟨h2, h3, fun _ _ => hq⟩⟩

def cL10Put : Con := .fn 48 (RepoD × Str × Str × List FileD × List FileD) (fun a => [vRepo a.1, .str a.2.1, .str a.2.2.1, .sl true 2 (eFiles a.2.2.2.1), .sl true 2 (eFiles a.2.2.2.2)]) (fun a => repoS a.1 = true ∧ 0 ≤ atL a.1.heads a.2.1 ∧ treeS a.2.2.2.1 = true ∧ treeS a.2.2.2.2 = true) (fun a => .tup [.agg [.sl false 3 (eCommits (put10 a.1 a.2.1 a.2.2.1 a.2.2.2.1 a.2.2.2.2).1.commits), .sl false 2 (eHeads (put10 a.1 a.2.1 a.2.2.1 a.2.2.2.1 a.2.2.2.2).1.heads)], .int .i64 (put10 a.1 a.2.1 a.2.2.1 a.2.2.2.1 a.2.2.2.2).2]) (fun _ => [])
set_option maxHeartbeats 4000000 in
theorem l10Put_has : Has Tryz.prog 278 cL10Put := by
  refine has_walk mixed tTabB_ok (l := [(124, cL7At), (180, cL6Join), (182, cL7Add), (82, cL7Ok)]) (HasL.cons l7At_has (HasL.cons l6Join_has (HasL.cons l7Add_has (HasL.cons l7Ok_has HasL.nil)))) [0, 1, 2, 3, 4, 5, 10, 11, 12, 13, 14, 15] ((fun a n (_ : Nat) => (fun _ => noInv) a n)) [] Tryz.func278 (by kernel_rfl) (code := _) (by unfold Tryz.f278; rfl) (by kernel_rfl) (by decide) (fun _ => ⟨(), trivial⟩) (by intro h; first | exact fun _ => rfl | cases h) (by kernel_rfl) ?_
  intro a ha
  obtain ⟨r, n, w, o, b⟩ := a
  obtain ⟨h1, h2, h3, h4⟩ : repoS r = true ∧ 0 ≤ atL r.heads n ∧ treeS o = true ∧ treeS b = true := ha
  simp -implicitDefEqProofs [cL10Put, cL7At, cL6Join, cL7Add, cL7Ok, Con.fn, tTabB, tTab, bRepo_def]
  try dsimp only
  simp -implicitDefEqProofs only [and_assoc, exists_eq_left, exists_and_left, RepoD.ex1, RepoD.eta]
  obtain ⟨k1, k2, k3⟩ := repoS_sz h1
  have hat := atL_le (n := n) ((repoS_iff r).1 h1).2.1
  have ga := cget (r := r) (c := atL r.heads n) h2 (by omega)
  rw [ga]
  simp -implicitDefEqProofs [D.asRows]
  have hlen : ∀ c, (addR r n c).commits.length ≤ 1073741824 := fun c => by simp -implicitDefEqProofs [addR]; omega
  refine ⟨h2, by omega, fun _ _ => ⟨treeS_szT h3, treeS_szT (repoS_treeAt h1 _), treeS_szT h4, fun _ => ⟨fun hj => ?_, fun hj => ⟨⟨[atL r.heads n], w, (join6 o (treeAt r (atL r.heads n)) b).1⟩, rfl, rfl, rfl, k1, k3, hlen _, fun hs => ?_, fun hs => ?_⟩⟩⟩⟩
  · unfold put10; rw [if_neg (by intro e; rw [e] at hj; simp at hj)]; exact ⟨rfl, rfl, rfl⟩
  · unfold put10; rw [if_pos hj, if_neg (by simp -implicitDefEqProofs [hs])]; exact ⟨rfl, rfl, rfl⟩
  · unfold put10; rw [if_pos hj, if_pos hs]; exact ⟨rfl, rfl, rfl⟩

def cPickOf : Con := .fn 52 (RepoD × Str × Str × Int) (fun a => [vRepo a.1, .str a.2.1, .str a.2.2.1, .int .i64 a.2.2.2]) (fun a => rpSz a.1) (fun a => .tup [.agg [.sl false 3 (eCommits (pickS false a.1 a.2.1 a.2.2.1 a.2.2.2).1.commits), .sl false 2 (eHeads (pickS false a.1 a.2.1 a.2.2.1 a.2.2.2).1.heads)], .int .i64 (pickS false a.1 a.2.1 a.2.2.1 a.2.2.2).2]) (fun _ => [])
set_option maxHeartbeats 4000000 in
theorem pickOf_has : Has Tryz.prog 252 cPickOf := by
  refine has_walk mixed tTabB_ok (l := [(82, cL7Ok), (124, cL7At), (95, cL4Name), (84, cL1In), (127, cL7Copy), (107, cL10Ahead), (278, cL10Put)]) (HasL.cons l7Ok_has (HasL.cons l7At_has (HasL.cons l4Name_has (HasL.cons l1In_has (HasL.cons l7Copy_has (HasL.cons l10Ahead_has (HasL.cons l10Put_has HasL.nil))))))) [0, 1, 2, 3, 4, 8, 9, 10] ((fun a n (_ : Nat) => (fun _ => noInv) a n)) [] Tryz.func252 (by kernel_rfl) (code := _) (by unfold Tryz.f252; rfl) (by kernel_rfl) (by decide) (fun _ => ⟨(), trivial⟩) (by intro h; first | exact fun _ => rfl | cases h) (by kernel_rfl) ?_
  intro a ha
  obtain ⟨r, n, w, b⟩ := a
  replace ha : rpSz r := ha
  simp -implicitDefEqProofs [cPickOf, cL7Ok, cL7At, cL4Name, cL1In, cL7Copy, cL10Ahead, cL10Put, Con.fn, tTabB, tTab, bRepo_def]
  try dsimp only
  simp -implicitDefEqProofs only [and_assoc, exists_eq_left, exists_and_left, RepoD.ex1, RepoD.eta]
  have e0 : repoS r = false → pickS false r n w b = (noR, 1) := fun h => by unfold pickS; rw [if_neg (by simp -implicitDefEqProofs [h])]
  have e1 : repoS r = true → (atL r.heads n < 0 ∨ nameB w = false ∨ ¬ (0 ≤ b ∧ b < r.commits.length)) → pickS false r n w b = (r, 1) := fun h h' => by unfold pickS; rw [if_pos h, if_pos h']
  have e2 : repoS r = true → ¬ (atL r.heads n < 0 ∨ nameB w = false ∨ ¬ (0 ≤ b ∧ b < r.commits.length)) → pickS false r n w b = put10 r n w (ahead10 r b) (treeAt r b) := fun h h' => by unfold pickS; rw [if_pos h, if_neg h']; rfl
  have hr1 : r.commits.length ≤ 1048576 := ha.1
  refine ⟨by omega, fun h => by rw [e0 h]; exact ⟨rfl, rfl, rfl⟩, fun h => ⟨fun hn => ⟨ha, by rw [e1 h (.inl hn)]; exact ⟨rfl, rfl, rfl⟩⟩, fun hn => ⟨fun hw => ⟨ha, by rw [e1 h (.inr (.inl hw))]; exact ⟨rfl, rfl, rfl⟩⟩, fun hw _ => ⟨by omega, by omega, fun _ _ => ⟨fun hb => ⟨ha, by rw [e1 h (.inr (.inr (by omega)))]; exact ⟨rfl, rfl, rfl⟩⟩, fun hb hb' => ?_⟩⟩⟩⟩⟩
  rw [e2 h (by rintro (q | q | q); omega; rw [hw] at q; cases q; omega)]
  have cb := cget hb (show b < r.commits.length by omega)
  have s1 := repoS_treeAt h b
  have s2 := ahead10_tree h b
  rw [cb]
  simp -implicitDefEqProofs [D.asRows, h, hn, hb, s1, s2, show b < r.commits.length by omega, show rpSz r from ha]

def cPickBack : Con := .fn 52 (RepoD × Str × Str × Int) (fun a => [vRepo a.1, .str a.2.1, .str a.2.2.1, .int .i64 a.2.2.2]) (fun a => rpSz a.1) (fun a => .tup [.agg [.sl false 3 (eCommits (pickS true a.1 a.2.1 a.2.2.1 a.2.2.2).1.commits), .sl false 2 (eHeads (pickS true a.1 a.2.1 a.2.2.1 a.2.2.2).1.heads)], .int .i64 (pickS true a.1 a.2.1 a.2.2.1 a.2.2.2).2]) (fun _ => [])
set_option maxHeartbeats 4000000 in
theorem pickBack_has : Has Tryz.prog 253 cPickBack := by
  refine has_walk mixed tTabB_ok (l := [(82, cL7Ok), (124, cL7At), (95, cL4Name), (84, cL1In), (127, cL7Copy), (107, cL10Ahead), (278, cL10Put)]) (HasL.cons l7Ok_has (HasL.cons l7At_has (HasL.cons l4Name_has (HasL.cons l1In_has (HasL.cons l7Copy_has (HasL.cons l10Ahead_has (HasL.cons l10Put_has HasL.nil))))))) [0, 1, 2, 3, 4, 8, 9, 10] ((fun a n (_ : Nat) => (fun _ => noInv) a n)) [] Tryz.func253 (by kernel_rfl) (code := _) (by unfold Tryz.f253; rfl) (by kernel_rfl) (by decide) (fun _ => ⟨(), trivial⟩) (by intro h; first | exact fun _ => rfl | cases h) (by kernel_rfl) ?_
  intro a ha
  obtain ⟨r, n, w, b⟩ := a
  replace ha : rpSz r := ha
  simp -implicitDefEqProofs [cPickBack, cL7Ok, cL7At, cL4Name, cL1In, cL7Copy, cL10Ahead, cL10Put, Con.fn, tTabB, tTab, bRepo_def]
  try dsimp only
  simp -implicitDefEqProofs only [and_assoc, exists_eq_left, exists_and_left, RepoD.ex1, RepoD.eta]
  have e0 : repoS r = false → pickS true r n w b = (noR, 1) := fun h => by unfold pickS; rw [if_neg (by simp -implicitDefEqProofs [h])]
  have e1 : repoS r = true → (atL r.heads n < 0 ∨ nameB w = false ∨ ¬ (0 ≤ b ∧ b < r.commits.length)) → pickS true r n w b = (r, 1) := fun h h' => by unfold pickS; rw [if_pos h, if_pos h']
  have e2 : repoS r = true → ¬ (atL r.heads n < 0 ∨ nameB w = false ∨ ¬ (0 ≤ b ∧ b < r.commits.length)) → pickS true r n w b = put10 r n w (treeAt r b) (ahead10 r b) := fun h h' => by unfold pickS; rw [if_pos h, if_neg h']; rfl
  have hr1 : r.commits.length ≤ 1048576 := ha.1
  refine ⟨by omega, fun h => by rw [e0 h]; exact ⟨rfl, rfl, rfl⟩, fun h => ⟨fun hn => ⟨ha, by rw [e1 h (.inl hn)]; exact ⟨rfl, rfl, rfl⟩⟩, fun hn => ⟨fun hw => ⟨ha, by rw [e1 h (.inr (.inl hw))]; exact ⟨rfl, rfl, rfl⟩⟩, fun hw _ => ⟨by omega, by omega, fun _ _ => ⟨fun hb => ⟨ha, by rw [e1 h (.inr (.inr (by omega)))]; exact ⟨rfl, rfl, rfl⟩⟩, fun hb hb' => ?_⟩⟩⟩⟩⟩
  rw [e2 h (by rintro (q | q | q); omega; rw [hw] at q; cases q; omega)]
  have cb := cget hb (show b < r.commits.length by omega)
  have s1 := repoS_treeAt h b
  have s2 := ahead10_tree h b
  rw [cb]
  simp -implicitDefEqProofs [D.asRows, h, hn, hb, s1, s2, show b < r.commits.length by omega, show rpSz r from ha]

end Vx
end Go.Proofs.YtnanellmaelipaaGreatDoor
/-
  Contracts: sizes of repositories.
-/
namespace Go.Proofs.YtnanellmaelipaaGreatDoor
namespace Vx
open Go.RowKit

def szI (a : List Int) (l : Int) : Int := if l - a.length < 0 then -1 else l - a.length
theorem szI_le {a : List Int} {l : Int} (h : 0 ≤ l) : szI a l ≤ l := by unfold szI; split <;> omega
def szHd (f : HeadD) (l : Int) : Int := if l - f.name.length < 0 then -1 else l - f.name.length
theorem szHd_le {f : HeadD} {l : Int} (h : 0 ≤ l) : szHd f l ≤ l := by unfold szHd; split <;> omega
def szHL : List HeadD → Int → Int
  | [], l => l
  | f :: r, l => if szHd f l < 0 then -1 else szHL r (szHd f l)
def szHeads (a : List HeadD) (l : Int) : Int := if l - a.length < 0 then -1 else szHL a (l - a.length)
theorem szHL_step {a : List HeadD} {i : Nat} {l : Int} (h : i < a.length) : szHL (a.drop i) l = if szHd a[i] l < 0 then -1 else szHL (a.drop (i + 1)) (szHd a[i] l) := by
  rw [List.drop_eq_getElem_cons h]; rfl
theorem szHL_end {a : List HeadD} {i : Nat} {l : Int} (h : a.length ≤ i) : szHL (a.drop i) l = l := by
  rw [List.drop_eq_nil_of_le h]; rfl
theorem szFL_leD : ∀ {a : List FileD} {l : Int}, 0 ≤ l → szFL a l ≤ l := by
  intro a
  induction a with
  | nil => intro l _; exact Int.le_refl l
  | cons s r ih =>
    intro l h
    simp only [szFL]
    split
    · omega
    · have h1 := szF_le (f := s) h
      have := ih (l := szF s l) (by omega); omega
theorem szFs_le {a : List FileD} {l : Int} (h : 0 ≤ l) : szFiles a l ≤ l := by
  unfold szFiles
  split
  · omega
  · have := szFL_leD (a := a) (l := l - a.length) (by omega); omega

def szCm (c : CommitD) (l : Int) : Int :=
  if szI c.parents l < 0 then -1 else if szI c.parents l - c.who.length < 0 then -1 else if szFiles c.tree (szI c.parents l - c.who.length) < 0 then -1 else szFiles c.tree (szI c.parents l - c.who.length)
theorem szCm_le {c : CommitD} {l : Int} (h : 0 ≤ l) : szCm c l ≤ l := by
  unfold szCm
  have h1 := szI_le (a := c.parents) h
  split
  · omega
  · split
    · omega
    · split
      · omega
      · have := szFs_le (a := c.tree) (l := szI c.parents l - c.who.length) (by omega); omega
def szCL : List CommitD → Int → Int
  | [], l => l
  | f :: r, l => if szCm f l < 0 then -1 else szCL r (szCm f l)
def szCommits (a : List CommitD) (l : Int) : Int := if l - a.length < 0 then -1 else szCL a (l - a.length)
theorem szCL_step {a : List CommitD} {i : Nat} {l : Int} (h : i < a.length) : szCL (a.drop i) l = if szCm a[i] l < 0 then -1 else szCL (a.drop (i + 1)) (szCm a[i] l) := by
  rw [List.drop_eq_getElem_cons h]; rfl
theorem szCL_end {a : List CommitD} {i : Nat} {l : Int} (h : a.length ≤ i) : szCL (a.drop i) l = l := by
  rw [List.drop_eq_nil_of_le h]; rfl
theorem szCL_le : ∀ {a : List CommitD} {l : Int}, 0 ≤ l → szCL a l ≤ l := by
  intro a
  induction a with
  | nil => intro l _; exact Int.le_refl l
  | cons s r ih =>
    intro l h
    simp only [szCL]
    split
    · omega
    · have h1 := szCm_le (c := s) h
      have := ih (l := szCm s l) (by omega); omega
theorem szCommits_le {a : List CommitD} {l : Int} (h : 0 ≤ l) : szCommits a l ≤ l := by
  unfold szCommits
  split
  · omega
  · have := szCL_le (a := a) (l := l - a.length) (by omega); omega
def szRp (r : RepoD) (l : Int) : Int := if szCommits r.commits l < 0 then -1 else if szHeads r.heads (szCommits r.commits l) < 0 then -1 else szHeads r.heads (szCommits r.commits l)
end Vx
end Go.Proofs.YtnanellmaelipaaGreatDoor
/-
  Contracts: comparisons of repositories.
-/
namespace Go.Proofs.YtnanellmaelipaaGreatDoor
namespace Vx
open Go.RowKit

end Vx
end Go.Proofs.YtnanellmaelipaaGreatDoor
/-
  Laws: FnExactMarksOk.
-/
namespace Go.Proofs.YtnanellmaelipaaGreatDoor
namespace Vx
open Go.RowKit
set_option maxRecDepth 8000

theorem szCm_ok {c : CommitD} {l : Int} (hl : 0 ≤ l) (h : 0 ≤ szCm c l) : (c.parents.length : Int) ≤ l ∧ (c.who.length : Int) ≤ l ∧ (c.tree.length : Int) ≤ l ∧ ∀ f ∈ c.tree, (f.path.length : Int) ≤ l ∧ (f.text.length : Int) ≤ l ∧ ∀ s ∈ f.text, (s.length : Int) ≤ l := by
  unfold szCm at h
  have h0 := szI_le (a := c.parents) hl
  split at h
  · omega
  · split at h
    · omega
    · split at h
      · omega
      · rename_i h1 h2 h3
        obtain ⟨q1, q2⟩ := szFiles_ok (Int.not_lt.1 h3)
        have hp : (c.parents.length : Int) ≤ l := by
          unfold szI at h1
          split at h1 <;> omega
        refine ⟨hp, by omega, by omega, fun f hf => ?_⟩
        obtain ⟨r1, r2, r3⟩ := q2 f hf
        exact ⟨by omega, by omega, fun s hs => by have := r3 s hs; omega⟩
theorem szCL_ok : ∀ {a : List CommitD} {l : Int}, 0 ≤ l → 0 ≤ szCL a l → ∀ c ∈ a, (c.parents.length : Int) ≤ l ∧ (c.who.length : Int) ≤ l ∧ (c.tree.length : Int) ≤ l ∧ ∀ f ∈ c.tree, (f.path.length : Int) ≤ l ∧ (f.text.length : Int) ≤ l ∧ ∀ s ∈ f.text, (s.length : Int) ≤ l := by
  intro a
  induction a with
  | nil => intro l _ _ c hc; cases hc
  | cons x r ih =>
    intro l hl h c hc
    simp only [szCL] at h
    split at h
    · omega
    · rename_i h0
      rcases List.mem_cons.1 hc with rfl | hc
      · exact szCm_ok hl (by omega)
      · have hle := szCm_le (c := x) hl
        obtain ⟨h1, h2, h3, h4⟩ := ih (by omega) h c hc
        refine ⟨by omega, by omega, by omega, fun f hf => ?_⟩
        obtain ⟨r1, r2, r3⟩ := h4 f hf
        exact ⟨by omega, by omega, fun s hs => by have := r3 s hs; omega⟩
theorem szCommits_ok {a : List CommitD} {l : Int} (h : 0 ≤ szCommits a l) : (a.length : Int) ≤ l ∧ ∀ c ∈ a, (c.parents.length : Int) ≤ l ∧ (c.who.length : Int) ≤ l ∧ (c.tree.length : Int) ≤ l ∧ ∀ f ∈ c.tree, (f.path.length : Int) ≤ l ∧ (f.text.length : Int) ≤ l ∧ ∀ s ∈ f.text, (s.length : Int) ≤ l := by
  unfold szCommits at h
  split at h
  · omega
  · refine ⟨by omega, fun c hc => ?_⟩
    obtain ⟨h1, h2, h3, h4⟩ := szCL_ok (by omega) h c hc
    refine ⟨by omega, by omega, by omega, fun f hf => ?_⟩
    obtain ⟨r1, r2, r3⟩ := h4 f hf
    exact ⟨by omega, by omega, fun s hs => by have := r3 s hs; omega⟩
theorem szHL_le : ∀ {a : List HeadD} {l : Int}, 0 ≤ l → szHL a l ≤ l := by
  intro a
  induction a with
  | nil => intro l _; exact Int.le_refl l
  | cons s r ih =>
    intro l h
    simp only [szHL]
    split
    · omega
    · have h1 := szHd_le (f := s) h
      have := ih (l := szHd s l) (by omega); omega
theorem szHeads_le {a : List HeadD} {l : Int} (h : 0 ≤ l) : szHeads a l ≤ l := by
  unfold szHeads
  split
  · omega
  · have := szHL_le (a := a) (l := l - a.length) (by omega); omega
theorem szHL_ok : ∀ {a : List HeadD} {l : Int}, 0 ≤ l → 0 ≤ szHL a l → ∀ h ∈ a, (h.name.length : Int) ≤ l := by
  intro a
  induction a with
  | nil => intro l _ _ c hc; cases hc
  | cons x r ih =>
    intro l hl h c hc
    simp only [szHL] at h
    split at h
    · omega
    · rename_i h0
      have hle := szHd_le (f := x) hl
      rcases List.mem_cons.1 hc with rfl | hc
      · unfold szHd at h0
        split at h0 <;> omega
      · have := ih (by omega) h c hc; omega
theorem szHeads_ok {a : List HeadD} {l : Int} (h : 0 ≤ szHeads a l) : (a.length : Int) ≤ l ∧ ∀ h ∈ a, (h.name.length : Int) ≤ l := by
  unfold szHeads at h
  split at h
  · omega
  · exact ⟨by omega, fun c hc => by have := szHL_ok (by omega) h c hc; omega⟩
theorem szRp_le {r : RepoD} {l : Int} (h : 0 ≤ l) : szRp r l ≤ l := by
  unfold szRp
  have h1 := szCommits_le (a := r.commits) h
  split
  · omega
  · split
    · omega
    · have := szHeads_le (a := r.heads) (l := szCommits r.commits l) (by omega); omega
theorem szRp_ok {r : RepoD} {l : Int} (hl : 0 ≤ l) (h : 0 ≤ szRp r l) : ((r.commits.length : Int) ≤ l ∧ ∀ c ∈ r.commits, (c.parents.length : Int) ≤ l ∧ (c.who.length : Int) ≤ l ∧ (c.tree.length : Int) ≤ l ∧ ∀ f ∈ c.tree, (f.path.length : Int) ≤ l ∧ (f.text.length : Int) ≤ l ∧ ∀ s ∈ f.text, (s.length : Int) ≤ l) ∧
    (r.heads.length : Int) ≤ l ∧ ∀ h ∈ r.heads, (h.name.length : Int) ≤ l := by
  unfold szRp at h
  have h1 := szCommits_le (a := r.commits) hl
  split at h
  · omega
  · split at h
    · omega
    · rename_i h2 h3
      obtain ⟨q1, q2⟩ := szHeads_ok (Int.not_lt.1 h3)
      exact ⟨szCommits_ok (Int.not_lt.1 h2), by omega, fun c hc => by have := q2 c hc; omega⟩
theorem szRp_use {r : RepoD} (h : 0 ≤ szRp r 1048576) : rpSz r ∧ rpPre r := by
  obtain ⟨⟨h1, h2⟩, h3, h4⟩ := szRp_ok (by omega) h
  refine ⟨⟨by omega, fun c hc => ?_, by omega⟩, by omega, fun c hc f hf => ?_⟩
  · obtain ⟨q1, q2, q3, q4⟩ := h2 c hc
    exact ⟨by omega, by omega, fun g hg => by have := (q4 g hg).2.1; omega⟩
  · have := ((h2 c hc).2.2.2 f hf).1; omega

end Vx
end Go.Proofs.YtnanellmaelipaaGreatDoor
/-
  The nearest mark: the program's way and the reference's are the same; the law FnExactMarkNear.
-/
namespace Go.Proofs.YtnanellmaelipaaGreatDoor
namespace Vx
open Go.RowKit
set_option maxRecDepth 8000

theorem isT_mem {l : List Bool} {x : Int} (h0 : 0 ≤ x) (h1 : x.toNat < l.length) : isT l x.toNat = decide (x ∈ listT l) := by
  rw [Bool.eq_iff_iff, decide_eq_true_iff, listT_mem]
  constructor
  · intro h; exact ⟨x.toNat, h1, h, by omega⟩
  · rintro ⟨i, _, h2, rfl⟩
    simpa using h2
theorem isT_clr (ps : List Int) : ∀ (l : List Bool) (i : Nat), (∀ p ∈ ps, 0 ≤ p) → isT (clrT l ps) i = (isT l i && !decide ((i : Int) ∈ ps)) := by
  induction ps with
  | nil => intro l i _; simp [clrT]
  | cons p r ih =>
    intro l i h
    show isT (clrT (l.set p.toNat false) r) i = _
    rw [ih _ _ fun q hq => h q (by simp [hq])]
    have hp := h p (by simp)
    by_cases e : p.toNat = i
    · have hm : (i : Int) ∈ p :: r := by have : (i : Int) = p := by omega
                                         rw [this]; simp
      have hf : isT (l.set p.toNat false) i = false := by
        unfold isT
        rw [e, List.getD_eq_getElem?_getD, List.getElem?_set_self']
        cases l[i]? <;> rfl
      rw [hf, decide_eq_true hm]; simp
    · rw [isT_set_ne _ e]
      have : ¬ (i : Int) = p := by omega
      simp [this]
theorem listT_clr (l : List Bool) (ps : List Int) (h : ∀ p ∈ ps, 0 ≤ p) : listT (clrT l ps) = (listT l).filter fun x => !decide (x ∈ ps) := by
  unfold listT listF
  rw [clrT_len, List.filter_map, List.filter_filter]
  congr 1
  apply List.filter_congr
  intro i _
  rw [isT_clr ps l i h, Bool.and_comm]
  rfl
theorem sin_new {r : RepoD} {a h : Int} (hr : repoI r = true) (ha : inN r.commits.length a = true) (hh : inN r.commits.length h = true) : listT (sinL r a [h]) = newL r h a := by
  have e : sinL r a [h] = clrT (anc r a) (listT (anc r h)) := rfl
  rw [e, listT_clr]
  · unfold newL newF
    rw [hr, ha, hh, List.take_length]; rfl
  · intro p hp
    obtain ⟨i, _, _, rfl⟩ := listT_mem.1 hp
    omega
theorem near_eq (r : RepoD) (m : List HeadD) (a : Int) : nearI r m a = nearS r m a := by
  unfold nearI nearS
  split
  · rename_i h
    simp only [Bool.and_eq_true, decide_eq_true_eq] at h
    obtain ⟨hM, h0, h1⟩ := h
    unfold marksI at hM
    simp only [Bool.and_eq_true] at hM
    obtain ⟨hr, hh⟩ := hM
    have hat : ∀ x ∈ m, inN r.commits.length x.at_ = true := fun x hx => by
      obtain ⟨i, hi, rfl⟩ := List.getElem_of_mem hx
      have := ((headsB_iff _ _).1 hh).2 i hi
      simp only [okHd, List.getD_eq_getElem?_getD, List.getElem?_eq_getElem hi, Option.getD_some, Bool.and_eq_true] at this
      exact this.1.2
    have hal : inN r.commits.length a = true := by unfold inN; simp; omega
    have hstep : ∀ s, ∀ x ∈ m, nearStep r a s x = nearStepS r a s x := fun s x hx => by
      have hx' := hat x hx
      have hx2 := hx'
      simp only [inN, Bool.and_eq_true, decide_eq_true_eq] at hx2
      unfold nearStep nearStepS
      rw [sin_new hr hal hx', isT_mem hx2.1 (by rw [anc_len]; omega)]
      by_cases hm : x.at_ ∈ listT (anc r a)
      · simp only [hm, decide_true, if_true, Bool.true_and, Bool.or_eq_true, decide_eq_true_eq]
      · simp [hm]
    unfold nearF nearFS
    rw [List.take_length]
    clear hh
    have gen : ∀ (l : List HeadD) (s : Str × Int), (∀ s, ∀ x ∈ l, nearStep r a s x = nearStepS r a s x) → l.foldl (nearStep r a) s = l.foldl (nearStepS r a) s := by
      intro l
      induction l with
      | nil => intro s _; rfl
      | cons y l ih =>
        intro s h
        rw [List.foldl_cons, List.foldl_cons, h s y (by simp)]
        exact ih _ fun s x hx => h s x (by simp [hx])
    exact gen m _ hstep
  · rfl

end Vx
end Go.Proofs.YtnanellmaelipaaGreatDoor
/-
  A contract whose own result is only looked at.
-/
namespace Go.Proofs.YtnanellmaelipaaGreatDoor
namespace Vx
open Go.RowKit
set_option maxRecDepth 8000

/-- A contract whose own result is only looked at. -/
def Con.view (k : Con) (K : Nat) (rows : k.A → k.X → List (List D)) : Con := { k with res := fun a x => .sl false K (rows a x), fin := fun _ _ => [] }
theorem Has.view {P : Program} {f : Nat} {k : Con} (H : Has P f k) (K : Nat) (rows : k.A → k.X → List (List D)) (hr : ∀ a x, k.res a x = .own 8 K (rows a x)) (hb : ∀ a, k.boxes a = []) (hl : k.lends = []) : Has P f (k.view K rows) := by
  suffices key : ∀ (a : k.A), k.pre a → ∀ (c : Cx) (_ : Kn k.need c) (vs : List Value) (β : Nat → Value) (fp : Nat → List (Nat × Nat)), c.n = k.n → c.pins = k.pins2 a β → vs.length = (k.args a).length → vs.length ≤ k.n →
      SatI c (k.start2 a) ⟨vs.toArray ++ Array.replicate (k.n - vs.length) undef, []⟩ c.w0 β fp →
      Calls P f vs.toArray c.w0 fun e w' => ∃ x : k.X, k.post a x ∧ ∃ v, e = .returned v ∧ ∃ β' fp' a', SatI c ⟨fun _ => none, get? []⟩ a' w' β' fp' ∧ RelL w' (get? []) β' c [.sl false K (rows a x)] [v] by
    exact ⟨H.enter, H.tot, H.nob, fun (a : k.A) ha c hky vs β fp hn hpin hlen hlen2 S => key a ha c hky vs β fp hn hpin hlen hlen2 S, H.bldr, H.bt.imp id fun h a => ⟨(h a).1, fun x p hp => (by cases hp)⟩⟩
  intro a ha c hky vs β fp hn hpin hlen hlen2 S
  have hp : c.pins = [] := by rw [hpin]; simp -implicitDefEqProofs [Con.pins2, hb, hl]
  refine (H.calls a ha c hky vs β fp hn hpin hlen hlen2 S).mono ?_
  rintro e w' ⟨x, hx, v, rfl, β', fp', a', E, hv⟩
  rw [hr] at hv
  have hv2 : ∃ e, Vw w' (get? (k.fin a x)) β' c false [.sl e K (rows a x)] [v] := by cases hv with | own _ h2 _ _ => exact h2
  obtain ⟨e, f, h1, h2⟩ := hv2
  refine ⟨x, hx, v, rfl, β', fp', a', ⟨?_, ?_, ?_, ?_, ?_, E.fg, E.old, E.os, E.tape, E.output, E.size, E.defers, E.tn, by simp -implicitDefEqProofs [hp]⟩, .sl ⟨e, f, h1, fun z hz => ⟨⟨?_, ?_⟩, (h2 z hz).2⟩⟩ .lnil⟩
  · intro t g av h; cases h
  · intro h blk hm; cases hm
  · intro h blk hm; cases hm
  · intro h h' blk blk' hm; cases hm
  · intro h blk hm; cases hm
  · rintro ⟨h, ty, vs, hm, _⟩; cases hm
  · intro h e k d R n cc hm; cases hm

end Vx
end Go.Proofs.YtnanellmaelipaaGreatDoor
/-
  Contracts: commits asked for (the program's AncIs, AncNew, AncLine).
-/
namespace Go.Proofs.YtnanellmaelipaaGreatDoor
namespace Vx
open Go.RowKit
set_option maxRecDepth 8000
--TAB tTabB

theorem areB_iff {r : RepoD} {l : List Int} : areB r l = true ↔ repoI r = true ∧ ∀ a ∈ l, 0 ≤ a ∧ a < r.commits.length := by
  unfold areB
  simp only [Bool.and_eq_true, List.all_eq_true, decide_eq_true_eq]
  constructor
  · rintro ⟨h1, h2⟩; exact ⟨h1, fun a ha => by have := h2 a ha; omega⟩
  · rintro ⟨h1, h2⟩; exact ⟨h1, fun a ha => by have := h2 a ha; omega⟩
def ancIsI (r : RepoD) (a b : Int) : Bool := areB r [a, b] && isT (anc r b) a.toNat
def ancNewI (r : RepoD) (a b : Int) : List Int := if areB r [a, b] then listT (sinL r b [a]) else []
def ancLineI (r : RepoD) (a : Int) : List Int := if areB r [a] then lineP r a else []
end Vx
end Go.Proofs.YtnanellmaelipaaGreatDoor
/-
  Contracts: lines put in and taken out by a commit (StatOf), and the law FnExactStatOf.
-/
namespace Go.Proofs.YtnanellmaelipaaGreatDoor
namespace Vx
open Go.RowKit
set_option maxRecDepth 8000
--TAB tTabC

def moreP (a b : List FileD) (p : Str) : Int := ((getL b p).1.length : Int) - lcs (getL a p).1 (getL b p).1
def lessP (a b : List FileD) (p : Str) : Int := ((getL a p).1.length : Int) - lcs (getL a p).1 (getL b p).1
def more26 (a b : List FileD) (l : List Str) : Int := (l.map (moreP a b)).sum
def less26 (a b : List FileD) (l : List Str) : Int := (l.map (lessP a b)).sum
theorem more26_nil (a b) : more26 a b [] = 0 := rfl
theorem less26_nil (a b) : less26 a b [] = 0 := rfl
theorem more26_succ {a b : List FileD} {l : List Str} {i : Nat} (h : i < l.length) : more26 a b (l.take (i + 1)) = more26 a b (l.take i) + moreP a b l[i] := by
  unfold more26; rw [take_succ' h, List.map_append, List.sum_append]; simp only [List.map_cons, List.map_nil, List.sum_cons, List.sum_nil]; omega
theorem less26_succ {a b : List FileD} {l : List Str} {i : Nat} (h : i < l.length) : less26 a b (l.take (i + 1)) = less26 a b (l.take i) + lessP a b l[i] := by
  unfold less26; rw [take_succ' h, List.map_append, List.sum_append]; simp only [List.map_cons, List.map_nil, List.sum_cons, List.sum_nil]; omega
theorem sum_bd {f : Str → Int} (h : ∀ p, -1048576 ≤ f p ∧ f p ≤ 1048576) : ∀ l : List Str, -1048576 * (l.length : Int) ≤ (l.map f).sum ∧ (l.map f).sum ≤ 1048576 * (l.length : Int)
  | [] => by simp
  | x :: l => by
    have := sum_bd h l
    have h1 := h x
    simp only [List.map_cons, List.sum_cons, List.length_cons, Int.natCast_add, Int.natCast_one]
    omega
theorem moreP_bd {a b : List FileD} (ha : ∀ f ∈ a, f.text.length ≤ 1048576) (hb : ∀ f ∈ b, f.text.length ≤ 1048576) (p : Str) : -1048576 ≤ moreP a b p ∧ moreP a b p ≤ 1048576 := by
  have h1 := getL_len ha p
  have h2 := getL_len hb p
  have h3 := lcs_bd (getL a p).1 (getL b p).1
  unfold moreP; omega
theorem lessP_bd {a b : List FileD} (ha : ∀ f ∈ a, f.text.length ≤ 1048576) (hb : ∀ f ∈ b, f.text.length ≤ 1048576) (p : Str) : -1048576 ≤ lessP a b p ∧ lessP a b p ≤ 1048576 := by
  have h1 := getL_len ha p
  have h2 := getL_len hb p
  have h3 := lcs_bd (getL a p).1 (getL b p).1
  unfold lessP; omega
def txS (t : List FileD) : Prop := t.length ≤ 65536 ∧ ∀ f ∈ t, f.text.length ≤ 1048576
theorem m_take {a b : List FileD} (ha : txS a) (hb : txS b) {l : List Str} (hl : l.length ≤ 200000) (i : Nat) : -209715200000 ≤ more26 a b (l.take i) ∧ more26 a b (l.take i) ≤ 209715200000 ∧ -209715200000 ≤ less26 a b (l.take i) ∧ less26 a b (l.take i) ≤ 209715200000 := by
  have h1 := sum_bd (moreP_bd ha.2 hb.2) (l.take i)
  have h2 := sum_bd (lessP_bd ha.2 hb.2) (l.take i)
  have h3 : (l.take i).length ≤ l.length := by rw [List.length_take]; omega
  unfold more26 less26
  omega
theorem tab00 (X Y : List Str) : (tabF X Y 0 0)[0]? = some (tabR X Y 0 0 0) ∧ (tabR X Y 0 0 0)[0]? = some (lcs X Y) ∧ 0 < (tabF X Y 0 0).length ∧ 0 < (tabR X Y 0 0 0).length := by
  refine ⟨tab_row (Nat.zero_le _), ?_, by rw [tab_len]; omega, by rw [tabR_len]; omega⟩
  rw [tabR_get (Nat.zero_le _), if_pos (by omega)]; rfl
def linI (a b : List FileD) : Inv := ⟨Nat, fun i => ⟨[(0, true, .sl true 2 (eFiles a)), (1, true, .sl true 2 (eFiles b)), (4, true, .int .i64 0), (5, true, .int .i64 0), (6, true, .int .i64 (more26 a b ((paths6 a b []).take i))), (7, true, .int .i64 (less26 a b ((paths6 a b []).take i))), (8, true, .sl false 1 (eStrs (paths6 a b []))), (9, true, .int .i64 i)], []⟩, fun i => i ≤ (paths6 a b []).length, fun i => (paths6 a b []).length - i⟩
def cL26Lines : Con := .fn 63 (List FileD × List FileD) (fun a => [.sl true 2 (eFiles a.1), .sl true 2 (eFiles a.2)]) (fun a => txS a.1 ∧ txS a.2) (fun a => .tup [.int .i64 (more26 a.1 a.2 (paths6 a.1 a.2 [])), .int .i64 (less26 a.1 a.2 (paths6 a.1 a.2 []))]) (fun _ => [])
set_option maxHeartbeats 4000000 in
theorem l26Lines_has : Has Tryz.prog 106 cL26Lines := by
  refine has_walk mixed tTabC_ok (l := [(159, cL6Paths), (160, cL4Get), (161, cL1Table)]) (HasL.cons l6Paths_has (HasL.cons l4Get_has (HasL.cons l1Table_has HasL.nil))) [0, 1, 4, 5, 6, 7, 8, 9, 10, 12, 14] ((fun a n (_ : Nat) => (fun a _ => linI a.1 a.2) a n)) [] Tryz.func106 (by kernel_rfl) (code := _) (by unfold Tryz.f106; rfl) (by kernel_rfl) (by decide) (fun _ => ⟨(), trivial⟩) (by intro h; first | exact fun _ => rfl | cases h) (by kernel_rfl) ?_
  intro a ha
  obtain ⟨a, b⟩ := a
  obtain ⟨h1, h2⟩ : txS a ∧ txS b := ha
  have hb := @m_take a b h1 h2 (paths6 a b [])
  have hpl := paths6_len a b []
  have hl1 := h1.1
  have hl2 := h2.1
  simp only [List.length_nil, Nat.add_zero] at hpl
  have hb := hb (by omega)
  simp (maxSteps := 4000000) [cL26Lines, cL6Paths, cL4Get, cL1Table, Con.fn, tTabC, tTab, linI]
  try dsimp only
  refine ⟨a, b, [], ⟨rfl, rfl, rfl⟩, ⟨by omega, by omega, by simp⟩, ⟨0, ⟨by simp -implicitDefEqProofs [more26], by simp -implicitDefEqProofs [less26], rfl, rfl⟩, Nat.zero_le _⟩, fun t ht _ => ⟨fun hlt => ⟨hlt, fun _ => ?_⟩, fun hge => by rw [List.take_of_length_le hge]; exact ⟨rfl, rfl⟩⟩⟩
  have qq : Option.map eStr (paths6 a b [])[t]? = some (eStr (paths6 a b [])[t]) := by simp -implicitDefEqProofs [hlt]
  have ms := more26_succ (a := a) (b := b) hlt
  have ls := less26_succ (a := a) (b := b) hlt
  have hb0 := hb t
  have hb1 := hb (t + 1)
  rw [ms, ls] at hb1
  rw [qq]
  generalize (paths6 a b [])[t] = p at *
  have hx := getL_len h1.2 p
  have hy := getL_len h2.2 p
  have hm : moreP a b p = ((getL b p).1.length : Int) - lcs (getL a p).1 (getL b p).1 := rfl
  have hl : lessP a b p = ((getL a p).1.length : Int) - lcs (getL a p).1 (getL b p).1 := rfl
  rw [hm, hl] at hb1
  rw [hm] at ms
  rw [hl] at ls
  obtain ⟨t1, t2, t3, t4⟩ := tab00 (getL a p).1 (getL b p).1
  have hc := lcs_bd (getL a p).1 (getL b p).1
  simp -implicitDefEqProofs [eStr, D.asStr]
  refine ⟨a, p, ⟨rfl, rfl⟩, hlt, fun _ => ⟨b, p, ⟨rfl, rfl⟩, _, _, ⟨rfl, rfl⟩, ⟨hx, hy⟩, t3, fun _ => ?_⟩⟩
  generalize (getL a p).1 = X at *
  generalize (getL b p).1 = Y at *
  generalize lcs X Y = L at *
  generalize tabF X Y 0 0 = T at *
  generalize tabR X Y 0 0 0 = R at *
  have t5 : R.head? = some L := by rw [List.head?_eq_getElem?]; exact t2
  simp -implicitDefEqProofs [t1, t2, t5, eRow, eInt, D.asRows, D.asInt]
  have hX : (0 : Int) ≤ X.length := by omega
  have hY : (0 : Int) ≤ Y.length := by omega
  exact ⟨t4, fun _ _ => ⟨by omega, fun _ _ => ⟨by omega, fun _ _ _ => ⟨by omega, fun _ _ => ⟨by omega, fun _ _ => ⟨by omega, fun _ _ => ⟨t + 1, ⟨by rw [ms]; omega, by rw [ls]; omega, by omega⟩, by omega, by omega⟩⟩⟩⟩⟩⟩⟩

def treeN (r : RepoD) (n : Int) : List FileD := if n < 0 then [] else treeAt r n
def cTreeN : Con := .fn 13 (RepoD × Int) (fun a => [vRepo a.1, .int .i64 a.2]) (fun a => -1 ≤ a.2 ∧ a.2 < a.1.commits.length) (fun a => .sl true 2 (eFiles (treeN a.1 a.2))) (fun _ => [])
set_option maxHeartbeats 4000000 in
theorem treeN_has : Has Tryz.prog 94 cTreeN := by
  refine has_walk mixed tTabC_ok (l := []) HasL.nil [0, 1, 2, 4] ((fun a n (_ : Nat) => (fun _ => noInv) a n)) [] Tryz.func94 (by kernel_rfl) (code := _) (by unfold Tryz.f94; rfl) (by kernel_rfl) (by decide) (fun _ => ⟨(), trivial⟩) (by intro h; first | exact fun _ => rfl | cases h) (by kernel_rfl) ?_
  intro a ha
  obtain ⟨r, n⟩ := a
  obtain ⟨h1, h2⟩ : -1 ≤ n ∧ n < r.commits.length := ha
  by_cases h0 : n < 0
  · have e : treeN r n = [] := by unfold treeN; rw [if_pos h0]
    simp -implicitDefEqProofs [cTreeN, Con.fn, tTabC, tTab, e, h1, h2]
    try dsimp only
    exact fun h => absurd h (by omega)
  · have hi : n.toNat < r.commits.length := by omega
    have e : Option.map eCommit r.commits[n.toNat]? = some (eCommit r.commits[n.toNat]) := by simp -implicitDefEqProofs [hi]
    have e2 : treeN r n = r.commits[n.toNat].tree := by unfold treeN treeAt; rw [if_neg h0]; simp -implicitDefEqProofs [List.getD_eq_getElem?_getD, hi]
    simp -implicitDefEqProofs [cTreeN, Con.fn, tTabC, tTab, e, e2, eCommit, hi, h1, h2]
    try dsimp only
    exact fun h => absurd h h0

theorem ahead_eq (r : RepoD) (a : Int) (h : ∀ p ∈ (r.commits.getD a.toNat default).parents, 0 ≤ p) : ahead10 r a = treeN r (firstP r a) := by
  unfold ahead10 firstP
  cases hp : (r.commits.getD a.toNat default).parents with
  | nil => rfl
  | cons p l =>
    have := h p (by rw [hp]; simp)
    show treeAt r p = treeN r p
    unfold treeN
    rw [if_neg (by omega)]
theorem ahead_N {r : RepoD} (h : repoI r = true) {a : Int} (h0 : 0 ≤ a) (h1 : a < r.commits.length) : ahead10 r a = treeN r (firstP r a) := ahead_eq r a fun p hp => by
  have hc : a.toNat < r.commits.length := by omega
  exact ((repo_use h hc).2.1 p (by simpa [List.getD_eq_getElem?_getD, hc] using hp)).1
def statOf (r : RepoD) (a : Int) : Int × Int := if repoI r = true ∧ 0 ≤ a ∧ a < r.commits.length then (more26 (treeN r (firstP r a)) (treeAt r a) (paths6 (treeN r (firstP r a)) (treeAt r a) []), less26 (treeN r (firstP r a)) (treeAt r a) (paths6 (treeN r (firstP r a)) (treeAt r a) [])) else (-1, -1)
theorem tree_txS {r : RepoD} (h : repoI r = true) (a : Int) : txS (treeAt r a) := by
  have := repoS_treeAt (by rw [← repo_eq]; exact h) a
  obtain ⟨t1, t2⟩ := treeS_le _ this
  exact ⟨by omega, fun f hf => by have := t2 f hf; omega⟩
theorem treeN_txS {r : RepoD} (h : repoI r = true) (a : Int) : txS (treeN r a) := by
  unfold treeN
  split
  · exact ⟨by simp, by simp⟩
  · exact tree_txS h a
def cStatOfS : Con := .fn 30 (RepoD × Int) (fun a => [vRepo a.1, .int .i64 a.2]) (fun a => rpPre a.1) (fun a => .tup [.int .i64 (statOf a.1 a.2).1, .int .i64 (statOf a.1 a.2).2]) (fun _ => [])
set_option maxHeartbeats 4000000 in
theorem statOfS_has : Has Tryz.prog 35 cStatOfS := by
  refine has_walk mixed tTabC_ok (l := [(82, cL7Ok), (84, cL1In), (107, cL10Ahead), (106, cL26Lines)]) (HasL.cons l7Ok_has (HasL.cons l1In_has (HasL.cons l10Ahead_has (HasL.cons l26Lines_has HasL.nil)))) [0, 1, 2, 4, 5] ((fun a n (_ : Nat) => (fun _ => noInv) a n)) [] Tryz.func35 (by kernel_rfl) (code := _) (by unfold Tryz.f35; rfl) (by kernel_rfl) (by decide) (fun _ => ⟨(), trivial⟩) (by intro h; first | exact fun _ => rfl | cases h) (by kernel_rfl) ?_
  intro a ha
  obtain ⟨r, n⟩ := a
  replace ha : rpPre r := ha
  simp (maxSteps := 8000000) -implicitDefEqProofs [cStatOfS, cL7Ok, cL1In, cL10Ahead, cL26Lines, Con.fn, tTabC, tTab, bRepo_def]
  try dsimp only
  have e0 : (repoS r = false ∨ ¬ (0 ≤ n ∧ n < r.commits.length)) → statOf r n = (-1, -1) := fun h => by unfold statOf; rw [if_neg]; rw [repo_eq]; rintro ⟨q1, q2⟩; rcases h with h | h; rw [h] at q1; cases q1; exact h q2
  refine ⟨ha.1, fun h => by rw [e0 (.inl h)]; exact ⟨rfl, rfl⟩, fun h _ => ⟨by omega, fun _ _ => ⟨n, 0, _, ⟨rfl, rfl, rfl⟩, fun hq => by rw [e0 (.inr (by omega))]; exact ⟨rfl, rfl⟩, fun g0 g1 => ⟨r, n, ⟨⟨rfl, rfl⟩, rfl⟩, ⟨h, g0, by omega⟩, ⟨g0, by omega⟩, fun _ g2 => ?_⟩⟩⟩⟩
  have hI : repoI r = true := by rw [repo_eq]; exact h
  have cg := cget g0 g2
  have e1 : statOf r n = (more26 (treeN r (firstP r n)) (treeAt r n) (paths6 (treeN r (firstP r n)) (treeAt r n) []), less26 (treeN r (firstP r n)) (treeAt r n) (paths6 (treeN r (firstP r n)) (treeAt r n) [])) := by unfold statOf; rw [if_pos ⟨hI, g0, g2⟩]
  rw [cg, e1, ahead_N hI g0 g2]
  simp -implicitDefEqProofs [D.asRows]
  exact ⟨treeN r (firstP r n), treeAt r n, ⟨rfl, rfl⟩, ⟨treeN_txS hI _, tree_txS hI _⟩, rfl, rfl⟩

def soI (r : RepoD) (n : Int) : Inv := ⟨Nat, fun i => ⟨[(1, true, .int .i64 n), (2, true, .ptr 10 0), (4, true, .int .i64 0), (5, true, .int .i64 0), (6, true, .sl true 2 (eFiles (treeN r (firstP r n)))), (7, true, .sl true 2 (eFiles (treeAt r n))), (8, true, .int .i64 (more26 (treeN r (firstP r n)) (treeAt r n) ((paths6 (treeN r (firstP r n)) (treeAt r n) []).take i))), (9, true, .int .i64 (less26 (treeN r (firstP r n)) (treeAt r n) ((paths6 (treeN r (firstP r n)) (treeAt r n) []).take i))), (31, true, .own 9 1 (eStrs (paths6 (treeN r (firstP r n)) (treeAt r n) []))), (32, true, .int .i64 (paths6 (treeN r (firstP r n)) (treeAt r n) []).length), (33, true, .int .i64 i)], [(10, bRepo r), (9, .own 9 1 true (eStrs (paths6 (treeN r (firstP r n)) (treeAt r n) [])))]⟩, fun i => i ≤ (paths6 (treeN r (firstP r n)) (treeAt r n) []).length, fun i => (paths6 (treeN r (firstP r n)) (treeAt r n) []).length - i⟩
def cStatOfI : Con := .fn 67 (RepoD × Int) (fun a => [vRepo a.1, .int .i64 a.2]) (fun a => rpPre a.1) (fun a => .tup [.int .i64 (statOf a.1 a.2).1, .int .i64 (statOf a.1 a.2).2]) (fun _ => [])
set_option maxHeartbeats 4000000 in
theorem statOfI_has : Has Tryz.prog 34 cStatOfI := by
  refine has_walk mixed tTabC_ok (l := [(89, cAre), (102, cFirst), (94, cTreeN), (103, cAllPaths), (104, cHasAt), (105, cLcsI)]) (HasL.cons are_has (HasL.cons first_has (HasL.cons treeN_has (HasL.cons allPaths_has (HasL.cons hasAt_has (HasL.cons lcsI_has HasL.nil)))))) [0, 1, 2, 4, 5, 6, 7, 8, 9, 11, 12, 13, 14, 31, 32, 33] ((fun a n (_ : Nat) => (fun a _ => soI a.1 a.2) a n)) [] Tryz.func34 (by kernel_rfl) (code := _) (by unfold Tryz.f34; rfl) (by kernel_rfl) (by decide) (fun _ => ⟨(), trivial⟩) (by intro h; first | exact fun _ => rfl | cases h) (by kernel_rfl) ?_
  intro a ha
  obtain ⟨r, n⟩ := a
  replace ha : rpPre r := ha
  simp (maxSteps := 8000000) -implicitDefEqProofs [-kStep_move, -Bool.exists_bool, cStatOfI, cAre, cFirst, cTreeN, cAllPaths, cHasAt, cLcsI, Con.fn, tTabC, tTab, bRepo_def, soI]
  try dsimp only
  simp -implicitDefEqProofs only [and_assoc, exists_eq_left, exists_and_left, RepoD.ex1, RepoD.eta]
  refine ⟨[n], rfl, ha, fun h => ?_, fun h => ?_⟩
  · have e0 : statOf r n = (-1, -1) := by
      unfold statOf
      rw [if_neg]
      rintro ⟨q1, q2⟩
      rw [areB_iff.2 ⟨q1, by simpa using q2⟩] at h
      cases h
    rw [e0]; exact ⟨rfl, rfl⟩
  obtain ⟨hI, g0⟩ := areB_iff.1 h
  obtain ⟨g0, g1⟩ := g0 n (by simp)
  have e1 : statOf r n = (more26 (treeN r (firstP r n)) (treeAt r n) (paths6 (treeN r (firstP r n)) (treeAt r n) []), less26 (treeN r (firstP r n)) (treeAt r n) (paths6 (treeN r (firstP r n)) (treeAt r n) [])) := by unfold statOf; rw [if_pos ⟨hI, g0, g1⟩]
  obtain ⟨f1, f2⟩ := first_lt hI g0 g1
  have eN : treeN r n = treeAt r n := by unfold treeN; rw [if_neg (by omega)]
  have h1 := treeN_txS hI (firstP r n)
  have h2 := tree_txS hI n
  rw [e1, eN]
  generalize treeN r (firstP r n) = a at *
  generalize treeAt r n = b at *
  have hpl := paths6_len a b []
  have hl1 := h1.1
  have hl2 := h2.1
  simp only [List.length_nil, Nat.add_zero] at hpl
  have hb := @m_take a b h1 h2 (paths6 a b []) (by omega)
  refine ⟨g0, g1, f1, by omega, by omega, g1, [a, b], rfl, by simp; omega, by simp, fun _ => ⟨trivial, rfl, ⟨0, by simp -implicitDefEqProofs [more26], by simp -implicitDefEqProofs [less26], by rw [allP_2], by rw [allP_2], rfl, by rw [allP_2], Nat.zero_le _⟩, fun t ht => ⟨fun hlt => ⟨hlt, fun _ => ?_⟩, fun hge => by rw [List.take_of_length_le hge]; exact ⟨rfl, rfl⟩⟩⟩⟩
  have qq : Option.map eStr (paths6 a b [])[t]? = some (eStr (paths6 a b [])[t]) := by simp -implicitDefEqProofs [hlt]
  have ms := more26_succ (a := a) (b := b) hlt
  have ls := less26_succ (a := a) (b := b) hlt
  have hb0 := hb t
  have hb1 := hb (t + 1)
  rw [ms, ls] at hb1
  rw [qq]
  generalize (paths6 a b [])[t] = p at *
  have hx := getL_len h1.2 p
  have hy := getL_len h2.2 p
  have hm : moreP a b p = ((getL b p).1.length : Int) - lcs (getL a p).1 (getL b p).1 := rfl
  have hl : lessP a b p = ((getL a p).1.length : Int) - lcs (getL a p).1 (getL b p).1 := rfl
  rw [hm, hl] at hb1
  rw [hm] at ms
  rw [hl] at ls
  obtain ⟨t1, t2, t3, t4⟩ := tab00 (getL a p).1 (getL b p).1
  have hc := lcs_bd (getL a p).1 (getL b p).1
  simp -implicitDefEqProofs [eStr, D.asStr, getI_eq]
  refine ⟨h1.2, h2.2, hx, hy, t3, fun _ => ?_⟩
  generalize (getL a p).1 = X at *
  generalize (getL b p).1 = Y at *
  generalize lcs X Y = L at *
  generalize tabF X Y 0 0 = T at *
  generalize tabR X Y 0 0 0 = R at *
  have t5 : R.head? = some L := by rw [List.head?_eq_getElem?]; exact t2
  simp -implicitDefEqProofs [t1, t2, t5, eRow, eInt, D.asRows, D.asInt]
  have hX : (0 : Int) ≤ X.length := by omega
  have hY : (0 : Int) ≤ Y.length := by omega
  exact ⟨t4, fun _ _ => ⟨by omega, by omega, fun _ _ => ⟨by omega, by omega, fun _ _ _ => ⟨by omega, by omega, fun _ _ => ⟨by omega, by omega, fun _ _ => ⟨by omega, by omega, fun _ _ => ⟨t + 1, by rw [ms], by rw [ls], by omega, by omega, by omega⟩⟩⟩⟩⟩⟩⟩

end Vx
end Go.Proofs.YtnanellmaelipaaGreatDoor
/-
  Contracts: small numbers as text (strconv.Itoa, l1Dec).
-/
namespace Go.Proofs.YtnanellmaelipaaGreatDoor
namespace Vx
open Go.RowKit
set_option maxRecDepth 8000

def decS (n : Nat) : Str := if n < 10 then [UInt8.ofNat (48 + n)] else [UInt8.ofNat (48 + n / 10), UInt8.ofNat (48 + n % 10)]
theorem has_none {P : Program} {f : Nat} {fn : Func} {code : Code} {k : Con} (hf : P.funcs[f]? = some fn) (hname : (fn.name == "runtime.NumGoroutine") = false) (hb : fn.body = some code) (tot : ∀ a, ∃ x, k.post a x) (nob : k.nob = true → ∀ a, k.boxes a = []) (hp : ∀ a, ¬ k.pre a) (hbd : k.bld = (0, 0, 0, 0) := by rfl) (hbt : k.bty = [] := by rfl) : Has P f k :=
  ⟨fun args w => Go.MuLone.run_callFunc_enter hf hname hb args w, tot, nob, fun a ha => absurd ha (hp a), by rw [hbd]; trivial, .inl hbt⟩
end Vx
end Go.Proofs.YtnanellmaelipaaGreatDoor
/-
  Contracts: trees written (l24Tree).
-/
namespace Go.Proofs.YtnanellmaelipaaGreatDoor
namespace Vx
open Go.RowKit
set_option maxRecDepth 8000

def linesT (l : List Str) : Str := (l.map fun s => s ++ [10]).flatten
def fileH (f : FileD) : Str := [102, 105, 108, 101, 32] ++ f.path ++ [32] ++ decS f.text.length ++ [10]
def treeT (t : List FileD) : Str := (t.map fun f => fileH f ++ linesT f.text).flatten
def okT (t : List FileD) : Prop := t.length ≤ 8 ∧ ∀ f ∈ t, f.path.length ≤ 1048576 ∧ f.text.length ≤ 64 ∧ ∀ s ∈ f.text, s.length ≤ 12
theorem linesT_take (l : List Str) (k : Nat) (h : k < l.length) : linesT (l.take (k + 1)) = linesT (l.take k) ++ (l[k] ++ [10]) := by
  unfold linesT
  rw [take_succ' h, List.map_append, List.flatten_append]
  simp
theorem treeT_take (t : List FileD) (i : Nat) (h : i < t.length) : treeT (t.take (i + 1)) = treeT (t.take i) ++ (fileH t[i] ++ linesT t[i].text) := by
  unfold treeT
  rw [take_succ' h, List.map_append, List.flatten_append]
  simp
theorem linesT_len (l : List Str) (h : ∀ s ∈ l, s.length ≤ 12) : (linesT l).length ≤ 13 * l.length := by
  induction l with
  | nil => simp -implicitDefEqProofs [linesT]
  | cons s r ih =>
    have h1 := h s (by simp)
    have h2 := ih (fun s hs => h s (by simp -implicitDefEqProofs [hs]))
    simp only [linesT, List.map_cons, List.flatten_cons, List.length_append, List.length_cons, List.length_nil] at h2 ⊢
    omega
theorem decS_len (n : Nat) : (decS n).length ≤ 2 := by unfold decS; split <;> simp
theorem fileH_len (f : FileD) : (fileH f).length ≤ f.path.length + 9 := by
  have := decS_len f.text.length
  simp only [fileH, List.length_append, List.length_cons, List.length_nil]
  omega
theorem treeT_len (t : List FileD) (h : ∀ f ∈ t, f.path.length ≤ 1048576 ∧ f.text.length ≤ 64 ∧ ∀ s ∈ f.text, s.length ≤ 12) : (treeT t).length ≤ 1050000 * t.length := by
  induction t with
  | nil => simp -implicitDefEqProofs [treeT]
  | cons f r ih =>
    obtain ⟨h1, h2, h3⟩ := h f (by simp)
    have h4 := ih (fun s hs => h s (by simp -implicitDefEqProofs [hs]))
    have h5 := linesT_len f.text h3
    have h6 := fileH_len f
    simp only [treeT, List.map_cons, List.flatten_cons, List.length_append, List.length_cons] at h4 ⊢
    omega
theorem okT_take {t : List FileD} (h : okT t) (i : Nat) : (treeT (t.take i)).length ≤ 8400000 := by
  have h1 := treeT_len (t.take i) (fun f hf => h.2 f (List.mem_of_mem_take hf))
  have : (t.take i).length ≤ t.length := by simp; omega
  have := h.1
  omega

def ltO (t : List FileD) : Inv := ⟨Nat, fun i => ⟨[(0, true, .sl true 2 (eFiles t)), (2, true, .str []), (3, true, .str (treeT (t.take i))), (4, true, .int .i64 i)], []⟩, fun i => i ≤ t.length, fun i => t.length - i⟩
def ltI (t : List FileD) (g : Nat) : Inv := ⟨Nat, fun k => ⟨[(0, true, .sl true 2 (eFiles t)), (2, true, .str []), (3, true, .str (treeT (t.take g) ++ fileH (t.getD g default) ++ linesT ((t.getD g default).text.take k))), (4, true, .int .i64 g), (5, true, .int .i64 k)], []⟩, fun k => g < t.length ∧ k ≤ (t.getD g default).text.length, fun k => (t.getD g default).text.length - k⟩
def ltInv (t : List FileD) (n g : Nat) : Inv := if n = 3 then ltO t else ltI t g
theorem ltInv_3 (t : List FileD) (g : Nat) : ltInv t 3 g = ltO t := rfl
theorem ltInv_7 (t : List FileD) (g : Nat) : ltInv t 7 g = ltI t g := rfl
theorem okT_of {t : List FileD} (h : treeS t = true) (hp : ∀ f ∈ t, f.path.length ≤ 1048576) : okT t := by
  obtain ⟨h1, h2⟩ := treeS_le t h
  refine ⟨h1, fun f hf => ⟨hp f hf, h2 f hf, fun s hs => ?_⟩⟩
  simp only [treeS, Bool.and_eq_true, decide_eq_true_eq, List.all_eq_true, List.mem_range, okHead] at h
  obtain ⟨i, hi, rfl⟩ := List.getElem_of_mem hf
  have := (h.1 i hi).1.1.2
  simp only [List.getD_eq_getElem?_getD, List.getElem?_eq_getElem hi, Option.getD_some, textB, Bool.and_eq_true, List.all_eq_true] at this
  have := this.2 s hs
  simp only [lineB, Bool.and_eq_true, decide_eq_true_eq] at this
  exact this.1
def treePutS (t : List FileD) : Str := if treeS t then treeT t else []
end Vx
end Go.Proofs.YtnanellmaelipaaGreatDoor
/-
  Plain law: trees read back from their lines, both ways of reading.
-/
namespace Go.Proofs.YtnanellmaelipaaGreatDoor
namespace Vx
open Go.RowKit
set_option maxRecDepth 8000

theorem spl_app {c : UInt8} : ∀ {l r p : Str}, c ∉ l → spl c (l ++ r) p = spl c r (p ++ l) := by
  intro l
  induction l with
  | nil => intro r p _; simp
  | cons x l ih =>
    intro r p h
    have hx : ¬ x = c := fun e => h (by simp [e])
    simp only [List.cons_append, spl, hx, if_false]
    rw [ih (fun hm => h (by simp [hm]))]
    simp
theorem spl_lines : ∀ {ls : List Str}, (∀ l ∈ ls, (10 : UInt8) ∉ l) → spl 10 (linesT ls) [] = ls ++ [[]] := by
  intro ls
  induction ls with
  | nil => intro _; rfl
  | cons l ls ih =>
    intro h
    have e : linesT (l :: ls) = l ++ (10 :: linesT ls) := by simp [linesT]
    rw [e, spl_app (h l (by simp))]
    simp only [spl, if_true, List.nil_append, List.cons_append]
    rw [ih fun x hx => h x (by simp [hx])]
theorem spl_le {c : UInt8} : ∀ {s p : Str}, ∀ q ∈ spl c s p, q.length ≤ p.length + s.length := by
  intro s
  induction s with
  | nil => intro p q hq; simp [spl] at hq; simp [hq]
  | cons x s ih =>
    intro p q hq
    simp only [spl] at hq
    split at hq
    · rcases List.mem_cons.1 hq with rfl | hq
      · simp
      · have := ih q hq; simp at this ⊢; omega
    · have := ih q hq; simp at this ⊢; omega
theorem spl_sum {c : UInt8} : ∀ {s p : Str}, ((spl c s p).map fun q => q.length + 1).sum = p.length + s.length + 1 := by
  intro s
  induction s with
  | nil => intro p; simp [spl]
  | cons x s ih =>
    intro p
    simp only [spl]
    split
    · simp [ih]; omega
    · rw [ih]; simp; omega
theorem spl_none' {c : UInt8} {s p : Str} (h : c ∉ s) : spl c s p = [p ++ s] := by
  have := spl_app (r := []) (p := p) h
  simpa [spl] using this

/-- What a line is. -/
def headL (f : FileD) : Str := [102, 105, 108, 101, 32] ++ f.path ++ [32] ++ decS f.text.length
def encT (t : List FileD) : List Str := (t.map fun f => headL f :: f.text).flatten
theorem treeT_enc (t : List FileD) : treeT t = linesT (encT t) := by
  induction t with
  | nil => rfl
  | cons f t ih =>
    have e1 : treeT (f :: t) = (fileH f ++ linesT f.text) ++ treeT t := by simp [treeT]
    have e2 : linesT (encT (f :: t)) = (fileH f ++ linesT f.text) ++ linesT (encT t) := by simp [encT, linesT, headL, fileH]
    rw [e1, e2, ih]
theorem decS_no {n : Nat} (h : n < 100) (c : UInt8) (hc : c.toNat < 48) : c ∉ decS n := by
  have key : ∀ k : Nat, k < 10 → ¬ c = UInt8.ofNat (48 + k) := fun k hk e => by
    have : c.toNat = 48 + k := by rw [e]; simp; omega
    omega
  unfold decS
  split
  · rename_i h1; simpa using key n h1
  · have h1 := key (n / 10) (by omega)
    have h2 := key (n % 10) (by omega)
    simp only [List.mem_cons, List.not_mem_nil, or_false]
    rintro (e | e)
    · exact h1 e
    · exact h2 e
def plainT (t : List FileD) : Prop := ∀ f ∈ t, (∀ b ∈ f.path, 32 < b.toNat) ∧ f.text.length < 100 ∧ ∀ l ∈ f.text, (10 : UInt8) ∉ l
theorem headL_no {f : FileD} (h1 : ∀ b ∈ f.path, 32 < b.toNat) (h2 : f.text.length < 100) : (10 : UInt8) ∉ headL f := by
  have := decS_no h2 10 (by decide)
  simp only [headL, List.mem_append, not_or]
  exact ⟨⟨⟨by decide, fun h => by have := h1 _ h; simp at this⟩, by decide⟩, this⟩
theorem headL_words {f : FileD} (h1 : ∀ b ∈ f.path, 32 < b.toNat) (h2 : f.text.length < 100) : spl 32 (headL f) [] = [[102, 105, 108, 101], f.path, decS f.text.length] := by
  have e : headL f = [102, 105, 108, 101] ++ (32 :: (f.path ++ (32 :: decS f.text.length))) := by simp [headL]
  rw [e, spl_app (by decide)]
  simp only [spl, if_true, List.nil_append]
  rw [spl_app (fun h => by have := h1 _ h; simp at this)]
  simp only [spl, if_true, List.nil_append]
  rw [spl_none' (decS_no h2 32 (by decide))]
  rfl
theorem encT_no {t : List FileD} (h : plainT t) : ∀ l ∈ encT t, (10 : UInt8) ∉ l := by
  intro l hl
  simp only [encT, List.mem_flatten, List.mem_map] at hl
  obtain ⟨_, ⟨f, hf, rfl⟩, hl⟩ := hl
  obtain ⟨h1, h2, h3⟩ := h f hf
  rcases List.mem_cons.1 hl with rfl | hl
  · exact headL_no h1 h2
  · exact h3 l hl

/-- The program's readFiles: what is read so far, and the lines left. -/
def rfI (num : Str → Int × Bool) : Nat → List FileD → List Str → List FileD × List Str
  | 0, t, ls => (t, ls)
  | _ + 1, t, [] => (t, [])
  | n + 1, t, l :: ls =>
    if (spl 32 l []).length = 3 ∧ (spl 32 l []).getD 0 [] = [102, 105, 108, 101] then
      (if (num ((spl 32 l []).getD 2 [])).2 = true ∧ 0 ≤ (num ((spl 32 l []).getD 2 [])).1 ∧ (num ((spl 32 l []).getD 2 [])).1 ≤ ls.length then
        rfI num n (t ++ [⟨(spl 32 l []).getD 1 [], ls.take (num ((spl 32 l []).getD 2 [])).1.toNat⟩]) (ls.drop (num ((spl 32 l []).getD 2 [])).1.toNat)
      else (t, l :: ls))
    else (t, l :: ls)
theorem rfI_fuel {num} : ∀ {n m : Nat} {t : List FileD} {ls : List Str}, ls.length ≤ n → ls.length ≤ m → rfI num n t ls = rfI num m t ls := by
  intro n
  induction n with
  | zero =>
    intro m t ls h1 _
    have : ls = [] := List.eq_nil_of_length_eq_zero (by omega)
    subst this
    cases m <;> rfl
  | succ n ih =>
    intro m t ls h1 h2
    cases ls with
    | nil => cases m <;> rfl
    | cons l ls =>
      obtain ⟨m, rfl⟩ : ∃ k, m = k + 1 := ⟨m - 1, by simp at h2; omega⟩
      simp only [rfI]
      simp at h1 h2
      split
      · split
        · exact ih (by simp; omega) (by simp; omega)
        · rfl
      · rfl
/-- Lines behind a tree: none, or one that begins with another word. -/
def stopsL (rest : List Str) : Prop := rest = [] ∨ ∃ l r, rest = l :: r ∧ (spl 32 l []).getD 0 [] ≠ [102, 105, 108, 101]
theorem rfI_enc {num} (hnum : ∀ n : Nat, n < 100 → num (decS n) = ((n : Int), true)) {rest : List Str} (hr : stopsL rest) : ∀ {t : List FileD} (_ : plainT t) (acc : List FileD) (n : Nat), (encT t ++ rest).length ≤ n → rfI num n acc (encT t ++ rest) = (acc ++ t, rest) := by
  intro t
  induction t with
  | nil =>
    intro _ acc n _
    simp only [encT, List.map_nil, List.flatten_nil, List.nil_append, List.append_nil]
    rcases hr with rfl | ⟨l, r, rfl, h⟩
    · cases n <;> rfl
    · cases n with
      | zero => rfl
      | succ n => simp only [rfI]; rw [if_neg (fun q => h q.2)]
  | cons f t ih =>
    intro hp acc n hn
    obtain ⟨h1, h2, h3⟩ := hp f (by simp)
    have e : encT (f :: t) ++ rest = headL f :: (f.text ++ (encT t ++ rest)) := by simp [encT]
    rw [e] at hn ⊢
    obtain ⟨n, rfl⟩ : ∃ k, n = k + 1 := ⟨n - 1, by simp at hn; omega⟩
    simp only [rfI, headL_words h1 h2]
    simp only [List.getD_cons_zero, List.getD_cons_succ, hnum _ h2, List.length_cons, List.length_nil]
    rw [if_pos ⟨trivial, trivial⟩, if_pos ⟨by simp, by omega, by simp; omega⟩]
    simp only [Int.toNat_natCast, List.take_left, List.drop_left]
    rw [ih (fun g hg => hp g (by simp [hg])) _ n (by simp at hn ⊢; omega)]
    simp

def linesI (s : Str) : List Str × Bool := if s = [] then ([], true) else ((spl 10 s []).dropLast, decide ((spl 10 s []).getLastD [] = []))
theorem linesI_enc {ls : List Str} (h : ∀ l ∈ ls, (10 : UInt8) ∉ l) : linesI (linesT ls) = (ls, true) := by
  unfold linesI
  rw [spl_lines h]
  cases ls with
  | nil => rfl
  | cons l ls =>
    rw [if_neg (by simp [linesT]), List.dropLast_concat, List.getLastD_concat]
    rfl
def treeReadI (num : Str → Int × Bool) (ok : List FileD → Bool) (s : Str) : List FileD × Bool :=
  if (linesI s).2 = true ∧ (rfI num (linesI s).1.length [] (linesI s).1).2 = [] ∧ ok (rfI num (linesI s).1.length [] (linesI s).1).1 = true ∧ treeT (rfI num (linesI s).1.length [] (linesI s).1).1 = s then ((rfI num (linesI s).1.length [] (linesI s).1).1, true) else ([], false)

/-- The reference's lines: at, bad. -/
def rdLine (ls : List Str) (a : Nat × Bool) : Str × (Nat × Bool) := if ls.length ≤ a.1 + 1 then ([], (a.1, true)) else (ls.getD a.1 [], (a.1 + 1, a.2))
def rdText (ls : List Str) : Nat → List Str → (Nat × Bool) → List Str × (Nat × Bool)
  | 0, acc, a => (acc, a)
  | n + 1, acc, a => rdText ls n (acc ++ [(rdLine ls a).1]) (rdLine ls a).2
def rdMore (ls : List Str) (head : Str) (a : Nat × Bool) : Bool := !a.2 && decide (a.1 + 1 < ls.length) && prefB head (ls.getD a.1 [])
/-- l1Num. -/
def numA : Str → Nat → Int → Int
  | [], _, n => n
  | x :: r, i, n => if x.toNat < 48 ∨ 57 < x.toNat ∨ 6 ≤ i then -1 else numA r (i + 1) (n * 10 + ((x.toNat : Int) - 48))
def numB (s : Str) : Int := if numA s 0 0 = -1 then -1 else if s.length = 0 ∨ (1 < s.length ∧ s.getD 0 0 = 48) then -1 else numA s 0 0
def rdTree (ls : List Str) : Nat → List FileD → (Nat × Bool) → List FileD × (Nat × Bool)
  | 0, t, a => (t, a)
  | n + 1, t, a =>
    if rdMore ls [102, 105, 108, 101, 32] a then
      (if ¬ (cutB (rdLine ls a).1 32 3).length = 3 ∨ 10 < numB ((cutB (rdLine ls a).1 32 3).getD 2 []) then ([], ((rdLine ls a).2.1, true))
      else rdTree ls n (t ++ [⟨(cutB (rdLine ls a).1 32 3).getD 1 [], (rdText ls (numB ((cutB (rdLine ls a).1 32 3).getD 2 [])).toNat [] (rdLine ls a).2).1⟩]) (rdText ls (numB ((cutB (rdLine ls a).1 32 3).getD 2 [])).toNat [] (rdLine ls a).2).2)
    else (t, a)
theorem rdText_enc {ls : List Str} : ∀ {x : List Str} {acc : List Str} {a : Nat} {r : List Str}, ls.drop a = x ++ r → r ≠ [] → rdText ls x.length acc (a, false) = (acc ++ x, (a + x.length, false)) := by
  intro x
  induction x with
  | nil => intro acc a r _ _; simp [rdText]
  | cons l x ih =>
    intro acc a r h hr
    have hlen : (ls.drop a).length = x.length + 1 + r.length := by rw [h]; simp; omega
    have hr1 : 0 < r.length := List.length_pos_iff.2 hr
    rw [List.length_drop] at hlen
    have hg : ls.getD a [] = l := by
      have : (ls.drop a)[0]? = some l := by rw [h]; rfl
      rw [List.getElem?_drop, Nat.add_zero] at this
      simp [List.getD_eq_getElem?_getD, this]
    have hd : ls.drop (a + 1) = x ++ r := by
      rw [← List.drop_drop, h]; rfl
    simp only [rdText, rdLine, List.length_cons]
    rw [if_neg (show ¬ ls.length ≤ a + 1 by omega)]
    simp only [hg]
    rw [ih hd hr]
    simp
    omega
theorem numB_dec {n : Nat} (h : n < 100) : numB (decS n) = n := by
  revert h
  revert n
  decide
/-- Lines behind a tree. -/
def stopsS (rest : List Str) : Prop := (∃ l, rest = [l]) ∨ ∃ l m r, rest = l :: m :: r ∧ prefB [102, 105, 108, 101, 32] l = false
theorem rdTree_enc {ls : List Str} {rest : List Str} (hr : stopsS rest) : ∀ {t : List FileD} (_ : plainT t) (_ : ∀ f ∈ t, f.text.length ≤ 10) (acc : List FileD) (n a : Nat), t.length < n ∨ (t.length ≤ n) → ls.drop a = encT t ++ rest → rdTree ls n acc (a, false) = (acc ++ t, (a + (encT t).length, false)) := by
  have hr0 : rest ≠ [] := by rcases hr with ⟨l, rfl⟩ | ⟨l, m, r, rfl, _⟩ <;> simp
  intro t
  induction t with
  | nil =>
    intro _ _ acc n a _ h
    simp only [encT, List.map_nil, List.flatten_nil, List.nil_append] at h
    have hlen : ls.length - a = rest.length := by rw [← List.length_drop, h]
    cases n with
    | zero => simp [rdTree, encT]
    | succ n =>
      have hm : rdMore ls [102, 105, 108, 101, 32] (a, false) = false := by
        rcases hr with ⟨l, rfl⟩ | ⟨l, m, r, rfl, hp⟩
        · simp only [rdMore, Bool.not_false, Bool.true_and]
          have : ¬ a + 1 < ls.length := by simp at hlen; omega
          simp [this]
        · have hg : ls.getD a [] = l := by
            have : (ls.drop a)[0]? = some l := by rw [h]; rfl
            rw [List.getElem?_drop, Nat.add_zero] at this
            simp [List.getD_eq_getElem?_getD, this]
          simp only [rdMore, hg, hp, Bool.and_false]
      simp only [rdTree, hm]
      simp [encT]
  | cons f t ih =>
    intro hp ht acc n a hn h
    obtain ⟨h1, h2, h3⟩ := hp f (by simp)
    have h10 := ht f (by simp)
    obtain ⟨n, rfl⟩ : ∃ k, n = k + 1 := ⟨n - 1, by simp at hn; omega⟩
    have e : encT (f :: t) ++ rest = headL f :: (f.text ++ (encT t ++ rest)) := by simp [encT]
    rw [e] at h
    have hrl : 0 < rest.length := List.length_pos_iff.2 hr0
    have hlen : ls.length - a = f.text.length + (encT t).length + rest.length + 1 := by rw [← List.length_drop, h]; simp; omega
    have hg : ls.getD a [] = headL f := by
      have : (ls.drop a)[0]? = some (headL f) := by rw [h]; rfl
      rw [List.getElem?_drop, Nat.add_zero] at this
      simp [List.getD_eq_getElem?_getD, this]
    have hd : ls.drop (a + 1) = f.text ++ (encT t ++ rest) := by rw [← List.drop_drop, h]; rfl
    have hm : rdMore ls [102, 105, 108, 101, 32] (a, false) = true := by
      simp only [rdMore, hg, Bool.not_false, Bool.true_and, Bool.and_eq_true, decide_eq_true_eq]
      refine ⟨by omega, ?_⟩
      simp [prefB, headL]
    have hl : rdLine ls (a, false) = (headL f, (a + 1, false)) := by
      unfold rdLine
      rw [if_neg (show ¬ ls.length ≤ a + 1 by omega), hg]
    have hw : cutB (headL f) 32 3 = [[102, 105, 108, 101], f.path, decS f.text.length] := by
      have hc : (headL f).count 32 ≤ 3 := by
        have := spl_len 32 (headL f) []
        rw [headL_words h1 h2] at this
        simp at this
        omega
      have : cutB (headL f) ((32 : UInt8).toNat : Int) 3 = spl 32 (headL f) [] := cut_spl (by omega)
      rw [headL_words h1 h2] at this
      exact this
    simp only [rdTree, hm, if_true, hl, hw, List.getD_cons_zero, List.getD_cons_succ, numB_dec h2, List.length_cons, List.length_nil]
    rw [if_neg (show ¬(¬True ∨ (10:Int) < (f.text.length : Int)) by simp; omega)]
    rw [Int.toNat_natCast, rdText_enc hd (by simp [hr0])]
    simp only [List.nil_append]
    have hd2 : ls.drop (a + 1 + f.text.length) = encT t ++ rest := by
      rw [← List.drop_drop, hd]; simp
    rw [ih (fun g hg => hp g (by simp [hg])) (fun g hg => ht g (by simp [hg])) _ n _ (.inr (by simp at hn; omega)) hd2]
    simp [encT]
    omega
def treeReadS (ok : List FileD → Bool) (s : Str) : List FileD × Bool :=
  if (rdTree (cutB s 10 89) 8 [] (0, false)).2.2 = false ∧ (rdTree (cutB s 10 89) 8 [] (0, false)).2.1 + 1 = (cutB s 10 89).length ∧ ok (rdTree (cutB s 10 89) 8 [] (0, false)).1 = true ∧ treeT (rdTree (cutB s 10 89) 8 [] (0, false)).1 = s then ((rdTree (cutB s 10 89) 8 [] (0, false)).1, true) else ([], false)

structure OkT (ok : List FileD → Bool) : Prop where
  n : ∀ {t}, ok t = true → t.length ≤ 8
  plain : ∀ {t}, ok t = true → plainT t
  ten : ∀ {t}, ok t = true → ∀ f ∈ t, f.text.length ≤ 10
theorem enc_len {t : List FileD} (h : ∀ f ∈ t, f.text.length ≤ 10) : (encT t).length ≤ 11 * t.length := by
  induction t with
  | nil => simp [encT]
  | cons f t ih =>
    have h1 := h f (by simp)
    have h2 := ih fun g hg => h g (by simp [hg])
    have : encT (f :: t) = headL f :: (f.text ++ encT t) := by simp [encT]
    rw [this]
    simp; omega
theorem treeReadI_enc {num} (hnum : ∀ n : Nat, n < 100 → num (decS n) = ((n : Int), true)) {ok} (O : OkT ok) {t : List FileD} (h : ok t = true) : treeReadI num ok (treeT t) = (t, true) := by
  have h1 : linesI (treeT t) = (encT t, true) := by rw [treeT_enc]; exact linesI_enc (encT_no (O.plain h))
  have h2 : rfI num (encT t).length [] (encT t) = (t, []) := by
    have := rfI_enc hnum (rest := []) (.inl rfl) (O.plain h) [] (encT t).length (by simp)
    simpa using this
  unfold treeReadI
  rw [h1]
  simp only [h2]
  simp [h]
theorem treeReadS_enc {ok} (O : OkT ok) {t : List FileD} (h : ok t = true) : treeReadS ok (treeT t) = (t, true) := by
  have hl := enc_len (O.ten h)
  have hn := O.n h
  have h1 : cutB (treeT t) 10 89 = encT t ++ [[]] := by
    have e : spl 10 (treeT t) [] = encT t ++ [[]] := by rw [treeT_enc]; exact spl_lines (encT_no (O.plain h))
    have hc : (treeT t).count 10 ≤ 89 := by
      have := spl_len 10 (treeT t) []
      rw [e] at this
      simp at this
      omega
    have : cutB (treeT t) ((10 : UInt8).toNat : Int) 89 = spl 10 (treeT t) [] := cut_spl (by omega)
    rw [e] at this
    exact this
  have h2 : rdTree (encT t ++ [[]]) 8 [] (0, false) = (t, ((encT t).length, false)) := by
    have := rdTree_enc (ls := encT t ++ [[]]) (rest := [[]]) (.inl ⟨[], rfl⟩) (O.plain h) (O.ten h) [] 8 0 (.inr hn) rfl
    simpa using this
  unfold treeReadS
  rw [h1]
  simp only [h2]
  simp [h]
theorem treeReadI_ok {num ok s} : ((treeReadI num ok s).2 = true → ok (treeReadI num ok s).1 = true ∧ treeT (treeReadI num ok s).1 = s) ∧ ((treeReadI num ok s).2 = false → (treeReadI num ok s).1 = []) := by
  generalize hx : treeReadI num ok s = x
  unfold treeReadI at hx
  split at hx
  · rename_i h; subst hx; exact ⟨fun _ => ⟨h.2.2.1, h.2.2.2⟩, fun h => (by cases h)⟩
  · subst hx; exact ⟨fun h => (by cases h), fun _ => rfl⟩
theorem treeReadS_ok {ok s} : ((treeReadS ok s).2 = true → ok (treeReadS ok s).1 = true ∧ treeT (treeReadS ok s).1 = s) ∧ ((treeReadS ok s).2 = false → (treeReadS ok s).1 = []) := by
  generalize hx : treeReadS ok s = x
  unfold treeReadS at hx
  split at hx
  · rename_i h; subst hx; exact ⟨fun _ => ⟨h.2.2.1, h.2.2.2⟩, fun h => (by cases h)⟩
  · subst hx; exact ⟨fun h => (by cases h), fun _ => rfl⟩
theorem treeRead_eq {num} (hnum : ∀ n : Nat, n < 100 → num (decS n) = ((n : Int), true)) {ok} (O : OkT ok) (s : Str) : treeReadI num ok s = treeReadS ok s := by
  obtain ⟨a1, a2⟩ := treeReadI_ok (num := num) (ok := ok) (s := s)
  obtain ⟨b1, b2⟩ := treeReadS_ok (ok := ok) (s := s)
  cases hI : (treeReadI num ok s).2 with
  | true =>
    obtain ⟨h1, h2⟩ := a1 hI
    have h3 := treeReadS_enc O h1
    rw [h2] at h3
    rw [h3]; exact Prod.ext rfl hI
  | false =>
    cases hS : (treeReadS ok s).2 with
    | true =>
      obtain ⟨h1, h2⟩ := b1 hS
      have h3 := treeReadI_enc hnum O h1
      rw [h2] at h3
      rw [h3] at hI; cases hI
    | false => exact Prod.ext ((a2 hI).trans (b2 hS).symm) (hI.trans hS.symm)

theorem spl_mem {c : UInt8} : ∀ {s p : Str}, ∀ b ∈ s, b = c ∨ ∃ q ∈ spl c s p, b ∈ q := by
  intro s
  induction s with
  | nil => intro p b hb; cases hb
  | cons x s ih =>
    intro p b hb
    have keep : ∀ (s p : Str), ∀ y ∈ p, ∃ q ∈ spl c s p, y ∈ q := by
      intro s
      induction s with
      | nil => intro p y hy; exact ⟨p, by simp [spl], hy⟩
      | cons z s ih2 =>
        intro p y hy
        simp only [spl]
        split
        · exact ⟨p, by simp, hy⟩
        · exact ih2 (p ++ [z]) y (by simp [hy])
    simp only [spl]
    split
    · rename_i hx
      rcases List.mem_cons.1 hb with rfl | hb
      · exact .inl hx
      · rcases ih (p := []) b hb with h | ⟨q, h1, h2⟩
        · exact .inl h
        · exact .inr ⟨q, by simp [h1], h2⟩
    · rcases List.mem_cons.1 hb with rfl | hb
      · exact .inr (keep s (p ++ [b]) b (by simp))
      · exact ih b hb
theorem pathI_plain {s : Str} (h : pathI s = true) : (∀ b ∈ s, 32 < b.toNat) ∧ s.length ≤ 20 := by
  simp only [pathI, Bool.and_eq_true, decide_eq_true_eq, List.all_eq_true] at h
  obtain ⟨h1, h2⟩ := h
  constructor
  · intro b hb
    rcases spl_mem (c := 47) (p := []) b hb with rfl | ⟨q, hq, hbq⟩
    · decide
    · have h3 := h2 q hq
      simp only [nameB, Bool.and_eq_true, List.all_eq_true] at h3
      have h4 := h3.2 b hbq
      simp only [wordB, Bool.or_eq_true, Bool.and_eq_true, decide_eq_true_eq] at h4
      omega
  · have h3 := spl_sum (c := 47) (s := s) (p := [])
    have h4 : ∀ (l : List Str), (∀ q ∈ l, nameB q = true) → ((l.map fun q => q.length + 1).sum) ≤ 7 * l.length := by
      intro l
      induction l with
      | nil => intro _; simp
      | cons q l ih =>
        intro h
        have a := ih fun x hx => h x (by simp [hx])
        have b := h q (by simp)
        simp only [nameB, Bool.and_eq_true, decide_eq_true_eq] at b
        simp only [List.map_cons, List.sum_cons, List.length_cons]
        omega
    have h5 := h4 _ h2
    rw [h3] at h5
    simp at h5
    omega
theorem treeI_plain {t : List FileD} (h : treeI t = true) : ∀ f ∈ t, ((∀ b ∈ f.path, 32 < b.toNat) ∧ f.path.length ≤ 20) ∧ f.text.length ≤ 10 ∧ ∀ l ∈ f.text, (10 : UInt8) ∉ l := by
  intro f hf
  simp only [treeI, Bool.and_eq_true, decide_eq_true_eq, List.all_eq_true, List.mem_range, headI] at h
  obtain ⟨i, hi, rfl⟩ := List.getElem_of_mem hf
  have h1 := (h.2 i hi).1.1
  have hg : t.getD i default = t[i] := by simp [List.getD_eq_getElem?_getD, hi]
  rw [hg] at h1
  refine ⟨pathI_plain h1.2, ?_⟩
  have h2 := h1.1
  simp only [textB, Bool.and_eq_true, decide_eq_true_eq, List.all_eq_true] at h2
  refine ⟨h2.1, fun l hl h10 => ?_⟩
  have h3 := h2.2 l hl
  simp only [lineB, Bool.and_eq_true, List.all_eq_true, decide_eq_true_eq] at h3
  have := h3.2 10 h10
  simp at this
theorem okT_treeI : OkT treeI := ⟨fun h => (treeI_le _ h).1, fun h f hf => by
    obtain ⟨⟨h1, _⟩, h2, h3⟩ := treeI_plain h f hf
    exact ⟨h1, by omega, h3⟩, fun h f hf => (treeI_plain h f hf).2.1⟩

theorem cutL_len' {b : Int} {m : Nat} : ∀ {s c : Str} {n : Nat}, (cutL b m s c n).length ≤ s.length + 1 := by
  intro s
  induction s with
  | nil => intro c n; simp [cutL]
  | cons x s ih =>
    intro c n
    simp only [cutL]
    split
    · split
      · have := ih (c := []) (n := n + 1); simp; omega
      · have := ih (c := c ++ [x]) (n := n); simp; omega
    · simp
theorem linesI_bd (s : Str) : (linesI s).1.length ≤ s.length ∧ ∀ l ∈ (linesI s).1, l.length ≤ s.length := by
  unfold linesI
  split
  · simp
  · have h1 := spl_len 10 s []
    have h2 : s.count 10 ≤ s.length := List.count_le_length
    refine ⟨by simp; omega, fun l hl => ?_⟩
    have := spl_le (c := 10) (s := s) (p := []) l (List.dropLast_subset _ hl)
    simpa using this
theorem rfI_path {num : Str → Int × Bool} {N : Nat} : ∀ {n : Nat} {t : List FileD} {ls : List Str}, (∀ l ∈ ls, l.length ≤ N) → (∀ f ∈ t, f.path.length ≤ N) → ∀ f ∈ (rfI num n t ls).1, f.path.length ≤ N := by
  intro n
  induction n with
  | zero => intro t ls _ h; exact h
  | succ n ih =>
    intro t ls h1 h2
    cases ls with
    | nil => exact h2
    | cons l ls =>
      rw [rfI]
      split
      · split
        · refine ih (fun x hx => h1 x (by simp [List.mem_of_mem_drop hx])) fun f hf => ?_
          rcases List.mem_append.1 hf with hf | hf
          · exact h2 f hf
          · have : f = _ := List.mem_singleton.1 hf
            subst this
            show ((spl 32 l []).getD 1 []).length ≤ N
            rw [List.getD_eq_getElem?_getD]
            cases hq : (spl 32 l [])[1]? with
            | none => simp
            | some q =>
              have := spl_le (c := 32) (s := l) (p := []) q (List.mem_of_getElem? hq)
              have := h1 l (by simp)
              simp at *
              omega
        · exact h2
      · exact h2

end Vx
end Go.Proofs.YtnanellmaelipaaGreatDoor
/-
  Contracts: operations done, plays (the reference's l19Tree, l19Do, RepoDo, RepoPlay).
-/
namespace Go.Proofs.YtnanellmaelipaaGreatDoor
namespace Vx
open Go.RowKit
set_option maxRecDepth 8000
--TAB tTabB

def opSz (o : OpD) : Prop := o.path.length ≤ 1048576 ∧ o.to_.length ≤ 1048576 ∧ o.text.length ≤ 1048576
def cL19Tree : Con := .fn 29 (RepoD × OpD × (List FileD × Bool)) (fun a => [vRepo a.1, vOp a.2.1, .sl true 2 (eFiles a.2.2.1), .bool a.2.2.2]) (fun a => rpSz a.1 ∧ a.2.2.1.length ≤ 1048576 ∧ ∀ f ∈ a.2.2.1, f.text.length ≤ 1048576) (fun a => .tup [.agg [.sl false 3 (eCommits (tree19 a.1 a.2.1 a.2.2).1.commits), .sl false 2 (eHeads (tree19 a.1 a.2.1 a.2.2).1.heads)], .int .i64 (tree19 a.1 a.2.1 a.2.2).2]) (fun _ => [])
set_option maxHeartbeats 4000000 in
theorem l19Tree_has : Has Tryz.prog 248 cL19Tree := by
  refine has_walk mixed tTabB_ok (l := [(276, cRepoCommit)]) (HasL.cons repoCommit_has HasL.nil) [0, 1, 2, 3, 4, 5, 8, 9, 10, 11] ((fun a n (_ : Nat) => (fun _ => noInv) a n)) [] Tryz.func248 (by kernel_rfl) (code := _) (by unfold Tryz.f248; rfl) (by kernel_rfl) (by decide) (fun _ => ⟨(), trivial⟩) (by intro h; first | exact fun _ => rfl | cases h) (by kernel_rfl) ?_
  intro a ha
  obtain ⟨r, o, t, k⟩ := a
  obtain ⟨h1, h2, h3⟩ : rpSz r ∧ t.length ≤ 1048576 ∧ ∀ f ∈ t, f.text.length ≤ 1048576 := ha
  simp (maxSteps := 8000000) -implicitDefEqProofs [-kStep_move, -Bool.exists_bool, cL19Tree, cRepoCommit, Con.fn, tTabB, tTab, bRepo_def, bOp]
  try dsimp only
  simp -implicitDefEqProofs only [and_assoc, exists_eq_left, exists_and_left, RepoD.ex1, RepoD.eta, OpD.ex1, OpD.eta]
  refine ⟨fun h => ?_, fun h => ⟨h1, h2, h3, fun h' => ?_, fun h' => ?_⟩⟩
  · unfold tree19; rw [if_neg (by simp -implicitDefEqProofs [h])]; exact ⟨rfl, rfl, rfl⟩
  · unfold tree19; rw [if_pos h, if_neg (by simp -implicitDefEqProofs [h'])]; exact ⟨rfl, rfl, rfl⟩
  · unfold tree19; rw [if_pos h, if_pos h']; exact ⟨rfl, rfl, rfl⟩
theorem treeSetS_tree {t : List FileD} (h : treeS t = true) (f : FileD) : treeS (treeSetS t f).1 = true := by
  unfold treeSetS
  rw [if_pos h]
  split
  · assumption
  · exact h
theorem treeMoveS_tree {t : List FileD} (h : treeS t = true) (p to : Str) : treeS (treeMoveS t p to).1 = true := by
  unfold treeMoveS
  rw [if_pos h]
  split
  · exact h
  · split
    · exact h
    · rename_i q
      cases q2 : treeS (mvFs p to (filB (dropB p) t) t) with
      | true => rfl
      | false => exact absurd (.inl q2) q
theorem treeDropS_sz {t : List FileD} (h : treeS t = true) (p : Str) : szT (treeDropS t p).1 := by
  unfold treeDropS filB
  rw [if_pos h]
  obtain ⟨h1, h2⟩ := treeS_szT h
  exact ⟨Nat.le_trans (List.length_filter_le _ _) h1, fun f hf => h2 f (List.mem_filter.1 hf).1⟩
theorem treeS_path {t : List FileD} (h : treeS t = true) : ∀ f ∈ t, f.path.length ≤ 20 := fun f hf => (treeI_plain (by rw [tree_eq]; exact h) f hf).1.2
theorem szT_1 {t : List FileD} (h : szT t) : t.length ≤ 1048576 ∧ ∀ f ∈ t, f.text.length ≤ 1048576 := ⟨by have := h.1; omega, fun f hf => by have := h.2 f hf; omega⟩
theorem treeOf_tree {r : RepoD} (h : repoS r = true) (n : Str) : treeS (treeOf r n) = true := by
  unfold treeOf
  split
  · exact repoS_treeAt h _
  · rfl

def cL19Do : Con := .fn 134 (RepoD × OpD) (fun a => [vRepo a.1, vOp a.2]) (fun a => repoS a.1 = true ∧ opSz a.2) (fun a => .tup [.agg [.sl false 3 (eCommits (do19 a.1 a.2).1.commits), .sl false 2 (eHeads (do19 a.1 a.2).1.heads)], .int .i64 (do19 a.1 a.2).2]) (fun _ => [])
set_option maxHeartbeats 4000000 in
theorem l19Do_has : Has Tryz.prog 219 cL19Do := by
  refine has_walk mixed tTabB_ok (l := [(124, cL7At), (247, cTreeSetS), (249, cTreeDropS), (250, cTreeMoveS), (248, cL19Tree), (251, cRepoBranch), (48, cUniteInto), (252, cPickOf), (253, cPickBack)]) (HasL.cons l7At_has (HasL.cons treeSetS_has (HasL.cons treeDropS_has (HasL.cons treeMoveS_has (HasL.cons l19Tree_has (HasL.cons repoBranch_has (HasL.cons uniteInto_has (HasL.cons pickOf_has (HasL.cons pickBack_has HasL.nil))))))))) [0, 1, 2, 3, 4, 5, 6, 7, 8, 9, 10, 11, 12, 13, 14, 15, 30] ((fun a n (_ : Nat) => (fun _ => noInv) a n)) [] Tryz.func219 (by kernel_rfl) (code := _) (by unfold Tryz.f219; rfl) (by kernel_rfl) (by decide) (fun _ => ⟨(), trivial⟩) (by intro h; first | exact fun _ => rfl | cases h) (by kernel_rfl) ?_
  intro a ha
  obtain ⟨r, o⟩ := a
  obtain ⟨h1, h2, h3, h4⟩ : repoS r = true ∧ opSz o := ha
  simp (maxSteps := 8000000) -implicitDefEqProofs [-kStep_move, -Bool.exists_bool, cL19Do, cL7At, cTreeSetS, cTreeDropS, cTreeMoveS, cL19Tree, cRepoBranch, cUniteInto, cPickOf, cPickBack, Con.fn, tTabB, tTab, bRepo_def, bOp]
  try dsimp only
  simp -implicitDefEqProofs only [and_assoc, exists_eq_left, exists_and_left, RepoD.ex1, RepoD.eta, OpD.ex1, OpD.eta]
  have hsz := repoS_sz h1
  have hat := atL_le (n := o.branch) ((repoS_iff r).1 h1).2.1
  have hT := treeOf_tree h1 o.branch
  have e1 : o.kind = 1 → do19 r o = tree19 r o (treeSetS (treeOf r o.branch) ⟨o.path, o.text⟩) := fun h => by unfold do19; rw [if_pos h]
  have e2 : o.kind = 2 → do19 r o = tree19 r o (treeDropS (treeOf r o.branch) o.path) := fun h => by unfold do19; rw [if_neg (by omega), if_pos h]
  have e3 : o.kind = 3 → do19 r o = tree19 r o (treeMoveS (treeOf r o.branch) o.path o.to_) := fun h => by unfold do19; rw [if_neg (by omega), if_neg (by omega), if_pos h]
  have e4 : o.kind = 4 → (repoBranchS r o.to_ (atL r.heads o.branch)).2 = true → do19 r o = ((repoBranchS r o.to_ (atL r.heads o.branch)).1, 0) := fun h h' => by unfold do19; rw [if_neg (by omega), if_neg (by omega), if_neg (by omega), if_pos h, if_pos h']
  have e4' : o.kind = 4 → (repoBranchS r o.to_ (atL r.heads o.branch)).2 = false → do19 r o = (r, 1) := fun h h' => by unfold do19; rw [if_neg (by omega), if_neg (by omega), if_neg (by omega), if_pos h, if_neg (by simp -implicitDefEqProofs [h'])]
  have e5 : o.kind = 5 → do19 r o = uniteS r o.branch o.who (atL r.heads o.to_) := fun h => by unfold do19; rw [if_neg (by omega), if_neg (by omega), if_neg (by omega), if_neg (by omega), if_pos h]
  have e6 : o.kind = 6 → do19 r o = pickS false r o.branch o.who o.at_ := fun h => by unfold do19; rw [if_neg (by omega), if_neg (by omega), if_neg (by omega), if_neg (by omega), if_neg (by omega), if_pos h]
  have e7 : ¬ o.kind = 1 → ¬ o.kind = 2 → ¬ o.kind = 3 → ¬ o.kind = 4 → ¬ o.kind = 5 → ¬ o.kind = 6 → do19 r o = pickS true r o.branch o.who o.at_ := fun k1 k2 k3 k4 k5 k6 => by unfold do19; rw [if_neg k1, if_neg k2, if_neg k3, if_neg k4, if_neg k5, if_neg k6]
  have s1 := szT_1 (treeS_szT (treeSetS_tree hT ⟨o.path, o.text⟩))
  have s2 := szT_1 (treeDropS_sz hT o.path)
  have s3 := szT_1 (treeS_szT (treeMoveS_tree hT o.path o.to_))
  have s0 := treeS_szT hT
  have sp := treeS_path hT
  have sp : ∀ f ∈ treeOf r o.branch, f.path.length ≤ 1048576 := fun f hf => by have := sp f hf; omega
  have sl : (treeOf r o.branch).length ≤ 1048575 := by have := s0.1; omega
  have st := (szT_1 s0).2
  refine ⟨fun hp => ⟨hp, by omega, fun _ _ => ?_⟩, fun hn => ?_⟩
  · have ca := cget (r := r) hp (by omega)
    have eT : treeAt r (atL r.heads o.branch) = treeOf r o.branch := by unfold treeOf; rw [if_pos hp]
    rw [ca, eT]
    simp -implicitDefEqProofs [D.asRows]
    exact ⟨fun h => ⟨sl, st, h4, hsz, s1.1, s1.2, by rw [e1 h]; exact ⟨rfl, rfl, rfl⟩⟩, fun k1 => ⟨fun h => ⟨(szT_1 s0).1, st, hsz, s2.1, s2.2, by rw [e2 h]; exact ⟨rfl, rfl, rfl⟩⟩, fun k2 => ⟨fun h => ⟨(szT_1 s0).1, st, h3, sp, hsz, s3.1, s3.2, by rw [e3 h]; exact ⟨rfl, rfl, rfl⟩⟩, fun k3 => ⟨fun h => ⟨hsz, fun h' => by rw [e4' h h']; exact ⟨rfl, rfl, rfl⟩, fun h' => by rw [e4 h h']; exact ⟨rfl, rfl, rfl⟩⟩, fun k4 => ⟨fun h => ⟨hsz, by rw [e5 h]; exact ⟨rfl, rfl, rfl⟩⟩, fun k5 => ⟨fun h => ⟨hsz, by rw [e6 h]; exact ⟨rfl, rfl, rfl⟩⟩, fun k6 => ⟨hsz, by rw [e7 k1 k2 k3 k4 k5 k6]; exact ⟨rfl, rfl, rfl⟩⟩⟩⟩⟩⟩⟩⟩
  · have eT : treeOf r o.branch = [] := by unfold treeOf; rw [if_neg (by omega)]
    simp -implicitDefEqProofs only [FileD.ex1]
    rw [← eT]
    exact ⟨fun h => ⟨sl, st, h4, hsz, s1.1, s1.2, by rw [e1 h]; exact ⟨rfl, rfl, rfl⟩⟩, fun k1 => ⟨fun h => ⟨(szT_1 s0).1, st, hsz, s2.1, s2.2, by rw [e2 h]; exact ⟨rfl, rfl, rfl⟩⟩, fun k2 => ⟨fun h => ⟨(szT_1 s0).1, st, h3, sp, hsz, s3.1, s3.2, by rw [e3 h]; exact ⟨rfl, rfl, rfl⟩⟩, fun k3 => ⟨fun h => ⟨hsz, fun h' => by rw [e4' h h']; exact ⟨rfl, rfl, rfl⟩, fun h' => by rw [e4 h h']; exact ⟨rfl, rfl, rfl⟩⟩, fun k4 => ⟨fun h => ⟨hsz, by rw [e5 h]; exact ⟨rfl, rfl, rfl⟩⟩, fun k5 => ⟨fun h => ⟨hsz, by rw [e6 h]; exact ⟨rfl, rfl, rfl⟩⟩, fun k6 => ⟨hsz, by rw [e7 k1 k2 k3 k4 k5 k6]; exact ⟨rfl, rfl, rfl⟩⟩⟩⟩⟩⟩⟩⟩

def rpI (l : List OpD) : Inv := ⟨Nat, fun i => ⟨[(0, true, .sl true 7 (eOps l)), (2, true, .ptr 10 0), (3, true, .ptr 11 0), (4, true, .int .i64 i)], [(10, bNilR), (11, .box 26 [.sl false 3 (eCommits (playF (l.take i)).commits), .sl false 2 (eHeads (playF (l.take i)).heads)])]⟩, fun i => i ≤ l.length ∧ i ≤ 30, fun i => l.length - i⟩
def cRepoPlayS : Con := .fn 34 (List OpD) (fun l => [.sl true 7 (eOps l)]) (fun l => ∀ o ∈ l, opSz o) (fun l => .agg [.sl false 3 (eCommits (playS l).commits), .sl false 2 (eHeads (playS l).heads)]) (fun _ => [])
set_option maxHeartbeats 4000000 in
theorem repoPlayS_has : Has Tryz.prog 193 cRepoPlayS := by
  refine has_walk mixed tTabB_ok (l := [(218, cL19Ok), (219, cL19Do)]) (HasL.cons l19Ok_has (HasL.cons l19Do_has HasL.nil)) [0, 2, 3, 4, 5] ((fun a n (_ : Nat) => (fun l _ => rpI l) a n)) [12287] Tryz.func193 (by kernel_rfl) (code := _) (by unfold Tryz.f193; rfl) (by kernel_rfl) (by decide) (fun _ => ⟨(), trivial⟩) (by intro h; first | exact fun _ => rfl | cases h) (by kernel_rfl) ?_
  intro (l : List OpD) (ha : ∀ o ∈ l, opSz o)
  simp (maxSteps := 8000000) -implicitDefEqProofs [-kStep_move, -Bool.exists_bool, cRepoPlayS, cL19Ok, cL19Do, Con.fn, tTabB, tTab, rpI]
  try dsimp only
  simp -implicitDefEqProofs only [and_assoc, exists_eq_left, exists_and_left, RepoD.ex1, RepoD.eta, OpD.ex1, OpD.eta]
  refine ⟨rfl, rfl, Nat.zero_le _, Nat.zero_le _, fun t ht h30 _ => ⟨fun hlt h30' => ⟨hlt, fun _ => ?_⟩, ?_⟩⟩
  · have qq : Option.map eOp l[t]? = some (eOp l[t]) := by simp -implicitDefEqProofs [hlt]
    have hs := playF_succ hlt
    have hok := (playF_ok (l.take t)).1
    have ho := ha l[t] (List.getElem_mem hlt)
    rw [qq]
    generalize playF (l.take t) = R at *
    generalize l[t] = o at *
    simp -implicitDefEqProofs [eOp, D.asInt, D.asStr, D.asRows]
    refine ⟨ho.2.2, fun hb => ⟨hlt, fun _ => ⟨hok, ho, by omega, by omega, fun _ _ => ⟨t + 1, by omega, by rw [hs, if_pos hb], by rw [hs, if_pos hb], by omega, by omega, by omega⟩⟩⟩, fun hb => ⟨by omega, by omega, fun _ _ => ⟨t + 1, by omega, by rw [hs, if_neg (by simp -implicitDefEqProofs [hb])], by rw [hs, if_neg (by simp -implicitDefEqProofs [hb])], by omega, by omega, by omega⟩⟩⟩
  · intro h
    have e : playS l = playF (l.take t) := by
      unfold playS
      rcases Nat.lt_or_ge t l.length with h1 | h1
      · have := h h1
        have : t = 30 := by omega
        rw [this]
      · rw [List.take_of_length_le h1, List.take_of_length_le (by omega)]
    rw [e]; exact ⟨rfl, rfl⟩

end Vx
end Go.Proofs.YtnanellmaelipaaGreatDoor
