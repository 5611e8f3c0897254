/-
  Joined by program (merge.py): Hd, Kj, Hq, Hp, Hi, He, Hf, Tp. It shows what the single texts show; conditions: none but those of each lemma.
-/
import Derived.Test.YtokdjnbcdokpjabGreatDoorWb
set_option linter.unusedVariables false
set_option linter.unusedSimpArgs false
set_option linter.unusedSectionVars false
namespace Go.Proofs.YtokdjnbcdokpjabGreatDoor
set_option maxHeartbeats 4000000
namespace Vx
open Go.RowKit
set_option maxRecDepth 8000
def a1U (n : Nat) (k : Int) : List HeadD := (List.range n).map fun i : Nat => ⟨a1y (k + 2 * i), k + 2 * i + 1⟩
theorem a2b (n : Nat) (k : Int) : (a1U n k).length = n := by simp -implicitDefEqProofs [a1U]
theorem a7y {n : Nat} {k : Int} {i : Nat} (h : i < n) : (a1U n k)[i]'(by rw [a2b]; exact h) = ⟨a1y (k + 2 * i), k + 2 * i + 1⟩ := by simp -implicitDefEqProofs [a1U]
def mHA (a : List HeadD) (k : Int) (i : Nat) : List HeadD := (a1U a.length k).take i ++ a.drop i
theorem c7f {a : List HeadD} {k : Int} {i : Nat} (h : i <= a.length) : (mHA a k i).length = a.length := by simp -implicitDefEqProofs [mHA, a2b]; omega
theorem c4P (a : List HeadD) (k : Int) : mHA a k 0 = a := by simp -implicitDefEqProofs [mHA]
theorem c7d {a : List HeadD} {k : Int} {i : Nat} (h : a.length <= i) : mHA a k i = a1U a.length k := by
 unfold mHA
 rw [List.take_of_length_le (by rw [a2b]; exact h), List.drop_eq_nil_of_le h, List.append_nil]
theorem c7e {a : List HeadD} {k : Int} {i : Nat} (h : i < a.length) : (mHA a k i)[i]? = some a[i] := by
 unfold mHA
 rw [List.getElem?_append_right (by simp; omega), List.length_take, a2b, Nat.min_eq_left (by omega), Nat.sub_self, List.getElem?_drop]
 simp -implicitDefEqProofs [h]
theorem c7g {a : List HeadD} {k : Int} {i : Nat} (h : i < a.length) : (mHA a k i).set i ⟨a1y (k + 2 * i), k + 2 * i + 1⟩ = mHA a k (i + 1) := by
 unfold mHA
 have h1 : ((a1U a.length k).take i).length = i := by rw [List.length_take, a2b]; omega
 rw [List.set_append_right _ _ (by omega), h1, Nat.sub_self, List.drop_eq_getElem_cons h, List.set_cons_zero]
 rw [a0A (l := a1U a.length k) (i := i) (by rw [a2b]; exact h), a7y h]
 simp
def a7i : Con := { A := List HeadD × Int, X := Unit, n := 28, args := fun a => [.own 0 2 (a0b a.1), .int .i64 a.2], boxes := fun _ => [], pre := fun a => 0 <= a.2 /\ a.2 + 2 * a.1.length <= 4611686018427387904, post := fun _ _ => True, res := fun a _ => .int .i64 (a.2 + 2 * a.1.length), fin := fun a _ => [(0, .own 69 2 true (a0b (a1U a.1.length a.2)))], owns := fun a => [(0, 69, 2, a0b a.1)], lends := [0], mv := true, sube := 69 }
theorem b3s : Has Tryz.prog 64 a7i := by
 refine a0e mixed a0i (HasL.cons a2z HasL.nil) [0, 1, 4, 5] ((fun a n (_ : Nat) => (fun a _ => ⟨Nat, fun i => ⟨[(0, true, .own 0 2 (a0b (mHA a.1 a.2 i))), (1, true, .int .i64 (a.2 + 2 * i)), (4, true, .int .i64 0), (5, true, .int .i64 i)], [(0, .own 69 2 true (a0b (mHA a.1 a.2 i)))]⟩, fun i => i <= a.1.length, fun i => a.1.length - i⟩) a n)) [] Tryz.func64 (by unfold Tryz.f64; rfl) (fun _ => ⟨(), trivial⟩) ?_
 intro a ha
 obtain ⟨l, k⟩ := a
 obtain ⟨q1, q2⟩ : 0 <= k /\ k + 2 * l.length <= 4611686018427387904 := ha
 have e1 := fun i => @c7f l k i
 have e3 := c4P l k
 simp -implicitDefEqProofs [a7i, Con.fn, tTab, a2I]
 try dsimp only
 refine ⟨⟨0, ⟨⟨e3, by omega, rfl⟩, e3.symm⟩, Nat.zero_le _⟩, fun t ht hbig => ⟨fun hlt => ?_, fun hge => ?_⟩⟩
 ·rw [e1 t ht] at hlt
  have g := c7e (k := k) hlt
  have hl := e1 t ht
  have g2 : (mHA l k t)[t]'(by omega) = l[t] := by
   rw [List.getElem?_eq_getElem (by omega)] at g; exact Option.some.inj g
  have hst := c7g (k := k) hlt
  simp -implicitDefEqProofs [g, g2, hl, hlt, a0R, D.asRows, and_assoc]
  have hse : (a0b (mHA l k t)).set t [D.str (a1y (k + 2 * t)), D.int .i64 (k + 2 * t + 1)] = a0b (mHA l k (t + 1)) := by
   rw [<- hst, a2a]
  exact ⟨by omega, by omega, by omega, fun _ _ => ⟨by omega, by omega, fun _ _ => ⟨by omega, by omega, fun _ _ => ⟨t + 1, hse.symm, by omega, by omega, hse, by omega, by omega⟩⟩⟩⟩
 ·have hge' : l.length <= t := by rw [e1 t ht] at hge; omega
  rw [c7d hge']
  simp; omega
def a4d (a : List HeadD) (k : Int) : Int := if a = a1U a.length k then k + 2 * a.length else -1
theorem b6v (n : Nat) (k : Int) : a4d (a1U n k) k = k + 2 * n := by
 unfold a4d
 rw [a2b, if_pos rfl]
theorem b8P {l : List HeadD} {k : Int} {i : Nat} (h : i < l.length) (h2 : l[i].name ≠ a1y (k + 2 * i) \/ l[i].at_ ≠ k + 2 * i + 1) : a4d l k = -1 := by
 unfold a4d
 rw [if_neg]
 intro h3
 have : l[i]? = (a1U l.length k)[i]? := by rw [<- h3]
 rw [List.getElem?_eq_getElem h, List.getElem?_eq_getElem (by rw [a2b]; exact h), a7y h] at this
 have := Option.some.inj this
 rcases h2 with h2 | h2
 ·exact h2 (congrArg HeadD.name this)
 ·exact h2 (congrArg HeadD.at_ this)
theorem b8Q {l : List HeadD} {k : Int} {i : Nat} (h : i < l.length) (h1 : l.take i = (a1U l.length k).take i) (h2 : l[i].name = a1y (k + 2 * i)) (h3 : l[i].at_ = k + 2 * i + 1) : l.take (i + 1) = (a1U l.length k).take (i + 1) := by
 rw [a0A h, a0A (by rw [a2b]; exact h), a7y h, <- h1, <- h2, <- h3]
theorem c1x {l : List HeadD} {k : Int} {i : Nat} (h : l.length <= i) (h1 : l.take i = (a1U l.length k).take i) : a4d l k = k + 2 * l.length := by
 rw [List.take_of_length_le h, List.take_of_length_le (by rw [a2b]; exact h)] at h1
 unfold a4d
 rw [if_pos h1]
def a7g : Con := .fn 32 (List HeadD × Int) (fun a => [.sl true 2 (a0b a.1), .int .i64 a.2]) (fun a => 0 <= a.2 /\ a.2 + 2 * a.1.length <= 4611686018427387904) (fun a => .int .i64 (a4d a.1 a.2)) (fun _ => [])
theorem b3n : Has Tryz.prog 67 a7g := by
 refine a0e mixed a0i (HasL.cons a2z HasL.nil) [0, 1, 4, 5] ((fun a n (_ : Nat) => (fun a _ => ⟨Nat, fun i => ⟨[(0, true, .sl true 2 (a0b a.1)), (1, true, .int .i64 (a.2 + 2 * i)), (4, true, .int .i64 0), (5, true, .int .i64 i)], []⟩, fun i => i <= a.1.length /\ a.1.take i = (a1U a.1.length a.2).take i, fun i => a.1.length - i⟩) a n)) [] Tryz.func67 (by unfold Tryz.f67; rfl) (fun _ => ⟨(), trivial⟩) ?_
 intro a ha
 obtain ⟨l, k⟩ := a
 obtain ⟨q1, q2⟩ : 0 <= k /\ k + 2 * l.length <= 4611686018427387904 := ha
 have e1 := fun i => @b8P l k i
 have e2 := fun i => @b8Q l k i
 have e3 := fun i => @c1x l k i
 simp -implicitDefEqProofs [a7g, Con.fn, tTab, a2I]
 try dsimp only
 refine ⟨⟨0, by simp⟩, fun i hi hp _ => ⟨fun hlt => ?_, fun hge => ?_⟩⟩
 ·simp -implicitDefEqProofs [hlt, a0R, D.asStr, and_assoc]
  exact ⟨by omega, fun h => e1 i hlt (.inl h), fun h1 => ⟨by omega, by omega, fun _ _ => ⟨fun h => e1 i hlt (.inr h), fun h2 => ⟨by omega, by omega, fun _ _ => ⟨by omega, by omega, fun _ _ => ⟨i + 1, by omega, by omega, by omega, e2 i hlt hp h1 h2, by omega⟩⟩⟩⟩⟩⟩
 ·have := e3 i hge hp
  omega
def a5Z : Con := { A := RepoD × Int, X := Unit, n := 14, args := fun a => [.agg [.own 0 3 (a0g a.1.commits), .own 1 2 (a0b a.1.heads)], .int .i64 a.2], boxes := fun _ => [], pre := fun a => 0 <= a.2 /\ kCs a.1.commits a.2 + 2 * a.1.heads.length <= 1152921504606846976, post := fun _ _ => True, res := fun a _ => .int .i64 (kCs a.1.commits a.2 + 2 * a.1.heads.length), fin := fun a _ => [(0, .own 102 3 true (a0g (a1l a.1.commits a.2))), (1, .own 69 2 true (a0b (a1U a.1.heads.length (kCs a.1.commits a.2))))], owns := fun a => [(0, 102, 3, a0g a.1.commits), (1, 69, 2, a0b a.1.heads)], lends := [0, 1], mv := true, sube := 102 }
theorem b5l : Has Tryz.prog 20 a5Z := by
 refine a0e mixed a0i (HasL.cons b1f (HasL.cons b3s HasL.nil)) [0, 1, 2, 4] ((fun a n (_ : Nat) => (fun _ => a0L) a n)) [] Tryz.func20 (by unfold Tryz.f20; rfl) (fun _ => ⟨(), trivial⟩) ?_
 intro a ha
 obtain ⟨r, k⟩ := a
 obtain ⟨q1, q2⟩ : 0 <= k /\ kCs r.commits k + 2 * r.heads.length <= 1152921504606846976 := ha
 simp -implicitDefEqProofs [a5Z, Con.fn, tTab, a5G, a7i]
 try dsimp only
 exact ⟨_, _, ⟨rfl, rfl⟩, rfl, ⟨q1, by omega⟩, _, _, ⟨rfl, rfl⟩, rfl, ⟨by have := a5c r.commits k; omega, by omega⟩, rfl, rfl, rfl⟩
theorem c4Q (c : CommitD) (k : Int) : mkC (mkC c k) k = mkC c k := by
 unfold mkC
 simp only [a2i, b6N]
theorem c6S (c : CommitD) (k : Int) : kC (mkC c k) k = kC c k := by
 unfold kC
 have h1 : (mkC c k).parents.length = c.parents.length := by simp -implicitDefEqProofs [mkC, a2i]
 have h2 : (mkC c k).tree = a0V c.tree (k + c.parents.length + 1) := rfl
 rw [h1, h2, b4Z]
theorem a4R : ∀ (l : List CommitD) (k : Int), a1l (a1l l k) k = a1l l k /\ kCs (a1l l k) k = kCs l k
 | [], _ => ⟨rfl, rfl⟩
 | c :: l, k => by
  obtain ⟨h1, h2⟩ := a4R l (kC c k)
  simp only [a1l, kCs, c4Q, c6S, h1, h2]
  exact ⟨trivial, trivial⟩
def a3e (l : List CommitD) (k : Int) : Int := if l = a1l l k then kCs l k else -1
theorem b6u (l : List CommitD) (k : Int) : a3e (a1l l k) k = kCs l k := by
 unfold a3e
 rw [(a4R l k).1, if_pos rfl, (a4R l k).2]
theorem b8L {l : List CommitD} {k : Int} {i : Nat} (h : i < l.length) (h2 : l[i].parents ≠ a2s l[i].parents.length (kCs (l.take i) k) \/ l[i].who ≠ a1y (kCs (l.take i) k + l[i].parents.length) \/ l[i].tree ≠ a0V l[i].tree (kCs (l.take i) k + l[i].parents.length + 1)) : a3e l k = -1 := by
 unfold a3e
 rw [if_neg]
 intro h3
 have : l[i]? = (a1l l k)[i]? := by rw [<- h3]
 rw [List.getElem?_eq_getElem h, List.getElem?_eq_getElem (by rw [a2r]; exact h), a5q l k i h] at this
 have := Option.some.inj this
 rcases h2 with h2 | h2 | h2
 ·exact h2 (congrArg CommitD.parents this)
 ·exact h2 (congrArg CommitD.who this)
 ·exact h2 (congrArg CommitD.tree this)
theorem b8M {l : List CommitD} {k : Int} {i : Nat} (h : i < l.length) (h1 : l.take i = (a1l l k).take i) (h2 : l[i].parents = a2s l[i].parents.length (kCs (l.take i) k)) (h3 : l[i].who = a1y (kCs (l.take i) k + l[i].parents.length)) (h4 : l[i].tree = a0V l[i].tree (kCs (l.take i) k + l[i].parents.length + 1)) : l.take (i + 1) = (a1l l k).take (i + 1) := by
 have e : mkC l[i] (kCs (l.take i) k) = l[i] := by
  unfold mkC
  rw [<- h2, <- h3, <- h4]
 rw [a0A h, a0A (by rw [a2r]; exact h), a5q l k i h, <- h1, e]
theorem c1u {l : List CommitD} {k : Int} {i : Nat} (h : l.length <= i) (h1 : l.take i = (a1l l k).take i) : a3e l k = kCs (l.take i) k := by
 rw [List.take_of_length_le h, List.take_of_length_le (by rw [a2r]; exact h)] at h1
 unfold a3e
 rw [if_pos h1, List.take_of_length_le h]
def a5E : Con := .fn 41 (List CommitD × Int) (fun a => [.sl true 3 (a0g a.1), .int .i64 a.2]) (fun a => 0 <= a.2 /\ kCs a.1 a.2 <= 1152921504606846976) (fun a => .int .i64 (a3e a.1 a.2)) (fun _ => [])
theorem b0K : Has Tryz.prog 66 a5E := by
 refine a0e mixed a0i (HasL.cons a8i (HasL.cons a2z (HasL.cons b3m HasL.nil))) [0, 1, 4, 5] ((fun a n (_ : Nat) => (fun a _ => ⟨Nat, fun i => ⟨[(0, true, .sl true 3 (a0g a.1)), (1, true, .int .i64 (kCs (a.1.take i) a.2)), (4, true, .int .i64 0), (5, true, .int .i64 i)], []⟩, fun i => i <= a.1.length /\ a.1.take i = (a1l a.1 a.2).take i, fun i => a.1.length - i⟩) a n)) [] Tryz.func66 (by unfold Tryz.f66; rfl) (fun _ => ⟨(), trivial⟩) ?_
 intro a ha
 obtain ⟨l, k⟩ := a
 obtain ⟨q1, q2⟩ : 0 <= k /\ kCs l k <= 1152921504606846976 := ha
 have e1 := fun i => @b8L l k i
 have e2 := fun i => @b8M l k i
 have e3 := fun i => @c1u l k i
 simp -implicitDefEqProofs [a5E, Con.fn, tTab, a4Y, a2I, a7f]
 try dsimp only
 refine ⟨⟨0, by simp -implicitDefEqProofs [kCs]⟩, fun i hi hpre _ => ⟨fun hlt => ?_, fun hge => e3 i hge hpre⟩⟩
 have hsn : kCs (l.take (i + 1)) k = kC l[i] (kCs (l.take i) k) := by rw [a0A hlt, a9Z]
 have hsp := b2L l k (i + 1)
 have hge1 := a5c (l.take i) k
 have hkc := b8Z (c := l[i]) (k := kCs (l.take i) k)
 have m1 := e1 i hlt
 have m2 := e2 i hlt hpre
 rw [hsn] at hsp
 have hkE : kC l[i] (kCs (l.take i) k) = kE l[i].tree (kCs (l.take i) k + l[i].parents.length + 1) := rfl
 rw [hkE] at hsp hsn hkc
 clear e1 e2 e3 hkE
 generalize hb : kCs (l.take i) k = b at *
 simp -implicitDefEqProofs [hlt, a0E, D.asStr, D.asRows, and_assoc]
 have hl : ∀ a kk, a6c a kk = if a = a2s a.length kk then kk + a.length else -1 := fun _ _ => rfl
 have hf : ∀ a kk, a5b a kk = if a = a0V a kk then kE a kk else -1 := fun _ _ => rfl
 by_cases hp : l[i].parents = a2s l[i].parents.length b
 ·have g1 : a6c l[i].parents b = b + l[i].parents.length := by rw [hl, if_pos hp]
  rw [g1]
  refine ⟨by omega, by omega, fun h => by omega, fun _ => ⟨by omega, fun h => m1 (.inr (.inl h)), fun hw => ⟨by omega, by omega, fun _ _ => ⟨by omega, by omega, ?_⟩⟩⟩⟩
  by_cases ht : l[i].tree = a0V l[i].tree (b + l[i].parents.length + 1)
  ·have g2 : a5b l[i].tree (b + l[i].parents.length + 1) = kE l[i].tree (b + l[i].parents.length + 1) := by rw [hf, if_pos ht]
   rw [g2]
   exact ⟨fun h => by omega, fun _ => ⟨by omega, by omega, fun _ _ => ⟨i + 1, hsn, by omega, by omega, m2 hp hw ht, by omega⟩⟩⟩
  ·have g2 : a5b l[i].tree (b + l[i].parents.length + 1) = -1 := by rw [hf, if_neg ht]
   rw [g2]
   exact ⟨fun _ => m1 (.inr (.inr ht)), fun h => by omega⟩
 ·have g1 : a6c l[i].parents b = -1 := by rw [hl, if_neg hp]
  rw [g1]
  exact ⟨by omega, by omega, fun _ => m1 (.inl hp), fun h => by omega⟩
def a7s (r : RepoD) (k : Int) : Int := if a3e r.commits k < 0 then -1 else if a4d r.heads (a3e r.commits k) < 0 then -1 else a4d r.heads (a3e r.commits k)
theorem c1v (l : List CommitD) (k : Int) : a3e l k <= kCs l k \/ a3e l k = -1 := by unfold a3e; split <;> omega
def a5Y : Con := .fn 18 (RepoD × Int) (fun a => [a1E a.1, .int .i64 a.2]) (fun a => 0 <= a.2 /\ kCs a.1.commits a.2 + 2 * a.1.heads.length <= 1152921504606846976) (fun a => .int .i64 (a7s a.1 a.2)) (fun _ => [])
theorem b4O : Has Tryz.prog 23 a5Y := by
 refine a0e mixed a0i (HasL.cons b0K (HasL.cons b3n HasL.nil)) [0, 1, 2, 4] ((fun a n (_ : Nat) => (fun _ => a0L) a n)) [] Tryz.func23 (by unfold Tryz.f23; rfl) (fun _ => ⟨(), trivial⟩) ?_
 intro a ha
 obtain ⟨r, k⟩ := a
 obtain ⟨q1, q2⟩ : 0 <= k /\ kCs r.commits k + 2 * r.heads.length <= 1152921504606846976 := ha
 simp -implicitDefEqProofs [a5Y, Con.fn, tTab, a5E, a7g]
 try dsimp only
 have h1 := c1v r.commits k
 refine ⟨_, _, ⟨rfl, rfl⟩, ⟨q1, by omega⟩, fun h => by unfold a7s; rw [if_pos h], fun h => ⟨_, _, ⟨rfl, rfl⟩, ⟨h, by omega⟩, fun h2 => by unfold a7s; rw [if_neg (by omega), if_pos h2], fun h2 => by unfold a7s; rw [if_neg (by omega), if_neg (by omega)]⟩⟩
def mkR (r : RepoD) (k : Int) : RepoD := ⟨a1l r.commits k, a1U r.heads.length (kCs r.commits k)⟩
theorem b8S (r : RepoD) (k : Int) (hk : 0 <= k) : a7s (mkR r k) k = kCs r.commits k + 2 * r.heads.length := by
 have h1 : a3e (mkR r k).commits k = kCs r.commits k := b6u _ _
 have h2 : a4d (mkR r k).heads (kCs r.commits k) = kCs r.commits k + 2 * r.heads.length := b6v _ _
 have h3 := a5c r.commits k
 unfold a7s
 rw [h1, if_neg (by omega), h2, if_neg (by omega)]
theorem c1H (r : RepoD) (k : Int) : kCs (mkR r k).commits k + 2 * (mkR r k).heads.length = kCs r.commits k + 2 * r.heads.length := by
 have h1 : kCs (mkR r k).commits k = kCs r.commits k := (a4R r.commits k).2
 have h2 : (mkR r k).heads.length = r.heads.length := a2b _ _
 rw [h1, h2]

theorem b7S : ∀ {a : List Str} {l : Int}, 0 <= l -> 0 <= szL a l -> szL a l <= l
 | [], l, _, _ => Int.le_refl l
 | s :: r, l, h, h2 => by
  simp only [szL] at h2 ⊢
  split at h2
  ·omega
  ·rename_i h3
   rw [if_neg h3]
   have := b7S (a := r) (l := l - s.length) (by omega) h2
   omega
theorem c0k {a : List Str} {l : Int} (h : 0 <= a3D a l) : a3D a l + a.length <= l := by
 unfold a3D at h ⊢
 split at h
 ·omega
 ·rename_i h3
  rw [if_neg h3]
  have := b7S (by omega) h
  omega
theorem c7N {f : FileD} {l : Int} (h : 0 <= szF f l) : szF f l + f.text.length <= l := by
 unfold szF at h ⊢
 split at h
 ·omega
 ·rename_i h3
  rw [if_neg h3]
  split at h
  ·omega
  ·rename_i h4
   rw [if_neg h4]
   have := c0k h
   omega
theorem b5S : ∀ {a : List FileD} {l : Int}, 0 <= szFL a l -> szFL a l + a1p a <= l
 | [], l, _ => by simp -implicitDefEqProofs [szFL, a1p]
 | f :: r, l, h => by
  simp only [szFL] at h ⊢
  split at h
  ·omega
  ·rename_i h3
   rw [if_neg h3]
   have h1 := b5S (a := r) (l := szF f l) h
   have h2 := c7N (f := f) (l := l) (by omega)
   have : a1p (f :: r) = f.text.length + a1p r := by simp -implicitDefEqProofs [a1p]
   omega
theorem b7d {a : List FileD} {l : Int} (h : 0 <= a2U a l) : a2U a l + a.length + a1p a <= l := by
 unfold a2U at h ⊢
 split at h
 ·omega
 ·rename_i h3
  rw [if_neg h3]
  have := b5S h
  omega
theorem c5F {c : CommitD} {l : Int} (h : 0 <= szCm c l) (k : Int) : szCm c l + (kC c k - k) <= l + 1 := by
 have hk : kC c k = k + c.parents.length + 1 + c.tree.length + a1p c.tree := rfl
 unfold szCm at h ⊢
 split at h
 ·omega
 ·rename_i h3
  rw [if_neg h3]
  split at h
  ·omega
  ·rename_i h4
   rw [if_neg h4]
   split at h
   ·omega
   ·rename_i h5
    rw [if_neg h5]
    have h6 := b7d h
    have h7 : szI c.parents l = l - c.parents.length := by
     unfold szI at h3 ⊢
     split
     ·rename_i h8; rw [if_pos h8] at h3; omega
     ·rfl
    omega
theorem b5P : ∀ {a : List CommitD} {l : Int} (_ : 0 <= szCL a l) (k : Int), szCL a l + (kCs a k - k) <= l + a.length
 | [], l, _, k => by simp -implicitDefEqProofs [szCL, kCs]
 | c :: r, l, h, k => by
  simp only [szCL] at h ⊢
  split at h
  ·omega
  ·rename_i h3
   rw [if_neg h3]
   have h1 := b5P (a := r) (l := szCm c l) h (kC c k)
   have h2 := c5F (c := c) (l := l) (by omega) k
   simp only [kCs, List.length_cons]
   omega
theorem b3A {a : List CommitD} {l : Int} (h : 0 <= a1L a l) (k : Int) : a1L a l + (kCs a k - k) <= l := by
 unfold a1L at h ⊢
 split at h
 ·omega
 ·rename_i h3
  rw [if_neg h3]
  have := b5P h k
  omega
theorem c5K {r : RepoD} {l : Int} (h : 0 <= szRp r l) (k : Int) : k <= kCs r.commits k + 2 * r.heads.length /\ kCs r.commits k + 2 * r.heads.length <= k + 2 * l := by
 have hk := a5c r.commits k
 unfold szRp at h
 split at h
 ·omega
 ·rename_i h3
  split at h
  ·omega
  ·rename_i h4
   have h1 := b3A (a := r.commits) (l := l) (by omega) k
   have h2 := (b1w h).1
   omega



--TAB a1D
theorem c6T : ∀ {l : List CommitD}, (∀ c ∈ l, c.parents.length <= 2 /\ c.tree.length <= 8 /\ ∀ f ∈ c.tree, f.text.length <= 64) -> ∀ k : Int, kCs l k <= k + 523 * l.length := by
 intro l
 induction l with
 | nil => intro _ k; simp -implicitDefEqProofs [kCs]
 | cons c l ih =>
  intro h k
  obtain ⟨h1, h2, h3⟩ := h c (by simp)
  have h4 := (c8W h2 h3 (k + c.parents.length + 1)).2
  have h5 := ih (fun x hx => h x (by simp -implicitDefEqProofs [hx])) (kC c k)
  have h6 : kC c k = kE c.tree (k + c.parents.length + 1) := rfl
  simp only [kCs, List.length_cons]
  omega
theorem b5H {r : RepoD} (h : a0K r = true) : kCs r.commits 1 + 2 * r.heads.length <= 10000 := by
 have h1 := a4e h
 have hc : ∀ c ∈ r.commits, c.parents.length <= 2 /\ c.tree.length <= 8 /\ ∀ f ∈ c.tree, f.text.length <= 64 := fun c hc => by
  obtain ⟨i, hi, rfl⟩ := List.getElem_of_mem hc
  have h2 := (a3P h hi).2.2
  exact ⟨(a3P h hi).1, a5W _ (by rw [<- a4N]; exact h2)⟩
 have hh : r.heads.length <= 5 := by
  rw [a1s] at h
  exact ((a2p _ _).1 ((a1i r).1 h).2.1).1
 have := c6T hc 1
 omega
theorem c2O (r : RepoD) (n w : Str) (l : List Str) : 1 <= kCs (a1G r n w l).1.commits 1 /\ kCs (a1G r n w l).1.commits 1 + 2 * (a1G r n w l).1.heads.length <= 10000 /\ (a1G r n w l).2.length <= 5 := by
 refine ⟨a5c _ _, ?_⟩
 unfold a1G
 split
 ·rename_i h
  split
  ·exact ⟨b5H (by rw [a1s]; exact h), Nat.zero_le _⟩
  ·have h1 := (b3Q h n w l l.length (Nat.le_refl _)).1
   rw [List.take_length, <- a1s] at h1
   exact ⟨b5H h1, by rw [b5F]; omega⟩
 ·simp -implicitDefEqProofs [noR, kCs]
def cFnExactQueueRun : Con := .fn 151 (RepoD × Str × Str × List Str) (fun a => [b9z a.1, .str a.2.1, .str a.2.2.1, .sl true 1 (a0a a.2.2.2)]) (fun _ => True) (fun _ => .bool true) (fun _ => [])
theorem a6D (x : cFnExactQueueRun.A) (hpre : cFnExactQueueRun.pre x) {W : World} {vs : List Value} {fp : List (Nat × Nat)} (hr : RdArgs W (cFnExactQueueRun.args x) vs fp) (hlen : vs.length <= cFnExactQueueRun.n) : Calls Tryz.prog 3 vs.toArray W fun e w' => e = .returned (.bool true) /\ Below W.heap.size W w' := by
 refine b9A mixed a1H (l := [(11, a8U), (12, a4t), (14, a8V), (15, a4u), (13, a5n), (16, a5m), (19, a4s), (17, a8K), (18, a6x), (20, a5Z), (21, a3L), (22, a4Z), (23, a5Y), (24, a4Y)]) (HasL.cons c0j (HasL.cons a7P (HasL.cons c0q (HasL.cons a7Q (HasL.cons b3w (HasL.cons b3v (HasL.cons a7N (HasL.cons b8C (HasL.cons b0H (HasL.cons b5l (HasL.cons a6g (HasL.cons a8n (HasL.cons b4O (HasL.cons a8i HasL.nil)))))))))))))) (n := cFnExactQueueRun.n) [0, 1, 2, 3, 4, 8, 9, 10, 11, 12, 13, 14, 15, 16, 17, 18, 19, 20] [13] [12287] Tryz.func3 (code := _) (by unfold Tryz.f3; rfl) (by kernel_rfl) (k := cFnExactQueueRun) (x := x) rfl rfl rfl (by kernel_rfl) ?_ hr hlen
 clear hr hlen
 obtain ⟨r, n, w, l⟩ := x
 clear hpre
 have h1 : 0 <= szRp r 1048576 -> rpSz r := fun h => (b5V h).1
 have h2 : 0 <= szRp r 1048576 -> a5u r := fun h => (b5V h).2
 have h3 : szRp r 1048576 <= 1048576 := c7S (by omega)
 have h4 : 0 <= szRp r 1048576 -> _ := fun h => c5K h 1
 have h6 := c2O r n w l
 simp -implicitDefEqProofs [c8a, c5P, c0u, c5S, c7Z, c5Q, c3t, c5R, b5b, c1M, b9g, b6z, c4t, c1I, b8H, c6H, c6I, Blk.fy, AV.fy, AV.fz1, finZ, cFnExactQueueRun, Con.fn, a1D, tTab, a8U, a4t, a8V, a4u, a5n, a5m, a4s, a8K, a6x, a5Z, a3L, a4Z, a5Y, a4Y]
 try dsimp only
 try simp +contextual -implicitDefEqProofs [eStr, a0y, a0s, a0z, a0t, List.getElem?_eq_getElem, a0u, a0p, a0r, a0q, <- a0h, <- a0f, a0m, a0n, a0l, a0k, a0o, a0j, and_assoc]
 generalize a1G r n w l = Q at h6 ⊢
 obtain ⟨⟨cs, hs⟩, ks⟩ := Q
 obtain ⟨b1, b2, b3⟩ := h6
 have q1 : a7s ⟨a1l cs 1, a1U hs.length (kCs cs 1)⟩ 1 = kCs cs 1 + 2 * hs.length := b8S ⟨cs, hs⟩ 1 (by omega)
 have q2 : kCs (a1l cs 1) 1 + 2 * (a1U hs.length (kCs cs 1)).length = kCs cs 1 + 2 * hs.length := c1H ⟨cs, hs⟩ 1
 have q3 := b8R
 have q4 := a2i
 dsimp only at b1 b2 b3 ⊢
 simp only [q1, q2, q3, q4]
 intro _ _ _ _ h
 have h7 := h1 h
 have h8 := h2 h
 have h9 := h4 h
 refine ⟨h3, fun hz => ?_⟩
 have h10 : l.length <= 1048576 := by
  have := (b3d hz).1
  omega
 clear q1 q2 q3 q4 h1 h2 h4
 repeat' first | assumption | omega | trivial | refine And.intro ?_ ?_ | intro _
end Vx
end Go.Proofs.YtokdjnbcdokpjabGreatDoor
