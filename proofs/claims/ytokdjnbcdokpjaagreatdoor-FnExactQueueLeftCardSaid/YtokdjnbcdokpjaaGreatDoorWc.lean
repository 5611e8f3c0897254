/-
  Joined by program (merge.py): Hc, Hd, Kj, Hq, Hp, Hi, He, Hf, To. It shows what the single texts show; conditions: none but those of each lemma.
-/
import Derived.Test.YtokdjnbcdokpjaaGreatDoorWb
set_option linter.unusedVariables false
set_option linter.unusedSimpArgs false
set_option linter.unusedSectionVars false
namespace Go.Proofs.YtokdjnbcdokpjaaGreatDoor
set_option maxHeartbeats 4000000
namespace Vx
open Go.RowKit
set_option maxRecDepth 8000
def a4L (n : Nat) (k : Int) : List Int := (List.range n).map fun i : Nat => k + (i : Int)
theorem a5U (n : Nat) (k : Int) : (a4L n k).length = n := by simp -implicitDefEqProofs [a4L]
def a3O (a : List Int) (k : Int) (i : Nat) : List Int := (a4L a.length k).take i ++ a.drop i
theorem c1z {a : List Int} {k : Int} {i : Nat} (h : i <= a.length) : (a3O a k i).length = a.length := by simp -implicitDefEqProofs [a3O, a5U]; omega
theorem b8R (a : List Int) (k : Int) : a3O a k 0 = a := by simp -implicitDefEqProofs [a3O]
theorem c1y {a : List Int} {k : Int} {i : Nat} (h : a.length <= i) : a3O a k i = a4L a.length k := by
 unfold a3O
 rw [List.take_of_length_le (by rw [a5U]; exact h), List.drop_eq_nil_of_le h, List.append_nil]
theorem c1A {a : List Int} {k : Int} {i : Nat} (h : i < a.length) : (a3O a k i).set i (k + i) = a3O a k (i + 1) := by
 unfold a3O
 have h1 : ((a4L a.length k).take i).length = i := by rw [List.length_take, a5U]; omega
 rw [List.set_append_right _ _ (by omega), h1, Nat.sub_self, List.drop_eq_getElem_cons h, List.set_cons_zero]
 rw [a0C (l := a4L a.length k) (i := i) (by rw [a5U]; exact h)]
 simp -implicitDefEqProofs [a4L]
def a7S : Con := { A := List Int × Int, X := Unit, n := 19, args := fun a => [.own 0 1 (a0d a.1), .int .i64 a.2], boxes := fun _ => [], pre := fun a => 0 <= a.2 /\ a.2 + a.1.length <= 4611686018427387904, post := fun _ _ => True, res := fun a _ => .int .i64 (a.2 + a.1.length), fin := fun a _ => [(0, .own 3 1 true (a0d (a4L a.1.length a.2)))], owns := fun a => [(0, 3, 1, a0d a.1)], lends := [0], mv := true, sube := 3 }
theorem b4U : Has Tryz.prog 131 a7S := by
 refine a0e mixed a0i HasL.nil [0, 1, 4, 5] ((fun a n (_ : Nat) => (fun a _ => ⟨Nat, fun i => ⟨[(0, true, .own 0 1 (a0d (a3O a.1 a.2 i))), (1, true, .int .i64 (a.2 + i)), (4, true, .int .i64 0), (5, true, .int .i64 i)], [(0, .own 3 1 true (a0d (a3O a.1 a.2 i)))]⟩, fun i => i <= a.1.length, fun i => a.1.length - i⟩) a n)) [] Tryz.func131 (by unfold Tryz.f131; rfl) (fun _ => ⟨(), trivial⟩) ?_
 intro a ha
 obtain ⟨l, k⟩ := a
 obtain ⟨q1, q2⟩ : 0 <= k /\ k + l.length <= 4611686018427387904 := ha
 have e1 := fun i => @c1z l k i
 have e2 := fun i => @c1A l k i
 have e3 := b8R l k
 have e4 := fun i => @c1y l k i
 simp -implicitDefEqProofs [a7S, Con.fn, tTab]
 try dsimp only
 refine ⟨⟨0, ⟨⟨e3, by omega, rfl⟩, e3.symm⟩, Nat.zero_le _⟩, fun i hi _ => ⟨fun hlt => ⟨hlt, fun _ => ⟨hlt, ⟨by omega, by omega⟩, fun _ _ => ⟨⟨by omega, by omega⟩, fun _ _ => ?_⟩⟩⟩, fun hge => ?_⟩⟩
 ·rw [e1 i hi] at hlt
  have h := e2 i hlt
  have hs : (a0d (a3O l k i)).set i [D.int .i64 (k + i)] = a0d (a3O l k (i + 1)) := by rw [a2R, h]
  exact ⟨i + 1, ⟨⟨hs.symm, by omega, by omega⟩, hs⟩, by omega, by omega⟩
 ·rw [e1 i hi] at hge
  exact ⟨by omega, e4 i hge⟩
def mkC (c : CommitD) (k : Int) : CommitD := ⟨a4L c.parents.length k, a2t (k + c.parents.length), a3W c.tree (k + c.parents.length + 1)⟩
def kC (c : CommitD) (k : Int) : Int := kE c.tree (k + c.parents.length + 1)
def kCs : List CommitD -> Int -> Int
 | [], k => k
 | c :: l, k => kCs l (kC c k)
def a3H : List CommitD -> Int -> List CommitD
 | [], _ => []
 | c :: l, k => mkC c k :: a3H l (kC c k)
theorem a3l : ∀ (l : List CommitD) (k : Int), (a3H l k).length = l.length
 | [], _ => rfl
 | c :: l, k => by simp -implicitDefEqProofs [a3H, a3l l]
theorem b4J : ∀ (l : List CommitD) (c : CommitD) (k : Int), kCs (l ++ [c]) k = kC c (kCs l k)
 | [], _, _ => rfl
 | d :: l, c, k => by simp only [List.cons_append, kCs]; exact b4J l c _
theorem b0Q : ∀ (l : List CommitD) (k : Int) (i : Nat) (h : i < l.length), (a3H l k)[i]'(by rw [a3l]; exact h) = mkC l[i] (kCs (l.take i) k)
 | [], _, i, h => by simp at h
 | c :: l, k, 0, _ => rfl
 | c :: l, k, i + 1, h => by
  simp only [a3H, List.getElem_cons_succ, List.take_succ_cons, kCs]
  exact b0Q l _ i (by simpa using h)
theorem c5f {c : CommitD} {k : Int} : k + c.parents.length + 1 <= kC c k := by
 have := (c5h (t := c.tree) (k := k + c.parents.length + 1) c.tree.length).1
 rw [List.take_length] at this
 exact this
theorem a8b : ∀ (l : List CommitD) (k : Int), k <= kCs l k
 | [], _ => Int.le_refl _
 | c :: l, k => by
  have h1 := c5f (c := c) (k := k)
  have h2 := a8b l (kC c k)
  simp only [kCs]; omega
theorem c0O (l : List CommitD) (k : Int) (i : Nat) : kCs (l.take i) k <= kCs l k := by
 have : ∀ (a b : List CommitD) (k : Int), kCs (a ++ b) k = kCs b (kCs a k) := by
  intro a
  induction a with
  | nil => intro b k; rfl
  | cons c a ih => intro b k; simp only [List.cons_append, kCs]; exact ih b _
 conv => rhs; rw [<- List.take_append_drop i l]
 rw [this]
 exact a8b _ _
def a3b (a : List CommitD) (k : Int) (i : Nat) : List CommitD := (a3H a k).take i ++ a.drop i
theorem c1w {a : List CommitD} {k : Int} {i : Nat} (h : i <= a.length) : (a3b a k i).length = a.length := by simp -implicitDefEqProofs [a3b, a3l]; omega
theorem b8Q (a : List CommitD) (k : Int) : a3b a k 0 = a := by simp -implicitDefEqProofs [a3b]
theorem c1u {a : List CommitD} {k : Int} {i : Nat} (h : a.length <= i) : a3b a k i = a3H a k := by
 unfold a3b
 rw [List.take_of_length_le (by rw [a3l]; exact h), List.drop_eq_nil_of_le h, List.append_nil]
theorem c1v {a : List CommitD} {k : Int} {i : Nat} (h : i < a.length) : (a3b a k i)[i]? = some a[i] := by
 unfold a3b
 rw [List.getElem?_append_right (by simp; omega), List.length_take, a3l, Nat.min_eq_left (by omega), Nat.sub_self, List.getElem?_drop]
 simp -implicitDefEqProofs [h]
theorem c1x {a : List CommitD} {k : Int} {i : Nat} (h : i < a.length) : (a3b a k i).set i (mkC a[i] (kCs (a.take i) k)) = a3b a k (i + 1) := by
 unfold a3b
 have h1 : ((a3H a k).take i).length = i := by rw [List.length_take, a3l]; omega
 rw [List.set_append_right _ _ (by omega), h1, Nat.sub_self, List.drop_eq_getElem_cons h, List.set_cons_zero]
 rw [a0C (l := a3H a k) (i := i) (by rw [a3l]; exact h), b0Q a k i h]
 simp
def a5x : Con := { A := List CommitD × Int, X := Unit, n := 35, args := fun a => [.own 0 3 (a0g a.1), .int .i64 a.2], boxes := fun _ => [], pre := fun a => 0 <= a.2 /\ kCs a.1 a.2 <= 1152921504606846976, post := fun _ _ => True, res := fun a _ => .int .i64 (kCs a.1 a.2), fin := fun a _ => [(0, .own 34 3 true (a0g (a3H a.1 a.2)))], owns := fun a => [(0, 34, 3, a0g a.1)], lends := [0], mv := true, sube := 34 }
theorem b0P : Has Tryz.prog 83 a5x := by
 refine a0e mixed a0i (HasL.cons b4U (HasL.cons a3I (HasL.cons b3d HasL.nil))) [0, 1, 4, 5] ((fun a n (_ : Nat) => (fun a _ => ⟨Nat, fun i => ⟨[(0, true, .own 0 3 (a0g (a3b a.1 a.2 i))), (1, true, .int .i64 (kCs (a.1.take i) a.2)), (4, true, .int .i64 0), (5, true, .int .i64 i)], [(0, .own 34 3 true (a0g (a3b a.1 a.2 i)))]⟩, fun i => i <= a.1.length, fun i => a.1.length - i⟩) a n)) [] Tryz.func83 (by unfold Tryz.f83; rfl) (fun _ => ⟨(), trivial⟩) ?_
 intro a ha
 obtain ⟨l, k⟩ := a
 obtain ⟨q1, q2⟩ : 0 <= k /\ kCs l k <= 1152921504606846976 := ha
 have e1 := fun i => @c1w l k i
 have e3 := b8Q l k
 simp -implicitDefEqProofs [a5x, Con.fn, tTab, a7S, a3D, a6U]
 try dsimp only
 refine ⟨⟨0, ⟨⟨e3, rfl, rfl⟩, e3.symm⟩, Nat.zero_le _⟩, fun t ht hbig => ⟨fun hlt => ?_, fun hge => ?_⟩⟩
 ·rw [e1 t ht] at hlt
  have g := c1v (k := k) hlt
  have hl := e1 t ht
  have g2 : (a3b l k t)[t]'(by omega) = l[t] := by
   rw [List.getElem?_eq_getElem (by omega)] at g; exact Option.some.inj g
  have hst := c1x (k := k) hlt
  have hsn : kCs (l.take (t + 1)) k = kC l[t] (kCs (l.take t) k) := by rw [a0C hlt, b4J]
  have hsp := c0O l k (t + 1)
  rw [hsn] at hsp
  have hge1 := a8b (l.take t) k
  have hkc := c5f (c := l[t]) (k := kCs (l.take t) k)
  generalize kCs (l.take t) k = b at *
  simp -implicitDefEqProofs [g, g2, hl, hlt, a0E, D.asRows, and_assoc]
  have hse : (a0g (a3b l k t)).set t [D.sl 3 1 (a0d (a4L l[t].parents.length b)), D.str (a2t (b + l[t].parents.length)), D.sl 39 2 (a0c (a3W l[t].tree (b + l[t].parents.length + 1)))] = a0g (a3b l k (t + 1)) := by
   rw [<- hst]; unfold a0g; rw [List.map_set]; rfl
  have hkE : kC l[t] b = kE l[t].tree (b + l[t].parents.length + 1) := rfl
  rw [hkE] at hsp hsn hkc
  refine ⟨by omega, by omega, by omega, by omega, fun _ _ => ⟨by omega, by omega, by omega, by omega, fun _ _ => ⟨t + 1, hse.symm, hsn, by omega, hse, by omega, by omega⟩⟩⟩
 ·have hge' : l.length <= t := by rw [e1 t ht] at hge; omega
  rw [List.take_of_length_le hge', c1u hge']
  simp
def a3X (n : Nat) (k : Int) : List HeadD := (List.range n).map fun i : Nat => ⟨a2t (k + 2 * i), k + 2 * i + 1⟩
theorem a3P (n : Nat) (k : Int) : (a3X n k).length = n := by simp -implicitDefEqProofs [a3X]
theorem b8S {n : Nat} {k : Int} {i : Nat} (h : i < n) : (a3X n k)[i]'(by rw [a3P]; exact h) = ⟨a2t (k + 2 * i), k + 2 * i + 1⟩ := by simp -implicitDefEqProofs [a3X]
def mHA (a : List HeadD) (k : Int) (i : Nat) : List HeadD := (a3X a.length k).take i ++ a.drop i
theorem c6e {a : List HeadD} {k : Int} {i : Nat} (h : i <= a.length) : (mHA a k i).length = a.length := by simp -implicitDefEqProofs [mHA, a3P]; omega
theorem c3U (a : List HeadD) (k : Int) : mHA a k 0 = a := by simp -implicitDefEqProofs [mHA]
theorem c6c {a : List HeadD} {k : Int} {i : Nat} (h : a.length <= i) : mHA a k i = a3X a.length k := by
 unfold mHA
 rw [List.take_of_length_le (by rw [a3P]; exact h), List.drop_eq_nil_of_le h, List.append_nil]
theorem c6d {a : List HeadD} {k : Int} {i : Nat} (h : i < a.length) : (mHA a k i)[i]? = some a[i] := by
 unfold mHA
 rw [List.getElem?_append_right (by simp; omega), List.length_take, a3P, Nat.min_eq_left (by omega), Nat.sub_self, List.getElem?_drop]
 simp -implicitDefEqProofs [h]
theorem c6f {a : List HeadD} {k : Int} {i : Nat} (h : i < a.length) : (mHA a k i).set i ⟨a2t (k + 2 * i), k + 2 * i + 1⟩ = mHA a k (i + 1) := by
 unfold mHA
 have h1 : ((a3X a.length k).take i).length = i := by rw [List.length_take, a3P]; omega
 rw [List.set_append_right _ _ (by omega), h1, Nat.sub_self, List.drop_eq_getElem_cons h, List.set_cons_zero]
 rw [a0C (l := a3X a.length k) (i := i) (by rw [a3P]; exact h), b8S h]
 simp
def a6V : Con := { A := List HeadD × Int, X := Unit, n := 28, args := fun a => [.own 0 2 (a0b a.1), .int .i64 a.2], boxes := fun _ => [], pre := fun a => 0 <= a.2 /\ a.2 + 2 * a.1.length <= 4611686018427387904, post := fun _ _ => True, res := fun a _ => .int .i64 (a.2 + 2 * a.1.length), fin := fun a _ => [(0, .own 113 2 true (a0b (a3X a.1.length a.2)))], owns := fun a => [(0, 113, 2, a0b a.1)], lends := [0], mv := true, sube := 113 }
theorem b3e : Has Tryz.prog 84 a6V := by
 refine a0e mixed a0i (HasL.cons a3I HasL.nil) [0, 1, 4, 5] ((fun a n (_ : Nat) => (fun a _ => ⟨Nat, fun i => ⟨[(0, true, .own 0 2 (a0b (mHA a.1 a.2 i))), (1, true, .int .i64 (a.2 + 2 * i)), (4, true, .int .i64 0), (5, true, .int .i64 i)], [(0, .own 113 2 true (a0b (mHA a.1 a.2 i)))]⟩, fun i => i <= a.1.length, fun i => a.1.length - i⟩) a n)) [] Tryz.func84 (by unfold Tryz.f84; rfl) (fun _ => ⟨(), trivial⟩) ?_
 intro a ha
 obtain ⟨l, k⟩ := a
 obtain ⟨q1, q2⟩ : 0 <= k /\ k + 2 * l.length <= 4611686018427387904 := ha
 have e1 := fun i => @c6e l k i
 have e3 := c3U l k
 simp -implicitDefEqProofs [a6V, Con.fn, tTab, a3D]
 try dsimp only
 refine ⟨⟨0, ⟨⟨e3, by omega, rfl⟩, e3.symm⟩, Nat.zero_le _⟩, fun t ht hbig => ⟨fun hlt => ?_, fun hge => ?_⟩⟩
 ·rw [e1 t ht] at hlt
  have g := c6d (k := k) hlt
  have hl := e1 t ht
  have g2 : (mHA l k t)[t]'(by omega) = l[t] := by
   rw [List.getElem?_eq_getElem (by omega)] at g; exact Option.some.inj g
  have hst := c6f (k := k) hlt
  simp -implicitDefEqProofs [g, g2, hl, hlt, a0R, D.asRows, and_assoc]
  have hse : (a0b (mHA l k t)).set t [D.str (a2t (k + 2 * t)), D.int .i64 (k + 2 * t + 1)] = a0b (mHA l k (t + 1)) := by
   rw [<- hst, a1T]
  exact ⟨by omega, by omega, by omega, fun _ _ => ⟨by omega, by omega, fun _ _ => ⟨by omega, by omega, fun _ _ => ⟨t + 1, hse.symm, by omega, by omega, hse, by omega, by omega⟩⟩⟩⟩
 ·have hge' : l.length <= t := by rw [e1 t ht] at hge; omega
  rw [c6c hge']
  simp; omega
def a7T : Con := { A := RepoD × Int, X := Unit, n := 14, args := fun a => [.agg [.own 0 3 (a0g a.1.commits), .own 1 2 (a0b a.1.heads)], .int .i64 a.2], boxes := fun _ => [], pre := fun a => 0 <= a.2 /\ kCs a.1.commits a.2 + 2 * a.1.heads.length <= 1152921504606846976, post := fun _ _ => True, res := fun a _ => .int .i64 (kCs a.1.commits a.2 + 2 * a.1.heads.length), fin := fun a _ => [(0, .own 34 3 true (a0g (a3H a.1.commits a.2))), (1, .own 113 2 true (a0b (a3X a.1.heads.length (kCs a.1.commits a.2))))], owns := fun a => [(0, 34, 3, a0g a.1.commits), (1, 113, 2, a0b a.1.heads)], lends := [0, 1], mv := true, sube := 34 }
theorem b4V : Has Tryz.prog 30 a7T := by
 refine a0e mixed a0i (HasL.cons b0P (HasL.cons b3e HasL.nil)) [0, 1, 2, 4] ((fun a n (_ : Nat) => (fun _ => a0K) a n)) [] Tryz.func30 (by unfold Tryz.f30; rfl) (fun _ => ⟨(), trivial⟩) ?_
 intro a ha
 obtain ⟨r, k⟩ := a
 obtain ⟨q1, q2⟩ : 0 <= k /\ kCs r.commits k + 2 * r.heads.length <= 1152921504606846976 := ha
 simp -implicitDefEqProofs [a7T, Con.fn, tTab, a5x, a6V]
 try dsimp only
 exact ⟨_, _, ⟨rfl, rfl⟩, rfl, ⟨q1, by omega⟩, _, _, ⟨rfl, rfl⟩, rfl, ⟨by have := a8b r.commits k; omega, by omega⟩, rfl, rfl, rfl⟩


theorem b7r : ∀ {a : List Str} {l : Int}, 0 <= l -> 0 <= szL a l -> szL a l <= l
 | [], l, _, _ => Int.le_refl l
 | s :: r, l, h, h2 => by
  simp only [szL] at h2 ⊢
  split at h2
  ·omega
  ·rename_i h3
   rw [if_neg h3]
   have := b7r (a := r) (l := l - s.length) (by omega) h2
   omega
theorem b9w {a : List Str} {l : Int} (h : 0 <= a3v a l) : a3v a l + a.length <= l := by
 unfold a3v at h ⊢
 split at h
 ·omega
 ·rename_i h3
  rw [if_neg h3]
  have := b7r (by omega) h
  omega
theorem c6M {f : FileD} {l : Int} (h : 0 <= szF f l) : szF f l + f.text.length <= l := by
 unfold szF at h ⊢
 split at h
 ·omega
 ·rename_i h3
  rw [if_neg h3]
  split at h
  ·omega
  ·rename_i h4
   rw [if_neg h4]
   have := b9w h
   omega
theorem b5z : ∀ {a : List FileD} {l : Int}, 0 <= szFL a l -> szFL a l + a2c a <= l
 | [], l, _ => by simp -implicitDefEqProofs [szFL, a2c]
 | f :: r, l, h => by
  simp only [szFL] at h ⊢
  split at h
  ·omega
  ·rename_i h3
   rw [if_neg h3]
   have h1 := b5z (a := r) (l := szF f l) h
   have h2 := c6M (f := f) (l := l) (by omega)
   have : a2c (f :: r) = f.text.length + a2c r := by simp -implicitDefEqProofs [a2c]
   omega
theorem b6F {a : List FileD} {l : Int} (h : 0 <= a2L a l) : a2L a l + a.length + a2c a <= l := by
 unfold a2L at h ⊢
 split at h
 ·omega
 ·rename_i h3
  rw [if_neg h3]
  have := b5z h
  omega
theorem c4L {c : CommitD} {l : Int} (h : 0 <= szCm c l) (k : Int) : szCm c l + (kC c k - k) <= l + 1 := by
 have hk : kC c k = k + c.parents.length + 1 + c.tree.length + a2c c.tree := rfl
 unfold szCm at h ⊢
 split at h
 ·omega
 ·rename_i h3
  rw [if_neg h3]
  split at h
  ·omega
  ·rename_i h4
   rw [if_neg h4]
   split at h
   ·omega
   ·rename_i h5
    rw [if_neg h5]
    have h6 := b6F h
    have h7 : szI c.parents l = l - c.parents.length := by
     unfold szI at h3 ⊢
     split
     ·rename_i h8; rw [if_pos h8] at h3; omega
     ·rfl
    omega
theorem b5w : ∀ {a : List CommitD} {l : Int} (_ : 0 <= szCL a l) (k : Int), szCL a l + (kCs a k - k) <= l + a.length
 | [], l, _, k => by simp -implicitDefEqProofs [szCL, kCs]
 | c :: r, l, h, k => by
  simp only [szCL] at h ⊢
  split at h
  ·omega
  ·rename_i h3
   rw [if_neg h3]
   have h1 := b5w (a := r) (l := szCm c l) h (kC c k)
   have h2 := c4L (c := c) (l := l) (by omega) k
   simp only [kCs, List.length_cons]
   omega
theorem b3m {a : List CommitD} {l : Int} (h : 0 <= a1F a l) (k : Int) : a1F a l + (kCs a k - k) <= l := by
 unfold a1F at h ⊢
 split at h
 ·omega
 ·rename_i h3
  rw [if_neg h3]
  have := b5w h k
  omega
theorem c4Q {r : RepoD} {l : Int} (h : 0 <= szRp r l) (k : Int) : k <= kCs r.commits k + 2 * r.heads.length /\ kCs r.commits k + 2 * r.heads.length <= k + 2 * l := by
 have hk := a8b r.commits k
 unfold szRp at h
 split at h
 ·omega
 ·rename_i h3
  split at h
  ·omega
  ·rename_i h4
   have h1 := b3m (a := r.commits) (l := l) (by omega) k
   have h2 := (b1i h).1
   omega
theorem c7l {r : RepoD} {P : RepoD -> Prop} : (∃ a : RepoD, a.commits = r.commits /\ a.heads = r.heads /\ P a) = P r := by
 refine propext ⟨?_, fun h => ⟨r, rfl, rfl, h⟩⟩
 rintro ⟨⟨c, h⟩, rfl, rfl, h3⟩
 exact h3
theorem c7k {r : HeadD} {P : HeadD -> Prop} : (∃ a : HeadD, a.name = r.name /\ a.at_ = r.at_ /\ P a) = P r := by
 refine propext ⟨?_, fun h => ⟨r, rfl, rfl, h⟩⟩
 rintro ⟨⟨c, h⟩, rfl, rfl, h3⟩
 exact h3


theorem c1r (r : RepoD) (n w : Str) (l : List Str) : (a5S r n w l).length <= 5 := by
 have h0 : (a2s l [] ([] : List Int).length).length <= 0 := a5R l [] _
 unfold a5S a1n
 split
 ·split
  ·exact Nat.le_trans h0 (Nat.zero_le _)
  ·have h1 := a5R l (qF n w l r).2 (qF n w l r).2.length
   have h2 := b0Z n w r l
   omega
 ·exact Nat.le_trans h0 (Nat.zero_le _)
def a5b : Con := .fn 108 (RepoD × Str × Str × List Str) (fun a => [b8M a.1, .str a.2.1, .str a.2.2.1, .sl true 1 (a0a a.2.2.2)]) (fun _ => True) (fun _ => .bool true) (fun _ => [])
theorem a7g : Has Tryz.prog 5 a5b := by
 refine a0e mixed a0i (HasL.cons b9v (HasL.cons a7F (HasL.cons b9C (HasL.cons a7G (HasL.cons b2h (HasL.cons b2g (HasL.cons a7D (HasL.cons b8c (HasL.cons b4V (HasL.cons a5V (HasL.cons b0u HasL.nil))))))))))) [0, 1, 2, 3, 4, 8, 9, 10, 11, 12, 13, 14, 15, 16, 17] ((fun a n (_ : Nat) => (fun _ => a0K) a n)) [] Tryz.func5 (by unfold Tryz.f5; rfl) (fun _ => ⟨(), trivial⟩) ?_
 intro a _
 obtain ⟨r, n, w, l⟩ := a
 have h1 : 0 <= szRp r 1048576 -> rpSz r := fun h => (b5C h).1
 have h2 : 0 <= szRp r 1048576 -> a4v r := fun h => (b5C h).2
 have h3 : szRp r 1048576 <= 1048576 := c6R (by omega)
 have h4 : 0 <= szRp r 1048576 -> _ := fun h => c4Q h 1
 have h6 := c1r r n w l
 have hm := c0F
 have hl := a4V
 simp (maxSteps := 8000000) -implicitDefEqProofs [a5b, b1O, a5f, b1S, a5g, a6i, a6h, a5e, b1v, a7T, a4l, a5w, Con.fn, tTab]
 try dsimp only
 simp only [and_assoc, exists_eq_left, exists_and_left, c7l, c7k, true_and, true_implies]
 refine fun _ _ _ _ => ⟨by omega, by omega, fun h => ?_⟩
 have h7 := h1 h
 have h8 := h2 h
 have h9 := h4 h
 refine ⟨h, h3, fun hz => ?_⟩
 have h10 : l.length <= 1048576 := by
  have := (b2R hz).1
  omega
 simp only [hm, hl]
 repeat' first | assumption | omega | refine And.intro ?_ ?_ | intro _
end Vx
end Go.Proofs.YtokdjnbcdokpjaaGreatDoor
