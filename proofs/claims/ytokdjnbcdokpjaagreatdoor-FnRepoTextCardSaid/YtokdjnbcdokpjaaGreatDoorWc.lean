/-
  Joined by program (merge.py): Mi, Mj, Mm, Mn, Td, Up, Ng, Nj, Nk, Eg, Sm, Sn, Te, He, Mo, Tl, Tq, Uq, Ub, Ur, Ux, Nf, No, Uv. It shows what the single texts show; conditions: none but those of each lemma.
-/
import Derived.Test.YtokdjnbcdokpjaaGreatDoorWb
set_option linter.unusedVariables false
set_option linter.unusedSimpArgs false
set_option linter.unusedSectionVars false
namespace Go.Proofs.YtokdjnbcdokpjaaGreatDoor
set_option maxHeartbeats 4000000
namespace Vx
open Go.RowKit
set_option maxRecDepth 8000
--TAB a0R
def opSz (o : OpD) : Prop := o.path.length <= 1048576 /\ o.to_.length <= 1048576 /\ o.text.length <= 1048576
def b0J : Con := .fn 29 (RepoD × OpD × (List FileD × Bool)) (fun a => [a0V a.1, vOp a.2.1, .sl true 2 (a0b a.2.2.1), .bool a.2.2.2]) (fun a => rpSz a.1 /\ a.2.2.1.length <= 1048576 /\ ∀ f ∈ a.2.2.1, f.text.length <= 1048576) (fun a => .tup [.agg [.sl false 3 (a0i (a2T a.1 a.2.1 a.2.2).1.commits), .sl false 2 (a0c (a2T a.1 a.2.1 a.2.2).1.heads)], .int .i64 (a2T a.1 a.2.1 a.2.2).2]) (fun _ => [])
theorem b7C : Has Tryz.prog 207 b0J := by
 refine a0d mixed a0K (HasL.cons b3y HasL.nil) [0, 1, 2, 3, 4, 5, 8, 9, 10, 11] ((fun a n (_ : Nat) => (fun _ => a0r) a n)) [] Tryz.func207 (by unfold Tryz.f207; rfl) (fun _ => ⟨(), trivial⟩) ?_
 intro a ha
 obtain ⟨r, o, t, k⟩ := a
 obtain ⟨h1, h2, h3⟩ : rpSz r /\ t.length <= 1048576 /\ ∀ f ∈ t, f.text.length <= 1048576 := ha
 simp (maxSteps := 8000000) -implicitDefEqProofs [-kStep_move, -Bool.exists_bool, b0J, a6T, Con.fn, a0R, tTab, a0q, bOp]
 try dsimp only
 simp -implicitDefEqProofs only [and_assoc, exists_eq_left, exists_and_left, RepoD.ex1, RepoD.eta, OpD.ex1, OpD.eta]
 refine ⟨fun h => ?_, fun h => ⟨h1, h2, h3, fun h' => ?_, fun h' => ?_⟩⟩
 ·unfold a2T; rw [if_neg (by simp -implicitDefEqProofs [h])]; exact ⟨rfl, rfl, rfl⟩
 ·unfold a2T; rw [if_pos h, if_neg (by simp -implicitDefEqProofs [h'])]; exact ⟨rfl, rfl, rfl⟩
 ·unfold a2T; rw [if_pos h, if_pos h']; exact ⟨rfl, rfl, rfl⟩
theorem b4C {t : List FileD} (h : a0S t = true) (f : FileD) : a0S (a3W t f).1 = true := by
 unfold a3W
 rw [if_pos h]
 split
 ·assumption
 ·exact h
theorem b3B {t : List FileD} (h : a0S t = true) (p to : Str) : a0S (a1R t p to).1 = true := by
 unfold a1R
 rw [if_pos h]
 split
 ·exact h
 ·split
  ·exact h
  ·rename_i q
   cases q2 : a0S (mvFs p to (filB (a1r p) t) t) with
   | true => rfl
   | false => exact absurd (.inl q2) q
theorem b6U {t : List FileD} (h : a0S t = true) (p : Str) : szT (a3k t p).1 := by
 unfold a3k filB
 rw [if_pos h]
 obtain ⟨h1, h2⟩ := a2B h
 exact ⟨Nat.le_trans (List.length_filter_le _ _) h1, fun f hf => h2 f (List.mem_filter.1 hf).1⟩
theorem b2D {t : List FileD} (h : a0S t = true) : ∀ f ∈ t, f.path.length <= 20 := fun f hf => (a4k (by rw [a3J]; exact h) f hf).1.2
theorem a6I {t : List FileD} (h : szT t) : t.length <= 1048576 /\ ∀ f ∈ t, f.text.length <= 1048576 := ⟨by have := h.1; omega, fun f hf => by have := h.2 f hf; omega⟩
theorem b7Y {r : RepoD} (h : a0j r = true) (n : Str) : a0S (a2U r n) = true := by
 unfold a2U
 split
 ·exact a2q h _
 ·rfl
def b5p : Con := .fn 134 (RepoD × OpD) (fun a => [a0V a.1, vOp a.2]) (fun a => a0j a.1 = true /\ opSz a.2) (fun a => .tup [.agg [.sl false 3 (a0i (do19 a.1 a.2).1.commits), .sl false 2 (a0c (do19 a.1 a.2).1.heads)], .int .i64 (do19 a.1 a.2).2]) (fun _ => [])
theorem c2d : Has Tryz.prog 189 b5p := by
 refine a0d mixed a0K (HasL.cons a3n (HasL.cons b6V (HasL.cons b4A (HasL.cons b4B (HasL.cons b7C (HasL.cons b3w (HasL.cons a8D (HasL.cons b2t (HasL.cons b6z HasL.nil))))))))) [0, 1, 2, 3, 4, 5, 6, 7, 8, 9, 10, 11, 12, 13, 14, 15, 30] ((fun a n (_ : Nat) => (fun _ => a0r) a n)) [] Tryz.func189 (by unfold Tryz.f189; rfl) (fun _ => ⟨(), trivial⟩) ?_
 intro a ha
 obtain ⟨r, o⟩ := a
 obtain ⟨h1, h2, h3, h4⟩ : a0j r = true /\ opSz o := ha
 simp (maxSteps := 8000000) -implicitDefEqProofs [-kStep_move, -Bool.exists_bool, b5p, a4K, a8V, a7U, a7V, b0J, a6S, a5K, a9S, a8T, Con.fn, a0R, tTab, a0q, bOp]
 try dsimp only
 simp -implicitDefEqProofs only [and_assoc, exists_eq_left, exists_and_left, RepoD.ex1, RepoD.eta, OpD.ex1, OpD.eta]
 have hsz := a8p h1
 have hat := b1x (n := o.branch) ((a0T r).1 h1).2.1
 have hT := b7Y h1 o.branch
 have e1 : o.kind = 1 -> do19 r o = a2T r o (a3W (a2U r o.branch) ⟨o.path, o.text⟩) := fun h => by unfold do19; rw [if_pos h]
 have e2 : o.kind = 2 -> do19 r o = a2T r o (a3k (a2U r o.branch) o.path) := fun h => by unfold do19; rw [if_neg (by omega), if_pos h]
 have e3 : o.kind = 3 -> do19 r o = a2T r o (a1R (a2U r o.branch) o.path o.to_) := fun h => by unfold do19; rw [if_neg (by omega), if_neg (by omega), if_pos h]
 have e4 : o.kind = 4 -> (a1n r o.to_ (atL r.heads o.branch)).2 = true -> do19 r o = ((a1n r o.to_ (atL r.heads o.branch)).1, 0) := fun h h' => by unfold do19; rw [if_neg (by omega), if_neg (by omega), if_neg (by omega), if_pos h, if_pos h']
 have e4' : o.kind = 4 -> (a1n r o.to_ (atL r.heads o.branch)).2 = false -> do19 r o = (r, 1) := fun h h' => by unfold do19; rw [if_neg (by omega), if_neg (by omega), if_neg (by omega), if_pos h, if_neg (by simp -implicitDefEqProofs [h'])]
 have e5 : o.kind = 5 -> do19 r o = a0u r o.branch o.who (atL r.heads o.to_) := fun h => by unfold do19; rw [if_neg (by omega), if_neg (by omega), if_neg (by omega), if_neg (by omega), if_pos h]
 have e6 : o.kind = 6 -> do19 r o = a0U false r o.branch o.who o.at_ := fun h => by unfold do19; rw [if_neg (by omega), if_neg (by omega), if_neg (by omega), if_neg (by omega), if_neg (by omega), if_pos h]
 have e7 : ¬ o.kind = 1 -> ¬ o.kind = 2 -> ¬ o.kind = 3 -> ¬ o.kind = 4 -> ¬ o.kind = 5 -> ¬ o.kind = 6 -> do19 r o = a0U true r o.branch o.who o.at_ := fun k1 k2 k3 k4 k5 k6 => by unfold do19; rw [if_neg k1, if_neg k2, if_neg k3, if_neg k4, if_neg k5, if_neg k6]
 have s1 := a6I (a2B (b4C hT ⟨o.path, o.text⟩))
 have s2 := a6I (b6U hT o.path)
 have s3 := a6I (a2B (b3B hT o.path o.to_))
 have s0 := a2B hT
 have sp := b2D hT
 have sp : ∀ f ∈ a2U r o.branch, f.path.length <= 1048576 := fun f hf => by have := sp f hf; omega
 have sl : (a2U r o.branch).length <= 1048575 := by have := s0.1; omega
 have st := (a6I s0).2
 refine ⟨fun hp => ⟨hp, by omega, fun _ _ => ?_⟩, fun hn => ?_⟩
 ·have ca := cget (r := r) hp (by omega)
  have eT : a0e r (atL r.heads o.branch) = a2U r o.branch := by unfold a2U; rw [if_pos hp]
  rw [ca, eT]
  simp -implicitDefEqProofs [D.asRows]
  exact ⟨fun h => ⟨sl, st, h4, hsz, s1.1, s1.2, by rw [e1 h]; exact ⟨rfl, rfl, rfl⟩⟩, fun k1 => ⟨fun h => ⟨(a6I s0).1, st, hsz, s2.1, s2.2, by rw [e2 h]; exact ⟨rfl, rfl, rfl⟩⟩, fun k2 => ⟨fun h => ⟨(a6I s0).1, st, h3, sp, hsz, s3.1, s3.2, by rw [e3 h]; exact ⟨rfl, rfl, rfl⟩⟩, fun k3 => ⟨fun h => ⟨hsz, fun h' => by rw [e4' h h']; exact ⟨rfl, rfl, rfl⟩, fun h' => by rw [e4 h h']; exact ⟨rfl, rfl, rfl⟩⟩, fun k4 => ⟨fun h => ⟨hsz, by rw [e5 h]; exact ⟨rfl, rfl, rfl⟩⟩, fun k5 => ⟨fun h => ⟨hsz, by rw [e6 h]; exact ⟨rfl, rfl, rfl⟩⟩, fun k6 => ⟨hsz, by rw [e7 k1 k2 k3 k4 k5 k6]; exact ⟨rfl, rfl, rfl⟩⟩⟩⟩⟩⟩⟩⟩
 ·have eT : a2U r o.branch = [] := by unfold a2U; rw [if_neg (by omega)]
  simp -implicitDefEqProofs only [FileD.ex1]
  rw [<- eT]
  exact ⟨fun h => ⟨sl, st, h4, hsz, s1.1, s1.2, by rw [e1 h]; exact ⟨rfl, rfl, rfl⟩⟩, fun k1 => ⟨fun h => ⟨(a6I s0).1, st, hsz, s2.1, s2.2, by rw [e2 h]; exact ⟨rfl, rfl, rfl⟩⟩, fun k2 => ⟨fun h => ⟨(a6I s0).1, st, h3, sp, hsz, s3.1, s3.2, by rw [e3 h]; exact ⟨rfl, rfl, rfl⟩⟩, fun k3 => ⟨fun h => ⟨hsz, fun h' => by rw [e4' h h']; exact ⟨rfl, rfl, rfl⟩, fun h' => by rw [e4 h h']; exact ⟨rfl, rfl, rfl⟩⟩, fun k4 => ⟨fun h => ⟨hsz, by rw [e5 h]; exact ⟨rfl, rfl, rfl⟩⟩, fun k5 => ⟨fun h => ⟨hsz, by rw [e6 h]; exact ⟨rfl, rfl, rfl⟩⟩, fun k6 => ⟨hsz, by rw [e7 k1 k2 k3 k4 k5 k6]; exact ⟨rfl, rfl, rfl⟩⟩⟩⟩⟩⟩⟩⟩
def rpI (l : List OpD) : Inv := ⟨Nat, fun i => ⟨[(0, true, .sl true 7 (eOps l)), (2, true, .ptr 10 0), (3, true, .ptr 11 0), (4, true, .int .i64 i)], [(10, a7H), (11, .box 26 [.sl false 3 (a0i (a5u (l.take i)).commits), .sl false 2 (a0c (a5u (l.take i)).heads)])]⟩, fun i => i <= l.length /\ i <= 30, fun i => l.length - i⟩
def a7S : Con := .fn 34 (List OpD) (fun l => [.sl true 7 (eOps l)]) (fun l => ∀ o ∈ l, opSz o) (fun l => .agg [.sl false 3 (a0i (b2u l).commits), .sl false 2 (a0c (b2u l).heads)]) (fun _ => [])
theorem b4x : Has Tryz.prog 162 a7S := by
 refine a0d mixed a0K (HasL.cons c2e (HasL.cons c2d HasL.nil)) [0, 2, 3, 4, 5] ((fun a n (_ : Nat) => (fun l _ => rpI l) a n)) [12287] Tryz.func162 (by unfold Tryz.f162; rfl) (fun _ => ⟨(), trivial⟩) ?_
 intro (l : List OpD) (ha : ∀ o ∈ l, opSz o)
 simp (maxSteps := 8000000) -implicitDefEqProofs [-kStep_move, -Bool.exists_bool, a7S, b5q, b5p, Con.fn, a0R, tTab, rpI]
 try dsimp only
 simp -implicitDefEqProofs only [and_assoc, exists_eq_left, exists_and_left, RepoD.ex1, RepoD.eta, OpD.ex1, OpD.eta]
 refine ⟨rfl, rfl, Nat.zero_le _, Nat.zero_le _, fun t ht h30 _ => ⟨fun hlt h30' => ⟨hlt, fun _ => ?_⟩, ?_⟩⟩
 ·have qq : Option.map eOp l[t]? = some (eOp l[t]) := by simp -implicitDefEqProofs [hlt]
  have hs := c0t hlt
  have hok := (b1l (l.take t)).1
  have ho := ha l[t] (List.getElem_mem hlt)
  rw [qq]
  generalize a5u (l.take t) = R at *
  generalize l[t] = o at *
  simp -implicitDefEqProofs [eOp, D.asInt, D.asStr, D.asRows]
  refine ⟨ho.2.2, fun hb => ⟨hlt, fun _ => ⟨hok, ho, by omega, by omega, fun _ _ => ⟨t + 1, by omega, by rw [hs, if_pos hb], by rw [hs, if_pos hb], by omega, by omega, by omega⟩⟩⟩, fun hb => ⟨by omega, by omega, fun _ _ => ⟨t + 1, by omega, by rw [hs, if_neg (by simp -implicitDefEqProofs [hb])], by rw [hs, if_neg (by simp -implicitDefEqProofs [hb])], by omega, by omega, by omega⟩⟩⟩
 ·intro h
  have e : b2u l = a5u (l.take t) := by
   unfold b2u
   rcases Nat.lt_or_ge t l.length with h1 | h1
   ·have := h h1
    have : t = 30 := by omega
    rw [this]
   ·rw [List.take_of_length_le h1, List.take_of_length_le (by omega)]
  rw [e]; exact ⟨rfl, rfl⟩
def b0F : Con := { A := Str × Int, X := Str, n := 6, args := fun _ => [.ptr 0 0], boxes := fun a => [(0, 149, [.sl true 1 (a1l a.1), .int .i64 a.2])], pre := fun a => a.1.length <= 2000 /\ 0 <= a.2 /\ a.2 <= 1073741800, post := fun _ x => x.length <= 4, res := fun _ x => .str x, fin := fun a _ => [(0, a3s a.1 (a.2 + 1))], nob := false }
theorem b7i : Has Tryz.prog 212 b0F := by
 refine a0d mixed a0h (HasL.cons of_has HasL.nil) [0, 2] ((fun a n (_ : Nat) => (fun _ => a0r) a n)) [] Tryz.func212 (by unfold Tryz.f212; rfl) (fun _ => ⟨([] : Str), Nat.zero_le 4⟩) ?_
 intro a ha
 obtain ⟨s, p⟩ := a
 obtain ⟨h1, h2, h3⟩ : s.length <= 2000 /\ 0 <= p /\ p <= 1073741800 := ha
 simp -implicitDefEqProofs [b0F, cOf, tTab, a1S, clash, kd, a2l, a2D]
 exact ⟨s, p, ⟨rfl, rfl⟩, ⟨h1, by omega, by omega⟩, by simp⟩
def a7i (o : OpD) : Prop := (1 <= o.kind /\ o.kind <= 7) /\ o.branch.length <= 4 /\ o.who.length <= 3 /\ o.path.length <= 5 /\ o.to_.length <= 5 /\ (0 <= o.at_ /\ o.at_ <= 9) /\ o.text.length <= 8 /\ ∀ s ∈ o.text, s.length <= 7
def cOpD : Con := { A := Str × Int, X := OpD × Int, n := 63, args := fun _ => [.ptr 0 0], boxes := fun a => [(0, 149, [.sl true 1 (a1l a.1), .int .i64 a.2])], pre := fun a => a.1.length <= 2000 /\ 0 <= a.2 /\ a.2 <= 1073741500, post := fun a x => a7i x.1 /\ a.2 <= x.2 /\ x.2 <= a.2 + 20, res := fun _ x => .agg [.int .i64 x.1.kind, .str x.1.branch, .str x.1.who, .str x.1.path, .str x.1.to_, .int .i64 x.1.at_, .own 8 1 (a0a x.1.text)], fin := fun a x => (0, a3s a.1 x.2) :: a2h 8 x.1.text, nob := false }
theorem c6Z : Has Tryz.prog 190 cOpD := by
 refine a0d mixed a0h (HasL.cons b7i (HasL.cons of_has (HasL.cons a6t (HasL.cons c5i (HasL.cons c5L HasL.nil))))) [0, 2, 3, 11, 34, 42] ((fun a n (_ : Nat) => (fun _ => a0r) a n)) [] Tryz.func190 (by unfold Tryz.f190; rfl) (fun a => ⟨((⟨1, [], [], [], [], 0, []⟩ : OpD), a.2), (by simp -implicitDefEqProofs [a7i]), Int.le_refl _, by omega⟩) ?_
 intro a ha
 obtain ⟨s, p⟩ := a
 obtain ⟨h1, h2, h3⟩ : s.length <= 2000 /\ 0 <= p /\ p <= 1073741500 := ha
 simp (maxSteps := 8000000) -implicitDefEqProofs [-kStep_move, -Bool.exists_bool, cOpD, b0F, cOf, a7P, b9i, b9j, tTab, a1S, clash, kd, a2l, a2D]
 have fin : ∀ (k : Int) (b w pa t : Str) (i : Int) (q : Int), (1 <= k /\ k <= 7) -> b.length <= 4 -> w.length <= 3 -> pa.length <= 5 -> t.length <= 5 -> (0 <= i /\ i <= 9) -> (p <= q /\ q <= p + 20) -> ∃ (a : OpD) (c : Int), (a7i a /\ p <= c /\ c <= p + 20) /\ (a.kind = k /\ a.branch = b /\ a.who = w /\ a.path = pa /\ a.to_ = t /\ a.at_ = i /\ a.text = []) /\ (s = s /\ c = q) /\ a.text = [] :=
  fun k b w pa t i q h1 h2 h3 h4 h5 h6 h7 => ⟨⟨k, b, w, pa, t, i, []⟩, q, ⟨⟨h1, h2, h3, h4, h5, h6, Nat.zero_le _, by simp⟩, h7⟩, ⟨rfl, rfl, rfl, rfl, rfl, rfl, rfl⟩, ⟨rfl, rfl⟩, rfl⟩
 have fin2 : ∀ (k : Int) (b w pa t : Str) (i : Int) (l : List Str) (q : Int), (1 <= k /\ k <= 7) -> b.length <= 4 -> w.length <= 3 -> pa.length <= 5 -> t.length <= 5 -> (0 <= i /\ i <= 9) -> (l.length <= 8) -> (∀ s ∈ l, s.length <= 7) -> (p <= q /\ q <= p + 20) -> ∃ (a : OpD) (c : Int), (a7i a /\ p <= c /\ c <= p + 20) /\ (a.kind = k /\ a.branch = b /\ a.who = w /\ a.path = pa /\ a.to_ = t /\ a.at_ = i /\ a.text = l) /\ (s = s /\ c = q) /\ l = a.text :=
  fun k b w pa t i l q h1 h2 h3 h4 h5 h6 g1 g2 h7 => ⟨⟨k, b, w, pa, t, i, l⟩, q, ⟨⟨h1, h2, h3, h4, h5, h6, g1, g2⟩, h7⟩, ⟨rfl, rfl, rfl, rfl, rfl, rfl, rfl⟩, ⟨rfl, rfl⟩, rfl⟩
 repeat' (first
  | intro _
  | refine ⟨_, _, ⟨rfl, rfl⟩, ⟨h1, by omega, by omega⟩, ?_⟩
  | exact fin _ _ _ _ _ _ _ (by omega) (by first | assumption | omega | decide) (by first | assumption | omega | decide) (by first | assumption | omega | decide) (by first | assumption | omega | decide) (by omega) (by omega)
  | exact fin2 _ _ _ _ _ _ _ _ (by omega) (by first | assumption | omega | decide) (by first | assumption | omega | decide) (by first | assumption | omega | decide) (by first | assumption | omega | decide) (by omega) (by assumption) (by assumption) (by omega)
  | apply And.intro)
def b9h : Con := { A := Str × Int, X := List OpD × Int, n := 19, args := fun _ => [.ptr 0 0], boxes := fun a => [(0, 149, [.sl true 1 (a1l a.1), .int .i64 a.2])], pre := fun a => a.1.length <= 2000 /\ 0 <= a.2 /\ a.2 <= 1073741000, post := fun a x => (x.1.length <= 20 /\ ∀ o ∈ x.1, a7i o) /\ a.2 <= x.2 /\ x.2 <= a.2 + 450, res := fun _ x => .own 8 7 (eOps x.1), fin := fun a x => [(0, a3s a.1 x.2), (8, .own 204 7 true (eOps x.1))], nob := false }
theorem c5a : Has Tryz.prog 163 b9h := by
 refine a0d mixed a0h (HasL.cons one_has (HasL.cons c6Z HasL.nil)) [0, 2, 3, 4] ((fun a n (_ : Nat) => (fun a _ => ⟨List OpD × Int × Nat, fun t => ⟨[(0, true, .ptr 0 0), (2, true, .nil), (3, true, .own 9 7 (eOps t.1)), (4, true, .int .i64 t.2.2)], [(0, a3s a.1 t.2.1), (9, .own 204 7 true (eOps t.1))]⟩, fun t => t.1.length + t.2.2 <= 20 /\ (∀ o ∈ t.1, a7i o) /\ a.2 <= t.2.1 /\ t.2.1 + 20 * t.2.2 <= a.2 + 450, fun t => t.2.2⟩) a n)) [] Tryz.func163 (by unfold Tryz.f163; rfl) (fun a => ⟨(([] : List OpD), a.2), ⟨Nat.zero_le _, by simp⟩, Int.le_refl _, by omega⟩) ?_
 intro a ha
 obtain ⟨s, p⟩ := a
 obtain ⟨h1, h2, h3⟩ : s.length <= 2000 /\ 0 <= p /\ p <= 1073741000 := ha
 simp (maxSteps := 8000000) -implicitDefEqProofs [-kStep_move, -Bool.exists_bool, b9h, cOne, cOpD, tTab, a1S, clash, kd, a2l, a2D]
 refine ⟨s, p, [0, 3, 8, 14, 20], rfl, ⟨rfl, rfl⟩, ⟨h1, by omega, by omega, by simp, by simp⟩, fun y hy => ?_⟩
 have hy := hy (by simp)
 have hy2 : 0 <= y /\ y <= 20 := by simp only [List.mem_cons, List.not_mem_nil, or_false] at hy; omega
 refine ⟨⟨[], p + 1, y.toNat, ⟨⟨rfl, by omega⟩, ⟨rfl, rfl⟩, rfl⟩, by simp; omega, by simp, by omega, by omega⟩, fun a q b ga gb gc gd => ⟨fun hb => ⟨s, q, ⟨rfl, rfl⟩, ⟨h1, by omega, by omega⟩, fun o q2 ho g1 g2 => ⟨⟨by omega, by omega⟩, ⟨by omega, by omega⟩, fun _ _ => ⟨a ++ [o], q2, b - 1, ⟨⟨(b3J _ _ _ _ _ _ _ _).symm, by omega⟩, ⟨rfl, rfl⟩, b3J _ _ _ _ _ _ _ _⟩, ⟨by simp; omega, fun x hx => ?_, by omega, by omega⟩, by omega⟩⟩⟩, fun hb => ⟨a, q, ⟨⟨by omega, gb⟩, by omega, by omega⟩, rfl, rfl, rfl⟩⟩⟩
 rcases List.mem_append.1 hx with hx | hx
 ·exact gb x hx
 ·simp at hx; subst hx; exact ho
def b5v : Con := { A := Str × Int, X := RepoD × Int, n := 7, args := fun _ => [.ptr 0 0], boxes := fun a => [(0, 149, [.sl true 1 (a1l a.1), .int .i64 a.2])], pre := fun a => a.1.length <= 2000 /\ 0 <= a.2 /\ a.2 <= 1073740000, post := fun a x => plR x.1 /\ a.2 <= x.2 /\ x.2 <= a.2 + 450, res := fun _ x => .agg [.own 8 3 (a0i x.1.commits), .own 9 2 (a0c x.1.heads)], fin := fun a x => (0, a3s a.1 x.2) :: (a2z 8 x.1.commits ++ a2E 9 x.1.heads), nob := false }
theorem c2X : Has Tryz.prog 133 b5v := by
 refine a0d mixed a0h (HasL.cons c5a (HasL.cons b4x (HasL.cons a3o HasL.nil))) [0, 2] ((fun a n (_ : Nat) => (fun _ => a0r) a n)) [] Tryz.func133 (by unfold Tryz.f133; rfl) (fun a => ⟨(noR, a.2), a7t, Int.le_refl _, by omega⟩) ?_
 intro a ha
 obtain ⟨s, p⟩ := a
 obtain ⟨h1, h2, h3⟩ : s.length <= 2000 /\ 0 <= p /\ p <= 1073740000 := ha
 simp (maxSteps := 8000000) -implicitDefEqProofs [-kStep_move, -Bool.exists_bool, b5v, b9h, a7S, a4a, Con.fn, tTab, a1S, clash, kd, a2l, a2D]
 refine ⟨s, p, ⟨rfl, rfl⟩, ⟨h1, by omega, by omega⟩, fun l q g1 g2 g3 g4 => ⟨fun o ho => ?_, a8p (b1l _).1, b2u l, q, ⟨b1l _, by omega, by omega⟩, ⟨rfl, rfl⟩, ⟨rfl, rfl⟩, rfl, rfl⟩⟩
 obtain ⟨_, _, _, k1, k2, _, k3, _⟩ := g2 o ho
 exact ⟨by omega, by omega, by omega⟩
def a4N (r : RepoD) : Prop := r.commits.length <= 16 /\ r.heads.length <= 100 /\ ∀ c ∈ r.commits, c.parents.length <= 2 /\ a0S c.tree = true /\ c.who.length <= 6
theorem a3R {r : RepoD} (h : plR r) : a4N r := by
 obtain ⟨h1, h2, h3⟩ := (a0T r).1 h.1
 refine ⟨h3, by have := ((a2b _ _).1 h2).1; omega, fun c hc => ?_⟩
 obtain ⟨i, hi, rfl⟩ := List.getElem_of_mem hc
 have h4 := h1 i hi
 have e : r.commits.getD i default = r.commits[i] := by simp -implicitDefEqProofs [List.getD_eq_getElem?_getD, hi]
 unfold okCS okS1 at h4
 rw [e] at h4
 simp only [Bool.and_eq_true, decide_eq_true_eq, a0Q] at h4
 exact ⟨h4.2.1.1, h4.2.2, h4.2.1.2.1.2⟩
def a6v : Con := { A := Str × Int, X := RepoD × Int, n := 46, args := fun _ => [.ptr 0 0], boxes := fun a => [(0, 149, [.sl true 1 (a1l a.1), .int .i64 a.2])], pre := fun a => a.1.length <= 2000 /\ 0 <= a.2 /\ a.2 <= 1073739000, post := fun a x => a4N x.1 /\ a.2 <= x.2 /\ x.2 <= a.2 + 500, res := fun _ x => .agg [.sl false 3 (a0i x.1.commits), .sl false 2 (a0c x.1.heads)], fin := fun a x => [(0, a3s a.1 x.2)], nob := false }
theorem a8I : Has Tryz.prog 87 a6v := by
 refine a0d mixed a0h (HasL.cons c2X (HasL.cons a6t HasL.nil)) [0, 2, 3, 4, 17] ((fun a n (_ : Nat) => (fun _ => a0r) a n)) [] Tryz.func87 (by unfold Tryz.f87; rfl) (fun a => ⟨(noR, a.2), a3R a7t, Int.le_refl _, by omega⟩) ?_
 intro a ha
 obtain ⟨s, p⟩ := a
 obtain ⟨h1, h2, h3⟩ : s.length <= 2000 /\ 0 <= p /\ p <= 1073739000 := ha
 simp (maxSteps := 8000000) -implicitDefEqProofs [-kStep_move, -Bool.exists_bool, a6v, b5v, a7P, tTab, a1S, clash, kd, a2l, a2D]
 refine ⟨s, p, ⟨rfl, rfl⟩, ⟨h1, by omega, by omega⟩, fun r q hr g1 g2 _ => ⟨fun hp _ => ⟨s, q, ⟨rfl, rfl⟩, ⟨h1, by omega, by omega, ?_⟩, fun y _ hy => ⟨s, q + 1, ⟨rfl, rfl⟩, ⟨h1, by omega, by omega⟩, fun z hz0 hz1 => ?_⟩⟩, fun _ => ⟨r, q, ⟨a3R hr, by omega, by omega⟩, ⟨rfl, rfl⟩, rfl, rfl⟩⟩⟩
 ·have := (a3R hr).1; omega
 obtain ⟨k1, k2⟩ := hy (by omega)
 have hk : y.toNat < r.commits.length := by omega
 have e : Option.map a0k r.commits[y.toNat]? = some (a0k r.commits[y.toNat]) := by simp -implicitDefEqProofs [hk]
 have hd := a3R hr
 have hh : 0 < r.heads.length := List.length_pos_iff.2 (hr.2 (by intro h; rw [h] at hp; simp at hp))
 have e2 : Option.map a1f r.heads[0]? = some (a1f r.heads[0]) := by simp -implicitDefEqProofs [hh]
 have ds : ∀ c : CommitD, (c.parents.length <= 2 /\ a0S c.tree = true /\ c.who.length <= 6) -> a4N ⟨r.commits.set y.toNat c, r.heads⟩ := fun c hc => ⟨by simp; exact hd.1, hd.2.1, fun x hx => (List.mem_or_eq_of_mem_set hx).elim (hd.2.2 x) fun h => h ▸ hc⟩
 have dc := hd.2.2 _ (List.getElem_mem hk)
 have dh : a4N ⟨r.commits, r.heads ++ [r.heads[0]]⟩ := ⟨hd.1, by have := ((a2b _ _).1 ((a0T r).1 hr.1).2.1).1; simp; omega, hd.2.2⟩
 simp only [e, e2]
 simp -implicitDefEqProofs [a0k, a1f, D.asStr, D.asInt, hk, k1, k2, hh]
 have hl : r.heads.length <= 100 := hd.2.1
 have hA : p <= q + 1 + 1 /\ q + 1 + 1 <= p + 500 := ⟨by omega, by omega⟩
 have es : ∀ c : CommitD, a0i (r.commits.set y.toNat c) = (a0i r.commits).set y.toNat (a0k c) := fun c => by simp -implicitDefEqProofs [a0i, List.map_set]
 exact ⟨fun _ => ⟨_, ⟨ds ⟨[y], r.commits[y.toNat].who, r.commits[y.toNat].tree⟩ ⟨by simp, dc.2⟩, hA⟩, es _, rfl⟩, fun _ => ⟨fun _ => ⟨_, ⟨ds ⟨r.commits[y.toNat].parents, [], r.commits[y.toNat].tree⟩ ⟨dc.1, dc.2.1, Nat.zero_le _⟩, hA⟩, es _, rfl⟩, fun _ => ⟨fun _ => ⟨⟨by omega, by omega⟩, _, ⟨dh, hA⟩, rfl, by simp -implicitDefEqProofs [a0c, a1f]⟩, fun _ => ⟨r, ⟨hd, hA⟩, rfl, rfl⟩⟩⟩⟩
def cAtD : Con := { A := (Str × Int) × RepoD, X := Int, n := 19, args := fun a => [.ptr 0 0, a0V a.2], boxes := fun a => [(0, 149, [.sl true 1 (a1l a.1.1), .int .i64 a.1.2])], pre := fun a => (a.1.1.length <= 2000 /\ 0 <= a.1.2 /\ a.1.2 <= 1073740000) /\ a.2.commits.length <= 1000, post := fun a x => -1 <= x /\ x <= a.2.commits.length, res := fun _ x => .int .i64 x, fin := fun a _ => [(0, a3s a.1.1 (a.1.2 + 2))], nob := false, bty := [149] }
theorem b8d : Has Tryz.prog 89 cAtD := by
 refine a0d mixed a0h (HasL.cons a6t (HasL.cons one_has HasL.nil)) [0, 1, 3, 4] ((fun a n (_ : Nat) => (fun _ => a0r) a n)) [] Tryz.func89 (by unfold Tryz.f89; rfl) (fun a => ⟨(0 : Int), by omega, by omega⟩) ?_ (hbt := .inr fun a => ⟨fun b hb => (by simp only [cAtD, List.mem_cons, List.not_mem_nil, or_false] at hb; subst hb; simp -implicitDefEqProofs [cAtD]), fun x p hp ty vs e => (by simp only [cAtD, List.mem_cons, List.not_mem_nil, or_false] at hp; subst hp; cases e; simp -implicitDefEqProofs [cAtD])⟩)
 intro a ha
 obtain ⟨⟨s, p⟩, r⟩ := a
 obtain ⟨⟨h1, h2, h3⟩, h4⟩ : (s.length <= 2000 /\ 0 <= p /\ p <= 1073740000) /\ r.commits.length <= 1000 := ha
 simp (maxSteps := 8000000) -implicitDefEqProofs [-kStep_move, -Bool.exists_bool, cAtD, a7P, cOne, tTab, a1S, clash, kd, a2l, a2D, a0q]
 refine ⟨s, p, ⟨rfl, rfl⟩, ⟨h1, by omega, by omega⟩, fun y _ _ => ⟨fun _ _ => ⟨s, p + 1, [-1, r.commits.length], rfl, ⟨rfl, rfl⟩, ⟨h1, by omega, by omega, by simp, by simp⟩, fun z hz => ⟨z, ?_, rfl, rfl, by omega⟩⟩, fun _ _ => ⟨s, p + 1, ⟨rfl, rfl⟩, ⟨h1, by omega, by omega, by omega⟩, fun z hz1 hz2 => ⟨z, by omega, rfl, rfl, by omega⟩⟩⟩⟩
 have hz := hz (by simp)
 simp only [List.mem_cons, List.not_mem_nil, or_false] at hz
 omega
def cOfB : Con := { cOf with bty := [149] }
theorem b8y : Has Tryz.prog 88 cOfB :=
 ⟨of_has.enter, of_has.tot, of_has.nob, fun a h c hk vs β fp h1 h2 h3 h4 S => of_has.calls a h c hk vs β fp h1 h2 h3 h4 S, of_has.bldr,
  .inr fun a => ⟨fun b hb => (by simp only [cOfB, cOfB, cOf, List.mem_cons, List.not_mem_nil, or_false] at hb; subst hb; simp -implicitDefEqProofs [cOfB]), fun x p hp ty vs e => (by simp only [cOfB, cOfB, cOf, List.mem_cons, List.not_mem_nil, or_false] at hp; subst hp; cases e; simp -implicitDefEqProofs [cOfB])⟩⟩
def a3Z : Con := { A := Str, X := RepoD × Str × Str × Int, n := 22, args := fun s => [.sl true 1 (a1l s)], boxes := fun _ => [], pre := fun _ => True, post := fun _ x => a4N x.1, res := fun _ x => .tup [.agg [.sl false 3 (a0i x.1.commits), .sl false 2 (a0c x.1.heads)], .str x.2.1, .str x.2.2.1, .int .i64 x.2.2.2], fin := fun _ _ => [] }
theorem a5H : Has Tryz.prog 33 a3Z := by
 refine a0d mixed a0h (HasL.cons b0q (HasL.cons a8I (HasL.cons b8y (HasL.cons b8d HasL.nil)))) [0, 2, 3, 4, 5, 6, 7] ((fun a n (_ : Nat) => (fun _ => a0r) a n)) [8191, 12287] Tryz.func33 (by unfold Tryz.f33; rfl) (fun _ => ⟨(noR, [], [], 0), a3R a7t⟩) ?_
 intro (s : Str) _
 simp (maxSteps := 8000000) -implicitDefEqProofs [-kStep_move, -Bool.exists_bool, a3Z, a7M, a6v, cOfB, cOf, cAtD, tTab, Con.fn, a1S, clash, kd, a2l, a2D]
 have hl : (s.take 2000).length <= 2000 := by simp; omega
 refine ⟨_, _, ⟨rfl, rfl⟩, ⟨hl, by omega, by omega⟩, fun r p g1 g2 g3 => ⟨_, _, ⟨rfl, rfl⟩, ⟨hl, by omega, by omega⟩, _, _, ⟨rfl, rfl⟩, ⟨hl, by omega, by omega⟩, _, _, ⟨rfl, rfl⟩, ⟨⟨hl, by omega, by omega⟩, by have := g1.1; omega⟩, fun y _ _ => ⟨r, g1, rfl, rfl⟩⟩⟩
def a6Q : Con := { A := Str, X := RepoD × Str × Str × Int, n := 12, args := fun s => [.sl true 1 (a1l s)], boxes := fun _ => [], pre := fun _ => True, post := fun _ x => a4N x.1, res := fun _ x => .tup [.agg [.sl false 3 (a0i x.1.commits), .sl false 2 (a0c x.1.heads)], .str x.2.1, .str x.2.2.1, .int .i64 x.2.2.2], fin := fun _ _ => [] }
theorem b3c : Has Tryz.prog 46 a6Q := by
 refine a0d mixed a0h (HasL.cons a5H HasL.nil) [0, 2, 3, 4, 5] ((fun a n (_ : Nat) => (fun _ => a0r) a n)) [] Tryz.func46 (by unfold Tryz.f46; rfl) (fun _ => ⟨(noR, [], [], 0), a3R a7t⟩) ?_
 intro (s : Str) _
 simp (maxSteps := 8000000) -implicitDefEqProofs [-kStep_move, -Bool.exists_bool, a6Q, a3Z, tTab, Con.fn]
 exact fun r h => ⟨r, h, rfl, rfl⟩
def a5F : Con := { A := Str, X := RepoD × Str × Int, n := 18, args := fun s => [.sl true 1 (a1l s)], boxes := fun _ => [], pre := fun _ => True, post := fun _ x => a4N x.1, res := fun _ x => .tup [.agg [.sl false 3 (a0i x.1.commits), .sl false 2 (a0c x.1.heads)], .str x.2.1, .int .i64 x.2.2], fin := fun _ _ => [] }
theorem b0V : Has Tryz.prog 49 a5F := by
 refine a0d mixed a0h (HasL.cons b0q (HasL.cons a8I (HasL.cons b8y (HasL.cons b8d HasL.nil)))) [0, 2, 3, 4, 5, 6] ((fun a n (_ : Nat) => (fun _ => a0r) a n)) [8191, 12287] Tryz.func49 (by unfold Tryz.f49; rfl) (fun _ => ⟨(noR, [], 0), a3R a7t⟩) ?_
 intro (s : Str) _
 simp (maxSteps := 8000000) -implicitDefEqProofs [-kStep_move, -Bool.exists_bool, a5F, a7M, a6v, cOfB, cOf, cAtD, tTab, Con.fn, a1S, clash, kd, a2l, a2D]
 have hl : (s.take 2000).length <= 2000 := by simp; omega
 refine ⟨_, _, ⟨rfl, rfl⟩, ⟨hl, by omega, by omega⟩, fun r p g1 g2 g3 => ⟨_, _, ⟨rfl, rfl⟩, ⟨hl, by omega, by omega⟩, _, _, ⟨rfl, rfl⟩, ⟨⟨hl, by omega, by omega⟩, by have := g1.1; omega⟩, fun y _ _ => ⟨r, g1, rfl, rfl⟩⟩⟩
theorem Uni.ok {r : RepoD} {n w : Str} {b : Int} {X : RepoD × Int} (h : a0j r = true) (hu : Uni r n w b X) : a0j X.1 = true := by
 cases hu with
 | form => exact h
 | same _ _ _ _ _ => exact h
 | on _ _ _ _ _ _ hr => exact hr
 | clash _ _ _ _ _ => exact h
 | full => exact h
 | made _ _ _ _ _ _ _ _ hr => exact hr
theorem Uni.keeps {r : RepoD} {n w : Str} {b : Int} {X : RepoD × Int} (hu : Uni r n w b X) : r.commits <+: X.1.commits := by
 cases hu with
 | made t _ _ _ _ _ _ _ _ => exact ⟨[⟨[atL r.heads n, b], w, t⟩], rfl⟩
 | _ => exact List.prefix_refl _
theorem Uni.other {r : RepoD} {n w m : Str} {b : Int} {X : RepoD × Int} (h : a0j r = true) (hu : Uni r n w b X) (hm : ¬ n = m) : atL X.1.heads m = atL r.heads m := by
 have hH := ((a0T r).1 h).2.1
 cases hu with
 | on _ _ _ _ _ _ _ =>
  show atL (hSet r.heads n b) m = _
  rw [a5f hH, if_neg hm]
 | made t _ _ _ _ _ _ _ _ => rw [a4q h, if_neg hm]
 | _ => rfl
def Came (r : RepoD) (n : Str) (z : Nat) : Prop := 0 <= atL r.heads n /\ Rch r (atL r.heads n).toNat z
theorem Uni.came {r : RepoD} {n w : Str} {b : Int} {X : RepoD × Int} {z : Nat} (h : a0j r = true) (hu : Uni r n w b X) (hz : Came r n z) : Came X.1 n z := by
 have hH := ((a0T r).1 h).2.1
 have hp := a5D h
 cases hu with
 | on h1 h2 h3 h4 h5 h6 h7 =>
  have e : atL (hSet r.heads n b) n = b := by rw [a5f hH, if_pos rfl]
  refine ⟨by show 0 <= atL (hSet r.heads n b) n; rw [e]; exact h3, ?_⟩
  show Rch ⟨r.commits, hSet r.heads n b⟩ (atL (hSet r.heads n b) n).toNat z
  rw [e]
  have := (Rch.more (cs := []) (hs := hSet r.heads n b) hp (a := b.toNat) (x := z) (by omega)).2 (h6.trans hz.2)
  simpa using this
 | made t h1 h2 h3 h4 h5 h6 h7 h8 =>
  have e : atL (addR r n ⟨[atL r.heads n, b], w, t⟩).heads n = r.commits.length := by rw [a4q h, if_pos rfl]
  have e2 : ((r.commits.length : Int)).toNat = r.commits.length := by omega
  refine ⟨by rw [e]; omega, ?_⟩
  rw [e, e2]
  have q := b0x (r := r) n ⟨[atL r.heads n, b], w, t⟩ (p := atL r.heads n) (by simp)
  exact q.trans ((Rch.more (cs := [⟨[atL r.heads n, b], w, t⟩]) (hs := hSet r.heads n r.commits.length) hp (a := (atL r.heads n).toNat) (x := z) (by omega)).2 hz.2)
 | _ => exact hz
theorem Uni.got {r : RepoD} {n w : Str} {b : Int} {X : RepoD × Int} (h : a0j r = true) (hu : Uni r n w b X) (hc : X.2 = 0 \/ X.2 = 3 \/ X.2 = 2) : (0 <= b /\ b < r.commits.length) /\ Came X.1 n b.toNat := by
 have hH := ((a0T r).1 h).2.1
 cases hu with
 | form => simp at hc
 | same h1 h2 h3 h4 h5 => exact ⟨⟨h3, h4⟩, h1, h5⟩
 | on h1 h2 h3 h4 h5 h6 h7 =>
  have e : atL (hSet r.heads n b) n = b := by rw [a5f hH, if_pos rfl]
  refine ⟨⟨h3, h4⟩, by show 0 <= atL (hSet r.heads n b) n; rw [e]; exact h3, ?_⟩
  show Rch ⟨r.commits, hSet r.heads n b⟩ (atL (hSet r.heads n b) n).toNat b.toNat
  rw [e]; exact .refl
 | clash => simp at hc
 | full => simp at hc
 | made t h1 h2 h3 h4 h5 h6 h7 h8 =>
  have e : atL (addR r n ⟨[atL r.heads n, b], w, t⟩).heads n = r.commits.length := by rw [a4q h, if_pos rfl]
  have e2 : ((r.commits.length : Int)).toNat = r.commits.length := by omega
  refine ⟨⟨h3, h4⟩, by rw [e]; omega, ?_⟩
  rw [e, e2]
  exact b0x (r := r) n ⟨[atL r.heads n, b], w, t⟩ (p := b) (by simp)
structure Onto (r : RepoD) (n : Str) (a : Int) (x : RepoD) : Prop where
 ok : a0j x = true
 keeps : r.commits <+: x.commits
 came : Came x n a.toNat
theorem b2m {r : RepoD} (h : a0j r = true) {n : Str} {a : Int} (hn : 0 <= atL r.heads n) (ha : 0 <= a /\ a < r.commits.length) : Onto r n a ⟨r.commits, hSet r.heads n a⟩ := by
 have hH := ((a0T r).1 h).2.1
 have e : atL (hSet r.heads n a) n = a := by rw [a5f hH, if_pos rfl]
 refine ⟨a6W h hn ha, List.prefix_refl _, ?_, ?_⟩
 ·show 0 <= atL (hSet r.heads n a) n; omega
 ·show Rch _ (atL (hSet r.heads n a) n).toNat _
  rw [e]; exact .refl
theorem c2P {x : RepoD} {n w : Str} {o b : List FileD} (hc : (a1e x n w o b).2 = 0) : ∃ t, (a1e x n w o b).1 = addR x n ⟨[atL x.heads n], w, t⟩ /\ a0j (addR x n ⟨[atL x.heads n], w, t⟩) = true := by
 unfold a1e at hc ⊢
 by_cases hj : (a1b o (a0e x (atL x.heads n)) b).2 = []
 ·rw [if_pos hj] at hc ⊢
  by_cases hr : a0j (addR x n ⟨[atL x.heads n], w, (a1b o (a0e x (atL x.heads n)) b).1⟩) = true
  ·rw [if_pos hr]; exact ⟨_, rfl, hr⟩
  ·rw [if_neg hr] at hc; simp at hc
 ·rw [if_neg hj] at hc; simp at hc
theorem c2C {r x : RepoD} {n w : Str} {a : Int} {o b : List FileD} (h : Onto r n a x) (hc : (a1e x n w o b).2 = 0) :
  Onto r n a (a1e x n w o b).1 /\ (a1e x n w o b).1.commits.length = x.commits.length + 1 := by
 obtain ⟨t, e, hr⟩ := c2P hc
 rw [e]
 have hp := a5D h.ok
 have ea : atL (addR x n ⟨[atL x.heads n], w, t⟩).heads n = x.commits.length := by rw [a4q h.ok, if_pos rfl]
 have e2 : ((x.commits.length : Int)).toNat = x.commits.length := by omega
 have hI : a0l x = true := by rw [a0D]; exact h.ok
 have h0 := h.came.1
 have hlt := a4H hI h0
 refine ⟨⟨hr, h.keeps.trans (List.prefix_append _ _), by rw [ea]; omega, ?_⟩, by simp [addR]⟩
 rw [ea, e2]
 have q := b0x (r := x) n ⟨[atL x.heads n], w, t⟩ (p := atL x.heads n) (by simp)
 exact q.trans ((Rch.more (cs := [⟨[atL x.heads n], w, t⟩]) (hs := hSet x.heads n x.commits.length) hp (a := (atL x.heads n).toNat) (x := a.toNat) (by omega)).2 h.came.2)
def a2e (r : RepoD) (l : List Int) : Nat := (l.filter fun i => decide ((r.commits.getD i.toNat default).parents.length < 2)).length
theorem b1e {r : RepoD} {n : Str} {a : Int} : ∀ (l : List Int) {x : RepoD}, Onto r n a x -> (a3q r n l x).2 = 0 ->
  Onto r n a (a3q r n l x).1 /\ (a3q r n l x).1.commits.length = x.commits.length + a2e r l /\ (a2e r l = 0 -> (a3q r n l x).1 = x)
 | [], x, h, _ => ⟨h, rfl, fun _ => rfl⟩
 | i :: l, x, h, hc => by
  have e := a8i (r := r) (x := x) (n := n) (l := i :: l) (k := 0) (by simp)
  simp only [List.drop_zero, List.getElem_cons_zero, List.drop_succ_cons] at e
  rw [e] at hc ⊢
  by_cases h1 : 1 < (r.commits.getD i.toNat default).parents.length
  ·rw [if_pos h1] at hc ⊢
   have ht : a2e r (i :: l) = a2e r l := by unfold a2e; rw [List.filter_cons, if_neg (by simp only [decide_eq_true_eq]; omega)]
   rw [ht]
   exact b1e l h hc
  ·rw [if_neg h1] at hc ⊢
   have ht : a2e r (i :: l) = a2e r l + 1 := by unfold a2e; rw [List.filter_cons, if_pos (by simp only [decide_eq_true_eq]; omega)]; rfl
   by_cases h2 : (a1e x n (r.commits.getD i.toNat default).who (a1h x i) (a0e x i)).2 = 0
   ·rw [if_pos h2] at hc ⊢
    obtain ⟨k1, k2⟩ := c2C h h2
    obtain ⟨k3, k4, k5⟩ := b1e l k1 hc
    exact ⟨k3, by rw [k4, k2, ht]; omega, fun q => by omega⟩
   ·rw [if_neg h2] at hc; exact absurd hc h2
theorem b1f {r : RepoD} {n : Str} : ∀ (l : List Int) {x : RepoD}, ¬ (a3q r n l x).2 = 0 -> (a3q r n l x).1 = r
 | [], x, hc => absurd rfl hc
 | i :: l, x, hc => by
  have e := a8i (r := r) (x := x) (n := n) (l := i :: l) (k := 0) (by simp)
  simp only [List.drop_zero, List.getElem_cons_zero, List.drop_succ_cons] at e
  rw [e] at hc ⊢
  by_cases h1 : 1 < (r.commits.getD i.toNat default).parents.length
  ·rw [if_pos h1] at hc ⊢; exact b1f l hc
  ·rw [if_neg h1] at hc ⊢
   by_cases h2 : (a1e x n (r.commits.getD i.toNat default).who (a1h x i) (a0e x i)).2 = 0
   ·rw [if_pos h2] at hc ⊢; exact b1f l hc
   ·rw [if_neg h2]
theorem c0p {r : RepoD} (h : a0j r = true) {n w : Str} {c : Int} (hc : (a0U false r n w c).2 = 0) {ps : List Int} (hp : (r.commits.getD c.toNat default).parents = atL r.heads n :: ps) :
  (a0j (a0U false r n w c).1 = true /\ 0 <= atL (a0U false r n w c).1.heads n /\ atL (a0U false r n w c).1.heads n < (a0U false r n w c).1.commits.length /\ a0e (a0U false r n w c).1 (atL (a0U false r n w c).1.heads n) = a0e r c) /\
  (a0u r n w c).2 = 3 /\ a0j (a0u r n w c).1 = true /\ (0 <= c /\ c < (a0u r n w c).1.commits.length) /\ atL (a0u r n w c).1.heads n = c /\ a0e (a0u r n w c).1 c = a0e r c := by
 have hI : a0l r = true := by rw [a0D]; exact h
 have hH := ((a0T r).1 h).2.1
 by_cases hx : atL r.heads n < 0 \/ a0Q w = false \/ ¬ (0 <= c /\ c < r.commits.length)
 ·rw [pS_1 hI hx] at hc; simp at hc
 have h1 : 0 <= atL r.heads n := by
  rcases Int.lt_or_le (atL r.heads n) 0 with q | q
  ·exact absurd (.inl q) hx
  ·exact q
 have h2 : a0Q w = true := by
  cases q : a0Q w with
  | true => rfl
  | false => exact absurd (.inr (.inl q)) hx
 have h3 : 0 <= c /\ c < r.commits.length := by
  rcases Classical.em (0 <= c /\ c < (r.commits.length : Int)) with q | q
  ·exact q
  ·exact absurd (.inr (.inr q)) hx
 have hpar := a5D h
 have hi : c.toNat < r.commits.length := by omega
 have hg : r.commits.getD c.toNat default = r.commits[c.toNat] := by simp [List.getD_eq_getElem?_getD, hi]
 have hlt : atL r.heads n < c := by
  have := (a1O hI hi).2.1 (atL r.heads n) (by rw [<- hg, hp]; simp)
  omega
 refine ⟨?_, ?_⟩
 ·rw [c0j hI h1 h2 h3] at hc ⊢
  have e : a1h r c = a0e r (atL r.heads n) := by unfold a1h; rw [hp]
  have ej : a1b (a0e r (atL r.heads n)) (a0e r (atL r.heads n)) (a0e r c) = (a0e r c, []) := c6O (a1C hI h3)
  simp only [Bool.false_eq_true, if_false] at hc ⊢
  unfold a1e at hc ⊢
  rw [e, ej] at hc ⊢
  simp only [if_true] at hc ⊢
  by_cases hr : a0j (addR r n ⟨[atL r.heads n], w, a0e r c⟩) = true
  ·rw [if_pos hr]
   refine ⟨hr, ?_⟩
   rw [a4q h, if_pos rfl]
   exact ⟨by omega, by simp [addR]; omega, b2C _ _ _⟩
  ·rw [if_neg hr] at hc; simp at hc
 ·have ec : (c.toNat : Int) = c := by omega
  have ea : ((atL r.heads n).toNat : Int) = atL r.heads n := by omega
  have hup : Rch r c.toNat (atL r.heads n).toNat := Rch.refl.step (p := atL r.heads n) (by rw [hp]; simp)
  have i5 := (a9I hpar (a := c.toNat) hi (atL r.heads n).toNat).2 hup
  rw [ec] at i5
  have i4 : isT (anc r (atL r.heads n)) c.toNat = false := by
   cases q : isT (anc r (atL r.heads n)) c.toNat with
   | false => rfl
   | true =>
    rw [<- ea] at q
    have := ((a9I hpar (a := (atL r.heads n).toNat) (by omega) c.toNat).1 q).le hpar
    omega
  rw [uS_3 hI h1 h2 h3 i4 i5, b2v hH]
  refine ⟨rfl, a6W h h1 h3, h3, ?_, rfl⟩
  show atL (hSet r.heads n c) n = c
  rw [a5f hH, if_pos rfl]
def a7T : Con := .fn 26 (List Str × List Str) (fun a => [.sl true 1 (a0a a.1), .sl true 1 (a0a a.2)]) (fun _ => True) (fun a => .bool (decide (a.1 = a.2))) (fun _ => [])
theorem b0v : Has Tryz.prog 20 a7T := by
 refine a0d mixed a0h HasL.nil [0, 1, 4, 5] ((fun a n (_ : Nat) => (fun a _ => ⟨Nat, fun i => ⟨[(0, true, .sl true 1 (a0a a.1)), (1, true, .sl true 1 (a0a a.2)), (4, true, .bool false), (5, true, .int .i64 i)], []⟩, fun i => a.1.length = a.2.length /\ i <= a.1.length /\ a.1.take i = a.2.take i, fun i => a.1.length - i⟩) a n)) [] Tryz.func20 (by unfold Tryz.f20; rfl) (fun _ => ⟨(), trivial⟩) ?_
 intro a _
 obtain ⟨l, m⟩ := a
 have k1 : ∀ i (h : i < l.length) (h' : i < m.length), l[i] = m[i] -> l.take i = m.take i -> l.take (i + 1) = m.take (i + 1) := fun i h h' e e2 => by rw [a0w h, a0w h', e, e2]
 have k2 : ∀ i, l.length = m.length -> l.length <= i -> l.take i = m.take i -> l = m := fun i h h' e => by rwa [List.take_of_length_le h', List.take_of_length_le (by omega)] at e
 have k3 : ∀ i (h : i < l.length) (h' : i < m.length), ¬ l[i] = m[i] -> ¬ l = m := fun i h h' e e2 => by subst e2; exact e rfl
 simp -implicitDefEqProofs [a7T, Con.fn, tTab]
 try dsimp only
 try simp +contextual -implicitDefEqProofs [eStr, a0z, a0M, a0W, a0N, List.getElem?_eq_getElem, a0O, a0F, a0J, a0E, <- a0o, <- a0p, a0v, a0C, a0B, a0A, a0y, a0t, and_assoc]
 repeat' (first | intro _ | apply And.intro)
 all_goals first | omega | grind [a1c]
def a9T : Con := .fn 42 (List FileD × List FileD) (fun a => [.sl true 2 (a0b a.1), .sl true 2 (a0b a.2)]) (fun _ => True) (fun a => .bool (decide (a.1 = a.2))) (fun _ => [])
theorem b2B : Has Tryz.prog 43 a9T := by
 refine a0d mixed a0h (HasL.cons b0v HasL.nil) [0, 1, 4, 5] ((fun a n (_ : Nat) => (fun a _ => ⟨Nat, fun i => ⟨[(0, true, .sl true 2 (a0b a.1)), (1, true, .sl true 2 (a0b a.2)), (4, true, .bool false), (5, true, .int .i64 i)], []⟩, fun i => a.1.length = a.2.length /\ i <= a.1.length /\ a.1.take i = a.2.take i, fun i => a.1.length - i⟩) a n)) [] Tryz.func43 (by unfold Tryz.f43; rfl) (fun _ => ⟨(), trivial⟩) ?_
 intro a _
 obtain ⟨l, m⟩ := a
 have k1 : ∀ i (h : i < l.length) (h' : i < m.length), l[i].path = m[i].path -> l[i].text = m[i].text -> l.take i = m.take i -> l.take (i + 1) = m.take (i + 1) := fun i h h' e e1 e2 => by rw [a0w h, a0w h', e2, show l[i] = m[i] by rw [FileD.eq_iff]; exact ⟨e, e1⟩]
 have k2 : ∀ i, l.length = m.length -> l.length <= i -> l.take i = m.take i -> l = m := fun i h h' e => by rwa [List.take_of_length_le h', List.take_of_length_le (by omega)] at e
 have k3 : ∀ i (h : i < l.length) (h' : i < m.length), ¬ l[i].path = m[i].path -> ¬ l = m := fun i h h' e e2 => by subst e2; exact e rfl
 have k4 : ∀ i (h : i < l.length) (h' : i < m.length), ¬ l[i].text = m[i].text -> ¬ l = m := fun i h h' e e2 => by subst e2; exact e rfl
 simp -implicitDefEqProofs [a9T, Con.fn, tTab, a7T]
 try dsimp only
 try simp +contextual -implicitDefEqProofs [eStr, a0z, a0M, a0W, a0N, List.getElem?_eq_getElem, a0O, a0F, a0J, a0E, <- a0o, <- a0p, a0v, a0C, a0B, a0A, a0y, a0t, and_assoc]
 repeat' (first | intro _ | apply And.intro)
 all_goals first | omega | grind [a1c]
def b3a : Con := .fn 26 (List Int × List Int) (fun a => [.sl true 1 (a0f a.1), .sl true 1 (a0f a.2)]) (fun _ => True) (fun a => .bool (decide (a.1 = a.2))) (fun _ => [])
theorem c0D : Has Tryz.prog 39 b3a := by
 refine a0d mixed a0h HasL.nil [0, 1, 4, 5] ((fun a n (_ : Nat) => (fun a _ => ⟨Nat, fun i => ⟨[(0, true, .sl true 1 (a0f a.1)), (1, true, .sl true 1 (a0f a.2)), (4, true, .bool false), (5, true, .int .i64 i)], []⟩, fun i => i <= a.1.length /\ a.1.length = a.2.length /\ a.1.take i = a.2.take i, fun i => a.1.length - i⟩) a n)) [] Tryz.func39 (by unfold Tryz.f39; rfl) (fun _ => ⟨(), trivial⟩) ?_
 intro a _
 obtain ⟨l, r⟩ := a
 simp -implicitDefEqProofs [b3a, Con.fn, tTab]
 try dsimp only
 try simp +contextual -implicitDefEqProofs [eStr, a0z, a0M, a0W, a0N, List.getElem?_eq_getElem, a0O, a0F, a0J, a0E, <- a0o, <- a0p, a0v, a0C, a0B, a0A, a0y, a0t, and_assoc, eInt]
 repeat' (first | intro _ | apply And.intro)
 all_goals first | omega | grind [a1c, a5V, a9a, eInt, D.asInt]
def a6z : Con := .fn 24 (CommitD × CommitD) (fun a => [.agg [.sl true 1 (a0f a.1.parents), .str a.1.who, .sl true 2 (a0b a.1.tree)], .agg [.sl true 1 (a0f a.2.parents), .str a.2.who, .sl true 2 (a0b a.2.tree)]]) (fun _ => True) (fun a => .bool (decide (a.1 = a.2))) (fun _ => [])
theorem a9w : Has Tryz.prog 94 a6z := by
 refine a0d mixed a0h (HasL.cons c0D (HasL.cons b2B HasL.nil)) [0, 1, 2, 3, 4] ((fun a n (_ : Nat) => (fun _ => a0r) a n)) [] Tryz.func94 (by unfold Tryz.f94; rfl) (fun _ => ⟨(), trivial⟩) ?_
 intro a _
 obtain ⟨c, d⟩ := a
 simp -implicitDefEqProofs [a6z, b3a, a9T, Con.fn, tTab, CommitD.eq_iff]
 try dsimp only
 refine ⟨fun h => ⟨_, _, ⟨rfl, rfl⟩, fun e => ⟨_, _, ⟨rfl, rfl⟩, by simp -implicitDefEqProofs [e, h]⟩, fun e h' => absurd h' e⟩, fun h _ h' => absurd h' h⟩
def smRA (r q : RepoD) : Inv := ⟨Nat, fun i => ⟨[(2, true, .ptr 10 0), (3, true, .ptr 11 0), (4, true, .bool false), (5, true, .int .i64 i)], [(10, a1z r), (11, a1z q)]⟩, fun i => i <= r.commits.length /\ (r.commits.length = q.commits.length /\ r.heads.length = q.heads.length) /\ r.commits.take i = q.commits.take i, fun i => r.commits.length - i⟩
def smRB (r q : RepoD) : Inv := ⟨Nat, fun i => ⟨[(2, true, .ptr 10 0), (3, true, .ptr 11 0), (4, true, .bool false), (6, true, .int .i64 i)], [(10, a1z r), (11, a1z q)]⟩, fun i => i <= r.heads.length /\ (r.commits = q.commits /\ r.heads.length = q.heads.length) /\ r.heads.take i = q.heads.take i, fun i => r.heads.length - i⟩
def b6K (r q : RepoD) (n g : Nat) : Inv := if n = 4 then smRA r q else smRB r q
theorem c5E (r q g) : b6K r q 4 g = smRA r q := rfl
theorem c5F (r q g) : b6K r q 9 g = smRB r q := rfl
theorem RepoD.eqs (a b : RepoD) : (a = b) = (a.commits = b.commits /\ a.heads = b.heads) := by cases a; cases b; simp
def a7e : Con := .fn 60 (RepoD × RepoD) (fun a => [a0V a.1, a0V a.2]) (fun _ => True) (fun a => .bool (decide (a.1 = a.2))) (fun _ => [])
theorem a8s : Has Tryz.prog 36 a7e := by
 refine a0d mixed a0h (HasL.cons a9w HasL.nil) [0, 1, 2, 3, 4, 5, 6] (fun a => b6K a.1 a.2) [] Tryz.func36 (by unfold Tryz.f36; rfl) (fun _ => ⟨(), trivial⟩) ?_
 intro a _
 obtain ⟨r, q⟩ := a
 simp (maxSteps := 8000000) -implicitDefEqProofs [-kStep_move, -kStepC_move, -Bool.exists_bool, a7e, a6z, Con.fn, tTab, c5E, c5F, smRA, smRB, a0q]
 try dsimp only
 refine fun _ _ _ _ => ⟨fun h e => by subst e; simp at h, fun e1 e2 => ⟨⟨by omega, by omega⟩, fun t ht g1 g2 g3 _ => ⟨fun hlt => ⟨hlt, fun _ => ?_⟩, fun hge => ?_⟩⟩⟩
 ·have hq : t < q.commits.length := by omega
  have qq1 : Option.map a0k r.commits[t]? = some (a0k r.commits[t]) := by simp -implicitDefEqProofs [hlt]
  have qq2 : Option.map a0k q.commits[t]? = some (a0k q.commits[t]) := by simp -implicitDefEqProofs [hq]
  have hst := a5V hlt hq g3
  rw [qq1, qq2]
  have hne : r.commits[t] ≠ q.commits[t] -> r ≠ q := fun h e => by subst e; exact h rfl
  generalize r.commits[t] = x at *
  generalize q.commits[t] = y at *
  simp -implicitDefEqProofs [a0k, D.asStr, D.asRows, hq]
  refine ⟨x, y, ⟨⟨rfl, rfl, rfl⟩, rfl, rfl, rfl⟩, hne, fun e => ⟨⟨by omega, by omega⟩, fun _ _ => ⟨t + 1, by omega, ⟨by omega, ⟨g1, g2⟩, hst e⟩, by omega⟩⟩⟩
 ·have ec : r.commits = q.commits := a9a g1 hge g3
  refine ⟨⟨ec, g2⟩, fun t ht _ _ g5 _ => ⟨fun hlt => ⟨hlt, fun _ => ?_⟩, fun hge => ?_⟩⟩
  ·have hq : t < q.heads.length := by omega
   have qq1 : Option.map a1f r.heads[t]? = some (a1f r.heads[t]) := by simp -implicitDefEqProofs [hlt]
   have qq2 : Option.map a1f q.heads[t]? = some (a1f q.heads[t]) := by simp -implicitDefEqProofs [hq]
   have hst := a5V hlt hq g5
   rw [qq1, qq2]
   have hne : r.heads[t] ≠ q.heads[t] -> r ≠ q := fun h e => by subst e; exact h rfl
   generalize r.heads[t] = x at *
   generalize q.heads[t] = y at *
   simp -implicitDefEqProofs [a1f, D.asStr, D.asInt, hq]
   refine ⟨fun h => hne (fun e => by subst e; simp at h), fun e1 e2 => ⟨⟨by omega, by omega⟩, fun _ _ => ⟨t + 1, by omega, ⟨by omega, ⟨ec, g2⟩, hst (by rw [HeadD.eq_iff]; exact ⟨e1, e2⟩)⟩, by omega⟩⟩⟩
  ·rw [RepoD.eqs]; exact ⟨ec, a9a g2 hge g5⟩
--TAB a0R
def a4g (r : RepoD) (n : Str) : Int := if a0l r then atL r.heads n else -1
def a7d : Con := .fn 11 (RepoD × Str) (fun a => [a0V a.1, .str a.2]) (fun a => a2a a.1) (fun a => .int .i64 (a4g a.1 a.2)) (fun _ => [])
theorem a8o : Has Tryz.prog 37 a7d := by
 refine a0d mixed a0K (HasL.cons a2R (HasL.cons a7a HasL.nil)) [0, 1, 2, 4] ((fun a n (_ : Nat) => (fun _ => a0r) a n)) [] Tryz.func37 (by unfold Tryz.f37; rfl) (fun _ => ⟨(), trivial⟩) ?_
 intro a ha
 obtain ⟨r, n⟩ := a
 replace ha : a2a r := ha
 simp -implicitDefEqProofs [a7d, a3F, cAtI, Con.fn, a0R, tTab, a0q]
 try dsimp only
 refine ⟨ha, fun h => by unfold a4g; rw [if_neg (by simp -implicitDefEqProofs [h])], fun h => ⟨r, n, ⟨⟨rfl, rfl⟩, rfl⟩, by unfold a4g; rw [if_pos h]⟩⟩
def a2S (r : RepoD) (a : Int) : List FileD × Bool := if a0l r = true /\ 0 <= a /\ a < r.commits.length then (a0e r a, true) else ([], false)
def a6y : Con := .fn 19 (RepoD × Int) (fun a => [a0V a.1, .int .i64 a.2]) (fun a => a2a a.1) (fun a => .tup [.own 8 2 (a0b (a2S a.1 a.2).1), .bool (a2S a.1 a.2).2]) (fun a => a3r 8 (a2S a.1 a.2).1)
theorem a9u : Has Tryz.prog 42 a6y := by
 refine a0d mixed a0K (HasL.cons a2R (HasL.cons a4b (HasL.cons a6K (HasL.cons a4M HasL.nil)))) [0, 1, 2, 4, 5] ((fun a n (_ : Nat) => (fun _ => a0r) a n)) [] Tryz.func42 (by unfold Tryz.f42; rfl) (fun _ => ⟨(), trivial⟩) ?_
 intro a ha
 obtain ⟨r, n⟩ := a
 replace ha : a2a r := ha
 simp -implicitDefEqProofs [-kStep_move, -Bool.exists_bool, a6y, a3F, a4t, a7g, a4s, Con.fn, a0R, tTab, a0q]
 try dsimp only
 try simp only [and_assoc, exists_eq_left, exists_and_left, RepoD.ex1, RepoD.eta]
 refine ⟨ha, fun h => ⟨h, ha.1⟩, fun hc => ?_, fun h h0 h1 => ?_⟩
 ·have e : a2S r n = ([], false) := by
   unfold a2S
   rw [if_neg]
   rintro ⟨q1, q2, q3⟩
   rcases hc with hc | hc | hc
   ·rw [hc] at q1; cases q1
   ·omega
   ·omega
  rw [e]; exact ⟨rfl, rfl, rfl⟩
 ·have e : a2S r n = (a0e r n, true) := by unfold a2S; rw [if_pos ⟨h, h0, by omega⟩]
  have hi : n.toNat < r.commits.length := by omega
  have ht : a0s r.commits[n.toNat].tree = true := (a1O h hi).2.2
  have hl := a4n _ (by rw [<- a3J]; exact ht)
  have hg : r.commits[n.toNat]?.getD default = r.commits[n.toNat] := by simp -implicitDefEqProofs [hi]
  have e2 : a0e r n = r.commits[n.toNat].tree := by unfold a0e; rw [List.getD_eq_getElem?_getD, hg]
  rw [e, hg, e2]
  exact ⟨h0, by omega, by omega, fun f hf => by have := hl.2 f hf; omega, rfl, rfl, rfl⟩
def a6n (x r : RepoD) : Bool := decide (x.commits.take r.commits.length = r.commits)
def kpI (x r : RepoD) : Inv := ⟨Nat, fun i => ⟨[(2, true, .ptr 10 0), (3, true, .ptr 11 0), (4, true, .bool false), (5, true, .int .i64 i)], [(10, a1z x), (11, a1z r)]⟩, fun i => i <= r.commits.length /\ r.commits.length <= x.commits.length /\ x.commits.take i = r.commits.take i, fun i => r.commits.length - i⟩
def b0S : Con := .fn 32 (RepoD × RepoD) (fun a => [a0V a.1, a0V a.2]) (fun _ => True) (fun a => .bool (a6n a.1 a.2)) (fun _ => [])
theorem b7U : Has Tryz.prog 38 b0S := by
 refine a0d mixed a0K (HasL.cons a9w HasL.nil) [0, 1, 2, 3, 4, 5] ((fun a n (_ : Nat) => (fun a _ => kpI a.1 a.2) a n)) [] Tryz.func38 (by unfold Tryz.f38; rfl) (fun _ => ⟨(), trivial⟩) ?_
 intro a _
 obtain ⟨x, r⟩ := a
 simp (maxSteps := 8000000) -implicitDefEqProofs [-kStep_move, -kStepC_move, -Bool.exists_bool, b0S, a6z, Con.fn, a0R, tTab, kpI, a0q]
 try dsimp only
 try simp only [and_assoc, exists_eq_left, exists_and_left, RepoD.ex1, RepoD.eta]
 refine fun _ _ => ⟨fun h => ?_, fun h => ⟨h, fun t ht _ g3 _ => ⟨fun hlt => ?_, fun hge => ?_⟩⟩⟩
 ·unfold a6n
  refine decide_eq_false fun e => ?_
  have := congrArg List.length e
  rw [List.length_take] at this
  omega
 ·have hq : t < x.commits.length := by omega
  have qq1 : Option.map a0k r.commits[t]? = some (a0k r.commits[t]) := by simp -implicitDefEqProofs [hlt]
  have qq2 : Option.map a0k x.commits[t]? = some (a0k x.commits[t]) := by simp -implicitDefEqProofs [hq]
  have hst := a5V hq hlt g3
  rw [qq1, qq2]
  have hne : x.commits[t] ≠ r.commits[t] -> a6n x r = false := fun h => by
   unfold a6n
   refine decide_eq_false fun e => h ?_
   have e1 : (x.commits.take r.commits.length)[t]? = r.commits[t]? := by rw [e]
   rw [List.getElem?_take, if_pos hlt, List.getElem?_eq_getElem hlt, List.getElem?_eq_getElem hq] at e1
   exact Option.some.inj e1
  generalize r.commits[t] = y at *
  generalize x.commits[t] = z at *
  simp -implicitDefEqProofs [a0k, D.asStr, D.asRows, hq, hlt]
  exact ⟨hne, fun e => ⟨by omega, by omega, fun _ _ => ⟨t + 1, by omega, by omega, h, hst e, by omega⟩⟩⟩
 ·unfold a6n
  rw [List.take_of_length_le hge] at g3
  refine decide_eq_true ?_
  have : t = r.commits.length := by omega
  subst this
  exact g3

theorem a4w {r : RepoD} (h : a4N r) : a2a r := ⟨by have := h.1; omega, fun c hc f hf => by have := b2D (h.2.2 c hc).2.1 f hf; omega⟩
theorem b0W {r : RepoD} (h : a4N r) : rpSz r := by
 refine ⟨by have := h.1; omega, fun c hc => ?_, by have := h.2.1; omega⟩
 obtain ⟨h1, h2, h3⟩ := h.2.2 c hc
 have h4 := a4n _ h2
 exact ⟨by omega, by omega, fun g hg => by have := h4.2 g hg; omega⟩
--TAB a0R
theorem a6X {r : RepoD} (h : a0l r = true) {a : Int} (h0 : 0 <= a) (h1 : a < r.commits.length) : a2S r a = (a0e r a, true) := by unfold a2S; rw [if_pos ⟨h, h0, h1⟩]
theorem a3S {r : RepoD} (h : a0l r = true) (n : Str) : a4g r n = atL r.heads n := by unfold a4g; rw [if_pos h]
--TAB a0R
theorem c8h {r : RepoD} {n w : Str} {c : Int} (hc : (a0U false r n w c).2 = 0) : a0l r = true /\ 0 <= atL r.heads n /\ a0Q w = true /\ 0 <= c /\ c < r.commits.length := by
 cases h : a0l r with
 | false => rw [c6h h] at hc; cases hc
 | true =>
  by_cases q : atL r.heads n < 0 \/ a0Q w = false \/ ¬ (0 <= c /\ c < r.commits.length)
  ·rw [pS_1 h q] at hc; cases hc
  ·refine ⟨rfl, ?_, ?_, ?_⟩
   ·rcases Int.lt_or_le (atL r.heads n) 0 with g | g
    ·exact absurd (.inl g) q
    ·exact g
   ·cases g : a0Q w with
    | true => rfl
    | false => exact absurd (.inr (.inl g)) q
   ·rcases Classical.em (0 <= c /\ c < (r.commits.length : Int)) with g | g
    ·exact g
    ·exact absurd (.inr (.inr g)) q
def a8O : Con := .fn 129 Str (fun s => [.sl true 1 (a1l s)]) (fun _ => True) (fun _ => .bool true) (fun _ => [])
theorem b1U : Has Tryz.prog 9 a8O := by
 refine a0d mixed a0K (HasL.cons b3c (HasL.cons b7O (HasL.cons b2t (HasL.cons a8s (HasL.cons a8o (HasL.cons a7A (HasL.cons a9u (HasL.cons b2B HasL.nil)))))))) [0, 2, 3, 4, 5, 6, 7, 8, 9, 10, 11, 12, 13, 15] ((fun a n (_ : Nat) => (fun _ => a0r) a n)) [12287] Tryz.func9 (by unfold Tryz.f9; rfl) (fun _ => ⟨(), trivial⟩) ?_
 intro (s : Str) _
 simp (maxSteps := 8000000) -implicitDefEqProofs [-kStep_move, -kStepC_move, -Bool.exists_bool, a8O, a6Q, b0Q, a9S, a7e, a7d, a5p, a6y, a9T, Con.fn, a0R, tTab]
 try dsimp only
 refine fun _ _ r n w c hd => ⟨r, n, w, c, ⟨⟨rfl, rfl⟩, rfl, rfl, rfl⟩, a4w hd, r, n, w, c, ⟨⟨rfl, rfl⟩, rfl, rfl, rfl⟩, b0W hd, (a0U false r n w c).1, (a0U false r n w c).1, ⟨⟨rfl, rfl⟩, rfl, rfl⟩, ?_⟩
 have hp := a4w hd
 simp only [true_and, and_true, not_true, false_or, or_false, true_implies, and_self]
 by_cases hc : (a0U false r n w c).2 = 0
 ·obtain ⟨hI, h1, h2, h3⟩ := c8h hc
  have hS : a0j r = true := by rw [<- a0D]; exact hI
  have L := fun ps => @c0p r hS n w c hc ps
  have hi : c.toNat < r.commits.length := by omega
  have e2 : Option.map a0k r.commits[c.toNat]? = some (a0k r.commits[c.toNat]) := by simp -implicitDefEqProofs [hi]
  have e3 : r.commits.getD c.toNat default = r.commits[c.toNat] := by simp -implicitDefEqProofs [List.getD_eq_getElem?_getD, hi]
  have e5 : a0e r c = r.commits[c.toNat].tree := by unfold a0e; rw [e3]
  rw [e3, e5] at L
  simp -implicitDefEqProofs [hc, h3.1, h3.2, e2, a0k, D.asRows]
  generalize r.commits[c.toNat] = C at *
  cases hP : C.parents with
  | nil => simp
  | cons p ps =>
   have L2 := L ps
   rw [hP] at L2
   simp -implicitDefEqProofs [eInt, D.asInt]
   refine ⟨r, n, ⟨⟨rfl, rfl⟩, rfl⟩, hp, fun hq => ?_⟩
   rw [a3S hI] at hq
   obtain ⟨⟨p1, p2, p3, p4⟩, u1, u2, ⟨u3, u4⟩, u5, u6⟩ := L2 (by rw [hq])
   have hXI : a0l (a0U false r n w c).1 = true := by rw [a0D]; exact p1
   have hYI : a0l (a0u r n w c).1 = true := by rw [a0D]; exact u2
   have hX := (a3g hXI).2
   have hY := (a3g hYI).2
   refine ⟨r, n, w, c, ⟨⟨rfl, rfl⟩, rfl, rfl, rfl⟩, hp, (a0U false r n w c).1, n, ⟨⟨rfl, rfl⟩, rfl⟩, hX, (a0U false r n w c).1, _, ⟨⟨rfl, rfl⟩, rfl⟩, hX, (a0u r n w c).1, n, ⟨⟨rfl, rfl⟩, rfl⟩, hY, (a0u r n w c).1, _, ⟨⟨rfl, rfl⟩, rfl⟩, hY, _, _, ⟨rfl, rfl⟩, ?_⟩
   rw [a3S hXI, a3S hYI, u5, a6X hXI p2 p3, a6X hYI u3 u4, p4, u6, u1]
   simp -implicitDefEqProofs
 ·simp -implicitDefEqProofs [hc]
--TAB a0R
def onL (r : RepoD) (n : Str) (a : Int) : List Int := a0g (sinL r (atL r.heads n) [a])
def onOk (r : RepoD) (n : Str) (a : Int) (t : Nat) (x : RepoD) : Prop := t <= (onL r n a).length /\ a0l r = true /\ (0 <= atL r.heads n /\ 0 <= a /\ a < r.commits.length) /\ a0l x = true /\ r.commits <+: x.commits /\ 0 <= atL x.heads n /\ a3q r n ((onL r n a).drop t) x = a1k r n a
theorem b6J (r : RepoD) (a : Int) (os : List Int) : (sinL r a os).length = r.commits.length := by
 have g : ∀ (os : List Int) (l : List Bool), (os.foldl (a7z r) l).length = l.length := by
  intro os
  induction os with
  | nil => intro l; rfl
  | cons o r ih => intro l; rw [List.foldl_cons, ih]; exact b5y _ _
 unfold sinL
 rw [g, a1G]
theorem a9Y {r : RepoD} {n : Str} {a : Int} : ∀ c ∈ onL r n a, 0 <= c /\ c < r.commits.length := fun c hc => by
 unfold onL at hc
 obtain ⟨i, hi, _, rfl⟩ := listT_mem.1 hc
 rw [b6J] at hi
 omega
theorem b3p {r : RepoD} {n : Str} {a : Int} : (onL r n a).length <= r.commits.length := by
 have h := a3i (sinL r (atL r.heads n) [a]) (sinL r (atL r.heads n) [a]).length
 unfold onL a0g
 rw [b6J] at h ⊢
 exact h
theorem b6q {r : RepoD} (h : a0l r = true) {n : Str} {a : Int} (hn : 0 <= atL r.heads n) (ha : 0 <= a /\ a < r.commits.length) : onOk r n a 0 ⟨r.commits, hSet r.heads n a⟩ := by
 have hS : a0j r = true := by rw [<- a0D]; exact h
 have ho := b2m hS hn ha
 refine ⟨Nat.zero_le _, h, ⟨hn, ha⟩, by rw [a0D]; exact ho.ok, List.prefix_refl _, ho.came.1, ?_⟩
 unfold a1k
 rw [if_pos hS, if_neg (by rintro (q | q); omega; exact q ha)]
 rfl
theorem c6g {r : RepoD} (h : a0l r = false) (n : Str) (a : Int) : a1k r n a = (noR, 1) := by unfold a1k; rw [if_neg (by rw [<- a0D, h]; simp)]
theorem on_1 {r : RepoD} (h : a0l r = true) {n : Str} {a : Int} (hx : atL r.heads n < 0 \/ ¬ (0 <= a /\ a < r.commits.length)) : a1k r n a = (r, 1) := by unfold a1k; rw [if_pos (by rw [<- a0D]; exact h), if_pos hx]
theorem c2z {r x : RepoD} {n : Str} {a : Int} {t : Nat} (h : onOk r n a t x) (ht : (onL r n a).length <= t) : a1k r n a = (x, 0) := by
 obtain ⟨_, _, _, _, _, _, h⟩ := h
 rw [c2A ht] at h
 exact h.symm
theorem b8z {r x : RepoD} {n : Str} {a : Int} {t : Nat} (h : onOk r n a t x) (ht : t < (onL r n a).length) :
  (1 < (r.commits.getD (onL r n a)[t].toNat default).parents.length -> onOk r n a (t + 1) x) /\
  (¬ 1 < (r.commits.getD (onL r n a)[t].toNat default).parents.length ->
   a0U false x n (r.commits.getD (onL r n a)[t].toNat default).who (onL r n a)[t] = a1e x n (r.commits.getD (onL r n a)[t].toNat default).who (a1h x (onL r n a)[t]) (a0e x (onL r n a)[t]) /\
   ((a1e x n (r.commits.getD (onL r n a)[t].toNat default).who (a1h x (onL r n a)[t]) (a0e x (onL r n a)[t])).2 = 0 -> onOk r n a (t + 1) (a1e x n (r.commits.getD (onL r n a)[t].toNat default).who (a1h x (onL r n a)[t]) (a0e x (onL r n a)[t])).1) /\
   (¬ (a1e x n (r.commits.getD (onL r n a)[t].toNat default).who (a1h x (onL r n a)[t]) (a0e x (onL r n a)[t])).2 = 0 -> a1k r n a = (r, (a1e x n (r.commits.getD (onL r n a)[t].toNat default).who (a1h x (onL r n a)[t]) (a0e x (onL r n a)[t])).2))) := by
 obtain ⟨_, h1, h2, h3, h4, h5, h6⟩ := h
 have hm := a9Y _ (List.getElem_mem ht)
 rw [a8i ht] at h6
 generalize (onL r n a)[t] = c at *
 have hc : c.toNat < r.commits.length := by omega
 have hg : r.commits.getD c.toNat default = r.commits[c.toNat] := by simp -implicitDefEqProofs [List.getD_eq_getElem?_getD, hc]
 have hw : a0Q (r.commits.getD c.toNat default).who = true := by
  have hS : a0j r = true := by rw [<- a0D]; exact h1
  have := ((a0T r).1 hS).1 c.toNat hc
  unfold okCS okS1 at this
  simp only [Bool.and_eq_true] at this
  exact this.2.1.2
 have hx : c < x.commits.length := by have := h4.length_le; omega
 refine ⟨fun q => ?_, fun q => ⟨?_, fun k => ?_, fun k => ?_⟩⟩
 ·rw [if_pos q] at h6
  exact ⟨ht, h1, h2, h3, h4, h5, h6⟩
 ·rw [c0j h3 h5 hw ⟨hm.1, hx⟩]; rfl
 ·rw [if_neg q, if_pos k] at h6
  obtain ⟨g1, g2, g3⟩ := c7h (by rw [<- a0D]; exact h3) k
  exact ⟨ht, h1, h2, by rw [a0D]; exact g1, h4.trans g2, by rw [g3]; omega, h6⟩
 ·rw [if_neg q, if_neg k] at h6
  exact h6.symm
def poiI (r : RepoD) (n : Str) (a : Int) : Inv := ⟨Nat × RepoD, fun x => ⟨[(1, true, .str n), (3, true, .ptr 12 0), (6, true, .ptr 11 0), (7, true, .int .i64 0), (9, true, .ptr 10 0), (40, true, .own 15 1 (a0f (onL r n a))), (41, true, .int .i64 (onL r n a).length), (42, true, .int .i64 x.1)],
 [(12, a1z r), (11, a7H), (10, .box 26 [.own 13 3 (a0i x.2.commits), .own 14 2 (a0c x.2.heads)]), (13, .own 34 3 true (a0i x.2.commits)), (14, .own 113 2 true (a0c x.2.heads)), (15, .own 3 1 true (a0f (onL r n a)))]⟩, fun x => onOk r n a x.1 x.2, fun x => (onL r n a).length - x.1⟩
def a7Q : Con := .fn 75 (RepoD × Str × Int) (fun a => [a0V a.1, .str a.2.1, .int .i64 a.2.2]) (fun a => a2a a.1) (fun a => oR (a1k a.1 a.2.1 a.2.2)) (fun a => oRf (a1k a.1 a.2.1 a.2.2))
theorem b4v : Has Tryz.prog 50 a7Q := by
 refine a0d mixed a0K (HasL.cons a2R (HasL.cons a7a (HasL.cons a4b (HasL.cons a6s (HasL.cons a9q (HasL.cons b4g (HasL.cons b4c HasL.nil))))))) [0, 1, 2, 3, 6, 7, 8, 9, 11, 12, 13, 40, 41, 42] ((fun a n (_ : Nat) => (fun a _ => poiI a.1 a.2.1 a.2.2) a n)) [12287] Tryz.func50 (by unfold Tryz.f50; rfl) (fun _ => ⟨(), trivial⟩) ?_
 intro a ha
 obtain ⟨r, n, b⟩ := a
 replace ha : a2a r := ha
 simp (maxSteps := 8000000) [-kStep_move, -kStepC_move, -Bool.exists_bool, a7Q, a3F, cAtI, a4t, a7O, a8U, a5B, b1J, b1I, Con.fn, a0R, tTab, a0q, poiI]
 try dsimp only
 try simp only [and_assoc, exists_eq_left, exists_and_left, RepoD.ex1, RepoD.eta]
 have hn : ∀ h : a0l r = true, _ := fun h => a2x h
 refine ⟨ha, fun h => by rw [c6g h]; exact ⟨rfl, rfl, rfl, rfl, rfl⟩, fun h => ⟨fun q => ⟨q, by have := hn h; omega⟩, fun q => ?_, fun c1 c2 c3 => ?_⟩⟩
 ·rw [on_1 h (by rcases q with q | q | q; exact .inl q; exact .inr (by omega); exact .inr (by omega))]
  exact ⟨(a3g h).1, rfl, rfl, rfl, rfl, rfl⟩
 ·obtain ⟨hz, hp⟩ := a3g h
  have hb : b < r.commits.length := by omega
  have hlt := a4H h c1
  have hS : a0j r = true := by rw [<- a0D]; exact h
  have hH := ((a0T r).1 hS).2.1
  refine ⟨hz, trivial, trivial, hz.2.2, [b], rfl, h, c1, hlt, by simp, by intro o ho; rw [List.mem_singleton.1 ho]; exact ⟨c2, hb⟩, fun _ => ⟨rfl, rfl, trivial, trivial, rfl, by rw [b2v hH]; exact b6q h c1 ⟨c2, hb⟩, fun t x hO => ⟨fun ht => ⟨ht, fun _ => ?_⟩, fun ht => ?_⟩⟩⟩
  ·have e1 : Option.map eInt (onL r n b)[t]? = some (eInt (onL r n b)[t]) := by simp -implicitDefEqProofs [ht]
   obtain ⟨S1, S2⟩ := b8z hO ht
   have hm := a9Y _ (List.getElem_mem ht)
   rw [e1]
   generalize (onL r n b)[t] = c at *
   have hi : c.toNat < r.commits.length := by omega
   have e2 : Option.map a0k r.commits[c.toNat]? = some (a0k r.commits[c.toNat]) := by simp -implicitDefEqProofs [hi]
   have e3 : r.commits.getD c.toNat default = r.commits[c.toNat] := by simp -implicitDefEqProofs [List.getD_eq_getElem?_getD, hi]
   have par := (a1O h hi).1
   simp -implicitDefEqProofs only [eInt, D.asInt, e2]
   rw [e3] at S1 S2
   generalize r.commits[c.toNat] = C at *
   simp -implicitDefEqProofs [e2, eInt, a0k, D.asInt, D.asRows, D.asStr]
   have hol := b3p (r := r) (n := n) (a := b)
   have hln := hn h
   have hXI : a0l x = true := hO.2.2.2.1
   refine ⟨hm.1, hm.2, fun _ _ _ => ⟨fun q => ⟨by omega, by omega, fun _ _ => ⟨t + 1, by omega, S1 (by omega), by omega⟩⟩, fun q => ⟨hm.1, hm.2, fun _ _ => ?_⟩⟩⟩
   obtain ⟨g1, g2, g3⟩ := S2 (by omega)
   rw [g1]
   exact ⟨hXI, fun k => by rw [g3 k]; exact ⟨hz, rfl, rfl, rfl, rfl, rfl⟩, fun k => ⟨by omega, by omega, fun _ _ => ⟨t + 1, by omega, g2 k, by omega⟩⟩⟩
  ·rw [c2z hO ht]; exact ⟨rfl, rfl, rfl, rfl, rfl⟩
def posI (r : RepoD) (n : Str) (a : Int) : Inv := ⟨Nat × RepoD, fun x => ⟨[(1, true, .str n), (3, true, .ptr 12 0), (6, true, .ptr 11 0), (7, true, .int .i64 0), (9, true, .ptr 10 0), (8, true, .own 15 1 (a0f (onL r n a))), (10, true, .int .i64 x.1)],
 [(12, a1z r), (11, a7H), (10, .box 26 [.sl false 3 (a0i x.2.commits), .sl false 2 (a0c x.2.heads)]), (15, .own 3 1 true (a0f (onL r n a)))]⟩, fun x => onOk r n a x.1 x.2, fun x => (onL r n a).length - x.1⟩
def a7R : Con := .fn 92 (RepoD × Str × Int) (fun a => [a0V a.1, .str a.2.1, .int .i64 a.2.2]) (fun a => rpSz a.1) (fun a => .tup [.agg [.sl false 3 (a0i (a1k a.1 a.2.1 a.2.2).1.commits), .sl false 2 (a0c (a1k a.1 a.2.1 a.2.2).1.heads)], .int .i64 (a1k a.1 a.2.1 a.2.2).2]) (fun _ => [])
theorem b4w : Has Tryz.prog 51 a7R := by
 refine a0d mixed a0K (HasL.cons a3p (HasL.cons a3n (HasL.cons a3m (HasL.cons a3o (HasL.cons b8U (HasL.cons a5N (HasL.cons a6o (HasL.cons a8c HasL.nil)))))))) [0, 1, 2, 3, 6, 7, 8, 9, 10, 11, 12, 13] ((fun a n (_ : Nat) => (fun a _ => posI a.1 a.2.1 a.2.2) a n)) [12287] Tryz.func51 (by unfold Tryz.f51; rfl) (fun _ => ⟨(), trivial⟩) ?_
 intro a ha
 obtain ⟨r, n, b⟩ := a
 replace ha : rpSz r := ha
 simp (maxSteps := 8000000) [-kStep_move, -kStepC_move, -Bool.exists_bool, a7R, a4L, a4K, a4J, a4a, b2M, a5T, a5y, a7b, Con.fn, a0R, tTab, a0q, posI]
 try dsimp only
 try simp only [and_assoc, exists_eq_left, exists_and_left, RepoD.ex1, RepoD.eta]
 have hI : a0j r = true -> a0l r = true := fun h => by rw [a0D]; exact h
 refine ⟨by have := ha.1; omega, fun h => by rw [c6g (by rw [a0D]; exact h)]; exact ⟨rfl, rfl, rfl⟩, fun h _ => ⟨fun q => ⟨q, by omega, by have := ha.1; omega⟩, fun _ => ⟨fun q => ?_, fun c1 c2 c3 => ?_⟩⟩⟩
 ·rw [on_1 (hI h) (by rcases q with q | q | q; exact .inl q; exact .inr (by omega); exact .inr (by omega))]
  exact ⟨ha, rfl, rfl, rfl⟩
 ·have h := hI h
  obtain ⟨hz, hp⟩ := a3g h
  have hb : b < r.commits.length := by omega
  have hlt := a4H h c1
  have en : newL r b (atL r.heads n) = onL r n b := (c7x h (by unfold inN; simp; omega) (by unfold inN; simp; omega)).symm
  refine ⟨by have := ha.1; omega, ha, hz.2.2, en.symm, en, b6q h c1 ⟨c2, hb⟩, fun t x hO _ => ⟨fun ht => ⟨ht, fun _ => ?_⟩, fun ht => ?_⟩⟩
  ·have e1 : Option.map eInt (onL r n b)[t]? = some (eInt (onL r n b)[t]) := by simp -implicitDefEqProofs [ht]
   obtain ⟨S1, S2⟩ := b8z hO ht
   have hm := a9Y _ (List.getElem_mem ht)
   rw [e1]
   generalize (onL r n b)[t] = c at *
   have hi : c.toNat < r.commits.length := by omega
   have e2 : Option.map a0k r.commits[c.toNat]? = some (a0k r.commits[c.toNat]) := by simp -implicitDefEqProofs [hi]
   have e3 : r.commits.getD c.toNat default = r.commits[c.toNat] := by simp -implicitDefEqProofs [List.getD_eq_getElem?_getD, hi]
   have par := (a1O h hi).1
   simp -implicitDefEqProofs only [eInt, D.asInt, e2]
   rw [e3] at S1 S2
   have hx : c.toNat < x.commits.length := by have := hO.2.2.2.2.1.length_le; omega
   have e4 : Option.map a0k x.commits[c.toNat]? = some (a0k x.commits[c.toNat]) := by simp -implicitDefEqProofs [hx]
   have e5 : a0e x c = x.commits[c.toNat].tree := by unfold a0e; simp -implicitDefEqProofs [List.getD_eq_getElem?_getD, hx]
   have hxt : a0S x.commits[c.toNat].tree = true := by rw [<- a3J]; exact (a1O hO.2.2.2.1 hx).2.2
   rw [e5] at S2
   generalize x.commits[c.toNat] = D' at *
   generalize r.commits[c.toNat] = C at *
   simp -implicitDefEqProofs [e2, e4, eInt, a0k, D.asInt, D.asRows, D.asStr]
   have hol := b3p (r := r) (n := n) (a := b)
   have hln := a2x h
   have hXI : a0l x = true := hO.2.2.2.1
   have hXS : a0j x = true := by rw [<- a0D]; exact hXI
   have hx0 := hO.2.2.2.2.2.1
   have hxc : c < x.commits.length := by omega
   refine ⟨hm.1, hm.2, fun _ _ _ => ⟨fun q => ⟨by omega, by omega, fun _ _ => ⟨t + 1, by omega, S1 (by omega), by omega⟩⟩, fun q => ⟨ht, fun _ => ⟨hXS, hm.1, hxc, ht, fun _ => ⟨hm.1, hxc, fun _ _ => ⟨hXS, hx0, a6d hXS c, hxt, ?_⟩⟩⟩⟩⟩⟩
   obtain ⟨_, g2, g3⟩ := S2 (by omega)
   exact ⟨fun k => by rw [g3 k]; exact ⟨ha, rfl, rfl, rfl⟩, fun k => ⟨by omega, by omega, fun _ _ => ⟨t + 1, by omega, g2 k, by omega⟩⟩⟩
  ·rw [c2z hO ht]; exact ⟨rfl, rfl, rfl⟩
--TAB a0R
theorem c2B {r : RepoD} (h : a0l r = true) {n : Str} {a : Int} (hc : (a1k r n a).2 = 0) : 0 <= atL r.heads n /\ 0 <= a /\ a < r.commits.length := by
 by_cases q : atL r.heads n < 0 \/ ¬ (0 <= a /\ a < r.commits.length)
 ·rw [on_1 h q] at hc; cases hc
 ·refine ⟨?_, ?_⟩
  ·rcases Int.lt_or_le (atL r.heads n) 0 with g | g
   ·exact absurd (.inl g) q
   ·exact g
  ·rcases Classical.em (0 <= a /\ a < (r.commits.length : Int)) with g | g
   ·exact g
   ·exact absurd (.inr g) q
theorem c6Y {r : RepoD} (h : a0l r = true) {n : Str} {a : Int} (hc : ¬ (a1k r n a).2 = 0) : (a1k r n a).1 = r := by
 have hS : a0j r = true := by rw [<- a0D]; exact h
 by_cases q : atL r.heads n < 0 \/ ¬ (0 <= a /\ a < r.commits.length)
 ·rw [on_1 h q]
 ·unfold a1k at hc ⊢
  rw [if_pos hS, if_neg q] at hc ⊢
  exact b1f _ hc
theorem c4Z {r : RepoD} (h : a0l r = true) {n : Str} {a : Int} (hc : (a1k r n a).2 = 0) : Onto r n a (a1k r n a).1 /\ (a1k r n a).1.commits.length = r.commits.length + a2e r (onL r n a) /\ (a2e r (onL r n a) = 0 -> atL (a1k r n a).1.heads n = a) := by
 have hS : a0j r = true := by rw [<- a0D]; exact h
 obtain ⟨h1, h2, h3⟩ := c2B h hc
 have e : a1k r n a = a3q r n (onL r n a) ⟨r.commits, hSet r.heads n a⟩ := by unfold a1k; rw [if_pos hS, if_neg (by rintro (q | q); omega; exact q ⟨h2, h3⟩)]; rfl
 rw [e] at hc ⊢
 obtain ⟨k1, k2, k3⟩ := b1e _ (b2m hS h1 ⟨h2, h3⟩) hc
 refine ⟨k1, k2, fun q => ?_⟩
 rw [k3 q, a5f ((a0T r).1 hS).2.1, if_pos rfl]
theorem c0H (r : RepoD) {l : List Int} {t : Nat} (h : t < l.length) : a2e r (l.take (t + 1)) = a2e r (l.take t) + if (r.commits.getD l[t].toNat default).parents.length < 2 then 1 else 0 := by
 unfold a2e
 rw [a0w h, List.filter_append, List.length_append, List.filter_cons, List.filter_nil]
 by_cases q : (r.commits.getD l[t].toNat default).parents.length < 2
 ·rw [if_pos (by simpa using q), if_pos q]; rfl
 ·rw [if_neg (by simpa using q), if_neg q]; rfl
def fpoI : Inv := ⟨RepoD × Str × Int × Nat, fun y => ⟨[(2, true, .bool false), (3, true, .ptr 10 0), (4, true, .str y.2.1), (5, true, .int .i64 y.2.2.1), (6, true, .ptr 11 0), (10, true, .own 9 1 (a0f (onL y.1 y.2.1 y.2.2.1))), (11, true, .int .i64 (a2e y.1 ((onL y.1 y.2.1 y.2.2.1).take y.2.2.2))), (12, true, .int .i64 y.2.2.2)],
 [(10, .box 26 [.sl false 3 (a0i y.1.commits), .sl false 2 (a0c y.1.heads)]), (11, .box 26 [.sl false 3 (a0i (a1k y.1 y.2.1 y.2.2.1).1.commits), .sl false 2 (a0c (a1k y.1 y.2.1 y.2.2.1).1.heads)]), (9, .own 3 1 true (a0f (onL y.1 y.2.1 y.2.2.1)))]⟩, fun y => y.2.2.2 <= (onL y.1 y.2.1 y.2.2.1).length /\ a0l y.1 = true /\ (0 <= atL y.1.heads y.2.1 /\ 0 <= y.2.2.1 /\ y.2.2.1 < y.1.commits.length) /\ (a1k y.1 y.2.1 y.2.2.1).2 = 0, fun y => 16 - y.2.2.2⟩
def b0i : Con := .fn 125 Str (fun s => [.sl true 1 (a1l s)]) (fun _ => True) (fun _ => .bool true) (fun _ => [])
theorem b3e : Has Tryz.prog 10 b0i := by
 refine a0d mixed a0K (HasL.cons b0V (HasL.cons b4v (HasL.cons b4w (HasL.cons a8s (HasL.cons a2R (HasL.cons a8o (HasL.cons b7f (HasL.cons b7U (HasL.cons c1c HasL.nil))))))))) [0, 2, 3, 4, 5, 6, 7, 8, 9, 10, 11, 12, 13] ((fun a n (_ : Nat) => (fun _ _ => fpoI) a n)) [12287] Tryz.func10 (by unfold Tryz.f10; rfl) (fun _ => ⟨(), trivial⟩) ?_
 intro (s : Str) _
 simp (maxSteps := 8000000) -implicitDefEqProofs [-kStep_move, -kStepC_move, -Bool.exists_bool, b0i, a5F, a7Q, a7R, a7e, a3F, a7d, b0E, b0S, b5l, Con.fn, a0R, tTab, fpoI]
 try dsimp only
 refine fun _ _ r n a hd => ⟨r, n, a, ⟨⟨rfl, rfl⟩, rfl, rfl⟩, a4w hd, r, n, a, ⟨⟨rfl, rfl⟩, rfl, rfl⟩, b0W hd, (a1k r n a).1, (a1k r n a).1, ⟨⟨rfl, rfl⟩, rfl, rfl⟩, ?_⟩
 have hp := a4w hd
 simp only [true_and, and_true, not_true, false_or, or_false, true_implies, and_self]
 refine ⟨hp, fun _ => trivial, fun hI => ?_⟩
 have hS : a0j r = true := by rw [<- a0D]; exact hI
 refine ⟨fun hc => by rw [c6Y hI hc]; exact ⟨rfl, rfl⟩, fun hc => ?_⟩
 obtain ⟨h1, h2, h3⟩ := c2B hI hc
 refine ⟨r, n, ⟨⟨rfl, rfl⟩, rfl⟩, hp, r, a, _, ⟨⟨rfl, rfl⟩, rfl, rfl⟩, hp, ?_⟩
 have eA : a4r r a (a4g r n) = onL r n a := by
  rw [a3S hI]
  unfold a4r onL
  rw [if_pos]
  refine areB_iff.2 ⟨hI, fun x hx => ?_⟩
  rcases List.mem_cons.1 hx with rfl | hx
  ·exact ⟨h2, h3⟩
  ·rw [List.mem_singleton.1 hx]; exact ⟨h1, a4H hI h1⟩
 refine ⟨⟨r, n, a, 0, ⟨⟨rfl, rfl, eA.symm, rfl, rfl⟩, ⟨⟨rfl, rfl⟩, rfl, rfl⟩, eA⟩, Nat.zero_le _, hI, ⟨h1, h2, h3⟩, hc⟩, ?_⟩
 clear eA h1 h2 h3 hc hS hI hp hd
 intro r n a t ht hI h1 h2 h3 hc _
 have hS : a0j r = true := by rw [<- a0D]; exact hI
 have hol := b3p (r := r) (n := n) (a := a)
 have hln := a2x hI
 refine ⟨fun hlt => ⟨hlt, fun _ => ?_⟩, fun hge => ?_⟩
 ·have e1 : Option.map eInt (onL r n a)[t]? = some (eInt (onL r n a)[t]) := by simp -implicitDefEqProofs [hlt]
  have hm := a9Y _ (List.getElem_mem hlt)
  have T := c0H r hlt
  rw [e1]
  generalize (onL r n a)[t] = c at *
  have hi : c.toNat < r.commits.length := by omega
  have e2 : Option.map a0k r.commits[c.toNat]? = some (a0k r.commits[c.toNat]) := by simp -implicitDefEqProofs [hi]
  have e3 : r.commits.getD c.toNat default = r.commits[c.toNat] := by simp -implicitDefEqProofs [List.getD_eq_getElem?_getD, hi]
  simp -implicitDefEqProofs only [eInt, D.asInt, e2]
  rw [e3] at T
  simp -implicitDefEqProofs [e2, eInt, a0k, D.asInt, D.asRows, D.asStr, hm.1, hm.2]
  generalize r.commits[c.toNat] = C at *
  have hb : a2e r ((onL r n a).take t) <= 16 := Nat.le_trans (List.length_filter_le _ _) (by simp; omega)
  have T1 : C.parents.length < 2 -> (a2e r ((onL r n a).take (t + 1)) : Int) = a2e r ((onL r n a).take t) + 1 := fun q => by rw [T, if_pos q]; rfl
  have T2 : ¬ C.parents.length < 2 -> (a2e r ((onL r n a).take (t + 1)) : Int) = a2e r ((onL r n a).take t) := fun q => by rw [T, if_neg q]; rfl
  refine ⟨fun q => ⟨⟨by omega, by omega⟩, fun _ _ => ⟨⟨by omega, by omega⟩, fun _ _ => ⟨r, n, a, t + 1, ⟨⟨rfl, rfl, rfl, T1 (by omega), by omega⟩, ⟨⟨rfl, rfl⟩, rfl, rfl⟩, rfl⟩, ⟨by omega, hI, ⟨h1, h2, h3⟩, hc⟩, by omega⟩⟩⟩, fun q => ⟨⟨by omega, by omega⟩, fun _ _ => ⟨r, n, a, t + 1, ⟨⟨rfl, rfl, rfl, T2 (by omega), by omega⟩, ⟨⟨rfl, rfl⟩, rfl, rfl⟩, rfl⟩, ⟨by omega, hI, ⟨h1, h2, h3⟩, hc⟩, by omega⟩⟩⟩
 ·rw [List.take_of_length_le hge]
  obtain ⟨k1, k2, k3⟩ := c4Z hI hc
  have hXI : a0l (a1k r n a).1 = true := by rw [a0D]; exact k1.ok
  have hX := (a3g hXI).2
  have A := a3S hXI n
  have hb : a2e r (onL r n a) <= 16 := Nat.le_trans (List.length_filter_le _ _) (by omega)
  have hK : a6n (a1k r n a).1 r = true := by
   unfold a6n
   exact decide_eq_true (List.prefix_iff_eq_take.1 k1.keeps).symm
  have hlt := a4H hXI k1.came.1
  have hL : ((a1k r n a).1.commits.length : Int) = r.commits.length + a2e r (onL r n a) := by omega
  have hA : b1v (a1k r n a).1 a (a4g (a1k r n a).1 n) = true := by
   rw [A]
   have b1 := k1.came.1
   unfold b1v
   rw [Bool.and_eq_true]
   refine ⟨areB_iff.2 ⟨hXI, fun x hx => ?_⟩, ?_⟩
   ·rcases List.mem_cons.1 hx with rfl | hx
    ·exact ⟨h2, by omega⟩
    ·rw [List.mem_singleton.1 hx]; exact ⟨b1, hlt⟩
   ·have e : ((atL (a1k r n a).1.heads n).toNat : Int) = atL (a1k r n a).1.heads n := by omega
    have := (a9I (a5D k1.ok) (a := (atL (a1k r n a).1.heads n).toNat) (by omega) a.toNat).2 k1.came.2
    rw [e] at this
    exact this
  have hZ : a2e r (onL r n a) = 0 -> a4g (a1k r n a).1 n = a := fun q => by rw [A]; exact k3 q
  generalize a2e r (onL r n a) = z at *
  refine ⟨(a1k r n a).1, n, ⟨⟨rfl, rfl⟩, rfl⟩, hX, hX, (a1k r n a).1, r, ⟨⟨rfl, rfl⟩, rfl, rfl⟩, ?_⟩
  generalize a4g (a1k r n a).1 n = y at *
  simp -implicitDefEqProofs only [hXI, hK, hL, true_and, and_true, true_implies, and_self, false_or, or_false, or_true, true_or, Bool.true_eq_false, not_true_eq_false]
  have hz0 : 0 < z \/ z = 0 := by omega
  exact fun _ _ => ⟨⟨by omega, by omega⟩, fun _ => ⟨(a1k r n a).1, a, y, ⟨⟨rfl, rfl⟩, rfl, rfl⟩, hX, fun _ => ⟨hA, hz0.imp id (fun q => ⟨hA, q⟩)⟩, fun _ => ⟨.inr hA, fun _ => ⟨hA, hz0.imp id hZ⟩⟩⟩⟩
def a3h (r : RepoD) (a b : Int) : List Int := if areB r [a, b] then a1B r a b else []
def a8L : Con := .fn 17 (RepoD × Int × Int) (fun a => [a0V a.1, .int .i64 a.2.1, .int .i64 a.2.2]) (fun a => a2a a.1) (fun a => .own 8 1 (a0f (a3h a.1 a.2.1 a.2.2))) (fun a => a3d 8 (a3h a.1 a.2.1 a.2.2))
theorem b5b : Has Tryz.prog 44 a8L := by
 refine a0d mixed a0h (HasL.cons b2I (HasL.cons b3G HasL.nil)) [0, 1, 2, 3, 6] ((fun a n (_ : Nat) => (fun _ => a0r) a n)) [] Tryz.func44 (by unfold Tryz.f44; rfl) (fun _ => ⟨(), trivial⟩) ?_
 intro a ha
 obtain ⟨r, x, y⟩ := a
 replace ha : a2a r := ha
 simp (maxSteps := 8000000) -implicitDefEqProofs [-kStep_move, -Bool.exists_bool, a8L, cAre, b1C, Con.fn, tTab, a0q]
 try dsimp only
 simp -implicitDefEqProofs only [and_assoc, exists_eq_left, exists_and_left, RepoD.ex1, RepoD.eta]
 have e0 : areB r [x, y] = false -> a3h r x y = [] := fun h => by unfold a3h; rw [if_neg (by simp -implicitDefEqProofs [h])]
 have e1 : areB r [x, y] = true -> a3h r x y = a1B r x y := fun h => by unfold a3h; rw [if_pos h]
 refine ⟨[x, y], rfl, ha, e0, fun h => ?_⟩
 obtain ⟨h1, h2⟩ := areB_iff.1 h
 exact ⟨h1, (h2 x (by simp)).1, (h2 x (by simp)).2, (h2 y (by simp)).1, (h2 y (by simp)).2, e1 h, (e1 h).symm⟩
theorem b8t : ∀ (o : List Str) (k i : Nat), i < o.length -> (mt o o k)[i]? = some ((k + i : Nat) : Int)
 | [], _, _, h => by simp at h
 | x :: o, k, i, h => by
  have e : mt (x :: o) (x :: o) k = (k : Int) :: mt o o (k + 1) := by rw [mt, if_pos rfl]
  rw [e]
  cases i with
  | zero => simp
  | succ i =>
   rw [List.getElem?_cons_succ, b8t o (k + 1) i (by simpa using h)]
   congr 2
   omega
theorem c8a (a b : List Str) (k : Nat) : ∀ (i : Nat) (y : Int), (mt a b k)[i]? = some y -> 0 <= y -> (k : Int) <= y /\ b[(y - k).toNat]? = a[i]? := by
 fun_induction mt a b k with
 | case1 => intro i y h; simp at h
 | case2 x a k ih =>
  intro i y h hy
  cases i with
  | zero => simp at h; omega
  | succ i =>
   rw [List.getElem?_cons_succ] at h
   obtain ⟨h1, h2⟩ := ih i y h hy
   exact ⟨h1, by rw [h2, List.getElem?_cons_succ]⟩
 | case3 a y b k ih =>
  intro i z h hz
  cases i with
  | zero =>
   simp only [List.getElem?_cons_zero, Option.some.injEq] at h
   subst h
   exact ⟨Int.le_refl _, by simp⟩
  | succ i =>
   rw [List.getElem?_cons_succ] at h
   obtain ⟨h1, h2⟩ := ih i z h hz
   refine ⟨by omega, ?_⟩
   have e : (z - (k : Int)).toNat = (z - ((k + 1 : Nat) : Int)).toNat + 1 := by omega
   rw [e, List.getElem?_cons_succ, h2, List.getElem?_cons_succ]
 | case4 x a y b k h1 h2 ih =>
  intro i z h hz
  cases i with
  | zero => simp at h; omega
  | succ i =>
   rw [List.getElem?_cons_succ] at h
   obtain ⟨h1, h2⟩ := ih i z h hz
   exact ⟨h1, by rw [h2, List.getElem?_cons_succ]⟩
 | case5 x a y b k h1 h2 ih =>
  intro i z h hz
  obtain ⟨h1, h2⟩ := ih i z h hz
  refine ⟨by omega, ?_⟩
  have e : (z - (k : Int)).toNat = (z - ((k + 1 : Nat) : Int)).toNat + 1 := by omega
  rw [e, List.getElem?_cons_succ, h2]
def mz (o c : List Str) (i : Nat) : Int := (mtE o c).getD i 0
theorem a9l (o c : List Str) : mz o c o.length = c.length := by
 unfold mz mtE
 rw [List.getD_eq_getElem?_getD, List.getElem?_append_right (by rw [a4T]; exact Nat.le_refl _), a4T]
 simp
theorem c6e {o c : List Str} {i : Nat} (h : i < o.length) : (mt o c 0)[i]? = some (mz o c i) := by
 unfold mz mtE
 have hl : i < (mt o c 0).length := by rw [a4T]; exact h
 rw [List.getD_eq_getElem?_getD, List.getElem?_append_left hl, List.getElem?_eq_getElem hl]; rfl
theorem a9X {o : List Str} {i : Nat} (h : i <= o.length) : mz o o i = i := by
 rcases Nat.lt_or_ge i o.length with h1 | h1
 ·have e1 := c6e (c := o) h1
  have e2 := b8t o 0 i h1
  rw [e1] at e2
  have := Option.some.inj e2
  simpa using this
 ·have : i = o.length := by omega
  subst this
  exact a9l o o
theorem c8b {o c : List Str} {i : Nat} (h : i < o.length) (h0 : 0 <= mz o c i) : c[(mz o c i).toNat]? = o[i]? := by
 have := (c8a o c 0 i _ (c6e h) h0).2
 simpa using this
def lnL (l : List PartD) : List Str := l.flatMap (·.lines)
def nocl (l : List PartD) : Prop := ∀ q ∈ l, q.clash = false
theorem c2Q {l : List PartD} {p : PartD} (hl : nocl l) (hp : p.clash = false) : nocl (put3 l p) /\ lnL (put3 l p) = lnL l ++ p.lines := by
 by_cases he : p.lines = []
 ·rw [a3H hp he, he]; exact ⟨hl, by simp⟩
 ·rcases List.eq_nil_or_concat l with rfl | ⟨m, q, rfl⟩
  ·rw [a3I (by simp -implicitDefEqProofs [he])]
   exact ⟨fun q hq => by rw [List.mem_singleton.1 hq]; exact hp, by simp -implicitDefEqProofs [lnL]⟩
  ·have hq : q.clash = false := hl q (by simp)
   rw [List.concat_eq_append, a5Z hq hp he]
   refine ⟨fun x hx => ?_, by simp -implicitDefEqProofs [lnL]⟩
   rcases List.mem_append.1 hx with hx | hx
   ·exact hl x (by simp -implicitDefEqProofs [hx])
   ·rw [List.mem_singleton.1 hx]; exact hq
theorem c5K {c : List Str} {i j : Nat} (h : i <= j) : c.take i ++ (c.take j).drop i = c.take j := by
 have e : c.take i = (c.take j).take i := by rw [List.take_take]; congr 1; omega
 rw [e, List.take_append_drop]
theorem c3a {o a b c : List Str} (ic : S3 -> Nat) (h0 : ic ⟨0, 0, 0, []⟩ = 0)
  (h2 : ∀ i s, ¬ (mz o a i < 0 \/ mz o b i < 0) -> ic (a2c o a b (mz o a i) (mz o b i) i s) = (mz o c i).toNat + 1)
  (h3 : ∀ i, i <= o.length -> ¬ (mz o a i < 0 \/ mz o b i < 0) ->
   a0Y ((o.take i).drop (run3 o a b i).io) ((a.take (mz o a i).toNat).drop (run3 o a b i).ia) ((b.take (mz o b i).toNat).drop (run3 o a b i).ib) = ⟨false, (c.take (mz o c i).toNat).drop (ic (run3 o a b i)), [], [], []⟩ /\ ic (run3 o a b i) <= (mz o c i).toNat /\ 0 <= mz o c i) :
  ∀ i, i <= o.length + 1 -> nocl (run3 o a b i).out /\ lnL (run3 o a b i).out = c.take (ic (run3 o a b i))
 | 0, _ => ⟨fun q hq => by simp -implicitDefEqProofs [run3] at hq, by
   show lnL [] = c.take (ic ⟨0, 0, 0, []⟩)
   rw [h0]; simp -implicitDefEqProofs [lnL]⟩
 | i + 1, hi => by
  obtain ⟨k1, k2⟩ := c3a ic h0 h2 h3 i (by omega)
  have e : run3 o a b (i + 1) = a2c o a b (mz o a i) (mz o b i) i (run3 o a b i) := rfl
  by_cases hs : mz o a i < 0 \/ mz o b i < 0
  ·have e2 : a2c o a b (mz o a i) (mz o b i) i (run3 o a b i) = run3 o a b i := by unfold a2c; rw [if_pos hs]
   rw [e, e2]; exact ⟨k1, k2⟩
  ·have q2 := h2 i (run3 o a b i) hs
   obtain ⟨q3, q4, q5⟩ := h3 i (by omega) hs
   rw [e, q2]
   have eo : (a2c o a b (mz o a i) (mz o b i) i (run3 o a b i)).out = if i < o.length then put3 (put3 (run3 o a b i).out (a0Y ((o.take i).drop (run3 o a b i).io) ((a.take (mz o a i).toNat).drop (run3 o a b i).ia) ((b.take (mz o b i).toNat).drop (run3 o a b i).ib))) ⟨false, [o.getD i []], [], [], []⟩
     else put3 (run3 o a b i).out (a0Y ((o.take i).drop (run3 o a b i).io) ((a.take (mz o a i).toNat).drop (run3 o a b i).ia) ((b.take (mz o b i).toNat).drop (run3 o a b i).ib)) := by
    unfold a2c
    rw [if_neg hs]
   rw [eo, q3]
   obtain ⟨m1, m2⟩ := c2Q (p := ⟨false, (c.take (mz o c i).toNat).drop (ic (run3 o a b i)), [], [], []⟩) k1 rfl
   have m2 : lnL (put3 (run3 o a b i).out ⟨false, (c.take (mz o c i).toNat).drop (ic (run3 o a b i)), [], [], []⟩) = c.take (mz o c i).toNat := by
    rw [m2, k2]
    exact c5K q4
   split
   ·rename_i hlt
    obtain ⟨n1, n2⟩ := c2Q (p := ⟨false, [o.getD i []], [], [], []⟩) m1 rfl
    refine ⟨n1, ?_⟩
    rw [n2, m2]
    have hh := c8b (c := c) hlt q5
    have ho : o[i]? = some (o.getD i []) := by simp -implicitDefEqProofs [List.getD_eq_getElem?_getD, hlt]
    rw [ho] at hh
    rw [List.take_add_one, hh]; rfl
   ·rename_i hge
    have : i = o.length := by omega
    subst this
    refine ⟨m1, ?_⟩
    rw [m2, a9l]
    have e1 : ((c.length : Int)).toNat = c.length := by omega
    rw [e1, List.take_length, List.take_of_length_le (by omega)]
theorem b3z {o a b c : List Str} (ic : S3 -> Nat) (h0 : ic ⟨0, 0, 0, []⟩ = 0)
  (h2 : ∀ i s, ¬ (mz o a i < 0 \/ mz o b i < 0) -> ic (a2c o a b (mz o a i) (mz o b i) i s) = (mz o c i).toNat + 1)
  (h3 : ∀ i, i <= o.length -> ¬ (mz o a i < 0 \/ mz o b i < 0) ->
   a0Y ((o.take i).drop (run3 o a b i).io) ((a.take (mz o a i).toNat).drop (run3 o a b i).ia) ((b.take (mz o b i).toNat).drop (run3 o a b i).ib) = ⟨false, (c.take (mz o c i).toNat).drop (ic (run3 o a b i)), [], [], []⟩ /\ ic (run3 o a b i) <= (mz o c i).toNat /\ 0 <= mz o c i)
  (hc : a1i c = true) : a1v (of3 o a b) = (c, true) := by
 obtain ⟨k1, k2⟩ := c3a ic h0 h2 h3 (o.length + 1) (Nat.le_refl _)
 have e : ic (run3 o a b (o.length + 1)) = c.length + 1 := by
  have := h2 o.length (run3 o a b o.length) (by rw [a9l, a9l]; omega)
  rw [a9l o c] at this
  have e1 : ((c.length : Int)).toNat = c.length := by omega
  rw [e1] at this
  exact this
 rw [e, List.take_of_length_le (by omega)] at k2
 have k2 : (of3 o a b).flatMap (·.lines) = c := k2
 unfold a1v
 rw [k2, if_neg, if_pos hc]
 simp only [List.any_eq_true, not_exists, not_and]
 intro q hq
 have := k1 q hq
 simp -implicitDefEqProofs [this]
theorem c6i {o a b : List Str} {i : Nat} (hi : i <= o.length) (h : ¬ mz o b i < 0) : (run3 o a b i).ib <= (mz o b i).toNat := by
 obtain ⟨_, _, _, _, h5, _, _⟩ := a5k o a b i (by omega)
 have lb := a4y o b
 have h5 := a5w (l := mtE o b) (i := i) (by omega) h5
 have gb : mz o b i = (mtE o b)[i]'(by omega) := by simp -implicitDefEqProofs [mz, List.getD_eq_getElem?_getD, List.getElem?_eq_getElem (show i < (mtE o b).length by omega)]
 rw [<- gb] at h5
 rcases h5 with h5 | h5 <;> omega
theorem c8E {o a b : List Str} {i : Nat} (hi : i <= o.length) (h : ¬ mz o a i < 0) : (run3 o a b i).ia <= (mz o a i).toNat := by
 obtain ⟨_, _, _, h4, _, _, _⟩ := a5k o a b i (by omega)
 have la := a4y o a
 have h4 := a5w (l := mtE o a) (i := i) (by omega) h4
 have ga : mz o a i = (mtE o a)[i]'(by omega) := by simp -implicitDefEqProofs [mz, List.getD_eq_getElem?_getD, List.getElem?_eq_getElem (show i < (mtE o a).length by omega)]
 rw [<- ga] at h4
 rcases h4 with h4 | h4 <;> omega
theorem step3_ix {o a b : List Str} {x y : Int} {i : Nat} {s : S3} : (a2c o a b x y i s).io = (if x < 0 \/ y < 0 then s.io else i + 1) /\ (a2c o a b x y i s).ia = (if x < 0 \/ y < 0 then s.ia else x.toNat + 1) /\ (a2c o a b x y i s).ib = (if x < 0 \/ y < 0 then s.ib else y.toNat + 1) := by
 unfold a2c
 split <;> exact ⟨rfl, rfl, rfl⟩
theorem b8G (o b : List Str) : ∀ i, i <= o.length + 1 -> (run3 o o b i).ia = (run3 o o b i).io
 | 0, _ => rfl
 | i + 1, h => by
  have ih := b8G o b i (by omega)
  have e : run3 o o b (i + 1) = a2c o o b (mz o o i) (mz o b i) i (run3 o o b i) := rfl
  obtain ⟨e1, e2, e3⟩ := @step3_ix o o b (mz o o i) (mz o b i) i (run3 o o b i)
  rw [e, e1, e2, ih, a9X (by omega)]
  split
  ·rfl
  ·omega
theorem b8H (o a : List Str) : ∀ i, i <= o.length + 1 -> (run3 o a o i).ib = (run3 o a o i).io
 | 0, _ => rfl
 | i + 1, h => by
  have ih := b8H o a i (by omega)
  have e : run3 o a o (i + 1) = a2c o a o (mz o a i) (mz o o i) i (run3 o a o i) := rfl
  obtain ⟨e1, e2, e3⟩ := @step3_ix o a o (mz o a i) (mz o o i) i (run3 o a o i)
  rw [e, e1, e3, ih, a9X (by omega)]
  split
  ·rfl
  ·omega
theorem b8F (o a : List Str) : ∀ i, (run3 o a a i).ia = (run3 o a a i).ib
 | 0 => rfl
 | i + 1 => by
  have ih := b8F o a i
  have e : run3 o a a (i + 1) = a2c o a a (mz o a i) (mz o a i) i (run3 o a a i) := rfl
  obtain ⟨e1, e2, e3⟩ := @step3_ix o a a (mz o a i) (mz o a i) i (run3 o a a i)
  rw [e, e2, e3, ih]
theorem c8y {o b : List Str} (hb : a1i b = true) : a1v (of3 o o b) = (b, true) := by
 refine b3z (·.ib) rfl (fun i s hs => by rw [step3_ix.2.2, if_neg hs]) (fun i hi hs => ?_) hb
 have h1 : ¬ mz o b i < 0 := fun h => hs (.inr h)
 refine ⟨?_, c6i hi h1, by omega⟩
 have e1 : (mz o o i).toNat = i := by rw [a9X hi]; omega
 unfold a0Y
 rw [e1, b8G o b i (by omega), if_pos (.inl rfl)]
theorem c8x {o a : List Str} (ha : a1i a = true) : a1v (of3 o a o) = (a, true) := by
 refine b3z (·.ia) rfl (fun i s hs => by rw [step3_ix.2.1, if_neg hs]) (fun i hi hs => ?_) ha
 have h1 : ¬ mz o a i < 0 := fun h => hs (.inl h)
 refine ⟨?_, c8E hi h1, by omega⟩
 have e1 : (mz o o i).toNat = i := by rw [a9X hi]; omega
 unfold a0Y
 rw [e1, b8H o a i (by omega)]
 split
 ·rename_i q
  have q : List.drop (run3 o a o i).ia (List.take (mz o a i).toNat a) = List.drop (run3 o a o i).io (List.take i o) := by rcases q with q | q <;> exact q
  rw [q]
 ·rw [if_pos rfl]
theorem c4N {o a : List Str} (ha : a1i a = true) : a1v (of3 o a a) = (a, true) := by
 refine b3z (·.ib) rfl (fun i s hs => by rw [step3_ix.2.2, if_neg hs]) (fun i hi hs => ?_) ha
 have h1 : ¬ mz o a i < 0 := fun h => hs (.inl h)
 refine ⟨?_, c6i hi h1, by omega⟩
 unfold a0Y
 rw [b8F o a i, if_pos (.inr rfl)]
theorem c5z (o a b : List FileD) : ∀ (l : List Str) (p : Str), l.Nodup -> getL (runJ o a b l).1 p = if p ∈ l /\ (one6 o a b p).2.1 = true then ((one6 o a b p).1, true) else ([], false) := by
 have gl : ∀ (x y : List FileD) (p : Str), getL (x ++ y) p = if (getL x p).2 then getL x p else getL y p := by
  intro x
  induction x with
  | nil => intro y p; simp -implicitDefEqProofs [getL]
  | cons f x ih =>
   intro y p
   have e1 : getL (f :: x ++ y) p = if f.path = p then (f.text, true) else getL (x ++ y) p := rfl
   have e2 : getL (f :: x) p = if f.path = p then (f.text, true) else getL x p := rfl
   rw [e1, e2, ih]
   by_cases h : f.path = p <;> simp -implicitDefEqProofs [h]
 have key : ∀ (l : List Str) (s : List FileD × List HeadD) (p : Str), l.Nodup -> getL (l.foldl (stepJ o a b) s).1 p = if (getL s.1 p).2 then getL s.1 p else if p ∈ l /\ (one6 o a b p).2.1 = true then ((one6 o a b p).1, true) else ([], false) := by
  intro l
  induction l with
  | nil =>
   intro s p _
   simp only [List.foldl_nil, List.not_mem_nil, false_and, if_false]
   cases h : (getL s.1 p).2 with
   | true => simp
   | false => rw [if_neg (by simp)]; exact Prod.ext (a7k h) h
  | cons q l ih =>
   intro s p hn
   obtain ⟨n1, n2⟩ := List.nodup_cons.1 hn
   rw [List.foldl_cons, ih _ p n2]
   have e : (stepJ o a b s q).1 = if (one6 o a b q).2.1 then s.1 ++ [⟨q, (one6 o a b q).1⟩] else s.1 := rfl
   have g1 : getL [⟨q, (one6 o a b q).1⟩] p = if q = p then ((one6 o a b q).1, true) else ([], false) := rfl
   have e2 : getL (stepJ o a b s q).1 p = if (getL s.1 p).2 then getL s.1 p else if (one6 o a b q).2.1 = true /\ q = p then ((one6 o a b q).1, true) else ([], false) := by
    rw [e]
    cases h : (one6 o a b q).2.1 with
    | true =>
     rw [if_pos rfl, gl, g1]
     simp
    | false =>
     rw [if_neg (by simp)]
     cases h2 : (getL s.1 p).2 with
     | true => simp
     | false => simp; exact Prod.ext (a7k h2) h2
   rw [e2]
   cases h2 : (getL s.1 p).2 with
   | true => simp -implicitDefEqProofs [h2]
   | false =>
    simp only [Bool.false_eq_true, if_false]
    by_cases hq : q = p
    ·subst hq
     cases h : (one6 o a b q).2.1 with
     | true => simp
     | false => simp
    ·have : ¬ p = q := fun e => hq e.symm
     simp -implicitDefEqProofs [hq, this]
 intro l p hn
 have := key l ([], []) p hn
 simpa [runJ, getL] using this
theorem c3b (o a b : List FileD) : ∀ (l : List Str), (runJ o a b l).2 = [] -> ∀ p ∈ l, (one6 o a b p).2.2 <= 0 := by
 have key : ∀ (l : List Str) (s : List FileD × List HeadD), (l.foldl (stepJ o a b) s).2 = [] -> s.2 = [] /\ ∀ p ∈ l, (one6 o a b p).2.2 <= 0 := by
  intro l
  induction l with
  | nil => intro s h; exact ⟨h, fun p hp => by cases hp⟩
  | cons q l ih =>
   intro s h
   obtain ⟨h1, h2⟩ := ih _ h
   have e : (stepJ o a b s q).2 = if 0 < (one6 o a b q).2.2 then s.2 ++ [⟨q, (one6 o a b q).2.2⟩] else s.2 := rfl
   rw [e] at h1
   split at h1
   ·simp at h1
   ·rename_i hk
    refine ⟨h1, fun p hp => ?_⟩
    rcases List.mem_cons.1 hp with rfl | hp
    ·omega
    ·exact h2 p hp
 intro l h
 exact (key l ([], []) h).2
theorem c1S {o a b t : List FileD} (h : a1b o a b = (t, [])) {p : Str} (hp : p ∈ (o ++ a ++ b).map (·.path)) : (one6 o a b p).2.2 <= 0 /\ getL t p = if (one6 o a b p).2.1 then ((one6 o a b p).1, true) else ([], false) := by
 unfold a1b at h
 split at h
 ·simp at h
 ·obtain ⟨h1, h2⟩ := a5P o a b
  have hn : (a0H o a b).Nodup := h1.imp fun h e => by rw [e] at h; exact a3w _ h
  have hm := (h2 p).2 hp
  have e : of6 o a b = runJ o a b (a0H o a b) := rfl
  rw [e] at h
  refine ⟨c3b o a b _ (by rw [h]) p hm, ?_⟩
  have := c5z o a b (a0H o a b) p hn
  rw [h] at this
  simpa [hm] using this
theorem b9A {o a b t : List FileD} (ho : a0s o = true) (ha : a0s a = true) (hb : a0s b = true) (h : a1b o a b = (t, [])) {p : Str} (hp : (getL o p).2 = true) (hpa : (getL a p).2 = true) (hpb : (getL b p).2 = true) :
  (a1v (of3 (getL o p).1 (getL a p).1 (getL b p).1)).2 = true /\ getL t p = ((a1v (of3 (getL o p).1 (getL a p).1 (getL b p).1)).1, true) := by
 have hm : p ∈ (o ++ a ++ b).map (·.path) := by
  simp only [List.map_append, List.mem_append]
  exact .inl (.inl (gl_there.1 hp))
 obtain ⟨k1, k2⟩ := c1S h hm
 have ta := a3P ha p
 have tb := a3P hb p
 have hsame : ∀ x y : List Str × Bool, x.2 = true -> a1y x y = true -> x.1 = y.1 := fun x y h h' => by
  unfold a1y at h'
  simp only [h, Bool.and_eq_true, Bool.not_true, Bool.false_or, decide_eq_true_eq] at h'
  exact h'.2
 by_cases c1 : (a1y (getL a p) (getL o p) || a1y (getL a p) (getL b p)) = true
 ·have eo : one6 o a b p = ((getL b p).1, (getL b p).2, 0) := by unfold one6; rw [if_pos c1]
  rw [eo] at k2
  simp only [hpb, if_true] at k2
  rw [Bool.or_eq_true] at c1
  rw [k2]
  rcases c1 with c1 | c1
  ·rw [hsame _ _ hpa c1, c8y tb]; exact ⟨rfl, rfl⟩
  ·rw [<- hsame _ _ hpa c1, c4N ta]; exact ⟨rfl, rfl⟩
 ·by_cases c2 : a1y (getL b p) (getL o p) = true
  ·have eo : one6 o a b p = ((getL a p).1, (getL a p).2, 0) := by unfold one6; rw [if_neg c1, if_pos c2]
   rw [eo] at k2
   simp only [hpa, if_true] at k2
   rw [k2, hsame _ _ hpb c2, c8x ta]; exact ⟨rfl, rfl⟩
  ·by_cases c3 : (a1v (of3 (getL o p).1 (getL a p).1 (getL b p).1)).2 = true
   ·have eo : one6 o a b p = ((a1v (of3 (getL o p).1 (getL a p).1 (getL b p).1)).1, true, 0) := by
     unfold one6; rw [if_neg c1, if_neg c2, if_neg (by simp -implicitDefEqProofs [hpa, hpb]), if_neg (by simp -implicitDefEqProofs [hp]), if_pos c3]
    rw [eo] at k2
    simp only [if_true] at k2
    exact ⟨c3, k2⟩
   ·have eo : one6 o a b p = ((getL o p).1, true, 3) := by
     unfold one6; rw [if_neg c1, if_neg c2, if_neg (by simp -implicitDefEqProofs [hpa, hpb]), if_neg (by simp -implicitDefEqProofs [hp]), if_neg c3]
    rw [eo] at k1
    simp at k1
theorem b6R {r : RepoD} (h : a0j r = true) {n w : Str} {b c : Int} (hc : (a0u r n w b).2 = 0) (hb : a1B r (atL r.heads n) b = [c]) :
  (0 <= atL r.heads n /\ atL r.heads n < r.commits.length) /\ (0 <= b /\ b < r.commits.length) /\ (0 <= c /\ c < r.commits.length) /\ a0j (a0u r n w b).1 = true /\
  (0 <= atL (a0u r n w b).1.heads n /\ atL (a0u r n w b).1.heads n < (a0u r n w b).1.commits.length) /\
  ∀ f ∈ a0e r c, (getL (a0e r (atL r.heads n)) f.path).2 = true -> (getL (a0e r b) f.path).2 = true ->
   (mrgI f.text (getL (a0e r (atL r.heads n)) f.path).1 (getL (a0e r b) f.path).1).2 = true /\
   getL (a0e (a0u r n w b).1 (atL (a0u r n w b).1.heads n)) f.path = ((mrgI f.text (getL (a0e r (atL r.heads n)) f.path).1 (getL (a0e r b) f.path).1).1, true) := by
 have hI : a0l r = true := by rw [a0D]; exact h
 have hU := c3t h n w b
 have hin := @b0C r (atL r.heads n) b c (by rw [hb]; simp)
 have hB : a1P r (atL r.heads n) b = a0e r c := by unfold a1P; rw [<- b0B, hb]; rfl
 generalize a0u r n w b = X at *
 cases hU with
 | form => simp at hc
 | same _ _ _ _ _ => simp at hc
 | full => simp at hc
 | clash a1 a2 b1 b2 hc' => simp at hc
 | on a1 a2 b1 b2 g1 g2 hr => simp at hc
 | made t a1 a2 b1 b2 g1 g2 hj hr =>
  rw [hB] at hj
  have to := a1C hI hin
  have ta := a1C hI ⟨a1, a2⟩
  have tb := a1C hI ⟨b1, b2⟩
  refine ⟨⟨a1, a2⟩, ⟨b1, b2⟩, hin, hr, ?_, fun f hf q1 q2 => ?_⟩
  ·rw [a4q h, if_pos rfl]
   exact ⟨by omega, by simp [addR]; omega⟩
  ·rw [a4q h, if_pos rfl, b2C]
   have hg := c6a (b6W to) hf
   obtain ⟨k1, k2⟩ := b9A to ta tb hj (p := f.path) (by rw [hg]) q1 q2
   rw [hg] at k1 k2
   have m : mrgI f.text (getL (a0e r (atL r.heads n)) f.path).1 (getL (a0e r b) f.path).1 = a1v (of3 f.text (getL (a0e r (atL r.heads n)) f.path).1 (getL (a0e r b) f.path).1) := by
    have hft : a1i f.text = true := by have := a3P to f.path; rw [hg] at this; exact this
    unfold mrgI; rw [hft, a3P ta, a3P tb]; rfl
   rw [m]
   exact ⟨k1, k2⟩
--TAB a0R
def rtT (r : RepoD) (n w : Str) (b : Int) : List FileD := a0e (a0u r n w b).1 (atL (a0u r n w b).1.heads n)
def rtOk (r : RepoD) (n w : Str) (b c : Int) : Prop := a0l r = true /\ (a0u r n w b).2 = 0 /\ a1B r (atL r.heads n) b = [c]
theorem c0h {t : List FileD} (h : a0s t = true) : okSz t := ⟨(a6a h).1, (a6a h).2, fun f hf => by have := (a4k h f hf).1.2; omega⟩
theorem a6Y {t : List FileD} (h : a0s t = true) (p : Str) : a4m t p = getL t p := by unfold a4m; rw [if_pos h, b8o]
def frtI : Inv := ⟨RepoD × Str × Str × Int × Int × Nat, fun y => ⟨[(2, true, .bool false), (3, true, .ptr 10 0), (6, true, .int .i64 y.2.2.2.1), (11, true, .int .i64 (atL y.1.heads y.2.1)), (13, true, .sl false 2 (a0b (a0e y.1 y.2.2.2.2.1))), (14, true, .own 9 2 (a0b (rtT y.1 y.2.1 y.2.2.1 y.2.2.2.1))), (16, true, .int .i64 y.2.2.2.2.2)],
 [(10, .box 26 [.sl false 3 (a0i y.1.commits), .sl false 2 (a0c y.1.heads)]), (9, .own 39 2 true (a0b (rtT y.1 y.2.1 y.2.2.1 y.2.2.2.1)))]⟩, fun y => y.2.2.2.2.2 <= (a0e y.1 y.2.2.2.2.1).length /\ rtOk y.1 y.2.1 y.2.2.1 y.2.2.2.1 y.2.2.2.2.1, fun y => 8 - y.2.2.2.2.2⟩
def b0j : Con := .fn 182 Str (fun s => [.sl true 1 (a1l s)]) (fun _ => True) (fun _ => .bool true) (fun _ => [])
theorem b3f : Has Tryz.prog 8 b0j := by
 refine a0d mixed a0K (HasL.cons a5H (HasL.cons a7A (HasL.cons a8D (HasL.cons a8s (HasL.cons a8o (HasL.cons b5b (HasL.cons a9u (HasL.cons b7X (HasL.cons a8B (HasL.cons b0v HasL.nil)))))))))) [0, 2, 3, 4, 5, 6, 7, 8, 9, 10, 11, 12, 13, 14, 16, 17, 18, 19, 20, 21, 22, 23, 24] ((fun a n (_ : Nat) => (fun _ _ => frtI) a n)) [12287] Tryz.func8 (by unfold Tryz.f8; rfl) (fun _ => ⟨(), trivial⟩) ?_
 intro (s : Str) _
 simp (maxSteps := 8000000) -implicitDefEqProofs [-kStep_move, -kStepC_move, -Bool.exists_bool, b0j, a3Z, a5p, a5K, a7e, a7d, a8L, a6y, b0T, a5J, a7T, Con.fn, a0R, tTab, frtI]
 try dsimp only
 refine fun _ _ r n w b hd => ⟨r, n, w, b, ⟨⟨rfl, rfl⟩, rfl, rfl, rfl⟩, a4w hd, r, n, w, b, ⟨⟨rfl, rfl⟩, rfl, rfl, rfl⟩, b0W hd, (a0u r n w b).1, (a0u r n w b).1, ⟨⟨rfl, rfl⟩, rfl, rfl⟩, ?_⟩
 have hp := a4w hd
 simp only [true_and, and_true, not_true, false_or, or_false, true_implies, and_self]
 refine ⟨fun _ => trivial, fun hc => ?_⟩
 have hI : a0l r = true := by
  cases h : a0l r with
  | true => rfl
  | false => rw [c6j h] at hc; cases hc
 have hS : a0j r = true := by rw [<- a0D]; exact hI
 refine ⟨r, n, ⟨⟨rfl, rfl⟩, rfl⟩, hp, r, _, b, ⟨⟨rfl, rfl⟩, rfl, rfl⟩, hp, ?_⟩
 rw [a3S hI]
 intro _ hl1
 obtain ⟨c, hbs⟩ : ∃ c, a3h r (atL r.heads n) b = [c] := List.length_eq_one_iff.1 (by omega)
 have hbI : a1B r (atL r.heads n) b = [c] := by
  unfold a3h at hbs
  split at hbs
  ·exact hbs
  ·cases hbs
 obtain ⟨⟨a1, a2⟩, ⟨b1, b2⟩, ⟨c1, c2⟩, x1, ⟨x2, x3⟩, L⟩ := b6R hS hc hbI
 have hXI : a0l (a0u r n w b).1 = true := by rw [a0D]; exact x1
 have hX := (a3g hXI).2
 have hi : c.toNat < r.commits.length := by omega
 have e2 : Option.map a0k r.commits[c.toNat]? = some (a0k r.commits[c.toNat]) := by simp -implicitDefEqProofs [hi]
 have e5 : a0e r c = r.commits[c.toNat].tree := by unfold a0e; simp -implicitDefEqProofs [List.getD_eq_getElem?_getD, hi]
 rw [hbs]
 simp -implicitDefEqProofs [eInt, D.asInt, D.asRows, a0k, c1, c2, e2]
 refine ⟨(a0u r n w b).1, n, ⟨⟨rfl, rfl⟩, rfl⟩, hX, (a0u r n w b).1, _, ⟨⟨rfl, rfl⟩, rfl⟩, hX, ?_⟩
 rw [a3S hXI, a6X hXI x2 x3]
 refine ⟨⟨r, n, w, b, c, 0, ⟨⟨rfl, rfl, e5, rfl, rfl⟩, ⟨rfl, rfl⟩, rfl⟩, Nat.zero_le _, hI, hc, hbI⟩, ?_⟩
 clear e5 e2 hi hX hXI L x3 x2 x1 c2 c1 b2 b1 a2 a1 hbI hbs hl1 hS hI hc hp hd
 intro r n w b c t ht hO _ hlt
 obtain ⟨hI, hc, hbI⟩ := hO
 have hS : a0j r = true := by rw [<- a0D]; exact hI
 obtain ⟨⟨a1, a2⟩, ⟨b1, b2⟩, ⟨c1, c2⟩, x1, ⟨x2, x3⟩, L⟩ := b6R hS hc hbI
 have hXI : a0l (a0u r n w b).1 = true := by rw [a0D]; exact x1
 have to := a1C hI ⟨c1, c2⟩
 have ta := a1C hI ⟨a1, a2⟩
 have tb := a1C hI ⟨b1, b2⟩
 have tx : a0s (rtT r n w b) = true := a1C hXI ⟨x2, x3⟩
 have hia : (atL r.heads n).toNat < r.commits.length := by omega
 have hib : b.toNat < r.commits.length := by omega
 have e1 : Option.map a0k r.commits[(atL r.heads n).toNat]? = some (a0k r.commits[(atL r.heads n).toNat]) := by simp -implicitDefEqProofs [hia]
 have e2 : Option.map a0k r.commits[b.toNat]? = some (a0k r.commits[b.toNat]) := by simp -implicitDefEqProofs [hib]
 have e3 : a0e r (atL r.heads n) = r.commits[(atL r.heads n).toNat].tree := by unfold a0e; simp -implicitDefEqProofs [List.getD_eq_getElem?_getD, hia]
 have e4 : a0e r b = r.commits[b.toNat].tree := by unfold a0e; simp -implicitDefEqProofs [List.getD_eq_getElem?_getD, hib]
 have e6 : Option.map a0z (a0e r c)[t]? = some (a0z (a0e r c)[t]) := by simp -implicitDefEqProofs [hlt]
 have L := L _ (List.getElem_mem hlt)
 have hl8 := (a8w _ to).1
 rw [e3] at L ta
 rw [e4] at L tb
 simp -implicitDefEqProofs [a1, a2, b1, b2, e1, e2, e6, hlt, a0k, a0z, D.asRows, D.asStr]
 refine ⟨_, _, ⟨rfl, rfl⟩, c0h ta, _, _, ⟨rfl, rfl⟩, c0h tb, _, _, ⟨rfl, rfl⟩, c0h tx, _, _, _, ⟨rfl, rfl, rfl⟩, _, _, ⟨rfl, rfl⟩, ?_⟩
 rw [a6Y ta, a6Y tb, a6Y tx]
 have L' : (getL r.commits[(atL r.heads n).toNat].tree (a0e r c)[t].path).2 = true -> (getL r.commits[b.toNat].tree (a0e r c)[t].path).2 = true -> (mrgI (a0e r c)[t].text (getL r.commits[(atL r.heads n).toNat].tree (a0e r c)[t].path).1 (getL r.commits[b.toNat].tree (a0e r c)[t].path).1).2 = true /\ getL (rtT r n w b) (a0e r c)[t].path = ((mrgI (a0e r c)[t].text (getL r.commits[(atL r.heads n).toNat].tree (a0e r c)[t].path).1 (getL r.commits[b.toNat].tree (a0e r c)[t].path).1).1, true) := L
 clear L
 generalize getL r.commits[(atL r.heads n).toNat].tree (a0e r c)[t].path = ga at *
 generalize getL r.commits[b.toNat].tree (a0e r c)[t].path = gb at *
 generalize getL (rtT r n w b) (a0e r c)[t].path = gx at *
 obtain ⟨ga1, ga2⟩ := ga
 obtain ⟨gb1, gb2⟩ := gb
 obtain ⟨gx1, gx2⟩ := gx
 generalize mrgI (a0e r c)[t].text ga1 gb1 = M at *
 obtain ⟨m1, m2⟩ := M
 dsimp only at L' ⊢
 cases ga2 with
 | false =>
  simp -implicitDefEqProofs
  exact ⟨⟨by omega, by omega⟩, fun _ _ => ⟨r, n, w, b, c, t + 1, ⟨⟨rfl, rfl, rfl, rfl, by omega⟩, ⟨rfl, rfl⟩, rfl⟩, ⟨by omega, hI, hc, hbI⟩, by omega⟩⟩
 | true =>
  cases gb2 with
  | false =>
   simp -implicitDefEqProofs
   exact ⟨⟨by omega, by omega⟩, fun _ _ => ⟨r, n, w, b, c, t + 1, ⟨⟨rfl, rfl, rfl, rfl, by omega⟩, ⟨rfl, rfl⟩, rfl⟩, ⟨by omega, hI, hc, hbI⟩, by omega⟩⟩
  | true =>
   obtain ⟨q1, q2⟩ := L' rfl rfl
   cases q2
   subst q1
   simp -implicitDefEqProofs
   exact ⟨_, _, ⟨rfl, rfl⟩, rfl, fun _ => ⟨⟨by omega, by omega⟩, fun _ _ => ⟨r, n, w, b, c, t + 1, ⟨⟨rfl, rfl, rfl, rfl, by omega⟩, ⟨rfl, rfl⟩, rfl⟩, ⟨by omega, hI, hc, hbI⟩, by omega⟩⟩⟩
end Vx
end Go.Proofs.YtokdjnbcdokpjaaGreatDoor
