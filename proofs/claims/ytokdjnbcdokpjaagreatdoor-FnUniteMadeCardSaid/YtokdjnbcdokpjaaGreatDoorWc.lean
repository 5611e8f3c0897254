/-
  Joined by program (merge.py): Mi, Mj, Mm, Mn, Td, Ng, He, Mo, Tl, Tq. It shows what the single texts show; conditions: none but those of each lemma.
-/
import Derived.Test.YtokdjnbcdokpjaaGreatDoorWb
set_option linter.unusedVariables false
set_option linter.unusedSimpArgs false
set_option linter.unusedSectionVars false
namespace Go.Proofs.YtokdjnbcdokpjaaGreatDoor
set_option maxHeartbeats 4000000
namespace Vx
open Go.RowKit
set_option maxRecDepth 8000
--TAB a1g
def opSz (o : OpD) : Prop := o.path.length <= 1048576 /\ o.to_.length <= 1048576 /\ o.text.length <= 1048576
def a9D : Con := .fn 29 (RepoD × OpD × (List FileD × Bool)) (fun a => [a1f a.1, vOp a.2.1, .sl true 2 (a0b a.2.2.1), .bool a.2.2.2]) (fun a => rpSz a.1 /\ a.2.2.1.length <= 1048576 /\ ∀ f ∈ a.2.2.1, f.text.length <= 1048576) (fun a => .tup [.agg [.sl false 3 (a0g (a2J a.1 a.2.1 a.2.2).1.commits), .sl false 2 (a0c (a2J a.1 a.2.1 a.2.2).1.heads)], .int .i64 (a2J a.1 a.2.1 a.2.2).2]) (fun _ => [])
theorem b6f : Has Tryz.prog 207 a9D := by
 refine a0d mixed a1b (HasL.cons b2g HasL.nil) [0, 1, 2, 3, 4, 5, 8, 9, 10, 11] ((fun a n (_ : Nat) => (fun _ => a0w) a n)) [] Tryz.func207 (by unfold Tryz.f207; rfl) (fun _ => ⟨(), trivial⟩) ?_
 intro a ha
 obtain ⟨r, o, t, k⟩ := a
 obtain ⟨h1, h2, h3⟩ : rpSz r /\ t.length <= 1048576 /\ ∀ f ∈ t, f.text.length <= 1048576 := ha
 simp (maxSteps := 8000000) -implicitDefEqProofs [-kStep_move, -Bool.exists_bool, a9D, a6j, Con.fn, a1g, tTab, a0B, bOp]
 try dsimp only
 simp -implicitDefEqProofs only [and_assoc, exists_eq_left, exists_and_left, RepoD.ex1, RepoD.eta, OpD.ex1, OpD.eta]
 refine ⟨fun h => ?_, fun h => ⟨h1, h2, h3, fun h' => ?_, fun h' => ?_⟩⟩
 ·unfold a2J; rw [if_neg (by simp -implicitDefEqProofs [h])]; exact ⟨rfl, rfl, rfl⟩
 ·unfold a2J; rw [if_pos h, if_neg (by simp -implicitDefEqProofs [h'])]; exact ⟨rfl, rfl, rfl⟩
 ·unfold a2J; rw [if_pos h, if_pos h']; exact ⟨rfl, rfl, rfl⟩
theorem b3l {t : List FileD} (h : a0O t = true) (f : FileD) : a0O (a3B t f).1 = true := by
 unfold a3B
 rw [if_pos h]
 split
 ·assumption
 ·exact h
theorem b2j {t : List FileD} (h : a0O t = true) (p to : Str) : a0O (a1I t p to).1 = true := by
 unfold a1I
 rw [if_pos h]
 split
 ·exact h
 ·split
  ·exact h
  ·rename_i q
   cases q2 : a0O (mvFs p to (filB (a1l p) t) t) with
   | true => rfl
   | false => exact absurd (.inl q2) q
theorem b5z {t : List FileD} (h : a0O t = true) (p : Str) : szT (a3b t p).1 := by
 unfold a3b filB
 rw [if_pos h]
 obtain ⟨h1, h2⟩ := a2t h
 exact ⟨Nat.le_trans (List.length_filter_le _ _) h1, fun f hf => h2 f (List.mem_filter.1 hf).1⟩
theorem b1m {t : List FileD} (h : a0O t = true) : ∀ f ∈ t, f.path.length <= 20 := fun f hf => (a4T (by rw [a3Q]; exact h) f hf).1.2
theorem a5Z {t : List FileD} (h : szT t) : t.length <= 1048576 /\ ∀ f ∈ t, f.text.length <= 1048576 := ⟨by have := h.1; omega, fun f hf => by have := h.2 f hf; omega⟩
theorem b6A {r : RepoD} (h : a0n r = true) (n : Str) : a0O (a2K r n) = true := by
 unfold a2K
 split
 ·exact a2h h _
 ·rfl
def b3X : Con := .fn 134 (RepoD × OpD) (fun a => [a1f a.1, vOp a.2]) (fun a => a0n a.1 = true /\ opSz a.2) (fun a => .tup [.agg [.sl false 3 (a0g (do19 a.1 a.2).1.commits), .sl false 2 (a0c (do19 a.1 a.2).1.heads)], .int .i64 (do19 a.1 a.2).2]) (fun _ => [])
theorem c0r : Has Tryz.prog 189 b3X := by
 refine a0d mixed a1b (HasL.cons a3w (HasL.cons b5A (HasL.cons b3j (HasL.cons b3k (HasL.cons b6f (HasL.cons b2e (HasL.cons a7K (HasL.cons b8F (HasL.cons b5e HasL.nil))))))))) [0, 1, 2, 3, 4, 5, 6, 7, 8, 9, 10, 11, 12, 13, 14, 15, 30] ((fun a n (_ : Nat) => (fun _ => a0w) a n)) [] Tryz.func189 (by unfold Tryz.f189; rfl) (fun _ => ⟨(), trivial⟩) ?_
 intro a ha
 obtain ⟨r, o⟩ := a
 obtain ⟨h1, h2, h3, h4⟩ : a0n r = true /\ opSz o := ha
 simp (maxSteps := 8000000) -implicitDefEqProofs [-kStep_move, -Bool.exists_bool, b3X, a4M, a8c, a7e, a7f, a9D, a6i, a5g, b1K, a7Z, Con.fn, a1g, tTab, a0B, bOp]
 try dsimp only
 simp -implicitDefEqProofs only [and_assoc, exists_eq_left, exists_and_left, RepoD.ex1, RepoD.eta, OpD.ex1, OpD.eta]
 have hsz := a7x h1
 have hat := b0n (n := o.branch) ((a1c r).1 h1).2.1
 have hT := b6A h1 o.branch
 have e1 : o.kind = 1 -> do19 r o = a2J r o (a3B (a2K r o.branch) ⟨o.path, o.text⟩) := fun h => by unfold do19; rw [if_pos h]
 have e2 : o.kind = 2 -> do19 r o = a2J r o (a3b (a2K r o.branch) o.path) := fun h => by unfold do19; rw [if_neg (by omega), if_pos h]
 have e3 : o.kind = 3 -> do19 r o = a2J r o (a1I (a2K r o.branch) o.path o.to_) := fun h => by unfold do19; rw [if_neg (by omega), if_neg (by omega), if_pos h]
 have e4 : o.kind = 4 -> (a1e r o.to_ (atL r.heads o.branch)).2 = true -> do19 r o = ((a1e r o.to_ (atL r.heads o.branch)).1, 0) := fun h h' => by unfold do19; rw [if_neg (by omega), if_neg (by omega), if_neg (by omega), if_pos h, if_pos h']
 have e4' : o.kind = 4 -> (a1e r o.to_ (atL r.heads o.branch)).2 = false -> do19 r o = (r, 1) := fun h h' => by unfold do19; rw [if_neg (by omega), if_neg (by omega), if_neg (by omega), if_pos h, if_neg (by simp -implicitDefEqProofs [h'])]
 have e5 : o.kind = 5 -> do19 r o = a0F r o.branch o.who (atL r.heads o.to_) := fun h => by unfold do19; rw [if_neg (by omega), if_neg (by omega), if_neg (by omega), if_neg (by omega), if_pos h]
 have e6 : o.kind = 6 -> do19 r o = a1H false r o.branch o.who o.at_ := fun h => by unfold do19; rw [if_neg (by omega), if_neg (by omega), if_neg (by omega), if_neg (by omega), if_neg (by omega), if_pos h]
 have e7 : ¬ o.kind = 1 -> ¬ o.kind = 2 -> ¬ o.kind = 3 -> ¬ o.kind = 4 -> ¬ o.kind = 5 -> ¬ o.kind = 6 -> do19 r o = a1H true r o.branch o.who o.at_ := fun k1 k2 k3 k4 k5 k6 => by unfold do19; rw [if_neg k1, if_neg k2, if_neg k3, if_neg k4, if_neg k5, if_neg k6]
 have s1 := a5Z (a2t (b3l hT ⟨o.path, o.text⟩))
 have s2 := a5Z (b5z hT o.path)
 have s3 := a5Z (a2t (b2j hT o.path o.to_))
 have s0 := a2t hT
 have sp := b1m hT
 have sp : ∀ f ∈ a2K r o.branch, f.path.length <= 1048576 := fun f hf => by have := sp f hf; omega
 have sl : (a2K r o.branch).length <= 1048575 := by have := s0.1; omega
 have st := (a5Z s0).2
 refine ⟨fun hp => ⟨hp, by omega, fun _ _ => ?_⟩, fun hn => ?_⟩
 ·have ca := cget (r := r) hp (by omega)
  have eT : a0k r (atL r.heads o.branch) = a2K r o.branch := by unfold a2K; rw [if_pos hp]
  rw [ca, eT]
  simp -implicitDefEqProofs [D.asRows]
  exact ⟨fun h => ⟨sl, st, h4, hsz, s1.1, s1.2, by rw [e1 h]; exact ⟨rfl, rfl, rfl⟩⟩, fun k1 => ⟨fun h => ⟨(a5Z s0).1, st, hsz, s2.1, s2.2, by rw [e2 h]; exact ⟨rfl, rfl, rfl⟩⟩, fun k2 => ⟨fun h => ⟨(a5Z s0).1, st, h3, sp, hsz, s3.1, s3.2, by rw [e3 h]; exact ⟨rfl, rfl, rfl⟩⟩, fun k3 => ⟨fun h => ⟨hsz, fun h' => by rw [e4' h h']; exact ⟨rfl, rfl, rfl⟩, fun h' => by rw [e4 h h']; exact ⟨rfl, rfl, rfl⟩⟩, fun k4 => ⟨fun h => ⟨hsz, by rw [e5 h]; exact ⟨rfl, rfl, rfl⟩⟩, fun k5 => ⟨fun h => ⟨hsz, by rw [e6 h]; exact ⟨rfl, rfl, rfl⟩⟩, fun k6 => ⟨hsz, by rw [e7 k1 k2 k3 k4 k5 k6]; exact ⟨rfl, rfl, rfl⟩⟩⟩⟩⟩⟩⟩⟩
 ·have eT : a2K r o.branch = [] := by unfold a2K; rw [if_neg (by omega)]
  simp -implicitDefEqProofs only [FileD.ex1]
  rw [<- eT]
  exact ⟨fun h => ⟨sl, st, h4, hsz, s1.1, s1.2, by rw [e1 h]; exact ⟨rfl, rfl, rfl⟩⟩, fun k1 => ⟨fun h => ⟨(a5Z s0).1, st, hsz, s2.1, s2.2, by rw [e2 h]; exact ⟨rfl, rfl, rfl⟩⟩, fun k2 => ⟨fun h => ⟨(a5Z s0).1, st, h3, sp, hsz, s3.1, s3.2, by rw [e3 h]; exact ⟨rfl, rfl, rfl⟩⟩, fun k3 => ⟨fun h => ⟨hsz, fun h' => by rw [e4' h h']; exact ⟨rfl, rfl, rfl⟩, fun h' => by rw [e4 h h']; exact ⟨rfl, rfl, rfl⟩⟩, fun k4 => ⟨fun h => ⟨hsz, by rw [e5 h]; exact ⟨rfl, rfl, rfl⟩⟩, fun k5 => ⟨fun h => ⟨hsz, by rw [e6 h]; exact ⟨rfl, rfl, rfl⟩⟩, fun k6 => ⟨hsz, by rw [e7 k1 k2 k3 k4 k5 k6]; exact ⟨rfl, rfl, rfl⟩⟩⟩⟩⟩⟩⟩⟩
def rpI (l : List OpD) : Inv := ⟨Nat, fun i => ⟨[(0, true, .sl true 7 (eOps l)), (2, true, .ptr 10 0), (3, true, .ptr 11 0), (4, true, .int .i64 i)], [(10, b0o), (11, .box 26 [.sl false 3 (a0g (a4R (l.take i)).commits), .sl false 2 (a0c (a4R (l.take i)).heads)])]⟩, fun i => i <= l.length /\ i <= 30, fun i => l.length - i⟩
def a7d : Con := .fn 34 (List OpD) (fun l => [.sl true 7 (eOps l)]) (fun l => ∀ o ∈ l, opSz o) (fun l => .agg [.sl false 3 (a0g (b1f l).commits), .sl false 2 (a0c (b1f l).heads)]) (fun _ => [])
theorem b3g : Has Tryz.prog 162 a7d := by
 refine a0d mixed a1b (HasL.cons c0s (HasL.cons c0r HasL.nil)) [0, 2, 3, 4, 5] ((fun a n (_ : Nat) => (fun l _ => rpI l) a n)) [12287] Tryz.func162 (by unfold Tryz.f162; rfl) (fun _ => ⟨(), trivial⟩) ?_
 intro (l : List OpD) (ha : ∀ o ∈ l, opSz o)
 simp (maxSteps := 8000000) -implicitDefEqProofs [-kStep_move, -Bool.exists_bool, a7d, b3Y, b3X, Con.fn, a1g, tTab, rpI]
 try dsimp only
 simp -implicitDefEqProofs only [and_assoc, exists_eq_left, exists_and_left, RepoD.ex1, RepoD.eta, OpD.ex1, OpD.eta]
 refine ⟨rfl, rfl, Nat.zero_le _, Nat.zero_le _, fun t ht h30 _ => ⟨fun hlt h30' => ⟨hlt, fun _ => ?_⟩, ?_⟩⟩
 ·have qq : Option.map eOp l[t]? = some (eOp l[t]) := by simp -implicitDefEqProofs [hlt]
  have hs := b8K hlt
  have hok := (b0b (l.take t)).1
  have ho := ha l[t] (List.getElem_mem hlt)
  rw [qq]
  generalize a4R (l.take t) = R at *
  generalize l[t] = o at *
  simp -implicitDefEqProofs [eOp, D.asInt, D.asStr, D.asRows]
  refine ⟨ho.2.2, fun hb => ⟨hlt, fun _ => ⟨hok, ho, by omega, by omega, fun _ _ => ⟨t + 1, by omega, by rw [hs, if_pos hb], by rw [hs, if_pos hb], by omega, by omega, by omega⟩⟩⟩, fun hb => ⟨by omega, by omega, fun _ _ => ⟨t + 1, by omega, by rw [hs, if_neg (by simp -implicitDefEqProofs [hb])], by rw [hs, if_neg (by simp -implicitDefEqProofs [hb])], by omega, by omega, by omega⟩⟩⟩
 ·intro h
  have e : b1f l = a4R (l.take t) := by
   unfold b1f
   rcases Nat.lt_or_ge t l.length with h1 | h1
   ·have := h h1
    have : t = 30 := by omega
    rw [this]
   ·rw [List.take_of_length_le h1, List.take_of_length_le (by omega)]
  rw [e]; exact ⟨rfl, rfl⟩
def a9z : Con := { A := Str × Int, X := Str, n := 6, args := fun _ => [.ptr 0 0], boxes := fun a => [(0, 149, [.sl true 1 (a1m a.1), .int .i64 a.2])], pre := fun a => a.1.length <= 2000 /\ 0 <= a.2 /\ a.2 <= 1073741800, post := fun _ x => x.length <= 4, res := fun _ x => .str x, fin := fun a _ => [(0, a3d a.1 (a.2 + 1))], nob := false }
theorem b5L : Has Tryz.prog 212 a9z := by
 refine a0d mixed a0e (HasL.cons of_has HasL.nil) [0, 2] ((fun a n (_ : Nat) => (fun _ => a0w) a n)) [] Tryz.func212 (by unfold Tryz.f212; rfl) (fun _ => ⟨([] : Str), Nat.zero_le 4⟩) ?_
 intro a ha
 obtain ⟨s, p⟩ := a
 obtain ⟨h1, h2, h3⟩ : s.length <= 2000 /\ 0 <= p /\ p <= 1073741800 := ha
 simp -implicitDefEqProofs [a9z, cOf, tTab, a1U, clash, kd, a2i, a2L]
 exact ⟨s, p, ⟨rfl, rfl⟩, ⟨h1, by omega, by omega⟩, by simp⟩
def a6v (o : OpD) : Prop := (1 <= o.kind /\ o.kind <= 7) /\ o.branch.length <= 4 /\ o.who.length <= 3 /\ o.path.length <= 5 /\ o.to_.length <= 5 /\ (0 <= o.at_ /\ o.at_ <= 9) /\ o.text.length <= 8 /\ ∀ s ∈ o.text, s.length <= 7
def cOpD : Con := { A := Str × Int, X := OpD × Int, n := 63, args := fun _ => [.ptr 0 0], boxes := fun a => [(0, 149, [.sl true 1 (a1m a.1), .int .i64 a.2])], pre := fun a => a.1.length <= 2000 /\ 0 <= a.2 /\ a.2 <= 1073741500, post := fun a x => a6v x.1 /\ a.2 <= x.2 /\ x.2 <= a.2 + 20, res := fun _ x => .agg [.int .i64 x.1.kind, .str x.1.branch, .str x.1.who, .str x.1.path, .str x.1.to_, .int .i64 x.1.at_, .own 8 1 (a0a x.1.text)], fin := fun a x => (0, a3d a.1 x.2) :: a2b 8 x.1.text, nob := false }
theorem c5i : Has Tryz.prog 190 cOpD := by
 refine a0d mixed a0e (HasL.cons b5L (HasL.cons of_has (HasL.cons a5K (HasL.cons c3t (HasL.cons c3T HasL.nil))))) [0, 2, 3, 11, 34, 42] ((fun a n (_ : Nat) => (fun _ => a0w) a n)) [] Tryz.func190 (by unfold Tryz.f190; rfl) (fun a => ⟨((⟨1, [], [], [], [], 0, []⟩ : OpD), a.2), (by simp -implicitDefEqProofs [a6v]), Int.le_refl _, by omega⟩) ?_
 intro a ha
 obtain ⟨s, p⟩ := a
 obtain ⟨h1, h2, h3⟩ : s.length <= 2000 /\ 0 <= p /\ p <= 1073741500 := ha
 simp (maxSteps := 8000000) -implicitDefEqProofs [-kStep_move, -Bool.exists_bool, cOpD, a9z, cOf, a7c, b7B, b7C, tTab, a1U, clash, kd, a2i, a2L]
 have fin : ∀ (k : Int) (b w pa t : Str) (i : Int) (q : Int), (1 <= k /\ k <= 7) -> b.length <= 4 -> w.length <= 3 -> pa.length <= 5 -> t.length <= 5 -> (0 <= i /\ i <= 9) -> (p <= q /\ q <= p + 20) -> ∃ (a : OpD) (c : Int), (a6v a /\ p <= c /\ c <= p + 20) /\ (a.kind = k /\ a.branch = b /\ a.who = w /\ a.path = pa /\ a.to_ = t /\ a.at_ = i /\ a.text = []) /\ (s = s /\ c = q) /\ a.text = [] :=
  fun k b w pa t i q h1 h2 h3 h4 h5 h6 h7 => ⟨⟨k, b, w, pa, t, i, []⟩, q, ⟨⟨h1, h2, h3, h4, h5, h6, Nat.zero_le _, by simp⟩, h7⟩, ⟨rfl, rfl, rfl, rfl, rfl, rfl, rfl⟩, ⟨rfl, rfl⟩, rfl⟩
 have fin2 : ∀ (k : Int) (b w pa t : Str) (i : Int) (l : List Str) (q : Int), (1 <= k /\ k <= 7) -> b.length <= 4 -> w.length <= 3 -> pa.length <= 5 -> t.length <= 5 -> (0 <= i /\ i <= 9) -> (l.length <= 8) -> (∀ s ∈ l, s.length <= 7) -> (p <= q /\ q <= p + 20) -> ∃ (a : OpD) (c : Int), (a6v a /\ p <= c /\ c <= p + 20) /\ (a.kind = k /\ a.branch = b /\ a.who = w /\ a.path = pa /\ a.to_ = t /\ a.at_ = i /\ a.text = l) /\ (s = s /\ c = q) /\ l = a.text :=
  fun k b w pa t i l q h1 h2 h3 h4 h5 h6 g1 g2 h7 => ⟨⟨k, b, w, pa, t, i, l⟩, q, ⟨⟨h1, h2, h3, h4, h5, h6, g1, g2⟩, h7⟩, ⟨rfl, rfl, rfl, rfl, rfl, rfl, rfl⟩, ⟨rfl, rfl⟩, rfl⟩
 repeat' (first
  | intro _
  | refine ⟨_, _, ⟨rfl, rfl⟩, ⟨h1, by omega, by omega⟩, ?_⟩
  | exact fin _ _ _ _ _ _ _ (by omega) (by first | assumption | omega | decide) (by first | assumption | omega | decide) (by first | assumption | omega | decide) (by first | assumption | omega | decide) (by omega) (by omega)
  | exact fin2 _ _ _ _ _ _ _ _ (by omega) (by first | assumption | omega | decide) (by first | assumption | omega | decide) (by first | assumption | omega | decide) (by first | assumption | omega | decide) (by omega) (by assumption) (by assumption) (by omega)
  | apply And.intro)
def b7A : Con := { A := Str × Int, X := List OpD × Int, n := 19, args := fun _ => [.ptr 0 0], boxes := fun a => [(0, 149, [.sl true 1 (a1m a.1), .int .i64 a.2])], pre := fun a => a.1.length <= 2000 /\ 0 <= a.2 /\ a.2 <= 1073741000, post := fun a x => (x.1.length <= 20 /\ ∀ o ∈ x.1, a6v o) /\ a.2 <= x.2 /\ x.2 <= a.2 + 450, res := fun _ x => .own 8 7 (eOps x.1), fin := fun a x => [(0, a3d a.1 x.2), (8, .own 204 7 true (eOps x.1))], nob := false }
theorem c3k : Has Tryz.prog 163 b7A := by
 refine a0d mixed a0e (HasL.cons one_has (HasL.cons c5i HasL.nil)) [0, 2, 3, 4] ((fun a n (_ : Nat) => (fun a _ => ⟨List OpD × Int × Nat, fun t => ⟨[(0, true, .ptr 0 0), (2, true, .nil), (3, true, .own 9 7 (eOps t.1)), (4, true, .int .i64 t.2.2)], [(0, a3d a.1 t.2.1), (9, .own 204 7 true (eOps t.1))]⟩, fun t => t.1.length + t.2.2 <= 20 /\ (∀ o ∈ t.1, a6v o) /\ a.2 <= t.2.1 /\ t.2.1 + 20 * t.2.2 <= a.2 + 450, fun t => t.2.2⟩) a n)) [] Tryz.func163 (by unfold Tryz.f163; rfl) (fun a => ⟨(([] : List OpD), a.2), ⟨Nat.zero_le _, by simp⟩, Int.le_refl _, by omega⟩) ?_
 intro a ha
 obtain ⟨s, p⟩ := a
 obtain ⟨h1, h2, h3⟩ : s.length <= 2000 /\ 0 <= p /\ p <= 1073741000 := ha
 simp (maxSteps := 8000000) -implicitDefEqProofs [-kStep_move, -Bool.exists_bool, b7A, cOne, cOpD, tTab, a1U, clash, kd, a2i, a2L]
 refine ⟨s, p, [0, 3, 8, 14, 20], rfl, ⟨rfl, rfl⟩, ⟨h1, by omega, by omega, by simp, by simp⟩, fun y hy => ?_⟩
 have hy := hy (by simp)
 have hy2 : 0 <= y /\ y <= 20 := by simp only [List.mem_cons, List.not_mem_nil, or_false] at hy; omega
 refine ⟨⟨[], p + 1, y.toNat, ⟨⟨rfl, by omega⟩, ⟨rfl, rfl⟩, rfl⟩, by simp; omega, by simp, by omega, by omega⟩, fun a q b ga gb gc gd => ⟨fun hb => ⟨s, q, ⟨rfl, rfl⟩, ⟨h1, by omega, by omega⟩, fun o q2 ho g1 g2 => ⟨⟨by omega, by omega⟩, ⟨by omega, by omega⟩, fun _ _ => ⟨a ++ [o], q2, b - 1, ⟨⟨(b2t _ _ _ _ _ _ _ _).symm, by omega⟩, ⟨rfl, rfl⟩, b2t _ _ _ _ _ _ _ _⟩, ⟨by simp; omega, fun x hx => ?_, by omega, by omega⟩, by omega⟩⟩⟩, fun hb => ⟨a, q, ⟨⟨by omega, gb⟩, by omega, by omega⟩, rfl, rfl, rfl⟩⟩⟩
 rcases List.mem_append.1 hx with hx | hx
 ·exact gb x hx
 ·simp at hx; subst hx; exact ho
def b4e : Con := { A := Str × Int, X := RepoD × Int, n := 7, args := fun _ => [.ptr 0 0], boxes := fun a => [(0, 149, [.sl true 1 (a1m a.1), .int .i64 a.2])], pre := fun a => a.1.length <= 2000 /\ 0 <= a.2 /\ a.2 <= 1073740000, post := fun a x => plR x.1 /\ a.2 <= x.2 /\ x.2 <= a.2 + 450, res := fun _ x => .agg [.own 8 3 (a0g x.1.commits), .own 9 2 (a0c x.1.heads)], fin := fun a x => (0, a3d a.1 x.2) :: (a2F 8 x.1.commits ++ a2P 9 x.1.heads), nob := false }
theorem c1i : Has Tryz.prog 133 b4e := by
 refine a0d mixed a0e (HasL.cons c3k (HasL.cons b3g (HasL.cons a3H HasL.nil))) [0, 2] ((fun a n (_ : Nat) => (fun _ => a0w) a n)) [] Tryz.func133 (by unfold Tryz.f133; rfl) (fun a => ⟨(noR, a.2), b1e, Int.le_refl _, by omega⟩) ?_
 intro a ha
 obtain ⟨s, p⟩ := a
 obtain ⟨h1, h2, h3⟩ : s.length <= 2000 /\ 0 <= p /\ p <= 1073740000 := ha
 simp (maxSteps := 8000000) -implicitDefEqProofs [-kStep_move, -Bool.exists_bool, b4e, b7A, a7d, a4b, Con.fn, tTab, a1U, clash, kd, a2i, a2L]
 refine ⟨s, p, ⟨rfl, rfl⟩, ⟨h1, by omega, by omega⟩, fun l q g1 g2 g3 g4 => ⟨fun o ho => ?_, a7x (b0b _).1, b1f l, q, ⟨b0b _, by omega, by omega⟩, ⟨rfl, rfl⟩, ⟨rfl, rfl⟩, rfl, rfl⟩⟩
 obtain ⟨_, _, _, k1, k2, _, k3, _⟩ := g2 o ho
 exact ⟨by omega, by omega, by omega⟩
def a5C (r : RepoD) : Prop := r.commits.length <= 16 /\ r.heads.length <= 100 /\ ∀ c ∈ r.commits, c.parents.length <= 2 /\ a0O c.tree = true /\ c.who.length <= 6
theorem a4Y {r : RepoD} (h : plR r) : a5C r := by
 obtain ⟨h1, h2, h3⟩ := (a1c r).1 h.1
 refine ⟨h3, by have := ((a1V _ _).1 h2).1; omega, fun c hc => ?_⟩
 obtain ⟨i, hi, rfl⟩ := List.getElem_of_mem hc
 have h4 := h1 i hi
 have e : r.commits.getD i default = r.commits[i] := by simp -implicitDefEqProofs [List.getD_eq_getElem?_getD, hi]
 unfold okCS okS1 at h4
 rw [e] at h4
 simp only [Bool.and_eq_true, decide_eq_true_eq, a0X] at h4
 exact ⟨h4.2.1.1, h4.2.2, h4.2.1.2.1.2⟩
def a7T : Con := { A := Str × Int, X := RepoD × Int, n := 46, args := fun _ => [.ptr 0 0], boxes := fun a => [(0, 149, [.sl true 1 (a1m a.1), .int .i64 a.2])], pre := fun a => a.1.length <= 2000 /\ 0 <= a.2 /\ a.2 <= 1073739000, post := fun a x => a5C x.1 /\ a.2 <= x.2 /\ x.2 <= a.2 + 500, res := fun _ x => .agg [.sl false 3 (a0g x.1.commits), .sl false 2 (a0c x.1.heads)], fin := fun a x => [(0, a3d a.1 x.2)], nob := false }
theorem b3O : Has Tryz.prog 87 a7T := by
 refine a0d mixed a0e (HasL.cons c1i (HasL.cons a5K HasL.nil)) [0, 2, 3, 4, 17] ((fun a n (_ : Nat) => (fun _ => a0w) a n)) [] Tryz.func87 (by unfold Tryz.f87; rfl) (fun a => ⟨(noR, a.2), a4Y b1e, Int.le_refl _, by omega⟩) ?_
 intro a ha
 obtain ⟨s, p⟩ := a
 obtain ⟨h1, h2, h3⟩ : s.length <= 2000 /\ 0 <= p /\ p <= 1073739000 := ha
 simp (maxSteps := 8000000) -implicitDefEqProofs [-kStep_move, -Bool.exists_bool, a7T, b4e, a7c, tTab, a1U, clash, kd, a2i, a2L]
 refine ⟨s, p, ⟨rfl, rfl⟩, ⟨h1, by omega, by omega⟩, fun r q hr g1 g2 _ => ⟨fun hp _ => ⟨s, q, ⟨rfl, rfl⟩, ⟨h1, by omega, by omega, ?_⟩, fun y _ hy => ⟨s, q + 1, ⟨rfl, rfl⟩, ⟨h1, by omega, by omega⟩, fun z hz0 hz1 => ?_⟩⟩, fun _ => ⟨r, q, ⟨a4Y hr, by omega, by omega⟩, ⟨rfl, rfl⟩, rfl, rfl⟩⟩⟩
 ·have := (a4Y hr).1; omega
 obtain ⟨k1, k2⟩ := hy (by omega)
 have hk : y.toNat < r.commits.length := by omega
 have e : Option.map a0I r.commits[y.toNat]? = some (a0I r.commits[y.toNat]) := by simp -implicitDefEqProofs [hk]
 have hd := a4Y hr
 have hh : 0 < r.heads.length := List.length_pos_iff.2 (hr.2 (by intro h; rw [h] at hp; simp at hp))
 have e2 : Option.map a0V r.heads[0]? = some (a0V r.heads[0]) := by simp -implicitDefEqProofs [hh]
 have ds : ∀ c : CommitD, (c.parents.length <= 2 /\ a0O c.tree = true /\ c.who.length <= 6) -> a5C ⟨r.commits.set y.toNat c, r.heads⟩ := fun c hc => ⟨by simp; exact hd.1, hd.2.1, fun x hx => (List.mem_or_eq_of_mem_set hx).elim (hd.2.2 x) fun h => h ▸ hc⟩
 have dc := hd.2.2 _ (List.getElem_mem hk)
 have dh : a5C ⟨r.commits, r.heads ++ [r.heads[0]]⟩ := ⟨hd.1, by have := ((a1V _ _).1 ((a1c r).1 hr.1).2.1).1; simp; omega, hd.2.2⟩
 simp only [e, e2]
 simp -implicitDefEqProofs [a0I, a0V, D.asStr, D.asInt, hk, k1, k2, hh]
 have hl : r.heads.length <= 100 := hd.2.1
 have hA : p <= q + 1 + 1 /\ q + 1 + 1 <= p + 500 := ⟨by omega, by omega⟩
 have es : ∀ c : CommitD, a0g (r.commits.set y.toNat c) = (a0g r.commits).set y.toNat (a0I c) := fun c => by simp -implicitDefEqProofs [a0g, List.map_set]
 exact ⟨fun _ => ⟨_, ⟨ds ⟨[y], r.commits[y.toNat].who, r.commits[y.toNat].tree⟩ ⟨by simp, dc.2⟩, hA⟩, es _, rfl⟩, fun _ => ⟨fun _ => ⟨_, ⟨ds ⟨r.commits[y.toNat].parents, [], r.commits[y.toNat].tree⟩ ⟨dc.1, dc.2.1, Nat.zero_le _⟩, hA⟩, es _, rfl⟩, fun _ => ⟨fun _ => ⟨⟨by omega, by omega⟩, _, ⟨dh, hA⟩, rfl, by simp -implicitDefEqProofs [a0c, a0V]⟩, fun _ => ⟨r, ⟨hd, hA⟩, rfl, rfl⟩⟩⟩⟩
def cAtD : Con := { A := (Str × Int) × RepoD, X := Int, n := 19, args := fun a => [.ptr 0 0, a1f a.2], boxes := fun a => [(0, 149, [.sl true 1 (a1m a.1.1), .int .i64 a.1.2])], pre := fun a => (a.1.1.length <= 2000 /\ 0 <= a.1.2 /\ a.1.2 <= 1073740000) /\ a.2.commits.length <= 1000, post := fun a x => -1 <= x /\ x <= a.2.commits.length, res := fun _ x => .int .i64 x, fin := fun a _ => [(0, a3d a.1.1 (a.1.2 + 2))], nob := false, bty := [149] }
theorem c4B : Has Tryz.prog 89 cAtD := by
 refine a0d mixed a0e (HasL.cons a5K (HasL.cons one_has HasL.nil)) [0, 1, 3, 4] ((fun a n (_ : Nat) => (fun _ => a0w) a n)) [] Tryz.func89 (by unfold Tryz.f89; rfl) (fun a => ⟨(0 : Int), by omega, by omega⟩) ?_ (hbt := .inr fun a => ⟨fun b hb => (by simp only [cAtD, List.mem_cons, List.not_mem_nil, or_false] at hb; subst hb; simp -implicitDefEqProofs [cAtD]), fun x p hp ty vs e => (by simp only [cAtD, List.mem_cons, List.not_mem_nil, or_false] at hp; subst hp; cases e; simp -implicitDefEqProofs [cAtD])⟩)
 intro a ha
 obtain ⟨⟨s, p⟩, r⟩ := a
 obtain ⟨⟨h1, h2, h3⟩, h4⟩ : (s.length <= 2000 /\ 0 <= p /\ p <= 1073740000) /\ r.commits.length <= 1000 := ha
 simp (maxSteps := 8000000) -implicitDefEqProofs [-kStep_move, -Bool.exists_bool, cAtD, a7c, cOne, tTab, a1U, clash, kd, a2i, a2L, a0B]
 refine ⟨s, p, ⟨rfl, rfl⟩, ⟨h1, by omega, by omega⟩, fun y _ _ => ⟨fun _ _ => ⟨s, p + 1, [-1, r.commits.length], rfl, ⟨rfl, rfl⟩, ⟨h1, by omega, by omega, by simp, by simp⟩, fun z hz => ⟨z, ?_, rfl, rfl, by omega⟩⟩, fun _ _ => ⟨s, p + 1, ⟨rfl, rfl⟩, ⟨h1, by omega, by omega, by omega⟩, fun z hz1 hz2 => ⟨z, by omega, rfl, rfl, by omega⟩⟩⟩⟩
 have hz := hz (by simp)
 simp only [List.mem_cons, List.not_mem_nil, or_false] at hz
 omega
def cOfB : Con := { cOf with bty := [149] }
theorem c5g : Has Tryz.prog 88 cOfB :=
 ⟨of_has.enter, of_has.tot, of_has.nob, fun a h c hk vs β fp h1 h2 h3 h4 S => of_has.calls a h c hk vs β fp h1 h2 h3 h4 S, of_has.bldr,
  .inr fun a => ⟨fun b hb => (by simp only [cOfB, cOfB, cOf, List.mem_cons, List.not_mem_nil, or_false] at hb; subst hb; simp -implicitDefEqProofs [cOfB]), fun x p hp ty vs e => (by simp only [cOfB, cOfB, cOf, List.mem_cons, List.not_mem_nil, or_false] at hp; subst hp; cases e; simp -implicitDefEqProofs [cOfB])⟩⟩
def a4D : Con := { A := Str, X := RepoD × Str × Str × Int, n := 22, args := fun s => [.sl true 1 (a1m s)], boxes := fun _ => [], pre := fun _ => True, post := fun _ x => a5C x.1, res := fun _ x => .tup [.agg [.sl false 3 (a0g x.1.commits), .sl false 2 (a0c x.1.heads)], .str x.2.1, .str x.2.2.1, .int .i64 x.2.2.2], fin := fun _ _ => [] }
theorem a9f : Has Tryz.prog 33 a4D := by
 refine a0d mixed a0e (HasL.cons b6i (HasL.cons b3O (HasL.cons c5g (HasL.cons c4B HasL.nil)))) [0, 2, 3, 4, 5, 6, 7] ((fun a n (_ : Nat) => (fun _ => a0w) a n)) [8191, 12287] Tryz.func33 (by unfold Tryz.f33; rfl) (fun _ => ⟨(noR, [], [], 0), a4Y b1e⟩) ?_
 intro (s : Str) _
 simp (maxSteps := 8000000) -implicitDefEqProofs [-kStep_move, -Bool.exists_bool, a4D, a9G, a7T, cOfB, cOf, cAtD, tTab, Con.fn, a1U, clash, kd, a2i, a2L]
 have hl : (s.take 2000).length <= 2000 := by simp; omega
 refine ⟨_, _, ⟨rfl, rfl⟩, ⟨hl, by omega, by omega⟩, fun r p g1 g2 g3 => ⟨_, _, ⟨rfl, rfl⟩, ⟨hl, by omega, by omega⟩, _, _, ⟨rfl, rfl⟩, ⟨hl, by omega, by omega⟩, _, _, ⟨rfl, rfl⟩, ⟨⟨hl, by omega, by omega⟩, by have := g1.1; omega⟩, fun y _ _ => ⟨r, g1, rfl, rfl⟩⟩⟩
theorem Uni.ok {r : RepoD} {n w : Str} {b : Int} {X : RepoD × Int} (h : a0n r = true) (hu : Uni r n w b X) : a0n X.1 = true := by
 cases hu with
 | form => exact h
 | same _ _ _ _ _ => exact h
 | on _ _ _ _ _ _ hr => exact hr
 | clash _ _ _ _ _ => exact h
 | full => exact h
 | made _ _ _ _ _ _ _ _ hr => exact hr
theorem Uni.keeps {r : RepoD} {n w : Str} {b : Int} {X : RepoD × Int} (hu : Uni r n w b X) : r.commits <+: X.1.commits := by
 cases hu with
 | made t _ _ _ _ _ _ _ _ => exact ⟨[⟨[atL r.heads n, b], w, t⟩], rfl⟩
 | _ => exact List.prefix_refl _
theorem Uni.other {r : RepoD} {n w m : Str} {b : Int} {X : RepoD × Int} (h : a0n r = true) (hu : Uni r n w b X) (hm : ¬ n = m) : atL X.1.heads m = atL r.heads m := by
 have hH := ((a1c r).1 h).2.1
 cases hu with
 | on _ _ _ _ _ _ _ =>
  show atL (hSet r.heads n b) m = _
  rw [a8M hH, if_neg hm]
 | made t _ _ _ _ _ _ _ _ => rw [b1q h, if_neg hm]
 | _ => rfl
def Came (r : RepoD) (n : Str) (z : Nat) : Prop := 0 <= atL r.heads n /\ Rch r (atL r.heads n).toNat z
theorem Uni.got {r : RepoD} {n w : Str} {b : Int} {X : RepoD × Int} (h : a0n r = true) (hu : Uni r n w b X) (hc : X.2 = 0 \/ X.2 = 3 \/ X.2 = 2) : (0 <= b /\ b < r.commits.length) /\ Came X.1 n b.toNat := by
 have hH := ((a1c r).1 h).2.1
 cases hu with
 | form => simp at hc
 | same h1 h2 h3 h4 h5 => exact ⟨⟨h3, h4⟩, h1, h5⟩
 | on h1 h2 h3 h4 h5 h6 h7 =>
  have e : atL (hSet r.heads n b) n = b := by rw [a8M hH, if_pos rfl]
  refine ⟨⟨h3, h4⟩, by show 0 <= atL (hSet r.heads n b) n; rw [e]; exact h3, ?_⟩
  show Rch ⟨r.commits, hSet r.heads n b⟩ (atL (hSet r.heads n b) n).toNat b.toNat
  rw [e]; exact .refl
 | clash => simp at hc
 | full => simp at hc
 | made t h1 h2 h3 h4 h5 h6 h7 h8 =>
  have e : atL (addR r n ⟨[atL r.heads n, b], w, t⟩).heads n = r.commits.length := by rw [b1q h, if_pos rfl]
  have e2 : ((r.commits.length : Int)).toNat = r.commits.length := by omega
  refine ⟨⟨h3, h4⟩, by rw [e]; omega, ?_⟩
  rw [e, e2]
  exact c1O (r := r) n ⟨[atL r.heads n, b], w, t⟩ (p := b) (by simp)

theorem b2s {r : RepoD} (h : a5C r) : a2I r := ⟨by have := h.1; omega, fun c hc f hf => by have := b1m (h.2.2 c hc).2.1 f hf; omega⟩
theorem c2t {r : RepoD} (h : a5C r) : rpSz r := by
 refine ⟨by have := h.1; omega, fun c hc => ?_, by have := h.2.1; omega⟩
 obtain ⟨h1, h2, h3⟩ := h.2.2 c hc
 have h4 := a3V _ h2
 exact ⟨by omega, by omega, fun g hg => by have := h4.2 g hg; omega⟩
--TAB a1g
theorem a5M {r : RepoD} (h : a0D r = true) {a b : Int} (ha : 0 <= a /\ a < r.commits.length) (hb : 0 <= b /\ b < r.commits.length) :
  a1Q r a b = if (a0Z (a1s r a b) (a0k r a) (a0k r b)).2 = [] then ((a0Z (a1s r a b) (a0k r a) (a0k r b)).1, true) else ([], false) := by
 unfold a1Q
 rw [if_pos, a8j (a6V h _ _) (a2s h ha) (a2s h hb)]
 simp only [areB, List.all_cons, List.all_nil, Bool.and_eq_true, Bool.and_true, decide_eq_true_eq]
 exact ⟨h, ⟨ha.1, by omega⟩, hb.1, by omega⟩
theorem a9r {r : RepoD} (h : a0D r = true) {a : Int} (h0 : 0 <= a) (h1 : a < r.commits.length) : a2r r a = (a0k r a, true) := by unfold a2r; rw [if_pos ⟨h, h0, h1⟩]
theorem a8y {r : RepoD} (h : a0D r = true) (n : Str) : a3M r n = atL r.heads n := by unfold a3M; rw [if_pos h]
theorem c2Y {r : RepoD} (h : a0n r = true) (n w : Str) (b : Int) (h1 : (a0F r n w b).2 ≠ 1) (h5 : (a0F r n w b).2 ≠ 5) (h2 : (a0F r n w b).2 ≠ 2) :
  (a1Q r (a3M r n) b).2 = decide ((a0F r n w b).2 ≠ 4) /\ ((a0F r n w b).2 ≠ 4 -> (a2r (a0F r n w b).1 (a3M (a0F r n w b).1 n)).1 = (a1Q r (a3M r n) b).1) := by
 have hU := b2T h n w b
 have hI : a0D r = true := by rw [a1A]; exact h
 have hH := ((a1c r).1 h).2.1
 generalize a0F r n w b = X at *
 rw [a8y hI]
 cases hU with
 | form => exact absurd rfl h1
 | same _ _ _ _ _ => exact absurd rfl h2
 | full => exact absurd rfl h5
 | clash a1 a2 b1 b2 hc =>
  rw [a5M hI ⟨a1, a2⟩ ⟨b1, b2⟩, if_neg hc]
  exact ⟨by simp, fun q => absurd rfl q⟩
 | on a1 a2 b1 b2 g1 g2 hr =>
  have hrI : a0D ⟨r.commits, hSet r.heads n b⟩ = true := by rw [a1A]; exact hr
  have e : a0Z (a1s r (atL r.heads n) b) (a0k r (atL r.heads n)) (a0k r b) = (a0k r b, []) := by
   rw [c1Z (b2O h) ⟨a1, a2⟩ ⟨b1, b2⟩ g2]
   exact c4X (a2s hI ⟨b1, b2⟩)
  rw [a5M hI ⟨a1, a2⟩ ⟨b1, b2⟩, e]
  refine ⟨by simp, fun _ => ?_⟩
  rw [a8y hrI, a8M hH, if_pos rfl, a9r hrI b1 b2]
  rfl
 | made t a1 a2 b1 b2 g1 g2 hj hr =>
  have hrI : a0D (addR r n ⟨[atL r.heads n, b], w, t⟩) = true := by rw [a1A]; exact hr
  rw [a5M hI ⟨a1, a2⟩ ⟨b1, b2⟩, hj]
  refine ⟨by simp, fun _ => ?_⟩
  rw [a8y hrI, b1q h, if_pos rfl, a9r hrI (by omega) (by simp -implicitDefEqProofs [addR]; omega), b9b]
  rfl
def a7V : Con := .fn 100 Str (fun s => [.sl true 1 (a1m s)]) (fun _ => True) (fun _ => .bool true) (fun _ => [])
theorem b0F : Has Tryz.prog 7 a7V := by
 refine a0d mixed a1b (HasL.cons a9f (HasL.cons b2k (HasL.cons a7K (HasL.cons b8W (HasL.cons b8N (HasL.cons b3m (HasL.cons b5l (HasL.cons b1l HasL.nil)))))))) [0, 2, 3, 4, 5, 6, 7, 8, 9, 10, 11, 12, 13] ((fun a n (_ : Nat) => (fun _ => a0w) a n)) [12287] Tryz.func7 (by unfold Tryz.f7; rfl) (fun _ => ⟨(), trivial⟩) ?_
 intro (s : Str) _
 simp (maxSteps := 8000000) -implicitDefEqProofs [-kStep_move, -kStepC_move, -Bool.exists_bool, a7V, a4D, a6k, a5g, b1N, b1L, a7g, a8a, a8V, Con.fn, a1g, tTab]
 refine fun _ _ r n w b hd => ⟨r, n, w, b, ⟨⟨rfl, rfl⟩, rfl, rfl, rfl⟩, b2s hd, r, n, w, b, ⟨⟨rfl, rfl⟩, rfl, rfl, rfl⟩, c2t hd, (a0F r n w b).1, (a0F r n w b).1, ⟨⟨rfl, rfl⟩, rfl, rfl⟩, ?_⟩
 have hU : a0D r = true -> a2I (a0F r n w b).1 := fun h => (b2h (by rw [a1A]; exact (b2T (by rw [<- a1A]; exact h) n w b).ok (by rw [<- a1A]; exact h))).2
 have hno : a0D r = false -> (a0F r n w b).2 = 1 := fun h => by rw [c4n h]
 have hL : a0D r = true -> _ := fun h => c2Y (r := r) (by rw [<- a1A]; exact h) n w b
 have hp := b2s hd
 generalize a0F r n w b = X at *
 obtain ⟨x, c⟩ := X
 simp only at hU hno hL ⊢
 simp only [true_and, and_true, not_true, false_or, or_false, true_implies, and_self]
 refine ⟨Classical.em _, fun _ => ⟨by omega, fun _ => ?_⟩⟩
 refine ⟨fun _ => trivial, fun q1 q5 q2 => ?_⟩
 have hr : a0D r = true := by
  cases h : a0D r with
  | true => rfl
  | false => exact absurd (hno h) q1
 obtain ⟨k1, k2⟩ := hL hr q1 q5 q2
 have k3 : (a1Q r (a3M r n) b).2 = !decide (c = 4) := by rw [k1]; simp
 have hx := hU hr
 refine ⟨r, n, ⟨⟨rfl, rfl⟩, rfl⟩, hp, r, _, b, ⟨⟨rfl, rfl⟩, rfl, rfl⟩, hp, x, n, ⟨⟨rfl, rfl⟩, rfl⟩, hx, x, _, ⟨⟨rfl, rfl⟩, rfl⟩, hx, _, _, ⟨rfl, rfl⟩, fun _ => ⟨k3, ?_⟩, fun _ => ⟨k3, ?_⟩⟩
 ·rw [k3]
  by_cases q : c = 4 <;> simp -implicitDefEqProofs [q]
 ·rw [k3]
  by_cases q : c = 4
  ·exact .inl (by simp -implicitDefEqProofs [q])
  ·exact .inr (k2 q)
end Vx
end Go.Proofs.YtokdjnbcdokpjaaGreatDoor
