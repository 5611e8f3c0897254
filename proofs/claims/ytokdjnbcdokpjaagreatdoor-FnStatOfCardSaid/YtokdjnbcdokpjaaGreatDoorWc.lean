/-
  Joined by program (merge.py): Mj, Mm, Mn, Td, Ng, He, Mo, Tl, Tq, Ts, Tc, Tm, Tn, Qd, Qe. It shows what the single texts show; conditions: none but those of each lemma.
-/
import Derived.Test.YtokdjnbcdokpjaaGreatDoorWb
set_option linter.unusedVariables false
set_option linter.unusedSimpArgs false
set_option linter.unusedSectionVars false
namespace Go.Proofs.YtokdjnbcdokpjaaGreatDoor
set_option maxHeartbeats 4000000
namespace Vx
open Go.RowKit
set_option maxRecDepth 8000
def b0u : Con := { A := Str × Int, X := Str, n := 6, args := fun _ => [.ptr 0 0], boxes := fun a => [(0, 149, [.sl true 1 (a1f a.1), .int .i64 a.2])], pre := fun a => a.1.length <= 2000 /\ 0 <= a.2 /\ a.2 <= 1073741800, post := fun _ x => x.length <= 4, res := fun _ x => .str x, fin := fun a _ => [(0, a3d a.1 (a.2 + 1))], nob := false }
theorem b7D : Has Tryz.prog 212 b0u := by
 refine a0d mixed a0f (HasL.cons of_has HasL.nil) [0, 2] ((fun a n (_ : Nat) => (fun _ => a0w) a n)) [] Tryz.func212 (by unfold Tryz.f212; rfl) (fun _ => ⟨([] : Str), Nat.zero_le 4⟩) ?_
 intro a ha
 obtain ⟨s, p⟩ := a
 obtain ⟨h1, h2, h3⟩ : s.length <= 2000 /\ 0 <= p /\ p <= 1073741800 := ha
 simp -implicitDefEqProofs [b0u, cOf, tTab, a1J, clash, kd, a2n, a2w]
 exact ⟨s, p, ⟨rfl, rfl⟩, ⟨h1, by omega, by omega⟩, by simp⟩
def a7h (o : OpD) : Prop := (1 <= o.kind /\ o.kind <= 7) /\ o.branch.length <= 4 /\ o.who.length <= 3 /\ o.path.length <= 5 /\ o.to_.length <= 5 /\ (0 <= o.at_ /\ o.at_ <= 9) /\ o.text.length <= 8 /\ ∀ s ∈ o.text, s.length <= 7
def cOpD : Con := { A := Str × Int, X := OpD × Int, n := 63, args := fun _ => [.ptr 0 0], boxes := fun a => [(0, 149, [.sl true 1 (a1f a.1), .int .i64 a.2])], pre := fun a => a.1.length <= 2000 /\ 0 <= a.2 /\ a.2 <= 1073741500, post := fun a x => a7h x.1 /\ a.2 <= x.2 /\ x.2 <= a.2 + 20, res := fun _ x => .agg [.int .i64 x.1.kind, .str x.1.branch, .str x.1.who, .str x.1.path, .str x.1.to_, .int .i64 x.1.at_, .own 8 1 (a0a x.1.text)], fin := fun a x => (0, a3d a.1 x.2) :: a1E 8 x.1.text, nob := false }
theorem c7i : Has Tryz.prog 190 cOpD := by
 refine a0d mixed a0f (HasL.cons b7D (HasL.cons of_has (HasL.cons a4Z (HasL.cons c5v (HasL.cons c6a HasL.nil))))) [0, 2, 3, 11, 34, 42] ((fun a n (_ : Nat) => (fun _ => a0w) a n)) [] Tryz.func190 (by unfold Tryz.f190; rfl) (fun a => ⟨((⟨1, [], [], [], [], 0, []⟩ : OpD), a.2), (by simp -implicitDefEqProofs [a7h]), Int.le_refl _, by omega⟩) ?_
 intro a ha
 obtain ⟨s, p⟩ := a
 obtain ⟨h1, h2, h3⟩ : s.length <= 2000 /\ 0 <= p /\ p <= 1073741500 := ha
 simp (maxSteps := 8000000) -implicitDefEqProofs [-kStep_move, -Bool.exists_bool, cOpD, b0u, cOf, a6t, b9B, b9C, tTab, a1J, clash, kd, a2n, a2w]
 have fin : ∀ (k : Int) (b w pa t : Str) (i : Int) (q : Int), (1 <= k /\ k <= 7) -> b.length <= 4 -> w.length <= 3 -> pa.length <= 5 -> t.length <= 5 -> (0 <= i /\ i <= 9) -> (p <= q /\ q <= p + 20) -> ∃ (a : OpD) (c : Int), (a7h a /\ p <= c /\ c <= p + 20) /\ (a.kind = k /\ a.branch = b /\ a.who = w /\ a.path = pa /\ a.to_ = t /\ a.at_ = i /\ a.text = []) /\ (s = s /\ c = q) /\ a.text = [] :=
  fun k b w pa t i q h1 h2 h3 h4 h5 h6 h7 => ⟨⟨k, b, w, pa, t, i, []⟩, q, ⟨⟨h1, h2, h3, h4, h5, h6, Nat.zero_le _, by simp⟩, h7⟩, ⟨rfl, rfl, rfl, rfl, rfl, rfl, rfl⟩, ⟨rfl, rfl⟩, rfl⟩
 have fin2 : ∀ (k : Int) (b w pa t : Str) (i : Int) (l : List Str) (q : Int), (1 <= k /\ k <= 7) -> b.length <= 4 -> w.length <= 3 -> pa.length <= 5 -> t.length <= 5 -> (0 <= i /\ i <= 9) -> (l.length <= 8) -> (∀ s ∈ l, s.length <= 7) -> (p <= q /\ q <= p + 20) -> ∃ (a : OpD) (c : Int), (a7h a /\ p <= c /\ c <= p + 20) /\ (a.kind = k /\ a.branch = b /\ a.who = w /\ a.path = pa /\ a.to_ = t /\ a.at_ = i /\ a.text = l) /\ (s = s /\ c = q) /\ l = a.text :=
  fun k b w pa t i l q h1 h2 h3 h4 h5 h6 g1 g2 h7 => ⟨⟨k, b, w, pa, t, i, l⟩, q, ⟨⟨h1, h2, h3, h4, h5, h6, g1, g2⟩, h7⟩, ⟨rfl, rfl, rfl, rfl, rfl, rfl, rfl⟩, ⟨rfl, rfl⟩, rfl⟩
 repeat' (first
  | intro _
  | refine ⟨_, _, ⟨rfl, rfl⟩, ⟨h1, by omega, by omega⟩, ?_⟩
  | exact fin _ _ _ _ _ _ _ (by omega) (by first | assumption | omega | decide) (by first | assumption | omega | decide) (by first | assumption | omega | decide) (by first | assumption | omega | decide) (by omega) (by omega)
  | exact fin2 _ _ _ _ _ _ _ _ (by omega) (by first | assumption | omega | decide) (by first | assumption | omega | decide) (by first | assumption | omega | decide) (by first | assumption | omega | decide) (by omega) (by assumption) (by assumption) (by omega)
  | apply And.intro)
def b9A : Con := { A := Str × Int, X := List OpD × Int, n := 19, args := fun _ => [.ptr 0 0], boxes := fun a => [(0, 149, [.sl true 1 (a1f a.1), .int .i64 a.2])], pre := fun a => a.1.length <= 2000 /\ 0 <= a.2 /\ a.2 <= 1073741000, post := fun a x => (x.1.length <= 20 /\ ∀ o ∈ x.1, a7h o) /\ a.2 <= x.2 /\ x.2 <= a.2 + 450, res := fun _ x => .own 8 7 (eOps x.1), fin := fun a x => [(0, a3d a.1 x.2), (8, .own 204 7 true (eOps x.1))], nob := false }
theorem c5n : Has Tryz.prog 163 b9A := by
 refine a0d mixed a0f (HasL.cons one_has (HasL.cons c7i HasL.nil)) [0, 2, 3, 4] ((fun a n (_ : Nat) => (fun a _ => ⟨List OpD × Int × Nat, fun t => ⟨[(0, true, .ptr 0 0), (2, true, .nil), (3, true, .own 9 7 (eOps t.1)), (4, true, .int .i64 t.2.2)], [(0, a3d a.1 t.2.1), (9, .own 204 7 true (eOps t.1))]⟩, fun t => t.1.length + t.2.2 <= 20 /\ (∀ o ∈ t.1, a7h o) /\ a.2 <= t.2.1 /\ t.2.1 + 20 * t.2.2 <= a.2 + 450, fun t => t.2.2⟩) a n)) [] Tryz.func163 (by unfold Tryz.f163; rfl) (fun a => ⟨(([] : List OpD), a.2), ⟨Nat.zero_le _, by simp⟩, Int.le_refl _, by omega⟩) ?_
 intro a ha
 obtain ⟨s, p⟩ := a
 obtain ⟨h1, h2, h3⟩ : s.length <= 2000 /\ 0 <= p /\ p <= 1073741000 := ha
 simp (maxSteps := 8000000) -implicitDefEqProofs [-kStep_move, -Bool.exists_bool, b9A, cOne, cOpD, tTab, a1J, clash, kd, a2n, a2w]
 refine ⟨s, p, [0, 3, 8, 14, 20], rfl, ⟨rfl, rfl⟩, ⟨h1, by omega, by omega, by simp, by simp⟩, fun y hy => ?_⟩
 have hy := hy (by simp)
 have hy2 : 0 <= y /\ y <= 20 := by simp only [List.mem_cons, List.not_mem_nil, or_false] at hy; omega
 refine ⟨⟨[], p + 1, y.toNat, ⟨⟨rfl, by omega⟩, ⟨rfl, rfl⟩, rfl⟩, by simp; omega, by simp, by omega, by omega⟩, fun a q b ga gb gc gd => ⟨fun hb => ⟨s, q, ⟨rfl, rfl⟩, ⟨h1, by omega, by omega⟩, fun o q2 ho g1 g2 => ⟨⟨by omega, by omega⟩, ⟨by omega, by omega⟩, fun _ _ => ⟨a ++ [o], q2, b - 1, ⟨⟨(b3N _ _ _ _ _ _ _ _).symm, by omega⟩, ⟨rfl, rfl⟩, b3N _ _ _ _ _ _ _ _⟩, ⟨by simp; omega, fun x hx => ?_, by omega, by omega⟩, by omega⟩⟩⟩, fun hb => ⟨a, q, ⟨⟨by omega, gb⟩, by omega, by omega⟩, rfl, rfl, rfl⟩⟩⟩
 rcases List.mem_append.1 hx with hx | hx
 ·exact gb x hx
 ·simp at hx; subst hx; exact ho
def b5J : Con := { A := Str × Int, X := RepoD × Int, n := 7, args := fun _ => [.ptr 0 0], boxes := fun a => [(0, 149, [.sl true 1 (a1f a.1), .int .i64 a.2])], pre := fun a => a.1.length <= 2000 /\ 0 <= a.2 /\ a.2 <= 1073740000, post := fun a x => plR x.1 /\ a.2 <= x.2 /\ x.2 <= a.2 + 450, res := fun _ x => .agg [.own 8 3 (a0g x.1.commits), .own 9 2 (a0c x.1.heads)], fin := fun a x => (0, a3d a.1 x.2) :: (a2C 8 x.1.commits ++ a2G 9 x.1.heads), nob := false }
theorem c3j : Has Tryz.prog 133 b5J := by
 refine a0d mixed a0f (HasL.cons c5n (HasL.cons b4J (HasL.cons a3n HasL.nil))) [0, 2] ((fun a n (_ : Nat) => (fun _ => a0w) a n)) [] Tryz.func133 (by unfold Tryz.f133; rfl) (fun a => ⟨(noR, a.2), a5w, Int.le_refl _, by omega⟩) ?_
 intro a ha
 obtain ⟨s, p⟩ := a
 obtain ⟨h1, h2, h3⟩ : s.length <= 2000 /\ 0 <= p /\ p <= 1073740000 := ha
 simp (maxSteps := 8000000) -implicitDefEqProofs [-kStep_move, -Bool.exists_bool, b5J, b9A, a7O, a3W, Con.fn, tTab, a1J, clash, kd, a2n, a2w]
 refine ⟨s, p, ⟨rfl, rfl⟩, ⟨h1, by omega, by omega⟩, fun l q g1 g2 g3 g4 => ⟨fun o ho => ?_, a8j (b1b _).1, b2m l, q, ⟨b1b _, by omega, by omega⟩, ⟨rfl, rfl⟩, ⟨rfl, rfl⟩, rfl, rfl⟩⟩
 obtain ⟨_, _, _, k1, k2, _, k3, _⟩ := g2 o ho
 exact ⟨by omega, by omega, by omega⟩
def a3x (r : RepoD) : Prop := r.commits.length <= 16 /\ r.heads.length <= 100 /\ ∀ c ∈ r.commits, c.parents.length <= 2 /\ a0O c.tree = true /\ c.who.length <= 6
theorem a2V {r : RepoD} (h : plR r) : a3x r := by
 obtain ⟨h1, h2, h3⟩ := (a1i r).1 h.1
 refine ⟨h3, by have := ((a2f _ _).1 h2).1; omega, fun c hc => ?_⟩
 obtain ⟨i, hi, rfl⟩ := List.getElem_of_mem hc
 have h4 := h1 i hi
 have e : r.commits.getD i default = r.commits[i] := by simp -implicitDefEqProofs [List.getD_eq_getElem?_getD, hi]
 unfold okCS okS1 at h4
 rw [e] at h4
 simp only [Bool.and_eq_true, decide_eq_true_eq, a1d] at h4
 exact ⟨h4.2.1.1, h4.2.2, h4.2.1.2.1.2⟩
def a5o : Con := { A := Str × Int, X := RepoD × Int, n := 46, args := fun _ => [.ptr 0 0], boxes := fun a => [(0, 149, [.sl true 1 (a1f a.1), .int .i64 a.2])], pre := fun a => a.1.length <= 2000 /\ 0 <= a.2 /\ a.2 <= 1073739000, post := fun a x => a3x x.1 /\ a.2 <= x.2 /\ x.2 <= a.2 + 500, res := fun _ x => .agg [.sl false 3 (a0g x.1.commits), .sl false 2 (a0c x.1.heads)], fin := fun a x => [(0, a3d a.1 x.2)], nob := false }
theorem a5Z : Has Tryz.prog 87 a5o := by
 refine a0d mixed a0f (HasL.cons c3j (HasL.cons a4Z HasL.nil)) [0, 2, 3, 4, 17] ((fun a n (_ : Nat) => (fun _ => a0w) a n)) [] Tryz.func87 (by unfold Tryz.f87; rfl) (fun a => ⟨(noR, a.2), a2V a5w, Int.le_refl _, by omega⟩) ?_
 intro a ha
 obtain ⟨s, p⟩ := a
 obtain ⟨h1, h2, h3⟩ : s.length <= 2000 /\ 0 <= p /\ p <= 1073739000 := ha
 simp (maxSteps := 8000000) -implicitDefEqProofs [-kStep_move, -Bool.exists_bool, a5o, b5J, a6t, tTab, a1J, clash, kd, a2n, a2w]
 refine ⟨s, p, ⟨rfl, rfl⟩, ⟨h1, by omega, by omega⟩, fun r q hr g1 g2 _ => ⟨fun hp _ => ⟨s, q, ⟨rfl, rfl⟩, ⟨h1, by omega, by omega, ?_⟩, fun y _ hy => ⟨s, q + 1, ⟨rfl, rfl⟩, ⟨h1, by omega, by omega⟩, fun z hz0 hz1 => ?_⟩⟩, fun _ => ⟨r, q, ⟨a2V hr, by omega, by omega⟩, ⟨rfl, rfl⟩, rfl, rfl⟩⟩⟩
 ·have := (a2V hr).1; omega
 obtain ⟨k1, k2⟩ := hy (by omega)
 have hk : y.toNat < r.commits.length := by omega
 have e : Option.map a0r r.commits[y.toNat]? = some (a0r r.commits[y.toNat]) := by simp -implicitDefEqProofs [hk]
 have hd := a2V hr
 have hh : 0 < r.heads.length := List.length_pos_iff.2 (hr.2 (by intro h; rw [h] at hp; simp at hp))
 have e2 : Option.map a1b r.heads[0]? = some (a1b r.heads[0]) := by simp -implicitDefEqProofs [hh]
 have ds : ∀ c : CommitD, (c.parents.length <= 2 /\ a0O c.tree = true /\ c.who.length <= 6) -> a3x ⟨r.commits.set y.toNat c, r.heads⟩ := fun c hc => ⟨by simp; exact hd.1, hd.2.1, fun x hx => (List.mem_or_eq_of_mem_set hx).elim (hd.2.2 x) fun h => h ▸ hc⟩
 have dc := hd.2.2 _ (List.getElem_mem hk)
 have dh : a3x ⟨r.commits, r.heads ++ [r.heads[0]]⟩ := ⟨hd.1, by have := ((a2f _ _).1 ((a1i r).1 hr.1).2.1).1; simp; omega, hd.2.2⟩
 simp only [e, e2]
 simp -implicitDefEqProofs [a0r, a1b, D.asStr, D.asInt, hk, k1, k2, hh]
 have hl : r.heads.length <= 100 := hd.2.1
 have hA : p <= q + 1 + 1 /\ q + 1 + 1 <= p + 500 := ⟨by omega, by omega⟩
 have es : ∀ c : CommitD, a0g (r.commits.set y.toNat c) = (a0g r.commits).set y.toNat (a0r c) := fun c => by simp -implicitDefEqProofs [a0g, List.map_set]
 exact ⟨fun _ => ⟨_, ⟨ds ⟨[y], r.commits[y.toNat].who, r.commits[y.toNat].tree⟩ ⟨by simp, dc.2⟩, hA⟩, es _, rfl⟩, fun _ => ⟨fun _ => ⟨_, ⟨ds ⟨r.commits[y.toNat].parents, [], r.commits[y.toNat].tree⟩ ⟨dc.1, dc.2.1, Nat.zero_le _⟩, hA⟩, es _, rfl⟩, fun _ => ⟨fun _ => ⟨⟨by omega, by omega⟩, _, ⟨dh, hA⟩, rfl, by simp -implicitDefEqProofs [a0c, a1b]⟩, fun _ => ⟨r, ⟨hd, hA⟩, rfl, rfl⟩⟩⟩⟩
def cAtD : Con := { A := (Str × Int) × RepoD, X := Int, n := 19, args := fun a => [.ptr 0 0, a0X a.2], boxes := fun a => [(0, 149, [.sl true 1 (a1f a.1.1), .int .i64 a.1.2])], pre := fun a => (a.1.1.length <= 2000 /\ 0 <= a.1.2 /\ a.1.2 <= 1073740000) /\ a.2.commits.length <= 1000, post := fun a x => -1 <= x /\ x <= a.2.commits.length, res := fun _ x => .int .i64 x, fin := fun a _ => [(0, a3d a.1.1 (a.1.2 + 2))], nob := false, bty := [149] }
theorem b8A : Has Tryz.prog 89 cAtD := by
 refine a0d mixed a0f (HasL.cons a4Z (HasL.cons one_has HasL.nil)) [0, 1, 3, 4] ((fun a n (_ : Nat) => (fun _ => a0w) a n)) [] Tryz.func89 (by unfold Tryz.f89; rfl) (fun a => ⟨(0 : Int), by omega, by omega⟩) ?_ (hbt := .inr fun a => ⟨fun b hb => (by simp only [cAtD, List.mem_cons, List.not_mem_nil, or_false] at hb; subst hb; simp -implicitDefEqProofs [cAtD]), fun x p hp ty vs e => (by simp only [cAtD, List.mem_cons, List.not_mem_nil, or_false] at hp; subst hp; cases e; simp -implicitDefEqProofs [cAtD])⟩)
 intro a ha
 obtain ⟨⟨s, p⟩, r⟩ := a
 obtain ⟨⟨h1, h2, h3⟩, h4⟩ : (s.length <= 2000 /\ 0 <= p /\ p <= 1073740000) /\ r.commits.length <= 1000 := ha
 simp (maxSteps := 8000000) -implicitDefEqProofs [-kStep_move, -Bool.exists_bool, cAtD, a6t, cOne, tTab, a1J, clash, kd, a2n, a2w, a0B]
 refine ⟨s, p, ⟨rfl, rfl⟩, ⟨h1, by omega, by omega⟩, fun y _ _ => ⟨fun _ _ => ⟨s, p + 1, [-1, r.commits.length], rfl, ⟨rfl, rfl⟩, ⟨h1, by omega, by omega, by simp, by simp⟩, fun z hz => ⟨z, ?_, rfl, rfl, by omega⟩⟩, fun _ _ => ⟨s, p + 1, ⟨rfl, rfl⟩, ⟨h1, by omega, by omega, by omega⟩, fun z hz1 hz2 => ⟨z, by omega, rfl, rfl, by omega⟩⟩⟩⟩
 have hz := hz (by simp)
 simp only [List.mem_cons, List.not_mem_nil, or_false] at hz
 omega
def cOfB : Con := { cOf with bty := [149] }
theorem b8T : Has Tryz.prog 88 cOfB :=
 ⟨of_has.enter, of_has.tot, of_has.nob, fun a h c hk vs β fp h1 h2 h3 h4 S => of_has.calls a h c hk vs β fp h1 h2 h3 h4 S, of_has.bldr,
  .inr fun a => ⟨fun b hb => (by simp only [cOfB, cOfB, cOf, List.mem_cons, List.not_mem_nil, or_false] at hb; subst hb; simp -implicitDefEqProofs [cOfB]), fun x p hp ty vs e => (by simp only [cOfB, cOfB, cOf, List.mem_cons, List.not_mem_nil, or_false] at hp; subst hp; cases e; simp -implicitDefEqProofs [cOfB])⟩⟩
def a4V : Con := { A := Str, X := RepoD × Str × Str × Int, n := 22, args := fun s => [.sl true 1 (a1f s)], boxes := fun _ => [], pre := fun _ => True, post := fun _ x => a3x x.1, res := fun _ x => .tup [.agg [.sl false 3 (a0g x.1.commits), .sl false 2 (a0c x.1.heads)], .str x.2.1, .str x.2.2.1, .int .i64 x.2.2.2], fin := fun _ _ => [] }
theorem a9T : Has Tryz.prog 33 a4V := by
 refine a0d mixed a0f (HasL.cons a6Y (HasL.cons a5Z (HasL.cons b8T (HasL.cons b8A HasL.nil)))) [0, 2, 3, 4, 5, 6, 7] ((fun a n (_ : Nat) => (fun _ => a0w) a n)) [8191, 12287] Tryz.func33 (by unfold Tryz.f33; rfl) (fun _ => ⟨(noR, [], [], 0), a2V a5w⟩) ?_
 intro (s : Str) _
 simp (maxSteps := 8000000) -implicitDefEqProofs [-kStep_move, -Bool.exists_bool, a4V, a6b, a5o, cOfB, cOf, cAtD, tTab, Con.fn, a1J, clash, kd, a2n, a2w]
 have hl : (s.take 2000).length <= 2000 := by simp; omega
 refine ⟨_, _, ⟨rfl, rfl⟩, ⟨hl, by omega, by omega⟩, fun r p g1 g2 g3 => ⟨_, _, ⟨rfl, rfl⟩, ⟨hl, by omega, by omega⟩, _, _, ⟨rfl, rfl⟩, ⟨hl, by omega, by omega⟩, _, _, ⟨rfl, rfl⟩, ⟨⟨hl, by omega, by omega⟩, by have := g1.1; omega⟩, fun y _ _ => ⟨r, g1, rfl, rfl⟩⟩⟩
def dqI : Inv := ⟨Str × Int × RepoD × List Str × Int, fun x => ⟨[(6, true, .ptr 10 0), (7, true, .ptr 11 0), (2, true, .ptr 12 0), (3, true, .str []), (4, true, .str []), (5, true, .nil), (8, true, .own 9 1 (a0a x.2.2.2.1)), (9, true, .int .i64 x.2.2.2.2)],
 [(10, a3d x.1 x.2.1), (11, .box 26 [.sl false 3 (a0g x.2.2.1.commits), .sl false 2 (a0c x.2.2.1.heads)]), (12, a6p), (9, .own 9 1 true (a0a x.2.2.2.1))]⟩, fun x => x.1.length <= 2000 /\ a3x x.2.2.1 /\ 0 <= x.2.2.2.2 /\ x.2.2.2.2 + x.2.2.2.1.length <= 3 /\ 0 <= x.2.1 /\ x.2.1 <= 600 + x.2.2.2.1.length, fun x => x.2.2.2.2.toNat⟩
def a5B : Con := { A := Str, X := RepoD × Str × Str × List Str, n := 35, args := fun s => [.sl true 1 (a1f s)], boxes := fun _ => [], pre := fun _ => True, post := fun _ x => a3x x.1 /\ x.2.2.2.length <= 3, res := fun _ x => .tup [.agg [.sl false 3 (a0g x.1.commits), .sl false 2 (a0c x.1.heads)], .str x.2.1, .str x.2.2.1, .own 8 1 (a0a x.2.2.2)], fin := fun _ x => a1E 8 x.2.2.2 }
theorem b0J : Has Tryz.prog 68 a5B := by
 refine a0d mixed a0f (HasL.cons a6Y (HasL.cons a5Z (HasL.cons a4Z (HasL.cons b8T HasL.nil)))) [0, 2, 3, 4, 5, 6, 7, 8, 9] ((fun a n (_ : Nat) => (fun _ _ => dqI) a n)) [8191, 12287] Tryz.func68 (by unfold Tryz.f68; rfl) (fun _ => ⟨(noR, [], [], []), a2V a5w, Nat.zero_le _⟩) ?_
 intro (s : Str) _
 simp (maxSteps := 8000000) -implicitDefEqProofs [-kStep_move, -Bool.exists_bool, a5B, a6b, a5o, a6t, cOfB, cOf, tTab, Con.fn, a1J, clash, kd, a2n, a2w, dqI]
 have hl : (s.take 2000).length <= 2000 := by simp; omega
 refine ⟨_, _, ⟨rfl, rfl⟩, ⟨hl, by omega, by omega⟩, fun r p g1 g2 g3 => ⟨_, _, ⟨rfl, rfl⟩, ⟨hl, by omega, by omega⟩, fun y hy0 hy1 => ⟨⟨s.take 2000, p + 1, r, [], y, ⟨⟨rfl, rfl⟩, ⟨⟨rfl, rfl⟩, rfl, rfl⟩, rfl⟩, hl, g1, hy0, by simp; omega, by omega, by simp; omega⟩, fun a q R L b h1 h2 h3 h4 h5 h6 => ⟨fun hb => ⟨a, q, ⟨rfl, rfl⟩, ⟨h1, h5, by omega⟩, ?_⟩, fun hb => ⟨a, q, ⟨rfl, rfl⟩, ⟨h1, h5, by omega⟩, a, q + 1, ⟨rfl, rfl⟩, ⟨h1, by omega, by omega⟩, R, ⟨h2, by omega⟩, rfl, rfl⟩⟩⟩⟩⟩
 have sn : ∀ x : Str, a0a L ++ [[D.str x]] = a0a (L ++ [x]) := fun x => by simp -implicitDefEqProofs [a0a, eStr]
 refine ⟨?_, ?_, ?_, ?_, ?_⟩ <;> refine ⟨⟨by omega, by omega⟩, ⟨by omega, by omega⟩, fun _ _ => ?_⟩
 all_goals exact ⟨a, q + 1, R, L ++ [_], b - 1, ⟨⟨(sn _).symm, rfl⟩, ⟨⟨rfl, rfl⟩, rfl, rfl⟩, sn _⟩, ⟨h1, h2, by omega, by simp; omega, by omega, by simp; omega⟩, by omega⟩
def a4U : Con := { A := Str, X := RepoD × Str × Str × List Str, n := 12, args := fun s => [.sl true 1 (a1f s)], boxes := fun _ => [], pre := fun _ => True, post := fun _ x => a3x x.1 /\ x.2.2.2.length <= 3, res := fun _ x => .tup [.agg [.sl false 3 (a0g x.1.commits), .sl false 2 (a0c x.1.heads)], .str x.2.1, .str x.2.2.1, .own 8 1 (a0a x.2.2.2)], fin := fun _ x => a1E 8 x.2.2.2 }
theorem a9S : Has Tryz.prog 18 a4U := by
 refine a0d mixed a0f (HasL.cons b0J HasL.nil) [0, 2, 3, 4, 5] ((fun a n (_ : Nat) => (fun _ => a0w) a n)) [] Tryz.func18 (by unfold Tryz.f18; rfl) (fun _ => ⟨(noR, [], [], []), a2V a5w, Nat.zero_le _⟩) ?_
 intro (s : Str) _
 simp (maxSteps := 8000000) -implicitDefEqProofs [-kStep_move, -Bool.exists_bool, a4U, a5B, tTab, Con.fn]
 exact fun r l h1 h2 => ⟨r, ⟨h1, h2⟩, by simp⟩
theorem Uni.ok {r : RepoD} {n w : Str} {b : Int} {X : RepoD × Int} (h : a0n r = true) (hu : Uni r n w b X) : a0n X.1 = true := by
 cases hu with
 | form => exact h
 | same _ _ _ _ _ => exact h
 | on _ _ _ _ _ _ hr => exact hr
 | clash _ _ _ _ _ => exact h
 | full => exact h
 | made _ _ _ _ _ _ _ _ hr => exact hr
theorem Uni.keeps {r : RepoD} {n w : Str} {b : Int} {X : RepoD × Int} (hu : Uni r n w b X) : r.commits <+: X.1.commits := by
 cases hu with
 | made t _ _ _ _ _ _ _ _ => exact ⟨[⟨[atL r.heads n, b], w, t⟩], rfl⟩
 | _ => exact List.prefix_refl _
theorem Uni.other {r : RepoD} {n w m : Str} {b : Int} {X : RepoD × Int} (h : a0n r = true) (hu : Uni r n w b X) (hm : ¬ n = m) : atL X.1.heads m = atL r.heads m := by
 have hH := ((a1i r).1 h).2.1
 cases hu with
 | on _ _ _ _ _ _ _ =>
  show atL (hSet r.heads n b) m = _
  rw [a9w hH, if_neg hm]
 | made t _ _ _ _ _ _ _ _ => rw [b2B h, if_neg hm]
 | _ => rfl
def Came (r : RepoD) (n : Str) (z : Nat) : Prop := 0 <= atL r.heads n /\ Rch r (atL r.heads n).toNat z
theorem Uni.got {r : RepoD} {n w : Str} {b : Int} {X : RepoD × Int} (h : a0n r = true) (hu : Uni r n w b X) (hc : X.2 = 0 \/ X.2 = 3 \/ X.2 = 2) : (0 <= b /\ b < r.commits.length) /\ Came X.1 n b.toNat := by
 have hH := ((a1i r).1 h).2.1
 cases hu with
 | form => simp at hc
 | same h1 h2 h3 h4 h5 => exact ⟨⟨h3, h4⟩, h1, h5⟩
 | on h1 h2 h3 h4 h5 h6 h7 =>
  have e : atL (hSet r.heads n b) n = b := by rw [a9w hH, if_pos rfl]
  refine ⟨⟨h3, h4⟩, by show 0 <= atL (hSet r.heads n b) n; rw [e]; exact h3, ?_⟩
  show Rch ⟨r.commits, hSet r.heads n b⟩ (atL (hSet r.heads n b) n).toNat b.toNat
  rw [e]; exact .refl
 | clash => simp at hc
 | full => simp at hc
 | made t h1 h2 h3 h4 h5 h6 h7 h8 =>
  have e : atL (addR r n ⟨[atL r.heads n, b], w, t⟩).heads n = r.commits.length := by rw [b2B h, if_pos rfl]
  have e2 : ((r.commits.length : Int)).toNat = r.commits.length := by omega
  refine ⟨⟨h3, h4⟩, by rw [e]; omega, ?_⟩
  rw [e, e2]
  exact c3S (r := r) n ⟨[atL r.heads n, b], w, t⟩ (p := b) (by simp)
def b5c (n w : Str) (s : RepoD × List Int) (m : Str) : RepoD × List Int := ((a0z s.1 n w (atL s.1.heads m)).1, s.2 ++ [(a0z s.1 n w (atL s.1.heads m)).2])
def qF (n w : Str) (l : List Str) (r : RepoD) : RepoD × List Int := l.foldl (b5c n w) (r, [])
theorem b8W {n w : Str} {l : List Str} {r : RepoD} {i : Nat} (h : i < l.length) : qF n w (l.take (i + 1)) r = b5c n w (qF n w (l.take i) r) l[i] := by
 unfold qF
 rw [a0p h, List.foldl_append]; rfl
theorem b7b (n w : Str) (r : RepoD) : ∀ l : List Str, (qF n w l r).2.length = l.length := by
 have : ∀ (l : List Str) (s : RepoD × List Int), (l.foldl (b5c n w) s).2.length = s.2.length + l.length := by
  intro l
  induction l with
  | nil => intro s; rfl
  | cons m l ih => intro s; rw [List.foldl_cons, ih]; simp -implicitDefEqProofs [b5c]; omega
 intro l
 have := this l (r, [])
 simpa [qF] using this
def a1z (r : RepoD) (n w : Str) (l : List Str) : RepoD × List Int := if a0n r then (if 5 < l.length then (r, []) else qF n w l r) else (noR, [])
theorem c0O {r : RepoD} (h : a0n r = true) (n w : Str) (l : List Str) : ∀ i, i <= l.length -> a0n (qF n w (l.take i) r).1 = true /\ r.commits <+: (qF n w (l.take i) r).1.commits
 | 0, _ => ⟨by simpa [qF] using h, by simp -implicitDefEqProofs [qF]⟩
 | i + 1, hi => by
  obtain ⟨h1, h2⟩ := c0O h n w l i (by omega)
  have hu := a9s h1 n w (atL (qF n w (l.take i) r).1.heads l[i])
  rw [b8W (show i < l.length by omega)]
  exact ⟨hu.ok h1, h2.trans hu.keeps⟩
def a3J (c : Int) : Bool := decide (c = 0) || decide (c = 3) || decide (c = 2)
def a1s (l : List Str) (cs : List Int) (i : Nat) : List Str := ((List.range i).filter fun j => !a3J (cs.getD j 0)).map fun j => l.getD j []
theorem a4E {l : List Str} {cs : List Int} {i : Nat} : a1s l cs (i + 1) = if a3J (cs.getD i 0) then a1s l cs i else a1s l cs i ++ [l.getD i []] := by
 unfold a1s
 rw [List.range_succ, List.filter_append, List.map_append]
 cases h : a3J (cs.getD i 0) with
 | true =>
  have : List.filter (fun j => !a3J (cs.getD j 0)) [i] = [] := by rw [List.filter_cons, if_neg (by rw [h]; simp)]; rfl
  rw [this, if_pos rfl]; simp only [List.map_nil, List.append_nil]
 | false =>
  have : List.filter (fun j => !a3J (cs.getD j 0)) [i] = [i] := by rw [List.filter_cons, if_pos (by rw [h]; rfl)]; rfl
  rw [this, if_neg (by simp)]; rfl
theorem a6z (l : List Str) (cs : List Int) (i : Nat) : (a1s l cs i).length <= i := by
 unfold a1s
 rw [List.length_map]
 have := List.length_filter_le (fun j => !a3J (cs.getD j 0)) (List.range i)
 simpa using this
theorem b4b {l : List Str} {cs : List Int} : ∀ {i k : Nat}, i <= k -> a1s l cs i <+: a1s l cs k
 | i, 0, h => by
  have : i = 0 := by omega
  subst this; exact List.prefix_refl _
 | i, k + 1, h => by
  rcases Nat.lt_or_ge i (k + 1) with h1 | h1
  ·refine (b4b (show i <= k by omega)).trans ?_
   rw [a4E]
   split
   ·exact List.prefix_refl _
   ·exact List.prefix_append _ _
  ·have : i = k + 1 := by omega
   subst this; exact List.prefix_refl _
theorem c4W {l : List Str} {cs : List Int} {i k : Nat} (h : i < k) (hc : a3J (cs.getD i 0) = false) : (a1s l cs k)[(a1s l cs i).length]? = some (l.getD i []) := by
 have h1 : a1s l cs (i + 1) = a1s l cs i ++ [l.getD i []] := by rw [a4E, hc]; rfl
 obtain ⟨t, ht⟩ := b4b (l := l) (cs := cs) (show i + 1 <= k by omega)
 rw [<- ht, h1, List.append_assoc, List.getElem?_append_right (Nat.le_refl _)]
 simp
def a6A (r : RepoD) (n w : Str) (l : List Str) : List Str := a1s l (a1z r n w l).2 (a1z r n w l).2.length

theorem a6w {r : RepoD} (h : a3x r) : a2i r := ⟨by have := h.1; omega, fun c hc f hf => by have := a8o (h.2.2 c hc).2.1 f hf; omega⟩
theorem b5T {r : RepoD} (h : a3x r) : rpSz r := by
 refine ⟨by have := h.1; omega, fun c hc => ?_, by have := h.2.1; omega⟩
 obtain ⟨h1, h2, h3⟩ := h.2.2 c hc
 have h4 := a3v _ h2
 exact ⟨by omega, by omega, fun g hg => by have := h4.2 g hg; omega⟩
--TAB a0W
theorem a5y {r : RepoD} (h : a0C r = true) (n : Str) : a5a r n = atL r.heads n := by unfold a5a; rw [if_pos h]
--TAB a0W
theorem b5q {r : RepoD} (h : a0n r = true) {a b : Int} (ha : 0 <= a /\ a < r.commits.length) (hb : 0 <= b /\ b < r.commits.length) (hr : Rch r b.toNat a.toNat) : a7b r a b = true := by
 have hI : a0C r = true := by rw [a1a]; exact h
 unfold a7b
 rw [Bool.and_eq_true]
 refine ⟨areB_iff.2 ⟨hI, fun x hx => ?_⟩, ?_⟩
 ·rcases List.mem_cons.1 hx with rfl | hx
  ·exact ha
  ·rw [List.mem_singleton.1 hx]; exact hb
 ·have e : (b.toNat : Int) = b := by omega
  have := (b8w (b4o h) (a := b.toNat) (by omega) a.toNat).2 hr
  rw [e] at this
  exact this
theorem b3X {x r : RepoD} (h : r.commits <+: x.commits) : a5s x r = true := by
 unfold a5s
 exact decide_eq_true (List.prefix_iff_eq_take.1 h).symm
theorem c4D {r : RepoD} (h : a0n r = true) (n w : Str) (b : Int) :
  ((a0z r n w b).2 = 0 -> a0C (a0z r n w b).1 = true /\ a5s (a0z r n w b).1 r = true /\ atL (a0z r n w b).1.heads n = r.commits.length /\ r.commits.length < (a0z r n w b).1.commits.length /\
   ((a0z r n w b).1.commits.getD r.commits.length default).parents = [atL r.heads n, b] /\ ((a0z r n w b).1.commits.getD r.commits.length default).who = w) /\
  ((a0z r n w b).2 = 3 -> a0C (a0z r n w b).1 = true /\ atL (a0z r n w b).1.heads n = b /\ a7b r (atL r.heads n) b = true /\ (a0z r n w b).1.commits = r.commits) /\
  ((a0z r n w b).2 = 2 -> (a0z r n w b).1 = r /\ a7b r b (atL r.heads n) = true) /\
  (¬ (a0z r n w b).2 = 0 -> ¬ (a0z r n w b).2 = 3 -> (a0z r n w b).1 = r) := by
 have hU := a9s h n w b
 have hH := ((a1i r).1 h).2.1
 generalize a0z r n w b = X at *
 cases hU with
 | form => exact ⟨by simp, by simp, by simp, fun _ _ => rfl⟩
 | full => exact ⟨by simp, by simp, by simp, fun _ _ => rfl⟩
 | clash => exact ⟨by simp, by simp, by simp, fun _ _ => rfl⟩
 | same a1 a2 b1 b2 g => exact ⟨by simp, by simp, fun _ => ⟨rfl, b5q h ⟨b1, b2⟩ ⟨a1, a2⟩ g⟩, fun _ _ => rfl⟩
 | on a1 a2 b1 b2 g1 g2 hr =>
  refine ⟨by simp, fun _ => ⟨by rw [a1a]; exact hr, ?_, b5q h ⟨a1, a2⟩ ⟨b1, b2⟩ g2, rfl⟩, by simp, by simp⟩
  show atL (hSet r.heads n b) n = b
  rw [a9w hH, if_pos rfl]
 | made t a1 a2 b1 b2 g1 g2 hj hr =>
  refine ⟨fun _ => ⟨by rw [a1a]; exact hr, b3X (List.prefix_append _ _), by rw [b2B h, if_pos rfl], by simp -implicitDefEqProofs [addR], ?_, ?_⟩, by simp, by simp, by simp⟩
  ·rw [b0p]
  ·rw [b0p]
def a8G : Con := .fn 149 Str (fun s => [.sl true 1 (a1f s)]) (fun _ => True) (fun _ => .bool true) (fun _ => [])
theorem b1M : Has Tryz.prog 6 a8G := by
 refine a0d mixed a0Q (HasL.cons a9T (HasL.cons b3F (HasL.cons a5E (HasL.cons c0Y (HasL.cons a3q (HasL.cons c0R (HasL.cons b8n (HasL.cons b2t (HasL.cons c1x HasL.nil))))))))) [0, 2, 3, 4, 5, 6, 7, 8, 9, 10, 11, 12, 67] ((fun a n (_ : Nat) => (fun _ => a0w) a n)) [12287, 4182] Tryz.func6 (by unfold Tryz.f6; rfl) (fun _ => ⟨(), trivial⟩) ?_
 intro (s : Str) _
 simp (maxSteps := 8000000) -implicitDefEqProofs [-kStep_move, -kStepC_move, -Bool.exists_bool, a8G, a4V, a6W, a4A, b2Y, a3X, b2X, b0E, a9F, b5A, Con.fn, a0W, tTab]
 refine fun _ _ r n w b hd => ⟨r, n, w, b, ⟨⟨rfl, rfl⟩, rfl, rfl, rfl⟩, a6w hd, r, n, w, b, ⟨⟨rfl, rfl⟩, rfl, rfl, rfl⟩, b5T hd, (a0z r n w b).1, (a0z r n w b).1, ⟨⟨rfl, rfl⟩, rfl, rfl⟩, ?_⟩
 have hp := a6w hd
 have hU : a0C r = true -> a2i (a0z r n w b).1 := fun h => (a7y (by rw [a1a]; exact (a9s (by rw [<- a1a]; exact h) n w b).ok (by rw [<- a1a]; exact h))).2
 have hL : a0C r = true -> _ := fun h => c4D (r := r) (by rw [<- a1a]; exact h) n w b
 generalize a0z r n w b = X at *
 obtain ⟨x, c⟩ := X
 simp only at hU hL ⊢
 simp only [true_and, and_true, not_true, false_or, or_false, true_implies, and_self]
 refine ⟨hp, fun _ => trivial, fun hr => ?_⟩
 have hx := hU hr
 obtain ⟨L0, L3, L2, Lo⟩ := hL hr
 refine ⟨r, n, ⟨⟨rfl, rfl⟩, rfl⟩, hp, x, n, ⟨⟨rfl, rfl⟩, rfl⟩, hx, fun hc => ?_, fun h0 => ⟨fun hc => ?_, fun h3 => ?_⟩⟩
 ·obtain ⟨k1, k2, k3, k4, k5, k6⟩ := L0 hc
  have k7 : a5a x n = r.commits.length := by rw [a5y k1]; exact k3
  have k8 := a5y hr n
  have ht : ((r.commits.length : Int)).toNat = r.commits.length := by omega
  have e1 : Option.map a0r x.commits[r.commits.length]? = some (a0r (x.commits.getD r.commits.length default)) := by simp -implicitDefEqProofs [List.getD_eq_getElem?_getD, k4]
  refine ⟨hx, x, r, ⟨⟨rfl, rfl⟩, rfl, rfl⟩, ?_⟩
  simp only [k1, k2, k7, k8, ht, e1]
  clear hL L0 L3 L2 Lo e1
  generalize x.commits.getD r.commits.length default = y at *
  have e2 : a0e [atL r.heads n, b] = [[D.int IntKind.i64 (atL r.heads n)], [D.int IntKind.i64 b]] := rfl
  rw [<- e2]
  simp -implicitDefEqProofs [a0r, D.asRows, D.asStr, k4, k5, k6]
  exact ⟨_, _, ⟨rfl, rfl⟩, fun _ => ⟨.inr rfl, fun _ => ⟨.inr rfl, fun _ => rfl⟩⟩⟩
 ·obtain ⟨k1, k2, k3, k4⟩ := L3 hc
  have k7 : a5a x n = b := by rw [a5y k1]; exact k2
  have k8 := a5y hr n
  refine ⟨hx, r, _, b, ⟨⟨rfl, rfl⟩, rfl, rfl⟩, ?_⟩
  simp only [k1, k7, k8, k3]
  exact ⟨fun _ _ => ⟨⟨trivial, trivial⟩, hp⟩, .inr ⟨trivial, trivial⟩, fun _ _ _ => ⟨.inr ⟨⟨trivial, trivial⟩, trivial⟩, fun _ => ⟨x, r, ⟨⟨rfl, rfl⟩, rfl, rfl⟩, .inr ⟨⟨⟨trivial, trivial⟩, trivial⟩, by rw [k4]⟩, fun _ => ⟨⟨⟨⟨trivial, trivial⟩, trivial⟩, by rw [k4]⟩, b3X (by rw [k4]; exact List.prefix_refl _)⟩⟩⟩⟩
 ·refine ⟨fun hc => ?_, fun hc => ?_⟩
  ·obtain ⟨e, q⟩ := L2 hc
   exact ⟨x, r, ⟨⟨rfl, rfl⟩, rfl, rfl⟩, r, b, _, ⟨⟨rfl, rfl⟩, rfl, rfl⟩, fun e => ⟨e, hp⟩, e, by rw [a5y hr]; exact q⟩
  ·rw [Lo h0 h3]; exact ⟨rfl, rfl⟩
--TAB a0W
theorem b4n {r : RepoD} (h : a0C r = false) (n w : Str) (l : List Str) : a1z r n w l = (noR, []) := by unfold a1z; rw [if_neg (by rw [<- a1a, h]; simp)]
theorem b0k {r : RepoD} (h : a0C r = true) (n w : Str) {l : List Str} (h5 : 5 < l.length) : a1z r n w l = (r, []) := by unfold a1z; rw [if_pos (by rw [<- a1a]; exact h), if_pos h5]
theorem b2n {r : RepoD} (h : a0C r = true) (n w : Str) {l : List Str} (h5 : l.length <= 5) : a1z r n w l = qF n w l r := by unfold a1z; rw [if_pos (by rw [<- a1a]; exact h), if_neg (by omega)]
theorem c6t {n w : Str} {l : List Str} {r : RepoD} {i : Nat} (h : i < l.length) : qF n w (l.take (i + 1)) r = ((a0z (qF n w (l.take i) r).1 n w (atL (qF n w (l.take i) r).1.heads l[i])).1, (qF n w (l.take i) r).2 ++ [(a0z (qF n w (l.take i) r).1 n w (atL (qF n w (l.take i) r).1.heads l[i])).2]) := b8W h
theorem eIsn (l : List Int) (x : Int) : a0e l ++ [[D.int .i64 x]] = a0e (l ++ [x]) := by simp -implicitDefEqProofs [a0e, eInt]
def qrI (r : RepoD) (n w : Str) (l : List Str) : Inv := ⟨Nat, fun i => ⟨[(1, true, .str n), (2, true, .str w), (8, true, .ptr 11 0), (9, true, .nil), (10, true, .ptr 12 0), (11, true, .own 9 1 (a0e (qF n w (l.take i) r).2)), (26, true, .sl true 1 (a0a l)), (27, true, .int .i64 l.length), (28, true, .int .i64 i)],
 [(11, a6p), (12, .box 26 [.own 13 3 (a0g (qF n w (l.take i) r).1.commits), .own 14 2 (a0c (qF n w (l.take i) r).1.heads)]), (13, .own 34 3 true (a0g (qF n w (l.take i) r).1.commits)), (14, .own 113 2 true (a0c (qF n w (l.take i) r).1.heads)), (9, .own 3 1 true (a0e (qF n w (l.take i) r).2))]⟩, fun i => i <= l.length /\ l.length <= 5 /\ a0n r = true, fun i => l.length - i⟩
def a5G : Con := .fn 50 (RepoD × Str × Str × List Str) (fun a => [a0X a.1, .str a.2.1, .str a.2.2.1, .sl true 1 (a0a a.2.2.2)]) (fun a => a2i a.1) (fun a => .tup [.agg [.own 8 3 (a0g (a1z a.1 a.2.1 a.2.2.1 a.2.2.2).1.commits), .own 9 2 (a0c (a1z a.1 a.2.1 a.2.2.1 a.2.2.2).1.heads)], .own 10 1 (a0e (a1z a.1 a.2.1 a.2.2.1 a.2.2.2).2)]) (fun a => a2C 8 (a1z a.1 a.2.1 a.2.2.1 a.2.2.2).1.commits ++ a2G 9 (a1z a.1 a.2.1 a.2.2.1 a.2.2.2).1.heads ++ a4c 10 (a1z a.1 a.2.1 a.2.2.1 a.2.2.2).2)
theorem a8u : Has Tryz.prog 23 a5G := by
 refine a0d mixed a0Q (HasL.cons a3q (HasL.cons b0W (HasL.cons b2D (HasL.cons b2x HasL.nil)))) [0, 1, 2, 3, 4, 8, 9, 10, 11, 13, 14, 15, 26, 27, 28] ((fun a n (_ : Nat) => (fun a _ => qrI a.1 a.2.1 a.2.2.1 a.2.2.2) a n)) [12287] Tryz.func23 (by unfold Tryz.f23; rfl) (fun _ => ⟨(), trivial⟩) ?_
 intro a ha
 obtain ⟨r, n, w, l⟩ := a
 replace ha : a2i r := ha
 simp (maxSteps := 8000000) [a5G, a3X, b1B, cAtI, a9G, Con.fn, a0W, tTab, a0B, qrI]
 try dsimp only
 try simp only [and_assoc, exists_eq_left, exists_and_left, RepoD.ex1, RepoD.eta]
 refine ⟨ha, fun h => by rw [b4n h]; exact ⟨rfl, rfl, rfl, rfl, rfl, rfl⟩, fun h => ⟨(a7y h).1, fun _ => ⟨fun h5 => by rw [b0k h n w (by omega)]; exact ⟨rfl, rfl, rfl, rfl, rfl, rfl⟩, fun h5 _ => ⟨⟨0, rfl, rfl, rfl, rfl, rfl, rfl, rfl, Nat.zero_le _, by omega, by rw [<- a1a]; exact h⟩, fun t ht hl hs => ⟨fun hlt => ⟨hlt, fun _ => ?_⟩, fun hge => ?_⟩⟩⟩⟩⟩
 ·have e1 : Option.map eStr l[t]? = some (eStr l[t]) := by simp -implicitDefEqProofs [hlt]
  have S := c6t (n := n) (w := w) (r := r) hlt
  have hQ := (c0O hs n w l t ht).1
  have hlen : (qF n w (l.take t) r).2.length = t := by rw [b7b]; simp; omega
  rw [<- a1a] at hQ
  rw [e1]
  generalize qF n w (l.take t) r = Q at *
  generalize l[t] = m at *
  simp -implicitDefEqProofs [eStr, D.asStr, eIsn]
  exact ⟨hQ, by omega, by omega, by omega, by omega, fun _ _ => ⟨t + 1, by rw [S], by omega, by rw [S], by rw [S], by rw [S], by rw [S], by rw [S], by omega, hl, hs, by omega⟩⟩
 ·rw [b2n h n w hl, List.take_of_length_le hge]
  exact ⟨rfl, rfl, rfl, rfl, rfl, rfl⟩
def qsI (r : RepoD) (n w : Str) (l : List Str) : Inv := ⟨Nat, fun i => ⟨[(1, true, .str n), (2, true, .str w), (3, true, .sl true 1 (a0a l)), (8, true, .ptr 11 0), (9, true, .nil), (10, true, .own 9 1 (a0e (qF n w (l.take i) r).2)), (11, true, .ptr 12 0), (12, true, .int .i64 i)],
 [(11, a6p), (12, .box 26 [.sl false 3 (a0g (qF n w (l.take i) r).1.commits), .sl false 2 (a0c (qF n w (l.take i) r).1.heads)]), (9, .own 3 1 true (a0e (qF n w (l.take i) r).2))]⟩, fun i => i <= l.length /\ l.length <= 5 /\ a0n r = true, fun i => l.length - i⟩
def a7N : Con := .fn 52 (RepoD × Str × Str × List Str) (fun a => [a0X a.1, .str a.2.1, .str a.2.2.1, .sl true 1 (a0a a.2.2.2)]) (fun a => rpSz a.1) (fun a => .tup [.agg [.sl false 3 (a0g (a1z a.1 a.2.1 a.2.2.1 a.2.2.2).1.commits), .sl false 2 (a0c (a1z a.1 a.2.1 a.2.2.1 a.2.2.2).1.heads)], .own 10 1 (a0e (a1z a.1 a.2.1 a.2.2.1 a.2.2.2).2)]) (fun a => a4c 10 (a1z a.1 a.2.1 a.2.2.1 a.2.2.2).2)
theorem b4I : Has Tryz.prog 70 a7N := by
 refine a0d mixed a0Q (HasL.cons a3o (HasL.cons a3n (HasL.cons a3m (HasL.cons a5E HasL.nil)))) [0, 1, 2, 3, 4, 8, 9, 10, 11, 12, 13, 14] ((fun a n (_ : Nat) => (fun a _ => qsI a.1 a.2.1 a.2.2.1 a.2.2.2) a n)) [12287] Tryz.func70 (by unfold Tryz.f70; rfl) (fun _ => ⟨(), trivial⟩) ?_
 intro a ha
 obtain ⟨r, n, w, l⟩ := a
 replace ha : rpSz r := ha
 simp (maxSteps := 8000000) [a7N, a4z, a3W, a4y, a4A, Con.fn, a0W, tTab, a0B, qsI]
 try dsimp only
 try simp only [and_assoc, exists_eq_left, exists_and_left, RepoD.ex1, RepoD.eta]
 have hn : ∀ h : a0n r = false, a0C r = false := fun h => by rw [a1a]; exact h
 refine ⟨by have := ha.1; omega, fun h => by rw [b4n (hn h)]; exact ⟨rfl, rfl, rfl⟩, fun h => ?_⟩
 have hI : a0C r = true := by rw [a1a]; exact h
 refine ⟨ha, fun _ => ⟨fun h5 => by rw [b0k hI n w (by omega)]; exact ⟨rfl, rfl, rfl⟩, fun h5 => ⟨⟨0, rfl, rfl, rfl, rfl, rfl, Nat.zero_le _, by omega, h⟩, fun t ht hl hs _ => ⟨fun hlt => ⟨hlt, fun _ => ?_⟩, fun hge => ?_⟩⟩⟩⟩
 ·have e1 : Option.map eStr l[t]? = some (eStr l[t]) := by simp -implicitDefEqProofs [hlt]
  have S := c6t (n := n) (w := w) (r := r) hlt
  have hQ := (c0O hs n w l t ht).1
  have hlen : (qF n w (l.take t) r).2.length = t := by rw [b7b]; simp; omega
  rw [<- a1a] at hQ
  rw [e1]
  generalize qF n w (l.take t) r = Q at *
  generalize l[t] = m at *
  simp -implicitDefEqProofs [eStr, D.asStr, eIsn]
  exact ⟨(a7y hQ).1, by omega, by omega, by omega, by omega, fun _ _ => ⟨t + 1, by rw [S], by omega, by rw [S], by rw [S], by rw [S], by omega, hl, hs, by omega⟩⟩
 ·rw [b2n hI n w hl, List.take_of_length_le hge]
  exact ⟨rfl, rfl, rfl, rfl⟩
--TAB a0W
def a8N : Con := .fn 9 Int (fun a => [.int .i64 a]) (fun _ => True) (fun a => .bool (decide (a = 0) || decide (a = 3))) (fun _ => [])
theorem b7l : Has Tryz.prog 69 a8N := by
 refine a0d mixed a0Q HasL.nil [0, 2] ((fun a n (_ : Nat) => (fun _ => a0w) a n)) [] Tryz.func69 (by unfold Tryz.f69; rfl) (fun _ => ⟨(), trivial⟩) ?_
 intro (a : Int) _
 simp -implicitDefEqProofs [-kStep_move, -Bool.exists_bool, a8N, Con.fn, a0W, tTab]
theorem a8i (r : RepoD) (n w : Str) (l : List Str) : (a1z r n w l).2.length <= l.length := by
 unfold a1z
 split
 ·split
  ·simp
  ·rw [b7b]; exact Nat.le_refl _
 ·simp
def qlI (l : List Str) (cs : List Int) : Inv := ⟨Nat, fun i => ⟨[(3, true, .sl true 1 (a0a l)), (8, true, .nil), (9, true, .own 9 1 (a0a (a1s l cs i))), (22, true, .own 12 1 (a0e cs)), (23, true, .int .i64 cs.length), (24, true, .int .i64 i)],
 [(9, .own 9 1 true (a0a (a1s l cs i))), (12, .own 3 1 true (a0e cs))]⟩, fun i => i <= cs.length, fun i => cs.length - i⟩
def a6Q : Con := .fn 45 (RepoD × Str × Str × List Str) (fun a => [a0X a.1, .str a.2.1, .str a.2.2.1, .sl true 1 (a0a a.2.2.2)]) (fun a => a2i a.1 /\ a.2.2.2.length <= 1048576) (fun a => .own 8 1 (a0a (a6A a.1 a.2.1 a.2.2.1 a.2.2.2))) (fun a => a1E 8 (a6A a.1 a.2.1 a.2.2.1 a.2.2.2))
theorem b3r : Has Tryz.prog 19 a6Q := by
 refine a0d mixed a0Q (HasL.cons a8u (HasL.cons b7l HasL.nil)) [0, 1, 2, 3, 4, 8, 9, 11, 12, 13, 22, 23, 24] ((fun a n (_ : Nat) => (fun a _ => qlI a.2.2.2 (a1z a.1 a.2.1 a.2.2.1 a.2.2.2).2) a n)) [] Tryz.func19 (by unfold Tryz.f19; rfl) (fun _ => ⟨(), trivial⟩) ?_
 intro a ha
 obtain ⟨r, n, w, l⟩ := a
 obtain ⟨ha, hl⟩ : a2i r /\ l.length <= 1048576 := ha
 have hq := a8i r n w l
 simp (maxSteps := 8000000) [-kStep_move, -Bool.exists_bool, a6Q, a5G, a8N, Con.fn, a0W, tTab, a0B, qlI, a6A]
 try dsimp only
 try simp only [and_assoc, exists_eq_left, exists_and_left, RepoD.ex1, RepoD.eta]
 generalize (a1z r n w l).2 = cs at *
 refine ⟨ha, fun _ => ⟨⟨0, rfl, trivial, trivial, rfl, rfl, trivial, Nat.zero_le _⟩, fun t ht => ⟨fun hlt => ⟨hlt, fun _ => ?_⟩, fun hge => by rw [show t = cs.length by omega]; exact ⟨rfl, rfl⟩⟩⟩⟩
 ·skip
  have e1 : Option.map eInt cs[t]? = some (eInt cs[t]) := by simp -implicitDefEqProofs [hlt]
  have ht2 : t < l.length := by omega
  have e2 : Option.map eStr l[t]? = some (eStr l[t]) := by simp -implicitDefEqProofs [ht2]
  have gc : cs.getD t 0 = cs[t] := by simp -implicitDefEqProofs [List.getD_eq_getElem?_getD, hlt]
  have gm : l.getD t [] = l[t] := by simp -implicitDefEqProofs [List.getD_eq_getElem?_getD, ht2]
  have S := a4E (l := l) (cs := cs) (i := t)
  have L := a6z l cs t
  rw [gc, gm] at S
  rw [e1, e2]
  generalize cs[t] = c at *
  generalize l[t] = m at *
  have S1 : ¬ c = 0 -> ¬ c = 3 -> ¬ c = 2 -> a0a (a1s l cs (t + 1)) = a0a (a1s l cs t) ++ [[D.str m]] := fun q0 q3 q2 => by rw [S, if_neg (by simp -implicitDefEqProofs [a3J, q0, q3, q2])]; simp -implicitDefEqProofs [a0a, eStr]
  have S2 : (¬ c = 0 -> ¬ c = 3 -> c = 2) -> a1s l cs (t + 1) = a1s l cs t := fun q => by
   rw [S, if_pos]
   unfold a3J
   by_cases q0 : c = 0
   ·simp -implicitDefEqProofs [q0]
   ·by_cases q3 : c = 3
    ·simp -implicitDefEqProofs [q3]
    ·simp -implicitDefEqProofs [q q0 q3]
  clear S
  simp -implicitDefEqProofs [eInt, eStr, D.asInt, D.asStr]
  repeat' (first | intro _ | apply And.intro)
  all_goals first | omega | (refine ⟨t + 1, ?_, by omega, ?_, by omega, by omega⟩ <;> first | exact S1 (by assumption) (by assumption) (by assumption) | exact (S1 (by assumption) (by assumption) (by assumption)).symm | exact S2 (by assumption) | exact (S2 (by assumption)).symm)
def qmI (l : List Str) (cs : List Int) : Inv := ⟨Nat, fun i => ⟨[(3, true, .sl true 1 (a0a l)), (8, true, .nil), (9, true, .own 9 1 (a0a (a1s l cs i))), (11, true, .own 12 1 (a0e cs)), (12, true, .int .i64 i)],
 [(9, .own 9 1 true (a0a (a1s l cs i))), (12, .own 3 1 true (a0e cs))]⟩, fun i => i <= cs.length, fun i => cs.length - i⟩
def a6R : Con := .fn 55 (RepoD × Str × Str × List Str) (fun a => [a0X a.1, .str a.2.1, .str a.2.2.1, .sl true 1 (a0a a.2.2.2)]) (fun a => rpSz a.1 /\ a.2.2.2.length <= 1048576) (fun a => .own 8 1 (a0a (a6A a.1 a.2.1 a.2.2.1 a.2.2.2))) (fun a => a1E 8 (a6A a.1 a.2.1 a.2.2.1 a.2.2.2))
theorem b3s : Has Tryz.prog 21 a6R := by
 refine a0d mixed a0Q (HasL.cons b4I HasL.nil) [0, 1, 2, 3, 4, 8, 9, 11, 12] ((fun a n (_ : Nat) => (fun a _ => qmI a.2.2.2 (a1z a.1 a.2.1 a.2.2.1 a.2.2.2).2) a n)) [] Tryz.func21 (by unfold Tryz.f21; rfl) (fun _ => ⟨(), trivial⟩) ?_
 intro a ha
 obtain ⟨r, n, w, l⟩ := a
 obtain ⟨ha, hl⟩ : rpSz r /\ l.length <= 1048576 := ha
 have hq := a8i r n w l
 simp (maxSteps := 8000000) [-kStep_move, -Bool.exists_bool, a6R, a7N, Con.fn, a0W, tTab, a0B, qmI, a6A]
 try dsimp only
 try simp only [and_assoc, exists_eq_left, exists_and_left, RepoD.ex1, RepoD.eta]
 generalize (a1z r n w l).2 = cs at *
 refine ⟨ha, ⟨0, rfl, trivial, rfl, rfl, trivial, Nat.zero_le _⟩, fun t ht _ => ⟨fun hlt => ⟨hlt, fun _ => ?_⟩, fun hge => by rw [show t = cs.length by omega]; exact ⟨rfl, rfl⟩⟩⟩
 ·skip
  have e1 : Option.map eInt cs[t]? = some (eInt cs[t]) := by simp -implicitDefEqProofs [hlt]
  have ht2 : t < l.length := by omega
  have e2 : Option.map eStr l[t]? = some (eStr l[t]) := by simp -implicitDefEqProofs [ht2]
  have gc : cs.getD t 0 = cs[t] := by simp -implicitDefEqProofs [List.getD_eq_getElem?_getD, hlt]
  have gm : l.getD t [] = l[t] := by simp -implicitDefEqProofs [List.getD_eq_getElem?_getD, ht2]
  have S := a4E (l := l) (cs := cs) (i := t)
  have L := a6z l cs t
  rw [gc, gm] at S
  rw [e1, e2]
  generalize cs[t] = c at *
  generalize l[t] = m at *
  have S1 : ¬ c = 0 -> ¬ c = 3 -> ¬ c = 2 -> a0a (a1s l cs (t + 1)) = a0a (a1s l cs t) ++ [[D.str m]] := fun q0 q3 q2 => by rw [S, if_neg (by simp -implicitDefEqProofs [a3J, q0, q3, q2])]; simp -implicitDefEqProofs [a0a, eStr]
  have S2 : (¬ c = 0 -> ¬ c = 3 -> c = 2) -> a1s l cs (t + 1) = a1s l cs t := fun q => by
   rw [S, if_pos]
   unfold a3J
   by_cases q0 : c = 0
   ·simp -implicitDefEqProofs [q0]
   ·by_cases q3 : c = 3
    ·simp -implicitDefEqProofs [q3]
    ·simp -implicitDefEqProofs [q q0 q3]
  clear S
  simp -implicitDefEqProofs [eInt, eStr, D.asInt, D.asStr]
  repeat' (first | intro _ | apply And.intro)
  all_goals first | omega | (refine ⟨t + 1, ?_, by omega, ?_, by omega, by omega⟩ <;> first | exact S1 (by assumption) (by assumption) (by assumption) | exact (S1 (by assumption) (by assumption) (by assumption)).symm | exact S2 (by assumption) | exact (S2 (by assumption)).symm)
--TAB a0W
def lqI : Inv := ⟨List Str × List Int × Nat, fun x => ⟨[(2, true, .bool false), (6, true, .own 11 1 (a0a x.1)), (7, true, .own 9 1 (a0a (a1s x.1 x.2.1 x.2.1.length))), (9, true, .own 12 1 (a0e x.2.1)), (10, true, .int .i64 (a1s x.1 x.2.1 x.2.2).length), (11, true, .int .i64 x.2.2)],
 [(11, .own 9 1 true (a0a x.1)), (9, .own 9 1 true (a0a (a1s x.1 x.2.1 x.2.1.length))), (12, .own 3 1 true (a0e x.2.1))]⟩, fun x => x.2.2 <= x.2.1.length /\ x.2.1.length <= x.1.length /\ x.1.length <= 3, fun x => 3 - x.2.2⟩
def a8F : Con := .fn 104 Str (fun s => [.sl true 1 (a1f s)]) (fun _ => True) (fun _ => .bool true) (fun _ => [])
theorem b1L : Has Tryz.prog 4 a8F := by
 refine a0d mixed a0Q (HasL.cons a9S (HasL.cons b3r (HasL.cons b3s (HasL.cons b0m (HasL.cons a3q (HasL.cons a8u HasL.nil)))))) [0, 2, 3, 4, 5, 6, 7, 9, 10, 11, 12] ((fun a n (_ : Nat) => (fun _ _ => lqI) a n)) [] Tryz.func4 (by unfold Tryz.f4; rfl) (fun _ => ⟨(), trivial⟩) ?_
 intro (s : Str) _
 simp (maxSteps := 8000000) -implicitDefEqProofs [-kStep_move, -kStepC_move, -Bool.exists_bool, a8F, a4U, a6Q, a6R, a7P, a3X, a5G, Con.fn, a0W, tTab, lqI]
 try dsimp only
 refine fun _ _ r n w l hd hl3 => ?_
 have hp := a6w hd
 have hz := b5T hd
 have hq := a8i r n w l
 refine ⟨r, n, w, l, ⟨⟨rfl, rfl⟩, rfl, rfl, rfl⟩, ⟨hp, by omega⟩, r, n, w, l, ⟨⟨rfl, rfl⟩, rfl, rfl, rfl⟩, ⟨hz, by omega⟩, a6A r n w l, a6A r n w l, ⟨rfl, rfl⟩, fun _ => ⟨rfl, hp⟩, fun _ => ⟨r, n, w, l, ⟨⟨rfl, rfl⟩, rfl, rfl, rfl⟩, ⟨hz, by omega⟩, rfl⟩, fun _ hI => ⟨r, n, w, l, ⟨⟨rfl, rfl⟩, rfl, rfl, rfl⟩, hp, ?_, ?_⟩⟩
 ·exact ⟨l, (a1z r n w l).2, 0, ⟨⟨rfl, rfl, rfl, rfl, rfl⟩, rfl, rfl, rfl⟩, Nat.zero_le _, hq, hl3⟩
 ·clear hd hl3 hp hz hq hI
  intro l cs t ht hcl hl3 _
  have hll := a6z l cs cs.length
  refine ⟨fun hlt => ?_, fun hge => ?_⟩
  ·have gc : cs.getD t 0 = cs[t] := by simp -implicitDefEqProofs [List.getD_eq_getElem?_getD, hlt]
   have ht2 : t < l.length := by omega
   have e1 : Option.map eInt cs[t]? = some (eInt cs[t]) := by simp -implicitDefEqProofs [hlt]
   have e2 : Option.map eStr l[t]? = some (eStr l[t]) := by simp -implicitDefEqProofs [ht2]
   have gm : l.getD t [] = l[t] := by simp -implicitDefEqProofs [List.getD_eq_getElem?_getD, ht2]
   have S := a4E (l := l) (cs := cs) (i := t)
   have L := a6z l cs t
   have A := @c4W l cs t cs.length hlt
   rw [gc] at S A
   rw [gm] at S A
   rw [e1, e2]
   generalize cs[t] = c at *
   generalize l[t] = m at *
   have S2 : (¬ c = 0 -> ¬ c = 3 -> c = 2) -> (a1s l cs (t + 1)).length = (a1s l cs t).length := fun q => by
    rw [S, if_pos]
    unfold a3J
    by_cases q0 : c = 0
    ·simp -implicitDefEqProofs [q0]
    ·by_cases q3 : c = 3
     ·simp -implicitDefEqProofs [q3]
     ·simp -implicitDefEqProofs [q q0 q3]
   by_cases hc : ¬ c = 0 /\ ¬ c = 3 /\ ¬ c = 2
   ·have hw : a3J c = false := by simp -implicitDefEqProofs [a3J, hc]
    have A := A hw
    have S1 : (a1s l cs (t + 1)).length = (a1s l cs t).length + 1 := by rw [S, hw]; simp
    obtain ⟨hk, _⟩ := List.getElem?_eq_some_iff.1 A
    have e3 : Option.map eStr (a1s l cs cs.length)[(a1s l cs t).length]? = some (eStr m) := by rw [A]; rfl
    rw [e3]
    simp -implicitDefEqProofs [eInt, eStr, D.asInt, D.asStr, hlt, hk, ht2, hc]
    repeat' (first | intro _ | apply And.intro)
    all_goals first | omega | exact ⟨l, cs, t + 1, ⟨⟨rfl, rfl, rfl, by omega, by omega⟩, rfl, rfl, rfl⟩, ⟨by omega, hcl, hl3⟩, by omega⟩
   ·have S2 := S2 (by omega)
    have hn : ∀ P : Prop, (¬ c = 0 -> ¬ c = 3 -> ¬ c = 2 -> P) = True := fun P => by
     simp only [eq_iff_iff, iff_true]; intro a b d; exact absurd ⟨a, b, d⟩ hc
    simp -implicitDefEqProofs [eInt, eStr, D.asInt, D.asStr, hlt, hn]
    repeat' (first | intro _ | apply And.intro)
    all_goals first | omega | exact ⟨l, cs, t + 1, ⟨⟨rfl, rfl, rfl, by omega, by omega⟩, rfl, rfl, rfl⟩, ⟨by omega, hcl, hl3⟩, by omega⟩
  ·intro _
   rw [show t = cs.length by omega]
--TAB a1D
def a5h (a b : List FileD) (p : Str) : Int := ((getL b p).1.length : Int) - lcs (getL a p).1 (getL b p).1
def a5f (a b : List FileD) (p : Str) : Int := ((getL a p).1.length : Int) - lcs (getL a p).1 (getL b p).1
def a2h (a b : List FileD) (l : List Str) : Int := (l.map (a5h a b)).sum
def a2g (a b : List FileD) (l : List Str) : Int := (l.map (a5f a b)).sum
theorem b0f {a b : List FileD} {l : List Str} {i : Nat} (h : i < l.length) : a2h a b (l.take (i + 1)) = a2h a b (l.take i) + a5h a b l[i] := by
 unfold a2h; rw [a0p h, List.map_append, List.sum_append]; simp only [List.map_cons, List.map_nil, List.sum_cons, List.sum_nil]; omega
theorem b0e {a b : List FileD} {l : List Str} {i : Nat} (h : i < l.length) : a2g a b (l.take (i + 1)) = a2g a b (l.take i) + a5f a b l[i] := by
 unfold a2g; rw [a0p h, List.map_append, List.sum_append]; simp only [List.map_cons, List.map_nil, List.sum_cons, List.sum_nil]; omega
theorem b7m {f : Str -> Int} (h : ∀ p, -1048576 <= f p /\ f p <= 1048576) : ∀ l : List Str, -1048576 * (l.length : Int) <= (l.map f).sum /\ (l.map f).sum <= 1048576 * (l.length : Int)
 | [] => by simp
 | x :: l => by
  have := b7m h l
  have h1 := h x
  simp only [List.map_cons, List.sum_cons, List.length_cons, Int.natCast_add, Int.natCast_one]
  omega
theorem c5c {a b : List FileD} (ha : ∀ f ∈ a, f.text.length <= 1048576) (hb : ∀ f ∈ b, f.text.length <= 1048576) (p : Str) : -1048576 <= a5h a b p /\ a5h a b p <= 1048576 := by
 have h1 := a2b ha p
 have h2 := a2b hb p
 have h3 := a3A (getL a p).1 (getL b p).1
 unfold a5h; omega
theorem c4Y {a b : List FileD} (ha : ∀ f ∈ a, f.text.length <= 1048576) (hb : ∀ f ∈ b, f.text.length <= 1048576) (p : Str) : -1048576 <= a5f a b p /\ a5f a b p <= 1048576 := by
 have h1 := a2b ha p
 have h2 := a2b hb p
 have h3 := a3A (getL a p).1 (getL b p).1
 unfold a5f; omega
def txS (t : List FileD) : Prop := t.length <= 65536 /\ ∀ f ∈ t, f.text.length <= 1048576
theorem b6F {a b : List FileD} (ha : txS a) (hb : txS b) {l : List Str} (hl : l.length <= 200000) (i : Nat) : -209715200000 <= a2h a b (l.take i) /\ a2h a b (l.take i) <= 209715200000 /\ -209715200000 <= a2g a b (l.take i) /\ a2g a b (l.take i) <= 209715200000 := by
 have h1 := b7m (c5c ha.2 hb.2) (l.take i)
 have h2 := b7m (c4Y ha.2 hb.2) (l.take i)
 have h3 : (l.take i).length <= l.length := by rw [List.length_take]; omega
 unfold a2h a2g
 omega
theorem c1e (X Y : List Str) : (tabF X Y 0 0)[0]? = some (tabR X Y 0 0 0) /\ (tabR X Y 0 0 0)[0]? = some (lcs X Y) /\ 0 < (tabF X Y 0 0).length /\ 0 < (tabR X Y 0 0 0).length := by
 refine ⟨a4h (Nat.zero_le _), ?_, by rw [a7z]; omega, by rw [a3u]; omega⟩
 rw [a2I (Nat.zero_le _), if_pos (by omega)]; rfl
def linI (a b : List FileD) : Inv := ⟨Nat, fun i => ⟨[(0, true, .sl true 2 (a0b a)), (1, true, .sl true 2 (a0b b)), (4, true, .int .i64 0), (5, true, .int .i64 0), (6, true, .int .i64 (a2h a b ((a0i a b []).take i))), (7, true, .int .i64 (a2g a b ((a0i a b []).take i))), (8, true, .sl false 1 (a0a (a0i a b []))), (9, true, .int .i64 i)], []⟩, fun i => i <= (a0i a b []).length, fun i => (a0i a b []).length - i⟩
def a8K : Con := .fn 63 (List FileD × List FileD) (fun a => [.sl true 2 (a0b a.1), .sl true 2 (a0b a.2)]) (fun a => txS a.1 /\ txS a.2) (fun a => .tup [.int .i64 (a2h a.1 a.2 (a0i a.1 a.2 [])), .int .i64 (a2g a.1 a.2 (a0i a.1 a.2 []))]) (fun _ => [])
theorem b6A : Has Tryz.prog 62 a8K := by
 refine a0d mixed a1r (HasL.cons b0d (HasL.cons b3Y (HasL.cons b0c HasL.nil))) [0, 1, 4, 5, 6, 7, 8, 9, 10, 12, 14] ((fun a n (_ : Nat) => (fun a _ => linI a.1 a.2) a n)) [] Tryz.func62 (by unfold Tryz.f62; rfl) (fun _ => ⟨(), trivial⟩) ?_
 intro a ha
 obtain ⟨a, b⟩ := a
 obtain ⟨h1, h2⟩ : txS a /\ txS b := ha
 have hb := @b6F a b h1 h2 (a0i a b [])
 have hpl := a4K a b []
 have hl1 := h1.1
 have hl2 := h2.1
 simp only [List.length_nil, Nat.add_zero] at hpl
 have hb := hb (by omega)
 simp (maxSteps := 4000000) [a8K, a7L, b1w, a7K, Con.fn, a1D, tTab, linI]
 try dsimp only
 refine ⟨a, b, [], ⟨rfl, rfl, rfl⟩, ⟨by omega, by omega, by simp⟩, ⟨0, ⟨by simp -implicitDefEqProofs [a2h], by simp -implicitDefEqProofs [a2g], rfl, rfl⟩, Nat.zero_le _⟩, fun t ht _ => ⟨fun hlt => ⟨hlt, fun _ => ?_⟩, fun hge => by rw [List.take_of_length_le hge]; exact ⟨rfl, rfl⟩⟩⟩
 have qq : Option.map eStr (a0i a b [])[t]? = some (eStr (a0i a b [])[t]) := by simp -implicitDefEqProofs [hlt]
 have ms := b0f (a := a) (b := b) hlt
 have ls := b0e (a := a) (b := b) hlt
 have hb0 := hb t
 have hb1 := hb (t + 1)
 rw [ms, ls] at hb1
 rw [qq]
 generalize (a0i a b [])[t] = p at *
 have hx := a2b h1.2 p
 have hy := a2b h2.2 p
 have hm : a5h a b p = ((getL b p).1.length : Int) - lcs (getL a p).1 (getL b p).1 := rfl
 have hl : a5f a b p = ((getL a p).1.length : Int) - lcs (getL a p).1 (getL b p).1 := rfl
 rw [hm, hl] at hb1
 rw [hm] at ms
 rw [hl] at ls
 obtain ⟨t1, t2, t3, t4⟩ := c1e (getL a p).1 (getL b p).1
 have hc := a3A (getL a p).1 (getL b p).1
 simp -implicitDefEqProofs [eStr, D.asStr]
 refine ⟨a, p, ⟨rfl, rfl⟩, hlt, fun _ => ⟨b, p, ⟨rfl, rfl⟩, _, _, ⟨rfl, rfl⟩, ⟨hx, hy⟩, t3, fun _ => ?_⟩⟩
 generalize (getL a p).1 = X at *
 generalize (getL b p).1 = Y at *
 generalize lcs X Y = L at *
 generalize tabF X Y 0 0 = T at *
 generalize tabR X Y 0 0 0 = R at *
 have t5 : R.head? = some L := by rw [List.head?_eq_getElem?]; exact t2
 simp -implicitDefEqProofs [t1, t2, t5, eRow, eInt, D.asRows, D.asInt]
 have hX : (0 : Int) <= X.length := by omega
 have hY : (0 : Int) <= Y.length := by omega
 exact ⟨t4, fun _ _ => ⟨by omega, fun _ _ => ⟨by omega, fun _ _ _ => ⟨by omega, fun _ _ => ⟨by omega, fun _ _ => ⟨by omega, fun _ _ => ⟨t + 1, ⟨by rw [ms]; omega, by rw [ls]; omega, by omega⟩, by omega, by omega⟩⟩⟩⟩⟩⟩⟩
def a1g (r : RepoD) (n : Int) : List FileD := if n < 0 then [] else a0h r n
def b1D : Con := .fn 13 (RepoD × Int) (fun a => [a0X a.1, .int .i64 a.2]) (fun a => -1 <= a.2 /\ a.2 < a.1.commits.length) (fun a => .sl true 2 (a0b (a1g a.1 a.2))) (fun _ => [])
theorem c3D : Has Tryz.prog 55 b1D := by
 refine a0d mixed a1r HasL.nil [0, 1, 2, 4] ((fun a n (_ : Nat) => (fun _ => a0w) a n)) [] Tryz.func55 (by unfold Tryz.f55; rfl) (fun _ => ⟨(), trivial⟩) ?_
 intro a ha
 obtain ⟨r, n⟩ := a
 obtain ⟨h1, h2⟩ : -1 <= n /\ n < r.commits.length := ha
 by_cases h0 : n < 0
 ·have e : a1g r n = [] := by unfold a1g; rw [if_pos h0]
  simp -implicitDefEqProofs [b1D, Con.fn, a1D, tTab, e, h1, h2]
  try dsimp only
  exact fun h => absurd h (by omega)
 ·have hi : n.toNat < r.commits.length := by omega
  have e : Option.map a0r r.commits[n.toNat]? = some (a0r r.commits[n.toNat]) := by simp -implicitDefEqProofs [hi]
  have e2 : a1g r n = r.commits[n.toNat].tree := by unfold a1g a0h; rw [if_neg h0]; simp -implicitDefEqProofs [List.getD_eq_getElem?_getD, hi]
  simp -implicitDefEqProofs [b1D, Con.fn, a1D, tTab, e, e2, a0r, hi, h1, h2]
  try dsimp only
  exact fun h => absurd h h0
theorem c3T (r : RepoD) (a : Int) (h : ∀ p ∈ (r.commits.getD a.toNat default).parents, 0 <= p) : a2L r a = a1g r (a0V r a) := by
 unfold a2L a0V
 cases hp : (r.commits.getD a.toNat default).parents with
 | nil => rfl
 | cons p l =>
  have := h p (by rw [hp]; simp)
  show a0h r p = a1g r p
  unfold a1g
  rw [if_neg (by omega)]
theorem c6A {r : RepoD} (h : a0C r = true) {a : Int} (h0 : 0 <= a) (h1 : a < r.commits.length) : a2L r a = a1g r (a0V r a) := c3T r a fun p hp => by
 have hc : a.toNat < r.commits.length := by omega
 exact ((a2H h hc).2.1 p (by simpa [List.getD_eq_getElem?_getD, hc] using hp)).1
def statOf (r : RepoD) (a : Int) : Int × Int := if a0C r = true /\ 0 <= a /\ a < r.commits.length then (a2h (a1g r (a0V r a)) (a0h r a) (a0i (a1g r (a0V r a)) (a0h r a) []), a2g (a1g r (a0V r a)) (a0h r a) (a0i (a1g r (a0V r a)) (a0h r a) [])) else (-1, -1)
theorem b1h {r : RepoD} (h : a0C r = true) (a : Int) : txS (a0h r a) := by
 have := a1W (by rw [<- a1a]; exact h) a
 obtain ⟨t1, t2⟩ := a3v _ this
 exact ⟨by omega, fun f hf => by have := t2 f hf; omega⟩
theorem b4u {r : RepoD} (h : a0C r = true) (a : Int) : txS (a1g r a) := by
 unfold a1g
 split
 ·exact ⟨by simp, by simp⟩
 ·exact b1h h a
def b0G : Con := .fn 30 (RepoD × Int) (fun a => [a0X a.1, .int .i64 a.2]) (fun a => a2i a.1) (fun a => .tup [.int .i64 (statOf a.1 a.2).1, .int .i64 (statOf a.1 a.2).2]) (fun _ => [])
theorem b8q : Has Tryz.prog 13 b0G := by
 refine a0d mixed a1r (HasL.cons a3o (HasL.cons a3O (HasL.cons a6l (HasL.cons b6A HasL.nil)))) [0, 1, 2, 4, 5] ((fun a n (_ : Nat) => (fun _ => a0w) a n)) [] Tryz.func13 (by unfold Tryz.f13; rfl) (fun _ => ⟨(), trivial⟩) ?_
 intro a ha
 obtain ⟨r, n⟩ := a
 replace ha : a2i r := ha
 simp (maxSteps := 8000000) -implicitDefEqProofs [b0G, a4z, a5e, a5r, a8K, Con.fn, a1D, tTab, a0B]
 try dsimp only
 have e0 : (a0n r = false \/ ¬ (0 <= n /\ n < r.commits.length)) -> statOf r n = (-1, -1) := fun h => by unfold statOf; rw [if_neg]; rw [a1a]; rintro ⟨q1, q2⟩; rcases h with h | h; rw [h] at q1; cases q1; exact h q2
 refine ⟨ha.1, fun h => by rw [e0 (.inl h)]; exact ⟨rfl, rfl⟩, fun h _ => ⟨by omega, fun _ _ => ⟨n, 0, _, ⟨rfl, rfl, rfl⟩, fun hq => by rw [e0 (.inr (by omega))]; exact ⟨rfl, rfl⟩, fun g0 g1 => ⟨r, n, ⟨⟨rfl, rfl⟩, rfl⟩, ⟨h, g0, by omega⟩, ⟨g0, by omega⟩, fun _ g2 => ?_⟩⟩⟩⟩
 have hI : a0C r = true := by rw [a1a]; exact h
 have cg := cget g0 g2
 have e1 : statOf r n = (a2h (a1g r (a0V r n)) (a0h r n) (a0i (a1g r (a0V r n)) (a0h r n) []), a2g (a1g r (a0V r n)) (a0h r n) (a0i (a1g r (a0V r n)) (a0h r n) [])) := by unfold statOf; rw [if_pos ⟨hI, g0, g2⟩]
 rw [cg, e1, c6A hI g0 g2]
 simp -implicitDefEqProofs [D.asRows]
 exact ⟨a1g r (a0V r n), a0h r n, ⟨rfl, rfl⟩, ⟨b4u hI _, b1h hI _⟩, rfl, rfl⟩
def soI (r : RepoD) (n : Int) : Inv := ⟨Nat, fun i => ⟨[(1, true, .int .i64 n), (2, true, .ptr 10 0), (4, true, .int .i64 0), (5, true, .int .i64 0), (6, true, .sl true 2 (a0b (a1g r (a0V r n)))), (7, true, .sl true 2 (a0b (a0h r n))), (8, true, .int .i64 (a2h (a1g r (a0V r n)) (a0h r n) ((a0i (a1g r (a0V r n)) (a0h r n) []).take i))), (9, true, .int .i64 (a2g (a1g r (a0V r n)) (a0h r n) ((a0i (a1g r (a0V r n)) (a0h r n) []).take i))), (31, true, .own 9 1 (a0a (a0i (a1g r (a0V r n)) (a0h r n) []))), (32, true, .int .i64 (a0i (a1g r (a0V r n)) (a0h r n) []).length), (33, true, .int .i64 i)], [(10, a1G r), (9, .own 9 1 true (a0a (a0i (a1g r (a0V r n)) (a0h r n) [])))]⟩, fun i => i <= (a0i (a1g r (a0V r n)) (a0h r n) []).length, fun i => (a0i (a1g r (a0V r n)) (a0h r n) []).length - i⟩
def b0F : Con := .fn 67 (RepoD × Int) (fun a => [a0X a.1, .int .i64 a.2]) (fun a => a2i a.1) (fun a => .tup [.int .i64 (statOf a.1 a.2).1, .int .i64 (statOf a.1 a.2).2]) (fun _ => [])
theorem b8p : Has Tryz.prog 12 b0F := by
 refine a0d mixed a1r (HasL.cons b8z (HasL.cons c1W (HasL.cons c3D (HasL.cons a8A (HasL.cons b3S (HasL.cons b0U HasL.nil)))))) [0, 1, 2, 4, 5, 6, 7, 8, 9, 11, 12, 13, 14, 31, 32, 33] ((fun a n (_ : Nat) => (fun a _ => soI a.1 a.2) a n)) [] Tryz.func12 (by unfold Tryz.f12; rfl) (fun _ => ⟨(), trivial⟩) ?_
 intro a ha
 obtain ⟨r, n⟩ := a
 replace ha : a2i r := ha
 simp (maxSteps := 8000000) -implicitDefEqProofs [-kStep_move, -Bool.exists_bool, b0F, cAre, b5C, b1D, a6q, b1t, b1A, Con.fn, a1D, tTab, a0B, soI]
 try dsimp only
 simp -implicitDefEqProofs only [and_assoc, exists_eq_left, exists_and_left, RepoD.ex1, RepoD.eta]
 refine ⟨[n], rfl, ha, fun h => ?_, fun h => ?_⟩
 ·have e0 : statOf r n = (-1, -1) := by
   unfold statOf
   rw [if_neg]
   rintro ⟨q1, q2⟩
   rw [areB_iff.2 ⟨q1, by simpa using q2⟩] at h
   cases h
  rw [e0]; exact ⟨rfl, rfl⟩
 obtain ⟨hI, g0⟩ := areB_iff.1 h
 obtain ⟨g0, g1⟩ := g0 n (by simp)
 have e1 : statOf r n = (a2h (a1g r (a0V r n)) (a0h r n) (a0i (a1g r (a0V r n)) (a0h r n) []), a2g (a1g r (a0V r n)) (a0h r n) (a0i (a1g r (a0V r n)) (a0h r n) [])) := by unfold statOf; rw [if_pos ⟨hI, g0, g1⟩]
 obtain ⟨f1, f2⟩ := c4x hI g0 g1
 have eN : a1g r n = a0h r n := by unfold a1g; rw [if_neg (by omega)]
 have h1 := b4u hI (a0V r n)
 have h2 := b1h hI n
 rw [e1, eN]
 generalize a1g r (a0V r n) = a at *
 generalize a0h r n = b at *
 have hpl := a4K a b []
 have hl1 := h1.1
 have hl2 := h2.1
 simp only [List.length_nil, Nat.add_zero] at hpl
 have hb := @b6F a b h1 h2 (a0i a b []) (by omega)
 refine ⟨g0, g1, f1, by omega, by omega, g1, [a, b], rfl, by simp; omega, by simp, fun _ => ⟨trivial, rfl, ⟨0, by simp -implicitDefEqProofs [a2h], by simp -implicitDefEqProofs [a2g], by rw [b5m], by rw [b5m], rfl, by rw [b5m], Nat.zero_le _⟩, fun t ht => ⟨fun hlt => ⟨hlt, fun _ => ?_⟩, fun hge => by rw [List.take_of_length_le hge]; exact ⟨rfl, rfl⟩⟩⟩⟩
 have qq : Option.map eStr (a0i a b [])[t]? = some (eStr (a0i a b [])[t]) := by simp -implicitDefEqProofs [hlt]
 have ms := b0f (a := a) (b := b) hlt
 have ls := b0e (a := a) (b := b) hlt
 have hb0 := hb t
 have hb1 := hb (t + 1)
 rw [ms, ls] at hb1
 rw [qq]
 generalize (a0i a b [])[t] = p at *
 have hx := a2b h1.2 p
 have hy := a2b h2.2 p
 have hm : a5h a b p = ((getL b p).1.length : Int) - lcs (getL a p).1 (getL b p).1 := rfl
 have hl : a5f a b p = ((getL a p).1.length : Int) - lcs (getL a p).1 (getL b p).1 := rfl
 rw [hm, hl] at hb1
 rw [hm] at ms
 rw [hl] at ls
 obtain ⟨t1, t2, t3, t4⟩ := c1e (getL a p).1 (getL b p).1
 have hc := a3A (getL a p).1 (getL b p).1
 simp -implicitDefEqProofs [eStr, D.asStr, a9I]
 refine ⟨h1.2, h2.2, hx, hy, t3, fun _ => ?_⟩
 generalize (getL a p).1 = X at *
 generalize (getL b p).1 = Y at *
 generalize lcs X Y = L at *
 generalize tabF X Y 0 0 = T at *
 generalize tabR X Y 0 0 0 = R at *
 have t5 : R.head? = some L := by rw [List.head?_eq_getElem?]; exact t2
 simp -implicitDefEqProofs [t1, t2, t5, eRow, eInt, D.asRows, D.asInt]
 have hX : (0 : Int) <= X.length := by omega
 have hY : (0 : Int) <= Y.length := by omega
 exact ⟨t4, fun _ _ => ⟨by omega, by omega, fun _ _ => ⟨by omega, by omega, fun _ _ _ => ⟨by omega, by omega, fun _ _ => ⟨by omega, by omega, fun _ _ => ⟨by omega, by omega, fun _ _ => ⟨t + 1, by rw [ms], by rw [ls], by omega, by omega, by omega⟩⟩⟩⟩⟩⟩⟩
--TAB a1D
theorem b0n {t : List FileD} (h : a0v t = true) : (t.map (·.path)).Nodup := by
 simp only [a0v, Bool.and_eq_true, decide_eq_true_eq, List.all_eq_true, List.mem_range] at h
 have hasc : ∀ i k, i < k -> k < t.length -> (t.getD i default).path < (t.getD k default).path := by
  intro i k hik hk
  induction k with
  | zero => omega
  | succ k ih =>
   have h1 := h.2 (k + 1) hk
   simp only [a2B, Bool.and_eq_true, Bool.or_eq_true, decide_eq_true_eq, a4a, Nat.add_sub_cancel] at h1
   have h2 : (t.getD k default).path < (t.getD (k + 1) default).path := by
    rcases h1.1.2 with h2 | h2
    ·omega
    ·exact h2
   rcases Nat.lt_or_ge i k with h3 | h3
   ·exact a6G (ih h3 (by omega)) h2
   ·have : i = k := by omega
    subst this; exact h2
 refine List.pairwise_iff_getElem.2 fun i j hi hj hij => ?_
 simp only [List.length_map] at hi hj
 have := hasc i j hij hj
 rw [List.getD_eq_getElem?_getD, List.getD_eq_getElem?_getD, List.getElem?_eq_getElem hi, List.getElem?_eq_getElem hj] at this
 simp only [Option.getD_some] at this
 simp only [List.getElem_map]
 intro e
 rw [e] at this
 exact a3t _ this
theorem c3t {l : List Str} (h : srt l) : l.Nodup := h.imp fun h e => by subst e; exact a3t _ h
theorem c7n {l m : List Str} (hl : l.Nodup) (hm : m.Nodup) (h : ∀ x, x ∈ l ↔ x ∈ m) : l.Perm m := by
 refine List.perm_iff_count.2 fun a => ?_
 rw [hl.count, hm.count]
 by_cases q : a ∈ l
 ·rw [if_pos q, if_pos ((h a).1 q)]
 ·rw [if_neg q, if_neg fun q2 => q ((h a).2 q2)]
theorem b0N {t : List FileD} (hn : (t.map (·.path)).Nodup) {f : FileD} (hf : f ∈ t) : getL t f.path = (f.text, true) := by
 induction t with
 | nil => cases hf
 | cons g t ih =>
  unfold getL
  have hn := List.nodup_cons.1 hn
  rcases List.mem_cons.1 hf with rfl | hf
  ·rw [if_pos rfl]
  ·rw [if_neg fun e => hn.1 (List.mem_map.2 ⟨f, hf, e.symm⟩)]
   exact ih hn.2 hf
theorem b6h {t : List FileD} {p : Str} (h : p ∉ t.map (·.path)) : getL t p = ([], false) := by
 induction t with
 | nil => rfl
 | cons g t ih =>
  unfold getL
  simp only [List.map_cons, List.mem_cons, not_or] at h
  rw [if_neg fun e => h.1 e.symm]
  exact ih h.2
theorem getL_there {t : List FileD} {p : Str} : (getL t p).2 = true ↔ p ∈ t.map (·.path) := by
 induction t with
 | nil => simp -implicitDefEqProofs [getL]
 | cons g t ih =>
  unfold getL
  by_cases e : g.path = p
  ·rw [if_pos e]; simp -implicitDefEqProofs [e]
  ·rw [if_neg e, ih]; simp -implicitDefEqProofs [Ne.symm e]
def a8e (t u : List FileD) : List FileD := u.filter fun f => !(getL t f.path).2
theorem c0H {t u : List FileD} {P : List Str} (hP : P.Nodup) (hm : ∀ x, x ∈ P ↔ x ∈ t.map (·.path) \/ x ∈ u.map (·.path)) (ht : (t.map (·.path)).Nodup) (hu : (u.map (·.path)).Nodup) : P.Perm (t.map (·.path) ++ (a8e t u).map (·.path)) := by
 have h0 : ∀ x, x ∈ (a8e t u).map (·.path) ↔ x ∈ u.map (·.path) /\ x ∉ t.map (·.path) := by
  intro x
  unfold a8e
  simp only [List.mem_map, List.mem_filter, Bool.not_eq_true']
  constructor
  ·rintro ⟨f, ⟨h1, h2⟩, rfl⟩
   refine ⟨⟨f, h1, rfl⟩, fun h3 => ?_⟩
   have := getL_there.2 (show f.path ∈ t.map (·.path) from List.mem_map.2 h3)
   rw [h2] at this; cases this
  ·rintro ⟨⟨f, h1, rfl⟩, h2⟩
   refine ⟨f, ⟨h1, ?_⟩, rfl⟩
   cases h3 : (getL t f.path).2 with
   | false => rfl
   | true => exact absurd (List.mem_map.1 (getL_there.1 h3)) h2
 refine c7n hP ?_ fun x => ?_
 ·refine List.nodup_append.2 ⟨ht, ?_, fun a ha b hb e => ?_⟩
  ·exact hu.sublist (List.filter_sublist.map _)
  ·subst e; exact ((h0 a).1 hb).2 ha
 ·rw [hm, List.mem_append, h0]
  constructor
  ·rintro (h | h)
   ·exact .inl h
   ·by_cases q : x ∈ t.map (·.path)
    ·exact .inl q
    ·exact .inr ⟨h, q⟩
  ·rintro (h | h)
   ·exact .inl h
   ·exact .inr h.1
theorem c5w {l m : List Int} (h : l.Perm m) : l.sum = m.sum := by
 induction h with
 | nil => rfl
 | cons x _ ih => simp -implicitDefEqProofs [ih]
 | swap x y l => simp; omega
 | trans _ _ h1 h2 => exact h1.trans h2
theorem b4t {t u : List FileD} {P : List Str} (g : Str -> Int) (hP : P.Nodup) (hm : ∀ x, x ∈ P ↔ x ∈ t.map (·.path) \/ x ∈ u.map (·.path)) (ht : (t.map (·.path)).Nodup) (hu : (u.map (·.path)).Nodup) :
  (P.map g).sum = (t.map fun f => g f.path).sum + ((a8e t u).map fun f => g f.path).sum := by
 rw [c5w ((c0H hP hm ht hu).map g), List.map_append, List.sum_append, List.map_map, List.map_map]; rfl
theorem c5Z {l : List FileD} {g : FileD -> Int} (h : ∀ f ∈ l, g f = 0) : (l.map g).sum = 0 := by
 induction l with
 | nil => rfl
 | cons x l ih => rw [List.map_cons, List.sum_cons, h x (by simp), ih fun f hf => h f (by simp -implicitDefEqProofs [hf])]; rfl
theorem b1g {l : List FileD} {g h : FileD -> Int} (e : ∀ f ∈ l, g f = h f) : (l.map g).sum = (l.map h).sum := by
 rw [List.map_congr_left e]
theorem c0B (t : List FileD) : (a1V t : Int) = (t.map fun f => (f.text.length : Int)).sum := by
 unfold a1V
 induction t with
 | nil => rfl
 | cons f t ih => simp only [List.map_cons, List.sum_cons, Int.natCast_add, ih]
theorem b6E {t u : List FileD} {P : List Str} (hP : P.Nodup) (hm : ∀ x, x ∈ P ↔ x ∈ t.map (·.path) \/ x ∈ u.map (·.path)) (ht : (t.map (·.path)).Nodup) (hu : (u.map (·.path)).Nodup) :
  (P.map fun p => ((getL t p).1.length : Int)).sum = a1V t := by
 rw [b4t _ hP hm ht hu, c0B]
 rw [c5Z (l := a8e t u) (g := fun f => ((getL t f.path).1.length : Int)), Int.add_zero]
 ·exact b1g fun f hf => by rw [b0N ht hf]
 ·intro f hf
  have h2 := (List.mem_filter.1 hf).2
  rw [b6h]; rfl
  intro q
  rw [getL_there.2 q] at h2; cases h2
theorem b3C (f g : Str -> Int) : ∀ l : List Str, (l.map fun p => f p - g p).sum = (l.map f).sum - (l.map g).sum
 | [] => rfl
 | x :: l => by simp only [List.map_cons, List.sum_cons, b3C f g l]; omega
theorem b9d (f g : Str -> Int) : ∀ l : List Str, (l.map fun p => f p + g p).sum = (l.map f).sum + (l.map g).sum
 | [] => rfl
 | x :: l => by simp only [List.map_cons, List.sum_cons, b9d f g l]; omega
theorem c7b (a : List Str) : lcs a [] = 0 := by cases a <;> simp -implicitDefEqProofs [lcs]
def dm (a b : List Str) : Int := (a.length : Int) + b.length - 2 * lcs a b
def sumA (o n : List FileD) (l : List FileD) : Int := (l.map fun f => dm (getL o f.path).1 f.text).sum
def sumB (n : List FileD) (l : List FileD) : Int := (l.map fun f => if (getL n f.path).2 then 0 else (f.text.length : Int)).sum
theorem b2v (n : List FileD) (g : FileD -> Int) : ∀ l : List FileD, ((a8e n l).map g).sum = (l.map fun f => if (getL n f.path).2 then 0 else g f).sum
 | [] => rfl
 | x :: l => by
  have := b2v n g l
  unfold a8e at *
  rw [List.filter_cons]
  cases h : (getL n x.path).2 with
  | true => simp -implicitDefEqProofs [h, this]
  | false => simp -implicitDefEqProofs [h, this]
theorem c5W {o n : List FileD} (ho : a0v o = true) (hn : a0v n = true) :
  a2h o n (a0i o n []) - a2g o n (a0i o n []) = (a1V n : Int) - a1V o /\ a2h o n (a0i o n []) + a2g o n (a0i o n []) = sumA o n n + sumB n o := by
 obtain ⟨h1, h2⟩ := a5L o n []
 have hP := c3t h1
 have dn := b0n hn
 have d0 := b0n ho
 have m1 : ∀ x, x ∈ a0i o n [] ↔ x ∈ n.map (·.path) \/ x ∈ o.map (·.path) := fun x => by rw [h2]; simp -implicitDefEqProofs [or_comm]
 have m2 : ∀ x, x ∈ a0i o n [] ↔ x ∈ o.map (·.path) \/ x ∈ n.map (·.path) := fun x => by rw [h2]; simp
 constructor
 ·unfold a2h a2g
  rw [<- b3C, <- b6E hP m1 dn d0, <- b6E hP m2 d0 dn, <- b3C]
  congr 1
  refine List.map_congr_left fun p _ => ?_
  unfold a5h a5f; omega
 ·unfold a2h a2g sumA sumB
  rw [<- b9d, b4t _ hP m1 dn d0, <- b2v]
  congr 1
  ·refine b1g fun f hf => ?_
   unfold a5h a5f dm
   rw [b0N dn hf]
   show _ = (((getL o f.path).1.length : Int)) + f.text.length - 2 * lcs (getL o f.path).1 f.text
   simp only []
   omega
  ·refine b1g fun f hf => ?_
   obtain ⟨q1, q2⟩ := List.mem_filter.1 hf
   unfold a5h a5f
   rw [b0N d0 q1, b6h (t := n) fun q => by rw [getL_there.2 q] at q2; cases q2]
   simp only [c7b, List.length_nil]
   omega
def dmI (a b : List Str) : Int := if a0Y a && a0Y b then dm a b else -1
def a8E : Con := .fn 27 (List Str × List Str) (fun a => [.sl true 1 (a0a a.1), .sl true 1 (a0a a.2)]) (fun a => a.1.length <= 1048576 /\ a.2.length <= 1048576) (fun a => .int .i64 (dmI a.1 a.2)) (fun _ => [])
theorem b5S : Has Tryz.prog 15 a8E := by
 refine a0d mixed a1r (HasL.cons a5P (HasL.cons b0U HasL.nil)) [0, 1, 4] ((fun a n (_ : Nat) => (fun _ => a0w) a n)) [] Tryz.func15 (by unfold Tryz.f15; rfl) (fun _ => ⟨(), trivial⟩) ?_
 intro a ha
 obtain ⟨a, b⟩ := a
 obtain ⟨h1, h2⟩ : a.length <= 1048576 /\ b.length <= 1048576 := ha
 simp (maxSteps := 8000000) -implicitDefEqProofs [-kStep_move, -Bool.exists_bool, a8E, a5R, b1A, Con.fn, a1D, tTab]
 try dsimp only
 have e0 : (a0Y a = false \/ a0Y b = false) -> dmI a b = -1 := fun h => by unfold dmI; rw [if_neg]; rcases h with h | h <;> simp -implicitDefEqProofs [h]
 have e1 : a0Y a = true -> a0Y b = true -> dmI a b = a.length + b.length - 2 * lcs a b := fun h h' => by unfold dmI; rw [h, h']; rfl
 refine ⟨e0, fun g1 g2 _ _ => ⟨by omega, fun _ _ => ⟨a, b, ⟨rfl, rfl⟩, ⟨h1, h2⟩, ?_⟩⟩⟩
 rw [e1 g1 g2]
 obtain ⟨t1, t2, t3, t4⟩ := c1e a b
 have hc := a3A a b
 clear e0 e1
 generalize lcs a b = L at *
 generalize tabF a b 0 0 = T at *
 generalize tabR a b 0 0 0 = R at *
 have t5 : R.head? = some L := by rw [List.head?_eq_getElem?]; exact t2
 simp -implicitDefEqProofs [t1, t2, t5, eRow, eInt, D.asRows, D.asInt]
 exact ⟨t3, fun _ => ⟨t4, fun _ => ⟨by omega, fun _ _ => by omega⟩⟩⟩
def a5C : Con := { A := Str, X := RepoD × Int, n := 14, args := fun s => [.sl true 1 (a1f s)], boxes := fun _ => [], pre := fun _ => True, post := fun _ x => a3x x.1, res := fun _ x => .tup [.agg [.sl false 3 (a0g x.1.commits), .sl false 2 (a0c x.1.heads)], .int .i64 x.2], fin := fun _ _ => [] }
theorem b0K : Has Tryz.prog 53 a5C := by
 refine a0d mixed a1r (HasL.cons a6Y (HasL.cons a5Z (HasL.cons b8A HasL.nil))) [0, 2, 3, 4, 5] ((fun a n (_ : Nat) => (fun _ => a0w) a n)) [8191, 12287] Tryz.func53 (by unfold Tryz.f53; rfl) (fun _ => ⟨(noR, 0), a2V a5w⟩) ?_
 intro (s : Str) _
 simp (maxSteps := 8000000) -implicitDefEqProofs [-kStep_move, -Bool.exists_bool, a5C, a6b, a5o, cAtD, Con.fn, a1D, tTab, a1J, clash, kd, a2n, a2w]
 have hl : (s.take 2000).length <= 2000 := by simp; omega
 exact ⟨_, _, ⟨rfl, rfl⟩, ⟨hl, by omega, by omega⟩, fun r p g1 g2 g3 => ⟨_, _, ⟨rfl, rfl⟩, ⟨⟨hl, by omega, by omega⟩, by have := g1.1; omega⟩, fun y _ _ => ⟨r, g1, rfl, rfl⟩⟩⟩
def a6O : Con := { A := Str, X := RepoD × Int, n := 8, args := fun s => [.sl true 1 (a1f s)], boxes := fun _ => [], pre := fun _ => True, post := fun _ x => a3x x.1, res := fun _ x => .tup [.agg [.sl false 3 (a0g x.1.commits), .sl false 2 (a0c x.1.heads)], .int .i64 x.2], fin := fun _ _ => [] }
theorem b3a : Has Tryz.prog 11 a6O := by
 refine a0d mixed a1r (HasL.cons b0K HasL.nil) [0, 2, 3] ((fun a n (_ : Nat) => (fun _ => a0w) a n)) [] Tryz.func11 (by unfold Tryz.f11; rfl) (fun _ => ⟨(noR, 0), a2V a5w⟩) ?_
 intro (s : Str) _
 simp (maxSteps := 8000000) -implicitDefEqProofs [-kStep_move, -Bool.exists_bool, a6O, a5C, Con.fn, a1D, tTab]
 try dsimp only
 exact fun r h => ⟨r, h, rfl, rfl⟩
theorem b2w {t : List FileD} (h : a0v t = true) : ∀ f ∈ t, a0Y f.text = true := by
 simp only [a0v, Bool.and_eq_true, decide_eq_true_eq, List.all_eq_true, List.mem_range] at h
 intro f hf
 obtain ⟨i, hi, rfl⟩ := List.getElem_of_mem hf
 have := (h.2 i hi).1
 simp only [a2B, Bool.and_eq_true] at this
 have e : t.getD i default = t[i] := by simp -implicitDefEqProofs [List.getD_eq_getElem?_getD, hi]
 rw [e] at this
 exact this.1.1
theorem c2b {t : List FileD} (h : ∀ f ∈ t, a0Y f.text = true) (p : Str) : a0Y (getL t p).1 = true := by
 induction t with
 | nil => rfl
 | cons f t ih =>
  unfold getL
  split
  ·exact h f (by simp)
  ·exact ih fun g hg => h g (by simp -implicitDefEqProofs [hg])
theorem b8H {o n : List FileD} (ho : a0v o = true) (hn : a0v n = true) {f : FileD} (hf : f ∈ n) : dmI (a2J o f.path).1 f.text = dm (getL o f.path).1 f.text /\ (a2J o f.path).1.length <= 64 /\ f.text.length <= 64 /\ -64 <= dm (getL o f.path).1 f.text /\ dm (getL o f.path).1 f.text <= 128 := by
 have e : a2J o f.path = getL o f.path := by unfold a2J; rw [if_pos ho, a9I]
 have h1 := (a2p n hn).2 f hf
 have h2 := a2b (a2p o ho).2 f.path
 have h3 := a3A (getL o f.path).1 f.text
 refine ⟨?_, by rw [e]; exact h2, h1, ?_, ?_⟩
 ·rw [e]; unfold dmI; rw [c2b (b2w ho), b2w hn f hf]; rfl
 ·unfold dm; omega
 ·unfold dm; omega
theorem c3y {o n : List FileD} {i : Nat} (h : i < n.length) : sumA o n (n.take (i + 1)) = sumA o n (n.take i) + dm (getL o n[i].path).1 n[i].text := by
 unfold sumA; rw [a0p h, List.map_append, List.sum_append]; simp only [List.map_cons, List.map_nil, List.sum_cons, List.sum_nil]; omega
theorem c3z {o n : List FileD} {i : Nat} (h : i < o.length) : sumB n (o.take (i + 1)) = sumB n (o.take i) + (if (getL n o[i].path).2 then 0 else (o[i].text.length : Int)) := by
 unfold sumB; rw [a0p h, List.map_append, List.sum_append]; simp only [List.map_cons, List.map_nil, List.sum_cons, List.sum_nil]; omega
theorem b3B {g : FileD -> Int} : ∀ l : List FileD, (∀ f ∈ l, -64 <= g f /\ g f <= 128) -> -64 * (l.length : Int) <= (l.map g).sum /\ (l.map g).sum <= 128 * (l.length : Int)
 | [], _ => by simp
 | x :: l, h => by
  have := b3B l fun f hf => h f (by simp -implicitDefEqProofs [hf])
  have h1 := h x (by simp)
  simp only [List.map_cons, List.sum_cons, List.length_cons, Int.natCast_add, Int.natCast_one]
  omega
theorem b9b {o n : List FileD} (ho : a0v o = true) (hn : a0v n = true) (i : Nat) : -512 <= sumA o n (n.take i) /\ sumA o n (n.take i) <= 1024 := by
 have h1 := (a2p n hn).1
 have h2 : (n.take i).length <= n.length := by rw [List.length_take]; omega
 have h3 := b3B (g := fun f => dm (getL o f.path).1 f.text) (n.take i) fun f hf => by
  have := b8H ho hn (List.mem_of_mem_take hf)
  exact this.2.2.2
 unfold sumA; omega
theorem b9c {o : List FileD} (n : List FileD) (ho : a0v o = true) (i : Nat) : -512 <= sumB n (o.take i) /\ sumB n (o.take i) <= 1024 := by
 have h1 := (a2p o ho)
 have h2 : (o.take i).length <= o.length := by rw [List.length_take]; omega
 have h3 := b3B (g := fun f => if (getL n f.path).2 then 0 else (f.text.length : Int)) (o.take i) fun f hf => by
  have := h1.2 f (List.mem_of_mem_take hf)
  split <;> omega
 have h1 := h1.1
 unfold sumB; omega
def stOk (o n : List FileD) : Prop := a0v o = true /\ a0v n = true /\ okSz o /\ okSz n
def mo (o n : List FileD) : Int := a2h o n (a0i o n [])
def le (o n : List FileD) : Int := a2g o n (a0i o n [])
def stA : Inv := ⟨List FileD × List FileD × Nat, fun x => ⟨[(2, true, .bool false), (5, true, .int .i64 (mo x.1 x.2.1)), (6, true, .int .i64 (le x.1 x.2.1)), (9, true, .sl false 2 (a0b x.1)), (10, true, .sl false 2 (a0b x.2.1)), (11, true, .int .i64 (sumA x.1 x.2.1 (x.2.1.take x.2.2))), (12, true, .int .i64 x.2.2)], []⟩, fun x => stOk x.1 x.2.1 /\ x.2.2 <= x.2.1.length, fun x => 8 - x.2.2⟩
def stB : Inv := ⟨List FileD × List FileD × Nat, fun x => ⟨[(2, true, .bool false), (5, true, .int .i64 (mo x.1 x.2.1)), (6, true, .int .i64 (le x.1 x.2.1)), (9, true, .sl false 2 (a0b x.1)), (10, true, .sl false 2 (a0b x.2.1)), (11, true, .int .i64 (sumA x.1 x.2.1 x.2.1 + sumB x.2.1 (x.1.take x.2.2))), (15, true, .int .i64 x.2.2)], []⟩, fun x => stOk x.1 x.2.1 /\ x.2.2 <= x.1.length, fun x => 8 - x.2.2⟩
def c1b (k : Nat) : Inv := if k = 14 then stA else stB
theorem c5U : c1b 14 = stA := rfl
theorem c5V : c1b 19 = stB := rfl
def b3L : Con := .fn 160 Str (fun s => [.sl true 1 (a1f s)]) (fun _ => True) (fun _ => .bool true) (fun _ => [])
theorem b6a : Has Tryz.prog 3 b3L := by
 refine a0d mixed a1r (HasL.cons b3a (HasL.cons b8p (HasL.cons b8q (HasL.cons b8s (HasL.cons b5S (HasL.cons b3z (HasL.cons b3A HasL.nil))))))) [0, 2, 3, 4, 5, 6, 7, 8, 9, 10, 11, 12, 13, 15, 17] ((fun a n (_ : Nat) => (fun _ n => c1b n) a n)) [] Tryz.func3 (by unfold Tryz.f3; rfl) (fun _ => ⟨(), trivial⟩) ?_
 intro (s : Str) _
 simp (maxSteps := 8000000) -implicitDefEqProofs [-kStep_move, -kStepC_move, -Bool.exists_bool, b3L, a6O, b0F, b0G, b0H, a8E, a6U, a6V, Con.fn, a1D, tTab, c5U, c5V, stA, stB]
 try dsimp only
 simp -implicitDefEqProofs only [and_assoc, exists_eq_left, exists_and_left, RepoD.ex1, RepoD.eta]
 simp -implicitDefEqProofs only [not_true_eq_false, or_self, false_or, and_self, true_or, or_true, true_implies, implies_true, true_and, and_true]
 intro _ _ r n hd
 have hp := a6w hd
 refine ⟨hp, hp, fun h0 => ?_⟩
 have hI : a0C r = true /\ 0 <= n /\ n < r.commits.length := by
  by_cases q : a0C r = true /\ 0 <= n /\ n < r.commits.length
  ·exact q
  ·unfold statOf at h0; rw [if_neg q] at h0; exact absurd h0 (by decide)
 have e1 : statOf r n = (mo (a1g r (a0V r n)) (a0h r n), le (a1g r (a0V r n)) (a0h r n)) := by unfold statOf mo le; rw [if_pos hI]
 obtain ⟨hI, g0, g1⟩ := hI
 have hm : ∀ p ∈ (r.commits.getD n.toNat default).parents, 0 <= p /\ p < r.commits.length := fun p hp => by
  have hc : n.toNat < r.commits.length := by omega
  have := (a2H hI hc).2.1 p (by simpa [List.getD_eq_getElem?_getD, hc] using hp)
  omega
 have hs : ∀ a, a0v (a0h r a) = true /\ okSz (a0h r a) := fun a => by
  have h := a1W (r := r) (by rw [<- a1a]; exact hI) a
  obtain ⟨t1, t2⟩ := a3v _ h
  exact ⟨by rw [a4i]; exact h, by omega, fun f hf => by have := t2 f hf; omega, fun f hf => by have := a8o h f hf; omega⟩
 have cg := cget (r := r) g0 g1
 have ef : a0V r n = (r.commits.getD n.toNat default).parents.headD (-1) := rfl
 rw [e1, cg]
 refine ⟨g0, g1, fun _ _ => ?_⟩
 obtain ⟨hn1, hn2⟩ := hs n
 clear e1 cg h0
 generalize a0h r n = t at *
 generalize (r.commits.getD n.toNat default).parents = P at *
 cases P
 case' nil =>
  have eo : a1g r (a0V r n) = [] := by rw [ef]; rfl
  rw [eo]
  simp -implicitDefEqProofs
  refine ⟨g0, g1, fun _ _ => ⟨⟨[], t, rfl, rfl, rfl, rfl, 0, by simp -implicitDefEqProofs [sumA], rfl, ⟨rfl, hn1, ⟨by simp, by simp, by simp⟩, hn2⟩, Nat.zero_le _⟩, ?_⟩⟩
  clear hm ef eo hn1 hn2 hs hd hp hI g0 g1
 case' cons p P =>
  obtain ⟨p0, p1⟩ := hm p (by simp)
  have eo : a1g r (a0V r n) = a0h r p := by rw [ef]; unfold a1g; rw [if_neg (by simp; omega)]; rfl
  have cp := cget p0 p1
  obtain ⟨ho1, ho2⟩ := hs p
  rw [eo]
  simp -implicitDefEqProofs [a0e, eInt, cp]
  intro _
  refine ⟨g0, g1, fun _ _ => ⟨p0, p1, fun _ _ => ⟨g0, g1, fun _ _ => ⟨⟨a0h r p, t, rfl, rfl, rfl, rfl, 0, by simp -implicitDefEqProofs [sumA], rfl, ⟨ho1, hn1, ho2, hn2⟩, Nat.zero_le _⟩, ?_⟩⟩⟩⟩
  clear hm ef eo cp ho1 ho2 p0 p1 hn1 hn2 hs hd hp hI g0 g1
 all_goals
  intro o t i ok hi _
  have bA := b9b ok.1 ok.2.1
  have bB := b9c t ok.1
  have ho8 := (a2p o ok.1).1
  have ht8 := (a2p t ok.2.1).1
  refine ⟨fun hlt => ⟨hlt, fun _ => ?_⟩, fun hge => ?_⟩
  ·have qq : Option.map a0t t[i]? = some (a0t t[i]) := by simp -implicitDefEqProofs [hlt]
   have hf := b8H ok.1 ok.2.1 (List.getElem_mem hlt)
   have hs := c3y (o := o) hlt
   have b0 := bA i
   rw [qq]
   generalize t[i] = f at *
   simp -implicitDefEqProofs [a0t]
   obtain ⟨f1, f2, f3, f4, f5⟩ := hf
   rw [f1]
   exact ⟨ok.2.2.1, hlt, fun _ => ⟨by omega, by omega, by omega, by omega, fun _ _ => ⟨by omega, by omega, fun _ _ => ⟨o, t, rfl, rfl, rfl, rfl, i + 1, hs, by omega, ok, by omega, by omega⟩⟩⟩⟩
  ·have he : t.take i = t := List.take_of_length_le hge
   refine ⟨⟨o, t, rfl, rfl, rfl, rfl, 0, by rw [he]; simp -implicitDefEqProofs [sumB], rfl, ok, Nat.zero_le _⟩, ?_⟩
   clear he hge hi bA bB ho8 ht8
   clear ok
   intro o t i ok hi _
   have bA := b9b ok.1 ok.2.1 t.length
   rw [List.take_length] at bA
   have bB := b9c t ok.1
   have ho8 := (a2p o ok.1).1
   have ht8 := (a2p t ok.2.1).1
   refine ⟨fun hlt => ⟨hlt, fun _ => ?_⟩, fun hge => ?_⟩
   ·have qq : Option.map a0t o[i]? = some (a0t o[i]) := by simp -implicitDefEqProofs [hlt]
    have hf := (a2p o ok.1).2 _ (List.getElem_mem hlt)
    have hs := c3z (n := t) hlt
    have b0 := bB i
    rw [qq]
    generalize o[i] = f at *
    simp -implicitDefEqProofs [a0t]
    have e : a2J t f.path = getL t f.path := by unfold a2J; rw [if_pos ok.2.1, a9I]
    rw [e]
    refine ⟨ok.2.2.2, fun h => ⟨hlt, fun _ _ => ⟨by omega, by omega, fun _ _ => ⟨by omega, by omega, fun _ _ => ⟨o, t, rfl, rfl, rfl, rfl, i + 1, ?_, by omega, ok, by omega, by omega⟩⟩⟩⟩, fun h => ⟨by omega, by omega, fun _ _ => ⟨o, t, rfl, rfl, rfl, rfl, i + 1, ?_, by omega, ok, by omega, by omega⟩⟩⟩
    ·rw [hs, h]; simp; omega
    ·rw [hs, h]; simp
   ·have he : o.take i = o := List.take_of_length_le hge
    obtain ⟨l1, l2⟩ := c5W ok.1 ok.2.1
    have bM := @b6F o t ⟨by omega, ok.2.2.1.2.1⟩ ⟨by omega, ok.2.2.2.2.1⟩ (a0i o t []) (by have := a4K o t []; simp only [List.length_nil, Nat.add_zero] at this; omega) (a0i o t []).length
    rw [List.take_length] at bM
    have s1 : a4M t = a1V t := by unfold a4M; rw [if_pos ok.2.1]
    have s2 : a4M o = a1V o := by unfold a4M; rw [if_pos ok.1]
    have q1 : mo o t - le o t = a4M t - a4M o := by rw [s1, s2]; exact l1
    have q2 : mo o t + le o t = sumA o t t + sumB t (List.take i o) := by rw [he]; exact l2
    have bM : -209715200000 <= mo o t /\ mo o t <= 209715200000 /\ -209715200000 <= le o t /\ le o t <= 209715200000 := bM
    exact ⟨by omega, by omega, fun _ _ => ⟨ok.2.2.2.2.2, ok.2.2.1.2.2, by omega, by omega, fun _ _ => ⟨fun _ => ⟨q1, by omega, by omega⟩, fun _ => ⟨fun _ _ => ⟨q1, q2, ok.2.2.2.2.2⟩, .inr ⟨q1, q2⟩, fun _ => ⟨q1, q2, c7J t⟩⟩⟩⟩⟩
end Vx
end Go.Proofs.YtokdjnbcdokpjaaGreatDoor
