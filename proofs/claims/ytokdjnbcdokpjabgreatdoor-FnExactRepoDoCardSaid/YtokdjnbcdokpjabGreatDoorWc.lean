/-
  Joined by program (merge.py): Gb, Gc, Ne, Dh, Di, Kc, Tb, Ng, Me, Ml, Mh, Tc, Hc, Hd, Kj, Hq, Hp, Hi, He, Hf, Tp, Nh, Ni, Qd, Ua, Uc, Shj, Uw, Mi, Ud, Uo, Nj, Nk, Nl, Uy. It shows what the single texts show; conditions: none but those of each lemma.
-/
import Derived.Test.YtokdjnbcdokpjabGreatDoorWb
import Derived.Shelf.Strings.Builder1
import Derived.Shelf.Strings.Builder2
import Derived.Shelf.Strings.OnBuilder
import Derived.Test.YtokdjnbcdokpjabGreatDoorProg
set_option linter.unusedVariables false
set_option linter.unusedSimpArgs false
set_option linter.unusedSectionVars false
namespace Go.Proofs.YtokdjnbcdokpjabGreatDoor
namespace Vx
open Go.RowKit
set_option maxRecDepth 8000
abbrev Srt (t : List FileD) : Prop := t.Pairwise fun a b => a.path < b.path
def ins (o : List FileD) (f : FileD) : List FileD := o.filter (fun g => decide (g.path < f.path)) ++ f :: o.filter (fun g => decide (f.path < g.path))
theorem b2o {t : List FileD} (h : a0D t = true) : Srt t := by
 refine List.pairwise_iff_getElem.2 fun i j hi hj hij => ?_
 have := c6l h j i hij hj
 rw [a3k, decide_eq_true_eq] at this
 exact this
theorem c0y {o : List FileD} {f : FileD} (h : Srt o) : Srt (ins o f) := by
 unfold ins
 refine List.pairwise_append.2 ⟨h.filter _, List.pairwise_cons.2 ⟨fun g hg => ?_, h.filter _⟩, fun a ha b hb => ?_⟩
 ·simpa using (List.mem_filter.1 hg).2
 ·have h1 : a.path < f.path := by simpa using (List.mem_filter.1 ha).2
  rcases List.mem_cons.1 hb with rfl | hb
  ·exact h1
  ·have h2 : f.path < b.path := by simpa using (List.mem_filter.1 hb).2
   exact a4H h1 h2
theorem d2a {o : List FileD} {f : FileD} (h : Srt o) {k : Nat} (hk : k <= o.length) (h1 : ∀ j (hj : j < o.length), j < k -> o[j].path < f.path) (h2 : ∀ j (hj : j < o.length), k <= j -> ¬ o[j].path < f.path) :
  o.filter (fun g => decide (g.path < f.path)) = o.take k /\ o.filter (fun g => decide (f.path < g.path)) = (o.drop k).filter (fun g => decide (f.path < g.path)) := by
 have e : o = o.take k ++ o.drop k := (List.take_append_drop k o).symm
 have a1 : (o.take k).filter (fun g => decide (g.path < f.path)) = o.take k := List.filter_eq_self.2 fun g hg => by
  obtain ⟨j, hj, rfl⟩ := List.getElem_of_mem hg
  simp only [List.length_take] at hj
  rw [List.getElem_take]
  exact decide_eq_true (h1 j (by omega) (by omega))
 have a2 : (o.drop k).filter (fun g => decide (g.path < f.path)) = [] := List.filter_eq_nil_iff.2 fun g hg => by
  obtain ⟨j, hj, rfl⟩ := List.getElem_of_mem hg
  simp only [List.length_drop] at hj
  rw [List.getElem_drop]
  simpa using h2 (k + j) (by omega) (by omega)
 have a3 : (o.take k).filter (fun g => decide (f.path < g.path)) = [] := List.filter_eq_nil_iff.2 fun g hg => by
  obtain ⟨j, hj, rfl⟩ := List.getElem_of_mem hg
  simp only [List.length_take] at hj
  rw [List.getElem_take]
  simpa using a4G (h1 j (by omega) (by omega))
 constructor
 ·conv => lhs; rw [e]
  rw [List.filter_append, a1, a2, List.append_nil]
 ·conv => lhs; rw [e]
  rw [List.filter_append, a3, List.nil_append]
theorem b9v {o : List FileD} {p : Str} (h : Srt o) : ∀ k, k <= o.length -> (∀ j (hj : j < o.length), k <= j -> ¬ o[j].path < p) ->
  (∀ j (hj : j < o.length), j < a2p o p k -> o[j].path < p) /\ (∀ j (hj : j < o.length), a2p o p k <= j -> ¬ o[j].path < p) := by
 intro k
 induction k with
 | zero => intro _ h2; exact ⟨fun j _ hj => by simp [a2p] at hj, fun j hj _ => h2 j hj (Nat.zero_le _)⟩
 | succ k ih =>
  intro hk h2
  have hlt : k < o.length := by omega
  have hd : o.getD k default = o[k] := by simp [List.getD_eq_getElem?_getD, hlt]
  by_cases hb : o[k].path < p
  ·have e : a2p o p (k + 1) = k + 1 := by rw [a2p, if_pos]; rw [hd, a3k]; exact decide_eq_true hb
   rw [e]
   refine ⟨fun j hj hjk => ?_, h2⟩
   by_cases ejk : j = k
   ·subst ejk; exact hb
   ·exact a4H (List.pairwise_iff_getElem.1 h j k hj hlt (by omega)) hb
  ·have e : a2p o p (k + 1) = a2p o p k := by rw [a2p, if_neg]; rw [hd, a3k]; simpa using hb
   rw [e]
   refine ih (by omega) fun j hj hjk => ?_
   by_cases ejk : j = k
   ·subst ejk; exact hb
   ·exact h2 j hj (by omega)
theorem a7m {o : List FileD} {f : FileD} (h : Srt o) : (putI o f).1 = ins o f := by
 obtain ⟨h1, h2⟩ := b9v (p := f.path) h o.length (Nat.le_refl _) (fun j hj hjk => by omega)
 have hk := b4t o f.path
 change ∀ j (hj : j < o.length), j < putK o f.path -> _ at h1
 change ∀ j (hj : j < o.length), putK o f.path <= j -> _ at h2
 generalize hkk : putK o f.path = k at h1 h2 hk
 obtain ⟨a1, a2⟩ := d2a h hk h1 h2
 unfold ins putI
 rw [a1, a2, hkk]
 split
 ·rename_i hp
  obtain ⟨hlt, hp⟩ := hp
  rw [List.getD_eq_getElem?_getD, List.getElem?_eq_getElem hlt] at hp
  simp only [Option.getD_some] at hp
  change o.set k f = _
  rw [List.set_eq_take_append_cons_drop, if_pos hlt]
  congr 2
  rw [List.drop_eq_getElem_cons hlt, List.filter_cons, if_neg (by simp [hp, a3d])]
  symm
  refine List.filter_eq_self.2 fun g hg => ?_
  obtain ⟨j, hj, rfl⟩ := List.getElem_of_mem hg
  simp only [List.length_drop] at hj
  rw [List.getElem_drop]
  have := List.pairwise_iff_getElem.1 h k (k + 1 + j) hlt (by omega) (by omega)
  rw [hp] at this
  exact decide_eq_true this
 ·rename_i hp
  change a2Q o k f = _
  unfold a2Q
  congr 2
  symm
  refine List.filter_eq_self.2 fun g hg => ?_
  obtain ⟨j, hj, rfl⟩ := List.getElem_of_mem hg
  simp only [List.length_drop] at hj
  rw [List.getElem_drop]
  have hlt : k < o.length := by omega
  have hne : ¬ o[k].path = f.path := fun e => hp ⟨hlt, by rw [List.getD_eq_getElem?_getD, List.getElem?_eq_getElem hlt]; exact e⟩
  have hgt := a5s _ _ (h2 k hlt (Nat.le_refl _)) hne
  by_cases hj0 : j = 0
  ·subst hj0; exact decide_eq_true hgt
  ·exact decide_eq_true (a4H hgt (List.pairwise_iff_getElem.1 h k (k + j) hlt (by omega) (by omega)))
theorem setT (f : FileD) : ∀ (l acc : List FileD), l.foldl (a1i f) (acc, true) = (acc ++ l.filter (fun g => !decide (g.path = f.path)), true) := by
 intro l
 induction l with
 | nil => intro acc; simp
 | cons g r ih =>
  intro acc
  rw [List.foldl_cons]
  by_cases hp : g.path = f.path
  ·have : a1i f (acc, true) g = (acc, true) := by simp [a1i, hp]
   rw [this, ih, List.filter_cons, if_neg (by simp [hp])]
  ·have : a1i f (acc, true) g = (acc ++ [g], true) := by simp [a1i, hp]
   rw [this, ih, List.filter_cons, if_pos (by simp [hp])]
   simp
theorem setF (f : FileD) : ∀ (l acc : List FileD), Srt l -> (if (l.foldl (a1i f) (acc, false)).2 then (l.foldl (a1i f) (acc, false)).1 else (l.foldl (a1i f) (acc, false)).1 ++ [f]) = acc ++ ins l f := by
 intro l
 induction l with
 | nil => intro acc _; simp [ins]
 | cons g r ih =>
  intro acc h
  obtain ⟨h1, h2⟩ := List.pairwise_cons.1 h
  rw [List.foldl_cons]
  by_cases hb : g.path < f.path
  ·have hlb : Go.Op.bytesLess g.path f.path = true := by rw [a3k]; exact decide_eq_true hb
   have hne : ¬ g.path = f.path := fun e => by rw [e] at hb; exact a3d _ hb
   have : a1i f (acc, false) g = (acc ++ [g], false) := by simp [a1i, hlb, hne]
   rw [this, ih _ h2]
   unfold ins
   rw [List.filter_cons, if_pos (decide_eq_true hb), List.filter_cons, if_neg (by simpa using a4G hb)]
   simp
  ·have hlb : Go.Op.bytesLess g.path f.path = false := by rw [a3k]; exact decide_eq_false hb
   have hgr : ∀ x ∈ r, f.path < x.path := fun x hx => by
    by_cases e : g.path = f.path
    ·rw [<- e]; exact h1 x hx
    ·exact a4H (a5s _ _ hb e) (h1 x hx)
   have b1 : r.filter (fun x => decide (x.path < f.path)) = [] := List.filter_eq_nil_iff.2 fun x hx => by simpa using a4G (hgr x hx)
   have b2 : r.filter (fun x => decide (f.path < x.path)) = r := List.filter_eq_self.2 fun x hx => decide_eq_true (hgr x hx)
   have b3 : r.filter (fun x => !decide (x.path = f.path)) = r := List.filter_eq_self.2 fun x hx => by
    have := hgr x hx
    simp only [Bool.not_eq_true', decide_eq_false_iff_not]
    intro e; rw [e] at this; exact a3d _ this
   by_cases e : g.path = f.path
   ·have : a1i f (acc, false) g = (acc ++ [f], true) := by
     rw [e] at hlb
     simp [a1i, hlb, e]
    rw [this, setT, b3]
    simp only [if_true]
    unfold ins
    rw [List.filter_cons, if_neg (by simpa using hb), List.filter_cons, if_neg (by simp [e, a3d]), b1, b2]
    simp
   ·have : a1i f (acc, false) g = (acc ++ [f] ++ [g], true) := by simp [a1i, hlb, e]
    rw [this, setT, b3]
    simp only [if_true]
    unfold ins
    rw [List.filter_cons, if_neg (by simpa using hb), List.filter_cons, if_pos (decide_eq_true (a5s _ _ hb e)), b1, b2]
    simp
theorem b2k {o : List FileD} {f : FileD} (h : Srt o) : setS o f = ins o f := by
 have := setF f o [] h
 rw [List.nil_append] at this
 exact this
theorem c7r : ∀ {l o : List FileD}, Srt (o ++ l) -> inP o l = o ++ l := by
 intro l
 induction l with
 | nil => intro o _; simp [inP]
 | cons f r ih =>
  intro o h
  have ho : Srt o := (List.pairwise_append.1 h).1
  have hlt : ∀ g ∈ o, g.path < f.path := fun g hg => (List.pairwise_append.1 h).2.2 g hg f (by simp)
  have e : (putI o f).1 = o ++ [f] := by
   rw [a7m ho]
   unfold ins
   rw [List.filter_eq_self.2 fun g hg => decide_eq_true (hlt g hg), List.filter_eq_nil_iff.2 fun g hg => by simpa using a4G (hlt g hg)]
  have : inP o (f :: r) = inP (o ++ [f]) r := by simp only [inP, List.foldl_cons, e]
  rw [this, ih (by simpa using h)]
  simp



theorem d1f {c : UInt8} : ∀ {s p : Str}, ((spl c s p).map fun q => q.length + 1).sum = p.length + s.length + 1 := by
 intro s
 induction s with
 | nil => intro p; simp [spl]
 | cons x s ih =>
  intro p
  simp only [spl]
  split
  ·simp [ih]; omega
  ·rw [ih]; simp; omega
def d2l (t : List FileD) : Prop := ∀ f ∈ t, (∀ b ∈ f.path, 32 < b.toNat) /\ f.text.length < 100 /\ ∀ l ∈ f.text, (10 : UInt8) ∉ l
structure OkT (ok : List FileD -> Bool) : Prop where
 n : ∀ {t}, ok t = true -> t.length <= 8
 plain : ∀ {t}, ok t = true -> d2l t
 ten : ∀ {t}, ok t = true -> ∀ f ∈ t, f.text.length <= 10
theorem d1e {c : UInt8} : ∀ {s p : Str}, ∀ b ∈ s, b = c \/ ∃ q ∈ spl c s p, b ∈ q := by
 intro s
 induction s with
 | nil => intro p b hb; cases hb
 | cons x s ih =>
  intro p b hb
  have keep : ∀ (s p : Str), ∀ y ∈ p, ∃ q ∈ spl c s p, y ∈ q := by
   intro s
   induction s with
   | nil => intro p y hy; exact ⟨p, by simp [spl], hy⟩
   | cons z s ih2 =>
    intro p y hy
    simp only [spl]
    split
    ·exact ⟨p, by simp, hy⟩
    ·exact ih2 (p ++ [z]) y (by simp [hy])
  simp only [spl]
  split
  ·rename_i hx
   rcases List.mem_cons.1 hb with rfl | hb
   ·exact .inl hx
   ·rcases ih (p := []) b hb with h | ⟨q, h1, h2⟩
    ·exact .inl h
    ·exact .inr ⟨q, by simp [h1], h2⟩
  ·rcases List.mem_cons.1 hb with rfl | hb
   ·exact .inr (keep s (p ++ [b]) b (by simp))
   ·exact ih b hb
theorem b9s {s : Str} (h : a3o s = true) : (∀ b ∈ s, 32 < b.toNat) /\ s.length <= 20 := by
 simp only [a3o, Bool.and_eq_true, decide_eq_true_eq, List.all_eq_true] at h
 obtain ⟨h1, h2⟩ := h
 constructor
 ·intro b hb
  rcases d1e (c := 47) (p := []) b hb with rfl | ⟨q, hq, hbq⟩
  ·decide
  ·have h3 := h2 q hq
   simp only [a0X, Bool.and_eq_true, List.all_eq_true] at h3
   have h4 := h3.2 b hbq
   simp only [a9q, Bool.or_eq_true, Bool.and_eq_true, decide_eq_true_eq] at h4
   omega
 ·have h3 := d1f (c := 47) (s := s) (p := [])
  have h4 : ∀ (l : List Str), (∀ q ∈ l, a0X q = true) -> ((l.map fun q => q.length + 1).sum) <= 7 * l.length := by
   intro l
   induction l with
   | nil => intro _; simp
   | cons q l ih =>
    intro h
    have a := ih fun x hx => h x (by simp [hx])
    have b := h q (by simp)
    simp only [a0X, Bool.and_eq_true, decide_eq_true_eq] at b
    simp only [List.map_cons, List.sum_cons, List.length_cons]
    omega
  have h5 := h4 _ h2
  rw [h3] at h5
  simp at h5
  omega
theorem a4w {t : List FileD} (h : a0D t = true) : ∀ f ∈ t, ((∀ b ∈ f.path, 32 < b.toNat) /\ f.path.length <= 20) /\ f.text.length <= 10 /\ ∀ l ∈ f.text, (10 : UInt8) ∉ l := by
 intro f hf
 simp only [a0D, Bool.and_eq_true, decide_eq_true_eq, List.all_eq_true, List.mem_range, a3n] at h
 obtain ⟨i, hi, rfl⟩ := List.getElem_of_mem hf
 have h1 := (h.2 i hi).1.1
 have hg : t.getD i default = t[i] := by simp [List.getD_eq_getElem?_getD, hi]
 rw [hg] at h1
 refine ⟨b9s h1.2, ?_⟩
 have h2 := h1.1
 simp only [a1g, Bool.and_eq_true, decide_eq_true_eq, List.all_eq_true] at h2
 refine ⟨h2.1, fun l hl h10 => ?_⟩
 have h3 := h2.2 l hl
 simp only [a6h, Bool.and_eq_true, List.all_eq_true, decide_eq_true_eq] at h3
 have := h3.2 10 h10
 simp at this
set_option maxHeartbeats 4000000
--TAB a0R
theorem a3W {r : RepoD} (h : a0G r = true) : rpSz r /\ a4f r := by
 have h1 := a3V h
 have hc : ∀ c ∈ r.commits, c.parents.length <= 2 /\ a0D c.tree = true := fun c hc => by
  obtain ⟨i, hi, rfl⟩ := List.getElem_of_mem hc
  exact ⟨(a2E h hi).1, (a2E h hi).2.2⟩
 have hh : r.heads.length <= 5 := by
  rw [a1h] at h
  exact ((a2H _ _).1 ((a0V r).1 h).2.1).1
 have ht : ∀ t : List FileD, a0D t = true -> t.length <= 8 := fun t q => (a6a t (by rw [<- a2v]; exact q)).1
 refine ⟨⟨by omega, fun c q => ⟨by have := (hc c q).1; omega, by have := ht _ (hc c q).2; omega, fun g hg => by have := (a4w (hc c q).2 g hg).2.1; omega⟩, by omega⟩, by omega, fun c q f hf => by have := (a4w (hc c q).2 f hf).1.2; omega⟩
theorem a6b {t : List FileD} (h : a0D t = true) : ptSz t := fun f hf => by have := (a4w h f hf).1.2; omega
def a9J : Con := .fn 23 (RepoD × Int × Int) (fun a => [a1e a.1, .int .i64 a.2.1, .int .i64 a.2.2]) (fun a => a0G a.1 = true /\ (0 <= a.2.1 /\ a.2.1 < a.1.commits.length) /\ (0 <= a.2.2 /\ a.2.2 < a.1.commits.length)) (fun a => .sl true 2 (a0a (a2k a.1 a.2.1 a.2.2))) (fun _ => [])
theorem b6u : Has Tryz.prog 106 a9J := by
 refine a0d mixed a0M (HasL.cons c3G (HasL.cons b0B HasL.nil)) [0, 1, 2, 3, 6, 7] ((fun a n (_ : Nat) => (fun _ => a0E) a n)) [] Tryz.func106 (by unfold Tryz.f106; rfl) (fun _ => ⟨(), trivial⟩) ?_
 intro a ha
 obtain ⟨r, a, b⟩ := a
 obtain ⟨h1, h2, h3⟩ : a0G r = true /\ (0 <= a /\ a < r.commits.length) /\ (0 <= b /\ b < r.commits.length) := ha
 simp (maxSteps := 8000000) [a9J, b6A, a9W, Con.fn, a0R, tTab, a0I]
 try dsimp only
 try simp only [and_assoc, exists_eq_left, exists_and_left, RepoD.ex1, RepoD.eta]
 have hb : a2k r a b = match (a1Z r a b).getLast? with | none => [] | some c => a0F r c := by unfold a2k; rw [<- b6w]; rfl
 have hin := fun c => @b6x r a b c
 refine ⟨h1, h2.1, h2.2, h3.1, h3.2, fun _ => ⟨fun h => ?_, fun h => ?_⟩⟩
 ·rw [hb, h]; rfl
 ·have hl : 0 < (a1Z r a b).length := List.length_pos_iff.2 h
  have hlt : (a1Z r a b).length - 1 < (a1Z r a b).length := by omega
  have e1 : Option.map eInt (a1Z r a b)[(a1Z r a b).length - 1]? = some (eInt (a1Z r a b)[(a1Z r a b).length - 1]) := by simp -implicitDefEqProofs [List.getElem?_eq_getElem hlt]
  have hg : (a1Z r a b).getLast? = some (a1Z r a b)[(a1Z r a b).length - 1] := by rw [List.getLast?_eq_getElem?, List.getElem?_eq_getElem hlt]
  have hc := hin _ (List.getElem_mem hlt)
  rw [hb, hg, e1]
  generalize (a1Z r a b)[(a1Z r a b).length - 1] = c at *
  generalize (a1Z r a b).length = m at *
  have q1 : c.toNat < r.commits.length := by omega
  simp -implicitDefEqProofs [eInt, D.asInt, a0F, List.getD_eq_getElem?_getD]
  repeat' (first | intro _ | apply And.intro)
  all_goals omega
theorem a8b {o a b : List FileD} : a0D (a1s o a b).1 = true := by
 unfold a1s
 split
 ·split
  ·rename_i h; rw [a2v]; exact c1F h
  ·rfl
 ·rfl
theorem b1h {t : List FileD} (h : a0D t = true) : t.length <= 1048576 /\ ∀ f ∈ t, f.text.length <= 1048576 := by
 have h1 := a6a t (by rw [<- a2v]; exact h)
 exact ⟨by omega, fun f hf => by have := h1.2 f hf; omega⟩
theorem c3P {r : RepoD} (h : a0G r = true) {n : Str} {c : CommitD} (hc : a0D c.tree = true) : a4f (cmL r n c) := by
 have h1 := a3V h
 refine ⟨by simp -implicitDefEqProofs [cmL]; omega, fun x hx f hf => ?_⟩
 have hx : x ∈ r.commits ++ [c] := hx
 rcases List.mem_append.1 hx with hx | hx
 ·exact (a3W h).2.2 x hx f hf
 ·rw [List.mem_singleton.1 hx] at hf
  exact a6b hc f hf
def b4c : Con := .fn 89 (RepoD × Str × Str × Int) (fun a => [a1e a.1, .str a.2.1, .str a.2.2.1, .int .i64 a.2.2.2]) (fun a => a0G a.1 = true) (fun a => .tup [.agg [.own 8 3 (a0h (a1l a.1 a.2.1 a.2.2.1 a.2.2.2).1.commits), .own 9 2 (a0c (a1l a.1 a.2.1 a.2.2.1 a.2.2.2).1.heads)], .int .i64 (a1l a.1 a.2.1 a.2.2.1 a.2.2.2).2]) (fun a => a2d 8 (a1l a.1 a.2.1 a.2.2.1 a.2.2.2).1.commits ++ a2o 9 (a1l a.1 a.2.1 a.2.2.1 a.2.2.2).1.heads)
theorem c3e : Has Tryz.prog 59 b4c := by
 refine a0d mixed a0M (HasL.cons a5R (HasL.cons a4T (HasL.cons a8V (HasL.cons a4d (HasL.cons a9r (HasL.cons a7F (HasL.cons b6u (HasL.cons b0B (HasL.cons b0g (HasL.cons a8U (HasL.cons a6u HasL.nil))))))))))) [0, 1, 2, 3, 4, 8, 9, 10, 11, 12, 13] ((fun a n (_ : Nat) => (fun _ => a0E) a n)) [16456, 16465, 16466] Tryz.func59 (by unfold Tryz.f59; rfl) (fun _ => ⟨(), trivial⟩) ?_
 intro a ha
 obtain ⟨r, n, w, b⟩ := a
 replace ha : a0G r = true := ha
 simp (maxSteps := 8000000) [-kStep_move, -kStepC_move, -Bool.exists_bool, b4c, cAtI, a5m, a7U, a5A, a6z, a7X, a4p, a9J, a9W, a7v, a7T, b0b, a7e, Con.fn, a0R, tTab, a0I]
 try dsimp only
 try simp only [and_assoc, exists_eq_left, exists_and_left, RepoD.ex1, RepoD.eta]
 obtain ⟨hz, hp⟩ := a3W ha
 have hn := a3V ha
 refine ⟨fun h h' => ⟨h, h', by omega⟩, ?_, fun _ => ⟨fun h => ?_, fun c1 c2 c3 c4 => ?_⟩⟩
 ·rcases Int.lt_or_le (atL r.heads n) 0 with h | h
  ·exact .inl (.inl h)
  ·cases hw : a0X w with
   | false => exact .inl (.inr rfl)
   | true => exact .inr ⟨h, rfl⟩
 ·have e : a1l r n w b = (r, 1) := uS_1 ha (by rcases h with (h | h) | h | h; exact .inl h; exact .inr (.inl h); exact .inr (.inr (by omega)); exact .inr (.inr (by omega)))
  rw [e]; exact ⟨hz, rfl, rfl, rfl, rfl, rfl⟩
 ·have hlt := b0G ha c1
  have hb : b < r.commits.length := by omega
  have hla := a2C r
  have la : b.toNat < (anc r (atL r.heads n)).length := by rw [hla]; omega
  have lb : (atL r.heads n).toNat < (anc r b).length := by rw [hla]; omega
  have e1 : Option.map a1I (anc r (atL r.heads n))[b.toNat]? = some (a1I (anc r (atL r.heads n))[b.toNat]) := by simp -implicitDefEqProofs [la]
  have e2 : Option.map a1I (anc r b)[(atL r.heads n).toNat]? = some (a1I (anc r b)[(atL r.heads n).toNat]) := by simp -implicitDefEqProofs [lb]
  have i1 : isT (anc r (atL r.heads n)) b.toNat = (anc r (atL r.heads n))[b.toNat] := by simp -implicitDefEqProofs [isT, List.getD_eq_getElem?_getD, la]
  have i2 : isT (anc r b) (atL r.heads n).toNat = (anc r b)[(atL r.heads n).toNat] := by simp -implicitDefEqProofs [isT, List.getD_eq_getElem?_getD, lb]
  have U2 := @uS_2 r n w b ha c1 c2 ⟨c3, hb⟩
  have U3 := @uS_3 r n w b ha c1 c2 ⟨c3, hb⟩
  have U4 := @uS_4 r n w b ha c1 c2 ⟨c3, hb⟩
  rw [i1] at U2 U3 U4
  rw [i2] at U3 U4
  have hla1 := hla (atL r.heads n)
  have hlb1 := hla b
  rw [e1, e2]
  generalize (anc r (atL r.heads n))[b.toNat] = x at *
  generalize (anc r b)[(atL r.heads n).toNat] = y at *
  have p1 := a6b (b6t ha (atL r.heads n) b)
  have p2 := a6b (a3H ha ⟨c1, hlt⟩)
  have p3 := a6b (a3H ha ⟨c3, hb⟩)
  simp -implicitDefEqProofs [a1I, D.asBool, ha, hla1, hlb1, c1, c3, hlt, hb, hz]
  have ta : a0F r (atL r.heads n) = r.commits[(atL r.heads n).toNat].tree := by simp -implicitDefEqProofs [a0F, List.getD_eq_getElem?_getD, show (atL r.heads n).toNat < r.commits.length by omega]
  have tb : a0F r b = r.commits[b.toNat].tree := by simp -implicitDefEqProofs [a0F, List.getD_eq_getElem?_getD, show b.toNat < r.commits.length by omega]
  have jt := @a8b (a2k r (atL r.heads n) b) (a0F r (atL r.heads n)) (a0F r b)
  rw [ta] at p2
  rw [tb] at p3
  rw [ta, tb] at U4 jt
  generalize a1s (a2k r (atL r.heads n) b) r.commits[(atL r.heads n).toNat].tree r.commits[b.toNat].tree = J at *
  refine ⟨fun hx => by rw [U2 hx]; exact ⟨rfl, rfl, rfl, rfl, rfl⟩, fun hx => ⟨fun hy => by rw [U3 hx hy]; exact ⟨hz.2.2, rfl, rfl, rfl, rfl, rfl⟩, fun hy => ⟨p1, p2, p3, ?_⟩⟩⟩
  have U4 := U4 hx hy
  clear U2 U3
  refine ⟨fun hj => by rw [U4, if_neg (by simp -implicitDefEqProofs [hj])]; exact ⟨rfl, rfl, rfl, rfl, rfl⟩, fun hj => ⟨[atL r.heads n, b], rfl, rfl, hz.2.2, hz.1, (b1h jt).1, (b1h jt).2, c3P ha jt, ?_⟩⟩
  rw [if_pos hj] at U4
  rw [U4]
  exact ⟨fun h => by simp -implicitDefEqProofs [h], fun h => by simp -implicitDefEqProofs [h]⟩
theorem Uni.ok {r : RepoD} {n w : Str} {b : Int} {X : RepoD × Int} (h : a0w r = true) (hu : Uni r n w b X) : a0w X.1 = true := by
 cases hu with
 | form => exact h
 | same _ _ _ _ _ => exact h
 | on _ _ _ _ _ _ hr => exact hr
 | clash _ _ _ _ _ => exact h
 | full => exact h
 | made _ _ _ _ _ _ _ _ hr => exact hr
theorem Uni.keeps {r : RepoD} {n w : Str} {b : Int} {X : RepoD × Int} (hu : Uni r n w b X) : r.commits <+: X.1.commits := by
 cases hu with
 | made t _ _ _ _ _ _ _ _ => exact ⟨[⟨[atL r.heads n, b], w, t⟩], rfl⟩
 | _ => exact List.prefix_refl _
theorem Uni.other {r : RepoD} {n w m : Str} {b : Int} {X : RepoD × Int} (h : a0w r = true) (hu : Uni r n w b X) (hm : ¬ n = m) : atL X.1.heads m = atL r.heads m := by
 have hH := ((a0V r).1 h).2.1
 cases hu with
 | on _ _ _ _ _ _ _ =>
  show atL (hSet r.heads n b) m = _
  rw [a6P hH, if_neg hm]
 | made t _ _ _ _ _ _ _ _ => rw [b0F h, if_neg hm]
 | _ => rfl
def Came (r : RepoD) (n : Str) (z : Nat) : Prop := 0 <= atL r.heads n /\ Rch r (atL r.heads n).toNat z
theorem Uni.came {r : RepoD} {n w : Str} {b : Int} {X : RepoD × Int} {z : Nat} (h : a0w r = true) (hu : Uni r n w b X) (hz : Came r n z) : Came X.1 n z := by
 have hH := ((a0V r).1 h).2.1
 have hp := b5h h
 cases hu with
 | on h1 h2 h3 h4 h5 h6 h7 =>
  have e : atL (hSet r.heads n b) n = b := by rw [a6P hH, if_pos rfl]
  refine ⟨by show 0 <= atL (hSet r.heads n b) n; rw [e]; exact h3, ?_⟩
  show Rch ⟨r.commits, hSet r.heads n b⟩ (atL (hSet r.heads n b) n).toNat z
  rw [e]
  have := (Rch.more (cs := []) (hs := hSet r.heads n b) hp (a := b.toNat) (x := z) (by omega)).2 (h6.trans hz.2)
  simpa using this
 | made t h1 h2 h3 h4 h5 h6 h7 h8 =>
  have e : atL (addR r n ⟨[atL r.heads n, b], w, t⟩).heads n = r.commits.length := by rw [b0F h, if_pos rfl]
  have e2 : ((r.commits.length : Int)).toNat = r.commits.length := by omega
  refine ⟨by rw [e]; omega, ?_⟩
  rw [e, e2]
  have q := b6k (r := r) n ⟨[atL r.heads n, b], w, t⟩ (p := atL r.heads n) (by simp)
  exact q.trans ((Rch.more (cs := [⟨[atL r.heads n, b], w, t⟩]) (hs := hSet r.heads n r.commits.length) hp (a := (atL r.heads n).toNat) (x := z) (by omega)).2 hz.2)
 | _ => exact hz
theorem Uni.got {r : RepoD} {n w : Str} {b : Int} {X : RepoD × Int} (h : a0w r = true) (hu : Uni r n w b X) (hc : X.2 = 0 \/ X.2 = 3 \/ X.2 = 2) : (0 <= b /\ b < r.commits.length) /\ Came X.1 n b.toNat := by
 have hH := ((a0V r).1 h).2.1
 cases hu with
 | form => simp at hc
 | same h1 h2 h3 h4 h5 => exact ⟨⟨h3, h4⟩, h1, h5⟩
 | on h1 h2 h3 h4 h5 h6 h7 =>
  have e : atL (hSet r.heads n b) n = b := by rw [a6P hH, if_pos rfl]
  refine ⟨⟨h3, h4⟩, by show 0 <= atL (hSet r.heads n b) n; rw [e]; exact h3, ?_⟩
  show Rch ⟨r.commits, hSet r.heads n b⟩ (atL (hSet r.heads n b) n).toNat b.toNat
  rw [e]; exact .refl
 | clash => simp at hc
 | full => simp at hc
 | made t h1 h2 h3 h4 h5 h6 h7 h8 =>
  have e : atL (addR r n ⟨[atL r.heads n, b], w, t⟩).heads n = r.commits.length := by rw [b0F h, if_pos rfl]
  have e2 : ((r.commits.length : Int)).toNat = r.commits.length := by omega
  refine ⟨⟨h3, h4⟩, by rw [e]; omega, ?_⟩
  rw [e, e2]
  exact b6k (r := r) n ⟨[atL r.heads n, b], w, t⟩ (p := b) (by simp)
def b1F : Con := .fn 42 (OpD × Bool × Bool × Bool × Bool) (fun a => [vOp a.1, .bool a.2.1, .bool a.2.2.1, .bool a.2.2.2.1, .bool a.2.2.2.2]) (fun a => a.1.text.length <= 1048576) (fun a => .bool (a4o a.1 a.2.1 a.2.2.1 a.2.2.2.1 a.2.2.2.2)) (fun _ => [])
theorem b9e : Has Tryz.prog 120 b1F := by
 refine a0d mixed a0g HasL.nil [0, 1, 2, 3, 4, 5, 10] ((fun a n (_ : Nat) => (fun _ => a0E) a n)) [] Tryz.func120 (by unfold Tryz.f120; rfl) (fun _ => ⟨(), trivial⟩) ?_
 intro a ha
 obtain ⟨o, p, t, a, x⟩ := a
 replace ha : o.text.length <= 1048576 := ha
 simp (maxSteps := 8000000) -implicitDefEqProofs [-kStep_move, -Bool.exists_bool, b1F, Con.fn, tTab]
 unfold a4o
 by_cases h1 : o.path = [] <;> by_cases h2 : o.to_ = [] <;> by_cases h3 : o.at_ = 0 <;> by_cases h4 : o.text = [] <;> simp -implicitDefEqProofs [h1, h2, h3, h4] <;> cases p <;> cases t <;> cases a <;> cases x <;> simp -implicitDefEqProofs <;> omega
def l19O (t : List Str) : Inv := ⟨Nat, fun i => ⟨[(0, true, .sl true 1 (a0b t)), (2, true, .bool false), (3, true, .int .i64 i)], []⟩, fun i => i <= t.length /\ (t.take i).all barB = true, fun i => t.length - i⟩
def l19I (t : List Str) (g : Nat) : Inv := ⟨Nat, fun k => ⟨[(0, true, .sl true 1 (a0b t)), (2, true, .bool false), (3, true, .int .i64 g), (4, true, .int .i64 k)], []⟩, fun k => g < t.length /\ (t.take g).all barB = true /\ k <= (t.getD g []).length /\ ((t.getD g []).take k).all (fun b => decide (b ≠ 124)) = true, fun k => (t.getD g []).length - k⟩
def b7u (t : List Str) (n g : Nat) : Inv := if n = 2 then l19O t else l19I t g
theorem c7D (t g) : b7u t 2 g = l19O t := rfl
theorem c7E (t g) : b7u t 5 g = l19I t g := rfl
def a9N : Con := .fn 29 (List Str) (fun t => [.sl true 1 (a0b t)]) (fun _ => True) (fun t => .bool (a5X t)) (fun _ => [])
theorem b7v : Has Tryz.prog 122 a9N := by
 refine a0d mixed a0g (HasL.cons b2c HasL.nil) [0, 2, 3, 4] (fun t => b7u t) [] Tryz.func122 (by unfold Tryz.f122; rfl) (fun _ => ⟨(), trivial⟩) ?_
 intro (t : List Str) _
 simp -implicitDefEqProofs [a9N, b2z, Con.fn, tTab, c7D, c7E, l19O, l19I]
 try dsimp only
 have e0 : ∀ i (h : i < t.length), ¬ barB t[i] = true -> a5X t = false := fun i h hb => by
  unfold a5X
  rw [Bool.and_eq_false_iff]; left
  rw [List.all_eq_false]
  exact ⟨_, List.getElem_mem h, hb⟩
 refine fun i hi hp _ => ⟨fun hlt => ⟨i, ⟨0, ⟨rfl, rfl⟩, hlt, hp, Nat.zero_le _, by simp⟩, fun k _ _ hk hq => ?_⟩, fun hge => ?_⟩
 ·have e1 := e0 i hlt
  have e2 : t[i]?.getD [] = t[i] := by simp -implicitDefEqProofs [hlt]
  have qq : Option.map eStr t[i]? = some (eStr t[i]) := by simp -implicitDefEqProofs [hlt]
  have e3 : (t.take (i + 1)).all barB = ((t.take i).all barB && barB t[i]) := a0z hlt
  rw [e2] at hk hq ⊢
  rw [qq]
  generalize t[i] = s at *
  simp -implicitDefEqProofs [eStr, D.asStr]
  have hex : ∀ h : k < List.length s, s[k]?.getD 0 = s[k] := fun h => by simp -implicitDefEqProofs [h]
  refine ⟨hlt, fun _ _ => ⟨fun hl => ⟨hlt, fun _ => ⟨hl, fun _ => ?_⟩⟩, fun hg => ⟨⟨by omega, by omega⟩, fun _ _ => ⟨i + 1, by omega, ⟨by omega, ?_⟩, by omega⟩⟩⟩⟩
  ·rw [hex hl]
   have hb := List.getElem_mem hl
   refine ⟨fun hc => e1 (fun hb2 => ?_), fun hc => ⟨⟨by omega, by omega⟩, fun _ _ => ⟨k + 1, by omega, ⟨hlt, ‹∀ x ∈ List.take i t, barB x = true›, by omega, fun x hx => ?_⟩, by omega⟩⟩⟩
   ·unfold barB at hb2
    have := List.all_eq_true.1 hb2 _ hb
    simp only [ne_eq, decide_not, Bool.not_eq_true', decide_eq_false_iff_not] at this
    exact this (UInt8.toNat_inj.1 (by simp; omega))
   ·rw [a0y hl] at hx
    rcases List.mem_append.1 hx with hx | hx
    ·exact hq x hx
    ·simp only [List.mem_singleton] at hx
     subst hx
     intro e; rw [e] at hc; exact hc rfl
  ·have hs : barB s = true := by
    unfold barB
    rw [List.all_eq_true]
    intro x hx
    have := hq x (by rw [List.take_of_length_le hg]; exact hx)
    simp -implicitDefEqProofs [this]
   rw [hs, Bool.and_true] at e3
   have hp' : (List.take i t).all barB = true := List.all_eq_true.2 ‹∀ x ∈ List.take i t, barB x = true›
   rw [hp'] at e3
   exact List.all_eq_true.1 e3
 ·have e : t.take i = t := List.take_of_length_le hge
  rw [e] at hp
  unfold a5X
  rw [List.all_eq_true.2 hp, Bool.true_and]
def b6E : Con := .fn 72 OpD (fun o => [vOp o]) (fun o => o.text.length <= 1048576) (fun o => .bool (opB o)) (fun _ => [])
theorem c4R : Has Tryz.prog 81 b6E := by
 refine a0d mixed a0g (HasL.cons a4O (HasL.cons b9e (HasL.cons a8Z (HasL.cons b7v (HasL.cons a5f HasL.nil))))) [0, 1, 2, 14, 52, 62] ((fun a n (_ : Nat) => (fun _ => a0E) a n)) [] Tryz.func81 (by unfold Tryz.f81; rfl) (fun _ => ⟨(), trivial⟩) ?_
 intro (o : OpD) (ha : o.text.length <= 1048576)
 simp (maxSteps := 8000000) -implicitDefEqProofs [-kStep_move, -Bool.exists_bool, b6E, a5k, b1F, a7V, a9N, a6C, Con.fn, tTab, bOp]
 try dsimp only
 simp -implicitDefEqProofs only [and_assoc, exists_eq_left, exists_and_left, OpD.ex1, OpD.eta]
 have hk : o.kind = 1 \/ o.kind = 2 \/ o.kind = 3 \/ o.kind = 4 \/ o.kind = 5 \/ o.kind = 6 \/ o.kind = 7 \/ (¬ o.kind = 1 /\ ¬ o.kind = 2 /\ ¬ o.kind = 3 /\ ¬ o.kind = 4 /\ ¬ o.kind = 5 /\ ¬ o.kind = 6 /\ ¬ o.kind = 7) := by omega
 unfold opB
 generalize a0X o.branch = b1
 generalize a0X o.who = b2
 generalize a3p o.path = b3
 generalize a3p o.to_ = b4
 generalize a0X o.to_ = b5
 generalize a5X o.text = b6
 rcases hk with h | h | h | h | h | h | h | h <;> simp -implicitDefEqProofs [h, ha]
 all_goals grind
--TAB a0R
def b3O : Con := .fn 66 (RepoD × Int) (fun a => [a1e a.1, .int .i64 a.2]) (fun a => a0G a.1 = true /\ 0 <= a.2 /\ a.2 < a.1.commits.length) (fun a => .sl false 1 (a0i (a0B (anc a.1 a.2)))) (fun _ => [])
theorem c2g : Has Tryz.prog 144 b3O := by
 refine a0d mixed a0M HasL.nil [0, 1, 2, 4, 5, 6, 7, 8, 9] (fun a => b2s a.1 a.2) [] Tryz.func144 (by unfold Tryz.f144; rfl) (fun _ => ⟨(), trivial⟩) ?_
 intro a ha
 obtain ⟨r, n⟩ := a
 obtain ⟨h1, h2, h3⟩ : a0G r = true /\ 0 <= n /\ n < r.commits.length := ha
 have h4 := a3V h1
 simp -implicitDefEqProofs [b3O, Con.fn, a0R, tTab, b9N, b9O, b6l, alO, alI, alT, a0I]
 try dsimp only
 simp only [and_assoc, exists_eq_left, exists_and_left, RepoD.ex1, RepoD.eta]
 have hal := a2C r n
 refine fun _ => ⟨by omega, fun _ => ⟨h2, h3, fun _ _ => ⟨by omega, ⟨(List.replicate r.commits.length false).set n.toNat true, by rw [a3y]; exact (a1C _ _ _).symm, by rw [a3y]; exact a1C _ _ _, by simp, by omega, h3, rfl⟩, fun l b g1 g2 g3 g4 => ⟨fun hb => ⟨b.toNat, ?_⟩, fun hb => ?_⟩⟩⟩⟩
 ·have hb1 : b.toNat < l.length := by omega
  have hb2 : b.toNat < r.commits.length := by omega
  obtain ⟨p1, p2, _⟩ := a2E h1 hb2
  have hgd : r.commits.getD b.toNat default = r.commits[b.toNat] := by simp -implicitDefEqProofs [List.getD_eq_getElem?_getD, hb2]
  have hgo : r.commits[b.toNat]?.getD default = r.commits[b.toNat] := by simp -implicitDefEqProofs [hb2]
  rw [show (b + 1).toNat = b.toNat + 1 by omega] at g4
  have g5 : ancF r b.toNat (a4X r l b.toNat) = anc r n := g4
  unfold a4X at g5
  rw [hgd] at g5
  have e3 : Option.map a0H r.commits[b.toNat]? = some (a0H r.commits[b.toNat]) := by simp -implicitDefEqProofs [hb2]
  rw [hgo, e3]
  generalize r.commits[b.toNat] = c at *
  refine ⟨by omega, trivial, g1, hb2, Nat.zero_le _, fun h => ?_, fun h => ?_, fun m k m1 m2 m3 m4 m5 => ⟨hb2, fun _ => ?_⟩⟩
  ·rw [if_pos h] at g5; exact g5
  ·rw [if_neg (by rw [h]; simp)] at g5; exact g5
  ·have hbm : b.toNat < m.length := by omega
   have hT : isT m b.toNat = m[b.toNat] := by simp -implicitDefEqProofs [isT, List.getD_eq_getElem?_getD, hbm]
   have e4 : Option.map a1I m[b.toNat]? = some (a1I m[b.toNat]) := by simp -implicitDefEqProofs [hbm]
   have hmx : max b 0 = b := Int.max_eq_left hb
   simp -implicitDefEqProofs [a0H, D.asRows, e4, a1I, hbm, hb2, hmx]
   refine fun _ => ⟨fun hl2 => ⟨fun hm => ⟨hl2, fun _ => ?_⟩, fun hm => ⟨by omega, by omega, fun _ _ => ⟨m1, by omega, by omega, m5 (hT.trans hm), by omega⟩⟩⟩, fun hge => ⟨by omega, by omega, fun _ _ => ⟨m1, by omega, by omega, ?_, by omega⟩⟩⟩
   ·have hp := p2 c.parents[k] (List.getElem_mem hl2)
    have qt : Option.map eInt c.parents[k]? = some (eInt c.parents[k]) := by simp -implicitDefEqProofs [List.getElem?_eq_getElem hl2]
    simp -implicitDefEqProofs [qt, eInt, D.asInt]
    have hst : isT (m.set c.parents[k].toNat true) b.toNat = true := by rw [b2O _ (by omega)]; exact hT.trans hm
    refine ⟨hp.1, by omega, fun _ _ => ⟨by omega, by omega, by omega, fun _ _ => ⟨m.set c.parents[k].toNat true, (a1C _ _ _).symm, k + 1, by omega, a1C _ _ _, by simp -implicitDefEqProofs [m1], by omega, fun _ => ?_, fun h => ?_, by omega⟩⟩⟩
    ·have := m4 (hT.trans hm)
     rw [List.drop_eq_getElem_cons hl2] at this
     exact this
    ·rw [hst] at h; cases h
   ·cases hm : m[b.toNat] with
    | true =>
     have := m4 (hT.trans hm)
     rw [List.drop_eq_nil_of_le hge] at this
     exact this
    | false => exact m5 (hT.trans hm)
 ·rw [show (b + 1).toNat = 0 by omega] at g4
  have g5 : l = anc r n := g4
  refine ⟨g5.symm, ⟨0, rfl, rfl, g5, rfl, Nat.zero_le _⟩, fun i hi _ => ⟨fun hlt => ?_, fun hge => ?_⟩⟩
  ·have hl := a6q (anc r n) i
   have hi : isT (anc r n) i = (anc r n)[i] := by simp -implicitDefEqProofs [isT, List.getD_eq_getElem?_getD, hlt]
   rw [hal] at hlt
   simp -implicitDefEqProofs [hal, hlt, a1I, D.asBool, and_assoc]
   refine ⟨fun h => ?_, fun h => ?_⟩
   ·have e := b0k (hi.trans h)
    exact ⟨by omega, by omega, by omega, by omega, fun _ _ => ⟨i + 1, by rw [e]; simp -implicitDefEqProofs [a0i, eInt], by omega, by rw [e]; simp -implicitDefEqProofs [a0i, eInt], by omega, by omega⟩⟩
   ·have e := a9e (hi.trans h)
    exact ⟨by omega, by omega, fun _ _ => ⟨i + 1, e, by omega, e.symm, by omega, by omega⟩⟩
  ·rw [hal] at hge
   have : i = r.commits.length := by omega
   subst this
   unfold a0B
   rw [hal]
def l8bA (r : RepoD) (a b : Int) : Inv := ⟨Nat, fun i => ⟨[(3, true, .ptr 10 0), (6, true, .nil), (7, true, .sl false 1 (a0i (a0B (anc r a)))), (8, true, .sl false 1 (a0i (a0B (anc r b)))), (9, true, .own 9 1 (a0i (a1K r a b i))), (10, true, .int .i64 i)], [(10, a2V r), (9, .own 3 1 true (a0i (a1K r a b i)))]⟩, fun i => i <= (a0B (anc r a)).length, fun i => (a0B (anc r a)).length - i⟩
def l8bB (r : RepoD) (L : List Int) : Inv := ⟨Nat, fun i => ⟨[(3, true, .ptr 10 0), (6, true, .nil), (9, true, .own 9 1 (a0i L)), (11, true, .own 11 1 (a0i (a3x r L i))), (12, true, .int .i64 i)], [(10, a2V r), (9, .own 3 1 true (a0i L)), (11, .own 3 1 true (a0i (a3x r L i)))]⟩, fun i => i <= L.length, fun i => L.length - i⟩
def l8bC (r : RepoD) (L : List Int) (g : Nat) : Inv := ⟨Nat, fun k => ⟨[(3, true, .ptr 10 0), (6, true, .nil), (9, true, .own 9 1 (a0i L)), (11, true, .own 11 1 (a0i (a3x r L g))), (12, true, .int .i64 g), (13, true, .bool (a8v r L g k)), (14, true, .int .i64 k)], [(10, a2V r), (9, .own 3 1 true (a0i L)), (11, .own 3 1 true (a0i (a3x r L g)))]⟩, fun k => k <= L.length /\ g < L.length, fun k => L.length - k⟩
def b3d (r : RepoD) (a b : Int) (n g : Nat) : Inv := if n = 5 then l8bA r a b else if n = 11 then l8bB r (a1K r a b (a0B (anc r a)).length) else l8bC r (a1K r a b (a0B (anc r a)).length) g
theorem c7L (r a b g) : b3d r a b 5 g = l8bA r a b := rfl
theorem c5c (r a b g) : b3d r a b 11 g = l8bB r (a1K r a b (a0B (anc r a)).length) := rfl
theorem c5d (r a b g) : b3d r a b 15 g = l8bC r (a1K r a b (a0B (anc r a)).length) g := rfl
def b1K : Con := .fn 83 (RepoD × Int × Int) (fun a => [a1e a.1, .int .i64 a.2.1, .int .i64 a.2.2]) (fun a => a0G a.1 = true /\ (0 <= a.2.1 /\ a.2.1 < a.1.commits.length) /\ 0 <= a.2.2 /\ a.2.2 < a.1.commits.length) (fun a => .own 8 1 (a0i (a4i a.1 a.2.1 a.2.2))) (fun a => a4v 8 (a4i a.1 a.2.1 a.2.2))
theorem b9j : Has Tryz.prog 178 b1K := by
 refine a0d mixed a0M (HasL.cons c2g (HasL.cons b4U HasL.nil)) [0, 1, 2, 3, 6, 7, 8, 9, 10, 11, 12, 13, 14] (fun a => b3d a.1 a.2.1 a.2.2) [] Tryz.func178 (by unfold Tryz.f178; rfl) (fun _ => ⟨(), trivial⟩) ?_
 intro a ha
 obtain ⟨r, a, b⟩ := a
 obtain ⟨h1, ⟨h2, h3⟩, h4, h5⟩ : a0G r = true /\ (0 <= a /\ a < r.commits.length) /\ 0 <= b /\ b < r.commits.length := ha
 simp (maxSteps := 8000000) -implicitDefEqProofs [-kStep_move, -kStepC_move, -Bool.exists_bool, b1K, b3O, b2D, Con.fn, a0R, tTab, c7L, c5c, c5d, l8bA, l8bB, l8bC, a0I]
 try dsimp only
 have hal := a2C r
 have h6 := a3V h1
 have hmem : ∀ c, ∀ x ∈ a0B (anc r c), 0 <= x /\ x < r.commits.length := fun c x hx => by
  obtain ⟨i, q1, _, rfl⟩ := listT_mem.1 hx
  rw [hal] at q1
  omega
 have h16 : ∀ c, (a0B (anc r c)).length <= 16 := fun c => by
  have := a6q (anc r c) (anc r c).length
  rw [hal] at this
  unfold a0B; rw [hal]; omega
 refine ⟨r, a, ⟨⟨rfl, rfl⟩, rfl⟩, ⟨h1, h2, h3⟩, r, b, ⟨⟨rfl, rfl⟩, rfl⟩, ⟨h1, h4, h5⟩, ?_⟩
 have hLm := hmem a
 have hL16 := h16 a
 have stepB : ∀ t (h : t < (a0B (anc r a)).length), a1K r a b (t + 1) = if (a0B (anc r a))[t] ∈ a0B (anc r b) then a1K r a b t ++ [(a0B (anc r a))[t]] else a1K r a b t := fun t h => by
  unfold a1K
  rw [a0y h, List.filter_append]
  split
  ·rename_i hq; rw [List.filter_cons_of_pos (by simpa using hq)]; simp
  ·rename_i hq; rw [List.filter_cons_of_neg (by simpa using hq)]; simp
 have bothL : ∀ t, (a1K r a b t).length <= (a0B (anc r a)).length := fun t => by
  unfold a1K
  exact Nat.le_trans (List.length_filter_le _ _) (by simp; omega)
 have hBm : ∀ x ∈ a1K r a b (a0B (anc r a)).length, 0 <= x /\ x < r.commits.length := fun x hx => by
  unfold a1K at hx
  exact hLm x (List.mem_of_mem_take (List.mem_filter.1 hx).1)
 have hout : a4i r a b = a3x r (a1K r a b (a0B (anc r a)).length) (a1K r a b (a0B (anc r a)).length).length := rfl
 have hb0 : a1K r a b 0 = [] := by unfold a1K; simp
 generalize a0B (anc r a) = L at *
 generalize hM : a0B (anc r b) = M at *
 have hB16 := bothL L.length
 generalize hB : a1K r a b L.length = B at *
 have baseS : ∀ u (h : u < B.length), a3x r B (u + 1) = if a8v r B u B.length then a3x r B u ++ [B[u]] else a3x r B u := fun u h => by
  unfold a3x
  rw [List.range_succ, List.filter_append, List.map_append]
  split
  ·rename_i hq; simp -implicitDefEqProofs [hq, List.getD_eq_getElem?_getD, h]
  ·rename_i hq; simp -implicitDefEqProofs [hq]
 have baseL : ∀ u, (a3x r B u).length <= u := fun u => by
  unfold a3x
  rw [List.length_map]
  exact Nat.le_trans (List.length_filter_le _ _) (by simp)
 refine ⟨⟨0, ⟨⟨rfl, rfl, hb0, rfl⟩, hb0⟩, Nat.zero_le _⟩, fun t ht _ => ⟨fun hlt => ⟨hlt, fun _ => ?_⟩, fun hge => ?_⟩⟩
 ·have qq : Option.map eInt L[t]? = some (eInt L[t]) := by simp -implicitDefEqProofs [hlt]
  have sB := stepB t hlt
  have bL := bothL t
  have sn : a0i (a1K r a b t) ++ [[D.int .i64 L[t]]] = a0i (a1K r a b t ++ [L[t]]) := a2G _ _
  rw [qq]
  generalize L[t] = y at *
  simp -implicitDefEqProofs [eInt, D.asInt]
  rw [sn]
  refine ⟨M, y, ⟨rfl, rfl⟩, fun h => ⟨hlt, fun _ => ⟨⟨by omega, by omega⟩, ⟨by omega, by omega⟩, fun _ _ => ⟨t + 1, by rw [sB, if_pos h]; exact ⟨⟨⟨rfl, by omega⟩, rfl⟩, by omega, by omega⟩⟩⟩⟩, fun h => ⟨⟨by omega, by omega⟩, fun _ _ => ⟨t + 1, by rw [sB, if_neg h]; exact ⟨⟨⟨rfl, by omega⟩, rfl⟩, by omega, by omega⟩⟩⟩⟩
 ·have ht' : t = L.length := by omega
  subst ht'
  rw [hB]
  refine ⟨⟨0, ⟨⟨rfl, rfl, rfl⟩, rfl, rfl⟩, Nat.zero_le _⟩, fun u hu _ => ⟨fun hlu => ⟨u, ⟨0, ⟨⟨rfl, rfl, rfl, rfl⟩, rfl⟩, Nat.zero_le _, hlu⟩, fun k hk _ _ => ?_⟩, fun hgu => ?_⟩⟩
  ·have q2 : Option.map eInt B[u]? = some (eInt B[u]) := by simp -implicitDefEqProofs [hlu]
   have sS := baseS u hlu
   have bL := baseL u
   have gu : B.getD u 0 = B[u] := by simp -implicitDefEqProofs [List.getD_eq_getElem?_getD, hlu]
   have sn : a0i (a3x r B u) ++ [[D.int .i64 B[u]]] = a0i (a3x r B u ++ [B[u]]) := a2G _ _
   refine ⟨fun hkl => ?_, fun hge => ?_⟩
   ·have q1 : Option.map eInt B[k]? = some (eInt B[k]) := by simp -implicitDefEqProofs [hkl]
    have gk : B.getD k 0 = B[k] := by simp -implicitDefEqProofs [List.getD_eq_getElem?_getD, hkl]
    have sb : a8v r B u (k + 1) = (a8v r B u k && (decide ((k : Int) = (u : Int)) || !decide (B[u] ∈ a0B (anc r B[k])))) := by
     have e : decide ((k : Int) = (u : Int)) = decide (k = u) := by rw [Bool.eq_iff_iff, decide_eq_true_eq, decide_eq_true_eq]; omega
     rw [e]
     unfold a8v
     rw [List.range_succ, List.all_append, gu]
     simp -implicitDefEqProofs [List.getD_eq_getElem?_getD, hkl]
    have hm := hBm B[k] (List.getElem_mem hkl)
    rw [q1, q2]
    generalize B[u] = y at *
    generalize B[k] = x at *
    simp -implicitDefEqProofs [eInt, D.asInt, hkl, hlu]
    refine ⟨fun a b => ⟨a, b⟩, fun _ => ⟨fun a b => ⟨a, b⟩, fun _ => ⟨r, x, ⟨⟨rfl, rfl⟩, rfl⟩, fun a b => ⟨⟨a, b⟩, h1, hm.1, hm.2⟩, fun a b => ⟨a, b⟩, fun _ => ⟨fun a b => ⟨a, b⟩, fun _ => ⟨_, y, ⟨rfl, rfl⟩, fun a => ⟨a, ?_⟩, fun _ => ⟨⟨by omega, by omega⟩, fun _ _ => ⟨k + 1, ⟨sb, by omega⟩, by omega, by omega⟩⟩⟩⟩⟩⟩⟩
    by_cases e : (k : Int) = u
    ·exact .inl e
    ·exact .inr ⟨a, e⟩
   ·have : k = B.length := by omega
    subst this
    rw [q2]
    generalize B[u] = y at *
    simp -implicitDefEqProofs [eInt, D.asInt, hlu]
    rw [sn]
    exact ⟨fun h => ⟨⟨by omega, by omega⟩, ⟨by omega, by omega⟩, fun _ _ => ⟨u + 1, by rw [sS, if_pos h]; exact ⟨⟨⟨rfl, by omega⟩, rfl⟩, by omega, by omega⟩⟩⟩, fun h => ⟨⟨by omega, by omega⟩, fun _ _ => ⟨u + 1, by rw [sS, if_neg (by simp -implicitDefEqProofs [h])]; exact ⟨⟨⟨rfl, by omega⟩, rfl⟩, by omega, by omega⟩⟩⟩⟩
  ·have : u = B.length := by omega
   subst this
   rw [<- hout]
   exact ⟨rfl, rfl⟩
--TAB a0R
theorem c2H {r : RepoD} (h : a0w r = true) (i : Nat) : a0S (r.commits.getD i default).tree = true := by
 rcases Nat.lt_or_ge i r.commits.length with hi | hi
 ·have := ((a0V r).1 h).1 i hi
  unfold okCS okS1 at this
  simp only [Bool.and_eq_true] at this
  exact this.2.2
 ·have : r.commits.getD i default = default := by simp -implicitDefEqProofs [List.getD_eq_getElem?_getD, hi]
  rw [this]; rfl
theorem a2T {r : RepoD} (h : a0w r = true) (c : Int) : a0S (a0F r c) = true := c2H h _
theorem b2j {r : RepoD} (h : a0w r = true) : rpSz r := by
 obtain ⟨h1, h2, h3⟩ := (a0V r).1 h
 refine ⟨by omega, fun c hc => ?_, by have := ((a2H _ _).1 h2).1; omega⟩
 obtain ⟨i, hi, rfl⟩ := List.getElem_of_mem hc
 have h4 := h1 i hi
 have e : r.commits.getD i default = r.commits[i] := by simp -implicitDefEqProofs [List.getD_eq_getElem?_getD, hi]
 unfold okCS okS1 at h4
 rw [e] at h4
 simp only [Bool.and_eq_true, decide_eq_true_eq] at h4
 obtain ⟨t1, t2⟩ := a6a _ h4.2.2
 exact ⟨by omega, by omega, fun g hg => by have := t2 g hg; omega⟩
theorem cget {r : RepoD} {c : Int} (h0 : 0 <= c) (h1 : c < r.commits.length) : Option.map a0H r.commits[c.toNat]? = some [D.sl 3 1 (a0i (r.commits.getD c.toNat default).parents), D.str (r.commits.getD c.toNat default).who, D.sl 66 2 (a0a (a0F r c))] := by
 have h : c.toNat < r.commits.length := by omega
 have e : r.commits.getD c.toNat default = r.commits[c.toNat] := by simp -implicitDefEqProofs [List.getD_eq_getElem?_getD, h]
 unfold a0F
 rw [e]; simp -implicitDefEqProofs [h, a0H]
theorem c3I {r : RepoD} {a b : Int} {i : Nat} : ∀ x ∈ a1K r a b i, 0 <= x /\ x < r.commits.length := fun x hx => by
 unfold a1K at hx
 obtain ⟨j, q1, _, rfl⟩ := listT_mem.1 (List.mem_of_mem_take (List.mem_filter.1 hx).1)
 rw [a2C] at q1
 omega
theorem c0P {r : RepoD} {a b : Int} : ∀ x ∈ a4i r a b, 0 <= x /\ x < r.commits.length := fun x hx => by
 unfold a4i a3x at hx
 obtain ⟨j, hj, rfl⟩ := List.mem_map.1 hx
 have hj := List.mem_range.1 (List.mem_filter.1 hj).1
 rw [List.getD_eq_getElem?_getD, List.getElem?_eq_getElem hj, Option.getD_some]
 exact c3I _ (List.getElem_mem hj)
theorem c0O {r : RepoD} (h : a0G r = true) {a b : Int} : (a4i r a b).length <= 16 := by
 have h6 := a3V h
 have h1 := a6q (anc r a) (anc r a).length
 unfold a4i a3x
 rw [List.length_map]
 refine Nat.le_trans (List.length_filter_le _ _) ?_
 rw [List.length_range]
 unfold a1K
 refine Nat.le_trans (List.length_filter_le _ _) ?_
 rw [a2C] at h1
 simp only [List.length_take, a0B, a2C]; omega
theorem c0M {r : RepoD} (h : a0w r = true) (a b : Int) : a0S (a2k r a b) = true := by
 unfold a2k
 split
 ·rfl
 ·exact a2T h _
theorem a9E {r : RepoD} (h : a0w r = true) (c : Int) : a0S (a2t r c) = true := by
 unfold a2t
 split
 ·rfl
 ·exact a2T h _
theorem a2A {t : List FileD} (h : a0S t = true) : szT t := by
 obtain ⟨h1, h2⟩ := a6a t h
 exact ⟨by omega, h2⟩
def b3P : Con := .fn 26 (RepoD × Int × Int) (fun a => [a1e a.1, .int .i64 a.2.1, .int .i64 a.2.2]) (fun a => a0w a.1 = true /\ (0 <= a.2.1 /\ a.2.1 < a.1.commits.length) /\ 0 <= a.2.2 /\ a.2.2 < a.1.commits.length) (fun a => .sl true 2 (a0a (a2k a.1 a.2.1 a.2.2))) (fun _ => [])
theorem c2h : Has Tryz.prog 147 b3P := by
 refine a0d mixed a0M (HasL.cons b9j HasL.nil) [0, 1, 2, 3, 6, 7] ((fun a n (_ : Nat) => (fun _ => a0E) a n)) [] Tryz.func147 (by unfold Tryz.f147; rfl) (fun _ => ⟨(), trivial⟩) ?_
 intro a ha
 obtain ⟨r, a, b⟩ := a
 obtain ⟨h1, ⟨h2, h3⟩, h4, h5⟩ : a0w r = true /\ (0 <= a /\ a < r.commits.length) /\ 0 <= b /\ b < r.commits.length := ha
 simp -implicitDefEqProofs [b3P, b1K, Con.fn, a0R, tTab, a0I]
 try dsimp only
 simp -implicitDefEqProofs only [and_assoc, exists_eq_left, exists_and_left, RepoD.ex1, RepoD.eta]
 have hI : a0G r = true := by rw [a1h]; exact h1
 have hl := c0O hI (a := a) (b := b)
 have hmm := c0P (r := r) (a := a) (b := b)
 have hb : a2k r a b = match (a4i r a b).getLast? with | none => [] | some c => a0F r c := rfl
 refine ⟨hI, h2, h3, h4, h5, fun _ => ⟨fun h => by rw [hb, h]; rfl, fun h => ?_⟩⟩
 rcases List.eq_nil_or_concat (a4i r a b) with e | ⟨m, q, e⟩
 ·exact absurd e h
 ·rw [e] at hl hmm hb ⊢
  have hq := hmm q (by simp)
  have cg := cget hq.1 hq.2
  have hb : a2k r a b = a0F r q := by rw [hb]; simp
  rw [hb]
  simp -implicitDefEqProofs [eInt, D.asInt, cg, D.asRows]
  simp at hl
  omega
def b1L : Con := .fn 70 (RepoD × Str × Str × Int) (fun a => [a1e a.1, .str a.2.1, .str a.2.2.1, .int .i64 a.2.2.2]) (fun a => a0w a.1 = true /\ 0 <= atL a.1.heads a.2.1 /\ 0 <= a.2.2.2 /\ a.2.2.2 < a.1.commits.length) (fun a => .tup [.agg [.sl false 3 (a0h (a2s a.1 a.2.1 a.2.2.1 a.2.2.2).1.commits), .sl false 2 (a0c (a2s a.1 a.2.1 a.2.2.1 a.2.2.2).1.heads)], .int .i64 (a2s a.1 a.2.1 a.2.2.1 a.2.2.2).2]) (fun _ => [])
theorem b9k : Has Tryz.prog 101 b1L := by
 refine a0d mixed a0M (HasL.cons a4C (HasL.cons c5b (HasL.cons b4U (HasL.cons a9a (HasL.cons c2h (HasL.cons b3b (HasL.cons b0j (HasL.cons a4D HasL.nil)))))))) [0, 1, 2, 3, 4, 8, 9, 10, 11, 12, 13] ((fun a n (_ : Nat) => (fun _ => a0E) a n)) [] Tryz.func101 (by unfold Tryz.f101; rfl) (fun _ => ⟨(), trivial⟩) ?_
 intro a ha
 obtain ⟨r, n, w, b⟩ := a
 obtain ⟨h1, h2, h3, h4⟩ : a0w r = true /\ 0 <= atL r.heads n /\ 0 <= b /\ b < r.commits.length := ha
 simp -implicitDefEqProofs [b1L, a6e, b6J, b2D, a7W, b3P, b0O, a9O, a6f, Con.fn, a0R, tTab, a0I]
 try dsimp only
 simp -implicitDefEqProofs only [and_assoc, exists_eq_left, exists_and_left, RepoD.ex1, RepoD.eta]
 have hI : a0G r = true := by rw [a1h]; exact h1
 obtain ⟨k1, k2, k3⟩ := b2j h1
 have hat := a9G (n := n) ((a0V r).1 h1).2.1
 have ga := cget (r := r) (c := atL r.heads n) h2 (by omega)
 have gb := cget (r := r) h3 h4
 rw [ga, gb]
 simp -implicitDefEqProofs [D.asRows]
 have hlen : ∀ c, (addR r n c).commits.length <= 1073741824 := fun c => by simp -implicitDefEqProofs [addR]; omega
 refine ⟨hI, h2, by omega, fun h => ?_, fun h => ⟨hI, h3, h4, fun h' => ⟨by omega, ?_⟩, fun h' => ⟨h1, h2, by omega, h3, h4, h2, by omega, fun _ _ => ⟨h3, h4, fun _ _ => ⟨a2A (c0M h1 _ _), a2A (a2T h1 _), a2A (a2T h1 _), fun _ => ⟨fun hj => ?_, fun hj => ⟨⟨[atL r.heads n, b], w, (a1n (a2k r (atL r.heads n) b) (a0F r (atL r.heads n)) (a0F r b)).1⟩, rfl, rfl, rfl, k1, k3, hlen _, fun hs => ?_, fun hs => ?_⟩⟩⟩⟩⟩⟩⟩
 ·unfold a2s; rw [if_pos h]; exact ⟨rfl, rfl, rfl⟩
 ·unfold a2s; rw [if_neg h, if_pos h']; exact ⟨rfl, rfl, rfl⟩
 ·unfold a2s; rw [if_neg h, if_neg h', if_neg (by intro e; rw [e] at hj; simp at hj)]; exact ⟨rfl, rfl, rfl⟩
 ·unfold a2s; rw [if_neg h, if_neg h', if_pos hj, if_neg (by simp -implicitDefEqProofs [hs])]; exact ⟨rfl, rfl, rfl⟩
 ·unfold a2s; rw [if_neg h, if_neg h', if_pos hj, if_pos hs]; exact ⟨rfl, rfl, rfl⟩
def a8Q : Con := .fn 42 (RepoD × Str × Str × Int) (fun a => [a1e a.1, .str a.2.1, .str a.2.2.1, .int .i64 a.2.2.2]) (fun a => rpSz a.1) (fun a => .tup [.agg [.sl false 3 (a0h (a1l a.1 a.2.1 a.2.2.1 a.2.2.2).1.commits), .sl false 2 (a0c (a1l a.1 a.2.1 a.2.2.1 a.2.2.2).1.heads)], .int .i64 (a1l a.1 a.2.1 a.2.2.1 a.2.2.2).2]) (fun _ => [])
theorem b5N : Has Tryz.prog 54 a8Q := by
 refine a0d mixed a0M (HasL.cons a4D (HasL.cons a4C (HasL.cons a4O (HasL.cons a5f (HasL.cons a4P (HasL.cons b9k HasL.nil)))))) [0, 1, 2, 3, 4, 8, 9] ((fun a n (_ : Nat) => (fun _ => a0E) a n)) [] Tryz.func54 (by unfold Tryz.f54; rfl) (fun _ => ⟨(), trivial⟩) ?_
 intro a ha
 obtain ⟨r, n, w, b⟩ := a
 replace ha : rpSz r := ha
 simp -implicitDefEqProofs [a8Q, a6f, a6e, a5k, a6C, a5l, b1L, Con.fn, a0R, tTab, a0I]
 try dsimp only
 simp -implicitDefEqProofs only [and_assoc, exists_eq_left, exists_and_left, RepoD.ex1, RepoD.eta]
 have e0 : a0w r = false -> a1l r n w b = (noR, 1) := fun h => by unfold a1l; rw [if_neg (by simp -implicitDefEqProofs [h])]
 have e1 : a0w r = true -> (atL r.heads n < 0 \/ a0X w = false \/ ¬ (0 <= b /\ b < r.commits.length)) -> a1l r n w b = (r, 1) := fun h h' => by unfold a1l; rw [if_pos h, if_pos h']
 have e2 : a0w r = true -> ¬ (atL r.heads n < 0 \/ a0X w = false \/ ¬ (0 <= b /\ b < r.commits.length)) -> a1l r n w b = a2s r n w b := fun h h' => by unfold a1l; rw [if_pos h, if_neg h']
 have hr1 : r.commits.length <= 1048576 := ha.1
 refine ⟨by omega, fun h => by rw [e0 h]; exact ⟨rfl, rfl, rfl⟩, fun h => ⟨fun hn => ⟨ha, by rw [e1 h (.inl hn)]; exact ⟨rfl, rfl, rfl⟩⟩, fun hn => ⟨fun hw => ⟨ha, by rw [e1 h (.inr (.inl hw))]; exact ⟨rfl, rfl, rfl⟩⟩, fun hw _ => ⟨by omega, by omega, fun _ _ => ⟨fun hb => ⟨ha, by rw [e1 h (.inr (.inr (by omega)))]; exact ⟨rfl, rfl, rfl⟩⟩, fun hb hb' => ⟨ha, h, hn, hb, by omega, ?_⟩⟩⟩⟩⟩⟩
 rw [e2 h (by rintro (q | q | q); omega; rw [hw] at q; cases q; omega)]; exact ⟨rfl, rfl, rfl⟩
def a7w : Con := .fn 26 (RepoD × Int) (fun a => [a1e a.1, .int .i64 a.2]) (fun a => a0w a.1 = true /\ 0 <= a.2 /\ a.2 < a.1.commits.length) (fun a => .sl true 2 (a0a (a2t a.1 a.2))) (fun _ => [])
theorem b0i : Has Tryz.prog 168 a7w := by
 refine a0d mixed a0M HasL.nil [0, 1, 2, 4] ((fun a n (_ : Nat) => (fun _ => a0E) a n)) [] Tryz.func168 (by unfold Tryz.f168; rfl) (fun _ => ⟨(), trivial⟩) ?_
 intro a ha
 obtain ⟨r, c⟩ := a
 obtain ⟨h1, h2, h3⟩ : a0w r = true /\ 0 <= c /\ c < r.commits.length := ha
 simp -implicitDefEqProofs [a7w, Con.fn, a0R, tTab, a0I]
 try dsimp only
 simp -implicitDefEqProofs only [and_assoc, exists_eq_left, exists_and_left, RepoD.ex1, RepoD.eta]
 have cg := cget (r := r) h2 h3
 have hp : a2t r c = match (r.commits.getD c.toNat default).parents with | [] => [] | p :: _ => a0F r p := rfl
 have hmem : ∀ p ∈ (r.commits.getD c.toNat default).parents, 0 <= p /\ p < r.commits.length := fun p hp => by
  have hc : c.toNat < r.commits.length := by omega
  have := (a2E (r := r) (by rw [a1h]; exact h1) hc).2.1 p (by simpa [List.getD_eq_getElem?_getD, hc] using hp)
  omega
 have hl : (r.commits.getD c.toNat default).parents.length <= 1000 := by
  have hc : c.toNat < r.commits.length := by omega
  have := (a2E (r := r) (by rw [a1h]; exact h1) hc).1
  simpa [List.getD_eq_getElem?_getD, hc] using by omega
 rw [cg]
 generalize (r.commits.getD c.toNat default).parents = P at *
 cases P with
 | nil => simp -implicitDefEqProofs [D.asRows, hp]; omega
 | cons p P =>
  have hq := hmem p (by simp)
  have cp := cget hq.1 hq.2
  have hp : a2t r c = a0F r p := hp
  simp -implicitDefEqProofs [D.asRows, hp, a0i, eInt, D.asInt, cp]
  exact ⟨h2, h3, fun _ _ _ => ⟨h2, h3, fun _ _ => hq⟩⟩
def b0L : Con := .fn 48 (RepoD × Str × Str × List FileD × List FileD) (fun a => [a1e a.1, .str a.2.1, .str a.2.2.1, .sl true 2 (a0a a.2.2.2.1), .sl true 2 (a0a a.2.2.2.2)]) (fun a => a0w a.1 = true /\ 0 <= atL a.1.heads a.2.1 /\ a0S a.2.2.2.1 = true /\ a0S a.2.2.2.2 = true) (fun a => .tup [.agg [.sl false 3 (a0h (a3q a.1 a.2.1 a.2.2.1 a.2.2.2.1 a.2.2.2.2).1.commits), .sl false 2 (a0c (a3q a.1 a.2.1 a.2.2.1 a.2.2.2.1 a.2.2.2.2).1.heads)], .int .i64 (a3q a.1 a.2.1 a.2.2.1 a.2.2.2.1 a.2.2.2.2).2]) (fun _ => [])
theorem b2V : Has Tryz.prog 167 b0L := by
 refine a0d mixed a0M (HasL.cons a4C (HasL.cons b3b (HasL.cons b0j (HasL.cons a4D HasL.nil)))) [0, 1, 2, 3, 4, 5, 10, 11, 12, 13, 14, 15] ((fun a n (_ : Nat) => (fun _ => a0E) a n)) [] Tryz.func167 (by unfold Tryz.f167; rfl) (fun _ => ⟨(), trivial⟩) ?_
 intro a ha
 obtain ⟨r, n, w, o, b⟩ := a
 obtain ⟨h1, h2, h3, h4⟩ : a0w r = true /\ 0 <= atL r.heads n /\ a0S o = true /\ a0S b = true := ha
 simp -implicitDefEqProofs [b0L, a6e, b0O, a9O, a6f, Con.fn, a0R, tTab, a0I]
 try dsimp only
 simp -implicitDefEqProofs only [and_assoc, exists_eq_left, exists_and_left, RepoD.ex1, RepoD.eta]
 obtain ⟨k1, k2, k3⟩ := b2j h1
 have hat := a9G (n := n) ((a0V r).1 h1).2.1
 have ga := cget (r := r) (c := atL r.heads n) h2 (by omega)
 rw [ga]
 simp -implicitDefEqProofs [D.asRows]
 have hlen : ∀ c, (addR r n c).commits.length <= 1073741824 := fun c => by simp -implicitDefEqProofs [addR]; omega
 refine ⟨h2, by omega, fun _ _ => ⟨a2A h3, a2A (a2T h1 _), a2A h4, fun _ => ⟨fun hj => ?_, fun hj => ⟨⟨[atL r.heads n], w, (a1n o (a0F r (atL r.heads n)) b).1⟩, rfl, rfl, rfl, k1, k3, hlen _, fun hs => ?_, fun hs => ?_⟩⟩⟩⟩
 ·unfold a3q; rw [if_neg (by intro e; rw [e] at hj; simp at hj)]; exact ⟨rfl, rfl, rfl⟩
 ·unfold a3q; rw [if_pos hj, if_neg (by simp -implicitDefEqProofs [hs])]; exact ⟨rfl, rfl, rfl⟩
 ·unfold a3q; rw [if_pos hj, if_pos hs]; exact ⟨rfl, rfl, rfl⟩
def b3V : Con := .fn 52 (RepoD × Str × Str × Int) (fun a => [a1e a.1, .str a.2.1, .str a.2.2.1, .int .i64 a.2.2.2]) (fun a => rpSz a.1) (fun a => .tup [.agg [.sl false 3 (a0h (a1D false a.1 a.2.1 a.2.2.1 a.2.2.2).1.commits), .sl false 2 (a0c (a1D false a.1 a.2.1 a.2.2.1 a.2.2.2).1.heads)], .int .i64 (a1D false a.1 a.2.1 a.2.2.1 a.2.2.2).2]) (fun _ => [])
theorem c2z : Has Tryz.prog 128 b3V := by
 refine a0d mixed a0M (HasL.cons a4D (HasL.cons a4C (HasL.cons a4O (HasL.cons a5f (HasL.cons a4P (HasL.cons b0i (HasL.cons b2V HasL.nil))))))) [0, 1, 2, 3, 4, 8, 9, 10] ((fun a n (_ : Nat) => (fun _ => a0E) a n)) [] Tryz.func128 (by unfold Tryz.f128; rfl) (fun _ => ⟨(), trivial⟩) ?_
 intro a ha
 obtain ⟨r, n, w, b⟩ := a
 replace ha : rpSz r := ha
 simp -implicitDefEqProofs [b3V, a6f, a6e, a5k, a6C, a5l, a7w, b0L, Con.fn, a0R, tTab, a0I]
 try dsimp only
 simp -implicitDefEqProofs only [and_assoc, exists_eq_left, exists_and_left, RepoD.ex1, RepoD.eta]
 have e0 : a0w r = false -> a1D false r n w b = (noR, 1) := fun h => by unfold a1D; rw [if_neg (by simp -implicitDefEqProofs [h])]
 have e1 : a0w r = true -> (atL r.heads n < 0 \/ a0X w = false \/ ¬ (0 <= b /\ b < r.commits.length)) -> a1D false r n w b = (r, 1) := fun h h' => by unfold a1D; rw [if_pos h, if_pos h']
 have e2 : a0w r = true -> ¬ (atL r.heads n < 0 \/ a0X w = false \/ ¬ (0 <= b /\ b < r.commits.length)) -> a1D false r n w b = a3q r n w (a2t r b) (a0F r b) := fun h h' => by unfold a1D; rw [if_pos h, if_neg h']; rfl
 have hr1 : r.commits.length <= 1048576 := ha.1
 refine ⟨by omega, fun h => by rw [e0 h]; exact ⟨rfl, rfl, rfl⟩, fun h => ⟨fun hn => ⟨ha, by rw [e1 h (.inl hn)]; exact ⟨rfl, rfl, rfl⟩⟩, fun hn => ⟨fun hw => ⟨ha, by rw [e1 h (.inr (.inl hw))]; exact ⟨rfl, rfl, rfl⟩⟩, fun hw _ => ⟨by omega, by omega, fun _ _ => ⟨fun hb => ⟨ha, by rw [e1 h (.inr (.inr (by omega)))]; exact ⟨rfl, rfl, rfl⟩⟩, fun hb hb' => ?_⟩⟩⟩⟩⟩
 rw [e2 h (by rintro (q | q | q); omega; rw [hw] at q; cases q; omega)]
 have cb := cget hb (show b < r.commits.length by omega)
 have s1 := a2T h b
 have s2 := a9E h b
 rw [cb]
 simp -implicitDefEqProofs [D.asRows, h, hn, hb, s1, s2, show b < r.commits.length by omega, show rpSz r from ha]
def a9Q : Con := .fn 52 (RepoD × Str × Str × Int) (fun a => [a1e a.1, .str a.2.1, .str a.2.2.1, .int .i64 a.2.2.2]) (fun a => rpSz a.1) (fun a => .tup [.agg [.sl false 3 (a0h (a1D true a.1 a.2.1 a.2.2.1 a.2.2.2).1.commits), .sl false 2 (a0c (a1D true a.1 a.2.1 a.2.2.1 a.2.2.2).1.heads)], .int .i64 (a1D true a.1 a.2.1 a.2.2.1 a.2.2.2).2]) (fun _ => [])
theorem b7S : Has Tryz.prog 129 a9Q := by
 refine a0d mixed a0M (HasL.cons a4D (HasL.cons a4C (HasL.cons a4O (HasL.cons a5f (HasL.cons a4P (HasL.cons b0i (HasL.cons b2V HasL.nil))))))) [0, 1, 2, 3, 4, 8, 9, 10] ((fun a n (_ : Nat) => (fun _ => a0E) a n)) [] Tryz.func129 (by unfold Tryz.f129; rfl) (fun _ => ⟨(), trivial⟩) ?_
 intro a ha
 obtain ⟨r, n, w, b⟩ := a
 replace ha : rpSz r := ha
 simp -implicitDefEqProofs [a9Q, a6f, a6e, a5k, a6C, a5l, a7w, b0L, Con.fn, a0R, tTab, a0I]
 try dsimp only
 simp -implicitDefEqProofs only [and_assoc, exists_eq_left, exists_and_left, RepoD.ex1, RepoD.eta]
 have e0 : a0w r = false -> a1D true r n w b = (noR, 1) := fun h => by unfold a1D; rw [if_neg (by simp -implicitDefEqProofs [h])]
 have e1 : a0w r = true -> (atL r.heads n < 0 \/ a0X w = false \/ ¬ (0 <= b /\ b < r.commits.length)) -> a1D true r n w b = (r, 1) := fun h h' => by unfold a1D; rw [if_pos h, if_pos h']
 have e2 : a0w r = true -> ¬ (atL r.heads n < 0 \/ a0X w = false \/ ¬ (0 <= b /\ b < r.commits.length)) -> a1D true r n w b = a3q r n w (a0F r b) (a2t r b) := fun h h' => by unfold a1D; rw [if_pos h, if_neg h']; rfl
 have hr1 : r.commits.length <= 1048576 := ha.1
 refine ⟨by omega, fun h => by rw [e0 h]; exact ⟨rfl, rfl, rfl⟩, fun h => ⟨fun hn => ⟨ha, by rw [e1 h (.inl hn)]; exact ⟨rfl, rfl, rfl⟩⟩, fun hn => ⟨fun hw => ⟨ha, by rw [e1 h (.inr (.inl hw))]; exact ⟨rfl, rfl, rfl⟩⟩, fun hw _ => ⟨by omega, by omega, fun _ _ => ⟨fun hb => ⟨ha, by rw [e1 h (.inr (.inr (by omega)))]; exact ⟨rfl, rfl, rfl⟩⟩, fun hb hb' => ?_⟩⟩⟩⟩⟩
 rw [e2 h (by rintro (q | q | q); omega; rw [hw] at q; cases q; omega)]
 have cb := cget hb (show b < r.commits.length by omega)
 have s1 := a2T h b
 have s2 := a9E h b
 rw [cb]
 simp -implicitDefEqProofs [D.asRows, h, hn, hb, s1, s2, show b < r.commits.length by omega, show rpSz r from ha]
--TAB a0R
def a2Y (n : Nat) (k : Int) : List Int := (List.range n).map fun i : Nat => k + (i : Int)
theorem a3i (n : Nat) (k : Int) : (a2Y n k).length = n := by simp -implicitDefEqProofs [a2Y]
def a4Q (a : List Int) (k : Int) (i : Nat) : List Int := (a2Y a.length k).take i ++ a.drop i
theorem c5o {a : List Int} {k : Int} {i : Nat} (h : i <= a.length) : (a4Q a k i).length = a.length := by simp -implicitDefEqProofs [a4Q, a3i]; omega
theorem c2o (a : List Int) (k : Int) : a4Q a k 0 = a := by simp -implicitDefEqProofs [a4Q]
theorem c5n {a : List Int} {k : Int} {i : Nat} (h : a.length <= i) : a4Q a k i = a2Y a.length k := by
 unfold a4Q
 rw [List.take_of_length_le (by rw [a3i]; exact h), List.drop_eq_nil_of_le h, List.append_nil]
theorem c5p {a : List Int} {k : Int} {i : Nat} (h : i < a.length) : (a4Q a k i).set i (k + i) = a4Q a k (i + 1) := by
 unfold a4Q
 have h1 : ((a2Y a.length k).take i).length = i := by rw [List.length_take, a3i]; omega
 rw [List.set_append_right _ _ (by omega), h1, Nat.sub_self, List.drop_eq_getElem_cons h, List.set_cons_zero]
 rw [a0y (l := a2Y a.length k) (i := i) (by rw [a3i]; exact h)]
 simp -implicitDefEqProofs [a2Y]
def a9P : Con := { A := List Int × Int, X := Unit, n := 19, args := fun a => [.own 0 1 (a0i a.1), .int .i64 a.2], boxes := fun _ => [], pre := fun a => 0 <= a.2 /\ a.2 + a.1.length <= 4611686018427387904, post := fun _ _ => True, res := fun a _ => .int .i64 (a.2 + a.1.length), fin := fun a _ => [(0, .own 3 1 true (a0i (a2Y a.1.length a.2)))], owns := fun a => [(0, 3, 1, a0i a.1)], lends := [0], mv := true, sube := 3 }
theorem b7A : Has Tryz.prog 22 a9P := by
 refine a0d mixed a0g HasL.nil [0, 1, 4, 5] ((fun a n (_ : Nat) => (fun a _ => ⟨Nat, fun i => ⟨[(0, true, .own 0 1 (a0i (a4Q a.1 a.2 i))), (1, true, .int .i64 (a.2 + i)), (4, true, .int .i64 0), (5, true, .int .i64 i)], [(0, .own 3 1 true (a0i (a4Q a.1 a.2 i)))]⟩, fun i => i <= a.1.length, fun i => a.1.length - i⟩) a n)) [] Tryz.func22 (by unfold Tryz.f22; rfl) (fun _ => ⟨(), trivial⟩) ?_
 intro a ha
 obtain ⟨l, k⟩ := a
 obtain ⟨q1, q2⟩ : 0 <= k /\ k + l.length <= 4611686018427387904 := ha
 have e1 := fun i => @c5o l k i
 have e2 := fun i => @c5p l k i
 have e3 := c2o l k
 have e4 := fun i => @c5n l k i
 simp -implicitDefEqProofs [a9P, Con.fn, tTab]
 try dsimp only
 refine ⟨⟨0, ⟨⟨e3, by omega, rfl⟩, e3.symm⟩, Nat.zero_le _⟩, fun i hi _ => ⟨fun hlt => ⟨hlt, fun _ => ⟨hlt, ⟨by omega, by omega⟩, fun _ _ => ⟨⟨by omega, by omega⟩, fun _ _ => ?_⟩⟩⟩, fun hge => ?_⟩⟩
 ·rw [e1 i hi] at hlt
  have h := e2 i hlt
  have hs : (a0i (a4Q l k i)).set i [D.int .i64 (k + i)] = a0i (a4Q l k (i + 1)) := by rw [a3B, h]
  exact ⟨i + 1, ⟨⟨hs.symm, by omega, by omega⟩, hs⟩, by omega, by omega⟩
 ·rw [e1 i hi] at hge
  exact ⟨by omega, e4 i hge⟩
def b0X (a : List Int) (k : Int) : Int := if a = a2Y a.length k then k + a.length else -1
def a9M : Con := .fn 21 (List Int × Int) (fun a => [.sl true 1 (a0i a.1), .int .i64 a.2]) (fun a => 0 <= a.2 /\ a.2 + a.1.length <= 4611686018427387904) (fun a => .int .i64 (b0X a.1 a.2)) (fun _ => [])
theorem b7c : Has Tryz.prog 24 a9M := by
 refine a0d mixed a0g HasL.nil [0, 1, 4, 5] ((fun a n (_ : Nat) => (fun a _ => ⟨Nat, fun i => ⟨[(0, true, .sl true 1 (a0i a.1)), (1, true, .int .i64 (a.2 + i)), (4, true, .int .i64 0), (5, true, .int .i64 i)], []⟩, fun i => i <= a.1.length /\ a.1.take i = (a2Y a.1.length a.2).take i, fun i => a.1.length - i⟩) a n)) [] Tryz.func24 (by unfold Tryz.f24; rfl) (fun _ => ⟨(), trivial⟩) ?_
 intro a ha
 obtain ⟨l, k⟩ := a
 obtain ⟨q1, q2⟩ : 0 <= k /\ k + l.length <= 4611686018427387904 := ha
 simp -implicitDefEqProofs [a9M, Con.fn, tTab]
 try dsimp only
 have hg : ∀ i (h : i < l.length), (a2Y l.length k)[i]'(by rw [a3i]; exact h) = k + i := fun i h => by simp -implicitDefEqProofs [a2Y]
 refine ⟨⟨0, ⟨by omega, rfl⟩, Nat.zero_le _, by simp⟩, fun i hi hp _ => ⟨fun hlt => ⟨hlt, fun _ => ⟨by simp -implicitDefEqProofs [hlt, eInt], fun _ _ => ⟨fun hne => ?_, fun he => ⟨⟨by omega, by omega⟩, fun _ _ => ⟨⟨by omega, by omega⟩, fun _ _ => ⟨i + 1, ⟨by omega, by omega⟩, ⟨by omega, ?_⟩, by omega⟩⟩⟩⟩⟩⟩, fun hge => ?_⟩⟩
 ·have hne' : ¬ l[i] = k + i := by simpa [hlt, eInt] using hne
  unfold b0X
  rw [if_neg]
  intro e
  have h2 := hg i hlt
  apply hne'
  have : l[i]? = (a2Y l.length k)[i]? := by rw [<- e]
  rw [List.getElem?_eq_getElem hlt, List.getElem?_eq_getElem (by rw [a3i]; exact hlt), h2] at this
  exact Option.some.inj this
 ·have he' : l[i] = k + i := by simpa [hlt, eInt] using he
  rw [a0y hlt, a0y (l := a2Y l.length k) (by rw [a3i]; exact hlt), hp, hg i hlt, he']
 ·rw [List.take_of_length_le hge, List.take_of_length_le (by rw [a3i]; exact hge)] at hp
  unfold b0X
  rw [if_pos hp]; omega
def mkC (c : CommitD) (k : Int) : CommitD := ⟨a2Y c.parents.length k, a1N (k + c.parents.length), a1d c.tree (k + c.parents.length + 1)⟩
def kC (c : CommitD) (k : Int) : Int := kE c.tree (k + c.parents.length + 1)
def kCs : List CommitD -> Int -> Int
 | [], k => k
 | c :: l, k => kCs l (kC c k)
def a1y : List CommitD -> Int -> List CommitD
 | [], _ => []
 | c :: l, k => mkC c k :: a1y l (kC c k)
theorem a2J : ∀ (l : List CommitD) (k : Int), (a1y l k).length = l.length
 | [], _ => rfl
 | c :: l, k => by simp -implicitDefEqProofs [a1y, a2J l]
theorem b2b : ∀ (l : List CommitD) (c : CommitD) (k : Int), kCs (l ++ [c]) k = kC c (kCs l k)
 | [], _, _ => rfl
 | d :: l, c, k => by simp only [List.cons_append, kCs]; exact b2b l c _
theorem a6H : ∀ (l : List CommitD) (k : Int) (i : Nat) (h : i < l.length), (a1y l k)[i]'(by rw [a2J]; exact h) = mkC l[i] (kCs (l.take i) k)
 | [], _, i, h => by simp at h
 | c :: l, k, 0, _ => rfl
 | c :: l, k, i + 1, h => by
  simp only [a1y, List.getElem_cons_succ, List.take_succ_cons, kCs]
  exact a6H l _ i (by simpa using h)
theorem c1K {c : CommitD} {k : Int} : k + c.parents.length + 1 <= kC c k := by
 have := (c1O (t := c.tree) (k := k + c.parents.length + 1) c.tree.length).1
 rw [List.take_length] at this
 exact this
theorem a6p : ∀ (l : List CommitD) (k : Int), k <= kCs l k
 | [], _ => Int.le_refl _
 | c :: l, k => by
  have h1 := c1K (c := c) (k := k)
  have h2 := a6p l (kC c k)
  simp only [kCs]; omega
theorem b4S (l : List CommitD) (k : Int) (i : Nat) : kCs (l.take i) k <= kCs l k := by
 have : ∀ (a b : List CommitD) (k : Int), kCs (a ++ b) k = kCs b (kCs a k) := by
  intro a
  induction a with
  | nil => intro b k; rfl
  | cons c a ih => intro b k; simp only [List.cons_append, kCs]; exact ih b _
 conv => rhs; rw [<- List.take_append_drop i l]
 rw [this]
 exact a6p _ _
def a3O (a : List CommitD) (k : Int) (i : Nat) : List CommitD := (a1y a k).take i ++ a.drop i
theorem c5l {a : List CommitD} {k : Int} {i : Nat} (h : i <= a.length) : (a3O a k i).length = a.length := by simp -implicitDefEqProofs [a3O, a2J]; omega
theorem c2n (a : List CommitD) (k : Int) : a3O a k 0 = a := by simp -implicitDefEqProofs [a3O]
theorem c5j {a : List CommitD} {k : Int} {i : Nat} (h : a.length <= i) : a3O a k i = a1y a k := by
 unfold a3O
 rw [List.take_of_length_le (by rw [a2J]; exact h), List.drop_eq_nil_of_le h, List.append_nil]
theorem c5k {a : List CommitD} {k : Int} {i : Nat} (h : i < a.length) : (a3O a k i)[i]? = some a[i] := by
 unfold a3O
 rw [List.getElem?_append_right (by simp; omega), List.length_take, a2J, Nat.min_eq_left (by omega), Nat.sub_self, List.getElem?_drop]
 simp -implicitDefEqProofs [h]
theorem c5m {a : List CommitD} {k : Int} {i : Nat} (h : i < a.length) : (a3O a k i).set i (mkC a[i] (kCs (a.take i) k)) = a3O a k (i + 1) := by
 unfold a3O
 have h1 : ((a1y a k).take i).length = i := by rw [List.length_take, a2J]; omega
 rw [List.set_append_right _ _ (by omega), h1, Nat.sub_self, List.drop_eq_getElem_cons h, List.set_cons_zero]
 rw [a0y (l := a1y a k) (i := i) (by rw [a2J]; exact h), a6H a k i h]
 simp
def a7b : Con := { A := List CommitD × Int, X := Unit, n := 35, args := fun a => [.own 0 3 (a0h a.1), .int .i64 a.2], boxes := fun _ => [], pre := fun a => 0 <= a.2 /\ kCs a.1 a.2 <= 1152921504606846976, post := fun _ _ => True, res := fun a _ => .int .i64 (kCs a.1 a.2), fin := fun a _ => [(0, .own 102 3 true (a0h (a1y a.1 a.2)))], owns := fun a => [(0, 102, 3, a0h a.1)], lends := [0], mv := true, sube := 102 }
theorem b3e : Has Tryz.prog 63 a7b := by
 refine a0d mixed a0g (HasL.cons b7A (HasL.cons a2S (HasL.cons b5A HasL.nil))) [0, 1, 4, 5] ((fun a n (_ : Nat) => (fun a _ => ⟨Nat, fun i => ⟨[(0, true, .own 0 3 (a0h (a3O a.1 a.2 i))), (1, true, .int .i64 (kCs (a.1.take i) a.2)), (4, true, .int .i64 0), (5, true, .int .i64 i)], [(0, .own 102 3 true (a0h (a3O a.1 a.2 i)))]⟩, fun i => i <= a.1.length, fun i => a.1.length - i⟩) a n)) [] Tryz.func63 (by unfold Tryz.f63; rfl) (fun _ => ⟨(), trivial⟩) ?_
 intro a ha
 obtain ⟨l, k⟩ := a
 obtain ⟨q1, q2⟩ : 0 <= k /\ kCs l k <= 1152921504606846976 := ha
 have e1 := fun i => @c5l l k i
 have e3 := c2n l k
 simp -implicitDefEqProofs [a7b, Con.fn, tTab, a9P, a3f, a8F]
 try dsimp only
 refine ⟨⟨0, ⟨⟨e3, rfl, rfl⟩, e3.symm⟩, Nat.zero_le _⟩, fun t ht hbig => ⟨fun hlt => ?_, fun hge => ?_⟩⟩
 ·rw [e1 t ht] at hlt
  have g := c5k (k := k) hlt
  have hl := e1 t ht
  have g2 : (a3O l k t)[t]'(by omega) = l[t] := by
   rw [List.getElem?_eq_getElem (by omega)] at g; exact Option.some.inj g
  have hst := c5m (k := k) hlt
  have hsn : kCs (l.take (t + 1)) k = kC l[t] (kCs (l.take t) k) := by rw [a0y hlt, b2b]
  have hsp := b4S l k (t + 1)
  rw [hsn] at hsp
  have hge1 := a6p (l.take t) k
  have hkc := c1K (c := l[t]) (k := kCs (l.take t) k)
  generalize kCs (l.take t) k = b at *
  simp -implicitDefEqProofs [g, g2, hl, hlt, a0H, D.asRows, and_assoc]
  have hse : (a0h (a3O l k t)).set t [D.sl 3 1 (a0i (a2Y l[t].parents.length b)), D.str (a1N (b + l[t].parents.length)), D.sl 66 2 (a0a (a1d l[t].tree (b + l[t].parents.length + 1)))] = a0h (a3O l k (t + 1)) := by
   rw [<- hst]; unfold a0h; rw [List.map_set]; rfl
  have hkE : kC l[t] b = kE l[t].tree (b + l[t].parents.length + 1) := rfl
  rw [hkE] at hsp hsn hkc
  refine ⟨by omega, by omega, by omega, by omega, fun _ _ => ⟨by omega, by omega, by omega, by omega, fun _ _ => ⟨t + 1, hse.symm, hsn, by omega, hse, by omega, by omega⟩⟩⟩
 ·have hge' : l.length <= t := by rw [e1 t ht] at hge; omega
  rw [List.take_of_length_le hge', c5j hge']
  simp
def a2h (n : Nat) (k : Int) : List HeadD := (List.range n).map fun i : Nat => ⟨a1N (k + 2 * i), k + 2 * i + 1⟩
theorem a2n (n : Nat) (k : Int) : (a2h n k).length = n := by simp -implicitDefEqProofs [a2h]
theorem a9f {n : Nat} {k : Int} {i : Nat} (h : i < n) : (a2h n k)[i]'(by rw [a2n]; exact h) = ⟨a1N (k + 2 * i), k + 2 * i + 1⟩ := by simp -implicitDefEqProofs [a2h]
def mHA (a : List HeadD) (k : Int) (i : Nat) : List HeadD := (a2h a.length k).take i ++ a.drop i
theorem d0y {a : List HeadD} {k : Int} {i : Nat} (h : i <= a.length) : (mHA a k i).length = a.length := by simp -implicitDefEqProofs [mHA, a2n]; omega
theorem c7V (a : List HeadD) (k : Int) : mHA a k 0 = a := by simp -implicitDefEqProofs [mHA]
theorem d0w {a : List HeadD} {k : Int} {i : Nat} (h : a.length <= i) : mHA a k i = a2h a.length k := by
 unfold mHA
 rw [List.take_of_length_le (by rw [a2n]; exact h), List.drop_eq_nil_of_le h, List.append_nil]
theorem d0x {a : List HeadD} {k : Int} {i : Nat} (h : i < a.length) : (mHA a k i)[i]? = some a[i] := by
 unfold mHA
 rw [List.getElem?_append_right (by simp; omega), List.length_take, a2n, Nat.min_eq_left (by omega), Nat.sub_self, List.getElem?_drop]
 simp -implicitDefEqProofs [h]
theorem d0z {a : List HeadD} {k : Int} {i : Nat} (h : i < a.length) : (mHA a k i).set i ⟨a1N (k + 2 * i), k + 2 * i + 1⟩ = mHA a k (i + 1) := by
 unfold mHA
 have h1 : ((a2h a.length k).take i).length = i := by rw [List.length_take, a2n]; omega
 rw [List.set_append_right _ _ (by omega), h1, Nat.sub_self, List.drop_eq_getElem_cons h, List.set_cons_zero]
 rw [a0y (l := a2h a.length k) (i := i) (by rw [a2n]; exact h), a9f h]
 simp
def a8G : Con := { A := List HeadD × Int, X := Unit, n := 28, args := fun a => [.own 0 2 (a0c a.1), .int .i64 a.2], boxes := fun _ => [], pre := fun a => 0 <= a.2 /\ a.2 + 2 * a.1.length <= 4611686018427387904, post := fun _ _ => True, res := fun a _ => .int .i64 (a.2 + 2 * a.1.length), fin := fun a _ => [(0, .own 69 2 true (a0c (a2h a.1.length a.2)))], owns := fun a => [(0, 69, 2, a0c a.1)], lends := [0], mv := true, sube := 69 }
theorem b5B : Has Tryz.prog 64 a8G := by
 refine a0d mixed a0g (HasL.cons a2S HasL.nil) [0, 1, 4, 5] ((fun a n (_ : Nat) => (fun a _ => ⟨Nat, fun i => ⟨[(0, true, .own 0 2 (a0c (mHA a.1 a.2 i))), (1, true, .int .i64 (a.2 + 2 * i)), (4, true, .int .i64 0), (5, true, .int .i64 i)], [(0, .own 69 2 true (a0c (mHA a.1 a.2 i)))]⟩, fun i => i <= a.1.length, fun i => a.1.length - i⟩) a n)) [] Tryz.func64 (by unfold Tryz.f64; rfl) (fun _ => ⟨(), trivial⟩) ?_
 intro a ha
 obtain ⟨l, k⟩ := a
 obtain ⟨q1, q2⟩ : 0 <= k /\ k + 2 * l.length <= 4611686018427387904 := ha
 have e1 := fun i => @d0y l k i
 have e3 := c7V l k
 simp -implicitDefEqProofs [a8G, Con.fn, tTab, a3f]
 try dsimp only
 refine ⟨⟨0, ⟨⟨e3, by omega, rfl⟩, e3.symm⟩, Nat.zero_le _⟩, fun t ht hbig => ⟨fun hlt => ?_, fun hge => ?_⟩⟩
 ·rw [e1 t ht] at hlt
  have g := d0x (k := k) hlt
  have hl := e1 t ht
  have g2 : (mHA l k t)[t]'(by omega) = l[t] := by
   rw [List.getElem?_eq_getElem (by omega)] at g; exact Option.some.inj g
  have hst := d0z (k := k) hlt
  simp -implicitDefEqProofs [g, g2, hl, hlt, a0Y, D.asRows, and_assoc]
  have hse : (a0c (mHA l k t)).set t [D.str (a1N (k + 2 * t)), D.int .i64 (k + 2 * t + 1)] = a0c (mHA l k (t + 1)) := by
   rw [<- hst, a2m]
  exact ⟨by omega, by omega, by omega, fun _ _ => ⟨by omega, by omega, fun _ _ => ⟨by omega, by omega, fun _ _ => ⟨t + 1, hse.symm, by omega, by omega, hse, by omega, by omega⟩⟩⟩⟩
 ·have hge' : l.length <= t := by rw [e1 t ht] at hge; omega
  rw [d0w hge']
  simp; omega
def a5a (a : List HeadD) (k : Int) : Int := if a = a2h a.length k then k + 2 * a.length else -1
theorem b8S (n : Nat) (k : Int) : a5a (a2h n k) k = k + 2 * n := by
 unfold a5a
 rw [a2n, if_pos rfl]
theorem c1A {l : List HeadD} {k : Int} {i : Nat} (h : i < l.length) (h2 : l[i].name ≠ a1N (k + 2 * i) \/ l[i].at_ ≠ k + 2 * i + 1) : a5a l k = -1 := by
 unfold a5a
 rw [if_neg]
 intro h3
 have : l[i]? = (a2h l.length k)[i]? := by rw [<- h3]
 rw [List.getElem?_eq_getElem h, List.getElem?_eq_getElem (by rw [a2n]; exact h), a9f h] at this
 have := Option.some.inj this
 rcases h2 with h2 | h2
 ·exact h2 (congrArg HeadD.name this)
 ·exact h2 (congrArg HeadD.at_ this)
theorem c1B {l : List HeadD} {k : Int} {i : Nat} (h : i < l.length) (h1 : l.take i = (a2h l.length k).take i) (h2 : l[i].name = a1N (k + 2 * i)) (h3 : l[i].at_ = k + 2 * i + 1) : l.take (i + 1) = (a2h l.length k).take (i + 1) := by
 rw [a0y h, a0y (by rw [a2n]; exact h), a9f h, <- h1, <- h2, <- h3]
theorem c4r {l : List HeadD} {k : Int} {i : Nat} (h : l.length <= i) (h1 : l.take i = (a2h l.length k).take i) : a5a l k = k + 2 * l.length := by
 rw [List.take_of_length_le h, List.take_of_length_le (by rw [a2n]; exact h)] at h1
 unfold a5a
 rw [if_pos h1]
def a8D : Con := .fn 32 (List HeadD × Int) (fun a => [.sl true 2 (a0c a.1), .int .i64 a.2]) (fun a => 0 <= a.2 /\ a.2 + 2 * a.1.length <= 4611686018427387904) (fun a => .int .i64 (a5a a.1 a.2)) (fun _ => [])
theorem b5w : Has Tryz.prog 67 a8D := by
 refine a0d mixed a0g (HasL.cons a2S HasL.nil) [0, 1, 4, 5] ((fun a n (_ : Nat) => (fun a _ => ⟨Nat, fun i => ⟨[(0, true, .sl true 2 (a0c a.1)), (1, true, .int .i64 (a.2 + 2 * i)), (4, true, .int .i64 0), (5, true, .int .i64 i)], []⟩, fun i => i <= a.1.length /\ a.1.take i = (a2h a.1.length a.2).take i, fun i => a.1.length - i⟩) a n)) [] Tryz.func67 (by unfold Tryz.f67; rfl) (fun _ => ⟨(), trivial⟩) ?_
 intro a ha
 obtain ⟨l, k⟩ := a
 obtain ⟨q1, q2⟩ : 0 <= k /\ k + 2 * l.length <= 4611686018427387904 := ha
 have e1 := fun i => @c1A l k i
 have e2 := fun i => @c1B l k i
 have e3 := fun i => @c4r l k i
 simp -implicitDefEqProofs [a8D, Con.fn, tTab, a3f]
 try dsimp only
 refine ⟨⟨0, by simp⟩, fun i hi hp _ => ⟨fun hlt => ?_, fun hge => ?_⟩⟩
 ·simp -implicitDefEqProofs [hlt, a0Y, D.asStr, and_assoc]
  exact ⟨by omega, fun h => e1 i hlt (.inl h), fun h1 => ⟨by omega, by omega, fun _ _ => ⟨fun h => e1 i hlt (.inr h), fun h2 => ⟨by omega, by omega, fun _ _ => ⟨by omega, by omega, fun _ _ => ⟨i + 1, by omega, by omega, by omega, e2 i hlt hp h1 h2, by omega⟩⟩⟩⟩⟩⟩
 ·have := e3 i hge hp
  omega
def a7x : Con := { A := RepoD × Int, X := Unit, n := 14, args := fun a => [.agg [.own 0 3 (a0h a.1.commits), .own 1 2 (a0c a.1.heads)], .int .i64 a.2], boxes := fun _ => [], pre := fun a => 0 <= a.2 /\ kCs a.1.commits a.2 + 2 * a.1.heads.length <= 1152921504606846976, post := fun _ _ => True, res := fun a _ => .int .i64 (kCs a.1.commits a.2 + 2 * a.1.heads.length), fin := fun a _ => [(0, .own 102 3 true (a0h (a1y a.1.commits a.2))), (1, .own 69 2 true (a0c (a2h a.1.heads.length (kCs a.1.commits a.2))))], owns := fun a => [(0, 102, 3, a0h a.1.commits), (1, 69, 2, a0c a.1.heads)], lends := [0, 1], mv := true, sube := 102 }
theorem b7B : Has Tryz.prog 20 a7x := by
 refine a0d mixed a0g (HasL.cons b3e (HasL.cons b5B HasL.nil)) [0, 1, 2, 4] ((fun a n (_ : Nat) => (fun _ => a0E) a n)) [] Tryz.func20 (by unfold Tryz.f20; rfl) (fun _ => ⟨(), trivial⟩) ?_
 intro a ha
 obtain ⟨r, k⟩ := a
 obtain ⟨q1, q2⟩ : 0 <= k /\ kCs r.commits k + 2 * r.heads.length <= 1152921504606846976 := ha
 simp -implicitDefEqProofs [a7x, Con.fn, tTab, a7b, a8G]
 try dsimp only
 exact ⟨_, _, ⟨rfl, rfl⟩, rfl, ⟨q1, by omega⟩, _, _, ⟨rfl, rfl⟩, rfl, ⟨by have := a6p r.commits k; omega, by omega⟩, rfl, rfl, rfl⟩
theorem c7W (c : CommitD) (k : Int) : mkC (mkC c k) k = mkC c k := by
 unfold mkC
 simp only [a3i, b9m]
theorem d0l (c : CommitD) (k : Int) : kC (mkC c k) k = kC c k := by
 unfold kC
 have h1 : (mkC c k).parents.length = c.parents.length := by simp -implicitDefEqProofs [mkC, a3i]
 have h2 : (mkC c k).tree = a1d c.tree (k + c.parents.length + 1) := rfl
 rw [h1, h2, b7o]
theorem a6i : ∀ (l : List CommitD) (k : Int), a1y (a1y l k) k = a1y l k /\ kCs (a1y l k) k = kCs l k
 | [], _ => ⟨rfl, rfl⟩
 | c :: l, k => by
  obtain ⟨h1, h2⟩ := a6i l (kC c k)
  simp only [a1y, kCs, c7W, d0l, h1, h2]
  exact ⟨trivial, trivial⟩
def a3E (l : List CommitD) (k : Int) : Int := if l = a1y l k then kCs l k else -1
theorem b8R (l : List CommitD) (k : Int) : a3E (a1y l k) k = kCs l k := by
 unfold a3E
 rw [(a6i l k).1, if_pos rfl, (a6i l k).2]
theorem c1w {l : List CommitD} {k : Int} {i : Nat} (h : i < l.length) (h2 : l[i].parents ≠ a2Y l[i].parents.length (kCs (l.take i) k) \/ l[i].who ≠ a1N (kCs (l.take i) k + l[i].parents.length) \/ l[i].tree ≠ a1d l[i].tree (kCs (l.take i) k + l[i].parents.length + 1)) : a3E l k = -1 := by
 unfold a3E
 rw [if_neg]
 intro h3
 have : l[i]? = (a1y l k)[i]? := by rw [<- h3]
 rw [List.getElem?_eq_getElem h, List.getElem?_eq_getElem (by rw [a2J]; exact h), a6H l k i h] at this
 have := Option.some.inj this
 rcases h2 with h2 | h2 | h2
 ·exact h2 (congrArg CommitD.parents this)
 ·exact h2 (congrArg CommitD.who this)
 ·exact h2 (congrArg CommitD.tree this)
theorem c1x {l : List CommitD} {k : Int} {i : Nat} (h : i < l.length) (h1 : l.take i = (a1y l k).take i) (h2 : l[i].parents = a2Y l[i].parents.length (kCs (l.take i) k)) (h3 : l[i].who = a1N (kCs (l.take i) k + l[i].parents.length)) (h4 : l[i].tree = a1d l[i].tree (kCs (l.take i) k + l[i].parents.length + 1)) : l.take (i + 1) = (a1y l k).take (i + 1) := by
 have e : mkC l[i] (kCs (l.take i) k) = l[i] := by
  unfold mkC
  rw [<- h2, <- h3, <- h4]
 rw [a0y h, a0y (by rw [a2J]; exact h), a6H l k i h, <- h1, e]
theorem c4o {l : List CommitD} {k : Int} {i : Nat} (h : l.length <= i) (h1 : l.take i = (a1y l k).take i) : a3E l k = kCs (l.take i) k := by
 rw [List.take_of_length_le h, List.take_of_length_le (by rw [a2J]; exact h)] at h1
 unfold a3E
 rw [if_pos h1, List.take_of_length_le h]
def a6Z : Con := .fn 41 (List CommitD × Int) (fun a => [.sl true 3 (a0h a.1), .int .i64 a.2]) (fun a => 0 <= a.2 /\ kCs a.1 a.2 <= 1152921504606846976) (fun a => .int .i64 (a3E a.1 a.2)) (fun _ => [])
theorem b2J : Has Tryz.prog 66 a6Z := by
 refine a0d mixed a0g (HasL.cons b7c (HasL.cons a2S (HasL.cons b5v HasL.nil))) [0, 1, 4, 5] ((fun a n (_ : Nat) => (fun a _ => ⟨Nat, fun i => ⟨[(0, true, .sl true 3 (a0h a.1)), (1, true, .int .i64 (kCs (a.1.take i) a.2)), (4, true, .int .i64 0), (5, true, .int .i64 i)], []⟩, fun i => i <= a.1.length /\ a.1.take i = (a1y a.1 a.2).take i, fun i => a.1.length - i⟩) a n)) [] Tryz.func66 (by unfold Tryz.f66; rfl) (fun _ => ⟨(), trivial⟩) ?_
 intro a ha
 obtain ⟨l, k⟩ := a
 obtain ⟨q1, q2⟩ : 0 <= k /\ kCs l k <= 1152921504606846976 := ha
 have e1 := fun i => @c1w l k i
 have e2 := fun i => @c1x l k i
 have e3 := fun i => @c4o l k i
 simp -implicitDefEqProofs [a6Z, Con.fn, tTab, a9M, a3f, a8C]
 try dsimp only
 refine ⟨⟨0, by simp -implicitDefEqProofs [kCs]⟩, fun i hi hpre _ => ⟨fun hlt => ?_, fun hge => e3 i hge hpre⟩⟩
 have hsn : kCs (l.take (i + 1)) k = kC l[i] (kCs (l.take i) k) := by rw [a0y hlt, b2b]
 have hsp := b4S l k (i + 1)
 have hge1 := a6p (l.take i) k
 have hkc := c1K (c := l[i]) (k := kCs (l.take i) k)
 have m1 := e1 i hlt
 have m2 := e2 i hlt hpre
 rw [hsn] at hsp
 have hkE : kC l[i] (kCs (l.take i) k) = kE l[i].tree (kCs (l.take i) k + l[i].parents.length + 1) := rfl
 rw [hkE] at hsp hsn hkc
 clear e1 e2 e3 hkE
 generalize hb : kCs (l.take i) k = b at *
 simp -implicitDefEqProofs [hlt, a0H, D.asStr, D.asRows, and_assoc]
 have hl : ∀ a kk, b0X a kk = if a = a2Y a.length kk then kk + a.length else -1 := fun _ _ => rfl
 have hf : ∀ a kk, a6o a kk = if a = a1d a kk then kE a kk else -1 := fun _ _ => rfl
 by_cases hp : l[i].parents = a2Y l[i].parents.length b
 ·have g1 : b0X l[i].parents b = b + l[i].parents.length := by rw [hl, if_pos hp]
  rw [g1]
  refine ⟨by omega, by omega, fun h => by omega, fun _ => ⟨by omega, fun h => m1 (.inr (.inl h)), fun hw => ⟨by omega, by omega, fun _ _ => ⟨by omega, by omega, ?_⟩⟩⟩⟩
  by_cases ht : l[i].tree = a1d l[i].tree (b + l[i].parents.length + 1)
  ·have g2 : a6o l[i].tree (b + l[i].parents.length + 1) = kE l[i].tree (b + l[i].parents.length + 1) := by rw [hf, if_pos ht]
   rw [g2]
   exact ⟨fun h => by omega, fun _ => ⟨by omega, by omega, fun _ _ => ⟨i + 1, hsn, by omega, by omega, m2 hp hw ht, by omega⟩⟩⟩
  ·have g2 : a6o l[i].tree (b + l[i].parents.length + 1) = -1 := by rw [hf, if_neg ht]
   rw [g2]
   exact ⟨fun _ => m1 (.inr (.inr ht)), fun h => by omega⟩
 ·have g1 : b0X l[i].parents b = -1 := by rw [hl, if_neg hp]
  rw [g1]
  exact ⟨by omega, by omega, fun _ => m1 (.inl hp), fun h => by omega⟩
def a8Y (r : RepoD) (k : Int) : Int := if a3E r.commits k < 0 then -1 else if a5a r.heads (a3E r.commits k) < 0 then -1 else a5a r.heads (a3E r.commits k)
theorem c4p (l : List CommitD) (k : Int) : a3E l k <= kCs l k \/ a3E l k = -1 := by unfold a3E; split <;> omega
def a7u : Con := .fn 18 (RepoD × Int) (fun a => [a1e a.1, .int .i64 a.2]) (fun a => 0 <= a.2 /\ kCs a.1.commits a.2 + 2 * a.1.heads.length <= 1152921504606846976) (fun a => .int .i64 (a8Y a.1 a.2)) (fun _ => [])
theorem b7d : Has Tryz.prog 23 a7u := by
 refine a0d mixed a0g (HasL.cons b2J (HasL.cons b5w HasL.nil)) [0, 1, 2, 4] ((fun a n (_ : Nat) => (fun _ => a0E) a n)) [] Tryz.func23 (by unfold Tryz.f23; rfl) (fun _ => ⟨(), trivial⟩) ?_
 intro a ha
 obtain ⟨r, k⟩ := a
 obtain ⟨q1, q2⟩ : 0 <= k /\ kCs r.commits k + 2 * r.heads.length <= 1152921504606846976 := ha
 simp -implicitDefEqProofs [a7u, Con.fn, tTab, a6Z, a8D]
 try dsimp only
 have h1 := c4p r.commits k
 refine ⟨_, _, ⟨rfl, rfl⟩, ⟨q1, by omega⟩, fun h => by unfold a8Y; rw [if_pos h], fun h => ⟨_, _, ⟨rfl, rfl⟩, ⟨h, by omega⟩, fun h2 => by unfold a8Y; rw [if_neg (by omega), if_pos h2], fun h2 => by unfold a8Y; rw [if_neg (by omega), if_neg (by omega)]⟩⟩
def mkR (r : RepoD) (k : Int) : RepoD := ⟨a1y r.commits k, a2h r.heads.length (kCs r.commits k)⟩
theorem c1C (r : RepoD) (k : Int) (hk : 0 <= k) : a8Y (mkR r k) k = kCs r.commits k + 2 * r.heads.length := by
 have h1 : a3E (mkR r k).commits k = kCs r.commits k := b8R _ _
 have h2 : a5a (mkR r k).heads (kCs r.commits k) = kCs r.commits k + 2 * r.heads.length := b8S _ _
 have h3 := a6p r.commits k
 unfold a8Y
 rw [h1, if_neg (by omega), h2, if_neg (by omega)]
theorem c4D (r : RepoD) (k : Int) : kCs (mkR r k).commits k + 2 * (mkR r k).heads.length = kCs r.commits k + 2 * r.heads.length := by
 have h1 : kCs (mkR r k).commits k = kCs r.commits k := (a6i r.commits k).2
 have h2 : (mkR r k).heads.length = r.heads.length := a2n _ _
 rw [h1, h2]

theorem c0z : ∀ {a : List Str} {l : Int}, 0 <= l -> 0 <= szL a l -> szL a l <= l
 | [], l, _, _ => Int.le_refl l
 | s :: r, l, h, h2 => by
  simp only [szL] at h2 ⊢
  split at h2
  ·omega
  ·rename_i h3
   rw [if_neg h3]
   have := c0z (a := r) (l := l - s.length) (by omega) h2
   omega
theorem c2V {a : List Str} {l : Int} (h : 0 <= a3G a l) : a3G a l + a.length <= l := by
 unfold a3G at h ⊢
 split at h
 ·omega
 ·rename_i h3
  rw [if_neg h3]
  have := c0z (by omega) h
  omega
theorem d1l {f : FileD} {l : Int} (h : 0 <= szF f l) : szF f l + f.text.length <= l := by
 unfold szF at h ⊢
 split at h
 ·omega
 ·rename_i h3
  rw [if_neg h3]
  split at h
  ·omega
  ·rename_i h4
   rw [if_neg h4]
   have := c2V h
   omega
theorem b8l : ∀ {a : List FileD} {l : Int}, 0 <= szFL a l -> szFL a l + a1E a <= l
 | [], l, _ => by simp -implicitDefEqProofs [szFL, a1E]
 | f :: r, l, h => by
  simp only [szFL] at h ⊢
  split at h
  ·omega
  ·rename_i h3
   rw [if_neg h3]
   have h1 := b8l (a := r) (l := szF f l) h
   have h2 := d1l (f := f) (l := l) (by omega)
   have : a1E (f :: r) = f.text.length + a1E r := by simp -implicitDefEqProofs [a1E]
   omega
theorem b9H {a : List FileD} {l : Int} (h : 0 <= a3v a l) : a3v a l + a.length + a1E a <= l := by
 unfold a3v at h ⊢
 split at h
 ·omega
 ·rename_i h3
  rw [if_neg h3]
  have := b8l h
  omega
theorem c8T {c : CommitD} {l : Int} (h : 0 <= szCm c l) (k : Int) : szCm c l + (kC c k - k) <= l + 1 := by
 have hk : kC c k = k + c.parents.length + 1 + c.tree.length + a1E c.tree := rfl
 unfold szCm at h ⊢
 split at h
 ·omega
 ·rename_i h3
  rw [if_neg h3]
  split at h
  ·omega
  ·rename_i h4
   rw [if_neg h4]
   split at h
   ·omega
   ·rename_i h5
    rw [if_neg h5]
    have h6 := b9H h
    have h7 : szI c.parents l = l - c.parents.length := by
     unfold szI at h3 ⊢
     split
     ·rename_i h8; rw [if_pos h8] at h3; omega
     ·rfl
    omega
theorem b8i : ∀ {a : List CommitD} {l : Int} (_ : 0 <= szCL a l) (k : Int), szCL a l + (kCs a k - k) <= l + a.length
 | [], l, _, k => by simp -implicitDefEqProofs [szCL, kCs]
 | c :: r, l, h, k => by
  simp only [szCL] at h ⊢
  split at h
  ·omega
  ·rename_i h3
   rw [if_neg h3]
   have h1 := b8i (a := r) (l := szCm c l) h (kC c k)
   have h2 := c8T (c := c) (l := l) (by omega) k
   simp only [kCs, List.length_cons]
   omega
theorem b5H {a : List CommitD} {l : Int} (h : 0 <= a1X a l) (k : Int) : a1X a l + (kCs a k - k) <= l := by
 unfold a1X at h ⊢
 split at h
 ·omega
 ·rename_i h3
  rw [if_neg h3]
  have := b8i h k
  omega
theorem c8Z {r : RepoD} {l : Int} (h : 0 <= szRp r l) (k : Int) : k <= kCs r.commits k + 2 * r.heads.length /\ kCs r.commits k + 2 * r.heads.length <= k + 2 * l := by
 have hk := a6p r.commits k
 unfold szRp at h
 split at h
 ·omega
 ·rename_i h3
  split at h
  ·omega
  ·rename_i h4
   have h1 := b5H (a := r.commits) (l := l) (by omega) k
   have h2 := (b3w h).1
   omega



--TAB a0R
theorem d0m : ∀ {l : List CommitD}, (∀ c ∈ l, c.parents.length <= 2 /\ c.tree.length <= 8 /\ ∀ f ∈ c.tree, f.text.length <= 64) -> ∀ k : Int, kCs l k <= k + 523 * l.length := by
 intro l
 induction l with
 | nil => intro _ k; simp -implicitDefEqProofs [kCs]
 | cons c l ih =>
  intro h k
  obtain ⟨h1, h2, h3⟩ := h c (by simp)
  have h4 := (d2F h2 h3 (k + c.parents.length + 1)).2
  have h5 := ih (fun x hx => h x (by simp -implicitDefEqProofs [hx])) (kC c k)
  have h6 : kC c k = kE c.tree (k + c.parents.length + 1) := rfl
  simp only [kCs, List.length_cons]
  omega
theorem c8F {r : RepoD} (h : a0G r = true) : kCs r.commits 1 + 2 * r.heads.length <= 10000 := by
 have h1 := a3V h
 have hc : ∀ c ∈ r.commits, c.parents.length <= 2 /\ c.tree.length <= 8 /\ ∀ f ∈ c.tree, f.text.length <= 64 := fun c hc => by
  obtain ⟨i, hi, rfl⟩ := List.getElem_of_mem hc
  have h2 := (a2E h hi).2.2
  exact ⟨(a2E h hi).1, a6a _ (by rw [<- a2v]; exact h2)⟩
 have hh : r.heads.length <= 5 := by
  rw [a1h] at h
  exact ((a2H _ _).1 ((a0V r).1 h).2.1).1
 have := d0m hc 1
 omega
def a5g (t : List FileD) (f : FileD) : List FileD × Bool := if a0D t then (if a0D (putI t f).1 then ((putI t f).1, true) else (t, false)) else ([], false)
theorem c3c (t : List FileD) (f : FileD) : a5g t f = a3m t f := by
 unfold a5g a3m
 by_cases h : a0D t = true
 ·have hs := b2o h
  have e : (putI t f).1 = setS t f := by rw [a7m hs, b2k hs]
  rw [e, a2v, a2v]
 ·rw [if_neg h, if_neg (by rw [<- a2v]; exact h)]
def a1B (p : Str) (f : FileD) : Bool := !atB f.path p
theorem b1U (p : Str) : a1B p = a1j p := by
 funext f
 unfold a1B a1j
 rw [c9q]
 by_cases h : p = f.path
 ·subst h; simp
 ·have : ¬ f.path = p := fun e => h e.symm
  simp -implicitDefEqProofs [h, this]
def a3I (t : List FileD) (p : Str) : List FileD × Bool := if a0D t then (filB (a1B p) t, decide ((filB (a1B p) t).length < t.length)) else ([], false)
theorem b9L (t : List FileD) (p : Str) : a3I t p = a2j t p := by
 unfold a3I a2j
 rw [b1U, a2v]
def mvI (p to : Str) : List FileD -> List FileD -> Option (List FileD)
 | [], o => some o
 | f :: l, o => if atB f.path p then (if (putI o ⟨to ++ f.path.drop p.length, f.text⟩).2 then mvI p to l (putI o ⟨to ++ f.path.drop p.length, f.text⟩).1 else none) else mvI p to l o
theorem a5Y (p : Str) (f : FileD) : a6I p f = atB f.path p := by
 unfold a6I
 rw [c9q]
 congr 1
 by_cases h : f.path = p
 ·simp -implicitDefEqProofs [h]
 ·have : ¬ p = f.path := fun e => h e.symm
  simp -implicitDefEqProofs [h, this]
theorem b5g (o : List FileD) (f : FileD) : (putI o f).1.length = o.length + (if (putI o f).2 then 1 else 0) := by
 have hk := b4t o f.path
 unfold putI
 split
 ·simp
 ·simp -implicitDefEqProofs [a2Q]; omega
def hits (p : Str) (l : List FileD) : Nat := (l.filter (a6I p)).length
theorem b4o (p to : Str) : ∀ (l o : List FileD), Srt o -> (mvFs p to o l).length <= o.length + hits p l
 | [], o, _ => by simp -implicitDefEqProofs [mvFs, hits]
 | f :: l, o, h => by
  have e : mvFs p to o (f :: l) = mvFs p to (a4l p to o f) l := rfl
  rw [e]
  unfold a4l
  by_cases hh : a6I p f = true
  ·rw [if_pos hh, b2k h]
   have ih := b4o p to l _ (c0y (f := ⟨to ++ f.path.drop p.length, f.text⟩) h)
   have hl := b5g o ⟨to ++ f.path.drop p.length, f.text⟩
   rw [a7m h] at hl
   have : hits p (f :: l) = hits p l + 1 := by simp -implicitDefEqProofs [hits, hh]
   split at hl <;> omega
  ·rw [if_neg hh]
   have ih := b4o p to l o h
   have : hits p (f :: l) = hits p l := by simp -implicitDefEqProofs [hits, hh]
   omega
theorem b7H (p to : Str) : ∀ (l o : List FileD), Srt o -> match mvI p to l o with
  | some x => x = mvFs p to o l /\ x.length = o.length + hits p l
  | none => (mvFs p to o l).length < o.length + hits p l
 | [], o, _ => by simp -implicitDefEqProofs [mvI, mvFs, hits]
 | f :: l, o, h => by
  have e : mvFs p to o (f :: l) = mvFs p to (a4l p to o f) l := rfl
  rw [e]
  unfold a4l mvI
  rw [a5Y]
  by_cases hh : atB f.path p = true
  ·rw [if_pos hh, if_pos hh]
   have hit : hits p (f :: l) = hits p l + 1 := by simp -implicitDefEqProofs [hits, a5Y, hh]
   have hl := b5g o ⟨to ++ f.path.drop p.length, f.text⟩
   have hs := c0y (f := ⟨to ++ f.path.drop p.length, f.text⟩) h
   have e2 : setS o ⟨to ++ f.path.drop p.length, f.text⟩ = (putI o ⟨to ++ f.path.drop p.length, f.text⟩).1 := by rw [a7m h, b2k h]
   rw [e2]
   rw [<- a7m h] at hs
   cases hp : (putI o ⟨to ++ f.path.drop p.length, f.text⟩).2 with
   | true =>
    rw [hp] at hl
    simp only [if_true] at hl ⊢
    have ih := b7H p to l _ hs
    cases hm : mvI p to l (putI o ⟨to ++ f.path.drop p.length, f.text⟩).1 with
    | some x =>
     rw [hm] at ih
     simp only at ih ⊢
     exact ⟨ih.1, by rw [ih.2, hl, hit]; omega⟩
    | none =>
     rw [hm] at ih
     simp only at ih ⊢
     rw [hit]; omega
   | false =>
    rw [hp] at hl
    simp only [Bool.false_eq_true, if_false] at hl ⊢
    have := b4o p to l _ hs
    rw [hit]; omega
  ·rw [if_neg hh, if_neg hh]
   have hit : hits p (f :: l) = hits p l := by simp -implicitDefEqProofs [hits, a5Y, hh]
   rw [hit]
   exact b7H p to l o h
theorem c7p (p : Str) (t : List FileD) : (filB (a1B p) t).length + hits p t = t.length := by
 unfold hits filB
 induction t with
 | nil => rfl
 | cons f t ih =>
  have e : a6I p f = !a1B p f := by unfold a1B; rw [a5Y]; simp
  cases hd : a1B p f with
  | true => simp -implicitDefEqProofs [hd, e]; omega
  | false => simp -implicitDefEqProofs [hd, e]; omega
def a2U (t : List FileD) (p to : Str) : List FileD × Bool :=
 if a0D t then match mvI p to t (filB (a1B p) t) with
  | some x => if t.any (fun f => atB f.path p) = false \/ a3o to = false then (t, false) else if a0D x then (x, true) else (t, false)
  | none => (t, false)
 else ([], false)
theorem b9M (t : List FileD) (p to : Str) : a2U t p to = a1z t p to := by
 unfold a2U a1z
 by_cases h : a0D t = true
 ·rw [if_pos h, if_pos (by rw [<- a2v]; exact h)]
  have hs : Srt (filB (a1B p) t) := (b2o h).filter _
  have hm := b7H p to t _ hs
  have ha := c7p p t
  have hany : (t.any (fun f => atB f.path p) = false) ↔ hits p t = 0 := by
   unfold hits
   rw [List.length_eq_zero_iff, List.filter_eq_nil_iff, List.any_eq_false]
   constructor
   ·intro q f hf; rw [a5Y]; exact q f hf
   ·intro q f hf; have := q f hf; rwa [a5Y] at this
  have hc : ((filB (a1j p) t).length = t.length \/ a3p to = false) ↔ (t.any (fun f => atB f.path p) = false \/ a3o to = false) := by
   rw [hany, <- b1U, a6V]
   constructor
   ·rintro (q | q)
    ·exact .inl (by omega)
    ·exact .inr q
   ·rintro (q | q)
    ·exact .inl (by omega)
    ·exact .inr q
  rw [<- b1U] at hc ⊢
  by_cases hq : t.any (fun f => atB f.path p) = false \/ a3o to = false
  ·rw [if_pos (hc.2 hq)]
   split
   ·rw [if_pos hq]
   ·rfl
  ·rw [if_neg (fun x => hq (hc.1 x))]
   cases hr : mvI p to t (filB (a1B p) t) with
   | some x =>
    rw [hr] at hm
    simp only at hm ⊢
    obtain ⟨m1, m2⟩ := hm
    rw [if_neg hq, <- m1]
    have ml : x.length = t.length := by omega
    by_cases hx : a0D x = true
    ·rw [if_pos hx, if_neg]
     rintro (q | q)
     ·rw [<- a2v, hx] at q; cases q
     ·exact q ml
    ·rw [if_neg hx, if_pos]
     left; rw [<- a2v]; simpa using hx
   | none =>
    rw [hr] at hm
    simp only at hm ⊢
    rw [if_pos]
    right; omega
 ·rw [if_neg h, if_neg (by rw [<- a2v]; exact h)]
theorem c7Y {p to : Str} {t o : List FileD} {i : Nat} (h : i < t.length) : mvI p to (t.drop i) o = if atB t[i].path p then (if (putI o ⟨to ++ t[i].path.drop p.length, t[i].text⟩).2 then mvI p to (t.drop (i + 1)) (putI o ⟨to ++ t[i].path.drop p.length, t[i].text⟩).1 else none) else mvI p to (t.drop (i + 1)) o := by
 rw [List.drop_eq_getElem_cons h]; rfl
theorem d0C {p to : Str} {t o : List FileD} {i : Nat} (h : t.length <= i) : mvI p to (t.drop i) o = some o := by
 rw [List.drop_eq_nil_of_le h]; rfl
def comI (r : RepoD) (n : Str) : List Int := if 0 <= atL r.heads n then [atL r.heads n] else []
theorem d1O {r : RepoD} (h : a0G r = true) {n w : Str} {t : List FileD} : cmL r n ⟨comI r n, w, t⟩ = addR r n (comC r n w t) := by
 rw [a1h] at h
 rw [b4d ((a0V r).1 h).2.1]; rfl
theorem a4q {r : RepoD} {n w : Str} {t : List FileD} : a1c r n w t = if a0G r then (if a0G (cmL r n ⟨comI r n, w, t⟩) then (cmL r n ⟨comI r n, w, t⟩, true) else (r, false)) else (noR, false) := by
 unfold a1c
 by_cases h : a0G r = true
 ·rw [if_pos h, if_pos (by rw [<- a1h]; exact h), d1O h, a1h]
 ·rw [if_neg h, if_neg (by rw [<- a1h]; exact h)]; rfl
theorem a5c {r : RepoD} {n : Str} {a : Int} : a0Q r n a = if a0G r then (if 0 <= atL r.heads n then (r, false) else if a0G ⟨r.commits, ptL r.heads n a⟩ then (⟨r.commits, ptL r.heads n a⟩, true) else (r, false)) else (noR, false) := by
 unfold a0Q
 by_cases h : a0G r = true
 ·have h' : a0w r = true := by rw [<- a1h]; exact h
  rw [if_pos h, if_pos h', b7U ((a0V r).1 h').2.1, a1h]
  by_cases h1 : 0 <= atL r.heads n
  ·rw [if_pos h1, if_pos (.inl h1)]
  ·rw [if_neg h1]
   by_cases h2 : a0w ⟨r.commits, hSet r.heads n a⟩ = true
   ·rw [if_pos h2, if_neg]
    rintro (q | q)
    ·exact h1 q
    ·rw [h2] at q; cases q
   ·rw [if_neg h2, if_pos (.inr (by simpa using h2))]
 ·rw [if_neg h, if_neg (by rw [<- a1h]; exact h)]; rfl
theorem c8w {r : RepoD} (h : a0G r = true) {n w : Str} (h1 : 0 <= atL r.heads n) {o b : List FileD} (ho : a0D o = true) (hb : a0D b = true) :
  a3q r n w o b = if (a1s o (a0F r (atL r.heads n)) b).2 then
   (if a0G (cmL r n ⟨[atL r.heads n], w, (a1s o (a0F r (atL r.heads n)) b).1⟩) then (cmL r n ⟨[atL r.heads n], w, (a1s o (a0F r (atL r.heads n)) b).1⟩, 0) else (r, 5))
   else (r, 4) := by
 have hlt := b0G h h1
 unfold a3q
 rw [b0f ho (a3H h ⟨h1, hlt⟩) hb]
 have hS := h
 rw [a1h] at hS
 have hH := ((a0V r).1 hS).2.1
 by_cases hj : (a1n o (a0F r (atL r.heads n)) b).2 = []
 ·rw [if_pos hj, if_pos hj]
  simp only [if_true]
  rw [b4d hH, a1h]
 ·rw [if_neg hj, if_neg hj]
  simp
theorem c0J {r : RepoD} (h : a0G r = true) {c : Int} (hc : 0 <= c /\ c < r.commits.length) : a0D (a2t r c) = true := by
 have hi : c.toNat < r.commits.length := by omega
 obtain ⟨_, h2, _⟩ := a2E h hi
 have hg : r.commits.getD c.toNat default = r.commits[c.toNat] := by simp [List.getD_eq_getElem?_getD, hi]
 unfold a2t
 rw [hg]
 cases hp : r.commits[c.toNat].parents with
 | nil => rfl
 | cons p ps =>
  have := h2 p (by rw [hp]; simp)
  exact a3H h ⟨this.1, by omega⟩
theorem pS_1 {r : RepoD} (h : a0G r = true) {back : Bool} {n w : Str} {c : Int} (hx : atL r.heads n < 0 \/ a0X w = false \/ ¬ (0 <= c /\ c < r.commits.length)) : a1D back r n w c = (r, 1) := by
 unfold a1D; rw [if_pos (by rw [<- a1h]; exact h), if_pos hx]
theorem d2J {r : RepoD} (h : a0G r = true) {back : Bool} {n w : Str} {c : Int} (h1 : 0 <= atL r.heads n) (h2 : a0X w = true) (h3 : 0 <= c /\ c < r.commits.length) :
  a1D back r n w c = if back then a3q r n w (a0F r c) (a2t r c) else a3q r n w (a2t r c) (a0F r c) := by
 unfold a1D
 rw [if_pos (by rw [<- a1h]; exact h), if_neg]
 rintro (q | q | q)
 ·omega
 ·rw [h2] at q; cases q
 ·exact q h3
--TAB a2K
def a4Z (r : RepoD) (n : Int) : List FileD := if n < 0 then [] else a0F r n
def a9V : Con := .fn 13 (RepoD × Int) (fun a => [a1e a.1, .int .i64 a.2]) (fun a => -1 <= a.2 /\ a.2 < a.1.commits.length) (fun a => .sl true 2 (a0a (a4Z a.1 a.2))) (fun _ => [])
theorem b5n : Has Tryz.prog 84 a9V := by
 refine a0d mixed a2q HasL.nil [0, 1, 2, 4] ((fun a n (_ : Nat) => (fun _ => a0E) a n)) [] Tryz.func84 (by unfold Tryz.f84; rfl) (fun _ => ⟨(), trivial⟩) ?_
 intro a ha
 obtain ⟨r, n⟩ := a
 obtain ⟨h1, h2⟩ : -1 <= n /\ n < r.commits.length := ha
 by_cases h0 : n < 0
 ·have e : a4Z r n = [] := by unfold a4Z; rw [if_pos h0]
  simp -implicitDefEqProofs [a9V, Con.fn, a2K, tTab, e, h1, h2]
  try dsimp only
  exact fun h => absurd h (by omega)
 ·have hi : n.toNat < r.commits.length := by omega
  have e : Option.map a0H r.commits[n.toNat]? = some (a0H r.commits[n.toNat]) := by simp -implicitDefEqProofs [hi]
  have e2 : a4Z r n = r.commits[n.toNat].tree := by unfold a4Z a0F; rw [if_neg h0]; simp -implicitDefEqProofs [List.getD_eq_getElem?_getD, hi]
  simp -implicitDefEqProofs [a9V, Con.fn, a2K, tTab, e, e2, a0H, hi, h1, h2]
  try dsimp only
  exact fun h => absurd h h0
theorem c6E (r : RepoD) (a : Int) (h : ∀ p ∈ (r.commits.getD a.toNat default).parents, 0 <= p) : a2t r a = a4Z r (a5F r a) := by
 unfold a2t a5F
 cases hp : (r.commits.getD a.toNat default).parents with
 | nil => rfl
 | cons p l =>
  have := h p (by rw [hp]; simp)
  show a0F r p = a4Z r p
  unfold a4Z
  rw [if_neg (by omega)]
theorem c9J {r : RepoD} (h : a0G r = true) {a : Int} (h0 : 0 <= a) (h1 : a < r.commits.length) : a2t r a = a4Z r (a5F r a) := c6E r a fun p hp => by
 have hc : a.toNat < r.commits.length := by omega
 exact ((a2E h hc).2.1 p (by simpa [List.getD_eq_getElem?_getD, hc] using hp)).1
--TAB a0R
abbrev oR (x : RepoD × Int) : AV := .tup [.agg [.own 8 3 (a0h x.1.commits), .own 9 2 (a0c x.1.heads)], .int .i64 x.2]
abbrev oRf (x : RepoD × Int) : List (Nat × Blk) := a2d 8 x.1.commits ++ a2o 9 x.1.heads
def b6z : Con := .fn 49 (RepoD × Str × Str × List FileD × List FileD) (fun a => [a1e a.1, .str a.2.1, .str a.2.2.1, .sl true 2 (a0a a.2.2.2.1), .sl true 2 (a0a a.2.2.2.2)]) (fun a => a0G a.1 = true /\ 0 <= atL a.1.heads a.2.1 /\ a0D a.2.2.2.1 = true /\ a0D a.2.2.2.2 = true) (fun a => oR (a3q a.1 a.2.1 a.2.2.1 a.2.2.2.1 a.2.2.2.2)) (fun a => oRf (a3q a.1 a.2.1 a.2.2.1 a.2.2.2.1 a.2.2.2.2))
theorem c3y : Has Tryz.prog 135 b6z := by
 refine a0d mixed a0M (HasL.cons a5R (HasL.cons b0B (HasL.cons b0g (HasL.cons a4d (HasL.cons a8U (HasL.cons a6u HasL.nil)))))) [0, 1, 2, 3, 4, 5, 10, 11, 12, 13, 14, 15] ((fun a n (_ : Nat) => (fun _ => a0E) a n)) [16417, 16425, 16426] Tryz.func135 (by unfold Tryz.f135; rfl) (fun _ => ⟨(), trivial⟩) ?_
 intro a ha
 obtain ⟨r, n, w, o, b⟩ := a
 obtain ⟨h1, h2, h3, h4⟩ : a0G r = true /\ 0 <= atL r.heads n /\ a0D o = true /\ a0D b = true := ha
 simp (maxSteps := 8000000) [-kStep_move, -kStepC_move, -Bool.exists_bool, b6z, cAtI, a9W, a7v, a5A, a7T, b0b, a7e, a4p, Con.fn, a0R, tTab, a0I]
 try dsimp only
 try simp only [and_assoc, exists_eq_left, exists_and_left, RepoD.ex1, RepoD.eta]
 obtain ⟨hz, hp⟩ := a3W h1
 have hn := a3V h1
 have hlt := b0G h1 h2
 have ht := a3H h1 ⟨h2, hlt⟩
 have hP := c8w h1 h2 h3 h4 (n := n) (w := w)
 have ta : a0F r (atL r.heads n) = (r.commits[(atL r.heads n).toNat]?.getD default).tree := by unfold a0F; rw [List.getD_eq_getElem?_getD]
 have jt := @a8b o (a0F r (atL r.heads n)) b
 rw [ta] at hP ht jt
 rw [hP]
 generalize a1s o (r.commits[(atL r.heads n).toNat]?.getD default).tree b = J at *
 refine ⟨h2, hlt, a6b h3, a6b ht, a6b h4, fun hj => ?_, fun hj => ⟨hz, [atL r.heads n], rfl, trivial, trivial, rfl, hz.2.2, hz.1, (b1h jt).1, (b1h jt).2, trivial, trivial, hz, c3P h1 jt, ?_⟩⟩
 ·rw [if_neg (by simp -implicitDefEqProofs [hj])]; exact ⟨hz, rfl, rfl, rfl, rfl, rfl⟩
 ·rw [if_pos hj]
  exact ⟨fun h => by simp -implicitDefEqProofs [h], fun h => by simp -implicitDefEqProofs [h]⟩
def b6K : Con := .fn 50 (RepoD × Str × Str × Int × Bool) (fun a => [a1e a.1, .str a.2.1, .str a.2.2.1, .int .i64 a.2.2.2.1, .bool a.2.2.2.2]) (fun a => a0G a.1 = true) (fun a => oR (a1D a.2.2.2.2 a.1 a.2.1 a.2.2.1 a.2.2.2.1)) (fun a => oRf (a1D a.2.2.2.2 a.1 a.2.1 a.2.2.1 a.2.2.2.1))
theorem c5C : Has Tryz.prog 89 b6K := by
 refine a0d mixed a0M (HasL.cons a5R (HasL.cons a4T (HasL.cons a8V (HasL.cons a4d (HasL.cons c4a (HasL.cons b5n (HasL.cons c3y HasL.nil))))))) [0, 1, 2, 3, 4, 5, 10, 11, 12, 13] ((fun a n (_ : Nat) => (fun _ => a0E) a n)) [] Tryz.func89 (by unfold Tryz.f89; rfl) (fun _ => ⟨(), trivial⟩) ?_
 intro a ha
 obtain ⟨r, n, w, c, k⟩ := a
 replace ha : a0G r = true := ha
 simp (maxSteps := 8000000) [-kStep_move, -kStepC_move, -Bool.exists_bool, b6K, cAtI, a5m, a7U, a5A, b6B, a9V, b6z, Con.fn, a0R, tTab, a0I]
 try dsimp only
 try simp only [and_assoc, exists_eq_left, exists_and_left, RepoD.ex1, RepoD.eta]
 obtain ⟨hz, hp⟩ := a3W ha
 have hn := a3V ha
 refine ⟨fun h h' => ⟨h, h', by omega⟩, ?_, fun _ => ⟨fun h => ?_, fun c1 c2 c3 c4 => ?_⟩⟩
 ·rcases Int.lt_or_le (atL r.heads n) 0 with h | h
  ·exact .inl (.inl h)
  ·cases hw : a0X w with
   | false => exact .inl (.inr rfl)
   | true => exact .inr ⟨h, rfl⟩
 ·rw [pS_1 ha (by rcases h with (h | h) | h | h; exact .inl h; exact .inr (.inl h); exact .inr (.inr (by omega)); exact .inr (.inr (by omega)))]
  exact ⟨hz, rfl, rfl, rfl, rfl, rfl⟩
 ·have hc : c < r.commits.length := by omega
  obtain ⟨f1, f2⟩ := c7k ha c3 hc
  have e1 : a4Z r c = a0F r c := by unfold a4Z; rw [if_neg (by omega)]
  have e2 := c9J ha c3 hc
  have g := d2J ha (back := k) c1 c2 ⟨c3, hc⟩
  have t1 := a3H ha ⟨c3, hc⟩
  have t2 := c0J ha ⟨c3, hc⟩
  rw [e1, <- e2, g]
  refine ⟨c3, hc, f1, by omega, by omega, hc, fun hk => ?_, fun hk => ?_⟩
  ·rw [hk]; exact ⟨ha, c1, t1, t2, rfl, rfl, rfl, rfl, rfl⟩
  ·rw [hk]; exact ⟨ha, c1, t2, t1, rfl, rfl, rfl, rfl, rfl⟩
--TAB a0R
def a9X : Con := .fn 22 (List FileD × FileD) (fun a => [.sl true 2 (a0a a.1), .agg [.str a.2.path, .sl true 1 (a0b a.2.text)]]) (fun a => okSz a.1 /\ a.2.text.length <= 1048576 /\ a.2.path.length <= 1048576) (fun a => .tup [.own 8 2 (a0a (a5g a.1 a.2).1), .bool (a5g a.1 a.2).2]) (fun a => a1T 8 (a5g a.1 a.2).1)
theorem b8u : Has Tryz.prog 40 a9X := by
 refine a0d mixed a0M (HasL.cons a4h (HasL.cons c0r (HasL.cons b1k HasL.nil))) [0, 1, 3, 4, 5, 6] ((fun a n (_ : Nat) => (fun _ => a0E) a n)) [] Tryz.func40 (by unfold Tryz.f40; rfl) (fun _ => ⟨(), trivial⟩) ?_
 intro a ha
 obtain ⟨t, f⟩ := a
 obtain ⟨h1, h4, h5⟩ : okSz t /\ f.text.length <= 1048576 /\ f.path.length <= 1048576 := ha
 simp (maxSteps := 8000000) -implicitDefEqProofs [-kStep_move, -kStepC_move, -Bool.exists_bool, a9X, a4M, cPut, a8z, Con.fn, a0R, tTab]
 try dsimp only
 obtain ⟨k1, k2, k3⟩ := h1
 refine ⟨k3, fun h => ?_, fun h => ⟨t, f, ⟨rfl, rfl, rfl⟩, ⟨⟨k1, k2⟩, h4⟩, t, (putI t f).1, ⟨rfl, rfl⟩, rfl, ⟨⟨k1, k2⟩, fun g hg => ?_⟩, ?_⟩⟩
 ·unfold a5g; rw [if_neg (by simp -implicitDefEqProofs [h])]; exact ⟨⟨rfl, rfl⟩, rfl⟩
 ·rcases b7W t f g hg with q | rfl
  ·exact k3 g q
  ·omega
 ·unfold a5g; rw [if_pos h]
  by_cases q : a0D (putI t f).1 = true
  ·rw [if_pos q, if_pos q]; exact ⟨⟨rfl, q.symm⟩, rfl⟩
  ·rw [if_neg q, if_neg q]; exact ⟨⟨rfl, by simpa using q⟩, rfl⟩
def a8M : Con := .fn 34 (List FileD × Str) (fun a => [.sl true 2 (a0a a.1), .str a.2]) (fun a => okSz a.1 /\ a.2.length <= 536870912) (fun a => .tup [.own 8 2 (a0a (a3I a.1 a.2).1), .bool (a3I a.1 a.2).2]) (fun a => a1T 8 (a3I a.1 a.2).1)
theorem b5J : Has Tryz.prog 86 a8M := by
 refine a0d mixed a0M (HasL.cons a4h (HasL.cons a2M (HasL.cons b7k HasL.nil))) [0, 1, 4, 5, 6, 8, 13, 14, 15] ((fun a n (_ : Nat) => (fun a _ => ⟨Nat, fun i => ⟨[(0, true, .sl true 2 (a0a a.1)), (1, true, .str a.2), (4, true, .nil), (5, true, .bool false), (6, true, .own 9 2 (a0a (filB (a1B a.2) (a.1.take i)))), (13, true, .own 10 2 (a4b (a1B a.2) a.1 i)), (14, true, .int .i64 a.1.length), (15, true, .int .i64 i)], [(9, .own 66 2 true (a0a (filB (a1B a.2) (a.1.take i)))), (10, .own 66 2 true (a4b (a1B a.2) a.1 i))]⟩, fun i => i <= a.1.length /\ a0D a.1 = true, fun i => a.1.length - i⟩) a n)) [25] Tryz.func86 (by unfold Tryz.f86; rfl) (fun _ => ⟨(), trivial⟩) ?_
 intro a ha
 obtain ⟨t, q⟩ := a
 obtain ⟨h1, h2⟩ : okSz t /\ q.length <= 536870912 := ha
 simp -implicitDefEqProofs [a8M, a4M, a3e, b5T, Con.fn, a0R, tTab]
 try dsimp only
 obtain ⟨k1, k2, k3⟩ := h1
 generalize hp : a1B q = p
 have hpv : ∀ f : FileD, atB f.path q = !p f := fun f => by rw [<- hp]; simp -implicitDefEqProofs [a1B]
 have hI : a0D t = true -> a3I t q = (filB p t, decide ((filB p t).length < t.length)) := fun h => by unfold a3I; rw [if_pos h, hp]
 have hF : a0D t = false -> a3I t q = ([], false) := fun h => by unfold a3I; rw [if_neg (by simp -implicitDefEqProofs [h])]
 refine ⟨k3, fun h => by rw [hF h]; exact ⟨⟨rfl, rfl⟩, rfl⟩, fun hT => ⟨⟨k1, k2⟩, fun _ => ⟨⟨0, by simp -implicitDefEqProofs [c1t, b9Y, hT]⟩, fun i hi _ => ⟨fun hlt => ?_, fun hge _ _ => ?_⟩⟩⟩⟩
 ·have g1 := c4g (p := p) hlt
  have g2 := c4i p t i
  have g3 := c3Y p t i
  have g5 : (a4b p t i)[i]'(by rw [g2]; exact hlt) = a0r t[i] := by
   have := g1
   rw [List.getElem?_eq_getElem (by rw [g2]; exact hlt)] at this
   exact Option.some.inj this
  simp -implicitDefEqProofs [g1, g5, g2, a0r, D.asStr, D.asRows, hlt, and_assoc]
  refine ⟨h2, fun hh => ⟨by omega, by omega, by omega, by omega, fun _ _ => ?_⟩, fun hh => ⟨by omega, by omega, fun _ _ => ?_⟩⟩
  ·have hh : p t[i] = true := by have := hpv t[i]; rw [hh] at this; simpa using this.symm
   have e1 := b4f (p := p) hlt hh
   have e2 := c4h (p := p) hlt hh
   have e3 : a0a (filB p (t.take (i + 1))) = a0a (filB p (t.take i)) ++ [[D.str t[i].path, D.sl 9 1 (a0b t[i].text)]] := by rw [e1, a0e]; rfl
   exact ⟨i + 1, e3, e2.symm, by omega, e3.symm, e2, by omega, hT, by omega⟩
  ·have hh : p t[i] = false := by have := hpv t[i]; rw [hh] at this; simpa using this.symm
   have e1 := b1V (p := p) hlt hh
   have e2 := c1s (p := p) hlt hh
   exact ⟨i + 1, e1, e2, by omega, e1.symm, e2.symm, by omega, hT, by omega⟩
 ·rw [hI hT, List.take_of_length_le hge]; exact ⟨⟨rfl, rfl⟩, rfl⟩
def anyA (p : Str) (t : List FileD) (i : Nat) : Bool := (t.take i).any fun f => atB f.path p
theorem c3x (p : Str) (t : List FileD) : anyA p t 0 = false := rfl
theorem c3w {p : Str} {t : List FileD} {i : Nat} (h : i < t.length) : anyA p t (i + 1) = (anyA p t i || atB t[i].path p) := by unfold anyA; rw [a0y h, List.any_append]; simp
theorem d0Q {o : List FileD} {f : FileD} (h : Srt (o ++ [f])) : (putI o f).1 = o ++ [f] := by
 have := c7r (o := o) (l := [f]) h
 simpa [inP] using this
theorem d1L {p q : Str} (h : atB p q = true) : q.length <= p.length := by
 unfold atB at h
 simp only [Bool.or_eq_true, decide_eq_true_eq] at h
 rcases h with rfl | h
 ·exact Nat.le_refl _
 ·unfold a5K at h
  simp only [Bool.and_eq_true, decide_eq_true_eq, List.length_append] at h
  omega
def mvA (a : List FileD × Str × Str) : Inv := ⟨Nat, fun i => ⟨[(0, true, .sl true 2 (a0a a.1)), (1, true, .str a.2.1), (2, true, .str a.2.2), (6, true, .nil), (7, true, .bool false), (8, true, .own 9 2 (a0a (filB (a1B a.2.1) (a.1.take i)))), (9, true, .bool false), (19, true, .sl true 2 (a0a a.1)), (20, true, .int .i64 a.1.length), (21, true, .int .i64 i)], [(9, .own 66 2 true (a0a (filB (a1B a.2.1) (a.1.take i))))]⟩, fun i => i <= a.1.length /\ a0D a.1 = true, fun i => a.1.length - i⟩
def mvB (a : List FileD × Str × Str) : Inv := ⟨Nat × List FileD, fun x => ⟨[(0, true, .sl true 2 (a0a a.1)), (1, true, .str a.2.1), (2, true, .str a.2.2), (6, true, .nil), (7, true, .bool false), (8, true, .own 9 2 (a0a x.2)), (9, true, .bool (anyA a.2.1 a.1 x.1)), (36, true, .sl true 2 (a0a a.1)), (37, true, .int .i64 a.1.length), (38, true, .int .i64 x.1)], [(9, .own 66 2 true (a0a x.2))]⟩,
 fun x => x.1 <= a.1.length /\ a0D a.1 = true /\ mvI a.2.1 a.2.2 (a.1.drop x.1) x.2 = mvI a.2.1 a.2.2 a.1 (filB (a1B a.2.1) a.1) /\ x.2.length <= 8 + x.1 /\ ∀ f ∈ x.2, f.text.length <= 1048576 /\ f.path.length <= 4194304, fun x => a.1.length - x.1⟩
def c2t (a : List FileD × Str × Str) (n _g : Nat) : Inv := if n = 5 then mvA a else mvB a
theorem d0D (a : List FileD × Str × Str) (g : Nat) : c2t a 5 g = mvA a := rfl
theorem c7Z (a : List FileD × Str × Str) (g : Nat) : c2t a 11 g = mvB a := rfl
def a8O : Con := .fn 81 (List FileD × Str × Str) (fun a => [.sl true 2 (a0a a.1), .str a.2.1, .str a.2.2]) (fun a => okSz a.1 /\ a.2.1.length <= 1048576 /\ a.2.2.length <= 1048576) (fun a => .tup [.own 8 2 (a0a (a2U a.1 a.2.1 a.2.2).1), .bool (a2U a.1 a.2.1 a.2.2).2]) (fun a => a1T 8 (a2U a.1 a.2.1 a.2.2).1)
theorem b5L : Has Tryz.prog 87 a8O := by
 refine a0d mixed a0M (HasL.cons a4h (HasL.cons a2M (HasL.cons b7k (HasL.cons c0r (HasL.cons b1k (HasL.cons a6K HasL.nil)))))) [0, 1, 2, 6, 7, 8, 9, 11, 13, 14, 15, 19, 20, 21, 36, 37, 38] (fun a => c2t a) [] Tryz.func87 (by unfold Tryz.f87; rfl) (fun _ => ⟨(), trivial⟩) ?_
 intro a ha
 obtain ⟨t, q, to⟩ := a
 obtain ⟨h1, h2, h3⟩ : okSz t /\ q.length <= 1048576 /\ to.length <= 1048576 := ha
 simp (maxSteps := 8000000) -implicitDefEqProofs [-kStep_move, -kStepC_move, -Bool.exists_bool, a8O, a4M, a3e, b5T, cPut, a8z, a6Q, Con.fn, a0R, tTab, d0D, c7Z, mvA, mvB]
 try dsimp only
 obtain ⟨k1, k2, k3⟩ := h1
 have hF : a0D t = false -> a2U t q to = ([], false) := fun h => by unfold a2U; rw [if_neg (by simp -implicitDefEqProofs [h])]
 refine ⟨k3, fun h => by rw [hF h]; exact ⟨⟨rfl, rfl⟩, rfl⟩, fun hT _ => ⟨⟨0, by simp -implicitDefEqProofs [b9Y, hT]⟩, fun i hi _ => ⟨fun hlt => ⟨hlt, fun _ => ?_⟩, fun hge _ => ?_⟩⟩⟩
 ·have e1 : Option.map a0r t[i]? = some (a0r t[i]) := by simp -implicitDefEqProofs [hlt]
  have hs := b2o hT
  have hst : a1B q t[i] = true -> (putI (filB (a1B q) (t.take i)) t[i]).1 = filB (a1B q) (t.take (i + 1)) := fun hd => by
   have e := b4f (p := a1B q) hlt hd
   rw [e]; exact d0Q (by rw [<- e]; exact (hs.sublist (List.take_sublist _ _)).filter _)
  have hms := b1V (p := a1B q) hlt
  have hd : a1B q t[i] = !atB t[i].path q := rfl
  have m1 : (filB (a1B q) (t.take i)).length <= 1048576 := by have := c3Y (a1B q) t i; omega
  have m2 : ∀ f ∈ filB (a1B q) (t.take i), f.text.length <= 1048576 := fun f hf => k2 f (List.mem_of_mem_take (List.mem_filter.1 hf).1)
  have m3 := k2 t[i] (List.getElem_mem hlt)
  rw [e1]
  generalize t[i] = f at *
  simp -implicitDefEqProofs [a0r, D.asStr, D.asRows]
  refine ⟨f, q, ⟨⟨rfl, rfl⟩, rfl⟩, by omega, fun hh => ⟨_, f, ⟨rfl, rfl, rfl⟩, ⟨⟨m1, m2⟩, m3⟩, ⟨by omega, by omega⟩, fun _ _ => ⟨i + 1, ⟨⟨?_, by omega⟩, ?_⟩, ⟨by omega, hT⟩, by omega⟩⟩, fun hh => ⟨⟨by omega, by omega⟩, fun _ _ => ⟨i + 1, ⟨⟨?_, by omega⟩, ?_⟩, ⟨by omega, hT⟩, by omega⟩⟩⟩
  ·exact (hst (by rw [hd, hh]; rfl)).symm
  ·exact hst (by rw [hd, hh]; rfl)
  ·exact hms (by rw [hd, hh]; rfl)
  ·exact (hms (by rw [hd, hh]; rfl)).symm
 ·have hlen := (a9o t hT).1
  refine ⟨⟨0, filB (a1B q) t, ⟨⟨by rw [List.take_of_length_le hge], c3x q t, rfl⟩, by rw [List.take_of_length_le hge]⟩, Nat.zero_le _, hT, rfl, ?_, ?_⟩, fun j o hj _ hm hol hob => ⟨fun hlt => ⟨hlt, fun _ => ?_⟩, fun hge2 => ?_⟩⟩
  ·have := List.length_filter_le (a1B q) t; unfold filB; omega
  ·intro f hf
   have hf := (List.mem_filter.1 hf).1
   have := k3 f hf
   exact ⟨k2 f hf, by have := (a4w hT f hf).1.2; omega⟩
  ·have e1 : Option.map a0r t[j]? = some (a0r t[j]) := by simp -implicitDefEqProofs [hlt]
   have hst := c7Y (p := q) (to := to) (o := o) hlt
   rw [hm] at hst
   have ha := c3w (p := q) hlt
   have m3 := k2 t[j] (List.getElem_mem hlt)
   have m4 := (a4w hT t[j] (List.getElem_mem hlt)).1.2
   rw [e1]
   generalize t[j] = f at *
   simp -implicitDefEqProofs [a0r, D.asStr, D.asRows]
   have hd : f.path.length - q.length = (f.path.drop q.length).length := by simp
   refine ⟨f, q, ⟨⟨rfl, rfl⟩, rfl⟩, by omega, fun hh => ⟨⟨by omega, by omega⟩, fun _ _ => ⟨j + 1, o, ⟨⟨rfl, by rw [ha, hh]; simp, by omega⟩, rfl⟩, ⟨by omega, hT, by rw [hst, if_neg (by simp -implicitDefEqProofs [hh])], by omega, hob⟩, by omega⟩⟩, fun hh => ?_⟩
   have hle := d1L hh
   rw [if_pos hh] at hst
   have hM : maxLen = 9223372036854775807 := rfl
   refine ⟨hle, fun _ => ⟨by omega, fun _ => ⟨o, ⟨to ++ f.path.drop q.length, f.text⟩, ⟨rfl, by rw [hd, List.take_length], rfl⟩, ⟨⟨by omega, fun g hg => (hob g hg).1⟩, m3⟩, fun hp => ⟨⟨k1, k2⟩, ?_⟩, fun hp => ⟨⟨by omega, by omega⟩, fun _ _ => ⟨j + 1, _, ⟨⟨rfl, by rw [ha, hh]; simp, by omega⟩, rfl⟩, ⟨by omega, hT, ?_, ?_, fun g hg => ?_⟩, by omega⟩⟩⟩⟩⟩
   ·rw [if_neg (by simp -implicitDefEqProofs [hp])] at hst
    have : a2U t q to = (t, false) := by unfold a2U; rw [if_pos hT, hst]
    rw [this]; exact ⟨⟨rfl, rfl⟩, rfl⟩
   ·rw [if_pos hp] at hst; exact hst.symm
   ·have := c8x o ⟨to ++ f.path.drop q.length, f.text⟩; omega
   ·rcases b7W _ _ g hg with hg | rfl
    ·exact hob g hg
    ·refine ⟨m3, ?_⟩
     show (to ++ f.path.drop q.length).length <= 4194304
     simp; omega
  ·have hx := d0C (p := q) (to := to) (o := o) hge2
   rw [hm] at hx
   have hall : anyA q t j = t.any fun f => atB f.path q := by unfold anyA; rw [List.take_of_length_le hge2]
   have hT2 : a2U t q to = if (t.any fun f => atB f.path q) = false \/ a3o to = false then (t, false) else if a0D o then (o, true) else (t, false) := by unfold a2U; rw [if_pos hT, hx]
   rw [<- hall] at hT2
   refine ⟨fun h => ⟨h, by omega⟩, fun h => ?_, fun h h' => ⟨t, o, ⟨rfl, rfl⟩, rfl, ⟨⟨k1, k2⟩, fun f hf => by have := (hob f hf).2; omega⟩, ?_⟩⟩
   ·rw [hT2, if_pos h]; exact ⟨⟨k1, k2⟩, ⟨rfl, rfl⟩, rfl⟩
   ·rw [hT2, if_neg (by simp -implicitDefEqProofs [h, h'])]
    by_cases g : a0D o = true
    ·rw [if_pos g, if_pos g]; exact ⟨⟨rfl, g.symm⟩, rfl⟩
    ·rw [if_neg g, if_neg g]; exact ⟨⟨rfl, by simpa using g⟩, rfl⟩
end Vx
end Go.Proofs.YtokdjnbcdokpjabGreatDoor
/-
  DERIVED: THE SHELF's CONTRACTS AT THIS DUMP, IN PLAIN WORDS (tools/lay-plain.mjs out of 'YtokdjnbcdokpjabGreatDoorShelf.lean', which tools/lay-shelf.mjs wrote): THE SAME DECLARATIONS UNDER THE SAME NAMES: 'import', 'namespace', 'open', 'def', 'theorem' AND NOTHING ELSE: no command of the shelf's: FOR A HAND-IN. Each laying: the table of numbers ('.._ren') and one theorem, a field a fact of the dump's own or the kernel's comparison; each contract: ONE APPLICATION.
-/
namespace Go.Proofs
open Go.Shelf
def Tryz.laysJoin_ren : Go.Shelf.Ren := ⟨fun | 156 => 131 | 165 => 170 | 166 => 171 | 169 => 172 | 240 => 191 | 241 => 192 | 276 => 209 | 277 => 210 | n => n, fun | 31 => 26 | 9 => 9 | 3 => 3 | 4 => 4 | 0 => 0 | 20 => 20 | 72 => 177 | 76 => 181 | 70 => 175 | 37 => 44 | 75 => 180 | 127 => 202 | 164 => 216 | 5 => 5 | 80 => 183 | n => n, fun | n => n⟩
theorem Tryz.laysJoin : Go.Proofs.Lays.n156 Tryz.prog Tryz.laysJoin_ren := {
  mixed := by kernel_rfl
  f156 := Tryz.func131.trans (congrArg some (by kernel_rfl))
  f165 := Tryz.func170.trans (congrArg some (by kernel_rfl))
  f166 := Tryz.func171.trans (congrArg some (by kernel_rfl))
  f169 := Tryz.func172.trans (congrArg some (by kernel_rfl))
  f240 := Tryz.func191.trans (congrArg some (by kernel_rfl))
  f241 := Tryz.func192.trans (congrArg some (by kernel_rfl))
  f276 := Tryz.func209.trans (congrArg some (by kernel_rfl))
  f277 := Tryz.func210.trans (congrArg some (by kernel_rfl))
  t0 := Tryz.underlying0
  a0 := Tryz.isAgg0
  z0 := Tryz.sizeOf0
  v0 := Tryz.zeroValue0
  t3 := Tryz.underlying3
  a3 := Tryz.isAgg3
  z3 := Tryz.sizeOf3
  v3 := Tryz.zeroValue3
  t4 := Tryz.underlying4
  a4 := Tryz.isAgg4
  z4 := Tryz.sizeOf4
  v4 := Tryz.zeroValue4
  t9 := Tryz.underlying9
  a9 := Tryz.isAgg9
  z9 := Tryz.sizeOf9
  v9 := Tryz.zeroValue9
  t20 := Tryz.underlying20
  a20 := Tryz.isAgg20
  z20 := Tryz.sizeOf20
  v20 := Tryz.zeroValue20
  t31 := Tryz.underlying26
  a31 := Tryz.isAgg26
  z31 := Tryz.sizeOf26
  v31 := Tryz.zeroValue26
  t37 := Tryz.underlying44
  a37 := Tryz.isAgg44
  z37 := Tryz.sizeOf44
  v37 := Tryz.zeroValue44
  t70 := Tryz.underlying175
  a70 := Tryz.isAgg175
  z70 := Tryz.sizeOf175
  v70 := Tryz.zeroValue175
  t72 := Tryz.underlying177
  a72 := Tryz.isAgg177
  z72 := Tryz.sizeOf177
  v72 := Tryz.zeroValue177
  t75 := Tryz.underlying180
  a75 := Tryz.isAgg180
  z75 := Tryz.sizeOf180
  v75 := Tryz.zeroValue180
  t76 := Tryz.underlying181
  a76 := Tryz.isAgg181
  z76 := Tryz.sizeOf181
  v76 := Tryz.zeroValue181
  t127 := Tryz.underlying202
  a127 := Tryz.isAgg202
  z127 := Tryz.sizeOf202
  v127 := Tryz.zeroValue202
  t164 := Tryz.underlying216
  a164 := Tryz.isAgg216
  z164 := Tryz.sizeOf216
  v164 := Tryz.zeroValue216 }
theorem Tryz.laysJoinX : Builder.Extra Tryz.prog Tryz.laysJoin_ren := {
  sizeBuilder := by kernel_rfl
  liesBuilder := by kernel_rfl
  t5 := Tryz.underlying5
  a5 := Tryz.isAgg5
  z5 := Tryz.sizeOf5
  v5 := Tryz.zeroValue5
  infoByte := by kernel_rfl
  cellsByte := by kernel_rfl
  sizeByte := by kernel_rfl
  neB5 := by decide }
end Go.Proofs
namespace Go.Proofs.YtokdjnbcdokpjabGreatDoor
set_option maxHeartbeats 4000000
namespace Vx
open Go.RowKit Go.Shelf
set_option maxRecDepth 8000
theorem b0t {q : Bool} {w : World} : ∀ {l : List Str} {vs f}, RdL q w (a0b l).flatten vs f -> vs = l.map (fun s => Value.string ⟨s.toArray⟩)
 | [], vs, f, h => by cases h; rfl
 | s :: l, vs, f, h => by
  cases h with
  | str h1 h2 => rw [b0t (l := l) h2]; rfl
def c3L : Con := .fn 75 (List Str) (fun l => [.sl true 1 (a0b l), .str []]) (fun l => l.length <= 1048576 /\ l.flatten.length <= 1073741824) (fun l => .str l.flatten) (fun _ => [])
theorem b4R (l : List Str) : Lib.join l [] = l.flatten := by
 unfold Lib.join
 induction l with
 | nil => rfl
 | cons x l ih =>
  cases l with
  | nil => simp [List.intercalate]
  | cons y l => simp [List.intercalate] at ih ⊢; exact ih
set_option maxHeartbeats 1000000 in
theorem c1I {w : World} {l : List Str} {v0 : Value} {e : Nat} {fp : List (Nat × Nat)} (h5 : RdL false w [D.sl e 1 (a0b l)] [v0] fp) (hp : l.length <= 1048576 /\ l.flatten.length <= 1073741824) :
  Calls Tryz.prog 131 #[v0, .string ⟨#[]⟩] w fun e w' => e = .returned (.string ⟨l.flatten.toArray⟩) /\ Below w.heap.size w w' := by
 rcases h5.open1 with ⟨h1, _, oa, cap, rfl, _⟩ | ⟨b, off, cap, cs, ty, fr, cvs, f1, rfl, g2, g3, g4, _, g6, g8, g9, _⟩
 ·have hl : l = [] := by simpa using h1
  subst hl
  refine (Any.strings_Join_none Tryz.laysJoin Tryz.laysJoinX oa cap ⟨#[]⟩ w).mono ?_
  rintro e w' ⟨rfl, rfl⟩
  exact ⟨rfl, Below.refl _ _⟩
 ·have hv := b0t g9
  rw [eStrs_length] at g2 g3 ⊢
  have hm : (l.map fun s : Str => (⟨s.toArray⟩ : ByteArray)).map (·.data.toList) = l := by simp [List.map_map, Function.comp_def]
  have hl : (l.map fun s : Str => (⟨s.toArray⟩ : ByteArray)).length = l.length := List.length_map _
  have hj := Any.strings_Join Tryz.laysJoin Tryz.laysJoinX b off cap (l.map fun s : Str => (⟨s.toArray⟩ : ByteArray)) ⟨#[]⟩ w (fun j x hx => by
   have hx2 := g8 j (.string x) (by rw [hv]; simp at hx ⊢; obtain ⟨s, q1, rfl⟩ := hx; exact ⟨s, q1, rfl⟩)
   simp only [World.cell?, g6]
   simpa using hx2) (Array.getElem?_eq_some_iff.1 g6).1 (by rw [hl]; omega) (by rw [hl]; omega) (by rw [hm]; exact Nat.le_trans (Nat.le_of_eq (congrArg List.length (b4R l))) (by omega))
  rw [hm] at hj
  rw [hl] at hj
  have e1 : Lib.join l [] = l.flatten := b4R l
  refine hj.mono ?_
  rintro e w' ⟨rfl, hw⟩
  exact ⟨by rw [<- e1], hw⟩
theorem c4B : Has Tryz.prog 131 c3L := by
 refine ⟨fun args w => Go.MuLone.run_callFunc_enter Tryz.func131 (by kernel_rfl) rfl args w, fun _ => ⟨(), trivial⟩, fun _ _ => rfl, ?_, trivial, .inl rfl⟩
 intro (l : List Str) (hp : l.length <= 1048576 /\ l.flatten.length <= 1073741824) c hky vs β fp hcn hpins hl1 hl2 S
 have hr := a5r hl1 S
 obtain ⟨v0, vs1, rfl, r0, hr⟩ := hr.uncons
 obtain ⟨v1, vs2, rfl, r1, hr⟩ := hr.uncons
 cases hr
 cases r1 with | str h1 h2 => ?_
 cases h2
 cases r0 with | sl h3 h4 => ?_
 cases h4
 obtain ⟨e, fp0, h5, h6⟩ := h3
 refine (c1I h5 hp).mono ?_
 rintro e w' ⟨rfl, hb⟩
 have hpp : c.pins = [] := hpins
 refine ⟨(), trivial, _, rfl, β, fp, ⟨Array.replicate c.n undef, []⟩, ⟨?_, ?_, ?_, ?_, ?_, S.fg, fun b hb' => ⟨(S.old b hb').1, (hb.block b (S.old b hb').1)⟩, hb.os, hb.tape, hb.output, hb.size, rfl, by simp, ?_⟩, ?_⟩
 ·intro t g av ht; cases ht
 ·intro h blk hm; cases hm
 ·intro h blk hm; cases hm
 ·intro h h' blk blk' hm; cases hm
 ·intro h blk hm; cases hm
 ·rw [hpp]; intro p hp; cases hp
 ·exact .str (by show l.flatten.length <= maxLen; have : maxLen = 9223372036854775807 := rfl; have := hp.2; omega) .lnil
theorem c4v (s : Str) (c : UInt8) : (idxB s c < 0) = (∀ b ∈ s, ¬ b = c) := by
 induction s with
 | nil => simp [idxB]
 | cons b l ih =>
  unfold idxB
  by_cases hb : b = c
  ·simp [hb]
  ·rw [if_neg hb]
   by_cases h : idxB l c < 0
   ·rw [if_pos h]; rw [ih] at h; simp [hb]; exact h
   ·rw [if_neg h]; rw [ih] at h
    have : ¬ (idxB l c + 1 < 0) := by rw [<- ih] at h; omega
    simp only [this, false_iff, eq_iff_iff]
    intro q; exact h fun x hx => q x (by simp [hx])
def a8A : Con := .fn 9 (Str × UInt8) (fun a => [.str a.1, .str [a.2]]) (fun _ => True) (fun a => .bool (decide (0 <= idxB a.1 a.2))) (fun _ => [])
theorem b5r : Has Tryz.prog 130 a8A := by
 refine a0d mixed a0g (HasL.cons a7q HasL.nil) [0, 1, 4] ((fun a n (_ : Nat) => (fun _ => a0E) a n)) [] Tryz.func130 (by unfold Tryz.f130; rfl) (fun _ => ⟨(), trivial⟩) ?_
 intro a _
 obtain ⟨s, b⟩ := a
 simp -implicitDefEqProofs [a8A, a6x, Con.fn, tTab]
 exact ⟨s, b, ⟨rfl, rfl⟩, Iff.rfl⟩
theorem c6P (t : List Str) : (idxB t.flatten 124 < 0) = (t.all barB = true) := by
 rw [c4v]
 simp only [List.mem_flatten, forall_exists_index, and_imp, List.all_eq_true, barB, decide_eq_true_eq, ne_eq, eq_iff_iff]
 exact ⟨fun h s hs b hb => h b s hs hb, fun h b s hs hb => h s hs b hb⟩
end Vx
end Go.Proofs.YtokdjnbcdokpjabGreatDoor
namespace Go.Proofs.YtokdjnbcdokpjabGreatDoor
set_option maxHeartbeats 4000000
namespace Vx
open Go.RowKit
set_option maxRecDepth 8000
--TAB a0R
def opSz (o : OpD) : Prop := o.path.length <= 1048576 /\ o.to_.length <= 1048576 /\ o.text.length <= 1048576
def b1G : Con := .fn 29 (RepoD × OpD × (List FileD × Bool)) (fun a => [a1e a.1, vOp a.2.1, .sl true 2 (a0a a.2.2.1), .bool a.2.2.2]) (fun a => rpSz a.1 /\ a.2.2.1.length <= 1048576 /\ ∀ f ∈ a.2.2.1, f.text.length <= 1048576) (fun a => .tup [.agg [.sl false 3 (a0h (a1S a.1 a.2.1 a.2.2).1.commits), .sl false 2 (a0c (a1S a.1 a.2.1 a.2.2).1.heads)], .int .i64 (a1S a.1 a.2.1 a.2.2).2]) (fun _ => [])
theorem b9f : Has Tryz.prog 124 b1G := by
 refine a0d mixed a0M (HasL.cons b4y HasL.nil) [0, 1, 2, 3, 4, 5, 8, 9, 10, 11] ((fun a n (_ : Nat) => (fun _ => a0E) a n)) [] Tryz.func124 (by unfold Tryz.f124; rfl) (fun _ => ⟨(), trivial⟩) ?_
 intro a ha
 obtain ⟨r, o, t, k⟩ := a
 obtain ⟨h1, h2, h3⟩ : rpSz r /\ t.length <= 1048576 /\ ∀ f ∈ t, f.text.length <= 1048576 := ha
 simp (maxSteps := 8000000) -implicitDefEqProofs [-kStep_move, -Bool.exists_bool, b1G, a7O, Con.fn, a0R, tTab, a0I, bOp]
 try dsimp only
 simp -implicitDefEqProofs only [and_assoc, exists_eq_left, exists_and_left, RepoD.ex1, RepoD.eta, OpD.ex1, OpD.eta]
 refine ⟨fun h => ?_, fun h => ⟨h1, h2, h3, fun h' => ?_, fun h' => ?_⟩⟩
 ·unfold a1S; rw [if_neg (by simp -implicitDefEqProofs [h])]; exact ⟨rfl, rfl, rfl⟩
 ·unfold a1S; rw [if_pos h, if_neg (by simp -implicitDefEqProofs [h'])]; exact ⟨rfl, rfl, rfl⟩
 ·unfold a1S; rw [if_pos h, if_pos h']; exact ⟨rfl, rfl, rfl⟩
theorem a9y {t : List FileD} (h : a0S t = true) (f : FileD) : a0S (a3m t f).1 = true := by
 unfold a3m
 rw [if_pos h]
 split
 ·assumption
 ·exact h
theorem a8o {t : List FileD} (h : a0S t = true) (p to : Str) : a0S (a1z t p to).1 = true := by
 unfold a1z
 rw [if_pos h]
 split
 ·exact h
 ·split
  ·exact h
  ·rename_i q
   cases q2 : a0S (mvFs p to (filB (a1j p) t) t) with
   | true => rfl
   | false => exact absurd (.inl q2) q
theorem a7s {t : List FileD} (h : a0S t = true) (p : Str) : szT (a2j t p).1 := by
 unfold a2j filB
 rw [if_pos h]
 obtain ⟨h1, h2⟩ := a2A h
 exact ⟨Nat.le_trans (List.length_filter_le _ _) h1, fun f hf => h2 f (List.mem_filter.1 hf).1⟩
theorem a9p {t : List FileD} (h : a0S t = true) : ∀ f ∈ t, f.path.length <= 20 := fun f hf => (a4w (by rw [a2v]; exact h) f hf).1.2
theorem a5e {t : List FileD} (h : szT t) : t.length <= 1048576 /\ ∀ f ∈ t, f.text.length <= 1048576 := ⟨by have := h.1; omega, fun f hf => by have := h.2 f hf; omega⟩
theorem b1u {r : RepoD} (h : a0w r = true) (n : Str) : a0S (a2r r n) = true := by
 unfold a2r
 split
 ·exact a2T h _
 ·rfl
def b6D : Con := .fn 134 (RepoD × OpD) (fun a => [a1e a.1, vOp a.2]) (fun a => a0w a.1 = true /\ opSz a.2) (fun a => .tup [.agg [.sl false 3 (a0h (do19 a.1 a.2).1.commits), .sl false 2 (a0c (do19 a.1 a.2).1.heads)], .int .i64 (do19 a.1 a.2).2]) (fun _ => [])
theorem c4Q : Has Tryz.prog 82 b6D := by
 refine a0d mixed a0M (HasL.cons a4C (HasL.cons b8v (HasL.cons b5K (HasL.cons b5M (HasL.cons b9f (HasL.cons b4x (HasL.cons b5N (HasL.cons c2z (HasL.cons b7S HasL.nil))))))))) [0, 1, 2, 3, 4, 5, 6, 7, 8, 9, 10, 11, 12, 13, 14, 15, 30] ((fun a n (_ : Nat) => (fun _ => a0E) a n)) [] Tryz.func82 (by unfold Tryz.f82; rfl) (fun _ => ⟨(), trivial⟩) ?_
 intro a ha
 obtain ⟨r, o⟩ := a
 obtain ⟨h1, h2, h3, h4⟩ : a0w r = true /\ opSz o := ha
 simp (maxSteps := 8000000) -implicitDefEqProofs [-kStep_move, -Bool.exists_bool, b6D, a6e, a9Y, a8N, a8P, b1G, a7N, a8Q, b3V, a9Q, Con.fn, a0R, tTab, a0I, bOp]
 try dsimp only
 simp -implicitDefEqProofs only [and_assoc, exists_eq_left, exists_and_left, RepoD.ex1, RepoD.eta, OpD.ex1, OpD.eta]
 have hsz := b2j h1
 have hat := a9G (n := o.branch) ((a0V r).1 h1).2.1
 have hT := b1u h1 o.branch
 have e1 : o.kind = 1 -> do19 r o = a1S r o (a3m (a2r r o.branch) ⟨o.path, o.text⟩) := fun h => by unfold do19; rw [if_pos h]
 have e2 : o.kind = 2 -> do19 r o = a1S r o (a2j (a2r r o.branch) o.path) := fun h => by unfold do19; rw [if_neg (by omega), if_pos h]
 have e3 : o.kind = 3 -> do19 r o = a1S r o (a1z (a2r r o.branch) o.path o.to_) := fun h => by unfold do19; rw [if_neg (by omega), if_neg (by omega), if_pos h]
 have e4 : o.kind = 4 -> (a0Q r o.to_ (atL r.heads o.branch)).2 = true -> do19 r o = ((a0Q r o.to_ (atL r.heads o.branch)).1, 0) := fun h h' => by unfold do19; rw [if_neg (by omega), if_neg (by omega), if_neg (by omega), if_pos h, if_pos h']
 have e4' : o.kind = 4 -> (a0Q r o.to_ (atL r.heads o.branch)).2 = false -> do19 r o = (r, 1) := fun h h' => by unfold do19; rw [if_neg (by omega), if_neg (by omega), if_neg (by omega), if_pos h, if_neg (by simp -implicitDefEqProofs [h'])]
 have e5 : o.kind = 5 -> do19 r o = a1l r o.branch o.who (atL r.heads o.to_) := fun h => by unfold do19; rw [if_neg (by omega), if_neg (by omega), if_neg (by omega), if_neg (by omega), if_pos h]
 have e6 : o.kind = 6 -> do19 r o = a1D false r o.branch o.who o.at_ := fun h => by unfold do19; rw [if_neg (by omega), if_neg (by omega), if_neg (by omega), if_neg (by omega), if_neg (by omega), if_pos h]
 have e7 : ¬ o.kind = 1 -> ¬ o.kind = 2 -> ¬ o.kind = 3 -> ¬ o.kind = 4 -> ¬ o.kind = 5 -> ¬ o.kind = 6 -> do19 r o = a1D true r o.branch o.who o.at_ := fun k1 k2 k3 k4 k5 k6 => by unfold do19; rw [if_neg k1, if_neg k2, if_neg k3, if_neg k4, if_neg k5, if_neg k6]
 have s1 := a5e (a2A (a9y hT ⟨o.path, o.text⟩))
 have s2 := a5e (a7s hT o.path)
 have s3 := a5e (a2A (a8o hT o.path o.to_))
 have s0 := a2A hT
 have sp := a9p hT
 have sp : ∀ f ∈ a2r r o.branch, f.path.length <= 1048576 := fun f hf => by have := sp f hf; omega
 have sl : (a2r r o.branch).length <= 1048575 := by have := s0.1; omega
 have st := (a5e s0).2
 refine ⟨fun hp => ⟨hp, by omega, fun _ _ => ?_⟩, fun hn => ?_⟩
 ·have ca := cget (r := r) hp (by omega)
  have eT : a0F r (atL r.heads o.branch) = a2r r o.branch := by unfold a2r; rw [if_pos hp]
  rw [ca, eT]
  simp -implicitDefEqProofs [D.asRows]
  exact ⟨fun h => ⟨sl, st, h4, hsz, s1.1, s1.2, by rw [e1 h]; exact ⟨rfl, rfl, rfl⟩⟩, fun k1 => ⟨fun h => ⟨(a5e s0).1, st, hsz, s2.1, s2.2, by rw [e2 h]; exact ⟨rfl, rfl, rfl⟩⟩, fun k2 => ⟨fun h => ⟨(a5e s0).1, st, h3, sp, hsz, s3.1, s3.2, by rw [e3 h]; exact ⟨rfl, rfl, rfl⟩⟩, fun k3 => ⟨fun h => ⟨hsz, fun h' => by rw [e4' h h']; exact ⟨rfl, rfl, rfl⟩, fun h' => by rw [e4 h h']; exact ⟨rfl, rfl, rfl⟩⟩, fun k4 => ⟨fun h => ⟨hsz, by rw [e5 h]; exact ⟨rfl, rfl, rfl⟩⟩, fun k5 => ⟨fun h => ⟨hsz, by rw [e6 h]; exact ⟨rfl, rfl, rfl⟩⟩, fun k6 => ⟨hsz, by rw [e7 k1 k2 k3 k4 k5 k6]; exact ⟨rfl, rfl, rfl⟩⟩⟩⟩⟩⟩⟩⟩
 ·have eT : a2r r o.branch = [] := by unfold a2r; rw [if_neg (by omega)]
  simp -implicitDefEqProofs only [FileD.ex1]
  rw [<- eT]
  exact ⟨fun h => ⟨sl, st, h4, hsz, s1.1, s1.2, by rw [e1 h]; exact ⟨rfl, rfl, rfl⟩⟩, fun k1 => ⟨fun h => ⟨(a5e s0).1, st, hsz, s2.1, s2.2, by rw [e2 h]; exact ⟨rfl, rfl, rfl⟩⟩, fun k2 => ⟨fun h => ⟨(a5e s0).1, st, h3, sp, hsz, s3.1, s3.2, by rw [e3 h]; exact ⟨rfl, rfl, rfl⟩⟩, fun k3 => ⟨fun h => ⟨hsz, fun h' => by rw [e4' h h']; exact ⟨rfl, rfl, rfl⟩, fun h' => by rw [e4 h h']; exact ⟨rfl, rfl, rfl⟩⟩, fun k4 => ⟨fun h => ⟨hsz, by rw [e5 h]; exact ⟨rfl, rfl, rfl⟩⟩, fun k5 => ⟨fun h => ⟨hsz, by rw [e6 h]; exact ⟨rfl, rfl, rfl⟩⟩, fun k6 => ⟨hsz, by rw [e7 k1 k2 k3 k4 k5 k6]; exact ⟨rfl, rfl, rfl⟩⟩⟩⟩⟩⟩⟩⟩
def a8J : Con := .fn 21 (RepoD × OpD) (fun a => [a1e a.1, vOp a.2]) (fun a => rpSz a.1 /\ opSz a.2) (fun a => .tup [.agg [.sl false 3 (a0h (a1w a.1 a.2).1.commits), .sl false 2 (a0c (a1w a.1 a.2).1.heads)], .int .i64 (a1w a.1 a.2).2]) (fun _ => [])
theorem b9x : Has Tryz.prog 38 a8J := by
 refine a0d mixed a0M (HasL.cons a4D (HasL.cons a4P (HasL.cons c4R (HasL.cons c4Q HasL.nil)))) [0, 1, 2, 3, 4, 5] ((fun a n (_ : Nat) => (fun _ => a0E) a n)) [] Tryz.func38 (by unfold Tryz.f38; rfl) (fun _ => ⟨(), trivial⟩) ?_
 intro a ha
 obtain ⟨r, o⟩ := a
 obtain ⟨h1, h2⟩ : rpSz r /\ opSz o := ha
 simp (maxSteps := 8000000) -implicitDefEqProofs [-kStep_move, -Bool.exists_bool, a8J, a6f, a5l, b6E, b6D, Con.fn, a0R, tTab, a0I, bOp]
 try dsimp only
 simp -implicitDefEqProofs only [and_assoc, exists_eq_left, exists_and_left, RepoD.ex1, RepoD.eta, OpD.ex1, OpD.eta]
 have hr1 : r.commits.length <= 1048576 := h1.1
 have e0 : a0w r = false -> a1w r o = (noR, 1) := fun h => by unfold a1w; rw [if_neg (by simp -implicitDefEqProofs [h])]
 have e1 : a0w r = true -> opB o = false -> a1w r o = (r, 1) := fun h h' => by unfold a1w; rw [if_pos h, if_neg (by simp -implicitDefEqProofs [h'])]
 have e2 : a0w r = true -> opB o = true -> a1w r o = do19 r o := fun h h' => by unfold a1w; rw [if_pos h, if_pos h']
 exact ⟨by omega, fun h => by rw [e0 h]; exact ⟨rfl, rfl, rfl⟩, fun h => ⟨h2.2.2, fun h' => ⟨h1, by rw [e1 h h']; exact ⟨rfl, rfl, rfl⟩⟩, fun h' => ⟨h1, h, h2, by rw [e2 h h']; exact ⟨rfl, rfl, rfl⟩⟩⟩⟩
--TAB a0R
theorem b9V {r : RepoD} (h : a0G r = true) {n : Str} {c : CommitD} (hc : ∀ f ∈ c.tree, f.path.length <= 536870912) : a4f (cmL r n c) := by
 have h1 := a3V h
 refine ⟨by simp -implicitDefEqProofs [cmL]; omega, fun x hx f hf => ?_⟩
 have hx : x ∈ r.commits ++ [c] := hx
 rcases List.mem_append.1 hx with hx | hx
 ·exact (a3W h).2.2 x hx f hf
 ·rw [List.mem_singleton.1 hx] at hf
  exact hc f hf
abbrev oRb (x : RepoD × Bool) : AV := .tup [.agg [.own 8 3 (a0h x.1.commits), .own 9 2 (a0c x.1.heads)], .bool x.2]
abbrev oRbf (x : RepoD × Bool) : List (Nat × Blk) := a2d 8 x.1.commits ++ a2o 9 x.1.heads
def cRepoCommitI : Con := .fn 36 (RepoD × Str × Str × List FileD) (fun a => [a1e a.1, .str a.2.1, .str a.2.2.1, .sl true 2 (a0a a.2.2.2)]) (fun a => a4f a.1 /\ okSz a.2.2.2) (fun a => oRb (a1c a.1 a.2.1 a.2.2.1 a.2.2.2)) (fun a => oRbf (a1c a.1 a.2.1 a.2.2.1 a.2.2.2))
theorem d1Z {P : Program} {f : Nat} {k : Con} {c : k.A -> Prop} (h1 : Has P f { k with pre := fun a => k.pre a /\ c a }) (h2 : Has P f { k with pre := fun a => k.pre a /\ ¬ c a }) : Has P f k :=
 ⟨h1.enter, h1.tot, h1.nob, fun a ha => by
  by_cases q : c a
  ·exact h1.calls a ⟨ha, q⟩
  ·exact h2.calls a ⟨ha, q⟩, h1.bldr, h1.bt⟩
def b1A : Con := { A := RepoD × Str × Str × List FileD, X := Unit, n := 28, args := fun a => [.agg [.own 0 3 (a0h a.1.commits), .own 1 2 (a0c a.1.heads)], .str a.2.1, .str a.2.2.1, .sl true 2 (a0a a.2.2.2), .nil], boxes := fun _ => [], pre := fun a => a.1.heads.length <= 1048576 /\ a.1.commits.length <= 1048576 /\ a.2.2.2.length <= 1048576 /\ ∀ f ∈ a.2.2.2, f.text.length <= 1048576, post := fun _ _ => True, res := fun a _ => .agg [.own 8 3 (a0h (cmL a.1 a.2.1 ⟨[], a.2.2.1, a.2.2.2⟩).commits), .own 9 2 (a0c (cmL a.1 a.2.1 ⟨[], a.2.2.1, a.2.2.2⟩).heads)], fin := fun a _ => a2d 8 (cmL a.1 a.2.1 ⟨[], a.2.2.1, a.2.2.2⟩).commits ++ a2o 9 (cmL a.1 a.2.1 ⟨[], a.2.2.1, a.2.2.2⟩).heads, owns := fun a => a4p a.1, mv := true }
theorem b8I : Has Tryz.prog 108 b1A := by
 refine a0d mixed a0M (HasL.cons a2M (HasL.cons a7F HasL.nil)) [0, 1, 2, 3, 4, 5, 10] ((fun a n (_ : Nat) => (fun _ => a0E) a n)) [18] Tryz.func108 (by unfold Tryz.f108; rfl) (fun _ => ⟨(), trivial⟩) ?_
 intro a ha
 obtain ⟨r, n, w, t⟩ := a
 obtain ⟨h1, h2, h3, h4⟩ : r.heads.length <= 1048576 /\ r.commits.length <= 1048576 /\ t.length <= 1048576 /\ ∀ f ∈ t, f.text.length <= 1048576 := ha
 simp (maxSteps := 8000000) -implicitDefEqProofs [b1A, a4p, a7X, a3e, Con.fn, a0R, tTab, a0I]
 try dsimp only
 have sn : a0h r.commits ++ [[D.sl 3 1 [], D.str w, D.sl 66 2 (a0a t)]] = a0h (r.commits ++ [⟨[], w, t⟩]) := a1m _ [] _ _
 rw [sn]
 exact ⟨⟨h3, h4⟩, ⟨by omega, by omega⟩, fun _ => ⟨by omega, fun _ => ⟨⟨r.commits ++ [⟨[], w, t⟩], r.heads⟩, n, _, ⟨⟨rfl, rfl⟩, rfl, rfl⟩, ⟨rfl, rfl⟩, h1, ⟨rfl, rfl⟩, rfl, rfl⟩⟩⟩
def a9R : Con := { cRepoCommitI with pre := fun a => cRepoCommitI.pre a /\ 0 <= atL a.1.heads a.2.1 }
theorem b3q : Has Tryz.prog 132 a9R := by
 refine a0d mixed a0M (HasL.cons a5L (HasL.cons a5R (HasL.cons a4d (HasL.cons a8U (HasL.cons a6u HasL.nil))))) [0, 1, 2, 3, 4, 8, 9, 10, 11] ((fun a n (_ : Nat) => (fun _ => a0E) a n)) [16409, 16416, 16417] Tryz.func132 (by unfold Tryz.f132; rfl) (fun _ => ⟨(), trivial⟩) ?_
 intro a ha
 obtain ⟨r, n, w, t⟩ := a
 obtain ⟨⟨h1, h2⟩, h0⟩ : (a4f r /\ okSz t) /\ 0 <= atL r.heads n := ha
 simp (maxSteps := 8000000) [-kStep_move, -kStepC_move, -Bool.exists_bool, a9R, cRepoCommitI, a5T, cAtI, a5A, a7T, b0b, a7e, a4p, Con.fn, a0R, tTab, a0I]
 try dsimp only
 try simp only [and_assoc, exists_eq_left, exists_and_left, RepoD.ex1, RepoD.eta]
 refine ⟨h1, fun h => ?_, fun h => ⟨fun _ => ?_, h0⟩⟩
 ·rw [a4q, if_neg (by simp -implicitDefEqProofs [h])]; exact ⟨rfl, rfl, rfl, rfl, rfl⟩
 ·obtain ⟨hz, hp⟩ := a3W h
  obtain ⟨k1, k2, k3⟩ := h2
  have hc : a0D t = true \/ True := .inr trivial
  refine ⟨hz, [atL r.heads n], rfl, trivial, trivial, rfl, hz.2.2, hz.1, k1, k2, trivial, trivial, hz, b9V h k3, ?_⟩
  have e : a1c r n w t = if a0G (cmL r n ⟨[atL r.heads n], w, t⟩) then (cmL r n ⟨[atL r.heads n], w, t⟩, true) else (r, false) := by rw [a4q, if_pos h]; unfold comI; rw [if_pos h0]
  rw [e]
  by_cases q : a0G (cmL r n ⟨[atL r.heads n], w, t⟩) = true
  ·rw [if_pos q, if_pos q, q]; exact ⟨rfl, rfl, rfl, rfl, rfl⟩
  ·rw [if_neg q, if_neg q]; exact ⟨rfl, rfl, by simpa using q, rfl, rfl⟩
def a9S : Con := { cRepoCommitI with pre := fun a => cRepoCommitI.pre a /\ ¬ 0 <= atL a.1.heads a.2.1 }
theorem b3r : Has Tryz.prog 132 a9S := by
 refine a0d mixed a0M (HasL.cons a5L (HasL.cons a5R (HasL.cons a4d (HasL.cons b8I (HasL.cons a6u HasL.nil))))) [0, 1, 2, 3, 4, 8, 9, 10, 11] ((fun a n (_ : Nat) => (fun _ => a0E) a n)) [16409, 16416, 16417] Tryz.func132 (by unfold Tryz.f132; rfl) (fun _ => ⟨(), trivial⟩) ?_
 intro a ha
 obtain ⟨r, n, w, t⟩ := a
 obtain ⟨⟨h1, h2⟩, h0⟩ : (a4f r /\ okSz t) /\ ¬ 0 <= atL r.heads n := ha
 simp (maxSteps := 8000000) [-kStep_move, -kStepC_move, -Bool.exists_bool, a9S, cRepoCommitI, a5T, cAtI, a5A, b1A, a7e, a4p, Con.fn, a0R, tTab, a0I]
 try dsimp only
 try simp only [and_assoc, exists_eq_left, exists_and_left, RepoD.ex1, RepoD.eta]
 refine ⟨h1, fun h => ?_, fun h => ⟨by omega, fun _ => ?_⟩⟩
 ·rw [a4q, if_neg (by simp -implicitDefEqProofs [h])]; exact ⟨rfl, rfl, rfl, rfl, rfl⟩
 ·obtain ⟨hz, hp⟩ := a3W h
  obtain ⟨k1, k2, k3⟩ := h2
  refine ⟨hz, trivial, trivial, hz.2.2, hz.1, k1, k2, trivial, trivial, hz, b9V h k3, ?_⟩
  have e : a1c r n w t = if a0G (cmL r n ⟨[], w, t⟩) then (cmL r n ⟨[], w, t⟩, true) else (r, false) := by rw [a4q, if_pos h]; unfold comI; rw [if_neg h0]
  rw [e]
  by_cases q : a0G (cmL r n ⟨[], w, t⟩) = true
  ·rw [if_pos q, if_pos q, q]; exact ⟨rfl, rfl, rfl, rfl, rfl⟩
  ·rw [if_neg q, if_neg q]; exact ⟨rfl, rfl, by simpa using q, rfl, rfl⟩
theorem b3s : Has Tryz.prog 132 cRepoCommitI := d1Z (c := fun a => 0 <= atL a.1.heads a.2.1) b3q b3r
def a7c : Con := .fn 27 (RepoD × Str × Int) (fun a => [a1e a.1, .str a.2.1, .int .i64 a.2.2]) (fun a => a4f a.1) (fun a => oRb (a0Q a.1 a.2.1 a.2.2)) (fun a => oRbf (a0Q a.1 a.2.1 a.2.2))
theorem b3p : Has Tryz.prog 88 a7c := by
 refine a0d mixed a0M (HasL.cons a5L (HasL.cons a5R (HasL.cons a4d (HasL.cons a7F (HasL.cons a6u HasL.nil))))) [0, 1, 2, 3, 6, 7] ((fun a n (_ : Nat) => (fun _ => a0E) a n)) [16402, 16407, 16408] Tryz.func88 (by unfold Tryz.f88; rfl) (fun _ => ⟨(), trivial⟩) ?_
 intro a ha
 obtain ⟨r, n, b⟩ := a
 replace ha : a4f r := ha
 simp (maxSteps := 8000000) [-kStep_move, -kStepC_move, -Bool.exists_bool, a7c, a5T, cAtI, a5A, a7X, a7e, a4p, Con.fn, a0R, tTab, a0I]
 try dsimp only
 try simp only [and_assoc, exists_eq_left, exists_and_left, RepoD.ex1, RepoD.eta]
 refine ⟨ha, fun h => ?_, fun h => ⟨fun h0 => ?_, fun h0 => ?_⟩⟩
 ·rw [a5c, if_neg (by simp -implicitDefEqProofs [h])]; exact ⟨rfl, rfl, rfl, rfl, rfl⟩
 ·rw [a5c, if_pos h, if_pos h0]; exact ⟨(a3W h).1, rfl, rfl, rfl, rfl, rfl⟩
 ·obtain ⟨hz, hp⟩ := a3W h
  refine ⟨hz, trivial, trivial, hz.2.2, trivial, trivial, hz, hp, ?_⟩
  rw [a5c, if_pos h, if_neg (by omega)]
  by_cases q : a0G ⟨r.commits, ptL r.heads n b⟩ = true
  ·rw [if_pos q, if_pos q, q]; exact ⟨rfl, rfl, rfl, rfl, rfl⟩
  ·rw [if_neg q, if_neg q]; exact ⟨rfl, rfl, by simpa using q, rfl, rfl⟩
def b1O : Con := .fn 29 (RepoD × OpD × List FileD × Bool) (fun a => [a1e a.1, vOp a.2.1, .sl true 2 (a0a a.2.2.1), .bool a.2.2.2]) (fun a => a0G a.1 = true /\ okSz a.2.2.1) (fun a => oR (a1S a.1 a.2.1 a.2.2)) (fun a => oRf (a1S a.1 a.2.1 a.2.2))
theorem b9D : Has Tryz.prog 85 b1O := by
 refine a0d mixed a0M (HasL.cons a4d (HasL.cons b3s HasL.nil)) [0, 1, 2, 3, 4, 5, 8, 9, 10] ((fun a n (_ : Nat) => (fun _ => a0E) a n)) [] Tryz.func85 (by unfold Tryz.f85; rfl) (fun _ => ⟨(), trivial⟩) ?_
 intro a ha
 obtain ⟨r, o, t, k⟩ := a
 obtain ⟨h1, h2⟩ : a0G r = true /\ okSz t := ha
 simp (maxSteps := 8000000) [-kStep_move, -kStepC_move, -Bool.exists_bool, b1O, a5A, cRepoCommitI, Con.fn, a0R, tTab, a0I, bOp]
 try dsimp only
 try simp only [and_assoc, exists_eq_left, exists_and_left, RepoD.ex1, RepoD.eta]
 obtain ⟨hz, hp⟩ := a3W h1
 refine ⟨fun h => ?_, fun h => ⟨hp, h2, fun h' => ?_, fun h' => ?_⟩⟩
 ·unfold a1S; rw [if_neg (by simp -implicitDefEqProofs [h])]; exact ⟨hz, rfl, rfl, rfl, rfl, rfl⟩
 ·have e : (a1c r o.branch o.who t).1 = r := by
   rw [a4q, if_pos h1] at h' ⊢
   split at h'
   ·cases h'
   ·rename_i q; rw [if_neg q]
  unfold a1S; rw [if_pos h, if_neg (by simp -implicitDefEqProofs [h']), e]; exact ⟨rfl, rfl, rfl, rfl, rfl⟩
 ·unfold a1S; rw [if_pos h, if_pos h']; exact ⟨rfl, rfl, rfl, rfl, rfl⟩
theorem c9a {t : List Str} (h : a1g t = true) : (t.map List.length).sum <= 1073741824 := by
 unfold a1g at h
 simp only [Bool.and_eq_true, decide_eq_true_eq, List.all_eq_true] at h
 have g : ∀ l : List Str, (∀ x ∈ l, a6h x = true) -> (l.map List.length).sum <= 1000 * l.length := by
  intro l
  induction l with
  | nil => intro _; simp
  | cons x l ih =>
   intro q
   have h1 := q x (by simp)
   have h2 := ih fun y hy => q y (by simp -implicitDefEqProofs [hy])
   unfold a6h at h1
   simp only [Bool.and_eq_true, decide_eq_true_eq] at h1
   simp only [List.map_cons, List.sum_cons, List.length_cons]
   omega
 have := g t h.2
 omega
def c0Y : Con := .fn 115 OpD (fun o => [vOp o]) opSz (fun o => .bool (opB o)) (fun _ => [])
theorem c8j : Has Tryz.prog 83 c0Y := by
 refine a0d mixed a0M (HasL.cons a4T (HasL.cons a6K (HasL.cons a6N (HasL.cons c4B (HasL.cons b5r (HasL.cons a6O HasL.nil)))))) [0, 1, 2, 3, 4, 5, 6, 31, 85, 100] ((fun a n (_ : Nat) => (fun _ => a0E) a n)) [] Tryz.func83 (by unfold Tryz.f83; rfl) (fun _ => ⟨(), trivial⟩) ?_
 intro (o : OpD) (ho : opSz o)
 simp (maxSteps := 8000000) [-kStep_move, -kStepC_move, -Bool.exists_bool, c0Y, a5m, a6Q, a6R, c3L, a8A, a6S, Con.fn, a0R, tTab, bOp]
 try dsimp only
 obtain ⟨p1, p2, p3⟩ := ho
 have hsum : a1g o.text = true -> (List.map List.length o.text).sum <= 1073741824 := c9a
 have e0 : a0X o.branch = false \/ a0X o.who = false -> opB o = false := fun h => by unfold opB; rcases h with h | h <;> rw [h] <;> simp
 refine ⟨e0, fun n1 n2 => ?_⟩
 have e1 : o.kind = 1 -> opB o = (a3o o.path && a1g o.text && decide (idxB o.text.flatten 124 < 0) && decide (o.to_ = []) && decide (o.at_ = 0)) := fun h => by
  unfold opB a4o a5X; rw [n1, n2, if_pos h, Bool.eq_iff_iff, a6V]; simp only [c6P]; simp; grind
 have e2 : o.kind = 2 -> opB o = (a3o o.path && decide (o.to_ = []) && decide (o.at_ = 0) && decide (o.text = [])) := fun h => by
  unfold opB a4o; rw [n1, n2, if_neg (by omega), if_pos h, Bool.eq_iff_iff, a6V]; simp; grind
 have e3 : o.kind = 3 -> opB o = (a3o o.path && a3o o.to_ && decide (o.at_ = 0) && decide (o.text = [])) := fun h => by
  unfold opB a4o; rw [n1, n2, if_neg (by omega), if_neg (by omega), if_pos h, Bool.eq_iff_iff, a6V, a6V]; simp; grind
 have e4 : o.kind = 4 \/ o.kind = 5 -> opB o = (a0X o.to_ && decide (o.path = []) && decide (o.at_ = 0) && decide (o.text = [])) := fun h => by
  unfold opB a4o; rw [n1, n2, if_neg (by omega), if_neg (by omega), if_neg (by omega), if_pos h, Bool.eq_iff_iff]; simp; grind
 have e6 : o.kind = 6 \/ o.kind = 7 -> opB o = (decide (0 <= o.at_) && decide (o.at_ <= 15) && decide (o.path = []) && decide (o.to_ = []) && decide (o.text = [])) := fun h => by
  unfold opB a4o; rw [n1, n2, if_neg (by omega), if_neg (by omega), if_neg (by omega), if_neg (by omega), if_pos h, Bool.eq_iff_iff]; simp; grind
 have e8 : ¬ o.kind = 1 -> ¬ o.kind = 2 -> ¬ o.kind = 3 -> ¬ o.kind = 4 -> ¬ o.kind = 5 -> ¬ o.kind = 6 -> ¬ o.kind = 7 -> opB o = false := fun a b c d e f g => by
  unfold opB; rw [if_neg a, if_neg b, if_neg c, if_neg (by omega), if_neg (by omega)]; simp
 repeat' (first
  | intro _
  | refine ⟨_, _, _, ⟨rfl, rfl, rfl⟩, ?_⟩
  | refine ⟨_, _, ⟨rfl, rfl⟩, ?_⟩
  | apply And.intro)
 all_goals first
  | omega
  | contradiction
  | assumption
  | exact hsum (by assumption)
  | exact e1 (by assumption)
  | exact e2 (by assumption)
  | exact e3 (by assumption)
  | exact e4 (by omega)
  | exact e6 (by omega)
  | exact e8 (by omega) (by omega) (by omega) (by omega) (by omega) (by omega) (by omega)
  | grind
theorem b0n {t : List FileD} (h : a0S t = true) : okSz t :=
 ⟨(a5e (a2A h)).1, (a5e (a2A h)).2, fun f hf => by have := a9p h f hf; omega⟩
theorem c5u {t : List FileD} (h : a0S t = true) (p : Str) : okSz (a2j t p).1 :=
 ⟨(a5e (a7s h p)).1, (a5e (a7s h p)).2, fun f hf => by
  unfold a2j filB at hf
  rw [if_pos h] at hf
  have := a9p h f (List.mem_filter.1 hf).1
  omega⟩
theorem d0G {o : OpD} (a : ¬ o.kind = 1) (b : ¬ o.kind = 2) (c : ¬ o.kind = 3) (d : ¬ o.kind = 4) (e : ¬ o.kind = 5) (f : ¬ o.kind = 6) (g : ¬ o.kind = 7) : opB o = false := by
 unfold opB; rw [if_neg a, if_neg b, if_neg c, if_neg (by omega), if_neg (by omega)]; simp
def a8I : Con := .fn 130 (RepoD × OpD) (fun a => [a1e a.1, vOp a.2]) (fun a => a4f a.1 /\ opSz a.2) (fun a => oR (a1w a.1 a.2)) (fun a => oRf (a1w a.1 a.2))
theorem b9w : Has Tryz.prog 36 a8I := by
 refine a0d mixed a0M (HasL.cons a5L (HasL.cons c8j (HasL.cons a4d (HasL.cons a5R (HasL.cons b5n (HasL.cons b8u (HasL.cons b5J (HasL.cons b5L (HasL.cons b9D (HasL.cons b3p (HasL.cons c3e (HasL.cons c5C HasL.nil)))))))))))) [0, 1, 2, 3, 4, 5, 6, 7, 8, 9, 10, 11, 12, 13, 14, 15, 35] ((fun a n (_ : Nat) => (fun _ => a0E) a n)) [] Tryz.func36 (by unfold Tryz.f36; rfl) (fun _ => ⟨(), trivial⟩) ?_
 intro a ha
 obtain ⟨r, o⟩ := a
 obtain ⟨h1, h2⟩ : a4f r /\ opSz o := ha
 simp (maxSteps := 8000000) -implicitDefEqProofs [-kStep_move, -kStepC_move, -Bool.exists_bool, a8I, a5T, c0Y, a5A, cAtI, a9V, a9X, a8M, a8O, b1O, a7c, b4c, b6K, Con.fn, a0R, tTab, a0I, bOp]
 try dsimp only
 simp -implicitDefEqProofs only [and_assoc, exists_eq_left, exists_and_left, RepoD.ex1, RepoD.eta, OpD.ex1, OpD.eta]
 refine ⟨h1, fun h => ?_, fun h => ⟨h2, fun hb => ?_, fun hb => ?_⟩⟩
 ·have e : a1w r o = (noR, 1) := by unfold a1w; rw [if_neg (by rw [<- a1h, h]; simp)]
  rw [e]; exact ⟨rfl, rfl, rfl, rfl, rfl⟩
 ·have e : a1w r o = (r, 1) := by unfold a1w; rw [if_pos (by rw [<- a1h]; exact h), if_neg (by simp -implicitDefEqProofs [hb])]
  rw [e]; exact ⟨(a3W h).1, rfl, rfl, rfl, rfl, rfl⟩
 ·have hS : a0w r = true := by rw [<- a1h]; exact h
  have d : a1w r o = do19 r o := by unfold a1w; rw [if_pos hS, if_pos hb]
  have eT : a4Z r (atL r.heads o.branch) = a2r r o.branch := by
   unfold a4Z a2r
   by_cases q : 0 <= atL r.heads o.branch
   ·rw [if_neg (by omega), if_pos q]
   ·rw [if_pos (by omega), if_neg q]
  have hT := b1u hS o.branch
  obtain ⟨p1, p2, p3⟩ := h2
  have hat := a9G (n := o.branch) ((a0V r).1 hS).2.1
  have s0 := b0n hT
  have s1 := b0n (a9y hT ⟨o.path, o.text⟩)
  have s2 := c5u hT o.path
  have s3 := b0n (a8o hT o.path o.to_)
  rw [d, eT]
  simp only [c3c, b9L, b9M]
  have e1 : o.kind = 1 -> do19 r o = a1S r o (a3m (a2r r o.branch) ⟨o.path, o.text⟩) := fun h => by unfold do19; rw [if_pos h]
  have e2 : o.kind = 2 -> do19 r o = a1S r o (a2j (a2r r o.branch) o.path) := fun h => by unfold do19; rw [if_neg (by omega), if_pos h]
  have e3 : o.kind = 3 -> do19 r o = a1S r o (a1z (a2r r o.branch) o.path o.to_) := fun h => by unfold do19; rw [if_neg (by omega), if_neg (by omega), if_pos h]
  have e4 : o.kind = 4 -> (a0Q r o.to_ (atL r.heads o.branch)).2 = true -> do19 r o = ((a0Q r o.to_ (atL r.heads o.branch)).1, 0) := fun h h' => by unfold do19; rw [if_neg (by omega), if_neg (by omega), if_neg (by omega), if_pos h, if_pos h']
  have e4' : o.kind = 4 -> (a0Q r o.to_ (atL r.heads o.branch)).2 = false -> do19 r o = (r, 1) := fun h h' => by unfold do19; rw [if_neg (by omega), if_neg (by omega), if_neg (by omega), if_pos h, if_neg (by simp -implicitDefEqProofs [h'])]
  have e5 : o.kind = 5 -> do19 r o = a1l r o.branch o.who (atL r.heads o.to_) := fun h => by unfold do19; rw [if_neg (by omega), if_neg (by omega), if_neg (by omega), if_neg (by omega), if_pos h]
  have e7 : ¬ o.kind = 1 -> ¬ o.kind = 2 -> ¬ o.kind = 3 -> ¬ o.kind = 4 -> ¬ o.kind = 5 -> do19 r o = a1D (decide (o.kind = 7)) r o.branch o.who o.at_ := fun k1 k2 k3 k4 k5 => by
   unfold do19; rw [if_neg k1, if_neg k2, if_neg k3, if_neg k4, if_neg k5]
   by_cases k6 : o.kind = 6
   ·rw [if_pos k6, k6]; rfl
   ·have k7 : o.kind = 7 := by
     rcases Classical.em (o.kind = 7) with q | q
     ·exact q
     ·rw [d0G k1 k2 k3 k4 k5 k6 q] at hb; cases hb
    rw [if_neg k6, k7]; rfl
  refine ⟨by omega, by omega, fun k => ⟨⟨o.path, o.text⟩, rfl, rfl, s0, p3, p1, h, s1, by rw [e1 k]; exact ⟨rfl, rfl, rfl, rfl, rfl⟩⟩, fun k1 => ⟨fun k => ⟨s0, by omega, h, s2, by rw [e2 k]; exact ⟨rfl, rfl, rfl, rfl, rfl⟩⟩, fun k2 => ⟨fun k => ⟨s0, p1, p2, h, s3, by rw [e3 k]; exact ⟨rfl, rfl, rfl, rfl, rfl⟩⟩, fun k3 => ⟨fun k => ⟨h1, fun q => ?_, fun q => ?_⟩, fun k4 => ⟨fun k => ⟨h, by rw [e5 k]; exact ⟨rfl, rfl, rfl, rfl, rfl⟩⟩, fun k5 => ⟨h, by rw [e7 k1 k2 k3 k4 k5]; exact ⟨rfl, rfl, rfl, rfl, rfl⟩⟩⟩⟩⟩⟩⟩
  ·have eb : (a0Q r o.to_ (atL r.heads o.branch)).1 = r := by
    rw [a5c, if_pos h] at q ⊢
    split at q
    ·rename_i g; rw [if_pos g]
    ·rename_i g
     rw [if_neg g]
     split at q
     ·cases q
     ·rename_i g2; rw [if_neg g2]
   rw [e4' k q, eb]; exact ⟨rfl, rfl, rfl, rfl, rfl⟩
  ·rw [e4 k q]; exact ⟨rfl, rfl, rfl, rfl, rfl⟩
--TAB a0R
def szO (o : OpD) (l : Int) : Int :=
 if l - o.branch.length < 0 then -1 else if l - o.branch.length - o.who.length < 0 then -1 else if l - o.branch.length - o.who.length - o.path.length < 0 then -1 else if l - o.branch.length - o.who.length - o.path.length - o.to_.length < 0 then -1 else if a3G o.text (l - o.branch.length - o.who.length - o.path.length - o.to_.length) < 0 then -1 else a3G o.text (l - o.branch.length - o.who.length - o.path.length - o.to_.length)
def b5U : Con := .fn 40 (OpD × Int) (fun a => [vOp a.1, .int .i64 a.2]) (fun a => 0 <= a.2 /\ a.2 <= 1048576) (fun a => .int .i64 (szO a.1 a.2)) (fun _ => [])
theorem c8Y : Has Tryz.prog 46 b5U := by
 refine a0d mixed a0M (HasL.cons a9w HasL.nil) [0, 1, 2, 4] ((fun a n (_ : Nat) => (fun _ => a0E) a n)) [] Tryz.func46 (by unfold Tryz.f46; rfl) (fun _ => ⟨(), trivial⟩) ?_
 intro a ha
 obtain ⟨f, n⟩ := a
 obtain ⟨h1, h2⟩ : 0 <= n /\ n <= 1048576 := ha
 simp -implicitDefEqProofs [b5U, Con.fn, a0R, tTab, a6D, bOp]
 try dsimp only
 try simp +contextual -implicitDefEqProofs [eStr, a0r, a0t, a0x, a0u, List.getElem?_eq_getElem, a0v, a0m, a0s, a0q, <- a0f, <- a0e, a0n, a0o, a0l, a0k, a0p, a0j, and_assoc]
 repeat' (first | intro _ | apply And.intro)
 all_goals first | omega | grind [a0z, szO]
def b5V : Con := .fn 27 OpD (fun o => [vOp o]) (fun o => o.text.length <= 1048576) (fun o => .agg [.int .i64 o.kind, .str o.branch, .str o.who, .str o.path, .str o.to_, .int .i64 o.at_, .own 8 1 (a0b o.text)]) (fun o => a1Y 8 o.text)
theorem c9d : Has Tryz.prog 47 b5V := by
 refine a0d mixed a0M (HasL.cons a9x HasL.nil) [0, 1, 2, 3] ((fun a n (_ : Nat) => (fun _ => a0E) a n)) [] Tryz.func47 (by unfold Tryz.f47; rfl) (fun _ => ⟨(), trivial⟩) ?_
 intro f hf
 obtain ⟨a, b, c, d, e, g, t⟩ := f
 replace hf : t.length <= 1048576 := hf
 simp -implicitDefEqProofs [b5V, Con.fn, a0R, tTab, a6E, bOp]
 try dsimp only
 try simp +contextual -implicitDefEqProofs [eStr, a0r, a0t, a0x, a0u, List.getElem?_eq_getElem, a0v, a0m, a0s, a0q, <- a0f, <- a0e, a0n, a0o, a0l, a0k, a0p, a0j, and_assoc]
 repeat' (first | intro _ | apply And.intro)
 all_goals first | omega | grind [a0z]
def b5S : Con := .fn 41 (OpD × OpD) (fun a => [vOp a.1, vOp a.2]) (fun _ => True) (fun a => .bool (decide (a.1 = a.2))) (fun _ => [])
theorem c7j : Has Tryz.prog 48 b5S := by
 refine a0d mixed a0M (HasL.cons a9t HasL.nil) [0, 1, 2, 3, 4] ((fun a n (_ : Nat) => (fun _ => a0E) a n)) [] Tryz.func48 (by unfold Tryz.f48; rfl) (fun _ => ⟨(), trivial⟩) ?_
 intro a _
 obtain ⟨⟨a, b, c, d, e, g, t⟩, ⟨a', b', c', d', e', g', t'⟩⟩ := a
 simp -implicitDefEqProofs [b5S, Con.fn, a0R, tTab, a6A, bOp]
 try dsimp only
 try simp +contextual -implicitDefEqProofs [eStr, a0r, a0t, a0x, a0u, List.getElem?_eq_getElem, a0v, a0m, a0s, a0q, <- a0f, <- a0e, a0n, a0o, a0l, a0k, a0p, a0j, and_assoc]
 repeat' (first | intro _ | apply And.intro)
 all_goals first | omega | grind [a0z]
def b0P : Con := { A := OpD × Int, X := Unit, n := 10, args := fun a => [.agg [.int .i64 a.1.kind, .str a.1.branch, .str a.1.who, .str a.1.path, .str a.1.to_, .int .i64 a.1.at_, .own 0 1 (a0b a.1.text)], .int .i64 a.2], boxes := fun _ => [], pre := fun a => 0 <= a.2 /\ a.2 + a.1.text.length <= 4611686018427387904, post := fun _ _ => True, res := fun a _ => .int .i64 (a.2 + a.1.text.length), fin := fun a _ => [(0, .own 9 1 true (a0b (a1M a.1.text.length a.2)))], owns := fun a => [(0, 9, 1, a0b a.1.text)], lends := [0], mv := true, sube := 9 }
theorem c2p : Has Tryz.prog 49 b0P := by
 refine a0d mixed a0M (HasL.cons a7C HasL.nil) [0, 1, 2, 4] ((fun a n (_ : Nat) => (fun _ => a0E) a n)) [] Tryz.func49 (by unfold Tryz.f49; rfl) (fun _ => ⟨(), trivial⟩) ?_
 intro a ha
 obtain ⟨⟨a, b, c, d, e, g, t⟩, k⟩ := a
 obtain ⟨h1, h2⟩ : 0 <= k /\ k + t.length <= 4611686018427387904 := ha
 simp -implicitDefEqProofs [b0P, Con.fn, a0R, tTab, a5z, bOp]
 try dsimp only
 try simp +contextual -implicitDefEqProofs [eStr, a0r, a0t, a0x, a0u, List.getElem?_eq_getElem, a0v, a0m, a0s, a0q, <- a0f, <- a0e, a0n, a0o, a0l, a0k, a0p, a0j, and_assoc]
 repeat' (first | intro _ | apply And.intro)
 all_goals first | omega | grind [a0z]
structure Onto (r : RepoD) (n : Str) (a : Int) (x : RepoD) : Prop where
 ok : a0w x = true
 keeps : r.commits <+: x.commits
 came : Came x n a.toNat

structure Did (r : RepoD) (X : RepoD × Int) : Prop where
 ok : a0w X.1 = true
 keeps : r.commits <+: X.1.commits
 few : X.1.commits.length <= r.commits.length + 1
 all : ∀ m, 0 <= atL r.heads m -> 0 <= atL X.1.heads m
 not : ¬ X.2 = 0 -> ¬ X.2 = 3 -> X.1 = r
theorem Did.same {r : RepoD} (h : a0w r = true) (c : Int) : Did r (r, c) := ⟨h, List.prefix_refl _, Nat.le_succ _, fun _ q => q, fun _ _ => rfl⟩
theorem Did.add {r : RepoD} (h : a0w r = true) {n : Str} {c : CommitD} (hr : a0w (addR r n c) = true) : Did r (addR r n c, 0) := by
 refine ⟨hr, List.prefix_append _ _, by simp [addR], fun m q => ?_, fun q => absurd rfl q⟩
 show 0 <= atL (addR r n c).heads m
 rw [b0F h]
 split
 ·omega
 ·exact q
theorem Did.head {r : RepoD} (h : a0w r = true) {n : Str} {a k : Int} (ha : 0 <= a) (hr : a0w ⟨r.commits, hSet r.heads n a⟩ = true) (hk : k = 0 \/ k = 3) : Did r (⟨r.commits, hSet r.heads n a⟩, k) := by
 refine ⟨hr, List.prefix_refl _, by simp, fun m q => ?_, fun q1 q2 => by rcases hk with e | e <;> contradiction⟩
 show 0 <= atL (hSet r.heads n a) m
 rw [a6P ((a0V r).1 h).2.1]
 split
 ·exact ha
 ·exact q
theorem c6p {r : RepoD} (h : a0w r = true) (n w : Str) (b : Int) : Did r (a1l r n w b) := by
 have hU := c6n h n w b
 generalize a1l r n w b = X at *
 cases hU with
 | on a1 a2 b1 b2 g1 g2 hr => exact Did.head h b1 hr (.inr rfl)
 | made t a1 a2 b1 b2 g1 g2 hj hr => exact Did.add h hr
 | _ => exact Did.same h _
theorem b5f {r : RepoD} (h : a0w r = true) (n w : Str) (o b : List FileD) : Did r (a3q r n w o b) := by
 unfold a3q
 split
 ·split
  ·rename_i hr; exact Did.add h hr
  ·exact Did.same h _
 ·exact Did.same h _
theorem b7T {r : RepoD} (h : a0w r = true) (k : Bool) (n w : Str) (c : Int) : Did r (a1D k r n w c) := by
 unfold a1D
 rw [if_pos h]
 split
 ·exact Did.same h _
 ·split
  ·exact b5f h _ _ _ _
  ·exact b5f h _ _ _ _
theorem Did.fork {r : RepoD} (h : a0w r = true) {n : Str} {a : Int} (hn : ¬ 0 <= atL r.heads n) (hr : a0w ⟨r.commits, hSet r.heads n a⟩ = true) : Did r (⟨r.commits, hSet r.heads n a⟩, 0) := by
 refine ⟨hr, List.prefix_refl _, by simp, fun m q => ?_, fun q1 => absurd rfl q1⟩
 show 0 <= atL (hSet r.heads n a) m
 rw [a6P ((a0V r).1 h).2.1, if_neg]
 ·exact q
 ·rintro rfl; exact hn q
theorem a9n {r : RepoD} (h : a0w r = true) (o : OpD) (x : List FileD × Bool) : Did r (a1S r o x) := by
 unfold a1S a1c
 rw [if_pos h]
 by_cases hx : x.2 = true
 ·rw [if_pos hx]
  by_cases hr : a0w (addR r o.branch (comC r o.branch o.who x.1)) = true
  ·rw [if_pos hr, if_pos rfl]; exact Did.add h hr
  ·rw [if_neg hr, if_neg (by simp)]; exact Did.same h _
 ·rw [if_neg hx]; exact Did.same h _
theorem c0Q {r : RepoD} (h : a0w r = true) (n : Str) (a : Int) : Did r (if (a0Q r n a).2 then ((a0Q r n a).1, 0) else (r, 1)) := by
 unfold a0Q
 rw [if_pos h]
 by_cases q2 : 0 <= atL r.heads n \/ a0w ⟨r.commits, hSet r.heads n a⟩ = false
 ·rw [if_pos q2, if_neg (by simp)]; exact Did.same h _
 ·rw [if_neg q2, if_pos rfl]
  refine Did.fork h (fun q => q2 (.inl q)) ?_
  cases q : a0w ⟨r.commits, hSet r.heads n a⟩ with
  | true => rfl
  | false => exact absurd (.inr q) q2
theorem d1Q {r : RepoD} (h : a0w r = true) (o : OpD) : Did r (do19 r o) := by
 unfold do19
 split
 ·exact a9n h _ _
 ·split
  ·exact a9n h _ _
  ·split
   ·exact a9n h _ _
   ·split
    ·exact c0Q h _ _
    ·split
     ·exact c6p h _ _ _
     ·split
      ·exact b7T h _ _ _ _
      ·exact b7T h _ _ _ _
theorem c2G {r : RepoD} (h : a0w r = true) (o : OpD) : Did r (a1w r o) := by
 unfold a1w
 rw [if_pos h]
 split
 ·exact d1Q h o
 ·exact Did.same h _
--TAB a0R
theorem d1r {o : OpD} {l : Int} (hl : l <= 1048576) (h : 0 <= szO o l) : opSz o /\ o.text.length <= 1048576 := by
 unfold szO at h
 split at h
 ·omega
 ·split at h
  ·omega
  ·split at h
   ·omega
   ·split at h
    ·omega
    ·split at h
     ·omega
     ·have := (b5m h).1
      exact ⟨⟨by omega, by omega, by omega⟩, by omega⟩
theorem d1P (r : RepoD) (o : OpD) : 1 <= kCs (a1w r o).1.commits 1 /\ kCs (a1w r o).1.commits 1 + 2 * (a1w r o).1.heads.length <= 10000 := by
 refine ⟨a6p _ _, ?_⟩
 by_cases h : a0w r = true
 ·exact c8F (by rw [a1h]; exact (c2G h o).ok)
 ·unfold a1w; rw [if_neg h]; simp -implicitDefEqProofs [noR, kCs]
def cFnExactRepoDo : Con := .fn 119 (RepoD × OpD) (fun a => [c2i a.1, vOp a.2]) (fun _ => True) (fun _ => .bool true) (fun _ => [])
theorem a9A (x : cFnExactRepoDo.A) (hpre : cFnExactRepoDo.pre x) {W : World} {vs : List Value} {fp : List (Nat × Nat)} (hr : RdArgs W (cFnExactRepoDo.args x) vs fp) (hlen : vs.length <= cFnExactRepoDo.n) : Calls Tryz.prog 10 vs.toArray W fun e w' => e = .returned (.bool true) /\ Below W.heap.size W w' := by
 refine c2j mixed a0M (l := [(11, b0Q), (46, b5U), (14, b0R), (47, b5V), (38, a8J), (36, a8I), (17, b0J), (48, b5S), (20, a7x), (49, b0P), (23, a7u)]) (HasL.cons c2U (HasL.cons c8Y (HasL.cons c3b (HasL.cons c9d (HasL.cons b9x (HasL.cons b9w (HasL.cons c1l (HasL.cons c7j (HasL.cons b7B (HasL.cons c2p (HasL.cons b7d HasL.nil))))))))))) (n := cFnExactRepoDo.n) [0, 1, 2, 3, 4, 5, 6, 7, 8, 9, 10, 11, 12, 13, 14, 15, 16] [9] [12287] Tryz.func10 (code := _) (by unfold Tryz.f10; rfl) (by kernel_rfl) (k := cFnExactRepoDo) (x := x) rfl rfl rfl (by kernel_rfl) ?_ hr hlen
 clear hr hlen
 obtain ⟨r, o⟩ := x
 clear hpre
 have h1 : 0 <= szRp r 1048576 -> rpSz r := fun h => (b8o h).1
 have h2 : 0 <= szRp r 1048576 -> a4f r := fun h => (b8o h).2
 have h3 : szRp r 1048576 <= 1048576 := d1s (by omega)
 have h4 : 0 <= szRp r 1048576 -> _ := fun h => c8Z h 1
 have h5 := fun h => @d1r o (szRp r 1048576) h3 h
 have h6 := d1P r o
 simp -implicitDefEqProofs [d1B, c9h, c3g, c9k, d1A, c9i, c6s, c9j, b7q, c4I, c1R, b8W, c7y, c4E, c1q, d0a, d0b, Blk.fy, AV.fy, AV.fz1, finZ, cFnExactRepoDo, Con.fn, a0R, tTab, b0Q, b5U, b0R, b5V, a8J, a8I, b0J, b5S, a7x, b0P, a7u, bOp]
 try dsimp only
 try simp +contextual -implicitDefEqProofs [eStr, a0r, a0t, a0x, a0u, List.getElem?_eq_getElem, a0v, a0m, a0s, a0q, <- a0f, <- a0e, a0n, a0o, a0l, a0k, a0p, a0j, and_assoc]
 generalize a1w r o = Q at h6 ⊢
 obtain ⟨⟨cs, hs⟩, c⟩ := Q
 obtain ⟨b1, b2⟩ := h6
 have q1 : a8Y ⟨a1y cs 1, a2h hs.length (kCs cs 1)⟩ 1 = kCs cs 1 + 2 * hs.length := c1C ⟨cs, hs⟩ 1 (by omega)
 have q2 : kCs (a1y cs 1) 1 + 2 * (a2h hs.length (kCs cs 1)).length = kCs cs 1 + 2 * hs.length := c4D ⟨cs, hs⟩ 1
 dsimp only at b1 b2 ⊢
 simp only [q1, q2]
 intro h
 have h7 := h1 h
 have h8 := h2 h
 have h9 := h4 h
 refine ⟨h3, fun hz => ?_⟩
 obtain ⟨g1, g2⟩ := h5 hz
 clear q1 q2 h1 h2 h4 h5
 repeat' first | assumption | omega | trivial | refine And.intro ?_ ?_ | intro _
end Vx
end Go.Proofs.YtokdjnbcdokpjabGreatDoor
