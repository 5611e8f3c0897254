/-
  Joined by program (merge.py): Kg, Kh, Ki, Hc, Hd, Kj, Kk, Sn, Ob. It shows what the single texts show; conditions: none but those of each lemma.
-/
import Derived.Test.YtnmmlcjnjnooaaaGreatDoorWb
set_option linter.unusedVariables false
set_option linter.unusedSimpArgs false
set_option linter.unusedSectionVars false
/-
  Plain law: repositories read back from their lines, both ways of reading.
-/
namespace Go.Proofs.YtnmmlcjnjnooaaaGreatDoor
namespace Vx
open Go.RowKit
set_option maxRecDepth 8000

def wCommit : Str := [99, 111, 109, 109, 105, 116]
def wBranch : Str := [98, 114, 97, 110, 99, 104]
def comL (c : CommitD) : Str := comW c ++ parT c.parents
def headLn (h : HeadD) : Str := [98, 114, 97, 110, 99, 104, 32] ++ h.name ++ [32] ++ decS h.at_.toNat
def encC (l : List CommitD) : List Str := (l.map fun c => comL c :: encT c.tree).flatten
def encH (l : List HeadD) : List Str := l.map headLn
def encR (r : RepoD) : List Str := encC r.commits ++ encH r.heads
theorem linesT_app (a b : List Str) : linesT (a ++ b) = linesT a ++ linesT b := by simp [linesT]
theorem repoT_enc (r : RepoD) : repoT r = linesT (encR r) := by
  have h1 : ∀ l : List CommitD, comsT l = linesT (encC l) := by
    intro l
    induction l with
    | nil => rfl
    | cons c l ih =>
      have e1 : comsT (c :: l) = comT c ++ comsT l := by simp [comsT]
      have e2 : encC (c :: l) = (comL c :: encT c.tree) ++ encC l := by simp [encC]
      have e3 : linesT (comL c :: encT c.tree) = comL c ++ [10] ++ linesT (encT c.tree) := by simp [linesT]
      rw [e1, e2, linesT_app, ih, e3, ← treeT_enc]
      simp [comT, comL]
  have h2 : ∀ l : List HeadD, headsT l = linesT (encH l) := by
    intro l
    induction l with
    | nil => rfl
    | cons c l ih =>
      have e1 : headsT (c :: l) = headT c ++ headsT l := by simp [headsT]
      have e2 : encH (c :: l) = [headLn c] ++ encH l := by simp [encH]
      have e3 : linesT [headLn c] = headLn c ++ [10] := by simp [linesT]
      rw [e1, e2, linesT_app, ih, e3]
      simp [headT, headLn]
  unfold repoT encR
  rw [linesT_app, h1, h2]
/-- What makes a repository's lines plain. -/
structure PlainR (r : RepoD) : Prop where
  com : ∀ c ∈ r.commits, (∀ b ∈ c.who, 32 < b.toNat) ∧ c.parents.length ≤ 2 ∧ (∀ p ∈ c.parents, 0 ≤ p ∧ p < 100) ∧ plainT c.tree ∧ c.tree.length ≤ 8 ∧ ∀ f ∈ c.tree, f.text.length ≤ 10
  head : ∀ h ∈ r.heads, (∀ b ∈ h.name, 32 < b.toNat) ∧ 0 ≤ h.at_ ∧ h.at_ < 100
  nc : r.commits.length ≤ 16
  nh : r.heads.length ≤ 5
theorem spl_par : ∀ {l : List Int} {p : Str}, (∀ q ∈ l, 0 ≤ q ∧ q < 100) → spl 32 (parT l) p = p :: l.map fun q => decS q.toNat := by
  intro l
  induction l with
  | nil => intro p _; rfl
  | cons q l ih =>
    intro p h
    have hq := h q (by simp)
    have e : parT (q :: l) = 32 :: (decS q.toNat ++ parT l) := by simp [parT]
    rw [e]
    simp only [spl, if_true]
    rw [spl_app (decS_no (by omega) 32 (by decide)), ih fun x hx => h x (by simp [hx])]
    simp
theorem comL_words {c : CommitD} (h1 : ∀ b ∈ c.who, 32 < b.toNat) (h2 : ∀ q ∈ c.parents, 0 ≤ q ∧ q < 100) : spl 32 (comL c) [] = wCommit :: c.who :: c.parents.map fun q => decS q.toNat := by
  have e : comL c = wCommit ++ (32 :: (c.who ++ parT c.parents)) := by simp [comL, comW, wCommit]
  rw [e, spl_app (by decide)]
  simp only [spl, if_true, List.nil_append]
  rw [spl_app (fun h => by have := h1 _ h; simp at this), spl_par h2]
  simp
theorem headLn_words {h : HeadD} (h1 : ∀ b ∈ h.name, 32 < b.toNat) (h2 : 0 ≤ h.at_ ∧ h.at_ < 100) : spl 32 (headLn h) [] = [wBranch, h.name, decS h.at_.toNat] := by
  have e : headLn h = wBranch ++ (32 :: (h.name ++ (32 :: decS h.at_.toNat))) := by simp [headLn, wBranch]
  rw [e, spl_app (by decide)]
  simp only [spl, if_true, List.nil_append]
  rw [spl_app (fun h => by have := h1 _ h; simp at this)]
  simp only [spl, if_true, List.nil_append]
  rw [spl_none' (decS_no (by omega) 32 (by decide))]
  rfl
theorem parT_no {l : List Int} (h : ∀ q ∈ l, 0 ≤ q ∧ q < 100) : (10 : UInt8) ∉ parT l := by
  intro hm
  simp only [parT, List.mem_flatten, List.mem_map] at hm
  obtain ⟨_, ⟨q, hq, rfl⟩, hm⟩ := hm
  have := h q hq
  rcases List.mem_cons.1 hm with h0 | hm
  · cases h0
  · exact decS_no (by omega) 10 (by decide) hm
theorem encR_no {r : RepoD} (P : PlainR r) : ∀ l ∈ encR r, (10 : UInt8) ∉ l := by
  intro l hl
  rcases List.mem_append.1 hl with hl | hl
  · simp only [encC, List.mem_flatten, List.mem_map] at hl
    obtain ⟨_, ⟨c, hc, rfl⟩, hl⟩ := hl
    obtain ⟨q1, q2, q3, q4, _⟩ := P.com c hc
    rcases List.mem_cons.1 hl with rfl | hl
    · simp only [comL, comW, List.mem_append, not_or]
      exact ⟨⟨by decide, fun h => by have := q1 _ h; simp at this⟩, parT_no q3⟩
    · exact encT_no q4 l hl
  · simp only [encH, List.mem_map] at hl
    obtain ⟨h, hh, rfl⟩ := hl
    obtain ⟨q1, q2, q3⟩ := P.head h hh
    simp only [headLn, List.mem_append, not_or]
    exact ⟨⟨⟨by decide, fun h => by have := q1 _ h; simp at this⟩, by decide⟩, decS_no (by omega) 10 (by decide)⟩

/-- The program's RepoRead: one line more. -/
def riStep (num : Str → Int × Bool) (r : RepoD) (l : Str) (ls : List Str) : Option (RepoD × List Str) :=
  if ((spl 32 l []).drop 2).all (fun q => (num q).2) = true then
    (if (spl 32 l []).getD 0 [] = wCommit ∧ 2 ≤ (spl 32 l []).length then
      some (⟨r.commits ++ [⟨((spl 32 l []).drop 2).map fun q => (num q).1, (spl 32 l []).getD 1 [], (rfI num ls.length [] ls).1⟩], r.heads⟩, (rfI num ls.length [] ls).2)
    else if (spl 32 l []).getD 0 [] = wBranch ∧ (spl 32 l []).length = 3 then
      some (⟨r.commits, r.heads ++ [⟨(spl 32 l []).getD 1 [], (num ((spl 32 l []).getD 2 [])).1⟩]⟩, ls)
    else none)
  else none
def riF (num : Str → Int × Bool) : Nat → RepoD → List Str → Option RepoD
  | 0, r, _ => some r
  | _ + 1, r, [] => some r
  | n + 1, r, l :: ls => match riStep num r l ls with
    | none => none
    | some p => riF num n p.1 p.2
theorem rfI_le {num} : ∀ {n : Nat} {t : List FileD} {ls : List Str}, (rfI num n t ls).2.length ≤ ls.length := by
  intro n
  induction n with
  | zero => intro t ls; exact Nat.le_refl _
  | succ n ih =>
    intro t ls
    cases ls with
    | nil => exact Nat.le_refl _
    | cons l ls =>
      rw [rfI]
      split
      · split
        · refine Nat.le_trans ih ?_
          simp; omega
        · exact Nat.le_refl _
      · exact Nat.le_refl _
theorem riStep_le {num r l ls p} (h : riStep num r l ls = some p) : p.2.length ≤ ls.length := by
  unfold riStep at h
  split at h
  · split at h
    · cases h; exact rfI_le
    · split at h
      · cases h; exact Nat.le_refl _
      · cases h
  · cases h
theorem riF_fuel {num} : ∀ {n m : Nat} {r : RepoD} {ls : List Str}, ls.length ≤ n → ls.length ≤ m → riF num n r ls = riF num m r ls := by
  intro n
  induction n with
  | zero =>
    intro m r ls h1 _
    have : ls = [] := List.eq_nil_of_length_eq_zero (by omega)
    subst this
    cases m <;> rfl
  | succ n ih =>
    intro m r ls h1 h2
    cases ls with
    | nil => cases m <;> rfl
    | cons l ls =>
      obtain ⟨m, rfl⟩ : ∃ k, m = k + 1 := ⟨m - 1, by simp at h2; omega⟩
      simp at h1 h2
      simp only [riF]
      cases hs : riStep num r l ls with
      | none => rfl
      | some p =>
        have := riStep_le hs
        exact ih (by omega) (by omega)
theorem dec_all {num : Str → Int × Bool} (hnum : ∀ n : Nat, n < 100 → num (decS n) = ((n : Int), true)) {l : List Int} (h : ∀ q ∈ l, 0 ≤ q ∧ q < 100) : ((l.map fun q => decS q.toNat).all fun q => (num q).2) = true ∧ ((l.map fun q => decS q.toNat).map fun q => (num q).1) = l := by
  induction l with
  | nil => exact ⟨rfl, rfl⟩
  | cons q l ih =>
    obtain ⟨h1, h2⟩ := ih fun x hx => h x (by simp [hx])
    have hq := h q (by simp)
    have := hnum q.toNat (by omega)
    simp only [List.map_cons, List.all_cons, this, h1, h2]
    exact ⟨rfl, by rw [show ((q.toNat : Nat) : Int) = q by omega]⟩
theorem riF_heads {num} (hnum : ∀ n : Nat, n < 100 → num (decS n) = ((n : Int), true)) : ∀ {hs : List HeadD}, (∀ h ∈ hs, (∀ b ∈ h.name, 32 < b.toNat) ∧ 0 ≤ h.at_ ∧ h.at_ < 100) → ∀ (r : RepoD) (n : Nat), (encH hs).length ≤ n → riF num n r (encH hs) = some ⟨r.commits, r.heads ++ hs⟩ := by
  intro hs
  induction hs with
  | nil => intro _ r n _; cases n <;> simp [encH, riF]
  | cons h hs ih =>
    intro hp r n hn
    obtain ⟨n, rfl⟩ : ∃ k, n = k + 1 := ⟨n - 1, by simp [encH] at hn; omega⟩
    obtain ⟨h1, h2, h3⟩ := hp h (by simp)
    have e : encH (h :: hs) = headLn h :: encH hs := rfl
    rw [e] at hn ⊢
    have hst : riStep num r (headLn h) (encH hs) = some (⟨r.commits, r.heads ++ [h]⟩, encH hs) := by
      unfold riStep
      rw [headLn_words h1 ⟨h2, h3⟩]
      have hd := hnum h.at_.toNat (by omega)
      have ha : ((h.at_.toNat : Nat) : Int) = h.at_ := by omega
      rw [if_pos (by simp [hd]), if_neg (by simp [wBranch, wCommit]), if_pos ⟨rfl, rfl⟩]
      simp [hd, ha]
    rw [riF, hst]
    simp only []
    rw [ih (fun x hx => hp x (by simp [hx])) _ n (by simp at hn; omega)]
    simp
theorem stops_encR {cs : List CommitD} {hs : List HeadD} (hc : ∀ c ∈ cs, (∀ b ∈ c.who, 32 < b.toNat) ∧ ∀ q ∈ c.parents, 0 ≤ q ∧ q < 100) (hh : ∀ h ∈ hs, (∀ b ∈ h.name, 32 < b.toNat) ∧ 0 ≤ h.at_ ∧ h.at_ < 100) : stopsL (encC cs ++ encH hs) := by
  cases cs with
  | cons c cs =>
    obtain ⟨h1, h2⟩ := hc c (by simp)
    refine .inr ⟨comL c, _, by simp only [encC, List.map_cons, List.flatten_cons, List.cons_append]; rfl, ?_⟩
    rw [comL_words h1 h2]
    simp [wCommit]
  | nil =>
    cases hs with
    | nil => exact .inl rfl
    | cons h hs =>
      obtain ⟨h1, h2⟩ := hh h (by simp)
      refine .inr ⟨headLn h, _, rfl, ?_⟩
      rw [headLn_words h1 h2]
      simp [wBranch]
theorem riF_enc {num} (hnum : ∀ n : Nat, n < 100 → num (decS n) = ((n : Int), true)) {hs : List HeadD} (hh : ∀ h ∈ hs, (∀ b ∈ h.name, 32 < b.toNat) ∧ 0 ≤ h.at_ ∧ h.at_ < 100) : ∀ {cs : List CommitD}, (∀ c ∈ cs, (∀ b ∈ c.who, 32 < b.toNat) ∧ (∀ q ∈ c.parents, 0 ≤ q ∧ q < 100) ∧ plainT c.tree) →
    ∀ (r : RepoD) (n : Nat), (encC cs ++ encH hs).length ≤ n → riF num n r (encC cs ++ encH hs) = some ⟨r.commits ++ cs, r.heads ++ hs⟩ := by
  intro cs
  induction cs with
  | nil =>
    intro _ r n hn
    have e : encC [] ++ encH hs = encH hs := rfl
    rw [e] at hn ⊢
    rw [riF_heads hnum hh r n hn]
    simp
  | cons c cs ih =>
    intro hp r n hn
    obtain ⟨h1, h2, h3⟩ := hp c (by simp)
    have e : encC (c :: cs) ++ encH hs = comL c :: (encT c.tree ++ (encC cs ++ encH hs)) := by simp [encC]
    rw [e] at hn ⊢
    obtain ⟨n, rfl⟩ : ∃ k, n = k + 1 := ⟨n - 1, by simp at hn; omega⟩
    have hst : stopsL (encC cs ++ encH hs) := stops_encR (fun x hx => ⟨(hp x (by simp [hx])).1, (hp x (by simp [hx])).2.1⟩) hh
    have hrf := rfI_enc hnum hst h3 [] (encT c.tree ++ (encC cs ++ encH hs)).length (Nat.le_refl _)
    obtain ⟨d1, d2⟩ := dec_all hnum h2
    have hs1 : riStep num r (comL c) (encT c.tree ++ (encC cs ++ encH hs)) = some (⟨r.commits ++ [c], r.heads⟩, encC cs ++ encH hs) := by
      unfold riStep
      rw [comL_words h1 h2, hrf]
      simp only [List.drop_succ_cons, List.drop_zero, d1, d2, List.getD_cons_zero, List.getD_cons_succ, List.nil_append]
      rw [if_pos trivial, if_pos ⟨trivial, by simp⟩]
    rw [riF, hs1]
    simp only []
    rw [ih (fun x hx => hp x (by simp [hx])) _ n (by simp at hn; simp; omega)]
    simp
def repoReadI (num : Str → Int × Bool) (ok : RepoD → Bool) (s : Str) : RepoD × Bool :=
  if (linesI s).2 = true then match riF num (linesI s).1.length ⟨[], []⟩ (linesI s).1 with
    | some r => if ok r = true ∧ repoT r = s then (r, true) else (⟨[], []⟩, false)
    | none => (⟨[], []⟩, false)
  else (⟨[], []⟩, false)

/-- The reference's RepoRead. -/
def rdCom (ls : List Str) : Nat → List CommitD → (Nat × Bool) → List CommitD × (Nat × Bool)
  | 0, t, a => (t, a)
  | n + 1, t, a => if rdMore ls (wCommit ++ [32]) a then
      rdCom ls n (t ++ [⟨((cutB (rdLine ls a).1 32 4).drop 2).map numB, (cutB (rdLine ls a).1 32 4).getD 1 [], (rdTree ls 8 [] (rdLine ls a).2).1⟩]) (rdTree ls 8 [] (rdLine ls a).2).2
    else (t, a)
def rdHd (ls : List Str) : Nat → List HeadD → (Nat × Bool) → Option (List HeadD × (Nat × Bool))
  | 0, t, a => some (t, a)
  | n + 1, t, a => if rdMore ls (wBranch ++ [32]) a then
      (if ¬ (cutB (rdLine ls a).1 32 3).length = 3 then none
      else rdHd ls n (t ++ [⟨(cutB (rdLine ls a).1 32 3).getD 1 [], numB ((cutB (rdLine ls a).1 32 3).getD 2 [])⟩]) (rdLine ls a).2)
    else some (t, a)
def repoReadS (ok : RepoD → Bool) (s : Str) : RepoD × Bool :=
  match rdHd (cutB s 10 1430) 5 [] (rdCom (cutB s 10 1430) 16 [] (0, false)).2 with
  | some p => if p.2.2 = false ∧ p.2.1 + 1 = (cutB s 10 1430).length ∧ ok ⟨(rdCom (cutB s 10 1430) 16 [] (0, false)).1, p.1⟩ = true ∧ repoT ⟨(rdCom (cutB s 10 1430) 16 [] (0, false)).1, p.1⟩ = s then (⟨(rdCom (cutB s 10 1430) 16 [] (0, false)).1, p.1⟩, true) else (⟨[], []⟩, false)
  | none => (⟨[], []⟩, false)
theorem numB_map {l : List Int} (h : ∀ q ∈ l, 0 ≤ q ∧ q < 100) : (l.map fun q => decS q.toNat).map numB = l := by
  induction l with
  | nil => rfl
  | cons q l ih =>
    have hq := h q (by simp)
    simp only [List.map_cons, ih fun x hx => h x (by simp [hx]), numB_dec (show q.toNat < 100 by omega)]
    rw [show ((q.toNat : Nat) : Int) = q by omega]
theorem get_drop {ls : List Str} {a : Nat} {l : Str} {r : List Str} (h : ls.drop a = l :: r) : ls.getD a [] = l ∧ ls.drop (a + 1) = r ∧ ls.length = a + 1 + r.length := by
  have h0 : (ls.drop a)[0]? = some l := by rw [h]; rfl
  rw [List.getElem?_drop, Nat.add_zero] at h0
  refine ⟨by simp [List.getD_eq_getElem?_getD, h0], by rw [← List.drop_drop, h]; rfl, ?_⟩
  have : ls.length - a = r.length + 1 := by rw [← List.length_drop, h]; rfl
  omega
theorem line_drop {ls : List Str} {a : Nat} {l m : Str} {r : List Str} (h : ls.drop a = l :: m :: r) (hd : Str) : rdLine ls (a, false) = (l, (a + 1, false)) ∧ (rdMore ls hd (a, false) = prefB hd l) := by
  obtain ⟨h1, h2, h3⟩ := get_drop h
  simp only [List.length_cons] at h3
  constructor
  · unfold rdLine
    rw [if_neg (show ¬ ls.length ≤ a + 1 by omega), h1]
  · unfold rdMore
    rw [h1]
    have : a + 1 < ls.length := by omega
    simp [this]
theorem more_last {ls : List Str} {a : Nat} {l : Str} (h : ls.drop a = [l]) (hd : Str) : rdMore ls hd (a, false) = false := by
  obtain ⟨h1, h2, h3⟩ := get_drop h
  simp only [List.length_nil] at h3
  unfold rdMore
  have : ¬ a + 1 < ls.length := by omega
  simp [this]
theorem cut_words {l : Str} {w : List Str} {m : Nat} (h : spl 32 l [] = w) (hm : w.length ≤ m + 1) : cutB l 32 m = w := by
  have hc : l.count 32 ≤ m := by
    have := spl_len 32 l []
    rw [h] at this
    omega
  have : cutB l ((32 : UInt8).toNat : Int) m = spl 32 l [] := cut_spl (by omega)
  rw [h] at this
  exact this
theorem rdHd_enc {ls : List Str} : ∀ {hs : List HeadD}, (∀ h ∈ hs, (∀ b ∈ h.name, 32 < b.toNat) ∧ 0 ≤ h.at_ ∧ h.at_ < 100) → ∀ (t : List HeadD) (n a : Nat), hs.length ≤ n → ls.drop a = encH hs ++ [[]] → rdHd ls n t (a, false) = some (t ++ hs, (a + hs.length, false)) := by
  intro hs
  induction hs with
  | nil =>
    intro _ t n a _ h
    cases n with
    | zero => simp [rdHd]
    | succ n => rw [rdHd, more_last h]; simp
  | cons h hs ih =>
    intro hp t n a hn hd
    obtain ⟨n, rfl⟩ : ∃ k, n = k + 1 := ⟨n - 1, by simp at hn; omega⟩
    obtain ⟨h1, h2, h3⟩ := hp h (by simp)
    obtain ⟨m, r, hr⟩ : ∃ m r, encH hs ++ [[]] = m :: r := by cases hs <;> exact ⟨_, _, rfl⟩
    have e : encH (h :: hs) ++ [[]] = headLn h :: (encH hs ++ [[]]) := rfl
    rw [e] at hd
    obtain ⟨_, hd2, _⟩ := get_drop hd
    have hd' := hd
    rw [hr] at hd'
    obtain ⟨q1, q2⟩ := line_drop hd' (wBranch ++ [32])
    have hw := cut_words (m := 3) (headLn_words h1 ⟨h2, h3⟩) (by simp)
    rw [rdHd, q2, q1]
    have hpre : prefB (wBranch ++ [32]) (headLn h) = true := by simp [prefB, wBranch, headLn]
    rw [hpre, if_pos rfl, hw, if_neg (by simp)]
    simp only [List.getD_cons_zero, List.getD_cons_succ]
    rw [numB_dec (by omega), show ((h.at_.toNat : Nat) : Int) = h.at_ by omega]
    rw [ih (fun x hx => hp x (by simp [hx])) _ n (a + 1) (by simp at hn; omega) hd2]
    simp
    omega
theorem rdCom_enc {ls : List Str} {hs : List HeadD} (hh : ∀ h ∈ hs, (∀ b ∈ h.name, 32 < b.toNat) ∧ 0 ≤ h.at_ ∧ h.at_ < 100) : ∀ {cs : List CommitD}, (∀ c ∈ cs, (∀ b ∈ c.who, 32 < b.toNat) ∧ c.parents.length ≤ 2 ∧ (∀ p ∈ c.parents, 0 ≤ p ∧ p < 100) ∧ plainT c.tree ∧ c.tree.length ≤ 8 ∧ ∀ f ∈ c.tree, f.text.length ≤ 10) →
    ∀ (t : List CommitD) (n a : Nat), cs.length ≤ n → ls.drop a = encC cs ++ (encH hs ++ [[]]) → rdCom ls n t (a, false) = (t ++ cs, (a + (encC cs).length, false)) := by
  have hrest : ∀ (cs : List CommitD), ∃ m r, encC cs ++ (encH hs ++ [[]]) = m :: r := by
    intro cs
    cases cs with
    | nil => cases hs <;> exact ⟨_, _, rfl⟩
    | cons c cs => exact ⟨comL c, _, by simp only [encC, List.map_cons, List.flatten_cons, List.cons_append]; rfl⟩
  have hstop : ∀ (cs : List CommitD), stopsS (encC cs ++ (encH hs ++ [[]])) := by
    intro cs
    cases cs with
    | cons c cs =>
      obtain ⟨m, r, hr⟩ : ∃ m r, (encT c.tree ++ (encC cs ++ (encH hs ++ [[]]))) = m :: r := by
        obtain ⟨m, r, hr⟩ := hrest cs
        cases hq : encT c.tree with
        | nil => exact ⟨m, r, by simpa using hr⟩
        | cons x y => exact ⟨x, _, rfl⟩
      refine .inr ⟨comL c, m, r, ?_, by simp [prefB, comL, comW]⟩
      rw [← hr]
      simp [encC]
    | nil =>
      cases hs with
      | nil => exact .inl ⟨[], rfl⟩
      | cons h hs =>
        obtain ⟨m, r, hr⟩ : ∃ m r, encH hs ++ [[]] = m :: r := by cases hs <;> exact ⟨_, _, rfl⟩
        exact .inr ⟨headLn h, m, r, by rw [← hr]; rfl, by simp [prefB, headLn]⟩
  intro cs
  induction cs with
  | nil =>
    intro _ t n a _ hd
    cases n with
    | zero => simp [rdCom, encC]
    | succ n =>
      have hm : rdMore ls (wCommit ++ [32]) (a, false) = false := by
        cases hs with
        | nil => exact more_last hd _
        | cons h hs =>
          obtain ⟨m, r, hr⟩ : ∃ m r, encH hs ++ [[]] = m :: r := by cases hs <;> exact ⟨_, _, rfl⟩
          have e : encC [] ++ (encH (h :: hs) ++ [[]]) = headLn h :: (encH hs ++ [[]]) := rfl
          rw [e, hr] at hd
          rw [(line_drop hd _).2]
          simp [prefB, wCommit, headLn]
      rw [rdCom, hm]
      simp [encC]
  | cons c cs ih =>
    intro hp t n a hn hd
    obtain ⟨n, rfl⟩ : ∃ k, n = k + 1 := ⟨n - 1, by simp at hn; omega⟩
    obtain ⟨h1, h2, h3, h4, h5, h6⟩ := hp c (by simp)
    have e : encC (c :: cs) ++ (encH hs ++ [[]]) = comL c :: (encT c.tree ++ (encC cs ++ (encH hs ++ [[]]))) := by simp [encC]
    rw [e] at hd
    obtain ⟨_, hd2, _⟩ := get_drop hd
    obtain ⟨m, r, hr⟩ : ∃ m r, (encT c.tree ++ (encC cs ++ (encH hs ++ [[]]))) = m :: r := by
      obtain ⟨m, r, hr⟩ := hrest cs
      cases hq : encT c.tree with
      | nil => exact ⟨m, r, by simpa using hr⟩
      | cons x y => exact ⟨x, _, rfl⟩
    have hd' := hd
    rw [hr] at hd'
    obtain ⟨q1, q2⟩ := line_drop hd' (wCommit ++ [32])
    have hw := cut_words (m := 4) (comL_words h1 h3) (by simp; omega)
    have hpre : prefB (wCommit ++ [32]) (comL c) = true := by simp [prefB, wCommit, comL, comW]
    have ht := rdTree_enc (ls := ls) (hstop cs) h4 h6 [] 8 (a + 1) (.inr h5) hd2
    have hd3 : ls.drop (a + 1 + (encT c.tree).length) = encC cs ++ (encH hs ++ [[]]) := by rw [← List.drop_drop, hd2]; simp
    rw [rdCom, q2, q1, hpre, if_pos rfl, hw]
    simp only [List.drop_succ_cons, List.drop_zero, List.getD_cons_zero, List.getD_cons_succ, ht, List.nil_append]
    rw [numB_map h3, ih (fun x hx => hp x (by simp [hx])) _ n _ (by simp at hn; omega) hd3]
    simp [encC]
    omega

theorem encC_len : ∀ {l : List CommitD}, (∀ c ∈ l, c.tree.length ≤ 8 ∧ ∀ f ∈ c.tree, f.text.length ≤ 10) → (encC l).length ≤ 89 * l.length := by
  intro l
  induction l with
  | nil => intro _; simp [encC]
  | cons c l ih =>
    intro h
    obtain ⟨h1, h2⟩ := h c (by simp)
    have h3 := enc_len h2
    have h4 := ih fun x hx => h x (by simp [hx])
    have e : encC (c :: l) = comL c :: (encT c.tree ++ encC l) := by simp [encC]
    rw [e]
    simp; omega
theorem repoReadI_enc {num} (hnum : ∀ n : Nat, n < 100 → num (decS n) = ((n : Int), true)) {ok : RepoD → Bool} {r : RepoD} (P : PlainR r) (h : ok r = true) : repoReadI num ok (repoT r) = (r, true) := by
  have h1 : linesI (repoT r) = (encR r, true) := by rw [repoT_enc]; exact linesI_enc (encR_no P)
  have h2 := riF_enc hnum P.head (cs := r.commits) (fun c hc => ⟨(P.com c hc).1, (P.com c hc).2.2.1, (P.com c hc).2.2.2.1⟩) ⟨[], []⟩ (encR r).length (Nat.le_refl _)
  have h3 : riF num (encR r).length ⟨[], []⟩ (encR r) = some r := by
    have : encR r = encC r.commits ++ encH r.heads := rfl
    rw [this] at h2 ⊢
    rw [h2]; simp
  unfold repoReadI
  rw [h1]
  simp only [h3]
  simp [h]
theorem repoReadS_enc {ok : RepoD → Bool} {r : RepoD} (P : PlainR r) (h : ok r = true) : repoReadS ok (repoT r) = (r, true) := by
  have hl : (encR r).length ≤ 1429 := by
    have h1 := encC_len (l := r.commits) fun c hc => ⟨(P.com c hc).2.2.2.2.1, (P.com c hc).2.2.2.2.2⟩
    have h2 := P.nc
    have h3 := P.nh
    have : (encR r).length = (encC r.commits).length + r.heads.length := by simp [encR, encH]
    omega
  have h1 : cutB (repoT r) 10 1430 = encR r ++ [[]] := by
    have e : spl 10 (repoT r) [] = encR r ++ [[]] := by rw [repoT_enc]; exact spl_lines (encR_no P)
    have hc : (repoT r).count 10 ≤ 1430 := by
      have := spl_len 10 (repoT r) []
      rw [e] at this
      simp at this
      omega
    have : cutB (repoT r) ((10 : UInt8).toNat : Int) 1430 = spl 10 (repoT r) [] := cut_spl (by omega)
    rw [e] at this
    exact this
  have e0 : encR r ++ [[]] = encC r.commits ++ (encH r.heads ++ [[]]) := by simp [encR]
  have h2 := rdCom_enc (ls := encR r ++ [[]]) P.head (cs := r.commits) P.com [] 16 0 P.nc (by rw [List.drop_zero, e0])
  have h3 := rdHd_enc (ls := encR r ++ [[]]) (hs := r.heads) P.head [] 5 (0 + (encC r.commits).length) P.nh (by rw [e0]; simp)
  unfold repoReadS
  rw [h1, h2]
  simp only [h3]
  rw [if_pos]
  · simp
  · simp [h, encR, encH]
    omega
theorem repoReadI_ok {num ok s} : ((repoReadI num ok s).2 = true → ok (repoReadI num ok s).1 = true ∧ repoT (repoReadI num ok s).1 = s) ∧ ((repoReadI num ok s).2 = false → (repoReadI num ok s).1 = ⟨[], []⟩) := by
  generalize hx : repoReadI num ok s = x
  unfold repoReadI at hx
  split at hx
  · split at hx
    · split at hx
      · rename_i h; subst hx; exact ⟨fun _ => h, fun h => (by cases h)⟩
      · subst hx; exact ⟨fun h => (by cases h), fun _ => rfl⟩
    · subst hx; exact ⟨fun h => (by cases h), fun _ => rfl⟩
  · subst hx; exact ⟨fun h => (by cases h), fun _ => rfl⟩
theorem repoReadS_ok {ok s} : ((repoReadS ok s).2 = true → ok (repoReadS ok s).1 = true ∧ repoT (repoReadS ok s).1 = s) ∧ ((repoReadS ok s).2 = false → (repoReadS ok s).1 = ⟨[], []⟩) := by
  generalize hx : repoReadS ok s = x
  unfold repoReadS at hx
  split at hx
  · split at hx
    · rename_i h; subst hx; exact ⟨fun _ => ⟨h.2.2.1, h.2.2.2⟩, fun h => (by cases h)⟩
    · subst hx; exact ⟨fun h => (by cases h), fun _ => rfl⟩
  · subst hx; exact ⟨fun h => (by cases h), fun _ => rfl⟩
theorem repoRead_eq {num} (hnum : ∀ n : Nat, n < 100 → num (decS n) = ((n : Int), true)) {ok : RepoD → Bool} (O : ∀ r, ok r = true → PlainR r) (s : Str) : repoReadI num ok s = repoReadS ok s := by
  obtain ⟨a1, a2⟩ := repoReadI_ok (num := num) (ok := ok) (s := s)
  obtain ⟨b1, b2⟩ := repoReadS_ok (ok := ok) (s := s)
  cases hI : (repoReadI num ok s).2 with
  | true =>
    obtain ⟨h1, h2⟩ := a1 hI
    have h3 := repoReadS_enc (O _ h1) h1
    rw [h2] at h3
    rw [h3]; exact Prod.ext rfl hI
  | false =>
    cases hS : (repoReadS ok s).2 with
    | true =>
      obtain ⟨h1, h2⟩ := b1 hS
      have h3 := repoReadI_enc hnum (O _ h1) h1
      rw [h2] at h3
      rw [h3] at hI; cases hI
    | false => exact Prod.ext ((a2 hI).trans (b2 hS).symm) (hI.trans hS.symm)

theorem nameB_plain {s : Str} (h : nameB s = true) : ∀ b ∈ s, 32 < b.toNat := by
  intro b hb
  simp only [nameB, Bool.and_eq_true, List.all_eq_true] at h
  have := h.2 b hb
  simp only [wordB, Bool.or_eq_true, Bool.and_eq_true, decide_eq_true_eq] at this
  omega
theorem plainR_of {r : RepoD} (h : repoI r = true) : PlainR r := by
  have hn := repo_n h
  have hI := (repoI_iff r).1 h
  obtain ⟨q1, q2⟩ := (headsB_iff _ _).1 hI.2.2
  refine ⟨fun c hc => ?_, fun x hx => ?_, hn, q1⟩
  · obtain ⟨i, hi, rfl⟩ := List.getElem_of_mem hc
    obtain ⟨p1, p2, p3⟩ := repo_use h hi
    have h1 := hI.2.1 i hi
    have hg : r.commits.getD i default = r.commits[i] := by simp [List.getD_eq_getElem?_getD, hi]
    simp only [okCI, okI1, hg, Bool.and_eq_true] at h1
    exact ⟨nameB_plain h1.1.1.2, p1, fun p hp => by have := p2 p hp; omega, okT_treeI.plain p3, okT_treeI.n p3, okT_treeI.ten p3⟩
  · obtain ⟨i, hi, rfl⟩ := List.getElem_of_mem hx
    have h1 := q2 i hi
    have hg : r.heads.getD i default = r.heads[i] := by simp [List.getD_eq_getElem?_getD, hi]
    simp only [okHd, hg, Bool.and_eq_true, inN, decide_eq_true_eq] at h1
    exact ⟨nameB_plain h1.1.1, h1.1.2.1, by omega⟩

end Vx
end Go.Proofs.YtnmmlcjnjnooaaaGreatDoor
/-
  Contracts: repositories read (RepoRead, the reference's).
-/
namespace Go.Proofs.YtnmmlcjnjnooaaaGreatDoor
namespace Vx
open Go.RowKit
set_option maxRecDepth 8000

theorem cutL_pos {b : Int} {m : Nat} : ∀ {s c : Str} {n : Nat}, 1 ≤ (cutL b m s c n).length := by
  intro s
  induction s with
  | nil => intro c n; simp -implicitDefEqProofs [cutL]
  | cons x s ih =>
    intro c n
    simp only [cutL]
    split
    · split
      · simp
      · exact ih
    · simp
theorem cut_two {l : Str} (h : prefB (wCommit ++ [32]) l = true) : 2 ≤ (cutB l 32 4).length := by
  simp only [prefB, Bool.and_eq_true, decide_eq_true_eq] at h
  have e : l = (wCommit ++ [32]) ++ l.drop 7 := by
    have := List.take_append_drop 7 l
    have h2 : l.take 7 = wCommit ++ [32] := h.2
    rw [h2] at this
    exact this.symm
  rw [e]
  have h3 := cutL_pos (b := 32) (m := 4) (s := l.drop 7) (c := []) (n := 1)
  simp -implicitDefEqProofs [cutB, cutL, wCommit]
  omega
theorem okR_I {r : RepoD} (h : repoI r = true) : okR r := okR_of h fun c hc f hf => by
  obtain ⟨i, hi, rfl⟩ := List.getElem_of_mem hc
  have := (treeI_plain (repo_use h hi).2.2 f hf).1.2
  omega

def rcW (ls : List Str) (s : List CommitD × (Nat × Bool)) : List Str := cutB (rdLine ls s.2).1 32 4
def rcStep (ls : List Str) (s : List CommitD × (Nat × Bool)) : List CommitD × (Nat × Bool) := (s.1 ++ [⟨((rcW ls s).drop 2).map numB, (rcW ls s).getD 1 [], (rdTree ls 8 [] (rdLine ls s.2).2).1⟩], (rdTree ls 8 [] (rdLine ls s.2).2).2)
def rcAt (ls : List Str) (a : Nat × Bool) : Nat → List CommitD × (Nat × Bool)
  | 0 => ([], a)
  | i + 1 => rcStep ls (rcAt ls a i)
theorem rcAt_len {ls a} : ∀ i, (rcAt ls a i).1.length = i := by
  intro i
  induction i with
  | zero => rfl
  | succ i ih => simp -implicitDefEqProofs [rcAt, rcStep, ih]
theorem rcAt_bd {ls : List Str} {a : Nat × Bool} (h : ls.length ≤ 1048577) (h1 : a.1 ≤ 1048577) : ∀ i, (rcAt ls a i).2.1 ≤ 1048577 := by
  intro i
  induction i with
  | zero => exact h1
  | succ i ih => exact rdTree_bd h (rdLine_bd h ih)
theorem rc_step {ls : List Str} {a : Nat × Bool} {i : Nat} (hi : i < 16) :
    (rdMore ls (wCommit ++ [32]) (rcAt ls a i).2 = false → rdCom ls (16 - i) (rcAt ls a i).1 (rcAt ls a i).2 = rcAt ls a i) ∧
    (rdMore ls (wCommit ++ [32]) (rcAt ls a i).2 = true → rdCom ls (16 - i) (rcAt ls a i).1 (rcAt ls a i).2 = rdCom ls (16 - (i + 1)) (rcAt ls a (i + 1)).1 (rcAt ls a (i + 1)).2) := by
  obtain ⟨n, hn⟩ : ∃ n, 16 - i = n + 1 := ⟨15 - i, by omega⟩
  have hn' : 16 - (i + 1) = n := by omega
  rw [hn, hn']
  refine ⟨fun h => ?_, fun h => ?_⟩
  · rw [rdCom, h]; rfl
  · rw [rdCom, h, if_pos rfl]; rfl
theorem rc_two {ls : List Str} {s : List CommitD × (Nat × Bool)} (h : rdMore ls (wCommit ++ [32]) s.2 = true) : 2 ≤ (rcW ls s).length := by
  unfold rdMore at h
  simp only [Bool.and_eq_true, Bool.not_eq_true', decide_eq_true_eq] at h
  have e : rdLine ls s.2 = (ls.getD s.2.1 [], (s.2.1 + 1, s.2.2)) := if_neg (by omega)
  unfold rcW
  rw [e]
  exact cut_two h.2
def rhW (ls : List Str) (s : List HeadD × (Nat × Bool)) : List Str := cutB (rdLine ls s.2).1 32 3
def rhStep (ls : List Str) (s : List HeadD × (Nat × Bool)) : List HeadD × (Nat × Bool) := (s.1 ++ [⟨(rhW ls s).getD 1 [], numB ((rhW ls s).getD 2 [])⟩], (rdLine ls s.2).2)
def rhAt (ls : List Str) (a : Nat × Bool) : Nat → List HeadD × (Nat × Bool)
  | 0 => ([], a)
  | i + 1 => rhStep ls (rhAt ls a i)
theorem rhAt_len {ls a} : ∀ i, (rhAt ls a i).1.length = i := by
  intro i
  induction i with
  | zero => rfl
  | succ i ih => simp -implicitDefEqProofs [rhAt, rhStep, ih]
theorem rhAt_bd {ls : List Str} {a : Nat × Bool} (h : ls.length ≤ 1048577) (h1 : a.1 ≤ 1048577) : ∀ i, (rhAt ls a i).2.1 ≤ 1048577 := by
  intro i
  induction i with
  | zero => exact h1
  | succ i ih => exact rdLine_bd h ih
theorem rh_step {ls : List Str} {a : Nat × Bool} {i : Nat} (hi : i < 5) :
    (rdMore ls (wBranch ++ [32]) (rhAt ls a i).2 = false → rdHd ls (5 - i) (rhAt ls a i).1 (rhAt ls a i).2 = some (rhAt ls a i)) ∧
    (rdMore ls (wBranch ++ [32]) (rhAt ls a i).2 = true → ¬ (rhW ls (rhAt ls a i)).length = 3 → rdHd ls (5 - i) (rhAt ls a i).1 (rhAt ls a i).2 = none) ∧
    (rdMore ls (wBranch ++ [32]) (rhAt ls a i).2 = true → (rhW ls (rhAt ls a i)).length = 3 → rdHd ls (5 - i) (rhAt ls a i).1 (rhAt ls a i).2 = rdHd ls (5 - (i + 1)) (rhAt ls a (i + 1)).1 (rhAt ls a (i + 1)).2) := by
  obtain ⟨n, hn⟩ : ∃ n, 5 - i = n + 1 := ⟨4 - i, by omega⟩
  have hn' : 5 - (i + 1) = n := by omega
  rw [hn, hn']
  refine ⟨fun h => ?_, fun h h1 => ?_, fun h h1 => ?_⟩
  · rw [rdHd, h]; rfl
  · rw [rdHd, h, if_pos rfl]; exact if_pos h1
  · rw [rdHd, h, if_pos rfl]; exact if_neg fun q => q h1

abbrev r24f (ls : List Str) (a : Nat × Bool) : Blk := .box 148 [.sl false 1 (eStrs ls), .int .i64 a.1, .bool a.2]
abbrev bNil : Blk := .box 26 [.nil, .nil]
def rrO (s : Str) : Inv := ⟨Nat, fun i => ⟨[(0, true, .str s), (2, true, .ptr 10 0), (3, true, .bool false), (4, true, .ptr 11 0), (5, true, .ptr 12 0)],
  [(10, bNil), (11, .box 26 [.own 13 3 (eCommits (rcAt (cutB s 10 1430) (0, false) i).1), .nil]), (13, .own 38 3 true (eCommits (rcAt (cutB s 10 1430) (0, false) i).1)), (12, r24f (cutB s 10 1430) (rcAt (cutB s 10 1430) (0, false) i).2)]⟩,
  fun i => i ≤ 16 ∧ rdCom (cutB s 10 1430) (16 - i) (rcAt (cutB s 10 1430) (0, false) i).1 (rcAt (cutB s 10 1430) (0, false) i).2 = rdCom (cutB s 10 1430) 16 [] (0, false), fun i => 16 - i⟩
def rrI (s : Str) (g : Nat) : Inv := ⟨Nat, fun j => ⟨[(0, true, .str s), (2, true, .ptr 10 0), (3, true, .bool false), (4, true, .ptr 11 0), (5, true, .ptr 12 0), (6, true, .own 14 1 (eStrs (rcW (cutB s 10 1430) (rcAt (cutB s 10 1430) (0, false) g)))), (7, true, .ptr 15 0), (8, true, .int .i64 ((j : Int) + 2))],
  [(10, bNil), (11, .box 26 [.own 13 3 (eCommits (rcAt (cutB s 10 1430) (0, false) g).1), .nil]), (13, .own 38 3 true (eCommits (rcAt (cutB s 10 1430) (0, false) g).1)), (12, r24f (cutB s 10 1430) (rdLine (cutB s 10 1430) (rcAt (cutB s 10 1430) (0, false) g).2).2),
   (14, .own 9 1 true (eStrs (rcW (cutB s 10 1430) (rcAt (cutB s 10 1430) (0, false) g)))), (15, .box 38 [.own 9 1 (eInts ((((rcW (cutB s 10 1430) (rcAt (cutB s 10 1430) (0, false) g)).drop 2).take j).map numB)), .str ((rcW (cutB s 10 1430) (rcAt (cutB s 10 1430) (0, false) g)).getD 1 []), .nil]),
   (9, .own 3 1 true (eInts ((((rcW (cutB s 10 1430) (rcAt (cutB s 10 1430) (0, false) g)).drop 2).take j).map numB)))]⟩,
  fun j => g < 16 ∧ rdMore (cutB s 10 1430) (wCommit ++ [32]) (rcAt (cutB s 10 1430) (0, false) g).2 = true ∧ j + 2 ≤ (rcW (cutB s 10 1430) (rcAt (cutB s 10 1430) (0, false) g)).length ∧ rdCom (cutB s 10 1430) (16 - g) (rcAt (cutB s 10 1430) (0, false) g).1 (rcAt (cutB s 10 1430) (0, false) g).2 = rdCom (cutB s 10 1430) 16 [] (0, false),
  fun j => (rcW (cutB s 10 1430) (rcAt (cutB s 10 1430) (0, false) g)).length - j⟩
def rrC (s : Str) : List CommitD × (Nat × Bool) := rdCom (cutB s 10 1430) 16 [] (0, false)
def rrH (s : Str) : Inv := ⟨Nat, fun i => ⟨[(0, true, .str s), (2, true, .ptr 10 0), (3, true, .bool false), (4, true, .ptr 11 0), (5, true, .ptr 12 0)],
  [(10, bNil), (11, .box 26 [.own 13 3 (eCommits (rrC s).1), .own 14 2 (eHeads (rhAt (cutB s 10 1430) (rrC s).2 i).1)]), (13, .own 38 3 true (eCommits (rrC s).1)), (14, .own 47 2 true (eHeads (rhAt (cutB s 10 1430) (rrC s).2 i).1)), (12, r24f (cutB s 10 1430) (rhAt (cutB s 10 1430) (rrC s).2 i).2)]⟩,
  fun i => i ≤ 5 ∧ rdHd (cutB s 10 1430) (5 - i) (rhAt (cutB s 10 1430) (rrC s).2 i).1 (rhAt (cutB s 10 1430) (rrC s).2 i).2 = rdHd (cutB s 10 1430) 5 [] (rrC s).2, fun i => 5 - i⟩
def rrInv (s : Str) (n g : Nat) : Inv := if n = 3 then rrO s else if n = 7 then rrI s g else rrH s
theorem rrInv_3 (s g) : rrInv s 3 g = rrO s := rfl
theorem rrInv_7 (s g) : rrInv s 7 g = rrI s g := rfl
theorem rrInv_12 (s g) : rrInv s 12 g = rrH s := rfl
--TAB tTabR
end Vx
end Go.Proofs.YtnmmlcjnjnooaaaGreatDoor
/-
  Contracts: repositories read (RepoRead, the program's).
-/
namespace Go.Proofs.YtnmmlcjnjnooaaaGreatDoor
namespace Vx
open Go.RowKit
set_option maxRecDepth 8000

def riAt (ls0 : List Str) : Nat → RepoD × List Str
  | 0 => (⟨[], []⟩, ls0)
  | i + 1 => match (riAt ls0 i).2 with
    | [] => riAt ls0 i
    | l :: ls => (riStep numS (riAt ls0 i).1 l ls).getD ((riAt ls0 i).1, [])
def riR (ls0 : List Str) : Option RepoD := riF numS ls0.length ⟨[], []⟩ ls0
def riOk (ls0 : List Str) (i : Nat) : Prop := riF numS (riAt ls0 i).2.length (riAt ls0 i).1 (riAt ls0 i).2 = riR ls0 ∧ (riAt ls0 i).1.commits.length + (riAt ls0 i).1.heads.length + (riAt ls0 i).2.length ≤ ls0.length ∧ (∀ l ∈ (riAt ls0 i).2, l.length ≤ 536870912) ∧ ∀ c ∈ (riAt ls0 i).1.commits, ∀ f ∈ c.tree, f.path.length ≤ 536870912
def riW (ls0 : List Str) (i : Nat) : List Str := spl 32 ((riAt ls0 i).2.headD []) []
def riT (ls0 : List Str) (i : Nat) : List Str := (riAt ls0 i).2.tail
theorem riW_pos (ls0 i) : 1 ≤ (riW ls0 i).length := by unfold riW; rw [spl_len]; omega
theorem rfI_mem {num} : ∀ {n : Nat} {t : List FileD} {ls : List Str}, ∀ l ∈ (rfI num n t ls).2, l ∈ ls := by
  intro n
  induction n with
  | zero => intro t ls l h; exact h
  | succ n ih =>
    intro t ls l h
    cases ls with
    | nil => exact h
    | cons x ls =>
      rw [rfI] at h
      split at h
      · split at h
        · exact List.mem_cons_of_mem _ (List.mem_of_mem_drop (ih l h))
        · exact h
      · exact h
def riNums (ls0 : List Str) (i : Nat) : List Int := ((riW ls0 i).drop 2).map fun q => (numS q).1
def riTree (ls0 : List Str) (i : Nat) : List FileD × List Str := rfI numS (riT ls0 i).length [] (riT ls0 i)
theorem ri_step {ls0 : List Str} {i : Nat} (hO : riOk ls0 i) (hne : (riAt ls0 i).2 ≠ []) :
    (((riW ls0 i).drop 2).all (fun q => (numS q).2) = false → riR ls0 = none) ∧
    (((riW ls0 i).drop 2).all (fun q => (numS q).2) = true → (riW ls0 i).getD 0 [] = wCommit → 2 ≤ (riW ls0 i).length →
      riAt ls0 (i + 1) = (⟨(riAt ls0 i).1.commits ++ [⟨riNums ls0 i, (riW ls0 i).getD 1 [], (riTree ls0 i).1⟩], (riAt ls0 i).1.heads⟩, (riTree ls0 i).2) ∧ riOk ls0 (i + 1) ∧ (riAt ls0 (i + 1)).2.length < (riAt ls0 i).2.length) ∧
    (((riW ls0 i).drop 2).all (fun q => (numS q).2) = true → ¬ ((riW ls0 i).getD 0 [] = wCommit ∧ 2 ≤ (riW ls0 i).length) → (riW ls0 i).getD 0 [] = wBranch → (riW ls0 i).length = 3 →
      riAt ls0 (i + 1) = (⟨(riAt ls0 i).1.commits, (riAt ls0 i).1.heads ++ [⟨(riW ls0 i).getD 1 [], (numS ((riW ls0 i).getD 2 [])).1⟩]⟩, riT ls0 i) ∧ riOk ls0 (i + 1) ∧ (riAt ls0 (i + 1)).2.length < (riAt ls0 i).2.length) ∧
    (((riW ls0 i).drop 2).all (fun q => (numS q).2) = true → ¬ ((riW ls0 i).getD 0 [] = wCommit ∧ 2 ≤ (riW ls0 i).length) → ¬ ((riW ls0 i).getD 0 [] = wBranch ∧ (riW ls0 i).length = 3) → riR ls0 = none) := by
  obtain ⟨h1, h2, h3, h4⟩ := hO
  have hA : riAt ls0 (i + 1) = match (riAt ls0 i).2 with
    | [] => riAt ls0 i
    | l :: ls => (riStep numS (riAt ls0 i).1 l ls).getD ((riAt ls0 i).1, []) := rfl
  unfold riW riT riTree riNums riW riT
  generalize riAt ls0 i = S at h1 h2 h3 h4 hne hA ⊢
  obtain ⟨r, L⟩ := S
  cases L with
  | nil => exact absurd rfl hne
  | cons l ls =>
    simp only [List.headD_cons, List.tail_cons, List.length_cons] at h1 h2 h4 hA ⊢
    rw [riF] at h1
    have hst : ∀ p, riStep numS r l ls = some p → riAt ls0 (i + 1) = p ∧ (riF numS p.2.length p.1 p.2 = riR ls0) := fun p hp => by
      rw [hp] at h1 hA
      have hle := riStep_le hp
      exact ⟨hA, by rw [← h1]; exact riF_fuel (Nat.le_refl _) hle⟩
    refine ⟨fun h => ?_, fun h a1 a2 => ?_, fun h a1 a2 a3 => ?_, fun h a1 a2 => ?_⟩
    · have : riStep numS r l ls = none := by unfold riStep; rw [if_neg (by rw [h]; simp)]
      rw [this] at h1; exact h1.symm
    · have hs : riStep numS r l ls = some (⟨r.commits ++ [⟨((spl 32 l []).drop 2).map fun q => (numS q).1, (spl 32 l []).getD 1 [], (rfI numS ls.length [] ls).1⟩], r.heads⟩, (rfI numS ls.length [] ls).2) := by
        unfold riStep; rw [if_pos h, if_pos ⟨a1, a2⟩]
      obtain ⟨q1, q2⟩ := hst _ hs
      have hle := riStep_le hs
      refine ⟨q1, ⟨by rw [q1]; exact q2, ?_, ?_, ?_⟩, ?_⟩
      · rw [q1]; simp at hle ⊢; omega
      · rw [q1]; intro x hx; exact h3 x (List.mem_cons_of_mem _ (rfI_mem x hx))
      · rw [q1]
        intro c hc f hf
        rcases List.mem_append.1 hc with hc | hc
        · exact h4 c hc f hf
        · rw [List.mem_singleton] at hc
          subst hc
          exact rfI_path (N := 536870912) (fun x hx => h3 x (List.mem_cons_of_mem _ hx)) (by simp) f hf
      · rw [q1]; simp at hle ⊢; omega
    · have hs : riStep numS r l ls = some (⟨r.commits, r.heads ++ [⟨(spl 32 l []).getD 1 [], (numS ((spl 32 l []).getD 2 [])).1⟩]⟩, ls) := by
        unfold riStep; rw [if_pos h, if_neg a1, if_pos ⟨a2, a3⟩]
      obtain ⟨q1, q2⟩ := hst _ hs
      refine ⟨q1, ⟨by rw [q1]; exact q2, ?_, ?_, ?_⟩, ?_⟩
      · rw [q1]; simp; omega
      · rw [q1]; intro x hx; exact h3 x (List.mem_cons_of_mem _ hx)
      · rw [q1]; exact h4
      · rw [q1]; simp
    · have : riStep numS r l ls = none := by unfold riStep; rw [if_pos h, if_neg a1, if_neg a2]
      rw [this] at h1; exact h1.symm

def riL (s : Str) : List Str := (linesI s).1
abbrev riBox (r : RepoD) : List (Nat × Blk) := [(10, bNil), (11, .box 26 [.own 13 3 (eCommits r.commits), .own 14 2 (eHeads r.heads)]), (13, .own 38 3 true (eCommits r.commits)), (14, .own 47 2 true (eHeads r.heads))]
def ruO (s : Str) : Inv := ⟨Nat, fun i => ⟨[(0, true, .str s), (2, true, .ptr 10 0), (3, true, .bool false), (4, true, .sl false 1 (eStrs (riAt (riL s) i).2)), (6, true, .ptr 11 0)], riBox (riAt (riL s) i).1⟩, fun i => riOk (riL s) i, fun i => (riAt (riL s) i).2.length⟩
def ruI (s : Str) (g : Nat) : Inv := ⟨Nat, fun j => ⟨[(0, true, .str s), (2, true, .ptr 10 0), (3, true, .bool false), (4, true, .sl false 1 (eStrs (riT (riL s) g))), (6, true, .ptr 11 0), (7, true, .sl false 1 (eStrs (riW (riL s) g))), (8, true, .own 15 1 (eInts ((riNums (riL s) g).take j))), (35, true, .sl false 1 (eStrs ((riW (riL s) g).drop 2))), (36, true, .int .i64 ((riW (riL s) g).drop 2).length), (37, true, .int .i64 j)], riBox (riAt (riL s) g).1 ++ [(15, .own 3 1 true (eInts ((riNums (riL s) g).take j)))]⟩,
  fun j => riOk (riL s) g ∧ (riAt (riL s) g).2 ≠ [] ∧ j ≤ ((riW (riL s) g).drop 2).length ∧ (((riW (riL s) g).drop 2).take j).all (fun q => (numS q).2) = true, fun j => ((riW (riL s) g).drop 2).length - j⟩
def ruInv (s : Str) (n g : Nat) : Inv := if n = 5 then ruO s else ruI s g
theorem ruInv_5 (s g) : ruInv s 5 g = ruO s := rfl
theorem ruInv_10 (s g) : ruInv s 10 g = ruI s g := rfl
def cRepoReadI : Con := { (Con.fn 115 Str (fun s => [.str s]) (fun s => s.length ≤ 1048576) (fun s => .tup [.agg [.own 8 3 (eCommits (repoReadI numS repoI s).1.commits), .own 9 2 (eHeads (repoReadI numS repoI s).1.heads)], .bool (repoReadI numS repoI s).2]) (fun s => ownCommits 8 (repoReadI numS repoI s).1.commits ++ ownHeads 9 (repoReadI numS repoI s).1.heads)) with need := numNeed }
set_option maxHeartbeats 4000000 in
theorem repoReadI_has : Has Tryz.prog 50 cRepoReadI := by
  refine has_walk mixed tTab_ok (l := [(117, cLinesOf), (118, cSplit), (119, cNumber), (120, cReadFiles), (19, cRepoOk), (115, cRepoPutT)]) (HasL.cons linesOf_has (HasL.cons split_has (HasL.cons number_has (HasL.cons readFiles_has (HasL.cons repoOk_has (HasL.cons repoPutT_has HasL.nil)))))) [0, 2, 3, 4, 5, 6, 7, 8, 10, 11, 12, 13, 35, 36, 37] (fun s => ruInv s) [] Tryz.func50 (by kernel_rfl) (code := _) (by unfold Tryz.f50; rfl) (by kernel_rfl) (by decide) (fun _ => ⟨(), trivial⟩) (by intro h; first | exact fun _ => rfl | cases h) (by kernel_rfl) ?_
  intro (s : Str) (hs : s.length ≤ 1048576)
  simp (maxSteps := 4000000) -implicitDefEqProofs [cRepoReadI, cLinesOf, cSplit, cNumber, cReadFiles, cRepoOk, cRepoPutT, Con.fn, tTab, ruInv_5, ruInv_10, ruO, ruI]
  try dsimp only
  obtain ⟨lb1, lb2⟩ := linesI_bd s
  have hI0 : (linesI s).2 = false → repoReadI numS repoI s = (⟨[], []⟩, false) := fun h => by unfold repoReadI; rw [if_neg (by rw [h]; simp)]
  have hI1 : (linesI s).2 = true → riR (riL s) = none → repoReadI numS repoI s = (⟨[], []⟩, false) := fun h h2 => by
    have h3 : riF numS (linesI s).1.length ⟨[], []⟩ (linesI s).1 = none := h2
    unfold repoReadI; rw [if_pos h, h3]
  have hI2 : (linesI s).2 = true → ∀ r, riR (riL s) = some r → repoReadI numS repoI s = if repoI r = true ∧ repoT r = s then (r, true) else (⟨[], []⟩, false) := fun h r h2 => by
    have h3 : riF numS (linesI s).1.length ⟨[], []⟩ (linesI s).1 = some r := h2
    unfold repoReadI; rw [if_pos h, h3]
  refine ⟨by omega, fun hok => ⟨⟨0, ⟨rfl, rfl, rfl⟩, ⟨rfl, by simp -implicitDefEqProofs [riAt], fun l hl => by have := lb2 l hl; omega, by simp -implicitDefEqProofs [riAt]⟩⟩, fun t hO _ => ⟨fun hpos => ⟨hpos, fun _ => ?_⟩, fun hnil => ?_⟩⟩, fun hok => ?_⟩
  · have hno := hI1 hok
    clear hI0 hI1 hI2
    have hLb : (riL s).length ≤ 1048576 := by show (linesI s).1.length ≤ _; omega
    have hne : (riAt (riL s) t).2 ≠ [] := List.length_pos_iff.1 hpos
    obtain ⟨l, ls, hL⟩ : ∃ l ls, (riAt (riL s) t).2 = l :: ls := by cases hq : (riAt (riL s) t).2 with | nil => exact absurd hq hne | cons l ls => exact ⟨l, ls, rfl⟩
    obtain ⟨st1, st2, st3, st4⟩ := ri_step hO hne
    have hW : riW (riL s) t = spl 32 l [] := by unfold riW; rw [hL]; rfl
    have hT : riT (riL s) t = ls := by unfold riT; rw [hL]; rfl
    have hll : l.length ≤ 1073741824 := by have := hO.2.2.1 l (by rw [hL]; simp); omega
    have hlb := hO.2.1
    have hp := riW_pos (riL s) t
    have hwl : ∀ q ∈ riW (riL s) t, q.length ≤ 1073741824 := fun q hq => by rw [hW] at hq; have := spl_le (c := 32) (s := l) (p := []) q hq; simp at this; omega
    have hwb : (riW (riL s) t).length ≤ 1073741825 := by rw [hW, spl_len]; have : l.count 32 ≤ l.length := List.count_le_length; omega
    have hnl : (riNums (riL s) t).length = (riW (riL s) t).length - 2 := by simp -implicitDefEqProofs [riNums]
    have hls : ∀ x ∈ ls, x.length ≤ 1073741824 := fun x hx => by have := hO.2.2.1 x (by rw [hL]; simp -implicitDefEqProofs [hx]); omega
    have hlsb : ls.length ≤ 1048576 := by rw [hL] at hlb; simp at hlb; omega
    rw [hL]
    refine ⟨⟨by simp -implicitDefEqProofs [eStr], by simp -implicitDefEqProofs [eStr]⟩, fun _ _ => ⟨l, 32, ⟨by simp -implicitDefEqProofs [eStr], rfl⟩, hll, by simp; omega, fun _ _ => ?_⟩⟩
    rw [← hW]
    have hm1 : ∃ m : Int, m = (if ((riW (riL s) t).length : Int) < 2 then ((riW (riL s) t).length : Int) else 2) ∧ 0 ≤ m ∧ m ≤ (riW (riL s) t).length ∧ (m = 2 ∨ ((riW (riL s) t).length < 2 ∧ m = (riW (riL s) t).length)) := by
      refine ⟨_, rfl, ?_⟩
      split <;> omega
    obtain ⟨m, hm, hm2, hm3, hm4⟩ := hm1
    rw [← hm]
    have hdr : (riW (riL s) t).drop m.toNat = (riW (riL s) t).drop 2 := by
      rcases hm4 with h | ⟨h1, h2⟩
      · rw [h]; rfl
      · rw [List.drop_eq_nil_of_le (by omega), List.drop_eq_nil_of_le (by omega)]
    refine ⟨⟨hm2, hm3⟩, fun _ _ _ => ⟨t, ⟨0, ⟨⟨?_, rfl, .inl rfl, ?_, by omega, rfl⟩, ⟨rfl, rfl⟩, rfl, rfl, .inl rfl⟩, hO, hne, Nat.zero_le _, by simp⟩, fun j _ _ hj hall => ⟨fun hj2 => ⟨hj2, fun _ => ?_⟩, fun hj2 => ?_⟩⟩⟩
    · rw [hT]; simp -implicitDefEqProofs [eStrs]; rw [List.take_of_length_le (by simp)]
    · rw [← hdr]
      simp only [eStrs, List.map_drop]
      rw [List.take_of_length_le (by simp)]
    · have hj3 : 2 + j < (riW (riL s) t).length := by omega
      have e5 : Option.map eStr (riW (riL s) t)[2 + j]? = some (eStr (riW (riL s) t)[2 + j]) := by rw [List.getElem?_eq_getElem hj3]; rfl
      have hq := hwl _ (List.getElem_mem hj3)
      have hdj : ((riW (riL s) t).drop 2)[j]'(by simp; omega) = (riW (riL s) t)[2 + j] := by rw [List.getElem_drop]
      have e6 : ((riW (riL s) t).drop 2).take (j + 1) = ((riW (riL s) t).drop 2).take j ++ [(riW (riL s) t)[2 + j]] := by rw [take_succ' (by simp; omega), hdj]
      have e7 : (riNums (riL s) t).take (j + 1) = (riNums (riL s) t).take j ++ [(numS (riW (riL s) t)[2 + j]).1] := by
        rw [take_succ' (by rw [hnl]; omega)]
        congr 2
        simp only [riNums, List.getElem_map, hdj]
      rw [e5]
      refine ⟨⟨by simp -implicitDefEqProofs [eStr], by simp -implicitDefEqProofs [eStr]⟩, fun _ _ => ⟨by simpa [eStr] using hq, fun hk => ?_, fun hk => ?_⟩⟩
      · refine ⟨by omega, by omega, fun _ _ => ⟨j + 1, ⟨⟨?_, by omega⟩, ?_⟩, ⟨hO, hne, by omega, fun x hx => ?_⟩, by omega⟩⟩
        · rw [e7]; simp -implicitDefEqProofs [eInts, eInt, eStr]
        · rw [e7]; simp -implicitDefEqProofs [eInts, eInt, eStr]
        · rw [e6] at hx
          rcases List.mem_append.1 hx with hx | hx
          · exact hall x hx
          · rw [List.mem_singleton] at hx
            subst hx
            simpa [eStr] using hk
      · have hF : riR (riL s) = none := st1 (by
          rw [List.all_eq_false]
          exact ⟨(riW (riL s) t)[2 + j], by rw [← hdj]; exact List.getElem_mem _, by simpa [eStr] using hk⟩)
        rw [hno hF]; exact ⟨⟨⟨rfl, rfl⟩, rfl⟩, rfl, rfl⟩
    · have hj3 : j = ((riW (riL s) t).drop 2).length := by simp; omega
      have hA : ((riW (riL s) t).drop 2).all (fun q => (numS q).2) = true := by
        rw [List.all_eq_true]
        intro x hx
        exact hall x (by rw [hj3, List.take_length]; exact hx)
      have hN : (riNums (riL s) t).take j = riNums (riL s) t := List.take_of_length_le (by rw [hnl, hj3]; simp)
      rw [hN]
      replace st2 := st2 hA
      replace st3 := st3 hA
      replace st4 := st4 hA
      have hjn : j = (riNums (riL s) t).length := by rw [hnl, hj3]; simp
      clear st1 hall hj3 hN hdr hm hm2 hm3 hm4
      rw [hT]
      have gN : (riW (riL s) t).length = 3 → (riNums (riL s) t)[0]? = some (numS ((riW (riL s) t).getD 2 [])).1 := fun h3 => by
        simp -implicitDefEqProofs [riNums, List.getElem?_drop, List.getD_eq_getElem?_getD, List.getElem?_eq_getElem (show 2 < (riW (riL s) t).length by omega)]
      have hTr : riTree (riL s) t = rfI numS ls.length [] ls := by unfold riTree; rw [hT]
      rw [hTr] at st2
      rw [hT] at st3
      have hLl : (riAt (riL s) t).2.length = (l :: ls).length := by rw [hL]
      rw [hLl] at st2 st3
      generalize riW (riL s) t = W at hp hwl hwb hnl st2 st3 st4 gN ⊢
      have g0 : Option.map eStr W[0]? = some (eStr (W.getD 0 [])) := by simp -implicitDefEqProofs [List.getD_eq_getElem?_getD, List.getElem?_eq_getElem (show 0 < W.length by omega)]
      have g1 : 2 ≤ W.length → Option.map eStr W[1]? = some (eStr (W.getD 1 [])) := fun h => by simp -implicitDefEqProofs [List.getD_eq_getElem?_getD, List.getElem?_eq_getElem (show 1 < W.length by omega)]
      rw [g0]
      have hno : ¬ (W.getD 0 [] = wCommit ∧ 2 ≤ W.length) → ¬ (W.getD 0 [] = wBranch ∧ W.length = 3) → (((repoReadI numS repoI s).1.commits = [] ∧ (repoReadI numS repoI s).1.heads = []) ∧ (repoReadI numS repoI s).2 = false) ∧ (repoReadI numS repoI s).1.commits = [] ∧ (repoReadI numS repoI s).1.heads = [] := fun q1 q2 => by
        rw [hno (st4 q1 q2)]; exact ⟨⟨⟨rfl, rfl⟩, rfl⟩, rfl, rfl⟩
      refine ⟨by omega, fun _ => ⟨⟨by simp -implicitDefEqProofs [eStr], by simp -implicitDefEqProofs [eStr]⟩, fun _ _ => ⟨fun hc _ => ⟨fun h2 => ?_, fun h2 => ⟨by omega, fun _ => ⟨⟨by simp -implicitDefEqProofs [eStr], by simp -implicitDefEqProofs [eStr]⟩, fun _ _ => ⟨fun hb => ?_, fun hb => hno (fun q => by omega) (fun q => hb q.1)⟩⟩⟩⟩, fun hc => ⟨by omega, fun _ => ⟨⟨by simp -implicitDefEqProofs [eStr], by simp -implicitDefEqProofs [eStr]⟩, fun _ _ => ⟨fun hb _ => ⟨fun h3 => ?_, fun h3 => hno (fun q => hc q.1) (fun q => h3 (by omega))⟩, fun hb => hno (fun q => hc q.1) (fun q => hb q.1)⟩⟩⟩⟩⟩⟩
      · rw [g1 (by omega)]
        obtain ⟨e1, e2, e3⟩ := st2 hc (by omega)
        refine ⟨by omega, fun _ => ⟨⟨by simp -implicitDefEqProofs [eStr], by simp -implicitDefEqProofs [eStr]⟩, fun _ _ => ⟨⟨hlsb, hls⟩, ⟨by omega, by omega⟩, t + 1, ⟨?_, ⟨?_, ?_⟩, ?_, ?_⟩, e2, e3⟩⟩⟩
        · rw [e1]
        · rw [e1]; simp -implicitDefEqProofs [eCommits, eCommit, eStr]
        · rw [e1]
        · rw [e1]; simp -implicitDefEqProofs [eCommits, eCommit, eStr]
        · rw [e1]
      · have h9 : wCommit = wBranch := hc.symm.trans hb
        exact absurd h9 (by decide)
      · have h3' : W.length = 3 := by omega
        rw [g1 (by omega), gN h3']
        obtain ⟨e1, e2, e3⟩ := st3 (fun q => hc q.1) hb h3'
        refine ⟨by omega, fun _ => ⟨⟨by simp -implicitDefEqProofs [eStr], by simp -implicitDefEqProofs [eStr]⟩, fun _ _ => ⟨by omega, fun _ => ⟨⟨by simp -implicitDefEqProofs [eInt], by simp -implicitDefEqProofs [eInt]⟩, fun _ _ => ⟨⟨by omega, by omega⟩, t + 1, ⟨?_, ⟨?_, ?_⟩, ?_, ?_⟩, e2, e3⟩⟩⟩⟩⟩
        · rw [e1]
        · rw [e1]
        · rw [e1]; simp -implicitDefEqProofs [eHeads, eHead, eStr, eInt]
        · rw [e1]
        · rw [e1]; simp -implicitDefEqProofs [eHeads, eHead, eStr, eInt]
  · have hF : riR (riL s) = some (riAt (riL s) t).1 := by rw [← hO.1, hnil]; rfl
    have e1 := hI2 hok _ hF
    have hb := hO.2.1
    have hlb : (riL s).length ≤ 1048576 := by show (linesI s).1.length ≤ _; omega
    have hr : rpPre (riAt (riL s) t).1 := ⟨by omega, hO.2.2.2⟩
    generalize (riAt (riL s) t).1 = R at e1 hr ⊢
    have no : ¬ (repoI R = true ∧ repoT R = s) → repoReadI numS repoI s = (⟨[], []⟩, false) := fun h => by rw [e1, if_neg h]
    have yes : (repoI R = true ∧ repoT R = s) → repoReadI numS repoI s = (R, true) := fun h => by rw [e1, if_pos h]
    refine ⟨hr, fun h2 => ?_, fun h2 => ⟨okR_I h2, fun h3 => ?_, fun h3 => ?_⟩⟩
    · rw [no fun q => by rw [q.1] at h2; cases h2]; exact ⟨⟨⟨rfl, rfl⟩, rfl⟩, rfl, rfl⟩
    · rw [no fun q => h3 q.2]; exact ⟨⟨⟨rfl, rfl⟩, rfl⟩, rfl, rfl⟩
    · rw [yes ⟨h2, h3⟩]; exact ⟨⟨⟨rfl, rfl⟩, rfl⟩, rfl, rfl⟩
  · rw [hI0 hok]; exact ⟨⟨⟨rfl, rfl⟩, rfl⟩, rfl, rfl⟩

end Vx
end Go.Proofs.YtnmmlcjnjnooaaaGreatDoor
/-
  Contracts: marks set in numbers, commits, branches, repositories.
-/
namespace Go.Proofs.YtnmmlcjnjnooaaaGreatDoor
namespace Vx
open Go.RowKit
set_option maxRecDepth 8000

def markI (n : Nat) (k : Int) : List Int := (List.range n).map fun i : Nat => k + (i : Int)
theorem markI_len (n : Nat) (k : Int) : (markI n k).length = n := by simp -implicitDefEqProofs [markI]
def mIArr (a : List Int) (k : Int) (i : Nat) : List Int := (markI a.length k).take i ++ a.drop i
theorem mIArr_len {a : List Int} {k : Int} {i : Nat} (h : i ≤ a.length) : (mIArr a k i).length = a.length := by simp -implicitDefEqProofs [mIArr, markI_len]; omega
theorem mIArr_zero (a : List Int) (k : Int) : mIArr a k 0 = a := by simp -implicitDefEqProofs [mIArr]
theorem mIArr_end {a : List Int} {k : Int} {i : Nat} (h : a.length ≤ i) : mIArr a k i = markI a.length k := by
  unfold mIArr
  rw [List.take_of_length_le (by rw [markI_len]; exact h), List.drop_eq_nil_of_le h, List.append_nil]
theorem mIArr_set {a : List Int} {k : Int} {i : Nat} (h : i < a.length) : (mIArr a k i).set i (k + i) = mIArr a k (i + 1) := by
  unfold mIArr
  have h1 : ((markI a.length k).take i).length = i := by rw [List.length_take, markI_len]; omega
  rw [List.set_append_right _ _ (by omega), h1, Nat.sub_self, List.drop_eq_getElem_cons h, List.set_cons_zero]
  rw [take_succ' (l := markI a.length k) (i := i) (by rw [markI_len]; exact h)]
  simp -implicitDefEqProofs [markI]
def heldI (a : List Int) (k : Int) : Int := if a = markI a.length k then k + a.length else -1
theorem heldI_mark (n : Nat) (k : Int) : heldI (markI n k) k = k + n := by
  unfold heldI
  rw [markI_len, if_pos rfl]

def mkC (c : CommitD) (k : Int) : CommitD := ⟨markI c.parents.length k, markS (k + c.parents.length), markFs c.tree (k + c.parents.length + 1)⟩
def kC (c : CommitD) (k : Int) : Int := kE c.tree (k + c.parents.length + 1)
def kCs : List CommitD → Int → Int
  | [], k => k
  | c :: l, k => kCs l (kC c k)
def markCs : List CommitD → Int → List CommitD
  | [], _ => []
  | c :: l, k => mkC c k :: markCs l (kC c k)
theorem markCs_len : ∀ (l : List CommitD) (k : Int), (markCs l k).length = l.length
  | [], _ => rfl
  | c :: l, k => by simp -implicitDefEqProofs [markCs, markCs_len l]
theorem kCs_snoc : ∀ (l : List CommitD) (c : CommitD) (k : Int), kCs (l ++ [c]) k = kC c (kCs l k)
  | [], _, _ => rfl
  | d :: l, c, k => by simp only [List.cons_append, kCs]; exact kCs_snoc l c _
theorem markCs_get : ∀ (l : List CommitD) (k : Int) (i : Nat) (h : i < l.length), (markCs l k)[i]'(by rw [markCs_len]; exact h) = mkC l[i] (kCs (l.take i) k)
  | [], _, i, h => by simp at h
  | c :: l, k, 0, _ => rfl
  | c :: l, k, i + 1, h => by
    simp only [markCs, List.getElem_cons_succ, List.take_succ_cons, kCs]
    exact markCs_get l _ i (by simpa using h)
theorem kC_ge {c : CommitD} {k : Int} : k + c.parents.length + 1 ≤ kC c k := by
  have := (kE_le (t := c.tree) (k := k + c.parents.length + 1) c.tree.length).1
  rw [List.take_length] at this
  exact this
theorem kCs_ge : ∀ (l : List CommitD) (k : Int), k ≤ kCs l k
  | [], _ => Int.le_refl _
  | c :: l, k => by
    have h1 := kC_ge (c := c) (k := k)
    have h2 := kCs_ge l (kC c k)
    simp only [kCs]; omega
theorem kCs_split (l : List CommitD) (k : Int) (i : Nat) : kCs (l.take i) k ≤ kCs l k := by
  have : ∀ (a b : List CommitD) (k : Int), kCs (a ++ b) k = kCs b (kCs a k) := by
    intro a
    induction a with
    | nil => intro b k; rfl
    | cons c a ih => intro b k; simp only [List.cons_append, kCs]; exact ih b _
  conv => rhs; rw [← List.take_append_drop i l]
  rw [this]
  exact kCs_ge _ _
def mCArr (a : List CommitD) (k : Int) (i : Nat) : List CommitD := (markCs a k).take i ++ a.drop i
theorem mCArr_len {a : List CommitD} {k : Int} {i : Nat} (h : i ≤ a.length) : (mCArr a k i).length = a.length := by simp -implicitDefEqProofs [mCArr, markCs_len]; omega
theorem mCArr_zero (a : List CommitD) (k : Int) : mCArr a k 0 = a := by simp -implicitDefEqProofs [mCArr]
theorem mCArr_end {a : List CommitD} {k : Int} {i : Nat} (h : a.length ≤ i) : mCArr a k i = markCs a k := by
  unfold mCArr
  rw [List.take_of_length_le (by rw [markCs_len]; exact h), List.drop_eq_nil_of_le h, List.append_nil]
theorem mCArr_get {a : List CommitD} {k : Int} {i : Nat} (h : i < a.length) : (mCArr a k i)[i]? = some a[i] := by
  unfold mCArr
  rw [List.getElem?_append_right (by simp; omega), List.length_take, markCs_len, Nat.min_eq_left (by omega), Nat.sub_self, List.getElem?_drop]
  simp -implicitDefEqProofs [h]
theorem mCArr_set {a : List CommitD} {k : Int} {i : Nat} (h : i < a.length) : (mCArr a k i).set i (mkC a[i] (kCs (a.take i) k)) = mCArr a k (i + 1) := by
  unfold mCArr
  have h1 : ((markCs a k).take i).length = i := by rw [List.length_take, markCs_len]; omega
  rw [List.set_append_right _ _ (by omega), h1, Nat.sub_self, List.drop_eq_getElem_cons h, List.set_cons_zero]
  rw [take_succ' (l := markCs a k) (i := i) (by rw [markCs_len]; exact h), markCs_get a k i h]
  simp
end Vx
end Go.Proofs.YtnmmlcjnjnooaaaGreatDoor
/-
  Contracts: marks set and looked for in heads; marks set in repositories.
-/
namespace Go.Proofs.YtnmmlcjnjnooaaaGreatDoor
namespace Vx
open Go.RowKit
set_option maxRecDepth 8000

def markHs (n : Nat) (k : Int) : List HeadD := (List.range n).map fun i : Nat => ⟨markS (k + 2 * i), k + 2 * i + 1⟩
theorem markHs_len (n : Nat) (k : Int) : (markHs n k).length = n := by simp -implicitDefEqProofs [markHs]
theorem markHs_get {n : Nat} {k : Int} {i : Nat} (h : i < n) : (markHs n k)[i]'(by rw [markHs_len]; exact h) = ⟨markS (k + 2 * i), k + 2 * i + 1⟩ := by simp -implicitDefEqProofs [markHs]
def mHA (a : List HeadD) (k : Int) (i : Nat) : List HeadD := (markHs a.length k).take i ++ a.drop i
theorem mHA_len {a : List HeadD} {k : Int} {i : Nat} (h : i ≤ a.length) : (mHA a k i).length = a.length := by simp -implicitDefEqProofs [mHA, markHs_len]; omega
theorem mHA_zero (a : List HeadD) (k : Int) : mHA a k 0 = a := by simp -implicitDefEqProofs [mHA]
theorem mHA_end {a : List HeadD} {k : Int} {i : Nat} (h : a.length ≤ i) : mHA a k i = markHs a.length k := by
  unfold mHA
  rw [List.take_of_length_le (by rw [markHs_len]; exact h), List.drop_eq_nil_of_le h, List.append_nil]
theorem mHA_get {a : List HeadD} {k : Int} {i : Nat} (h : i < a.length) : (mHA a k i)[i]? = some a[i] := by
  unfold mHA
  rw [List.getElem?_append_right (by simp; omega), List.length_take, markHs_len, Nat.min_eq_left (by omega), Nat.sub_self, List.getElem?_drop]
  simp -implicitDefEqProofs [h]
theorem mHA_set {a : List HeadD} {k : Int} {i : Nat} (h : i < a.length) : (mHA a k i).set i ⟨markS (k + 2 * i), k + 2 * i + 1⟩ = mHA a k (i + 1) := by
  unfold mHA
  have h1 : ((markHs a.length k).take i).length = i := by rw [List.length_take, markHs_len]; omega
  rw [List.set_append_right _ _ (by omega), h1, Nat.sub_self, List.drop_eq_getElem_cons h, List.set_cons_zero]
  rw [take_succ' (l := markHs a.length k) (i := i) (by rw [markHs_len]; exact h), markHs_get h]
  simp
def heldHs (a : List HeadD) (k : Int) : Int := if a = markHs a.length k then k + 2 * a.length else -1
theorem heldHs_mark (n : Nat) (k : Int) : heldHs (markHs n k) k = k + 2 * n := by
  unfold heldHs
  rw [markHs_len, if_pos rfl]
theorem heldH_miss {l : List HeadD} {k : Int} {i : Nat} (h : i < l.length) (h2 : l[i].name ≠ markS (k + 2 * i) ∨ l[i].at_ ≠ k + 2 * i + 1) : heldHs l k = -1 := by
  unfold heldHs
  rw [if_neg]
  intro h3
  have : l[i]? = (markHs l.length k)[i]? := by rw [← h3]
  rw [List.getElem?_eq_getElem h, List.getElem?_eq_getElem (by rw [markHs_len]; exact h), markHs_get h] at this
  have := Option.some.inj this
  rcases h2 with h2 | h2
  · exact h2 (congrArg HeadD.name this)
  · exact h2 (congrArg HeadD.at_ this)
theorem heldH_step {l : List HeadD} {k : Int} {i : Nat} (h : i < l.length) (h1 : l.take i = (markHs l.length k).take i) (h2 : l[i].name = markS (k + 2 * i)) (h3 : l[i].at_ = k + 2 * i + 1) : l.take (i + 1) = (markHs l.length k).take (i + 1) := by
  rw [take_succ' h, take_succ' (by rw [markHs_len]; exact h), markHs_get h, ← h1, ← h2, ← h3]
theorem heldH_end {l : List HeadD} {k : Int} {i : Nat} (h : l.length ≤ i) (h1 : l.take i = (markHs l.length k).take i) : heldHs l k = k + 2 * l.length := by
  rw [List.take_of_length_le h, List.take_of_length_le (by rw [markHs_len]; exact h)] at h1
  unfold heldHs
  rw [if_pos h1]
end Vx
end Go.Proofs.YtnmmlcjnjnooaaaGreatDoor
/-
  Contracts: marks looked for in commits and in repositories.
-/
namespace Go.Proofs.YtnmmlcjnjnooaaaGreatDoor
namespace Vx
open Go.RowKit
set_option maxRecDepth 8000

theorem mkC_same (c : CommitD) (k : Int) : mkC (mkC c k) k = mkC c k := by
  unfold mkC
  simp only [markI_len, markFs_same]
theorem kC_mark (c : CommitD) (k : Int) : kC (mkC c k) k = kC c k := by
  unfold kC
  have h1 : (mkC c k).parents.length = c.parents.length := by simp -implicitDefEqProofs [mkC, markI_len]
  have h2 : (mkC c k).tree = markFs c.tree (k + c.parents.length + 1) := rfl
  rw [h1, h2, kE_marks]
theorem markCs_same : ∀ (l : List CommitD) (k : Int), markCs (markCs l k) k = markCs l k ∧ kCs (markCs l k) k = kCs l k
  | [], _ => ⟨rfl, rfl⟩
  | c :: l, k => by
    obtain ⟨h1, h2⟩ := markCs_same l (kC c k)
    simp only [markCs, kCs, mkC_same, kC_mark, h1, h2]
    exact ⟨trivial, trivial⟩
def heldCs (l : List CommitD) (k : Int) : Int := if l = markCs l k then kCs l k else -1
theorem heldCs_mark (l : List CommitD) (k : Int) : heldCs (markCs l k) k = kCs l k := by
  unfold heldCs
  rw [(markCs_same l k).1, if_pos rfl, (markCs_same l k).2]
theorem heldC_miss {l : List CommitD} {k : Int} {i : Nat} (h : i < l.length) (h2 : l[i].parents ≠ markI l[i].parents.length (kCs (l.take i) k) ∨ l[i].who ≠ markS (kCs (l.take i) k + l[i].parents.length) ∨ l[i].tree ≠ markFs l[i].tree (kCs (l.take i) k + l[i].parents.length + 1)) : heldCs l k = -1 := by
  unfold heldCs
  rw [if_neg]
  intro h3
  have : l[i]? = (markCs l k)[i]? := by rw [← h3]
  rw [List.getElem?_eq_getElem h, List.getElem?_eq_getElem (by rw [markCs_len]; exact h), markCs_get l k i h] at this
  have := Option.some.inj this
  rcases h2 with h2 | h2 | h2
  · exact h2 (congrArg CommitD.parents this)
  · exact h2 (congrArg CommitD.who this)
  · exact h2 (congrArg CommitD.tree this)
theorem heldC_step {l : List CommitD} {k : Int} {i : Nat} (h : i < l.length) (h1 : l.take i = (markCs l k).take i) (h2 : l[i].parents = markI l[i].parents.length (kCs (l.take i) k)) (h3 : l[i].who = markS (kCs (l.take i) k + l[i].parents.length)) (h4 : l[i].tree = markFs l[i].tree (kCs (l.take i) k + l[i].parents.length + 1)) : l.take (i + 1) = (markCs l k).take (i + 1) := by
  have e : mkC l[i] (kCs (l.take i) k) = l[i] := by
    unfold mkC
    rw [← h2, ← h3, ← h4]
  rw [take_succ' h, take_succ' (by rw [markCs_len]; exact h), markCs_get l k i h, ← h1, e]
theorem heldC_end {l : List CommitD} {k : Int} {i : Nat} (h : l.length ≤ i) (h1 : l.take i = (markCs l k).take i) : heldCs l k = kCs (l.take i) k := by
  rw [List.take_of_length_le h, List.take_of_length_le (by rw [markCs_len]; exact h)] at h1
  unfold heldCs
  rw [if_pos h1, List.take_of_length_le h]
def heldR (r : RepoD) (k : Int) : Int := if heldCs r.commits k < 0 then -1 else if heldHs r.heads (heldCs r.commits k) < 0 then -1 else heldHs r.heads (heldCs r.commits k)
theorem heldCs_lt (l : List CommitD) (k : Int) : heldCs l k ≤ kCs l k ∨ heldCs l k = -1 := by unfold heldCs; split <;> omega
def mkR (r : RepoD) (k : Int) : RepoD := ⟨markCs r.commits k, markHs r.heads.length (kCs r.commits k)⟩
theorem heldR_mark (r : RepoD) (k : Int) (hk : 0 ≤ k) : heldR (mkR r k) k = kCs r.commits k + 2 * r.heads.length := by
  have h1 : heldCs (mkR r k).commits k = kCs r.commits k := heldCs_mark _ _
  have h2 : heldHs (mkR r k).heads (kCs r.commits k) = kCs r.commits k + 2 * r.heads.length := heldHs_mark _ _
  have h3 := kCs_ge r.commits k
  unfold heldR
  rw [h1, if_neg (by omega), h2, if_neg (by omega)]
theorem kCs_marks (r : RepoD) (k : Int) : kCs (mkR r k).commits k + 2 * (mkR r k).heads.length = kCs r.commits k + 2 * r.heads.length := by
  have h1 : kCs (mkR r k).commits k = kCs r.commits k := (markCs_same r.commits k).2
  have h2 : (mkR r k).heads.length = r.heads.length := markHs_len _ _
  rw [h1, h2]

end Vx
end Go.Proofs.YtnmmlcjnjnooaaaGreatDoor
/-
  Contracts: the law FnExactRepoRead.
-/
namespace Go.Proofs.YtnmmlcjnjnooaaaGreatDoor
namespace Vx
open Go.RowKit
set_option maxRecDepth 8000

theorem repoRead_is (s : Str) : repoReadI numS repoI s = repoReadS repoI s := repoRead_eq numS_dec (fun _ h => plainR_of h) s
theorem kCs_bd : ∀ {l : List CommitD}, (∀ c ∈ l, c.parents.length ≤ 2 ∧ c.tree.length ≤ 8 ∧ ∀ f ∈ c.tree, f.text.length ≤ 10) → ∀ k : Int, kCs l k ≤ k + 91 * l.length := by
  intro l
  induction l with
  | nil => intro _ k; simp -implicitDefEqProofs [kCs]
  | cons c l ih =>
    intro h k
    obtain ⟨h1, h2, h3⟩ := h c (by simp)
    have h4 := (kE_bd h2 h3 (k + c.parents.length + 1)).2
    have h5 := ih (fun x hx => h x (by simp -implicitDefEqProofs [hx])) (kC c k)
    have h6 : kC c k = kE c.tree (k + c.parents.length + 1) := rfl
    simp only [kCs, List.length_cons]
    omega
theorem repoReadS_bd (s : Str) : 1 ≤ kCs (repoReadS repoI s).1.commits 1 ∧ kCs (repoReadS repoI s).1.commits 1 + 2 * (repoReadS repoI s).1.heads.length ≤ 2000 := by
  obtain ⟨h1, h2⟩ := repoReadS_ok (ok := repoI) (s := s)
  refine ⟨kCs_ge _ _, ?_⟩
  cases hb : (repoReadS repoI s).2 with
  | true =>
    obtain ⟨q1, _⟩ := h1 hb
    have P := plainR_of q1
    have := kCs_bd (fun c hc => ⟨(P.com c hc).2.1, (P.com c hc).2.2.2.2.1, (P.com c hc).2.2.2.2.2⟩) 1
    have h3 := P.nc
    have h4 := P.nh
    omega
  | false => rw [h2 hb]; simp -implicitDefEqProofs [kCs]
theorem exRp {x : List CommitD} {y : List HeadD} {P : RepoD → Prop} : (∃ a : RepoD, a.commits = x ∧ a.heads = y ∧ P a) = P ⟨x, y⟩ := by
  refine propext ⟨?_, fun h => ⟨⟨x, y⟩, rfl, rfl, h⟩⟩
  rintro ⟨⟨c, h⟩, rfl, rfl, h3⟩
  exact h3

end Vx
end Go.Proofs.YtnmmlcjnjnooaaaGreatDoor
/-
  Contracts: numbers, heads, commits, repositories compared (smIn, smInts, smHeads, smCommit).
-/
namespace Go.Proofs.YtnmmlcjnjnooaaaGreatDoor
namespace Vx
open Go.RowKit
set_option maxRecDepth 8000

def cSmInts : Con := .fn 26 (List Int × List Int) (fun a => [.sl true 1 (eInts a.1), .sl true 1 (eInts a.2)]) (fun _ => True) (fun a => .bool (decide (a.1 = a.2))) (fun _ => [])
set_option maxHeartbeats 4000000 in
theorem smInts_has : Has Tryz.prog 17 cSmInts := by
  refine has_walk mixed tTab_ok (l := []) HasL.nil [0, 1, 4, 5] ((fun a n (_ : Nat) => (fun a _ => ⟨Nat, fun i => ⟨[(0, true, .sl true 1 (eInts a.1)), (1, true, .sl true 1 (eInts a.2)), (4, true, .bool false), (5, true, .int .i64 i)], []⟩, fun i => i ≤ a.1.length ∧ a.1.length = a.2.length ∧ a.1.take i = a.2.take i, fun i => a.1.length - i⟩) a n)) [] Tryz.func17 (by kernel_rfl) (code := _) (by unfold Tryz.f17; rfl) (by kernel_rfl) (by decide) (fun _ => ⟨(), trivial⟩) (by intro h; first | exact fun _ => rfl | cases h) (by kernel_rfl) ?_
  intro a _
  obtain ⟨l, r⟩ := a
  simp -implicitDefEqProofs [cSmInts, Con.fn, tTab]
  try dsimp only
  try simp +contextual -implicitDefEqProofs [eStr, eFile, cast_succ, cast_eq, cast_zero, List.getElem?_eq_getElem, eStrs_set, eFiles_set, eStrs_rep, eFiles_rep, ← eStrs_append, ← eFiles_append, eStrs_take, eStrs_drop, eFiles_take, eFiles_drop, eStrs_snoc, eFiles_snoc, and_assoc, eInt]
  repeat' (first | intro _ | apply And.intro)
  all_goals first | omega | grind [all_take, eq_take, eq_end, eInt, D.asInt]
def cSmCommit : Con := .fn 24 (CommitD × CommitD) (fun a => [.agg [.sl true 1 (eInts a.1.parents), .str a.1.who, .sl true 2 (eFiles a.1.tree)], .agg [.sl true 1 (eInts a.2.parents), .str a.2.who, .sl true 2 (eFiles a.2.tree)]]) (fun _ => True) (fun a => .bool (decide (a.1 = a.2))) (fun _ => [])
set_option maxHeartbeats 4000000 in
theorem smCommit_has : Has Tryz.prog 121 cSmCommit := by
  refine has_walk mixed tTab_ok (l := [(17, cSmInts), (189, cSmTree)]) (HasL.cons smInts_has (HasL.cons smTree_has HasL.nil)) [0, 1, 2, 3, 4] ((fun a n (_ : Nat) => (fun _ => noInv) a n)) [] Tryz.func121 (by kernel_rfl) (code := _) (by unfold Tryz.f121; rfl) (by kernel_rfl) (by decide) (fun _ => ⟨(), trivial⟩) (by intro h; first | exact fun _ => rfl | cases h) (by kernel_rfl) ?_
  intro a _
  obtain ⟨c, d⟩ := a
  simp -implicitDefEqProofs [cSmCommit, cSmInts, cSmTree, Con.fn, tTab, CommitD.eq_iff]
  try dsimp only
  refine ⟨fun h => ⟨_, _, ⟨rfl, rfl⟩, fun e => ⟨_, _, ⟨rfl, rfl⟩, by simp -implicitDefEqProofs [e, h]⟩, fun e h' => absurd h' e⟩, fun h _ h' => absurd h' h⟩

def smRA (r q : RepoD) : Inv := ⟨Nat, fun i => ⟨[(2, true, .ptr 10 0), (3, true, .ptr 11 0), (4, true, .bool false), (5, true, .int .i64 i)], [(10, bRepo r), (11, bRepo q)]⟩, fun i => i ≤ r.commits.length ∧ (r.commits.length = q.commits.length ∧ r.heads.length = q.heads.length) ∧ r.commits.take i = q.commits.take i, fun i => r.commits.length - i⟩
def smRB (r q : RepoD) : Inv := ⟨Nat, fun i => ⟨[(2, true, .ptr 10 0), (3, true, .ptr 11 0), (4, true, .bool false), (6, true, .int .i64 i)], [(10, bRepo r), (11, bRepo q)]⟩, fun i => i ≤ r.heads.length ∧ (r.commits = q.commits ∧ r.heads.length = q.heads.length) ∧ r.heads.take i = q.heads.take i, fun i => r.heads.length - i⟩
def smRInv (r q : RepoD) (n g : Nat) : Inv := if n = 4 then smRA r q else smRB r q
theorem smRInv_4 (r q g) : smRInv r q 4 g = smRA r q := rfl
theorem smRInv_9 (r q g) : smRInv r q 9 g = smRB r q := rfl
theorem RepoD.eqs (a b : RepoD) : (a = b) = (a.commits = b.commits ∧ a.heads = b.heads) := by cases a; cases b; simp
def cSmRepo : Con := .fn 60 (RepoD × RepoD) (fun a => [vRepo a.1, vRepo a.2]) (fun _ => True) (fun a => .bool (decide (a.1 = a.2))) (fun _ => [])
set_option maxHeartbeats 4000000 in
theorem smRepo_has : Has Tryz.prog 51 cSmRepo := by
  refine has_walk mixed tTab_ok (l := [(121, cSmCommit)]) (HasL.cons smCommit_has HasL.nil) [0, 1, 2, 3, 4, 5, 6] (fun a => smRInv a.1 a.2) [] Tryz.func51 (by kernel_rfl) (code := _) (by unfold Tryz.f51; rfl) (by kernel_rfl) (by decide) (fun _ => ⟨(), trivial⟩) (by intro h; first | exact fun _ => rfl | cases h) (by kernel_rfl) ?_
  intro a _
  obtain ⟨r, q⟩ := a
  simp (maxSteps := 8000000) -implicitDefEqProofs [-kStep_move, -kStepC_move, -Bool.exists_bool, cSmRepo, cSmCommit, Con.fn, tTab, smRInv_4, smRInv_9, smRA, smRB, bRepo_def]
  try dsimp only
  refine fun _ _ _ _ => ⟨fun h e => by subst e; simp at h, fun e1 e2 => ⟨⟨by omega, by omega⟩, fun t ht g1 g2 g3 _ => ⟨fun hlt => ⟨hlt, fun _ => ?_⟩, fun hge => ?_⟩⟩⟩
  · have hq : t < q.commits.length := by omega
    have qq1 : Option.map eCommit r.commits[t]? = some (eCommit r.commits[t]) := by simp -implicitDefEqProofs [hlt]
    have qq2 : Option.map eCommit q.commits[t]? = some (eCommit q.commits[t]) := by simp -implicitDefEqProofs [hq]
    have hst := eq_take hlt hq g3
    rw [qq1, qq2]
    have hne : r.commits[t] ≠ q.commits[t] → r ≠ q := fun h e => by subst e; exact h rfl
    generalize r.commits[t] = x at *
    generalize q.commits[t] = y at *
    simp -implicitDefEqProofs [eCommit, D.asStr, D.asRows, hq]
    refine ⟨x, y, ⟨⟨rfl, rfl, rfl⟩, rfl, rfl, rfl⟩, hne, fun e => ⟨⟨by omega, by omega⟩, fun _ _ => ⟨t + 1, by omega, ⟨by omega, ⟨g1, g2⟩, hst e⟩, by omega⟩⟩⟩
  · have ec : r.commits = q.commits := eq_end g1 hge g3
    refine ⟨⟨ec, g2⟩, fun t ht _ _ g5 _ => ⟨fun hlt => ⟨hlt, fun _ => ?_⟩, fun hge => ?_⟩⟩
    · have hq : t < q.heads.length := by omega
      have qq1 : Option.map eHead r.heads[t]? = some (eHead r.heads[t]) := by simp -implicitDefEqProofs [hlt]
      have qq2 : Option.map eHead q.heads[t]? = some (eHead q.heads[t]) := by simp -implicitDefEqProofs [hq]
      have hst := eq_take hlt hq g5
      rw [qq1, qq2]
      have hne : r.heads[t] ≠ q.heads[t] → r ≠ q := fun h e => by subst e; exact h rfl
      generalize r.heads[t] = x at *
      generalize q.heads[t] = y at *
      simp -implicitDefEqProofs [eHead, D.asStr, D.asInt, hq]
      refine ⟨fun h => hne (fun e => by subst e; simp at h), fun e1 e2 => ⟨⟨by omega, by omega⟩, fun _ _ => ⟨t + 1, by omega, ⟨by omega, ⟨ec, g2⟩, hst (by rw [HeadD.eq_iff]; exact ⟨e1, e2⟩)⟩, by omega⟩⟩⟩
    · rw [RepoD.eqs]; exact ⟨ec, eq_end g2 hge g5⟩

end Vx
end Go.Proofs.YtnmmlcjnjnooaaaGreatDoor
/-
  The laws FnRepoPut, FnRepoRead.
-/
namespace Go.Proofs.YtnmmlcjnjnooaaaGreatDoor
namespace Vx
open Go.RowKit
set_option maxRecDepth 8000

theorem treeT_le2 {t : List FileD} (h : treeI t = true) (hk : okT t) : (treeT t).length ≤ 4000 := by
  have h1 := treeT_le (t := t) fun f hf => ⟨(treeI_plain h f hf).1.2, by have := (treeI_plain h f hf).2.1; omega, fun l hl => by have := (hk.2 f hf).2.2 l hl; omega⟩
  have := hk.1
  omega
theorem comsT_le : ∀ {l : List CommitD}, (∀ c ∈ l, okC c ∧ treeI c.tree = true) → (comsT l).length ≤ 4100 * l.length
  | [], _ => by simp -implicitDefEqProofs [comsT]
  | c :: l, h => by
    have ih := comsT_le (l := l) fun x hx => h x (by simp -implicitDefEqProofs [hx])
    obtain ⟨⟨h1, h2, h3, h4⟩, h5⟩ := h c (by simp)
    have h6 := treeT_le2 h5 h4
    have h7 := parT_len c.parents
    have e : comsT (c :: l) = comT c ++ comsT l := by simp -implicitDefEqProofs [comsT]
    rw [e]
    simp only [comT, comW, List.length_append, List.length_cons, List.length_nil] at *
    omega
theorem headsT_le : ∀ {l : List HeadD}, (∀ h ∈ l, okH h) → (headsT l).length ≤ 100 * l.length
  | [], _ => by simp -implicitDefEqProofs [headsT]
  | c :: l, h => by
    have ih := headsT_le (l := l) fun x hx => h x (by simp -implicitDefEqProofs [hx])
    obtain ⟨h1, h2, h3⟩ := h c (by simp)
    have h7 := decS_len c.at_.toNat
    have e : headsT (c :: l) = headT c ++ headsT l := by simp -implicitDefEqProofs [headsT]
    rw [e]
    simp only [headT, List.length_append, List.length_cons, List.length_nil] at *
    omega
theorem repoT_le {r : RepoD} (h : repoI r = true) : (repoT r).length ≤ 70000 := by
  have P := plainR_of h
  have K := okR_of h fun c hc f hf => by
    obtain ⟨i, hi, rfl⟩ := List.getElem_of_mem hc
    have := (treeI_plain (repo_use h hi).2.2 f hf).1.2
    omega
  have h1 := comsT_le (l := r.commits) fun c hc => ⟨K.2.1 c hc, by obtain ⟨i, hi, rfl⟩ := List.getElem_of_mem hc; exact (repo_use h hi).2.2⟩
  have h2 := headsT_le K.2.2.2
  have := K.1
  have := K.2.2.1
  unfold repoT
  rw [List.length_append]
  omega
theorem repoPutD_le (r : RepoD) : (repoPutD r).length ≤ 70000 := by
  unfold repoPutD
  split
  · rename_i h; exact repoT_le h
  · simp
theorem drawn_rq {r : RepoD} (h : drawnR r) : rqPre r := ⟨by have := h.1; omega, fun c hc f hf => by have := treeS_path (h.2.2 c hc).2.1 f hf; omega⟩

def cFnRepoPut : Con := { (Con.fn 38 Str (fun s => [.sl true 1 (eBytes s)]) (fun _ => True) (fun _ => .bool true) (fun _ => [])) with need := numNeed }
set_option maxHeartbeats 4000000 in
theorem fnRepoPut_has : Has Tryz.prog 9 cFnRepoPut := by
  refine has_walk mixed tTab_ok (l := [(47, cDrawRepoPut), (48, cRepoPutI), (49, cRepoPutS), (19, cRepoOk), (50, cRepoReadI), (51, cSmRepo)]) (HasL.cons drawRepoPut_has (HasL.cons repoPutI_has (HasL.cons repoPutS_has (HasL.cons repoOk_has (HasL.cons repoReadI_has (HasL.cons smRepo_has HasL.nil)))))) [0, 2, 3, 4, 5, 6] ((fun a n (_ : Nat) => (fun _ => noInv) a n)) [] Tryz.func9 (by kernel_rfl) (code := _) (by unfold Tryz.f9; rfl) (by kernel_rfl) (by decide) (fun _ => ⟨(), trivial⟩) (by intro h; first | exact fun _ => rfl | cases h) (by kernel_rfl) ?_
  intro (s : Str) _
  simp (maxSteps := 8000000) -implicitDefEqProofs [-kStep_move, -kStepC_move, -Bool.exists_bool, cFnRepoPut, cDrawRepoPut, cRepoPutI, cRepoPutS, cRepoOk, cRepoReadI, cSmRepo, Con.fn, tTab]
  refine fun _ _ r hd => ⟨drawn_rq hd, rqPre_rp (drawn_rq hd), fun _ => drawn_rq hd, fun hI => ?_⟩
  have e : repoPutD r = repoT r := by unfold repoPutD; rw [if_pos hI]
  have h1 := repoReadI_enc numS_dec (plainR_of hI) hI
  have h2 := repoT_le hI
  rw [e, h1]
  exact ⟨by omega, ⟨rfl, rfl⟩, rfl⟩

end Vx
end Go.Proofs.YtnmmlcjnjnooaaaGreatDoor
