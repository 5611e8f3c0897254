/-
  Joined by program (merge.py): EngRd, EngFz. It shows what the single texts show; conditions: none but those of each lemma.
-/
import Derived.Test.YtnanellmaelipaaGreatDoorVc
import Derived.ChangeArms
import Derived.DataReads
import Derived.Carry
set_option linter.unusedVariables false
set_option linter.unusedSimpArgs false
set_option linter.unusedSectionVars false
/-
  From the row's reading of the arguments to what the walks read; a law's call out of its contract.
-/
namespace Go.Proofs.YtnanellmaelipaaGreatDoor
namespace Vx
open Go.RowKit

/-- Data of cells of these kinds. -/
inductive Shp (T : Nat → Option TI) : List TK → List D → Prop
  | nil : Shp T [] []
  | int {k n ks ds} : (Lit.int k n).wf = true → Shp T ks ds → Shp T (.int k :: ks) (.int k n :: ds)
  | bool {b ks ds} : Shp T ks ds → Shp T (.bool :: ks) (.bool b :: ds)
  | str {s ks ds} : s.length ≤ maxLen → Shp T ks ds → Shp T (.str :: ks) (.str s :: ds)
  | sl {e k te rows ks ds} : T e = some te → (∀ r, r ∈ rows → Shp T te.cells r) → Shp T ks ds → Shp T (.sl e k :: ks) (.sl e k rows :: ds)

theorem Shp.append {T ks ds ks' ds'} (h : Shp T ks ds) (h' : Shp T ks' ds') : Shp T (ks ++ ks') (ds ++ ds') := by
  induction h with
  | nil => exact h'
  | int q _ ih => exact .int q ih
  | bool _ ih => exact .bool ih
  | str q _ ih => exact .str q ih
  | sl q1 q2 _ _ ih => exact .sl q1 q2 ih
theorem Shp.length {T ks ds} (h : Shp T ks ds) : ds.length = ks.length := by
  induction h <;> simp_all

def tkEq : TK → TK → Bool
  | .int k, .int k' => decide (k = k')
  | .bool, .bool => true
  | .str, .str => true
  | .sl e k, .sl e' k' => decide (e = e') && decide (k = k')
  | _, _ => false
theorem tkEq_ok {a b : TK} (h : tkEq a b = true) : a = b := by
  cases a <;> cases b <;> simp [tkEq] at h <;> simp [h]
def tksEq : List TK → List TK → Bool
  | [], [] => true
  | a :: as, b :: bs => tkEq a b && tksEq as bs
  | _, _ => false
theorem tksEq_ok : ∀ {xs ys : List TK}, tksEq xs ys = true → xs = ys
  | [], [], _ => rfl
  | [], _ :: _, h => by cases h
  | _ :: _, [], h => by cases h
  | a :: xs, b :: ys, h => by
    simp only [tksEq, Bool.and_eq_true] at h
    rw [tkEq_ok h.1, tksEq_ok h.2]

def tileOk (tab : List (Nat × TI)) : List (Nat × Nat) → Nat → List TK → Bool
  | [], _, cs => cs.isEmpty
  | (t, o) :: r, off, cs => decide (o = off) && (match get? tab t with
    | some ti => tksEq (cs.take ti.cells.length) ti.cells && tileOk tab r (off + ti.cells.length) (cs.drop ti.cells.length)
    | none => false)

def tabOk1 (tab : List (Nat × TI)) (ti : TI) : Bool :=
  bif ti.agg then tileOk tab ti.fields 0 ti.cells else match ti.cells with
    | [.int _] => true
    | [.bool] => true
    | [.str] => true
    | [.sl e k] => match get? tab e with
      | some te => decide (te.cells.length = k)
      | none => false
    | _ => false
/-- The table is closed. -/
def tabOk (tab : List (Nat × TI)) : Bool := tab.all fun p => tabOk1 tab p.2

theorem tabOk_get {tab : List (Nat × TI)} (h : tabOk tab = true) {t ti} (hg : get? tab t = some ti) : tabOk1 tab ti = true := by
  unfold tabOk at h
  rw [List.all_eq_true] at h
  suffices H : ∀ l : List (Nat × TI), (∀ x ∈ l, tabOk1 tab x.2 = true) → get? l t = some ti → tabOk1 tab ti = true from H tab h hg
  intro l
  induction l with
  | nil => intro _ h; cases h
  | cons p l ih =>
    intro hl hg
    obtain ⟨k, v⟩ := p
    simp only [get?] at hg
    split at hg
    · cases hg; exact hl (k, ti) (by simp)
    · exact ih (fun x hx => hl x (by simp [hx])) hg

theorem addr_add_add (a : Addr) (x y : Nat) : (a.add x).add y = a.add (x + y) := by
  unfold Addr.add
  by_cases hx : x = 0
  · subst hx; simp
  · by_cases hy : y = 0
    · subst hy; simp
    · simp [hx, hy, Nat.add_assoc]

theorem cellsOf_ok {P : Program} {t : Nat} {ti : TI} (h : TOk P t ti) : P.cellsOf t = ti.cells.length := by
  obtain ⟨i, z, h1, h2, _⟩ := h.info
  simp [Program.cellsOf, h1, h2]

section
variable {P : Program} {tab : List (Nat × TI)} (hT : ∀ t ti, get? tab t = some ti → TOk P t ti) (hok : tabOk tab = true) {H : Type} {enc : TypeId × Value → H} {w : World} {sp : Nat → Bool} {held : Bool}
include hT hok

theorem rd_trod : ∀ (fuel : Nat) {t : Nat} {ti : TI} {cs : List Value} {x : DataW H × List MemPlace}, get? tab t = some ti → DataW.trod enc P w 0 sp held fuel t cs = some x →
    ∃ ds fp, RdL false w ds cs fp ∧ Shp (get? tab) ti.cells ds := by
  intro fuel
  induction fuel with
  | zero => intro t ti cs x _ h; simp [DataW.trod] at h
  | succ fuel ih =>
    intro t ti cs x ht h
    have K := hT t ti ht
    have hc := tabOk_get hok ht
    have hd := K.desc
    unfold tabOk1 at hc
    cases hg : ti.agg with
    | false =>
      rw [hg] at hc hd
      simp only [cond_false, Bool.false_eq_true, if_false] at hc hd
      obtain ⟨c, hcs, hd⟩ := hd
      rw [hcs] at hc ⊢
      cases c with
      | int k =>
        obtain ⟨n, rfl, _, hw⟩ := DataW.trod_int hd h
        exact ⟨[.int k n], [], .int .nil, .int hw .nil⟩
      | bool =>
        obtain ⟨b, rfl, _⟩ := DataW.trod_bool hd h
        exact ⟨[.bool b], [], .bool .nil, .bool .nil⟩
      | str =>
        obtain ⟨s, rfl, _, hs⟩ := DataW.trod_string hd h
        have hl : s.data.toList.length ≤ maxLen := by simpa using hs
        refine ⟨[.str s.data.toList], [], ?_, .str hl .nil⟩
        have := RdL.str (q := false) (w := w) (s := s.data.toList) hl .nil
        simpa using this
      | oth z => simp at hc
      | sl e k =>
        obtain ⟨he, hu⟩ := hd
        simp only at hc
        cases hte : get? tab e with
        | none => rw [hte] at hc; cases hc
        | some te =>
          rw [hte] at hc
          have hk : te.cells.length = k := of_decide_eq_true hc
          have Ke := hT e te hte
          have hke := cellsOf_ok Ke
          rcases DataW.trod_slice hu h with ⟨rfl, _⟩ | ⟨a, len, cap, elems, rest, n, hn, rfl, _, _, hle, hmx, hlen, hel, _, _⟩
          · exact ⟨[.sl e k []], [], .sl0 (by unfold maxLen; omega) (by simp) .nil, .sl hte (by simp) .nil⟩
          · obtain rfl : n = fuel := by omega
            by_cases h0 : len = 0
            · subst h0
              exact ⟨[.sl e k []], [], .sl0 hmx (by simp) .nil, .sl hte (by simp) .nil⟩
            · rw [hke, hk] at hel
              have key : ∀ m, m ≤ len → ∃ (rows : List (List D)) (cvs : List Value) (f : List (Nat × Nat)), rows.length = m ∧ (∀ r ∈ rows, r.length = k ∧ Shp (get? tab) te.cells r) ∧ RdL false w rows.flatten cvs f ∧ cvs.length = m * k ∧
                  ∀ j, j < m * k → w.cell? (a.add j) = cvs[j]? := by
                intro m
                induction m with
                | zero => intro _; exact ⟨[], [], [], rfl, by simp, .nil, by simp, by simp⟩
                | succ m ihm =>
                  intro hm
                  obtain ⟨rows, cvs, f, q1, q2, q3, q4, q5⟩ := ihm (by omega)
                  have hi := hel m (by omega)
                  have hsome : elems[m]? = some (elems[m]'(by omega)) := List.getElem?_eq_getElem (by omega)
                  rw [hsome] at hi
                  simp only [Option.bind_eq_some_iff] at hi
                  obtain ⟨csi, hi1, hi2⟩ := hi
                  obtain ⟨_, hl, hcell⟩ := World.cells?_some hi1
                  obtain ⟨ds, fi, r1, r2⟩ := ih hte hi2
                  refine ⟨rows ++ [ds], cvs ++ csi, f ++ fi, by simp [q1], ?_, ?_, ?_, ?_⟩
                  · intro r hr
                    rcases List.mem_append.1 hr with hr | hr
                    · exact q2 r hr
                    · simp only [List.mem_singleton] at hr
                      subst hr
                      exact ⟨by rw [r2.length, hk], r2⟩
                  · have := q3.append r1
                    simpa using this
                  · simp [q4, hl, Nat.succ_mul]
                  · intro j hj
                    rw [Nat.succ_mul] at hj
                    by_cases hjm : j < m * k
                    · rw [q5 j hjm, List.getElem?_append_left (by omega)]
                    · have := hcell (j - m * k) (by omega)
                      rw [addr_add_add, show m * k + (j - m * k) = j by omega] at this
                      rw [this, List.getElem?_append_right (by omega), q4]
              obtain ⟨rows, cvs, f, q1, q2, q3, q4, q5⟩ := key len (Nat.le_refl _)
              have hpos : 0 < k := by rw [← hk]; exact Ke.pos
              have hlk : 0 < len * k := Nat.mul_pos (by omega) hpos
              have h00 := q5 0 hlk
              rw [List.getElem?_eq_getElem (by omega)] at h00
              have ea : a.add 0 = a := by simp [Addr.add]
              rw [ea] at h00
              unfold World.cell? at h00
              obtain ⟨b, off, spot⟩ := a
              split at h00
              · rename_i cells ty fr hb
                split at h00
                · cases h00
                · rename_i hspot
                  simp only [Bool.not_eq_true, Option.isSome_eq_false_iff, Option.isNone_iff_eq_none] at hspot
                  simp only at hspot hb
                  subst hspot
                  refine ⟨[.sl e k rows], (b, off + cvs.length) :: (f ++ []), .sl q1 (.inr (by omega)) hle hmx (fun r hr => (q2 r hr).1) hb (by simp) ?_ q3 .nil, .sl hte (fun r hr => (q2 r hr).2) .nil⟩
                  intro j u hu
                  have hj : j < cvs.length := (List.getElem?_eq_some_iff.1 hu).1
                  have := q5 j (by omega)
                  rw [hu] at this
                  by_cases hj0 : j = 0
                  · subst hj0
                    simpa [Addr.add, World.cell?, hb] using this
                  · simpa [Addr.add, World.cell?, hb, hj0] using this
              · cases h00
    | true =>
      rw [hg] at hc hd
      simp only [cond_true, if_true] at hc hd
      obtain ⟨fs, hu, hf⟩ := hd
      obtain ⟨xs, n, hn, _, hl, hxl, hfs⟩ := DataW.trod_struct hu h
      obtain rfl : n = fuel := by omega
      rw [cellsOf_ok K] at hl
      have aux : ∀ (fl : List Field) (off : Nat) (ks : List TK), tileOk tab (fl.map fun f => (f.type, f.offset)) off ks = true → (cs.drop off).length = ks.length →
          (∀ f ∈ fl, ∃ y, DataW.trod enc P w 0 sp held n f.type ((cs.drop f.offset).take (P.cellsOf f.type)) = some y) → ∃ ds fp, RdL false w ds (cs.drop off) fp ∧ Shp (get? tab) ks ds := by
        intro fl
        induction fl with
        | nil =>
          intro off ks hk hl _
          simp only [List.map_nil, tileOk, List.isEmpty_iff] at hk
          subst hk
          simp only [List.length_nil, List.length_eq_zero_iff] at hl
          rw [hl]
          exact ⟨[], [], .nil, .nil⟩
        | cons f fl ihf =>
          intro off ks hk hl hall
          simp only [List.map_cons, tileOk, Bool.and_eq_true, decide_eq_true_eq] at hk
          obtain ⟨rfl, hk⟩ := hk
          cases hft : get? tab f.type with
          | none => rw [hft] at hk; cases hk
          | some tf =>
            rw [hft] at hk
            simp only [Bool.and_eq_true] at hk
            obtain ⟨hk1, hk2⟩ := hk
            have hk1 := tksEq_ok hk1
            obtain ⟨y, hy⟩ := hall f (by simp)
            rw [cellsOf_ok (hT _ _ hft)] at hy
            obtain ⟨ds1, f1, a1, a2⟩ := ih hft hy
            have hkl : tf.cells.length ≤ ks.length := by
              rw [← hk1, List.length_take]; omega
            obtain ⟨ds2, f2, b1, b2⟩ := ihf (f.offset + tf.cells.length) (ks.drop tf.cells.length) hk2 (by simp only [List.length_drop] at hl ⊢; omega) (fun g hg => hall g (by simp [hg]))
            refine ⟨ds1 ++ ds2, f1 ++ f2, ?_, ?_⟩
            · have := a1.append b1
              rw [← List.drop_drop, List.take_append_drop] at this
              exact this
            · have := a2.append b2
              have e : tf.cells ++ ks.drop tf.cells.length = ks := by
                conv => lhs; lhs; rw [← hk1]
                exact List.take_append_drop _ _
              rwa [e] at this
      have := aux fs.toList 0 ti.cells (by rw [hf]; exact hc) (by simpa using hl) (fun f hf => by
        obtain ⟨i, hi, rfl⟩ := List.getElem_of_mem hf
        have hi' : i < fs.size := by simpa using hi
        have := hfs i fs[i] (Array.getElem?_eq_getElem hi')
        refine ⟨xs[i]'(by omega), ?_⟩
        rw [List.getElem?_eq_getElem (by omega)] at this
        simpa using this)
      simpa using this
end

/-- The arguments as the walks read them. -/
inductive RdArgs (w : World) : List AV → List Value → List (Nat × Nat) → Prop
  | nil : RdArgs w [] [] []
  | int {k n as vs f} : RdArgs w as vs f → RdArgs w (.int k n :: as) (.int k n :: vs) f
  | bool {b as vs f} : RdArgs w as vs f → RdArgs w (.bool b :: as) (.bool b :: vs) f
  | str {s as vs f} : s.length ≤ maxLen → RdArgs w as vs f → RdArgs w (.str s :: as) (.string ⟨s.toArray⟩ :: vs) f
  | sl {e k rows v as vs f f'} : RdL false w [.sl e k rows] [v] f → RdArgs w as vs f' → RdArgs w (.sl true k rows :: as) (v :: vs) (f ++ f')
  | agg {bs us as vs f f'} : RdArgs w bs us f → (∀ u ∈ us, u.oneCell' = true) → RdArgs w as vs f' → RdArgs w (.agg bs :: as) (.agg us.toArray :: vs) (f ++ f')

theorem RdArgs.lt {w as vs f} (h : RdArgs w as vs f) : ∀ x ∈ f, x.1 < w.heap.size := by
  induction h with
  | nil => intro x hx; cases hx
  | sl h1 _ ih => intro x hx; rcases List.mem_append.1 hx with hx | hx; exact h1.lt x hx; exact ih x hx
  | agg _ _ _ ih1 ih2 => intro x hx; rcases List.mem_append.1 hx with hx | hx; exact ih1 x hx; exact ih2 x hx
  | _ => assumption

theorem RdArgs.rel {w as vs f} (h : RdArgs w as vs f) {c : Cx} {β : Nat → Value} : (∀ x ∈ f, c.F x) → RelL w (fun _ => none) β c as vs := by
  have L : ∀ x, Lim (fun _ => none) β x := by
    intro x
    refine ⟨?_, ?_⟩
    · rintro ⟨h, ty, us, hm, _⟩; cases hm
    · intro h e k d R n c' hm; cases hm
  induction h with
  | nil => intro _; exact .lnil
  | int _ ih => intro k; exact .int (ih k)
  | bool _ ih => intro k; exact .bool (ih k)
  | str hs _ ih => intro k; exact .str hs (ih k)
  | sl h1 _ ih => intro k; exact .sl ⟨_, _, h1, fun x hx => ⟨L x, .inl (k x (by simp [hx]))⟩⟩ (ih fun x hx => k x (by simp [hx]))
  | agg _ h2 _ ih1 ih2 => intro k; exact .agg (ih1 fun x hx => k x (by simp [hx])) h2 (ih2 fun x hx => k x (by simp [hx]))

theorem relL_get {w m β c} : ∀ {xs : List AV} {vs : List Value} {i : Nat} {v : AV}, RelL w m β c xs vs → xs[i]? = some v → ∃ u, vs[i]? = some u ∧ RelL w m β c [v] [u] := by
  intro xs
  induction xs with
  | nil => intro vs i v _ h; simp at h
  | cons x xs ih =>
    intro vs i v hr h
    obtain ⟨u, us, rfl, h1, h2⟩ := hr.uncons
    cases i with
    | zero => simp at h; subst h; exact ⟨u, rfl, h1⟩
    | succ i => simpa using ih h2 (by simpa using h)

/-- The first state of a call from outside. -/
theorem start_sat {k : Con} {x : k.A} {W : World} {vs : List Value} {f : List (Nat × Nat)} (hb : k.boxes x = []) (ho : k.owns x = []) (h : RdArgs W (k.args x) vs f) (hn : vs.length ≤ k.n) :
    SatI ⟨f, fun b => b < W.heap.size, W, k.n, []⟩ (k.start2 x) ⟨vs.toArray ++ Array.replicate (k.n - vs.length) undef, []⟩ W (fun _ => undef) (fun _ => []) := by
  have hm : (k.start2 x).m = fun _ => none := by simp [Con.start2, hb, ho]; rfl
  have hrel := h.rel (c := ⟨f, fun b => b < W.heap.size, W, k.n, []⟩) (β := fun _ => undef) (fun z hz => ⟨z, hz, rfl, Nat.le_refl _⟩)
  refine ⟨?_, ?_, ?_, ?_, ?_, ?_, ?_, rfl, rfl, rfl, Nat.le_refl _, rfl, ?_, ?_⟩
  · intro t g av ht
    simp only [Con.start2, Option.map_eq_some_iff] at ht
    obtain ⟨v, hv, he⟩ := ht
    cases he
    obtain ⟨u, hu, hr⟩ := relL_get hrel hv
    have hlt : t < vs.length := (List.getElem?_eq_some_iff.1 hu).1
    refine ⟨by simp; omega, fun _ => ?_, by simp⟩
    have e : (vs.toArray ++ Array.replicate (k.n - vs.length) undef).getD t undef = u := by
      rw [Array.getD_eq_getD_getElem?, Array.getElem?_append_left (by simpa using hlt)]
      simp [hu]
    rw [e, hm]
    exact hr
  · intro h' blk hh; rw [hm] at hh; cases hh
  · intro h' blk hh; rw [hm] at hh; cases hh
  · intro h1 h2 b1 b2 hh; rw [hm] at hh; cases hh
  · intro h' blk hh; rw [hm] at hh; cases hh
  · rintro z ⟨y, hy, e1, _⟩
    rw [e1]; exact h.lt y hy
  · intro b hb'; exact ⟨hb', rfl⟩
  · simp; omega
  · intro p hp; cases hp

/-- A law's call. -/
theorem law_calls {P : Program} {fn : Nat} {k : Con} (HH : Has P fn k) {x : k.A} {W : World} {vs : List Value} {f : List (Nat × Nat)} (hpre : k.pre x) (hb : k.boxes x = []) (ho : k.owns x = []) (hl : k.lends = []) (h : RdArgs W (k.args x) vs f)
    (hlen : vs.length = (k.args x).length) (hn : vs.length ≤ k.n) (hres : ∀ y, k.res x y = .bool true) (hky : ∀ w : World, (∀ b, b < W.heap.size → w.heap[b]? = W.heap[b]?) → k.need w := by exact fun _ _ => trivial) : Calls P fn vs.toArray W fun e w' => e = .returned (.bool true) ∧ Below W.heap.size W w' := by
  refine (HH.calls x hpre ⟨f, fun b => b < W.heap.size, W, k.n, []⟩ hky vs _ _ rfl (by simp [Con.pins2, hb, hl]) hlen hn (start_sat hb ho h hn)).mono ?_
  rintro e w' ⟨y, _, v, rfl, β', fp', a', S, hv⟩
  rw [hres] at hv
  cases hv with
  | bool _ => exact ⟨rfl, S.os, S.tape, S.output, S.size, fun b hb => (S.old b hb).2⟩

theorem rows_map {α : Type} {f : α → List D} {p : α → Prop} : ∀ {rows : List (List D)}, (∀ r ∈ rows, ∃ x, r = f x ∧ p x) → ∃ l : List α, rows = l.map f ∧ ∀ x ∈ l, p x := by
  intro rows
  induction rows with
  | nil => intro _; exact ⟨[], rfl, by simp⟩
  | cons r rows ih =>
    intro h
    obtain ⟨x, rfl, hx⟩ := h r (by simp)
    obtain ⟨l, rfl, hl⟩ := ih fun r hr => h r (by simp [hr])
    exact ⟨x :: l, rfl, by intro y hy; rcases List.mem_cons.1 hy with rfl | hy; exact hx; exact hl y hy⟩

end Vx
end Go.Proofs.YtnanellmaelipaaGreatDoor
/-
  A law's walk: at places that are named all that was made so far is frozen, and stays known.
-/
namespace Go.Proofs.YtnanellmaelipaaGreatDoor
namespace Vx
open Go.RowKit

def AV.fz1 : AV → AV
  | .int k n => .int k n
  | .bool b => .bool b
  | .str s => .str s
  | .raw v => .raw v
  | .nil => .nil
  | .sl _ k r => .sl true k r
  | .own _ k r => .sl true k r
  | .sub _ _ _ k r => .sl true k r
  | _ => .junk
def AV.fz : AV → AV
  | .agg vs => .agg (vs.map AV.fz1)
  | v => v.fz1
def St.freeze (s : St) : St := ⟨fun t => (s.e t).map fun p => (p.1, p.2.fz), fun _ => none⟩

/-- c' goes on from c. -/
structure Ext (c c' : Cx) : Prop where
  n : c'.n = c.n
  pins : c.pins = [] → c'.pins = []
  G : ∀ b, c.G b → c'.G b ∧ c'.w0.heap[b]? = c.w0.heap[b]?
  size : c.w0.heap.size ≤ c'.w0.heap.size
  os : c'.w0.os = c.w0.os
  tape : c'.w0.tape = c.w0.tape
  output : c'.w0.output = c.w0.output

theorem Ext.refl (c : Cx) : Ext c c := ⟨rfl, id, fun _ h => ⟨h, rfl⟩, Nat.le_refl _, rfl, rfl, rfl⟩
theorem Ext.trans {a b c : Cx} (h : Ext a b) (k : Ext b c) : Ext a c :=
  ⟨k.n.trans h.n, fun q => k.pins (h.pins q), fun x hx => ⟨(k.G x (h.G x hx).1).1, ((k.G x (h.G x hx).1).2).trans (h.G x hx).2⟩, Nat.le_trans h.size k.size, k.os.trans h.os, k.tape.trans h.tape, k.output.trans h.output⟩

theorem fz1_hs {v : AV} : v.fz1.hs = [] := by cases v <;> rfl
theorem fz1s_hs : ∀ {vs : List AV}, AV.hs.hsL (vs.map AV.fz1) = [] := by
  intro vs
  induction vs with
  | nil => rfl
  | cons v vs ih => simp only [List.map_cons, AV.hs.hsL, fz1_hs, ih, List.append_nil]
theorem fz_hs {v : AV} : v.fz.hs = [] := by
  cases v <;> first | rfl | exact fz1s_hs

section
variable {w : World} {m : Nat → Option Blk} {β : Nat → Value} {c : Cx}

theorem lim_none {β' : Nat → Value} (x : Nat × Nat) : Lim (fun _ => none) β' x := by
  refine ⟨?_, ?_⟩
  · rintro ⟨h, ty, us, hm, _⟩; cases hm
  · intro h e k d R n c' hm; cases hm

/-- A frozen value reads in whatever context lists its places. -/
def FzOk (w : World) (xs : List AV) (vs : List Value) : Prop :=
  ∃ f : List (Nat × Nat), (∀ x ∈ f, x.1 < w.heap.size) ∧ ∀ (c' : Cx) (β' : Nat → Value), (∀ x ∈ f, c'.F x) → RelL w (fun _ => none) β' c' xs vs

theorem FzOk.append {xs ys : List AV} {us vs : List Value} (h : FzOk w xs us) (h' : FzOk w ys vs) : FzOk w (xs ++ ys) (us ++ vs) := by
  obtain ⟨f, a1, a2⟩ := h
  obtain ⟨g, b1, b2⟩ := h'
  refine ⟨f ++ g, fun x hx => ?_, fun c' β' hc => (a2 c' β' fun x hx => hc x (by simp [hx])).append (b2 c' β' fun x hx => hc x (by simp [hx]))⟩
  rcases List.mem_append.1 hx with hx | hx
  · exact a1 x hx
  · exact b1 x hx

theorem fz_view {e k rows v} {ext : Bool} (h : Vw w m β c ext [.sl e k rows] [v]) : FzOk w [.sl true k rows] [v] := by
  obtain ⟨f, h1, _⟩ := h
  exact ⟨f, h1.lt, fun c' β' hc => .sl ⟨e, f, h1, fun x hx => ⟨lim_none x, .inl (hc x hx)⟩⟩ .lnil⟩

theorem fz1_ok {x v} (h : RelL w m β c [x] [v]) : FzOk w [x.fz1] [v] := by
  cases h with
  | int _ => exact ⟨[], by simp, fun _ _ _ => .int .lnil⟩
  | bool _ => exact ⟨[], by simp, fun _ _ _ => .bool .lnil⟩
  | str hs _ => exact ⟨[], by simp, fun _ _ _ => .str hs .lnil⟩
  | raw hs _ => exact ⟨[], by simp, fun _ _ _ => .raw hs .lnil⟩
  | nil _ => exact ⟨[], by simp, fun _ _ _ => .nil .lnil⟩
  | sl h1 _ => obtain ⟨e, h1⟩ := h1; exact fz_view h1
  | own _ h2 _ _ => obtain ⟨e, h2⟩ := h2; exact fz_view h2
  | sub _ h2 _ _ => obtain ⟨e, h2⟩ := h2; exact fz_view h2
  | _ => exact ⟨[], by simp, fun _ _ _ => .junk .lnil⟩

theorem fz1s_ok : ∀ {xs vs}, RelL w m β c xs vs → FzOk w (xs.map AV.fz1) vs := by
  intro xs
  induction xs with
  | nil => intro vs h; cases h; exact ⟨[], by simp, fun _ _ _ => .lnil⟩
  | cons x xs ih =>
    intro vs h
    obtain ⟨v, vs', rfl, h1, h2⟩ := h.uncons
    exact (fz1_ok h1).append (ih h2)

theorem fz_ok {x v} (h : RelL w m β c [x] [v]) : FzOk w [x.fz] [v] := by
  cases x with
  | agg xs =>
    cases h with
    | agg h1 h2 _ =>
      obtain ⟨f, a1, a2⟩ := fz1s_ok h1
      exact ⟨f, a1, fun c' β' hc => .agg (a2 c' β' hc) h2 .lnil⟩
  | _ => exact fz1_ok h
end

theorem freeze_ok {c : Cx} {s : St} {a : Act} {w : World} (S : Sat c s a w) (hp : c.pins = []) : ∃ c', Ext c c' ∧ Sat c' s.freeze a w := by
  obtain ⟨β, fp, S⟩ := S
  have key : ∀ N, ∃ L : List (Nat × Nat), (∀ x ∈ L, x.1 < w.heap.size) ∧ ∀ t, t < N → ∀ av, s.e t = some (true, av) → ∀ (c' : Cx) (β' : Nat → Value), (∀ x ∈ L, c'.F x) → RelL w (fun _ => none) β' c' [av.fz] [a.tmps.getD t undef] := by
    intro N
    induction N with
    | zero => exact ⟨[], by simp, fun t h => by omega⟩
    | succ N ih =>
      obtain ⟨L, h1, h2⟩ := ih
      cases he : s.e N with
      | none =>
        refine ⟨L, h1, fun t ht av hav => ?_⟩
        by_cases htN : t = N
        · subst htN; rw [he] at hav; cases hav
        · exact h2 t (by omega) av hav
      | some p =>
        obtain ⟨g, av0⟩ := p
        cases g with
        | false =>
          refine ⟨L, h1, fun t ht av hav => ?_⟩
          by_cases htN : t = N
          · subst htN; rw [he] at hav; cases hav
          · exact h2 t (by omega) av hav
        | true =>
          obtain ⟨f, a1, a2⟩ := fz_ok ((S.env N true av0 he).2.1 rfl)
          refine ⟨f ++ L, fun x hx => ?_, fun t ht av hav c' β' hc => ?_⟩
          · rcases List.mem_append.1 hx with hx | hx
            · exact a1 x hx
            · exact h1 x hx
          · by_cases htN : t = N
            · subst htN
              rw [he] at hav
              cases hav
              exact a2 c' β' fun x hx => hc x (by simp [hx])
            · exact h2 t (by omega) av hav c' β' fun x hx => hc x (by simp [hx])
  obtain ⟨L, h1, h2⟩ := key a.tmps.size
  refine ⟨⟨L, fun b => b < w.heap.size, w, c.n, []⟩, ⟨rfl, fun _ => rfl, fun b hb => ⟨?_, ?_⟩, S.size, S.os, S.tape, S.output⟩, β, fp, ⟨?_, ?_, ?_, ?_, ?_, ?_, ?_, rfl, rfl, rfl, Nat.le_refl _, S.defers, S.tn, ?_⟩⟩
  · exact Nat.lt_of_lt_of_le (S.old b hb).1 S.size
  · exact (S.old b hb).2
  · intro t g av ht
    simp only [St.freeze, Option.map_eq_some_iff] at ht
    obtain ⟨⟨g0, av0⟩, h0, he⟩ := ht
    cases he
    obtain ⟨q1, q2, q3⟩ := S.env t g0 av0 h0
    refine ⟨q1, fun hg => ?_, fun hg => ⟨(q3 hg).1, fun h hh => ?_⟩⟩
    · subst hg
      exact h2 t q1 av0 h0 _ β fun x hx => ⟨x, hx, rfl, Nat.le_refl _⟩
    · rw [fz_hs] at hh; cases hh
  · intro h blk hm; cases hm
  · intro h blk hm; cases hm
  · intro h h' blk blk' hm; cases hm
  · intro h blk hm; cases hm
  · rintro x ⟨y, hy, e1, _⟩
    rw [e1]; exact h1 y hy
  · intro b hb; exact ⟨hb, rfl⟩
  · intro p hp'; cases hp'

/-- The verification condition of a law's body; at the regions in fz the state is frozen. -/
def vcZ (k : Wk) (fz : List Nat) : Code → (Exit → St → Prop) → St → Prop
  | .region id ops d, Q, s => vc k (.region id ops d) Q (bif fz.contains id then s.freeze else s)
  | .seq x y, Q, s => vcZ k fz x (fun e s => match e with | .normal => vcZ k fz y Q s | e => Q e s) s
  | .cond o x y, Q, s => match s.val o with
    | .bool b => s.cond o = true ∧ (b = true → vcZ k fz x Q s) ∧ (b = false → vcZ k fz y Q s)
    | _ => False
  | c, Q, s => vc k c Q s

def liftZ (c : Cx) (Q : Exit → St → Prop) : Exit → Act → World → Prop := fun e a w => ∃ c' s, Ext c c' ∧ Q e s ∧ Sat c' s a w

theorem vcZ_ok {P : Program} {k : Wk} {fz : List Nat} {c0 : Cx} (H : ∀ c : Cx, c.n = k.n → c.pins = [] → Ext c0 c → WkOk P k c) : ∀ (code : Code) {Q : Exit → St → Prop} {c : Cx} {s a w}, c.n = k.n → c.pins = [] → Ext c0 c → codeOk k.okr code = true → vcZ k fz code Q s → Sat c s a w → code.wp P (liftZ c Q) a w := by
  intro code
  have base : ∀ (code : Code) {Q : Exit → St → Prop} {c : Cx} {s a w}, c.n = k.n → c.pins = [] → Ext c0 c → codeOk k.okr code = true → vc k code Q s → Sat c s a w → code.wp P (liftZ c Q) a w := by
    intro code Q c s a w hn hp h0 hc h S
    refine wp_mono (vc_ok (H c hn hp h0) code hc h S) ?_
    rintro e a' w' ⟨s', hq, S'⟩
    exact ⟨c, s', Ext.refl c, hq, S'⟩
  induction code with
  | region id ops d =>
    intro Q c s a w hn hp h0 hc h S
    simp only [vcZ] at h
    cases hf : fz.contains id with
    | false => rw [hf] at h; exact base _ hn hp h0 hc h S
    | true =>
      rw [hf] at h
      obtain ⟨c', hE, S'⟩ := freeze_ok S hp
      refine wp_mono (base _ (hE.n.trans hn) (hE.pins hp) (h0.trans hE) hc h S') ?_
      rintro e a' w' ⟨c2, s', hE2, hq, S2⟩
      exact ⟨c2, s', hE.trans hE2, hq, S2⟩
  | seq x y ihx ihy =>
    intro Q c s a w hn hp h0 hc h S
    simp only [codeOk, Bool.and_eq_true] at hc
    refine wp_seq (wp_mono (ihx hn hp h0 hc.1 h S) ?_)
    rintro e a' w' ⟨c', s', hE, hq, S'⟩
    cases e with
    | normal =>
      refine wp_mono (ihy (hE.n.trans hn) (hE.pins hp) (h0.trans hE) hc.2 hq S') ?_
      rintro e a2 w2 ⟨c2, s2, hE2, hq2, S2⟩
      exact ⟨c2, s2, hE.trans hE2, hq2, S2⟩
    | exit id => exact ⟨c', s', hE, hq, S'⟩
    | goto l => exact ⟨c', s', hE, hq, S'⟩
    | ret => exact ⟨c', s', hE, hq, S'⟩
    | panic ch => exact ⟨c', s', hE, hq, S'⟩
    | outgrown => exact ⟨c', s', hE, hq, S'⟩
  | cond o x y ihx ihy =>
    intro Q c s a w hn hp h0 hc h S
    simp only [codeOk, Bool.and_eq_true] at hc
    unfold vcZ at h
    split at h
    · rename_i b hb
      obtain ⟨h1, h2, h3⟩ := h
      have S' := S
      obtain ⟨β, fp, S0⟩ := S'
      have hv := S0.val h1
      rw [hb] at hv
      have e : a.eval o = .bool b := by
        generalize a.eval o = v at hv
        cases hv with
        | bool _ => rfl
      exact wp_cond_split e (fun hb => ihx hn hp h0 hc.1 (h2 hb) S) (fun hb => ihy hn hp h0 hc.2 (h3 hb) S)
    · exact h.elim
  | _ => intro Q c s a w hn hp h0 hc h S; exact base _ hn hp h0 hc h S

/-- At a law's end: true. -/
def finZ (T : Nat → Option TI) (fn : Func) : Exit → St → Prop
  | .normal, s | .ret, s => resAV T fn s = some (true, .bool true)
  | _, _ => False

theorem law_callsZ {P : Program} (hm : P.follows .mixedOrders = true) {f : Nat} {fn : Func} {code : Code} {T : Nat → Option TI} (hT : ∀ t ti, T t = some ti → TOk P t ti) {l : List (Nat × Con)} (hcs : HasL P l) {n : Nat} (keep fz mvs : List Nat)
    (hf : P.funcs[f]? = some fn) (hb : fn.body = some code) (hn : fn.ntmps = n) {k : Con} {x : k.A} (hkn : k.n = n) (hbx : k.boxes x = []) (how : k.owns x = [])
    (hc : codeOk (fun ops => chk (cGet l) (clOf mvs ops) ops) code = true) (h : vcZ (mkWk3 T (cGet l) n keep (fun _ _ => ⟨Unit, fun _ => ⟨[], []⟩, fun _ => True, fun _ => 0⟩) [] mvs) fz code (finZ T fn) (k.start2 x))
    {W : World} {vs : List Value} {fp : List (Nat × Nat)} (hr : RdArgs W (k.args x) vs fp) (hlen : vs.length ≤ n) (hky : needL (fun w => ∀ b, b < W.heap.size → w.heap[b]? = W.heap[b]?) l := by repeat' (first | exact trivial | exact fun _ _ => trivial | apply And.intro)) : Calls P f vs.toArray W fun e w' => e = .returned (.bool true) ∧ Below W.heap.size W w' := by
  subst hkn
  have S := start_sat hbx how hr hlen
  refine calls_of_wp hf hb ?_
  have hsz : vs.toArray.size = vs.length := by simp
  rw [hn, hsz]
  have hwp := vcZ_ok (P := P) (k := mkWk3 T (cGet l) k.n keep (fun _ _ => ⟨Unit, fun _ => ⟨[], []⟩, fun _ => True, fun _ => 0⟩) [] mvs) (fz := fz) (c0 := ⟨fp, fun b => b < W.heap.size, W, k.n, []⟩) (fun c hcn hp hE => mkWk3_ok hm hT hcs (fun f k' hg => (show Kn (fun w => ∀ b, b < W.heap.size → w.heap[b]? = W.heap[b]?) ⟨fp, fun b => b < W.heap.size, W, k.n, []⟩ from fun w hw => hw).mono (needL_get hky hg) |>.to hE.G) hcn (by rw [hp]; simp)) code (c := ⟨fp, fun b => b < W.heap.size, W, k.n, []⟩) rfl rfl (Ext.refl _) hc h ⟨_, _, S⟩
  have fin : ∀ c' s a' w', Ext ⟨fp, fun b => b < W.heap.size, W, k.n, []⟩ c' → resAV T fn s = some (true, .bool true) → Sat c' s a' w' → a'.defers = [] ∧ ∃ v, (results fn a'.tmps).run P w' = .ok v w' ∧ (Ending.returned v = .returned (.bool true) ∧ Below W.heap.size W w') := by
    rintro c' s a' w' hE hv ⟨β, fp', S'⟩
    obtain ⟨u, h1, h2⟩ := resAV_ok (P := P) hT S' hv
    refine ⟨S'.defers, u, h1, ?_, ?_⟩
    · cases h2 with
      | bool _ => rfl
    · exact ⟨S'.os.trans hE.os, S'.tape.trans hE.tape, S'.output.trans hE.output, Nat.le_trans hE.size S'.size, fun b hb => ((S'.old b (hE.G b hb).1).2).trans (hE.G b hb).2⟩
  refine wp_mono hwp ?_
  rintro e a' w' ⟨c', s, hE, hq, S'⟩
  cases e with
  | normal => exact fin c' s a' w' hE hq S'
  | ret => exact fin c' s a' w' hE hq S'
  | _ => exact hq.elim

def kSeqZ (k : Wk) (fz : List Nat) (y : Code) (Q : Exit → St → Prop) : Exit → St → Prop := fun e s => match e with | .normal => vcZ k fz y Q s | e => Q e s
def kCondZ (v : AV) (c : Bool) (k : Wk) (fz : List Nat) (x y : Code) (Q : Exit → St → Prop) (s : St) : Prop := match v with
  | .bool b => c = true ∧ (b = true → vcZ k fz x Q s) ∧ (b = false → vcZ k fz y Q s)
  | _ => False
def kFz (b : Bool) (s : St) : St := bif b then s.freeze else s
theorem kFz_true (s : St) : kFz true s = s.freeze := rfl
theorem kFz_false (s : St) : kFz false s = s := rfl
def fzE (e : Nat → Option (Bool × AV)) : Nat → Option (Bool × AV) := fun t => (e t).map fun p => (p.1, p.2.fz)
theorem fzE_app (e : Nat → Option (Bool × AV)) (t : Nat) : fzE e t = (e t).map fun p => (p.1, p.2.fz) := rfl
theorem freeze_eq (s : St) : s.freeze = ⟨fzE s.e, fun _ => none⟩ := rfl
section
variable (k : Wk) (fz : List Nat) (Q : Exit → St → Prop) (s : St)
theorem vcZ_seq (x y : Code) : vcZ k fz (.seq x y) Q s = vcZ k fz x (kSeqZ k fz y Q) s := rfl
theorem vcZ_cond (o : Operand) (x y : Code) : vcZ k fz (.cond o x y) Q s = kCondZ (s.val o) (s.cond o) k fz x y Q s := rfl
theorem vcZ_region (id : Nat) (ops : Array Oper) (d : Bool) : vcZ k fz (.region id ops d) Q s = vc k (.region id ops d) Q (kFz (fz.contains id) s) := rfl
theorem vcZ_skip : vcZ k fz .skip Q s = Q .normal s := rfl
theorem vcZ_ret : vcZ k fz .ret Q s = Q .ret s := rfl
theorem vcZ_exit (id : Nat) : vcZ k fz (.exit id) Q s = Q (.exit id) s := rfl
theorem vcZ_block (id : Nat) (x : Code) : vcZ k fz (.block id x) Q s = vc k (.block id x) Q s := rfl
theorem vcZ_loop (x : Code) : vcZ k fz (.loop x) Q s = vc k (.loop x) Q s := rfl
theorem kSeqZ_normal (y : Code) : kSeqZ k fz y Q .normal s = vcZ k fz y Q s := rfl
theorem kSeqZ_ret (y : Code) : kSeqZ k fz y Q .ret s = Q .ret s := rfl
theorem kSeqZ_exit (y : Code) (id : Nat) : kSeqZ k fz y Q (.exit id) s = Q (.exit id) s := rfl
theorem kCondZ_bool (b c : Bool) (x y : Code) : kCondZ (.bool b) c k fz x y Q s = (c = true ∧ (b = true → vcZ k fz x Q s) ∧ (b = false → vcZ k fz y Q s)) := rfl
end

end Vx
end Go.Proofs.YtnanellmaelipaaGreatDoor
