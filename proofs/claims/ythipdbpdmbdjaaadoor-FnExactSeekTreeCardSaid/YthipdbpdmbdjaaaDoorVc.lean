/-
  Joined by program (merge.py): EngX, EngY, EngZ, EngRd. It shows what the single texts show; conditions: none but those of each lemma.
-/
import Derived.Test.YthipdbpdmbdjaaaDoorVb
import Derived.ChangeArms
import Derived.DataReads
import Derived.Carry
set_option linter.unusedVariables false
set_option linter.unusedSimpArgs false
set_option linter.unusedSectionVars false
/-
  The walk of a function by its contract: all together.
-/
namespace Go.Proofs.YthipdbpdmbdjaaaDoor
namespace Vx
open Go.RowKit

/-- The walk of a region that draws, in the order in which its operations stand. -/
def vcDL (T : Nat → Option TI) (cs : Nat → Option Con) (n : Nat) (cl : List Nat) (ops : Array Oper) : Nat → List Oper → St → (St → Prop) → Prop
  | _, [], s, K => K s
  | i, o :: r, s, K => bif cl.contains i then match aCalm T n ops s.m o s with
      | some (g, u) => u.pre ∧ (u.pre → vcDL T cs n cl ops (i + 1) r (s.next o g u.av u.puts) K)
      | none => False
    else alOps s o = true ∧ actAll2 T cs n ops o s fun s' => vcDL T cs n cl ops (i + 1) r s' K

theorem vcDL_eq {T cs n cl} {ops : Array Oper} {K : St → Prop} (l : List Oper) : ∀ {i : Nat} {s : St}, (∀ j, j < l.length → ops[i + j]? = l[j]?) → vcDL T cs n cl ops i l s K = vcD T cs n cl ops (List.range' i l.length) s K := by
  induction l with
  | nil => intro i s _; rfl
  | cons o l ih =>
    intro i s hl
    have ho : ops[i]? = some o := by simpa using hl 0 (by simp)
    have hl' : ∀ j, j < l.length → ops[i + 1 + j]? = l[j]? := by
      intro j hj
      have := hl (j + 1) (by simpa using hj)
      rw [show i + 1 + j = i + (j + 1) by omega, this]
      simp
    simp only [List.length_cons, List.range'_succ]
    show _ = aStepD T cs n cl ops i s fun s' => vcD T cs n cl ops (List.range' (i + 1) l.length) s' K
    unfold aStepD
    rw [ho]
    have e : (fun s' => vcDL T cs n cl ops (i + 1) l s' K) = fun s' => vcD T cs n cl ops (List.range' (i + 1) l.length) s' K := funext fun s' => ih hl'
    simp only [vcDL, e, ih hl']
    by_cases hc : i ∈ cl
    · have hcb : cl.contains i = true := by simpa using hc
      rw [hcb, cond_true, if_pos hc]
      cases aCalm T n ops s.m o s with
      | none => rfl
      | some p =>
        obtain ⟨g, u⟩ := p
        exact propext ⟨fun h => ⟨h.1, h.2 h.1⟩, fun h => ⟨h.1, fun _ => h.2⟩⟩
    · have hcb : cl.contains i = false := by simpa using hc
      rw [hcb, cond_false, if_neg hc]

/-- No calm one. -/
def actB (o : Oper) : Bool := match o.op with
  | .store _ _ _ => true
  | .call { callee := .value _, .. } => true
  | .call { callee := .builtin .append, .. } => true
  | _ => false

/-- The operations that are taken as calm; mvs: the slots of new slices into which own slices go. -/
def clOf (mvs : List Nat) (ops : Array Oper) : List Nat :=
  (List.range ops.size).filter fun i => match ops[i]? with
    | some o => !actB o && (match o.op, o.dst with | .buildSlice _ _ _, some t => !mvs.contains t | _, _ => true)
    | none => false

/-- A walk: T: types, cs: contracts, n: slots, keep: slots that live on, inv: the loops' invariants, pk: handles that keep their names, mvs: as above. -/
def mkWk3 (T : Nat → Option TI) (cs : Nat → Option Con) (n : Nat) (keep : List Nat) (inv : Nat → Nat → Inv) (pk mvs : List Nat) : Wk :=
  ⟨T, n, keep, inv, actAll2 T cs n, fun ops s K => vcDL T cs n (clOf mvs ops) ops 0 ops.toList s K, fun ops => chk cs (clOf mvs ops) ops, Sc.from pk⟩

theorem mkWk3_ok {P : Program} (hm : P.follows .mixedOrders = true) {T : Nat → Option TI} (hT : ∀ t ti, T t = some ti → TOk P t ti) {cs : Nat → Option Con} (hcs : ∀ f k, cs f = some k → Has P f k) {c : Cx} {n keep inv pk mvs}
    (hn : c.n = n) (hp : ∀ p ∈ c.pins, p.1 ∈ pk) : WkOk P (mkWk3 T cs n keep inv pk mvs) c :=
  ⟨hT, hn, fun h S hK => by subst hn; exact actAll2_ok hT hcs h S hK, fun {id ops s K a w Q} hok h S hQ => by
    subst hn
    refine drawn_ok hT hcs hm hok ?_ S hQ
    have e := vcDL_eq (T := T) (cs := cs) (n := c.n) (cl := clOf mvs ops) (ops := ops) (K := K) ops.toList (i := 0) (s := s) (fun j hj => by rw [Nat.zero_add, Array.getElem?_toList])
    have h' : vcDL T cs c.n (clOf mvs ops) ops 0 ops.toList s K := h
    rw [e] at h'
    rw [List.range_eq_range']
    simpa using h', fun h S => from_ok hp h S⟩

end Vx
end Go.Proofs.YthipdbpdmbdjaaaDoor
/-
  The table of types, checked; contracts by functions of their arguments; lists of contracts.
-/
namespace Go.Proofs.YthipdbpdmbdjaaaDoor
namespace Vx
open Go.RowKit

def vEq : Value → Value → Bool
  | .int k n, .int k' n' => decide (k = k') && decide (n = n')
  | .bool a, .bool b => a == b
  | .string a, .string b => a.data.toList.isEmpty && b.data.toList.isEmpty
  | .slice none 0 0, .slice none 0 0 => true
  | .pointer none, .pointer none => true
  | .nilFunc, .nilFunc => true
  | .nilIface, .nilIface => true
  | _, _ => false

theorem vEq_ok {a b : Value} (h : vEq a b = true) : a = b := by
  unfold vEq at h
  split at h
  · simp only [Bool.and_eq_true, decide_eq_true_eq] at h
    rw [h.1, h.2]
  · simp only [beq_iff_eq] at h; rw [h]
  · rename_i a b
    simp only [Bool.and_eq_true, List.isEmpty_iff] at h
    have h1 : a.data = #[] := by apply Array.ext'; exact h.1
    have h2 : b.data = #[] := by apply Array.ext'; exact h.2
    cases a; cases b; simp_all
  · rfl
  · rfl
  · rfl
  · rfl
  · cases h

def vsEq : List Value → List Value → Bool
  | [], [] => true
  | a :: as, b :: bs => vEq a b && vsEq as bs
  | _, _ => false

theorem vsEq_ok : ∀ {as bs : List Value}, vsEq as bs = true → as = bs := by
  intro as
  induction as with
  | nil => intro bs h; cases bs with | nil => rfl | cons => cases h
  | cons a as ih =>
    intro bs h
    cases bs with
    | nil => cases h
    | cons b bs =>
      simp only [vsEq, Bool.and_eq_true] at h
      rw [vEq_ok h.1, ih h.2]

def descChk (P : Program) (t : Nat) (ti : TI) : Bool :=
  bif ti.agg then match P.underlying t with
    | some (.struct fs) => decide (fs.toList.map (fun f => (f.type, f.offset)) = ti.fields)
    | _ => false
  else match ti.cells, P.underlying t with
    | [.int k], some (.int k') => decide (k = k')
    | [.bool], some .bool => true
    | [.str], some .string => true
    | [.sl e _], some (.slice e') => decide (e = ti.elem) && decide (e' = e)
    | [.oth _], some (.pointer _) => true
    | [.oth _], some (.func _ _ _) => true
    | [.oth _], some (.interface _) => true
    | _, _ => false

def tiChk (P : Program) (t : Nat) (ti : TI) : Bool :=
  match P.info? t with
  | none => false
  | some i => (match i.zero with
    | none => false
    | some z => vsEq z.cells.toList (ti.cells.map TK.zero)) && decide (i.size = ti.cells.length) && decide (i.bytes = ti.bytes) && ti.cells.all TK.plain && decide (0 < ti.cells.length) && descChk P t ti

theorem tiChk_ok {P : Program} {t : Nat} {ti : TI} (h : tiChk P t ti = true) : TOk P t ti := by
  unfold tiChk at h
  cases hi : P.info? t with
  | none => rw [hi] at h; cases h
  | some i =>
    rw [hi] at h
    simp only [Bool.and_eq_true, decide_eq_true_eq] at h
    obtain ⟨⟨⟨⟨⟨h1, h2⟩, h3⟩, h4⟩, h5⟩, h6⟩ := h
    cases hz : i.zero with
    | none => rw [hz] at h1; cases h1
    | some z =>
      rw [hz] at h1
      refine ⟨⟨i, z, hi, h2, h3, hz, vsEq_ok h1⟩, fun c hc => List.all_eq_true.1 h4 c hc, h5, ?_⟩
      unfold descChk at h6
      cases hg : ti.agg with
      | true =>
        rw [hg] at h6
        simp only [cond_true] at h6
        simp only [if_true]
        split at h6
        · rename_i fs hu
          exact ⟨fs, hu, of_decide_eq_true h6⟩
        · cases h6
      | false =>
        rw [hg] at h6
        simp only [cond_false] at h6
        simp only [Bool.false_eq_true, if_false]
        split at h6
        · rename_i k k' hc hu
          have := of_decide_eq_true h6
          subst this
          exact ⟨_, hc, hu⟩
        · rename_i hc hu; exact ⟨_, hc, hu⟩
        · rename_i hc hu; exact ⟨_, hc, hu⟩
        · rename_i e k e' hc hu
          simp only [Bool.and_eq_true, decide_eq_true_eq] at h6
          obtain ⟨q1, q2⟩ := h6
          exact ⟨_, hc, q1, by rw [hu, q2]⟩
        · rename_i hc hu; exact ⟨_, hc, _, hu, rfl⟩
        · rename_i hc hu; exact ⟨_, hc, _, hu, rfl⟩
        · rename_i hc hu; exact ⟨_, hc, _, hu, rfl⟩
        · cases h6

def tabChk (P : Program) : List (Nat × TI) → Bool
  | [] => true
  | (t, ti) :: l => tiChk P t ti && tabChk P l

theorem tabChk_ok {P : Program} : ∀ {l : List (Nat × TI)}, tabChk P l = true → ∀ t ti, get? l t = some ti → TOk P t ti := by
  intro l
  induction l with
  | nil => intro _ t ti h; cases h
  | cons p l ih =>
    intro h t ti hg
    obtain ⟨t', ti'⟩ := p
    simp only [tabChk, Bool.and_eq_true] at h
    simp only [get?] at hg
    split at hg
    · rename_i ht; subst ht; cases hg; exact tiChk_ok h.1
    · exact ih h.2 t ti hg

def cGet : List (Nat × Con) → Nat → Option Con
  | [], _ => none
  | (g, k) :: r, f => if g = f then some k else cGet r f

/-- The contracts of a list hold. -/
def HasL (P : Program) (l : List (Nat × Con)) : Prop := ∀ f k, cGet l f = some k → Has P f k

theorem HasL.nil {P : Program} : HasL P [] := fun _ _ h => by cases h

theorem HasL.cons {P : Program} {f : Nat} {k : Con} {l : List (Nat × Con)} (h : Has P f k) (hl : HasL P l) : HasL P ((f, k) :: l) := by
  intro g k' hg
  simp only [cGet] at hg
  split at hg
  · rename_i e; subst e; cases hg; exact h
  · exact hl g k' hg

/-- A contract whose result is a function of the arguments. -/
abbrev Con.fn (n : Nat) (A : Type) (args : A → List AV) (pre : A → Prop) (res : A → AV) (fin : A → List (Nat × Blk)) : Con :=
  { A := A, X := Unit, n := n, args := args, boxes := fun _ => [], pre := pre, post := fun _ _ => True, res := fun a _ => res a, fin := fun a _ => fin a }

/-- A contract out of the walk. -/
theorem has_walk {P : Program} (hm : P.follows .mixedOrders = true) {f : Nat} {fn : Func} {code : Code} {k : Con} {T : Nat → Option TI} (hT : ∀ t ti, T t = some ti → TOk P t ti) {l : List (Nat × Con)} (hcs : HasL P l) (keep : List Nat) (inv : k.A → Nat → Nat → Inv) (mvs : List Nat)
    (hf : P.funcs[f]? = some fn) (hname : (fn.name == "runtime.NumGoroutine") = false) (hb : fn.body = some code) (hn : fn.ntmps = k.n) (hpos : 0 < k.n) (tot : ∀ a, ∃ x, k.post a x) (nob : k.nob = true → ∀ a, k.boxes a = [])
    (hc : codeOk (fun ops => chk (cGet l) (clOf mvs ops) ops) code = true) (h : ∀ a, k.pre a → vc (mkWk3 T (cGet l) k.n keep (inv a) (k.pk a) mvs) code (bodyQ T fn k a) (k.start2 a)) : Has P f k :=
  has_of_vc (wk := fun a => mkWk3 T (cGet l) k.n keep (inv a) (k.pk a) mvs) hf hname hb hn hpos tot nob (fun a c hcn hp => mkWk3_ok hm hT hcs hcn hp) (fun _ => hc) h

end Vx
end Go.Proofs.YthipdbpdmbdjaaaDoor
/-
  The walk, step by step, with what comes after behind a name (so that nothing is reckoned before its turn).
-/
namespace Go.Proofs.YthipdbpdmbdjaaaDoor
namespace Vx
open Go.RowKit

def kOps (k : Wk) (ops : Array Oper) (r : List Oper) (K : St → Prop) : St → Prop := fun s' => vcOps k ops r s' K
def kNorm (Q : Exit → St → Prop) : St → Prop := fun s => Q .normal s
def kSeq (k : Wk) (y : Code) (Q : Exit → St → Prop) : Exit → St → Prop := fun e s => match e with | .normal => vc k y Q s | e => Q e s
def kBlock (id : Nat) (Q : Exit → St → Prop) : Exit → St → Prop := fun e s => match e with | .exit id' => if id' = id then Q .normal s else Q (.exit id') s | e => Q e s
def kCond (v : AV) (c : Bool) (k : Wk) (x y : Code) (Q : Exit → St → Prop) (s : St) : Prop := match v with
  | .bool b => c = true ∧ (b = true → vc k x Q s) ∧ (b = false → vc k y Q s)
  | _ => False
def kStep (r : Option (Bool × Out)) (k : Wk) (ops : Array Oper) (o : Oper) (s : St) (K : St → Prop) : Prop := match r with
  | some (g, u) => u.pre ∧ (u.pre → u.fact → K (s.next o g u.av u.puts))
  | none => k.act ops o s K
def kLoop (le : St → Sc → Prop) (i : Inv) (t : i.X) (Q : Exit → St → Prop) : Exit → St → Prop := fun e s => match e with | .normal => ∃ t', le s (i.σ t') ∧ i.φ t' ∧ i.μ t' < i.μ t | e => Q e s
def kBody (fn : Func) (T : Nat → Option TI) (k : Con) (a : k.A) : Exit → St → Prop := bodyQ T fn k a

theorem vcOps_nil (k : Wk) (ops : Array Oper) (s : St) (K : St → Prop) : vcOps k ops [] s K = K s := rfl
theorem vcOps_cons (k : Wk) (ops : Array Oper) (o : Oper) (r : List Oper) (s : St) (K : St → Prop) : vcOps k ops (o :: r) s K = kStep (aCalm k.T k.n ops s.m o s) k ops o s (kOps k ops r K) := rfl
theorem kOps_app (k : Wk) (ops : Array Oper) (r : List Oper) (K : St → Prop) (s : St) : kOps k ops r K s = vcOps k ops r s K := rfl
theorem kStep_some (g : Bool) (u : Out) (k : Wk) (ops : Array Oper) (o : Oper) (s : St) (K : St → Prop) : kStep (some (g, u)) k ops o s K = (u.pre ∧ (u.pre → u.fact → K (s.next o g u.av u.puts))) := rfl
theorem kStep_none (k : Wk) (ops : Array Oper) (o : Oper) (s : St) (K : St → Prop) : kStep none k ops o s K = k.act ops o s K := rfl
theorem kNorm_app (Q : Exit → St → Prop) (s : St) : kNorm Q s = Q .normal s := rfl
theorem kSeq_normal (k : Wk) (y : Code) (Q : Exit → St → Prop) (s : St) : kSeq k y Q .normal s = vc k y Q s := rfl
theorem kSeq_ret (k : Wk) (y : Code) (Q : Exit → St → Prop) (s : St) : kSeq k y Q .ret s = Q .ret s := rfl
theorem kSeq_exit (k : Wk) (y : Code) (Q : Exit → St → Prop) (i : Nat) (s : St) : kSeq k y Q (.exit i) s = Q (.exit i) s := rfl
theorem kBlock_normal (id : Nat) (Q : Exit → St → Prop) (s : St) : kBlock id Q .normal s = Q .normal s := rfl
theorem kBlock_ret (id : Nat) (Q : Exit → St → Prop) (s : St) : kBlock id Q .ret s = Q .ret s := rfl
theorem kBlock_exit (id : Nat) (Q : Exit → St → Prop) (i : Nat) (s : St) : kBlock id Q (.exit i) s = if i = id then Q .normal s else Q (.exit i) s := rfl
theorem kLoop_normal (le : St → Sc → Prop) (i : Inv) (t : i.X) (Q : Exit → St → Prop) (s : St) : kLoop le i t Q .normal s = ∃ t', le s (i.σ t') ∧ i.φ t' ∧ i.μ t' < i.μ t := rfl
theorem kLoop_ret (le : St → Sc → Prop) (i : Inv) (t : i.X) (Q : Exit → St → Prop) (s : St) : kLoop le i t Q .ret s = Q .ret s := rfl
theorem kLoop_exit (le : St → Sc → Prop) (i : Inv) (t : i.X) (Q : Exit → St → Prop) (j : Nat) (s : St) : kLoop le i t Q (.exit j) s = Q (.exit j) s := rfl
theorem kCond_bool (b c : Bool) (k : Wk) (x y : Code) (Q : Exit → St → Prop) (s : St) : kCond (.bool b) c k x y Q s = (c = true ∧ (b = true → vc k x Q s) ∧ (b = false → vc k y Q s)) := rfl
theorem vc_skip (k : Wk) (Q : Exit → St → Prop) (s : St) : vc k .skip Q s = Q .normal s := rfl
theorem vc_seq (k : Wk) (x y : Code) (Q : Exit → St → Prop) (s : St) : vc k (.seq x y) Q s = vc k x (kSeq k y Q) s := rfl
theorem vc_cond (k : Wk) (o : Operand) (x y : Code) (Q : Exit → St → Prop) (s : St) : vc k (.cond o x y) Q s = kCond (s.val o) (s.cond o) k x y Q s := rfl
theorem vc_block (k : Wk) (id : Nat) (x : Code) (Q : Exit → St → Prop) (s : St) : vc k (.block id x) Q s = vc k x (kBlock id Q) s := rfl
theorem vc_exit (k : Wk) (id : Nat) (Q : Exit → St → Prop) (s : St) : vc k (.exit id) Q s = Q (.exit id) s := rfl
theorem vc_ret (k : Wk) (Q : Exit → St → Prop) (s : St) : vc k .ret Q s = Q .ret s := rfl
theorem vc_region (k : Wk) (id : Nat) (ops : Array Oper) (Q : Exit → St → Prop) (s : St) : vc k (.region id ops false) Q s = vcOps k ops ops.toList (s.trim k.keep) (kNorm Q) := rfl
theorem vc_regionD (k : Wk) (id : Nat) (ops : Array Oper) (Q : Exit → St → Prop) (s : St) : vc k (.region id ops true) Q s = k.dr ops (s.trim k.keep) (kNorm Q) := rfl
theorem vc_loop (k : Wk) (x : Code) (Q : Exit → St → Prop) (s : St) : vc k (.loop x) Q s = (∃ g : Nat, (∃ t, k.le s ((k.inv (firstId x) g).σ t) ∧ (k.inv (firstId x) g).φ t) ∧
    ∀ t, (k.inv (firstId x) g).φ t → vc k x (kLoop k.le (k.inv (firstId x) g) t Q) ((k.inv (firstId x) g).σ t).st) := rfl

def kOpsD (T : Nat → Option TI) (cs : Nat → Option Con) (n : Nat) (cl : List Nat) (ops : Array Oper) (i : Nat) (r : List Oper) (K : St → Prop) : St → Prop := fun s' => vcDL T cs n cl ops i r s' K
def kStepC (r : Option (Bool × Out)) (o : Oper) (s : St) (K : St → Prop) : Prop := match r with
  | some (g, u) => u.pre ∧ (u.pre → K (s.next o g u.av u.puts))
  | none => False
def kStepD (c : Bool) (T : Nat → Option TI) (cs : Nat → Option Con) (n : Nat) (ops : Array Oper) (o : Oper) (s : St) (K : St → Prop) : Prop :=
  bif c then kStepC (aCalm T n ops s.m o s) o s K else alOps s o = true ∧ actAll2 T cs n ops o s K
theorem vcDL_nil (T : Nat → Option TI) (cs : Nat → Option Con) (n : Nat) (cl : List Nat) (ops : Array Oper) (i : Nat) (s : St) (K : St → Prop) : vcDL T cs n cl ops i [] s K = K s := rfl
theorem vcDL_cons (T : Nat → Option TI) (cs : Nat → Option Con) (n : Nat) (cl : List Nat) (ops : Array Oper) (i : Nat) (o : Oper) (r : List Oper) (s : St) (K : St → Prop) :
    vcDL T cs n cl ops i (o :: r) s K = kStepD (cl.contains i) T cs n ops o s (kOpsD T cs n cl ops (i + 1) r K) := rfl
theorem kOpsD_app (T : Nat → Option TI) (cs : Nat → Option Con) (n : Nat) (cl : List Nat) (ops : Array Oper) (i : Nat) (r : List Oper) (K : St → Prop) (s : St) : kOpsD T cs n cl ops i r K s = vcDL T cs n cl ops i r s K := rfl
theorem kStepD_true (T : Nat → Option TI) (cs : Nat → Option Con) (n : Nat) (ops : Array Oper) (o : Oper) (s : St) (K : St → Prop) : kStepD true T cs n ops o s K = kStepC (aCalm T n ops s.m o s) o s K := rfl
theorem kStepD_false (T : Nat → Option TI) (cs : Nat → Option Con) (n : Nat) (ops : Array Oper) (o : Oper) (s : St) (K : St → Prop) : kStepD false T cs n ops o s K = (alOps s o = true ∧ actAll2 T cs n ops o s K) := rfl
theorem kStepC_some (g : Bool) (u : Out) (o : Oper) (s : St) (K : St → Prop) : kStepC (some (g, u)) o s K = (u.pre ∧ (u.pre → K (s.next o g u.av u.puts))) := rfl
theorem kStepC_none (o : Oper) (s : St) (K : St → Prop) : kStepC none o s K = False := rfl

/-- The acts. -/
def kSet (o : Oper) (s : St) (K : St → Prop) (av : AV) (m : Nat → Option Blk) : Prop := K (s.set o true av m)
def kSet2 (o : Oper) (K : St → Prop) (av : AV) (s' : St) : Prop := K (s'.set o true av s'.m)
def kSetG (o : Oper) (g : Bool) (s : St) (K : St → Prop) (av : AV) (m : Nat → Option Blk) : Prop := K ⟨match o.dst with | some t => upd s.e t (some (g, av)) | none => s.e, m⟩
def kStore (v : AV) (T : Nat → Option TI) (t : Nat) (s : St) (x : AV) (K : St → Prop) : Prop := match v with
  | .ptr h off => putBox T t s h off x K
  | .eptr h i off _ => putOwn T t s h i off x K
  | _ => False
def kCallW (w : Option Bool) (k : Con) (n : Nat) (o : Oper) (us : List AV) (c : Bool) (s : St) (K : St → Prop) : Prop := match w with
  | some g => dstOk n o = true ∧ aCallK k o.guard.isSome g (Oper.hnd o) us c s (kSetG o g s K)
  | none => False
def kCallC (c : Option Con) (n : Nat) (ops : Array Oper) (o : Oper) (us : List AV) (cd : Bool) (s : St) (K : St → Prop) : Prop := match c with
  | none => False
  | some k => if k.mv then o.guard = none ∧ dstOk n o = true ∧ aCall3K k (Oper.hnd o) us cd s (kSet2 o K)
    else kCallW (wantC ops o s) k n o us cd s K
def kCall (f : Option (Nat × List AV)) (cs : Nat → Option Con) (n : Nat) (ops : Array Oper) (o : Oper) (us : List AV) (cd : Bool) (s : St) (K : St → Prop) : Prop := match f with
  | none => False
  | some (f, caps) => kCallC (cs f) n ops o (us ++ caps) cd s K

theorem kSet_app (o : Oper) (s : St) (K : St → Prop) (av : AV) (m : Nat → Option Blk) : kSet o s K av m = K (s.set o true av m) := rfl
theorem kSet2_app (o : Oper) (K : St → Prop) (av : AV) (s' : St) : kSet2 o K av s' = K (s'.set o true av s'.m) := rfl
theorem kSetG_app (d : Nat) (op : Op) (ty : Nat) (pos : String) (af : Array Edge) (gd : Option (Nat × Bool)) (g : Bool) (s : St) (K : St → Prop) (av : AV) (m : Nat → Option Blk) :
    kSetG ⟨some d, op, ty, pos, af, gd⟩ g s K av m = K ⟨upd s.e d (some (g, av)), m⟩ := rfl
theorem kSetG_app0 (op : Op) (ty : Nat) (pos : String) (af : Array Edge) (gd : Option (Nat × Bool)) (g : Bool) (s : St) (K : St → Prop) (av : AV) (m : Nat → Option Blk) :
    kSetG ⟨none, op, ty, pos, af, gd⟩ g s K av m = K ⟨s.e, m⟩ := rfl
theorem kStore_ptr (h off : Nat) (T : Nat → Option TI) (t : Nat) (s : St) (x : AV) (K : St → Prop) : kStore (.ptr h off) T t s x K = putBox T t s h off x K := rfl
theorem kStore_eptr (h i off : Nat) (ds : List D) (T : Nat → Option TI) (t : Nat) (s : St) (x : AV) (K : St → Prop) : kStore (.eptr h i off ds) T t s x K = putOwn T t s h i off x K := rfl
theorem kCallW_some (g : Bool) (k : Con) (n : Nat) (o : Oper) (us : List AV) (c : Bool) (s : St) (K : St → Prop) : kCallW (some g) k n o us c s K = (dstOk n o = true ∧ aCallK k o.guard.isSome g (Oper.hnd o) us c s (kSetG o g s K)) := rfl
theorem kCallC_some (k : Con) (n : Nat) (ops : Array Oper) (o : Oper) (us : List AV) (cd : Bool) (s : St) (K : St → Prop) : kCallC (some k) n ops o us cd s K =
    if k.mv then o.guard = none ∧ dstOk n o = true ∧ aCall3K k (Oper.hnd o) us cd s (kSet2 o K) else kCallW (wantC ops o s) k n o us cd s K := rfl
theorem kCall_some (f : Nat) (caps : List AV) (cs : Nat → Option Con) (n : Nat) (ops : Array Oper) (o : Oper) (us : List AV) (cd : Bool) (s : St) (K : St → Prop) : kCall (some (f, caps)) cs n ops o us cd s K = kCallC (cs f) n ops o (us ++ caps) cd s K := rfl

section
variable (T : Nat → Option TI) (cs : Nat → Option Con) (n : Nat) (ops : Array Oper) (d : Option Nat) (ty : Nat) (pos : String) (af : Array Edge) (gd : Option (Nat × Bool)) (s : St) (K : St → Prop)
theorem act_store (t : Nat) (p x : Operand) : actAll2 T cs n ops ⟨d, .store t p x, ty, pos, af, gd⟩ s K = (gd = none ∧ d = none ∧ s.cond p = true ∧ s.cond x = true ∧ kStore (s.val p) T t s (s.val x) K) := rfl
theorem act_bs (t len : Nat) (parts : Array (Nat × Operand)) : actAll2 T cs n ops ⟨d, .buildSlice t len parts, ty, pos, af, gd⟩ s K =
    (gd = none ∧ dstOk n ⟨d, .buildSlice t len parts, ty, pos, af, gd⟩ = true ∧ bsMove T t len parts.toList (Oper.hnd ⟨d, .buildSlice t len parts, ty, pos, af, gd⟩) s (kSet ⟨d, .buildSlice t len parts, ty, pos, af, gd⟩ s K)) := rfl
theorem act_append (x y : Operand) (t t2 : Nat) : actAll2 T cs n ops ⟨d, .call ⟨.builtin .append, #[x, y], #[t, t2]⟩, ty, pos, af, gd⟩ s K =
    (gd = none ∧ dstOk n ⟨d, .call ⟨.builtin .append, #[x, y], #[t, t2]⟩, ty, pos, af, gd⟩ = true ∧ s.cond x = true ∧ s.cond y = true ∧
      apnd T t t2 (Oper.hnd ⟨d, .call ⟨.builtin .append, #[x, y], #[t, t2]⟩, ty, pos, af, gd⟩) s (s.val x) (s.val y) (kSet ⟨d, .call ⟨.builtin .append, #[x, y], #[t, t2]⟩, ty, pos, af, gd⟩ s K)) := rfl
theorem act_call (fv : Operand) (args : Array Operand) (ats : Array Nat) : actAll2 T cs n ops ⟨d, .call ⟨.value fv, args, ats⟩, ty, pos, af, gd⟩ s K =
    kCall (s.fn fv) cs n ops ⟨d, .call ⟨.value fv, args, ats⟩, ty, pos, af, gd⟩ (args.toList.map s.val) (args.toList.all s.cond && s.cond fv) s K := by
  unfold actAll2 kCall
  simp only []
  cases hf : s.fn fv with
  | none => rfl
  | some p =>
    obtain ⟨f, caps⟩ := p
    simp only [kCallC]
    cases hk : cs f with
    | none => rfl
    | some k =>
      simp only []
      by_cases hm : k.mv = true
      · rw [if_pos hm, if_pos hm]; rfl
      · rw [if_neg hm, if_neg hm]
        unfold aCall
        simp only [hf, hk, kCallW]
        cases wantC ops ⟨d, .call ⟨.value fv, args, ats⟩, ty, pos, af, gd⟩ s <;> rfl
end

section
variable (T : Nat → Option TI) (cs : Nat → Option Con) (n : Nat) (keep : List Nat) (inv : Nat → Nat → Inv) (pk mvs : List Nat)
theorem wk_T : (mkWk3 T cs n keep inv pk mvs).T = T := rfl
theorem wk_n : (mkWk3 T cs n keep inv pk mvs).n = n := rfl
theorem wk_keep : (mkWk3 T cs n keep inv pk mvs).keep = keep := rfl
theorem wk_inv : (mkWk3 T cs n keep inv pk mvs).inv = inv := rfl
theorem wk_act : (mkWk3 T cs n keep inv pk mvs).act = actAll2 T cs n := rfl
theorem wk_dr (ops : Array Oper) (s : St) (K : St → Prop) : (mkWk3 T cs n keep inv pk mvs).dr ops s K = vcDL T cs n (clOf mvs ops) ops 0 ops.toList s K := rfl
theorem wk_le : (mkWk3 T cs n keep inv pk mvs).le = Sc.from pk := rfl
end

def kMv (o : Oper) (g : Bool) (puts : List (Nat × Blk)) (s : St) (K : St → Prop) (b : Bool) : Prop := K (s.next o g (.bool b) puts)
theorem kMv_app (o : Oper) (g : Bool) (puts : List (Nat × Blk)) (s : St) (K : St → Prop) (b : Bool) : kMv o g puts s K b = K (s.next o g (.bool b) puts) := rfl
@[simp 3000] theorem kStepC_move (g b : Bool) (P F : Prop) (puts : List (Nat × Blk)) (d : Nat) (x : Operand) (ty : Nat) (pos : String) (af : Array Edge) (gd : Option (Nat × Bool)) (s : St) (K : St → Prop) :
    kStepC (some (g, ⟨P, F, .bool b, puts⟩)) ⟨some d, .move x, ty, pos, af, gd⟩ s K = (P ∧ (P → (b = true → kMv ⟨some d, .move x, ty, pos, af, gd⟩ g puts s K true) ∧ (b = false → kMv ⟨some d, .move x, ty, pos, af, gd⟩ g puts s K false))) := by
  cases b <;> simp [kStepC_some, kMv]
@[simp 3000] theorem kStep_move (g b : Bool) (P F : Prop) (puts : List (Nat × Blk)) (d : Nat) (x : Operand) (k : Wk) (ops : Array Oper) (ty : Nat) (pos : String) (af : Array Edge) (gd : Option (Nat × Bool)) (s : St) (K : St → Prop) :
    kStep (some (g, ⟨P, F, .bool b, puts⟩)) k ops ⟨some d, .move x, ty, pos, af, gd⟩ s K = (P ∧ (P → F → (b = true → kMv ⟨some d, .move x, ty, pos, af, gd⟩ g puts s K true) ∧ (b = false → kMv ⟨some d, .move x, ty, pos, af, gd⟩ g puts s K false))) := by
  cases b <;> simp [kStep_some, kMv]

end Vx
end Go.Proofs.YthipdbpdmbdjaaaDoor
/-
  From the row's reading of the arguments to what the walks read; a law's call out of its contract.
-/
namespace Go.Proofs.YthipdbpdmbdjaaaDoor
namespace Vx
open Go.RowKit

/-- Data of cells of these kinds. -/
inductive Shp (T : Nat → Option TI) : List TK → List D → Prop
  | nil : Shp T [] []
  | int {k n ks ds} : (Lit.int k n).wf = true → Shp T ks ds → Shp T (.int k :: ks) (.int k n :: ds)
  | bool {b ks ds} : Shp T ks ds → Shp T (.bool :: ks) (.bool b :: ds)
  | str {s ks ds} : s.length ≤ maxLen → Shp T ks ds → Shp T (.str :: ks) (.str s :: ds)
  | sl {e k te rows ks ds} : T e = some te → (∀ r, r ∈ rows → Shp T te.cells r) → Shp T ks ds → Shp T (.sl e k :: ks) (.sl e k rows :: ds)

theorem Shp.append {T ks ds ks' ds'} (h : Shp T ks ds) (h' : Shp T ks' ds') : Shp T (ks ++ ks') (ds ++ ds') := by
  induction h with
  | nil => exact h'
  | int q _ ih => exact .int q ih
  | bool _ ih => exact .bool ih
  | str q _ ih => exact .str q ih
  | sl q1 q2 _ _ ih => exact .sl q1 q2 ih
theorem Shp.length {T ks ds} (h : Shp T ks ds) : ds.length = ks.length := by
  induction h <;> simp_all

def tkEq : TK → TK → Bool
  | .int k, .int k' => decide (k = k')
  | .bool, .bool => true
  | .str, .str => true
  | .sl e k, .sl e' k' => decide (e = e') && decide (k = k')
  | _, _ => false
theorem tkEq_ok {a b : TK} (h : tkEq a b = true) : a = b := by
  cases a <;> cases b <;> simp [tkEq] at h <;> simp [h]
def tksEq : List TK → List TK → Bool
  | [], [] => true
  | a :: as, b :: bs => tkEq a b && tksEq as bs
  | _, _ => false
theorem tksEq_ok : ∀ {xs ys : List TK}, tksEq xs ys = true → xs = ys
  | [], [], _ => rfl
  | [], _ :: _, h => by cases h
  | _ :: _, [], h => by cases h
  | a :: xs, b :: ys, h => by
    simp only [tksEq, Bool.and_eq_true] at h
    rw [tkEq_ok h.1, tksEq_ok h.2]

def tileOk (tab : List (Nat × TI)) : List (Nat × Nat) → Nat → List TK → Bool
  | [], _, cs => cs.isEmpty
  | (t, o) :: r, off, cs => decide (o = off) && (match get? tab t with
    | some ti => tksEq (cs.take ti.cells.length) ti.cells && tileOk tab r (off + ti.cells.length) (cs.drop ti.cells.length)
    | none => false)

def tabOk1 (tab : List (Nat × TI)) (ti : TI) : Bool :=
  bif ti.agg then tileOk tab ti.fields 0 ti.cells else match ti.cells with
    | [.int _] => true
    | [.bool] => true
    | [.str] => true
    | [.sl e k] => match get? tab e with
      | some te => decide (te.cells.length = k)
      | none => false
    | _ => false
/-- The table is closed. -/
def tabOk (tab : List (Nat × TI)) : Bool := tab.all fun p => tabOk1 tab p.2

theorem tabOk_get {tab : List (Nat × TI)} (h : tabOk tab = true) {t ti} (hg : get? tab t = some ti) : tabOk1 tab ti = true := by
  unfold tabOk at h
  rw [List.all_eq_true] at h
  suffices H : ∀ l : List (Nat × TI), (∀ x ∈ l, tabOk1 tab x.2 = true) → get? l t = some ti → tabOk1 tab ti = true from H tab h hg
  intro l
  induction l with
  | nil => intro _ h; cases h
  | cons p l ih =>
    intro hl hg
    obtain ⟨k, v⟩ := p
    simp only [get?] at hg
    split at hg
    · cases hg; exact hl (k, ti) (by simp)
    · exact ih (fun x hx => hl x (by simp [hx])) hg

theorem addr_add_add (a : Addr) (x y : Nat) : (a.add x).add y = a.add (x + y) := by
  unfold Addr.add
  by_cases hx : x = 0
  · subst hx; simp
  · by_cases hy : y = 0
    · subst hy; simp
    · simp [hx, hy, Nat.add_assoc]

theorem cellsOf_ok {P : Program} {t : Nat} {ti : TI} (h : TOk P t ti) : P.cellsOf t = ti.cells.length := by
  obtain ⟨i, z, h1, h2, _⟩ := h.info
  simp [Program.cellsOf, h1, h2]

section
variable {P : Program} {tab : List (Nat × TI)} (hT : ∀ t ti, get? tab t = some ti → TOk P t ti) (hok : tabOk tab = true) {H : Type} {enc : TypeId × Value → H} {w : World} {sp : Nat → Bool} {held : Bool}
include hT hok

theorem rd_trod : ∀ (fuel : Nat) {t : Nat} {ti : TI} {cs : List Value} {x : DataW H × List MemPlace}, get? tab t = some ti → DataW.trod enc P w 0 sp held fuel t cs = some x →
    ∃ ds fp, RdL false w ds cs fp ∧ Shp (get? tab) ti.cells ds := by
  intro fuel
  induction fuel with
  | zero => intro t ti cs x _ h; simp [DataW.trod] at h
  | succ fuel ih =>
    intro t ti cs x ht h
    have K := hT t ti ht
    have hc := tabOk_get hok ht
    have hd := K.desc
    unfold tabOk1 at hc
    cases hg : ti.agg with
    | false =>
      rw [hg] at hc hd
      simp only [cond_false, Bool.false_eq_true, if_false] at hc hd
      obtain ⟨c, hcs, hd⟩ := hd
      rw [hcs] at hc ⊢
      cases c with
      | int k =>
        obtain ⟨n, rfl, _, hw⟩ := DataW.trod_int hd h
        exact ⟨[.int k n], [], .int .nil, .int hw .nil⟩
      | bool =>
        obtain ⟨b, rfl, _⟩ := DataW.trod_bool hd h
        exact ⟨[.bool b], [], .bool .nil, .bool .nil⟩
      | str =>
        obtain ⟨s, rfl, _, hs⟩ := DataW.trod_string hd h
        have hl : s.data.toList.length ≤ maxLen := by simpa using hs
        refine ⟨[.str s.data.toList], [], ?_, .str hl .nil⟩
        have := RdL.str (q := false) (w := w) (s := s.data.toList) hl .nil
        simpa using this
      | oth z => simp at hc
      | sl e k =>
        obtain ⟨he, hu⟩ := hd
        simp only at hc
        cases hte : get? tab e with
        | none => rw [hte] at hc; cases hc
        | some te =>
          rw [hte] at hc
          have hk : te.cells.length = k := of_decide_eq_true hc
          have Ke := hT e te hte
          have hke := cellsOf_ok Ke
          rcases DataW.trod_slice hu h with ⟨rfl, _⟩ | ⟨a, len, cap, elems, rest, n, hn, rfl, _, _, hle, hmx, hlen, hel, _, _⟩
          · exact ⟨[.sl e k []], [], .sl0 (by unfold maxLen; omega) (by simp) .nil, .sl hte (by simp) .nil⟩
          · obtain rfl : n = fuel := by omega
            by_cases h0 : len = 0
            · subst h0
              exact ⟨[.sl e k []], [], .sl0 hmx (by simp) .nil, .sl hte (by simp) .nil⟩
            · rw [hke, hk] at hel
              have key : ∀ m, m ≤ len → ∃ (rows : List (List D)) (cvs : List Value) (f : List (Nat × Nat)), rows.length = m ∧ (∀ r ∈ rows, r.length = k ∧ Shp (get? tab) te.cells r) ∧ RdL false w rows.flatten cvs f ∧ cvs.length = m * k ∧
                  ∀ j, j < m * k → w.cell? (a.add j) = cvs[j]? := by
                intro m
                induction m with
                | zero => intro _; exact ⟨[], [], [], rfl, by simp, .nil, by simp, by simp⟩
                | succ m ihm =>
                  intro hm
                  obtain ⟨rows, cvs, f, q1, q2, q3, q4, q5⟩ := ihm (by omega)
                  have hi := hel m (by omega)
                  have hsome : elems[m]? = some (elems[m]'(by omega)) := List.getElem?_eq_getElem (by omega)
                  rw [hsome] at hi
                  simp only [Option.bind_eq_some_iff] at hi
                  obtain ⟨csi, hi1, hi2⟩ := hi
                  obtain ⟨_, hl, hcell⟩ := World.cells?_some hi1
                  obtain ⟨ds, fi, r1, r2⟩ := ih hte hi2
                  refine ⟨rows ++ [ds], cvs ++ csi, f ++ fi, by simp [q1], ?_, ?_, ?_, ?_⟩
                  · intro r hr
                    rcases List.mem_append.1 hr with hr | hr
                    · exact q2 r hr
                    · simp only [List.mem_singleton] at hr
                      subst hr
                      exact ⟨by rw [r2.length, hk], r2⟩
                  · have := q3.append r1
                    simpa using this
                  · simp [q4, hl, Nat.succ_mul]
                  · intro j hj
                    rw [Nat.succ_mul] at hj
                    by_cases hjm : j < m * k
                    · rw [q5 j hjm, List.getElem?_append_left (by omega)]
                    · have := hcell (j - m * k) (by omega)
                      rw [addr_add_add, show m * k + (j - m * k) = j by omega] at this
                      rw [this, List.getElem?_append_right (by omega), q4]
              obtain ⟨rows, cvs, f, q1, q2, q3, q4, q5⟩ := key len (Nat.le_refl _)
              have hpos : 0 < k := by rw [← hk]; exact Ke.pos
              have hlk : 0 < len * k := Nat.mul_pos (by omega) hpos
              have h00 := q5 0 hlk
              rw [List.getElem?_eq_getElem (by omega)] at h00
              have ea : a.add 0 = a := by simp [Addr.add]
              rw [ea] at h00
              unfold World.cell? at h00
              obtain ⟨b, off, spot⟩ := a
              split at h00
              · rename_i cells ty fr hb
                split at h00
                · cases h00
                · rename_i hspot
                  simp only [Bool.not_eq_true, Option.isSome_eq_false_iff, Option.isNone_iff_eq_none] at hspot
                  simp only at hspot hb
                  subst hspot
                  refine ⟨[.sl e k rows], (b, off + cvs.length) :: (f ++ []), .sl q1 (.inr (by omega)) hle hmx (fun r hr => (q2 r hr).1) hb (by simp) ?_ q3 .nil, .sl hte (fun r hr => (q2 r hr).2) .nil⟩
                  intro j u hu
                  have hj : j < cvs.length := (List.getElem?_eq_some_iff.1 hu).1
                  have := q5 j (by omega)
                  rw [hu] at this
                  by_cases hj0 : j = 0
                  · subst hj0
                    simpa [Addr.add, World.cell?, hb] using this
                  · simpa [Addr.add, World.cell?, hb, hj0] using this
              · cases h00
    | true =>
      rw [hg] at hc hd
      simp only [cond_true, if_true] at hc hd
      obtain ⟨fs, hu, hf⟩ := hd
      obtain ⟨xs, n, hn, _, hl, hxl, hfs⟩ := DataW.trod_struct hu h
      obtain rfl : n = fuel := by omega
      rw [cellsOf_ok K] at hl
      have aux : ∀ (fl : List Field) (off : Nat) (ks : List TK), tileOk tab (fl.map fun f => (f.type, f.offset)) off ks = true → (cs.drop off).length = ks.length →
          (∀ f ∈ fl, ∃ y, DataW.trod enc P w 0 sp held n f.type ((cs.drop f.offset).take (P.cellsOf f.type)) = some y) → ∃ ds fp, RdL false w ds (cs.drop off) fp ∧ Shp (get? tab) ks ds := by
        intro fl
        induction fl with
        | nil =>
          intro off ks hk hl _
          simp only [List.map_nil, tileOk, List.isEmpty_iff] at hk
          subst hk
          simp only [List.length_nil, List.length_eq_zero_iff] at hl
          rw [hl]
          exact ⟨[], [], .nil, .nil⟩
        | cons f fl ihf =>
          intro off ks hk hl hall
          simp only [List.map_cons, tileOk, Bool.and_eq_true, decide_eq_true_eq] at hk
          obtain ⟨rfl, hk⟩ := hk
          cases hft : get? tab f.type with
          | none => rw [hft] at hk; cases hk
          | some tf =>
            rw [hft] at hk
            simp only [Bool.and_eq_true] at hk
            obtain ⟨hk1, hk2⟩ := hk
            have hk1 := tksEq_ok hk1
            obtain ⟨y, hy⟩ := hall f (by simp)
            rw [cellsOf_ok (hT _ _ hft)] at hy
            obtain ⟨ds1, f1, a1, a2⟩ := ih hft hy
            have hkl : tf.cells.length ≤ ks.length := by
              rw [← hk1, List.length_take]; omega
            obtain ⟨ds2, f2, b1, b2⟩ := ihf (f.offset + tf.cells.length) (ks.drop tf.cells.length) hk2 (by simp only [List.length_drop] at hl ⊢; omega) (fun g hg => hall g (by simp [hg]))
            refine ⟨ds1 ++ ds2, f1 ++ f2, ?_, ?_⟩
            · have := a1.append b1
              rw [← List.drop_drop, List.take_append_drop] at this
              exact this
            · have := a2.append b2
              have e : tf.cells ++ ks.drop tf.cells.length = ks := by
                conv => lhs; lhs; rw [← hk1]
                exact List.take_append_drop _ _
              rwa [e] at this
      have := aux fs.toList 0 ti.cells (by rw [hf]; exact hc) (by simpa using hl) (fun f hf => by
        obtain ⟨i, hi, rfl⟩ := List.getElem_of_mem hf
        have hi' : i < fs.size := by simpa using hi
        have := hfs i fs[i] (Array.getElem?_eq_getElem hi')
        refine ⟨xs[i]'(by omega), ?_⟩
        rw [List.getElem?_eq_getElem (by omega)] at this
        simpa using this)
      simpa using this
end

/-- The arguments as the walks read them. -/
inductive RdArgs (w : World) : List AV → List Value → List (Nat × Nat) → Prop
  | nil : RdArgs w [] [] []
  | int {k n as vs f} : RdArgs w as vs f → RdArgs w (.int k n :: as) (.int k n :: vs) f
  | bool {b as vs f} : RdArgs w as vs f → RdArgs w (.bool b :: as) (.bool b :: vs) f
  | str {s as vs f} : s.length ≤ maxLen → RdArgs w as vs f → RdArgs w (.str s :: as) (.string ⟨s.toArray⟩ :: vs) f
  | sl {e k rows v as vs f f'} : RdL false w [.sl e k rows] [v] f → RdArgs w as vs f' → RdArgs w (.sl true k rows :: as) (v :: vs) (f ++ f')
  | agg {bs us as vs f f'} : RdArgs w bs us f → (∀ u ∈ us, u.oneCell' = true) → RdArgs w as vs f' → RdArgs w (.agg bs :: as) (.agg us.toArray :: vs) (f ++ f')

theorem RdArgs.lt {w as vs f} (h : RdArgs w as vs f) : ∀ x ∈ f, x.1 < w.heap.size := by
  induction h with
  | nil => intro x hx; cases hx
  | sl h1 _ ih => intro x hx; rcases List.mem_append.1 hx with hx | hx; exact h1.lt x hx; exact ih x hx
  | agg _ _ _ ih1 ih2 => intro x hx; rcases List.mem_append.1 hx with hx | hx; exact ih1 x hx; exact ih2 x hx
  | _ => assumption

theorem RdArgs.rel {w as vs f} (h : RdArgs w as vs f) {c : Cx} {β : Nat → Value} : (∀ x ∈ f, c.F x) → RelL w (fun _ => none) β c as vs := by
  have L : ∀ x, Lim (fun _ => none) β x := by
    intro x
    refine ⟨?_, ?_⟩
    · rintro ⟨h, ty, us, hm, _⟩; cases hm
    · intro h e k d R n c' hm; cases hm
  induction h with
  | nil => intro _; exact .lnil
  | int _ ih => intro k; exact .int (ih k)
  | bool _ ih => intro k; exact .bool (ih k)
  | str hs _ ih => intro k; exact .str hs (ih k)
  | sl h1 _ ih => intro k; exact .sl ⟨_, _, h1, fun x hx => ⟨L x, .inl (k x (by simp [hx]))⟩⟩ (ih fun x hx => k x (by simp [hx]))
  | agg _ h2 _ ih1 ih2 => intro k; exact .agg (ih1 fun x hx => k x (by simp [hx])) h2 (ih2 fun x hx => k x (by simp [hx]))

theorem relL_get {w m β c} : ∀ {xs : List AV} {vs : List Value} {i : Nat} {v : AV}, RelL w m β c xs vs → xs[i]? = some v → ∃ u, vs[i]? = some u ∧ RelL w m β c [v] [u] := by
  intro xs
  induction xs with
  | nil => intro vs i v _ h; simp at h
  | cons x xs ih =>
    intro vs i v hr h
    obtain ⟨u, us, rfl, h1, h2⟩ := hr.uncons
    cases i with
    | zero => simp at h; subst h; exact ⟨u, rfl, h1⟩
    | succ i => simpa using ih h2 (by simpa using h)

/-- The first state of a call from outside. -/
theorem start_sat {k : Con} {x : k.A} {W : World} {vs : List Value} {f : List (Nat × Nat)} (hb : k.boxes x = []) (ho : k.owns x = []) (h : RdArgs W (k.args x) vs f) (hn : vs.length ≤ k.n) :
    SatI ⟨f, fun b => b < W.heap.size, W, k.n, []⟩ (k.start2 x) ⟨vs.toArray ++ Array.replicate (k.n - vs.length) undef, []⟩ W (fun _ => undef) (fun _ => []) := by
  have hm : (k.start2 x).m = fun _ => none := by simp [Con.start2, hb, ho]; rfl
  have hrel := h.rel (c := ⟨f, fun b => b < W.heap.size, W, k.n, []⟩) (β := fun _ => undef) (fun z hz => ⟨z, hz, rfl, Nat.le_refl _⟩)
  refine ⟨?_, ?_, ?_, ?_, ?_, ?_, ?_, rfl, rfl, rfl, Nat.le_refl _, rfl, ?_, ?_⟩
  · intro t g av ht
    simp only [Con.start2, Option.map_eq_some_iff] at ht
    obtain ⟨v, hv, he⟩ := ht
    cases he
    obtain ⟨u, hu, hr⟩ := relL_get hrel hv
    have hlt : t < vs.length := (List.getElem?_eq_some_iff.1 hu).1
    refine ⟨by simp; omega, fun _ => ?_, by simp⟩
    have e : (vs.toArray ++ Array.replicate (k.n - vs.length) undef).getD t undef = u := by
      rw [Array.getD_eq_getD_getElem?, Array.getElem?_append_left (by simpa using hlt)]
      simp [hu]
    rw [e, hm]
    exact hr
  · intro h' blk hh; rw [hm] at hh; cases hh
  · intro h' blk hh; rw [hm] at hh; cases hh
  · intro h1 h2 b1 b2 hh; rw [hm] at hh; cases hh
  · intro h' blk hh; rw [hm] at hh; cases hh
  · rintro z ⟨y, hy, e1, _⟩
    rw [e1]; exact h.lt y hy
  · intro b hb'; exact ⟨hb', rfl⟩
  · simp; omega
  · intro p hp; cases hp

/-- A law's call. -/
theorem law_calls {P : Program} {fn : Nat} {k : Con} (HH : Has P fn k) {x : k.A} {W : World} {vs : List Value} {f : List (Nat × Nat)} (hpre : k.pre x) (hb : k.boxes x = []) (ho : k.owns x = []) (hl : k.lends = []) (h : RdArgs W (k.args x) vs f)
    (hlen : vs.length = (k.args x).length) (hn : vs.length ≤ k.n) (hres : ∀ y, k.res x y = .bool true) : Calls P fn vs.toArray W fun e w' => e = .returned (.bool true) ∧ Below W.heap.size W w' := by
  refine (HH.calls x hpre ⟨f, fun b => b < W.heap.size, W, k.n, []⟩ vs _ _ rfl (by simp [Con.pins2, hb, hl]) hlen hn (start_sat hb ho h hn)).mono ?_
  rintro e w' ⟨y, _, v, rfl, β', fp', a', S, hv⟩
  rw [hres] at hv
  cases hv with
  | bool _ => exact ⟨rfl, S.os, S.tape, S.output, S.size, fun b hb => (S.old b hb).2⟩

theorem rows_map {α : Type} {f : α → List D} {p : α → Prop} : ∀ {rows : List (List D)}, (∀ r ∈ rows, ∃ x, r = f x ∧ p x) → ∃ l : List α, rows = l.map f ∧ ∀ x ∈ l, p x := by
  intro rows
  induction rows with
  | nil => intro _; exact ⟨[], rfl, by simp⟩
  | cons r rows ih =>
    intro h
    obtain ⟨x, rfl, hx⟩ := h r (by simp)
    obtain ⟨l, rfl, hl⟩ := ih fun r hr => h r (by simp [hr])
    exact ⟨x :: l, rfl, by intro y hy; rcases List.mem_cons.1 hy with rfl | hy; exact hx; exact hl y hy⟩

end Vx
end Go.Proofs.YthipdbpdmbdjaaaDoor
