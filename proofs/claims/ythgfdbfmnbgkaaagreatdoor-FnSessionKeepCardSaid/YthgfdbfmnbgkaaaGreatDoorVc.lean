/-
  Joined by program (merge.py): EngW, EngW2, EngW3, EngW4, EngW5, EngW7, EngW8, EngW6, EngX, EngY, EngZ, EngIn, EngRd, EngFz. It shows what the single texts show; conditions: none but those of each lemma.
-/
import Derived.Test.YthgfdbfmnbgkaaaGreatDoorVb
import Derived.Orders
import Derived.KernelRfl
import Derived.ChangeArms
import Derived.DataReads
import Derived.Carry
set_option linter.unusedVariables false
set_option linter.unusedSimpArgs false
set_option linter.unusedSectionVars false
namespace Go.Proofs.YthgfdbfmnbgkaaaGreatDoor
namespace Vx
open Go.RowKit
structure Dl where
 t:Option Nat
 g:Bool
 av:AV
 put:Option (Nat × Blk)
def St.add (s:St) (δ:Dl):St :=
 ⟨match δ.t with | some t=>upd s.e t (some (δ.g,δ.av)) | none=>s.e,match δ.put with | some (d,b)=>upd s.m d (some b) | none=>s.m⟩
def Dl.free (δ:Dl) (m:Nat->Option Blk):Prop:=∀ d b,δ.put=some (d,b)->m d=none
def Dl.off (δ:Dl) (ops:Array Oper) (o:Oper):Prop:=∀ t,δ.t=some t->t ∉ o.looksAt ops/\o.dst ≠ some t
theorem sa {s:St} {δ:Dl} {h:Nat} (hne:∀ d b,δ.put=some (d,b)->h ≠ d):(s.add δ).m h=s.m h:=by
 unfold St.add;cases hp:δ.put with
 | none=>rfl
 | some p=>obtain ⟨d,b⟩:=p; exact upd_ne _ _ (hne d b hp)
theorem f6 {s:St} {δ:Dl} {h:Nat} (hf:δ.free s.m) (hs:(s.m h).isSome=true):(s.add δ).m h=s.m h:=by
 refine sa fun d b hp e=>?_;subst e;rw [hf _ b hp] at hs;cases hs
theorem yb {s:St} {δ:Dl} {t:Nat} (hne:δ.t ≠ some t):(s.add δ).e t=s.e t:=by
 unfold St.add;cases hp:δ.t with
 | none=>rfl
 | some u=>exact upd_ne _ _ (by intro e; subst e; exact hne hp)
theorem operand_looks {ops:Array Oper} {o:Oper} {t:Nat} (h:Operand.tmp t ∈ o.op.operands):t ∈ o.looksAt ops:=by
 unfold Oper.looksAt;refine List.mem_append_left _ ?_;rw [List.mem_filterMap];exact ⟨.tmp t,by simpa using h,rfl⟩
theorem cr {ops:Array Oper} {o:Oper} {s:St} {δ:Dl} (ho:δ.off ops o) {x:Operand} (hx:x ∈ o.op.operands):(s.add δ).val x=s.val x/\(s.add δ).cond x=s.cond x:=by
 cases x with
 | tmp t =>
  have:δ.t ≠ some t:=fun e=>(ho t e).1 (operand_looks hx);simp only [St.val,St.cond,yb this];exact ⟨trivial,trivial⟩
 | _=>exact ⟨rfl,rfl⟩
theorem se {ops:Array Oper} {o:Oper} {s:St} {δ:Dl} (ho:δ.off ops o):cS ops o (s.add δ)=cS ops o s:=by
 unfold cS;cases hg:o.guard with
 | none=>rfl
 | some p =>
  obtain ⟨j,want⟩:=p;simp only;cases hd:(ops[j]?).bind (·.dst) with
  | none=>rfl
  | some t =>
   have:δ.t ≠ some t:=by
    intro e;refine (ho t e).1 ?_;unfold Oper.looksAt;refine List.mem_append_right _ ?_;rw [hg];simp [hd]
   simp only [yb this]
theorem add_comm {s:St} {δ ε:Dl} (h1:∀ t,δ.t=some t -> ε.t ≠ some t) (h2:∀ d b d' b',δ.put=some (d,b) -> ε.put=some (d',b')->d ≠ d'):(s.add δ).add ε = (s.add ε).add δ:=by
 unfold St.add
 congr 1
 ·cases hδ:δ.t with
  | none=>cases ε.t <;> rfl
  | some t =>
   cases hε:ε.t with
   | none=>rfl
   | some u =>
    have:u ≠ t:=by intro e; subst e; exact h1 _ hδ hε
    funext z
    simp only [upd];by_cases hz:z=u
    ·subst hz; simp [this]
    ·simp [hz]
 ·cases hδ:δ.put with
  | none=>cases ε.put <;> rfl
  | some p =>
   cases hε:ε.put with
   | none=>rfl
   | some q =>
    obtain ⟨d,b⟩:=p;obtain ⟨d',b'⟩:=q;have:d' ≠ d:=Ne.symm (h2 _ _ _ _ hδ hε)
    funext z
    simp only [upd];by_cases hz:z=d'
    ·subst hz; simp [this]
    ·simp [hz]
def dlt (o:Oper) (g:Bool) (r:Out):Dl:=⟨o.dst,g,r.av,r.puts.head?⟩
theorem BI {s:St} {o:Oper} {g:Bool} {r:Out} (h:r.puts.length<=1):s.next o g r.av r.puts=s.add (dlt o g r):=by
 unfold St.next St.add dlt;simp only
 congr 1
 cases hr:r.puts with
 | nil=>rfl
 | cons p l =>
  cases l with
  | nil=>obtain ⟨d,b⟩:=p; rfl
  | cons q l=>rw [hr] at h; simp at h
theorem OD {s:St} {o:Oper} {g:Bool} {av:AV} {m:Nat->Option Blk} {δ:Dl} (h:∀ t,δ.t=some t->o.dst ≠ some t) :
  (s.add δ).set o g av ((⟨s.e,m⟩:St).add δ).m=(s.set o g av m).add δ:=by
 unfold St.set St.add;simp only
 congr 1
 cases hd:o.dst with
 | none=>cases δ.t <;> rfl
 | some u =>
  cases hδ:δ.t with
  | none=>rfl
  | some t =>
   have:u ≠ t:=by intro e; subst e; exact h _ hδ hd
   funext z
   simp only [upd];by_cases hz:z=u
   ·subst hz; simp [this]
   ·simp [hz]
theorem AK {hs:List Nat} {m:Nat->Option Blk} {d:Nat} {b:Option Blk} (h:d ∉ hs):bz hs (upd m d b)=upd (bz hs m) d b:=by
 induction hs with
 | nil=>rfl
 | cons x hs ih =>
  simp only [List.mem_cons,not_or] at h;simp only [bz,ih h.2]
  funext z
  simp only [upd];by_cases hz:z=x
  ·subst hz; simp [Ne.symm h.1]
  ·simp [hz]
def bF (δ:Dl) (m:Nat->Option Blk):Nat->Option Blk:=match δ.put with | some (d,b)=>upd m d (some b) | none=>m
theorem sd (s:St) (δ:Dl):(s.add δ).m=bF δ s.m:=rfl
theorem kp {δ:Dl} {m:Nat->Option Blk} {h:Nat} (hne:∀ d b,δ.put=some (d,b)->d ≠ h):bF δ m h=m h:=by
 unfold bF;cases hp:δ.put with
 | none=>rfl
 | some p=>obtain ⟨d,b⟩:=p; exact upd_ne _ _ (Ne.symm (hne d b hp))
theorem ko {δ:Dl} {m:Nat->Option Blk} {h:Nat} (hf:δ.free m) (hs:(m h).isSome=true):bF δ m h=m h:=by
 refine kp fun d b hp e=>?_;subst e;rw [hf _ b hp] at hs;cases hs
theorem rD {δ:Dl} {m:Nat->Option Blk} {hb:List Nat} {d:Nat} {blk:Blk} (hf:δ.free m) (hd:∀ d' b,δ.put=some (d',b)->d' ≠ d) (ha:∀ h ∈ hb,(m h).isSome=true) :
  rm (bF δ m) hb d blk=bF δ (rm m hb d blk):=by
 unfold bF;cases hp:δ.put with
 | none=>rfl
 | some p =>
  obtain ⟨d',b⟩:=p;have hne:=hd d' b hp;have hnin:d' ∉ hb:=fun hc=>by
   have:=ha d' hc;rw [hf d' b hp] at this;cases this
  simp only [rm,AK hnin]
  funext z
  simp only [upd];by_cases hz:z=d
  ·subst hz; simp [Ne.symm hne]
  ·simp [hz]
theorem Fs {δ:Dl} {m:Nat->Option Blk} {e k:Nat} {x:AV} (hf:δ.free m) (ax:alive m x):x.base (bF δ m) e k=x.base m e k:=by
 cases x <;> try rfl
 rename_i h k' r;simp only [AV.base,ko hf (ax h (by simp [AV.hs]))]
theorem Lm {δ:Dl} {m:Nat->Option Blk} {e k:Nat} {hb} {x:AV} (hf:δ.free m) (ax:alive m x):x.moved (bF δ m) e k hb=x.moved m e k hb:=by
 cases x <;> try rfl
 rename_i h k' r;simp only [AV.moved,ko hf (ax h (by simp [AV.hs]))]
def isOwn (m:Nat->Option Blk) (g:Nat):Prop:=∃ e k d R,m g=some (.own e k d R)
theorem isOwn.some {m:Nat->Option Blk} {g:Nat} (h:isOwn m g):(m g).isSome=true:=by obtain ⟨_,_,_,_,q⟩:=h; rw [q]; rfl
theorem yJ {m:Nat->Option Blk} {e k:Nat} {x:AV} {hb R dp} (h:x.base m e k=some (hb,R,dp)):∀ g ∈ hb,isOwn m g:=by
 cases x <;> simp only [AV.base] at h <;> try (cases h; done)
 ·cases h; simp
 ·split at h
  ·rename_i hm;split at h
   ·cases h;intro g hg;simp only [List.mem_singleton] at hg;subst hg;exact ⟨_,_,_,_,hm⟩
   ·cases h
  ·cases h
theorem Ft {m:Nat->Option Blk} {e k:Nat} {x:AV} {hb R dp} (h:x.base m e k=some (hb,R,dp)):∀ g ∈ hb,(m g).isSome=true:=fun g hg=>(yJ h g hg).some
theorem Bz {m:Nat->Option Blk} {e k:Nat} {hb} {x:AV} {h2 R} (h:x.moved m e k hb=some (h2,R)):isOwn m h2:=by
 cases x <;> simp only [AV.moved] at h <;> try (cases h; done)
 split at h
 ·rename_i hm;split at h
  ·cases h; exact ⟨_,_,_,_,hm⟩
  ·cases h
 ·cases h
theorem Ln {m:Nat->Option Blk} {e k:Nat} {hb} {x:AV} {h2 R} (h:x.moved m e k hb=some (h2,R)):(m h2).isSome=true:=(Bz h).some
theorem EP {T:Nat->Option TI} {t t2 d:Nat} {s:St} {x y:AV} {K:AV->(Nat->Option Blk)->Prop} {δ:Dl} (hf:δ.free s.m) (hd:∀ d' b,δ.put=some (d',b)->d' ≠ d) (ax:alive s.m x) (ay:alive s.m y) :
  fy T t t2 d (s.add δ) x y K ↔ fy T t t2 d s x y fun av m=>K av (bF δ m):=by
 unfold fy;rw [sd];cases T t with
 | none=>exact Iff.rfl
 | some ts =>
  simp only [];cases hte:T ts.elem with
  | none=>exact Iff.rfl
  | some te =>
   simp only [];rw [Fs hf ax,kp hd];refine and_congr Iff.rfl (and_congr Iff.rfl (and_congr Iff.rfl ?_));cases hb:x.base s.m ts.elem te.cells.length with
   | none=>exact Iff.rfl
   | some p =>
    obtain ⟨hb',R,dp⟩:=p;have hal:=Ft hb;simp only [];by_cases hfl:(te.flat && dp)=true
    ·simp only [hfl,if_true];cases y.src te.cells.length with
     | none=>exact Iff.rfl
     | some r=>simp only []; rw [rD hf hd hal]
    ·simp only [hfl,if_false,Bool.false_eq_true];rw [Lm hf ay];cases hmv:(if dp=true then y.moved s.m ts.elem te.cells.length hb' else none) with
     | none =>
      simp only [];cases y.src te.cells.length with
      | none=>exact Iff.rfl
      | some r=>simp only []; rw [rD hf hd hal]
     | some q =>
      obtain ⟨h2,r⟩:=q;simp only [];rw [rD hf hd];intro g hg;rcases List.mem_append.1 hg with hg | hg
      ·exact hal g hg
      ·simp only [List.mem_singleton] at hg;subst hg;split at hmv
       ·exact Ln hmv
       ·cases hmv
theorem Lv {δ:Dl} {m:Nat->Option Blk} (hf:δ.free m):∀ {ts:List TK} {vs:List AV},(∀ v ∈ vs,alive m v)->mvL (bF δ m) ts vs=mvL m ts vs:=by
 intro ts
 induction ts with
 | nil=>intro vs _; cases vs <;> rfl
 | cons t ts ih =>
  intro vs h;cases vs with
  | nil=>rfl
  | cons v vs =>
   have e1:v.mv (bF δ m) t=v.mv m t:=by
    have hv:=h v (by simp)
    unfold AV.mv;split
    ·rename_i g _ _;rw [ko hf (hv g (by simp [AV.hs]))]
    ·rfl
   have e2:mvL (bF δ m) ts vs=mvL m ts vs:=ih fun u hu=>h u (List.mem_cons_of_mem _ hu);simp only [mvL,e1,e2]
theorem Gg {m:Nat->Option Blk} {v:AV} (h:alive m v):∀ u ∈ v.cells,alive m u:=by
 intro u hu;cases v <;> simp only [AV.cells,List.mem_singleton] at hu <;> try (subst hu; exact h)
 rename_i vs;intro g hg;refine h g ?_;simp only [AV.hs]
 induction vs with
 | nil=>cases hu
 | cons x vs ih =>
  simp only [AV.hs.hsL,List.mem_append];rcases List.mem_cons.1 hu with rfl | hu
  ·exact .inl hg
  ·refine .inr (ih ?_ hu);intro g' hg';exact h g' (by simp only [AV.hs,AV.hs.hsL,List.mem_append]; exact .inr hg')
theorem Mp {δ:Dl} {m:Nat->Option Blk} (hf:δ.free m) {te:TI} {ρ ρ':Operand->AV}:∀ {ps:List (Nat × Operand)} {i},(∀ p ∈ ps,ρ' p.2 = ρ p.2/\alive m (ρ p.2))->fP (bF δ m) te ρ' ps i=fP m te ρ ps i:=by
 intro ps
 induction ps with
 | nil=>intro i _; rfl
 | cons p ps ih =>
  intro i h;obtain ⟨j,x⟩:=p;obtain ⟨h1,h2⟩:=h (j,x) (by simp)
  simp only [fP];simp only at h1 h2;rw [h1,Lv hf (Gg h2),ih fun p hp=>h p (by simp [hp])]
theorem Lw {m:Nat->Option Blk}:∀ {ts:List TK} {vs:List AV} {ds hs},mvL m ts vs=some (ds,hs) -> ∀ h ∈ hs,isOwn m h:=by
 intro ts
 induction ts with
 | nil =>
  intro vs ds hs h;cases vs with
  | nil=>cases h; simp
  | cons=>cases h
 | cons t ts ih =>
  intro vs ds hs h;cases vs with
  | nil=>cases h
  | cons v vs =>
   unfold mvL at h;split at h
   ·rename_i d h1 ds2 h2 hd hds;cases h;intro g hg;rcases List.mem_append.1 hg with hg | hg
    ·unfold AV.mv at hd;split at hd
     ·split at hd
      ·rename_i hm;split at hd
       ·cases hd;simp only [List.mem_singleton] at hg;subst hg;exact ⟨_,_,_,_,hm⟩
       ·cases hd
      ·cases hd
     ·split at hd
      ·split at hd
       ·cases hd; cases hg
       ·cases hd
      ·cases hd
    ·exact ih hds g hg
   ·cases h
theorem B2 {m:Nat->Option Blk} {te:TI} {ρ:Operand->AV}:∀ {ps:List (Nat × Operand)} {i rows hs},fP m te ρ ps i=some (rows,hs) -> ∀ h ∈ hs,isOwn m h:=by
 intro ps
 induction ps with
 | nil=>intro i rows hs h; cases h; simp
 | cons p ps ih =>
  intro i rows hs h;obtain ⟨j,x⟩:=p;simp only [fP] at h;split at h
  ·split at h
   ·rename_i row h1 rows' h2 hrow hrows;cases h;intro g hg;rcases List.mem_append.1 hg with hg | hg
    ·exact Lw hrow g hg
    ·exact ih hrows g hg
   ·cases h
  ·cases h
theorem Mq {m:Nat->Option Blk} {te:TI} {ρ:Operand->AV} {ps:List (Nat × Operand)} {i rows hs} (h:fP m te ρ ps i=some (rows,hs)):∀ h ∈ hs,(m h).isSome=true:=fun g hg=>(B2 h g hg).some
theorem FU {T:Nat->Option TI} {t n d:Nat} {s:St} {parts:List (Nat × Operand)} {K:AV->(Nat->Option Blk)->Prop} {δ:Dl} (hf:δ.free s.m) (hd:∀ d' b,δ.put=some (d',b)->d' ≠ d)
  (hv:∀ p ∈ parts,(s.add δ).val p.2=s.val p.2/\(s.add δ).cond p.2=s.cond p.2/\alive s.m (s.val p.2)) :
  gV T t n parts d (s.add δ) K ↔ gV T t n parts d s fun av m=>K av (bF δ m):=by
 unfold gV;rw [sd];cases T t with
 | none=>exact Iff.rfl
 | some ts =>
  simp only [];cases hte:T ts.elem with
  | none=>exact Iff.rfl
  | some te =>
   simp only [];rw [Mp hf (ρ:=s.val) fun p hp=>⟨(hv p hp).1,(hv p hp).2.2⟩];cases hr:fP s.m te s.val parts 0 with
   | none=>exact Iff.rfl
   | some q =>
    obtain ⟨rows,hs⟩:=q;simp only [];have e1:(parts.all fun p=>(s.add δ).cond p.2)=(parts.all fun p=>s.cond p.2):=by
     rw [Bool.eq_iff_iff,List.all_eq_true,List.all_eq_true];exact forall_congr' fun p=>imp_congr_right fun hp=>by rw [(hv p hp).2.1]
    rw [e1,kp hd];have:=rD (blk:=.own ts.elem te.cells.length true rows) hf hd (Mq hr);simp only [rm] at this;rw [this]
theorem MC {δ:Dl} {m:Nat->Option Blk} (hf:δ.free m) {ρ:List (Nat × Nat)} (hρ:∀ p ∈ ρ,(m p.2).isSome=true):∀ {bs:List (Nat × Nat × List AV)},eF (bF δ m) ρ bs=eF m ρ bs:=by
 intro bs
 induction bs with
 | nil=>rfl
 | cons b bs ih =>
  obtain ⟨i,ty,vs⟩:=b;unfold eF;cases hg:ai ρ i with
  | none=>rfl
  | some h =>
   simp only [];rw [ko hf (hρ _ (c8 hg)),ih]
theorem B8 {x y q} (h:js x y=some q):∀ p ∈ q.hs,p.2 ∈ y.hs:=by
 unfold js at h;split at h <;> try (cases h; done)
 all_goals (cases h; simp [AV.hs])
theorem Cw:∀ {xs ys q},iw xs ys=some q -> ∀ p ∈ q.hs,∃ y ∈ ys,p.2 ∈ y.hs:=by
 intro xs
 induction xs with
 | nil=>intro ys q h; cases ys with | nil=>cases h; simp | cons=>cases h
 | cons x xs ih =>
  intro ys q h;cases ys with
  | nil=>cases h
  | cons y ys =>
   unfold iw at h;split at h
   ·rename_i a b ha hb;cases h;intro p hp;rcases List.mem_append.1 hp with hp | hp
    ·exact ⟨y,by simp,B8 ha p hp⟩
    ·obtain ⟨z,q1,q2⟩:=ih hb p hp;exact ⟨z,by simp [q1],q2⟩
   ·cases h
theorem qu {bs:List AV} {b h} (hb:b ∈ bs) (hh:h ∈ b.hs):h ∈ AV.hs.hsL bs:=by
 induction bs with
 | nil=>cases hb
 | cons x bs ih =>
  simp only [AV.hs.hsL,List.mem_append];rcases List.mem_cons.1 hb with rfl | hb
  ·exact .inl hh
  ·exact .inr (ih hb)
theorem MD {x y q} (h:j2 x y=some q):∀ p ∈ q.hs,p.2 ∈ y.hs:=by
 unfold j2 at h;split at h
 ·intro p hp;obtain ⟨z,q1,q2⟩:=Cw h p hp;simp only [AV.hs];exact qu q1 q2
 ·split at h
  ·intro p hp;obtain ⟨z,q1,q2⟩:=Cw h p hp;simp only [AV.hs];exact qu q1 q2
  ·cases h
 ·exact B8 h
theorem MG:∀ {xs ys q},fj xs ys=some q -> ∀ p ∈ q.hs,∃ y ∈ ys,p.2 ∈ y.hs:=by
 intro xs
 induction xs with
 | nil=>intro ys q h; cases ys with | nil=>cases h; simp | cons=>cases h
 | cons x xs ih =>
  intro ys q h;cases ys with
  | nil=>cases h
  | cons y ys =>
   unfold fj at h;split at h
   ·rename_i a b ha hb;cases h;intro p hp;rcases List.mem_append.1 hp with hp | hp
    ·exact ⟨y,by simp,MD ha p hp⟩
    ·obtain ⟨z,q1,q2⟩:=ih hb p hp;exact ⟨z,by simp [q1],q2⟩
   ·cases h
theorem Cv {x y q} (h:js x y=some q):∀ p ∈ q.ow,p.1 ∈ y.hs:=by
 unfold js at h;split at h <;> try (cases h; done)
 all_goals (cases h; simp [AV.hs])
theorem Cy:∀ {xs ys q},iw xs ys=some q -> ∀ p ∈ q.ow,∃ y ∈ ys,p.1 ∈ y.hs:=by
 intro xs
 induction xs with
 | nil=>intro ys q h; cases ys with | nil=>cases h; simp | cons=>cases h
 | cons x xs ih =>
  intro ys q h;cases ys with
  | nil=>cases h
  | cons y ys =>
   unfold iw at h;split at h
   ·rename_i a b ha hb;cases h;intro p hp;rcases List.mem_append.1 hp with hp | hp
    ·exact ⟨y,by simp,Cv ha p hp⟩
    ·obtain ⟨z,q1,q2⟩:=ih hb p hp;exact ⟨z,by simp [q1],q2⟩
   ·cases h
theorem MF {x y q} (h:j2 x y=some q):∀ p ∈ q.ow,p.1 ∈ y.hs:=by
 unfold j2 at h;split at h
 ·intro p hp;obtain ⟨z,q1,q2⟩:=Cy h p hp;simp only [AV.hs];exact qu q1 q2
 ·split at h
  ·intro p hp;obtain ⟨z,q1,q2⟩:=Cy h p hp;simp only [AV.hs];exact qu q1 q2
  ·cases h
 ·exact Cv h
theorem MI:∀ {xs ys q},fj xs ys=some q -> ∀ p ∈ q.ow,∃ y ∈ ys,p.1 ∈ y.hs:=by
 intro xs
 induction xs with
 | nil=>intro ys q h; cases ys with | nil=>cases h; simp | cons=>cases h
 | cons x xs ih =>
  intro ys q h;cases ys with
  | nil=>cases h
  | cons y ys =>
   unfold fj at h;split at h
   ·rename_i a b ha hb;cases h;intro p hp;rcases List.mem_append.1 hp with hp | hp
    ·exact ⟨y,by simp,MF ha p hp⟩
    ·obtain ⟨z,q1,q2⟩:=ih hb p hp;exact ⟨z,by simp [q1],q2⟩
   ·cases h
theorem G5 {kn:Bool} {δ:Dl} {m:Nat->Option Blk} {e:Bool} {ow:List (Nat × List (List D))} (hf:δ.free m) (hs:∀ p ∈ ow,(m p.1).isSome=true):dm kn (bF δ m) e ow=dm kn m e ow:=by
 funext r
 unfold dm
 congr 2
 congr 1
 rw [Bool.eq_iff_iff];simp only [List.all_eq_true];have h:∀ p ∈ ow,bF δ m p.1=m p.1:=fun p hp=>kp fun d b hd e=>by
  subst e;have:=hs p hp;rw [hf _ b hd] at this;cases this
 constructor
 ·intro q p hp;have:=q p hp
  rwa [h p hp] at this
 ·intro q p hp;rw [h p hp];exact q p hp
theorem BT {R:Nat->Nat} {g:Nat->Blk->Option Blk} {m:Nat->Option Blk} {d:Nat} {b:Option Blk}:∀ {l:List (Nat × Blk)},(∀ p ∈ l,R p.1 ≠ d)->over (upd m d b) R g l=upd (over m R g l) d b:=by
 intro l
 induction l with
 | nil=>intro _; rfl
 | cons p l ih =>
  intro h;obtain ⟨j,x⟩:=p;simp only [over,ih fun p hp=>h p (by simp [hp])]
  have:=h (j,x) (by simp)
  funext z
  simp only [upd];by_cases hz:z=R j
  ·subst hz; simp [this]
  ·simp [hz]
theorem D6 {k:Con} {guarded g:Bool} {d:Nat} {us:List AV} {conds:Bool} {s:St} {K:AV->(Nat->Option Blk)->Prop} {δ:Dl} (hf:δ.free s.m)
  (hd:∀ d' b,δ.put=some (d',b) -> ∀ j,j < 16->d' ≠ d+j) (hal:∀ u ∈ us,alive s.m u) :
  fZ k guarded g d us conds (s.add δ) K ↔ fZ k guarded g d us conds s fun av m=>K av (bF δ m):=by
 unfold fZ;rw [sd];refine exists_congr fun x=>?_;cases hA:fj (k.args x) us with
 | none=>exact Iff.rfl
 | some A =>
  have hρ:∀ p ∈ A.hs,(s.m p.2).isSome=true:=by
   intro p hp;obtain ⟨y,q1,q2⟩:=MG hA p hp;exact hal y q1 _ q2
  have hρ2:∀ p ∈ A.ow,(s.m p.1).isSome=true:=by
   intro p hp;obtain ⟨y,q1,q2⟩:=MI hA p hp;exact hal y q1 _ q2
  simp only [];rw [MC hf hρ];cases hB:eF s.m A.hs (k.boxes x) with
  | none=>exact Iff.rfl
  | some B =>
   simp only [];refine and_congr Iff.rfl (and_congr Iff.rfl (and_congr Iff.rfl (and_congr Iff.rfl (and_congr Iff.rfl (and_congr Iff.rfl (and_congr Iff.rfl (and_congr Iff.rfl (forall_congr' fun y=>imp_congr_right fun hy=>and_congr Iff.rfl ?_))))))));have e1:iR A.hs d (bF δ s.m) ((k.boxes x).map (·.1)) (k.fin x y) ↔ iR A.hs d s.m ((k.boxes x).map (·.1)) (k.fin x y):=by
    unfold iR;refine and_congr Iff.rfl (and_congr (forall_congr' fun p=>imp_congr_right fun hp=>imp_congr_right fun hn=>?_) Iff.rfl);constructor
    ·rintro ⟨h1,h2⟩;refine ⟨?_,h2⟩
     rwa [kp fun d' b hb=>hd d' b hb _ h2] at h1
    ·rintro ⟨h1,h2⟩;refine ⟨?_,h2⟩
     rwa [kp fun d' b hb=>hd d' b hb _ h2]
   rw [e1];refine and_congr_right fun hok=>and_congr Iff.rfl ?_;have e2:∀ X,fQ X A.hs d (bF δ s.m) (k.fin x y)=bF δ (fQ X A.hs d s.m (k.fin x y)):=by
    intro X;unfold bF;cases hp:δ.put with
    | none=>rfl
    | some q =>
     obtain ⟨d',b⟩:=q;unfold fQ;refine BT fun p hpm=>?_;unfold rho;cases hg:ai A.hs p.1 with
     | none=>exact Ne.symm (hd d' b hp _ (hok.2.1 p hpm hg).2)
     | some h =>
      intro e;simp only at e;subst e;have:=hρ _ (c8 hg);simp only at this;rw [hf _ b hp] at this;cases this
   rw [G5 hf hρ2,e2]
def isLoad (o:Oper):Bool:=match o.op with | .load _ _=>true | _=>false
theorem Gd {T:Nat->Option TI} {g d} {m m':Nat->Option Blk} {ρ ρ':Operand->AV} {o:Oper} {r} (h:calm T g d m ρ o=some r) (h1:∀ x ∈ o.op.operands,ρ' x = ρ x)
  (h2:isLoad o=true -> ∀ x ∈ o.op.operands,∀ h ∈ (ρ x).hs,∀ ty vs,m h=some (.box ty vs)->m' h=some (.box ty vs)):calm T g d m' ρ' o=some r:=by
 rw [F6 (m:=m') h1];obtain ⟨dst,op,ty,pos,after,guard⟩:=o;unfold calm at h ⊢;cases op <;> try exact h
 case makeFunc fn _ _=>cases fn <;> exact h
 case slice _ _ _ _ mx=>cases mx <;> exact h
 case call cl =>
  obtain ⟨callee,args,ats⟩:=cl;cases callee with
  | value=>exact h
  | invoke=>exact h
  | builtin b=>cases b <;> exact h
 rename_i t x;simp only [] at h ⊢;have h2':=h2 rfl x (by simp [Op.operands])
 generalize ρ x=y at h h2';cases y <;> simp only [il] at h ⊢ <;> try exact h
 rename_i hh off;cases ht:T t with
 | none=>rw [ht] at h; cases h
 | some ti =>
  rw [ht] at h;cases hm:m hh with
  | none=>rw [hm] at h; cases h
  | some b =>
   rw [hm] at h;cases b with
   | box ty vs =>
    rw [h2' hh (by simp [AV.hs]) ty vs hm]
    exact h
   | own=>cases h
   | dead=>cases h
theorem km {T:Nat->Option TI} {n:Nat} {ops:Array Oper} {o:Oper} {s s':St} {g u} (h:aT T n ops s.m o s=some (g,u))
  (h1:∀ x ∈ o.op.operands,s'.val x=s.val x/\s'.cond x=s.cond x) (hw:cS ops o s'=cS ops o s)
  (h2:isLoad o=true -> ∀ x ∈ o.op.operands,∀ h ∈ (s.val x).hs,∀ ty vs,s.m h=some (.box ty vs)->s'.m h=some (.box ty vs)) :
  ∃ u',aT T n ops s'.m o s'=some (g,u')/\u'.av=u.av/\u'.puts=u.puts/\(u.pre->gy s'.m u.puts->u'.pre):=by
 unfold aT at h ⊢;rw [hw];split at h
 ·cases h
 ·rename_i g0 hg;split at h
  ·rename_i hd;simp only [hd,if_true];have hall:(o.op.operands.toList.all s'.cond)=(o.op.operands.toList.all s.cond):=by
    rw [Bool.eq_iff_iff,List.all_eq_true,List.all_eq_true];exact forall_congr' fun x=>imp_congr_right fun hx=>by rw [(h1 x (by simpa using hx)).2]
   split at h
   ·rename_i x y z hop;have ex:=h1 x (by rw [hop]; simp [Op.operands])
    have ey:=h1 y (by rw [hop]; simp [Op.operands])
    have ez:=h1 z (by rw [hop]; simp [Op.operands])
    rw [ex.1,ey.1,ez.1];split at h
    ·rename_i b av hp;cases h;simp only [hp];refine ⟨_,rfl,rfl,rfl,fun h _=>?_⟩
     simpa only [ex.2,ey.2,ez.2] using h
    ·cases h
   ·rename_i hne;cases hc:calm T o.guard.isSome (Oper.hnd o) s.m s.val o with
    | none=>rw [hc] at h; cases h
    | some r =>
     rw [hc] at h;cases h;have hc':=Gd hc (fun x hx=>(h1 x hx).1) h2;refine ⟨⟨(g=true->(o.op.operands.toList.all s'.cond)=true/\r.pre)/\gy s'.m r.puts,g=true->r.fact,r.av,r.puts⟩,?_,rfl,rfl,fun h hf=>⟨fun hgt=>⟨by rw [hall]; exact (h.1 hgt).1,(h.1 hgt).2⟩,hf⟩⟩
     split
     ·rename_i r1 hr1; rw [hc'] at hr1; cases hr1; rfl
     ·rename_i hr1; rw [hc'] at hr1; cases hr1
  ·cases h
theorem D9 {T:Nat->Option TI} {n:Nat} {ops:Array Oper} {mm:Nat->Option Blk} {o:Oper} {s:St} {g u} (h:aT T n ops mm o s=some (g,u)):u.puts=[] \/ ∃ b,u.puts=[(Oper.hnd o,b)]:=by
 unfold aT at h;split at h
 ·cases h
 ·split at h
  ·split at h
   ·split at h
    ·cases h; exact .inl rfl
    ·cases h
   ·split at h
    ·rename_i r hr;cases h;have:=(uX hr).2;simp only;split at this
     ·rename_i hp; exact .inl hp
     ·obtain ⟨b,hb⟩:=this; exact .inr ⟨b,by rw [<- hb]; assumption⟩
    ·cases h
  ·cases h
def gJ (cs:Nat->Option Con) (o:Oper):Bool:=o.dst.isSome && match o.op with
 | .buildSlice _ _ _=>true
 | .call { callee:=.builtin .append,.. }=>true
 | .call { callee:=.value (.func f),.. }=>match cs f with | some k=>!k.mv | none=>false
 | _=>false
def gB (cs:Nat->Option Con) (o:Oper):Bool:=match o.op with
 | .call { callee:=.value (.func f),.. }=>match cs f with | some k=>k.nob | none=>false
 | _=>true
def gW (cs:Nat->Option Con) (o:Oper):List Nat:=match o.op with
 | .call { callee:=.value (.func f),.. }=>match cs f with | some k=>k.bty | none=>[]
 | _=>[]
def gh (cs:Nat->Option Con) (ops:Array Oper):List Nat:=ops.toList.flatMap (gW cs)
def ldB (B:List Nat) (o:Oper) (s:St):Bool:=match o.op with
 | .load _ p=>(s.val p).hs.all fun h=>match s.m h with
  | some (.box ty _)=>!B.contains ty
  | some _=>true
  | none=>false
 | _=>true
structure Fr (nob:Bool) (bt:List Nat) (o:Oper) (s s1:St):Prop where
 e:∀ t,o.dst ≠ some t->s1.e t=s.e t
 some_:∀ h,(s.m h).isSome=true->(s1.m h).isSome=true
 fresh:∀ h,(∀ j,j < 16->h ≠ Oper.hnd o+j)->s.m h=none->s1.m h=none
 box:nob=true -> ∀ h,(s.m h).isSome=true->s1.m h=s.m h \/ (s1.m h=some .dead/\isOwn s.m h)
 bx:bt ≠ [] -> ∀ h,(s.m h).isSome=true->s1.m h=s.m h \/ (s1.m h=some .dead/\isOwn s.m h) \/ ∃ ty vs ty' vs',s.m h=some (.box ty vs)/\s1.m h=some (.box ty' vs')/\ty ∈ bt/\ty' ∈ bt
theorem Oc {m:Nat->Option Blk} {hb:List Nat} {d:Nat} {blk:Blk} (hd:m d=none) (ho:∀ g ∈ hb,isOwn m g) :
  (∀ h,(m h).isSome=true->(rm m hb d blk h).isSome=true/\(rm m hb d blk h=m h \/ (rm m hb d blk h=some .dead/\isOwn m h)))/\(∀ h,h ≠ d->h ∉ hb->m h=none->rm m hb d blk h=none):=by
 refine ⟨fun h hs=>?_,fun h hne hn hm=>?_⟩
 ·have hne:h ≠ d:=by intro e; subst e; rw [hd] at hs; cases hs
  simp only [rm,upd_ne _ _ hne];by_cases hh:h ∈ hb
  ·rw [eE hh]; exact ⟨rfl,.inr ⟨rfl,ho h hh⟩⟩
  ·rw [dD hh]; exact ⟨hs,.inl rfl⟩
 ·simp only [rm,upd_ne _ _ hne,dD hn,hm]
theorem EQ {T:Nat->Option TI} {t t2 d:Nat} {s:St} {x y:AV} {K K':AV->(Nat->Option Blk)->Prop} (h:fy T t t2 d s x y K)
  (hK:∀ av hb blk,s.m d=none->(∀ g ∈ hb,isOwn s.m g)->K av (rm s.m hb d blk)->K' av (rm s.m hb d blk)) :
  fy T t t2 d s x y K' /\ ∃ av hb blk,s.m d=none/\(∀ g ∈ hb,isOwn s.m g)/\K av (rm s.m hb d blk):=by
 unfold fy at h ⊢;cases hT:T t with
 | none=>rw [hT] at h; exact h.elim
 | some ts =>
  rw [hT] at h;simp only [] at h ⊢;cases hte:T ts.elem with
  | none=>rw [hte] at h; exact h.elim
  | some te =>
   rw [hte] at h;simp only [] at h ⊢;obtain ⟨h1,h2,h3,h⟩:=h;cases hb:x.base s.m ts.elem te.cells.length with
   | none=>rw [hb] at h; exact h.elim
   | some p =>
    obtain ⟨hb',R,dp⟩:=p;have hal:=yJ hb;rw [hb] at h;simp only [] at h ⊢;by_cases hfl:(te.flat && dp)=true
    ·simp only [hfl,if_true] at h ⊢;cases hs:y.src te.cells.length with
     | none=>rw [hs] at h; exact h.elim
     | some r =>
      rw [hs] at h;simp only [] at h ⊢;obtain ⟨q1,q2,q3⟩:=h;exact ⟨⟨h1,h2,h3,q1,q2,hK _ _ _ h3 hal q3⟩,_,_,_,h3,hal,q3⟩
    ·simp only [hfl,if_false,Bool.false_eq_true] at h ⊢;cases hmv:(if dp=true then y.moved s.m ts.elem te.cells.length hb' else none) with
     | none =>
      rw [hmv] at h;simp only [] at h ⊢;cases hs:y.src te.cells.length with
      | none=>rw [hs] at h; exact h.elim
      | some r =>
       rw [hs] at h;simp only [] at h ⊢;obtain ⟨q2,q3⟩:=h;exact ⟨⟨h1,h2,h3,q2,hK _ _ _ h3 hal q3⟩,_,_,_,h3,hal,q3⟩
     | some q =>
      obtain ⟨g2,r⟩:=q;rw [hmv] at h;simp only [] at h ⊢;obtain ⟨q2,q3⟩:=h;have hal2:∀ g ∈ hb'++[g2],isOwn s.m g:=by
       intro g hg;rcases List.mem_append.1 hg with hg | hg
       ·exact hal g hg
       ·simp only [List.mem_singleton] at hg;subst hg;split at hmv
        ·exact Bz hmv
        ·cases hmv
      exact ⟨⟨h1,h2,h3,q2,hK _ _ _ h3 hal2 q3⟩,_,_,_,h3,hal2,q3⟩
theorem FV {T:Nat->Option TI} {t n d:Nat} {s:St} {parts:List (Nat × Operand)} {K K':AV->(Nat->Option Blk)->Prop} (h:gV T t n parts d s K)
  (hK:∀ av hb blk,s.m d=none->(∀ g ∈ hb,isOwn s.m g)->K av (rm s.m hb d blk)->K' av (rm s.m hb d blk)) :
  gV T t n parts d s K' /\ ∃ av hb blk,s.m d=none/\(∀ g ∈ hb,isOwn s.m g)/\K av (rm s.m hb d blk):=by
 unfold gV at h ⊢;cases hT:T t with
 | none=>rw [hT] at h; exact h.elim
 | some ts =>
  rw [hT] at h;simp only [] at h ⊢;cases hte:T ts.elem with
  | none=>rw [hte] at h; exact h.elim
  | some te =>
   rw [hte] at h;simp only [] at h ⊢;cases hr:fP s.m te s.val parts 0 with
   | none=>rw [hr] at h; exact h.elim
   | some q =>
    obtain ⟨rows,hs⟩:=q;rw [hr] at h;simp only [] at h ⊢;obtain ⟨q1,q2,q3,q4,q5,q6⟩:=h;have hal:=B2 hr;exact ⟨⟨q1,q2,q3,q4,q5,hK _ _ _ q4 hal q6⟩,_,_,_,q4,hal,q6⟩
theorem oD {s:St} {o:Oper} {g:Bool} {av:AV} {m:Nat->Option Blk} {δ:Dl} (h:∀ t,δ.t=some t->o.dst ≠ some t) :
  (s.add δ).set o g av (bF δ m)=(s.set o g av m).add δ:=by
 have:=OD (s:=s) (o:=o) (g:=g) (av:=av) (m:=m) h;exact this
theorem rC {s:St} {o:Oper} {g:Bool} {av:AV} {hb:List Nat} {blk:Blk} {nob:Bool} {bt:List Nat} (hd:s.m (Oper.hnd o)=none) (hb':∀ h ∈ hb,isOwn s.m h):Fr nob bt o s (s.set o g av (rm s.m hb (Oper.hnd o) blk)):=by
 obtain ⟨q1,q2⟩:=Oc (hb:=hb) (blk:=blk) hd hb';refine ⟨fun t ht=>?_,fun h hs=>(q1 h hs).1,fun h hj hm=>?_,fun _ h hs=>(q1 h hs).2,fun _ h hs=>(q1 h hs).2.elim .inl fun e=>.inr (.inl e)⟩
 ·unfold St.set;cases hd:o.dst with
  | none=>rfl
  | some u=>exact upd_ne _ _ (by intro e; subst e; exact ht hd)
 ·refine q2 h (by simpa using hj 0 (by omega)) (fun hc=>?_) hm
  obtain ⟨_,_,_,_,q⟩:=hb' h hc;rw [hm] at q;cases q
theorem D7 {P:Program} {f:Nat} {k:Con} (H:Has P f k) {guarded g:Bool} {o:Oper} {us:List AV} {conds:Bool} {s:St} {K K':AV->(Nat->Option Blk)->Prop} (h:fZ k guarded g (Oper.hnd o) us conds s K)
  (hK:∀ av m,Fr k.nob k.bty o s (s.set o g av m)->K av m->K' av m):fZ k guarded g (Oper.hnd o) us conds s K' /\ ∃ av m,Fr k.nob k.bty o s (s.set o g av m)/\K av m:=by
 obtain ⟨x,h⟩:=h;cases hA:fj (k.args x) us with
 | none=>rw [hA] at h; exact h.elim
 | some A =>
  rw [hA] at h;simp only [] at h;cases hB:eF s.m A.hs (k.boxes x) with
  | none=>rw [hB] at h; exact h.elim
  | some B =>
   rw [hB] at h;simp only [] at h;obtain ⟨h1,h2,h3,h4,h5,h6,h7,h8,h9⟩:=h;have frm:∀ y av,iR A.hs (Oper.hnd o) s.m ((k.boxes x).map (·.1)) (k.fin x y)->Fr k.nob k.bty o s (s.set o g av (fQ (dm k.kindly s.m (A.ext && B.ext) A.ow) A.hs (Oper.hnd o) s.m (k.fin x y))):=by
    intro y av hok;have hval:∀ h,(∃ b,fQ (dm k.kindly s.m (A.ext && B.ext) A.ow) A.hs (Oper.hnd o) s.m (k.fin x y) h=some b /\ ∃ p ∈ k.fin x y,rho A.hs (Oper.hnd o) p.1=h) \/ fQ (dm k.kindly s.m (A.ext && B.ext) A.ow) A.hs (Oper.hnd o) s.m (k.fin x y) h=s.m h:=by
     intro h;by_cases hex:∃ p ∈ k.fin x y,rho A.hs (Oper.hnd o) p.1=h
     ·obtain ⟨p,hp,rfl⟩:=hex;exact .inl ⟨_,df (g:=fun _ b=>some (eA (dm k.kindly s.m (A.ext && B.ext) A.ow) (rho A.hs (Oper.hnd o)) b)) hok.1 hp,p,hp,rfl⟩
     ·exact .inr (cC fun p hp he=>hex ⟨p,hp,he⟩)
    have hbox:k.bty ≠ [] -> ∀ p ∈ k.fin x y,∀ h',ai A.hs p.1=some h' -> ∃ ty vs ty' vs',s.m h'=some (.box ty vs)/\fQ (dm k.kindly s.m (A.ext && B.ext) A.ow) A.hs (Oper.hnd o) s.m (k.fin x y) h'=some (.box ty' vs')/\ty ∈ k.bty/\ty' ∈ k.bty:=by
     intro hne p hp h' hg;obtain ⟨hkey,ty2,vs2,hp2⟩:=hok.2.2.1 p hp (by rw [hg]; rfl)
     obtain ⟨b,hb,hbe⟩:=List.mem_map.1 hkey;have hbt:=H.bt.resolve_left hne x;have hh:∀ {bs:List (Nat × Nat × List AV)} {q},eF s.m A.hs bs=some q->q.p -> ∀ b ∈ bs,∃ g vs,ai A.hs b.1=some g/\s.m g=some (.box b.2.1 vs):=by
      intro bs
      induction bs with
      | nil=>intro q _ _ b hb; cases hb
      | cons z bs ih =>
       intro q hq hqp b hb;obtain ⟨i,ty,vs⟩:=z;unfold eF at hq;split at hq
       ·rename_i g hg';split at hq
        ·rename_i ty' us bq hm' hb';split at hq
         ·cases hq;obtain ⟨e,_,hbp⟩:=hqp;rcases List.mem_cons.1 hb with rfl | hb
          ·exact ⟨g,us,hg',by rw [hm',e]⟩
          ·exact ih hb' hbp b hb
         ·cases hq
        ·cases hq
       ·cases hq
     obtain ⟨g',vs,r1,r2⟩:=hh hB h4 b hb;rw [hbe,hg] at r1;cases r1;have ho:=df (f:=s.m) (R:=rho A.hs (Oper.hnd o)) (g:=fun _ b=>some (eA (dm k.kindly s.m (A.ext && B.ext) A.ow) (rho A.hs (Oper.hnd o)) b)) hok.1 (j:=p.1) (b:=p.2) hp;have hr:rho A.hs (Oper.hnd o) p.1=h':=by unfold rho; rw [hg]
     rw [hr,hp2] at ho;exact ⟨_,vs,ty2,_,r2,ho,hbt.1 b hb,hbt.2 y p hp ty2 vs2 hp2⟩
    refine ⟨fun t ht=>?_,fun h hs=>?_,fun h hj hm=>?_,fun hnob h hs=>.inl ?_,fun hne h hs=>?_⟩
    ·unfold St.set;cases hd:o.dst with
     | none=>rfl
     | some u=>exact upd_ne _ _ (by intro e; subst e; exact ht hd)
    ·show (fQ (dm k.kindly s.m (A.ext && B.ext) A.ow) A.hs (Oper.hnd o) s.m (k.fin x y) h).isSome=true
     rcases hval h with ⟨b,q,_⟩ | q
     ·rw [q]; rfl
     ·rw [q]; exact hs
    ·show fQ (dm k.kindly s.m (A.ext && B.ext) A.ow) A.hs (Oper.hnd o) s.m (k.fin x y) h=none
     rcases hval h with ⟨b,q,p,hp,hr⟩ | q
     ·exfalso;unfold rho at hr;cases hg:ai A.hs p.1 with
      | none =>
       rw [hg] at hr;exact hj p.1 (hok.2.1 p hp hg).2 hr.symm
      | some h' =>
       rw [hg] at hr;simp only at hr;subst hr;obtain ⟨hkey,_⟩:=hok.2.2.1 p hp (by rw [hg]; rfl)
       -- a box of the caller's is there
       obtain ⟨b,hb,hbe⟩:=List.mem_map.1 hkey;have hsome:(s.m h').isSome=true:=by
        have hh:∀ {bs:List (Nat × Nat × List AV)} {q},eF s.m A.hs bs=some q -> ∀ b ∈ bs,∃ g,ai A.hs b.1=some g/\(s.m g).isSome=true:=by
         intro bs
         induction bs with
         | nil=>intro q _ b hb; cases hb
         | cons z bs ih =>
          intro q hq b hb;obtain ⟨i,ty,vs⟩:=z;unfold eF at hq;split at hq
          ·rename_i g hg';split at hq
           ·rename_i hm' hb';rcases List.mem_cons.1 hb with rfl | hb
            ·exact ⟨g,hg',by rw [hm']; rfl⟩
            ·exact ih hb' b hb
           ·cases hq
          ·cases hq
        obtain ⟨g',r1,r2⟩:=hh hB b hb;rw [hbe,hg] at r1;cases r1;exact r2
       rw [hm] at hsome;cases hsome
     ·rw [q]; exact hm
    ·show fQ (dm k.kindly s.m (A.ext && B.ext) A.ow) A.hs (Oper.hnd o) s.m (k.fin x y) h=s.m h
     rcases hval h with ⟨b,q,p,hp,hr⟩ | q
     ·exfalso;have hbx:=H.nob hnob x;unfold rho at hr;cases hg:ai A.hs p.1 with
      | none =>
       rw [hg] at hr;have:=(hok.2.1 p hp hg).1
       change Oper.hnd o+p.1=h at hr
       rw [hr] at this;rw [this] at hs;cases hs
      | some h' =>
       obtain ⟨hkey,_⟩:=hok.2.2.1 p hp (by rw [hg]; rfl)
       rw [hbx] at hkey;cases hkey
     ·exact q
    ·rcases hval h with ⟨b,q,p,hp,hr⟩ | q
     ·cases hg:ai A.hs p.1 with
      | none =>
       exfalso;unfold rho at hr;rw [hg] at hr;have:=(hok.2.1 p hp hg).1
       change Oper.hnd o+p.1=h at hr
       rw [hr] at this;rw [this] at hs;cases hs
      | some h' =>
       have hr':h'=h:=by unfold rho at hr; rw [hg] at hr; exact hr
       subst hr';exact .inr (.inr (hbox hne p hp h' hg))
     ·exact .inl q
   refine ⟨⟨x,?_⟩,?_⟩
   ·rw [hA];simp only [];rw [hB];simp only [];refine ⟨h1,h2,h3,h4,h5,h6,h7,h8,fun y hy=>?_⟩;obtain ⟨q1,q2,q3,q4⟩:=h9 y hy;exact ⟨q1,q2,q3,hK _ _ (frm y _ q2) q4⟩
   ·obtain ⟨y,hy⟩:=H.tot x;obtain ⟨q1,q2,q3,q4⟩:=h9 y hy;exact ⟨_,_,frm y _ q2,q4⟩
section
variable {P:Program} {T:Nat->Option TI} {cs:Nat->Option Con} (hcs:∀ f k,cs f=some k->Has P f k) {n:Nat} {ops:Array Oper}
include hcs
theorem mO {o:Oper} {s:St} {K K':St->Prop} (hs:gJ cs o=true) (h:bY T cs n ops o s K) (hK:∀ s1,Fr (gB cs o) (gW cs o) o s s1->K s1->K' s1) :
  bY T cs n ops o s K' /\ ∃ s1,Fr (gB cs o) (gW cs o) o s s1/\K s1:=by
 obtain ⟨dst,op,ty,pos,after,guard⟩:=o;unfold gJ at hs;simp only [Bool.and_eq_true] at hs;obtain ⟨hdst,hs⟩:=hs;cases op <;> try (simp only [Bool.false_eq_true] at hs; done)
 case buildSlice t len parts =>
  simp only [bY] at h ⊢;obtain ⟨h1,h2,h3⟩:=h;obtain ⟨q1,av,hb,blk,q2,q3,q4⟩:=FV (K':=fun av m=>K' (s.set ⟨dst,.buildSlice t len parts,ty,pos,after,guard⟩ true av m)) h3 (fun av hb blk hd hal hk=>hK _ (rC hd hal) hk);exact ⟨⟨h1,h2,q1⟩,_,rC q2 q3,q4⟩
 case call cl =>
  obtain ⟨callee,args,argTypes⟩:=cl;cases callee with
  | invoke r mt=>simp only [Bool.false_eq_true] at hs
  | builtin b =>
   cases b <;> try (simp only [Bool.false_eq_true] at hs; done)
   case append =>
    simp only [bY] at h ⊢;cases hx:args.toList with
    | nil=>rw [hx] at h; exact h.elim
    | cons x l =>
     cases l with
     | nil=>rw [hx] at h; exact h.elim
     | cons y l =>
      cases l with
      | cons=>rw [hx] at h; exact h.elim
      | nil =>
       cases ht:argTypes.toList with
       | nil=>rw [hx,ht] at h; exact h.elim
       | cons t l =>
        cases l with
        | nil=>rw [hx,ht] at h; exact h.elim
        | cons t2 l =>
         cases l with
         | cons=>rw [hx,ht] at h; exact h.elim
         | nil =>
          rw [hx,ht] at h;simp only [] at h ⊢;obtain ⟨h1,h2,h3,h4,h5⟩:=h;obtain ⟨q1,av,hb,blk,q2,q3,q4⟩:=EQ (K':=fun av m=>K' (s.set ⟨dst,.call ⟨.builtin .append,args,argTypes⟩,ty,pos,after,guard⟩ true av m)) h5 (fun av hb blk hd hal hk=>hK _ (rC hd hal) hk);exact ⟨⟨h1,h2,h3,h4,q1⟩,_,rC q2 q3,q4⟩
  | value fv =>
   cases fv with
   | func f =>
    simp only [bY,St.fn,St.val] at h ⊢;cases hk:cs f with
    | none=>simp only [hk,Bool.false_eq_true] at hs
    | some k =>
     simp only [hk] at h hs ⊢;simp only [Bool.not_eq_true'] at hs;simp only [hs,Bool.false_eq_true,if_false] at h ⊢;simp only [lC,St.fn,St.val,hk] at h ⊢;cases hw:cS ops ⟨dst,.call ⟨.value (.func f),args,argTypes⟩,ty,pos,after,guard⟩ s with
     | none=>rw [hw] at h; exact h.elim
     | some g =>
      rw [hw] at h;simp only [] at h ⊢;obtain ⟨h1,h2⟩:=h;have hnb:gB cs ⟨dst,.call ⟨.value (.func f),args,argTypes⟩,ty,pos,after,guard⟩=k.nob:=by simp only [gB,hk]
      have hbt:gW cs ⟨dst,.call ⟨.value (.func f),args,argTypes⟩,ty,pos,after,guard⟩=k.bty:=by simp only [gW,hk]
      rw [hnb,hbt] at hK ⊢;obtain ⟨q1,av,m,q2,q3⟩:=D7 (hcs f k hk) (K':=fun av m=>K' (s.set ⟨dst,.call ⟨.value (.func f),args,argTypes⟩,ty,pos,after,guard⟩ g av m)) h2 (fun av m hf hk=>hK _ hf hk);exact ⟨⟨h1,q1⟩,_,q2,q3⟩
   | tmp=>simp only [Bool.false_eq_true] at hs
   | const=>simp only [Bool.false_eq_true] at hs
   | global=>simp only [Bool.false_eq_true] at hs
omit hcs in
theorem r9 {o:Oper} {s:St} {K:St->Prop} {δ:Dl} (hs:gJ cs o=true) (hf:δ.free s.m) (ho:δ.off ops o) (hd:∀ d b,δ.put=some (d,b) -> ∀ j,j < 16->d ≠ Oper.hnd o+j)
  (hal:∀ x ∈ o.op.operands,alive s.m (s.val x)):bY T cs n ops o (s.add δ) K ↔ bY T cs n ops o s fun s1=>K (s1.add δ):=by
 have hd0:∀ d b,δ.put=some (d,b)->d ≠ Oper.hnd o:=fun d b h=>by simpa using hd d b h 0 (by omega)
 have hoff:∀ t,δ.t=some t->o.dst ≠ some t:=fun t ht=>(ho t ht).2;obtain ⟨dst,op,ty,pos,after,guard⟩:=o;unfold gJ at hs;simp only [Bool.and_eq_true] at hs;obtain ⟨hdst,hs⟩:=hs;cases op <;> try (simp only [Bool.false_eq_true] at hs; done)
 case buildSlice t len parts =>
  simp only [bY];rw [FU (δ:=δ) hf hd0 fun p hp=>?_]
  ·simp only [oD hoff]
  ·have hx:p.2 ∈ (Op.buildSlice t len parts).operands:=by simp [Op.operands]; exact ⟨p.1,by simpa using hp⟩
   exact ⟨(cr ho hx).1,(cr ho hx).2,hal _ hx⟩
 case call cl =>
  obtain ⟨callee,args,argTypes⟩:=cl;cases callee with
  | invoke r mt=>simp only [Bool.false_eq_true] at hs
  | builtin b =>
   cases b <;> try (simp only [Bool.false_eq_true] at hs; done)
   case append =>
    simp only [bY];cases hx:args.toList with
    | nil=>exact Iff.rfl
    | cons x l =>
     cases l with
     | nil=>exact Iff.rfl
     | cons y l =>
      cases l with
      | cons=>exact Iff.rfl
      | nil =>
       cases ht:argTypes.toList with
       | nil=>exact Iff.rfl
       | cons t l =>
        cases l with
        | nil=>exact Iff.rfl
        | cons t2 l =>
         cases l with
         | cons=>exact Iff.rfl
         | nil =>
          simp only [];have ea:args = #[x,y]:=by apply Array.ext'; simpa using hx
          have mx:x ∈ (Op.call ⟨.builtin .append,args,argTypes⟩).operands:=by subst ea; simp [Op.operands,Call.operands]
          have my:y ∈ (Op.call ⟨.builtin .append,args,argTypes⟩).operands:=by subst ea; simp [Op.operands,Call.operands]
          have e1:=cr (s:=s) ho mx;have e2:=cr (s:=s) ho my;rw [e1.1,e1.2,e2.1,e2.2,EP (δ:=δ) hf hd0 (hal x mx) (hal y my)];simp only [oD hoff]
  | value fv =>
   cases fv with
   | func f =>
    simp only [bY,St.fn,St.val];cases hk:cs f with
    | none=>exact Iff.rfl
    | some k =>
     simp only [hk] at hs ⊢;simp only [Bool.not_eq_true'] at hs;simp only [hs,Bool.false_eq_true,if_false];simp only [lC,St.fn,St.val,hk];rw [se ho];cases hw:cS ops ⟨dst,.call ⟨.value (.func f),args,argTypes⟩,ty,pos,after,guard⟩ s with
     | none=>exact Iff.rfl
     | some g =>
      simp only [];have hm:∀ x ∈ args.toList,x ∈ (Op.call ⟨.value (.func f),args,argTypes⟩).operands:=fun x hx=>by simp [Op.operands,Call.operands]; exact .inr (by simpa using hx)
      have e1:args.toList.map (s.add δ).val=args.toList.map s.val:=List.map_congr_left fun x hx=>(cr ho (hm x hx)).1;have e2:args.toList.all (s.add δ).cond=args.toList.all s.cond:=by
       rw [Bool.eq_iff_iff,List.all_eq_true,List.all_eq_true];exact forall_congr' fun x=>imp_congr_right fun hx=>by rw [(cr ho (hm x hx)).2]
      have e3:(s.add δ).cond (.func f)=s.cond (.func f):=rfl;rw [e1,e2,e3];have:=D6 (k:=k) (guarded:=guard.isSome) (g:=g) (d:=Oper.hnd ⟨dst,.call ⟨.value (.func f),args,argTypes⟩,ty,pos,after,guard⟩) (us:=args.toList.map s.val++[]) (conds:=args.toList.all s.cond && s.cond (.func f)) (s:=s)
       (K:=fun av m=>K ((s.add δ).set ⟨dst,.call ⟨.value (.func f),args,argTypes⟩,ty,pos,after,guard⟩ g av m)) (δ:=δ) hf hd (fun u hu=>by
        simp only [List.append_nil,List.mem_map] at hu;obtain ⟨x,hx,rfl⟩:=hu;exact hal x (hm x hx))
      refine and_congr Iff.rfl ?_;refine Iff.trans this ?_;simp only [oD hoff];exact Iff.rfl
   | tmp=>simp only [Bool.false_eq_true] at hs
   | const=>simp only [Bool.false_eq_true] at hs
   | global=>simp only [Bool.false_eq_true] at hs
end
def f7 (s:St) (o:Oper):Bool:=o.op.operands.toList.all fun x=>(s.val x).hs.all fun h=>(s.m h).isSome
theorem alOps_iff {s:St} {o:Oper}:f7 s o=true ↔ ∀ x ∈ o.op.operands,alive s.m (s.val x):=by
 unfold f7 alive;simp only [List.all_eq_true,Array.mem_toList_iff]
def lz (cs:Nat->Option Con) (cl:List Nat) (ops:Array Oper) (o:Oper) (s:St):Prop:=ops.size ∈ cl->ldB (gh cs ops) o s=true
theorem ldB_iff {B:List Nat} {o:Oper} {s:St}:ldB B o s=true ↔ (isLoad o=true -> ∀ x ∈ o.op.operands,∀ h ∈ (s.val x).hs,(s.m h).isSome=true /\ ∀ ty vs,s.m h=some (.box ty vs)->ty ∉ B):=by
 obtain ⟨dst,op,ty,pos,after,guard⟩:=o;cases op <;> try (simp [ldB,isLoad]; done)
 case load t p =>
  simp only [ldB,isLoad,List.all_eq_true,forall_const,Op.operands];constructor
  ·intro h x hx g hg;obtain rfl:x=p:=by simpa using hx
   have:=h g hg;cases hm:s.m g with
   | none=>rw [hm] at this; cases this
   | some blk =>
    refine ⟨rfl,fun ty vs e=>?_⟩;cases e;rw [hm] at this
    simpa using this
  ·intro h g hg;obtain ⟨h1,h2⟩:=h p (by simp) g hg
   cases hm:s.m g with
   | none=>rw [hm] at h1; cases h1
   | some blk =>
    cases blk with
    | box ty vs=>simpa using h2 ty vs hm
    | _=>rfl
theorem A9 {B bt:List Nat} {nob:Bool} {y o:Oper} {s s1:St} (hsub:∀ t ∈ bt,t ∈ B) (hor:nob=true \/ bt ≠ []) (F:Fr nob bt y s s1) (hv:∀ x ∈ o.op.operands,s1.val x=s.val x) (h:ldB B o s=true) :
  ldB B o s1=true/\(isLoad o=true -> ∀ x ∈ o.op.operands,∀ g ∈ (s.val x).hs,∀ ty vs,s.m g=some (.box ty vs)->s1.m g=some (.box ty vs)):=by
 have key:isLoad o=true -> ∀ x ∈ o.op.operands,∀ g ∈ (s.val x).hs,s1.m g=s.m g \/ (s1.m g=some .dead/\isOwn s.m g):=by
  intro hl x hx g hg;obtain ⟨h1,h2⟩:=ldB_iff.1 h hl x hx g hg;rcases hor with hn | hn
  ·exact F.box hn g h1
  ·rcases F.bx hn g h1 with e | e | ⟨ty,vs,ty',vs',e1,_,e3,_⟩
   ·exact .inl e
   ·exact .inr e
   ·exact absurd (hsub _ e3) (h2 ty vs e1)
 refine ⟨ldB_iff.2 fun hl x hx g hg=>?_,fun hl x hx g hg ty vs hm=>?_⟩
 ·rw [hv x hx] at hg;obtain ⟨h1,h2⟩:=ldB_iff.1 h hl x hx g hg;rcases key hl x hx g hg with e | ⟨e,_⟩
  ·rw [e]; exact ⟨h1,h2⟩
  ·rw [e]; exact ⟨rfl,fun ty vs e=>by cases e⟩
 ·rcases key hl x hx g hg with e | ⟨_,e⟩
  ·rw [e]; exact hm
  ·obtain ⟨_,_,_,_,e⟩:=e; rw [hm] at e; cases e
theorem KF {B bt:List Nat} {nob:Bool} {y o:Oper} {s s1:St} (hsub:∀ t ∈ bt,t ∈ B) (hor:nob=true \/ bt ≠ []) (F:Fr nob bt y s s1) (hv:∀ x ∈ o.op.operands,s1.val x=s.val x) (hal:∀ x ∈ o.op.operands,alive s.m (s.val x)) (h:ldB B o s1=true) :
  ldB B o s=true/\(isLoad o=true -> ∀ x ∈ o.op.operands,∀ g ∈ (s.val x).hs,∀ ty vs,s1.m g=some (.box ty vs)->s.m g=some (.box ty vs)):=by
 have key:isLoad o=true -> ∀ x ∈ o.op.operands,∀ g ∈ (s.val x).hs,s1.m g=s.m g \/ (s1.m g=some .dead/\isOwn s.m g):=by
  intro hl x hx g hg;have ha:=hal x hx g hg;obtain ⟨h1,h2⟩:=ldB_iff.1 h hl x hx g (by rw [hv x hx]; exact hg)
  rcases hor with hn | hn
  ·exact F.box hn g ha
  ·rcases F.bx hn g ha with e | e | ⟨ty,vs,ty',vs',_,e2,_,e4⟩
   ·exact .inl e
   ·exact .inr e
   ·exact absurd (hsub _ e4) (h2 ty' vs' e2)
 refine ⟨ldB_iff.2 fun hl x hx g hg=>?_,fun hl x hx g hg ty vs hm=>?_⟩
 ·obtain ⟨h1,h2⟩:=ldB_iff.1 h hl x hx g (by rw [hv x hx]; exact hg)
  refine ⟨hal x hx g hg,fun ty vs hm=>?_⟩;rcases key hl x hx g hg with e | ⟨_,e⟩
  ·rw [e] at h2; exact h2 ty vs hm
  ·obtain ⟨_,_,_,_,e⟩:=e; rw [hm] at e; cases e
 ·rcases key hl x hx g hg with e | ⟨e,_⟩
  ·rw [<- e]; exact hm
  ·rw [e] at hm; cases hm
theorem A8 {B:List Nat} {o:Oper} {s s':St} (hv:∀ x ∈ o.op.operands,s'.val x=s.val x) (hm:∀ x ∈ o.op.operands,∀ g ∈ (s.val x).hs,(s.m g).isSome=true->s'.m g=s.m g) (h:ldB B o s=true):ldB B o s'=true:=by
 refine ldB_iff.2 fun hl x hx g hg=>?_;rw [hv x hx] at hg;obtain ⟨h1,h2⟩:=ldB_iff.1 h hl x hx g hg;rw [hm x hx g hg h1];exact ⟨h1,h2⟩
theorem sJ {cs:Nat->Option Con} {ops:Array Oper} {i:Nat} {o:Oper} (h:ops[i]? = some o):∀ t ∈ gW cs o,t ∈ gh cs ops:=by
 intro t ht;unfold gh;rw [List.mem_flatMap];exact ⟨o,by rw [Array.mem_toList_iff]; exact Array.mem_of_getElem? h,ht⟩
def d8 (T:Nat->Option TI) (cs:Nat->Option Con) (n:Nat) (b:Bool) (ops:Array Oper) (o:Oper) (s:St) (K:St->Prop):Prop:=match b with
 | false=>bY T cs n ops o s K
 | true=>match o.op with
  | .call { callee:=.builtin .append,args,argTypes }=>match args.toList,argTypes.toList with
   | [x,_],[t,_]=>iY T x t (Oper.hnd o+1) (fun s1=>bY T cs n ops o s1 K) s
   | _,_=>False
  | _=>False
theorem gT (T:Nat->Option TI) (cs:Nat->Option Con) (n:Nat) (ops:Array Oper) (o:Oper) (s:St) (K:St->Prop):d8 T cs n false ops o s K=bY T cs n ops o s K:=rfl
theorem Eo {P:Program} {T:Nat->Option TI} (hT:∀ t ti,T t=some ti->TOk P t ti) {cs:Nat->Option Con} (hcs:∀ f k,cs f=some k->Has P f k) {c:Cx} (hkn:∀ f k,cs f=some k->Kn k.need c) {b ops o s K a w}
  {next:Act->World->Prop} {Q:Exit->Act->World->Prop} (h:d8 T cs c.n b ops o s K) (S0:Sat c s a w) (hK:∀ s' a' w',K s'->Sat c s' a' w'->next a' w') :
  if Region.wanted o (yielded ops a.tmps) then o.wp P a w next Q else next (a.put o.dst undef) w:=by
 unfold d8 at h;split at h
 ·exact lD hT hcs hkn h S0 hK
 ·split at h
  ·split at h
   ·obtain ⟨s1,h1,S1⟩:=Dz h S0;exact lD hT hcs hkn h1 S1 hK
   ·exact h.elim
  ·exact h.elim
def aV (T:Nat->Option TI) (cs:Nat->Option Con) (n:Nat) (cl:List Nat) (ops:Array Oper) (i:Nat) (s:St) (K:St->Prop):Prop :=
 match ops[i]? with
 | none=>False
 | some o=>if i ∈ cl then match aT T n ops s.m o s with
   | some (g,u)=>(u.pre/\lz cs cl ops o s)/\K (s.next o g u.av u.puts)
   | none=>False
  else f7 s o=true/\d8 T cs n (cl.contains (ops.size+1+i)) ops o s K
def iN (o:Oper):Bool:=match o.op with | .alloc _ | .box _ _ | .buildSlice _ _ _ | .makeSlice _ _ _=>true | _=>false
def kJ (cs:Nat->Option Con) (fl:Bool) (c a:Oper):Bool:=gJ cs a && (!isLoad c || (gB cs a || (fl && !(gW cs a).isEmpty)))
def nv (cs:Nat->Option Con) (cl:List Nat) (ops:Array Oper) (i j:Nat):Bool :=
 match ops[i]?,ops[j]? with
 | some x,some y=>x.apart ops y && (x.dst.isSome || !iN x) && (y.dst.isSome || !iN y) &&
   ((cl.contains i && cl.contains j) || (cl.contains i && kJ cs (cl.contains ops.size) x y) || (cl.contains j && kJ cs (cl.contains ops.size) y x))
 | _,_=>false
def comm (cs:Nat->Option Con) (cl:List Nat) (ops:Array Oper) (i j:Nat):Bool:=(!cl.contains (ops.size+1+i) && !cl.contains (ops.size+1+j)) && nv cs cl ops i j
theorem va {cs cl ops i j} (h:comm cs cl ops i j=true):cl.contains (ops.size+1+i)=false/\cl.contains (ops.size+1+j)=false/\nv cs cl ops i j=true:=by
 unfold comm at h;cases h1:cl.contains (ops.size+1+i) <;> cases h2:cl.contains (ops.size+1+j) <;> rw [h1,h2] at h <;> simp at h
 exact ⟨rfl,rfl,h⟩
theorem F8 {T g d m ρ o r} (h:calm T g d m ρ o=some r):r.puts=[] \/ iN o=true:=by
 obtain ⟨dst,op,ty,pos,after,guard⟩:=o;cases op <;> try exact .inr rfl
 all_goals refine .inl ?_
 all_goals unfold calm at h
 all_goals simp only [Out.of,kQ,kP,il,kR,lh,iF,kK] at h
 case call cl =>
  obtain ⟨callee,args,argTypes⟩:=cl;cases callee <;> (try simp only at h) <;> try (cases h; done)
  rename_i b;cases b <;> (try simp only at h) <;> (try simp only [kU,Out.of] at h) <;> try (cases h; done)
  all_goals repeat' split at h
  all_goals first | (cases h; done) | (cases h; rfl)
 case makeFunc fn first captured =>
  cases fn <;> simp only at h <;> try (cases h; done)
  split at h
  ·cases h; rfl
  ·cases h
 case slice t x lo hi mx =>
  cases mx <;> simp only at h <;> try (cases h; done)
  repeat' split at h
  all_goals first | (cases h; done) | (cases h; rfl)
 all_goals (try (cases h; done))
 all_goals (try (cases h; rfl; done))
 all_goals repeat' split at h
 all_goals first | (obtain ⟨_,rfl⟩:=sf h; rfl) | (cases h; done) | (cases h; rfl)
theorem i6 {T n ops mm o s g u} (h:aT T n ops mm o s=some (g,u)):u.puts=[] \/ (iN o=true /\ ∃ b,u.puts=[(Oper.hnd o,b)]):=by
 rcases D9 h with hp | hp
 ·exact .inl hp
 ·unfold aT at h;split at h
  ·cases h
  ·split at h
   ·split at h
    ·split at h
     ·cases h; exact .inl rfl
     ·cases h
    ·split at h
     ·rename_i r hr;cases h;rcases F8 hr with q | q
      ·exact .inl q
      ·exact .inr ⟨q,hp⟩
     ·cases h
   ·cases h
theorem x7 {T n ops mm o s g u} (h:aT T n ops mm o s=some (g,u)) (hp:u.pre):gy s.m u.puts:=by
 unfold aT at h;split at h
 ·cases h
 ·split at h
  ·split at h
   ·split at h
    ·cases h; trivial
    ·cases h
   ·split at h
    ·cases h; exact hp.2
    ·cases h
  ·cases h
theorem de {T n ops o s g u} (h:aT T n ops s.m o s=some (g,u)) (hp:u.pre):s.next o g u.av u.puts=s.add (dlt o g u)/\(dlt o g u).free s.m /\
  (∀ d b,(dlt o g u).put=some (d,b)->d=Oper.hnd o/\iN o=true):=by
 have hf:=x7 h hp;rcases i6 h with q | ⟨q1,b,q⟩
 ·refine ⟨BI (by rw [q]; simp),fun d b hd=>?_,fun d b hd=>?_⟩ <;> simp [dlt,q] at hd
 ·rw [q] at hf;refine ⟨BI (by rw [q]; simp),fun d b' hd=>?_,fun d b' hd=>?_⟩
  ·simp only [dlt,q,List.head?_cons,Option.some.injEq,Prod.mk.injEq] at hd;rw [<- hd.1]; exact hf
  ·simp only [dlt,q,List.head?_cons,Option.some.injEq,Prod.mk.injEq] at hd;exact ⟨hd.1.symm,q1⟩
theorem eu {ops:Array Oper} {x y:Oper} (h:x.apart ops y=true) {g u}:(dlt x g u).off ops y:=by
 obtain ⟨h1,h2,h3⟩:=Oper.apart_spec h;intro t ht;simp only [dlt] at ht;exact ⟨h1 t ht,h2 t ht⟩
theorem lG {ops:Array Oper} {x y:Oper} (h:x.apart ops y=true):y.apart ops x=true:=by
 obtain ⟨h1,h2,h3⟩:=Oper.apart_spec h;unfold Oper.apart;simp only [Bool.and_eq_true];refine ⟨?_,?_⟩
 ·cases hd:y.dst with
  | none=>rfl
  | some d =>
   simp only [Bool.and_eq_true,Bool.not_eq_true'];refine ⟨?_,?_⟩
   ·rw [Bool.eq_false_iff]; simp; exact h3 d hd
   ·simp; intro e; exact h2 d e hd
 ·cases hd:x.dst with
  | none=>rfl
  | some d =>
   simp only [Bool.not_eq_true'];rw [Bool.eq_false_iff]; simp; exact h1 d hd
theorem l8 {x y:Oper} {ops:Array Oper} (h:x.apart ops y=true) (hx:x.dst.isSome=true) (hy:y.dst.isSome=true):∀ j,j < 16->Oper.hnd x ≠ Oper.hnd y+j:=by
 obtain ⟨h1,h2,h3⟩:=Oper.apart_spec h;obtain ⟨a,ha⟩:=Option.isSome_iff_exists.1 hx;obtain ⟨b,hb⟩:=Option.isSome_iff_exists.1 hy;have hne:(a:Nat) ≠ b:=by intro e; subst e; exact h2 a ha hb
 intro j hj;unfold Oper.hnd;rw [ha,hb];have key:∀ a b j:Nat,a ≠ b->j < 16->a * 16 ≠ b * 16+j:=by intro a b j h1 h2; omega
 exact key a b j hne hj
section
variable {P:Program} {T:Nat->Option TI} {cs:Nat->Option Con} (hcs:∀ f k,cs f=some k->Has P f k) {n:Nat} {ops:Array Oper} {cl:List Nat}
def Al (ops:Array Oper) (i:Nat) (s:St):Prop:=∀ o,ops[i]? = some o -> ∀ x ∈ o.op.operands,alive s.m (s.val x)
theorem rU {i:Nat} {s:St} {δ:Dl} (h:Al ops i s) (hf:δ.free s.m) (ho:∀ o,ops[i]? = some o -> δ.off ops o):Al ops i (s.add δ):=by
 intro o hoi x hx g hg;rw [(cr (ho o hoi) hx).1] at hg;have:=h o hoi x hx g hg;rw [f6 hf this]; exact this
theorem ly {o y:Oper} {s s1:St} {nob:Bool} {bt:List Nat} (h:Fr nob bt y s s1) (ha:y.apart ops o=true) :
  (∀ x ∈ o.op.operands,s1.val x=s.val x/\s1.cond x=s.cond x)/\cS ops o s1=cS ops o s:=by
 obtain ⟨h1,h2,h3⟩:=Oper.apart_spec ha;have he:∀ t,t ∈ o.looksAt ops->s1.e t=s.e t:=fun t ht=>h.e t fun e=>h1 t e ht;refine ⟨fun x hx=>?_,?_⟩
 ·cases x with
  | tmp t =>
   have:=he t (operand_looks hx);simp only [St.val,St.cond,this];exact ⟨trivial,trivial⟩
  | _=>exact ⟨rfl,rfl⟩
 ·unfold cS;cases hg:o.guard with
  | none=>rfl
  | some p =>
   obtain ⟨j,want⟩:=p;simp only;cases hd:(ops[j]?).bind (·.dst) with
   | none=>rfl
   | some t =>
    have:s1.e t=s.e t:=he t (by
     unfold Oper.looksAt;refine List.mem_append_right _ ?_;rw [hg]; simp [hd])
    simp only [this]
include hcs
theorem swap {i j:Nat} {s:St} {K:St->Prop} (hc:comm cs cl ops j i=true) (hal:Al ops i s) (h:aV T cs n cl ops j s fun s1=>aV T cs n cl ops i s1 K) :
  aV T cs n cl ops i s fun s1=>aV T cs n cl ops j s1 K:=by
 obtain ⟨hs1,hs2,hc⟩:=va hc;unfold nv at hc;cases hj:ops[j]? with
 | none=>rw [hj] at hc; cases hc
 | some oj =>
  cases hi:ops[i]? with
  | none=>rw [hj,hi] at hc; cases hc
  | some oi =>
   rw [hj,hi] at hc;simp only [Bool.and_eq_true,Bool.or_eq_true,List.contains_iff_mem] at hc;obtain ⟨⟨⟨hap,hdj⟩,hdi⟩,hcase⟩:=hc;have hap':=lG hap;have halx:∀ x ∈ oi.op.operands,alive s.m (s.val x):=hal oi hi;simp only [aV,hi,hj,hs1,hs2,gT] at h ⊢;have hlay:∀ {o:Oper},(o.dst.isSome=true \/ (!iN o)=true)->iN o=true->o.dst.isSome=true:=by
    intro o h1 h2;rcases h1 with h1 | h1
    ·exact h1
    ·rw [h2] at h1; cases h1
   by_cases hjc:j ∈ cl
   ·rw [if_pos hjc] at h;cases hcj:aT T n ops s.m oj s with
    | none=>rw [hcj] at h; exact h.elim
    | some p =>
     obtain ⟨gj,uj⟩:=p;rw [hcj] at h;simp only [] at h;obtain ⟨⟨hpj,hlj⟩,h⟩:=h;obtain ⟨e1,f1,p1⟩:=de hcj hpj;rw [e1] at h;have off1:=eu (g:=gj) (u:=uj) hap;by_cases hic:i ∈ cl
     ·rw [if_pos hic] at h ⊢;cases hci:aT T n ops (s.add (dlt oj gj uj)).m oi (s.add (dlt oj gj uj)) with
      | none=>rw [hci] at h; exact h.elim
      | some p =>
       obtain ⟨gi,ui⟩:=p;rw [hci] at h;simp only [] at h;obtain ⟨⟨hpi,hli⟩,hK⟩:=h;obtain ⟨e2,f2,p2⟩:=de hci hpi
       -- i at s
       obtain ⟨u',q1,q2,q3,q4⟩:=km (s':=s) hci (fun x hx=>⟨(cr off1 hx).1.symm,(cr off1 hx).2.symm⟩) (se off1).symm (fun _ x hx h hh ty vs hm=>by
        rw [(cr off1 hx).1] at hh
        rwa [f6 f1 (halx x hx h hh)] at hm)
       rw [q1];simp only [];have ff:∀ d b,(dlt oi gi ui).put=some (d,b)->s.m d=none:=by
        intro d b hd;have hfd:=f2 d b hd;obtain ⟨r1,r2⟩:=p2 d b hd;have hne:∀ d' b',(dlt oj gj uj).put=some (d',b')->d ≠ d':=by
         intro d' b' hd';obtain ⟨r3,r4⟩:=p1 d' b' hd';rw [r1,r3]
         simpa using l8 hap' (hlay hdi r2) (hlay hdj r4) 0 (by omega)
        rwa [sa hne] at hfd
       have hfree:gy s.m ui.puts:=by
        rcases i6 hci with q | ⟨_,b,q⟩
        ·rw [q]; trivial
        ·rw [q]; exact ff _ b (by simp [dlt,q])
       have hpu:u'.pre:=q4 hpi hfree;refine ⟨⟨hpu,fun hfl=>A8 (fun x hx=>(cr off1 hx).1.symm) (fun x hx g hg hs=>?_) (hli hfl)⟩,?_⟩
       ·rw [(cr off1 hx).1] at hg;rw [f6 f1 (halx x hx g hg)]
       have ed:dlt oi gi u'=dlt oi gi ui:=by simp only [dlt,q2,q3]
       obtain ⟨e3,f3,p3⟩:=de q1 hpu;rw [e3,ed];rw [ed] at f3;rw [if_pos hjc];have off2:=eu (g:=gi) (u:=ui) hap'
       -- j behind i
       obtain ⟨v',r1,r2,r3,r4⟩:=km (s':=s.add (dlt oi gi ui)) hcj (fun x hx=>⟨(cr off2 hx).1,(cr off2 hx).2⟩) (se off2) (fun _ x hx h hh ty vs hm=>by rw [f6 f3 (by rw [hm]; rfl)]; exact hm)
       rw [r1];simp only [];have hfree2:gy (s.add (dlt oi gi ui)).m uj.puts:=by
        rcases i6 hcj with q | ⟨ql,b,q⟩
        ·rw [q]; trivial
        ·rw [q]
         show (s.add (dlt oi gi ui)).m (Oper.hnd oj)=none
         have hd1:=f1 (Oper.hnd oj) b (by simp [dlt,q])
         rw [sa]
         ·exact hd1
         ·intro d' b' hd';obtain ⟨s1,s2⟩:=p2 d' b' hd';rw [s1]
          simpa using l8 hap (hlay hdj ql) (hlay hdi s2) 0 (by omega)
       have hpv:v'.pre:=r4 hpj hfree2;refine ⟨⟨hpv,fun hfl=>A8 (fun x hx=>(cr off2 hx).1) (fun x hx g hg hs=>f6 f3 hs) (hlj hfl)⟩,?_⟩;obtain ⟨e4,_,_⟩:=de r1 hpv;rw [e4];have ed2:dlt oj gj v'=dlt oj gj uj:=by simp only [dlt,r2,r3]
       rw [ed2];rw [e2] at hK;rw [add_comm (δ:=dlt oi gi ui) (ε:=dlt oj gj uj)]
       ·exact hK
       ·intro t ht ht';simp only [dlt] at ht ht';exact (Oper.apart_spec hap).2.1 t ht' ht
       ·intro d b d' b' hd hd';obtain ⟨s1,s2⟩:=p2 d b hd;obtain ⟨s3,s4⟩:=p1 d' b' hd';rw [s1,s3]
        simpa using l8 hap' (hlay hdi s2) (hlay hdj s4) 0 (by omega)
     ·rw [if_neg hic] at h ⊢;have hca:kJ cs (cl.contains ops.size) oj oi=true:=by
       rcases hcase with (⟨_,q⟩ | ⟨_,q⟩) | ⟨q,_⟩
       ·exact absurd q hic
       ·exact q
       ·exact absurd q hic
      unfold kJ at hca;simp only [Bool.and_eq_true,Bool.or_eq_true,List.contains_iff_mem,Bool.not_eq_true',List.isEmpty_eq_false_iff] at hca;obtain ⟨hsafe,hnb⟩:=hca;have hdi':oi.dst.isSome=true:=by
       unfold gJ at hsafe;simp only [Bool.and_eq_true] at hsafe;exact hsafe.1
      have hput:∀ d b,(dlt oj gj uj).put=some (d,b) -> ∀ k,k < 16->d ≠ Oper.hnd oi+k:=by
       intro d b hd k hk;obtain ⟨r1,r2⟩:=p1 d b hd;rw [r1];exact l8 hap (hlay hdj r2) hdi' k hk
      obtain ⟨_,h⟩:=h;rw [r9 hsafe f1 off1 hput halx] at h;refine ⟨alOps_iff.2 halx,?_⟩;refine (mO hcs hsafe h fun s1 hfr hK=>?_).1;rw [if_pos hjc];obtain ⟨l1,l2⟩:=ly hfr hap';have hkeep:ops.size ∈ cl->ldB (gh cs ops) oj s1=true/\(isLoad oj=true -> ∀ x ∈ oj.op.operands,∀ g ∈ (s.val x).hs,∀ ty vs,s.m g=some (.box ty vs)->s1.m g=some (.box ty vs)):=by
       intro hfl;by_cases hl:isLoad oj=true
       ·rcases hnb with hnb | hnb
        ·rw [hl] at hnb; cases hnb
        ·exact A9 (sJ hi) (hnb.imp id fun q=>q.2) hfr (fun x hx=>(l1 x hx).1) (hlj hfl)
       ·exact ⟨ldB_iff.2 fun q=>absurd q hl,fun q=>absurd q hl⟩
      obtain ⟨v',r1,r2,r3,r4⟩:=km (s':=s1) hcj l1 l2 (fun hl x hx h hh ty vs hm=>by
       rcases hnb with hnb | hnb | hnb
       ·rw [hl] at hnb; cases hnb
       ·rcases hfr.box hnb h (by rw [hm]; rfl) with e | ⟨_,e⟩
        ·rw [e]; exact hm
        ·obtain ⟨_,_,_,_,e⟩:=e; rw [hm] at e; cases e
       ·exact (hkeep hnb.1).2 hl x hx h hh ty vs hm)
      rw [r1];simp only [];have hfree2:gy s1.m uj.puts:=by
       rcases i6 hcj with q | ⟨ql,b,q⟩
       ·rw [q]; trivial
       ·rw [q];exact hfr.fresh _ (fun k hk=>l8 hap (hlay hdj ql) hdi' k hk) (f1 (Oper.hnd oj) b (by simp [dlt,q]))
      have hpv:v'.pre:=r4 hpj hfree2;refine ⟨⟨hpv,fun hfl=>(hkeep hfl).1⟩,?_⟩;obtain ⟨e4,_,_⟩:=de r1 hpv;have ed2:dlt oj gj v'=dlt oj gj uj:=by simp only [dlt,r2,r3]
      rw [e4,ed2];exact hK
   ·rw [if_neg hjc] at h;obtain ⟨halj0,h⟩:=h;have hic:i ∈ cl:=by
     rcases hcase with (⟨q,_⟩ | ⟨q,_⟩) | ⟨q,_⟩
     ·exact absurd q hjc
     ·exact absurd q hjc
     ·exact q
    have hca:kJ cs (cl.contains ops.size) oi oj=true:=by
     rcases hcase with (⟨q,_⟩ | ⟨q,_⟩) | ⟨_,q⟩
     ·exact absurd q hjc
     ·exact absurd q hjc
     ·exact q
    unfold kJ at hca;simp only [Bool.and_eq_true,Bool.or_eq_true,List.contains_iff_mem,Bool.not_eq_true',List.isEmpty_eq_false_iff] at hca;obtain ⟨hsafe,hnb⟩:=hca;have hdj':oj.dst.isSome=true:=by
     unfold gJ at hsafe;simp only [Bool.and_eq_true] at hsafe;exact hsafe.1
    simp only [if_pos hic,if_neg hjc] at h ⊢
    -- back from s1 to s,and on from s to any s1
    have hbk:∀ s1,Fr (gB cs oj) (gW cs oj) oj s s1->lz cs cl ops oi s1->ops.size ∈ cl->ldB (gh cs ops) oi s=true/\(isLoad oi=true -> ∀ x ∈ oi.op.operands,∀ g ∈ (s.val x).hs,∀ ty vs,s1.m g=some (.box ty vs)->s.m g=some (.box ty vs)):=by
     intro s1 hfr hl1 hfl;obtain ⟨l1,l2⟩:=ly hfr hap;by_cases hl:isLoad oi=true
     ·rcases hnb with hnb | hnb
      ·rw [hl] at hnb; cases hnb
      ·exact KF (sJ hj) (hnb.imp id fun q=>q.2) hfr (fun x hx=>(l1 x hx).1) halx (hl1 hfl)
     ·exact ⟨ldB_iff.2 fun q=>absurd q hl,fun q=>absurd q hl⟩
    have back:∀ s1,Fr (gB cs oj) (gW cs oj) oj s s1->lz cs cl ops oi s1 -> ∀ {g u},aT T n ops s1.m oi s1=some (g,u) -> ∃ u',aT T n ops s.m oi s=some (g,u')/\u'.av=u.av/\u'.puts=u.puts/\(u.pre->gy s.m u.puts->u'.pre):=by
     intro s1 hfr hl1 g u hcu;obtain ⟨l1,l2⟩:=ly hfr hap;refine km hcu (fun x hx=>⟨(l1 x hx).1.symm,(l1 x hx).2.symm⟩) l2.symm fun hl x hx h hh ty vs hm=>?_;rw [(l1 x hx).1] at hh;have hah:=halx x hx h hh;rcases hnb with hnb | hnb | hnb
     ·rw [hl] at hnb; cases hnb
     ·rcases hfr.box hnb h hah with e | ⟨e,_⟩
      ·rw [<- e]; exact hm
      ·rw [e] at hm; cases hm
     ·exact (hbk s1 hfr hl1 hnb.1).2 hl x hx h hh ty vs hm
    have forth:(ops.size ∈ cl->ldB (gh cs ops) oi s=true) -> ∀ s1,Fr (gB cs oj) (gW cs oj) oj s s1 -> ∀ {g u},aT T n ops s.m oi s=some (g,u) -> ∃ u',aT T n ops s1.m oi s1=some (g,u')/\u'.av=u.av/\u'.puts=u.puts:=by
     intro hls s1 hfr g u hcu;obtain ⟨l1,l2⟩:=ly hfr hap;obtain ⟨u',r1,r2,r3,_⟩:=km (s':=s1) hcu l1 l2 fun hl x hx h hh ty vs hm=>by
      rcases hnb with hnb | hnb | hnb
      ·rw [hl] at hnb; cases hnb
      ·rcases hfr.box hnb h (by rw [hm]; rfl) with e | ⟨_,e⟩
       ·rw [e]; exact hm
       ·obtain ⟨_,_,_,_,e⟩:=e; rw [hm] at e; cases e
      ·exact (A9 (sJ hj) (.inr hnb.2) hfr (fun x hx=>(l1 x hx).1) (hls hnb.1)).2 hl x hx h hh ty vs hm
     exact ⟨u',r1,r2,r3⟩
    obtain ⟨_,s1,hfr,hs1⟩:=mO (K':=fun _=>True) hcs hsafe h fun _ _ _=>trivial;cases hci:aT T n ops s1.m oi s1 with
    | none=>rw [hci] at hs1; exact hs1.elim
    | some p =>
     obtain ⟨gi,ui⟩:=p;rw [hci] at hs1;simp only [] at hs1;obtain ⟨⟨hpi,hli⟩,_⟩:=hs1;obtain ⟨u',q1,q2,q3,q4⟩:=back s1 hfr hli hci;have hls:ops.size ∈ cl->ldB (gh cs ops) oi s=true:=fun hfl=>(hbk s1 hfr hli hfl).1;have hfree:gy s.m ui.puts:=by
      have hf1:=x7 hci hpi;rcases i6 hci with q | ⟨_,b,q⟩
      ·rw [q]; trivial
      ·rw [q] at hf1 ⊢
       show s.m (Oper.hnd oi)=none
       cases hm:s.m (Oper.hnd oi) with
       | none=>rfl
       | some b' =>
        have:=hfr.some_ (Oper.hnd oi) (by rw [hm]; rfl)
        rw [show s1.m (Oper.hnd oi)=none from hf1] at this
        cases this
     have hpu:=q4 hpi hfree;rw [q1];simp only [];refine ⟨⟨hpu,hls⟩,?_⟩;obtain ⟨e1,f1,p1⟩:=de q1 hpu;rw [e1];have off1:=eu (g:=gi) (u:=u') hap';have halj:∀ x ∈ oj.op.operands,alive s.m (s.val x):=alOps_iff.1 halj0;refine ⟨alOps_iff.2 fun x hx=>?_,(r9 hsafe f1 off1 (fun d b hd k hk=>?_) halj).2 ?_⟩
     ·intro g hg;rw [(cr off1 hx).1] at hg;have:=halj x hx g hg;rw [f6 f1 this]; exact this
     ·obtain ⟨r1,r2⟩:=p1 d b hd;rw [r1];exact l8 hap' (hlay hdi r2) hdj' k hk
     ·refine (mO hcs hsafe h fun s2 hfr2 hs2=>?_).1;obtain ⟨v',r1,r2,r3⟩:=forth hls s2 hfr2 q1;rw [r1] at hs2;simp only [] at hs2;obtain ⟨⟨hp2,_⟩,hK⟩:=hs2;obtain ⟨e4,_,_⟩:=de r1 hp2;have ed2:dlt oi gi v'=dlt oi gi u':=by simp only [dlt,r2,r3]
      rw [e4,ed2] at hK;exact hK
end
def AV.sgl:AV->Bool
 | .agg _=>false
 | .clo _ _=>false
 | .tup _=>false
 | _=>true
theorem Qx {m:Nat->Option Blk} {v:AV} (h:v.sgl=true):v.wipe m=v.wipe1 m:=by cases v <;> first | rfl | cases h
def cE (o:Oper) (s:St):Bool:=match o.op,o.guard with
 | .load _ x,none=>match s.val x with
  | .ptr h _=>match s.m h with
   | some (.box _ vs)=>vs.all AV.sgl
   | _=>false
  | _=>false
 | .move x,none=>match s.val x with
  | .int _ _=>true
  | _=>false
 | _,_=>false
theorem sI {o:Oper} {s:St} (h:cE o s=true):iN o=false:=by
 obtain ⟨dst,op,ty,pos,after,guard⟩:=o;cases op <;> first | rfl | (cases guard <;> cases h)
theorem yO {o:Oper} {s:St} (h:cE o s=true) {x:Operand} (hx:x ∈ o.op.operands):(∃ hh off,s.val x = .ptr hh off) \/ ∃ k n,s.val x = .int k n:=by
 obtain ⟨dst,op,ty,pos,after,guard⟩:=o;cases op <;> try (cases guard <;> cases h; done)
 case load t p =>
  cases guard <;> try (cases h; done)
  obtain rfl:x=p:=by simpa [Op.operands] using hx
  unfold cE at h;simp only at h;cases hp:s.val x <;> rw [hp] at h <;> first | exact .inl ⟨_,_,rfl⟩ | cases h
 case move p =>
  cases guard <;> try (cases h; done)
  obtain rfl:x=p:=by simpa [Op.operands] using hx
  unfold cE at h;simp only at h;cases hp:s.val x <;> rw [hp] at h <;> first | exact .inr ⟨_,_,rfl⟩ | cases h
theorem Bo {T:Nat->Option TI} {n:Nat} {ops:Array Oper} {o:Oper} {s s1:St} {g:Bool} {u:Out} {M:Nat->Option Blk} (h:aT T n ops s.m o s=some (g,u)) (hb:cE o s=true)
  (hv:∀ x ∈ o.op.operands,s1.val x=(s.val x).wipe M/\s1.cond x=s.cond x) (hm:∀ h ty vs,s.m h=some (.box ty vs)->s1.m h=some (.box ty (vs.map (AV.wipe1 M)))) :
  ∃ u',aT T n ops s1.m o s1=some (g,u')/\u'.av=u.av.wipe M/\u'.puts=[]/\u.puts=[]/\(u.pre->u'.pre):=by
 obtain ⟨dst,op,ty,pos,after,guard⟩:=o;cases op <;> try (cases guard <;> cases hb; done)
 case move x =>
  cases guard <;> try (cases hb; done)
  have hx:=hv x (by simp [Op.operands])
  unfold cE at hb;simp only at hb;cases hp:s.val x <;> rw [hp] at hb <;> try (cases hb; done)
  rename_i k z;rw [hp] at hx;obtain ⟨hx1,hx2⟩:=hx;have hx1:s1.val x = .int k z:=hx1;unfold aT cS at h ⊢;simp only at h ⊢;by_cases hd:cW n ⟨dst,.move x,ty,pos,after,none⟩=true
  ·rw [if_pos hd] at h ⊢;simp only [calm,hp,hx1,Out.of,Option.some.injEq,Prod.mk.injEq] at h ⊢;obtain ⟨rfl,rfl⟩:=h;refine ⟨_,⟨rfl,rfl⟩,rfl,rfl,rfl,?_⟩;rintro ⟨q1,_⟩;refine ⟨fun hg=>?_,trivial⟩;have:=q1 hg
   simpa [Op.operands,hx2] using this
  ·rw [if_neg hd] at h; cases h
 case load t x =>
 cases guard <;> try (cases hb; done)
 have hx:=hv x (by simp [Op.operands])
 unfold cE at hb;simp only at hb;cases hp:s.val x <;> rw [hp] at hb <;> try (cases hb; done)
 rename_i hh off;simp only at hb;cases hmm:s.m hh with
 | none=>rw [hmm] at hb; cases hb
 | some blk =>
  rw [hmm] at hb;cases blk <;> try (cases hb; done)
  rename_i ty' vs;simp only at hb;have h1:=hm hh ty' vs hmm;rw [hp] at hx;obtain ⟨hx1,hx2⟩:=hx;have hx1:s1.val x = .ptr hh off:=hx1;unfold aT cS at h ⊢;simp only at h ⊢;by_cases hd:cW n ⟨dst,.load t x,ty,pos,after,none⟩=true
  ·rw [if_pos hd] at h ⊢;simp only [calm,hp,hx1,il,hmm,h1] at h ⊢;cases hT:T t with
   | none=>rw [hT] at h; cases h
   | some ti =>
    rw [hT] at h;simp only [List.length_map] at h ⊢;by_cases ha:ti.agg=true
    ·rw [if_pos ha] at h ⊢;by_cases hl:off+ti.cells.length<=vs.length
     ·rw [if_pos hl] at h ⊢;simp only [Out.of,Option.some.injEq,Prod.mk.injEq] at h;obtain ⟨rfl,rfl⟩:=h;refine ⟨_,rfl,?_,rfl,rfl,?_⟩
      ·simp only [AV.wipe,AV.wipeV];rw [List.map_take,List.map_drop]
      ·rintro ⟨q1,_⟩;refine ⟨fun hg=>?_,trivial⟩;have:=q1 hg
       simpa [Op.operands,hx2] using this
     ·rw [if_neg hl] at h; cases h
    ·rw [if_neg ha] at h ⊢;cases hvo:vs[off]? with
     | none=>rw [hvo] at h; cases h
     | some v =>
      rw [hvo] at h;simp only [Out.of,Option.some.injEq,Prod.mk.injEq] at h;obtain ⟨rfl,rfl⟩:=h;rw [List.getElem?_map,hvo];refine ⟨_,rfl,?_,rfl,rfl,?_⟩
      ·exact (Qx (List.all_eq_true.1 hb v (List.mem_of_getElem? hvo))).symm
      ·rintro ⟨q1,_⟩;refine ⟨fun hg=>?_,trivial⟩;have:=q1 hg
       simpa [Op.operands,hx2] using this
  ·rw [if_neg hd] at h; cases h
theorem Ae {m:Nat->Option Blk} {v:AV} {h:Nat} (hh:h ∈ (v.wipe1 m).hs):h ∈ v.hs:=by
 cases v with
 | own g k R =>
  have e:AV.wipe1 m (.own g k R)=match m g with | some (.own _ k true R)=>.own g k R | _=>.junk:=rfl
  rw [e] at hh;split at hh
  ·exact hh
  ·cases hh
 | sl e k r=>cases e <;> exact hh
 | bptr e ds=>cases e <;> exact hh
 | _=>first | exact hh | cases hh
theorem qv {m:Nat->Option Blk} {h:Nat}:∀ {vs:List AV},h ∈ AV.hs.hsL (vs.map (AV.wipe1 m))->h ∈ AV.hs.hsL vs
 | [],hh=>hh
 | v :: vs,hh=>by
  rw [List.map_cons,AV.hs.hsL,List.mem_append] at hh;rw [AV.hs.hsL,List.mem_append];exact hh.imp Ae qv
theorem Af {m:Nat->Option Blk} {v:AV} {h:Nat} (hh:h ∈ (v.wipeV m).hs):h ∈ v.hs:=by
 cases v with
 | agg vs=>exact qv (vs:=vs) hh
 | clo f vs=>exact qv (vs:=vs) hh
 | _=>exact Ae (m:=m) hh
theorem Ac {m:Nat->Option Blk} {h:Nat}:∀ {vs:List AV},h ∈ AV.hs.hsL (vs.map (AV.wipeV m))->h ∈ AV.hs.hsL vs
 | [],hh=>hh
 | v :: vs,hh=>by
  rw [List.map_cons,AV.hs.hsL,List.mem_append] at hh;rw [AV.hs.hsL,List.mem_append];exact hh.imp Af Ac
theorem Ad {m:Nat->Option Blk} {v:AV} {h:Nat} (hh:h ∈ (v.wipe m).hs):h ∈ v.hs:=by
 cases v with
 | tup vs=>exact Ac (vs:=vs) hh
 | _=>exact Af (m:=m) hh
theorem Ab {g h:Nat}:∀ {vs us:List AV},h ∈ AV.hs.hsL (jA g vs us)->h=g \/ h ∈ AV.hs.hsL us
 | [],us,hh=>.inr (by cases us <;> exact hh)
 | v :: vs,[],hh=>.inr (by cases v <;> exact hh)
 | v :: vs,u :: us,hh=>by
  have key:∀ {l:List AV},(l=jA g vs us)->h ∈ u.hs \/ h ∈ AV.hs.hsL l->h=g \/ h ∈ AV.hs.hsL (u :: us):=fun hl q=>by
   subst hl;rw [AV.hs.hsL,List.mem_append];rcases q with q | q
   ·exact .inr (.inl q)
   ·exact (Ab q).imp id .inr
  cases v with
  | sub h' i j k rows =>
   have hh:h ∈ AV.hs.hsL (.own g k rows :: us):=hh;rw [AV.hs.hsL,List.mem_append] at hh;rcases hh with hh | hh
   ·exact .inl (by simpa [AV.hs] using hh)
   ·exact .inr (by rw [AV.hs.hsL,List.mem_append]; exact .inr hh)
  | _ =>
   refine key rfl ?_;exact List.mem_append.1 hh
theorem H0 {m:Nat->Option Blk} {v:AV} {g h:Nat} (hh:h ∈ (v.stolen g (v.wipe m)).hs):h=g \/ h ∈ v.hs:=by
 cases v with
 | agg vs=>exact (Ab (vs:=vs) hh).imp id fun q=>qv (vs:=vs) q
 | sub h' i j k rows=>exact .inl (by simpa [AV.stolen,AV.hs] using hh)
 | _=>exact .inr (Ad (m:=m) hh)
theorem xS {e:Nat->Option (Bool × AV)} {M:Nat->Option Blk} {t:Nat} {g:Bool} {av:AV}:(fun x=>(upd e t (some (g,av)) x).map fun p=>(p.1,p.2.wipe M))=upd (fun x=>(e x).map fun p=>(p.1,p.2.wipe M)) t (some (g,av.wipe M)):=by
 funext x
 unfold upd;split <;> rfl
theorem O7 {te:TI} {q g:Nat} {s:St} {K:St->Prop} {δ:Dl} (hput:δ.put=none) (ht:δ.t ≠ some q) (h:fV te q g (s.add δ) K) :
  fV te q g s fun s1=>(s1=s/\K (s.add δ)) \/ ∃ M:Nat->Option Blk,(∀ t,t ≠ q->s1.e t=(s.e t).map fun p=>(p.1,p.2.wipe M))/\(∀ h ty vs,s.m h=some (.box ty vs)->s1.m h=some (.box ty (vs.map (AV.wipe1 M))))/\(∀ h,(s.m h).isSome=true->(s1.m h).isSome=true)/\(s1.m g).isSome=true/\(∃ v,s.e q=some (true,v)/\s1.e q=some (true,v.stolen g (v.wipe M)))/\K (s1.add ⟨δ.t,δ.g,δ.av.wipe M,none⟩):=by
 have hm:(s.add δ).m=s.m:=by unfold St.add; rw [hput]
 have he:(s.add δ).e q=s.e q:=by
  unfold St.add;cases hd:δ.t with
  | none=>rfl
  | some t =>
   have:q ≠ t:=fun e=>ht (by rw [hd,e])
   simp only [upd_ne _ _ this]
 unfold fV at h ⊢;rw [he,hm] at h;split at h
 ·rename_i v hv;split at h
  ·rename_i e' hh i j k rows hs;split at h
   ·rename_i e k0 R hmm;obtain ⟨h1,h2⟩:=h;simp only [hv,hs,hmm];refine ⟨h1,.inr ⟨cG s.m hh e k0 R i j .junk g e' k rows,fun t htq=>?_,fun h ty vs hb=>?_,?_,?_,?_,?_⟩⟩
    ·simp only [upd_ne _ _ htq,St.wipe]
    ·have g1:h ≠ g:=fun e=>by rw [e,h1.2.2.2] at hb; cases hb
     have g2:h ≠ hh:=fun e=>by rw [e,hmm] at hb; cases hb
     simp only [St.wipe,cG,upd_ne _ _ g1,upd_ne _ _ g2,hb,Option.map_some,Blk.wipe]
    ·intro h hsm;simp only [St.wipe,cG,Option.isSome_map];unfold upd;split
     ·rfl
     ·split
      ·rfl
      ·exact hsm
    ·simp only [St.wipe,cG,Option.isSome_map,upd_same,Option.isSome_some]
    ·exact ⟨v,rfl,upd_same _ _ _⟩
    ·generalize hM:cG s.m hh e k0 R i j .junk g e' k rows=M at h2 ⊢;have hse:(⟨upd ((s.add δ).wipe M).e q (some (true,v.stolen g (v.wipe M))),((s.add δ).wipe M).m⟩:St)=St.add ⟨upd (s.wipe M).e q (some (true,v.stolen g (v.wipe M))),(s.wipe M).m⟩ ⟨δ.t,δ.g,δ.av.wipe M,none⟩:=by
      unfold St.add St.wipe;rw [hput];simp only;cases hd:δ.t with
      | none=>rfl
      | some t =>
       have htq:t ≠ q:=fun e=>ht (by rw [hd,e])
       simp only [St.mk.injEq,and_true];rw [xS]
       funext x
       unfold upd;by_cases hx1:x=q
       ·subst hx1; simp [Ne.symm htq]
       ·simp [hx1]
     rw [hse] at h2;exact h2
   ·rename_i hno;simp only [hv,hs];exact .inl ⟨trivial,h⟩
  ·rename_i hs;simp only [hv,hs];exact .inl ⟨trivial,h⟩
 ·rename_i hno;exact .inl ⟨rfl,h⟩
theorem EA {s s1:St} {q g:Nat} {M:Nat->Option Blk} (he:∀ t,t ≠ q->s1.e t=(s.e t).map fun p=>(p.1,p.2.wipe M)) (hk:∀ h,(s.m h).isSome=true->(s1.m h).isSome=true) (hg:(s1.m g).isSome=true)
  (hq:∃ v,s.e q=some (true,v)/\s1.e q=some (true,v.stolen g (v.wipe M))) {x:Operand} (hx:alive s.m (s.val x)):alive s1.m (s1.val x):=by
 intro h hh;cases x with
 | tmp t =>
  by_cases e:t=q
  ·subst e;obtain ⟨v,h1,h2⟩:=hq;simp only [St.val,h1,h2] at hx hh;rcases H0 hh with rfl | hv
   ·exact hg
   ·exact hk h (hx h hv)
  ·simp only [St.val,he t e] at hx hh;cases ht:s.e t with
   | none=>rw [ht] at hh; cases hh
   | some p =>
    rw [ht] at hx hh;exact hk h (hx h (Ad hh))
 | _=>exact hk h (hx h hh)
theorem O8 {te:TI} {q g:Nat} {s:St} {K K':St->Prop} (h:fV te q g s K) (hK:∀ s1,K s1->K' s1):fV te q g s K':=by
 unfold fV at h ⊢;split at h
 ·split at h
  ·split at h
   ·exact ⟨h.1,hK _ h.2⟩
   ·exact hK _ h
  ·exact hK _ h
 ·exact hK _ h
theorem En {T:Nat->Option TI} {cs:Nat->Option Con} {n:Nat} {ops:Array Oper} {o:Oper} {s:St} {K:St->Prop} (h:d8 T cs n true ops o s K) :
  ∃ x t,x ∈ o.op.operands /\ ∀ s K,d8 T cs n true ops o s K=iY T x t (Oper.hnd o+1) (fun s1=>bY T cs n ops o s1 K) s:=by
 obtain ⟨dst,op,ty,pos,after,guard⟩:=o;unfold d8 at h;simp only at h;split at h
 ·rename_i args argTypes;split at h
  ·rename_i x y t u ha ht;refine ⟨x,t,?_,fun s K=>?_⟩
   ·have:x ∈ args.toList:=by rw [ha]; simp
    simpa [Op.operands,Call.operands] using this
   ·unfold d8;simp only [ha,ht]
  ·exact h.elim
 ·exact h.elim
theorem sH {o:Oper} {s s1:St} (hv:∀ x ∈ o.op.operands,s1.val x=s.val x) (hm:∀ x ∈ o.op.operands,∀ h ∈ (s.val x).hs,∀ ty vs,s.m h=some (.box ty vs)->s1.m h=some (.box ty vs)) (hb:cE o s=true):cE o s1=true:=by
 obtain ⟨dst,op,ty,pos,after,guard⟩:=o;cases op <;> try (cases guard <;> cases hb; done)
 case move x =>
  cases guard <;> try (cases hb; done)
  have hx:=hv x (by simp [Op.operands])
  unfold cE at hb ⊢;simp only at hb ⊢;rw [hx]; exact hb
 case load t x =>
 cases guard <;> try (cases hb; done)
 have hx:=hv x (by simp [Op.operands])
 have hmx:=hm x (by simp [Op.operands])
 unfold cE at hb ⊢;simp only at hb ⊢;rw [hx];cases hp:s.val x <;> rw [hp] at hb <;> try (cases hb; done)
 rename_i hh off;simp only at hb ⊢;cases hmm:s.m hh with
 | none=>rw [hmm] at hb; cases hb
 | some blk =>
  rw [hmm] at hb;cases blk <;> try (cases hb; done)
  rename_i ty' vs;rw [hmx hh (by rw [hp]; simp [AV.hs]) ty' vs hmm]
  exact hb
theorem OI {m:Nat->Option Blk} {v:AV} (h:v.sgl=true):(v.wipe1 m).sgl=true:=by
 cases v with
 | own g k R =>
  have e:AV.wipe1 m (.own g k R)=match m g with | some (.own _ k true R)=>.own g k R | _=>.junk:=rfl
  rw [e];split <;> rfl
 | sl e k r=>cases e <;> rfl
 | bptr e ds=>cases e <;> rfl
 | _=>first | rfl | cases h
theorem yP {o:Oper} {s s1:St} {M:Nat->Option Blk} (hv:∀ x ∈ o.op.operands,s1.val x=(s.val x).wipe M/\s1.cond x=s.cond x) (hm:∀ h ty vs,s.m h=some (.box ty vs)->s1.m h=some (.box ty (vs.map (AV.wipe1 M)))) (hb:cE o s=true):cE o s1=true:=by
 obtain ⟨dst,op,ty,pos,after,guard⟩:=o;cases op <;> try (cases guard <;> cases hb; done)
 case move x =>
  cases guard <;> try (cases hb; done)
  have hx:=(hv x (by simp [Op.operands])).1
  unfold cE at hb ⊢;simp only at hb ⊢;rw [hx];cases hp:s.val x <;> rw [hp] at hb <;> first | rfl | cases hb
 case load t x =>
 cases guard <;> try (cases hb; done)
 have hx:=(hv x (by simp [Op.operands])).1
 unfold cE at hb ⊢;simp only at hb ⊢;rw [hx];cases hp:s.val x <;> rw [hp] at hb <;> try (cases hb; done)
 rename_i hh off;simp only at hb;cases hmm:s.m hh with
 | none=>rw [hmm] at hb; cases hb
 | some blk =>
  rw [hmm] at hb;cases blk <;> try (cases hb; done)
  rename_i ty' vs;have h1:=hm hh ty' vs hmm
  show (match s1.m hh with | some (.box _ vs)=>vs.all AV.sgl | _=>false)=true
  rw [h1];simp only [List.all_map,List.all_eq_true] at hb ⊢;exact fun v hvm=>OI (hb v hvm)
section
variable {P:Program} {T:Nat->Option TI} {cs:Nat->Option Con} (hcs:∀ f k,cs f=some k->Has P f k) {n:Nat} {ops:Array Oper} {cl:List Nat}
include hcs
theorem rZ {i j:Nat} {s:St} {K K':St->Prop} (hc:comm cs cl ops j i=true) (hal:Al ops i s) (h:aV T cs n cl ops j s K) (hK:∀ s1,Al ops i s1->K s1->K' s1):aV T cs n cl ops j s K':=by
 obtain ⟨hs1,hs2,hc⟩:=va hc;unfold nv at hc;cases hj:ops[j]? with
 | none=>rw [hj] at hc; cases hc
 | some oj =>
  cases hi:ops[i]? with
  | none=>rw [hj,hi] at hc; cases hc
  | some oi =>
   rw [hj,hi] at hc;simp only [Bool.and_eq_true,Bool.or_eq_true,List.contains_iff_mem] at hc;obtain ⟨⟨⟨hap,hdj⟩,hdi⟩,hcase⟩:=hc;simp only [aV,hj,hs1,gT] at h ⊢;by_cases hjc:j ∈ cl
   ·rw [if_pos hjc] at h ⊢;cases hcj:aT T n ops s.m oj s with
    | none=>rw [hcj] at h; exact h.elim
    | some p =>
     obtain ⟨gj,uj⟩:=p;rw [hcj] at h;simp only [] at h ⊢;obtain ⟨hpj,h⟩:=h;obtain ⟨e1,f1,p1⟩:=de hcj hpj.1;refine ⟨hpj,hK _ ?_ h⟩;rw [e1];exact rU hal f1 fun o ho=>by
      rw [hi] at ho; cases ho
      exact eu hap
   ·rw [if_neg hjc] at h ⊢;obtain ⟨h1,h⟩:=h;have hsafe:gJ cs oj=true:=by
     rcases hcase with (⟨q,_⟩ | ⟨q,_⟩) | ⟨_,q⟩
     ·exact absurd q hjc
     ·exact absurd q hjc
     ·unfold kJ at q;simp only [Bool.and_eq_true] at q;exact q.1
    refine ⟨h1,(mO hcs hsafe h fun s1 hfr hk=>hK s1 ?_ hk).1⟩;intro o ho x hx g hg;rw [hi] at ho;cases ho;obtain ⟨l1,_⟩:=ly hfr hap;rw [(l1 x hx).1] at hg;exact hfr.some_ g (hal oi hi x hx g hg)
theorem ve {j:Nat} {s:St} {K:St->Prop} {oj oi:Oper} {gj:Bool} {uj:Out} (hj:ops[j]? = some oj) (hjc:j ∈ cl) (hfl:ops.size ∉ cl) (hap:oj.apart ops oi=true) (hsafe:gJ cs oi=true) (hnb:gB cs oi=true)
  (hcj:aT T n ops s.m oj s=some (gj,uj)) (hpj:uj.pre) (hpu:uj.puts=[]) (hld:cE oj s=true) (halx:∀ x ∈ oi.op.operands,alive s.m (s.val x)) (h:bY T cs n ops oi (s.add (dlt oj gj uj)) K) :
  bY T cs n ops oi s fun s1=>cE oj s1=true/\aV T cs n cl ops j s1 K:=by
 have hap':=lG hap;have hput0:(dlt oj gj uj).put=none:=by simp [dlt,hpu]
 have f1:(dlt oj gj uj).free s.m:=fun d b hd=>by rw [hput0] at hd; cases hd
 have off1:=eu (g:=gj) (u:=uj) hap;rw [r9 hsafe f1 off1 (fun d b hd=>by rw [hput0] at hd; cases hd) halx] at h
 refine (mO hcs hsafe h fun s1 hfr hK=>?_).1;obtain ⟨l1,l2⟩:=ly hfr hap';refine ⟨sH (fun x hx=>(l1 x hx).1) (fun x hx h hh ty vs hm=>by
  rcases hfr.box hnb h (by rw [hm]; rfl) with e | ⟨_,e⟩
  ·rw [e]; exact hm
  ·obtain ⟨_,_,_,_,e⟩:=e; rw [hm] at e; cases e) hld,?_⟩
 simp only [aV,hj,if_pos hjc];obtain ⟨v',r1,r2,r3,r4⟩:=km (s':=s1) hcj l1 l2 (fun hl x hx h hh ty vs hm=>by
  rcases hfr.box hnb h (by rw [hm]; rfl) with e | ⟨_,e⟩
  ·rw [e]; exact hm
  ·obtain ⟨_,_,_,_,e⟩:=e; rw [hm] at e; cases e)
 rw [r1];simp only [];have hpv:v'.pre:=r4 hpj (by rw [hpu]; trivial)
 refine ⟨⟨hpv,fun q=>absurd q hfl⟩,?_⟩;obtain ⟨e4,_,_⟩:=de r1 hpv;have ed2:dlt oj gj v'=dlt oj gj uj:=by simp only [dlt,r2,r3]
 rw [e4,ed2];exact hK
theorem Pk {i j:Nat} {s:St} {K:St->Prop} {oj oi:Oper} (hj:ops[j]? = some oj) (hi:ops[i]? = some oi) (hjc:j ∈ cl) (hic:i ∉ cl) (hmk:cl.contains (ops.size+1+i)=true) (hfl:ops.size ∉ cl) (hap:oj.apart ops oi=true)
  (hsafe:gJ cs oi=true) (hnb:gB cs oi=true) (hld:cE oj s=true) (hal:Al ops i s) (h:aV T cs n cl ops j s fun s1=>aV T cs n cl ops i s1 K):aV T cs n cl ops i s fun s1=>cE oj s1=true/\aV T cs n cl ops j s1 K:=by
 have halx:∀ x ∈ oi.op.operands,alive s.m (s.val x):=hal oi hi;have h0:=h;simp only [aV,hj,hi,if_pos hjc,if_neg hic,hmk] at h
 show (match ops[i]? with | none=>False | some o=>if i ∈ cl then _ else f7 s o=true/\d8 T cs n (cl.contains (ops.size+1+i)) ops o s fun s1=>cE oj s1=true/\aV T cs n cl ops j s1 K)
 simp only [hi,if_neg hic,hmk];cases hcj:aT T n ops s.m oj s with
 | none=>rw [hcj] at h; exact h.elim
 | some p =>
  obtain ⟨gj,uj⟩:=p;rw [hcj] at h;simp only [] at h;obtain ⟨⟨hpj,_⟩,_,h⟩:=h;obtain ⟨e1,f1,_⟩:=de hcj hpj;rw [e1] at h;have hpu:uj.puts=[]:=by
   rcases i6 hcj with q | ⟨q,_⟩
   ·exact q
   ·rw [sI hld] at q; cases q
  have off1:=eu (g:=gj) (u:=uj) hap;have hput0:(dlt oj gj uj).put=none:=by simp [dlt,hpu]
  obtain ⟨x,t,hx,heq⟩:=En h;rw [heq] at h ⊢;refine ⟨alOps_iff.2 halx,?_⟩;have core:=fun hh=>ve (K:=K) hcs hj hjc hfl hap hsafe hnb hcj hpj hpu hld halx hh;unfold iY at h ⊢;cases x with
  | tmp q =>
   simp only at h ⊢;rw [(cr off1 hx).1] at h;unfold mc at h ⊢;cases hsub:(s.val (.tmp q)).isSub with
   | false=>rw [hsub] at h; exact core h
   | true =>
    rw [hsub] at h;simp only at h ⊢;cases hT:T t with
    | none=>rw [hT] at h; exact core h
    | some ts =>
     rw [hT] at h;simp only at h ⊢;have hq:(dlt oj gj uj).t ≠ some q:=fun e=>(off1 q e).1 (operand_looks hx);refine O8 (O7 hput0 hq h) fun s1 hs1=>?_;rcases hs1 with ⟨rfl,hs1⟩ | ⟨M,m1,m2,m3,m4,m5,hs1⟩
     ·exact core hs1
     ·have hv:∀ x ∈ oj.op.operands,s1.val x=(s.val x).wipe M/\s1.cond x=s.cond x:=by
       intro y hy;have hp:=yO hld hy;have hyq:y ≠ .tmp q:=fun e=>by
        rw [e] at hp;rcases hp with ⟨_,_,hp⟩ | ⟨_,_,hp⟩ <;> (rw [hp] at hsub; cases hsub)
       have hw:(s.val y).wipe M=s.val y:=by rcases hp with ⟨_,_,hp⟩ | ⟨_,_,hp⟩ <;> (rw [hp]; rfl)
       cases y with
       | tmp p =>
        have hpq:p ≠ q:=fun e=>hyq (by rw [e])
        simp only [St.val,St.cond,m1 p hpq];cases s.e p with
        | none=>exact ⟨rfl,rfl⟩
        | some a=>exact ⟨rfl,rfl⟩
       | _=>exact ⟨hw.symm,rfl⟩
      obtain ⟨u',r1,r2,r3,_,r5⟩:=Bo hcj hld hv m2;have ed:(⟨(dlt oj gj uj).t,(dlt oj gj uj).g,(dlt oj gj uj).av.wipe M,none⟩:Dl)=dlt oj gj u':=by simp [dlt,r2,r3]
      rw [ed] at hs1;exact ve hcs hj hjc hfl hap hsafe hnb r1 (r5 hpj) r3 (yP hv m2 hld) (fun x hx=>EA m1 m3 m4 m5 (halx x hx)) hs1
  | _=>exact core h
def d6 (o:Oper) (s:St):Bool:=match o.op with
 | .call c=>(fu (c.args.toList.map s.val)).isNone
 | _=>false
def fH (cs:Nat->Option Con) (o:Oper):Bool:=o.dst.isSome && match o.op with
 | .call { callee:=.value (.func f),.. }=>match cs f with | some k=>k.mv && k.nob && decide (k.bld.1=0) | none=>false
 | _=>false
def eM (o:Oper):Bool:=match o.op with
 | .load _ _=>true
 | .move _=>true
 | _=>false
omit hcs in
theorem Jx {hs:List Nat} {m:Nat->Option Blk} {h:Nat} (hh:h ∉ hs):bz hs m h=m h:=by
 induction hs with
 | nil=>rfl
 | cons x hs ih =>
  simp only [List.mem_cons,not_or] at hh;simp only [bz,upd_ne _ _ hh.1,ih hh.2]
omit hcs in
theorem K9 {hs:List (Nat × Nat)} {owns:List (Nat × Nat × Nat × List (List D))} {d:Nat} {m:Nat->Option Blk} {lends:List Nat} {fin:List (Nat × Blk)} (hown:fO m hs owns) (hok:jV hs (owns.map (·.1))) (hf:jg hs d m lends fin)
  {h ty:Nat} {vs:List AV} (hm:m h=some (.box ty vs)):m2 hs d m fin h=some (.box ty vs):=by
 have h1:h ∉ hs.map (·.2):=fun hh=>by
  obtain ⟨p,hp,rfl⟩:=List.mem_map.1 hh;obtain ⟨q1,q2⟩:=hok.1 p hp;obtain ⟨⟨i',e',kk',R'⟩,hi',hpe⟩:=List.mem_map.1 q2;simp only at hpe;subst hpe;obtain ⟨g,r1,r2⟩:=nY hown hi';rw [q1] at r1;cases r1;rw [hm] at r2; cases r2
 show over (bz (hs.map (·.2)) m) (rho hs d) (fun _ b=>some b) fin h=_
 rw [cC,Jx h1,hm];rintro ⟨j,b⟩ hp he;obtain ⟨e,k,R,_,hq⟩:=nH hf hp;unfold rho at he;rcases hq with ⟨g,q1,_,R0,q2⟩ | ⟨q1,q2⟩
 ·simp only [q1] at he;subst he;rw [hm] at q2; cases q2
 ·simp only [q1] at he;rw [he,hm] at q2; cases q2
omit hcs in
theorem Qr {s:St} {δ:Dl} {M:Nat->Option Blk} (h:δ.put=none):(s.add δ).wipe M=(s.wipe M).add ⟨δ.t,δ.g,δ.av.wipe M,none⟩:=by
 unfold St.wipe St.add;simp only;cases hd:δ.t with
 | none=>rfl
 | some t=>simp only [St.mk.injEq,and_true]; exact xS
theorem Pj {i j:Nat} {s:St} {K:St->Prop} {oj oi:Oper} (hj:ops[j]? = some oj) (hi:ops[i]? = some oi) (hjc:j ∈ cl) (hic:i ∉ cl) (hmk:cl.contains (ops.size+1+i)=false) (hfl:ops.size ∉ cl) (hap:oj.apart ops oi=true)
  (hmv:fH cs oi=true) (hsub:d6 oi s=true) (hld:cE oj s=true) (hal:Al ops i s) (h:aV T cs n cl ops j s fun s1=>aV T cs n cl ops i s1 K):aV T cs n cl ops i s fun s1=>cE oj s1=true/\aV T cs n cl ops j s1 K:=by
 have halx:∀ x ∈ oi.op.operands,alive s.m (s.val x):=hal oi hi;have hap':=lG hap;simp only [aV,hj,hi,if_pos hjc,if_neg hic,hmk] at h
 show (match ops[i]? with | none=>False | some o=>if i ∈ cl then _ else f7 s o=true/\d8 T cs n (cl.contains (ops.size+1+i)) ops o s fun s1=>cE oj s1=true/\aV T cs n cl ops j s1 K)
 simp only [hi,if_neg hic,hmk];cases hcj:aT T n ops s.m oj s with
 | none=>rw [hcj] at h; exact h.elim
 | some p =>
  obtain ⟨gj,uj⟩:=p;rw [hcj] at h;simp only [] at h;obtain ⟨⟨hpj,hq0⟩,hq1,h⟩:=h;obtain ⟨e1,f1,_⟩:=de hcj hpj;rw [e1] at h;have hpu:uj.puts=[]:=by
   rcases i6 hcj with q | ⟨q,_⟩
   ·exact q
   ·rw [sI hld] at q; cases q
  have off1:=eu (g:=gj) (u:=uj) hap;have hput0:(dlt oj gj uj).put=none:=by simp [dlt,hpu]
  refine ⟨alOps_iff.2 halx,?_⟩;rw [gT] at h ⊢;obtain ⟨dst,op,ty,pos,after,guard⟩:=oi;unfold fH at hmv;simp only [Bool.and_eq_true] at hmv;obtain ⟨hq2,hmv⟩:=hmv;cases op <;> try (simp only [Bool.false_eq_true] at hmv; done)
  case call c =>
  obtain ⟨callee,args,ats⟩:=c;cases callee <;> try (simp only [Bool.false_eq_true] at hmv; done)
  case value fv =>
  cases fv <;> try (simp only [Bool.false_eq_true] at hmv; done)
  case func f =>
  simp only at hmv;cases hk:cs f with
  | none=>rw [hk] at hmv; cases hmv
  | some k =>
  rw [hk] at hmv;simp only [Bool.and_eq_true,decide_eq_true_eq] at hmv;obtain ⟨⟨hm1,hm2⟩,hm3⟩:=hmv;have hfn:∀ s:St,s.fn (.func f)=some (f,[]):=fun _=>rfl;have hsub':fu (args.toList.map s.val++[])=none:=by
   rw [List.append_nil];unfold d6 at hsub
   simpa using hsub
  have hvals:args.toList.map (s.add (dlt oj gj uj)).val=args.toList.map s.val:=List.map_congr_left fun x hx=>(cr off1 (by simp [Op.operands,Call.operands]; exact .inr (by simpa using hx))).1
  have hconds:(args.toList.all (s.add (dlt oj gj uj)).cond)=args.toList.all s.cond:=by
   rw [Bool.eq_iff_iff,List.all_eq_true,List.all_eq_true];exact forall_congr' fun x=>imp_congr_right fun hx=>by rw [(cr off1 (by simp [Op.operands,Call.operands]; exact .inr (by simpa using hx))).2]
  have hfc:∀ s:St,s.cond (.func f)=true:=fun _=>rfl;have hb:¬ k.bld.1 ≠ 0:=by simpa using hm3
  have hgn:(k.nob || k.bld.2.1 == 0)=true:=by rw [hm2]; rfl
  simp only [bY,hfn,hk,if_pos hm1,if_neg hb,if_pos hgn,hvals,hconds,hfc] at h ⊢;obtain ⟨h2,h3,h4⟩:=h;refine ⟨h2,h3,?_⟩;unfold gS at h4 ⊢;rw [hsub'] at h4 ⊢;simp only [if_pos hm2] at h4 ⊢;unfold gR at h4 ⊢;have hmm:(s.add (dlt oj gj uj)).m=s.m:=by unfold St.add; rw [hput0]
  rw [hmm] at h4;obtain ⟨x,h4⟩:=h4;refine ⟨x,?_⟩;split at h4
  ·exact h4.elim
  ·rename_i A hA;obtain ⟨k1,k2,k3,k4,k5,k6,k7,k8,k9,k10⟩:=h4;refine ⟨k1,k2,k3,k4,k5,k6,k7,k8,k9,fun y hy=>?_⟩;obtain ⟨l1,l2,l3,l4⟩:=k10 y hy;refine ⟨l1,l2,l3,?_⟩;generalize hM:m2 A.hs (Oper.hnd ⟨dst,.call ⟨.value (.func f),args,ats⟩,ty,pos,after,guard⟩) s.m (k.fin x y)=M at l4 ⊢;have hbox:∀ h ty vs,s.m h=some (.box ty vs)->M h=some (.box ty vs):=fun h ty vs q=>by rw [<- hM]; exact K9 k3 k4 l3 q
   generalize eK (rho A.hs (Oper.hnd ⟨dst,.call ⟨.value (.func f),args,ats⟩,ty,pos,after,guard⟩)) M (k.res x y)=av at l4 ⊢;generalize hoi:(⟨dst,.call ⟨.value (.func f),args,ats⟩,ty,pos,after,guard⟩:Oper)=oi at *;have hset:∀ z:Operand,z ∈ oj.op.operands->((s.wipe M).set oi true av (s.wipe M).m).val z=(s.wipe M).val z/\((s.wipe M).set oi true av (s.wipe M).m).cond z=(s.wipe M).cond z:=fun z hz=>by
    cases z with
    | tmp t =>
     have:oi.dst ≠ some t:=fun e=>(Oper.apart_spec hap').1 t e (operand_looks hz);have e:((s.wipe M).set oi true av (s.wipe M).m).e t=(s.wipe M).e t:=by
      unfold St.set;cases hd:oi.dst with
      | none=>rfl
      | some u=>exact upd_ne _ _ (by intro e; subst e; exact this hd)
     simp only [St.val,St.cond,e];exact ⟨trivial,trivial⟩
    | _=>exact ⟨rfl,rfl⟩
   have hv:∀ z ∈ oj.op.operands,((s.wipe M).set oi true av (s.wipe M).m).val z=(s.val z).wipe M/\((s.wipe M).set oi true av (s.wipe M).m).cond z=s.cond z:=by
    intro z hz;have hp:=yO hld hz;have hw:(s.val z).wipe M=s.val z:=by rcases hp with ⟨_,_,hp⟩ | ⟨_,_,hp⟩ <;> (rw [hp]; rfl)
    rw [(hset z hz).1,(hset z hz).2];cases z with
    | tmp p =>
     simp only [St.val,St.cond,St.wipe];cases s.e p with
     | none=>exact ⟨rfl,rfl⟩
     | some a=>exact ⟨rfl,rfl⟩
    | _=>exact ⟨hw.symm,rfl⟩
   have hmb:∀ h ty vs,s.m h=some (.box ty vs)->((s.wipe M).set oi true av (s.wipe M).m).m h=some (.box ty (vs.map (AV.wipe1 M))):=fun h ty vs q=>by
    show ((M h).map (Blk.wipe M))=_
    rw [hbox h ty vs q]; rfl
   obtain ⟨u',r1,r2,r3,_,r5⟩:=Bo hcj hld hv hmb;refine ⟨yP hv hmb hld,?_⟩;simp only [aV,hj,if_pos hjc];rw [r1];simp only [];refine ⟨⟨r5 hpj,fun q=>absurd q hfl⟩,?_⟩;obtain ⟨e4,_,_⟩:=de r1 (r5 hpj);have ed:dlt oj gj u'=⟨(dlt oj gj uj).t,(dlt oj gj uj).g,(dlt oj gj uj).av.wipe M,none⟩:=by simp [dlt,r2,r3]
   rw [e4,ed];rw [Qr hput0] at l4;have hoff:∀ t,(dlt oj gj uj).t=some t->oi.dst ≠ some t:=fun t ht=>(off1 t ht).2;have:=oD (s:=s.wipe M) (o:=oi) (g:=true) (av:=av) (m:=(s.wipe M).m) (δ:=⟨(dlt oj gj uj).t,(dlt oj gj uj).g,(dlt oj gj uj).av.wipe M,none⟩) hoff;have hadd:bF ⟨(dlt oj gj uj).t,(dlt oj gj uj).g,(dlt oj gj uj).av.wipe M,none⟩ (s.wipe M).m=(s.wipe M).m:=rfl;have hadd2:((s.wipe M).add ⟨(dlt oj gj uj).t,(dlt oj gj uj).g,(dlt oj gj uj).av.wipe M,none⟩).m=(s.wipe M).m:=rfl;rw [hadd] at this;rw [hadd2,this] at l4;exact l4
def lF (o:Oper):Bool:=o.guard.isNone && match o.op with
 | .alloc _=>true
 | _=>false
omit hcs in
theorem xV {M:Nat->Option Blk} {d ty:Nat} {vs:List AV} (h:M d=none) (v:AV):v.wipe1 (upd M d (some (.box ty vs)))=v.wipe1 M:=by
 cases v with
 | own g k R =>
  have e:∀ m,AV.wipe1 m (.own g k R)=match m g with | some (.own _ k true R)=>.own g k R | _=>.junk:=fun _=>rfl
  rw [e,e];by_cases hg:g=d
  ·subst hg; rw [upd_same,h]
  ·rw [upd_ne _ _ hg]
 | sl e k r=>cases e <;> rfl
 | bptr e ds=>cases e <;> rfl
 | _=>rfl
omit hcs in
theorem Qp {M:Nat->Option Blk} {d ty:Nat} {vs:List AV} (h:M d=none) (v:AV):v.wipeV (upd M d (some (.box ty vs)))=v.wipeV M:=by
 have e:AV.wipe1 (upd M d (some (.box ty vs)))=AV.wipe1 M:=funext (xV h);cases v with
 | agg us=>simp only [AV.wipeV,e]
 | clo f us=>simp only [AV.wipeV,e]
 | _=>simp only [AV.wipeV,e]
omit hcs in
theorem Qt {M:Nat->Option Blk} {d ty:Nat} {vs:List AV} (h:M d=none) (v:AV):v.wipe (upd M d (some (.box ty vs)))=v.wipe M:=by
 have e:AV.wipeV (upd M d (some (.box ty vs)))=AV.wipeV M:=funext (Qp h);cases v with
 | tup us=>simp only [AV.wipe,e]
 | _=>simp only [AV.wipe,e]
omit hcs in
theorem E7 {R:Nat->Nat} {M:Nat->Option Blk} {d ty:Nat} {vs:List AV} (h:M d=none) (v:AV):eK R (upd M d (some (.box ty vs))) v=eK R M v:=by
 have e1:ge R (upd M d (some (.box ty vs)))=ge R M:=funext fun v=>by
  cases v <;> simp only [ge]
  exact xV h _
 have e2:gg R (upd M d (some (.box ty vs)))=gg R M:=funext fun v=>by cases v <;> simp only [gg,e1]
 cases v <;> simp only [eK,e2]
omit hcs in
theorem xd {δ:Dl} {m:Nat->Option Blk} (hf:δ.free m) {x y:AV} (hy:alive m y):iU (bF δ m) x y=iU m x y:=by
 cases y with
 | own g k R =>
  have e:=ko hf (hy g (by simp [AV.hs]))
  cases x with
  | sl b k' r=>cases b <;> simp only [iU,e]
  | _=>simp only [iU,e]
 | sl ext k rows =>
  cases ext <;> (cases x with
   | sl b k' r=>cases b <;> rfl
   | _=>rfl)
 | _ =>
  cases x with
  | sl b k' r=>cases b <;> rfl
  | _=>rfl
omit hcs in
theorem B5 {δ:Dl} {m:Nat->Option Blk} (hf:δ.free m):∀ {xs ys:List AV},(∀ y ∈ ys,alive m y)->jY (bF δ m) xs ys=jY m xs ys
 | [],[],_=>rfl
 | [],_ :: _,_=>rfl
 | _ :: _,[],_=>rfl
 | x :: xs,y :: ys,h=>by
  unfold jY;rw [xd hf (h y (by simp)),B5 hf fun z hz=>h z (by simp [hz])]
omit hcs in
theorem Ez {m:Nat->Option Blk} {ys:List AV} (h:alive m (.agg ys)):∀ y ∈ ys,alive m y:=by
 intro y hy g hg;refine h g ?_;simp only [AV.hs];clear h
 induction ys with
 | nil=>cases hy
 | cons z ys ih =>
  rw [AV.hs.hsL,List.mem_append];rcases List.mem_cons.1 hy with rfl | hy
  ·exact .inl hg
  ·exact .inr (ih hy)
omit hcs in
theorem Mx {δ:Dl} {m:Nat->Option Blk} (hf:δ.free m) {x y:AV} (hy:alive m y):jZ (bF δ m) x y=jZ m x y:=by
 cases x with
 | agg xs =>
  cases y with
  | agg ys=>exact B5 hf (Ez hy)
  | _=>simp only [jZ]; exact xd hf hy
 | _=>simp only [jZ]; exact xd hf hy
omit hcs in
theorem B6 {δ:Dl} {m:Nat->Option Blk} (hf:δ.free m):∀ {xs ys:List AV},(∀ y ∈ ys,alive m y)->iv (bF δ m) xs ys=iv m xs ys
 | [],[],_=>rfl
 | [],_ :: _,_=>rfl
 | _ :: _,[],_=>rfl
 | x :: xs,y :: ys,h=>by
  unfold iv;rw [Mx hf (h y (by simp)),B6 hf fun z hz=>h z (by simp [hz])]
omit hcs in
theorem BW {δ:Dl} {m:Nat->Option Blk} (hf:δ.free m) {hs:List (Nat × Nat)}:∀ {l:List (Nat × Nat × Nat × List (List D))},fO m hs l->fO (bF δ m) hs l
 | [],_=>trivial
 | (i,e,k,R) :: l,h=>by
  simp only [fO] at h ⊢;refine ⟨?_,BW hf h.2⟩;cases hg:ai hs i with
  | none=>rw [hg] at h; exact h.1.elim
  | some g =>
   rw [hg] at h;simp only at h ⊢;rw [ko hf (by rw [h.1]; rfl)]; exact h.1
omit hcs in
theorem zM {δ:Dl} {m:Nat->Option Blk} (hf:δ.free m) {hs:List (Nat × Nat)} {d:Nat} {lends:List Nat}:∀ {l:List (Nat × Blk)},(∀ p ∈ l,∀ d' b,δ.put=some (d',b)->d' ≠ rho hs d p.1)->jg hs d m lends l->jg hs d (bF δ m) lends l
 | [],_,_=>trivial
 | (j,b) :: l,hd,h=>by
  have ih:=zM hf (hs:=hs) (d:=d) (lends:=lends) (l:=l) fun p hp=>hd p (by simp [hp])
  cases b with
  | own e k dp R =>
   cases dp with
   | true =>
    simp only [jg] at h ⊢;refine ⟨?_,ih h.2⟩;have h1:=h.1;cases hg:ai hs j with
    | none =>
     rw [hg] at h1;simp only at h1 ⊢;rw [kp fun d' b hp=>?_]
     ·exact h1
     ·have:=hd (j,.own e k true R) (by simp) d' b hp
      unfold rho at this;simp only [hg] at this;exact this
    | some g =>
     rw [hg] at h1;simp only at h1 ⊢;refine ⟨h1.1,?_⟩;have h2:=h1.2;cases hm:m g with
     | none=>rw [hm] at h2; exact h2.elim
     | some blk=>rw [ko hf (by rw [hm]; rfl)]; exact h2
   | false=>exact h.elim
  | box ty vs=>exact h.elim
  | dead=>exact h.elim
omit hcs in
theorem BS {f:Nat->Option Blk} {R:Nat->Nat} {h:Nat}:∀ {l:List (Nat × Blk)},(f h).isSome=true->(over f R (fun _ b=>some b) l h).isSome=true
 | [],hf=>hf
 | (j,b) :: l,hf=>by
  simp only [over];unfold upd;split
  ·rfl
  ·exact BS hf
omit hcs in
theorem BR {f:Nat->Option Blk} {R:Nat->Nat} {h:Nat}:∀ {l:List (Nat × Blk)} {p:Nat × Blk},p ∈ l->R p.1=h->(over f R (fun _ b=>some b) l h).isSome=true
 | (j,b) :: l,p,hp,he=>by
  simp only [over];unfold upd;split
  ·rfl
  ·rename_i hne;rcases List.mem_cons.1 hp with rfl | hp
   ·exact absurd he.symm hne
   ·exact BR hp he
omit hcs in
theorem Jy {hs:List Nat} {m:Nat->Option Blk} {h:Nat} (hm:(m h).isSome=true):(bz hs m h).isSome=true:=by
 induction hs with
 | nil=>exact hm
 | cons x hs ih =>
  simp only [bz];unfold upd;split
  ·rfl
  ·exact ih
omit hcs in
theorem QN (M:Nat->Option Blk) (c:TK):(TK.zeroAV c).wipe1 M=TK.zeroAV c:=by cases c <;> rfl
omit hcs in
theorem si {T:Nat->Option TI} {n:Nat} {ops:Array Oper} {o:Oper} (hb:lF o=true) {s:St} {g:Bool} {u:Out} (h:aT T n ops s.m o s=some (g,u)) :
  ∃ ty vs,g=true/\u.av = .ptr (Oper.hnd o) 0/\u.puts=[(Oper.hnd o,.box ty vs)]/\(∀ M,vs.map (AV.wipe1 M)=vs)/\(u.pre->s.m (Oper.hnd o)=none) /\
   ∀ s':St,s'.m (Oper.hnd o)=none -> ∃ u',aT T n ops s'.m o s'=some (true,u')/\u'.av=u.av/\u'.puts=u.puts/\u'.pre:=by
 obtain ⟨dst,op,ty,pos,after,guard⟩:=o;unfold lF at hb;simp only [Bool.and_eq_true] at hb;obtain ⟨hg,hb⟩:=hb;cases op <;> try (cases hb; done)
 case alloc t =>
 cases guard with
 | some x=>cases hg
 | none =>
  unfold aT cS at h;simp only at h;by_cases hd:cW n ⟨dst,.alloc t,ty,pos,after,none⟩=true
  ·rw [if_pos hd] at h;simp only [calm,Option.isSome_none,Bool.false_eq_true,if_false] at h;cases hT:T t with
   | none=>rw [hT] at h; cases h
   | some ti =>
    rw [hT] at h;simp only [Option.some.injEq,Prod.mk.injEq] at h;obtain ⟨rfl,rfl⟩:=h;refine ⟨t,ti.cells.map TK.zeroAV,rfl,rfl,rfl,fun M=>?_,fun hp=>hp.2,fun s' hs'=>?_⟩
    ·rw [List.map_map]; exact List.map_congr_left fun c _=>QN M c
    ·unfold aT cS;simp only [if_pos hd,calm,Option.isSome_none,Bool.false_eq_true,if_false,hT];exact ⟨_,rfl,rfl,rfl,⟨fun _=>⟨by simp [Op.operands],trivial⟩,hs'⟩⟩
  ·rw [if_neg hd] at h; cases h
omit hcs in
theorem BF {o:Oper} (hmv:fH cs o=true):∃ dst f args ats ty pos after guard k,o=⟨some dst,.call ⟨.value (.func f),args,ats⟩,ty,pos,after,guard⟩/\cs f=some k/\k.mv=true/\k.nob=true/\k.bld.1=0:=by
 obtain ⟨dst,op,ty,pos,after,guard⟩:=o;unfold fH at hmv;simp only [Bool.and_eq_true] at hmv;obtain ⟨hd,hmv⟩:=hmv;cases op <;> try (simp only [Bool.false_eq_true] at hmv; done)
 case call c =>
 obtain ⟨callee,args,ats⟩:=c;cases callee <;> try (simp only [Bool.false_eq_true] at hmv; done)
 case value fv =>
 cases fv <;> try (simp only [Bool.false_eq_true] at hmv; done)
 case func f =>
 simp only at hmv;cases hk:cs f with
 | none=>rw [hk] at hmv; cases hmv
 | some k =>
  rw [hk] at hmv;simp only [Bool.and_eq_true,decide_eq_true_eq] at hmv;cases dst with
  | none=>cases hd
  | some d=>exact ⟨d,f,args,ats,ty,pos,after,guard,k,rfl,hk,hmv.1.1,hmv.1.2,hmv.2⟩
omit hcs in
theorem BE {dst f:Nat} {args:Array Operand} {ats:Array Nat} {ty:Nat} {pos:String} {after:Array Edge} {guard:Option (Nat × Bool)} {k:Con} {s:St} {K:St->Prop} (hk:cs f=some k) (hm:k.mv=true) (hn:k.nob=true) (hb:k.bld.1=0)
  (hsub:d6 ⟨some dst,.call ⟨.value (.func f),args,ats⟩,ty,pos,after,guard⟩ s=true) :
  bY T cs n ops ⟨some dst,.call ⟨.value (.func f),args,ats⟩,ty,pos,after,guard⟩ s K ↔ (guard=none/\cW n ⟨some dst,.call ⟨.value (.func f),args,ats⟩,ty,pos,after,guard⟩=true /\
   gR k (Oper.hnd ⟨some dst,.call ⟨.value (.func f),args,ats⟩,ty,pos,after,guard⟩) (args.toList.map s.val) (args.toList.all s.cond) s fun av s'=>K (s'.set ⟨some dst,.call ⟨.value (.func f),args,ats⟩,ty,pos,after,guard⟩ true av s'.m)):=by
 have hfn:s.fn (.func f)=some (f,[]):=rfl;have hfc:s.cond (.func f)=true:=rfl;have hsub':fu (args.toList.map s.val)=none:=by
  unfold d6 at hsub
  simpa using hsub
 have hb':¬ k.bld.1 ≠ 0:=by simpa using hb
 have hgn:(k.nob || k.bld.2.1 == 0)=true:=by rw [hn]; rfl
 simp only [bY,hfn,hk,if_pos hm,if_neg hb',if_pos hgn,List.append_nil,hfc,Bool.and_true];unfold gS;rw [hsub'];simp only [if_pos hn]
theorem Pg {i j:Nat} {s:St} {K:St->Prop} {oj oi:Oper} (hj:ops[j]? = some oj) (hi:ops[i]? = some oi) (hjc:j ∉ cl) (hic:i ∈ cl) (hmk:cl.contains (ops.size+1+j)=false) (hfl:ops.size ∉ cl) (hap:oj.apart ops oi=true)
  (hmv:fH cs oj=true) (hsub:d6 oj s=true) (hb:lF oi=true) (h:aV T cs n cl ops j s fun s1=>aV T cs n cl ops i s1 K):aV T cs n cl ops i s fun s1=>d6 oj s1=true/\aV T cs n cl ops j s1 K:=by
 have hap':=lG hap;obtain ⟨dst,f,args,ats,ty,pos,after,guard,k,ho,hk,hm1,hm2,hm3⟩:=BF hmv;rw [ho] at hsub;have hact:=fun (s:St) (K:St->Prop) (hs:d6 ⟨some dst,.call ⟨.value (.func f),args,ats⟩,ty,pos,after,guard⟩ s=true)=>BE (T:=T) (n:=n) (ops:=ops) (K:=K) hk hm1 hm2 hm3 hs;rw [<- ho] at hsub;rw [<- ho] at hact;unfold aV at h;rw [hj] at h;simp only [if_neg hjc,hmk] at h;obtain ⟨hal,h⟩:=h;rw [gT,hact s _ hsub] at h;obtain ⟨hg,hdst,h⟩:=h;have halx:∀ x ∈ oj.op.operands,alive s.m (s.val x):=alOps_iff.1 hal;have hops:∀ x ∈ args.toList,x ∈ oj.op.operands:=fun x hx=>by rw [ho]; simp [Op.operands,Call.operands]; exact .inr (by simpa using hx)
 unfold gR at h;obtain ⟨x,h⟩:=h;split at h
 ·exact h.elim
 rename_i A hA;obtain ⟨k1,k2,k3,k4,k5,k6,k7,k8,k9,k10⟩:=h
 -- what the allocation is
 obtain ⟨y0,hy0⟩:=(hcs f k hk).tot x;have key:∀ y,k.post x y -> ∃ u,aT T n ops ((s.wipe (m2 A.hs (Oper.hnd oj) s.m (k.fin x y))).set oj true (eK (rho A.hs (Oper.hnd oj)) (m2 A.hs (Oper.hnd oj) s.m (k.fin x y)) (k.res x y)) (s.wipe (m2 A.hs (Oper.hnd oj) s.m (k.fin x y))).m).m oi
   ((s.wipe (m2 A.hs (Oper.hnd oj) s.m (k.fin x y))).set oj true (eK (rho A.hs (Oper.hnd oj)) (m2 A.hs (Oper.hnd oj) s.m (k.fin x y)) (k.res x y)) (s.wipe (m2 A.hs (Oper.hnd oj) s.m (k.fin x y))).m)=some (true,u)/\u.pre /\
   K (((s.wipe (m2 A.hs (Oper.hnd oj) s.m (k.fin x y))).set oj true (eK (rho A.hs (Oper.hnd oj)) (m2 A.hs (Oper.hnd oj) s.m (k.fin x y)) (k.res x y)) (s.wipe (m2 A.hs (Oper.hnd oj) s.m (k.fin x y))).m).next oi true u.av u.puts) /\
   m2 A.hs (Oper.hnd oj) s.m (k.fin x y) (Oper.hnd oi)=none:=fun y hy=>by
  obtain ⟨_,_,_,l4⟩:=k10 y hy;rw [hi] at l4;simp only [if_pos hic] at l4;split at l4
  ·rename_i g u hc;obtain ⟨⟨c1,_⟩,c2⟩:=l4;obtain ⟨ty',vs,rfl,_,_,_,c3,_⟩:=si hb hc;have c4:=c3 c1;refine ⟨u,hc,c1,c2,?_⟩;have c4:((m2 A.hs (Oper.hnd oj) s.m (k.fin x y)) (Oper.hnd oi)).map (Blk.wipe (m2 A.hs (Oper.hnd oj) s.m (k.fin x y)))=none:=c4
   rwa [Option.map_eq_none_iff] at c4
  ·exact l4.elim
 obtain ⟨u0,hc0,hp0,_,hM0⟩:=key y0 hy0;obtain ⟨ty',vs,_,a1,a2,a3,_,a5⟩:=si hb hc0;have hfree:s.m (Oper.hnd oi)=none:=by
  cases hq:s.m (Oper.hnd oi) with
  | none=>rfl
  | some blk =>
   have:=BS (f:=bz (A.hs.map (·.2)) s.m) (R:=rho A.hs (Oper.hnd oj)) (h:=Oper.hnd oi) (l:=k.fin x y0) (Jy (by rw [hq]; rfl))
   rw [show over (bz (A.hs.map (·.2)) s.m) (rho A.hs (Oper.hnd oj)) (fun _ b=>some b) (k.fin x y0) (Oper.hnd oi)=none from hM0] at this
   cases this
 obtain ⟨u,b1,b2,b3,b4⟩:=a5 s hfree;unfold aV;rw [hi];simp only [if_pos hic];rw [b1];simp only [];obtain ⟨e1,f1,_⟩:=de b1 b4;rw [e1];have off:(dlt oi true u).off ops oj:=eu (g:=true) (u:=u) hap';have hδ:dlt oi true u=⟨oi.dst,true,.ptr (Oper.hnd oi) 0,some (Oper.hnd oi,.box ty' vs)⟩:=by simp [dlt,b2,b3,a1,a2]
 have hvals:args.toList.map (s.add (dlt oi true u)).val=args.toList.map s.val:=List.map_congr_left fun x hx=>(cr off (hops x hx)).1;have hconds:(args.toList.all (s.add (dlt oi true u)).cond)=args.toList.all s.cond:=by
  rw [Bool.eq_iff_iff,List.all_eq_true,List.all_eq_true];exact forall_congr' fun x=>imp_congr_right fun hx=>by rw [(cr off (hops x hx)).2]
 have hsub2:d6 oj (s.add (dlt oi true u))=true:=by
  rw [ho] at hsub ⊢;unfold d6 at hsub ⊢;simp only at hsub ⊢;rw [hvals]; exact hsub
 refine ⟨⟨b4,fun q=>absurd q hfl⟩,hsub2,?_⟩;rw [hj];simp only [if_neg hjc,hmk];refine ⟨alOps_iff.2 fun x hx=>?_,?_⟩
 ·intro g hg;rw [(cr off hx).1] at hg;have:=halx x hx g hg;rw [f6 f1 this]; exact this
 rw [gT,hact _ _ hsub2];refine ⟨hg,hdst,?_⟩;rw [hvals,hconds];unfold gR;have hmm:(s.add (dlt oi true u)).m=bF (dlt oi true u) s.m:=rfl;have hus:∀ v ∈ args.toList.map s.val,alive s.m v:=fun v hv=>by
  obtain ⟨x,hx,rfl⟩:=List.mem_map.1 hv;exact halx x (hops x hx)
 rw [hmm];refine ⟨x,?_⟩;rw [B6 f1 hus,hA];simp only [];refine ⟨k1,k2,BW f1 k3,k4,k5,k6,k7,k8,k9,fun y hy=>?_⟩;obtain ⟨l1,l2,l3,_⟩:=k10 y hy;obtain ⟨uy,d1,d2,d3,d4⟩:=key y hy;have hne:∀ p ∈ k.fin x y,rho A.hs (Oper.hnd oj) p.1 ≠ Oper.hnd oi:=fun p hp he=>by
  have:=BR (f:=bz (A.hs.map (·.2)) s.m) hp he;rw [show over (bz (A.hs.map (·.2)) s.m) (rho A.hs (Oper.hnd oj)) (fun _ b=>some b) (k.fin x y) (Oper.hnd oi)=none from d4] at this
  cases this
 refine ⟨l1,l2,zM f1 (fun p hp d' b hput=>?_) l3,?_⟩
 ·rw [hδ] at hput;simp only [Option.some.injEq,Prod.mk.injEq] at hput;rw [<- hput.1]; exact fun e=>hne p hp e.symm
 have hkill:Oper.hnd oi ∉ A.hs.map (·.2):=fun hh=>by
  obtain ⟨p,hp,hpe⟩:=List.mem_map.1 hh;obtain ⟨q1,q2⟩:=k4.1 p hp;obtain ⟨⟨i',e',kk',R'⟩,hi',hpe2⟩:=List.mem_map.1 q2;simp only at hpe2;subst hpe2;obtain ⟨g,r1,r2⟩:=nY k3 hi';rw [q1] at r1;cases r1;rw [hpe,hfree] at r2; cases r2
 have hM:m2 A.hs (Oper.hnd oj) (bF (dlt oi true u) s.m) (k.fin x y)=upd (m2 A.hs (Oper.hnd oj) s.m (k.fin x y)) (Oper.hnd oi) (some (.box ty' vs)):=by
  show over (bz (A.hs.map (·.2)) (bF (dlt oi true u) s.m)) (rho A.hs (Oper.hnd oj)) (fun _ b=>some b) (k.fin x y)=_
  have:bF (dlt oi true u) s.m=upd s.m (Oper.hnd oi) (some (.box ty' vs)):=by rw [hδ]; rfl
  rw [this,AK hkill,BT hne]
 rw [hM];generalize m2 A.hs (Oper.hnd oj) s.m (k.fin x y)=M at *;rw [E7 d4];generalize eK (rho A.hs (Oper.hnd oj)) M (k.res x y)=av at *;have hW:AV.wipe (upd M (Oper.hnd oi) (some (.box ty' vs)))=AV.wipe M:=funext (Qt d4);have hB:Blk.wipe (upd M (Oper.hnd oi) (some (.box ty' vs)))=Blk.wipe M:=funext fun b=>by
  have e:AV.wipe1 (upd M (Oper.hnd oi) (some (.box ty' vs)))=AV.wipe1 M:=funext (xV d4);cases b with
  | own e k dp R=>cases dp <;> rfl
  | box ty vs=>simp only [Blk.wipe,e]
  | dead=>rfl
 have hS:(s.add (dlt oi true u)).wipe (upd M (Oper.hnd oi) (some (.box ty' vs)))=(s.wipe M).add (dlt oi true u):=by
  rw [hδ];unfold St.wipe St.add;simp only [hW,hB]
  congr 1
  ·cases oi.dst with
   | none=>rfl
   | some t=>exact xS (M:=M)
  ·funext z
   unfold upd;split
   ·simp only [Option.map_some,Blk.wipe,a3]
   ·rfl
 rw [hS];have hoff:∀ t,(dlt oi true u).t=some t->oj.dst ≠ some t:=fun t ht=>(off t ht).2;have hset:=oD (s:=s.wipe M) (o:=oj) (g:=true) (av:=av) (m:=(s.wipe M).m) (δ:=dlt oi true u) hoff;have hm':((s.wipe M).add (dlt oi true u)).m=bF (dlt oi true u) (s.wipe M).m:=rfl;rw [hm',hset];obtain ⟨e5,_,_⟩:=de d1 d2;rw [e5] at d3;obtain ⟨ty2,vs2,_,a1',a2',_,_,a5'⟩:=si hb d1;obtain ⟨u2,b1',b2',b3',_⟩:=a5' s hfree;rw [b1] at b1';simp only [Option.some.injEq,Prod.mk.injEq,true_and] at b1';subst b1';have:dlt oi true uy=dlt oi true u:=by simp [dlt,b2',b3']
 rw [this] at d3;exact d3
omit hcs in
theorem BG {j:Nat} {s:St} {K K':St->Prop} {oj:Oper} (hj:ops[j]? = some oj) (hjc:j ∉ cl) (hmk:cl.contains (ops.size+1+j)=false) (hmv:fH cs oj=true) (hsub:d6 oj s=true) (h:aV T cs n cl ops j s K) (hK:∀ s1,K s1->K' s1):aV T cs n cl ops j s K':=by
 obtain ⟨dst,f,args,ats,ty,pos,after,guard,k,ho,hk,hm1,hm2,hm3⟩:=BF hmv;rw [ho] at hsub;have hact:=fun (K:St->Prop)=>BE (T:=T) (n:=n) (ops:=ops) (K:=K) hk hm1 hm2 hm3 hsub;rw [<- ho] at hact;unfold aV at h ⊢;rw [hj] at h ⊢;simp only [if_neg hjc,hmk,gT,hact] at h ⊢;obtain ⟨h1,h2,h3,h4⟩:=h;refine ⟨h1,h2,h3,?_⟩;unfold gR at h4 ⊢;obtain ⟨x,h4⟩:=h4;refine ⟨x,?_⟩;split at h4
 ·exact h4.elim
 ·obtain ⟨k1,k2,k3,k4,k5,k6,k7,k8,k9,k10⟩:=h4;exact ⟨k1,k2,k3,k4,k5,k6,k7,k8,k9,fun y hy=>⟨(k10 y hy).1,(k10 y hy).2.1,(k10 y hy).2.2.1,hK _ (k10 y hy).2.2.2⟩⟩
end
def flg (cl:List Nat) (ops:Array Oper) (i:Nat):Bool:=cl.contains (3 * ops.size+3+i)
def flB (o:Oper) (s:St):Bool:=bif eM o then cE o s else d6 o s
def rW (cl:List Nat) (ops:Array Oper) (i:Nat) (s:St):Prop:=flg cl ops i=true -> ∀ o,ops[i]? = some o->flB o s=true
def eJ (T:Nat->Option TI) (cs:Nat->Option Con) (n:Nat) (cl:List Nat) (ops:Array Oper) (i:Nat) (s:St) (K:St->Prop):Prop:=rW cl ops i s/\aV T cs n cl ops i s K
def zm (cs:Nat->Option Con) (ops:Array Oper) (fi mk:Bool) (x y:Oper):Bool:=x.apart ops y && eM x && bif fi then !mk && fH cs y else (gJ cs y && gB cs y)
def lV (cs:Nat->Option Con) (cl:List Nat) (ops:Array Oper) (j i:Nat):Bool :=
 bif flg cl ops j || flg cl ops i then
  (match ops[j]?,ops[i]? with
   | some x,some y=>(!cl.contains j && flg cl ops j && cl.contains i && !flg cl ops i && !cl.contains (ops.size+1+j) && !cl.contains ops.size && fH cs x && lF y && x.apart ops y) || cl.contains j && ((cl.contains i && (!flg cl ops j || eM x) && (!flg cl ops i || eM y) && comm cs cl ops j i) || (flg cl ops j && !cl.contains i && !cl.contains ops.size && zm cs ops (flg cl ops i) (cl.contains (ops.size+1+i)) x y))
   | _,_=>false)
 else comm cs cl ops j i
theorem zk {cs cl ops j i} (h:lV cs cl ops j i=true):(flg cl ops j=false/\flg cl ops i=false/\comm cs cl ops j i=true) \/ (∃ x y,ops[j]? = some x/\ops[i]? = some y/\j ∉ cl/\flg cl ops j=true/\i ∈ cl/\flg cl ops i=false/\cl.contains (ops.size+1+j)=false/\ops.size ∉ cl/\fH cs x=true/\lF y=true/\x.apart ops y=true) \/ ∃ x y,ops[j]? = some x/\ops[i]? = some y/\j ∈ cl /\
  ((i ∈ cl/\(flg cl ops j=true->eM x=true)/\(flg cl ops i=true->eM y=true)/\comm cs cl ops j i=true) \/ (flg cl ops j=true/\i ∉ cl/\ops.size ∉ cl/\x.apart ops y=true/\eM x=true /\
   ((flg cl ops i=true/\cl.contains (ops.size+1+i)=false/\fH cs y=true) \/ (flg cl ops i=false/\gJ cs y=true/\gB cs y=true)))):=by
 unfold lV at h;cases hf:(flg cl ops j || flg cl ops i) with
 | false =>
  rw [hf] at h;rw [Bool.or_eq_false_iff] at hf;exact .inl ⟨hf.1,hf.2,h⟩
 | true =>
  rw [hf,cond_true] at h
  right
  cases hx:ops[j]? with
  | none=>rw [hx] at h; cases h
  | some x =>
   cases hy:ops[i]? with
   | none=>rw [hx,hy] at h; cases h
   | some y =>
    rw [hx,hy] at h;have nin:∀ {k:Nat},(!cl.contains k)=true->k ∉ cl:=fun {k} q q2=>by
     have:cl.contains k=true:=by simpa using q2
     rw [this] at q; cases q
    rw [Bool.or_eq_true] at h;rcases h with h | h
    ·simp only [Bool.and_eq_true] at h;obtain ⟨⟨⟨⟨⟨⟨⟨⟨g1,g2⟩,g3⟩,g4⟩,g5⟩,g6⟩,g7⟩,g8⟩,g9⟩:=h;exact .inl ⟨x,y,rfl,rfl,nin g1,g2,by simpa using g3,by simpa using g4,by simpa using g5,nin g6,g7,g8,g9⟩
    right
    simp only [Bool.and_eq_true,Bool.or_eq_true] at h;obtain ⟨h1,h⟩:=h;refine ⟨x,y,rfl,rfl,by simpa using h1,?_⟩
    rcases h with ⟨⟨⟨h2,h3⟩,h4⟩,h5⟩ | ⟨⟨⟨h2,h3⟩,h4⟩,h5⟩
    ·refine .inl ⟨by simpa using h2,fun q=>?_,fun q=>?_,h5⟩
     ·rcases h3 with h3 | h3
      ·rw [q] at h3; cases h3
      ·exact h3
     ·rcases h4 with h4 | h4
      ·rw [q] at h4; cases h4
      ·exact h4
    ·unfold zm at h5;simp only [Bool.and_eq_true] at h5;obtain ⟨⟨h6,h7⟩,h8⟩:=h5;refine .inr ⟨h2,nin h3,nin h4,h6,h7,?_⟩;cases hfi:flg cl ops i with
     | true =>
      rw [hfi,cond_true,Bool.and_eq_true] at h8;exact .inl ⟨rfl,by simpa using h8.1,h8.2⟩
     | false =>
      rw [hfi,cond_false,Bool.and_eq_true] at h8;exact .inr ⟨rfl,h8.1,h8.2⟩
theorem GB {cs cl ops j i} (h:comm cs cl ops j i=true):∃ x y,ops[j]? = some x/\ops[i]? = some y/\x.apart ops y=true:=by
 obtain ⟨_,_,h⟩:=va h;unfold nv at h;cases hx:ops[j]? with
 | none=>rw [hx] at h; cases h
 | some x =>
  cases hy:ops[i]? with
  | none=>rw [hx,hy] at h; cases h
  | some y =>
   rw [hx,hy] at h;simp only [Bool.and_eq_true] at h;exact ⟨x,y,rfl,rfl,h.1.1.1⟩
theorem ej {T:Nat->Option TI} {cs:Nat->Option Con} {n:Nat} {cl:List Nat} {ops:Array Oper} {i:Nat} {s:St} {K:St->Prop} {o:Oper} (ho:ops[i]? = some o) (hi:i ∈ cl) :
  aV T cs n cl ops i s K ↔ ∃ g u,aT T n ops s.m o s=some (g,u)/\(u.pre/\lz cs cl ops o s)/\K (s.next o g u.av u.puts):=by
 unfold aV;simp only [ho,if_pos hi];cases hc:aT T n ops s.m o s with
 | none=>exact ⟨fun h=>h.elim,fun ⟨_,_,h,_⟩=>by cases h⟩
 | some p =>
  obtain ⟨g,u⟩:=p;constructor
  ·intro h; exact ⟨g,u,rfl,h⟩
  ·rintro ⟨g',u',h,h2⟩;cases h;exact h2
section
variable {P:Program} {T:Nat->Option TI} {cs:Nat->Option Con} (hcs:∀ f k,cs f=some k->Has P f k) {n:Nat} {ops:Array Oper} {cl:List Nat}
include hcs
theorem Ph {i j:Nat} {s:St} {K:St->Prop} (hc:lV cs cl ops j i=true) (hal:Al ops i s) (h:eJ T cs n cl ops j s fun s1=>eJ T cs n cl ops i s1 K) :
  eJ T cs n cl ops i s fun s1=>eJ T cs n cl ops j s1 K:=by
 obtain ⟨hfj,h⟩:=h;rcases zk hc with ⟨f1,f2,hc⟩ | ⟨oj,oi,hoj,hoi,hj,f1,hi,f2,hmk,hsz,hmv,hab,hap⟩ | ⟨oj,oi,hoj,hoi,hj,⟨hi,hlj,hli,hc⟩ | ⟨f1,hi,hsz,hap,hlj,hh⟩⟩
 ·have h1:=swap hcs hc hal (rZ (K':=fun s1=>aV T cs n cl ops i s1 K) hcs hc hal h fun s1 _ h1=>h1.2);refine ⟨fun q=>(by rw [f2] at q; cases q),?_⟩
  have hm:∀ s1,aV T cs n cl ops j s1 K->eJ T cs n cl ops j s1 K:=fun s1 h=>⟨fun q=>(by rw [f1] at q; cases q),h⟩
  rwa [show (fun s1=>eJ T cs n cl ops j s1 K)=fun s1=>aV T cs n cl ops j s1 K from funext fun s1=>propext ⟨fun h=>h.2,hm s1⟩]
 ·have hlj:eM oj=false:=by
   unfold fH at hmv;unfold eM;split <;> simp_all
  have fb:∀ {s:St},flB oj s=d6 oj s:=fun {s}=>by unfold flB; rw [hlj]; rfl
  have hs:d6 oj s=true:=by have:=hfj f1 oj hoj; rwa [fb] at this
  have h1:=Pg hcs hoj hoi hj hi hmk hsz hap hmv hs hab (BG (K':=fun s1=>aV T cs n cl ops i s1 K) hoj hj hmk hmv hs h fun s1 q=>q.2);refine ⟨fun q=>(by rw [f2] at q; cases q),?_⟩
  rwa [show (fun s1=>eJ T cs n cl ops j s1 K)=fun s1=>d6 oj s1=true/\aV T cs n cl ops j s1 K from funext fun s1=>propext ⟨fun h=>⟨by have:=h.1 f1 oj hoj; rwa [fb] at this,h.2⟩,fun h=>⟨fun _ o ho=>(by rw [hoj] at ho; cases ho; rw [fb]; exact h.1),h.2⟩⟩]
 ·obtain ⟨oj',oi',hoj',hoi',hap⟩:=GB hc;rw [hoj] at hoj'; cases hoj'
  rw [hoi] at hoi'; cases hoi'
  have fb:∀ {o:Oper} {s:St},eM o=true->flB o s=cE o s:=fun q=>by unfold flB; rw [q]; rfl
  obtain ⟨gj,uj,q1,q2,q3,q4⟩:=(ej hoj hj).1 h;have h1:=swap hcs hc hal ((ej hoj hj).2 ⟨gj,uj,q1,q2,q4⟩);obtain ⟨gi,ui,r1,r2,r3⟩:=(ej hoi hi).1 h1;obtain ⟨e1,e2,_⟩:=de q1 q2.1;obtain ⟨e3,e4,_⟩:=de r1 r2.1;refine ⟨fun f o ho=>?_,(ej hoi hi).2 ⟨gi,ui,r1,r2,fun f o ho=>?_,r3⟩⟩
  ·rw [hoi] at ho; cases ho
   have hb:=q3 f oi hoi;rw [fb (hli f)] at hb ⊢;rw [e1] at hb;have off:=eu (g:=gj) (u:=uj) hap;refine sH (fun x hx=>(cr off hx).1.symm) (fun x hx h hh ty vs hm=>?_) hb;rw [(cr off hx).1] at hh
   rwa [f6 e2 (hal oi hoi x hx h hh)] at hm
  ·rw [hoj] at ho; cases ho
   have off:=eu (g:=gi) (u:=ui) (lG hap);have hb:=hfj f oj hoj;rw [fb (hlj f)] at hb ⊢;rw [e3];refine sH (fun x hx=>(cr off hx).1) (fun x hx h hh ty vs hm=>?_) hb;rw [f6 e4 (by rw [hm]; rfl)]; exact hm
 ·have fb:∀ {s:St},flB oj s=cE oj s:=fun {s}=>by unfold flB; rw [hlj]; rfl
  have hbj:cE oj s=true:=by have:=hfj f1 oj hoj; rwa [fb] at this
  obtain ⟨gj,uj,q1,q2,q3,q4⟩:=(ej hoj hj).1 h;have hK:(fun s1=>eJ T cs n cl ops j s1 K)=fun s1=>cE oj s1=true/\aV T cs n cl ops j s1 K:=funext fun s1=>propext ⟨fun h=>⟨by have:=h.1 f1 oj hoj; rwa [fb] at this,h.2⟩,fun h=>⟨fun _ o ho=>(by rw [hoj] at ho; cases ho; rw [fb]; exact h.1),h.2⟩⟩
  rcases hh with ⟨f2,hmk,hmv⟩ | ⟨f2,hsafe,hnb⟩
  ·have hli:eM oi=false:=by
    unfold fH at hmv;unfold eM;split <;> simp_all
   obtain ⟨e1,e2,_⟩:=de q1 q2.1;have off:=eu (g:=gj) (u:=uj) hap;have hs:d6 oi s=true:=by
    have hb:=q3 f2 oi hoi;unfold flB at hb;rw [hli,cond_false,e1] at hb;unfold d6 at hb ⊢;split
    ·rename_i c hc;rw [hc] at hb;simp only at hb;rw [show c.args.toList.map s.val=c.args.toList.map (s.add (dlt oj gj uj)).val from List.map_congr_left fun x hx=>((cr off (by rw [hc]; simp [Op.operands,Call.operands]; cases c.callee <;> simp_all)).1).symm]
     exact hb
    ·rename_i hc;split at hb
     ·rename_i c hc'; exact absurd hc' (hc c)
     ·cases hb
   have h1:=Pj hcs hoj hoi hj hi hmk hsz hap hmv hs hbj hal ((ej hoj hj).2 ⟨gj,uj,q1,q2,q4⟩);refine ⟨fun q o ho=>?_,by rw [hK]; exact h1⟩
   rw [hoi] at ho; cases ho
   unfold flB; rw [hli]; exact hs
  ·refine ⟨fun q=>(by rw [f2] at q; cases q),?_⟩
   rw [hK];cases hmk:cl.contains (ops.size+1+i) with
   | true=>exact Pk hcs hoj hoi hj hi hmk hsz hap hsafe hnb hbj hal ((ej hoj hj).2 ⟨gj,uj,q1,q2,q4⟩)
   | false =>
    have halx:∀ x ∈ oi.op.operands,alive s.m (s.val x):=hal oi hoi;have hpu:uj.puts=[]:=by
     rcases i6 q1 with q | ⟨q,_⟩
     ·exact q
     ·rw [sI hbj] at q; cases q
    simp only [aV,hoi,if_neg hi,hmk,gT] at q4;obtain ⟨e1,_,_⟩:=de q1 q2.1;rw [e1] at q4;have:=ve (K:=K) hcs hoj hj hsz hap hsafe hnb q1 q2.1 hpu hbj halx q4.2
    show (match ops[i]? with | none=>False | some o=>if i ∈ cl then _ else f7 s o=true/\d8 T cs n (cl.contains (ops.size+1+i)) ops o s fun s1=>cE oj s1=true/\aV T cs n cl ops j s1 K)
    simp only [hoi,if_neg hi,hmk,gT];exact ⟨alOps_iff.2 halx,this⟩
theorem x8 {i j:Nat} {s:St} {K K':St->Prop} (hc:lV cs cl ops j i=true) (hal:Al ops i s) (h:eJ T cs n cl ops j s K) (hK:∀ s1,Al ops i s1->K s1->K' s1):eJ T cs n cl ops j s K':=by
 obtain ⟨hfj,h⟩:=h;refine ⟨hfj,?_⟩;rcases zk hc with ⟨f1,f2,hc⟩ | ⟨oj,oi,hoj,hoi,hj,f1,hi,f2,hmk,hsz,hmv,hab,hap⟩ | ⟨oj,oi,hoj,hoi,hj,⟨hi,hlj,hli,hc⟩ | ⟨f1,hi,hsz,hap,hlj,hh⟩⟩
 ·exact rZ hcs hc hal h hK
 ·have hlj:eM oj=false:=by
   unfold fH at hmv;unfold eM;split <;> simp_all
  have hs:d6 oj s=true:=by
   have:=hfj f1 oj hoj;unfold flB at this;rw [hlj] at this; exact this
  refine BG hoj hj hmk hmv hs h fun s1 q=>hK s1 ?_ q;intro o ho x hx;rw [hoi] at ho; cases ho
  exfalso;unfold lF at hab;rw [Bool.and_eq_true] at hab;have h2:=hab.2;split at h2
  ·rename_i t ht; rw [ht] at hx; simp [Op.operands] at hx
  ·cases h2
 ·exact rZ hcs hc hal h hK
 ·obtain ⟨gj,uj,q1,q2,q3⟩:=(ej hoj hj).1 h;obtain ⟨e1,e2,_⟩:=de q1 q2.1;refine (ej hoj hj).2 ⟨gj,uj,q1,q2,hK _ ?_ q3⟩;rw [e1];exact rU hal e2 fun o ho=>by
   rw [hoi] at ho; cases ho
   exact eu hap
end
def flh (cl:List Nat) (ops:Array Oper) (i:Nat):Bool:=cl.contains (4 * ops.size+4+i)
def fhB (o:Oper) (s:St):Bool:=match o.op with
 | .load _ p=>(s.val p).hs.all fun h=>match s.m h with
  | some (.box _ _)=>false
  | some _=>true
  | none=>false
 | .store _ p _=>match s.val p with
  | .ptr _ _=>true
  | _=>false
 | _=>true
def rV (cl:List Nat) (ops:Array Oper) (i:Nat) (s:St):Prop:=flh cl ops i=true -> ∀ o,ops[i]? = some o->fhB o s=true
def eq (T:Nat->Option TI) (cs:Nat->Option Con) (n:Nat) (cl:List Nat) (ops:Array Oper) (i:Nat) (s:St) (K:St->Prop):Prop:=rV cl ops i s/\eJ T cs n cl ops i s K
def vcH (T:Nat->Option TI) (cs:Nat->Option Con) (n:Nat) (cl:List Nat) (ops:Array Oper):List Nat->St->(St->Prop)->Prop
 | [],s,K=>K s
 | i :: r,s,K=>eq T cs n cl ops i s fun s'=>vcH T cs n cl ops r s' K
def As (o:Oper):Bool:=match o.op with | .store _ _ _=>true | _=>false
def jL (cs:Nat->Option Con) (cl:List Nat) (ops:Array Oper) (j i:Nat):Bool :=
 bif flh cl ops j || flh cl ops i then
  (match ops[j]?,ops[i]? with
   | some x,some y=>cl.contains j && !flg cl ops j && !flg cl ops i && !cl.contains ops.size && x.apart ops y &&
     ((cl.contains i && comm cs cl ops j i) || (!cl.contains i && !cl.contains (ops.size+1+i) && flh cl ops i && As y && (x.dst.isSome || !iN x) && (!isLoad x || flh cl ops j)))
   | _,_=>false)
 else lV cs cl ops j i
theorem zl {cs cl ops j i} (h:jL cs cl ops j i=true):(flh cl ops j=false/\flh cl ops i=false/\lV cs cl ops j i=true) \/ ∃ x y,ops[j]? = some x/\ops[i]? = some y/\j ∈ cl/\flg cl ops j=false/\flg cl ops i=false/\ops.size ∉ cl/\x.apart ops y=true /\
  ((i ∈ cl/\comm cs cl ops j i=true) \/ (i ∉ cl/\cl.contains (ops.size+1+i)=false/\flh cl ops i=true/\As y=true/\(x.dst.isSome=true \/ iN x=false)/\(isLoad x=true->flh cl ops j=true))):=by
 unfold jL at h;cases hf:(flh cl ops j || flh cl ops i) with
 | false =>
  rw [hf] at h;rw [Bool.or_eq_false_iff] at hf;exact .inl ⟨hf.1,hf.2,h⟩
 | true =>
  rw [hf,cond_true] at h
  right
  cases hx:ops[j]? with
  | none=>rw [hx] at h; cases h
  | some x =>
   cases hy:ops[i]? with
   | none=>rw [hx,hy] at h; cases h
   | some y =>
    rw [hx,hy] at h;simp only [Bool.and_eq_true,Bool.or_eq_true,Bool.not_eq_true',List.contains_iff_mem] at h;obtain ⟨⟨⟨⟨⟨h1,h2⟩,h3⟩,h4⟩,h5⟩,h6⟩:=h;have n4:ops.size ∉ cl:=fun q=>by rw [List.contains_iff_mem.2 q] at h4; cases h4
    refine ⟨x,y,rfl,rfl,h1,h2,h3,n4,h5,?_⟩;rcases h6 with h6 | ⟨⟨⟨⟨⟨g1,g2⟩,g3⟩,g4⟩,g5⟩,g6⟩
    ·exact .inl h6
    ·refine .inr ⟨fun q=>(by rw [List.contains_iff_mem.2 q] at g1; cases g1),g2,g3,g4,g5,fun q=>?_⟩
     rcases g6 with g6 | g6
     ·rw [q] at g6; cases g6
     ·exact g6
theorem G6 {o:Oper} {s:St} (hl:isLoad o=true) (h:fhB o s=true):∀ x ∈ o.op.operands,∀ g ∈ (s.val x).hs,(s.m g).isSome=true /\ ∀ ty vs,s.m g ≠ some (.box ty vs):=by
 obtain ⟨dst,op,ty,pos,after,guard⟩:=o;cases op <;> try (cases hl; done)
 case load t p =>
  simp only [fhB,List.all_eq_true] at h;intro x hx g hg;obtain rfl:x=p:=by simpa [Op.operands] using hx
  have:=h g hg;cases hm:s.m g with
  | none=>rw [hm] at this; cases this
  | some blk =>
   rw [hm] at this;refine ⟨rfl,fun ty vs e=>?_⟩;cases e;cases this
theorem vn {o:Oper} {s s':St} (hv:∀ x ∈ o.op.operands,s'.val x=s.val x) (hm:∀ x ∈ o.op.operands,∀ g ∈ (s.val x).hs,(s.m g).isSome=true->s'.m g=s.m g) (h:fhB o s=true):fhB o s'=true:=by
 obtain ⟨dst,op,ty,pos,after,guard⟩:=o;cases op <;> try rfl
 case load t p =>
  simp only [fhB,List.all_eq_true] at h ⊢;have hp:p ∈ (Op.load t p).operands:=by simp [Op.operands]
  rw [hv p hp];intro g hg;have:=h g hg;cases hs:s.m g with
  | none=>rw [hs] at this; cases this
  | some blk=>rw [hm p hp g hg (by rw [hs]; rfl),hs]; rw [hs] at this; exact this
 case store t p x =>
  simp only [fhB] at h ⊢;rw [hv p (by simp [Op.operands])]
  exact h
section
variable {P:Program} {T:Nat->Option TI} {cs:Nat->Option Con} (hcs:∀ f k,cs f=some k->Has P f k) {n:Nat} {ops:Array Oper} {cl:List Nat}
theorem PX {m:Nat->Option Blk} {δ:Dl} {h:Nat} {b:Blk} (hf:δ.free m) (hh:(m h).isSome=true):bF δ (upd m h (some b))=upd (bF δ m) h (some b):=by
 unfold bF;cases hp:δ.put with
 | none=>rfl
 | some p =>
  obtain ⟨d,b'⟩:=p;have hd:d ≠ h:=by rintro rfl; rw [hf _ b' hp] at hh; cases hh
  funext g
  simp only [upd];by_cases h1:g=d
  ·subst h1; simp [hd]
  ·by_cases h2:g=h
   ·subst h2; simp [h1]
   ·simp [h1,h2]
include hcs
theorem Pi {i j:Nat} {s:St} {K:St->Prop} (hc:jL cs cl ops j i=true) (hal:Al ops i s) (h:eq T cs n cl ops j s fun s1=>eq T cs n cl ops i s1 K) :
  eq T cs n cl ops i s fun s1=>eq T cs n cl ops j s1 K:=by
 obtain ⟨hfj,h⟩:=h;rcases zl hc with ⟨f1,f2,hc⟩ | ⟨oj,oi,hoj,hoi,hj,f1,f2,hsz,hap,⟨hi,hc⟩ | ⟨hi,hmk,hfi,hst,hlay,hld⟩⟩
 ·have h1:=Ph hcs hc hal (x8 (K':=fun s1=>eJ T cs n cl ops i s1 K) hcs hc hal h fun s1 _ h1=>h1.2);refine ⟨fun q=>(by rw [f2] at q; cases q),?_⟩
  have hm:∀ s1,eJ T cs n cl ops j s1 K->eq T cs n cl ops j s1 K:=fun s1 h=>⟨fun q=>(by rw [f1] at q; cases q),h⟩
  rwa [show (fun s1=>eq T cs n cl ops j s1 K)=fun s1=>eJ T cs n cl ops j s1 K from funext fun s1=>propext ⟨fun h=>h.2,hm s1⟩]
 ·obtain ⟨gj,uj,q1,q2,q3,q4,q5⟩:=(ej hoj hj).1 h.2;have h1:=swap hcs hc hal ((ej hoj hj).2 ⟨gj,uj,q1,q2,q5⟩);obtain ⟨gi,ui,r1,r2,r3⟩:=(ej hoi hi).1 h1;obtain ⟨e1,e2,_⟩:=de q1 q2.1;obtain ⟨e3,e4,_⟩:=de r1 r2.1;refine ⟨fun f o ho=>?_,fun q=>(by rw [f2] at q; cases q),(ej hoi hi).2 ⟨gi,ui,r1,r2,fun f o ho=>?_,fun q=>(by rw [f1] at q; cases q),r3⟩⟩
  ·rw [hoi] at ho; cases ho
   have hb:=q3 f oi hoi;rw [e1] at hb;have off:=eu (g:=gj) (u:=uj) hap;refine vn (fun x hx=>(cr off hx).1.symm) (fun x hx h hh hs=>?_) hb;rw [(cr off hx).1] at hh;exact (f6 e2 (hal oi hoi x hx h hh)).symm
  ·rw [hoj] at ho; cases ho
   have off:=eu (g:=gi) (u:=ui) (lG hap);rw [e3];exact vn (fun x hx=>(cr off hx).1) (fun x hx h hh hs=>f6 e4 hs) (hfj f oj hoj)
 ·obtain ⟨gj,uj,q1,q2,q3,q4,q5⟩:=(ej hoj hj).1 h.2;obtain ⟨e1,e2,e2'⟩:=de q1 q2.1;have off:=eu (g:=gj) (u:=uj) hap;rw [e1] at q3 q5;simp only [aV,hoi,if_neg hi,hmk,gT] at q5;replace q5:=q5.2;have hb:=q3 hfi oi hoi;have hali:=hal oi hoi;obtain ⟨dst,op,ty,pos,after,guard⟩:=oi;cases op <;> try (cases hst; done)
  rename_i t p x;have hp:p ∈ (Op.store t p x).operands:=by simp [Op.operands]
  have hx:x ∈ (Op.store t p x).operands:=by simp [Op.operands]
  have vp:=cr (s:=s) off hp;have vx:=cr (s:=s) off hx;simp only [fhB,vp.1] at hb;simp only [bY,vp.1,vp.2,vx.1,vx.2] at q5;obtain ⟨k1,k2,k3,k4,k5⟩:=q5;cases hv:s.val p <;> rw [hv] at hb <;> try (cases hb; done)
  rename_i hh of_;rw [hv] at k5;simp only at k5;have hsome:(s.m hh).isSome=true:=hali p hp hh (by rw [hv]; simp [AV.hs])
  unfold j5 at k5;rw [f6 e2 hsome] at k5;split at k5
  ·rename_i ti tyb us hT hm;split at k5
   ·rename_i vs hvs;obtain ⟨k6,k7⟩:=k5;generalize hblk:Blk.box tyb (us.take of_++(vs++us.drop (of_+vs.length)))=blk at k7;have est:(⟨(s.add (dlt oj gj uj)).e,upd (s.add (dlt oj gj uj)).m hh (some blk)⟩:St)=(⟨s.e,upd s.m hh (some blk)⟩:St).add (dlt oj gj uj):=by
     unfold St.add
     congr 1
     exact (PX e2 hsome).symm
    have key:eq T cs n cl ops j ⟨s.e,upd s.m hh (some blk)⟩ K:=by
     have l1:∀ z,(⟨s.e,upd s.m hh (some blk)⟩:St).val z=s.val z/\(⟨s.e,upd s.m hh (some blk)⟩:St).cond z=s.cond z:=fun z=>by cases z <;> exact ⟨rfl,rfl⟩
     have nb:isLoad oj=true -> ∀ z ∈ oj.op.operands,∀ g ∈ (s.val z).hs,upd s.m hh (some blk) g=s.m g:=fun hl z hz g hg=>by
      have:=(G6 hl (hfj (hld hl) oj hoj) z hz g hg).2;have hne:g ≠ hh:=by rintro rfl; exact this _ _ hm
      exact upd_ne _ _ hne
     refine ⟨fun f o ho=>?_,fun q=>(by rw [f1] at q; cases q),?_⟩
     ·rw [hoj] at ho; cases ho
      have hb2:=hfj f oj hoj;obtain ⟨dst',op',ty',pos',after',guard'⟩:=oj;cases op' <;> try rfl
      case load t' p' =>
       exact vn (fun z _=>(l1 z).1) (fun z hz g hg _=>nb rfl z hz g hg) hb2
      case store t' p' x' =>
       simp only [fhB,(l1 p').1] at hb2 ⊢;exact hb2
     ·obtain ⟨v',r1,r2,r3,r4⟩:=km (s':=⟨s.e,upd s.m hh (some blk)⟩) q1 (fun z _=>l1 z) rfl (fun hl z hz g hg ty' vs' hm'=>by
       show upd s.m hh (some blk) g=_
       rw [nb hl z hz g hg]; exact hm')
      have hfree2:gy (upd s.m hh (some blk)) uj.puts:=by
       rcases i6 q1 with q | ⟨ql,b,q⟩
       ·rw [q]; trivial
       ·rw [q];have hd:=e2 (Oper.hnd oj) b (by simp [dlt,q])
        show upd s.m hh (some blk) (Oper.hnd oj)=none
        rw [upd_ne _ _ (by rintro e; rw [e] at hd; rw [hd] at hsome; cases hsome)]
        exact hd
      have hpv:v'.pre:=r4 q2.1 hfree2;refine (ej hoj hj).2 ⟨gj,v',r1,⟨hpv,fun q=>absurd q hsz⟩,?_⟩;obtain ⟨e4,_,_⟩:=de r1 hpv;have ed2:dlt oj gj v'=dlt oj gj uj:=by simp only [dlt,r2,r3]
      rw [e4,ed2,<- est];exact k7
    refine ⟨fun f o ho=>?_,fun q=>(by rw [f2] at q; cases q),?_⟩
    ·rw [hoi] at ho; cases ho
     simp only [fhB,hv]
    ·show (match ops[i]? with | none=>False | some o=>if i ∈ cl then _ else f7 s o=true/\d8 T cs n (cl.contains (ops.size+1+i)) ops o s fun s1=>eq T cs n cl ops j s1 K)
     simp only [hoi,if_neg hi,hmk,gT];refine ⟨alOps_iff.2 hali,?_⟩;simp only [bY];refine ⟨k1,k2,k3,k4,?_⟩;rw [hv];simp only;unfold j5;rw [hT,hm];simp only;rw [hvs];simp only;exact ⟨k6,by rw [hblk]; exact key⟩
   ·exact k5.elim
  ·exact k5.elim
theorem Eg {i j:Nat} {s:St} {K K':St->Prop} (hc:jL cs cl ops j i=true) (hal:Al ops i s) (h:eq T cs n cl ops j s K) (hK:∀ s1,Al ops i s1->K s1->K' s1):eq T cs n cl ops j s K':=by
 obtain ⟨hfj,h⟩:=h;refine ⟨hfj,?_⟩;rcases zl hc with ⟨f1,f2,hc⟩ | ⟨oj,oi,hoj,hoi,hj,f1,f2,hsz,hap,_⟩
 ·exact x8 hcs hc hal h hK
 ·obtain ⟨hf,h⟩:=h;obtain ⟨gj,uj,q1,q2,q3⟩:=(ej hoj hj).1 h;obtain ⟨e1,e2,_⟩:=de q1 q2.1;refine ⟨hf,(ej hoj hj).2 ⟨gj,uj,q1,q2,hK _ ?_ q3⟩⟩;rw [e1];exact rU hal e2 fun o ho=>by
   rw [hoi] at ho; cases ho
   exact eu hap
theorem Ht {i:Nat} {l2:List Nat} {K:St->Prop}:∀ {l1:List Nat} {s:St},(∀ j ∈ l1,jL cs cl ops j i=true)->Al ops i s->vcH T cs n cl ops (l1++i :: l2) s K ->
  eq T cs n cl ops i s fun s1=>vcH T cs n cl ops (l1++l2) s1 K:=by
 intro l1
 induction l1 with
 | nil=>intro s _ _ h; exact h
 | cons j l1 ih =>
  intro s hc hal h;have hcj:=hc j (by simp)
  have h1:eq T cs n cl ops j s fun s1=>eq T cs n cl ops i s1 fun s2=>vcH T cs n cl ops (l1++l2) s2 K :=
   Eg hcs hcj hal h fun s1 hal1 h1=>ih (fun j hj=>hc j (by simp [hj])) hal1 h1
  exact Pi hcs hcj hal h1
end
theorem Sat.heap {c:Cx} {s:St} {a:Act} {w w':World} (S:Sat c s a w) (h1:w'.heap=w.heap) (h2:w'.os=w.os) (h3:w'.tape=w.tape) (h4:w'.output=w.output):Sat c s a w':=by
 obtain ⟨β,fp,S⟩:=S;have T:Step w s.m β w' s.m β:=⟨fun x _ _=>.of_same (by rw [h1]),fun _ _ h=>h,fun _ h=>h,fun h e k d R' _ hm=>⟨d,R',hm,rfl,rfl,fun i j e2 k2 rs r' q1 q2=>⟨r',q1,q2⟩⟩,fun _ _ _ _=>rfl,
  fun h e k d R i j r x b n c hm _ hb _ _ hlt=>World.cell?_of_block (w:=w) (by rw [h1])⟩
 refine ⟨β,fp,fun t g av ht=>?_,fun h blk hm=>?_,S.nodup,S.disj,S.free,S.fg,fun b hG=>⟨(S.old b hG).1,by rw [h1]; exact (S.old b hG).2⟩,h2.trans S.os,h3.trans S.tape,h4.trans S.output,by rw [h1]; exact S.size,S.defers,S.tn,S.pin⟩
 ·obtain ⟨q1,q2,q3⟩:=S.env t g av ht;exact ⟨q1,fun hg=>(q2 hg).step T,q3⟩
 ·have hb:=S.mem h blk hm;cases blk with
  | dead=>exact hb
  | own e k d R =>
   obtain ⟨p1,p2,p3⟩:=hb;refine ⟨p1,p2,?_⟩;rcases p3 with p3 | ⟨b,cap,cs,f0,q1,q2,q3,q4,q5,q6,q7,q8⟩
   ·exact .inl p3
   ·exact .inr ⟨b,cap,cs,f0,q1,by rw [h1]; exact q2,q3,q4,q5,q6.keep fun x _=>⟨.of_same (by rw [h1]),fun _=>by rw [h1]⟩,q7,q8⟩
  | box ty vs =>
   obtain ⟨p0,b,cvs,q1,q2,q3,q4⟩:=hb;exact ⟨p0,b,cvs,q1,by rw [h1]; exact q2,q3.step T,q4⟩
inductive Anc (ops:Array Oper):Nat->Nat->Prop
 | one {i o e}:ops[i]? = some o->e ∈ o.after->Region.binds .any e=true->Anc ops e.on i
 | more {i j o e}:ops[i]? = some o->e ∈ o.after->Region.binds .any e=true->Anc ops j e.on->Anc ops j i
def mQ (A:List Nat) (o:Oper):Nat:=o.after.toList.foldl (fun m e=>if Region.binds .any e then m ||| (1 <<< e.on) ||| A.getD e.on 0 else m) 0
def yk (l:List Oper):List Nat:=l.foldl (fun A o=>A++[mQ A o]) []
def xk (o:Oper):Bool:=match o.op with
 | .move _=>true
 | .binOp .sub _ _ _ _=>true
 | .extract _ _=>true
 | _=>false
def vu (ops:Array Oper) (p:Nat):Bool:=match ops[p]? with
 | none=>false
 | some o=>xk o && (List.range ops.size).all fun j=>j == p || decide (j < p) || match ops[j]? with
  | some oj=>oj.after.any (fun e=>Region.binds .any e && e.on == p) || o.apart ops oj
  | none=>true
def puB (cl:List Nat) (ops:Array Oper) (p:Nat):Bool:=cl.any (fun i=>decide (ops.size < i)) && vu ops p
def chk (cs:Nat->Option Con) (cl:List Nat) (ops:Array Oper):Bool :=
 let A:=yk ops.toList
 let pu:=(List.range ops.size).map (puB cl ops)
 Region.noSelect ops && (List.range ops.size).all fun i=>((ops[i]?).map fun o=>o.after.all fun e=>!Region.binds .any e || decide (e.on < i)).getD true && (!pu.getD i false || cl.contains i) &&
  (List.range i).all fun j=>(A.getD i 0).testBit j || jL cs cl ops j i || (pu.getD j false && (List.range j).all fun h=>pu.getD h false || (A.getD i 0).testBit h)
theorem EH {A:List Nat} {j:Nat}:∀ {l:List Edge} {m:Nat},(l.foldl (fun m e=>if Region.binds .any e then m ||| (1 <<< e.on) ||| A.getD e.on 0 else m) m).testBit j=true->m.testBit j=true \/ ∃ e ∈ l,Region.binds .any e=true/\(j=e.on \/ (A.getD e.on 0).testBit j=true):=by
 intro l
 induction l with
 | nil=>intro m h; exact .inl h
 | cons e l ih =>
  intro m h;rw [List.foldl_cons] at h;rcases ih h with h1 | ⟨e',h1,h2⟩
  ·split at h1
   ·rename_i hb;rw [Nat.testBit_or,Nat.testBit_or,Nat.one_shiftLeft,Nat.testBit_two_pow] at h1;simp only [Bool.or_eq_true,decide_eq_true_eq] at h1;rcases h1 with (h1 | h1) | h1
    ·exact .inl h1
    ·exact .inr ⟨e,by simp,hb,.inl h1.symm⟩
    ·exact .inr ⟨e,by simp,hb,.inr h1⟩
   ·exact .inl h1
  ·exact .inr ⟨e',by simp [h1],h2⟩
theorem EJ (ops:Array Oper):∀ k,k<=ops.size->((ops.toList.take k).foldl (fun A o=>A++[mQ A o]) []).length=k /\
  ∀ i,i < k -> ∀ j,(((ops.toList.take k).foldl (fun A o=>A++[mQ A o]) []).getD i 0).testBit j=true->Anc ops j i:=by
 intro k
 induction k with
 | zero=>intro _; exact ⟨rfl,fun i hi=>by omega⟩
 | succ k ih =>
  intro hk;obtain ⟨h1,h2⟩:=ih (by omega)
  have hlt:k < ops.toList.length:=by simp; omega
  rw [List.take_succ_eq_append_getElem hlt,List.foldl_append];simp only [List.foldl_cons,List.foldl_nil];generalize ((ops.toList.take k).foldl (fun A o=>A++[mQ A o]) [])=A at h1 h2;refine ⟨by simp [h1],fun i hi j hj=>?_⟩
  by_cases hik:i < k
  ·rw [List.getD_eq_getElem?_getD,List.getElem?_append_left (by omega),<- List.getD_eq_getElem?_getD] at hj
   exact h2 i hik j hj
  ·have:i=k:=by omega
   subst this;rw [List.getD_eq_getElem?_getD,List.getElem?_append_right (by omega),h1,Nat.sub_self] at hj
   simp only [List.getElem?_cons_zero,Option.getD_some] at hj;unfold mQ at hj;have ho:ops[i]? = some ops.toList[i]:=by rw [<- Array.getElem?_toList]; exact List.getElem?_eq_getElem hlt
   rcases EH hj with hj | ⟨e,he,hb,hj⟩
   ·simp at hj
   ·have he':e ∈ ops.toList[i].after:=by simpa using he
    rcases hj with rfl | hj
    ·exact .one ho he' hb
    ·refine .more ho he' hb ?_;by_cases hlt2:e.on < i
     ·exact h2 e.on hlt2 j hj
     ·have:A.getD e.on 0=0:=by rw [List.getD_eq_getElem?_getD,List.getElem?_eq_none (by omega)]; rfl
      rw [this] at hj;simp at hj
theorem pu_get {cl:List Nat} {ops:Array Oper} {i:Nat}:((List.range ops.size).map (puB cl ops)).getD i false=true ↔ i < ops.size/\puB cl ops i=true:=by
 rw [List.getD_eq_getElem?_getD,List.getElem?_map];by_cases h:i < ops.size
 ·rw [List.getElem?_range h]; simp [h]
 ·rw [List.getElem?_eq_none (by simpa using h)]; simp [h]
theorem Gl {cs cl ops} (h:chk cs cl ops=true):(∀ i o,ops[i]? = some o -> ∀ e ∈ o.after,Region.binds .any e=true->e.on < i)/\(∀ i j,i < ops.size->j < i->Anc ops j i \/ jL cs cl ops j i=true \/ (puB cl ops j=true /\ ∀ h,h < j->puB cl ops h=true \/ Anc ops h i)) /\
  Region.noSelect ops=true/\(∀ i,i < ops.size->puB cl ops i=true->i ∈ cl/\vu ops i=true):=by
 unfold chk at h;simp only [Bool.and_eq_true,List.all_eq_true,List.mem_range,Bool.or_eq_true,decide_eq_true_eq,List.contains_iff_mem,Bool.not_eq_true'] at h;obtain ⟨hsel,h⟩:=h;have anc:∀ i j,i < ops.size->((yk ops.toList).getD i 0).testBit j=true->Anc ops j i:=fun i j hi h1=>by
  obtain ⟨q1,q2⟩:=EJ ops ops.size (Nat.le_refl _);have e:(ops.toList.take ops.size)=ops.toList:=List.take_of_length_le (by simp)
  rw [e] at q2;exact q2 i hi j h1
 refine ⟨fun i o ho e he hb=>?_,fun i j hi hj=>?_,hsel,fun i hi hm=>⟨?_,?_⟩⟩
 ·have hi:i < ops.size:=(Array.getElem?_eq_some_iff.1 ho).1;have:=(h i hi).1.1;rw [ho] at this;simp only [Option.map_some,Option.getD_some,Array.all_eq_true',Bool.or_eq_true,Bool.not_eq_true',decide_eq_true_eq] at this;rcases this e he with h1 | h1
  ·rw [hb] at h1; cases h1
  ·exact h1
 ·rcases (h i hi).2 j hj with (h1 | h1) | h1
  ·exact .inl (anc i j hi h1)
  ·exact .inr (.inl h1)
  ·refine .inr (.inr ⟨(pu_get.1 h1.1).2,fun k hk=>?_⟩);rcases h1.2 k hk with h2 | h2
   ·exact .inl (pu_get.1 h2).2
   ·exact .inr (anc i k hi h2)
 ·rcases (h i hi).1.2 with h1 | h1
  ·rw [pu_get.2 ⟨hi,hm⟩] at h1; cases h1
  ·exact h1
 ·unfold puB at hm;simp only [Bool.and_eq_true] at hm;exact hm.2
section
variable {P:Program} {T:Nat->Option TI} (hT:∀ t ti,T t=some ti->TOk P t ti) {cs:Nat->Option Con} (hcs:∀ f k,cs f=some k->Has P f k) {c:Cx} (hkn:∀ f k,cs f=some k->Kn k.need c) {ops:Array Oper} {cl:List Nat}
theorem ready_mem {listed:Array Bool} {i:Nat}:i ∈ Region.ready .any ops listed ↔ i < ops.size/\listed.getD i true=false /\ ∀ o,ops[i]? = some o -> ∀ e ∈ o.after,Region.binds .any e=true->listed.getD e.on false=true:=by
 unfold Region.ready;simp only [List.mem_filter,List.mem_range,Bool.and_eq_true,Bool.not_eq_true'];constructor
 ·rintro ⟨h1,h2,h3⟩;refine ⟨h1,h2,fun o ho e he hb=>?_⟩;rw [ho] at h3;simp only [Option.map_some,Option.getD_some,Array.all_eq_true',Bool.or_eq_true,Bool.not_eq_true'] at h3;rcases h3 e he with q | q
  ·rw [hb] at q; cases q
  ·exact q
 ·rintro ⟨h1,h2,h3⟩;refine ⟨h1,h2,?_⟩;have ho:ops[i]? = some ops[i]:=Array.getElem?_eq_getElem h1;rw [ho];simp only [Option.map_some,Option.getD_some,Array.all_eq_true',Bool.or_eq_true,Bool.not_eq_true'];intro e he;by_cases hb:Region.binds .any e=true
  ·exact .inr (h3 _ ho e he hb)
  ·exact .inl (by simpa using hb)
include hT hcs hkn
theorem Ee {i:Nat} {s:St} {K:St->Prop} {a:Act} {w:World} {next:Act->World->Prop} {Q:Exit->Act->World->Prop} (h:aV T cs c.n cl ops i s K) (S:Sat c s a w) (hK:∀ s' a' w',K s'->Sat c s' a' w'->next a' w') :
  wpOp P ops Q i next a w:=by
 unfold aV at h;unfold wpOp;cases ho:ops[i]? with
 | none=>rw [ho] at h; exact h.elim
 | some o =>
  rw [ho] at h;simp only [] at h ⊢;have main:if Region.wanted o (yielded ops a.tmps) then o.wp P a w next Q else next (a.put o.dst undef) w:=by
   by_cases hic:i ∈ cl
   ·rw [if_pos hic] at h;cases hc:aT T c.n ops s.m o s with
    | none=>rw [hc] at h; exact h.elim
    | some p =>
     obtain ⟨g,u⟩:=p;rw [hc] at h;obtain ⟨hp,hk⟩:=h;obtain ⟨β,fp,S⟩:=S;obtain ⟨q1,q2,q3⟩:=oP hT S (fun _ _ h=>h) hc hp.1;rw [q1];cases g with
     | false =>
      simp only [Bool.false_eq_true,if_false] at q3 ⊢;exact hK _ _ _ hk q3
     | true =>
      simp only [if_true] at q3 ⊢;obtain ⟨v,w',e,S'⟩:=q3;unfold Oper.wp;rw [e];exact hK _ _ _ hk S'
   ·rw [if_neg hic] at h;exact Eo hT hcs hkn h.2 S hK
  split
  ·rename_i hw; rw [if_pos hw] at main; exact .inl main
  ·rename_i hw; rw [if_neg hw] at main; exact main
theorem M5 {i:Nat} {o:Oper} {s:St} {a:Act} {w:World} {g u} (hp:xk o=true) (he:aT T c.n ops s.m o s=some (g,u)) (hpre:u.pre) (S:Sat c s a w) :
  ∃ v,Yields P ops o v a/\Sat c (s.next o g u.av u.puts) (a.put o.dst v) w:=by
 obtain ⟨β,fp,S⟩:=S;obtain ⟨q1,q2,q3⟩:=oP hT S (fun _ _ h=>h) he hpre;cases g with
 | false =>
  simp only [Bool.false_eq_true,if_false] at q3;exact ⟨undef,.inr ⟨q1,rfl⟩,q3⟩
 | true =>
  simp only [if_true] at q3;obtain ⟨v,w',e,S'⟩:=q3;obtain ⟨dst,op,ty,pos,after,guard⟩:=o;unfold xk at hp;split at hp
  ·rename_i x hop;subst hop;have e1:∀ w2,(execOp a.eval ⟨dst,.move x,ty,pos,after,guard⟩).run P w2 = .ok (.value (a.eval x)) w2:=fun w2=>rfl;rw [e1] at e;simp only [Result.ok.injEq,Next.value.injEq] at e;obtain ⟨rfl,rfl⟩:=e;exact ⟨_,.inl ⟨q1,e1⟩,S'⟩
  ·rename_i t x y k hop;subst hop;have key:∃ u0,∀ w2,(execOp a.eval ⟨dst,.binOp .sub t x y k,ty,pos,after,guard⟩).run P w2 = .ok (.value u0) w2:=by
    unfold aT at he;split at he
    ·cases he
    ·split at he
     ·simp only at he;cases hcm:calm T guard.isSome (Oper.hnd ⟨dst,.binOp .sub t x y k,ty,pos,after,guard⟩) s.m s.val ⟨dst,.binOp .sub t x y k,ty,pos,after,guard⟩ with
      | none=>rw [hcm] at he; cases he
      | some r =>
       rw [hcm] at he;simp only [Option.some.injEq,Prod.mk.injEq] at he;obtain ⟨rfl,rfl⟩:=he;obtain ⟨hq,_⟩:=hpre;obtain ⟨hc,hr⟩:=hq rfl;have hcx:s.cond x=true:=List.all_eq_true.1 hc x (by simp [Op.operands])
       have hcy:s.cond y=true:=List.all_eq_true.1 hc y (by simp [Op.operands])
       have hx:=S.val hcx;have hy:=S.val hcy;unfold calm at hcm;simp only at hcm;split at hcm
       ·split at hcm
        ·split at hcm <;> simp_all
        ·cases hcm
       ·split at hcm
        ·rename_i p0 r0 hbin;have hr':r.pre=p0:=by
          simp only [Out.of,Option.some.injEq] at hcm;rw [<- hcm]
         rw [hr'] at hr;generalize hvx:s.val x=vx at hx hbin;generalize hvy:s.val y=vy at hy hbin;have hbin0:=hbin;unfold lI at hbin;cases vx <;> cases vy <;> simp only at hbin <;> try (cases hbin; done)
         rename_i k1 a1 k2 a2;have ex:a.eval x = .int k1 a1:=by
          generalize a.eval x=q at hx;cases hx with
          | int _=>rfl
         have ey:a.eval y = .int k2 a2:=by
          generalize a.eval y=q at hy;cases hy with
          | int _=>rfl
         have hr0:r0 = .int k1 (a1 - a2):=by
          split at hbin
          ·simp only [Option.some.injEq,Prod.mk.injEq] at hbin;exact hbin.2.symm
          ·cases hbin
         subst hr0;refine ⟨.int k1 (a1 - a2),fun w2=>?_⟩;obtain ⟨r2,e1,e2⟩:=yM (P:=P) (w:=w2) (m:=s.m) (β:=β) (c:=c) (t:=t) (ox:=x) (oy:=y) (u:=a.eval x) (v:=a.eval y) (by rw [ex]; exact .int .lnil) (by rw [ey]; exact .int .lnil) hbin0 hr
         have e3:(execOp a.eval ⟨dst,.binOp .sub t x y k,ty,pos,after,guard⟩)=(do let r <- (do eqGuard .sub t x y (a.eval x) (a.eval y); binOp .sub t (a.eval x) (a.eval y):Sem Value); pure (.value r)):=rfl
         cases e2 with
         | int _=>rw [e3,Sem.run_bind,e1,Result.andThen_ok,Sem.run_pure]
        ·rename_i hbin;exfalso;generalize s.val x=vx at hcm;generalize s.val y=vy at hcm;unfold kq at hcm
         repeat' split at hcm
         all_goals first | (cases hcm; done) | simp_all
     ·cases he
   obtain ⟨u0,hu⟩:=key;rw [hu] at e;simp only [Result.ok.injEq,Next.value.injEq] at e;obtain ⟨rfl,rfl⟩:=e;exact ⟨_,.inl ⟨q1,hu⟩,S'⟩
  ·rename_i x k hop;subst hop;have key:∀ w1 w2 v1 w1',(execOp a.eval ⟨dst,.extract x k,ty,pos,after,guard⟩).run P w1 = .ok (.value v1) w1'->(execOp a.eval ⟨dst,.extract x k,ty,pos,after,guard⟩).run P w2 = .ok (.value v1) w2:=by
    intro w1 w2 v1 w1' e1;have e3:(execOp a.eval ⟨dst,.extract x k,ty,pos,after,guard⟩)=(do let r <- Instr.extract (a.eval x) k; pure (.value r)):=rfl
    rw [e3] at e1 ⊢;unfold Instr.extract at e1 ⊢;generalize a.eval x=q at e1 ⊢;cases q <;> simp only [Sem.run_bind,Sem.run_pure] at e1 ⊢ <;> first | (cases e1; done) | (split at e1 <;> simp_all) | simp_all
   have e':=key w w v w' e;rw [e] at e';simp only [Result.ok.injEq] at e';obtain ⟨_,rfl⟩:=e';exact ⟨_,.inl ⟨q1,fun w2=>key _ w2 v _ e⟩,S'⟩
  ·cases hp
theorem GS {Q:Exit->Act->World->Prop} {K:St->Prop} (hchk:chk cs cl ops=true) (hQ:∀ s' a' w',K s'->Sat c s' a' w'->Q .normal a' w') (hP:∀ p a w,¬ Q (.panic p) a w) :
  ∀ (fuel:Nat) (listed:Array Bool) (l:List Nat) (s:St) (a:Act) (w:World),l.length<=fuel->l.Pairwise (· < ·)->(∀ i,i ∈ l ↔ i < ops.size/\listed.getD i true=false)->listed.size=ops.size ->
   (∀ i o,ops[i]? = some o->listed.getD i true=true -> ∀ e ∈ o.after,Region.binds .any e=true->listed.getD e.on false=true) ->
   vcH T cs c.n cl ops l s K->Sat c s a w->wpAny P .any ops Q fuel listed a w:=by
 obtain ⟨hedge,hcomm,hsel,hhead⟩:=Gl hchk;intro fuel
 induction fuel with
 | zero =>
  intro listed l s a w hl hs hm hsz hdc h S;have h0:l=[]:=List.eq_nil_of_length_eq_zero (by omega)
  subst h0;refine ⟨?_,hQ _ _ _ h S⟩;rw [List.eq_nil_iff_forall_not_mem];intro i hi;obtain ⟨q1,q2,_⟩:=ready_mem.1 hi;have:=(hm i).2 ⟨q1,q2⟩;cases this
 | succ fuel ih =>
  intro listed l s a w hl hs hm hsz hdc h S;have first:∀ i l',l=i :: l'->i ∈ Region.ready .any ops listed:=by
   intro i l' hl';subst hl';obtain ⟨q1,q2⟩:=(hm i).1 (by simp)
   refine ready_mem.2 ⟨q1,q2,fun o ho e he hb=>?_⟩;have hlt:=hedge i o ho e he hb;cases hle:listed.getD e.on false with
   | true=>rfl
   | false =>
    exfalso;have hsz':e.on < listed.size:=by omega
    have:e.on ∈ i :: l':=(hm e.on).2 ⟨by omega,by
     have e1:listed.getD e.on true=listed[e.on]:=by simp [Array.getD,hsz']
     have e2:listed.getD e.on false=listed[e.on]:=by simp [Array.getD,hsz']
     rw [e1,<- e2]; exact hle⟩
    rcases List.mem_cons.1 this with e0 | hin
    ·omega
    ·have:=(List.pairwise_cons.1 hs).1 _ hin;omega
  by_cases hpu:∃ i l',l=i :: l'/\puB cl ops i=true
  ·obtain ⟨i,l',rfl,him⟩:=hpu;have hrd:=first i l' rfl
   obtain ⟨q1,q2,q3⟩:=ready_mem.1 hrd;obtain ⟨hcl,hfree⟩:=hhead i q1 him;obtain ⟨o,ho⟩:∃ o,ops[i]? = some o:=⟨_,Array.getElem?_eq_getElem q1⟩;unfold vu at hfree;rw [ho] at hfree;simp only [Bool.and_eq_true] at hfree;obtain ⟨hpo,hfree⟩:=hfree;have h':aV T cs c.n cl ops i s fun s'=>vcH T cs c.n cl ops l' s' K:=h.2.2;unfold aV at h';rw [ho] at h';simp only [] at h';rw [if_pos hcl] at h';cases hc:aT T c.n ops s.m o s with
   | none=>rw [hc] at h'; exact h'.elim
   | some q =>
    obtain ⟨g,u⟩:=q;rw [hc] at h';obtain ⟨hpre,hk⟩:=h';obtain ⟨v,hy,S'⟩:=M5 (i:=i) hT hcs hkn hpo hc hpre.1 S;refine wpAny_first ho (Region.noSelect_spec hsel) (fun p a w hq=>absurd hq (hP p _ _)) fuel listed a w (fun j oj hj hne hun hno=>?_) hrd hy ?_
    ·have hjs:j < ops.size:=(Array.getElem?_eq_some_iff.1 hj).1;have h1:=List.all_eq_true.1 hfree j (by simpa using hjs)
     rw [hj] at h1;simp only [Bool.or_eq_true,beq_iff_eq,decide_eq_true_eq] at h1;rcases h1 with (h1 | h1) | h1
     ·exact absurd h1 hne
     ·exfalso;have hjl:j ∈ i :: l':=(hm j).2 ⟨hjs,by
       have hlt:j < listed.size:=by omega
       have e1:listed.getD j true=listed[j]:=by simp [Array.getD,hlt]
       exact hun⟩
      rcases List.mem_cons.1 hjl with e0 | hin
      ·omega
      ·have:=(List.pairwise_cons.1 hs).1 _ hin;omega
     ·rcases h1 with h1 | h1
      ·obtain ⟨e,he,hb⟩:=Array.any_eq_true'.1 h1;simp only [Bool.and_eq_true,beq_iff_eq] at hb;exact absurd hb.2 (hno e he hb.1)
      ·exact h1
    ·have hnl:i ∉ l':=fun hin=>by have:=(List.pairwise_cons.1 hs).1 _ hin; omega
     refine ih (listed.setIfInBounds i true) l' _ _ w (by simpa using hl) (List.pairwise_cons.1 hs).2 (fun j=>?_) (by simpa using hsz) (fun j o' ho' hj e he hb=>?_) hk S'
     ·by_cases hji:j=i
      ·subst hji;constructor
       ·intro hc; exact absurd hc hnl
       ·rintro ⟨_,hc⟩;have hlt:j < listed.size:=by omega
        simp [Array.getD,hlt] at hc
      ·have e1:(listed.setIfInBounds i true).getD j true=listed.getD j true:=by simp [Array.getD_eq_getD_getElem?,Array.getElem?_setIfInBounds,Ne.symm hji]
       rw [e1,<- hm j];simp [hji]
     ·have mono:∀ z,listed.getD z false=true->(listed.setIfInBounds i true).getD z false=true:=by
       intro z hz;by_cases hzi:z=i
       ·subst hzi;have hlt:z < listed.size:=by omega
        simp [Array.getD,hlt]
       ·rw [<- hz];simp [Array.getD_eq_getD_getElem?,Array.getElem?_setIfInBounds,Ne.symm hzi]
      by_cases hji:j=i
      ·subst hji;exact mono _ (q3 o' ho' e he hb)
      ·have e1:(listed.setIfInBounds i true).getD j true=listed.getD j true:=by simp [Array.getD_eq_getD_getElem?,Array.getElem?_setIfInBounds,Ne.symm hji]
       rw [e1] at hj;exact mono _ (hdc j o' ho' hj e he hb)
  refine ⟨fun hr=>?_,fun i hi=>?_⟩
  ·cases l with
   | nil=>exact hQ _ _ _ h S
   | cons i l =>
    exfalso;obtain ⟨q1,q2⟩:=(hm i).1 (by simp)
    have:i ∈ Region.ready .any ops listed:=ready_mem.2 ⟨q1,q2,fun o ho e he hb=>by
     have hlt:=hedge i o ho e he hb;cases hle:listed.getD e.on false with
     | true=>rfl
     | false =>
      exfalso;have hsz':e.on < listed.size:=by omega
      have:e.on ∈ i :: l:=(hm e.on).2 ⟨by omega,by
       have e1:listed.getD e.on true=listed[e.on]:=by simp [Array.getD,hsz']
       have e2:listed.getD e.on false=listed[e.on]:=by simp [Array.getD,hsz']
       rw [e1,<- e2]; exact hle⟩
      rcases List.mem_cons.1 this with e0 | hin
      ·omega
      ·have:=(List.pairwise_cons.1 hs).1 _ hin;omega⟩
    rw [hr] at this;cases this
  ·obtain ⟨q1,q2,q3⟩:=ready_mem.1 hi;have hil:i ∈ l:=(hm i).2 ⟨q1,q2⟩;obtain ⟨l1,l2,rfl⟩:=List.append_of_mem hil;have hpw:=List.pairwise_append.1 hs;have hAnc:∀ z ∈ l1,¬ Anc ops z i:=by
    intro j hj h1;have key:∀ {j i},Anc ops j i->(∀ o,ops[i]? = some o -> ∀ e ∈ o.after,Region.binds .any e=true->listed.getD e.on false=true)->listed.getD j false=true:=by
     intro j i h
     induction h with
     | one ho he hb=>intro hq; exact hq _ ho _ he hb
     | @more i j o e ho he hb _ ih =>
      intro hq;refine ih fun o' ho'=>?_;have:=hq _ ho _ he hb;have hlt:e.on < listed.size:=by
       rcases Nat.lt_or_ge e.on listed.size with h | h
       ·exact h
       ·simp [Array.getD,Nat.not_lt.2 h] at this
      exact hdc e.on o' ho' (by
       have e1:listed.getD e.on true=listed[e.on]:=by simp [Array.getD,hlt]
       have e2:listed.getD e.on false=listed[e.on]:=by simp [Array.getD,hlt]
       rw [e1,<- e2]; exact this)
    have hj1:=key h1 q3;obtain ⟨r1,r2⟩:=(hm j).1 (by simp [hj])
    have hlt:j < listed.size:=by omega
    have e1:listed.getD j true=listed[j]:=by simp [Array.getD,hlt]
    have e2:listed.getD j false=listed[j]:=by simp [Array.getD,hlt]
    rw [e1,<- e2,hj1] at r2;cases r2
   have hcm:∀ j ∈ l1,jL cs cl ops j i=true:=by
    intro j hj;have hjl:j < i:=hpw.2.2 j hj i (by simp)
    rcases hcomm i j q1 hjl with h1 | h1 | ⟨h1,h2⟩
    ·exact absurd h1 (hAnc j hj)
    ·exact h1
    ·exfalso;cases l1 with
     | nil=>cases hj
     | cons z l1 =>
      have hz:¬ puB cl ops z=true:=fun hz=>hpu ⟨z,l1++i :: l2,rfl,hz⟩;rcases List.mem_cons.1 hj with rfl | hin
      ·exact hz h1
      ·have hzj:z < j:=(List.pairwise_cons.1 hpw.1).1 j hin;rcases h2 z hzj with h3 | h3
       ·exact hz h3
       ·exact hAnc z (by simp) h3
   have hal:Al ops i s:=by
    obtain ⟨β,fp,S'⟩:=S;exact fun o ho x hx=>S'.alv
   refine Ee hT hcs hkn (Ht hcs hcm hal h).2.2 S fun s' a' w' h' S'=>?_;have hnd:i ∉ l1++l2:=by
    intro hc;rcases List.mem_append.1 hc with hc | hc
    ·have:=hpw.2.2 i hc i (by simp); omega
    ·have:=(List.pairwise_cons.1 hpw.2.1).1 i hc; omega
   refine ih (listed.setIfInBounds i true) (l1++l2) s' a' w' ?_ ?_ ?_ (by simpa using hsz) ?_ h' S'
   ·simp only [List.length_append,List.length_cons] at hl ⊢; omega
   ·exact hs.sublist ((List.Sublist.refl l1).append (List.sublist_cons_self i l2))
   ·intro j;by_cases hji:j=i
    ·subst hji;constructor
     ·intro hc; exact absurd hc hnd
     ·rintro ⟨_,hc⟩;have hlt:j < listed.size:=by omega
      simp [Array.getD,hlt] at hc
    ·have e1:(listed.setIfInBounds i true).getD j true=listed.getD j true:=by simp [Array.getD_eq_getD_getElem?,Array.getElem?_setIfInBounds,Ne.symm hji]
     rw [e1,<- hm j];simp only [List.mem_append,List.mem_cons];constructor
     ·rintro (h | h)
      ·exact .inl h
      ·exact .inr (.inr h)
     ·rintro (h | h | h)
      ·exact .inl h
      ·exact absurd h hji
      ·exact .inr h
   ·intro j o ho hj e he hb;have mono:∀ z,listed.getD z false=true->(listed.setIfInBounds i true).getD z false=true:=by
     intro z hz;by_cases hzi:z=i
     ·subst hzi;have hlt:z < listed.size:=by omega
      simp [Array.getD,hlt]
     ·rw [<- hz];simp [Array.getD_eq_getD_getElem?,Array.getElem?_setIfInBounds,Ne.symm hzi]
    by_cases hji:j=i
    ·subst hji;exact mono _ (q3 o ho e he hb)
    ·have e1:(listed.setIfInBounds i true).getD j true=listed.getD j true:=by simp [Array.getD_eq_getD_getElem?,Array.getElem?_setIfInBounds,Ne.symm hji]
     rw [e1] at hj;exact mono _ (hdc j o ho hj e he hb)
theorem GT {id:Nat} {Q:Exit->Act->World->Prop} {K:St->Prop} {s:St} {a:Act} {w:World} (hm:P.follows .mixedOrders=true) (hchk:chk cs cl ops=true) (h:vcH T cs c.n cl ops (List.range ops.size) s K) (S:Sat c s a w)
  (hQ:∀ s' a' w',K s'->Sat c s' a' w'->Q .normal a' w'):(Code.region id ops true).wp P Q a w:=by
 refine Code.wp_mono (Q:=fun e a w=>e = .normal/\Q .normal a w) (by rintro e a w ⟨rfl,h⟩; exact h) (wp_region_any hm (GS hT hcs (c:=c) hkn hchk (fun s' a' w' h1 h2=>⟨rfl,hQ s' a' w' h1 h2⟩) (fun p a w h=>by cases h.1) ops.size _ (List.range ops.size) s a _ (by simp) (List.pairwise_lt_range) (fun i=>?_) (by simp) (fun i o ho hi=>?_) h ?_))
 ·simp only [List.mem_range];constructor
  ·intro hi; exact ⟨hi,by simp [Array.getD_eq_getD_getElem?,hi]⟩
  ·exact fun h=>h.1
 ·have hlt:i < ops.size:=(Array.getElem?_eq_some_iff.1 ho).1;simp [Array.getD_eq_getD_getElem?,hlt] at hi
 ·exact S.heap rfl rfl rfl rfl
end
def gP (T:Nat->Option TI) (cs:Nat->Option Con) (n:Nat) (cl:List Nat) (ops:Array Oper):Nat->List Oper->St->(St->Prop)->Prop
 | _,[],s,K=>K s
 | i,o :: r,s,K=>((bif cl.contains (4 * ops.size+4+i) then fhB o s else true)=true)/\bif cl.contains i then ((bif cl.contains ops.size then ldB (gh cs ops) o s else true)=true)/\((bif cl.contains (3 * ops.size+3+i) then flB o s else true)=true)/\match aT T n ops s.m o s with
   | some (g,u)=>u.pre/\(u.pre->gP T cs n cl ops (i+1) r (s.next o g u.av u.puts) K)
   | none=>False
  else ((bif cl.contains (3 * ops.size+3+i) then flB o s else true)=true)/\f7 s o=true/\d8 T cs n (cl.contains (ops.size+1+i)) ops o s fun s'=>gP T cs n cl ops (i+1) r s' K
theorem P1 {T cs n cl} {ops:Array Oper} {K:St->Prop} (l:List Oper):∀ {i:Nat} {s:St},(∀ j,j < l.length->ops[i+j]? = l[j]?)->gP T cs n cl ops i l s K=vcH T cs n cl ops (List.range' i l.length) s K:=by
 induction l with
 | nil=>intro i s _; rfl
 | cons o l ih =>
  intro i s hl;have ho:ops[i]? = some o:=by simpa using hl 0 (by simp)
  have hl':∀ j,j < l.length->ops[i+1+j]? = l[j]?:=by
   intro j hj;have:=hl (j+1) (by simpa using hj)
   rw [show i+1+j=i+(j+1) by omega,this]
   simp
  simp only [List.length_cons,List.range'_succ]
  show _=eq T cs n cl ops i s fun s'=>vcH T cs n cl ops (List.range' (i+1) l.length) s' K
  unfold eq eJ aV;rw [ho];have e:(fun s'=>gP T cs n cl ops (i+1) l s' K)=fun s'=>vcH T cs n cl ops (List.range' (i+1) l.length) s' K:=funext fun s'=>ih hl';simp only [gP,e,ih hl'];have hb:((bif cl.contains (3 * ops.size+3+i) then flB o s else true)=true) ↔ rW cl ops i s:=by
   unfold rW flg;cases cl.contains (3 * ops.size+3+i) with
   | true=>exact ⟨fun h _ o' ho'=>(by rw [ho] at ho'; cases ho'; exact h),fun h=>h rfl o ho⟩
   | false=>exact ⟨fun _ q=>absurd q (by simp),fun _=>rfl⟩
  have hh:((bif cl.contains (4 * ops.size+4+i) then fhB o s else true)=true) ↔ rV cl ops i s:=by
   unfold rV flh;cases cl.contains (4 * ops.size+4+i) with
   | true=>exact ⟨fun h _ o' ho'=>(by rw [ho] at ho'; cases ho'; exact h),fun h=>h rfl o ho⟩
   | false=>exact ⟨fun _ q=>absurd q (by simp),fun _=>rfl⟩
  refine propext (and_congr hh (iff_of_eq ?_));by_cases hc:i ∈ cl
  ·have hcb:cl.contains i=true:=by simpa using hc
   rw [hcb,cond_true,if_pos hc];have hl:((bif cl.contains ops.size then ldB (gh cs ops) o s else true)=true) ↔ lz cs cl ops o s:=by
    unfold lz;by_cases hf:ops.size ∈ cl
    ·have:cl.contains ops.size=true:=by simpa using hf
     rw [this,cond_true]; exact ⟨fun h _=>h,fun h=>h hf⟩
    ·have:cl.contains ops.size=false:=by simpa using hf
     rw [this,cond_false]; exact ⟨fun _ h=>absurd h hf,fun _=>rfl⟩
   cases aT T n ops s.m o s with
   | none=>exact propext ⟨fun h=>h.2.2.elim,fun h=>h.2.elim⟩
   | some p =>
    obtain ⟨g,u⟩:=p;exact propext ⟨fun h=>⟨hb.1 h.2.1,⟨h.2.2.1,hl.1 h.1⟩,h.2.2.2 h.2.2.1⟩,fun h=>⟨hl.2 h.2.1.2,hb.2 h.1,h.2.1.1,fun _=>h.2.2⟩⟩
  ·have hcb:cl.contains i=false:=by simpa using hc
   rw [hcb,cond_false,if_neg hc];exact propext ⟨fun h=>⟨hb.1 h.1,h.2⟩,fun h=>⟨hb.2 h.1,h.2⟩⟩
def x9 (o:Oper):Bool:=match o.op with
 | .store _ _ _=>true
 | .call { callee:=.value _,.. }=>true
 | .call { callee:=.builtin .append,.. }=>true
 | _=>false
def wJ (sz t:Nat):Nat->List Oper->List Nat
 | _,[]=>[]
 | i,o :: r=>bif o.dst == some t then [3 * sz+3+i] else wJ sz t (i+1) r
def qS:List Nat->Nat->List Oper->List Nat
 | [],_,_=>[]
 | m :: l,sz,ops=>bif decide (16384<=m) && decide (m < 32768) then wJ sz (m - 16384) 0 ops++qS l sz ops else qS l sz ops
def vN (sz t:Nat):Nat->List Oper->List Nat
 | _,[]=>[]
 | i,o :: r=>bif (match o.op with | .store _ (.tmp p) _=>p == t | .load _ _=>o.dst == some t | _=>false) then [4 * sz+4+i] else vN sz t (i+1) r
def hMk:List Nat->Nat->List Oper->List Nat
 | [],_,_=>[]
 | m :: l,sz,ops=>bif decide (32768<=m) then vN sz (m - 32768) 0 ops++hMk l sz ops else hMk l sz ops
def jK (mvs:List Nat) (ops:Array Oper):List Nat :=
 ((List.range ops.size).filter fun i=>match ops[i]? with
  | some o=>!x9 o && (match o.op,o.dst with | .buildSlice _ _ _,some t=>!mvs.contains t | _,_=>true)
  | none=>false)++(bif mvs.contains 8191 then [ops.size] else [])++(bif mvs.contains 12287 then (List.range (ops.size+ops.size+2)).filter fun k=>decide (ops.size < k) && (match ops[k - (ops.size+1)]? with
  | some o=>(match o.dst with | some t=>mvs.contains (t+12288) | none=>false)
  | none=>true) else [])++qS mvs ops.size ops.toList++hMk mvs ops.size ops.toList
def im (T:Nat->Option TI) (cs:Nat->Option Con) (n:Nat) (keep:List Nat) (inv:Nat->Nat->Inv) (pk mvs:List Nat):Wk :=
 ⟨T,n,keep,inv,jD T cs n mvs,fun ops s K=>gP T cs n (jK mvs ops) ops 0 ops.toList s K,fun ops=>chk cs (jK mvs ops) ops,Sc.from pk⟩
theorem Ll {P:Program} (hm:P.follows .mixedOrders=true) {T:Nat->Option TI} (hT:∀ t ti,T t=some ti->TOk P t ti) {cs:Nat->Option Con} (hcs:∀ f k,cs f=some k->Has P f k) {c:Cx} (hkn:∀ f k,cs f=some k->Kn k.need c) {n keep inv pk mvs}
  (hn:c.n=n) (hp:∀ p ∈ c.pins,p.1 ∈ pk):WkOk P (im T cs n keep inv pk mvs) c :=
 ⟨hT,hn,fun h S hK=>by subst hn; exact Em hT hcs hkn h S hK,fun {id ops s K a w Q} hok h S hQ=>by
  subst hn;refine GT hT hcs hkn hm hok ?_ S hQ;have e:=P1 (T:=T) (cs:=cs) (n:=c.n) (cl:=jK mvs ops) (ops:=ops) (K:=K) ops.toList (i:=0) (s:=s) (fun j hj=>by rw [Nat.zero_add,Array.getElem?_toList])
  have h':gP T cs c.n (jK mvs ops) ops 0 ops.toList s K:=h;rw [e] at h';rw [List.range_eq_range']
  simpa using h',fun h S=>zT hp h S⟩
def vEq:Value->Value->Bool
 | .int k n,.int k' n'=>decide (k=k') && decide (n=n')
 | .bool a,.bool b=>a == b
 | .string a,.string b=>a.data.toList.isEmpty && b.data.toList.isEmpty
 | .slice none 0 0,.slice none 0 0=>true
 | .pointer none,.pointer none=>true
 | .nilFunc,.nilFunc=>true
 | .nilIface,.nilIface=>true
 | _,_=>false
theorem PZ {a b:Value} (h:vEq a b=true):a=b:=by
 unfold vEq at h;split at h
 ·simp only [Bool.and_eq_true,decide_eq_true_eq] at h;rw [h.1,h.2]
 ·simp only [beq_iff_eq] at h; rw [h]
 ·rename_i a b;simp only [Bool.and_eq_true,List.isEmpty_iff] at h;have h1:a.data = #[]:=by apply Array.ext'; exact h.1
  have h2:b.data = #[]:=by apply Array.ext'; exact h.2
  cases a; cases b; simp_all
 ·rfl
 ·rfl
 ·rfl
 ·rfl
 ·cases h
def rT:List Value->List Value->Bool
 | [],[]=>true
 | a :: as,b :: bs=>vEq a b && rT as bs
 | _,_=>false
theorem Qm:∀ {as bs:List Value},rT as bs=true->as=bs:=by
 intro as
 induction as with
 | nil=>intro bs h; cases bs with | nil=>rfl | cons=>cases h
 | cons a as ih =>
  intro bs h;cases bs with
  | nil=>cases h
  | cons b bs =>
   simp only [rT,Bool.and_eq_true] at h;rw [PZ h.1,ih h.2]
def zx (P:Program) (t:Nat) (ti:TI):Bool :=
 bif ti.agg then match P.underlying t with
  | some (.struct fs)=>decide (fs.toList.map (fun f=>(f.type,f.offset))=ti.fields)
  | _=>false
 else match ti.cells,P.underlying t with
  | [.int k],some (.int k')=>decide (k=k')
  | [.bool],some .bool=>true
  | [.str],some .string=>true
  | [.sl e _],some (.slice e')=>decide (e=ti.elem) && decide (e'=e)
  | [.oth _],some (.pointer _)=>true
  | [.oth _],some (.func _ _ _)=>true
  | [.oth _],some (.interface _)=>true
  | _,_=>false
def u9 (P:Program) (t:Nat) (ti:TI):Bool:=bif ti.agg && (ti.elem == 1) then (match P.underlying t with
  | some (.struct fs)=>(match fs.toList with
   | [f1,f2]=>f1.name != "_" && f2.name != "_" && f1.offset == 0 && f2.offset == 1 && (match P.underlying f1.type with | some .string=>true | _=>false) && (match P.underlying f2.type with | some (.int _)=>true | _=>false) && !P.stoodInHeld t && !P.eqGuardType P.depth t
   | _=>false)
  | _=>false) else true
theorem Gr {P:Program} {t:Nat} {ti:TI} (h:u9 P t ti=true) (h1:ti.agg=true) (h2:ti.elem=1):oM P t:=by
 unfold u9 at h;rw [h1,h2] at h;simp only [beq_self_eq_true,Bool.and_self,cond_true] at h;split at h
 ·rename_i fs hu;split at h
  ·rename_i f1 f2 hfs;simp only [Bool.and_eq_true,bne_iff_ne,ne_eq,beq_iff_eq,Bool.not_eq_true'] at h;obtain ⟨⟨⟨⟨⟨⟨⟨n1,n2⟩,o1⟩,o2⟩,u1⟩,u2⟩,s1⟩,s2⟩:=h;have hfs':fs = #[f1,f2]:=by apply Array.ext'; exact hfs
   subst hfs';split at u1
   ·rename_i v1;split at u2
    ·rename_i k v2;exact ⟨s1,s2,f1,f2,k,hu,n1,n2,o1,o2,v1,v2⟩
    ·cases u2
   ·cases u1
  ·cases h
 ·cases h
def xJ (P:Program) (t:Nat) (ti:TI):Bool :=
 match P.info? t with
 | none=>false
 | some i=>(match i.zero with
  | none=>false
  | some z=>rT z.cells.toList (ti.cells.map TK.zero)) && decide (i.size=ti.cells.length) && decide (i.bytes=ti.bytes) && ti.cells.all TK.plain && decide (0 < ti.cells.length) && zx P t ti && u9 P t ti
theorem Px {P:Program} {t:Nat} {ti:TI} (h:xJ P t ti=true):TOk P t ti:=by
 unfold xJ at h;cases hi:P.info? t with
 | none=>rw [hi] at h; cases h
 | some i =>
  rw [hi] at h;simp only [Bool.and_eq_true,decide_eq_true_eq] at h;obtain ⟨⟨⟨⟨⟨⟨h1,h2⟩,h3⟩,h4⟩,h5⟩,h6⟩,h7⟩:=h;cases hz:i.zero with
  | none=>rw [hz] at h1; cases h1
  | some z =>
   rw [hz] at h1;refine ⟨Gr h7,⟨i,z,hi,h2,h3,hz,Qm h1⟩,fun c hc=>List.all_eq_true.1 h4 c hc,h5,?_⟩;unfold zx at h6;cases hg:ti.agg with
   | true =>
    rw [hg] at h6;simp only [cond_true] at h6;simp only [if_true];split at h6
    ·rename_i fs hu;exact ⟨fs,hu,of_decide_eq_true h6⟩
    ·cases h6
   | false =>
    rw [hg] at h6;simp only [cond_false] at h6;simp only [Bool.false_eq_true,if_false];split at h6
    ·rename_i k k' hc hu;have:=of_decide_eq_true h6;subst this;exact ⟨_,hc,hu⟩
    ·rename_i hc hu; exact ⟨_,hc,hu⟩
    ·rename_i hc hu; exact ⟨_,hc,hu⟩
    ·rename_i e k e' hc hu;simp only [Bool.and_eq_true,decide_eq_true_eq] at h6;obtain ⟨q1,q2⟩:=h6;exact ⟨_,hc,q1,by rw [hu,q2]⟩
    ·rename_i hc hu; exact ⟨_,hc,_,hu,rfl⟩
    ·rename_i hc hu; exact ⟨_,hc,_,hu,rfl⟩
    ·rename_i hc hu; exact ⟨_,hc,_,hu,rfl⟩
    ·cases h6
def xG (P:Program):List (Nat × TI)->Bool
 | []=>true
 | (t,ti) :: l=>xJ P t ti && xG P l
theorem rJ {P:Program}:∀ {l:List (Nat × TI)},xG P l=true -> ∀ t ti,ai l t=some ti->TOk P t ti:=by
 intro l
 induction l with
 | nil=>intro _ t ti h; cases h
 | cons p l ih =>
  intro h t ti hg;obtain ⟨t',ti'⟩:=p;simp only [xG,Bool.and_eq_true] at h;simp only [ai] at hg;split at hg
  ·rename_i ht; subst ht; cases hg; exact Px h.1
  ·exact ih h.2 t ti hg
def gZ:List (Nat × Con)->Nat->Option Con
 | [],_=>none
 | (g,k) :: r,f=>if g=f then some k else gZ r f
def HasL (P:Program) (l:List (Nat × Con)):Prop:=∀ f k,gZ l f=some k->Has P f k
theorem HasL.nil {P:Program}:HasL P []:=fun _ _ h=>by cases h
theorem HasL.cons {P:Program} {f:Nat} {k:Con} {l:List (Nat × Con)} (h:Has P f k) (hl:HasL P l):HasL P ((f,k) :: l):=by
 intro g k' hg;simp only [gZ] at hg;split at hg
 ·rename_i e; subst e; cases hg; exact h
 ·exact hl g k' hg
abbrev Con.fn (n:Nat) (A:Type) (args:A->List AV) (pre:A->Prop) (res:A->AV) (fin:A->List (Nat × Blk)):Con :=
 { A:=A,X:=Unit,n:=n,args:=args,boxes:=fun _=>[],pre:=pre,post:=fun _ _=>True,res:=fun a _=>res a,fin:=fun a _=>fin a }
def re (K:World->Prop):List (Nat × Con)->Prop
 | []=>True
 | p :: l=>(∀ w,K w->p.2.need w)/\re K l
theorem Ly {K:World->Prop}:∀ {l:List (Nat × Con)},re K l -> ∀ {f:Nat} {k:Con},gZ l f=some k -> ∀ w,K w->k.need w:=by
 intro l
 induction l with
 | nil=>intro _ f k hg; cases hg
 | cons p l ih =>
  intro h f k hg;obtain ⟨g,k'⟩:=p;simp only [gZ] at hg;split at hg
  ·cases hg; exact h.1
  ·exact ih h.2 hg
theorem HT {P:Program} (hm:P.follows .mixedOrders=true) {f:Nat} {fn:Func} {code:Code} {k:Con} {T:Nat->Option TI} (hT:∀ t ti,T t=some ti->TOk P t ti) {l:List (Nat × Con)} (hcs:HasL P l) (keep:List Nat) (inv:k.A->Nat->Nat->Inv) (mvs:List Nat)
  (hf:P.funcs[f]? = some fn) (hname:(fn.name == "runtime.NumGoroutine")=false) (hb:fn.body=some code) (hn:fn.ntmps=k.n) (hpos:0 < k.n) (tot:∀ a,∃ x,k.post a x) (nob:k.nob=true -> ∀ a,k.boxes a=[])
  (hc:codeOk (fun ops=>chk (gZ l) (jK mvs ops) ops) code=true) (h:∀ a,k.pre a->vc (im T (gZ l) k.n keep (inv a) (k.pk a) mvs) code (pd T fn k a) (k.start2 a)) (hbd:k.bld=(0,0,0,0):=by rfl) (hly:re k.need l:=by repeat' (first | exact trivial | exact fun _ _=>trivial | exact fun _ h=>h | apply And.intro))  (hbt:k.bty=[] \/ ∀ a,(∀ b ∈ k.boxes a,b.2.1 ∈ k.bty) /\ ∀ x,∀ p ∈ k.fin a x,∀ ty vs,p.2 = .box ty vs->ty ∈ k.bty:=by exact .inl rfl):Has P f k :=
 HR (wk:=fun a=>im T (gZ l) k.n keep (inv a) (k.pk a) mvs) hf hname hb hn hpos tot nob (fun a c hcn hp hk=>Ll hm hT hcs (fun f k' hg=>hk.mono (Ly hly hg)) hcn hp) (fun _=>hc) h hbd hbt
theorem ah {P:Program} (hm:P.follows .mixedOrders=true) {f:Nat} {fn:Func} {code:Code} {k:Con} {T:Nat->Option TI} (hT:∀ t ti,T t=some ti->TOk P t ti) {l:List (Nat × Con)} (hcs:HasL P l) (keep:List Nat) (inv:k.A->Nat->Nat->Inv) (mvs:List Nat)
  (hf:P.funcs[f]? = some fn) (hb:fn.body=some code) (tot:∀ a,∃ x,k.post a x) (h:∀ a,k.pre a->vc (im T (gZ l) k.n keep (inv a) (k.pk a) mvs) code (pd T fn k a) (k.start2 a))
  (hname:(fn.name == "runtime.NumGoroutine")=false:=by kernel_rfl) (hn:fn.ntmps=k.n:=by kernel_rfl) (hpos:0 < k.n:=by decide) (nob:k.nob=true -> ∀ a,k.boxes a=[]:=by intro h; first | exact fun _=>rfl | cases h)
  (hc:codeOk (fun ops=>chk (gZ l) (jK mvs ops) ops) code=true:=by kernel_rfl) (hbd:k.bld=(0,0,0,0):=by rfl) (hly:re k.need l:=by repeat' (first | exact trivial | exact fun _ _=>trivial | exact fun _ h=>h | apply And.intro)) (hbt:k.bty=[] \/ ∀ a,(∀ b ∈ k.boxes a,b.2.1 ∈ k.bty) /\ ∀ x,∀ p ∈ k.fin a x,∀ ty vs,p.2 = .box ty vs->ty ∈ k.bty:=by exact .inl rfl):Has P f k :=
 HT hm hT hcs keep inv mvs hf hname hb hn hpos tot nob hc h hbd hly hbt
def AD (k:Wk) (ops:Array Oper) (r:List Oper) (K:St->Prop):St->Prop:=fun s'=>kh k ops r s' K
def v6 (Q:Exit->St->Prop):St->Prop:=fun s=>Q .normal s
def qE (k:Wk) (y:Code) (Q:Exit->St->Prop):Exit->St->Prop:=fun e s=>match e with | .normal=>vc k y Q s | e=>Q e s
def qA (id:Nat) (Q:Exit->St->Prop):Exit->St->Prop:=fun e s=>match e with | .exit id'=>if id'=id then Q .normal s else Q (.exit id') s | e=>Q e s
def AC (v:AV) (c:Bool) (k:Wk) (x y:Code) (Q:Exit->St->Prop) (s:St):Prop:=match v with
 | .bool b=>c=true/\(b=true->vc k x Q s)/\(b=false->vc k y Q s)
 | _=>False
def qG (r:Option (Bool × Out)) (k:Wk) (ops:Array Oper) (o:Oper) (s:St) (K:St->Prop):Prop:=match r with
 | some (g,u)=>u.pre/\(u.pre->u.fact->K (s.next o g u.av u.puts))
 | none=>k.act ops o s K
def qD (le:St->Sc->Prop) (i:Inv) (t:i.X) (Q:Exit->St->Prop):Exit->St->Prop:=fun e s=>match e with | .normal=>∃ t',le s (i.σ t')/\i.φ t'/\i.μ t' < i.μ t | e=>Q e s
theorem P4 (k:Wk) (ops:Array Oper) (s:St) (K:St->Prop):kh k ops [] s K=K s:=rfl
theorem P3 (k:Wk) (ops:Array Oper) (o:Oper) (r:List Oper) (s:St) (K:St->Prop):kh k ops (o :: r) s K=qG (aT k.T k.n ops s.m o s) k ops o s (AD k ops r K):=rfl
theorem I0 (k:Wk) (ops:Array Oper) (r:List Oper) (K:St->Prop) (s:St):AD k ops r K s=kh k ops r s K:=rfl
theorem AG (g:Bool) (u:Out) (k:Wk) (ops:Array Oper) (o:Oper) (s:St) (K:St->Prop):qG (some (g,u)) k ops o s K=(u.pre/\(u.pre->u.fact->K (s.next o g u.av u.puts))):=rfl
theorem Jk (k:Wk) (ops:Array Oper) (o:Oper) (s:St) (K:St->Prop):qG none k ops o s K=k.act ops o s K:=rfl
theorem IY (Q:Exit->St->Prop) (s:St):v6 Q s=Q .normal s:=rfl
theorem I2 (k:Wk) (y:Code) (Q:Exit->St->Prop) (s:St):qE k y Q .normal s=vc k y Q s:=rfl
theorem I3 (k:Wk) (y:Code) (Q:Exit->St->Prop) (s:St):qE k y Q .ret s=Q .ret s:=rfl
theorem I1 (k:Wk) (y:Code) (Q:Exit->St->Prop) (i:Nat) (s:St):qE k y Q (.exit i) s=Q (.exit i) s:=rfl
theorem II (id:Nat) (Q:Exit->St->Prop) (s:St):qA id Q .normal s=Q .normal s:=rfl
theorem IJ (id:Nat) (Q:Exit->St->Prop) (s:St):qA id Q .ret s=Q .ret s:=rfl
theorem IH (id:Nat) (Q:Exit->St->Prop) (i:Nat) (s:St):qA id Q (.exit i) s=if i=id then Q .normal s else Q (.exit i) s:=rfl
theorem IV (le:St->Sc->Prop) (i:Inv) (t:i.X) (Q:Exit->St->Prop) (s:St):qD le i t Q .normal s = ∃ t',le s (i.σ t')/\i.φ t'/\i.μ t' < i.μ t:=rfl
theorem IW (le:St->Sc->Prop) (i:Inv) (t:i.X) (Q:Exit->St->Prop) (s:St):qD le i t Q .ret s=Q .ret s:=rfl
theorem IU (le:St->Sc->Prop) (i:Inv) (t:i.X) (Q:Exit->St->Prop) (j:Nat) (s:St):qD le i t Q (.exit j) s=Q (.exit j) s:=rfl
theorem IP (b c:Bool) (k:Wk) (x y:Code) (Q:Exit->St->Prop) (s:St):AC (.bool b) c k x y Q s=(c=true/\(b=true->vc k x Q s)/\(b=false->vc k y Q s)):=rfl
theorem Qj (k:Wk) (Q:Exit->St->Prop) (s:St):vc k .skip Q s=Q .normal s:=rfl
theorem Qi (k:Wk) (x y:Code) (Q:Exit->St->Prop) (s:St):vc k (.seq x y) Q s=vc k x (qE k y Q) s:=rfl
theorem P7 (k:Wk) (o:Operand) (x y:Code) (Q:Exit->St->Prop) (s:St):vc k (.cond o x y) Q s=AC (s.val o) (s.cond o) k x y Q s:=rfl
theorem P6 (k:Wk) (id:Nat) (x:Code) (Q:Exit->St->Prop) (s:St):vc k (.block id x) Q s=vc k x (qA id Q) s:=rfl
theorem P8 (k:Wk) (id:Nat) (Q:Exit->St->Prop) (s:St):vc k (.exit id) Q s=Q (.exit id) s:=rfl
theorem Qh (k:Wk) (Q:Exit->St->Prop) (s:St):vc k .ret Q s=Q .ret s:=rfl
theorem Qf (k:Wk) (id:Nat) (ops:Array Oper) (Q:Exit->St->Prop) (s:St):vc k (.region id ops false) Q s=kh k ops ops.toList (s.trim k.keep) (v6 Q):=rfl
theorem Qg (k:Wk) (id:Nat) (ops:Array Oper) (Q:Exit->St->Prop) (s:St):vc k (.region id ops true) Q s=k.dr ops (s.trim k.keep) (v6 Q):=rfl
theorem P9 (k:Wk) (x:Code) (Q:Exit->St->Prop) (s:St):vc k (.loop x) Q s=(∃ g:Nat,(∃ t,k.le s ((k.inv (eW x) g).σ t)/\(k.inv (eW x) g).φ t) /\
  ∀ t,(k.inv (eW x) g).φ t->vc k x (qD k.le (k.inv (eW x) g) t Q) ((k.inv (eW x) g).σ t).st):=rfl
def AE (T:Nat->Option TI) (cs:Nat->Option Con) (n:Nat) (cl:List Nat) (ops:Array Oper) (i:Nat) (r:List Oper) (K:St->Prop):St->Prop:=fun s'=>gP T cs n cl ops i r s' K
def md (r:Option (Bool × Out)) (o:Oper) (s:St) (K:St->Prop):Prop:=match r with
 | some (g,u)=>u.pre/\(u.pre->K (s.next o g u.av u.puts))
 | none=>False
def kS (c:Bool) (fl fb:Bool) (T:Nat->Option TI) (cs:Nat->Option Con) (n:Nat) (cl:List Nat) (i:Nat) (ops:Array Oper) (o:Oper) (s:St) (K:St->Prop):Prop :=
 bif c then ((bif fl then ldB (gh cs ops) o s else true)=true)/\((bif fb then flB o s else true)=true)/\md (aT T n ops s.m o s) o s K else ((bif fb then flB o s else true)=true)/\f7 s o=true/\d8 T cs n (cl.contains (ops.size+1+i)) ops o s K
def kH (fh:Bool) (o:Oper) (s:St) (X:Prop):Prop:=((bif fh then fhB o s else true)=true)/\X
theorem IQ (o:Oper) (s:St) (X:Prop):kH false o s X=X:=propext ⟨fun h=>h.2,fun h=>⟨rfl,h⟩⟩
theorem IR (o:Oper) (s:St) (X:Prop):kH true o s X=(fhB o s=true/\X):=rfl
theorem P2 (T:Nat->Option TI) (cs:Nat->Option Con) (n:Nat) (cl:List Nat) (ops:Array Oper) (i:Nat) (s:St) (K:St->Prop):gP T cs n cl ops i [] s K=K s:=rfl
theorem P0 (T:Nat->Option TI) (cs:Nat->Option Con) (n:Nat) (cl:List Nat) (ops:Array Oper) (i:Nat) (o:Oper) (r:List Oper) (s:St) (K:St->Prop) :
  gP T cs n cl ops i (o :: r) s K=kH (cl.contains (4 * ops.size+4+i)) o s (kS (cl.contains i) (cl.contains ops.size) (cl.contains (3 * ops.size+3+i)) T cs n cl i ops o s (AE T cs n cl ops (i+1) r K)):=rfl
theorem IZ (T:Nat->Option TI) (cs:Nat->Option Con) (n:Nat) (cl:List Nat) (ops:Array Oper) (i:Nat) (r:List Oper) (K:St->Prop) (s:St):AE T cs n cl ops i r K s=gP T cs n cl ops i r s K:=rfl
theorem Jh (T:Nat->Option TI) (cs:Nat->Option Con) (n:Nat) (cl:List Nat) (i:Nat) (ops:Array Oper) (o:Oper) (s:St) (K:St->Prop):kS true false false T cs n cl i ops o s K=md (aT T n ops s.m o s) o s K:=propext ⟨fun h=>h.2.2,fun h=>⟨rfl,rfl,h⟩⟩
theorem Ji (fb:Bool) (T:Nat->Option TI) (cs:Nat->Option Con) (n:Nat) (cl:List Nat) (i:Nat) (ops:Array Oper) (o:Oper) (s:St) (K:St->Prop):kS true true fb T cs n cl i ops o s K=(ldB (gh cs ops) o s=true/\kS true false fb T cs n cl i ops o s K):=propext ⟨fun h=>⟨h.1,rfl,h.2⟩,fun h=>⟨h.1,h.2.2⟩⟩
theorem Jg (T:Nat->Option TI) (cs:Nat->Option Con) (n:Nat) (cl:List Nat) (i:Nat) (ops:Array Oper) (o:Oper) (s:St) (K:St->Prop):kS true false true T cs n cl i ops o s K=(flB o s=true/\md (aT T n ops s.m o s) o s K):=propext ⟨fun h=>h.2,fun h=>⟨rfl,h⟩⟩
theorem Je (fl:Bool) (T:Nat->Option TI) (cs:Nat->Option Con) (n:Nat) (cl:List Nat) (i:Nat) (ops:Array Oper) (o:Oper) (s:St) (K:St->Prop):kS false fl false T cs n cl i ops o s K=(f7 s o=true/\d8 T cs n (cl.contains (ops.size+1+i)) ops o s K):=propext ⟨fun h=>h.2,fun h=>⟨rfl,h⟩⟩
theorem Jf (fl:Bool) (T:Nat->Option TI) (cs:Nat->Option Con) (n:Nat) (cl:List Nat) (i:Nat) (ops:Array Oper) (o:Oper) (s:St) (K:St->Prop):kS false fl true T cs n cl i ops o s K=(flB o s=true/\f7 s o=true/\d8 T cs n (cl.contains (ops.size+1+i)) ops o s K):=rfl
theorem AF (g:Bool) (u:Out) (o:Oper) (s:St) (K:St->Prop):md (some (g,u)) o s K=(u.pre/\(u.pre->K (s.next o g u.av u.puts))):=rfl
theorem Jd (o:Oper) (s:St) (K:St->Prop):md none o s K=False:=rfl
def mb (o:Oper) (s:St) (K:St->Prop) (av:AV) (m:Nat->Option Blk):Prop:=K (s.set o true av m)
def v8 (o:Oper) (K:St->Prop) (av:AV) (s':St):Prop:=K (s'.set o true av s'.m)
def qF (o:Oper) (g:Bool) (s:St) (K:St->Prop) (av:AV) (m:Nat->Option Blk):Prop:=K ⟨match o.dst with | some t=>upd s.e t (some (g,av)) | none=>s.e,m⟩
def qH (v:AV) (T:Nat->Option TI) (t:Nat) (s:St) (x:AV) (K:St->Prop):Prop:=match v with
 | .ptr h off=>j5 T t s h off x K
 | .eptr h i off _=>j7 T t s h i off x K
 | .sptr h i j l off k rows=>mA T t s h i j l off k rows x K
 | _=>False
def qC (w:Option Bool) (k:Con) (n:Nat) (o:Oper) (us:List AV) (c:Bool) (s:St) (K:St->Prop):Prop:=match w with
 | some g=>cW n o=true/\fZ k o.guard.isSome g (Oper.hnd o) us c s (qF o g s K)
 | none=>False
def vX (T:Nat->Option TI) (as:List Operand) (fc:Bool) (caps:List AV) (bd:Nat × Nat × Nat × Nat) (n:Nat) (o:Oper) (s:St) (K:St->Prop):Prop :=
 o.guard=none/\cW n o=true/\fc=true/\pc T bd (Oper.hnd o) s as caps (mb o s K)
def v7 (o:Oper) (s:St) (K:St->Prop) (av:AV) (m:Nat->Option Blk):Prop:=K (s.set o false av m)
theorem I4 (o:Oper) (s:St) (K:St->Prop) (av:AV) (m:Nat->Option Blk):v7 o s K av m=K (s.set o false av m):=rfl
def vZ (z:AV) (w:Option Bool) (k:Con) (n:Nat) (o:Oper) (us:List AV) (c:Bool) (s:St) (K:St->Prop):Prop:=match w with
 | some g=>cW n o=true/\(g=true->fZ k false true (Oper.hnd o) us c s (mb o s K))/\(g=false->v7 o s K z s.m)
 | none=>False
def qB (T:Nat->Option TI) (as:List Operand) (fc:Bool) (caps:List AV) (c:Option Con) (n:Nat) (ops:Array Oper) (o:Oper) (us:List AV) (cd:Bool) (s:St) (K:St->Prop):Prop:=match c with
 | none=>False
 | some k=>if k.mv then if k.bld.1 ≠ 0 then vX T as fc caps k.bld n o s K else if (k.nob || k.bld.2.1 == 0)=true then o.guard=none/\cW n o=true/\gS k (Oper.hnd o) us cd s (v8 o K) else vZ (zAV T o.type) (cS ops o s) k n o us cd s K
  else qC (cS ops o s) k n o us cd s K
def vY (T:Nat->Option TI) (as:List Operand) (fc:Bool) (f:Option (Nat × List AV)) (cs:Nat->Option Con) (n:Nat) (ops:Array Oper) (o:Oper) (us:List AV) (cd:Bool) (s:St) (K:St->Prop):Prop:=match f with
 | none=>False
 | some (f,caps)=>qB T as fc caps (cs f) n ops o (us++caps) cd s K
theorem I8 (o:Oper) (s:St) (K:St->Prop) (av:AV) (m:Nat->Option Blk):mb o s K av m=K (s.set o true av m):=rfl
theorem I5 (o:Oper) (K:St->Prop) (av:AV) (s':St):v8 o K av s'=K (s'.set o true av s'.m):=rfl
theorem I6 (d:Nat) (op:Op) (ty:Nat) (pos:String) (af:Array Edge) (gd:Option (Nat × Bool)) (g:Bool) (s:St) (K:St->Prop) (av:AV) (m:Nat->Option Blk) :
  qF ⟨some d,op,ty,pos,af,gd⟩ g s K av m=K ⟨upd s.e d (some (g,av)),m⟩:=rfl
theorem I7 (op:Op) (ty:Nat) (pos:String) (af:Array Edge) (gd:Option (Nat × Bool)) (g:Bool) (s:St) (K:St->Prop) (av:AV) (m:Nat->Option Blk) :
  qF ⟨none,op,ty,pos,af,gd⟩ g s K av m=K ⟨s.e,m⟩:=rfl
theorem Jm (h off:Nat) (T:Nat->Option TI) (t:Nat) (s:St) (x:AV) (K:St->Prop):qH (.ptr h off) T t s x K=j5 T t s h off x K:=rfl
theorem Jn (h i j l off k:Nat) (rows:List (List D)) (T:Nat->Option TI) (t:Nat) (s:St) (x:AV) (K:St->Prop):qH (.sptr h i j l off k rows) T t s x K=mA T t s h i j l off k rows x K:=rfl
theorem Jl (h i off:Nat) (ds:List D) (T:Nat->Option TI) (t:Nat) (s:St) (x:AV) (K:St->Prop):qH (.eptr h i off ds) T t s x K=j7 T t s h i off x K:=rfl
theorem IM (g:Bool) (k:Con) (n:Nat) (o:Oper) (us:List AV) (c:Bool) (s:St) (K:St->Prop):qC (some g) k n o us c s K=(cW n o=true/\fZ k o.guard.isSome g (Oper.hnd o) us c s (qF o g s K)):=rfl
theorem IL (z:AV) (g:Bool) (k:Con) (n:Nat) (o:Oper) (us:List AV) (c:Bool) (s:St) (K:St->Prop):vZ z (some g) k n o us c s K=(cW n o=true/\(g=true->fZ k false true (Oper.hnd o) us c s (mb o s K))/\(g=false->v7 o s K z s.m)):=rfl
theorem IK (T:Nat->Option TI) (as:List Operand) (fc:Bool) (caps:List AV) (k:Con) (n:Nat) (ops:Array Oper) (o:Oper) (us:List AV) (cd:Bool) (s:St) (K:St->Prop):qB T as fc caps (some k) n ops o us cd s K =
  if k.mv then if k.bld.1 ≠ 0 then vX T as fc caps k.bld n o s K else if (k.nob || k.bld.2.1 == 0)=true then o.guard=none/\cW n o=true/\gS k (Oper.hnd o) us cd s (v8 o K) else vZ (zAV T o.type) (cS ops o s) k n o us cd s K else qC (cS ops o s) k n o us cd s K:=rfl
theorem IO (T:Nat->Option TI) (as:List Operand) (fc:Bool) (f:Nat) (caps:List AV) (cs:Nat->Option Con) (n:Nat) (ops:Array Oper) (o:Oper) (us:List AV) (cd:Bool) (s:St) (K:St->Prop):vY T as fc (some (f,caps)) cs n ops o us cd s K=qB T as fc caps (cs f) n ops o (us++caps) cd s K:=rfl
section
variable (T:Nat->Option TI) (cs:Nat->Option Con) (n:Nat) (ops:Array Oper) (d:Option Nat) (ty:Nat) (pos:String) (af:Array Edge) (gd:Option (Nat × Bool)) (s:St) (K:St->Prop)
theorem Eu (t:Nat) (p x:Operand):bY T cs n ops ⟨d,.store t p x,ty,pos,af,gd⟩ s K=(gd=none/\d=none/\s.cond p=true/\s.cond x=true/\qH (s.val p) T t s (s.val x) K):=rfl
theorem Es (t len:Nat) (parts:Array (Nat × Operand)):bY T cs n ops ⟨d,.buildSlice t len parts,ty,pos,af,gd⟩ s K =
  (gd=none/\cW n ⟨d,.buildSlice t len parts,ty,pos,af,gd⟩=true/\gV T t len parts.toList (Oper.hnd ⟨d,.buildSlice t len parts,ty,pos,af,gd⟩) s (mb ⟨d,.buildSlice t len parts,ty,pos,af,gd⟩ s K)):=rfl
theorem Er (x y:Operand) (t t2:Nat):bY T cs n ops ⟨d,.call ⟨.builtin .append,#[x,y],#[t,t2]⟩,ty,pos,af,gd⟩ s K =
  (gd=none/\cW n ⟨d,.call ⟨.builtin .append,#[x,y],#[t,t2]⟩,ty,pos,af,gd⟩=true/\s.cond x=true/\s.cond y=true /\
   fy T t t2 (Oper.hnd ⟨d,.call ⟨.builtin .append,#[x,y],#[t,t2]⟩,ty,pos,af,gd⟩) s (s.val x) (s.val y) (mb ⟨d,.call ⟨.builtin .append,#[x,y],#[t,t2]⟩,ty,pos,af,gd⟩ s K)):=rfl
theorem Et (fv:Operand) (args:Array Operand) (ats:Array Nat):bY T cs n ops ⟨d,.call ⟨.value fv,args,ats⟩,ty,pos,af,gd⟩ s K =
  vY T args.toList (s.cond fv) (s.fn fv) cs n ops ⟨d,.call ⟨.value fv,args,ats⟩,ty,pos,af,gd⟩ (args.toList.map s.val) (args.toList.all s.cond && s.cond fv) s K:=by
 unfold bY vY;simp only [];cases hf:s.fn fv with
 | none=>rfl
 | some p =>
  obtain ⟨f,caps⟩:=p;simp only [qB];cases hk:cs f with
  | none=>rfl
  | some k =>
   simp only [];by_cases hm:k.mv=true
   ·rw [if_pos hm,if_pos hm];by_cases hb:k.bld.1 ≠ 0
    ·rw [if_pos hb,if_pos hb]; rfl
    ·rw [if_neg hb,if_neg hb];by_cases hg:(k.nob || k.bld.2.1 == 0)=true
     ·rw [if_pos hg,if_pos hg]; rfl
     ·rw [if_neg hg,if_neg hg]; rfl
   ·rw [if_neg hm,if_neg hm];unfold lC;simp only [hf,hk,qC];cases cS ops ⟨d,.call ⟨.value fv,args,ats⟩,ty,pos,af,gd⟩ s <;> rfl
end
section
variable (T:Nat->Option TI) (cs:Nat->Option Con) (n:Nat) (keep:List Nat) (inv:Nat->Nat->Inv) (pk mvs:List Nat)
theorem Qy:(im T cs n keep inv pk mvs).T=T:=rfl
theorem QE:(im T cs n keep inv pk mvs).n=n:=rfl
theorem QC:(im T cs n keep inv pk mvs).keep=keep:=rfl
theorem QB:(im T cs n keep inv pk mvs).inv=inv:=rfl
theorem Qz:(im T cs n keep inv pk mvs).act=jD T cs n mvs:=rfl
theorem QA (ops:Array Oper) (s:St) (K:St->Prop):(im T cs n keep inv pk mvs).dr ops s K=gP T cs n (jK mvs ops) ops 0 ops.toList s K:=rfl
theorem QD:(im T cs n keep inv pk mvs).le=Sc.from pk:=rfl
end
def kMv (o:Oper) (g:Bool) (puts:List (Nat × Blk)) (s:St) (K:St->Prop) (b:Bool):Prop:=K (s.next o g (.bool b) puts)
theorem IX (o:Oper) (g:Bool) (puts:List (Nat × Blk)) (s:St) (K:St->Prop) (b:Bool):kMv o g puts s K b=K (s.next o g (.bool b) puts):=rfl
@[simp 3000] theorem kStepC_move (g b:Bool) (P F:Prop) (puts:List (Nat × Blk)) (d:Nat) (x:Operand) (ty:Nat) (pos:String) (af:Array Edge) (gd:Option (Nat × Bool)) (s:St) (K:St->Prop) :
  md (some (g,⟨P,F,.bool b,puts⟩)) ⟨some d,.move x,ty,pos,af,gd⟩ s K=(P/\(P->(b=true->kMv ⟨some d,.move x,ty,pos,af,gd⟩ g puts s K true)/\(b=false->kMv ⟨some d,.move x,ty,pos,af,gd⟩ g puts s K false))):=by
 cases b <;> simp [AF,kMv]
@[simp 3000] theorem kStep_move (g b:Bool) (P F:Prop) (puts:List (Nat × Blk)) (d:Nat) (x:Operand) (k:Wk) (ops:Array Oper) (ty:Nat) (pos:String) (af:Array Edge) (gd:Option (Nat × Bool)) (s:St) (K:St->Prop) :
  qG (some (g,⟨P,F,.bool b,puts⟩)) k ops ⟨some d,.move x,ty,pos,af,gd⟩ s K=(P/\(P->F->(b=true->kMv ⟨some d,.move x,ty,pos,af,gd⟩ g puts s K true)/\(b=false->kMv ⟨some d,.move x,ty,pos,af,gd⟩ g puts s K false))):=by
 cases b <;> simp [AG,kMv]
def qz (T:Nat->Option TI) (cs:Nat->Option Con) (n:Nat) (ops:Array Oper) (o:Oper) (K:St->Prop):St->Prop:=fun s=>bY T cs n ops o s K
theorem IG (T:Nat->Option TI) (cs:Nat->Option Con) (n:Nat) (ops:Array Oper) (o:Oper) (K:St->Prop) (s:St):qz T cs n ops o K s=bY T cs n ops o s K:=rfl
theorem I9 (te:TI) (t g:Nat) (K:St->Prop) (s:St):wa te t g K s=fV te t g s K:=rfl
section
variable (T:Nat->Option TI) (cs:Nat->Option Con) (n:Nat) (mvs:List Nat) (ops:Array Oper) (d:Option Nat) (ty:Nat) (pos:String) (af:Array Edge) (gd:Option (Nat × Bool)) (s:St) (K:St->Prop)
theorem El (t:Nat) (p x:Operand):jD T cs n mvs ops ⟨d,.store t p x,ty,pos,af,gd⟩ s K=bY T cs n ops ⟨d,.store t p x,ty,pos,af,gd⟩ s K:=rfl
theorem Ek (fv:Operand) (args:Array Operand) (ats:Array Nat):jD T cs n mvs ops ⟨d,.call ⟨.value fv,args,ats⟩,ty,pos,af,gd⟩ s K=bY T cs n ops ⟨d,.call ⟨.value fv,args,ats⟩,ty,pos,af,gd⟩ s K:=rfl
theorem Ep (x y:Operand) (t t2:Nat):d8 T cs n true ops ⟨d,.call ⟨.builtin .append,#[x,y],#[t,t2]⟩,ty,pos,af,gd⟩ s K =
  iY T x t (Oper.hnd ⟨d,.call ⟨.builtin .append,#[x,y],#[t,t2]⟩,ty,pos,af,gd⟩+1) (qz T cs n ops ⟨d,.call ⟨.builtin .append,#[x,y],#[t,t2]⟩,ty,pos,af,gd⟩ K) s:=rfl
theorem Ei (x y:Operand) (t t2:Nat):jD T cs n mvs ops ⟨d,.call ⟨.builtin .append,#[x,y],#[t,t2]⟩,ty,pos,af,gd⟩ s K =
  iY T x t (Oper.hnd ⟨d,.call ⟨.builtin .append,#[x,y],#[t,t2]⟩,ty,pos,af,gd⟩+1) (qz T cs n ops ⟨d,.call ⟨.builtin .append,#[x,y],#[t,t2]⟩,ty,pos,af,gd⟩ K) s:=rfl
theorem O2 (q t g:Nat):iY T (.tmp q) t g K s=mc (s.val (.tmp q)).isSub T t q g K s:=rfl
theorem O1 (v:Value) (t g:Nat):iY T (.const v) t g K s=K s:=rfl
theorem Jc (t q g:Nat):mc true T t q g K s=(match T t with | some ts=>fV ts q g s K | none=>K s):=rfl
theorem Jb (t q g:Nat):mc false T t q g K s=K s:=rfl
theorem Ej (t len:Nat) (parts:Array (Nat × Operand)):jD T cs n mvs ops ⟨d,.buildSlice t len parts,ty,pos,af,gd⟩ s K =
  (bif shr mvs d then nO (aT T n ops (iX (parts.toList.map (·.2)) s).m ⟨d,.buildSlice t len parts,ty,pos,af,gd⟩ (iX (parts.toList.map (·.2)) s)) ⟨d,.buildSlice t len parts,ty,pos,af,gd⟩ (iX (parts.toList.map (·.2)) s) K
   else lj T t (Oper.hnd ⟨d,.buildSlice t len parts,ty,pos,af,gd⟩) parts.toList (qz T cs n ops ⟨d,.buildSlice t len parts,ty,pos,af,gd⟩ K) s):=rfl
theorem ON (t:Nat):shr mvs (some t)=mvs.contains (t+4096):=rfl
end
theorem dW {j:Nat} {b blk:Blk} {h:Nat} (hm:ai [(j,b)] h=some blk):h=j/\blk=b:=by
 simp only [Hy] at hm;by_cases e:j=h
 ·rw [if_pos e] at hm; exact ⟨e.symm,(Option.some.inj hm).symm⟩
 ·rw [if_neg e] at hm; cases hm
theorem L5 {c:Cx} {s:St} {a:Act} {w w':World} {β:Nat->Value} {fp:Nat->List (Nat × Nat)} (S:SatI c s a w β fp) (hp:c.pins=[]) {e k:Nat} {R:List (List D)} {b' cap':Nat} {cs':Array Value} {f:List (Nat × Nat)}
  (hk:0 < k) (hrows:∀ r ∈ R,r.length=k) (hblk:w'.heap[b']? = some (.cells cs' e (0,0))) (hcap:R.length<=cap') (hmax:cap'<=maxLen) (hsz:cs'.size=cap' * k)
  (hrd:RdL true w' R.flatten (cs'.toList.take (R.length * k)) f) (hnd:(b' :: f.map (·.1)).Nodup) (hfree:∀ x ∈ b' :: f.map (·.1),¬ c.G x) (hG:∀ b,c.G b->w'.heap[b]? = w.heap[b]?)
  (hsize:w.heap.size<=w'.heap.size) (hos:w'.os=w.os) (htape:w'.tape=w.tape) (hout:w'.output=w.output) :
  ∃ β' fp' a',SatI c ⟨fun _=>none,ai [(8,.own e k true R)]⟩ a' w' β' fp'/\RelL w' (ai [(8,.own e k true R)]) β' c [.own 8 k R] [.slice (some ⟨b',0,none⟩) R.length cap']:=by
 have hb:BlkOk w' (ai [(8,Blk.own e k true R)]) (fun _=>.slice (some ⟨b',0,none⟩) R.length cap') c 8 f (.own e k true R) :=
  ⟨hk,hrows,.inr ⟨b',cap',cs',f,rfl,hblk,hcap,hmax,hsz,hrd,fun _=>rfl,by simp⟩⟩
 have hob:Ob (fun _=>.slice (some ⟨b',0,none⟩) R.length cap') 8 f (.own e k true R)=b' :: f.map (·.1):=by simp [Ob]
 refine ⟨fun _=>.slice (some ⟨b',0,none⟩) R.length cap',fun _=>f,⟨Array.replicate c.n undef,[]⟩,⟨?_,?_,?_,?_,?_,S.fg,fun b hb=>⟨(S.old b hb).1,(hG b hb).trans (S.old b hb).2⟩,hos.trans S.os,htape.trans S.tape,hout.trans S.output,Nat.le_trans S.size hsize,rfl,by simp,by simp [hp]⟩,?_⟩
 ·intro t g av h; cases h
 ·intro h blk hm; obtain ⟨rfl,rfl⟩:=dW hm; exact hb
 ·intro h blk hm; obtain ⟨rfl,rfl⟩:=dW hm; rw [hob]; exact hnd
 ·intro h h' blk blk' hm hm' hne; obtain ⟨rfl,rfl⟩:=dW hm; obtain ⟨rfl,rfl⟩:=dW hm'; exact absurd rfl hne
 ·intro h blk hm x hx; obtain ⟨rfl,rfl⟩:=dW hm; rw [hob] at hx; exact hfree x hx
 ·exact iu (h:=8) (fps:=fun _=>f) rfl hb (by rw [hob]; exact hnd) (fun h' blk' hm hne=>by obtain ⟨rfl,rfl⟩:=dW hm; exact absurd rfl hne) (by rw [hob]; exact hfree)
theorem Aq {c:Cx} {s:St} {a:Act} {w w':World} {β:Nat->Value} {fp:Nat->List (Nat × Nat)} (S:SatI c s a w β fp) (hp:c.pins=[]) {e k:Nat} {R r:List (List D)} {olds news:List Value} {i b' cap':Nat} {cs':Array Value}
  (h0:s.m 0=some (.own e k true R)) (h1:s.m 1=some (.own e k true r)) (hi:i<=R.length) (hR:RdL true w R.flatten olds (fp 0)) (hr:RdL true w r.flatten news (fp 1))
  (hblk:w'.heap[b']? = some (.cells cs' e (0,0))) (hcap:R.length+r.length<=cap') (hmax:cap'<=maxLen) (hsz:cs'.size=cap' * k)
  (hcells:cs'.toList.take ((R.length+r.length) * k)=olds.take (i * k)++(news++olds.drop (i * k)))
  (hb':w.heap.size<=b' \/ ∃ n cc,β 0 = .slice (some ⟨b',0,none⟩) n cc) (hother:∀ x,x < w.heap.size->(∀ n cc,β 0 ≠ .slice (some ⟨x,0,none⟩) n cc)->w'.heap[x]? = w.heap[x]?)
  (hsize:w.heap.size<=w'.heap.size) (hos:w'.os=w.os) (htape:w'.tape=w.tape) (hout:w'.output=w.output) :
  ∃ β' fp' a',SatI c ⟨fun _=>none,ai [(8,.own e k true (R.take i++(r++R.drop i)))]⟩ a' w' β' fp'/\RelL w' (ai [(8,.own e k true (R.take i++(r++R.drop i)))]) β' c [.own 8 k (R.take i++(r++R.drop i))] [.slice (some ⟨b',0,none⟩) (R.length+r.length) cap']:=by
 have B0:=S.mem 0 _ h0;have B1:=S.mem 1 _ h1;have hk:0 < k:=B0.1;have hrR:∀ x ∈ R,x.length=k:=B0.2.1;have hrr:∀ x ∈ r,x.length=k:=B1.2.1;have hlen:(R.take i++(r++R.drop i)).length=R.length+r.length:=by simp; omega
 have hol:olds.length=R.length * k:=by rw [<- hR.length,eX hrR]
 have hR':=hR;rw [show R.flatten=(R.take i).flatten++(R.drop i).flatten by rw [<- List.flatten_append,List.take_append_drop]] at hR'
 have hl1:((R.take i).flatten).length=i * k:=by rw [eX fun x hx=>hrR x (List.mem_of_mem_take hx),List.length_take,Nat.min_eq_left hi]
 obtain ⟨g1,g2,hg,s1,s2⟩:=hR'.split (i * k);rw [List.take_append_of_le_length (by omega),List.take_of_length_le (by omega)] at s1
 rw [List.drop_append_of_le_length (by omega),List.drop_of_length_le (by omega),List.nil_append] at s2
 have hob0:∀ z ∈ fp 0,z.1 ∈ Ob β 0 (fp 0) (.own e k true R):=fun z hz=>by simp only [Ob,List.mem_append,List.mem_map]; exact .inr ⟨z,hz,rfl⟩
 have hob1:∀ z ∈ fp 1,z.1 ∈ Ob β 1 (fp 1) (.own e k true r):=fun z hz=>by simp only [Ob,List.mem_append,List.mem_map]; exact .inr ⟨z,hz,rfl⟩
 have hn0:∀ z ∈ fp 0,∀ n cc,β 0 ≠ .slice (some ⟨z.1,0,none⟩) n cc:=fun z hz n cc hv=>by
  have hnd:=S.nodup 0 _ h0;simp only [Ob,hv,List.cons_append,List.nil_append,List.nodup_cons,List.mem_map,not_exists,not_and] at hnd;exact hnd.1 z hz rfl
 have hn1:∀ z ∈ fp 1,∀ n cc,β 0 ≠ .slice (some ⟨z.1,0,none⟩) n cc:=fun z hz n cc hv =>
  S.disj 1 0 _ _ h1 h0 (by decide) z.1 (hob1 z hz) (by simp [Ob,hv])
 have keep:∀ {ds vs f},RdL true w ds vs f->(∀ z ∈ f,∀ n cc,β 0 ≠ .slice (some ⟨z.1,0,none⟩) n cc)->RdL true w' ds vs f:=fun h hn =>
  h.keep fun z hz=>⟨.of_same (hother _ (h.lt z hz) (hn z hz)),fun _=>hother _ (h.lt z hz) (hn z hz)⟩
 have hin:∀ z,z ∈ g1 \/ z ∈ g2->z ∈ fp 0:=fun z hz=>by rw [hg]; simpa using hz
 have hrd:RdL true w' (R.take i++(r++R.drop i)).flatten (cs'.toList.take ((R.take i++(r++R.drop i)).length * k)) (g1++(fp 1++g2)):=by
  rw [hlen,hcells,List.flatten_append,List.flatten_append];exact (keep s1 fun z hz=>hn0 z (hin z (.inl hz))).append ((keep hr hn1).append (keep s2 fun z hz=>hn0 z (hin z (.inr hz))))
 have hnd0:((fp 0).map (·.1)).Nodup:=by
  have:=S.nodup 0 _ h0;simp only [Ob] at this;exact (List.nodup_append.1 this).2.1
 have hnd1:((fp 1).map (·.1)).Nodup:=by
  have:=S.nodup 1 _ h1;simp only [Ob] at this;exact (List.nodup_append.1 this).2.1
 have hmem:∀ x,x ∈ (g1++(fp 1++g2)).map (·.1)->(∃ z ∈ fp 0,z.1=x) \/ ∃ z ∈ fp 1,z.1=x:=by
  intro x hx;simp only [List.map_append,List.mem_append,List.mem_map] at hx;rcases hx with ⟨z,hz,rfl⟩ | ⟨z,hz,rfl⟩ | ⟨z,hz,rfl⟩
  ·exact .inl ⟨z,hin z (.inl hz),rfl⟩
  ·exact .inr ⟨z,hz,rfl⟩
  ·exact .inl ⟨z,hin z (.inr hz),rfl⟩
 have hlt0:∀ z ∈ fp 0,z.1 < w.heap.size:=fun z hz=>hR.lt z hz;have hlt1:∀ z ∈ fp 1,z.1 < w.heap.size:=fun z hz=>hr.lt z hz;have hGlt:∀ b,c.G b->b < w.heap.size:=fun b hG=>Nat.lt_of_lt_of_le (S.old b hG).1 S.size;have hv0:∀ x,(∃ n cc,β 0 = .slice (some ⟨x,0,none⟩) n cc)->x ∈ Ob β 0 (fp 0) (.own e k true R):=fun x ⟨n,cc,hv⟩=>by simp [Ob,hv]
 have:=L5 (w':=w') S hp hk (fun x hx=>by
   simp only [List.mem_append] at hx;rcases hx with hx | hx | hx
   ·exact hrR x (List.mem_of_mem_take hx)
   ·exact hrr x hx
   ·exact hrR x (List.mem_of_mem_drop hx)) hblk (by rw [hlen]; exact hcap) hmax hsz hrd (by
   rw [List.nodup_cons];refine ⟨fun hx=>?_,?_⟩
   ·rcases hmem _ hx with ⟨z,hz,e⟩ | ⟨z,hz,e⟩
    ·rcases hb' with hb' | ⟨n,cc,hv⟩
     ·have:=hlt0 z hz; omega
     ·exact hn0 z hz n cc (by rw [e]; exact hv)
    ·rcases hb' with hb' | ⟨n,cc,hv⟩
     ·have:=hlt1 z hz; omega
     ·exact hn1 z hz n cc (by rw [e]; exact hv)
   ·rw [hg] at hnd0;simp only [List.map_append,List.nodup_append,List.mem_append] at hnd0 ⊢;refine ⟨hnd0.1,⟨hnd1,hnd0.2.1,?_⟩,?_⟩
    ·intro x hx y hy hxy;obtain ⟨z1,hz1,rfl⟩:=List.mem_map.1 hx;obtain ⟨z2,hz2,rfl⟩:=List.mem_map.1 hy;exact S.disj 1 0 _ _ h1 h0 (by decide) z1.1 (hob1 z1 hz1) (by rw [hxy]; exact hob0 z2 (hin z2 (.inr hz2)))
    ·intro x hx y hy hxy;obtain ⟨z1,hz1,rfl⟩:=List.mem_map.1 hx;rcases hy with hy | hy
     ·obtain ⟨z2,hz2,rfl⟩:=List.mem_map.1 hy;exact S.disj 0 1 _ _ h0 h1 (by decide) z1.1 (hob0 z1 (hin z1 (.inl hz1))) (by rw [hxy]; exact hob1 z2 hz2)
     ·exact hnd0.2.2 _ hx _ hy hxy) (fun x hx=>by
   rcases List.mem_cons.1 hx with rfl | hx
   ·rcases hb' with hb' | hv
    ·intro hG; have:=hGlt _ hG; omega
    ·exact S.free 0 _ h0 _ (hv0 _ hv)
   ·rcases hmem _ hx with ⟨z,hz,rfl⟩ | ⟨z,hz,rfl⟩
    ·exact S.free 0 _ h0 _ (hob0 z hz)
    ·exact S.free 1 _ h1 _ (hob1 z hz)) (fun b hG=>hother b (hGlt b hG) fun n cc hv=>S.free 0 _ h0 b (hv0 b ⟨n,cc,hv⟩) hG) hsize hos htape hout
 rw [hlen] at this;exact this
inductive Shp (T:Nat->Option TI):List TK->List D->Prop
 | nil:Shp T [] []
 | int {k n ks ds}:(Lit.int k n).wf=true->Shp T ks ds->Shp T (.int k :: ks) (.int k n :: ds)
 | bool {b ks ds}:Shp T ks ds->Shp T (.bool :: ks) (.bool b :: ds)
 | str {s ks ds}:s.length<=maxLen->Shp T ks ds->Shp T (.str :: ks) (.str s :: ds)
 | sl {e k te rows ks ds}:T e=some te->(∀ r,r ∈ rows->Shp T te.cells r)->Shp T ks ds->Shp T (.sl e k :: ks) (.sl e k rows :: ds)
theorem Shp.append {T ks ds ks' ds'} (h:Shp T ks ds) (h':Shp T ks' ds'):Shp T (ks++ks') (ds++ds'):=by
 induction h with
 | nil=>exact h'
 | int q _ ih=>exact .int q ih
 | bool _ ih=>exact .bool ih
 | str q _ ih=>exact .str q ih
 | sl q1 q2 _ _ ih=>exact .sl q1 q2 ih
theorem Shp.length {T ks ds} (h:Shp T ks ds):ds.length=ks.length:=by
 induction h <;> simp_all
def xL:TK->TK->Bool
 | .int k,.int k'=>decide (k=k')
 | .bool,.bool=>true
 | .str,.str=>true
 | .sl e k,.sl e' k'=>decide (e=e') && decide (k=k')
 | _,_=>false
theorem PA {a b:TK} (h:xL a b=true):a=b:=by cases a <;> cases b <;> simp [xL] at h <;> simp [h]
def rQ:List TK->List TK->Bool
 | [],[]=>true
 | a :: as,b :: bs=>xL a b && rQ as bs
 | _,_=>false
theorem DG:∀ {xs ys:List TK},rQ xs ys=true->xs=ys
 | [],[],_=>rfl
 | [],_ :: _,h=>by cases h
 | _ :: _,[],h=>by cases h
 | a :: xs,b :: ys,h=>by
  simp only [rQ,Bool.and_eq_true] at h;rw [PA h.1,DG h.2]
def oH (tab:List (Nat × TI)):List (Nat × Nat)->Nat->List TK->Bool
 | [],_,cs=>cs.isEmpty
 | (t,o) :: r,off,cs=>decide (o=off) && (match ai tab t with
  | some ti=>rQ (cs.take ti.cells.length) ti.cells && oH tab r (off+ti.cells.length) (cs.drop ti.cells.length)
  | none=>false)
def oG (tab:List (Nat × TI)) (ti:TI):Bool :=
 bif ti.agg then oH tab ti.fields 0 ti.cells else match ti.cells with
  | [.int _]=>true
  | [.bool]=>true
  | [.str]=>true
  | [.sl e k]=>match ai tab e with
   | some te=>decide (te.cells.length=k)
   | none=>false
  | _=>false
def rK (tab:List (Nat × TI)):Bool:=tab.all fun p=>oG tab p.2
theorem Pt {tab:List (Nat × TI)} (h:rK tab=true) {t ti} (hg:ai tab t=some ti):oG tab ti=true:=by
 unfold rK at h;rw [List.all_eq_true] at h
 suffices H:∀ l:List (Nat × TI),(∀ x ∈ l,oG tab x.2=true)->ai l t=some ti->oG tab ti=true from H tab h hg
 intro l
 induction l with
 | nil=>intro _ h; cases h
 | cons p l ih =>
  intro hl hg;obtain ⟨k,v⟩:=p;simp only [ai] at hg;split at hg
  ·cases hg; exact hl (k,ti) (by simp)
  ·exact ih (fun x hx=>hl x (by simp [hx])) hg
theorem addr_add_add (a:Addr) (x y:Nat):(a.add x).add y=a.add (x+y):=by
 unfold Addr.add;by_cases hx:x=0
 ·subst hx; simp
 ·by_cases hy:y=0
  ·subst hy; simp
  ·simp [hx,hy,Nat.add_assoc]
theorem uY {P:Program} {t:Nat} {ti:TI} (h:TOk P t ti):P.cellsOf t=ti.cells.length:=by
 obtain ⟨i,z,h1,h2,_⟩:=h.info;simp [Program.cellsOf,h1,h2]
section
variable {P:Program} {tab:List (Nat × TI)} (hT:∀ t ti,ai tab t=some ti->TOk P t ti) (hok:rK tab=true) {H:Type} {enc:TypeId × Value->H} {w:World} {sp:Nat->Bool} {held:Bool}
include hT hok
theorem CU:∀ (fuel:Nat) {t:Nat} {ti:TI} {cs:List Value} {x:DataW H × List MemPlace},ai tab t=some ti->DataW.trod enc P w 0 sp held fuel t cs=some x ->
  ∃ ds fp,RdL false w ds cs fp/\Shp (ai tab) ti.cells ds:=by
 intro fuel
 induction fuel with
 | zero=>intro t ti cs x _ h; simp [DataW.trod] at h
 | succ fuel ih =>
  intro t ti cs x ht h;have K:=hT t ti ht;have hc:=Pt hok ht;have hd:=K.desc;unfold oG at hc;cases hg:ti.agg with
  | false =>
   rw [hg] at hc hd;simp only [cond_false,Bool.false_eq_true,if_false] at hc hd;obtain ⟨c,hcs,hd⟩:=hd;rw [hcs] at hc ⊢;cases c with
   | int k =>
    obtain ⟨n,rfl,_,hw⟩:=DataW.trod_int hd h;exact ⟨[.int k n],[],.int .nil,.int hw .nil⟩
   | bool =>
    obtain ⟨b,rfl,_⟩:=DataW.trod_bool hd h;exact ⟨[.bool b],[],.bool .nil,.bool .nil⟩
   | str =>
    obtain ⟨s,rfl,_,hs⟩:=DataW.trod_string hd h;have hl:s.data.toList.length<=maxLen:=by simpa using hs
    refine ⟨[.str s.data.toList],[],?_,.str hl .nil⟩;have:=RdL.str (q:=false) (w:=w) (s:=s.data.toList) hl .nil
    simpa using this
   | oth z=>simp at hc
   | sl e k =>
    obtain ⟨he,hu⟩:=hd;simp only at hc;cases hte:ai tab e with
    | none=>rw [hte] at hc; cases hc
    | some te =>
     rw [hte] at hc;have hk:te.cells.length=k:=of_decide_eq_true hc;have Ke:=hT e te hte;have hke:=uY Ke;rcases DataW.trod_slice hu h with ⟨rfl,_⟩ | ⟨a,len,cap,elems,rest,n,hn,rfl,_,_,hle,hmx,hlen,hel,_,_⟩
     ·exact ⟨[.sl e k []],[],.sl0 (by unfold maxLen; omega) (by simp) .nil,.sl hte (by simp) .nil⟩
     ·obtain rfl:n=fuel:=by omega
      by_cases h0:len=0
      ·subst h0;exact ⟨[.sl e k []],[],.sl0 hmx (by simp) .nil,.sl hte (by simp) .nil⟩
      ·rw [hke,hk] at hel;have key:∀ m,m<=len -> ∃ (rows:List (List D)) (cvs:List Value) (f:List (Nat × Nat)),rows.length=m/\(∀ r ∈ rows,r.length=k/\Shp (ai tab) te.cells r)/\RdL false w rows.flatten cvs f/\cvs.length=m * k /\
         ∀ j,j < m * k->w.cell? (a.add j)=cvs[j]?:=by
        intro m
        induction m with
        | zero=>intro _; exact ⟨[],[],[],rfl,by simp,.nil,by simp,by simp⟩
        | succ m ihm =>
         intro hm;obtain ⟨rows,cvs,f,q1,q2,q3,q4,q5⟩:=ihm (by omega)
         have hi:=hel m (by omega)
         have hsome:elems[m]? = some (elems[m]'(by omega)):=List.getElem?_eq_getElem (by omega)
         rw [hsome] at hi;simp only [Option.bind_eq_some_iff] at hi;obtain ⟨csi,hi1,hi2⟩:=hi;obtain ⟨_,hl,hcell⟩:=World.cells?_some hi1;obtain ⟨ds,fi,r1,r2⟩:=ih hte hi2;refine ⟨rows++[ds],cvs++csi,f++fi,by simp [q1],?_,?_,?_,?_⟩
         ·intro r hr;rcases List.mem_append.1 hr with hr | hr
          ·exact q2 r hr
          ·simp only [List.mem_singleton] at hr;subst hr;exact ⟨by rw [r2.length,hk],r2⟩
         ·have:=q3.append r1
          simpa using this
         ·simp [q4,hl,Nat.succ_mul]
         ·intro j hj;rw [Nat.succ_mul] at hj;by_cases hjm:j < m * k
          ·rw [q5 j hjm,List.getElem?_append_left (by omega)]
          ·have:=hcell (j - m * k) (by omega)
           rw [addr_add_add,show m * k+(j - m * k)=j by omega] at this
           rw [this,List.getElem?_append_right (by omega),q4]
       obtain ⟨rows,cvs,f,q1,q2,q3,q4,q5⟩:=key len (Nat.le_refl _);have hpos:0 < k:=by rw [<- hk]; exact Ke.pos
       have hlk:0 < len * k:=Nat.mul_pos (by omega) hpos
       have h00:=q5 0 hlk;rw [List.getElem?_eq_getElem (by omega)] at h00
       have ea:a.add 0=a:=by simp [Addr.add]
       rw [ea] at h00;unfold World.cell? at h00;obtain ⟨b,off,spot⟩:=a;split at h00
       ·rename_i cells ty fr hb;split at h00
        ·cases h00
        ·rename_i hspot;simp only [Bool.not_eq_true,Option.isSome_eq_false_iff,Option.isNone_iff_eq_none] at hspot;simp only at hspot hb;subst hspot;refine ⟨[.sl e k rows],(b,off+cvs.length) :: (f++[]),.sl q1 (.inr (by omega)) hle hmx (fun r hr=>(q2 r hr).1) hb (by simp) ?_ q3 .nil,.sl hte (fun r hr=>(q2 r hr).2) .nil⟩
         intro j u hu;have hj:j < cvs.length:=(List.getElem?_eq_some_iff.1 hu).1;have:=q5 j (by omega)
         rw [hu] at this;by_cases hj0:j=0
         ·subst hj0
          simpa [Addr.add,World.cell?,hb] using this
         ·simpa [Addr.add,World.cell?,hb,hj0] using this
       ·cases h00
  | true =>
   rw [hg] at hc hd;simp only [cond_true,if_true] at hc hd;obtain ⟨fs,hu,hf⟩:=hd;obtain ⟨xs,n,hn,_,hl,hxl,hfs⟩:=DataW.trod_struct hu h;obtain rfl:n=fuel:=by omega
   rw [uY K] at hl;have aux:∀ (fl:List Field) (off:Nat) (ks:List TK),oH tab (fl.map fun f=>(f.type,f.offset)) off ks=true->(cs.drop off).length=ks.length ->
     (∀ f ∈ fl,∃ y,DataW.trod enc P w 0 sp held n f.type ((cs.drop f.offset).take (P.cellsOf f.type))=some y) -> ∃ ds fp,RdL false w ds (cs.drop off) fp/\Shp (ai tab) ks ds:=by
    intro fl
    induction fl with
    | nil =>
     intro off ks hk hl _;simp only [List.map_nil,oH,List.isEmpty_iff] at hk;subst hk;simp only [List.length_nil,List.length_eq_zero_iff] at hl;rw [hl];exact ⟨[],[],.nil,.nil⟩
    | cons f fl ihf =>
     intro off ks hk hl hall;simp only [List.map_cons,oH,Bool.and_eq_true,decide_eq_true_eq] at hk;obtain ⟨rfl,hk⟩:=hk;cases hft:ai tab f.type with
     | none=>rw [hft] at hk; cases hk
     | some tf =>
      rw [hft] at hk;simp only [Bool.and_eq_true] at hk;obtain ⟨hk1,hk2⟩:=hk;have hk1:=DG hk1;obtain ⟨y,hy⟩:=hall f (by simp)
      rw [uY (hT _ _ hft)] at hy;obtain ⟨ds1,f1,a1,a2⟩:=ih hft hy;have hkl:tf.cells.length<=ks.length:=by rw [<- hk1,List.length_take]; omega
      obtain ⟨ds2,f2,b1,b2⟩:=ihf (f.offset+tf.cells.length) (ks.drop tf.cells.length) hk2 (by simp only [List.length_drop] at hl ⊢; omega) (fun g hg=>hall g (by simp [hg]))
      refine ⟨ds1++ds2,f1++f2,?_,?_⟩
      ·have:=a1.append b1;rw [<- List.drop_drop,List.take_append_drop] at this;exact this
      ·have:=a2.append b2;have e:tf.cells++ks.drop tf.cells.length=ks:=by
        conv=>lhs; lhs; rw [<- hk1]
        exact List.take_append_drop _ _
       rwa [e] at this
   have:=aux fs.toList 0 ti.cells (by rw [hf]; exact hc) (by simpa using hl) (fun f hf=>by
    obtain ⟨i,hi,rfl⟩:=List.getElem_of_mem hf;have hi':i < fs.size:=by simpa using hi
    have:=hfs i fs[i] (Array.getElem?_eq_getElem hi');refine ⟨xs[i]'(by omega),?_⟩
    rw [List.getElem?_eq_getElem (by omega)] at this
    simpa using this)
   simpa using this
end
inductive RdArgs (w:World):List AV->List Value->List (Nat × Nat)->Prop
 | nil:RdArgs w [] [] []
 | int {k n as vs f}:RdArgs w as vs f->RdArgs w (.int k n :: as) (.int k n :: vs) f
 | bool {b as vs f}:RdArgs w as vs f->RdArgs w (.bool b :: as) (.bool b :: vs) f
 | str {s as vs f}:s.length<=maxLen->RdArgs w as vs f->RdArgs w (.str s :: as) (.string ⟨s.toArray⟩ :: vs) f
 | sl {e k rows v as vs f f'}:RdL false w [.sl e k rows] [v] f->RdArgs w as vs f'->RdArgs w (.sl true k rows :: as) (v :: vs) (f++f')
 | agg {bs us as vs f f'}:RdArgs w bs us f->(∀ u ∈ us,u.oneCell'=true)->RdArgs w as vs f'->RdArgs w (.agg bs :: as) (.agg us.toArray :: vs) (f++f')
theorem RdArgs.lt {w as vs f} (h:RdArgs w as vs f):∀ x ∈ f,x.1 < w.heap.size:=by
 induction h with
 | nil=>intro x hx; cases hx
 | sl h1 _ ih=>intro x hx; rcases List.mem_append.1 hx with hx | hx; exact h1.lt x hx; exact ih x hx
 | agg _ _ _ ih1 ih2=>intro x hx; rcases List.mem_append.1 hx with hx | hx; exact ih1 x hx; exact ih2 x hx
 | _=>assumption
theorem RdArgs.rel {w as vs f} (h:RdArgs w as vs f) {c:Cx} {β:Nat->Value}:(∀ x ∈ f,c.F x)->RelL w (fun _=>none) β c as vs:=by
 have L:∀ x,Lim (fun _=>none) β x:=by
  intro x;refine ⟨?_,?_⟩
  ·rintro ⟨h,ty,us,hm,_⟩; cases hm
  ·intro h e k d R n c' hm; cases hm
 induction h with
 | nil=>intro _; exact .lnil
 | int _ ih=>intro k; exact .int (ih k)
 | bool _ ih=>intro k; exact .bool (ih k)
 | str hs _ ih=>intro k; exact .str hs (ih k)
 | sl h1 _ ih=>intro k; exact .sl ⟨_,_,h1,fun x hx=>⟨L x,.inl (k x (by simp [hx]))⟩⟩ (ih fun x hx=>k x (by simp [hx]))
 | agg _ h2 _ ih1 ih2=>intro k; exact .agg (ih1 fun x hx=>k x (by simp [hx])) h2 (ih2 fun x hx=>k x (by simp [hx]))
theorem NG {w m β c}:∀ {xs:List AV} {vs:List Value} {i:Nat} {v:AV},RelL w m β c xs vs->xs[i]? = some v -> ∃ u,vs[i]? = some u/\RelL w m β c [v] [u]:=by
 intro xs
 induction xs with
 | nil=>intro vs i v _ h; simp at h
 | cons x xs ih =>
  intro vs i v hr h;obtain ⟨u,us,rfl,h1,h2⟩:=hr.uncons;cases i with
  | zero=>simp at h; subst h; exact ⟨u,rfl,h1⟩
  | succ i=>simpa using ih h2 (by simpa using h)
theorem O4 {k:Con} {x:k.A} {W:World} {vs:List Value} {f:List (Nat × Nat)} (hb:k.boxes x=[]) (ho:k.owns x=[]) (h:RdArgs W (k.args x) vs f) (hn:vs.length<=k.n) :
  SatI ⟨f,fun b=>b < W.heap.size,W,k.n,[]⟩ (k.start2 x) ⟨vs.toArray++Array.replicate (k.n - vs.length) undef,[]⟩ W (fun _=>undef) (fun _=>[]):=by
 have hm:(k.start2 x).m=fun _=>none:=by simp [Con.start2,hb,ho]; rfl
 have hrel:=h.rel (c:=⟨f,fun b=>b < W.heap.size,W,k.n,[]⟩) (β:=fun _=>undef) (fun z hz=>⟨z,hz,rfl,Nat.le_refl _⟩);refine ⟨?_,?_,?_,?_,?_,?_,?_,rfl,rfl,rfl,Nat.le_refl _,rfl,?_,?_⟩
 ·intro t g av ht;simp only [Con.start2,Option.map_eq_some_iff] at ht;obtain ⟨v,hv,he⟩:=ht;cases he;obtain ⟨u,hu,hr⟩:=NG hrel hv;have hlt:t < vs.length:=(List.getElem?_eq_some_iff.1 hu).1;refine ⟨by simp; omega,fun _=>?_,by simp⟩
  have e:(vs.toArray++Array.replicate (k.n - vs.length) undef).getD t undef=u:=by
   rw [Array.getD_eq_getD_getElem?,Array.getElem?_append_left (by simpa using hlt)]
   simp [hu]
  rw [e,hm];exact hr
 ·intro h' blk hh; rw [hm] at hh; cases hh
 ·intro h' blk hh; rw [hm] at hh; cases hh
 ·intro h1 h2 b1 b2 hh; rw [hm] at hh; cases hh
 ·intro h' blk hh; rw [hm] at hh; cases hh
 ·rintro z ⟨y,hy,e1,_⟩;rw [e1]; exact h.lt y hy
 ·intro b hb'; exact ⟨hb',rfl⟩
 ·simp; omega
 ·intro p hp; cases hp
theorem wH {P:Program} {fn:Nat} {k:Con} (HH:Has P fn k) {x:k.A} {W:World} {vs:List Value} {f:List (Nat × Nat)} (hpre:k.pre x) (hb:k.boxes x=[]) (ho:k.owns x=[]) (hl:k.lends=[]) (h:RdArgs W (k.args x) vs f)
  (hlen:vs.length=(k.args x).length) (hn:vs.length<=k.n) (hres:∀ y,k.res x y = .bool true) (hky:∀ w:World,(∀ b,b < W.heap.size->w.heap[b]? = W.heap[b]?)->k.need w:=by exact fun _ _=>trivial):Calls P fn vs.toArray W fun e w'=>e = .returned (.bool true)/\Below W.heap.size W w':=by
 refine (HH.calls x hpre ⟨f,fun b=>b < W.heap.size,W,k.n,[]⟩ hky vs _ _ rfl (by simp [Con.pins2,hb,hl]) hlen hn (O4 hb ho h hn)).mono ?_
 rintro e w' ⟨y,_,v,rfl,β',fp',a',S,hv⟩;rw [hres] at hv;cases hv with
 | bool _=>exact ⟨rfl,S.os,S.tape,S.output,S.size,fun b hb=>(S.old b hb).2⟩
theorem C8 {α:Type} {f:α -> List D} {p:α -> Prop}:∀ {rows:List (List D)},(∀ r ∈ rows,∃ x,r=f x/\p x) -> ∃ l:List α,rows=l.map f /\ ∀ x ∈ l,p x:=by
 intro rows
 induction rows with
 | nil=>intro _; exact ⟨[],rfl,by simp⟩
 | cons r rows ih =>
  intro h;obtain ⟨x,rfl,hx⟩:=h r (by simp)
  obtain ⟨l,rfl,hl⟩:=ih fun r hr=>h r (by simp [hr])
  exact ⟨x :: l,rfl,by intro y hy; rcases List.mem_cons.1 hy with rfl | hy; exact hx; exact hl y hy⟩
def AV.fz1:AV->AV
 | .int k n=>.int k n
 | .bool b=>.bool b
 | .str s=>.str s
 | .raw v=>.raw v
 | .nil=>.nil
 | .sl _ k r=>.sl true k r
 | .own _ k r=>.sl true k r
 | .sub _ _ _ k r=>.sl true k r
 | _=>.junk
def AV.fz:AV->AV
 | .agg vs=>.agg (vs.map AV.fz1)
 | v=>v.fz1
def St.freeze (s:St):St:=⟨fun t=>(s.e t).map fun p=>(p.1,p.2.fz),fun _=>none⟩
structure Ext (c c':Cx):Prop where
 n:c'.n=c.n
 pins:c.pins=[]->c'.pins=[]
 G:∀ b,c.G b->c'.G b/\c'.w0.heap[b]? = c.w0.heap[b]?
 size:c.w0.heap.size<=c'.w0.heap.size
 os:c'.w0.os=c.w0.os
 tape:c'.w0.tape=c.w0.tape
 output:c'.w0.output=c.w0.output
theorem Ext.refl (c:Cx):Ext c c:=⟨rfl,id,fun _ h=>⟨h,rfl⟩,Nat.le_refl _,rfl,rfl,rfl⟩
theorem Ext.trans {a b c:Cx} (h:Ext a b) (k:Ext b c):Ext a c :=
 ⟨k.n.trans h.n,fun q=>k.pins (h.pins q),fun x hx=>⟨(k.G x (h.G x hx).1).1,((k.G x (h.G x hx).1).2).trans (h.G x hx).2⟩,Nat.le_trans h.size k.size,k.os.trans h.os,k.tape.trans h.tape,k.output.trans h.output⟩
section
variable {w:World} {m:Nat->Option Blk} {β:Nat->Value} {c:Cx}
def FzOk (w:World) (xs:List AV) (vs:List Value):Prop :=
 ∃ f:List (Nat × Nat),(∀ x ∈ f,x.1 < w.heap.size) /\ ∀ (c':Cx) (β':Nat->Value),(∀ x ∈ f,c'.F x)->RelL w (fun _=>none) β' c' xs vs
theorem FzOk.append {xs ys:List AV} {us vs:List Value} (h:FzOk w xs us) (h':FzOk w ys vs):FzOk w (xs++ys) (us++vs):=by
 obtain ⟨f,a1,a2⟩:=h;obtain ⟨g,b1,b2⟩:=h';refine ⟨f++g,fun x hx=>?_,fun c' β' hc=>(a2 c' β' fun x hx=>hc x (by simp [hx])).append (b2 c' β' fun x hx=>hc x (by simp [hx]))⟩
 rcases List.mem_append.1 hx with hx | hx
 ·exact a1 x hx
 ·exact b1 x hx
end
section
variable (k:Wk) (fz:List Nat) (Q:Exit->St->Prop) (s:St)
end
end Vx
end Go.Proofs.YthgfdbfmnbgkaaaGreatDoor
