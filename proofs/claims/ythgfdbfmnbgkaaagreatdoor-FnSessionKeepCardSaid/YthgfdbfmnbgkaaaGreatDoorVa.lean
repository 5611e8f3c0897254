/-
  Joined by program (merge.py): EngA, EngB, EngB2, EngC, EngC2, EngC3, EngC4, EngC5, EngC6, EngC7, EngC8, EngC9, EngC10, EngC11, EngC12, EngE, EngF, EngG, EngH, EngH2, EngH3, EngH4, EngH5, EngH6, EngH7, EngI, EngJ. It shows what the single texts show; conditions: none but those of each lemma.
-/
import Derived.WalkKit
import Derived.Deep.LoopGhost
import Derived.Deep.MidRow
set_option linter.unusedVariables false
set_option linter.unusedSimpArgs false
set_option linter.unusedSectionVars false
namespace Go.Proofs.YthgfdbfmnbgkaaaGreatDoor
namespace Vx
open Go.RowKit
inductive D where
 | int (k:IntKind) (n:Int)
 | bool (b:Bool)
 | str (s:List UInt8)
 | sl (e k:Nat) (rows:List (List D))
 | raw (v:Value)
 | junk
 deriving Inhabited
def Agree (w w':World) (b n:Nat):Prop :=
 ∀ cs ty fr,w.heap[b]? = some (.cells cs ty fr) -> ∃ cs' ty' fr',w'.heap[b]? = some (.cells cs' ty' fr') /\ ∀ i,i < n->cs'[i]? = cs[i]?
theorem Agree.of_same {w w':World} {b n:Nat} (h:w'.heap[b]? = w.heap[b]?):Agree w w' b n :=
 fun cs ty fr hc=>⟨cs,ty,fr,h.trans hc,fun _ _=>rfl⟩
theorem Agree.refl (w:World) (b n:Nat):Agree w w b n:=.of_same rfl
theorem Agree.trans {a b c:World} {x n:Nat} (h:Agree a b x n) (h':Agree b c x n):Agree a c x n:=by
 intro cs ty fr hc;obtain ⟨cs1,ty1,fr1,h1,e1⟩:=h cs ty fr hc;obtain ⟨cs2,ty2,fr2,h2,e2⟩:=h' cs1 ty1 fr1 h1;exact ⟨cs2,ty2,fr2,h2,fun i hi=>(e2 i hi).trans (e1 i hi)⟩
inductive RdL (q:Bool) (w:World):List D->List Value->List (Nat × Nat)->Prop
 | nil:RdL q w [] [] []
 | int {k n ds vs fp}:RdL q w ds vs fp->RdL q w (.int k n :: ds) (.int k n :: vs) fp
 | bool {b ds vs fp}:RdL q w ds vs fp->RdL q w (.bool b :: ds) (.bool b :: vs) fp
 | str {s ds vs fp}:s.length<=maxLen->RdL q w ds vs fp->RdL q w (.str s :: ds) (.string ⟨s.toArray⟩ :: vs) fp
 | raw {v ds vs fp}:v.oneCell'=true->RdL q w ds vs fp->RdL q w (.raw v :: ds) (v :: vs) fp
 | junk {v ds vs fp}:v.oneCell'=true->RdL q w ds vs fp->RdL q w (.junk :: ds) (v :: vs) fp
 | sl0 {oa c e k ds vs fp}:c<=maxLen->(q=true->oa=none/\c=0)->RdL q w ds vs fp->RdL q w (.sl e k [] :: ds) (.slice oa 0 c :: vs) fp
 | sl {b off n c e k rows cs ty fr cvs f1 ds vs f2}:rows.length=n->(q=true/\0 < k \/ 0 < n)->n<=c->c<=maxLen->(∀ r ∈ rows,r.length=k) ->
   w.heap[b]? = some (.cells cs ty fr)->(q=true->off=0/\ty=e/\fr=(0,0)/\cs.size=c * k)->(∀ j u,cvs[j]? = some u->cs[off+j]? = some u) ->
   RdL q w rows.flatten cvs f1->RdL q w ds vs f2->RdL q w (.sl e k rows :: ds) (.slice (some ⟨b,off,none⟩) n c :: vs) ((b,off+cvs.length) :: (f1++f2))
theorem RdL.length {q:Bool} {w:World} {ds vs fp} (h:RdL q w ds vs fp):ds.length=vs.length:=by
 induction h <;> simp_all
theorem RdL.oneCell {w:World} {ds vs fp} {q:Bool} (h:RdL q w ds vs fp):∀ v ∈ vs,v.oneCell'=true:=by
 induction h with
 | nil=>intro v hv; cases hv
 | sl _ _ _ _ _ _ _ _ _ _ _ ih=>intro v hv; rcases List.mem_cons.1 hv with rfl | hv; exact rfl; exact ih v hv
 | raw h1 _ ih=>intro v hv; rcases List.mem_cons.1 hv with rfl | hv; exact h1; exact ih v hv
 | junk h1 _ ih=>intro v hv; rcases List.mem_cons.1 hv with rfl | hv; exact h1; exact ih v hv
 | int _ ih=>intro v hv; rcases List.mem_cons.1 hv with rfl | hv; exact rfl; exact ih v hv
 | bool _ ih=>intro v hv; rcases List.mem_cons.1 hv with rfl | hv; exact rfl; exact ih v hv
 | str _ _ ih=>intro v hv; rcases List.mem_cons.1 hv with rfl | hv; exact rfl; exact ih v hv
 | sl0 _ _ _ ih=>intro v hv; rcases List.mem_cons.1 hv with rfl | hv; exact rfl; exact ih v hv
theorem RdL.keep {w w':World} {ds vs fp} {q:Bool} (h:RdL q w ds vs fp):(∀ x ∈ fp,Agree w w' x.1 x.2/\(q=true->w'.heap[x.1]? = w.heap[x.1]?))->RdL q w' ds vs fp:=by
 induction h with
 | nil=>intro _; exact .nil
 | int _ ih=>intro k; exact .int (ih k)
 | bool _ ih=>intro k; exact .bool (ih k)
 | str hs _ ih=>intro k; exact .str hs (ih k)
 | raw h1 _ ih=>intro k; exact .raw h1 (ih k)
 | junk h1 _ ih=>intro k; exact .junk h1 (ih k)
 | sl0 hc h0 _ ih=>intro k; exact .sl0 hc h0 (ih k)
 | @sl b off n c e k rows cs ty fr cvs f1 ds vs f2 h1 h2 h3 h4 h5 h6 hq h7 _ _ ih1 ih2 =>
  intro K;obtain ⟨hag,hsame⟩:=K (b,off+cvs.length) (by simp)
  obtain ⟨cs',ty',fr',g6,g7⟩:=hag cs ty fr h6;refine .sl h1 h2 h3 h4 h5 g6 (fun h=>?_) (fun j u hu=>?_) (ih1 fun b hb=>K b (by simp [hb])) (ih2 fun b hb=>K b (by simp [hb]))
  ·have e1:=(hsame h).trans h6;rw [g6] at e1;cases e1;exact hq h
  ·have hj:j < cvs.length:=(List.getElem?_eq_some_iff.1 hu).1;rw [g7 (off+j) (by simp only; omega)]
   exact h7 j u hu
theorem RdL.lt {w:World} {ds vs fp} {q:Bool} (h:RdL q w ds vs fp):∀ x ∈ fp,x.1 < w.heap.size:=by
 induction h with
 | sl h1 h2 h3 h4 h5 h6 hq h7 _ _ ih1 ih2 =>
  intro b hb;simp only [List.mem_cons,List.mem_append] at hb;rcases hb with rfl | hb | hb
  ·exact (Array.getElem?_eq_some_iff.1 h6).1
  ·exact ih1 b hb
  ·exact ih2 b hb
 | nil=>intro b hb; cases hb
 | _=>assumption
theorem RdL.append {w:World} {ds vs fp ds' vs' fp'} {q:Bool} (h:RdL q w ds vs fp) (h':RdL q w ds' vs' fp'):RdL q w (ds++ds') (vs++vs') (fp++fp'):=by
 induction h with
 | nil=>exact h'
 | int _ ih=>exact .int ih
 | bool _ ih=>exact .bool ih
 | str hs _ ih=>exact .str hs ih
 | raw h1 _ ih=>exact .raw h1 ih
 | junk h1 _ ih=>exact .junk h1 ih
 | sl0 hc h0 _ ih=>exact .sl0 hc h0 ih
 | sl h1 h2 h3 h4 h5 h6 hq h7 a1 _ _ ih2 =>
  have:=RdL.sl h1 h2 h3 h4 h5 h6 hq h7 a1 ih2
  simpa [List.append_assoc] using this
theorem RdL.uncons {w:World} {d ds vs fp} {q:Bool} (h:RdL q w (d :: ds) vs fp) :
  ∃ v vs' f1 f2,vs=v :: vs'/\fp=f1++f2/\RdL q w [d] [v] f1/\RdL q w ds vs' f2:=by
 cases h with
 | int h=>exact ⟨_,_,[],_,rfl,rfl,.int .nil,h⟩
 | bool h=>exact ⟨_,_,[],_,rfl,rfl,.bool .nil,h⟩
 | str hs h=>exact ⟨_,_,[],_,rfl,rfl,.str hs .nil,h⟩
 | raw h1 h=>exact ⟨_,_,[],_,rfl,rfl,.raw h1 .nil,h⟩
 | junk h1 h=>exact ⟨_,_,[],_,rfl,rfl,.junk h1 .nil,h⟩
 | sl0 hc h0 h=>exact ⟨_,_,[],_,rfl,rfl,.sl0 hc h0 .nil,h⟩
 | @sl b off n c e k rows cs ty fr cvs f1 _ _ f2 h1 h2 h3 h4 h5 h6 hq h7 a1 a2 =>
  refine ⟨_,_,(b,off+cvs.length) :: f1,f2,rfl,by simp,?_,a2⟩
  have:=RdL.sl h1 h2 h3 h4 h5 h6 hq h7 a1 .nil
  simpa using this
theorem RdL.split {q:Bool} {w:World}:∀ (n:Nat) {ds vs fp},RdL q w ds vs fp ->
  ∃ f1 f2,fp=f1++f2/\RdL q w (ds.take n) (vs.take n) f1/\RdL q w (ds.drop n) (vs.drop n) f2:=by
 intro n
 induction n with
 | zero=>intro ds vs fp h; exact ⟨[],fp,rfl,by simpa using .nil,by simpa using h⟩
 | succ n ih =>
  intro ds vs fp h;cases ds with
  | nil =>
   cases h;exact ⟨[],[],rfl,.nil,.nil⟩
  | cons d ds =>
   obtain ⟨v,vs',f1,f2,rfl,rfl,h1,h2⟩:=h.uncons;obtain ⟨g1,g2,rfl,a,b⟩:=ih h2;refine ⟨f1++g1,g2,by simp,?_,by simpa using b⟩
   have:=h1.append a
   simpa using this
theorem RdL.unappend {w:World} {ds ds' vs fp} {q:Bool} (h:RdL q w (ds++ds') vs fp) :
  ∃ vs1 vs2 f1 f2,vs=vs1++vs2/\fp=f1++f2/\RdL q w ds vs1 f1/\RdL q w ds' vs2 f2:=by
 obtain ⟨f1,f2,e,a,b⟩:=RdL.split ds.length h;refine ⟨_,_,f1,f2,(List.take_append_drop ds.length vs).symm,e,?_,?_⟩
 ·simpa using a
 ·simpa using b
theorem RdL.get {w:World} {ds vs fp} {q:Bool} (h:RdL q w ds vs fp) (i:Nat) (d:D) (hd:ds[i]? = some d) :
  ∃ v f1 f f2,vs[i]? = some v/\fp=f1++(f++f2)/\RdL q w [d] [v] f/\RdL q w (ds.take i) (vs.take i) f1/\RdL q w (ds.drop (i+1)) (vs.drop (i+1)) f2:=by
 obtain ⟨f1,f2,rfl,a,b⟩:=RdL.split i h;have hlt:i < ds.length:=(List.getElem?_eq_some_iff.1 hd).1;have e:ds.drop i=d :: ds.drop (i+1):=by rw [List.drop_eq_getElem_cons hlt]; congr 1; exact (List.getElem?_eq_some_iff.1 hd).2
 rw [e] at b;obtain ⟨v,vs',g1,g2,hv,rfl,h1,h2⟩:=b.uncons;have hvi:vs[i]? = some v:=by
  have:(vs.drop i)[0]? = some v:=by rw [hv]; rfl
  simpa using this
 have hvs':vs'=vs.drop (i+1):=by
  have:(vs.drop i).drop 1=vs':=by rw [hv]; rfl
  rw [<- this]; simp
 subst hvs';exact ⟨v,f1,g1,g2,hvi,rfl,h1,a,h2⟩
theorem RdL.put {w:World} {ds vs fp} {q:Bool} (h:RdL q w ds vs fp) (i:Nat) (d d':D) (hd:ds[i]? = some d) (v':Value) (f':List (Nat × Nat)) (h':RdL q w [d'] [v'] f') :
  ∃ f1 f f2 v,vs[i]? = some v/\RdL q w [d] [v] f/\fp=f1++(f++f2)/\RdL q w (ds.set i d') (vs.set i v') (f1++(f'++f2)):=by
 obtain ⟨v,f1,f,f2,hv,e,hf,a,b⟩:=h.get i d hd;refine ⟨f1,f,f2,v,hv,hf,e,?_⟩;have hlt:i < ds.length:=(List.getElem?_eq_some_iff.1 hd).1;have hlv:i < vs.length:=by rw [<- h.length]; exact hlt
 rw [List.set_eq_take_append_cons_drop,if_pos hlt,List.set_eq_take_append_cons_drop,if_pos hlv];have:=a.append (h'.append b)
 simpa using this
theorem RdL.weak {w:World} {ds vs fp} (h:RdL true w ds vs fp):∃ fp',RdL false w ds vs fp' /\ ∀ x ∈ fp',x ∈ fp:=by
 induction h with
 | nil=>exact ⟨[],.nil,fun _ h=>h⟩
 | int _ ih=>obtain ⟨f,a,b⟩:=ih; exact ⟨f,.int a,b⟩
 | bool _ ih=>obtain ⟨f,a,b⟩:=ih; exact ⟨f,.bool a,b⟩
 | str hs _ ih=>obtain ⟨f,a,b⟩:=ih; exact ⟨f,.str hs a,b⟩
 | raw h1 _ ih=>obtain ⟨f,a,b⟩:=ih; exact ⟨f,.raw h1 a,b⟩
 | junk h1 _ ih=>obtain ⟨f,a,b⟩:=ih; exact ⟨f,.junk h1 a,b⟩
 | sl0 hc h0 _ ih=>obtain ⟨f,a,b⟩:=ih; exact ⟨f,.sl0 hc (by simp) a,b⟩
 | @sl b off n c e k rows cs ty fr cvs f1 ds vs f2 h1 h2 h3 h4 h5 h6 hq h7 a1 a2 ih1 ih2 =>
  obtain ⟨g1,p1,q1⟩:=ih1;obtain ⟨g2,p2,q2⟩:=ih2;by_cases hn:0 < n
  ·refine ⟨(b,off+cvs.length) :: (g1++g2),.sl h1 (.inr hn) h3 h4 h5 h6 (by simp) h7 p1 p2,fun x hx=>?_⟩
   simp only [List.mem_cons,List.mem_append] at hx ⊢;rcases hx with hx | hx | hx
   ·exact .inl hx
   ·exact .inr (.inl (q1 x hx))
   ·exact .inr (.inr (q2 x hx))
  ·have h0:n=0:=by omega
   subst h0;have hr:rows=[]:=List.eq_nil_of_length_eq_zero h1;subst hr;exact ⟨g2,.sl0 h4 (by simp) p2,fun x hx=>by simp [q2 x hx]⟩
inductive AV where
 | int (k:IntKind) (n:Int)
 | bool (b:Bool)
 | str (s:List UInt8)
 | raw (v:Value)
 | nil
 | sl (ext:Bool) (k:Nat) (rows:List (List D))
 | own (h k:Nat) (rows:List (List D))
 | sub (h i j k:Nat) (rows:List (List D))
 | ptr (h off:Nat)
 | slf (h:Nat)
 | eptr (h i off:Nat) (ds:List D)
 | sptr (h i j l off k:Nat) (rows:List (List D))
 | bptr (ext:Bool) (ds:List D)
 | agg (vs:List AV)
 | tup (vs:List AV)
 | clo (f:Nat) (caps:List AV)
 | junk
 deriving Inhabited
inductive Blk where
 | own (e k:Nat) (deep:Bool) (rows:List (List D))
 | box (ty:Nat) (vs:List AV)
 | dead
 deriving Inhabited
def ai {α:Type}:List (Nat × α)->Nat->Option α
 | [],_=>none
 | (k,v) :: r,i=>if k=i then some v else ai r i
structure St where
 e:Nat->Option (Bool × AV)
 m:Nat->Option Blk
def upd {α:Type} (f:Nat -> α) (d:Nat) (v:α):Nat -> α:=fun h=>if h=d then v else f h
@[simp] theorem upd_same {α:Type} (f:Nat -> α) (d:Nat) (v:α):upd f d v d=v:=by simp [upd]
theorem upd_ne {α:Type} (f:Nat -> α) {d h:Nat} (v:α) (hne:h ≠ d):upd f d v h=f h:=by simp [upd,hne]
def ki (m:Nat->Option Blk):List (Nat × Blk)->Nat->Option Blk
 | []=>m
 | (d,b) :: r=>upd (ki m r) d (some b)
structure Cx where
 L:List (Nat × Nat)
 G:Nat->Prop
 w0:World
 n:Nat
 pins:List (Nat × Value)
def Cx.F (c:Cx) (x:Nat × Nat):Prop:=∃ y ∈ c.L,x.1=y.1/\x.2<=y.2
def Cx.may (c:Cx) (ext:Bool) (x:Nat × Nat):Prop:=c.F x \/ (ext=false /\ ¬ c.G x.1)
def AV.hs:AV->List Nat
 | .own h _ _=>[h]
 | .sub h _ _ _ _=>[h]
 | .ptr h _=>[h]
 | .eptr h _ _ _=>[h]
 | .sptr h _ _ _ _ _ _=>[h]
 | .agg vs | .tup vs | .clo _ vs=>hsL vs
 | _=>[]
where hsL:List AV->List Nat
 | []=>[]
 | v :: vs=>v.hs++hsL vs
def alive (m:Nat->Option Blk) (v:AV):Prop:=∀ h ∈ v.hs,(m h).isSome=true
section
variable (w:World) (m:Nat->Option Blk) (β:Nat->Value) (c:Cx)
def Bx (b:Nat):Prop:=∃ h ty vs,m h=some (.box ty vs) /\ β h = .pointer (some ⟨b,0,none⟩)
def Lim (x:Nat × Nat):Prop :=
 ¬ Bx m β x.1 /\ ∀ h e k d R n c,m h=some (.own e k d R) -> β h = .slice (some ⟨x.1,0,none⟩) n c->x.2<=R.length * k
def Vw (ext:Bool) (ds:List D) (vs:List Value):Prop :=
 ∃ fp,RdL false w ds vs fp /\ ∀ x ∈ fp,Lim m β x/\c.may ext x
def PVw (ext:Bool) (ds:List D) (a:Addr):Prop :=
 ∃ b o cs ty fr vs fp,a=⟨b,o,none⟩/\w.heap[b]? = some (.cells cs ty fr)/\(∀ (j:Nat) u,vs[j]? = some u->cs[o+j]? = some u)/\RdL false w ds vs fp /\
  ∀ x ∈ (b,o+vs.length) :: fp,Lim m β x/\c.may ext x
def rX (h o:Nat) (v:Value):Prop :=
 ∃ b n c,β h = .slice (some ⟨b,0,none⟩) n c/\w.cell? ⟨b,o,none⟩=some v
inductive RelL:List AV->List Value->Prop
 | lnil:RelL [] []
 | int {k n as vs}:RelL as vs->RelL (.int k n :: as) (.int k n :: vs)
 | bool {b as vs}:RelL as vs->RelL (.bool b :: as) (.bool b :: vs)
 | str {s as vs}:s.length<=maxLen->RelL as vs->RelL (.str s :: as) (.string ⟨s.toArray⟩ :: vs)
 | raw {v as vs}:v.oneCell'=true->RelL as vs->RelL (.raw v :: as) (v :: vs)
 | nil {as vs}:RelL as vs->RelL (.nil :: as) (.slice none 0 0 :: vs)
 | sl {ext k rows v as vs}:(∃ e,Vw w m β c ext [.sl e k rows] [v])->RelL as vs->RelL (.sl ext k rows :: as) (v :: vs)
 | own {h k rows v as vs}:(m h).isSome=true->(∃ e,Vw w m β c false [.sl e k rows] [v])->(∀ e k' d R,m h=some (.own e k' d R)->v = β h/\k'=k) ->
   RelL as vs->RelL (.own h k rows :: as) (v :: vs)
 | sub {h i j k rows v as vs}:(m h).isSome=true->(∃ e,Vw w m β c false [.sl e k rows] [v]) ->
   (∀ e k' d R r e',m h=some (.own e k' d R)->R[i]? = some r->r[j]? = some (.sl e' k rows)->rX w β h (i * k'+j) v) ->
   RelL as vs->RelL (.sub h i j k rows :: as) (v :: vs)
 | ptr {h off b as vs}:(m h).isSome=true -> β h = .pointer (some ⟨b,0,none⟩)->RelL as vs->RelL (.ptr h off :: as) (.pointer (some ⟨b,off,none⟩) :: vs)
 | eptr {h i off ds a as vs}:(m h).isSome=true->PVw w m β c false ds a ->
   (∀ e k d R,m h=some (.own e k d R)->i < R.length -> ∃ b n c,β h = .slice (some ⟨b,0,none⟩) n c/\a=⟨b,i * k+off,none⟩) ->
   RelL as vs->RelL (.eptr h i off ds :: as) (.pointer (some a) :: vs)
 | sptr {h i j l off k rows a as vs}:(m h).isSome=true->PVw w m β c false ((rows.getD l []).drop off) a ->
   (∀ e k' d R r e',m h=some (.own e k' d R)->R[i]? = some r->r[j]? = some (.sl e' k rows)->l < rows.length ->
    ∃ b2 o2 n2 c2,rX w β h (i * k'+j) (.slice (some ⟨b2,o2,none⟩) n2 c2)/\a=⟨b2,o2+(l * k+off),none⟩) ->
   RelL as vs->RelL (.sptr h i j l off k rows :: as) (.pointer (some a) :: vs)
 | bptr {ext ds a as vs}:PVw w m β c ext ds a->RelL as vs->RelL (.bptr ext ds :: as) (.pointer (some a) :: vs)
 | agg {bs us as vs}:RelL bs us->(∀ u ∈ us,u.oneCell'=true)->RelL as vs->RelL (.agg bs :: as) (.agg us.toArray :: vs)
 | tup {bs us as vs}:RelL bs us->RelL as vs->RelL (.tup bs :: as) (.tuple us.toArray :: vs)
 | slf {h v as vs}:(v = .pointer none \/ ((m h).isSome=true /\ ∃ b,β h = .pointer (some ⟨b,0,none⟩)/\v = .pointer (some ⟨b,0,none⟩)))->RelL as vs->RelL (.slf h :: as) (v :: vs)
 | clo {f bs us as vs}:RelL bs us->RelL as vs->RelL (.clo f bs :: as) (.func (.func f) #[] us.toArray :: vs)
 | junk {v as vs}:RelL as vs->RelL (.junk :: as) (v :: vs)
def BlkOk (h:Nat) (fp:List (Nat × Nat)):Blk->Prop
  | .own e k d R=>0 < k/\(∀ r ∈ R,r.length=k) /\
      ((β h = .slice none 0 0/\R=[]/\fp=[]) \/
       ∃ b cap cs f0,β h = .slice (some ⟨b,0,none⟩) R.length cap/\w.heap[b]? = some (.cells cs e (0,0))/\R.length<=cap/\cap<=maxLen/\cs.size=cap * k /\
         RdL d w R.flatten (cs.toList.take (R.length * k)) f0/\(d=true->fp=f0)/\(d=false->fp=[] /\ ∀ x ∈ f0,Lim m β x/\c.may false x))
  | .box ty vs=>fp=[] /\ ∃ b cvs,β h = .pointer (some ⟨b,0,none⟩)/\w.heap[b]? = some (.cells cvs.toArray ty (0,0))/\RelL w m β c vs cvs /\ ∀ u ∈ cvs,u.oneCell'=true
  | .dead=>fp=[]
def Ob (h:Nat) (fp:List (Nat × Nat)) (blk:Blk):List Nat :=
  (match blk,β h with
   | .own ..,.slice (some a) _ _=>[a.block]
   | .box ..,.pointer (some a)=>[a.block]
   | _,_=>[])++fp.map (·.1)
end
structure SatI (c:Cx) (s:St) (a:Act) (w:World) (β:Nat->Value) (fp:Nat->List (Nat × Nat)):Prop where
 env:∀ t g av,s.e t=some (g,av)->t < a.tmps.size/\(g=true->RelL w s.m β c [av] [a.tmps.getD t undef])/\(g=false->a.tmps.getD t undef=undef/\alive s.m av)
 mem:∀ h blk,s.m h=some blk->BlkOk w s.m β c h (fp h) blk
 nodup:∀ h blk,s.m h=some blk->(Ob β h (fp h) blk).Nodup
 disj:∀ h h' blk blk',s.m h=some blk->s.m h'=some blk'->h ≠ h' -> ∀ x ∈ Ob β h (fp h) blk,x ∉ Ob β h' (fp h') blk'
 free:∀ h blk,s.m h=some blk -> ∀ x ∈ Ob β h (fp h) blk,¬ c.G x
 fg:∀ x,c.F x->c.G x.1
 old:∀ b,c.G b->b < c.w0.heap.size/\w.heap[b]? = c.w0.heap[b]?
 os:w.os=c.w0.os
 tape:w.tape=c.w0.tape
 output:w.output=c.w0.output
 size:c.w0.heap.size<=w.heap.size
 defers:a.defers=[]
 tn:a.tmps.size=c.n
 pin:∀ p ∈ c.pins,β p.1=p.2/\(s.m p.1).isSome=true
def Sat (c:Cx) (s:St) (a:Act) (w:World):Prop:=∃ β fp,SatI c s a w β fp
theorem Hy {α:Type} (k:Nat) (v:α) (r:List (Nat × α)) (i:Nat):ai ((k,v) :: r) i=if k=i then some v else ai r i:=rfl
theorem l9:∀ {bs:List AV} {h:Nat},h ∈ AV.hs.hsL bs -> ∃ b ∈ bs,h ∈ b.hs:=by
 intro bs
 induction bs with
 | nil=>intro h hh; cases hh
 | cons b bs ih =>
  intro h hh;simp only [AV.hs.hsL,List.mem_append] at hh;rcases hh with hh | hh
  ·exact ⟨b,by simp,hh⟩
  ·obtain ⟨b',q1,q2⟩:=ih hh;exact ⟨b',by simp [q1],q2⟩
theorem yg {w m β c}:∀ {as vs},RelL w m β c as vs -> ∀ a ∈ as,alive m a:=by
 intro as vs h
 induction h with
 | lnil=>intro a ha; cases ha
 | int _ ih=>intro a ha; rcases List.mem_cons.1 ha with rfl | ha; exact (by intro h hh; cases hh); exact ih a ha
 | bool _ ih=>intro a ha; rcases List.mem_cons.1 ha with rfl | ha; exact (by intro h hh; cases hh); exact ih a ha
 | str _ _ ih=>intro a ha; rcases List.mem_cons.1 ha with rfl | ha; exact (by intro h hh; cases hh); exact ih a ha
 | raw _ _ ih=>intro a ha; rcases List.mem_cons.1 ha with rfl | ha; exact (by intro h hh; cases hh); exact ih a ha
 | nil _ ih=>intro a ha; rcases List.mem_cons.1 ha with rfl | ha; exact (by intro h hh; cases hh); exact ih a ha
 | sl _ _ ih=>intro a ha; rcases List.mem_cons.1 ha with rfl | ha; exact (by intro h hh; cases hh); exact ih a ha
 | bptr _ _ ih=>intro a ha; rcases List.mem_cons.1 ha with rfl | ha; exact (by intro h hh; cases hh); exact ih a ha
 | slf _ _ ih=>intro a ha; rcases List.mem_cons.1 ha with rfl | ha; exact (by intro h hh; cases hh); exact ih a ha
 | junk _ ih=>intro a ha; rcases List.mem_cons.1 ha with rfl | ha; exact (by intro h hh; cases hh); exact ih a ha
 | own h1 _ _ _ ih=>intro a ha; rcases List.mem_cons.1 ha with rfl | ha; exact (by intro h hh; simp only [AV.hs,List.mem_singleton] at hh; subst hh; exact h1); exact ih a ha
 | sub h1 _ _ _ ih=>intro a ha; rcases List.mem_cons.1 ha with rfl | ha; exact (by intro h hh; simp only [AV.hs,List.mem_singleton] at hh; subst hh; exact h1); exact ih a ha
 | ptr h1 _ _ ih=>intro a ha; rcases List.mem_cons.1 ha with rfl | ha; exact (by intro h hh; simp only [AV.hs,List.mem_singleton] at hh; subst hh; exact h1); exact ih a ha
 | eptr h1 _ _ _ ih=>intro a ha; rcases List.mem_cons.1 ha with rfl | ha; exact (by intro h hh; simp only [AV.hs,List.mem_singleton] at hh; subst hh; exact h1); exact ih a ha
 | sptr h1 _ _ _ ih=>intro a ha; rcases List.mem_cons.1 ha with rfl | ha; exact (by intro h hh; simp only [AV.hs,List.mem_singleton] at hh; subst hh; exact h1); exact ih a ha
 | @agg bs us as vs h1 _ _ ih1 ih =>
  intro a ha;rcases List.mem_cons.1 ha with rfl | ha
  ·intro h hh;simp only [AV.hs] at hh;obtain ⟨b,q1,q2⟩:=l9 hh;exact ih1 b q1 h q2
  ·exact ih a ha
 | @tup bs us as vs h1 _ ih1 ih =>
  intro a ha;rcases List.mem_cons.1 ha with rfl | ha
  ·intro h hh;simp only [AV.hs] at hh;obtain ⟨b,q1,q2⟩:=l9 hh;exact ih1 b q1 h q2
  ·exact ih a ha
 | @clo f bs us as vs h1 _ ih1 ih =>
  intro a ha;rcases List.mem_cons.1 ha with rfl | ha
  ·intro h hh;simp only [AV.hs] at hh;obtain ⟨b,q1,q2⟩:=l9 hh;exact ih1 b q1 h q2
  ·exact ih a ha
theorem alive.mono {m m':Nat->Option Blk} {v:AV} (h:alive m v) (hm:∀ h,(m h).isSome=true->(m' h).isSome=true):alive m' v:=fun g hg=>hm g (h g hg)
theorem RelL.length {w m β c as vs} (h:RelL w m β c as vs):as.length=vs.length:=by
 induction h <;> simp_all
theorem RelL.uncons {w m β c x as vs} (h:RelL w m β c (x :: as) vs):∃ v vs',vs=v :: vs'/\RelL w m β c [x] [v]/\RelL w m β c as vs':=by
 cases h with
 | int h=>exact ⟨_,_,rfl,.int .lnil,h⟩
 | bool h=>exact ⟨_,_,rfl,.bool .lnil,h⟩
 | str hs h=>exact ⟨_,_,rfl,.str hs .lnil,h⟩
 | raw hs h=>exact ⟨_,_,rfl,.raw hs .lnil,h⟩
 | nil h=>exact ⟨_,_,rfl,.nil .lnil,h⟩
 | sl hv h=>exact ⟨_,_,rfl,.sl hv .lnil,h⟩
 | own h1 h2 h3 h=>exact ⟨_,_,rfl,.own h1 h2 h3 .lnil,h⟩
 | sub h1 h2 h3 h=>exact ⟨_,_,rfl,.sub h1 h2 h3 .lnil,h⟩
 | ptr h1 h2 h=>exact ⟨_,_,rfl,.ptr h1 h2 .lnil,h⟩
 | eptr h1 h2 h3 h=>exact ⟨_,_,rfl,.eptr h1 h2 h3 .lnil,h⟩
 | sptr h1 h2 h3 h=>exact ⟨_,_,rfl,.sptr h1 h2 h3 .lnil,h⟩
 | bptr h1 h=>exact ⟨_,_,rfl,.bptr h1 .lnil,h⟩
 | agg h1 h2 h=>exact ⟨_,_,rfl,.agg h1 h2 .lnil,h⟩
 | tup h1 h=>exact ⟨_,_,rfl,.tup h1 .lnil,h⟩
 | clo h1 h=>exact ⟨_,_,rfl,.clo h1 .lnil,h⟩
 | slf h1 h=>exact ⟨_,_,rfl,.slf h1 .lnil,h⟩
 | junk h=>exact ⟨_,_,rfl,.junk .lnil,h⟩
theorem RelL.cons {w m β c x v as vs} (h1:RelL w m β c [x] [v]) (h:RelL w m β c as vs):RelL w m β c (x :: as) (v :: vs):=by
 cases h1 with
 | int _=>exact .int h
 | bool _=>exact .bool h
 | str hs _=>exact .str hs h
 | raw hs _=>exact .raw hs h
 | nil _=>exact .nil h
 | sl hv _=>exact .sl hv h
 | own h1 h2 h3 _=>exact .own h1 h2 h3 h
 | sub h1 h2 h3 _=>exact .sub h1 h2 h3 h
 | ptr h1 h2 _=>exact .ptr h1 h2 h
 | eptr h1 h2 h3 _=>exact .eptr h1 h2 h3 h
 | sptr h1 h2 h3 _=>exact .sptr h1 h2 h3 h
 | bptr h1 _=>exact .bptr h1 h
 | agg h1 h2 _=>exact .agg h1 h2 h
 | tup h1 _=>exact .tup h1 h
 | clo h1 _=>exact .clo h1 h
 | slf h1 _=>exact .slf h1 h
 | junk _=>exact .junk h
theorem RelL.append {w m β c as vs as' vs'} (h:RelL w m β c as vs) (h':RelL w m β c as' vs'):RelL w m β c (as++as') (vs++vs'):=by
 induction as generalizing vs with
 | nil=>cases h; exact h'
 | cons x as ih =>
  obtain ⟨v,vs1,rfl,h1,h2⟩:=h.uncons;exact .cons h1 (ih h2)
theorem RelL.get {w m β c as vs} (h:RelL w m β c as vs) (i:Nat) (x:AV) (hx:as[i]? = some x):∃ v,vs[i]? = some v/\RelL w m β c [x] [v]:=by
 induction as generalizing vs i with
 | nil=>simp at hx
 | cons y as ih =>
  obtain ⟨v,vs1,rfl,h1,h2⟩:=h.uncons;cases i with
  | zero=>simp at hx; subst hx; exact ⟨v,rfl,h1⟩
  | succ i=>simp at hx; simpa using ih h2 i hx
theorem RelL.set {w m β c as vs} (h:RelL w m β c as vs) (i:Nat) (x:AV) (v:Value) (hx:RelL w m β c [x] [v]):RelL w m β c (as.set i x) (vs.set i v):=by
 induction as generalizing vs i with
 | nil=>cases h; exact .lnil
 | cons y as ih =>
  obtain ⟨u,vs1,rfl,h1,h2⟩:=h.uncons;cases i with
  | zero=>simpa using .cons hx h2
  | succ i=>simpa using .cons h1 (ih h2 i)
theorem RelL.split {w m β c as vs} (h:RelL w m β c as vs) (n:Nat):RelL w m β c (as.take n) (vs.take n)/\RelL w m β c (as.drop n) (vs.drop n):=by
 induction as generalizing vs n with
 | nil=>cases h; simp; exact .lnil
 | cons y as ih =>
  obtain ⟨u,vs1,rfl,h1,h2⟩:=h.uncons;cases n with
  | zero=>simp; exact ⟨.lnil,.cons h1 h2⟩
  | succ n=>simpa using ⟨RelL.cons h1 (ih h2 n).1,(ih h2 n).2⟩
structure Step (w:World) (m:Nat->Option Blk) (β:Nat->Value) (w':World) (m':Nat->Option Blk) (β':Nat->Value):Prop where
 agree:∀ x:Nat × Nat,x.1 < w.heap.size->Lim m β x->Agree w w' x.1 x.2
 lim:∀ x:Nat × Nat,x.1 < w.heap.size->Lim m β x->Lim m' β' x
 has:∀ h,(m h).isSome=true->(m' h).isSome=true
 own:∀ h e k d R',(m h).isSome=true->m' h=some (.own e k d R') -> ∃ d0 R,m h=some (.own e k d0 R) /\ β' h = β h/\R'.length=R.length /\
  ∀ (i j:Nat) e2 k2 rs r',R'[i]? = some r'->r'[j]? = some (.sl e2 k2 rs) -> ∃ r,R[i]? = some r/\r[j]? = some (.sl e2 k2 rs)
 ptr:∀ h b,(m h).isSome=true -> β h = .pointer (some ⟨b,0,none⟩) -> β' h = β h
 cell:∀ h e k d R (i j:Nat) r x b n c,m h=some (.own e k d R)->(∃ d' R',m' h=some (.own e k d' R')) -> β h = .slice (some ⟨b,0,none⟩) n c->R[i]? = some r->r[j]? = some x->b < w.heap.size ->
  w'.cell? ⟨b,i * k+j,none⟩=w.cell? ⟨b,i * k+j,none⟩
theorem Vw.step {w m β w' m' β' c ext ds vs} (T:Step w m β w' m' β') (h:Vw w m β c ext ds vs):Vw w' m' β' c ext ds vs:=by
 obtain ⟨fp,hr,hl⟩:=h;exact ⟨fp,hr.keep fun x hx=>⟨T.agree x (hr.lt x hx) (hl x hx).1,by simp⟩,fun x hx=>⟨T.lim x (hr.lt x hx) (hl x hx).1,(hl x hx).2⟩⟩
theorem PVw.step {w m β w' m' β' c ext ds a} (T:Step w m β w' m' β') (h:PVw w m β c ext ds a):PVw w' m' β' c ext ds a:=by
 obtain ⟨b,o,cs,ty,fr,vs,fp,ha,hb,hc,hr,hl⟩:=h;have hlt:∀ x ∈ (b,o+vs.length) :: fp,x.1 < w.heap.size:=by
  intro x hx;rcases List.mem_cons.1 hx with rfl | hx
  ·exact (Array.getElem?_eq_some_iff.1 hb).1
  ·exact hr.lt x hx
 obtain ⟨cs',ty',fr',hb',he⟩:=T.agree (b,o+vs.length) (hlt _ (by simp)) (hl _ (by simp)).1 cs ty fr hb
 refine ⟨b,o,cs',ty',fr',vs,fp,ha,hb',fun j u hu=>?_,hr.keep fun x hx=>⟨T.agree x (hr.lt x hx) (hl x (by simp [hx])).1,by simp⟩,fun x hx=>⟨T.lim x (hlt x hx) (hl x hx).1,(hl x hx).2⟩⟩
 have hj:j < vs.length:=(List.getElem?_eq_some_iff.1 hu).1;rw [he (o+j) (by simp only; omega)]
 exact hc j u hu
theorem RelL.step {w m β w' m' β' c as vs} (T:Step w m β w' m' β') (h:RelL w m β c as vs):RelL w' m' β' c as vs:=by
 induction h with
 | lnil=>exact .lnil
 | int _ ih=>exact .int ih
 | bool _ ih=>exact .bool ih
 | str hs _ ih=>exact .str hs ih
 | raw hs _ ih=>exact .raw hs ih
 | nil _ ih=>exact .nil ih
 | sl hv _ ih=>obtain ⟨e,hv⟩:=hv; exact .sl ⟨e,hv.step T⟩ ih
 | own h1 h2 h3 _ ih =>
  obtain ⟨e0,h2⟩:=h2;refine .own (T.has _ h1) ⟨e0,h2.step T⟩ (fun e k' d R hm=>?_) ih;obtain ⟨d0,R0,g1,g2,_⟩:=T.own _ _ _ _ _ h1 hm;rw [g2]; exact h3 _ _ _ _ g1
 | @sub h i j k rows v as vs h1 h2 h3 _ ih =>
  obtain ⟨e0,h2⟩:=h2;refine .sub (T.has _ h1) ⟨e0,h2.step T⟩ (fun e k' d R r e' hm hi hj=>?_) ih;obtain ⟨d0,R0,g1,g2,_,g4⟩:=T.own _ _ _ _ _ h1 hm;obtain ⟨r0,q1,q2⟩:=g4 _ _ _ _ _ _ hi hj;obtain ⟨b,n,c,p1,p2⟩:=h3 _ _ _ _ _ _ g1 q1 q2;exact ⟨b,n,c,g2.trans p1,(T.cell _ _ _ _ _ _ _ _ _ _ _ _ g1 ⟨_,_,hm⟩ p1 q1 q2 (World.block_lt_of_cell? w ⟨b,_,none⟩ p2)).trans p2⟩
 | ptr h1 h2 _ ih=>exact .ptr (T.has _ h1) ((T.ptr _ _ h1 h2).trans h2) ih
 | eptr h1 h2 h3 _ ih =>
  refine .eptr (T.has _ h1) (h2.step T) (fun e k d R hm hi=>?_) ih;obtain ⟨d0,R0,g1,g2,g3,_⟩:=T.own _ _ _ _ _ h1 hm;obtain ⟨b,n,c,p1,p2⟩:=h3 _ _ _ _ g1 (by omega)
  exact ⟨b,n,c,g2.trans p1,p2⟩
 | sptr h1 h2 h3 _ ih =>
  refine .sptr (T.has _ h1) (h2.step T) (fun e k' d R r e' hm hi hj hl=>?_) ih;obtain ⟨d0,R0,g1,g2,_,g4⟩:=T.own _ _ _ _ _ h1 hm;obtain ⟨r0,q1,q2⟩:=g4 _ _ _ _ _ _ hi hj;obtain ⟨b2,o2,n2,c2,⟨b,n,c,p1,p2⟩,p3⟩:=h3 _ _ _ _ _ _ g1 q1 q2 hl;exact ⟨b2,o2,n2,c2,⟨b,n,c,g2.trans p1,(T.cell _ _ _ _ _ _ _ _ _ _ _ _ g1 ⟨_,_,hm⟩ p1 q1 q2 (World.block_lt_of_cell? w ⟨b,_,none⟩ p2)).trans p2⟩,p3⟩
 | bptr h1 _ ih=>exact .bptr (h1.step T) ih
 | agg _ h2 _ ih1 ih=>exact .agg ih1 h2 ih
 | tup _ _ ih1 ih=>exact .tup ih1 ih
 | clo _ _ ih1 ih=>exact .clo ih1 ih
 | slf h1 _ ih=>exact .slf (h1.imp id fun ⟨q1,b,q2,q3⟩=>⟨T.has _ q1,b,(T.ptr _ _ q1 q2).trans q2,q3⟩) ih
 | junk _ ih=>exact .junk ih
inductive TK where
 | int (k:IntKind)
 | bool
 | str
 | sl (e k:Nat)
 | oth (z:Value)
 deriving Inhabited
structure TI where
 agg:Bool
 cells:List TK
 bytes:Nat
 fields:List (Nat × Nat)
 elem:Nat
 deriving Inhabited
def TK.zero:TK->Value
 | .int k=>.int k 0
 | .bool=>.bool false
 | .str=>.string ⟨#[]⟩
 | .sl _ _=>.slice none 0 0
 | .oth z=>z
def TK.zeroAV:TK->AV
 | .int k=>.int k 0
 | .bool=>.bool false
 | .str=>.str []
 | .sl _ _=>.nil
 | .oth z=>.raw z
def TK.zeroD:TK->D
 | .int k=>.int k 0
 | .bool=>.bool false
 | .str=>.str []
 | .sl e k=>.sl e k []
 | .oth z=>.raw z
def TK.plain:TK->Bool
 | .oth z=>z.oneCell'
 | _=>true
def oM (P:Program) (t:Nat):Prop:=P.stoodInHeld t=false/\P.eqGuardType P.depth t=false /\ ∃ f1 f2 k,P.underlying t=some (.struct #[f1,f2])/\f1.name ≠ "_" /\ f2.name ≠ "_" /\ f1.offset=0/\f2.offset=1/\P.underlying f1.type=some .string/\P.underlying f2.type=some (.int k)
structure TOk (P:Program) (t:Nat) (ti:TI):Prop where
 cmp:ti.agg=true->ti.elem=1->oM P t
 info:∃ i z,P.info? t=some i/\i.size=ti.cells.length/\i.bytes=ti.bytes/\i.zero=some z/\z.cells.toList=ti.cells.map TK.zero
 plain:∀ c ∈ ti.cells,c.plain=true
 pos:0 < ti.cells.length
 desc:if ti.agg then ∃ fs,P.underlying t=some (.struct fs)/\fs.toList.map (fun f=>(f.type,f.offset))=ti.fields
  else (∃ c,ti.cells=[c]/\match c with
   | .int k=>P.underlying t=some (.int k)
   | .bool=>P.underlying t=some .bool
   | .str=>P.underlying t=some .string
   | .sl e _=>e=ti.elem/\P.underlying t=some (.slice e)
   | .oth _=>∃ d,P.underlying t=some d/\(match d with | .struct _ | .array _ _=>false | _=>true)=true)
def D.asInt:D->Int | .int _ n=>n | _=>0
def D.asBool:D->Bool | .bool b=>b | _=>false
def D.asStr:D->List UInt8 | .str s=>s | _=>[]
def D.asRows:D->List (List D) | .sl _ _ r=>r | _=>[]
def D.asRaw:D->Value | .raw v=>v | _=>undef
def ld1 (mk:Nat->List (List D)->AV):TK->D->Prop × AV
 | .int k,d=>(d = .int k d.asInt,.int k d.asInt)
 | .bool,d=>(d = .bool d.asBool,.bool d.asBool)
 | .str,d=>(d = .str d.asStr,.str d.asStr)
 | .sl e k,d=>(d = .sl e k d.asRows,mk k d.asRows)
 | .oth _,d=>(d = .raw d.asRaw,.raw d.asRaw)
def ldL (mk:Nat->Nat->List (List D)->AV):Nat->List TK->List D->Prop × List AV
 | _,[],_=>(True,[])
 | c,k :: ks,ds =>
  let a:=ld1 (mk c) k (ds.headD .junk)
  let r:=ldL mk (c+1) ks ds.tail
  (a.1/\r.1,a.2 :: r.2)
def AV.rows:AV->Option (Nat × List (List D))
 | .sl _ k r=>some (k,r)
 | .own _ k r=>some (k,r)
 | .sub _ _ _ k r=>some (k,r)
 | _=>none
def inR:IntKind->Int->Prop
 | .i8,n=>-128<=n/\n<=127
 | .i16,n=>-32768<=n/\n<=32767
 | .i32,n=>-2147483648<=n/\n<=2147483647
 | .i64,n=>-9223372036854775808<=n/\n<=9223372036854775807
 | .u8,n=>0<=n/\n<=255
 | .u16,n=>0<=n/\n<=65535
 | .u32,n=>0<=n/\n<=4294967295
 | .u64,n=>0<=n/\n<=18446744073709551615
def iE (op:BinOp) (k:IntKind) (a b:Int):Int :=
 match op with
 | .and=>k.wrap ((BitVec.ofInt k.bits a &&& BitVec.ofInt k.bits b).toNat:Int)
 | .or=>k.wrap ((BitVec.ofInt k.bits a ||| BitVec.ofInt k.bits b).toNat:Int)
 | .xor=>k.wrap ((BitVec.ofInt k.bits a ^^^ BitVec.ofInt k.bits b).toNat:Int)
 | _=>k.wrap ((BitVec.ofInt k.bits a &&& ~~~ BitVec.ofInt k.bits b).toNat:Int)
def lI (op:BinOp):AV->AV->Option (Prop × AV)
 | .int k a,.int k' b =>
  match op with
  | .shl=>some (0<=b,.int k (k.wrap (a * 2 ^ (min b.toNat k.bits))))
  | .shr=>some (0<=b,.int k (a.fdiv (2 ^ (min b.toNat k.bits))))
  | .add=>if k=k' then some (inR k (a+b),.int k (a+b)) else none
  | .sub=>if k=k' then some (inR k (a - b),.int k (a - b)) else none
  | .mul=>if k=k' then some (inR k (a * b),.int k (a * b)) else none
  | .quo=>if k=k' then some (b ≠ 0/\inR k (a.tdiv b),.int k (a.tdiv b)) else none
  | .rem=>if k=k' then some (b ≠ 0,.int k (a.tmod b)) else none
  | .and | .or | .xor | .andNot=>if k=k' then some (True,.int k (iE op k a b)) else none
  | .eql=>if k=k' then some (True,.bool (decide (a=b))) else none
  | .neq=>if k=k' then some (True,.bool (!decide (a=b))) else none
  | .lss=>if k=k' then some (True,.bool (decide (a < b))) else none
  | .leq=>if k=k' then some (True,.bool (decide (a<=b))) else none
  | .gtr=>if k=k' then some (True,.bool (decide (b < a))) else none
  | .geq=>if k=k' then some (True,.bool (decide (b<=a))) else none
 | .str a,.str b =>
  match op with
  | .add=>some (a.length+b.length<=maxLen,.str (a++b))
  | .eql=>some (True,.bool (decide (a=b)))
  | .neq=>some (True,.bool (!decide (a=b)))
  | .lss=>some (True,.bool (Go.Op.bytesLess a b))
  | .leq=>some (True,.bool (Go.Op.bytesLess a b || decide (a=b)))
  | .gtr=>some (True,.bool (!(Go.Op.bytesLess a b || decide (a=b))))
  | .geq=>some (True,.bool (!Go.Op.bytesLess a b))
  | _=>none
 | _,_=>none
def AV.one:AV->Bool
 | .agg _ | .tup _ | .junk | .slf _=>false
 | _=>true
def AV.deepOk:AV->Bool
 | .int _ _ | .bool _ | .str _ | .raw _ | .nil=>true
 | _=>false
def nV:Value->AV
 | .int k n=>.int k n
 | .bool b=>.bool b
 | .string s=>.str s.data.toList
 | .slice none 0 0=>.nil
 | v=>if v.oneCell' then .raw v else .junk
def AV.toD:TK->AV->Option D
 | .int k,.int k' n=>if k=k' then some (.int k n) else none
 | .bool,.bool b=>some (.bool b)
 | .str,.str s=>some (.str s)
 | .sl e k,.nil=>some (.sl e k [])
 | .sl e k,.sl _ k' r=>if k=k' then some (.sl e k r) else none
 | .oth _,.raw v=>some (.raw v)
 | _,_=>none
def gN:List TK->List AV->Option (List D)
 | [],[]=>some []
 | k :: ks,a :: as=>match a.toD k,gN ks as with
  | some d,some ds=>some (d :: ds)
  | _,_=>none
 | _,_=>none
def AV.cells:AV->List AV
 | .agg vs=>vs
 | v=>[v]
def gE (ti:TI) (ρ:Operand->AV):List (Nat × Operand)->Nat->Option (List (List D))
 | [],_=>some []
 | (j,x) :: r,i=>if j=i then match gN ti.cells (ρ x).cells,gE ti ρ r (i+1) with
   | some row,some rows=>some (row :: rows)
   | _,_=>none
  else none
def iT (ρ:Operand->AV) (ps:List (Nat × Operand)):Bool:=ps.all fun p=>(ρ p.2).cells.all AV.deepOk
def byteOf (r:List D):UInt8:=UInt8.ofNat (r.headD .junk).asInt.toNat
structure Out where
 pre:Prop
 fact:Prop
 av:AV
 puts:List (Nat × Blk)
def Out.of (p:Prop) (av:AV):Option Out:=some ⟨p,True,av,[]⟩
def kq (T:Nat->Option TI) (t:Nat) (op:BinOp) (u v:AV):Option Out:=match u,v,T t with
 | .agg [.str a,.int k n],.agg [.str b,.int k' n'],some ti=>if ti.agg=true/\ti.elem=1/\k=k' then (match op with
  | .eql=>Out.of True (.bool (decide (a=b/\n=n')))
  | .neq=>Out.of True (.bool (!decide (a=b/\n=n')))
  | _=>none) else none
 | .sl _ _ rows,.nil,some ti=>if rows=[] then none else match ti.agg,ti.cells,op with
  | false,[.sl _ _],.eql=>Out.of True (.bool false)
  | false,[.sl _ _],.neq=>Out.of True (.bool true)
  | _,_,_=>none
 | .nil,.nil,some ti=>match ti.agg,ti.cells,op with
  | false,[.sl _ _],.eql=>Out.of True (.bool true)
  | false,[.sl _ _],.neq=>Out.of True (.bool false)
  | _,_,_=>none
 | _,_,_=>none
theorem sf {T:Nat->Option TI} {t:Nat} {op:BinOp} {u v:AV} {r:Out} (h:kq T t op u v=some r):∃ b,r=⟨True,True,.bool b,[]⟩:=by
 unfold kq at h
 repeat' split at h
 all_goals first | (cases h; exact ⟨_,rfl⟩) | cases h
section
variable (T:Nat->Option TI)
def il (t:Nat) (m:Nat->Option Blk):AV->Option Out
 | .ptr h o=>match T t,m h with
  | some ti,some (.box _ vs) =>
   if ti.agg then (if o+ti.cells.length<=vs.length then Out.of True (.agg ((vs.drop o).take ti.cells.length)) else none)
   else match vs[o]? with
    | some v=>Out.of True v
    | none=>none
  | _,_=>none
 | .bptr e ds=>match T t with
  | some ti =>
   let r:=ldL (fun _ k rows=>.sl e k rows) 0 ti.cells ds
   Out.of (ti.cells.length<=ds.length/\r.1) (if ti.agg then .agg r.2 else r.2.headD .junk)
  | none=>none
 | .eptr h i o ds=>match T t with
  | some ti =>
   let r:=ldL (fun c k rows=>.sub h i (o+c) k rows) 0 ti.cells ds
   Out.of (ti.cells.length<=ds.length/\r.1) (if ti.agg then .agg r.2 else r.2.headD .junk)
  | none=>none
 | .sptr _ _ _ l o _ rows=>match T t with
  | some ti =>
   let r:=ldL (fun _ k rows=>.sl false k rows) 0 ti.cells ((rows.getD l []).drop o)
   Out.of (ti.cells.length<=((rows.getD l []).drop o).length/\r.1) (if ti.agg then .agg r.2 else r.2.headD .junk)
  | none=>none
 | _=>none
def kQ (t f:Nat) (x:AV):Option Out :=
 match T t with
 | some ti=>match ti.fields[f]? with
  | some (ft,off)=>match ti.agg,T ft with
   | true,some _=>match x with
    | .ptr h o=>Out.of True (.ptr h (o+off))
    | .bptr e ds=>Out.of (off<=ds.length) (.bptr e (ds.drop off))
    | .eptr h i o ds=>Out.of (off<=ds.length) (.eptr h i (o+off) (ds.drop off))
    | .sptr h i j l o k rows=>Out.of (off<=((rows.getD l []).drop o).length) (.sptr h i j l (o+off) k rows)
    | _=>none
   | _,_=>none
  | none=>none
 | none=>none
def bi (t:Nat):Nat:=match T t with
 | some ti=>match ti.agg,ti.cells,T ti.elem with
  | false,[.sl _ _],some te=>te.cells.length
  | _,_,_=>0
 | none=>0
def kR (t:Nat) (x i:AV):Option Out :=
 match i with
 | .int _ z=>match x with
  | .sl e k rows=>if k=bi T t/\0 < k then Out.of (0<=z/\z < rows.length) (.bptr e (rows.getD z.toNat [])) else none
  | .own h k rows=>if k=bi T t/\0 < k then Out.of (0<=z/\z < rows.length) (.eptr h z.toNat 0 (rows.getD z.toNat [])) else none
  | .sub h i j k rows=>if k=bi T t/\0 < k then Out.of (0<=z/\z < rows.length) (.sptr h i j z.toNat 0 k rows) else none
  | _=>none
 | _=>none
def lh (t:Nat) (x:AV) (lo hi:Option AV):Option Out :=
 let l:Option Int:=match lo with | none=>some 0 | some (.int _ z)=>some z | _=>none
 let h (n:Nat):Option Int:=match hi with | none=>some n | some (.int _ z)=>some z | _=>none
 match x with
 | .str s=>match l,h s.length,T t with
  | some l,some h,some ⟨false,[.str],_,_,_⟩=>Out.of (0<=l/\l<=h/\h<=s.length) (.str ((s.drop l.toNat).take (h.toNat - l.toNat)))
  | _,_,_=>none
 | .nil=>match l,h 0 with
  | some l,some h=>if 0 < bi T t then Out.of (l=0/\h=0) .nil else none
  | _,_=>none
 | .sl e k rows=>match l,h rows.length with
  | some l,some h=>if k=bi T t/\0 < k then Out.of (0<=l/\l<=h/\h<=rows.length) (.sl e k ((rows.drop l.toNat).take (h.toNat - l.toNat))) else none
  | _,_=>none
 | .own _ k rows=>match l,h rows.length with
  | some l,some h=>if k=bi T t/\0 < k then Out.of (0<=l/\l<=h/\h<=rows.length) (.sl false k ((rows.drop l.toNat).take (h.toNat - l.toNat))) else none
  | _,_=>none
 | .sub _ _ _ k rows=>match l,h rows.length with
  | some l,some h=>if k=bi T t/\0 < k then Out.of (0<=l/\l<=h/\h<=rows.length) (.sl false k ((rows.drop l.toNat).take (h.toNat - l.toNat))) else none
  | _,_=>none
 | _=>none
def kU (t:Nat):AV->Option Out
 | .str s=>match T t with
  | some ⟨false,[.str],_,_,_⟩=>some ⟨True,s.length<=9223372036854775807,.int .i64 s.length,[]⟩
  | _=>none
 | .nil=>if 0 < bi T t then Out.of True (.int .i64 0) else none
 | .sl _ _ r=>if 0 < bi T t then some ⟨True,r.length<=9223372036854775807,.int .i64 r.length,[]⟩ else none
 | .own _ _ r=>if 0 < bi T t then some ⟨True,r.length<=9223372036854775807,.int .i64 r.length,[]⟩ else none
 | .sub _ _ _ _ r=>if 0 < bi T t then some ⟨True,r.length<=9223372036854775807,.int .i64 r.length,[]⟩ else none
 | _=>none
def kK (src dst:Nat) (x:AV):Option Out :=
 match T src,T dst with
 | some ts,some ti=>if ti.agg then none else match ti.cells,x with
  | [.int k],.int _ n=>Out.of (inR k n) (.int k n)
  | [.str],.str s=>Out.of True (.str s)
  | [.str],x=>if ts.agg then none else match ts.cells,T ts.elem,x.rows with
   | [.sl _ _],some te,some (k,rows)=>if te.agg then none else match te.cells with
    | [.int .u8]=>if k=1 then Out.of (∀ r ∈ rows,r=[.int .u8 (byteOf r).toNat]) (.str (rows.map byteOf)) else none
    | _=>none
   | _,_,_=>none
  | _,_=>none
 | _,_=>none
def gw (fields:List (Nat × Nat)) (ρ:Operand->AV):List (Nat × Operand)->List AV->Option (List AV)
 | [],cs=>some cs
 | (i,x) :: rest,cs=>match fields[i]? with
  | some (ft,off)=>match T ft with
   | some tf=>match (if tf.agg then (match ρ x with | .agg vs=>some vs | _=>none) else (if (ρ x).one then some [ρ x] else none)) with
    | some vs=>if vs.length=tf.cells.length/\off+vs.length<=cs.length then gw fields ρ rest (cs.take off++(vs++cs.drop (off+vs.length))) else none
    | none=>none
   | none=>none
  | none=>none
def iF (t:Nat) (ρ:Operand->AV) (parts:List (Nat × Operand)):Option Out :=
 match T t with
 | some ti=>if ti.agg && ti.fields.all (fun p=>(T p.1).isSome) then match gw T ti.fields ρ parts (ti.cells.map TK.zeroAV) with
   | some cs=>Out.of True (.agg cs)
   | none=>none
  else none
 | none=>none
def kP (t f:Nat) (x:AV):Option Out :=
 match T t,x with
 | some ti,.agg vs=>match ti.agg,ti.fields[f]? with
  | true,some (ft,off)=>match T ft with
   | some tf=>if tf.agg then (if off+tf.cells.length<=vs.length then Out.of True (.agg ((vs.drop off).take tf.cells.length)) else none)
    else match vs[off]? with
     | some v=>Out.of True v
     | none=>none
   | none=>none
  | _,_=>none
 | _,_=>none
def calm (g:Bool) (d:Nat) (m:Nat->Option Blk) (ρ:Operand->AV) (o:Oper):Option Out :=
 match o.op with
 | .move x=>Out.of True (ρ x)
 | .assign x=>Out.of True (ρ x)
 | .box t x=>if g then none else match T t with
  | some ti =>
   if ti.agg then match ρ x with
    | .agg vs=>if vs.length=ti.cells.length then some ⟨True,True,.ptr d 0,[(d,.box t vs)]⟩ else none
    | _=>none
   else if (ρ x).one then some ⟨True,True,.ptr d 0,[(d,.box t [ρ x])]⟩ else none
  | none=>none
 | .alloc t=>if g then none else match T t with
  | some ti=>some ⟨True,True,.ptr d 0,[(d,.box t (ti.cells.map TK.zeroAV))]⟩
  | none=>none
 | .fieldAddr t x f=>kQ T t f (ρ x)
 | .field t x f=>kP T t f (ρ x)
 | .load t x=>il T t m (ρ x)
 | .indexAddr t x i=>kR T t (ρ x) (ρ i)
 | .index t x i=>match ρ x,ρ i,T t with
  | .str s,.int _ z,some ⟨false,[.str],_,_,_⟩=>Out.of (0<=z/\z < s.length) (.int .u8 (s.getD z.toNat 0).toNat)
  | _,_,_=>none
 | .slice t x lo hi none=>lh T t (ρ x) (lo.map ρ) (hi.map ρ)
 | .buildSlice t n parts=>if g then (match T t with
  | some ts=>match T ts.elem with
   | some te=>if bi T t=0 then none else match gE te ρ parts.toList 0 with
    | some rows=>if n=parts.toList.length/\n * te.cells.length<=16777216 then
      some ⟨True,True,.sl false te.cells.length rows,[]⟩ else none
    | none=>none
   | none=>none
  | none=>none) else match T t with
  | some ts=>match T ts.elem with
   | some te=>if bi T t=0 then none else match gE te ρ parts.toList 0 with
    | some rows=>if n=parts.toList.length/\n * te.cells.length<=16777216 then
      some ⟨True,True,.own d te.cells.length rows,[(d,.own ts.elem te.cells.length (iT ρ parts.toList) rows)]⟩ else none
    | none=>none
   | none=>none
  | none=>none
 | .build t parts=>iF T t ρ parts.toList
 | .makeSlice t l c=>if g then none else match T t,ρ l,ρ c with
  | some ts,.int _ n,.int _ n'=>match T ts.elem with
   | some te=>if bi T t=0 then none else some ⟨n=n'/\0<=n/\n<=140737488355328/\n * te.bytes<=140737488355328,True,.own d te.cells.length (List.replicate n.toNat (te.cells.map TK.zeroD)),
     [(d,.own ts.elem te.cells.length true (List.replicate n.toNat (te.cells.map TK.zeroD)))]⟩
   | none=>none
  | _,_,_=>none
 | .unOp op _ x=>match op,ρ x with
  | .not,.bool b=>Out.of True (.bool !b)
  | .neg,.int k n=>Out.of (inR k (-n)) (.int k (-n))
  | .xor,.int k n=>Out.of True (.int k (iE .xor k (if k.signed then -1 else k.max) n))
  | _,_=>none
 | .convert src dst x=>kK T src dst (ρ x)
 | .extract x i=>match ρ x with
  | .tup vs=>match vs[i]? with
   | some v=>Out.of True v
   | none=>none
  | _=>none
 | .makeFunc (.func f) first captured=>if first.size=0 then Out.of True (.clo f (captured.toList.map ρ)) else none
 | .nilCheck x=>match ρ x with
  | .ptr h o=>Out.of True (.ptr h o)
  | .eptr h i o ds=>Out.of True (.eptr h i o ds)
  | .sptr h i j l o k rows=>Out.of True (.sptr h i j l o k rows)
  | .bptr e ds=>Out.of True (.bptr e ds)
  | .clo f cs=>Out.of True (.clo f cs)
  | _=>none
 | .binOp op t x y _=>match ρ x,ρ y with
  | .bool a,.bool b=>match T t with
   | some ti=>match ti.cells,op with
    | [.bool],.eql=>if ti.agg then none else Out.of True (.bool (decide (a=b)))
    | [.bool],.neq=>if ti.agg then none else Out.of True (.bool (!decide (a=b)))
    | _,_=>none
   | none=>none
  | u,v=>match lI op u v with
   | some (p,r)=>Out.of p r
   | none=>kq T t op u v
 | .call { callee:=.builtin .len,args,argTypes }=>match args.toList,argTypes.toList with
  | [x],[t]=>kU T t (ρ x)
  | _,_=>none
 | .call { callee:=.builtin .min,args,.. }=>match args.toList.map ρ with
  | [.int k x,.int _ y]=>Out.of True (.int k (if y < x then y else x))
  | _=>none
 | .call { callee:=.builtin .max,args,.. }=>match args.toList.map ρ with
  | [.int k x,.int _ y]=>Out.of True (.int k (if y > x then y else x))
  | _=>none
 | _=>none
end
theorem oS (b o n:Nat):(⟨b,o,none⟩:Addr).add n=⟨b,o+n,none⟩:=by unfold Addr.add; split <;> simp_all
section
variable {P:Program} {t:Nat} {ti:TI} (h:TOk P t ti) (w:World)
include h
theorem TOk.size:(sizeOf t).run P w = .ok ti.cells.length w:=by
 obtain ⟨i,z,h1,h2,_⟩:=h.info;simp [sizeOf,typeInfo,h1,h2]
theorem TOk.isAgg:(isAgg t).run P w = .ok ti.agg w:=by
 have hd:=h.desc;unfold Go.isAgg;cases hg:ti.agg with
 | true =>
  rw [hg] at hd;obtain ⟨fs,hu,_⟩:=hd;simp [run_underlying hu]
 | false =>
  rw [hg] at hd;obtain ⟨c,hc,hm⟩:=hd;cases c with
  | int k=>simp [run_underlying hm]
  | bool=>simp [run_underlying hm]
  | str=>simp [run_underlying hm]
  | sl e k=>simp [run_underlying hm.2]
  | oth z =>
   obtain ⟨d,hu,hd⟩:=hm;cases d <;> simp_all [run_underlying hu]
theorem TOk.zero:∃ z,(zeroValue t).run P w = .ok z w/\z.cells.toList=ti.cells.map TK.zero:=by
 obtain ⟨i,z,h1,h2,h3,h4,h5⟩:=h.info;exact ⟨z,by simp [zeroValue,typeInfo,h1,h4],h5⟩
theorem TOk.slice (hg:ti.agg=false) {e k:Nat} (hc:ti.cells=[.sl e k]):e=ti.elem/\P.underlying t=some (.slice e):=by
 have hd:=h.desc;rw [hg] at hd;obtain ⟨c,h1,h2⟩:=hd;rw [hc] at h1;cases h1;exact h2
theorem TOk.strT (hg:ti.agg=false) (hc:ti.cells=[.str]):P.underlying t=some .string:=by
 have hd:=h.desc;rw [hg] at hd;obtain ⟨c,h1,h2⟩:=hd;rw [hc] at h1;cases h1;exact h2
theorem TOk.intT (hg:ti.agg=false) {k:IntKind} (hc:ti.cells=[.int k]):P.underlying t=some (.int k):=by
 have hd:=h.desc;rw [hg] at hd;obtain ⟨c,h1,h2⟩:=hd;rw [hc] at h1;cases h1;exact h2
theorem TOk.boolT (hg:ti.agg=false) (hc:ti.cells=[.bool]):P.underlying t=some .bool:=by
 have hd:=h.desc;rw [hg] at hd;obtain ⟨c,h1,h2⟩:=hd;rw [hc] at h1;cases h1;exact h2
theorem TOk.struct (hg:ti.agg=true):∃ fs,P.underlying t=some (.struct fs)/\fs.toList.map (fun f=>(f.type,f.offset))=ti.fields:=by
 have hd:=h.desc;rw [hg] at hd;exact hd
theorem TOk.load {b o:Nat} {cs:Array Value} {ty:Nat} {fr} {vs:List Value} (hb:w.heap[b]? = some (.cells cs ty fr))
  (hv:∀ (j:Nat) u,vs[j]? = some u->cs[o+j]? = some u) (hl:vs.length=ti.cells.length) :
  (Instr.loadAt t (.pointer (some ⟨b,o,none⟩))).run P w = .ok (if ti.agg then .agg vs.toArray else vs.headD undef) w:=by
 have hcell:∀ (j:Nat) u,vs[j]? = some u->w.cell? ((⟨b,o,none⟩:Addr).add j)=some u:=by
  intro j u hu;have hadd:(⟨b,o,none⟩:Addr).add j=⟨b,o+j,none⟩:=by unfold Addr.add; split <;> simp_all
  rw [hadd];simp [World.cell?,hb,hv j u hu]
 simp only [Instr.loadAt,Instr.sureAddr,Sem.run_bind,Sem.run_pure,Result.andThen_ok,loadVar,h.isAgg];cases hg:ti.agg with
 | true =>
  have:=run_loadCells_list (P:=P) w ⟨b,o,none⟩ vs hcell;rw [hl] at this;simp [h.size,this]
 | false =>
  have hd:=h.desc;rw [hg] at hd;obtain ⟨c,hc,_⟩:=hd;rw [hc] at hl
  match vs,hl with
  | [v],_ =>
   have:=hcell 0 v rfl;have hadd:(⟨b,o,none⟩:Addr).add 0=⟨b,o,none⟩:=by simp [Addr.add]
   rw [hadd] at this;simp [this]
theorem TOk.fieldAt (hg:ti.agg=true) {f ft off:Nat} (hf:ti.fields[f]? = some (ft,off)) {tf:TI} (hft:TOk P ft tf) (a:Addr) (ha:a.spot=none) :
  (Instr.fieldAt t (.pointer (some a)) f).run P w = .ok (.pointer (some ⟨a.block,a.off+off,none⟩)) w:=by
 obtain ⟨fs,hu,hfs⟩:=h.struct hg;have:(fs.toList.map (fun f=>(f.type,f.offset)))[f]? = some (ft,off):=by rw [hfs]; exact hf
 rw [List.getElem?_map] at this;cases hx:fs.toList[f]? with
 | none=>simp [hx] at this
 | some fd =>
  simp [hx] at this;obtain ⟨e1,e2⟩:=this;have hx':fs[f]? = some fd:=by simpa using hx
  have hsz:tf.cells.length ≠ 0:=Nat.pos_iff_ne_zero.1 hft.pos;have hadd:a.add off=⟨a.block,a.off+off,none⟩:=by
   unfold Addr.add;split
   ·rename_i h0; subst h0; cases a; simp_all
   ·rfl
  subst e1 e2;simp [Instr.fieldAt,run_underlying hu,hx',Instr.sureAddr,fieldPlace,hft.size,hsz,hadd]
end
theorem KE {w m β c} (mk:Nat->Nat->List (List D)->AV):∀ (ks:List TK) (ds:List D) (vs:List Value) (fp:List (Nat × Nat)) (c0:Nat),RdL false w ds vs fp->ks.length<=ds.length ->
  (ldL mk c0 ks ds).1->(∀ (j:Nat) e k rows v f,ds[j]? = some (.sl e k rows)->vs[j]? = some v->RdL false w [.sl e k rows] [v] f->(∀ x ∈ f,x ∈ fp)->RelL w m β c [mk (c0+j) k rows] [v]) ->
  RelL w m β c (ldL mk c0 ks ds).2 (vs.take ks.length):=by
 intro ks
 induction ks with
 | nil=>intro ds vs fp c0 _ _ _ _; simpa [ldL] using RelL.lnil
 | cons k ks ih =>
  intro ds vs fp c0 hr hl hp hmk;cases ds with
  | nil=>simp at hl
  | cons d ds =>
   obtain ⟨v,vs',f1,f2,rfl,rfl,h1,h2⟩:=hr.uncons;simp only [ldL,List.headD_cons,List.tail_cons] at hp ⊢;have hrest:=ih ds vs' f2 (c0+1) h2 (by simpa using hl) hp.2 (fun j e k rows u f hj hu hf hs=>by
    have:=hmk (j+1) e k rows u f (by simpa using hj) (by simpa using hu) hf (fun x hx=>by simp [hs x hx])
    rwa [show c0+(j+1)=c0+1+j from by omega] at this)
   have hhead:RelL w m β c [(ld1 (mk c0) k d).2] [v]:=by
    have hp1:=hp.1;cases k with
    | int k =>
     simp only [ld1] at hp1 ⊢;rw [hp1] at h1;cases h1 with
     | int h=>rw [hp1]; exact .int .lnil
    | bool =>
     simp only [ld1] at hp1 ⊢;rw [hp1] at h1;cases h1 with
     | bool h=>exact .bool .lnil
    | str =>
     simp only [ld1] at hp1 ⊢;rw [hp1] at h1;cases h1 with
     | str hs h=>exact .str hs .lnil
    | sl e k =>
     simp only [ld1] at hp1 ⊢;have:=hmk 0 e k d.asRows v f1 (by simp; exact hp1) rfl (by rw [<- hp1]; exact h1) (fun x hx=>by simp [hx])
     simpa using this
    | oth z =>
     simp only [ld1] at hp1 ⊢;rw [hp1] at h1;cases h1 with
     | raw hs h=>exact .raw hs .lnil
   simpa using hhead.cons hrest
section
variable {P:Program} {T:Nat->Option TI} (hT:∀ t ti,T t=some ti->TOk P t ti) {w:World} {m:Nat->Option Blk} {β:Nat->Value} {c:Cx}
include hT
theorem wR {t ti ext ds a mk} (ht:T t=some ti) (hv:PVw w m β c ext ds a) (hl:ti.cells.length<=ds.length) (hp:(ldL mk 0 ti.cells ds).1)
  (hmk:∀ (j:Nat) e k rows v f cs ty fr,ds[j]? = some (.sl e k rows)->w.heap[a.block]? = some (.cells cs ty fr)->a.spot=none->cs[a.off+j]? = some v->RdL false w [.sl e k rows] [v] f ->
   (∀ x ∈ f,Lim m β x/\c.may ext x)->RelL w m β c [mk j k rows] [v]) :
  ∃ u,(Instr.loadAt t (.pointer (some a))).run P w = .ok u w /\
   RelL w m β c [if ti.agg then .agg (ldL mk 0 ti.cells ds).2 else (ldL mk 0 ti.cells ds).2.headD .junk] [u]:=by
 obtain ⟨b,o,cs,ty,fr,vs,fp,rfl,hb,hc,hr,hlim⟩:=hv;have hlen:=hr.length;have hrel:=KE (w:=w) (m:=m) (β:=β) (c:=c) mk ti.cells ds vs fp 0 hr hl hp (fun j e k rows v f hj hv hf hs=>by
  have:=hmk j e k rows v f cs ty fr hj hb rfl (hc j v hv) hf (fun x hx=>hlim x (by simp [hs x hx]))
  simpa using this)
 have hload:=(hT _ _ ht).load w (vs:=vs.take ti.cells.length) hb (fun j u hu=>by
  rw [List.getElem?_take] at hu;split at hu
  ·exact hc j u hu
  ·cases hu) (by simp; omega)
 refine ⟨_,hload,?_⟩;cases hg:ti.agg with
 | true =>
  simp only [if_true];exact .agg hrel (fun u hu=>hr.oneCell u (List.mem_of_mem_take hu)) .lnil
 | false =>
  have hd:=(hT _ _ ht).desc;rw [hg] at hd;obtain ⟨k,hk,_⟩:=hd;rw [hk] at hrel hl ⊢;simp only [Bool.false_eq_true,if_false,List.length_singleton] at hrel ⊢
  match vs,hlen with
  | [],hlen=>simp at hlen; simp [hlen] at hl
  | v :: vs',_=>simpa [ldL] using hrel
theorem Bm {s:St} {a:Act} {fp} (S:SatI c s a w β fp) {mm:Nat->Option Blk} (hm:∀ h b,mm h=some b->s.m h=some b) {t x v r}
  (hx:RelL w s.m β c [x] [v]) (he:il T t mm x=some r) (hp:r.pre) :
  r.puts=[]/\r.fact /\ ∃ u,(Instr.loadAt t v).run P w = .ok u w/\RelL w s.m β c [r.av] [u]:=by
 cases x <;> simp only [il] at he <;> try (cases he; done)
 case ptr h o =>
  cases hx with
  | @ptr _ _ b _ _ h1 h2 h3 =>
  cases ht:T t with
  | none=>simp [ht] at he
  | some ti =>
   rw [ht] at he;cases hh:mm h with
   | none=>simp [hh] at he
   | some blk =>
    rw [hh] at he;cases blk with
    | own=>simp at he
    | dead=>simp at he
    | box ty us =>
     have hbk:=S.mem h _ (hm _ _ hh);obtain ⟨_,b',cvs,hb1,hb2,hb3,hb4⟩:=hbk;rw [h2] at hb1;cases hb1;have hlen:=hb3.length;simp only at he;cases hg:ti.agg with
     | true =>
      rw [hg] at he;simp only [if_true] at he;split at he
      ·rename_i hle;cases he;refine ⟨rfl,trivial,_,(hT _ _ ht).load w (vs:=(cvs.drop o).take ti.cells.length) hb2 (fun j u hu=>?_) (by simp; omega),?_⟩
       ·rw [List.getElem?_take] at hu;split at hu
        ·simpa using hu
        ·cases hu
       ·rw [hg];simp only [if_true];exact .agg ((hb3.split o).2.split ti.cells.length).1 (fun u hu=>hb4 u (List.mem_of_mem_drop (List.mem_of_mem_take hu))) .lnil
      ·cases he
     | false =>
      rw [hg] at he;simp only [Bool.false_eq_true,if_false] at he;cases hu:us[o]? with
      | none=>simp [hu] at he
      | some u =>
       rw [hu] at he;cases he;obtain ⟨v',hv',hrv⟩:=hb3.get o u hu;have hd:=(hT _ _ ht).desc;rw [hg] at hd;obtain ⟨k,hk,_⟩:=hd;refine ⟨rfl,trivial,_,(hT _ _ ht).load w (vs:=[v']) hb2 (fun j u hu=>?_) (by simp [hk]),?_⟩
       ·cases j with
        | zero=>simp at hu; subst hu; simpa using hv'
        | succ j=>simp at hu
       ·rw [hg]; simpa using hrv
 case bptr e ds =>
  cases hx with
  | bptr h1 h2 =>
  cases ht:T t with
  | none=>simp [ht] at he
  | some ti =>
   rw [ht] at he;simp only [Out.of,Option.some.injEq] at he;subst he;obtain ⟨hp1,hp2⟩:=hp;obtain ⟨u,hu1,hu2⟩:=wR hT (m:=s.m) ht h1 hp1 hp2 (fun j e' k rows v f cs ty fr _ _ _ _ hr hl=>.sl ⟨e',f,hr,hl⟩ .lnil);exact ⟨rfl,trivial,u,hu1,hu2⟩
 case eptr h i o ds =>
  cases hx with
  | @eptr _ _ _ _ ad _ _ h1 h2 h3 h4 =>
  cases ht:T t with
  | none=>simp [ht] at he
  | some ti =>
   rw [ht] at he;simp only [Out.of,Option.some.injEq] at he;subst he;obtain ⟨hp1,hp2⟩:=hp;obtain ⟨u,hu1,hu2⟩:=wR hT (m:=s.m) ht h2 hp1 hp2 (fun j e' k rows v f cs ty fr hj hb hsp hc hr hl=>by
    refine .sub h1 ⟨e',f,hr,hl⟩ (fun e1 k' d R r e2 hm1 hi hj1=>?_) .lnil;have hiR:i < R.length:=(List.getElem?_eq_some_iff.1 hi).1;obtain ⟨b1,n1,c1,p1,p2⟩:=h3 _ _ _ _ hm1 hiR;refine ⟨b1,n1,c1,p1,?_⟩;subst p2;simp only [World.cell?,hb];simp [show i * k'+(o+j)=i * k'+o+j from by omega,hc])
   exact ⟨rfl,trivial,u,hu1,hu2⟩
 case sptr h i j l o k rows =>
  cases hx with
  | sptr h1 h2 h3 h4 =>
  cases ht:T t with
  | none=>simp [ht] at he
  | some ti =>
   rw [ht] at he;simp only [Out.of,Option.some.injEq] at he;subst he;obtain ⟨hp1,hp2⟩:=hp;obtain ⟨u,hu1,hu2⟩:=wR hT (m:=s.m) ht h2 hp1 hp2 (fun j e' k rows v f cs ty fr _ _ _ _ hr hl=>.sl ⟨e',f,hr,hl⟩ .lnil);exact ⟨rfl,trivial,u,hu1,hu2⟩
end
theorem PVw.drop {w m β c ext ds b o} (h:PVw w m β c ext ds ⟨b,o,none⟩) (n:Nat) (hn:n<=ds.length):PVw w m β c ext (ds.drop n) ⟨b,o+n,none⟩:=by
 obtain ⟨b',o',cs,ty,fr,vs,fp,he,hb,hc,hr,hl⟩:=h;cases he;obtain ⟨f1,f2,rfl,_,h2⟩:=hr.split n;have hlen:=hr.length;refine ⟨b,o+n,cs,ty,fr,vs.drop n,f2,rfl,hb,fun j u hu=>?_,h2,fun x hx=>?_⟩
 ·rw [List.getElem?_drop] at hu;have:=hc _ _ hu
  rwa [show o+n+j=o+(n+j) from by omega]
 ·have e:o+n+(vs.drop n).length=o+vs.length:=by simp; omega
  rw [e] at hx;apply hl;simp only [List.mem_cons,List.mem_append] at hx ⊢;rcases hx with hx | hx
  ·exact .inl hx
  ·exact .inr (.inr hx)
theorem PVw.spot {w m β c ext ds a} (h:PVw w m β c ext ds a):a.spot=none:=by
 obtain ⟨_,_,_,_,_,_,_,rfl,_⟩:=h;rfl
theorem Hn {α:Type} {k:Nat}:∀ {rows:List (List α)},(∀ r ∈ rows,r.length=k) -> ∀ (i j:Nat) r,rows[i]? = some r->j < k->rows.flatten[i * k+j]? = r[j]?:=by
 intro rows
 induction rows with
 | nil=>intro _ i j r h; simp at h
 | cons x rows ih =>
  intro hk i j r h hj;have hx:x.length=k:=hk x (by simp)
  cases i with
  | zero =>
   simp at h;subst h;rw [List.flatten_cons,Nat.zero_mul,Nat.zero_add,List.getElem?_append_left (by omega)]
  | succ i =>
   simp at h;have:=ih (fun r hr=>hk r (by simp [hr])) i j r h hj
   rw [List.flatten_cons,List.getElem?_append_right (by rw [hx,Nat.succ_mul]; omega),hx,<- this]
   congr 1
   rw [Nat.succ_mul]; omega
theorem eX {α:Type} {k:Nat}:∀ {rows:List (List α)},(∀ r ∈ rows,r.length=k)->rows.flatten.length=rows.length * k:=by
 intro rows
 induction rows with
 | nil=>simp
 | cons x rows ih =>
  intro hk;simp only [List.flatten_cons,List.length_append,List.length_cons];rw [ih (fun r hr=>hk r (by simp [hr])),hk x (by simp),Nat.succ_mul]
  omega
theorem Hm {α:Type} {k:Nat}:∀ {rows:List (List α)},(∀ r ∈ rows,r.length=k) -> ∀ (i:Nat) r,rows[i]? = some r->(rows.flatten.drop (i * k)).take k=r:=by
 intro rows
 induction rows with
 | nil=>intro _ i r h; simp at h
 | cons x rows ih =>
  intro hk i r h;have hx:x.length=k:=hk x (by simp)
  cases i with
  | zero=>simp at h; subst h; simp [hx]
  | succ i =>
   simp at h;have:=ih (fun r hr=>hk r (by simp [hr])) i r h
   rw [List.flatten_cons,Nat.succ_mul,Nat.add_comm,<- List.drop_drop];rw [show (x++rows.flatten).drop k=rows.flatten by rw [<- hx]; simp]
   exact this
theorem Lim.less {m β b n n'} (h:Lim m β (b,n)) (hn:n'<=n):Lim m β (b,n') :=
 ⟨h.1,fun h' e k d R n2 c hm hb=>Nat.le_trans hn (h.2 h' e k d R n2 c hm hb)⟩
theorem Bs {c:Cx} {ext b n n'} (h:c.may ext (b,n)) (hn:n'<=n):c.may ext (b,n'):=by
 rcases h with ⟨y,hy,h1,h2⟩ | h
 ·exact .inl ⟨y,hy,h1,Nat.le_trans hn h2⟩
 ·exact .inr h
theorem Hl {α:Type} {k:Nat}:∀ {rows:List (List α)},(∀ r ∈ rows,r.length=k) -> ∀ (i:Nat),(rows.drop i).flatten=rows.flatten.drop (i * k):=by
 intro rows
 induction rows with
 | nil=>intro _ i; simp
 | cons x rows ih =>
  intro hk i;have hx:x.length=k:=hk x (by simp)
  cases i with
  | zero=>simp
  | succ i =>
   simp only [List.drop_succ_cons,List.flatten_cons];rw [ih (fun r hr=>hk r (by simp [hr])) i,Nat.succ_mul,Nat.add_comm (i * k) k,<- List.drop_drop]
   rw [show (x++rows.flatten).drop k=rows.flatten by rw [<- hx]; simp]
theorem Ho {α:Type} {k:Nat}:∀ {rows:List (List α)},(∀ r ∈ rows,r.length=k) -> ∀ (i:Nat),(rows.take i).flatten=rows.flatten.take (i * k):=by
 intro rows
 induction rows with
 | nil=>intro _ i; simp
 | cons x rows ih =>
  intro hk i;have hx:x.length=k:=hk x (by simp)
  cases i with
  | zero=>simp
  | succ i =>
   simp only [List.take_succ_cons,List.flatten_cons];rw [ih (fun r hr=>hk r (by simp [hr])) i,Nat.succ_mul,Nat.add_comm (i * k) k,List.take_append,hx]
   have e1:List.take (k+i * k) x=x:=List.take_of_length_le (by omega)
   rw [e1,show k+i * k - k=i * k from by omega]
theorem RdL.open1 {w:World} {e k rows v fp} (h:RdL false w [.sl e k rows] [v] fp) :
  (rows=[]/\fp=[] /\ ∃ oa cap,v = .slice oa 0 cap/\cap<=maxLen) \/
  ∃ b off cap cs ty fr cvs f1,v = .slice (some ⟨b,off,none⟩) rows.length cap/\0 < rows.length/\rows.length<=cap/\cap<=maxLen/\(∀ r ∈ rows,r.length=k) /\
   w.heap[b]? = some (.cells cs ty fr)/\(∀ (j:Nat) u,cvs[j]? = some u->cs[off+j]? = some u)/\RdL false w rows.flatten cvs f1/\fp=(b,off+cvs.length) :: f1:=by
 cases h with
 | sl0 hc h0 hn=>cases hn; exact .inl ⟨rfl,rfl,_,_,rfl,hc⟩
 | sl h1 h2 h3 h4 h5 h6 hq h7 a1 a2 =>
  cases a2;subst h1;exact .inr ⟨_,_,_,_,_,_,_,_,rfl,by simpa using h2,h3,h4,h5,h6,h7,a1,by simp⟩
theorem RdL.close1 {w:World} {e k rows b off cap cs ty fr cvs f1} (h2:0 < rows.length) (h3:rows.length<=cap) (h4:cap<=maxLen) (h5:∀ r ∈ rows,r.length=k)
  (h6:w.heap[b]? = some (.cells cs ty fr)) (h7:∀ (j:Nat) u,cvs[j]? = some u->cs[off+j]? = some u) (h8:RdL false w rows.flatten cvs f1) :
  RdL false w [.sl e k rows] [.slice (some ⟨b,off,none⟩) rows.length cap] ((b,off+cvs.length) :: f1):=by
 have:=RdL.sl (q:=false) (e:=e) rfl (.inr h2) h3 h4 h5 h6 (by simp) h7 h8 .nil
 simpa using this
theorem Vw.row {w m β c ext e k rows v} (h:Vw w m β c ext [.sl e k rows] [v]) (i:Nat) (hi:i < rows.length) :
  ∃ b off cap,v = .slice (some ⟨b,off,none⟩) rows.length cap/\PVw w m β c ext (rows.getD i []) ⟨b,off+i * k,none⟩:=by
 obtain ⟨fp,hr,hl⟩:=h;rcases hr.open1 with ⟨rfl,_⟩ | ⟨b,off,cap,cs,ty,fr,cvs,f1,rfl,h2,h3,h4,h5,h6,h7,h8,rfl⟩
 ·simp at hi
 ·refine ⟨b,off,cap,rfl,?_⟩;have hget:rows[i]? = some (rows.getD i []):=by simp [List.getD,List.getElem?_eq_getElem hi]
  have hrl:(rows.getD i []).length=k:=h5 _ (List.mem_of_getElem? hget);have hfl:=eX h5;have hcl:=h8.length;obtain ⟨g1,g2,e1,_,a2⟩:=h8.split (i * k);obtain ⟨g3,g4,e2,a3,_⟩:=a2.split k;rw [Hm h5 i _ hget] at a3;have hle:i * k+k<=rows.length * k:=by rw [<- Nat.succ_mul]; exact Nat.mul_le_mul_right _ hi
  refine ⟨b,off+i * k,cs,ty,fr,_,g3,rfl,h6,fun j u hu=>?_,a3,fun x hx=>?_⟩
  ·rw [List.getElem?_take] at hu;split at hu
   ·rw [List.getElem?_drop] at hu;have:=h7 _ _ hu
    rwa [show off+i * k+j=off+(i * k+j) from by omega]
   ·cases hu
  ·have hlen2:((cvs.drop (i * k)).take k).length=k:=by simp only [List.length_take,List.length_drop]; omega
   rw [hlen2] at hx;rcases List.mem_cons.1 hx with rfl | hx
   ·have:=hl (b,off+cvs.length) (by simp)
    have hle2:off+i * k+k<=off+cvs.length:=by omega
    exact ⟨this.1.less hle2,Bs this.2 hle2⟩
   ·exact hl x (by simp [e1,e2,hx])
theorem Vw.win {w m β c ext e k rows v} (h:Vw w m β c ext [.sl e k rows] [v]) (l n:Nat) (hln:l+n<=rows.length) :
  ∃ oa cap,v = .slice oa rows.length cap/\rows.length<=cap/\cap<=maxLen/\(0 < n->oa ≠ none) /\
   Vw w m β c ext [.sl e k ((rows.drop l).take n)] [.slice (if cap=l then oa else oa.map (·.add (l * k))) n (cap - l)]:=by
 obtain ⟨fp,hr,hl⟩:=h;rcases hr.open1 with ⟨rfl,rfl,oa,cap,rfl,hcap⟩ | ⟨b,off,cap,cs,ty,fr,cvs,f1,rfl,h2,h3,h4,h5,h6,h7,h8,rfl⟩
 ·have hn:n=0:=by simp at hln; omega
  have hl0:l=0:=by simp at hln; omega
  subst hn hl0;refine ⟨oa,cap,rfl,Nat.zero_le _,hcap,by simp,[],?_,by simp⟩
  simpa using RdL.sl0 (by omega) (by simp) .nil
 ·refine ⟨_,cap,rfl,h3,h4,by simp,?_⟩
  by_cases hn:n=0
  ·subst hn;refine ⟨[],?_,by simp⟩
   simpa using RdL.sl0 (by omega) (by simp) .nil
  ·have hne:cap ≠ l:=by omega
   have hadd:(⟨b,off,none⟩:Addr).add (l * k)=⟨b,off+l * k,none⟩:=by unfold Addr.add; split <;> simp_all
   obtain ⟨g1,g2,e1,_,a2⟩:=h8.split (l * k);obtain ⟨g3,g4,e2,a3,_⟩:=a2.split (n * k);have hw:∀ r ∈ (rows.drop l).take n,r.length=k:=fun r hr=>h5 r (List.mem_of_mem_drop (List.mem_of_mem_take hr));have hfl:=eX h5;have hcl:=h8.length;rw [<- Hl h5,<- Ho (fun r hr=>h5 r (List.mem_of_mem_drop hr))] at a3;have hlen:((rows.drop l).take n).length=n:=by simp; omega
   have hcl3:((cvs.drop (l * k)).take (n * k)).length=n * k:=by rw [<- a3.length,eX hw,hlen]
   have hle:l * k+n * k<=rows.length * k:=by rw [<- Nat.add_mul]; exact Nat.mul_le_mul_right _ hln
   have:=RdL.close1 (e:=e) (rows:=(rows.drop l).take n) (b:=b) (off:=off+l * k) (cap:=cap - l) (by omega) (by omega) (by omega) hw h6 (fun j u hu=>by
    rw [List.getElem?_take] at hu;split at hu
    ·rw [List.getElem?_drop] at hu;have:=h7 _ _ hu
     rwa [show off+l * k+j=off+(l * k+j) from by omega]
    ·cases hu) a3
   rw [hlen] at this;rw [hcl3] at this;refine ⟨(b,off+l * k+n * k) :: g3,by rw [if_neg hne]; simpa [hadd] using this,fun x hx=>?_⟩
   rcases List.mem_cons.1 hx with rfl | hx
   ·have:=hl (b,off+cvs.length) (by simp)
    have hle2:off+l * k+n * k<=off+cvs.length:=by omega
    exact ⟨this.1.less hle2,Bs this.2 hle2⟩
   ·exact hl x (by simp [e1,e2,hx])
section
variable {P:Program} {T:Nat->Option TI} (hT:∀ t ti,T t=some ti->TOk P t ti) {w:World} {m:Nat->Option Blk} {β:Nat->Value} {c:Cx}
include hT
theorem gv {t k:Nat} (hk:k=bi T t/\0 < k):∃ e te,P.underlying t=some (.slice e)/\T e=some te/\te.cells.length=k:=by
 obtain ⟨h1,h2⟩:=hk;unfold bi at h1;split at h1
 ·rename_i ti ht;split at h1
  ·rename_i e k' te hg hc he;obtain ⟨e1,e2⟩:=(hT _ _ ht).slice hg hc;subst e1;exact ⟨_,te,e2,he,h1.symm⟩
  ·omega
 ·omega
theorem G8 {t f x v r} (hx:RelL w m β c [x] [v]) (he:kQ T t f x=some r) (hp:r.pre) :
  r.puts=[]/\r.fact /\ ∃ u,(Instr.fieldAt t v f).run P w = .ok u w/\RelL w m β c [r.av] [u]:=by
 unfold kQ at he;cases ht:T t with
 | none=>simp [ht] at he
 | some ti =>
  rw [ht] at he;simp only at he;cases hf:ti.fields[f]? with
  | none=>simp [hf] at he
  | some q =>
   obtain ⟨ft,off⟩:=q;rw [hf] at he;simp only at he;cases hg:ti.agg with
   | false=>simp [hg] at he
   | true =>
    rw [hg] at he;cases hft:T ft with
    | none=>simp [hft] at he
    | some tf =>
     rw [hft] at he;simp only at he;have run:=fun (a:Addr) (ha:a.spot=none)=>(hT _ _ ht).fieldAt w hg hf (hT _ _ hft) a ha;cases x <;> simp only [Out.of,Option.some.injEq] at he <;> try (cases he; done)
     case ptr h o =>
      subst he;cases hx with
      | ptr h1 h2 _=>exact ⟨rfl,trivial,_,run _ rfl,.ptr h1 h2 .lnil⟩
     case bptr e ds =>
      subst he;cases hx with
      | @bptr _ _ ad _ _ h1 _ =>
       have hs:=h1.spot;obtain ⟨b,o,sp⟩:=ad;simp only at hs;subst hs;exact ⟨rfl,trivial,_,run _ rfl,.bptr (h1.drop off hp) .lnil⟩
     case eptr h i o ds =>
      subst he;cases hx with
      | @eptr _ _ _ _ ad _ _ h1 h2 h3 _ =>
       have hs:=h2.spot;obtain ⟨b,o',sp⟩:=ad;simp only at hs;subst hs;refine ⟨rfl,trivial,_,run _ rfl,.eptr h1 (h2.drop off hp) (fun e k d R hm hi=>?_) .lnil⟩;obtain ⟨b1,n1,c1,p1,p2⟩:=h3 _ _ _ _ hm hi;cases p2;exact ⟨b,n1,c1,p1,by simp [Nat.add_assoc]⟩
     case sptr h i j l o k rows =>
      subst he;cases hx with
      | @sptr _ _ _ _ _ _ _ ad _ _ h1 h2 h3 _ =>
       have hs:=h2.spot;obtain ⟨b,o',sp⟩:=ad;simp only at hs;subst hs;refine ⟨rfl,trivial,_,run _ rfl,.sptr h1 (by have:=h2.drop off hp; rwa [List.drop_drop] at this) (fun e k d R r e2 hm hi hj hl=>?_) .lnil⟩
       obtain ⟨b2,o2,n2,c2,p1,p2⟩:=h3 _ _ _ _ _ _ hm hi hj hl;cases p2;exact ⟨b,o2,n2,c2,p1,by simp [Nat.add_assoc]⟩
theorem run_indexAt {t e:Nat} {te:TI} (hu:P.underlying t=some (.slice e)) (he:T e=some te) (b off n cap:Nat) (kd:IntKind) (z:Int) (h0:0<=z) (h1:z < n) :
  (Instr.indexAt t (.slice (some ⟨b,off,none⟩) n cap) (.int kd z)).run P w = .ok (.pointer (some ⟨b,off+z.toNat * te.cells.length,none⟩)) w:=by
 have hadd:(⟨b,off,none⟩:Addr).add (z.toNat * te.cells.length)=⟨b,off+z.toNat * te.cells.length,none⟩:=by unfold Addr.add; split <;> simp_all
 simp [Instr.indexAt,asIntOf,run_underlying hu,h0,h1,(hT _ _ he).size,hadd]
theorem Ie (hO:∀ h e k d R,m h=some (.own e k d R)->R=[] \/ ∃ b n c,β h = .slice (some ⟨b,0,none⟩) n c) {t x i v vi r} (hx:RelL w m β c [x] [v]) (hi:RelL w m β c [i] [vi]) (he:kR T t x i=some r) (hp:r.pre) :
  r.puts=[]/\r.fact /\ ∃ u,(Instr.indexAt t v vi).run P w = .ok u w/\RelL w m β c [r.av] [u]:=by
 unfold kR at he;cases i <;> simp only at he <;> try (cases he; done)
 case int kd z =>
  cases hi with
  | int _ =>
  cases x <;> simp only at he <;> try (cases he; done)
  case sl ext k rows =>
   split at he
   ·rename_i hk;simp only [Out.of,Option.some.injEq] at he;subst he;obtain ⟨hp1,hp2⟩:=hp;obtain ⟨e,te,hu,hte,hkl⟩:=gv hT hk;cases hx with
    | sl hv _ =>
    obtain ⟨e',hv⟩:=hv;have hlt:z.toNat < rows.length:=by omega
    obtain ⟨b,off,cap,rfl,hpv⟩:=hv.row z.toNat hlt;refine ⟨rfl,trivial,_,run_indexAt hT hu hte b off _ cap kd z hp1 hp2,?_⟩;rw [hkl];exact .bptr hpv .lnil
   ·cases he
  case own h k rows =>
   split at he
   ·rename_i hk;simp only [Out.of,Option.some.injEq] at he;subst he;obtain ⟨hp1,hp2⟩:=hp;obtain ⟨e,te,hu,hte,hkl⟩:=gv hT hk;cases hx with
    | own h1 hv h3 _ =>
    obtain ⟨e',hv⟩:=hv;have hlt:z.toNat < rows.length:=by omega
    obtain ⟨b,off,cap,rfl,hpv⟩:=hv.row z.toNat hlt;refine ⟨rfl,trivial,_,run_indexAt hT hu hte b off _ cap kd z hp1 hp2,?_⟩;rw [hkl];refine .eptr h1 hpv (fun e2 k2 d R hm hi2=>?_) .lnil;obtain ⟨hb,hkk⟩:=h3 _ _ _ _ hm;subst hkk;rcases hO _ _ _ _ _ hm with h0 | ⟨b',n',c',h0⟩
    ·simp [h0] at hi2
    ·rw [h0] at hb;simp only [Value.slice.injEq,Option.some.injEq,Addr.mk.injEq] at hb;obtain ⟨⟨rfl,rfl,_⟩,_⟩:=hb;exact ⟨_,_,_,h0,by simp⟩
   ·cases he
  case sub h i j k rows =>
   split at he
   ·rename_i hk;simp only [Out.of,Option.some.injEq] at he;subst he;obtain ⟨hp1,hp2⟩:=hp;obtain ⟨e,te,hu,hte,hkl⟩:=gv hT hk;cases hx with
    | sub h1 hv h3 _ =>
    obtain ⟨e',hv⟩:=hv;have hlt:z.toNat < rows.length:=by omega
    obtain ⟨b,off,cap,rfl,hpv⟩:=hv.row z.toNat hlt;refine ⟨rfl,trivial,_,run_indexAt hT hu hte b off _ cap kd z hp1 hp2,?_⟩;rw [hkl];refine .sptr h1 (by simpa using hpv) (fun e2 k2 d R rr e3 hm hi2 hj2 hl2=>?_) .lnil
    exact ⟨b,off,_,_,h3 _ _ _ _ _ _ hm hi2 hj2,by simp⟩
   ·cases he
omit hT in
theorem xu (isS:Bool) (len cap:Nat) (vlo vhi:Option Value) (l h:Int) (hl:(vlo=none/\l=0) \/ ∃ k,vlo=some (.int k l)) (hh:(vhi=none/\h=len) \/ ∃ k,vhi=some (.int k h))
  (h0:0<=l) (h1:l<=h) (h2:h<=len) (h3:len<=cap):(Instr.sliceBounds isS len cap vlo vhi none).run P w = .ok (l.toNat,h.toNat,cap) w:=by
 have e1:0<=h:=by omega
 have e2:h<=(cap:Int):=by omega
 have e3:(h.toNat:Int)=h:=Int.toNat_of_nonneg e1;rcases hl with ⟨rfl,rfl⟩ | ⟨k,rfl⟩ <;> rcases hh with ⟨rfl,rfl⟩ | ⟨k',rfl⟩ <;>
  simp [Instr.sliceBounds,run_sliceBound,h0,h1,e1,e2,e3]
theorem xA {t ext e k rows v vlo vhi} {l h:Int} (hv:Vw w m β c ext [.sl e k rows] [v]) (hk:k=bi T t/\0 < k)
  (hl:(vlo=none/\l=0) \/ ∃ k,vlo=some (.int k l)) (hh:(vhi=none/\h=rows.length) \/ ∃ k,vhi=some (.int k h))
  (h0:0<=l) (h1:l<=h) (h2:h<=rows.length) :
  ∃ u,(Instr.sliceAt t v vlo vhi none).run P w = .ok u w/\Vw w m β c ext [.sl e k ((rows.drop l.toNat).take (h.toNat - l.toNat))] [u]:=by
 obtain ⟨e',te,hu,hte,hkl⟩:=gv hT hk;obtain ⟨oa,cap,rfl,p1,p2,p3,p4⟩:=hv.win l.toNat (h.toNat - l.toNat) (by omega)
 have hb:=xu (P:=P) (w:=w) true rows.length cap vlo vhi l h hl hh h0 h1 h2 p1;refine ⟨_,?_,p4⟩;simp [Instr.sliceAt,run_underlying hu,Instr.slice,hb,(hT _ _ hte).size,hkl]
theorem OQ {t x v lo hi vlo vhi r} (hx:RelL w m β c [x] [v])
  (hlo:(lo=none/\vlo=none) \/ ∃ y u,lo=some y/\vlo=some u/\RelL w m β c [y] [u])
  (hhi:(hi=none/\vhi=none) \/ ∃ y u,hi=some y/\vhi=some u/\RelL w m β c [y] [u])
  (he:lh T t x lo hi=some r) (hp:r.pre) :
  r.puts=[]/\r.fact /\ ∃ u,(Instr.sliceAt t v vlo vhi none).run P w = .ok u w/\RelL w m β c [r.av] [u]:=by
 have HL:∀ l,(match lo with | none=>some 0 | some (.int _ z)=>some z | _=>none)=some l->(vlo=none/\l=0) \/ ∃ k,vlo=some (.int k l):=by
  intro l hl;rcases hlo with ⟨rfl,rfl⟩ | ⟨y,u,rfl,rfl,hy⟩
  ·simp at hl; exact .inl ⟨rfl,hl.symm⟩
  ·cases hy <;> simp at hl
   subst hl;exact .inr ⟨_,rfl⟩
 have HH:∀ (n:Nat) h,(match hi with | none=>some (n:Int) | some (.int _ z)=>some z | _=>none)=some h->(vhi=none/\h=n) \/ ∃ k,vhi=some (.int k h):=by
  intro n h hh;rcases hhi with ⟨rfl,rfl⟩ | ⟨y,u,rfl,rfl,hy⟩
  ·simp at hh; exact .inl ⟨rfl,hh.symm⟩
  ·cases hy <;> simp at hh
   subst hh;exact .inr ⟨_,rfl⟩
 unfold lh at he;cases x <;> simp only at he <;> try (cases he; done)
 case str b =>
  split at he
  ·rename_i l h _ _ _ hl hh ht;simp only [Out.of,Option.some.injEq] at he;subst he;obtain ⟨q0,q1,q2⟩:=hp;cases hx with
   | str hs _ =>
   have hu:=(hT _ _ ht).strT rfl rfl;have hb:=xu (P:=P) (w:=w) false b.length b.length vlo vhi l h (HL l hl) (HH _ h hh) q0 q1 q2 (Nat.le_refl _);refine ⟨rfl,trivial,.string ⟨((b.drop l.toNat).take (h.toNat - l.toNat)).toArray⟩,?_,.str (by simp; omega) .lnil⟩
   have hsz:(ByteArray.mk b.toArray).size=b.length:=by show b.toArray.size=_; simp
   simp [Instr.sliceAt,run_underlying hu,Instr.slice,hsz,hb,ByteArray.extract_mk]
  ·cases he
 case nil =>
  split at he
  ·rename_i l h hl hh;split at he
   ·rename_i hk;simp only [Out.of,Option.some.injEq] at he;subst he;obtain ⟨rfl,rfl⟩:=hp;cases hx with
    | nil _ =>
    obtain ⟨e',te,hu,hte,hkl⟩:=gv hT (k:=bi T t) ⟨rfl,hk⟩;have hb:=xu (P:=P) (w:=w) true 0 0 vlo vhi 0 0 (HL 0 hl) (HH 0 0 hh) (by omega) (by omega) (by omega) (Nat.le_refl _)
    refine ⟨rfl,trivial,_,?_,.nil .lnil⟩;simp [Instr.sliceAt,run_underlying hu,Instr.slice,hb,(hT _ _ hte).size]
   ·cases he
  ·cases he
 case sl ext k rows =>
  split at he
  ·rename_i l h hl hh;split at he
   ·rename_i hk;simp only [Out.of,Option.some.injEq] at he;subst he;obtain ⟨q0,q1,q2⟩:=hp;cases hx with
    | sl hv _ =>
    obtain ⟨e,hv⟩:=hv;obtain ⟨u,r1,r2⟩:=xA hT hv hk (HL l hl) (HH _ h hh) q0 q1 q2;exact ⟨rfl,trivial,u,r1,.sl ⟨e,r2⟩ .lnil⟩
   ·cases he
  ·cases he
 case own h0 k rows =>
  split at he
  ·rename_i l h hl hh;split at he
   ·rename_i hk;simp only [Out.of,Option.some.injEq] at he;subst he;obtain ⟨q0,q1,q2⟩:=hp;cases hx with
    | own _ hv _ _ =>
    obtain ⟨e,hv⟩:=hv;obtain ⟨u,r1,r2⟩:=xA hT hv hk (HL l hl) (HH _ h hh) q0 q1 q2;exact ⟨rfl,trivial,u,r1,.sl ⟨e,r2⟩ .lnil⟩
   ·cases he
  ·cases he
 case sub h0 i j k rows =>
  split at he
  ·rename_i l h hl hh;split at he
   ·rename_i hk;simp only [Out.of,Option.some.injEq] at he;subst he;obtain ⟨q0,q1,q2⟩:=hp;cases hx with
    | sub _ hv _ _ =>
    obtain ⟨e,hv⟩:=hv;obtain ⟨u,r1,r2⟩:=xA hT hv hk (HL l hl) (HH _ h hh) q0 q1 q2;exact ⟨rfl,trivial,u,r1,.sl ⟨e,r2⟩ .lnil⟩
   ·cases he
  ·cases he
theorem KI {t ty x v r} (hx:RelL w m β c [x] [v]) (he:kU T t x=some r) (hp:r.pre) :
  r.puts=[]/\r.fact /\ ∃ u,(Builtin.len_ #[t] ty #[v]).run P w = .ok u w/\RelL w m β c [r.av] [u]:=by
 have sl:∀ {ext e k rows v},Vw w m β c ext [.sl e k rows] [v]->0 < bi T t->rows.length<=9223372036854775807 /\
   (Builtin.len_ #[t] ty #[v]).run P w = .ok (.int .i64 rows.length) w:=by
  intro ext e k rows v hv hk;obtain ⟨e',te,hu,hte,hkl⟩:=gv hT (k:=bi T t) ⟨rfl,hk⟩;obtain ⟨oa,cap,rfl,p1,p2,_⟩:=hv.win 0 0 (by omega)
  refine ⟨by unfold maxLen at p2; omega,?_⟩
  simp [Builtin.len_,run_underlying hu,goInt]
 unfold kU at he;cases x <;> simp only at he <;> try (cases he; done)
 case str b =>
  split at he
  ·rename_i ht;cases he;cases hx with
   | str hs _ =>
   have hu:=(hT _ _ ht).strT rfl rfl;refine ⟨rfl,by unfold maxLen at hs; show b.length<=9223372036854775807; omega,_,?_,.int .lnil⟩
   have hsz:(ByteArray.mk b.toArray).size=b.length:=by show b.toArray.size=_; simp
   simp [Builtin.len_,run_underlying hu,goInt,hsz]
  ·cases he
 case nil =>
  split at he
  ·rename_i hk;cases he;cases hx with
   | nil _ =>
   obtain ⟨e',te,hu,hte,hkl⟩:=gv hT (k:=bi T t) ⟨rfl,hk⟩;exact ⟨rfl,trivial,_,by simp [Builtin.len_,run_underlying hu,goInt],.int .lnil⟩
  ·cases he
 case sl ext k rows =>
  split at he
  ·rename_i hk;cases he;cases hx with
   | sl hv _ =>
   obtain ⟨e,hv⟩:=hv;obtain ⟨q1,q2⟩:=sl hv hk;exact ⟨rfl,q1,_,q2,.int .lnil⟩
  ·cases he
 case own h0 k rows =>
  split at he
  ·rename_i hk;cases he;cases hx with
   | own _ hv _ _ =>
   obtain ⟨e,hv⟩:=hv;obtain ⟨q1,q2⟩:=sl hv hk;exact ⟨rfl,q1,_,q2,.int .lnil⟩
  ·cases he
 case sub h0 i j k rows =>
  split at he
  ·rename_i hk;cases he;cases hx with
   | sub _ hv _ _ =>
   obtain ⟨e,hv⟩:=hv;obtain ⟨q1,q2⟩:=sl hv hk;exact ⟨rfl,q1,_,q2,.int .lnil⟩
  ·cases he
end
theorem lx {k:IntKind} {n:Int} (h:inR k n):k.wrap n=n:=by
 cases k <;> simp only [inR] at h
 ·exact IntWalk.i8_in n h
 ·exact IntWalk.i16_in n h
 ·exact IntWalk.i32_in n h
 ·exact IntWalk.i64_in n h
 ·exact IntWalk.u8_in n h
 ·exact IntWalk.u16_in n h
 ·exact IntWalk.u32_in n h
 ·exact IntWalk.u64_in n h
section
variable {P:Program} {w:World} {m:Nat->Option Blk} {β:Nat->Value} {c:Cx}
theorem yM {op t x y u v p av} {ox oy:Operand} (hx:RelL w m β c [x] [u]) (hy:RelL w m β c [y] [v]) (he:lI op x y=some (p,av)) (hp:p) :
  ∃ r,(do eqGuard op t ox oy u v; binOp op t u v:Sem Value).run P w = .ok r w/\RelL w m β c [av] [r]:=by
 unfold lI at he;cases x <;> cases y <;> simp only at he <;> try (cases he; done)
 case int.int k a k' b =>
  cases hx with
  | int _ =>
  cases hy with
  | int _ =>
  have hg:(eqGuard op t ox oy (.int k a) (.int k' b)).run P w = .ok () w:=by cases op <;> simp [eqGuard]
  have H:∀ r,(binOp op t (.int k a) (.int k' b)).run P w = .ok r w->(do eqGuard op t ox oy (.int k a) (.int k' b); binOp op t (.int k a) (.int k' b):Sem Value).run P w = .ok r w:=by
   intro r hr;simp only [Sem.run_bind,hg,Result.andThen_ok,hr]
  cases op <;> simp only at he
  case shl =>
   simp only [Option.some.injEq,Prod.mk.injEq] at he;obtain ⟨rfl,rfl⟩:=he;exact ⟨_,H _ (by simp [binOp,Op.shift,Int.not_lt.2 hp]),.int .lnil⟩
  case shr =>
   simp only [Option.some.injEq,Prod.mk.injEq] at he;obtain ⟨rfl,rfl⟩:=he;exact ⟨_,H _ (by simp [binOp,Op.shift,Int.not_lt.2 hp]),.int .lnil⟩
  case add =>
   split at he
   ·rename_i hk;subst hk;simp only [Option.some.injEq,Prod.mk.injEq] at he;obtain ⟨rfl,rfl⟩:=he;exact ⟨_,H _ (by simp [binOp,Op.intArith,lx hp]),.int .lnil⟩
   ·cases he
  case sub =>
   split at he
   ·rename_i hk;subst hk;simp only [Option.some.injEq,Prod.mk.injEq] at he;obtain ⟨rfl,rfl⟩:=he;exact ⟨_,H _ (by simp [binOp,Op.intArith,lx hp]),.int .lnil⟩
   ·cases he
  case mul =>
   split at he
   ·rename_i hk;subst hk;simp only [Option.some.injEq,Prod.mk.injEq] at he;obtain ⟨rfl,rfl⟩:=he;exact ⟨_,H _ (by simp [binOp,Op.intArith,lx hp]),.int .lnil⟩
   ·cases he
  case quo =>
   split at he
   ·rename_i hk;subst hk;simp only [Option.some.injEq,Prod.mk.injEq] at he;obtain ⟨rfl,rfl⟩:=he;exact ⟨_,H _ (by simp [binOp,Op.intDiv,hp.1,lx hp.2]),.int .lnil⟩
   ·cases he
  case rem =>
   split at he
   ·rename_i hk;subst hk;simp only [Option.some.injEq,Prod.mk.injEq] at he;obtain ⟨rfl,rfl⟩:=he;exact ⟨_,H _ (by simp [binOp,Op.intDiv,hp]),.int .lnil⟩
   ·cases he
  case and =>
   split at he
   ·rename_i hk;subst hk;simp only [Option.some.injEq,Prod.mk.injEq] at he;obtain ⟨rfl,rfl⟩:=he;exact ⟨_,H _ (by simp [binOp,Op.intBits,iE]),.int .lnil⟩
   ·cases he
  case or =>
   split at he
   ·rename_i hk;subst hk;simp only [Option.some.injEq,Prod.mk.injEq] at he;obtain ⟨rfl,rfl⟩:=he;exact ⟨_,H _ (by simp [binOp,Op.intBits,iE]),.int .lnil⟩
   ·cases he
  case xor =>
   split at he
   ·rename_i hk;subst hk;simp only [Option.some.injEq,Prod.mk.injEq] at he;obtain ⟨rfl,rfl⟩:=he;exact ⟨_,H _ (by simp [binOp,Op.intBits,iE]),.int .lnil⟩
   ·cases he
  case andNot =>
   split at he
   ·rename_i hk;subst hk;simp only [Option.some.injEq,Prod.mk.injEq] at he;obtain ⟨rfl,rfl⟩:=he;exact ⟨_,H _ (by simp [binOp,Op.intBits,iE]),.int .lnil⟩
   ·cases he
  case lss =>
   split at he
   ·rename_i hk;subst hk;simp only [Option.some.injEq,Prod.mk.injEq] at he;obtain ⟨rfl,rfl⟩:=he;exact ⟨_,H _ (by simp [binOp,Op.intCmp]),.bool .lnil⟩
   ·cases he
  case leq =>
   split at he
   ·rename_i hk;subst hk;simp only [Option.some.injEq,Prod.mk.injEq] at he;obtain ⟨rfl,rfl⟩:=he;exact ⟨_,H _ (by simp [binOp,Op.intCmp]),.bool .lnil⟩
   ·cases he
  case gtr =>
   split at he
   ·rename_i hk;subst hk;simp only [Option.some.injEq,Prod.mk.injEq] at he;obtain ⟨rfl,rfl⟩:=he;exact ⟨_,H _ (by simp [binOp,Op.intCmp]),.bool .lnil⟩
   ·cases he
  case geq =>
   split at he
   ·rename_i hk;subst hk;simp only [Option.some.injEq,Prod.mk.injEq] at he;obtain ⟨rfl,rfl⟩:=he;exact ⟨_,H _ (by simp [binOp,Op.intCmp]),.bool .lnil⟩
   ·cases he
  case eql =>
   split at he
   ·rename_i hk;subst hk;simp only [Option.some.injEq,Prod.mk.injEq] at he;obtain ⟨rfl,rfl⟩:=he;exact ⟨.bool (decide (a=b)),H _ (by by_cases hab:a=b <;> simp [binOp,Op.intCmp,hab]),.bool .lnil⟩
   ·cases he
  case neq =>
   split at he
   ·rename_i hk;subst hk;simp only [Option.some.injEq,Prod.mk.injEq] at he;obtain ⟨rfl,rfl⟩:=he;exact ⟨.bool (!decide (a=b)),H _ (by by_cases hab:a=b <;> simp [binOp,Op.intCmp,hab]),.bool .lnil⟩
   ·cases he
 case str.str a b =>
  cases hx with
  | str ha _ =>
  cases hy with
  | str hb _ =>
  have hg:(eqGuard op t ox oy (.string ⟨a.toArray⟩) (.string ⟨b.toArray⟩)).run P w = .ok () w:=by cases op <;> simp [eqGuard]
  cases op <;> simp only at he <;> try (cases he; done)
  case add =>
   simp only [Option.some.injEq,Prod.mk.injEq] at he;obtain ⟨rfl,rfl⟩:=he;have hsz:(ByteArray.mk a.toArray).size+(ByteArray.mk b.toArray).size<=9223372036854775807:=by
    show a.toArray.size+b.toArray.size<=_
    unfold maxLen at hp;simp;omega
   refine ⟨.string ⟨(a++b).toArray⟩,?_,.str (by simpa using hp) .lnil⟩
   have:=run_string_add_sum (P:=P) w _ _ hsz;simp only [Sem.run_bind,hg,Result.andThen_ok,binOp,this]
   congr 1
  all_goals
   simp only [Option.some.injEq,Prod.mk.injEq] at he;obtain ⟨rfl,rfl⟩:=he;have hbe:(a == b)=decide (a=b):=by by_cases hab:a=b <;> simp [hab]
   refine ⟨_,?_,.bool .lnil⟩;simp only [Sem.run_bind,hg,Result.andThen_ok,binOp,Op.stringOp,ByteArray.toList_mk,hbe,Sem.run_pure]
theorem Ij {s:List UInt8} {kd:IntKind} {z:Int} {t:Nat} (hu:P.underlying t=some .string) (h0:0<=z) (h1:z < s.length) :
  (Instr.index t (.string ⟨s.toArray⟩) (.int kd z)).run P w = .ok (.int .u8 (s.getD z.toNat 0).toNat) w:=by
 have hsz:(ByteArray.mk s.toArray).size=s.length:=by show s.toArray.size=_; simp
 have hlt:z.toNat < s.length:=by omega
 rw [run_index_string (P:=P) w t _ kd z hu,dif_pos ⟨h0,by rw [hsz]; exact h1⟩]
 congr 2
 have:(ByteArray.mk s.toArray)[z.toNat]'(by rw [hsz]; exact hlt)=s.getD z.toNat 0:=by
  show s.toArray[z.toNat]'(by simpa using hlt)=_
  simp [List.getD,List.getElem?_eq_getElem hlt]
 rw [this]
theorem F2 (l:List UInt8) (acc:ByteArray):(l.map fun b=>(b.toNat:Int)).foldl (fun (r:ByteArray) n=>r.push (UInt8.ofNat n.toNat)) acc=⟨(acc.data.toList++l).toArray⟩:=by
 induction l generalizing acc with
 | nil=>simp
 | cons x l ih =>
  simp only [List.map_cons,List.foldl_cons];rw [ih]
  congr 1
  simp [ByteArray.push]
theorem RdL.bytes {q:Bool}:∀ {l:List UInt8} {vs fp},RdL q w (l.map fun b=>D.int .u8 b.toNat) vs fp->vs=l.map fun b=>Value.int .u8 b.toNat:=by
 intro l
 induction l with
 | nil=>intro vs fp h; cases h; rfl
 | cons b l ih =>
  intro vs fp h;rw [List.map_cons] at h;cases h with
  | int h=>simp [ih h]
theorem Oi:∀ {rows:List (List D)},(∀ r ∈ rows,r=[D.int .u8 (byteOf r).toNat])->rows.flatten=(rows.map byteOf).map fun b=>D.int .u8 b.toNat:=by
 intro rows
 induction rows with
 | nil=>intro _; rfl
 | cons r rows ih =>
  intro h;have h1:=h r (by simp)
  rw [List.flatten_cons,ih (fun r hr=>h r (by simp [hr]))]
  conv=>lhs; lhs; rw [h1]
  rfl
theorem Oj {ext e k rows v src dst e'} (hs:P.underlying src=some (.slice e')) (he:P.underlying e'=some (.int .u8)) (hd:P.underlying dst=some .string)
  (hv:Vw w m β c ext [.sl e k rows] [v]) (hp:∀ r ∈ rows,r=[D.int .u8 (byteOf r).toNat]) :
  (convert src dst v).run P w = .ok (.string ⟨(rows.map byteOf).toArray⟩) w/\(rows.map byteOf).length<=maxLen:=by
 obtain ⟨fp,hr,_⟩:=hv;rcases hr.open1 with ⟨rfl,_,oa,cap,rfl,_⟩ | ⟨b,off,cap,cs,ty,fr,cvs,f1,rfl,h2,h3,h4,h5,h6,h7,h8,_⟩
 ·refine ⟨?_,by simp⟩
  rw [run_convert_bytes_string (P:=P) w src dst e' oa 0 cap hs he hd];cases oa with
  | none=>simp [Conv.bytesToString]; rfl
  | some a =>
   have:=run_bytesToString (P:=P) w a 0 cap [] (by simp [loadCells,loadCellsFrom])
   rw [this];rfl
 ·refine ⟨?_,by simp; omega⟩
  rw [run_convert_bytes_string (P:=P) w src dst e' _ _ cap hs he hd];rw [Oi hp] at h8;have hcv:=h8.bytes;have hlen:cvs.length=rows.length:=by rw [hcv]; simp
  have hl:=run_loadCells_list (P:=P) w ⟨b,off,none⟩ cvs (fun j u hu=>by
   rw [oS,cell_of_row w b (off+j) cs ty fr h6];exact h7 j u hu)
  rw [hlen] at hl;have:=run_bytesToString (P:=P) w ⟨b,off,none⟩ rows.length cap ((rows.map byteOf).map fun b=>(b.toNat:Int)) (by rw [hl,hcv]; simp only [List.map_map,Function.comp_def])
  rw [this,F2];rfl
variable {T:Nat->Option TI} (hT:∀ t ti,T t=some ti->TOk P t ti)
include hT
omit hT in
theorem TOk.someU {t:Nat} {ti:TI} (h:TOk P t ti):∃ d,P.underlying t=some d:=by
 have hd:=h.desc;cases hg:ti.agg with
 | true =>
  rw [hg] at hd;obtain ⟨fs,hu,_⟩:=hd;exact ⟨_,hu⟩
 | false =>
  rw [hg] at hd;obtain ⟨c,hc,hm⟩:=hd;cases c with
  | int k=>exact ⟨_,hm⟩
  | bool=>exact ⟨_,hm⟩
  | str=>exact ⟨_,hm⟩
  | sl e k=>exact ⟨_,hm.2⟩
  | oth z=>obtain ⟨d,hu,_⟩:=hm; exact ⟨_,hu⟩
theorem GI {src dst x v r} (hx:RelL w m β c [x] [v]) (he:kK T src dst x=some r) (hp:r.pre) :
  r.puts=[]/\r.fact /\ ∃ u,(convert src dst v).run P w = .ok u w/\RelL w m β c [r.av] [u]:=by
 unfold kK at he;split at he
 ·rename_i ts ti hts hti;obtain ⟨ds,hds⟩:=(hT _ _ hts).someU;split at he
  ·cases he
  ·rename_i hg;have hg':ti.agg=false:=by simpa using hg
   split at he
   ·rename_i kk kd n hc;simp only [Out.of,Option.some.injEq] at he;subst he;cases hx with
    | int _ =>
    have hd:=(hT _ _ hti).intT hg' hc;exact ⟨rfl,trivial,_,by simp [convert,run_underlying hds,run_underlying hd,Conv.intToInt,lx hp],.int .lnil⟩
   ·rename_i s hc;simp only [Out.of,Option.some.injEq] at he;subst he;cases hx with
    | str hs _ =>
    have hd:=(hT _ _ hti).strT hg' hc;exact ⟨rfl,trivial,_,by simp [convert,run_underlying hds,run_underlying hd],.str hs .lnil⟩
   ·rename_i hc _;have hd:=(hT _ _ hti).strT hg' hc;split at he
    ·cases he
    ·rename_i hgs;have hgs':ts.agg=false:=by simpa using hgs
     split at he
     ·rename_i e0 k0 te k rows hcs hte hrows;obtain ⟨e1,e2⟩:=(hT _ _ hts).slice hgs' hcs;subst e1;split at he
      ·cases he
      ·rename_i hge;have hge':te.agg=false:=by simpa using hge
       split at he
       ·rename_i hce;have hb:=(hT _ _ hte).intT hge' hce;split at he
        ·simp only [Out.of,Option.some.injEq] at he;subst he;have fin:∀ {ext e},Vw w m β c ext [.sl e k rows] [v] -> ∃ u,(convert src dst v).run P w = .ok u w/\RelL w m β c [.str (rows.map byteOf)] [u]:=by
          intro ext e hv;obtain ⟨q1,q2⟩:=Oj e2 hb hd hv hp;exact ⟨_,q1,.str q2 .lnil⟩
         refine ⟨rfl,trivial,?_⟩;cases hx <;> simp only [AV.rows] at hrows <;> try (cases hrows; done)
         case sl hv _ =>
          cases hrows;obtain ⟨e,hv⟩:=hv;exact fin hv
         case own _ hv _ _ =>
          cases hrows;obtain ⟨e,hv⟩:=hv;exact fin hv
         case sub _ hv _ _ =>
          cases hrows;obtain ⟨e,hv⟩:=hv;exact fin hv
        ·cases he
       ·cases he
     ·cases he
   ·cases he
 ·cases he
end
theorem oN {β β':Nat->Value} {h:Nat} {f:List (Nat × Nat)} {blk:Blk} (hb:β' h = β h):Ob β' h f blk=Ob β h f blk:=by simp [Ob,hb]
structure Grow (w:World) (m:Nat->Option Blk) (β:Nat->Value) (w':World) (m':Nat->Option Blk) (β':Nat->Value) (d:Nat) (blk:Blk) (f:List (Nat × Nat)):Prop where
 none:m d = .none
 at_:m' d=some blk
 other:∀ h,h ≠ d->m' h=m h
 val:∀ h,h ≠ d -> β' h = β h
 heap:∀ b,b < w.heap.size->w'.heap[b]? = w.heap[b]?
 os:w'.os=w.os
 tape:w'.tape=w.tape
 output:w'.output=w.output
 size:w.heap.size<=w'.heap.size
 new:∀ x ∈ Ob β' d f blk,w.heap.size<=x
 out:∀ b,(∃ ty vs,blk = .box ty vs) -> β' d = .pointer (some ⟨b,0,.none⟩)->w.heap.size<=b
 out2:∀ b n c,(∃ e k dp R,blk = .own e k dp R) -> β' d = .slice (some ⟨b,0,.none⟩) n c->w.heap.size<=b
theorem Grow.step {w m β w' m' β' d blk f} (G:Grow w m β w' m' β' d blk f):Step w m β w' m' β':=by
 have hne:∀ h,(m h).isSome=true->h ≠ d:=by
  intro h hs e;subst e;rw [G.none] at hs;cases hs
 refine ⟨fun x hx _=>.of_same (G.heap _ hx),fun x hx hl=>⟨?_,?_⟩,?_,?_,?_,?_⟩
 ·rintro ⟨h,ty,vs,hm,hb⟩;by_cases he:h=d
  ·subst he;rw [G.at_] at hm;cases hm;exact absurd (G.out _ ⟨_,_,rfl⟩ hb) (by omega)
  ·rw [G.other h he] at hm;rw [G.val h he] at hb;exact hl.1 ⟨h,ty,vs,hm,hb⟩
 ·intro h e k dp R n c hm hb;by_cases he:h=d
  ·subst he;rw [G.at_] at hm;cases hm;exact absurd (G.out2 _ _ _ ⟨_,_,_,_,rfl⟩ hb) (by omega)
  ·rw [G.other h he] at hm;rw [G.val h he] at hb;exact hl.2 h e k dp R n c hm hb
 ·intro h hs;rw [G.other h (hne h hs)]; exact hs
 ·intro h e k dp R' hs hm;rw [G.other h (hne h hs)] at hm;exact ⟨dp,R',hm,G.val h (hne h hs),rfl,fun i j e2 k2 rs r' h1 h2=>⟨r',h1,h2⟩⟩
 ·intro h b hs _;exact G.val h (hne h hs)
 ·intro h e k dp R i j r x b n c hm _ hb _ _ hlt;exact World.cell?_of_block (w:=w) (G.heap b hlt)
theorem Grow.blk {w m β w' m' β' d blk f c} (G:Grow w m β w' m' β' d blk f) {h:Nat} (hd:h ≠ d) {g:List (Nat × Nat)} {bk:Blk} (hb:BlkOk w m β c h g bk):BlkOk w' m' β' c h g bk:=by
 have T:=G.step;cases bk with
 | dead=>exact hb
 | own e k dp R =>
  obtain ⟨h1,h2,h3⟩:=hb;refine ⟨h1,h2,?_⟩;rw [G.val h hd];rcases h3 with h3 | ⟨b,cap,cs,f0,q1,q2,q3,q4,q5,q6,q7,q8⟩
  ·exact .inl h3
  ·refine .inr ⟨b,cap,cs,f0,q1,?_,q3,q4,q5,q6.keep fun x hx=>⟨.of_same (G.heap _ (q6.lt x hx)),fun _=>G.heap _ (q6.lt x hx)⟩,q7,fun hdp=>⟨(q8 hdp).1,fun x hx=>?_⟩⟩
   ·rw [G.heap b (Array.getElem?_eq_some_iff.1 q2).1]; exact q2
   ·have:=(q8 hdp).2 x hx;exact ⟨T.lim x (q6.lt x hx) this.1,this.2⟩
 | box ty vs =>
  obtain ⟨h0,b,cvs,q1,q2,q3,q4⟩:=hb;refine ⟨h0,b,cvs,?_,?_,q3.step T,q4⟩
  ·rw [G.val h hd]; exact q1
  ·rw [G.heap b (Array.getElem?_eq_some_iff.1 q2).1]; exact q2
theorem BlkOk.lt {w m β c h g bk} (hb:BlkOk w m β c h g bk):∀ x ∈ Ob β h g bk,x < w.heap.size:=by
 intro x hx;cases bk with
 | dead =>
  have h0:g=[]:=hb;subst h0;simp [Ob] at hx
 | own e k dp R =>
  obtain ⟨h1,h2,h3⟩:=hb;rcases h3 with ⟨q1,q2,q3⟩ | ⟨b,cap,cs,f0,q1,q2,q3,q4,q5,q6,q7,q8⟩
  ·subst q3; simp [Ob,q1] at hx
  ·simp only [Ob,q1,List.singleton_append,List.mem_cons,List.mem_map] at hx;rcases hx with rfl | ⟨y,hy,rfl⟩
   ·exact (Array.getElem?_eq_some_iff.1 q2).1
   ·cases dp with
    | true=>rw [q7 rfl] at hy; exact q6.lt y hy
    | false=>rw [(q8 rfl).1] at hy; cases hy
 | box ty vs =>
  obtain ⟨h0,b,cvs,q1,q2,q3,q4⟩:=hb;subst h0;simp only [Ob,q1,List.map_nil,List.append_nil,List.mem_singleton] at hx;subst hx;exact (Array.getElem?_eq_some_iff.1 q2).1
theorem SatI.grow {c s a w β fp w' β' d blk f} (S:SatI c s a w β fp) (G:Grow w s.m β w' (upd s.m d (some blk)) β' d blk f)
  (hb:BlkOk w' (upd s.m d (some blk)) β' c d f blk) (hn:(Ob β' d f blk).Nodup):SatI c ⟨s.e,upd s.m d (some blk)⟩ a w' β' (upd fp d f):=by
 have T:=G.step;have key:∀ h bk,upd s.m d (some blk) h=some bk->(h=d/\bk=blk) \/ (h ≠ d/\s.m h=some bk):=by
  intro h bk hm;by_cases he:h=d
  ·subst he;rw [G.at_] at hm;exact .inl ⟨rfl,(Option.some.inj hm).symm⟩
  ·rw [G.other h he] at hm;exact .inr ⟨he,hm⟩
 have ob:∀ h bk,h ≠ d->Ob β' h (upd fp d f h) bk=Ob β h (fp h) bk:=by
  intro h bk he;rw [upd_ne _ _ he];exact oN (G.val h he)
 refine ⟨?_,?_,?_,?_,?_,S.fg,?_,?_,?_,?_,?_,S.defers,S.tn,?_⟩
 ·intro t g av ht;obtain ⟨h1,h2,h3⟩:=S.env t g av ht;exact ⟨h1,fun hg=>(h2 hg).step T,fun hg=>⟨(h3 hg).1,(h3 hg).2.mono T.has⟩⟩
 ·intro h bk hm;rcases key h bk hm with ⟨rfl,rfl⟩ | ⟨he,hm'⟩
  ·rw [upd_same]; exact hb
  ·rw [upd_ne _ _ he];exact G.blk he (S.mem h bk hm')
 ·intro h bk hm;rcases key h bk hm with ⟨rfl,rfl⟩ | ⟨he,hm'⟩
  ·rw [upd_same]; exact hn
  ·rw [ob h bk he]; exact S.nodup h bk hm'
 ·intro h h' bk bk' hm hm' hne x hx hx';rcases key h bk hm with ⟨rfl,rfl⟩ | ⟨he,hm1⟩ <;> rcases key h' bk' hm' with ⟨rfl,rfl⟩ | ⟨he',hm1'⟩
  ·exact hne rfl
  ·rw [upd_same] at hx;rw [ob h' bk' he'] at hx';have:=G.new x hx;have:=(S.mem h' bk' hm1').lt x hx';omega
  ·rw [upd_same] at hx';rw [ob h bk he] at hx;have:=G.new x hx';have:=(S.mem h bk hm1).lt x hx;omega
  ·rw [ob h bk he] at hx;rw [ob h' bk' he'] at hx';exact S.disj h h' bk bk' hm1 hm1' hne x hx hx'
 ·intro h bk hm x hx hG;rcases key h bk hm with ⟨rfl,rfl⟩ | ⟨he,hm'⟩
  ·rw [upd_same] at hx;have:=G.new x hx;have:=(S.old x hG).1;have:=S.size;omega
  ·rw [ob h bk he] at hx;exact S.free h bk hm' x hx hG
 ·intro b hG;obtain ⟨h1,h2⟩:=S.old b hG;exact ⟨h1,(G.heap b (Nat.lt_of_lt_of_le h1 S.size)).trans h2⟩
 ·exact G.os.trans S.os
 ·exact G.tape.trans S.tape
 ·exact G.output.trans S.output
 ·exact Nat.le_trans S.size G.size
 ·intro p hp;obtain ⟨h1,h2⟩:=S.pin p hp;have hne:p.1 ≠ d:=by intro e; rw [e,G.none] at h2; cases h2
  exact ⟨(G.val _ hne).trans h1,T.has _ h2⟩
theorem nX {w m β c x v} (h:RelL w m β c [x] [v]) (h1:x.one=true):v.oneCell'=true/\v.cells = #[v]:=by
 cases h <;> first
  | exact ⟨rfl,rfl⟩
  | (simp [AV.one] at h1; done)
  | skip
 case raw hv _=>exact ⟨hv,by cases ‹Value› <;> simp_all [Value.oneCell',Value.cells]⟩
 case sl hv _ =>
  obtain ⟨e,fp,hr,_⟩:=hv;rcases hr.open1 with ⟨_,_,oa,cap,rfl,_⟩ | ⟨b,off,cap,cs,ty,fr,cvs,f1,rfl,_⟩ <;> exact ⟨rfl,rfl⟩
 case own _ hv _ _ =>
  obtain ⟨e,fp,hr,_⟩:=hv;rcases hr.open1 with ⟨_,_,oa,cap,rfl,_⟩ | ⟨b,off,cap,cs,ty,fr,cvs,f1,rfl,_⟩ <;> exact ⟨rfl,rfl⟩
 case sub _ hv _ _ =>
  obtain ⟨e,fp,hr,_⟩:=hv;rcases hr.open1 with ⟨_,_,oa,cap,rfl,_⟩ | ⟨b,off,cap,cs,ty,fr,cvs,f1,rfl,_⟩ <;> exact ⟨rfl,rfl⟩
theorem xM {w m β c k x v d} (h:RelL w m β c [x] [v]) (hd:x.toD k=some d) :
  v.oneCell'=true/\v.cells = #[v] /\ ∃ f,RdL false w [d] [v] f/\(∀ y ∈ f,Lim m β y/\c.may false y)/\(x.deepOk=true->RdL true w [d] [v] []):=by
 cases k <;> cases x <;> simp only [AV.toD] at hd <;> try (cases hd; done)
 case int.int k' kk n =>
  split at hd
  ·rename_i hk;subst hk;cases hd;cases h with
   | int _=>exact ⟨rfl,rfl,[],.int .nil,by simp,fun _=>.int .nil⟩
  ·cases hd
 case bool.bool b =>
  cases hd;cases h with
  | bool _=>exact ⟨rfl,rfl,[],.bool .nil,by simp,fun _=>.bool .nil⟩
 case str.str s =>
  cases hd;cases h with
  | str hs _=>exact ⟨rfl,rfl,[],.str hs .nil,by simp,fun _=>.str hs .nil⟩
 case sl.nil e k =>
  cases hd;cases h with
  | nil _=>exact ⟨rfl,rfl,[],.sl0 (by simp) (by simp) .nil,by simp,fun _=>.sl0 (by simp) (by simp) .nil⟩
 case sl.sl e k ext k' rows =>
  split at hd
  ·rename_i hk;subst hk;cases hd;have ho:=nX h rfl;cases h with
   | sl hv _ =>
   obtain ⟨e',fp,hr,hl⟩:=hv;refine ⟨ho.1,ho.2,?_⟩;rcases hr.open1 with ⟨rfl,rfl,oa,cap,rfl,hc⟩ | ⟨b,off,cap,cs,ty,fr,cvs,f1,rfl,h2,h3,h4,h5,h6,h7,h8,rfl⟩
   ·exact ⟨[],.sl0 hc (by simp) .nil,by simp,fun hdp=>by simp [AV.deepOk] at hdp⟩
   ·refine ⟨_,RdL.close1 h2 h3 h4 h5 h6 h7 h8,fun y hy=>⟨(hl y hy).1,?_⟩,fun hdp=>by simp [AV.deepOk] at hdp⟩
    rcases (hl y hy).2 with q | q
    ·exact .inl q
    ·exact .inr ⟨rfl,q.2⟩
  ·cases hd
 case oth.raw z v' =>
  cases hd;have ho:=nX h rfl;cases h with
  | raw hs _=>exact ⟨ho.1,ho.2,[],.raw hs .nil,by simp,fun _=>.raw hs .nil⟩
theorem DH {w m β c}:∀ {ks as vs row},RelL w m β c as vs->gN ks as=some row ->
  (∀ v ∈ vs,v.oneCell'=true)/\row.length=ks.length /\ ∃ f,RdL false w row vs f/\(∀ y ∈ f,Lim m β y/\c.may false y)/\(as.all AV.deepOk=true->RdL true w row vs []):=by
 intro ks
 induction ks with
 | nil =>
  intro as vs row h hd;cases as with
  | nil=>cases h; cases hd; exact ⟨by simp,rfl,[],.nil,by simp,fun _=>.nil⟩
  | cons a as=>simp [gN] at hd
 | cons k ks ih =>
  intro as vs row h hd;cases as with
  | nil=>simp [gN] at hd
  | cons a as =>
   obtain ⟨v,vs',rfl,h1,h2⟩:=h.uncons;simp only [gN] at hd;cases ha:a.toD k with
   | none=>simp [ha] at hd
   | some d =>
    cases has:gN ks as with
    | none=>simp [ha,has] at hd
    | some row' =>
     simp only [ha,has,Option.some.injEq] at hd;subst hd;obtain ⟨p1,p2,f,p3,p4,p5⟩:=xM h1 ha;obtain ⟨q1,q2,g,q3,q4,q5⟩:=ih h2 has;refine ⟨?_,by simp [q2],f++g,?_,?_,?_⟩
     ·intro u hu;rcases List.mem_cons.1 hu with rfl | hu
      ·exact p1
      ·exact q1 u hu
     ·simpa using p3.append q3
     ·intro y hy;rcases List.mem_append.1 hy with hy | hy
      ·exact p4 y hy
      ·exact q4 y hy
     ·intro hdp;simp only [List.all_cons,Bool.and_eq_true] at hdp
      simpa using (p5 hdp.1).append (q5 hdp.2)
theorem Gi {w m β c x v ks row} (h:RelL w m β c [x] [v]) (hd:gN ks x.cells=some row) :
  row.length=ks.length/\(∀ u ∈ v.cells.toList,u.oneCell'=true) /\
  ∃ f,RdL false w row v.cells.toList f/\(∀ y ∈ f,Lim m β y/\c.may false y)/\(x.cells.all AV.deepOk=true->RdL true w row v.cells.toList []):=by
 by_cases hx:∃ vs,x = .agg vs
 ·obtain ⟨vs,rfl⟩:=hx;cases h with
  | agg h1 h2 _ =>
  simp only [AV.cells] at hd ⊢;obtain ⟨q1,q2,q3⟩:=DH h1 hd;exact ⟨q2,by simpa [Value.cells] using q1,by simpa [Value.cells] using q3⟩
 ·have hc:x.cells=[x]:=by cases x <;> simp_all [AV.cells]
  rw [hc] at hd ⊢;obtain ⟨q1,q2,q3⟩:=DH h hd;have hv:v.cells = #[v]:=by
   cases ks with
   | nil=>simp [gN] at hd
   | cons k ks =>
    simp only [gN] at hd;cases ha:x.toD k with
    | none=>simp [ha] at hd
    | some d=>exact (xM h ha).2.1
  rw [hv];exact ⟨q2,q1,q3⟩
theorem Dn (off:Nat):∀ (us:List Value) (j0:Nat) (A Z:List Value),A.length=off+j0->us.length<=Z.length ->
  (us.zipIdx j0).foldl (fun (cs:Array Value) (p:Value × Nat)=>cs.setIfInBounds (off+p.2) p.1) (A++Z).toArray=(A++us++Z.drop us.length).toArray:=by
 intro us
 induction us with
 | nil=>intro j0 A Z _ _; simp
 | cons u us ih =>
  intro j0 A Z hA hZ
  match Z,hZ with
  | z :: Z,hZ =>
   simp only [List.zipIdx_cons,List.foldl_cons];have e:(A++z :: Z).toArray.setIfInBounds (off+j0) u=((A++[u])++Z).toArray:=by
    rw [List.setIfInBounds_toArray,<- hA,List.set_append_right _ _ (Nat.le_refl _)];simp
   rw [e,ih (j0+1) (A++[u]) Z (by simp; omega) (by simpa using hZ)]
   simp
theorem vo {k:Nat}:∀ (vs:List Value) (i:Nat) (A Z:List Value),(∀ v ∈ vs,v.cells.size=k)->A.length=i * k->vs.length * k<=Z.length ->
  Instr.fill (fun i=>some (i * k,k)) (A++Z).toArray ((vs.zipIdx i).map fun p=>(p.2,p.1))=some (A++vs.flatMap (fun v=>v.cells.toList)++Z.drop (vs.length * k)).toArray:=by
 intro vs
 induction vs with
 | nil=>intro i A Z _ _ _; simp [Instr.fill]
 | cons v vs ih =>
  intro i A Z hv hA hZ;have hvk:v.cells.size=k:=hv v (by simp)
  have hZk:k<=Z.length:=by
   simp only [List.length_cons,Nat.succ_mul] at hZ;omega
  simp only [List.zipIdx_cons,List.map_cons,Instr.fill];rw [if_neg (by simp [hvk]; omega)]
  have hf:v.cells.zipIdx.foldl (fun cs (x:Value × Nat)=>match x with | (c,j)=>cs.setIfInBounds (i * k+j) c) (A++Z).toArray=(A++v.cells.toList++Z.drop k).toArray:=by
   have:=Dn (i * k) v.cells.toList 0 A Z (by simpa using hA) (by simpa [hvk] using hZk)
   rw [<- Array.foldl_toList,Array.toList_zipIdx];simp only [Array.length_toList,hvk] at this;exact this
  rw [hf,ih (i+1) (A++v.cells.toList) (Z.drop k) (fun u hu=>hv u (by simp [hu])) (by simp [hvk,hA,Nat.succ_mul]) (by simp only [List.length_cons,Nat.succ_mul] at hZ; simp; omega)]
  simp [Nat.succ_mul,Nat.add_comm]
theorem B3 {w m β c} {ti:TI} {ρ:Operand->AV} {ρv:Operand->Value}:∀ {ps:List (Nat × Operand)} {i rows},(∀ p ∈ ps,RelL w m β c [ρ p.2] [ρv p.2])->gE ti ρ ps i=some rows ->
  rows.length=ps.length/\(∀ r ∈ rows,r.length=ti.cells.length)/\(∀ v ∈ ps.map (fun p=>ρv p.2),v.cells.size=ti.cells.length) /\
  (ps.map fun p=>(p.1,ρv p.2))=(((ps.map fun p=>ρv p.2).zipIdx i).map fun p=>(p.2,p.1)) /\
  (∀ u ∈ (ps.map fun p=>ρv p.2).flatMap (fun v=>v.cells.toList),u.oneCell'=true) /\
  ∃ f,RdL false w rows.flatten ((ps.map fun p=>ρv p.2).flatMap fun v=>v.cells.toList) f/\(∀ y ∈ f,Lim m β y/\c.may false y) /\
   (iT ρ ps=true->RdL true w rows.flatten ((ps.map fun p=>ρv p.2).flatMap fun v=>v.cells.toList) []):=by
 intro ps
 induction ps with
 | nil =>
  intro i rows _ h;cases h;exact ⟨rfl,by simp,by simp,rfl,by simp,[],by simpa using RdL.nil,by simp,fun _=>by simpa using RdL.nil⟩
 | cons p ps ih =>
  intro i rows hr h;obtain ⟨j,x⟩:=p;simp only [gE] at h;split at h
  ·rename_i hj;subst hj;cases h1:gN ti.cells (ρ x).cells with
   | none=>simp [h1] at h
   | some row =>
    cases h2:gE ti ρ ps (j+1) with
    | none=>simp [h1,h2] at h
    | some rows' =>
     simp only [h1,h2,Option.some.injEq] at h;subst h;obtain ⟨a1,a2,f,a3,a4,a5⟩:=Gi (hr (j,x) (by simp)) h1
     obtain ⟨b1,b2,b3,b4,b5,g,b6,b7,b8⟩:=ih (i:=j+1) (fun p hp=>hr p (by simp [hp])) h2
     have hlen:=a3.length;refine ⟨by simp [b1],?_,?_,?_,?_,f++g,?_,?_,?_⟩
     ·intro r hr;rcases List.mem_cons.1 hr with rfl | hr
      ·exact a1
      ·exact b2 r hr
     ·intro v hv;simp only [List.map_cons,List.mem_cons] at hv;rcases hv with rfl | hv
      ·rw [<- Array.length_toList,<- hlen,a1]
      ·exact b3 v hv
     ·simp [b4]
     ·intro u hu;simp only [List.map_cons,List.flatMap_cons,List.mem_append] at hu;rcases hu with hu | hu
      ·exact a2 u hu
      ·exact b5 u hu
     ·simpa using a3.append b6
     ·intro y hy;rcases List.mem_append.1 hy with hy | hy
      ·exact a4 y hy
      ·exact b7 y hy
     ·intro hdp;simp only [iT,List.all_cons,Bool.and_eq_true] at hdp;have:=(a5 hdp.1).append (b8 (by simpa [iT] using hdp.2))
      simpa using this
  ·cases h
section
variable {P:Program} {T:Nat->Option TI} (hT:∀ t ti,T t=some ti->TOk P t ti) {w:World} {c:Cx} {s:St} {a:Act} {β:Nat->Value} {fp:Nat->List (Nat × Nat)}
 (S:SatI c s a w β fp)
def Behind (c:Cx) (s:St) (a:Act) (r:Out) (v:Value) (w':World):Prop :=
 ∃ β' fp',SatI c ⟨s.e,ki s.m r.puts⟩ a w' β' fp'/\RelL w' (ki s.m r.puts) β' c [r.av] [v]
theorem Behind.pure {av v p q} (S:SatI c s a w β fp) (hr:RelL w s.m β c [av] [v]):Behind c s a ⟨p,q,av,[]⟩ v w:=⟨β,fp,S,hr⟩
include S
theorem w5 {d t:Nat} (hn:s.m d=none) {us:List AV} {cvs:List Value} (hr:RelL w s.m β c us cvs) (h1:∀ u ∈ cvs,u.oneCell'=true) (p q:Prop) :
  Behind c s a ⟨p,q,.ptr d 0,[(d,.box t us)]⟩ (.pointer (some ⟨w.heap.size,0,none⟩)) (w.alloc (.cells cvs.toArray t)):=by
 have G:Grow w s.m β (w.alloc (.cells cvs.toArray t)) (upd s.m d (some (.box t us))) (upd β d (.pointer (some ⟨w.heap.size,0,none⟩))) d (.box t us) []:=by
  refine ⟨hn,upd_same _ _ _,fun h hne=>upd_ne _ _ hne,fun h hne=>upd_ne _ _ hne,fun b hb=>heap_alloc_old w _ hb,rfl,rfl,rfl,by simp,?_,?_,?_⟩
  ·intro x hx; simp [Ob] at hx; omega
  ·intro b _ hb; simp at hb; omega
  ·intro b n c hk; obtain ⟨e,k,dp,R,hk⟩:=hk; cases hk
 refine ⟨_,_,S.grow G ⟨rfl,w.heap.size,cvs,by simp,heap_alloc_new w _,hr.step G.step,h1⟩ (by simp [Ob]),?_⟩
 exact .ptr (by simp [ki]) (by simp) .lnil
theorem BH {d e k:Nat} {dp:Bool} (hn:s.m d=none) (hk:0 < k) {R:List (List D)} (hR:∀ r ∈ R,r.length=k) {cvs:List Value} {f:List (Nat × Nat)} (hm:R.length<=maxLen)
  (hr:RdL false w R.flatten cvs f) (hl:∀ y ∈ f,Lim s.m β y/\c.may false y) (hd:dp=true->RdL true w R.flatten cvs []) (w1:World) (hw:w1.heap=w.heap/\w1.os=w.os/\w1.tape=w.tape/\w1.output=w.output) (p q:Prop) :
  Behind c s a ⟨p,q,.own d k R,[(d,.own e k dp R)]⟩ (.slice (some ⟨w.heap.size,0,none⟩) R.length R.length) (w1.alloc (.cells cvs.toArray e)):=by
 have hlen:cvs.length=R.length * k:=by rw [<- hr.length,eX hR]
 have G:Grow w s.m β (w1.alloc (.cells cvs.toArray e)) (upd s.m d (some (.own e k dp R))) (upd β d (.slice (some ⟨w.heap.size,0,none⟩) R.length R.length)) d (.own e k dp R) []:=by
  refine ⟨hn,upd_same _ _ _,fun h hne=>upd_ne _ _ hne,fun h hne=>upd_ne _ _ hne,fun b hb=>?_,hw.2.1,hw.2.2.1,hw.2.2.2,by simp [hw.1],?_,?_,?_⟩
  ·rw [heap_alloc_old w1 _ (by rw [hw.1]; exact hb),hw.1]
  ·intro x hx; simp [Ob] at hx; omega
  ·intro b hk' _; obtain ⟨ty,vs,hk'⟩:=hk'; cases hk'
  ·intro b n c _ hb; simp at hb; omega
 have T:=G.step;have hold:∀ g:List (Nat × Nat),(∀ x ∈ g,x.1 < w.heap.size) -> ∀ x ∈ g,Agree w (w1.alloc (.cells cvs.toArray e)) x.1 x.2/\(w1.alloc (.cells cvs.toArray e)).heap[x.1]? = w.heap[x.1]? :=
  fun g hg x hx=>⟨.of_same (G.heap _ (hg x hx)),G.heap _ (hg x hx)⟩
 have hb:(w1.alloc (.cells cvs.toArray e)).heap[w.heap.size]? = some (.cells cvs.toArray e (0,0)):=by
  have:=heap_alloc_new w1 (.cells cvs.toArray e);rw [hw.1] at this;exact this
 have hnotG:¬ c.G w.heap.size:=fun hG=>by
  have:=(S.old _ hG).1;have:=S.size;omega
 have htake:(cvs.toArray.toList.take (R.length * k))=cvs:=by rw [<- hlen]; simp
 refine ⟨_,_,S.grow G ⟨hk,hR,.inr ⟨w.heap.size,R.length,cvs.toArray,if dp then [] else f,by simp,hb,Nat.le_refl _,hm,by simp [hlen],?_,?_,?_⟩⟩ (by simp [Ob]),?_⟩
 ·rw [htake];cases dp with
  | true=>simp only [if_true]; exact (hd rfl).keep (by simp)
  | false=>simp only [Bool.false_eq_true,if_false]; exact hr.keep fun x hx=>⟨(hold f hr.lt x hx).1,by simp⟩
 ·intro h; simp [h]
 ·intro h;subst h;refine ⟨rfl,fun x hx=>?_⟩;simp only [Bool.false_eq_true,if_false] at hx;exact ⟨T.lim x (hr.lt x hx) (hl x hx).1,(hl x hx).2⟩
 ·refine .own (by simp [ki]) ⟨e,?_⟩ (fun e' k' d' R' hm'=>?_) .lnil
  ·by_cases h0:R=[]
   ·subst h0;exact ⟨[],by simpa using RdL.sl0 (by unfold maxLen; omega) (by simp) .nil,by simp⟩
   ·have hpos:0 < R.length:=List.length_pos_iff.2 h0;refine ⟨_,RdL.close1 (e:=e) (off:=0) hpos (Nat.le_refl _) hm hR hb (fun j u hu=>by simpa using hu) (hr.keep fun x hx=>⟨(hold f hr.lt x hx).1,by simp⟩),fun x hx=>?_⟩
    rcases List.mem_cons.1 hx with rfl | hx
    ·refine ⟨⟨?_,?_⟩,.inr ⟨rfl,hnotG⟩⟩
     ·rintro ⟨h,ty,vs,hm1,hb1⟩;replace hm1:upd s.m d (some (.own e k dp R)) h=some (.box ty vs):=hm1;by_cases he:h=d
      ·subst he; rw [upd_same] at hm1; cases hm1
      ·rw [upd_ne _ _ he] at hm1;rw [upd_ne _ _ he] at hb1;have:=(S.mem h _ hm1).lt w.heap.size (by simp [Ob,hb1])
       omega
     ·intro h e2 k2 d2 R2 n2 c2 hm1 hb1;replace hm1:upd s.m d (some (.own e k dp R)) h=some (.own e2 k2 d2 R2):=hm1;by_cases he:h=d
      ·subst he;rw [upd_same] at hm1;cases hm1;simp [hlen]
      ·rw [upd_ne _ _ he] at hm1;rw [upd_ne _ _ he] at hb1;have:=(S.mem h _ hm1).lt w.heap.size (by simp [Ob,hb1])
       omega
    ·exact ⟨T.lim x (hr.lt x hx) (hl x hx).1,(hl x hx).2⟩
  ·simp only [ki,upd_same] at hm';cases hm';exact ⟨by simp,rfl⟩
omit S in
theorem yh {w':World} (hh:∀ b,b < w.heap.size->w'.heap[b]? = w.heap[b]?):Step w s.m β w' s.m β:=by
 refine ⟨fun x hx _=>.of_same (hh _ hx),fun _ _ h=>h,fun _ h=>h,fun h e k d R' _ hm=>⟨d,R',hm,rfl,rfl,fun i j e2 k2 rs r' h1 h2=>⟨r',h1,h2⟩⟩,fun _ _ _ _=>rfl,?_⟩;intro h e k d R i j r x b n c _ _ _ _ _ hlt;exact World.cell?_of_block (w:=w) (hh b hlt)
theorem SatI.more {w':World} (hh:∀ b,b < w.heap.size->w'.heap[b]? = w.heap[b]?) (ho:w'.os=w.os) (ht:w'.tape=w.tape) (hp:w'.output=w.output) (hs:w.heap.size<=w'.heap.size):SatI c s a w' β fp:=by
 have T:Step w s.m β w' s.m β:=yh hh;refine ⟨fun t g av h=>?_,fun h blk hm=>?_,S.nodup,S.disj,S.free,S.fg,fun b hG=>?_,ho.trans S.os,ht.trans S.tape,hp.trans S.output,Nat.le_trans S.size hs,S.defers,S.tn,S.pin⟩
 ·obtain ⟨h1,h2,h3⟩:=S.env t g av h;exact ⟨h1,fun hg=>(h2 hg).step T,h3⟩
 ·have hb:=S.mem h blk hm;cases blk with
  | dead=>exact hb
  | own e k dp R =>
   obtain ⟨h1,h2,h3⟩:=hb;refine ⟨h1,h2,?_⟩;rcases h3 with h3 | ⟨b,cap,cs,f0,q1,q2,q3,q4,q5,q6,q7,q8⟩
   ·exact .inl h3
   ·refine .inr ⟨b,cap,cs,f0,q1,?_,q3,q4,q5,q6.keep fun x hx=>⟨.of_same (hh _ (q6.lt x hx)),fun _=>hh _ (q6.lt x hx)⟩,q7,q8⟩;rw [hh b (Array.getElem?_eq_some_iff.1 q2).1]; exact q2
  | box ty vs =>
   obtain ⟨h0,b,cvs,q1,q2,q3,q4⟩:=hb;refine ⟨h0,b,cvs,q1,?_,q3.step T,q4⟩;rw [hh b (Array.getElem?_eq_some_iff.1 q2).1]; exact q2
 ·obtain ⟨h1,h2⟩:=S.old b hG;exact ⟨h1,(hh b (Nat.lt_of_lt_of_le h1 S.size)).trans h2⟩
theorem K6 {e k:Nat} (hk:0 < k) {R:List (List D)} (hR:∀ r ∈ R,r.length=k) {cvs:List Value} {f:List (Nat × Nat)} (hm:R.length<=maxLen)
  (hr:RdL false w R.flatten cvs f) (hl:∀ y ∈ f,Lim s.m β y/\c.may false y) (w1:World) (hw:w1.heap=w.heap/\w1.os=w.os/\w1.tape=w.tape/\w1.output=w.output) (p q:Prop) :
  Behind c s a ⟨p,q,.sl false k R,[]⟩ (.slice (some ⟨w.heap.size,0,none⟩) R.length R.length) (w1.alloc (.cells cvs.toArray e)):=by
 have hh:∀ b,b < w.heap.size->(w1.alloc (.cells cvs.toArray e)).heap[b]? = w.heap[b]?:=fun b hb=>by rw [heap_alloc_old w1 _ (by rw [hw.1]; exact hb),hw.1]
 have T:Step w s.m β (w1.alloc (.cells cvs.toArray e)) s.m β:=yh hh;have hb:(w1.alloc (.cells cvs.toArray e)).heap[w.heap.size]? = some (.cells cvs.toArray e (0,0)):=by
  have:=heap_alloc_new w1 (.cells cvs.toArray e);rw [hw.1] at this;exact this
 have hnotG:¬ c.G w.heap.size:=fun hG=>by
  have:=(S.old _ hG).1;have:=S.size;omega
 refine ⟨β,fp,S.more hh hw.2.1 hw.2.2.1 hw.2.2.2 (by simp [hw.1]),.sl ⟨e,?_⟩ .lnil⟩
 by_cases h0:R=[]
 ·subst h0;exact ⟨[],by simpa using RdL.sl0 (by unfold maxLen; omega) (by simp) .nil,by simp⟩
 ·have hpos:0 < R.length:=List.length_pos_iff.2 h0;refine ⟨_,RdL.close1 (e:=e) (off:=0) hpos (Nat.le_refl _) hm hR hb (fun j u hu=>by simpa using hu) (hr.keep fun x hx=>⟨.of_same (hh _ (hr.lt x hx)),by simp⟩),fun x hx=>?_⟩
  rcases List.mem_cons.1 hx with rfl | hx
  ·refine ⟨⟨?_,?_⟩,.inr ⟨rfl,hnotG⟩⟩
   ·rintro ⟨h,ty,vs,hm1,hb1⟩;have:=(S.mem h _ hm1).lt w.heap.size (by simp [Ob,hb1])
    omega
   ·intro h e2 k2 d2 R2 n2 c2 hm1 hb1;have:=(S.mem h _ hm1).lt w.heap.size (by simp [Ob,hb1])
    omega
  ·exact ⟨T.lim x (hr.lt x hx) (hl x hx).1,(hl x hx).2⟩
end
theorem SatI.ownAt {c s a w β fp} (S:SatI c s a w β fp):∀ h e k d R,s.m h=some (.own e k d R)->R=[] \/ ∃ b n cp,β h = .slice (some ⟨b,0,none⟩) n cp:=by
 intro h e k d R hm;obtain ⟨_,_,hc⟩:=S.mem h _ hm;rcases hc with ⟨_,h2,_⟩ | ⟨b,cap,cs,f0,h1,_⟩
 ·exact .inl h2
 ·exact .inr ⟨b,_,_,h1⟩
theorem xX {w m β c}:∀ {ks:List TK},(∀ k ∈ ks,k.plain=true)->RelL w m β c (ks.map TK.zeroAV) (ks.map TK.zero)/\(∀ u ∈ ks.map TK.zero,u.oneCell'=true)/\RdL true w (ks.map TK.zeroD) (ks.map TK.zero) []:=by
 intro ks
 induction ks with
 | nil=>intro _; exact ⟨.lnil,by simp,.nil⟩
 | cons k ks ih =>
  intro h;obtain ⟨h1,h2,h3⟩:=ih (fun k hk=>h k (by simp [hk]))
  have hk:=h k (by simp)
  cases k with
  | int kk=>exact ⟨.int h1,by simpa [TK.zero,Value.oneCell'] using h2,.int h3⟩
  | bool=>exact ⟨.bool h1,by simpa [TK.zero,Value.oneCell'] using h2,.bool h3⟩
  | str=>exact ⟨.str (by simp) h1,by simpa [TK.zero,Value.oneCell'] using h2,.str (by simp) h3⟩
  | sl e k=>exact ⟨.nil h1,by simpa [TK.zero,Value.oneCell'] using h2,.sl0 (by simp) (by simp) h3⟩
  | oth z =>
   refine ⟨.raw hk h1,fun u hu=>?_,.raw hk h3⟩;rcases List.mem_cons.1 hu with rfl | hu
   ·exact hk
   ·exact h2 u hu
theorem RdL.toFalse {w:World} {ds vs} (h:RdL true w ds vs []):RdL false w ds vs []:=by
 obtain ⟨f,h1,h2⟩:=h.weak;cases f with
 | nil=>exact h1
 | cons x f=>exact absurd (h2 x (by simp)) (by simp)
theorem RdL.replicate {q:Bool} {w:World} {ds vs} (h:RdL q w ds vs []) (n:Nat):RdL q w (List.replicate n ds).flatten (List.replicate n vs).flatten []:=by
 induction n with
 | zero=>exact .nil
 | succ n ih =>
  simp only [List.replicate_succ,List.flatten_cons]
  simpa using h.append ih
theorem Le (z:List Value) (n:Nat) (hz:0 < z.length):madeCells z.toArray (n * z.length)=(List.replicate n z).flatten.toArray:=by
 have hw:∀ r ∈ List.replicate n z,r.length=z.length:=fun r hr=>by rw [List.eq_of_mem_replicate hr]
 have hl:=eX hw;simp only [List.length_replicate] at hl;apply Array.ext
 ·rw [size_madeCells]; simp [hl]
 ·intro j h1 h2;rw [size_madeCells] at h1;have hq:j / z.length < n:=(Nat.div_lt_iff_lt_mul hz).2 h1;have hr:j % z.length < z.length:=Nat.mod_lt _ hz;have:=Hn hw (j / z.length) (j % z.length) z (by simp [hq]) hr
  rw [Nat.div_add_mod' j z.length] at this;have e1:(List.replicate n z).flatten.toArray[j]'h2=z[j % z.length]:=by
   rw [List.getElem_toArray];have h3:=List.getElem?_eq_getElem (l:=(List.replicate n z).flatten) (i:=j) (by simpa using h2)
   rw [h3,List.getElem?_eq_getElem hr] at this;exact Option.some.inj this
  rw [e1];simp [madeCells,hr]
section
variable {P:Program} {T:Nat->Option TI} (hT:∀ t ti,T t=some ti->TOk P t ti) {w:World} {c:Cx} {s:St} {a:Act} {β:Nat->Value} {fp:Nat->List (Nat × Nat)}
 (S:SatI c s a w β fp)
include hT S
omit hT in
theorem FP {t x d v} {ti:TI} {r} (hx:RelL w s.m β c [x] [v]) (hn:s.m d=none)
  (he:(if ti.agg then match x with
    | .agg vs=>if vs.length=ti.cells.length then some (Out.mk True True (.ptr d 0) [(d,.box t vs)]) else none
    | _=>none
   else if x.one then some ⟨True,True,.ptr d 0,[(d,.box t [x])]⟩ else none)=some r) :
  r.fact /\ ∃ v' w',(Instr.box t v).run P w = .ok v' w'/\Behind c s a r v' w':=by
 have key:∀ cvs:List Value,v.cells=cvs.toArray->(Instr.box t v).run P w = .ok (.pointer (some ⟨w.heap.size,0,none⟩)) (w.alloc (.cells cvs.toArray t)):=by
  intro cvs hc;simp [Instr.box,newVar,newRow,hc]
 split at he
 ·cases x <;> simp only at he <;> try (cases he; done)
  case agg vs =>
   split at he
   ·cases he;cases hx with
    | agg h1 h2 _=>exact ⟨trivial,_,_,key _ rfl,w5 S hn h1 h2 _ _⟩
   ·cases he
 ·split at he
  ·rename_i h1;cases he;obtain ⟨q1,q2⟩:=nX hx h1;exact ⟨trivial,_,_,key [v] q2,w5 S hn hx (by simpa using q1) _ _⟩
  ·cases he
theorem EC {t d ti} (ht:T t=some ti) (hn:s.m d=none) :
  ∃ v' w',(Instr.alloc t true (.tuple #[])).run P w = .ok v' w'/\Behind c s a ⟨True,True,.ptr d 0,[(d,.box t (ti.cells.map TK.zeroAV))]⟩ v' w':=by
 obtain ⟨z,h1,h2⟩:=(hT _ _ ht).zero w;obtain ⟨q1,q2,_⟩:=xX (w:=w) (m:=s.m) (β:=β) (c:=c) (hT _ _ ht).plain;refine ⟨_,_,?_,w5 S hn q1 q2 _ _⟩;have hz:z.cells=(ti.cells.map TK.zero).toArray:=by rw [<- h2]
 simp [Instr.alloc,h1,newVar,newRow,hz]
theorem F0 {t d n} {ts te:TI} {parts:Array (Nat × Operand)} {ρ:Operand->AV} {rows} (hts:T t=some ts) (hte:T ts.elem=some te) (he:bi T t ≠ 0) (hn:s.m d=none)
  (hρ:∀ p ∈ parts.toList,RelL w s.m β c [ρ p.2] [a.eval p.2]) (hr:gE te ρ parts.toList 0=some rows) (hlen:n=parts.toList.length/\n * te.cells.length<=16777216) :
  ∃ v' w',(Instr.buildSlice t n (parts.map fun (i,x)=>(i,a.eval x))).run P w = .ok v' w' /\
   Behind c s a ⟨True,True,.own d te.cells.length rows,[(d,.own ts.elem te.cells.length (iT ρ parts.toList) rows)]⟩ v' w':=by
 obtain ⟨e,te',hu,hte',hkl⟩:=gv hT (t:=t) (k:=bi T t) ⟨rfl,Nat.pos_of_ne_zero he⟩;have hee:e=ts.elem/\P.underlying t=some (.slice ts.elem):=by
  unfold bi at he;rw [hts] at he;simp only at he;split at he
  ·rename_i e0 k0 te0 hg hc _;obtain ⟨q1,q2⟩:=(hT _ _ hts).slice hg hc;subst q1;rw [hu] at q2;cases q2;exact ⟨rfl,hu⟩
  ·exact absurd rfl he
 obtain ⟨rfl,_⟩:=hee;obtain ⟨b1,b2,b3,b4,b5,f,b6,b7,b8⟩:=B3 (ρv:=a.eval) hρ hr;obtain ⟨hn1,hn2⟩:=hlen;have hk:=(hT _ _ hte).pos;obtain ⟨z,z1,z2⟩:=(hT _ _ hte).zero w;have hvl:(parts.toList.map fun p=>a.eval p.2).length=n:=by simp [hn1]
 have hmem:=BH (S:=S) (d:=d) (e:=ts.elem) (k:=te.cells.length) (dp:=iT ρ parts.toList) hn hk b2 (by
  rw [b1,<- hn1];have:n<=n * te.cells.length:=Nat.le_mul_of_pos_right _ hk;unfold maxLen;omega) b6 b7 b8 w ⟨rfl,rfl,rfl,rfl⟩ True True
 refine ⟨_,_,?_,hmem⟩;have hsz:z.cells.size=te.cells.length:=by rw [<- Array.length_toList,z2]; simp
 have hfill:∀ Z:List Value,n * te.cells.length<=Z.length->Z.length=n * te.cells.length ->
   Instr.fill (fun i=>some (i * te.cells.length,te.cells.length)) Z.toArray (parts.toList.map fun x=>(x.fst,a.eval x.snd))=some ((parts.toList.map fun p=>a.eval p.2).flatMap fun v=>v.cells.toList).toArray:=by
  intro Z hZ hZ2;have:=vo (k:=te.cells.length) (parts.toList.map fun p=>a.eval p.2) 0 [] Z b3 (by simp) (by rw [hvl]; exact hZ)
  simp only [List.nil_append,hvl] at this;rw [b4,this];have:Z.drop (n * te.cells.length)=[]:=List.drop_eq_nil_of_le (by omega)
  simp [this]
 by_cases h0:n=0
 ·subst h0;have hp:parts = #[]:=by
   apply Array.ext';exact List.eq_nil_of_length_eq_zero hn1.symm
  subst hp;have hrows:rows=[]:=List.eq_nil_of_length_eq_zero (by rw [b1]; rfl)
  subst hrows;simp [Instr.buildSlice,run_underlying hu,(hT _ _ hte).size,newRow,Instr.fill];rw [show Array.range 0 = #[] from by simp [Array.range],Array.map_empty]
 ·have hlt:¬ 2 ^ 24 < n * te.cells.length:=by omega
  have h0':¬ n * te.cells.length=0:=by
   intro h;rcases Nat.mul_eq_zero.1 h with h | h <;> omega
  have hf:=hfill ((Array.range (n * te.cells.length)).map fun x=>z.cells[x % z.cells.size]!).toList (by simp) (by simp)
  simp only [Array.toArray_toList] at hf;have hrows:rows.length=n:=by rw [b1,hn1]
  simp only [Instr.buildSlice,Sem.run_bind,run_underlying hu,Result.andThen_ok,(hT _ _ hte).size,if_neg hlt,if_neg h0',z1,Sem.run_pure,Array.toList_map,hf,newRow,hrows];rfl
theorem FZ {t n} {ts te:TI} {parts:Array (Nat × Operand)} {ρ:Operand->AV} {rows} (hts:T t=some ts) (hte:T ts.elem=some te) (he:bi T t ≠ 0)
  (hρ:∀ p ∈ parts.toList,RelL w s.m β c [ρ p.2] [a.eval p.2]) (hr:gE te ρ parts.toList 0=some rows) (hlen:n=parts.toList.length/\n * te.cells.length<=16777216) :
  ∃ v' w',(Instr.buildSlice t n (parts.map fun (i,x)=>(i,a.eval x))).run P w = .ok v' w' /\
   Behind c s a ⟨True,True,.sl false te.cells.length rows,[]⟩ v' w':=by
 obtain ⟨e,te',hu,hte',hkl⟩:=gv hT (t:=t) (k:=bi T t) ⟨rfl,Nat.pos_of_ne_zero he⟩;have hee:e=ts.elem/\P.underlying t=some (.slice ts.elem):=by
  unfold bi at he;rw [hts] at he;simp only at he;split at he
  ·rename_i e0 k0 te0 hg hc _;obtain ⟨q1,q2⟩:=(hT _ _ hts).slice hg hc;subst q1;rw [hu] at q2;cases q2;exact ⟨rfl,hu⟩
  ·exact absurd rfl he
 obtain ⟨rfl,_⟩:=hee;obtain ⟨b1,b2,b3,b4,b5,f,b6,b7,b8⟩:=B3 (ρv:=a.eval) hρ hr;obtain ⟨hn1,hn2⟩:=hlen;have hk:=(hT _ _ hte).pos;obtain ⟨z,z1,z2⟩:=(hT _ _ hte).zero w;have hvl:(parts.toList.map fun p=>a.eval p.2).length=n:=by simp [hn1]
 have hmem:=K6 (S:=S) (e:=ts.elem) (k:=te.cells.length) hk b2 (by
  rw [b1,<- hn1];have:n<=n * te.cells.length:=Nat.le_mul_of_pos_right _ hk;unfold maxLen;omega) b6 b7 w ⟨rfl,rfl,rfl,rfl⟩ True True
 refine ⟨_,_,?_,hmem⟩;have hsz:z.cells.size=te.cells.length:=by rw [<- Array.length_toList,z2]; simp
 have hfill:∀ Z:List Value,n * te.cells.length<=Z.length->Z.length=n * te.cells.length ->
   Instr.fill (fun i=>some (i * te.cells.length,te.cells.length)) Z.toArray (parts.toList.map fun x=>(x.fst,a.eval x.snd))=some ((parts.toList.map fun p=>a.eval p.2).flatMap fun v=>v.cells.toList).toArray:=by
  intro Z hZ hZ2;have:=vo (k:=te.cells.length) (parts.toList.map fun p=>a.eval p.2) 0 [] Z b3 (by simp) (by rw [hvl]; exact hZ)
  simp only [List.nil_append,hvl] at this;rw [b4,this];have:Z.drop (n * te.cells.length)=[]:=List.drop_eq_nil_of_le (by omega)
  simp [this]
 by_cases h0:n=0
 ·subst h0;have hp:parts = #[]:=by
   apply Array.ext';exact List.eq_nil_of_length_eq_zero hn1.symm
  subst hp;have hrows:rows=[]:=List.eq_nil_of_length_eq_zero (by rw [b1]; rfl)
  subst hrows;simp [Instr.buildSlice,run_underlying hu,(hT _ _ hte).size,newRow,Instr.fill];rw [show Array.range 0 = #[] from by simp [Array.range],Array.map_empty]
 ·have hlt:¬ 2 ^ 24 < n * te.cells.length:=by omega
  have h0':¬ n * te.cells.length=0:=by
   intro h;rcases Nat.mul_eq_zero.1 h with h | h <;> omega
  have hf:=hfill ((Array.range (n * te.cells.length)).map fun x=>z.cells[x % z.cells.size]!).toList (by simp) (by simp)
  simp only [Array.toArray_toList] at hf;have hrows:rows.length=n:=by rw [b1,hn1]
  simp only [Instr.buildSlice,Sem.run_bind,run_underlying hu,Result.andThen_ok,(hT _ _ hte).size,if_neg hlt,if_neg h0',z1,Sem.run_pure,Array.toList_map,hf,newRow,hrows];rfl
theorem Lh {t d} {ts te:TI} {k k':IntKind} {n n':Int} (hts:T t=some ts) (hte:T ts.elem=some te) (he:bi T t ≠ 0) (hn:s.m d=none)
  (hp:n=n'/\0<=n/\n<=140737488355328/\n * te.bytes<=140737488355328) :
  ∃ v' w',(Instr.makeSlice t (.int k n) (.int k' n')).run P w = .ok v' w' /\
   Behind c s a ⟨n=n'/\0<=n/\n<=140737488355328/\n * te.bytes<=140737488355328,True,.own d te.cells.length (List.replicate n.toNat (te.cells.map TK.zeroD)),
    [(d,.own ts.elem te.cells.length true (List.replicate n.toNat (te.cells.map TK.zeroD)))]⟩ v' w':=by
 obtain ⟨e,te',hu,hte',hkl⟩:=gv hT (t:=t) (k:=bi T t) ⟨rfl,Nat.pos_of_ne_zero he⟩;have hee:e=ts.elem:=by
  unfold bi at he;rw [hts] at he;simp only at he;split at he
  ·rename_i e0 k0 te0 hg hc _;obtain ⟨q1,q2⟩:=(hT _ _ hts).slice hg hc;subst q1;rw [hu] at q2;cases q2;rfl
  ·exact absurd rfl he
 subst hee;obtain ⟨rfl,h0,h1,h2⟩:=hp;obtain ⟨i,z,i1,i2,i3,i4,i5⟩:=(hT _ _ hte).info;have hk:=(hT _ _ hte).pos;obtain ⟨_,q2,q3⟩:=xX (w:=w) (m:=s.m) (β:=β) (c:=c) (hT _ _ hte).plain;have hlen:(te.cells.map TK.zero).length=te.cells.length:=by simp
 have hz:z.cells=(te.cells.map TK.zero).toArray:=by rw [<- i5]
 have hrun:=run_make (P:=P) w t ts.elem i z hu i1 i4 k k' n n h0 (Int.le_refl _) (by rw [i3,Int.mul_comm]; omega) (by omega)
 rw [i2,hz,<- hlen,Le _ _ (by rw [hlen]; exact hk)] at hrun
 have hmem:=BH (S:=S) (d:=d) (e:=ts.elem) (k:=te.cells.length) (dp:=true) (R:=List.replicate n.toNat (te.cells.map TK.zeroD)) hn hk (fun r hr=>by rw [List.eq_of_mem_replicate hr]; simp)
  (by simp; unfold maxLen; omega) (q3.toFalse.replicate n.toNat) (by simp) (fun _=>q3.replicate n.toNat) w ⟨rfl,rfl,rfl,rfl⟩
  (n=n/\0<=n/\n<=140737488355328/\n * te.bytes<=140737488355328) True
 simp only [List.length_replicate] at hmem;exact ⟨_,_,hrun,hmem⟩
end
theorem RelL.at1 {w m β c}:∀ {vs:List AV} {us:List Value} {i:Nat} {v:AV},RelL w m β c vs us->vs[i]? = some v -> ∃ u,us[i]? = some u/\RelL w m β c [v] [u]:=by
 intro vs us i v h hi;have h1:=(h.split i).2;have hlt:i < vs.length:=(List.getElem?_eq_some_iff.1 hi).1;have e:vs.drop i=v :: vs.drop (i+1):=by rw [List.drop_eq_getElem_cons hlt]; congr 1; exact (List.getElem?_eq_some_iff.1 hi).2
 rw [e] at h1;obtain ⟨u,us',hu,h2,h3⟩:=h1.uncons;refine ⟨u,?_,h2⟩;have:(us.drop i)[0]? = some u:=by rw [hu]; rfl
 simpa using this
section
variable {P:Program} {T:Nat->Option TI} (hT:∀ t ti,T t=some ti->TOk P t ti) {w:World} {m:Nat->Option Blk} {β:Nat->Value} {c:Cx}
include hT
theorem G7 {t f x v r} (hx:RelL w m β c [x] [v]) (he:kP T t f x=some r) :
  r.puts=[]/\r.fact /\ ∃ u,(Instr.field t v f).run P w = .ok u w/\RelL w m β c [r.av] [u]:=by
 unfold kP at he;split at he
 ·rename_i ti vs ht;split at he
  ·rename_i ft off hg hf;cases hx with
   | @agg _ us _ _ h1 h2 _ =>
   obtain ⟨fs,hu,hfs⟩:=(hT _ _ ht).struct hg;obtain ⟨fd,hfd,e1,e2⟩:∃ fd,fs[f]? = some fd/\fd.type=ft/\fd.offset=off:=by
    rw [<- hfs] at hf;simp only [List.getElem?_map,Array.getElem?_toList] at hf;cases hq:fs[f]? with
    | none=>rw [hq] at hf; cases hf
    | some fd=>rw [hq] at hf; simp at hf; exact ⟨fd,rfl,hf.1,hf.2⟩
   subst e1; subst e2
   split at he
   ·rename_i tf htf;split at he
    ·rename_i hag;split at he
     ·rename_i hl;cases he;refine ⟨rfl,trivial,_,?_,.agg (((h1.split _).2).split tf.cells.length).1 (fun u hu=>h2 u (List.mem_of_mem_drop (List.mem_of_mem_take hu))) .lnil⟩;simp [Instr.field,run_underlying hu,hfd,asAgg,part,(hT _ _ htf).isAgg,(hT _ _ htf).size,hag,List.extract_toArray]
     ·cases he
    ·rename_i hag;split at he
     ·rename_i v hv;cases he;obtain ⟨u,hu1,hu2⟩:=h1.at1 hv;refine ⟨rfl,trivial,u,?_,hu2⟩;have hag':tf.agg=false:=by simpa using hag
      simp [Instr.field,run_underlying hu,hfd,asAgg,part,(hT _ _ htf).isAgg,hag',hu1]
     ·cases he
   ·cases he
  ·cases he
 ·cases he
omit hT in
theorem Ov (A:List Value) (us:List Value) (off:Nat) (h:off+us.length<=A.length) :
  (us.zipIdx).foldl (fun (cs:Array Value) (p:Value × Nat)=>cs.setIfInBounds (off+p.2) p.1) A.toArray=(A.take off++(us++A.drop (off+us.length))).toArray:=by
 have:=Dn off us 0 (A.take off) (A.drop off) (by simp; omega) (by simp; omega)
 rw [List.take_append_drop] at this;rw [this];simp [List.drop_drop]
omit hT in
theorem He {fields:List (Nat × Nat)} {ρ:Operand->AV} {ρv:Operand->Value} {pl:Nat->Option (Nat × Nat)}
  (hpl:∀ i ft off tf,fields[i]? = some (ft,off)->T ft=some tf->pl i=some (off,tf.cells.length)) :
  ∀ {ps:List (Nat × Operand)} {cs cs':List AV} {vs:List Value},(∀ p ∈ ps,RelL w m β c [ρ p.2] [ρv p.2])->gw T fields ρ ps cs=some cs' ->
   RelL w m β c cs vs->(∀ v ∈ vs,v.oneCell'=true) ->
   ∃ vs',Instr.fill pl vs.toArray (ps.map fun p=>(p.1,ρv p.2))=some vs'.toArray/\RelL w m β c cs' vs' /\ ∀ v ∈ vs',v.oneCell'=true:=by
 intro ps
 induction ps with
 | nil=>intro cs cs' vs _ he hr h1; cases he; exact ⟨vs,rfl,hr,h1⟩
 | cons p ps ih =>
  intro cs cs' vs hρ he hr h1;obtain ⟨i,x⟩:=p;unfold gw at he;split at he
  ·rename_i ft off hf;split at he
   ·rename_i tf htf;split at he
    ·rename_i us hus;split at he
     ·rename_i hl;have hx:=hρ (i,x) (by simp)
      simp only at hx;have hc:∃ uv,(ρv x).cells=uv.toArray/\RelL w m β c us uv /\ ∀ u ∈ uv,u.oneCell'=true:=by
       split at hus
       ·split at hus
        ·rename_i vs0 he0;cases hus;rw [he0] at hx;generalize ρv x=v at hx;cases hx with
         | agg q1 q2 _=>exact ⟨_,rfl,q1,q2⟩
        ·cases hus
       ·split at hus
        ·rename_i ho;cases hus;obtain ⟨q1,q2⟩:=nX hx ho;exact ⟨[ρv x],q2,hx,by simpa using q1⟩
        ·cases hus
      obtain ⟨uv,hu1,hu2,hu3⟩:=hc;have hlu:=hu2.length;have hlv:=hr.length;obtain ⟨vs',q1,q2,q3⟩:=ih (cs:=cs.take off++(us++cs.drop (off+us.length))) (vs:=vs.take off++(uv++vs.drop (off+uv.length)))
       (fun p hp=>hρ p (by simp [hp])) he
       (((hr.split off).1).append (hu2.append (by rw [<- hlu]; exact (hr.split _).2)))
       (by
        intro v hv;simp only [List.mem_append] at hv;rcases hv with hv | hv | hv
        ·exact h1 v (List.mem_of_mem_take hv)
        ·exact hu3 v hv
        ·exact h1 v (List.mem_of_mem_drop hv))
      refine ⟨vs',?_,q2,q3⟩;rw [<- q1];simp only [List.map_cons,Instr.fill,hpl i ft off tf hf htf];rw [if_neg (by simp [hu1]; omega),hu1]
      congr 1
      have:=Ov vs uv off (by omega)
      rw [<- this];simp
     ·cases he
    ·cases he
   ·cases he
  ·cases he
theorem MY:∀ (fs:List Field),(fs.map fun f=>(f.type,f.offset)).all (fun p=>(T p.1).isSome)=true ->
  ∃ pl:List (Nat × Nat),(fs.mapM fun f=>(do pure (f.offset,<- sizeOf f.type):Sem (Nat × Nat))).run P w = .ok pl w /\
   ∀ (i ft off:Nat) (tf:TI),(fs.map fun f=>(f.type,f.offset))[i]? = some (ft,off)->T ft=some tf->pl[i]? = some (off,tf.cells.length):=by
 intro fs
 induction fs with
 | nil=>intro _; exact ⟨[],by simp,by simp⟩
 | cons f fs ih =>
  intro ha;simp only [List.map_cons,List.all_cons,Bool.and_eq_true] at ha;obtain ⟨pl,h1,h2⟩:=ih ha.2;obtain ⟨tf,htf⟩:=Option.isSome_iff_exists.1 ha.1;refine ⟨(f.offset,tf.cells.length) :: pl,?_,?_⟩
  ·simp [List.mapM_cons,(hT _ _ htf).size] at h1 ⊢;simp [h1]
  ·intro i ft off tf' hi ht';cases i with
   | zero =>
    simp at hi;obtain ⟨rfl,rfl⟩:=hi;rw [htf] at ht';cases ht';rfl
   | succ i=>exact h2 i ft off tf' (by simpa using hi) ht'
theorem FY {t ρ parts r} {ρv:Operand->Value} (hρ:∀ p ∈ parts,RelL w m β c [ρ p.2] [ρv p.2]) (he:iF T t ρ parts=some r) :
  r.puts=[]/\r.fact /\ ∃ u,(Instr.build t (parts.map fun p=>(p.1,ρv p.2)).toArray).run P w = .ok u w/\RelL w m β c [r.av] [u]:=by
 unfold iF at he;split at he
 ·rename_i ti ht;split at he
  ·rename_i hc;simp only [Bool.and_eq_true] at hc;split at he
   ·rename_i cs hcs;cases he;obtain ⟨fs,hu,hfs⟩:=(hT _ _ ht).struct hc.1;obtain ⟨pl,h1,h2⟩:=MY hT (w:=w) fs.toList (by rw [hfs]; exact hc.2)
    rw [hfs] at h2;obtain ⟨z,hz1,hz2⟩:=(hT _ _ ht).zero w;obtain ⟨q1,q2,_⟩:=xX (w:=w) (m:=m) (β:=β) (c:=c) (hT _ _ ht).plain;obtain ⟨vs',e1,e2,e3⟩:=He (pl:=fun i=>pl[i]?) h2 hρ hcs q1 q2;refine ⟨rfl,trivial,_,?_,.agg e2 e3 .lnil⟩;have hz:z.cells=(ti.cells.map TK.zero).toArray:=by rw [<- hz2]
    have h1':(fs.mapM fun f=>(do pure (f.offset,<- sizeOf f.type):Sem (Nat × Nat))).run P w = .ok pl.toArray w:=by
     rw [Array.mapM_eq_mapM_toList];simp at h1 ⊢;simp [h1]
    simp at h1';have e1':Instr.fill (fun i=>pl[i]?) z.cells (parts.map fun p=>(p.1,ρv p.2))=some vs'.toArray:=by rw [hz]; exact e1
    simp [Instr.build,hz1,run_underlying hu,h1',e1']
   ·cases he
  ·cases he
 ·cases he
end
theorem RelL.ofMap {w m β c} {ρ:Operand->AV} {ρv:Operand->Value}:∀ {l:List Operand},(∀ x ∈ l,RelL w m β c [ρ x] [ρv x])->RelL w m β c (l.map ρ) (l.map ρv):=by
 intro l
 induction l with
 | nil=>intro _; exact .lnil
 | cons x l ih =>
  intro h;have:=(h x (by simp)).append (ih fun y hy=>h y (by simp [hy]))
  simpa using this
theorem Gu {P:Program} {t:Nat} (h:oM P t) (w:World) (A B:List UInt8) (k:IntKind) (n n':Int) :
  (Op.equal t (.agg #[.string ⟨A.toArray⟩,.int k n]) (.agg #[.string ⟨B.toArray⟩,.int k n'])).run P w = .ok (decide (A=B/\n=n')) w:=by
 obtain ⟨h1,_,f1,f2,k2,hu,n1,n2,o1,o2,u1,u2⟩:=h;have hf:P.fieldsOf t = #[f1,f2]:=by simp [Program.fieldsOf,hu]
 have e:Op.equal t (.agg #[.string ⟨A.toArray⟩,.int k n]) (.agg #[.string ⟨B.toArray⟩,.int k n'])=Op.equalIn (9998+1+1) t (.agg #[.string ⟨A.toArray⟩,.int k n]) (.agg #[.string ⟨B.toArray⟩,.int k n']):=rfl;rw [e,run_equalIn_struct w (9998+1) t _ _ (by rw [hf]; exact hu) h1,hf]
 have p1:∀ (X:List UInt8) (m:Int),(part f1.type #[.string ⟨X.toArray⟩,.int k m] f1.offset).run P w = .ok (.string ⟨X.toArray⟩) w:=fun X m=>by simp [part,isAgg,run_underlying u1,o1]
 have p2:∀ (X:List UInt8) (m:Int),(part f2.type #[.string ⟨X.toArray⟩,.int k m] f2.offset).run P w = .ok (.int k m) w:=fun X m=>by simp [part,isAgg,run_underlying u2,o2]
 simp only [Op.eqFields,n1,n2,ne_eq,not_false_eq_true,if_true,Sem.run_bind,p1,p2,Result.andThen_ok,run_equalIn_string w 9998 f1.type _ _ u1,run_equalIn_int w 9998 f2.type k k2 n n' u2,ByteArray.toList_eq];by_cases hA:A=B
 ·subst hA;by_cases hn:n=n'
  ·subst hn; simp [p2,run_equalIn_int w 9998 f2.type k k2 n n u2]
  ·simp [p2,run_equalIn_int w 9998 f2.type k k2 n n' u2,hn]
 ·simp [hA]
theorem Gs {P:Program} {t:Nat} (h:oM P t) (w:World) (op:BinOp) (x y:Operand) (xs ys:Array Value):(eqGuard op t x y (.agg xs) (.agg ys)).run P w = .ok () w:=by
 obtain ⟨_,h2,_⟩:=h;cases op <;> simp [eqGuard,h2]
section
variable {P:Program} {T:Nat->Option TI} (hT:∀ t ti,T t=some ti->TOk P t ti) {w:World} {c:Cx} {s:St} {a:Act} {β:Nat->Value} {fp:Nat->List (Nat × Nat)}
 (S:SatI c s a w β fp)
include hT S
theorem Gv {dst op t x y k ty pos after guard} {r:Out} {u v:AV} (hx:RelL w s.m β c [u] [a.eval x]) (hy:RelL w s.m β c [v] [a.eval y]) (he:kq T t op u v=some r) :
  r.fact /\ ∃ v w',(execOp a.eval ⟨dst,.binOp op t x y k,ty,pos,after,guard⟩).run P w = .ok (.value v) w'/\Behind c s a r v w':=by
 unfold kq at he;split at he
 ·rename_i a1 k1 n1 b1 k2 n2 ti hti;split at he
  ·rename_i hc;obtain ⟨c1,c2,rfl⟩:=hc;have CM:=(hT _ _ hti).cmp c1 c2;have ex:a.eval x = .agg #[.string ⟨a1.toArray⟩,.int k1 n1]:=by
    generalize a.eval x=q at hx;cases hx with
    | agg h1 _ _=>cases h1 with
     | str _ h2=>cases h2 with
      | int h3=>cases h3; rfl
   have ey:a.eval y = .agg #[.string ⟨b1.toArray⟩,.int k1 n2]:=by
    generalize a.eval y=q at hy;cases hy with
    | agg h1 _ _=>cases h1 with
     | str _ h2=>cases h2 with
      | int h3=>cases h3; rfl
   have e3:∀ op,(execOp a.eval ⟨dst,.binOp op t x y k,ty,pos,after,guard⟩)=(do let r <- (do eqGuard op t x y (a.eval x) (a.eval y); binOp op t (a.eval x) (a.eval y):Sem Value); pure (.value r)):=fun _=>rfl
   rw [e3,ex,ey];have hr:=Gu CM w a1 b1 k1 n1 n2;have hg:=fun op=>Gs (P:=P) CM w op x y #[.string ⟨a1.toArray⟩,.int k1 n1] #[.string ⟨b1.toArray⟩,.int k1 n2];split at he
   ·cases he;refine ⟨trivial,.bool (decide (a1=b1/\n1=n2)),w,?_,.pure S (.bool .lnil)⟩;simp only [Sem.run_bind,hg,Result.andThen_ok,binOp,hr,Sem.run_pure]
   ·cases he;refine ⟨trivial,.bool (!decide (a1=b1/\n1=n2)),w,?_,.pure S (.bool .lnil)⟩;simp only [Sem.run_bind,hg,Result.andThen_ok,binOp,hr,Sem.run_pure]
   ·cases he
  ·cases he
 ·rename_i e1 k1 rows ti hti;have e3:∀ op,(execOp a.eval ⟨dst,.binOp op t x y k,ty,pos,after,guard⟩)=(do let r <- (do eqGuard op t x y (a.eval x) (a.eval y); binOp op t (a.eval x) (a.eval y):Sem Value); pure (.value r)):=fun _=>rfl
  split at he
  ·cases he
  ·rename_i hne;have ey:a.eval y = .slice none 0 0:=by
    generalize a.eval y=q at hy;cases hy with
    | nil h=>rfl
   obtain ⟨bb,oo,nn,cc,ex⟩:∃ bb oo nn cc,a.eval x = .slice (some ⟨bb,oo,none⟩) nn cc:=by
    generalize a.eval x=q at hx;cases hx with
    | sl h1 _ =>
     obtain ⟨e,fs,h1,_⟩:=h1;cases h1 with
     | sl0 _ _ _=>exact absurd rfl hne
     | sl _ _ _ _ _ _ _ _ _ _=>exact ⟨_,_,_,_,rfl⟩
   rw [e3,ex,ey];have hu:∀ e2 k2,ti.agg=false->ti.cells=[.sl e2 k2]->(Op.equal t (.slice (some ⟨bb,oo,none⟩) nn cc) (.slice none 0 0)).run P w = .ok false w:=fun e2 k2 q1 q2=>by
    have hU:=((hT _ _ hti).slice q1 q2).2;have h:∀ d:Nat,(Op.equalIn (d+1) t (.slice (some ⟨bb,oo,none⟩) nn cc) (.slice none 0 0)).run P w = .ok false w:=fun d=>by simp [Op.equalIn,run_underlying hU]
    exact h 9999
   have hg:∀ op,(eqGuard op t x y (.slice (some ⟨bb,oo,none⟩) nn cc) (.slice none 0 0)).run P w = .ok () w:=fun op=>by cases op <;> simp [eqGuard]
   split at he
   ·rename_i q1 q2;cases he;refine ⟨trivial,.bool false,w,?_,.pure S (.bool .lnil)⟩;simp only [Sem.run_bind,hg,Result.andThen_ok,binOp,hu _ _ q1 q2,Sem.run_pure]
   ·rename_i q1 q2;cases he;refine ⟨trivial,.bool true,w,?_,.pure S (.bool .lnil)⟩;simp only [Sem.run_bind,hg,Result.andThen_ok,binOp,hu _ _ q1 q2,Sem.run_pure,Bool.not_false]
   ·cases he
 ·rename_i ti hti;have e3:∀ op,(execOp a.eval ⟨dst,.binOp op t x y k,ty,pos,after,guard⟩)=(do let r <- (do eqGuard op t x y (a.eval x) (a.eval y); binOp op t (a.eval x) (a.eval y):Sem Value); pure (.value r)):=fun _=>rfl
  have ey:a.eval y = .slice none 0 0:=by
   generalize a.eval y=q at hy;cases hy with
   | nil h=>rfl
  have ex:a.eval x = .slice none 0 0:=by
   generalize a.eval x=q at hx;cases hx with
   | nil h=>rfl
  rw [e3,ex,ey];have hu:∀ e2 k2,ti.agg=false->ti.cells=[.sl e2 k2]->(Op.equal t (.slice none 0 0) (.slice none 0 0)).run P w = .ok true w:=fun e2 k2 q1 q2=>by
   have hU:=((hT _ _ hti).slice q1 q2).2;have h:∀ d:Nat,(Op.equalIn (d+1) t (.slice none 0 0) (.slice none 0 0)).run P w = .ok true w:=fun d=>by simp [Op.equalIn,run_underlying hU]
   exact h 9999
  have hg:∀ op,(eqGuard op t x y (.slice none 0 0) (.slice none 0 0)).run P w = .ok () w:=fun op=>by cases op <;> simp [eqGuard]
  split at he
  ·rename_i q1 q2;cases he;refine ⟨trivial,.bool true,w,?_,.pure S (.bool .lnil)⟩;simp only [Sem.run_bind,hg,Result.andThen_ok,binOp,hu _ _ q1 q2,Sem.run_pure]
  ·rename_i q1 q2;cases he;refine ⟨trivial,.bool false,w,?_,.pure S (.bool .lnil)⟩;simp only [Sem.run_bind,hg,Result.andThen_ok,binOp,hu _ _ q1 q2,Sem.run_pure,Bool.not_true]
  ·cases he
 ·cases he
theorem F9 {mm:Nat->Option Blk} (hm:∀ h b,mm h=some b->s.m h=some b) {g d} {ρ:Operand->AV} {o:Oper} {r:Out}
  (hρ:∀ x ∈ o.op.operands,RelL w s.m β c [ρ x] [a.eval x]) (he:calm T g d mm ρ o=some r) (hp:r.pre) (hn:r.puts ≠ []->s.m d=none) :
  r.fact /\ ∃ v w',(execOp a.eval o).run P w = .ok (.value v) w'/\Behind c s a r v w':=by
 obtain ⟨dst,op,ty,pos,after,guard⟩:=o;unfold calm at he;cases op <;> simp only [Op.operands] at he hρ <;> try (cases he; done)
 case move x =>
  cases he;exact ⟨trivial,_,w,by simp [execOp],.pure S (hρ x (by simp))⟩
 case assign x =>
  cases he;exact ⟨trivial,_,w,by simp [execOp],.pure S (hρ x (by simp))⟩
 case box t x =>
  split at he
  ·cases he
  ·cases ht:T t with
   | none=>simp [ht] at he
   | some ti =>
    rw [ht] at he;have hx:=hρ x (by simp)
    have hpu:r.puts ≠ []:=by
     simp only at he;split at he
     ·split at he
      ·split at he
       ·cases he; simp
       ·cases he
      ·cases he
     ·split at he
      ·cases he; simp
      ·cases he
    obtain ⟨q1,v,w',q2,q3⟩:=FP (P:=P) S hx (hn hpu) he;exact ⟨q1,v,w',by simp [execOp,q2],q3⟩
 case alloc t =>
  split at he
  ·cases he
  ·cases ht:T t with
   | none=>simp [ht] at he
   | some ti =>
    rw [ht] at he;cases he;obtain ⟨v,w',q2,q3⟩:=EC hT S ht (hn (by simp))
    exact ⟨trivial,v,w',by simp [execOp,q2],q3⟩
 case fieldAddr t x f =>
  obtain ⟨q0,q1,v,q2,q3⟩:=G8 hT (hρ x (by simp)) he hp
  obtain ⟨pp,qq,av,pu⟩:=r;simp only at q0;subst q0;exact ⟨q1,v,w,by simp [execOp,q2],.pure S q3⟩
 case field t x f =>
  obtain ⟨q0,q1,v,q2,q3⟩:=G7 hT (hρ x (by simp)) he
  obtain ⟨pp,qq,av,pu⟩:=r;simp only at q0;subst q0;exact ⟨q1,v,w,by simp [execOp,q2],.pure S q3⟩
 case load t x =>
  obtain ⟨q0,q1,v,q2,q3⟩:=Bm hT S hm (hρ x (by simp)) he hp
  obtain ⟨pp,qq,av,pu⟩:=r;simp only at q0;subst q0;exact ⟨q1,v,w,by simp [execOp,q2],.pure S q3⟩
 case indexAddr t x i =>
  obtain ⟨q0,q1,v,q2,q3⟩:=Ie hT S.ownAt (hρ x (by simp)) (hρ i (by simp)) he hp
  obtain ⟨pp,qq,av,pu⟩:=r;simp only at q0;subst q0;exact ⟨q1,v,w,by simp [execOp,q2],.pure S q3⟩
 case index t x i =>
  have hx:=hρ x (by simp)
  have hi:=hρ i (by simp)
  split at he
  ·rename_i sx kd z _ _ _ hx' hi' ht;cases he;rw [hx'] at hx;rw [hi'] at hi;simp only [execOp];generalize a.eval x=vx at hx ⊢;generalize a.eval i=vi at hi ⊢;cases hx with
   | str _ h2 =>
   cases h2;cases hi with
   | int h3 =>
   cases h3;exact ⟨trivial,_,w,by simp [Ij ((hT _ _ ht).strT rfl rfl) hp.1 hp.2],.pure S (.int .lnil)⟩
  ·cases he
 case slice t x lo hi mx =>
  cases mx with
  | some _=>cases he
  | none =>
  have hlo:(lo.map ρ = none/\lo.map a.eval=none) \/ ∃ y u,lo.map ρ = some y/\lo.map a.eval=some u/\RelL w s.m β c [y] [u]:=by
   cases lo with
   | none=>exact .inl ⟨rfl,rfl⟩
   | some x=>exact .inr ⟨_,_,rfl,rfl,hρ x (by simp)⟩
  have hhi:(hi.map ρ = none/\hi.map a.eval=none) \/ ∃ y u,hi.map ρ = some y/\hi.map a.eval=some u/\RelL w s.m β c [y] [u]:=by
   cases hi with
   | none=>exact .inl ⟨rfl,rfl⟩
   | some x=>exact .inr ⟨_,_,rfl,rfl,hρ x (by simp)⟩
  obtain ⟨q0,q1,v,q2,q3⟩:=OQ hT (hρ x (by simp)) hlo hhi he hp
  obtain ⟨pp,qq,av,pu⟩:=r;simp only at q0;subst q0;exact ⟨q1,v,w,by simp [execOp,q2],.pure S q3⟩
 case buildSlice t n parts =>
  split at he
  ·split at he
   ·rename_i ts hts;split at he
    ·rename_i te hte;split at he
     ·cases he
     ·rename_i hel;split at he
      ·rename_i rows hr;split at he
       ·rename_i hlen;cases he;obtain ⟨v',w',q2,q3⟩:=FZ hT S hts hte hel (fun p hp=>hρ p.2 (by simp; exact ⟨_,by simpa using hp⟩)) hr hlen
        simp at q2;exact ⟨trivial,v',w',by simp [execOp,q2],q3⟩
       ·cases he
      ·cases he
    ·cases he
   ·cases he
  ·split at he
   ·rename_i ts hts;split at he
    ·rename_i te hte;split at he
     ·cases he
     ·rename_i hel;split at he
      ·rename_i rows hr;split at he
       ·rename_i hlen;cases he;obtain ⟨v',w',q2,q3⟩:=F0 hT S hts hte hel (hn (by simp)) (fun p hp=>hρ p.2 (by simp; exact ⟨_,by simpa using hp⟩)) hr hlen
        simp at q2;exact ⟨trivial,v',w',by simp [execOp,q2],q3⟩
       ·cases he
      ·cases he
    ·cases he
   ·cases he
 case build t parts =>
  obtain ⟨q0,q1,v,q2,q3⟩:=FY hT (ρv:=a.eval) (fun p hp=>hρ p.2 (by simp; exact ⟨_,by simpa using hp⟩)) he
  obtain ⟨pp,qq,av,pu⟩:=r;simp only at q0;subst q0;have e:(parts.toList.map fun p=>(p.1,a.eval p.2)).toArray=parts.map fun (i,x)=>(i,a.eval x):=by apply Array.ext'; simp
  rw [e] at q2;exact ⟨q1,v,w,by simp only [execOp,Sem.run_bind,q2]; rfl,.pure S q3⟩
 case makeSlice t l cp =>
  have hl:=hρ l (by simp)
  have hc:=hρ cp (by simp)
  split at he
  ·cases he
  ·split at he
   ·rename_i ts k n k' n' hts hl' hc';split at he
    ·rename_i te hte;split at he
     ·cases he
     ·rename_i hel;cases he;rw [hl'] at hl;rw [hc'] at hc;obtain ⟨v',w',q2,q3⟩:=Lh (k:=k) (k':=k') hT S hts hte hel (hn (by simp)) hp
      simp only [execOp];generalize a.eval l=vl at hl ⊢;generalize a.eval cp=vc at hc ⊢;cases hl with
      | int h3 =>
      cases h3;cases hc with
      | int h3 =>
      cases h3;exact ⟨trivial,v',w',by simp [q2],q3⟩
    ·cases he
   ·cases he
 case unOp op t x =>
  have hx:=hρ x (by simp)
  simp only [execOp];generalize a.eval x=vx at hx ⊢;split at he
  ·rename_i b hx';cases he;rw [hx'] at hx;cases hx with
   | bool h3 =>
   cases h3;exact ⟨trivial,_,w,by simp [Op.unary],.pure S (.bool .lnil)⟩
  ·rename_i k n hx';cases he;rw [hx'] at hx;cases hx with
   | int h3 =>
   cases h3;exact ⟨trivial,_,w,by simp [Op.unary,Op.intArith,lx hp],.pure S (.int .lnil)⟩
  ·rename_i k n hx';cases he;rw [hx'] at hx;cases hx with
   | int h3 =>
   cases h3;exact ⟨trivial,_,w,by simp [Op.unary,Op.intBits,iE],.pure S (.int .lnil)⟩
  ·cases he
 case convert src dt x =>
  obtain ⟨q0,q1,v,q2,q3⟩:=GI hT (hρ x (by simp)) he hp
  obtain ⟨pp,qq,av,pu⟩:=r;simp only at q0;subst q0;exact ⟨q1,v,w,by simp [execOp,q2],.pure S q3⟩
 case extract x i =>
  have hx:=hρ x (by simp)
  simp only [execOp];generalize a.eval x=vx at hx ⊢;split at he
  ·rename_i vs hx';split at he
   ·rename_i v hv;cases he;rw [hx'] at hx;cases hx with
    | tup h1 h2 =>
    cases h2;obtain ⟨u,hu1,hu2⟩:=h1.at1 hv;exact ⟨trivial,u,w,by simp [Instr.extract,hu1],.pure S hu2⟩
   ·cases he
  ·cases he
 case makeFunc fn first captured =>
  cases fn <;> simp only at he <;> try (cases he; done)
  case func f =>
   split at he
   ·rename_i hf;cases he;have hf':first = #[]:=Array.eq_empty_of_size_eq_zero hf
    subst hf';have hr:RelL w s.m β c (captured.toList.map ρ) (captured.toList.map a.eval):=RelL.ofMap fun x hx=>hρ x (by simpa using hx)
    refine ⟨trivial,_,w,?_,.pure S (.clo hr .lnil)⟩;simp [execOp,Instr.makeFunc];exact Array.ext' (by simp)
   ·cases he
 case nilCheck x =>
  have hx:=hρ x (by simp)
  simp only [execOp];generalize a.eval x=vx at hx ⊢;generalize ρ x=ax at hx he;cases ax <;> simp only at he <;> try (cases he; done)
  case ptr h o=>cases he; cases hx; exact ⟨trivial,_,w,rfl,.pure S (.ptr (by assumption) (by assumption) .lnil)⟩
  case eptr h i o ds=>cases he; cases hx; exact ⟨trivial,_,w,rfl,.pure S (.eptr (by assumption) (by assumption) (by assumption) .lnil)⟩
  case sptr=>cases he; cases hx; exact ⟨trivial,_,w,rfl,.pure S (.sptr (by assumption) (by assumption) (by assumption) .lnil)⟩
  case bptr=>cases he; cases hx; exact ⟨trivial,_,w,rfl,.pure S (.bptr (by assumption) .lnil)⟩
  case clo=>cases he; cases hx; exact ⟨trivial,_,w,rfl,.pure S (.clo (by assumption) .lnil)⟩
 case binOp op t x y k =>
  have hx:=hρ x (by simp)
  have hy:=hρ y (by simp)
  split at he
  ·rename_i p q hx' hy';split at he
   ·rename_i ti ht;split at he
    ·rename_i hc;split at he
     ·cases he
     ·rename_i hg;cases he;rw [hx'] at hx;rw [hy'] at hy;simp only [execOp];generalize a.eval x=vx at hx ⊢;generalize a.eval y=vy at hy ⊢;cases hx with
      | bool h3 =>
      cases h3;cases hy with
      | bool h3 =>
      cases h3;refine ⟨trivial,_,w,?_,.pure S (.bool .lnil)⟩;simp [eqGuard,run_eql_bool w t p q ((hT _ _ ht).boolT (by simpa using hg) hc)]
      exact Bool.beq_eq_decide_eq p q
    ·rename_i hc;split at he
     ·cases he
     ·rename_i hg;cases he;rw [hx'] at hx;rw [hy'] at hy;simp only [execOp];generalize a.eval x=vx at hx ⊢;generalize a.eval y=vy at hy ⊢;cases hx with
      | bool h3 =>
      cases h3;cases hy with
      | bool h3 =>
      cases h3;refine ⟨trivial,_,w,?_,.pure S (.bool .lnil)⟩;simp [eqGuard,run_neq_bool w t p q ((hT _ _ ht).boolT (by simpa using hg) hc)]
      exact Bool.beq_eq_decide_eq p q
    ·cases he
   ·cases he
  ·split at he
   ·rename_i p r' hb;cases he;obtain ⟨v,q1,q2⟩:=yM (t:=t) (ox:=x) (oy:=y) hx hy hb hp;refine ⟨trivial,v,w,?_,.pure S q2⟩;have:(execOp a.eval ⟨dst,.binOp op t x y k,ty,pos,after,guard⟩)=(do let r <- (do eqGuard op t x y (a.eval x) (a.eval y); binOp op t (a.eval x) (a.eval y):Sem Value); pure (.value r)):=rfl
    rw [this,Sem.run_bind,q1];rfl
   ·exact Gv hT S hx hy he
 case call cl =>
  obtain ⟨callee,args,argTypes⟩:=cl;cases callee with
  | value f=>cases he
  | invoke r n=>cases he
  | builtin b =>
   have ha:∀ x ∈ args.toList,RelL w s.m β c [ρ x] [a.eval x]:=fun x hx=>hρ x (by simpa [Call.operands] using hx)
   cases b <;> simp only at he <;> try (cases he; done)
   case len =>
    split at he
    ·rename_i x t hxs hts;obtain ⟨q0,q1,v,q2,q3⟩:=KI (ty:=ty) hT (ha x (by simp [hxs])) he hp
     obtain ⟨pp,qq,av,pu⟩:=r;simp only at q0;subst q0;obtain rfl:args = #[x]:=Array.ext' hxs;obtain rfl:argTypes = #[t]:=Array.ext' hts;exact ⟨q1,v,w,by simp [execOp,resolve,invoke,builtin,q2],.pure S q3⟩
    ·cases he
   case min =>
    split at he
    ·rename_i k x k' y hxs;cases he;obtain ⟨p,l1,hl,h1,h2⟩:=List.map_eq_cons_iff.1 hxs;obtain ⟨q,l2,rfl,h3,h4⟩:=List.map_eq_cons_iff.1 h2;obtain rfl:=List.map_eq_nil_iff.1 h4;obtain rfl:args = #[p,q]:=Array.ext' hl;have hp1:=ha p (by simp)
     have hq1:=ha q (by simp)
     rw [h1] at hp1;rw [h3] at hq1;have e1:a.eval p = .int k x:=by
      generalize a.eval p=vp at hp1;cases hp1 with
      | int h=>rfl
     have e2:a.eval q = .int k' y:=by
      generalize a.eval q=vq at hq1;cases hq1 with
      | int h=>rfl
     exact ⟨trivial,_,w,by simp [execOp,resolve,invoke,builtin,e1,e2,Builtin.min_,Builtin.max_,Builtin.min2,Builtin.max2],.pure S (.int .lnil)⟩
    ·cases he
   case max =>
    split at he
    ·rename_i k x k' y hxs;cases he;obtain ⟨p,l1,hl,h1,h2⟩:=List.map_eq_cons_iff.1 hxs;obtain ⟨q,l2,rfl,h3,h4⟩:=List.map_eq_cons_iff.1 h2;obtain rfl:=List.map_eq_nil_iff.1 h4;obtain rfl:args = #[p,q]:=Array.ext' hl;have hp1:=ha p (by simp)
     have hq1:=ha q (by simp)
     rw [h1] at hp1;rw [h3] at hq1;have e1:a.eval p = .int k x:=by
      generalize a.eval p=vp at hp1;cases hp1 with
      | int h=>rfl
     have e2:a.eval q = .int k' y:=by
      generalize a.eval q=vq at hq1;cases hq1 with
      | int h=>rfl
     exact ⟨trivial,_,w,by simp [execOp,resolve,invoke,builtin,e1,e2,Builtin.min_,Builtin.max_,Builtin.min2,Builtin.max2],.pure S (.int .lnil)⟩
    ·cases he
end
def St.val (s:St):Operand->AV
 | .tmp t=>match s.e t with | some (_,av)=>av | none=>.junk
 | .const v=>nV v
 | .func f=>.clo f []
 | .global _=>.junk
def pX:Value->Bool
 | .string s=>decide (s.data.size<=9223372036854775807)
 | _=>true
def St.cond (s:St):Operand->Bool
 | .tmp t=>match s.e t with | some (g,_)=>g | none=>false
 | .const v=>pX v
 | _=>true
def cS (ops:Array Oper) (o:Oper) (s:St):Option Bool :=
 match o.guard with
 | none=>some true
 | some (j,want)=>match (ops[j]?).bind (·.dst) with
  | some t=>match s.e t with
   | some (g,.bool b)=>some (g && (b == want))
   | _=>none
  | none=>none
def mu:AV->AV->AV->Option (Bool × AV)
 | .bool b,.bool p,.bool q=>some (b,.bool (if b then p else q))
 | .bool b,.int k p,.int k' q=>if k=k' then some (b,.int k (if b then p else q)) else none
 | .bool b,.str p,.str q=>some (b,.str (if b then p else q))
 | _,_,_=>none
def gy (m:Nat->Option Blk):List (Nat × Blk)->Prop
 | []=>True
 | (d,_) :: _=>m d=none
def Oper.hnd (o:Oper):Nat:=match o.dst with | some t=>t * 16 | none=>0
def St.next (s:St) (o:Oper) (g:Bool) (av:AV) (puts:List (Nat × Blk)):St :=
 ⟨match o.dst with | some t=>upd s.e t (some (g,av)) | none=>s.e,ki s.m puts⟩
def cW (n:Nat) (o:Oper):Bool:=match o.dst with | some t=>decide (t < n) | none=>true
def aT (T:Nat->Option TI) (n:Nat) (ops:Array Oper) (mm:Nat->Option Blk) (o:Oper) (s:St):Option (Bool × Out) :=
 match cS ops o s with
 | none=>none
 | some g=>if cW n o then
   match o.op with
   | .pick x y z=>match mu (s.val x) (s.val y) (s.val z) with
    | some (b,av)=>some (g,⟨g=true->s.cond x=true/\(if b then s.cond y else s.cond z)=true,True,av,[]⟩)
    | none=>none
   | _=>match calm T o.guard.isSome (Oper.hnd o) mm s.val o with
    | some r=>some (g,⟨(g=true->(o.op.operands.toList.all s.cond)=true/\r.pre)/\gy s.m r.puts,g=true->r.fact,r.av,r.puts⟩)
    | none=>none
  else none
theorem uX {T g d m ρ o r} (h:calm T g d m ρ o=some r):(g=true->r.puts=[])/\match r.puts with | []=>True | p :: ps=>∃ b,p :: ps=[(d,b)]:=by
 suffices H:r.puts=[] \/ (g=false /\ ∃ b,r.puts=[(d,b)]) by
  rcases H with H | ⟨hg,b,H⟩
  ·rw [H]; simp
  ·rw [H]; exact ⟨fun h=>(by rw [hg] at h; cases h),b,rfl⟩
 obtain ⟨dst,op,ty,pos,after,guard⟩:=o;unfold calm at h;cases op <;> simp only [Out.of,kQ,kP,il,kR,lh,iF,kK] at h <;> try (cases h; done)
 case call cl =>
  obtain ⟨callee,args,argTypes⟩:=cl;cases callee <;> (try simp only at h) <;> try (cases h; done)
  rename_i b;cases b <;> (try simp only at h) <;> (try simp only [kU,Out.of] at h) <;> try (cases h; done)
  all_goals repeat' split at h
  all_goals first | (cases h; done) | (cases h; exact .inl rfl)
 case makeFunc fn first captured =>
  cases fn <;> simp only at h <;> try (cases h; done)
  split at h
  ·cases h; exact .inl rfl
  ·cases h
 case slice t x lo hi mx =>
  cases mx <;> simp only at h <;> try (cases h; done)
  repeat' split at h
  all_goals first | (cases h; done) | (cases h; exact .inl rfl)
 all_goals repeat' split at h
 all_goals first | (obtain ⟨_,rfl⟩:=sf h; exact .inl rfl) | (cases h; done) | (cases h; exact .inl rfl) | (cases h; exact .inr ⟨by simp_all,_,rfl⟩)
theorem MO {x y z:AV} {b av} {m:Nat->Option Blk} (h:mu x y z=some (b,av)):alive m av:=by
 unfold mu at h
 repeat' split at h
 all_goals first | (cases h; done) | (cases h; intro g hg; cases hg)
theorem KC {mk:Nat->List (List D)->AV} {k:TK} {d:D} {hs:List Nat} (hmk:∀ k r,∀ h ∈ (mk k r).hs,h ∈ hs):∀ h ∈ (ld1 mk k d).2.hs,h ∈ hs:=by
 intro h hh;cases k <;> simp only [ld1] at hh <;> first | exact hmk _ _ h hh | cases hh
theorem KD {mk:Nat->Nat->List (List D)->AV} {hs:List Nat} (hmk:∀ c k r,∀ h ∈ (mk c k r).hs,h ∈ hs):∀ {ks:List TK} {c:Nat} {ds:List D},∀ v ∈ (ldL mk c ks ds).2,∀ h ∈ v.hs,h ∈ hs:=by
 intro ks
 induction ks with
 | nil=>intro c ds v hv; cases hv
 | cons k ks ih =>
  intro c ds v hv h hh;simp only [ldL,List.mem_cons] at hv;rcases hv with rfl | hv
  ·exact KC (hmk c) h hh
  ·exact ih v hv h hh
theorem oU {m:Nat->Option Blk} {vs:List AV} (h:∀ v ∈ vs,alive m v):alive m (.agg vs):=by
 intro g hg;simp only [AV.hs] at hg;obtain ⟨b,q1,q2⟩:=l9 hg;exact h b q1 g q2
theorem oT {m:Nat->Option Blk} {vs:List AV} (h:alive m (.agg vs)):∀ v ∈ vs,alive m v:=by
 intro v hv g hg;refine h g ?_;simp only [AV.hs]
 induction vs with
 | nil=>cases hv
 | cons x vs ih =>
  simp only [AV.hs.hsL,List.mem_append];rcases List.mem_cons.1 hv with rfl | hv
  ·exact .inl hg
  ·refine .inr (ih (fun g' hg'=>h g' ?_) hv);simp only [AV.hs,AV.hs.hsL,List.mem_append];exact .inr hg'
theorem wI {m:Nat->Option Blk} {mk:Nat->Nat->List (List D)->AV} {hs:List Nat} (hmk:∀ c k r,∀ h ∈ (mk c k r).hs,h ∈ hs) (hm:∀ h ∈ hs,(m h).isSome=true) {b:Bool} {ks:List TK} {ds:List D} :
  alive m (if b then .agg (ldL mk 0 ks ds).2 else (ldL mk 0 ks ds).2.headD .junk):=by
 have key:∀ v ∈ (ldL mk 0 ks ds).2,alive m v:=fun v hv g hg=>hm g (KD hmk v hv g hg);cases b with
 | true=>exact oU key
 | false =>
  simp only [Bool.false_eq_true,if_false];cases hl:(ldL mk 0 ks ds).2 with
  | nil=>intro g hg; cases hg
  | cons v l=>exact key v (by rw [hl]; simp)
theorem Hf {T:Nat->Option TI} {m:Nat->Option Blk} {fields:List (Nat × Nat)} {ρ:Operand->AV}:∀ {ps:List (Nat × Operand)} {cs r},(∀ p ∈ ps,alive m (ρ p.2))->(∀ v ∈ cs,alive m v)->gw T fields ρ ps cs=some r -> ∀ v ∈ r,alive m v:=by
 intro ps
 induction ps with
 | nil=>intro cs r _ h2 h; cases h; exact h2
 | cons p ps ih =>
  intro cs r h1 h2 h;obtain ⟨i,x⟩:=p;simp only [gw] at h;split at h
  ·split at h
   ·split at h
    ·rename_i vs hvs;split at h
     ·refine ih (fun p hp=>h1 p (by simp [hp])) (fun v hv=>?_) h
      simp only [List.mem_append] at hv;rcases hv with hv | hv | hv
      ·exact h2 v (List.mem_of_mem_take hv)
      ·have hx:=h1 (i,x) (by simp)
       simp only at hx;split at hvs
       ·split at hvs
        ·rename_i us hus;cases hvs;rw [hus] at hx;exact oT hx v hv
        ·cases hvs
       ·split at hvs
        ·cases hvs;simp only [List.mem_singleton] at hv;subst hv; exact hx
        ·cases hvs
      ·exact h2 v (List.mem_of_mem_drop hv)
     ·cases h
    ·cases h
   ·cases h
  ·cases h
theorem PM {m:Nat->Option Blk} {vs:List AV} (h:alive m (.tup vs)):∀ v ∈ vs,alive m v:=oT (m:=m) (vs:=vs) h
theorem F5 {T:Nat->Option TI} {d:Nat} {m m':Nat->Option Blk} {ρ:Operand->AV} {o:Oper} {r} (h:calm T true d m ρ o=some r) (ho:∀ x ∈ o.op.operands,alive m' (ρ x))
  (hb:∀ h ty vs,m h=some (.box ty vs) -> ∀ v ∈ vs,alive m' v):alive m' r.av:=by
 have flat:∀ {v:AV},v.hs=[]->alive m' v:=fun hv g hg=>by rw [hv] at hg; cases hg
 have one:∀ {v:AV} {g:Nat} {x:Operand},x ∈ o.op.operands->(ρ x).hs=[g]->v.hs=[g]->alive m' v:=fun hx h1 h2 g' hg'=>by
  rw [h2] at hg';exact ho _ hx g' (by rw [h1]; exact hg')
 obtain ⟨dst,op,ty,pos,after,guard⟩:=o;unfold calm at h;cases op <;> simp only [Out.of,if_true] at h <;> try (cases h; done)
 case move x=>cases h; exact ho x (by simp [Op.operands])
 case assign x=>cases h; exact ho x (by simp [Op.operands])
 case buildSlice t n ps =>
  repeat' split at h
  all_goals first | (cases h; done) | (cases h; exact flat rfl)
 case build t ps =>
  simp only [iF] at h;split at h
  ·split at h
   ·split at h
    ·rename_i cs hcs;cases h;refine oU (Hf (fun p hp=>ho p.2 (by simp [Op.operands]; exact ⟨p.1,by simpa using hp⟩)) (fun v hv=>?_) hcs)
     simp only [List.mem_map] at hv;obtain ⟨k,_,rfl⟩:=hv;exact flat (by cases k <;> rfl)
    ·cases h
   ·cases h
  ·cases h
 case load t x =>
  have hx:=ho x (by simp [Op.operands])
  generalize ρ x=y at h hx;cases y <;> simp only [il,Out.of] at h <;> try (cases h; done)
  case ptr hh off =>
   split at h
   ·rename_i ti _ vs hT hm;split at h
    ·split at h
     ·cases h;exact oU fun v hv=>hb hh _ vs hm v (List.mem_of_mem_drop (List.mem_of_mem_take hv))
     ·cases h
    ·split at h
     ·rename_i v hv;cases h;exact hb hh _ vs hm v (List.mem_of_getElem? hv)
     ·cases h
   ·cases h
  case bptr e ds =>
   split at h
   ·cases h;exact wI (hs:=[]) (fun _ _ _ h hh=>by cases hh) (by simp)
   ·cases h
  case eptr g i off ds =>
   split at h
   ·cases h;exact wI (hs:=[g]) (fun _ _ _ h hh=>by simpa [AV.hs] using hh) (fun h hh=>hx h (by simpa [AV.hs] using hh))
   ·cases h
  case sptr g i j l off k rows =>
   split at h
   ·cases h;exact wI (hs:=[]) (fun _ _ _ h hh=>by cases hh) (by simp)
   ·cases h
 case nilCheck x =>
  have hx:=ho x (by simp [Op.operands])
  generalize ρ x=y at h hx;cases y <;> simp only [Out.of] at h <;> first | (cases h; done) | (cases h; exact hx)
 case binOp op t x y yt =>
  split at h
  ·repeat' split at h
   all_goals first | (cases h; done) | (cases h; exact flat rfl)
  ·split at h
   ·rename_i p q hpq;cases h;unfold lI at hpq
    repeat' split at hpq
    all_goals first | (cases hpq; done) | (cases hpq; exact flat rfl)
   ·obtain ⟨_,rfl⟩:=sf h;exact flat rfl
 case unOp op t x =>
  repeat' split at h
  all_goals first | (cases h; done) | (cases h; exact flat rfl)
 case convert s t x =>
  simp only [kK,Out.of] at h
  repeat' split at h
  all_goals first | (cases h; done) | (cases h; exact flat rfl)
 case makeFunc fn first caps =>
  cases fn <;> (try simp only [] at h) <;> try (cases h; done)
  split at h
  ·cases h;intro g hg;simp only [AV.hs] at hg;obtain ⟨b,q1,q2⟩:=l9 hg;obtain ⟨x,hx,rfl⟩:=List.mem_map.1 q1;exact ho x (by simp [Op.operands]; exact .inr (by simpa using hx)) g q2
  ·cases h
 case slice t x lo hi mx =>
  cases mx <;> simp only [lh,Out.of] at h <;> try (cases h; done)
  repeat' split at h
  all_goals first | (cases h; done) | (cases h; exact flat rfl)
 case fieldAddr t x f =>
  have hx:=ho x (by simp [Op.operands])
  simp only [kQ,Out.of] at h;generalize ρ x=y at h hx
  repeat' split at h
  all_goals first | (cases h; done) | (cases h; exact hx)
 case field t x f =>
  have hx:=ho x (by simp [Op.operands])
  simp only [kP,Out.of] at h;generalize ρ x=y at h hx;split at h
  ·rename_i ti vs hT;split at h
   ·split at h
    ·split at h
     ·split at h
      ·cases h;exact oU fun v hv=>oT hx v (List.mem_of_mem_drop (List.mem_of_mem_take hv))
      ·cases h
     ·split at h
      ·rename_i v hv;cases h;exact oT hx v (List.mem_of_getElem? hv)
      ·cases h
    ·cases h
   ·cases h
  ·cases h
 case indexAddr t x i =>
  have hx:=ho x (by simp [Op.operands])
  simp only [kR,Out.of] at h;generalize ρ x=y at h hx;split at h
  ·cases y <;> (try simp only [] at h) <;> try (cases h; done)
   all_goals split at h
   all_goals first | (cases h; done) | (cases h; first | exact flat rfl | exact hx)
  ·cases h
 case index t x i =>
  repeat' split at h
  all_goals first | (cases h; done) | (cases h; exact flat rfl)
 case extract x i =>
  have hx:=ho x (by simp [Op.operands])
  generalize ρ x=y at h hx;split at h
  ·split at h
   ·rename_i v hv;cases h;exact PM hx v (List.mem_of_getElem? hv)
   ·cases h
  ·cases h
 case call cl =>
  obtain ⟨callee,args,ats⟩:=cl;cases callee <;> (try simp only [] at h) <;> try (cases h; done)
  rename_i b;cases b <;> (try simp only [] at h) <;> try (cases h; done)
  all_goals (try simp only [kU,Out.of] at h)
  all_goals repeat' split at h
  all_goals first | (cases h; done) | (cases h; exact flat rfl)
theorem F7 {T g d m ρ o r} (h:calm T g d m ρ o=some r) (hg:g=true):r.puts=[]:=(uX h).1 hg
theorem LJ {w m β c} {v:Value} (h:pX v=true):RelL w m β c [nV v] [v]:=by
 unfold nV;split
 ·exact .int .lnil
 ·exact .bool .lnil
 ·rename_i s;have:=RelL.str (w:=w) (m:=m) (β:=β) (c:=c) (s:=s.data.toList) (by simpa [pX,maxLen] using h) .lnil
  simpa using this
 ·exact .nil .lnil
 ·split
  ·exact .raw (by assumption) .lnil
  ·exact .junk .lnil
section
variable {P:Program} {T:Nat->Option TI} (hT:∀ t ti,T t=some ti->TOk P t ti) {w:World} {c:Cx} {s:St} {a:Act} {β:Nat->Value} {fp:Nat->List (Nat × Nat)}
 (S:SatI c s a w β fp)
include S
theorem SatI.val {x:Operand} (h:s.cond x=true):RelL w s.m β c [s.val x] [a.eval x]:=by
 cases x with
 | tmp t =>
  simp only [St.cond,St.val,Act.eval] at h ⊢;cases he:s.e t with
  | none=>rw [he] at h; cases h
  | some p =>
   obtain ⟨g,av⟩:=p;rw [he] at h;exact (S.env t g av he).2.1 h
 | const v=>exact LJ h
 | func f=>exact .clo .lnil .lnil
 | global g=>exact .junk .lnil
theorem SatI.alv {x:Operand}:alive s.m (s.val x):=by
 cases x with
 | tmp t =>
  simp only [St.val];cases he:s.e t with
  | none=>intro h hh; cases hh
  | some p =>
   obtain ⟨g,av⟩:=p;simp only;cases g with
   | true=>exact yg ((S.env t true av he).2.1 rfl) av (by simp)
   | false=>exact ((S.env t false av he).2.2 rfl).2
 | const v =>
  intro h hh;simp only [St.val,nV] at hh
  repeat' split at hh
  all_goals cases hh
 | func f=>intro h hh; cases hh
 | global g=>intro h hh; cases hh
theorem SatI.want {ops:Array Oper} {o:Oper} {g:Bool} (h:cS ops o s=some g):Region.wanted o (yielded ops a.tmps)=g:=by
 unfold cS at h;unfold Region.wanted;cases hg:o.guard with
 | none=>rw [hg] at h; exact (Option.some.inj h)
 | some p =>
  obtain ⟨j,want⟩:=p;rw [hg] at h;simp only at h ⊢;cases hd:(ops[j]?).bind (·.dst) with
  | none=>rw [hd] at h; cases h
  | some t =>
   rw [hd] at h;simp only at h;cases he:s.e t with
   | none=>rw [he] at h; cases h
   | some p =>
    obtain ⟨g0,av⟩:=p;rw [he] at h;cases av <;> simp only at h <;> try (cases h; done)
    case bool b =>
     cases h;obtain ⟨h1,h2,h3⟩:=S.env t g0 _ he;unfold yielded;rw [hd];simp only [Option.bind_some];have hs:a.tmps[t]? = some (a.tmps.getD t undef):=by simp [Array.getElem?_eq_getElem h1,Array.getD_eq_getD_getElem?]
     rw [hs];cases g0 with
     | false=>rw [(h3 rfl).1]; simp [undef]
     | true =>
      have:=h2 rfl;generalize a.tmps.getD t undef=v at this;cases this;cases b <;> cases want <;> rfl
theorem SatI.put {o:Oper} {g av v} (ht:∀ t,o.dst=some t->t < c.n) (h1:g=true->RelL w s.m β c [av] [v]) (h2:g=false->v=undef/\alive s.m av) :
  SatI c (s.next o g av []) (a.put o.dst v) w β fp:=by
 unfold St.next Act.put;cases hd:o.dst with
 | none=>exact S
 | some t =>
  have htn:=ht t hd;refine ⟨?_,S.mem,S.nodup,S.disj,S.free,S.fg,S.old,S.os,S.tape,S.output,S.size,S.defers,by simpa using S.tn,S.pin⟩
  intro t' g' av' he;simp only [Array.size_setIfInBounds];by_cases ht':t'=t
  ·subst ht';simp only [upd_same,Option.some.injEq,Prod.mk.injEq] at he;obtain ⟨rfl,rfl⟩:=he;have hsz:t' < a.tmps.size:=by rw [S.tn]; exact htn
   refine ⟨hsz,fun hg=>?_,fun hg=>?_⟩
   ·have:(a.tmps.setIfInBounds t' v).getD t' undef=v:=by simp [Array.getD_eq_getD_getElem?,hsz]
    rw [this]; exact h1 hg
   ·have:(a.tmps.setIfInBounds t' v).getD t' undef=v:=by simp [Array.getD_eq_getD_getElem?,hsz]
    rw [this]; exact h2 hg
  ·replace he:upd s.e t (some (g,av)) t'=some (g',av'):=he;rw [upd_ne _ _ ht'] at he;have:=S.env t' g' av' he;have e:(a.tmps.setIfInBounds t v).getD t' undef=a.tmps.getD t' undef:=by simp [Array.getD_eq_getD_getElem?,Array.getElem?_setIfInBounds,Ne.symm ht']
   rw [e]; exact this
omit S in
theorem MP {w m β c} {x y z:AV} {u v u':Value} {b av} (h:mu x y z=some (b,av)) (hx:RelL w m β c [x] [u])
  (hy:b=true->RelL w m β c [y] [v]) (hz:b=false->RelL w m β c [z] [u']) :
  u = .bool b/\RelL w m β c [av] [if b then v else u']:=by
 unfold mu at h;split at h
 ·cases h;cases hx with
  | bool _ =>
  refine ⟨rfl,?_⟩;cases b with
  | true=>simpa using hy rfl
  | false=>simpa using hz rfl
 ·split at h
  ·rename_i hk;subst hk;cases h;cases hx with
   | bool _ =>
   refine ⟨rfl,?_⟩;cases b with
   | true=>simpa using hy rfl
   | false=>simpa using hz rfl
  ·cases h
 ·cases h;cases hx with
  | bool _ =>
  refine ⟨rfl,?_⟩;cases b with
  | true=>simpa using hy rfl
  | false=>simpa using hz rfl
 ·cases h
include hT in
theorem oP {ops:Array Oper} {mm:Nat->Option Blk} (hm:∀ h b,mm h=some b->s.m h=some b) {o:Oper} {g r} (he:aT T c.n ops mm o s=some (g,r)) (hp:r.pre) :
  Region.wanted o (yielded ops a.tmps)=g/\r.fact /\
   if g then ∃ v w',(execOp a.eval o).run P w = .ok (.value v) w'/\Sat c (s.next o g r.av r.puts) (a.put o.dst v) w'
   else Sat c (s.next o g r.av r.puts) (a.put o.dst undef) w:=by
 unfold aT at he;split at he
 ·cases he
 ·rename_i g0 hg;have hw:=S.want hg;split at he
  ·rename_i hd;have hdn:∀ t,o.dst=some t->t < c.n:=by
    intro t ht;unfold cW at hd;rw [ht] at hd
    simpa using hd
   have main:∀ r0:Out,calm T o.guard.isSome (Oper.hnd o) mm s.val o=some r0->((g0=true->(o.op.operands.toList.all s.cond)=true/\r0.pre)/\gy s.m r0.puts) ->
     (g0=true->r0.fact)/\(if g0 then ∃ v w',(execOp a.eval o).run P w = .ok (.value v) w'/\Sat c (s.next o g0 r0.av r0.puts) (a.put o.dst v) w'
      else Sat c (s.next o g0 r0.av r0.puts) (a.put o.dst undef) w):=by
    intro r0 hr hpre;obtain ⟨hp1,hp2⟩:=hpre;cases g0 with
    | true =>
     obtain ⟨q1,q2⟩:=hp1 rfl;obtain ⟨f,v,w',h1,β',fp',h2,h3⟩:=F9 hT S hm (fun x hx=>S.val (by
       have:=List.all_eq_true.1 q1 x (by simpa using hx)
       exact this)) hr q2 (fun hne=>by
      obtain ⟨p1,f1,av1,puts1⟩:=r0;cases puts1 with
      | nil=>exact absurd rfl hne
      | cons p ps =>
       have:=(uX hr).2;simp only at this;obtain ⟨b,hb⟩:=this;cases hb;exact hp2)
     refine ⟨fun _=>f,?_⟩;simp only [if_true];refine ⟨v,w',h1,β',fp',?_⟩;exact h2.put hdn (fun _=>h3) (by simp)
    | false =>
     refine ⟨by simp,?_⟩
     simp only [Bool.false_eq_true,if_false];have hnp:r0.puts=[]:=F7 hr (by
      cases hgd:o.guard with
      | none=>unfold cS at hg; rw [hgd] at hg; cases hg
      | some _=>rfl)
     rw [hnp];exact ⟨β,fp,S.put hdn (by simp) (fun _=>⟨rfl,F5 (m':=s.m) (by
      have:o.guard.isSome=true:=by
       cases hgd:o.guard with
       | none=>unfold cS at hg; rw [hgd] at hg; cases hg
       | some _=>rfl
      rw [this] at hr; exact hr) (fun _ _=>S.alv) (fun h ty vs hmm v hv=>by
      obtain ⟨_,b,cvs,_,_,q,_⟩:=S.mem h _ (hm h _ hmm);exact yg q v hv)⟩)⟩
   split at he
   ·rename_i x y z hop;split at he
    ·rename_i b av hpk;cases he;refine ⟨hw,trivial,?_⟩;cases g with
     | false =>
      simp only [Bool.false_eq_true,if_false];exact ⟨β,fp,S.put hdn (by simp) (fun _=>⟨rfl,MO hpk⟩)⟩
     | true =>
      obtain ⟨q1,q2⟩:=hp rfl;simp only [if_true];obtain ⟨e1,e2⟩:=MP hpk (S.val q1) (fun hb=>S.val (x:=y) (by simpa [hb] using q2)) (fun hb=>S.val (x:=z) (by simpa [hb] using q2))
      refine ⟨_,w,?_,β,fp,S.put hdn (fun _=>e2) (by simp)⟩
      simp [execOp,hop,e1,asBool]
    ·cases he
   ·split at he
    ·rename_i r0 hr;cases he;exact ⟨hw,main r0 hr hp⟩
    ·cases he
  ·cases he
end
structure Sc where
 env:List (Nat × Bool × AV)
 mem:List (Nat × Blk)
def Sc.st (s:Sc):St:=⟨ai s.env,ai s.mem⟩
def mw (e:Nat->Option (Bool × AV)):List Nat->List (Nat × Bool × AV)
 | []=>[]
 | t :: r=>match e t with
  | some v=>(t,v) :: mw e r
  | none=>mw e r
def St.trim (s:St) (keep:List Nat):St:=⟨ai (mw s.e keep),s.m⟩
structure Inv where
 X:Type
 σ:X->Sc
 φ:X->Prop
 μ:X->Nat
def eW:Code->Nat
 | .region i _ _=>i
 | .seq x _=>eW x
 | .block _ x=>eW x
 | .loop x=>eW x
 | .scope x=>eW x
 | _=>0
structure Wk where
 T:Nat->Option TI
 n:Nat
 keep:List Nat
 inv:Nat->Nat->Inv
 act:Array Oper->Oper->St->(St->Prop)->Prop
 dr:Array Oper->St->(St->Prop)->Prop
 okr:Array Oper->Bool
 le:St->Sc->Prop
def codeOk (okr:Array Oper->Bool):Code->Bool
 | .region _ ops true=>okr ops
 | .seq x y=>codeOk okr x && codeOk okr y
 | .cond _ x y=>codeOk okr x && codeOk okr y
 | .block _ x=>codeOk okr x
 | .loop x=>codeOk okr x
 | .scope x=>codeOk okr x
 | _=>true
def rY (k:Wk) (ops:Array Oper) (mm:Nat->Option Blk) (o:Oper) (s:St) (K:St->Prop):Prop :=
 match aT k.T k.n ops mm o s with
 | some (g,u)=>u.pre/\(u.pre->u.fact->K (s.next o g u.av u.puts))
 | none=>k.act ops o s K
def kh (k:Wk) (ops:Array Oper):List Oper->St->(St->Prop)->Prop
 | [],s,K=>K s
 | o :: r,s,K=>rY k ops s.m o s fun s'=>kh k ops r s' K
def Inv.vc (i:Inv) (le:St->Sc->Prop) (body:(Exit->St->Prop)->St->Prop) (Q:Exit->St->Prop) (s:St):Prop :=
 (∃ t,le s (i.σ t)/\i.φ t) /\
  ∀ t,i.φ t->body (fun e s=>match e with | .normal=>∃ t',le s (i.σ t')/\i.φ t'/\i.μ t' < i.μ t | e=>Q e s) (i.σ t).st
def vc (k:Wk):Code->(Exit->St->Prop)->St->Prop
 | .skip,Q,s=>Q .normal s
 | .seq x y,Q,s=>vc k x (fun e s=>match e with | .normal=>vc k y Q s | e=>Q e s) s
 | .cond o x y,Q,s=>match s.val o with
  | .bool b=>s.cond o=true/\(b=true->vc k x Q s)/\(b=false->vc k y Q s)
  | _=>False
 | .block id x,Q,s=>vc k x (fun e s=>match e with | .exit id'=>if id'=id then Q .normal s else Q (.exit id') s | e=>Q e s) s
 | .exit id,Q,s=>Q (.exit id) s
 | .ret,Q,s=>Q .ret s
 | .region _ ops false,Q,s=>kh k ops ops.toList (s.trim k.keep) (Q .normal)
 | .region _ ops true,Q,s=>k.dr ops (s.trim k.keep) (Q .normal)
 | .loop x,Q,s=>∃ g:Nat,(k.inv (eW x) g).vc k.le (vc k x) Q s
 | _,_,_=>False
theorem ML {e:Nat->Option (Bool × AV)} {t v}:∀ {l:List Nat},ai (mw e l) t=some v->e t=some v:=by
 intro l
 induction l with
 | nil=>intro h; cases h
 | cons x l ih =>
  intro h;unfold mw at h;cases hx:e x with
  | none=>rw [hx] at h; exact ih h
  | some u =>
   rw [hx] at h;simp only [ai] at h;split at h
   ·rename_i hxt;subst hxt;rw [hx]; exact h
   ·exact ih h
theorem Sat.trim {c s a w} (h:Sat c s a w) (keep:List Nat):Sat c (s.trim keep) a w:=by
 obtain ⟨β,fp,S⟩:=h;exact ⟨β,fp,⟨fun t g av ht=>S.env t g av (ML ht),S.mem,S.nodup,S.disj,S.free,S.fg,S.old,S.os,S.tape,S.output,S.size,S.defers,S.tn,S.pin⟩⟩
structure WkOk (P:Program) (k:Wk) (c:Cx):Prop where
 T:∀ t ti,k.T t=some ti->TOk P t ti
 n:c.n=k.n
 act:∀ {ops o s K a w} {next:Act->World->Prop} {Q:Exit->Act->World->Prop},k.act ops o s K->Sat c s a w->(∀ s' a' w',K s'->Sat c s' a' w'->next a' w') ->
  if Region.wanted o (yielded ops a.tmps) then o.wp P a w next Q else next (a.put o.dst undef) w
 dr:∀ {id ops s K a w} {Q:Exit->Act->World->Prop},k.okr ops=true->k.dr ops s K->Sat c s a w->(∀ s' a' w',K s'->Sat c s' a' w'->Q .normal a' w')->(Code.region id ops true).wp P Q a w
 le:∀ {s t a w},k.le s t->Sat c s a w->Sat c t.st a w
section
variable {P:Program} {k:Wk} {c:Cx} (H:WkOk P k c)
include H
theorem Eh {ops o s K a w} {next:Act->World->Prop} {Q:Exit->Act->World->Prop} (h:rY k ops s.m o s K) (S:Sat c s a w) (hK:∀ s' a' w',K s'->Sat c s' a' w'->next a' w') :
  if Region.wanted o (yielded ops a.tmps) then o.wp P a w next Q else next (a.put o.dst undef) w:=by
 unfold rY at h;split at h
 ·rename_i g u he;obtain ⟨β,fp,S⟩:=S;rw [<- H.n] at he;obtain ⟨q1,q2,q3⟩:=oP H.T S (fun _ _ h=>h) he h.1;rw [q1];cases g with
  | false =>
   simp only [Bool.false_eq_true,if_false] at q3 ⊢;exact hK _ _ _ (h.2 h.1 q2) q3
  | true =>
   simp only [if_true] at q3 ⊢;obtain ⟨v,w',e,S'⟩:=q3;unfold Oper.wp;rw [e];exact hK _ _ _ (h.2 h.1 q2) S'
 ·exact H.act h S hK
theorem P5 {ops} {Q:Exit->Act->World->Prop}:∀ {l s K a w},kh k ops l s K->Sat c s a w->(∀ s' a' w',K s'->Sat c s' a' w'->Q .normal a' w')->wpList P ops Q l a w:=by
 intro l
 induction l with
 | nil=>intro s K a w h S hK; exact hK _ _ _ h S
 | cons o l ih =>
  intro s K a w h S hK;have:=Eh H (next:=wpList P ops Q l) (Q:=Q) h S (fun s' a' w' h' S'=>ih h' S' hK);unfold wpList;split
  ·rename_i hw; rw [if_pos hw] at this; exact .inl this
  ·rename_i hw; rw [if_neg hw] at this; exact this
def lift (c:Cx) (Q:Exit->St->Prop):Exit->Act->World->Prop:=fun e a w=>∃ s,Q e s/\Sat c s a w
theorem Qe:∀ (code:Code) {Q:Exit->St->Prop} {s a w},codeOk k.okr code=true->vc k code Q s->Sat c s a w->code.wp P (lift c Q) a w:=by
 intro code
 induction code with
 | skip=>intro Q s a w _ h S; exact wp_skip ⟨s,h,S⟩
 | seq x y ihx ihy =>
  intro Q s a w hc h S;simp only [codeOk,Bool.and_eq_true] at hc;refine wp_seq (wp_mono (ihx hc.1 h S) ?_);rintro e a' w' ⟨s',hq,S'⟩;cases e with
  | normal=>exact ihy hc.2 hq S'
  | exit id=>exact ⟨s',hq,S'⟩
  | goto l=>exact ⟨s',hq,S'⟩
  | ret=>exact ⟨s',hq,S'⟩
  | panic ch=>exact ⟨s',hq,S'⟩
  | outgrown=>exact ⟨s',hq,S'⟩
 | cond o x y ihx ihy =>
  intro Q s a w hc h S;simp only [codeOk,Bool.and_eq_true] at hc;unfold vc at h;split at h
  ·rename_i b hb;obtain ⟨h1,h2,h3⟩:=h;obtain ⟨β,fp,S0⟩:=S;have hv:=S0.val h1;rw [hb] at hv;have e:a.eval o = .bool b:=by
    generalize a.eval o=v at hv;cases hv with
    | bool _=>rfl
   exact wp_cond_split e (fun hb=>ihx hc.1 (h2 hb) ⟨β,fp,S0⟩) (fun hb=>ihy hc.2 (h3 hb) ⟨β,fp,S0⟩)
  ·exact h.elim
 | block id x ih =>
  intro Q s a w hc h S;refine wp_block (wp_mono (ih hc h S) ?_);rintro e a' w' ⟨s',hq,S'⟩;cases e with
  | exit id' =>
   simp only [Exit.inBlock];simp only at hq;split
   ·rename_i hid; rw [if_pos hid] at hq; exact ⟨s',hq,S'⟩
   ·rename_i hid; rw [if_neg hid] at hq; exact ⟨s',hq,S'⟩
  | normal=>exact ⟨s',hq,S'⟩
  | goto l=>exact ⟨s',hq,S'⟩
  | ret=>exact ⟨s',hq,S'⟩
  | panic ch=>exact ⟨s',hq,S'⟩
  | outgrown=>exact ⟨s',hq,S'⟩
 | exit id=>intro Q s a w _ h S; exact wp_exit ⟨s,h,S⟩
 | ret=>intro Q s a w _ h S; exact wp_ret ⟨s,h,S⟩
 | region id ops b =>
  intro Q s a w hc h S;cases b with
  | false=>exact wp_region_list (P5 H h (S.trim _) fun s' a' w' hq S'=>⟨s',hq,S'⟩)
  | true=>exact H.dr hc h (S.trim _) fun s' a' w' hq S'=>⟨s',hq,S'⟩
 | loop x ih =>
  intro Q s a w hc h S;obtain ⟨g,⟨t0,h2,h1⟩,h3⟩:=h;refine wp_loop_ghost (fun n a w=>∃ t,(k.inv (eW x) g).φ t/\(k.inv (eW x) g).μ t=n/\Sat c ((k.inv (eW x) g).σ t).st a w) _ ⟨t0,h1,rfl,H.le h2 S⟩ ?_;rintro n a w ⟨t,p1,p2,p3⟩;refine wp_mono (ih hc (h3 t p1) p3) ?_;rintro e a' w' ⟨s',hq,S'⟩;cases e with
  | normal =>
   obtain ⟨t',q3,q1,q2⟩:=hq;exact ⟨_,p2 ▸ q2,t',q1,rfl,H.le q3 S'⟩
  | exit id=>exact ⟨s',hq,S'⟩
  | goto l=>exact ⟨s',hq,S'⟩
  | ret=>exact ⟨s',hq,S'⟩
  | panic ch=>exact ⟨s',hq,S'⟩
  | outgrown=>exact ⟨s',hq,S'⟩
 | _=>intro Q s a w _ h S; exact h.elim
end
theorem World.cell_of {w:World} {b o:Nat} {cs ty fr} (h:w.heap[b]? = some (.cells cs ty fr)):w.cell? ⟨b,o,none⟩=cs[o]?:=by simp [World.cell?,h]
theorem fT (b:Nat):∀ (vs:List Value) (o:Nat) (w:World) (L:List Value) (ty:TypeId) (fr:Nat × Nat),w.heap[b]? = some (.cells L.toArray ty fr)->o+vs.length<=L.length ->
  (w.setCells b o vs).heap[b]? = some (.cells (L.take o++(vs++L.drop (o+vs.length))).toArray ty fr)/\(∀ k,k ≠ b->(w.setCells b o vs).heap[k]? = w.heap[k]?) /\
  (w.setCells b o vs).heap.size=w.heap.size/\(w.setCells b o vs).os=w.os/\(w.setCells b o vs).tape=w.tape/\(w.setCells b o vs).output=w.output:=by
 intro vs
 induction vs with
 | nil=>intro o w L ty fr hb hl; simp [World.setCells,hb]
 | cons v vs ih =>
  intro o w L ty fr hb hl;simp only [List.length_cons] at hl;have hb':(w.setCell ⟨b,o,none⟩ v).heap[b]? = some (.cells (L.set o v).toArray ty fr):=by simp [World.setCell,Array.getElem?_modify,hb]
  obtain ⟨q1,q2,q3,q4,q5,q6⟩:=ih (o+1) (w.setCell ⟨b,o,none⟩ v) (L.set o v) ty fr hb' (by simp; omega)
  refine ⟨?_,fun k hk=>?_,?_,q4,q5,q6⟩
  ·rw [World.setCells,q1]
   congr 2
   have e1:(L.set o v).take (o+1)=L.take o++[v]:=by
    rw [List.set_eq_take_append_cons_drop,if_pos (by omega),List.take_append]
    simp [List.take_take,show min o L.length=o by omega]
   have e2:(L.set o v).drop (o+1+vs.length)=L.drop (o+1+vs.length):=List.drop_set_of_lt (by omega)
   rw [e1,e2];simp [show o+1+vs.length=o+(vs.length+1) by omega]
  ·rw [World.setCells,q2 k hk];simp [World.setCell,Array.getElem?_modify,Ne.symm hk]
  ·rw [World.setCells,q3]; simp [World.setCell]
theorem kl (β:Nat->Value) (h:Nat) (f:List (Nat × Nat)) (ty ty':Nat) (us us':List AV):Ob β h f (.box ty us)=Ob β h f (.box ty' us'):=by
 unfold Ob
 congr 1
 cases β h <;> try rfl
 rename_i o;cases o <;> rfl
section
variable {P:Program} {T:Nat->Option TI} (hT:∀ t ti,T t=some ti->TOk P t ti) {w:World} {c:Cx} {s:St} {a:Act} {β:Nat->Value} {fp:Nat->List (Nat × Nat)}
 (S:SatI c s a w β fp)
include S
theorem SatI.setBox {h ty:Nat} {us us':List AV} {b:Nat} {cvs':List Value} {w':World} (hm:s.m h=some (.box ty us)) (hb:β h = .pointer (some ⟨b,0,none⟩))
  (h1:w'.heap[b]? = some (.cells cvs'.toArray ty (0,0))) (h2:∀ k,k ≠ b->w'.heap[k]? = w.heap[k]?) (h3:w'.heap.size=w.heap.size) (h4:w'.os=w.os) (h5:w'.tape=w.tape) (h6:w'.output=w.output)
  (h7:RelL w s.m β c us' cvs') (h8:∀ u ∈ cvs',u.oneCell'=true) :
  SatI c ⟨s.e,upd s.m h (some (.box ty us'))⟩ a w' β fp:=by
 have hbx:Bx s.m β b:=⟨h,ty,us,hm,hb⟩;have hob:b ∈ Ob β h (fp h) (.box ty us):=by simp [Ob,hb]
 have key:∀ k bk,upd s.m h (some (.box ty us')) k=some bk->(k=h/\bk = .box ty us') \/ (k ≠ h/\s.m k=some bk):=by
  intro k bk hk;by_cases he:k=h
  ·subst he; rw [upd_same] at hk; exact .inl ⟨rfl,(Option.some.inj hk).symm⟩
  ·rw [upd_ne _ _ he] at hk; exact .inr ⟨he,hk⟩
 have hne:∀ k bk,k ≠ h->s.m k=some bk -> ∀ x ∈ Ob β k (fp k) bk,x ≠ b:=by
  intro k bk hk hmk x hx e;subst e;exact S.disj k h bk _ hmk hm hk x hx hob
 have T:Step w s.m β w' (upd s.m h (some (.box ty us'))) β:=by
  refine ⟨fun x hx hl=>.of_same (h2 _ fun e=>hl.1 (e ▸ hbx)),fun x hx hl=>⟨?_,?_⟩,?_,?_,fun _ _ _ _=>rfl,?_⟩
  ·rintro ⟨k,t,vs,hk,hkb⟩;rcases key k _ hk with ⟨rfl,e⟩ | ⟨_,hk'⟩
   ·exact hl.1 ⟨k,ty,us,hm,hkb⟩
   ·exact hl.1 ⟨k,t,vs,hk',hkb⟩
  ·intro k e kk d R n cc hk hkb;rcases key k _ hk with ⟨_,e⟩ | ⟨_,hk'⟩
   ·cases e
   ·exact hl.2 k e kk d R n cc hk' hkb
  ·intro k hk;by_cases he:k=h
   ·subst he; simp
   ·rw [upd_ne _ _ he]; exact hk
  ·intro k e kk d R' hs hk;rcases key k _ hk with ⟨_,e⟩ | ⟨_,hk'⟩
   ·cases e
   ·exact ⟨d,R',hk',rfl,rfl,fun i j e2 k2 rs r' q1 q2=>⟨r',q1,q2⟩⟩
  ·intro k e kk d R i j r x b' n cc hk hex hkb _ _ hlt;have hk0:k ≠ h:=by intro e; subst e; rw [hm] at hk; cases hk
   have:b' ≠ b:=hne k _ hk0 hk b' (by simp [Ob,hkb])
   exact World.cell?_of_block (w:=w) (h2 b' this)
 refine ⟨?_,?_,?_,?_,?_,S.fg,?_,h4.trans S.os,h5.trans S.tape,h6.trans S.output,by rw [h3]; exact S.size,S.defers,S.tn,fun p hp=>⟨(S.pin p hp).1,T.has _ (S.pin p hp).2⟩⟩
 ·intro t g av ht;obtain ⟨q1,q2,q3⟩:=S.env t g av ht;exact ⟨q1,fun hg=>(q2 hg).step T,fun hg=>⟨(q3 hg).1,(q3 hg).2.mono T.has⟩⟩
 ·intro k bk hk;rcases key k bk hk with ⟨rfl,rfl⟩ | ⟨hk0,hk'⟩
  ·exact ⟨(S.mem k _ hm).1,b,cvs',hb,h1,h7.step T,h8⟩
  ·have hb0:=S.mem k bk hk';have hnb:=hne k bk hk0 hk';cases bk with
   | dead=>exact hb0
   | own e kk dp R =>
    obtain ⟨p1,p2,p3⟩:=hb0;refine ⟨p1,p2,?_⟩;rcases p3 with p3 | ⟨b',cap,cs,f0,q1,q2,q3,q4,q5,q6,q7,q8⟩
    ·exact .inl p3
    ·have hb':b' ≠ b:=hnb b' (by simp [Ob,q1])
     refine .inr ⟨b',cap,cs,f0,q1,?_,q3,q4,q5,q6.keep fun x hx=>?_,q7,fun hdp=>⟨(q8 hdp).1,fun x hx=>?_⟩⟩
     ·rw [h2 b' hb']; exact q2
     ·have hx1:x.1 ≠ b:=by
       cases dp with
       | true=>exact hnb x.1 (by simp only [Ob,q1,List.mem_append,List.mem_map]; exact .inr ⟨x,by rw [q7 rfl]; exact hx,rfl⟩)
       | false=>exact fun e=>(((q8 rfl).2 x hx).1).1 (e ▸ hbx)
      exact ⟨.of_same (h2 _ hx1),fun _=>h2 _ hx1⟩
     ·have:=(q8 hdp).2 x hx;exact ⟨T.lim x (q6.lt x hx) this.1,this.2⟩
   | box ty2 vs2 =>
    obtain ⟨p0,b',cv,q1,q2,q3,q4⟩:=hb0;have hb':b' ≠ b:=hnb b' (by simp [Ob,q1])
    refine ⟨p0,b',cv,q1,?_,q3.step T,q4⟩;rw [h2 b' hb']; exact q2
 ·intro k bk hk;rcases key k bk hk with ⟨rfl,rfl⟩ | ⟨_,hk'⟩
  ·rw [kl β k _ ty ty us' us]; exact S.nodup k _ hm
  ·exact S.nodup k bk hk'
 ·intro k k' bk bk' hk hk' hne' x hx hx';rcases key k bk hk with ⟨rfl,rfl⟩ | ⟨_,q⟩ <;> rcases key k' bk' hk' with ⟨rfl,rfl⟩ | ⟨_,q'⟩
  ·exact hne' rfl
  ·exact S.disj k k' _ bk' hm q' hne' x (kl β k _ ty ty us' us ▸ hx) hx'
  ·exact S.disj k k' bk _ q hm hne' x hx (kl β k' _ ty ty us' us ▸ hx')
  ·exact S.disj k k' bk bk' q q' hne' x hx hx'
 ·intro k bk hk x hx;rcases key k bk hk with ⟨rfl,rfl⟩ | ⟨_,q⟩
  ·exact S.free k _ hm x (kl β k _ ty ty us' us ▸ hx)
  ·exact S.free k bk q x hx
 ·intro x hG;obtain ⟨q1,q2⟩:=S.old x hG;refine ⟨q1,(h2 x fun e=>?_).trans q2⟩;subst e;exact S.free h _ hm x hob hG
end
def nZ (ti:TI) (x:AV):Option (List AV) :=
 match (if ti.agg then (match x with | .agg vs=>some vs | _=>none) else (if x.one then some [x] else none)) with
 | some vs=>if vs.length=ti.cells.length then some vs else none
 | none=>none
theorem BZ {w m β c ti x v vs} (hx:RelL w m β c [x] [v]) (h:nZ ti x=some vs):vs.length=ti.cells.length /\ ∃ uv,v.cells=uv.toArray/\RelL w m β c vs uv /\ ∀ u ∈ uv,u.oneCell'=true:=by
 unfold nZ at h;split at h
 ·rename_i us hus;split at h
  ·rename_i hl;cases h;refine ⟨hl,?_⟩;split at hus
   ·split at hus
    ·cases hus;cases hx with
     | agg q1 q2 _=>exact ⟨_,rfl,q1,q2⟩
    ·cases hus
   ·split at hus
    ·rename_i ho;cases hus;obtain ⟨q1,q2⟩:=nX hx ho;exact ⟨[v],q2,hx,by simpa using q1⟩
    ·cases hus
  ·cases h
 ·cases h
def j5 (T:Nat->Option TI) (t:Nat) (s:St) (h off:Nat) (x:AV) (K:St->Prop):Prop :=
 match T t,s.m h with
 | some ti,some (.box ty us)=>match nZ ti x with
  | some vs=>off+vs.length<=us.length/\K ⟨s.e,upd s.m h (some (.box ty (us.take off++(vs++us.drop (off+vs.length)))))⟩
  | none=>False
 | _,_=>False
section
variable {P:Program} {T:Nat->Option TI} (hT:∀ t ti,T t=some ti->TOk P t ti) {w:World} {c:Cx} {s:St} {a:Act} {β:Nat->Value} {fp:Nat->List (Nat × Nat)}
 (S:SatI c s a w β fp)
include hT S
theorem M7 {t h off x v K p} (hp:RelL w s.m β c [.ptr h off] [p]) (hx:RelL w s.m β c [x] [v]) (hk:j5 T t s h off x K) :
  ∃ w' s',(Instr.storeAt t p v).run P w = .ok () w'/\K s'/\SatI c s' a w' β fp:=by
 unfold j5 at hk;split at hk
 ·rename_i ti ty us ht hm;split at hk
  ·rename_i vs hvs;obtain ⟨hl,uv,e1,e2,e3⟩:=BZ hx hvs;obtain ⟨_,b,cvs,q1,q2,q3,q4⟩:=S.mem h _ hm;cases hp with
   | ptr _ hb _ =>
   rw [q1] at hb;cases hb;have hlu:=e2.length;have hlc:=q3.length;have hle:off+uv.length<=cvs.length:=by rw [<- hlu,<- hlc]; exact hk.1
   have hcell:∀ j,j < uv.length->(w.cell? ⟨b,off+j,none⟩).isSome=true/\w.frozen? ⟨b,off+j,none⟩=false:=by
    intro j hj;refine ⟨?_,?_⟩
    ·rw [World.cell_of q2]; simp; omega
    ·simp [World.frozen?,q2]
   obtain ⟨r1,r2,r3,r4,r5,r6⟩:=fT b uv off w cvs ty (0,0) q2 hle;refine ⟨w.setCells b off uv,_,?_,hk.2,S.setBox hm q1 r1 r2 r3 r4 r5 r6 ?_ ?_⟩
   ·have hst:=run_storeCells_cells (P:=P) b off uv 0 w (fun j hj=>by simpa using (hcell j hj).1) (fun j hj=>by simpa using (hcell j hj).2) e3
    simp only [Nat.add_zero] at hst;have hsz:=(hT _ _ ht).size w;simp only [Instr.storeAt,Instr.sureAddr,storeVar,Sem.run_bind,Sem.run_pure,Result.andThen_ok,hsz,e1];simp [<- hl,hlu,hst]
   ·have:=((q3.split off).1).append (e2.append ((q3.split (off+vs.length)).2))
    rwa [hlu] at this ⊢
   ·intro u hu;simp only [List.mem_append] at hu;rcases hu with hu | hu | hu
    ·exact q4 u (List.mem_of_mem_take hu)
    ·exact e3 u hu
    ·exact q4 u (List.mem_of_mem_drop hu)
  ·exact hk.elim
 ·exact hk.elim
end
def x0 (P:Program) (f tB t t9:Nat):Prop:=P.underlying t9=some .string /\ ∀ (w w1 w2:World) (b:Nat) (pv v v' v2:Value) (s:ByteArray),w.heap[b]? = some (.cells #[pv,v] tB (0,0)) ->
 ((pv = .pointer none/\w1=w.setCell ⟨b,0,none⟩ (.pointer (some ⟨b,0,none⟩))) \/ (pv = .pointer (some ⟨b,0,none⟩)/\w1=w))->w1.heap[b]? = some (.cells #[.pointer (some ⟨b,0,none⟩),v] tB (0,0)) ->
 (Builtin.append_ #[t,t9] t #[v,.string s]).run P w1 = .ok v' w2->w2.heap[b]? = some (.cells #[.pointer (some ⟨b,0,none⟩),v2] tB (0,0))->(∃ ao n cp,v = .slice ao n cp)->(∃ ao n cp,v' = .slice ao n cp) ->
 Calls P f #[.pointer (some ⟨b,0,none⟩),.string s] w fun e w'=>e = .returned (.tuple #[.int .i64 s.size,.nilIface])/\w'=w2.setCell ⟨b,1,none⟩ v'
def xZ (P:Program) (f tB te:Nat):Prop:=∀ (w:World) (b:Nat) (pv v:Value) (l:List UInt8),w.heap[b]? = some (.cells #[pv,v] tB (0,0)) ->
 ((v = .slice none 0 0/\l=[]) \/ ∃ g cap cs,v = .slice (some ⟨g,0,none⟩) l.length cap/\w.heap[g]? = some (.cells cs te (0,0))/\l.length<=cs.size/\l.length<=cap/\cap<=maxLen /\ ∀ (j:Nat) x,l[j]? = some x->cs[j]? = some (.int .u8 x.toNat)) ->
 Calls P f #[.pointer (some ⟨b,0,none⟩)] w fun e w'=>e = .returned (.string ⟨l.toArray⟩)/\w.heap.size<=w'.heap.size/\w'.os=w.os/\w'.tape=w.tape/\w'.output=w.output /\
  ∀ x,x < w.heap.size->w'.heap[x]? = w.heap[x]? \/ ∃ n cap cs fr,v = .slice (some ⟨x,0,none⟩) n cap/\w.heap[x]? = some (.cells cs te (0,0))/\w'.heap[x]? = some (.cells cs te fr)
def DW (P:Program) (f:Nat):Nat × Nat × Nat × Nat->Prop
 | (0,_)=>True
 | (1,tB,t,t9)=>x0 P f tB t t9
 | (2,tB,te,_)=>xZ P f tB te
 | _=>True
structure Con where
 A:Type
 X:Type
 n:Nat
 args:A->List AV
 boxes:A->List (Nat × Nat × List AV)
 pre:A->Prop
 post:A->X->Prop
 res:A->X->AV
 fin:A->X->List (Nat × Blk)
 owns:A->List (Nat × Nat × Nat × List (List D)):=fun _=>[]
 lends:List Nat:=[]
 mv:Bool:=false
 nob:Bool:=true
 sube:Nat:=0
 kindly:Bool:=false
 bld:Nat × Nat × Nat × Nat:=(0,0,0,0)
 need:World->Prop:=fun _=>True
 bty:List Nat:=[]
def Con.start (k:Con) (a:k.A):St :=
 ⟨fun t=>((k.args a)[t]?).map fun v=>(true,v),ai ((k.boxes a).map fun b=>(b.1,Blk.box b.2.1 b.2.2))⟩
def Con.start2 (k:Con) (a:k.A):St :=
 ⟨fun t=>((k.args a)[t]?).map fun v=>(true,v),ai (((k.boxes a).map fun b=>(b.1,Blk.box b.2.1 b.2.2))++((k.owns a).map fun b=>(b.1,Blk.own b.2.1 b.2.2.1 true b.2.2.2)))⟩
def Con.pins2 (k:Con) (a:k.A) (β:Nat->Value):List (Nat × Value):=((k.boxes a).map fun b=>(b.1,β b.1))++k.lends.map fun i=>(i,β i)
def Con.pk (k:Con) (a:k.A):List Nat:=(k.boxes a).map (·.1)++k.lends
theorem Con.start2_eq (k:Con) (a:k.A) (h:k.owns a=[]):k.start2 a=k.start a:=by simp [Con.start2,Con.start,h]
def Con.end_ (k:Con) (a:k.A) (x:k.X):St:=⟨fun _=>none,ai (k.fin a x)⟩
def Kn (K:World->Prop) (c:Cx):Prop:=∀ w:World,(∀ b,c.G b->w.heap[b]? = c.w0.heap[b]?)->K w
theorem Kn.to {K:World->Prop} {c c':Cx} (h:Kn K c) (hG:∀ b,c.G b->c'.G b/\c'.w0.heap[b]? = c.w0.heap[b]?):Kn K c' :=
 fun w hw=>h w fun b hb=>(hw b (hG b hb).1).trans (hG b hb).2
theorem Kn.mono {K K':World->Prop} {c:Cx} (h:Kn K c) (hK:∀ w,K w->K' w):Kn K' c:=fun w hw=>hK w (h w hw)
structure Has (P:Program) (f:Nat) (k:Con):Prop where
 enter:∀ args w,(callFunc f args).run P w = .ok (.enter f args) w
 tot:∀ a,∃ x,k.post a x
 nob:k.nob=true -> ∀ a,k.boxes a=[]
 calls:∀ (a:k.A),k.pre a -> ∀ (c:Cx),Kn k.need c -> ∀ (vs:List Value) (β:Nat->Value) (fp:Nat->List (Nat × Nat)),c.n=k.n->c.pins=k.pins2 a β -> vs.length=(k.args a).length->vs.length<=k.n ->
  SatI c (k.start2 a) ⟨vs.toArray++Array.replicate (k.n - vs.length) undef,[]⟩ c.w0 β fp ->
  Calls P f vs.toArray c.w0 fun e w'=>∃ x,k.post a x /\ ∃ v,e = .returned v /\ ∃ β' fp' a',SatI c (k.end_ a x) a' w' β' fp' /\
   RelL w' (ai (k.fin a x)) β' c [k.res a x] [v]
 bldr:DW P f k.bld
 bt:k.bty=[] \/ ∀ a,(∀ b ∈ k.boxes a,b.2.1 ∈ k.bty) /\ ∀ x,∀ p ∈ k.fin a x,∀ ty vs,p.2 = .box ty vs->ty ∈ k.bty:=by exact .inl rfl
structure Pass where
 p:Prop
 hs:List (Nat × Nat)
 ext:Bool
 ow:List (Nat × List (List D))
def js:AV->AV->Option Pass
 | .int k n,.int k' n'=>some ⟨k=k'/\n=n',[],true,[]⟩
 | .bool b,.bool b'=>some ⟨b=b',[],true,[]⟩
 | .str s,.str s'=>some ⟨s=s',[],true,[]⟩
 | .raw v,.raw v'=>some ⟨v=v',[],true,[]⟩
 | .sl true _ rows,.nil=>some ⟨rows=[],[],true,[]⟩
 | .sl true k rows,.sl e k' r=>some ⟨k=k'/\rows=r,[],e,[]⟩
 | .sl true k rows,.own h k' r=>some ⟨k=k'/\rows=r,[],true,[(h,r)]⟩
 | .sl true k rows,.sub _ _ _ k' r=>some ⟨k=k'/\rows=r,[],false,[]⟩
 | .ptr i o,.ptr h o'=>some ⟨o=o',[(i,h)],true,[]⟩
 | _,_=>none
def iw:List AV->List AV->Option Pass
 | [],[]=>some ⟨True,[],true,[]⟩
 | x :: xs,y :: ys=>match js x y,iw xs ys with
  | some a,some b=>some ⟨a.p/\b.p,a.hs++b.hs,a.ext && b.ext,a.ow++b.ow⟩
  | _,_=>none
 | _,_=>none
def j2:AV->AV->Option Pass
 | .agg xs,.agg ys=>iw xs ys
 | .clo f xs,.clo g ys=>if f=g then iw xs ys else none
 | x,y=>js x y
def fj:List AV->List AV->Option Pass
 | [],[]=>some ⟨True,[],true,[]⟩
 | x :: xs,y :: ys=>match j2 x y,fj xs ys with
  | some a,some b=>some ⟨a.p/\b.p,a.hs++b.hs,a.ext && b.ext,a.ow++b.ow⟩
  | _,_=>none
 | _,_=>none
def eF (m:Nat->Option Blk) (ρ:List (Nat × Nat)):List (Nat × Nat × List AV)->Option Pass
 | []=>some ⟨True,[],true,[]⟩
 | (i,ty,vs) :: r=>match ai ρ i with
  | some h=>match m h,eF m ρ r with
   | some (.box ty' us),some b=>match iw vs us with
    | some a=>some ⟨ty=ty'/\a.p/\b.p,a.hs++b.hs,(a.ext && a.ow.isEmpty) && b.ext,[]⟩
    | none=>none
   | _,_=>none
  | none=>none
def kd:D->Nat
 | .int .i8 _=>1 | .int .i16 _=>2 | .int .i32 _=>3 | .int .i64 _=>4
 | .int .u8 _=>5 | .int .u16 _=>6 | .int .u32 _=>7 | .int .u64 _=>8
 | .bool _=>9
 | .str _=>10
 | _=>0
def clash (o r:List (List D)):Bool:=o.all (fun q=>q.all fun d=>kd d != 0) && r.all fun q'=>!q'.isEmpty && q'.all fun d'=>kd d' != 0 && o.all fun q=>q.all fun d=>kd d != kd d'
def dm (kindly:Bool) (m:Nat->Option Blk) (ext:Bool) (ow:List (Nat × List (List D))) (r:List (List D)):Bool :=
 ext && (ow.isEmpty || kindly && ow.all fun p=>(match m p.1 with | some (.own ..)=>true | _=>false) && clash p.2 r)
def iD (X:List (List D)->Bool) (ρ:Nat->Nat):AV->AV
 | .int k n=>.int k n
 | .bool b=>.bool b
 | .str s=>.str s
 | .raw v=>.raw v
 | .nil=>.nil
 | .sl true k r=>.sl (X r) k r
 | .sl false k r=>.sl false k r
 | .own j k r=>.own (ρ j) k r
 | .ptr j o=>.ptr (ρ j) o
 | _=>.junk
def i7 (X:List (List D)->Bool) (ρ:Nat->Nat):AV->AV
 | .agg vs=>.agg (vs.map (iD X ρ))
 | v=>iD X ρ v
def ku (X:List (List D)->Bool) (ρ:Nat->Nat):AV->AV
 | .tup vs=>.tup (vs.map (i7 X ρ))
 | v=>i7 X ρ v
def eA (X:List (List D)->Bool) (ρ:Nat->Nat):Blk->Blk
 | .own e k d R=>.own e k d R
 | .box ty vs=>.box ty (vs.map (iD X ρ))
 | .dead=>.dead
def rho (ρ:List (Nat × Nat)) (d:Nat) (j:Nat):Nat:=match ai ρ j with | some h=>h | none=>d+j
def over {α γ:Type} (f:Nat -> γ) (R:Nat->Nat) (g:Nat -> α -> γ):List (Nat × α)->Nat -> γ
 | []=>f
 | (j,b) :: r=>upd (over f R g r) (R j) (g j b)
def fQ (X:List (List D)->Bool) (ρ:List (Nat × Nat)) (d:Nat) (m:Nat->Option Blk) (l:List (Nat × Blk)):Nat->Option Blk :=
 over m (rho ρ d) (fun _ b=>some (eA X (rho ρ d) b)) l
theorem df {α γ:Type} {f:Nat -> γ} {R:Nat->Nat} {g:Nat -> α -> γ}:∀ {l:List (Nat × α)},(l.map fun p=>R p.1).Nodup -> ∀ {j b},(j,b) ∈ l->over f R g l (R j)=g j b:=by
 intro l
 induction l with
 | nil=>intro _ j b h; cases h
 | cons p l ih =>
  intro hn j b h;obtain ⟨i,x⟩:=p;simp only [List.map_cons,List.nodup_cons,List.mem_map,not_exists,not_and] at hn;rcases List.mem_cons.1 h with h | h
  ·cases h; simp [over]
  ·simp only [over];rw [upd_ne _ _ (fun e=>hn.1 (j,b) h e)];exact ih hn.2 h
theorem cC {α γ:Type} {f:Nat -> γ} {R:Nat->Nat} {g:Nat -> α -> γ}:∀ {l:List (Nat × α)} {h},(∀ p ∈ l,R p.1 ≠ h)->over f R g l h=f h:=by
 intro l
 induction l with
 | nil=>intro h _; rfl
 | cons p l ih =>
  intro h hn;obtain ⟨i,x⟩:=p;simp only [over];rw [upd_ne _ _ (Ne.symm (hn (i,x) (by simp)))]
  exact ih fun p hp=>hn p (by simp [hp])
theorem Cx.may_and1 {c:Cx} {e f:Bool} {x} (h:c.may e x):c.may (e && f) x:=by
 rcases h with h | ⟨rfl,h⟩
 ·exact .inl h
 ·exact .inr ⟨rfl,h⟩
theorem Cx.may_and2 {c:Cx} {e f:Bool} {x} (h:c.may f x):c.may (e && f) x:=by
 rcases h with h | ⟨rfl,h⟩
 ·exact .inl h
 ·exact .inr ⟨by simp,h⟩
def OwPl (w:World) (m:Nat->Option Blk) (β:Nat->Value) (ow:List (Nat × List (List D))) (z:Nat × Nat):Prop :=
 ∃ p ∈ ow,∃ k v t f,(∀ e k' d R,m p.1=some (.own e k' d R)->v = β p.1/\k'=k)/\RdL false w [.sl t k p.2] [v] f/\z ∈ f
theorem OwPl.mono {w m β ow ow' z} (h:OwPl w m β ow z) (hs:∀ p ∈ ow,p ∈ ow'):OwPl w m β ow' z:=by
 obtain ⟨p,hp,h⟩:=h;exact ⟨p,hs p hp,h⟩
def Cx.mayO (c:Cx) (w:World) (m:Nat->Option Blk) (β:Nat->Value) (e:Bool) (ow:List (Nat × List (List D))) (z:Nat × Nat):Prop :=
 c.may e z \/ (c.may false z/\OwPl w m β ow z)
theorem Cx.may_false {c:Cx} {e:Bool} {x} (h:c.may e x):c.may false x:=by
 rcases h with h | ⟨_,h⟩
 ·exact .inl h
 ·exact .inr ⟨rfl,h⟩
theorem Cx.mayO_false {c:Cx} {w m β e ow z} (h:c.mayO w m β e ow z):c.may false z:=by
 rcases h with h | h
 ·exact Cx.may_false h
 ·exact h.1
theorem Cx.mayO_1 {c:Cx} {w m β e e' ow ow' z} (h:c.mayO w m β e ow z):c.mayO w m β (e && e') (ow++ow') z:=by
 rcases h with h | h
 ·exact .inl (Cx.may_and1 h)
 ·exact .inr ⟨h.1,h.2.mono fun p hp=>List.mem_append_left _ hp⟩
theorem Cx.mayO_2 {c:Cx} {w m β e e' ow ow' z} (h:c.mayO w m β e' ow' z):c.mayO w m β (e && e') (ow++ow') z:=by
 rcases h with h | h
 ·exact .inl (Cx.may_and2 h)
 ·exact .inr ⟨h.1,h.2.mono fun p hp=>List.mem_append_right _ hp⟩
theorem Cx.mayO_nil {c:Cx} {w m β e ow z} (h:c.mayO w m β e ow z):c.may (e && ow.isEmpty) z:=by
 rcases h with h | ⟨h,p,hp,_⟩
 ·exact Cx.may_and1 h
 ·cases ow with
  | nil=>cases hp
  | cons q r=>simpa using h
def Takes (w:World) (m:Nat->Option Blk) (β:Nat->Value) (c:Cx) (q:Pass) (xs:List AV) (vs:List Value):Prop :=
 ∃ L:List (Nat × Nat),(∀ z ∈ L,Lim m β z/\c.mayO w m β q.ext q.ow z/\z.1 < w.heap.size) /\
  ∀ c' m' β',(∀ z ∈ L,c'.F z/\Lim m' β' z)->(∀ p ∈ q.hs,(m' p.1).isSome=true /\ β' p.1 = β p.2)->RelL w m' β' c' xs vs
theorem DM {w m β c e k rows v x} (h:∃ t,Vw w m β c e [.sl t k rows] [v]) (hx:x = .sl true k rows):Takes w m β c ⟨True,[],e,[]⟩ [x] [v]:=by
 subst hx;obtain ⟨t,f,hr,hl⟩:=h;refine ⟨f,fun z hz=>⟨(hl z hz).1,.inl (hl z hz).2,hr.lt z hz⟩,fun c' m' β' hz _=>?_⟩;exact .sl ⟨t,f,hr,fun x hx=>⟨(hz x hx).2,.inl (hz x hx).1⟩⟩ .lnil
theorem L8 {w m β c k rows v x h} (hv:∃ t,Vw w m β c false [.sl t k rows] [v]) (hb:∀ e k' d R,m h=some (.own e k' d R)->v = β h/\k'=k) (hx:x = .sl true k rows):Takes w m β c ⟨True,[],true,[(h,rows)]⟩ [x] [v]:=by
 subst hx;obtain ⟨t,f,hr,hl⟩:=hv;refine ⟨f,fun z hz=>⟨(hl z hz).1,.inr ⟨(hl z hz).2,(h,rows),List.mem_singleton.2 rfl,k,v,t,f,hb,hr,hz⟩,hr.lt z hz⟩,fun c' m' β' hz _=>?_⟩;exact .sl ⟨t,f,hr,fun x hx=>⟨(hz x hx).2,.inl (hz x hx).1⟩⟩ .lnil
theorem Takes.ofP {w m β c p p' hs e ow xs vs} (h:Takes w m β c ⟨p,hs,e,ow⟩ xs vs):Takes w m β c ⟨p',hs,e,ow⟩ xs vs:=h
theorem B9 {w m β c x y v q} (hq:js x y=some q) (hp:q.p) (hy:RelL w m β c [y] [v]):Takes w m β c q [x] [v]:=by
 have flat:∀ {p:Prop},(∀ c' m' β',RelL w m' β' c' [x] [v])->Takes w m β c ⟨p,[],true,[]⟩ [x] [v]:=fun h=>⟨[],by simp,fun c' m' β' _ _=>h c' m' β'⟩
 unfold js at hq;split at hq <;> try (cases hq; done)
 ·cases hq; obtain ⟨rfl,rfl⟩:=hp; cases hy; exact flat fun _ _ _=>.int .lnil
 ·cases hq; cases hp; cases hy; exact flat fun _ _ _=>.bool .lnil
 ·cases hq; cases hp
  cases hy with
  | str h1 _=>exact flat fun _ _ _=>.str h1 .lnil
 ·cases hq; cases hp
  cases hy with
  | raw h1 _=>exact flat fun _ _ _=>.raw h1 .lnil
 ·cases hq; cases hp
  cases hy with
  | nil _=>exact flat fun _ _ _=>.sl ⟨0,[],.sl0 (by unfold maxLen; omega) (by simp) .nil,by simp⟩ .lnil
 ·cases hq; obtain ⟨rfl,rfl⟩:=hp
  cases hy with
  | sl h1 _=>exact (DM h1 rfl).ofP
 ·cases hq; obtain ⟨rfl,rfl⟩:=hp
  cases hy with
  | own _ h1 h2 _=>exact (L8 h1 h2 rfl).ofP
 ·cases hq; obtain ⟨rfl,rfl⟩:=hp
  cases hy with
  | sub _ h1 _ _=>exact (DM h1 rfl).ofP
 ·cases hq; cases hp
  cases hy with
  | ptr h1 h2 _ =>
   refine ⟨[],by simp,fun c' m' β' _ hh=>?_⟩
   obtain ⟨q1,q2⟩:=hh _ (List.mem_singleton.2 rfl);exact .ptr q1 (q2.trans h2) .lnil
theorem Takes.cons {w m β c} {p1 p2:Prop} {h1 h2 e1 e2 o1 o2} {x v xs vs} (a:Takes w m β c ⟨p1,h1,e1,o1⟩ [x] [v]) (b:Takes w m β c ⟨p2,h2,e2,o2⟩ xs vs) :
  Takes w m β c ⟨p1/\p2,h1++h2,e1 && e2,o1++o2⟩ (x :: xs) (v :: vs):=by
 obtain ⟨L1,a1,a2⟩:=a;obtain ⟨L2,b1,b2⟩:=b;refine ⟨L1++L2,fun z hz=>?_,fun c' m' β' hz hh=>?_⟩
 ·rcases List.mem_append.1 hz with hz | hz
  ·exact ⟨(a1 z hz).1,Cx.mayO_1 (a1 z hz).2.1,(a1 z hz).2.2⟩
  ·exact ⟨(b1 z hz).1,Cx.mayO_2 (b1 z hz).2.1,(b1 z hz).2.2⟩
 ·exact (a2 c' m' β' (fun z hz'=>hz z (List.mem_append_left _ hz')) (fun p hp=>hh p (List.mem_append_left _ hp))).append
   (b2 c' m' β' (fun z hz'=>hz z (List.mem_append_right _ hz')) (fun p hp=>hh p (List.mem_append_right _ hp)))
theorem xg {w m β c}:∀ {xs ys vs q},iw xs ys=some q->q.p->RelL w m β c ys vs->Takes w m β c q xs vs:=by
 intro xs
 induction xs with
 | nil =>
  intro ys vs q hq hp hy;cases ys with
  | nil=>cases hq; cases hy; exact ⟨[],by simp,fun _ _ _ _ _=>.lnil⟩
  | cons y ys=>cases hq
 | cons x xs ih =>
  intro ys vs q hq hp hy;cases ys with
  | nil=>cases hq
  | cons y ys =>
   obtain ⟨v,vs',rfl,h1,h2⟩:=hy.uncons;unfold iw at hq;split at hq
   ·rename_i a b ha hb;cases hq;exact (B9 ha hp.1 h1).cons (ih hb hp.2 h2)
   ·cases hq
theorem ME {w m β c x y v q} (hq:j2 x y=some q) (hp:q.p) (hy:RelL w m β c [y] [v]):Takes w m β c q [x] [v]:=by
 unfold j2 at hq;split at hq
 ·cases hy with
  | agg h1 h2 _ =>
   obtain ⟨L,a1,a2⟩:=xg hq hp h1;exact ⟨L,a1,fun c' m' β' hz hh=>.agg (a2 c' m' β' hz hh) h2 .lnil⟩
 ·split at hq
  ·rename_i hfg;subst hfg;cases hy with
   | clo h1 _ =>
    obtain ⟨L,a1,a2⟩:=xg hq hp h1;exact ⟨L,a1,fun c' m' β' hz hh=>.clo (a2 c' m' β' hz hh) .lnil⟩
  ·cases hq
 ·exact B9 hq hp hy
theorem MH {w m β c}:∀ {xs ys vs q},fj xs ys=some q->q.p->RelL w m β c ys vs->Takes w m β c q xs vs:=by
 intro xs
 induction xs with
 | nil =>
  intro ys vs q hq hp hy;cases ys with
  | nil=>cases hq; cases hy; exact ⟨[],by simp,fun _ _ _ _ _=>.lnil⟩
  | cons y ys=>cases hq
 | cons x xs ih =>
  intro ys vs q hq hp hy;cases ys with
  | nil=>cases hq
  | cons y ys =>
   obtain ⟨v,vs',rfl,h1,h2⟩:=hy.uncons;unfold fj at hq;split at hq
   ·rename_i a b ha hb;cases hq;exact (ME ha hp.1 h1).cons (ih hb hp.2 h2)
   ·cases hq
def w6 (hs:List (Nat × Nat)) (keys:List Nat):Prop :=
 (∀ p ∈ hs,ai hs p.1=some p.2/\p.1 ∈ keys)/\keys.Nodup/\(keys.map (ai hs)).Nodup
theorem c8 {α:Type}:∀ {l:List (Nat × α)} {i v},ai l i=some v->(i,v) ∈ l:=by
 intro l
 induction l with
 | nil=>intro i v h; cases h
 | cons p l ih =>
  intro i v h;obtain ⟨k,x⟩:=p;simp only [ai] at h;split at h
  ·rename_i hk; subst hk; cases h; exact List.mem_cons_self
  ·exact List.mem_cons_of_mem _ (ih h)
theorem ig {α:Type}:∀ {l:List (Nat × α)} {i},i ∈ l.map (·.1) -> ∃ v,ai l i=some v:=by
 intro l
 induction l with
 | nil=>intro i h; cases h
 | cons p l ih =>
  intro i h;obtain ⟨k,x⟩:=p;simp only [ai];split
  ·exact ⟨_,rfl⟩
  ·rename_i hk;simp only [List.map_cons,List.mem_cons] at h;rcases h with h | h
   ·exact absurd h.symm hk
   ·exact ih h
theorem ma {α β:Type} {f:α -> β}:∀ {l:List α},(l.map f).Nodup -> ∀ {x y},x ∈ l->y ∈ l->f x=f y->x=y:=by
 intro l
 induction l with
 | nil=>intro _ x y hx; cases hx
 | cons z l ih =>
  intro h x y hx hy e;simp only [List.map_cons,List.nodup_cons,List.mem_map,not_exists,not_and] at h;rcases List.mem_cons.1 hx with rfl | hx' <;> rcases List.mem_cons.1 hy with rfl | hy'
  ·rfl
  ·exact absurd e.symm (h.1 y hy')
  ·exact absurd e (h.1 x hx')
  ·exact ih h.2 hx' hy' e
section
variable {w:World} {c:Cx} {s:St} {a:Act} {β:Nat->Value} {fp:Nat->List (Nat × Nat)} (S:SatI c s a w β fp)
include S
theorem rk {ρ}:∀ {bs q},eF s.m ρ bs=some q->q.p -> ∃ L:List (Nat × Nat),(∀ z ∈ L,Lim s.m β z/\c.may q.ext z/\z.1 < w.heap.size) /\
  ∀ b ∈ bs,∃ h us blk cvs,ai ρ b.1=some h/\s.m h=some (.box b.2.1 us) /\ β h = .pointer (some ⟨blk,0,none⟩)/\w.heap[blk]? = some (.cells (List.toArray cvs) b.2.1 (0,0))/\(∀ u ∈ cvs,u.oneCell'=true) /\
   ∀ c' m' β',(∀ z ∈ L,c'.F z/\Lim m' β' z)->(∀ p ∈ q.hs,(m' p.1).isSome=true /\ β' p.1 = β p.2)->RelL w m' β' c' b.2.2 cvs:=by
 intro bs
 induction bs with
 | nil=>intro q hq hp; cases hq; exact ⟨[],by simp,by simp⟩
 | cons b bs ih =>
  intro q hq hp;obtain ⟨i,ty,vs⟩:=b;unfold eF at hq;split at hq
  ·rename_i h hh;split at hq
   ·rename_i ty' us b hm hb;split at hq
    ·rename_i a ha;cases hq;obtain ⟨rfl,p1,p2⟩:=hp;obtain ⟨L2,b1,b2⟩:=ih hb p2;obtain ⟨_,blk,cvs,q1,q2,q3,q4⟩:=S.mem h _ hm;obtain ⟨L1,a1,a2⟩:=xg ha p1 q3;refine ⟨L1++L2,fun z hz=>?_,fun x hx=>?_⟩
     ·rcases List.mem_append.1 hz with hz | hz
      ·exact ⟨(a1 z hz).1,Cx.may_and1 (Cx.mayO_nil (a1 z hz).2.1),(a1 z hz).2.2⟩
      ·exact ⟨(b1 z hz).1,Cx.may_and2 (b1 z hz).2.1,(b1 z hz).2.2⟩
     ·rcases List.mem_cons.1 hx with rfl | hx
      ·exact ⟨h,us,blk,cvs,hh,hm,q1,q2,q4,fun c' m' β' hz hp=>a2 c' m' β' (fun z hz'=>hz z (List.mem_append_left _ hz')) (fun p hp'=>hp p (List.mem_append_left _ hp'))⟩
      ·obtain ⟨h2,us2,blk2,cvs2,r1,r2,r3,r4,r5,r6⟩:=b2 x hx;exact ⟨h2,us2,blk2,cvs2,r1,r2,r3,r4,r5,fun c' m' β' hz hp=>r6 c' m' β' (fun z hz'=>hz z (List.mem_append_right _ hz')) (fun p hp'=>hp p (List.mem_append_right _ hp'))⟩
    ·cases hq
   ·cases hq
  ·cases hq
def zc (w:World) (β:Nat->Value) (hs:List (Nat × Nat)) (keys:List Nat) (b:Nat):Prop :=
 b < w.heap.size /\ ∀ i ∈ keys,∀ h,ai hs i=some h -> β h ≠ .pointer (some ⟨b,0,none⟩)
def aI (β:Nat->Value) (hs:List (Nat × Nat)) (i:Nat):Value:=match ai hs i with | some h=>β h | none=>undef
abbrev dl (w:World) (β:Nat->Value) (hs:List (Nat × Nat)) (k:Con) (x:k.A) (L:List (Nat × Nat)):Cx :=
 ⟨L,zc w β hs ((k.boxes x).map (·.1)),w,k.n,(k.boxes x).map fun b=>(b.1,aI β hs b.1)⟩
theorem zH {k:Con} {x:k.A} {us:List AV} {vs:List Value} {A B:Pass} (hr:RelL w s.m β c us vs) (hA:fj (k.args x) us=some A) (hAp:A.p)
  (hB:eF s.m A.hs (k.boxes x)=some B) (hBp:B.p) (hB0:B.hs=[]) (hok:w6 A.hs ((k.boxes x).map (·.1))) (hn:vs.length<=k.n) :
  ∃ L:List (Nat × Nat),(∀ z ∈ L,Lim s.m β z/\c.mayO w s.m β (A.ext && B.ext) A.ow z/\z.1 < w.heap.size) /\
   SatI (dl w β A.hs k x L) (k.start x) ⟨vs.toArray++Array.replicate (k.n - vs.length) undef,[]⟩ w (aI β A.hs) (fun _=>[]):=by
 obtain ⟨L1,a1,a2⟩:=MH hA hAp hr;obtain ⟨L2,b1,b2⟩:=rk S hB hBp;have hL:∀ z ∈ L1++L2,Lim s.m β z/\c.mayO w s.m β (A.ext && B.ext) A.ow z/\z.1 < w.heap.size:=by
  intro z hz;rcases List.mem_append.1 hz with hz | hz
  ·refine ⟨(a1 z hz).1,?_,(a1 z hz).2.2⟩;have:=Cx.mayO_1 (e':=B.ext) (ow':=[]) (a1 z hz).2.1
   simpa using this
  ·exact ⟨(b1 z hz).1,.inl (Cx.may_and2 (b1 z hz).2.1),(b1 z hz).2.2⟩
 refine ⟨L1++L2,hL,?_⟩;have hmem:∀ i blk,(k.start x).m i=some blk -> ∃ ty av,(i,ty,av) ∈ k.boxes x/\blk = .box ty av:=by
  intro i blk hi;have:=c8 hi;simp only [List.mem_map] at this;obtain ⟨⟨i',ty,av⟩,h1,h2⟩:=this;cases h2;exact ⟨ty,av,h1,rfl⟩
 have hbox:∀ i ty av,(i,ty,av) ∈ k.boxes x -> ∃ h us blk,ai A.hs i=some h/\s.m h=some (.box ty us) /\ β h = .pointer (some ⟨blk,0,none⟩)/\aI β A.hs i = .pointer (some ⟨blk,0,none⟩):=by
  intro i ty av hi;obtain ⟨h,us,blk,cvs,r1,r2,r3,_⟩:=b2 _ hi;exact ⟨h,us,blk,r1,r2,r3,by simp [aI,r1,r3]⟩
 have hlim:∀ z,Lim s.m β z->Lim (k.start x).m (aI β A.hs) z:=by
  intro z hz;refine ⟨?_,?_⟩
  ·rintro ⟨i,ty,av,hi,hb⟩;obtain ⟨ty',av',hi',he⟩:=hmem i _ hi;cases he;obtain ⟨h,us,blk,r1,r2,r3,r4⟩:=hbox i ty av hi';rw [r4] at hb;cases hb;exact hz.1 ⟨h,ty,us,r2,r3⟩
  ·intro i e kk d R n cc hi _;obtain ⟨ty',av',hi',he⟩:=hmem i _ hi;cases he
 have hzz:∀ z ∈ L1++L2,(dl w β A.hs k x (L1++L2)).F z/\Lim (k.start x).m (aI β A.hs) z :=
  fun z hz=>⟨⟨z,hz,rfl,Nat.le_refl _⟩,hlim z (hL z hz).1⟩
 have hhs:∀ p ∈ A.hs,((k.start x).m p.1).isSome=true/\aI β A.hs p.1 = β p.2:=by
  intro p hp;obtain ⟨q1,q2⟩:=hok.1 p hp;refine ⟨?_,by simp [aI,q1]⟩
  have:p.1 ∈ ((k.boxes x).map fun b=>(b.1,Blk.box b.2.1 b.2.2)).map (·.1):=by simpa using q2
  obtain ⟨v,hv⟩:=ig this;simp [Con.start,hv]
 have hargs:=a2 (dl w β A.hs k x (L1++L2)) _ _ (fun z hz=>hzz z (List.mem_append_left _ hz)) hhs;refine ⟨?_,?_,?_,?_,?_,?_,fun b hb=>⟨hb.1,rfl⟩,rfl,rfl,rfl,Nat.le_refl _,rfl,?_,?_⟩
 ·intro t g av ht;simp only [Con.start,Option.map_eq_some_iff] at ht;obtain ⟨v,hv,he⟩:=ht;cases he;obtain ⟨u,hu,hru⟩:=hargs.at1 hv;have hlt:t < vs.length:=(List.getElem?_eq_some_iff.1 hu).1;have hsz:t < (vs.toArray++Array.replicate (k.n - vs.length) undef).size:=by simp; omega
  have hget:(vs.toArray++Array.replicate (k.n - vs.length) undef).getD t undef=u:=by
   rw [Array.getD_eq_getD_getElem?,Array.getElem?_append_left (by simpa using hlt)]
   simp [hu]
  exact ⟨hsz,fun _=>by rw [hget]; exact hru,by simp⟩
 ·intro i blk hi;obtain ⟨ty,av,hi',rfl⟩:=hmem i blk hi;obtain ⟨h,us,b,cvs,r1,r2,r3,r4,r5,r6⟩:=b2 _ hi';exact ⟨rfl,b,cvs,by simp [aI,r1,r3],r4,r6 _ _ _ (fun z hz=>hzz z (List.mem_append_right _ hz)) (by simp [hB0]),r5⟩
 ·intro i blk hi;obtain ⟨ty,av,hi',rfl⟩:=hmem i blk hi;obtain ⟨h,us,b,r1,r2,r3,r4⟩:=hbox i ty av hi';simp [Ob,r4]
 ·intro i i' blk blk' hi hi' hne y hy hy';obtain ⟨ty,av,hm1,rfl⟩:=hmem i blk hi;obtain ⟨ty',av',hm2,rfl⟩:=hmem i' blk' hi';obtain ⟨h,us,b,r1,r2,r3,r4⟩:=hbox i ty av hm1;obtain ⟨h',us',b',r1',r2',r3',r4'⟩:=hbox i' ty' av' hm2;simp [Ob,r4] at hy;simp [Ob,r4'] at hy';have hhne:h ≠ h':=by
   intro e;subst e;have hnd:=hok.2.2;have m1:i ∈ (k.boxes x).map (·.1):=List.mem_map.2 ⟨_,hm1,rfl⟩;have m2:i' ∈ (k.boxes x).map (·.1):=List.mem_map.2 ⟨_,hm2,rfl⟩;exact hne (ma hnd m1 m2 (r1.trans r1'.symm))
  exact S.disj h h' _ _ r2 r2' hhne b (by simp [Ob,r3]) (by simp [Ob,r3']; omega)
 ·intro i blk hi y hy hG;obtain ⟨ty,av,hm1,rfl⟩:=hmem i blk hi;obtain ⟨h,us,b,r1,r2,r3,r4⟩:=hbox i ty av hm1;simp [Ob,r4] at hy;subst hy;exact hG.2 i (List.mem_map.2 ⟨_,hm1,rfl⟩) h r1 r3
 ·rintro y ⟨z,hz,e1,e2⟩;rw [e1];obtain ⟨q1,q2,q3⟩:=hL z hz;refine ⟨q3,fun i hi h hh hb=>?_⟩;simp only [List.mem_map] at hi;obtain ⟨⟨i',ty,av⟩,hi',rfl⟩:=hi;obtain ⟨h',us,b,r1,r2,r3,r4⟩:=hbox _ ty av hi';rw [hh] at r1;cases r1;exact q1.1 ⟨h,ty,us,r2,hb⟩
 ·simp; omega
 ·intro p hp;obtain ⟨b,hbm,rfl⟩:=List.mem_map.1 hp;refine ⟨rfl,?_⟩;obtain ⟨v,hv⟩:=ig (l:=(k.boxes x).map fun b=>(b.1,Blk.box b.2.1 b.2.2)) (i:=b.1) (by simp only [List.map_map,List.mem_map]; exact ⟨b,hbm,rfl⟩)
  simp [Con.start,hv]
end
def iR (hs:List (Nat × Nat)) (d:Nat) (m:Nat->Option Blk) (keys:List Nat) (fin:List (Nat × Blk)):Prop :=
 (fin.map fun p=>rho hs d p.1).Nodup/\(∀ p ∈ fin,ai hs p.1=none->m (d+p.1)=none/\p.1 < 16)/\(∀ p ∈ fin,(ai hs p.1).isSome=true->p.1 ∈ keys /\ ∃ ty vs,p.2 = .box ty vs) /\ ∀ i ∈ keys,∃ ty vs,(i,Blk.box ty vs) ∈ fin
section
variable {w:World} {c:Cx} {s:St} {a:Act} {β:Nat->Value} {fp:Nat->List (Nat × Nat)} (S:SatI c s a w β fp)
 {k:Con} {x:k.A} {y:k.X} {hs:List (Nat × Nat)} {d:Nat} {L:List (Nat × Nat)} {X:List (List D)->Bool} {a':Act} {w':World} {β':Nat->Value} {fp':Nat->List (Nat × Nat)}
 (hL:∀ z ∈ L,Lim s.m β z/\c.may false z/\z.1 < w.heap.size)
 (E:SatI (dl w β hs k x L) (k.end_ x y) a' w' β' fp')
 (hβ:∀ h,((k.start x).m h).isSome=true -> β' h=aI β hs h)
 (hb:∀ i ∈ (k.boxes x).map (·.1),∃ h ty us,ai hs i=some h/\s.m h=some (.box ty us))
 (hf:iR hs d s.m ((k.boxes x).map (·.1)) (k.fin x y)) (hk:((k.fin x y).map (·.1)).Nodup)
include S hL E hβ hb hf hk
abbrev dF (X:List (List D)->Bool) (hs:List (Nat × Nat)) (d:Nat) (m:Nat->Option Blk) (fin:List (Nat × Blk)):=fQ X hs d m fin
abbrev dL (hs:List (Nat × Nat)) (d:Nat) (β β':Nat->Value) (fin:List (Nat × Blk)):=over β (rho hs d) (fun j _=>β' j) fin
theorem ic {j b} (h:(j,b) ∈ k.fin x y):ai (k.fin x y) j=some b:=by
 obtain ⟨v,hv⟩:=ig (l:=k.fin x y) (i:=j) (List.mem_map.2 ⟨_,h,rfl⟩);have hm:=c8 hv;have:((j,v):Nat × Blk)=(j,b):=ma hk hm h rfl;cases this;exact hv
theorem Dk {b} (h:b < w.heap.size) (hn:∀ i ∈ (k.boxes x).map (·.1),∀ h,ai hs i=some h -> β h ≠ .pointer (some ⟨b,0,none⟩)):w'.heap[b]? = w.heap[b]? :=
 (E.old b ⟨h,hn⟩).2
theorem mG {b} (h:b < w.heap.size) (hn:¬ Bx s.m β b):w'.heap[b]? = w.heap[b]?:=by
 refine Dk S hL E hβ hb hf hk h fun i hi g hg hbp=>?_;obtain ⟨g',ty,us,q1,q2⟩:=hb i hi;rw [hg] at q1;cases q1;exact hn ⟨g,ty,us,q2,hbp⟩
theorem wc {i h} (hi:i ∈ (k.boxes x).map (·.1)) (hh:ai hs i=some h):β' i = β h:=by
 have:((k.start x).m i).isSome=true:=by
  obtain ⟨v,hv⟩:=ig (l:=(k.boxes x).map fun b=>(b.1,Blk.box b.2.1 b.2.2)) (i:=i) (by simpa using hi)
  simp [Con.start,hv]
 rw [hβ i this];simp [aI,hh]
theorem nU {j b} (h:(j,b) ∈ k.fin x y) (hn:ai hs j=none):∀ z ∈ Ob β' j (fp' j) b,w.heap.size<=z:=by
 intro z hz;have hm:=ic S hL E hβ hb hf hk h;have hfree:=E.free j b hm z hz;rcases Nat.lt_or_ge z w.heap.size with hlt | hge
 ·exfalso;refine hfree ⟨hlt,fun i hi g hg hbp=>?_⟩;obtain ⟨ty,vs,hfin⟩:=hf.2.2.2 i hi;have hmi:=ic S hL E hβ hb hf hk hfin;have hne:i ≠ j:=by intro e; subst e; rw [hg] at hn; cases hn
  have hv:=wc S hL E hβ hb hf hk hi hg;refine E.disj j i b _ hm hmi (Ne.symm hne) z hz ?_;simp [Ob,hv,hbp]
 ·exact hge
theorem kinds (h:Nat) :
  (dF X hs d s.m (k.fin x y) h=s.m h/\dL hs d β β' (k.fin x y) h = β h /\ ∀ p ∈ k.fin x y,rho hs d p.1 ≠ h) \/
  (∃ j ty us ty' vs,s.m h=some (.box ty us)/\(j,Blk.box ty' vs) ∈ k.fin x y/\dF X hs d s.m (k.fin x y) h=some (.box ty' (vs.map (iD X (rho hs d))))/\dL hs d β β' (k.fin x y) h = β h /\ β' j = β h/\rho hs d j=h/\ai hs j=some h) \/
  (∃ j b,s.m h=none/\(j,b) ∈ k.fin x y/\dF X hs d s.m (k.fin x y) h=some (eA X (rho hs d) b)/\dL hs d β β' (k.fin x y) h = β' j/\rho hs d j=h/\ai hs j=none):=by
 by_cases hex:∃ p ∈ k.fin x y,rho hs d p.1=h
 ·obtain ⟨⟨j,b⟩,hp,hr⟩:=hex;have e1:dF X hs d s.m (k.fin x y) h=some (eA X (rho hs d) b):=by rw [<- hr]; exact df hf.1 hp
  have e2:dL hs d β β' (k.fin x y) h = β' j:=by rw [<- hr]; exact df hf.1 hp
  cases hg:ai hs j with
  | none =>
   refine .inr (.inr ⟨j,b,?_,hp,e1,e2,hr,hg⟩);have:=(hf.2.1 _ hp hg).1;simp only [rho,hg] at hr;rw [<- hr]; exact this
  | some g =>
   have hgh:g=h:=by simpa [rho,hg] using hr
   subst hgh;obtain ⟨hkey,ty',vs,hbx⟩:=hf.2.2.1 _ hp (by simp [hg])
   simp only at hbx;subst hbx;obtain ⟨g',ty,us,q1,q2⟩:=hb j hkey;rw [hg] at q1;cases q1;have hv:=wc S hL E hβ hb hf hk hkey hg;exact .inr (.inl ⟨j,ty,us,ty',vs,q2,hp,e1,e2.trans hv,hv,hr,hg⟩)
 ·have hex':∀ p ∈ k.fin x y,rho hs d p.1 ≠ h:=fun p hp he=>hex ⟨p,hp,he⟩;exact .inl ⟨cC hex',cC hex',hex'⟩
theorem uW:Step w s.m β w' (dF X hs d s.m (k.fin x y)) (dL hs d β β' (k.fin x y)):=by
 have K:=kinds (X:=X) S hL E hβ hb hf hk;refine ⟨fun z hz hl=>.of_same (mG S hL E hβ hb hf hk hz hl.1),fun z hz hl=>⟨?_,?_⟩,?_,?_,?_,?_⟩
 ·rintro ⟨h,ty,vs,hm,hv⟩;rcases K h with ⟨q1,q2,_⟩ | ⟨j,ty1,us1,ty',vs',q0,q1,q2,q3,_⟩ | ⟨j,b,q0,q1,q2,q3,q4,q5⟩
  ·rw [q1] at hm; rw [q2] at hv; exact hl.1 ⟨h,ty,vs,hm,hv⟩
  ·rw [q3] at hv; exact hl.1 ⟨h,_,_,q0,hv⟩
  ·rw [q2] at hm;rw [q3] at hv;cases b <;> simp only [eA,Option.some.injEq,Blk.box.injEq,reduceCtorEq] at hm
   have:=nU S hL E hβ hb hf hk q1 q5 z.1 (by simp [Ob,hv])
   omega
 ·intro h e kk dp R n cc hm hv;rcases K h with ⟨q1,q2,_⟩ | ⟨j,ty1,us1,ty',vs',q0,q1,q2,q3,_⟩ | ⟨j,b,q0,q1,q2,q3,q4,q5⟩
  ·rw [q1] at hm; rw [q2] at hv; exact hl.2 h e kk dp R n cc hm hv
  ·rw [q2] at hm; cases hm
  ·rw [q2] at hm;rw [q3] at hv;cases b <;> simp only [eA,Option.some.injEq,reduceCtorEq] at hm
   have:=nU S hL E hβ hb hf hk q1 q5 z.1 (by simp [Ob,hv])
   omega
 ·intro h hs';rcases K h with ⟨q1,q2,_⟩ | ⟨j,ty1,us1,ty',vs',q0,q1,q2,q3,_⟩ | ⟨j,b,q0,q1,q2,q3,q4,q5⟩
  ·rw [q1]; exact hs'
  ·rw [q2]; rfl
  ·rw [q2]; rfl
 ·intro h e kk dp R' hs' hm;rcases K h with ⟨q1,q2,_⟩ | ⟨j,ty1,us1,ty',vs',q0,q1,q2,q3,_⟩ | ⟨j,b,q0,q1,q2,q3,q4,q5⟩
  ·rw [q1] at hm;exact ⟨dp,R',hm,q2,rfl,fun i j e2 k2 rs r' h1 h2=>⟨r',h1,h2⟩⟩
  ·rw [q2] at hm; cases hm
  ·rw [q0] at hs'; cases hs'
 ·intro h b hs' _;rcases K h with ⟨q1,q2,_⟩ | ⟨j,ty1,us1,ty',vs',q0,q1,q2,q3,_⟩ | ⟨j,b,q0,q1,q2,q3,q4,q5⟩
  ·exact q2
  ·exact q3
  ·rw [q0] at hs'; cases hs'
 ·intro h e kk dp R i j r u b n cc hm _ hv _ _ hlt;refine World.cell?_of_block (w:=w) (mG S hL E hβ hb hf hk hlt ?_);rintro ⟨g,ty,us,hg,hgv⟩;have hne:h ≠ g:=by intro e; subst e; rw [hm] at hg; cases hg
  exact S.disj h g _ _ hm hg hne b (by simp [Ob,hv]) (by simp [Ob,hgv])
end
theorem Lim.mono {m β} {y z:Nat × Nat} (h:Lim m β y) (h1:z.1=y.1) (h2:z.2<=y.2):Lim m β z:=by
 refine ⟨by rw [h1]; exact h.1,fun g e k d R n c hm hb=>?_⟩
 rw [h1] at hb;exact Nat.le_trans h2 (h.2 g e k d R n c hm hb)
theorem Cx.may_mono {c:Cx} {e} {y z:Nat × Nat} (h:c.may e y) (h1:z.1=y.1) (h2:z.2<=y.2):c.may e z:=by
 rcases h with ⟨x,hx,q1,q2⟩ | ⟨q1,q2⟩
 ·exact .inl ⟨x,hx,h1.trans q1,Nat.le_trans h2 q2⟩
 ·exact .inr ⟨q1,by rw [h1]; exact q2⟩
section
variable {w:World} {c:Cx} {s:St} {a:Act} {β:Nat->Value} {fp:Nat->List (Nat × Nat)} (S:SatI c s a w β fp)
 {k:Con} {x:k.A} {y:k.X} {hs:List (Nat × Nat)} {d:Nat} {L:List (Nat × Nat)} {X:List (List D)->Bool} {a':Act} {w':World} {β':Nat->Value} {fp':Nat->List (Nat × Nat)}
 (hL:∀ z ∈ L,Lim s.m β z/\c.may false z/\z.1 < w.heap.size)
 (E:SatI (dl w β hs k x L) (k.end_ x y) a' w' β' fp')
 (hβ:∀ h,((k.start x).m h).isSome=true -> β' h=aI β hs h)
 (hb:∀ i ∈ (k.boxes x).map (·.1),∃ h ty us,ai hs i=some h/\s.m h=some (.box ty us))
 (hf:iR hs d s.m ((k.boxes x).map (·.1)) (k.fin x y)) (hk:((k.fin x y).map (·.1)).Nodup)
include S hL E hβ hb hf hk
theorem yD {z:Nat × Nat} (h:(dl w β hs k x L).F z) :
  Lim (dF X hs d s.m (k.fin x y)) (dL hs d β β' (k.fin x y)) z/\c.may false z:=by
 obtain ⟨q,hq,h1,h2⟩:=h;obtain ⟨p1,p2,p3⟩:=hL q hq;exact ⟨(uW (X:=X) S hL E hβ hb hf hk).lim z (by rw [h1]; exact p3) (p1.mono h1 h2),Cx.may_mono p2 h1 h2⟩
theorem Fi {z:Nat × Nat} (h:¬ zc w β hs ((k.boxes x).map (·.1)) z.1) (hl:Lim (ai (k.fin x y)) β' z) :
  Lim (dF X hs d s.m (k.fin x y)) (dL hs d β β' (k.fin x y)) z /\ ¬ c.G z.1/\w.heap.size<=z.1:=by
 have hge:w.heap.size<=z.1:=by
  rcases Nat.lt_or_ge z.1 w.heap.size with hlt | hge
  ·exfalso;refine h ⟨hlt,fun i hi g hg hbp=>?_⟩;obtain ⟨ty,vs,hfin⟩:=hf.2.2.2 i hi;have hmi:=ic S hL E hβ hb hf hk hfin;have hv:=wc S hL E hβ hb hf hk hi hg;exact hl.1 ⟨i,ty,vs,hmi,hv.trans hbp⟩
  ·exact hge
 have K:=kinds (X:=X) S hL E hβ hb hf hk;refine ⟨⟨?_,?_⟩,fun hG=>?_,hge⟩
 ·rintro ⟨h',ty,vs,hm,hv⟩;rcases K h' with ⟨q1,q2,_⟩ | ⟨j,ty1,us1,ty',vs',q0,q1,q2,q3,_⟩ | ⟨j,b,q0,q1,q2,q3,q4,q5⟩
  ·rw [q1] at hm; rw [q2] at hv
   have:=(S.mem h' _ hm).lt z.1 (by simp [Ob,hv])
   omega
  ·rw [q3] at hv;have:=(S.mem h' _ q0).lt z.1 (by simp [Ob,hv])
   omega
  ·rw [q2] at hm;rw [q3] at hv;have hmj:=ic S hL E hβ hb hf hk q1;cases b <;> simp only [eA,Option.some.injEq,reduceCtorEq] at hm
   exact hl.1 ⟨j,_,_,hmj,hv⟩
 ·intro h' e kk dp R n cc hm hv;rcases K h' with ⟨q1,q2,_⟩ | ⟨j,ty1,us1,ty',vs',q0,q1,q2,q3,_⟩ | ⟨j,b,q0,q1,q2,q3,q4,q5⟩
  ·rw [q1] at hm; rw [q2] at hv
   have:=(S.mem h' _ hm).lt z.1 (by simp [Ob,hv])
   omega
  ·rw [q2] at hm; cases hm
  ·rw [q2] at hm;rw [q3] at hv;have hmj:=ic S hL E hβ hb hf hk q1;cases b <;> simp only [eA,Option.some.injEq,reduceCtorEq,Blk.own.injEq] at hm
   obtain ⟨rfl,rfl,rfl,rfl⟩:=hm;exact hl.2 j _ _ _ _ _ _ hmj hv
 ·have:=(S.old _ hG).1;have:=S.size;omega
theorem yE {e:Bool} {z:Nat × Nat} (hl:Lim (ai (k.fin x y)) β' z) (hm:(dl w β hs k x L).may e z) :
  Lim (dF X hs d s.m (k.fin x y)) (dL hs d β β' (k.fin x y)) z/\c.may false z:=by
 rcases hm with hm | ⟨rfl,hm⟩
 ·obtain ⟨q1,q2⟩:=yD (X:=X) S hL E hβ hb hf hk hm;exact ⟨q1,q2⟩
 ·obtain ⟨q1,q2,_⟩:=Fi (X:=X) S hL E hβ hb hf hk hm hl;exact ⟨q1,.inr ⟨rfl,q2⟩⟩
theorem yF {e ds vs} (h:Vw w' (ai (k.fin x y)) β' (dl w β hs k x L) e ds vs) :
  Vw w' (dF X hs d s.m (k.fin x y)) (dL hs d β β' (k.fin x y)) c false ds vs:=by
 obtain ⟨f,hr,hl⟩:=h;exact ⟨f,hr,fun z hz=>yE S hL E hβ hb hf hk (hl z hz).1 (hl z hz).2⟩
theorem yn {j} (h:((ai (k.fin x y)) j).isSome=true):∃ b,(ai (k.fin x y)) j=some b/\dF X hs d s.m (k.fin x y) (rho hs d j)=some (eA X (rho hs d) b) /\
  dL hs d β β' (k.fin x y) (rho hs d j) = β' j:=by
 obtain ⟨b,hb'⟩:=Option.isSome_iff_exists.1 h;exact ⟨b,hb',df hf.1 (c8 hb'),df hf.1 (c8 hb')⟩
variable (hX:∀ t k' rows v f,RdL false w' [.sl t k' rows] [v] f->(∀ z ∈ f,(dl w β hs k x L).F z) -> ∀ z ∈ f,c.may (X rows) z)
include hX
theorem yq {v u} (h:RelL w' (ai (k.fin x y)) β' (dl w β hs k x L) [v] [u]) :
  RelL w' (dF X hs d s.m (k.fin x y)) (dL hs d β β' (k.fin x y)) c [iD X (rho hs d) v] [u]:=by
 cases h with
 | int _=>exact .int .lnil
 | bool _=>exact .bool .lnil
 | str h1 _=>exact .str h1 .lnil
 | raw h1 _=>exact .raw h1 .lnil
 | nil _=>exact .nil .lnil
 | @sl e _ _ _ _ _ h1 _ =>
  obtain ⟨t,h1⟩:=h1;cases e with
  | true =>
   obtain ⟨f,hr,hl⟩:=h1;have hF:∀ z ∈ f,(dl w β hs k x L).F z:=fun z hz=>by
    rcases (hl z hz).2 with h | ⟨h,_⟩
    ·exact h
    ·cases h
   exact .sl ⟨t,f,hr,fun z hz=>⟨(yD (X:=X) S hL E hβ hb hf hk (hF z hz)).1,hX _ _ _ _ f hr hF z hz⟩⟩ .lnil
  | false=>exact .sl ⟨t,by simpa using yF (X:=X) S hL E hβ hb hf hk h1⟩ .lnil
 | own h1 h2 h3 _ =>
  obtain ⟨t,h2⟩:=h2;obtain ⟨b,q1,q2,q3⟩:=yn (X:=X) S hL E hβ hb hf hk h1;refine .own (by rw [q2]; rfl) ⟨t,by simpa using yF (X:=X) S hL E hβ hb hf hk h2⟩ (fun e k' dp R hm=>?_) .lnil
  rw [q2] at hm;cases b <;> simp only [eA,Option.some.injEq,reduceCtorEq,Blk.own.injEq] at hm
  obtain ⟨rfl,rfl,rfl,rfl⟩:=hm;rw [q3];exact h3 _ _ _ _ q1
 | ptr h1 h2 _ =>
  obtain ⟨b,q1,q2,q3⟩:=yn (X:=X) S hL E hβ hb hf hk h1;exact .ptr (by rw [q2]; rfl) (q3.trans h2) .lnil
 | _=>exact .junk .lnil
theorem sv:∀ {vs us},RelL w' (ai (k.fin x y)) β' (dl w β hs k x L) vs us ->
  RelL w' (dF X hs d s.m (k.fin x y)) (dL hs d β β' (k.fin x y)) c (vs.map (iD X (rho hs d))) us:=by
 intro vs
 induction vs with
 | nil=>intro us h; cases h; exact .lnil
 | cons v vs ih =>
  intro us h;obtain ⟨u,us',rfl,h1,h2⟩:=h.uncons;exact (yq S hL E hβ hb hf hk hX h1).append (ih h2)
theorem yB {v u} (h:RelL w' (ai (k.fin x y)) β' (dl w β hs k x L) [v] [u]) :
  RelL w' (dF X hs d s.m (k.fin x y)) (dL hs d β β' (k.fin x y)) c [i7 X (rho hs d) v] [u]:=by
 unfold i7;split
 ·cases h with
  | agg h1 h2 _=>exact .agg (sv S hL E hβ hb hf hk hX h1) h2 .lnil
 ·exact yq S hL E hβ hb hf hk hX h
theorem Ff:∀ {vs us},RelL w' (ai (k.fin x y)) β' (dl w β hs k x L) vs us ->
  RelL w' (dF X hs d s.m (k.fin x y)) (dL hs d β β' (k.fin x y)) c (vs.map (i7 X (rho hs d))) us:=by
 intro vs
 induction vs with
 | nil=>intro us h; cases h; exact .lnil
 | cons v vs ih =>
  intro us h;obtain ⟨u,us',rfl,h1,h2⟩:=h.uncons;exact (yB S hL E hβ hb hf hk hX h1).append (ih h2)
theorem yA {v u} (h:RelL w' (ai (k.fin x y)) β' (dl w β hs k x L) [v] [u]) :
  RelL w' (dF X hs d s.m (k.fin x y)) (dL hs d β β' (k.fin x y)) c [ku X (rho hs d) v] [u]:=by
 unfold ku;split
 ·cases h with
  | tup h1 _=>exact .tup (Ff S hL E hβ hb hf hk hX h1) .lnil
 ·exact yB S hL E hβ hb hf hk hX h
end
theorem DY {β β':Nat->Value} {h j:Nat} {f:List (Nat × Nat)} {b:Blk} {X R} (hv:β' h = β j):Ob β' h f (eA X R b)=Ob β j f b:=by
 cases b with
 | own=>simp [Ob,eA,hv]
 | dead=>simp [Ob,eA]
 | box ty vs =>
  simp only [eA];rw [kl β' h f ty ty (vs.map (iD X R)) vs];simp [Ob,hv]
section
variable {w:World} {c:Cx} {s:St} {a:Act} {β:Nat->Value} {fp:Nat->List (Nat × Nat)} (S:SatI c s a w β fp)
 {k:Con} {x:k.A} {y:k.X} {hs:List (Nat × Nat)} {d:Nat} {L:List (Nat × Nat)} {X:List (List D)->Bool} {a':Act} {w':World} {β':Nat->Value} {fp':Nat->List (Nat × Nat)}
 (hL:∀ z ∈ L,Lim s.m β z/\c.may false z/\z.1 < w.heap.size)
 (E:SatI (dl w β hs k x L) (k.end_ x y) a' w' β' fp')
 (hβ:∀ h,((k.start x).m h).isSome=true -> β' h=aI β hs h)
 (hb:∀ i ∈ (k.boxes x).map (·.1),∃ h ty us,ai hs i=some h/\s.m h=some (.box ty us))
 (hf:iR hs d s.m ((k.boxes x).map (·.1)) (k.fin x y)) (hk:((k.fin x y).map (·.1)).Nodup)
include S hL E hβ hb hf hk
abbrev iP (hs:List (Nat × Nat)) (d:Nat) (fp fp':Nat->List (Nat × Nat)) (fin:List (Nat × Blk)):=over fp (rho hs d) (fun j _=>fp' j) fin
theorem LG {h blk} (hm:dF X hs d s.m (k.fin x y) h=some blk) :
  (∃ blk0,s.m h=some blk0/\Ob (dL hs d β β' (k.fin x y)) h (iP hs d fp fp' (k.fin x y) h) blk=Ob β h (fp h) blk0) \/
  (∃ j b,(j,b) ∈ k.fin x y/\rho hs d j=h/\ai hs j=none/\Ob (dL hs d β β' (k.fin x y)) h (iP hs d fp fp' (k.fin x y) h) blk=Ob β' j (fp' j) b):=by
 rcases kinds (X:=X) S hL E hβ hb hf hk h with ⟨q1,q2,q3⟩ | ⟨j,ty,us,ty',vs,q0,q1,q2,q3,q4,q5,q6⟩ | ⟨j,b,q0,q1,q2,q3,q4,q5⟩
 ·rw [q1] at hm;refine .inl ⟨blk,hm,?_⟩;rw [show iP hs d fp fp' (k.fin x y) h=fp h from cC q3]
  exact oN q2
 ·rw [q2] at hm;cases hm;refine .inl ⟨_,q0,?_⟩;have e1:iP hs d fp fp' (k.fin x y) h=fp' j:=by rw [<- q5]; exact df hf.1 q1
  have e2:fp' j=[]:=(E.mem j _ (ic S hL E hβ hb hf hk q1)).1;have e3:fp h=[]:=(S.mem h _ q0).1;rw [e1,e2,e3,kl _ _ _ ty' ty _ us];exact oN q3
 ·rw [q2] at hm;cases hm;refine .inr ⟨j,b,q1,q4,q5,?_⟩;have e1:iP hs d fp fp' (k.fin x y) h=fp' j:=by rw [<- q4]; exact df hf.1 q1
  rw [e1];exact DY q3
variable (hX:∀ t k' rows v f,RdL false w' [.sl t k' rows] [v] f->(∀ z ∈ f,(dl w β hs k x L).F z) -> ∀ z ∈ f,c.may (X rows) z)
include hX
theorem KH {h blk} (hm:dF X hs d s.m (k.fin x y) h=some blk) :
  BlkOk w' (dF X hs d s.m (k.fin x y)) (dL hs d β β' (k.fin x y)) c h (iP hs d fp fp' (k.fin x y) h) blk:=by
 have T:=uW (X:=X) S hL E hβ hb hf hk;rcases kinds (X:=X) S hL E hβ hb hf hk h with ⟨q1,q2,q3⟩ | ⟨j,ty,us,ty',vs,q0,q1,q2,q3,q4,q5,q6⟩ | ⟨j,b,q0,q1,q2,q3,q4,q5⟩
 ·rw [q1] at hm;rw [show iP hs d fp fp' (k.fin x y) h=fp h from cC q3]
  have hb0:=S.mem h blk hm;cases blk with
  | dead=>exact hb0
  | own e kk dp R =>
   have nobox:∀ z ∈ Ob β h (fp h) (.own e kk dp R),¬ Bx s.m β z:=by
    rintro z hz ⟨g,ty,vs,hg,hgv⟩;have hne:h ≠ g:=by intro e; subst e; rw [hm] at hg; cases hg
    exact S.disj h g _ _ hm hg hne z hz (by simp [Ob,hgv])
   obtain ⟨p1,p2,p3⟩:=hb0;refine ⟨p1,p2,?_⟩;rw [q2];rcases p3 with p3 | ⟨b',cap,cs,f0,r1,r2,r3,r4,r5,r6,r7,r8⟩
   ·exact .inl p3
   ·refine .inr ⟨b',cap,cs,f0,r1,?_,r3,r4,r5,r6.keep fun z hz=>?_,r7,fun hdp=>⟨(r8 hdp).1,fun z hz=>?_⟩⟩
    ·rw [mG S hL E hβ hb hf hk (Array.getElem?_eq_some_iff.1 r2).1 (nobox b' (by simp [Ob,r1]))]; exact r2
    ·have hz1:¬ Bx s.m β z.1:=by
      cases dp with
      | true=>exact nobox z.1 (by simp only [Ob,r1,List.mem_append,List.mem_map]; exact .inr ⟨z,by rw [r7 rfl]; exact hz,rfl⟩)
      | false=>exact (((r8 rfl).2 z hz).1).1
     have hs':=mG S hL E hβ hb hf hk (r6.lt z hz) hz1;exact ⟨.of_same hs',fun _=>hs'⟩
    ·have:=(r8 hdp).2 z hz;exact ⟨T.lim z (r6.lt z hz) this.1,this.2⟩
  | box ty vs =>
   obtain ⟨p0,b,cvs,r1,r2,r3,r4⟩:=hb0;refine ⟨p0,b,cvs,by rw [q2]; exact r1,?_,r3.step T,r4⟩
   rw [Dk S hL E hβ hb hf hk (Array.getElem?_eq_some_iff.1 r2).1 fun i hi g hg hbp=>?_]
   ·exact r2
   ·obtain ⟨g',ty',us',t1,t2⟩:=hb i hi;rw [hg] at t1;cases t1;obtain ⟨ty2,vs2,hfin⟩:=hf.2.2.2 i hi;have hne:h ≠ g:=by
     intro e;subst e;exact q3 _ hfin (by simp [rho,hg])
    exact S.disj h g _ _ hm t2 hne b (by simp [Ob,r1]) (by simp [Ob,hbp])
 ·rw [q2] at hm;cases hm;have e1:iP hs d fp fp' (k.fin x y) h=fp' j:=by rw [<- q5]; exact df hf.1 q1
  obtain ⟨p0,b,cvs,r1,r2,r3,r4⟩:=E.mem j _ (ic S hL E hβ hb hf hk q1);rw [e1];exact ⟨p0,b,cvs,by rw [q3,<- q4]; exact r1,r2,sv S hL E hβ hb hf hk hX r3,r4⟩
 ·rw [q2] at hm;cases hm;have e1:iP hs d fp fp' (k.fin x y) h=fp' j:=by rw [<- q4]; exact df hf.1 q1
  have hb0:=E.mem j _ (ic S hL E hβ hb hf hk q1);rw [e1];cases b with
  | dead=>exact hb0
  | own e kk dp R =>
   obtain ⟨p1,p2,p3⟩:=hb0;refine ⟨p1,p2,?_⟩;rw [q3];rcases p3 with p3 | ⟨b',cap,cs,f0,r1,r2,r3,r4,r5,r6,r7,r8⟩
   ·exact .inl p3
   ·refine .inr ⟨b',cap,cs,f0,r1,r2,r3,r4,r5,r6,r7,fun hdp=>⟨(r8 hdp).1,fun z hz=>?_⟩⟩;have:=(r8 hdp).2 z hz;have q:=yE (X:=X) (e:=false) S hL E hβ hb hf hk this.1 this.2;exact ⟨q.1,by simpa using q.2⟩
  | box ty vs =>
   obtain ⟨p0,b,cvs,r1,r2,r3,r4⟩:=hb0;exact ⟨p0,b,cvs,by rw [q3]; exact r1,r2,sv S hL E hβ hb hf hk hX r3,r4⟩
theorem Ba:SatI c ⟨s.e,dF X hs d s.m (k.fin x y)⟩ a w' (dL hs d β β' (k.fin x y)) (iP hs d fp fp' (k.fin x y)):=by
 have T:=uW (X:=X) S hL E hβ hb hf hk;have O:=fun h blk (hm:dF X hs d s.m (k.fin x y) h=some blk)=>LG (X:=X) S hL E hβ hb hf hk hm;have old_lt:∀ h blk0,s.m h=some blk0 -> ∀ z ∈ Ob β h (fp h) blk0,z < w.heap.size:=fun h blk0 hm=>(S.mem h _ hm).lt;refine ⟨?_,fun h blk hm=>KH S hL E hβ hb hf hk hX hm,?_,?_,?_,S.fg,?_,E.os.trans S.os,E.tape.trans S.tape,E.output.trans S.output,Nat.le_trans S.size E.size,S.defers,S.tn,?_⟩
 ·intro t g av ht;obtain ⟨h1,h2,h3⟩:=S.env t g av ht;exact ⟨h1,fun hg=>(h2 hg).step T,fun hg=>⟨(h3 hg).1,(h3 hg).2.mono T.has⟩⟩
 ·intro h blk hm;rcases O h blk hm with ⟨blk0,q1,q2⟩ | ⟨j,b,q1,q2,q3,q4⟩
  ·rw [q2]; exact S.nodup h _ q1
  ·rw [q4]; exact E.nodup j _ (ic S hL E hβ hb hf hk q1)
 ·intro h h' blk blk' hm hm' hne z hz hz';rcases O h blk hm with ⟨blk0,q1,q2⟩ | ⟨j,b,q1,q2,q3,q4⟩ <;> rcases O h' blk' hm' with ⟨blk0',q1',q2'⟩ | ⟨j',b',q1',q2',q3',q4'⟩
  ·rw [q2] at hz; rw [q2'] at hz'
   exact S.disj h h' _ _ q1 q1' hne z hz hz'
  ·rw [q2] at hz; rw [q4'] at hz'
   have:=old_lt _ _ q1 z hz;have:=nU S hL E hβ hb hf hk q1' q3' z hz';omega
  ·rw [q4] at hz; rw [q2'] at hz'
   have:=old_lt _ _ q1' z hz';have:=nU S hL E hβ hb hf hk q1 q3 z hz;omega
  ·rw [q4] at hz; rw [q4'] at hz'
   have hjj:j ≠ j':=by intro e; subst e; exact hne (q2.symm.trans q2')
   exact E.disj j j' _ _ (ic S hL E hβ hb hf hk q1) (ic S hL E hβ hb hf hk q1') hjj z hz hz'
 ·intro h blk hm z hz hG;rcases O h blk hm with ⟨blk0,q1,q2⟩ | ⟨j,b,q1,q2,q3,q4⟩
  ·rw [q2] at hz; exact S.free h _ q1 z hz hG
  ·rw [q4] at hz;have:=nU S hL E hβ hb hf hk q1 q3 z hz;have:=(S.old z hG).1;have:=S.size;omega
 ·intro b hG;obtain ⟨h1,h2⟩:=S.old b hG;refine ⟨h1,(mG S hL E hβ hb hf hk (Nat.lt_of_lt_of_le h1 S.size) ?_).trans h2⟩;rintro ⟨g,ty,us,hg,hgv⟩;exact S.free g _ hg b (by simp [Ob,hgv]) hG
 ·intro p hp;obtain ⟨h1,h2⟩:=S.pin p hp;refine ⟨?_,T.has _ h2⟩;rcases kinds (X:=X) S hL E hβ hb hf hk p.1 with ⟨q1,q2,_⟩ | ⟨j,ty1,us1,ty',vs',q0,q1,q2,q3,_⟩ | ⟨j,b,q0,_⟩
  ·exact q2.trans h1
  ·exact q3.trans h1
  ·rw [q0] at h2; cases h2
end
def kv:Value->Nat
 | .int .i8 _=>1 | .int .i16 _=>2 | .int .i32 _=>3 | .int .i64 _=>4
 | .int .u8 _=>5 | .int .u16 _=>6 | .int .u32 _=>7 | .int .u64 _=>8
 | .bool _=>9
 | .string _=>10
 | _=>0
theorem Jo {q:Bool} {w:World} {ds vs f} (h:RdL q w ds vs f) (hk:∀ d ∈ ds,kd d ≠ 0):f=[]/\ds.map kd=vs.map kv:=by
 induction h with
 | nil=>exact ⟨rfl,rfl⟩
 | @int k n _ _ _ _ ih =>
  obtain ⟨h1,h2⟩:=ih fun d hd=>hk d (by simp [hd])
  refine ⟨h1,?_⟩;rw [List.map_cons,List.map_cons,h2];cases k <;> rfl
 | bool _ ih =>
  obtain ⟨h1,h2⟩:=ih fun d hd=>hk d (by simp [hd])
  exact ⟨h1,by rw [List.map_cons,List.map_cons,h2]; rfl⟩
 | str _ _ ih =>
  obtain ⟨h1,h2⟩:=ih fun d hd=>hk d (by simp [hd])
  exact ⟨h1,by rw [List.map_cons,List.map_cons,h2]; rfl⟩
 | raw=>exact absurd rfl (hk _ (List.mem_cons_self))
 | junk=>exact absurd rfl (hk _ (List.mem_cons_self))
 | sl0=>exact absurd rfl (hk _ (List.mem_cons_self))
 | sl=>exact absurd rfl (hk _ (List.mem_cons_self))
theorem zS {q:Bool} {w:World} {t k:Nat} {rows:List (List D)} {v:Value} {f:List (Nat × Nat)} {z:Nat × Nat} (h:RdL q w [.sl t k rows] [v] f) (hk:∀ d ∈ rows.flatten,kd d ≠ 0) (hz:z ∈ f) :
  ∃ (b off n c:Nat) (cs:Array Value) (ty:Nat) (fr:Nat × Nat) (cvs:List Value),v = .slice (some ⟨b,off,none⟩) n c/\z=(b,off+cvs.length)/\w.heap[b]? = some (.cells cs ty fr)/\(∀ j u,cvs[j]? = some u->cs[off+j]? = some u)/\rows.flatten.map kd=cvs.map kv:=by
 cases h with
 | sl0 _ _ h=>cases h; cases hz
 | @sl b off n c _ _ _ cs ty fr cvs f1 _ _ f2 h1 h2 h3 h4 h5 h6 h7 h8 h9 h10 =>
  cases h10;obtain ⟨rfl,e⟩:=Jo h9 hk;simp only [List.append_nil,List.mem_singleton] at hz;exact ⟨b,off,n,c,cs,ty,fr,cvs,rfl,hz,h6,h8,e⟩
section
variable {w:World} {c:Cx} {s:St} {a:Act} {β:Nat->Value} {fp:Nat->List (Nat × Nat)} (S:SatI c s a w β fp)
 {k:Con} {x:k.A} {y:k.X} {hs:List (Nat × Nat)} {d:Nat} {L:List (Nat × Nat)} {a':Act} {w':World} {β':Nat->Value} {fp':Nat->List (Nat × Nat)}
 {kn ex:Bool} {ow:List (Nat × List (List D))}
 (hL:∀ z ∈ L,Lim s.m β z/\c.mayO w s.m β ex ow z/\z.1 < w.heap.size)
 (E:SatI (dl w β hs k x L) (k.end_ x y) a' w' β' fp')
 (hβ:∀ h,((k.start x).m h).isSome=true -> β' h=aI β hs h)
 (hb:∀ i ∈ (k.boxes x).map (·.1),∃ h ty us,ai hs i=some h/\s.m h=some (.box ty us))
 (hf:iR hs d s.m ((k.boxes x).map (·.1)) (k.fin x y)) (hk:((k.fin x y).map (·.1)).Nodup)
include S hL E hβ hb hf hk
theorem zI:∀ t k' rows v f,RdL false w' [.sl t k' rows] [v] f->(∀ z ∈ f,(dl w β hs k x L).F z) -> ∀ z ∈ f,c.may (dm kn s.m ex ow rows) z:=by
 intro t k' rows v f hr hF z hz;have hL':∀ z ∈ L,Lim s.m β z/\c.may false z/\z.1 < w.heap.size:=fun z hz=>⟨(hL z hz).1,Cx.mayO_false (hL z hz).2.1,(hL z hz).2.2⟩;obtain ⟨q,hq,h1,h2⟩:=hF z hz;obtain ⟨l1,l2,l3⟩:=hL q hq;cases hx:dm kn s.m ex ow rows with
 | false=>exact Cx.may_mono (Cx.mayO_false l2) h1 h2
 | true =>
  unfold dm at hx;simp only [Bool.and_eq_true,Bool.or_eq_true,List.all_eq_true,List.isEmpty_iff] at hx;obtain ⟨rfl,hx⟩:=hx;rcases l2 with l2 | ⟨_,p,hp,k0,v0,t0,f0,g1,g2,g3⟩
  ·exact Cx.may_mono l2 h1 h2
  ·exfalso;obtain ⟨x1,x2⟩:=(by
    rcases hx with hx | ⟨_,hx⟩
    ·rw [hx] at hp; cases hp
    ·exact hx p hp:_/\clash p.2 rows=true)
   unfold clash at x2;simp only [Bool.and_eq_true,List.all_eq_true,bne_iff_ne,ne_eq,Bool.not_eq_true',List.isEmpty_eq_false_iff] at x2;obtain ⟨x2,x3⟩:=x2;have k1:∀ d ∈ p.2.flatten,kd d ≠ 0:=fun d hd=>by
    obtain ⟨r,hr,hd⟩:=List.mem_flatten.1 hd;exact x2 r hr d hd
   have k2:∀ d ∈ rows.flatten,kd d ≠ 0:=fun d hd=>by
    obtain ⟨r,hr,hd⟩:=List.mem_flatten.1 hd;exact ((x3 r hr).2 d hd).1
   obtain ⟨b0,off0,n0,c0,cs0,ty0,fr0,cvs0,e0,z0,p0,r0,m0⟩:=zS g2 k1 g3;obtain ⟨b,off,n,c',cs,ty,fr,cvs,e1,z1,p1,r1,m1⟩:=zS hr k2 hz;have hoff:off0=0:=by
    cases hm:s.m p.1 with
    | none=>rw [hm] at x1; cases x1
    | some blk =>
     rw [hm] at x1;cases blk with
     | own e k'' d'' R =>
      have hv:=(g1 _ _ _ _ hm).1;obtain ⟨_,_,hB⟩:=S.mem p.1 _ hm;rcases hB with ⟨q1,_⟩ | ⟨b',cap,cs',f',q1,_⟩
      ·rw [hv,q1] at e0; cases e0
      ·rw [hv,q1] at e0; cases e0; rfl
     | _=>cases x1
   subst hoff;subst z0;subst z1;simp only at h1 h2;subst h1;rw [mG S hL' E hβ hb hf hk l3 l1.1,p0] at p1;cases p1;have hlen:0 < cvs.length:=by
    cases hrows:rows with
    | nil =>
     subst hrows;cases hr with
     | sl0 _ _ h=>cases h; cases hz
     | sl q1 q2=>simp at q1; subst q1; simp at q2
    | cons r rs =>
     have hne:=(x3 r (by rw [hrows]; simp)).1
     have:(rows.flatten.map kd).length=cvs.length:=by rw [m1,List.length_map]
     rw [<- this,hrows];cases r with
     | nil=>exact absurd rfl hne
     | cons d r=>simp
   have u1:cvs[0]? = some cvs[0]:=List.getElem?_eq_getElem hlen;have u2:=r1 0 _ u1;have hlt0:off < cvs0.length:=by omega
   have u3:cvs0[off]? = some cvs0[off]:=List.getElem?_eq_getElem hlt0;have u4:=r0 off _ u3;rw [Nat.add_zero] at u2;rw [Nat.zero_add,u2] at u4;have u5:cvs[0]=cvs0[off]:=Option.some.inj u4;have w1:(rows.flatten.map kd)[0]? = some (kv cvs[0]):=by rw [m1,List.getElem?_map,u1]; rfl
   have w2:(p.2.flatten.map kd)[off]? = some (kv cvs0[off]):=by rw [m0,List.getElem?_map,u3]; rfl
   rw [List.getElem?_map,Option.map_eq_some_iff] at w1 w2;obtain ⟨d1,d1m,d1k⟩:=w1;obtain ⟨d2,d2m,d2k⟩:=w2;obtain ⟨r1',hr1',hd1⟩:=List.mem_flatten.1 (List.mem_of_getElem? d1m);obtain ⟨r2',hr2',hd2⟩:=List.mem_flatten.1 (List.mem_of_getElem? d2m);exact ((x3 r1' hr1').2 d1 hd1).2 r2' hr2' d2 hd2 (by rw [d1k,d2k,u5])
end
def fZ (k:Con) (guarded g:Bool) (d:Nat) (us:List AV) (conds:Bool) (s:St) (K:AV->(Nat->Option Blk)->Prop):Prop :=
 ∃ x:k.A,match fj (k.args x) us with
  | none=>False
  | some A=>match eF s.m A.hs (k.boxes x) with
   | none=>False
   | some B=>k.owns x=[]/\k.lends=[]/\A.p/\B.p/\B.hs=[]/\w6 A.hs ((k.boxes x).map (·.1))/\us.length<=k.n/\(g=true->conds=true/\k.pre x) /\
     ∀ y,k.post x y->(guarded=true->k.fin x y=[]/\(k.res x y).hs=[])/\iR A.hs d s.m ((k.boxes x).map (·.1)) (k.fin x y)/\((k.fin x y).map (·.1)).Nodup /\
      K (ku (dm k.kindly s.m (A.ext && B.ext) A.ow) (rho A.hs d) (k.res x y)) (fQ (dm k.kindly s.m (A.ext && B.ext) A.ow) A.hs d s.m (k.fin x y))
def St.fn (s:St) (x:Operand):Option (Nat × List AV):=match s.val x with | .clo f vs=>some (f,vs) | _=>none
def lC (cs:Nat->Option Con) (n:Nat) (ops:Array Oper) (o:Oper) (s:St) (K:St->Prop):Prop :=
  match o.op with
  | .call { callee:=.value fv,args,.. }=>match s.fn fv with
   | none=>False
   | some (f,caps)=>match cs f,cS ops o s with
    | some k,some g=>cW n o=true/\fZ k o.guard.isSome g (Oper.hnd o) (args.toList.map s.val++caps) (args.toList.all s.cond && s.cond fv) s fun av m =>
        K ⟨match o.dst with | some t=>upd s.e t (some (g,av)) | none=>s.e,m⟩
    | _,_=>False
  | _=>False
theorem Cz:∀ {xs ys q},fj xs ys=some q->xs.length=ys.length:=by
 intro xs
 induction xs with
 | nil=>intro ys q h; cases ys with | nil=>rfl | cons=>cases h
 | cons x xs ih =>
  intro ys q h;cases ys with
  | nil=>cases h
  | cons y ys =>
   unfold fj at h;split at h
   ·rename_i hb;simp [ih hb]
   ·cases h
theorem yr {X R} {v:AV} (h:v.hs=[]):(iD X R v).hs=[]:=by
 cases v <;> try rfl
 case sl e k r=>cases e <;> rfl
 case own=>cases h
 case ptr=>cases h
theorem E4 {X R}:∀ {vs:List AV},AV.hs.hsL vs=[]->AV.hs.hsL (vs.map (iD X R))=[]:=by
 intro vs
 induction vs with
 | nil=>intro _; rfl
 | cons v vs ih =>
  intro h;simp only [AV.hs.hsL,List.append_eq_nil_iff] at h;simp only [List.map_cons,AV.hs.hsL,yr h.1,ih h.2,List.append_nil]
theorem yC {X R} {v:AV} (h:v.hs=[]):(i7 X R v).hs=[]:=by
 unfold i7;split
 ·exact E4 h
 ·exact yr h
theorem Fg {X R}:∀ {vs:List AV},AV.hs.hsL vs=[]->AV.hs.hsL (vs.map (i7 X R))=[]:=by
 intro vs
 induction vs with
 | nil=>intro _; rfl
 | cons v vs ih =>
  intro h;simp only [AV.hs.hsL,List.append_eq_nil_iff] at h;simp only [List.map_cons,AV.hs.hsL,yC h.1,ih h.2,List.append_nil]
theorem Fh {X R} {v:AV} {m:Nat->Option Blk} (h:v.hs=[]):alive m (ku X R v):=by
 have:(ku X R v).hs=[]:=by
  unfold ku;split
  ·exact Fg h
  ·exact yC h
 intro g hg;rw [this] at hg;cases hg
theorem zd {w:World} {c:Cx} {s:St} {a:Act} {β fp} (S:SatI c s a w β fp) {k:Con} {x:k.A} {A B:Pass} {L} (hB:eF s.m A.hs (k.boxes x)=some B) (hBp:B.p) :
  ∀ b,c.G b->(dl w β A.hs k x L).G b/\w.heap[b]? = c.w0.heap[b]?:=by
 intro b hG;refine ⟨⟨Nat.lt_of_lt_of_le (S.old b hG).1 S.size,?_⟩,(S.old b hG).2⟩;intro i hi h hh hb;obtain ⟨bb,hbm,rfl⟩:=List.mem_map.1 hi;obtain ⟨_,_,b2⟩:=rk S hB hBp;obtain ⟨h',us,blk,cvs,r1,r2,r3,_⟩:=b2 bb hbm;obtain rfl:=Option.some.inj (hh.symm.trans r1);rw [hb] at r3;exact S.free h _ r2 b (by simp [Ob,hb]) hG
section
variable {P:Program} {cs:Nat->Option Con} (hcs:∀ f k,cs f=some k->Has P f k) {w:World} {c:Cx} (hkn:∀ f k,cs f=some k->Kn k.need c) {s:St} {a:Act}
include hcs hkn
theorem D8 {ops o K} {next:Act->World->Prop} {Q:Exit->Act->World->Prop} (h:lC cs c.n ops o s K) (S0:Sat c s a w) (hK:∀ s' a' w',K s'->Sat c s' a' w'->next a' w') :
  if Region.wanted o (yielded ops a.tmps) then o.wp P a w next Q else next (a.put o.dst undef) w:=by
 obtain ⟨β,fp,S⟩:=S0;unfold lC at h;split at h
 ·rename_i fv args _ hop;split at h
  ·exact h.elim
  rename_i f caps hfn;split at h
  ·rename_i k g hkf hg;obtain ⟨hd,x,h⟩:=h;have hw:=S.want hg;rw [hw];have hdn:∀ t,o.dst=some t->t < c.n:=by
    intro t ht;unfold cW at hd;rw [ht] at hd
    simpa using hd
   split at h
   ·exact h.elim
   ·rename_i A hA;split at h
    ·exact h.elim
    ·rename_i B hB;obtain ⟨hown0,hlend0,hAp,hBp,hB0,hok,hlen,hpre,hpost⟩:=h;have H:=hcs f k hkf;cases g with
     | false =>
      simp only [Bool.false_eq_true,if_false];obtain ⟨y,hy⟩:=H.tot x;obtain ⟨q1,q2,q3,q4⟩:=hpost y hy;have hgd:o.guard.isSome=true:=by
       cases hgd:o.guard with
       | none=>unfold cS at hg; rw [hgd] at hg; cases hg
       | some _=>rfl
      rw [(q1 hgd).1] at q4;refine hK _ _ _ q4 ⟨β,fp,?_⟩;exact S.put (o:=o) hdn (by simp) (fun _=>⟨rfl,Fh (q1 hgd).2⟩)
     | true =>
      simp only [if_true];obtain ⟨hc,hp⟩:=hpre rfl;simp only [Bool.and_eq_true] at hc;obtain ⟨hc,hcf⟩:=hc;obtain ⟨capv,hfv,hcaps⟩:∃ capv:List Value,a.eval fv = .func (.func f) #[] capv.toArray/\RelL w s.m β c caps capv:=by
       have hv:=S.val hcf;unfold St.fn at hfn;split at hfn
       ·rename_i f' vs' hval;cases hfn;rw [hval] at hv;generalize a.eval fv=u at hv;cases hv with
        | clo h1 _=>exact ⟨_,rfl,h1⟩
       ·cases hfn
      have hr:RelL w s.m β c (args.toList.map s.val++caps) (args.toList.map a.eval++capv):=(RelL.ofMap fun z hz=>S.val (List.all_eq_true.1 hc z hz)).append hcaps;have hl2:=hr.length;obtain ⟨L,hL,E0⟩:=zH S hr hA hAp hB hBp hB0 hok (by rw [<- hl2]; exact hlen)
      have hl3:=Cz hA;have hcall:=H.calls x hp (dl w β A.hs k x L) ((hkn f k hkf).to (zd S hB hBp)) (args.toList.map a.eval++capv) (aI β A.hs) (fun _=>[]) rfl (by simp [Con.pins2,hlend0]) (by rw [<- hl2,<- hl3]) (by rw [<- hl2]; exact hlen) (by rw [Con.start2_eq k x hown0]; exact E0)
      unfold Oper.wp;have hrun:(execOp a.eval o).run P w = .ok (.enter f (args.toList.map a.eval++capv).toArray) w:=by
       have e:(args.map a.eval)++capv.toArray=(args.toList.map a.eval++capv).toArray:=by apply Array.ext'; simp
       simp only [execOp,hop,resolve,hfv,Deferred.ofValue,Sem.run_bind,Sem.run_pure,Result.andThen_ok,invoke];rw [show (#[]++Array.map a.eval args++capv.toArray)=(args.toList.map a.eval++capv).toArray from by rw [<- e]; simp,H.enter]
      rw [hrun,Oper.upon_enter];refine hcall.mono ?_;rintro e w' ⟨y,hy,v,rfl,β',fp',a',E,hv⟩;have hβ:∀ h,((k.start x).m h).isSome=true -> β' h=aI β A.hs h:=by
       intro h hh;obtain ⟨b,hb⟩:=Option.isSome_iff_exists.1 hh;have:=c8 hb;obtain ⟨bb,hbb,he⟩:=List.mem_map.1 this;cases he;exact (E.pin _ (List.mem_map.2 ⟨bb,hbb,rfl⟩)).1
      obtain ⟨q1,q2,q3,q4⟩:=hpost y hy;have hb:∀ i ∈ (k.boxes x).map (·.1),∃ h ty us,ai A.hs i=some h/\s.m h=some (.box ty us):=by
       intro i hi;obtain ⟨b,hbm,rfl⟩:=List.mem_map.1 hi;obtain ⟨_,_,b2⟩:=rk S hB hBp;obtain ⟨h,us,blk,cvs,r1,r2,_⟩:=b2 b hbm;exact ⟨h,_,us,r1,r2⟩
      have hX:=zI (kn:=k.kindly) S hL E hβ hb q2 q3;have hL':∀ z ∈ L,Lim s.m β z/\c.may false z/\z.1 < w.heap.size:=fun z hz=>⟨(hL z hz).1,Cx.mayO_false (hL z hz).2.1,(hL z hz).2.2⟩;have S':=Ba (X:=dm k.kindly s.m (A.ext && B.ext) A.ow) S hL' E hβ hb q2 q3 hX;have hv':=yA (X:=dm k.kindly s.m (A.ext && B.ext) A.ow) S hL' E hβ hb q2 q3 hX hv;exact hK _ _ _ q4 ⟨_,_,S'.put (o:=o) hdn (fun _=>hv') (by simp)⟩
  ·exact h.elim
 ·exact h.elim
end
structure Ren where
 p:Prop
 hs:List (Nat × (Nat ⊕ Nat))
def ot:AV->AV->Option Ren
 | .int k n,.int k' n'=>some ⟨k=k'/\n=n',[]⟩
 | .bool b,.bool b'=>some ⟨b=b',[]⟩
 | .str s,.str s'=>some ⟨s=s',[]⟩
 | .raw v,.raw v'=>some ⟨v=v',[]⟩
 | .nil,.nil=>some ⟨True,[]⟩
 | .sl _ _ r,.nil=>some ⟨r=[],[]⟩
 | .sl true k r,.sl true k' r'=>some ⟨k=k'/\r=r',[]⟩
 | .sl false k r,.sl _ k' r'=>some ⟨k=k'/\r=r',[]⟩
 | .sl false k r,.own _ k' r'=>some ⟨k=k'/\r=r',[]⟩
 | .sl false k r,.sub _ _ _ k' r'=>some ⟨k=k'/\r=r',[]⟩
 | .own i k r,.own h k' r'=>some ⟨k=k'/\r=r',[(i,.inl h)]⟩
 | .own i k r,.nil=>some ⟨r=[],[(i,.inr k)]⟩
 | .ptr i o,.ptr h o'=>some ⟨o=o',[(i,.inl h)]⟩
 | .slf i,.slf h=>some ⟨True,[(i,.inl h)]⟩
 | .slf i,.ptr h 0=>some ⟨True,[(i,.inl h)]⟩
 | .slf _,.raw (.pointer none)=>some ⟨True,[]⟩
 | .junk,_=>some ⟨True,[]⟩
 | _,_=>none
def jx:List AV->List AV->Option Ren
 | [],[]=>some ⟨True,[]⟩
 | x :: xs,y :: ys=>match ot x y,jx xs ys with
  | some a,some b=>some ⟨a.p/\b.p,a.hs++b.hs⟩
  | _,_=>none
 | _,_=>none
def oz:AV->AV->Option Ren
 | .agg xs,.agg ys=>jx xs ys
 | .clo f xs,.clo g ys=>if f=g then jx xs ys else none
 | x,y=>ot x y
def oA:List AV->List AV->Option Ren
 | [],[]=>some ⟨True,[]⟩
 | x :: xs,y :: ys=>match oz x y,oA xs ys with
  | some a,some b=>some ⟨a.p/\b.p,a.hs++b.hs⟩
  | _,_=>none
 | _,_=>none
def mD:AV->AV->Option Ren
 | .tup xs,.tup ys=>oA xs ys
 | x,y=>oz x y
def ou (e:Nat->Option (Bool × AV)):List (Nat × Bool × AV)->Option Ren
 | []=>some ⟨True,[]⟩
 | (t,g,x) :: r=>match e t,ou e r with
  | some (g',y),some b=>match mD x y with
   | some a=>some ⟨(g=true/\g'=true)/\a.p/\b.p,a.hs++b.hs⟩
   | none=>none
  | _,_=>none
def mC (m:Nat->Option Blk) (ρ:List (Nat × (Nat ⊕ Nat))):List (Nat × Blk)->Option Ren
 | []=>some ⟨True,[]⟩
 | (i,.box ty xs) :: r=>match ai ρ i with
  | some (.inl h)=>match m h,mC m ρ r with
   | some (.box ty' ys),some b=>match jx xs ys with
    | some a=>some ⟨ty=ty'/\a.p/\b.p,a.hs++b.hs⟩
    | none=>none
   | _,_=>none
  | _=>none
 | _ :: r=>mC m ρ r
def ov (m:Nat->Option Blk) (ρ:List (Nat × (Nat ⊕ Nat))):List (Nat × Blk)->Prop
 | []=>True
 | (i,.own e k d R) :: r=>(match ai ρ i with
  | some (.inl h)=>(match m h with | some (.own e' k' d' R')=>(e'=e/\k'=k/\R'=R)/\(d=true->d'=true) | _=>False)
  | some (.inr k')=>k'=k/\0 < k/\R=[]
  | none=>False)/\ov m ρ r
 | (_,.dead) :: _=>False
 | _ :: r=>ov m ρ r
def BL (ρ:List (Nat × (Nat ⊕ Nat))) (keys:List Nat):Prop :=
 (∀ p ∈ ρ,ai ρ p.1=some p.2/\p.1 ∈ keys)/\keys.Nodup/\((keys.filterMap fun i=>match ai ρ i with | some (.inl h)=>some h | _=>none)).Nodup
def Sc.from (pk:List Nat) (s:St) (t:Sc):Prop :=
 match ou s.e t.env with
 | none=>False
 | some A=>match mC s.m (A.hs++pk.map fun i=>(i,.inl i)) t.mem with
  | none=>False
  | some B=>A.p/\B.p/\BL ((A.hs++pk.map fun i=>(i,.inl i))++B.hs) (t.mem.map (·.1))/\ov s.m ((A.hs++pk.map fun i=>(i,.inl i))++B.hs) t.mem /\
    ∀ i ∈ pk,ai ((A.hs++pk.map fun i=>(i,.inl i))++B.hs) i=some (.inl i)/\i ∈ t.mem.map (·.1)
end Vx
end Go.Proofs.YthgfdbfmnbgkaaaGreatDoor
