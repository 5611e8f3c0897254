/-
  Joined by program (merge.py): Gc, Nh, Ni, Ne, Ng, Nj, Nk, Nl, Crc, Nq, Me, Yf, Yd, Ye, Ya, Yb, Yc, Vw, Oa, Ta, Tb, Ml, Mh, Qd, Ua, Uc, Shj, Uw, Mi, Ud, Yh, Yg, Bn, Yj, Yi, Tc, Hc, Hd, Kj, Hq, Hp, Hi, He, Hf. It shows what the single texts show; conditions: none but those of each lemma.
-/
import Derived.Test.YtonkagjdfpacmaaGreatDoorWb
import Derived.Lib.ItoaNum
import Derived.Shelf.Strings.Builder1
import Derived.Shelf.Strings.Builder2
import Derived.Shelf.Strings.OnBuilder
import Derived.Test.YtonkagjdfpacmaaGreatDoorProg
set_option linter.unusedVariables false
set_option linter.unusedSimpArgs false
set_option linter.unusedSectionVars false
namespace Go.Proofs.YtonkagjdfpacmaaGreatDoor
namespace Vx
open Go.RowKit
abbrev Srt (t:List FileD):Prop:=t.Pairwise fun a b=>a.path < b.path
def ins (o:List FileD) (f:FileD):List FileD:=o.filter (fun g=>decide (g.path < f.path))++f :: o.filter (fun g=>decide (f.path < g.path))
theorem x7 {t:List FileD} (h:aA t=true):Srt t:=by
 refine List.pairwise_iff_getElem.2 fun i j hi hj hij=>?_;have:=Q2 h j i hij hj;rw [fk,decide_eq_true_eq] at this;exact this
theorem DU {o:List FileD} {f:FileD} (h:Srt o):Srt (ins o f):=by
 unfold ins;refine List.pairwise_append.2 ⟨h.filter _,List.pairwise_cons.2 ⟨fun g hg=>?_,h.filter _⟩,fun a ha b hb=>?_⟩
 ·simpa using (List.mem_filter.1 hg).2
 ·have h1:a.path < f.path:=by simpa using (List.mem_filter.1 ha).2
  rcases List.mem_cons.1 hb with rfl | hb
  ·exact h1
  ·have h2:f.path < b.path:=by simpa using (List.mem_filter.1 hb).2
   exact lh h1 h2
theorem Ju {o:List FileD} {f:FileD} (h:Srt o) {k:Nat} (hk:k<=o.length) (h1:∀ j (hj:j < o.length),j < k->o[j].path < f.path) (h2:∀ j (hj:j < o.length),k<=j -> ¬ o[j].path < f.path) :
  o.filter (fun g=>decide (g.path < f.path))=o.take k/\o.filter (fun g=>decide (f.path < g.path))=(o.drop k).filter (fun g=>decide (f.path < g.path)):=by
 have e:o=o.take k++o.drop k:=(List.take_append_drop k o).symm;have a1:(o.take k).filter (fun g=>decide (g.path < f.path))=o.take k:=List.filter_eq_self.2 fun g hg=>by
  obtain ⟨j,hj,rfl⟩:=List.getElem_of_mem hg;simp only [List.length_take] at hj;rw [List.getElem_take];exact decide_eq_true (h1 j (by omega) (by omega))
 have a2:(o.drop k).filter (fun g=>decide (g.path < f.path))=[]:=List.filter_eq_nil_iff.2 fun g hg=>by
  obtain ⟨j,hj,rfl⟩:=List.getElem_of_mem hg;simp only [List.length_drop] at hj;rw [List.getElem_drop]
  simpa using h2 (k+j) (by omega) (by omega)
 have a3:(o.take k).filter (fun g=>decide (f.path < g.path))=[]:=List.filter_eq_nil_iff.2 fun g hg=>by
  obtain ⟨j,hj,rfl⟩:=List.getElem_of_mem hg;simp only [List.length_take] at hj;rw [List.getElem_take]
  simpa using lg (h1 j (by omega) (by omega))
 constructor
 ·conv=>lhs; rw [e]
  rw [List.filter_append,a1,a2,List.append_nil]
 ·conv=>lhs; rw [e]
  rw [List.filter_append,a3,List.nil_append]
theorem OC {o:List FileD} {p:Str} (h:Srt o):∀ k,k<=o.length->(∀ j (hj:j < o.length),k<=j -> ¬ o[j].path < p) ->
  (∀ j (hj:j < o.length),j < dJ o p k->o[j].path < p)/\(∀ j (hj:j < o.length),dJ o p k<=j -> ¬ o[j].path < p):=by
 intro k
 induction k with
 | zero=>intro _ h2; exact ⟨fun j _ hj=>by simp [dJ] at hj,fun j hj _=>h2 j hj (Nat.zero_le _)⟩
 | succ k ih =>
  intro hk h2;have hlt:k < o.length:=by omega
  have hd:o.getD k default=o[k]:=by simp [List.getD_eq_getElem?_getD,hlt]
  by_cases hb:o[k].path < p
  ·have e:dJ o p (k+1)=k+1:=by rw [dJ,if_pos]; rw [hd,fk]; exact decide_eq_true hb
   rw [e];refine ⟨fun j hj hjk=>?_,h2⟩;by_cases ejk:j=k
   ·subst ejk; exact hb
   ·exact lh (List.pairwise_iff_getElem.1 h j k hj hlt (by omega)) hb
  ·have e:dJ o p (k+1)=dJ o p k:=by rw [dJ,if_neg]; rw [hd,fk]; simpa using hb
   rw [e];refine ih (by omega) fun j hj hjk=>?_
   by_cases ejk:j=k
   ·subst ejk; exact hb
   ·exact h2 j hj (by omega)
theorem oC {o:List FileD} {f:FileD} (h:Srt o):(bY o f).1=ins o f:=by
 obtain ⟨h1,h2⟩:=OC (p:=f.path) h o.length (Nat.le_refl _) (fun j hj hjk=>by omega)
 have hk:=xv o f.path
 change ∀ j (hj:j < o.length),j < eY o f.path->_ at h1
 change ∀ j (hj:j < o.length),eY o f.path<=j->_ at h2
 generalize hkk:eY o f.path=k at h1 h2 hk;obtain ⟨a1,a2⟩:=Ju h hk h1 h2;unfold ins bY;rw [a1,a2,hkk];split
 ·rename_i hp;obtain ⟨hlt,hp⟩:=hp;rw [List.getD_eq_getElem?_getD,List.getElem?_eq_getElem hlt] at hp;simp only [Option.getD_some] at hp
  change o.set k f=_
  rw [List.set_eq_take_append_cons_drop,if_pos hlt]
  congr 2
  rw [List.drop_eq_getElem_cons hlt,List.filter_cons,if_neg (by simp [hp,jx])]
  symm
  refine List.filter_eq_self.2 fun g hg=>?_;obtain ⟨j,hj,rfl⟩:=List.getElem_of_mem hg;simp only [List.length_drop] at hj;rw [List.getElem_drop];have:=List.pairwise_iff_getElem.1 h k (k+1+j) hlt (by omega) (by omega)
  rw [hp] at this;exact decide_eq_true this
 ·rename_i hp
  change d7 o k f=_
  unfold d7
  congr 2
  symm
  refine List.filter_eq_self.2 fun g hg=>?_;obtain ⟨j,hj,rfl⟩:=List.getElem_of_mem hg;simp only [List.length_drop] at hj;rw [List.getElem_drop];have hlt:k < o.length:=by omega
  have hne:¬ o[k].path=f.path:=fun e=>hp ⟨hlt,by rw [List.getD_eq_getElem?_getD,List.getElem?_eq_getElem hlt]; exact e⟩
  have hgt:=mU _ _ (h2 k hlt (Nat.le_refl _)) hne;by_cases hj0:j=0
  ·subst hj0; exact decide_eq_true hgt
  ·exact decide_eq_true (lh hgt (List.pairwise_iff_getElem.1 h k (k+j) hlt (by omega) (by omega)))
theorem DN (f:FileD):∀ (l acc:List FileD),l.foldl (cI f) (acc,true)=(acc++l.filter (fun g=>!decide (g.path=f.path)),true):=by
 intro l
 induction l with
 | nil=>intro acc; simp
 | cons g r ih =>
  intro acc;rw [List.foldl_cons];by_cases hp:g.path=f.path
  ·have:cI f (acc,true) g=(acc,true):=by simp [cI,hp]
   rw [this,ih,List.filter_cons,if_neg (by simp [hp])]
  ·have:cI f (acc,true) g=(acc++[g],true):=by simp [cI,hp]
   rw [this,ih,List.filter_cons,if_pos (by simp [hp])]
   simp
theorem PF (f:FileD):∀ (l acc:List FileD),Srt l->(if (l.foldl (cI f) (acc,false)).2 then (l.foldl (cI f) (acc,false)).1 else (l.foldl (cI f) (acc,false)).1++[f])=acc++ins l f:=by
 intro l
 induction l with
 | nil=>intro acc _; simp [ins]
 | cons g r ih =>
  intro acc h;obtain ⟨h1,h2⟩:=List.pairwise_cons.1 h;rw [List.foldl_cons];by_cases hb:g.path < f.path
  ·have hlb:Go.Op.bytesLess g.path f.path=true:=by rw [fk]; exact decide_eq_true hb
   have hne:¬ g.path=f.path:=fun e=>by rw [e] at hb; exact jx _ hb
   have:cI f (acc,false) g=(acc++[g],false):=by simp [cI,hlb,hne]
   rw [this,ih _ h2];unfold ins;rw [List.filter_cons,if_pos (decide_eq_true hb),List.filter_cons,if_neg (by simpa using lg hb)]
   simp
  ·have hlb:Go.Op.bytesLess g.path f.path=false:=by rw [fk]; exact decide_eq_false hb
   have hgr:∀ x ∈ r,f.path < x.path:=fun x hx=>by
    by_cases e:g.path=f.path
    ·rw [<- e]; exact h1 x hx
    ·exact lh (mU _ _ hb e) (h1 x hx)
   have b1:r.filter (fun x=>decide (x.path < f.path))=[]:=List.filter_eq_nil_iff.2 fun x hx=>by simpa using lg (hgr x hx)
   have b2:r.filter (fun x=>decide (f.path < x.path))=r:=List.filter_eq_self.2 fun x hx=>decide_eq_true (hgr x hx);have b3:r.filter (fun x=>!decide (x.path=f.path))=r:=List.filter_eq_self.2 fun x hx=>by
    have:=hgr x hx;simp only [Bool.not_eq_true',decide_eq_false_iff_not];intro e; rw [e] at this; exact jx _ this
   by_cases e:g.path=f.path
   ·have:cI f (acc,false) g=(acc++[f],true):=by
     rw [e] at hlb;simp [cI,hlb,e]
    rw [this,DN,b3];simp only [if_true];unfold ins;rw [List.filter_cons,if_neg (by simpa using hb),List.filter_cons,if_neg (by simp [e,jx]),b1,b2]
    simp
   ·have:cI f (acc,false) g=(acc++[f]++[g],true):=by simp [cI,hlb,e]
    rw [this,DN,b3];simp only [if_true];unfold ins;rw [List.filter_cons,if_neg (by simpa using hb),List.filter_cons,if_pos (decide_eq_true (mU _ _ hb e)),b1,b2]
    simp
theorem xJ {o:List FileD} {f:FileD} (h:Srt o):fP o f=ins o f:=by
 have:=PF f o [] h;rw [List.nil_append] at this;exact this
theorem Jg:∀ {l o:List FileD},Srt (o++l)->inP o l=o++l:=by
 intro l
 induction l with
 | nil=>intro o _; simp [inP]
 | cons f r ih =>
  intro o h;have ho:Srt o:=(List.pairwise_append.1 h).1;have hlt:∀ g ∈ o,g.path < f.path:=fun g hg=>(List.pairwise_append.1 h).2.2 g hg f (by simp)
  have e:(bY o f).1=o++[f]:=by
   rw [oC ho];unfold ins;rw [List.filter_eq_self.2 fun g hg=>decide_eq_true (hlt g hg),List.filter_eq_nil_iff.2 fun g hg=>by simpa using lg (hlt g hg)]
  have:inP o (f :: r)=inP (o++[f]) r:=by simp only [inP,List.foldl_cons,e]
  rw [this,ih (by simpa using h)]
  simp
set_option maxRecDepth 8000
def lm (t:List FileD) (f:FileD):List FileD × Bool:=if aA t then (if aA (bY t f).1 then ((bY t f).1,true) else (t,false)) else ([],false)
theorem Q1 (t:List FileD) (f:FileD):lm t f=il t f:=by
 unfold lm il;by_cases h:aA t=true
 ·have hs:=x7 h;have e:(bY t f).1=fP t f:=by rw [oC hs,xJ hs]
  rw [e,eE,eE]
 ·rw [if_neg h,if_neg (by rw [<- eE]; exact h)]
def ck (p:Str) (f:FileD):Bool:=!atB f.path p
theorem vt (p:Str):ck p=bK p:=by
 funext f
 unfold ck bK;rw [yE];by_cases h:p=f.path
 ·subst h; simp
 ·have:¬ f.path=p:=fun e=>h e.symm;simp -implicitDefEqProofs [h,this]
def jA (t:List FileD) (p:Str):List FileD × Bool:=if aA t then (aI (ck p) t,decide ((aI (ck p) t).length < t.length)) else ([],false)
theorem QV (t:List FileD) (p:Str):jA t p=fS t p:=by
 unfold jA fS;rw [vt,eE]
def mvI (p to:Str):List FileD->List FileD->Option (List FileD)
 | [],o=>some o
 | f :: l,o=>if atB f.path p then (if (bY o ⟨to++f.path.drop p.length,f.text⟩).2 then mvI p to l (bY o ⟨to++f.path.drop p.length,f.text⟩).1 else none) else mvI p to l o
theorem mA (p:Str) (f:FileD):jm p f=atB f.path p:=by
 unfold jm;rw [yE]
 congr 1
 by_cases h:f.path=p
 ·simp -implicitDefEqProofs [h]
 ·have:¬ p=f.path:=fun e=>h e.symm;simp -implicitDefEqProofs [h,this]
theorem Dn (o:List FileD) (f:FileD):(bY o f).1.length=o.length+(if (bY o f).2 then 1 else 0):=by
 have hk:=xv o f.path;unfold bY;split
 ·simp
 ·simp -implicitDefEqProofs [d7]; omega
def hits (p:Str) (l:List FileD):Nat:=(l.filter (jm p)).length
theorem w9 (p to:Str):∀ (l o:List FileD),Srt o->(cM p to o l).length<=o.length+hits p l
 | [],o,_=>by simp -implicitDefEqProofs [cM,hits]
 | f :: l,o,h=>by
  have e:cM p to o (f :: l)=cM p to (gr p to o f) l:=rfl;rw [e];unfold gr;by_cases hh:jm p f=true
  ·rw [if_pos hh,xJ h];have ih:=w9 p to l _ (DU (f:=⟨to++f.path.drop p.length,f.text⟩) h);have hl:=Dn o ⟨to++f.path.drop p.length,f.text⟩;rw [oC h] at hl;have:hits p (f :: l)=hits p l+1:=by simp -implicitDefEqProofs [hits,hh]
   split at hl <;> omega
  ·rw [if_neg hh];have ih:=w9 p to l o h;have:hits p (f :: l)=hits p l:=by simp -implicitDefEqProofs [hits,hh]
   omega
theorem xa (p to:Str):∀ (l o:List FileD),Srt o->match mvI p to l o with
  | some x=>x=cM p to o l/\x.length=o.length+hits p l
  | none=>(cM p to o l).length < o.length+hits p l
 | [],o,_=>by simp -implicitDefEqProofs [mvI,cM,hits]
 | f :: l,o,h=>by
  have e:cM p to o (f :: l)=cM p to (gr p to o f) l:=rfl;rw [e];unfold gr mvI;rw [mA];by_cases hh:atB f.path p=true
  ·rw [if_pos hh,if_pos hh];have hit:hits p (f :: l)=hits p l+1:=by simp -implicitDefEqProofs [hits,mA,hh]
   have hl:=Dn o ⟨to++f.path.drop p.length,f.text⟩;have hs:=DU (f:=⟨to++f.path.drop p.length,f.text⟩) h;have e2:fP o ⟨to++f.path.drop p.length,f.text⟩=(bY o ⟨to++f.path.drop p.length,f.text⟩).1:=by rw [oC h,xJ h]
   rw [e2];rw [<- oC h] at hs;cases hp:(bY o ⟨to++f.path.drop p.length,f.text⟩).2 with
   | true =>
    rw [hp] at hl;simp only [if_true] at hl ⊢;have ih:=xa p to l _ hs;cases hm:mvI p to l (bY o ⟨to++f.path.drop p.length,f.text⟩).1 with
    | some x =>
     rw [hm] at ih;simp only at ih ⊢;exact ⟨ih.1,by rw [ih.2,hl,hit]; omega⟩
    | none =>
     rw [hm] at ih;simp only at ih ⊢;rw [hit]; omega
   | false =>
    rw [hp] at hl;simp only [Bool.false_eq_true,if_false] at hl ⊢;have:=w9 p to l _ hs;rw [hit]; omega
  ·rw [if_neg hh,if_neg hh];have hit:hits p (f :: l)=hits p l:=by simp -implicitDefEqProofs [hits,mA,hh]
   rw [hit];exact xa p to l o h
theorem I9 (p:Str) (t:List FileD):(aI (ck p) t).length+hits p t=t.length:=by
 unfold hits aI
 induction t with
 | nil=>rfl
 | cons f t ih =>
  have e:jm p f = !ck p f:=by unfold ck; rw [mA]; simp
  cases hd:ck p f with
  | true=>simp -implicitDefEqProofs [hd,e]; omega
  | false=>simp -implicitDefEqProofs [hd,e]; omega
def ik (t:List FileD) (p to:Str):List FileD × Bool :=
 if aA t then match mvI p to t (aI (ck p) t) with
  | some x=>if t.any (fun f=>atB f.path p)=false \/ dP to=false then (t,false) else if aA x then (x,true) else (t,false)
  | none=>(t,false)
 else ([],false)
theorem QY (t:List FileD) (p to:Str):ik t p to=ei t p to:=by
 unfold ik ei;by_cases h:aA t=true
 ·rw [if_pos h,if_pos (by rw [<- eE]; exact h)]
  have hs:Srt (aI (ck p) t):=(x7 h).filter _;have hm:=xa p to t _ hs;have ha:=I9 p t;have hany:(t.any (fun f=>atB f.path p)=false) ↔ hits p t=0:=by
   unfold hits;rw [List.length_eq_zero_iff,List.filter_eq_nil_iff,List.any_eq_false];constructor
   ·intro q f hf; rw [mA]; exact q f hf
   ·intro q f hf; have:=q f hf; rwa [mA] at this
  have hc:((aI (bK p) t).length=t.length \/ c6 to=false) ↔ (t.any (fun f=>atB f.path p)=false \/ dP to=false):=by
   rw [hany,<- vt,gD];constructor
   ·rintro (q | q)
    ·exact .inl (by omega)
    ·exact .inr q
   ·rintro (q | q)
    ·exact .inl (by omega)
    ·exact .inr q
  rw [<- vt] at hc ⊢;by_cases hq:t.any (fun f=>atB f.path p)=false \/ dP to=false
  ·rw [if_pos (hc.2 hq)];split
   ·rw [if_pos hq]
   ·rfl
  ·rw [if_neg (fun x=>hq (hc.1 x))];cases hr:mvI p to t (aI (ck p) t) with
   | some x =>
    rw [hr] at hm;simp only at hm ⊢;obtain ⟨m1,m2⟩:=hm;rw [if_neg hq,<- m1];have ml:x.length=t.length:=by omega
    by_cases hx:aA x=true
    ·rw [if_pos hx,if_neg];rintro (q | q)
     ·rw [<- eE,hx] at q; cases q
     ·exact q ml
    ·rw [if_neg hx,if_pos]
     left; rw [<- eE]; simpa using hx
   | none =>
    rw [hr] at hm;simp only at hm ⊢;rw [if_pos]
    right; omega
 ·rw [if_neg h,if_neg (by rw [<- eE]; exact h)]
theorem MU {p to:Str} {t o:List FileD} {i:Nat} (h:i < t.length):mvI p to (t.drop i) o=if atB t[i].path p then (if (bY o ⟨to++t[i].path.drop p.length,t[i].text⟩).2 then mvI p to (t.drop (i+1)) (bY o ⟨to++t[i].path.drop p.length,t[i].text⟩).1 else none) else mvI p to (t.drop (i+1)) o:=by rw [List.drop_eq_getElem_cons h]; rfl
theorem MT {p to:Str} {t o:List FileD} {i:Nat} (h:t.length<=i):mvI p to (t.drop i) o=some o:=by rw [List.drop_eq_nil_of_le h]; rfl
def nD (r:RepoD) (n:Str):List Int:=if 0<=atL r.heads n then [atL r.heads n] else []
theorem GB {r:RepoD} (h:aF r=true) {n w:Str} {t:List FileD}:cmL r n ⟨nD r n,w,t⟩=cf r n (ix r n w t):=by
 rw [cu] at h;rw [vf ((cQ r).1 h).2.1]; rfl
theorem oJ {r:RepoD} {n w:Str} {t:List FileD}:dl r n w t=if aF r then (if aF (cmL r n ⟨nD r n,w,t⟩) then (cmL r n ⟨nD r n,w,t⟩,true) else (r,false)) else (noR,false):=by
 unfold dl;by_cases h:aF r=true
 ·rw [if_pos h,if_pos (by rw [<- cu]; exact h),GB h,cu]
 ·rw [if_neg h,if_neg (by rw [<- cu]; exact h)]; rfl
theorem rq {r:RepoD} {n:Str} {a:Int}:cS r n a=if aF r then (if 0<=atL r.heads n then (r,false) else if aF ⟨r.commits,ptL r.heads n a⟩ then (⟨r.commits,ptL r.heads n a⟩,true) else (r,false)) else (noR,false):=by
 unfold cS;by_cases h:aF r=true
 ·have h':az r=true:=by rw [<- cu]; exact h
  rw [if_pos h,if_pos h',xq ((cQ r).1 h').2.1,cu];by_cases h1:0<=atL r.heads n
  ·rw [if_pos h1,if_pos (.inl h1)]
  ·rw [if_neg h1];by_cases h2:az ⟨r.commits,bG r.heads n a⟩=true
   ·rw [if_pos h2,if_neg];rintro (q | q)
    ·exact h1 q
    ·rw [h2] at q; cases q
   ·rw [if_neg h2,if_pos (.inr (by simpa using h2))]
 ·rw [if_neg h,if_neg (by rw [<- cu]; exact h)]; rfl
theorem Oy {r:RepoD} (h:aF r=true) {n w:Str} (h1:0<=atL r.heads n) {o b:List FileD} (ho:aA o=true) (hb:aA b=true) :
  dA r n w o b=if (dF o (aJ r (atL r.heads n)) b).2 then
   (if aF (cmL r n ⟨[atL r.heads n],w,(dF o (aJ r (atL r.heads n)) b).1⟩) then (cmL r n ⟨[atL r.heads n],w,(dF o (aJ r (atL r.heads n)) b).1⟩,0) else (r,5))
   else (r,4):=by
 have hlt:=nd h h1;unfold dA;rw [A1 ho (jz h ⟨h1,hlt⟩) hb];have hS:=h;rw [cu] at hS;have hH:=((cQ r).1 hS).2.1;by_cases hj:(bT o (aJ r (atL r.heads n)) b).2=[]
 ·rw [if_pos hj,if_pos hj];simp only [if_true];rw [vf hH,cu]
 ·rw [if_neg hj,if_neg hj];simp
theorem E4 {r:RepoD} (h:aF r=true) {c:Int} (hc:0<=c/\c < r.commits.length):aA (ek r c)=true:=by
 have hi:c.toNat < r.commits.length:=by omega
 obtain ⟨_,h2,_⟩:=fL h hi;have hg:r.commits.getD c.toNat default=r.commits[c.toNat]:=by simp [List.getD_eq_getElem?_getD,hi]
 unfold ek;rw [hg];cases hp:r.commits[c.toNat].parents with
 | nil=>rfl
 | cons p ps =>
  have:=h2 p (by rw [hp]; simp)
  exact jz h ⟨this.1,by omega⟩
theorem NH {r:RepoD} (h:aF r=true) {back:Bool} {n w:Str} {c:Int} (hx:atL r.heads n < 0 \/ bc w=false \/ ¬ (0<=c/\c < r.commits.length)):b9 back r n w c=(r,1):=by unfold b9; rw [if_pos (by rw [<- cu]; exact h),if_pos hx]
theorem NI {r:RepoD} (h:aF r=true) {back:Bool} {n w:Str} {c:Int} (h1:0<=atL r.heads n) (h2:bc w=true) (h3:0<=c/\c < r.commits.length) :
  b9 back r n w c=if back then dA r n w (aJ r c) (ek r c) else dA r n w (ek r c) (aJ r c):=by
 unfold b9;rw [if_pos (by rw [<- cu]; exact h),if_neg]
 rintro (q | q | q)
 ·omega
 ·rw [h2] at q; cases q
 ·exact q h3

theorem Uni.ok {r:RepoD} {n w:Str} {b:Int} {X:RepoD × Int} (h:az r=true) (hu:Uni r n w b X):az X.1=true:=by
 cases hu with
 | form=>exact h
 | same _ _ _ _ _=>exact h
 | on _ _ _ _ _ _ hr=>exact hr
 | clash _ _ _ _ _=>exact h
 | full=>exact h
 | made _ _ _ _ _ _ _ _ hr=>exact hr
theorem Uni.keeps {r:RepoD} {n w:Str} {b:Int} {X:RepoD × Int} (hu:Uni r n w b X):r.commits <+: X.1.commits:=by
 cases hu with
 | made t _ _ _ _ _ _ _ _=>exact ⟨[⟨[atL r.heads n,b],w,t⟩],rfl⟩
 | _=>exact List.prefix_refl _
theorem Uni.other {r:RepoD} {n w m:Str} {b:Int} {X:RepoD × Int} (h:az r=true) (hu:Uni r n w b X) (hm:¬ n=m):atL X.1.heads m=atL r.heads m:=by
 have hH:=((cQ r).1 h).2.1;cases hu with
 | on _ _ _ _ _ _ _ =>
  show atL (bG r.heads n b) m=_
  rw [na hH,if_neg hm]
 | made t _ _ _ _ _ _ _ _=>rw [oX h,if_neg hm]
 | _=>rfl
def Came (r:RepoD) (n:Str) (z:Nat):Prop:=0<=atL r.heads n/\Rch r (atL r.heads n).toNat z
theorem Uni.came {r:RepoD} {n w:Str} {b:Int} {X:RepoD × Int} {z:Nat} (h:az r=true) (hu:Uni r n w b X) (hz:Came r n z):Came X.1 n z:=by
 have hH:=((cQ r).1 h).2.1;have hp:=Pl h;cases hu with
 | on h1 h2 h3 h4 h5 h6 h7 =>
  have e:atL (bG r.heads n b) n=b:=by rw [na hH,if_pos rfl]
  refine ⟨by show 0<=atL (bG r.heads n b) n; rw [e]; exact h3,?_⟩
  show Rch ⟨r.commits,bG r.heads n b⟩ (atL (bG r.heads n b) n).toNat z
  rw [e];have:=(Rch.more (cs:=[]) (hs:=bG r.heads n b) hp (a:=b.toNat) (x:=z) (by omega)).2 (h6.trans hz.2)
  simpa using this
 | made t h1 h2 h3 h4 h5 h6 h7 h8 =>
  have e:atL (cf r n ⟨[atL r.heads n,b],w,t⟩).heads n=r.commits.length:=by rw [oX h,if_pos rfl]
  have e2:((r.commits.length:Int)).toNat=r.commits.length:=by omega
  refine ⟨by rw [e]; omega,?_⟩
  rw [e,e2];have q:=ym (r:=r) n ⟨[atL r.heads n,b],w,t⟩ (p:=atL r.heads n) (by simp)
  exact q.trans ((Rch.more (cs:=[⟨[atL r.heads n,b],w,t⟩]) (hs:=bG r.heads n r.commits.length) hp (a:=(atL r.heads n).toNat) (x:=z) (by omega)).2 hz.2)
 | _=>exact hz
theorem Uni.got {r:RepoD} {n w:Str} {b:Int} {X:RepoD × Int} (h:az r=true) (hu:Uni r n w b X) (hc:X.2=0 \/ X.2=3 \/ X.2=2):(0<=b/\b < r.commits.length)/\Came X.1 n b.toNat:=by
 have hH:=((cQ r).1 h).2.1;cases hu with
 | form=>simp at hc
 | same h1 h2 h3 h4 h5=>exact ⟨⟨h3,h4⟩,h1,h5⟩
 | on h1 h2 h3 h4 h5 h6 h7 =>
  have e:atL (bG r.heads n b) n=b:=by rw [na hH,if_pos rfl]
  refine ⟨⟨h3,h4⟩,by show 0<=atL (bG r.heads n b) n; rw [e]; exact h3,?_⟩
  show Rch ⟨r.commits,bG r.heads n b⟩ (atL (bG r.heads n b) n).toNat b.toNat
  rw [e]; exact .refl
 | clash=>simp at hc
 | full=>simp at hc
 | made t h1 h2 h3 h4 h5 h6 h7 h8 =>
  have e:atL (cf r n ⟨[atL r.heads n,b],w,t⟩).heads n=r.commits.length:=by rw [oX h,if_pos rfl]
  have e2:((r.commits.length:Int)).toNat=r.commits.length:=by omega
  refine ⟨⟨h3,h4⟩,by rw [e]; omega,?_⟩
  rw [e,e2];exact ym (r:=r) n ⟨[atL r.heads n,b],w,t⟩ (p:=b) (by simp)
structure Onto (r:RepoD) (n:Str) (a:Int) (x:RepoD):Prop where
 ok:az x=true
 keeps:r.commits <+: x.commits
 came:Came x n a.toNat

structure Did (r:RepoD) (X:RepoD × Int):Prop where
 ok:az X.1=true
 keeps:r.commits <+: X.1.commits
 few:X.1.commits.length<=r.commits.length+1
 all:∀ m,0<=atL r.heads m->0<=atL X.1.heads m
 not:¬ X.2=0 -> ¬ X.2=3->X.1=r
theorem Did.same {r:RepoD} (h:az r=true) (c:Int):Did r (r,c):=⟨h,List.prefix_refl _,Nat.le_succ _,fun _ q=>q,fun _ _=>rfl⟩
theorem Did.add {r:RepoD} (h:az r=true) {n:Str} {c:CommitD} (hr:az (cf r n c)=true):Did r (cf r n c,0):=by
 refine ⟨hr,List.prefix_append _ _,by simp [cf],fun m q=>?_,fun q=>absurd rfl q⟩
 show 0<=atL (cf r n c).heads m
 rw [oX h];split
 ·omega
 ·exact q
theorem Did.head {r:RepoD} (h:az r=true) {n:Str} {a k:Int} (ha:0<=a) (hr:az ⟨r.commits,bG r.heads n a⟩=true) (hk:k=0 \/ k=3):Did r (⟨r.commits,bG r.heads n a⟩,k):=by
 refine ⟨hr,List.prefix_refl _,by simp,fun m q=>?_,fun q1 q2=>by rcases hk with e | e <;> contradiction⟩
 show 0<=atL (bG r.heads n a) m
 rw [na ((cQ r).1 h).2.1];split
 ·exact ha
 ·exact q
end Vx
end Go.Proofs.YtonkagjdfpacmaaGreatDoor
namespace Go.Proofs.YtonkagjdfpacmaaGreatDoor
namespace Vx
def lR (c:Nat):Nat:=if c % 2=1 then (c / 2) ^^^ 3988292384 else c / 2
def kD:Nat->Nat->Nat
 | 0,c=>c
 | n+1,c=>lR (kD n c)
def qg (l:Str):Nat:=l.foldl (fun c b=>kD 8 (c ^^^ b.toNat)) 4294967295
def d5 (l:Str):Nat:=qg l ^^^ 4294967295
theorem lS (a b:Nat) (ha:a < 4294967296) (hb:b < 4294967296):a ^^^ b < 4294967296:=Nat.xor_lt_two_pow (n:=32) ha hb
theorem GV (c:Nat) (h:c < 4294967296):lR c < 4294967296:=by
 unfold lR; split
 ·exact lS _ _ (by omega) (by omega)
 ·omega
theorem zM (n c:Nat) (h:c < 4294967296):kD n c < 4294967296:=by
 induction n with
 | zero=>exact h
 | succ n ih=>exact GV _ ih
def jd (l:Str) (c:Nat):Nat:=l.foldl (fun c b=>kD 8 (c ^^^ b.toNat)) c
theorem lG (b:UInt8):b.toNat < 4294967296:=by have:=UInt8.toNat_lt b; omega
theorem zF (l:Str):∀ c,c < 4294967296->jd l c < 4294967296:=by
 induction l with
 | nil=>intro c h; exact h
 | cons b l ih=>intro c h; exact ih _ (zM _ _ (lS _ _ h (lG b)))
theorem GS (x y:Str) (c:Nat):jd (x++y) c=jd y (jd x c):=by simp [jd]
theorem GU (l:Str):qg l < 4294967296:=zF l _ (by omega)
end Vx
end Go.Proofs.YtonkagjdfpacmaaGreatDoor
namespace Go.Proofs.YtonkagjdfpacmaaGreatDoor
namespace Vx
open Go.RowKit
set_option maxRecDepth 8000
theorem zW:∀ (n:Nat),∀ b ∈ Lib.decDigits n,48<=b.toNat/\b.toNat<=57:=by
 intro n
 induction n using Nat.strongRecOn with
 | ind n ih =>
  rw [Lib.decDigits];split
  ·intro b hb;simp only [List.mem_singleton] at hb;subst hb;rw [UInt8.toNat_ofNat',Nat.mod_eq_of_lt (by omega)]; omega
  ·intro b hb;rw [List.mem_append] at hb;rcases hb with hb | hb
   ·exact ih _ (by omega) b hb
   ·simp only [List.mem_singleton] at hb;subst hb;rw [UInt8.toNat_ofNat',Nat.mod_eq_of_lt (by omega)]; omega
def d6 (s:Str):Str:=Lib.decDigits (d5 s)++32 :: s
def br (s:Str):Str:=d6 s++[10]
theorem zX (n:Nat):(32:UInt8) ∉ Lib.decDigits n:=fun h=>by have:=zW n _ h; simp at this
theorem G4 (n:Nat):(10:UInt8) ∉ Lib.decDigits n:=fun h=>by have:=zW n _ h; simp at this
theorem jS {s:Str} (h:∀ b ∈ s,32 < b.toNat):(10:UInt8) ∉ s:=fun q=>by have:=h _ q; simp at this
theorem yW:∀ {t:List Str},(∀ l ∈ t,(10:UInt8) ∉ l)->(10:UInt8) ∉ bS t
 | [],_=>by simp [bS]
 | l :: t,h=>by
  have e:bS (l :: t)=124 :: (l++bS t):=rfl;have h1:=yW (t:=t) (fun x hx=>h x (by simp [hx]))
  have h2:=h l (by simp)
  rw [e];simp [h1,h2]
theorem LO {t:List Str} (h:eV t=true):∀ l ∈ t,(10:UInt8) ∉ l:=by
 unfold eV bD at h;simp only [Bool.and_eq_true,decide_eq_true_eq,List.all_eq_true] at h;intro l hl q;have:=h.2.2 l hl;unfold gq at this;simp only [Bool.and_eq_true,decide_eq_true_eq,List.all_eq_true] at this;have:=this.2 _ q;simp at this
theorem KF (k:Int):(10:UInt8) ∉ bZ k:=by
 unfold bZ
 repeat' split
 all_goals decide
theorem OP {o:OpD} (h:opB o=true):(10:UInt8) ∉ au o:=by
 obtain ⟨hn,h⟩:=kS h;have h0:=KF o.kind;have g1:=jS (iK hn.1);have g2:=jS (iK hn.2);have h3:(10:UInt8) ∉ ce o:=by
  rcases h with ⟨b,w,p,t,rfl,h1,h2⟩ | ⟨b,w,p,rfl,h1⟩ | ⟨b,w,p,q,rfl,h1,h2⟩ | ⟨b,w,q,rfl,h1⟩ | ⟨b,w,q,rfl,h1⟩ | ⟨b,w,a,rfl,h1,h2⟩ | ⟨b,w,a,rfl,h1,h2⟩
  ·have e:ce ⟨1,b,w,p,[],0,t⟩=p++32 :: bS t:=rfl;have k1:=jS (kV (by rw [gD]; exact h1)).1
   have k2:=yW (LO h2);rw [e]; simp [k1,k2]
  ·have e:ce ⟨2,b,w,p,[],0,[]⟩=p:=rfl;rw [e]; exact jS (kV (by rw [gD]; exact h1)).1
  ·have e:ce ⟨3,b,w,p,q,0,[]⟩=p++32 :: q:=rfl;have k1:=jS (kV (by rw [gD]; exact h1)).1
   have k2:=jS (kV (by rw [gD]; exact h2)).1
   rw [e]; simp [k1,k2]
  ·exact jS (iK h1)
  ·exact jS (iK h1)
  ·have e:ce ⟨6,b,w,[],[],a,[]⟩=cj a.toNat:=rfl;rw [e]; have:a.toNat < 100:=by omega
   revert this; generalize a.toNat=n; revert n; decide
  ·have e:ce ⟨7,b,w,[],[],a,[]⟩=cj a.toNat:=rfl;rw [e]; have:a.toNat < 100:=by omega
   revert this; generalize a.toNat=n; revert n; decide
 unfold au;simp [h0,g1,g2,h3]
theorem v8 {o:OpD} (h:opB o=true):(10:UInt8) ∉ d6 (au o):=by
 unfold d6;simp [G4,OP h]
theorem xA (s:Str):2<=(br s).length:=by unfold br d6; simp; omega
def bX (s:Str) (c:UInt8):Str × Str × Bool:=if 0<=aw s c then (s.take (aw s c).toNat,s.drop ((aw s c).toNat+1),true) else (s,[],false)
theorem AH {c:UInt8} {r:Str}:∀ {w:Str},c ∉ w->aw (w++c :: r) c=w.length
 | [],_=>by simp [aw]
 | x :: w,h=>by
  have hx:¬ x=c:=fun e=>h (by simp [e])
  have ih:=AH (c:=c) (r:=r) (w:=w) (fun q=>h (by simp [q]))
  rw [List.cons_append,aw,if_neg hx,ih,if_neg (by omega)]
  simp
theorem AK {c:UInt8}:∀ {w:Str},c ∉ w->aw w c = -1
 | [],_=>rfl
 | x :: w,h=>by
  have hx:¬ x=c:=fun e=>h (by simp [e])
  have ih:=AK (c:=c) (w:=w) (fun q=>h (by simp [q]))
  rw [aw,if_neg hx,ih,if_pos (by omega)]
theorem qz {c:UInt8}:∀ {s:Str},c ∈ s -> ∃ w r,s=w++c :: r/\c ∉ w
 | x :: s,h=>by
  by_cases hx:x=c
  ·exact ⟨[],s,by simp [hx],by simp⟩
  ·obtain ⟨w,r,e,hw⟩:=qz (c:=c) (s:=s) (by simpa [Ne.symm hx] using h)
   exact ⟨x :: w,r,by simp [e],by simp [hw,Ne.symm hx]⟩
theorem vm {c:UInt8} {w r:Str} (h:c ∉ w):bX (w++c :: r) c=(w,r,true):=by
 unfold bX;rw [AH h,if_pos (by omega)]
 simp
theorem GX {c:UInt8} {w:Str} (h:c ∉ w):bX w c=(w,[],false):=by
 unfold bX;rw [AK h,if_neg (by omega)]
theorem qj {c:UInt8} {w r:Str} (h:c ∉ w):aB (w++c :: r) c.toNat 1=[w,r]:=by
 unfold aB;rw [lU h (by omega),qk (Nat.le_refl 1)]; simp
theorem zN {c:UInt8} {w:Str} (h:c ∉ w):aB w c.toNat 1=[w]:=by
 unfold aB;rw [qm h]; simp
def eh (s:Str):Option (OpD × Nat) :=
 let w:=aB s 10 1
 let h:=aB (w.getD 0 []) 32 1
 if w.length=2/\h.length=2/\h.getD 0 []=Lib.decDigits (d5 (h.getD 1 []))/\(bN rdS (h.getD 1 [])).2=true then some ((bN rdS (h.getD 1 [])).1,(w.getD 0 []).length+1) else none
def rE (num:Str->Int) (s:Str):Option (OpD × Nat) :=
 let l:=bX s 10
 let v:=bN (rdI num) (bX l.1 32).2.1
 if l.2.2=true/\v.2=true/\br (au v.1)=l.1++[10] then some (v.1,l.1.length+1) else none
def oU (f:Str->Option (OpD × Nat)):Prop:=∀ s o k,f s=some (o,k) ↔ (opB o=true/\k=(br (au o)).length/\br (au o) <+: s)
theorem DZ {f g:Str->Option (OpD × Nat)} (hf:oU f) (hg:oU g) (s:Str):f s=g s:=by
 cases h:f s with
 | some x=>exact ((hg s x.1 x.2).2 ((hf s x.1 x.2).1 h)).symm
 | none =>
  cases h':g s with
  | none=>rfl
  | some x=>rw [(hf s x.1 x.2).2 ((hg s x.1 x.2).1 h')] at h; cases h
theorem xB (s r:Str):br s++r=d6 s++10 :: r:=by simp [br]
theorem rp (s:Str):(br s).length=(d6 s).length+1:=by simp [br]
theorem c10:((10:UInt8).toNat:Int)=10:=rfl
theorem c32:((32:UInt8).toNat:Int)=32:=rfl
theorem j7:oU eh:=by
 intro s o k;constructor
 ·intro h;simp only [eh] at h;split at h
  ·rename_i q;obtain ⟨q1,q2,q3,q4⟩:=q
   injection h with h
   obtain ⟨h1,h2⟩:=Prod.mk.inj h;by_cases m:(10:UInt8) ∈ s
   ·obtain ⟨w,r,rfl,hw⟩:=qz m;have e1:=qj (c:=10) (r:=r) hw;rw [c10] at e1;rw [e1] at q2 q3 q4 h1 h2;simp only [List.getD_cons_zero] at q2 q3 q4 h1 h2;by_cases m2:(32:UInt8) ∈ w
    ·obtain ⟨a,b,rfl,ha⟩:=qz m2;have e2:=qj (c:=32) (r:=b) ha;rw [c32] at e2;rw [e2] at q3 q4 h1;simp only [List.getD_cons_zero,List.getD_cons_succ] at q3 q4 h1;obtain ⟨g1,g2⟩:=nP q4;rw [h1] at g1 g2;have e3:a++32 :: b=d6 (au o):=by unfold d6; rw [g2,q3]
     refine ⟨g1,?_,r,?_⟩
     ·rw [<- h2,rp,e3]
     ·rw [xB,e3]
    ·have e2:=zN (c:=32) m2;rw [c32] at e2;rw [e2] at q2; simp at q2
   ·have e1:=zN (c:=10) m;rw [c10] at e1;rw [e1] at q1; simp at q1
  ·cases h
 ·rintro ⟨h1,h2,r,h3⟩;have e0:s=d6 (au o)++10 :: r:=by rw [<- h3,xB]
  have e1:=qj (c:=10) (r:=r) (v8 h1);have e2:=qj (c:=32) (r:=au o) (zX (d5 (au o)));rw [c10] at e1;rw [c32] at e2;have e3:aB (d6 (au o)) 32 1=[Lib.decDigits (d5 (au o)),au o]:=e2;have e4:bN rdS (au o)=(o,true):=As (fun _ h=>OW h) h1;simp only [eh];rw [e0,e1];simp only [List.getD_cons_zero];rw [e3];simp only [List.getD_cons_zero,List.getD_cons_succ,e4];rw [if_pos ⟨rfl,rfl,trivial,trivial⟩,h2,rp]
theorem DY {num:Str->Int} (hnum:∀ n:Nat,n < 100->num (cj n)=n):oU (rE num):=by
 intro s o k;constructor
 ·intro h;simp only [rE] at h;split at h
  ·rename_i q;obtain ⟨q1,q2,q3⟩:=q
   injection h with h
   obtain ⟨h1,h2⟩:=Prod.mk.inj h;by_cases m:(10:UInt8) ∈ s
   ·obtain ⟨w,r,rfl,hw⟩:=qz m;have e1:=vm (c:=10) (r:=r) hw;rw [e1] at q2 q3 h1 h2;simp only at q2 q3 h1 h2;obtain ⟨g1,g2⟩:=nP q2;rw [h1] at g1 q3;refine ⟨g1,?_,r,?_⟩
    ·rw [<- h2,q3]; simp
    ·rw [q3]; simp
   ·rw [GX m] at q1; cases q1
  ·cases h
 ·rintro ⟨h1,h2,r,h3⟩;have e0:s=d6 (au o)++10 :: r:=by rw [<- h3,xB]
  have e1:=vm (c:=10) (r:=r) (v8 h1);have e2:bX (d6 (au o)) 32=(Lib.decDigits (d5 (au o)),au o,true):=vm (c:=32) (r:=au o) (zX (d5 (au o)));have e4:bN (rdI num) (au o)=(o,true):=As (fun _ h=>OS hnum h) h1;simp only [rE];rw [e0,e1];simp only [e2,e4];rw [if_pos ⟨trivial,trivial,rfl⟩,h2,rp]
def eF (c:Int):Bool:=decide (c=0) || decide (c=3)
def kX:Nat->RepoD->Nat->Str->RepoD × Nat
 | 0,r,n,_=>(r,n)
 | f+1,r,n,s=>match eh s with
  | none=>(r,n)
  | some (o,k)=>if eF (aM r o).2=true then kX f (aM r o).1 (n+k) (s.drop k) else (r,n)
def eC (j:Str) (r:RepoD) (n:Nat):RepoD × Nat:=kX (j.length+1 - n) r n (j.drop n)
theorem mL {j:Str} {r:RepoD} {n:Nat} (hn:n<=j.length):eC j r n=match eh (j.drop n) with
  | none=>(r,n)
  | some (o,k)=>if eF (aM r o).2=true then eC j (aM r o).1 (n+k) else (r,n):=by
 unfold eC;rw [show j.length+1 - n=(j.length - n)+1 by omega,kX]
 cases h:eh (j.drop n) with
 | none=>rfl
 | some x =>
  obtain ⟨o,k⟩:=x;obtain ⟨h1,h2,r',h3⟩:=(j7 _ _ _).1 h;have hl:=congrArg List.length h3;rw [List.length_append,List.length_drop,<- h2] at hl;have hk:=xA (au o);rw [<- h2] at hk;simp only;split
  ·have e:∀ (a b:Nat) (r:RepoD) (n:Nat) (s:Str),s.length < a->s.length < b->kX a r n s=kX b r n s:=by
    intro a
    induction a with
    | zero=>intro b r n s ha; omega
    | succ a ih =>
     intro b r n s ha hb;obtain ⟨b,rfl⟩:∃ b',b=b'+1:=⟨b - 1,by omega⟩
     rw [kX,kX];cases h:eh s with
     | none=>rfl
     | some x =>
      obtain ⟨o,k⟩:=x;obtain ⟨h1,h2,r',h3⟩:=(j7 _ _ _).1 h;have hl:=congrArg List.length h3;rw [List.length_append,<- h2] at hl;have hk:=xA (au o);rw [<- h2] at hk;simp only;split
      ·exact ih _ _ _ _ (by rw [List.length_drop]; omega) (by rw [List.length_drop]; omega)
      ·rfl
   rw [List.drop_drop];exact e _ _ _ _ _ (by rw [List.length_drop]; omega) (by rw [List.length_drop]; omega)
  ·rfl
theorem step_nil:eh []=none:=rfl
theorem xS {s:Str} {o:OpD} {k:Nat} (h:eh s=some (o,k)):2<=k/\k<=s.length:=by
 obtain ⟨h1,h2,r',h3⟩:=(j7 _ _ _).1 h;have hl:=congrArg List.length h3;rw [List.length_append,<- h2] at hl;have hk:=xA (au o);rw [<- h2] at hk;omega
theorem OX {j:Str} {r:RepoD}:eC j r j.length=(r,j.length):=by rw [mL (Nat.le_refl _),List.drop_length,step_nil]
inductive Goes:RepoD->Str->RepoD->Prop where
 | nil (r):Goes r [] r
 | cons {r o l x}:opB o=true->eF (aM r o).2=true->Goes (aM r o).1 l x->Goes r (br (au o)++l) x
theorem Goes.snoc {r l x} (h:Goes r l x):∀ {o:OpD},opB o=true->eF (aM x o).2=true->Goes r (l++br (au o)) (aM x o).1:=by
 induction h with
 | nil r =>
  intro o h1 h2;have:=Goes.cons h1 h2 (.nil _)
  rwa [List.append_nil] at this
 | cons h1 h2 _ ih =>
  intro o h3 h4;rw [List.append_assoc];exact .cons h1 h2 (ih h3 h4)
theorem Goes.plR {r l x} (h:Goes r l x) (hr:plR r):plR x:=by
 induction h with
 | nil r=>exact hr
 | cons h1 h2 _ ih=>exact ih (qo hr)
theorem Goes.read {r l x} (h:Goes r l x):∀ {p t:Str},eC (p++(l++t)) r p.length=eC (p++(l++t)) x (p.length+l.length):=by
 induction h with
 | nil r=>intro p t; rfl
 | @cons r o l x h1 h2 _ ih =>
  intro p t;rw [mL (by simp),List.drop_left]
  have e:eh (br (au o)++l++t)=some (o,(br (au o)).length):=(j7 _ _ _).2 ⟨h1,rfl,l++t,by simp⟩
  rw [e];simp only;rw [if_pos h2];have k:=ih (p:=p++br (au o)) (t:=t);simp only [List.length_append,List.append_assoc] at k ⊢;rw [k]
  congr 1
  omega
theorem OY (j:Str):∀ (m:Nat) (r:RepoD) (n:Nat),j.length - n < m->n<=j.length ->
  n<=(eC j r n).2/\(eC j r n).2<=j.length/\Goes r ((j.drop n).take ((eC j r n).2 - n)) (eC j r n).1:=by
 intro m
 induction m with
 | zero=>intro r n h; omega
 | succ m ih =>
  intro r n h hn;have stay:n<=n/\n<=j.length/\Goes r ((j.drop n).take (n - n)) r:=⟨Nat.le_refl _,hn,by rw [Nat.sub_self,List.take_zero]; exact .nil _⟩
  rw [mL hn];cases hs:eh (j.drop n) with
  | none=>exact stay
  | some x =>
   obtain ⟨o,k⟩:=x;have hk:=xS hs;rw [List.length_drop] at hk;simp only;split
   ·rename_i q;obtain ⟨h1,h2,t,h3⟩:=(j7 _ _ _).1 hs;obtain ⟨i1,i2,i3⟩:=ih (aM r o).1 (n+k) (by omega) (by omega)
    refine ⟨by omega,i2,?_⟩
    generalize (eC j (aM r o).1 (n+k)).1=x at i3 ⊢;generalize (eC j (aM r o).1 (n+k)).2=e at i1 i2 i3 ⊢;have e1:(j.drop n).take (e - n)=br (au o)++(j.drop (n+k)).take (e - (n+k)):=by
     have:j.drop (n+k)=t:=by rw [<- List.drop_drop,<- h3,h2,List.drop_left]
     rw [this,<- h3,List.take_append,List.take_of_length_le (by omega)]
     congr 2; omega
    rw [e1];exact .cons h1 q i3
   ·exact stay
def aE (j:Str):RepoD × Nat:=if 1500 < j.length then (noR,0) else eC j noR 0
theorem mj (j:Str):(aE j).2<=j.length/\Goes noR (j.take (aE j).2) (aE j).1:=by
 unfold aE;split
 ·exact ⟨Nat.zero_le _,by rw [List.take_zero]; exact .nil _⟩
 ·obtain ⟨_,h2,h3⟩:=OY j (j.length+1) noR 0 (by omega) (Nat.zero_le _)
  rw [List.drop_zero,Nat.sub_zero] at h3;exact ⟨h2,h3⟩
theorem nU (j:Str):plR (aE j).1:=(mj j).2.plR rk
theorem wj {l t:Str} {x:RepoD} (h:Goes noR l x) (hl:(l++t).length<=1500) (ht:eh t=none):aE (l++t)=(x,l.length):=by
 unfold aE;rw [if_neg (by omega)]
 have k:=h.read (p:=[]) (t:=t);simp only [List.nil_append,List.length_nil,Nat.zero_add] at k;rw [k,mL (by simp),List.drop_left,ht]
theorem A9 {j t:Str} (hl:((j.take (aE j).2)++t).length<=1500) (ht:eh t=none):aE (j.take (aE j).2++t)=aE j:=by
 have h:=mj j;rw [wj h.2 hl ht,List.length_take,Nat.min_eq_left h.1]
def cy (j:Str) (o:OpD):Str × Bool :=
 if (aE j).2=j.length/\j.length<=1500/\opB o=true/\eF (aM (aE j).1 o).2=true/\(j++br (au o)).length<=1500 then (j++br (au o),true) else (j,false)
def eD (j:Str) (o:OpD) (b:Int):Str:=if (cy j o).2=true then (cy j o).1.take (j.length+(min (max 0 b) ((cy j o).1.length - j.length:Nat)).toNat) else j
theorem lx {j:Str} {o:OpD} (h:(cy j o).2=true):(cy j o).1=j++br (au o)/\(aE j).2=j.length/\j.length<=1500/\opB o=true/\eF (aM (aE j).1 o).2=true/\(j++br (au o)).length<=1500:=by
 unfold cy at h ⊢;split at h
 ·rename_i q; rw [if_pos q]; exact ⟨rfl,q⟩
 ·cases h
theorem E2 {j:Str} {o:OpD} (h:(cy j o).2=false):(cy j o).1=j:=by
 unfold cy at h ⊢;split at h
 ·cases h
 ·rename_i q; rw [if_neg q]
theorem Er {j:Str} (h:(aE j).2=j.length):Goes noR j (aE j).1:=by
 have:=(mj j).2
 rwa [h,List.take_length] at this
theorem yo {j:Str} {o:OpD} (h:(cy j o).2=true):aE (cy j o).1=((dB (aE j).1 o).1,(cy j o).1.length)/\eF (dB (aE j).1 o).2=true/\(cy j o).1.take j.length=j:=by
 obtain ⟨e,h1,h2,h3,h4,h5⟩:=lx h;have er:dB (aE j).1 o=aM (aE j).1 o:=by unfold dB; rw [if_pos (nU j).1,if_pos h3]
 rw [e,er];refine ⟨?_,h4,by simp⟩
 have g:=(Er h1).snoc h3 h4;have k:=wj (t:=[]) g (by rw [List.append_nil]; exact h5) step_nil
 rwa [List.append_nil] at k
theorem Qq {o:OpD} (h:opB o=true) {k:Nat} (hk:k < (br (au o)).length):eh ((br (au o)).take k)=none:=by
 cases q:eh ((br (au o)).take k) with
 | none=>rfl
 | some x =>
  obtain ⟨p,n⟩:=x;obtain ⟨h1,h2,t,h3⟩:=(j7 _ _ _).1 q;have e:(br (au o)).take k=(d6 (au o)).take k:=by
   rw [rp] at hk;unfold br;rw [List.take_append_of_le_length (by omega)]
  have m:(10:UInt8) ∈ (d6 (au o)).take k:=by rw [<- e,<- h3]; simp [br]
  exact absurd (List.mem_of_mem_take m) (v8 h)
theorem QK {j:Str} {o:OpD} {b:Int} (h:(cy j o).2=true) :
  (eD j o b=(cy j o).1->(aE (eD j o b)).2=(cy j o).1.length) /\
  (¬ eD j o b=(cy j o).1->aE (eD j o b)=aE j/\j.length<=(eD j o b).length/\(eD j o b).take j.length=j):=by
 obtain ⟨e,h1,h2,h3,h4,h5⟩:=lx h;refine ⟨fun q=>by rw [q,(yo h).1],fun q=>?_⟩
 have e1:∃ k,k < (br (au o)).length/\eD j o b=j++(br (au o)).take k:=by
  unfold eD at q ⊢;rw [if_pos h,e] at q ⊢;generalize hm:(min (max 0 b) (((j++br (au o)).length - j.length:Nat):Int)).toNat=k at q ⊢;have:(j++br (au o)).take (j.length+k)=j++(br (au o)).take k:=by simp [List.take_append,List.take_of_length_le]
  rw [this] at q ⊢;refine ⟨k,?_,rfl⟩;apply Nat.lt_of_not_le;intro hk;rw [List.take_of_length_le hk] at q;exact q rfl
 obtain ⟨k,hk,e2⟩:=e1;rw [e2];refine ⟨?_,by simp,by simp⟩
 have g:=wj (Er h1) (t:=(br (au o)).take k) (by
  rw [List.length_append] at h5 ⊢;rw [List.length_take]; omega) (Qq h3 hk)
 rw [g,<- h1]
theorem Qr:eh [120]=none:=rfl
theorem QJ {j:Str} {n:Nat} (h:n<=j.length) (hj:j.length < 1500):(j.take n++[120]).length<=1500:=by simp; omega
set_option maxHeartbeats 4000000
def tz:Con:=.fn 42 (OpD × Bool × Bool × Bool × Bool) (fun a=>[vOp a.1,.bool a.2.1,.bool a.2.2.1,.bool a.2.2.2.1,.bool a.2.2.2.2]) (fun a=>a.1.text.length<=1048576) (fun a=>.bool (fE a.1 a.2.1 a.2.2.1 a.2.2.2.1 a.2.2.2.2)) (fun _=>[])
theorem KH:Has Tryz.prog 80 tz:=by
 refine ag mixed ak HasL.nil [0,1,2,3,4,5,10] ((fun a n (_:Nat)=>(fun _=>an) a n)) [] Tryz.func80 (by unfold Tryz.f80; rfl) (fun _=>⟨(),trivial⟩) ?_
 intro a ha;obtain ⟨o,p,t,a,x⟩:=a;replace ha:o.text.length<=1048576:=ha;simp (maxSteps:=8000000) -implicitDefEqProofs [-kStep_move,-Bool.exists_bool,tz,Con.fn,ae];unfold fE;by_cases h1:o.path=[] <;> by_cases h2:o.to_=[] <;> by_cases h3:o.at_=0 <;> by_cases h4:o.text=[] <;> simp -implicitDefEqProofs [h1,h2,h3,h4] <;> cases p <;> cases t <;> cases a <;> cases x <;> simp -implicitDefEqProofs <;> omega
def wB (t:List Str):Inv:=⟨Nat,fun i=>⟨[(0,true,.sl true 1 (aa t)),(2,true,.bool false),(3,true,.int .i64 i)],[]⟩,fun i=>i<=t.length/\(t.take i).all eo=true,fun i=>t.length - i⟩
def wz (t:List Str) (g:Nat):Inv:=⟨Nat,fun k=>⟨[(0,true,.sl true 1 (aa t)),(2,true,.bool false),(3,true,.int .i64 g),(4,true,.int .i64 k)],[]⟩,fun k=>g < t.length/\(t.take g).all eo=true/\k<=(t.getD g []).length/\((t.getD g []).take k).all (fun b=>decide (b ≠ 124))=true,fun k=>(t.getD g []).length - k⟩
def wA (t:List Str) (n g:Nat):Inv:=if n=2 then wB t else wz t g
theorem KI (t g):wA t 2 g=wB t:=rfl
theorem KJ (t g):wA t 5 g=wz t g:=rfl
def tC:Con:=.fn 29 (List Str) (fun t=>[.sl true 1 (aa t)]) (fun _=>True) (fun t=>.bool (eV t)) (fun _=>[])
theorem KK:Has Tryz.prog 82 tC:=by
 refine ag mixed ak (HasL.cons wF HasL.nil) [0,2,3,4] (fun t=>wA t) [] Tryz.func82 (by unfold Tryz.f82; rfl) (fun _=>⟨(),trivial⟩) ?_
 intro (t:List Str) _;simp -implicitDefEqProofs [tC,nq,Con.fn,ae,KI,KJ,wB,wz]
 try dsimp only
 have e0:∀ i (h:i < t.length),¬ eo t[i]=true->eV t=false:=fun i h hb=>by
  unfold eV;rw [Bool.and_eq_false_iff]; left
  rw [List.all_eq_false];exact ⟨_,List.getElem_mem h,hb⟩
 refine fun i hi hp _=>⟨fun hlt=>⟨i,⟨0,⟨rfl,rfl⟩,hlt,hp,Nat.zero_le _,by simp⟩,fun k _ _ hk hq=>?_⟩,fun hge=>?_⟩
 ·have e1:=e0 i hlt;have e2:t[i]?.getD []=t[i]:=by simp -implicitDefEqProofs [hlt]
  have qq:Option.map al t[i]? = some (al t[i]):=by simp -implicitDefEqProofs [hlt]
  have e3:(t.take (i+1)).all eo=((t.take i).all eo && eo t[i]):=bl hlt;rw [e2] at hk hq ⊢;rw [qq];generalize t[i]=s at *;simp -implicitDefEqProofs [al,D.asStr];have hex:∀ h:k < List.length s,s[k]?.getD 0=s[k]:=fun h=>by simp -implicitDefEqProofs [h]
  refine ⟨hlt,fun _ _=>⟨fun hl=>⟨hlt,fun _=>⟨hl,fun _=>?_⟩⟩,fun hg=>⟨⟨by omega,by omega⟩,fun _ _=>⟨i+1,by omega,⟨by omega,?_⟩,by omega⟩⟩⟩⟩
  ·rw [hex hl];have hb:=List.getElem_mem hl;refine ⟨fun hc=>e1 (fun hb2=>?_),fun hc=>⟨⟨by omega,by omega⟩,fun _ _=>⟨k+1,by omega,⟨hlt,‹∀ x ∈ List.take i t,eo x=true›,by omega,fun x hx=>?_⟩,by omega⟩⟩⟩
   ·unfold eo at hb2;have:=List.all_eq_true.1 hb2 _ hb;simp only [ne_eq,decide_not,Bool.not_eq_true',decide_eq_false_iff_not] at this;exact this (UInt8.toNat_inj.1 (by simp; omega))
   ·rw [bg hl] at hx;rcases List.mem_append.1 hx with hx | hx
    ·exact hq x hx
    ·simp only [List.mem_singleton] at hx;subst hx;intro e; rw [e] at hc; exact hc rfl
  ·have hs:eo s=true:=by
    unfold eo;rw [List.all_eq_true];intro x hx;have:=hq x (by rw [List.take_of_length_le hg]; exact hx)
    simp -implicitDefEqProofs [this]
   rw [hs,Bool.and_true] at e3;have hp':(List.take i t).all eo=true:=List.all_eq_true.2 ‹∀ x ∈ List.take i t,eo x=true›;rw [hp'] at e3;exact List.all_eq_true.1 e3
 ·have e:t.take i=t:=List.take_of_length_le hge;rw [e] at hp;unfold eV;rw [List.all_eq_true.2 hp,Bool.true_and]
def pG:Con:=.fn 72 OpD (fun o=>[vOp o]) (fun o=>o.text.length<=1048576) (fun o=>.bool (opB o)) (fun _=>[])
theorem Bq:Has Tryz.prog 34 pG:=by
 refine ag mixed ak (HasL.cons mq (HasL.cons KH (HasL.cons wN (HasL.cons KK (HasL.cons kO HasL.nil))))) [0,1,2,14,52,62] ((fun a n (_:Nat)=>(fun _=>an) a n)) [] Tryz.func34 (by unfold Tryz.f34; rfl) (fun _=>⟨(),trivial⟩) ?_
 intro (o:OpD) (ha:o.text.length<=1048576);simp (maxSteps:=8000000) -implicitDefEqProofs [-kStep_move,-Bool.exists_bool,pG,jF,tz,ns,tC,iZ,Con.fn,ae,bOp]
 try dsimp only
 simp -implicitDefEqProofs only [and_assoc,exists_eq_left,exists_and_left,OpD.ex1,OpD.eta];have hk:o.kind=1 \/ o.kind=2 \/ o.kind=3 \/ o.kind=4 \/ o.kind=5 \/ o.kind=6 \/ o.kind=7 \/ (¬ o.kind=1 /\ ¬ o.kind=2 /\ ¬ o.kind=3 /\ ¬ o.kind=4 /\ ¬ o.kind=5 /\ ¬ o.kind=6 /\ ¬ o.kind=7):=by omega
 unfold opB;generalize bc o.branch=b1;generalize bc o.who=b2;generalize c6 o.path=b3;generalize c6 o.to_=b4;generalize bc o.to_=b5;generalize eV o.text=b6;rcases hk with h | h | h | h | h | h | h | h <;> simp -implicitDefEqProofs [h,ha]
 all_goals grind
def wordsO:List Str:=[[],[115,101,116],[100,114,111,112],[109,111,118,101],[102,111,114,107],[117,110,105,116,101],[112,105,99,107],[98,97,99,107]]
def pU:Con:=.fn 2 Unit (fun _=>[]) (fun _=>True) (fun _=>.sl false 1 (aa wordsO)) (fun _=>[])
theorem CI:Has Tryz.prog 111 pU:=by
 refine ag mixed ak HasL.nil [0] ((fun a n (_:Nat)=>(fun _=>an) a n)) [] Tryz.func111 (by unfold Tryz.f111; rfl) (fun _=>⟨(),trivial⟩) ?_
 intro _ _;simp -implicitDefEqProofs [pU,Con.fn,ae,wordsO,aa,al]
def pH:Con:=.fn 2 Unit (fun _=>[]) (fun _=>True) (fun _=>.sl false 1 (aa wordsO)) (fun _=>[])
theorem Br:Has Tryz.prog 99 pH:=by
 refine ag mixed ak HasL.nil [0] ((fun a n (_:Nat)=>(fun _=>an) a n)) [] Tryz.func99 (by unfold Tryz.f99; rfl) (fun _=>⟨(),trivial⟩) ?_
 intro _ _;simp -implicitDefEqProofs [pH,Con.fn,ae,wordsO,aa,al]
theorem FK (t:List Str) (l:Str):bS (t++[l])=bS t++124 :: l:=by simp -implicitDefEqProofs [bS]
theorem yV {t:List Str} {i:Nat} (h:i < t.length):bS (t.take (i+1))=bS (t.take i)++124 :: t[i]:=by rw [List.take_succ_eq_append_getElem h,FK]
theorem lE:∀ {t:List Str} {k:Nat},(∀ l ∈ t,l.length<=k)->(bS t).length<=t.length * (k+1)
 | [],k,_=>by simp -implicitDefEqProofs [bS]
 | l :: t,k,h=>by
  have e:bS (l :: t)=124 :: (l++bS t):=rfl;have h1:=lE (t:=t) (k:=k) (fun x hx=>h x (by simp -implicitDefEqProofs [hx]))
  have h2:=h l (by simp)
  rw [e];simp only [List.length_cons,List.length_append];rw [Nat.add_mul]; omega
theorem qZ {t:List Str} (h:eV t=true):t.length<=10 /\ ∀ l ∈ t,l.length<=12:=by
 unfold eV bD at h;simp only [Bool.and_eq_true,decide_eq_true_eq,List.all_eq_true] at h;refine ⟨h.2.1,fun l hl=>?_⟩;have:=h.2.2 l hl;unfold gq at this;simp only [Bool.and_eq_true,decide_eq_true_eq] at this;exact this.1
def tw:Con:=.fn 18 (List Str) (fun t=>[.sl true 1 (aa t)]) (fun t=>t.length<=10 /\ ∀ l ∈ t,l.length<=12) (fun t=>.str (bS t)) (fun _=>[])
theorem JD:Has Tryz.prog 157 tw:=by
 refine ag mixed ak HasL.nil [0,2,3,5,6,7,8] ((fun a n (_:Nat)=>(fun t _=>⟨Nat,fun i=>⟨[(2,true,.str []),(3,true,.str (bS (t.take i))),(6,true,.sl true 1 (aa t)),(7,true,.int .i64 t.length),(8,true,.int .i64 i)],[]⟩,fun i=>i<=t.length,fun i=>t.length - i⟩) a n)) [] Tryz.func157 (by unfold Tryz.f157; rfl) (fun _=>⟨(),trivial⟩) ?_
 intro (t:List Str) ht;obtain ⟨h1,h2⟩:t.length<=10 /\ ∀ l ∈ t,l.length<=12:=ht;simp -implicitDefEqProofs [tw,Con.fn,ae]
 try dsimp only
 have hl:∀ i,(bS (t.take i)).length<=130:=fun i=>by
  have:=lE (t:=t.take i) (k:=12) (fun l hl=>h2 l (List.mem_of_mem_take hl));have h3:(t.take i).length<=10:=by rw [List.length_take]; omega
  omega
 refine fun _=>⟨⟨0,⟨rfl,rfl⟩,Nat.zero_le _⟩,fun i hi=>⟨fun hlt=>⟨hlt,fun _=>?_⟩,fun hge=>by rw [List.take_of_length_le hge]⟩⟩
 have qq:Option.map al t[i]? = some (al t[i]):=by simp -implicitDefEqProofs [hlt]
 have k1:=h2 t[i] (List.getElem_mem hlt);have k2:=hl i;have k3:=yV hlt;rw [qq];simp -implicitDefEqProofs [al,D.asStr,maxLen];exact ⟨by omega,fun _=>⟨by omega,fun _=>⟨by omega,fun _ _=>⟨i+1,⟨k3,by omega⟩,by omega,by omega⟩⟩⟩⟩
theorem Bm (k:Int):(bZ k).length<=5:=by
 unfold bZ
 repeat' split
 all_goals decide
theorem gE {p:Str} (h:c6 p=true):p.length<=20:=(kV (by rw [gD]; exact h)).2
def pT:Con:=.fn 59 OpD (fun o=>[vOp o]) (fun o=>opB o=true) (fun o=>.str (au o)) (fun _=>[])
theorem CH:Has Tryz.prog 104 pT:=by
 refine ag mixed ak (HasL.cons CI (HasL.cons JD (HasL.cons JA HasL.nil))) [0,1,2,3,19,47] ((fun a n (_:Nat)=>(fun _=>an) a n)) [] Tryz.func104 (by unfold Tryz.f104; rfl) (fun _=>⟨(),trivial⟩) ?_
 intro (o:OpD) (ho:opB o=true);obtain ⟨⟨n1,n2⟩,h⟩:=kS ho;have l1:=(gv n1).2;have l2:=(gv n2).2;rcases h with ⟨b,w,p,t,rfl,h1,h2⟩ | ⟨b,w,p,rfl,h1⟩ | ⟨b,w,p,q,rfl,h1,h2⟩ | ⟨b,w,q,rfl,h1⟩ | ⟨b,w,q,rfl,h1⟩ | ⟨b,w,a,rfl,h1,h2⟩ | ⟨b,w,a,rfl,h1,h2⟩
 all_goals simp (maxSteps:=8000000) -implicitDefEqProofs [pT,pU,tw,tr,Con.fn,ae,bOp,wordsO,aa,al,D.asStr,maxLen]
 all_goals simp only at l1 l2
 ·have k1:=gE h1;obtain ⟨k2,k3⟩:=qZ h2;have k4:=lE k3
  repeat refine ⟨by omega,fun _=>?_⟩
  exact ⟨t,rfl,⟨k2,k3⟩,by omega,fun _=>rfl⟩
 ·have k1:=gE h1
  repeat refine ⟨by omega,fun _=>?_⟩
  rfl
 ·have k1:=gE h1;have k2:=gE h2
  repeat refine ⟨by omega,fun _=>?_⟩
  rfl
 ·have k1:=(gv h1).2
  repeat refine ⟨by omega,fun _=>?_⟩
  rfl
 ·have k1:=(gv h1).2
  repeat refine ⟨by omega,fun _=>?_⟩
  rfl
 ·have k1:=kF a.toNat
  repeat refine ⟨by omega,fun _=>?_⟩
  exact ⟨a.toNat,by omega,by omega,by omega,fun _=>rfl⟩
 ·have k1:=kF a.toNat
  repeat refine ⟨by omega,fun _=>?_⟩
  exact ⟨a.toNat,by omega,by omega,by omega,fun _=>rfl⟩
def mI (o:OpD):Prop:=(1<=o.kind/\o.kind<=7)/\o.branch.length<=20/\o.who.length<=20/\o.path.length<=20/\o.to_.length<=20/\(0<=o.at_/\o.at_<=15)/\o.text.length<=10 /\ ∀ l ∈ o.text,l.length<=12
theorem mK {o:OpD} (h:opB o=true):mI o:=by
 obtain ⟨⟨n1,n2⟩,h⟩:=kS h;have l1:=(gv n1).2;have l2:=(gv n2).2;rcases h with ⟨b,w,p,t,rfl,h1,h2⟩ | ⟨b,w,p,rfl,h1⟩ | ⟨b,w,p,q,rfl,h1,h2⟩ | ⟨b,w,q,rfl,h1⟩ | ⟨b,w,q,rfl,h1⟩ | ⟨b,w,a,rfl,h1,h2⟩ | ⟨b,w,a,rfl,h1,h2⟩
 all_goals simp only at l1 l2
 all_goals simp only [mI]
 ·have k1:=gE h1;obtain ⟨k2,k3⟩:=qZ h2;exact ⟨⟨by omega,by omega⟩,by omega,by omega,k1,by simp,⟨by omega,by omega⟩,k2,k3⟩
 ·have k1:=gE h1;exact ⟨⟨by omega,by omega⟩,by omega,by omega,k1,by simp,⟨by omega,by omega⟩,by simp,by simp⟩
 ·have k1:=gE h1;have k2:=gE h2;exact ⟨⟨by omega,by omega⟩,by omega,by omega,k1,k2,⟨by omega,by omega⟩,by simp,by simp⟩
 ·have k1:=(gv h1).2;exact ⟨⟨by omega,by omega⟩,by omega,by omega,by simp,by omega,⟨by omega,by omega⟩,by simp,by simp⟩
 ·have k1:=(gv h1).2;exact ⟨⟨by omega,by omega⟩,by omega,by omega,by simp,by omega,⟨by omega,by omega⟩,by simp,by simp⟩
 ·exact ⟨⟨by omega,by omega⟩,by omega,by omega,by simp,by simp,⟨h1,h2⟩,by simp,by simp⟩
 ·exact ⟨⟨by omega,by omega⟩,by omega,by omega,by simp,by simp,⟨h1,h2⟩,by simp,by simp⟩
def nk:Con:=.fn 76 OpD (fun o=>[vOp o]) mI (fun o=>.str (au o)) (fun _=>[])
def mH (o:OpD):Str:=bZ o.kind++32 :: (o.branch++32 :: (o.who++32 :: (o.path++[32])))
def Bs (o:OpD):Inv:=⟨Nat,fun i=>⟨[(1,true,.ptr 10 0),(2,true,.str []),(3,true,.str (mH o++bS (o.text.take i))),(4,true,.int .i64 i),(19,true,.int .i64 o.kind)],[(10,bOp o)]⟩,fun i=>i<=o.text.length,fun i=>o.text.length - i⟩
theorem wC:Has Tryz.prog 46 nk:=by
 refine ag mixed ak (HasL.cons Br (HasL.cons KP HasL.nil)) [0,1,2,3,4,19,67] ((fun a n (_:Nat)=>(fun o _=>Bs o) a n)) [] Tryz.func46 (by unfold Tryz.f46; rfl) (fun _=>⟨(),trivial⟩) ?_
 intro (o:OpD) (ho:mI o);obtain ⟨k,b,w,p,q,a,t⟩:=o;obtain ⟨⟨hk1,hk7⟩,l1,l2,l3,l4,⟨l5,l6⟩,k2,k3⟩:=ho;simp only at hk1 hk7 l1 l2 l3 l4 l5 l6 k2 k3;have hk:k=1 \/ k=2 \/ k=3 \/ k=4 \/ k=5 \/ k=6 \/ k=7:=by omega
 clear hk1 hk7;rcases hk with rfl | rfl | rfl | rfl | rfl | rfl | rfl
 all_goals simp (maxSteps:=8000000) -implicitDefEqProofs [nk,pH,tE,Con.fn,ae,bOp,wordsO,aa,al,D.asStr,maxLen,Bs]
 ·have hl:∀ i,(bS (t.take i)).length<=130:=fun i=>by
   have:=lE (t:=t.take i) (k:=12) (fun l hl=>k3 l (List.mem_of_mem_take hl));have h3:(t.take i).length<=10:=by rw [List.length_take]; omega
   omega
  have hP:(mH ⟨1,b,w,p,q,a,t⟩).length<=70:=by simp -implicitDefEqProofs [mH,bZ]; omega
  have e:au ⟨1,b,w,p,q,a,t⟩=mH ⟨1,b,w,p,q,a,t⟩++bS t:=by simp -implicitDefEqProofs [au,mH,ce,bZ]
  have e0:mH ⟨1,b,w,p,q,a,t⟩=115 :: 101 :: 116 :: 32 :: (b++32 :: (w++32 :: (p++[32]))):=rfl
  repeat refine ⟨by omega,fun _=>?_⟩
  refine ⟨⟨0,⟨by rw [e0]; simp -implicitDefEqProofs [bS],rfl⟩,Nat.zero_le _⟩,fun i hi _=>⟨fun hlt=>?_,fun hge=>by rw [e,List.take_of_length_le hge]⟩⟩
  have qq:Option.map al t[i]? = some (al t[i]):=by simp -implicitDefEqProofs [hlt]
  have q1:=k3 t[i] (List.getElem_mem hlt);have q2:=hl i;have q3:=yV hlt;rw [qq];simp -implicitDefEqProofs [al];exact ⟨by omega,fun _=>⟨hlt,fun _=>⟨by omega,fun _=>⟨by omega,fun _ _=>⟨i+1,⟨q3,by omega⟩,by omega,by omega⟩⟩⟩⟩⟩
 ·repeat refine ⟨by omega,fun _=>?_⟩
  rfl
 ·repeat refine ⟨by omega,fun _=>?_⟩
  rfl
 ·repeat refine ⟨by omega,fun _=>?_⟩
  rfl
 ·repeat refine ⟨by omega,fun _=>?_⟩
  rfl
 ·have k1:=kF a.toNat
  repeat refine ⟨by omega,fun _=>?_⟩
  exact ⟨a.toNat,by omega,by omega,by omega,fun _=>rfl⟩
 ·have k1:=kF a.toNat
  repeat refine ⟨by omega,fun _=>?_⟩
  exact ⟨a.toNat,by omega,by omega,by omega,fun _=>rfl⟩
theorem Ey (a b n:Nat) (ha:a < 4294967296) (hb:b < 4294967296) (hn:4294967296<=2 ^ n) :
  (BitVec.ofInt n (a:Int) ^^^ BitVec.ofInt n (b:Int)).toNat=a ^^^ b:=by
 simp [BitVec.toNat_xor,Nat.mod_eq_of_lt (show a < 2 ^ n by omega),Nat.mod_eq_of_lt (show b < 2 ^ n by omega)]
theorem su {a b:Nat} (ha:a < 4294967296) (hb:b < 4294967296):dD .xor .i64 (a:Int) (b:Int)=((a ^^^ b:Nat):Int):=by
 have h:=lS a b ha hb
 show IntKind.i64.wrap ((BitVec.ofInt IntKind.i64.bits (a:Int) ^^^ BitVec.ofInt IntKind.i64.bits (b:Int)).toNat:Int)=_
 rw [Ey a b _ ha hb (show 4294967296<=2 ^ IntKind.i64.bits by decide),IntKind.wrap_i64]; omega
theorem ss {a b:Nat} (ha:a < 4294967296) (hb:b < 4294967296):dD .xor .u32 (a:Int) (b:Int)=((a ^^^ b:Nat):Int):=by
 have h:=lS a b ha hb
 show IntKind.u32.wrap ((BitVec.ofInt IntKind.u32.bits (a:Int) ^^^ BitVec.ofInt IntKind.u32.bits (b:Int)).toNat:Int)=_
 rw [Ey a b _ ha hb (show 4294967296<=2 ^ IntKind.u32.bits by decide),IntKind.wrap_u32]; omega
theorem za {q:Nat} (hq:q < 4294967296):dD .and .u32 (q:Int) 1=((q % 2:Nat):Int):=by
 have e:(BitVec.ofInt IntKind.u32.bits (q:Int) &&& BitVec.ofInt IntKind.u32.bits 1).toNat=q % 2:=by
  show (BitVec.ofInt 32 (q:Int) &&& BitVec.ofInt 32 1).toNat=q % 2
  rw [BitVec.toNat_and,BitVec.ofInt_natCast,BitVec.toNat_ofNat,Nat.mod_eq_of_lt (by omega)]
  exact Nat.and_one_is_mod q
 show IntKind.u32.wrap ((BitVec.ofInt IntKind.u32.bits (q:Int) &&& BitVec.ofInt IntKind.u32.bits 1).toNat:Int)=_
 rw [e,IntKind.wrap_u32]; omega
def eq (s:Str) (i:Nat):Nat:=jd (s.take i) 4294967295
def cX (s:Str) (i k:Nat):Nat:=kD k (eq s i ^^^ (s.getD i 0).toNat)
theorem nF (s:Str) (i:Nat):eq s i < 4294967296:=zF _ _ (by omega)
theorem zH (s:Str) (i k:Nat):cX s i k < 4294967296:=zM _ _ (lS _ _ (nF _ _) (lG _))
theorem zC (s:Str):eq s 0=4294967295:=by simp [eq,jd]
theorem zD (s:Str):eq s s.length=qg s:=by simp [eq,jd,qg]
theorem zE {s:Str} {i:Nat} (h:i < s.length):eq s (i+1)=cX s i 8:=by
 unfold eq cX;rw [List.take_succ_eq_append_getElem h,GS]
 show kD 8 (jd (s.take i) 4294967295 ^^^ s[i].toNat)=kD 8 (eq s i ^^^ (s.getD i 0).toNat)
 rw [show s.getD i 0=s[i] by simp [List.getD,List.getElem?_eq_getElem h]]
 rfl
theorem zJ (s:Str) (i k:Nat):cX s i (k+1)=lR (cX s i k):=rfl
theorem zI {s:Str} {i k:Nat} (h:cX s i k % 2=1):cX s i (k+1)=(cX s i k / 2) ^^^ 3988292384:=by rw [zJ]; unfold lR; rw [if_pos h]
theorem zG {s:Str} {i k:Nat} (h:¬ cX s i k % 2=1):cX s i (k+1)=cX s i k / 2:=by rw [zJ]; unfold lR; rw [if_neg h]
theorem nG (s:Str):d5 s < 4294967296:=lS _ _ (GU s) (by omega)
def oM:List (Nat × TI):=(156,⟨false,[.int .u32],4,[],0⟩) :: ae
theorem D5:∀ t ti,ai oM t=some ti->TOk Tryz.prog t ti:=rF (by kernel_rfl)
def qh (k:IntKind) (s:Str):Inv:=⟨Nat,fun i=>⟨[(0,true,.str s),(2,true,.int .i64 0),(3,true,.int k (eq s i:Nat)),(4,true,.int .i64 i)],[]⟩,fun i=>i<=s.length,fun i=>s.length - i⟩
def qf (k:IntKind) (s:Str) (g:Nat):Inv:=⟨Nat,fun j=>⟨[(0,true,.str s),(2,true,.int .i64 0),(3,true,.int k (cX s g j:Nat)),(4,true,.int .i64 g),(5,true,.int .i64 j)],[]⟩,fun j=>g < s.length/\j<=8,fun j=>8 - j⟩
def qe (k:IntKind) (s:Str) (n g:Nat):Inv:=if n=3 then qh k s else qf k s g
theorem zK (k s g):qe k s 3 g=qh k s:=rfl
theorem zL (k s g):qe k s 7 g=qf k s g:=rfl
def pJ:Con:=.fn 32 Str (fun s=>[.str s]) (fun s=>s.length<=1073741824) (fun s=>.int .i64 (d5 s:Nat)) (fun _=>[])
theorem Bz:Has Tryz.prog 61 pJ:=by
 refine ag mixed D5 HasL.nil [0,2,3,4,5] (qe .i64) [] Tryz.func61 (by unfold Tryz.f61; rfl) (fun _=>⟨(),trivial⟩) ?_
 intro (s:Str) (hs:s.length<=1073741824);simp -implicitDefEqProofs [pJ,Con.fn,oM,ae,zK,zL,qh,qf]
 try dsimp only
 have L:=zH s;have X1:∀ t,dD .xor .i64 (eq s t:Int) ((s[t]?.getD 0).toNat:Int)=(cX s t 0:Int):=fun t=>by rw [su (nF s t) (lG _)]; rfl
 have X2:∀ g j,dD .xor .i64 ((cX s g j:Int) / 2) 3988292384=((cX s g j / 2 ^^^ 3988292384:Nat):Int):=fun g j=>by
  have:=L g j;rw [show ((cX s g j:Int) / 2)=((cX s g j / 2:Nat):Int) by omega,show (3988292384:Int)=((3988292384:Nat):Int) by rfl,su (by omega) (by omega)]
 have X3:∀ t,dD .xor .i64 (eq s t:Int) 4294967295=((eq s t ^^^ 4294967295:Nat):Int):=fun t=>by rw [show (4294967295:Int)=((4294967295:Nat):Int) by rfl,su (nF s t) (by omega)]
 have T:∀ g j,((cX s g j:Nat):Int).tmod 2=((cX s g j % 2:Nat):Int):=fun g j=>(Int.ofNat_tmod _ 2).symm;refine ⟨⟨0,⟨by rw [zC]; rfl,rfl⟩,Nat.zero_le _⟩,fun t ht _=>⟨fun hlt=>⟨hlt,fun _=>⟨by have:=lG (s[t]?.getD 0); omega,fun _=>⟨t,⟨0,⟨(X1 t).symm,rfl,rfl⟩,hlt,by omega⟩,fun j hg hj=>⟨fun hj8=>⟨fun hp=>⟨by have:=L t j; omega,fun _ _=>⟨by omega,fun _ _=>⟨j+1,⟨?_,by omega⟩,⟨hg,by omega⟩,by omega⟩⟩⟩,fun hp=>⟨by have:=L t j; omega,fun _ _=>⟨by omega,fun _ _=>⟨j+1,⟨?_,by omega⟩,⟨hg,by omega⟩,by omega⟩⟩⟩⟩,fun hj8=>⟨by omega,fun _ _=>⟨t+1,⟨?_,by omega⟩,by omega,by omega⟩⟩⟩⟩⟩⟩,fun hge=>?_⟩⟩
 ·rw [T] at hp; rw [X2,zI (by omega)]
 ·rw [T] at hp; rw [zG (by omega)]; omega
 ·rw [zE hlt,show j=8 by omega]
 ·rw [X3,show t=s.length by omega,zD]; rfl
--TAB oM
def sK:Con:=.fn 33 Str (fun s=>[.str s]) (fun s=>s.length<=1073741824) (fun s=>.int .i64 (d5 s:Nat)) (fun _=>[])
theorem GT:Has Tryz.prog 106 sK:=by
 refine ag mixed D5 HasL.nil [0,2,3,4,5] (qe .u32) [] Tryz.func106 (by unfold Tryz.f106; rfl) (fun _=>⟨(),trivial⟩) ?_
 intro (s:Str) (hs:s.length<=1073741824);simp -implicitDefEqProofs [sK,Con.fn,oM,oM,ae,zK,zL,qh,qf]
 try dsimp only
 have L:=zH s;have X1:∀ t,dD .xor .u32 (eq s t:Int) ((s[t]?.getD 0).toNat:Int)=(cX s t 0:Int):=fun t=>by rw [ss (nF s t) (lG _)]; rfl
 have F:∀ g j,((cX s g j:Nat):Int).fdiv (2 ^ min 1 IntKind.u32.bits)=((cX s g j / 2:Nat):Int):=fun g j=>by rw [show ((2:Int) ^ min 1 IntKind.u32.bits)=2 by rfl,Int.fdiv_eq_ediv_of_nonneg _ (by omega)]; omega
 have X2:∀ g j,dD .xor .u32 ((cX s g j / 2:Nat):Int) 3988292384=((cX s g j / 2 ^^^ 3988292384:Nat):Int):=fun g j=>by
  have:=L g j;rw [show (3988292384:Int)=((3988292384:Nat):Int) by rfl,ss (by omega) (by omega)]
 have X3:∀ t,dD .xor .u32 (if IntKind.u32.signed=true then -1 else IntKind.u32.max) (eq s t:Int)=((eq s t ^^^ 4294967295:Nat):Int):=fun t=>by rw [show (if IntKind.u32.signed=true then (-1:Int) else IntKind.u32.max)=((4294967295:Nat):Int) by rfl,ss (by omega) (nF s t),Nat.xor_comm]
 refine ⟨⟨0,⟨by rw [zC]; rfl,rfl⟩,Nat.zero_le _⟩,fun t ht _=>⟨fun hlt=>⟨hlt,fun _=>⟨by have:=lG (s[t]?.getD 0); omega,fun _=>⟨t,⟨0,⟨(X1 t).symm,rfl,rfl⟩,hlt,by omega⟩,fun j hg hj=>⟨fun hj8=>⟨fun hp=>⟨by omega,fun _ _=>⟨j+1,⟨?_,by omega⟩,⟨hg,by omega⟩,by omega⟩⟩,fun hp=>⟨by omega,fun _ _=>⟨j+1,⟨?_,by omega⟩,⟨hg,by omega⟩,by omega⟩⟩⟩,fun hj8=>⟨by omega,fun _ _=>⟨t+1,⟨?_,by omega⟩,by omega,by omega⟩⟩⟩⟩⟩⟩,fun hge=>?_⟩⟩
 ·rw [za (L t j)] at hp; rw [F,X2,zI (by omega)]
 ·rw [za (L t j)] at hp; rw [F,zG (by omega)]
 ·rw [zE hlt,show j=8 by omega]
 ·rw [X3,show t=s.length by omega,zD]
  have:=nG s;exact ⟨by show _/\((d5 s:Nat):Int)<=_; omega,fun _ _=>rfl⟩
theorem vn {c:UInt8} {m:Nat}:∀ {s p:Str} {n:Nat},aw s c < 0->aK (c.toNat:Int) m s p n=[p++s]
 | [],p,n,_=>by simp [aK]
 | b :: l,p,n,h=>by
  simp only [aw] at h;split at h
  ·omega
  ·rename_i hb;split at h
   ·rename_i hl;have hx:¬ (b.toNat:Int)=c.toNat:=fun e=>hb (UInt8.toNat_inj.1 (by omega))
    rw [aK];split
    ·first
      | rw [if_neg hx,vn hl]; simp
      | rw [vn hl]; simp
    ·rfl
   ·omega
theorem zQ {c:UInt8} {m n:Nat} (hn:n < m):∀ {s p:Str},0<=aw s c->aK (c.toNat:Int) m s p n=(p++s.take (aw s c).toNat) :: aK (c.toNat:Int) m (s.drop ((aw s c).toNat+1)) [] (n+1)
 | [],p,h=>by simp [aw] at h
 | b :: l,p,h=>by
  by_cases hb:b=c
  ·subst hb;simp [aw,aK,hn]
  ·have hx:¬ (b.toNat:Int)=c.toNat:=fun e=>hb (UInt8.toNat_inj.1 (by omega))
   simp only [aw,if_neg hb] at h ⊢;split at h
   ·omega
   ·rename_i hl;rw [if_neg hl];have e:(aw l c+1).toNat=(aw l c).toNat+1:=by omega
    rw [e,aK,if_pos hn,if_neg hx,zQ hn (by omega)]
    simp
def m5 (s:Str):Nat:=min 4 s.length
def s5:Con:=.fn 66 (Str × UInt8) (fun a=>[.str a.1,.str [a.2],.int .i64 0,.int .i64 5]) (fun a=>a.1.length<=1073741824) (fun a=>.sl false 1 (aa (aB a.1 a.2.toNat 4))) (fun _=>[])
theorem Ij:Has Tryz.prog 160 s5:=by
 refine ag mixed ak (HasL.cons xT HasL.nil) [0,1,2,3,8,9,10,11] ((fun a n (_:Nat)=>(fun a _=>⟨List Str × Str,fun t=>⟨[(0,true,.str t.2),(1,true,.str [a.2]),(2,true,.int .i64 0),(3,true,.int .i64 (m5 a.1)),(8,true,.nil),(9,true,.own 9 1 (aa (cF (m5 a.1+1) t.1))),(10,true,.int .i64 t.1.length)],dk 9 (cF (m5 a.1+1) t.1)⟩,fun t=>t.1.length<=m5 a.1/\t.1.length+t.2.length<=a.1.length/\t.1++aK (a.2.toNat:Int) 4 t.2 [] t.1.length=aB a.1 a.2.toNat 4,fun t=>m5 a.1 - t.1.length⟩) a n)) [] Tryz.func160 (by unfold Tryz.f160; rfl) (fun _=>⟨(),trivial⟩) ?_
 intro a ha;obtain ⟨s,c⟩:=a;replace ha:s.length<=1073741824:=ha;have hm:m5 s<=4/\m5 s<=s.length:=by unfold m5; omega
 have hif:(if (s.length:Int)+1 < 5 then (s.length:Int)+1 else 5)=((m5 s+1:Nat):Int):=by unfold m5; omega
 have hif':(if (s.length:Int)+1 < 5 then (s.length:Int)+1 else 5)=(m5 s:Int)+1:=by rw [hif]; omega
 simp -implicitDefEqProofs [s5,pY,Con.fn,ae]
 try dsimp only
 have hr:(List.replicate ((m5 s:Int)+1).toNat [D.str []])=aa (cF (m5 s+1) []):=by rw [show ((m5 s:Int)+1).toNat=m5 s+1 by omega,nQ,aT]
 have K0:m5 s=4 \/ m5 s=s.length:=by unfold m5; omega
 have K1:∀ (a:List Str),a.length<=m5 s->a.length < (cF (m5 s+1) a).length:=fun a h=>by rw [vX _ _ (by omega)]; omega
 have K2:∀ (a:List Str) (b:Str),a.length<=m5 s->a.length+b.length<=s.length->a++aK (c.toNat:Int) 4 b [] a.length=aB s c.toNat 4->(aw b c < 0 \/ m5 s<=a.length)->aB s c.toNat 4=((cF (m5 s+1) a).set a.length b).take (a.length+1):=by
  intro a b h1 h2 h3 h4;have h5:aK (c.toNat:Int) 4 b [] a.length=[b]:=by
   rcases h4 with h | h
   ·rw [vn h]; rfl
   ·rcases K0 with k | k
    ·rw [qk (by omega)]; rfl
    ·have:b=[]:=List.eq_nil_of_length_eq_zero (by omega)
     subst this; rfl
  rw [<- h3,h5,me _ _ _ (by omega)]
  unfold cF;rw [List.take_left' (by simp)]
 have K3:∀ (b:Str),aw b c < b.length:=fun b=>wa b c;have K4:∀ (a:List Str) (b:Str),a.length < m5 s->a.length+b.length<=s.length->a++aK (c.toNat:Int) 4 b [] a.length=aB s c.toNat 4->0<=aw b c ->
   ∃ x,cF (m5 s+1) x=(cF (m5 s+1) a).set a.length (b.take (aw b c).toNat)/\x.length=a.length+1/\(cF (m5 s+1) a).set a.length (b.take (aw b c).toNat)=cF (m5 s+1) x /\
    x.length<=m5 s/\x.length+(b.length - (aw b c+1).toNat)<=s.length /\
    x++aK (c.toNat:Int) 4 ((b.drop (aw b c+1).toNat).take (b.length - (aw b c+1).toNat)) [] x.length=aB s c.toNat 4/\m5 s - x.length < m5 s - a.length:=by
  intro a b h1 h2 h3 h4;have e1:(aw b c+1).toNat=(aw b c).toNat+1:=by omega
  have e2:(b.drop (aw b c+1).toNat).take (b.length - (aw b c+1).toNat)=b.drop ((aw b c).toNat+1):=by rw [e1]; exact List.take_of_length_le (by simp)
  have h7:=K3 b;have h6:=zQ (c:=c) (m:=4) (n:=a.length) (p:=[]) (by omega) h4
  rw [e2];refine ⟨a++[b.take (aw b c).toNat],(me _ _ _ (by omega)).symm,by simp,me _ _ _ (by omega),by simp; omega,by simp; omega,?_,by simp; omega⟩
  rw [<- h3,h6];simp
 simp +contextual [al,am,aV,aL,aW,List.getElem?_eq_getElem,ba,aN,aT,aY,<- aP,<- aU,aO,aR,aZ,aX,aQ,aS,and_assoc,hif',hr];have K1':∀ (a:List Str),a.length<=m5 s->(cF (m5 s+1) a).length=m5 s+1:=fun a h=>vX _ _ (by omega)
 repeat' (first | intro _ | apply And.intro)
 all_goals first
  | omega
  | exact K1 _ (by omega)
  | (rw [K1' _ (by omega)]; omega)
  | exact K2 _ _ (by omega) (by omega) (by assumption) (by omega)
  | exact K4 _ _ (by omega) (by omega) (by assumption) (by omega)
  | exact ⟨[],nQ _,rfl,(nQ _).symm,Nat.zero_le _,Nat.le_of_eq (Nat.zero_add _),rfl⟩
  | exact Int.le_trans (Int.le_of_lt (K3 _)) (by omega)
  | exact Int.le_of_lt (K3 _)
  | exact K3 _
end Vx
end Go.Proofs.YtonkagjdfpacmaaGreatDoor
namespace Go.Proofs.YtonkagjdfpacmaaGreatDoor
set_option maxHeartbeats 4000000
namespace Vx
open Go.RowKit Go.Shelf
set_option maxRecDepth 8000
def uO:Con:=.fn 11 (Str × UInt8) (fun a=>[.str a.1,.str [a.2],.int .i64 5]) (fun a=>a.1.length<=1073741824) (fun a=>.sl false 1 (aa (aB a.1 a.2.toNat 4))) (fun _=>[])
theorem Qh:Has Tryz.prog 109 uO:=by
 refine ag mixed ak (HasL.cons Ij HasL.nil) [0,1,2,6] ((fun a n (_:Nat)=>(fun _=>an) a n)) [] Tryz.func109 (by unfold Tryz.f109; rfl) (fun _=>⟨(),trivial⟩) ?_
 intro a ha;obtain ⟨s,c⟩:=a;replace ha:s.length<=1073741824:=ha;simp -implicitDefEqProofs [uO,Con.fn,ae,s5]
 try dsimp only
 try simp +contextual [al,am,aV,aL,aW,List.getElem?_eq_getElem,ba,aN,aT,aY,<- aP,<- aU,aO,aR,aZ,aX,aQ,aS,and_assoc]
 repeat' (first | intro _ | apply And.intro)
 all_goals first | omega | grind [bl]
def zo:Con:=.fn 143 (Str × UInt8) (fun a=>[.str a.1,.str [a.2]]) (fun _=>True) (fun a=>.int .i64 (aw a.1 a.2)) (fun _=>[])
theorem PZ:Has Tryz.prog 159 zo :=
 v6 (rv:=fun a=>.int .i64 (aw a.1 a.2)) (fun args w=>Go.MuLone.run_callFunc_enter Tryz.func159 (by kernel_rfl) rfl args w) (fun _=>rfl) (fun a s _ h=>by cases h)
  (fun a vs w _ hv=>by
   obtain ⟨s,c⟩:=a;simp [fN] at hv;subst hv;have:=AM ⟨s.toArray⟩ c w
   simpa [AJ] using this) (fun a=>⟨_,rfl⟩)
theorem GW {s:Str} {c:UInt8} (h:0<=aw s c):bX s c=(s.take (aw s c).toNat,s.drop (aw s c+1).toNat,true):=by
 unfold bX;rw [if_pos h,show (aw s c+1).toNat=(aw s c).toNat+1 by omega]
theorem GY {s:Str} {c:UInt8} (h:aw s c < 0):bX s c=(s,[],false):=by
 unfold bX;rw [if_neg (by omega)]
def uI:Con:=.fn 23 (Str × UInt8) (fun a=>[.str a.1,.str [a.2]]) (fun a=>a.1.length<=1073741824) (fun a=>.tup [.str (bX a.1 a.2).1,.str (bX a.1 a.2).2.1,.bool (bX a.1 a.2).2.2]) (fun _=>[])
theorem PY:Has Tryz.prog 108 uI:=by
 refine ag mixed ak (HasL.cons PZ HasL.nil) [0,1,4,5,6,7] ((fun a n (_:Nat)=>(fun _=>an) a n)) [] Tryz.func108 (by unfold Tryz.f108; rfl) (fun _=>⟨(),trivial⟩) ?_
 intro a ha;obtain ⟨s,c⟩:=a;replace ha:s.length<=1073741824:=ha;have K3:=wa s c;simp -implicitDefEqProofs [uI,zo,Con.fn,ae];rcases Int.lt_or_le (aw s c) 0 with h | h
 ·simp [GY h];exact ⟨s,c,⟨rfl,rfl⟩,fun q=>absurd q (by omega)⟩
 ·have e2:(s.drop (aw s c+1).toNat).take (s.length - (aw s c+1).toNat)=s.drop (aw s c+1).toNat:=List.take_of_length_le (by simp)
  simp [GW h,h];exact ⟨s,c,⟨rfl,rfl⟩,fun _=>⟨by omega,fun _ _=>⟨by omega,fun _ _=>⟨by omega,fun _ _=>⟨rfl,e2.symm⟩⟩⟩⟩,h⟩
def sL:Con:=.fn 13 (Str × UInt8) (fun a=>[.str a.1,.str [a.2]]) (fun a=>a.1.length<=1073741824) (fun a=>.tup [.str (bX a.1 a.2).1,.str (bX a.1 a.2).2.1,.bool (bX a.1 a.2).2.2]) (fun _=>[])
theorem G0:Has Tryz.prog 57 sL:=by
 refine ag mixed ak (HasL.cons PY HasL.nil) [0,1,4,5,6] ((fun a n (_:Nat)=>(fun _=>an) a n)) [] Tryz.func57 (by unfold Tryz.f57; rfl) (fun _=>⟨(),trivial⟩) ?_
 intro a ha;obtain ⟨s,c⟩:=a;replace ha:s.length<=1073741824:=ha;simp -implicitDefEqProofs [sL,Con.fn,ae,uI]
 try dsimp only
 try simp +contextual [al,am,aV,aL,aW,List.getElem?_eq_getElem,ba,aN,aT,aY,<- aP,<- aU,aO,aR,aZ,aX,aQ,aS,and_assoc]
 repeat' (first | intro _ | apply And.intro)
 all_goals first | omega | grind [bl]
def bQ (s:Str):Int:=match Lib.atoiAll s with
 | .ok v=>v
 | .range=>Lib.atoiSat s
 | _=>0
theorem yF:∀ n:Nat,n < 100->bQ (cj n)=n:=by
 intro n h;have h1:Lib.atoiAll (cj n) = .ok (n:Int):=by revert h; revert n; decide
 unfold bQ;rw [h1]
set_option maxRecDepth 100000 in
theorem Fu (s:ByteArray) (hs:s.size<=1073741824) (w:World) (hl:ew w) :
  Calls Tryz.prog 113 #[.string s] w fun e w'=>∃ v,e = .returned (.tuple #[.int .i64 (bQ s.data.toList),v])/\Below w.heap.size w w':=by
 obtain ⟨⟨tp1,p1,hv1⟩,⟨tp2,p2,hv2⟩,e3,fz3,hv3⟩:=hl;rcases hx:Lib.atoiAll s.data.toList with v | _ | _
 ·have e1:bQ s.data.toList=v:=by unfold bQ; rw [hx]
  rw [e1];refine (Any.strconv_Atoi_ok Tryz.laysAtoi s (by omega) v hx w).mono ?_
  rintro e w' ⟨rfl,hw⟩;refine ⟨_,rfl,?_⟩;rcases hw with rfl | ⟨t,rfl⟩
  ·exact Below.refl _ _
  ·exact Lib.bytesWorld_below _ _ _
 ·have e1:bQ s.data.toList=0:=by unfold bQ; rw [hx]
  rw [e1];refine (Any.strconv_Atoi_syntax_var Tryz.laysAtoi s (by omega) hx tp1 p1 w hv1).mono ?_
  rintro e W1 ⟨N,rfl,-,-,hb⟩;exact ⟨_,rfl,hb⟩
 ·have e1:bQ s.data.toList=Lib.atoiSat s.data.toList:=by unfold bQ; rw [hx]
  rw [e1];refine (Any.strconv_Atoi_range_var Tryz.laysAtoi s (by omega) hx tp2 p2 w hv2).mono ?_
  rintro e W1 ⟨N,rfl,-,-,hb⟩;exact ⟨_,rfl,hb⟩
def zd:Con:={ (Con.fn 18 Str (fun s=>[.str s]) (fun s=>s.length<=1073741824) (fun s=>.tup [.int .i64 (bQ s),.junk]) (fun _=>[])) with need:=ew }
theorem Fv:Has Tryz.prog 113 zd:=by
 refine ⟨fun args w=>Go.MuLone.run_callFunc_enter Tryz.func113 (by kernel_rfl) rfl args w,fun _=>⟨(),trivial⟩,fun _ _=>rfl,?_,trivial,.inl rfl⟩
 intro (s:Str) (hp:s.length<=1073741824) c hky vs β fp hcn hpins hl1 hl2 S;have hvs:vs=[.string ⟨s.toArray⟩]:=xI (j6 hl1 S) rfl;subst hvs;refine (Fu ⟨s.toArray⟩ (by simpa [ByteArray.size] using hp) c.w0 (hky _ fun _ _=>rfl)).mono ?_
 rintro e w' ⟨v,rfl,hb⟩;have hpp:c.pins=[]:=hpins;refine ⟨(),trivial,_,rfl,β,fp,⟨Array.replicate c.n undef,[]⟩,⟨?_,?_,?_,?_,?_,S.fg,fun b hb'=>⟨(S.old b hb').1,hb.block b (S.old b hb').1⟩,hb.os,hb.tape,hb.output,hb.size,rfl,by simp,?_⟩,?_⟩
 ·intro t g av ht; cases ht
 ·intro h blk hm; cases hm
 ·intro h blk hm; cases hm
 ·intro h h' blk blk' hm; cases hm
 ·intro h blk hm; cases hm
 ·rw [hpp]; intro p hp; cases hp
 ·exact .tup (.int (.junk .lnil)) .lnil
def zj:Con:={ (Con.fn 5 Nat (fun n=>[.int .i64 n]) (fun n=>n < 4294967296) (fun n=>.str (Lib.decDigits n)) (fun _=>[])) with need:=ew }
theorem zV:∀ (k n:Nat),n < 10 ^ (k+1)->(Lib.decDigits n).length<=k+1
 | 0,n,h=>by rw [Lib.decDigits,dif_pos (by omega)]; simp
 | k+1,n,h=>by
  rw [Lib.decDigits];split
  ·simp
  ·have:=zV k (n / 10) (by rw [Nat.div_lt_iff_lt_mul (by omega)]; rw [Nat.pow_succ] at h; omega)
   simp; omega
theorem Jz:Has Tryz.prog 105 zj:=by
 refine ⟨fun args w=>Go.MuLone.run_callFunc_enter Tryz.func105 (by kernel_rfl) rfl args w,fun _=>⟨(),trivial⟩,fun _ _=>rfl,?_,trivial,.inl rfl⟩
 intro (n:Nat) (hp:n < 4294967296) c hky vs β fp hcn hpins hl1 hl2 S;have hvs:vs=[.int .i64 n]:=xI (j6 hl1 S) rfl;subst hvs;obtain ⟨_,_,e3,fz3,hv3⟩:ew c.w0:=hky _ fun _ _=>rfl;refine (On hv3 (n:Int) (by omega) (by omega)).mono ?_
 rintro e w' ⟨rfl,hb⟩;have hpp:c.pins=[]:=hpins;have e1:Lib.itoa (n:Int)=Lib.decDigits n:=by unfold Lib.itoa; rw [if_neg (by omega),Int.toNat_natCast]
 rw [e1];refine ⟨(),trivial,_,rfl,β,fp,⟨Array.replicate c.n undef,[]⟩,⟨?_,?_,?_,?_,?_,S.fg,fun b hb'=>⟨(S.old b hb').1,hb.block b (S.old b hb').1⟩,hb.os,hb.tape,hb.output,hb.size,rfl,by simp,?_⟩,?_⟩
 ·intro t g av ht; cases ht
 ·intro h blk hm; cases hm
 ·intro h blk hm; cases hm
 ·intro h h' blk blk' hm; cases hm
 ·intro h blk hm; cases hm
 ·rw [hpp]; intro p hp; cases hp
 ·exact .str (Nat.le_trans (zV 9 n (by omega)) (by simp [maxLen])) .lnil
end Vx
end Go.Proofs.YtonkagjdfpacmaaGreatDoor
namespace Go.Proofs.YtonkagjdfpacmaaGreatDoor
set_option maxHeartbeats 4000000
namespace Vx
open Go.RowKit
set_option maxRecDepth 8000
def kq (k:Nat):Con:=.fn 28 Nat (fun n=>[.int .i64 n]) (fun n=>0 < k/\n < 10 ^ k/\n < 4294967296) (fun n=>.str (Lib.decDigits n)) (fun _=>[])
theorem KO:Has Tryz.prog 60 (kq 0) :=
 Ax Tryz.func60 (by kernel_rfl) (code:=_) (by unfold Tryz.f60; rfl) (fun _=>⟨(),trivial⟩) (by intro _ _; rfl) (fun _ h=>absurd h.1 (by omega))
theorem lV:∀ (k n:Nat),n < 10 ^ (k+1)->(Lib.decDigits n).length<=k+1
 | 0,n,h=>by rw [Lib.decDigits,dif_pos (by omega)]; simp
 | k+1,n,h=>by
  rw [Lib.decDigits];split
  ·simp
  ·have:=lV k (n / 10) (by rw [Nat.div_lt_iff_lt_mul (by omega)]; rw [Nat.pow_succ] at h; omega)
   simp; omega
theorem iG (k:Nat) (l1DecK_has:Has Tryz.prog 60 (kq k)):Has Tryz.prog 60 (kq (k+1)):=by
 refine ag mixed ak (HasL.cons l1DecK_has HasL.nil) [0,2] ((fun a n (_:Nat)=>(fun _=>an) a n)) [] Tryz.func60 (by unfold Tryz.f60; rfl) (fun _=>⟨(),trivial⟩) ?_ (hpos:=Nat.succ_pos _)
 intro (n:Nat) (hn:0 < k+1/\n < 10 ^ (k+1)/\n < 4294967296);obtain ⟨-,h1,h2⟩:=hn;have hd:=lV 9 n (by omega)
 have hd2:=lV 9 (n / 10) (by omega)
 have hk:10<=n->0 < k:=by intro h; cases k with | zero=>omega | succ k=>omega
 have hq:n / 10 < 10 ^ k:=by rw [Nat.div_lt_iff_lt_mul (by omega)]; rw [Nat.pow_succ] at h1; exact h1
 simp -implicitDefEqProofs [kq,Con.fn,ae];have hm:(n:Int).tmod 10=((n % 10:Nat):Int):=(Int.ofNat_tmod n 10).symm;rw [hm];have e1:n < 10->Lib.decDigits n=[UInt8.ofNat (48+n)]:=fun h=>by rw [Lib.decDigits,dif_pos h]
 have e2:10<=n->Lib.decDigits n=Lib.decDigits (n / 10)++[UInt8.ofNat (48+n % 10)]:=fun h=>by rw [Lib.decDigits,dif_neg (by omega)]
 refine ⟨fun h=>absurd h (by omega),fun h=>absurd h (by omega),fun h=>⟨by omega,fun _ _=>⟨by omega,fun _ _=>⟨by omega,fun _=>?_⟩⟩⟩,fun h=>⟨by omega,fun _ _=>⟨n / 10,by omega,⟨hk (by omega),hq,by omega⟩,by omega,fun _ _=>⟨by omega,fun _ _=>⟨by omega,fun _=>⟨by simp -implicitDefEqProofs [maxLen]; omega,fun _=>?_⟩⟩⟩⟩⟩⟩
 ·rw [e1 (by omega),show (48+(n:Int)).toNat=48+n by omega]
 ·rw [e2 (by omega),show (48+((n % 10:Nat):Int)).toNat=48+n % 10 by omega]
def tG:Con:=kq 10
theorem Bu:Has Tryz.prog 60 tG:=iG 9 (iG 8 (iG 7 (iG 6 (iG 5 (iG 4 (iG 3 (iG 2 (iG 1 (iG 0 KO)))))))))
def Con.view (k:Con) (K:Nat) (rows:k.A->k.X->List (List D)):Con:={ k with res:=fun a x=>.sl false K (rows a x),fin:=fun _ _=>[] }
theorem Has.view {P:Program} {f:Nat} {k:Con} (H:Has P f k) (K:Nat) (rows:k.A->k.X->List (List D)) (hr:∀ a x,k.res a x = .own 8 K (rows a x)) (hb:∀ a,k.boxes a=[]) (hl:k.lends=[]):Has P f (k.view K rows):=by
 suffices key:∀ (a:k.A),k.pre a -> ∀ (c:Cx) (_:Kn k.need c) (vs:List Value) (β:Nat->Value) (fp:Nat->List (Nat × Nat)),c.n=k.n->c.pins=k.pins2 a β -> vs.length=(k.args a).length->vs.length<=k.n ->
   SatI c (k.start2 a) ⟨vs.toArray++Array.replicate (k.n - vs.length) undef,[]⟩ c.w0 β fp ->
   Calls P f vs.toArray c.w0 fun e w'=>∃ x:k.X,k.post a x /\ ∃ v,e = .returned v /\ ∃ β' fp' a',SatI c ⟨fun _=>none,ai []⟩ a' w' β' fp'/\RelL w' (ai []) β' c [.sl false K (rows a x)] [v] by
  exact ⟨H.enter,H.tot,H.nob,fun (a:k.A) ha c hky vs β fp hn hpin hlen hlen2 S=>key a ha c hky vs β fp hn hpin hlen hlen2 S,H.bldr,H.bt.imp id fun h a=>⟨(h a).1,fun x p hp=>(by cases hp)⟩⟩
 intro a ha c hky vs β fp hn hpin hlen hlen2 S;have hp:c.pins=[]:=by rw [hpin]; simp -implicitDefEqProofs [Con.pins2,hb,hl]
 refine (H.calls a ha c hky vs β fp hn hpin hlen hlen2 S).mono ?_;rintro e w' ⟨x,hx,v,rfl,β',fp',a',E,hv⟩;rw [hr] at hv;have hv2:∃ e,Vw w' (ai (k.fin a x)) β' c false [.sl e K (rows a x)] [v]:=by cases hv with | own _ h2 _ _=>exact h2
 obtain ⟨e,f,h1,h2⟩:=hv2;refine ⟨x,hx,v,rfl,β',fp',a',⟨?_,?_,?_,?_,?_,E.fg,E.old,E.os,E.tape,E.output,E.size,E.defers,E.tn,by simp -implicitDefEqProofs [hp]⟩,.sl ⟨e,f,h1,fun z hz=>⟨⟨?_,?_⟩,(h2 z hz).2⟩⟩ .lnil⟩
 ·intro t g av h; cases h
 ·intro h blk hm; cases hm
 ·intro h blk hm; cases hm
 ·intro h h' blk blk' hm; cases hm
 ·intro h blk hm; cases hm
 ·rintro ⟨h,ty,vs,hm,_⟩; cases hm
 ·intro h e k d R n cc hm; cases hm
--TAB aC
--TAB aC
def sH:Con:=.fn 8 (List Bool) (fun a=>[.sl true 1 (be a)]) (fun a=>a ≠ []/\a.length<=1048576) (fun a=>.own 8 1 (be a)) (fun a=>CP 8 a)
theorem Gy:Has Tryz.prog 202 sH:=by
 refine ag mixed bn HasL.nil [0,2] ((fun a n (_:Nat)=>(fun _=>an) a n)) [] Tryz.func202 (by unfold Tryz.f202; rfl) (fun _=>⟨(),trivial⟩) ?_
 intro (a:List Bool) ha;obtain ⟨h0,ha⟩:a ≠ []/\a.length<=1048576:=ha;have h1:¬ be a=[]:=by simpa [be] using h0
 simp (maxSteps:=8000000) -implicitDefEqProofs [-Bool.exists_bool,sH,Con.fn,aC,ae,h1]
 try dsimp only
 refine ⟨fun x hx d hd=>?_,by omega⟩
 simp only [be,List.mem_map] at hx;obtain ⟨y,_,rfl⟩:=hx;simp only [cz,List.mem_singleton] at hd;subst hd; trivial
def dh (r:RepoD) (a b:Int) (i:Nat):List Bool:=(List.range r.commits.length).map fun j=>decide (j < i) && (isT (anc r a) j && isT (anc r b) j)
theorem GH (r a b i):(dh r a b i).length=r.commits.length:=by simp -implicitDefEqProofs [dh]
theorem zw (r a b):dh r a b 0=List.replicate r.commits.length false:=by
 unfold dh;apply List.ext_getElem
 ·simp
 ·intro i h1 h2; simp
theorem zx {r a b} {i j:Nat} (h:j < (dh r a b i).length):(dh r a b i)[j]=(decide (j < i) && (isT (anc r a) j && isT (anc r b) j)):=by simp -implicitDefEqProofs [dh]
theorem GI {r a b} {i:Nat}:(dh r a b i).set i (isT (anc r a) i && isT (anc r b) i)=dh r a b (i+1):=by
 apply List.ext_getElem
 ·simp -implicitDefEqProofs [dh]
 ·intro j h1 h2;rw [List.getElem_set,zx h2];by_cases e:i=j
  ·subst e; simp
  ·rw [if_neg e,zx];have:decide (j < i+1)=decide (j < i):=by rw [decide_eq_decide]; omega
   rw [this]
theorem GG (r a b):dh r a b r.commits.length=bu r a b:=by
 unfold dh bu;apply List.map_congr_left;intro j hj;have:j < r.commits.length:=by simpa using hj
 simp -implicitDefEqProofs [this]
theorem FX {r:RepoD} {L:List Int} {C:List Bool} {i:Nat} (h:i < L.length):dX r (L.take (i+1)) C=dZ (dX r (L.take i) C) L[i] (ar (anc r L[i])):=by
 unfold dX;rw [bg h,List.foldl_append]; rfl
theorem GA {i:Int} {ks:List Int} {l:List Bool} {k:Nat} (h:k < ks.length):dZ l i (ks.take (k+1))=if ks[k]=i then dZ l i (ks.take k) else (dZ l i (ks.take k)).set ks[k].toNat false:=by
 unfold dZ;rw [bg h,List.foldl_append]; rfl
def bsA (r:RepoD) (a b:Int):Inv:=⟨Nat,fun i=>⟨[(3,true,.ptr 10 0),(6,true,.nil),(7,true,.own 11 1 (be (anc r a))),(8,true,.own 12 1 (be (anc r b))),(9,true,.own 13 1 (be (dh r a b i))),(27,true,.int .i64 r.commits.length),(28,true,.int .i64 i)],
 [(10,cV r),(11,.own 4 1 true (be (anc r a))),(12,.own 4 1 true (be (anc r b))),(13,.own 4 1 true (be (dh r a b i)))]⟩,fun i=>i<=r.commits.length,fun i=>r.commits.length - i⟩
def bsB (r:RepoD) (a b:Int):Inv:=⟨Nat,fun i=>⟨[(3,true,.ptr 10 0),(6,true,.nil),(11,true,.own 14 1 (be (dX r ((ar (bu r a b)).take i) (bu r a b)))),(48,true,.own 15 1 (aj (ar (bu r a b)))),(49,true,.int .i64 (ar (bu r a b)).length),(50,true,.int .i64 i)],
 [(10,cV r),(14,.own 4 1 true (be (dX r ((ar (bu r a b)).take i) (bu r a b)))),(15,.own 3 1 true (aj (ar (bu r a b))))]⟩,fun i=>i<=(ar (bu r a b)).length,fun i=>(ar (bu r a b)).length - i⟩
def bsX (r:RepoD) (a b:Int) (g:Nat):Int:=(ar (bu r a b)).getD g 0
def bsT (r:RepoD) (a b:Int) (g k:Nat):List Bool:=dZ (dX r ((ar (bu r a b)).take g) (bu r a b)) (bsX r a b g) ((ar (anc r (bsX r a b g))).take k)
def bsC (r:RepoD) (a b:Int) (g:Nat):Inv:=⟨Nat,fun k=>⟨[(3,true,.ptr 10 0),(6,true,.nil),(11,true,.own 14 1 (be (bsT r a b g k))),(13,true,.int .i64 (bsX r a b g)),(48,true,.own 15 1 (aj (ar (bu r a b)))),(49,true,.int .i64 (ar (bu r a b)).length),(50,true,.int .i64 g),(57,true,.own 9 1 (aj (ar (anc r (bsX r a b g))))),(58,true,.int .i64 (ar (anc r (bsX r a b g))).length),(59,true,.int .i64 k)],
 [(10,cV r),(14,.own 4 1 true (be (bsT r a b g k))),(15,.own 3 1 true (aj (ar (bu r a b)))),(9,.own 3 1 true (aj (ar (anc r (bsX r a b g)))))]⟩,fun k=>g < (ar (bu r a b)).length/\k<=(ar (anc r (bsX r a b g))).length,fun k=>(ar (anc r (bsX r a b g))).length - k⟩
def pg (r:RepoD) (a b:Int) (n g:Nat):Inv:=if n=4 then bsA r a b else if n=10 then bsB r a b else bsC r a b g
theorem F4 (r a b g):pg r a b 4 g=bsA r a b:=rfl
theorem F2 (r a b g):pg r a b 10 g=bsB r a b:=rfl
theorem F3 (r a b g):pg r a b 13 g=bsC r a b g:=rfl
def sF:Con:=.fn 73 (RepoD × Int × Int) (fun a=>[bF a.1,.int .i64 a.2.1,.int .i64 a.2.2]) (fun a=>aF a.1=true/\(0<=a.2.1/\a.2.1 < a.1.commits.length)/\(0<=a.2.2/\a.2.2 < a.1.commits.length)) (fun a=>.own 8 1 (aj (df a.1 a.2.1 a.2.2))) (fun a=>kT 8 (df a.1 a.2.1 a.2.2))
theorem FV:Has Tryz.prog 172 sF:=by
 refine ag mixed bn (HasL.cons yy (HasL.cons Gy (HasL.cons LP HasL.nil))) [0,1,2,3,6,7,8,9,10,11,13,15,27,28,48,49,50,57,58,59] (fun a=>pg a.1 a.2.1 a.2.2) [] Tryz.func172 (by unfold Tryz.f172; rfl) (fun _=>⟨(),trivial⟩) ?_
 intro a ha;obtain ⟨r,a,b⟩:=a;obtain ⟨h1,h2,h3⟩:aF r=true/\(0<=a/\a < r.commits.length)/\(0<=b/\b < r.commits.length):=ha;have h6:=fK h1;simp (maxSteps:=8000000) [sF,ph,sH,uc,Con.fn,aC,ae,F4,F2,F3,bsA,bsB,bsC,bR]
 try dsimp only
 try simp only [and_assoc,exists_eq_left,exists_and_left,RepoD.ex1,RepoD.eta]
 have hal:=eH r;have hC:=GH r a b;have hcb:=qb r a b;refine ⟨h1,h2.1,h2.2,h1,h3.1,h3.2,fun _=>⟨by omega,fun _ _=>⟨trivial,trivial,⟨0,?_,rfl,trivial,trivial,?_,Nat.zero_le _⟩,fun i hi=>⟨fun hlt=>?_,fun hge=>?_⟩⟩⟩⟩
 ·rw [zw,jK]
 ·rw [zw,jK]
 ·have la:i < (anc r a).length:=by rw [hal]; exact hlt
  have lb:i < (anc r b).length:=by rw [hal]; exact hlt
  have lc:i < (dh r a b i).length:=by rw [hC]; exact hlt
  have e1:Option.map cz (anc r a)[i]? = some (cz (anc r a)[i]):=by simp -implicitDefEqProofs [la]
  have e2:Option.map cz (anc r b)[i]? = some (cz (anc r b)[i]):=by simp -implicitDefEqProofs [lb]
  have s1:=GI (r:=r) (a:=a) (b:=b) (i:=i);have i1:isT (anc r a) i=(anc r a)[i]:=by simp -implicitDefEqProofs [isT,List.getD_eq_getElem?_getD,la]
  have i2:isT (anc r b) i=(anc r b)[i]:=by simp -implicitDefEqProofs [isT,List.getD_eq_getElem?_getD,lb]
  rw [i1,i2] at s1;rw [e1,e2];generalize (anc r a)[i]=x at *;generalize (anc r b)[i]=y at *;have fin:∀ z,z=(x && y) -> ∃ t',be (dh r a b t')=(be (dh r a b i)).set i [D.bool z]/\(t':Int)=i+1/\(be (dh r a b i)).set i [D.bool z]=be (dh r a b t')/\t'<=r.commits.length/\r.commits.length - t' < r.commits.length - i:=fun z hz=>by
   have e:(be (dh r a b i)).set i [D.bool z]=be (dh r a b (i+1)):=by rw [<- s1,hz]; exact eJ _ _ _
   exact ⟨i+1,e.symm,by omega,e,by omega,by omega⟩
  simp -implicitDefEqProofs [cz,D.asBool,lc,la,lb];exact ⟨fun hx=>⟨by omega,by omega,fun _ _=>fin y (by rw [hx]; rfl)⟩,fun hx=>⟨by omega,by omega,fun _ _=>fin false (by rw [hx]; rfl)⟩⟩
 ·have:i=r.commits.length:=by omega
  subst this;rw [GG];have hne:¬ bu r a b=[]:=fun e=>by rw [e] at hcb; simp at hcb; omega
  have hmem:∀ x ∈ ar (bu r a b),0<=x/\x < r.commits.length:=fun x hx=>by
   obtain ⟨i,q1,_,rfl⟩:=listT_mem.1 hx;rw [hcb] at q1;omega
  refine ⟨hne,by omega,by omega,fun _=>⟨⟨0,by simp -implicitDefEqProofs [dX],rfl,rfl,rfl,by simp -implicitDefEqProofs [dX],rfl,Nat.zero_le _⟩,fun i hi=>⟨fun hlt=>⟨hlt,fun _=>?_⟩,fun hge=>?_⟩⟩⟩
  ·have hx:=hmem _ (List.getElem_mem hlt);have e1:Option.map aq (ar (bu r a b))[i]? = some (aq (ar (bu r a b))[i]):=by simp -implicitDefEqProofs [hlt]
   have hgx:bsX r a b i=(ar (bu r a b))[i]:=by simp -implicitDefEqProofs [bsX,List.getD_eq_getElem?_getD,hlt]
   have hs:=FX (r:=r) (C:=bu r a b) hlt;have hT:∀ k,bsT r a b i k=dZ (dX r ((ar (bu r a b)).take i) (bu r a b)) (bsX r a b i) ((ar (anc r (bsX r a b i))).take k):=fun _=>rfl;have hbl:=pd r ((ar (bu r a b)).take i) (bu r a b);rw [e1];rw [<- hgx] at hs hx ⊢;generalize hxx:bsX r a b i=x at *;simp -implicitDefEqProofs [aq,D.asInt,h1,hx.1,hx.2,hal];refine ⟨by omega,fun _=>⟨i,?_⟩⟩
   rw [hxx];have hLm:∀ y ∈ ar (anc r x),0<=y/\y < r.commits.length:=fun y hy=>by
    obtain ⟨i,q1,_,rfl⟩:=listT_mem.1 hy;rw [hal] at q1;omega
   generalize ar (anc r x)=L at *;have hbT:∀ k,(bsT r a b i k).length=r.commits.length:=fun k=>by rw [hT,zt,hbl,hcb]
   refine ⟨⟨0,by rw [hT]; simp -implicitDefEqProofs [dZ],rfl,rfl,rfl,rfl,rfl,by rw [hT]; simp -implicitDefEqProofs [dZ],rfl,hlt,Nat.zero_le _⟩,fun k hg hk=>⟨fun hl2=>⟨hl2,fun _=>?_⟩,fun hge2=>?_⟩⟩
   ·have e2:Option.map aq L[k]? = some (aq L[k]):=by simp -implicitDefEqProofs [List.getElem?_eq_getElem hl2]
    have hy:=hLm _ (List.getElem_mem hl2);have hc:=GA (i:=x) (l:=dX r ((ar (bu r a b)).take i) (bu r a b)) hl2;rw [<- hT,<- hT] at hc;have hbk:=hbT k;rw [e2];generalize L[k]=y at *;simp -implicitDefEqProofs [aq,hbk];exact ⟨fun hne=>⟨hy.1,by omega,fun _ _=>⟨by omega,by omega,by omega,fun _ _=>⟨k+1,by rw [hc,if_neg hne]; exact (eJ _ _ _).symm,by omega,by rw [hc,if_neg hne]; exact eJ _ _ _,hg,by omega,by omega⟩⟩⟩,
     fun heq=>⟨by omega,by omega,fun _ _=>⟨k+1,by rw [hc,if_pos heq],by omega,by rw [hc,if_pos heq],hg,by omega,by omega⟩⟩⟩
   ·have:k=L.length:=by omega
    subst this;have e3:bsT r a b i L.length=dX r ((ar (bu r a b)).take (i+1)) (bu r a b):=by rw [hT,List.take_length,hs]
    rw [e3];exact ⟨by omega,by omega,fun _ _=>⟨i+1,rfl,by omega,rfl,by omega,by omega⟩⟩
  ·have:i=(ar (bu r a b)).length:=by omega
   subst this;rw [List.take_length];have hbl:=pd r (ar (bu r a b)) (bu r a b);exact ⟨by omega,rfl,rfl⟩
--TAB aC
theorem eO {r:RepoD} (h:aF r=true):dC r/\fM r:=by
 have h1:=fK h;have hc:∀ c ∈ r.commits,c.parents.length<=2/\aA c.tree=true:=fun c hc=>by
  obtain ⟨i,hi,rfl⟩:=List.getElem_of_mem hc;exact ⟨(fL h hi).1,(fL h hi).2.2⟩
 have hh:r.heads.length<=5:=by
  rw [cu] at h;exact ((iC _ _).1 ((cQ r).1 h).2.1).1
 have ht:∀ t:List FileD,aA t=true->t.length<=8:=fun t q=>(mX t (by rw [<- eE]; exact q)).1
 refine ⟨⟨by omega,fun c q=>⟨by have:=(hc c q).1; omega,by have:=ht _ (hc c q).2; omega,fun g hg=>by have:=(mW (hc c q).2 g hg).2.1; omega⟩,by omega⟩,by omega,fun c q f hf=>by have:=(mW (hc c q).2 f hf).1.2; omega⟩
theorem lp {t:List FileD} (h:aA t=true):c7 t:=fun f hf=>by have:=(mW h f hf).1.2; omega
def sE:Con:=.fn 23 (RepoD × Int × Int) (fun a=>[bF a.1,.int .i64 a.2.1,.int .i64 a.2.2]) (fun a=>aF a.1=true/\(0<=a.2.1/\a.2.1 < a.1.commits.length)/\(0<=a.2.2/\a.2.2 < a.1.commits.length)) (fun a=>.sl true 2 (ac (c8 a.1 a.2.1 a.2.2))) (fun _=>[])
theorem FN:Has Tryz.prog 132 sE:=by
 refine ag mixed bn (HasL.cons FV (HasL.cons x5 HasL.nil)) [0,1,2,3,6,7] ((fun a n (_:Nat)=>(fun _=>an) a n)) [] Tryz.func132 (by unfold Tryz.f132; rfl) (fun _=>⟨(),trivial⟩) ?_
 intro a ha;obtain ⟨r,a,b⟩:=a;obtain ⟨h1,h2,h3⟩:aF r=true/\(0<=a/\a < r.commits.length)/\(0<=b/\b < r.commits.length):=ha;simp (maxSteps:=8000000) [sE,sF,nz,Con.fn,aC,ae,bR]
 try dsimp only
 try simp only [and_assoc,exists_eq_left,exists_and_left,RepoD.ex1,RepoD.eta]
 have hb:c8 r a b=match (df r a b).getLast? with | none=>[] | some c=>aJ r c:=by unfold c8; rw [<- yZ]; rfl
 have hin:=fun c=>@y7 r a b c;refine ⟨h1,h2.1,h2.2,h3.1,h3.2,fun _=>⟨fun h=>?_,fun h=>?_⟩⟩
 ·rw [hb,h]; rfl
 ·have hl:0 < (df r a b).length:=List.length_pos_iff.2 h;have hlt:(df r a b).length - 1 < (df r a b).length:=by omega
  have e1:Option.map aq (df r a b)[(df r a b).length - 1]? = some (aq (df r a b)[(df r a b).length - 1]):=by simp -implicitDefEqProofs [List.getElem?_eq_getElem hlt]
  have hg:(df r a b).getLast? = some (df r a b)[(df r a b).length - 1]:=by rw [List.getLast?_eq_getElem?,List.getElem?_eq_getElem hlt]
  have hc:=hin _ (List.getElem_mem hlt);rw [hb,hg,e1];generalize (df r a b)[(df r a b).length - 1]=c at *;generalize (df r a b).length=m at *;have q1:c.toNat < r.commits.length:=by omega
  simp -implicitDefEqProofs [aq,D.asInt,aJ,List.getD_eq_getElem?_getD]
  repeat' (first | intro _ | apply And.intro)
  all_goals omega
theorem A2 {o a b:List FileD}:aA (dF o a b).1=true:=by
 unfold dF;split
 ·split
  ·rename_i h; rw [eE]; exact JB h
  ·rfl
 ·rfl
theorem rO {t:List FileD} (h:aA t=true):t.length<=1048576 /\ ∀ f ∈ t,f.text.length<=1048576:=by
 have h1:=mX t (by rw [<- eE]; exact h)
 exact ⟨by omega,fun f hf=>by have:=h1.2 f hf; omega⟩
theorem zu {r:RepoD} (h:aF r=true) {n:Str} {c:CommitD} (hc:aA c.tree=true):fM (cmL r n c):=by
 have h1:=fK h;refine ⟨by simp -implicitDefEqProofs [cmL]; omega,fun x hx f hf=>?_⟩
 have hx:x ∈ r.commits++[c]:=hx;rcases List.mem_append.1 hx with hx | hx
 ·exact (eO h).2.2 x hx f hf
 ·rw [List.mem_singleton.1 hx] at hf;exact lp hc f hf
def uZ:Con:=.fn 89 (RepoD × Str × Str × Int) (fun a=>[bF a.1,.str a.2.1,.str a.2.2.1,.int .i64 a.2.2.2]) (fun a=>aF a.1=true) (fun a=>.tup [.agg [.own 8 3 (ap (cD a.1 a.2.1 a.2.2.1 a.2.2.2).1.commits),.own 9 2 (ah (cD a.1 a.2.1 a.2.2.1 a.2.2.2).1.heads)],.int .i64 (cD a.1 a.2.1 a.2.2.1 a.2.2.2).2]) (fun a=>iO 8 (cD a.1 a.2.1 a.2.2.1 a.2.2.2).1.commits++gB 9 (cD a.1 a.2.1 a.2.2.1 a.2.2.2).1.heads)
theorem Ra:Has Tryz.prog 77 uZ:=by
 refine ag mixed bn (HasL.cons km (HasL.cons mB (HasL.cons vN (HasL.cons jo (HasL.cons yy (HasL.cons rl (HasL.cons FN (HasL.cons x5 (HasL.cons A3 (HasL.cons vj (HasL.cons oP HasL.nil))))))))))) [0,1,2,3,4,8,9,10,11,12,13] ((fun a n (_:Nat)=>(fun _=>an) a n)) [16456,16465,16466] Tryz.func77 (by unfold Tryz.f77; rfl) (fun _=>⟨(),trivial⟩) ?_
 intro a ha;obtain ⟨r,n,w,b⟩:=a;replace ha:aF r=true:=ha;simp (maxSteps:=8000000) [-kStep_move,-kStepC_move,-Bool.exists_bool,uZ,iY,jG,ng,gQ,ph,lL,gF,sE,nz,pA,nf,nC,ku,Con.fn,aC,ae,bR]
 try dsimp only
 try simp only [and_assoc,exists_eq_left,exists_and_left,RepoD.ex1,RepoD.eta]
 obtain ⟨hz,hp⟩:=eO ha;have hn:=fK ha;refine ⟨fun h h'=>⟨h,h',by omega⟩,?_,fun _=>⟨fun h=>?_,fun c1 c2 c3 c4=>?_⟩⟩
 ·rcases Int.lt_or_le (atL r.heads n) 0 with h | h
  ·exact .inl (.inl h)
  ·cases hw:bc w with
   | false=>exact .inl (.inr rfl)
   | true=>exact .inr ⟨h,rfl⟩
 ·have e:cD r n w b=(r,1):=Q4 ha (by rcases h with (h | h) | h | h; exact .inl h; exact .inr (.inl h); exact .inr (.inr (by omega)); exact .inr (.inr (by omega)))
  rw [e]; exact ⟨hz,rfl,rfl,rfl,rfl,rfl⟩
 ·have hlt:=nd ha c1;have hb:b < r.commits.length:=by omega
  have hla:=eH r;have la:b.toNat < (anc r (atL r.heads n)).length:=by rw [hla]; omega
  have lb:(atL r.heads n).toNat < (anc r b).length:=by rw [hla]; omega
  have e1:Option.map cz (anc r (atL r.heads n))[b.toNat]? = some (cz (anc r (atL r.heads n))[b.toNat]):=by simp -implicitDefEqProofs [la]
  have e2:Option.map cz (anc r b)[(atL r.heads n).toNat]? = some (cz (anc r b)[(atL r.heads n).toNat]):=by simp -implicitDefEqProofs [lb]
  have i1:isT (anc r (atL r.heads n)) b.toNat=(anc r (atL r.heads n))[b.toNat]:=by simp -implicitDefEqProofs [isT,List.getD_eq_getElem?_getD,la]
  have i2:isT (anc r b) (atL r.heads n).toNat=(anc r b)[(atL r.heads n).toNat]:=by simp -implicitDefEqProofs [isT,List.getD_eq_getElem?_getD,lb]
  have U2:=@Q5 r n w b ha c1 c2 ⟨c3,hb⟩;have U3:=@Q6 r n w b ha c1 c2 ⟨c3,hb⟩;have U4:=@Q7 r n w b ha c1 c2 ⟨c3,hb⟩;rw [i1] at U2 U3 U4;rw [i2] at U3 U4;have hla1:=hla (atL r.heads n);have hlb1:=hla b;rw [e1,e2];generalize (anc r (atL r.heads n))[b.toNat]=x at *;generalize (anc r b)[(atL r.heads n).toNat]=y at *;have p1:=lp (yX ha (atL r.heads n) b);have p2:=lp (jz ha ⟨c1,hlt⟩);have p3:=lp (jz ha ⟨c3,hb⟩);simp -implicitDefEqProofs [cz,D.asBool,ha,hla1,hlb1,c1,c3,hlt,hb,hz];have ta:aJ r (atL r.heads n)=r.commits[(atL r.heads n).toNat].tree:=by simp -implicitDefEqProofs [aJ,List.getD_eq_getElem?_getD,show (atL r.heads n).toNat < r.commits.length by omega]
  have tb:aJ r b=r.commits[b.toNat].tree:=by simp -implicitDefEqProofs [aJ,List.getD_eq_getElem?_getD,show b.toNat < r.commits.length by omega]
  have jt:=@A2 (c8 r (atL r.heads n) b) (aJ r (atL r.heads n)) (aJ r b);rw [ta] at p2;rw [tb] at p3;rw [ta,tb] at U4 jt;generalize dF (c8 r (atL r.heads n) b) r.commits[(atL r.heads n).toNat].tree r.commits[b.toNat].tree=J at *;refine ⟨fun hx=>by rw [U2 hx]; exact ⟨rfl,rfl,rfl,rfl,rfl⟩,fun hx=>⟨fun hy=>by rw [U3 hx hy]; exact ⟨hz.2.2,rfl,rfl,rfl,rfl,rfl⟩,fun hy=>⟨p1,p2,p3,?_⟩⟩⟩
  have U4:=U4 hx hy;clear U2 U3;refine ⟨fun hj=>by rw [U4,if_neg (by simp -implicitDefEqProofs [hj])]; exact ⟨rfl,rfl,rfl,rfl,rfl⟩,fun hj=>⟨[atL r.heads n,b],rfl,rfl,hz.2.2,hz.1,(rO jt).1,(rO jt).2,zu ha jt,?_⟩⟩
  rw [if_pos hj] at U4;rw [U4];exact ⟨fun h=>by simp -implicitDefEqProofs [h],fun h=>by simp -implicitDefEqProofs [h]⟩
--TAB aC
def tV:Con:=.fn 66 (RepoD × Int) (fun a=>[bF a.1,.int .i64 a.2]) (fun a=>aF a.1=true/\0<=a.2/\a.2 < a.1.commits.length) (fun a=>.sl false 1 (aj (ar (anc a.1 a.2)))) (fun _=>[])
theorem Lo:Has Tryz.prog 177 tV:=by
 refine ag mixed bn HasL.nil [0,1,2,4,5,6,7,8,9] (fun a=>m6 a.1 a.2) [] Tryz.func177 (by unfold Tryz.f177; rfl) (fun _=>⟨(),trivial⟩) ?_
 intro a ha;obtain ⟨r,n⟩:=a;obtain ⟨h1,h2,h3⟩:aF r=true/\0<=n/\n < r.commits.length:=ha;have h4:=fK h1;simp -implicitDefEqProofs [tV,Con.fn,aC,ae,yr,yu,yq,alO,alI,alT,bR]
 try dsimp only
 simp only [and_assoc,exists_eq_left,exists_and_left,RepoD.ex1,RepoD.eta];have hal:=eH r n;refine fun _=>⟨by omega,fun _=>⟨h2,h3,fun _ _=>⟨by omega,⟨(List.replicate r.commits.length false).set n.toNat true,by rw [jK]; exact (eJ _ _ _).symm,by rw [jK]; exact eJ _ _ _,by simp,by omega,h3,rfl⟩,fun l b g1 g2 g3 g4=>⟨fun hb=>⟨b.toNat,?_⟩,fun hb=>?_⟩⟩⟩⟩
 ·have hb1:b.toNat < l.length:=by omega
  have hb2:b.toNat < r.commits.length:=by omega
  obtain ⟨p1,p2,_⟩:=fL h1 hb2;have hgd:r.commits.getD b.toNat default=r.commits[b.toNat]:=by simp -implicitDefEqProofs [List.getD_eq_getElem?_getD,hb2]
  have hgo:r.commits[b.toNat]?.getD default=r.commits[b.toNat]:=by simp -implicitDefEqProofs [hb2]
  rw [show (b+1).toNat=b.toNat+1 by omega] at g4
  have g5:fW r b.toNat (jv r l b.toNat)=anc r n:=g4;unfold jv at g5;rw [hgd] at g5;have e3:Option.map bm r.commits[b.toNat]? = some (bm r.commits[b.toNat]):=by simp -implicitDefEqProofs [hb2]
  rw [hgo,e3];generalize r.commits[b.toNat]=c at *;refine ⟨by omega,trivial,g1,hb2,Nat.zero_le _,fun h=>?_,fun h=>?_,fun m k m1 m2 m3 m4 m5=>⟨hb2,fun _=>?_⟩⟩
  ·rw [if_pos h] at g5; exact g5
  ·rw [if_neg (by rw [h]; simp)] at g5; exact g5
  ·have hbm:b.toNat < m.length:=by omega
   have hT:isT m b.toNat=m[b.toNat]:=by simp -implicitDefEqProofs [isT,List.getD_eq_getElem?_getD,hbm]
   have e4:Option.map cz m[b.toNat]? = some (cz m[b.toNat]):=by simp -implicitDefEqProofs [hbm]
   have hmx:max b 0=b:=Int.max_eq_left hb;simp -implicitDefEqProofs [bm,D.asRows,e4,cz,hbm,hb2,hmx];refine fun _=>⟨fun hl2=>⟨fun hm=>⟨hl2,fun _=>?_⟩,fun hm=>⟨by omega,by omega,fun _ _=>⟨m1,by omega,by omega,m5 (hT.trans hm),by omega⟩⟩⟩,fun hge=>⟨by omega,by omega,fun _ _=>⟨m1,by omega,by omega,?_,by omega⟩⟩⟩
   ·have hp:=p2 c.parents[k] (List.getElem_mem hl2);have qt:Option.map aq c.parents[k]? = some (aq c.parents[k]):=by simp -implicitDefEqProofs [List.getElem?_eq_getElem hl2]
    simp -implicitDefEqProofs [qt,aq,D.asInt];have hst:isT (m.set c.parents[k].toNat true) b.toNat=true:=by rw [A0 _ (by omega)]; exact hT.trans hm
    refine ⟨hp.1,by omega,fun _ _=>⟨by omega,by omega,by omega,fun _ _=>⟨m.set c.parents[k].toNat true,(eJ _ _ _).symm,k+1,by omega,eJ _ _ _,by simp -implicitDefEqProofs [m1],by omega,fun _=>?_,fun h=>?_,by omega⟩⟩⟩
    ·have:=m4 (hT.trans hm);rw [List.drop_eq_getElem_cons hl2] at this;exact this
    ·rw [hst] at h; cases h
   ·cases hm:m[b.toNat] with
    | true =>
     have:=m4 (hT.trans hm);rw [List.drop_eq_nil_of_le hge] at this;exact this
    | false=>exact m5 (hT.trans hm)
 ·rw [show (b+1).toNat=0 by omega] at g4
  have g5:l=anc r n:=g4;refine ⟨g5.symm,⟨0,rfl,rfl,g5,rfl,Nat.zero_le _⟩,fun i hi _=>⟨fun hlt=>?_,fun hge=>?_⟩⟩
  ·have hl:=oc (anc r n) i;have hi:isT (anc r n) i=(anc r n)[i]:=by simp -implicitDefEqProofs [isT,List.getD_eq_getElem?_getD,hlt]
   rw [hal] at hlt;simp -implicitDefEqProofs [hal,hlt,cz,D.asBool,and_assoc];refine ⟨fun h=>?_,fun h=>?_⟩
   ·have e:=wZ (hi.trans h);exact ⟨by omega,by omega,by omega,by omega,fun _ _=>⟨i+1,by rw [e]; simp -implicitDefEqProofs [aj,aq],by omega,by rw [e]; simp -implicitDefEqProofs [aj,aq],by omega,by omega⟩⟩
   ·have e:=w5 (hi.trans h);exact ⟨by omega,by omega,fun _ _=>⟨i+1,e,by omega,e.symm,by omega,by omega⟩⟩
  ·rw [hal] at hge;have:i=r.commits.length:=by omega
   subst this;unfold ar;rw [hal]
def wT (r:RepoD) (a b:Int):Inv:=⟨Nat,fun i=>⟨[(3,true,.ptr 10 0),(6,true,.nil),(7,true,.sl false 1 (aj (ar (anc r a)))),(8,true,.sl false 1 (aj (ar (anc r b)))),(9,true,.own 9 1 (aj (cE r a b i))),(10,true,.int .i64 i)],[(10,cV r),(9,.own 3 1 true (aj (cE r a b i)))]⟩,fun i=>i<=(ar (anc r a)).length,fun i=>(ar (anc r a)).length - i⟩
def wU (r:RepoD) (L:List Int):Inv:=⟨Nat,fun i=>⟨[(3,true,.ptr 10 0),(6,true,.nil),(9,true,.own 9 1 (aj L)),(11,true,.own 11 1 (aj (dW r L i))),(12,true,.int .i64 i)],[(10,cV r),(9,.own 3 1 true (aj L)),(11,.own 3 1 true (aj (dW r L i)))]⟩,fun i=>i<=L.length,fun i=>L.length - i⟩
def wV (r:RepoD) (L:List Int) (g:Nat):Inv:=⟨Nat,fun k=>⟨[(3,true,.ptr 10 0),(6,true,.nil),(9,true,.own 9 1 (aj L)),(11,true,.own 11 1 (aj (dW r L g))),(12,true,.int .i64 g),(13,true,.bool (kp r L g k)),(14,true,.int .i64 k)],[(10,cV r),(9,.own 3 1 true (aj L)),(11,.own 3 1 true (aj (dW r L g)))]⟩,fun k=>k<=L.length/\g < L.length,fun k=>L.length - k⟩
def qV (r:RepoD) (a b:Int) (n g:Nat):Inv:=if n=5 then wT r a b else if n=11 then wU r (cE r a b (ar (anc r a)).length) else wV r (cE r a b (ar (anc r a)).length) g
theorem Lt (r a b g):qV r a b 5 g=wT r a b:=rfl
theorem Lr (r a b g):qV r a b 11 g=wU r (cE r a b (ar (anc r a)).length):=rfl
theorem Ls (r a b g):qV r a b 15 g=wV r (cE r a b (ar (anc r a)).length) g:=rfl
def tW:Con:=.fn 83 (RepoD × Int × Int) (fun a=>[bF a.1,.int .i64 a.2.1,.int .i64 a.2.2]) (fun a=>aF a.1=true/\(0<=a.2.1/\a.2.1 < a.1.commits.length)/\0<=a.2.2/\a.2.2 < a.1.commits.length) (fun a=>.own 8 1 (aj (fZ a.1 a.2.1 a.2.2))) (fun a=>kT 8 (fZ a.1 a.2.1 a.2.2))
theorem Lq:Has Tryz.prog 205 tW:=by
 refine ag mixed bn (HasL.cons Lo (HasL.cons BJ HasL.nil)) [0,1,2,3,6,7,8,9,10,11,12,13,14] (fun a=>qV a.1 a.2.1 a.2.2) [] Tryz.func205 (by unfold Tryz.f205; rfl) (fun _=>⟨(),trivial⟩) ?_
 intro a ha;obtain ⟨r,a,b⟩:=a;obtain ⟨h1,⟨h2,h3⟩,h4,h5⟩:aF r=true/\(0<=a/\a < r.commits.length)/\0<=b/\b < r.commits.length:=ha;simp (maxSteps:=8000000) -implicitDefEqProofs [-kStep_move,-kStepC_move,-Bool.exists_bool,tW,tV,pQ,Con.fn,aC,ae,Lt,Lr,Ls,wT,wU,wV,bR]
 try dsimp only
 have hal:=eH r;have h6:=fK h1;have hmem:∀ c,∀ x ∈ ar (anc r c),0<=x/\x < r.commits.length:=fun c x hx=>by
  obtain ⟨i,q1,_,rfl⟩:=listT_mem.1 hx;rw [hal] at q1;omega
 have h16:∀ c,(ar (anc r c)).length<=16:=fun c=>by
  have:=oc (anc r c) (anc r c).length;rw [hal] at this;unfold ar; rw [hal]; omega
 refine ⟨r,a,⟨⟨rfl,rfl⟩,rfl⟩,⟨h1,h2,h3⟩,r,b,⟨⟨rfl,rfl⟩,rfl⟩,⟨h1,h4,h5⟩,?_⟩;have hLm:=hmem a;have hL16:=h16 a;have stepB:∀ t (h:t < (ar (anc r a)).length),cE r a b (t+1)=if (ar (anc r a))[t] ∈ ar (anc r b) then cE r a b t++[(ar (anc r a))[t]] else cE r a b t:=fun t h=>by
  unfold cE;rw [bg h,List.filter_append];split
  ·rename_i hq; rw [List.filter_cons_of_pos (by simpa using hq)]; simp
  ·rename_i hq; rw [List.filter_cons_of_neg (by simpa using hq)]; simp
 have bothL:∀ t,(cE r a b t).length<=(ar (anc r a)).length:=fun t=>by
  unfold cE;exact Nat.le_trans (List.length_filter_le _ _) (by simp; omega)
 have hBm:∀ x ∈ cE r a b (ar (anc r a)).length,0<=x/\x < r.commits.length:=fun x hx=>by
  unfold cE at hx;exact hLm x (List.mem_of_mem_take (List.mem_filter.1 hx).1)
 have hout:fZ r a b=dW r (cE r a b (ar (anc r a)).length) (cE r a b (ar (anc r a)).length).length:=rfl;have hb0:cE r a b 0=[]:=by unfold cE; simp
 generalize ar (anc r a)=L at *;generalize hM:ar (anc r b)=M at *;have hB16:=bothL L.length;generalize hB:cE r a b L.length=B at *;have baseS:∀ u (h:u < B.length),dW r B (u+1)=if kp r B u B.length then dW r B u++[B[u]] else dW r B u:=fun u h=>by
  unfold dW;rw [List.range_succ,List.filter_append,List.map_append];split
  ·rename_i hq; simp -implicitDefEqProofs [hq,List.getD_eq_getElem?_getD,h]
  ·rename_i hq; simp -implicitDefEqProofs [hq]
 have baseL:∀ u,(dW r B u).length<=u:=fun u=>by
  unfold dW;rw [List.length_map];exact Nat.le_trans (List.length_filter_le _ _) (by simp)
 refine ⟨⟨0,⟨⟨rfl,rfl,hb0,rfl⟩,hb0⟩,Nat.zero_le _⟩,fun t ht _=>⟨fun hlt=>⟨hlt,fun _=>?_⟩,fun hge=>?_⟩⟩
 ·have qq:Option.map aq L[t]? = some (aq L[t]):=by simp -implicitDefEqProofs [hlt]
  have sB:=stepB t hlt;have bL:=bothL t;have sn:aj (cE r a b t)++[[D.int .i64 L[t]]]=aj (cE r a b t++[L[t]]):=nK _ _;rw [qq];generalize L[t]=y at *;simp -implicitDefEqProofs [aq,D.asInt];rw [sn];refine ⟨M,y,⟨rfl,rfl⟩,fun h=>⟨hlt,fun _=>⟨⟨by omega,by omega⟩,⟨by omega,by omega⟩,fun _ _=>⟨t+1,by rw [sB,if_pos h]; exact ⟨⟨⟨rfl,by omega⟩,rfl⟩,by omega,by omega⟩⟩⟩⟩,fun h=>⟨⟨by omega,by omega⟩,fun _ _=>⟨t+1,by rw [sB,if_neg h]; exact ⟨⟨⟨rfl,by omega⟩,rfl⟩,by omega,by omega⟩⟩⟩⟩
 ·have ht':t=L.length:=by omega
  subst ht';rw [hB];refine ⟨⟨0,⟨⟨rfl,rfl,rfl⟩,rfl,rfl⟩,Nat.zero_le _⟩,fun u hu _=>⟨fun hlu=>⟨u,⟨0,⟨⟨rfl,rfl,rfl,rfl⟩,rfl⟩,Nat.zero_le _,hlu⟩,fun k hk _ _=>?_⟩,fun hgu=>?_⟩⟩
  ·have q2:Option.map aq B[u]? = some (aq B[u]):=by simp -implicitDefEqProofs [hlu]
   have sS:=baseS u hlu;have bL:=baseL u;have gu:B.getD u 0=B[u]:=by simp -implicitDefEqProofs [List.getD_eq_getElem?_getD,hlu]
   have sn:aj (dW r B u)++[[D.int .i64 B[u]]]=aj (dW r B u++[B[u]]):=nK _ _;refine ⟨fun hkl=>?_,fun hge=>?_⟩
   ·have q1:Option.map aq B[k]? = some (aq B[k]):=by simp -implicitDefEqProofs [hkl]
    have gk:B.getD k 0=B[k]:=by simp -implicitDefEqProofs [List.getD_eq_getElem?_getD,hkl]
    have sb:kp r B u (k+1)=(kp r B u k && (decide ((k:Int)=(u:Int)) || !decide (B[u] ∈ ar (anc r B[k])))):=by
     have e:decide ((k:Int)=(u:Int))=decide (k=u):=by rw [Bool.eq_iff_iff,decide_eq_true_eq,decide_eq_true_eq]; omega
     rw [e];unfold kp;rw [List.range_succ,List.all_append,gu];simp -implicitDefEqProofs [List.getD_eq_getElem?_getD,hkl]
    have hm:=hBm B[k] (List.getElem_mem hkl);rw [q1,q2];generalize B[u]=y at *;generalize B[k]=x at *;simp -implicitDefEqProofs [aq,D.asInt,hkl,hlu];refine ⟨fun a b=>⟨a,b⟩,fun _=>⟨fun a b=>⟨a,b⟩,fun _=>⟨r,x,⟨⟨rfl,rfl⟩,rfl⟩,fun a b=>⟨⟨a,b⟩,h1,hm.1,hm.2⟩,fun a b=>⟨a,b⟩,fun _=>⟨fun a b=>⟨a,b⟩,fun _=>⟨_,y,⟨rfl,rfl⟩,fun a=>⟨a,?_⟩,fun _=>⟨⟨by omega,by omega⟩,fun _ _=>⟨k+1,⟨sb,by omega⟩,by omega,by omega⟩⟩⟩⟩⟩⟩⟩
    by_cases e:(k:Int)=u
    ·exact .inl e
    ·exact .inr ⟨a,e⟩
   ·have:k=B.length:=by omega
    subst this;rw [q2];generalize B[u]=y at *;simp -implicitDefEqProofs [aq,D.asInt,hlu];rw [sn];exact ⟨fun h=>⟨⟨by omega,by omega⟩,⟨by omega,by omega⟩,fun _ _=>⟨u+1,by rw [sS,if_pos h]; exact ⟨⟨⟨rfl,by omega⟩,rfl⟩,by omega,by omega⟩⟩⟩,fun h=>⟨⟨by omega,by omega⟩,fun _ _=>⟨u+1,by rw [sS,if_neg (by simp -implicitDefEqProofs [h])]; exact ⟨⟨⟨rfl,by omega⟩,rfl⟩,by omega,by omega⟩⟩⟩⟩
  ·have:u=B.length:=by omega
   subst this;rw [<- hout];exact ⟨rfl,rfl⟩
--TAB aC
theorem Pm {r:RepoD} (h:az r=true) (i:Nat):bi (r.commits.getD i default).tree=true:=by
 rcases Nat.lt_or_ge i r.commits.length with hi | hi
 ·have:=((cQ r).1 h).1 i hi;unfold dH gz at this;simp only [Bool.and_eq_true] at this;exact this.2.2
 ·have:r.commits.getD i default=default:=by simp -implicitDefEqProofs [List.getD_eq_getElem?_getD,hi]
  rw [this]; rfl
theorem j3 {r:RepoD} (h:az r=true) (c:Int):bi (aJ r c)=true:=Pm h _
theorem xE {r:RepoD} (h:az r=true):dC r:=by
 obtain ⟨h1,h2,h3⟩:=(cQ r).1 h;refine ⟨by omega,fun c hc=>?_,by have:=((iC _ _).1 h2).1; omega⟩
 obtain ⟨i,hi,rfl⟩:=List.getElem_of_mem hc;have h4:=h1 i hi;have e:r.commits.getD i default=r.commits[i]:=by simp -implicitDefEqProofs [List.getD_eq_getElem?_getD,hi]
 unfold dH gz at h4;rw [e] at h4;simp only [Bool.and_eq_true,decide_eq_true_eq] at h4;obtain ⟨t1,t2⟩:=mX _ h4.2.2;exact ⟨by omega,by omega,fun g hg=>by have:=t2 g hg; omega⟩
theorem jb {r:RepoD} {c:Int} (h0:0<=c) (h1:c < r.commits.length):Option.map bm r.commits[c.toNat]? = some [D.sl 3 1 (aj (r.commits.getD c.toNat default).parents),D.str (r.commits.getD c.toNat default).who,D.sl 99 2 (ac (aJ r c))]:=by
 have h:c.toNat < r.commits.length:=by omega
 have e:r.commits.getD c.toNat default=r.commits[c.toNat]:=by simp -implicitDefEqProofs [List.getD_eq_getElem?_getD,h]
 unfold aJ;rw [e]; simp -implicitDefEqProofs [h,bm]
theorem FZ {r:RepoD} {a b:Int} {i:Nat}:∀ x ∈ cE r a b i,0<=x/\x < r.commits.length:=fun x hx=>by
 unfold cE at hx;obtain ⟨j,q1,_,rfl⟩:=listT_mem.1 (List.mem_of_mem_take (List.mem_filter.1 hx).1);rw [eH] at q1;omega
theorem FT {r:RepoD} {a b:Int}:∀ x ∈ fZ r a b,0<=x/\x < r.commits.length:=fun x hx=>by
 unfold fZ dW at hx;obtain ⟨j,hj,rfl⟩:=List.mem_map.1 hx;have hj:=List.mem_range.1 (List.mem_filter.1 hj).1;rw [List.getD_eq_getElem?_getD,List.getElem?_eq_getElem hj,Option.getD_some];exact FZ _ (List.getElem_mem hj)
theorem FS {r:RepoD} (h:aF r=true) {a b:Int}:(fZ r a b).length<=16:=by
 have h6:=fK h;have h1:=oc (anc r a) (anc r a).length;unfold fZ dW;rw [List.length_map];refine Nat.le_trans (List.length_filter_le _ _) ?_;rw [List.length_range];unfold cE;refine Nat.le_trans (List.length_filter_le _ _) ?_;rw [eH] at h1;simp only [List.length_take,ar,eH]; omega
theorem FM {r:RepoD} (h:az r=true) (a b:Int):bi (c8 r a b)=true:=by
 unfold c8;split
 ·rfl
 ·exact j3 h _
theorem yp {r:RepoD} (h:az r=true) (c:Int):bi (ek r c)=true:=by
 unfold ek;split
 ·rfl
 ·exact j3 h _
theorem gK {t:List FileD} (h:bi t=true):szT t:=by
 obtain ⟨h1,h2⟩:=mX t h;exact ⟨by omega,h2⟩
def tX:Con:=.fn 26 (RepoD × Int × Int) (fun a=>[bF a.1,.int .i64 a.2.1,.int .i64 a.2.2]) (fun a=>az a.1=true/\(0<=a.2.1/\a.2.1 < a.1.commits.length)/\0<=a.2.2/\a.2.2 < a.1.commits.length) (fun a=>.sl true 2 (ac (c8 a.1 a.2.1 a.2.2))) (fun _=>[])
theorem Lu:Has Tryz.prog 179 tX:=by
 refine ag mixed bn (HasL.cons Lq HasL.nil) [0,1,2,3,6,7] ((fun a n (_:Nat)=>(fun _=>an) a n)) [] Tryz.func179 (by unfold Tryz.f179; rfl) (fun _=>⟨(),trivial⟩) ?_
 intro a ha;obtain ⟨r,a,b⟩:=a;obtain ⟨h1,⟨h2,h3⟩,h4,h5⟩:az r=true/\(0<=a/\a < r.commits.length)/\0<=b/\b < r.commits.length:=ha;simp -implicitDefEqProofs [tX,tW,Con.fn,aC,ae,bR]
 try dsimp only
 simp -implicitDefEqProofs only [and_assoc,exists_eq_left,exists_and_left,RepoD.ex1,RepoD.eta];have hI:aF r=true:=by rw [cu]; exact h1
 have hl:=FS hI (a:=a) (b:=b);have hmm:=FT (r:=r) (a:=a) (b:=b);have hb:c8 r a b=match (fZ r a b).getLast? with | none=>[] | some c=>aJ r c:=rfl
 refine ⟨hI,h2,h3,h4,h5,fun _=>⟨fun h=>by rw [hb,h]; rfl,fun h=>?_⟩⟩
 rcases List.eq_nil_or_concat (fZ r a b) with e | ⟨m,q,e⟩
 ·exact absurd e h
 ·rw [e] at hl hmm hb ⊢;have hq:=hmm q (by simp)
  have cg:=jb hq.1 hq.2;have hb:c8 r a b=aJ r q:=by rw [hb]; simp
  rw [hb];simp -implicitDefEqProofs [aq,D.asInt,cg,D.asRows];simp at hl;omega
def tY:Con:=.fn 70 (RepoD × Str × Str × Int) (fun a=>[bF a.1,.str a.2.1,.str a.2.2.1,.int .i64 a.2.2.2]) (fun a=>az a.1=true/\0<=atL a.1.heads a.2.1/\0<=a.2.2.2/\a.2.2.2 < a.1.commits.length) (fun a=>.tup [.agg [.sl false 3 (ap (dS a.1 a.2.1 a.2.2.1 a.2.2.2).1.commits),.sl false 2 (ah (dS a.1 a.2.1 a.2.2.1 a.2.2.2).1.heads)],.int .i64 (dS a.1 a.2.1 a.2.2.1 a.2.2.2).2]) (fun _=>[])
theorem Lv:Has Tryz.prog 146 tY:=by
 refine ag mixed bn (HasL.cons jQ (HasL.cons Lp (HasL.cons BJ (HasL.cons wS (HasL.cons Lu (HasL.cons BF (HasL.cons wR (HasL.cons kP HasL.nil)))))))) [0,1,2,3,4,8,9,10,11,12,13] ((fun a n (_:Nat)=>(fun _=>an) a n)) [] Tryz.func146 (by unfold Tryz.f146; rfl) (fun _=>⟨(),trivial⟩) ?_
 intro a ha;obtain ⟨r,n,w,b⟩:=a;obtain ⟨h1,h2,h3,h4⟩:az r=true/\0<=atL r.heads n/\0<=b/\b < r.commits.length:=ha;simp -implicitDefEqProofs [tY,iv,tU,pQ,nu,tX,pP,nt,i6,Con.fn,aC,ae,bR]
 try dsimp only
 simp -implicitDefEqProofs only [and_assoc,exists_eq_left,exists_and_left,RepoD.ex1,RepoD.eta];have hI:aF r=true:=by rw [cu]; exact h1
 obtain ⟨k1,k2,k3⟩:=xE h1;have hat:=m9 (n:=n) ((cQ r).1 h1).2.1;have ga:=jb (r:=r) (c:=atL r.heads n) h2 (by omega)
 have gb:=jb (r:=r) h3 h4;rw [ga,gb];simp -implicitDefEqProofs [D.asRows];have hlen:∀ c,(cf r n c).commits.length<=1073741824:=fun c=>by simp -implicitDefEqProofs [cf]; omega
 refine ⟨hI,h2,by omega,fun h=>?_,fun h=>⟨hI,h3,h4,fun h'=>⟨by omega,?_⟩,fun h'=>⟨h1,h2,by omega,h3,h4,h2,by omega,fun _ _=>⟨h3,h4,fun _ _=>⟨gK (FM h1 _ _),gK (j3 h1 _),gK (j3 h1 _),fun _=>⟨fun hj=>?_,fun hj=>⟨⟨[atL r.heads n,b],w,(bT (c8 r (atL r.heads n) b) (aJ r (atL r.heads n)) (aJ r b)).1⟩,rfl,rfl,rfl,k1,k3,hlen _,fun hs=>?_,fun hs=>?_⟩⟩⟩⟩⟩⟩⟩
 ·unfold dS; rw [if_pos h]; exact ⟨rfl,rfl,rfl⟩
 ·unfold dS; rw [if_neg h,if_pos h']; exact ⟨rfl,rfl,rfl⟩
 ·unfold dS; rw [if_neg h,if_neg h',if_neg (by intro e; rw [e] at hj; simp at hj)]; exact ⟨rfl,rfl,rfl⟩
 ·unfold dS; rw [if_neg h,if_neg h',if_pos hj,if_neg (by simp -implicitDefEqProofs [hs])]; exact ⟨rfl,rfl,rfl⟩
 ·unfold dS; rw [if_neg h,if_neg h',if_pos hj,if_pos hs]; exact ⟨rfl,rfl,rfl⟩
def uY:Con:=.fn 42 (RepoD × Str × Str × Int) (fun a=>[bF a.1,.str a.2.1,.str a.2.2.1,.int .i64 a.2.2.2]) (fun a=>dC a.1) (fun a=>.tup [.agg [.sl false 3 (ap (cD a.1 a.2.1 a.2.2.1 a.2.2.2).1.commits),.sl false 2 (ah (cD a.1 a.2.1 a.2.2.1 a.2.2.2).1.heads)],.int .i64 (cD a.1 a.2.1 a.2.2.1 a.2.2.2).2]) (fun _=>[])
theorem Q9:Has Tryz.prog 90 uY:=by
 refine ag mixed bn (HasL.cons kP (HasL.cons jQ (HasL.cons mq (HasL.cons kO (HasL.cons nX (HasL.cons Lv HasL.nil)))))) [0,1,2,3,4,8,9] ((fun a n (_:Nat)=>(fun _=>an) a n)) [] Tryz.func90 (by unfold Tryz.f90; rfl) (fun _=>⟨(),trivial⟩) ?_
 intro a ha;obtain ⟨r,n,w,b⟩:=a;replace ha:dC r:=ha;simp -implicitDefEqProofs [uY,i6,iv,jF,iZ,kt,tY,Con.fn,aC,ae,bR]
 try dsimp only
 simp -implicitDefEqProofs only [and_assoc,exists_eq_left,exists_and_left,RepoD.ex1,RepoD.eta];have e0:az r=false->cD r n w b=(noR,1):=fun h=>by unfold cD; rw [if_neg (by simp -implicitDefEqProofs [h])]
 have e1:az r=true->(atL r.heads n < 0 \/ bc w=false \/ ¬ (0<=b/\b < r.commits.length))->cD r n w b=(r,1):=fun h h'=>by unfold cD; rw [if_pos h,if_pos h']
 have e2:az r=true -> ¬ (atL r.heads n < 0 \/ bc w=false \/ ¬ (0<=b/\b < r.commits.length))->cD r n w b=dS r n w b:=fun h h'=>by unfold cD; rw [if_pos h,if_neg h']
 have hr1:r.commits.length<=1048576:=ha.1;refine ⟨by omega,fun h=>by rw [e0 h]; exact ⟨rfl,rfl,rfl⟩,fun h=>⟨fun hn=>⟨ha,by rw [e1 h (.inl hn)]; exact ⟨rfl,rfl,rfl⟩⟩,fun hn=>⟨fun hw=>⟨ha,by rw [e1 h (.inr (.inl hw))]; exact ⟨rfl,rfl,rfl⟩⟩,fun hw _=>⟨by omega,by omega,fun _ _=>⟨fun hb=>⟨ha,by rw [e1 h (.inr (.inr (by omega)))]; exact ⟨rfl,rfl,rfl⟩⟩,fun hb hb'=>⟨ha,h,hn,hb,by omega,?_⟩⟩⟩⟩⟩⟩
 rw [e2 h (by rintro (q | q | q); omega; rw [hw] at q; cases q; omega)]; exact ⟨rfl,rfl,rfl⟩
def pE:Con:=.fn 26 (RepoD × Int) (fun a=>[bF a.1,.int .i64 a.2]) (fun a=>az a.1=true/\0<=a.2/\a.2 < a.1.commits.length) (fun a=>.sl true 2 (ac (ek a.1 a.2))) (fun _=>[])
theorem Bo:Has Tryz.prog 148 pE:=by
 refine ag mixed bn HasL.nil [0,1,2,4] ((fun a n (_:Nat)=>(fun _=>an) a n)) [] Tryz.func148 (by unfold Tryz.f148; rfl) (fun _=>⟨(),trivial⟩) ?_
 intro a ha;obtain ⟨r,c⟩:=a;obtain ⟨h1,h2,h3⟩:az r=true/\0<=c/\c < r.commits.length:=ha;simp -implicitDefEqProofs [pE,Con.fn,aC,ae,bR]
 try dsimp only
 simp -implicitDefEqProofs only [and_assoc,exists_eq_left,exists_and_left,RepoD.ex1,RepoD.eta];have cg:=jb (r:=r) h2 h3;have hp:ek r c=match (r.commits.getD c.toNat default).parents with | []=>[] | p :: _=>aJ r p:=rfl
 have hmem:∀ p ∈ (r.commits.getD c.toNat default).parents,0<=p/\p < r.commits.length:=fun p hp=>by
  have hc:c.toNat < r.commits.length:=by omega
  have:=(fL (r:=r) (by rw [cu]; exact h1) hc).2.1 p (by simpa [List.getD_eq_getElem?_getD,hc] using hp)
  omega
 have hl:(r.commits.getD c.toNat default).parents.length<=1000:=by
  have hc:c.toNat < r.commits.length:=by omega
  have:=(fL (r:=r) (by rw [cu]; exact h1) hc).1
  simpa [List.getD_eq_getElem?_getD,hc] using by omega
 rw [cg];generalize (r.commits.getD c.toNat default).parents=P at *;cases P with
 | nil=>simp -implicitDefEqProofs [D.asRows,hp]; omega
 | cons p P =>
  have hq:=hmem p (by simp)
  have cp:=jb hq.1 hq.2;have hp:ek r c=aJ r p:=hp;simp -implicitDefEqProofs [D.asRows,hp,aj,aq,D.asInt,cp];exact ⟨h2,h3,fun _ _ _=>⟨h2,h3,fun _ _=>hq⟩⟩
def pF:Con:=.fn 48 (RepoD × Str × Str × List FileD × List FileD) (fun a=>[bF a.1,.str a.2.1,.str a.2.2.1,.sl true 2 (ac a.2.2.2.1),.sl true 2 (ac a.2.2.2.2)]) (fun a=>az a.1=true/\0<=atL a.1.heads a.2.1/\bi a.2.2.2.1=true/\bi a.2.2.2.2=true) (fun a=>.tup [.agg [.sl false 3 (ap (dA a.1 a.2.1 a.2.2.1 a.2.2.2.1 a.2.2.2.2).1.commits),.sl false 2 (ah (dA a.1 a.2.1 a.2.2.1 a.2.2.2.1 a.2.2.2.2).1.heads)],.int .i64 (dA a.1 a.2.1 a.2.2.1 a.2.2.2.1 a.2.2.2.2).2]) (fun _=>[])
theorem Bp:Has Tryz.prog 147 pF:=by
 refine ag mixed bn (HasL.cons jQ (HasL.cons BF (HasL.cons wR (HasL.cons kP HasL.nil)))) [0,1,2,3,4,5,10,11,12,13,14,15] ((fun a n (_:Nat)=>(fun _=>an) a n)) [] Tryz.func147 (by unfold Tryz.f147; rfl) (fun _=>⟨(),trivial⟩) ?_
 intro a ha;obtain ⟨r,n,w,o,b⟩:=a;obtain ⟨h1,h2,h3,h4⟩:az r=true/\0<=atL r.heads n/\bi o=true/\bi b=true:=ha;simp -implicitDefEqProofs [pF,iv,pP,nt,i6,Con.fn,aC,ae,bR]
 try dsimp only
 simp -implicitDefEqProofs only [and_assoc,exists_eq_left,exists_and_left,RepoD.ex1,RepoD.eta];obtain ⟨k1,k2,k3⟩:=xE h1;have hat:=m9 (n:=n) ((cQ r).1 h1).2.1;have ga:=jb (r:=r) (c:=atL r.heads n) h2 (by omega)
 rw [ga];simp -implicitDefEqProofs [D.asRows];have hlen:∀ c,(cf r n c).commits.length<=1073741824:=fun c=>by simp -implicitDefEqProofs [cf]; omega
 refine ⟨h2,by omega,fun _ _=>⟨gK h3,gK (j3 h1 _),gK h4,fun _=>⟨fun hj=>?_,fun hj=>⟨⟨[atL r.heads n],w,(bT o (aJ r (atL r.heads n)) b).1⟩,rfl,rfl,rfl,k1,k3,hlen _,fun hs=>?_,fun hs=>?_⟩⟩⟩⟩
 ·unfold dA; rw [if_neg (by intro e; rw [e] at hj; simp at hj)]; exact ⟨rfl,rfl,rfl⟩
 ·unfold dA; rw [if_pos hj,if_neg (by simp -implicitDefEqProofs [hs])]; exact ⟨rfl,rfl,rfl⟩
 ·unfold dA; rw [if_pos hj,if_pos hs]; exact ⟨rfl,rfl,rfl⟩
def uA:Con:=.fn 52 (RepoD × Str × Str × Int) (fun a=>[bF a.1,.str a.2.1,.str a.2.2.1,.int .i64 a.2.2.2]) (fun a=>dC a.1) (fun a=>.tup [.agg [.sl false 3 (ap (b9 false a.1 a.2.1 a.2.2.1 a.2.2.2).1.commits),.sl false 2 (ah (b9 false a.1 a.2.1 a.2.2.1 a.2.2.2).1.heads)],.int .i64 (b9 false a.1 a.2.1 a.2.2.1 a.2.2.2).2]) (fun _=>[])
theorem N8:Has Tryz.prog 91 uA:=by
 refine ag mixed bn (HasL.cons kP (HasL.cons jQ (HasL.cons mq (HasL.cons kO (HasL.cons nX (HasL.cons Bo (HasL.cons Bp HasL.nil))))))) [0,1,2,3,4,8,9,10] ((fun a n (_:Nat)=>(fun _=>an) a n)) [] Tryz.func91 (by unfold Tryz.f91; rfl) (fun _=>⟨(),trivial⟩) ?_
 intro a ha;obtain ⟨r,n,w,b⟩:=a;replace ha:dC r:=ha;simp -implicitDefEqProofs [uA,i6,iv,jF,iZ,kt,pE,pF,Con.fn,aC,ae,bR]
 try dsimp only
 simp -implicitDefEqProofs only [and_assoc,exists_eq_left,exists_and_left,RepoD.ex1,RepoD.eta];have e0:az r=false->b9 false r n w b=(noR,1):=fun h=>by unfold b9; rw [if_neg (by simp -implicitDefEqProofs [h])]
 have e1:az r=true->(atL r.heads n < 0 \/ bc w=false \/ ¬ (0<=b/\b < r.commits.length))->b9 false r n w b=(r,1):=fun h h'=>by unfold b9; rw [if_pos h,if_pos h']
 have e2:az r=true -> ¬ (atL r.heads n < 0 \/ bc w=false \/ ¬ (0<=b/\b < r.commits.length))->b9 false r n w b=dA r n w (ek r b) (aJ r b):=fun h h'=>by unfold b9; rw [if_pos h,if_neg h']; rfl
 have hr1:r.commits.length<=1048576:=ha.1;refine ⟨by omega,fun h=>by rw [e0 h]; exact ⟨rfl,rfl,rfl⟩,fun h=>⟨fun hn=>⟨ha,by rw [e1 h (.inl hn)]; exact ⟨rfl,rfl,rfl⟩⟩,fun hn=>⟨fun hw=>⟨ha,by rw [e1 h (.inr (.inl hw))]; exact ⟨rfl,rfl,rfl⟩⟩,fun hw _=>⟨by omega,by omega,fun _ _=>⟨fun hb=>⟨ha,by rw [e1 h (.inr (.inr (by omega)))]; exact ⟨rfl,rfl,rfl⟩⟩,fun hb hb'=>?_⟩⟩⟩⟩⟩
 rw [e2 h (by rintro (q | q | q); omega; rw [hw] at q; cases q; omega)]
 have cb:=jb hb (show b < r.commits.length by omega)
 have s1:=j3 h b;have s2:=yp h b;rw [cb];simp -implicitDefEqProofs [D.asRows,h,hn,hb,s1,s2,show b < r.commits.length by omega,show dC r from ha]
def uz:Con:=.fn 52 (RepoD × Str × Str × Int) (fun a=>[bF a.1,.str a.2.1,.str a.2.2.1,.int .i64 a.2.2.2]) (fun a=>dC a.1) (fun a=>.tup [.agg [.sl false 3 (ap (b9 true a.1 a.2.1 a.2.2.1 a.2.2.2).1.commits),.sl false 2 (ah (b9 true a.1 a.2.1 a.2.2.1 a.2.2.2).1.heads)],.int .i64 (b9 true a.1 a.2.1 a.2.2.1 a.2.2.2).2]) (fun _=>[])
theorem N6:Has Tryz.prog 92 uz:=by
 refine ag mixed bn (HasL.cons kP (HasL.cons jQ (HasL.cons mq (HasL.cons kO (HasL.cons nX (HasL.cons Bo (HasL.cons Bp HasL.nil))))))) [0,1,2,3,4,8,9,10] ((fun a n (_:Nat)=>(fun _=>an) a n)) [] Tryz.func92 (by unfold Tryz.f92; rfl) (fun _=>⟨(),trivial⟩) ?_
 intro a ha;obtain ⟨r,n,w,b⟩:=a;replace ha:dC r:=ha;simp -implicitDefEqProofs [uz,i6,iv,jF,iZ,kt,pE,pF,Con.fn,aC,ae,bR]
 try dsimp only
 simp -implicitDefEqProofs only [and_assoc,exists_eq_left,exists_and_left,RepoD.ex1,RepoD.eta];have e0:az r=false->b9 true r n w b=(noR,1):=fun h=>by unfold b9; rw [if_neg (by simp -implicitDefEqProofs [h])]
 have e1:az r=true->(atL r.heads n < 0 \/ bc w=false \/ ¬ (0<=b/\b < r.commits.length))->b9 true r n w b=(r,1):=fun h h'=>by unfold b9; rw [if_pos h,if_pos h']
 have e2:az r=true -> ¬ (atL r.heads n < 0 \/ bc w=false \/ ¬ (0<=b/\b < r.commits.length))->b9 true r n w b=dA r n w (aJ r b) (ek r b):=fun h h'=>by unfold b9; rw [if_pos h,if_neg h']; rfl
 have hr1:r.commits.length<=1048576:=ha.1;refine ⟨by omega,fun h=>by rw [e0 h]; exact ⟨rfl,rfl,rfl⟩,fun h=>⟨fun hn=>⟨ha,by rw [e1 h (.inl hn)]; exact ⟨rfl,rfl,rfl⟩⟩,fun hn=>⟨fun hw=>⟨ha,by rw [e1 h (.inr (.inl hw))]; exact ⟨rfl,rfl,rfl⟩⟩,fun hw _=>⟨by omega,by omega,fun _ _=>⟨fun hb=>⟨ha,by rw [e1 h (.inr (.inr (by omega)))]; exact ⟨rfl,rfl,rfl⟩⟩,fun hb hb'=>?_⟩⟩⟩⟩⟩
 rw [e2 h (by rintro (q | q | q); omega; rw [hw] at q; cases q; omega)]
 have cb:=jb hb (show b < r.commits.length by omega)
 have s1:=j3 h b;have s2:=yp h b;rw [cb];simp -implicitDefEqProofs [D.asRows,h,hn,hb,s1,s2,show b < r.commits.length by omega,show dC r from ha]
--TAB dm
def fT (r:RepoD) (n:Int):List FileD:=if n < 0 then [] else aJ r n
def ny:Con:=.fn 13 (RepoD × Int) (fun a=>[bF a.1,.int .i64 a.2]) (fun a=>-1<=a.2/\a.2 < a.1.commits.length) (fun a=>.sl true 2 (ac (fT a.1 a.2))) (fun _=>[])
theorem Ej:Has Tryz.prog 71 ny:=by
 refine ag mixed fa HasL.nil [0,1,2,4] ((fun a n (_:Nat)=>(fun _=>an) a n)) [] Tryz.func71 (by unfold Tryz.f71; rfl) (fun _=>⟨(),trivial⟩) ?_
 intro a ha;obtain ⟨r,n⟩:=a;obtain ⟨h1,h2⟩:-1<=n/\n < r.commits.length:=ha;by_cases h0:n < 0
 ·have e:fT r n=[]:=by unfold fT; rw [if_pos h0]
  simp -implicitDefEqProofs [ny,Con.fn,dm,ae,e,h1,h2]
  try dsimp only
  exact fun h=>absurd h (by omega)
 ·have hi:n.toNat < r.commits.length:=by omega
  have e:Option.map bm r.commits[n.toNat]? = some (bm r.commits[n.toNat]):=by simp -implicitDefEqProofs [hi]
  have e2:fT r n=r.commits[n.toNat].tree:=by unfold fT aJ; rw [if_neg h0]; simp -implicitDefEqProofs [List.getD_eq_getElem?_getD,hi]
  simp -implicitDefEqProofs [ny,Con.fn,dm,ae,e,e2,bm,hi,h1,h2]
  try dsimp only
  exact fun h=>absurd h h0
theorem E6 (r:RepoD) (a:Int) (h:∀ p ∈ (r.commits.getD a.toNat default).parents,0<=p):ek r a=fT r (jk r a):=by
 unfold ek jk;cases hp:(r.commits.getD a.toNat default).parents with
 | nil=>rfl
 | cons p l =>
  have:=h p (by rw [hp]; simp)
  show aJ r p=fT r p
  unfold fT;rw [if_neg (by omega)]
theorem E5 {r:RepoD} (h:aF r=true) {a:Int} (h0:0<=a) (h1:a < r.commits.length):ek r a=fT r (jk r a):=E6 r a fun p hp=>by
 have hc:a.toNat < r.commits.length:=by omega
 exact ((fL h hc).2.1 p (by simpa [List.getD_eq_getElem?_getD,hc] using hp)).1
--TAB aC
abbrev oR (x:RepoD × Int):AV:=.tup [.agg [.own 8 3 (ap x.1.commits),.own 9 2 (ah x.1.heads)],.int .i64 x.2]
abbrev oRf (x:RepoD × Int):List (Nat × Blk):=iO 8 x.1.commits++gB 9 x.1.heads
def sC:Con:=.fn 49 (RepoD × Str × Str × List FileD × List FileD) (fun a=>[bF a.1,.str a.2.1,.str a.2.2.1,.sl true 2 (ac a.2.2.2.1),.sl true 2 (ac a.2.2.2.2)]) (fun a=>aF a.1=true/\0<=atL a.1.heads a.2.1/\aA a.2.2.2.1=true/\aA a.2.2.2.2=true) (fun a=>oR (dA a.1 a.2.1 a.2.2.1 a.2.2.2.1 a.2.2.2.2)) (fun a=>oRf (dA a.1 a.2.1 a.2.2.1 a.2.2.2.1 a.2.2.2.2))
theorem Fp:Has Tryz.prog 135 sC:=by
 refine ag mixed bn (HasL.cons km (HasL.cons x5 (HasL.cons A3 (HasL.cons jo (HasL.cons vj (HasL.cons oP HasL.nil)))))) [0,1,2,3,4,5,10,11,12,13,14,15] ((fun a n (_:Nat)=>(fun _=>an) a n)) [16417,16425,16426] Tryz.func135 (by unfold Tryz.f135; rfl) (fun _=>⟨(),trivial⟩) ?_
 intro a ha;obtain ⟨r,n,w,o,b⟩:=a;obtain ⟨h1,h2,h3,h4⟩:aF r=true/\0<=atL r.heads n/\aA o=true/\aA b=true:=ha;simp (maxSteps:=8000000) [-kStep_move,-kStepC_move,-Bool.exists_bool,sC,iY,nz,pA,gQ,nf,nC,ku,gF,Con.fn,aC,ae,bR]
 try dsimp only
 try simp only [and_assoc,exists_eq_left,exists_and_left,RepoD.ex1,RepoD.eta]
 obtain ⟨hz,hp⟩:=eO h1;have hn:=fK h1;have hlt:=nd h1 h2;have ht:=jz h1 ⟨h2,hlt⟩;have hP:=Oy h1 h2 h3 h4 (n:=n) (w:=w);have ta:aJ r (atL r.heads n)=(r.commits[(atL r.heads n).toNat]?.getD default).tree:=by unfold aJ; rw [List.getD_eq_getElem?_getD]
 have jt:=@A2 o (aJ r (atL r.heads n)) b;rw [ta] at hP ht jt;rw [hP];generalize dF o (r.commits[(atL r.heads n).toNat]?.getD default).tree b=J at *;refine ⟨h2,hlt,lp h3,lp ht,lp h4,fun hj=>?_,fun hj=>⟨hz,[atL r.heads n],rfl,trivial,trivial,rfl,hz.2.2,hz.1,(rO jt).1,(rO jt).2,trivial,trivial,hz,zu h1 jt,?_⟩⟩
 ·rw [if_neg (by simp -implicitDefEqProofs [hj])]; exact ⟨hz,rfl,rfl,rfl,rfl,rfl⟩
 ·rw [if_pos hj];exact ⟨fun h=>by simp -implicitDefEqProofs [h],fun h=>by simp -implicitDefEqProofs [h]⟩
def uB:Con:=.fn 50 (RepoD × Str × Str × Int × Bool) (fun a=>[bF a.1,.str a.2.1,.str a.2.2.1,.int .i64 a.2.2.2.1,.bool a.2.2.2.2]) (fun a=>aF a.1=true) (fun a=>oR (b9 a.2.2.2.2 a.1 a.2.1 a.2.2.1 a.2.2.2.1)) (fun a=>oRf (b9 a.2.2.2.2 a.1 a.2.1 a.2.2.1 a.2.2.2.1))
theorem N9:Has Tryz.prog 78 uB:=by
 refine ag mixed bn (HasL.cons km (HasL.cons mB (HasL.cons vN (HasL.cons jo (HasL.cons HO (HasL.cons Ej (HasL.cons Fp HasL.nil))))))) [0,1,2,3,4,5,10,11,12,13] ((fun a n (_:Nat)=>(fun _=>an) a n)) [] Tryz.func78 (by unfold Tryz.f78; rfl) (fun _=>⟨(),trivial⟩) ?_
 intro a ha;obtain ⟨r,n,w,c,k⟩:=a;replace ha:aF r=true:=ha;simp (maxSteps:=8000000) [-kStep_move,-kStepC_move,-Bool.exists_bool,uB,iY,jG,ng,gQ,sX,ny,sC,Con.fn,aC,ae,bR]
 try dsimp only
 try simp only [and_assoc,exists_eq_left,exists_and_left,RepoD.ex1,RepoD.eta]
 obtain ⟨hz,hp⟩:=eO ha;have hn:=fK ha;refine ⟨fun h h'=>⟨h,h',by omega⟩,?_,fun _=>⟨fun h=>?_,fun c1 c2 c3 c4=>?_⟩⟩
 ·rcases Int.lt_or_le (atL r.heads n) 0 with h | h
  ·exact .inl (.inl h)
  ·cases hw:bc w with
   | false=>exact .inl (.inr rfl)
   | true=>exact .inr ⟨h,rfl⟩
 ·rw [NH ha (by rcases h with (h | h) | h | h; exact .inl h; exact .inr (.inl h); exact .inr (.inr (by omega)); exact .inr (.inr (by omega)))]
  exact ⟨hz,rfl,rfl,rfl,rfl,rfl⟩
 ·have hc:c < r.commits.length:=by omega
  obtain ⟨f1,f2⟩:=HP ha c3 hc;have e1:fT r c=aJ r c:=by unfold fT; rw [if_neg (by omega)]
  have e2:=E5 ha c3 hc;have g:=NI ha (back:=k) c1 c2 ⟨c3,hc⟩;have t1:=jz ha ⟨c3,hc⟩;have t2:=E4 ha ⟨c3,hc⟩;rw [e1,<- e2,g];refine ⟨c3,hc,f1,by omega,by omega,hc,fun hk=>?_,fun hk=>?_⟩
  ·rw [hk]; exact ⟨ha,c1,t1,t2,rfl,rfl,rfl,rfl,rfl⟩
  ·rw [hk]; exact ⟨ha,c1,t2,t1,rfl,rfl,rfl,rfl,rfl⟩
--TAB aC
def uW:Con:=.fn 22 (List FileD × FileD) (fun a=>[.sl true 2 (ac a.1),.agg [.str a.2.path,.sl true 1 (aa a.2.text)]]) (fun a=>fC a.1/\a.2.text.length<=1048576/\a.2.path.length<=1048576) (fun a=>.tup [.own 8 2 (ac (lm a.1 a.2).1),.bool (lm a.1 a.2).2]) (fun a=>fF 8 (lm a.1 a.2).1)
theorem QZ:Has Tryz.prog 72 uW:=by
 refine ag mixed bn (HasL.cons lk (HasL.cons Ds (HasL.cons zs HasL.nil))) [0,1,3,4,5,6] ((fun a n (_:Nat)=>(fun _=>an) a n)) [] Tryz.func72 (by unfold Tryz.f72; rfl) (fun _=>⟨(),trivial⟩) ?_
 intro a ha;obtain ⟨t,f⟩:=a;obtain ⟨h1,h4,h5⟩:fC t/\f.text.length<=1048576/\f.path.length<=1048576:=ha;simp (maxSteps:=8000000) -implicitDefEqProofs [-kStep_move,-kStepC_move,-Bool.exists_bool,uW,ja,pV,pm,Con.fn,aC,ae]
 try dsimp only
 obtain ⟨k1,k2,k3⟩:=h1;refine ⟨k3,fun h=>?_,fun h=>⟨t,f,⟨rfl,rfl,rfl⟩,⟨⟨k1,k2⟩,h4⟩,t,(bY t f).1,⟨rfl,rfl⟩,rfl,⟨⟨k1,k2⟩,fun g hg=>?_⟩,?_⟩⟩
 ·unfold lm; rw [if_neg (by simp -implicitDefEqProofs [h])]; exact ⟨⟨rfl,rfl⟩,rfl⟩
 ·rcases Do t f g hg with q | rfl
  ·exact k3 g q
  ·omega
 ·unfold lm; rw [if_pos h]
  by_cases q:aA (bY t f).1=true
  ·rw [if_pos q,if_pos q]; exact ⟨⟨rfl,q.symm⟩,rfl⟩
  ·rw [if_neg q,if_neg q]; exact ⟨⟨rfl,by simpa using q⟩,rfl⟩
def uS:Con:=.fn 34 (List FileD × Str) (fun a=>[.sl true 2 (ac a.1),.str a.2]) (fun a=>fC a.1/\a.2.length<=536870912) (fun a=>.tup [.own 8 2 (ac (jA a.1 a.2).1),.bool (jA a.1 a.2).2]) (fun a=>fF 8 (jA a.1 a.2).1)
theorem QT:Has Tryz.prog 74 uS:=by
 refine ag mixed bn (HasL.cons lk (HasL.cons jJ (HasL.cons AY HasL.nil))) [0,1,4,5,6,8,13,14,15] ((fun a n (_:Nat)=>(fun a _=>⟨Nat,fun i=>⟨[(0,true,.sl true 2 (ac a.1)),(1,true,.str a.2),(4,true,.nil),(5,true,.bool false),(6,true,.own 9 2 (ac (aI (ck a.2) (a.1.take i)))),(13,true,.own 10 2 (eK (ck a.2) a.1 i)),(14,true,.int .i64 a.1.length),(15,true,.int .i64 i)],[(9,.own 99 2 true (ac (aI (ck a.2) (a.1.take i)))),(10,.own 99 2 true (eK (ck a.2) a.1 i))]⟩,fun i=>i<=a.1.length/\aA a.1=true,fun i=>a.1.length - i⟩) a n)) [25] Tryz.func74 (by unfold Tryz.f74; rfl) (fun _=>⟨(),trivial⟩) ?_
 intro a ha;obtain ⟨t,q⟩:=a;obtain ⟨h1,h2⟩:fC t/\q.length<=536870912:=ha;simp -implicitDefEqProofs [uS,ja,iu,pz,Con.fn,aC,ae]
 try dsimp only
 obtain ⟨k1,k2,k3⟩:=h1;generalize hp:ck q=p;have hpv:∀ f:FileD,atB f.path q = !p f:=fun f=>by rw [<- hp]; simp -implicitDefEqProofs [ck]
 have hI:aA t=true->jA t q=(aI p t,decide ((aI p t).length < t.length)):=fun h=>by unfold jA; rw [if_pos h,hp]
 have hF:aA t=false->jA t q=([],false):=fun h=>by unfold jA; rw [if_neg (by simp -implicitDefEqProofs [h])]
 refine ⟨k3,fun h=>by rw [hF h]; exact ⟨⟨rfl,rfl⟩,rfl⟩,fun hT=>⟨⟨k1,k2⟩,fun _=>⟨⟨0,by simp -implicitDefEqProofs [Iy,Ag,hT]⟩,fun i hi _=>⟨fun hlt=>?_,fun hge _ _=>?_⟩⟩⟩⟩
 ·have g1:=Iu (p:=p) hlt;have g2:=Iw p t i;have g3:=Af p t i;have g5:(eK p t i)[i]'(by rw [g2]; exact hlt)=am t[i]:=by
   have:=g1;rw [List.getElem?_eq_getElem (by rw [g2]; exact hlt)] at this
   exact Option.some.inj this
  simp -implicitDefEqProofs [g1,g5,g2,am,D.asStr,D.asRows,hlt,and_assoc];refine ⟨h2,fun hh=>⟨by omega,by omega,by omega,by omega,fun _ _=>?_⟩,fun hh=>⟨by omega,by omega,fun _ _=>?_⟩⟩
  ·have hh:p t[i]=true:=by have:=hpv t[i]; rw [hh] at this; simpa using this.symm
   have e1:=vP (p:=p) hlt hh;have e2:=Iv (p:=p) hlt hh;have e3:ac (aI p (t.take (i+1)))=ac (aI p (t.take i))++[[D.str t[i].path,D.sl 9 1 (aa t[i].text)]]:=by rw [e1,aU]; rfl
   exact ⟨i+1,e3,e2.symm,by omega,e3.symm,e2,by omega,hT,by omega⟩
  ·have hh:p t[i]=false:=by have:=hpv t[i]; rw [hh] at this; simpa using this.symm
   have e1:=vQ (p:=p) hlt hh;have e2:=Ix (p:=p) hlt hh;exact ⟨i+1,e1,e2,by omega,e1.symm,e2.symm,by omega,hT,by omega⟩
 ·rw [hI hT,List.take_of_length_le hge]; exact ⟨⟨rfl,rfl⟩,rfl⟩
def kl (p:Str) (t:List FileD) (i:Nat):Bool:=(t.take i).any fun f=>atB f.path p
theorem Fj (p:Str) (t:List FileD):kl p t 0=false:=rfl
theorem Fi {p:Str} {t:List FileD} {i:Nat} (h:i < t.length):kl p t (i+1)=(kl p t i || atB t[i].path p):=by unfold kl; rw [bg h,List.any_append]; simp
theorem OO {o:List FileD} {f:FileD} (h:Srt (o++[f])):(bY o f).1=o++[f]:=by
 have:=Jg (o:=o) (l:=[f]) h
 simpa [inP] using this
theorem Fs {p q:Str} (h:atB p q=true):q.length<=p.length:=by
 unfold atB at h;simp only [Bool.or_eq_true,decide_eq_true_eq] at h;rcases h with rfl | h
 ·exact Nat.le_refl _
 ·unfold ij at h;simp only [Bool.and_eq_true,decide_eq_true_eq,List.length_append] at h;omega
def mvA (a:List FileD × Str × Str):Inv:=⟨Nat,fun i=>⟨[(0,true,.sl true 2 (ac a.1)),(1,true,.str a.2.1),(2,true,.str a.2.2),(6,true,.nil),(7,true,.bool false),(8,true,.own 9 2 (ac (aI (ck a.2.1) (a.1.take i)))),(9,true,.bool false),(19,true,.sl true 2 (ac a.1)),(20,true,.int .i64 a.1.length),(21,true,.int .i64 i)],[(9,.own 99 2 true (ac (aI (ck a.2.1) (a.1.take i))))]⟩,fun i=>i<=a.1.length/\aA a.1=true,fun i=>a.1.length - i⟩
def mvB (a:List FileD × Str × Str):Inv:=⟨Nat × List FileD,fun x=>⟨[(0,true,.sl true 2 (ac a.1)),(1,true,.str a.2.1),(2,true,.str a.2.2),(6,true,.nil),(7,true,.bool false),(8,true,.own 9 2 (ac x.2)),(9,true,.bool (kl a.2.1 a.1 x.1)),(36,true,.sl true 2 (ac a.1)),(37,true,.int .i64 a.1.length),(38,true,.int .i64 x.1)],[(9,.own 99 2 true (ac x.2))]⟩,
 fun x=>x.1<=a.1.length/\aA a.1=true/\mvI a.2.1 a.2.2 (a.1.drop x.1) x.2=mvI a.2.1 a.2.2 a.1 (aI (ck a.2.1) a.1)/\x.2.length<=8+x.1 /\ ∀ f ∈ x.2,f.text.length<=1048576/\f.path.length<=4194304,fun x=>a.1.length - x.1⟩
def xb (a:List FileD × Str × Str) (n _g:Nat):Inv:=if n=5 then mvA a else mvB a
theorem MW (a:List FileD × Str × Str) (g:Nat):xb a 5 g=mvA a:=rfl
theorem MV (a:List FileD × Str × Str) (g:Nat):xb a 11 g=mvB a:=rfl
def uU:Con:=.fn 81 (List FileD × Str × Str) (fun a=>[.sl true 2 (ac a.1),.str a.2.1,.str a.2.2]) (fun a=>fC a.1/\a.2.1.length<=1048576/\a.2.2.length<=1048576) (fun a=>.tup [.own 8 2 (ac (ik a.1 a.2.1 a.2.2).1),.bool (ik a.1 a.2.1 a.2.2).2]) (fun a=>fF 8 (ik a.1 a.2.1 a.2.2).1)
theorem QW:Has Tryz.prog 75 uU:=by
 refine ag mixed bn (HasL.cons lk (HasL.cons jJ (HasL.cons AY (HasL.cons Ds (HasL.cons zs (HasL.cons rj HasL.nil)))))) [0,1,2,6,7,8,9,11,13,14,15,19,20,21,36,37,38] (fun a=>xb a) [] Tryz.func75 (by unfold Tryz.f75; rfl) (fun _=>⟨(),trivial⟩) ?_
 intro a ha;obtain ⟨t,q,to⟩:=a;obtain ⟨h1,h2,h3⟩:fC t/\q.length<=1048576/\to.length<=1048576:=ha;simp (maxSteps:=8000000) -implicitDefEqProofs [-kStep_move,-kStepC_move,-Bool.exists_bool,uU,ja,iu,pz,pV,pm,lK,Con.fn,aC,ae,MW,MV,mvA,mvB]
 try dsimp only
 obtain ⟨k1,k2,k3⟩:=h1;have hF:aA t=false->ik t q to=([],false):=fun h=>by unfold ik; rw [if_neg (by simp -implicitDefEqProofs [h])]
 refine ⟨k3,fun h=>by rw [hF h]; exact ⟨⟨rfl,rfl⟩,rfl⟩,fun hT _=>⟨⟨0,by simp -implicitDefEqProofs [Ag,hT]⟩,fun i hi _=>⟨fun hlt=>⟨hlt,fun _=>?_⟩,fun hge _=>?_⟩⟩⟩
 ·have e1:Option.map am t[i]? = some (am t[i]):=by simp -implicitDefEqProofs [hlt]
  have hs:=x7 hT;have hst:ck q t[i]=true->(bY (aI (ck q) (t.take i)) t[i]).1=aI (ck q) (t.take (i+1)):=fun hd=>by
   have e:=vP (p:=ck q) hlt hd;rw [e]; exact OO (by rw [<- e]; exact (hs.sublist (List.take_sublist _ _)).filter _)
  have hms:=vQ (p:=ck q) hlt;have hd:ck q t[i] = !atB t[i].path q:=rfl;have m1:(aI (ck q) (t.take i)).length<=1048576:=by have:=Af (ck q) t i; omega
  have m2:∀ f ∈ aI (ck q) (t.take i),f.text.length<=1048576:=fun f hf=>k2 f (List.mem_of_mem_take (List.mem_filter.1 hf).1);have m3:=k2 t[i] (List.getElem_mem hlt);rw [e1];generalize t[i]=f at *;simp -implicitDefEqProofs [am,D.asStr,D.asRows];refine ⟨f,q,⟨⟨rfl,rfl⟩,rfl⟩,by omega,fun hh=>⟨_,f,⟨rfl,rfl,rfl⟩,⟨⟨m1,m2⟩,m3⟩,⟨by omega,by omega⟩,fun _ _=>⟨i+1,⟨⟨?_,by omega⟩,?_⟩,⟨by omega,hT⟩,by omega⟩⟩,fun hh=>⟨⟨by omega,by omega⟩,fun _ _=>⟨i+1,⟨⟨?_,by omega⟩,?_⟩,⟨by omega,hT⟩,by omega⟩⟩⟩
  ·exact (hst (by rw [hd,hh]; rfl)).symm
  ·exact hst (by rw [hd,hh]; rfl)
  ·exact hms (by rw [hd,hh]; rfl)
  ·exact (hms (by rw [hd,hh]; rfl)).symm
 ·have hlen:=(rN t hT).1;refine ⟨⟨0,aI (ck q) t,⟨⟨by rw [List.take_of_length_le hge],Fj q t,rfl⟩,by rw [List.take_of_length_le hge]⟩,Nat.zero_le _,hT,rfl,?_,?_⟩,fun j o hj _ hm hol hob=>⟨fun hlt=>⟨hlt,fun _=>?_⟩,fun hge2=>?_⟩⟩
  ·have:=List.length_filter_le (ck q) t; unfold aI; omega
  ·intro f hf;have hf:=(List.mem_filter.1 hf).1;have:=k3 f hf;exact ⟨k2 f hf,by have:=(mW hT f hf).1.2; omega⟩
  ·have e1:Option.map am t[j]? = some (am t[j]):=by simp -implicitDefEqProofs [hlt]
   have hst:=MU (p:=q) (to:=to) (o:=o) hlt;rw [hm] at hst;have ha:=Fi (p:=q) hlt;have m3:=k2 t[j] (List.getElem_mem hlt);have m4:=(mW hT t[j] (List.getElem_mem hlt)).1.2;rw [e1];generalize t[j]=f at *;simp -implicitDefEqProofs [am,D.asStr,D.asRows];have hd:f.path.length - q.length=(f.path.drop q.length).length:=by simp
   refine ⟨f,q,⟨⟨rfl,rfl⟩,rfl⟩,by omega,fun hh=>⟨⟨by omega,by omega⟩,fun _ _=>⟨j+1,o,⟨⟨rfl,by rw [ha,hh]; simp,by omega⟩,rfl⟩,⟨by omega,hT,by rw [hst,if_neg (by simp -implicitDefEqProofs [hh])],by omega,hob⟩,by omega⟩⟩,fun hh=>?_⟩
   have hle:=Fs hh;rw [if_pos hh] at hst;have hM:maxLen=9223372036854775807:=rfl;refine ⟨hle,fun _=>⟨by omega,fun _=>⟨o,⟨to++f.path.drop q.length,f.text⟩,⟨rfl,by rw [hd,List.take_length],rfl⟩,⟨⟨by omega,fun g hg=>(hob g hg).1⟩,m3⟩,fun hp=>⟨⟨k1,k2⟩,?_⟩,fun hp=>⟨⟨by omega,by omega⟩,fun _ _=>⟨j+1,_,⟨⟨rfl,by rw [ha,hh]; simp,by omega⟩,rfl⟩,⟨by omega,hT,?_,?_,fun g hg=>?_⟩,by omega⟩⟩⟩⟩⟩
   ·rw [if_neg (by simp -implicitDefEqProofs [hp])] at hst
    have:ik t q to=(t,false):=by unfold ik; rw [if_pos hT,hst]
    rw [this]; exact ⟨⟨rfl,rfl⟩,rfl⟩
   ·rw [if_pos hp] at hst; exact hst.symm
   ·have:=OA o ⟨to++f.path.drop q.length,f.text⟩; omega
   ·rcases Do _ _ g hg with hg | rfl
    ·exact hob g hg
    ·refine ⟨m3,?_⟩
     show (to++f.path.drop q.length).length<=4194304
     simp; omega
  ·have hx:=MT (p:=q) (to:=to) (o:=o) hge2;rw [hm] at hx;have hall:kl q t j=t.any fun f=>atB f.path q:=by unfold kl; rw [List.take_of_length_le hge2]
   have hT2:ik t q to=if (t.any fun f=>atB f.path q)=false \/ dP to=false then (t,false) else if aA o then (o,true) else (t,false):=by unfold ik; rw [if_pos hT,hx]
   rw [<- hall] at hT2;refine ⟨fun h=>⟨h,by omega⟩,fun h=>?_,fun h h'=>⟨t,o,⟨rfl,rfl⟩,rfl,⟨⟨k1,k2⟩,fun f hf=>by have:=(hob f hf).2; omega⟩,?_⟩⟩
   ·rw [hT2,if_pos h]; exact ⟨⟨k1,k2⟩,⟨rfl,rfl⟩,rfl⟩
   ·rw [hT2,if_neg (by simp -implicitDefEqProofs [h,h'])]
    by_cases g:aA o=true
    ·rw [if_pos g,if_pos g]; exact ⟨⟨rfl,g.symm⟩,rfl⟩
    ·rw [if_neg g,if_neg g]; exact ⟨⟨rfl,by simpa using g⟩,rfl⟩
end Vx
end Go.Proofs.YtonkagjdfpacmaaGreatDoor
/-
  DERIVED: THE SHELF's CONTRACTS AT THIS DUMP, IN PLAIN WORDS (tools/lay-plain.mjs out of 'YtonkagjdfpacmaaGreatDoorShelf.lean', which tools/lay-shelf.mjs wrote): THE SAME DECLARATIONS UNDER THE SAME NAMES: 'import', 'namespace', 'open', 'def', 'theorem' AND NOTHING ELSE: no command of the shelf's: FOR A HAND-IN. Each laying: the table of numbers ('.._ren') and one theorem, a field a fact of the dump's own or the kernel's comparison; each contract: ONE APPLICATION.
-/
namespace Go.Proofs
open Go.Shelf
def Tryz.laysJoin_ren:Go.Shelf.Ren:=⟨fun | 156=>103 | 165=>154 | 166=>155 | 169=>156 | 240=>181 | 241=>182 | 276=>206 | 277=>207 | n=>n,fun | 31=>36 | 9=>9 | 3=>3 | 4=>4 | 0=>0 | 20=>20 | 72=>153 | 76=>126 | 70=>151 | 37=>48 | 75=>125 | 127=>174 | 164=>197 | 5=>5 | 80=>155 | n=>n,fun | n=>n⟩
theorem Tryz.laysJoin:Go.Proofs.Lays.n156 Tryz.prog Tryz.laysJoin_ren:={
  mixed:=by kernel_rfl
  f156:=Tryz.func103.trans (congrArg some (by kernel_rfl))
  f165:=Tryz.func154.trans (congrArg some (by kernel_rfl))
  f166:=Tryz.func155.trans (congrArg some (by kernel_rfl))
  f169:=Tryz.func156.trans (congrArg some (by kernel_rfl))
  f240:=Tryz.func181.trans (congrArg some (by kernel_rfl))
  f241:=Tryz.func182.trans (congrArg some (by kernel_rfl))
  f276:=Tryz.func206.trans (congrArg some (by kernel_rfl))
  f277:=Tryz.func207.trans (congrArg some (by kernel_rfl))
  t0:=Tryz.underlying0
  a0:=Tryz.isAgg0
  z0:=Tryz.sizeOf0
  v0:=Tryz.zeroValue0
  t3:=Tryz.underlying3
  a3:=Tryz.isAgg3
  z3:=Tryz.sizeOf3
  v3:=Tryz.zeroValue3
  t4:=Tryz.underlying4
  a4:=Tryz.isAgg4
  z4:=Tryz.sizeOf4
  v4:=Tryz.zeroValue4
  t9:=Tryz.underlying9
  a9:=Tryz.isAgg9
  z9:=Tryz.sizeOf9
  v9:=Tryz.zeroValue9
  t20:=Tryz.underlying20
  a20:=Tryz.isAgg20
  z20:=Tryz.sizeOf20
  v20:=Tryz.zeroValue20
  t31:=Tryz.underlying36
  a31:=Tryz.isAgg36
  z31:=Tryz.sizeOf36
  v31:=Tryz.zeroValue36
  t37:=Tryz.underlying48
  a37:=Tryz.isAgg48
  z37:=Tryz.sizeOf48
  v37:=Tryz.zeroValue48
  t70:=Tryz.underlying151
  a70:=Tryz.isAgg151
  z70:=Tryz.sizeOf151
  v70:=Tryz.zeroValue151
  t72:=Tryz.underlying153
  a72:=Tryz.isAgg153
  z72:=Tryz.sizeOf153
  v72:=Tryz.zeroValue153
  t75:=Tryz.underlying125
  a75:=Tryz.isAgg125
  z75:=Tryz.sizeOf125
  v75:=Tryz.zeroValue125
  t76:=Tryz.underlying126
  a76:=Tryz.isAgg126
  z76:=Tryz.sizeOf126
  v76:=Tryz.zeroValue126
  t127:=Tryz.underlying174
  a127:=Tryz.isAgg174
  z127:=Tryz.sizeOf174
  v127:=Tryz.zeroValue174
  t164:=Tryz.underlying197
  a164:=Tryz.isAgg197
  z164:=Tryz.sizeOf197
  v164:=Tryz.zeroValue197 }
theorem Tryz.laysJoinX:Builder.Extra Tryz.prog Tryz.laysJoin_ren:={
  sizeBuilder:=by kernel_rfl
  liesBuilder:=by kernel_rfl
  t5:=Tryz.underlying5
  a5:=Tryz.isAgg5
  z5:=Tryz.sizeOf5
  v5:=Tryz.zeroValue5
  infoByte:=by kernel_rfl
  cellsByte:=by kernel_rfl
  sizeByte:=by kernel_rfl
  neB5:=by decide }
end Go.Proofs
namespace Go.Proofs.YtonkagjdfpacmaaGreatDoor
set_option maxHeartbeats 4000000
namespace Vx
open Go.RowKit Go.Shelf
set_option maxRecDepth 8000
theorem Dt {q:Bool} {w:World}:∀ {l:List Str} {vs f},RdL q w (aa l).flatten vs f->vs=l.map (fun s=>Value.string ⟨s.toArray⟩)
 | [],vs,f,h=>by cases h; rfl
 | s :: l,vs,f,h=>by
  cases h with
  | str h1 h2=>rw [Dt (l:=l) h2]; rfl
def zk:Con:=.fn 75 (List Str) (fun l=>[.sl true 1 (aa l),.str []]) (fun l=>l.length<=1048576/\l.flatten.length<=1073741824) (fun l=>.str l.flatten) (fun _=>[])
theorem A4 (l:List Str):Lib.join l []=l.flatten:=by
 unfold Lib.join
 induction l with
 | nil=>rfl
 | cons x l ih =>
  cases l with
  | nil=>simp [List.intercalate]
  | cons y l=>simp [List.intercalate] at ih ⊢; exact ih
set_option maxHeartbeats 1000000 in
theorem JF {w:World} {l:List Str} {v0:Value} {e:Nat} {fp:List (Nat × Nat)} (h5:RdL false w [D.sl e 1 (aa l)] [v0] fp) (hp:l.length<=1048576/\l.flatten.length<=1073741824) :
  Calls Tryz.prog 103 #[v0,.string ⟨#[]⟩] w fun e w'=>e = .returned (.string ⟨l.flatten.toArray⟩)/\Below w.heap.size w w':=by
 rcases h5.open1 with ⟨h1,_,oa,cap,rfl,_⟩ | ⟨b,off,cap,cs,ty,fr,cvs,f1,rfl,g2,g3,g4,_,g6,g8,g9,_⟩
 ·have hl:l=[]:=by simpa using h1
  subst hl;refine (Any.strings_Join_none Tryz.laysJoin Tryz.laysJoinX oa cap ⟨#[]⟩ w).mono ?_;rintro e w' ⟨rfl,rfl⟩;exact ⟨rfl,Below.refl _ _⟩
 ·have hv:=Dt g9;rw [eStrs_length] at g2 g3 ⊢;have hm:(l.map fun s:Str=>(⟨s.toArray⟩:ByteArray)).map (·.data.toList)=l:=by simp [List.map_map,Function.comp_def]
  have hl:(l.map fun s:Str=>(⟨s.toArray⟩:ByteArray)).length=l.length:=List.length_map _;have hj:=Any.strings_Join Tryz.laysJoin Tryz.laysJoinX b off cap (l.map fun s:Str=>(⟨s.toArray⟩:ByteArray)) ⟨#[]⟩ w (fun j x hx=>by
   have hx2:=g8 j (.string x) (by rw [hv]; simp at hx ⊢; obtain ⟨s,q1,rfl⟩:=hx; exact ⟨s,q1,rfl⟩)
   simp only [World.cell?,g6]
   simpa using hx2) (Array.getElem?_eq_some_iff.1 g6).1 (by rw [hl]; omega) (by rw [hl]; omega) (by rw [hm]; exact Nat.le_trans (Nat.le_of_eq (congrArg List.length (A4 l))) (by omega))
  rw [hm] at hj;rw [hl] at hj;have e1:Lib.join l []=l.flatten:=A4 l;refine hj.mono ?_;rintro e w' ⟨rfl,hw⟩;exact ⟨by rw [<- e1],hw⟩
theorem JG:Has Tryz.prog 103 zk:=by
 refine ⟨fun args w=>Go.MuLone.run_callFunc_enter Tryz.func103 (by kernel_rfl) rfl args w,fun _=>⟨(),trivial⟩,fun _ _=>rfl,?_,trivial,.inl rfl⟩
 intro (l:List Str) (hp:l.length<=1048576/\l.flatten.length<=1073741824) c hky vs β fp hcn hpins hl1 hl2 S;have hr:=j6 hl1 S;obtain ⟨v0,vs1,rfl,r0,hr⟩:=hr.uncons;obtain ⟨v1,vs2,rfl,r1,hr⟩:=hr.uncons;cases hr;cases r1 with | str h1 h2=>?_
 cases h2;cases r0 with | sl h3 h4=>?_
 cases h4;obtain ⟨e,fp0,h5,h6⟩:=h3;refine (JF h5 hp).mono ?_;rintro e w' ⟨rfl,hb⟩;have hpp:c.pins=[]:=hpins;refine ⟨(),trivial,_,rfl,β,fp,⟨Array.replicate c.n undef,[]⟩,⟨?_,?_,?_,?_,?_,S.fg,fun b hb'=>⟨(S.old b hb').1,(hb.block b (S.old b hb').1)⟩,hb.os,hb.tape,hb.output,hb.size,rfl,by simp,?_⟩,?_⟩
 ·intro t g av ht; cases ht
 ·intro h blk hm; cases hm
 ·intro h blk hm; cases hm
 ·intro h h' blk blk' hm; cases hm
 ·intro h blk hm; cases hm
 ·rw [hpp]; intro p hp; cases hp
 ·exact .str (by show l.flatten.length<=maxLen; have:maxLen=9223372036854775807:=rfl; have:=hp.2; omega) .lnil
theorem Jc (s:Str) (c:UInt8):(aw s c < 0)=(∀ b ∈ s,¬ b=c):=by
 induction s with
 | nil=>simp [aw]
 | cons b l ih =>
  unfold aw;by_cases hb:b=c
  ·simp [hb]
  ·rw [if_neg hb];by_cases h:aw l c < 0
   ·rw [if_pos h]; rw [ih] at h; simp [hb]; exact h
   ·rw [if_neg h]; rw [ih] at h
    have:¬ (aw l c+1 < 0):=by rw [<- ih] at h; omega
    simp only [this,false_iff,eq_iff_iff];intro q; exact h fun x hx=>q x (by simp [hx])
def sJ:Con:=.fn 9 (Str × UInt8) (fun a=>[.str a.1,.str [a.2]]) (fun _=>True) (fun a=>.bool (decide (0<=aw a.1 a.2))) (fun _=>[])
theorem GP:Has Tryz.prog 102 sJ:=by
 refine ag mixed ak (HasL.cons xT HasL.nil) [0,1,4] ((fun a n (_:Nat)=>(fun _=>an) a n)) [] Tryz.func102 (by unfold Tryz.f102; rfl) (fun _=>⟨(),trivial⟩) ?_
 intro a _;obtain ⟨s,b⟩:=a;simp -implicitDefEqProofs [sJ,pY,Con.fn,ae];exact ⟨s,b,⟨rfl,rfl⟩,Iff.rfl⟩
theorem FJ (t:List Str):(aw t.flatten 124 < 0)=(t.all eo=true):=by
 rw [Jc];simp only [List.mem_flatten,forall_exists_index,and_imp,List.all_eq_true,eo,decide_eq_true_eq,ne_eq,eq_iff_iff];exact ⟨fun h s hs b hb=>h b s hs hb,fun h b s hs hb=>h s hs b hb⟩
end Vx
end Go.Proofs.YtonkagjdfpacmaaGreatDoor
namespace Go.Proofs.YtonkagjdfpacmaaGreatDoor
set_option maxHeartbeats 4000000
namespace Vx
open Go.RowKit
set_option maxRecDepth 8000
--TAB aC
def eA (o:OpD):Prop:=o.path.length<=1048576/\o.to_.length<=1048576/\o.text.length<=1048576
def tD:Con:=.fn 29 (RepoD × OpD × (List FileD × Bool)) (fun a=>[bF a.1,vOp a.2.1,.sl true 2 (ac a.2.2.1),.bool a.2.2.2]) (fun a=>dC a.1/\a.2.2.1.length<=1048576 /\ ∀ f ∈ a.2.2.1,f.text.length<=1048576) (fun a=>.tup [.agg [.sl false 3 (ap (de a.1 a.2.1 a.2.2).1.commits),.sl false 2 (ah (de a.1 a.2.1 a.2.2).1.heads)],.int .i64 (de a.1 a.2.1 a.2.2).2]) (fun _=>[])
theorem KL:Has Tryz.prog 86 tD:=by
 refine ag mixed bn (HasL.cons Pe HasL.nil) [0,1,2,3,4,5,8,9,10,11] ((fun a n (_:Nat)=>(fun _=>an) a n)) [] Tryz.func86 (by unfold Tryz.f86; rfl) (fun _=>⟨(),trivial⟩) ?_
 intro a ha;obtain ⟨r,o,t,k⟩:=a;obtain ⟨h1,h2,h3⟩:dC r/\t.length<=1048576 /\ ∀ f ∈ t,f.text.length<=1048576:=ha;simp (maxSteps:=8000000) -implicitDefEqProofs [-kStep_move,-Bool.exists_bool,tD,uE,Con.fn,aC,ae,bR,bOp]
 try dsimp only
 simp -implicitDefEqProofs only [and_assoc,exists_eq_left,exists_and_left,RepoD.ex1,RepoD.eta,OpD.ex1,OpD.eta];refine ⟨fun h=>?_,fun h=>⟨h1,h2,h3,fun h'=>?_,fun h'=>?_⟩⟩
 ·unfold de; rw [if_neg (by simp -implicitDefEqProofs [h])]; exact ⟨rfl,rfl,rfl⟩
 ·unfold de; rw [if_pos h,if_neg (by simp -implicitDefEqProofs [h'])]; exact ⟨rfl,rfl,rfl⟩
 ·unfold de; rw [if_pos h,if_pos h']; exact ⟨rfl,rfl,rfl⟩
theorem El {t:List FileD} (h:bi t=true) (f:FileD):bi (il t f).1=true:=by
 unfold il;rw [if_pos h];split
 ·assumption
 ·exact h
theorem Ei {t:List FileD} (h:bi t=true) (p to:Str):bi (ei t p to).1=true:=by
 unfold ei;rw [if_pos h];split
 ·exact h
 ·split
  ·exact h
  ·rename_i q;cases q2:bi (cM p to (aI (bK p) t) t) with
   | true=>rfl
   | false=>exact absurd (.inl q2) q
theorem x0 {t:List FileD} (h:bi t=true) (p:Str):szT (fS t p).1:=by
 unfold fS aI;rw [if_pos h];obtain ⟨h1,h2⟩:=gK h;exact ⟨Nat.le_trans (List.length_filter_le _ _) h1,fun f hf=>h2 f (List.mem_filter.1 hf).1⟩
theorem x6 {t:List FileD} (h:bi t=true):∀ f ∈ t,f.path.length<=20:=fun f hf=>(mW (by rw [eE]; exact h) f hf).1.2
theorem gI {t:List FileD} (h:szT t):t.length<=1048576 /\ ∀ f ∈ t,f.text.length<=1048576:=⟨by have:=h.1; omega,fun f hf=>by have:=h.2 f hf; omega⟩
theorem Ek {r:RepoD} (h:az r=true) (n:Str):bi (dK r n)=true:=by
 unfold dK;split
 ·exact j3 h _
 ·rfl
def nj:Con:=.fn 134 (RepoD × OpD) (fun a=>[bF a.1,vOp a.2]) (fun a=>az a.1=true/\eA a.2) (fun a=>.tup [.agg [.sl false 3 (ap (aM a.1 a.2).1.commits),.sl false 2 (ah (aM a.1 a.2).1.heads)],.int .i64 (aM a.1 a.2).2]) (fun _=>[])
theorem wy:Has Tryz.prog 35 nj:=by
 refine ag mixed bn (HasL.cons jQ (HasL.cons Q0 (HasL.cons QU (HasL.cons QX (HasL.cons KL (HasL.cons O8 (HasL.cons Q9 (HasL.cons N8 (HasL.cons N6 HasL.nil))))))))) [0,1,2,3,4,5,6,7,8,9,10,11,12,13,14,15,30] ((fun a n (_:Nat)=>(fun _=>an) a n)) [] Tryz.func35 (by unfold Tryz.f35; rfl) (fun _=>⟨(),trivial⟩) ?_
 intro a ha;obtain ⟨r,o⟩:=a;obtain ⟨h1,h2,h3,h4⟩:az r=true/\eA o:=ha;simp (maxSteps:=8000000) -implicitDefEqProofs [-kStep_move,-Bool.exists_bool,nj,iv,uX,uT,uV,tD,uC,uY,uA,uz,Con.fn,aC,ae,bR,bOp]
 try dsimp only
 simp -implicitDefEqProofs only [and_assoc,exists_eq_left,exists_and_left,RepoD.ex1,RepoD.eta,OpD.ex1,OpD.eta];have hsz:=xE h1;have hat:=m9 (n:=o.branch) ((cQ r).1 h1).2.1;have hT:=Ek h1 o.branch;have e1:o.kind=1->aM r o=de r o (il (dK r o.branch) ⟨o.path,o.text⟩):=fun h=>by unfold aM; rw [if_pos h]
 have e2:o.kind=2->aM r o=de r o (fS (dK r o.branch) o.path):=fun h=>by unfold aM; rw [if_neg (by omega),if_pos h]
 have e3:o.kind=3->aM r o=de r o (ei (dK r o.branch) o.path o.to_):=fun h=>by unfold aM; rw [if_neg (by omega),if_neg (by omega),if_pos h]
 have e4:o.kind=4->(cS r o.to_ (atL r.heads o.branch)).2=true->aM r o=((cS r o.to_ (atL r.heads o.branch)).1,0):=fun h h'=>by unfold aM; rw [if_neg (by omega),if_neg (by omega),if_neg (by omega),if_pos h,if_pos h']
 have e4':o.kind=4->(cS r o.to_ (atL r.heads o.branch)).2=false->aM r o=(r,1):=fun h h'=>by unfold aM; rw [if_neg (by omega),if_neg (by omega),if_neg (by omega),if_pos h,if_neg (by simp -implicitDefEqProofs [h'])]
 have e5:o.kind=5->aM r o=cD r o.branch o.who (atL r.heads o.to_):=fun h=>by unfold aM; rw [if_neg (by omega),if_neg (by omega),if_neg (by omega),if_neg (by omega),if_pos h]
 have e6:o.kind=6->aM r o=b9 false r o.branch o.who o.at_:=fun h=>by unfold aM; rw [if_neg (by omega),if_neg (by omega),if_neg (by omega),if_neg (by omega),if_neg (by omega),if_pos h]
 have e7:¬ o.kind=1 -> ¬ o.kind=2 -> ¬ o.kind=3 -> ¬ o.kind=4 -> ¬ o.kind=5 -> ¬ o.kind=6->aM r o=b9 true r o.branch o.who o.at_:=fun k1 k2 k3 k4 k5 k6=>by unfold aM; rw [if_neg k1,if_neg k2,if_neg k3,if_neg k4,if_neg k5,if_neg k6]
 have s1:=gI (gK (El hT ⟨o.path,o.text⟩));have s2:=gI (x0 hT o.path);have s3:=gI (gK (Ei hT o.path o.to_));have s0:=gK hT;have sp:=x6 hT;have sp:∀ f ∈ dK r o.branch,f.path.length<=1048576:=fun f hf=>by have:=sp f hf; omega
 have sl:(dK r o.branch).length<=1048575:=by have:=s0.1; omega
 have st:=(gI s0).2;refine ⟨fun hp=>⟨hp,by omega,fun _ _=>?_⟩,fun hn=>?_⟩
 ·have ca:=jb (r:=r) hp (by omega)
  have eT:aJ r (atL r.heads o.branch)=dK r o.branch:=by unfold dK; rw [if_pos hp]
  rw [ca,eT];simp -implicitDefEqProofs [D.asRows];exact ⟨fun h=>⟨sl,st,h4,hsz,s1.1,s1.2,by rw [e1 h]; exact ⟨rfl,rfl,rfl⟩⟩,fun k1=>⟨fun h=>⟨(gI s0).1,st,hsz,s2.1,s2.2,by rw [e2 h]; exact ⟨rfl,rfl,rfl⟩⟩,fun k2=>⟨fun h=>⟨(gI s0).1,st,h3,sp,hsz,s3.1,s3.2,by rw [e3 h]; exact ⟨rfl,rfl,rfl⟩⟩,fun k3=>⟨fun h=>⟨hsz,fun h'=>by rw [e4' h h']; exact ⟨rfl,rfl,rfl⟩,fun h'=>by rw [e4 h h']; exact ⟨rfl,rfl,rfl⟩⟩,fun k4=>⟨fun h=>⟨hsz,by rw [e5 h]; exact ⟨rfl,rfl,rfl⟩⟩,fun k5=>⟨fun h=>⟨hsz,by rw [e6 h]; exact ⟨rfl,rfl,rfl⟩⟩,fun k6=>⟨hsz,by rw [e7 k1 k2 k3 k4 k5 k6]; exact ⟨rfl,rfl,rfl⟩⟩⟩⟩⟩⟩⟩⟩
 ·have eT:dK r o.branch=[]:=by unfold dK; rw [if_neg (by omega)]
  simp -implicitDefEqProofs only [FileD.ex1];rw [<- eT];exact ⟨fun h=>⟨sl,st,h4,hsz,s1.1,s1.2,by rw [e1 h]; exact ⟨rfl,rfl,rfl⟩⟩,fun k1=>⟨fun h=>⟨(gI s0).1,st,hsz,s2.1,s2.2,by rw [e2 h]; exact ⟨rfl,rfl,rfl⟩⟩,fun k2=>⟨fun h=>⟨(gI s0).1,st,h3,sp,hsz,s3.1,s3.2,by rw [e3 h]; exact ⟨rfl,rfl,rfl⟩⟩,fun k3=>⟨fun h=>⟨hsz,fun h'=>by rw [e4' h h']; exact ⟨rfl,rfl,rfl⟩,fun h'=>by rw [e4 h h']; exact ⟨rfl,rfl,rfl⟩⟩,fun k4=>⟨fun h=>⟨hsz,by rw [e5 h]; exact ⟨rfl,rfl,rfl⟩⟩,fun k5=>⟨fun h=>⟨hsz,by rw [e6 h]; exact ⟨rfl,rfl,rfl⟩⟩,fun k6=>⟨hsz,by rw [e7 k1 k2 k3 k4 k5 k6]; exact ⟨rfl,rfl,rfl⟩⟩⟩⟩⟩⟩⟩⟩
--TAB aC
theorem zv {r:RepoD} (h:aF r=true) {n:Str} {c:CommitD} (hc:∀ f ∈ c.tree,f.path.length<=536870912):fM (cmL r n c):=by
 have h1:=fK h;refine ⟨by simp -implicitDefEqProofs [cmL]; omega,fun x hx f hf=>?_⟩
 have hx:x ∈ r.commits++[c]:=hx;rcases List.mem_append.1 hx with hx | hx
 ·exact (eO h).2.2 x hx f hf
 ·rw [List.mem_singleton.1 hx] at hf;exact hc f hf
abbrev oRb (x:RepoD × Bool):AV:=.tup [.agg [.own 8 3 (ap x.1.commits),.own 9 2 (ah x.1.heads)],.bool x.2]
abbrev CB (x:RepoD × Bool):List (Nat × Blk):=iO 8 x.1.commits++gB 9 x.1.heads
def cRepoCommitI:Con:=.fn 36 (RepoD × Str × Str × List FileD) (fun a=>[bF a.1,.str a.2.1,.str a.2.2.1,.sl true 2 (ac a.2.2.2)]) (fun a=>fM a.1/\fC a.2.2.2) (fun a=>oRb (dl a.1 a.2.1 a.2.2.1 a.2.2.2)) (fun a=>CB (dl a.1 a.2.1 a.2.2.1 a.2.2.2))
theorem IF {P:Program} {f:Nat} {k:Con} {c:k.A->Prop} (h1:Has P f { k with pre:=fun a=>k.pre a/\c a }) (h2:Has P f { k with pre:=fun a=>k.pre a /\ ¬ c a }):Has P f k :=
 ⟨h1.enter,h1.tot,h1.nob,fun a ha=>by
  by_cases q:c a
  ·exact h1.calls a ⟨ha,q⟩
  ·exact h2.calls a ⟨ha,q⟩,h1.bldr,h1.bt⟩
def sI:Con:={ A:=RepoD × Str × Str × List FileD,X:=Unit,n:=28,args:=fun a=>[.agg [.own 0 3 (ap a.1.commits),.own 1 2 (ah a.1.heads)],.str a.2.1,.str a.2.2.1,.sl true 2 (ac a.2.2.2),.nil],boxes:=fun _=>[],pre:=fun a=>a.1.heads.length<=1048576/\a.1.commits.length<=1048576/\a.2.2.2.length<=1048576 /\ ∀ f ∈ a.2.2.2,f.text.length<=1048576,post:=fun _ _=>True,res:=fun a _=>.agg [.own 8 3 (ap (cmL a.1 a.2.1 ⟨[],a.2.2.1,a.2.2.2⟩).commits),.own 9 2 (ah (cmL a.1 a.2.1 ⟨[],a.2.2.1,a.2.2.2⟩).heads)],fin:=fun a _=>iO 8 (cmL a.1 a.2.1 ⟨[],a.2.2.1,a.2.2.2⟩).commits++gB 9 (cmL a.1 a.2.1 ⟨[],a.2.2.1,a.2.2.2⟩).heads,owns:=fun a=>gF a.1,mv:=true }
theorem GK:Has Tryz.prog 133 sI:=by
 refine ag mixed bn (HasL.cons jJ (HasL.cons rl HasL.nil)) [0,1,2,3,4,5,10] ((fun a n (_:Nat)=>(fun _=>an) a n)) [18] Tryz.func133 (by unfold Tryz.f133; rfl) (fun _=>⟨(),trivial⟩) ?_
 intro a ha;obtain ⟨r,n,w,t⟩:=a;obtain ⟨h1,h2,h3,h4⟩:r.heads.length<=1048576/\r.commits.length<=1048576/\t.length<=1048576 /\ ∀ f ∈ t,f.text.length<=1048576:=ha;simp (maxSteps:=8000000) -implicitDefEqProofs [sI,gF,lL,iu,Con.fn,aC,ae,bR]
 try dsimp only
 have sn:ap r.commits++[[D.sl 3 1 [],D.str w,D.sl 99 2 (ac t)]]=ap (r.commits++[⟨[],w,t⟩]):=je _ [] _ _;rw [sn];exact ⟨⟨h3,h4⟩,⟨by omega,by omega⟩,fun _=>⟨by omega,fun _=>⟨⟨r.commits++[⟨[],w,t⟩],r.heads⟩,n,_,⟨⟨rfl,rfl⟩,rfl,rfl⟩,⟨rfl,rfl⟩,h1,⟨rfl,rfl⟩,rfl,rfl⟩⟩⟩
def zm:Con:={ cRepoCommitI with pre:=fun a=>cRepoCommitI.pre a/\0<=atL a.1.heads a.2.1 }
theorem O9:Has Tryz.prog 126 zm:=by
 refine ag mixed bn (HasL.cons mP (HasL.cons km (HasL.cons jo (HasL.cons vj (HasL.cons oP HasL.nil))))) [0,1,2,3,4,8,9,10,11] ((fun a n (_:Nat)=>(fun _=>an) a n)) [16409,16416,16417] Tryz.func126 (by unfold Tryz.f126; rfl) (fun _=>⟨(),trivial⟩) ?_
 intro a ha;obtain ⟨r,n,w,t⟩:=a;obtain ⟨⟨h1,h2⟩,h0⟩:(fM r/\fC t)/\0<=atL r.heads n:=ha;simp (maxSteps:=8000000) [-kStep_move,-kStepC_move,-Bool.exists_bool,zm,cRepoCommitI,jH,iY,gQ,nf,nC,ku,gF,Con.fn,aC,ae,bR]
 try dsimp only
 try simp only [and_assoc,exists_eq_left,exists_and_left,RepoD.ex1,RepoD.eta]
 refine ⟨h1,fun h=>?_,fun h=>⟨fun _=>?_,h0⟩⟩
 ·rw [oJ,if_neg (by simp -implicitDefEqProofs [h])]; exact ⟨rfl,rfl,rfl,rfl,rfl⟩
 ·obtain ⟨hz,hp⟩:=eO h;obtain ⟨k1,k2,k3⟩:=h2;have hc:aA t=true \/ True:=.inr trivial;refine ⟨hz,[atL r.heads n],rfl,trivial,trivial,rfl,hz.2.2,hz.1,k1,k2,trivial,trivial,hz,zv h k3,?_⟩;have e:dl r n w t=if aF (cmL r n ⟨[atL r.heads n],w,t⟩) then (cmL r n ⟨[atL r.heads n],w,t⟩,true) else (r,false):=by rw [oJ,if_pos h]; unfold nD; rw [if_pos h0]
  rw [e];by_cases q:aF (cmL r n ⟨[atL r.heads n],w,t⟩)=true
  ·rw [if_pos q,if_pos q,q]; exact ⟨rfl,rfl,rfl,rfl,rfl⟩
  ·rw [if_neg q,if_neg q]; exact ⟨rfl,rfl,by simpa using q,rfl,rfl⟩
def zn:Con:={ cRepoCommitI with pre:=fun a=>cRepoCommitI.pre a /\ ¬ 0<=atL a.1.heads a.2.1 }
theorem Pb:Has Tryz.prog 126 zn:=by
 refine ag mixed bn (HasL.cons mP (HasL.cons km (HasL.cons jo (HasL.cons GK (HasL.cons oP HasL.nil))))) [0,1,2,3,4,8,9,10,11] ((fun a n (_:Nat)=>(fun _=>an) a n)) [16409,16416,16417] Tryz.func126 (by unfold Tryz.f126; rfl) (fun _=>⟨(),trivial⟩) ?_
 intro a ha;obtain ⟨r,n,w,t⟩:=a;obtain ⟨⟨h1,h2⟩,h0⟩:(fM r/\fC t) /\ ¬ 0<=atL r.heads n:=ha;simp (maxSteps:=8000000) [-kStep_move,-kStepC_move,-Bool.exists_bool,zn,cRepoCommitI,jH,iY,gQ,sI,ku,gF,Con.fn,aC,ae,bR]
 try dsimp only
 try simp only [and_assoc,exists_eq_left,exists_and_left,RepoD.ex1,RepoD.eta]
 refine ⟨h1,fun h=>?_,fun h=>⟨by omega,fun _=>?_⟩⟩
 ·rw [oJ,if_neg (by simp -implicitDefEqProofs [h])]; exact ⟨rfl,rfl,rfl,rfl,rfl⟩
 ·obtain ⟨hz,hp⟩:=eO h;obtain ⟨k1,k2,k3⟩:=h2;refine ⟨hz,trivial,trivial,hz.2.2,hz.1,k1,k2,trivial,trivial,hz,zv h k3,?_⟩;have e:dl r n w t=if aF (cmL r n ⟨[],w,t⟩) then (cmL r n ⟨[],w,t⟩,true) else (r,false):=by rw [oJ,if_pos h]; unfold nD; rw [if_neg h0]
  rw [e];by_cases q:aF (cmL r n ⟨[],w,t⟩)=true
  ·rw [if_pos q,if_pos q,q]; exact ⟨rfl,rfl,rfl,rfl,rfl⟩
  ·rw [if_neg q,if_neg q]; exact ⟨rfl,rfl,by simpa using q,rfl,rfl⟩
theorem Pc:Has Tryz.prog 126 cRepoCommitI:=IF (c:=fun a=>0<=atL a.1.heads a.2.1) O9 Pb
def uD:Con:=.fn 27 (RepoD × Str × Int) (fun a=>[bF a.1,.str a.2.1,.int .i64 a.2.2]) (fun a=>fM a.1) (fun a=>oRb (cS a.1 a.2.1 a.2.2)) (fun a=>CB (cS a.1 a.2.1 a.2.2))
theorem O6:Has Tryz.prog 76 uD:=by
 refine ag mixed bn (HasL.cons mP (HasL.cons km (HasL.cons jo (HasL.cons rl (HasL.cons oP HasL.nil))))) [0,1,2,3,6,7] ((fun a n (_:Nat)=>(fun _=>an) a n)) [16402,16407,16408] Tryz.func76 (by unfold Tryz.f76; rfl) (fun _=>⟨(),trivial⟩) ?_
 intro a ha;obtain ⟨r,n,b⟩:=a;replace ha:fM r:=ha;simp (maxSteps:=8000000) [-kStep_move,-kStepC_move,-Bool.exists_bool,uD,jH,iY,gQ,lL,ku,gF,Con.fn,aC,ae,bR]
 try dsimp only
 try simp only [and_assoc,exists_eq_left,exists_and_left,RepoD.ex1,RepoD.eta]
 refine ⟨ha,fun h=>?_,fun h=>⟨fun h0=>?_,fun h0=>?_⟩⟩
 ·rw [rq,if_neg (by simp -implicitDefEqProofs [h])]; exact ⟨rfl,rfl,rfl,rfl,rfl⟩
 ·rw [rq,if_pos h,if_pos h0]; exact ⟨(eO h).1,rfl,rfl,rfl,rfl,rfl⟩
 ·obtain ⟨hz,hp⟩:=eO h;refine ⟨hz,trivial,trivial,hz.2.2,trivial,trivial,hz,hp,?_⟩;rw [rq,if_pos h,if_neg (by omega)]
  by_cases q:aF ⟨r.commits,ptL r.heads n b⟩=true
  ·rw [if_pos q,if_pos q,q]; exact ⟨rfl,rfl,rfl,rfl,rfl⟩
  ·rw [if_neg q,if_neg q]; exact ⟨rfl,rfl,by simpa using q,rfl,rfl⟩
def uG:Con:=.fn 29 (RepoD × OpD × List FileD × Bool) (fun a=>[bF a.1,vOp a.2.1,.sl true 2 (ac a.2.2.1),.bool a.2.2.2]) (fun a=>aF a.1=true/\fC a.2.2.1) (fun a=>oR (de a.1 a.2.1 a.2.2)) (fun a=>oRf (de a.1 a.2.1 a.2.2))
theorem PI:Has Tryz.prog 73 uG:=by
 refine ag mixed bn (HasL.cons jo (HasL.cons Pc HasL.nil)) [0,1,2,3,4,5,8,9,10] ((fun a n (_:Nat)=>(fun _=>an) a n)) [] Tryz.func73 (by unfold Tryz.f73; rfl) (fun _=>⟨(),trivial⟩) ?_
 intro a ha;obtain ⟨r,o,t,k⟩:=a;obtain ⟨h1,h2⟩:aF r=true/\fC t:=ha;simp (maxSteps:=8000000) [-kStep_move,-kStepC_move,-Bool.exists_bool,uG,gQ,cRepoCommitI,Con.fn,aC,ae,bR,bOp]
 try dsimp only
 try simp only [and_assoc,exists_eq_left,exists_and_left,RepoD.ex1,RepoD.eta]
 obtain ⟨hz,hp⟩:=eO h1;refine ⟨fun h=>?_,fun h=>⟨hp,h2,fun h'=>?_,fun h'=>?_⟩⟩
 ·unfold de; rw [if_neg (by simp -implicitDefEqProofs [h])]; exact ⟨hz,rfl,rfl,rfl,rfl,rfl⟩
 ·have e:(dl r o.branch o.who t).1=r:=by
   rw [oJ,if_pos h1] at h' ⊢;split at h'
   ·cases h'
   ·rename_i q; rw [if_neg q]
  unfold de; rw [if_pos h,if_neg (by simp -implicitDefEqProofs [h']),e]; exact ⟨rfl,rfl,rfl,rfl,rfl⟩
 ·unfold de; rw [if_pos h,if_pos h']; exact ⟨rfl,rfl,rfl,rfl,rfl⟩
theorem QN {t:List Str} (h:bD t=true):(t.map List.length).sum<=1073741824:=by
 unfold bD at h;simp only [Bool.and_eq_true,decide_eq_true_eq,List.all_eq_true] at h;have g:∀ l:List Str,(∀ x ∈ l,gq x=true)->(l.map List.length).sum<=1000 * l.length:=by
  intro l
  induction l with
  | nil=>intro _; simp
  | cons x l ih =>
   intro q;have h1:=q x (by simp)
   have h2:=ih fun y hy=>q y (by simp -implicitDefEqProofs [hy])
   unfold gq at h1;simp only [Bool.and_eq_true,decide_eq_true_eq] at h1;simp only [List.map_cons,List.sum_cons,List.length_cons];omega
 have:=g t h.2;omega
def nv:Con:=.fn 115 OpD (fun o=>[vOp o]) eA (fun o=>.bool (opB o)) (fun _=>[])
theorem xg:Has Tryz.prog 49 nv:=by
 refine ag mixed bn (HasL.cons mB (HasL.cons rj (HasL.cons rL (HasL.cons JG (HasL.cons GP (HasL.cons rQ HasL.nil)))))) [0,1,2,3,4,5,6,31,85,100] ((fun a n (_:Nat)=>(fun _=>an) a n)) [] Tryz.func49 (by unfold Tryz.f49; rfl) (fun _=>⟨(),trivial⟩) ?_
 intro (o:OpD) (ho:eA o);simp (maxSteps:=8000000) [-kStep_move,-kStepC_move,-Bool.exists_bool,nv,jG,lK,lM,zk,sJ,lN,Con.fn,aC,ae,bOp]
 try dsimp only
 obtain ⟨p1,p2,p3⟩:=ho;have hsum:bD o.text=true->(List.map List.length o.text).sum<=1073741824:=QN;have e0:bc o.branch=false \/ bc o.who=false->opB o=false:=fun h=>by unfold opB; rcases h with h | h <;> rw [h] <;> simp
 refine ⟨e0,fun n1 n2=>?_⟩;have e1:o.kind=1->opB o=(dP o.path && bD o.text && decide (aw o.text.flatten 124 < 0) && decide (o.to_=[]) && decide (o.at_=0)):=fun h=>by unfold opB fE eV; rw [n1,n2,if_pos h,Bool.eq_iff_iff,gD]; simp only [FJ]; simp; grind
 have e2:o.kind=2->opB o=(dP o.path && decide (o.to_=[]) && decide (o.at_=0) && decide (o.text=[])):=fun h=>by unfold opB fE; rw [n1,n2,if_neg (by omega),if_pos h,Bool.eq_iff_iff,gD]; simp; grind
 have e3:o.kind=3->opB o=(dP o.path && dP o.to_ && decide (o.at_=0) && decide (o.text=[])):=fun h=>by unfold opB fE; rw [n1,n2,if_neg (by omega),if_neg (by omega),if_pos h,Bool.eq_iff_iff,gD,gD]; simp; grind
 have e4:o.kind=4 \/ o.kind=5->opB o=(bc o.to_ && decide (o.path=[]) && decide (o.at_=0) && decide (o.text=[])):=fun h=>by unfold opB fE; rw [n1,n2,if_neg (by omega),if_neg (by omega),if_neg (by omega),if_pos h,Bool.eq_iff_iff]; simp; grind
 have e6:o.kind=6 \/ o.kind=7->opB o=(decide (0<=o.at_) && decide (o.at_<=15) && decide (o.path=[]) && decide (o.to_=[]) && decide (o.text=[])):=fun h=>by unfold opB fE; rw [n1,n2,if_neg (by omega),if_neg (by omega),if_neg (by omega),if_neg (by omega),if_pos h,Bool.eq_iff_iff]; simp; grind
 have e8:¬ o.kind=1 -> ¬ o.kind=2 -> ¬ o.kind=3 -> ¬ o.kind=4 -> ¬ o.kind=5 -> ¬ o.kind=6 -> ¬ o.kind=7->opB o=false:=fun a b c d e f g=>by unfold opB; rw [if_neg a,if_neg b,if_neg c,if_neg (by omega),if_neg (by omega)]; simp
 repeat' (first
  | intro _
  | refine ⟨_,_,_,⟨rfl,rfl,rfl⟩,?_⟩
  | refine ⟨_,_,⟨rfl,rfl⟩,?_⟩
  | apply And.intro)
 all_goals first
  | omega
  | contradiction
  | assumption
  | exact hsum (by assumption)
  | exact e1 (by assumption)
  | exact e2 (by assumption)
  | exact e3 (by assumption)
  | exact e4 (by omega)
  | exact e6 (by omega)
  | exact e8 (by omega) (by omega) (by omega) (by omega) (by omega) (by omega) (by omega)
  | grind
theorem xf {t:List FileD} (h:bi t=true):fC t :=
 ⟨(gI (gK h)).1,(gI (gK h)).2,fun f hf=>by have:=x6 h f hf; omega⟩
theorem Nv {t:List FileD} (h:bi t=true) (p:Str):fC (fS t p).1 :=
 ⟨(gI (x0 h p)).1,(gI (x0 h p)).2,fun f hf=>by
  unfold fS aI at hf;rw [if_pos h] at hf;have:=x6 h f (List.mem_filter.1 hf).1;omega⟩
theorem NA {o:OpD} (a:¬ o.kind=1) (b:¬ o.kind=2) (c:¬ o.kind=3) (d:¬ o.kind=4) (e:¬ o.kind=5) (f:¬ o.kind=6) (g:¬ o.kind=7):opB o=false:=by unfold opB; rw [if_neg a,if_neg b,if_neg c,if_neg (by omega),if_neg (by omega)]; simp
def nw:Con:=.fn 130 (RepoD × OpD) (fun a=>[bF a.1,vOp a.2]) (fun a=>fM a.1/\eA a.2) (fun a=>oR (dB a.1 a.2)) (fun a=>oRf (dB a.1 a.2))
theorem xD:Has Tryz.prog 32 nw:=by
 refine ag mixed bn (HasL.cons mP (HasL.cons xg (HasL.cons jo (HasL.cons km (HasL.cons Ej (HasL.cons QZ (HasL.cons QT (HasL.cons QW (HasL.cons PI (HasL.cons O6 (HasL.cons Ra (HasL.cons N9 HasL.nil)))))))))))) [0,1,2,3,4,5,6,7,8,9,10,11,12,13,14,15,35] ((fun a n (_:Nat)=>(fun _=>an) a n)) [] Tryz.func32 (by unfold Tryz.f32; rfl) (fun _=>⟨(),trivial⟩) ?_
 intro a ha;obtain ⟨r,o⟩:=a;obtain ⟨h1,h2⟩:fM r/\eA o:=ha;simp (maxSteps:=8000000) -implicitDefEqProofs [-kStep_move,-kStepC_move,-Bool.exists_bool,nw,jH,nv,gQ,iY,ny,uW,uS,uU,uG,uD,uZ,uB,Con.fn,aC,ae,bR,bOp]
 try dsimp only
 simp -implicitDefEqProofs only [and_assoc,exists_eq_left,exists_and_left,RepoD.ex1,RepoD.eta,OpD.ex1,OpD.eta];refine ⟨h1,fun h=>?_,fun h=>⟨h2,fun hb=>?_,fun hb=>?_⟩⟩
 ·have e:dB r o=(noR,1):=by unfold dB; rw [if_neg (by rw [<- cu,h]; simp)]
  rw [e]; exact ⟨rfl,rfl,rfl,rfl,rfl⟩
 ·have e:dB r o=(r,1):=by unfold dB; rw [if_pos (by rw [<- cu]; exact h),if_neg (by simp -implicitDefEqProofs [hb])]
  rw [e]; exact ⟨(eO h).1,rfl,rfl,rfl,rfl,rfl⟩
 ·have hS:az r=true:=by rw [<- cu]; exact h
  have d:dB r o=aM r o:=by unfold dB; rw [if_pos hS,if_pos hb]
  have eT:fT r (atL r.heads o.branch)=dK r o.branch:=by
   unfold fT dK;by_cases q:0<=atL r.heads o.branch
   ·rw [if_neg (by omega),if_pos q]
   ·rw [if_pos (by omega),if_neg q]
  have hT:=Ek hS o.branch;obtain ⟨p1,p2,p3⟩:=h2;have hat:=m9 (n:=o.branch) ((cQ r).1 hS).2.1;have s0:=xf hT;have s1:=xf (El hT ⟨o.path,o.text⟩);have s2:=Nv hT o.path;have s3:=xf (Ei hT o.path o.to_);rw [d,eT];simp only [Q1,QV,QY];have e1:o.kind=1->aM r o=de r o (il (dK r o.branch) ⟨o.path,o.text⟩):=fun h=>by unfold aM; rw [if_pos h]
  have e2:o.kind=2->aM r o=de r o (fS (dK r o.branch) o.path):=fun h=>by unfold aM; rw [if_neg (by omega),if_pos h]
  have e3:o.kind=3->aM r o=de r o (ei (dK r o.branch) o.path o.to_):=fun h=>by unfold aM; rw [if_neg (by omega),if_neg (by omega),if_pos h]
  have e4:o.kind=4->(cS r o.to_ (atL r.heads o.branch)).2=true->aM r o=((cS r o.to_ (atL r.heads o.branch)).1,0):=fun h h'=>by unfold aM; rw [if_neg (by omega),if_neg (by omega),if_neg (by omega),if_pos h,if_pos h']
  have e4':o.kind=4->(cS r o.to_ (atL r.heads o.branch)).2=false->aM r o=(r,1):=fun h h'=>by unfold aM; rw [if_neg (by omega),if_neg (by omega),if_neg (by omega),if_pos h,if_neg (by simp -implicitDefEqProofs [h'])]
  have e5:o.kind=5->aM r o=cD r o.branch o.who (atL r.heads o.to_):=fun h=>by unfold aM; rw [if_neg (by omega),if_neg (by omega),if_neg (by omega),if_neg (by omega),if_pos h]
  have e7:¬ o.kind=1 -> ¬ o.kind=2 -> ¬ o.kind=3 -> ¬ o.kind=4 -> ¬ o.kind=5->aM r o=b9 (decide (o.kind=7)) r o.branch o.who o.at_:=fun k1 k2 k3 k4 k5=>by
   unfold aM; rw [if_neg k1,if_neg k2,if_neg k3,if_neg k4,if_neg k5]
   by_cases k6:o.kind=6
   ·rw [if_pos k6,k6]; rfl
   ·have k7:o.kind=7:=by
     rcases Classical.em (o.kind=7) with q | q
     ·exact q
     ·rw [NA k1 k2 k3 k4 k5 k6 q] at hb; cases hb
    rw [if_neg k6,k7]; rfl
  refine ⟨by omega,by omega,fun k=>⟨⟨o.path,o.text⟩,rfl,rfl,s0,p3,p1,h,s1,by rw [e1 k]; exact ⟨rfl,rfl,rfl,rfl,rfl⟩⟩,fun k1=>⟨fun k=>⟨s0,by omega,h,s2,by rw [e2 k]; exact ⟨rfl,rfl,rfl,rfl,rfl⟩⟩,fun k2=>⟨fun k=>⟨s0,p1,p2,h,s3,by rw [e3 k]; exact ⟨rfl,rfl,rfl,rfl,rfl⟩⟩,fun k3=>⟨fun k=>⟨h1,fun q=>?_,fun q=>?_⟩,fun k4=>⟨fun k=>⟨h,by rw [e5 k]; exact ⟨rfl,rfl,rfl,rfl,rfl⟩⟩,fun k5=>⟨h,by rw [e7 k1 k2 k3 k4 k5]; exact ⟨rfl,rfl,rfl,rfl,rfl⟩⟩⟩⟩⟩⟩⟩
  ·have eb:(cS r o.to_ (atL r.heads o.branch)).1=r:=by
    rw [rq,if_pos h] at q ⊢;split at q
    ·rename_i g; rw [if_pos g]
    ·rename_i g;rw [if_neg g];split at q
     ·cases q
     ·rename_i g2; rw [if_neg g2]
   rw [e4' k q,eb]; exact ⟨rfl,rfl,rfl,rfl,rfl⟩
  ·rw [e4 k q]; exact ⟨rfl,rfl,rfl,rfl,rfl⟩
theorem AL {w:Str}:∀ {l:List Str} {i:Nat},w ∉ l.take i->l[i]? = some w->l.idxOf w=i
 | x :: l,0,_,h=>by simp at h; subst h; simp
 | x :: l,i+1,h,h'=>by
  simp only [List.take_succ_cons,List.mem_cons,not_or] at h;rw [List.getElem?_cons_succ] at h';have ih:=AL h.2 h';have hx:(x == w)=false:=by simpa using fun e=>h.1 e.symm
  rw [List.idxOf_cons,hx,ih]; rfl
def gU (l:List Str) (w:Str):Int:=if w ∈ l then (l.idxOf w:Int) else -1
theorem Jd {w:Str} {l:List Str} {i:Nat} (h:w ∉ l.take i) (hi:i < l.length) (he:w=l[i]):gU l w=i:=by
 have h1:l[i]? = some w:=by rw [List.getElem?_eq_getElem hi,he]
 unfold gU;rw [if_pos (List.mem_of_getElem? h1),AL h h1]
theorem Je {w:Str} {l:List Str} (h:w ∉ l):gU l w = -1:=by unfold gU; rw [if_neg h]
def tm:Con:=.fn 19 (List Str × Str) (fun a=>[.sl true 1 (aa a.1),.str a.2]) (fun a=>a.1.length<=1048576) (fun a=>.int .i64 (gU a.1 a.2)) (fun _=>[])
theorem Jj:Has Tryz.prog 110 tm:=by
 refine ag mixed ak HasL.nil [0,1,4,5,7,8] ((fun a n (_:Nat)=>(fun a _=>⟨Nat,fun i=>⟨[(0,true,.sl true 1 (aa a.1)),(1,true,.str a.2),(4,true,.int .i64 0),(7,true,.int .i64 a.1.length),(8,true,.int .i64 i)],[]⟩,fun i=>i<=a.1.length/\a.2 ∉ a.1.take i,fun i=>a.1.length - i⟩) a n)) [] Tryz.func110 (by unfold Tryz.f110; rfl) (fun _=>⟨(),trivial⟩) ?_
 intro a ha;obtain ⟨l,w⟩:=a;replace ha:l.length<=1048576:=ha;have hT:∀ {i:Nat},i < l.length->(w ∉ l.take (i+1) ↔ w ∉ l.take i /\ ¬ w=l[i]?.getD []):=fun {i} hi=>by
  rw [List.take_succ_eq_append_getElem hi,List.getElem?_eq_getElem hi];simp only [List.mem_append,List.mem_singleton,Option.getD_some,not_or]
 simp -implicitDefEqProofs [tm,Con.fn,ae]
 try dsimp only
 refine fun _ t ht hw=>⟨fun hlt=>⟨hlt,fun _=>?_⟩,fun hge=>?_⟩
 ·have qq:Option.map al l[t]? = some (al l[t]):=by simp -implicitDefEqProofs [hlt]
  have q2:=hT hlt;rw [qq];simp -implicitDefEqProofs [al,D.asStr];refine ⟨fun he=>Jd hw hlt he,fun hne=>⟨by omega,fun _ _=>⟨t+1,by omega,⟨by omega,?_⟩,by omega⟩⟩⟩
  exact q2.2 ⟨hw,by rw [List.getElem?_eq_getElem hlt]; exact hne⟩
 ·rw [List.take_of_length_le hge] at hw;exact Je hw
theorem Ex (w:Str):gU wordsO w=if w=[] then 0 else kindOf (-1) w:=by
 unfold gU;by_cases h:w ∈ wordsO
 ·rw [if_pos h];revert h;simp only [wordsO,List.mem_cons,List.not_mem_nil,or_false];rintro (rfl | rfl | rfl | rfl | rfl | rfl | rfl | rfl) <;> decide
 ·rw [if_neg h];simp only [wordsO,List.mem_cons,List.not_mem_nil,or_false,not_or] at h;obtain ⟨h0,h1,h2,h3,h4,h5,h6,h7⟩:=h;rw [if_neg h0];have k:∀ n:Int,bZ n=if n=1 then [115,101,116] else if n=2 then [100,114,111,112] else if n=3 then [109,111,118,101] else if n=4 then [102,111,114,107] else if n=5 then [117,110,105,116,101] else if n=6 then [112,105,99,107] else if n=7 then [98,97,99,107] else []:=fun n=>rfl
  unfold kindOf;rw [if_neg (by rw [k]; exact h1),if_neg (by rw [k]; exact h2),if_neg (by rw [k]; exact h3),if_neg (by rw [k]; exact h4),if_neg (by rw [k]; exact h5),if_neg (by rw [k]; exact h6),if_neg (by rw [k]; exact h7)]
theorem xw {o:OpD} (h:opB o=true):(au o).length<=400:=by
 obtain ⟨⟨n1,n2⟩,h⟩:=kS h;have l0:=Bm o.kind;have l1:=(gv n1).2;have l2:=(gv n2).2;have l3:(ce o).length<=160:=by
  rcases h with ⟨b,w,p,t,rfl,h1,h2⟩ | ⟨b,w,p,rfl,h1⟩ | ⟨b,w,p,q,rfl,h1,h2⟩ | ⟨b,w,q,rfl,h1⟩ | ⟨b,w,q,rfl,h1⟩ | ⟨b,w,a,rfl,h1,h2⟩ | ⟨b,w,a,rfl,h1,h2⟩
  ·have e:ce ⟨1,b,w,p,[],0,t⟩=p++32 :: bS t:=rfl;have k1:=gE h1;have k2:=lE (qZ h2).2;have k3:=(qZ h2).1;rw [e]; simp only [List.length_append,List.length_cons]; omega
  ·exact Nat.le_trans (gE h1) (by omega)
  ·have e:ce ⟨3,b,w,p,q,0,[]⟩=p++32 :: q:=rfl;have k1:=gE h1;have k2:=gE h2;rw [e]; simp only [List.length_append,List.length_cons]; omega
  ·exact Nat.le_trans (gv h1).2 (by omega)
  ·exact Nat.le_trans (gv h1).2 (by omega)
  ·exact Nat.le_trans (kF _) (by omega)
  ·exact Nat.le_trans (kF _) (by omega)
 unfold au;simp only [List.length_append,List.length_cons];omega
theorem xz {s:Str}:(br s).length<=s.length+12:=by
 have:=lV 9 (d5 s) (by have:=nG s; omega)
 unfold br d6;simp only [List.length_append,List.length_cons,List.length_nil];omega
def pW:Con:={ (Con.fn 13 OpD (fun o=>[vOp o]) (fun o=>opB o=true) (fun o=>.str (br (au o))) (fun _=>[])) with need:=ew }
theorem Dw:Has Tryz.prog 50 pW:=by
 refine ag mixed ak (HasL.cons CH (HasL.cons GT (HasL.cons Jz HasL.nil))) [0,1,2,3] ((fun a n (_:Nat)=>(fun _=>an) a n)) [] Tryz.func50 (by unfold Tryz.f50; rfl) (fun _=>⟨(),trivial⟩) ?_
 intro (o:OpD) (ho:opB o=true);have h1:=xw ho;have h2:=nG (au o);have h3:=lV 9 (d5 (au o)) (by omega)
 simp (maxSteps:=8000000) -implicitDefEqProofs [pW,pT,sK,zj,Con.fn,ae,bOp,maxLen]
 try dsimp only
 exact ⟨ho,by omega,d5 (au o),rfl,h2,by omega,fun _=>⟨by omega,fun _=>⟨by omega,fun _=>by simp -implicitDefEqProofs [br,d6]⟩⟩⟩
def pK:Con:=.fn 10 Str (fun s=>[.str s]) (fun s=>s.length<=1048576) (fun s=>.str (br s)) (fun _=>[])
theorem BA:Has Tryz.prog 45 pK:=by
 refine ag mixed ak (HasL.cons Bz (HasL.cons Bu HasL.nil)) [0,2] ((fun a n (_:Nat)=>(fun _=>an) a n)) [] Tryz.func45 (by unfold Tryz.f45; rfl) (fun _=>⟨(),trivial⟩) ?_
 intro (s:Str) (hs:s.length<=1048576);have h2:=nG s;have h3:=lV 9 (d5 s) (by omega)
 simp (maxSteps:=8000000) -implicitDefEqProofs [pK,pJ,tG,kq,Con.fn,ae,maxLen]
 try dsimp only
 exact ⟨by omega,d5 s,rfl,⟨by omega,h2⟩,by omega,fun _=>⟨by omega,fun _=>⟨by omega,fun _=>by simp -implicitDefEqProofs [br,d6]⟩⟩⟩
def pZ:Con:=.fn 9 Int (fun c=>[.int .i64 c]) (fun _=>True) (fun c=>.bool (eF c)) (fun _=>[])
theorem D1:Has Tryz.prog 51 pZ:=by
 refine ag mixed ak HasL.nil [0,2] ((fun a n (_:Nat)=>(fun _=>an) a n)) [] Tryz.func51 (by unfold Tryz.f51; rfl) (fun _=>⟨(),trivial⟩) ?_
 intro (c:Int) _;simp -implicitDefEqProofs [pZ,Con.fn,ae,eF];exact ⟨fun h=>.inl h,fun h h'=>absurd h' h⟩
def nl:Con:=.fn 9 Int (fun c=>[.int .i64 c]) (fun _=>True) (fun c=>.bool (eF c)) (fun _=>[])
theorem wD:Has Tryz.prog 47 nl:=by
 refine ag mixed ak HasL.nil [0,2] ((fun a n (_:Nat)=>(fun _=>an) a n)) [] Tryz.func47 (by unfold Tryz.f47; rfl) (fun _=>⟨(),trivial⟩) ?_
 intro (c:Int) _;simp -implicitDefEqProofs [nl,Con.fn,ae,eF];exact ⟨fun h=>.inl h,fun h h'=>absurd h' h⟩
def uq:Con:=.fn 47 Str (fun s=>[.str s]) (fun s=>s.length<=1073741824) (fun s=>.int .i64 (iM s)) (fun _=>[])
theorem M3 {s:Str} {i:Nat} {n:Int} (h:i < s.length):ic (s.drop i) i n=if s[i].toNat < 48 \/ 57 < s[i].toNat \/ 6<=i then -1 else ic (s.drop (i+1)) (i+1) (n * 10+((s[i].toNat:Int) - 48)):=by rw [List.drop_eq_getElem_cons h]; rfl
theorem M2 {s:Str} {i:Nat} {n:Int} (h:s.length<=i):ic (s.drop i) i n=n:=by rw [List.drop_eq_nil_of_le h]; rfl
theorem M4:Has Tryz.prog 114 uq:=by
 refine ag mixed ak HasL.nil [0,2,3,4] ((fun a n (_:Nat)=>(fun s _=>⟨Nat × Int,fun t=>⟨[(0,true,.str s),(2,true,.int .i64 0),(3,true,.int .i64 t.2),(4,true,.int .i64 t.1)],[]⟩,fun t=>t.1<=s.length/\t.1<=6/\0<=t.2/\t.2 < ((10 ^ t.1:Nat):Int)/\ic (s.drop t.1) t.1 t.2=ic s 0 0,fun t=>s.length - t.1⟩) a n)) [] Tryz.func114 (by unfold Tryz.f114; rfl) (fun _=>⟨(),trivial⟩) ?_
 intro (s:Str) (hs:s.length<=1073741824);simp -implicitDefEqProofs [uq,Con.fn,ae]
 try dsimp only
 refine ⟨⟨0,0,⟨rfl,rfl⟩,by omega,by omega,by omega,by simp,rfl⟩,fun i n g1 g2 g3 g4 g5 _=>⟨fun hlt=>⟨hlt,fun _=>?_⟩,fun hge _=>?_⟩⟩
 ·have e:s[i]?.getD 0=s[i]:=by simp -implicitDefEqProofs [hlt]
  rw [e];have st:=M3 (n:=n) hlt;rw [g5] at st;have q:(10:Int) ^ (i+1)=10 * 10 ^ i:=by rw [Int.pow_succ]; omega
  have p6:(10:Int) ^ i<=1000000:=by
   have h1:(10:Nat) ^ i<=10 ^ 6:=Nat.pow_le_pow_right (by omega) g2
   have h2:(((10:Nat) ^ i:Nat):Int)=(10:Int) ^ i:=by simp
   rw [<- h2];omega
  have hb:s[i].toNat < 256:=s[i].toNat_lt;have hno:(s[i].toNat < 48 \/ 57 < s[i].toNat \/ 6<=i)->iM s = -1:=fun h=>by unfold iM; rw [st,if_pos h]; simp
  have hok:¬ (s[i].toNat < 48 \/ 57 < s[i].toNat \/ 6<=i)->ic (s.drop (i+1)) (i+1) (n * 10+((s[i].toNat:Int) - 48))=ic s 0 0:=fun h=>by rw [st,if_neg h]
  exact ⟨fun h=>hno (by omega),fun a1=>⟨hlt,fun _=>⟨fun h=>hno (by omega),fun a2=>⟨fun h=>hno (by omega),fun a3=>⟨by omega,fun _ _=>⟨hlt,fun _=>⟨by omega,fun _ _=>⟨by omega,fun _ _=>⟨by omega,fun _ _=>⟨by omega,fun _ _=>⟨i+1,_,⟨rfl,by omega⟩,⟨by omega,by omega,by omega,by rw [q]; omega,hok (by omega)⟩,by omega⟩⟩⟩⟩⟩⟩⟩⟩⟩⟩⟩
 ·have e5:ic s 0 0=n:=by rw [<- g5,M2 hge]
  have nb:iM s=if s.length=0 \/ (1 < s.length/\s.getD 0 0=48) then -1 else n:=by unfold iM; rw [e5,if_neg (by omega)]
  rw [nb];have hc:s[0]?.getD 0=s.getD 0 0:=by simp -implicitDefEqProofs [List.getD_eq_getElem?_getD]
  rw [hc];have h48:∀ x:UInt8,((x.toNat:Int)=48)=(x=48):=fun x=>by
   apply propext;constructor
   ·intro h; exact UInt8.toNat_inj.1 (by have:(48:UInt8).toNat=48:=rfl; omega)
   ·rintro rfl; rfl
  rw [h48];refine ⟨fun h=>⟨fun _=>if_pos (.inl (by simp -implicitDefEqProofs [h])),fun _=>if_pos (.inl (by simp -implicitDefEqProofs [h]))⟩,fun h _=>?_⟩
  have hl:0 < s.length:=List.length_pos_iff.2 h;exact ⟨fun h1=>⟨by omega,fun _=>⟨fun h2=>if_pos (.inr ⟨by omega,h2⟩),fun h2=>if_neg fun q=>q.elim (fun q=>by omega) fun q=>h2 q.2⟩⟩,fun h1=>if_neg fun q=>q.elim (fun q=>by omega) fun q=>by omega⟩
theorem lT {b:Int} {m:Nat}:∀ {s c:Str} {n:Nat},∀ x ∈ aK b m s c n,x.length<=c.length+s.length
 | [],c,n,x,h=>by simp -implicitDefEqProofs [aK] at h; subst h; simp
 | y :: s,c,n,x,h=>by
  rw [aK] at h;split at h
  ·split at h
   ·rcases List.mem_cons.1 h with rfl | h
    ·simp
    ·have:=lT x h;simp at this ⊢; omega
   ·have:=lT x h;simp at this ⊢; omega
  ·simp at h; subst h; simp
theorem nH {b:Int} {m:Nat}:∀ {s c:Str} {n:Nat},n<=m->(aK b m s c n).length<=m - n+1
 | [],c,n,_=>by simp -implicitDefEqProofs [aK]
 | y :: s,c,n,h=>by
  rw [aK];split
  ·split
   ·have:=nH (b:=b) (m:=m) (s:=s) (c:=[]) (n:=n+1) (by omega)
    simp only [List.length_cons]; omega
   ·exact nH h
  ·simp
theorem zR (s:Str):(aB s 32 4).length < 4 \/ (∃ a b c d,aB s 32 4=[a,b,c,d]) \/ ∃ a b c d e,aB s 32 4=[a,b,c,d,e]:=by
 have h:(aB s 32 4).length<=4 - 0+1:=nH (Nat.zero_le _);generalize aB s 32 4=W at *
 match W,h with
 | [],_=>exact .inl (by simp)
 | [_],_=>exact .inl (by simp)
 | [_,_],_=>exact .inl (by simp)
 | [_,_,_],_=>exact .inl (by simp)
 | [a,b,c,d],_=>exact .inr (.inl ⟨a,b,c,d,rfl⟩)
 | [a,b,c,d,e],_=>exact .inr (.inr ⟨a,b,c,d,e,rfl⟩)
 | _ :: _ :: _ :: _ :: _ :: _ :: _,h=>simp at h
theorem qx {s:Str} {o:OpD} {X:OpD × Bool} (hX:X=if opB o=true/\au o=s then (o,true) else (zO,false)) :
  (opB o=false \/ ¬ au o=s->(X.1.kind=0/\X.1.branch=[]/\X.1.who=[]/\X.1.path=[]/\X.1.to_=[]/\X.1.at_=0/\X.1.text=[])/\X.2=false) /\
  (opB o=true->au o=s->(X.1.kind=o.kind/\X.1.branch=o.branch/\X.1.who=o.who/\X.1.path=o.path/\X.1.to_=o.to_/\X.1.at_=o.at_/\X.1.text=o.text)/\X.2=true):=by
 subst hX;refine ⟨fun h=>?_,fun h1 h2=>?_⟩
 ·rw [if_neg (fun q=>h.elim (fun e=>(by rw [q.1] at e; cases e)) (fun e=>e q.2))]
  exact ⟨⟨rfl,rfl,rfl,rfl,rfl,rfl,rfl⟩,rfl⟩
 ·rw [if_pos ⟨h1,h2⟩];exact ⟨⟨rfl,rfl,rfl,rfl,rfl,rfl,rfl⟩,rfl⟩
def rdK (num:Str->Int) (k:Int) (w1 w2 w3 l:Str):OpD :=
 if k=1 then ⟨1,w1,w2,w3,[],0,if l=[] then [] else (spl 124 l []).drop 1⟩
 else if k=2 then ⟨2,w1,w2,w3,[],0,[]⟩
 else if k=3 then ⟨3,w1,w2,w3,l,0,[]⟩
 else if k=4 \/ k=5 then ⟨k,w1,w2,[],w3,0,[]⟩
 else if k=6 \/ k=7 then ⟨k,w1,w2,[],[],num w3,[]⟩
 else ⟨k,w1,w2,[],[],0,[]⟩
theorem OQ (num:Str->Int) (w0 w1 w2 w3:Str):rdI num [w0,w1,w2,w3]=rdK num (gU wordsO w0) w1 w2 w3 []:=by rw [Ex]; rfl
theorem OR (num:Str->Int) (w0 w1 w2 w3 w4:Str):rdI num [w0,w1,w2,w3,w4]=rdK num (gU wordsO w0) w1 w2 w3 w4:=by rw [Ex]; rfl
theorem DQ (c:UInt8):∀ (s p:Str),1<=(spl c s p).length
 | [],p=>by simp -implicitDefEqProofs [spl]
 | x :: s,p=>by
  rw [spl];split
  ·simp
  ·exact DQ c s _
theorem jh (l:List Str):List.take (l.length - 1) (aa l).tail=aa (l.drop 1):=by
 rw [List.take_of_length_le (by simp)]
 cases l <;> simp -implicitDefEqProofs [aa]
def yH:Blk:=.box 42 [.int .i64 0,.str [],.str [],.str [],.str [],.int .i64 0,.nil]
def ut:Con:={ (Con.fn 95 Str (fun s=>[.str s]) (fun s=>s.length<=1048576) (fun s=>.tup [.agg [.int .i64 (bN (rdI bQ) s).1.kind,.str (bN (rdI bQ) s).1.branch,.str (bN (rdI bQ) s).1.who,.str (bN (rdI bQ) s).1.path,.str (bN (rdI bQ) s).1.to_,.int .i64 (bN (rdI bQ) s).1.at_,.sl false 1 (aa (bN (rdI bQ) s).1.text)],.bool (bN (rdI bQ) s).2]) (fun _=>[])) with need:=ew }
theorem Ny:Has Tryz.prog 58 ut:=by
 refine ag mixed ak (HasL.cons Qh (HasL.cons CI (HasL.cons Jj (HasL.cons DS (HasL.cons Fv (HasL.cons xg (HasL.cons CH HasL.nil))))))) [0,2,3,4,5,25,66,73] ((fun a n (_:Nat)=>(fun _=>an) a n)) [] Tryz.func58 (by unfold Tryz.f58; rfl) (fun _=>⟨(),trivial⟩) ?_
 intro (s:Str) (hs:s.length<=1048576);simp (maxSteps:=8000000) -implicitDefEqProofs [-kStep_move,-kStepC_move,-Bool.exists_bool,ut,uO,pU,tm,pX,zd,nv,pT,Con.fn,ae,bOp]
 try dsimp only
 refine ⟨s,32,⟨rfl,rfl⟩,by omega,fun _=>?_⟩
 simp only [c32];have hp:∀ x ∈ aB s 32 4,x.length<=1048576:=fun x hx=>by
  have:=lT x hx;simp at this; omega
 have eg:(bN (rdI bQ) s)=(if (aB s 32 4).length < 4 then (zO,false) else if opB (rdI bQ (aB s 32 4))=true/\au (rdI bQ (aB s 32 4))=s then (rdI bQ (aB s 32 4),true) else (zO,false)):=rfl
 rw [eg];clear eg;rcases zR s with h | ⟨w0,w1,w2,w3,h⟩ | ⟨w0,w1,w2,w3,w4,h⟩
 ·refine ⟨fun _=>?_,fun q=>absurd q (by omega)⟩
  rw [if_pos h];exact ⟨⟨rfl,rfl,rfl,rfl,rfl,rfl,rfl⟩,rfl⟩
 ·rw [h];rw [h] at hp;simp -implicitDefEqProofs [al,D.asStr];refine ⟨wordsO,w0,⟨rfl,rfl⟩,by decide,?_⟩
  have l1:=hp w1 (by simp)
  have l2:=hp w2 (by simp)
  have l3:=hp w3 (by simp)
  rw [OQ];generalize gU wordsO w0=K;generalize hX:(if opB (rdK bQ K w1 w2 w3 [])=true/\au (rdK bQ K w1 w2 w3 [])=s then (rdK bQ K w1 w2 w3 [],true) else (zO,false))=X
  replace hX:=hX.symm;have gl:=fun (o:OpD) (ho:rdK bQ K w1 w2 w3 []=o)=>@qx s o X (by rw [hX,ho])
  clear hX;have sz:∀ (k a:Int) (b w p q:Str) (t:List Str),p.length<=1048576->q.length<=1048576->t.length<=1048576->eA ⟨k,b,w,p,q,a,t⟩:=fun k a b w p q t h1 h2 h3=>⟨h1,h2,h3⟩
  repeat' (first
   | (refine gl _ ?_; clear gl; unfold rdK; (repeat' split); all_goals (first | rfl | omega | contradiction | (simp only [OpD.mk.injEq,true_and,and_true]; omega) | (exfalso; simp_all; done)))
   | intro _
   | exact sz _ _ _ _ _ _ _ (by first | assumption | simp) (by first | assumption | simp) (by first | assumption | simp)
   | omega
   | apply And.intro)
 ·rw [h];rw [h] at hp;simp -implicitDefEqProofs [al,D.asStr];refine ⟨wordsO,w0,⟨rfl,rfl⟩,by decide,?_⟩
  have l1:=hp w1 (by simp)
  have l2:=hp w2 (by simp)
  have l3:=hp w3 (by simp)
  have l4:=hp w4 (by simp)
  rw [OR];generalize gU wordsO w0=K;generalize hX:(if opB (rdK bQ K w1 w2 w3 w4)=true/\au (rdK bQ K w1 w2 w3 w4)=s then (rdK bQ K w1 w2 w3 w4,true) else (zO,false))=X
  replace hX:=hX.symm;have gl:=fun (o:OpD) (ho:rdK bQ K w1 w2 w3 w4=o)=>@qx s o X (by rw [hX,ho])
  clear hX;have sz:∀ (k a:Int) (b w p q:Str) (t:List Str),p.length<=1048576->q.length<=1048576->t.length<=1048576->eA ⟨k,b,w,p,q,a,t⟩:=fun k a b w p q t h1 h2 h3=>⟨h1,h2,h3⟩;have ls:((spl 124 w4 []).drop 1).length<=1048576:=by have:=xP 124 w4 []; have:=List.count_le_length (a:=(124:UInt8)) (l:=w4); simp only [List.length_drop]; omega
  refine ⟨fun k1=>⟨fun hne=>⟨w4,124,⟨rfl,rfl⟩,by omega,by have:=DQ 124 w4 []; omega,fun _=>⟨⟨K,w1,w2,w3,[],0,(spl 124 w4 []).drop 1⟩,⟨rfl,rfl,rfl,rfl,rfl,rfl,(jh _).symm⟩,sz _ _ _ _ _ _ _ l3 (by simp) ls,⟨K,w1,w2,w3,[],0,(spl 124 w4 []).drop 1⟩,⟨rfl,rfl,rfl,rfl,rfl,rfl,(jh _).symm⟩,fun h=>⟨h,h⟩,?_⟩⟩,?_⟩,?_⟩
  ·simp only [jh,eStrs_inj];refine gl _ ?_;unfold rdK;rw [if_pos k1,if_neg hne,k1]
  all_goals repeat' (first
   | (refine gl _ ?_; clear gl; unfold rdK; (repeat' split); all_goals (first | rfl | omega | contradiction | (simp only [OpD.mk.injEq,true_and,and_true]; omega) | (exfalso; simp_all; done)))
   | intro _
   | exact sz _ _ _ _ _ _ _ (by first | assumption | simp) (by first | assumption | simp) (by first | assumption | simp)
   | omega
   | apply And.intro)
def jP (w:Str):Nat->Int
 | 0=>0
 | k+1=>if 1<=k/\wordsO.getD k []=w then (k:Int) else jP w k
theorem Bl (w:Str):jP w 8=kindOf 0 w:=by
 have k1:bZ 1=wordsO.getD 1 []:=rfl;have k2:bZ 2=wordsO.getD 2 []:=rfl;have k3:bZ 3=wordsO.getD 3 []:=rfl;have k4:bZ 4=wordsO.getD 4 []:=rfl;have k5:bZ 5=wordsO.getD 5 []:=rfl;have k6:bZ 6=wordsO.getD 6 []:=rfl;have k7:bZ 7=wordsO.getD 7 []:=rfl;unfold kindOf;by_cases h1:w=bZ 1
 ·subst h1; rfl
 by_cases h2:w=bZ 2
 ·subst h2; rfl
 by_cases h3:w=bZ 3
 ·subst h3; rfl
 by_cases h4:w=bZ 4
 ·subst h4; rfl
 by_cases h5:w=bZ 5
 ·subst h5; rfl
 by_cases h6:w=bZ 6
 ·subst h6; rfl
 by_cases h7:w=bZ 7
 ·subst h7; rfl
 rw [if_neg h1,if_neg h2,if_neg h3,if_neg h4,if_neg h5,if_neg h6,if_neg h7];rw [k1] at h1; rw [k2] at h2; rw [k3] at h3; rw [k4] at h4; rw [k5] at h5; rw [k6] at h6; rw [k7] at h7
 simp only [jP];rw [if_neg (fun q=>h7 q.2.symm),if_neg (fun q=>h6 q.2.symm),if_neg (fun q=>h5 q.2.symm),if_neg (fun q=>h4 q.2.symm),if_neg (fun q=>h3 q.2.symm),if_neg (fun q=>h2 q.2.symm),if_neg (fun q=>h1 q.2.symm),if_neg (by omega)]
def eZ (k:Int) (w1 w2 w3 l:Str):OpD :=
 if k=1 then ⟨1,w1,w2,w3,[],0,(aB l 124 11).drop 1⟩
 else if k=2 then ⟨2,w1,w2,w3,[],0,[]⟩
 else if k=3 then ⟨3,w1,w2,w3,l,0,[]⟩
 else if k=4 \/ k=5 then ⟨k,w1,w2,[],w3,0,[]⟩
 else ⟨k,w1,w2,[],[],iM w3,[]⟩
theorem OU (w0 w1 w2 w3:Str):rdS [w0,w1,w2,w3]=eZ (kindOf 0 w0) w1 w2 w3 []:=rfl
theorem OV (w0 w1 w2 w3 w4:Str):rdS [w0,w1,w2,w3,w4]=eZ (kindOf 0 w0) w1 w2 w3 w4:=rfl
theorem vo {b:Int} {m:Nat}:∀ (s c:Str) (n:Nat),1<=(aK b m s c n).length
 | [],c,n=>by simp -implicitDefEqProofs [aK]
 | x :: s,c,n=>by
  rw [aK];split
  ·split
   ·simp
   ·exact vo s _ _
  ·simp
theorem zT (l:Str):1<=(aB l 124 11).length/\((aB l 124 11).drop 1).length<=1048576:=by
 have h1:(aB l 124 11).length<=11 - 0+1:=nH (Nat.zero_le _);refine ⟨vo _ _ _,?_⟩;simp only [List.length_drop]; omega
def ogI (s:Str):Inv:=⟨Nat,fun k=>⟨[(0,true,.str s),(2,true,.ptr 10 0),(3,true,.bool false),(4,true,.own 9 1 (aa (aB s 32 4))),(5,true,.ptr 11 0),(6,true,.int .i64 k)],
 [(9,.own 9 1 true (aa (aB s 32 4))),(10,yH),(11,.box 42 [.int .i64 (jP ((aB s 32 4).getD 0 []) k),.str ((aB s 32 4).getD 1 []),.str ((aB s 32 4).getD 2 []),.str [],.str [],.int .i64 0,.nil])]⟩,fun k=>4<=(aB s 32 4).length/\1<=k/\k<=8,fun k=>8 - k⟩
def uu:Con:=.fn 92 Str (fun s=>[.str s]) (fun s=>s.length<=1048576) (fun s=>.tup [.agg [.int .i64 (bN rdS s).1.kind,.str (bN rdS s).1.branch,.str (bN rdS s).1.who,.str (bN rdS s).1.path,.str (bN rdS s).1.to_,.int .i64 (bN rdS s).1.at_,.sl false 1 (aa (bN rdS s).1.text)],.bool (bN rdS s).2]) (fun _=>[])
theorem Nz:Has Tryz.prog 62 uu:=by
 refine ag mixed ak (HasL.cons wE (HasL.cons Br (HasL.cons M4 (HasL.cons Bq (HasL.cons wC HasL.nil))))) [0,2,3,4,5,6,7,44,74] ((fun a n (_:Nat)=>(fun s _=>ogI s) a n)) [] Tryz.func62 (by unfold Tryz.f62; rfl) (fun _=>⟨(),trivial⟩) ?_
 intro (s:Str) (hs:s.length<=1048576);simp (maxSteps:=8000000) -implicitDefEqProofs [-kStep_move,-kStepC_move,-Bool.exists_bool,uu,np,pH,uq,pG,nk,Con.fn,ae,bOp,ogI,yH]
 try dsimp only
 refine ⟨s,32,4,⟨rfl,rfl,rfl⟩,by omega,fun _=>?_⟩
 have hp:∀ x ∈ aB s 32 4,x.length<=1048576:=fun x hx=>by
  have:=lT x hx;simp at this; omega
 have eg:(bN rdS s)=(if (aB s 32 4).length < 4 then (zO,false) else if opB (rdS (aB s 32 4))=true/\au (rdS (aB s 32 4))=s then (rdS (aB s 32 4),true) else (zO,false)):=rfl
 rw [eg];clear eg;rcases zR s with h | ⟨w0,w1,w2,w3,h⟩ | ⟨w0,w1,w2,w3,w4,h⟩
 ·refine ⟨fun _=>?_,fun q=>absurd q (by omega)⟩
  rw [if_pos h];exact ⟨⟨rfl,rfl,rfl,rfl,rfl,rfl,rfl⟩,rfl⟩
 ·rw [h];rw [h] at hp;simp -implicitDefEqProofs [al,D.asStr];have l1:=hp w1 (by simp)
  have l2:=hp w2 (by simp)
  have l3:=hp w3 (by simp)
  have hW:wordsO.length=8:=rfl;refine ⟨⟨1,⟨rfl,rfl⟩,by omega,by omega⟩,fun t g1 g2 g3=>⟨fun hlt=>⟨hlt,fun _=>?_⟩,fun hge=>?_⟩⟩
  ·have qq:Option.map al wordsO[t]? = some (al wordsO[t]):=by simp -implicitDefEqProofs [hlt]
   rw [qq];have hs:jP w0 (t+1)=if 1<=t/\wordsO.getD t []=w0 then (t:Int) else jP w0 t:=rfl
   have hgd:wordsO.getD t []=wordsO[t]:=by simp -implicitDefEqProofs [List.getD_eq_getElem?_getD,hlt]
   rw [hgd] at hs;simp -implicitDefEqProofs [al];exact ⟨fun he=>⟨⟨by omega,by omega⟩,fun _ _=>⟨t+1,⟨by omega,by rw [hs,if_pos ⟨by omega,he⟩]⟩,⟨by omega,by omega⟩,by omega⟩⟩,fun he=>⟨⟨by omega,by omega⟩,fun _ _=>⟨t+1,⟨by omega,by rw [hs,if_neg (fun q=>he q.2)]⟩,⟨by omega,by omega⟩,by omega⟩⟩⟩
  ·have t8:t=8:=by omega
   subst t8;rw [Bl,OU];generalize kindOf 0 w0=K;generalize hX:(if opB (eZ K w1 w2 w3 [])=true/\au (eZ K w1 w2 w3 [])=s then (eZ K w1 w2 w3 [],true) else (zO,false))=X
   replace hX:=hX.symm;have gl:=fun (o:OpD) (ho:eZ K w1 w2 w3 []=o)=>@qx s o X (by rw [hX,ho])
   clear hX;have ct:=zT [];refine ⟨fun k1=>⟨[],124,11,⟨rfl,rfl,rfl⟩,by omega,by omega,fun _=>⟨⟨K,w1,w2,w3,[],0,(aB [] 124 11).drop 1⟩,⟨rfl,rfl,rfl,rfl,rfl,rfl,(jh _).symm⟩,ct.2,⟨K,w1,w2,w3,[],0,(aB [] 124 11).drop 1⟩,⟨rfl,rfl,rfl,rfl,rfl,rfl,(jh _).symm⟩,fun h=>⟨h,mK h⟩,?_⟩⟩,?_⟩
   ·simp only [jh,eStrs_inj];refine gl _ ?_;unfold eZ;rw [if_pos k1,k1]
   repeat' (first
    | (refine gl _ ?_; clear gl; unfold eZ; (repeat' split); all_goals (first | rfl | omega | contradiction | (simp only [OpD.mk.injEq,true_and,and_true]; omega) | (exfalso; simp_all; done)))
    | exact fun h=>⟨h,mK h⟩
    | intro _
    | omega
    | apply And.intro)
 ·rw [h];rw [h] at hp;have l4:=hp w4 (by simp)
  simp -implicitDefEqProofs [al,D.asStr];have l1:=hp w1 (by simp)
  have l2:=hp w2 (by simp)
  have l3:=hp w3 (by simp)
  have hW:wordsO.length=8:=rfl;refine ⟨⟨1,⟨rfl,rfl⟩,by omega,by omega⟩,fun t g1 g2 g3=>⟨fun hlt=>⟨hlt,fun _=>?_⟩,fun hge=>?_⟩⟩
  ·have qq:Option.map al wordsO[t]? = some (al wordsO[t]):=by simp -implicitDefEqProofs [hlt]
   rw [qq];have hs:jP w0 (t+1)=if 1<=t/\wordsO.getD t []=w0 then (t:Int) else jP w0 t:=rfl
   have hgd:wordsO.getD t []=wordsO[t]:=by simp -implicitDefEqProofs [List.getD_eq_getElem?_getD,hlt]
   rw [hgd] at hs;simp -implicitDefEqProofs [al];exact ⟨fun he=>⟨⟨by omega,by omega⟩,fun _ _=>⟨t+1,⟨by omega,by rw [hs,if_pos ⟨by omega,he⟩]⟩,⟨by omega,by omega⟩,by omega⟩⟩,fun he=>⟨⟨by omega,by omega⟩,fun _ _=>⟨t+1,⟨by omega,by rw [hs,if_neg (fun q=>he q.2)]⟩,⟨by omega,by omega⟩,by omega⟩⟩⟩
  ·have t8:t=8:=by omega
   subst t8;rw [Bl,OV];generalize kindOf 0 w0=K;generalize hX:(if opB (eZ K w1 w2 w3 w4)=true/\au (eZ K w1 w2 w3 w4)=s then (eZ K w1 w2 w3 w4,true) else (zO,false))=X
   replace hX:=hX.symm;have gl:=fun (o:OpD) (ho:eZ K w1 w2 w3 w4=o)=>@qx s o X (by rw [hX,ho])
   clear hX;have ct:=zT w4;refine ⟨fun k1=>⟨w4,124,11,⟨rfl,rfl,rfl⟩,by omega,by omega,fun _=>⟨⟨K,w1,w2,w3,[],0,(aB w4 124 11).drop 1⟩,⟨rfl,rfl,rfl,rfl,rfl,rfl,(jh _).symm⟩,ct.2,⟨K,w1,w2,w3,[],0,(aB w4 124 11).drop 1⟩,⟨rfl,rfl,rfl,rfl,rfl,rfl,(jh _).symm⟩,fun h=>⟨h,mK h⟩,?_⟩⟩,?_⟩
   ·simp only [jh,eStrs_inj];refine gl _ ?_;unfold eZ;rw [if_pos k1,k1]
   repeat' (first
    | (refine gl _ ?_; clear gl; unfold eZ; (repeat' split); all_goals (first | rfl | omega | contradiction | (simp only [OpD.mk.injEq,true_and,and_true]; omega) | (exfalso; simp_all; done)))
    | exact fun h=>⟨h,mK h⟩
    | intro _
    | omega
    | apply And.intro)
--TAB aC
def Dv (j:Str) (t:RepoD × Nat):Prop:=t.2<=j.length/\plR t.1/\eC j t.1 t.2=aE j
theorem zU (s:Str) (b:Int):(∃ x,aB s b 1=[x]) \/ ∃ x y,aB s b 1=[x,y]:=by
 have h:(aB s b 1).length<=1 - 0+1:=nH (Nat.zero_le _);have h':1<=(aB s b 1).length:=vo _ _ _;generalize aB s b 1=W at *
 match W,h,h' with
 | [x],_,_=>exact .inl ⟨x,rfl⟩
 | [x,y],_,_=>exact .inr ⟨x,y,rfl⟩
 | [],_,h'=>simp at h'
 | _ :: _ :: _ :: _,h,_=>simp at h
theorem CF {o:OpD} (h:opB o=true):eA o:=by
 obtain ⟨_,_,_,h1,h2,_,h3,_⟩:=mK h;exact ⟨by omega,by omega,by omega⟩
def jrS (j:Str):Inv:=⟨RepoD × Nat,fun t=>⟨[(0,true,.str j),(2,true,.ptr 10 0),(3,true,.int .i64 0),(4,true,.ptr 11 0),(5,true,.int .i64 t.2)],[(10,lD),(11,.box 27 [.sl false 3 (ap t.1.commits),.sl false 2 (ah t.1.heads)])]⟩,Dv j,fun t=>j.length - t.2⟩
def lJ:Con:=.fn 82 Str (fun j=>[.str j]) (fun j=>j.length<=1073741824) (fun j=>.tup [.agg [.sl false 3 (ap (aE j).1.commits),.sl false 2 (ah (aE j).1.heads)],.int .i64 (aE j).2]) (fun _=>[])
theorem wi:Has Tryz.prog 28 lJ:=by
 refine ag mixed bn (HasL.cons wE (HasL.cons Bz (HasL.cons Bu (HasL.cons Nz (HasL.cons wy (HasL.cons wD HasL.nil)))))) [0,2,3,4,5,6,7,8,9,10,11] ((fun a n (_:Nat)=>(fun j _=>jrS j) a n)) [12287] Tryz.func28 (by unfold Tryz.f28; rfl) (fun _=>⟨(),trivial⟩) ?_
 intro (j:Str) (hj:j.length<=1073741824);simp (maxSteps:=8000000) -implicitDefEqProofs [-kStep_move,-Bool.exists_bool,lJ,np,pJ,tG,kq,uu,nj,nl,Con.fn,aC,ae,jrS,bOp]
 try dsimp only
 have e0:1500 < j.length->aE j=(noR,0):=fun h=>if_pos h;have e1:¬ 1500 < j.length->eC j noR 0=aE j:=fun h=>(if_neg h).symm;refine fun _=>⟨fun h=>by rw [e0 (by omega)]; exact ⟨⟨rfl,rfl⟩,rfl⟩,fun hlen=>⟨⟨noR,0,⟨rfl,rfl,rfl⟩,Nat.zero_le _,rk,e1 (by omega)⟩,fun R b hI _=>⟨fun hlt=>⟨by omega,fun _=>?_⟩,fun hge=>?_⟩⟩⟩
 ·obtain ⟨hb,hR,hJ⟩:=hI;simp only at hb hR hJ;rw [mL hb] at hJ;rw [List.take_of_length_le (by simp)]
  have hD:(j.drop b).length=j.length - b:=by simp
  have hk:=@xS (j.drop b);generalize j.drop b=E at *;refine ⟨E,10,1,⟨rfl,rfl,rfl⟩,by omega,?_⟩
  have hs:eh E=if (aB E 10 1).length=2/\(aB ((aB E 10 1).getD 0 []) 32 1).length=2/\(aB ((aB E 10 1).getD 0 []) 32 1).getD 0 []=Lib.decDigits (d5 ((aB ((aB E 10 1).getD 0 []) 32 1).getD 1 []))/\(bN rdS ((aB ((aB E 10 1).getD 0 []) 32 1).getD 1 [])).2=true then some ((bN rdS ((aB ((aB E 10 1).getD 0 []) 32 1).getD 1 [])).1,((aB E 10 1).getD 0 []).length+1) else none:=rfl
  rcases zU E 10 with ⟨x,h⟩ | ⟨x,y,h⟩
  ·rw [h] at hs ⊢;rw [if_neg (by simp)] at hs
   rw [hs] at hJ;simp -implicitDefEqProofs [al,D.asStr];exact ⟨x,32,1,⟨rfl,rfl,rfl⟩,by omega,by rw [<- hJ]; exact ⟨⟨rfl,rfl⟩,rfl⟩⟩
  ·rw [h] at hs ⊢;have hx:x.length<=1500:=by
    have:=lT x (show x ∈ aK 10 1 E [] 0 by rw [show aK 10 1 E [] 0=[x,y] from h]; simp)
    simp at this; omega
   simp only [List.getD_cons_zero] at hs;rcases zU x 32 with ⟨p,h2⟩ | ⟨p,q,h2⟩
   ·rw [h2] at hs;rw [if_neg (by simp)] at hs
    rw [hs] at hJ;simp -implicitDefEqProofs [al,D.asStr];refine ⟨x,32,1,⟨rfl,rfl,rfl⟩,by omega,?_⟩
    rw [h2];simp -implicitDefEqProofs [al,D.asStr];rw [<- hJ]; exact ⟨⟨rfl,rfl⟩,rfl⟩
   ·rw [h2] at hs;have hq:q.length<=1500:=by
     have:=lT q (show q ∈ aK 32 1 x [] 0 by rw [show aK 32 1 x [] 0=[p,q] from h2]; simp)
     simp at this; omega
    simp only [List.getD_cons_zero,List.getD_cons_succ] at hs;simp -implicitDefEqProofs [al,D.asStr];refine ⟨x,32,1,⟨rfl,rfl,rfl⟩,by omega,?_⟩
    rw [h2];simp -implicitDefEqProofs [al,D.asStr];have hc:=nG q;refine ⟨by omega,d5 q,rfl,⟨by omega,hc⟩,fun hne=>?_,fun he=>⟨by omega,fun hf=>?_,fun ht=>?_⟩⟩
    ·rw [hs,if_neg (fun z=>hne z.2.2.1)] at hJ;rw [<- hJ]; exact ⟨⟨rfl,rfl⟩,rfl⟩
    ·rw [hs,if_neg (fun z=>by rw [z.2.2.2] at hf; cases hf)] at hJ
     rw [<- hJ]; exact ⟨⟨rfl,rfl⟩,rfl⟩
    ·rw [if_pos ⟨rfl,rfl,he,ht⟩] at hs;rw [hs] at hJ;have kk:=hk hs;obtain ⟨go,_⟩:=nP ht;generalize (bN rdS q).1=o at *;simp only at hJ;refine ⟨R,o,⟨⟨rfl,rfl⟩,rfl,rfl,rfl,rfl,rfl,rfl,rfl⟩,⟨hR.1,CF go⟩,fun w=>?_,fun w _=>⟨⟨by omega,by omega⟩,fun _ _=>⟨⟨by omega,by omega⟩,fun _ _=>⟨(aM R o).1,b+(x.length+1),⟨by omega,rfl,rfl⟩,⟨by simp only; omega,qo hR,?_⟩,by omega⟩⟩⟩⟩
     ·rw [if_neg (by simp -implicitDefEqProofs [w])] at hJ
      rw [<- hJ]; exact ⟨⟨rfl,rfl⟩,rfl⟩
     ·rw [if_pos w] at hJ; exact hJ
 ·obtain ⟨hb,hR,hJ⟩:=hI;simp only at hb hR hJ;have:b=j.length:=by omega
  subst this;rw [OX] at hJ;rw [<- hJ]; exact ⟨⟨rfl,rfl⟩,rfl⟩
theorem zP (s:Str) (c:UInt8):(bX s c).1.length<=s.length/\(bX s c).2.1.length<=s.length:=by
 unfold bX;split
 ·simp; omega
 ·simp
def jrI (j:Str):Inv:=⟨RepoD × Nat,fun t=>⟨[(0,true,.str j),(2,true,.ptr 11 0),(3,true,.int .i64 0),(4,true,.ptr 12 0),(5,true,.int .i64 t.2)],
 [(11,lD),(12,.box 27 [.own 13 3 (ap t.1.commits),.own 14 2 (ah t.1.heads)]),(13,.own 87 3 true (ap t.1.commits)),(14,.own 89 2 true (ah t.1.heads))]⟩,Dv j,fun t=>j.length - t.2⟩
def jD:Con:={ (Con.fn 71 Str (fun j=>[.str j]) (fun j=>j.length<=1073741824) (fun j=>.tup [.agg [.own 8 3 (ap (aE j).1.commits),.own 9 2 (ah (aE j).1.heads)],.int .i64 (aE j).2]) (fun j=>iO 8 (aE j).1.commits++gB 9 (aE j).1.heads)) with need:=ew }
theorem nT:Has Tryz.prog 27 jD:=by
 refine ag mixed bn (HasL.cons G0 (HasL.cons Ny (HasL.cons Dw (HasL.cons xD (HasL.cons D1 HasL.nil))))) [0,2,3,4,5,6,8,10,12,13,14,15] ((fun a n (_:Nat)=>(fun j _=>jrI j) a n)) [12287] Tryz.func27 (by unfold Tryz.f27; rfl) (fun _=>⟨(),trivial⟩) ?_
 intro (j:Str) (hj:j.length<=1073741824);simp (maxSteps:=8000000) -implicitDefEqProofs [-kStep_move,-Bool.exists_bool,jD,sL,ut,pW,nw,pZ,Con.fn,aC,ae,jrI,bOp]
 try dsimp only
 have e0:1500 < j.length->aE j=(noR,0):=fun h=>if_pos h;have e1:¬ 1500 < j.length->eC j noR 0=aE j:=fun h=>(if_neg h).symm;refine fun _=>⟨fun h=>by rw [e0 (by omega)]; exact ⟨⟨⟨rfl,rfl⟩,rfl⟩,rfl,rfl⟩,fun hlen=>⟨⟨noR,0,⟨rfl,rfl,rfl⟩,Nat.zero_le _,rk,e1 (by omega)⟩,fun R b hI=>⟨hI.1,fun _=>?_⟩⟩⟩
 obtain ⟨hb,hR,hJ⟩:=hI;simp only at hb hR hJ;rw [mL hb,DZ j7 (DY yF)] at hJ;rw [List.take_of_length_le (by simp)]
 have hD:(j.drop b).length=j.length - b:=by simp
 have hk:=@xS (j.drop b);rw [DZ j7 (DY yF)] at hk;generalize j.drop b=E at *;have c1:=zP E 10;refine ⟨E,10,⟨rfl,rfl⟩,by omega,(bX E 10).1,32,⟨rfl,rfl⟩,by omega,?_⟩
 have hs:rE bQ E=if (bX E 10).2.2=true/\(bN (rdI bQ) (bX (bX E 10).1 32).2.1).2=true/\br (au (bN (rdI bQ) (bX (bX E 10).1 32).2.1).1)=(bX E 10).1++[10] then some ((bN (rdI bQ) (bX (bX E 10).1 32).2.1).1,(bX E 10).1.length+1) else none:=rfl
 have c2:=zP (bX E 10).1 32;generalize (bX E 10).1=x at *;generalize (bX E 10).2.2=f at *;generalize (bX x 32).2.1=q at *;have hml:maxLen=9223372036854775807:=rfl;refine ⟨by omega,fun h1 h2=>⟨⟨h1,h2⟩,(nP h2).1⟩,fun h1 h2=>⟨⟨h1,h2⟩,by omega⟩,fun _=>⟨?_,fun _=>⟨fun hn=>?_,fun h1 h2 h3=>?_⟩⟩⟩
 ·cases f <;> cases (bN (rdI bQ) q).2 <;> simp
 ·rw [hs,if_neg (fun z=>hn.elim (fun h=>h.elim (fun h=>by rw [z.1] at h; cases h) (fun h=>by rw [z.2.1] at h; cases h)) (fun h=>h z.2.2))] at hJ
  rw [<- hJ]; exact ⟨⟨⟨rfl,rfl⟩,rfl⟩,rfl,rfl⟩
 ·rw [if_pos ⟨h1,h2,h3⟩] at hs;rw [hs] at hJ;have kk:=hk hs;obtain ⟨go,_⟩:=nP h2;generalize (bN (rdI bQ) q).1=o at *;simp only at hJ;have hI:aF R=true:=by rw [cu]; exact hR.1
  have d:dB R o=aM R o:=by unfold dB; rw [if_pos hR.1,if_pos go]
  refine ⟨R,o,⟨⟨rfl,rfl⟩,rfl,rfl,rfl,rfl,rfl,rfl,rfl⟩,⟨(eO hI).2,CF go⟩,?_⟩;rw [d];refine ⟨fun w=>?_,fun w _=>⟨⟨by omega,by omega⟩,fun _ _=>⟨⟨by omega,by omega⟩,fun _ _=>⟨(aM R o).1,b+(x.length+1),⟨by omega,⟨rfl,rfl⟩,rfl,rfl⟩,⟨by simp only; omega,qo hR,?_⟩,by omega⟩⟩⟩⟩
  ·rw [if_neg (by simp -implicitDefEqProofs [w])] at hJ
   rw [<- hJ]; exact ⟨⟨⟨rfl,rfl⟩,rfl⟩,rfl,rfl⟩
  ·rw [if_pos w] at hJ; exact hJ
def iE (a:Str × OpD):Prop:=a.1.length<=1073741000/\eA a.2
def ni:Con:=.fn 52 (Str × OpD) (fun a=>[.str a.1,vOp a.2]) iE (fun a=>.tup [.str (cy a.1 a.2).1,.bool (cy a.1 a.2).2]) (fun _=>[])
theorem wh:Has Tryz.prog 20 ni:=by
 refine ag mixed bn (HasL.cons wi (HasL.cons Bq (HasL.cons wy (HasL.cons wC (HasL.cons BA (HasL.cons wD HasL.nil)))))) [0,1,3,4,5,6,7,9,10] ((fun a n (_:Nat)=>(fun _=>an) a n)) [] Tryz.func20 (by unfold Tryz.f20; rfl) (fun _=>⟨(),trivial⟩) ?_
 intro a ha;obtain ⟨j,o⟩:=a;obtain ⟨h1,h2⟩:j.length<=1073741000/\eA o:=ha;simp (maxSteps:=8000000) -implicitDefEqProofs [-kStep_move,-kStepC_move,-Bool.exists_bool,ni,lJ,pG,nj,nk,pK,nl,Con.fn,aC,ae,bOp]
 try dsimp only
 have hs:=(mj j).1;have hR:=nU j;have hml:maxLen=9223372036854775807:=rfl;have yes:((aE j).2=j.length/\j.length<=1500/\opB o=true/\eF (aM (aE j).1 o).2=true/\(j++br (au o)).length<=1500)->cy j o=(j++br (au o),true):=fun h=>if_pos h;have no:¬ ((aE j).2=j.length/\j.length<=1500/\opB o=true/\eF (aM (aE j).1 o).2=true/\(j++br (au o)).length<=1500)->cy j o=(j,false):=fun h=>if_neg h;rw [List.length_append] at yes no;refine ⟨by omega,fun _ _=>⟨fun a b=>⟨⟨a,b⟩,h2.2.2⟩,by omega,fun _=>⟨fun hn=>?_,fun q1 q2 q3=>?_⟩⟩⟩
 ·rw [no fun z=>hn.elim (fun h=>by omega) (fun h=>by rw [z.2.2.1] at h; cases h)]; exact ⟨rfl,rfl⟩
 ·have l1:=xw q3;have l2:=@xz (au o);refine ⟨(aE j).1,o,⟨⟨rfl,rfl⟩,rfl,rfl,rfl,rfl,rfl,rfl,rfl⟩,⟨hR.1,h2⟩,mK q3,by omega,by omega,fun _ _=>⟨fun hn=>?_,fun w hl=>?_⟩⟩
  ·rw [no fun z=>hn.elim (fun h=>by rw [z.2.2.2.1] at h; cases h) (fun h=>by omega)]; exact ⟨rfl,rfl⟩
  ·rw [yes ⟨by omega,by omega,q3,w,by omega⟩]; exact ⟨rfl,rfl⟩
def lI:Con:={ (Con.fn 45 (Str × OpD) (fun a=>[.str a.1,vOp a.2]) iE (fun a=>.tup [.str (cy a.1 a.2).1,.bool (cy a.1 a.2).2]) (fun _=>[])) with need:=ew }
theorem qE:Has Tryz.prog 22 lI:=by
 refine ag mixed bn (HasL.cons nT (HasL.cons xg (HasL.cons xD (HasL.cons Dw (HasL.cons D1 HasL.nil))))) [0,1,3,4,5,6,7,9,10] ((fun a n (_:Nat)=>(fun _=>an) a n)) [] Tryz.func22 (by unfold Tryz.f22; rfl) (fun _=>⟨(),trivial⟩) ?_
 intro a ha;obtain ⟨j,o⟩:=a;obtain ⟨h1,h2⟩:j.length<=1073741000/\eA o:=ha;simp (maxSteps:=8000000) -implicitDefEqProofs [-kStep_move,-kStepC_move,-Bool.exists_bool,lI,jD,nv,nw,pW,pZ,Con.fn,aC,ae,bOp]
 try dsimp only
 have hs:=(mj j).1;have hR:=nU j;have hml:maxLen=9223372036854775807:=rfl;have yes:((aE j).2=j.length/\j.length<=1500/\opB o=true/\eF (aM (aE j).1 o).2=true/\(j++br (au o)).length<=1500)->cy j o=(j++br (au o),true):=fun h=>if_pos h;have no:¬ ((aE j).2=j.length/\j.length<=1500/\opB o=true/\eF (aM (aE j).1 o).2=true/\(j++br (au o)).length<=1500)->cy j o=(j,false):=fun h=>if_neg h;rw [List.length_append] at yes no;refine ⟨by omega,fun _=>⟨fun a=>⟨a,h2⟩,fun hn=>?_,fun q1 q3=>?_⟩⟩
 ·rw [no fun z=>hn.elim (fun h=>by omega) (fun h=>by rw [z.2.2.1] at h; cases h)]; exact ⟨rfl,rfl⟩
 ·have l1:=xw q3;have l2:=@xz (au o);have hI:aF (aE j).1=true:=by rw [cu]; exact hR.1
  have d:dB (aE j).1 o=aM (aE j).1 o:=by unfold dB; rw [if_pos hR.1,if_pos q3]
  refine ⟨(aE j).1,o,⟨⟨rfl,rfl⟩,rfl,rfl,rfl,rfl,rfl,rfl,rfl⟩,⟨(eO hI).2,h2⟩,q3,by omega,?_⟩
  rw [d];refine fun _ _=>⟨fun w hl=>?_,fun hn=>?_⟩
  ·rw [yes ⟨by omega,by omega,q3,w,by omega⟩]; exact ⟨rfl,rfl⟩
  ·rw [no fun z=>by have:=hn z.2.2.2.1; omega]; exact ⟨rfl,rfl⟩
def pD:Con:=.fn 36 (Str × OpD × Int) (fun a=>[.str a.1,vOp a.2.1,.int .i64 a.2.2]) (fun a=>iE (a.1,a.2.1)) (fun a=>.str (eD a.1 a.2.1 a.2.2)) (fun _=>[])
theorem A8:Has Tryz.prog 24 pD:=by
 refine ag mixed bn (HasL.cons wh HasL.nil) [0,1,2,4,6,7,8] ((fun a n (_:Nat)=>(fun _=>an) a n)) [] Tryz.func24 (by unfold Tryz.f24; rfl) (fun _=>⟨(),trivial⟩) ?_
 intro a ha;obtain ⟨j,o,b⟩:=a;have hp:iE (j,o):=ha;obtain ⟨h1,h2⟩:j.length<=1073741000/\eA o:=ha;simp (maxSteps:=8000000) -implicitDefEqProofs [-kStep_move,-kStepC_move,-Bool.exists_bool,pD,ni,Con.fn,aC,ae,bOp]
 try dsimp only
 refine ⟨j,o,⟨rfl,rfl,rfl,rfl,rfl,rfl,rfl,rfl⟩,hp,?_⟩;unfold eD;cases hy:(cy j o).2 with
 | false=>simp
 | true =>
  obtain ⟨e,_,_,_,_,e2⟩:=lx hy;rw [e,List.length_append] at *;simp only [if_true];refine ⟨fun hn=>?_,fun _ h0 _ _=>⟨⟨by omega,by omega⟩,fun _ _=>⟨fun hlt=>?_,fun hle _=>⟨⟨by omega,by omega⟩,fun _ _=>⟨⟨by omega,by omega⟩,fun _ _=>?_⟩⟩⟩⟩⟩
  ·have hb:b < 0:=hn.elim (fun h=>by cases h) id
   rw [show (min (max 0 b) ((j.length+(br (au o)).length - j.length:Nat):Int)).toNat=0 by omega,Nat.add_zero,List.take_left]
  ·rw [List.take_of_length_le (by rw [List.length_append]; omega)]
  ·congr 1
   omega
def pC:Con:={ (Con.fn 31 (Str × OpD × Int) (fun a=>[.str a.1,vOp a.2.1,.int .i64 a.2.2]) (fun a=>iE (a.1,a.2.1)) (fun a=>.str (eD a.1 a.2.1 a.2.2)) (fun _=>[])) with need:=ew }
theorem A7:Has Tryz.prog 25 pC:=by
 refine ag mixed bn (HasL.cons qE HasL.nil) [0,1,2,4,6,7,8] ((fun a n (_:Nat)=>(fun _=>an) a n)) [] Tryz.func25 (by unfold Tryz.f25; rfl) (fun _=>⟨(),trivial⟩) ?_
 intro a ha;obtain ⟨j,o,b⟩:=a;have hp:iE (j,o):=ha;obtain ⟨h1,h2⟩:j.length<=1073741000/\eA o:=ha;simp (maxSteps:=8000000) -implicitDefEqProofs [-kStep_move,-kStepC_move,-Bool.exists_bool,pC,lI,Con.fn,aC,ae,bOp]
 try dsimp only
 refine ⟨j,o,⟨rfl,rfl,rfl,rfl,rfl,rfl,rfl,rfl⟩,hp,?_⟩;unfold eD;cases hy:(cy j o).2 with
 | false=>simp
 | true =>
  obtain ⟨e,_,_,_,_,e2⟩:=lx hy;rw [e,List.length_append] at *;simp only [if_true];have hq:(if (((j.length+(br (au o)).length:Nat):Int) - j.length < if 0 < b then b else 0) then (((j.length+(br (au o)).length:Nat):Int) - j.length) else if 0 < b then b else 0)=min (max 0 b) ((br (au o)).length:Int):=by
   repeat' split
   all_goals omega
  rw [hq];refine ⟨fun hn=>(by simp at hn),fun _ _ _ _=>⟨⟨by omega,by omega⟩,fun _ _=>⟨⟨by omega,by omega⟩,fun _ _=>⟨⟨by omega,by omega⟩,fun _ _=>?_⟩⟩⟩⟩
  congr 1
  omega
--TAB aC
def dx (n:Nat) (k:Int):List Int:=(List.range n).map fun i:Nat=>k+(i:Int)
theorem iJ (n:Nat) (k:Int):(dx n k).length=n:=by simp -implicitDefEqProofs [dx]
def fo (a:List Int) (k:Int) (i:Nat):List Int:=(dx a.length k).take i++a.drop i
theorem Mv {a:List Int} {k:Int} {i:Nat} (h:i<=a.length):(fo a k i).length=a.length:=by simp -implicitDefEqProofs [fo,iJ]; omega
theorem Mx (a:List Int) (k:Int):fo a k 0=a:=by simp -implicitDefEqProofs [fo]
theorem Mu {a:List Int} {k:Int} {i:Nat} (h:a.length<=i):fo a k i=dx a.length k:=by
 unfold fo;rw [List.take_of_length_le (by rw [iJ]; exact h),List.drop_eq_nil_of_le h,List.append_nil]
theorem Mw {a:List Int} {k:Int} {i:Nat} (h:i < a.length):(fo a k i).set i (k+i)=fo a k (i+1):=by
 unfold fo;have h1:((dx a.length k).take i).length=i:=by rw [List.length_take,iJ]; omega
 rw [List.set_append_right _ _ (by omega),h1,Nat.sub_self,List.drop_eq_getElem_cons h,List.set_cons_zero]
 rw [bg (l:=dx a.length k) (i:=i) (by rw [iJ]; exact h)]
 simp -implicitDefEqProofs [dx]
def ug:Con:={ A:=List Int × Int,X:=Unit,n:=19,args:=fun a=>[.own 0 1 (aj a.1),.int .i64 a.2],boxes:=fun _=>[],pre:=fun a=>0<=a.2/\a.2+a.1.length<=4611686018427387904,post:=fun _ _=>True,res:=fun a _=>.int .i64 (a.2+a.1.length),fin:=fun a _=>[(0,.own 3 1 true (aj (dx a.1.length a.2)))],owns:=fun a=>[(0,3,1,aj a.1)],lends:=[0],mv:=true,sube:=3 }
theorem MF:Has Tryz.prog 95 ug:=by
 refine ag mixed ak HasL.nil [0,1,4,5] ((fun a n (_:Nat)=>(fun a _=>⟨Nat,fun i=>⟨[(0,true,.own 0 1 (aj (fo a.1 a.2 i))),(1,true,.int .i64 (a.2+i)),(4,true,.int .i64 0),(5,true,.int .i64 i)],[(0,.own 3 1 true (aj (fo a.1 a.2 i)))]⟩,fun i=>i<=a.1.length,fun i=>a.1.length - i⟩) a n)) [] Tryz.func95 (by unfold Tryz.f95; rfl) (fun _=>⟨(),trivial⟩) ?_
 intro a ha;obtain ⟨l,k⟩:=a;obtain ⟨q1,q2⟩:0<=k/\k+l.length<=4611686018427387904:=ha;have e1:=fun i=>@Mv l k i;have e2:=fun i=>@Mw l k i;have e3:=Mx l k;have e4:=fun i=>@Mu l k i;simp -implicitDefEqProofs [ug,Con.fn,ae]
 try dsimp only
 refine ⟨⟨0,⟨⟨e3,by omega,rfl⟩,e3.symm⟩,Nat.zero_le _⟩,fun i hi _=>⟨fun hlt=>⟨hlt,fun _=>⟨hlt,⟨by omega,by omega⟩,fun _ _=>⟨⟨by omega,by omega⟩,fun _ _=>?_⟩⟩⟩,fun hge=>?_⟩⟩
 ·rw [e1 i hi] at hlt;have h:=e2 i hlt;have hs:(aj (fo l k i)).set i [D.int .i64 (k+i)]=aj (fo l k (i+1)):=by rw [qp,h]
  exact ⟨i+1,⟨⟨hs.symm,by omega,by omega⟩,hs⟩,by omega,by omega⟩
 ·rw [e1 i hi] at hge;exact ⟨by omega,e4 i hge⟩
def mf (a:List Int) (k:Int):Int:=if a=dx a.length k then k+a.length else -1
def th:Con:=.fn 21 (List Int × Int) (fun a=>[.sl true 1 (aj a.1),.int .i64 a.2]) (fun a=>0<=a.2/\a.2+a.1.length<=4611686018427387904) (fun a=>.int .i64 (mf a.1 a.2)) (fun _=>[])
theorem I2:Has Tryz.prog 97 th:=by
 refine ag mixed ak HasL.nil [0,1,4,5] ((fun a n (_:Nat)=>(fun a _=>⟨Nat,fun i=>⟨[(0,true,.sl true 1 (aj a.1)),(1,true,.int .i64 (a.2+i)),(4,true,.int .i64 0),(5,true,.int .i64 i)],[]⟩,fun i=>i<=a.1.length/\a.1.take i=(dx a.1.length a.2).take i,fun i=>a.1.length - i⟩) a n)) [] Tryz.func97 (by unfold Tryz.f97; rfl) (fun _=>⟨(),trivial⟩) ?_
 intro a ha;obtain ⟨l,k⟩:=a;obtain ⟨q1,q2⟩:0<=k/\k+l.length<=4611686018427387904:=ha;simp -implicitDefEqProofs [th,Con.fn,ae]
 try dsimp only
 have hg:∀ i (h:i < l.length),(dx l.length k)[i]'(by rw [iJ]; exact h)=k+i:=fun i h=>by simp -implicitDefEqProofs [dx]
 refine ⟨⟨0,⟨by omega,rfl⟩,Nat.zero_le _,by simp⟩,fun i hi hp _=>⟨fun hlt=>⟨hlt,fun _=>⟨by simp -implicitDefEqProofs [hlt,aq],fun _ _=>⟨fun hne=>?_,fun he=>⟨⟨by omega,by omega⟩,fun _ _=>⟨⟨by omega,by omega⟩,fun _ _=>⟨i+1,⟨by omega,by omega⟩,⟨by omega,?_⟩,by omega⟩⟩⟩⟩⟩⟩,fun hge=>?_⟩⟩
 ·have hne':¬ l[i]=k+i:=by simpa [hlt,aq] using hne
  unfold mf;rw [if_neg];intro e;have h2:=hg i hlt;apply hne';have:l[i]? = (dx l.length k)[i]?:=by rw [<- e]
  rw [List.getElem?_eq_getElem hlt,List.getElem?_eq_getElem (by rw [iJ]; exact hlt),h2] at this
  exact Option.some.inj this
 ·have he':l[i]=k+i:=by simpa [hlt,aq] using he
  rw [bg hlt,bg (l:=dx l.length k) (by rw [iJ]; exact hlt),hp,hg i hlt,he']
 ·rw [List.take_of_length_le hge,List.take_of_length_le (by rw [iJ]; exact hge)] at hp
  unfold mf;rw [if_pos hp]; omega
def mkC (c:CommitD) (k:Int):CommitD:=⟨dx c.parents.length k,cH (k+c.parents.length),bU c.tree (k+c.parents.length+1)⟩
def kC (c:CommitD) (k:Int):Int:=kE c.tree (k+c.parents.length+1)
def kCs:List CommitD->Int->Int
 | [],k=>k
 | c :: l,k=>kCs l (kC c k)
def cP:List CommitD->Int->List CommitD
 | [],_=>[]
 | c :: l,k=>mkC c k :: cP l (kC c k)
theorem iI:∀ (l:List CommitD) (k:Int),(cP l k).length=l.length
 | [],_=>rfl
 | c :: l,k=>by simp -implicitDefEqProofs [cP,iI l]
theorem wq:∀ (l:List CommitD) (c:CommitD) (k:Int),kCs (l++[c]) k=kC c (kCs l k)
 | [],_,_=>rfl
 | d :: l,c,k=>by simp only [List.cons_append,kCs]; exact wq l c _
theorem rf:∀ (l:List CommitD) (k:Int) (i:Nat) (h:i < l.length),(cP l k)[i]'(by rw [iI]; exact h)=mkC l[i] (kCs (l.take i) k)
 | [],_,i,h=>by simp at h
 | c :: l,k,0,_=>rfl
 | c :: l,k,i+1,h=>by
  simp only [cP,List.getElem_cons_succ,List.take_succ_cons,kCs];exact rf l _ i (by simpa using h)
theorem wn {c:CommitD} {k:Int}:k+c.parents.length+1<=kC c k:=by
 have:=(wr (t:=c.tree) (k:=k+c.parents.length+1) c.tree.length).1;rw [List.take_length] at this;exact this
theorem kM:∀ (l:List CommitD) (k:Int),k<=kCs l k
 | [],_=>Int.le_refl _
 | c :: l,k=>by
  have h1:=wn (c:=c) (k:=k);have h2:=kM l (kC c k);simp only [kCs]; omega
theorem Bc (l:List CommitD) (k:Int) (i:Nat):kCs (l.take i) k<=kCs l k:=by
 have:∀ (a b:List CommitD) (k:Int),kCs (a++b) k=kCs b (kCs a k):=by
  intro a
  induction a with
  | nil=>intro b k; rfl
  | cons c a ih=>intro b k; simp only [List.cons_append,kCs]; exact ih b _
 conv=>rhs; rw [<- List.take_append_drop i l]
 rw [this];exact kM _ _
def ev (a:List CommitD) (k:Int) (i:Nat):List CommitD:=(cP a k).take i++a.drop i
theorem L0 {a:List CommitD} {k:Int} {i:Nat} (h:i<=a.length):(ev a k i).length=a.length:=by simp -implicitDefEqProofs [ev,iI]; omega
theorem L4 (a:List CommitD) (k:Int):ev a k 0=a:=by simp -implicitDefEqProofs [ev]
theorem LY {a:List CommitD} {k:Int} {i:Nat} (h:a.length<=i):ev a k i=cP a k:=by
 unfold ev;rw [List.take_of_length_le (by rw [iI]; exact h),List.drop_eq_nil_of_le h,List.append_nil]
theorem LZ {a:List CommitD} {k:Int} {i:Nat} (h:i < a.length):(ev a k i)[i]? = some a[i]:=by
 unfold ev;rw [List.getElem?_append_right (by simp; omega),List.length_take,iI,Nat.min_eq_left (by omega),Nat.sub_self,List.getElem?_drop]
 simp -implicitDefEqProofs [h]
theorem L3 {a:List CommitD} {k:Int} {i:Nat} (h:i < a.length):(ev a k i).set i (mkC a[i] (kCs (a.take i) k))=ev a k (i+1):=by
 unfold ev;have h1:((cP a k).take i).length=i:=by rw [List.length_take,iI]; omega
 rw [List.set_append_right _ _ (by omega),h1,Nat.sub_self,List.drop_eq_getElem_cons h,List.set_cons_zero]
 rw [bg (l:=cP a k) (i:=i) (by rw [iI]; exact h),rf a k i h]
 simp
def ud:Con:={ A:=List CommitD × Int,X:=Unit,n:=35,args:=fun a=>[.own 0 3 (ap a.1),.int .i64 a.2],boxes:=fun _=>[],pre:=fun a=>0<=a.2/\kCs a.1 a.2<=1152921504606846976,post:=fun _ _=>True,res:=fun a _=>.int .i64 (kCs a.1 a.2),fin:=fun a _=>[(0,.own 87 3 true (ap (cP a.1 a.2)))],owns:=fun a=>[(0,87,3,ap a.1)],lends:=[0],mv:=true,sube:=87 }
theorem MA:Has Tryz.prog 40 ud:=by
 refine ag mixed ak (HasL.cons MF (HasL.cons jR (HasL.cons MB HasL.nil))) [0,1,4,5] ((fun a n (_:Nat)=>(fun a _=>⟨Nat,fun i=>⟨[(0,true,.own 0 3 (ap (ev a.1 a.2 i))),(1,true,.int .i64 (kCs (a.1.take i) a.2)),(4,true,.int .i64 0),(5,true,.int .i64 i)],[(0,.own 87 3 true (ap (ev a.1 a.2 i)))]⟩,fun i=>i<=a.1.length,fun i=>a.1.length - i⟩) a n)) [] Tryz.func40 (by unfold Tryz.f40; rfl) (fun _=>⟨(),trivial⟩) ?_
 intro a ha;obtain ⟨l,k⟩:=a;obtain ⟨q1,q2⟩:0<=k/\kCs l k<=1152921504606846976:=ha;have e1:=fun i=>@L0 l k i;have e3:=L4 l k;simp -implicitDefEqProofs [ud,Con.fn,ae,ug,iw,ue]
 try dsimp only
 refine ⟨⟨0,⟨⟨e3,rfl,rfl⟩,e3.symm⟩,Nat.zero_le _⟩,fun t ht hbig=>⟨fun hlt=>?_,fun hge=>?_⟩⟩
 ·rw [e1 t ht] at hlt;have g:=LZ (k:=k) hlt;have hl:=e1 t ht;have g2:(ev l k t)[t]'(by omega)=l[t]:=by rw [List.getElem?_eq_getElem (by omega)] at g; exact Option.some.inj g
  have hst:=L3 (k:=k) hlt;have hsn:kCs (l.take (t+1)) k=kC l[t] (kCs (l.take t) k):=by rw [bg hlt,wq]
  have hsp:=Bc l k (t+1);rw [hsn] at hsp;have hge1:=kM (l.take t) k;have hkc:=wn (c:=l[t]) (k:=kCs (l.take t) k);generalize kCs (l.take t) k=b at *;simp -implicitDefEqProofs [g,g2,hl,hlt,bm,D.asRows,and_assoc];have hse:(ap (ev l k t)).set t [D.sl 3 1 (aj (dx l[t].parents.length b)),D.str (cH (b+l[t].parents.length)),D.sl 99 2 (ac (bU l[t].tree (b+l[t].parents.length+1)))]=ap (ev l k (t+1)):=by rw [<- hst]; unfold ap; rw [List.map_set]; rfl
  have hkE:kC l[t] b=kE l[t].tree (b+l[t].parents.length+1):=rfl;rw [hkE] at hsp hsn hkc;refine ⟨by omega,by omega,by omega,by omega,fun _ _=>⟨by omega,by omega,by omega,by omega,fun _ _=>⟨t+1,hse.symm,hsn,by omega,hse,by omega,by omega⟩⟩⟩
 ·have hge':l.length<=t:=by rw [e1 t ht] at hge; omega
  rw [List.take_of_length_le hge',LY hge'];simp
def dw (n:Nat) (k:Int):List HeadD:=(List.range n).map fun i:Nat=>⟨cH (k+2 * i),k+2 * i+1⟩
theorem gX (n:Nat) (k:Int):(dw n k).length=n:=by simp -implicitDefEqProofs [dw]
theorem w8 {n:Nat} {k:Int} {i:Nat} (h:i < n):(dw n k)[i]'(by rw [gX]; exact h)=⟨cH (k+2 * i),k+2 * i+1⟩:=by simp -implicitDefEqProofs [dw]
def mHA (a:List HeadD) (k:Int) (i:Nat):List HeadD:=(dw a.length k).take i++a.drop i
theorem Mr {a:List HeadD} {k:Int} {i:Nat} (h:i<=a.length):(mHA a k i).length=a.length:=by simp -implicitDefEqProofs [mHA,gX]; omega
theorem Mt (a:List HeadD) (k:Int):mHA a k 0=a:=by simp -implicitDefEqProofs [mHA]
theorem Mp {a:List HeadD} {k:Int} {i:Nat} (h:a.length<=i):mHA a k i=dw a.length k:=by
 unfold mHA;rw [List.take_of_length_le (by rw [gX]; exact h),List.drop_eq_nil_of_le h,List.append_nil]
theorem Mq {a:List HeadD} {k:Int} {i:Nat} (h:i < a.length):(mHA a k i)[i]? = some a[i]:=by
 unfold mHA;rw [List.getElem?_append_right (by simp; omega),List.length_take,gX,Nat.min_eq_left (by omega),Nat.sub_self,List.getElem?_drop]
 simp -implicitDefEqProofs [h]
theorem Ms {a:List HeadD} {k:Int} {i:Nat} (h:i < a.length):(mHA a k i).set i ⟨cH (k+2 * i),k+2 * i+1⟩=mHA a k (i+1):=by
 unfold mHA;have h1:((dw a.length k).take i).length=i:=by rw [List.length_take,gX]; omega
 rw [List.set_append_right _ _ (by omega),h1,Nat.sub_self,List.drop_eq_getElem_cons h,List.set_cons_zero]
 rw [bg (l:=dw a.length k) (i:=i) (by rw [gX]; exact h),w8 h]
 simp
def uf:Con:={ A:=List HeadD × Int,X:=Unit,n:=28,args:=fun a=>[.own 0 2 (ah a.1),.int .i64 a.2],boxes:=fun _=>[],pre:=fun a=>0<=a.2/\a.2+2 * a.1.length<=4611686018427387904,post:=fun _ _=>True,res:=fun a _=>.int .i64 (a.2+2 * a.1.length),fin:=fun a _=>[(0,.own 89 2 true (ah (dw a.1.length a.2)))],owns:=fun a=>[(0,89,2,ah a.1)],lends:=[0],mv:=true,sube:=89 }
theorem ME:Has Tryz.prog 41 uf:=by
 refine ag mixed ak (HasL.cons jR HasL.nil) [0,1,4,5] ((fun a n (_:Nat)=>(fun a _=>⟨Nat,fun i=>⟨[(0,true,.own 0 2 (ah (mHA a.1 a.2 i))),(1,true,.int .i64 (a.2+2 * i)),(4,true,.int .i64 0),(5,true,.int .i64 i)],[(0,.own 89 2 true (ah (mHA a.1 a.2 i)))]⟩,fun i=>i<=a.1.length,fun i=>a.1.length - i⟩) a n)) [] Tryz.func41 (by unfold Tryz.f41; rfl) (fun _=>⟨(),trivial⟩) ?_
 intro a ha;obtain ⟨l,k⟩:=a;obtain ⟨q1,q2⟩:0<=k/\k+2 * l.length<=4611686018427387904:=ha;have e1:=fun i=>@Mr l k i;have e3:=Mt l k;simp -implicitDefEqProofs [uf,Con.fn,ae,iw]
 try dsimp only
 refine ⟨⟨0,⟨⟨e3,by omega,rfl⟩,e3.symm⟩,Nat.zero_le _⟩,fun t ht hbig=>⟨fun hlt=>?_,fun hge=>?_⟩⟩
 ·rw [e1 t ht] at hlt;have g:=Mq (k:=k) hlt;have hl:=e1 t ht;have g2:(mHA l k t)[t]'(by omega)=l[t]:=by rw [List.getElem?_eq_getElem (by omega)] at g; exact Option.some.inj g
  have hst:=Ms (k:=k) hlt;simp -implicitDefEqProofs [g,g2,hl,hlt,bw,D.asRows,and_assoc];have hse:(ah (mHA l k t)).set t [D.str (cH (k+2 * t)),D.int .i64 (k+2 * t+1)]=ah (mHA l k (t+1)):=by rw [<- hst,lX]
  exact ⟨by omega,by omega,by omega,fun _ _=>⟨by omega,by omega,fun _ _=>⟨by omega,by omega,fun _ _=>⟨t+1,hse.symm,by omega,by omega,hse,by omega,by omega⟩⟩⟩⟩
 ·have hge':l.length<=t:=by rw [e1 t ht] at hge; omega
  rw [Mp hge'];simp; omega
def iD (a:List HeadD) (k:Int):Int:=if a=dw a.length k then k+2 * a.length else -1
theorem I1 (n:Nat) (k:Int):iD (dw n k) k=k+2 * n:=by
 unfold iD;rw [gX,if_pos rfl]
theorem IY {l:List HeadD} {k:Int} {i:Nat} (h:i < l.length) (h2:l[i].name ≠ cH (k+2 * i) \/ l[i].at_ ≠ k+2 * i+1):iD l k = -1:=by
 unfold iD;rw [if_neg];intro h3;have:l[i]? = (dw l.length k)[i]?:=by rw [<- h3]
 rw [List.getElem?_eq_getElem h,List.getElem?_eq_getElem (by rw [gX]; exact h),w8 h] at this
 have:=Option.some.inj this;rcases h2 with h2 | h2
 ·exact h2 (congrArg HeadD.name this)
 ·exact h2 (congrArg HeadD.at_ this)
theorem IZ {l:List HeadD} {k:Int} {i:Nat} (h:i < l.length) (h1:l.take i=(dw l.length k).take i) (h2:l[i].name=cH (k+2 * i)) (h3:l[i].at_=k+2 * i+1):l.take (i+1)=(dw l.length k).take (i+1):=by rw [bg h,bg (by rw [gX]; exact h),w8 h,<- h1,<- h2,<- h3]
theorem IX {l:List HeadD} {k:Int} {i:Nat} (h:l.length<=i) (h1:l.take i=(dw l.length k).take i):iD l k=k+2 * l.length:=by
 rw [List.take_of_length_le h,List.take_of_length_le (by rw [gX]; exact h)] at h1
 unfold iD;rw [if_pos h1]
def tg:Con:=.fn 32 (List HeadD × Int) (fun a=>[.sl true 2 (ah a.1),.int .i64 a.2]) (fun a=>0<=a.2/\a.2+2 * a.1.length<=4611686018427387904) (fun a=>.int .i64 (iD a.1 a.2)) (fun _=>[])
theorem I0:Has Tryz.prog 43 tg:=by
 refine ag mixed ak (HasL.cons jR HasL.nil) [0,1,4,5] ((fun a n (_:Nat)=>(fun a _=>⟨Nat,fun i=>⟨[(0,true,.sl true 2 (ah a.1)),(1,true,.int .i64 (a.2+2 * i)),(4,true,.int .i64 0),(5,true,.int .i64 i)],[]⟩,fun i=>i<=a.1.length/\a.1.take i=(dw a.1.length a.2).take i,fun i=>a.1.length - i⟩) a n)) [] Tryz.func43 (by unfold Tryz.f43; rfl) (fun _=>⟨(),trivial⟩) ?_
 intro a ha;obtain ⟨l,k⟩:=a;obtain ⟨q1,q2⟩:0<=k/\k+2 * l.length<=4611686018427387904:=ha;have e1:=fun i=>@IY l k i;have e2:=fun i=>@IZ l k i;have e3:=fun i=>@IX l k i;simp -implicitDefEqProofs [tg,Con.fn,ae,iw]
 try dsimp only
 refine ⟨⟨0,by simp⟩,fun i hi hp _=>⟨fun hlt=>?_,fun hge=>?_⟩⟩
 ·simp -implicitDefEqProofs [hlt,bw,D.asStr,and_assoc];exact ⟨by omega,fun h=>e1 i hlt (.inl h),fun h1=>⟨by omega,by omega,fun _ _=>⟨fun h=>e1 i hlt (.inr h),fun h2=>⟨by omega,by omega,fun _ _=>⟨by omega,by omega,fun _ _=>⟨i+1,by omega,by omega,by omega,e2 i hlt hp h1 h2,by omega⟩⟩⟩⟩⟩⟩
 ·have:=e3 i hge hp;omega
def pR:Con:={ A:=RepoD × Int,X:=Unit,n:=14,args:=fun a=>[.agg [.own 0 3 (ap a.1.commits),.own 1 2 (ah a.1.heads)],.int .i64 a.2],boxes:=fun _=>[],pre:=fun a=>0<=a.2/\kCs a.1.commits a.2+2 * a.1.heads.length<=1152921504606846976,post:=fun _ _=>True,res:=fun a _=>.int .i64 (kCs a.1.commits a.2+2 * a.1.heads.length),fin:=fun a _=>[(0,.own 87 3 true (ap (cP a.1.commits a.2))),(1,.own 89 2 true (ah (dw a.1.heads.length (kCs a.1.commits a.2))))],owns:=fun a=>[(0,87,3,ap a.1.commits),(1,89,2,ah a.1.heads)],lends:=[0,1],mv:=true,sube:=87 }
theorem MG:Has Tryz.prog 17 pR:=by
 refine ag mixed ak (HasL.cons MA (HasL.cons ME HasL.nil)) [0,1,2,4] ((fun a n (_:Nat)=>(fun _=>an) a n)) [] Tryz.func17 (by unfold Tryz.f17; rfl) (fun _=>⟨(),trivial⟩) ?_
 intro a ha;obtain ⟨r,k⟩:=a;obtain ⟨q1,q2⟩:0<=k/\kCs r.commits k+2 * r.heads.length<=1152921504606846976:=ha;simp -implicitDefEqProofs [pR,Con.fn,ae,ud,uf]
 try dsimp only
 exact ⟨_,_,⟨rfl,rfl⟩,rfl,⟨q1,by omega⟩,_,_,⟨rfl,rfl⟩,rfl,⟨by have:=kM r.commits k; omega,by omega⟩,rfl,rfl,rfl⟩
theorem MM (c:CommitD) (k:Int):mkC (mkC c k) k=mkC c k:=by
 unfold mkC;simp only [iJ,MC]
theorem JM (c:CommitD) (k:Int):kC (mkC c k) k=kC c k:=by
 unfold kC;have h1:(mkC c k).parents.length=c.parents.length:=by simp -implicitDefEqProofs [mkC,iJ]
 have h2:(mkC c k).tree=bU c.tree (k+c.parents.length+1):=rfl;rw [h1,h2,Bd]
theorem rg:∀ (l:List CommitD) (k:Int),cP (cP l k) k=cP l k/\kCs (cP l k) k=kCs l k
 | [],_=>⟨rfl,rfl⟩
 | c :: l,k=>by
  obtain ⟨h1,h2⟩:=rg l (kC c k);simp only [cP,kCs,MM,JM,h1,h2];exact ⟨trivial,trivial⟩
def eU (l:List CommitD) (k:Int):Int:=if l=cP l k then kCs l k else -1
theorem IQ (l:List CommitD) (k:Int):eU (cP l k) k=kCs l k:=by
 unfold eU;rw [(rg l k).1,if_pos rfl,(rg l k).2]
theorem IL {l:List CommitD} {k:Int} {i:Nat} (h:i < l.length) (h2:l[i].parents ≠ dx l[i].parents.length (kCs (l.take i) k) \/ l[i].who ≠ cH (kCs (l.take i) k+l[i].parents.length) \/ l[i].tree ≠ bU l[i].tree (kCs (l.take i) k+l[i].parents.length+1)):eU l k = -1:=by
 unfold eU;rw [if_neg];intro h3;have:l[i]? = (cP l k)[i]?:=by rw [<- h3]
 rw [List.getElem?_eq_getElem h,List.getElem?_eq_getElem (by rw [iI]; exact h),rf l k i h] at this
 have:=Option.some.inj this;rcases h2 with h2 | h2 | h2
 ·exact h2 (congrArg CommitD.parents this)
 ·exact h2 (congrArg CommitD.who this)
 ·exact h2 (congrArg CommitD.tree this)
theorem IM {l:List CommitD} {k:Int} {i:Nat} (h:i < l.length) (h1:l.take i=(cP l k).take i) (h2:l[i].parents=dx l[i].parents.length (kCs (l.take i) k)) (h3:l[i].who=cH (kCs (l.take i) k+l[i].parents.length)) (h4:l[i].tree=bU l[i].tree (kCs (l.take i) k+l[i].parents.length+1)):l.take (i+1)=(cP l k).take (i+1):=by
 have e:mkC l[i] (kCs (l.take i) k)=l[i]:=by
  unfold mkC;rw [<- h2,<- h3,<- h4]
 rw [bg h,bg (by rw [iI]; exact h),rf l k i h,<- h1,e]
theorem IK {l:List CommitD} {k:Int} {i:Nat} (h:l.length<=i) (h1:l.take i=(cP l k).take i):eU l k=kCs (l.take i) k:=by
 rw [List.take_of_length_le h,List.take_of_length_le (by rw [iI]; exact h)] at h1
 unfold eU;rw [if_pos h1,List.take_of_length_le h]
def tc:Con:=.fn 41 (List CommitD × Int) (fun a=>[.sl true 3 (ap a.1),.int .i64 a.2]) (fun a=>0<=a.2/\kCs a.1 a.2<=1152921504606846976) (fun a=>.int .i64 (eU a.1 a.2)) (fun _=>[])
theorem IO:Has Tryz.prog 42 tc:=by
 refine ag mixed ak (HasL.cons I2 (HasL.cons jR (HasL.cons IW HasL.nil))) [0,1,4,5] ((fun a n (_:Nat)=>(fun a _=>⟨Nat,fun i=>⟨[(0,true,.sl true 3 (ap a.1)),(1,true,.int .i64 (kCs (a.1.take i) a.2)),(4,true,.int .i64 0),(5,true,.int .i64 i)],[]⟩,fun i=>i<=a.1.length/\a.1.take i=(cP a.1 a.2).take i,fun i=>a.1.length - i⟩) a n)) [] Tryz.func42 (by unfold Tryz.f42; rfl) (fun _=>⟨(),trivial⟩) ?_
 intro a ha;obtain ⟨l,k⟩:=a;obtain ⟨q1,q2⟩:0<=k/\kCs l k<=1152921504606846976:=ha;have e1:=fun i=>@IL l k i;have e2:=fun i=>@IM l k i;have e3:=fun i=>@IK l k i;simp -implicitDefEqProofs [tc,Con.fn,ae,th,iw,td]
 try dsimp only
 refine ⟨⟨0,by simp -implicitDefEqProofs [kCs]⟩,fun i hi hpre _=>⟨fun hlt=>?_,fun hge=>e3 i hge hpre⟩⟩
 have hsn:kCs (l.take (i+1)) k=kC l[i] (kCs (l.take i) k):=by rw [bg hlt,wq]
 have hsp:=Bc l k (i+1);have hge1:=kM (l.take i) k;have hkc:=wn (c:=l[i]) (k:=kCs (l.take i) k);have m1:=e1 i hlt;have m2:=e2 i hlt hpre;rw [hsn] at hsp;have hkE:kC l[i] (kCs (l.take i) k)=kE l[i].tree (kCs (l.take i) k+l[i].parents.length+1):=rfl;rw [hkE] at hsp hsn hkc;clear e1 e2 e3 hkE;generalize hb:kCs (l.take i) k=b at *;simp -implicitDefEqProofs [hlt,bm,D.asStr,D.asRows,and_assoc];have hl:∀ a kk,mf a kk=if a=dx a.length kk then kk+a.length else -1:=fun _ _=>rfl
 have hf:∀ a kk,jN a kk=if a=bU a kk then kE a kk else -1:=fun _ _=>rfl
 by_cases hp:l[i].parents=dx l[i].parents.length b
 ·have g1:mf l[i].parents b=b+l[i].parents.length:=by rw [hl,if_pos hp]
  rw [g1];refine ⟨by omega,by omega,fun h=>by omega,fun _=>⟨by omega,fun h=>m1 (.inr (.inl h)),fun hw=>⟨by omega,by omega,fun _ _=>⟨by omega,by omega,?_⟩⟩⟩⟩
  by_cases ht:l[i].tree=bU l[i].tree (b+l[i].parents.length+1)
  ·have g2:jN l[i].tree (b+l[i].parents.length+1)=kE l[i].tree (b+l[i].parents.length+1):=by rw [hf,if_pos ht]
   rw [g2];exact ⟨fun h=>by omega,fun _=>⟨by omega,by omega,fun _ _=>⟨i+1,hsn,by omega,by omega,m2 hp hw ht,by omega⟩⟩⟩
  ·have g2:jN l[i].tree (b+l[i].parents.length+1) = -1:=by rw [hf,if_neg ht]
   rw [g2];exact ⟨fun _=>m1 (.inr (.inr ht)),fun h=>by omega⟩
 ·have g1:mf l[i].parents b = -1:=by rw [hl,if_neg hp]
  rw [g1];exact ⟨by omega,by omega,fun _=>m1 (.inl hp),fun h=>by omega⟩
def kK (r:RepoD) (k:Int):Int:=if eU r.commits k < 0 then -1 else if iD r.heads (eU r.commits k) < 0 then -1 else iD r.heads (eU r.commits k)
theorem IP (l:List CommitD) (k:Int):eU l k<=kCs l k \/ eU l k = -1:=by unfold eU; split <;> omega
def px:Con:=.fn 18 (RepoD × Int) (fun a=>[bF a.1,.int .i64 a.2]) (fun a=>0<=a.2/\kCs a.1.commits a.2+2 * a.1.heads.length<=1152921504606846976) (fun a=>.int .i64 (kK a.1 a.2)) (fun _=>[])
theorem I4:Has Tryz.prog 18 px:=by
 refine ag mixed ak (HasL.cons IO (HasL.cons I0 HasL.nil)) [0,1,2,4] ((fun a n (_:Nat)=>(fun _=>an) a n)) [] Tryz.func18 (by unfold Tryz.f18; rfl) (fun _=>⟨(),trivial⟩) ?_
 intro a ha;obtain ⟨r,k⟩:=a;obtain ⟨q1,q2⟩:0<=k/\kCs r.commits k+2 * r.heads.length<=1152921504606846976:=ha;simp -implicitDefEqProofs [px,Con.fn,ae,tc,tg]
 try dsimp only
 have h1:=IP r.commits k;refine ⟨_,_,⟨rfl,rfl⟩,⟨q1,by omega⟩,fun h=>by unfold kK; rw [if_pos h],fun h=>⟨_,_,⟨rfl,rfl⟩,⟨h,by omega⟩,fun h2=>by unfold kK; rw [if_neg (by omega),if_pos h2],fun h2=>by unfold kK; rw [if_neg (by omega),if_neg (by omega)]⟩⟩
def mkR (r:RepoD) (k:Int):RepoD:=⟨cP r.commits k,dw r.heads.length (kCs r.commits k)⟩
theorem I3 (r:RepoD) (k:Int) (hk:0<=k):kK (mkR r k) k=kCs r.commits k+2 * r.heads.length:=by
 have h1:eU (mkR r k).commits k=kCs r.commits k:=IQ _ _;have h2:iD (mkR r k).heads (kCs r.commits k)=kCs r.commits k+2 * r.heads.length:=I1 _ _;have h3:=kM r.commits k;unfold kK;rw [h1,if_neg (by omega),h2,if_neg (by omega)]
theorem JT (r:RepoD) (k:Int):kCs (mkR r k).commits k+2 * (mkR r k).heads.length=kCs r.commits k+2 * r.heads.length:=by
 have h1:kCs (mkR r k).commits k=kCs r.commits k:=(rg r.commits k).2;have h2:(mkR r k).heads.length=r.heads.length:=gX _ _;rw [h1,h2]




end Vx
end Go.Proofs.YtonkagjdfpacmaaGreatDoor
