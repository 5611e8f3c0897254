/-
  Joined by program (merge.py): Ld, Ed, Mb, Mc, Np, Fa, Fb, Fc, Hg, Nb, Na, Se, Nc, Md, Mk, Qa, Sr, Shs, Qb, Gt, Qc, Sb, Sa, Sc, Mf, Mg, Sd, Id, Nd, Ga, Gb. It shows what the single texts show; conditions: none but those of each lemma.
-/
import Derived.Test.YtonkagjdfpacmaaGreatDoorWa
import Derived.Lib.Walk
import Derived.Lib.SliceRun
import Derived.Lib.JoinLaws
import Derived.Lib.AppendZeros
import Derived.Lib.AppendZerosOnto
import Derived.Lib.Overlaps
import Derived.Laws.Externs
import Derived.Laws.IdiomCopy
import Derived.Laws.NewBlocks
import Derived.Shelf.RegionOpenPlain
import Derived.Shelf.Sort.Plain
import Derived.Shelf.Slices.In.SortNone
import Derived.Shelf.Slices.CompactS
import Derived.Test.YtonkagjdfpacmaaGreatDoorProg
set_option linter.unusedVariables false
set_option linter.unusedSimpArgs false
set_option linter.unusedSectionVars false
namespace Go.Proofs.YtonkagjdfpacmaaGreatDoor
set_option maxHeartbeats 4000000
namespace Vx
open Go.RowKit
set_option maxRecDepth 8000
def fS (t:List FileD) (p:Str):List FileD × Bool:=if bi t then (aI (bK p) t,decide ((aI (bK p) t).length < t.length)) else ([],false)
def uT:Con:=.fn 20 (List FileD × Str) (fun a=>[.sl true 2 (ac a.1),.str a.2]) (fun a=>a.1.length<=1048576 /\ ∀ f ∈ a.1,f.text.length<=1048576) (fun a=>.tup [.sl false 2 (ac (fS a.1 a.2).1),.bool (fS a.1 a.2).2]) (fun _=>[])
theorem QU:Has Tryz.prog 87 uT:=by
 refine ag mixed ak (HasL.cons nW (HasL.cons mp (HasL.cons BD HasL.nil))) [0,1,4,5,6] ((fun a n (_:Nat)=>(fun _=>an) a n)) [] Tryz.func87 (by unfold Tryz.f87; rfl) (fun _=>⟨(),trivial⟩) ?_
 intro a ha;obtain ⟨t,p⟩:=a;obtain ⟨h1,h2⟩:t.length<=1048576 /\ ∀ f ∈ t,f.text.length<=1048576:=ha;simp -implicitDefEqProofs [uT,kr,jE,pN,Con.fn,ae]
 try dsimp only
 refine ⟨fun h=>by unfold fS; rw [if_neg (by simp -implicitDefEqProofs [h])]; exact ⟨rfl,rfl⟩,fun h=>⟨⟨h1,h2⟩,t,p,⟨rfl,rfl⟩,h1,fun _ _=>by unfold fS; rw [if_pos h]; exact ⟨rfl,rfl⟩⟩⟩
def jm (p:Str) (f:FileD):Bool:=decide (f.path=p) || inB p f.path
def gr (p to:Str) (o:List FileD) (f:FileD):List FileD:=if jm p f then fP o ⟨to++f.path.drop p.length,f.text⟩ else o
def cM (p to:Str) (o:List FileD) (t:List FileD):List FileD:=t.foldl (gr p to) o
theorem MS {p to:Str} {o t:List FileD} {i:Nat} (h:i < t.length):cM p to o (t.take (i+1))=gr p to (cM p to o (t.take i)) t[i]:=by
 unfold cM;rw [bg h,List.foldl_append]; rfl
theorem MR (p to:Str) (o t:List FileD):(cM p to o t).length<=o.length+t.length:=by
 unfold cM
 induction t generalizing o with
 | nil=>simp
 | cons f t ih =>
  have h1:=ih (gr p to o f);have h2:(gr p to o f).length<=o.length+1:=by
   unfold gr;split
   ·exact PG _ _
   ·omega
  simp only [List.foldl_cons,List.length_cons];omega
theorem Jf {p q:Str} (h:inB p q=true):p.length < q.length:=by
 unfold inB at h;simp only [Bool.and_eq_true,decide_eq_true_eq] at h;omega
def ei (t:List FileD) (p to:Str):List FileD × Bool :=
 if bi t then
  (if (aI (bK p) t).length=t.length \/ c6 to=false then (t,false)
  else if bi (cM p to (aI (bK p) t) t)=false \/ ¬ (cM p to (aI (bK p) t) t).length=t.length then (t,false)
  else (cM p to (aI (bK p) t) t,true))
 else ([],false)
def mvO (t:List FileD) (p to:Str):Inv:=⟨Nat,fun i=>⟨[(0,true,.sl true 2 (ac t)),(1,true,.str p),(2,true,.str to),(6,true,.nil),(7,true,.bool false),(8,true,.sl false 2 (ac (cM p to (aI (bK p) t) (t.take i)))),(9,true,.int .i64 t.length),(10,true,.int .i64 i)],[]⟩,fun i=>i<=t.length/\bi t=true,fun i=>t.length - i⟩
def uV:Con:=.fn 84 (List FileD × Str × Str) (fun a=>[.sl true 2 (ac a.1),.str a.2.1,.str a.2.2]) (fun a=>a.1.length<=1048576/\(∀ f ∈ a.1,f.text.length<=1048576)/\a.2.2.length<=1048576 /\ ∀ f ∈ a.1,f.path.length<=1048576) (fun a=>.tup [.sl false 2 (ac (ei a.1 a.2.1 a.2.2).1),.bool (ei a.1 a.2.1 a.2.2).2]) (fun _=>[])
theorem QX:Has Tryz.prog 88 uV:=by
 refine ag mixed ak (HasL.cons nW (HasL.cons mp (HasL.cons BD (HasL.cons wN (HasL.cons wJ (HasL.cons BE HasL.nil)))))) [0,1,2,6,7,8,9,10] ((fun a n (_:Nat)=>(fun a _=>mvO a.1 a.2.1 a.2.2) a n)) [] Tryz.func88 (by unfold Tryz.f88; rfl) (fun _=>⟨(),trivial⟩) ?_
 intro a ha;obtain ⟨t,p,to⟩:=a;obtain ⟨h1,h2,h3,h4⟩:t.length<=1048576/\(∀ f ∈ t,f.text.length<=1048576)/\to.length<=1048576 /\ ∀ f ∈ t,f.path.length<=1048576:=ha;simp -implicitDefEqProofs [uV,kr,jE,pN,ns,nr,pO,Con.fn,ae,mvO]
 try dsimp only
 have e0:bi t=false->ei t p to=([],false):=fun h=>by unfold ei; rw [if_neg (by simp -implicitDefEqProofs [h])]
 have e1:bi t=true->((aI (bK p) t).length=t.length \/ c6 to=false)->ei t p to=(t,false):=fun h q=>by unfold ei; rw [if_pos h,if_pos q]
 have e2:bi t=true -> ¬ ((aI (bK p) t).length=t.length \/ c6 to=false)->(bi (cM p to (aI (bK p) t) t)=false \/ ¬ (cM p to (aI (bK p) t) t).length=t.length)->ei t p to=(t,false):=fun h q w=>by unfold ei; rw [if_pos h,if_neg q,if_pos w]
 have e3:bi t=true -> ¬ ((aI (bK p) t).length=t.length \/ c6 to=false) -> ¬ (bi (cM p to (aI (bK p) t) t)=false \/ ¬ (cM p to (aI (bK p) t) t).length=t.length)->ei t p to=(cM p to (aI (bK p) t) t,true):=fun h q w=>by unfold ei; rw [if_pos h,if_neg q,if_neg w]
 refine ⟨fun h=>by rw [e0 h]; exact ⟨rfl,rfl⟩,fun h=>⟨⟨h1,h2⟩,t,p,⟨rfl,rfl⟩,h1,fun _ _=>⟨fun q=>⟨⟨h1,h2⟩,by rw [e1 h (.inl (by omega))]; exact ⟨rfl,rfl⟩⟩,fun q=>⟨fun w=>⟨⟨h1,h2⟩,by rw [e1 h (.inr w)]; exact ⟨rfl,rfl⟩⟩,fun w _=>⟨⟨0,⟨by simp -implicitDefEqProofs [cM],rfl⟩,Nat.zero_le _,h⟩,fun i hi _ _=>⟨fun hlt=>?_,fun hge=>?_⟩⟩⟩⟩⟩⟩
 ·have g:=MS (p:=p) (to:=to) (o:=aI (bK p) t) hlt;have h8:=(mX t h).1;have gl:=MR p to (aI (bK p) t) (t.take i);have gf:=List.length_filter_le (bK p) t;have gf:(aI (bK p) t).length<=t.length:=gf;have gt:(t.take i).length<=t.length:=by simp; omega
  have gp:=h4 _ (List.getElem_mem hlt);have gx:=h2 _ (List.getElem_mem hlt);have gi:=@Jf p t[i].path;clear e0 e1 e2 e3;generalize cM p to (aI (bK p) t) (t.take i)=X at g gl ⊢;simp -implicitDefEqProofs [hlt,am,D.asStr,D.asRows,and_assoc];have gtk:List.take (List.length t[i].path - List.length p) (List.drop (List.length p) t[i].path)=t[i].path.drop p.length:=List.take_of_length_le (by simp)
  rw [gtk];have hm:maxLen=9223372036854775807:=rfl;refine ⟨fun e=>⟨by rw [e]; omega,fun _=>⟨by omega,fun _=>⟨by omega,gx,by omega,by omega,fun _ _=>⟨i+1,?_,by omega,by omega,h,by omega⟩⟩⟩⟩,
   fun e=>⟨fun c=>⟨by have:=gi c; omega,fun _=>⟨by omega,fun _=>⟨by omega,gx,by omega,by omega,fun _ _=>⟨i+1,?_,by omega,by omega,h,by omega⟩⟩⟩⟩,fun c=>⟨by omega,by omega,fun _ _=>⟨i+1,?_,by omega,by omega,h,by omega⟩⟩⟩⟩
  ·rw [g]; unfold gr; rw [if_pos (by simp -implicitDefEqProofs [jm,e])]
  ·rw [g]; unfold gr; rw [if_pos (by simp -implicitDefEqProofs [jm,c])]
  ·rw [g]; unfold gr; rw [if_neg (by simp -implicitDefEqProofs [jm,c,e])]
 ·rw [List.take_of_length_le hge];have hn:¬ ((aI (bK p) t).length=t.length \/ c6 to=false):=by rintro (c | c); omega; rw [w] at c; cases c
  have e2:=e2 h hn;have e3:=e3 h hn;generalize cM p to (aI (bK p) t) t=X at e2 e3 ⊢;refine ⟨fun c=>⟨⟨h1,h2⟩,by rw [e2 (.inl c)]; exact ⟨rfl,rfl⟩⟩,fun c _=>⟨fun d=>⟨⟨h1,h2⟩,by rw [e2 (.inr (by omega))]; exact ⟨rfl,rfl⟩⟩,fun d=>?_⟩⟩
  rw [e3 (by rintro (k | k); rw [c] at k; cases k; omega)]; exact ⟨rfl,rfl⟩
theorem wY {a b c:Str} (h:Go.Op.bytesLess a b=true) (h':Go.Op.bytesLess b c=true):Go.Op.bytesLess a c=true:=by
 rw [fk,decide_eq_true_eq] at *;exact List.lt_trans h h'
theorem qY (a:Str):Go.Op.bytesLess a a=false:=by
 rw [fk,decide_eq_false_iff_not];exact List.lt_irrefl a
theorem Q2 {t:List FileD} (h:aA t=true):∀ j i,(hij:i < j)->(hj:j < t.length)->Go.Op.bytesLess (t[i]'(by omega)).path t[j].path=true:=by
 have hs:∀ j,(h0:0 < j)->(hj:j < t.length)->Go.Op.bytesLess (t[j - 1]'(by omega)).path t[j].path=true:=by
  intro j h0 hj;simp only [aA,Bool.and_eq_true,List.all_eq_true,List.mem_range] at h;have h2:=(h.2 j hj).1;simp only [dN,Bool.and_eq_true,Bool.or_eq_true,decide_eq_true_eq] at h2;rcases h2.2 with h3 | h3
  ·omega
  ·simpa [List.getD_eq_getElem?_getD,hj,(show j - 1 < t.length by omega)] using h3
 intro j
 induction j with
 | zero=>intro i hi; omega
 | succ j ih =>
  intro i hi hj;have h1:=hs (j+1) (by omega) hj
  by_cases e:i=j
  ·subst e; exact h1
  ·exact wY (ih i (by omega) (by omega)) h1
def bO:List Str->Str->List Str
 | [],s=>[s]
 | x :: l,s=>if Go.Op.bytesLess x s then x :: bO l s else if x=s then x :: l else s :: x :: l
theorem OI (l:List Str) (s:Str):(bO l s).length<=l.length+1:=by
 induction l with
 | nil=>simp -implicitDefEqProofs [bO]
 | cons x l ih =>
  unfold bO;split
  ·simp; omega
  ·split <;> simp
theorem OL {l:List Str} {s:Str} {k:Nat} (h:k < l.length) (hp:l.take k++bO (l.drop k) s=bO l s) (hl:Go.Op.bytesLess l[k] s=true):l.take (k+1)++bO (l.drop (k+1)) s=bO l s:=by
 rw [List.drop_eq_getElem_cons h,bO,if_pos hl] at hp;rw [bg h,List.append_assoc];exact hp
theorem OG {l:List Str} {s:Str} {k:Nat} (h:l.length<=k) (hp:l.take k++bO (l.drop k) s=bO l s):bO l s=l.take k++[s]++l.drop k:=by
 rw [List.drop_eq_nil_of_le h] at hp ⊢;rw [<- hp]; simp -implicitDefEqProofs [bO]
theorem OH {l:List Str} {s:Str} {k:Nat} (h:k < l.length) (hp:l.take k++bO (l.drop k) s=bO l s) (hl:Go.Op.bytesLess l[k] s=false) (he:l[k]=s):bO l s=l:=by
 rw [List.drop_eq_getElem_cons h,bO,if_neg (by simp -implicitDefEqProofs [hl]),if_pos he,<- List.drop_eq_getElem_cons h,List.take_append_drop] at hp
 exact hp.symm
theorem OJ {l:List Str} {s:Str} {k:Nat} (h:k < l.length) (hp:l.take k++bO (l.drop k) s=bO l s) (hl:Go.Op.bytesLess l[k] s=false) (he:¬ l[k]=s):bO l s=l.take k++[s]++l.drop k:=by
 rw [List.drop_eq_getElem_cons h,bO,if_neg (by simp -implicitDefEqProofs [hl]),if_neg he,<- List.drop_eq_getElem_cons h] at hp
 rw [<- hp]; simp
def bW (l:List Str) (t:List FileD):List Str:=t.foldl (fun l f=>bO l f.path) l
theorem xu {l:List Str} {t:List FileD} {i:Nat} (h:i < t.length):bW l (t.take (i+1))=bO (bW l (t.take i)) t[i].path:=by
 unfold bW;rw [bg h,List.foldl_append]; rfl
theorem j1 (t:List FileD):∀ l,(bW l t).length<=l.length+t.length:=by
 induction t with
 | nil=>intro l; simp -implicitDefEqProofs [bW]
 | cons f t ih =>
  intro l;have h1:=ih (bO l f.path);have h2:=OI l f.path
  show (bW (bO l f.path) t).length<=_
  simp only [List.length_cons];omega
def bv (o a b:List FileD):List Str:=bW (bW (bW [] o) a) b
theorem C6 (o a b:List FileD):(bv o a b).length<=o.length+a.length+b.length:=by
 have h1:=j1 b (bW (bW [] o) a);have h2:=j1 a (bW [] o);have h3:=j1 o [];simp at h3
 show (bW (bW (bW [] o) a) b).length<=_
 omega
def cR (a b:List Str × Bool):Bool:=decide (a.2=b.2) && (!a.2 || decide (a.1=b.1))
def bV (o a b:List FileD) (p:Str):List Str × Bool × Int :=
 if cR (aH a p) (aH o p) || cR (aH a p) (aH b p) then ((aH b p).1,(aH b p).2,0)
 else if cR (aH b p) (aH o p) then ((aH a p).1,(aH a p).2,0)
 else if !(aH a p).2 || !(aH b p).2 then ((aH o p).1,(aH o p).2,1)
 else if !(aH o p).2 then ([],false,2)
 else if (cT (of3 (aH o p).1 (aH a p).1 (aH b p).1)).2 then ((cT (of3 (aH o p).1 (aH a p).1 (aH b p).1)).1,true,0)
 else ((aH o p).1,true,3)
theorem md {t:List FileD} {n:Nat} (h:∀ f ∈ t,f.text.length<=n) (p:Str):(aH t p).1.length<=n:=by
 induction t with
 | nil=>simp -implicitDefEqProofs [aH]
 | cons f t ih =>
  unfold aH;split
  ·exact h f (by simp)
  ·exact ih fun g hg=>h g (by simp -implicitDefEqProofs [hg])
theorem lj {t:List Str} (h:bD t=true):t.length<=10:=by
 unfold bD at h;simp only [Bool.and_eq_true,decide_eq_true_eq] at h;exact h.1
theorem QL (l:List PartD):(cT l).1.length<=10:=by
 unfold cT;split
 ·simp
 ·split
  ·rename_i h; exact lj h
  ·simp
theorem CD {o a b:List FileD} {p:Str} {n:Nat} (hn:10<=n) (ho:∀ f ∈ o,f.text.length<=n) (ha:∀ f ∈ a,f.text.length<=n) (hb:∀ f ∈ b,f.text.length<=n):(bV o a b p).1.length<=n:=by
 have h1:=md ho p;have h2:=md ha p;have h3:=md hb p;have h4:=QL (of3 (aH o p).1 (aH a p).1 (aH b p).1);unfold bV;split
 ·exact h3
 ·split
  ·exact h2
  ·split
   ·exact h1
   ·split
    ·simp
    ·split
     ·show (cT _).1.length<=n; omega
     ·exact h1
def stepJ (o a b:List FileD) (s:List FileD × List HeadD) (p:Str):List FileD × List HeadD :=
 (if (bV o a b p).2.1 then s.1++[⟨p,(bV o a b p).1⟩] else s.1,if 0 < (bV o a b p).2.2 then s.2++[⟨p,(bV o a b p).2.2⟩] else s.2)
def dd (o a b:List FileD) (l:List Str):List FileD × List HeadD:=l.foldl (stepJ o a b) ([],[])
theorem DI {o a b:List FileD} {l:List Str} {i:Nat} (h:i < l.length):dd o a b (l.take (i+1))=stepJ o a b (dd o a b (l.take i)) l[i]:=by
 unfold dd;rw [bg h,List.foldl_append]; rfl
theorem DH (o a b:List FileD) (l:List Str):(dd o a b l).1.length<=l.length/\(dd o a b l).2.length<=l.length:=by
 have:∀ (l:List Str) (s:List FileD × List HeadD),(l.foldl (stepJ o a b) s).1.length<=s.1.length+l.length/\(l.foldl (stepJ o a b) s).2.length<=s.2.length+l.length:=by
  intro l
  induction l with
  | nil=>intro s; simp
  | cons p l ih =>
   intro s;obtain ⟨h1,h2⟩:=ih (stepJ o a b s p);have h3:(stepJ o a b s p).1.length<=s.1.length+1/\(stepJ o a b s p).2.length<=s.2.length+1:=by
    unfold stepJ;constructor
    ·show (if _ then _ else _:List FileD).length<=_
     split <;> simp
    ·show (if _ then _ else _:List HeadD).length<=_
     split <;> simp
   simp only [List.foldl_cons,List.length_cons];omega
 have:=this l ([],[])
 simpa [dd] using this
def of6 (o a b:List FileD):List FileD × List HeadD:=dd o a b (bv o a b)
def bT (o a b:List FileD):List FileD × List HeadD:=if (of6 o a b).2=[]/\bi (of6 o a b).1=false then (o,[⟨[],4⟩]) else of6 o a b
theorem JB {o a b:List FileD} (h:(bT o a b).2=[]):bi (bT o a b).1=true:=by
 unfold bT at h ⊢;split
 ·rename_i h2; rw [if_pos h2] at h; simp at h
 ·rename_i h2;rw [if_neg h2] at h;cases hq:bi (of6 o a b).1 with
  | true=>rfl
  | false=>exact absurd ⟨h,hq⟩ h2
def cE (r:RepoD) (a b:Int) (i:Nat):List Int:=((ar (anc r a)).take i).filter fun x=>decide (x ∈ ar (anc r b))
def kp (r:RepoD) (l:List Int) (i k:Nat):Bool:=(List.range k).all fun j=>decide (j=i) || !decide (l.getD i 0 ∈ ar (anc r (l.getD j 0)))
def dW (r:RepoD) (l:List Int) (i:Nat):List Int:=((List.range i).filter fun j=>kp r l j l.length).map fun j=>l.getD j 0
def fZ (r:RepoD) (a b:Int):List Int:=dW r (cE r a b (ar (anc r a)).length) (cE r a b (ar (anc r a)).length).length
def c8 (r:RepoD) (a b:Int):List FileD:=match (fZ r a b).getLast? with
 | none=>[]
 | some c=>aJ r c
def noR:RepoD:=⟨[],[]⟩
def dS (r:RepoD) (n w:Str) (b:Int):RepoD × Int :=
 if b ∈ ar (anc r (atL r.heads n)) then (r,2)
 else if atL r.heads n ∈ ar (anc r b) then (⟨r.commits,bG r.heads n b⟩,3)
 else if (bT (c8 r (atL r.heads n) b) (aJ r (atL r.heads n)) (aJ r b)).2=[] then
  (if az (cf r n ⟨[atL r.heads n,b],w,(bT (c8 r (atL r.heads n) b) (aJ r (atL r.heads n)) (aJ r b)).1⟩) then
   (cf r n ⟨[atL r.heads n,b],w,(bT (c8 r (atL r.heads n) b) (aJ r (atL r.heads n)) (aJ r b)).1⟩,0) else (r,5))
 else (r,4)
def cD (r:RepoD) (n w:Str) (b:Int):RepoD × Int :=
 if az r then (if atL r.heads n < 0 \/ bc w=false \/ ¬ (0<=b/\b < r.commits.length) then (r,1) else dS r n w b) else (noR,1)
def ek (r:RepoD) (c:Int):List FileD:=match (r.commits.getD c.toNat default).parents with
 | []=>[]
 | p :: _=>aJ r p
def dA (r:RepoD) (n w:Str) (o b:List FileD):RepoD × Int :=
 if (bT o (aJ r (atL r.heads n)) b).2=[] then
  (if az (cf r n ⟨[atL r.heads n],w,(bT o (aJ r (atL r.heads n)) b).1⟩) then (cf r n ⟨[atL r.heads n],w,(bT o (aJ r (atL r.heads n)) b).1⟩,0) else (r,5))
 else (r,4)
def b9 (back:Bool) (r:RepoD) (n w:Str) (c:Int):RepoD × Int :=
 if az r then (if atL r.heads n < 0 \/ bc w=false \/ ¬ (0<=c/\c < r.commits.length) then (r,1)
  else if back then dA r n w (aJ r c) (ek r c) else dA r n w (ek r c) (aJ r c)) else (noR,1)
theorem qA:∀ {l:List HeadD},(∀ i,0 < i->i < l.length->Go.Op.bytesLess (l.getD (i - 1) default).name (l.getD i default).name=true)->l.Pairwise fun a b=>Go.Op.bytesLess a.name b.name=true
 | [],_=>.nil
 | [x],_=>by simp
 | x :: y :: t,h=>by
  have ih:=qA (l:=y :: t) fun i h1 h2=>by
   have:=h (i+1) (by omega) (by simp only [List.length_cons] at h2 ⊢; omega)
   rw [show i+1 - 1=(i - 1)+1 by omega,List.getD_cons_succ,List.getD_cons_succ] at this
   exact this
  have hxy:=h 1 (by omega) (by simp)
  have hxy:Go.Op.bytesLess x.name y.name=true:=by simpa using hxy
  refine List.pairwise_cons.2 ⟨fun z hz=>?_,ih⟩;rcases List.mem_cons.1 hz with rfl | hz
  ·exact hxy
  ·exact wY hxy ((List.pairwise_cons.1 ih).1 z hz)
theorem qy (n:Str) (a:Int):∀ (l X:List HeadD),l.foldl (cG n a) (X,true)=(X++l.filter (fun g=>decide (g.name ≠ n)),true)
 | [],X=>by simp
 | g :: l,X=>by
  rw [List.foldl_cons];by_cases h:g.name=n
  ·have e:cG n a (X,true) g=(X,true):=by unfold cG; simp -implicitDefEqProofs [h]
   rw [e,qy n a l X]; simp -implicitDefEqProofs [h]
  ·have e:cG n a (X,true) g=(X++[g],true):=by unfold cG; simp -implicitDefEqProofs [h]
   rw [e,qy n a l (X++[g])]; simp -implicitDefEqProofs [h]
def hAt (n:Str) (a:Int) (h:HeadD):HeadD:=if h.name=n then ⟨n,a⟩ else h
theorem Au (n:Str) (a:Int):∀ (l X:List HeadD),(l.Pairwise fun a b=>Go.Op.bytesLess a.name b.name=true)->(∃ h ∈ l,h.name=n)->l.foldl (cG n a) (X,false)=(X++l.map (hAt n a),true)
 | [],X,_,h=>by obtain ⟨_,h,_⟩:=h; simp at h
 | g :: l,X,hp,hn=>by
  obtain ⟨hp1,hp2⟩:=List.pairwise_cons.1 hp;rw [List.foldl_cons];by_cases h:g.name=n
  ·have e:cG n a (X,false) g=(X++[⟨n,a⟩],true):=by unfold cG; simp -implicitDefEqProofs [h,qY]
   have hne:∀ z ∈ l,¬ z.name=n:=fun z hz hc=>by
    have:=hp1 z hz;rw [h,hc,qY] at this;cases this
   have e2:l.filter (fun g=>decide (g.name ≠ n))=l:=by rw [List.filter_eq_self]; intro z hz; simp -implicitDefEqProofs [hne z hz]
   have e3:l.map (hAt n a)=l:=by
    have:l.map (hAt n a)=l.map id:=List.map_congr_left fun z hz=>by simp -implicitDefEqProofs [hAt,hne z hz]
    rw [this]; simp
   rw [e,qy,e2]; simp -implicitDefEqProofs [e3,hAt,h]
  ·obtain ⟨z,hz,hzn⟩:=hn;have hz:z ∈ l:=by
    rcases List.mem_cons.1 hz with rfl | hz
    ·exact absurd hzn h
    ·exact hz
   have hl:Go.Op.bytesLess g.name n=true:=by rw [<- hzn]; exact hp1 z hz
   have e:cG n a (X,false) g=(X++[g],false):=by unfold cG; simp -implicitDefEqProofs [h,hl]
   rw [e,Au n a l (X++[g]) hp2 ⟨z,hz,hzn⟩]; simp -implicitDefEqProofs [hAt,h]
theorem vZ {l:List HeadD} {n:Str} {a:Int} (hl:∀ i,0 < i->i < l.length->Go.Op.bytesLess (l.getD (i - 1) default).name (l.getD i default).name=true) (hn:∃ h ∈ l,h.name=n) :
  bG l n a=l.map (hAt n a):=by
 unfold bG hL;rw [Au n a l [] (qA hl) hn];simp
theorem Ft {l:List HeadD} {n:Str} (h:0<=atL l n):∃ h ∈ l,h.name=n:=by
 induction l with
 | nil=>simp -implicitDefEqProofs [atL] at h
 | cons g l ih =>
  unfold atL at h;split at h
  ·rename_i e; exact ⟨g,by simp,e⟩
  ·obtain ⟨x,h1,h2⟩:=ih h; exact ⟨x,by simp -implicitDefEqProofs [h1],h2⟩
theorem m9 {l:List HeadD} {n:Str} {k:Nat} (hl:di k l=true):atL l n < k /\ -1<=atL l n \/ atL l n = -1:=by
 have h2:=((iC _ _).1 hl).2;have:∀ (l':List HeadD),(∀ h ∈ l',0<=h.at_/\h.at_ < k)->atL l' n < k /\ -1<=atL l' n \/ atL l' n = -1:=by
  intro l'
  induction l' with
  | nil=>intro _; right; rfl
  | cons g l' ih =>
   intro h;unfold atL;split
   ·left; have:=h g (by simp); omega
   ·exact ih fun x hx=>h x (by simp -implicitDefEqProofs [hx])
 refine this l fun h hh=>?_;obtain ⟨i,hi,rfl⟩:=List.getElem_of_mem hh;have:=h2 i hi;simp only [d9,inN,List.getD_eq_getElem?_getD,List.getElem?_eq_getElem hi,Option.getD_some,Bool.and_eq_true,decide_eq_true_eq] at this;omega
theorem IH {k:Nat} {l:List HeadD} {n:Str} {b:Int} (h:di k l=true) (hn:0<=atL l n) (hb:0<=b/\b < k):di k (bG l n b)=true:=by
 obtain ⟨h1,h2⟩:=(iC _ _).1 h;have hg:∀ i (hi:i < l.length),l.getD i default=l[i]:=fun i hi=>by simp -implicitDefEqProofs [List.getD_eq_getElem?_getD,hi]
 rw [vZ (fun i h3 h4=>by
  have:=h2 i h4;unfold d9 at this;simp only [Bool.and_eq_true,Bool.or_eq_true,decide_eq_true_eq] at this;rcases this.2 with h5 | h5
  ·omega
  ·exact h5) (Ft hn),iC]
 have hm:∀ i (hi:i < l.length),(l.map (hAt n b)).getD i default=hAt n b l[i]:=fun i hi=>by simp -implicitDefEqProofs [List.getD_eq_getElem?_getD,hi]
 have hname:∀ g:HeadD,(hAt n b g).name=g.name:=fun g=>by unfold hAt; split <;> simp_all
 refine ⟨by simpa using h1,fun i hi=>?_⟩
 have hi:i < l.length:=by simpa using hi
 have h3:=h2 i hi;unfold d9 at h3 ⊢;rw [hm i hi,hname];rw [hg i hi] at h3;have hat:inN k (hAt n b l[i]).at_=true:=by
  simp only [Bool.and_eq_true] at h3;unfold hAt;split
  ·simp only [inN,Bool.and_eq_true,decide_eq_true_eq]; omega
  ·exact h3.1.2
 rw [hat];rcases Nat.eq_zero_or_pos i with h0 | h0
 ·subst h0;simp only [Bool.and_eq_true] at h3;simp -implicitDefEqProofs [h3.1.1]
 ·rw [hm (i - 1) (by omega),hname]
  rw [hg (i - 1) (by omega)] at h3
  simp only [Bool.and_eq_true] at h3 ⊢;exact ⟨⟨h3.1.1,trivial⟩,h3.2⟩
theorem Pi {r:RepoD} {n:Str} {b:Int} (h:az r=true) (hn:0<=atL r.heads n) (hb:0<=b/\b < r.commits.length):az ⟨r.commits,bG r.heads n b⟩=true:=by
 obtain ⟨h1,h2,h3⟩:=(cQ r).1 h;exact (cQ _).2 ⟨h1,IH h2 hn hb,h3⟩
theorem nR (l:List HeadD) (n:Str) (a:Int):bG l n a ≠ []:=by
 have:∀ (l:List HeadD) (s:List HeadD × Bool),(s.2=true->s.1 ≠ [])->((l.foldl (cG n a) s).2=true->(l.foldl (cG n a) s).1 ≠ []):=by
  intro l
  induction l with
  | nil=>intro s h; exact h
  | cons g l ih =>
   intro s h;refine ih (cG n a s g) ?_;unfold cG;split
   ·split <;> simp
   ·split
    ·exact h
    ·simp
 unfold bG;split
 ·rename_i h; exact this l ([],false) (by simp) h
 ·simp
theorem Q8 {r:RepoD} {n w:Str} {b:Int} (h:az r=true) (hn:0<=atL r.heads n) (hb:0<=b/\b < r.commits.length) (hh:r.commits ≠ []->r.heads ≠ []) :
  az (dS r n w b).1=true/\((dS r n w b).1.commits ≠ []->(dS r n w b).1.heads ≠ []):=by
 unfold dS;split
 ·exact ⟨h,hh⟩
 ·split
  ·exact ⟨Pi h hn hb,fun _=>nR _ _ _⟩
  ·split
   ·split
    ·rename_i q; exact ⟨q,fun _=>nR _ _ _⟩
    ·exact ⟨h,hh⟩
   ·exact ⟨h,hh⟩
theorem Rb {r:RepoD} {n w:Str} {b:Int} (h:az r=true) (hh:r.commits ≠ []->r.heads ≠ []) :
  az (cD r n w b).1=true/\((cD r n w b).1.commits ≠ []->(cD r n w b).1.heads ≠ []):=by
 unfold cD;rw [if_pos h];split
 ·exact ⟨h,hh⟩
 ·rename_i q;exact Q8 h (by omega) (by omega) hh
theorem Dm {r:RepoD} {n w:Str} {o b:List FileD} (h:az r=true) (hh:r.commits ≠ []->r.heads ≠ []) :
  az (dA r n w o b).1=true/\((dA r n w o b).1.commits ≠ []->(dA r n w o b).1.heads ≠ []):=by
 unfold dA;split
 ·split
  ·rename_i q; exact ⟨q,fun _=>nR _ _ _⟩
  ·exact ⟨h,hh⟩
 ·exact ⟨h,hh⟩
theorem C8 {k:Bool} {r:RepoD} {n w:Str} {c:Int} (h:az r=true) (hh:r.commits ≠ []->r.heads ≠ []) :
  az (b9 k r n w c).1=true/\((b9 k r n w c).1.commits ≠ []->(b9 k r n w c).1.heads ≠ []):=by
 unfold b9;rw [if_pos h];split
 ·exact ⟨h,hh⟩
 ·split
  ·exact Dm h hh
  ·exact Dm h hh
structure OpD where
 kind:Int
 branch:Str
 who:Str
 path:Str
 to_:Str
 at_:Int
 text:List Str
 deriving DecidableEq,Inhabited
def eOp (a:OpD):List D:=[.int .i64 a.kind,.str a.branch,.str a.who,.str a.path,.str a.to_,.int .i64 a.at_,.sl 9 1 (aa a.text)]
@[simp] theorem eOp_inj (a b:OpD):(eOp a=eOp b)=(a=b):=by cases a; cases b; simp -implicitDefEqProofs [eOp]
@[simp] theorem OpD.eta (a:OpD):(⟨a.kind,a.branch,a.who,a.path,a.to_,a.at_,a.text⟩:OpD)=a:=rfl
theorem OpD.eq_iff (a b:OpD):(a=b)=(a.kind=b.kind/\a.branch=b.branch/\a.who=b.who/\a.path=b.path/\a.to_=b.to_/\a.at_=b.at_/\a.text=b.text):=by cases a; cases b; simp
@[simp] theorem OpD.ex1 (x_kind:Int) (x_branch:Str) (x_who:Str) (x_path:Str) (x_to_:Str) (x_at_:Int) (x_text:List Str) (Q:OpD->Prop):(∃ a:OpD,a.kind=x_kind/\a.branch=x_branch/\a.who=x_who/\a.path=x_path/\a.to_=x_to_/\a.at_=x_at_/\a.text=x_text/\Q a)=Q ⟨x_kind,x_branch,x_who,x_path,x_to_,x_at_,x_text⟩:=by
 apply propext;constructor
 ·rintro ⟨⟨_,_,_,_,_,_,_⟩,rfl,rfl,rfl,rfl,rfl,rfl,rfl,h⟩; exact h
 ·intro h; exact ⟨⟨x_kind,x_branch,x_who,x_path,x_to_,x_at_,x_text⟩,rfl,rfl,rfl,rfl,rfl,rfl,rfl,h⟩
@[simp] theorem OpD.ex2 (x_kind:Int) (x_branch:Str) (x_who:Str) (x_path:Str) (x_to_:Str) (x_at_:Int) (x_text:List Str) (Q:OpD->Prop):(∃ a:OpD,(a.kind=x_kind/\a.branch=x_branch/\a.who=x_who/\a.path=x_path/\a.to_=x_to_/\a.at_=x_at_/\a.text=x_text)/\Q a)=Q ⟨x_kind,x_branch,x_who,x_path,x_to_,x_at_,x_text⟩:=by
 apply propext;constructor
 ·rintro ⟨⟨_,_,_,_,_,_,_⟩,⟨rfl,rfl,rfl,rfl,rfl,rfl,rfl⟩,h⟩; exact h
 ·intro h; exact ⟨⟨x_kind,x_branch,x_who,x_path,x_to_,x_at_,x_text⟩,⟨rfl,rfl,rfl,rfl,rfl,rfl,rfl⟩,h⟩
@[simp] theorem OpD.ex0 (x_kind:Int) (x_branch:Str) (x_who:Str) (x_path:Str) (x_to_:Str) (x_at_:Int) (x_text:List Str):(∃ a:OpD,a.kind=x_kind/\a.branch=x_branch/\a.who=x_who/\a.path=x_path/\a.to_=x_to_/\a.at_=x_at_/\a.text=x_text)=True:=by
 simp only [eq_iff_iff,iff_true];exact ⟨⟨x_kind,x_branch,x_who,x_path,x_to_,x_at_,x_text⟩,rfl,rfl,rfl,rfl,rfl,rfl,rfl⟩
def eQ (l:List OpD):List (List D):=l.map eOp
@[simp] theorem eOps_length (l:List OpD):(eQ l).length=l.length:=by simp -implicitDefEqProofs [eQ]
@[simp] theorem eOps_nil:eQ []=[]:=rfl
@[simp] theorem eOps_get (l:List OpD) (i:Nat):(eQ l)[i]? = l[i]?.map eOp:=by simp -implicitDefEqProofs [eQ]
@[simp] theorem eOps_getElem (l:List OpD) (i:Nat) (h:i < (eQ l).length):(eQ l)[i]=eOp (l[i]'(by simpa using h)):=by simp -implicitDefEqProofs [eQ]
@[simp] theorem eOps_inj (a b:List OpD):(eQ a=eQ b)=(a=b):=by
 apply propext;constructor
 ·intro h;exact List.map_inj_right (fun x y h=>by simpa using h) |>.1 h
 ·rintro rfl; rfl
@[simp] theorem eOps_eq_nil (a:List OpD):(eQ a=[])=(a=[]):=by simp -implicitDefEqProofs [eQ]
@[simp] theorem nil_eq_eOps (a:List OpD):([]=eQ a)=(a=[]):=by simp -implicitDefEqProofs [eQ,eq_comm]
abbrev vOp (o:OpD):AV:=.agg [.int .i64 o.kind,.str o.branch,.str o.who,.str o.path,.str o.to_,.int .i64 o.at_,.sl true 1 (aa o.text)]
def bOp (o:OpD):Blk:=.box 42 [.int .i64 o.kind,.str o.branch,.str o.who,.str o.path,.str o.to_,.int .i64 o.at_,.sl true 1 (aa o.text)]
def fE (o:OpD) (p t a x:Bool):Bool:=(p || decide (o.path=[])) && (t || decide (o.to_=[])) && (a || decide (o.at_=0)) && (x || decide (o.text=[]))
def eo (s:Str):Bool:=s.all fun b=>decide (b ≠ 124)
def eV (t:List Str):Bool:=t.all eo && bD t
def opB (o:OpD):Bool:=(bc o.branch && bc o.who) &&
 (if o.kind=1 then fE o true false false true && c6 o.path && eV o.text
 else if o.kind=2 then fE o true false false false && c6 o.path
 else if o.kind=3 then fE o true true false false && c6 o.path && c6 o.to_
 else if o.kind=4 \/ o.kind=5 then fE o false true false false && bc o.to_
 else if o.kind=6 \/ o.kind=7 then fE o false false true false && (decide (0<=o.at_) && decide (o.at_<=15))
 else false)
def de (r:RepoD) (o:OpD) (x:List FileD × Bool):RepoD × Int:=if x.2 then (if (dl r o.branch o.who x.1).2 then ((dl r o.branch o.who x.1).1,0) else (r,5)) else (r,1)
def dK (r:RepoD) (n:Str):List FileD:=if 0<=atL r.heads n then aJ r (atL r.heads n) else []
def aM (r:RepoD) (o:OpD):RepoD × Int :=
 if o.kind=1 then de r o (il (dK r o.branch) ⟨o.path,o.text⟩)
 else if o.kind=2 then de r o (fS (dK r o.branch) o.path)
 else if o.kind=3 then de r o (ei (dK r o.branch) o.path o.to_)
 else if o.kind=4 then (if (cS r o.to_ (atL r.heads o.branch)).2 then ((cS r o.to_ (atL r.heads o.branch)).1,0) else (r,1))
 else if o.kind=5 then cD r o.branch o.who (atL r.heads o.to_)
 else if o.kind=6 then b9 false r o.branch o.who o.at_
 else b9 true r o.branch o.who o.at_
def dB (r:RepoD) (o:OpD):RepoD × Int:=if az r then (if opB o then aM r o else (r,1)) else (noR,1)
def plR (r:RepoD):Prop:=az r=true/\(r.commits ≠ []->r.heads ≠ [])
theorem rk:plR noR:=⟨rfl,fun h=>absurd rfl h⟩
theorem Pd {r:RepoD} {n w:Str} {t:List FileD} (h:(dl r n w t).2=true):plR (dl r n w t).1:=by
 unfold dl at h ⊢;split
 ·rename_i h1;rw [if_pos h1] at h;split
  ·rename_i h2; exact ⟨h2,fun _=>nR _ _ _⟩
  ·rename_i h2; rw [if_neg h2] at h; cases h
 ·rename_i h1; rw [if_neg h1] at h; cases h
theorem O7 {r:RepoD} {n:Str} {a:Int} (h:(cS r n a).2=true):plR (cS r n a).1:=by
 unfold cS at h ⊢;split
 ·rename_i h1;rw [if_pos h1] at h;split
  ·rename_i h2; rw [if_pos h2] at h; cases h
  ·rename_i h2;have:az ⟨r.commits,bG r.heads n a⟩=true:=by
    cases q:az ⟨r.commits,bG r.heads n a⟩ with
    | true=>rfl
    | false=>exact absurd (.inr q) h2
   exact ⟨this,fun _=>nR _ _ _⟩
 ·rename_i h1; rw [if_neg h1] at h; cases h
theorem xZ {r:RepoD} {o:OpD} {x:List FileD × Bool} (h:plR r):plR (de r o x).1:=by
 unfold de;split
 ·split
  ·rename_i q; exact Pd q
  ·exact h
 ·exact h
theorem qo {r:RepoD} {o:OpD} (h:plR r):plR (aM r o).1:=by
 unfold aM
 repeat' split
 ·exact xZ h
 ·exact xZ h
 ·exact xZ h
 ·rename_i q; exact O7 q
 ·exact h
 ·exact Rb h.1 h.2
 ·exact C8 h.1 h.2
 ·exact C8 h.1 h.2
def bZ (k:Int):Str:=if k=1 then [115,101,116] else if k=2 then [100,114,111,112] else if k=3 then [109,111,118,101] else if k=4 then [102,111,114,107] else if k=5 then [117,110,105,116,101] else if k=6 then [112,105,99,107] else if k=7 then [98,97,99,107] else []
def bS (t:List Str):Str:=(t.map fun l=>124 :: l).flatten
def ce (o:OpD):Str:=if o.kind=1 then o.path++32 :: bS o.text else if o.kind=2 then o.path else if o.kind=3 then o.path++32 :: o.to_ else if o.kind=4 \/ o.kind=5 then o.to_ else cj o.at_.toNat
def au (o:OpD):Str:=bZ o.kind++32 :: (o.branch++32 :: (o.who++32 :: ce o))
theorem lU {c:UInt8} {m:Nat} {r:Str}:∀ {w acc:Str} {n:Nat},c ∉ w->n < m->aK (c.toNat:Int) m (w++c :: r) acc n=(acc++w) :: aK (c.toNat:Int) m r [] (n+1)
 | [],acc,n,_,hn=>by simp [aK,hn]
 | x :: w,acc,n,h,hn=>by
  have hx:¬ (x.toNat:Int)=c.toNat:=fun e=>h (by
   have:x=c:=UInt8.toNat_inj.1 (by omega)
   simp [this])
  rw [List.cons_append,aK,if_pos hn,if_neg hx,lU (w:=w) (fun q=>h (by simp [q])) hn]
  simp
theorem qm {c:UInt8} {m:Nat}:∀ {w acc:Str} {n:Nat},c ∉ w->aK (c.toNat:Int) m w acc n=[acc++w]
 | [],acc,n,_=>by simp [aK]
 | x :: w,acc,n,h=>by
  have hx:¬ (x.toNat:Int)=c.toNat:=fun e=>h (by
   have:x=c:=UInt8.toNat_inj.1 (by omega)
   simp [this])
  rw [aK];split
  ·rename_i hm
   first
    | rw [if_neg hx,qm (w:=w) (fun q=>h (by simp [q]))]; simp
    | rw [qm (w:=w) (fun q=>h (by simp [q]))]; simp
  ·simp
theorem kR {s:Str} (h:∀ b ∈ s,32 < b.toNat):(32:UInt8) ∉ s:=fun q=>by have:=h _ q; simp at this
theorem KE (k:Int):(32:UInt8) ∉ bZ k:=by
 unfold bZ
 repeat' split
 all_goals decide
theorem qn {n:Nat} (h:n < 100):(32:UInt8) ∉ cj n:=by revert h; revert n; decide
theorem sr:∀ {t:List Str},(∀ l ∈ t,(124:UInt8) ∉ l) -> ∀ p:Str,spl 124 (bS t) p=p :: t
 | [],_,p=>rfl
 | l :: t,h,p=>by
  have e:bS (l :: t)=124 :: (l++bS t):=rfl;rw [e,spl,if_pos rfl,P9 (h l (by simp)),sr (fun x hx=>h x (by simp [hx]))]
  simp
theorem FL {t:List Str} (h:∀ l ∈ t,(124:UInt8) ∉ l) (hl:t.length<=11):aB (bS t) 124 11=[] :: t:=by
 have h1:=sr h [];have h2:=xP 124 (bS t) [];rw [h1] at h2;simp only [List.length_cons] at h2;have h3:aK ((124:UInt8).toNat:Int) 11 (bS t) [] 0=spl 124 (bS t) []:=zS (by omega)
 rw [h1] at h3;exact h3
def zO:OpD:=⟨0,[],[],[],[],0,[]⟩
def bN (p:List Str->OpD) (s:Str):OpD × Bool:=if (aB s 32 4).length < 4 then (zO,false) else if opB (p (aB s 32 4))=true/\au (p (aB s 32 4))=s then (p (aB s 32 4),true) else (zO,false)
def nY (w:List Str):Str:=if w.length=5 then w.getD 4 [] else []
def kindOf (none_:Int) (w:Str):Int:=if w=bZ 1 then 1 else if w=bZ 2 then 2 else if w=bZ 3 then 3 else if w=bZ 4 then 4 else if w=bZ 5 then 5 else if w=bZ 6 then 6 else if w=bZ 7 then 7 else none_
def rdS (w:List Str):OpD :=
 let k:=kindOf 0 (w.getD 0 [])
 if k=1 then ⟨1,w.getD 1 [],w.getD 2 [],w.getD 3 [],[],0,(aB (nY w) 124 11).drop 1⟩
 else if k=2 then ⟨2,w.getD 1 [],w.getD 2 [],w.getD 3 [],[],0,[]⟩
 else if k=3 then ⟨3,w.getD 1 [],w.getD 2 [],w.getD 3 [],nY w,0,[]⟩
 else if k=4 \/ k=5 then ⟨k,w.getD 1 [],w.getD 2 [],[],w.getD 3 [],0,[]⟩
 else ⟨k,w.getD 1 [],w.getD 2 [],[],[],iM (w.getD 3 []),[]⟩
def rdI (num:Str->Int) (w:List Str):OpD :=
 let k:=if w.getD 0 []=[] then 0 else kindOf (-1) (w.getD 0 [])
 if k=1 then ⟨1,w.getD 1 [],w.getD 2 [],w.getD 3 [],[],0,if nY w=[] then [] else (spl 124 (nY w) []).drop 1⟩
 else if k=2 then ⟨2,w.getD 1 [],w.getD 2 [],w.getD 3 [],[],0,[]⟩
 else if k=3 then ⟨3,w.getD 1 [],w.getD 2 [],w.getD 3 [],nY w,0,[]⟩
 else if k=4 \/ k=5 then ⟨k,w.getD 1 [],w.getD 2 [],[],w.getD 3 [],0,[]⟩
 else if k=6 \/ k=7 then ⟨k,w.getD 1 [],w.getD 2 [],[],[],num (w.getD 3 []),[]⟩
 else ⟨k,w.getD 1 [],w.getD 2 [],[],[],0,[]⟩
theorem kS {o:OpD} (h:opB o=true):(bc o.branch=true/\bc o.who=true) /\
    ((∃ b w p t,o=⟨1,b,w,p,[],0,t⟩/\c6 p=true/\eV t=true) \/ (∃ b w p,o=⟨2,b,w,p,[],0,[]⟩/\c6 p=true) \/ (∃ b w p q,o=⟨3,b,w,p,q,0,[]⟩/\c6 p=true/\c6 q=true) \/
     (∃ b w q,o=⟨4,b,w,[],q,0,[]⟩/\bc q=true) \/ (∃ b w q,o=⟨5,b,w,[],q,0,[]⟩/\bc q=true) \/ (∃ b w a,o=⟨6,b,w,[],[],a,[]⟩/\0<=a/\a<=15) \/ ∃ b w a,o=⟨7,b,w,[],[],a,[]⟩/\0<=a/\a<=15):=by
  obtain ⟨k,b,w,p,q,a,t⟩:=o;unfold opB fE at h;simp only [Bool.and_eq_true] at h;refine ⟨h.1,?_⟩;obtain ⟨_,h⟩:=h;split at h
  · rename_i e; simp at e h; obtain ⟨⟨⟨h1,h2⟩,h3⟩,h4⟩:=h; subst e h1 h2; exact .inl ⟨_,_,_,_,rfl,h3,h4⟩
  · split at h
    · rename_i e; simp at e h; obtain ⟨⟨⟨h1,h2⟩,h3⟩,h4⟩:=h; subst e h1 h2 h3; exact .inr (.inl ⟨_,_,_,rfl,h4⟩)
    · split at h
      · rename_i e; simp at e h; obtain ⟨⟨⟨h1,h2⟩,h3⟩,h4⟩:=h; subst e h1 h2; exact .inr (.inr (.inl ⟨_,_,_,_,rfl,h3,h4⟩))
      · split at h
        · rename_i e; simp at e h; obtain ⟨⟨⟨h1,h2⟩,h3⟩,h4⟩:=h; subst h1 h2 h3; rcases e with rfl | rfl
          · exact .inr (.inr (.inr (.inl ⟨_,_,_,rfl,h4⟩)))
          · exact .inr (.inr (.inr (.inr (.inl ⟨_,_,_,rfl,h4⟩))))
        · split at h
          · rename_i e; simp at e h; obtain ⟨⟨⟨h1,h2⟩,h3⟩,h4⟩:=h; subst h1 h2 h3; rcases e with rfl | rfl
            · exact .inr (.inr (.inr (.inr (.inr (.inl ⟨_,_,_,rfl,h4⟩)))))
            · exact .inr (.inr (.inr (.inr (.inr (.inr ⟨_,_,_,rfl,h4⟩)))))
          · simp at h
theorem yd {o:OpD} (h:bc o.branch=true/\bc o.who=true):aB (au o) 32 4=bZ o.kind :: o.branch :: o.who :: aK 32 4 (ce o) [] 3:=by
 have h1:=kR (iK h.1);have h2:=kR (iK h.2);have h0:=KE o.kind;unfold aB au;have e:((32:UInt8).toNat:Int)=32:=rfl;have k1:=lU (c:=32) (m:=4) (r:=o.branch++32 :: (o.who++32 :: ce o)) (acc:=[]) (n:=0) h0 (by omega)
 have k2:=lU (c:=32) (m:=4) (r:=o.who++32 :: ce o) (acc:=[]) (n:=1) h1 (by omega)
 have k3:=lU (c:=32) (m:=4) (r:=ce o) (acc:=[]) (n:=2) h2 (by omega)
 rw [e] at k1 k2 k3;rw [k1,k2,k3]; rfl
theorem BR {t:List Str} (h:eV t=true):(∀ l ∈ t,(124:UInt8) ∉ l)/\t.length<=10:=by
 unfold eV bD at h;simp only [Bool.and_eq_true,decide_eq_true_eq,List.all_eq_true] at h;refine ⟨fun l hl q=>?_,h.2.1⟩;have:=h.1 l hl;unfold eo at this;rw [List.all_eq_true] at this;have:=this _ q;simp at this
theorem iy {s:Str} (h:(32:UInt8) ∉ s):aK 32 4 s [] 3=[s]:=qm (c:=32) h
theorem qi {s r:Str} (h:(32:UInt8) ∉ s):aK 32 4 (s++32 :: r) [] 3=[s,r]:=by
 have k:=lU (c:=32) (m:=4) (r:=r) (acc:=[]) (n:=3) h (by omega)
 have e:((32:UInt8).toNat:Int)=32:=rfl;rw [e] at k;rw [k,qk (Nat.le_refl 4)]; rfl
theorem mE {p:Str} (h:c6 p=true):(32:UInt8) ∉ p:=kR (kV (by rw [gD]; exact h)).1
theorem OW {o:OpD} (h:opB o=true):rdS (aB (au o) 32 4)=o:=by
 obtain ⟨hn,h⟩:=kS h;rw [yd hn];rcases h with ⟨b,w,p,t,rfl,h1,h2⟩ | ⟨b,w,p,rfl,h1⟩ | ⟨b,w,p,q,rfl,h1,h2⟩ | ⟨b,w,q,rfl,h1⟩ | ⟨b,w,q,rfl,h1⟩ | ⟨b,w,a,rfl,h1,h2⟩ | ⟨b,w,a,rfl,h1,h2⟩
 ·have e:ce ⟨1,b,w,p,[],0,t⟩=p++32 :: bS t:=rfl;rw [e,qi (mE h1)];obtain ⟨g1,g2⟩:=BR h2;have e2:=FL g1 (by omega)
  show (⟨1,b,w,p,[],0,(aB (bS t) 124 11).drop 1⟩:OpD)=_
  rw [e2]; rfl
 ·have e:ce ⟨2,b,w,p,[],0,[]⟩=p:=rfl;rw [e,iy (mE h1)]; rfl
 ·have e:ce ⟨3,b,w,p,q,0,[]⟩=p++32 :: q:=rfl;rw [e,qi (mE h1)]; rfl
 ·have e:ce ⟨4,b,w,[],q,0,[]⟩=q:=rfl;rw [e,iy (kR (iK h1))]; rfl
 ·have e:ce ⟨5,b,w,[],q,0,[]⟩=q:=rfl;rw [e,iy (kR (iK h1))]; rfl
 ·have e:ce ⟨6,b,w,[],[],a,[]⟩=cj a.toNat:=rfl;rw [e,iy (qn (by omega))]
  show (⟨6,b,w,[],[],iM (cj a.toNat),[]⟩:OpD)=_
  rw [CA (by omega),show ((a.toNat:Nat):Int)=a by omega]
 ·have e:ce ⟨7,b,w,[],[],a,[]⟩=cj a.toNat:=rfl;rw [e,iy (qn (by omega))]
  show (⟨7,b,w,[],[],iM (cj a.toNat),[]⟩:OpD)=_
  rw [CA (by omega),show ((a.toNat:Nat):Int)=a by omega]
theorem OS {num:Str->Int} (hnum:∀ n:Nat,n < 100->num (cj n)=n) {o:OpD} (h:opB o=true):rdI num (aB (au o) 32 4)=o:=by
 obtain ⟨hn,h⟩:=kS h;rw [yd hn];rcases h with ⟨b,w,p,t,rfl,h1,h2⟩ | ⟨b,w,p,rfl,h1⟩ | ⟨b,w,p,q,rfl,h1,h2⟩ | ⟨b,w,q,rfl,h1⟩ | ⟨b,w,q,rfl,h1⟩ | ⟨b,w,a,rfl,h1,h2⟩ | ⟨b,w,a,rfl,h1,h2⟩
 ·have e:ce ⟨1,b,w,p,[],0,t⟩=p++32 :: bS t:=rfl;rw [e,qi (mE h1)];obtain ⟨g1,g2⟩:=BR h2;have e2:=sr g1 []
  show (⟨1,b,w,p,[],0,if bS t=[] then [] else (spl 124 (bS t) []).drop 1⟩:OpD)=_
  rw [e2];cases t with
  | nil=>rfl
  | cons l t=>rw [if_neg (by simp [bS])]; rfl
 ·have e:ce ⟨2,b,w,p,[],0,[]⟩=p:=rfl;rw [e,iy (mE h1)]; rfl
 ·have e:ce ⟨3,b,w,p,q,0,[]⟩=p++32 :: q:=rfl;rw [e,qi (mE h1)]; rfl
 ·have e:ce ⟨4,b,w,[],q,0,[]⟩=q:=rfl;rw [e,iy (kR (iK h1))]; rfl
 ·have e:ce ⟨5,b,w,[],q,0,[]⟩=q:=rfl;rw [e,iy (kR (iK h1))]; rfl
 ·have e:ce ⟨6,b,w,[],[],a,[]⟩=cj a.toNat:=rfl;rw [e,iy (qn (by omega))]
  show (⟨6,b,w,[],[],num (cj a.toNat),[]⟩:OpD)=_
  rw [hnum _ (by omega),show ((a.toNat:Nat):Int)=a by omega]
 ·have e:ce ⟨7,b,w,[],[],a,[]⟩=cj a.toNat:=rfl;rw [e,iy (qn (by omega))]
  show (⟨7,b,w,[],[],num (cj a.toNat),[]⟩:OpD)=_
  rw [hnum _ (by omega),show ((a.toNat:Nat):Int)=a by omega]
theorem R6 {o:OpD} (h:opB o=true):¬ (aB (au o) 32 4).length < 4:=by
 obtain ⟨hn,_⟩:=kS h;rw [yd hn];have:0 < (aK 32 4 (ce o) [] 3).length:=by
  cases ce o with
  | nil=>simp [aK]
  | cons x r =>
   rw [aK];split
   ·split
    ·simp
    ·have g:∀ (r c:Str) (n:Nat),0 < (aK 32 4 r c n).length:=by
      intro r
      induction r with
      | nil=>intro c n; simp [aK]
      | cons x r ih =>
       intro c n;rw [aK];split
       ·split
        ·simp
        ·exact ih _ _
       ·simp
     exact g _ _ _
   ·simp
 simp only [List.length_cons];omega
theorem As {p:List Str->OpD} (hp:∀ o,opB o=true->p (aB (au o) 32 4)=o) {o:OpD} (h:opB o=true):bN p (au o)=(o,true):=by
 unfold bN;rw [if_neg (R6 h),hp o h,if_pos ⟨h,rfl⟩]
theorem nP {p:List Str->OpD} {s:Str} (h:(bN p s).2=true):opB (bN p s).1=true/\au (bN p s).1=s:=by
 unfold bN at h ⊢;split at h
 ·cases h
 ·rename_i q;rw [if_neg q];split at h
  ·rename_i g; rw [if_pos g]; exact g
  ·cases h
end Vx
end Go.Proofs.YtonkagjdfpacmaaGreatDoor
set_option linter.unusedVariables false
set_option linter.unusedSimpArgs false
namespace Go.Proofs.YtonkagjdfpacmaaGreatDoor
set_option maxHeartbeats 4000000
namespace Vx
open Go.RowKit Go.Lib
theorem j5 {P:Program} (k:Nat) (w:World) (dT sT ty elem:TypeId) (b o dLen dCap:Nat) (a:Addr) (sLen sCap:Nat) (cs:List Value)
  (hu:P.underlying dT=some (.slice elem)) (hs:(P.info? elem).map (·.size)=some k) (hn:cs.length=Nat.min sLen dLen * k)
  (hsrc:∀ (j:Nat) v,cs[j]? = some v->w.cell? (a.add j)=some v) (hc:∀ j,j < cs.length->(w.cell? ⟨b,o+j,none⟩).isSome=true) (hf:∀ j,j < cs.length->w.frozen? ⟨b,o+j,none⟩=false) (h1:∀ v ∈ cs,v.oneCell'=true) :
  (Builtin.copy_ #[dT,sT] ty #[.slice (some ⟨b,o,none⟩) dLen dCap,.slice (some a) sLen sCap]).run P w = .ok (goInt (Nat.min sLen dLen)) (w.setCells b o cs):=by
 have hl:=run_loadCells_list (P:=P) w a cs hsrc;have hst:=run_storeCells_cells (P:=P) b o cs 0 w (by simpa using hc) (by simpa using hf) h1
 cases hq:P.info? elem with
 | none=>simp [hq] at hs
 | some i =>
  have hi:i.size=k:=by simpa [hq] using hs
  simp [Builtin.copy_,run_underlying hu,Builtin.lenOf,Builtin.firstCells,sizeOf,typeInfo,hq,hi,<- hn,hl,hst]
theorem wp_copy_runI {P:Program} (w:World) {o:Oper} {a:Act} {K:Act->World->Prop} {Q:Exit->Act->World->Prop} (d s:Operand) (t t':TypeId)
  (ho:o.op = .call { callee:=.builtin .copy,args:=#[d,s],argTypes:=#[t,t'] }) (v u:Value) (hd:a.eval d=v) (hs:a.eval s=u) {v':Value} {w':World}
  (hr:(Builtin.copy_ #[t,t'] o.type #[v,u]).run P w = .ok v' w') (h:K (a.put o.dst v') w'):o.wp P a w K Q:=by
 unfold Oper.wp execOp;simp only [ho,resolve,invoke,builtin,Sem.run_bind,Sem.run_pure,Result.andThen_ok,List.map_toArray,List.map_cons,List.map_nil,hd,hs,hr];exact h
theorem wpList_copy_runI {P:Program} (w:World) {ops:Array Oper} {rest:List Oper} {o:Oper} {a:Act} {Q:Exit->Act->World->Prop} (hgd:o.guard=none) (d s:Operand) (t t':TypeId)
  (ho:o.op = .call { callee:=.builtin .copy,args:=#[d,s],argTypes:=#[t,t'] }) (v u:Value) (hd:a.eval d=v) (hs:a.eval s=u) {v':Value} {w':World}
  (hr:(Builtin.copy_ #[t,t'] o.type #[v,u]).run P w = .ok v' w') (h:wpList P ops Q rest (a.put o.dst v') w'):wpList P ops Q (o :: rest) a w :=
 wpList_plain hgd fun _ hK=>wp_copy_runI w d s t t' ho v u hd hs hr (hK _ _ h)
theorem step_copy_runI {P:Program} {ops:Array Oper} {o:Oper} {a:Act} {w:World} {K:Act->World->Prop} {Q:Exit->Act->World->Prop} {E:Prop}
  (hg:o.guard=none) (d x:Operand) (dT sT:TypeId) (hop:o.op=Op.call { callee:=Callee.builtin Builtin.copy,args:=#[d,x],argTypes:=#[dT,sT] })
  (v u:Value) (hd:a.eval d=v) (hx:a.eval x=u) {v':Value} {w':World} (hr:(Builtin.copy_ #[dT,sT] o.type #[v,u]).run P w = .ok v' w') (hK:K (a.put o.dst v') w') :
  if Region.wanted o (yielded ops a.tmps)=true then Oper.wp P o a w K Q else E:=by
 have hw:Region.wanted o (yielded ops a.tmps)=true:=by simp [Region.wanted,hg]
 rw [if_pos hw];unfold Oper.wp;simp [execOp,hop,resolve,invoke,builtin,hd,hx,hr,Result.andThen];exact hK
theorem qD (b:Nat) (vs:List Value) (o:Nat) (w:World) (h:∀ j,j < vs.length->(w.cell? ⟨b,o+j,none⟩).isSome=true) (k:Nat) (hk:(w.cell? ⟨b,k,none⟩).isSome=true):((w.setCells b o vs).cell? ⟨b,k,none⟩).isSome=true:=by
 by_cases hin:o<=k/\k < o+vs.length
 ·have:=World.cell?_setCells_in b vs o w h (k - o) (by omega)
  rw [show o+(k - o)=k by omega] at this
  rw [this]; rfl
 ·rw [World.cell?_setCells_out b vs o w ⟨b,k,none⟩ (fun _ _=>by show k < o \/ o+vs.length<=k; omega)]
  exact hk
set_option maxRecDepth 100000 in
theorem Jo (b n c i vb m vc:Nat) (cs vs:List Value) (w:World) (hi:i < n) (hm:0 < m) (hroom:n+m<=c) (hc63:c<=9223372036854775807) (hvb:vb ≠ b)
  (hcl:cs.length=n * 2) (hvl:vs.length=m * 2)
  (hcs:∀ (j:Nat) v,cs[j]? = some v->w.cell? ⟨b,j,none⟩=some v) (hsp:∀ j,j < (n+m) * 2->(w.cell? ⟨b,j,none⟩).isSome=true) (hfz:∀ j,j < (n+m) * 2->w.frozen? ⟨b,j,none⟩=false)
  (hvs:∀ (j:Nat) v,vs[j]? = some v->w.cell? ⟨vb,j,none⟩=some v) (h1c:∀ v ∈ cs,v.oneCell'=true) (h1v:∀ v ∈ vs,v.oneCell'=true)
  (tA tB:TypeId) (kA kB:Nat) (hsa:w.shape? vb=some (tA,kA)) (hsb:w.shape? b=some (tB,kB)) (hkB:kB ≠ 0) (hfa:w.frozen? ⟨vb,0,none⟩=false) (hfe:w.frozen? ⟨vb,kA,none⟩=false) :
  Calls Tryz.prog 168 #[.slice (some ⟨b,0,none⟩) n c,.int .i64 i,.slice (some ⟨vb,0,none⟩) m vc] w fun e w' =>
   e = .returned (.slice (some ⟨b,0,none⟩) (n+m) c)/\w'=(w.drew.setCells b ((i+m) * 2) (cs.drop (i * 2))).setCells b (i * 2) vs:=by
 have hz1:¬ ((m:Int)=0):=by omega
 have hz2:¬ ((i:Int)=(n:Int)):=by omega
 have hsz:(Tryz.prog.info? 99).map (·.size)=some 2:=by kernel_rfl
 have hov:∀ lb cb,(callFunc 196 #[.slice (some ⟨vb,0,none⟩) m vc,.slice (some ⟨b,(i+m) * 2,none⟩) lb cb]).run Tryz.prog w = .ok (.value (.bool false)) w:=fun lb cb=>by
  rw [run_callFunc_extern Tryz.func196 (by kernel_rfl) (by kernel_rfl) (by kernel_rfl) (e:=Extern.SlicesOverlaps.overlaps #[85,85] #[4]) (by kernel_rfl),
   Lib.run_overlaps_apart w 85 4 99 Tryz.underlying85 2 Tryz.sizeOf99 ⟨vb,0,none⟩ ⟨b,(i+m) * 2,none⟩ m vc lb cb hvb tA tB kA kB hsa hsb hkB hfa hfe]
  rfl
 have hdl:(cs.drop (i * 2)).length=(n - i) * 2:=by rw [List.length_drop,hcl]; omega
 have mixed:Tryz.prog.follows .mixedOrders=true:=mixed;have hw1:IntKind.i64.wrap ((i:Int)+(m:Int))=(i:Int)+(m:Int):=by rw [IntKind.wrap_i64]; omega
 have hb1:(0:Int)<=(i:Int)+(m:Int):=by omega
 have hin:i<=n:=by omega
 have htn:((i:Int)+(m:Int)).toNat=i+m:=by omega
 have hb2:¬ (c=i+m):=by omega
 have hb3:(i:Int)<=(n:Int)+(m:Int):=by omega
 have hb4:¬ (c=i):=by omega
 have hcp1:∀ ty dc sc,(Builtin.copy_ #[85,85] ty #[.slice (some ⟨b,(i+m) * 2,none⟩) (n+m - (i+m)) dc,.slice (some ⟨b,i * 2,none⟩) (n+m - i) sc]).run Tryz.prog w.drew = .ok (goInt (Nat.min (n+m - i) (n+m - (i+m)))) (w.drew.setCells b ((i+m) * 2) (cs.drop (i * 2))):=fun ty dc sc =>
  j5 2 w.drew _ _ ty 99 b ((i+m) * 2) (n+m - (i+m)) dc ⟨b,i * 2,none⟩ (n+m - i) sc (cs.drop (i * 2)) Tryz.underlying85 hsz (by rw [hdl]; simp only [Nat.min_def]; split <;> omega)
   (fun j v hj=>by rw [Addr.add_lit]; exact hcs (i * 2+j) v (by rwa [List.getElem?_drop] at hj))
   (fun j hj=>hsp _ (by omega)) (fun j hj=>hfz _ (by omega)) (fun v hv=>h1c v (List.mem_of_mem_drop hv))
 obtain ⟨W1,hW1⟩:∃ W1,W1=w.drew.setCells b ((i+m) * 2) (cs.drop (i * 2)):=⟨_,rfl⟩;have hsp1:∀ k,k < (n+m) * 2->(W1.cell? ⟨b,k,none⟩).isSome=true:=fun k hk=>by
  rw [hW1];exact qD b (cs.drop (i * 2)) ((i+m) * 2) w.drew (fun j hj=>hsp _ (by omega)) _ (hsp k hk)
 have hcp2:∀ (W:World),(∀ x,W.cell? x=W1.cell? x)->(∀ x,W.frozen? x=W1.frozen? x) -> ∀ ty dc,(Builtin.copy_ #[85,85] ty #[.slice (some ⟨b,i * 2,none⟩) (n+m - i) dc,.slice (some ⟨vb,0,none⟩) m vc]).run Tryz.prog W = .ok (goInt (Nat.min m (n+m - i))) (W.setCells b (i * 2) vs):=fun W hWc hWf ty dc =>
  j5 2 W _ _ ty 99 b (i * 2) (n+m - i) dc ⟨vb,0,none⟩ m vc vs Tryz.underlying85 hsz (by rw [hvl]; simp only [Nat.min_def]; split <;> omega)
   (fun j v hj=>by
    rw [Addr.add_lit,Nat.zero_add,hWc,hW1,World.cell?_setCells_out b _ _ _ _ (fun h _=>absurd h hvb)];exact hvs j v hj)
   (fun j hj=>by rw [hWc]; exact hsp1 _ (by omega)) (fun j hj=>by rw [hWf,hW1,World.frozen?_setCells]; exact hfz _ (by omega)) h1v
 rw [<- hW1] at hcp1
 go_enter Tryz.func168,Tryz.ntmps168
 go_wp2_with (simp only [hov])
 go_region_law_o (refine step_copy_runI rfl _ _ 85 85 rfl _ _ (by simp [Act.eval,Act.put]) (by simp [Act.eval,Act.put]) (hcp1 _ _ _) ?_)
 go_wp2_with (at_builtin; refine wpList_copy_runI _ rfl _ _ 85 85 rfl _ _ rfl rfl (hcp2 _ (fun _=>rfl) (fun _=>rfl) _ _) ?_)
 go_ret
 first | exact ⟨rfl,rfl⟩ | exact ⟨rfl,by rw [hW1]⟩
set_option maxRecDepth 100000 in
theorem AQ (v1 v2:Value) (base:Option Addr) (n c vb m vc:Nat) (w w':World) (v':Value) (hm:0 < m) (h1:v1 = .slice base n c) (hn:n<=c) (hb:base=none->c=0) (h2:v2 = .slice (some ⟨vb,0,none⟩) m vc)
  (hrun:(Builtin.append_ #[85,85] 85 #[v1,v2]).run Tryz.prog w = .ok v' w') :
  Calls Tryz.prog 168 #[v1,.int .i64 n,v2] w fun e w1=>e = .returned v'/\w1=w':=by
 subst h1 h2;have hz1:¬ ((m:Int)=0):=by omega
 have mixed:Tryz.prog.follows .mixedOrders=true:=mixed
 go_enter Tryz.func168,Tryz.ntmps168
 cases base with
 | none =>
  have h0:=hb rfl;have h00:n=0:=by omega
  subst h0 h00
  go_wp2_with (at_builtin; refine Lib.wpList_append_run _ rfl _ _ _ _ rfl _ _ rfl rfl _ _ hrun ?_)
  go_ret
  exact ⟨rfl,rfl⟩
 | some a =>
  obtain ⟨ab,ao,asp⟩:=a
  go_wp2_with (at_builtin; refine Lib.wpList_append_run _ rfl _ _ _ _ rfl _ _ rfl rfl _ _ hrun ?_)
  all_goals (go_ret; exact ⟨rfl,rfl⟩)
set_option maxRecDepth 100000 in
theorem Jm (b n c i vb m vc:Nat) (cs vs:List Value) (w:World) (hi:i < n) (hm:0 < m) (hnc:n<=c) (hroom:c < n+m) (hbig:(n+m) * 40<=140737488355328)
  (hcl:cs.length=n * 2) (hvl:vs.length=m * 2)
  (hcs:∀ (j:Nat) v,cs[j]? = some v->w.cell? ⟨b,j,none⟩=some v)
  (hvs:∀ (j:Nat) v,vs[j]? = some v->w.cell? ⟨vb,j,none⟩=some v) (h1c:∀ v ∈ cs,v.oneCell'=true) (h1v:∀ v ∈ vs,v.oneCell'=true) :
  Calls Tryz.prog 168 #[.slice (some ⟨b,0,none⟩) n c,.int .i64 i,.slice (some ⟨vb,0,none⟩) m vc] w fun e w' =>
   e = .returned (.slice (some ⟨w.heap.size,0,none⟩) (n+m) (grownCap w (n+m) c 99)) /\
   w'=(((w.alloc (.cells ((cs.take (i * 2)).toArray++Builtin.zeroCells #[.string ⟨#[]⟩,.slice none 0 0] (n+m - i)++Builtin.zeroCells #[.string ⟨#[]⟩,.slice none 0 0] (grownCap w (n+m) c 99 - (n+m))) 99)).drew.setCells w.heap.size (i * 2) vs).drew).setCells w.heap.size ((i+m) * 2) (cs.drop (i * 2)):=by
 have mixed:Tryz.prog.follows .mixedOrders=true:=mixed;obtain ⟨i0,hi0,hz0,hzs,hzb⟩:∃ i0,Tryz.prog.info? 99=some i0/\i0.zero=some (.agg #[.string ⟨#[]⟩,.slice none 0 0])/\i0.size=2/\i0.bytes=40 :=
  info_parts (show (Tryz.prog.info? 99).map (fun i=>(i.zero,i.size,i.bytes))=some (some (.agg #[.string ⟨#[]⟩,.slice none 0 0]),2,40) by kernel_rfl)
 have hz1:¬ ((m:Int)=0):=by omega
 have hz2:¬ ((i:Int)=(n:Int)):=by omega
 have hz3:(c:Int) < (n:Int)+(m:Int):=by omega
 have hsz:(Tryz.prog.info? 99).map (·.size)=some 2:=by rw [hi0]; simp [hzs]
 have hbw:b < w.heap.size:=block_lt_of_cell (hcs 0 _ (List.getElem?_eq_getElem (by omega)))
 have hvw:vb < w.heap.size:=block_lt_of_cell (hvs 0 _ (List.getElem?_eq_getElem (by omega)))
 have hkk:(n:Int)+(m:Int) - (i:Int)=((n+m - i:Nat):Int):=by omega
 have hik:i+(n+m - i)=n+m:=by omega
 have hold:(Builtin.firstCells i0.size i (.slice (some ⟨b,0,none⟩) i c)).run Tryz.prog w.drew = .ok (cs.take (i * 2)).toArray w.drew:=by
  rw [hzs];exact run_firstCells_some w.drew 2 i ⟨b,0,none⟩ i c (cs.take (i * 2)) (by rw [List.length_take]; omega) (fun j v hj=>by
   rw [Addr.add_lit];rw [List.getElem?_take] at hj;split at hj
   ·rw [Nat.zero_add]; exact hcs j v hj
   ·cases hj)
 have hrz:∀ ty,(Builtin.append_ #[85,3] ty #[.slice (some ⟨b,0,none⟩) i c,.int .i64 ((n:Int)+(m:Int) - (i:Int))]).run Tryz.prog w =
   .ok (.slice (some ⟨w.heap.size,0,none⟩) (n+m) (grownCap w (n+m) c 99)) (w.drew.alloc (.cells ((cs.take (i * 2)).toArray++Builtin.zeroCells #[.string ⟨#[]⟩,.slice none 0 0] (n+m - i)++Builtin.zeroCells #[.string ⟨#[]⟩,.slice none 0 0] (grownCap w (n+m) c 99 - (n+m))) 99)):=fun ty=>by
  have h:=Lib.run_append_grow_zeros w 85 3 ty 99 i0 _ .i64 .i64 Tryz.underlying85 Tryz.underlying3 hi0 hz0 (some ⟨b,0,none⟩) i c (cs.take (i * 2)) hold (n+m - i) (by omega) (by omega) (by omega) (by omega) (by rw [hzb]; omega) (by rw [hzb,hik]; exact growslice_fits hroom hbig)
  rw [hik] at h;rw [hkk];exact h
 obtain ⟨G,hG⟩:∃ G,G=grownCap w (n+m) c 99:=⟨_,rfl⟩;obtain ⟨ROW,hROW⟩:∃ ROW:Array Value,ROW=(cs.take (i * 2)).toArray++Builtin.zeroCells #[.string ⟨#[]⟩,.slice none 0 0] (n+m - i)++Builtin.zeroCells #[.string ⟨#[]⟩,.slice none 0 0] (G - (n+m)):=⟨_,rfl⟩;rw [<- hG] at hrz ⊢;rw [<- hROW] at hrz ⊢;have hRl:(n+m) * 2<=ROW.size:=by
  rw [hROW];simp [Builtin.zeroCells];omega
 obtain ⟨W1,hW1⟩:∃ W1,W1=w.drew.alloc (.cells ROW 99):=⟨_,rfl⟩;rw [<- hW1] at hrz;have hN:∀ j,j < (n+m) * 2->(W1.cell? ⟨w.heap.size,j,none⟩).isSome=true:=fun j hj=>by rw [hW1,World.cell?_alloc_at (w:=w.drew) ROW _ w.heap.size j rfl,Array.getElem?_eq_getElem (by omega)]; rfl
 have hNf:∀ j,W1.frozen? ⟨w.heap.size,j,none⟩=false:=fun j=>by rw [hW1]; exact World.frozen?_alloc_at (w:=w.drew) ROW _ w.heap.size j rfl
 have hOb:∀ j v,w.cell? ⟨b,j,none⟩=some v->W1.cell? ⟨b,j,none⟩=some v:=fun j v h=>by rw [hW1,World.cell?_alloc_past (w:=w.drew) _ b j hbw]; exact h
 have hOv:∀ j v,w.cell? ⟨vb,j,none⟩=some v->W1.cell? ⟨vb,j,none⟩=some v:=fun j v h=>by rw [hW1,World.cell?_alloc_past (w:=w.drew) _ vb j hvw]; exact h
 have hcpA:∀ (W:World),(∀ x,W.cell? x=W1.cell? x)->(∀ x,W.frozen? x=W1.frozen? x) -> ∀ ty dc,(Builtin.copy_ #[85,85] ty #[.slice (some ⟨w.heap.size,i * 2,none⟩) (n+m - i) dc,.slice (some ⟨vb,0,none⟩) m vc]).run Tryz.prog W = .ok (goInt (Nat.min m (n+m - i))) (W.setCells w.heap.size (i * 2) vs):=fun W hWc hWf ty dc =>
  j5 2 W _ _ ty 99 w.heap.size (i * 2) (n+m - i) dc ⟨vb,0,none⟩ m vc vs Tryz.underlying85 hsz (by rw [hvl]; simp only [Nat.min_def]; split <;> omega)
   (fun j v hj=>by rw [Addr.add_lit,Nat.zero_add,hWc]; exact hOv _ v (hvs j v hj))
   (fun j hj=>by rw [hWc]; exact hN _ (by omega)) (fun j hj=>by rw [hWf]; exact hNf _) h1v
 have hGn:n+m<=G:=by rw [hG]; exact grownCap_ge w _ _ _
 have hG63:G<=9223372036854775807:=by
  have:=grownCap_le_maxLen w (n+m) c 99 (by unfold maxLen; omega)
  rw [<- hG] at this;unfold maxLen at this;omega
 have hGi:¬ (G=i):=by omega
 have hGim:¬ (G=i+m):=by omega
 have hci:¬ (c=i):=by omega
 have hbN:b ≠ w.heap.size:=by omega
 have hdl:(cs.drop (i * 2)).length=(n - i) * 2:=by rw [List.length_drop,hcl]; omega
 have hcpB:∀ (W:World),(∀ x,W.cell? x=(W1.setCells w.heap.size (i * 2) vs).cell? x)->(∀ x,W.frozen? x=(W1.setCells w.heap.size (i * 2) vs).frozen? x) -> ∀ ty dc sc,(Builtin.copy_ #[85,85] ty #[.slice (some ⟨w.heap.size,(i+m) * 2,none⟩) (n+m - (i+m)) dc,.slice (some ⟨b,i * 2,none⟩) (n - i) sc]).run Tryz.prog W = .ok (goInt (Nat.min (n - i) (n+m - (i+m)))) (W.setCells w.heap.size ((i+m) * 2) (cs.drop (i * 2))):=fun W hWc hWf ty dc sc =>
  j5 2 W _ _ ty 99 w.heap.size ((i+m) * 2) (n+m - (i+m)) dc ⟨b,i * 2,none⟩ (n - i) sc (cs.drop (i * 2)) Tryz.underlying85 hsz (by rw [hdl]; simp only [Nat.min_def]; split <;> omega)
   (fun j v hj=>by
    rw [Addr.add_lit,hWc,World.cell?_setCells_out _ _ _ _ _ (fun h _=>absurd h hbN)];exact hOb _ v (hcs (i * 2+j) v (by rwa [List.getElem?_drop] at hj)))
   (fun j hj=>by rw [hWc]; exact qD w.heap.size vs (i * 2) W1 (fun t ht=>hN _ (by omega)) _ (hN _ (by omega)))
   (fun j hj=>by rw [hWf,World.frozen?_setCells]; exact hNf _) (fun v hv=>h1c v (List.mem_of_mem_drop hv))
 subst hW1;have hE1:∀ x,((w.alloc (.cells ROW 99)).drew).cell? x=(w.drew.alloc (.cells ROW 99)).cell? x:=fun x=>rfl;have hE2:∀ x,((w.alloc (.cells ROW 99)).drew).frozen? x=(w.drew.alloc (.cells ROW 99)).frozen? x:=fun x=>rfl;have hF1:∀ x,(((w.alloc (.cells ROW 99)).drew.setCells w.heap.size (i * 2) vs).drew).cell? x=((w.drew.alloc (.cells ROW 99)).setCells w.heap.size (i * 2) vs).cell? x:=fun x=>rfl;have hF2:∀ x,(((w.alloc (.cells ROW 99)).drew.setCells w.heap.size (i * 2) vs).drew).frozen? x=((w.drew.alloc (.cells ROW 99)).setCells w.heap.size (i * 2) vs).frozen? x:=fun x=>rfl;have hw1:IntKind.i64.wrap ((i:Int)+(m:Int))=(i:Int)+(m:Int):=by rw [IntKind.wrap_i64]; omega
 have hb1:(0:Int)<=(i:Int)+(m:Int):=by omega
 have hin:i<=n:=by omega
 have htn:((i:Int)+(m:Int)).toNat=i+m:=by omega
 have hb3:(i:Int)<=(n:Int):=by omega
 clear hkk hik hold hROW hG hRl
 go_enter Tryz.func168,Tryz.ntmps168
 go_wp2_with (first
  | (at_builtin; refine Lib.wpList_append_run _ rfl _ _ _ _ rfl _ _ rfl rfl _ _ (hrz _) ?_)
  | (at_builtin; refine wpList_copy_runI _ rfl _ _ 85 85 rfl _ _ rfl rfl (hcpA _ hE1 hE2 _ _) ?_)
  | (at_builtin; refine wpList_copy_runI _ rfl _ _ 85 85 rfl _ _ rfl rfl (hcpB _ (fun _=>rfl) (fun _=>rfl) _ _ _) ?_))
 go_region_law_o (refine step_copy_runI rfl _ _ 85 85 rfl (.slice (some ⟨w.heap.size,(i+m) * 2,none⟩) (n+m - (i+m)) (G - (i+m))) (.slice (some ⟨b,i * 2,none⟩) (n - i) (c - i)) (by simp [Act.eval,Act.put]) (by simp [Act.eval,Act.put]) (hcpB _ hF1 hF2 3 (G - (i+m)) (c - i)) ?_)
 go_wp2
 go_ret
 exact ⟨rfl,rfl⟩
end Vx
end Go.Proofs.YtonkagjdfpacmaaGreatDoor
namespace Go.Proofs.YtonkagjdfpacmaaGreatDoor
set_option maxHeartbeats 4000000
namespace Vx
open Go.RowKit
theorem CE {c:Cx} {s:St} {a:Act} {w:World} {β:Nat->Value} {fp:Nat->List (Nat × Nat)} (S:SatI c s a w β fp) (hp:c.pins=[]) {e k:Nat} {R:List (List D)} (h8:s.m 8=some (.own e k true R)) :
  ∃ a',SatI c ⟨fun _=>none,ai [(8,.own e k true R)]⟩ a' w β fp/\RelL w (ai [(8,.own e k true R)]) β c [.own 8 k R] [β 8]:=by
 have hb:BlkOk w (ai [(8,Blk.own e k true R)]) β c 8 (fp 8) (.own e k true R):=by
  obtain ⟨p1,p2,p3⟩:=S.mem 8 _ h8;refine ⟨p1,p2,?_⟩;rcases p3 with p3 | ⟨b',cap,cs,f0,r1,r2,r3,r4,r5,r6,r7,r8⟩
  ·exact .inl p3
  ·exact .inr ⟨b',cap,cs,f0,r1,r2,r3,r4,r5,r6,r7,by simp⟩
 refine ⟨⟨Array.replicate c.n undef,[]⟩,⟨?_,?_,?_,?_,?_,S.fg,S.old,S.os,S.tape,S.output,S.size,rfl,by simp,by simp [hp]⟩,?_⟩
 ·intro t g av h; cases h
 ·intro h blk hm; obtain ⟨rfl,rfl⟩:=dM hm; exact hb
 ·intro h blk hm; obtain ⟨rfl,rfl⟩:=dM hm; exact S.nodup 8 _ h8
 ·intro h h' blk blk' hm hm' hne; obtain ⟨rfl,rfl⟩:=dM hm; obtain ⟨rfl,rfl⟩:=dM hm'; exact absurd rfl hne
 ·intro h blk hm x hx; obtain ⟨rfl,rfl⟩:=dM hm; exact S.free 8 _ h8 x hx
 ·exact ie (h:=8) (fps:=fp) rfl hb (S.nodup 8 _ h8) (fun h' blk' hm hne=>by obtain ⟨rfl,rfl⟩:=dM hm; exact absurd rfl hne) (S.free 8 _ h8)
def d7 (l:List FileD) (i:Nat) (f:FileD):List FileD:=l.take i++(f :: l.drop i)
theorem Hm (l:List FileD) (i:Nat) (f:FileD):(ac l).take i++(ac [f]++(ac l).drop i)=ac (d7 l i f):=by simp [ac,d7,List.map_take,List.map_drop]
theorem ka {w:World} {b:Nat} {cs:Array Value} {ty:Nat} {n:Nat} (h:w.heap[b]? = some (.cells cs ty (0,0))):∀ (j:Nat) v,(cs.toList.take n)[j]? = some v->w.cell? ⟨b,j,none⟩=some v:=by
 intro j v hj;rw [World.cell_of h];rw [List.getElem?_take] at hj;split at hj
 ·simpa using hj
 ·cases hj
theorem AU {L olds news R:List Value} {i n:Nat} (hLl:(n+1) * 2<=L.length) (ho:olds.length=n * 2) (hn:news.length=2) (hi:i<=n) (hL:L.take (i * 2)=olds.take (i * 2)) :
  (((L.take ((i+1) * 2)++(olds.drop (i * 2)++R)).take (i * 2))++(news++((L.take ((i+1) * 2)++(olds.drop (i * 2)++R)).drop (i * 2+news.length)))).take ((n+1) * 2)=olds.take (i * 2)++(news++olds.drop (i * 2)):=by
 have hl:(L.take ((i+1) * 2)).length=(i+1) * 2:=by rw [List.length_take]; omega
 have a1:(L.take ((i+1) * 2)++(olds.drop (i * 2)++R)).take (i * 2)=olds.take (i * 2):=by rw [List.take_append_of_le_length (by omega),List.take_take,Nat.min_eq_left (by omega),hL]
 have a2:(L.take ((i+1) * 2)++(olds.drop (i * 2)++R)).drop (i * 2+news.length)=olds.drop (i * 2)++R:=List.drop_left' (by omega)
 rw [a1,a2];rw [show olds.take (i * 2)++(news++(olds.drop (i * 2)++R))=(olds.take (i * 2)++(news++olds.drop (i * 2)))++R by simp]
 exact List.take_left' (by simp only [List.length_append,List.length_take,List.length_drop]; omega)
theorem AW {L olds news R:List Value} {i n m:Nat} (hLl:(n+1) * 2<=L.length) (ho:olds.length=n * 2) (hn:news.length=2) (hi:i<=n) (hL:L.take (i * 2)=olds.take (i * 2)) :
  (((L.take (i * 2)++(news++L.drop m)).take ((i+1) * 2))++(olds.drop (i * 2)++R)).take ((n+1) * 2)=olds.take (i * 2)++(news++olds.drop (i * 2)):=by
 have hl:(L.take (i * 2)).length=i * 2:=by rw [List.length_take]; omega
 have a1:(L.take (i * 2)++(news++L.drop m)).take ((i+1) * 2)=olds.take (i * 2)++news:=by
  rw [<- List.append_assoc,hL];rw [hL] at hl;exact List.take_left' (by rw [List.length_append]; omega)
 rw [a1];rw [show (olds.take (i * 2)++news)++(olds.drop (i * 2)++R)=(olds.take (i * 2)++(news++olds.drop (i * 2)))++R by simp]
 exact List.take_left' (by simp only [List.length_append,List.length_take,List.length_drop]; omega)
def cInsF:Con:={ A:=List FileD × Nat × FileD,X:=Unit,n:=95,args:=fun a=>[.own 0 2 (ac a.1),.int .i64 a.2.1,.own 1 2 (ac [a.2.2])],boxes:=fun _=>[],pre:=fun a=>a.2.1<=a.1.length/\a.1.length<=1048576,post:=fun _ _=>True,res:=fun a _=>.own 8 2 (ac (d7 a.1 a.2.1 a.2.2)),fin:=fun a _=>[(8,.own 99 2 true (ac (d7 a.1 a.2.1 a.2.2)))],owns:=fun a=>[(0,99,2,ac a.1),(1,99,2,ac [a.2.2])],mv:=true }
theorem Jn:Has Tryz.prog 168 cInsF:=by
 refine ⟨fun args w=>Go.MuLone.run_callFunc_enter Tryz.func168 (by kernel_rfl) rfl args w,fun _=>⟨(),trivial⟩,fun _ _=>rfl,?_,trivial,.inl rfl⟩
 rintro ⟨l,i,f⟩ ⟨h1,h2⟩ c _ vs β fp hn hpin hlen hlen2 S;replace h1:i<=l.length:=h1;replace h2:l.length<=1048576:=h2;have hp:c.pins=[]:=hpin;have hr:=j6 hlen S;obtain ⟨v0,vs1,rfl,r0,hr⟩:=hr.uncons;obtain ⟨v1,vs2,rfl,r1,hr⟩:=hr.uncons;obtain ⟨v2,vs3,rfl,r2,hr⟩:=hr.uncons;cases hr;have m0:(cInsF.start2 (l,i,f)).m 0=some (.own 99 2 true (ac l)):=rfl;have m1:(cInsF.start2 (l,i,f)).m 1=some (.own 99 2 true (ac [f])):=rfl;have m8:(cInsF.start2 (l,i,f)).m 8=none:=rfl;have e0:v0 = β 0:=by cases r0 with | own _ _ h3 _=>exact (h3 _ _ _ _ m0).1
 have e2:v2 = β 1:=by cases r2 with | own _ _ h3 _=>exact (h3 _ _ _ _ m1).1
 have e1:v1 = .int .i64 i:=by cases r1; rfl
 subst e1;obtain ⟨_,hR1,B1⟩:=S.mem 1 _ m1;rcases B1 with ⟨_,hc,_⟩ | ⟨b1,cap1,cs1,f1,q1,q2,q3,q4,q5,q6,q7,_⟩
 ·simp [ac] at hc
 have q7:=q7 rfl;have hl1:(ac [f]).length=1:=rfl;rw [hl1] at q1 q3 q6;have hm1:(ac [f]).flatten=am f:=by simp [ac]
 have fin:∀ {v':Value} {w':World},(∃ β' fp' a',SatI c ⟨fun _=>none,ai [(8,.own 99 2 true (ac (d7 l i f)))]⟩ a' w' β' fp'/\RelL w' (ai [(8,.own 99 2 true (ac (d7 l i f)))]) β' c [.own 8 2 (ac (d7 l i f))] [v']) ->
   ∃ x,cInsF.post (l,i,f) x /\ ∃ v,Ending.returned v'=Ending.returned v /\ ∃ β' fp' a',SatI c (cInsF.end_ (l,i,f) x) a' w' β' fp'/\RelL w' (ai (cInsF.fin (l,i,f) x)) β' c [cInsF.res (l,i,f) x] [v] :=
  fun ⟨β',fp',a',g1,g2⟩=>⟨(),trivial,_,rfl,β',fp',a',g1,g2⟩
 by_cases hin:i=l.length
 ·-- at the end
  have hap:=sj (P:=Tryz.prog) ak S (ty:=85) (d:=8) (K:=fun av m=>av = .own 8 2 (ac l++ac [f])/\m 8=some (.own 99 2 true (ac l++ac [f]))) (t:=85) (t2:=85) r0 r2 (by
   simp -implicitDefEqProofs [cInsF,fe,ae,bC,AV.base,AV.moved,m0,m1,m8,TI.flat,jC];omega)
  obtain ⟨v',w',av,m,β',fp',g1,⟨rfl,hm8⟩,g3,g4⟩:=hap;have hins:ac l++ac [f]=ac (d7 l i f):=by subst hin; simp [ac,d7]
  have hlast:=CE g3 hp (e:=99) (k:=2) (R:=ac l++ac [f]) hm8;obtain ⟨a',s1,s2⟩:=hlast;have hv:v' = β' 8:=by cases g4 with | own _ _ h3 _=>exact (h3 99 2 true (ac l++ac [f]) hm8).1
  rw [<- hv] at s2;rw [hins] at s1 s2;have hcall:Calls Tryz.prog 168 #[v0,.int .i64 i,v2] c.w0 fun e w1=>e = .returned v'/\w1=w':=by
   obtain ⟨_,_,B0⟩:=S.mem 0 _ m0;subst hin;rcases B0 with ⟨p1,p2,p3⟩ | ⟨b,cap,cs,f0,p1,p2,p3,p4,p5,p6,p7,_⟩
   ·have:l=[]:=by cases l with | nil=>rfl | cons=>simp [ac] at p2
    subst this;exact AQ v0 v2 none 0 0 b1 1 cap1 c.w0 w' v' (by omega) (by rw [e0,p1]) (by omega) (by simp) (by rw [e2,q1]) g1
   ·rw [eFiles_length] at p1 p3;exact AQ v0 v2 (some ⟨b,0,none⟩) l.length cap b1 1 cap1 c.w0 w' v' (by omega) (by rw [e0,p1]) p3 (by simp) (by rw [e2,q1]) g1
  refine hcall.mono ?_;rintro e w1 ⟨rfl,rfl⟩;exact fin ⟨β',fp',a',s1,s2⟩
 ·have hlt:i < l.length:=by omega
  obtain ⟨_,hR0,B0⟩:=S.mem 0 _ m0;rcases B0 with ⟨_,p2,_⟩ | ⟨b,cap,cs,f0,p1,p2,p3,p4,p5,p6,p7,_⟩
  ·exfalso;have:l.length=0:=by rw [<- eFiles_length,p2]; rfl
   omega
  have p7:=p7 rfl;rw [eFiles_length] at p1 p3 p6;have hcsl:cs.toList.length=cap * 2:=by rw [Array.length_toList,p5]
  have hcsl1:cs1.toList.length=cap1 * 2:=by rw [Array.length_toList,q5]
  have hcl:(cs.toList.take (l.length * 2)).length=l.length * 2:=by rw [List.length_take,hcsl]; omega
  have hvl:(cs1.toList.take (1 * 2)).length=1 * 2:=by rw [List.length_take,hcsl1]; omega
  have hvb:b1 ≠ b:=fun e=>S.disj 0 1 _ _ m0 m1 (by decide) b (by simp [Ob,p1]) (by simp [Ob,q1,e])
  have hI:=fun {w':World} {b' cap':Nat} {cs':Array Value} hblk hcap hmax hsz hcells hb' hother hsize hos htape hout =>
   AX (w':=w') (b':=b') (cap':=cap') (cs':=cs') (i:=i) S hp m0 m1 (by rw [eFiles_length]; exact h1) (by rw [p7]; exact p6) (by rw [q7]; exact q6) hblk hcap hmax hsz hcells hb' hother hsize hos htape hout
  rw [eFiles_length,hl1] at hI;rw [Hm] at hI;have hother0:∀ x,(∀ n cc,β 0 ≠ .slice (some ⟨x,0,none⟩) n cc)->x ≠ b:=fun x h e=>h l.length cap (by rw [e]; exact p1)
  by_cases hroom:l.length+1<=cap
  ·have hcall:=Jo b l.length cap i b1 1 cap1 (cs.toList.take (l.length * 2)) (cs1.toList.take (1 * 2)) c.w0 hlt (by omega) hroom (by unfold maxLen at p4; omega) hvb hcl hvl (ka p2)
    (fun j hj=>by rw [World.cell_of p2,Array.getElem?_eq_getElem (show j < cs.size by omega)]; rfl) (fun j hj=>by simp [World.frozen?,p2]) (ka q2) p6.oneCell q6.oneCell
    _ _ _ _ (by simp [World.shape?,q2]; exact ⟨rfl,rfl⟩) (by simp [World.shape?,p2]; exact ⟨rfl,rfl⟩) (by rw [p5]; omega) (by simp [World.frozen?,q2]) (by simp [World.frozen?,q2])
   rw [e0,e2,p1,q1];refine hcall.mono ?_;rintro e w' ⟨rfl,rfl⟩;have hcs:cs=cs.toList.toArray:=by simp
   have hb0:c.w0.drew.heap[b]? = some (.cells cs.toList.toArray 99 (0,0)):=by rw [<- hcs]; exact p2
   have hdl:((cs.toList.take (l.length * 2)).drop (i * 2)).length=(l.length - i) * 2:=by rw [List.length_drop,hcl]; omega
   obtain ⟨z1,z2,z3,z4,z5,z6⟩:=fO b ((cs.toList.take (l.length * 2)).drop (i * 2)) ((i+1) * 2) c.w0.drew cs.toList _ _ hb0 (by rw [hdl,hcsl]; omega)
   obtain ⟨y1,y2,y3,y4,y5,y6⟩:=fO b (cs1.toList.take (1 * 2)) (i * 2) _ _ _ _ z1 (by rw [hvl]; simp; omega)
   refine fin (hI y1 hroom p4 ?_ ?_ (.inr ⟨_,_,p1⟩) (fun x _ hx=>(y2 x (hother0 x hx)).trans (z2 x (hother0 x hx))) ?_ (y4.trans z4) (y5.trans z5) (y6.trans z6))
   ·simp only [List.size_toArray]; simp; omega
   ·rw [List.toList_toArray];exact AU (by omega) hcl (by simpa using hvl) h1 (by rw [List.take_take,Nat.min_eq_left (by omega)])
   ·rw [y3,z3]; exact Nat.le_refl _
  ·have hcall:=Jm b l.length cap i b1 1 cap1 (cs.toList.take (l.length * 2)) (cs1.toList.take (1 * 2)) c.w0 hlt (by omega) p3 (by omega) (by omega) hcl hvl (ka p2) (ka q2) p6.oneCell q6.oneCell
   rw [e0,e2,p1,q1];refine hcall.mono ?_;rintro e w' ⟨rfl,rfl⟩;have hGn:l.length+1<=grownCap c.w0 (l.length+1) cap 99:=grownCap_ge c.w0 _ _ _;have hGm:=grownCap_le_maxLen c.w0 (l.length+1) cap 99 (by unfold maxLen; omega)
   generalize grownCap c.w0 (l.length+1) cap 99=G at hGn hGm ⊢;generalize hrow:((cs.toList.take (l.length * 2)).take (i * 2)).toArray++Builtin.zeroCells #[.string ⟨#[]⟩,.slice none 0 0] (l.length+1 - i)++Builtin.zeroCells #[.string ⟨#[]⟩,.slice none 0 0] (G - (l.length+1))=ROW;have hrl:ROW.size=G * 2:=by
    rw [<- hrow];simp [Builtin.zeroCells];omega
   have hrt:ROW.toList.take (i * 2)=(cs.toList.take (l.length * 2)).take (i * 2):=by
    rw [<- hrow];simp only [Array.toList_append,List.append_assoc];rw [List.take_left' (by rw [List.length_take,hcl]; omega)]
   have hrl2:ROW.toList.length=G * 2:=by rw [Array.length_toList,hrl]
   have hb0:(c.w0.alloc (.cells ROW 99)).drew.heap[c.w0.heap.size]? = some (.cells ROW.toList.toArray 99 (0,0)):=by
    have:ROW=ROW.toList.toArray:=by simp
    rw [<- this];exact heap_alloc_new c.w0 _
   have hdl:((cs.toList.take (l.length * 2)).drop (i * 2)).length=(l.length - i) * 2:=by rw [List.length_drop,hcl]; omega
   obtain ⟨z1,z2,z3,z4,z5,z6⟩:=fO c.w0.heap.size (cs1.toList.take (1 * 2)) (i * 2) (c.w0.alloc (.cells ROW 99)).drew ROW.toList _ _ hb0 (by rw [hvl,hrl2]; omega)
   obtain ⟨y1,y2,y3,y4,y5,y6⟩:=fO c.w0.heap.size ((cs.toList.take (l.length * 2)).drop (i * 2)) ((i+1) * 2) ((c.w0.alloc (.cells ROW 99)).drew.setCells c.w0.heap.size (i * 2) (cs1.toList.take (1 * 2))).drew _ _ _ z1 (by
    rw [hdl];simp only [List.length_append,List.length_take,List.length_drop,hrl2,hcsl1];omega)
   refine fin (hI y1 hGn hGm ?_ ?_ (.inl (Nat.le_refl _)) (fun x hx _=>(y2 x (by omega)).trans ((z2 x (by omega)).trans (heap_alloc_old c.w0 _ hx))) ?_ (y4.trans z4) (y5.trans z5) (y6.trans z6))
   ·simp only [List.size_toArray,List.length_append,List.length_take,List.length_drop,hrl2,hcsl1,hcsl];omega
   ·rw [List.toList_toArray];exact AW (by omega) hcl (by simpa using hvl) h1 hrt
   ·rw [y3]
    show _<=(World.setCells _ _ _ _).heap.size
    rw [z3]
    show _<=(c.w0.alloc _).heap.size
    simp
end Vx
end Go.Proofs.YtonkagjdfpacmaaGreatDoor
namespace Go.Proofs.YtonkagjdfpacmaaGreatDoor
set_option maxHeartbeats 4000000
namespace Vx
open Go.RowKit Go.Lib
set_option maxRecDepth 100000 in
theorem Jr (b n c i vb m vc:Nat) (cs vs:List Value) (w:World) (hi:i < n) (hm:0 < m) (hroom:n+m<=c) (hc63:c<=9223372036854775807) (hvb:vb ≠ b)
  (hcl:cs.length=n * 2) (hvl:vs.length=m * 2)
  (hcs:∀ (j:Nat) v,cs[j]? = some v->w.cell? ⟨b,j,none⟩=some v) (hsp:∀ j,j < (n+m) * 2->(w.cell? ⟨b,j,none⟩).isSome=true) (hfz:∀ j,j < (n+m) * 2->w.frozen? ⟨b,j,none⟩=false)
  (hvs:∀ (j:Nat) v,vs[j]? = some v->w.cell? ⟨vb,j,none⟩=some v) (h1c:∀ v ∈ cs,v.oneCell'=true) (h1v:∀ v ∈ vs,v.oneCell'=true)
  (tA tB:TypeId) (kA kB:Nat) (hsa:w.shape? vb=some (tA,kA)) (hsb:w.shape? b=some (tB,kB)) (hkB:kB ≠ 0) (hfa:w.frozen? ⟨vb,0,none⟩=false) (hfe:w.frozen? ⟨vb,kA,none⟩=false) :
  Calls Tryz.prog 198 #[.slice (some ⟨b,0,none⟩) n c,.int .i64 i,.slice (some ⟨vb,0,none⟩) m vc] w fun e w' =>
   e = .returned (.slice (some ⟨b,0,none⟩) (n+m) c)/\w'=(w.drew.setCells b ((i+m) * 2) (cs.drop (i * 2))).setCells b (i * 2) vs:=by
 have hz1:¬ ((m:Int)=0):=by omega
 have hz2:¬ ((i:Int)=(n:Int)):=by omega
 have hsz:(Tryz.prog.info? 89).map (·.size)=some 2:=by kernel_rfl
 have hov:∀ lb cb,(callFunc 221 #[.slice (some ⟨vb,0,none⟩) m vc,.slice (some ⟨b,(i+m) * 2,none⟩) lb cb]).run Tryz.prog w = .ok (.value (.bool false)) w:=fun lb cb=>by
  rw [run_callFunc_extern Tryz.func221 (by kernel_rfl) (by kernel_rfl) (by kernel_rfl) (e:=Extern.SlicesOverlaps.overlaps #[25,25] #[4]) (by kernel_rfl),
   Lib.run_overlaps_apart w 25 4 89 Tryz.underlying25 2 Tryz.sizeOf89 ⟨vb,0,none⟩ ⟨b,(i+m) * 2,none⟩ m vc lb cb hvb tA tB kA kB hsa hsb hkB hfa hfe]
  rfl
 have hdl:(cs.drop (i * 2)).length=(n - i) * 2:=by rw [List.length_drop,hcl]; omega
 have mixed:Tryz.prog.follows .mixedOrders=true:=mixed;have hw1:IntKind.i64.wrap ((i:Int)+(m:Int))=(i:Int)+(m:Int):=by rw [IntKind.wrap_i64]; omega
 have hb1:(0:Int)<=(i:Int)+(m:Int):=by omega
 have hin:i<=n:=by omega
 have htn:((i:Int)+(m:Int)).toNat=i+m:=by omega
 have hb2:¬ (c=i+m):=by omega
 have hb3:(i:Int)<=(n:Int)+(m:Int):=by omega
 have hb4:¬ (c=i):=by omega
 have hcp1:∀ ty dc sc,(Builtin.copy_ #[25,25] ty #[.slice (some ⟨b,(i+m) * 2,none⟩) (n+m - (i+m)) dc,.slice (some ⟨b,i * 2,none⟩) (n+m - i) sc]).run Tryz.prog w.drew = .ok (goInt (Nat.min (n+m - i) (n+m - (i+m)))) (w.drew.setCells b ((i+m) * 2) (cs.drop (i * 2))):=fun ty dc sc =>
  j5 2 w.drew _ _ ty 89 b ((i+m) * 2) (n+m - (i+m)) dc ⟨b,i * 2,none⟩ (n+m - i) sc (cs.drop (i * 2)) Tryz.underlying25 hsz (by rw [hdl]; simp only [Nat.min_def]; split <;> omega)
   (fun j v hj=>by rw [Addr.add_lit]; exact hcs (i * 2+j) v (by rwa [List.getElem?_drop] at hj))
   (fun j hj=>hsp _ (by omega)) (fun j hj=>hfz _ (by omega)) (fun v hv=>h1c v (List.mem_of_mem_drop hv))
 obtain ⟨W1,hW1⟩:∃ W1,W1=w.drew.setCells b ((i+m) * 2) (cs.drop (i * 2)):=⟨_,rfl⟩;have hsp1:∀ k,k < (n+m) * 2->(W1.cell? ⟨b,k,none⟩).isSome=true:=fun k hk=>by
  rw [hW1];exact qD b (cs.drop (i * 2)) ((i+m) * 2) w.drew (fun j hj=>hsp _ (by omega)) _ (hsp k hk)
 have hcp2:∀ (W:World),(∀ x,W.cell? x=W1.cell? x)->(∀ x,W.frozen? x=W1.frozen? x) -> ∀ ty dc,(Builtin.copy_ #[25,25] ty #[.slice (some ⟨b,i * 2,none⟩) (n+m - i) dc,.slice (some ⟨vb,0,none⟩) m vc]).run Tryz.prog W = .ok (goInt (Nat.min m (n+m - i))) (W.setCells b (i * 2) vs):=fun W hWc hWf ty dc =>
  j5 2 W _ _ ty 89 b (i * 2) (n+m - i) dc ⟨vb,0,none⟩ m vc vs Tryz.underlying25 hsz (by rw [hvl]; simp only [Nat.min_def]; split <;> omega)
   (fun j v hj=>by
    rw [Addr.add_lit,Nat.zero_add,hWc,hW1,World.cell?_setCells_out b _ _ _ _ (fun h _=>absurd h hvb)];exact hvs j v hj)
   (fun j hj=>by rw [hWc]; exact hsp1 _ (by omega)) (fun j hj=>by rw [hWf,hW1,World.frozen?_setCells]; exact hfz _ (by omega)) h1v
 rw [<- hW1] at hcp1
 go_enter Tryz.func198,Tryz.ntmps198
 go_wp2_with (simp only [hov])
 go_region_law_o (refine step_copy_runI rfl _ _ 25 25 rfl _ _ (by simp [Act.eval,Act.put]) (by simp [Act.eval,Act.put]) (hcp1 _ _ _) ?_)
 go_wp2_with (at_builtin; refine wpList_copy_runI _ rfl _ _ 25 25 rfl _ _ rfl rfl (hcp2 _ (fun _=>rfl) (fun _=>rfl) _ _) ?_)
 go_ret
 first | exact ⟨rfl,rfl⟩ | exact ⟨rfl,by rw [hW1]⟩
set_option maxRecDepth 100000 in
theorem AR (v1 v2:Value) (base:Option Addr) (n c vb m vc:Nat) (w w':World) (v':Value) (hm:0 < m) (h1:v1 = .slice base n c) (hn:n<=c) (hb:base=none->c=0) (h2:v2 = .slice (some ⟨vb,0,none⟩) m vc)
  (hrun:(Builtin.append_ #[25,25] 25 #[v1,v2]).run Tryz.prog w = .ok v' w') :
  Calls Tryz.prog 198 #[v1,.int .i64 n,v2] w fun e w1=>e = .returned v'/\w1=w':=by
 subst h1 h2;have hz1:¬ ((m:Int)=0):=by omega
 have mixed:Tryz.prog.follows .mixedOrders=true:=mixed
 go_enter Tryz.func198,Tryz.ntmps198
 cases base with
 | none =>
  have h0:=hb rfl;have h00:n=0:=by omega
  subst h0 h00
  go_wp2_with (at_builtin; refine Lib.wpList_append_run _ rfl _ _ _ _ rfl _ _ rfl rfl _ _ hrun ?_)
  go_ret
  exact ⟨rfl,rfl⟩
 | some a =>
  obtain ⟨ab,ao,asp⟩:=a
  go_wp2_with (at_builtin; refine Lib.wpList_append_run _ rfl _ _ _ _ rfl _ _ rfl rfl _ _ hrun ?_)
  all_goals (go_ret; exact ⟨rfl,rfl⟩)
set_option maxRecDepth 100000 in
theorem Jp (b n c i vb m vc:Nat) (cs vs:List Value) (w:World) (hi:i < n) (hm:0 < m) (hnc:n<=c) (hroom:c < n+m) (hbig:(n+m) * 24<=140737488355328)
  (hcl:cs.length=n * 2) (hvl:vs.length=m * 2)
  (hcs:∀ (j:Nat) v,cs[j]? = some v->w.cell? ⟨b,j,none⟩=some v)
  (hvs:∀ (j:Nat) v,vs[j]? = some v->w.cell? ⟨vb,j,none⟩=some v) (h1c:∀ v ∈ cs,v.oneCell'=true) (h1v:∀ v ∈ vs,v.oneCell'=true) :
  Calls Tryz.prog 198 #[.slice (some ⟨b,0,none⟩) n c,.int .i64 i,.slice (some ⟨vb,0,none⟩) m vc] w fun e w' =>
   e = .returned (.slice (some ⟨w.heap.size,0,none⟩) (n+m) (grownCap w (n+m) c 89)) /\
   w'=(((w.alloc (.cells ((cs.take (i * 2)).toArray++Builtin.zeroCells #[.string ⟨#[]⟩,.int .i64 0] (n+m - i)++Builtin.zeroCells #[.string ⟨#[]⟩,.int .i64 0] (grownCap w (n+m) c 89 - (n+m))) 89)).drew.setCells w.heap.size (i * 2) vs).drew).setCells w.heap.size ((i+m) * 2) (cs.drop (i * 2)):=by
 have mixed:Tryz.prog.follows .mixedOrders=true:=mixed;obtain ⟨i0,hi0,hz0,hzs,hzb⟩:∃ i0,Tryz.prog.info? 89=some i0/\i0.zero=some (.agg #[.string ⟨#[]⟩,.int .i64 0])/\i0.size=2/\i0.bytes=24 :=
  info_parts (show (Tryz.prog.info? 89).map (fun i=>(i.zero,i.size,i.bytes))=some (some (.agg #[.string ⟨#[]⟩,.int .i64 0]),2,24) by kernel_rfl)
 have hz1:¬ ((m:Int)=0):=by omega
 have hz2:¬ ((i:Int)=(n:Int)):=by omega
 have hz3:(c:Int) < (n:Int)+(m:Int):=by omega
 have hsz:(Tryz.prog.info? 89).map (·.size)=some 2:=by rw [hi0]; simp [hzs]
 have hbw:b < w.heap.size:=block_lt_of_cell (hcs 0 _ (List.getElem?_eq_getElem (by omega)))
 have hvw:vb < w.heap.size:=block_lt_of_cell (hvs 0 _ (List.getElem?_eq_getElem (by omega)))
 have hkk:(n:Int)+(m:Int) - (i:Int)=((n+m - i:Nat):Int):=by omega
 have hik:i+(n+m - i)=n+m:=by omega
 have hold:(Builtin.firstCells i0.size i (.slice (some ⟨b,0,none⟩) i c)).run Tryz.prog w.drew = .ok (cs.take (i * 2)).toArray w.drew:=by
  rw [hzs];exact run_firstCells_some w.drew 2 i ⟨b,0,none⟩ i c (cs.take (i * 2)) (by rw [List.length_take]; omega) (fun j v hj=>by
   rw [Addr.add_lit];rw [List.getElem?_take] at hj;split at hj
   ·rw [Nat.zero_add]; exact hcs j v hj
   ·cases hj)
 have hrz:∀ ty,(Builtin.append_ #[25,3] ty #[.slice (some ⟨b,0,none⟩) i c,.int .i64 ((n:Int)+(m:Int) - (i:Int))]).run Tryz.prog w =
   .ok (.slice (some ⟨w.heap.size,0,none⟩) (n+m) (grownCap w (n+m) c 89)) (w.drew.alloc (.cells ((cs.take (i * 2)).toArray++Builtin.zeroCells #[.string ⟨#[]⟩,.int .i64 0] (n+m - i)++Builtin.zeroCells #[.string ⟨#[]⟩,.int .i64 0] (grownCap w (n+m) c 89 - (n+m))) 89)):=fun ty=>by
  have h:=Lib.run_append_grow_zeros w 25 3 ty 89 i0 _ .i64 .i64 Tryz.underlying25 Tryz.underlying3 hi0 hz0 (some ⟨b,0,none⟩) i c (cs.take (i * 2)) hold (n+m - i) (by omega) (by omega) (by omega) (by omega) (by rw [hzb]; omega) (by rw [hzb,hik]; exact growslice_fits hroom hbig)
  rw [hik] at h;rw [hkk];exact h
 obtain ⟨G,hG⟩:∃ G,G=grownCap w (n+m) c 89:=⟨_,rfl⟩;obtain ⟨ROW,hROW⟩:∃ ROW:Array Value,ROW=(cs.take (i * 2)).toArray++Builtin.zeroCells #[.string ⟨#[]⟩,.int .i64 0] (n+m - i)++Builtin.zeroCells #[.string ⟨#[]⟩,.int .i64 0] (G - (n+m)):=⟨_,rfl⟩;rw [<- hG] at hrz ⊢;rw [<- hROW] at hrz ⊢;have hRl:(n+m) * 2<=ROW.size:=by
  rw [hROW];simp [Builtin.zeroCells];omega
 obtain ⟨W1,hW1⟩:∃ W1,W1=w.drew.alloc (.cells ROW 89):=⟨_,rfl⟩;rw [<- hW1] at hrz;have hN:∀ j,j < (n+m) * 2->(W1.cell? ⟨w.heap.size,j,none⟩).isSome=true:=fun j hj=>by rw [hW1,World.cell?_alloc_at (w:=w.drew) ROW _ w.heap.size j rfl,Array.getElem?_eq_getElem (by omega)]; rfl
 have hNf:∀ j,W1.frozen? ⟨w.heap.size,j,none⟩=false:=fun j=>by rw [hW1]; exact World.frozen?_alloc_at (w:=w.drew) ROW _ w.heap.size j rfl
 have hOb:∀ j v,w.cell? ⟨b,j,none⟩=some v->W1.cell? ⟨b,j,none⟩=some v:=fun j v h=>by rw [hW1,World.cell?_alloc_past (w:=w.drew) _ b j hbw]; exact h
 have hOv:∀ j v,w.cell? ⟨vb,j,none⟩=some v->W1.cell? ⟨vb,j,none⟩=some v:=fun j v h=>by rw [hW1,World.cell?_alloc_past (w:=w.drew) _ vb j hvw]; exact h
 have hcpA:∀ (W:World),(∀ x,W.cell? x=W1.cell? x)->(∀ x,W.frozen? x=W1.frozen? x) -> ∀ ty dc,(Builtin.copy_ #[25,25] ty #[.slice (some ⟨w.heap.size,i * 2,none⟩) (n+m - i) dc,.slice (some ⟨vb,0,none⟩) m vc]).run Tryz.prog W = .ok (goInt (Nat.min m (n+m - i))) (W.setCells w.heap.size (i * 2) vs):=fun W hWc hWf ty dc =>
  j5 2 W _ _ ty 89 w.heap.size (i * 2) (n+m - i) dc ⟨vb,0,none⟩ m vc vs Tryz.underlying25 hsz (by rw [hvl]; simp only [Nat.min_def]; split <;> omega)
   (fun j v hj=>by rw [Addr.add_lit,Nat.zero_add,hWc]; exact hOv _ v (hvs j v hj))
   (fun j hj=>by rw [hWc]; exact hN _ (by omega)) (fun j hj=>by rw [hWf]; exact hNf _) h1v
 have hGn:n+m<=G:=by rw [hG]; exact grownCap_ge w _ _ _
 have hG63:G<=9223372036854775807:=by
  have:=grownCap_le_maxLen w (n+m) c 89 (by unfold maxLen; omega)
  rw [<- hG] at this;unfold maxLen at this;omega
 have hGi:¬ (G=i):=by omega
 have hGim:¬ (G=i+m):=by omega
 have hci:¬ (c=i):=by omega
 have hbN:b ≠ w.heap.size:=by omega
 have hdl:(cs.drop (i * 2)).length=(n - i) * 2:=by rw [List.length_drop,hcl]; omega
 have hcpB:∀ (W:World),(∀ x,W.cell? x=(W1.setCells w.heap.size (i * 2) vs).cell? x)->(∀ x,W.frozen? x=(W1.setCells w.heap.size (i * 2) vs).frozen? x) -> ∀ ty dc sc,(Builtin.copy_ #[25,25] ty #[.slice (some ⟨w.heap.size,(i+m) * 2,none⟩) (n+m - (i+m)) dc,.slice (some ⟨b,i * 2,none⟩) (n - i) sc]).run Tryz.prog W = .ok (goInt (Nat.min (n - i) (n+m - (i+m)))) (W.setCells w.heap.size ((i+m) * 2) (cs.drop (i * 2))):=fun W hWc hWf ty dc sc =>
  j5 2 W _ _ ty 89 w.heap.size ((i+m) * 2) (n+m - (i+m)) dc ⟨b,i * 2,none⟩ (n - i) sc (cs.drop (i * 2)) Tryz.underlying25 hsz (by rw [hdl]; simp only [Nat.min_def]; split <;> omega)
   (fun j v hj=>by
    rw [Addr.add_lit,hWc,World.cell?_setCells_out _ _ _ _ _ (fun h _=>absurd h hbN)];exact hOb _ v (hcs (i * 2+j) v (by rwa [List.getElem?_drop] at hj)))
   (fun j hj=>by rw [hWc]; exact qD w.heap.size vs (i * 2) W1 (fun t ht=>hN _ (by omega)) _ (hN _ (by omega)))
   (fun j hj=>by rw [hWf,World.frozen?_setCells]; exact hNf _) (fun v hv=>h1c v (List.mem_of_mem_drop hv))
 subst hW1;have hE1:∀ x,((w.alloc (.cells ROW 89)).drew).cell? x=(w.drew.alloc (.cells ROW 89)).cell? x:=fun x=>rfl;have hE2:∀ x,((w.alloc (.cells ROW 89)).drew).frozen? x=(w.drew.alloc (.cells ROW 89)).frozen? x:=fun x=>rfl;have hF1:∀ x,(((w.alloc (.cells ROW 89)).drew.setCells w.heap.size (i * 2) vs).drew).cell? x=((w.drew.alloc (.cells ROW 89)).setCells w.heap.size (i * 2) vs).cell? x:=fun x=>rfl;have hF2:∀ x,(((w.alloc (.cells ROW 89)).drew.setCells w.heap.size (i * 2) vs).drew).frozen? x=((w.drew.alloc (.cells ROW 89)).setCells w.heap.size (i * 2) vs).frozen? x:=fun x=>rfl;have hw1:IntKind.i64.wrap ((i:Int)+(m:Int))=(i:Int)+(m:Int):=by rw [IntKind.wrap_i64]; omega
 have hb1:(0:Int)<=(i:Int)+(m:Int):=by omega
 have hin:i<=n:=by omega
 have htn:((i:Int)+(m:Int)).toNat=i+m:=by omega
 have hb3:(i:Int)<=(n:Int):=by omega
 clear hkk hik hold hROW hG hRl
 go_enter Tryz.func198,Tryz.ntmps198
 go_wp2_with (first
  | (at_builtin; refine Lib.wpList_append_run _ rfl _ _ _ _ rfl _ _ rfl rfl _ _ (hrz _) ?_)
  | (at_builtin; refine wpList_copy_runI _ rfl _ _ 25 25 rfl _ _ rfl rfl (hcpA _ hE1 hE2 _ _) ?_)
  | (at_builtin; refine wpList_copy_runI _ rfl _ _ 25 25 rfl _ _ rfl rfl (hcpB _ (fun _=>rfl) (fun _=>rfl) _ _ _) ?_))
 go_region_law_o (refine step_copy_runI rfl _ _ 25 25 rfl (.slice (some ⟨w.heap.size,(i+m) * 2,none⟩) (n+m - (i+m)) (G - (i+m))) (.slice (some ⟨b,i * 2,none⟩) (n - i) (c - i)) (by simp [Act.eval,Act.put]) (by simp [Act.eval,Act.put]) (hcpB _ hF1 hF2 3 (G - (i+m)) (c - i)) ?_)
 go_wp2
 go_ret
 exact ⟨rfl,rfl⟩
def db (l:List HeadD) (i:Nat) (f:HeadD):List HeadD:=l.take i++(f :: l.drop i)
theorem Hn (l:List HeadD) (i:Nat) (f:HeadD):(ah l).take i++(ah [f]++(ah l).drop i)=ah (db l i f):=by simp [ah,db,List.map_take,List.map_drop]
def cInsH:Con:={ A:=List HeadD × Nat × HeadD,X:=Unit,n:=95,args:=fun a=>[.own 0 2 (ah a.1),.int .i64 a.2.1,.own 1 2 (ah [a.2.2])],boxes:=fun _=>[],pre:=fun a=>a.2.1<=a.1.length/\a.1.length<=1048576,post:=fun _ _=>True,res:=fun a _=>.own 8 2 (ah (db a.1 a.2.1 a.2.2)),fin:=fun a _=>[(8,.own 89 2 true (ah (db a.1 a.2.1 a.2.2)))],owns:=fun a=>[(0,89,2,ah a.1),(1,89,2,ah [a.2.2])],mv:=true }
theorem Jq:Has Tryz.prog 198 cInsH:=by
 refine ⟨fun args w=>Go.MuLone.run_callFunc_enter Tryz.func198 (by kernel_rfl) rfl args w,fun _=>⟨(),trivial⟩,fun _ _=>rfl,?_,trivial,.inl rfl⟩
 rintro ⟨l,i,f⟩ ⟨h1,h2⟩ c _ vs β fp hn hpin hlen hlen2 S;replace h1:i<=l.length:=h1;replace h2:l.length<=1048576:=h2;have hp:c.pins=[]:=hpin;have hr:=j6 hlen S;obtain ⟨v0,vs1,rfl,r0,hr⟩:=hr.uncons;obtain ⟨v1,vs2,rfl,r1,hr⟩:=hr.uncons;obtain ⟨v2,vs3,rfl,r2,hr⟩:=hr.uncons;cases hr;have m0:(cInsH.start2 (l,i,f)).m 0=some (.own 89 2 true (ah l)):=rfl;have m1:(cInsH.start2 (l,i,f)).m 1=some (.own 89 2 true (ah [f])):=rfl;have m8:(cInsH.start2 (l,i,f)).m 8=none:=rfl;have e0:v0 = β 0:=by cases r0 with | own _ _ h3 _=>exact (h3 _ _ _ _ m0).1
 have e2:v2 = β 1:=by cases r2 with | own _ _ h3 _=>exact (h3 _ _ _ _ m1).1
 have e1:v1 = .int .i64 i:=by cases r1; rfl
 subst e1;obtain ⟨_,hR1,B1⟩:=S.mem 1 _ m1;rcases B1 with ⟨_,hc,_⟩ | ⟨b1,cap1,cs1,f1,q1,q2,q3,q4,q5,q6,q7,_⟩
 ·simp [ah] at hc
 have q7:=q7 rfl;have hl1:(ah [f]).length=1:=rfl;rw [hl1] at q1 q3 q6;have hm1:(ah [f]).flatten=bw f:=by simp [ah]
 have fin:∀ {v':Value} {w':World},(∃ β' fp' a',SatI c ⟨fun _=>none,ai [(8,.own 89 2 true (ah (db l i f)))]⟩ a' w' β' fp'/\RelL w' (ai [(8,.own 89 2 true (ah (db l i f)))]) β' c [.own 8 2 (ah (db l i f))] [v']) ->
   ∃ x,cInsH.post (l,i,f) x /\ ∃ v,Ending.returned v'=Ending.returned v /\ ∃ β' fp' a',SatI c (cInsH.end_ (l,i,f) x) a' w' β' fp'/\RelL w' (ai (cInsH.fin (l,i,f) x)) β' c [cInsH.res (l,i,f) x] [v] :=
  fun ⟨β',fp',a',g1,g2⟩=>⟨(),trivial,_,rfl,β',fp',a',g1,g2⟩
 by_cases hin:i=l.length
 ·-- at the end
  have hap:=sj (P:=Tryz.prog) ak S (ty:=25) (d:=8) (K:=fun av m=>av = .own 8 2 (ah l++ah [f])/\m 8=some (.own 89 2 true (ah l++ah [f]))) (t:=25) (t2:=25) r0 r2 (by
   simp -implicitDefEqProofs [cInsH,show ah [f]=[bw f] from rfl,bw,qu,jM,fe,ae,bC,AV.base,AV.moved,m0,m1,m8,TI.flat,jC]
   omega)
  obtain ⟨v',w',av,m,β',fp',g1,⟨rfl,hm8⟩,g3,g4⟩:=hap;have hins:ah l++ah [f]=ah (db l i f):=by subst hin; simp [ah,db]
  have hlast:=CE g3 hp (e:=89) (k:=2) (R:=ah l++ah [f]) hm8;obtain ⟨a',s1,s2⟩:=hlast;have hv:v' = β' 8:=by cases g4 with | own _ _ h3 _=>exact (h3 89 2 true (ah l++ah [f]) hm8).1
  rw [<- hv] at s2;rw [hins] at s1 s2;have hcall:Calls Tryz.prog 198 #[v0,.int .i64 i,v2] c.w0 fun e w1=>e = .returned v'/\w1=w':=by
   obtain ⟨_,_,B0⟩:=S.mem 0 _ m0;subst hin;rcases B0 with ⟨p1,p2,p3⟩ | ⟨b,cap,cs,f0,p1,p2,p3,p4,p5,p6,p7,_⟩
   ·have:l=[]:=by cases l with | nil=>rfl | cons=>simp [ah] at p2
    subst this;exact AR v0 v2 none 0 0 b1 1 cap1 c.w0 w' v' (by omega) (by rw [e0,p1]) (by omega) (by simp) (by rw [e2,q1]) g1
   ·rw [eHeads_length] at p1 p3;exact AR v0 v2 (some ⟨b,0,none⟩) l.length cap b1 1 cap1 c.w0 w' v' (by omega) (by rw [e0,p1]) p3 (by simp) (by rw [e2,q1]) g1
  refine hcall.mono ?_;rintro e w1 ⟨rfl,rfl⟩;exact fin ⟨β',fp',a',s1,s2⟩
 ·have hlt:i < l.length:=by omega
  obtain ⟨_,hR0,B0⟩:=S.mem 0 _ m0;rcases B0 with ⟨_,p2,_⟩ | ⟨b,cap,cs,f0,p1,p2,p3,p4,p5,p6,p7,_⟩
  ·exfalso;have:l.length=0:=by rw [<- eHeads_length,p2]; rfl
   omega
  have p7:=p7 rfl;rw [eHeads_length] at p1 p3 p6;have hcsl:cs.toList.length=cap * 2:=by rw [Array.length_toList,p5]
  have hcsl1:cs1.toList.length=cap1 * 2:=by rw [Array.length_toList,q5]
  have hcl:(cs.toList.take (l.length * 2)).length=l.length * 2:=by rw [List.length_take,hcsl]; omega
  have hvl:(cs1.toList.take (1 * 2)).length=1 * 2:=by rw [List.length_take,hcsl1]; omega
  have hvb:b1 ≠ b:=fun e=>S.disj 0 1 _ _ m0 m1 (by decide) b (by simp [Ob,p1]) (by simp [Ob,q1,e])
  have hI:=fun {w':World} {b' cap':Nat} {cs':Array Value} hblk hcap hmax hsz hcells hb' hother hsize hos htape hout =>
   AX (w':=w') (b':=b') (cap':=cap') (cs':=cs') (i:=i) S hp m0 m1 (by rw [eHeads_length]; exact h1) (by rw [p7]; exact p6) (by rw [q7]; exact q6) hblk hcap hmax hsz hcells hb' hother hsize hos htape hout
  rw [eHeads_length,hl1] at hI;rw [Hn] at hI;have hother0:∀ x,(∀ n cc,β 0 ≠ .slice (some ⟨x,0,none⟩) n cc)->x ≠ b:=fun x h e=>h l.length cap (by rw [e]; exact p1)
  by_cases hroom:l.length+1<=cap
  ·have hcall:=Jr b l.length cap i b1 1 cap1 (cs.toList.take (l.length * 2)) (cs1.toList.take (1 * 2)) c.w0 hlt (by omega) hroom (by unfold maxLen at p4; omega) hvb hcl hvl (ka p2)
    (fun j hj=>by rw [World.cell_of p2,Array.getElem?_eq_getElem (show j < cs.size by omega)]; rfl) (fun j hj=>by simp [World.frozen?,p2]) (ka q2) p6.oneCell q6.oneCell
    _ _ _ _ (by simp [World.shape?,q2]; exact ⟨rfl,rfl⟩) (by simp [World.shape?,p2]; exact ⟨rfl,rfl⟩) (by rw [p5]; omega) (by simp [World.frozen?,q2]) (by simp [World.frozen?,q2])
   rw [e0,e2,p1,q1];refine hcall.mono ?_;rintro e w' ⟨rfl,rfl⟩;have hcs:cs=cs.toList.toArray:=by simp
   have hb0:c.w0.drew.heap[b]? = some (.cells cs.toList.toArray 89 (0,0)):=by rw [<- hcs]; exact p2
   have hdl:((cs.toList.take (l.length * 2)).drop (i * 2)).length=(l.length - i) * 2:=by rw [List.length_drop,hcl]; omega
   obtain ⟨z1,z2,z3,z4,z5,z6⟩:=fO b ((cs.toList.take (l.length * 2)).drop (i * 2)) ((i+1) * 2) c.w0.drew cs.toList _ _ hb0 (by rw [hdl,hcsl]; omega)
   obtain ⟨y1,y2,y3,y4,y5,y6⟩:=fO b (cs1.toList.take (1 * 2)) (i * 2) _ _ _ _ z1 (by rw [hvl]; simp; omega)
   refine fin (hI y1 hroom p4 ?_ ?_ (.inr ⟨_,_,p1⟩) (fun x _ hx=>(y2 x (hother0 x hx)).trans (z2 x (hother0 x hx))) ?_ (y4.trans z4) (y5.trans z5) (y6.trans z6))
   ·simp only [List.size_toArray]; simp; omega
   ·rw [List.toList_toArray];exact AU (by omega) hcl (by simpa using hvl) h1 (by rw [List.take_take,Nat.min_eq_left (by omega)])
   ·rw [y3,z3]; exact Nat.le_refl _
  ·have hcall:=Jp b l.length cap i b1 1 cap1 (cs.toList.take (l.length * 2)) (cs1.toList.take (1 * 2)) c.w0 hlt (by omega) p3 (by omega) (by omega) hcl hvl (ka p2) (ka q2) p6.oneCell q6.oneCell
   rw [e0,e2,p1,q1];refine hcall.mono ?_;rintro e w' ⟨rfl,rfl⟩;have hGn:l.length+1<=grownCap c.w0 (l.length+1) cap 89:=grownCap_ge c.w0 _ _ _;have hGm:=grownCap_le_maxLen c.w0 (l.length+1) cap 89 (by unfold maxLen; omega)
   generalize grownCap c.w0 (l.length+1) cap 89=G at hGn hGm ⊢;generalize hrow:((cs.toList.take (l.length * 2)).take (i * 2)).toArray++Builtin.zeroCells #[.string ⟨#[]⟩,.int .i64 0] (l.length+1 - i)++Builtin.zeroCells #[.string ⟨#[]⟩,.int .i64 0] (G - (l.length+1))=ROW;have hrl:ROW.size=G * 2:=by
    rw [<- hrow];simp [Builtin.zeroCells];omega
   have hrt:ROW.toList.take (i * 2)=(cs.toList.take (l.length * 2)).take (i * 2):=by
    rw [<- hrow];simp only [Array.toList_append,List.append_assoc];rw [List.take_left' (by rw [List.length_take,hcl]; omega)]
   have hrl2:ROW.toList.length=G * 2:=by rw [Array.length_toList,hrl]
   have hb0:(c.w0.alloc (.cells ROW 89)).drew.heap[c.w0.heap.size]? = some (.cells ROW.toList.toArray 89 (0,0)):=by
    have:ROW=ROW.toList.toArray:=by simp
    rw [<- this];exact heap_alloc_new c.w0 _
   have hdl:((cs.toList.take (l.length * 2)).drop (i * 2)).length=(l.length - i) * 2:=by rw [List.length_drop,hcl]; omega
   obtain ⟨z1,z2,z3,z4,z5,z6⟩:=fO c.w0.heap.size (cs1.toList.take (1 * 2)) (i * 2) (c.w0.alloc (.cells ROW 89)).drew ROW.toList _ _ hb0 (by rw [hvl,hrl2]; omega)
   obtain ⟨y1,y2,y3,y4,y5,y6⟩:=fO c.w0.heap.size ((cs.toList.take (l.length * 2)).drop (i * 2)) ((i+1) * 2) ((c.w0.alloc (.cells ROW 89)).drew.setCells c.w0.heap.size (i * 2) (cs1.toList.take (1 * 2))).drew _ _ _ z1 (by
    rw [hdl];simp only [List.length_append,List.length_take,List.length_drop,hrl2,hcsl1];omega)
   refine fin (hI y1 hGn hGm ?_ ?_ (.inl (Nat.le_refl _)) (fun x hx _=>(y2 x (by omega)).trans ((z2 x (by omega)).trans (heap_alloc_old c.w0 _ hx))) ?_ (y4.trans z4) (y5.trans z5) (y6.trans z6))
   ·simp only [List.size_toArray,List.length_append,List.length_take,List.length_drop,hrl2,hcsl1,hcsl];omega
   ·rw [List.toList_toArray];exact AW (by omega) hcl (by simpa using hvl) h1 hrt
   ·rw [y3]
    show _<=(World.setCells _ _ _ _).heap.size
    rw [z3]
    show _<=(c.w0.alloc _).heap.size
    simp
end Vx
end Go.Proofs.YtonkagjdfpacmaaGreatDoor
namespace Go.Proofs.YtonkagjdfpacmaaGreatDoor
set_option maxHeartbeats 4000000
namespace Vx
open Go.RowKit
set_option maxRecDepth 8000
theorem z8 (b:HeadD) (p:Str) (x:Int):(ah [b]=[[D.str p,D.int .i64 x]])=(b=⟨p,x⟩):=by
 obtain ⟨q,y⟩:=b;simp -implicitDefEqProofs [ah,bw]
theorem Hl (b:HeadD) (p:Str) (x:Int):([[D.str p,D.int .i64 x]]=ah [b])=(b=⟨p,x⟩):=by rw [<- z8]; exact propext ⟨Eq.symm,Eq.symm⟩
def gtB (a b:Str):Bool:=!Go.Op.bytesLess a b && !decide (a=b)
def du (t:List HeadD) (p:Str):Nat->Nat
 | 0=>0
 | k+1=>if gtB (t.getD k default).name p then du t p k else k+1
theorem IJ (t:List HeadD):∀ x:List D,x ∈ ah t -> ∀ d:D,d ∈ x->match d with | D.sl _ _ _=>False | _=>True:=by
 intro x hx d hd;simp only [ah,List.mem_map] at hx;obtain ⟨h,_,rfl⟩:=hx;simp only [bw,List.mem_cons,List.not_mem_nil,or_false] at hd;rcases hd with rfl | rfl <;> trivial
def jl (t:List HeadD) (f:HeadD):List HeadD:=db t (du t f.name t.length) f
theorem Jt (t:List HeadD) (p:Str):∀ k,du t p k<=k:=by
 intro k
 induction k with
 | zero=>exact Nat.le_refl _
 | succ k ih=>unfold du; split <;> omega
def tq:Con:=.fn 30 (List HeadD × HeadD) (fun a=>[.sl true 2 (ah a.1),.agg [.str a.2.name,.int .i64 a.2.at_]]) (fun a=>a.1.length<=1048576) (fun a=>.own 8 2 (ah (jl a.1 a.2))) (fun a=>gB 8 (jl a.1 a.2))
theorem Jv:Has Tryz.prog 169 tq:=by
 refine ag mixed ak (HasL.cons Jq HasL.nil) [0,1,3,4,5] ((fun a n (_:Nat)=>(fun a _=>⟨Nat,fun k=>⟨[(0,true,.sl true 2 (ah a.1)),(3,true,.ptr 10 0),(4,true,.nil),(5,true,.int .i64 k)],[(10,.box 89 [.str a.2.name,.int .i64 a.2.at_])]⟩,fun k=>k<=a.1.length/\du a.1 a.2.name k=du a.1 a.2.name a.1.length,fun k=>k⟩) a n)) [] Tryz.func169 (by unfold Tryz.f169; rfl) (fun _=>⟨(),trivial⟩) ?_
 intro a ha;obtain ⟨t,f⟩:=a;replace ha:t.length<=1048576:=ha;have g1:∀ k,0 < k->(h:k - 1 < t.length)->gtB t[k - 1].name f.name=true->du t f.name (k - 1)=du t f.name k:=fun k h0 h hb=>by
  obtain ⟨j,rfl⟩:∃ j,k=j+1:=⟨k - 1,by omega⟩
  simp only [Nat.add_sub_cancel] at h hb ⊢;rw [du,if_pos (by simp -implicitDefEqProofs [List.getD_eq_getElem?_getD,h,hb])]
 have g2:∀ k,0 < k->(h:k - 1 < t.length)->gtB t[k - 1].name f.name=false->du t f.name k=k:=fun k h0 h hb=>by
  obtain ⟨j,rfl⟩:∃ j,k=j+1:=⟨k - 1,by omega⟩
  simp only [Nat.add_sub_cancel] at h hb;rw [du,if_neg (by simp -implicitDefEqProofs [List.getD_eq_getElem?_getD,h,hb])]
 have hfl:=IJ t;simp -implicitDefEqProofs [tq,cInsH,Con.fn,ae,z8,Hl]
 try dsimp only
 have hfin:∀ k,du t f.name k=du t f.name t.length->du t f.name k=k->jl t f=db t k f:=fun k h1 h2=>by unfold jl; rw [<- h1,h2]
 refine fun _=>⟨⟨t.length,rfl,Nat.le_refl _,rfl⟩,fun k hk hp=>⟨fun h0=>⟨⟨by omega,by omega⟩,fun _ _=>⟨⟨by omega,by omega⟩,fun _ _=>?_⟩⟩,fun h0=>?_⟩⟩
 ·have hlt:k - 1 < t.length:=by omega
  simp -implicitDefEqProofs [hlt,bw,D.asStr];refine ⟨fun hb hn=>⟨⟨by omega,by omega⟩,fun _ _=>⟨k - 1,by omega,⟨by omega,by rw [g1 k h0 hlt (by simp -implicitDefEqProofs [gtB,hb,hn]),hp]⟩,by omega⟩⟩,fun hx=>?_⟩
  have e:=hfin k hp (g2 k h0 hlt (by cases hq:Go.Op.bytesLess t[k - 1].name f.name with
   | true=>simp -implicitDefEqProofs [gtB,hq]
   | false=>simp -implicitDefEqProofs [gtB,hx hq]))
  exact ⟨hfl,⟨by omega,by omega⟩,t,k,f,⟨rfl,rfl,rfl⟩,⟨rfl,rfl⟩,⟨by omega,by omega⟩,e,e.symm⟩
 ·subst h0;have e:=hfin 0 hp rfl;exact ⟨hfl,⟨by omega,by omega⟩,t,0,f,⟨rfl,rfl,rfl⟩,⟨rfl,rfl⟩,⟨by omega,by omega⟩,e,e.symm⟩
def srt (l:List Str):Prop:=l.Pairwise fun a b=>a < b
theorem Dq (l:List Str) (s x:Str):x ∈ bO l s ↔ x=s \/ x ∈ l:=by
 induction l with
 | nil=>simp -implicitDefEqProofs [bO]
 | cons y l ih =>
  unfold bO;split
  ·simp only [List.mem_cons,ih];constructor
   ·rintro (h | h | h) <;> simp -implicitDefEqProofs [h]
   ·rintro (h | h | h) <;> simp -implicitDefEqProofs [h]
  ·split
   ·rename_i h;subst h;simp only [List.mem_cons];constructor
    ·intro h; exact .inr h
    ·rintro (h | h)
     ·exact .inl h
     ·exact h
   ·simp only [List.mem_cons]
theorem OK {l:List Str} (h:srt l) (s:Str):srt (bO l s):=by
 induction l with
 | nil=>simp -implicitDefEqProofs [bO,srt]
 | cons y l ih =>
  obtain ⟨h1,h2⟩:=List.pairwise_cons.1 h;unfold bO;rw [fk];split
  ·rename_i hl;have hl:y < s:=by simpa using hl
   refine List.pairwise_cons.2 ⟨fun z hz=>?_,ih h2⟩;rcases (Dq l s z).1 hz with rfl | hz
   ·exact hl
   ·exact h1 z hz
  ·rename_i hl;have hl:¬ y < s:=by simpa using hl
   split
   ·exact h
   ·rename_i hn;have hs:=mU y s hl hn;refine List.pairwise_cons.2 ⟨fun z hz=>?_,h⟩;rcases List.mem_cons.1 hz with rfl | hz
    ·exact hs
    ·exact lh hs (h1 z hz)
theorem xt (t:List FileD):∀ {l:List Str},srt l->srt (bW l t) /\ ∀ x,x ∈ bW l t ↔ x ∈ l \/ x ∈ t.map (·.path):=by
 induction t with
 | nil=>intro l h; exact ⟨h,fun x=>by simp -implicitDefEqProofs [bW]⟩
 | cons f t ih =>
  intro l h;obtain ⟨h1,h2⟩:=ih (OK h f.path);refine ⟨h1,fun x=>?_⟩
  show x ∈ bW (bO l f.path) t ↔ _
  rw [h2,Dq,List.map_cons,List.mem_cons];constructor
  ·rintro ((h | h) | h) <;> simp -implicitDefEqProofs [h]
  ·rintro (h | h | h) <;> simp -implicitDefEqProofs [h]
theorem C7 (o a b:List FileD):srt (bv o a b) /\ ∀ x,x ∈ bv o a b ↔ x ∈ (o++a++b).map (·.path):=by
 obtain ⟨h1,h2⟩:=xt o (l:=[]) .nil;obtain ⟨h3,h4⟩:=xt a h1;obtain ⟨h5,h6⟩:=xt b h3;refine ⟨h5,fun x=>?_⟩
 show x ∈ bW (bW (bW [] o) a) b ↔ _
 rw [h6,h4,h2];simp -implicitDefEqProofs [or_assoc]
theorem DT:∀ {l m:List Str},srt l->srt m->(∀ x,x ∈ l ↔ x ∈ m)->l=m
 | [],[],_,_,_=>rfl
 | [],y :: m,_,_,h=>absurd ((h y).2 (by simp)) (by simp)
 | x :: l,[],_,_,h=>absurd ((h x).1 (by simp)) (by simp)
 | x :: l,y :: m,hl,hm,h=>by
  obtain ⟨l1,l2⟩:=List.pairwise_cons.1 hl;obtain ⟨m1,m2⟩:=List.pairwise_cons.1 hm;have e:x=y:=by
   rcases List.mem_cons.1 ((h x).1 (by simp)) with e | hx
   ·exact e
   ·rcases List.mem_cons.1 ((h y).2 (by simp)) with e | hy
    ·exact e.symm
    ·exact absurd (l1 y hy) (lg (m1 x hx))
  subst e
  congr 1
  refine DT l2 m2 fun z=>?_;have hz:=h z;simp only [List.mem_cons] at hz;constructor
  ·intro q;rcases hz.1 (.inr q) with rfl | q2
   ·exact absurd (l1 z q) (jx z)
   ·exact q2
  ·intro q;rcases hz.2 (.inr q) with rfl | q2
   ·exact absurd (m1 z q) (jx z)
   ·exact q2
theorem Js (l:List HeadD) (f:HeadD) (hp:l.Pairwise fun a b=>Go.Op.bytesLess a.name b.name=true):∀ k,k<=l.length->(∀ i,du l f.name k<=i->i < k->gtB (l.getD i default).name f.name=true)/\(0 < du l f.name k->gtB (l.getD (du l f.name k - 1) default).name f.name=false):=by
 intro k
 induction k with
 | zero=>intro _; exact ⟨fun i h1 h2=>by omega,fun h=>by simp -implicitDefEqProofs [du] at h⟩
 | succ k ih =>
  intro hk;unfold du;split
  ·rename_i h;obtain ⟨h1,h2⟩:=ih (by omega)
   refine ⟨fun i h3 h4=>?_,h2⟩;rcases Nat.lt_or_ge i k with h5 | h5
   ·exact h1 i h3 h5
   ·have:i=k:=by omega
    subst this; exact h
  ·rename_i h;exact ⟨fun i h3 h4=>by omega,fun _=>by simpa using h⟩
theorem At (n:Str) (a:Int):∀ (l X:List HeadD) (k:Nat),k<=l.length->(∀ i,i < k->Go.Op.bytesLess (l.getD i default).name n=true)->(∀ i,k<=i->i < l.length->Go.Op.bytesLess (l.getD i default).name n=false /\ ¬ (l.getD i default).name=n) ->
  l.foldl (cG n a) (X,false)=if k < l.length then (X++l.take k++[⟨n,a⟩]++l.drop k,true) else (X++l,false)
 | [],X,k,hk,_,_=>by simp
 | g :: l,X,0,_,_,h2=>by
  have hg:=h2 0 (by omega) (by simp)
  have hg1:Go.Op.bytesLess g.name n=false /\ ¬ g.name=n:=by simpa using hg
  have e:cG n a (X,false) g=(X++[⟨n,a⟩]++[g],true):=by unfold cG; simp -implicitDefEqProofs [hg1]
  have e2:l.filter (fun g=>decide (g.name ≠ n))=l:=by
   rw [List.filter_eq_self];intro z hz;obtain ⟨i,hi,rfl⟩:=List.getElem_of_mem hz;have:=h2 (i+1) (by omega) (by simp; omega)
   simp -implicitDefEqProofs [List.getD_eq_getElem?_getD,hi] at this;simp -implicitDefEqProofs [this.2]
  rw [List.foldl_cons,e,qy,e2]; simp
 | g :: l,X,k+1,hk,h1,h2=>by
  have hg:=h1 0 (by omega)
  have hg:Go.Op.bytesLess g.name n=true:=by simpa using hg
  have hn:¬ g.name=n:=fun e=>by rw [e,qY] at hg; cases hg
  have e:cG n a (X,false) g=(X++[g],false):=by unfold cG; simp -implicitDefEqProofs [hg,hn]
  rw [List.foldl_cons,e,At n a l (X++[g]) k (by simpa using hk) (fun i hi=>by have:=h1 (i+1) (by omega); simpa using this) (fun i h3 h4=>by have:=h2 (i+1) (by omega) (by simp; omega); simpa using this)]
  by_cases hc:k < l.length
  ·simp -implicitDefEqProofs [hc]
  ·simp -implicitDefEqProofs [hc]
theorem Av {l:List HeadD} {n:Str} {a:Int} (hl:∀ i,0 < i->i < l.length->Go.Op.bytesLess (l.getD (i - 1) default).name (l.getD i default).name=true) (hn:∀ h ∈ l,¬ h.name=n) :
  bG l n a=jl l ⟨n,a⟩:=by
 have hp:=qA hl;obtain ⟨h1,h2⟩:=Js l ⟨n,a⟩ hp l.length (Nat.le_refl _);have hk:=Jt l n l.length;unfold jl;generalize hkk:du l (⟨n,a⟩:HeadD).name l.length=k at h1 h2 ⊢;have hk:k<=l.length:=by rw [<- hkk]; exact hk
 have hne:∀ i (hi:i < l.length),¬ (l.getD i default).name=n:=fun i hi=>by
  have:=hn l[i] (List.getElem_mem hi)
  simpa [List.getD_eq_getElem?_getD,hi] using this
 have hlt:∀ i j,(hij:i < j)->(hj:j < l.length)->Go.Op.bytesLess (l.getD i default).name (l.getD j default).name=true:=fun i j hij hj=>by
  have:=List.pairwise_iff_getElem.1 hp i j (by omega) hj hij
  simpa [List.getD_eq_getElem?_getD,hj,(show i < l.length by omega)] using this
 have b1:∀ i,i < k->Go.Op.bytesLess (l.getD i default).name n=true:=fun i hi=>by
  have q:=h2 (by omega)
  have q:Go.Op.bytesLess (l.getD (k - 1) default).name n=true:=by
   unfold gtB at q;simp only [Bool.and_eq_false_iff,Bool.not_eq_false',decide_eq_true_eq] at q;rcases q with q | q
   ·exact q
   ·exact absurd q (hne (k - 1) (by omega))
  rcases Nat.lt_or_ge i (k - 1) with h3 | h3
  ·exact wY (hlt i (k - 1) h3 (by omega)) q
  ·have:i=k - 1:=by omega
   rw [this]; exact q
 have b2:∀ i,k<=i->i < l.length->Go.Op.bytesLess (l.getD i default).name n=false /\ ¬ (l.getD i default).name=n:=fun i h3 h4=>by
  have q:=h1 i h3 h4;unfold gtB at q;simp only [Bool.and_eq_true,Bool.not_eq_true',decide_eq_false_iff_not] at q;exact q
 unfold bG hL;rw [At n a l [] k hk b1 b2];by_cases hc:k < l.length
 ·simp -implicitDefEqProofs [hc,db]
 ·have:k=l.length:=by omega
  subst this;simp -implicitDefEqProofs [db]
def dZ (l:List Bool) (i:Int) (ks:List Int):List Bool:=ks.foldl (fun l k=>if k=i then l else l.set k.toNat false) l
theorem zt (i:Int) (ks:List Int):∀ l:List Bool,(dZ l i ks).length=l.length:=by
 induction ks with
 | nil=>intro l; rfl
 | cons p r ih =>
  intro l
  show (dZ (if p=i then l else l.set p.toNat false) i r).length=_
  rw [ih]; split <;> simp
def bu (r:RepoD) (a b:Int):List Bool:=(List.range r.commits.length).map fun i=>isT (anc r a) i && isT (anc r b) i
theorem qb (r:RepoD) (a b:Int):(bu r a b).length=r.commits.length:=by simp -implicitDefEqProofs [bu]
def dX (r:RepoD) (L:List Int) (l:List Bool):List Bool:=L.foldl (fun l i=>dZ l i (ar (anc r i))) l
theorem pd (r:RepoD) (L:List Int):∀ l:List Bool,(dX r L l).length=l.length:=by
 induction L with
 | nil=>intro l; rfl
 | cons i L ih =>
  intro l
  show (dX r L (dZ l i (ar (anc r i)))).length=_
  rw [ih,zt]
def df (r:RepoD) (a b:Int):List Int:=ar (dX r (ar (bu r a b)) (bu r a b))
theorem Jx {l:List Bool} {p g:Nat}:isT (l.set p false) g=(isT l g && !decide (p=g)):=by
 unfold isT;rw [List.getD_eq_getElem?_getD,List.getD_eq_getElem?_getD];by_cases h:p=g
 ·subst h;rw [List.getElem?_set_self'];cases l[p]? <;> simp
 ·rw [List.getElem?_set_ne h]; simp -implicitDefEqProofs [h]
theorem Gz (i:Int) {ks:List Int} (hk:∀ k ∈ ks,0<=k) (g:Nat):∀ l:List Bool,isT (dZ l i ks) g=(isT l g && (decide ((g:Int)=i) || !decide ((g:Int) ∈ ks))):=by
 induction ks with
 | nil=>intro l; simp -implicitDefEqProofs [dZ]
 | cons p r ih =>
  intro l
  show isT (dZ (if p=i then l else l.set p.toNat false) i r) g=_
  rw [ih (fun k hk'=>hk k (by simp -implicitDefEqProofs [hk']))]
  have hp:=hk p (by simp)
  split
  ·rename_i h;subst h;cases hq:isT l g <;> simp
   by_cases hg:(g:Int)=p
   ·simp -implicitDefEqProofs [hg]
   ·simp -implicitDefEqProofs [hg]
  ·rename_i h;rw [Jx];have e:(p.toNat=g)=((g:Int)=p):=by apply propext; omega
   cases hq:isT l g <;> simp -implicitDefEqProofs [e]
   by_cases hg:(g:Int)=p
   ·simp -implicitDefEqProofs [hg,h]
   ·simp -implicitDefEqProofs [hg]
theorem LQ {l:List Bool}:∀ k ∈ ar l,0<=k:=fun k hk=>by obtain ⟨i,_,_,rfl⟩:=listT_mem.1 hk; omega
theorem FW (r:RepoD) (L:List Int) (g:Nat):∀ l:List Bool,isT (dX r L l) g=(isT l g && L.all fun i=>decide ((g:Int)=i) || !decide ((g:Int) ∈ ar (anc r i))):=by
 induction L with
 | nil=>intro l; simp -implicitDefEqProofs [dX]
 | cons i L ih =>
  intro l
  show isT (dX r L (dZ l i (ar (anc r i)))) g=_
  rw [ih,Gz i LQ,List.all_cons,Bool.and_assoc]
def lastB (r:RepoD) (L:List Int) (x:Int):Bool:=L.all fun y=>decide (x=y) || !decide (x ∈ ar (anc r y))
theorem BS {l m:List Bool} (hl:l.length=m.length) (p:Int->Bool) (h:∀ g:Nat,isT m g=(isT l g && p g)):ar m=(ar l).filter p:=by
 unfold ar eu;rw [<- hl,List.filter_map,List.filter_filter]
 congr 1
 apply List.filter_congr;intro g _;rw [h g,Bool.and_comm]; rfl
theorem FU (r:RepoD) (a b:Int):df r a b=(ar (bu r a b)).filter (lastB r (ar (bu r a b))) :=
 BS (pd _ _ _).symm _ fun g=>FW r _ g _
theorem wd {l:List Bool} {g:Nat} (h:isT l g=true):g < l.length:=by
 unfold isT at h;rcases Nat.lt_or_ge g l.length with h2 | h2
 ·exact h2
 ·rw [List.getD_eq_getElem?_getD,List.getElem?_eq_none h2] at h; simp at h
theorem Jw {r:RepoD} {a b:Int} (g:Nat):isT (bu r a b) g=(isT (anc r a) g && isT (anc r b) g):=by
 have hla:=eH r a;rcases Nat.lt_or_ge g r.commits.length with h | h
 ·unfold bu;rw [isT,List.getD_eq_getElem?_getD,List.getElem?_map,List.getElem?_range h]; rfl
 ·have e1:isT (bu r a b) g=false:=by
   cases q:isT (bu r a b) g with
   | false=>rfl
   | true=>have:=wd q; rw [qb] at this; omega
  have e2:isT (anc r a) g=false:=by
   cases q:isT (anc r a) g with
   | false=>rfl
   | true=>have:=wd q; rw [hla] at this; omega
  rw [e1,e2]; rfl
theorem FY (r:RepoD) (a b:Int):cE r a b (ar (anc r a)).length=ar (bu r a b):=by
 unfold cE;rw [List.take_length];refine (BS (by rw [qb,eH]) _ fun g=>?_).symm
 rw [Jw]
 congr 1
 rw [Bool.eq_iff_iff,decide_eq_true_eq,listT_mem];constructor
 ·intro h; exact ⟨g,wd h,h,rfl⟩
 ·rintro ⟨i,_,h,e⟩;have:g=i:=by omega
  rw [this]; exact h
theorem LR (l:List Bool):(ar l).Nodup:=by
 unfold ar eu;rw [List.nodup_iff_pairwise_ne,List.pairwise_map];exact (List.Pairwise.filter _ List.pairwise_lt_range).imp fun h=>by omega
theorem HN {L:List Int} (p:Int->Bool):((List.range L.length).filter fun i=>p (L.getD i 0)).map (fun j=>L.getD j 0)=L.filter p:=by
 have e:L=(List.range L.length).map fun j=>L.getD j 0:=by
  apply List.ext_getElem
  ·simp
  ·intro i h1 h2;simp -implicitDefEqProofs [List.getD_eq_getElem?_getD,h1]
 have h:L.filter p=((List.range L.length).map fun j=>L.getD j 0).filter p:=congrArg (List.filter p) e;rw [h,List.filter_map]; rfl
theorem yZ (r:RepoD) (a b:Int):df r a b=fZ r a b:=by
 rw [FU];unfold fZ;rw [FY];have hnd:=LR (bu r a b);generalize ar (bu r a b)=L at *;rw [<- HN (lastB r L)];unfold dW
 congr 1
 apply List.filter_congr;intro i hi;have hi:i < L.length:=by simpa using hi
 have gi:L.getD i 0=L[i]:=by simp -implicitDefEqProofs [List.getD_eq_getElem?_getD,hi]
 unfold lastB kp;rw [Bool.eq_iff_iff,List.all_eq_true,List.all_eq_true];simp only [List.mem_range,Bool.or_eq_true,decide_eq_true_eq,Bool.not_eq_true',decide_eq_false_iff_not];constructor
 ·intro h j hj;have gj:L.getD j 0=L[j]:=by simp -implicitDefEqProofs [List.getD_eq_getElem?_getD,hj]
  rcases h L[j] (List.getElem_mem hj) with h | h
  ·left
   rw [gi] at h;exact ((List.getElem_inj hnd).1 h).symm
  ·right; rw [gj]; exact h
 ·intro h y hy;obtain ⟨j,hj,rfl⟩:=List.getElem_of_mem hy;have gj:L.getD j 0=L[j]:=by simp -implicitDefEqProofs [List.getD_eq_getElem?_getD,hj]
  rcases h j hj with h | h
  ·left; subst h; exact gi
  ·right; rw [gj] at h; exact h
def owI (r:RepoD):Inv:=⟨Nat,fun i=>⟨[(2,true,.ptr 12 0),(3,true,.ptr 11 0),(12,true,.sl true 3 (ap r.commits)),(13,true,.int .i64 r.commits.length),(14,true,.int .i64 i)],[(12,lD),(11,.box 27 [.own 13 3 (ap (r.commits.take i)),.own 14 2 (ah r.heads)]),(13,.own 87 3 true (ap (r.commits.take i))),(14,.own 89 2 true (ah r.heads))]⟩,fun i=>i<=r.commits.length,fun i=>r.commits.length - i⟩
def gQ:Con:=.fn 35 RepoD (fun r=>[bF r]) dC (fun r=>.agg [.own 8 3 (ap r.commits),.own 9 2 (ah r.heads)]) (fun r=>iO 8 r.commits++gB 9 r.heads)
theorem jo:Has Tryz.prog 69 gQ:=by
 refine ag mixed ak (HasL.cons jJ HasL.nil) [0,1,2,3,5,12,13,14] ((fun a n (_:Nat)=>(fun r _=>owI r) a n)) [30] Tryz.func69 (by unfold Tryz.f69; rfl) (fun _=>⟨(),trivial⟩) ?_
 intro (r:RepoD) hr;obtain ⟨h1,h2,h3⟩:r.commits.length<=1048576/\(∀ c ∈ r.commits,lP c)/\r.heads.length<=1048576:=hr;simp (maxSteps:=8000000) -implicitDefEqProofs [gQ,iu,Con.fn,ae,owI,bR]
 try dsimp only
 refine ⟨Aj r.heads,⟨by omega,by omega⟩,fun _=>⟨⟨0,⟨rfl,.inl rfl⟩,Nat.zero_le _⟩,fun t ht=>⟨fun hlt=>⟨hlt,fun _=>?_⟩,fun hge=>by rw [List.take_of_length_le hge]; exact ⟨rfl,rfl⟩⟩⟩⟩
 have e:r.commits.take (t+1)=r.commits.take t++[r.commits[t]]:=bg hlt;have hc:=h2 _ (List.getElem_mem hlt);have qq:Option.map bm r.commits[t]? = some (bm r.commits[t]):=by simp -implicitDefEqProofs [hlt]
 have hm:min t r.commits.length=t:=by omega
 rw [qq,hm];generalize r.commits[t]=c at *;simp -implicitDefEqProofs [bm];exact ⟨Ak _,⟨by have:=hc.1; omega,by have:=hc.1; omega⟩,hc.2,⟨by omega,by omega⟩,⟨by omega,by omega⟩,fun _ _=>⟨t+1,⟨by omega,by rw [e,je],by rw [e,je]⟩,by omega,by omega⟩⟩
def ptL (l:List HeadD) (n:Str) (a:Int):List HeadD:=if l.any (fun h=>decide (h.name=n)) then l.set (l.findIdx fun h=>decide (h.name=n)) ⟨n,a⟩ else jl l ⟨n,a⟩
theorem Ov {l:List HeadD} {n:Str} {a:Int} {i:Nat} (hi:i < l.length) (hb:∀ j (hj:j < l.length),j < i -> ¬ l[j].name=n) (h:l[i].name=n):ptL l n a=l.set i ⟨n,a⟩:=by
 have e:l.findIdx (fun h=>decide (h.name=n))=i:=by
  rw [List.findIdx_eq hi];exact ⟨by simpa using h,fun j hj=>by simpa using hb j (by omega) hj⟩
 unfold ptL;rw [if_pos (List.any_eq_true.2 ⟨l[i],List.getElem_mem hi,by simpa using h⟩),e]
theorem Ow {l:List HeadD} {n:Str} {a:Int} (hb:∀ j (hj:j < l.length),¬ l[j].name=n):ptL l n a=jl l ⟨n,a⟩:=by
 unfold ptL;rw [if_neg];simp only [List.any_eq_true,decide_eq_true_eq,not_exists,not_and];intro x hx;obtain ⟨j,hj,rfl⟩:=List.getElem_of_mem hx;exact hb j hj
def gF (r:RepoD):List (Nat × Nat × Nat × List (List D)):=[(0,87,3,ap r.commits),(1,89,2,ah r.heads)]
def poI (r:RepoD) (n:Str) (a:Int):Inv:=⟨Nat,fun i=>⟨[(1,true,.str n),(2,true,.int .i64 a),(3,true,.ptr 10 0),(6,true,.ptr 12 0),(10,true,.int .i64 r.heads.length),(11,true,.int .i64 i)],[(12,lD),(10,.box 27 [.own 13 3 (ap r.commits),.own 14 2 (ah r.heads)]),(13,.own 87 3 true (ap r.commits)),(14,.own 89 2 true (ah r.heads))]⟩,fun i=>i<=r.heads.length /\ ∀ j (hj:j < r.heads.length),j < i -> ¬ r.heads[j].name=n,fun i=>r.heads.length - i⟩
def lL:Con:={ A:=RepoD × Str × Int,X:=Unit,n:=38,args:=fun a=>[.agg [.own 0 3 (ap a.1.commits),.own 1 2 (ah a.1.heads)],.str a.2.1,.int .i64 a.2.2],boxes:=fun _=>[],pre:=fun a=>a.1.heads.length<=1048576,post:=fun _ _=>True,res:=fun a _=>.agg [.own 8 3 (ap a.1.commits),.own 9 2 (ah (ptL a.1.heads a.2.1 a.2.2))],fin:=fun a _=>iO 8 a.1.commits++gB 9 (ptL a.1.heads a.2.1 a.2.2),owns:=fun a=>gF a.1,mv:=true }
theorem rl:Has Tryz.prog 129 lL:=by
 refine ag mixed ak (HasL.cons Jv HasL.nil) [0,1,2,3,6,7,10,11] ((fun a n (_:Nat)=>(fun a _=>poI a.1 a.2.1 a.2.2) a n)) [] Tryz.func129 (by unfold Tryz.f129; rfl) (fun _=>⟨(),trivial⟩) ?_
 intro a ha;obtain ⟨r,n,b⟩:=a;replace ha:r.heads.length<=1048576:=ha;simp (maxSteps:=8000000) -implicitDefEqProofs [lL,gF,tq,Con.fn,ae,poI]
 try dsimp only
 refine fun _ t ht hb=>⟨fun hlt=>⟨hlt,fun _=>?_⟩,fun hge=>?_⟩
 ·have qq:Option.map bw r.heads[t]? = some (bw r.heads[t]):=by simp -implicitDefEqProofs [hlt]
  have hh:=Ov (a:=b) hlt hb;have hb2:¬ r.heads[t].name=n -> ∀ (j:Nat) (hj:j < r.heads.length),j < t+1 -> ¬ r.heads[j].name=n:=fun h j hj hjt=>by
   by_cases e:j=t
   ·subst e; exact h
   ·exact hb j hj (by omega)
  rw [qq];generalize r.heads[t]=f at *;simp -implicitDefEqProofs [bw];refine ⟨fun h=>⟨hlt,fun _=>⟨hlt,?_,?_⟩⟩,fun h=>⟨⟨by omega,by omega⟩,fun _ _=>⟨t+1,by omega,⟨by omega,hb2 h⟩,by omega⟩⟩⟩
  ·rw [hh h,<- h,<- lX]
  ·rw [hh h,<- h,<- lX]
 ·have e:=Ow (a:=b) fun j hj=>hb j hj (by omega)
  exact ⟨r.heads,⟨n,b⟩,⟨rfl,rfl,rfl⟩,ha,e,e.symm⟩
def ku:Con:={ A:=RepoD × RepoD,X:=Unit,n:=12,args:=fun a=>[bF a.1,.agg [.own 0 3 (ap a.2.commits),.own 1 2 (ah a.2.heads)]],boxes:=fun _=>[],pre:=fun a=>dC a.1/\fM a.2,post:=fun _ _=>True,res:=fun a _=>.tup [.agg [.own 8 3 (ap (if aF a.2 then a.2 else a.1).commits),.own 9 2 (ah (if aF a.2 then a.2 else a.1).heads)],.bool (aF a.2)],fin:=fun a _=>iO 8 (if aF a.2 then a.2 else a.1).commits++gB 9 (if aF a.2 then a.2 else a.1).heads,owns:=fun a=>gF a.2,mv:=true }
theorem oP:Has Tryz.prog 128 ku:=by
 refine ag mixed ak (HasL.cons jo (HasL.cons mP HasL.nil)) [0,1,2,3,4,5] ((fun a n (_:Nat)=>(fun _=>an) a n)) [] Tryz.func128 (by unfold Tryz.f128; rfl) (fun _=>⟨(),trivial⟩) ?_
 intro a ha;obtain ⟨r,x⟩:=a;obtain ⟨h1,h2⟩:dC r/\fM x:=ha;simp (maxSteps:=8000000) -implicitDefEqProofs [ku,gF,gQ,jH,Con.fn,ae,bR]
 try dsimp only
 refine ⟨h2,fun h=>⟨h1,?_⟩,fun h=>?_⟩
 ·rw [if_neg (by simp -implicitDefEqProofs [h])]; exact ⟨⟨⟨rfl,rfl⟩,h⟩,rfl,rfl⟩
 ·rw [if_pos h]; exact ⟨⟨⟨rfl,rfl⟩,h⟩,rfl,rfl⟩
def cmL (r:RepoD) (n:Str) (c:CommitD):RepoD:=⟨r.commits++[c],ptL r.heads n r.commits.length⟩
def nC (a:RepoD × Str × Str × List FileD × List Int):List (Nat × Nat × Nat × List (List D)):=[(0,87,3,ap a.1.commits),(1,89,2,ah a.1.heads),(2,3,1,aj a.2.2.2.2)]
def nf:Con:={ A:=RepoD × Str × Str × List FileD × List Int,X:=Unit,n:=28,args:=fun a=>[.agg [.own 0 3 (ap a.1.commits),.own 1 2 (ah a.1.heads)],.str a.2.1,.str a.2.2.1,.sl true 2 (ac a.2.2.2.1),.own 2 1 (aj a.2.2.2.2)],boxes:=fun _=>[],pre:=fun a=>a.1.heads.length<=1048576/\a.1.commits.length<=1048576/\a.2.2.2.1.length<=1048576 /\ ∀ f ∈ a.2.2.2.1,f.text.length<=1048576,post:=fun _ _=>True,res:=fun a _=>.agg [.own 8 3 (ap (cmL a.1 a.2.1 ⟨a.2.2.2.2,a.2.2.1,a.2.2.2.1⟩).commits),.own 9 2 (ah (cmL a.1 a.2.1 ⟨a.2.2.2.2,a.2.2.1,a.2.2.2.1⟩).heads)],fin:=fun a _=>iO 8 (cmL a.1 a.2.1 ⟨a.2.2.2.2,a.2.2.1,a.2.2.2.1⟩).commits++gB 9 (cmL a.1 a.2.1 ⟨a.2.2.2.2,a.2.2.1,a.2.2.2.1⟩).heads,owns:=nC,mv:=true }
theorem vj:Has Tryz.prog 133 nf:=by
 refine ag mixed ak (HasL.cons jJ (HasL.cons rl HasL.nil)) [0,1,2,3,4,5,10] ((fun a n (_:Nat)=>(fun _=>an) a n)) [18] Tryz.func133 (by unfold Tryz.f133; rfl) (fun _=>⟨(),trivial⟩) ?_
 intro a ha;obtain ⟨r,n,w,t,P⟩:=a;obtain ⟨h1,h2,h3,h4⟩:r.heads.length<=1048576/\r.commits.length<=1048576/\t.length<=1048576 /\ ∀ f ∈ t,f.text.length<=1048576:=ha;simp (maxSteps:=8000000) -implicitDefEqProofs [nf,nC,gF,lL,iu,Con.fn,ae,bR]
 try dsimp only
 have sn:ap r.commits++[[D.sl 3 1 (aj P),D.str w,D.sl 99 2 (ac t)]]=ap (r.commits++[⟨P,w,t⟩]):=je _ _ _ _;rw [sn];exact ⟨⟨h3,h4⟩,⟨by omega,by omega⟩,fun _=>⟨by omega,fun _=>⟨⟨r.commits++[⟨P,w,t⟩],r.heads⟩,n,_,⟨⟨rfl,rfl⟩,rfl,rfl⟩,⟨rfl,rfl⟩,h1,⟨rfl,rfl⟩,rfl,rfl⟩⟩⟩
theorem AA {k:Nat} {l:List HeadD} (h:di k l=true):∀ i,0 < i->i < l.length->Go.Op.bytesLess (l.getD (i - 1) default).name (l.getD i default).name=true:=fun i h3 h4=>by
 have:=((iC _ _).1 h).2 i h4;unfold d9 at this;simp only [Bool.and_eq_true,Bool.or_eq_true,decide_eq_true_eq] at this;rcases this.2 with h5 | h5
 ·omega
 ·exact h5
theorem PK (n:Str) (a:Int):∀ (l:List HeadD),(l.Pairwise fun a b=>Go.Op.bytesLess a.name b.name=true)->(∃ x ∈ l,x.name=n)->l.set (l.findIdx fun h=>decide (h.name=n)) ⟨n,a⟩=l.map (hAt n a):=by
 intro l
 induction l with
 | nil=>rintro _ ⟨_,h,_⟩; cases h
 | cons g l ih =>
  intro hp hx;obtain ⟨hp1,hp2⟩:=List.pairwise_cons.1 hp;by_cases hg:g.name=n
  ·have hne:∀ z ∈ l,¬ z.name=n:=fun z hz hc=>by
    have:=hp1 z hz;rw [hg,hc,qY] at this;cases this
   have e3:l.map (hAt n a)=l:=by
    have:l.map (hAt n a)=l.map id:=List.map_congr_left fun z hz=>by simp -implicitDefEqProofs [hAt,hne z hz]
    rw [this]; simp
   simp -implicitDefEqProofs [List.findIdx_cons,hg,e3,hAt]
  ·obtain ⟨z,hz,hzn⟩:=hx;have hz:z ∈ l:=by
    rcases List.mem_cons.1 hz with rfl | hz
    ·exact absurd hzn hg
    ·exact hz
   have:=ih hp2 ⟨z,hz,hzn⟩;simp -implicitDefEqProofs [List.findIdx_cons,hg,this,hAt]
theorem xq {k:Nat} {l:List HeadD} {n:Str} {a:Int} (h:di k l=true):ptL l n a=bG l n a:=by
 have hs:=AA h;unfold ptL;split
 ·rename_i hn;have hn:∃ x ∈ l,x.name=n:=by simpa using hn
  rw [vZ hs hn];exact PK n a l (qA hs) hn
 ·rename_i hn;have hn:∀ h ∈ l,¬ h.name=n:=by simpa using hn
  exact (Av hs hn).symm
theorem yC {n m:Str} {a:Int}:∀ {l:List HeadD} (k:Nat),(∀ h ∈ l,¬ h.name=n)->atL (db l k ⟨n,a⟩) m=if n=m then a else atL l m
 | [],k,_=>by
  have e:db [] k (⟨n,a⟩:HeadD)=[⟨n,a⟩]:=by simp -implicitDefEqProofs [db]
  rw [e]; rfl
 | g :: l,0,h=>by
  have e:db (g :: l) 0 (⟨n,a⟩:HeadD)=⟨n,a⟩ :: g :: l:=by simp -implicitDefEqProofs [db]
  rw [e]; rfl
 | g :: l,k+1,h=>by
  have e:db (g :: l) (k+1) (⟨n,a⟩:HeadD)=g :: db l k ⟨n,a⟩:=by simp -implicitDefEqProofs [db]
  rw [e];have ih:=yC (n:=n) (m:=m) (a:=a) (l:=l) k fun x hx=>h x (by simp -implicitDefEqProofs [hx])
  show (if g.name=m then g.at_ else atL (db l k ⟨n,a⟩) m)=if n=m then a else if g.name=m then g.at_ else atL l m
  rw [ih];by_cases h1:g.name=m
  ·have:¬ n=m:=fun e=>h g (by simp) (h1.trans e.symm)
   simp -implicitDefEqProofs [h1,this]
  ·simp -implicitDefEqProofs [h1]
theorem sm {n m:Str} {a:Int}:∀ {l:List HeadD},(∃ h ∈ l,h.name=n)->atL (l.map (hAt n a)) m=if n=m then a else atL l m
 | [],h=>by obtain ⟨_,h,_⟩:=h; cases h
 | g :: l,h=>by
  have e:atL ((g :: l).map (hAt n a)) m=if (hAt n a g).name=m then (hAt n a g).at_ else atL (l.map (hAt n a)) m:=rfl
  have e2:atL (g :: l) m=if g.name=m then g.at_ else atL l m:=rfl
  rw [e,e2];by_cases hg:g.name=n
  ·have e3:hAt n a g=⟨n,a⟩:=by unfold hAt; rw [if_pos hg]
   rw [e3];by_cases hm:n=m
   ·simp -implicitDefEqProofs [hm]
   ·simp only [hm,if_false];have:¬ g.name=m:=fun e=>hm (hg.symm.trans e);simp only [this,if_false];by_cases hx:∃ h ∈ l,h.name=n
    ·rw [sm hx,if_neg hm]
    ·have e4:l.map (hAt n a)=l:=by
      have:l.map (hAt n a)=l.map id:=List.map_congr_left fun z hz=>by
       have:¬ z.name=n:=fun e=>hx ⟨z,hz,e⟩;simp -implicitDefEqProofs [hAt,this]
      rw [this]; simp
     rw [e4]
  ·have e3:hAt n a g=g:=by unfold hAt; rw [if_neg hg]
   rw [e3];obtain ⟨z,hz,hzn⟩:=h;have hz:z ∈ l:=by
    rcases List.mem_cons.1 hz with rfl | hz
    ·exact absurd hzn hg
    ·exact hz
   rw [sm ⟨z,hz,hzn⟩];by_cases h1:g.name=m
   ·have:¬ n=m:=fun e=>hg (h1.trans e.symm);simp -implicitDefEqProofs [h1,this]
   ·simp -implicitDefEqProofs [h1]
theorem na {k:Nat} {l:List HeadD} {n m:Str} {a:Int} (h:di k l=true):atL (bG l n a) m=if n=m then a else atL l m:=by
 have hs:=AA h;by_cases hn:∃ x ∈ l,x.name=n
 ·rw [vZ hs hn,sm hn]
 ·have hn:∀ x ∈ l,¬ x.name=n:=fun x hx e=>hn ⟨x,hx,e⟩;rw [Av hs hn];unfold jl;exact yC _ hn
def xk (r:RepoD):Prop:=∀ i,i < r.commits.length -> ∀ p ∈ (r.commits.getD i default).parents,0<=p/\p < (i:Int)
theorem Pl {r:RepoD} (h:az r=true):xk r:=by
 intro i hi p hp;have h1:=((cQ r).1 h).1 i hi;unfold dH at h1;simp only [Bool.and_eq_true,List.all_eq_true,List.mem_range] at h1;obtain ⟨k,hk,rfl⟩:=List.getElem_of_mem hp;have h2:=h1.1 k hk;unfold gA inN at h2;simp only [Bool.and_eq_true,decide_eq_true_eq] at h2;have e:(r.commits.getD i default).parents.getD k 0=(r.commits.getD i default).parents[k]:=by rw [List.getD_eq_getElem?_getD,List.getElem?_eq_getElem hk]; rfl
 rw [e] at h2;omega
inductive Rch (r:RepoD) (a:Nat):Nat->Prop
 | refl:Rch r a a
 | step {x:Nat} {p:Int}:Rch r a x->p ∈ (r.commits.getD x default).parents->Rch r a p.toNat
theorem Rch.trans {r:RepoD} {a b c:Nat} (h1:Rch r a b) (h2:Rch r b c):Rch r a c:=by
 induction h2 with
 | refl=>exact h1
 | step _ hp ih=>exact ih.step hp
theorem Io {l:List CommitD} {x:Nat} (h:l.length<=x):(l.getD x default).parents=[]:=by rw [List.getD_eq_getElem?_getD,List.getElem?_eq_none h]; rfl
theorem Rch.le {r:RepoD} {a x:Nat} (hp:xk r) (h:Rch r a x):x<=a:=by
 induction h with
 | refl=>omega
 | @step x p _ hq ih =>
  rcases Nat.lt_or_ge x r.commits.length with h1 | h1
  ·have:=hp x h1 p hq; omega
  ·rw [Io h1] at hq; cases hq
theorem Rch.more {r:RepoD} {cs:List CommitD} {hs:List HeadD} (hp:xk r) {a x:Nat} (ha:a < r.commits.length):Rch ⟨r.commits++cs,hs⟩ a x ↔ Rch r a x:=by
 have key:∀ x,x < r.commits.length->((r.commits++cs).getD x default)=r.commits.getD x default:=fun x hx=>by simp -implicitDefEqProofs [List.getD_eq_getElem?_getD,List.getElem?_append_left hx]
 constructor
 ·intro h;have:Rch r a x:=by
   induction h with
   | refl=>exact .refl
   | @step x p _ hq ih =>
    have hle:=ih.le hp;have hq:p ∈ ((r.commits++cs).getD x default).parents:=hq;rw [key x (by omega)] at hq
    exact ih.step hq
  exact this
 ·intro h
  induction h with
  | refl=>exact .refl
  | @step x p h0 hq ih =>
   have hle:=h0.le hp;refine ih.step ?_
   show p ∈ ((r.commits++cs).getD x default).parents
   rw [key x (by omega)]
   exact hq
def tL:Con:=.fn 36 (List Str × List Str × List Str) (fun a=>[.sl true 1 (aa a.1),.sl true 1 (aa a.2.1),.sl true 1 (aa a.2.2)]) (fun a=>a.1.length<=1048576/\a.2.1.length<=1048576/\a.2.2.length<=1048576) (fun a=>.agg [.bool (bE a.1 a.2.1 a.2.2).clash,.own 8 1 (aa (bE a.1 a.2.1 a.2.2).lines),.own 9 1 (aa (bE a.1 a.2.1 a.2.2).old),.own 10 1 (aa (bE a.1 a.2.1 a.2.2).one),.own 11 1 (aa (bE a.1 a.2.1 a.2.2).two)]) (fun a=>dk 8 (bE a.1 a.2.1 a.2.2).lines++dk 9 (bE a.1 a.2.1 a.2.2).old++dk 10 (bE a.1 a.2.1 a.2.2).one++dk 11 (bE a.1 a.2.1 a.2.2).two)
theorem KY:Has Tryz.prog 268 tL:=by
 refine ag mixed ak (HasL.cons Bv HasL.nil) [0,1,2,6,7] ((fun a n (_:Nat)=>(fun _=>an) a n)) [] Tryz.func268 (by unfold Tryz.f268; rfl) (fun _=>⟨(),trivial⟩) ?_
 intro a ha;obtain ⟨o,a,b⟩:=a;obtain ⟨h1,h2,h3⟩:o.length<=1048576/\a.length<=1048576/\b.length<=1048576:=ha;simp -implicitDefEqProofs [tL,pI,Con.fn,ae]
 try dsimp only
 have f:∀ (t:List Str),∀ x ∈ aa t,∀ d ∈ x,match d with | .sl _ _ _=>False | _=>True:=fun t=>(eStrs_flat t).mpr trivial
 have e1:a=o->bE o a b=⟨false,b,[],[],[]⟩:=fun h=>by unfold bE; rw [if_pos (.inl h)]
 have e2:a=b->bE o a b=⟨false,b,[],[],[]⟩:=fun h=>by unfold bE; rw [if_pos (.inr h)]
 have e3:¬ a=o -> ¬ a=b->b=o->bE o a b=⟨false,a,[],[],[]⟩:=fun h h' h2=>by unfold bE; rw [if_neg (by simp -implicitDefEqProofs [h,h']),if_pos h2]
 have e4:¬ a=o -> ¬ a=b -> ¬ b=o->bE o a b=⟨true,[],o,a,b⟩:=fun h h' h2=>by unfold bE; rw [if_neg (by simp -implicitDefEqProofs [h,h']),if_neg h2]
 refine ⟨a,o,⟨rfl,rfl⟩,fun h=>⟨fun _=>?_,fun h'=>absurd h h'⟩,fun h=>⟨a,b,⟨rfl,rfl⟩,fun h2=>?_,fun h2=>⟨b,o,⟨rfl,rfl⟩,fun h3=>?_,fun h3=>?_⟩⟩⟩
 ·rw [e1 h]; exact ⟨f b,⟨by omega,by omega⟩,⟨rfl,rfl,rfl,rfl,rfl⟩,rfl,rfl,rfl,rfl⟩
 ·rw [e2 h2]; exact ⟨f b,⟨by omega,by omega⟩,⟨rfl,rfl,rfl,rfl,rfl⟩,rfl,rfl,rfl,rfl⟩
 ·rw [e3 h h2 h3]; exact ⟨f a,⟨by omega,by omega⟩,⟨rfl,rfl,rfl,rfl,rfl⟩,rfl,rfl,rfl,rfl⟩
 ·rw [e4 h h2 h3]; exact ⟨f o,⟨by omega,by omega⟩,f a,⟨by omega,by omega⟩,f b,⟨by omega,by omega⟩,⟨rfl,rfl,rfl,rfl,rfl⟩,rfl,rfl,rfl,rfl⟩
theorem jq {l:List PartD} {p:PartD} (h:p.clash=false) (h':p.lines=[]):bI l p=l:=by unfold bI; rw [if_pos ⟨h,h'⟩]
theorem oz {m:List PartD} {q p:PartD} (h:q.clash=false) (h':p.clash=false) (hx:¬ p.lines=[]):bI (m++[q]) p=m++[⟨q.clash,q.lines++p.lines,q.old,q.one,q.two⟩]:=by unfold bI; rw [if_neg (by simp -implicitDefEqProofs [hx])]; simp -implicitDefEqProofs [h,h']
theorem oA {m:List PartD} {q p:PartD} (h:q.clash=true) (hx:¬ (p.clash=false/\p.lines=[])):bI (m++[q]) p=m++[q]++[p]:=by unfold bI; rw [if_neg hx]; simp -implicitDefEqProofs [h]
theorem oB {l:List PartD} {p:PartD} (h:p.clash=true):bI l p=l++[p]:=by
 unfold bI; rw [if_neg (by simp -implicitDefEqProofs [h])]
 split
 ·simp -implicitDefEqProofs [h]
 ·rfl
theorem jr {p:PartD} (h:¬ (p.clash=false/\p.lines=[])):bI [] p=[p]:=by unfold bI; rw [if_neg h]; simp
def l3A:(List PartD × PartD) ⊕ (List PartD × List Str)->List PartD
 | .inl a=>a.1
 | .inr a=>a.1
def l3P:(List PartD × PartD) ⊕ (List PartD × List Str)->PartD
 | .inl a=>a.2
 | .inr a=>⟨false,a.2,[],[],[]⟩
def qS:(List PartD × PartD) ⊕ (List PartD × List Str)->List AV
 | .inl a=>[.own 0 5 (aD a.1),.agg [.bool a.2.clash,.own 1 1 (aa a.2.lines),.own 2 1 (aa a.2.old),.own 3 1 (aa a.2.one),.own 4 1 (aa a.2.two)]]
 | .inr a=>[.own 0 5 (aD a.1),.agg [.bool false,.own 1 1 (aa a.2),.nil,.nil,.nil]]
def qT:(List PartD × PartD) ⊕ (List PartD × List Str)->List (Nat × Nat × Nat × List (List D))
 | .inl a=>[(0,237,5,aD a.1),(1,9,1,aa a.2.lines),(2,9,1,aa a.2.old),(3,9,1,aa a.2.one),(4,9,1,aa a.2.two)]
 | .inr a=>[(0,237,5,aD a.1),(1,9,1,aa a.2)]
def pM:Con:={ A:=(List PartD × PartD) ⊕ (List PartD × List Str),X:=Unit,n:=53,args:=qS,boxes:=fun _=>[],pre:=fun a=>(l3A a).length<=1048576/\(∀ q ∈ l3A a,q.lines.length<=1073741824)/\(l3P a).lines.length<=1073741824,post:=fun _ _=>True,res:=fun a _=>.own 8 5 (aD (bI (l3A a) (l3P a))),fin:=fun a _=>xj 8 (bI (l3A a) (l3P a)),owns:=qT,mv:=true }
theorem KZ:Has Tryz.prog 267 pM:=by
 refine ag mixed ak HasL.nil [0,1,3,4,5] ((fun a n (_:Nat)=>(fun _=>an) a n)) [12287,12333] Tryz.func267 (by unfold Tryz.f267; rfl) (fun _=>⟨(),trivial⟩) ?_
 intro a ha;rcases a with ⟨l,p⟩ | ⟨l,x⟩
 ·obtain ⟨h1,h2,h3⟩:l.length<=1048576/\(∀ q ∈ l,q.lines.length<=1073741824)/\p.lines.length<=1073741824:=ha;simp -implicitDefEqProofs [pM,qS,qT,l3A,l3P,Con.fn,ae]
  try dsimp only
  have f:∀ (t:List Str),∀ x ∈ aa t,∀ d ∈ x,match d with | .sl _ _ _=>False | _=>True:=fun t=>(eStrs_flat t).mpr trivial
  have sn:∀ k:List PartD,aD k++[[D.bool p.clash,D.sl 9 1 (aa p.lines),D.sl 9 1 (aa p.old),D.sl 9 1 (aa p.one),D.sl 9 1 (aa p.two)]]=aD (k++[p]):=fun k=>by simp -implicitDefEqProofs [aD,cO]
  rw [sn];rcases List.eq_nil_or_concat l with rfl | ⟨m,q,rfl⟩
  ·simp
   repeat' (first | intro _ | apply And.intro)
   all_goals first | omega | (cases (Eq.trans (Eq.symm ‹p.clash=true›) ‹p.clash=false›)) | exact f _ | exact f _ _ (by assumption) _ (by assumption) | exact jq (by first | assumption | rfl) (by assumption) | exact (jq (by first | assumption | rfl) (by assumption)).symm | exact jr (by simp_all) | exact (jr (by simp_all)).symm | (rw [oz (by assumption) (by first | assumption | rfl) (by assumption)]; simp -implicitDefEqProofs [aD,cO,aa]) | (rw [oB (by assumption)]; simp) | (rw [oA (by assumption) (by simp_all)]; simp)
  ·have he:∀ r,(aD m++[r])[m.length]? = some r:=fun r=>by rw [List.getElem?_append_right (by simp)]; simp
   have hs:∀ r,(aD (m++[q])).set m.length r=aD m++[r]:=fun r=>by simp -implicitDefEqProofs [aD]
   have hq:(m++[q])[m.length]? = some q:=by simp
   have hql:=h2 q (by simp)
   have ee:∀ r r',(aD m++[r]=aD (m++[r']))=(r=cO r'):=fun r r'=>by simp -implicitDefEqProofs [aD]
   have h1:m.length+1<=1048576:=by simpa using h1
   simp -implicitDefEqProofs [he,hs,cO,D.asBool,D.asRows]
   repeat' (first | intro _ | apply And.intro)
   all_goals first | omega | (cases (Eq.trans (Eq.symm ‹p.clash=true›) ‹p.clash=false›)) | exact f _ | exact f _ _ (by assumption) _ (by assumption) | exact jq (by first | assumption | rfl) (by assumption) | exact (jq (by first | assumption | rfl) (by assumption)).symm | exact jr (by simp_all) | exact (jr (by simp_all)).symm | (rw [oz (by assumption) (by first | assumption | rfl) (by assumption)]; simp -implicitDefEqProofs [aD,cO,aa]) | (rw [oB (by assumption)]; simp) | (rw [oA (by assumption) (by simp_all)]; simp)
 ·obtain ⟨h1,h2,h3⟩:l.length<=1048576/\(∀ q ∈ l,q.lines.length<=1073741824)/\x.length<=1073741824:=ha;simp -implicitDefEqProofs [pM,qS,qT,l3A,l3P,Con.fn,ae]
  try dsimp only
  have f:∀ (t:List Str),∀ x ∈ aa t,∀ d ∈ x,match d with | .sl _ _ _=>False | _=>True:=fun t=>(eStrs_flat t).mpr trivial
  have sn:∀ k:List PartD,aD k++[[D.bool false,D.sl 9 1 (aa x),D.sl 9 1 [],D.sl 9 1 [],D.sl 9 1 []]]=aD (k++[⟨false,x,[],[],[]⟩]):=fun k=>by simp -implicitDefEqProofs [aD,cO]
  rw [sn];rcases List.eq_nil_or_concat l with rfl | ⟨m,q,rfl⟩
  ·simp
   repeat' (first | intro _ | apply And.intro)
   all_goals first | omega | (cases (Eq.trans (Eq.symm ‹p.clash=true›) ‹p.clash=false›)) | exact f _ | exact f _ _ (by assumption) _ (by assumption) | exact jq (by first | assumption | rfl) (by assumption) | exact (jq (by first | assumption | rfl) (by assumption)).symm | exact jr (by simp_all) | exact (jr (by simp_all)).symm | (rw [oz (by assumption) (by first | assumption | rfl) (by assumption)]; simp -implicitDefEqProofs [aD,cO,aa]) | (rw [oB (by assumption)]; simp) | (rw [oA (by assumption) (by simp_all)]; simp)
  ·have he:∀ r,(aD m++[r])[m.length]? = some r:=fun r=>by rw [List.getElem?_append_right (by simp)]; simp
   have hs:∀ r,(aD (m++[q])).set m.length r=aD m++[r]:=fun r=>by simp -implicitDefEqProofs [aD]
   have hq:(m++[q])[m.length]? = some q:=by simp
   have hql:=h2 q (by simp)
   have ee:∀ r r',(aD m++[r]=aD (m++[r']))=(r=cO r'):=fun r r'=>by simp -implicitDefEqProofs [aD]
   have h1:m.length+1<=1048576:=by simpa using h1
   simp -implicitDefEqProofs [he,hs,cO,D.asBool,D.asRows]
   repeat' (first | intro _ | apply And.intro)
   all_goals first | omega | (cases (Eq.trans (Eq.symm ‹p.clash=true›) ‹p.clash=false›)) | exact f _ | exact f _ _ (by assumption) _ (by assumption) | exact jq (by first | assumption | rfl) (by assumption) | exact (jq (by first | assumption | rfl) (by assumption)).symm | exact jr (by simp_all) | exact (jr (by simp_all)).symm | (rw [oz (by assumption) (by first | assumption | rfl) (by assumption)]; simp -implicitDefEqProofs [aD,cO,aa]) | (rw [oB (by assumption)]; simp) | (rw [oA (by assumption) (by simp_all)]; simp)
theorem B5 (o a:List Str):aj (mt o a 0)++[[D.int .i64 (a.length:Int)]]=aj (mtE o a):=by simp -implicitDefEqProofs [mtE,aj,aq]
def BC (o a b:List Str):Inv:=⟨Nat,fun i=>⟨[(0,true,.sl true 1 (aa o)),(1,true,.sl true 1 (aa a)),(2,true,.sl true 1 (aa b)),(6,true,.nil),(7,true,.own 9 5 (aD (cN o a b i).out)),(8,true,.own 10 1 (aj (mtE o a))),(9,true,.own 11 1 (aj (mtE o b))),(10,true,.int .i64 (cN o a b i).io),(11,true,.int .i64 (cN o a b i).ia),(12,true,.int .i64 (cN o a b i).ib),(13,true,.int .i64 i)],[(9,.own 237 5 true (aD (cN o a b i).out)),(10,.own 3 1 true (aj (mtE o a))),(11,.own 3 1 true (aj (mtE o b)))]⟩,fun i=>i<=o.length+1,fun i=>o.length+1 - i⟩
def tK:Con:=.fn 93 (List Str × List Str × List Str) (fun a=>[.sl true 1 (aa a.1),.sl true 1 (aa a.2.1),.sl true 1 (aa a.2.2)]) (fun a=>a.1.length<=100000/\a.2.1.length<=100000/\a.2.2.length<=100000) (fun a=>.own 8 5 (aD (of3 a.1 a.2.1 a.2.2))) (fun a=>xj 8 (of3 a.1 a.2.1 a.2.2))
theorem KX:Has Tryz.prog 249 tK:=by
 refine ag mixed ak (HasL.cons KR (HasL.cons KY (HasL.cons KZ HasL.nil))) [0,1,2,6,7,8,9,10,11,12,13] ((fun a n (_:Nat)=>(fun a _=>BC a.1 a.2.1 a.2.2) a n)) [] Tryz.func249 (by unfold Tryz.f249; rfl) (fun _=>⟨(),trivial⟩) ?_
 intro a ha;obtain ⟨o,a,b⟩:=a;obtain ⟨h1,h2,h3⟩:o.length<=100000/\a.length<=100000/\b.length<=100000:=ha;simp (maxSteps:=4000000) -implicitDefEqProofs [tK,tI,tL,pM,qS,qT,l3A,l3P,Con.fn,ae,BC,Sum.exists]
 try dsimp only
 have ea:=B5 o a;have eb:=B5 o b;have la:=mw o a;have lb:=mw o b;have m1:=mz o a 0;have m2:=mz o b 0;refine ⟨o,a,⟨rfl,rfl⟩,⟨by omega,by omega⟩,fun _=>⟨⟨by omega,by omega⟩,o,b,⟨rfl,rfl⟩,⟨by omega,by omega⟩,fun _=>⟨⟨by omega,by omega⟩,⟨0,⟨⟨rfl,ea.symm,eb.symm,rfl,rfl,rfl,rfl⟩,rfl,ea,eb⟩,Nat.zero_le _⟩,fun t ht hla=>⟨fun hlt=>?_,fun hge=>?_⟩⟩⟩⟩
 ·have ok:=om o a b t ht;have st:cN o a b (t+1)=ju o a b ((mtE o a).getD t 0) ((mtE o b).getD t 0) t (cN o a b t):=rfl;obtain ⟨k1,k2,k3,k4,k5,k6,k7⟩:=ok;have ga:(mtE o a).getD t 0=(mtE o a)[t]'(by omega):=by simp -implicitDefEqProofs [List.getD_eq_getElem?_getD,List.getElem?_eq_getElem (show t < (mtE o a).length by omega)]
  have gb:(mtE o b).getD t 0=(mtE o b)[t]'(by omega):=by simp -implicitDefEqProofs [List.getD_eq_getElem?_getD,List.getElem?_eq_getElem (show t < (mtE o b).length by omega)]
  have k4:=lC (l:=mtE o a) (by omega) k4
  have k5:=lC (l:=mtE o b) (by omega) k5
  have oa:(mtE o a)[t]? = some ((mtE o a)[t]'(by omega)):=List.getElem?_eq_getElem (by omega)
  have ob:(mtE o b)[t]? = some ((mtE o b)[t]'(by omega)):=List.getElem?_eq_getElem (by omega)
  rw [ga,gb] at st;rw [oa,ob];generalize (mtE o a)[t]'(by omega)=x at *
  generalize (mtE o b)[t]'(by omega)=y at *
  generalize cN o a b t=S at *;obtain ⟨io,ia,ib,out⟩:=S;simp only at k1 k2 k3 k4 k5 k6 k7;simp -implicitDefEqProofs [aq,D.asInt,hlt,la,lb,aO,aR];have skip:x < 0 \/ y < 0->cN o a b (t+1)=⟨io,ia,ib,out⟩:=fun h=>by rw [st]; unfold ju; rw [if_pos h]
  have p1:(List.take (t - io) (List.drop io o))=(o.take t).drop io:=(List.drop_take).symm;have p2:(List.take (x.toNat - ia) (List.drop ia a))=(a.take x.toNat).drop ia:=(List.drop_take).symm;have p3:(List.take (y.toNat - ib) (List.drop ib b))=(b.take y.toNat).drop ib:=(List.drop_take).symm;rw [p1,p2,p3];refine ⟨by omega,fun _=>⟨fun hx=>⟨⟨by omega,by omega⟩,fun _ _=>⟨t+1,by rw [skip (.inl hx)]; exact ⟨⟨⟨rfl,rfl,rfl,rfl,by omega⟩,rfl⟩,by omega,by omega⟩⟩⟩,fun hx=>⟨by omega,fun _=>⟨fun hy=>⟨⟨by omega,by omega⟩,fun _ _=>⟨t+1,by rw [skip (.inr hy)]; exact ⟨⟨⟨rfl,rfl,rfl,rfl,by omega⟩,rfl⟩,by omega,by omega⟩⟩⟩,fun hy=>?_⟩⟩⟩⟩
  have st2:cN o a b (t+1)=⟨t+1,x.toNat+1,y.toNat+1,if t < o.length then bI (bI out (bE ((o.take t).drop io) ((a.take x.toNat).drop ia) ((b.take y.toNat).drop ib))) ⟨false,[o.getD t []],[],[],[]⟩ else bI out (bE ((o.take t).drop io) ((a.take x.toNat).drop ia) ((b.take y.toNat).drop ib))⟩:=by rw [st]; unfold ju; rw [if_neg (by omega)]
  have l1:((o.take t).drop io).length<=100000:=by simp; omega
  have l2:((a.take x.toNat).drop ia).length<=100000:=by simp; omega
  have l3:((b.take y.toNat).drop ib).length<=100000:=by simp; omega
  have pl:=CR ((o.take t).drop io) ((a.take x.toNat).drop ia) ((b.take y.toNat).drop ib);refine ⟨⟨k1,by omega⟩,fun _ _=>⟨by omega,fun _=>⟨⟨by omega,by omega⟩,fun _ _=>⟨by omega,fun _=>⟨⟨by omega,by omega⟩,fun _ _=>⟨_,_,_,⟨rfl,rfl,rfl⟩,⟨by omega,by omega,by omega⟩,out,bE _ _ _,⟨rfl,rfl,rfl,rfl,rfl,rfl⟩,⟨rfl,rfl,rfl,rfl,rfl⟩,?_,?_⟩⟩⟩⟩⟩⟩
  ·rintro q1 q2 (⟨rfl,rfl⟩ | ⟨rfl,rfl⟩ | ⟨rfl,rfl⟩ | ⟨rfl,rfl⟩ | ⟨rfl,rfl⟩) <;> simp
  have pl2:=ro out (bE ((o.take t).drop io) ((a.take x.toNat).drop ia) ((b.take y.toNat).drop ib));have pb:=rn (p:=bE ((o.take t).drop io) ((a.take x.toNat).drop ia) ((b.take y.toNat).drop ib)) k7;generalize bE ((o.take t).drop io) ((a.take x.toNat).drop ia) ((b.take y.toNat).drop ib)=p at *;refine ⟨⟨by omega,fun q hq=>by have:=k7 q hq; omega,by omega⟩,fun _=>⟨fun hto=>?_,fun hto=>?_⟩⟩
  ·have go:o.getD t []=o[t]:=by simp -implicitDefEqProofs [List.getD_eq_getElem?_getD,hto]
   rw [if_pos hto,go] at st2;simp -implicitDefEqProofs [hto,al,D.asStr];refine ⟨bI out p,[o[t]],⟨rfl,rfl⟩,⟨rfl,rfl⟩,?_,⟨by omega,fun q hq=>by have:=pb q hq; omega,by simp⟩,⟨by omega,by omega⟩,fun _ _=>⟨by omega,fun _=>⟨⟨by omega,by omega⟩,fun _ _=>⟨by omega,fun _=>⟨⟨by omega,by omega⟩,fun _ _=>⟨⟨by omega,by omega⟩,fun _ _=>⟨t+1,?_⟩⟩⟩⟩⟩⟩⟩
   ·rintro q1 q2 (⟨rfl,rfl⟩ | ⟨rfl,rfl⟩) <;> simp
   ·rw [st2];exact ⟨⟨⟨rfl,by simp,by simp; omega,by simp; omega,by omega⟩,rfl⟩,by omega,by omega⟩
  ·rw [if_neg (by omega)] at st2
   refine ⟨⟨by omega,by omega⟩,fun _ _=>⟨by omega,fun _=>⟨⟨by omega,by omega⟩,fun _ _=>⟨by omega,fun _=>⟨⟨by omega,by omega⟩,fun _ _=>⟨⟨by omega,by omega⟩,fun _ _=>⟨t+1,?_⟩⟩⟩⟩⟩⟩⟩
   rw [st2];exact ⟨⟨⟨rfl,by simp,by simp; omega,by simp; omega,by omega⟩,rfl⟩,by omega,by omega⟩
 ·have:t=o.length+1:=by omega
  subst this;exact ⟨rfl,rfl⟩
def cq (l:List PartD) (i:Nat):List Str:=(l.take i).flatMap (·.lines)
def tM:Con:=.fn 29 (List PartD) (fun l=>[.sl true 5 (aD l)]) (fun l=>l.length<=1048576 /\ ∀ q ∈ l,q.lines.length<=1048576) (fun l=>.tup [.sl false 1 (aa (cT l).1),.bool (cT l).2]) (fun _=>[])
theorem K5:Has Tryz.prog 248 tM:=by
 refine ag mixed ak (HasL.cons wF HasL.nil) [0,2,3,4,5] ((fun a n (_:Nat)=>(fun l _=>⟨Nat,fun i=>⟨[(0,true,.sl true 5 (aD l)),(2,true,.nil),(3,true,.bool false),(4,true,.own 9 1 (aa (cq l i))),(5,true,.int .i64 i)],[(9,.own 9 1 true (aa (cq l i)))]⟩,fun i=>i<=l.length/\(l.take i).any (·.clash)=false,fun i=>l.length - i⟩) a n)) [] Tryz.func248 (by unfold Tryz.f248; rfl) (fun _=>⟨(),trivial⟩) ?_
 intro (l:List PartD) ha;obtain ⟨h1,h2⟩:l.length<=1048576 /\ ∀ q ∈ l,q.lines.length<=1048576:=ha;simp -implicitDefEqProofs [tM,nq,Con.fn,ae]
 try dsimp only
 have hl0:∀ i,i<=l.length->(cq l i).length<=i * 1048576:=fun i=>by
  induction i with
  | zero=>intro _; simp -implicitDefEqProofs [cq]
  | succ i ih =>
   intro h;have e:cq l (i+1)=cq l i++l[i].lines:=by unfold cq; rw [bg (show i < l.length by omega),List.flatMap_append]; simp
   have:=h2 l[i] (List.getElem_mem _);have:=ih (by omega)
   rw [e,List.length_append]; clear e; omega
 have f:∀ (t:List Str),∀ x ∈ aa t,∀ d ∈ x,match d with | .sl _ _ _=>False | _=>True:=fun t=>(eStrs_flat t).mpr trivial
 have hn0:(∃ q ∈ l,q.clash=true)->cT l=([],false):=fun ⟨q,h,h'⟩=>by unfold cT; rw [if_pos (by simp; exact ⟨q,h,h'⟩)]
 have hn1:(∀ q ∈ l,q.clash=false)->bD (cq l l.length)=false->cT l=([],false):=fun h h'=>by unfold cT cq at *; rw [List.take_length] at h'; rw [if_neg (by simp; exact h),if_neg (by simp -implicitDefEqProofs [h'])]
 have hn2:(∀ q ∈ l,q.clash=false)->bD (cq l l.length)=true->cT l=(cq l l.length,true):=fun h h'=>by unfold cT cq at *; rw [List.take_length] at *; rw [if_neg (by simp; exact h),if_pos h']
 refine ⟨⟨0,⟨⟨rfl,rfl⟩,rfl⟩,Nat.zero_le _,by simp⟩,fun t ht hc _=>⟨fun hlt=>⟨hlt,fun _=>?_⟩,fun hge=>?_⟩⟩
 ·have e:cq l (t+1)=cq l t++l[t].lines:=by unfold cq; rw [bg hlt,List.flatMap_append]; simp
  have q1:=h2 l[t] (List.getElem_mem hlt);have q2:=hl0 t ht;have q3:l[t] ∈ l:=List.getElem_mem hlt;have q4:∀ x ∈ l.take (t+1),x ∈ l.take t \/ x=l[t]:=fun x hx=>by rw [bg hlt] at hx; exact (List.mem_append.1 hx).imp id (fun h=>List.mem_singleton.1 h)
  have qq:Option.map cO l[t]? = some (cO l[t]):=by simp -implicitDefEqProofs [hlt]
  rw [qq];generalize l[t]=q at *;simp -implicitDefEqProofs [cO,D.asBool,D.asRows];refine ⟨fun h=>by rw [hn0 ⟨q,q3,h⟩]; exact ⟨rfl,rfl⟩,fun h=>⟨hlt,fun _=>⟨f _,⟨by omega,by omega⟩,⟨by omega,by omega⟩,fun _ _=>⟨t+1,⟨⟨by rw [e,aP],by omega⟩,by rw [e,aP]⟩,⟨by omega,fun x hx=>(q4 x hx).elim (hc x) (fun hx=>hx ▸ h)⟩,by omega⟩⟩⟩⟩
 ·have:t=l.length:=by omega
  subst this;rw [List.take_length] at hc;exact ⟨fun h=>by rw [hn1 hc h]; exact ⟨rfl,rfl⟩,fun h=>by rw [hn2 hc h]; exact ⟨rfl,rfl⟩⟩
def fj (n w i:Nat):List (List Int):=List.replicate i (List.replicate w 0)++List.replicate (n - i) []
theorem wc {n w i:Nat} (h:i<=n):(fj n w i).length=n:=by simp -implicitDefEqProofs [fj]; omega
theorem AN (n w:Nat):bz (fj n w 0)=List.replicate n [D.sl 3 1 []]:=by simp -implicitDefEqProofs [fj,bz,iA]
theorem AO (n w:Nat):fj n w n=List.replicate n (List.replicate w 0):=by simp -implicitDefEqProofs [fj]
theorem AP {n w i:Nat} (h:i < n):(bz (fj n w i)).set i [D.sl 3 1 (List.replicate w [D.int .i64 0])]=bz (fj n w (i+1)):=by
 have e:(fj n w i).set i (List.replicate w 0)=fj n w (i+1):=by
  apply List.ext_getElem
  ·rw [List.length_set,wc (by omega),wc (by omega)]
  ·intro k h1 h2;rw [List.getElem_set];simp only [fj,List.getElem_append,List.length_replicate,List.getElem_replicate];by_cases hk:i=k
   ·subst hk; simp
   ·rw [if_neg hk];by_cases h3:k < i
    ·rw [dif_pos h3,dif_pos (by omega)]
    ·rw [dif_neg h3,dif_neg (by omega)]
 rw [<- e];simp -implicitDefEqProofs [bz,List.map_set,iA,aj,aq]
def lcA (a b:List Str):Inv:=⟨Nat,fun i=>⟨[(0,true,.sl true 1 (aa a)),(1,true,.sl true 1 (aa b)),(4,true,.nil),(5,true,.own 9 1 (bz (fj (a.length+1) (b.length+1) i))),(14,true,.int .i64 (a.length+1:Nat)),(15,true,.int .i64 i)],[(9,.own 84 1 true (bz (fj (a.length+1) (b.length+1) i)))]⟩,fun i=>i<=a.length+1,fun i=>a.length+1 - i⟩
def lcB (a b:List Str):Inv:=⟨Nat,fun p=>⟨[(0,true,.sl true 1 (aa a)),(1,true,.sl true 1 (aa b)),(4,true,.nil),(5,true,.own 9 1 (bz (bh a b p (b.length+1)))),(7,true,.int .i64 ((p:Int) - 1))],[(9,.own 84 1 true (bz (bh a b p (b.length+1))))]⟩,fun p=>p<=a.length,fun p=>p⟩
def lcC (a b:List Str) (g:Nat):Inv:=⟨Nat,fun q=>⟨[(0,true,.sl true 1 (aa a)),(1,true,.sl true 1 (aa b)),(4,true,.nil),(5,true,.own 9 1 (bz (bh a b g q))),(7,true,.int .i64 ((g:Int) - 1)),(8,true,.int .i64 ((q:Int) - 1))],[(9,.own 84 1 true (bz (bh a b g q)))]⟩,fun q=>q<=b.length/\0 < g/\g<=a.length,fun q=>q⟩
def qW (a b:List Str) (n g:Nat):Inv:=if n=3 then lcA a b else if n=8 then lcB a b else lcC a b g
theorem Ly (a b g):qW a b 3 g=lcA a b:=rfl
theorem Lz (a b g):qW a b 8 g=lcB a b:=rfl
theorem Lx (a b g):qW a b 11 g=lcC a b g:=rfl
def tZ:Con:=.fn 89 (List Str × List Str) (fun a=>[.sl true 1 (aa a.1),.sl true 1 (aa a.2)]) (fun a=>a.1.length<=1048576/\a.2.length<=1048576) (fun a=>.own 8 1 (bz (bh a.1 a.2 0 0))) (fun a=>[(8,.own 84 1 true (bz (bh a.1 a.2 0 0)))])
theorem LA:Has Tryz.prog 279 tZ:=by
 refine ag mixed ak HasL.nil [0,1,4,5,6,7,8,14,15] (fun a=>qW a.1 a.2) [] Tryz.func279 (by unfold Tryz.f279; rfl) (fun _=>⟨(),trivial⟩) ?_
 intro a ha;obtain ⟨a,b⟩:=a;obtain ⟨h1,h2⟩:a.length<=1048576/\b.length<=1048576:=ha;simp (maxSteps:=4000000) [tZ,Con.fn,ae,Ly,Lz,Lx,lcA,lcB,lcC]
 try dsimp only
 refine fun _=>⟨by omega,fun _ _=>⟨by omega,fun _ _ _ _=>⟨⟨0,⟨⟨AN _ _,rfl⟩,(AN _ _).symm⟩,Nat.zero_le _⟩,fun i hi=>⟨fun hlt _=>⟨by omega,fun _ _=>⟨by omega,fun _ _ _=>⟨by rw [wc hi]; omega,fun hx=>⟨hx,by omega,fun _ _=>⟨i+1,⟨⟨(AP (by omega)).symm,by omega⟩,AP (by omega)⟩,by omega,by omega⟩⟩⟩⟩⟩,fun hge _=>⟨by omega,fun _ _=>⟨⟨a.length,⟨⟨?_,rfl⟩,?_⟩,Nat.le_refl _⟩,fun p hp=>⟨fun h1p _=>⟨by omega,fun _ _=>⟨p,⟨b.length,⟨⟨?_,rfl,rfl⟩,?_⟩,Nat.le_refl _,by omega,hp⟩,fun q hq hg hga=>⟨fun hq1=>?_,fun hq0=>⟨by omega,fun _ _=>⟨p - 1,⟨⟨?_,by omega⟩,?_⟩,by omega,by omega⟩⟩⟩⟩⟩,fun hp0=>?_⟩⟩⟩⟩⟩⟩⟩
 ·rw [show i=a.length+1 by omega,AO,rI rfl]
 ·rw [show i=a.length+1 by omega,AO,rI rfl]
 ·rw [rH]
 ·rw [rH]
 ·obtain ⟨T,hT⟩:∃ T,T=bh a b p q:=⟨_,rfl⟩;have t1:=@rJ a b p q;have t2:=j9 (a:=a) (b:=b) (p:=p) (q:=q) (r:=p) (by omega)
  have t3:=j9 (a:=a) (b:=b) (p:=p) (q:=q) (r:=p - 1) (by omega)
  have t4:a[p - 1]? = some a[p - 1]:=List.getElem?_eq_getElem (by omega)
  have t5:b[q - 1]? = some b[q - 1]:=List.getElem?_eq_getElem (by omega)
  have u1:=@j8 a b p q p;have u2:=@j8 a b p q (p - 1);have u3:(cJ a b p q p)[q]? = some (lcs (a.drop p) (b.drop q)):=by rw [iU (by omega),if_pos (by omega)]
  have u4:(cJ a b p q p)[q - 1]? = some (lcs (a.drop p) (b.drop (q - 1))):=by rw [iU (by omega),if_pos (by omega)]
  have u5:(cJ a b p q (p - 1))[q]? = some (lcs (a.drop (p - 1)) (b.drop q)):=by rw [iU (by omega),if_pos (by omega)]
  have v1:=ms (a.drop p) (b.drop q);have v2:=ms (a.drop p) (b.drop (q - 1));have v3:=ms (a.drop (p - 1)) (b.drop q);have v4:(a.drop p).length<=a.length:=by simp
  have v5:(a.drop (p - 1)).length<=a.length:=by simp
  have w1:=D7 (a:=a) (b:=b) (p:=p) (q:=q) hg hga (by omega) hq
  have w2:=BK (a:=a) (b:=b) (p:=p) (q:=q) hg hga (by omega) hq
  rw [<- hT] at t1 t2 t3 w1 ⊢;clear hT;generalize lcs (a.drop p) (b.drop q)=L11 at *;generalize lcs (a.drop p) (b.drop (q - 1))=L10 at *;generalize lcs (a.drop (p - 1)) (b.drop q)=L01 at *;generalize cJ a b p q p=rB at *;generalize cJ a b p q (p - 1)=rA at *;simp -implicitDefEqProofs [t1,t2,t3,t4,t5,u1,u2,u3,u4,u5,aq,al,D.asStr,iA,D.asRows,D.asInt,and_assoc];have fin:∀ v,v=lcs (a.drop (p - 1)) (b.drop (q - 1)) -> ∃ t',bz (bh a b p t')=(bz T).set (p - 1) [D.sl 3 1 ((aj rA).set (q - 1) [D.int .i64 v])]/\(t':Int)=q - 1/\(bz T).set (p - 1) [D.sl 3 1 ((aj rA).set (q - 1) [D.int .i64 v])]=bz (bh a b p t')/\t'<=b.length/\0 < p/\p<=a.length/\t' < q :=
   fun v hv=>⟨q - 1,(w1 v hv).symm,by omega,w1 v hv,by omega,hg,hga,by omega⟩
  have fin1:=fun h=>fin (L11+1) (by rw [w2,if_pos h])
  have fin2:=fun (h:¬ a[p - 1]=b[q - 1])=>fin (if L10 < L01 then L01 else L10) (by rw [w2,if_neg h]; split <;> split <;> omega)
  clear w1 w2 fin
  repeat' (first | intro _ | apply And.intro)
  all_goals first | omega | exact fin1 (by assumption) | exact fin2 (by assumption)
 ·rw [show q=0 by omega,rK (by omega)]
 ·rw [show q=0 by omega,rK (by omega)]
 ·rw [show p=0 by omega,D8]; exact ⟨rfl,rfl⟩
def maI (a b:List Str):Inv:=⟨Nat × Nat × List Int,fun t=>⟨[(0,true,.sl true 1 (aa a)),(1,true,.sl true 1 (aa b)),(4,true,.nil),(5,true,.own 9 1 (bz (bh a b 0 0))),(6,true,.own 10 1 (aj t.2.2)),(8,true,.int .i64 t.2.1),(7,true,.int .i64 t.1)],[(9,.own 84 1 true (bz (bh a b 0 0))),(10,.own 3 1 true (aj t.2.2))]⟩,
 fun t=>t.1<=a.length/\t.2.1<=b.length/\t.2.2.length=t.1/\t.2.2++mt (a.drop t.1) (b.drop t.2.1) t.2.1=mt a b 0,fun t=>(a.length - t.1)+(b.length - t.2.1)⟩
def uk:Con:=.fn 72 (List Str × List Str) (fun a=>[.sl true 1 (aa a.1),.sl true 1 (aa a.2)]) (fun a=>a.1.length<=1048576/\a.2.length<=1048576) (fun a=>.own 8 1 (aj (mt a.1 a.2 0))) (fun a=>kT 8 (mt a.1 a.2 0))
theorem MI:Has Tryz.prog 275 uk:=by
 refine ag mixed ak (HasL.cons LA HasL.nil) [0,1,4,5,6,7,8] ((fun a n (_:Nat)=>(fun a _=>maI a.1 a.2) a n)) [] Tryz.func275 (by unfold Tryz.f275; rfl) (fun _=>⟨(),trivial⟩) ?_
 intro a ha;obtain ⟨a,b⟩:=a;obtain ⟨h1,h2⟩:a.length<=1048576/\b.length<=1048576:=ha;simp (maxSteps:=4000000) [uk,tZ,Con.fn,ae,maI]
 try dsimp only
 refine ⟨a,b,⟨rfl,rfl⟩,⟨h1,h2⟩,⟨0,0,[],⟨⟨rfl,rfl,rfl,rfl⟩,rfl,rfl⟩,Nat.zero_le _,Nat.zero_le _,rfl,by simp⟩,fun i k out hi hk hl hm _=>⟨fun hlt=>?_,fun hge=>?_⟩⟩
 ·have t1:=@rJ a b 0 0;have t2:=j9 (a:=a) (b:=b) (p:=0) (q:=0) (r:=i) (by omega)
  have t3:=j9 (a:=a) (b:=b) (p:=0) (q:=0) (r:=i+1) (by omega)
  have u1:=@j8 a b 0 0 i;have u2:=@j8 a b 0 0 (i+1);have t4:a[i]? = some a[i]:=List.getElem?_eq_getElem hlt;have m0:=B6 (a:=a) (b:=b) (i:=i) (k:=k) hlt;rcases Nat.lt_or_ge k b.length with hkb | hkb
  ·have t5:b[k]? = some b[k]:=List.getElem?_eq_getElem hkb;have u3:(cJ a b 0 0 (i+1))[k]? = some (lcs (a.drop (i+1)) (b.drop k)):=by rw [iU (by omega),if_pos (by omega)]
   have u4:(cJ a b 0 0 i)[k+1]? = some (lcs (a.drop i) (b.drop (k+1))):=by rw [iU (by omega),if_pos (by omega)]
   have m1:=B7 (a:=a) (b:=b) (i:=i) (k:=k) hlt hkb;generalize bh a b 0 0=T at *;generalize cJ a b 0 0 i=rA at *;generalize cJ a b 0 0 (i+1)=rB at *;generalize lcs (a.drop (i+1)) (b.drop k)=L1 at *;generalize lcs (a.drop i) (b.drop (k+1))=L2 at *;have g1:¬ (k:Int)=b.length:=by omega
   have g3:¬ b.length<=k:=by omega
   obtain ⟨_,u6⟩:=List.getElem?_eq_some_iff.1 u4;simp -implicitDefEqProofs [hkb,g1,g3,t1,t2,t3,t4,t5,u1,u2,u3,u4,u6,aq,al,D.asStr,iA,D.asRows,D.asInt,and_assoc];refine ⟨hlt,fun _=>⟨fun e=>⟨by omega,by omega,by omega,by omega,fun _ _=>⟨by omega,by omega,fun _ _=>⟨i+1,k+1,out++[(k:Int)],gH _ _,by omega,by omega,(gH _ _).symm,by omega,by omega,by simp -implicitDefEqProofs [hl],?_,by omega⟩⟩⟩,fun e=>⟨by omega,by omega,fun _ _=>⟨by omega,hlt,fun _ _=>⟨by omega,fun _=>⟨by omega,fun _=>⟨by omega,by omega,fun _ _=>⟨by omega,fun _=>⟨fun c=>⟨by omega,by omega,by omega,by omega,fun _ _=>⟨i+1,k,out++[-1],gH _ _,by omega,by omega,(gH _ _).symm,by omega,by omega,by simp -implicitDefEqProofs [hl],?_,by omega⟩⟩,fun c=>⟨by omega,by omega,fun _ _=>⟨i,k+1,by omega,by omega,by omega,by omega,hl,?_,by omega⟩⟩⟩⟩⟩⟩⟩⟩⟩⟩⟩
   ·rw [<- hm,m1,if_pos e]; simp
   ·rw [<- hm,m1,if_neg e,if_pos c]; simp
   ·rw [<- hm,m1,if_neg e,if_neg (by omega)]
  ·have g1:¬ k < b.length:=by omega
   have g2:(k:Int)=b.length:=by omega
   simp -implicitDefEqProofs [hkb,g1,g2,t4,al,D.asStr,and_assoc];refine ⟨by omega,by omega,by omega,by omega,fun _ _=>⟨i+1,k,out++[-1],gH _ _,by omega,by omega,(gH _ _).symm,by omega,by omega,by simp -implicitDefEqProofs [hl],?_,by omega⟩⟩
   rw [<- hm,m0 (by omega)]; simp
 ·rw [List.drop_eq_nil_of_le hge,mt,List.append_nil] at hm;exact ⟨hm.symm,hm⟩
def lnP (l:List Str):PartD:=⟨false,l,[],[],[]⟩
def xF (a:List Str × List PartD):List (Nat × Blk):=[(0,.box 242 [.own 8 5 (aD (bI a.2 (lnP a.1)))]),(8,.own 237 5 true (aD (bI a.2 (lnP a.1))))]
def uF:Con:={ A:=List Str × List PartD,X:=Unit,n:=36,args:=fun a=>[.sl true 1 (aa a.1),.ptr 0 0],boxes:=fun a=>[(0,242,[.own 1 5 (aD a.2)])],pre:=fun a=>a.1.length<=1073741824/\a.2.length<=1048576 /\ ∀ q ∈ a.2,q.lines.length<=1073741824,post:=fun _ _=>True,res:=fun _ _=>.tup [],fin:=fun a _=>xF a,owns:=fun a=>[(1,237,5,aD a.2)],nob:=false,mv:=true }
theorem Po:Has Tryz.prog 276 uF:=by
 refine ag mixed ak HasL.nil [0,1,3] ((fun a n (_:Nat)=>(fun _=>an) a n)) [12287,12321,16409,16410] Tryz.func276 (by unfold Tryz.f276; rfl) (fun _=>⟨(),trivial⟩) ?_
 intro a ha;obtain ⟨x,l⟩:=a;obtain ⟨h1,h2,h3⟩:x.length<=1073741824/\l.length<=1048576 /\ ∀ q ∈ l,q.lines.length<=1073741824:=ha;simp -implicitDefEqProofs [uF,xF,Con.fn,ae]
 try dsimp only
 have f:∀ (t:List Str),∀ x ∈ aa t,∀ d ∈ x,match d with | .sl _ _ _=>False | _=>True:=fun t=>(eStrs_flat t).mpr trivial
 have sn:∀ k:List PartD,aD k++[[D.bool false,D.sl 9 1 (aa x),D.sl 9 1 [],D.sl 9 1 [],D.sl 9 1 []]]=aD (k++[lnP x]):=fun k=>by simp -implicitDefEqProofs [aD,cO,lnP]
 rw [sn];have hlc:(lnP x).clash=false:=rfl;have hll:(lnP x).lines=x:=rfl;have e0:x=[]->bI l (lnP x)=l:=fun h=>jq hlc (by rw [hll]; exact h)
 rcases List.eq_nil_or_concat l with rfl | ⟨m,q,rfl⟩
 ·have e4:¬ x=[]->bI [] (lnP x)=[lnP x]:=fun h=>jr (by rw [hll]; simp -implicitDefEqProofs [h])
  clear hll hlc;simp
  repeat' (first | intro _ | apply And.intro)
  all_goals first | omega | exact f _ | exact f _ _ (by assumption) _ (by assumption) | exact e0 (by assumption) | exact (e0 (by assumption)).symm | exact e4 (by assumption) | exact (e4 (by assumption)).symm
 ·have he:∀ r,(aD m++[r])[m.length]? = some r:=fun r=>by rw [List.getElem?_append_right (by simp)]; simp
  have hs:∀ r,(aD (m++[q])).set m.length r=aD m++[r]:=fun r=>by simp -implicitDefEqProofs [aD]
  have hq:(m++[q])[m.length]? = some q:=by simp
  have hql:=h3 q (by simp)
  have ee:∀ r r',(aD m++[r]=aD (m++[r']))=(r=cO r'):=fun r r'=>by simp -implicitDefEqProofs [aD]
  have h2:m.length+1<=1048576:=by simpa using h2
  have e1:q.clash=false -> ¬ x=[]->bI (m++[q]) (lnP x)=m++[⟨q.clash,q.lines++x,q.old,q.one,q.two⟩]:=fun h h'=>oz h hlc (by rw [hll]; exact h')
  have e2:q.clash=true -> ¬ x=[]->bI (m++[q]) (lnP x)=m++[q]++[lnP x]:=fun h h'=>oA h (by rw [hll]; simp -implicitDefEqProofs [h'])
  clear hll hlc;rw [List.concat_eq_append] at e0;simp -implicitDefEqProofs [he,hs,cO,D.asBool,D.asRows]
  repeat' (first | intro _ | apply And.intro)
  all_goals first | omega | exact f _ | exact f _ _ (by assumption) _ (by assumption) | exact e0 (by assumption) | exact (e0 (by assumption)).symm | (rw [e1 (by assumption) (by assumption)]; simp -implicitDefEqProofs [aD,cO,aa]; done) | (rw [e2 (by assumption) (by assumption)]; simp; done)
end Vx
end Go.Proofs.YtonkagjdfpacmaaGreatDoor
/-
  DERIVED: THE SHELF's CONTRACTS AT THIS DUMP, IN PLAIN WORDS (tools/lay-plain.mjs out of 'YtonkagjdfpacmaaGreatDoorShelf.lean', which tools/lay-shelf.mjs wrote): THE SAME DECLARATIONS UNDER THE SAME NAMES: 'import', 'namespace', 'open', 'def', 'theorem' AND NOTHING ELSE: no command of the shelf's: FOR A HAND-IN. Each laying: the table of numbers ('.._ren') and one theorem, a field a fact of the dump's own or the kernel's comparison; each contract: ONE APPLICATION.
-/
namespace Go.Proofs
open Go.Shelf
def Tryz.laysSort_ren:Go.Shelf.Ren:=⟨fun | 190=>223 | 125=>241 | 258=>240 | 128=>262 | 129=>231 | 302=>253 | 303=>254 | 304=>255 | 305=>256 | 306=>257 | 307=>258 | 308=>259 | 309=>260 | 310=>261 | 333=>269 | 329=>270 | 330=>271 | 334=>272 | 335=>273 | 336=>274 | 344=>278 | n=>n,fun | 31=>36 | 9=>9 | 3=>3 | 46=>157 | 0=>0 | 51=>156 | 53=>201 | 4=>4 | 183=>252 | 182=>251 | 131=>256 | 5=>5 | 218=>264 | 222=>268 | 228=>272 | 229=>273 | n=>n,fun | n=>n⟩
theorem Tryz.laysSort:Go.Proofs.Lays.n190 Tryz.prog Tryz.laysSort_ren:={
  mixed:=by kernel_rfl
  f125:=Tryz.func241.trans (congrArg some (by kernel_rfl))
  f128:=Tryz.func262.trans (congrArg some (by kernel_rfl))
  f129:=Tryz.func231.trans (congrArg some (by kernel_rfl))
  f190:=Tryz.func223.trans (congrArg some (by kernel_rfl))
  f258:=Tryz.func240.trans (congrArg some (by kernel_rfl))
  f302:=Tryz.func253.trans (congrArg some (by kernel_rfl))
  f303:=Tryz.func254.trans (congrArg some (by kernel_rfl))
  f304:=Tryz.func255.trans (congrArg some (by kernel_rfl))
  f305:=Tryz.func256.trans (congrArg some (by kernel_rfl))
  f306:=Tryz.func257.trans (congrArg some (by kernel_rfl))
  f307:=Tryz.func258.trans (congrArg some (by kernel_rfl))
  f308:=Tryz.func259.trans (congrArg some (by kernel_rfl))
  f309:=Tryz.func260.trans (congrArg some (by kernel_rfl))
  f310:=Tryz.func261.trans (congrArg some (by kernel_rfl))
  f329:=Tryz.func270.trans (congrArg some (by kernel_rfl))
  f330:=Tryz.func271.trans (congrArg some (by kernel_rfl))
  f333:=Tryz.func269.trans (congrArg some (by kernel_rfl))
  f334:=Tryz.func272.trans (congrArg some (by kernel_rfl))
  f335:=Tryz.func273.trans (congrArg some (by kernel_rfl))
  f336:=Tryz.func274.trans (congrArg some (by kernel_rfl))
  f344:=Tryz.func278.trans (congrArg some (by kernel_rfl))
  t0:=Tryz.underlying0
  a0:=Tryz.isAgg0
  z0:=Tryz.sizeOf0
  v0:=Tryz.zeroValue0
  t3:=Tryz.underlying3
  a3:=Tryz.isAgg3
  z3:=Tryz.sizeOf3
  v3:=Tryz.zeroValue3
  t4:=Tryz.underlying4
  a4:=Tryz.isAgg4
  z4:=Tryz.sizeOf4
  v4:=Tryz.zeroValue4
  t5:=Tryz.underlying5
  a5:=Tryz.isAgg5
  z5:=Tryz.sizeOf5
  v5:=Tryz.zeroValue5
  t9:=Tryz.underlying9
  a9:=Tryz.isAgg9
  z9:=Tryz.sizeOf9
  v9:=Tryz.zeroValue9
  t31:=Tryz.underlying36
  a31:=Tryz.isAgg36
  z31:=Tryz.sizeOf36
  v31:=Tryz.zeroValue36
  t46:=Tryz.underlying157
  a46:=Tryz.isAgg157
  z46:=Tryz.sizeOf157
  v46:=Tryz.zeroValue157
  t51:=Tryz.underlying156
  a51:=Tryz.isAgg156
  z51:=Tryz.sizeOf156
  v51:=Tryz.zeroValue156
  t53:=Tryz.underlying201
  a53:=Tryz.isAgg201
  z53:=Tryz.sizeOf201
  v53:=Tryz.zeroValue201
  t131:=Tryz.underlying256
  a131:=Tryz.isAgg256
  z131:=Tryz.sizeOf256
  v131:=Tryz.zeroValue256
  t182:=Tryz.underlying251
  a182:=Tryz.isAgg251
  z182:=Tryz.sizeOf251
  v182:=Tryz.zeroValue251
  t183:=Tryz.underlying252
  a183:=Tryz.isAgg252
  z183:=Tryz.sizeOf252
  v183:=Tryz.zeroValue252
  t218:=Tryz.underlying264
  a218:=Tryz.isAgg264
  z218:=Tryz.sizeOf264
  v218:=Tryz.zeroValue264
  t222:=Tryz.underlying268
  a222:=Tryz.isAgg268
  z222:=Tryz.sizeOf268
  v222:=Tryz.zeroValue268
  t228:=Tryz.underlying272
  a228:=Tryz.isAgg272
  z228:=Tryz.sizeOf272
  v228:=Tryz.zeroValue272
  t229:=Tryz.underlying273
  a229:=Tryz.isAgg273
  z229:=Tryz.sizeOf273
  v229:=Tryz.zeroValue273 }
def Tryz.laysCompact_ren:Go.Shelf.Ren:=⟨fun | 194=>224 | n=>n,fun | 31=>36 | 9=>9 | 3=>3 | 4=>4 | 0=>0 | n=>n,fun | n=>n⟩
theorem Tryz.laysCompact:Go.Proofs.Lays.n194 Tryz.prog Tryz.laysCompact_ren:={
  mixed:=by kernel_rfl
  f194:=Tryz.func224.trans (congrArg some (by kernel_rfl))
  t0:=Tryz.underlying0
  a0:=Tryz.isAgg0
  z0:=Tryz.sizeOf0
  v0:=Tryz.zeroValue0
  t3:=Tryz.underlying3
  a3:=Tryz.isAgg3
  z3:=Tryz.sizeOf3
  v3:=Tryz.zeroValue3
  t4:=Tryz.underlying4
  a4:=Tryz.isAgg4
  z4:=Tryz.sizeOf4
  v4:=Tryz.zeroValue4
  t9:=Tryz.underlying9
  a9:=Tryz.isAgg9
  z9:=Tryz.sizeOf9
  v9:=Tryz.zeroValue9
  t31:=Tryz.underlying36
  a31:=Tryz.isAgg36
  z31:=Tryz.sizeOf36
  v31:=Tryz.zeroValue36 }
end Go.Proofs
namespace Go.Proofs.YtonkagjdfpacmaaGreatDoor
set_option maxHeartbeats 4000000
namespace Vx
open Go.RowKit Go.Sort
theorem rh {j:Nat} {v:Value} {c:Cx} {s:St} {a:Act} {w w':World} {β:Nat->Value} {fp:Nat->List (Nat × Nat)} (S:SatI c s a w β fp) {e k:Nat} {R:List (List D)} {f:List (Nat × Nat)}
  (hpin:∀ p ∈ c.pins,v=p.2/\p.1=j) (hb:BlkOk w' (ai [(j,Blk.own e k true R)]) (fun _=>v) c j f (.own e k true R)) (hnd:(Ob (fun _=>v) j f (.own e k true R)).Nodup) (hfree:∀ x ∈ Ob (fun _=>v) j f (.own e k true R),¬ c.G x)
  (hG:∀ b,c.G b->w'.heap[b]? = w.heap[b]?) (hsize:w.heap.size<=w'.heap.size) (hos:w'.os=w.os) (htape:w'.tape=w.tape) (hout:w'.output=w.output) :
  ∃ β' fp' a',SatI c ⟨fun _=>none,ai [(j,.own e k true R)]⟩ a' w' β' fp'/\RelL w' (ai [(j,.own e k true R)]) β' c [.own j k R] [v]:=by
 refine ⟨fun _=>v,fun _=>f,⟨Array.replicate c.n undef,[]⟩,⟨?_,?_,?_,?_,?_,S.fg,fun b hb=>⟨(S.old b hb).1,(hG b hb).trans (S.old b hb).2⟩,hos.trans S.os,htape.trans S.tape,hout.trans S.output,Nat.le_trans S.size hsize,rfl,by simp,fun p hp=>?_⟩,?_⟩
 ·intro t g av h; cases h
 ·intro h blk hm; obtain ⟨rfl,rfl⟩:=dM hm; exact hb
 ·intro h blk hm; obtain ⟨rfl,rfl⟩:=dM hm; exact hnd
 ·intro h h' blk blk' hm hm' hne; obtain ⟨rfl,rfl⟩:=dM hm; obtain ⟨rfl,rfl⟩:=dM hm'; exact absurd rfl hne
 ·intro h blk hm x hx; obtain ⟨rfl,rfl⟩:=dM hm; exact hfree x hx
 ·obtain ⟨h1,h2⟩:=hpin p hp;exact ⟨h1,by rw [h2]; simp [ai]⟩
 ·exact ie (h:=j) (fps:=fun _=>f) (by simp [ai]) hb hnd (fun h' blk' hm hne=>by obtain ⟨rfl,rfl⟩:=dM hm; exact absurd rfl hne) hfree
theorem xx {q:Bool} {w:World}:∀ {l:List Str},(∀ s ∈ l,s.length<=maxLen)->RdL q w (aa l).flatten (l.map encStr) []
 | [],_=>.nil
 | s :: l,h=>.str (h s (by simp)) (xx fun x hx=>h x (by simp [hx]))
theorem xy {q:Bool} {w:World}:∀ {l:List Str} {vs f},RdL q w (aa l).flatten vs f->vs=l.map encStr/\f=[] /\ ∀ s ∈ l,s.length<=maxLen
 | [],vs,f,h=>by cases h; exact ⟨rfl,rfl,by simp⟩
 | s :: l,vs,f,h=>by
  cases h with
  | str h1 h2 =>
   obtain ⟨rfl,rfl,h3⟩:=xy (l:=l) h2;exact ⟨rfl,rfl,by simpa using ⟨h1,h3⟩⟩
theorem Dr {w:World} {n b:Nat} {d:List Str} {os:Array Obj} {cs:Array Value} {e:Nat} {fr:Nat × Nat} (hb:w.heap[b]? = some (.cells cs e fr)) :
  (grow (putRow encStr (Sort.ahead w n) b 0 d.toArray) os).heap[b]? = some (.cells (putCells encStr 0 d.toArray cs) e fr) /\
  (∀ x,x < w.heap.size->x ≠ b->(grow (putRow encStr (Sort.ahead w n) b 0 d.toArray) os).heap[x]? = w.heap[x]?)/\w.heap.size<=(grow (putRow encStr (Sort.ahead w n) b 0 d.toArray) os).heap.size /\
  (putCells encStr 0 d.toArray cs).size=cs.size /\ ∀ k,k<=d.length->k<=cs.size->(putCells encStr 0 d.toArray cs).toList.take k=(d.take k).map encStr:=by
 have hlt:b < w.heap.size:=(Array.getElem?_eq_some_iff.1 hb).1;refine ⟨?_,fun x hx hne=>?_,?_,by simp [putCells],fun k hk hk2=>?_⟩
 ·simp only [grow,putRow,mapBlock,Sort.ahead];rw [Array.getElem?_append_left (by simpa using hlt),Array.getElem?_modify,if_pos rfl,hb]
  rfl
 ·simp only [grow,putRow,mapBlock,Sort.ahead];rw [Array.getElem?_append_left (by simpa using hx),Array.getElem?_modify,if_neg (Ne.symm hne)]
 ·simp [grow,putRow,mapBlock,Sort.ahead]
 ·apply List.ext_getElem
  ·simp [putCells]; omega
  ·intro i h1 h2;have hi:i < d.length:=by simp at h2; omega
   simp only [List.getElem_take,List.getElem_map,putCells,Array.getElem_toList,Array.getElem_mapIdx];rw [if_pos (by simp; omega)]
   simp [hi]
def dQ (l:List Str):List Str:=l.mergeSort fun x y=>decide (x<=y)
def cSortS:Con:={ A:=List Str,X:=Unit,n:=11,args:=fun l=>[.own 0 1 (aa l)],boxes:=fun _=>[],pre:=fun l=>l.length<=1048576,post:=fun _ _=>True,res:=fun _ _=>.tup [],fin:=fun l _=>[(0,.own 9 1 true (aa (dQ l)))],owns:=fun l=>[(0,9,1,aa l)],lends:=[0],mv:=true }
theorem rD (l:List Str):(dQ l).length=l.length:=by simp [dQ]
theorem DP (l:List Str) (x:Str):x ∈ dQ l ↔ x ∈ l:=by simp [dQ]
theorem P8:Has Tryz.prog 223 cSortS:=by
 refine ⟨fun args w=>Go.MuLone.run_callFunc_enter Tryz.func223 (by kernel_rfl) rfl args w,fun _=>⟨(),trivial⟩,fun _ _=>rfl,?_,trivial,.inl rfl⟩
 intro (l:List Str) (h1:l.length<=1048576) c _ vs β fp hn hpin hlen hlen2 S;have hp:c.pins=[(0,β 0)]:=hpin;have hr:=j6 hlen S;obtain ⟨v0,vs1,rfl,r0,hr⟩:=hr.uncons;cases hr;have m0:(cSortS.start2 l).m 0=some (.own 9 1 true (aa l)):=rfl;have e0:v0 = β 0:=by cases r0 with | own _ _ h3 _=>exact (h3 _ _ _ _ m0).1
 subst e0;have hnd:=S.nodup 0 _ m0;have hfr:=S.free 0 _ m0;have hGlt:∀ b,c.G b->b < c.w0.heap.size:=fun b hG=>(S.old b hG).1;have fin:∀ {w':World},(∃ β' fp' a',SatI c ⟨fun _=>none,ai [(0,.own 9 1 true (aa (dQ l)))]⟩ a' w' β' fp'/\RelL w' (ai [(0,.own 9 1 true (aa (dQ l)))]) β' c [.own 0 1 (aa (dQ l))] [β 0]) ->
   ∃ x,cSortS.post l x /\ ∃ v,Ending.returned (.tuple #[])=Ending.returned v /\ ∃ β' fp' a',SatI c (cSortS.end_ l x) a' w' β' fp'/\RelL w' (ai (cSortS.fin l x)) β' c [cSortS.res l x] [v] :=
  fun ⟨β',fp',a',g1,g2⟩=>⟨(),trivial,_,rfl,β',fp',a',g1,.tup .lnil .lnil⟩
 obtain ⟨_,_,B0⟩:=S.mem 0 _ m0;rcases B0 with ⟨q1,q2,q3⟩ | ⟨b,cap,cs,f0,q1,q2,q3,q4,q5,q6,q7,_⟩
 ·have hl:l=[]:=by simpa using q2
  subst hl;rw [q1];refine (Any.slices_Sort_string_none Tryz.laysSort none 0 c.w0).mono ?_;rintro e w' ⟨rfl,rfl⟩;have:=rh (w':=c.w0) (j:=0) (v:=β 0) (f:=[]) (e:=9) (k:=1) (R:=[]) S (by rw [hp]; intro p hp; simp at hp; subst hp; exact ⟨rfl,rfl⟩) ⟨by omega,by simp,.inl ⟨q1,rfl,rfl⟩⟩ (by simp [Ob,q1]) (by simp [Ob,q1]) (fun _ _=>rfl) (Nat.le_refl _) rfl rfl rfl
  exact fin (by simpa [dQ] using this)
 ·rw [eStrs_length] at q1 q3 q6;obtain ⟨u1,u2,u3⟩:=xy q6;have q7:=q7 rfl;rw [u2] at q7;have hlt:b < c.w0.heap.size:=(Array.getElem?_eq_some_iff.1 q2).1;have hH:Holds encStr c.w0 b 0 l.toArray:=by
   intro j hj;have hj:j < l.length:=by simpa using hj
   have hjc:j < cs.size:=by omega
   constructor
   ·have:(cs.toList.take (l.length * 1))[j]? = some (encStr l[j]):=by rw [u1]; simp [hj]
    rw [List.getElem?_take,if_pos (by omega)] at this
    simp only [World.cell?,q2]
    simpa [hj] using this
   ·simp [World.frozen?,q2]
  rw [q1];refine (Any.slices_Sort_string Tryz.laysSort b 0 cap l c.w0 hH hlt (by omega)).mono ?_
  rintro e w' ⟨rfl,n,os,rfl⟩;obtain ⟨z1,z2,z3,z4,z5⟩:=Dr (n:=n) (d:=dQ l) (os:=os) q2;have hob:Ob β 0 (fp 0) (.own 9 1 true (aa l))=[b]:=by simp [Ob,q1,q7]
  rw [hob] at hfr;have:=rh (j:=0) (v:=β 0) (f:=[]) (e:=9) (k:=1) (R:=aa (dQ l)) (w':=grow (putRow encStr (Sort.ahead c.w0 n) b 0 (dQ l).toArray) os) S (by rw [hp]; intro p hp; simp at hp; subst hp; exact ⟨rfl,rfl⟩)
   ⟨by omega,by simp [aa,al],.inr ⟨b,cap,putCells encStr 0 (dQ l).toArray cs,[],by rw [eStrs_length,rD]; exact q1,z1,by rw [eStrs_length,rD]; exact q3,q4,by rw [z4]; exact q5,by
    rw [eStrs_length,Nat.mul_one,z5 _ (Nat.le_refl _) (by rw [rD]; omega),List.take_length]
    exact xx fun s hs=>u3 s ((DP l s).1 hs),fun _=>rfl,by simp⟩⟩
   (by simp [Ob,q1]) (by simpa [Ob,q1] using hfr) (fun x hG=>z2 x (hGlt x hG) fun e=>by subst e; exact hfr x (by simp) hG) z3 rfl rfl rfl
  rw [q1] at this fin;exact fin this
theorem H7 {w:World} {m:Nat->Option Blk} {β:Nat->Value} {c:Cx} {h b cap:Nat} {cells:Array Value} {C:List Str} (hv:β h = .slice (some ⟨b,0,none⟩) C.length cap) (hw:w.heap[b]? = some (.cells cells 9 (0,0))) (hcap:C.length<=cap) (q4:cap<=maxLen) (q5:cells.size=cap * 1)
  (htk:cells.toList.take C.length=C.map encStr) (hu:∀ s ∈ C,s.length<=maxLen):BlkOk w m β c h [] (.own 9 1 true (aa C)):=by
 refine ⟨by omega,by simp [aa,al],.inr ⟨b,cap,cells,[],?_,hw,?_,q4,q5,?_,fun _=>rfl,by simp⟩⟩
 ·rw [eStrs_length]; exact hv
 ·rw [eStrs_length]; exact hcap
 ·rw [eStrs_length,Nat.mul_one,htk];exact xx hu
def cCompactS:Con:={ A:=List Str,X:=Unit,n:=61,args:=fun l=>[.own 0 1 (aa l)],boxes:=fun _=>[],pre:=fun l=>l.length<=1048576,post:=fun _ _=>True,res:=fun l _=>.own 8 1 (aa (Lib.compact l)),fin:=fun l _=>[(8,.own 9 1 true (aa (Lib.compact l)))],owns:=fun l=>[(0,9,1,aa l)],mv:=true }
theorem GM (l:List Str):(Lib.compact l).length<=l.length:=by
 unfold Lib.compact Lib.compactUpTo;rw [List.length_map];exact Nat.le_trans (List.length_filter_le _ _) (by simp)
theorem GN (l:List Str):∀ s ∈ Lib.compact l,s ∈ l:=by
 intro s hs;unfold Lib.compact Lib.compactUpTo at hs;obtain ⟨j,hj,rfl⟩:=List.mem_map.1 hs;have hj:j < l.length:=by simpa using (List.mem_filter.1 hj).1
 rw [getElem!_pos _ j (by simpa using hj)]
 simp
set_option maxHeartbeats 400000 in
theorem GL:Has Tryz.prog 224 cCompactS:=by
 refine ⟨fun args w=>Go.MuLone.run_callFunc_enter Tryz.func224 (by kernel_rfl) rfl args w,fun _=>⟨(),trivial⟩,fun _ _=>rfl,?_,trivial,.inl rfl⟩
 intro (l:List Str) (h1:l.length<=1048576) c _ vs β fp hn hpin hlen hlen2 S;have hp:c.pins=[]:=hpin;have hr:=j6 hlen S;obtain ⟨v0,vs1,rfl,r0,hr⟩:=hr.uncons;cases hr;have m0:(cCompactS.start2 l).m 0=some (.own 9 1 true (aa l)):=rfl;have e0:v0 = β 0:=by cases r0 with | own _ _ h3 _=>exact (h3 _ _ _ _ m0).1
 subst e0;have hfr:=S.free 0 _ m0;have hGlt:∀ b,c.G b->b < c.w0.heap.size:=fun b hG=>(S.old b hG).1;have fin:∀ {w':World} {v:Value},(∃ β' fp' a',SatI c ⟨fun _=>none,ai [(8,.own 9 1 true (aa (Lib.compact l)))]⟩ a' w' β' fp'/\RelL w' (ai [(8,.own 9 1 true (aa (Lib.compact l)))]) β' c [.own 8 1 (aa (Lib.compact l))] [v]) ->
   ∃ x,cCompactS.post l x /\ ∃ v',Ending.returned v=Ending.returned v' /\ ∃ β' fp' a',SatI c (cCompactS.end_ l x) a' w' β' fp'/\RelL w' (ai (cCompactS.fin l x)) β' c [cCompactS.res l x] [v'] :=
  fun ⟨β',fp',a',g1,g2⟩=>⟨(),trivial,_,rfl,β',fp',a',g1,g2⟩
 obtain ⟨_,_,B0⟩:=S.mem 0 _ m0;rcases B0 with ⟨q1,q2,q3⟩ | ⟨b,cap,cs,f0,q1,q2,q3,q4,q5,q6,q7,_⟩
 ·have hl:l=[]:=by simpa using q2
  subst hl;rw [q1];refine (Any.slices_Compact_string_empty Tryz.laysCompact none 0 c.w0).mono ?_;rintro e w' ⟨rfl,rfl⟩;have:=rh (w':=c.w0) (j:=8) (v:=.slice none 0 0) (f:=[]) (e:=9) (k:=1) (R:=[]) S (by rw [hp]; simp) ⟨by omega,by simp,.inl ⟨rfl,rfl,rfl⟩⟩ (by simp [Ob]) (by simp [Ob]) (fun _ _=>rfl) (Nat.le_refl _) rfl rfl rfl
  exact fin (by simpa [Lib.compact,Lib.compactUpTo] using this)
 ·rw [eStrs_length] at q1 q3 q6;obtain ⟨u1,u2,u3⟩:=xy q6;have q7:=q7 rfl;rw [u2] at q7;have hlt:b < c.w0.heap.size:=(Array.getElem?_eq_some_iff.1 q2).1;have hH:Holds encStr c.w0 b 0 l.toArray:=by
   intro j hj;have hj:j < l.length:=by simpa using hj
   have hjc:j < cs.size:=by omega
   constructor
   ·have:(cs.toList.take (l.length * 1))[j]? = some (encStr l[j]):=by rw [u1]; simp [hj]
    rw [List.getElem?_take,if_pos (by omega)] at this
    simp only [World.cell?,q2]
    simpa [hj] using this
   ·simp [World.frozen?,q2]
  rw [q1];refine (Any.slices_Compact_string Tryz.laysCompact b 0 cap l c.w0 hH (by omega) q3).mono ?_
  rintro e w' ⟨rfl,n,rfl⟩;have hcl:=GM l;obtain ⟨z1,z2,z3,z4,z5⟩:=Dr (n:=n) (d:=Lib.compact l++List.replicate (l.length - (Lib.compact l).length) []) (os:=#[]) q2;simp only [grow_empty] at z1 z2 z3 z4 z5;have hob:Ob β 0 (fp 0) (.own 9 1 true (aa l))=[b]:=by simp [Ob,q1,q7]
  rw [hob] at hfr;have htk:=z5 (Lib.compact l).length (by simp) (by omega)
  rw [List.take_left] at htk;have hu:∀ s ∈ Lib.compact l,s.length<=maxLen:=fun s hs=>u3 s (GN l s hs);generalize hcs:putCells encStr 0 (Lib.compact l++List.replicate (l.length - (Lib.compact l).length) []).toArray cs=cells at z1 z4 htk;generalize hw':putRow encStr (Sort.ahead c.w0 n) b 0 (Lib.compact l++List.replicate (l.length - (Lib.compact l).length) []).toArray=w1 at z1 z2 z3;have hos:w1.os=c.w0.os:=by rw [<- hw']; rfl
  have htp:w1.tape=c.w0.tape:=by rw [<- hw']; rfl
  have hou:w1.output=c.w0.output:=by rw [<- hw']; rfl
  have hw'':putRow encStr (Sort.ahead c.w0 n) b 0 (Lib.compact l++List.replicate (l.length - (Lib.compact l).length) []).toArray=w1:=hw';clear hw' hcs;generalize hC:Lib.compact l=C at *;have:=rh (j:=8) (v:=.slice (some ⟨b,0,none⟩) C.length cap) (f:=[]) (e:=9) (k:=1) (R:=aa C) (w':=w1) S (by rw [hp]; simp)
   (H7 (cells:=cells) rfl z1 (by omega) q4 (by rw [z4]; exact q5) htk hu) (by simp [Ob]) (by simpa [Ob] using hfr) (fun x hG=>z2 x (hGlt x hG) fun e=>by subst e; exact hfr x (by simp) hG) z3 hos htp hou
  exact fin this
end Vx
end Go.Proofs.YtonkagjdfpacmaaGreatDoor
namespace Go.Proofs.YtonkagjdfpacmaaGreatDoor
set_option maxHeartbeats 4000000
namespace Vx
open Go.RowKit
set_option maxRecDepth 8000
def fC (t:List FileD):Prop:=t.length<=1048576/\(∀ f ∈ t,f.text.length<=1048576) /\ ∀ f ∈ t,f.path.length<=536870912
def gn (t:List FileD) (p:Str):List Str × Bool:=match t.find? (fun f=>decide (f.path=p)) with
 | some f=>(f.text,true)
 | none=>([],false)
theorem Ir {t:List FileD} {p:Str} {i:Nat} (h:i < t.length) (h1:∀ j (hj:j < t.length),j < i -> ¬ t[j].path=p) (h2:t[i].path=p):gn t p=(t[i].text,true):=by
 have:t.find? (fun f=>decide (f.path=p))=some t[i]:=by
  rw [List.find?_eq_some_iff_getElem];refine ⟨by simp -implicitDefEqProofs [h2],i,h,rfl,fun j hj=>?_⟩
  simpa using h1 j (by omega) hj
 unfold gn; rw [this]
theorem Is {t:List FileD} {p:Str} (h:∀ j (hj:j < t.length),¬ t[j].path=p):gn t p=([],false):=by
 have:t.find? (fun f=>decide (f.path=p))=none:=by
  rw [List.find?_eq_none];intro f hf;obtain ⟨j,hj,rfl⟩:=List.getElem_of_mem hf
  simpa using h j hj
 unfold gn; rw [this]
def s6:Con:=.fn 22 (List FileD × Str) (fun a=>[.sl true 2 (ac a.1),.str a.2]) (fun a=>∀ f ∈ a.1,f.text.length<=1048576) (fun a=>.tup [.own 8 1 (aa (gn a.1 a.2).1),.bool (gn a.1 a.2).2]) (fun a=>dk 8 (gn a.1 a.2).1)
theorem Ip:Has Tryz.prog 227 s6:=by
 refine ag mixed ak (HasL.cons qd HasL.nil) [0,1,4,5,7,8,9,10] ((fun a n (_:Nat)=>(fun a _=>⟨Nat,fun i=>⟨[(1,true,.str a.2),(4,true,.nil),(5,true,.bool false),(8,true,.sl true 2 (ac a.1)),(9,true,.int .i64 a.1.length),(10,true,.int .i64 i)],[]⟩,fun i=>i<=a.1.length /\ ∀ j (hj:j < a.1.length),j < i -> ¬ a.1[j].path=a.2,fun i=>a.1.length - i⟩) a n)) [] Tryz.func227 (by unfold Tryz.f227; rfl) (fun _=>⟨(),trivial⟩) ?_
 intro a ha;obtain ⟨t,p⟩:=a;replace ha:∀ f ∈ t,f.text.length<=1048576:=ha;simp -implicitDefEqProofs [s6,lH,Con.fn,ae]
 try dsimp only
 refine fun _ i hi hb=>⟨fun hlt=>⟨hlt,fun _=>?_⟩,fun hge=>?_⟩
 ·have hf:=ha t[i] (List.getElem_mem hlt);have e1:=fun h=>Ir (p:=p) hlt hb h;simp -implicitDefEqProofs [hlt,am,D.asStr,D.asRows,and_assoc];refine ⟨fun h=>⟨hf,by rw [e1 h]; exact ⟨rfl,rfl,rfl⟩⟩,fun h=>⟨by omega,by omega,fun _ _=>⟨i+1,by omega,by omega,fun j hj hji=>?_,by omega⟩⟩⟩
  by_cases e:j=i
  ·subst e; exact h
  ·exact hb j hj (by omega)
 ·rw [Is fun j hj=>hb j hj (by omega)]
  exact ⟨⟨rfl,rfl⟩,rfl⟩
theorem Iq (t:List FileD) (p:Str):gn t p=aH t p:=by
 unfold gn
 induction t with
 | nil=>rfl
 | cons f t ih =>
  unfold aH;by_cases h:f.path=p
  ·simp -implicitDefEqProofs [h]
  ·rw [List.find?_cons_of_neg (by simpa using h),if_neg h]; exact ih
--TAB dm
def dm:List (Nat × TI):=(216,⟨false,[.sl 85 1],24,[],85⟩) :: (188,⟨true,[.sl 9 1,.bool],32,[(36,0),(4,1)],0⟩) :: ae
theorem fa:∀ t ti,ai dm t=some ti->TOk Tryz.prog t ti:=rF (by kernel_rfl)
theorem Qs {a b c:Str} (h:a<=b) (h':b<=c):a<=c:=List.le_trans h h'
theorem D0 {a b:Str} (h:a<=b) (hne:a ≠ b):a < b:=mU b a h (Ne.symm hne)
theorem P7 (l:List Str):(dQ l).Pairwise (· <= ·):=by
 have:=List.pairwise_mergeSort (le:=fun x y:Str=>decide (x<=y)) (fun a b c h h'=>by simp only [decide_eq_true_eq] at *; exact Qs h h') (fun a b=>by
  simp only [Bool.or_eq_true,decide_eq_true_eq];exact List.le_total a b) l
 refine List.Pairwise.imp ?_ this;intro a b h; simpa using h
theorem zB {l:List Str} (h:l.Pairwise (· <= ·)):∀ m,m<=l.length->srt (Lib.compactUpTo l.toArray m) /\ ∀ x,x ∈ Lib.compactUpTo l.toArray m ↔ x ∈ l.take m
 | 0,_=>⟨by simp -implicitDefEqProofs [Lib.compactUpTo,srt],by simp -implicitDefEqProofs [Lib.compactUpTo]⟩
 | m+1,hm=>by
  obtain ⟨h1,h2⟩:=zB h m (by omega)
  have hlt:m < l.length:=by omega
  have e:l.toArray[m]! = l[m]:=by simp -implicitDefEqProofs [hlt]
  have hall:∀ x ∈ l.take m,x<=l[m]:=by
   intro x hx;obtain ⟨i,hi,rfl⟩:=List.getElem_of_mem hx;have hi':i < m:=by simp at hi; omega
   rw [List.getElem_take];exact List.pairwise_iff_getElem.1 h i m (by omega) hlt hi'
  rw [Lib.compactUpTo_succ,e,bg hlt];by_cases hk:Lib.keeps l.toArray m=true
  ·rw [if_pos hk];refine ⟨List.pairwise_append.2 ⟨h1,by simp,fun x hx y hy=>?_⟩,fun x=>by rw [List.mem_append,List.mem_append,h2]⟩
   have:y=l[m]:=by simpa using hy
   subst this;have hx:=(h2 x).1 hx;have hle:=hall x hx;refine D0 hle fun e2=>?_;have hm0:0 < m:=by
    rcases Nat.eq_zero_or_pos m with h0 | h0
    ·subst h0; simp at hx
    ·exact h0
   have hne:l[m] ≠ l[m - 1]:=by
    have:=hk;unfold Lib.keeps at this;simp only [decide_eq_true_eq] at this;rcases this with h0 | h0
    ·omega
    ·simpa [hlt,show m - 1 < l.length by omega] using h0
   obtain ⟨i,hi,rfl⟩:=List.getElem_of_mem hx;have hi':i < m:=by simp at hi; omega
   rw [List.getElem_take] at e2 hle;rcases Nat.lt_or_ge i (m - 1) with hq | hq
   ·have q1:=List.pairwise_iff_getElem.1 h i (m - 1) (by omega) (by omega) hq
    have q2:=List.pairwise_iff_getElem.1 h (m - 1) m (by omega) hlt (by omega)
    have q3:=D0 q2 (Ne.symm hne);rw [<- e2] at q3;exact q1 q3
   ·have:i=m - 1:=by omega
    subst this;exact hne e2.symm
  ·rw [if_neg hk,List.append_nil];refine ⟨h1,fun x=>?_⟩;rw [h2,List.mem_append];have hk:Lib.keeps l.toArray m=false:=by simpa using hk
   unfold Lib.keeps at hk;simp only [decide_eq_false_iff_not,not_or,Classical.not_not] at hk;obtain ⟨k1,k2⟩:=hk;have k3:l[m]=l[m - 1]:=by simpa [hlt,show m - 1 < l.length by omega] using k2
   refine ⟨.inl,fun hx=>hx.elim id fun hx=>?_⟩;have:x=l[m]:=by simpa using hx
   rw [this,k3];exact List.mem_take_iff_getElem.2 ⟨m - 1,by omega,rfl⟩
theorem GO (l:List Str):srt (Lib.compact (dQ l)) /\ ∀ x,x ∈ Lib.compact (dQ l) ↔ x ∈ l:=by
 obtain ⟨h1,h2⟩:=zB (P7 l) (dQ l).length (Nat.le_refl _);exact ⟨h1,fun x=>by
  unfold Lib.compact;rw [h2,List.take_length,DP]⟩
def o6 (ts:List (List FileD)):List Str:=Lib.compact (dQ (ts.flatten.map (·.path)))
theorem sd (o a b:List FileD):o6 [o,a,b]=bv o a b:=by
 obtain ⟨h1,h2⟩:=GO (([o,a,b]:List (List FileD)).flatten.map (·.path));obtain ⟨h3,h4⟩:=C7 o a b;refine DT h1 h3 fun x=>?_;unfold o6 at *;rw [h2,h4]; simp
def nL (t:List FileD):List D:=[.sl 99 2 (ac t)]
def kG (ts:List (List FileD)):List (List D):=ts.map nL
@[simp] theorem eTrees_length (l:List (List FileD)):(kG l).length=l.length:=by simp -implicitDefEqProofs [kG]
@[simp] theorem eTrees_get (l:List (List FileD)) (i:Nat):(kG l)[i]? = l[i]?.map nL:=by simp -implicitDefEqProofs [kG]
def dI (ts:List (List FileD)) (i j:Nat):List Str:=((ts.take i).flatten++(ts.getD i []).take j).map (·.path)
theorem Dj (ts:List (List FileD)):dI ts 0 0=[]:=by simp -implicitDefEqProofs [dI]
theorem Oo (ts:List (List FileD)):dI ts ts.length 0=ts.flatten.map (·.path):=by simp -implicitDefEqProofs [dI]
theorem Dk {ts:List (List FileD)} {i:Nat} (h:i < ts.length):dI ts i (ts.getD i []).length=dI ts (i+1) 0:=by
 have e3:ts.getD i []=ts[i]:=by simp -implicitDefEqProofs [List.getD_eq_getElem?_getD,h]
 unfold dI;rw [bg h,e3,List.take_length,List.flatten_append,List.take_zero,List.append_nil];simp only [List.flatten_cons,List.flatten_nil,List.append_nil]
theorem Ot {ts:List (List FileD)} {i j:Nat} (h:j < (ts.getD i []).length):dI ts i (j+1)=dI ts i j++[(ts.getD i [])[j].path]:=by
 unfold dI;rw [bg h,<- List.append_assoc,List.map_append]; rfl
theorem HR {ts:List (List FileD)} {i:Nat} (j:Nat) (h:i < ts.length):((ts.take i).flatten++(ts.getD i []).take j).length<=ts.flatten.length:=by
 have e:=List.take_append_drop (i+1) ts;have e2:ts.flatten.length=((ts.take (i+1)).flatten++(ts.drop (i+1)).flatten).length:=by rw [<- List.flatten_append,e]
 rw [e2,bg h];have e3:ts.getD i []=ts[i]:=by simp -implicitDefEqProofs [List.getD_eq_getElem?_getD,h]
 rw [e3];have:(List.take j ts[i]).length<=ts[i].length:=by rw [List.length_take]; omega
 simp only [List.length_append,List.flatten_append,List.flatten_cons,List.flatten_nil,List.append_nil];omega
theorem Oq {ts:List (List FileD)} {i:Nat} (j:Nat) (h:i < ts.length):(dI ts i j).length<=ts.flatten.length:=by unfold dI; rw [List.length_map]; exact HR j h
def apI (ts:List (List FileD)):Inv:=⟨Nat,fun i=>⟨[(2,true,.nil),(3,true,.own 9 1 (aa (dI ts i 0))),(8,true,.sl true 1 (kG ts)),(9,true,.int .i64 ts.length),(10,true,.int .i64 i)],[(9,.own 9 1 true (aa (dI ts i 0)))]⟩,fun i=>i<=ts.length,fun i=>ts.length - i⟩
def apJ (ts:List (List FileD)) (g:Nat):Inv:=⟨Nat,fun j=>⟨[(2,true,.nil),(3,true,.own 9 1 (aa (dI ts g j))),(8,true,.sl true 1 (kG ts)),(9,true,.int .i64 ts.length),(10,true,.int .i64 g),(14,true,.sl true 2 (ac (ts.getD g []))),(15,true,.int .i64 (ts.getD g []).length),(16,true,.int .i64 j)],[(9,.own 9 1 true (aa (dI ts g j)))]⟩,fun j=>g < ts.length/\j<=(ts.getD g []).length,fun j=>(ts.getD g []).length - j⟩
def si (ts:List (List FileD)) (n g:Nat):Inv:=if n=3 then apI ts else apJ ts g
theorem Fk (ts g):si ts 3 g=apI ts:=rfl
theorem Fl (ts g):si ts 6 g=apJ ts g:=rfl
def sA:Con:=.fn 31 (List (List FileD)) (fun ts=>[.sl true 1 (kG ts)]) (fun ts=>ts.flatten.length<=1048576/\ts.length<=1048576) (fun ts=>.own 8 1 (aa (o6 ts))) (fun ts=>dk 8 (o6 ts))
theorem E9:Has Tryz.prog 199 sA:=by
 refine ag mixed fa (HasL.cons P8 (HasL.cons GL HasL.nil)) [0,2,3,5,7,8,9,10,14,15,16] (si) [] Tryz.func199 (by unfold Tryz.f199; rfl) (fun _=>⟨(),trivial⟩) ?_
 intro (ts:List (List FileD)) ha;obtain ⟨h1,h2⟩:ts.flatten.length<=1048576/\ts.length<=1048576:=ha;simp (maxSteps:=4000000) [sA,cSortS,cCompactS,Con.fn,dm,ae,Fk,Fl,apI,apJ]
 try dsimp only
 refine fun _=>⟨⟨0,⟨⟨Dj ts,rfl⟩,Dj ts⟩,Nat.zero_le _⟩,fun i hi=>⟨fun hlt=>⟨hlt,fun _=>?_⟩,fun hge=>?_⟩⟩
 ·have qq:Option.map nL ts[i]? = some (nL ts[i]):=by simp -implicitDefEqProofs [hlt]
  have e3:ts[i]?.getD []=ts[i]:=by simp -implicitDefEqProofs [hlt]
  have e4:(ts[i]?.getD []).length=ts[i].length:=by rw [e3]
  have hb:∀ j,(dI ts i j).length<=ts.flatten.length:=fun j=>Oq j hlt;rw [qq];simp -implicitDefEqProofs [nL,D.asRows];refine fun _=>⟨i,⟨0,⟨⟨rfl,rfl,by rw [e3],by rw [e3],rfl⟩,rfl⟩,hlt,Nat.zero_le _⟩,fun j hg hj=>⟨fun hjl=>⟨hjl,fun _=>?_⟩,fun hjg=>⟨by omega,fun _ _=>⟨i+1,⟨⟨?_,by omega⟩,?_⟩,by omega,by omega⟩⟩⟩⟩
  ·have q2:Option.map am (ts[i]?.getD [])[j]? = some (am (ts[i]?.getD [])[j]):=by simp -implicitDefEqProofs [hjl]
   have q3:dI ts i (j+1)=dI ts i j++[(ts[i]?.getD [])[j].path]:=Ot (ts:=ts) (i:=i) (j:=j) hjl;have hbj:=hb j;rw [q2];simp -implicitDefEqProofs [am,D.asRows,D.asStr];refine ⟨⟨by omega,by omega⟩,by omega,fun _ _=>⟨j+1,⟨⟨?_,by omega⟩,?_⟩,⟨hg,by omega⟩,by omega⟩⟩
   ·rw [q3,<- aQ]
   ·rw [q3,<- aQ]
  ·rw [show j=(ts.getD i []).length by rw [List.getD_eq_getElem?_getD]; omega,Dk hlt]
  ·rw [show j=(ts.getD i []).length by rw [List.getD_eq_getElem?_getD]; omega,Dk hlt]
 ·have:i=ts.length:=by omega
  subst this;rw [rD,Oo,List.length_map];exact ⟨h1,h1,rfl,rfl⟩
def s7:Con:=.fn 16 (List FileD × Str) (fun a=>[.sl true 2 (ac a.1),.str a.2]) (fun a=>∀ f ∈ a.1,f.text.length<=1048576) (fun a=>.agg [.own 8 1 (aa (gn a.1 a.2).1),.bool (gn a.1 a.2).2]) (fun a=>dk 8 (gn a.1 a.2).1)
theorem IC:Has Tryz.prog 201 s7:=by
 refine ag mixed fa (HasL.cons Ip HasL.nil) [0,1,4,5,6] ((fun a n (_:Nat)=>(fun _=>an) a n)) [] Tryz.func201 (by unfold Tryz.f201; rfl) (fun _=>⟨(),trivial⟩) ?_
 intro a ha;obtain ⟨t,p⟩:=a;replace ha:∀ f ∈ t,f.text.length<=1048576:=ha;simp -implicitDefEqProofs [s7,s6,Con.fn,dm,ae]
 try dsimp only
 exact ⟨t,p,⟨rfl,rfl⟩,ha,fun h=>⟨⟨rfl,h⟩,rfl⟩,fun h=>⟨⟨rfl,h⟩,rfl⟩⟩
--TAB dm
def pt:Con:=.fn 26 (List Str × List Str) (fun a=>[.sl true 1 (aa a.1),.sl true 1 (aa a.2)]) (fun _=>True) (fun a=>.bool (decide (a.1=a.2))) (fun _=>[])
theorem Ae:Has Tryz.prog 242 pt:=by
 refine ag mixed fa HasL.nil [0,1,4,5,12,13] ((fun a n (_:Nat)=>(fun a _=>⟨Nat,fun i=>⟨[(0,true,.sl true 1 (aa a.1)),(1,true,.sl true 1 (aa a.2)),(4,true,.bool false),(12,true,.int .i64 a.1.length),(13,true,.int .i64 i)],[]⟩,fun i=>i<=a.1.length/\a.1.length=a.2.length/\a.1.take i=a.2.take i,fun i=>a.1.length - i⟩) a n)) [] Tryz.func242 (by unfold Tryz.f242; rfl) (fun _=>⟨(),trivial⟩) ?_
 intro a _;obtain ⟨l,r⟩:=a;simp -implicitDefEqProofs [pt,Con.fn,dm,ae]
 try dsimp only
 try simp +contextual -implicitDefEqProofs [al,am,aV,aL,aW,List.getElem?_eq_getElem,ba,aN,aT,aY,<- aP,<- aU,aO,aR,aZ,aX,aQ,aS,and_assoc]
 repeat' (first | intro _ | apply And.intro)
 all_goals first | omega | grind [bl,iB,gR]
def mR (a b:List Str × Bool):Bool:=decide (a.2=b.2) && decide (a.1=b.1)
def s8:Con:=.fn 17 ((List Str × Bool) × (List Str × Bool)) (fun a=>[.agg [.sl true 1 (aa a.1.1),.bool a.1.2],.agg [.sl true 1 (aa a.2.1),.bool a.2.2]]) (fun _=>True) (fun a=>.bool (mR a.1 a.2)) (fun _=>[])
theorem ID:Has Tryz.prog 225 s8:=by
 refine ag mixed fa (HasL.cons Ae HasL.nil) [0,1,2,3,4] ((fun a n (_:Nat)=>(fun _=>an) a n)) [] Tryz.func225 (by unfold Tryz.f225; rfl) (fun _=>⟨(),trivial⟩) ?_
 intro a _;obtain ⟨⟨x,p⟩,y,q⟩:=a;simp -implicitDefEqProofs [-kStep_move,-Bool.exists_bool,s8,pt,Con.fn,dm,ae]
 try dsimp only
 exact ⟨x,y,⟨rfl,rfl⟩,rfl⟩
def sD:Con:=.fn 17 (List Str × List Str × List Str) (fun a=>[.sl true 1 (aa a.1),.sl true 1 (aa a.2.1),.sl true 1 (aa a.2.2)]) (fun _=>True) (fun a=>.bool (bD a.1 && bD a.2.1 && bD a.2.2)) (fun _=>[])
theorem Fq:Has Tryz.prog 263 sD:=by
 refine ag mixed fa (HasL.cons rL HasL.nil) [0,1,2,6] ((fun a n (_:Nat)=>(fun _=>an) a n)) [] Tryz.func263 (by unfold Tryz.f263; rfl) (fun _=>⟨(),trivial⟩) ?_
 intro a _;obtain ⟨x,y,z⟩:=a;simp -implicitDefEqProofs [-kStep_move,-Bool.exists_bool,sD,lM,Con.fn,dm,ae]
 try dsimp only
 cases bD x <;> cases bD y <;> simp
def c7 (t:List FileD):Prop:=∀ f ∈ t,f.path.length<=536870912
def pi:Con:=.fn 17 (List FileD × List FileD × List FileD) (fun a=>[.sl true 2 (ac a.1),.sl true 2 (ac a.2.1),.sl true 2 (ac a.2.2)]) (fun a=>c7 a.1/\c7 a.2.1/\c7 a.2.2) (fun a=>.bool (aA a.1 && aA a.2.1 && aA a.2.2)) (fun _=>[])
theorem yB:Has Tryz.prog 170 pi:=by
 refine ag mixed fa (HasL.cons lk HasL.nil) [0,1,2,6] ((fun a n (_:Nat)=>(fun _=>an) a n)) [] Tryz.func170 (by unfold Tryz.f170; rfl) (fun _=>⟨(),trivial⟩) ?_
 intro a ha;obtain ⟨x,y,z⟩:=a;obtain ⟨h1,h2,h3⟩:c7 x/\c7 y/\c7 z:=ha;simp -implicitDefEqProofs [-kStep_move,-Bool.exists_bool,pi,ja,Con.fn,dm,ae]
 try dsimp only
 refine ⟨h1,fun h=>⟨h,h2⟩,fun h h'=>⟨⟨h,h'⟩,h3⟩,?_⟩;cases aA x <;> cases aA y <;> simp
def iY:Con:=.fn 21 (RepoD × Str) (fun a=>[bF a.1,.str a.2]) (fun _=>True) (fun a=>.int .i64 (atL a.1.heads a.2)) (fun _=>[])
theorem km:Has Tryz.prog 70 iY:=by
 refine ag mixed fa HasL.nil [0,1,2,4,6,8,9,10] ((fun a n (_:Nat)=>(fun a _=>⟨Nat,fun i=>⟨[(1,true,.str a.2),(4,true,.int .i64 0),(8,true,.sl true 2 (ah a.1.heads)),(9,true,.int .i64 a.1.heads.length),(10,true,.int .i64 i)],[]⟩,fun i=>i<=a.1.heads.length/\atL (a.1.heads.drop i) a.2=atL a.1.heads a.2,fun i=>a.1.heads.length - i⟩) a n)) [] Tryz.func70 (by unfold Tryz.f70; rfl) (fun _=>⟨(),trivial⟩) ?_
 intro a _;obtain ⟨r,n⟩:=a;simp -implicitDefEqProofs [iY,Con.fn,dm,ae]
 try dsimp only
 refine fun _ t ht hm=>⟨fun hlt=>⟨hlt,fun _=>?_⟩,fun hge=>by rw [<- hm,List.drop_eq_nil_of_le hge]; rfl⟩
 have qq:Option.map bw r.heads[t]? = some (bw r.heads[t]):=by simp -implicitDefEqProofs [hlt]
 rw [List.drop_eq_getElem_cons hlt] at hm;rw [qq];generalize r.heads[t]=f at *;have hm:(if f.name=n then f.at_ else atL (r.heads.drop (t+1)) n)=atL r.heads n:=hm
 simp -implicitDefEqProofs [bw];refine ⟨fun h=>by rw [if_pos h] at hm; exact hm.symm,fun h=>⟨⟨by omega,by omega⟩,fun _ _=>⟨t+1,by omega,⟨by omega,?_⟩,by omega⟩⟩⟩
 rw [if_neg h] at hm;exact hm
def moI (o a b:List Str):Inv:=⟨Nat × S3,fun x=>⟨[(0,true,.sl true 1 (aa o)),(1,true,.sl true 1 (aa a)),(2,true,.sl true 1 (aa b)),(6,true,.nil),(7,true,.own 11 1 (aj (mtE o a))),(8,true,.own 12 1 (aj (mtE o b))),(9,true,.ptr 10 0),(10,true,.clo 276 [.ptr 10 0]),(11,true,.int .i64 x.2.io),(12,true,.int .i64 x.2.ia),(13,true,.int .i64 x.2.ib),(34,true,.int .i64 (o.length+1:Nat)),(35,true,.int .i64 x.1)],
 [(10,.box 242 [.own 9 5 (aD x.2.out)]),(9,.own 237 5 true (aD x.2.out)),(11,.own 3 1 true (aj (mtE o a))),(12,.own 3 1 true (aj (mtE o b)))]⟩,fun x=>x.1<=o.length+1/\x.2=cN o a b x.1,fun x=>o.length+1 - x.1⟩
def ul:Con:=.fn 122 (List Str × List Str × List Str) (fun a=>[.sl true 1 (aa a.1),.sl true 1 (aa a.2.1),.sl true 1 (aa a.2.2)]) (fun a=>a.1.length<=100000/\a.2.1.length<=100000/\a.2.2.length<=100000) (fun a=>.own 8 5 (aD (of3 a.1 a.2.1 a.2.2))) (fun a=>xj 8 (of3 a.1 a.2.1 a.2.2))
theorem MJ:Has Tryz.prog 264 ul:=by
 refine ag mixed ak (HasL.cons MI (HasL.cons qd (HasL.cons Ae (HasL.cons Po HasL.nil)))) [0,1,2,6,7,8,9,10,11,12,13,14,15,16,17,34,35] ((fun a n (_:Nat)=>(fun a _=>moI a.1 a.2.1 a.2.2) a n)) [76] Tryz.func264 (by unfold Tryz.f264; rfl) (fun _=>⟨(),trivial⟩) ?_
 intro a ha;obtain ⟨o,a,b⟩:=a;obtain ⟨h1,h2,h3⟩:o.length<=100000/\a.length<=100000/\b.length<=100000:=ha;have sn:∀ x:List Str,aj (mt o x 0)++[[D.int .i64 x.length]]=aj (mtE o x):=fun x=>by simp -implicitDefEqProofs [mtE,aj,aq]
 simp (maxSteps:=8000000) [-kStep_move,-Bool.exists_bool,ul,uk,lH,pt,uF,xF,Con.fn,ae,moI,sn]
 try dsimp only
 refine ⟨o,a,⟨rfl,rfl⟩,⟨by omega,by omega⟩,fun _=>⟨by rw [mz]; omega,o,b,⟨rfl,rfl⟩,⟨by omega,by omega⟩,fun _=>⟨by rw [mz]; omega,fun _=>⟨⟨0,⟨⟨(sn a).symm,(sn b).symm,rfl,rfl,rfl,by rw [mz],rfl⟩,rfl,sn a,sn b⟩,Nat.zero_le _⟩,fun i hi=>⟨fun hlt=>?_,fun hge=>?_⟩⟩⟩⟩⟩
 ·have hi2:i < o.length+1:=by omega
  have R:cN o a b (i+1)=ju o a b ((mtE o a).getD i 0) ((mtE o b).getD i 0) i (cN o a b i):=rfl;obtain ⟨k1,k2,k3,k4,k5,k6,k7⟩:=om o a b i (by omega)
  have la:=mw o a;have lb:=mw o b;have ha1:i < (mtE o a).length:=by omega
  have hb1:i < (mtE o b).length:=by omega
  have ga:(mtE o a).getD i 0=(mtE o a)[i]:=by simp -implicitDefEqProofs [List.getD_eq_getElem?_getD,ha1]
  have gb:(mtE o b).getD i 0=(mtE o b)[i]:=by simp -implicitDefEqProofs [List.getD_eq_getElem?_getD,hb1]
  have e1:Option.map aq (mtE o a)[i]? = some (aq (mtE o a)[i]):=by simp -implicitDefEqProofs [ha1]
  have e2:Option.map aq (mtE o b)[i]? = some (aq (mtE o b)[i]):=by simp -implicitDefEqProofs [hb1]
  have k4:=lC (l:=mtE o a) ha1 k4;have k5:=lC (l:=mtE o b) hb1 k5;rw [ga,gb] at R;rw [e1,e2];generalize (mtE o a)[i]=x at *;generalize (mtE o b)[i]=y at *;have kx:0<=x->((cN o a b i).ia:Int)<=x/\x<=a.length:=fun h=>by rcases k4 with k4 | k4 <;> omega
  have ky:0<=y->((cN o a b i).ib:Int)<=y/\y<=b.length:=fun h=>by rcases k5 with k5 | k5 <;> omega
  clear k4 k5;generalize cN o a b i=s at *;have tk:∀ (l:List Str) (p q:Nat),List.take (q - p) (List.drop p (aa l))=aa ((l.take q).drop p):=fun l p q=>by rw [List.drop_take]; simp -implicitDefEqProofs [aa]
  have tk1:∀ (h:i < o.length),List.take 1 (List.drop i (aa o))=aa [o.getD i []]:=fun h=>by
   have:=tk o i (i+1);rw [show i+1 - i=1 by omega] at this
   rw [this]
   congr 1
   rw [bg h,List.drop_append_of_le_length (by simp; omega)]
   simp -implicitDefEqProofs [h,List.getD_eq_getElem?_getD]
  have ln:∀ (l:List Str) (p q:Nat),((l.take q).drop p).length<=l.length:=fun l p q=>by simp; omega
  generalize hO:(o.take i).drop s.io=O at *;generalize hA:(a.take x.toNat).drop s.ia=A at *;generalize hB:(b.take y.toNat).drop s.ib=B at *;have lO:O.length<=100000:=by rw [<- hO]; have:=ln o s.io i; omega
  have lA:A.length<=100000:=by rw [<- hA]; have:=ln a s.ia x.toNat; omega
  have lB:B.length<=100000:=by rw [<- hB]; have:=ln b s.ib y.toNat; omega
  have R0:(x < 0 \/ y < 0)->cN o a b (i+1)=s:=fun h=>by rw [R]; unfold ju; rw [if_pos h]
  have R1:0<=x->0<=y->cN o a b (i+1)=⟨i+1,x.toNat+1,y.toNat+1,if i < o.length then bI (bI s.out (bE O A B)) ⟨false,[o.getD i []],[],[],[]⟩ else bI s.out (bE O A B)⟩:=fun h h'=>by rw [R]; unfold ju; rw [if_neg (by omega),hO,hA,hB]
  clear R;have T:∀ (p:PartD),p.lines.length<=100000->(bI s.out p).length<=1048576 /\ ∀ q ∈ bI s.out p,q.lines.length<=1073741824:=fun p hp=>by
   have b1:=ro s.out p;exact ⟨by omega,fun q hq=>by have:=rn k7 q hq; omega⟩
  have k7':∀ q ∈ s.out,q.lines.length<=1073741824:=fun q hq=>by have:=k7 q hq; omega
  simp -implicitDefEqProofs [aq,D.asInt,ha1,hb1,tk];refine ⟨fun h=>⟨⟨by omega,by omega⟩,fun _ _=>⟨i+1,s,⟨⟨rfl,rfl,rfl,by omega⟩,rfl,rfl⟩,⟨by omega,(R0 h).symm⟩,by omega⟩⟩,fun hx hy=>⟨⟨k1,by omega⟩,fun _ hio=>⟨kx hx,fun _ _=>⟨ky hy,fun _ _=>?_⟩⟩⟩⟩
  have R1:=R1 hx hy;have F:∀ out',out'=(cN o a b (i+1)).out -> ∃ (n:Nat) (t:S3),(((t.io:Int)=i+1/\(t.ia:Int)=x+1/\(t.ib:Int)=y+1/\(n:Int)=i+1)/\t.out=out'/\out'=t.out)/\(n<=o.length+1/\t=cN o a b n)/\o.length+1 - n < o.length+1 - i:=fun out' h =>
   ⟨i+1,cN o a b (i+1),⟨⟨by rw [R1]; simp,by rw [R1]; simp; omega,by rw [R1]; simp; omega,by omega⟩,h.symm,h⟩,⟨by omega,rfl⟩,by omega⟩
  have R2:i < o.length->bI (bI s.out (bE O A B)) (lnP [o.getD i []])=(cN o a b (i+1)).out:=fun h=>by rw [R1]; simp only [if_pos h]; rfl
  have R3:o.length<=i->bI s.out (bE O A B)=(cN o a b (i+1)).out:=fun h=>by rw [R1]; simp only [if_neg (show ¬ i < o.length by omega)]
  clear R1 R0;rw [hO,hA,hB];refine ⟨A,O,⟨rfl,rfl⟩,A,B,⟨rfl,rfl⟩,fun hc=>?_,fun c1 c2=>⟨B,O,⟨rfl,rfl⟩,fun c3=>?_,fun c3=>?_⟩⟩
  ·have hp:bE O A B=lnP B:=by unfold bE; rw [if_pos hc]; rfl
   rw [hp] at R2 R3;have T:=T (lnP B) lB;exact ⟨⟨by omega,by omega,k7'⟩,fun _=>⟨fun h=>⟨⟨by omega,by omega⟩,fun _ _=>⟨⟨by omega,by omega⟩,fun _ _=>⟨[o.getD i []],(tk1 h).symm,⟨by simp,T.1,T.2⟩,⟨by omega,by omega⟩,fun _ _=>⟨⟨by omega,by omega⟩,fun _ _=>⟨⟨by omega,by omega⟩,fun _ _=>⟨⟨by omega,by omega⟩,fun _ _=>F _ (R2 h)⟩⟩⟩⟩⟩⟩,
    fun h=>⟨⟨by omega,by omega⟩,fun _ _=>⟨⟨by omega,by omega⟩,fun _ _=>⟨⟨by omega,by omega⟩,fun _ _=>⟨⟨by omega,by omega⟩,fun _ _=>F _ (R3 h)⟩⟩⟩⟩⟩⟩
  ·have hp:bE O A B=lnP A:=by unfold bE; rw [if_neg (by rintro (q | q); exact c1 q; exact c2 q),if_pos c3]; rfl
   rw [hp] at R2 R3;have T:=T (lnP A) lA;exact ⟨⟨by omega,by omega,k7'⟩,fun _=>⟨fun h=>⟨⟨by omega,by omega⟩,fun _ _=>⟨⟨by omega,by omega⟩,fun _ _=>⟨[o.getD i []],(tk1 h).symm,⟨by simp,T.1,T.2⟩,⟨by omega,by omega⟩,fun _ _=>⟨⟨by omega,by omega⟩,fun _ _=>⟨⟨by omega,by omega⟩,fun _ _=>⟨⟨by omega,by omega⟩,fun _ _=>F _ (R2 h)⟩⟩⟩⟩⟩⟩,
    fun h=>⟨⟨by omega,by omega⟩,fun _ _=>⟨⟨by omega,by omega⟩,fun _ _=>⟨⟨by omega,by omega⟩,fun _ _=>⟨⟨by omega,by omega⟩,fun _ _=>F _ (R3 h)⟩⟩⟩⟩⟩⟩
  ·have hp:bE O A B=⟨true,[],O,A,B⟩:=by unfold bE; rw [if_neg (by rintro (q | q); exact c1 q; exact c2 q),if_neg c3]
   have sn2:aD s.out++[[D.bool true,D.sl 9 1 [],D.sl 9 1 (aa O),D.sl 9 1 (aa A),D.sl 9 1 (aa B)]]=aD (bI s.out (bE O A B)):=by rw [hp,oB rfl,Hr]; rfl
   have T:=T (bE O A B) (by rw [hp]; simp)
   exact ⟨by omega,by omega,by omega,⟨by omega,by omega⟩,fun _=>⟨fun h=>⟨⟨by omega,by omega⟩,fun _ _=>⟨⟨by omega,by omega⟩,fun _ _=>⟨[o.getD i []],(tk1 h).symm,bI s.out (bE O A B),sn2.symm,sn2,⟨by simp,T.1,T.2⟩,⟨by omega,by omega⟩,fun _ _=>⟨⟨by omega,by omega⟩,fun _ _=>⟨⟨by omega,by omega⟩,fun _ _=>⟨⟨by omega,by omega⟩,fun _ _=>F _ (R2 h)⟩⟩⟩⟩⟩⟩,
    fun h=>⟨⟨by omega,by omega⟩,fun _ _=>⟨⟨by omega,by omega⟩,fun _ _=>⟨⟨by omega,by omega⟩,fun _ _=>⟨⟨by omega,by omega⟩,fun _ _=>by
     obtain ⟨n,t,⟨q1,q2,q3⟩,q4⟩:=F _ (R3 h);exact ⟨n,t,⟨q1,by rw [sn2,q2],by rw [sn2,q2]⟩,q4⟩⟩⟩⟩⟩⟩⟩
 ·have:i=o.length+1:=by omega
  subst this;exact ⟨rfl,rfl⟩
--TAB dm
def uo:Con:=.fn 4 PartD (fun q=>[.agg [.bool q.clash,.sl true 1 (aa q.lines),.sl true 1 (aa q.old),.sl true 1 (aa q.one),.sl true 1 (aa q.two)]]) (fun _=>True) (fun _=>.tup [.sl true 1 [],.bool false]) (fun _=>[])
theorem MP:Has Tryz.prog 244 uo:=by
 refine ag mixed fa HasL.nil [0,2,3] ((fun a n (_:Nat)=>(fun _=>an) a n)) [] Tryz.func244 (by unfold Tryz.f244; rfl) (fun _=>⟨(),trivial⟩) ?_
 intro (q:PartD) _;simp -implicitDefEqProofs [uo,Con.fn,dm,ae]
theorem M7 {o a b:List Str} (h1:bD o=true) (h2:bD a=true) (h3:bD b=true):(of3 o a b).length<=22 /\ ∀ q ∈ of3 o a b,q.lines.length<=33:=by
 obtain ⟨k1,k2,k3,_,_,k6,k7⟩:=om o a b (o.length+1) (Nat.le_refl _);have l1:=lj h1;have l2:=lj h2;have l3:=lj h3;refine ⟨?_,fun q hq=>?_⟩
 ·show (cN o a b (o.length+1)).out.length<=22
  omega
 ·have:=k7 q hq;omega
theorem BQ {l:List PartD} {n:Nat} (h:∀ q ∈ l,q.lines.length<=n):∀ i,i<=l.length->(cq l i).length<=i * n
 | 0,_=>by simp -implicitDefEqProofs [cq]
 | i+1,hi=>by
  have e:cq l (i+1)=cq l i++l[i].lines:=by unfold cq; rw [bg (show i < l.length by omega),List.flatMap_append]; simp
  have h1:=h l[i] (List.getElem_mem _);have h2:=BQ h i (by omega)
  rw [e,List.length_append,Nat.succ_mul]; omega
def eW (o a b:List Str):List Str × Bool:=if bD o && bD a && bD b then cT (of3 o a b) else ([],false)
def un:Con:=.fn 51 (List Str × List Str × List Str) (fun a=>[.sl true 1 (aa a.1),.sl true 1 (aa a.2.1),.sl true 1 (aa a.2.2),.clo 244 []]) (fun a=>True) (fun a=>.tup [.own 8 1 (aa (eW a.1 a.2.1 a.2.2).1),.bool (eW a.1 a.2.1 a.2.2).2]) (fun a=>dk 8 (eW a.1 a.2.1 a.2.2).1)
theorem ML:Has Tryz.prog 243 un:=by
 refine ag mixed fa (HasL.cons Fq (HasL.cons MJ (HasL.cons MP (HasL.cons rL HasL.nil)))) [0,1,2,3,8,9,10,12,13,14,15,24,25,26] ((fun a n (_:Nat)=>(fun a _=>⟨Nat,fun i=>⟨[(3,true,.clo 244 []),(8,true,.nil),(9,true,.bool false),(10,true,.own 9 1 (aa (cq (of3 a.1 a.2.1 a.2.2) i))),(24,true,.own 10 5 (aD (of3 a.1 a.2.1 a.2.2))),(25,true,.int .i64 (of3 a.1 a.2.1 a.2.2).length),(26,true,.int .i64 i)],[(9,.own 9 1 true (aa (cq (of3 a.1 a.2.1 a.2.2) i))),(10,.own 237 5 true (aD (of3 a.1 a.2.1 a.2.2)))]⟩,fun i=>i<=(of3 a.1 a.2.1 a.2.2).length/\((of3 a.1 a.2.1 a.2.2).take i).any (·.clash)=false/\bD a.1=true/\bD a.2.1=true/\bD a.2.2=true,fun i=>(of3 a.1 a.2.1 a.2.2).length - i⟩) a n)) [] Tryz.func243 (by unfold Tryz.f243; rfl) (fun _=>⟨(),trivial⟩) ?_
 intro a _;obtain ⟨o,a,b⟩:=a;simp (maxSteps:=8000000) -implicitDefEqProofs [-kStep_move,-Bool.exists_bool,un,sD,ul,uo,lM,Con.fn,dm,ae]
 try dsimp only
 have f:∀ (t:List Str),∀ x ∈ aa t,∀ d ∈ x,match d with | .sl _ _ _=>False | _=>True:=fun t=>(eStrs_flat t).mpr trivial
 have m0:(bD o=false \/ bD a=false) \/ bD b=false->eW o a b=([],false):=fun h=>by unfold eW; rw [if_neg]; rcases h with (h | h) | h <;> simp -implicitDefEqProofs [h]
 refine ⟨o,a,b,⟨rfl,rfl,rfl⟩,fun h=>by rw [m0 h]; exact ⟨⟨rfl,rfl⟩,rfl⟩,fun b1 b2 b3=>?_⟩
 have m1:eW o a b=cT (of3 o a b):=by unfold eW; rw [b1,b2,b3]; rfl
 obtain ⟨d1,d2⟩:=M7 b1 b2 b3;have l1:=lj b1;have l2:=lj b2;have l3:=lj b3;rw [m1];clear m0 m1;refine ⟨o,a,b,⟨rfl,rfl,rfl⟩,⟨by omega,by omega,by omega⟩,fun _=>?_⟩
 generalize of3 o a b=l at *;have ll:=BQ d2;have hn0:(∃ q ∈ l,q.clash=true)->cT l=([],false):=fun ⟨q,h,h'⟩=>by unfold cT; rw [if_pos (by simp; exact ⟨q,h,h'⟩)]
 have hn1:(∀ q ∈ l,q.clash=false)->bD (cq l l.length)=false->cT l=([],false):=fun h h'=>by unfold cT cq at *; rw [List.take_length] at h'; rw [if_neg (by simp; exact h),if_neg (by simp -implicitDefEqProofs [h'])]
 have hn2:(∀ q ∈ l,q.clash=false)->bD (cq l l.length)=true->cT l=(cq l l.length,true):=fun h h'=>by unfold cT cq at *; rw [List.take_length] at *; rw [if_neg (by simp; exact h),if_pos h']
 refine ⟨⟨0,⟨⟨rfl,rfl,rfl,rfl⟩,rfl,rfl⟩,Nat.zero_le _,by simp,b1,b2,b3⟩,fun t ht hc c1 c2 c3=>⟨fun hlt=>⟨hlt,fun _=>?_⟩,fun hge=>?_⟩⟩
 ·have e:cq l (t+1)=cq l t++l[t].lines:=by unfold cq; rw [bg hlt,List.flatMap_append]; simp
  have q1:=d2 l[t] (List.getElem_mem hlt);have q2:=ll t ht;have q3:l[t] ∈ l:=List.getElem_mem hlt;have q4:∀ x ∈ l.take (t+1),x ∈ l.take t \/ x=l[t]:=fun x hx=>by rw [bg hlt] at hx; exact (List.mem_append.1 hx).imp id (fun h=>List.mem_singleton.1 h)
  have qq:Option.map cO l[t]? = some (cO l[t]):=by simp -implicitDefEqProofs [hlt]
  rw [qq];generalize l[t]=q at *;simp -implicitDefEqProofs [cO];refine ⟨fun h=>(by rw [hn0 ⟨q,q3,h⟩]; exact ⟨⟨rfl,rfl⟩,rfl⟩),fun h=>⟨f _,⟨by omega,by omega⟩,⟨by omega,by omega⟩,fun _ _=>⟨t+1,⟨⟨by rw [e,aP],by omega⟩,by rw [e,aP]⟩,⟨by omega,fun x hx=>(q4 x hx).elim (hc x) (fun hx=>hx ▸ h),c1,c2,c3⟩,by omega⟩⟩⟩
 ·have:t=l.length:=by omega
  subst this;rw [List.take_length] at hc;exact ⟨fun h=>by rw [hn1 hc h]; exact ⟨⟨rfl,rfl⟩,rfl⟩,fun h=>by rw [hn2 hc h]; exact ⟨⟨rfl,rfl⟩,rfl⟩⟩
def um:Con:=.fn 14 (List Str × List Str × List Str) (fun a=>[.sl true 1 (aa a.1),.sl true 1 (aa a.2.1),.sl true 1 (aa a.2.2)]) (fun a=>True) (fun a=>.tup [.own 8 1 (aa (eW a.1 a.2.1 a.2.2).1),.bool (eW a.1 a.2.1 a.2.2).2]) (fun a=>dk 8 (eW a.1 a.2.1 a.2.2).1)
theorem MK:Has Tryz.prog 226 um:=by
 refine ag mixed fa (HasL.cons ML HasL.nil) [0,1,2,6,7] ((fun a n (_:Nat)=>(fun _=>an) a n)) [] Tryz.func226 (by unfold Tryz.f226; rfl) (fun _=>⟨(),trivial⟩) ?_
 intro a _;obtain ⟨o,a,b⟩:=a;simp (maxSteps:=8000000) -implicitDefEqProofs [um,un,Con.fn,dm,ae]
 try dsimp only
 exact ⟨o,a,b,⟨rfl,rfl,rfl⟩,⟨rfl,rfl⟩,rfl⟩
def fD (o a b:List Str × Bool):(List Str × Bool) × Int :=
 if mR a o || mR a b then (b,0) else if mR b o then (a,0) else if !a.2 || !b.2 then (o,1) else if !o.2 then (o,2)
 else if (eW o.1 a.1 b.1).2 then ((( eW o.1 a.1 b.1).1,true),0) else (o,3)
def wg (a:(List Str × Bool) × (List Str × Bool) × (List Str × Bool)):List (Nat × Nat × Nat × List (List D)):=[(0,9,1,aa a.1.1),(1,9,1,aa a.2.1.1),(2,9,1,aa a.2.2.1)]
def we (a:(List Str × Bool) × (List Str × Bool) × (List Str × Bool)):List AV:=[.agg [.own 0 1 (aa a.1.1),.bool a.1.2],.agg [.own 1 1 (aa a.2.1.1),.bool a.2.1.2],.agg [.own 2 1 (aa a.2.2.1),.bool a.2.2.2]]
def tv:Con:={ A:=(List Str × Bool) × (List Str × Bool) × (List Str × Bool),X:=Unit,n:=55,args:=we,boxes:=fun _=>[],pre:=fun _=>True,post:=fun _ _=>True,res:=fun a _=>.tup [.agg [.own 8 1 (aa (fD a.1 a.2.1 a.2.2).1.1),.bool (fD a.1 a.2.1 a.2.2).1.2],.int .i64 (fD a.1 a.2.1 a.2.2).2],fin:=fun a _=>[(8,.own 9 1 true (aa (fD a.1 a.2.1 a.2.2).1.1))],owns:=wg,mv:=true }
theorem JC:Has Tryz.prog 200 tv:=by
 refine ag mixed fa (HasL.cons ID (HasL.cons MK HasL.nil)) [0,1,2,3,4,5,6,7,8,9] ((fun a n (_:Nat)=>(fun _=>an) a n)) [] Tryz.func200 (by unfold Tryz.f200; rfl) (fun _=>⟨(),trivial⟩) ?_
 intro a _;obtain ⟨⟨o,p⟩,⟨a,q⟩,b,r⟩:=a;simp (maxSteps:=8000000) -implicitDefEqProofs [-kStep_move,-kStepC_move,-Bool.exists_bool,tv,we,wg,s8,um,Con.fn,dm,ae]
 try dsimp only
 have fin:∀ (x:(List Str × Bool) × Int) (t:List Str) (d:Bool) (n:Int),x=((t,d),n)->((x.1.1=t/\x.1.2=d)/\x.2=n)/\t=x.1.1:=fun x t d n h=>by subst h; exact ⟨⟨⟨rfl,rfl⟩,rfl⟩,rfl⟩
 refine ⟨a,q,o,p,⟨⟨rfl,rfl⟩,rfl,rfl⟩,a,q,b,r,⟨⟨rfl,rfl⟩,rfl,rfl⟩,fun h=>fin _ _ _ _ ?_,fun h1 h2=>⟨b,r,o,p,⟨⟨rfl,rfl⟩,rfl,rfl⟩,fun h3=>fin _ _ _ _ ?_,fun h3=>⟨fun h4=>fin _ _ _ _ ?_,fun h4 h5=>⟨fun h6=>fin _ _ _ _ ?_,fun h6=>⟨o,a,b,⟨rfl,rfl,rfl⟩,fun h7=>fin _ _ _ _ ?_,fun h7=>fin _ _ _ _ ?_⟩⟩⟩⟩⟩
 ·unfold fD; rw [if_pos (by simpa using h)]
 ·unfold fD; rw [if_neg (by simp -implicitDefEqProofs [h1,h2]),if_pos h3]
 ·unfold fD; rw [if_neg (by simp -implicitDefEqProofs [h1,h2]),if_neg (by simp -implicitDefEqProofs [h3]),if_pos (by simpa using h4)]
 ·unfold fD; rw [if_neg (by simp -implicitDefEqProofs [h1,h2]),if_neg (by simp -implicitDefEqProofs [h3]),if_neg (by simp -implicitDefEqProofs [h4,h5]),if_pos (by simpa using h6)]
 ·unfold fD; rw [if_neg (by simp -implicitDefEqProofs [h1,h2]),if_neg (by simp -implicitDefEqProofs [h3]),if_neg (by simp -implicitDefEqProofs [h4,h5]),if_neg (by simp -implicitDefEqProofs [h6]),if_neg (by simp -implicitDefEqProofs [h7])]
 ·unfold fD; rw [if_neg (by simp -implicitDefEqProofs [h1,h2]),if_neg (by simp -implicitDefEqProofs [h3]),if_neg (by simp -implicitDefEqProofs [h4,h5]),if_neg (by simp -implicitDefEqProofs [h6]),if_pos h7]
def tS:Con:=.fn 21 ((List Str × Bool) × (List Str × Bool)) (fun a=>[.sl true 1 (aa a.1.1),.bool a.1.2,.sl true 1 (aa a.2.1),.bool a.2.2]) (fun _=>True) (fun a=>.bool (cR a.1 a.2)) (fun _=>[])
theorem Lj:Has Tryz.prog 247 tS:=by
 refine ag mixed ak (HasL.cons Bv HasL.nil) [0,1,2,3,8] ((fun a n (_:Nat)=>(fun _=>an) a n)) [] Tryz.func247 (by unfold Tryz.f247; rfl) (fun _=>⟨(),trivial⟩) ?_
 intro a _;obtain ⟨⟨x,i⟩,y,j⟩:=a;simp -implicitDefEqProofs [tS,pI,Con.fn,ae]
 try dsimp only
 cases i <;> cases j <;> simp -implicitDefEqProofs [cR,and_assoc]
theorem M6 (o a b:List Str):(of3 o a b).length<=2 * (o.length+1) /\ ∀ q ∈ of3 o a b,q.lines.length<=o.length+a.length+b.length+3:=by
 obtain ⟨h1,h2,h3,h4,h5,h6,h7⟩:=om o a b (o.length+1) (Nat.le_refl _);exact ⟨h6,fun q hq=>by have:=h7 q hq; omega⟩
def tQ:Con:=.fn 82 (List FileD × List FileD × List FileD × Str) (fun a=>[.sl true 2 (ac a.1),.sl true 2 (ac a.2.1),.sl true 2 (ac a.2.2.1),.str a.2.2.2]) (fun a=>(∀ f ∈ a.1,f.text.length<=64)/\(∀ f ∈ a.2.1,f.text.length<=64) /\ ∀ f ∈ a.2.2.1,f.text.length<=64) (fun a=>.tup [.sl false 1 (aa (bV a.1 a.2.1 a.2.2.1 a.2.2.2).1),.bool (bV a.1 a.2.1 a.2.2.1 a.2.2.2).2.1,.int .i64 (bV a.1 a.2.1 a.2.2.1 a.2.2.2).2.2]) (fun _=>[])
theorem Lh:Has Tryz.prog 229 tQ:=by
 refine ag mixed ak (HasL.cons K6 (HasL.cons Lj (HasL.cons KX (HasL.cons K5 HasL.nil)))) [0,1,2,3,8,9,10,11,12,13,14,15,16,17,18,37] ((fun a n (_:Nat)=>(fun _=>an) a n)) [] Tryz.func229 (by unfold Tryz.f229; rfl) (fun _=>⟨(),trivial⟩) ?_
 intro a ha;obtain ⟨o,a,b,p⟩:=a;obtain ⟨h1,h2,h3⟩:(∀ f ∈ o,f.text.length<=64)/\(∀ f ∈ a,f.text.length<=64) /\ ∀ f ∈ b,f.text.length<=64:=ha;have g1:=md h1 p;have g2:=md h2 p;have g3:=md h3 p;simp (maxSteps:=8000000) -implicitDefEqProofs [-kStep_move,-Bool.exists_bool,tQ,tN,tS,tK,tM,Con.fn,ae]
 try dsimp only
 have so:∀ x y:List Str × Bool,cR (x.1,x.2) (y.1,y.2)=cR x y:=fun _ _=>rfl;have ob:=M6 (aH o p).1 (aH a p).1 (aH b p).1;generalize hO:aH o p=O at *;generalize hA:aH a p=A at *;generalize hB:aH b p=B at *;have e1:(cR A O=true \/ cR A B=true)->bV o a b p=(B.1,B.2,0):=fun h=>by unfold bV; rw [hO,hA,hB]; rw [if_pos (by simpa using h)]
 have e2:cR A O=false->cR A B=false->cR B O=true->bV o a b p=(A.1,A.2,0):=fun h h' h2=>by unfold bV; rw [hO,hA,hB]; rw [if_neg (by simp -implicitDefEqProofs [h,h']),if_pos h2]
 have e3:cR A O=false->cR A B=false->cR B O=false->(A.2=false \/ B.2=false)->bV o a b p=(O.1,O.2,1):=fun h h' h2 h3=>by unfold bV; rw [hO,hA,hB]; rw [if_neg (by simp -implicitDefEqProofs [h,h']),if_neg (by simp -implicitDefEqProofs [h2]),if_pos (by simpa using h3)]
 have e4:cR A O=false->cR A B=false->cR B O=false->A.2=true->B.2=true->O.2=false->bV o a b p=([],false,2):=fun h h' h2 h3 h4 h5=>by unfold bV; rw [hO,hA,hB]; rw [if_neg (by simp -implicitDefEqProofs [h,h']),if_neg (by simp -implicitDefEqProofs [h2]),if_neg (by simp -implicitDefEqProofs [h3,h4]),if_pos (by simp -implicitDefEqProofs [h5])]
 have e5:cR A O=false->cR A B=false->cR B O=false->A.2=true->B.2=true->O.2=true->(cT (of3 O.1 A.1 B.1)).2=true->bV o a b p=((cT (of3 O.1 A.1 B.1)).1,true,0):=fun h h' h2 h3 h4 h5 h6=>by unfold bV; rw [hO,hA,hB]; rw [if_neg (by simp -implicitDefEqProofs [h,h']),if_neg (by simp -implicitDefEqProofs [h2]),if_neg (by simp -implicitDefEqProofs [h3,h4]),if_neg (by simp -implicitDefEqProofs [h5]),if_pos h6]
 have e6:cR A O=false->cR A B=false->cR B O=false->A.2=true->B.2=true->O.2=true->(cT (of3 O.1 A.1 B.1)).2=false->bV o a b p=(O.1,true,3):=fun h h' h2 h3 h4 h5 h6=>by unfold bV; rw [hO,hA,hB]; rw [if_neg (by simp -implicitDefEqProofs [h,h']),if_neg (by simp -implicitDefEqProofs [h2]),if_neg (by simp -implicitDefEqProofs [h3,h4]),if_neg (by simp -implicitDefEqProofs [h5]),if_neg (by simp -implicitDefEqProofs [h6])]
 refine ⟨o,p,⟨rfl,rfl⟩,a,p,⟨rfl,rfl⟩,b,p,⟨rfl,rfl⟩,?_⟩;rw [hO,hA,hB];refine ⟨_,_,_,_,⟨rfl,rfl,rfl,rfl⟩,fun h=>⟨fun _=>?_,fun h'=>absurd (h.symm.trans h') (by decide)⟩,fun h=>⟨_,_,_,_,⟨rfl,rfl,rfl,rfl⟩,fun h2=>?_,fun h2=>⟨_,_,_,_,⟨rfl,rfl,rfl,rfl⟩,fun h3=>?_,fun h3=>⟨fun h4=>?_,fun h4 h5=>⟨fun h6=>?_,fun h6=>⟨_,_,_,⟨rfl,rfl,rfl⟩,⟨by omega,by omega,by omega⟩,⟨by omega,fun q hq=>by have:=ob.2 q hq; omega⟩,?_⟩⟩⟩⟩⟩⟩
 ·rw [e1 (.inl h)]; exact ⟨rfl,rfl,rfl⟩
 ·rw [e1 (.inr h2)]; exact ⟨rfl,rfl,rfl⟩
 ·rw [e2 h h2 h3]; exact ⟨rfl,rfl,rfl⟩
 ·rw [e3 h h2 h3 h4]; exact ⟨rfl,rfl,rfl⟩
 ·rw [e4 h h2 h3 h4 h5 h6]; exact ⟨rfl,rfl,rfl⟩
 ·exact ⟨fun h7=>by rw [e6 h h2 h3 h4 h5 h6 h7]; exact ⟨rfl,rfl,rfl⟩,fun h7=>by rw [e5 h h2 h3 h4 h5 h6 h7]; exact ⟨rfl,rfl,rfl⟩⟩
def tO:Con:=.fn 48 (List Str × Str) (fun a=>[.sl true 1 (aa a.1),.str a.2]) (fun a=>a.1.length<=1073741824) (fun a=>.sl false 1 (aa (bO a.1 a.2))) (fun _=>[])
theorem K9:Has Tryz.prog 245 tO:=by
 refine ag mixed ak HasL.nil [0,1,4,5,6] ((fun a n (_:Nat)=>(fun a _=>⟨Nat,fun k=>⟨[(0,true,.sl true 1 (aa a.1)),(1,true,.str a.2),(4,true,.nil),(5,true,.int .i64 k)],[]⟩,fun k=>k<=a.1.length/\a.1.take k++bO (a.1.drop k) a.2=bO a.1 a.2,fun k=>a.1.length - k⟩) a n)) [] Tryz.func245 (by unfold Tryz.f245; rfl) (fun _=>⟨(),trivial⟩) ?_
 intro a ha;obtain ⟨l,s⟩:=a;replace ha:l.length<=1073741824:=ha;simp -implicitDefEqProofs [tO,Con.fn,ae]
 try dsimp only
 have f:∀ (t:List Str),∀ x ∈ aa t,∀ d ∈ x,match d with | .sl _ _ _=>False | _=>True:=fun t=>(eStrs_flat t).mpr trivial
 have f1:∀ t,∀ x ∈ List.take t (aa l),∀ d ∈ x,match d with | .sl _ _ _=>False | _=>True:=fun t=>by rw [aO]; exact f _
 have f2:∀ t,∀ x ∈ List.take (l.length - t) (List.drop t (aa l)),∀ d ∈ x,match d with | .sl _ _ _=>False | _=>True:=fun t=>by rw [aR,aO]; exact f _
 have fin:∀ t,bO l s=l.take t++[s]++l.drop t->aa (bO l s)=List.take t (aa l)++[D.str s] :: List.take (l.length - t) (List.drop t (aa l)):=fun t h=>by
  rw [h,aR,aO,aO,List.take_of_length_le (show (l.drop t).length<=l.length - t by simp)]
  simp -implicitDefEqProofs [aa,al]
 refine fun t ht hp _=>⟨fun hlt=>⟨hlt,fun _=>?_⟩,fun hge _=>⟨fun hlt=>absurd hlt (by omega),fun _=>⟨ht,fun _=>⟨f1 t,⟨by omega,by omega⟩,⟨by omega,by omega⟩,ht,fun _=>⟨f2 t,⟨by omega,by omega⟩,fin t (OG hge hp)⟩⟩⟩⟩⟩
 have qq:Option.map al l[t]? = some (al l[t]):=by simp -implicitDefEqProofs [hlt]
 rw [qq];have g1:=OL hlt hp;have g2:=OH hlt hp;have g3:=OJ hlt hp;generalize l[t]=y at *;simp -implicitDefEqProofs [al,D.asStr];refine ⟨fun h=>⟨⟨by omega,by omega⟩,fun _ _=>⟨t+1,by omega,⟨by omega,g1 h⟩,by omega⟩⟩,fun h _=>⟨fun _=>⟨hlt,fun _=>⟨fun e=>g2 h e,fun e=>⟨ht,fun _=>⟨f1 t,⟨by omega,by omega⟩,⟨by omega,by omega⟩,ht,fun _=>⟨f2 t,⟨by omega,by omega⟩,fin t (g3 h e)⟩⟩⟩⟩⟩,fun hge=>absurd hlt (by omega)⟩⟩
def wO (o a b:List FileD):Inv:=⟨Nat,fun i=>⟨[(0,true,.sl true 2 (ac o)),(1,true,.sl true 2 (ac a)),(2,true,.sl true 2 (ac b)),(6,true,.nil),(7,true,.sl false 1 (aa (bW [] (o.take i)))),(8,true,.int .i64 i)],[]⟩,fun i=>i<=o.length,fun i=>o.length - i⟩
def wP (o a b:List FileD):Inv:=⟨Nat,fun i=>⟨[(0,true,.sl true 2 (ac o)),(1,true,.sl true 2 (ac a)),(2,true,.sl true 2 (ac b)),(6,true,.nil),(7,true,.sl false 1 (aa (bW (bW [] o) (a.take i)))),(9,true,.int .i64 i)],[]⟩,fun i=>i<=a.length,fun i=>a.length - i⟩
def wQ (o a b:List FileD):Inv:=⟨Nat,fun i=>⟨[(0,true,.sl true 2 (ac o)),(1,true,.sl true 2 (ac a)),(2,true,.sl true 2 (ac b)),(6,true,.nil),(7,true,.sl false 1 (aa (bW (bW (bW [] o) a) (b.take i)))),(10,true,.int .i64 i)],[]⟩,fun i=>i<=b.length,fun i=>b.length - i⟩
def qU (o a b:List FileD) (n:Nat):Inv:=if n=3 then wO o a b else if n=7 then wP o a b else wQ o a b
theorem Ll (o a b:List FileD):qU o a b 3=wO o a b:=rfl
theorem Lm (o a b:List FileD):qU o a b 7=wP o a b:=rfl
theorem Lk (o a b:List FileD):qU o a b 11=wQ o a b:=rfl
def tR:Con:=.fn 52 (List FileD × List FileD × List FileD) (fun a=>[.sl true 2 (ac a.1),.sl true 2 (ac a.2.1),.sl true 2 (ac a.2.2)]) (fun a=>a.1.length<=1048576/\a.2.1.length<=1048576/\a.2.2.length<=1048576) (fun a=>.sl false 1 (aa (bv a.1 a.2.1 a.2.2))) (fun _=>[])
theorem Li:Has Tryz.prog 228 tR:=by
 refine ag mixed ak (HasL.cons K9 HasL.nil) [0,1,2,6,7,8,9,10] ((fun a n (_:Nat)=>(fun a n=>qU a.1 a.2.1 a.2.2 n) a n)) [] Tryz.func228 (by unfold Tryz.f228; rfl) (fun _=>⟨(),trivial⟩) ?_
 intro a ha;obtain ⟨o,a,b⟩:=a;obtain ⟨h1,h2,h3⟩:o.length<=1048576/\a.length<=1048576/\b.length<=1048576:=ha;simp -implicitDefEqProofs [tR,tO,Con.fn,ae,Ll,Lm,Lk,wO,wP,wQ]
 try dsimp only
 have b1:=j1 o [];have b2:=j1 a (bW [] o);simp only [List.length_nil] at b1;have z:([]:List Str).length=0:=rfl;refine ⟨⟨0,⟨rfl,rfl⟩,Nat.zero_le _⟩,fun t ht _=>⟨fun hlt=>⟨hlt,fun _=>?_⟩,fun hge=>⟨⟨0,⟨by rw [List.take_of_length_le hge]; rfl,rfl⟩,Nat.zero_le _⟩,fun u hu _=>⟨fun hlt=>⟨hlt,fun _=>?_⟩,fun hge=>⟨⟨0,⟨by rw [List.take_of_length_le hge]; rfl,rfl⟩,Nat.zero_le _⟩,fun v hv _=>⟨fun hlt=>⟨hlt,fun _=>?_⟩,fun hge=>by rw [List.take_of_length_le hge]; rfl⟩⟩⟩⟩⟩⟩
 ·have hb:=j1 (o.take t) ([]);have hl:(o.take t).length<=o.length:=by simp; omega
  have qq:Option.map am o[t]? = some (am o[t]):=by simp -implicitDefEqProofs [hlt]
  have hs:=xu (l:=[]) hlt;rw [qq];simp -implicitDefEqProofs [am,D.asStr];exact ⟨_,_,⟨rfl,rfl⟩,by omega,⟨by omega,by omega⟩,fun _ _=>⟨t+1,⟨hs,by omega⟩,by omega,by omega⟩⟩
 ·have hb:=j1 (a.take u) (bW [] o);have hl:(a.take u).length<=a.length:=by simp; omega
  have qq:Option.map am a[u]? = some (am a[u]):=by simp -implicitDefEqProofs [hlt]
  have hs:=xu (l:=bW [] o) hlt;rw [qq];simp -implicitDefEqProofs [am,D.asStr];exact ⟨_,_,⟨rfl,rfl⟩,by omega,⟨by omega,by omega⟩,fun _ _=>⟨u+1,⟨hs,by omega⟩,by omega,by omega⟩⟩
 ·have hb:=j1 (b.take v) (bW (bW [] o) a);have hl:(b.take v).length<=b.length:=by simp; omega
  have qq:Option.map am b[v]? = some (am b[v]):=by simp -implicitDefEqProofs [hlt]
  have hs:=xu (l:=bW (bW [] o) a) hlt;rw [qq];simp -implicitDefEqProofs [am,D.asStr];exact ⟨_,_,⟨rfl,rfl⟩,by omega,⟨by omega,by omega⟩,fun _ _=>⟨v+1,⟨hs,by omega⟩,by omega,by omega⟩⟩
abbrev NC (h:Nat) (a:List HeadD):List (Nat × Blk):=[(h,.own 193 2 true (ah a))]
def BG (o a b:List FileD):Inv:=⟨Nat,fun i=>⟨[(0,true,.sl true 2 (ac o)),(1,true,.sl true 2 (ac a)),(2,true,.sl true 2 (ac b)),(6,true,.nil),(7,true,.nil),(8,true,.own 9 2 (ac (dd o a b ((bv o a b).take i)).1)),(9,true,.own 10 2 (ah (dd o a b ((bv o a b).take i)).2)),(10,true,.sl false 1 (aa (bv o a b))),(11,true,.int .i64 i)],[(9,.own 99 2 true (ac (dd o a b ((bv o a b).take i)).1)),(10,.own 193 2 true (ah (dd o a b ((bv o a b).take i)).2))]⟩,fun i=>i<=(bv o a b).length,fun i=>(bv o a b).length - i⟩
def szT (t:List FileD):Prop:=t.length<=100000 /\ ∀ f ∈ t,f.text.length<=64
def tP:Con:=.fn 64 (List FileD × List FileD × List FileD) (fun a=>[.sl true 2 (ac a.1),.sl true 2 (ac a.2.1),.sl true 2 (ac a.2.2)]) (fun a=>szT a.1/\szT a.2.1/\szT a.2.2) (fun a=>.tup [.own 8 2 (ac (of6 a.1 a.2.1 a.2.2).1),.own 9 2 (ah (of6 a.1 a.2.1 a.2.2).2)]) (fun a=>fF 8 (of6 a.1 a.2.1 a.2.2).1++NC 9 (of6 a.1 a.2.1 a.2.2).2)
theorem Le:Has Tryz.prog 204 tP:=by
 refine ag mixed ak (HasL.cons Li (HasL.cons Lh HasL.nil)) [0,1,2,6,7,8,9,10,11,12,13,14] ((fun a n (_:Nat)=>(fun a _=>BG a.1 a.2.1 a.2.2) a n)) [60] Tryz.func204 (by unfold Tryz.f204; rfl) (fun _=>⟨(),trivial⟩) ?_
 intro a ha;obtain ⟨o,a,b⟩:=a;obtain ⟨⟨h1,h1'⟩,⟨h2,h2'⟩,h3,h3'⟩:szT o/\szT a/\szT b:=ha;simp -implicitDefEqProofs [tP,tR,tQ,Con.fn,ae,BG]
 try dsimp only
 have hp:=C6 o a b;refine ⟨o,a,b,⟨rfl,rfl,rfl⟩,⟨by omega,by omega,by omega⟩,⟨0,⟨⟨rfl,rfl,rfl,rfl⟩,rfl,rfl⟩,Nat.zero_le _⟩,fun t ht _=>⟨fun hlt=>⟨hlt,fun _=>?_⟩,fun hge=>?_⟩⟩
 ·have qq:Option.map al (bv o a b)[t]? = some (al (bv o a b)[t]):=by simp -implicitDefEqProofs [hlt]
  have hs:=DI (o:=o) (a:=a) (b:=b) hlt;have hb:=DH o a b ((bv o a b).take t);have hl:((bv o a b).take t).length<=(bv o a b).length:=by simp; omega
  have ho:=CD (p:=(bv o a b)[t]) (show 10<=64 by omega) h1' h2' h3'
  rw [qq];generalize dd o a b ((bv o a b).take t)=R at *;generalize (bv o a b)[t]=y at *;obtain ⟨X,Y⟩:=R;simp only at hb;simp -implicitDefEqProofs [al,D.asStr];refine ⟨o,a,b,y,⟨rfl,rfl,rfl,rfl⟩,⟨h1',h2',h3'⟩,?_⟩;generalize hone:bV o a b y=O at *;obtain ⟨x1,x2,x3⟩:=O;have f:∀ (t:List Str),∀ x ∈ aa t,∀ d ∈ x,match d with | .sl _ _ _=>False | _=>True:=fun t=>(eStrs_flat t).mpr trivial
  have st:dd o a b ((bv o a b).take (t+1))=(if x2=true then X++[⟨y,x1⟩] else X,if 0 < x3 then Y++[⟨y,x3⟩] else Y):=by rw [hs]; unfold stepJ; rw [hone]
  have snF:ac X++[[D.str y,D.sl 9 1 (aa x1)]]=ac (X++[⟨y,x1⟩]):=aS _ _ _;have snH:ah Y++[[D.str y,D.int .i64 x3]]=ah (Y++[⟨y,x3⟩]):=nJ _ _ _;dsimp only at ho ⊢
  rw [snF,snH];refine ⟨fun h3=>⟨hlt,fun _=>⟨⟨by omega,by omega⟩,fun h2=>⟨hlt,fun _=>⟨f x1,⟨by omega,by omega⟩,⟨by omega,by omega⟩,⟨by omega,by omega⟩,fun _ _=>⟨t+1,?_⟩⟩⟩,fun h2=>⟨⟨by omega,by omega⟩,fun _ _=>⟨t+1,?_⟩⟩⟩⟩,fun h3=>⟨fun h2=>⟨hlt,fun _=>⟨f x1,⟨by omega,by omega⟩,⟨by omega,by omega⟩,⟨by omega,by omega⟩,fun _ _=>⟨t+1,?_⟩⟩⟩,fun h2=>⟨⟨by omega,by omega⟩,fun _ _=>⟨t+1,?_⟩⟩⟩⟩
  ·rw [st,if_pos h2,if_pos h3]; exact ⟨⟨⟨rfl,rfl,by omega⟩,rfl,rfl⟩,by omega,by omega⟩
  ·rw [st,if_neg (by simp -implicitDefEqProofs [h2]),if_pos h3]; exact ⟨⟨⟨rfl,rfl,by omega⟩,rfl,rfl⟩,by omega,by omega⟩
  ·rw [st,if_pos h2,if_neg (by omega)]; exact ⟨⟨⟨rfl,rfl,by omega⟩,rfl,rfl⟩,by omega,by omega⟩
  ·rw [st,if_neg (by simp -implicitDefEqProofs [h2]),if_neg (by omega)]; exact ⟨⟨⟨rfl,rfl,by omega⟩,rfl,rfl⟩,by omega,by omega⟩
 ·have e:(bv o a b).take t=bv o a b:=List.take_of_length_le hge;rw [e]; exact ⟨⟨rfl,rfl⟩,rfl,rfl⟩
def pP:Con:=.fn 31 (List FileD × List FileD × List FileD) (fun a=>[.sl true 2 (ac a.1),.sl true 2 (ac a.2.1),.sl true 2 (ac a.2.2)]) (fun a=>szT a.1/\szT a.2.1/\szT a.2.2) (fun a=>.tup [.sl false 2 (ac (bT a.1 a.2.1 a.2.2).1),.sl false 2 (ah (bT a.1 a.2.1 a.2.2).2)]) (fun _=>[])
theorem BF:Has Tryz.prog 178 pP:=by
 refine ag mixed ak (HasL.cons Le (HasL.cons nW (HasL.cons mp HasL.nil))) [0,1,2,6,7,8,9] ((fun a n (_:Nat)=>(fun _=>an) a n)) [] Tryz.func178 (by unfold Tryz.f178; rfl) (fun _=>⟨(),trivial⟩) ?_
 intro a ha;obtain ⟨o,a,b⟩:=a;obtain ⟨h1,h2,h3⟩:szT o/\szT a/\szT b:=ha;simp -implicitDefEqProofs [pP,tP,kr,jE,Con.fn,ae]
 try dsimp only
 have e1:(of6 o a b).2=[]->bi (of6 o a b).1=false->bT o a b=(o,[⟨[],4⟩]):=fun h h'=>by unfold bT; rw [if_pos ⟨h,h'⟩]
 have e2:(of6 o a b).2=[]->bi (of6 o a b).1=true->bT o a b=of6 o a b:=fun h h'=>by unfold bT; rw [if_neg (by simp -implicitDefEqProofs [h'])]
 have e3:¬ (of6 o a b).2=[]->bT o a b=of6 o a b:=fun h=>by unfold bT; rw [if_neg (by simp -implicitDefEqProofs [h])]
 refine ⟨o,a,b,⟨rfl,rfl,rfl⟩,⟨h1,h2,h3⟩,fun _=>⟨fun h=>⟨fun h'=>⟨⟨by have:=h1.1; omega,fun f hf=>by have:=h1.2 f hf; omega⟩,?_⟩,fun h'=>?_⟩,fun h=>?_⟩⟩
 ·rw [e1 h h']; exact ⟨rfl,rfl⟩
 ·rw [e2 h h']; exact ⟨rfl,rfl⟩
 ·rw [e3 h]; exact ⟨rfl,rfl⟩
--TAB dm
theorem vV {t:List FileD} {p:Str} (h:(aH t p).2=false):(aH t p).1=[]:=by
 induction t with
 | nil=>rfl
 | cons f t ih =>
  unfold aH at h ⊢;split
  ·rename_i e; rw [if_pos e] at h; cases h
  ·rename_i e; rw [if_neg e] at h; exact ih h
theorem same_eq {x y:List Str × Bool} (hx:x.2=false->x.1=[]) (hy:y.2=false->y.1=[]):mR x y=cR x y:=by
 unfold mR cR;cases h:x.2 <;> cases h':y.2 <;> simp
 rw [hx h,hy h']
theorem vW {t:List FileD} (h:aA t=true) (p:Str):bD (aH t p).1=true:=by
 simp only [aA,Bool.and_eq_true,decide_eq_true_eq,List.all_eq_true,List.mem_range] at h;have hf:∀ f ∈ t,bD f.text=true:=by
  intro f hf;obtain ⟨i,hi,rfl⟩:=List.getElem_of_mem hf;have:=(h.2 i hi).1;simp only [dN,Bool.and_eq_true] at this;have e:t.getD i default=t[i]:=by simp -implicitDefEqProofs [List.getD_eq_getElem?_getD,hi]
  rw [e] at this;exact this.1.1
 clear h
 induction t with
 | nil=>rfl
 | cons f t ih =>
  unfold aH;split
  ·exact hf f (by simp)
  ·exact ih fun g hg=>hf g (by simp -implicitDefEqProofs [hg])
theorem Nx {o a b:List FileD} (ho:aA o=true) (ha:aA a=true) (hb:aA b=true) (p:Str):fD (aH o p) (aH a p) (aH b p)=(((bV o a b p).1,(bV o a b p).2.1),(bV o a b p).2.2):=by
 have m:eW (aH o p).1 (aH a p).1 (aH b p).1=cT (of3 (aH o p).1 (aH a p).1 (aH b p).1):=by unfold eW; rw [vW ho,vW ha,vW hb]; rfl
 have n1:=@vV o p;have n2:=@vV a p;have n3:=@vV b p;unfold fD bV;rw [same_eq n2 n1,same_eq n2 n3,same_eq n3 n1,m];split
 ·rfl
 ·split
  ·rfl
  ·split
   ·rfl
   ·split
    ·rename_i h;have h:(aH o p).2=false:=by simpa using h
     rw [<- n1 h,<- h]
    ·rename_i h;have h:(aH o p).2=true:=by simpa using h
     split
     ·rfl
     ·rw [<- h]
def iF (o a b:List FileD):List FileD × List HeadD:=if aA o && aA a && aA b then bT o a b else ([],[])
theorem PA (o a b:List FileD) (l:List Str):∀ f ∈ (dd o a b l).1,f.path ∈ l:=by
 have:∀ (l:List Str) (s:List FileD × List HeadD),∀ f ∈ (l.foldl (stepJ o a b) s).1,f ∈ s.1 \/ f.path ∈ l:=by
  intro l
  induction l with
  | nil=>intro s f hf; exact .inl hf
  | cons p l ih =>
   intro s f hf;rcases ih _ f hf with h | h
   ·have h:f ∈ (if (bV o a b p).2.1 then s.1++[⟨p,(bV o a b p).1⟩] else s.1):=h
    split at h
    ·rcases List.mem_append.1 h with h | h
     ·exact .inl h
     ·have:f=⟨p,(bV o a b p).1⟩:=by simpa using h
      subst this; exact .inr (by simp)
    ·exact .inl h
   ·exact .inr (by simp -implicitDefEqProofs [h])
 intro f hf;exact (this l ([],[]) f hf).resolve_left (by simp)
theorem PB {o a b:List FileD} (h1:c7 o) (h2:c7 a) (h3:c7 b) (i:Nat):c7 (dd o a b ((bv o a b).take i)).1:=by
 intro f hf;have h:=List.mem_of_mem_take (PA o a b _ f hf);have h:=((C7 o a b).2 f.path).1 h;simp only [List.map_append,List.mem_append,List.mem_map] at h;rcases h with (⟨g,hg,e⟩ | ⟨g,hg,e⟩) | ⟨g,hg,e⟩
 ·rw [<- e]; exact h1 g hg
 ·rw [<- e]; exact h2 g hg
 ·rw [<- e]; exact h3 g hg
theorem Nw (o a b:List FileD) (p:Str):0<=(bV o a b p).2.2:=by
 unfold bV
 repeat' split
 all_goals simp
def joI (o a b:List FileD):Inv:=⟨Nat,fun i=>⟨[(0,true,.sl true 2 (ac o)),(1,true,.sl true 2 (ac a)),(2,true,.sl true 2 (ac b)),(6,true,.nil),(7,true,.nil),(8,true,.own 9 2 (ac (dd o a b ((bv o a b).take i)).1)),(9,true,.own 10 2 (ah (dd o a b ((bv o a b).take i)).2)),(23,true,.own 11 1 (aa (bv o a b))),(24,true,.int .i64 (bv o a b).length),(25,true,.int .i64 i)],[(9,.own 99 2 true (ac (dd o a b ((bv o a b).take i)).1)),(10,.own 193 2 true (ah (dd o a b ((bv o a b).take i)).2)),(11,.own 9 1 true (aa (bv o a b)))]⟩,fun i=>i<=(bv o a b).length/\aA o=true/\aA a=true/\aA b=true,fun i=>(bv o a b).length - i⟩
def tx:Con:=.fn 74 (List FileD × List FileD × List FileD) (fun a=>[.sl true 2 (ac a.1),.sl true 2 (ac a.2.1),.sl true 2 (ac a.2.2)]) (fun a=>c7 a.1/\c7 a.2.1/\c7 a.2.2) (fun a=>.tup [.own 8 2 (ac (iF a.1 a.2.1 a.2.2).1),.own 9 2 (ah (iF a.1 a.2.1 a.2.2).2)]) (fun a=>fF 8 (iF a.1 a.2.1 a.2.2).1++[(9,.own 193 2 true (ah (iF a.1 a.2.1 a.2.2).2))])
theorem JE:Has Tryz.prog 171 tx:=by
 refine ag mixed fa (HasL.cons yB (HasL.cons E9 (HasL.cons IC (HasL.cons JC (HasL.cons lk (HasL.cons jJ HasL.nil)))))) [0,1,2,6,7,8,9,11,12,13,23,24,25] ((fun a n (_:Nat)=>(fun a _=>joI a.1 a.2.1 a.2.2) a n)) [] Tryz.func171 (by unfold Tryz.f171; rfl) (fun _=>⟨(),trivial⟩) ?_
 intro a ha;obtain ⟨o,a,b⟩:=a;obtain ⟨h1,h2,h3⟩:c7 o/\c7 a/\c7 b:=ha;simp (maxSteps:=8000000) -implicitDefEqProofs [-kStep_move,-Bool.exists_bool,tx,pi,sA,s7,tv,we,wg,ja,iu,Con.fn,dm,ae,joI]
 try dsimp only
 have j0:(aA o=false \/ aA a=false) \/ aA b=false->iF o a b=([],[]):=fun h=>by unfold iF; rw [if_neg]; rcases h with (h | h) | h <;> simp -implicitDefEqProofs [h]
 refine ⟨o,a,b,⟨rfl,rfl,rfl⟩,⟨h1,h2,h3⟩,fun h=>by rw [j0 h]; exact ⟨rfl,rfl⟩,fun b1 b2 b3=>?_⟩
 have o8:=rN o b1;have a8:=rN a b2;have b8:=rN b b3;have hp:=C6 o a b;refine ⟨[o,a,b],rfl,⟨by simp; omega,by simp⟩,fun _=>⟨⟨0,⟨⟨rfl,rfl,(sd o a b).symm,by rw [sd],rfl⟩,rfl,rfl,sd o a b⟩,Nat.zero_le _,b1,b2,b3⟩,fun t ht c1 c2 c3=>⟨fun hlt=>⟨hlt,fun _=>?_⟩,fun hge=>?_⟩⟩⟩
 ·have qq:Option.map al (bv o a b)[t]? = some (al (bv o a b)[t]):=by simp -implicitDefEqProofs [hlt]
  have hs:=DI (o:=o) (a:=a) (b:=b) hlt;have hb:=DH o a b ((bv o a b).take t);have hl:((bv o a b).take t).length<=(bv o a b).length:=by simp; omega
  have ho:=CD (p:=(bv o a b)[t]) (show 10<=64 by omega) o8.2 a8.2 b8.2
  have he:=Nx b1 b2 b3 (bv o a b)[t];have hnn:=Nw o a b (bv o a b)[t];rw [qq];generalize dd o a b ((bv o a b).take t)=R at *;generalize (bv o a b)[t]=y at *;obtain ⟨X,Y⟩:=R;simp only at hb;simp -implicitDefEqProofs [-Bool.exists_bool,al,D.asStr,Iq];have z:∀ {t:List FileD},(∀ f ∈ t,f.text.length<=64) -> ∀ f ∈ t,f.text.length<=1048576:=fun h f hf=>by have:=h f hf; omega
  have he:fD ((aH o y).1,(aH o y).2) ((aH a y).1,(aH a y).2) ((aH b y).1,(aH b y).2)=(((bV o a b y).1,(bV o a b y).2.1),(bV o a b y).2.2):=he;refine ⟨o,y,⟨rfl,rfl⟩,z o8.2,a,y,⟨rfl,rfl⟩,z a8.2,b,y,⟨rfl,rfl⟩,z b8.2,_,_,_,_,_,_,⟨⟨rfl,rfl⟩,⟨rfl,rfl⟩,rfl,rfl⟩,⟨rfl,rfl,rfl⟩,?_⟩;rw [he];generalize hone:bV o a b y=O at *;obtain ⟨x1,x2,x3⟩:=O;have st:dd o a b ((bv o a b).take (t+1))=(if x2=true then X++[⟨y,x1⟩] else X,if 0 < x3 then Y++[⟨y,x3⟩] else Y):=by rw [hs]; unfold stepJ; rw [hone]
  have snF:ac X++[[D.str y,D.sl 9 1 (aa x1)]]=ac (X++[⟨y,x1⟩]):=aS _ _ _;have snH:ah Y++[[D.str y,D.int .i64 x3]]=ah (Y++[⟨y,x3⟩]):=nJ _ _ _;simp only at ho hnn ⊢;rw [snF,snH];refine ⟨fun h3=>⟨⟨by omega,by omega⟩,fun h2=>⟨⟨by omega,by omega⟩,⟨by omega,by omega⟩,fun _ _=>⟨t+1,?_⟩⟩,fun h2=>⟨⟨by omega,by omega⟩,fun _ _=>⟨t+1,?_⟩⟩⟩,fun h3=>⟨fun h2=>⟨⟨by omega,by omega⟩,⟨by omega,by omega⟩,fun _ _=>⟨t+1,?_⟩⟩,fun h2=>⟨⟨by omega,by omega⟩,fun _ _=>⟨t+1,?_⟩⟩⟩⟩
  ·rw [st,if_pos h2,if_pos (by omega)]; exact ⟨⟨⟨rfl,rfl,by omega⟩,rfl,rfl⟩,⟨by omega,b1,b2,b3⟩,by omega⟩
  ·rw [st,if_neg (by simp -implicitDefEqProofs [h2]),if_pos (by omega)]; exact ⟨⟨⟨rfl,rfl,by omega⟩,rfl,rfl⟩,⟨by omega,b1,b2,b3⟩,by omega⟩
  ·rw [st,if_pos h2,if_neg (by omega)]; exact ⟨⟨⟨rfl,rfl,by omega⟩,rfl,rfl⟩,⟨by omega,b1,b2,b3⟩,by omega⟩
  ·rw [st,if_neg (by simp -implicitDefEqProofs [h2]),if_neg (by omega)]; exact ⟨⟨⟨rfl,rfl,by omega⟩,rfl,rfl⟩,⟨by omega,b1,b2,b3⟩,by omega⟩
 ·have:t=(bv o a b).length:=by omega
  subst this;have hpt:=PB h1 h2 h3 (bv o a b).length;have hj:iF o a b=bT o a b:=by unfold iF; rw [b1,b2,b3]; rfl
  rw [List.take_length] at hpt ⊢;have e6:dd o a b (bv o a b)=of6 o a b:=rfl;rw [e6] at hpt ⊢;rw [hj];refine fun _=>⟨fun h=>⟨h,hpt⟩,fun h h'=>?_,fun h=>?_⟩
  ·have e:bT o a b=(o,[⟨[],4⟩]):=by unfold bT; rw [if_pos ⟨h,by rw [<- eE]; exact h'⟩]
   rw [e];exact ⟨⟨by omega,fun f hf=>by have:=o8.2 f hf; omega⟩,⟨rfl,rfl⟩,rfl,rfl⟩
  ·have e:bT o a b=of6 o a b:=by unfold bT; rw [if_neg]; rintro ⟨q1,q2⟩; rw [<- eE,h q1] at q2; cases q2
   rw [e];exact ⟨⟨rfl,rfl⟩,rfl,rfl⟩
def dF (o a b:List FileD):List FileD × Bool:=if aA o && aA a && aA b then (if (bT o a b).2=[] then ((bT o a b).1,true) else ([],false)) else ([],false)
def pA:Con:=.fn 26 (List FileD × List FileD × List FileD) (fun a=>[.sl true 2 (ac a.1),.sl true 2 (ac a.2.1),.sl true 2 (ac a.2.2)]) (fun a=>c7 a.1/\c7 a.2.1/\c7 a.2.2) (fun a=>.tup [.own 8 2 (ac (dF a.1 a.2.1 a.2.2).1),.bool (dF a.1 a.2.1 a.2.2).2]) (fun a=>fF 8 (dF a.1 a.2.1 a.2.2).1)
theorem A3:Has Tryz.prog 131 pA:=by
 refine ag mixed fa (HasL.cons yB (HasL.cons JE HasL.nil)) [0,1,2,6,7,8,9] ((fun a n (_:Nat)=>(fun _=>an) a n)) [] Tryz.func131 (by unfold Tryz.f131; rfl) (fun _=>⟨(),trivial⟩) ?_
 intro a ha;obtain ⟨o,a,b⟩:=a;obtain ⟨h1,h2,h3⟩:c7 o/\c7 a/\c7 b:=ha;simp (maxSteps:=8000000) -implicitDefEqProofs [-Bool.exists_bool,pA,pi,tx,Con.fn,dm,ae]
 try dsimp only
 have j0:(aA o=false \/ aA a=false) \/ aA b=false->dF o a b=([],false):=fun h=>by unfold dF; rw [if_neg]; rcases h with (h | h) | h <;> simp -implicitDefEqProofs [h]
 refine ⟨o,a,b,⟨rfl,rfl,rfl⟩,⟨h1,h2,h3⟩,fun h=>by rw [j0 h]; exact ⟨⟨rfl,rfl⟩,rfl⟩,fun b1 b2 b3=>⟨o,a,b,⟨rfl,rfl,rfl⟩,⟨h1,h2,h3⟩,fun _=>?_⟩⟩
 have e:iF o a b=bT o a b:=by unfold iF; rw [b1,b2,b3]; rfl
 have e2:dF o a b=if (bT o a b).2=[] then ((bT o a b).1,true) else ([],false):=by unfold dF; rw [b1,b2,b3]; rfl
 rw [e,e2];exact ⟨fun h=>by rw [if_neg (by intro q; rw [q] at h; simp at h)]; exact ⟨⟨rfl,rfl⟩,rfl⟩,fun h=>by rw [if_pos h]; exact ⟨⟨rfl,rfl⟩,rfl⟩⟩
theorem nS {l:List Bool} {x:Int} (h0:0<=x) (h1:x.toNat < l.length):isT l x.toNat=decide (x ∈ ar l):=by
 rw [Bool.eq_iff_iff,decide_eq_true_iff,listT_mem];constructor
 ·intro h; exact ⟨x.toNat,h1,h,by omega⟩
 ·rintro ⟨i,_,h2,rfl⟩
  simpa using h2
theorem jz {r:RepoD} (h:aF r=true) {a:Int} (ha:0<=a/\a < r.commits.length):aA (aJ r a)=true:=by
 have hi:a.toNat < r.commits.length:=by omega
 have:=(fL h hi).2.2;unfold aJ
 rwa [List.getD_eq_getElem?_getD,List.getElem?_eq_getElem hi]
theorem y7 {r:RepoD} {a b c:Int} (h:c ∈ df r a b):0<=c/\c < r.commits.length:=by
 unfold df at h;obtain ⟨i,hi,_,rfl⟩:=listT_mem.1 h;rw [pd,qb] at hi;omega
theorem yX {r:RepoD} (h:aF r=true) (a b:Int):aA (c8 r a b)=true:=by
 unfold c8;rw [<- yZ];cases hq:(df r a b).getLast? with
 | none=>rfl
 | some c=>exact jz h (y7 (List.mem_of_getLast? hq))
section
variable {r:RepoD} {n w:Str} {b:Int}
theorem Q4 (h:aF r=true) (h2:atL r.heads n < 0 \/ bc w=false \/ ¬ (0<=b/\b < r.commits.length)):cD r n w b=(r,1):=by unfold cD; rw [if_pos (by rw [<- cu,h]),if_pos h2]
theorem x9 (h:aF r=true) (h1:0<=atL r.heads n) (h2:bc w=true) (h3:0<=b/\b < r.commits.length):cD r n w b=dS r n w b:=by
 unfold cD; rw [if_pos (by rw [<- cu,h]),if_neg]
 rintro (q | q | q)
 ·omega
 ·rw [h2] at q; cases q
 ·exact q h3
theorem nd (h:aF r=true) (h1:0<=atL r.heads n):atL r.heads n < r.commits.length:=by
 rw [cu] at h;rcases m9 (n:=n) ((cQ r).1 h).2.1 with q | q <;> omega
theorem Q5 (h:aF r=true) (h1:0<=atL r.heads n) (h2:bc w=true) (h3:0<=b/\b < r.commits.length) (h4:isT (anc r (atL r.heads n)) b.toNat=true):cD r n w b=(r,2):=by
 rw [x9 h h1 h2 h3];rw [nS h3.1 (by rw [eH]; omega),decide_eq_true_eq] at h4
 unfold dS;rw [if_pos h4]
theorem Q6 (h:aF r=true) (h1:0<=atL r.heads n) (h2:bc w=true) (h3:0<=b/\b < r.commits.length) (h4:isT (anc r (atL r.heads n)) b.toNat=false) (h5:isT (anc r b) (atL r.heads n).toNat=true) :
  cD r n w b=(⟨r.commits,ptL r.heads n b⟩,3):=by
 have hlt:=nd h h1;rw [x9 h h1 h2 h3];rw [nS h3.1 (by rw [eH]; omega),decide_eq_false_iff_not] at h4
 rw [nS h1 (by rw [eH]; omega),decide_eq_true_eq] at h5
 unfold dS;rw [if_neg h4,if_pos h5];rw [cu] at h;rw [xq ((cQ r).1 h).2.1]
theorem vf (h:di r.commits.length r.heads=true) {c:CommitD}:cmL r n c=cf r n c:=by
 unfold cmL cf;rw [xq h]
theorem A1 {o a b:List FileD} (ho:aA o=true) (ha:aA a=true) (hb:aA b=true):dF o a b=if (bT o a b).2=[] then ((bT o a b).1,true) else ([],false):=by
 unfold dF;rw [ho,ha,hb];rfl
theorem Q7 (h:aF r=true) (h1:0<=atL r.heads n) (h2:bc w=true) (h3:0<=b/\b < r.commits.length) (h4:isT (anc r (atL r.heads n)) b.toNat=false) (h5:isT (anc r b) (atL r.heads n).toNat=false) :
  cD r n w b=if (dF (c8 r (atL r.heads n) b) (aJ r (atL r.heads n)) (aJ r b)).2 then
   (if aF (cmL r n ⟨[atL r.heads n,b],w,(dF (c8 r (atL r.heads n) b) (aJ r (atL r.heads n)) (aJ r b)).1⟩) then (cmL r n ⟨[atL r.heads n,b],w,(dF (c8 r (atL r.heads n) b) (aJ r (atL r.heads n)) (aJ r b)).1⟩,0) else (r,5))
   else (r,4):=by
 have hlt:=nd h h1;rw [x9 h h1 h2 h3];rw [nS h3.1 (by rw [eH]; omega),decide_eq_false_iff_not] at h4
 rw [nS h1 (by rw [eH]; omega),decide_eq_false_iff_not] at h5
 unfold dS;rw [if_neg h4,if_neg h5,A1 (yX h _ _) (jz h ⟨h1,hlt⟩) (jz h h3)];rw [cu] at h;have hH:=((cQ r).1 h).2.1;by_cases hj:(bT (c8 r (atL r.heads n) b) (aJ r (atL r.heads n)) (aJ r b)).2=[]
 ·rw [if_pos hj,if_pos hj];simp only [if_true];rw [vf hH,cu]
 ·rw [if_neg hj,if_neg hj];simp
end
inductive Uni (r:RepoD) (n w:Str) (b:Int):RepoD × Int->Prop
 | form:Uni r n w b (r,1)
 | same:0<=atL r.heads n->atL r.heads n < r.commits.length->0<=b->b < r.commits.length->Rch r (atL r.heads n).toNat b.toNat->Uni r n w b (r,2)
 | on:0<=atL r.heads n->atL r.heads n < r.commits.length->0<=b->b < r.commits.length -> ¬ Rch r (atL r.heads n).toNat b.toNat->Rch r b.toNat (atL r.heads n).toNat->az ⟨r.commits,bG r.heads n b⟩=true->Uni r n w b (⟨r.commits,bG r.heads n b⟩,3)
 | clash:0<=atL r.heads n->atL r.heads n < r.commits.length->0<=b->b < r.commits.length->(bT (c8 r (atL r.heads n) b) (aJ r (atL r.heads n)) (aJ r b)).2 ≠ []->Uni r n w b (r,4)
 | full:Uni r n w b (r,5)
 | made (t:List FileD):0<=atL r.heads n->atL r.heads n < r.commits.length->0<=b->b < r.commits.length -> ¬ Rch r (atL r.heads n).toNat b.toNat -> ¬ Rch r b.toNat (atL r.heads n).toNat->bT (c8 r (atL r.heads n) b) (aJ r (atL r.heads n)) (aJ r b)=(t,[]) ->
   az (cf r n ⟨[atL r.heads n,b],w,t⟩)=true->Uni r n w b (cf r n ⟨[atL r.heads n,b],w,t⟩,0)
theorem oX {r:RepoD} (h:az r=true) (n:Str) (c:CommitD) (m:Str):atL (cf r n c).heads m=if n=m then (r.commits.length:Int) else atL r.heads m:=by
 show atL (bG r.heads n r.commits.length) m=_
 exact na ((cQ r).1 h).2.1
theorem E3 (r:RepoD) (n:Str) (c:CommitD):(cf r n c).commits.getD r.commits.length default=c:=by simp -implicitDefEqProofs [cf,List.getD_eq_getElem?_getD]
theorem ym {r:RepoD} (n:Str) (c:CommitD) {p:Int} (h:p ∈ c.parents):Rch (cf r n c) r.commits.length p.toNat:=by
 refine Rch.refl.step (p:=p) ?_;rw [E3]; exact h
def dJ (t:List FileD) (p:Str):Nat->Nat
 | 0=>0
 | k+1=>if Go.Op.bytesLess (t.getD k default).path p then k+1 else dJ t p k
def eY (t:List FileD) (p:Str):Nat:=dJ t p t.length
def bY (t:List FileD) (f:FileD):List FileD × Bool :=
 if eY t f.path < t.length/\(t.getD (eY t f.path) default).path=f.path then (t.set (eY t f.path) f,false) else (d7 t (eY t f.path) f,true)
theorem OB (t:List FileD) (p:Str):∀ k,dJ t p k<=k:=by
 intro k
 induction k with
 | zero=>exact Nat.le_refl _
 | succ k ih=>unfold dJ; split <;> omega
theorem xv (t:List FileD) (p:Str):eY t p<=t.length:=OB t p _
theorem OA (t:List FileD) (f:FileD):(bY t f).1.length<=t.length+1:=by
 have:=xv t f.path;unfold bY;split <;> simp [d7] <;> omega
theorem Do (t:List FileD) (f:FileD):∀ g ∈ (bY t f).1,g ∈ t \/ g=f:=by
 intro g hg;unfold bY at hg;split at hg
 ·exact List.mem_or_eq_of_mem_set hg
 ·simp only [d7,List.mem_append,List.mem_cons] at hg;rcases hg with h | h | h
  ·exact .inl (List.mem_of_mem_take h)
  ·exact .inr h
  ·exact .inl (List.mem_of_mem_drop h)
theorem z7 (b:FileD) (p:Str) (x:List Str):(ac [b]=[[D.str p,D.sl 9 1 (aa x)]])=(b=⟨p,x⟩):=by
 obtain ⟨q,y⟩:=b;simp [ac,am]
theorem Hk (b:FileD) (p:Str) (x:List Str):([[D.str p,D.sl 9 1 (aa x)]]=ac [b])=(b=⟨p,x⟩):=by rw [<- z7]; exact propext ⟨Eq.symm,Eq.symm⟩
def pV:Con:=.fn 58 (List FileD × FileD) (fun a=>[.sl true 2 (ac a.1),.agg [.str a.2.path,.sl true 1 (aa a.2.text)]]) (fun a=>(a.1.length<=1048576 /\ ∀ f ∈ a.1,f.text.length<=1048576)/\a.2.text.length<=1048576) (fun a=>.tup [.own 8 2 (ac (bY a.1 a.2).1),.bool (bY a.1 a.2).2]) (fun a=>fF 8 (bY a.1 a.2).1)
theorem Ds:Has Tryz.prog 124 pV:=by
 refine ag mixed ak (HasL.cons jJ (HasL.cons qd (HasL.cons Jn HasL.nil))) [0,1,3,4,5,6,7,8] ((fun a n (_:Nat)=>(fun a _=>⟨Nat,fun k=>⟨[(3,true,.ptr 10 0),(4,true,.nil),(5,true,.bool false),(6,true,.own 9 2 (ac a.1)),(7,true,.int .i64 k)],[(10,.box 99 [.str a.2.path,.sl true 1 (aa a.2.text)]),(9,.own 99 2 true (ac a.1))]⟩,fun k=>k<=a.1.length/\dJ a.1 a.2.path k=eY a.1 a.2.path,fun k=>k⟩) a n)) [] Tryz.func124 (by unfold Tryz.f124; rfl) (fun _=>⟨(),trivial⟩) ?_
 intro a ha;obtain ⟨t,f⟩:=a;obtain ⟨⟨q1,q2⟩,q3⟩:(t.length<=1048576 /\ ∀ f ∈ t,f.text.length<=1048576)/\f.text.length<=1048576:=ha;have g0:dJ t f.path 0=0:=rfl;have g1:∀ k,0 < k->(h:k - 1 < t.length)->Go.Op.bytesLess t[k - 1].path f.path=false->dJ t f.path (k - 1)=dJ t f.path k:=fun k h0 h hb=>by
  obtain ⟨j,rfl⟩:∃ j,k=j+1:=⟨k - 1,by omega⟩
  simp only [Nat.add_sub_cancel] at h hb ⊢;rw [dJ,if_neg (by simp [List.getD_eq_getElem?_getD,h,hb])]
 have g2:∀ k,0 < k->(h:k - 1 < t.length)->Go.Op.bytesLess t[k - 1].path f.path=true->dJ t f.path k=k:=fun k h0 h hb=>by
  obtain ⟨j,rfl⟩:∃ j,k=j+1:=⟨k - 1,by omega⟩
  simp only [Nat.add_sub_cancel] at h hb;rw [dJ,if_pos (by simp [List.getD_eq_getElem?_getD,h,hb])]
 have g3:∀ k (h:k < t.length),k=eY t f.path->t[k].path=f.path->bY t f=(t.set k f,false):=fun k h hk hp=>by
  unfold bY;rw [<- hk,if_pos (by simp [List.getD_eq_getElem?_getD,h,hp])]
 have g4:∀ k,k=eY t f.path->(∀ h:k < t.length,¬ t[k].path=f.path)->bY t f=(d7 t k f,true):=fun k hk hp=>by
  unfold bY;rw [<- hk,if_neg];rintro ⟨h,h2⟩;exact hp h (by simpa [List.getD_eq_getElem?_getD,h] using h2)
 simp -implicitDefEqProofs [pV,iu,lH,cInsF,Con.fn,ae,z7,Hk]
 try dsimp only
 have tl:∀ k,k<=t.length->k=eY t f.path -> ∀ P:Prop,(∀ (e3:∀ h:k < t.length,t[k].path=f.path->bY t f=(t.set k f,false)) (e4:(∀ h:k < t.length,¬ t[k].path=f.path)->bY t f=(d7 t k f,true)),P)->P:=fun k hk kk P h=>h (fun h=>g3 k h kk) (g4 k kk);refine ⟨⟨q1,q2⟩,fun _=>⟨⟨t.length,rfl,Nat.le_refl _,rfl⟩,fun k hk hp=>⟨fun h0=>⟨⟨by omega,by omega⟩,fun _ _=>⟨⟨by omega,by omega⟩,fun _ _=>⟨?_,fun _ _=>⟨fun hb=>⟨⟨by omega,by omega⟩,fun _ _=>⟨k - 1,by omega,⟨by omega,?_⟩,by omega⟩⟩,fun hb=>?_⟩⟩⟩⟩,fun h0=>?_⟩⟩⟩
 ·have hlt:k - 1 < t.length:=by omega
  simp [hlt,am]
 ·have hlt:k - 1 < t.length:=by omega
  rw [g1 k h0 hlt (by simpa [hlt,am] using hb),hp]
 ·have hlt:k - 1 < t.length:=by omega
  have kk:k=eY t f.path:=by rw [<- hp]; exact (g2 k h0 hlt (by simpa [hlt,am] using hb)).symm
  refine tl k hk kk _ fun e3 e4=>?_;refine ⟨q3,fun hlt=>⟨hlt,fun _=>⟨by simp [hlt,am],fun _ _=>⟨fun hpp=>?_,fun hpp=>?_⟩⟩⟩,fun hge=>?_⟩
  ·rw [e3 hlt (by simpa [hlt,am] using hpp)]
   exact ⟨hlt,fun _=>⟨hlt,⟨(aN t k f.path f.text).symm,rfl⟩,aN t k f.path f.text⟩⟩
  ·rw [e4 fun h=>by simpa [hlt,am] using hpp]
   exact ⟨t,k,f,⟨rfl,rfl,rfl⟩,⟨rfl,rfl⟩,⟨hk,q1⟩,⟨rfl,rfl⟩,rfl⟩
  ·rw [e4 fun h=>absurd h (by omega)]
   exact ⟨t,k,f,⟨rfl,rfl,rfl⟩,⟨rfl,rfl⟩,⟨hk,q1⟩,⟨rfl,rfl⟩,rfl⟩
 ·have kk:k=eY t f.path:=by rw [<- hp,h0]; exact g0.symm
  refine tl k hk kk _ fun e3 e4=>?_;refine ⟨q3,fun hlt=>⟨hlt,fun _=>⟨by simp [hlt,am],fun _ _=>⟨fun hpp=>?_,fun hpp=>?_⟩⟩⟩,fun hge=>?_⟩
  ·rw [e3 hlt (by simpa [hlt,am] using hpp)]
   exact ⟨hlt,fun _=>⟨hlt,⟨(aN t k f.path f.text).symm,rfl⟩,aN t k f.path f.text⟩⟩
  ·rw [e4 fun h=>by simpa [hlt,am] using hpp]
   exact ⟨t,k,f,⟨rfl,rfl,rfl⟩,⟨rfl,rfl⟩,⟨hk,q1⟩,⟨rfl,rfl⟩,rfl⟩
  ·rw [e4 fun h=>absurd h (by omega)]
   exact ⟨t,k,f,⟨rfl,rfl,rfl⟩,⟨rfl,rfl⟩,⟨hk,q1⟩,⟨rfl,rfl⟩,rfl⟩
def pm:Con:={ A:=List FileD × List FileD,X:=Unit,n:=12,args:=fun a=>[.sl true 2 (ac a.1),.own 0 2 (ac a.2)],boxes:=fun _=>[],pre:=fun a=>(a.1.length<=1048576 /\ ∀ f ∈ a.1,f.text.length<=1048576) /\ ∀ f ∈ a.2,f.path.length<=536870912,post:=fun _ _=>True,res:=fun a _=>.tup [.own 8 2 (ac (if aA a.2 then a.2 else a.1)),.bool (aA a.2)],fin:=fun a _=>fF 8 (if aA a.2 then a.2 else a.1),owns:=fun a=>[(0,99,2,ac a.2)],mv:=true }
theorem zs:Has Tryz.prog 125 pm:=by
 refine ag mixed ak (HasL.cons lk (HasL.cons jJ HasL.nil)) [0,1,4,5] ((fun a n (_:Nat)=>(fun _=>an) a n)) [] Tryz.func125 (by unfold Tryz.f125; rfl) (fun _=>⟨(),trivial⟩) ?_
 intro a ha;obtain ⟨t,o⟩:=a;obtain ⟨⟨q1,q2⟩,q3⟩:(t.length<=1048576 /\ ∀ f ∈ t,f.text.length<=1048576) /\ ∀ f ∈ o,f.path.length<=536870912:=ha;simp -implicitDefEqProofs [pm,Con.fn,ae,ja,iu]
 try dsimp only
 try simp +contextual [al,am,aV,aL,aW,List.getElem?_eq_getElem,ba,aN,aT,aY,<- aP,<- aU,aO,aR,aZ,aX,aQ,aS,and_assoc]
 repeat' (first | intro _ | apply And.intro)
 all_goals first | omega | grind [bl]
def inP (o:List FileD) (l:List FileD):List FileD:=l.foldl (fun o f=>(bY o f).1) o
end Vx
end Go.Proofs.YtonkagjdfpacmaaGreatDoor
