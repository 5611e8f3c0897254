/-
  Joined by program (merge.py): Zf, Ne, Nf, Zb, Zd, Zg, Zc, Ze, Zh, Vw, Oa, Ta, Tb, Zi, Zj, Zm, He, Eg, Sm, Sn, Mo, Zo, Zn, Te, Zl. It shows what the single texts show; conditions: none but those of each lemma.
-/
import Derived.Test.YthgfdbfmnbgkaaaGreatDoorWb
set_option linter.unusedVariables false
set_option linter.unusedSimpArgs false
set_option linter.unusedSectionVars false
namespace Go.Proofs.YthgfdbfmnbgkaaaGreatDoor
set_option maxHeartbeats 4000000
namespace Vx
open Go.RowKit
set_option maxRecDepth 8000
--TAB aV
def eqP (s x:Str):Bool:=decide (x=s)
def qA:Con:=.fn 19 (List Str × Str) (fun a=>[.sl true 1 (aa a.1),.str a.2]) (fun a=>a.1.length<=1073741824) (fun a=>.int .i64 (iZ (eqP a.2) a.1)) (fun _=>[])
theorem Ew:Has Tryz.prog 93 qA:=by
 refine ah mixed bK HasL.nil [0,1,4,5,7,8] ((fun a n (_:Nat)=>(fun a _=>⟨Nat,fun i=>⟨[(0,true,.sl true 1 (aa a.1)),(1,true,.str a.2),(4,true,.int .i64 0),(7,true,.int .i64 a.1.length),(8,true,.int .i64 i)],[]⟩,fun i=>i<=a.1.length /\ ∀ x,x ∈ a.1.take i->eqP a.2 x=false,fun i=>a.1.length - i⟩) a n)) [] Tryz.func93 (by unfold Tryz.f93; rfl) (fun _=>⟨(),trivial⟩) ?_
 intro a ha;obtain ⟨l,s⟩:=a;replace ha:l.length<=1073741824:=ha;simp -implicitDefEqProofs [qA,Con.fn,aV,ag]
 try dsimp only
 refine fun _ t ht hm=>⟨fun hlt=>⟨hlt,fun _=>?_⟩,fun hge=>Eo hge hm⟩;have qq:Option.map ak l[t]? = some (ak l[t]):=by simp -implicitDefEqProofs [hlt]
 rw [qq];simp -implicitDefEqProofs [ak,D.asStr];refine ⟨fun h=>En hlt (by unfold eqP; rw [h]; simp) hm,fun h=>⟨⟨by omega,by omega⟩,fun _ _=>⟨t+1,by omega,⟨by omega,Ad hlt hm (by unfold eqP; simpa using Ne.symm h)⟩,by omega⟩⟩⟩
def ns:Con:=.fn 9 (List Str × Str) (fun a=>[.sl true 1 (aa a.1),.str a.2]) (fun a=>a.1.length<=1073741824) (fun a=>.bool (decide (a.2 ∈ a.1))) (fun _=>[])
theorem Ep (l:List Str) (s:Str):(0<=iZ (eqP s) l)=(s ∈ l):=by
 rw [Em];unfold eqP;simp
theorem wR:Has Tryz.prog 49 ns:=by
 refine ah mixed bK (HasL.cons Ew HasL.nil) [0,1,4] ((fun a n (_:Nat)=>(fun _=>aw) a n)) [] Tryz.func49 (by unfold Tryz.f49; rfl) (fun _=>⟨(),trivial⟩) ?_
 intro a ha;obtain ⟨l,s⟩:=a;replace ha:l.length<=1073741824:=ha;simp -implicitDefEqProofs [ns,qA,Con.fn,aV,ag,Ep]
 try dsimp only
 exact ⟨l,s,⟨rfl,rfl⟩,ha,Iff.rfl⟩
def nO:Con:=.fn 16 (List Str × Str) (fun a=>[.sl true 1 (aa a.1),.str a.2]) (fun a=>a.1.length<=1048575) (fun a=>.own 8 1 (aa (Lib.compact (ck (a.1++[a.2]))))) (fun a=>dw 8 (Lib.compact (ck (a.1++[a.2]))))
theorem zE:Has Tryz.prog 50 nO:=by
 refine ah mixed bK (HasL.cons uZ (HasL.cons wP HasL.nil)) [0,1,4,5] ((fun a n (_:Nat)=>(fun _=>aw) a n)) [] Tryz.func50 (by unfold Tryz.f50; rfl) (fun _=>⟨(),trivial⟩) ?_
 intro a ha;obtain ⟨l,s⟩:=a;replace ha:l.length<=1048575:=ha;simp -implicitDefEqProofs [nO,cSortS,cCompactS,Con.fn,aV,ag]
 try dsimp only
 exact ⟨of_eq_true (eStrs_flat l),⟨by omega,by omega⟩,⟨by omega,by omega⟩,l++[s],aU l s ▸ rfl,aU l s ▸ rfl,by simp; omega,by rw [kc]; simp; omega,rfl,rfl⟩
theorem Kj {c:UInt8}:∀ {s p:Str},((spl c s p).map fun q=>q.length+1).sum=p.length+s.length+1:=by
 intro s
 induction s with
 | nil=>intro p; simp -implicitDefEqProofs [spl]
 | cons x s ih =>
  intro p;simp only [spl];split
  ·simp -implicitDefEqProofs [ih]; omega
  ·rw [ih]; simp; omega
theorem Io {s:Str} (h:bI s=true):s.length<=20:=by
 rw [<- mA] at h;simp only [gH,Bool.and_eq_true,decide_eq_true_eq,List.all_eq_true] at h;obtain ⟨h1,h2⟩:=h;have h3:=Kj (c:=47) (s:=s) (p:=[]);have h4:∀ (l:List Str),(∀ q ∈ l,aM q=true)->((l.map fun q=>q.length+1).sum)<=7 * l.length:=by
  intro l
  induction l with
  | nil=>intro _; simp
  | cons q l ih =>
   intro h;have a:=ih fun x hx=>h x (by simp -implicitDefEqProofs [hx])
   have b:=h q (by simp)
   simp only [aM,Bool.and_eq_true,decide_eq_true_eq] at b;simp only [List.map_cons,List.sum_cons,List.length_cons];omega
 have h5:=h4 _ h2;rw [h3] at h5;simp at h5;omega
def eV (l:List Str) (i:Nat):Bool:=aM (l.getD i default) && (decide (i=0) || Go.Op.bytesLess (l.getD (i - 1) default) (l.getD i default))
def jc (l:List Str):Bool:=(List.range l.length).all (eV l)
theorem uo (l:List Str):jc l=true ↔ ∀ i,i < l.length->eV l i=true:=by simp -implicitDefEqProofs [jc]
theorem yE {l:List Str} {i:Nat} (hi:i < l.length) (hb:eV l i=false):jc l=false:=by
 cases hq:jc l with
 | false=>rfl
 | true=>have:=(uo l).1 hq i hi; simp -implicitDefEqProofs [hb] at this
theorem yO {l:List Str} {i:Nat} (hlt:i < l.length):eV l i=(aM l[i] && (decide (i=0) || Go.Op.bytesLess (l[i - 1]'(by omega)) l[i])):=by
 unfold eV;rw [show l.getD i default=l[i] by simp -implicitDefEqProofs [List.getD_eq_getElem?_getD,hlt],show l.getD (i - 1) default=l[i - 1]'(by omega) by simp -implicitDefEqProofs [List.getD_eq_getElem?_getD,show i - 1 < l.length by omega]]
def rF:Con:=.fn 29 (List Str) (fun l=>[.sl true 1 (aa l)]) (fun l=>l.length<=1073741824) (fun l=>.bool (jc l)) (fun _=>[])
theorem Hb:Has Tryz.prog 85 rF:=by
 refine ah mixed bK (HasL.cons j4 HasL.nil) [0,2,3,4,5,6,7] ((fun a n (_:Nat)=>(fun l _=>⟨Nat,fun i=>⟨[(0,true,.sl true 1 (aa l)),(2,true,.bool false),(5,true,.sl true 1 (aa l)),(6,true,.int .i64 l.length),(7,true,.int .i64 i)],[]⟩,fun i=>i<=l.length /\ ∀ j,j < i->eV l j=true,fun i=>l.length - i⟩) a n)) [] Tryz.func85 (by unfold Tryz.f85; rfl) (fun _=>⟨(),trivial⟩) ?_
 intro (l:List Str) ha;replace ha:l.length<=1073741824:=ha;simp -implicitDefEqProofs [rF,iw,Con.fn,aV,ag]
 try dsimp only
 refine fun _ i hi hp=>⟨fun hlt=>⟨hlt,fun _=>?_⟩,fun hge=>(uo l).2 fun j hj=>hp j (by omega)⟩
 have q1:Option.map ak l[i]? = some (ak l[i]):=by simp -implicitDefEqProofs [hlt]
 have hn:eV l i=false->jc l=false:=yE hlt;have nx:eV l i=true -> ∀ j,j < i+1->eV l j=true:=fun h j hj=>if e:j=i then by rw [e]; exact h else hp j (by omega)
 have q2:Option.map ak l[i - 1]? = some (ak l[i - 1]):=by simp -implicitDefEqProofs [show i - 1 < l.length by omega]
 rw [yO hlt] at hn nx;rw [q1,q2];generalize l[i]=y at *;generalize l[i - 1]=z at *;simp -implicitDefEqProofs [ak,D.asStr];exact ⟨fun h=>⟨fun _=>hn (by simp -implicitDefEqProofs [h]),fun _=>hn (by simp -implicitDefEqProofs [h])⟩,fun h=>⟨fun h0=>⟨⟨by omega,by omega⟩,fun _ _=>⟨⟨by omega,by omega⟩,fun _ _=>⟨fun hb=>hn (by simp -implicitDefEqProofs [hb]; omega),fun hb=>⟨⟨by omega,by omega⟩,fun _ _=>⟨i+1,by omega,⟨by omega,nx (by simp -implicitDefEqProofs [h,hb])⟩,by omega⟩⟩⟩⟩⟩,fun h0=>⟨⟨by omega,by omega⟩,fun _ _=>⟨i+1,by omega,⟨by omega,nx (by simp -implicitDefEqProofs [h,h0])⟩,by omega⟩⟩⟩⟩
theorem yj {y z:Str} (h:Go.Op.bytesLess y z=true \/ y=z):Go.Op.bytesLess z y=false:=by
 rw [gv] at h ⊢;rcases h with h | h
 ·have h:y < z:=by simpa using h
  simp -implicitDefEqProofs [pt h]
 ·rw [h]; simp -implicitDefEqProofs [kf]
theorem yk {y z:Str} (h:Go.Op.bytesLess y z=false) (hne:¬ y=z):Go.Op.bytesLess z y=true:=by
 rw [gv] at h ⊢
 simpa using pw y z (by simpa using h) hne
def eW (l:List OwnerD) (i:Nat):Bool:=bI (l.getD i default).path && aM (l.getD i default).who && (decide (i=0) || Go.Op.bytesLess (l.getD (i - 1) default).path (l.getD i default).path)
def el (l:List OwnerD):Bool:=decide (l.length<=5) && (List.range l.length).all (eW l)
theorem ms (l:List OwnerD):el l=true ↔ l.length<=5 /\ ∀ i,i < l.length->eW l i=true:=by simp -implicitDefEqProofs [el]
theorem za {l:List OwnerD} {i:Nat} (hi:i < l.length) (hb:eW l i=false):el l=false:=by
 cases hq:el l with
 | false=>rfl
 | true=>have:=((ms l).1 hq).2 i hi; simp -implicitDefEqProofs [hb] at this
theorem HS {l:List OwnerD} (h:5 < l.length):el l=false:=by
 cases hq:el l with
 | false=>rfl
 | true=>have:=((ms l).1 hq).1; omega
theorem ux {l:List OwnerD} {i:Nat} (hlt:i < l.length):eW l i=(bI l[i].path && aM l[i].who && (decide (i=0) || Go.Op.bytesLess (l[i - 1]'(by omega)).path l[i].path)):=by
 unfold eW;rw [show l.getD i default=l[i] by simp -implicitDefEqProofs [List.getD_eq_getElem?_getD,hlt],show l.getD (i - 1) default=l[i - 1]'(by omega) by simp -implicitDefEqProofs [List.getD_eq_getElem?_getD,show i - 1 < l.length by omega]]
def j6 (l:List OwnerD):Prop:=∀ o ∈ l,o.path.length<=536870912
def nL:Con:=.fn 41 (List OwnerD) (fun l=>[.sl true 2 (aT l)]) j6 (fun l=>.bool (el l)) (fun _=>[])
theorem zb:Has Tryz.prog 41 nL:=by
 refine ah mixed bK (HasL.cons j4 (HasL.cons o0 HasL.nil)) [0,2,3,4,8,9,10] ((fun a n (_:Nat)=>(fun l _=>⟨Nat,fun i=>⟨[(0,true,.sl true 2 (aT l)),(2,true,.bool false),(8,true,.sl true 2 (aT l)),(9,true,.int .i64 l.length),(10,true,.int .i64 i)],[]⟩,fun i=>i<=l.length/\l.length<=5 /\ ∀ j,j < i->eW l j=true,fun i=>l.length - i⟩) a n)) [] Tryz.func41 (by unfold Tryz.f41; rfl) (fun _=>⟨(),trivial⟩) ?_
 intro (l:List OwnerD) ha;replace ha:j6 l:=ha;simp -implicitDefEqProofs [nL,iw,kF,Con.fn,aV,ag,mA]
 try dsimp only
 refine fun _=>⟨fun h=>HS (by omega),fun h5 _=>⟨by omega,fun t ht _ hp=>⟨fun hlt=>⟨hlt,fun _=>?_⟩,fun hge=>(ms l).2 ⟨by omega,fun j hj=>hp j (by omega)⟩⟩⟩⟩
 have hn:eW l t=false->el l=false:=za hlt;have nx:eW l t=true -> ∀ j,j < t+1->eW l j=true:=fun h j hj=>if e:j=t then by rw [e]; exact h else hp j (by omega)
 have q1:Option.map cf l[t]? = some (cf l[t]):=by simp -implicitDefEqProofs [hlt]
 have q2:Option.map cf l[t - 1]? = some (cf l[t - 1]):=by simp -implicitDefEqProofs [show t - 1 < l.length by omega]
 rw [ux hlt] at hn nx;have hz:=ha _ (List.getElem_mem hlt);rw [q1,q2];generalize l[t]=y at *;generalize l[t - 1]=z at *;simp -implicitDefEqProofs [cf,D.asStr];exact ⟨by omega,fun h=>⟨fun _=>hn (by simp -implicitDefEqProofs [h]),fun _=>hn (by simp -implicitDefEqProofs [h])⟩,fun h=>⟨fun h'=>⟨fun _=>hn (by simp -implicitDefEqProofs [h']),fun _=>hn (by simp -implicitDefEqProofs [h'])⟩,fun h'=>⟨fun h0=>⟨⟨by omega,by omega⟩,fun _ _=>⟨⟨by omega,by omega⟩,fun _ _=>⟨fun hb=>hn (by simp -implicitDefEqProofs [hb]; omega),fun hb=>⟨⟨by omega,by omega⟩,fun _ _=>⟨t+1,by omega,⟨by omega,by omega,nx (by simp -implicitDefEqProofs [h,h',hb])⟩,by omega⟩⟩⟩⟩⟩,fun h0=>⟨⟨by omega,by omega⟩,fun _ _=>⟨t+1,by omega,⟨by omega,by omega,nx (by simp -implicitDefEqProofs [h,h',h0])⟩,by omega⟩⟩⟩⟩⟩
def qH:Con:=.fn 47 (List OwnerD) (fun l=>[.sl true 2 (aT l)]) (fun l=>l.length<=1073741824) (fun l=>.bool (el l)) (fun _=>[])
theorem FE:Has Tryz.prog 52 qH:=by
 refine ah mixed bK (HasL.cons i9 (HasL.cons me HasL.nil)) [0,2,3] ((fun a n (_:Nat)=>(fun l _=>⟨Nat,fun i=>⟨[(0,true,.sl true 2 (aT l)),(2,true,.bool false),(3,true,.int .i64 i)],[]⟩,fun i=>i<=l.length /\ ∀ j,j < i->eW l j=true,fun i=>l.length - i⟩) a n)) [] Tryz.func52 (by unfold Tryz.f52; rfl) (fun _=>⟨(),trivial⟩) ?_
 intro (l:List OwnerD) ha;replace ha:l.length<=1073741824:=ha;simp -implicitDefEqProofs [qH,gN,jO,Con.fn,aV,ag]
 try dsimp only
 refine fun t ht hp _=>⟨fun hlt=>⟨hlt,fun _=>?_⟩,fun hge=>?_⟩
 ·have hn:eW l t=false->el l=false:=za hlt;have nx:eW l t=true -> ∀ j,j < t+1->eW l j=true:=fun h j hj=>if e:j=t then by rw [e]; exact h else hp j (by omega)
  have q1:Option.map cf l[t]? = some (cf l[t]):=by simp -implicitDefEqProofs [hlt]
  have q2:Option.map cf l[t - 1]? = some (cf l[t - 1]):=by simp -implicitDefEqProofs [show t - 1 < l.length by omega]
  rw [ux hlt] at hn nx;rw [q1,q2];generalize l[t]=y at *;generalize l[t - 1]=z at *;simp -implicitDefEqProofs [cf,D.asStr];exact ⟨fun h=>⟨fun _=>hn (by simp -implicitDefEqProofs [h]),fun _=>hn (by simp -implicitDefEqProofs [h])⟩,fun h=>⟨hlt,fun _=>⟨fun h'=>⟨fun _=>hn (by simp -implicitDefEqProofs [h']),fun _=>hn (by simp -implicitDefEqProofs [h'])⟩,fun h'=>⟨fun h0=>⟨hlt,fun _=>⟨⟨by omega,by omega⟩,fun _ _=>⟨⟨by omega,by omega⟩,fun _ _=>⟨fun hb=>hn (by simp -implicitDefEqProofs [yj hb]; omega),fun hb hne=>⟨⟨by omega,by omega⟩,fun _ _=>⟨t+1,by omega,⟨by omega,nx (by simp -implicitDefEqProofs [h,h',yk hb hne])⟩,by omega⟩⟩⟩⟩⟩⟩,fun h0=>⟨⟨by omega,by omega⟩,fun _ _=>⟨t+1,by omega,⟨by omega,nx (by simp -implicitDefEqProofs [h,h',h0])⟩,by omega⟩⟩⟩⟩⟩⟩
 ·intro _;rw [Bool.eq_iff_iff,ms,decide_eq_true_eq];exact ⟨fun h=>by have:=h.1; omega,fun h=>⟨by omega,fun j hj=>hp j (by omega)⟩⟩
def iA (o:OwnerD) (p:Str):Bool:=decide (o.path=p) || inB o.path p
def owF (p:Str) (b o:OwnerD):OwnerD:=if (iA o p && decide (b.path.length < o.path.length))=true then o else b
def ep (l:List OwnerD) (p:Str):OwnerD:=l.foldl (owF p) ⟨[],[]⟩
theorem wv {l:List OwnerD} {p:Str} {i:Nat} (h:i < l.length):ep (l.take (i+1)) p=owF p (ep (l.take i) p) l[i]:=by
 unfold ep;rw [List.take_succ_eq_append_getElem h,List.foldl_append]; rfl
theorem je {p:Str} {b y:OwnerD} (h:iA y p=true) (h2:b.path.length < y.path.length):owF p b y=y:=by unfold owF; rw [h]; simp -implicitDefEqProofs [h2]
theorem jg {p:Str} {b y:OwnerD} (h2:y.path.length<=b.path.length):owF p b y=b:=by unfold owF; rw [if_neg]; simp; omega
theorem oW {p:Str} {b y:OwnerD} (h:iA y p=false):owF p b y=b:=by unfold owF; rw [h]; simp
theorem oe {p:Str} {y:OwnerD} (h:y.path=p):iA y p=true:=by unfold iA; simp -implicitDefEqProofs [h]
theorem og {p:Str} {y:OwnerD} (h:inB y.path p=true):iA y p=true:=by unfold iA; simp -implicitDefEqProofs [h]
theorem oh {p:Str} {y:OwnerD} (h:¬ y.path=p) (h2:inB y.path p=false):iA y p=false:=by unfold iA; simp -implicitDefEqProofs [h,h2]
theorem o6 {d p:Str} (h:bI d=true) (h2:bI p=true):gZ d p=inB d p:=by
 rw [<- mA] at h h2;unfold gZ;rw [h,h2,tg]; rfl
def qJ:Con:=.fn 52 (List OwnerD × Str) (fun a=>[.sl true 2 (aT a.1),.str a.2]) (fun a=>a.1.length<=1073741824) (fun a=>.str (ep a.1 a.2).who) (fun _=>[])
theorem FG:Has Tryz.prog 100 qJ:=by
 refine ah mixed bK (HasL.cons oJ HasL.nil) [0,1,4,5,6,7] ((fun a n (_:Nat)=>(fun a _=>⟨Nat,fun i=>⟨[(0,true,.sl true 2 (aT a.1)),(1,true,.str a.2),(4,true,.str []),(5,true,.str (ep (a.1.take i) a.2).who),(6,true,.int .i64 (ep (a.1.take i) a.2).path.length),(7,true,.int .i64 i)],[]⟩,fun i=>i<=a.1.length,fun i=>a.1.length - i⟩) a n)) [] Tryz.func100 (by unfold Tryz.f100; rfl) (fun _=>⟨(),trivial⟩) ?_
 intro a ha;obtain ⟨l,p⟩:=a;replace ha:l.length<=1073741824:=ha;simp -implicitDefEqProofs [qJ,kE,Con.fn,aV,ag]
 try dsimp only
 refine ⟨⟨0,⟨rfl,rfl,rfl⟩,Nat.zero_le _⟩,fun t ht _=>⟨fun hlt=>⟨hlt,fun _=>?_⟩,fun hge=>by rw [List.take_of_length_le hge]⟩⟩
 have q1:Option.map cf l[t]? = some (cf l[t]):=by simp -implicitDefEqProofs [hlt]
 have st:=wv (p:=p) hlt;rw [q1];generalize ep (l.take t) p=b at *;generalize l[t]=y at *;simp -implicitDefEqProofs [cf,D.asStr];exact ⟨fun h=>⟨hlt,fun _ _=>⟨fun hl=>⟨hlt,fun _=>⟨hlt,fun _ _=>⟨⟨by omega,by omega⟩,fun _ _=>⟨t+1,⟨by rw [st,je (oe h) hl],by rw [st,je (oe h) hl],by omega⟩,by omega,by omega⟩⟩⟩⟩,fun hl=>⟨⟨by omega,by omega⟩,fun _ _=>⟨t+1,⟨by rw [st,jg hl],by rw [st,jg hl],by omega⟩,by omega,by omega⟩⟩⟩⟩,fun h=>⟨hlt,fun _=>⟨_,_,⟨rfl,rfl⟩,fun h'=>⟨hlt,fun _ _=>⟨fun hl=>⟨hlt,fun _=>⟨hlt,fun _ _=>⟨⟨by omega,by omega⟩,fun _ _=>⟨t+1,⟨by rw [st,je (og h') hl],by rw [st,je (og h') hl],by omega⟩,by omega,by omega⟩⟩⟩⟩,fun hl=>⟨⟨by omega,by omega⟩,fun _ _=>⟨t+1,⟨by rw [st,jg hl],by rw [st,jg hl],by omega⟩,by omega,by omega⟩⟩⟩⟩,fun h'=>⟨⟨by omega,by omega⟩,fun _ _=>⟨t+1,⟨by rw [st,oW (oh h h')],by rw [st,oW (oh h h')],by omega⟩,by omega,by omega⟩⟩⟩⟩⟩
def rI:Con:=.fn 45 (List OwnerD × Str) (fun a=>[.sl true 2 (aT a.1),.str a.2]) (fun a=>j6 a.1/\el a.1=true/\bI a.2=true) (fun a=>.str (ep a.1 a.2).who) (fun _=>[])
theorem HR:Has Tryz.prog 48 rI:=by
 refine ah mixed bK (HasL.cons zb (HasL.cons o0 (HasL.cons zt HasL.nil))) [0,1,4,5,7,16,17,18] ((fun a n (_:Nat)=>(fun a _=>⟨Nat,fun i=>⟨[(1,true,.str a.2),(4,true,.str []),(5,true,.ptr 10 0),(16,true,.sl true 2 (aT a.1)),(17,true,.int .i64 a.1.length),(18,true,.int .i64 i)],[(10,.box 44 [.str (ep (a.1.take i) a.2).path,.str (ep (a.1.take i) a.2).who])]⟩,fun i=>i<=a.1.length,fun i=>a.1.length - i⟩) a n)) [] Tryz.func48 (by unfold Tryz.f48; rfl) (fun _=>⟨(),trivial⟩) ?_
 intro a ha;obtain ⟨l,p⟩:=a;obtain ⟨h1,h2,h3⟩:j6 l/\el l=true/\bI p=true:=ha;simp -implicitDefEqProofs [rI,nL,kF,nM,Con.fn,aV,ag,mA]
 try dsimp only
 have lp:=Io h3;refine ⟨h1,fun h=>(by rw [h2] at h; cases h),fun _=>⟨by omega,fun h=>(by rw [h3] at h; cases h),fun _ _=>⟨⟨0,⟨rfl,rfl,rfl⟩,Nat.zero_le _⟩,fun t ht=>⟨fun hlt=>⟨hlt,fun _=>?_⟩,fun hge=>by rw [List.take_of_length_le hge]⟩⟩⟩⟩
 have q1:Option.map cf l[t]? = some (cf l[t]):=by simp -implicitDefEqProofs [hlt]
 have st:=wv (p:=p) hlt;have lz:=h1 _ (List.getElem_mem hlt);have ow:=((ms l).1 h2).2 t hlt;rw [ux hlt] at ow;simp only [Bool.and_eq_true] at ow;have ow1:=ow.1.1;clear ow;rw [q1];generalize ep (l.take t) p=b at *;generalize l[t]=y at *;simp -implicitDefEqProofs [cf,D.asStr];exact ⟨fun h=>fun _ _=>⟨fun hl=>⟨⟨by omega,by omega⟩,fun _ _=>⟨t+1,⟨by omega,by rw [st,je (oe h) hl],by rw [st,je (oe h) hl]⟩,by omega,by omega⟩⟩,fun hl=>⟨⟨by omega,by omega⟩,fun _ _=>⟨t+1,⟨by omega,by rw [st,jg hl],by rw [st,jg hl]⟩,by omega,by omega⟩⟩⟩,fun h=>⟨_,_,⟨rfl,rfl⟩,⟨lz,by omega⟩,fun h'=>fun _ _=>⟨fun hl=>⟨⟨by omega,by omega⟩,fun _ _=>⟨t+1,⟨by omega,by rw [st,je (og (by rw [<- o6 ow1 h3]; exact h')) hl],by rw [st,je (og (by rw [<- o6 ow1 h3]; exact h')) hl]⟩,by omega,by omega⟩⟩,fun hl=>⟨⟨by omega,by omega⟩,fun _ _=>⟨t+1,⟨by omega,by rw [st,jg hl],by rw [st,jg hl]⟩,by omega,by omega⟩⟩⟩,fun h'=>⟨⟨by omega,by omega⟩,fun _ _=>⟨t+1,⟨by omega,by rw [st,oW (oh h (by rw [<- o6 ow1 h3]; exact h'))],by rw [st,oW (oh h (by rw [<- o6 ow1 h3]; exact h'))]⟩,by omega,by omega⟩⟩⟩⟩
def eC (v:ReviewD):Bool:=aM v.branch && aM v.into && aM v.by_ && !decide (v.branch=v.into) && decide (v.yes.length<=5) && jc v.yes
def nQ:Con:=.fn 34 ReviewD (fun v=>[iQ v]) (fun v=>v.yes.length<=1073741824) (fun v=>.bool (eC v)) (fun _=>[])
theorem zO:Has Tryz.prog 42 nQ:=by
 refine ah mixed bK (HasL.cons j4 (HasL.cons Hb HasL.nil)) [0,1,2] ((fun a n (_:Nat)=>(fun _=>aw) a n)) [] Tryz.func42 (by unfold Tryz.f42; rfl) (fun _=>⟨(),trivial⟩) ?_
 intro v ha;obtain ⟨b,n,y,l⟩:=v;replace ha:l.length<=1073741824:=ha;simp -implicitDefEqProofs [nQ,iw,rF,Con.fn,aV,ag]
 try dsimp only
 unfold eC;exact ⟨fun h1=>⟨fun h2=>⟨fun h3=>⟨fun h4 _=>⟨fun h5=>⟨ha,by simp -implicitDefEqProofs [h1,h2,h3,h4]; omega⟩,fun h5=>by simp; omega⟩,fun h4=>by simp -implicitDefEqProofs [h4]⟩,fun h=>by simp -implicitDefEqProofs [h]⟩,fun h=>by simp -implicitDefEqProofs [h]⟩,fun h=>by simp -implicitDefEqProofs [h]⟩
abbrev Bl (v:ReviewD):Blk:=.box 38 [.str v.branch,.str v.into,.str v.by_,.sl true 1 (aa v.yes)]
def qG:Con:=.fn 62 ReviewD (fun v=>[iQ v]) (fun v=>v.yes.length<=1073741824) (fun v=>.bool (eC v)) (fun _=>[])
theorem FD:Has Tryz.prog 53 qG:=by
 refine ah mixed bK (HasL.cons i9 HasL.nil) [0,1,2,3] ((fun a n (_:Nat)=>(fun v _=>⟨Nat,fun i=>⟨[(1,true,.ptr 10 0),(2,true,.bool false),(3,true,.int .i64 i)],[(10,Bl v)]⟩,fun i=>i<=v.yes.length /\ ∀ j,j < i->eV v.yes j=true,fun i=>v.yes.length - i⟩) a n)) [] Tryz.func53 (by unfold Tryz.f53; rfl) (fun _=>⟨(),trivial⟩) ?_
 intro v ha;obtain ⟨b,n,y,l⟩:=v;replace ha:l.length<=1073741824:=ha;simp -implicitDefEqProofs [qG,gN,Con.fn,aV,ag]
 try dsimp only
 refine fun t ht hp _=>⟨fun hlt=>⟨hlt,fun _=>?_⟩,fun hge=>?_⟩
 ·have hn:eV l t=false->eC ⟨b,n,y,l⟩=false:=fun h=>by unfold eC; simp -implicitDefEqProofs [yE hlt h]
  have nx:eV l t=true -> ∀ j,j < t+1->eV l j=true:=fun h j hj=>if e:j=t then by rw [e]; exact h else hp j (by omega)
  have q1:Option.map ak l[t]? = some (ak l[t]):=by simp -implicitDefEqProofs [hlt]
  have q2:Option.map ak l[t - 1]? = some (ak l[t - 1]):=by simp -implicitDefEqProofs [show t - 1 < l.length by omega]
  rw [yO hlt] at hn nx;rw [q1,q2];generalize l[t]=y' at *;generalize l[t - 1]=z at *;simp -implicitDefEqProofs [ak,D.asStr];exact ⟨fun h=>⟨fun _=>hn (by simp -implicitDefEqProofs [h]),fun _=>hn (by simp -implicitDefEqProofs [h])⟩,fun h=>⟨fun h0=>⟨hlt,fun _=>⟨⟨by omega,by omega⟩,fun _ _=>⟨⟨by omega,by omega⟩,fun _ _=>⟨fun hb=>hn (by simp -implicitDefEqProofs [yj hb]; omega),fun hb hne=>⟨⟨by omega,by omega⟩,fun _ _=>⟨t+1,by omega,⟨by omega,nx (by simp -implicitDefEqProofs [h,yk hb hne])⟩,by omega⟩⟩⟩⟩⟩⟩,fun h0=>⟨⟨by omega,by omega⟩,fun _ _=>⟨t+1,by omega,⟨by omega,nx (by simp -implicitDefEqProofs [h,h0])⟩,by omega⟩⟩⟩⟩
 ·have hN:jc l=true:=(uo l).2 fun j hj=>hp j (by omega)
  unfold eC;rw [hN];exact ⟨fun h1=>⟨fun h2=>⟨fun h3=>⟨fun h4 _=>by simp -implicitDefEqProofs [h1,h2,h3,h4]; omega,fun h4=>by simp -implicitDefEqProofs [h4]⟩,fun h=>by simp -implicitDefEqProofs [h]⟩,fun h=>by simp -implicitDefEqProofs [h]⟩,fun h=>by simp -implicitDefEqProofs [h]⟩

theorem G2 (a b:List Str) (k:Nat):∀ (i:Nat) (y:Int),(mt a b k)[i]? = some y->0<=y->(k:Int)<=y/\b[(y - k).toNat]? = a[i]?:=by
 fun_induction mt a b k with
 | case1=>intro i y h; simp at h
 | case2 x a k ih =>
  intro i y h hy;cases i with
  | zero=>simp at h; omega
  | succ i =>
   rw [List.getElem?_cons_succ] at h;obtain ⟨h1,h2⟩:=ih i y h hy;exact ⟨h1,by rw [h2,List.getElem?_cons_succ]⟩
 | case3 a y b k ih =>
  intro i z h hz;cases i with
  | zero =>
   simp only [List.getElem?_cons_zero,Option.some.injEq] at h;subst h;exact ⟨Int.le_refl _,by simp⟩
  | succ i =>
   rw [List.getElem?_cons_succ] at h;obtain ⟨h1,h2⟩:=ih i z h hz;refine ⟨by omega,?_⟩
   have e:(z - (k:Int)).toNat=(z - ((k+1:Nat):Int)).toNat+1:=by omega
   rw [e,List.getElem?_cons_succ,h2,List.getElem?_cons_succ]
 | case4 x a y b k h1 h2 ih =>
  intro i z h hz;cases i with
  | zero=>simp at h; omega
  | succ i =>
   rw [List.getElem?_cons_succ] at h;obtain ⟨h1,h2⟩:=ih i z h hz;exact ⟨h1,by rw [h2,List.getElem?_cons_succ]⟩
 | case5 x a y b k h1 h2 ih =>
  intro i z h hz;obtain ⟨h1,h2⟩:=ih i z h hz;refine ⟨by omega,?_⟩
  have e:(z - (k:Int)).toNat=(z - ((k+1:Nat):Int)).toNat+1:=by omega
  rw [e,List.getElem?_cons_succ,h2]
structure SD where
 fr:Nat
 k:Nat
 out:List HunkD
def eo (a b:List Str) (x:Int) (i:Nat) (s:SD):SD :=
 if x < 0 then s else ⟨i+1,x.toNat+1,if s.fr < i \/ (s.k:Int) < x then s.out++[⟨s.fr,(a.take i).drop s.fr,(b.take x.toNat).drop s.k⟩] else s.out⟩
def bJ (a b:List Str):Nat->SD
 | 0=>⟨0,0,[]⟩
 | i+1=>eo a b ((mtE a b).getD i 0) i (bJ a b i)
def gP (a b:List Str):List HunkD:=(bJ a b (a.length+1)).out
def kY:Int->List HunkD->Prop
 | _,[]=>True
 | n,h :: l=>n<=h.at_/\kY (h.at_+h.less.length+1) l
def mi:Int->List HunkD->Int
 | n,[]=>n
 | _,h :: l=>mi (h.at_+h.less.length+1) l
theorem yU {h:HunkD}:∀ {l:List HunkD} {n:Int},kY n l->mi n l<=h.at_->kY n (l++[h])
 | [],n,_,h2=>⟨h2,trivial⟩
 | x :: l,n,h1,h2=>⟨h1.1,yU (l:=l) h1.2 h2⟩
theorem yL {h:HunkD}:∀ {l:List HunkD} {n:Int},mi n (l++[h])=h.at_+h.less.length+1
 | [],_=>rfl
 | _ :: l,_=>yL (l:=l)
structure OkD (a b:List Str) (i:Nat) (s:SD):Prop where
 fr:s.fr<=i
 k:s.k<=b.length+1
 asc:asc s.k (b.length+1) ((mtE a b).drop i)
 ord:kY 0 s.out
 nxt:mi 0 s.out<=s.fr
 lines:∀ h ∈ s.out,(∀ x ∈ h.less,x ∈ a)/\(∀ x ∈ h.more,x ∈ b)/\h.less.length<=a.length/\h.more.length<=b.length/\0<=h.at_/\h.at_<=a.length/\0 < h.less.length+h.more.length
 few:∃ q,s.out.length<=q/\2 * q+s.out.length<=s.fr+s.k
theorem Hy (a b:List Str):OkD a b 0 ⟨0,0,[]⟩:=⟨by simp,by simp,by simpa using um a b,trivial,by simp [mi],by simp,0,by simp,by simp⟩
theorem Hz {a b:List Str} {i:Nat} {s:SD} (hi:i < a.length+1) (h:OkD a b i s):OkD a b (i+1) (eo a b ((mtE a b).getD i 0) i s):=by
 obtain ⟨h1,h2,h3,h4,h5,h6,q,h7,h8⟩:=h;have la:=gU a b;have ga:(mtE a b).getD i 0=(mtE a b)[i]'(by omega):=by simp [List.getD_eq_getElem?_getD,List.getElem?_eq_getElem (show i < (mtE a b).length by omega)]
 rw [ga];have h3:=gI (l:=mtE a b) (by omega) h3
 generalize (mtE a b)[i]'(by omega)=x at *
 unfold eo;split
 ·rename_i hx;rcases h3 with h3 | h3
  ·exact ⟨by omega,h2,h3.2,h4,h5,h6,q,h7,h8⟩
  ·omega
 ·rename_i hx;rcases h3 with h3 | ⟨h3,h31,h32⟩
  ·omega
  have ex:((x.toNat+1:Nat):Int)=x+1:=by omega
  by_cases hc:s.fr < i \/ (s.k:Int) < x
  ·have l1:((a.take i).drop s.fr).length=i - s.fr:=by simp; omega
   have l2:((b.take x.toNat).drop s.k).length=x.toNat - s.k:=by simp; omega
   refine ⟨by simp,by simp only; omega,by simpa only [ex] using h32,?_,?_,?_,q+1,?_,?_⟩
   ·simp only [if_pos hc]; exact yU h4 (by simpa using h5)
   ·simp only [if_pos hc,yL,l1]; omega
   ·simp only [if_pos hc];intro g hg;rcases List.mem_append.1 hg with hg | hg
    ·exact h6 g hg
    ·rw [List.mem_singleton.1 hg];refine ⟨fun y hy=>List.mem_of_mem_take (List.mem_of_mem_drop hy),fun y hy=>List.mem_of_mem_take (List.mem_of_mem_drop hy),?_,?_,by simp,?_,?_⟩
     ·simp only [l1]; omega
     ·simp only [l2]; omega
     ·simp only; omega
     ·simp only [l1,l2]; omega
   ·simp only [if_pos hc,List.length_append,List.length_singleton]; omega
   ·simp only [if_pos hc,List.length_append,List.length_singleton]; omega
  ·refine ⟨by simp,by simp only; omega,by simpa only [ex] using h32,?_,?_,?_,q+1,?_,?_⟩
   ·simp only [if_neg hc]; exact h4
   ·simp only [if_neg hc]; omega
   ·simp only [if_neg hc]; exact h6
   ·simp only [if_neg hc]; omega
   ·simp only [if_neg hc]; omega
theorem mo (a b:List Str):∀ i,i<=a.length+1->OkD a b i (bJ a b i)
 | 0,_=>Hy a b
 | i+1,h=>Hz (by omega) (mo a b i (by omega))
structure DiffOk (d:List HunkD):Prop where
 ord:kY 0 d
 lines:∀ h ∈ d,aD h.less=true/\aD h.more=true/\0 < h.less.length+h.more.length/\0<=h.at_/\h.at_<=10
 few:d.length<=8
theorem Ag {a x:List Str} (h:aD a=true) (h1:∀ y ∈ x,y ∈ a) (h2:x.length<=a.length):aD x=true:=by
 unfold aD at h ⊢;simp only [Bool.and_eq_true,decide_eq_true_eq,List.all_eq_true] at h ⊢;exact ⟨by omega,fun y hy=>h.2 y (h1 y hy)⟩
theorem Dj {a b:List Str} (ha:aD a=true) (hb:aD b=true):DiffOk (gP a b):=by
 obtain ⟨h1,h2,h3,h4,h5,h6,q,h7,h8⟩:=mo a b (a.length+1) (Nat.le_refl _);have la:a.length<=10:=by unfold aD at ha; simp only [Bool.and_eq_true,decide_eq_true_eq] at ha; exact ha.1
 have lb:b.length<=10:=by unfold aD at hb; simp only [Bool.and_eq_true,decide_eq_true_eq] at hb; exact hb.1
 refine ⟨h4,fun h hh=>?_,?_⟩
 ·obtain ⟨g1,g2,g3,g4,g5,g6,g7⟩:=h6 h hh;exact ⟨Ag ha g1 g3,Ag hb g2 g4,g7,g5,by omega⟩
 ·show (bJ a b (a.length+1)).out.length<=8
  omega
theorem wT (a b:List Str):∀ i,i<=a.length+1->(bJ a b i).out=[]->((bJ a b i).fr=i/\(bJ a b i).k=i /\ ∀ j,j < i->(mtE a b).getD j 0=(j:Int)) \/ (bJ a b i).fr < i
 | 0,_,_=>.inl ⟨rfl,rfl,fun j h=>absurd h (by omega)⟩
 | i+1,h,h0=>by
  have ok:=mo a b i (by omega)
  have ih:=wT a b i (by omega)
  have la:=gU a b;have ga:(mtE a b).getD i 0=(mtE a b)[i]'(by omega):=by simp [List.getD_eq_getElem?_getD,List.getElem?_eq_getElem (show i < (mtE a b).length by omega)]
  have h3:=gI (l:=mtE a b) (by omega) ok.asc
  rw [<- ga] at h3;have e:bJ a b (i+1)=eo a b ((mtE a b).getD i 0) i (bJ a b i):=rfl;rw [e] at h0 ⊢;generalize hx:(mtE a b).getD i 0=x at *;generalize bJ a b i=S at *;unfold eo at h0 ⊢;split at h0
  ·rename_i q;rw [if_pos q];rcases ih h0 with ih | ih
   ·exact .inr (by omega)
   ·exact .inr (by omega)
  ·rename_i q;rw [if_neg q];by_cases hc:S.fr < i \/ (S.k:Int) < x
   ·simp only [if_pos hc] at h0;simp at h0
   ·simp only [if_neg hc] at h0;rcases ih h0 with ⟨i1,i2,i3⟩ | ih
    ·refine .inl ⟨rfl,by simp only; omega,fun j hj=>?_⟩
     rcases Nat.lt_or_ge j i with q2 | q2
     ·exact i3 j q2
     ·have:j=i:=by omega
      subst this;rw [hx]; omega
    ·exact absurd (.inl ih) hc
theorem Dk {a b:List Str} (h:¬ a=b):gP a b ≠ []:=by
 intro h0;have k:=wT a b (a.length+1) (Nat.le_refl _) h0;have e:bJ a b (a.length+1)=eo a b ((mtE a b).getD a.length 0) a.length (bJ a b a.length):=rfl;have ml:=iC a b 0;have g:(mtE a b).getD a.length 0=(b.length:Int):=by simp [mtE,List.getD_eq_getElem?_getD,List.getElem?_append,ml]
 have f:(bJ a b (a.length+1)).fr=a.length+1:=by
  rw [e,g];unfold eo;rw [if_neg (by omega)]
 rcases k with ⟨_,_,k⟩ | k
 ·have kl:=k a.length (by omega)
  rw [g] at kl;apply h;apply List.ext_getElem? ;intro j;rcases Nat.lt_or_ge j a.length with q | q
  ·have kj:=k j (by omega)
   have hj:(mt a b 0)[j]? = some (j:Int):=by
    have:(mtE a b).getD j 0=(mt a b 0)[j]'(by omega):=by simp [mtE,List.getD_eq_getElem?_getD,List.getElem?_append,ml,q]
    rw [this] at kj;rw [List.getElem?_eq_getElem (by omega),kj]
   have:=(G2 a b 0 j j hj (by omega)).2
   rw [<- this]
   congr 1
  ·rw [List.getElem?_eq_none q,List.getElem?_eq_none (by omega)]
 ·omega
def aA (l:List ChangeD):List Str:=l.map (·.to_)
def aF (l:List ChangeD):List Str:=(l.filter fun c=>decide (c.kind=4)).map (·.to_)
def cq (a b:List FileD) (x:List Str) (l:List Str):Option FileD:=b.find? fun g=>!(am a g.path).2 && !decide (g.path ∈ l) && decide (g.text=x)
def cV (tos:List ChangeD->List Str) (a b:List FileD) (out:List ChangeD) (f:FileD):List ChangeD :=
 if (am b f.path).2=true then (if (am b f.path).1=f.text then out else out++[⟨3,f.path,[],[],gP f.text (am b f.path).1⟩])
 else match cq a b f.text (tos out) with
  | some g=>out++[⟨4,f.path,g.path,[],[]⟩]
  | none=>out++[⟨2,f.path,[],f.text,[]⟩]
def aN (tos:List ChangeD->List Str) (a b l:List FileD):List ChangeD:=l.foldl (cV tos a b) []
def dV (a:List FileD) (m:List Str) (out:List ChangeD) (g:FileD):List ChangeD:=if (am a g.path).2=true \/ g.path ∈ m then out else out++[⟨1,g.path,[],g.text,[]⟩]
def cK (tos:List ChangeD->List Str) (a b l:List FileD):List ChangeD:=l.foldl (dV a (tos (aN tos a b a))) (aN tos a b a)
def fG (tos:List ChangeD->List Str) (a b:List FileD):List ChangeD:=cK tos a b b
theorem getL_memZ {t:List FileD} {p:Str}:(am t p).2=true ↔ p ∈ t.map (·.path):=by
 induction t with
 | nil=>simp [am]
 | cons f t ih =>
  unfold am;split
  ·rename_i h; simp [h]
  ·rename_i h;rw [ih,List.map_cons,List.mem_cons];exact ⟨.inr,fun q=>q.elim (fun e=>absurd e.symm h) id⟩
theorem sZ {t:List FileD} {p:Str} (h:(am t p).2=true):∃ f ∈ t,f.path=p/\f.text=(am t p).1:=by
 induction t with
 | nil=>simp [am] at h
 | cons f t ih =>
  unfold am at h ⊢;split
  ·rename_i e; exact ⟨f,by simp,e,rfl⟩
  ·rename_i e;rw [if_neg e] at h;obtain ⟨g,h1,h2⟩:=ih h;exact ⟨g,by simp [h1],h2⟩
structure TrOk (t:List FileD):Prop where
 srt:srt (t.map (·.path))
 ok:∀ f ∈ t,bI f.path=true/\aD f.text=true
 ne:∀ f ∈ t,f.path ≠ []
 len:t.length<=8
def Ik (d:List HunkD):Prop:=DiffOk d/\d ≠ []
def mq (c:ChangeD):Prop:=(((c.kind=1 \/ c.kind=2)/\bI c.path=true/\c.to_=[]/\aD c.text=true/\c.patch=[]) \/ (c.kind=3/\bI c.path=true/\c.to_=[]/\c.text=[]/\Ik c.patch)) \/
 (c.kind=4/\bI c.path=true/\bI c.to_=true/\c.to_ ≠ c.path/\c.text=[]/\c.patch=[])
def l8 (l:List ChangeD) (p:Str):Prop:=∀ c ∈ l,c.path ≠ p/\c.to_ ≠ p
def uu (l:List ChangeD) (c:ChangeD):Prop:=mq c/\l8 l c.path/\(c.to_ ≠ []->l8 l c.to_)
inductive OkK:List ChangeD->Prop where
 | nil:OkK []
 | snoc {l c}:OkK l->uu l c->OkK (l++[c])
structure In1 (tos:List ChangeD->List Str) (a b done:List FileD) (out:List ChangeD):Prop where
 ok:OkK out
 path:∀ c ∈ out,c.path ∈ done.map (·.path)
 to_:∀ c ∈ out,c.to_=[] \/ ((am a c.to_).2=false/\c.to_ ∈ tos out)
 mv:∀ c ∈ out,c.kind=4 ↔ c.to_ ≠ []
 len:out.length<=done.length
theorem sV {a b:List FileD} {x:List Str} {l:List Str} {g:FileD} (h:cq a b x l=some g):g ∈ b/\(am a g.path).2=false/\g.path ∉ l/\g.text=x:=by
 have h1:=List.find?_some h;simp only [Bool.and_eq_true,Bool.not_eq_true',decide_eq_true_eq,decide_eq_false_iff_not] at h1;exact ⟨List.mem_of_find?_eq_some h,h1.1.1,h1.1.2,h1.2⟩
def im (tos:List ChangeD->List Str):Prop:=∀ l:List ChangeD,(∀ c ∈ l,c.kind=4 ↔ c.to_ ≠ []) -> ∀ x:Str,x ≠ []->(x ∈ tos l ↔ ∃ c ∈ l,c.to_=x)
theorem iP:im aA:=fun l _ x _=>by simp [aA]
theorem lx:im aF:=fun l h x hx=>by
 unfold aF;simp only [List.mem_map,List.mem_filter,decide_eq_true_eq];constructor
 ·rintro ⟨c,⟨h1,_⟩,h3⟩; exact ⟨c,h1,h3⟩
 ·rintro ⟨c,h1,h3⟩; exact ⟨c,⟨h1,(h c h1).2 (by rw [h3]; exact hx)⟩,h3⟩
theorem s8 {tos:List ChangeD->List Str} (ht:im tos) {a b done:List FileD} {out:List ChangeD} {f:FileD} {c:ChangeD} (h:In1 tos a b done out) (hn:uu out c) (hp:c.path=f.path) (hm:c.kind=4 ↔ c.to_ ≠ []) (hto:c.to_=[] \/ (am a c.to_).2=false):In1 tos a b (done++[f]) (out++[c]):=by
 have hmv:∀ x ∈ out++[c],x.kind=4 ↔ x.to_ ≠ []:=fun x hx=>by
  rcases List.mem_append.1 hx with hx | hx
  ·exact h.mv x hx
  ·rw [List.mem_singleton.1 hx]; exact hm
 refine ⟨.snoc h.ok hn,fun x hx=>?_,fun x hx=>?_,hmv,by have:=h.len; simp; omega⟩
 ·rw [List.map_append,List.mem_append];rcases List.mem_append.1 hx with hx | hx
  ·exact .inl (h.path x hx)
  ·rw [List.mem_singleton.1 hx,hp]; exact .inr (by simp)
 ·by_cases e:x.to_=[]
  ·exact .inl e
  ·refine .inr ⟨?_,(ht _ hmv x.to_ e).2 ⟨x,hx,rfl⟩⟩;rcases List.mem_append.1 hx with hx | hx
   ·exact (h.to_ x hx).elim (fun q=>absurd q e) (fun q=>q.1)
   ·rw [List.mem_singleton.1 hx] at e ⊢;exact hto.elim (fun q=>absurd q e) id
theorem Er {tos:List ChangeD->List Str} {a b done:List FileD} {out:List ChangeD} {f:FileD} (h:In1 tos a b done out):In1 tos a b (done++[f]) out :=
 ⟨h.ok,fun x hx=>(by rw [List.map_append,List.mem_append]; exact .inl (h.path x hx)),h.to_,h.mv,by have:=h.len; simp; omega⟩
theorem tc {tos:List ChangeD->List Str} (ht:im tos) {a b done rest:List FileD} {out:List ChangeD} {f:FileD} (ha:TrOk a) (hb:TrOk b) (e:a=done++f :: rest) (h:In1 tos a b done out):In1 tos a b (done++[f]) (cV tos a b out f):=by
 have hfa:f ∈ a:=by rw [e]; simp
 obtain ⟨k1,k2⟩:=ha.ok f hfa;have k3:=ha.ne f hfa;have hfm:(am a f.path).2=true:=getL_memZ.2 (List.mem_map.2 ⟨f,hfa,rfl⟩)
 -- nothing ahead names its path
 have hfree:l8 out f.path:=fun c hc=>by
  refine ⟨fun q=>?_,fun q=>?_⟩
  ·have h1:=h.path c hc;rw [q] at h1;have hs:=ha.srt;rw [e,List.map_append,List.map_cons] at hs;have:=(List.pairwise_append.1 hs).2.2 _ h1 f.path (by simp)
   exact absurd this (by simp)
  ·rcases h.to_ c hc with h1 | h1
   ·rw [q] at h1; exact k3 h1
   ·rw [q,hfm] at h1; cases h1.1
 unfold cV;split
 ·rename_i hb1;split
  ·exact Er h
  ·rename_i hne;obtain ⟨g,g1,g2,g3⟩:=sZ hb1;refine s8 ht h ⟨.inl (.inr ⟨rfl,k1,rfl,rfl,?_,?_⟩),hfree,fun q=>absurd rfl q⟩ rfl (by simp) (.inl rfl)
   ·rw [<- g3]; exact Dj k2 (hb.ok g g1).2
   ·exact Dk fun q=>hne q.symm
 ·split
  ·rename_i hb1 g hg;obtain ⟨q1,q2,q3,q4⟩:=sV hg;have q5:=hb.ne g q1;refine s8 ht h ⟨.inr ⟨rfl,k1,(hb.ok g q1).1,fun q=>?_,rfl,rfl⟩,hfree,fun _ c hc=>⟨fun q=>?_,fun q=>?_⟩⟩ rfl (by simp [q5]) (.inr q2)
   ·simp only at q; rw [q,hfm] at q2; cases q2
   ·simp only at q;have h1:=h.path c hc;have:(am a g.path).2=true:=getL_memZ.2 (by rw [e,List.map_append,List.mem_append,<- q]; exact .inl h1)
    rw [this] at q2; cases q2
   ·simp only at q;exact q3 ((ht _ h.mv g.path q5).2 ⟨c,hc,q⟩)
  ·exact s8 ht h ⟨.inl (.inl ⟨.inr rfl,k1,rfl,k2,rfl⟩),hfree,fun q=>absurd rfl q⟩ rfl (by simp) (.inl rfl)
theorem xF {tos:List ChangeD->List Str} (ht:im tos) {a b:List FileD} (ha:TrOk a) (hb:TrOk b):∀ (rest done:List FileD) (out:List ChangeD),a=done++rest->In1 tos a b done out->In1 tos a b a (rest.foldl (cV tos a b) out)
 | [],done,out,e,h=>by rw [List.append_nil] at e; rw [List.foldl_nil,<- e] at *; exact h
 | f :: rest,done,out,e,h=>by
  rw [List.foldl_cons];exact xF ht ha hb rest (done++[f]) _ (by rw [e]; simp) (tc ht ha hb e h)
theorem ma {tos:List ChangeD->List Str} (ht:im tos) {a b:List FileD} (ha:TrOk a) (hb:TrOk b):In1 tos a b a (aN tos a b a) :=
 xF ht ha hb a [] [] rfl ⟨.nil,by simp,by simp,by simp,by simp⟩
structure In2 (a:List FileD) (m:List Str) (done:List FileD) (out:List ChangeD):Prop where
 ok:OkK out
 path:∀ c ∈ out,c.path ∈ a.map (·.path) \/ c.path ∈ done.map (·.path)
 to_:∀ c ∈ out,c.to_=[] \/ c.to_ ∈ m
 len:out.length<=a.length+done.length
theorem xH {a b done rest:List FileD} {m:List Str} {out:List ChangeD} {g:FileD} (hb:TrOk b) (e:b=done++g :: rest) (h:In2 a m done out):In2 a m (done++[g]) (dV a m out g):=by
 have hgb:g ∈ b:=by rw [e]; simp
 obtain ⟨k1,k2⟩:=hb.ok g hgb;have k3:=hb.ne g hgb;unfold dV;split
 ·exact ⟨h.ok,fun x hx=>(h.path x hx).imp id fun q=>(by rw [List.map_append,List.mem_append]; exact .inl q),h.to_,by have:=h.len; simp; omega⟩
 ·rename_i hn;have n1:(am a g.path).2=false:=by
   cases q:(am a g.path).2 with
   | true=>exact absurd (.inl q) hn
   | false=>rfl
  refine ⟨.snoc h.ok ⟨.inl (.inl ⟨.inl rfl,k1,rfl,k2,rfl⟩),fun c hc=>⟨fun q=>?_,fun q=>?_⟩,fun q=>absurd rfl q⟩,fun x hx=>?_,fun x hx=>?_,by have:=h.len; simp; omega⟩
  ·simp only at q;rcases h.path c hc with h1 | h1
   ·rw [q] at h1; rw [getL_memZ.2 h1] at n1; cases n1
   ·rw [q] at h1;have hs:=hb.srt;rw [e,List.map_append,List.map_cons] at hs;have:=(List.pairwise_append.1 hs).2.2 _ h1 g.path (by simp)
    exact absurd this (by simp)
  ·simp only at q;rcases h.to_ c hc with h1 | h1
   ·rw [q] at h1; exact k3 h1
   ·rw [q] at h1; exact hn (.inr h1)
  ·rw [List.map_append,List.mem_append];rcases List.mem_append.1 hx with hx | hx
   ·exact (h.path x hx).imp id .inl
   ·rw [List.mem_singleton.1 hx]; exact .inr (.inr (by simp))
  ·rcases List.mem_append.1 hx with hx | hx
   ·exact h.to_ x hx
   ·rw [List.mem_singleton.1 hx]; exact .inl rfl
theorem xG {a b:List FileD} {m:List Str} (hb:TrOk b):∀ (rest done:List FileD) (out:List ChangeD),b=done++rest->In2 a m done out->In2 a m b (rest.foldl (dV a m) out)
 | [],done,out,e,h=>by rw [List.append_nil] at e; rw [List.foldl_nil,<- e] at *; exact h
 | f :: rest,done,out,e,h=>by
  rw [List.foldl_cons];exact xG hb rest (done++[f]) _ (by rw [e]; simp) (xH hb e h)
theorem sC {tos:List ChangeD->List Str} (ht:im tos) {a b:List FileD} (ha:TrOk a) (hb:TrOk b):OkK (fG tos a b)/\(fG tos a b).length<=16:=by
 have h1:=ma ht ha hb;have h2:In2 a (tos (aN tos a b a)) b (fG tos a b):=xG hb b [] _ rfl ⟨h1.ok,fun c hc=>.inl (h1.path c hc),fun c hc=>(h1.to_ c hc).imp id fun q=>q.2,by have:=h1.len; simp; omega⟩
 exact ⟨h2.ok,by have:=h2.len; have:=ha.len; have:=hb.len; omega⟩
theorem find_congr {α:Type} {p q:α -> Bool}:∀ {l:List α},(∀ x ∈ l,p x=q x)->l.find? p=l.find? q
 | [],_=>rfl
 | x :: l,h=>by rw [List.find?_cons,List.find?_cons,h x (by simp),find_congr fun y hy=>h y (by simp [hy])]
theorem xi {α β:Type} {f g:β -> α -> β}:∀ {l:List α} {o:β},(∀ x ∈ l,∀ o,f o x=g o x)->l.foldl f o=l.foldl g o
 | [],_,_=>rfl
 | x :: l,o,h=>by rw [List.foldl_cons,List.foldl_cons,h x (by simp),xi fun y hy=>h y (by simp [hy])]
theorem yR {a b:List FileD} (ha:TrOk a) (hb:TrOk b):∀ (rest done:List FileD) (out:List ChangeD),a=done++rest->In1 aA a b done out->rest.foldl (cV aA a b) out=rest.foldl (cV aF a b) out
 | [],_,_,_,_=>rfl
 | f :: rest,done,out,e,h=>by
  have hf:cq a b f.text (aA out)=cq a b f.text (aF out):=by
   unfold cq;refine find_congr ?_;intro g hg;have h1:=iP _ h.mv g.path (hb.ne g hg);have h2:=lx _ h.mv g.path (hb.ne g hg);have:(decide (g.path ∈ aA out))=decide (g.path ∈ aF out):=by rw [decide_eq_decide,h1,h2]
   rw [this]
  have hs:cV aA a b out f=cV aF a b out f:=by unfold cV; rw [hf]
  rw [List.foldl_cons,List.foldl_cons,<- hs];exact yR ha hb rest (done++[f]) _ (by rw [e]; simp) (tc iP ha hb e h)
theorem CH {a b:List FileD} (ha:TrOk a) (hb:TrOk b):fG aA a b=fG aF a b:=by
 have e:aN aA a b a=aN aF a b a:=yR ha hb a [] [] rfl ⟨.nil,by simp,by simp,by simp,by simp⟩
 have h1:=ma iP ha hb;unfold fG cK;rw [<- e];refine xi fun g hg o=>?_;have q1:=iP _ h1.mv g.path (hb.ne g hg);have q2:=lx _ h1.mv g.path (hb.ne g hg);unfold dV;by_cases q:g.path ∈ aA (aN aA a b a)
 ·rw [if_pos (.inr q),if_pos (.inr (q2.2 (q1.1 q)))]
 ·have q':¬ g.path ∈ aF (aN aA a b a):=fun z=>q (q1.2 (q2.1 z));by_cases z:(am a g.path).2=true
  ·rw [if_pos (.inl z),if_pos (.inl z)]
  ·rw [if_neg (fun y=>y.elim z q),if_neg (fun y=>y.elim z q')]
def fU (c:ChangeD):List Str:=if c.to_=[] then [c.path] else [c.path,c.to_]
def dy (l:List ChangeD):List Str:=l.flatMap fU
def eF (l:List ChangeD):List Str:=l.flatMap fun c=>if c.kind=4 then [c.path,c.to_] else [c.path]
theorem zu {p:Str} (h:bI p=true):p ≠ []:=by
 rintro rfl;revert h; decide
theorem HD {c:ChangeD} (h:mq c):c.kind=4 ↔ c.to_ ≠ []:=by
 rcases h with (⟨h1,_,h3,_⟩ | ⟨h1,_,h3,_⟩) | ⟨h1,_,h3,_⟩
 ·rw [h3]; constructor
  ·intro h; omega
  ·intro h; exact absurd rfl h
 ·rw [h3]; constructor
  ·intro h; omega
  ·intro h; exact absurd rfl h
 ·exact ⟨fun _=>zu h3,fun _=>h1⟩
theorem yN {l:List ChangeD} (h:OkK l):∀ c ∈ l,mq c:=by
 induction h with
 | nil=>simp
 | snoc _ h2 ih =>
  intro c hc;rcases List.mem_append.1 hc with hc | hc
  ·exact ih c hc
  ·rw [List.mem_singleton.1 hc]; exact h2.1
theorem KM {l:List ChangeD} (h:OkK l):eF l=dy l:=by
 unfold eF dy;have hk:=yN h;clear h
 induction l with
 | nil=>rfl
 | cons c l ih =>
  rw [List.flatMap_cons,List.flatMap_cons,ih fun x hx=>hk x (by simp [hx])]
  have:=HD (hk c (by simp))
  unfold fU;by_cases q:c.kind=4
  ·rw [if_pos q,if_neg (this.1 q)]
  ·rw [if_neg q,if_pos (by
    rcases Classical.em (c.to_=[]) with z | z
    ·exact z
    ·exact absurd (this.2 z) q)]
theorem Af {l:List ChangeD} {x:Str} (h:x ∈ dy l):∃ c ∈ l,x=c.path \/ (x=c.to_/\c.to_ ≠ []):=by
 obtain ⟨c,hc,h⟩:=List.mem_flatMap.1 h;unfold fU at h;split at h
 ·exact ⟨c,hc,.inl (by simpa using h)⟩
 ·rename_i q;simp only [List.mem_cons,List.not_mem_nil,or_false] at h;exact ⟨c,hc,h.imp id fun e=>⟨e,q⟩⟩
theorem KN {l:List ChangeD} (h:OkK l):(dy l).Nodup:=by
 induction h with
 | nil=>simp [dy]
 | @snoc l c h1 h2 ih =>
  obtain ⟨k1,k2,k3⟩:=h2;have e:dy (l++[c])=dy l++fU c:=by simp [dy]
  rw [e,List.nodup_append];refine ⟨ih,?_,fun x hx y hy=>?_⟩
  ·unfold fU;split
   ·simp
   ·rename_i q;rcases k1 with (⟨_,_,h3,_⟩ | ⟨_,_,h3,_⟩) | ⟨_,_,_,h4,_⟩
    ·exact absurd h3 q
    ·exact absurd h3 q
    ·simp [Ne.symm h4]
  ·obtain ⟨d,hd,hx⟩:=Af hx;have h0:y=c.path \/ (y=c.to_/\c.to_ ≠ []):=by
    unfold fU at hy;split at hy
    ·exact .inl (by simpa using hy)
    ·rename_i q;simp only [List.mem_cons,List.not_mem_nil,or_false] at hy;exact hy.imp id fun e=>⟨e,q⟩
   rintro rfl;rcases h0 with e | ⟨e,q⟩
   ·rcases hx with h | ⟨h,_⟩
    ·exact (k2 d hd).1 (by rw [<- h,e])
    ·exact (k2 d hd).2 (by rw [<- h,e])
   ·rcases hx with h | ⟨h,_⟩
    ·exact (k3 q d hd).1 (by rw [<- h,e])
    ·exact (k3 q d hd).2 (by rw [<- h,e])
theorem uL:∀ (xs:List Str) {l:List Str},srt l->srt (xs.foldl aS l) /\ ∀ x,x ∈ xs.foldl aS l ↔ x ∈ l \/ x ∈ xs
 | [],l,h=>⟨h,fun x=>by simp⟩
 | y :: xs,l,h=>by
  obtain ⟨h1,h2⟩:=uL xs (pd h y);refine ⟨h1,fun x=>?_⟩;rw [List.foldl_cons,h2,mG,List.mem_cons];constructor
  ·rintro ((q | q) | q)
   ·exact .inr (.inl q)
   ·exact .inl q
   ·exact .inr (.inr q)
  ·rintro (q | q | q)
   ·exact .inl (.inr q)
   ·exact .inl (.inl q)
   ·exact .inr q
theorem Kd {l:List Str} (h:l.Nodup):srt (ck l):=by
 have h1:=zZ l;have h2:(ck l).Nodup:=(List.mergeSort_perm l _).nodup_iff.2 h;refine (h1.and h2).imp fun {a b} q=>va q.1 q.2
theorem Is {l:List ChangeD} (h:OkK l):(dy l).foldl aS []=ck (eF l):=by
 rw [KM h];obtain ⟨h1,h2⟩:=uL (dy l) (l:=[]) .nil;refine mO h1 (Kd (KN h)) fun x=>?_;rw [h2,uY];simp
theorem ik {t:List FileD} (h:aH t=true):TrOk t:=by
 have h0:=h;unfold aH at h;simp only [Bool.and_eq_true,decide_eq_true_eq,List.all_eq_true,List.mem_range] at h;have hk:∀ f ∈ t,bI f.path=true/\aD f.text=true:=fun f hf=>by
  obtain ⟨i,hi,rfl⟩:=List.getElem_of_mem hf;have:=(h.1 i hi).1;unfold eS at this;rw [show t.getD i default=t[i] by simp [List.getD_eq_getElem?_getD,hi]] at this
  simp only [Bool.and_eq_true] at this;exact this.1
 exact ⟨List.pairwise_map.2 (Le (by rw [fW]; exact h0)),hk,fun f hf=>zu (hk f hf).1,h.2⟩
--TAB aV
theorem yT:∀ {d:List HunkD} {n:Int} {t:Nat} (h:t+1 < d.length),kY n d->(d[t]'(by omega)).at_+(d[t]'(by omega)).less.length+1<=d[t+1].at_
 | [],_,_,h,_=>by simp at h
 | [_],_,_,h,_=>by simp at h
 | x :: y :: l,n,0,h,ho=>ho.2.1
 | x :: y :: l,n,t+1,h,ho=>yT (d:=y :: l) (by simpa using h) ho.2
theorem HA {l:List ChangeD} (h:OkK l):∀ t (ht:t < l.length),uu (l.take t) l[t]:=by
 induction h with
 | nil=>intro t ht; simp at ht
 | @snoc l c h1 h2 ih =>
  intro t ht;rcases Nat.lt_or_ge t l.length with q | q
  ·rw [List.getElem_append_left q,List.take_append_of_le_length (by omega)]
   exact ih t q
  ·have:t=l.length:=by rw [List.length_append,List.length_singleton] at ht; omega
   subst this
   simpa using h2
def qT:Con:=.fn 80 (List HunkD) (fun d=>[.sl true 3 (co d)]) DiffOk (fun _=>.bool true) (fun _=>[])
theorem FW:Has Tryz.prog 285 qT:=by
 refine ah mixed bK (HasL.cons mc (HasL.cons i7 HasL.nil)) [0,2,3] ((fun a n (_:Nat)=>(fun d _=>⟨Nat,fun i=>⟨[(0,true,.sl true 3 (co d)),(2,true,.bool false),(3,true,.int .i64 i)],[]⟩,fun i=>i<=d.length,fun i=>d.length - i⟩) a n)) [] Tryz.func285 (by unfold Tryz.f285; rfl) (fun _=>⟨(),trivial⟩) ?_
 intro (d:List HunkD) ha;replace ha:DiffOk d:=ha;simp -implicitDefEqProofs [qT,jM,gM,Con.fn,aV,ag]
 try dsimp only
 refine fun t ht _=>⟨fun hlt=>⟨hlt,fun _=>?_⟩,fun _ _=>by have:=ha.few; omega⟩
 have q1:Option.map fI d[t]? = some (fI d[t]):=by simp -implicitDefEqProofs [hlt]
 have q2:Option.map fI d[t - 1]? = some (fI d[t - 1]):=by simp -implicitDefEqProofs [show t - 1 < d.length by omega]
 obtain ⟨k1,k2,k3,k4,k5⟩:=ha.lines _ (List.getElem_mem hlt);have k6:0 < t->d[t - 1].at_+d[t - 1].less.length+1<=d[t].at_:=fun h0=>by
  have:=yT (d:=d) (t:=t - 1) (by omega) ha.ord
  simpa only [show t - 1+1=t by omega] using this
 obtain ⟨m1,m2,m3,m4,m5⟩:=ha.lines _ (List.getElem_mem (show t - 1 < d.length by omega))
 have m6:d[t - 1].less.length<=10:=by unfold aD at m1; simp only [Bool.and_eq_true,decide_eq_true_eq] at m1; exact m1.1
 have k7:d[t].less.length<=10:=by unfold aD at k1; simp only [Bool.and_eq_true,decide_eq_true_eq] at k1; exact k1.1
 have k8:d[t].more.length<=10:=by unfold aD at k2; simp only [Bool.and_eq_true,decide_eq_true_eq] at k2; exact k2.1
 rw [q1,q2];generalize d[t]=y at *;generalize d[t - 1]=z at *;simp -implicitDefEqProofs [fI,D.asStr,D.asInt,D.asRows];exact ⟨k1,fun _=>⟨hlt,fun _=>⟨k2,fun _=>⟨hlt,fun _=>⟨hlt,fun _=>⟨⟨by omega,by omega⟩,fun _ _=>⟨by omega,fun _=>⟨hlt,fun _=>⟨_,_,_,⟨rfl,rfl,rfl⟩,⟨k4,k5⟩,fun _ _=>⟨fun h0=>⟨hlt,fun _=>⟨⟨by omega,by omega⟩,fun _ _=>⟨⟨by omega,by omega⟩,fun _ _=>⟨⟨by omega,by omega⟩,fun _ _=>⟨⟨by omega,by omega⟩,fun _ _=>⟨⟨by omega,by omega⟩,fun _ _=>⟨by have:=k6 h0; omega,fun _=>⟨⟨by omega,by omega⟩,fun _ _=>⟨t+1,by omega,by omega,by omega⟩⟩⟩⟩⟩⟩⟩⟩⟩,fun _=>⟨⟨by omega,by omega⟩,fun _ _=>⟨t+1,by omega,by omega,by omega⟩⟩⟩⟩⟩⟩⟩⟩⟩⟩⟩⟩
def re:Con:=.fn 83 ChangeD (fun c=>[Lu c]) mq (fun _=>.bool true) (fun _=>[])
theorem Gd:Has Tryz.prog 258 re:=by
 refine ah mixed bK (HasL.cons me (HasL.cons mc (HasL.cons FW HasL.nil))) [0,1,2,4,5] ((fun a n (_:Nat)=>(fun _=>aw) a n)) [] Tryz.func258 (by unfold Tryz.f258; rfl) (fun _=>⟨(),trivial⟩) ?_
 intro c ha;obtain ⟨k,p,q,x,d⟩:=c;replace ha:mq ⟨k,p,q,x,d⟩:=ha;simp -implicitDefEqProofs [re,jO,jM,qT,Con.fn,aV,ag]
 try dsimp only
 rcases ha with (⟨h1,h2,h3,h4,h5⟩ | ⟨h1,h2,h3,h4,h5,h6⟩) | ⟨h1,h2,h3,h4,h5,h6⟩
 ·simp only at h1 h2 h3 h4 h5;subst h3 h5;rcases h1 with rfl | rfl <;> simp -implicitDefEqProofs [h2,h4]
 ·simp only at h1 h2 h3 h4 h5 h6;subst h1 h3 h4;simp -implicitDefEqProofs [h2,h6]; exact fun _ _=>h5
 ·simp only at h1 h2 h3 h4 h5 h6;subst h1 h5 h6;simp -implicitDefEqProofs [h2,h3,h4]
def qY:Con:=.fn 28 (List ChangeD × Str) (fun a=>[.sl true 5 (aR a.1),.str a.2]) (fun a=>l8 a.1 a.2) (fun _=>.bool true) (fun _=>[])
theorem F7:Has Tryz.prog 259 qY:=by
 refine ah mixed bK HasL.nil [0,1,4,5] ((fun a n (_:Nat)=>(fun a _=>⟨Nat,fun i=>⟨[(0,true,.sl true 5 (aR a.1)),(1,true,.str a.2),(4,true,.bool false),(5,true,.int .i64 i)],[]⟩,fun i=>i<=a.1.length,fun i=>a.1.length - i⟩) a n)) [] Tryz.func259 (by unfold Tryz.f259; rfl) (fun _=>⟨(),trivial⟩) ?_
 intro a ha;obtain ⟨l,p⟩:=a;replace ha:l8 l p:=ha;simp -implicitDefEqProofs [qY,Con.fn,aV,ag]
 try dsimp only
 refine fun t ht _ hlt=>⟨hlt,fun _=>?_⟩;have q1:Option.map cL l[t]? = some (cL l[t]):=by simp -implicitDefEqProofs [hlt]
 have k:=ha _ (List.getElem_mem hlt);rw [q1];generalize l[t]=y at *;simp -implicitDefEqProofs [cL,D.asStr];exact ⟨k.1,fun _=>⟨hlt,fun _=>⟨k.2,fun _=>⟨⟨by omega,by omega⟩,fun _ _=>⟨t+1,by omega,by omega,by omega⟩⟩⟩⟩⟩
def mp (l:List ChangeD):Prop:=OkK l/\l.length<=16
def q9:Con:=.fn 51 (List ChangeD) (fun l=>[.sl true 5 (aR l)]) mp (fun _=>.bool true) (fun _=>[])
theorem F9:Has Tryz.prog 221 q9:=by
 refine ah mixed bK (HasL.cons Gd (HasL.cons F7 HasL.nil)) [0,2,3] ((fun a n (_:Nat)=>(fun l _=>⟨Nat,fun i=>⟨[(0,true,.sl true 5 (aR l)),(2,true,.bool false),(3,true,.int .i64 i)],[]⟩,fun i=>i<=l.length,fun i=>l.length - i⟩) a n)) [] Tryz.func221 (by unfold Tryz.f221; rfl) (fun _=>⟨(),trivial⟩) ?_
 intro (l:List ChangeD) ha;replace ha:mp l:=ha;simp -implicitDefEqProofs [q9,re,qY,Con.fn,aV,ag]
 try dsimp only
 refine fun t ht _=>⟨fun hlt=>⟨hlt,fun _=>?_⟩,fun _ _=>by have:=ha.2; omega⟩
 have q1:Option.map cL l[t]? = some (cL l[t]):=by simp -implicitDefEqProofs [hlt]
 obtain ⟨k1,k2,k3⟩:=HA ha.1 t hlt;rw [q1,Dr];generalize l[t]=y at *;simp -implicitDefEqProofs [cL,D.asStr,D.asInt,D.asRows];exact ⟨k1,ht,fun _=>⟨hlt,fun _=>⟨_,_,⟨rfl,rfl⟩,k2,hlt,fun _=>⟨fun hne=>⟨ht,fun _=>⟨hlt,fun _=>⟨_,_,⟨rfl,rfl⟩,k3 hne,⟨⟨by omega,by omega⟩,fun _ _=>⟨t+1,by omega,by omega,by omega⟩⟩⟩⟩⟩,fun _=>⟨⟨by omega,by omega⟩,fun _ _=>⟨t+1,by omega,by omega,by omega⟩⟩⟩⟩⟩⟩
theorem KK {l:List ChangeD} {i:Nat} (h:i < l.length):dy (l.take (i+1))=dy (l.take i)++fU l[i]:=by
 unfold dy;rw [List.take_succ_eq_append_getElem h,List.flatMap_append]; simp
def iG (l:List ChangeD):List Str:=(dy l).foldl aS []
theorem IQ {l:List ChangeD} {i:Nat} (h:i < l.length):iG (l.take (i+1))=(fU l[i]).foldl aS (iG (l.take i)):=by unfold iG; rw [KK h,List.foldl_append]
theorem KJ (l:List ChangeD):(dy l).length<=2 * l.length:=by
 unfold dy
 induction l with
 | nil=>simp
 | cons c l ih =>
  rw [List.flatMap_cons,List.length_append,List.length_cons];have:(fU c).length<=2:=by unfold fU; split <;> simp
  omega
theorem I3 (xs l:List Str):(xs.foldl aS l).length<=l.length+xs.length:=by
 induction xs generalizing l with
 | nil=>simp
 | cons x xs ih =>
  rw [List.foldl_cons];have:=ih (aS l x);have:=pc l x;simp only [List.length_cons];omega
theorem zC (l:List ChangeD):(iG l).length<=2 * l.length:=by
 have:=I3 (dy l) [];have:=KJ l;unfold iG;simp only [List.length_nil] at *;omega
def qn:Con:=.fn 36 (List ChangeD) (fun l=>[.sl true 5 (aR l)]) mp (fun l=>.sl false 1 (aa (iG l))) (fun _=>[])
theorem CF:Has Tryz.prog 173 qn:=by
 refine ah mixed bK (HasL.cons F9 (HasL.cons tR HasL.nil)) [0,2,3,4] ((fun a n (_:Nat)=>(fun l _=>⟨Nat,fun i=>⟨[(0,true,.sl true 5 (aR l)),(2,true,.nil),(3,true,.sl false 1 (aa (iG (l.take i)))),(4,true,.int .i64 i)],[]⟩,fun i=>i<=l.length,fun i=>l.length - i⟩) a n)) [] Tryz.func173 (by unfold Tryz.f173; rfl) (fun _=>⟨(),trivial⟩) ?_
 intro (l:List ChangeD) ha;replace ha:mp l:=ha;simp -implicitDefEqProofs [qn,q9,lL,Con.fn,aV,ag]
 try dsimp only
 refine ⟨ha,⟨0,⟨rfl,rfl⟩,Nat.zero_le _⟩,fun t ht _=>⟨fun hlt=>⟨hlt,fun _=>?_⟩,fun hge=>by rw [List.take_of_length_le hge]⟩⟩
 have q1:Option.map cL l[t]? = some (cL l[t]):=by simp -implicitDefEqProofs [hlt]
 have st:=IQ hlt;have k1:=zC (l.take t);have k0:=ha.2;rw [List.length_take] at k1;rw [q1];generalize iG (l.take t)=O at *;generalize l[t]=y at *;simp -implicitDefEqProofs [cL,D.asStr];have k2:=pc O y.path;refine ⟨_,_,⟨rfl,rfl⟩,by omega,hlt,fun _=>⟨fun hne=>⟨hlt,fun _=>⟨_,_,⟨rfl,rfl⟩,by omega,⟨by omega,by omega⟩,fun _ _=>⟨t+1,⟨by rw [st]; unfold fU; rw [if_neg hne]; rfl,by omega⟩,by omega,by omega⟩⟩⟩,fun he=>⟨⟨by omega,by omega⟩,fun _ _=>⟨t+1,⟨by rw [st]; unfold fU; rw [if_pos he]; rfl,by omega⟩,by omega,by omega⟩⟩⟩⟩
--TAB aV
theorem yx (o a:List Str):aj (mt o a 0)++[[D.int .i64 (a.length:Int)]]=aj (mtE o a):=by simp -implicitDefEqProofs [mtE,aj,aq]
def xY (a b:List Str):Inv:=⟨Nat,fun i=>⟨[(0,true,.sl true 1 (aa a)),(1,true,.sl true 1 (aa b)),(4,true,.nil),(5,true,.own 9 3 (co (bJ a b i).out)),(6,true,.own 10 1 (aj (mtE a b))),(7,true,.int .i64 (bJ a b i).fr),(8,true,.int .i64 (bJ a b i).k),(9,true,.int .i64 i)],[(9,.own 176 3 true (co (bJ a b i).out)),(10,.own 3 1 true (aj (mtE a b)))]⟩,fun i=>i<=a.length+1,fun i=>a.length+1 - i⟩
def qR:Con:=.fn 68 (List Str × List Str) (fun a=>[.sl true 1 (aa a.1),.sl true 1 (aa a.2)]) (fun a=>a.1.length<=100000/\a.2.length<=100000) (fun a=>.own 8 3 (co (gP a.1 a.2))) (fun a=>y8 8 (gP a.1 a.2))
theorem FQ:Has Tryz.prog 223 qR:=by
 refine ah mixed bK (HasL.cons xX HasL.nil) [0,1,4,5,6,7,8,9] ((fun a n (_:Nat)=>(fun a _=>xY a.1 a.2) a n)) [58] Tryz.func223 (by unfold Tryz.f223; rfl) (fun _=>⟨(),trivial⟩) ?_
 intro a ha;obtain ⟨a,b⟩:=a;obtain ⟨h1,h2⟩:a.length<=100000/\b.length<=100000:=ha;simp (maxSteps:=8000000) -implicitDefEqProofs [qR,nz,Con.fn,aV,ag,xY]
 try dsimp only
 have ea:=yx a b;have la:=gU a b;have m1:=iC a b 0;refine ⟨a,b,⟨rfl,rfl⟩,⟨by omega,by omega⟩,fun _=>⟨⟨by omega,by omega⟩,⟨0,⟨⟨rfl,ea.symm,rfl,rfl,rfl⟩,rfl,ea⟩,Nat.zero_le _⟩,fun t ht hla=>⟨fun hlt=>?_,fun hge=>?_⟩⟩⟩
 ·have ok:=mo a b t ht;have st:bJ a b (t+1)=eo a b ((mtE a b).getD t 0) t (bJ a b t):=rfl;obtain ⟨k1,k2,k3,k4,k5,k6,k7⟩:=ok;have ga:(mtE a b).getD t 0=(mtE a b)[t]'(by omega):=by simp -implicitDefEqProofs [List.getD_eq_getElem?_getD,List.getElem?_eq_getElem (show t < (mtE a b).length by omega)]
  have k3:=gI (l:=mtE a b) (by omega) k3
  have oa:(mtE a b)[t]? = some ((mtE a b)[t]'(by omega)):=List.getElem?_eq_getElem (by omega)
  rw [ga] at st;rw [oa];generalize (mtE a b)[t]'(by omega)=x at *
  generalize bJ a b t=S at *;obtain ⟨fr,k,out⟩:=S;simp only at k1 k2 k3 k4 k5 k6 k7;have p1:(List.take (t - fr) (List.drop fr a))=(a.take t).drop fr:=(List.drop_take).symm;have p2:(List.take (x.toNat - k) (List.drop k b))=(b.take x.toNat).drop k:=(List.drop_take).symm;simp -implicitDefEqProofs [aq,D.asInt,hlt,bj,bp,p1,p2];have hf:∀ l:List Str,∀ x ∈ aa l,∀ d ∈ x,fL d:=fun l=>of_eq_true (eStrs_flat l);have key:0<=x->(k:Int)<=x/\x<=b.length:=fun h=>by rcases k3 with k3 | k3 <;> omega
  obtain ⟨q,q1,q2⟩:=k7;have skip:x < 0->bJ a b (t+1)=⟨fr,k,out⟩:=fun h=>by rw [st]; unfold eo; rw [if_pos h]
  have st2:0<=x->(fr < t \/ (k:Int) < x)->bJ a b (t+1)=⟨t+1,x.toNat+1,out++[⟨fr,(a.take t).drop fr,(b.take x.toNat).drop k⟩]⟩:=fun h h'=>by rw [st]; unfold eo; rw [if_neg (by omega)]; simp only [if_pos h']
  have st3:0<=x -> ¬ (fr < t \/ (k:Int) < x)->bJ a b (t+1)=⟨t+1,x.toNat+1,out⟩:=fun h h'=>by rw [st]; unfold eo; rw [if_neg (by omega)]; simp only [if_neg h']
  have sn:=wZ out fr ((a.take t).drop fr) ((b.take x.toNat).drop k);refine ⟨fun hx=>⟨⟨by omega,by omega⟩,fun _ _=>⟨t+1,by rw [skip hx]; exact ⟨⟨⟨rfl,rfl,rfl,by omega⟩,rfl⟩,by omega,by omega⟩⟩⟩,fun hx=>⟨fun hc=>?_,fun hc=>⟨fun hc2=>?_,fun hc2=>?_⟩⟩⟩
  ·exact ⟨⟨by omega,by omega⟩,fun _ _=>⟨hf _,⟨by omega,by omega⟩,⟨(key hx).1,(key hx).2⟩,fun _ _=>⟨hf _,⟨by omega,by omega⟩,⟨by omega,by omega⟩,⟨by omega,by omega⟩,fun _ _=>⟨⟨by omega,by omega⟩,fun _ _=>⟨⟨by omega,by omega⟩,fun _ _=>⟨t+1,by rw [st2 hx (.inl hc)]; exact ⟨⟨⟨sn.symm,by simp,by simp only; omega,by omega⟩,sn⟩,by omega,by omega⟩⟩⟩⟩⟩⟩⟩
  ·exact ⟨⟨by omega,by omega⟩,fun _ _=>⟨hf _,⟨by omega,by omega⟩,⟨(key hx).1,(key hx).2⟩,fun _ _=>⟨hf _,⟨by omega,by omega⟩,⟨by omega,by omega⟩,⟨by omega,by omega⟩,fun _ _=>⟨⟨by omega,by omega⟩,fun _ _=>⟨⟨by omega,by omega⟩,fun _ _=>⟨t+1,by rw [st2 hx (.inr hc2)]; exact ⟨⟨⟨sn.symm,by simp,by simp only; omega,by omega⟩,sn⟩,by omega,by omega⟩⟩⟩⟩⟩⟩⟩
  ·exact ⟨⟨by omega,by omega⟩,fun _ _=>⟨⟨by omega,by omega⟩,fun _ _=>⟨⟨by omega,by omega⟩,fun _ _=>⟨t+1,by rw [st3 hx (by omega)]; exact ⟨⟨⟨rfl,by simp,by simp only; omega,by omega⟩,rfl⟩,by omega,by omega⟩⟩⟩⟩⟩
 ·have:t=a.length+1:=by omega
  subst this;exact ⟨rfl,rfl⟩
def dfI (a b:List Str):Inv:=⟨Nat,fun i=>⟨[(0,true,.sl true 1 (aa a)),(1,true,.sl true 1 (aa b)),(4,true,.nil),(6,true,.own 9 3 (co (bJ a b i).out)),(7,true,.int .i64 (bJ a b i).fr),(8,true,.int .i64 (bJ a b i).k),(18,true,.own 10 1 (aj (mtE a b))),(19,true,.int .i64 (a.length+1:Nat)),(20,true,.int .i64 i)],[(9,.own 176 3 true (co (bJ a b i).out)),(10,.own 3 1 true (aj (mtE a b)))]⟩,fun i=>i<=a.length+1,fun i=>a.length+1 - i⟩
def qr:Con:=.fn 56 (List Str × List Str) (fun a=>[.sl true 1 (aa a.1),.sl true 1 (aa a.2)]) (fun a=>a.1.length<=100000/\a.2.length<=100000) (fun a=>.own 8 3 (co (gP a.1 a.2))) (fun a=>y8 8 (gP a.1 a.2))
theorem C9:Has Tryz.prog 89 qr:=by
 refine ah mixed bK (HasL.cons yq (HasL.cons lV HasL.nil)) [0,1,4,5,6,7,8,9,10,18,19,20] ((fun a n (_:Nat)=>(fun a _=>dfI a.1 a.2) a n)) [48] Tryz.func89 (by unfold Tryz.f89; rfl) (fun _=>⟨(),trivial⟩) ?_
 intro a ha;obtain ⟨a,b⟩:=a;obtain ⟨h1,h2⟩:a.length<=100000/\b.length<=100000:=ha;simp (maxSteps:=8000000) -implicitDefEqProofs [qr,nJ,jL,Con.fn,aV,ag,dfI]
 try dsimp only
 have ea:=yx a b;have la:=gU a b;have m1:=iC a b 0;refine ⟨a,b,⟨rfl,rfl⟩,⟨by omega,by omega⟩,fun _=>⟨⟨by omega,by omega⟩,fun _=>⟨⟨0,⟨⟨rfl,rfl,rfl,ea.symm,by omega,rfl⟩,rfl,ea⟩,Nat.zero_le _⟩,fun t ht=>⟨fun hlt0=>?_,fun hge=>?_⟩⟩⟩⟩
 ·have hlt:t < (mtE a b).length:=by omega
  have ok:=mo a b t ht;have st:bJ a b (t+1)=eo a b ((mtE a b).getD t 0) t (bJ a b t):=rfl;obtain ⟨k1,k2,k3,k4,k5,k6,k7⟩:=ok;have ga:(mtE a b).getD t 0=(mtE a b)[t]'(by omega):=by simp -implicitDefEqProofs [List.getD_eq_getElem?_getD,List.getElem?_eq_getElem (show t < (mtE a b).length by omega)]
  have k3:=gI (l:=mtE a b) (by omega) k3
  have oa:(mtE a b)[t]? = some ((mtE a b)[t]'(by omega)):=List.getElem?_eq_getElem (by omega)
  rw [ga] at st;rw [oa];generalize (mtE a b)[t]'(by omega)=x at *
  generalize bJ a b t=S at *;obtain ⟨fr,k,out⟩:=S;simp only at k1 k2 k3 k4 k5 k6 k7;have p1:(List.take (t - fr) (List.drop fr a))=(a.take t).drop fr:=(List.drop_take).symm;have p2:(List.take (x.toNat - k) (List.drop k b))=(b.take x.toNat).drop k:=(List.drop_take).symm;simp -implicitDefEqProofs [aq,D.asInt,hlt,bj,bp,p1,p2];have hf:∀ l:List Str,∀ x ∈ aa l,∀ d ∈ x,fL d:=fun l=>of_eq_true (eStrs_flat l);have key:0<=x->(k:Int)<=x/\x<=b.length:=fun h=>by rcases k3 with k3 | k3 <;> omega
  obtain ⟨q,q1,q2⟩:=k7;have skip:x < 0->bJ a b (t+1)=⟨fr,k,out⟩:=fun h=>by rw [st]; unfold eo; rw [if_pos h]
  have st2:0<=x->(fr < t \/ (k:Int) < x)->bJ a b (t+1)=⟨t+1,x.toNat+1,out++[⟨fr,(a.take t).drop fr,(b.take x.toNat).drop k⟩]⟩:=fun h h'=>by rw [st]; unfold eo; rw [if_neg (by omega)]; simp only [if_pos h']
  have st3:0<=x -> ¬ (fr < t \/ (k:Int) < x)->bJ a b (t+1)=⟨t+1,x.toNat+1,out⟩:=fun h h'=>by rw [st]; unfold eo; rw [if_neg (by omega)]; simp only [if_neg h']
  have sn:=wZ out fr ((a.take t).drop fr) ((b.take x.toNat).drop k);refine ⟨fun hx=>⟨⟨by omega,by omega⟩,fun _ _=>⟨t+1,by rw [skip hx]; exact ⟨⟨⟨rfl,rfl,rfl,by omega⟩,rfl⟩,by omega,by omega⟩⟩⟩,fun hx=>⟨fun hc=>?_,fun hc=>⟨fun hc2=>?_,fun hc2=>?_⟩⟩⟩
  ·exact ⟨⟨by omega,by omega⟩,fun _ _=>⟨by omega,⟨(key hx).1,(key hx).2⟩,fun _ _=>⟨by omega,⟨by omega,by omega⟩,⟨by omega,by omega⟩,fun _ _=>⟨⟨by omega,by omega⟩,fun _ _=>⟨⟨by omega,by omega⟩,fun _ _=>⟨t+1,by rw [st2 hx (.inl hc)]; exact ⟨⟨⟨sn.symm,by simp,by simp only; omega,by omega⟩,sn⟩,by omega,by omega⟩⟩⟩⟩⟩⟩⟩
  ·exact ⟨⟨by omega,by omega⟩,fun _ _=>⟨by omega,⟨(key hx).1,(key hx).2⟩,fun _ _=>⟨by omega,⟨by omega,by omega⟩,⟨by omega,by omega⟩,fun _ _=>⟨⟨by omega,by omega⟩,fun _ _=>⟨⟨by omega,by omega⟩,fun _ _=>⟨t+1,by rw [st2 hx (.inr hc2)]; exact ⟨⟨⟨sn.symm,by simp,by simp only; omega,by omega⟩,sn⟩,by omega,by omega⟩⟩⟩⟩⟩⟩⟩
  ·exact ⟨⟨by omega,by omega⟩,fun _ _=>⟨⟨by omega,by omega⟩,fun _ _=>⟨⟨by omega,by omega⟩,fun _ _=>⟨t+1,by rw [st3 hx (by omega)]; exact ⟨⟨⟨rfl,by simp,by simp only; omega,by omega⟩,rfl⟩,by omega,by omega⟩⟩⟩⟩⟩
 ·have:t=a.length+1:=by omega
  subst this;exact ⟨rfl,rfl⟩
--TAB aV
def tgP (a:List FileD) (x:List Str) (m:List Str) (g:FileD):Bool:=!(am a g.path).2 && !decide (g.path ∈ m) && decide (g.text=x)
theorem xh {a b:List FileD} {x m:List Str} {k:Nat} (h:k < b.length):cq a (b.drop k) x m=if tgP a x m b[k]=true then some b[k] else cq a (b.drop (k+1)) x m:=by
 rw [List.drop_eq_getElem_cons h];unfold cq;rw [List.find?_cons]
 show (match tgP a x m b[k] with | true=>some b[k] | false=>_)=_
 cases tgP a x m b[k] <;> rfl
def ij (a b:List FileD) (x:List Str) (l:List ChangeD):Str:=match cq a b x (aA l) with | some g=>g.path | none=>[]
def frT (l:List ChangeD) (p:Str) (i:Nat):Bool:=(l.take i).all fun c=>decide (¬ c.to_=p)
theorem DQ {l:List ChangeD} {p:Str} {i:Nat} (h:i < l.length):frT l p (i+1)=(frT l p i && decide (¬ l[i].to_=p)):=by
 unfold frT;rw [List.take_succ_eq_append_getElem h,List.all_append];simp
theorem DP {l:List ChangeD} {p:Str} {i:Nat} (h:l.length<=i):frT l p i = !decide (p ∈ aA l):=by
 unfold frT aA;rw [List.take_of_length_le h,Bool.eq_iff_iff];simp only [List.all_eq_true,decide_eq_true_eq,Bool.not_eq_true',decide_eq_false_iff_not,List.mem_map,not_exists,not_and]
def tgO (a b:List FileD) (x:List Str) (l:List ChangeD):Inv:=⟨Nat,fun k=>⟨[(0,true,.sl true 2 (ac a)),(1,true,.sl true 2 (ac b)),(2,true,.sl true 1 (aa x)),(3,true,.sl true 5 (aR l)),(8,true,.str []),(9,true,.int .i64 k)],[]⟩,fun k=>k<=b.length/\cq a (b.drop k) x (aA l)=cq a b x (aA l),fun k=>b.length - k⟩
def tgI (a b:List FileD) (x:List Str) (l:List ChangeD) (g:Nat):Inv:=⟨Nat,fun i=>⟨[(0,true,.sl true 2 (ac a)),(1,true,.sl true 2 (ac b)),(2,true,.sl true 1 (aa x)),(3,true,.sl true 5 (aR l)),(8,true,.str []),(9,true,.int .i64 g),(11,true,.bool (am a (b.getD g default).path).2),(12,true,.bool (frT l (b.getD g default).path i)),(13,true,.int .i64 i)],[]⟩,fun i=>i<=l.length/\g < b.length/\cq a (b.drop g) x (aA l)=cq a b x (aA l),fun i=>l.length - i⟩
def vg (a b:List FileD) (x:List Str) (l:List ChangeD) (n g:Nat):Inv:=if n=2 then tgO a b x l else tgI a b x l g
theorem KR (a b x l g):vg a b x l 2 g=tgO a b x l:=rfl
theorem KT (a b x l g):vg a b x l 7 g=tgI a b x l g:=rfl
def rf:Con:=.fn 69 (List FileD × List FileD × List Str × List ChangeD) (fun a=>[.sl true 2 (ac a.1),.sl true 2 (ac a.2.1),.sl true 1 (aa a.2.2.1),.sl true 5 (aR a.2.2.2)]) (fun _=>True) (fun a=>.str (ij a.1 a.2.1 a.2.2.1 a.2.2.2)) (fun _=>[])
theorem Ge:Has Tryz.prog 224 rf:=by
 refine ah mixed bK (HasL.cons tL (HasL.cons oF HasL.nil)) [0,1,2,3,8,9,11,12,13] (fun a=>vg a.1 a.2.1 a.2.2.1 a.2.2.2) [] Tryz.func224 (by unfold Tryz.f224; rfl) (fun _=>⟨(),trivial⟩) ?_
 intro a _;obtain ⟨a,b,x,l⟩:=a;simp (maxSteps:=8000000) -implicitDefEqProofs [rf,lK,kD,Con.fn,aV,ag,KR,KT,tgO,tgI]
 try dsimp only
 refine fun t ht hf _=>⟨fun hlt=>⟨hlt,fun _=>?_⟩,fun hge=>?_⟩
 ·have qq:Option.map an b[t]? = some (an b[t]):=by simp -implicitDefEqProofs [hlt]
  have bg:b[t]?.getD default=b[t]:=by simp -implicitDefEqProofs [hlt]
  have fs:=xh (a:=a) (x:=x) (m:=aA l) hlt;rw [hf] at fs;rw [qq];simp -implicitDefEqProofs [an,D.asStr,D.asRows];refine ⟨a,b[t].path,⟨rfl,rfl⟩,t,⟨0,⟨rfl,by rw [bg],rfl,rfl⟩,Nat.zero_le _,hlt,hf⟩,fun i hi _ _ _=>⟨fun hil=>?_,fun hil=>?_⟩⟩
  ·have ql:Option.map cL l[i]? = some (cL l[i]):=by simp -implicitDefEqProofs [hil]
   have fr:=DQ (p:=b[t].path) hil;rw [bg,ql,qq];simp -implicitDefEqProofs [an,cL,D.asStr,D.asRows];exact ⟨fun hb=>⟨hil,fun _=>⟨hlt,fun _=>⟨⟨by omega,by omega⟩,fun _ _=>⟨i+1,⟨by rw [fr,hb]; simp,by omega⟩,⟨by omega,hlt,hf⟩,by omega⟩⟩⟩⟩,fun hb=>⟨⟨by omega,by omega⟩,fun _ _=>⟨i+1,⟨by rw [fr,hb]; rfl,by omega⟩,⟨by omega,hlt,hf⟩,by omega⟩⟩⟩
  ·have fr:=DP (p:=b[t].path) hil;rw [bg,qq];simp -implicitDefEqProofs [an,D.asStr,D.asRows];have nx:tgP a x (aA l) b[t]=false->cq a (b.drop (t+1)) x (aA l)=cq a b x (aA l):=fun h=>by rw [fs,if_neg (by simp -implicitDefEqProofs [h])]
   refine ⟨fun h1=>⟨fun h2=>⟨⟨by omega,by omega⟩,fun _ _=>⟨t+1,by omega,⟨by omega,nx (by simp -implicitDefEqProofs [tgP,h1])⟩,by omega⟩⟩,fun h2=>⟨⟨by omega,by omega⟩,fun _ _=>⟨t+1,by omega,⟨by omega,nx (by simp -implicitDefEqProofs [tgP,h1])⟩,by omega⟩⟩⟩,fun h1=>⟨fun h2=>⟨hlt,fun _=>⟨b[t].text,x,⟨rfl,rfl⟩,fun h3=>⟨hlt,fun _=>?_⟩,fun h3=>⟨⟨by omega,by omega⟩,fun _ _=>⟨t+1,by omega,⟨by omega,nx (by simp -implicitDefEqProofs [tgP,h3])⟩,by omega⟩⟩⟩⟩,fun h2=>⟨⟨by omega,by omega⟩,fun _ _=>⟨t+1,by omega,⟨by omega,nx ?_⟩,by omega⟩⟩⟩⟩
   ·rw [h2] at fr;have:tgP a x (aA l) b[t]=true:=by unfold tgP; rw [h1,<- fr]; simp -implicitDefEqProofs [h3]
    unfold ij;rw [fs,if_pos this]
   ·rw [h2] at fr;unfold tgP; rw [<- fr]; simp
 ·unfold ij;rw [<- hf,List.drop_eq_nil_of_le hge]; rfl
theorem uz {tos:List ChangeD->List Str} {a b l:List FileD} {i:Nat} (h:i < l.length):aN tos a b (l.take (i+1))=cV tos a b (aN tos a b (l.take i)) l[i]:=by
 unfold aN;rw [List.take_succ_eq_append_getElem h,List.foldl_append]; rfl
theorem vt {tos:List ChangeD->List Str} {a b l:List FileD} {i:Nat} (h:i < l.length):cK tos a b (l.take (i+1))=dV a (tos (aN tos a b a)) (cK tos a b (l.take i)) l[i]:=by
 unfold cK;rw [List.take_succ_eq_append_getElem h,List.foldl_append]; rfl
theorem An (tos:List ChangeD->List Str) (a b:List FileD):∀ l:List FileD,∀ out,∃ r,l.foldl (dV a (tos (aN tos a b a))) out=out++r
 | [],out=>⟨[],by simp⟩
 | g :: l,out=>by
  obtain ⟨r,h⟩:=An tos a b l (dV a (tos (aN tos a b a)) out g);rw [List.foldl_cons,h];unfold dV;split
  ·exact ⟨r,rfl⟩
  ·exact ⟨_,List.append_assoc _ _ _⟩
theorem s9 {tos:List ChangeD->List Str} (ht:im tos) {a b:List FileD} (ha:TrOk a) (hb:TrOk b):∀ i,i<=a.length->In1 tos a b (a.take i) (aN tos a b (a.take i))
 | 0,_=>⟨by rw [List.take_zero]; exact .nil,by simp -implicitDefEqProofs [aN],by simp -implicitDefEqProofs [aN],by simp -implicitDefEqProofs [aN],by simp -implicitDefEqProofs [aN]⟩
 | i+1,h=>by
  have hi:i < a.length:=by omega
  have:=tc ht (f:=a[i]) (rest:=a.drop (i+1)) ha hb (by rw [<- List.drop_eq_getElem_cons hi,List.take_append_drop]) (s9 ht ha hb i (by omega))
  rwa [<- uz hi,<- List.take_succ_eq_append_getElem hi] at this
theorem td {tos:List ChangeD->List Str} (ht:im tos) {a b:List FileD} (ha:TrOk a) (hb:TrOk b):∀ k,k<=b.length->In2 a (tos (aN tos a b a)) (b.take k) (cK tos a b (b.take k))
 | 0,_=>by
  have h1:=ma ht ha hb;exact ⟨h1.ok,fun c hc=>.inl (h1.path c hc),fun c hc=>(h1.to_ c hc).imp id fun q=>q.2,by have:=h1.len; simp -implicitDefEqProofs [cK]; omega⟩
 | k+1,h=>by
  have hk:k < b.length:=by omega
  have:=xH (g:=b[k]) (rest:=b.drop (k+1)) hb (by rw [<- List.drop_eq_getElem_cons hk,List.take_append_drop]) (td ht ha hb k (by omega))
  rwa [<- vt hk,<- List.take_succ_eq_append_getElem hk] at this
def tS (a b:List FileD):Inv:=⟨Nat,fun i=>⟨[(0,true,.sl true 2 (ac a)),(1,true,.sl true 2 (ac b)),(4,true,.nil),(5,true,.own 9 5 (aR (aN aA a b (a.take i)))),(6,true,.int .i64 i)],[(9,.own 116 5 true (aR (aN aA a b (a.take i))))]⟩,fun i=>i<=a.length,fun i=>a.length - i⟩
def tU (a b:List FileD):Inv:=⟨Nat,fun k=>⟨[(0,true,.sl true 2 (ac a)),(1,true,.sl true 2 (ac b)),(4,true,.nil),(5,true,.own 9 5 (aR (cK aA a b (b.take k)))),(10,true,.int .i64 (aN aA a b a).length),(11,true,.int .i64 k)],[(9,.own 116 5 true (aR (cK aA a b (b.take k))))]⟩,fun k=>k<=b.length,fun k=>b.length - k⟩
def mvT (l:List ChangeD) (p:Str) (i:Nat):Bool:=(l.take i).any fun c=>decide (c.to_=p)
theorem G8 {l:List ChangeD} {p:Str} {i:Nat} (h:i < l.length):mvT l p (i+1)=(mvT l p i || decide (l[i].to_=p)):=by
 unfold mvT;rw [List.take_succ_eq_append_getElem h,List.any_append];simp
theorem G7 {l:List ChangeD} {p:Str} {i:Nat} (h:l.length<=i):mvT l p i=decide (p ∈ aA l):=by
 unfold mvT aA;rw [List.take_of_length_le h,Bool.eq_iff_iff];simp only [List.any_eq_true,decide_eq_true_eq,List.mem_map]
def tT (a b:List FileD) (g:Nat):Inv:=⟨Nat,fun i=>⟨[(0,true,.sl true 2 (ac a)),(1,true,.sl true 2 (ac b)),(4,true,.nil),(5,true,.own 9 5 (aR (cK aA a b (b.take g)))),(10,true,.int .i64 (aN aA a b a).length),(11,true,.int .i64 g),(13,true,.bool (am a (b.getD g default).path).2),(14,true,.bool (mvT (aN aA a b a) (b.getD g default).path i)),(15,true,.int .i64 i)],[(9,.own 116 5 true (aR (cK aA a b (b.take g))))]⟩,fun i=>g < b.length/\i<=(aN aA a b a).length,fun i=>(aN aA a b a).length - i⟩
def oK (a b:List FileD) (n g:Nat):Inv:=if n=3 then tS a b else if n=15 then tU a b else tT a b g
theorem Gh (a b g):oK a b 3 g=tS a b:=rfl
theorem Gf (a b g):oK a b 15 g=tU a b:=rfl
theorem Gg (a b g):oK a b 20 g=tT a b g:=rfl
def qZ:Con:=.fn 158 (List FileD × List FileD) (fun a=>[.sl true 2 (ac a.1),.sl true 2 (ac a.2)]) (fun a=>TrOk a.1/\TrOk a.2) (fun a=>.own 8 5 (aR (fG aA a.1 a.2))) (fun a=>y7 8 (fG aA a.1 a.2))
theorem F8:Has Tryz.prog 174 qZ:=by
 refine ah mixed bK (HasL.cons tL (HasL.cons oF (HasL.cons FQ (HasL.cons Ge HasL.nil)))) [0,1,4,5,6,7,8,9,10,11,13,14,15] (fun a=>oK a.1 a.2) [58,96,155] Tryz.func174 (by unfold Tryz.f174; rfl) (fun _=>⟨(),trivial⟩) ?_
 intro a ha;obtain ⟨a,b⟩:=a;obtain ⟨h1,h2⟩:TrOk a/\TrOk b:=ha;simp (maxSteps:=8000000) -implicitDefEqProofs [qZ,lK,kD,qR,rf,Con.fn,aV,ag,Gh,Gf,Gg,tS,tU,tT]
 try dsimp only
 refine ⟨⟨0,⟨⟨rfl,rfl⟩,rfl⟩,Nat.zero_le _⟩,fun t ht _=>⟨fun hlt=>⟨hlt,fun _=>?_⟩,fun hge=>?_⟩⟩
 ·have qq:Option.map an a[t]? = some (an a[t]):=by simp -implicitDefEqProofs [hlt]
  have i1:=s9 iP h1 h2 t ht;have st:aN aA a b (a.take (t+1))=cV aA a b (aN aA a b (a.take t)) a[t]:=uz hlt;rw [qq];generalize hO:aN aA a b (a.take t)=O at *;simp -implicitDefEqProofs [an,D.asStr,D.asRows,and_assoc];have hf:∀ l:List Str,∀ x ∈ aa l,∀ d ∈ x,fL d:=fun l=>of_eq_true (eStrs_flat l);have m1:=List.getElem_mem hlt;have l0:=i1.len;have l1:=h1.len;have tl:∀ {x:List Str},aD x=true->x.length<=10:=fun h=>by unfold aD at h; simp only [Bool.and_eq_true,decide_eq_true_eq] at h; exact h.1
  have t1:=tl (h1.ok _ m1).2;rw [List.length_take] at l0;have s3:=iX O 3 a[t].path [] [] (gP a[t].text (am b a[t].path).1);have s4:=iX O 4 a[t].path (ij a b a[t].text O) [] [];have s2:=iX O 2 a[t].path [] a[t].text [];refine ⟨fun hb=>⟨hlt,fun _=>⟨fun hne=>⟨hlt,fun _=>⟨hlt,fun _=>⟨by omega,?_,by omega,by omega,fun _=>⟨by omega,by omega,fun _ _=>⟨t+1,?_,by omega,?_,by omega,by omega⟩⟩,fun h=>(by rw [hb] at h; cases h)⟩⟩⟩,fun heq=>⟨fun _=>⟨by omega,by omega,fun _ _=>⟨t+1,?_,by omega,?_,by omega,by omega⟩⟩,fun h=>(by rw [hb] at h; cases h)⟩⟩⟩,fun hb=>⟨fun h=>(by rw [hb] at h; cases h),fun _=>⟨hlt,fun _=>⟨fun hto=>⟨hlt,fun _=>⟨by omega,by omega,by omega,by omega,fun _ _=>⟨t+1,?_,by omega,?_,by omega,by omega⟩⟩⟩,fun hto=>⟨hlt,fun _=>⟨hlt,fun _=>⟨hf _,by omega,by omega,by omega,by omega,by omega,by omega,fun _ _=>⟨t+1,?_,by omega,?_,by omega,by omega⟩⟩⟩⟩⟩⟩⟩⟩
  ·obtain ⟨g,g1,g2,g3⟩:=sZ hb;have:=tl (h2.ok g g1).2;rw [g3] at this; omega
  ·rw [st]; unfold cV; rw [if_pos hb,if_neg hne]; exact s3.symm
  ·rw [st]; unfold cV; rw [if_pos hb,if_neg hne]; exact s3
  ·rw [st]; unfold cV; rw [if_pos hb,if_pos heq]
  ·rw [st]; unfold cV; rw [if_pos hb,if_pos heq]
  ·have e:∃ g,cq a b a[t].text (aA O)=some g/\ij a b a[t].text O=g.path:=by
    unfold ij at hto ⊢;cases q:cq a b a[t].text (aA O) with
    | none=>rw [q] at hto; exact absurd rfl hto
    | some g=>exact ⟨g,rfl,rfl⟩
   obtain ⟨g,g1,g2⟩:=e;rw [g2] at s4 ⊢; rw [st]; unfold cV; rw [if_neg (by simp -implicitDefEqProofs [hb]),g1]; exact s4.symm
  ·have e:∃ g,cq a b a[t].text (aA O)=some g/\ij a b a[t].text O=g.path:=by
    unfold ij at hto ⊢;cases q:cq a b a[t].text (aA O) with
    | none=>rw [q] at hto; exact absurd rfl hto
    | some g=>exact ⟨g,rfl,rfl⟩
   obtain ⟨g,g1,g2⟩:=e;rw [g2] at s4 ⊢; rw [st]; unfold cV; rw [if_neg (by simp -implicitDefEqProofs [hb]),g1]; exact s4
  ·have e:cq a b a[t].text (aA O)=none:=by
    unfold ij at hto;cases q:cq a b a[t].text (aA O) with
    | none=>rfl
    | some g=>rw [q] at hto; exact absurd hto (h2.ne g (sV q).1)
   rw [st]; unfold cV; rw [if_neg (by simp -implicitDefEqProofs [hb]),e]; exact s2.symm
  ·have e:cq a b a[t].text (aA O)=none:=by
    unfold ij at hto;cases q:cq a b a[t].text (aA O) with
    | none=>rfl
    | some g=>rw [q] at hto; exact absurd hto (h2.ne g (sV q).1)
   rw [st]; unfold cV; rw [if_neg (by simp -implicitDefEqProofs [hb]),e]; exact s2
 ·have:t=a.length:=by omega
  subst this;rw [List.take_length];have i1:=ma iP h1 h2;have l0:=i1.len;have l1:=h1.len;have l2:=h2.len;refine fun _=>⟨⟨0,⟨⟨rfl,rfl,rfl⟩,rfl⟩,Nat.zero_le _⟩,fun k hk _=>⟨fun hlt=>⟨hlt,fun _=>?_⟩,fun hge2=>?_⟩⟩
  ·have qq:Option.map an b[k]? = some (an b[k]):=by simp -implicitDefEqProofs [hlt]
   have bg:b[k]?.getD default=b[k]:=by simp -implicitDefEqProofs [hlt]
   have i2:=(td iP h1 h2 k hk).len;rw [List.length_take] at i2;have st:cK aA a b (b.take (k+1))=dV a (aA (aN aA a b a)) (cK aA a b (b.take k)) b[k]:=vt hlt;obtain ⟨r,hr⟩:=An aA a b (b.take k) (aN aA a b a);have hr:cK aA a b (b.take k)=aN aA a b a++r:=hr;rw [qq];simp -implicitDefEqProofs [an,D.asStr,D.asRows];refine ⟨a,b[k].path,⟨rfl,rfl⟩,k,⟨0,⟨⟨rfl,rfl,by rw [bg],rfl,rfl⟩,rfl⟩,hlt,Nat.zero_le _⟩,fun i _ hi=>⟨fun hil=>?_,fun hil=>?_⟩⟩
   ·have ql:Option.map cL (cK aA a b (b.take k))[i]? = some (cL (aN aA a b a)[i]):=by rw [hr,List.getElem?_append_left hil,List.getElem?_eq_getElem hil]; rfl
    have hl2:i < (cK aA a b (b.take k)).length:=by rw [hr,List.length_append]; omega
    have fr:=G8 (p:=b[k].path) hil;rw [bg,ql,qq];generalize aN aA a b a=O at *;generalize cK aA a b (b.take k)=W at *;simp -implicitDefEqProofs [an,cL,D.asStr,D.asRows];exact ⟨fun hb=>⟨⟨by omega,by omega⟩,fun _ _=>⟨i+1,⟨by rw [fr,hb]; rfl,by omega⟩,⟨hlt,by omega⟩,by omega⟩⟩,fun hb=>⟨hl2,fun _=>⟨hlt,fun _=>⟨⟨by omega,by omega⟩,fun _ _=>⟨i+1,⟨by rw [fr,hb]; simp,by omega⟩,⟨hlt,by omega⟩,by omega⟩⟩⟩⟩⟩
   ·have fr:=G7 (p:=b[k].path) hil;rw [bg,qq];generalize hO:aN aA a b a=O at *;generalize hW:cK aA a b (b.take k)=W at *;simp -implicitDefEqProofs [an,D.asStr,D.asRows,and_assoc];have hf:∀ l:List Str,∀ x ∈ aa l,∀ d ∈ x,fL d:=fun l=>of_eq_true (eStrs_flat l);have m1:=List.getElem_mem hlt;have tl:b[k].text.length<=10:=by have h:=(h2.ok _ m1).2; unfold aD at h; simp only [Bool.and_eq_true,decide_eq_true_eq] at h; exact h.1
    have s1:=iX W 1 b[k].path [] b[k].text [];have keep:((am a b[k].path).2=true \/ b[k].path ∈ aA O)->cK aA a b (b.take (k+1))=W:=fun h=>by rw [st]; unfold dV; rw [if_pos h]
    have km:mvT O b[k].path i=true->b[k].path ∈ aA O:=fun h=>by rw [h] at fr; exact of_decide_eq_true fr.symm
    refine ⟨fun h1=>⟨fun h2=>⟨by omega,by omega,fun _ _=>⟨k+1,keep (.inl h1),by omega,(keep (.inl h1)).symm,by omega,by omega⟩⟩,fun h2=>⟨by omega,by omega,fun _ _=>⟨k+1,keep (.inl h1),by omega,(keep (.inl h1)).symm,by omega,by omega⟩⟩⟩,fun h1=>⟨fun h2=>⟨by omega,by omega,fun _ _=>⟨k+1,keep (.inr (km h2)),by omega,(keep (.inr (km h2))).symm,by omega,by omega⟩⟩,fun h2=>⟨hlt,fun _=>⟨hlt,fun _=>⟨hf _,by omega,by omega,by omega,by omega,by omega,by omega,fun _ _=>⟨k+1,?_,by omega,?_,by omega,by omega⟩⟩⟩⟩⟩⟩
    ·rw [st]; unfold dV; rw [if_neg (fun h=>h.elim (fun q=>by rw [h1] at q; cases q) fun q=>by rw [h2] at fr; exact absurd q (of_decide_eq_false fr.symm))]; exact s1.symm
    ·rw [st]; unfold dV; rw [if_neg (fun h=>h.elim (fun q=>by rw [h1] at q; cases q) fun q=>by rw [h2] at fr; exact absurd q (of_decide_eq_false fr.symm))]; exact s1
  ·have:k=b.length:=by omega
   subst this;rw [List.take_length];exact ⟨rfl,rfl⟩
--TAB aV
def cO (o:List OwnerD) (p:Str):Str:=(ep o p).who
def cU (v:ReviewD) (w:Str):Bool:=decide (w=[]) || decide (w=v.by_) || decide (w ∈ v.yes)
def d5 (o:List OwnerD) (v:ReviewD) (out:List Str) (p:Str):List Str:=if cU v (cO o p)=true then out else aS out (cO o p)
def cD (o:List OwnerD) (v:ReviewD) (l:List Str):List Str:=l.foldl (d5 o v) []
theorem yG {o:List OwnerD} {v:ReviewD} {l:List Str} {i:Nat} (h:i < l.length):cD o v (l.take (i+1))=d5 o v (cD o v (l.take i)) l[i]:=by
 unfold cD;rw [List.take_succ_eq_append_getElem h,List.foldl_append]; rfl
theorem Hl (o:List OwnerD) (v:ReviewD) (l x:List Str):(l.foldl (d5 o v) x).length<=x.length+l.length:=by
 induction l generalizing x with
 | nil=>simp
 | cons p l ih =>
  rw [List.foldl_cons];have:=ih (d5 o v x p);have:(d5 o v x p).length<=x.length+1:=by
   unfold d5;split
   ·omega
   ·exact pc x _
  simp only [List.length_cons];omega
theorem ur (o:List OwnerD) (v:ReviewD) (l:List Str):(cD o v l).length<=l.length:=by
 have:=Hl o v l [];unfold cD
 simpa using this
def nU (r:RepoD) (v:ReviewD):List ChangeD:=fG aA (cz r (atL r.heads v.into) (atL r.heads v.branch)) (aG r (atL r.heads v.branch))
def d7 (r:RepoD) (v:ReviewD):List Str:=iG (nU r v)
def gz (r:RepoD) (o:List OwnerD) (v:ReviewD):List Str:=cD o v (d7 r v)
def ir (r:RepoD) (v:ReviewD):Prop:=ar r=true/\0<=atL r.heads v.into/\0<=atL r.heads v.branch
theorem sA {r:RepoD} {v:ReviewD} (h:ir r v):mp (nU r v):=sC iP (ik (kw h.1 _ _)) (ik (fe h.1 _))
theorem uG {r:RepoD} {v:ReviewD} (h:ir r v):(d7 r v).length<=32:=by
 have:=zC (nU r v);have:=(sA h).2;unfold d7;omega
abbrev qb (v:ReviewD):Blk:=.box 38 [.str v.branch,.str v.into,.str v.by_,.sl true 1 (aa v.yes)]
def qI:Con:=.fn 27 (RepoD × ReviewD) (fun a=>[bh a.1,iQ a.2]) (fun a=>ir a.1 a.2) (fun a=>.sl false 1 (aa (d7 a.1 a.2))) (fun _=>[])
theorem FF:Has Tryz.prog 99 qI:=by
 refine ah mixed bK (HasL.cons gr (HasL.cons ya (HasL.cons F8 (HasL.cons CF HasL.nil)))) [0,1,2,3,4,5,6] ((fun a n (_:Nat)=>(fun _=>aw) a n)) [] Tryz.func99 (by unfold Tryz.f99; rfl) (fun _=>⟨(),trivial⟩) ?_
 intro a ha;obtain ⟨r,v⟩:=a;replace ha:ir r v:=ha;simp (maxSteps:=8000000) [qI,eM,nH,qZ,qn,Con.fn,aV,ag,bu]
 try dsimp only
 try simp -implicitDefEqProofs only [and_assoc,exists_eq_left,exists_and_left,RepoD.ex1,RepoD.eta,ReviewD.ex1,ReviewD.eta]
 obtain ⟨k1,k2,k3⟩:=ha;have hs:=((c6 r).1 k1).2.1;have h1:=f8 (n:=v.into) hs;have h2:=f8 (n:=v.branch) hs;have gb:=gO (r:=r) (c:=atL r.heads v.branch) k3 (by omega)
 rw [gb];simp -implicitDefEqProofs [D.asRows];exact ⟨k1,k2,by omega,k3,by omega,k3,by omega,fun _ _=>⟨ik (kw k1 _ _),ik (fe k1 _),sA ⟨k1,k2,k3⟩,rfl⟩⟩
def jC (v:ReviewD) (w:Str) (k:Nat):Bool:=decide (w=[]) || decide (w=v.by_) || (v.yes.take k).any fun y=>decide (y=w)
theorem pK {v:ReviewD} {w:Str} {k:Nat} (h:k < v.yes.length):jC v w (k+1)=(jC v w k || decide (v.yes[k]=w)):=by
 unfold jC;rw [List.take_succ_eq_append_getElem h,List.any_append];simp -implicitDefEqProofs [Bool.or_assoc]
theorem pJ {v:ReviewD} {w:Str} {k:Nat} (h:v.yes.length<=k):jC v w k=cU v w:=by
 unfold jC cU;rw [List.take_of_length_le h]
 congr 1
 rw [Bool.eq_iff_iff];simp
def ndO (o:List OwnerD) (v:ReviewD) (l:List Str):Inv:=⟨Nat,fun i=>⟨[(1,true,.sl true 2 (aT o)),(5,true,.ptr 10 0),(6,true,.nil),(7,true,.sl false 1 (aa (cD o v (l.take i)))),(8,true,.sl false 1 (aa l)),(9,true,.int .i64 i)],[(10,qb v)]⟩,fun i=>i<=l.length,fun i=>l.length - i⟩
def ndI (o:List OwnerD) (v:ReviewD) (l:List Str) (g:Nat):Inv:=⟨Nat,fun k=>⟨[(1,true,.sl true 2 (aT o)),(5,true,.ptr 10 0),(6,true,.nil),(7,true,.sl false 1 (aa (cD o v (l.take g)))),(8,true,.sl false 1 (aa l)),(9,true,.int .i64 g),(10,true,.str (cO o (l.getD g default))),(11,true,.bool (jC v (cO o (l.getD g default)) k)),(12,true,.int .i64 k)],[(10,qb v)]⟩,fun k=>g < l.length/\k<=v.yes.length,fun k=>v.yes.length - k⟩
def uq (o:List OwnerD) (v:ReviewD) (l:List Str) (n g:Nat):Inv:=if n=4 then ndO o v l else ndI o v l g
theorem Hc (o v l g):uq o v l 4 g=ndO o v l:=rfl
theorem Hd (o v l g):uq o v l 9 g=ndI o v l g:=rfl
def qF:Con:=.fn 60 (RepoD × List OwnerD × ReviewD) (fun a=>[bh a.1,.sl true 2 (aT a.2.1),iQ a.2.2]) (fun a=>ir a.1 a.2.2/\a.2.1.length<=1073741824) (fun a=>.sl false 1 (aa (gz a.1 a.2.1 a.2.2))) (fun _=>[])
theorem FC:Has Tryz.prog 55 qF:=by
 refine ah mixed bK (HasL.cons FF (HasL.cons FG (HasL.cons tR HasL.nil))) [0,1,2,3,5,6,7,8,9,10,11,12] (fun a=>uq a.2.1 a.2.2 (d7 a.1 a.2.2)) [] Tryz.func55 (by unfold Tryz.f55; rfl) (fun _=>⟨(),trivial⟩) ?_
 intro a ha;obtain ⟨r,o,v⟩:=a;obtain ⟨h1,h2⟩:ir r v/\o.length<=1073741824:=ha;simp (maxSteps:=8000000) [qF,qI,qJ,lL,Con.fn,aV,ag,bu,Hc,Hd,ndO,ndI]
 try dsimp only
 try simp -implicitDefEqProofs only [and_assoc,exists_eq_left,exists_and_left,RepoD.ex1,RepoD.eta,ReviewD.ex1,ReviewD.eta]
 have pl:=uG h1;generalize hP:d7 r v=P at *;refine ⟨h1,⟨0,rfl,trivial,rfl,Nat.zero_le _⟩,fun t ht _=>⟨fun hlt=>⟨hlt,fun _=>?_⟩,fun hge=>by unfold gz; rw [hP,List.take_of_length_le hge]⟩⟩
 have q1:Option.map ak P[t]? = some (ak P[t]):=by simp -implicitDefEqProofs [hlt]
 have bg:P[t]?.getD default=P[t]:=by simp -implicitDefEqProofs [hlt]
 have st:=yG (o:=o) (v:=v) hlt;have ln:=ur o v (P.take t);rw [List.length_take] at ln;rw [q1];simp -implicitDefEqProofs [ak,D.asStr];refine ⟨h2,fun e=>⟨t,rfl,rfl,by rw [bg]; rfl,⟨0,?_,rfl,hlt,Nat.zero_le _⟩,?_⟩,fun e=>⟨t,rfl,rfl,by rw [bg]; rfl,⟨0,?_,rfl,hlt,Nat.zero_le _⟩,?_⟩⟩
 ·rw [bg]; unfold jC cO; simp -implicitDefEqProofs [e]
 ·rw [bg];intro k _ hk _;refine ⟨fun hkl=>⟨fun hy=>⟨by omega,by omega,fun _ _=>⟨k+1,by rw [pK hkl,hy]; rfl,by omega,hlt,by omega,by omega⟩⟩,fun hy=>⟨hkl,fun _=>?_⟩⟩,fun hkg=>⟨fun hy=>⟨by omega,by omega,fun _ _=>⟨t+1,?_,by omega,by omega,by omega⟩⟩,fun hy=>⟨by omega,by omega,by omega,fun _ _=>⟨t+1,?_,by omega,by omega,by omega⟩⟩⟩⟩
  ·have q3:Option.map ak v.yes[k]? = some (ak v.yes[k]):=by simp -implicitDefEqProofs [hkl]
   have ys:=pK (v:=v) (w:=cO o P[t]) hkl;rw [q3];simp -implicitDefEqProofs [ak,D.asStr];exact ⟨by omega,by omega,fun _ _=>⟨k+1,by rw [ys,hy]; rfl,by omega,hlt,by omega,by omega⟩⟩
  ·rw [st]; unfold d5; rw [pJ hkg] at hy; rw [hy]; rfl
  ·rw [st]; unfold d5; rw [pJ hkg] at hy; rw [hy]; rfl
 ·rw [bg]; unfold jC cO; simp -implicitDefEqProofs [e]
 ·rw [bg];intro k _ hk _;refine ⟨fun hkl=>⟨fun hy=>⟨by omega,by omega,fun _ _=>⟨k+1,by rw [pK hkl,hy]; rfl,by omega,hlt,by omega,by omega⟩⟩,fun hy=>⟨hkl,fun _=>?_⟩⟩,fun hkg=>⟨fun hy=>⟨by omega,by omega,fun _ _=>⟨t+1,?_,by omega,by omega,by omega⟩⟩,fun hy=>⟨by omega,by omega,by omega,fun _ _=>⟨t+1,?_,by omega,by omega,by omega⟩⟩⟩⟩
  ·have q3:Option.map ak v.yes[k]? = some (ak v.yes[k]):=by simp -implicitDefEqProofs [hkl]
   have ys:=pK (v:=v) (w:=cO o P[t]) hkl;rw [q3];simp -implicitDefEqProofs [ak,D.asStr];exact ⟨by omega,by omega,fun _ _=>⟨k+1,by rw [ys,hy]; rfl,by omega,hlt,by omega,by omega⟩⟩
  ·rw [st]; unfold d5; rw [pJ hkg] at hy; rw [hy]; rfl
  ·rw [st]; unfold d5; rw [pJ hkg] at hy; rw [hy]; rfl
def bz (r:RepoD) (o:List OwnerD) (v:ReviewD):Bool:=ar r && el o && eC v && decide (0<=atL r.heads v.branch) && decide (0<=atL r.heads v.into)
def aI (r:RepoD) (o:List OwnerD) (v:ReviewD):List Str × Bool:=if bz r o v=true then (gz r o v,true) else ([],false)
def pn (a:RepoD × List OwnerD × ReviewD):Prop:=cE a.1/\a.2.1.length<=1048576/\a.2.2.yes.length<=1048576
def nP:Con:=.fn 39 (RepoD × List OwnerD × ReviewD) (fun a=>[bh a.1,.sl true 2 (aT a.2.1),iQ a.2.2]) pn (fun a=>.tup [.sl false 1 (aa (aI a.1 a.2.1 a.2.2).1),.bool (aI a.1 a.2.1 a.2.2).2]) (fun _=>[])
theorem zN:Has Tryz.prog 16 nP:=by
 refine ah mixed bK (HasL.cons iB (HasL.cons FE (HasL.cons FD (HasL.cons gr (HasL.cons FC HasL.nil))))) [0,1,2,3,5,6,7] ((fun a n (_:Nat)=>(fun _=>aw) a n)) [] Tryz.func16 (by unfold Tryz.f16; rfl) (fun _=>⟨(),trivial⟩) ?_
 intro a ha;obtain ⟨r,o,v⟩:=a;obtain ⟨h1,h2,h3⟩:cE r/\o.length<=1048576/\v.yes.length<=1048576:=ha;simp (maxSteps:=8000000) [nP,gh,qH,qG,eM,qF,Con.fn,aV,ag,bu]
 try dsimp only
 try simp -implicitDefEqProofs only [and_assoc,exists_eq_left,exists_and_left,RepoD.ex1,RepoD.eta,ReviewD.ex1,ReviewD.eta]
 have no:(ar r && el o && eC v && decide (0<=atL r.heads v.branch) && decide (0<=atL r.heads v.into))=false->(aI r o v).fst=[]/\(aI r o v).snd=false:=fun h=>by unfold aI bz; rw [h]; exact ⟨rfl,rfl⟩
 have l1:=h1.1;refine ⟨by omega,fun h=>no (by simp -implicitDefEqProofs [h]),fun h=>⟨by omega,fun h'=>no (by simp -implicitDefEqProofs [h']),fun h'=>⟨by omega,fun h''=>no (by simp -implicitDefEqProofs [h'']),fun h''=>⟨fun q=>no (by simp; omega),fun q=>⟨fun q'=>no (by simp; omega),fun q'=>⟨⟨h,q',q⟩,by omega,?_⟩⟩⟩⟩⟩⟩
 have e:bz r o v=true:=by unfold bz; simp -implicitDefEqProofs [h,h',h'',q,q']
 unfold aI;rw [e]; exact ⟨rfl,rfl⟩
def cX (r:RepoD) (o:List OwnerD) (v:ReviewD):RepoD × Int:=if ar r=true then (if bz r o v=true then (if gz r o v=[] then dm r v.into v.by_ (atL r.heads v.branch) else (r,6)) else (r,1)) else (noR,1)
def rV:Con:=.fn 45 (RepoD × List OwnerD × ReviewD) (fun a=>[bh a.1,.sl true 2 (aT a.2.1),iQ a.2.2]) pn (fun a=>.tup [.agg [.sl false 3 (az (cX a.1 a.2.1 a.2.2).1.commits),.sl false 2 (ai (cX a.1 a.2.1 a.2.2).1.heads)],.int .i64 (cX a.1 a.2.1 a.2.2).2]) (fun _=>[])
theorem Jv:Has Tryz.prog 22 rV:=by
 refine ah mixed bK (HasL.cons iB (HasL.cons zN (HasL.cons j2 (HasL.cons gr (HasL.cons yb HasL.nil))))) [0,1,2,3,5,6,7,8,9] ((fun a n (_:Nat)=>(fun _=>aw) a n)) [] Tryz.func22 (by unfold Tryz.f22; rfl) (fun _=>⟨(),trivial⟩) ?_
 intro a ha;obtain ⟨r,o,v⟩:=a;have ha':pn (r,o,v):=ha;obtain ⟨h1,h2,h3⟩:cE r/\o.length<=1048576/\v.yes.length<=1048576:=ha;simp (maxSteps:=8000000) [rV,gh,nP,iv,eM,nI,Con.fn,aV,ag,bu]
 try dsimp only
 try simp -implicitDefEqProofs only [and_assoc,exists_eq_left,exists_and_left,RepoD.ex1,RepoD.eta,ReviewD.ex1,ReviewD.eta]
 have l1:=h1.1;have e1:aI r o v=if bz r o v=true then (gz r o v,true) else ([],false):=rfl
 refine ⟨by omega,fun h=>by unfold cX; rw [if_neg (by simp -implicitDefEqProofs [h])]; exact ⟨rfl,rfl,rfl⟩,fun h=>⟨ha',fun h'=>?_,fun h'=>⟨h1,?_⟩⟩⟩
 ·have q:bz r o v=true:=by
   cases q:bz r o v with
   | true=>rfl
   | false=>rw [e1,q] at h'; simp at h'
  rw [e1,if_pos q];have q':=q;unfold bz at q';simp only [Bool.and_eq_true,decide_eq_true_eq] at q';have hs:=((c6 r).1 h).2.1;have h2:=f8 (n:=v.branch) hs;refine fun _=>⟨fun hl=>⟨h1,?_⟩,fun hn=>⟨h1,h,q'.2,q'.1.2,by omega,?_⟩⟩
  ·unfold cX; rw [if_pos h,if_pos q,if_neg (by intro z; rw [z] at hl; simp at hl)]; exact ⟨rfl,rfl,rfl⟩
  ·unfold cX; rw [if_pos h,if_pos q,if_pos hn]; exact ⟨rfl,rfl,rfl⟩
 ·have q:bz r o v=false:=by
   cases q:bz r o v with
   | false=>rfl
   | true=>rw [e1,q] at h'; simp at h'
  unfold cX; rw [if_pos h,q]; exact ⟨rfl,rfl,rfl⟩
def Con.view (k:Con) (K:Nat) (rows:k.A->k.X->List (List D)):Con:={ k with res:=fun a x=>.sl false K (rows a x),fin:=fun _ _=>[] }
theorem Has.view {P:Program} {f:Nat} {k:Con} (H:Has P f k) (K:Nat) (rows:k.A->k.X->List (List D)) (hr:∀ a x,k.res a x = .own 8 K (rows a x)) (hb:∀ a,k.boxes a=[]) (hl:k.lends=[]):Has P f (k.view K rows):=by
 suffices key:∀ (a:k.A),k.pre a -> ∀ (c:Cx) (_:Kn k.need c) (vs:List Value) (β:Nat->Value) (fp:Nat->List (Nat × Nat)),c.n=k.n->c.pins=k.pins2 a β -> vs.length=(k.args a).length->vs.length<=k.n ->
   SatI c (k.start2 a) ⟨vs.toArray++Array.replicate (k.n - vs.length) undef,[]⟩ c.w0 β fp ->
   Calls P f vs.toArray c.w0 fun e w'=>∃ x:k.X,k.post a x /\ ∃ v,e = .returned v /\ ∃ β' fp' a',SatI c ⟨fun _=>none,ae []⟩ a' w' β' fp'/\RelL w' (ae []) β' c [.sl false K (rows a x)] [v] by
  exact ⟨H.enter,H.tot,H.nob,fun (a:k.A) ha c hky vs β fp hn hpin hlen hlen2 S=>key a ha c hky vs β fp hn hpin hlen hlen2 S,H.bldr,H.bt.imp id fun h a=>⟨(h a).1,fun x p hp=>(by cases hp)⟩⟩
 intro a ha c hky vs β fp hn hpin hlen hlen2 S;have hp:c.pins=[]:=by rw [hpin]; simp -implicitDefEqProofs [Con.pins2,hb,hl]
 refine (H.calls a ha c hky vs β fp hn hpin hlen hlen2 S).mono ?_;rintro e w' ⟨x,hx,v,rfl,β',fp',a',E,hv⟩;rw [hr] at hv;have hv2:∃ e,Vw w' (ae (k.fin a x)) β' c false [.sl e K (rows a x)] [v]:=by cases hv with | own _ h2 _ _=>exact h2
 obtain ⟨e,f,h1,h2⟩:=hv2;refine ⟨x,hx,v,rfl,β',fp',a',⟨?_,?_,?_,?_,?_,E.fg,E.old,E.os,E.tape,E.output,E.size,E.defers,E.tn,by simp -implicitDefEqProofs [hp]⟩,.sl ⟨e,f,h1,fun z hz=>⟨⟨?_,?_⟩,(h2 z hz).2⟩⟩ .lnil⟩
 ·intro t g av h; cases h
 ·intro h blk hm; cases hm
 ·intro h blk hm; cases hm
 ·intro h h' blk blk' hm; cases hm
 ·intro h blk hm; cases hm
 ·rintro ⟨h,ty,vs,hm,_⟩; cases hm
 ·intro h e k d R n cc hm; cases hm
--TAB bO
--TAB bO
def qo:Con:=.fn 8 (List Bool) (fun a=>[.sl true 1 (aE a)]) (fun a=>a ≠ []/\a.length<=1048576) (fun a=>.own 8 1 (aE a)) (fun a=>yZ 8 a)
theorem CJ:Has Tryz.prog 169 qo:=by
 refine ah mixed c9 HasL.nil [0,2] ((fun a n (_:Nat)=>(fun _=>aw) a n)) [] Tryz.func169 (by unfold Tryz.f169; rfl) (fun _=>⟨(),trivial⟩) ?_
 intro (a:List Bool) ha;obtain ⟨h0,ha⟩:a ≠ []/\a.length<=1048576:=ha;have h1:¬ aE a=[]:=by simpa [aE] using h0
 simp (maxSteps:=8000000) -implicitDefEqProofs [-Bool.exists_bool,qo,Con.fn,bO,ag,h1]
 try dsimp only
 refine ⟨fun x hx d hd=>?_,by omega⟩
 simp only [aE,List.mem_map] at hx;obtain ⟨y,_,rfl⟩:=hx;simp only [cn,List.mem_singleton] at hd;subst hd; trivial
def dd (r:RepoD) (a b:Int) (i:Nat):List Bool:=(List.range r.commits.length).map fun j=>decide (j < i) && (isT (anc r a) j && isT (anc r b) j)
theorem CU (r a b i):(dd r a b i).length=r.commits.length:=by simp -implicitDefEqProofs [dd]
theorem wK (r a b):dd r a b 0=List.replicate r.commits.length false:=by
 unfold dd;apply List.ext_getElem
 ·simp
 ·intro i h1 h2; simp
theorem wL {r a b} {i j:Nat} (h:j < (dd r a b i).length):(dd r a b i)[j]=(decide (j < i) && (isT (anc r a) j && isT (anc r b) j)):=by simp -implicitDefEqProofs [dd]
theorem CV {r a b} {i:Nat}:(dd r a b i).set i (isT (anc r a) i && isT (anc r b) i)=dd r a b (i+1):=by
 apply List.ext_getElem
 ·simp -implicitDefEqProofs [dd]
 ·intro j h1 h2;rw [List.getElem_set,wL h2];by_cases e:i=j
  ·subst e; simp
  ·rw [if_neg e,wL];have:decide (j < i+1)=decide (j < i):=by rw [decide_eq_decide]; omega
   rw [this]
theorem CT (r a b):dd r a b r.commits.length=aO r a b:=by
 unfold dd aO;apply List.map_congr_left;intro j hj;have:j < r.commits.length:=by simpa using hj
 simp -implicitDefEqProofs [this]
theorem BJ {r:RepoD} {L:List Int} {C:List Bool} {i:Nat} (h:i < L.length):dK r (L.take (i+1)) C=dM (dK r (L.take i) C) L[i] (al (anc r L[i])):=by
 unfold dK;rw [bM h,List.foldl_append]; rfl
theorem CL {i:Int} {ks:List Int} {l:List Bool} {k:Nat} (h:k < ks.length):dM l i (ks.take (k+1))=if ks[k]=i then dM l i (ks.take k) else (dM l i (ks.take k)).set ks[k].toNat false:=by
 unfold dM;rw [bM h,List.foldl_append]; rfl
def bsA (r:RepoD) (a b:Int):Inv:=⟨Nat,fun i=>⟨[(3,true,.ptr 10 0),(6,true,.nil),(7,true,.own 11 1 (aE (anc r a))),(8,true,.own 12 1 (aE (anc r b))),(9,true,.own 13 1 (aE (dd r a b i))),(27,true,.int .i64 r.commits.length),(28,true,.int .i64 i)],
 [(10,cP r),(11,.own 4 1 true (aE (anc r a))),(12,.own 4 1 true (aE (anc r b))),(13,.own 4 1 true (aE (dd r a b i)))]⟩,fun i=>i<=r.commits.length,fun i=>r.commits.length - i⟩
def bsB (r:RepoD) (a b:Int):Inv:=⟨Nat,fun i=>⟨[(3,true,.ptr 10 0),(6,true,.nil),(11,true,.own 14 1 (aE (dK r ((al (aO r a b)).take i) (aO r a b)))),(48,true,.own 15 1 (aj (al (aO r a b)))),(49,true,.int .i64 (al (aO r a b)).length),(50,true,.int .i64 i)],
 [(10,cP r),(14,.own 4 1 true (aE (dK r ((al (aO r a b)).take i) (aO r a b)))),(15,.own 3 1 true (aj (al (aO r a b))))]⟩,fun i=>i<=(al (aO r a b)).length,fun i=>(al (aO r a b)).length - i⟩
def bsX (r:RepoD) (a b:Int) (g:Nat):Int:=(al (aO r a b)).getD g 0
def bsT (r:RepoD) (a b:Int) (g k:Nat):List Bool:=dM (dK r ((al (aO r a b)).take g) (aO r a b)) (bsX r a b g) ((al (anc r (bsX r a b g))).take k)
def bsC (r:RepoD) (a b:Int) (g:Nat):Inv:=⟨Nat,fun k=>⟨[(3,true,.ptr 10 0),(6,true,.nil),(11,true,.own 14 1 (aE (bsT r a b g k))),(13,true,.int .i64 (bsX r a b g)),(48,true,.own 15 1 (aj (al (aO r a b)))),(49,true,.int .i64 (al (aO r a b)).length),(50,true,.int .i64 g),(57,true,.own 9 1 (aj (al (anc r (bsX r a b g))))),(58,true,.int .i64 (al (anc r (bsX r a b g))).length),(59,true,.int .i64 k)],
 [(10,cP r),(14,.own 4 1 true (aE (bsT r a b g k))),(15,.own 3 1 true (aj (al (aO r a b)))),(9,.own 3 1 true (aj (al (anc r (bsX r a b g)))))]⟩,fun k=>g < (al (aO r a b)).length/\k<=(al (anc r (bsX r a b g))).length,fun k=>(al (anc r (bsX r a b g))).length - k⟩
def nm (r:RepoD) (a b:Int) (n g:Nat):Inv:=if n=4 then bsA r a b else if n=10 then bsB r a b else bsC r a b g
theorem BQ (r a b g):nm r a b 4 g=bsA r a b:=rfl
theorem BO (r a b g):nm r a b 10 g=bsB r a b:=rfl
theorem BP (r a b g):nm r a b 13 g=bsC r a b g:=rfl
def qj:Con:=.fn 73 (RepoD × Int × Int) (fun a=>[bh a.1,.int .i64 a.2.1,.int .i64 a.2.2]) (fun a=>aQ a.1=true/\(0<=a.2.1/\a.2.1 < a.1.commits.length)/\(0<=a.2.2/\a.2.2 < a.1.commits.length)) (fun a=>.own 8 1 (aj (db a.1 a.2.1 a.2.2))) (fun a=>j7 8 (db a.1 a.2.1 a.2.2))
theorem BH:Has Tryz.prog 91 qj:=by
 refine ah mixed c9 (HasL.cons vU (HasL.cons CJ (HasL.cons GN HasL.nil))) [0,1,2,3,6,7,8,9,10,11,13,15,27,28,48,49,50,57,58,59] (fun a=>nm a.1 a.2.1 a.2.2) [] Tryz.func91 (by unfold Tryz.f91; rfl) (fun _=>⟨(),trivial⟩) ?_
 intro a ha;obtain ⟨r,a,b⟩:=a;obtain ⟨h1,h2,h3⟩:aQ r=true/\(0<=a/\a < r.commits.length)/\(0<=b/\b < r.commits.length):=ha;have h6:=iK h1;simp (maxSteps:=8000000) [qj,np,qo,ru,Con.fn,bO,ag,BQ,BO,BP,bsA,bsB,bsC,bu]
 try dsimp only
 try simp only [and_assoc,exists_eq_left,exists_and_left,RepoD.ex1,RepoD.eta]
 have hal:=dH r;have hC:=CU r a b;have hcb:=nV r a b;refine ⟨h1,h2.1,h2.2,h1,h3.1,h3.2,fun _=>⟨by omega,fun _ _=>⟨trivial,trivial,⟨0,?_,rfl,trivial,trivial,?_,Nat.zero_le _⟩,fun i hi=>⟨fun hlt=>?_,fun hge=>?_⟩⟩⟩⟩
 ·rw [wK,iW]
 ·rw [wK,iW]
 ·have la:i < (anc r a).length:=by rw [hal]; exact hlt
  have lb:i < (anc r b).length:=by rw [hal]; exact hlt
  have lc:i < (dd r a b i).length:=by rw [hC]; exact hlt
  have e1:Option.map cn (anc r a)[i]? = some (cn (anc r a)[i]):=by simp -implicitDefEqProofs [la]
  have e2:Option.map cn (anc r b)[i]? = some (cn (anc r b)[i]):=by simp -implicitDefEqProofs [lb]
  have s1:=CV (r:=r) (a:=a) (b:=b) (i:=i);have i1:isT (anc r a) i=(anc r a)[i]:=by simp -implicitDefEqProofs [isT,List.getD_eq_getElem?_getD,la]
  have i2:isT (anc r b) i=(anc r b)[i]:=by simp -implicitDefEqProofs [isT,List.getD_eq_getElem?_getD,lb]
  rw [i1,i2] at s1;rw [e1,e2];generalize (anc r a)[i]=x at *;generalize (anc r b)[i]=y at *;have fin:∀ z,z=(x && y) -> ∃ t',aE (dd r a b t')=(aE (dd r a b i)).set i [D.bool z]/\(t':Int)=i+1/\(aE (dd r a b i)).set i [D.bool z]=aE (dd r a b t')/\t'<=r.commits.length/\r.commits.length - t' < r.commits.length - i:=fun z hz=>by
   have e:(aE (dd r a b i)).set i [D.bool z]=aE (dd r a b (i+1)):=by rw [<- s1,hz]; exact eg _ _ _
   exact ⟨i+1,e.symm,by omega,e,by omega,by omega⟩
  simp -implicitDefEqProofs [cn,D.asBool,lc,la,lb];exact ⟨fun hx=>⟨by omega,by omega,fun _ _=>fin y (by rw [hx]; rfl)⟩,fun hx=>⟨by omega,by omega,fun _ _=>fin false (by rw [hx]; rfl)⟩⟩
 ·have:i=r.commits.length:=by omega
  subst this;rw [CT];have hne:¬ aO r a b=[]:=fun e=>by rw [e] at hcb; simp at hcb; omega
  have hmem:∀ x ∈ al (aO r a b),0<=x/\x < r.commits.length:=fun x hx=>by
   obtain ⟨i,q1,_,rfl⟩:=listT_mem.1 hx;rw [hcb] at q1;omega
  refine ⟨hne,by omega,by omega,fun _=>⟨⟨0,by simp -implicitDefEqProofs [dK],rfl,rfl,rfl,by simp -implicitDefEqProofs [dK],rfl,Nat.zero_le _⟩,fun i hi=>⟨fun hlt=>⟨hlt,fun _=>?_⟩,fun hge=>?_⟩⟩⟩
  ·have hx:=hmem _ (List.getElem_mem hlt);have e1:Option.map aq (al (aO r a b))[i]? = some (aq (al (aO r a b))[i]):=by simp -implicitDefEqProofs [hlt]
   have hgx:bsX r a b i=(al (aO r a b))[i]:=by simp -implicitDefEqProofs [bsX,List.getD_eq_getElem?_getD,hlt]
   have hs:=BJ (r:=r) (C:=aO r a b) hlt;have hT:∀ k,bsT r a b i k=dM (dK r ((al (aO r a b)).take i) (aO r a b)) (bsX r a b i) ((al (anc r (bsX r a b i))).take k):=fun _=>rfl;have hbl:=ni r ((al (aO r a b)).take i) (aO r a b);rw [e1];rw [<- hgx] at hs hx ⊢;generalize hxx:bsX r a b i=x at *;simp -implicitDefEqProofs [aq,D.asInt,h1,hx.1,hx.2,hal];refine ⟨by omega,fun _=>⟨i,?_⟩⟩
   rw [hxx];have hLm:∀ y ∈ al (anc r x),0<=y/\y < r.commits.length:=fun y hy=>by
    obtain ⟨i,q1,_,rfl⟩:=listT_mem.1 hy;rw [hal] at q1;omega
   generalize al (anc r x)=L at *;have hbT:∀ k,(bsT r a b i k).length=r.commits.length:=fun k=>by rw [hT,wJ,hbl,hcb]
   refine ⟨⟨0,by rw [hT]; simp -implicitDefEqProofs [dM],rfl,rfl,rfl,rfl,rfl,by rw [hT]; simp -implicitDefEqProofs [dM],rfl,hlt,Nat.zero_le _⟩,fun k hg hk=>⟨fun hl2=>⟨hl2,fun _=>?_⟩,fun hge2=>?_⟩⟩
   ·have e2:Option.map aq L[k]? = some (aq L[k]):=by simp -implicitDefEqProofs [List.getElem?_eq_getElem hl2]
    have hy:=hLm _ (List.getElem_mem hl2);have hc:=CL (i:=x) (l:=dK r ((al (aO r a b)).take i) (aO r a b)) hl2;rw [<- hT,<- hT] at hc;have hbk:=hbT k;rw [e2];generalize L[k]=y at *;simp -implicitDefEqProofs [aq,hbk];exact ⟨fun hne=>⟨hy.1,by omega,fun _ _=>⟨by omega,by omega,by omega,fun _ _=>⟨k+1,by rw [hc,if_neg hne]; exact (eg _ _ _).symm,by omega,by rw [hc,if_neg hne]; exact eg _ _ _,hg,by omega,by omega⟩⟩⟩,
     fun heq=>⟨by omega,by omega,fun _ _=>⟨k+1,by rw [hc,if_pos heq],by omega,by rw [hc,if_pos heq],hg,by omega,by omega⟩⟩⟩
   ·have:k=L.length:=by omega
    subst this;have e3:bsT r a b i L.length=dK r ((al (aO r a b)).take (i+1)) (aO r a b):=by rw [hT,List.take_length,hs]
    rw [e3];exact ⟨by omega,by omega,fun _ _=>⟨i+1,rfl,by omega,rfl,by omega,by omega⟩⟩
  ·have:i=(al (aO r a b)).length:=by omega
   subst this;rw [List.take_length];have hbl:=ni r (al (aO r a b)) (aO r a b);exact ⟨by omega,rfl,rfl⟩
--TAB bO
theorem zL {r:RepoD} (h:aQ r=true):cE r/\fj r:=by
 have h1:=iK h;have hc:∀ c ∈ r.commits,c.parents.length<=2/\aC c.tree=true:=fun c hc=>by
  obtain ⟨i,hi,rfl⟩:=List.getElem_of_mem hc;exact ⟨(jr h hi).1,(jr h hi).2.2⟩
 have hh:r.heads.length<=5:=by
  rw [dS] at h;exact ((gq _ _).1 ((c6 r).1 h).2.1).1
 have ht:∀ t:List FileD,aC t=true->t.length<=8:=fun t q=>(ly t (by rw [<- fW]; exact q)).1
 refine ⟨⟨by omega,fun c q=>⟨by have:=(hc c q).1; omega,by have:=ht _ (hc c q).2; omega,fun g hg=>by have:=(pF (hc c q).2 g hg).2.1; omega⟩,by omega⟩,by omega,fun c q f hf=>by have:=(pF (hc c q).2 f hf).1.2; omega⟩
theorem lC {t:List FileD} (h:aC t=true):cY t:=fun f hf=>by have:=(pF h f hf).1.2; omega
def nr:Con:=.fn 23 (RepoD × Int × Int) (fun a=>[bh a.1,.int .i64 a.2.1,.int .i64 a.2.2]) (fun a=>aQ a.1=true/\(0<=a.2.1/\a.2.1 < a.1.commits.length)/\(0<=a.2.2/\a.2.2 < a.1.commits.length)) (fun a=>.sl true 2 (ac (cz a.1 a.2.1 a.2.2))) (fun _=>[])
theorem wq:Has Tryz.prog 46 nr:=by
 refine ah mixed c9 (HasL.cons BH (HasL.cons vr HasL.nil)) [0,1,2,3,6,7] ((fun a n (_:Nat)=>(fun _=>aw) a n)) [] Tryz.func46 (by unfold Tryz.f46; rfl) (fun _=>⟨(),trivial⟩) ?_
 intro a ha;obtain ⟨r,a,b⟩:=a;obtain ⟨h1,h2,h3⟩:aQ r=true/\(0<=a/\a < r.commits.length)/\(0<=b/\b < r.commits.length):=ha;simp (maxSteps:=8000000) [nr,qj,lS,Con.fn,bO,ag,bu]
 try dsimp only
 try simp only [and_assoc,exists_eq_left,exists_and_left,RepoD.ex1,RepoD.eta]
 have hb:cz r a b=match (db r a b).getLast? with | none=>[] | some c=>aG r c:=by unfold cz; rw [<- wt]; rfl
 have hin:=fun c=>@wu r a b c;refine ⟨h1,h2.1,h2.2,h3.1,h3.2,fun _=>⟨fun h=>?_,fun h=>?_⟩⟩
 ·rw [hb,h]; rfl
 ·have hl:0 < (db r a b).length:=List.length_pos_iff.2 h;have hlt:(db r a b).length - 1 < (db r a b).length:=by omega
  have e1:Option.map aq (db r a b)[(db r a b).length - 1]? = some (aq (db r a b)[(db r a b).length - 1]):=by simp -implicitDefEqProofs [List.getElem?_eq_getElem hlt]
  have hg:(db r a b).getLast? = some (db r a b)[(db r a b).length - 1]:=by rw [List.getLast?_eq_getElem?,List.getElem?_eq_getElem hlt]
  have hc:=hin _ (List.getElem_mem hlt);rw [hb,hg,e1];generalize (db r a b)[(db r a b).length - 1]=c at *;generalize (db r a b).length=m at *;have q1:c.toNat < r.commits.length:=by omega
  simp -implicitDefEqProofs [aq,D.asInt,aG,List.getD_eq_getElem?_getD]
  repeat' (first | intro _ | apply And.intro)
  all_goals omega
theorem EO {o a b:List FileD}:aC (eh o a b).1=true:=by
 unfold eh;split
 ·split
  ·rename_i h; rw [fW]; exact EK h
  ·rfl
 ·rfl
theorem Am {t:List FileD} (h:aC t=true):t.length<=1048576 /\ ∀ f ∈ t,f.text.length<=1048576:=by
 have h1:=ly t (by rw [<- fW]; exact h)
 exact ⟨by omega,fun f hf=>by have:=h1.2 f hf; omega⟩
theorem CO {r:RepoD} (h:aQ r=true) {n:Str} {c:CommitD} (hc:aC c.tree=true):fj (cmL r n c):=by
 have h1:=iK h;refine ⟨by simp -implicitDefEqProofs [cmL]; omega,fun x hx f hf=>?_⟩
 have hx:x ∈ r.commits++[c]:=hx;rcases List.mem_append.1 hx with hx | hx
 ·exact (zL h).2.2 x hx f hf
 ·rw [List.mem_singleton.1 hx] at hf;exact lC hc f hf
def nS:Con:=.fn 89 (RepoD × Str × Str × Int) (fun a=>[bh a.1,.str a.2.1,.str a.2.2.1,.int .i64 a.2.2.2]) (fun a=>aQ a.1=true) (fun a=>.tup [.agg [.own 8 3 (az (bC a.1 a.2.1 a.2.2.1 a.2.2.2).1.commits),.own 9 2 (ai (bC a.1 a.2.1 a.2.2.1 a.2.2.2).1.heads)],.int .i64 (bC a.1 a.2.1 a.2.2.1 a.2.2.2).2]) (fun a=>iD 8 (bC a.1 a.2.1 a.2.2.1 a.2.2.2).1.commits++gD 9 (bC a.1 a.2.1 a.2.2.1 a.2.2.2).1.heads)
theorem Ao:Has Tryz.prog 57 nS:=by
 refine ah mixed c9 (HasL.cons ng (HasL.cons j4 (HasL.cons xa (HasL.cons uB (HasL.cons vU (HasL.cons zy (HasL.cons wq (HasL.cons vr (HasL.cons EP (HasL.cons CX (HasL.cons Lh HasL.nil))))))))))) [0,1,2,3,4,8,9,10,11,12,13] ((fun a n (_:Nat)=>(fun _=>aw) a n)) [16456,16465,16466] Tryz.func57 (by unfold Tryz.f57; rfl) (fun _=>⟨(),trivial⟩) ?_
 intro a ha;obtain ⟨r,n,w,b⟩:=a;replace ha:aQ r=true:=ha;simp (maxSteps:=8000000) [-kStep_move,-kStepC_move,-Bool.exists_bool,nS,kC,iw,nu,lP,np,nN,lh,nr,lS,qE,qp,sD,sk,Con.fn,bO,ag,bu]
 try dsimp only
 try simp only [and_assoc,exists_eq_left,exists_and_left,RepoD.ex1,RepoD.eta]
 obtain ⟨hz,hp⟩:=zL ha;have hn:=iK ha;refine ⟨fun h h'=>⟨h,h',by omega⟩,?_,fun _=>⟨fun h=>?_,fun c1 c2 c3 c4=>?_⟩⟩
 ·rcases Int.lt_or_le (atL r.heads n) 0 with h | h
  ·exact .inl (.inl h)
  ·cases hw:aM w with
   | false=>exact .inl (.inr rfl)
   | true=>exact .inr ⟨h,rfl⟩
 ·have e:bC r n w b=(r,1):=Lj ha (by rcases h with (h | h) | h | h; exact .inl h; exact .inr (.inl h); exact .inr (.inr (by omega)); exact .inr (.inr (by omega)))
  rw [e]; exact ⟨hz,rfl,rfl,rfl,rfl,rfl⟩
 ·have hlt:=qa ha c1;have hb:b < r.commits.length:=by omega
  have hla:=dH r;have la:b.toNat < (anc r (atL r.heads n)).length:=by rw [hla]; omega
  have lb:(atL r.heads n).toNat < (anc r b).length:=by rw [hla]; omega
  have e1:Option.map cn (anc r (atL r.heads n))[b.toNat]? = some (cn (anc r (atL r.heads n))[b.toNat]):=by simp -implicitDefEqProofs [la]
  have e2:Option.map cn (anc r b)[(atL r.heads n).toNat]? = some (cn (anc r b)[(atL r.heads n).toNat]):=by simp -implicitDefEqProofs [lb]
  have i1:isT (anc r (atL r.heads n)) b.toNat=(anc r (atL r.heads n))[b.toNat]:=by simp -implicitDefEqProofs [isT,List.getD_eq_getElem?_getD,la]
  have i2:isT (anc r b) (atL r.heads n).toNat=(anc r b)[(atL r.heads n).toNat]:=by simp -implicitDefEqProofs [isT,List.getD_eq_getElem?_getD,lb]
  have U2:=@Lk r n w b ha c1 c2 ⟨c3,hb⟩;have U3:=@Ll r n w b ha c1 c2 ⟨c3,hb⟩;have U4:=@Lm r n w b ha c1 c2 ⟨c3,hb⟩;rw [i1] at U2 U3 U4;rw [i2] at U3 U4;have hla1:=hla (atL r.heads n);have hlb1:=hla b;rw [e1,e2];generalize (anc r (atL r.heads n))[b.toNat]=x at *;generalize (anc r b)[(atL r.heads n).toNat]=y at *;have p1:=lC (wo ha (atL r.heads n) b);have p2:=lC (mS ha ⟨c1,hlt⟩);have p3:=lC (mS ha ⟨c3,hb⟩);simp -implicitDefEqProofs [cn,D.asBool,ha,hla1,hlb1,c1,c3,hlt,hb,hz];have ta:aG r (atL r.heads n)=r.commits[(atL r.heads n).toNat].tree:=by simp -implicitDefEqProofs [aG,List.getD_eq_getElem?_getD,show (atL r.heads n).toNat < r.commits.length by omega]
  have tb:aG r b=r.commits[b.toNat].tree:=by simp -implicitDefEqProofs [aG,List.getD_eq_getElem?_getD,show b.toNat < r.commits.length by omega]
  have jt:=@EO (cz r (atL r.heads n) b) (aG r (atL r.heads n)) (aG r b);rw [ta] at p2;rw [tb] at p3;rw [ta,tb] at U4 jt;generalize eh (cz r (atL r.heads n) b) r.commits[(atL r.heads n).toNat].tree r.commits[b.toNat].tree=J at *;refine ⟨fun hx=>by rw [U2 hx]; exact ⟨rfl,rfl,rfl,rfl,rfl⟩,fun hx=>⟨fun hy=>by rw [U3 hx hy]; exact ⟨hz.2.2,rfl,rfl,rfl,rfl,rfl⟩,fun hy=>⟨p1,p2,p3,?_⟩⟩⟩
  have U4:=U4 hx hy;clear U2 U3;refine ⟨fun hj=>by rw [U4,if_neg (by simp -implicitDefEqProofs [hj])]; exact ⟨rfl,rfl,rfl,rfl,rfl⟩,fun hj=>⟨[atL r.heads n,b],rfl,rfl,hz.2.2,hz.1,(Am jt).1,(Am jt).2,CO ha jt,?_⟩⟩
  rw [if_pos hj] at U4;rw [U4];exact ⟨fun h=>by simp -implicitDefEqProofs [h],fun h=>by simp -implicitDefEqProofs [h]⟩
def sq:Con:=.fn 21 (RepoD × Str × Str × Int) (fun a=>[bh a.1,.str a.2.1,.str a.2.2.1,.int .i64 a.2.2.2]) (fun a=>fj a.1) (fun a=>.tup [.agg [.own 8 3 (az (bC a.1 a.2.1 a.2.2.1 a.2.2.2).1.commits),.own 9 2 (ai (bC a.1 a.2.1 a.2.2.1 a.2.2.2).1.heads)],.int .i64 (bC a.1 a.2.1 a.2.2.1 a.2.2.2).2]) (fun a=>iD 8 (bC a.1 a.2.1 a.2.2.1 a.2.2.2).1.commits++gD 9 (bC a.1 a.2.1 a.2.2.1 a.2.2.2).1.heads)
theorem Lp:Has Tryz.prog 25 sq:=by
 refine ah mixed c9 (HasL.cons lr (HasL.cons Ao HasL.nil)) [0,1,2,3,4,8,9] ((fun a n (_:Nat)=>(fun _=>aw) a n)) [] Tryz.func25 (by unfold Tryz.f25; rfl) (fun _=>⟨(),trivial⟩) ?_
 intro a ha;obtain ⟨r,n,w,b⟩:=a;replace ha:fj r:=ha;simp (maxSteps:=8000000) [sq,iT,nS,Con.fn,bO,ag,bu]
 try dsimp only
 try simp only [and_assoc,exists_eq_left,exists_and_left,RepoD.ex1,RepoD.eta]
 refine ⟨ha,fun h=>?_,fun h=>?_⟩
 ·rw [Ln h]; simp -implicitDefEqProofs [noR]
 ·simp -implicitDefEqProofs [h]
--TAB aV
theorem KL {l:List ChangeD} {i:Nat} (h:i < l.length):eF (l.take (i+1))=eF (l.take i)++(if l[i].kind=4 then [l[i].path,l[i].to_] else [l[i].path]):=by
 unfold eF;rw [List.take_succ_eq_append_getElem h,List.flatMap_append]; simp
theorem Ae (l:List ChangeD):(eF l).length<=2 * l.length:=by
 unfold eF
 induction l with
 | nil=>simp
 | cons c l ih =>
  rw [List.flatMap_cons,List.length_append,List.length_cons];have:(if c.kind=4 then [c.path,c.to_] else [c.path]).length<=2:=by split <;> simp
  omega
def rL:Con:=.fn 29 (List ChangeD) (fun l=>[.sl true 5 (aR l)]) (fun l=>l.length<=16) (fun l=>.own 8 1 (aa (ck (eF l)))) (fun l=>dw 8 (ck (eF l)))
theorem Ip:Has Tryz.prog 44 rL:=by
 refine ah mixed bK (HasL.cons uZ HasL.nil) [0,2,3,5,6,7,8] ((fun a n (_:Nat)=>(fun l _=>⟨Nat,fun i=>⟨[(2,true,.nil),(3,true,.own 9 1 (aa (eF (l.take i)))),(6,true,.sl true 5 (aR l)),(7,true,.int .i64 l.length),(8,true,.int .i64 i)],[(9,.own 9 1 true (aa (eF (l.take i))))]⟩,fun i=>i<=l.length,fun i=>l.length - i⟩) a n)) [] Tryz.func44 (by unfold Tryz.f44; rfl) (fun _=>⟨(),trivial⟩) ?_
 intro (l:List ChangeD) ha;replace ha:l.length<=16:=ha;simp (maxSteps:=8000000) -implicitDefEqProofs [rL,cSortS,Con.fn,aV,ag]
 try dsimp only
 refine fun _=>⟨⟨0,⟨⟨rfl,rfl⟩,rfl⟩,Nat.zero_le _⟩,fun t ht=>⟨fun hlt=>⟨hlt,fun _=>?_⟩,fun hge=>by rw [List.take_of_length_le hge]; exact ⟨by have:=Ae l; omega,rfl,rfl⟩⟩⟩
 have q1:Option.map cL l[t]? = some (cL l[t]):=by simp -implicitDefEqProofs [hlt]
 have st:=KL hlt;have k1:=Ae (l.take t);rw [List.length_take] at k1;rw [q1];generalize eF (l.take t)=O at *;generalize l[t]=y at *;simp -implicitDefEqProofs [cL,D.asStr,D.asInt,D.asRows];have e1:aa O++[[D.str y.path]]=aa (O++[y.path]):=aU _ _;have e2:aa O++[[D.str y.path],[D.str y.to_]]=aa (O++[y.path,y.to_]):=by simp -implicitDefEqProofs [aa,ak]
 refine ⟨⟨by omega,by omega⟩,fun h=>⟨⟨by omega,by omega⟩,⟨by omega,by omega⟩,fun _ _=>⟨t+1,⟨⟨?_,by omega⟩,?_⟩,by omega,by omega⟩⟩,fun h=>⟨⟨by omega,by omega⟩,fun _ _=>⟨t+1,⟨⟨?_,by omega⟩,?_⟩,by omega,by omega⟩⟩⟩
 ·rw [st,if_pos h,e2]
 ·rw [st,if_pos h,e2]
 ·rw [st,if_neg h,e1]
 ·rw [st,if_neg h,e1]
theorem Aj (l:List ChangeD) (c:ChangeD):aF (l++[c])=aF l++(if c.kind=4 then [c.to_] else []):=by
 unfold aF;rw [List.filter_append,List.map_append]
 congr 1
 by_cases h:c.kind=4
 ·rw [if_pos h]; simp -implicitDefEqProofs [h]
 ·rw [if_neg h]; simp -implicitDefEqProofs [h]
abbrev oM (a b l:List FileD):List ChangeD:=aN aF a b l
abbrev tM (a b l:List FileD):List Str:=aF (aN aF a b l)
def chO (a b:List FileD):Inv:=⟨Nat,fun i=>⟨[(0,true,.sl true 2 (ac a)),(1,true,.sl true 2 (ac b)),(4,true,.nil),(5,true,.own 10 5 (aR (oM a b (a.take i)))),(6,true,.own 11 1 (aa (tM a b (a.take i)))),(28,true,.sl true 2 (ac a)),(29,true,.int .i64 a.length),(30,true,.int .i64 i)],[(10,.own 116 5 true (aR (oM a b (a.take i)))),(11,.own 9 1 true (aa (tM a b (a.take i))))]⟩,fun i=>i<=a.length,fun i=>a.length - i⟩
def chK (a b:List FileD) (g:Nat):Inv:=⟨Nat,fun k=>⟨[(0,true,.sl true 2 (ac a)),(1,true,.sl true 2 (ac b)),(4,true,.nil),(5,true,.own 10 5 (aR (oM a b (a.take g)))),(6,true,.own 11 1 (aa (tM a b (a.take g)))),(8,true,.ptr 14 0),(11,true,.ptr 12 0),(28,true,.sl true 2 (ac a)),(29,true,.int .i64 a.length),(30,true,.int .i64 g),(47,true,.sl true 2 (ac b)),(48,true,.int .i64 b.length),(49,true,.int .i64 k)],[(10,.own 116 5 true (aR (oM a b (a.take g)))),(11,.own 9 1 true (aa (tM a b (a.take g)))),(12,.box 116 [.int .i64 2,.str (a.getD g default).path,.str [],.own 13 1 (aa (a.getD g default).text),.nil]),(13,.own 9 1 true (aa (a.getD g default).text)),(14,.box 119 [.str (a.getD g default).path,.sl true 1 (aa (a.getD g default).text)])]⟩,fun k=>k<=b.length/\g < a.length/\cq a (b.drop k) (a.getD g default).text (tM a b (a.take g))=cq a b (a.getD g default).text (tM a b (a.take g)),fun k=>b.length - k⟩
def chT (a b:List FileD):Inv:=⟨Nat,fun i=>⟨[(0,true,.sl true 2 (ac a)),(1,true,.sl true 2 (ac b)),(4,true,.nil),(5,true,.own 10 5 (aR (cK aF a b (b.take i)))),(6,true,.own 11 1 (aa (tM a b a))),(112,true,.sl true 2 (ac b)),(113,true,.int .i64 b.length),(114,true,.int .i64 i)],[(10,.own 116 5 true (aR (cK aF a b (b.take i)))),(11,.own 9 1 true (aa (tM a b a)))]⟩,fun i=>i<=b.length,fun i=>b.length - i⟩
def nT (a b:List FileD) (n g:Nat):Inv:=if n=6 then chO a b else if n=24 then chT a b else chK a b g
theorem CD (a b g):nT a b 6 g=chO a b:=rfl
theorem CC (a b g):nT a b 24 g=chT a b:=rfl
theorem CB (a b g):nT a b 11 g=chK a b g:=rfl
def qm:Con:=.fn 145 (List FileD × List FileD) (fun a=>[.sl true 2 (ac a.1),.sl true 2 (ac a.2)]) (fun a=>aC a.1=true/\aC a.2=true) (fun a=>.own 8 5 (aR (fG aF a.1 a.2))) (fun a=>y7 8 (fG aF a.1 a.2))
theorem CE:Has Tryz.prog 45 qm:=by
 refine ah mixed bK (HasL.cons pG (HasL.cons xr (HasL.cons sP (HasL.cons C9 (HasL.cons lV (HasL.cons wR HasL.nil)))))) [0,1,4,5,6,8,9,10,11,13,15,17,19,28,29,30,47,48,49,112,113,114] (fun a=>nT a.1 a.2) [89,109,141] Tryz.func45 (by unfold Tryz.f45; rfl) (fun _=>⟨(),trivial⟩) ?_
 intro a ha;obtain ⟨a,b⟩:=a;obtain ⟨h1,h2⟩:aC a=true/\aC b=true:=ha;simp (maxSteps:=8000000) -implicitDefEqProofs [qm,kG,nv,lJ,qr,jL,ns,Con.fn,aV,ag,CD,CB,CC,chO,chK,chT]
 try dsimp only
 have g1:TrOk a:=ik (by rw [<- fW]; exact h1)
 have g2:TrOk b:=ik (by rw [<- fW]; exact h2)
 refine ⟨lC h1,fun h=>(by rw [h1] at h; cases h),fun _=>⟨lC h2,fun h=>(by rw [h2] at h; cases h),fun _ _=>⟨⟨0,⟨⟨rfl,rfl,rfl⟩,rfl,rfl⟩,Nat.zero_le _⟩,fun t ht=>⟨fun hlt=>⟨hlt,fun _=>?_⟩,fun hge=>?_⟩⟩⟩⟩
 ·have qq:Option.map an a[t]? = some (an a[t]):=by simp -implicitDefEqProofs [hlt]
  have bg:a[t]?.getD default=a[t]:=by simp -implicitDefEqProofs [hlt]
  have i1:=s9 lx g1 g2 t ht;have st:aN aF a b (a.take (t+1))=cV aF a b (aN aF a b (a.take t)) a[t]:=uz hlt;rw [qq];unfold oM tM;simp -implicitDefEqProofs [an,D.asStr,D.asRows,sX];have m1:=List.getElem_mem hlt;have tl:∀ {x:List Str},aD x=true->x.length<=10:=fun h=>by unfold aD at h; simp only [Bool.and_eq_true,decide_eq_true_eq] at h; exact h.1
  have ta:∀ f ∈ a,f.text.length<=1048576:=fun f hf=>by have:=tl (g1.ok f hf).2; omega
  have tb:∀ f ∈ b,f.text.length<=1048576:=fun f hf=>by have:=tl (g2.ok f hf).2; omega
  have t1:=tl (g1.ok _ m1).2;have l0:=i1.len;have l1:=g1.len;have l2:=g2.len;rw [List.length_take] at l0;generalize hO:aN aF a b (a.take t)=O at *;have s3:=iX O 3 a[t].path [] [] (gP a[t].text (am b a[t].path).1);have s2:=iX O 2 a[t].path [] a[t].text [];have tO:(aF O).length<=O.length:=by unfold aF; rw [List.length_map]; exact List.length_filter_le _ _
  have ts:∀ c:ChangeD,¬ c.kind=4->aF (O++[c])=aF O:=fun c h=>by rw [Aj,if_neg h,List.append_nil]
  refine ⟨_,_,⟨rfl,rfl⟩,tb,fun hb=>⟨_,_,⟨rfl,rfl⟩,fun he=>⟨⟨by omega,by omega⟩,fun _ _=>⟨t+1,?_,by omega,by omega⟩⟩,fun hne=>⟨fun _=>⟨_,_,⟨rfl,rfl⟩,⟨by omega,?_⟩,⟨by omega,by omega⟩,⟨by omega,by omega⟩,fun _ _=>⟨t+1,?_,by omega,by omega⟩⟩,fun h=>(by rw [hb] at h; cases h)⟩⟩,fun hb=>⟨fun h=>(by rw [hb] at h; cases h),fun _=>⟨by omega,fun _=>⟨t,⟨0,⟨⟨hO,by rw [hO],rfl,rfl⟩,⟨by rw [bg],by rw [bg]⟩,hO.symm,by rw [hO],by rw [bg]⟩,Nat.zero_le _,hlt,rfl⟩,?_⟩⟩⟩⟩
  ·have e:aN aF a b (a.take (t+1))=O:=by rw [st]; unfold cV; rw [if_pos hb,if_pos he]
   rw [e]; exact ⟨⟨rfl,rfl,by omega⟩,rfl,rfl⟩
  ·obtain ⟨g,q1,q2,q3⟩:=sZ hb;have:=tl (g2.ok g q1).2;rw [q3] at this; omega
  ·have e:aN aF a b (a.take (t+1))=O++[⟨3,a[t].path,[],[],gP a[t].text (am b a[t].path).1⟩]:=by rw [st]; unfold cV; rw [if_pos hb,if_neg hne]
   rw [e,ts _ (by simp)]; exact ⟨⟨s3.symm,rfl,by omega⟩,s3,rfl⟩
  ·rw [hO,bg];intro k hk _ hf;refine ⟨fun hkl=>⟨hkl,fun _=>?_⟩,fun hkg=>⟨⟨by omega,by omega⟩,⟨by omega,by omega⟩,fun _ _=>⟨t+1,?_,by omega,by omega⟩⟩⟩
   ·have q3:Option.map an b[k]? = some (an b[k]):=by simp -implicitDefEqProofs [hkl]
    have fs:=xh (a:=a) (x:=a[t].text) (m:=aF O) hkl;rw [hf] at fs;have m2:=List.getElem_mem hkl;have s4:=iX O 4 a[t].path b[k].path [] [];rw [q3];simp -implicitDefEqProofs [an,D.asStr,D.asRows];have nx:tgP a a[t].text (aF O) b[k]=false->cq a (b.drop (k+1)) a[t].text (aF O)=cq a b a[t].text (aF O):=fun h=>by rw [fs,if_neg (by simp -implicitDefEqProofs [h])]
    refine ⟨_,_,⟨rfl,rfl⟩,ta,fun h1=>⟨⟨by omega,by omega⟩,fun _ _=>⟨k+1,by omega,⟨by omega,hlt,nx (by simp -implicitDefEqProofs [tgP,h1])⟩,by omega⟩⟩,fun h1=>⟨_,_,⟨rfl,rfl⟩,fun h2=>⟨_,_,⟨rfl,rfl⟩,by omega,fun h3=>⟨⟨by omega,by omega⟩,⟨by omega,by omega⟩,⟨by omega,by omega⟩,fun _ _=>⟨t+1,?_,by omega,by omega⟩⟩,fun h3=>⟨⟨by omega,by omega⟩,fun _ _=>⟨k+1,by omega,⟨by omega,hlt,nx (by simp -implicitDefEqProofs [tgP,h3])⟩,by omega⟩⟩⟩,fun h2=>⟨⟨by omega,by omega⟩,fun _ _=>⟨k+1,by omega,⟨by omega,hlt,nx (by simp -implicitDefEqProofs [tgP,h2])⟩,by omega⟩⟩⟩⟩
    have n:cq a b a[t].text (aF O)=some b[k]:=by rw [fs,if_pos (by simp -implicitDefEqProofs [tgP,h1,h2,h3])]
    have e:aN aF a b (a.take (t+1))=O++[⟨4,a[t].path,b[k].path,[],[]⟩]:=by rw [st]; unfold cV; rw [if_neg (by simp -implicitDefEqProofs [hb]),n]
    have e2:aF (O++[⟨4,a[t].path,b[k].path,[],[]⟩])=aF O++[b[k].path]:=by rw [Aj,if_pos rfl]
    rw [e,e2]; exact ⟨⟨s4.symm,(aU _ _).symm,by omega⟩,s4,aU _ _⟩
   ·have n:cq a b a[t].text (aF O)=none:=by rw [<- hf,List.drop_eq_nil_of_le hkg]; rfl
    have e:aN aF a b (a.take (t+1))=O++[⟨2,a[t].path,[],a[t].text,[]⟩]:=by rw [st]; unfold cV; rw [if_neg (by simp -implicitDefEqProofs [hb]),n]
    rw [e,ts _ (by simp)]; exact ⟨⟨s2.symm,rfl,by omega⟩,s2,rfl⟩
 ·have:t=a.length:=by omega
  subst this;rw [show a.take a.length=a from List.take_length]
  unfold oM tM;have i1:=ma lx g1 g2;have l0:=i1.len;have l1:=g1.len;have l2:=g2.len;have tl:∀ {x:List Str},aD x=true->x.length<=10:=fun h=>by unfold aD at h; simp only [Bool.and_eq_true,decide_eq_true_eq] at h; exact h.1
  have ta:∀ f ∈ a,f.text.length<=1048576:=fun f hf=>by have:=tl (g1.ok f hf).2; omega
  have tO:(aF (aN aF a b a)).length<=(aN aF a b a).length:=by unfold aF; rw [List.length_map]; exact List.length_filter_le _ _
  refine fun _=>⟨⟨0,⟨⟨rfl,rfl,rfl⟩,rfl,rfl⟩,Nat.zero_le _⟩,fun k hk=>⟨fun hkl=>⟨hkl,fun _=>?_⟩,fun hkg=>by rw [List.take_of_length_le hkg]; exact ⟨rfl,rfl⟩⟩⟩
  have q3:Option.map an b[k]? = some (an b[k]):=by simp -implicitDefEqProofs [hkl]
  have i2:=(td lx g1 g2 k hk).len;rw [List.length_take] at i2;have st:cK aF a b (b.take (k+1))=dV a (aF (aN aF a b a)) (cK aF a b (b.take k)) b[k]:=vt hkl;have m2:=List.getElem_mem hkl;have t1:=tl (g2.ok _ m2).2;rw [q3];generalize hW:cK aF a b (b.take k)=W at *;have s1:=iX W 1 b[k].path [] b[k].text [];simp -implicitDefEqProofs [an,D.asStr,D.asRows,sX];have keep:((am a b[k].path).2=true \/ b[k].path ∈ aF (aN aF a b a))->cK aF a b (b.take (k+1))=W:=fun h=>by rw [st]; unfold dV; rw [if_pos h]
  refine ⟨_,_,⟨rfl,rfl⟩,ta,fun h1=>⟨⟨by omega,by omega⟩,fun _ _=>⟨k+1,⟨⟨keep (.inl h1),by omega⟩,(keep (.inl h1)).symm⟩,by omega,by omega⟩⟩,fun h1=>⟨_,_,⟨rfl,rfl⟩,by omega,fun h2=>⟨by omega,⟨by omega,by omega⟩,⟨by omega,by omega⟩,fun _ _=>⟨k+1,?_,by omega,by omega⟩⟩,fun h2=>⟨⟨by omega,by omega⟩,fun _ _=>⟨k+1,⟨⟨keep (.inr h2),by omega⟩,(keep (.inr h2)).symm⟩,by omega,by omega⟩⟩⟩⟩
  have e:cK aF a b (b.take (k+1))=W++[⟨1,b[k].path,[],b[k].text,[]⟩]:=by rw [st]; unfold dV; rw [if_neg (by simp -implicitDefEqProofs [h1,h2])]
  rw [e]; exact ⟨⟨s1.symm,by omega⟩,s1⟩
--TAB aV
def fa (l:List Str) (w:Str):List Str:=Lib.compact (ck (l++[w]))
theorem IV {l:List Str} (h:srt l) (w:Str):fa l w=aS l w:=by
 obtain ⟨h1,h2⟩:=sH (l++[w]);refine mO h1 (pd h w) fun x=>?_;unfold fa at *;rw [h2,mG];simp -implicitDefEqProofs [or_comm]
theorem yF (o:List OwnerD) (v:ReviewD):∀ (l:List Str) {x:List Str},srt x->srt (l.foldl (d5 o v) x)
 | [],_,h=>h
 | p :: l,x,h=>by
  rw [List.foldl_cons];refine yF o v l ?_;unfold d5;split
  ·exact h
  ·exact pd h _
theorem KO {l:List ChangeD} (h:OkK l) {x:Str} (hx:x ∈ dy l):bI x=true:=by
 obtain ⟨c,hc,h1⟩:=Af hx;have k:=yN h c hc;rcases h1 with rfl | ⟨rfl,h2⟩
 ·rcases k with (⟨_,k,_⟩ | ⟨_,k,_⟩) | ⟨_,k,_⟩ <;> exact k
 ·rcases k with (⟨_,_,k,_⟩ | ⟨_,_,k,_⟩) | ⟨_,_,k,_⟩
  ·exact absurd k h2
  ·exact absurd k h2
  ·exact k
theorem Iq {r:RepoD} {v:ReviewD} (h:ir r v):ck (eF (fG aF (cz r (atL r.heads v.into) (atL r.heads v.branch)) (aG r (atL r.heads v.branch))))=d7 r v:=by
 have h1:=ik (kw h.1 (atL r.heads v.into) (atL r.heads v.branch));have h2:=ik (fe h.1 (atL r.heads v.branch));rw [<- CH h1 h2,<- Is (sC iP h1 h2).1]; rfl
theorem Ir {r:RepoD} {v:ReviewD} (h:ir r v) {x:Str} (hx:x ∈ d7 r v):bI x=true:=by
 refine KO (sA h).1 ?_;have:=(uL (dy (nU r v)) (l:=[]) .nil).2 x;rcases this.1 hx with q | q
 ·cases q
 ·exact q
theorem wy (r:RepoD) (a b:Int):b9 r a b (al (anc r a)).length=((List.range r.commits.length).filter fun i=>isT (anc r a) i && isT (anc r b) i).map fun i:Nat=>(i:Int):=by
 unfold b9;rw [List.take_length];have hm:∀ i,i < r.commits.length->decide ((i:Int) ∈ al (anc r b))=isT (anc r b) i:=fun i hi=>by
  have:=kQ (l:=anc r b) (x:=(i:Int)) (by omega) (by rw [dH]; omega)
  rw [<- this]; rfl
 generalize al (anc r b)=L at *;unfold al dO;rw [List.filter_map,List.filter_filter,dH];refine congrArg (List.map _) (List.filter_congr fun i hi=>?_);have:=hm i (List.mem_range.1 hi);simp only [Function.comp_apply];rw [this,Bool.and_comm]
theorem BA (r:RepoD) (a b:Int):cz r a b=cz r b a:=by
 unfold cz eK;rw [wy r a b,wy r b a,show (fun i=>isT (anc r a) i && isT (anc r b) i)=fun i=>isT (anc r b) i && isT (anc r a) i from funext fun i=>Bool.and_comm _ _]
theorem mg (o:List OwnerD) (v:ReviewD) (l:List Str):srt (cD o v l):=yF o v l .nil
def rnI (o:List OwnerD) (v:ReviewD) (l:List Str):Inv:=⟨Nat,fun i=>⟨[(1,true,.sl true 2 (aT o)),(5,true,.ptr 10 0),(6,true,.nil),(7,true,.bool false),(10,true,.own 11 1 (aa (cD o v (l.take i)))),(57,true,.own 12 1 (aa l)),(58,true,.int .i64 l.length),(59,true,.int .i64 i)],[(10,qb v),(11,.own 9 1 true (aa (cD o v (l.take i)))),(12,.own 9 1 true (aa l))]⟩,fun i=>i<=l.length,fun i=>l.length - i⟩
def po (a:RepoD × List OwnerD × ReviewD):Prop:=(fj a.1/\cE a.1)/\j6 a.2.1/\a.2.2.yes.length<=1048575
def lQ:Con:=.fn 86 (RepoD × List OwnerD × ReviewD) (fun a=>[bh a.1,.sl true 2 (aT a.2.1),iQ a.2.2]) po (fun a=>.tup [.own 8 1 (aa (aI a.1 a.2.1 a.2.2).1),.bool (aI a.1 a.2.1 a.2.2).2]) (fun a=>dw 8 (aI a.1 a.2.1 a.2.2).1)
theorem uQ:Has Tryz.prog 15 lQ:=by
 refine ah mixed bK (HasL.cons lr (HasL.cons zb (HasL.cons zO (HasL.cons ng (HasL.cons wq (HasL.cons vr (HasL.cons CE (HasL.cons Ip (HasL.cons HR (HasL.cons wR (HasL.cons zE HasL.nil))))))))))) [0,1,2,3,5,6,7,8,9,10,12,13,57,58,59] ((fun a n (_:Nat)=>(fun a _=>rnI a.2.1 a.2.2 (d7 a.1 a.2.2)) a n)) [] Tryz.func15 (by unfold Tryz.f15; rfl) (fun _=>⟨(),trivial⟩) ?_
 intro a ha;obtain ⟨r,o,v⟩:=a;obtain ⟨⟨h1,h1'⟩,h2,h3⟩:(fj r/\cE r)/\j6 o/\v.yes.length<=1048575:=ha;simp (maxSteps:=8000000) -implicitDefEqProofs [lQ,iT,nL,nQ,kC,nr,lS,qm,rL,rI,ns,nO,Con.fn,aV,ag,bu,rnI]
 try dsimp only
 try simp -implicitDefEqProofs only [and_assoc,exists_eq_left,exists_and_left,RepoD.ex1,RepoD.eta,ReviewD.ex1,ReviewD.eta]
 have no:(ar r && el o && eC v && decide (0<=atL r.heads v.branch) && decide (0<=atL r.heads v.into))=false->(aI r o v).fst=[]/\(aI r o v).snd=false/\(aI r o v).fst=[]:=fun h=>by unfold aI bz; rw [h]; exact ⟨rfl,rfl,rfl⟩
 rw [dS];refine ⟨h1,fun h=>no (by simp -implicitDefEqProofs [h]),fun h=>⟨h2,fun h'=>no (by simp -implicitDefEqProofs [h']),fun h'=>⟨by omega,fun h''=>no (by simp -implicitDefEqProofs [h'']),fun h''=>⟨fun q=>no (by simp; omega),fun q=>⟨fun q'=>no (by simp; omega),fun q'=>?_⟩⟩⟩⟩⟩
 have hp:ir r v:=⟨h,q',q⟩;have hs:=((c6 r).1 h).2.1;have l1:=f8 (n:=v.into) hs;have l2:=f8 (n:=v.branch) hs;have tr:(r.commits[(atL r.heads v.branch).toNat]?.getD default).tree=aG r (atL r.heads v.branch):=by unfold aG; rw [List.getD_eq_getElem?_getD]
 have pe:=Iq hp;have rv:aI r o v=(cD o v (d7 r v),true):=by unfold aI; rw [if_pos (by unfold bz; simp -implicitDefEqProofs [h,h',h'',q,q'])]; rfl
 have pk:∀ x ∈ d7 r v,bI x=true:=fun x hx=>Ir hp hx;have pl:=uG hp;rw [tr,BA r (atL r.heads v.branch),pe,rv];generalize d7 r v=P at *;refine ⟨h,q,by omega,q',by omega,q,by omega,by rw [fW]; exact kw h _ _,by rw [fW]; exact fe h _,(sC lx (ik (kw h _ _)) (ik (fe h _))).2,⟨0,rfl,rfl,rfl,rfl,rfl,rfl,Nat.zero_le _⟩,fun t ht=>⟨fun hlt=>⟨hlt,fun _=>?_⟩,fun hge=>by rw [List.take_of_length_le hge]; exact ⟨rfl,rfl,rfl⟩⟩⟩
 have q1:Option.map ak P[t]? = some (ak P[t]):=by simp -implicitDefEqProofs [hlt]
 have st:=yG (o:=o) (v:=v) hlt;have ln:=ur o v (P.take t);have sr:=mg o v (P.take t);have m1:=pk _ (List.getElem_mem hlt);rw [List.length_take] at ln;rw [q1];generalize P[t]=y at *;simp -implicitDefEqProofs [ak,D.asStr];have ek:cU v (cO o y)=true->cD o v (P.take (t+1))=cD o v (P.take t):=fun h=>by rw [st]; unfold d5; rw [if_pos h]
 have e1:cU v (cO o y)=false->cD o v (P.take (t+1))=Lib.compact (ck (cD o v (P.take t)++[(ep o y).who])):=fun h=>by rw [st]; unfold d5; rw [if_neg (by simp -implicitDefEqProofs [h])]; exact (IV sr _).symm
 exact ⟨h2,h',m1,fun n1=>⟨fun n2=>⟨by omega,fun n3=>⟨by omega,by omega,by omega,fun _ _=>⟨t+1,e1 (by simp -implicitDefEqProofs [cU,cO,n1,n2,n3]),by omega,(e1 (by simp -implicitDefEqProofs [cU,cO,n1,n2,n3])).symm,by omega,by omega⟩⟩,fun n3=>⟨by omega,by omega,fun _ _=>⟨t+1,ek (by simp -implicitDefEqProofs [cU,cO,n3]),by omega,(ek (by simp -implicitDefEqProofs [cU,cO,n3])).symm,by omega,by omega⟩⟩⟩,fun n2=>⟨by omega,by omega,fun _ _=>⟨t+1,ek (by simp -implicitDefEqProofs [cU,cO,n2]),by omega,(ek (by simp -implicitDefEqProofs [cU,cO,n2])).symm,by omega,by omega⟩⟩⟩,fun n1=>⟨by omega,by omega,fun _ _=>⟨t+1,ek (by simp -implicitDefEqProofs [cU,cO,n1]),by omega,(ek (by simp -implicitDefEqProofs [cU,cO,n1])).symm,by omega,by omega⟩⟩⟩
def yK:ReviewD:=⟨[],[],[],[]⟩
def c7 (v:ReviewD) (w:Str):ReviewD × Bool:=if eC v=true then (if eC ⟨v.branch,v.into,v.by_,fa v.yes w⟩=true then (⟨v.branch,v.into,v.by_,fa v.yes w⟩,true) else (v,false)) else (yK,false)
def rW:Con:=.fn 27 (ReviewD × Str) (fun a=>[iQ a.1,.str a.2]) (fun a=>a.1.yes.length<=1048575) (fun a=>.tup [.agg [.str (c7 a.1 a.2).1.branch,.str (c7 a.1 a.2).1.into,.str (c7 a.1 a.2).1.by_,.own 8 1 (aa (c7 a.1 a.2).1.yes)],.bool (c7 a.1 a.2).2]) (fun a=>dw 8 (c7 a.1 a.2).1.yes)
theorem Jw:Has Tryz.prog 18 rW:=by
 refine ah mixed bK (HasL.cons zO (HasL.cons zE HasL.nil)) [0,1,2,4,5,6] ((fun a n (_:Nat)=>(fun _=>aw) a n)) [] Tryz.func18 (by unfold Tryz.f18; rfl) (fun _=>⟨(),trivial⟩) ?_
 intro a ha;obtain ⟨v,w⟩:=a;replace ha:v.yes.length<=1048575:=ha;simp (maxSteps:=8000000) -implicitDefEqProofs [rW,nQ,nO,Con.fn,aV,ag]
 try dsimp only
 have cl:=sG (ck (v.yes++[w]));rw [kc,List.length_append,List.length_singleton] at cl;refine ⟨by omega,fun h=>?_,fun h=>⟨_,_,⟨rfl,rfl⟩,ha,by omega,fun h'=>⟨of_eq_true (eStrs_flat _),⟨by omega,by omega⟩,?_⟩,fun h'=>?_⟩⟩
 ·have e:c7 v w=(yK,false):=by unfold c7; rw [if_neg (by simp -implicitDefEqProofs [h])]
  rw [e]; exact ⟨⟨⟨rfl,rfl,rfl,rfl⟩,rfl⟩,rfl⟩
 ·have e:c7 v w=(v,false):=by unfold c7 fa; rw [if_pos h,if_neg (by simp -implicitDefEqProofs [h'])]
  rw [e]; exact ⟨⟨⟨rfl,rfl,rfl,rfl⟩,rfl⟩,rfl⟩
 ·have e:c7 v w=(⟨v.branch,v.into,v.by_,fa v.yes w⟩,true):=by unfold c7; rw [if_pos h,if_pos (show eC ⟨v.branch,v.into,v.by_,fa v.yes w⟩=true from h')]
  rw [e]; exact ⟨⟨⟨rfl,rfl,rfl,rfl⟩,rfl⟩,rfl⟩
def rU:Con:=.fn 44 (RepoD × List OwnerD × ReviewD) (fun a=>[bh a.1,.sl true 2 (aT a.2.1),iQ a.2.2]) po (fun a=>.tup [.agg [.own 8 3 (az (cX a.1 a.2.1 a.2.2).1.commits),.own 9 2 (ai (cX a.1 a.2.1 a.2.2).1.heads)],.int .i64 (cX a.1 a.2.1 a.2.2).2]) (fun a=>iD 8 (cX a.1 a.2.1 a.2.2).1.commits++gD 9 (cX a.1 a.2.1 a.2.2).1.heads)
theorem Ju:Has Tryz.prog 21 rU:=by
 refine ah mixed bK (HasL.cons lr (HasL.cons uQ (HasL.cons uB (HasL.cons ng (HasL.cons Ao HasL.nil))))) [0,1,2,3,5,6,7,8,9] ((fun a n (_:Nat)=>(fun _=>aw) a n)) [] Tryz.func21 (by unfold Tryz.f21; rfl) (fun _=>⟨(),trivial⟩) ?_
 intro a ha;obtain ⟨r,o,v⟩:=a;have ha':po (r,o,v):=ha;obtain ⟨⟨h1,h1'⟩,h2,h3⟩:(fj r/\cE r)/\j6 o/\v.yes.length<=1048575:=ha;simp (maxSteps:=8000000) -implicitDefEqProofs [rU,iT,lQ,lP,kC,nS,Con.fn,aV,ag,bu]
 try dsimp only
 try simp -implicitDefEqProofs only [and_assoc,exists_eq_left,exists_and_left,RepoD.ex1,RepoD.eta,ReviewD.ex1,ReviewD.eta]
 have e1:aI r o v=if bz r o v=true then (gz r o v,true) else ([],false):=rfl
 refine ⟨h1,fun h=>by unfold cX; rw [if_neg (by rw [<- dS]; simp -implicitDefEqProofs [h])]; exact ⟨rfl,rfl,rfl,rfl,rfl⟩,fun h=>⟨ha',fun h'=>?_,fun h'=>⟨h1',?_⟩⟩⟩
 ·have hS:ar r=true:=by rw [<- dS]; exact h
  have q:bz r o v=true:=by
   cases q:bz r o v with
   | true=>rfl
   | false=>rw [e1,q] at h'; simp at h'
  rw [e1,if_pos q];have q':=q;unfold bz eC at q';simp only [Bool.and_eq_true,decide_eq_true_eq] at q';have hs:=((c6 r).1 hS).2.1;have h2:=f8 (n:=v.branch) hs;refine fun _=>⟨fun hl=>⟨h1',?_⟩,fun hn=>⟨h,?_⟩⟩
  ·unfold cX; rw [if_pos hS,if_pos q,if_neg (by intro z; rw [z] at hl; simp at hl)]; exact ⟨rfl,rfl,rfl,rfl,rfl⟩
  ·rw [mT h q'.2 q'.1.1.2.1.1.1.2 ⟨q'.1.2,by omega⟩]
   unfold cX; rw [if_pos hS,if_pos q,if_pos hn]; exact ⟨rfl,rfl,rfl,rfl,rfl⟩
 ·have hS:ar r=true:=by rw [<- dS]; exact h
  have q:bz r o v=false:=by
   cases q:bz r o v with
   | false=>rfl
   | true=>rw [e1,q] at h'; simp at h'
  unfold cX; rw [if_pos hS,q]; exact ⟨rfl,rfl,rfl,rfl,rfl⟩
theorem yH (o:List OwnerD) (v:ReviewD):∀ (P x:List Str) (y:Str),y ∈ P.foldl (d5 o v) x ↔ y ∈ x \/ ∃ p ∈ P,cO o p=y/\cU v y=false
 | [],x,y=>by simp
 | p :: P,x,y=>by
  rw [List.foldl_cons,yH o v P];unfold d5;by_cases h:cU v (cO o p)=true
  ·rw [if_pos h];constructor
   ·rintro (q | ⟨p',h1,h2,h3⟩)
    ·exact .inl q
    ·exact .inr ⟨p',by simp [h1],h2,h3⟩
   ·rintro (q | ⟨p',h1,h2,h3⟩)
    ·exact .inl q
    ·rcases List.mem_cons.1 h1 with rfl | h1
     ·rw [h2,h3] at h; cases h
     ·exact .inr ⟨p',h1,h2,h3⟩
  ·rw [if_neg h,mG];have h:cU v (cO o p)=false:=by simpa using h
   constructor
   ·rintro ((q | q) | ⟨p',h1,h2,h3⟩)
    ·exact .inr ⟨p,by simp,q.symm,by rw [q]; exact h⟩
    ·exact .inl q
    ·exact .inr ⟨p',by simp [h1],h2,h3⟩
   ·rintro (q | ⟨p',h1,h2,h3⟩)
    ·exact .inl (.inr q)
    ·rcases List.mem_cons.1 h1 with rfl | h1
     ·exact .inl (.inl h2.symm)
     ·exact .inr ⟨p',h1,h2,h3⟩
theorem oU (o:List OwnerD) (v:ReviewD) (P:List Str) (y:Str):y ∈ cD o v P ↔ ∃ p ∈ P,cO o p=y/\cU v y=false:=by
 unfold cD;rw [yH];simp
theorem z8 {l:List Str} (h:srt l):l.Nodup:=h.imp fun {a b} q e=>by rw [e] at q; exact kf _ q
theorem Hi {o:List OwnerD} {v x:ReviewD} {P:List Str} {w:Str} (hx:∀ y,cU x y=(cU v y || decide (y=w))) (hw:w ∈ cD o v P):(cD o x P).length=(cD o v P).length - 1/\w ∉ cD o x P:=by
 have e:cD o x P=(cD o v P).erase w:=by
  rw [(z8 (mg o v P)).erase_eq_filter];refine mO (mg o x P) ((mg o v P).filter _) fun y=>?_;rw [List.mem_filter,oU,oU];simp only [hx,Bool.or_eq_false_iff,decide_eq_false_iff_not,bne_iff_ne,ne_eq];constructor
  ·rintro ⟨p,h1,h2,h3,h4⟩; exact ⟨⟨p,h1,h2,h3⟩,h4⟩
  ·rintro ⟨⟨p,h1,h2,h3⟩,h4⟩; exact ⟨p,h1,h2,h3,h4⟩
 constructor
 ·rw [e,List.length_erase_of_mem hw]
 ·rw [e];exact fun h=>((z8 (mg o v P)).mem_erase_iff.1 h).1 rfl
theorem ww (p:Str):∀ (l:List OwnerD) (b:OwnerD),l.foldl (owF p) b=b \/ l.foldl (owF p) b ∈ l
 | [],_=>.inl rfl
 | o :: l,b=>by
  rw [List.foldl_cons];rcases ww p l (owF p b o) with h | h
  ·rw [h];unfold owF;split
   ·exact .inr (by simp)
   ·exact .inl rfl
  ·exact .inr (by simp [h])
theorem LP {o:List OwnerD} {p:Str} (h:cO o p ≠ []):∃ x ∈ o,x.who=cO o p:=by
 unfold cO ep at *;rcases ww p o ⟨[],[]⟩ with q | q
 ·rw [q] at h; exact absurd rfl h
 ·exact ⟨_,q,rfl⟩
theorem Mu (v:ReviewD) (w y:Str):cU ⟨v.branch,v.into,v.by_,fa v.yes w⟩ y=(cU v y || decide (y=w)):=by
 have:=(sH (v.yes++[w])).2 y;unfold cU fa;rw [Bool.eq_iff_iff];simp only [Bool.or_eq_true,decide_eq_true_eq,this,List.mem_append,List.mem_singleton];constructor
 ·rintro ((h | h) | h | h)
  ·exact .inl (.inl (.inl h))
  ·exact .inl (.inl (.inr h))
  ·exact .inl (.inr h)
  ·exact .inr h
 ·rintro (((h | h) | h) | h)
  ·exact .inl (.inl h)
  ·exact .inl (.inr h)
  ·exact .inr (.inl h)
  ·exact .inr (.inr h)
theorem Hk {r:RepoD} {o:List OwnerD} {v:ReviewD} (h:(aI r o v).2=true) {w:Str} (hw:w ∈ (aI r o v).1):(∃ x ∈ o,x.who=w) /\ ¬ w=v.by_ /\ ¬ w ∈ v.yes /\
  ((c7 v w).2=true->(aI r o (c7 v w).1).2=true/\(aI r o (c7 v w).1).1.length=(aI r o v).1.length - 1 /\ ¬ w ∈ (aI r o (c7 v w).1).1):=by
 have q:bz r o v=true:=by
  cases q:bz r o v with
  | true=>rfl
  | false=>unfold aI at h; rw [q] at h; cases h
 have e:aI r o v=(gz r o v,true):=by unfold aI; rw [if_pos q]
 rw [e] at hw ⊢;have hw:w ∈ cD o v (d7 r v):=hw;obtain ⟨p,h1,h2,h3⟩:=(oU _ _ _ _).1 hw;unfold cU at h3;simp only [Bool.or_eq_false_iff,decide_eq_false_iff_not] at h3;obtain ⟨⟨h4,h5⟩,h6⟩:=h3;obtain ⟨x,k1,k2⟩:=LP (by rw [h2]; exact h4)
 refine ⟨⟨x,k1,by rw [k2,h2]⟩,h5,h6,fun hy=>?_⟩
 unfold c7 at hy ⊢;split at hy
 ·rename_i g1;rw [if_pos g1];split at hy
  ·rename_i g2;rw [if_pos g2];have q2:bz r o ⟨v.branch,v.into,v.by_,fa v.yes w⟩=true:=by
    unfold bz at q ⊢;simp only [Bool.and_eq_true] at q ⊢;exact ⟨⟨⟨q.1.1.1,g2⟩,q.1.2⟩,q.2⟩
   have e2:aI r o ⟨v.branch,v.into,v.by_,fa v.yes w⟩=(gz r o ⟨v.branch,v.into,v.by_,fa v.yes w⟩,true):=by unfold aI; rw [if_pos q2]
   rw [e2];exact ⟨rfl,Hi (Mu v w) hw⟩
  ·cases hy
 ·cases hy
theorem Hj {r:RepoD} {o:List OwnerD} {v:ReviewD} (h:(aI r o v).2=true):aI r [] v=([],true):=by
 have q:bz r o v=true:=by
  cases q:bz r o v with
  | true=>rfl
  | false=>unfold aI at h; rw [q] at h; cases h
 have q2:bz r [] v=true:=by
  unfold bz at q ⊢;simp only [Bool.and_eq_true] at q ⊢;exact ⟨⟨⟨⟨q.1.1.1.1,rfl⟩,q.1.1.2⟩,q.1.2⟩,q.2⟩
 have e:gz r [] v=[]:=by
  refine List.eq_nil_iff_forall_not_mem.2 fun y hy=>?_;obtain ⟨p,_,h2,h3⟩:=(oU _ _ _ _).1 (show y ∈ cD [] v (d7 r v) from hy)
  have:y=[]:=h2.symm;rw [this] at h3;unfold cU at h3;simp at h3
 unfold aI;rw [if_pos q2,e]

def nR:Con:=.fn 26 (List Str × List Str) (fun a=>[.sl true 1 (aa a.1),.sl true 1 (aa a.2)]) (fun _=>True) (fun a=>.bool (decide (a.1=a.2))) (fun _=>[])
theorem zY:Has Tryz.prog 17 nR:=by
 refine ah mixed ap HasL.nil [0,1,4,5] ((fun a n (_:Nat)=>(fun a _=>⟨Nat,fun i=>⟨[(0,true,.sl true 1 (aa a.1)),(1,true,.sl true 1 (aa a.2)),(4,true,.bool false),(5,true,.int .i64 i)],[]⟩,fun i=>a.1.length=a.2.length/\i<=a.1.length/\a.1.take i=a.2.take i,fun i=>a.1.length - i⟩) a n)) [] Tryz.func17 (by unfold Tryz.f17; rfl) (fun _=>⟨(),trivial⟩) ?_
 intro a _;obtain ⟨l,m⟩:=a;have k1:∀ i (h:i < l.length) (h':i < m.length),l[i]=m[i]->l.take i=m.take i->l.take (i+1)=m.take (i+1):=fun i h h' e e2=>by rw [bM h,bM h',e,e2]
 have k2:∀ i,l.length=m.length->l.length<=i->l.take i=m.take i->l=m:=fun i h h' e=>by rwa [List.take_of_length_le h',List.take_of_length_le (by omega)] at e
 have k3:∀ i (h:i < l.length) (h':i < m.length),¬ l[i]=m[i] -> ¬ l=m:=fun i h h' e e2=>by subst e2; exact e rfl
 simp -implicitDefEqProofs [nR,Con.fn,ag]
 try dsimp only
 try simp +contextual -implicitDefEqProofs [ak,an,bP,bn,bQ,List.getElem?_eq_getElem,bX,bV,bN,bU,<- bw,<- bS,bj,bp,bW,bT,aU,bH,and_assoc]
 repeat' (first | intro _ | apply And.intro)
 all_goals first | omega | grind [cm]
def rZ:Con:=.fn 18 (List Str × Str) (fun a=>[.sl true 1 (aa a.1),.str a.2]) (fun _=>True) (fun a=>.bool (pathIn a.1 a.2)) (fun _=>[])
theorem J6:Has Tryz.prog 19 rZ:=by
 refine ah mixed ap HasL.nil [0,1,4,5] ((fun a n (_:Nat)=>(fun a _=>⟨Nat,fun i=>⟨[(0,true,.sl true 1 (aa a.1)),(1,true,.str a.2),(4,true,.bool false),(5,true,.int .i64 i)],[]⟩,fun i=>i<=a.1.length /\ ∀ x,x ∈ a.1.take i -> ¬ x=a.2,fun i=>a.1.length - i⟩) a n)) [] Tryz.func19 (by unfold Tryz.f19; rfl) (fun _=>⟨(),trivial⟩) ?_
 intro a _;obtain ⟨l,s⟩:=a;have h3:=fun i=>@Ad _ l i (fun y=>¬ y=s);have h1:∀ i (h:i < l.length),l[i]=s->pathIn l s=true:=fun i h hp=>by simp -implicitDefEqProofs [pathIn,<- hp]
 have h2:∀ i,l.length<=i->(∀ x,x ∈ l.take i -> ¬ x=s)->pathIn l s=false:=fun i h hb=>by
  rw [List.take_of_length_le h] at hb;simp only [pathIn,decide_eq_false_iff_not];exact fun hm=>hb s hm rfl
 simp -implicitDefEqProofs [rZ,Con.fn,ag]
 try dsimp only
 try simp +contextual -implicitDefEqProofs [ak,an,bP,bn,bQ,List.getElem?_eq_getElem,bX,bV,bN,bU,<- bw,<- bS,bj,bp,bW,bT,aU,bH,and_assoc]
 repeat' (first | intro _ | apply And.intro)
 all_goals first | omega | grind [cm]
def sd:Con:=.fn 42 (List FileD × List FileD) (fun a=>[.sl true 2 (ac a.1),.sl true 2 (ac a.2)]) (fun _=>True) (fun a=>.bool (decide (a.1=a.2))) (fun _=>[])
theorem Kb:Has Tryz.prog 117 sd:=by
 refine ah mixed ap (HasL.cons zY HasL.nil) [0,1,4,5] ((fun a n (_:Nat)=>(fun a _=>⟨Nat,fun i=>⟨[(0,true,.sl true 2 (ac a.1)),(1,true,.sl true 2 (ac a.2)),(4,true,.bool false),(5,true,.int .i64 i)],[]⟩,fun i=>a.1.length=a.2.length/\i<=a.1.length/\a.1.take i=a.2.take i,fun i=>a.1.length - i⟩) a n)) [] Tryz.func117 (by unfold Tryz.f117; rfl) (fun _=>⟨(),trivial⟩) ?_
 intro a _;obtain ⟨l,m⟩:=a;have k1:∀ i (h:i < l.length) (h':i < m.length),l[i].path=m[i].path->l[i].text=m[i].text->l.take i=m.take i->l.take (i+1)=m.take (i+1):=fun i h h' e e1 e2=>by rw [bM h,bM h',e2,show l[i]=m[i] by rw [FileD.eq_iff]; exact ⟨e,e1⟩]
 have k2:∀ i,l.length=m.length->l.length<=i->l.take i=m.take i->l=m:=fun i h h' e=>by rwa [List.take_of_length_le h',List.take_of_length_le (by omega)] at e
 have k3:∀ i (h:i < l.length) (h':i < m.length),¬ l[i].path=m[i].path -> ¬ l=m:=fun i h h' e e2=>by subst e2; exact e rfl
 have k4:∀ i (h:i < l.length) (h':i < m.length),¬ l[i].text=m[i].text -> ¬ l=m:=fun i h h' e e2=>by subst e2; exact e rfl
 simp -implicitDefEqProofs [sd,Con.fn,ag,nR]
 try dsimp only
 try simp +contextual -implicitDefEqProofs [ak,an,bP,bn,bQ,List.getElem?_eq_getElem,bX,bV,bN,bU,<- bw,<- bS,bj,bp,bW,bT,aU,bH,and_assoc]
 repeat' (first | intro _ | apply And.intro)
 all_goals first | omega | grind [cm]
def r9:Con:=.fn 26 (List Int × List Int) (fun a=>[.sl true 1 (aj a.1),.sl true 1 (aj a.2)]) (fun _=>True) (fun a=>.bool (decide (a.1=a.2))) (fun _=>[])
theorem J7:Has Tryz.prog 116 r9:=by
 refine ah mixed ap HasL.nil [0,1,4,5] ((fun a n (_:Nat)=>(fun a _=>⟨Nat,fun i=>⟨[(0,true,.sl true 1 (aj a.1)),(1,true,.sl true 1 (aj a.2)),(4,true,.bool false),(5,true,.int .i64 i)],[]⟩,fun i=>i<=a.1.length/\a.1.length=a.2.length/\a.1.take i=a.2.take i,fun i=>a.1.length - i⟩) a n)) [] Tryz.func116 (by unfold Tryz.f116; rfl) (fun _=>⟨(),trivial⟩) ?_
 intro a _;obtain ⟨l,r⟩:=a;simp -implicitDefEqProofs [r9,Con.fn,ag]
 try dsimp only
 try simp +contextual -implicitDefEqProofs [ak,an,bP,bn,bQ,List.getElem?_eq_getElem,bX,bV,bN,bU,<- bw,<- bS,bj,bp,bW,bT,aU,bH,and_assoc,aq]
 repeat' (first | intro _ | apply And.intro)
 all_goals first | omega | grind [cm,lZ,lY,aq,D.asInt]
def rY:Con:=.fn 24 (CommitD × CommitD) (fun a=>[.agg [.sl true 1 (aj a.1.parents),.str a.1.who,.sl true 2 (ac a.1.tree)],.agg [.sl true 1 (aj a.2.parents),.str a.2.who,.sl true 2 (ac a.2.tree)]]) (fun _=>True) (fun a=>.bool (decide (a.1=a.2))) (fun _=>[])
theorem J5:Has Tryz.prog 60 rY:=by
 refine ah mixed ap (HasL.cons J7 (HasL.cons Kb HasL.nil)) [0,1,2,3,4] ((fun a n (_:Nat)=>(fun _=>aw) a n)) [] Tryz.func60 (by unfold Tryz.f60; rfl) (fun _=>⟨(),trivial⟩) ?_
 intro a _;obtain ⟨c,d⟩:=a;simp -implicitDefEqProofs [rY,r9,sd,Con.fn,ag,CommitD.eq_iff]
 try dsimp only
 refine ⟨fun h=>⟨_,_,⟨rfl,rfl⟩,fun e=>⟨_,_,⟨rfl,rfl⟩,by simp -implicitDefEqProofs [e,h]⟩,fun e h'=>absurd h' e⟩,fun h _ h'=>absurd h' h⟩
def uV (r q:RepoD):Inv:=⟨Nat,fun i=>⟨[(2,true,.ptr 10 0),(3,true,.ptr 11 0),(4,true,.bool false),(5,true,.int .i64 i)],[(10,cP r),(11,cP q)]⟩,fun i=>i<=r.commits.length/\(r.commits.length=q.commits.length/\r.heads.length=q.heads.length)/\r.commits.take i=q.commits.take i,fun i=>r.commits.length - i⟩
def uW (r q:RepoD):Inv:=⟨Nat,fun i=>⟨[(2,true,.ptr 10 0),(3,true,.ptr 11 0),(4,true,.bool false),(6,true,.int .i64 i)],[(10,cP r),(11,cP q)]⟩,fun i=>i<=r.heads.length/\(r.commits=q.commits/\r.heads.length=q.heads.length)/\r.heads.take i=q.heads.take i,fun i=>r.heads.length - i⟩
def uX (r q:RepoD) (n g:Nat):Inv:=if n=4 then uV r q else uW r q
theorem J8 (r q g):uX r q 4 g=uV r q:=rfl
theorem J9 (r q g):uX r q 9 g=uW r q:=rfl
theorem RepoD.eqs (a b:RepoD):(a=b)=(a.commits=b.commits/\a.heads=b.heads):=by cases a; cases b; simp
def sa:Con:=.fn 60 (RepoD × RepoD) (fun a=>[bh a.1,bh a.2]) (fun _=>True) (fun a=>.bool (decide (a.1=a.2))) (fun _=>[])
theorem Ka:Has Tryz.prog 23 sa:=by
 refine ah mixed ap (HasL.cons J5 HasL.nil) [0,1,2,3,4,5,6] (fun a=>uX a.1 a.2) [] Tryz.func23 (by unfold Tryz.f23; rfl) (fun _=>⟨(),trivial⟩) ?_
 intro a _;obtain ⟨r,q⟩:=a;simp (maxSteps:=8000000) -implicitDefEqProofs [-kStep_move,-kStepC_move,-Bool.exists_bool,sa,rY,Con.fn,ag,J8,J9,uV,uW,bu]
 try dsimp only
 refine fun _ _ _ _=>⟨fun h e=>by subst e; simp at h,fun e1 e2=>⟨⟨by omega,by omega⟩,fun t ht g1 g2 g3 _=>⟨fun hlt=>⟨hlt,fun _=>?_⟩,fun hge=>?_⟩⟩⟩
 ·have hq:t < q.commits.length:=by omega
  have qq1:Option.map ba r.commits[t]? = some (ba r.commits[t]):=by simp -implicitDefEqProofs [hlt]
  have qq2:Option.map ba q.commits[t]? = some (ba q.commits[t]):=by simp -implicitDefEqProofs [hq]
  have hst:=lZ hlt hq g3;rw [qq1,qq2];have hne:r.commits[t] ≠ q.commits[t]->r ≠ q:=fun h e=>by subst e; exact h rfl
  generalize r.commits[t]=x at *;generalize q.commits[t]=y at *;simp -implicitDefEqProofs [ba,D.asStr,D.asRows,hq];refine ⟨x,y,⟨⟨rfl,rfl,rfl⟩,rfl,rfl,rfl⟩,hne,fun e=>⟨⟨by omega,by omega⟩,fun _ _=>⟨t+1,by omega,⟨by omega,⟨g1,g2⟩,hst e⟩,by omega⟩⟩⟩
 ·have ec:r.commits=q.commits:=lY g1 hge g3;refine ⟨⟨ec,g2⟩,fun t ht _ _ g5 _=>⟨fun hlt=>⟨hlt,fun _=>?_⟩,fun hge=>?_⟩⟩
  ·have hq:t < q.heads.length:=by omega
   have qq1:Option.map aW r.heads[t]? = some (aW r.heads[t]):=by simp -implicitDefEqProofs [hlt]
   have qq2:Option.map aW q.heads[t]? = some (aW q.heads[t]):=by simp -implicitDefEqProofs [hq]
   have hst:=lZ hlt hq g5;rw [qq1,qq2];have hne:r.heads[t] ≠ q.heads[t]->r ≠ q:=fun h e=>by subst e; exact h rfl
   generalize r.heads[t]=x at *;generalize q.heads[t]=y at *;simp -implicitDefEqProofs [aW,D.asStr,D.asInt,hq];refine ⟨fun h=>hne (fun e=>by subst e; simp at h),fun e1 e2=>⟨⟨by omega,by omega⟩,fun _ _=>⟨t+1,by omega,⟨by omega,⟨ec,g2⟩,hst (by rw [HeadD.eq_iff]; exact ⟨e1,e2⟩)⟩,by omega⟩⟩⟩
  ·rw [RepoD.eqs]; exact ⟨ec,lY g2 hge g5⟩
theorem sK {r:RepoD} (h:fH r):fj r:=⟨by have:=h.1; omega,fun c hc f hf=>by have:=Ak (h.2.2 c hc).2.1 f hf; omega⟩
end Vx
end Go.Proofs.YthgfdbfmnbgkaaaGreatDoor
namespace Go.Proofs.YthgfdbfmnbgkaaaGreatDoor
namespace Vx
set_option maxRecDepth 8000
theorem sL {r:RepoD} (h:fH r):cE r:=by
 refine ⟨by have:=h.1; omega,fun c hc=>?_,by have:=h.2.1; omega⟩
 obtain ⟨h1,h2,h3⟩:=h.2.2 c hc;have h4:=ly _ h2;exact ⟨by omega,by omega,fun g hg=>by have:=h4.2 g hg; omega⟩
theorem wV {r:RepoD} {o:List OwnerD} {v:ReviewD} (hd:fH r) (ho:jT o) (hv:jU v):pn (r,o,v):=⟨sL hd,(by have:=ho.1; show o.length<=_; omega),(by have:v.yes.length<=4:=hv; show v.yes.length<=_; omega)⟩
theorem nX {r:RepoD} {o:List OwnerD} {v:ReviewD} (hd:fH r) (ho:jT o) (hv:jU v):po (r,o,v):=⟨⟨sK hd,sL hd⟩,fun x hx=>(by have:=ho.2 x hx; omega),(by have:v.yes.length<=4:=hv; show v.yes.length<=_; omega)⟩
end Vx
end Go.Proofs.YthgfdbfmnbgkaaaGreatDoor
namespace Go.Proofs.YthgfdbfmnbgkaaaGreatDoor
set_option maxHeartbeats 4000000
namespace Vx
open Go.RowKit
set_option maxRecDepth 8000
--TAB aV
def nd (y:RepoD × List OwnerD × ReviewD):List Str:=(aI y.1 y.2.1 y.2.2).1
abbrev Aq (v:ReviewD):Blk:=.box 38 [.str v.branch,.str v.into,.str v.by_,.sl false 1 (aa v.yes)]
abbrev Ap (r:RepoD):Blk:=.box 35 [.sl false 3 (az r.commits),.sl false 2 (ai r.heads)]
def rlI:Inv:=⟨(RepoD × List OwnerD × ReviewD) × Nat,fun t=>⟨[(2,true,.bool false),(3,true,.ptr 10 0),(4,true,.sl false 2 (aT t.1.2.1)),(5,true,.ptr 11 0),(6,true,.own 9 1 (aa (nd t.1))),(10,true,.int .i64 t.2)],[(10,Ap t.1.1),(11,Aq t.1.2.2),(9,.own 9 1 true (aa (nd t.1)))]⟩,fun t=>t.2<=(nd t.1).length/\(aI t.1.1 t.1.2.1 t.1.2.2).2=true/\fH t.1.1/\jT t.1.2.1/\jU t.1.2.2,fun t=>33 - t.2⟩
def owT (o:List OwnerD) (w:Str) (k:Nat):Bool:=(o.take k).any fun x=>decide (x.who=w)
theorem HK {o:List OwnerD} {w:Str} {k:Nat} (h:k < o.length):owT o w (k+1)=(owT o w k || decide (o[k].who=w)):=by
 unfold owT;rw [List.take_succ_eq_append_getElem h,List.any_append];simp
theorem HJ {o:List OwnerD} {w:Str} {k:Nat} {x:OwnerD} (h:o.length<=k) (hx:x ∈ o) (he:x.who=w):owT o w k=true:=by
 unfold owT;rw [List.take_of_length_le h,List.any_eq_true];exact ⟨x,hx,by simp -implicitDefEqProofs [he]⟩
theorem zs {l:List Str} {w:Str}:(pathIn l w=false)=(w ∉ l):=by
 unfold pathIn;simp
theorem Jx (v:ReviewD) (w:Str):(c7 v w).1.yes.length<=v.yes.length+1:=by
 have h:=sG (ck (v.yes++[w]));rw [kc,List.length_append,List.length_singleton] at h;unfold c7 fa;split
 ·split
  ·exact h
  ·exact Nat.le_succ _
 ·exact Nat.zero_le _
theorem Hh {r:RepoD} {o:List OwnerD} {v:ReviewD} (h:(aI r o v).2=true):(nd (r,o,v)).length<=32:=by
 have q:bz r o v=true:=by
  cases q:bz r o v with
  | true=>rfl
  | false=>unfold aI at h; rw [q] at h; cases h
 have e:nd (r,o,v)=cD o v (d7 r v):=by unfold nd aI; rw [if_pos q]; rfl
 unfold bz at q;simp only [Bool.and_eq_true,decide_eq_true_eq] at q;have:=ur o v (d7 r v);have:=uG (r:=r) (v:=v) ⟨q.1.1.1.1,q.2,q.1.2⟩;rw [e]; omega
def rlK (g:Nat):Inv:=⟨(RepoD × List OwnerD × ReviewD) × Nat,fun t=>⟨[(2,true,.bool false),(3,true,.ptr 10 0),(4,true,.sl false 2 (aT t.1.2.1)),(5,true,.ptr 11 0),(6,true,.own 9 1 (aa (nd t.1))),(10,true,.int .i64 g),(11,true,.bool (owT t.1.2.1 ((nd t.1).getD g default) t.2)),(12,true,.int .i64 t.2)],[(10,Ap t.1.1),(11,Aq t.1.2.2),(9,.own 9 1 true (aa (nd t.1)))]⟩,fun t=>(g < (nd t.1).length/\t.2<=t.1.2.1.length)/\(aI t.1.1 t.1.2.1 t.1.2.2).2=true/\fH t.1.1/\jT t.1.2.1/\jU t.1.2.2,fun t=>t.1.2.1.length - t.2⟩
def uS (n g:Nat):Inv:=if n=9 then rlI else rlK g
theorem JB (g):uS 9 g=rlI:=rfl
theorem JA (g):uS 13 g=rlK g:=rfl
def wC:Con:=.fn 159 Str (fun s=>[.sl true 1 (bR s)]) (fun _=>True) (fun _=>.bool true) (fun _=>[])
theorem DO:Has Tryz.prog 6 wC:=by
 refine ah mixed bK (HasL.cons wU (HasL.cons uQ (HasL.cons zN (HasL.cons zY (HasL.cons Jw (HasL.cons J6 HasL.nil)))))) [0,2,3,4,5,6,7,8,9,10,11,12,13,14,15,16,17,18] (fun _=>uS) [12287] Tryz.func6 (by unfold Tryz.f6; rfl) (fun _=>⟨(),trivial⟩) ?_
 intro (s:Str) _;simp (maxSteps:=8000000) -implicitDefEqProofs [-kStep_move,-kStepC_move,-Bool.exists_bool,wC,nt,lQ,nP,nR,rW,rZ,Con.fn,aV,ag,JB,JA,rlI,rlK]
 try dsimp only
 refine fun _ _ r o v hd ho hv=>⟨r,o,v,⟨⟨rfl,rfl⟩,rfl,rfl,rfl,rfl,rfl⟩,nX hd ho hv,r,o,v,⟨⟨rfl,rfl⟩,rfl,rfl,rfl,rfl,rfl⟩,wV hd ho hv,_,_,⟨rfl,rfl⟩,?_⟩;refine ⟨.inr ⟨rfl,rfl⟩,fun _=>⟨fun _=>⟨rfl,rfl⟩,fun _ _ hN=>⟨⟨r,o,v,0,⟨⟨rfl,rfl,rfl⟩,⟨⟨rfl,rfl⟩,rfl,rfl,rfl,rfl⟩,rfl⟩,Nat.zero_le _,hN,hd,ho,hv⟩,?_⟩⟩⟩;intro r o v i hi hN hd ho hv _;refine ⟨fun hlt=>⟨i,⟨r,o,v,0,⟨⟨rfl,rfl,rfl,rfl,rfl⟩,⟨⟨rfl,rfl⟩,rfl,rfl,rfl,rfl⟩,rfl⟩,⟨hlt,Nat.zero_le _⟩,hN,hd,ho,hv⟩,?_⟩,fun hge=>?_⟩
 ·intro r o v k hg hk hN hd ho hv _;have q2:Option.map ak (nd (r,o,v))[i]? = some (ak (nd (r,o,v))[i]):=by simp -implicitDefEqProofs [hg]
  have bg:(nd (r,o,v))[i]?.getD default=(nd (r,o,v))[i]:=by simp -implicitDefEqProofs [hg]
  have hw:(nd (r,o,v))[i] ∈ (aI r o v).1:=List.getElem_mem hg;have nl:0 < (nd (r,o,v)).length:=by omega
  rw [q2,bg];refine ⟨fun hkl=>?_,fun hkg=>?_⟩
  ·have q1:Option.map cf o[k]? = some (cf o[k]):=by simp -implicitDefEqProofs [hkl]
   have st:=HK (w:=(nd (r,o,v))[i]) hkl;rw [q1];simp -implicitDefEqProofs [ak,cf,D.asStr,hkl,hg];exact ⟨⟨by omega,by omega⟩,fun _ _=>⟨r,o,v,k+1,⟨⟨rfl,rfl,by rw [bg]; exact st,by omega⟩,⟨⟨rfl,rfl⟩,rfl,rfl,rfl,rfl⟩,rfl⟩,⟨⟨⟨hg,by omega⟩,hN,hd,ho,hv⟩,by omega⟩⟩⟩
  ·obtain ⟨⟨x,k1,k2⟩,k3,k4,k5⟩:=Hk hN hw;have k0:owT o (nd (r,o,v))[i] k=true:=HJ hkg k1 k2;have p4:pathIn v.yes (nd (r,o,v))[i]=false:=by rw [zs]; exact k4
   refine ⟨hg,fun _=>?_⟩;simp -implicitDefEqProofs [ak,D.asStr,k0,k3,p4,hg];have vl:v.yes.length<=4:=hv;have yl:=Jx v (nd (r,o,v))[i];have nn:(aI r o v).1.length=(nd (r,o,v)).length:=rfl;have n16:(nd (r,o,v)).length<=32:=Hh hN;rw [nn] at k5;refine ⟨v,_,⟨⟨rfl,rfl,rfl,rfl⟩,rfl⟩,by omega,r,o,(c7 v (nd (r,o,v))[i]).1,⟨⟨rfl,rfl⟩,rfl,rfl,rfl,rfl,rfl⟩,⟨⟨sK hd,sL hd⟩,fun x hx=>(by have:=ho.2 x hx; omega),(by show (c7 v _).1.yes.length<=_; omega)⟩,_,_,⟨rfl,rfl⟩,?_⟩
   generalize c7 v (nd (r,o,v))[i]=Y at *;obtain ⟨y,said⟩:=Y;simp only at k5 yl ⊢;generalize aI r o y=L at *;obtain ⟨l,fine⟩:=L;simp only at k5 ⊢;cases said with
   | true =>
    obtain ⟨k6,k7,k8⟩:=k5 rfl;subst k6;have p5:pathIn l (nd (r,o,v))[i]=false:=by rw [zs]; exact k8
    have e7:(l.length:Int)=(nd (r,o,v)).length - 1:=by omega
    simp -implicitDefEqProofs [p4,p5,e7];exact ⟨⟨by omega,by omega⟩,fun _ _=>⟨_,_,⟨rfl,rfl⟩,p5,fun _=>⟨⟨by omega,by omega⟩,fun _ _=>⟨r,o,v,i+1,⟨⟨rfl,rfl,by omega⟩,⟨⟨rfl,rfl⟩,rfl,rfl,rfl,rfl⟩,rfl⟩,⟨⟨by omega,hN,hd,ho,hv⟩,by omega⟩⟩⟩⟩⟩
   | false =>
    simp -implicitDefEqProofs [p4];exact ⟨⟨by omega,by omega⟩,fun _ _=>⟨r,o,v,i+1,⟨⟨rfl,rfl,by omega⟩,⟨⟨rfl,rfl⟩,rfl,rfl,rfl,rfl⟩,rfl⟩,⟨⟨by omega,hN,hd,ho,hv⟩,by omega⟩⟩⟩
 ·have e:=Hj hN;exact ⟨r,[],v,⟨⟨rfl,rfl⟩,rfl,rfl,rfl,rfl,rfl⟩,nX hd ⟨Nat.zero_le _,by simp⟩ hv,fun _=>by rw [e]; exact ⟨rfl,rfl⟩⟩
--TAB bO
def lm (r:RepoD) (n:Str):Int:=if aQ r then atL r.heads n else -1
def rO:Con:=.fn 11 (RepoD × Str) (fun a=>[bh a.1,.str a.2]) (fun a=>fj a.1) (fun a=>.int .i64 (lm a.1 a.2)) (fun _=>[])
theorem Jc:Has Tryz.prog 26 rO:=by
 refine ah mixed c9 (HasL.cons lr (HasL.cons ng HasL.nil)) [0,1,2,4] ((fun a n (_:Nat)=>(fun _=>aw) a n)) [] Tryz.func26 (by unfold Tryz.f26; rfl) (fun _=>⟨(),trivial⟩) ?_
 intro a ha;obtain ⟨r,n⟩:=a;replace ha:fj r:=ha;simp -implicitDefEqProofs [rO,iT,kC,Con.fn,bO,ag,bu]
 try dsimp only
 refine ⟨ha,fun h=>by unfold lm; rw [if_neg (by simp -implicitDefEqProofs [h])],fun h=>⟨r,n,⟨⟨rfl,rfl⟩,rfl⟩,by unfold lm; rw [if_pos h]⟩⟩
--TAB aV
def wB:Con:=.fn 112 Str (fun s=>[.sl true 1 (bR s)]) (fun _=>True) (fun _=>.bool true) (fun _=>[])
theorem DN:Has Tryz.prog 7 wB:=by
 refine ah mixed bK (HasL.cons Dn (HasL.cons Ju (HasL.cons Jv (HasL.cons Ka (HasL.cons lr (HasL.cons uQ (HasL.cons Jc (HasL.cons Lp HasL.nil)))))))) [0,2,3,4,5,6,7,8,9,10,11,12,13] ((fun a n (_:Nat)=>(fun _=>aw) a n)) [12287] Tryz.func7 (by unfold Tryz.f7; rfl) (fun _=>⟨(),trivial⟩) ?_
 intro (s:Str) _;simp (maxSteps:=8000000) -implicitDefEqProofs [-kStep_move,-kStepC_move,-Bool.exists_bool,wB,qu,rU,rV,sa,iT,lQ,rO,sq,Con.fn,aV,ag]
 try dsimp only
 refine fun _ _ r o v hd ho hv=>⟨r,o,v,⟨⟨rfl,rfl⟩,rfl,rfl,rfl,rfl,rfl⟩,nX hd ho hv,r,o,v,⟨⟨rfl,rfl⟩,rfl,rfl,rfl,rfl,rfl⟩,wV hd ho hv,(cX r o v).1,(cX r o v).1,⟨⟨rfl,rfl⟩,rfl,rfl⟩,?_⟩;have hp:=sK hd;have hL:cX r o v=cX r o v:=rfl;generalize hx:cX r o v=L at *;obtain ⟨x,n⟩:=L;simp only [true_and,and_true,not_true_eq_false,false_or,or_false,true_implies,and_self,forall_const];refine ⟨hp,fun _=>trivial,fun hI=>?_⟩;have hS:ar r=true:=by rw [<- dS]; exact hI
 have eN:aI r o v=if bz r o v=true then (gz r o v,true) else ([],false):=rfl
 have eL:cX r o v=if bz r o v=true then (if gz r o v=[] then dm r v.into v.by_ (atL r.heads v.branch) else (r,6)) else (r,1):=by unfold cX; rw [if_pos hS]
 have F1:(aI r o v).2=false->x=r/\n=1:=fun h=>by
  have q:¬ bz r o v=true:=fun q=>by rw [eN,if_pos q] at h; cases h
  rw [eL,if_neg q] at hx;cases hx; exact ⟨rfl,rfl⟩
 have q2:(aI r o v).2=true->bz r o v=true:=fun h=>by
  cases q:bz r o v with
  | true=>rfl
  | false=>rw [eN,q] at h; cases h
 have F2:(aI r o v).2=true->0 < (aI r o v).1.length->x=r/\n=6:=fun h h'=>by
  have q:=q2 h;rw [eN,if_pos q] at h';rw [eL,if_pos q,if_neg (by intro e; rw [e] at h'; simp at h')] at hx
  cases hx; exact ⟨rfl,rfl⟩
 have F3:(aI r o v).2=true->(aI r o v).1=[]->bC r v.into v.by_ (lm r v.branch)=(x,n):=fun h h'=>by
  have q:=q2 h;rw [eN,if_pos q] at h';rw [eL,if_pos q,if_pos h'] at hx;have q':=q;unfold bz eC at q';simp only [Bool.and_eq_true,decide_eq_true_eq] at q';have h2:=f8 (n:=v.branch) ((c6 r).1 hS).2.1;rw [show lm r v.branch=atL r.heads v.branch by unfold lm; rw [if_pos hI],mT hI q'.2 q'.1.1.2.1.1.1.2 ⟨q'.1.2,by omega⟩,hx]
 clear hx hL;refine ⟨r,o,v,⟨⟨rfl,rfl⟩,rfl,rfl,rfl,rfl,rfl⟩,nX hd ho hv,fun _=>⟨fun h=>⟨x,r,⟨⟨rfl,rfl⟩,rfl,rfl⟩,?_⟩,fun h1 h2=>⟨r,v.branch,⟨⟨rfl,rfl⟩,rfl⟩,hp,r,v.into,v.by_,_,⟨⟨rfl,rfl⟩,rfl,rfl,rfl⟩,hp,?_⟩⟩⟩
 ·have key:x=r/\((aI r o v).2=false/\n=1 \/ (aI r o v).2=true/\n=6):=by
   cases q:(aI r o v).2 with
   | false=>exact ⟨(F1 q).1,.inl ⟨rfl,(F1 q).2⟩⟩
   | true =>
    rcases h with h | h
    ·rw [q] at h; cases h
    ·exact ⟨(F2 q h).1,.inr ⟨rfl,(F2 q h).2⟩⟩
  obtain ⟨rfl,k⟩:=key;rcases k with ⟨k1,rfl⟩ | ⟨k1,rfl⟩ <;> simp -implicitDefEqProofs [k1]
 ·rw [F3 h1 h2]; exact ⟨⟨rfl,rfl⟩,rfl⟩
end Vx
end Go.Proofs.YthgfdbfmnbgkaaaGreatDoor
