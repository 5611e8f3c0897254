/-
  Joined by program (merge.py): Base, RowK, RowG, Dh, Lib, Shq, Kb, RowU, Ca, Cb, Cc, Ce, Cd, Cf, Cg, Ch, Ci, Cj, Ck, Cl, Pa, Cm, LawA, Cn, Co, Cp, Cq, Cr, Cs, Ct, Ec, Rep, Ea, Eb, Ef, Cu, Dd, De, La, Lf, Lg, Ma, Df, Ha, Ia, Ib, Ic, Db, Lb, Lc, Ld, Ed, Mb. It shows what the single texts show; conditions: none but those of each lemma.
-/
import Derived.Test.YthgfdbfmnbgkaaaGreatDoorVc
import Derived.Test.YthgfdbfmnbgkaaaGreatDoorProg
import Derived.KernelRfl
import Derived.Test.YthgfdbfmnbgkaaaGreatDoorRows
import Derived.Test.YthgfdbfmnbgkaaaGreatDoorCards
import Derived.Test.YthgfdbfmnbgkaaaGreatDoorTie
import Derived.ProofKit
import Derived.OpenShut
import Derived.ShutString
import Derived.Lay
import Derived.LaidMore
import Derived.SevenTiedAt
import Derived.Lib.Walk
import Derived.Lib.Strings
import Derived.Lib.Bytealg
import Derived.Handy
import Derived.Shelf.Strconv.ErrVarAll
import Derived.Shelf.Strconv.Itoa3
import Derived.Lib.AtoiErrMem
import Derived.BigCall
import Derived.Stop.LaidErr
import Derived.Lib.LaidTab
set_option linter.unusedVariables false
set_option linter.unusedSimpArgs false
set_option linter.unusedSectionVars false
namespace Go.Proofs.YthgfdbfmnbgkaaaGreatDoor
open Vx
namespace Vx
def ag:List (Nat × TI):=[
(3,⟨false,[.int .i64],8,[],0⟩),
(4,⟨false,[.bool],1,[],0⟩),
(9,⟨false,[.str],16,[],0⟩),
(22,⟨false,[.sl 9 1],24,[],9⟩),
(28,⟨false,[.sl 5 1],24,[],5⟩),
(119,⟨true,[.str,.sl 9 1],40,[(9,0),(22,1)],0⟩),
(82,⟨false,[.sl 119 2],24,[],119⟩),
(92,⟨false,[.sl 3 1],24,[],3⟩),
(96,⟨true,[.str,.int .i64],24,[(9,0),(3,1)],1⟩),
(33,⟨false,[.sl 96 2],24,[],96⟩),
(94,⟨true,[.sl 3 1,.str,.sl 119 2],64,[(92,0),(9,1),(82,2)],0⟩),
(32,⟨false,[.sl 94 3],24,[],94⟩),
(35,⟨true,[.sl 94 3,.sl 96 2],48,[(32,0),(33,1)],0⟩),
(111,⟨true,[.sl 5 1,.int .i64],32,[(28,0),(3,1)],0⟩),
(70,⟨true,[.int .i64,.str,.str,.str,.str,.int .i64,.sl 9 1],104,[(3,0),(9,1),(9,2),(9,3),(9,4),(3,5),(22,6)],0⟩),
(169,⟨false,[.sl 70 7],24,[],70⟩),
(181,⟨true,[.str,.int .i64],24,[(9,0),(3,1)],1⟩),
(140,⟨false,[.sl 181 2],24,[],181⟩),
(278,⟨true,[.bool,.sl 9 1,.sl 9 1,.sl 9 1,.sl 9 1],104,[(4,0),(22,1),(22,2),(22,3),(22,4)],0⟩),
(258,⟨false,[.sl 278 5],24,[],278⟩),
(213,⟨false,[.sl 92 1],24,[],92⟩),
 (5,⟨false,[.int .u8],1,[],0⟩)]
theorem aw:∀ t ti,ai ag t=some ti->TOk Tryz.prog t ti:=rJ (by kernel_rfl)
theorem mixed:Tryz.prog.follows .mixedOrders=true:=by kernel_rfl
def az:Nat->Inv:=fun _=>⟨Unit,fun _=>⟨[],[]⟩,fun _=>True,fun _=>0⟩
theorem PY {α:Type} (f:Nat -> α) (d:Nat) (v:α) (h:Nat):upd f d v h=if h=d then v else f h:=rfl
def DS (e:Nat->Option (Bool × AV)) (m:Nat->Option Blk):Nat->Option (Bool × AV):=fun t=>(e t).map fun p=>(p.1,p.2.wipe m)
def DT (m:Nat->Option Blk):Nat->Option Blk:=fun h=>(m h).map (Blk.wipe m)
theorem Qu (s:St) (m:Nat->Option Blk):s.wipe m=⟨DS s.e m,DT m⟩:=rfl
theorem Qn (e:Nat->Option (Bool × AV)) (m:Nat->Option Blk) (t:Nat):DS e m t=(e t).map fun p=>(p.1,p.2.wipe m):=rfl
theorem Qo (m:Nat->Option Blk) (h:Nat):DT m h=(m h).map (Blk.wipe m):=rfl
abbrev Str:=List UInt8
def ar (s:Str):List D:=[.str s]
def aa (l:List Str):List (List D):=l.map ar
structure FileD where
 path:Str
 text:List Str
 deriving DecidableEq,Inhabited
def aq (f:FileD):List D:=[.str f.path,.sl 9 1 (aa f.text)]
def ac (l:List FileD):List (List D):=l.map aq
@[simp] theorem eStrs_length (l:List Str):(aa l).length=l.length:=by simp [aa]
@[simp] theorem eStrs_nil:aa []=[]:=rfl
@[simp] theorem eStrs_get (l:List Str) (i:Nat):(aa l)[i]? = l[i]?.map ar:=by simp [aa]
@[simp] theorem eStrs_getElem (l:List Str) (i:Nat) (h:i < (aa l).length):(aa l)[i]=ar (l[i]'(by simpa using h)):=by simp [aa]
@[simp] theorem eStr_inj (a b:Str):(ar a=ar b)=(a=b):=by simp [ar]
@[simp] theorem eStrs_inj (a b:List Str):(aa a=aa b)=(a=b):=by
 apply propext;constructor
 ·intro h;exact List.map_inj_right (fun x y h=>by simpa using h) |>.1 h
 ·rintro rfl; rfl
@[simp] theorem eStrs_eq_nil (a:List Str):(aa a=[])=(a=[]):=by simp [aa]
@[simp] theorem nil_eq_eStrs (a:List Str):([]=aa a)=(a=[]):=by simp [aa,eq_comm]
theorem br (a b:List Str):aa (a++b)=aa a++aa b:=by simp [aa]
theorem bu (a:List Str) (x:Str):aa a++[[.str x]]=aa (a++[x]):=by simp [aa,ar]
theorem bW (l:List Str) (i:Nat) (s:Str):(aa l).set i [.str s]=aa (l.set i s):=by simp [aa,List.map_set,ar]
theorem bn (l:List Str) (i:Nat):(aa l).take i=aa (l.take i):=by simp [aa]
theorem bw (l:List Str) (i:Nat):(aa l).drop i=aa (l.drop i):=by simp [aa]
theorem bK (n:Nat):List.replicate n [D.str []]=aa (List.replicate n []):=by simp [aa,ar]
@[simp] theorem eStrs_flat (l:List Str):(∀ x ∈ aa l,∀ d ∈ x,jO d)=True:=by
 simp only [eq_iff_iff,iff_true];intro x hx d hd;simp only [aa,List.mem_map] at hx;obtain ⟨s,_,rfl⟩:=hx;simp only [ar,List.mem_singleton] at hd;subst hd;trivial
@[simp] theorem eFiles_length (l:List FileD):(ac l).length=l.length:=by simp [ac]
@[simp] theorem eFiles_nil:ac []=[]:=rfl
@[simp] theorem eFiles_get (l:List FileD) (i:Nat):(ac l)[i]? = l[i]?.map aq:=by simp [ac]
@[simp] theorem eFiles_getElem (l:List FileD) (i:Nat) (h:i < (ac l).length):(ac l)[i]=aq (l[i]'(by simpa using h)):=by simp [ac]
@[simp] theorem eFile_inj (a b:FileD):(aq a=aq b)=(a=b):=by cases a; cases b; simp [aq]
@[simp] theorem eFiles_inj (a b:List FileD):(ac a=ac b)=(a=b):=by
 apply propext;constructor
 ·intro h;exact List.map_inj_right (fun x y h=>by simpa using h) |>.1 h
 ·rintro rfl; rfl
@[simp] theorem eFiles_eq_nil (a:List FileD):(ac a=[])=(a=[]):=by simp [ac]
@[simp] theorem nil_eq_eFiles (a:List FileD):([]=ac a)=(a=[]):=by simp [ac,eq_comm]
theorem bJ (a:List FileD) (p:Str) (t:List Str):ac a++[[.str p,.sl 9 1 (aa t)]]=ac (a++[⟨p,t⟩]):=by simp [ac,aq]
theorem bN (a b:List FileD):ac (a++b)=ac a++ac b:=by simp [ac]
theorem bV (l:List FileD) (i:Nat):(ac l).take i=ac (l.take i):=by simp [ac]
theorem bT (l:List FileD) (i:Nat):(ac l).drop i=ac (l.drop i):=by simp [ac]
theorem bp (l:List FileD) (i:Nat) (p:Str) (t:List Str):(ac l).set i [.str p,.sl 9 1 (aa t)]=ac (l.set i ⟨p,t⟩):=by simp [ac,List.map_set,aq]
theorem bU (n:Nat):List.replicate n [D.str [],.sl 9 1 []]=ac (List.replicate n ⟨[],[]⟩):=by simp [ac,aq]
@[simp] theorem FileD.eta (f:FileD):(⟨f.path,f.text⟩:FileD)=f:=rfl
@[simp] theorem asStr_str (s:Str):D.asStr (.str s)=s:=rfl
@[simp] theorem asRows_sl (e k:Nat) (r:List (List D)):D.asRows (.sl e k r)=r:=rfl
@[simp] theorem asInt_int (k:IntKind) (n:Int):D.asInt (.int k n)=n:=rfl
@[simp] theorem asBool_bool (b:Bool):D.asBool (.bool b)=b:=rfl
theorem bR (a b:Nat):((a:Int)=(b:Int)+1)=(a=b+1):=by apply propext; omega
theorem bm (a b:Nat):((a:Int)=(b:Int))=(a=b):=by apply propext; omega
theorem bS (a:Nat):((a:Int)=0)=(a=0):=by apply propext; omega
theorem aX {α:Type} {l:List α} {i:Nat} (h:i < l.length):l.take (i+1)=l.take i++[l[i]]:=List.take_succ_eq_append_getElem h
@[simp] theorem getD_nat (l:Str) (i:Nat) (h:i < l.length):l.getD i 0=l[i]:=by simp [List.getD_eq_getElem?_getD,h]
theorem cn {α:Type} {l:List α} {p:α -> Bool} {i:Nat} (h:i < l.length):(l.take (i+1)).all p=((l.take i).all p && p l[i]):=by rw [aX h,List.all_append]; simp
theorem nD {α:Type} {l r:List α} {i:Nat} (h1:i < l.length) (h2:i < r.length) (h:l.take i=r.take i) (he:l[i]=r[i]):l.take (i+1)=r.take (i+1):=by rw [aX h1,aX h2,h,he]
theorem lY {α:Type} {l r:List α} {i:Nat} (h0:l.length=r.length) (h1:l.length<=i) (h:l.take i=r.take i):l=r:=by
 rw [List.take_of_length_le h1,List.take_of_length_le (by omega)] at h
 exact h
theorem OH {α:Type} {o a:List α} {i:Nat} (h1:i < o.length) (h2:i < a.length) (h:o.take i=a.take i):(o.set i a[i]).take (i+1)=a.take (i+1):=by rw [aX (by simpa using h1),aX h2,List.take_set_of_le (Nat.le_refl i),h]; simp
theorem FileD.eq_iff (a b:FileD):(a=b)=(a.path=b.path/\a.text=b.text):=by cases a; cases b; simp
@[simp] theorem FileD.ex1 (p:Str) (x:List Str) (Q:FileD->Prop):(∃ a:FileD,a.path=p/\a.text=x/\Q a)=Q ⟨p,x⟩:=by
 apply propext;constructor
 ·rintro ⟨⟨a,b⟩,rfl,rfl,h⟩; exact h
 ·intro h; exact ⟨⟨p,x⟩,rfl,rfl,h⟩
@[simp] theorem FileD.ex2 (p:Str) (x:List Str) (Q:FileD->Prop):(∃ a:FileD,(a.path=p/\a.text=x)/\Q a)=Q ⟨p,x⟩:=by
 apply propext;constructor
 ·rintro ⟨⟨a,b⟩,⟨rfl,rfl⟩,h⟩; exact h
 ·intro h; exact ⟨⟨p,x⟩,⟨rfl,rfl⟩,h⟩
theorem Ge (a:Nat):((a:Int)=1)=(a=1):=by apply propext; omega
/- What unfolds a walk. -/
attribute [simp] Qj dm Qi P7 P6 P8 Qh Qf Qg P9 I2 I3 I1 II IJ IH IV IW IU IP IY P4 P3 I0 AG Jk P2 P0 IZ Jh Ji Jg Je Jf IQ IR fhB flB eM d6 cE AV.sgl ldB gh gW AF Jd IX El Ek Ei gT Ep O2 O1 Jc Jb AV.isSub Ej IG I9 lj oE fV mJ AV.stolen Eu Es Er Et I8 I5 I6 I7 Jm Jl Jn mA IM IL I4 zAV IK IO Qy QE QC QB Qz QA QD aT cS cW calm fZ gS oO j1 rj kX oc mr dx lZ ld d9 m4 fu jA gR fy gV j5 j7 nZ mvL AV.mv AV.base AV.moved vX pc wrK stK AV.selfOk AV.src TI.flat jF mu St.val St.cond St.fn St.next St.set St.trim Qu Qn Qo mw ai gZ PY ki bz rm gy Oper.hnd Sc.st nV pX kU bi il ldL ld1 kQ kR lh kK iF gw kP Out.of lI kq AV.rows AV.one AV.cells AV.deepOk AV.toD gN gE fP iT TK.zeroAV TK.zeroD byteOf inR Op.operands Call.operands fj j2 iw js eF iv jZ jY iU fO w6 jV iR jg rho over ku i7 iD eA fQ eK gg ge m2 AV.wipe AV.wipeV AV.wipe1 Blk.wipe AV.hs AV.hs.hsL f7 Con.start2 Con.pk pd qj rz iW eW Sc.from ou mD oz oA jx ot mC ov BL jK qS wJ hMk vN x9 setRow qk jO az OM ON Jj iX AV.viewed AV.viewed1
end Vx
end Go.Proofs.YthgfdbfmnbgkaaaGreatDoor
namespace Go.Proofs.YthgfdbfmnbgkaaaGreatDoor
open Go.ChangeShapes Go.WideShapes Go.ChangeAt Go.RowKit
namespace Vx
theorem xb:ownKnob Tryz.prog.godebug=none:=by kernel_rfl
theorem laidOut:laidOutB Tryz.prog=true:=by kernel_rfl
theorem DC:rK ag=true:=by decide
theorem OL {T:Nat->Option TI} (hs:∀ te,T 9=some te->te.cells=[.str]) {ds:List D} (h:Shp T [.sl 9 1] ds):∃ l,ds=[.sl 9 1 (aa l)]:=by
 cases h with
 | @sl e k te rows ks ds h1 h2 h3 =>
  cases h3;rw [hs _ h1] at h2;obtain ⟨l,rfl,_⟩:=C8 (f:=ar) (p:=fun _=>True) (rows:=rows) (fun r hr=>by
   have:=h2 r hr;cases this with
   | str q1 q2=>cases q2; exact ⟨_,rfl,trivial⟩)
  exact ⟨l,rfl⟩
section
variable {H:Type} {enc:TypeId × Value->H} {W:World} {sp:Nat->Bool} {held:Bool} {r:Reach} {base:Nat}
set_option maxRecDepth 100000 in
theorem open_strs {v:Value} {d:DataW H} {p:List MemPlace} (hu:Tryz.prog.underlying 22=some (.slice 9)) (hv:Value.okWide Tryz.prog W r base 22 v)
  (h:DataW.Trod enc Tryz.prog W 0 sp held 22 v d p):∃ l f,RdL false W [.sl 9 1 (aa l)] [v] f:=by
 obtain ⟨a,n,c,rfl⟩:=okWide_slice hu hv;obtain ⟨fuel,hf⟩:=h;obtain ⟨ds,f,h1,h2⟩:=CU aw DC fuel (t:=22) rfl hf;obtain ⟨l,rfl⟩:=OL (fun te ht=>by cases ht; rfl) h2
 exact ⟨l,f,h1⟩
end
end Vx
end Go.Proofs.YthgfdbfmnbgkaaaGreatDoor
namespace Go.Proofs.YthgfdbfmnbgkaaaGreatDoor
namespace Vx
open Go.ChangeShapes Go.WideShapes Go.ChangeAt Go.RowKit
theorem vz:laidOutB Tryz.pinned.checked.prog=true:=by kernel_rfl
theorem vE:mapsRowed Tryz.pinned.checked.prog=true:=by kernel_rfl
theorem vF:Tryz.pinned.checked.prog.stopsHeard=true:=by kernel_rfl
theorem vv:Tryz.pinned.checked.prog.mayEnter=true:=by kernel_rfl
theorem vA:Tryz.pinned.checked.prog.liftsFinal=false:=by kernel_rfl
theorem vD:Tryz.pinned.checked.prog.mainIs=some (Rows.fnExactSessionCard.stood.harness.1,Rows.fnExactSessionCard.stood.harness.2.toList):=by kernel_rfl
theorem vC:Rows.fnExactSessionCard.stood.looks=Tryz.pinned.checked.prog.looks []:=by kernel_rfl
end Vx
end Go.Proofs.YthgfdbfmnbgkaaaGreatDoor
namespace Go.Proofs.YthgfdbfmnbgkaaaGreatDoor
set_option maxHeartbeats 4000000
namespace Vx
open Go.RowKit
set_option maxRecDepth 8000
def aW (n:Nat):Str:=if n < 10 then [UInt8.ofNat (48+n)] else [UInt8.ofNat (48+n / 10),UInt8.ofNat (48+n % 10)]
def uH:Con:=.fn 15 Nat (fun n=>[.int .i64 n]) (fun n=>n < 100) (fun n=>.str (aW n)) (fun _=>[])
theorem OS:Has Tryz.prog 245 uH:=by
 refine ah mixed aw HasL.nil [0,2] ((fun a n (_:Nat)=>(fun _=>az) a n)) [] Tryz.func245 (by unfold Tryz.f245; rfl) (fun _=>⟨(),trivial⟩) ?_
 intro (n:Nat) (hn:n < 100);simp -implicitDefEqProofs [uH,Con.fn,ag];refine ⟨fun h=>⟨by omega,fun a1 a2=>⟨by omega,fun a3 a4=>?_⟩⟩,fun h=>⟨by omega,fun a1 a2=>⟨by omega,fun a3 a4=>⟨by omega,fun a5 a6=>⟨by omega,fun a7 a8 a9=>?_⟩⟩⟩⟩⟩
 ·have h10:n < 10:=by omega
  clear h hn a1 a2 a3 a4;revert n
  decide
 ·rw [show ((n:Int) * 2+2).toNat - ((n:Int) * 2).toNat=2 by omega,show ((n:Int) * 2).toNat=n * 2 by omega]
  have h10:10<=n:=by omega
  clear h a1 a2 a3 a4 a5 a6 a7 a8 a9;revert h10;revert hn;revert n
  decide
def sY:Con:=.fn 54 Nat (fun n=>[.int .i64 n,.int .i64 10]) (fun n=>n < 100) (fun n=>.str (aW n)) (fun _=>[])
theorem Hs:Has Tryz.prog 201 sY:=by
 refine ah mixed aw (HasL.cons OS HasL.nil) [0,1,4,5,6,7,9] ((fun a n (_:Nat)=>(fun _=>az) a n)) [] Tryz.func201 (by unfold Tryz.f201; rfl) (fun _=>⟨(),trivial⟩) ?_
 intro (n:Nat) (hn:n < 100);simp -implicitDefEqProofs [sY,uH,Con.fn,ag];refine ⟨fun _=>⟨n,rfl,hn,rfl⟩,fun h=>absurd h (by omega)⟩
def td:Con:=.fn 5 Nat (fun n=>[.int .i64 n]) (fun n=>n < 100) (fun n=>.str (aW n)) (fun _=>[])
theorem IA:Has Tryz.prog 150 td:=by
 refine ah mixed aw (HasL.cons Hs HasL.nil) [0,2] ((fun a n (_:Nat)=>(fun _=>az) a n)) [] Tryz.func150 (by unfold Tryz.f150; rfl) (fun _=>⟨(),trivial⟩) ?_
 intro (n:Nat) (hn:n < 100);simp -implicitDefEqProofs [td,Con.fn,ag,sY]
 try dsimp only
 try simp +contextual -implicitDefEqProofs [ar,aq,bR,bm,bS,List.getElem?_eq_getElem,bW,bp,bK,bU,<- br,<- bN,bn,bw,bV,bT,bu,bJ,and_assoc]
 repeat' (first | intro _ | apply And.intro)
 all_goals first | omega | grind [cn]
def mZ:Con:=.fn 5 Nat (fun n=>[.int .i64 n]) (fun n=>n < 100) (fun n=>.str (aW n)) (fun _=>[])
theorem vU:Has Tryz.prog 76 mZ:=by
 refine ah mixed aw (HasL.cons IA HasL.nil) [0,2] ((fun a n (_:Nat)=>(fun _=>az) a n)) [] Tryz.func76 (by unfold Tryz.f76; rfl) (fun _=>⟨(),trivial⟩) ?_
 intro (n:Nat) (hn:n < 100);simp -implicitDefEqProofs [mZ,Con.fn,ag,td]
 try dsimp only
 try simp +contextual -implicitDefEqProofs [ar,aq,bR,bm,bS,List.getElem?_eq_getElem,bW,bp,bK,bU,<- br,<- bN,bn,bw,bV,bT,bu,bJ,and_assoc]
 repeat' (first | intro _ | apply And.intro)
 all_goals first | omega | grind [cn]
theorem vP {P:Program} {f:Nat} {fn:Func} {code:Code} {k:Con} (hf:P.funcs[f]? = some fn) (hname:(fn.name == "runtime.NumGoroutine")=false) (hb:fn.body=some code) (tot:∀ a,∃ x,k.post a x) (nob:k.nob=true -> ∀ a,k.boxes a=[]) (hp:∀ a,¬ k.pre a) (hbd:k.bld=(0,0,0,0):=by rfl) (hbt:k.bty=[]:=by rfl):Has P f k :=
 ⟨fun args w=>Go.MuLone.run_callFunc_enter hf hname hb args w,tot,nob,fun a ha=>absurd ha (hp a),by rw [hbd]; trivial,.inl hbt⟩
def yY:Con:=.fn 28 Nat (fun n=>[.int .i64 n]) (fun _=>False) (fun n=>.str (aW n)) (fun _=>[])
theorem JT:Has Tryz.prog 69 yY :=
 vP Tryz.func69 (by kernel_rfl) (code:=_) (by unfold Tryz.f69; rfl) (fun _=>⟨(),trivial⟩) (by intro _ _; rfl) (fun _ h=>h)
def tF:Con:=.fn 28 Nat (fun n=>[.int .i64 n]) (fun n=>n < 10) (fun n=>.str (aW n)) (fun _=>[])
theorem JU:Has Tryz.prog 69 tF:=by
 refine ah mixed aw (HasL.cons JT HasL.nil) [0,2] ((fun a n (_:Nat)=>(fun _=>az) a n)) [] Tryz.func69 (by unfold Tryz.f69; rfl) (fun _=>⟨(),trivial⟩) ?_
 intro (n:Nat) (hn:n < 10);simp -implicitDefEqProofs [tF,yY,Con.fn,ag];refine ⟨fun h=>absurd h (by omega),fun h=>absurd h (by omega),fun h=>⟨by omega,fun _ _=>⟨by omega,fun _ _=>⟨by omega,fun _=>?_⟩⟩⟩,fun h=>absurd h (by omega)⟩
 rw [show (48+(n:Int)).toNat=48+n by omega]
 simp -implicitDefEqProofs [aW,hn]
def na:Con:=.fn 28 Nat (fun n=>[.int .i64 n]) (fun n=>n < 100) (fun n=>.str (aW n)) (fun _=>[])
theorem wj:Has Tryz.prog 69 na:=by
 refine ah mixed aw (HasL.cons JU HasL.nil) [0,2] ((fun a n (_:Nat)=>(fun _=>az) a n)) [] Tryz.func69 (by unfold Tryz.f69; rfl) (fun _=>⟨(),trivial⟩) ?_
 intro (n:Nat) (hn:n < 100);simp -implicitDefEqProofs [na,tF,Con.fn,ag];have hm:(n:Int).tmod 10=((n % 10:Nat):Int):=(Int.ofNat_tmod n 10).symm;rw [hm];refine ⟨fun h=>absurd h (by omega),fun h=>absurd h (by omega),fun h=>⟨by omega,fun _ _=>⟨by omega,fun _ _=>⟨by omega,fun _=>?_⟩⟩⟩,fun h=>⟨by omega,fun _ _=>⟨n / 10,by omega,by omega,by omega,fun _ _=>⟨by omega,fun _ _=>⟨by omega,fun _=>?_⟩⟩⟩⟩⟩
 ·rw [show (48+(n:Int)).toNat=48+n by omega]
  simp -implicitDefEqProofs [aW,show n < 10 by omega]
 ·have h1:aW (n / 10)=[UInt8.ofNat (48+n / 10)]:=by simp -implicitDefEqProofs [aW,show n / 10 < 10 by omega]
  rw [h1];refine ⟨by simp -implicitDefEqProofs [maxLen],fun _=>?_⟩
  rw [show (48+((n % 10:Nat):Int)).toNat=48+n % 10 by omega]
  simp -implicitDefEqProofs [aW,show ¬ n < 10 by omega]
def gK:AV->Option Value
 | .int k n=>some (.int k n)
 | .bool b=>some (.bool b)
 | .str s=>some (.string ⟨s.toArray⟩)
 | _=>none
theorem Ou {w m β c v x u} (h:RelL w m β c [v] [u]) (hs:gK v=some x):u=x:=by
 cases v <;> simp only [gK,Option.some.injEq,reduceCtorEq] at hs
 all_goals cases h; exact hs
theorem Dm {w m β c}:∀ {vs:List AV} {us xs:List Value},RelL w m β c vs us->vs.mapM gK=some xs->us=xs:=by
 intro vs
 induction vs with
 | nil=>intro us xs h hm; cases h; simp at hm; exact hm.symm
 | cons v vs ih =>
  intro us xs h hm;obtain ⟨u,us',rfl,h1,h2⟩:=h.uncons;rw [List.mapM_cons] at hm;cases hv:gK v with
  | none=>rw [hv] at hm; simp at hm
  | some x =>
   rw [hv] at hm;cases hvs:vs.mapM gK with
   | none=>rw [hvs] at hm; simp at hm
   | some ys =>
    rw [hvs] at hm;simp at hm;subst hm;rw [Ou h1 hv,ih h2 hvs]
theorem NH {w m β c v x} (hs:gK v=some x) (hok:∀ s,v = .str s->s.length<=maxLen):RelL w m β c [v] [x]:=by
 cases v <;> simp only [gK,Option.some.injEq,reduceCtorEq] at hs
 all_goals subst hs
 ·exact .int .lnil
 ·exact .bool .lnil
 ·exact .str (hok _ rfl) .lnil
theorem li {c:Cx} {k:Con} {x:k.A} {vs:List Value} {w β fp} (hl:vs.length=(k.args x).length) (S:SatI c (k.start2 x) ⟨vs.toArray++Array.replicate (k.n - vs.length) undef,[]⟩ w β fp) :
  RelL w (k.start2 x).m β c (k.args x) vs:=by
 have key:∀ (i:Nat) (v:AV) (u:Value),(k.args x)[i]? = some v->vs[i]? = some u->RelL w (k.start2 x).m β c [v] [u]:=by
  intro i v u hv hu;have:=(S.env i true v (by simp [Con.start2,hv])).2.1 rfl
  have hi:i < vs.length:=(List.getElem?_eq_some_iff.1 hu).1;have e:(vs.toArray++Array.replicate (k.n - vs.length) undef).getD i undef=u:=by
   rw [Array.getD_eq_getD_getElem?,Array.getElem?_append_left (by simpa using hi)]
   simp [hu]
  rw [e] at this;exact this
 clear S;generalize k.args x=xs at hl key
 induction xs generalizing vs with
 | nil=>cases vs with | nil=>exact .lnil | cons=>simp at hl
 | cons v xs ih =>
  cases vs with
  | nil=>simp at hl
  | cons u vs =>
   exact (key 0 v u rfl rfl).append (ih (by simpa using hl) fun i v' u' h1 h2=>key (i+1) v' u' h1 h2)
theorem zZ {P:Program} {f:Nat} {n:Nat} {A:Type} {args:A->List AV} {pre:A->Prop} {res:A->AV} {rv:A->Value}
  (henter:∀ args w,(callFunc f args).run P w = .ok (.enter f args) w) (hres:∀ a,gK (res a)=some (rv a)) (hstr:∀ a s,pre a->res a = .str s->s.length<=maxLen)
  (h:∀ a vs w,pre a->(args a).mapM gK=some vs->Calls P f vs.toArray w fun e w'=>e = .returned (rv a)/\w'=w) (hsc:∀ a,∃ vs,(args a).mapM gK=some vs) :
  Has P f (.fn n A args pre res (fun _=>[])):=by
 refine ⟨henter,fun _=>⟨(),trivial⟩,fun _ _=>rfl,?_,trivial,.inl rfl⟩;intro a hp c _ vs β fp hcn hpins hl1 hl2 S;obtain ⟨us,hus⟩:=hsc a;have hvs:vs=us:=Dm (li hl1 S) hus;subst hvs;refine (h a vs c.w0 hp hus).mono ?_;rintro e w' ⟨rfl,rfl⟩;refine ⟨(),trivial,rv a,rfl,β,fp,⟨Array.replicate c.n undef,[]⟩,⟨?_,?_,?_,?_,?_,S.fg,S.old,S.os,S.tape,S.output,S.size,rfl,by simp,?_⟩,?_⟩
 ·intro t g av ht; cases ht
 ·intro h blk hm; cases hm
 ·intro h blk hm; cases hm
 ·intro h h' blk blk' hm; cases hm
 ·intro h blk hm; cases hm
 ·rw [hpins]; intro p hp; simp [Con.pins2] at hp
 ·exact NH (hres a) (fun s hs=>hstr a s hp hs)
set_option maxHeartbeats 1000000 in
set_option maxRecDepth 100000 in
theorem Ig (s:ByteArray) (c:Int) (w:World) :
  Calls Tryz.prog 274 #[.string s,.int .u8 c] w fun e w'=>e = .returned (.int .i64 (Lib.indexByte s.data.toList c.toNat.toUInt8))/\w'=w:=by
 go_enter Tryz.func274,Tryz.ntmps274
 go_wp2
 rw [run_callFunc_extern Tryz.func295 (by kernel_rfl) (by kernel_rfl) (by kernel_rfl) (e:=Extern.BytealgIndexByte.indexByte) (by kernel_rfl),Lib.run_indexByteString]
 simp only [Result.andThen];rw [Oper.upon_value]
 go_wp2
 go_ret
 exact ⟨rfl,rfl⟩
set_option maxHeartbeats 2000000 in
set_option maxRecDepth 100000 in
theorem Ih (s:ByteArray) (c:UInt8) (w:World) :
  Calls Tryz.prog 244 #[.string s,.string ⟨#[c]⟩] w fun e w'=>e = .returned (.int .i64 (Lib.indexByte s.data.toList c))/\w'=w:=by
 go_enter Tryz.func244,Tryz.ntmps244
 go_wp2_with (go_at_call 274; refine (Ig _ _ _).mono ?_; rintro e w' ⟨rfl,rfl⟩)
 ·have h:([c] == s.toList)=true:=by assumption
  go_ret
  refine ⟨?_,rfl⟩;have e:s.data.toList=[c]:=by rw [<- Lib.toList_data]; exact (beq_iff_eq.1 h).symm
  rw [e];simp [Lib.indexByte]
 ·go_ret
  exact ⟨rfl,rfl⟩
set_option maxHeartbeats 2000000 in
set_option maxRecDepth 100000 in
theorem Pd (s:ByteArray) (c:UInt8) (w:World) :
  Calls Tryz.prog 200 #[.string s,.string ⟨#[c]⟩] w fun e w'=>e = .returned (.int .i64 (Lib.indexByte s.data.toList c))/\w'=w:=by
 go_enter Tryz.func200,Tryz.ntmps200
 go_wp2_with (go_at_call 244; refine (Ih _ _ _).mono ?_; rintro e w' ⟨rfl,rfl⟩)
 go_ret
 exact ⟨rfl,rfl⟩
set_option maxHeartbeats 1000000 in
set_option maxRecDepth 100000 in
theorem GJ (s:ByteArray) (c:UInt8) (w:World) :
  Calls Tryz.prog 199 #[.string s,.string ⟨#[c]⟩] w fun e w'=>e = .returned (.int .i64 (Lib.countByte s.data.toList c))/\w'=w:=by
 go_enter Tryz.func199,Tryz.ntmps199
 go_wp2
 rw [run_callFunc_extern Tryz.func243 (by kernel_rfl) (by kernel_rfl) (by kernel_rfl) (e:=Extern.BytealgCount.count) (by kernel_rfl),Lib.run_countString]
 simp only [Result.andThen];rw [Oper.upon_value]
 go_wp2
 go_ret
 exact ⟨rfl,rfl⟩
def aH:Str->UInt8->Int
 | [],_=>-1
 | b :: l,c=>if b=c then 0 else if aH l c < 0 then -1 else aH l c+1
theorem H1 (s:Str) (c:UInt8):Lib.indexByte s c=aH s c:=by
 induction s with
 | nil=>rfl
 | cons b l ih =>
  have hge:=Lib.indexByte_ge l c;simp only [Lib.indexByte,aH,ih] at hge ⊢;by_cases hb:b=c
  ·simp [hb]
  ·simp only [beq_iff_eq,hb,if_false];by_cases h:aH l c < 0
   ·rw [if_pos h,if_pos (by omega)]
   ·rw [if_neg h,if_neg (by omega)]
def pV:Con:=.fn 8 (Str × UInt8) (fun a=>[.str a.1,.str [a.2]]) (fun _=>True) (fun a=>.int .i64 (aH a.1 a.2)) (fun _=>[])
theorem xF:Has Tryz.prog 200 pV :=
 zZ (rv:=fun a=>.int .i64 (aH a.1 a.2)) (fun args w=>Go.MuLone.run_callFunc_enter Tryz.func200 (by kernel_rfl) rfl args w) (fun _=>rfl) (fun a s _ h=>by cases h)
  (fun a vs w _ hv=>by
   obtain ⟨s,c⟩:=a;simp [gK] at hv;subst hv;have:=Pd ⟨s.toArray⟩ c w
   simpa [H1] using this) (fun a=>⟨_,rfl⟩)
def y9:Con:=.fn 34 (Str × UInt8) (fun a=>[.str a.1,.str [a.2]]) (fun _=>True) (fun a=>.int .i64 (a.1.count a.2)) (fun _=>[])
theorem Pc:Has Tryz.prog 199 y9 :=
 zZ (rv:=fun a=>.int .i64 (a.1.count a.2)) (fun args w=>Go.MuLone.run_callFunc_enter Tryz.func199 (by kernel_rfl) rfl args w) (fun _=>rfl) (fun a s _ h=>by cases h)
  (fun a vs w _ hv=>by
   obtain ⟨s,c⟩:=a;simp [gK] at hv;subst hv;have:=GJ ⟨s.toArray⟩ c w
   simpa [Lib.countByte] using this) (fun a=>⟨_,rfl⟩)
end Vx
end Go.Proofs.YthgfdbfmnbgkaaaGreatDoor
/-
  DERIVED: THE SHELF's CONTRACTS AT THIS DUMP, IN PLAIN WORDS (tools/lay-plain.mjs out of 'YthgfdbfmnbgkaaaGreatDoorShelf.lean', which tools/lay-shelf.mjs wrote): THE SAME DECLARATIONS UNDER THE SAME NAMES: 'import', 'namespace', 'open', 'def', 'theorem' AND NOTHING ELSE: no command of the shelf's: FOR A HAND-IN. Each laying: the table of numbers ('.._ren') and one theorem, a field a fact of the dump's own or the kernel's comparison; each contract: ONE APPLICATION.
-/
namespace Go.Proofs
open Go.Shelf
def Tryz.laysItoa_ren:Go.Shelf.Ren:=⟨fun | 171=>76 | 243=>150 | 246=>201 | 283=>245 | 284=>246 | 285=>247 | 286=>248 | 129=>217 | 317=>278 | 318=>279 | 319=>280 | 320=>281 | 337=>297 | 338=>298 | n=>n,fun | 3=>3 | 9=>9 | 2=>2 | 4=>4 | 171=>238 | 0=>0 | 53=>212 | 37=>28 | 5=>5 | 173=>240 | 212=>268 | 51=>210 | 20=>20 | 213=>269 | 46=>173 | 232=>296 | 233=>297 | n=>n,fun | 17=>3 | 18=>6 | 19=>7 | n=>n⟩
theorem Tryz.laysItoa:Go.Proofs.LaysM.n171 Tryz.prog Tryz.laysItoa_ren:={
  mixed:=by kernel_rfl
  f129:=Tryz.func217.trans (congrArg some (by kernel_rfl))
  f171:=Tryz.func76.trans (congrArg some (by kernel_rfl))
  f243:=Tryz.func150.trans (congrArg some (by kernel_rfl))
  f246:=Tryz.func201.trans (congrArg some (by kernel_rfl))
  f283:=Tryz.func245.trans (congrArg some (by kernel_rfl))
  f284:=Tryz.func246.trans (congrArg some (by kernel_rfl))
  f285:=Tryz.func247.trans (congrArg some (by kernel_rfl))
  f286:=Tryz.func248.trans (congrArg some (by kernel_rfl))
  f317:=Tryz.func278.trans (congrArg some (by kernel_rfl))
  f318:=Tryz.func279.trans (congrArg some (by kernel_rfl))
  f319:=Tryz.func280.trans (congrArg some (by kernel_rfl))
  f320:=Tryz.func281.trans (congrArg some (by kernel_rfl))
  f337:=Tryz.func297.trans (congrArg some (by kernel_rfl))
  f338:=Tryz.func298.trans (congrArg some (by kernel_rfl))
  t0:=Tryz.underlying0
  a0:=Tryz.isAgg0
  z0:=Tryz.sizeOf0
  v0:=Tryz.zeroValue0
  t2:=Tryz.underlying2
  a2:=Tryz.isAgg2
  z2:=Tryz.sizeOf2
  v2:=Tryz.zeroValue2
  t3:=Tryz.underlying3
  a3:=Tryz.isAgg3
  z3:=Tryz.sizeOf3
  v3:=Tryz.zeroValue3
  t4:=Tryz.underlying4
  a4:=Tryz.isAgg4
  z4:=Tryz.sizeOf4
  v4:=Tryz.zeroValue4
  t5:=Tryz.underlying5
  a5:=Tryz.isAgg5
  z5:=Tryz.sizeOf5
  v5:=Tryz.zeroValue5
  t9:=Tryz.underlying9
  a9:=Tryz.isAgg9
  z9:=Tryz.sizeOf9
  v9:=Tryz.zeroValue9
  t20:=Tryz.underlying20
  a20:=Tryz.isAgg20
  z20:=Tryz.sizeOf20
  v20:=Tryz.zeroValue20
  t37:=Tryz.underlying28
  a37:=Tryz.isAgg28
  z37:=Tryz.sizeOf28
  v37:=Tryz.zeroValue28
  t46:=Tryz.underlying173
  a46:=Tryz.isAgg173
  z46:=Tryz.sizeOf173
  v46:=Tryz.zeroValue173
  t51:=Tryz.underlying210
  a51:=Tryz.isAgg210
  z51:=Tryz.sizeOf210
  v51:=Tryz.zeroValue210
  t53:=Tryz.underlying212
  a53:=Tryz.isAgg212
  z53:=Tryz.sizeOf212
  v53:=Tryz.zeroValue212
  t171:=Tryz.underlying238
  a171:=Tryz.isAgg238
  z171:=Tryz.sizeOf238
  v171:=Tryz.zeroValue238
  t173:=Tryz.underlying240
  a173:=Tryz.isAgg240
  z173:=Tryz.sizeOf240
  v173:=Tryz.zeroValue240
  t212:=Tryz.underlying268
  a212:=Tryz.isAgg268
  z212:=Tryz.sizeOf268
  v212:=Tryz.zeroValue268
  t213:=Tryz.underlying269
  a213:=Tryz.isAgg269
  z213:=Tryz.sizeOf269
  t232:=Tryz.underlying296
  a232:=Tryz.isAgg296
  z232:=Tryz.sizeOf296
  v232:=Tryz.zeroValue296
  t233:=Tryz.underlying297
  a233:=Tryz.isAgg297
  z233:=Tryz.sizeOf297
  v233:=Tryz.zeroValue297
  g17:=by kernel_rfl
  g18:=by kernel_rfl
  g19:=by kernel_rfl
  i0:=by kernel_rfl
  i2:=by kernel_rfl
  i3:=by kernel_rfl
  i4:=by kernel_rfl
  i5:=by kernel_rfl
  i9:=by kernel_rfl
  i20:=by kernel_rfl
  i37:=by kernel_rfl
  i46:=by kernel_rfl
  i51:=by kernel_rfl
  i53:=by kernel_rfl
  i171:=by kernel_rfl
  i173:=by kernel_rfl
  i212:=by kernel_rfl
  i232:=by kernel_rfl
  i233:=by kernel_rfl
  m17:=by kernel_rfl
  m18:=by kernel_rfl
  m19:=by kernel_rfl }
def Tryz.laysAtoi_ren:Go.Shelf.Ren:=⟨fun | 172=>140 | 244=>188 | 245=>189 | 247=>234 | 279=>235 | 280=>236 | 281=>237 | 282=>238 | 287=>267 | 316=>268 | 171=>76 | 205=>269 | 321=>291 | 322=>292 | 243=>150 | 246=>201 | 283=>245 | 284=>246 | 285=>247 | 286=>248 | 129=>217 | 317=>278 | 318=>279 | 319=>280 | 320=>281 | 337=>297 | 338=>298 | n=>n,fun | 9=>9 | 3=>3 | 75=>61 | 76=>62 | 4=>4 | 5=>5 | 167=>227 | 37=>28 | 0=>0 | 85=>228 | 2=>2 | 168=>230 | 53=>212 | 175=>260 | 46=>173 | 210=>264 | 127=>109 | 145=>285 | 143=>283 | 21=>21 | 171=>238 | 173=>240 | 212=>268 | 51=>210 | 20=>20 | 213=>269 | 232=>296 | 233=>297 | 80=>64 | n=>n,fun | 15=>0 | 16=>1 | 17=>3 | 18=>6 | 19=>7 | n=>n⟩
theorem Tryz.laysAtoi:Go.Proofs.LaysC.n172 Tryz.prog Tryz.laysAtoi_ren:={
  mixed:=by kernel_rfl
  f129:=Tryz.func217.trans (congrArg some (by kernel_rfl))
  f171:=Tryz.func76.trans (congrArg some (by kernel_rfl))
  f172:=Tryz.func140.trans (congrArg some (by kernel_rfl))
  f205:=Tryz.func269.trans (congrArg some (by kernel_rfl))
  f243:=Tryz.func150.trans (congrArg some (by kernel_rfl))
  f244:=Tryz.func188.trans (congrArg some (by kernel_rfl))
  f245:=Tryz.func189.trans (congrArg some (by kernel_rfl))
  f246:=Tryz.func201.trans (congrArg some (by kernel_rfl))
  f247:=Tryz.func234.trans (congrArg some (by kernel_rfl))
  f279:=Tryz.func235.trans (congrArg some (by kernel_rfl))
  f280:=Tryz.func236.trans (congrArg some (by kernel_rfl))
  f281:=Tryz.func237.trans (congrArg some (by kernel_rfl))
  f282:=Tryz.func238.trans (congrArg some (by kernel_rfl))
  f283:=Tryz.func245.trans (congrArg some (by kernel_rfl))
  f284:=Tryz.func246.trans (congrArg some (by kernel_rfl))
  f285:=Tryz.func247.trans (congrArg some (by kernel_rfl))
  f286:=Tryz.func248.trans (congrArg some (by kernel_rfl))
  f287:=Tryz.func267.trans (congrArg some (by kernel_rfl))
  f316:=Tryz.func268.trans (congrArg some (by kernel_rfl))
  f317:=Tryz.func278.trans (congrArg some (by kernel_rfl))
  f318:=Tryz.func279.trans (congrArg some (by kernel_rfl))
  f319:=Tryz.func280.trans (congrArg some (by kernel_rfl))
  f320:=Tryz.func281.trans (congrArg some (by kernel_rfl))
  f321:=Tryz.func291.trans (congrArg some (by kernel_rfl))
  f322:=Tryz.func292.trans (congrArg some (by kernel_rfl))
  f337:=Tryz.func297.trans (congrArg some (by kernel_rfl))
  f338:=Tryz.func298.trans (congrArg some (by kernel_rfl))
  t0:=Tryz.underlying0
  a0:=Tryz.isAgg0
  z0:=Tryz.sizeOf0
  v0:=Tryz.zeroValue0
  t2:=Tryz.underlying2
  a2:=Tryz.isAgg2
  z2:=Tryz.sizeOf2
  v2:=Tryz.zeroValue2
  t3:=Tryz.underlying3
  a3:=Tryz.isAgg3
  z3:=Tryz.sizeOf3
  v3:=Tryz.zeroValue3
  t4:=Tryz.underlying4
  a4:=Tryz.isAgg4
  z4:=Tryz.sizeOf4
  v4:=Tryz.zeroValue4
  t5:=Tryz.underlying5
  a5:=Tryz.isAgg5
  z5:=Tryz.sizeOf5
  v5:=Tryz.zeroValue5
  t9:=Tryz.underlying9
  a9:=Tryz.isAgg9
  z9:=Tryz.sizeOf9
  v9:=Tryz.zeroValue9
  t20:=Tryz.underlying20
  a20:=Tryz.isAgg20
  z20:=Tryz.sizeOf20
  v20:=Tryz.zeroValue20
  t21:=Tryz.underlying21
  a21:=Tryz.isAgg21
  z21:=Tryz.sizeOf21
  v21:=Tryz.zeroValue21
  t37:=Tryz.underlying28
  a37:=Tryz.isAgg28
  z37:=Tryz.sizeOf28
  v37:=Tryz.zeroValue28
  t46:=Tryz.underlying173
  a46:=Tryz.isAgg173
  z46:=Tryz.sizeOf173
  v46:=Tryz.zeroValue173
  t51:=Tryz.underlying210
  a51:=Tryz.isAgg210
  z51:=Tryz.sizeOf210
  v51:=Tryz.zeroValue210
  t53:=Tryz.underlying212
  a53:=Tryz.isAgg212
  z53:=Tryz.sizeOf212
  v53:=Tryz.zeroValue212
  t75:=Tryz.underlying61
  a75:=Tryz.isAgg61
  z75:=Tryz.sizeOf61
  v75:=Tryz.zeroValue61
  t76:=Tryz.underlying62
  a76:=Tryz.isAgg62
  z76:=Tryz.sizeOf62
  v76:=Tryz.zeroValue62
  t85:=Tryz.underlying228
  a85:=Tryz.isAgg228
  z85:=Tryz.sizeOf228
  v85:=Tryz.zeroValue228
  t127:=Tryz.underlying109
  a127:=Tryz.isAgg109
  z127:=Tryz.sizeOf109
  v127:=Tryz.zeroValue109
  t143:=Tryz.underlying283
  a143:=Tryz.isAgg283
  z143:=Tryz.sizeOf283
  v143:=Tryz.zeroValue283
  t145:=Tryz.underlying285
  a145:=Tryz.isAgg285
  z145:=Tryz.sizeOf285
  v145:=Tryz.zeroValue285
  t167:=Tryz.underlying227
  a167:=Tryz.isAgg227
  z167:=Tryz.sizeOf227
  v167:=Tryz.zeroValue227
  t168:=Tryz.underlying230
  a168:=Tryz.isAgg230
  z168:=Tryz.sizeOf230
  v168:=Tryz.zeroValue230
  t171:=Tryz.underlying238
  a171:=Tryz.isAgg238
  z171:=Tryz.sizeOf238
  v171:=Tryz.zeroValue238
  t173:=Tryz.underlying240
  a173:=Tryz.isAgg240
  z173:=Tryz.sizeOf240
  v173:=Tryz.zeroValue240
  t175:=Tryz.underlying260
  a175:=Tryz.isAgg260
  z175:=Tryz.sizeOf260
  v175:=Tryz.zeroValue260
  t210:=Tryz.underlying264
  a210:=Tryz.isAgg264
  z210:=Tryz.sizeOf264
  v210:=Tryz.zeroValue264
  t212:=Tryz.underlying268
  a212:=Tryz.isAgg268
  z212:=Tryz.sizeOf268
  v212:=Tryz.zeroValue268
  t213:=Tryz.underlying269
  a213:=Tryz.isAgg269
  z213:=Tryz.sizeOf269
  t232:=Tryz.underlying296
  a232:=Tryz.isAgg296
  z232:=Tryz.sizeOf296
  v232:=Tryz.zeroValue296
  t233:=Tryz.underlying297
  a233:=Tryz.isAgg297
  z233:=Tryz.sizeOf297
  v233:=Tryz.zeroValue297
  g15:=by kernel_rfl
  g16:=by kernel_rfl
  g17:=by kernel_rfl
  g18:=by kernel_rfl
  g19:=by kernel_rfl
  t80:=Tryz.underlying64
  a80:=Tryz.isAgg64
  z80:=Tryz.sizeOf64
  v80:=Tryz.zeroValue64
  i0:=by kernel_rfl
  i2:=by kernel_rfl
  i3:=by kernel_rfl
  i4:=by kernel_rfl
  i5:=by kernel_rfl
  i9:=by kernel_rfl
  i20:=by kernel_rfl
  i21:=by kernel_rfl
  i37:=by kernel_rfl
  i46:=by kernel_rfl
  i51:=by kernel_rfl
  i53:=by kernel_rfl
  i75:=by kernel_rfl
  i76:=by kernel_rfl
  i80:=by kernel_rfl
  i85:=by kernel_rfl
  i127:=by kernel_rfl
  i143:=by kernel_rfl
  i145:=by kernel_rfl
  i167:=by kernel_rfl
  i168:=by kernel_rfl
  i171:=by kernel_rfl
  i173:=by kernel_rfl
  i175:=by kernel_rfl
  i210:=by kernel_rfl
  i212:=by kernel_rfl
  i232:=by kernel_rfl
  i233:=by kernel_rfl
  m15:=by kernel_rfl
  m16:=by kernel_rfl
  m17:=by kernel_rfl
  m18:=by kernel_rfl
  m19:=by kernel_rfl
  c0:=by kernel_rfl
  c2:=by kernel_rfl
  c3:=by kernel_rfl
  c4:=by kernel_rfl
  c5:=by kernel_rfl
  c9:=by kernel_rfl
  c20:=by kernel_rfl
  c21:=by kernel_rfl
  c37:=by kernel_rfl
  c46:=by kernel_rfl
  c51:=by kernel_rfl
  c53:=by kernel_rfl
  c75:=by kernel_rfl
  c76:=by kernel_rfl
  c80:=by kernel_rfl
  c85:=by kernel_rfl
  c127:=by kernel_rfl
  c143:=by kernel_rfl
  c145:=by kernel_rfl
  c167:=by kernel_rfl
  c168:=by kernel_rfl
  c171:=by kernel_rfl
  c173:=by kernel_rfl
  c175:=by kernel_rfl
  c210:=by kernel_rfl
  c212:=by kernel_rfl
  c213:=by kernel_rfl
  c232:=by kernel_rfl
  c233:=by kernel_rfl }
end Go.Proofs
namespace Go.Proofs.YthgfdbfmnbgkaaaGreatDoor
namespace Vx
open Go.RowKit Go.Shelf
set_option maxRecDepth 8000
def jp (w:World):Prop :=
 (∃ tp p,w.var? Tryz.prog "strconv.ErrSyntax" = some #[.iface tp p])/\(∃ tp p,w.var? Tryz.prog "strconv.ErrRange" = some #[.iface tp p]) /\
 ∃ e fz,w.heap[3]? = some (.cells (Lib.pow10Tab.map fun z=>Value.int .u64 z).toArray e fz)
end Vx
end Go.Proofs.YthgfdbfmnbgkaaaGreatDoor
namespace Go.Proofs.YthgfdbfmnbgkaaaGreatDoor
open Go.ChangeShapes Go.WideShapes Go.ChangeAt Go.RowKit
namespace Vx
set_option maxRecDepth 100000
theorem DA:("*" ++ "errors.errorString" : String) = "*errors.errorString" := by decide
theorem C5 (u:TypeId) (h:Tryz.prog.typeName? 3 u=some "*errors.errorString"):u=283 :=
 typeName_ptr_named (nm := "errors.errorString") (by rw [DA]; kernel_rfl) (by kernel_rfl) (by decide) u (by rw [DA]; exact h)
theorem wG {W:World} {x1 x2 x4:String × DataW Unit} {nm:String} {r:List (String × DataW Unit)} (hg:Tryz.prog.globalNamed nm=some 3)
  (h:laidMet Tryz.prog (x1 :: x2 :: (nm,Rows.laid_internal_strconv_uint64pow10) :: x4 :: ("strconv.ErrRange", Rows.laid_strconv_ErrRange) :: ("strconv.ErrSyntax", Rows.laid_strconv_ErrSyntax) :: r) W) :
  ∀ w:World,(∀ b,b < W.heap.size->w.heap[b]? = W.heap[b]?)->jp w:=by
 have tab:Lib.TabIs Tryz.prog W nm .u64 Lib.pow10Tab:=Lib.tabIs_of_head (t:=268) (e:=212) (n:=20) hg (by kernel_rfl) Tryz.underlying268 Tryz.underlying212 (by kernel_rfl) (by kernel_rfl) h.tail.tail
 obtain ⟨a0,s0,hv0,-,-,-⟩:=laid_sentinel (ti:=61) (g:=1) h.tail.tail.tail.tail (by kernel_rfl) (by kernel_rfl) Tryz.underlying61 C5 Tryz.underlying283 Tryz.underlying285 rfl rfl Tryz.underlying9 (by kernel_rfl) (by kernel_rfl)
 obtain ⟨a1,s1,hv1,-,-,-⟩:=laid_sentinel (ti:=61) (g:=0) h.tail.tail.tail.tail.tail (by kernel_rfl) (by kernel_rfl) Tryz.underlying61 C5 Tryz.underlying283 Tryz.underlying285 rfl rfl Tryz.underlying9 (by kernel_rfl) (by kernel_rfl)
 have key:∀ {nm:String} {cs:Array Value} {w:World},(∀ b,b < W.heap.size->w.heap[b]? = W.heap[b]?)->W.var? Tryz.prog nm=some cs->w.var? Tryz.prog nm=some cs:=by
  intro nm cs w hw hv;unfold World.var? at hv ⊢;cases hgn:Tryz.prog.globalNamed nm with
  | none=>rw [hgn] at hv; cases hv
  | some g =>
   rw [hgn] at hv;simp only [Option.bind_some] at hv ⊢;have hlt:g < W.heap.size:=by
    rcases Nat.lt_or_ge g W.heap.size with q | q
    ·exact q
    ·rw [Array.getElem?_eq_none q] at hv; cases hv
   rw [hw g hlt]; exact hv
 intro w hw;refine ⟨⟨_,_,key hw hv1⟩,⟨_,_,key hw hv0⟩,?_⟩;have h2:=key hw tab;unfold World.var? at h2;rw [hg] at h2;simp only [Option.bind_some] at h2;split at h2
 ·rename_i cs e fz hc;exact ⟨e,fz,by rw [hc]; cases h2; rfl⟩
 ·cases h2
end Vx
end Go.Proofs.YthgfdbfmnbgkaaaGreatDoor
namespace Go.Proofs.YthgfdbfmnbgkaaaGreatDoor
set_option maxHeartbeats 4000000
namespace Vx
open Go.RowKit
def kI:Con:=.fn 15 (Int × Int × Int) (fun a=>[.int .i64 a.1,.int .i64 a.2.1,.int .i64 a.2.2]) (fun _=>True) (fun a=>.bool (decide (a.2.1<=a.1) && decide (a.1<=a.2.2))) (fun _=>[])
theorem oL:Has Tryz.prog 63 kI:=by
 refine ah mixed aw HasL.nil [0,1,2,6] ((fun a n (_:Nat)=>(fun _=>az) a n)) [] Tryz.func63 (by unfold Tryz.f63; rfl) (fun _=>⟨(),trivial⟩) ?_
 intro a _;obtain ⟨n,lo,hi⟩:=a;simp -implicitDefEqProofs [kI,Con.fn,ag];omega
def iG:Con:=.fn 15 (Int × Int × Int) (fun a=>[.int .i64 a.1,.int .i64 a.2.1,.int .i64 a.2.2]) (fun _=>True) (fun a=>.bool (decide (a.2.1<=a.1) && decide (a.1<=a.2.2))) (fun _=>[])
theorem jR:Has Tryz.prog 95 iG:=by
 refine ah mixed aw HasL.nil [0,1,2,6] ((fun a n (_:Nat)=>(fun _=>az) a n)) [] Tryz.func95 (by unfold Tryz.f95; rfl) (fun _=>⟨(),trivial⟩) ?_
 intro a _;obtain ⟨n,lo,hi⟩:=a;simp -implicitDefEqProofs [iG,Con.fn,ag];omega
def kj (n:Int):Bool:=(decide (97<=n) && decide (n<=122)) || (decide (48<=n) && decide (n<=57))
def uV:Con:=.fn 17 Int (fun a=>[.int .u8 a]) (fun _=>True) (fun a=>.bool (kj a)) (fun _=>[])
theorem QH:Has Tryz.prog 118 uV:=by
 refine ah mixed aw HasL.nil [0,2] ((fun a n (_:Nat)=>(fun _=>az) a n)) [] Tryz.func118 (by unfold Tryz.f118; rfl) (fun _=>⟨(),trivial⟩) ?_
 intro a _;simp -implicitDefEqProofs [uV,Con.fn,ag,kj]
 repeat' (first | intro _ | apply And.intro)
 all_goals first | omega | grind
def aQ (s:Str):Bool:=decide (1<=s.length) && decide (s.length<=6) && s.all fun b=>kj b.toNat
def jJ:Con:=.fn 19 Str (fun s=>[.str s]) (fun _=>True) (fun s=>.bool (aQ s)) (fun _=>[])
theorem mo:Has Tryz.prog 61 jJ:=by
 refine ah mixed aw (HasL.cons oL (HasL.cons QH HasL.nil)) [0,2,3] ((fun a n (_:Nat)=>(fun s _=>⟨Nat,fun i=>⟨[(0,true,.str s),(2,true,.bool false),(3,true,.int .i64 i)],[]⟩,fun i=>i<=s.length/\1<=s.length/\s.length<=6/\(s.take i).all (fun b=>kj b.toNat)=true,fun i=>s.length - i⟩) a n)) [] Tryz.func61 (by unfold Tryz.f61; rfl) (fun _=>⟨(),trivial⟩) ?_
 intro (s:Str) _;simp -implicitDefEqProofs [jJ,Con.fn,ag,kI,uV]
 try dsimp only
 try simp +contextual [ar,aq,bR,bm,bS,List.getElem?_eq_getElem,bW,bp,bK,bU,<- br,<- bN,bn,bw,bV,bT,bu,bJ,and_assoc]
 repeat' (first | intro _ | apply And.intro)
 all_goals first | omega | grind [cn,aQ,List.take_succ_eq_append_getElem]
def jI:Con:=.fn 35 Str (fun s=>[.str s]) (fun _=>True) (fun s=>.bool (aQ s)) (fun _=>[])
theorem mf:Has Tryz.prog 96 jI:=by
 refine ah mixed aw (HasL.cons jR HasL.nil) [0,2,3] ((fun a n (_:Nat)=>(fun s _=>⟨Nat,fun i=>⟨[(0,true,.str s),(2,true,.bool false),(3,true,.int .i64 i)],[]⟩,fun i=>i<=s.length/\(s.take i).all (fun b=>kj b.toNat)=true,fun i=>s.length - i⟩) a n)) [] Tryz.func96 (by unfold Tryz.f96; rfl) (fun _=>⟨(),trivial⟩) ?_
 intro (s:Str) _;simp -implicitDefEqProofs [jI,Con.fn,ag,iG]
 try dsimp only
 try simp +contextual [ar,aq,bR,bm,bS,List.getElem?_eq_getElem,bW,bp,bK,bU,<- br,<- bN,bn,bw,bV,bT,bu,bJ,and_assoc]
 repeat' (first | intro _ | apply And.intro)
 all_goals first | omega | grind [cn,aQ,kj,List.take_succ_eq_append_getElem]
def fG (s:Str):Bool:=decide (s.length<=12) && s.all fun b=>decide (32<=b.toNat) && decide (b.toNat<=126)
def tY:Con:=.fn 23 Str (fun s=>[.str s]) (fun _=>True) (fun s=>.bool (fG s)) (fun _=>[])
theorem KL:Has Tryz.prog 180 tY:=by
 refine ah mixed aw HasL.nil [0,2,3] ((fun a n (_:Nat)=>(fun s _=>⟨Nat,fun i=>⟨[(0,true,.str s),(2,true,.bool false),(3,true,.int .i64 i)],[]⟩,fun i=>i<=s.length/\s.length<=12/\(s.take i).all (fun b=>decide (32<=b.toNat) && decide (b.toNat<=126))=true,fun i=>s.length - i⟩) a n)) [] Tryz.func180 (by unfold Tryz.f180; rfl) (fun _=>⟨(),trivial⟩) ?_
 intro (s:Str) _;simp -implicitDefEqProofs [tY,Con.fn,ag]
 try dsimp only
 try simp +contextual [ar,aq,bR,bm,bS,List.getElem?_eq_getElem,bW,bp,bK,bU,<- br,<- bN,bn,bw,bV,bT,bu,bJ,and_assoc]
 repeat' (first | intro _ | apply And.intro)
 all_goals first | omega | grind [cn,fG,List.take_succ_eq_append_getElem]
def tG:Con:=.fn 23 Str (fun s=>[.str s]) (fun _=>True) (fun s=>.bool (fG s)) (fun _=>[])
theorem JV:Has Tryz.prog 220 tG:=by
 refine ah mixed aw HasL.nil [0,2,3] ((fun a n (_:Nat)=>(fun s _=>⟨Nat,fun i=>⟨[(0,true,.str s),(2,true,.bool false),(3,true,.int .i64 i)],[]⟩,fun i=>i<=s.length/\(s.take i).all (fun b=>decide (32<=b.toNat) && decide (b.toNat<=126))=true,fun i=>s.length - i⟩) a n)) [] Tryz.func220 (by unfold Tryz.f220; rfl) (fun _=>⟨(),trivial⟩) ?_
 intro (s:Str) _;simp -implicitDefEqProofs [tG,Con.fn,ag]
 try dsimp only
 try simp +contextual [ar,aq,bR,bm,bS,List.getElem?_eq_getElem,bW,bp,bK,bU,<- br,<- bN,bn,bw,bV,bT,bu,bJ,and_assoc]
 repeat' (first | intro _ | apply And.intro)
 all_goals first | omega | grind [cn,fG,List.take_succ_eq_append_getElem]
def bg (t:List Str):Bool:=decide (t.length<=10) && t.all fG
def lT:Con:=.fn 18 (List Str) (fun t=>[.sl true 1 (aa t)]) (fun _=>True) (fun t=>.bool (bg t)) (fun _=>[])
theorem rP:Has Tryz.prog 119 lT:=by
 refine ah mixed aw (HasL.cons KL HasL.nil) [0,2,4,8,9,10] ((fun a n (_:Nat)=>(fun t _=>⟨Nat,fun i=>⟨[(2,true,.bool false),(8,true,.sl true 1 (aa t)),(9,true,.int .i64 t.length),(10,true,.int .i64 i)],[]⟩,fun i=>i<=t.length/\t.length<=10/\(t.take i).all fG=true,fun i=>t.length - i⟩) a n)) [] Tryz.func119 (by unfold Tryz.f119; rfl) (fun _=>⟨(),trivial⟩) ?_
 intro (t:List Str) _;simp -implicitDefEqProofs [lT,Con.fn,ag,tY]
 try dsimp only
 try simp +contextual [ar,aq,bR,bm,bS,List.getElem?_eq_getElem,bW,bp,bK,bU,<- br,<- bN,bn,bw,bV,bT,bu,bJ,and_assoc]
 repeat' (first | intro _ | apply And.intro)
 all_goals first | omega | grind [cn,bg,List.take_succ_eq_append_getElem]
def nd:Con:=.fn 19 (List Str) (fun t=>[.sl true 1 (aa t)]) (fun _=>True) (fun t=>.bool (bg t)) (fun _=>[])
theorem wl:Has Tryz.prog 171 nd:=by
 refine ah mixed aw (HasL.cons JV HasL.nil) [0,2,3] ((fun a n (_:Nat)=>(fun t _=>⟨Nat,fun i=>⟨[(0,true,.sl true 1 (aa t)),(2,true,.bool false),(3,true,.int .i64 i)],[]⟩,fun i=>i<=t.length/\(t.take i).all fG=true,fun i=>t.length - i⟩) a n)) [] Tryz.func171 (by unfold Tryz.f171; rfl) (fun _=>⟨(),trivial⟩) ?_
 intro (t:List Str) _;simp -implicitDefEqProofs [nd,Con.fn,ag,tG]
 try dsimp only
 try simp +contextual [ar,aq,bR,bm,bS,List.getElem?_eq_getElem,bW,bp,bK,bU,<- br,<- bN,bn,bw,bV,bT,bu,bJ,and_assoc]
 repeat' (first | intro _ | apply And.intro)
 all_goals first | omega | grind [cn,bg,List.take_succ_eq_append_getElem]
def sV:Con:=.fn 26 (List Str × List Str) (fun a=>[.sl true 1 (aa a.1),.sl true 1 (aa a.2)]) (fun _=>True) (fun a=>.bool (decide (a.1=a.2))) (fun _=>[])
theorem G2:Has Tryz.prog 12 sV:=by
 refine ah mixed aw HasL.nil [0,1,2,3,4,5] ((fun a n (_:Nat)=>(fun a _=>⟨Nat,fun i=>⟨[(0,true,.sl true 1 (aa a.1)),(1,true,.sl true 1 (aa a.2)),(4,true,.bool false),(5,true,.int .i64 i)],[]⟩,fun i=>i<=a.1.length/\a.1.length=a.2.length/\a.1.take i=a.2.take i,fun i=>a.1.length - i⟩) a n)) [] Tryz.func12 (by unfold Tryz.f12; rfl) (fun _=>⟨(),trivial⟩) ?_
 intro a _;obtain ⟨l,r⟩:=a;simp -implicitDefEqProofs [sV,Con.fn,ag]
 try dsimp only
 try simp +contextual [ar,aq,bR,bm,bS,List.getElem?_eq_getElem,bW,bp,bK,bU,<- br,<- bN,bn,bw,bV,bT,bu,bJ,and_assoc]
 repeat' (first | intro _ | apply And.intro)
 all_goals first | omega | grind [cn,nD,lY]
def szL:List Str->Int->Int
 | [],l=>l
 | s :: r,l=>if l - s.length < 0 then -1 else szL r (l - s.length)
def lp (a:List Str) (l:Int):Int:=if l - a.length < 0 then -1 else szL a (l - a.length)
def uJ:Con:=.fn 28 (List Str × Int) (fun a=>[.sl true 1 (aa a.1),.int .i64 a.2]) (fun a=>0<=a.2/\a.2<=1048576) (fun a=>.int .i64 (lp a.1 a.2)) (fun _=>[])
theorem Po {a:List Str} {i:Nat} {l:Int} (h:i < a.length):szL (a.drop i) l=if l - a[i].length < 0 then -1 else szL (a.drop (i+1)) (l - a[i].length):=by rw [List.drop_eq_getElem_cons h]; rfl
theorem Pl {a:List Str} {i:Nat} {l:Int} (h:a.length<=i):szL (a.drop i) l=l:=by rw [List.drop_eq_nil_of_le h]; rfl
theorem Pp:Has Tryz.prog 8 uJ:=by
 refine ah mixed aw HasL.nil [0,1,4,5] ((fun a n (_:Nat)=>(fun a _=>⟨Nat × Int,fun t=>⟨[(0,true,.sl true 1 (aa a.1)),(1,true,.int .i64 t.2),(4,true,.int .i64 0),(5,true,.int .i64 t.1)],[]⟩,fun t=>t.1<=a.1.length/\0<=t.2/\t.2<=1048576/\szL (a.1.drop t.1) t.2=lp a.1 a.2,fun t=>a.1.length - t.1⟩) a n)) [] Tryz.func8 (by unfold Tryz.f8; rfl) (fun _=>⟨(),trivial⟩) ?_
 intro a ha;obtain ⟨l,n⟩:=a;obtain ⟨h1,h2⟩:0<=n/\n<=1048576:=ha;simp -implicitDefEqProofs [uJ,Con.fn,ag]
 try dsimp only
 try simp +contextual [ar,aq,bR,bm,bS,List.getElem?_eq_getElem,bW,bp,bK,bU,<- br,<- bN,bn,bw,bV,bT,bu,bJ,and_assoc]
 repeat' (first | intro _ | apply And.intro)
 all_goals first | omega | grind [cn,lp,Po,Pl]
abbrev dN (h:Nat) (a:List Str):List (Nat × Blk):=[(h,.own 9 1 true (aa a))]
abbrev eO (h:Nat) (a:List FileD):List (Nat × Blk):=[(h,.own 119 2 true (ac a))]
def uL:Con:=.fn 22 (List Str) (fun a=>[.sl true 1 (aa a)]) (fun a=>a.length<=1048576) (fun a=>.own 8 1 (aa a)) (fun a=>dN 8 a)
theorem PB:Has Tryz.prog 10 uL:=by
 refine ah mixed aw HasL.nil [0,2,3,4] ((fun a n (_:Nat)=>(fun a _=>⟨Nat × List Str,fun t=>⟨[(0,true,.sl true 1 (aa a)),(2,true,.nil),(3,true,.own 9 1 (aa t.2)),(4,true,.int .i64 t.1)],dN 9 t.2⟩,fun t=>t.1<=a.length/\t.2.length=a.length/\t.2.take t.1=a.take t.1,fun t=>a.length - t.1⟩) a n)) [] Tryz.func10 (by unfold Tryz.f10; rfl) (fun _=>⟨(),trivial⟩) ?_
 intro (a:List Str) ha;replace ha:a.length<=1048576:=ha;simp -implicitDefEqProofs [uL,Con.fn,ag]
 try dsimp only
 try simp +contextual [ar,aq,bR,bm,bS,List.getElem?_eq_getElem,bW,bp,bK,bU,<- br,<- bN,bn,bw,bV,bT,bu,bJ,and_assoc]
 repeat' (first | intro _ | apply And.intro)
 all_goals first | omega | grind [cn,OH,lY]

theorem Pm:∀ {a:List Str} {l:Int},0<=l->szL a l<=l:=by
 intro a
 induction a with
 | nil=>intro l _; exact Int.le_refl l
 | cons s r ih =>
  intro l h;simp only [szL];split
  ·omega
  ·have:=ih (l:=l - s.length) (by omega); omega
def ix (p s:Str):Bool:=decide (p.length<=s.length) && decide (s.take p.length=p)
def uG:Con:=.fn 18 (Str × Str) (fun a=>[.str a.1,.str a.2]) (fun _=>True) (fun a=>.bool (ix a.2 a.1)) (fun _=>[])
theorem OO:Has Tryz.prog 219 uG:=by
 refine ah mixed aw HasL.nil [0,1,4] ((fun a n (_:Nat)=>(fun _=>az) a n)) [] Tryz.func219 (by unfold Tryz.f219; rfl) (fun _=>⟨(),trivial⟩) ?_
 intro a _;obtain ⟨s,p⟩:=a;simp -implicitDefEqProofs [uG,Con.fn,ag,ix]
 try dsimp only
 try simp +contextual [ar,aq,bR,bm,bS,List.getElem?_eq_getElem,bW,bp,bK,bU,<- br,<- bN,bn,bw,bV,bT,bu,bJ,and_assoc]
 repeat' (first | intro _ | apply And.intro)
 all_goals first | omega | grind [cn]
def pt:Con:=.fn 8 (Str × Str) (fun a=>[.str a.1,.str a.2]) (fun _=>True) (fun a=>.bool (ix a.2 a.1)) (fun _=>[])
theorem zY:Has Tryz.prog 170 pt:=by
 refine ah mixed aw (HasL.cons OO HasL.nil) [0,1,4] ((fun a n (_:Nat)=>(fun _=>az) a n)) [] Tryz.func170 (by unfold Tryz.f170; rfl) (fun _=>⟨(),trivial⟩) ?_
 intro a _;obtain ⟨s,p⟩:=a;simp -implicitDefEqProofs [pt,Con.fn,ag,uG]
 try dsimp only
 try simp +contextual [ar,aq,bR,bm,bS,List.getElem?_eq_getElem,bW,bp,bK,bU,<- br,<- bN,bn,bw,bV,bT,bu,bJ,and_assoc]
 repeat' (first | intro _ | apply And.intro)
 all_goals first | omega | grind [cn]
def inB (d p:Str):Bool:=decide (d.length < p.length) && decide (p.take d.length=d) && decide (p.getD d.length 0=47)
theorem xQ (a:UInt8):((a.toNat:Int)=47)=(a=47):=by
 apply propext;constructor
 ·intro h;have:a.toNat=47:=by omega
  exact UInt8.toNat_inj.1 (by simpa using this)
 ·rintro rfl; rfl
def lP:Con:=.fn 25 (Str × Str) (fun a=>[.str a.1,.str a.2]) (fun _=>True) (fun a=>.bool (inB a.1 a.2)) (fun _=>[])
theorem qN:Has Tryz.prog 172 lP:=by
 refine ah mixed aw HasL.nil [0,1,4] ((fun a n (_:Nat)=>(fun _=>az) a n)) [] Tryz.func172 (by unfold Tryz.f172; rfl) (fun _=>⟨(),trivial⟩) ?_
 intro a _;obtain ⟨d,p⟩:=a;simp -implicitDefEqProofs [lP,Con.fn,ag,inB,xQ]
 try dsimp only
 try simp +contextual [ar,aq,bR,bm,bS,List.getElem?_eq_getElem,bW,bp,bK,bU,<- br,<- bN,bn,bw,bV,bT,bu,bJ,and_assoc,xQ]
 repeat' (first | intro _ | apply And.intro)
 all_goals first | omega | grind [cn,xQ]
def aO (b:Int) (most:Nat):Str->Str->Nat->List Str
 | [],c,_=>[c]
 | x :: r,c,n=>if n < most then (if (x.toNat:Int)=b then c :: aO b most r [] (n+1) else aO b most r (c++[x]) n) else [c++x :: r]
theorem qe {b:Int} {most:Nat} {r c:Str} {n:Nat} (h:most<=n):aO b most r c n=[c++r]:=by
 cases r with
 | nil=>simp [aO]
 | cons x r=>simp [aO,Nat.not_lt.2 h]
def dH (s:Str) (fr i:Nat):Str:=(s.drop fr).take (i - fr)
theorem MQ {s:Str} {fr i:Nat} (h:fr<=i):dH s fr i++s.drop i=s.drop fr:=by
 unfold dH;have:s.drop i=(s.drop fr).drop (i - fr):=by rw [List.drop_drop]; congr 1; omega
 rw [this,List.take_append_drop]
theorem MT {s:Str} {fr i:Nat} (h:s.length<=i) (hf:fr<=i):dH s fr i=s.drop fr:=by
 unfold dH;exact List.take_of_length_le (by rw [List.length_drop]; omega)
theorem MV {s:Str} {fr:Nat}:dH s fr fr=[]:=by simp [dH]
theorem MU {s:Str} {fr i:Nat} (h:i < s.length) (hf:fr<=i):dH s fr (i+1)=dH s fr i++[s[i]]:=by
 unfold dH;rw [show i+1 - fr=(i - fr)+1 by omega,List.take_succ_eq_append_getElem (by rw [List.length_drop]; omega)]
 congr 2
 rw [List.getElem_drop]
 congr 1
 omega
theorem GP {b:Int} {most:Nat} {s:Str} {fr i n:Nat} (h:i < s.length) (hf:fr<=i) (hn:n < most) :
  aO b most (s.drop i) (dH s fr i) n=if (s[i].toNat:Int)=b then dH s fr i :: aO b most (s.drop (i+1)) (dH s (i+1) (i+1)) (n+1) else aO b most (s.drop (i+1)) (dH s fr (i+1)) n:=by
 rw [List.drop_eq_getElem_cons h,MV,MU h hf];simp [aO,hn]
theorem GN {b:Int} {most:Nat} {s:Str} {fr i n:Nat} (h:s.length<=i) (hf:fr<=i):aO b most (s.drop i) (dH s fr i) n=[s.drop fr]:=by rw [List.drop_eq_nil_of_le h,<- MT h hf]; rfl
theorem GO {b:Int} {most:Nat} {s:Str} {fr i n:Nat} (h:most<=n) (hf:fr<=i):aO b most (s.drop i) (dH s fr i) n=[s.drop fr]:=by rw [qe h,MQ hf]
def aA (s:Str) (b:Int) (most:Nat):List Str:=aO b most s [] 0
theorem MR (s:Str) (fr i:Nat):(s.drop fr).take (i - fr)=dH s fr i:=rfl
theorem MS (s:Str) (fr:Nat):dH s fr s.length=s.drop fr:=by
 unfold dH;exact List.take_of_length_le (by rw [List.length_drop]; omega)
def m9:Con:=.fn 43 (Str × Int × Nat) (fun a=>[.str a.1,.int .u8 a.2.1,.int .i64 a.2.2]) (fun a=>a.2.2<=1000000) (fun a=>.own 8 1 (aa (aA a.1 a.2.1 a.2.2))) (fun a=>dN 8 (aA a.1 a.2.1 a.2.2))
theorem wi:Has Tryz.prog 68 m9:=by
 refine ah mixed aw HasL.nil [0,1,2,6,7,8,9] ((fun a n (_:Nat)=>(fun a _=>⟨List Str × Nat × Nat,fun t=>⟨[(0,true,.str a.1),(1,true,.int .u8 a.2.1),(2,true,.int .i64 a.2.2),(6,true,.nil),(7,true,.own 9 1 (aa t.1)),(8,true,.int .i64 t.2.1),(9,true,.int .i64 t.2.2)],dN 9 t.1⟩,fun t=>t.2.1<=t.2.2/\t.2.2<=a.1.length/\t.1.length<=a.2.2/\t.1++aO a.2.1 a.2.2 (a.1.drop t.2.2) (dH a.1 t.2.1 t.2.2) t.1.length=aA a.1 a.2.1 a.2.2,fun t=>a.1.length - t.2.2⟩) a n)) [] Tryz.func68 (by unfold Tryz.f68; rfl) (fun _=>⟨(),trivial⟩) ?_
 intro a ha;obtain ⟨s,b,most⟩:=a;replace ha:most<=1000000:=ha;have hs:aO b most s (dH s 0 0) 0=aA s b most:=rfl;simp -implicitDefEqProofs [m9,Con.fn,ag]
 try dsimp only
 try simp +contextual [ar,aq,bR,bm,bS,List.getElem?_eq_getElem,bW,bp,bK,bU,<- br,<- bN,bn,bw,bV,bT,bu,bJ,and_assoc,MR,MS]
 repeat' (first | intro _ | apply And.intro)
 all_goals first | omega | grind [cn,GP,GN,GO]
theorem Gf (a:Nat):((a:Int)=3)=(a=3):=by apply propext; omega
def dg (s:Str):Bool:=(aA s 47 3).all aQ && decide ((aA s 47 3).length<=3)
def ng:Con:=.fn 22 Str (fun s=>[.str s]) (fun _=>True) (fun s=>.bool (dg s)) (fun _=>[])
theorem wx:Has Tryz.prog 98 ng:=by
 refine ah mixed aw (HasL.cons wi (HasL.cons mf HasL.nil)) [0,2,3,4] ((fun a n (_:Nat)=>(fun s _=>⟨Nat,fun i=>⟨[(2,true,.bool false),(3,true,.own 9 1 (aa (aA s 47 3))),(4,true,.int .i64 i)],dN 9 (aA s 47 3)⟩,fun i=>i<=(aA s 47 3).length/\((aA s 47 3).take i).all aQ=true,fun i=>(aA s 47 3).length - i⟩) a n)) [] Tryz.func98 (by unfold Tryz.f98; rfl) (fun _=>⟨(),trivial⟩) ?_
 intro (s:Str) _;simp -implicitDefEqProofs [ng,Con.fn,ag,m9,jI]
 try dsimp only
 try simp +contextual [ar,aq,bR,bm,bS,List.getElem?_eq_getElem,bW,bp,bK,bU,<- br,<- bN,bn,bw,bV,bT,bu,bJ,and_assoc,Gf]
 repeat' (first | intro _ | apply And.intro)
 all_goals first | omega | grind [cn,dg,List.take_succ_eq_append_getElem]
def mh (a b:Str):Bool:=Go.Op.bytesLess a b || decide (a=b)
def gC (t:List FileD) (i:Nat):Bool:=dg (t.getD i default).path && bg (t.getD i default).text && (decide (i=0) || !mh (t.getD i default).path (t.getD (i - 1) default).path)
def ip (t:List FileD) (i:Nat):Bool:=t.all fun g=>!inB (t.getD i default).path g.path
def aR (t:List FileD):Bool:=(List.range t.length).all (fun i=>gC t i && ip t i) && decide (t.length<=8)
def kC:Con:=.fn 65 (List FileD) (fun t=>[.sl true 2 (ac t)]) (fun _=>True) (fun t=>.bool (aR t)) (fun _=>[])
def ww (t:List FileD):Inv:=⟨Nat,fun i=>⟨[(0,true,.sl true 2 (ac t)),(2,true,.bool false),(3,true,.int .i64 i)],[]⟩,fun i=>i<=t.length /\ ∀ j,j < i->gC t j=true/\ip t j=true,fun i=>t.length - i⟩
def wu (t:List FileD) (g:Nat):Inv:=⟨Nat,fun k=>⟨[(0,true,.sl true 2 (ac t)),(2,true,.bool false),(3,true,.int .i64 g),(4,true,.int .i64 k)],[]⟩,fun x=>g < t.length/\x<=t.length/\(∀ j,j < g->gC t j=true/\ip t j=true)/\gC t g=true /\ ∀ k,k < x->inB (t.getD g default).path (t.getD k default).path=false,fun x=>t.length - x⟩
def wv (t:List FileD) (n g:Nat):Inv:=if n=2 then ww t else wu t g
theorem Kd (t:List FileD) (g:Nat):wv t 2 g=ww t:=rfl
theorem Kf (t:List FileD) (g:Nat):wv t 7 g=wu t g:=rfl
set_option maxRecDepth 8000
theorem nP:Has Tryz.prog 97 kC:=by
 refine ah mixed aw (HasL.cons wx (HasL.cons wl (HasL.cons qN (HasL.cons jR HasL.nil)))) [0,2,3,4] (fun t=>wv t) [] Tryz.func97 (by unfold Tryz.f97; rfl) (fun _=>⟨(),trivial⟩) ?_
 intro (t:List FileD) _;have hs:∀ i,t.length<=i -> ¬ i < t.length:=by omega
 have hE:aR t=true ↔ (∀ i,i < t.length->gC t i=true/\ip t i=true)/\t.length<=8:=by simp [aR]
 have hF:∀ i,i < t.length->(gC t i && ip t i)=false->aR t=false:=by
  intro i hi h;rcases hb:aR t with _ | _
  ·rfl
  ·exact absurd ((hE.1 hb).1 i hi) (by simpa using h)
 have hH:∀ i,i < t.length->gC t i=false->aR t=false:=fun i hi h=>hF i hi (by simp [h])
 have hN:∀ i k,i < t.length->k < t.length->inB (t.getD i default).path (t.getD k default).path=true->aR t=false:=by
  intro i k hi hk h;refine hF i hi ?_;have:ip t i=false:=by
   simp only [ip,List.all_eq_false];exact ⟨t[k],List.getElem_mem hk,by simp [List.getD_eq_getElem?_getD,hk] at h ⊢; simpa [hk] using h⟩
  simp [this]
 have hI:∀ i,(∀ k,k < t.length->inB (t.getD i default).path (t.getD k default).path=false)->ip t i=true:=by
  intro i h;simp only [ip,List.all_eq_true];intro g hg;obtain ⟨k,hk,rfl⟩:=List.getElem_of_mem hg;have:=h k hk
  simpa [List.getD_eq_getElem?_getD,hk] using this
 simp -implicitDefEqProofs [kC,Con.fn,ag,ng,nd,lP,iG,Kd,Kf,ww,wu]
 try dsimp only
 intro i hi hj hl;have e1:∀ k (h:k < t.length),Option.map aq t[k]? = some (aq t[k]):=by
  intro k h;simp [List.getElem?_eq_getElem h]
 have e2:i < t.length->i - 1 < t.length:=by omega
 constructor
 ·intro hlt;have e3:=e1 i hlt;have e4:=e1 (i - 1) (e2 hlt);simp [hlt,e2 hlt,e3,e4,aq,ar,D.asStr,D.asRows]
  try simp +contextual [ar,aq,bR,bm,bS,List.getElem?_eq_getElem,bW,bp,bK,bU,<- br,<- bN,bn,bw,bV,bT,bu,bJ,and_assoc]
  repeat' (first | intro _ | apply And.intro)
  all_goals first | omega | grind [cn,gC,mh]
 ·have hX:t.length<=i->aR t=decide (t.length<=8):=by
   intro h;have:aR t=true ↔ t.length<=8:=by
    rw [hE];exact ⟨fun h=>h.2,fun h8=>⟨fun j hj'=>hj j (by omega),h8⟩⟩
   cases h':aR t <;> simp_all
  try simp +contextual [ar,aq,bR,bm,bS,List.getElem?_eq_getElem,bW,bp,bK,bU,<- br,<- bN,bn,bw,bV,bT,bu,bJ,and_assoc]
  repeat' (first | intro _ | apply And.intro)
  all_goals first | omega | grind [cn,gC,mh]
theorem iA (t:List FileD) (h:aR t=true):t.length<=8 /\ ∀ f ∈ t,f.text.length<=64:=by
 simp only [aR,Bool.and_eq_true,decide_eq_true_eq,List.all_eq_true,List.mem_range,gC] at h;refine ⟨h.2,fun f hf=>?_⟩;obtain ⟨i,hi,rfl⟩:=List.getElem_of_mem hf;have:=(h.1 i hi).1.1.2;simp [List.getD_eq_getElem?_getD,hi,bg] at this;omega
def spl (c:UInt8):Str->Str->List Str
 | [],p=>[p]
 | x :: r,p=>if x=c then p :: spl c r [] else spl c r (p++[x])
theorem Ag (s:Str) (c:UInt8):aH s c < s.length:=by
 induction s with
 | nil=>simp [aH]
 | cons b l ih =>
  simp only [aH,List.length_cons];split
  ·omega
  ·split <;> omega
theorem OY {c:UInt8}:∀ {s p:Str},aH s c < 0->spl c s p=[p++s]/\s.count c=0:=by
 intro s
 induction s with
 | nil=>intro p _; simp [spl]
 | cons b l ih =>
  intro p h;simp only [aH] at h;split at h
  ·omega
  ·rename_i hb;split at h
   ·rename_i hl;have:=ih (p:=p++[b]) hl;simp only [spl,if_neg hb];refine ⟨by rw [this.1]; simp,?_⟩
    rw [List.count_cons,this.2];simp [hb]
   ·omega
theorem Dw {c:UInt8}:∀ {s p:Str},0<=aH s c->spl c s p=(p++s.take (aH s c).toNat) :: spl c (s.drop ((aH s c).toNat+1)) []/\s.count c=(s.drop ((aH s c).toNat+1)).count c+1:=by
 intro s
 induction s with
 | nil=>intro p h; simp [aH] at h
 | cons b l ih =>
  intro p h;by_cases hb:b=c
  ·subst hb;simp [aH,spl]
  ·simp only [aH,if_neg hb] at h ⊢;split at h
   ·omega
   ·rename_i hl;rw [if_neg hl];obtain ⟨h1,h2⟩:=ih (p:=p++[b]) (by omega)
    have e:(aH l c+1).toNat=(aH l c).toNat+1:=by omega
    rw [e];simp only [spl,if_neg hb,List.take_succ_cons,List.drop_succ_cons];refine ⟨by rw [h1]; simp,?_⟩
    rw [List.count_cons,h2];simp [hb]
theorem rI (c:UInt8):∀ (s p:Str),(spl c s p).length=s.count c+1:=by
 intro s
 induction s with
 | nil=>intro p; simp [spl]
 | cons b l ih =>
  intro p;simp only [spl];split
  ·rename_i h;subst h;simp [ih]
  ·rename_i h;rw [ih,List.count_cons];simp [h]
theorem OG {α:Type} (d:List α) (k:Nat) (z x:α) (h:0 < k):(d++List.replicate k z).set d.length x=(d++[x])++List.replicate (k - 1) z:=by
 obtain ⟨k,rfl⟩:∃ j,k=j+1:=⟨k - 1,by omega⟩
 rw [List.set_append_right _ _ (Nat.le_refl _)];simp [List.replicate_succ]
def sZ:Con:=.fn 66 (Str × UInt8) (fun a=>[.str a.1,.str [a.2],.int .i64 0,.int .i64 (-1)]) (fun a=>a.1.length<=1073741824) (fun a=>.sl false 1 (aa (spl a.2 a.1 []))) (fun _=>[])
def cM (N:Nat) (d:List Str):List Str:=d++List.replicate (N - d.length) []
theorem vM (N:Nat) (d:List Str) (h:d.length<=N):(cM N d).length=N:=by simp [cM]; omega
theorem l7 (N:Nat) (d:List Str) (x:Str) (h:d.length < N):(cM N d).set d.length x=cM N (d++[x]):=by
 unfold cM;rw [OG _ _ _ _ (by omega)]
 simp only [List.length_append,List.length_cons,List.length_nil]
 congr 2
theorem nK (N:Nat):cM N []=List.replicate N []:=by simp [cM]
set_option maxRecDepth 8000
theorem Hw:Has Tryz.prog 149 sZ:=by
 refine ah mixed aw (HasL.cons Pc (HasL.cons xF HasL.nil)) [0,1,2,3,8,9,10,11] ((fun a n (_:Nat)=>(fun a _=>⟨List Str × Str,fun t=>⟨[(0,true,.str t.2),(1,true,.str [a.2]),(2,true,.int .i64 0),(3,true,.int .i64 (a.1.count a.2)),(8,true,.nil),(9,true,.own 9 1 (aa (cM (a.1.count a.2+1) t.1))),(10,true,.int .i64 t.1.length)],dN 9 (cM (a.1.count a.2+1) t.1)⟩,fun t=>t.1.length+t.2.count a.2=a.1.count a.2/\t.2.length<=a.1.length/\t.1++spl a.2 t.2 []=spl a.2 a.1 [],fun t=>a.1.count a.2 - t.1.length⟩) a n)) [] Tryz.func149 (by unfold Tryz.f149; rfl) (fun _=>⟨(),trivial⟩) ?_
 intro a ha;obtain ⟨s,c⟩:=a;replace ha:s.length<=1073741824:=ha;have hc:s.count c<=s.length:=List.count_le_length;simp -implicitDefEqProofs [sZ,y9,pV,Con.fn,ag]
 try dsimp only
 have hif:¬ s.length < s.count c:=by omega
 have hr:(List.replicate ((s.count c:Int)+1).toNat [D.str []])=aa (cM (s.count c+1) []):=by rw [show ((s.count c:Int)+1).toNat=s.count c+1 by omega,nK,bK]
 have K1:∀ (a:List Str) (b:Str),a.length+b.count c=s.count c->a.length < (cM (s.count c+1) a).length:=fun a b h=>by rw [vM _ _ (by omega)]; omega
 have K2:∀ (a:List Str) (b:Str),a.length+b.count c=s.count c->a++spl c b []=spl c s []->(aH b c < 0 \/ s.count c<=a.length)->spl c s []=((cM (s.count c+1) a).set a.length b).take (a.length+1):=by
  intro a b h1 h2 h3;have h4:aH b c < 0:=by
   rcases h3 with h | h
   ·exact h
   ·refine Classical.byContradiction fun hn=>?_;have:=(Dw (p:=[]) (Int.not_lt.1 hn)).2;omega
  have h5:=OY (p:=[]) h4;rw [<- h2,h5.1,l7 _ _ _ (by omega)]
  unfold cM;rw [List.take_left' (by simp)]
  rfl
 have K3:∀ (b:Str),aH b c < b.length:=fun b=>Ag b c;have K4:∀ (a:List Str) (b:Str),a.length+b.count c=s.count c->b.length<=s.length->a++spl c b []=spl c s []->0<=aH b c ->
   ∃ x,cM (s.count c+1) x=(cM (s.count c+1) a).set a.length (b.take (aH b c).toNat)/\x.length=a.length+1/\(cM (s.count c+1) a).set a.length (b.take (aH b c).toNat)=cM (s.count c+1) x /\
    x.length+((b.drop (aH b c+1).toNat).take (b.length - (aH b c+1).toNat)).count c=s.count c/\b.length<=s.length+(aH b c+1).toNat /\
    x++spl c ((b.drop (aH b c+1).toNat).take (b.length - (aH b c+1).toNat)) []=spl c s []/\s.count c - x.length < s.count c - a.length:=by
  intro a b h1 h2 h3 h4;obtain ⟨h5,h6⟩:=Dw (p:=[]) h4;have e1:(aH b c+1).toNat=(aH b c).toNat+1:=by omega
  have e2:(b.drop (aH b c+1).toNat).take (b.length - (aH b c+1).toNat)=b.drop ((aH b c).toNat+1):=by rw [e1]; exact List.take_of_length_le (by simp)
  rw [e2];refine ⟨a++[b.take (aH b c).toNat],(l7 _ _ _ (by omega)).symm,by simp,l7 _ _ _ (by omega),by simp; omega,by omega,?_,by simp; omega⟩
  rw [<- h3,h5];simp
 simp +contextual [ar,aq,bR,bm,bS,List.getElem?_eq_getElem,bW,bp,bK,bU,<- br,<- bN,bn,bw,bV,bT,bu,bJ,and_assoc,hif,hr]
 repeat' (first | intro _ | apply And.intro)
 all_goals first | omega | grind [nK] | exact K4 _ _ (by omega) (by omega) (by assumption) (by omega)
def nq:Con:=.fn 8 (Str × UInt8) (fun a=>[.str a.1,.str [a.2]]) (fun a=>a.1.length<=1073741824) (fun a=>.sl false 1 (aa (spl a.2 a.1 []))) (fun _=>[])
theorem xB:Has Tryz.prog 75 nq:=by
 refine ah mixed aw (HasL.cons Hw HasL.nil) [0,1,4] ((fun a n (_:Nat)=>(fun _=>az) a n)) [] Tryz.func75 (by unfold Tryz.f75; rfl) (fun _=>⟨(),trivial⟩) ?_
 intro a ha;obtain ⟨s,c⟩:=a;replace ha:s.length<=1073741824:=ha;simp -implicitDefEqProofs [nq,Con.fn,ag,sZ]
 try dsimp only
 try simp +contextual [ar,aq,bR,bm,bS,List.getElem?_eq_getElem,bW,bp,bK,bU,<- br,<- bN,bn,bw,bV,bT,bu,bJ,and_assoc]
 repeat' (first | intro _ | apply And.intro)
 all_goals first | omega | grind [cn]
def dZ (s:Str):Bool:=decide ((spl 47 s []).length<=3) && (spl 47 s []).all aQ
def lQ:Con:=.fn 21 Str (fun s=>[.str s]) (fun s=>s.length<=1073741824) (fun s=>.bool (dZ s)) (fun _=>[])
theorem rl:Has Tryz.prog 84 lQ:=by
 refine ah mixed aw (HasL.cons xB (HasL.cons mo HasL.nil)) [0,2,3,5,11,12,13] ((fun a n (_:Nat)=>(fun s _=>⟨Nat,fun i=>⟨[(2,true,.bool false),(11,true,.sl false 1 (aa (spl 47 s []))),(12,true,.int .i64 (spl 47 s []).length),(13,true,.int .i64 i)],[]⟩,fun i=>i<=(spl 47 s []).length/\(spl 47 s []).length<=3/\((spl 47 s []).take i).all aQ=true,fun i=>(spl 47 s []).length - i⟩) a n)) [] Tryz.func84 (by unfold Tryz.f84; rfl) (fun _=>⟨(),trivial⟩) ?_
 intro (s:Str) hs;replace hs:s.length<=1073741824:=hs;simp -implicitDefEqProofs [lQ,Con.fn,ag,nq,jJ]
 try dsimp only
 try simp +contextual [ar,aq,bR,bm,bS,List.getElem?_eq_getElem,bW,bp,bK,bU,<- br,<- bN,bn,bw,bV,bT,bu,bJ,and_assoc]
 repeat' (first | intro _ | apply And.intro)
 all_goals first | omega | grind [cn,dZ,List.take_succ_eq_append_getElem]
set_option maxRecDepth 8000
def j3 (d p:Str):Bool:=dZ d && dZ p && ix (d++[47]) p
def uq:Con:=.fn 17 (Str × Str) (fun a=>[.str a.1,.str a.2]) (fun a=>a.1.length<=536870912/\a.2.length<=536870912) (fun a=>.bool (j3 a.1 a.2)) (fun _=>[])
theorem MJ:Has Tryz.prog 92 uq:=by
 refine ah mixed aw (HasL.cons rl (HasL.cons zY HasL.nil)) [0,1,4] ((fun a n (_:Nat)=>(fun _=>az) a n)) [] Tryz.func92 (by unfold Tryz.f92; rfl) (fun _=>⟨(),trivial⟩) ?_
 intro a ha;obtain ⟨d,p⟩:=a;obtain ⟨h1,h2⟩:d.length<=536870912/\p.length<=536870912:=ha;simp -implicitDefEqProofs [uq,Con.fn,ag,lQ,pt]
 try dsimp only
 try simp +contextual [ar,aq,bR,bm,bS,List.getElem?_eq_getElem,bW,bp,bK,bU,<- br,<- bN,bn,bw,bV,bT,bu,bJ,and_assoc]
 repeat' (first | intro _ | apply And.intro)
 all_goals first | omega | grind [cn,j3,maxLen]
def dX (t:List FileD) (i:Nat):Bool:=bg (t.getD i default).text && dZ (t.getD i default).path && (decide (i=0) || Go.Op.bytesLess (t.getD (i - 1) default).path (t.getD i default).path)
def iq (t:List FileD) (i:Nat):Bool:=(List.range i).all fun k=>!j3 (t.getD k default).path (t.getD i default).path
def aC (t:List FileD):Bool:=decide (t.length<=8) && (List.range t.length).all fun i=>dX t i && iq t i
def jb:Con:=.fn 57 (List FileD) (fun t=>[.sl true 2 (ac t)]) (fun t=>∀ f ∈ t,f.path.length<=536870912) (fun t=>.bool (aC t)) (fun _=>[])
def tiO (t:List FileD):Inv:=⟨Nat,fun i=>⟨[(0,true,.sl true 2 (ac t)),(2,true,.bool false),(10,true,.sl true 2 (ac t)),(11,true,.int .i64 t.length),(12,true,.int .i64 i)],[]⟩,fun i=>i<=t.length/\t.length<=8 /\ ∀ j,j < i->dX t j=true/\iq t j=true,fun i=>t.length - i⟩
def tiI (t:List FileD) (g:Nat):Inv:=⟨Nat,fun k=>⟨[(0,true,.sl true 2 (ac t)),(2,true,.bool false),(3,true,.int .i64 g),(4,true,.ptr 10 0),(10,true,.sl true 2 (ac t)),(11,true,.int .i64 t.length),(12,true,.int .i64 g),(44,true,.sl true 2 (ac (t.take g))),(45,true,.int .i64 g),(46,true,.int .i64 k)],
  [(10,.box 119 [.str (t.getD g default).path,.sl true 1 (aa (t.getD g default).text)])]⟩,fun x=>g < t.length/\x<=g/\t.length<=8/\(∀ j,j < g->dX t j=true/\iq t j=true)/\dX t g=true /\ ∀ k,k < x->j3 (t.getD k default).path (t.getD g default).path=false,fun x=>g - x⟩
def xK (t:List FileD) (n g:Nat):Inv:=if n=4 then tiO t else tiI t g
theorem Py (t:List FileD) (g:Nat):xK t 4 g=tiO t:=rfl
theorem Pz (t:List FileD) (g:Nat):xK t 9 g=tiI t g:=rfl
theorem lr:Has Tryz.prog 62 jb:=by
 refine ah mixed aw (HasL.cons rP (HasL.cons rl (HasL.cons MJ HasL.nil))) [0,2,3,4,6,10,11,12,44,45,46] (fun t=>xK t) [] Tryz.func62 (by unfold Tryz.f62; rfl) (fun _=>⟨(),trivial⟩) ?_
 intro (t:List FileD) ht;replace ht:∀ f ∈ t,f.path.length<=536870912:=ht;have hp:∀ i (h:i < t.length),(t[i]).path.length<=536870912:=fun i h=>ht _ (List.getElem_mem h);simp -implicitDefEqProofs [jb,Con.fn,ag,lT,lQ,uq,Py,Pz,tiO,tiI]
 try dsimp only
 have hE:aC t=true ↔ t.length<=8 /\ ∀ i,i < t.length->dX t i=true/\iq t i=true:=by simp [aC]
 have hF:∀ i,i < t.length->(dX t i && iq t i)=false->aC t=false:=by
  intro i hi h;rcases hb:aC t with _ | _
  ·rfl
  ·exact absurd ((hE.1 hb).2 i hi) (by simpa using h)
 have hH:∀ i,i < t.length->dX t i=false->aC t=false:=fun i hi h=>hF i hi (by simp [h])
 have hN:∀ i k,i < t.length->k < i->j3 (t.getD k default).path (t.getD i default).path=true->aC t=false:=by
  intro i k hi hk h;refine hF i hi ?_;have:iq t i=false:=by
   simp only [iq,List.all_eq_false];exact ⟨k,List.mem_range.2 hk,by simpa using h⟩
  simp [this]
 have hI:∀ i,(∀ k,k < i->j3 (t.getD k default).path (t.getD i default).path=false)->iq t i=true:=by
  intro i h;simp only [iq,List.all_eq_true,List.mem_range];intro k hk;simp only [h k hk,Bool.not_false]
 have hB:8 < t.length->aC t=false:=by
  intro h;rcases hb:aC t with _ | _
  ·rfl
  ·exact absurd (hE.1 hb).1 (by omega)
 have e1:∀ k (h:k < t.length),Option.map aq t[k]? = some (aq t[k]):=fun k h=>by simp [List.getElem?_eq_getElem h]
 have e2:∀ i,i < t.length->i - 1 < t.length:=fun i h=>by omega
 have e4:∀ i k (h:k < i) (h2:i < t.length),Option.map aq (List.take i t)[k]? = some (aq t[k]):=fun i k h h2=>by rw [List.getElem?_take,if_pos h]; exact e1 k (by omega)
 have hg:∀ i (h:i < t.length),t.getD i default=t[i]:=fun i h=>by simp [List.getD_eq_getElem?_getD,h]
 intro _;refine ⟨fun h=>hB (by omega),fun h8 _=>⟨by omega,fun i hi h8' hprev=>⟨fun hlt=>?_,fun hge=>?_⟩⟩⟩
 ·have e3:=e1 i hlt;have e3':=e1 (i - 1) (e2 i hlt);have hpi:=hp i hlt;have hgi:=hg i hlt;have hgi':=hg (i - 1) (e2 i hlt);have hh:dX t i=(bg t[i].text && dZ t[i].path && (decide (i=0) || Go.Op.bytesLess t[i - 1].path t[i].path)):=by simp only [dX,hgi,hgi']
  have hm:min i t.length=i:=by omega
  have hgg:t[i]?.getD default=t[i]:=by simpa [List.getD_eq_getElem?_getD] using hgi
  simp [hlt,e2 i hlt,e3,e3',aq,ar,D.asStr,D.asRows,hm,bm,and_assoc,hgg]
  try simp +contextual [ar,aq,bR,bm,bS,List.getElem?_eq_getElem,bW,bp,bK,bU,<- br,<- bN,bn,bw,bV,bT,bu,bJ,and_assoc,e4,hgg,hm,hlt,D.asStr,D.asRows,Ge]
  repeat' (first | intro _ | apply And.intro)
  all_goals first | omega | grind
 ·have hT:aC t=true:=hE.2 ⟨h8',fun j hj=>hprev j (by omega)⟩
  simp [hT]
  repeat' (first | intro _ | apply And.intro)
  all_goals first | omega | grind
theorem rR (t:List FileD) (h:aC t=true):t.length<=8 /\ ∀ f ∈ t,f.text.length<=64:=by
 simp only [aC,Bool.and_eq_true,decide_eq_true_eq,List.all_eq_true,List.mem_range,dX] at h;refine ⟨h.1,fun f hf=>?_⟩;obtain ⟨i,hi,rfl⟩:=List.getElem_of_mem hf;have:=(h.2 i hi).1.1.1;simp [List.getD_eq_getElem?_getD,hi,bg] at this;omega
theorem fF:∀ (x y:Str),Go.Op.bytesLess x y=decide (x < y)
 | [],[]=>by simp [Go.Op.bytesLess]
 | _ :: _,[]=>by simp [Go.Op.bytesLess]
 | [],_ :: _=>by simp [Go.Op.bytesLess]
 | a :: x,b :: y=>by
  rw [Go.Op.bytesLess,fF x y];simp only [List.cons_lt_cons_iff];by_cases h1:a < b <;> by_cases h2:a=b <;> by_cases h3:x < y <;> simp [h1,h2,h3]
theorem jz (a:Str):¬ a < a:=List.lt_irrefl a
theorem lm {a b c:Str} (h:a < b) (h':b < c):a < c:=List.lt_trans h h'
theorem mI (a b:Str) (h:¬ a < b) (hne:a ≠ b):b < a:=by
 have h1:b<=a:=List.not_lt.1 h;exact Classical.byContradiction fun h2=>hne (List.le_antisymm (List.not_lt.1 h2) h1)
theorem lk {a b:Str} (h:a < b):¬ b < a:=fun h'=>jz a (lm h h')
theorem Bc (a b:Str):mh a b = !decide (b < a):=by
 unfold mh;rw [fF];by_cases h:a < b
 ·simp [h,lk h]
 ·by_cases e:a=b
  ·subst e; simp [jz]
  ·simp [h,e,mI a b h e]
theorem vg {b:UInt8} {most:Nat}:∀ {r c:Str} {n:Nat},n+r.count b<=most->aO (b.toNat:Int) most r c n=spl b r c:=by
 intro r
 induction r with
 | nil=>intro c n _; rfl
 | cons x r ih =>
  intro c n h;have hx:((x.toNat:Int)=(b.toNat:Int))=(x=b):=by
   apply propext;constructor
   ·intro h; exact UInt8.toNat_inj.1 (by omega)
   ·rintro rfl; rfl
  by_cases hb:x=b
  ·subst hb;rw [List.count_cons_self] at h;simp only [aO,spl,if_true,show n < most by omega]
   rw [ih (by omega)]
  ·rw [List.count_cons_of_ne hb] at h;simp only [aO,spl,hx,hb,if_false];split
   ·exact ih h
   ·have h0:r.count b=0:=by omega
    have:∀ (q p:Str),q.count b=0->spl b q p=[p++q]:=by
     intro q
     induction q with
     | nil=>intro p _; simp [spl]
     | cons y q ih2 =>
      intro p hq;have hy:y ≠ b:=by rintro rfl; simp at hq
      rw [List.count_cons_of_ne hy] at hq;simp only [spl,hy,if_false];rw [ih2 _ hq]; simp
    rw [this r _ h0]; simp
theorem zt {b:UInt8} {most:Nat}:∀ {r c:Str} {n:Nat},n<=most->most < n+r.count b->(aO (b.toNat:Int) most r c n).length=most - n+1:=by
 intro r
 induction r with
 | nil=>intro c n h1 h2; simp at h2; omega
 | cons x r ih =>
  intro c n h1 h2;have hx:((x.toNat:Int)=(b.toNat:Int))=(x=b):=by
   apply propext;constructor
   ·intro h; exact UInt8.toNat_inj.1 (by omega)
   ·rintro rfl; rfl
  simp only [aO,hx];split
  ·split
   ·rename_i hb;subst hb;rw [List.count_cons_self] at h2;rw [List.length_cons,ih (by omega) (by omega)]
    omega
   ·rename_i hb;rw [List.count_cons_of_ne hb] at h2;rw [ih h1 h2]
  ·simp; omega
theorem gF (s:Str):dZ s=dg s:=by
 unfold dZ dg;by_cases h:s.count 47<=3
 ·have:aA s 47 3=spl 47 s []:=vg (b:=47) (most:=3) (by omega)
  rw [this,Bool.and_comm]
 ·have h1:(aA s 47 3).length=4:=zt (b:=47) (most:=3) (r:=s) (c:=[]) (n:=0) (by omega) (by omega)
  have h2:=rI 47 s [];simp [h1,h2,h];omega
theorem vR (d p:Str):inB d p=ix (d++[47]) p:=by
 unfold inB ix;by_cases h:d.length < p.length
 ·have e:p.take (d.length+1)=p.take d.length++[p[d.length]]:=List.take_succ_eq_append_getElem h;simp only [List.length_append,List.length_cons,List.length_nil,Nat.zero_add,e,h,show d.length+1<=p.length by omega,decide_true,Bool.true_and]
  have hg:p.getD d.length 0=p[d.length]:=getD_nat _ _ h;rw [hg,Bool.eq_iff_iff];simp only [Bool.and_eq_true,decide_eq_true_eq];constructor
  ·rintro ⟨h1,h2⟩; rw [h1,h2]
  ·intro h1;have:=List.append_inj h1 (by simp; omega)
   exact ⟨this.1,by simpa using this.2⟩
 ·simp [h];omega
theorem M2 {d p:Str} (h:ix (d++[47]) p=true):d < p:=by
 unfold ix at h;simp only [Bool.and_eq_true,decide_eq_true_eq,List.length_append,List.length_cons,List.length_nil,Nat.zero_add] at h;have e:p=d++(47 :: p.drop (d.length+1)):=by
  have:=List.take_append_drop (d.length+1) p;rw [h.2] at this
  simpa using this.symm
 rw [e];generalize p.drop (d.length+1)=q;clear h e
 induction d with
 | nil=>exact List.nil_lt_cons _ _
 | cons x d ih=>exact List.cons_lt_cons_iff.2 (.inr ⟨rfl,ih⟩)
theorem eI (t:List FileD):aC t=aR t:=by
 have hasc:(∀ i,i < t.length->dX t i=true) -> ∀ i k,i < k->k < t.length->(t.getD i default).path < (t.getD k default).path:=by
  intro h i k hik hk
  induction k with
  | zero=>omega
  | succ k ih =>
   have h1:=h (k+1) hk;simp only [dX,Bool.and_eq_true,Bool.or_eq_true,decide_eq_true_eq,fF,Nat.add_sub_cancel] at h1;have h2:(t.getD k default).path < (t.getD (k+1) default).path:=by
    rcases h1.2 with h2 | h2
    ·omega
    ·exact h2
   rcases Nat.lt_or_ge i k with h3 | h3
   ·exact lm (ih h3 (by omega)) h2
   ·have:i=k:=by omega
    subst this; exact h2
 have hhead:∀ i,gC t i=dX t i:=by
  intro i;simp only [gC,dX,gF,Bc,fF,Bool.not_not];rw [Bool.and_comm (dg _)]
 rw [Bool.eq_iff_iff];simp only [aC,aR,Bool.and_eq_true,decide_eq_true_eq,List.all_eq_true,List.mem_range,hhead];constructor
 ·rintro ⟨h8,h⟩;refine ⟨fun i hi=>⟨(h i hi).1,?_⟩,h8⟩;simp only [ip,List.all_eq_true,Bool.not_eq_true'];intro g hg;obtain ⟨k,hk,rfl⟩:=List.getElem_of_mem hg;rw [show t[k]=t.getD k default by simp [List.getD_eq_getElem?_getD,hk],vR]
  cases hp:ix ((t.getD i default).path++[47]) (t.getD k default).path with
  | false=>rfl
  | true =>
   exfalso;have hlt:=M2 hp;have hik:i < k:=by
    rcases Nat.lt_trichotomy i k with h1 | h1 | h1
    ·exact h1
    ·subst h1; exact absurd hlt (jz _)
    ·exact absurd hlt (lk (hasc (fun i hi=>(h i hi).1) k i h1 hi))
   have h2:=(h k hk).2;simp only [iq,List.all_eq_true,List.mem_range,Bool.not_eq_true'] at h2;have h3:=h2 i hik;have p1:=(h i hi).1;have p2:=(h k hk).1;simp only [dX,Bool.and_eq_true] at p1 p2;simp only [j3,p1.1.2,p2.1.2,hp,Bool.and_self,reduceCtorEq] at h3
 ·rintro ⟨h,h8⟩;refine ⟨h8,fun i hi=>⟨(h i hi).1,?_⟩⟩;simp only [iq,List.all_eq_true,List.mem_range,Bool.not_eq_true'];intro k hk;have h2:=(h k (by omega)).2
  simp only [ip,List.all_eq_true,Bool.not_eq_true'] at h2;have h3:=h2 _ (List.getElem_mem hi);rw [show t[i]=t.getD i default by simp [List.getD_eq_getElem?_getD,hi],vR] at h3
  simp only [j3,h3,Bool.and_false]
theorem xH {α:Type} {l:List α} {i:Nat} {q:α -> Prop} (h:i < l.length) (hb:∀ x,x ∈ l.take i->q x) (hi:q l[i]):∀ x,x ∈ l.take (i+1)->q x:=by
 intro x hx;rw [List.take_succ_eq_append_getElem h,List.mem_append] at hx;rcases hx with hx | hx
 ·exact hb x hx
 ·simp only [List.mem_singleton] at hx;subst hx; exact hi
def atB (p q:Str):Bool:=decide (p=q) || ix (q++[47]) p
def mY:Con:=.fn 16 (FileD × Str) (fun a=>[.agg [.str a.1.path,.sl true 1 (aa a.1.text)],.str a.2]) (fun a=>a.2.length<=536870912) (fun a=>.bool (atB a.1.path a.2)) (fun _=>[])
theorem vT:Has Tryz.prog 195 mY:=by
 refine ah mixed aw (HasL.cons zY HasL.nil) [0,1,2,4] ((fun a n (_:Nat)=>(fun _=>az) a n)) [] Tryz.func195 (by unfold Tryz.f195; rfl) (fun _=>⟨(),trivial⟩) ?_
 intro a ha;obtain ⟨⟨p,x⟩,q⟩:=a;replace ha:q.length<=536870912:=ha;simp -implicitDefEqProofs [mY,Con.fn,ag,pt]
 try dsimp only
 try simp +contextual [ar,aq,bR,bm,bS,List.getElem?_eq_getElem,bW,bp,bK,bU,<- br,<- bN,bn,bw,bV,bT,bu,bJ,and_assoc]
 repeat' (first | intro _ | apply And.intro)
 all_goals first | omega | grind [cn,atB,maxLen]
theorem Pn:∀ {a:List Str} {l:Int},0<=szL a l -> ∀ s ∈ a,(s.length:Int)<=l:=by
 intro a
 induction a with
 | nil=>intro l _ s hs; cases hs
 | cons x r ih =>
  intro l h s hs;simp only [szL] at h;split at h
  ·omega
  ·rcases List.mem_cons.1 hs with rfl | hs
   ·have:=Pm (a:=r) (l:=l - s.length) (by omega); omega
   ·have:=ih h s hs; omega
theorem Pq {a:List Str} {l:Int} (h:0<=lp a l):(a.length:Int)<=l /\ ∀ s ∈ a,(s.length:Int)<=l:=by
 unfold lp at h;split at h
 ·omega
 ·refine ⟨by omega,fun s hs=>?_⟩
  have:=Pn h s hs; omega
theorem su (f:FileD) (q:Str):atB f.path q=(decide (q=f.path) || inB q f.path):=by
 unfold atB;rw [vR]
 congr 1
 simp only [eq_comm]


theorem jT {w:Str} (h:aQ w=true):1<=w.length/\w.length<=6:=by
 simp only [aQ,Bool.and_eq_true,decide_eq_true_eq] at h;exact ⟨h.1.1,h.1.2⟩


theorem vk {l:List Str} {x:List D} {d:D} (h:x ∈ aa l) (h':d ∈ x):∃ s,d=D.str s:=by
 simp only [aa,List.mem_map] at h;obtain ⟨s,_,rfl⟩:=h;simp only [ar,List.mem_singleton] at h';exact ⟨s,h'⟩
def lK:Con:=.fn 6 (List Str) (fun a=>[.sl true 1 (aa a)]) (fun a=>a.length<=1048576) (fun a=>.own 8 1 (aa a)) (fun a=>dN 8 a)
theorem pY:Has Tryz.prog 90 lK:=by
 refine ah mixed aw HasL.nil [0,2] ((fun a n (_:Nat)=>(fun _=>az) a n)) [] Tryz.func90 (by unfold Tryz.f90; rfl) (fun _=>⟨(),trivial⟩) ?_
 intro (a:List Str) ha;replace ha:a.length<=1048576:=ha;simp -implicitDefEqProofs [lK,Con.fn,ag]
 try dsimp only
 try simp +contextual [ar,aq,bR,bm,bS,List.getElem?_eq_getElem,bW,bp,bK,bU,<- br,<- bN,bn,bw,bV,bT,bu,bJ,and_assoc]
 repeat' (first | intro _ | apply And.intro)
 all_goals first | omega | grind [cn,vk]
def gY:Con:=.fn 23 (List FileD) (fun a=>[.sl true 2 (ac a)]) (fun a=>a.length<=1048576 /\ ∀ f ∈ a,f.text.length<=1048576) (fun a=>.own 8 2 (ac a)) (fun a=>eO 8 a)
theorem jc:Has Tryz.prog 102 gY:=by
 refine ah mixed aw (HasL.cons pY HasL.nil) [0,2,3,5,6,7,8] ((fun a n (_:Nat)=>(fun a _=>⟨Nat,fun i=>⟨[(2,true,.nil),(3,true,.own 9 2 (ac (a.take i))),(6,true,.sl true 2 (ac a)),(7,true,.int .i64 a.length),(8,true,.int .i64 i)],eO 9 (a.take i)⟩,fun i=>i<=a.length,fun i=>a.length - i⟩) a n)) [19] Tryz.func102 (by unfold Tryz.f102; rfl) (fun _=>⟨(),trivial⟩) ?_
 intro (a:List FileD) ha;obtain ⟨h1,h2⟩:a.length<=1048576 /\ ∀ f ∈ a,f.text.length<=1048576:=ha;have h3:∀ i (h:i < a.length),a[i].text.length<=1048576:=fun i h=>h2 _ (List.getElem_mem h);simp -implicitDefEqProofs [gY,Con.fn,ag,lK]
 try dsimp only
 try simp +contextual [ar,aq,bR,bm,bS,List.getElem?_eq_getElem,bW,bp,bK,bU,<- br,<- bN,bn,bw,bV,bT,bu,bJ,and_assoc,<- FileD.eq_iff]
 repeat' (first | intro _ | apply And.intro)
 all_goals first | omega | grind [cn,List.take_of_length_le,List.take_succ_eq_append_getElem]
def jH:Con:=.fn 29 (List FileD) (fun a=>[.sl true 2 (ac a)]) (fun a=>a.length<=1048576 /\ ∀ f ∈ a,f.text.length<=1048576) (fun a=>.own 8 2 (ac a)) (fun a=>eO 8 a)
theorem me:Has Tryz.prog 178 jH:=by
 refine ah mixed aw HasL.nil [0,2,3,4] ((fun a n (_:Nat)=>(fun a _=>⟨Nat,fun i=>⟨[(0,true,.sl true 2 (ac a)),(2,true,.nil),(3,true,.own 9 2 (ac (a.take i))),(4,true,.int .i64 i)],eO 9 (a.take i)⟩,fun i=>i<=a.length,fun i=>a.length - i⟩) a n)) [26] Tryz.func178 (by unfold Tryz.f178; rfl) (fun _=>⟨(),trivial⟩) ?_
 intro (a:List FileD) ha;obtain ⟨h1,h2⟩:a.length<=1048576 /\ ∀ f ∈ a,f.text.length<=1048576:=ha;have h3:∀ i (h:i < a.length),a[i].text.length<=1048576:=fun i h=>h2 _ (List.getElem_mem h);simp -implicitDefEqProofs [jH,Con.fn,ag]
 try dsimp only
 try simp +contextual [ar,aq,bR,bm,bS,List.getElem?_eq_getElem,bW,bp,bK,bU,<- br,<- bN,bn,bw,bV,bT,bu,bJ,and_assoc,<- FileD.eq_iff]
 repeat' (first | intro _ | apply And.intro)
 all_goals first | omega | grind [cn,vk,List.take_of_length_le,List.take_succ_eq_append_getElem]
def aE (p:FileD->Bool) (t:List FileD):List FileD:=t.filter p
theorem nE {p:FileD->Bool} {t:List FileD} {i:Nat} (h:i < t.length) (hp:p t[i]=true):aE p (t.take (i+1))=aE p (t.take i)++[t[i]]:=by
 unfold aE;rw [aX h,List.filter_append];simp [List.filter_cons,hp]
theorem nF {p:FileD->Bool} {t:List FileD} {i:Nat} (h:i < t.length) (hp:p t[i]=false):aE p (t.take (i+1))=aE p (t.take i):=by
 unfold aE;rw [aX h,List.filter_append];simp [List.filter_cons,hp]
theorem zK (p:FileD->Bool) (t:List FileD) (i:Nat):(aE p (t.take i)).length<=i:=by
 have:=List.length_filter_le p (t.take i);unfold aE;simp at this; omega
theorem zL (p:FileD->Bool):aE p []=[]:=rfl
def eL (p:FileD->Bool) (t:List FileD) (i:Nat):List (List D):=(t.take i).map (fun f=>if p f then [.str f.path,.junk] else aq f)++ac (t.drop i)
theorem HI (p:FileD->Bool) (t:List FileD) (i:Nat):(eL p t i).length=t.length:=by simp [eL]; omega
theorem HK (p:FileD->Bool) (t:List FileD):eL p t 0=ac t:=by simp [eL]
theorem HF {p:FileD->Bool} {t:List FileD} {i:Nat} (h:i < t.length):(eL p t i)[i]? = some (aq t[i]):=by
 unfold eL;rw [List.getElem?_append_right (by simp; omega),List.length_map,List.length_take,Nat.min_eq_left (by omega),Nat.sub_self,eFiles_get,List.drop_eq_getElem_cons h]
 rfl
theorem HJ {p:FileD->Bool} {t:List FileD} {i:Nat} (h:i < t.length) (hp:p t[i]=false):eL p t (i+1)=eL p t i:=by
 unfold eL;rw [aX h,List.map_append,List.drop_eq_getElem_cons h];simp only [List.map_cons,List.map_nil,hp,Bool.false_eq_true,if_false,ac,List.append_assoc,List.cons_append,List.nil_append]
theorem HG {p:FileD->Bool} {t:List FileD} {i:Nat} (h:i < t.length) (hp:p t[i]=true):(eL p t i).set i [.str t[i].path,.junk]=eL p t (i+1):=by
 unfold eL;rw [aX h,List.map_append];rw [List.set_append_right _ _ (by simp; omega),List.length_map,List.length_take,Nat.min_eq_left (by omega),Nat.sub_self,List.drop_eq_getElem_cons h]
 simp only [List.map_cons,List.map_nil,hp,if_true,ac,List.append_assoc,List.cons_append,List.nil_append,List.set_cons_zero]
def cQ (f:FileD) (acc:List FileD × Bool) (g:FileD):List FileD × Bool :=
 if acc.2=false/\Go.Op.bytesLess g.path f.path=false then (if g.path=f.path then (acc.1++[f],true) else (acc.1++[f]++[g],true))
 else (if g.path=f.path then acc else (acc.1++[g],acc.2))
def bO (f:FileD) (l:List FileD):List FileD × Bool:=l.foldl (cQ f) ([],false)
def fU (t:List FileD) (f:FileD):List FileD:=if (bO f t).2 then (bO f t).1 else (bO f t).1++[f]
theorem mH {f:FileD} {t:List FileD} {i:Nat} (h:i < t.length):bO f (t.take (i+1))=cQ f (bO f (t.take i)) t[i]:=by
 unfold bO;rw [aX h,List.foldl_append]; rfl
theorem OB (f:FileD) (acc:List FileD × Bool) (g:FileD):(cQ f acc g).1.length+acc.2.toNat<=acc.1.length+(cQ f acc g).2.toNat+1:=by
 unfold cQ;split
 ·rename_i h;rw [h.1];split <;> simp <;> omega
 ·split <;> simp <;> omega
theorem Dq (f:FileD) (t:List FileD):(bO f t).1.length<=t.length+(bO f t).2.toNat:=by
 have:∀ (t:List FileD) (acc:List FileD × Bool),(t.foldl (cQ f) acc).1.length+acc.2.toNat<=acc.1.length+t.length+(t.foldl (cQ f) acc).2.toNat:=by
  intro t
  induction t with
  | nil=>intro acc; simp
  | cons g r ih =>
   intro acc;have h1:=ih (cQ f acc g);have h2:=OB f acc g;simp only [List.foldl_cons,List.length_cons];omega
 have:=this t ([],false)
 simpa [bO] using this
theorem OA (t:List FileD) (f:FileD):(fU t f).length<=t.length+1:=by
 have:=Dq f t;unfold fU;split
 ·rename_i h; rw [h] at this; simpa using this
 ·rename_i h;have h:(bO f t).2=false:=by simpa using h
  rw [h] at this; simp at this ⊢; omega
def pJ:Con:=.fn 65 (List FileD × FileD) (fun a=>[.sl true 2 (ac a.1),.agg [.str a.2.path,.sl true 1 (aa a.2.text)]]) (fun a=>a.1.length<=1048576/\a.2.text.length<=1048576) (fun a=>.sl false 2 (ac (fU a.1 a.2))) (fun _=>[])
theorem AZ:Has Tryz.prog 181 pJ:=by
 refine ah mixed aw HasL.nil [0,1,3,4,5,6,7] ((fun a n (_:Nat)=>(fun a _=>⟨Nat,fun i=>⟨[(0,true,.sl true 2 (ac a.1)),(3,true,.ptr 10 0),(4,true,.nil),(5,true,.own 9 2 (ac (bO a.2 (a.1.take i)).1)),(6,true,.bool (bO a.2 (a.1.take i)).2),(7,true,.int .i64 i)],[(10,.box 119 [.str a.2.path,.sl true 1 (aa a.2.text)]),(9,.own 119 2 false (ac (bO a.2 (a.1.take i)).1))]⟩,fun i=>i<=a.1.length,fun i=>a.1.length - i⟩) a n)) [35,62] Tryz.func181 (by unfold Tryz.f181; rfl) (fun _=>⟨(),trivial⟩) ?_
 intro a ha;obtain ⟨t,f⟩:=a;obtain ⟨q1,q2⟩:t.length<=1048576/\f.text.length<=1048576:=ha;have a0:bO f []=([],false):=rfl;have a1:∀ i (h:i < t.length),(bO f (t.take i)).2=true -> ¬ t[i].path=f.path->bO f (t.take (i+1))=((bO f (t.take i)).1++[t[i]],true):=fun i h h1 h2=>by rw [mH h]; simp [cQ,h1,h2]
 have a2:∀ i (h:i < t.length),(bO f (t.take i)).2=true->t[i].path=f.path->bO f (t.take (i+1))=((bO f (t.take i)).1,true):=fun i h h1 h2=>by rw [mH h]; unfold cQ; rw [if_neg (by simp [h1]),if_pos h2]; exact Prod.ext rfl h1
 have a3:∀ i (h:i < t.length),(bO f (t.take i)).2=false->Go.Op.bytesLess t[i].path f.path=false -> ¬ t[i].path=f.path->bO f (t.take (i+1))=((bO f (t.take i)).1++[f]++[t[i]],true):=fun i h h1 h3 h2=>by rw [mH h]; simp [cQ,h1,h2,h3]
 have a4:∀ i (h:i < t.length),(bO f (t.take i)).2=false->Go.Op.bytesLess t[i].path f.path=false->t[i].path=f.path->bO f (t.take (i+1))=((bO f (t.take i)).1++[f],true):=fun i h h1 h3 h2=>by rw [mH h]; rw [h2] at h3; simp [cQ,h1,h2,h3]
 have a5:∀ i (h:i < t.length),(bO f (t.take i)).2=false->Go.Op.bytesLess t[i].path f.path=true -> ¬ t[i].path=f.path->bO f (t.take (i+1))=((bO f (t.take i)).1++[t[i]],false):=fun i h h1 h3 h2=>by rw [mH h]; simp [cQ,h1,h2,h3]
 have a6:∀ i (h:i < t.length),(bO f (t.take i)).2=false->Go.Op.bytesLess t[i].path f.path=true->t[i].path=f.path->bO f (t.take (i+1))=((bO f (t.take i)).1,false):=fun i h h1 h3 h2=>by rw [mH h]; unfold cQ; rw [if_neg (by simp [h3]),if_pos h2]; exact Prod.ext rfl h1
 have a7:∀ i,(bO f (t.take i)).1.length<=1048577:=fun i=>by
  have h1:=Dq f (t.take i);have h2:=Bool.toNat_le (bO f (t.take i)).2;have h3:(t.take i).length<=t.length:=by simp; omega
  omega
 have a8:(bO f t).2=true->fU t f=(bO f t).1:=fun h=>by simp [fU,h]
 have a9:(bO f t).2=false->fU t f=(bO f t).1++[f]:=fun h=>by simp [fU,h]
 simp -implicitDefEqProofs [pJ,Con.fn,ag]
 try dsimp only
 have b1:∀ (X:List FileD) (g:FileD),ac X++[[D.str f.path,D.sl 9 1 (aa f.text)],[D.str g.path,D.sl 9 1 (aa g.text)]]=ac (X++[f]++[g]):=fun X g=>by simp [ac,aq]
 refine ⟨⟨0,by simp [a0]⟩,?_⟩
 try simp +contextual [ar,aq,bR,bm,bS,List.getElem?_eq_getElem,bW,bp,bK,bU,<- br,<- bN,bn,bw,bV,bT,bu,bJ,and_assoc,b1,<- FileD.eq_iff]
 repeat' (first | intro _ | apply And.intro)
 all_goals first | omega | grind [cn,vk,List.take_of_length_le]
end Vx
end Go.Proofs.YthgfdbfmnbgkaaaGreatDoor
namespace Go.Proofs.YthgfdbfmnbgkaaaGreatDoor
namespace Vx
def ap (n:Int):List D:=[.int .i64 n]
@[simp] theorem eInt_inj (a b:Int):(ap a=ap b)=(a=b):=by simp [ap]
def ae (l:List Int):List (List D):=l.map ap
@[simp] theorem eInts_length (l:List Int):(ae l).length=l.length:=by simp [ae]
@[simp] theorem eInts_nil:ae []=[]:=rfl
@[simp] theorem eInts_get (l:List Int) (i:Nat):(ae l)[i]? = l[i]?.map ap:=by simp [ae]
@[simp] theorem eInts_getElem (l:List Int) (i:Nat) (h:i < (ae l).length):(ae l)[i]=ap (l[i]'(by simpa using h)):=by simp [ae]
@[simp] theorem eInts_inj (a b:List Int):(ae a=ae b)=(a=b):=by
 apply propext;constructor
 ·intro h;exact List.map_inj_right (fun x y h=>by simpa using h) |>.1 h
 ·rintro rfl; rfl
@[simp] theorem eInts_eq_nil (a:List Int):(ae a=[])=(a=[]):=by simp [ae]
@[simp] theorem nil_eq_eInts (a:List Int):([]=ae a)=(a=[]):=by simp [ae,eq_comm]
theorem kN (a:List Int) (n:Int):ae a++[[.int .i64 n]]=ae (a++[n]):=by simp [ae,ap]
theorem kM (l:List Int) (i:Nat) (n:Int):(ae l).set i [.int .i64 n]=ae (l.set i n):=by simp [ae,List.map_set,ap]
@[simp] theorem eInts_flat (l:List Int):(∀ x ∈ ae l,∀ d ∈ x,jO d)=True:=by
 simp only [eq_iff_iff,iff_true];intro x hx d hd;simp only [ae,List.mem_map] at hx;obtain ⟨s,_,rfl⟩:=hx;simp only [ap,List.mem_singleton] at hd;subst hd;trivial
structure HeadD where
 name:Str
 at_:Int
 deriving DecidableEq,Inhabited
def bc (a:HeadD):List D:=[.str a.name,.int .i64 a.at_]
@[simp] theorem eHead_inj (a b:HeadD):(bc a=bc b)=(a=b):=by cases a; cases b; simp [bc]
@[simp] theorem HeadD.eta (a:HeadD):(⟨a.name,a.at_⟩:HeadD)=a:=rfl
theorem HeadD.eq_iff (a b:HeadD):(a=b)=(a.name=b.name/\a.at_=b.at_):=by cases a; cases b; simp
@[simp] theorem HeadD.ex1 (x_name:Str) (x_at_:Int) (Q:HeadD->Prop):(∃ a:HeadD,a.name=x_name/\a.at_=x_at_/\Q a)=Q ⟨x_name,x_at_⟩:=by
 apply propext;constructor
 ·rintro ⟨⟨_,_⟩,rfl,rfl,h⟩; exact h
 ·intro h; exact ⟨⟨x_name,x_at_⟩,rfl,rfl,h⟩
@[simp] theorem HeadD.ex2 (x_name:Str) (x_at_:Int) (Q:HeadD->Prop):(∃ a:HeadD,(a.name=x_name/\a.at_=x_at_)/\Q a)=Q ⟨x_name,x_at_⟩:=by
 apply propext;constructor
 ·rintro ⟨⟨_,_⟩,⟨rfl,rfl⟩,h⟩; exact h
 ·intro h; exact ⟨⟨x_name,x_at_⟩,⟨rfl,rfl⟩,h⟩
@[simp] theorem HeadD.ex0 (x_name:Str) (x_at_:Int):(∃ a:HeadD,a.name=x_name/\a.at_=x_at_)=True:=by
 simp only [eq_iff_iff,iff_true];exact ⟨⟨x_name,x_at_⟩,rfl,rfl⟩
def al (l:List HeadD):List (List D):=l.map bc
@[simp] theorem eHeads_length (l:List HeadD):(al l).length=l.length:=by simp [al]
@[simp] theorem eHeads_nil:al []=[]:=rfl
@[simp] theorem eHeads_get (l:List HeadD) (i:Nat):(al l)[i]? = l[i]?.map bc:=by simp [al]
@[simp] theorem eHeads_getElem (l:List HeadD) (i:Nat) (h:i < (al l).length):(al l)[i]=bc (l[i]'(by simpa using h)):=by simp [al]
@[simp] theorem eHeads_inj (a b:List HeadD):(al a=al b)=(a=b):=by
 apply propext;constructor
 ·intro h;exact List.map_inj_right (fun x y h=>by simpa using h) |>.1 h
 ·rintro rfl; rfl
@[simp] theorem eHeads_eq_nil (a:List HeadD):(al a=[])=(a=[]):=by simp [al]
@[simp] theorem nil_eq_eHeads (a:List HeadD):([]=al a)=(a=[]):=by simp [al,eq_comm]
theorem qh (a:List HeadD) (s:Str) (n:Int):al a++[[.str s,.int .i64 n]]=al (a++[⟨s,n⟩]):=by simp [al,bc]
theorem zE (l:List HeadD) (i:Nat) (s:Str) (n:Int):(al l).set i [.str s,.int .i64 n]=al (l.set i ⟨s,n⟩):=by simp [al,List.map_set,bc]
@[simp] theorem eHeads_flat (l:List HeadD):(∀ x ∈ al l,∀ d ∈ x,jO d)=True:=by
 simp only [eq_iff_iff,iff_true];intro x hx d hd;simp only [al,List.mem_map] at hx;obtain ⟨s,_,rfl⟩:=hx;simp only [bc,List.mem_cons,List.not_mem_nil,or_false] at hd;rcases hd with rfl | rfl <;> trivial
structure CommitD where
 parents:List Int
 who:Str
 tree:List FileD
 deriving DecidableEq,Inhabited
def bI (a:CommitD):List D:=[.sl 3 1 (ae a.parents),.str a.who,.sl 119 2 (ac a.tree)]
@[simp] theorem eCommit_inj (a b:CommitD):(bI a=bI b)=(a=b):=by cases a; cases b; simp [bI]
@[simp] theorem CommitD.eta (a:CommitD):(⟨a.parents,a.who,a.tree⟩:CommitD)=a:=rfl
theorem CommitD.eq_iff (a b:CommitD):(a=b)=(a.parents=b.parents/\a.who=b.who/\a.tree=b.tree):=by cases a; cases b; simp
@[simp] theorem CommitD.ex1 (x_parents:List Int) (x_who:Str) (x_tree:List FileD) (Q:CommitD->Prop):(∃ a:CommitD,a.parents=x_parents/\a.who=x_who/\a.tree=x_tree/\Q a)=Q ⟨x_parents,x_who,x_tree⟩:=by
 apply propext;constructor
 ·rintro ⟨⟨_,_,_⟩,rfl,rfl,rfl,h⟩; exact h
 ·intro h; exact ⟨⟨x_parents,x_who,x_tree⟩,rfl,rfl,rfl,h⟩
@[simp] theorem CommitD.ex2 (x_parents:List Int) (x_who:Str) (x_tree:List FileD) (Q:CommitD->Prop):(∃ a:CommitD,(a.parents=x_parents/\a.who=x_who/\a.tree=x_tree)/\Q a)=Q ⟨x_parents,x_who,x_tree⟩:=by
 apply propext;constructor
 ·rintro ⟨⟨_,_,_⟩,⟨rfl,rfl,rfl⟩,h⟩; exact h
 ·intro h; exact ⟨⟨x_parents,x_who,x_tree⟩,⟨rfl,rfl,rfl⟩,h⟩
@[simp] theorem CommitD.ex0 (x_parents:List Int) (x_who:Str) (x_tree:List FileD):(∃ a:CommitD,a.parents=x_parents/\a.who=x_who/\a.tree=x_tree)=True:=by
 simp only [eq_iff_iff,iff_true];exact ⟨⟨x_parents,x_who,x_tree⟩,rfl,rfl,rfl⟩
def aD (l:List CommitD):List (List D):=l.map bI
@[simp] theorem eCommits_length (l:List CommitD):(aD l).length=l.length:=by simp [aD]
@[simp] theorem eCommits_nil:aD []=[]:=rfl
@[simp] theorem eCommits_get (l:List CommitD) (i:Nat):(aD l)[i]? = l[i]?.map bI:=by simp [aD]
@[simp] theorem eCommits_getElem (l:List CommitD) (i:Nat) (h:i < (aD l).length):(aD l)[i]=bI (l[i]'(by simpa using h)):=by simp [aD]
@[simp] theorem eCommits_inj (a b:List CommitD):(aD a=aD b)=(a=b):=by
 apply propext;constructor
 ·intro h;exact List.map_inj_right (fun x y h=>by simpa using h) |>.1 h
 ·rintro rfl; rfl
@[simp] theorem eCommits_eq_nil (a:List CommitD):(aD a=[])=(a=[]):=by simp [aD]
@[simp] theorem nil_eq_eCommits (a:List CommitD):([]=aD a)=(a=[]):=by simp [aD,eq_comm]
theorem jM (a:List CommitD) (p:List Int) (w:Str) (t:List FileD):aD a++[[.sl 3 1 (ae p),.str w,.sl 119 2 (ac t)]]=aD (a++[⟨p,w,t⟩]):=by simp [aD,bI]
structure RepoD where
 commits:List CommitD
 heads:List HeadD
 deriving DecidableEq,Inhabited
def vj (a:RepoD):List D:=[.sl 94 3 (aD a.commits),.sl 96 2 (al a.heads)]
@[simp] theorem eRepo_inj (a b:RepoD):(vj a=vj b)=(a=b):=by cases a; cases b; simp [vj]
@[simp] theorem RepoD.eta (a:RepoD):(⟨a.commits,a.heads⟩:RepoD)=a:=rfl
theorem RepoD.eq_iff (a b:RepoD):(a=b)=(a.commits=b.commits/\a.heads=b.heads):=by cases a; cases b; simp
@[simp] theorem RepoD.ex1 (x_commits:List CommitD) (x_heads:List HeadD) (Q:RepoD->Prop):(∃ a:RepoD,a.commits=x_commits/\a.heads=x_heads/\Q a)=Q ⟨x_commits,x_heads⟩:=by
 apply propext;constructor
 ·rintro ⟨⟨_,_⟩,rfl,rfl,h⟩; exact h
 ·intro h; exact ⟨⟨x_commits,x_heads⟩,rfl,rfl,h⟩
@[simp] theorem RepoD.ex2 (x_commits:List CommitD) (x_heads:List HeadD) (Q:RepoD->Prop):(∃ a:RepoD,(a.commits=x_commits/\a.heads=x_heads)/\Q a)=Q ⟨x_commits,x_heads⟩:=by
 apply propext;constructor
 ·rintro ⟨⟨_,_⟩,⟨rfl,rfl⟩,h⟩; exact h
 ·intro h; exact ⟨⟨x_commits,x_heads⟩,⟨rfl,rfl⟩,h⟩
@[simp] theorem RepoD.ex0 (x_commits:List CommitD) (x_heads:List HeadD):(∃ a:RepoD,a.commits=x_commits/\a.heads=x_heads)=True:=by
 simp only [eq_iff_iff,iff_true];exact ⟨⟨x_commits,x_heads⟩,rfl,rfl⟩
abbrev aM (r:RepoD):AV:=.agg [.sl true 3 (aD r.commits),.sl true 2 (al r.heads)]
abbrev dY (h:Nat) (a:List Int):List (Nat × Blk):=[(h,.own 3 1 true (ae a))]
abbrev gD (h:Nat) (a:List HeadD):List (Nat × Blk):=[(h,.own 96 2 true (al a))]
abbrev iS (h:Nat) (a:List CommitD):List (Nat × Blk):=[(h,.own 94 3 true (aD a))]
end Vx
end Go.Proofs.YthgfdbfmnbgkaaaGreatDoor
namespace Go.Proofs.YthgfdbfmnbgkaaaGreatDoor
set_option maxHeartbeats 4000000
namespace Vx
open Go.RowKit
set_option maxRecDepth 8000
def eD (b:UInt8):List D:=[.int .u8 b.toNat]
def cj (s:Str):List (List D):=s.map eD
@[simp] theorem eBytes_length (l:Str):(cj l).length=l.length:=by simp -implicitDefEqProofs [cj]
@[simp] theorem eBytes_get (l:Str) (i:Nat):(cj l)[i]? = l[i]?.map eD:=by simp -implicitDefEqProofs [cj]
theorem GU (l:Str) (i:Nat):(cj l).take i=cj (l.take i):=by simp -implicitDefEqProofs [cj]
@[simp] theorem eByte_inj (a b:UInt8):(eD a=eD b)=(a=b):=by
 simp only [eD,List.cons.injEq,D.int.injEq,true_and,and_true,eq_iff_iff];constructor
 ·intro h; exact UInt8.toNat_inj.1 (by omega)
 ·rintro rfl; rfl
@[simp] theorem eBytes_inj (a b:Str):(cj a=cj b)=(a=b):=by
 apply propext;constructor
 ·intro h;exact List.map_inj_right (fun x y h=>by simpa using h) |>.1 h
 ·rintro rfl; rfl
@[simp] theorem eBytes_all (l:Str) (f:List D->Bool):(cj l).all f=l.all fun b=>f (eD b):=by simp -implicitDefEqProofs [cj,Function.comp_def]
theorem lE (l:Str):(l.all fun _=>true)=true:=by simp
abbrev iy (s:Str) (p:Int):Blk:=.box 111 [.sl true 1 (cj s),.int .i64 p]
def tK:Con:=.fn 11 Str (fun s=>[.sl true 1 (cj s)]) (fun _=>True) (fun _=>.ptr 8 0) (fun s=>[(8,iy (s.take 2000) 0)])
theorem J5:Has Tryz.prog 31 tK:=by
 refine ah mixed aw HasL.nil [0,2] ((fun a n (_:Nat)=>(fun _=>az) a n)) [] Tryz.func31 (by unfold Tryz.f31; rfl) (fun _=>⟨(),trivial⟩) ?_
 intro (s:Str) _;simp -implicitDefEqProofs [tK,Con.fn,ag,GU];exact fun _=>⟨fun h=>by omega,fun h=>List.take_of_length_le (by omega)⟩
theorem QL {a b:Int} (h1:0<=a) (h2:a < 4611686018427387904) (h3:0<=b) (h4:b < 4611686018427387904):0<=iE .xor .i64 a b:=by
 unfold iE;simp only [];rw [BitVec.toNat_xor,BitVec.toNat_ofInt,BitVec.toNat_ofInt];have e1:(a % ((2 ^ (IntKind.i64).bits:Nat):Int)).toNat < 2 ^ 62:=by
  have:a % ((2 ^ (IntKind.i64).bits:Nat):Int)=a:=Int.emod_eq_of_lt h1 (by show a < (((2:Nat) ^ 64:Nat):Int); omega)
  rw [this]; omega
 have e2:(b % ((2 ^ (IntKind.i64).bits:Nat):Int)).toNat < 2 ^ 62:=by
  have:b % ((2 ^ (IntKind.i64).bits:Nat):Int)=b:=Int.emod_eq_of_lt h3 (by show b < (((2:Nat) ^ 64:Nat):Int); omega)
  rw [this]; omega
 have e3:=Nat.xor_lt_two_pow e1 e2;rw [lx (by simp only [inR]; omega)]
 omega
def lR:Con:={ A:=(Str × Int) × Int,X:=Int,n:=99,args:=fun a=>[.ptr 0 0,.int .i64 a.2],boxes:=fun a=>[(0,111,[.sl true 1 (cj a.1.1),.int .i64 a.1.2])],pre:=fun a=>a.1.1.length<=2000/\0<=a.1.2/\a.1.2<=1073741824/\a.2<=1073741824,post:=fun a x=>(a.2 < 1->x=0)/\(1<=a.2->0<=x/\x < a.2),res:=fun _ x=>.int .i64 x,fin:=fun a _=>[(0,iy a.1.1 (a.1.2+1))],nob:=false }
theorem ro:Has Tryz.prog 32 lR:=by
 refine ah mixed aw HasL.nil [0,1,4,5,6] ((fun a n (_:Nat)=>(fun _=>az) a n)) [] Tryz.func32 (by unfold Tryz.f32; rfl) (fun a=>⟨(0:Int),fun _=>rfl,fun h=>⟨Int.le_refl 0,by omega⟩⟩) ?_
 intro a ha;obtain ⟨⟨s,p⟩,n⟩:=a;obtain ⟨h1,h2,h3,h4⟩:s.length<=2000/\0<=p/\p<=1073741824/\n<=1073741824:=ha;simp -implicitDefEqProofs [lR,ag];have e:∀ q:Int,0<=q->q < s.length -> ∃ b:Nat,b < 256/\Option.map eD s[q.toNat]? = some [.int .u8 b]:=fun q a b=>by
  have hq:q.toNat < s.length:=by omega
  exact ⟨s[q.toNat].toNat,s[q.toNat].toNat_lt,by simp -implicitDefEqProofs [List.getElem?_eq_getElem hq,eD]⟩
 refine ⟨by omega,fun _ _=>⟨fun a b=>by omega,fun hn _=>⟨fun _ _=>by omega,fun hs=>⟨by omega,fun _ _ _=>⟨fun hp=>?_,fun hp=>?_⟩⟩⟩⟩⟩
 ·obtain ⟨b,hb,eb⟩:=e p h2 hp;have t1:=Int.tmod_nonneg n (a:=(b:Int)) (by omega)
  have t2:=Int.tmod_lt_of_pos (b:Int) (b:=n) (by omega)
  simp -implicitDefEqProofs [eb];omega
 ·have hl:0 < s.length:=List.length_pos_iff.2 hs;have hL:(0:Int) < (s.length:Int):=by omega
  have t1:=Int.tmod_nonneg (s.length:Int) (a:=p) h2;have t2:=Int.tmod_lt_of_pos p hL;have t3:=Int.tmod_nonneg (s.length:Int) (a:=p * 7+3) (by omega)
  have t4:=Int.tmod_lt_of_pos (p * 7+3) hL;have t5:=Int.tdiv_nonneg h2 (Int.le_of_lt hL);have t6:p.tdiv (s.length:Int)<=p:=by
   have:=Int.natAbs_tdiv_le_natAbs p (s.length:Int);omega
  obtain ⟨b1,hb1,eb1⟩:=e _ t1 t2;obtain ⟨b2,hb2,eb2⟩:=e _ t3 t4;simp -implicitDefEqProofs [eb1,eb2];generalize p.tdiv (s.length:Int)=d at t5 t6 ⊢;generalize p.tmod (s.length:Int)=m1 at t1 t2 ⊢;generalize (p * 7+3).tmod (s.length:Int)=m2 at t3 t4 ⊢;have t7:=Int.tdiv_nonneg (a:=(b1 * 131+b2 * 1117+p * 29+d * 53:Int)) (b:=64) (by omega) (by omega)
  have t8:(b1 * 131+b2 * 1117+p * 29+d * 53:Int).tdiv 64<=b1 * 131+b2 * 1117+p * 29+d * 53:=by
   have:=Int.natAbs_tdiv_le_natAbs (b1 * 131+b2 * 1117+p * 29+d * 53:Int) 64;omega
  have t9:=QL (a:=(b1 * 131+b2 * 1117+p * 29+d * 53:Int)) (b:=(b1 * 131+b2 * 1117+p * 29+d * 53:Int).tdiv 64) (by omega) (by omega) (by omega) (by omega)
  generalize (b1 * 131+b2 * 1117+p * 29+d * 53:Int).tdiv 64=y at t7 t8 t9 ⊢;generalize iE .xor .i64 (b1 * 131+b2 * 1117+p * 29+d * 53:Int) y=z at t9 ⊢;have t10:=Int.tmod_nonneg n t9;have t11:=Int.tmod_lt_of_pos z (b:=n) (by omega)
  clear e eb1 eb2
  repeat' (first | intro _ | apply And.intro)
  all_goals first | omega | assumption | contradiction
theorem z7 {α:Type} {d:α} {l:List α} (h:l ≠ []):l.headD d ∈ l:=by
 cases l with
 | nil=>exact absurd rfl h
 | cons x r=>simp
def cOf:Con:={ A:=(Str × Int) × List Str,X:=Str,n:=12,args:=fun a=>[.ptr 0 0,.sl true 1 (aa a.2)],boxes:=fun a=>[(0,111,[.sl true 1 (cj a.1.1),.int .i64 a.1.2])],pre:=fun a=>a.1.1.length<=2000/\0<=a.1.2/\a.1.2<=1073741824/\a.2 ≠ []/\a.2.length<=1073741824,post:=fun a x=>a.2 ≠ []->x ∈ a.2,res:=fun _ x=>.str x,fin:=fun a _=>[(0,iy a.1.1 (a.1.2+1))],nob:=false,kindly:=true }
theorem of_has:Has Tryz.prog 35 cOf:=by
 refine ah mixed aw (HasL.cons ro HasL.nil) [0,1,4] ((fun a n (_:Nat)=>(fun _=>az) a n)) [] Tryz.func35 (by unfold Tryz.f35; rfl) (fun a=>⟨a.2.headD [],fun h=>z7 h⟩) ?_
 intro a ha;obtain ⟨⟨s,p⟩,l⟩:=a;obtain ⟨h1,h2,h3,h4,h5⟩:s.length<=2000/\0<=p/\p<=1073741824/\l ≠ []/\l.length<=1073741824:=ha;have hl:0 < l.length:=List.length_pos_iff.2 h4;simp -implicitDefEqProofs [cOf,lR,ag];refine fun _=>⟨s,p,⟨rfl,rfl⟩,⟨h1,h2,h3,by omega⟩,fun y _ hy2=>?_⟩
 obtain ⟨k1,k2⟩:=hy2 (by omega)
 have hk:y.toNat < l.length:=by omega
 have e:Option.map ar l[y.toNat]? = some (ar l[y.toNat]):=by simp -implicitDefEqProofs [List.getElem?_eq_getElem hk]
 simp -implicitDefEqProofs [e,ar,k1,k2]
def uh:Con:={ A:=(Str × Int) × List Int,X:=Int,n:=12,args:=fun a=>[.ptr 0 0,.sl true 1 (ae a.2)],boxes:=fun a=>[(0,111,[.sl true 1 (cj a.1.1),.int .i64 a.1.2])],pre:=fun a=>a.1.1.length<=2000/\0<=a.1.2/\a.1.2<=1073741824/\a.2 ≠ []/\a.2.length<=1073741824,post:=fun a x=>a.2 ≠ []->x ∈ a.2,res:=fun _ x=>.int .i64 x,fin:=fun a _=>[(0,iy a.1.1 (a.1.2+1))],nob:=false,kindly:=true }
theorem one_has:Has Tryz.prog 162 uh:=by
 refine ah mixed aw (HasL.cons ro HasL.nil) [0,1,4] ((fun a n (_:Nat)=>(fun _=>az) a n)) [] Tryz.func162 (by unfold Tryz.f162; rfl) (fun a=>⟨a.2.headD 0,fun h=>z7 h⟩) ?_
 intro a ha;obtain ⟨⟨s,p⟩,l⟩:=a;obtain ⟨h1,h2,h3,h4,h5⟩:s.length<=2000/\0<=p/\p<=1073741824/\l ≠ []/\l.length<=1073741824:=ha;have hl:0 < l.length:=List.length_pos_iff.2 h4;simp -implicitDefEqProofs [uh,lR,ag];refine fun _=>⟨s,p,⟨rfl,rfl⟩,⟨h1,h2,h3,by omega⟩,fun y _ hy2=>?_⟩
 obtain ⟨k1,k2⟩:=hy2 (by omega)
 have hk:y.toNat < l.length:=by omega
 have e:Option.map ap l[y.toNat]? = some (ap l[y.toNat]):=by simp -implicitDefEqProofs [List.getElem?_eq_getElem hk]
 simp -implicitDefEqProofs [e,ap,k1,k2]
theorem nz (b:List Str) (x:Str) (R:List (List D)):(aa b=[D.str x] :: R) = ∃ t,b=x :: t/\aa t=R:=by
 apply propext;constructor
 ·intro h;cases b with
  | nil=>cases h
  | cons y t =>
   simp only [aa,List.map_cons,List.cons.injEq,ar,D.str.injEq,and_true] at h;exact ⟨t,by rw [h.1],h.2⟩
 ·rintro ⟨t,rfl,rfl⟩; rfl
theorem GZ (b:List Int) (x:Int) (R:List (List D)):(ae b=[D.int .i64 x] :: R) = ∃ t,b=x :: t/\ae t=R:=by
 apply propext;constructor
 ·intro h;cases b with
  | nil=>cases h
  | cons y t =>
   simp only [ae,List.map_cons,List.cons.injEq,ap,D.int.injEq,true_and,and_true] at h;exact ⟨t,by rw [h.1],h.2⟩
 ·rintro ⟨t,rfl,rfl⟩; rfl
def tX:Con:={ A:=Str × Int,X:=Str,n:=6,args:=fun _=>[.ptr 0 0],boxes:=fun a=>[(0,111,[.sl true 1 (cj a.1),.int .i64 a.2])],pre:=fun a=>a.1.length<=2000/\0<=a.2/\a.2<=1073741824,post:=fun _ x=>x.length<=7,res:=fun _ x=>.str x,fin:=fun a _=>[(0,iy a.1 (a.2+1))],nob:=false }
theorem KM:Has Tryz.prog 163 tX:=by
 refine ah mixed aw (HasL.cons of_has HasL.nil) [0,2] ((fun a n (_:Nat)=>(fun _=>az) a n)) [] Tryz.func163 (by unfold Tryz.f163; rfl) (fun _=>⟨([]:Str),Nat.zero_le 7⟩) ?_
 intro a ha;obtain ⟨s,p⟩:=a;obtain ⟨h1,h2,h3⟩:s.length<=2000/\0<=p/\p<=1073741824:=ha;simp -implicitDefEqProofs [tX,cOf,ag,nz,clash,kd,eD,lE];refine ⟨s,p,⟨rfl,rfl⟩,⟨h1,h2,h3⟩,?_⟩;simp
def pT:Con:={ A:=Str × Int,X:=Str,n:=6,args:=fun _=>[.ptr 0 0],boxes:=fun a=>[(0,111,[.sl true 1 (cj a.1),.int .i64 a.2])],pre:=fun a=>a.1.length<=2000/\0<=a.2/\a.2<=1073741824,post:=fun _ x=>x.length<=5,res:=fun _ x=>.str x,fin:=fun a _=>[(0,iy a.1 (a.2+1))],nob:=false }
theorem CA:Has Tryz.prog 37 pT:=by
 refine ah mixed aw (HasL.cons of_has HasL.nil) [0,2] ((fun a n (_:Nat)=>(fun _=>az) a n)) [] Tryz.func37 (by unfold Tryz.f37; rfl) (fun _=>⟨([]:Str),Nat.zero_le 5⟩) ?_
 intro a ha;obtain ⟨s,p⟩:=a;obtain ⟨h1,h2,h3⟩:s.length<=2000/\0<=p/\p<=1073741824:=ha;simp -implicitDefEqProofs [pT,cOf,ag,nz,clash,kd,eD,lE];refine ⟨s,p,⟨rfl,rfl⟩,⟨h1,h2,h3⟩,?_⟩;simp
def uK:Con:={ A:=Str × Int,X:=List Str × Int,n:=19,args:=fun _=>[.ptr 0 0],boxes:=fun a=>[(0,111,[.sl true 1 (cj a.1),.int .i64 a.2])],pre:=fun a=>a.1.length<=2000/\0<=a.2/\a.2<=1073741800,post:=fun a x=>x.1.length<=8/\(∀ s ∈ x.1,s.length<=7)/\a.2<=x.2/\x.2<=a.2+9,res:=fun _ x=>.own 8 1 (aa x.1),fin:=fun a x=>[(0,iy a.1 x.2),(8,.own 9 1 true (aa x.1))],nob:=false }
theorem Pv:Has Tryz.prog 82 uK:=by
 refine ah mixed aw (HasL.cons one_has (HasL.cons KM HasL.nil)) [0,2,3,4] ((fun a n (_:Nat)=>(fun a _=>⟨List Str × Int × Nat,fun t=>⟨[(0,true,.ptr 0 0),(2,true,.nil),(3,true,.own 9 1 (aa t.1)),(4,true,.int .i64 t.2.2)],[(0,iy a.1 t.2.1),(9,.own 9 1 true (aa t.1))]⟩,fun t=>t.1.length+t.2.2<=8/\(∀ s ∈ t.1,s.length<=7)/\a.2<=t.2.1/\t.2.1<=a.2+1+t.1.length,fun t=>t.2.2⟩) a n)) [] Tryz.func82 (by unfold Tryz.f82; rfl) (fun a=>⟨(([]:List Str),a.2),Nat.zero_le 8,(by simp),Int.le_refl _,by omega⟩) ?_
 intro a ha;obtain ⟨s,p⟩:=a;obtain ⟨h1,h2,h3⟩:s.length<=2000/\0<=p/\p<=1073741800:=ha;simp -implicitDefEqProofs [uK,uh,tX,ag,GZ,clash,kd,eD,lE];refine ⟨s,p,⟨rfl,rfl⟩,⟨h1,by omega,by omega⟩,?_⟩
 refine ⟨⟨⟨[],p+1,0,by simp; omega⟩,?_⟩,⟨⟨[],p+1,1,by simp; omega⟩,?_⟩,⟨⟨[],p+1,3,by simp; omega⟩,?_⟩,⟨⟨[],p+1,5,by simp; omega⟩,?_⟩,⟨[],p+1,8,by simp; omega⟩,?_⟩
 all_goals
  intro a q n g1 g2 g3 g4;refine ⟨fun hn=>⟨s,q,⟨rfl,rfl⟩,⟨h1,by omega,by omega⟩,fun y hy=>⟨by omega,by omega,fun _ _=>⟨a++[y],q+1,n - 1,⟨⟨(bu a y).symm,by omega⟩,⟨rfl,rfl⟩,bu a y⟩,⟨by simp; omega,fun x hx=>?_,by omega,by simp; omega⟩,by omega⟩⟩⟩,fun hn=>⟨a,q,⟨by omega,g2,by omega,by omega⟩,rfl,rfl,rfl⟩⟩
  rcases List.mem_append.1 hx with hx | hx
  ·exact g2 x hx
  ·simp at hx; subst hx; exact hy
def iB (t:List FileD) (f:FileD):List FileD × Bool:=if aR t then (if aR (fU t f) then (fU t f,true) else (t,false)) else ([],false)
def uR:Con:=.fn 20 (List FileD × FileD) (fun a=>[.sl true 2 (ac a.1),.agg [.str a.2.path,.sl true 1 (aa a.2.text)]]) (fun a=>(a.1.length<=1048575 /\ ∀ f ∈ a.1,f.text.length<=1048576)/\a.2.text.length<=1048576) (fun a=>.tup [.sl false 2 (ac (iB a.1 a.2).1),.bool (iB a.1 a.2).2]) (fun _=>[])
theorem PJ:Has Tryz.prog 122 uR:=by
 refine ah mixed aw (HasL.cons nP (HasL.cons me (HasL.cons AZ HasL.nil))) [0,1,3,4,5,6] ((fun a n (_:Nat)=>(fun _=>az) a n)) [] Tryz.func122 (by unfold Tryz.f122; rfl) (fun _=>⟨(),trivial⟩) ?_
 intro a ha;obtain ⟨t,f⟩:=a;obtain ⟨⟨q1,q2⟩,q3⟩:(t.length<=1048575 /\ ∀ f ∈ t,f.text.length<=1048576)/\f.text.length<=1048576:=ha;simp -implicitDefEqProofs [uR,Con.fn,ag,kC,jH,pJ,iB]
 try dsimp only
 try simp +contextual -implicitDefEqProofs [ar,aq,bR,bm,bS,List.getElem?_eq_getElem,bW,bp,bK,bU,<- br,<- bN,bn,bw,bV,bT,bu,bJ,and_assoc]
 repeat' (first | intro _ | apply And.intro)
 all_goals first | omega | grind [cn,iB]

def lL:Con:=.fn 11 (RepoD × Int) (fun a=>[aM a.1,.int .i64 a.2]) (fun a=>a.1.commits.length<=1073741824) (fun a=>.bool (decide (0<=a.2) && decide (a.2<=(a.1.commits.length:Int) - 1))) (fun _=>[])
theorem qi:Has Tryz.prog 103 lL:=by
 refine ah mixed aw (HasL.cons oL HasL.nil) [0,1,2,4] ((fun a n (_:Nat)=>(fun _=>az) a n)) [] Tryz.func103 (by unfold Tryz.f103; rfl) (fun _=>⟨(),trivial⟩) ?_
 intro a ha;obtain ⟨r,n⟩:=a;replace ha:r.commits.length<=1073741824:=ha;simp -implicitDefEqProofs [lL,Con.fn,ag,kI]
 try dsimp only
 try simp +contextual -implicitDefEqProofs [ar,aq,bR,bm,bS,List.getElem?_eq_getElem,bW,bp,bK,bU,<- br,<- bN,bn,bw,bV,bT,bu,bJ,and_assoc]
 repeat' (first | intro _ | apply And.intro)
 all_goals first | omega | grind [cn]
def inN (n:Nat) (a:Int):Bool:=decide (0<=a) && decide (a<=(n:Int) - 1)
def dM (n:Nat) (h:List HeadD) (i:Nat):Bool:=aQ (h.getD i default).name && inN n (h.getD i default).at_ && (decide (i=0) || Go.Op.bytesLess (h.getD (i - 1) default).name (h.getD i default).name)
def dn (n:Nat) (h:List HeadD):Bool:=decide (h.length<=5) && (List.range h.length).all (dM n h)
theorem eY (n:Nat) (h:List HeadD):dn n h=true ↔ h.length<=5 /\ ∀ i,i < h.length->dM n h i=true:=by simp -implicitDefEqProofs [dn]
theorem z8 {n:Nat} {h:List HeadD} {i:Nat} (hi:i < h.length) (hb:dM n h i=false):dn n h=false:=by
 cases hq:dn n h with
 | false=>rfl
 | true=>have:=((eY n h).1 hq).2 i hi; simp -implicitDefEqProofs [hb] at this
def s8:Con:=.fn 44 (RepoD × List HeadD) (fun a=>[aM a.1,.sl true 2 (al a.2)]) (fun a=>a.1.commits.length<=1073741824) (fun a=>.bool (dn a.1.commits.length a.2)) (fun _=>[])
theorem HX:Has Tryz.prog 64 s8:=by
 refine ah mixed aw (HasL.cons mo (HasL.cons qi HasL.nil)) [0,1,2,4,5,6,10,11,12] ((fun a n (_:Nat)=>(fun a _=>⟨Nat,fun i=>⟨[(1,true,.sl true 2 (al a.2)),(2,true,.ptr 10 0),(4,true,.bool false),(10,true,.sl true 2 (al a.2)),(11,true,.int .i64 a.2.length),(12,true,.int .i64 i)],[(10,.box 35 [.sl true 3 (aD a.1.commits),.sl true 2 (al a.1.heads)])]⟩,fun i=>i<=a.2.length/\a.2.length<=5 /\ ∀ j,j < i->dM a.1.commits.length a.2 j=true,fun i=>a.2.length - i⟩) a n)) [] Tryz.func64 (by unfold Tryz.f64; rfl) (fun _=>⟨(),trivial⟩) ?_
 intro a ha;obtain ⟨r,t⟩:=a;replace ha:r.commits.length<=1073741824:=ha;have hB:5 < t.length->dn r.commits.length t=false:=fun h=>by
  cases hq:dn r.commits.length t with
  | false=>rfl
  | true=>have:=((eY _ _).1 hq).1; omega
 have hN:=fun i=>@z8 r.commits.length t i;have hE:=(eY r.commits.length t).2;have hg:∀ i (h:i < t.length),t.getD i default=t[i]:=fun i h=>by simp -implicitDefEqProofs [List.getD_eq_getElem?_getD,h]
 have hgg:∀ i (h:i < t.length),t[i]?.getD default=t[i]:=fun i h=>by simp -implicitDefEqProofs [h]
 have e1:∀ k (h:k < t.length),Option.map bc t[k]? = some (bc t[k]):=fun k h=>by simp -implicitDefEqProofs [List.getElem?_eq_getElem h]
 simp -implicitDefEqProofs [s8,Con.fn,ag,jJ,lL]
 try dsimp only
 refine fun _=>⟨fun h=>hB (by omega),fun h5 _=>⟨by omega,fun i hi _ hprev=>⟨fun hlt=>?_,fun hge=>hE ⟨by omega,fun j hj=>hprev j (by omega)⟩⟩⟩⟩
 have e3:=e1 i hlt;have e4:=e1 (i - 1) (by omega)
 have hh:dM r.commits.length t i=(aQ t[i].name && inN r.commits.length t[i].at_ && (decide (i=0) || Go.Op.bytesLess (t[i - 1]'(by omega)).name t[i].name)):=by
  unfold dM;rw [hg i hlt,hg (i - 1) (by omega)]
 have hn:=hN i hlt;rw [hh] at hn;unfold inN at hn hh;simp -implicitDefEqProofs [hlt,e3,e4,bc,D.asStr,D.asInt,bm,and_assoc]
 try simp +contextual -implicitDefEqProofs [ar,aq,bR,bm,bS,List.getElem?_eq_getElem,bW,bp,bK,bU,<- br,<- bN,bn,bw,bV,bT,bu,bJ,and_assoc,hlt]
 clear e1 hg hgg hN hE hB
 repeat' (first | intro _ | apply And.intro)
 all_goals first | omega | grind -ring
def fI (cs:List CommitD) (i:Nat):Bool :=
 decide ((cs.getD i default).parents.length<=2) && !(decide ((cs.getD i default).parents.length=2) && decide ((cs.getD i default).parents.getD 0 0=(cs.getD i default).parents.getD 1 0)) && aQ (cs.getD i default).who && aC (cs.getD i default).tree
def eN (cs:List CommitD) (i:Nat):Bool:=fI cs i && (List.range (cs.getD i default).parents.length).all fun k=>inN i ((cs.getD i default).parents.getD k 0)
def aF (r:RepoD):Bool:=decide (r.commits.length<=16) && (List.range r.commits.length).all (eN r.commits) && dn r.commits.length r.heads
def dQ (r:RepoD):Prop:=r.commits.length<=1073741824 /\ ∀ c ∈ r.commits,∀ f ∈ c.tree,f.path.length<=536870912
def bG (r:RepoD):Blk:=.box 35 [.sl true 3 (aD r.commits),.sl true 2 (al r.heads)]
theorem aN (r:RepoD):bG r = .box 35 [.sl true 3 (aD r.commits),.sl true 2 (al r.heads)]:=rfl
def riO (r:RepoD):Inv:=⟨Nat,fun i=>⟨[(1,true,.ptr 10 0),(2,true,.bool false),(12,true,.sl true 3 (aD r.commits)),(13,true,.int .i64 r.commits.length),(14,true,.int .i64 i)],[(10,bG r)]⟩,fun i=>i<=r.commits.length/\r.commits.length<=16 /\ ∀ j,j < i->eN r.commits j=true,fun i=>r.commits.length - i⟩
def riI (r:RepoD) (g:Nat):Inv:=⟨Nat,fun k=>⟨[(1,true,.ptr 10 0),(2,true,.bool false),(3,true,.int .i64 g),(12,true,.sl true 3 (aD r.commits)),(13,true,.int .i64 r.commits.length),(14,true,.int .i64 g),(53,true,.sl true 1 (ae (r.commits.getD g default).parents)),(54,true,.int .i64 (r.commits.getD g default).parents.length),(55,true,.int .i64 k)],[(10,bG r)]⟩,
 fun k=>g < r.commits.length/\k<=(r.commits.getD g default).parents.length/\r.commits.length<=16/\(∀ j,j < g->eN r.commits j=true)/\fI r.commits g=true /\ ∀ j,j < k->inN g ((r.commits.getD g default).parents.getD j 0)=true,fun k=>(r.commits.getD g default).parents.length - k⟩
def xt (r:RepoD) (n g:Nat):Inv:=if n=4 then riO r else riI r g
theorem N8 (r:RepoD) (g:Nat):xt r 4 g=riO r:=rfl
theorem N9 (r:RepoD) (g:Nat):xt r 9 g=riI r g:=rfl
theorem mE (r:RepoD):aF r=true ↔ r.commits.length<=16/\(∀ i,i < r.commits.length->eN r.commits i=true)/\dn r.commits.length r.heads=true:=by simp -implicitDefEqProofs [aF,and_assoc]
theorem NX {r:RepoD} {i:Nat} (hi:i < r.commits.length) (hb:eN r.commits i=false):aF r=false:=by
 cases hq:aF r with
 | false=>rfl
 | true=>have:=((mE r).1 hq).2.1 i hi; simp -implicitDefEqProofs [hb] at this
theorem NW {r:RepoD} (h:16 < r.commits.length):aF r=false:=by
 cases hq:aF r with
 | false=>rfl
 | true=>have:=((mE r).1 hq).1; omega
theorem LN {cs:List CommitD} {i:Nat} (h:fI cs i=false):eN cs i=false:=by unfold eN; rw [h]; rfl
theorem LO {cs:List CommitD} {i k:Nat} (hk:k < (cs.getD i default).parents.length) (h:inN i ((cs.getD i default).parents.getD k 0)=false):eN cs i=false:=by
 unfold eN;have:(List.range (cs.getD i default).parents.length).all (fun k=>inN i ((cs.getD i default).parents.getD k 0))=false:=by
  rw [List.all_eq_false];exact ⟨k,List.mem_range.2 hk,by simpa using h⟩
 rw [this,Bool.and_false]
theorem LP {cs:List CommitD} {i:Nat} (h:fI cs i=true) (h2:∀ k,k < (cs.getD i default).parents.length->inN i ((cs.getD i default).parents.getD k 0)=true):eN cs i=true:=by
 unfold eN;rw [h,Bool.true_and,List.all_eq_true];intro k hk;exact h2 k (by simpa using hk)
def ja:Con:=.fn 70 RepoD (fun r=>[aM r]) dQ (fun r=>.bool (aF r)) (fun _=>[])
theorem lf:Has Tryz.prog 24 ja:=by
 refine ah mixed aw (HasL.cons mo (HasL.cons lr (HasL.cons oL (HasL.cons HX HasL.nil)))) [0,1,2,3,4,6,12,13,14,53,54,55] (fun r=>xt r) [] Tryz.func24 (by unfold Tryz.f24; rfl) (fun _=>⟨(),trivial⟩) ?_
 intro (r:RepoD) hr;obtain ⟨hr1,hr2⟩:r.commits.length<=1073741824 /\ ∀ c ∈ r.commits,∀ f ∈ c.tree,f.path.length<=536870912:=hr;have hp:∀ i (h:i < r.commits.length),∀ f ∈ r.commits[i].tree,f.path.length<=536870912:=fun i h=>hr2 _ (List.getElem_mem h);have hB:=@NW r;have hN:=fun i=>@NX r i;have hN1:=fun i=>@LN r.commits i;have hN2:=fun i k=>@LO r.commits i k;have hY:=fun i=>@LP r.commits i;simp -implicitDefEqProofs [ja,Con.fn,ag,jJ,jb,kI,s8,N8,N9,riO,riI,aN]
 try dsimp only
 refine fun _=>⟨fun h=>hB (by omega),fun h16 _=>⟨by omega,fun i hi _ hprev=>⟨fun hlt=>?_,fun hge=>?_⟩⟩⟩
 ·have e3:Option.map bI r.commits[i]? = some (bI r.commits[i]):=by simp -implicitDefEqProofs [List.getElem?_eq_getElem hlt]
  have hgc:r.commits.getD i default=r.commits[i]:=by simp -implicitDefEqProofs [List.getD_eq_getElem?_getD,hlt]
  have hpc:=hp i hlt;have n0:=hN i hlt;have n1:=hN1 i;have n2:=hN2 i;have n3:=hY i;have o1:fI r.commits i=(decide (r.commits[i].parents.length<=2) && !(decide (r.commits[i].parents.length=2) && decide (r.commits[i].parents.getD 0 0=r.commits[i].parents.getD 1 0)) && aQ r.commits[i].who && aC r.commits[i].tree):=by unfold fI; rw [hgc]
  rw [hgc] at n2 n3;simp -implicitDefEqProofs [hlt,e3,bI,D.asStr,D.asRows,bm,and_assoc]
  try simp only [show r.commits[i]?.getD default=r.commits[i] by simp -implicitDefEqProofs [hlt]]
  generalize r.commits[i]=c at hpc n2 n3 o1 ⊢;have hq:∀ k (h:k < c.parents.length),inN i (c.parents[k]?.getD 0)=(decide (0<=c.parents[k]) && decide (c.parents[k]<=(i:Int) - 1)):=fun k h=>by simp -implicitDefEqProofs [inN,h]
  have n4:∀ k (h:k < c.parents.length),(decide (0<=c.parents[k]) && decide (c.parents[k]<=(i:Int) - 1))=false->aF r=false:=fun k h hb=>n0 (n2 k h (by rw [List.getD_eq_getElem?_getD,hq k h]; exact hb))
  have n5:fI r.commits i=false->aF r=false:=fun h=>n0 (n1 h);have n6:fI r.commits i=true->(∀ j,j < c.parents.length->inN i (c.parents[j]?.getD 0)=true) -> ∀ j,j < i+1->eN r.commits j=true:=fun h1 h2 j hj=>by
   rcases Nat.lt_or_ge j i with h3 | h3
   ·exact hprev j h3
   ·have:j=i:=by omega
    subst this;exact n3 h1 (fun k hk=>by rw [List.getD_eq_getElem?_getD]; exact h2 k hk)
  clear n3 n2 n1 n0 hN hN1 hN2 hY hp hr2 hB hgc e3;have o2:∀ (h:c.parents.length=2),fI r.commits i=(!(decide (c.parents[0]=c.parents[1])) && aQ c.who && aC c.tree):=fun h=>by rw [o1]; simp -implicitDefEqProofs [h]
  have o3:c.parents.length<=2 -> ¬ c.parents.length=2->fI r.commits i=(aQ c.who && aC c.tree):=fun h h'=>by rw [o1]; simp -implicitDefEqProofs [h,h']
  have o4:2 < c.parents.length->fI r.commits i=false:=fun h=>by rw [o1]; simp -implicitDefEqProofs [show ¬ c.parents.length<=2 by omega]
  clear o1;refine ⟨fun h=>n5 (o4 (by omega)),fun hl2=>⟨fun h2=>?_,fun h2=>?_⟩⟩
  ·have q0:Option.map ap c.parents[0]? = some (ap c.parents[0]):=by simp -implicitDefEqProofs [List.getElem?_eq_getElem (show 0 < c.parents.length by omega)]
   have q1:Option.map ap c.parents[1]? = some (ap c.parents[1]):=by simp -implicitDefEqProofs [List.getElem?_eq_getElem (show 1 < c.parents.length by omega)]
   have o5:=o2 (by omega)
   simp -implicitDefEqProofs [q0,q1,ap];refine ⟨by omega,fun _=>⟨by omega,fun _=>⟨fun he=>n5 (by rw [o5]; simp -implicitDefEqProofs [he]),fun he=>⟨fun hn=>n5 (by rw [o5]; simp -implicitDefEqProofs [hn]),fun hn=>⟨hpc,fun ht=>n5 (by rw [o5]; simp -implicitDefEqProofs [ht]),fun ht _=>⟨by omega,hprev,by rw [o5]; simp -implicitDefEqProofs [he,hn,ht],fun t ht1 _ _ hok hinv=>?_⟩⟩⟩⟩⟩⟩
   clear o2 o3 o4 o5 n5;refine ⟨fun hlt2=>?_,fun hge2=>?_⟩
   ·have qt:Option.map ap c.parents[t]? = some (ap c.parents[t]):=by simp -implicitDefEqProofs [List.getElem?_eq_getElem hlt2]
    have n7:=n4 t hlt2;have q7:=hq t hlt2;simp -implicitDefEqProofs [qt,ap,hlt2];have n8:0<=c.parents[t]->c.parents[t]<=(i:Int) - 1 -> ∀ j,j < t+1->inN i (c.parents[j]?.getD 0)=true:=fun g1 g2 j hj=>by
     rcases Nat.lt_or_ge j t with h3 | h3
     ·exact hinv j h3
     ·have:j=t:=by omega
      subst this;rw [q7];simp -implicitDefEqProofs [g1,g2]
    refine ⟨by omega,by omega,fun _ _=>⟨fun h=>n7 (by simp; omega),fun g1 g2=>⟨by omega,by omega,fun _ _=>⟨t+1,rfl,by omega,by omega,hprev,hok,n8 g1 g2,by omega⟩⟩⟩⟩
   ·have n7:=n6 hok (fun j hj=>hinv j (by omega))
    exact ⟨by omega,by omega,fun _ _=>⟨i+1,rfl,by omega,by omega,n7,by omega⟩⟩
  ·have o5:=o3 (by omega) (by omega)
   refine ⟨fun hn=>n5 (by rw [o5]; simp -implicitDefEqProofs [hn]),fun hn=>⟨hpc,fun ht=>n5 (by rw [o5]; simp -implicitDefEqProofs [ht]),fun ht _=>⟨by omega,hprev,by rw [o5]; simp -implicitDefEqProofs [hn,ht],fun t ht1 _ _ hok hinv=>?_⟩⟩⟩
   clear o2 o3 o4 o5 n5;refine ⟨fun hlt2=>?_,fun hge2=>?_⟩
   ·have qt:Option.map ap c.parents[t]? = some (ap c.parents[t]):=by simp -implicitDefEqProofs [List.getElem?_eq_getElem hlt2]
    have n7:=n4 t hlt2;have q7:=hq t hlt2;simp -implicitDefEqProofs [qt,ap,hlt2];have n8:0<=c.parents[t]->c.parents[t]<=(i:Int) - 1 -> ∀ j,j < t+1->inN i (c.parents[j]?.getD 0)=true:=fun g1 g2 j hj=>by
     rcases Nat.lt_or_ge j t with h3 | h3
     ·exact hinv j h3
     ·have:j=t:=by omega
      subst this;rw [q7];simp -implicitDefEqProofs [g1,g2]
    refine ⟨by omega,by omega,fun _ _=>⟨fun h=>n7 (by simp; omega),fun g1 g2=>⟨by omega,by omega,fun _ _=>⟨t+1,rfl,by omega,by omega,hprev,hok,n8 g1 g2,by omega⟩⟩⟩⟩
   ·have n7:=n6 hok (fun j hj=>hinv j (by omega))
    exact ⟨by omega,by omega,fun _ _=>⟨i+1,rfl,by omega,by omega,n7,by omega⟩⟩
 ·refine ⟨r,r.heads,⟨⟨rfl,rfl⟩,rfl⟩,hr1,?_⟩;rw [Bool.eq_iff_iff,mE];exact ⟨fun h=>h.2.2,fun h=>⟨by omega,fun j hj=>hprev j (by omega),h⟩⟩
def fM (i:Nat) (ps:List Int) (k:Nat):Bool:=inN i (ps.getD k 0) && !(decide (0 < k) && decide (ps.getD k 0=ps.getD 0 0))
def fJ (c:CommitD):Bool:=decide (c.parents.length<=2) && aQ c.who && aR c.tree
def dG (cs:List CommitD) (i:Nat):Bool:=(List.range (cs.getD i default).parents.length).all (fM i (cs.getD i default).parents) && fJ (cs.getD i default)
def an (r:RepoD):Bool:=(List.range r.commits.length).all (dG r.commits) && dn r.commits.length r.heads && decide (r.commits.length<=16)
theorem be (r:RepoD):an r=true ↔ (∀ i,i < r.commits.length->dG r.commits i=true)/\dn r.commits.length r.heads=true/\r.commits.length<=16:=by simp -implicitDefEqProofs [an,and_assoc]
theorem NZ {r:RepoD} {i:Nat} (hi:i < r.commits.length) (hb:dG r.commits i=false):an r=false:=by
 cases hq:an r with
 | false=>rfl
 | true=>have:=((be r).1 hq).1 i hi; simp -implicitDefEqProofs [hb] at this
theorem N0 {r:RepoD} (hb:dn r.commits.length r.heads=false):an r=false:=by unfold an; rw [hb]; simp
theorem LQ {cs:List CommitD} {i:Nat} (h:fJ (cs.getD i default)=false):dG cs i=false:=by unfold dG; rw [h,Bool.and_false]
theorem LR {cs:List CommitD} {i k:Nat} (hk:k < (cs.getD i default).parents.length) (h:fM i (cs.getD i default).parents k=false):dG cs i=false:=by
 unfold dG;have:(List.range (cs.getD i default).parents.length).all (fM i (cs.getD i default).parents)=false:=by
  rw [List.all_eq_false];exact ⟨k,List.mem_range.2 hk,by simpa using h⟩
 rw [this,Bool.false_and]
theorem LS {cs:List CommitD} {i:Nat} (h:fJ (cs.getD i default)=true) (h2:∀ k,k < (cs.getD i default).parents.length->fM i (cs.getD i default).parents k=true):dG cs i=true:=by
 unfold dG;rw [h,Bool.and_true,List.all_eq_true];intro k hk;exact h2 k (by simpa using hk)
theorem b9 (r:RepoD):aF r=an r:=by
 have h:∀ i,eN r.commits i=dG r.commits i:=by
  intro i;unfold eN dG fI fJ;generalize r.commits.getD i default=c;rw [eI];rw [Bool.eq_iff_iff];simp only [Bool.and_eq_true,List.all_eq_true,List.mem_range,decide_eq_true_eq,fM,Bool.not_eq_true',Bool.and_eq_false_iff,decide_eq_false_iff_not];constructor
  ·rintro ⟨⟨⟨⟨h1,h2⟩,h3⟩,h4⟩,h5⟩;refine ⟨fun k hk=>⟨h5 k hk,?_⟩,⟨h1,h3⟩,h4⟩;by_cases h0:k=0
   ·exact .inl (by omega)
   ·right
    have:k=1:=by omega
    subst this;rcases h2 with h2 | h2
    ·omega
    ·exact fun e=>h2 e.symm
  ·rintro ⟨h1,⟨h2,h3⟩,h4⟩;refine ⟨⟨⟨⟨h2,?_⟩,h3⟩,h4⟩,fun k hk=>(h1 k hk).1⟩;by_cases h0:c.parents.length=2
   ·right
    rcases (h1 1 (by omega)).2 with h5 | h5
    ·omega
    ·exact fun e=>h5 e.symm
   ·exact .inl h0
 rw [Bool.eq_iff_iff,mE,be];simp only [h];exact ⟨fun ⟨a,b,c⟩=>⟨b,c,a⟩,fun ⟨b,c,a⟩=>⟨a,b,c⟩⟩
def nf:Con:=.fn 26 (List Str × List Str) (fun a=>[.sl true 1 (aa a.1),.sl true 1 (aa a.2)]) (fun _=>True) (fun a=>.bool (decide (a.1=a.2))) (fun _=>[])
theorem wn:Has Tryz.prog 222 nf:=by
 refine ah mixed aw HasL.nil [0,1,4,5] ((fun a n (_:Nat)=>(fun a _=>⟨Nat,fun i=>⟨[(0,true,.sl true 1 (aa a.1)),(1,true,.sl true 1 (aa a.2)),(4,true,.bool false),(5,true,.int .i64 i)],[]⟩,fun i=>i<=a.1.length/\a.1.length=a.2.length/\a.1.take i=a.2.take i,fun i=>a.1.length - i⟩) a n)) [] Tryz.func222 (by unfold Tryz.f222; rfl) (fun _=>⟨(),trivial⟩) ?_
 intro a _;obtain ⟨l,r⟩:=a;simp -implicitDefEqProofs [nf,Con.fn,ag]
 try dsimp only
 try simp +contextual -implicitDefEqProofs [ar,aq,bR,bm,bS,List.getElem?_eq_getElem,bW,bp,bK,bU,<- br,<- bN,bn,bw,bV,bT,bu,bJ,and_assoc]
 repeat' (first | intro _ | apply And.intro)
 all_goals first | omega | grind [cn,nD,lY]
def au:List FileD->Str->List Str × Bool
 | [],_=>([],false)
 | f :: l,p=>if f.path=p then (f.text,true) else au l p
def lN:Con:=.fn 25 (List FileD × Str) (fun a=>[.sl true 2 (ac a.1),.str a.2]) (fun _=>True) (fun a=>.tup [.sl true 1 (aa (au a.1 a.2).1),.bool (au a.1 a.2).2]) (fun _=>[])
theorem wt:Has Tryz.prog 133 lN:=by
 refine ah mixed aw HasL.nil [0,1,4,5,6] ((fun a n (_:Nat)=>(fun a _=>⟨Nat,fun i=>⟨[(0,true,.sl true 2 (ac a.1)),(1,true,.str a.2),(4,true,.nil),(5,true,.bool false),(6,true,.int .i64 i)],[]⟩,fun i=>i<=a.1.length/\au (a.1.drop i) a.2=au a.1 a.2,fun i=>a.1.length - i⟩) a n)) [] Tryz.func133 (by unfold Tryz.f133; rfl) (fun _=>⟨(),trivial⟩) ?_
 intro a _;obtain ⟨t,p⟩:=a;have e1:∀ i (h:i < t.length),au (t.drop i) p=if t[i].path=p then (t[i].text,true) else au (t.drop (i+1)) p:=fun i h=>by rw [List.drop_eq_getElem_cons h]; rfl
 have e2:∀ i,t.length<=i->au (t.drop i) p=([],false):=fun i h=>by rw [List.drop_eq_nil_of_le h]; rfl
 simp -implicitDefEqProofs [lN,Con.fn,ag]
 try dsimp only
 refine fun i hi hpre _=>⟨fun hlt=>?_,fun hge=>?_⟩
 ·have g:=e1 i hlt;rw [hpre] at g;simp -implicitDefEqProofs [hlt,aq,D.asStr,D.asRows,and_assoc];refine ⟨fun h=>?_,fun h=>⟨by omega,by omega,fun _ _=>⟨i+1,by omega,by omega,?_,by omega⟩⟩⟩
  ·rw [g,if_pos h]; exact ⟨rfl,rfl⟩
  ·rw [g,if_neg h]
 ·rw [<- hpre,e2 i hge]; exact ⟨rfl,rfl⟩
def atL:List HeadD->Str->Int
 | [],_=>-1
 | h :: l,n=>if h.name=n then h.at_ else atL l n
def gm:Con:=.fn 27 (RepoD × Str) (fun a=>[aM a.1,.str a.2]) (fun _=>True) (fun a=>.int .i64 (atL a.1.heads a.2)) (fun _=>[])
theorem jk:Has Tryz.prog 54 gm:=by
 refine ah mixed aw HasL.nil [0,1,2,4,5] ((fun a n (_:Nat)=>(fun a _=>⟨Nat,fun i=>⟨[(1,true,.str a.2),(2,true,.ptr 10 0),(4,true,.int .i64 0),(5,true,.int .i64 i)],[(10,bG a.1)]⟩,fun i=>i<=a.1.heads.length/\atL (a.1.heads.drop i) a.2=atL a.1.heads a.2,fun i=>a.1.heads.length - i⟩) a n)) [] Tryz.func54 (by unfold Tryz.f54; rfl) (fun _=>⟨(),trivial⟩) ?_
 intro a _;obtain ⟨r,p⟩:=a;have e1:∀ i (h:i < r.heads.length),atL (r.heads.drop i) p=if r.heads[i].name=p then r.heads[i].at_ else atL (r.heads.drop (i+1)) p:=fun i h=>by rw [List.drop_eq_getElem_cons h]; rfl
 have e2:∀ i,r.heads.length<=i->atL (r.heads.drop i) p = -1:=fun i h=>by rw [List.drop_eq_nil_of_le h]; rfl
 simp -implicitDefEqProofs [gm,Con.fn,ag,aN]
 try dsimp only
 refine fun i hi hpre _=>⟨fun hlt=>?_,fun hge=>by rw [<- hpre,e2 i hge]⟩
 have g:=e1 i hlt;rw [hpre] at g;simp -implicitDefEqProofs [hlt,bc,D.asStr,D.asInt,and_assoc];refine ⟨fun h=>?_,fun h=>⟨by omega,by omega,fun _ _=>⟨i+1,by omega,by omega,?_,by omega⟩⟩⟩
 ·rw [g,if_pos h]
 ·rw [g,if_neg h]
def bH (p:Str) (f:FileD):Bool:=decide (f.path ≠ p) && !inB p f.path
def pI:Con:=.fn 39 (List FileD × Str) (fun a=>[.sl true 2 (ac a.1),.str a.2]) (fun a=>a.1.length<=1048576) (fun a=>.sl false 2 (ac (aE (bH a.2) a.1))) (fun _=>[])
theorem AY:Has Tryz.prog 183 pI:=by
 refine ah mixed aw (HasL.cons qN HasL.nil) [0,1,4,5,6] ((fun a n (_:Nat)=>(fun a _=>⟨Nat,fun i=>⟨[(0,true,.sl true 2 (ac a.1)),(1,true,.str a.2),(4,true,.nil),(5,true,.own 9 2 (ac (aE (bH a.2) (a.1.take i)))),(6,true,.int .i64 i)],[(9,.own 119 2 false (ac (aE (bH a.2) (a.1.take i))))]⟩,fun i=>i<=a.1.length,fun i=>a.1.length - i⟩) a n)) [36] Tryz.func183 (by unfold Tryz.f183; rfl) (fun _=>⟨(),trivial⟩) ?_
 intro a ha;obtain ⟨t,p⟩:=a;replace ha:t.length<=1048576:=ha;have e1:=fun i h=>@nE (bH p) t i h;have e2:=fun i h=>@nF (bH p) t i h;simp -implicitDefEqProofs [pI,lP,Con.fn,ag]
 try dsimp only
 refine ⟨⟨0,by simp -implicitDefEqProofs [aE]⟩,fun i hi _=>⟨fun hlt=>?_,fun hge=>?_⟩⟩
 ·have g1:=e1 i hlt;have g2:=e2 i hlt;have hl:(aE (bH p) (t.take i)).length<=1048576:=by have:=List.length_filter_le (bH p) (t.take i); unfold aE; simp at this ⊢; omega
  simp -implicitDefEqProofs [hlt,aq,D.asStr,D.asRows,and_assoc];refine ⟨fun h=>⟨fun hi2=>⟨by omega,by omega,by omega,by omega,fun _ _=>⟨i+1,?_,by omega,?_,by omega,by omega⟩⟩,fun hi2=>⟨by omega,by omega,fun _ _=>⟨i+1,?_,by omega,?_,by omega,by omega⟩⟩⟩,fun h=>⟨by omega,by omega,fun _ _=>⟨i+1,?_,by omega,?_,by omega,by omega⟩⟩⟩
  ·rw [g1 (by simp -implicitDefEqProofs [bH,h,hi2])]; simp -implicitDefEqProofs [ac,aq]
  ·rw [g1 (by simp -implicitDefEqProofs [bH,h,hi2])]; simp -implicitDefEqProofs [ac,aq]
  ·rw [g2 (by simp -implicitDefEqProofs [bH,h,hi2])]
  ·rw [g2 (by simp -implicitDefEqProofs [bH,h,hi2])]
  ·rw [g2 (by simp -implicitDefEqProofs [bH,h])]
  ·rw [g2 (by simp -implicitDefEqProofs [bH,h])]
 ·rw [List.take_of_length_le hge]
def lcs:List Str->List Str->Int
 | [],_=>0
 | _ :: _,[]=>0
 | x :: a,y :: b=>if x=y then lcs a b+1 else if lcs (x :: a) b<=lcs a (y :: b) then lcs a (y :: b) else lcs (x :: a) b
termination_by a b=>a.length+b.length
def iK (r:List Int):List D:=[.sl 3 1 (ae r)]
def bh (t:List (List Int)):List (List D):=t.map iK
@[simp] theorem eRows_length (l:List (List Int)):(bh l).length=l.length:=by simp -implicitDefEqProofs [bh]
@[simp] theorem eRows_nil:bh []=[]:=rfl
@[simp] theorem eRows_get (l:List (List Int)) (i:Nat):(bh l)[i]? = l[i]?.map iK:=by simp -implicitDefEqProofs [bh]
def aS (a b:List Str) (p q:Nat):List (List Int):=(List.range (a.length+1)).map fun r=>(List.range (b.length+1)).map fun c=>if p<=r \/ (r+1=p/\q<=c) then lcs (a.drop r) (b.drop c) else 0
theorem C3 (i n:Nat):bh (List.replicate (i+1) (List.replicate (n+1) 0))=bh (List.replicate i (List.replicate (n+1) 0))++[[D.sl 3 1 (List.replicate (n+1) [D.int .i64 0])]]:=by
 rw [List.replicate_succ'];simp -implicitDefEqProofs [bh,iK,ae,ap]
theorem rN {a b:List Str} {p q:Nat}:(aS a b p q).length=a.length+1:=by simp -implicitDefEqProofs [aS]
def cR (a b:List Str) (p q r:Nat):List Int:=(List.range (b.length+1)).map fun c=>if p<=r \/ (r+1=p/\q<=c) then lcs (a.drop r) (b.drop c) else 0
theorem kf {a b:List Str} {p q r:Nat} (h:r<=a.length):(aS a b p q)[r]? = some (cR a b p q r):=by simp -implicitDefEqProofs [aS,cR,List.getElem?_map,List.getElem?_range (show r < a.length+1 by omega)]
theorem KA (b:List Str):lcs [] b=0:=by rw [lcs]
theorem KB (a:List Str):lcs a []=0:=by cases a <;> rw [lcs]
theorem rM {a b:List Str} {i:Nat} (h:a.length+1=i):aS a b a.length (b.length+1)=List.replicate i (List.replicate (b.length+1) 0):=by
 subst h;apply List.ext_getElem
 ·simp -implicitDefEqProofs [aS]
 ·intro r h1 h2;apply List.ext_getElem
  ·simp -implicitDefEqProofs [aS]
  ·intro c h3 h4;simp only [aS,List.getElem_map,List.getElem_range,List.getElem_replicate];split
   ·rename_i h5;have h6:a.drop r=[]:=by
     rcases h5 with h5 | ⟨_,h5⟩
     ·exact List.drop_eq_nil_of_le h5
     ·simp -implicitDefEqProofs [aS] at h3; omega
    rw [h6,KA]
   ·rfl
theorem rL {a b:List Str} {p:Nat}:aS a b p b.length=aS a b p (b.length+1):=by
 unfold aS;apply List.map_congr_left;intro r _;apply List.map_congr_left;intro c hc;have hc:c < b.length+1:=by simpa using hc
 by_cases h:p<=r
 ·rw [if_pos (.inl h),if_pos (.inl h)]
 ·by_cases h2:r+1=p/\b.length<=c
  ·rw [if_pos (.inr h2),if_neg (by omega),List.drop_eq_nil_of_le h2.2,KB]
  ·rw [if_neg (by omega),if_neg (by omega)]
theorem rO {a b:List Str} {p:Nat} (h:0 < p):aS a b (p - 1) (b.length+1)=aS a b p 0:=by
 unfold aS;apply List.map_congr_left;intro r _;apply List.map_congr_left;intro c hc;have hc:c < b.length+1:=by simpa using hc
 by_cases h2:p<=r+1
 ·rw [if_pos (.inl (by omega)),if_pos (by omega)]
 ·rw [if_neg (by omega),if_neg (by omega)]
theorem DE {a b:List Str} {q:Nat}:aS a b 0 q=aS a b 0 0:=by
 unfold aS;apply List.map_congr_left;intro r _;apply List.map_congr_left;intro c _;rw [if_pos (.inl (Nat.zero_le _)),if_pos (.inl (Nat.zero_le _))]
theorem ke {a b:List Str} {p q r:Nat}:(cR a b p q r).length=b.length+1:=by simp -implicitDefEqProofs [cR]
theorem iZ {a b:List Str} {p q r c:Nat} (h:c<=b.length):(cR a b p q r)[c]? = some (if p<=r \/ (r+1=p/\q<=c) then lcs (a.drop r) (b.drop c) else 0):=by simp -implicitDefEqProofs [cR,List.getElem?_map,List.getElem?_range (show c < b.length+1 by omega)]
theorem mg (a b:List Str):0<=lcs a b/\lcs a b<=a.length:=by
 fun_induction lcs a b
 ·simp
 ·simp; omega
 ·simp_all; omega
 ·simp_all; omega
 ·simp_all
theorem A7 {a b:List Str} {p q:Nat} (hp:0 < p) (hp2:p<=a.length) (hq:0 < q) (hq2:q<=b.length):lcs (a.drop (p - 1)) (b.drop (q - 1))=if a[p - 1]=b[q - 1] then lcs (a.drop p) (b.drop q)+1 else if lcs (a.drop (p - 1)) (b.drop q)<=lcs (a.drop p) (b.drop (q - 1)) then lcs (a.drop p) (b.drop (q - 1)) else lcs (a.drop (p - 1)) (b.drop q):=by
 have e1:a.drop (p - 1)=a[p - 1] :: a.drop p:=by rw [List.drop_eq_getElem_cons (show p - 1 < a.length by omega),show p - 1+1=p by omega]
 have e2:b.drop (q - 1)=b[q - 1] :: b.drop q:=by rw [List.drop_eq_getElem_cons (show q - 1 < b.length by omega),show q - 1+1=q by omega]
 rw [e1,e2,lcs]
theorem DD {a b:List Str} {p q:Nat} (hp:0 < p) (hp2:p<=a.length) (hq:0 < q) (hq2:q<=b.length):∀ v,v=lcs (a.drop (p - 1)) (b.drop (q - 1))->(bh (aS a b p q)).set (p - 1) [D.sl 3 1 ((ae (cR a b p q (p - 1))).set (q - 1) [D.int .i64 v])]=bh (aS a b p (q - 1)):=by
 intro v hv;have e:(aS a b p q).set (p - 1) ((cR a b p q (p - 1)).set (q - 1) v)=aS a b p (q - 1):=by
  apply List.ext_getElem
  ·simp -implicitDefEqProofs [aS]
  ·intro r h1 h2;rw [List.getElem_set];split
   ·rename_i hr;subst hr;apply List.ext_getElem
    ·simp -implicitDefEqProofs [aS,cR]
    ·intro c h3 h4;rw [List.getElem_set];split
     ·rename_i hc;subst hc;simp only [aS,List.getElem_map,List.getElem_range];rw [if_pos (by omega),hv]
     ·rename_i hc;simp only [aS,cR,List.getElem_map,List.getElem_range];by_cases h:p<=p - 1 \/ (p - 1+1=p/\q<=c)
      ·rw [if_pos h,if_pos (by omega)]
      ·rw [if_neg h,if_neg (by omega)]
   ·rename_i hr;simp only [aS,List.getElem_map,List.getElem_range];apply List.map_congr_left;intro c _;by_cases h:p<=r \/ (r+1=p/\q<=c)
    ·rw [if_pos h,if_pos (by omega)]
    ·rw [if_neg h,if_neg (by omega)]
 rw [<- e];simp -implicitDefEqProofs [bh,iK,ae,List.map_set,ap]
def wo (a b:List Str):Inv:=⟨Nat,fun i=>⟨[(0,true,.sl true 1 (aa a)),(1,true,.sl true 1 (aa b)),(4,true,.nil),(5,true,.own 9 1 (bh (List.replicate i (List.replicate (b.length+1) 0)))),(6,true,.int .i64 i)],[(9,.own 92 1 true (bh (List.replicate i (List.replicate (b.length+1) 0))))]⟩,fun i=>i<=a.length+1,fun i=>a.length+1 - i⟩
def wq (a b:List Str):Inv:=⟨Nat,fun p=>⟨[(0,true,.sl true 1 (aa a)),(1,true,.sl true 1 (aa b)),(4,true,.nil),(5,true,.own 9 1 (bh (aS a b p (b.length+1)))),(7,true,.int .i64 ((p:Int) - 1))],[(9,.own 92 1 true (bh (aS a b p (b.length+1))))]⟩,fun p=>p<=a.length,fun p=>p⟩
def wr (a b:List Str) (g:Nat):Inv:=⟨Nat,fun q=>⟨[(0,true,.sl true 1 (aa a)),(1,true,.sl true 1 (aa b)),(4,true,.nil),(5,true,.own 9 1 (bh (aS a b g q))),(7,true,.int .i64 ((g:Int) - 1)),(8,true,.int .i64 ((q:Int) - 1))],[(9,.own 92 1 true (bh (aS a b g q)))]⟩,fun q=>q<=b.length/\0 < g/\g<=a.length,fun q=>q⟩
def qK (a b:List Str) (n g:Nat):Inv:=if n=3 then wo a b else if n=7 then wq a b else wr a b g
theorem JY (a b g):qK a b 3 g=wo a b:=rfl
theorem JZ (a b g):qK a b 7 g=wq a b:=rfl
theorem JX (a b g):qK a b 10 g=wr a b g:=rfl
def tH:Con:=.fn 110 (List Str × List Str) (fun a=>[.sl true 1 (aa a.1),.sl true 1 (aa a.2)]) (fun a=>a.1.length<=1048576/\a.2.length<=1048576) (fun a=>.own 8 1 (bh (aS a.1 a.2 0 0))) (fun a=>[(8,.own 92 1 true (bh (aS a.1 a.2 0 0)))])
theorem JW:Has Tryz.prog 231 tH:=by
 refine ah mixed aw HasL.nil [0,1,4,5,6,7,8] (fun a=>qK a.1 a.2) [] Tryz.func231 (by unfold Tryz.f231; rfl) (fun _=>⟨(),trivial⟩) ?_
 intro a ha;obtain ⟨a,b⟩:=a;obtain ⟨h1,h2⟩:a.length<=1048576/\b.length<=1048576:=ha;simp (maxSteps:=4000000) [tH,Con.fn,ag,JY,JZ,JX,wo,wq,wr]
 try dsimp only
 refine ⟨⟨0,by simp⟩,fun i hi _=>⟨fun hlt _=>⟨by omega,fun _ _=>⟨by omega,fun _ _ _=>⟨by omega,by omega,fun _ _=>⟨i+1,⟨⟨?_,by omega⟩,?_⟩,by omega,by omega⟩⟩⟩⟩,fun hge _=>⟨by omega,fun _ _=>⟨⟨a.length,⟨⟨?_,rfl⟩,?_⟩,Nat.le_refl _⟩,fun p hp=>⟨fun h1p _=>⟨by omega,fun _ _=>⟨p,⟨b.length,⟨⟨?_,rfl,rfl⟩,?_⟩,Nat.le_refl _,by omega,hp⟩,fun q hq hg hga=>⟨fun hq1=>?_,fun hq0=>⟨by omega,fun _ _=>⟨p - 1,⟨⟨?_,by omega⟩,?_⟩,by omega,by omega⟩⟩⟩⟩⟩,fun hp0=>?_⟩⟩⟩⟩⟩
 ·rw [C3]
 ·rw [C3]
 ·rw [rM (show a.length+1=i by omega)]
 ·rw [rM (show a.length+1=i by omega)]
 ·rw [rL]
 ·rw [rL]
 ·obtain ⟨T,hT⟩:∃ T,T=aS a b p q:=⟨_,rfl⟩;have t1:=@rN a b p q;have t2:=kf (a:=a) (b:=b) (p:=p) (q:=q) (r:=p) (by omega)
  have t3:=kf (a:=a) (b:=b) (p:=p) (q:=q) (r:=p - 1) (by omega)
  have t4:a[p - 1]? = some a[p - 1]:=List.getElem?_eq_getElem (by omega)
  have t5:b[q - 1]? = some b[q - 1]:=List.getElem?_eq_getElem (by omega)
  have u1:=@ke a b p q p;have u2:=@ke a b p q (p - 1);have u3:(cR a b p q p)[q]? = some (lcs (a.drop p) (b.drop q)):=by rw [iZ (by omega),if_pos (by omega)]
  have u4:(cR a b p q p)[q - 1]? = some (lcs (a.drop p) (b.drop (q - 1))):=by rw [iZ (by omega),if_pos (by omega)]
  have u5:(cR a b p q (p - 1))[q]? = some (lcs (a.drop (p - 1)) (b.drop q)):=by rw [iZ (by omega),if_pos (by omega)]
  have v1:=mg (a.drop p) (b.drop q);have v2:=mg (a.drop p) (b.drop (q - 1));have v3:=mg (a.drop (p - 1)) (b.drop q);have v4:(a.drop p).length<=a.length:=by simp
  have v5:(a.drop (p - 1)).length<=a.length:=by simp
  have w1:=DD (a:=a) (b:=b) (p:=p) (q:=q) hg hga (by omega) hq
  have w2:=A7 (a:=a) (b:=b) (p:=p) (q:=q) hg hga (by omega) hq
  rw [<- hT] at t1 t2 t3 w1 ⊢;clear hT;generalize lcs (a.drop p) (b.drop q)=L11 at *;generalize lcs (a.drop p) (b.drop (q - 1))=L10 at *;generalize lcs (a.drop (p - 1)) (b.drop q)=L01 at *;generalize cR a b p q p=rB at *;generalize cR a b p q (p - 1)=rA at *;simp -implicitDefEqProofs [t1,t2,t3,t4,t5,u1,u2,u3,u4,u5,ap,ar,D.asStr,iK,D.asRows,D.asInt,and_assoc];have fin:∀ v,v=lcs (a.drop (p - 1)) (b.drop (q - 1)) -> ∃ t',bh (aS a b p t')=(bh T).set (p - 1) [D.sl 3 1 ((ae rA).set (q - 1) [D.int .i64 v])]/\(t':Int)=q - 1/\(bh T).set (p - 1) [D.sl 3 1 ((ae rA).set (q - 1) [D.int .i64 v])]=bh (aS a b p t')/\t'<=b.length/\0 < p/\p<=a.length/\t' < q :=
   fun v hv=>⟨q - 1,(w1 v hv).symm,by omega,w1 v hv,by omega,hg,hga,by omega⟩
  repeat' (first | intro _ | apply And.intro)
  all_goals first | omega | exact fin _ (by rw [w2,if_pos (by assumption)]) | exact fin _ (by rw [w2,if_neg (by assumption),if_pos (by assumption)]) | exact fin _ (by rw [w2,if_neg (by assumption),if_neg (by omega)])
 ·rw [show q=0 by omega,rO (by omega)]
 ·rw [show q=0 by omega,rO (by omega)]
 ·rw [show p=0 by omega,DE]; exact ⟨rfl,rfl⟩
def mt:List Str->List Str->Nat->List Int
 | [],_,_=>[]
 | _ :: a,[],k=>-1 :: mt a [] k
 | x :: a,y :: b,k=>if x=y then (k:Int) :: mt a b (k+1) else if lcs (x :: a) b<=lcs a (y :: b) then -1 :: mt a (y :: b) k else mt (x :: a) b (k+1)
termination_by a b=>a.length+b.length
theorem jm (a b:List Str) (k:Nat):(mt a b k).length=a.length:=by
 fun_induction mt a b k <;> simp_all
theorem BC {a b:List Str} {i k:Nat} (h:i < a.length) (hk:b.length<=k):mt (a.drop i) (b.drop k) k = -1 :: mt (a.drop (i+1)) (b.drop k) k:=by rw [List.drop_eq_getElem_cons h,List.drop_eq_nil_of_le hk,mt]
theorem BD {a b:List Str} {i k:Nat} (h:i < a.length) (hk:k < b.length):mt (a.drop i) (b.drop k) k=if a[i]=b[k] then (k:Int) :: mt (a.drop (i+1)) (b.drop (k+1)) (k+1) else if lcs (a.drop i) (b.drop (k+1))<=lcs (a.drop (i+1)) (b.drop k) then -1 :: mt (a.drop (i+1)) (b.drop k) k else mt (a.drop i) (b.drop (k+1)) (k+1):=by
 have e1:a.drop i=a[i] :: a.drop (i+1):=List.drop_eq_getElem_cons h;have e2:b.drop k=b[k] :: b.drop (k+1):=List.drop_eq_getElem_cons hk;rw [e1,e2,mt]
theorem gL (o:List Int) (v:Int):ae (o++[v])=ae o++[[D.int .i64 v]]:=by simp -implicitDefEqProofs [ae,ap]
def l1m (a b:List Str):Inv:=⟨Nat × Nat × List Int,fun t=>⟨[(0,true,.sl true 1 (aa a)),(1,true,.sl true 1 (aa b)),(4,true,.nil),(5,true,.own 9 1 (bh (aS a b 0 0))),(6,true,.own 10 1 (ae t.2.2)),(7,true,.int .i64 t.2.1),(8,true,.int .i64 t.1)],[(9,.own 92 1 true (bh (aS a b 0 0))),(10,.own 3 1 true (ae t.2.2))]⟩,
 fun t=>t.1<=a.length/\t.2.1<=b.length/\t.2.2.length=t.1/\t.2.2++mt (a.drop t.1) (b.drop t.2.1) t.2.1=mt a b 0,fun t=>(a.length - t.1)+(b.length - t.2.1)⟩
def pD:Con:=.fn 73 (List Str × List Str) (fun a=>[.sl true 1 (aa a.1),.sl true 1 (aa a.2)]) (fun a=>a.1.length<=1048576/\a.2.length<=1048576) (fun a=>.own 8 1 (ae (mt a.1 a.2 0))) (fun a=>dY 8 (mt a.1 a.2 0))
theorem AW:Has Tryz.prog 186 pD:=by
 refine ah mixed aw (HasL.cons JW HasL.nil) [0,1,4,5,6,7,8] ((fun a n (_:Nat)=>(fun a _=>l1m a.1 a.2) a n)) [] Tryz.func186 (by unfold Tryz.f186; rfl) (fun _=>⟨(),trivial⟩) ?_
 intro a ha;obtain ⟨a,b⟩:=a;obtain ⟨h1,h2⟩:a.length<=1048576/\b.length<=1048576:=ha;simp (maxSteps:=4000000) [pD,tH,Con.fn,ag,l1m]
 try dsimp only
 refine ⟨a,b,⟨rfl,rfl⟩,⟨h1,h2⟩,⟨0,0,[],⟨⟨rfl,rfl,rfl,rfl⟩,rfl,rfl⟩,Nat.zero_le _,Nat.zero_le _,rfl,by simp⟩,fun i k out hi hk hl hm _=>⟨fun hlt=>?_,fun hge=>?_⟩⟩
 ·have t1:=@rN a b 0 0;have t2:=kf (a:=a) (b:=b) (p:=0) (q:=0) (r:=i) (by omega)
  have t3:=kf (a:=a) (b:=b) (p:=0) (q:=0) (r:=i+1) (by omega)
  have u1:=@ke a b 0 0 i;have u2:=@ke a b 0 0 (i+1);have t4:a[i]? = some a[i]:=List.getElem?_eq_getElem hlt;have m0:=BC (a:=a) (b:=b) (i:=i) (k:=k) hlt;rcases Nat.lt_or_ge k b.length with hkb | hkb
  ·have t5:b[k]? = some b[k]:=List.getElem?_eq_getElem hkb;have u3:(cR a b 0 0 (i+1))[k]? = some (lcs (a.drop (i+1)) (b.drop k)):=by rw [iZ (by omega),if_pos (by omega)]
   have u4:(cR a b 0 0 i)[k+1]? = some (lcs (a.drop i) (b.drop (k+1))):=by rw [iZ (by omega),if_pos (by omega)]
   have m1:=BD (a:=a) (b:=b) (i:=i) (k:=k) hlt hkb;generalize aS a b 0 0=T at *;generalize cR a b 0 0 i=rA at *;generalize cR a b 0 0 (i+1)=rB at *;generalize lcs (a.drop (i+1)) (b.drop k)=L1 at *;generalize lcs (a.drop i) (b.drop (k+1))=L2 at *;have g1:¬ b.length<=k:=by omega
   obtain ⟨_,u6⟩:=List.getElem?_eq_some_iff.1 u4;simp -implicitDefEqProofs [hkb,g1,t1,t2,t3,t4,t5,u1,u2,u3,u4,u6,ap,ar,D.asStr,iK,D.asRows,D.asInt,and_assoc];refine ⟨hlt,fun _=>⟨fun e=>⟨by omega,by omega,by omega,by omega,fun _ _=>⟨by omega,by omega,fun _ _=>⟨i+1,k+1,out++[(k:Int)],gL _ _,by omega,by omega,(gL _ _).symm,by omega,by omega,by simp -implicitDefEqProofs [hl],?_,by omega⟩⟩⟩,fun e=>⟨by omega,by omega,fun _ _=>⟨by omega,by omega,fun _ _=>⟨by omega,fun _=>⟨by omega,fun _=>⟨by omega,by omega,fun _ _=>⟨by omega,fun _=>⟨fun c=>⟨by omega,by omega,by omega,by omega,fun _ _=>⟨i+1,k,out++[-1],gL _ _,by omega,by omega,(gL _ _).symm,by omega,by omega,by simp -implicitDefEqProofs [hl],?_,by omega⟩⟩,fun c=>⟨by omega,by omega,fun _ _=>⟨i,k+1,by omega,by omega,by omega,by omega,hl,?_,by omega⟩⟩⟩⟩⟩⟩⟩⟩⟩⟩⟩
   ·rw [<- hm,m1,if_pos e]; simp
   ·rw [<- hm,m1,if_neg e,if_pos c]; simp
   ·rw [<- hm,m1,if_neg e,if_neg (by omega)]
  ·have g1:¬ k < b.length:=by omega
   simp -implicitDefEqProofs [hkb,g1,t4,ar,D.asStr,and_assoc];refine ⟨by omega,by omega,by omega,by omega,fun _ _=>⟨i+1,k,out++[-1],gL _ _,by omega,by omega,(gL _ _).symm,by omega,by omega,by simp -implicitDefEqProofs [hl],?_,by omega⟩⟩
   rw [<- hm,m0 (by omega)]; simp
 ·rw [List.drop_eq_nil_of_le hge,mt,List.append_nil] at hm;exact ⟨hm.symm,hm⟩
structure PartD where
 clash:Bool
 lines:List Str
 old:List Str
 one:List Str
 two:List Str
 deriving DecidableEq,Inhabited
def cX (a:PartD):List D:=[.bool a.clash,.sl 9 1 (aa a.lines),.sl 9 1 (aa a.old),.sl 9 1 (aa a.one),.sl 9 1 (aa a.two)]
@[simp] theorem ePart_inj (a b:PartD):(cX a=cX b)=(a=b):=by cases a; cases b; simp -implicitDefEqProofs [cX]
@[simp] theorem PartD.eta (a:PartD):(⟨a.clash,a.lines,a.old,a.one,a.two⟩:PartD)=a:=rfl
theorem PartD.eq_iff (a b:PartD):(a=b)=(a.clash=b.clash/\a.lines=b.lines/\a.old=b.old/\a.one=b.one/\a.two=b.two):=by cases a; cases b; simp
@[simp] theorem PartD.ex1 (x_clash:Bool) (x_lines:List Str) (x_old:List Str) (x_one:List Str) (x_two:List Str) (Q:PartD->Prop):(∃ a:PartD,a.clash=x_clash/\a.lines=x_lines/\a.old=x_old/\a.one=x_one/\a.two=x_two/\Q a)=Q ⟨x_clash,x_lines,x_old,x_one,x_two⟩:=by
 apply propext;constructor
 ·rintro ⟨⟨_,_,_,_,_⟩,rfl,rfl,rfl,rfl,rfl,h⟩; exact h
 ·intro h; exact ⟨⟨x_clash,x_lines,x_old,x_one,x_two⟩,rfl,rfl,rfl,rfl,rfl,h⟩
@[simp] theorem PartD.ex2 (x_clash:Bool) (x_lines:List Str) (x_old:List Str) (x_one:List Str) (x_two:List Str) (Q:PartD->Prop):(∃ a:PartD,(a.clash=x_clash/\a.lines=x_lines/\a.old=x_old/\a.one=x_one/\a.two=x_two)/\Q a)=Q ⟨x_clash,x_lines,x_old,x_one,x_two⟩:=by
 apply propext;constructor
 ·rintro ⟨⟨_,_,_,_,_⟩,⟨rfl,rfl,rfl,rfl,rfl⟩,h⟩; exact h
 ·intro h; exact ⟨⟨x_clash,x_lines,x_old,x_one,x_two⟩,⟨rfl,rfl,rfl,rfl,rfl⟩,h⟩
@[simp] theorem PartD.ex0 (x_clash:Bool) (x_lines:List Str) (x_old:List Str) (x_one:List Str) (x_two:List Str):(∃ a:PartD,a.clash=x_clash/\a.lines=x_lines/\a.old=x_old/\a.one=x_one/\a.two=x_two)=True:=by
 simp only [eq_iff_iff,iff_true];exact ⟨⟨x_clash,x_lines,x_old,x_one,x_two⟩,rfl,rfl,rfl,rfl,rfl⟩
def aG (l:List PartD):List (List D):=l.map cX
@[simp] theorem eParts_length (l:List PartD):(aG l).length=l.length:=by simp -implicitDefEqProofs [aG]
@[simp] theorem eParts_nil:aG []=[]:=rfl
@[simp] theorem eParts_get (l:List PartD) (i:Nat):(aG l)[i]? = l[i]?.map cX:=by simp -implicitDefEqProofs [aG]
@[simp] theorem eParts_getElem (l:List PartD) (i:Nat) (h:i < (aG l).length):(aG l)[i]=cX (l[i]'(by simpa using h)):=by simp -implicitDefEqProofs [aG]
@[simp] theorem eParts_inj (a b:List PartD):(aG a=aG b)=(a=b):=by
 apply propext;constructor
 ·intro h;exact List.map_inj_right (fun x y h=>by simpa using h) |>.1 h
 ·rintro rfl; rfl
@[simp] theorem eParts_eq_nil (a:List PartD):(aG a=[])=(a=[]):=by simp -implicitDefEqProofs [aG]
@[simp] theorem nil_eq_eParts (a:List PartD):([]=aG a)=(a=[]):=by simp -implicitDefEqProofs [aG,eq_comm]
theorem G0 (a b:List PartD):aG (a++b)=aG a++aG b:=by simp -implicitDefEqProofs [aG]
abbrev xa (h:Nat) (a:List PartD):List (Nat × Blk):=[(h,.own 278 5 true (aG a))]
def bj (o a b:List Str):PartD:=if a=o \/ a=b then ⟨false,b,[],[],[]⟩ else if b=o then ⟨false,a,[],[],[]⟩ else ⟨true,[],o,a,b⟩
theorem BX (o a b:List Str):(bj o a b).lines.length<=a.length+b.length:=by
 unfold bj;split
 ·simp
 ·split <;> simp
def bE (l:List PartD) (p:PartD):List PartD :=
 if p.clash=false/\p.lines=[] then l
 else match l.getLast? with
  | some q=>if p.clash=false/\q.clash=false then l.set (l.length - 1) ⟨q.clash,q.lines++p.lines,q.old,q.one,q.two⟩ else l++[p]
  | none=>l++[p]
theorem rt (l:List PartD) (p:PartD):(bE l p).length<=l.length+1:=by
 unfold bE;split
 ·omega
 ·split
  ·split <;> simp
  ·simp
theorem rq {l:List PartD} {p:PartD} {n:Nat} (h:∀ q ∈ l,q.lines.length<=n):∀ q ∈ bE l p,q.lines.length<=n+p.lines.length:=by
 intro q hq;unfold bE at hq;split at hq
 ·have:=h q hq; omega
 ·split at hq
  ·rename_i r hr;split at hq
   ·rcases List.mem_or_eq_of_mem_set hq with hq | hq
    ·have:=h q hq; omega
    ·subst hq;have:=h r (List.mem_of_getLast? hr);simp; omega
   ·rcases List.mem_append.1 hq with hq | hq
    ·have:=h q hq; omega
    ·simp at hq; subst hq; omega
  ·rcases List.mem_append.1 hq with hq | hq
   ·have:=h q hq; omega
   ·simp at hq; subst hq; omega
def asc:Int->Int->List Int->Prop
 | _,_,[]=>True
 | k,n,x :: l=>(x < 0/\asc k n l) \/ (k<=x/\x < n/\asc (x+1) n l)
theorem o0:∀ {l:List Int} {k k' n:Int},k<=k'->asc k' n l->asc k n l
 | [],_,_,_,_,_=>trivial
 | x :: l,k,k',n,h,h2=>by
  rcases h2 with ⟨h3,h4⟩ | ⟨h3,h4,h5⟩
  ·exact .inl ⟨h3,o0 h h4⟩
  ·exact .inr ⟨by omega,h4,h5⟩
theorem sr:∀ {l:List Int} {k n:Int},k<=n->asc k n l->asc k (n+1) (l++[n])
 | [],k,n,h,_=>.inr ⟨h,by omega,trivial⟩
 | x :: l,k,n,h,h2=>by
  rcases h2 with ⟨h3,h4⟩ | ⟨h3,h4,h5⟩
  ·exact .inl ⟨h3,sr h h4⟩
  ·exact .inr ⟨h3,by omega,sr (by omega) h5⟩
theorem wV (a b:List Str) (k:Nat):asc k (k+b.length) (mt a b k):=by
 fun_induction mt a b k with
 | case1=>trivial
 | case2 x a k ih=>exact .inl ⟨by omega,ih⟩
 | case3 a y b k ih =>
  refine .inr ⟨by omega,by simp only [List.length_cons]; omega,?_⟩
  have e:((k+1:Nat):Int)+b.length=k+(y :: b).length:=by simp only [List.length_cons]; omega
  rw [e] at ih;exact ih
 | case4 x a y b k h h2 ih=>exact .inl ⟨by omega,ih⟩
 | case5 x a y b k h1 h2 ih =>
  have e:((k+1:Nat):Int)+b.length=k+(y :: b).length:=by simp only [List.length_cons]; omega
  rw [e] at ih;exact o0 (by omega) ih
def mtE (a b:List Str):List Int:=mt a b 0++[(b.length:Int)]
theorem mj (a b:List Str):(mtE a b).length=a.length+1:=by simp -implicitDefEqProofs [mtE,jm]
theorem BA (a b:List Str):asc 0 (b.length+1) (mtE a b):=by
 have h:=wV a b 0;have:=sr (k:=0) (n:=b.length) (by omega) (by simpa using h)
 exact this
theorem lH {l:List Int} {i:Nat} {k n:Int} (h:i < l.length) (ha:asc k n (l.drop i)):(l[i] < 0/\asc k n (l.drop (i+1))) \/ (k<=l[i]/\l[i] < n/\asc (l[i]+1) n (l.drop (i+1))):=by
 rw [List.drop_eq_getElem_cons h] at ha;exact ha
structure S3 where
 io:Nat
 ia:Nat
 ib:Nat
 out:List PartD
def jy (o a b:List Str) (x y:Int) (i:Nat) (s:S3):S3 :=
 if x < 0 \/ y < 0 then s
 else ⟨i+1,x.toNat+1,y.toNat+1,
  if i < o.length then bE (bE s.out (bj ((o.take i).drop s.io) ((a.take x.toNat).drop s.ia) ((b.take y.toNat).drop s.ib))) ⟨false,[o.getD i []],[],[],[]⟩
  else bE s.out (bj ((o.take i).drop s.io) ((a.take x.toNat).drop s.ia) ((b.take y.toNat).drop s.ib))⟩
def cV (o a b:List Str):Nat->S3
 | 0=>⟨0,0,0,[]⟩
 | i+1=>jy o a b ((mtE o a).getD i 0) ((mtE o b).getD i 0) i (cV o a b i)
def of3 (o a b:List Str):List PartD:=(cV o a b (o.length+1)).out
def Ok3 (o a b:List Str) (i:Nat) (s:S3):Prop :=
 s.io<=i/\s.ia<=a.length+1/\s.ib<=b.length+1/\asc s.ia (a.length+1) ((mtE o a).drop i)/\asc s.ib (b.length+1) ((mtE o b).drop i)/\s.out.length<=2 * i /\ ∀ q ∈ s.out,q.lines.length<=s.io+s.ia+s.ib
theorem LL (o a b:List Str):Ok3 o a b 0 ⟨0,0,0,[]⟩:=⟨by simp,by simp,by simp,by simpa using BA o a,by simpa using BA o b,by simp,by simp⟩
theorem LM {o a b:List Str} {i:Nat} {s:S3} (hi:i < o.length+1) (h:Ok3 o a b i s):Ok3 o a b (i+1) (jy o a b ((mtE o a).getD i 0) ((mtE o b).getD i 0) i s):=by
 obtain ⟨h1,h2,h3,h4,h5,h6,h7⟩:=h;have la:=mj o a;have lb:=mj o b;have ga:(mtE o a).getD i 0=(mtE o a)[i]'(by omega):=by simp -implicitDefEqProofs [List.getD_eq_getElem?_getD,List.getElem?_eq_getElem (show i < (mtE o a).length by omega)]
 have gb:(mtE o b).getD i 0=(mtE o b)[i]'(by omega):=by simp -implicitDefEqProofs [List.getD_eq_getElem?_getD,List.getElem?_eq_getElem (show i < (mtE o b).length by omega)]
 rw [ga,gb];have h4:=lH (l:=mtE o a) (by omega) h4
 have h5:=lH (l:=mtE o b) (by omega) h5
 generalize (mtE o a)[i]'(by omega)=x at *
 generalize (mtE o b)[i]'(by omega)=y at *
 unfold jy;split
 ·rename_i hxy;refine ⟨by omega,h2,h3,?_,?_,by omega,h7⟩
  ·rcases h4 with h4 | h4
   ·exact h4.2
   ·exact o0 (by omega) h4.2.2
  ·rcases h5 with h5 | h5
   ·exact h5.2
   ·exact o0 (by omega) h5.2.2
 ·rename_i hxy;rcases h4 with h4 | ⟨h4,h41,h42⟩
  ·omega
  rcases h5 with h5 | ⟨h5,h51,h52⟩
  ·omega
  have ex:((x.toNat+1:Nat):Int)=x+1:=by omega
  have ey:((y.toNat+1:Nat):Int)=y+1:=by omega
  have b1:=BX ((o.take i).drop s.io) ((a.take x.toNat).drop s.ia) ((b.take y.toNat).drop s.ib);have b2:=rq (p:=bj ((o.take i).drop s.io) ((a.take x.toNat).drop s.ia) ((b.take y.toNat).drop s.ib)) h7;have b3:=rt s.out (bj ((o.take i).drop s.io) ((a.take x.toNat).drop s.ia) ((b.take y.toNat).drop s.ib));generalize bj ((o.take i).drop s.io) ((a.take x.toNat).drop s.ia) ((b.take y.toNat).drop s.ib)=p at *;have b1:p.lines.length<=(x.toNat - s.ia)+(y.toNat - s.ib):=by
   refine Nat.le_trans b1 ?_;simp only [List.length_drop,List.length_take];omega
  refine ⟨by simp,by simp; omega,by simp; omega,by simpa only [ex] using h42,by simpa only [ey] using h52,?_,?_⟩
  ·show (if i < o.length then _ else _:List PartD).length<=_
   split
   ·have:=rt (bE s.out p) ⟨false,[o.getD i []],[],[],[]⟩;omega
   ·omega
  ·show ∀ q ∈ (if i < o.length then _ else _:List PartD),_
   split
   ·intro q hq;have:=rq (p:=⟨false,[o.getD i []],[],[],[]⟩) b2 q hq;simp at this
    show q.lines.length<=(i+1)+(x.toNat+1)+(y.toNat+1)
    omega
   ·intro q hq;have:=b2 q hq
    show q.lines.length<=(i+1)+(x.toNat+1)+(y.toNat+1)
    omega
theorem nW (o a b:List Str):∀ i,i<=o.length+1->Ok3 o a b i (cV o a b i)
 | 0,_=>LL o a b
 | i+1,h=>LM (by omega) (nW o a b i (by omega))
def dd (l:List PartD):List Str × Bool:=if l.any (·.clash) then ([],false) else if bg (l.flatMap (·.lines)) then (l.flatMap (·.lines),true) else ([],false)
def rsO (r:RepoD):Inv:=⟨Nat,fun i=>⟨[(1,true,.ptr 10 0),(2,true,.bool false),(3,true,.int .i64 i)],[(10,bG r)]⟩,fun i=>i<=r.commits.length /\ ∀ j,j < i->dG r.commits j=true,fun i=>r.commits.length - i⟩
def rsI (r:RepoD) (g:Nat):Inv:=⟨Nat,fun k=>⟨[(1,true,.ptr 10 0),(2,true,.bool false),(3,true,.int .i64 g),(4,true,.ptr 11 0),(5,true,.int .i64 k)],[(10,bG r),(11,.box 94 [.sl true 1 (ae (r.commits.getD g default).parents),.str (r.commits.getD g default).who,.sl true 2 (ac (r.commits.getD g default).tree)])]⟩,
 fun k=>g < r.commits.length/\k<=(r.commits.getD g default).parents.length/\(∀ j,j < g->dG r.commits j=true) /\ ∀ j,j < k->fM g (r.commits.getD g default).parents j=true,fun k=>(r.commits.getD g default).parents.length - k⟩
def rsH (r:RepoD):Inv:=⟨Nat,fun i=>⟨[(1,true,.ptr 10 0),(2,true,.bool false),(6,true,.int .i64 i)],[(10,bG r)]⟩,fun i=>i<=r.heads.length/\(∀ j,j < r.commits.length->dG r.commits j=true) /\ ∀ j,j < i->dM r.commits.length r.heads j=true,fun i=>r.heads.length - i⟩
def rE (r:RepoD) (n g:Nat):Inv:=if n=2 then rsO r else if n=6 then rsI r g else rsH r
theorem Ol (r:RepoD) (g:Nat):rE r 2 g=rsO r:=rfl
theorem Om (r:RepoD) (g:Nat):rE r 6 g=rsI r g:=rfl
theorem Ok (r:RepoD) (g:Nat):rE r 13 g=rsH r:=rfl
def hD:Con:=.fn 126 RepoD (fun r=>[aM r]) (fun r=>r.commits.length<=1073741824) (fun r=>.bool (an r)) (fun _=>[])
theorem jl:Has Tryz.prog 51 hD:=by
 refine ah mixed aw (HasL.cons jR (HasL.cons mf (HasL.cons nP HasL.nil))) [0,1,2,3,4,5,6] (fun r=>rE r) [] Tryz.func51 (by unfold Tryz.f51; rfl) (fun _=>⟨(),trivial⟩) ?_
 intro (r:RepoD) hr;replace hr:r.commits.length<=1073741824:=hr;have hN:=fun i=>@NZ r i;have hN1:=fun i=>@LQ r.commits i;have hN2:=fun i k=>@LR r.commits i k;have hY:=fun i=>@LS r.commits i;have hM:=fun i=>@z8 r.commits.length r.heads i;have hH:=@N0 r;simp -implicitDefEqProofs [hD,Con.fn,ag,jI,kC,iG,Ol,Om,Ok,rsO,rsI,rsH,aN]
 try dsimp only
 refine fun i hi hprev _=>⟨fun hlt=>?_,fun hge=>?_⟩
 ·have e3:Option.map bI r.commits[i]? = some (bI r.commits[i]):=by simp -implicitDefEqProofs [List.getElem?_eq_getElem hlt]
  have hgc:r.commits.getD i default=r.commits[i]:=by simp -implicitDefEqProofs [List.getD_eq_getElem?_getD,hlt]
  have n0:=hN i hlt;have n1:=hN1 i;have n2:=hN2 i;have n3:=hY i;rw [hgc] at n1 n2 n3;simp -implicitDefEqProofs [hlt,e3,bI,D.asStr,D.asRows,bm,and_assoc]
  try simp only [show r.commits[i]?.getD default=r.commits[i] by simp -implicitDefEqProofs [hlt]]
  generalize r.commits[i]=c at n1 n2 n3 ⊢;clear hN hN1 hN2 hY hM hH e3 hgc;refine ⟨hprev,fun t ht _ hinv _=>⟨fun hlt2=>?_,fun hge2=>?_⟩⟩
  ·have qt:Option.map ap c.parents[t]? = some (ap c.parents[t]):=by simp -implicitDefEqProofs [List.getElem?_eq_getElem hlt2]
   have q0:Option.map ap c.parents[0]? = some (ap (c.parents[0]'(by omega))):=by simp -implicitDefEqProofs [List.getElem?_eq_getElem (show 0 < c.parents.length by omega)]
   have o:fM i c.parents t=((decide (0<=c.parents[t]) && decide (c.parents[t]<=(i:Int) - 1)) && !(decide (0 < t) && decide (c.parents[t]=c.parents[0]'(by omega)))):=by
    unfold fM inN;rw [show c.parents.getD t 0=c.parents[t] by simp -implicitDefEqProofs [List.getD_eq_getElem?_getD,hlt2],show c.parents.getD 0 0=c.parents[0]'(by omega) by simp -implicitDefEqProofs [List.getD_eq_getElem?_getD,show 0 < c.parents.length by omega]]
   have n7:fM i c.parents t=false->an r=false:=fun h=>n0 (n2 t hlt2 h);have n8:fM i c.parents t=true -> ∀ j,j < t+1->fM i c.parents j=true:=fun h j hj=>by
    rcases Nat.lt_or_ge j t with h3 | h3
    ·exact hinv j h3
    ·have:j=t:=by omega
     subst this; exact h
   simp -implicitDefEqProofs [qt,q0,ap,hlt2];refine ⟨by omega,by omega,fun _ _=>⟨fun h=>?_,fun g1 g2=>⟨fun h0=>⟨by omega,fun _=>⟨fun he=>n7 (by rw [o]; simp -implicitDefEqProofs [he,h0]),fun he=>⟨by omega,by omega,fun _ _=>⟨t+1,rfl,by omega,hprev,n8 (by rw [o]; simp -implicitDefEqProofs [g1,g2,he]),by omega⟩⟩⟩⟩,
    fun h0=>⟨by omega,by omega,fun _ _=>⟨t+1,rfl,by omega,hprev,n8 (by rw [o,show decide (0 < t)=false by simp -implicitDefEqProofs [h0]]; simp -implicitDefEqProofs [g1,g2]),by omega⟩⟩⟩⟩⟩
   have:an r=false:=n7 (by rw [o]; simp; omega)
   exact ⟨fun _=>this,fun _=>this⟩
  ·have n9:fJ c=false->an r=false:=fun h=>n0 (n1 h);have n10:fJ c=true -> ∀ j,j < i+1->dG r.commits j=true:=fun h j hj=>by
    rcases Nat.lt_or_ge j i with h3 | h3
    ·exact hprev j h3
    ·have:j=i:=by omega
     subst this;exact n3 h (fun k hk=>hinv k (by omega))
   refine fun _=>⟨fun h=>n9 (by simp -implicitDefEqProofs [fJ]; omega),fun h=>⟨fun hn=>n9 (by simp -implicitDefEqProofs [fJ,hn]),fun hn=>⟨fun ht=>n9 (by simp -implicitDefEqProofs [fJ,ht]),fun ht=>⟨by omega,by omega,fun _ _=>⟨i+1,rfl,by omega,n10 (by simp -implicitDefEqProofs [fJ,hn,ht]; omega),by omega⟩⟩⟩⟩⟩
 ·clear hN hN1 hN2 hY;have hall:∀ j,j < r.commits.length->dG r.commits j=true:=fun j hj=>hprev j (by omega)
  refine ⟨hall,fun t ht _ hinv _=>⟨fun hlt2=>?_,fun hge2 _=>?_⟩⟩
  ·generalize hhs:r.heads=hs at *;have e3:Option.map bc hs[t]? = some (bc hs[t]):=by simp -implicitDefEqProofs [List.getElem?_eq_getElem hlt2]
   have e4:Option.map bc hs[t - 1]? = some (bc (hs[t - 1]'(by omega))):=by simp -implicitDefEqProofs [List.getElem?_eq_getElem (show t - 1 < hs.length by omega)]
   have hh:dM r.commits.length hs t=(aQ hs[t].name && inN r.commits.length hs[t].at_ && (decide (t=0) || Go.Op.bytesLess (hs[t - 1]'(by omega)).name hs[t].name)):=by
    unfold dM;rw [show hs.getD t default=hs[t] by simp -implicitDefEqProofs [List.getD_eq_getElem?_getD,hlt2],show hs.getD (t - 1) default=hs[t - 1]'(by omega) by simp -implicitDefEqProofs [List.getD_eq_getElem?_getD,show t - 1 < hs.length by omega]]
   have n7:dM r.commits.length hs t=false->an r=false:=fun h=>hH (hM t hlt2 h);have n8:dM r.commits.length hs t=true -> ∀ j,j < t+1->dM r.commits.length hs j=true:=fun h j hj=>by
    rcases Nat.lt_or_ge j t with h3 | h3
    ·exact hinv j h3
    ·have:j=t:=by omega
     subst this; exact h
   have hq:=Bc hs[t].name (hs[t - 1]'(by omega)).name
   rw [fF] at hh;unfold mh at hq;rw [hh] at n7 n8;unfold inN at n7 n8;clear hh hH hM;simp -implicitDefEqProofs [hlt2,e3,e4,bc,D.asStr,D.asInt,bm,and_assoc]
   try simp +contextual -implicitDefEqProofs [ar,aq,bR,bm,bS,List.getElem?_eq_getElem,bW,bp,bK,bU,<- br,<- bN,bn,bw,bV,bT,bu,bJ,and_assoc,hlt2]
   clear e3 e4 hinv hprev
   repeat' (first | intro _ | apply And.intro)
   all_goals first | omega | grind -ring
  ·have h2:dn r.commits.length r.heads=decide (r.heads.length<=5):=by
    unfold dn;have:(List.range r.heads.length).all (dM r.commits.length r.heads)=true:=by
     rw [List.all_eq_true];intro j hj;have hj':j < r.heads.length:=by simpa using hj
     exact hinv j (by omega)
    rw [this,Bool.and_true]
   refine ⟨fun h16 _=>?_,fun h16=>?_⟩
   ·rw [Bool.eq_iff_iff,be,h2];simp only [decide_eq_true_eq];exact ⟨fun h=>by have:=h.2.1; omega,fun h=>⟨hall,by omega,by omega⟩⟩
   ·cases hq:an r with
    | false=>rfl
    | true=>have:=((be r).1 hq).2.2; omega
theorem gI {r:RepoD} (h:aF r=true) {i:Nat} (hi:i < r.commits.length):r.commits[i].parents.length<=2/\(∀ p ∈ r.commits[i].parents,0<=p/\p < (i:Int))/\aC r.commits[i].tree=true:=by
 have h1:=((mE r).1 h).2.1 i hi;have hg:r.commits.getD i default=r.commits[i]:=by simp -implicitDefEqProofs [List.getD_eq_getElem?_getD,hi]
 simp only [eN,fI,hg,Bool.and_eq_true,decide_eq_true_eq,List.all_eq_true,List.mem_range] at h1;refine ⟨h1.1.1.1.1,fun p hp=>?_,h1.1.2⟩;obtain ⟨k,hk,rfl⟩:=List.getElem_of_mem hp;have h2:=h1.2 k hk;simp only [inN,Bool.and_eq_true,decide_eq_true_eq,List.getD_eq_getElem?_getD,List.getElem?_eq_getElem hk,Option.getD_some] at h2;omega
theorem fS {r:RepoD} (h:aF r=true):r.commits.length<=16:=((mE r).1 h).1
def ie (r:RepoD) (a:Int):Int:=(r.commits.getD a.toNat default).parents.headD (-1)
theorem Hi {r:RepoD} (h:aF r=true) {a:Int} (h0:0<=a) (h1:a < r.commits.length):-1<=ie r a/\ie r a < a:=by
 have hi:a.toNat < r.commits.length:=by omega
 obtain ⟨_,h2,_⟩:=gI h hi;unfold ie;rw [List.getD_eq_getElem?_getD,List.getElem?_eq_getElem hi,Option.getD_some];cases hp:r.commits[a.toNat].parents with
 | nil=>simp; omega
 | cons p l =>
  have:=h2 p (by rw [hp]; simp)
  simp only [List.headD_cons];omega
def pr:Con:=.fn 21 (RepoD × Int) (fun a=>[aM a.1,.int .i64 a.2]) (fun a=>0<=a.2/\a.2 < a.1.commits.length) (fun a=>.int .i64 (ie a.1 a.2)) (fun _=>[])
theorem zN:Has Tryz.prog 196 pr:=by
 refine ah mixed aw HasL.nil [0,1,2,4] ((fun a n (_:Nat)=>(fun _=>az) a n)) [] Tryz.func196 (by unfold Tryz.f196; rfl) (fun _=>⟨(),trivial⟩) ?_
 intro a ha;obtain ⟨r,n⟩:=a;obtain ⟨h1,h2⟩:0<=n/\n < r.commits.length:=ha;have hi:n.toNat < r.commits.length:=by omega
 have e:Option.map bI r.commits[n.toNat]? = some (bI r.commits[n.toNat]):=by simp -implicitDefEqProofs [hi]
 have hf:ie r n=r.commits[n.toNat].parents.headD (-1):=by unfold ie; rw [List.getD_eq_getElem?_getD,List.getElem?_eq_getElem hi]; rfl
 simp -implicitDefEqProofs [pr,Con.fn,ag,e,hf,bI,hi,h1,h2]
 try dsimp only
 intro _;cases hp:r.commits[n.toNat].parents with
 | nil=>simp
 | cons q l=>simp -implicitDefEqProofs [ap]
def iH:Con:=.fn 13 (RepoD × Int) (fun a=>[aM a.1,.int .i64 a.2]) (fun a=>0<=a.2/\a.2 < a.1.commits.length) (fun a=>.sl true 2 (ac (a.1.commits.getD a.2.toNat default).tree)) (fun _=>[])
theorem lu:Has Tryz.prog 47 iH:=by
 refine ah mixed aw HasL.nil [0,1,2,4] ((fun a n (_:Nat)=>(fun _=>az) a n)) [] Tryz.func47 (by unfold Tryz.f47; rfl) (fun _=>⟨(),trivial⟩) ?_
 intro a ha;obtain ⟨r,n⟩:=a;obtain ⟨h1,h2⟩:0<=n/\n < r.commits.length:=ha;have hi:n.toNat < r.commits.length:=by omega
 have e:Option.map bI r.commits[n.toNat]? = some (bI r.commits[n.toNat]):=by simp -implicitDefEqProofs [hi]
 simp -implicitDefEqProofs [iH,Con.fn,ag,e,bI,hi,h1,h2]
 try dsimp only
 exact fun h=>absurd h (by omega)
def ev (r:RepoD) (l:List Int):Bool:=aF r && l.all fun a=>decide (0<=a) && decide (a<=(r.commits.length:Int) - 1)
def lJ:Con:=.fn 21 (RepoD × List Int) (fun a=>[aM a.1,.sl true 1 (ae a.2)]) (fun a=>dQ a.1) (fun a=>.bool (ev a.1 a.2)) (fun _=>[])
theorem oY:Has Tryz.prog 202 lJ:=by
 refine ah mixed aw (HasL.cons lf (HasL.cons qi HasL.nil)) [0,1,2,4,6,10,11,12] ((fun a n (_:Nat)=>(fun a _=>⟨Nat,fun i=>⟨[(1,true,.sl true 1 (ae a.2)),(2,true,.ptr 10 0),(4,true,.bool false),(10,true,.sl true 1 (ae a.2)),(11,true,.int .i64 a.2.length),(12,true,.int .i64 i)],[(10,bG a.1)]⟩,fun i=>i<=a.2.length /\ ∀ x,x ∈ a.2.take i->(decide (0<=x) && decide (x<=(a.1.commits.length:Int) - 1))=true,fun i=>a.2.length - i⟩) a n)) [] Tryz.func202 (by unfold Tryz.f202; rfl) (fun _=>⟨(),trivial⟩) ?_
 intro a ha;obtain ⟨r,l⟩:=a;replace ha:dQ r:=ha;have ha2:=ha.1;simp -implicitDefEqProofs [lJ,Con.fn,ag,ja,lL,aN]
 try dsimp only
 refine ⟨ha,fun h=>by simp -implicitDefEqProofs [ev,h],fun h _ i hi hb=>⟨fun hlt=>⟨hlt,fun _=>⟨by simp -implicitDefEqProofs [hlt,ap],fun _ _=>⟨r,l[i],⟨⟨rfl,rfl⟩,by simp -implicitDefEqProofs [hlt,ap]⟩,ha2,fun hbad=>?_,fun h0 h1=>⟨⟨by omega,by omega⟩,fun _ _=>⟨i+1,by omega,⟨by omega,xH (q:=fun x:Int=>0<=x/\x<=(r.commits.length:Int) - 1) hlt hb ⟨h0,h1⟩⟩,by omega⟩⟩⟩⟩⟩,fun hge=>?_⟩⟩
 ·unfold ev;rw [h,Bool.true_and,List.all_eq_false];exact ⟨l[i],List.getElem_mem hlt,by simp; omega⟩
 ·rw [List.take_of_length_le hge] at hb;unfold ev;rw [h,Bool.true_and,List.all_eq_true];intro x hx;have:=hb x hx;simp; omega
def aj (r:RepoD) (a:Int):List FileD:=(r.commits.getD a.toNat default).tree
--TAB aB
def aB:List (Nat × TI):=(128,⟨false,[.sl 4 1],24,[],4⟩) :: ag
theorem aL:∀ t ti,ai aB t=some ti->TOk Tryz.prog t ti:=rJ (by kernel_rfl)
def cz (b:Bool):List D:=[.bool b]
@[simp] theorem eBool_inj (a b:Bool):(cz a=cz b)=(a=b):=by simp -implicitDefEqProofs [cz]
def aJ (l:List Bool):List (List D):=l.map cz
@[simp] theorem eBools_length (l:List Bool):(aJ l).length=l.length:=by simp -implicitDefEqProofs [aJ]
@[simp] theorem eBools_nil:aJ []=[]:=rfl
@[simp] theorem eBools_get (l:List Bool) (i:Nat):(aJ l)[i]? = l[i]?.map cz:=by simp -implicitDefEqProofs [aJ]
@[simp] theorem eBools_getElem (l:List Bool) (i:Nat) (h:i < (aJ l).length):(aJ l)[i]=cz (l[i]'(by simpa using h)):=by simp -implicitDefEqProofs [aJ]
@[simp] theorem eBools_inj (a b:List Bool):(aJ a=aJ b)=(a=b):=by
 apply propext;constructor
 ·intro h;exact List.map_inj_right (fun x y h=>by simpa using h) |>.1 h
 ·rintro rfl; rfl
@[simp] theorem eBools_eq_nil (a:List Bool):(aJ a=[])=(a=[]):=by simp -implicitDefEqProofs [aJ]
@[simp] theorem nil_eq_eBools (a:List Bool):([]=aJ a)=(a=[]):=by simp -implicitDefEqProofs [aJ,eq_comm]
theorem el (l:List Bool) (i:Nat) (b:Bool):(aJ l).set i [.bool b]=aJ (l.set i b):=by simp -implicitDefEqProofs [aJ,List.map_set,cz]
theorem gr (n:Nat) (b:Bool):List.replicate n [D.bool b]=aJ (List.replicate n b):=by simp -implicitDefEqProofs [aJ,cz]
abbrev w9 (h:Nat) (a:List Bool):List (Nat × Blk):=[(h,.own 4 1 true (aJ a))]
def isT (l:List Bool) (i:Nat):Bool:=l.getD i false
def dE (l:List Bool) (i:Nat):List Int:=((List.range i).filter (isT l)).map fun j:Nat=>(j:Int)
theorem qU {l:List Bool} {i:Nat} (h:isT l i=true):dE l (i+1)=dE l i++[(i:Int)]:=by simp -implicitDefEqProofs [dE,List.range_succ,h]
theorem qV {l:List Bool} {i:Nat} (h:isT l i=false):dE l (i+1)=dE l i:=by simp -implicitDefEqProofs [dE,List.range_succ,h]
theorem ik (l:List Bool) (i:Nat):(dE l i).length<=i:=by
 have:=List.length_filter_le (isT l) (List.range i)
 simpa [dE] using this
def ak (l:List Bool):List Int:=dE l l.length
theorem listT_mem {l:List Bool} {x:Int}:x ∈ ak l ↔ ∃ i:Nat,i < l.length/\isT l i=true/\x=i:=by
 simp only [ak,dE,List.mem_map,List.mem_filter,List.mem_range];constructor
 ·rintro ⟨i,⟨h1,h2⟩,rfl⟩; exact ⟨i,h1,h2,rfl⟩
 ·rintro ⟨i,h1,h2,rfl⟩; exact ⟨i,⟨h1,h2⟩,rfl⟩
def kF:Con:=.fn 20 (List Bool) (fun l=>[.sl true 1 (aJ l)]) (fun l=>l.length<=1048576) (fun l=>.own 8 1 (ae (ak l))) (fun l=>dY 8 (ak l))
theorem nS:Has Tryz.prog 151 kF:=by
 refine ah mixed aL HasL.nil [0,2,3,4,5,6,7,8] ((fun a n (_:Nat)=>(fun l _=>⟨Nat,fun i=>⟨[(2,true,.nil),(3,true,.own 9 1 (ae (dE l i))),(6,true,.sl true 1 (aJ l)),(7,true,.int .i64 l.length),(8,true,.int .i64 i)],[(9,.own 3 1 true (ae (dE l i)))]⟩,fun i=>i<=l.length,fun i=>l.length - i⟩) a n)) [] Tryz.func151 (by unfold Tryz.f151; rfl) (fun _=>⟨(),trivial⟩) ?_
 intro (l:List Bool) (ha:l.length<=1048576);simp -implicitDefEqProofs [kF,Con.fn,aB,ag]
 try dsimp only
 refine fun _=>⟨⟨0,⟨⟨rfl,rfl⟩,rfl⟩,Nat.zero_le _⟩,fun i hi=>⟨fun hlt=>?_,fun hge=>?_⟩⟩
 ·have hl:=ik l i;have hi:isT l i=l[i]:=by simp -implicitDefEqProofs [isT,List.getD_eq_getElem?_getD,hlt]
  simp -implicitDefEqProofs [hlt,cz,D.asBool,and_assoc];refine ⟨fun h=>?_,fun h=>?_⟩
  ·have e:=qU (hi.trans h);exact ⟨by omega,by omega,by omega,by omega,fun _ _=>⟨i+1,by rw [e]; simp -implicitDefEqProofs [ae,ap],by omega,by rw [e]; simp -implicitDefEqProofs [ae,ap],by omega,by omega⟩⟩
  ·have e:=qV (hi.trans h);exact ⟨by omega,by omega,fun _ _=>⟨i+1,e,by omega,e.symm,by omega,by omega⟩⟩
 ·have:i=l.length:=by omega
  subst this;exact ⟨rfl,rfl⟩
def pM:Con:=.fn 18 (List Int × Int) (fun a=>[.sl true 1 (ae a.1),.int .i64 a.2]) (fun _=>True) (fun a=>.bool (decide (a.2 ∈ a.1))) (fun _=>[])
theorem A6:Has Tryz.prog 110 pM:=by
 refine ah mixed aL HasL.nil [0,1,4,5] ((fun a n (_:Nat)=>(fun a _=>⟨Nat,fun i=>⟨[(0,true,.sl true 1 (ae a.1)),(1,true,.int .i64 a.2),(4,true,.bool false),(5,true,.int .i64 i)],[]⟩,fun i=>i<=a.1.length /\ ∀ x,x ∈ a.1.take i->x ≠ a.2,fun i=>a.1.length - i⟩) a n)) [] Tryz.func110 (by unfold Tryz.f110; rfl) (fun _=>⟨(),trivial⟩) ?_
 intro a _;obtain ⟨l,n⟩:=a;simp -implicitDefEqProofs [pM,Con.fn,aB,ag]
 try dsimp only
 refine fun i hi hb _=>⟨fun hlt=>?_,fun hge=>?_⟩
 ·simp -implicitDefEqProofs [hlt,ap,D.asInt,and_assoc];refine ⟨fun h=>by rw [<- h]; exact List.getElem_mem hlt,fun h=>⟨by omega,by omega,fun _ _=>⟨i+1,by omega,by omega,fun x hx=>?_,by omega⟩⟩⟩
  rw [aX hlt] at hx;rcases List.mem_append.1 hx with h1 | h1
  ·exact hb x h1
  ·simp only [List.mem_singleton] at h1;subst h1; exact h
 ·rw [List.take_of_length_le hge] at hb;exact fun h=>hb n h rfl
def cO (l:List Bool) (ps:List Int):List Bool:=ps.foldl (fun l p=>l.set p.toNat true) l
theorem mB (ps:List Int):∀ l:List Bool,(cO l ps).length=l.length:=by
 induction ps with
 | nil=>intro l; rfl
 | cons p r ih=>intro l; show (cO (l.set p.toNat true) r).length=_; rw [ih]; simp
def fW (r:RepoD) (l:List Bool) (i:Nat):List Bool:=if isT l i then cO l (r.commits.getD i default).parents else l
def fx (r:RepoD):Nat->List Bool->List Bool
 | 0,l=>l
 | n+1,l=>fx r n (fW r l n)
def anc (r:RepoD) (a:Int):List Bool:=fx r (a+1).toNat ((List.replicate r.commits.length false).set a.toNat true)
theorem yi (r:RepoD):∀ (n:Nat) (l:List Bool),(fx r n l).length=l.length
 | 0,_=>rfl
 | n+1,l=>by
  show (fx r n (fW r l n)).length=_
  rw [yi r n];unfold fW;split
  ·rw [mB]
  ·rfl
theorem ci (r:RepoD) (a:Int):(anc r a).length=r.commits.length:=by unfold anc; rw [yi]; simp
def anO (r:RepoD) (a:Int):Inv:=⟨List Bool × Int,fun t=>⟨[(2,true,.ptr 10 0),(4,true,.nil),(5,true,.own 9 1 (aJ t.1)),(6,true,.int .i64 t.2)],[(10,bG r),(9,.own 4 1 true (aJ t.1))]⟩,fun t=>t.1.length=r.commits.length /\ -1<=t.2/\t.2 < r.commits.length/\fx r (t.2+1).toNat t.1=anc r a,fun t=>(t.2+1).toNat⟩
def anI (r:RepoD) (a:Int) (g:Nat):Inv:=⟨List Bool × Nat,fun t=>⟨[(2,true,.ptr 10 0),(4,true,.nil),(5,true,.own 9 1 (aJ t.1)),(6,true,.int .i64 g),(30,true,.sl true 1 (ae (r.commits.getD g default).parents)),(31,true,.int .i64 (r.commits.getD g default).parents.length),(32,true,.int .i64 t.2)],[(10,bG r),(9,.own 4 1 true (aJ t.1))]⟩,fun t=>t.1.length=r.commits.length/\g < r.commits.length/\t.2<=(r.commits.getD g default).parents.length/\fx r g (cO t.1 ((r.commits.getD g default).parents.drop t.2))=anc r a,fun t=>(r.commits.getD g default).parents.length - t.2⟩
def sj (r:RepoD) (a:Int) (n g:Nat):Inv:=if n=4 then anO r a else anI r a g
theorem ED (r:RepoD) (a:Int) (g:Nat):sj r a 4 g=anO r a:=rfl
theorem EE (r:RepoD) (a:Int) (g:Nat):sj r a 8 g=anI r a g:=rfl
def kz:Con:=.fn 41 (RepoD × Int) (fun a=>[aM a.1,.int .i64 a.2]) (fun a=>aF a.1=true/\0<=a.2/\a.2 < a.1.commits.length) (fun a=>.own 8 1 (aJ (anc a.1 a.2))) (fun a=>w9 8 (anc a.1 a.2))
theorem mR:Has Tryz.prog 104 kz:=by
 refine ah mixed aL HasL.nil [0,1,2,4,5,6,8,30,31,32] (fun a=>sj a.1 a.2) [] Tryz.func104 (by unfold Tryz.f104; rfl) (fun _=>⟨(),trivial⟩) ?_
 intro a ha;obtain ⟨r,n⟩:=a;obtain ⟨h1,h2,h3⟩:aF r=true/\0<=n/\n < r.commits.length:=ha;have h4:=fS h1;simp -implicitDefEqProofs [kz,Con.fn,aB,ag,ED,EE,anO,anI,aN]
 try dsimp only
 refine fun _=>⟨by omega,fun _=>⟨⟨h2,h3⟩,fun _ _=>⟨by omega,⟨(List.replicate r.commits.length false).set n.toNat true,n,⟨⟨by rw [gr]; exact (el _ _ _).symm,rfl⟩,by rw [gr]; exact el _ _ _⟩,by simp,by omega,h3,rfl⟩,fun l b g1 g2 g3 g4=>⟨fun hb=>⟨⟨hb,by omega⟩,fun _ _=>?_⟩,fun hb=>?_⟩⟩⟩⟩
 ·have hb1:b.toNat < l.length:=by omega
  have hb2:b.toNat < r.commits.length:=by omega
  obtain ⟨p1,p2,_⟩:=gI h1 hb2;have hT:isT l b.toNat=l[b.toNat]:=by simp -implicitDefEqProofs [isT,List.getD_eq_getElem?_getD,hb1]
  have hbb:(b+1).toNat=b.toNat+1:=by omega
  have hgd:r.commits.getD b.toNat default=r.commits[b.toNat]:=by simp -implicitDefEqProofs [List.getD_eq_getElem?_getD,hb2]
  rw [hbb] at g4;have g5:fx r b.toNat (fW r l b.toNat)=anc r n:=g4;unfold fW at g5;rw [hT,hgd] at g5;have e3:Option.map bI r.commits[b.toNat]? = some (bI r.commits[b.toNat]):=by simp -implicitDefEqProofs [hb2]
  have hgo:r.commits[b.toNat]?.getD default=r.commits[b.toNat]:=by simp -implicitDefEqProofs [hb2]
  simp -implicitDefEqProofs [hb1,cz,D.asBool,e3,bI,D.asRows,hb,show b < r.commits.length by omega]
  refine ⟨fun h _=>⟨b.toNat,?_⟩,fun h=>⟨⟨by omega,by omega⟩,fun _ _=>⟨l,b - 1,⟨⟨rfl,rfl⟩,rfl⟩,⟨g1,by omega,by omega,?_⟩,by omega⟩⟩⟩
  ·rw [if_pos h] at g5;rw [hgo];generalize r.commits[b.toNat]=c at *;refine ⟨⟨l,0,⟨⟨rfl,by omega,rfl,rfl,rfl⟩,rfl⟩,g1,hb2,Nat.zero_le _,g5⟩,fun m k m1 m2 m3 m4=>⟨fun hlt=>⟨hlt,fun _=>?_⟩,fun hge=>⟨⟨by omega,by omega⟩,fun _ _=>⟨m,b - 1,⟨⟨rfl,by omega⟩,rfl⟩,⟨m1,by omega,by omega,?_⟩,by omega⟩⟩⟩⟩
   ·have hp:=p2 c.parents[k] (List.getElem_mem hlt);have qt:Option.map ap c.parents[k]? = some (ap c.parents[k]):=by simp -implicitDefEqProofs [List.getElem?_eq_getElem hlt]
    simp -implicitDefEqProofs [qt,ap,D.asInt];refine ⟨⟨hp.1,by omega⟩,fun _ _=>⟨by omega,⟨by omega,by omega⟩,fun _ _=>⟨m.set c.parents[k].toNat true,k+1,⟨⟨(el _ _ _).symm,by omega⟩,el _ _ _⟩,⟨by simp -implicitDefEqProofs [m1],m2,by omega,?_⟩,by omega⟩⟩⟩
    rw [List.drop_eq_getElem_cons hlt] at m4;exact m4
   ·rw [List.drop_eq_nil_of_le hge] at m4;rw [show (b - 1+1).toNat=b.toNat by omega]
    exact m4
  ·rw [if_neg (by rw [h]; simp)] at g5
   rw [show (b - 1+1).toNat=b.toNat by omega]
   exact g5
 ·have hbb:(b+1).toNat=0:=by omega
  rw [hbb] at g4;have g5:l=anc r n:=g4;exact ⟨g5.symm,g5⟩
--TAB aB
--TAB aB
theorem Aw {l:List Bool} {p g:Nat} (b:Bool) (h:p ≠ g):isT (l.set p b) g=isT l g:=by
 unfold isT;rw [List.getD_eq_getElem?_getD,List.getD_eq_getElem?_getD,List.getElem?_set_ne h]
def alO (r:RepoD) (a:Int):Inv:=⟨List Bool × Int,fun t=>⟨[(2,true,.ptr 10 0),(4,true,.nil),(5,true,.own 9 1 (aJ t.1)),(6,true,.int .i64 t.2)],[(10,bG r),(9,.own 4 1 true (aJ t.1))]⟩,fun t=>t.1.length=r.commits.length /\ -1<=t.2/\t.2 < r.commits.length/\fx r (t.2+1).toNat t.1=anc r a,fun t=>(t.2+1).toNat⟩
def alI (r:RepoD) (a:Int) (g:Nat):Inv:=⟨List Bool × Nat,fun t=>⟨[(2,true,.ptr 10 0),(4,true,.nil),(5,true,.own 9 1 (aJ t.1)),(6,true,.int .i64 g),(7,true,.int .i64 t.2)],[(10,bG r),(9,.own 4 1 true (aJ t.1))]⟩,fun t=>t.1.length=r.commits.length/\g < r.commits.length/\t.2<=(r.commits.getD g default).parents.length/\(isT t.1 g=true->fx r g (cO t.1 ((r.commits.getD g default).parents.drop t.2))=anc r a)/\(isT t.1 g=false->fx r g t.1=anc r a),fun t=>(r.commits.getD g default).parents.length - t.2⟩
def alT (r:RepoD) (a:Int):Inv:=⟨Nat,fun i=>⟨[(2,true,.ptr 10 0),(4,true,.nil),(5,true,.own 9 1 (aJ (anc r a))),(8,true,.own 11 1 (ae (dE (anc r a) i))),(9,true,.int .i64 i)],[(10,bG r),(9,.own 4 1 true (aJ (anc r a))),(11,.own 3 1 true (ae (dE (anc r a) i)))]⟩,fun i=>i<=r.commits.length,fun i=>r.commits.length - i⟩
def mP (r:RepoD) (a:Int) (n g:Nat):Inv:=if n=4 then alO r a else if n=7 then alI r a g else alT r a
theorem ye (r:RepoD) (a:Int) (g:Nat):mP r a 4 g=alO r a:=rfl
theorem yf (r:RepoD) (a:Int) (g:Nat):mP r a 7 g=alI r a g:=rfl
theorem yd (r:RepoD) (a:Int) (g:Nat):mP r a 12 g=alT r a:=rfl
def kE:Con:=.fn 66 (RepoD × Int) (fun a=>[aM a.1,.int .i64 a.2]) (fun a=>aF a.1=true/\0<=a.2/\a.2 < a.1.commits.length) (fun a=>.own 8 1 (ae (ak (anc a.1 a.2)))) (fun a=>dY 8 (ak (anc a.1 a.2)))
theorem qP:Has Tryz.prog 111 kE:=by
 refine ah mixed aL HasL.nil [0,1,2,4,5,6,7,8,9] (fun a=>mP a.1 a.2) [] Tryz.func111 (by unfold Tryz.f111; rfl) (fun _=>⟨(),trivial⟩) ?_
 intro a ha;obtain ⟨r,n⟩:=a;obtain ⟨h1,h2,h3⟩:aF r=true/\0<=n/\n < r.commits.length:=ha;have h4:=fS h1;simp -implicitDefEqProofs [kE,Con.fn,aB,ag,ye,yf,yd,alO,alI,alT,aN]
 try dsimp only
 simp only [and_assoc,exists_eq_left,exists_and_left,RepoD.ex1,RepoD.eta];have hal:=ci r n;refine fun _=>⟨by omega,fun _=>⟨h2,h3,fun _ _=>⟨by omega,⟨(List.replicate r.commits.length false).set n.toNat true,by rw [gr]; exact (el _ _ _).symm,by rw [gr]; exact el _ _ _,by simp,by omega,h3,rfl⟩,fun l b g1 g2 g3 g4=>⟨fun hb=>⟨b.toNat,?_⟩,fun hb=>?_⟩⟩⟩⟩
 ·have hb1:b.toNat < l.length:=by omega
  have hb2:b.toNat < r.commits.length:=by omega
  obtain ⟨p1,p2,_⟩:=gI h1 hb2;have hgd:r.commits.getD b.toNat default=r.commits[b.toNat]:=by simp -implicitDefEqProofs [List.getD_eq_getElem?_getD,hb2]
  have hgo:r.commits[b.toNat]?.getD default=r.commits[b.toNat]:=by simp -implicitDefEqProofs [hb2]
  rw [show (b+1).toNat=b.toNat+1 by omega] at g4
  have g5:fx r b.toNat (fW r l b.toNat)=anc r n:=g4;unfold fW at g5;rw [hgd] at g5;have e3:Option.map bI r.commits[b.toNat]? = some (bI r.commits[b.toNat]):=by simp -implicitDefEqProofs [hb2]
  rw [hgo,e3];generalize r.commits[b.toNat]=c at *;refine ⟨by omega,trivial,g1,hb2,Nat.zero_le _,fun h=>?_,fun h=>?_,fun m k m1 m2 m3 m4 m5=>⟨hb2,fun _=>?_⟩⟩
  ·rw [if_pos h] at g5; exact g5
  ·rw [if_neg (by rw [h]; simp)] at g5; exact g5
  ·have hbm:b.toNat < m.length:=by omega
   have hT:isT m b.toNat=m[b.toNat]:=by simp -implicitDefEqProofs [isT,List.getD_eq_getElem?_getD,hbm]
   have e4:Option.map cz m[b.toNat]? = some (cz m[b.toNat]):=by simp -implicitDefEqProofs [hbm]
   have hmx:max b 0=b:=Int.max_eq_left hb;simp -implicitDefEqProofs [bI,D.asRows,e4,cz,hbm,hb2,hmx];refine fun _=>⟨fun hl2=>⟨fun hm=>⟨hl2,fun _=>?_⟩,fun hm=>⟨by omega,by omega,fun _ _=>⟨m1,by omega,by omega,m5 (hT.trans hm),by omega⟩⟩⟩,fun hge=>⟨by omega,by omega,fun _ _=>⟨m1,by omega,by omega,?_,by omega⟩⟩⟩
   ·have hp:=p2 c.parents[k] (List.getElem_mem hl2);have qt:Option.map ap c.parents[k]? = some (ap c.parents[k]):=by simp -implicitDefEqProofs [List.getElem?_eq_getElem hl2]
    simp -implicitDefEqProofs [qt,ap,D.asInt];have hst:isT (m.set c.parents[k].toNat true) b.toNat=true:=by rw [Aw _ (by omega)]; exact hT.trans hm
    refine ⟨hp.1,by omega,fun _ _=>⟨by omega,by omega,by omega,fun _ _=>⟨m.set c.parents[k].toNat true,(el _ _ _).symm,k+1,by omega,el _ _ _,by simp -implicitDefEqProofs [m1],by omega,fun _=>?_,fun h=>?_,by omega⟩⟩⟩
    ·have:=m4 (hT.trans hm);rw [List.drop_eq_getElem_cons hl2] at this;exact this
    ·rw [hst] at h; cases h
   ·cases hm:m[b.toNat] with
    | true =>
     have:=m4 (hT.trans hm);rw [List.drop_eq_nil_of_le hge] at this;exact this
    | false=>exact m5 (hT.trans hm)
 ·rw [show (b+1).toNat=0 by omega] at g4
  have g5:l=anc r n:=g4;refine ⟨g5.symm,⟨0,rfl,rfl,g5,rfl,Nat.zero_le _⟩,fun i hi _=>⟨fun hlt=>?_,fun hge=>?_⟩⟩
  ·have hl:=ik (anc r n) i;have hi:isT (anc r n) i=(anc r n)[i]:=by simp -implicitDefEqProofs [isT,List.getD_eq_getElem?_getD,hlt]
   rw [hal] at hlt;simp -implicitDefEqProofs [hal,hlt,cz,D.asBool,and_assoc];refine ⟨fun h=>?_,fun h=>?_⟩
   ·have e:=qU (hi.trans h);exact ⟨by omega,by omega,by omega,by omega,fun _ _=>⟨i+1,by rw [e]; simp -implicitDefEqProofs [ae,ap],by omega,by rw [e]; simp -implicitDefEqProofs [ae,ap],by omega,by omega⟩⟩
   ·have e:=qV (hi.trans h);exact ⟨by omega,by omega,fun _ _=>⟨i+1,e,by omega,e.symm,by omega,by omega⟩⟩
  ·rw [hal] at hge;have:i=r.commits.length:=by omega
   subst this;unfold ak;rw [hal];exact ⟨rfl,rfl⟩
def lU (c:CommitD):Prop:=c.parents.length<=1048576/\c.tree.length<=1048576 /\ ∀ g ∈ c.tree,g.text.length<=1048576
def dI (r:RepoD):Prop:=r.commits.length<=1048576/\(∀ c ∈ r.commits,lU c)/\r.heads.length<=1048576
theorem zQ (p:List Int):∀ x ∈ ae p,∀ d ∈ x,match d with | .sl _ _ _=>False | _=>True:=by
 intro x hx d hd;simp only [ae,List.mem_map] at hx;obtain ⟨i,_,rfl⟩:=hx;simp only [ap,List.mem_singleton] at hd;subst hd; trivial
theorem zP (p:List HeadD):∀ x ∈ al p,∀ d ∈ x,match d with | .sl _ _ _=>False | _=>True:=by
 intro x hx d hd;simp only [al,List.mem_map] at hx;obtain ⟨i,_,rfl⟩:=hx;simp only [bc,List.mem_cons,List.not_mem_nil,or_false] at hd;rcases hd with rfl | rfl <;> trivial
def pL:Con:=.fn 13 CommitD (fun f=>[.agg [.sl true 1 (ae f.parents),.str f.who,.sl true 2 (ac f.tree)]]) (fun f=>lU f) (fun f=>.agg [.own 8 1 (ae f.parents),.str f.who,.own 9 2 (ac f.tree)]) (fun f=>dY 8 f.parents++eO 9 f.tree)
theorem A2:Has Tryz.prog 109 pL:=by
 refine ah mixed aw (HasL.cons me HasL.nil) [0,1,2] ((fun a n (_:Nat)=>(fun _=>az) a n)) [] Tryz.func109 (by unfold Tryz.f109; rfl) (fun _=>⟨(),trivial⟩) ?_
 intro f hf;obtain ⟨p,x,t⟩:=f;obtain ⟨h1,h2,h3⟩:p.length<=1048576/\t.length<=1048576 /\ ∀ g ∈ t,g.text.length<=1048576:=hf;simp -implicitDefEqProofs [pL,jH,Con.fn,ag]
 try dsimp only
 exact ⟨zQ p,by omega,h2,h3⟩
abbrev iC:Blk:=.box 35 [.nil,.nil]
def A3 (r:RepoD):Inv:=⟨Nat,fun i=>⟨[(1,true,.ptr 12 0),(2,true,.ptr 10 0),(3,true,.ptr 11 0),(4,true,.int .i64 i)],[(12,bG r),(10,iC),(11,.box 35 [.own 13 3 (aD (r.commits.take i)),.own 14 2 (al r.heads)]),(13,.own 94 3 true (aD (r.commits.take i))),(14,.own 96 2 true (al r.heads))]⟩,fun i=>i<=r.commits.length,fun i=>r.commits.length - i⟩
def kD:Con:=.fn 29 RepoD (fun r=>[aM r]) dI (fun r=>.agg [.own 8 3 (aD r.commits),.own 9 2 (al r.heads)]) (fun r=>iS 8 r.commits++gD 9 r.heads)
theorem nQ:Has Tryz.prog 58 kD:=by
 refine ah mixed aw (HasL.cons A2 HasL.nil) [0,1,2,3,4] ((fun a n (_:Nat)=>(fun r _=>A3 r) a n)) [25,26] Tryz.func58 (by unfold Tryz.f58; rfl) (fun _=>⟨(),trivial⟩) ?_
 intro (r:RepoD) hr;obtain ⟨h1,h2,h3⟩:r.commits.length<=1048576/\(∀ c ∈ r.commits,lU c)/\r.heads.length<=1048576:=hr;simp -implicitDefEqProofs [kD,pL,Con.fn,ag,A3,aN]
 try dsimp only
 refine ⟨zP r.heads,by omega,⟨0,⟨rfl,.inl rfl⟩,Nat.zero_le _⟩,fun i hi _=>⟨fun hlt=>?_,fun hge=>?_⟩⟩
 ·have e:r.commits.take (i+1)=r.commits.take i++[r.commits[i]]:=aX hlt;have hc:=h2 _ (List.getElem_mem hlt);simp -implicitDefEqProofs [hlt,bI,D.asStr,D.asRows,and_assoc];refine ⟨hc,by omega,by omega,by omega,by omega,fun _ _=>⟨i+1,by omega,?_,?_,by omega,by omega⟩⟩
  ·rw [e,jM]
  ·rw [e,jM]
 ·rw [List.take_of_length_le hge]; exact ⟨rfl,rfl⟩
def cN (n:Str) (a:Int) (acc:List HeadD × Bool) (g:HeadD):List HeadD × Bool :=
 if acc.2=false/\Go.Op.bytesLess g.name n=false then (if g.name=n then (acc.1++[⟨n,a⟩],true) else (acc.1++[⟨n,a⟩]++[g],true))
 else (if g.name=n then acc else (acc.1++[g],acc.2))
def hL (n:Str) (a:Int) (l:List HeadD):List HeadD × Bool:=l.foldl (cN n a) ([],false)
def bv (l:List HeadD) (n:Str) (a:Int):List HeadD:=if (hL n a l).2 then (hL n a l).1 else (hL n a l).1++[⟨n,a⟩]
theorem HN {n:Str} {a:Int} {t:List HeadD} {i:Nat} (h:i < t.length):hL n a (t.take (i+1))=cN n a (hL n a (t.take i)) t[i]:=by
 unfold hL;rw [aX h,List.foldl_append]; rfl
theorem HO (n:Str) (a:Int) (acc:List HeadD × Bool) (g:HeadD):(cN n a acc g).1.length+acc.2.toNat<=acc.1.length+(cN n a acc g).2.toNat+1:=by
 unfold cN;split
 ·rename_i h;rw [h.1];split <;> simp <;> omega
 ·split <;> simp <;> omega
theorem HM (n:Str) (a:Int) (t:List HeadD):(hL n a t).1.length<=t.length+(hL n a t).2.toNat:=by
 have:∀ (t:List HeadD) (acc:List HeadD × Bool),(t.foldl (cN n a) acc).1.length+acc.2.toNat<=acc.1.length+t.length+(t.foldl (cN n a) acc).2.toNat:=by
  intro t
  induction t with
  | nil=>intro acc; simp
  | cons g r ih =>
   intro acc;have h1:=ih (cN n a acc g);have h2:=HO n a acc g;simp only [List.foldl_cons,List.length_cons];omega
 have:=this t ([],false)
 simpa [hL] using this
def A4 (r:RepoD) (n:Str) (a:Int):Inv:=⟨Nat,fun i=>⟨[(1,true,.str n),(2,true,.int .i64 a),(3,true,.ptr 12 0),(6,true,.ptr 10 0),(7,true,.ptr 11 0),(8,true,.bool (hL n a (r.heads.take i)).2),(9,true,.int .i64 i)],[(12,bG r),(10,iC),(11,.box 35 [.sl true 3 (aD r.commits),.own 14 2 (al (hL n a (r.heads.take i)).1)]),(14,.own 96 2 true (al (hL n a (r.heads.take i)).1))]⟩,fun i=>i<=r.heads.length,fun i=>r.heads.length - i⟩
def nj:Con:=.fn 69 (RepoD × Str × Int) (fun a=>[aM a.1,.str a.2.1,.int .i64 a.2.2]) (fun a=>a.1.heads.length<=1048576) (fun a=>.agg [.sl true 3 (aD a.1.commits),.own 9 2 (al (bv a.1.heads a.2.1 a.2.2))]) (fun a=>gD 9 (bv a.1.heads a.2.1 a.2.2))
theorem wC:Has Tryz.prog 112 nj:=by
 refine ah mixed aw HasL.nil [0,1,2,3,6,7,8,9] ((fun a n (_:Nat)=>(fun a _=>A4 a.1 a.2.1 a.2.2) a n)) [] Tryz.func112 (by unfold Tryz.f112; rfl) (fun _=>⟨(),trivial⟩) ?_
 intro a ha;obtain ⟨r,n,a⟩:=a;replace ha:r.heads.length<=1048576:=ha;have a0:hL n a []=([],false):=rfl;have a7:∀ i,(hL n a (r.heads.take i)).1.length<=1048577:=fun i=>by
  have h1:=HM n a (r.heads.take i);have h2:=Bool.toNat_le (hL n a (r.heads.take i)).2;have h3:(r.heads.take i).length<=r.heads.length:=by simp; omega
  omega
 simp -implicitDefEqProofs [nj,Con.fn,ag,A4,aN]
 try dsimp only
 have b1:∀ (X:List HeadD) (g:HeadD),al X++[[D.str n,D.int .i64 a],[D.str g.name,D.int .i64 g.at_]]=al (X++[⟨n,a⟩]++[g]):=fun X g=>by simp -implicitDefEqProofs [al,bc]
 have b2:∀ (X:List HeadD) (g:HeadD),al X++[[D.str g.name,D.int .i64 g.at_]]=al (X++[g]):=fun X g=>by simp -implicitDefEqProofs [al,bc]
 have b3:∀ (X:List HeadD),al X++[[D.str n,D.int .i64 a]]=al (X++[⟨n,a⟩]):=fun X=>by simp -implicitDefEqProofs [al,bc]
 refine ⟨⟨0,by simp -implicitDefEqProofs [a0]⟩,fun i hi _=>⟨fun hlt=>?_,fun hge=>?_⟩⟩
 ·have g:=HN (n:=n) (a:=a) hlt;have gl:=a7 i;generalize hX:hL n a (r.heads.take i)=X at g gl ⊢;obtain ⟨X,q⟩:=X;simp -implicitDefEqProofs [hlt,bc,D.asStr,D.asInt,and_assoc];rw [b1,b2,b3];have gl:X.length<=1048577:=gl;have fin:∀ (Y:List HeadD) (b:Bool),hL n a (r.heads.take (i+1))=(Y,b) -> ∀ c,b=c -> ∃ t',(hL n a (r.heads.take t')).2=c/\(t':Int)=i+1/\al (hL n a (r.heads.take t')).1=al Y/\al Y=al (hL n a (r.heads.take t')).1/\t'<=r.heads.length/\r.heads.length - t' < r.heads.length - i:=fun Y b h c hc=>⟨i+1,by rw [h]; exact hc,by omega,by rw [h],by rw [h],by omega,by omega⟩
  have fin2:∀ (Y:List HeadD) (b:Bool),hL n a (r.heads.take (i+1))=(Y,b) -> ∀ c,b=c -> ∃ t',(hL n a (r.heads.take t')).2=c/\(t':Int)=i+1/\(hL n a (r.heads.take t')).1=Y/\Y=(hL n a (r.heads.take t')).1/\t'<=r.heads.length/\r.heads.length - t' < r.heads.length - i:=fun Y b h c hc=>⟨i+1,by rw [h]; exact hc,by omega,by rw [h],by rw [h],by omega,by omega⟩
  refine ⟨fun hq=>⟨fun h=>⟨by omega,by omega,by omega,by omega,fun _ _=>fin _ q ?_ _ rfl⟩,fun h=>⟨by omega,by omega,fun _ _=>fin2 _ q ?_ _ rfl⟩⟩,
   fun hq=>⟨fun hb=>⟨by omega,by omega,fun h=>⟨by omega,by omega,by omega,by omega,fun _ _=>fin _ true ?_ _ rfl⟩,fun h=>⟨by omega,by omega,fun _ _=>fin _ true ?_ _ rfl⟩⟩,
    fun hb=>⟨fun h=>⟨by omega,by omega,by omega,by omega,fun _ _=>fin _ q ?_ _ rfl⟩,fun h=>⟨by omega,by omega,fun _ _=>fin2 _ q ?_ _ rfl⟩⟩⟩⟩
  all_goals rw [g]; unfold cN
  ·rw [if_neg (by simp -implicitDefEqProofs [hq]),if_neg h]
  ·rw [if_neg (by simp -implicitDefEqProofs [hq]),if_pos h]
  ·rw [if_pos ⟨hq,hb⟩,if_neg h]
  ·rw [if_pos ⟨hq,hb⟩,if_pos h]
  ·rw [if_neg (by simp -implicitDefEqProofs [hb]),if_neg h]
  ·rw [if_neg (by simp -implicitDefEqProofs [hb]),if_pos h]
 ·rw [List.take_of_length_le hge];have gl:=a7 r.heads.length;rw [List.take_length] at gl;rw [b3];refine ⟨fun h=>?_,fun h=>⟨by omega,?_⟩⟩
  ·unfold bv; rw [if_pos h]; exact ⟨rfl,rfl⟩
  ·unfold bv; rw [if_neg (by simp -implicitDefEqProofs [h])]; exact ⟨rfl,rfl⟩
def cq (r:RepoD) (n:Str) (c:CommitD):RepoD:=⟨r.commits++[c],bv r.heads n r.commits.length⟩
def ni:Con:=.fn 24 (RepoD × Str × CommitD) (fun a=>[aM a.1,.str a.2.1,.agg [.sl true 1 (ae a.2.2.parents),.str a.2.2.who,.sl true 2 (ac a.2.2.tree)]]) (fun a=>a.1.commits.length<=1048576/\a.1.heads.length<=1048576) (fun a=>.agg [.sl false 3 (aD (cq a.1 a.2.1 a.2.2).commits),.sl false 2 (al (cq a.1 a.2.1 a.2.2).heads)]) (fun _=>[])
theorem wB:Has Tryz.prog 115 ni:=by
 refine ah mixed aw (HasL.cons wC HasL.nil) [0,1,2,3,5,6,7] ((fun a n (_:Nat)=>(fun _=>az) a n)) [4109] Tryz.func115 (by unfold Tryz.f115; rfl) (fun _=>⟨(),trivial⟩) ?_
 intro a ha;obtain ⟨r,n,c⟩:=a;obtain ⟨h1,h2⟩:r.commits.length<=1048576/\r.heads.length<=1048576:=ha;simp -implicitDefEqProofs [ni,nj,Con.fn,ag,aN]
 try dsimp only
 exact ⟨by omega,by omega,fun _=>⟨⟨r.commits++[c],r.heads⟩,n,r.commits.length,⟨⟨by simp -implicitDefEqProofs [aD,bI],rfl⟩,rfl,rfl⟩,h2,rfl,rfl⟩⟩
def db (r:RepoD) (n:Str) (a:Int):RepoD × Bool:=if an r then (if 0<=atL r.heads n \/ an ⟨r.commits,bv r.heads n a⟩=false then (r,false) else (⟨r.commits,bv r.heads n a⟩,true)) else (⟨[],[]⟩,false)
def uw:Con:=.fn 30 (RepoD × Str × Int) (fun a=>[aM a.1,.str a.2.1,.int .i64 a.2.2]) (fun a=>dI a.1) (fun a=>.tup [.agg [.sl false 3 (aD (db a.1 a.2.1 a.2.2).1.commits),.sl false 2 (al (db a.1 a.2.1 a.2.2).1.heads)],.bool (db a.1 a.2.1 a.2.2).2]) (fun _=>[])
theorem NP:Has Tryz.prog 126 uw:=by
 refine ah mixed aw (HasL.cons jl (HasL.cons nQ (HasL.cons wC (HasL.cons jk HasL.nil)))) [0,1,2,3,6,7,8] ((fun a n (_:Nat)=>(fun _=>az) a n)) [] Tryz.func126 (by unfold Tryz.f126; rfl) (fun _=>⟨(),trivial⟩) ?_
 intro a ha;obtain ⟨r,n,at_⟩:=a;replace ha:dI r:=ha;have ha2:=ha;obtain ⟨h1,h2,h3⟩:r.commits.length<=1048576/\(∀ c ∈ r.commits,lU c)/\r.heads.length<=1048576:=ha2;simp -implicitDefEqProofs [uw,hD,kD,nj,gm,Con.fn,ag,aN]
 try dsimp only
 have e0:an r=false->db r n at_=(⟨[],[]⟩,false):=fun h=>by unfold db; rw [if_neg (by simp -implicitDefEqProofs [h])]
 have e1:an r=true->(0<=atL r.heads n \/ an ⟨r.commits,bv r.heads n at_⟩=false)->db r n at_=(r,false):=fun h h2=>by unfold db; rw [if_pos h,if_pos h2]
 have e2:an r=true -> ¬ (0<=atL r.heads n \/ an ⟨r.commits,bv r.heads n at_⟩=false)->db r n at_=(⟨r.commits,bv r.heads n at_⟩,true):=fun h h2=>by unfold db; rw [if_pos h,if_neg h2]
 refine ⟨by omega,fun h=>by rw [e0 h]; exact ⟨⟨rfl,rfl⟩,rfl⟩,fun h=>⟨ha,r,n,at_,⟨⟨rfl,rfl⟩,rfl,rfl⟩,h3,r,n,⟨⟨rfl,rfl⟩,rfl⟩,fun hq=>⟨ha,by rw [e1 h (.inl hq)]; exact ⟨⟨rfl,rfl⟩,rfl⟩⟩,fun hq=>⟨by omega,fun ho=>⟨ha,by rw [e1 h (.inr ho)]; exact ⟨⟨rfl,rfl⟩,rfl⟩⟩,fun ho=>?_⟩⟩⟩
 rw [e2 h (by rintro (q | q); omega; rw [ho] at q; cases q)]; exact ⟨⟨rfl,rfl⟩,rfl⟩
def iI (r:RepoD) (n who:Str) (t:List FileD):CommitD:=⟨if 0<=atL r.heads n then [atL r.heads n] else [],who,t⟩
def dz (r:RepoD) (n who:Str) (t:List FileD):RepoD × Bool:=if an r then (if an (cq r n (iI r n who t)) then (cq r n (iI r n who t),true) else (r,false)) else (⟨[],[]⟩,false)
def uz:Con:=.fn 40 (RepoD × Str × Str × List FileD) (fun a=>[aM a.1,.str a.2.1,.str a.2.2.1,.sl true 2 (ac a.2.2.2)]) (fun a=>dI a.1/\a.2.2.2.length<=1048576 /\ ∀ f ∈ a.2.2.2,f.text.length<=1048576) (fun a=>.tup [.agg [.sl false 3 (aD (dz a.1 a.2.1 a.2.2.1 a.2.2.2).1.commits),.sl false 2 (al (dz a.1 a.2.1 a.2.2.1 a.2.2.2).1.heads)],.bool (dz a.1 a.2.1 a.2.2.1 a.2.2.2).2]) (fun _=>[])
theorem NU:Has Tryz.prog 182 uz:=by
 refine ah mixed aw (HasL.cons jl (HasL.cons me (HasL.cons jk (HasL.cons nQ (HasL.cons wB HasL.nil))))) [0,1,2,3,4,8,9,10,11] ((fun a n (_:Nat)=>(fun _=>az) a n)) [] Tryz.func182 (by unfold Tryz.f182; rfl) (fun _=>⟨(),trivial⟩) ?_
 intro a ha;obtain ⟨r,n,who,t⟩:=a;obtain ⟨ha,h4,h5⟩:dI r/\t.length<=1048576 /\ ∀ f ∈ t,f.text.length<=1048576:=ha;have ha2:=ha;obtain ⟨h1,h2,h3⟩:r.commits.length<=1048576/\(∀ c ∈ r.commits,lU c)/\r.heads.length<=1048576:=ha2;simp -implicitDefEqProofs [uz,hD,kD,ni,gm,jH,Con.fn,ag,aN]
 try dsimp only
 have e0:an r=false->dz r n who t=(⟨[],[]⟩,false):=fun h=>by unfold dz; rw [if_neg (by simp -implicitDefEqProofs [h])]
 have e1:an r=true->an (cq r n (iI r n who t))=false->dz r n who t=(r,false):=fun h h2=>by unfold dz; rw [if_pos h,if_neg (by simp -implicitDefEqProofs [h2])]
 have e2:an r=true->an (cq r n (iI r n who t))=true->dz r n who t=(cq r n (iI r n who t),true):=fun h h2=>by unfold dz; rw [if_pos h,if_pos h2]
 have hl:∀ c,(cq r n c).commits.length<=1073741824:=fun c=>by simp -implicitDefEqProofs [cq]; omega
 refine ⟨by omega,fun h=>by rw [e0 h]; exact ⟨⟨rfl,rfl⟩,rfl⟩,fun h=>⟨⟨h4,h5⟩,r,n,⟨⟨rfl,rfl⟩,rfl⟩,fun hq=>?_,fun hq=>?_⟩⟩
 ·have hc:iI r n who t=⟨[atL r.heads n],who,t⟩:=by unfold iI; rw [if_pos hq]
  rw [hc] at e1 e2;refine ⟨r,n,⟨⟨rfl,rfl⟩,rfl⟩,ha,r,n,⟨[atL r.heads n],who,t⟩,⟨⟨rfl,rfl⟩,rfl,rfl,rfl,rfl⟩,⟨h1,h3⟩,hl _,fun ho=>⟨ha,by rw [e1 h ho]; exact ⟨⟨rfl,rfl⟩,rfl⟩⟩,fun ho=>by rw [e2 h ho]; exact ⟨⟨rfl,rfl⟩,rfl⟩⟩
 ·have hc:iI r n who t=⟨[],who,t⟩:=by unfold iI; rw [if_neg (by omega)]
  rw [hc] at e1 e2;refine ⟨ha,r,n,⟨[],who,t⟩,⟨⟨rfl,rfl⟩,rfl,rfl,rfl,rfl⟩,⟨h1,h3⟩,hl _,fun ho=>⟨ha,by rw [e1 h ho]; exact ⟨⟨rfl,rfl⟩,rfl⟩⟩,fun ho=>by rw [e2 h ho]; exact ⟨⟨rfl,rfl⟩,rfl⟩⟩
def fX (t:List FileD) (p:Str):List FileD × Bool:=if aR t then (aE (bH p) t,decide ((aE (bH p) t).length < t.length)) else ([],false)
def uN:Con:=.fn 20 (List FileD × Str) (fun a=>[.sl true 2 (ac a.1),.str a.2]) (fun a=>a.1.length<=1048576 /\ ∀ f ∈ a.1,f.text.length<=1048576) (fun a=>.tup [.sl false 2 (ac (fX a.1 a.2).1),.bool (fX a.1 a.2).2]) (fun _=>[])
theorem PD:Has Tryz.prog 124 uN:=by
 refine ah mixed aw (HasL.cons nP (HasL.cons me (HasL.cons AY HasL.nil))) [0,1,4,5,6] ((fun a n (_:Nat)=>(fun _=>az) a n)) [] Tryz.func124 (by unfold Tryz.f124; rfl) (fun _=>⟨(),trivial⟩) ?_
 intro a ha;obtain ⟨t,p⟩:=a;obtain ⟨h1,h2⟩:t.length<=1048576 /\ ∀ f ∈ t,f.text.length<=1048576:=ha;simp -implicitDefEqProofs [uN,kC,jH,pI,Con.fn,ag]
 try dsimp only
 refine ⟨fun h=>by unfold fX; rw [if_neg (by simp -implicitDefEqProofs [h])]; exact ⟨rfl,rfl⟩,fun h=>⟨⟨h1,h2⟩,t,p,⟨rfl,rfl⟩,h1,fun _ _=>by unfold fX; rw [if_pos h]; exact ⟨rfl,rfl⟩⟩⟩
def jo (p:Str) (f:FileD):Bool:=decide (f.path=p) || inB p f.path
def gA (p to:Str) (o:List FileD) (f:FileD):List FileD:=if jo p f then fU o ⟨to++f.path.drop p.length,f.text⟩ else o
def cU (p to:Str) (o:List FileD) (t:List FileD):List FileD:=t.foldl (gA p to) o
theorem Lq {p to:Str} {o t:List FileD} {i:Nat} (h:i < t.length):cU p to o (t.take (i+1))=gA p to (cU p to o (t.take i)) t[i]:=by
 unfold cU;rw [aX h,List.foldl_append]; rfl
theorem Lp (p to:Str) (o t:List FileD):(cU p to o t).length<=o.length+t.length:=by
 unfold cU
 induction t generalizing o with
 | nil=>simp
 | cons f t ih =>
  have h1:=ih (gA p to o f);have h2:(gA p to o f).length<=o.length+1:=by
   unfold gA;split
   ·exact OA _ _
   ·omega
  simp only [List.foldl_cons,List.length_cons];omega
theorem H8 {p q:Str} (h:inB p q=true):p.length < q.length:=by
 unfold inB at h;simp only [Bool.and_eq_true,decide_eq_true_eq] at h;omega
def ep (t:List FileD) (p to:Str):List FileD × Bool :=
 if aR t then
  (if (aE (bH p) t).length=t.length \/ dg to=false then (t,false)
  else if aR (cU p to (aE (bH p) t) t)=false \/ ¬ (cU p to (aE (bH p) t) t).length=t.length then (t,false)
  else (cU p to (aE (bH p) t) t,true))
 else ([],false)
def mvO (t:List FileD) (p to:Str):Inv:=⟨Nat,fun i=>⟨[(0,true,.sl true 2 (ac t)),(1,true,.str p),(2,true,.str to),(6,true,.nil),(7,true,.bool false),(8,true,.sl false 2 (ac (cU p to (aE (bH p) t) (t.take i)))),(9,true,.int .i64 t.length),(10,true,.int .i64 i)],[]⟩,fun i=>i<=t.length/\aR t=true,fun i=>t.length - i⟩
def uP:Con:=.fn 84 (List FileD × Str × Str) (fun a=>[.sl true 2 (ac a.1),.str a.2.1,.str a.2.2]) (fun a=>a.1.length<=1048576/\(∀ f ∈ a.1,f.text.length<=1048576)/\a.2.2.length<=1048576 /\ ∀ f ∈ a.1,f.path.length<=1048576) (fun a=>.tup [.sl false 2 (ac (ep a.1 a.2.1 a.2.2).1),.bool (ep a.1 a.2.1 a.2.2).2]) (fun _=>[])
theorem PG:Has Tryz.prog 125 uP:=by
 refine ah mixed aw (HasL.cons nP (HasL.cons me (HasL.cons AY (HasL.cons wx (HasL.cons qN (HasL.cons AZ HasL.nil)))))) [0,1,2,6,7,8,9,10] ((fun a n (_:Nat)=>(fun a _=>mvO a.1 a.2.1 a.2.2) a n)) [] Tryz.func125 (by unfold Tryz.f125; rfl) (fun _=>⟨(),trivial⟩) ?_
 intro a ha;obtain ⟨t,p,to⟩:=a;obtain ⟨h1,h2,h3,h4⟩:t.length<=1048576/\(∀ f ∈ t,f.text.length<=1048576)/\to.length<=1048576 /\ ∀ f ∈ t,f.path.length<=1048576:=ha;simp -implicitDefEqProofs [uP,kC,jH,pI,ng,lP,pJ,Con.fn,ag,mvO]
 try dsimp only
 have e0:aR t=false->ep t p to=([],false):=fun h=>by unfold ep; rw [if_neg (by simp -implicitDefEqProofs [h])]
 have e1:aR t=true->((aE (bH p) t).length=t.length \/ dg to=false)->ep t p to=(t,false):=fun h q=>by unfold ep; rw [if_pos h,if_pos q]
 have e2:aR t=true -> ¬ ((aE (bH p) t).length=t.length \/ dg to=false)->(aR (cU p to (aE (bH p) t) t)=false \/ ¬ (cU p to (aE (bH p) t) t).length=t.length)->ep t p to=(t,false):=fun h q w=>by unfold ep; rw [if_pos h,if_neg q,if_pos w]
 have e3:aR t=true -> ¬ ((aE (bH p) t).length=t.length \/ dg to=false) -> ¬ (aR (cU p to (aE (bH p) t) t)=false \/ ¬ (cU p to (aE (bH p) t) t).length=t.length)->ep t p to=(cU p to (aE (bH p) t) t,true):=fun h q w=>by unfold ep; rw [if_pos h,if_neg q,if_neg w]
 refine ⟨fun h=>by rw [e0 h]; exact ⟨rfl,rfl⟩,fun h=>⟨⟨h1,h2⟩,t,p,⟨rfl,rfl⟩,h1,fun _ _=>⟨fun q=>⟨⟨h1,h2⟩,by rw [e1 h (.inl (by omega))]; exact ⟨rfl,rfl⟩⟩,fun q=>⟨fun w=>⟨⟨h1,h2⟩,by rw [e1 h (.inr w)]; exact ⟨rfl,rfl⟩⟩,fun w _=>⟨⟨0,⟨by simp -implicitDefEqProofs [cU],rfl⟩,Nat.zero_le _,h⟩,fun i hi _ _=>⟨fun hlt=>?_,fun hge=>?_⟩⟩⟩⟩⟩⟩
 ·have g:=Lq (p:=p) (to:=to) (o:=aE (bH p) t) hlt;have h8:=(iA t h).1;have gl:=Lp p to (aE (bH p) t) (t.take i);have gf:=List.length_filter_le (bH p) t;have gf:(aE (bH p) t).length<=t.length:=gf;have gt:(t.take i).length<=t.length:=by simp; omega
  have gp:=h4 _ (List.getElem_mem hlt);have gx:=h2 _ (List.getElem_mem hlt);have gi:=@H8 p t[i].path;clear e0 e1 e2 e3;generalize cU p to (aE (bH p) t) (t.take i)=X at g gl ⊢;simp -implicitDefEqProofs [hlt,aq,D.asStr,D.asRows,and_assoc];have gtk:List.take (List.length t[i].path - List.length p) (List.drop (List.length p) t[i].path)=t[i].path.drop p.length:=List.take_of_length_le (by simp)
  rw [gtk];have hm:maxLen=9223372036854775807:=rfl;refine ⟨fun e=>⟨by rw [e]; omega,fun _=>⟨by omega,fun _=>⟨by omega,gx,by omega,by omega,fun _ _=>⟨i+1,?_,by omega,by omega,h,by omega⟩⟩⟩⟩,
   fun e=>⟨fun c=>⟨by have:=gi c; omega,fun _=>⟨by omega,fun _=>⟨by omega,gx,by omega,by omega,fun _ _=>⟨i+1,?_,by omega,by omega,h,by omega⟩⟩⟩⟩,fun c=>⟨by omega,by omega,fun _ _=>⟨i+1,?_,by omega,by omega,h,by omega⟩⟩⟩⟩
  ·rw [g]; unfold gA; rw [if_pos (by simp -implicitDefEqProofs [jo,e])]
  ·rw [g]; unfold gA; rw [if_pos (by simp -implicitDefEqProofs [jo,c])]
  ·rw [g]; unfold gA; rw [if_neg (by simp -implicitDefEqProofs [jo,c,e])]
 ·rw [List.take_of_length_le hge];have hn:¬ ((aE (bH p) t).length=t.length \/ dg to=false):=by rintro (c | c); omega; rw [w] at c; cases c
  have e2:=e2 h hn;have e3:=e3 h hn;generalize cU p to (aE (bH p) t) t=X at e2 e3 ⊢;refine ⟨fun c=>⟨⟨h1,h2⟩,by rw [e2 (.inl c)]; exact ⟨rfl,rfl⟩⟩,fun c _=>⟨fun d=>⟨⟨h1,h2⟩,by rw [e2 (.inr (by omega))]; exact ⟨rfl,rfl⟩⟩,fun d=>?_⟩⟩
  rw [e3 (by rintro (k | k); rw [c] at k; cases k; omega)]; exact ⟨rfl,rfl⟩
theorem wK {a b c:Str} (h:Go.Op.bytesLess a b=true) (h':Go.Op.bytesLess b c=true):Go.Op.bytesLess a c=true:=by
 rw [fF,decide_eq_true_eq] at *;exact List.lt_trans h h'
theorem qT (a:Str):Go.Op.bytesLess a a=false:=by
 rw [fF,decide_eq_false_iff_not];exact List.lt_irrefl a
theorem PL {t:List FileD} (h:aC t=true):∀ j i,(hij:i < j)->(hj:j < t.length)->Go.Op.bytesLess (t[i]'(by omega)).path t[j].path=true:=by
 have hs:∀ j,(h0:0 < j)->(hj:j < t.length)->Go.Op.bytesLess (t[j - 1]'(by omega)).path t[j].path=true:=by
  intro j h0 hj;simp only [aC,Bool.and_eq_true,List.all_eq_true,List.mem_range] at h;have h2:=(h.2 j hj).1;simp only [dX,Bool.and_eq_true,Bool.or_eq_true,decide_eq_true_eq] at h2;rcases h2.2 with h3 | h3
  ·omega
  ·simpa [List.getD_eq_getElem?_getD,hj,(show j - 1 < t.length by omega)] using h3
 intro j
 induction j with
 | zero=>intro i hi; omega
 | succ j ih =>
  intro i hi hj;have h1:=hs (j+1) (by omega) hj
  by_cases e:i=j
  ·subst e; exact h1
  ·exact wK (ih i (by omega) (by omega)) h1
def bX:List Str->Str->List Str
 | [],s=>[s]
 | x :: l,s=>if Go.Op.bytesLess x s then x :: bX l s else if x=s then x :: l else s :: x :: l
theorem Nt (l:List Str) (s:Str):(bX l s).length<=l.length+1:=by
 induction l with
 | nil=>simp -implicitDefEqProofs [bX]
 | cons x l ih =>
  unfold bX;split
  ·simp; omega
  ·split <;> simp
theorem Nw {l:List Str} {s:Str} {k:Nat} (h:k < l.length) (hp:l.take k++bX (l.drop k) s=bX l s) (hl:Go.Op.bytesLess l[k] s=true):l.take (k+1)++bX (l.drop (k+1)) s=bX l s:=by
 rw [List.drop_eq_getElem_cons h,bX,if_pos hl] at hp;rw [aX h,List.append_assoc];exact hp
theorem Nr {l:List Str} {s:Str} {k:Nat} (h:l.length<=k) (hp:l.take k++bX (l.drop k) s=bX l s):bX l s=l.take k++[s]++l.drop k:=by
 rw [List.drop_eq_nil_of_le h] at hp ⊢;rw [<- hp]; simp -implicitDefEqProofs [bX]
theorem Ns {l:List Str} {s:Str} {k:Nat} (h:k < l.length) (hp:l.take k++bX (l.drop k) s=bX l s) (hl:Go.Op.bytesLess l[k] s=false) (he:l[k]=s):bX l s=l:=by
 rw [List.drop_eq_getElem_cons h,bX,if_neg (by simp -implicitDefEqProofs [hl]),if_pos he,<- List.drop_eq_getElem_cons h,List.take_append_drop] at hp
 exact hp.symm
theorem Nu {l:List Str} {s:Str} {k:Nat} (h:k < l.length) (hp:l.take k++bX (l.drop k) s=bX l s) (hl:Go.Op.bytesLess l[k] s=false) (he:¬ l[k]=s):bX l s=l.take k++[s]++l.drop k:=by
 rw [List.drop_eq_getElem_cons h,bX,if_neg (by simp -implicitDefEqProofs [hl]),if_neg he,<- List.drop_eq_getElem_cons h] at hp
 rw [<- hp]; simp
def cf (l:List Str) (t:List FileD):List Str:=t.foldl (fun l f=>bX l f.path) l
theorem xm {l:List Str} {t:List FileD} {i:Nat} (h:i < t.length):cf l (t.take (i+1))=bX (cf l (t.take i)) t[i].path:=by
 unfold cf;rw [aX h,List.foldl_append]; rfl
theorem j6 (t:List FileD):∀ l,(cf l t).length<=l.length+t.length:=by
 induction t with
 | nil=>intro l; simp -implicitDefEqProofs [cf]
 | cons f t ih =>
  intro l;have h1:=ih (bX l f.path);have h2:=Nt l f.path
  show (cf (bX l f.path) t).length<=_
  simp only [List.length_cons];omega
def aZ (o a b:List FileD):List Str:=cf (cf (cf [] o) a) b
theorem CB (o a b:List FileD):(aZ o a b).length<=o.length+a.length+b.length:=by
 have h1:=j6 b (cf (cf [] o) a);have h2:=j6 a (cf [] o);have h3:=j6 o [];simp at h3
 show (cf (cf (cf [] o) a) b).length<=_
 omega
def c6 (a b:List Str × Bool):Bool:=decide (a.2=b.2) && (!a.2 || decide (a.1=b.1))
def ce (o a b:List FileD) (p:Str):List Str × Bool × Int :=
 if c6 (au a p) (au o p) || c6 (au a p) (au b p) then ((au b p).1,(au b p).2,0)
 else if c6 (au b p) (au o p) then ((au a p).1,(au a p).2,0)
 else if !(au a p).2 || !(au b p).2 then ((au o p).1,(au o p).2,1)
 else if !(au o p).2 then ([],false,2)
 else if (dd (of3 (au o p).1 (au a p).1 (au b p).1)).2 then ((dd (of3 (au o p).1 (au a p).1 (au b p).1)).1,true,0)
 else ((au o p).1,true,3)
theorem ii {t:List FileD} {n:Nat} (h:∀ f ∈ t,f.text.length<=n) (p:Str):(au t p).1.length<=n:=by
 induction t with
 | nil=>simp -implicitDefEqProofs [au]
 | cons f t ih =>
  unfold au;split
  ·exact h f (by simp)
  ·exact ih fun g hg=>h g (by simp -implicitDefEqProofs [hg])
theorem lq {t:List Str} (h:bg t=true):t.length<=10:=by
 unfold bg at h;simp only [Bool.and_eq_true,decide_eq_true_eq] at h;exact h.1
theorem Pu (l:List PartD):(dd l).1.length<=10:=by
 unfold dd;split
 ·simp
 ·split
  ·rename_i h; exact lq h
  ·simp
theorem BM {o a b:List FileD} {p:Str} {n:Nat} (hn:10<=n) (ho:∀ f ∈ o,f.text.length<=n) (ha:∀ f ∈ a,f.text.length<=n) (hb:∀ f ∈ b,f.text.length<=n):(ce o a b p).1.length<=n:=by
 have h1:=ii ho p;have h2:=ii ha p;have h3:=ii hb p;have h4:=Pu (of3 (au o p).1 (au a p).1 (au b p).1);unfold ce;split
 ·exact h3
 ·split
  ·exact h2
  ·split
   ·exact h1
   ·split
    ·simp
    ·split
     ·show (dd _).1.length<=n; omega
     ·exact h1
def stepJ (o a b:List FileD) (s:List FileD × List HeadD) (p:Str):List FileD × List HeadD :=
 (if (ce o a b p).2.1 then s.1++[⟨p,(ce o a b p).1⟩] else s.1,if 0 < (ce o a b p).2.2 then s.2++[⟨p,(ce o a b p).2.2⟩] else s.2)
def dv (o a b:List FileD) (l:List Str):List FileD × List HeadD:=l.foldl (stepJ o a b) ([],[])
theorem Dj {o a b:List FileD} {l:List Str} {i:Nat} (h:i < l.length):dv o a b (l.take (i+1))=stepJ o a b (dv o a b (l.take i)) l[i]:=by
 unfold dv;rw [aX h,List.foldl_append]; rfl
theorem C9 (o a b:List FileD) (l:List Str):(dv o a b l).1.length<=l.length/\(dv o a b l).2.length<=l.length:=by
 have:∀ (l:List Str) (s:List FileD × List HeadD),(l.foldl (stepJ o a b) s).1.length<=s.1.length+l.length/\(l.foldl (stepJ o a b) s).2.length<=s.2.length+l.length:=by
  intro l
  induction l with
  | nil=>intro s; simp
  | cons p l ih =>
   intro s;obtain ⟨h1,h2⟩:=ih (stepJ o a b s p);have h3:(stepJ o a b s p).1.length<=s.1.length+1/\(stepJ o a b s p).2.length<=s.2.length+1:=by
    unfold stepJ;constructor
    ·show (if _ then _ else _:List FileD).length<=_
     split <;> simp
    ·show (if _ then _ else _:List HeadD).length<=_
     split <;> simp
   simp only [List.foldl_cons,List.length_cons];omega
 have:=this l ([],[])
 simpa [dv] using this
def of6 (o a b:List FileD):List FileD × List HeadD:=dv o a b (aZ o a b)
def bZ (o a b:List FileD):List FileD × List HeadD:=if (of6 o a b).2=[]/\aR (of6 o a b).1=false then (o,[⟨[],4⟩]) else of6 o a b
theorem IB {o a b:List FileD} (h:(bZ o a b).2=[]):aR (bZ o a b).1=true:=by
 unfold bZ at h ⊢;split
 ·rename_i h2; rw [if_pos h2] at h; simp at h
 ·rename_i h2;rw [if_neg h2] at h;cases hq:aR (of6 o a b).1 with
  | true=>rfl
  | false=>exact absurd ⟨h,hq⟩ h2
def cL (r:RepoD) (a b:Int) (i:Nat):List Int:=((ak (anc r a)).take i).filter fun x=>decide (x ∈ ak (anc r b))
def kw (r:RepoD) (l:List Int) (i k:Nat):Bool:=(List.range k).all fun j=>decide (j=i) || !decide (l.getD i 0 ∈ ak (anc r (l.getD j 0)))
def ec (r:RepoD) (l:List Int) (i:Nat):List Int:=((List.range i).filter fun j=>kw r l j l.length).map fun j=>l.getD j 0
def eh (r:RepoD) (a b:Int):List Int:=ec r (cL r a b (ak (anc r a)).length) (cL r a b (ak (anc r a)).length).length
def dk (r:RepoD) (a b:Int):List FileD:=match (eh r a b).getLast? with
 | none=>[]
 | some c=>aj r c
def noR:RepoD:=⟨[],[]⟩
def dS (r:RepoD) (n w:Str) (b:Int):RepoD × Int :=
 if b ∈ ak (anc r (atL r.heads n)) then (r,2)
 else if atL r.heads n ∈ ak (anc r b) then (⟨r.commits,bv r.heads n b⟩,3)
 else if (bZ (dk r (atL r.heads n) b) (aj r (atL r.heads n)) (aj r b)).2=[] then
  (if an (cq r n ⟨[atL r.heads n,b],w,(bZ (dk r (atL r.heads n) b) (aj r (atL r.heads n)) (aj r b)).1⟩) then
   (cq r n ⟨[atL r.heads n,b],w,(bZ (dk r (atL r.heads n) b) (aj r (atL r.heads n)) (aj r b)).1⟩,0) else (r,5))
 else (r,4)
def cI (r:RepoD) (n w:Str) (b:Int):RepoD × Int :=
 if an r then (if atL r.heads n < 0 \/ aQ w=false \/ ¬ (0<=b/\b < r.commits.length) then (r,1) else dS r n w b) else (noR,1)
def er (r:RepoD) (c:Int):List FileD:=match (r.commits.getD c.toNat default).parents with
 | []=>[]
 | p :: _=>aj r p
def dy (r:RepoD) (n w:Str) (o b:List FileD):RepoD × Int :=
 if (bZ o (aj r (atL r.heads n)) b).2=[] then
  (if an (cq r n ⟨[atL r.heads n],w,(bZ o (aj r (atL r.heads n)) b).1⟩) then (cq r n ⟨[atL r.heads n],w,(bZ o (aj r (atL r.heads n)) b).1⟩,0) else (r,5))
 else (r,4)
def ck (back:Bool) (r:RepoD) (n w:Str) (c:Int):RepoD × Int :=
 if an r then (if atL r.heads n < 0 \/ aQ w=false \/ ¬ (0<=c/\c < r.commits.length) then (r,1)
  else if back then dy r n w (aj r c) (er r c) else dy r n w (er r c) (aj r c)) else (noR,1)
theorem qr:∀ {l:List HeadD},(∀ i,0 < i->i < l.length->Go.Op.bytesLess (l.getD (i - 1) default).name (l.getD i default).name=true)->l.Pairwise fun a b=>Go.Op.bytesLess a.name b.name=true
 | [],_=>.nil
 | [x],_=>by simp
 | x :: y :: t,h=>by
  have ih:=qr (l:=y :: t) fun i h1 h2=>by
   have:=h (i+1) (by omega) (by simp only [List.length_cons] at h2 ⊢; omega)
   rw [show i+1 - 1=(i - 1)+1 by omega,List.getD_cons_succ,List.getD_cons_succ] at this
   exact this
  have hxy:=h 1 (by omega) (by simp)
  have hxy:Go.Op.bytesLess x.name y.name=true:=by simpa using hxy
  refine List.pairwise_cons.2 ⟨fun z hz=>?_,ih⟩;rcases List.mem_cons.1 hz with rfl | hz
  ·exact hxy
  ·exact wK hxy ((List.pairwise_cons.1 ih).1 z hz)
theorem qp (n:Str) (a:Int):∀ (l X:List HeadD),l.foldl (cN n a) (X,true)=(X++l.filter (fun g=>decide (g.name ≠ n)),true)
 | [],X=>by simp
 | g :: l,X=>by
  rw [List.foldl_cons];by_cases h:g.name=n
  ·have e:cN n a (X,true) g=(X,true):=by unfold cN; simp -implicitDefEqProofs [h]
   rw [e,qp n a l X]; simp -implicitDefEqProofs [h]
  ·have e:cN n a (X,true) g=(X++[g],true):=by unfold cN; simp -implicitDefEqProofs [h]
   rw [e,qp n a l (X++[g])]; simp -implicitDefEqProofs [h]
def hAt (n:Str) (a:Int) (h:HeadD):HeadD:=if h.name=n then ⟨n,a⟩ else h
theorem zW (n:Str) (a:Int):∀ (l X:List HeadD),(l.Pairwise fun a b=>Go.Op.bytesLess a.name b.name=true)->(∃ h ∈ l,h.name=n)->l.foldl (cN n a) (X,false)=(X++l.map (hAt n a),true)
 | [],X,_,h=>by obtain ⟨_,h,_⟩:=h; simp at h
 | g :: l,X,hp,hn=>by
  obtain ⟨hp1,hp2⟩:=List.pairwise_cons.1 hp;rw [List.foldl_cons];by_cases h:g.name=n
  ·have e:cN n a (X,false) g=(X++[⟨n,a⟩],true):=by unfold cN; simp -implicitDefEqProofs [h,qT]
   have hne:∀ z ∈ l,¬ z.name=n:=fun z hz hc=>by
    have:=hp1 z hz;rw [h,hc,qT] at this;cases this
   have e2:l.filter (fun g=>decide (g.name ≠ n))=l:=by rw [List.filter_eq_self]; intro z hz; simp -implicitDefEqProofs [hne z hz]
   have e3:l.map (hAt n a)=l:=by
    have:l.map (hAt n a)=l.map id:=List.map_congr_left fun z hz=>by simp -implicitDefEqProofs [hAt,hne z hz]
    rw [this]; simp
   rw [e,qp,e2]; simp -implicitDefEqProofs [e3,hAt,h]
  ·obtain ⟨z,hz,hzn⟩:=hn;have hz:z ∈ l:=by
    rcases List.mem_cons.1 hz with rfl | hz
    ·exact absurd hzn h
    ·exact hz
   have hl:Go.Op.bytesLess g.name n=true:=by rw [<- hzn]; exact hp1 z hz
   have e:cN n a (X,false) g=(X++[g],false):=by unfold cN; simp -implicitDefEqProofs [h,hl]
   rw [e,zW n a l (X++[g]) hp2 ⟨z,hz,hzn⟩]; simp -implicitDefEqProofs [hAt,h]
theorem vO {l:List HeadD} {n:Str} {a:Int} (hl:∀ i,0 < i->i < l.length->Go.Op.bytesLess (l.getD (i - 1) default).name (l.getD i default).name=true) (hn:∃ h ∈ l,h.name=n) :
  bv l n a=l.map (hAt n a):=by
 unfold bv hL;rw [zW n a l [] (qr hl) hn];simp
theorem EX {l:List HeadD} {n:Str} (h:0<=atL l n):∃ h ∈ l,h.name=n:=by
 induction l with
 | nil=>simp -implicitDefEqProofs [atL] at h
 | cons g l ih =>
  unfold atL at h;split at h
  ·rename_i e; exact ⟨g,by simp,e⟩
  ·obtain ⟨x,h1,h2⟩:=ih h; exact ⟨x,by simp -implicitDefEqProofs [h1],h2⟩
theorem mS {l:List HeadD} {n:Str} {k:Nat} (hl:dn k l=true):atL l n < k /\ -1<=atL l n \/ atL l n = -1:=by
 have h2:=((eY _ _).1 hl).2;have:∀ (l':List HeadD),(∀ h ∈ l',0<=h.at_/\h.at_ < k)->atL l' n < k /\ -1<=atL l' n \/ atL l' n = -1:=by
  intro l'
  induction l' with
  | nil=>intro _; right; rfl
  | cons g l' ih =>
   intro h;unfold atL;split
   ·left; have:=h g (by simp); omega
   ·exact ih fun x hx=>h x (by simp -implicitDefEqProofs [hx])
 refine this l fun h hh=>?_;obtain ⟨i,hi,rfl⟩:=List.getElem_of_mem hh;have:=h2 i hi;simp only [dM,inN,List.getD_eq_getElem?_getD,List.getElem?_eq_getElem hi,Option.getD_some,Bool.and_eq_true,decide_eq_true_eq] at this;omega
theorem HV {k:Nat} {l:List HeadD} {n:Str} {b:Int} (h:dn k l=true) (hn:0<=atL l n) (hb:0<=b/\b < k):dn k (bv l n b)=true:=by
 obtain ⟨h1,h2⟩:=(eY _ _).1 h;have hg:∀ i (hi:i < l.length),l.getD i default=l[i]:=fun i hi=>by simp -implicitDefEqProofs [List.getD_eq_getElem?_getD,hi]
 rw [vO (fun i h3 h4=>by
  have:=h2 i h4;unfold dM at this;simp only [Bool.and_eq_true,Bool.or_eq_true,decide_eq_true_eq] at this;rcases this.2 with h5 | h5
  ·omega
  ·exact h5) (EX hn),eY]
 have hm:∀ i (hi:i < l.length),(l.map (hAt n b)).getD i default=hAt n b l[i]:=fun i hi=>by simp -implicitDefEqProofs [List.getD_eq_getElem?_getD,hi]
 have hname:∀ g:HeadD,(hAt n b g).name=g.name:=fun g=>by unfold hAt; split <;> simp_all
 refine ⟨by simpa using h1,fun i hi=>?_⟩
 have hi:i < l.length:=by simpa using hi
 have h3:=h2 i hi;unfold dM at h3 ⊢;rw [hm i hi,hname];rw [hg i hi] at h3;have hat:inN k (hAt n b l[i]).at_=true:=by
  simp only [Bool.and_eq_true] at h3;unfold hAt;split
  ·simp only [inN,Bool.and_eq_true,decide_eq_true_eq]; omega
  ·exact h3.1.2
 rw [hat];rcases Nat.eq_zero_or_pos i with h0 | h0
 ·subst h0;simp only [Bool.and_eq_true] at h3;simp -implicitDefEqProofs [h3.1.1]
 ·rw [hm (i - 1) (by omega),hname]
  rw [hg (i - 1) (by omega)] at h3
  simp only [Bool.and_eq_true] at h3 ⊢;exact ⟨⟨h3.1.1,trivial⟩,h3.2⟩
theorem NY {r:RepoD} {n:Str} {b:Int} (h:an r=true) (hn:0<=atL r.heads n) (hb:0<=b/\b < r.commits.length):an ⟨r.commits,bv r.heads n b⟩=true:=by
 obtain ⟨h1,h2,h3⟩:=(be r).1 h;exact (be _).2 ⟨h1,HV h2 hn hb,h3⟩
theorem nL (l:List HeadD) (n:Str) (a:Int):bv l n a ≠ []:=by
 have:∀ (l:List HeadD) (s:List HeadD × Bool),(s.2=true->s.1 ≠ [])->((l.foldl (cN n a) s).2=true->(l.foldl (cN n a) s).1 ≠ []):=by
  intro l
  induction l with
  | nil=>intro s h; exact h
  | cons g l ih =>
   intro s h;refine ih (cN n a s g) ?_;unfold cN;split
   ·split <;> simp
   ·split
    ·exact h
    ·simp
 unfold bv;split
 ·rename_i h; exact this l ([],false) (by simp) h
 ·simp
theorem PT {r:RepoD} {n w:Str} {b:Int} (h:an r=true) (hn:0<=atL r.heads n) (hb:0<=b/\b < r.commits.length) (hh:r.commits ≠ []->r.heads ≠ []) :
  an (dS r n w b).1=true/\((dS r n w b).1.commits ≠ []->(dS r n w b).1.heads ≠ []):=by
 unfold dS;split
 ·exact ⟨h,hh⟩
 ·split
  ·exact ⟨NY h hn hb,fun _=>nL _ _ _⟩
  ·split
   ·split
    ·rename_i q; exact ⟨q,fun _=>nL _ _ _⟩
    ·exact ⟨h,hh⟩
   ·exact ⟨h,hh⟩
theorem PW {r:RepoD} {n w:Str} {b:Int} (h:an r=true) (hh:r.commits ≠ []->r.heads ≠ []) :
  an (cI r n w b).1=true/\((cI r n w b).1.commits ≠ []->(cI r n w b).1.heads ≠ []):=by
 unfold cI;rw [if_pos h];split
 ·exact ⟨h,hh⟩
 ·rename_i q;exact PT h (by omega) (by omega) hh
theorem CK {r:RepoD} {n w:Str} {o b:List FileD} (h:an r=true) (hh:r.commits ≠ []->r.heads ≠ []) :
  an (dy r n w o b).1=true/\((dy r n w o b).1.commits ≠ []->(dy r n w o b).1.heads ≠ []):=by
 unfold dy;split
 ·split
  ·rename_i q; exact ⟨q,fun _=>nL _ _ _⟩
  ·exact ⟨h,hh⟩
 ·exact ⟨h,hh⟩
theorem CE {k:Bool} {r:RepoD} {n w:Str} {c:Int} (h:an r=true) (hh:r.commits ≠ []->r.heads ≠ []) :
  an (ck k r n w c).1=true/\((ck k r n w c).1.commits ≠ []->(ck k r n w c).1.heads ≠ []):=by
 unfold ck;rw [if_pos h];split
 ·exact ⟨h,hh⟩
 ·split
  ·exact CK h hh
  ·exact CK h hh
end Vx
end Go.Proofs.YthgfdbfmnbgkaaaGreatDoor
